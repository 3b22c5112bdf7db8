/- By a program of mine (gen.py): for each function a plain function and the proof that the code computes it. -/
import Derived.Test.YtpiadipmfbjlbaaGreatDoorB9
import Derived.Test.YtpiadipmfbjlbaaGreatDoorFw38
open Option renaming bind_some->jd, some->V, none->U
open Nat renaming le_refl->je
open Bool renaming and_eq_true->jf, true_and->jG, not_true->Jg
open List renaming length_append->jg, length_singleton->jo, getElem_mem->jp, append_assoc->jq, take_succ_eq_append_getElem->js, length_map->ju, length_take->jw, getD_eq_getElem?_getD->jC, take_length->jE, length_replicate->jH, mem_append_left->jJ, mem_append_right->jP, map_append->jQ, not_mem_nil->jT, append_nil->jW, mem_cons->Jc, flatMap_append->Ji, nil_append->Jj, ext_getElem->Jn
open Int renaming toNat_natCast->jr, mul_nonneg->jV, le_refl->Je, mul_le_mul->Jh

namespace Go.Fw
open Go Go.Proofs Go.Proofs.Tryz
open Go.RowKit (Below)
open Ch renaming own->oW,box->oX,grp->oG
open GoT renaming v->oV
open Go.Value renaming slice->oS
set_option maxRecDepth 100000
set_option maxHeartbeats 6400000
variable{n:Nat}{w:World}{cs1 cs2 cs3 cs4 cs5 cs6 cs7 cs8 cs9:List Value}
def qfe(_:Nat)(list:(List qv))(c:Int)(d:Int)(a:Int)(b:Int)(kind:Int)(index:Int):Option (List qv):=(appS list ([(⟨W64 ((W64 (2*c))+a),W64 ((W64 (2*d))+b),kind,index⟩:qv)]:List qv)).bind fun x1=>V x1
theorem qfC{n i w F}{list:(List qv)}{a_from a_to a b kind index S1 g d f}(h:SH i w (oW S1 (list:(List qv)) [oS g d f]::F))  {r:(List qv)}(l:qfe n list a_from a_to a b kind index=V r):RetT prog 179 [oS g d f,vi a_from,vi a_to,vi a,vi b,vi kind,vi index] w i F r:=by
 refine qqm func179 Z (m:=29) Z Z ?_;obtain rfl:=(h.sl 0 Z).2;refine X0 17 Z (r_v (qG qa [0,1,2,3] [.tmp 19,.tmp 23,.tmp 24,.tmp 25] Z Z Z Z Z Z Z Z) Z (qE qa [.tmp 26] _ ([(⟨W64 ((W64 (2*a_from))+a),W64 ((W64 (2*a_to))+b),kind,index⟩:qv)]:List qv) h Z Z Z Z Z Z Z Z Z ⟨(qb6 (⟨W64 ((W64 (2*a_from))+a),W64 ((W64 (2*a_to))+b),kind,index⟩:qv)),G⟩ Z fun _ _ _ h=>?_));obtain⟨_,c,l⟩:=qc l;obtain⟨k,c⟩:=qM c;refine qbM qa 1 h Z (h.sl 0 Z).1 (h.sl 0 Z).2 Z Z Z Z Z Z Z Z Z k c Z fun _ _ _ _ h=>X0 2 Z ?_;obtain rfl:=qb l;replace h:=h.pickT 2 [1] Z;exact qyz qa h ⟨rfl,G⟩
def qa8(i:qY)(g:Int)(h:Int)(index:Int)(i1:Int):Nat->(List qv)->Int->Option ((List qv)×Int)|0,_,_=>U|n+1,b,a=>bif decide (a<=1) then bif (i.Bi==1) then(bif (i.Bp==3) then V true else V ((i.Bp==1)==(i1==a))).bind fun b1=>bif b1 then(qfe n b g h i1 a 1 index).bind fun c=>qa8 i g h index i1 n c (W64 (a+1)) else qa8 i g h index i1 n b (W64 (a+1)) else bif (i.Bi==2) then bif (i1==0) then(qfe n b g h i1 a 1 index).bind fun d=>qa8 i g h index i1 n d (W64 (a+1)) else qa8 i g h index i1 n b (W64 (a+1)) else bif (i.Bi==3) then bif (i1==1) then(qfe n b g h i1 a 1 index).bind fun f=>qa8 i g h index i1 n f (W64 (a+1)) else qa8 i g h index i1 n b (W64 (a+1)) else qa8 i g h index i1 n b (W64 (a+1)) else V (b,a)
def qeD(d:qY)(b:Int)(c:Int)(index:Int):Nat->(List qv)->Int->Option ((List qv)×Int)|0,_,_=>U|n+1,x1,i1=>bif decide (i1<=1) then(qa8 d b c index i1 n x1 0).bind fun(a,_)=>qeD d b c index n a (W64 (i1+1)) else V (x1,i1)
def qlI(n:Nat)(list:(List qv))(c:qY)(a:Int)(b:Int)(index:Int):Option (List qv):=(qeD c a b index n list 0).bind fun(x1,_)=>V x1
theorem qqI{n d w F}{list:(List qv)}{R:qY}{a_from a_to index S1 O l L}(h:SH d w (oW S1 (list:(List qv)) [oS O l L]::F)){cs1}(y:GoT.R d (old d) R cs1){r:(List qv)}(Q:qlI n list R a_from a_to index=V r):RetT prog 175 [oS O l L,oV qY cs1,vi a_from,vi a_to,vi index] w d F r:=by
 obtain⟨I,C,J,k3,rfl,_,_⟩:=qah y;refine qqm func175 Z (m:=55) Z Z ?_;obtain rfl:=(h.sl 0 Z).2;refine zSR (qx h Z Z fun _ a h=>X0 7 Z ?_);obtain⟨P,Q,v⟩:=qc Q;refine qm (rL (fun m e w'=>∃S2 K b D x1 i1,qeD R a_from a_to index m x1 i1=V P/\e=[(0,oS K b D),(2,vi a_from),(3,vi a_to),(4,vi index),(6,vp a),(11,vi i1)]/\SH d w' (oX a (qg7 R I J C k3) 238::oW S2 (x1:List qv) [oS K b D]::F)) n ⟨_,_,_,_,_,_,Q,rfl,h⟩ Z ?_);rintro H _ _ ⟨S2,K,b,D,x1,i1,Q,rfl,h⟩;obtain rfl:=(h.sl 1 Z).2;rcases H with _|H
 ·cases Q
 refine X0 6 Z (qg Z Q ?_ ?_)<;>intro Q
 ·refine X0 7 Z ?_;obtain⟨N,Q,x⟩:=qc Q;refine qm (rL (fun m e w'=>∃u o c k f p,qa8 R a_from a_to index i1 m f p=V N/\e=[(0,oS o c k),(2,vi a_from),(3,vi a_to),(4,vi index),(6,vp a),(11,vi i1),(12,vi p)]/\SH d w' (oX a (qg7 R I J C k3) 238::oW u (f:List qv) [oS o c k]::F)) H ⟨_,_,_,_,_,_,Q,rfl,h⟩ Z ?_);rintro M _ _ ⟨u,o,c,k,f,p,Q,rfl,h⟩;obtain rfl:=(h.sl 1 Z).2;rcases M with _|M
  ·cases Q
  refine X0 6 Z (qg Z Q ?_ ?_)<;>intro Q
  ·refine X1 19 0 h Z (qg Z Q ?_ ?_)<;>intro Q
   ·obtain⟨s,i,_,Q,g⟩:=bindE Q;refine qa1 (fun e w'=>∃b1,s b1=V N/\e=[(0,oS o f.length k),(2,vi a_from),(3,vi a_to),(4,vi index),(6,vp a),(11,vi i1),(12,vi p),(13,.bool b1)]/\SH d w' (oX a (qg7 R I J C k3) 238::oW u (f:List qv) [oS o f.length k]::F)) ?_ ?_
    ·refine X1 5 0 h Z (qk (t:=29) Q Z ?_ ?_)<;>intro Q
     ·refine X0 10 Z ?_;obtain rfl:=qb Q;exact rG ⟨_,g,rfl,h⟩ Z
     refine X1 17 0 h Z ?_;obtain rfl:=qb Q;exact rG ⟨_,g,rfl,h⟩ Z
    rintro _ _ ⟨b1,Q,rfl,h⟩;subst i;refine X0 5 Z (qg Z Q ?_ ?_)<;>intro Q
    ·refine X0 7 Z ?_;replace h:=h.pickT 2 [1,0] Z;obtain⟨_,z,Q⟩:=qc Q;refine qol (cB 179 Z) (qfC h z) Z Z Z Z fun _ _ _ _ h=>X0 8 Z ?_;replace h:=h.pickT 2 [1,0] Z;exact rK ⟨_,_,_,_,_,_,Q,rfl,h⟩ Z
    exact X0 7 Z (rK ⟨_,_,_,_,_,_,Q,rfl,h⟩ Z)
   refine X0 5 Z (qg Z Q ?_ ?_)<;>intro Q
   ·refine X0 10 Z (qg Z Q ?_ ?_)<;>intro Q
    ·refine X0 7 Z ?_;replace h:=h.pickT 2 [1,0] Z;obtain⟨_,A,Q⟩:=qc Q;refine qol (cB 179 Z) (qfC h A) Z Z Z Z fun _ _ _ _ h=>X0 8 Z ?_;replace h:=h.pickT 2 [1,0] Z;exact rK ⟨_,_,_,_,_,_,Q,rfl,h⟩ Z
    exact X0 7 Z (rK ⟨_,_,_,_,_,_,Q,rfl,h⟩ Z)
   refine X0 5 Z (qg Z Q ?_ ?_)<;>intro Q
   ·refine X0 10 Z (qg Z Q ?_ ?_)<;>intro Q
    ·refine X0 7 Z ?_;replace h:=h.pickT 2 [1,0] Z;obtain⟨_,B,Q⟩:=qc Q;refine qol (cB 179 Z) (qfC h B) Z Z Z Z fun _ _ _ _ h=>X0 8 Z ?_;replace h:=h.pickT 2 [1,0] Z;exact rK ⟨_,_,_,_,_,_,Q,rfl,h⟩ Z
    exact X0 7 Z (rK ⟨_,_,_,_,_,_,Q,rfl,h⟩ Z)
   exact X0 6 Z (qb8 Z Z (X0 7 Z (rK ⟨_,_,_,_,_,_,Q,rfl,h⟩ Z)))
  refine qu Z ?_;obtain rfl:=qb Q;replace Q:=x;exact X0 6 Z (rK ⟨_,_,_,_,_,_,Q,rfl,h⟩ Z)
 refine qu Z ?_;obtain rfl:=qb Q;replace Q:=v;refine X0 5 Z ?_;obtain rfl:=qb Q;replace h:=h.pickT 2 [1] Z;exact qyz qa h ⟨rfl,G⟩
def qd1(d:Int)(pin:Int)(a:(List Tl05Place)):Nat->Int->Option (Flow Int Int)|0,_=>U|n+1,i1=>bif decide (i1<(a.length:Int)) then(idx a i1).bind fun b=>bif (b.instance_==d) then(idx a i1).bind fun c=>bif (c.pin==pin) then V (.ret i1) else qd1 d pin a n (W64 (i1+1)) else qd1 d pin a n (W64 (i1+1)) else V (.nxt i1)
def qiD(n:Nat)(d:qd)(b:Int)(pin:Int):Option Int:=(qcq n d).bind fun a=>(qd1 b pin a n 0).bind fun|.ret r=>V r|.nxt _=>V (-1)
theorem qng{d:qd}{a_instance pin}(b:Ro w d cs1){r:Int}(F:qiD n d a_instance pin=V r):RetV prog 176 [oV qd cs1,vi a_instance,vi pin] w r:=by
 obtain⟨_,_,_,_,_,_,rfl,_,_,_⟩:=qaz b;refine zV 34 func176 Z fun h=>zSR (qx h Z Z fun _ _ h=>X1 5 0 h Z (zcL h F (qcj (h.old b)) Z fun g _ S1 z x h F=>X0 7 Z ?_));obtain⟨A,F,a⟩:=qc F;refine qm ?_;replace h:=h.p [0] Z;refine rL (fun m e w'=>∃i1,qd1 a_instance pin g m i1=V A/\e=[(1,vi a_instance),(2,vi pin),(7,oS z g.length x),(8,vi i1)]/\SH w w' [oW S1 (g:List Tl05Place) [oS z g.length x]]) n ⟨_,F,rfl,h⟩ Z ?_;rintro y _ _ ⟨i1,F,rfl,h⟩;rcases y with _|y
 ·cases F
 refine X0 8 Z (qg Z F ?_ ?_)<;>intro F
 ·refine X0 7 Z ?_;obtain⟨_,_,F,c,_,_,_,_,l,p,u,i⟩:=(h.sl 0 Z).1.ix F;obtain rfl:=qb0 u;refine zx l p ⟨c.1,qD c.2.1 (h.sl 0 Z).2⟩ Z (zp1 Z (zc 0 i Z (zp3 Z (qk (t:=24) F Z ?_ ?_))))<;>intro F
  ·refine X0 5 Z ?_;obtain⟨_,_,F,f,_,_,_,_,o,s,v,k⟩:=(h.sl 0 Z).1.ix F;obtain rfl:=qb0 v;refine zx o s ⟨f.1,qD f.2.1 (h.sl 0 Z).2⟩ Z (X0 3 Z (zc 1 k Z (X0 6 Z (qg Z F ?_ ?_))))<;>intro F
   ·refine X0 5 Z ?_;obtain rfl:=qb F;replace F:=a;exact ri h F Z
   exact X0 7 Z (rK ⟨_,F,rfl,h⟩ Z)
  exact X0 9 Z (qb8 Z Z (X0 7 Z (rK ⟨_,F,rfl,h⟩ Z)))
 refine qu Z ?_;obtain rfl:=qb F;replace F:=a;exact X0 4 Z (ri h F Z)
def qcM(net:Int)(a:(List Tl05Place)):Nat->Int->Option (Flow Int Int)|0,_=>U|n+1,i1=>bif decide (i1<(a.length:Int)) then(idx a i1).bind fun b=>bif (b.net==net) then(idx a i1).bind fun c=>bif c.drives then V (.ret i1) else qcM net a n (W64 (i1+1)) else qcM net a n (W64 (i1+1)) else V (.nxt i1)
def qiK(n:Nat)(d:qd)(net:Int):Option Int:=(qcq n d).bind fun a=>(qcM net a n 0).bind fun|.ret r=>V r|.nxt _=>V (-1)
theorem qpF{d:qd}{net}(b:Ro w d cs1){r:Int}(F:qiK n d net=V r):RetV prog 177 [oV qd cs1,vi net] w r:=by
 obtain⟨_,_,_,_,_,_,rfl,_,_,_⟩:=qaz b;refine zV 30 func177 Z fun h=>zSR (qx h Z Z fun _ _ h=>X1 5 0 h Z (zcL h F (qcj (h.old b)) Z fun g _ S1 z x h F=>X0 7 Z ?_));obtain⟨A,F,a⟩:=qc F;refine qm ?_;replace h:=h.p [0] Z;refine rL (fun m e w'=>∃i1,qcM net g m i1=V A/\e=[(1,vi net),(5,oS z g.length x),(6,vi i1)]/\SH w w' [oW S1 (g:List Tl05Place) [oS z g.length x]]) n ⟨_,F,rfl,h⟩ Z ?_;rintro y _ _ ⟨i1,F,rfl,h⟩;rcases y with _|y
 ·cases F
 refine X0 8 Z (qg Z F ?_ ?_)<;>intro F
 ·refine X0 7 Z ?_;obtain⟨_,_,F,c,_,_,_,_,l,p,u,i⟩:=(h.sl 0 Z).1.ix F;obtain rfl:=qb0 u;refine zx l p ⟨c.1,qD c.2.1 (h.sl 0 Z).2⟩ Z (zp1 Z (zc 2 i Z (zp3 Z (qk (t:=22) F Z ?_ ?_))))<;>intro F
  ·refine X0 5 Z ?_;obtain⟨_,_,F,f,_,_,_,_,o,s,v,k⟩:=(h.sl 0 Z).1.ix F;obtain rfl:=qb0 v;refine zx o s ⟨f.1,qD f.2.1 (h.sl 0 Z).2⟩ Z (X0 3 Z (zc 3 k Z (X0 2 Z (qg Z F ?_ ?_))))<;>intro F
   ·refine X0 5 Z ?_;obtain rfl:=qb F;replace F:=a;exact ri h F Z
   exact X0 7 Z (rK ⟨_,F,rfl,h⟩ Z)
  exact X0 7 Z (qb8 Z Z (X0 7 Z (rK ⟨_,F,rfl,h⟩ Z)))
 refine qu Z ?_;obtain rfl:=qb F;replace F:=a;exact X0 4 Z (ri h F Z)
def qcH(a:qf)(i1:Int)(c:qC):Nat->(List qv)->Int->Option ((List qv)×Int)|0,_,_=>U|n+1,d,b=>bif decide (b<(c.Bc.length:Int)) then(idx c.Bc b).bind fun i=>bif decide (i.Bi<=3) then(idx c.Bc b).bind fun k=>(idx c.Bc b).bind fun l=>(idx c.Bc b).bind fun m=>(qiD n (⟨a.Aa.Ab,a.Aa.As,a.Aa.Ak⟩:qd) i1 l.Bl).bind fun f=>(qiD n (⟨a.Aa.Ab,a.Aa.As,a.Aa.Ak⟩:qd) i1 m.To).bind fun g=>(qlI n d k f g b).bind fun h=>qcH a i1 c n h (W64 (b+1)) else qcH a i1 c n d (W64 (b+1)) else V (d,b)
def qdi(r4:Int)(b:(List Int)):Nat->(List qv)->Int->Option ((List qv)×Int)|0,_,_=>U|n+1,c,a=>bif decide (a<(b.length:Int)) then(idx b a).bind fun g=>(qfe n c r4 g 0 0 2 a).bind fun d=>(idx b a).bind fun h=>(qfe n d r4 h 1 1 2 a).bind fun f=>qdi r4 b n f (W64 (a+1)) else V (c,a)
def qdk(a:qf):Nat->(List qv)->Int->Option ((List qv)×Int)|0,_,_=>U|n+1,x3,b=>bif decide (b<(a.Aa.As.length:Int)) then(qiK n (⟨a.Aa.Ab,a.Aa.As,a.Aa.Ak⟩:qd) b).bind fun r4=>(qgG n (⟨a.Aa.Ab,a.Aa.As,a.Aa.Ak⟩:qd) b).bind fun c=>(qdi r4 c n x3 0).bind fun(d,_)=>qdk a n d (W64 (b+1)) else V (x3,b)
def qdo(a:qf):Nat->(List qv)->Int->Option ((List qv)×Int)|0,_,_=>U|n+1,x1,i1=>bif decide (i1<(a.Aa.Ab.length:Int)) then(idx a.Aa.Ab i1).bind fun c=>(idx a.Au.Ay c.Bu).bind fun d=>(qcH a i1 d n x1 0).bind fun(b,_)=>qdo a n b (W64 (i1+1)) else V (x1,i1)
def qfp(n:Nat)(a:qf):Option (List qv):=(qdo a n ([]:List qv) 0).bind fun(x1,_)=>(qdk a n x1 0).bind fun(x3,_)=>V x3
theorem qhp{a:qf}(W:Ro w a cs1){r:(List qv)}(F:qfp n a=V r):RetV prog 125 [oV qf cs1] w r:=by
 obtain⟨p1,k1,x,u,y,k3,z,v,p5,k5,rfl,s1,s2,N,O,_⟩:=qac W;refine zV 105 func125 Z fun h=>zSR (qx h Z Z fun _ c h=>X0 4 Z (qE qa [] _ ([]:List qv) h Z Z Z Z Z Z Z Z Z trivial Z fun _ _ _ h=>X1 6 1 h Z (qp qa h Z Z Z fun _ b h=>zs 0 h Z fun _ h=>X0 6 Z ?_)));obtain⟨o1,F,Q⟩:=qc F;refine qm (rL (fun m e w'=>∃S2 p7 i k6 x1 i1,qdo a m x1 i1=V o1/\e=[(1,vp c),(3,oS p7 i k6),(4,vp b),(5,vi i1)]/\SH w w' [oX b (qaQ a.Aa x y z u k3 v) 50,oW S2 (x1:List qv) [oS p7 i k6],oX c (qaY a p1 x y z p5 k1 u k3 v k5) 53]) n ⟨_,_,_,_,_,_,F,rfl,h⟩ Z ?_);rintro m1 _ _ ⟨S2,p7,i,k6,x1,i1,F,rfl,h⟩;obtain rfl:=(h.sl 1 Z).2;rcases m1 with _|m1
 ·cases F
 refine X1 9 0 h Z (qg Z F ?_ ?_)<;>intro F
 ·refine X0 4 Z (rD (Y1 3 2 h Z ?_));refine Y1 2 0 h Z ?_;refine zd1 Z ?_;obtain⟨_,_,F,a7,_,_,_,_,b7,c5,d4,X⟩:=s2.ix F;obtain⟨_,_,rfl,_⟩:=qV d4;refine zdxe b7 c5 a7 Z (zd1 Z (zdc 1 (X.below h.below) Z ?_));obtain⟨y2,_,F,a8,_,_,_,_,b8,c6,d5,Y⟩:=s1.ix F;obtain⟨_,_,p10,k9,_,_,rfl,_,P,_⟩:=qag d5;refine zdxe b8 c6 a8 Z (zd1 Z (zdc 3 (Y.below h.below) Z (zd1 Z (dN h fun _ h=>X0 4 Z ?_))));obtain⟨o2,F,R⟩:=qc F;refine qm (rL (fun m e w'=>∃S3 p k d x2 i2,qcH a i1 y2 m x2 i2=V o2/\e=[(1,vp c),(3,oS p k d),(4,vp b),(5,vi i1),(6,oS p10 y2.Bc.length k9),(7,vi i2)]/\SH w w' [oX b (qaQ a.Aa x y z u k3 v) 50,oW S3 (x2:List qv) [oS p k d],oX c (qaY a p1 x y z p5 k1 u k3 v k5) 53]) m1 ⟨_,_,_,_,_,_,F,rfl,h⟩ Z ?_);rintro m2 _ _ ⟨S3,p,k,d,x2,i2,F,rfl,h⟩;obtain rfl:=(h.sl 1 Z).2;rcases m2 with _|m2
  ·cases F
  refine X0 8 Z (qg Z F ?_ ?_)<;>intro F
  ·refine X0 7 Z ?_;obtain⟨_,_,F,a9,_,_,_,_,b9,c7,d6,a3⟩:=P.ix F;obtain⟨_,_,_,_,rfl,_,_⟩:=qah d6;refine zxe b9 c7 a9 Z (zp1 Z (zc 0 (a3.below h.below) Z (X0 2 Z (qg Z F ?_ ?_))))<;>intro F
   ·refine rA [] [0] h Z fun _ h=>M0 7 [0,1,2] (h.p [0] Z) Z ?_;obtain⟨y4,_,F,b4,_,_,_,_,c0,c8,d7,a4⟩:=P.ix F;obtain⟨_,_,_,_,rfl,s12,s13⟩:=qah d7;refine Ae 3 15 c0 c8 b4 (h.p [0] Z) Z (Al 4 31 0 a4 (h.p [0] Z) Z (M1 511 [5,6,7,8] 0 (h.p [0] Z) Z ?_));obtain⟨_,_,F,b5,_,_,_,_,c1,c9,d8,a5⟩:=P.ix F;obtain⟨_,_,_,_,rfl,_,_⟩:=qah d8;refine Ae 9 1023 c1 c9 b5 (h.p [0] Z) Z (M0 2047 [10] (h.p [0] Z) Z (Al 11 4095 1 a5 (h.p [0] Z) Z (M1 126975 [13,14,15,16] 0 (h.p [0] Z) Z ?_)));obtain⟨_,_,F,b6,_,_,_,_,c2,d0,d9,a6⟩:=P.ix F;obtain⟨_,_,_,_,rfl,_,_⟩:=qah d9;refine Ae 17 258047 c2 d0 b6 (h.p [0] Z) Z (M0 520191 [18] (h.p [0] Z) Z (Al 19 1044479 2 a6 (h.p [0] Z) Z (M0 3141631 [21] (h.p [0] Z) Z (Ao 12 3145727 Z (zcI h F (qng (qav _ (h.oldS s2) (h.oldS N) (h.oldS O))) Z fun _ _ h F=>Ag (h.p [0] Z) (Ao 20 4194303 Z (zcI h F (qng (qav _ (h.oldS s2) (h.oldS N) (h.oldS O))) Z fun _ _ h F=>Ag (h.p [0] Z) (Ao 22 8388607 Z ?_))))))));replace h:=h.p [1,0,2] Z;obtain⟨_,e2,F⟩:=qc F;refine qol (cB 175 Z) (qqI h (qfS y4 s12 s13) e2) Z Z Z Z fun _ _ _ _ h=>G0 16777215 [23] (h.p [1] Z) Z (Ad (X0 6 Z ?_));replace h:=h.p [1,0,2] Z;exact rK ⟨_,_,_,_,_,_,F,rfl,h⟩ Z
   exact X0 7 Z (rK ⟨_,_,_,_,_,_,F,rfl,h⟩ Z)
  refine qu Z ?_;obtain rfl:=qb F;replace F:=R;exact X0 6 Z (rK ⟨_,_,_,_,_,_,F,rfl,h⟩ Z)
 refine qu Z ?_;obtain rfl:=qb F;replace F:=Q;refine X0 5 Z ?_;obtain⟨o3,F,S⟩:=qc F;refine qm ?_;replace h:=h.p [0,1] Z;refine rL (fun m e w'=>∃S5 s l f x3 L,qdk a m x3 L=V o3/\e=[(3,oS s l f),(4,vp b),(8,vi L)]/\SH w w' [oX b (qaQ a.Aa x y z u k3 v) 50,oW S5 (x3:List qv) [oS s l f]]) n ⟨_,_,_,_,_,_,F,rfl,h⟩ Z ?_;rintro m3 _ _ ⟨S5,s,l,f,x3,L,F,rfl,h⟩;obtain rfl:=(h.sl 1 Z).2;rcases m3 with _|m3
 ·cases F
 refine X1 9 0 h Z (qg Z F ?_ ?_)<;>intro F
 ·refine X1 7 0 h Z (zcI h F (qpF (qav _ (h.oldS s2) (h.oldS N) (h.oldS O))) Z fun r4 _ h F=>X1 6 0 h Z (zcL h F (qjq (qav _ (h.oldS s2) (h.oldS N) (h.oldS O))) Z fun M _ S6 K J h F=>X0 6 Z ?_));obtain⟨o4,F,T⟩:=qc F;refine qm (rL (fun m e w'=>∃S7 t o g x4 i4,qdi r4 M m x4 i4=V o4/\e=[(3,oS t o g),(4,vp b),(8,vi L),(9,vi r4),(10,oS K M.length J),(11,vi i4)]/\SH w w' [oW S6 (M:List Int) [oS K M.length J],oX b (qaQ a.Aa x y z u k3 v) 50,oW S7 (x4:List qv) [oS t o g]]) m3 ⟨_,_,_,_,_,_,F,rfl,h⟩ Z ?_);rintro m4 _ _ ⟨S7,t,o,g,x4,i4,F,rfl,h⟩;obtain rfl:=(h.sl 2 Z).2;rcases m4 with _|m4
  ·cases F
  refine X0 8 Z (qg Z F ?_ ?_)<;>intro F
  ·refine X0 9 Z ?_;obtain⟨_,_,F,C,_,_,_,_,c3,d1,rfl,A⟩:=(h.sl 0 Z).1.ix F;refine zx c3 d1 ⟨C.1,qD C.2.1 (h.sl 0 Z).2⟩ Z (zc 0 A Z (zp1 Z ?_));replace h:=h.p [2,0,1] Z;obtain⟨_,H,F⟩:=qc F;refine qol (cB 179 Z) (qfC h H) Z Z Z Z fun _ _ _ _ h=>X0 7 Z ?_;obtain⟨_,_,F,D,_,_,_,_,c4,d3,rfl,B⟩:=(h.sl 1 Z).1.ix F;refine zx c4 d3 ⟨D.1,qD D.2.1 (h.sl 1 Z).2⟩ Z (zc 0 B Z (zp1 Z ?_));obtain⟨_,I,F⟩:=qc F;refine qol (cB 179 Z) (qfC h I) Z Z Z Z fun _ _ _ _ h=>X0 8 Z ?_;replace h:=h.p [1,2,0] Z;exact rK ⟨_,_,_,_,_,_,F,rfl,h⟩ Z
  refine qu Z ?_;obtain rfl:=qb F;replace F:=T;refine X0 6 Z ?_;replace h:=h.p [1,2] Z;exact rK ⟨_,_,_,_,_,_,F,rfl,h⟩ Z
 refine qu Z ?_;obtain rfl:=qb F;replace F:=S;refine X0 5 Z ?_;obtain rfl:=qb F;exact rO 1 h Z ⟨rfl,G⟩
def qch(list:(List Int))(f:Int):Nat->Int->Option (Flow Bool Int)|0,_=>U|n+1,i1=>bif decide (i1<(list.length:Int)) then(idx list i1).bind fun b=>(qaq n b 0 (W64 (f-1))).bind fun a=>bif (!a) then V (.ret false) else bif decide (i1 > 0) then(idx list (W64 (i1-1))).bind fun c=>(idx list i1).bind fun d=>bif decide (c>=d) then V (.ret false) else qch list f n (W64 (i1+1)) else qch list f n (W64 (i1+1)) else V (.nxt i1)
def qja(n:Nat)(list:(List Int))(a:Int):Option Bool:=(qch list a n 0).bind fun|.ret r=>V r|.nxt _=>V true
theorem qpD{list:(List Int)}{a_n}(b:Ro w list cs1){r:Bool}(F:qja n list a_n=V r):RetV prog 273 [oV (List Int) cs1,vi a_n] w r:=by
 obtain⟨C,A,rfl,y⟩:=b;refine zV 36 func273 Z fun h=>X0 9 Z ?_;obtain⟨B,F,a⟩:=qc F;refine qm (rL (fun m e w'=>∃i1,qch list a_n m i1=V B/\e=[(0,oS C list.length A),(1,vi a_n),(5,vi i1)]/\SH w w' []) n ⟨_,F,rfl,h⟩ Z ?_);rintro z _ _ ⟨i1,F,rfl,h⟩;rcases z with _|z
 ·cases F
 refine X0 8 Z (qg Z F ?_ ?_)<;>intro F
 ·refine X0 4 Z (rD (zd2 Z ?_));obtain⟨_,_,F,g,_,_,_,_,l,s,rfl,c⟩:=y.ix F;refine zdxe l s g Z (zdc 0 (c.below h.below) Z (zd2 Z ?_));obtain⟨D,x,F⟩:=qc F;refine qaK D (vsB _) (cB 43 Z) (fun _ H=>qad  x) Z Z Z Z (zd2 Z (qaR (t:=20) F Z ?_ ?_))<;>intro F
  ·refine Y0 15 Z (dN h fun _ h=>qcl Z Z (X0 4 Z ?_));obtain rfl:=qb F;replace F:=a;exact rb h F Z
  refine Y0 6 Z (qaR (t:=23) F Z ?_ ?_)<;>intro F
  ·refine Y0 7 Z ?_;obtain⟨_,_,F,i,_,_,_,_,o,u,rfl,d⟩:=y.ix F;refine zdxe o u i Z (Y0 1 Z (zdc 0 (d.below h.below) Z (Y0 5 Z ?_)));obtain⟨_,_,F,k,_,_,_,_,p,v,rfl,f⟩:=y.ix F;refine zdxe p v k Z (Y0 1 Z (zdc 0 (f.below h.below) Z (Y0 5 Z (dN h fun _ h=>qg Z F ?_ ?_))))<;>intro F
   ·refine X0 4 Z ?_;obtain rfl:=qb F;replace F:=a;exact rb h F Z
   exact X0 7 Z (rK ⟨_,F,rfl,h⟩ Z)
  exact Y0 13 Z (dN h fun _ h=>qb8 Z Z (X0 7 Z (rK ⟨_,F,rfl,h⟩ Z)))
 refine qu Z ?_;obtain rfl:=qb F;replace F:=a;exact X0 4 Z (rb h F Z)
def qhn(n:Nat)(b:qf)(f:(List Int)):Option Int:=(qhx n b).bind fun a=>bif (!a) then V 1 else(qfp n b).bind fun c=>(qja n f (c.length:Int)).bind fun d=>bif (!d) then V 2 else V 0
theorem qnk{b:qf}{f:(List Int)}(a:Ro w b cs1)(c:Ro w f cs2){r:Int}(F:qhn n b f=V r):RetV prog 233 [oV qf cs1,oV (List Int) cs2] w r:=by
 obtain⟨_,_,_,_,_,_,_,_,_,_,rfl,_,_,_,_,_⟩:=qac a;obtain⟨_,_,rfl,d⟩:=c;refine zV 14 func233 Z fun h=>zSR (qx h Z Z fun _ _ h=>X1 6 0 h Z (zcB h F (qnl (h.old a)) Z fun _ _ h F=>X0 2 Z (qg Z F ?_ ?_)))<;>intro F
 ·exact X0 4 Z (ri h F Z)
 refine X1 6 0 h Z (zcL h F (qhp (h.old a)) Z fun _ _ _ _ _ h F=>zp1 Z (zcB h F (qpD ⟨_,_,rfl,(h.oldS d)⟩) Z fun _ _ h F=>X0 2 Z (qg Z F ?_ ?_)))<;>intro F
 ·exact X0 4 Z (ri h F Z)
 exact X0 5 Z (ri h F Z)
def qfc(_:Nat)(a:qY):Option (List qP):=bif (a.Bi==2) then V ([(⟨0,0⟩:qP),(⟨0,1⟩:qP)]:List qP) else bif (a.Bi==3) then V ([(⟨1,0⟩:qP),(⟨1,1⟩:qP)]:List qP) else bif (a.Bi != 1) then V [] else bif (a.Bp==1) then V ([(⟨0,0⟩:qP),(⟨1,1⟩:qP)]:List qP) else bif (a.Bp==2) then V ([(⟨0,1⟩:qP),(⟨1,0⟩:qP)]:List qP) else V ([(⟨0,0⟩:qP),(⟨0,1⟩:qP),(⟨1,0⟩:qP),(⟨1,1⟩:qP)]:List qP)
theorem qml{a:qY}(b:Ro w a cs1){r:(List qP)}(F:qfc n a=V r):RetV prog 259 [oV qY cs1] w r:=by
 obtain⟨_,_,_,_,rfl,_,_⟩:=qah b;refine zV 44 func259 Z fun h=>zSR (qx h Z Z fun _ _ h=>X0 4 Z (r_v (qgl qa [0,1] [.const (vi (0)),.const (vi (0))] Z Z Z Z Z Z Z Z Z) Z (r_v (qgl qa [0,1] [.const (vi (1)),.const (vi (1))] Z Z Z Z Z Z Z Z Z) Z (qE qa [.tmp 5,.tmp 6] _ ([(⟨0,0⟩:qP),(⟨1,1⟩:qP)]:List qP) h Z Z Z Z Z Z Z Z Z ⟨(qc7 (⟨0,0⟩:qP)),(qc7 (⟨1,1⟩:qP)),G⟩ Z fun _ _ _ h=>X0 4 Z (r_v (qgl qa [0,1] [.const (vi (0)),.const (vi (1))] Z Z Z Z Z Z Z Z Z) Z (r_v (qgl qa [0,1] [.const (vi (1)),.const (vi (0))] Z Z Z Z Z Z Z Z Z) Z (qE qa [.tmp 8,.tmp 9] _ ([(⟨0,1⟩:qP),(⟨1,0⟩:qP)]:List qP) h Z Z Z Z Z Z Z Z Z ⟨(qc7 (⟨0,1⟩:qP)),(qc7 (⟨1,0⟩:qP)),G⟩ Z fun _ _ _ h=>X1 11 2 h Z (qg Z F ?_ ?_))))))))<;>intro F
 ·refine zSR (r_v (qgl qa [0,1] [.const (vi (0)),.const (vi (0))] Z Z Z Z Z Z Z Z Z) Z (r_v (qgl qa [0,1] [.const (vi (0)),.const (vi (1))] Z Z Z Z Z Z Z Z Z) Z (qE qa [.tmp 15,.tmp 16] _ ([(⟨0,0⟩:qP),(⟨0,1⟩:qP)]:List qP) h Z Z Z Z Z Z Z Z Z ⟨(qc7 (⟨0,0⟩:qP)),(qc7 (⟨0,1⟩:qP)),G⟩ Z fun _ _ _ h=>X0 2 Z ?_)));obtain rfl:=qb F;exact rO 0 h Z ⟨rfl,G⟩
 refine X1 7 2 h Z (qg Z F ?_ ?_)<;>intro F
 ·refine zSR (r_v (qgl qa [0,1] [.const (vi (1)),.const (vi (0))] Z Z Z Z Z Z Z Z Z) Z (r_v (qgl qa [0,1] [.const (vi (1)),.const (vi (1))] Z Z Z Z Z Z Z Z Z) Z (qE qa [.tmp 22,.tmp 23] _ ([(⟨1,0⟩:qP),(⟨1,1⟩:qP)]:List qP) h Z Z Z Z Z Z Z Z Z ⟨(qc7 (⟨1,0⟩:qP)),(qc7 (⟨1,1⟩:qP)),G⟩ Z fun _ _ _ h=>X0 2 Z ?_)));obtain rfl:=qb F;exact rO 0 h Z ⟨rfl,G⟩
 refine X1 7 2 h Z (qg Z F ?_ ?_)<;>intro F
 ·refine X0 4 Z ?_;obtain rfl:=qb F;exact qU qa (ρ:=(List qP)) [oV (List qP) [oS U 0 0]] h ⟨rfl,G⟩ (PV.done h (qaa qhe))
 refine X1 7 2 h Z (qg Z F ?_ ?_)<;>intro F
 ·refine X0 5 Z ?_;obtain rfl:=qb F;exact rO 1 h Z ⟨rfl,G⟩
 refine X1 7 2 h Z (qg Z F ?_ ?_)<;>intro F
 ·refine X0 5 Z ?_;obtain rfl:=qb F;exact rO 0 h Z ⟨rfl,G⟩
 refine X0 4 Z (r_v (qgl qa [0,1] [.const (vi (0)),.const (vi (0))] Z Z Z Z Z Z Z Z Z) Z (r_v (qgl qa [0,1] [.const (vi (0)),.const (vi (1))] Z Z Z Z Z Z Z Z Z) Z (r_v (qgl qa [0,1] [.const (vi (1)),.const (vi (0))] Z Z Z Z Z Z Z Z Z) Z (r_v (qgl qa [0,1] [.const (vi (1)),.const (vi (1))] Z Z Z Z Z Z Z Z Z) Z (qE qa [.tmp 39,.tmp 40,.tmp 41,.tmp 42] _ ([(⟨0,0⟩:qP),(⟨0,1⟩:qP),(⟨1,0⟩:qP),(⟨1,1⟩:qP)]:List qP) h Z Z Z Z Z Z Z Z Z ⟨(qc7 (⟨0,0⟩:qP)),(qc7 (⟨0,1⟩:qP)),(qc7 (⟨1,0⟩:qP)),(qc7 (⟨1,1⟩:qP)),G⟩ Z fun _ _ _ h=>X0 2 Z ?_)))));obtain rfl:=qb F;exact rO 0 h Z ⟨rfl,G⟩
def qbs(first:Int)(i1:Int)(c:qY)(b:(List qP)):Nat->(List qv)->Int->Option ((List qv)×Int)|0,_,_=>U|n+1,d,a=>bif decide (a<(b.length:Int)) then(idx b a).bind fun f=>(appS d ([(⟨W64 ((W64 (2*(W64 (first+c.Bl))))+f.e0),W64 ((W64 (2*(W64 (first+c.To))))+f.e1),1,i1⟩:qv)]:List qv)).bind fun x3=>qbs first i1 c b n x3 (W64 (a+1)) else V (d,a)
def qbj(first:Int)(a:qC):Nat->(List qv)->Int->Option ((List qv)×Int)|0,_,_=>U|n+1,x1,i1=>bif decide (i1<(a.Bc.length:Int)) then(idx a.Bc i1).bind fun b=>(qfc n b).bind fun c=>(qbs first i1 b c n x1 0).bind fun(d,_)=>qbj first a n d (W64 (i1+1)) else V (x1,i1)
def qfo(n:Nat)(b:qf)(x:qt)(first:Int):Option (List qv):=(idx b.Au.Ay x.Bu).bind fun a=>(qbj first a n ([]:List qv) 0).bind fun(x1,_)=>V x1
theorem qmo{b:qf}{x:qt}{first}(B:Ro w b cs1)(C:Ro w x cs2){r:(List qv)}(F:qfo n b x first=V r):RetV prog 207 [oV qf cs1,oV qt cs2,vi first] w r:=by
 obtain⟨_,_,_,_,_,_,_,_,_,_,rfl,s1,_,_,_,_⟩:=qac B;obtain⟨_,_,rfl,_⟩:=qV C;refine zV 57 func207 Z fun h=>zSR (qx h Z Z fun _ _ h=>qx h Z Z fun _ _ h=>X2 14 1 0 h Z ?_);obtain⟨v,_,F,J,_,_,_,_,L,O,R,D⟩:=s1.ix F;obtain⟨_,_,p8,k8,_,_,rfl,_,s8,_⟩:=qag R;refine zxe L O J Z (zp1 Z (zc 3 (D.below h.below) Z (X0 3 Z ?_)));replace h:=h.nil (α:=qv);obtain⟨o1,F,z⟩:=qc F;refine qm ?_;replace h:=h.p [0] Z;refine rL (fun m e w'=>∃S1 i f c x1 i1,qbj first v m x1 i1=V o1/\e=[(2,vi first),(7,oS i f c),(19,oS p8 v.Bc.length k8),(20,vi (v.Bc.length:Int)),(21,vi i1)]/\SH w w' [oW S1 (x1:List qv) [oS i f c]]) n ⟨_,_,_,_,_,_,F,rfl,h⟩ Z ?_;rintro m1 _ _ ⟨S1,i,f,c,x1,i1,F,rfl,h⟩;obtain rfl:=(h.sl 0 Z).2;rcases m1 with _|m1
 ·cases F
 refine X0 5 Z (qg Z F ?_ ?_)<;>intro F
 ·refine X0 6 Z ?_;obtain⟨l,_,F,K,_,_,_,_,M,P,S,H⟩:=s8.ix F;obtain⟨p11,X,p12,Y,rfl,s10,s11⟩:=qah S;refine zxe M P K Z (zc 0 (H.below h.below) Z (qp qa h Z Z Z fun _ o h=>zp1 Z (zs 0 h Z fun _ h=>X1 4 0 h Z (zcL h F (qml (qfS l (h.oldS s10) (h.oldS s11))) Z fun u _ S2 t s h F=>X0 3 Z ?_))));obtain⟨o2,F,A⟩:=qc F;refine qm (rL (fun m e w'=>∃S3 k g d x2 W,qbs first i1 l u m x2 W=V o2/\e=[(2,vi first),(7,oS k g d),(8,vi i1),(9,vp o),(19,oS p8 v.Bc.length k8),(20,vi (v.Bc.length:Int)),(21,vi i1),(27,oS t u.length s),(28,vi (u.length:Int)),(29,vi W)]/\SH w w' [oW S2 (u:List qP) [oS t u.length s],oX o (qg7 l p11 p12 X Y) 238,oW S3 (x2:List qv) [oS k g d]]) m1 ⟨_,_,_,_,_,_,F,rfl,h⟩ Z ?_);rintro m2 _ _ ⟨S3,k,g,d,x2,W,F,rfl,h⟩;obtain rfl:=(h.sl 2 Z).2;rcases m2 with _|m2
  ·cases F
  refine X0 5 Z (qg Z F ?_ ?_)<;>intro F
  ·refine zKSBSR ?_;obtain⟨y,_,F,p,_,_,_,_,N,Q,T,I⟩:=(h.sl 0 Z).1.ix F;obtain rfl:=qtm T;refine zx N Q ⟨p.1,qD p.2.1 (h.sl 0 Z).2⟩ Z (zc 0 I Z (qp qa h Z Z Z fun _ _ h=>zs 0 h Z fun _ h=>X1 8 2 h Z (r_v (qAa (iv:=0) qa Z Z (by decide) ⟨rfl,rfl⟩ Z Z) Z (X2 7 0 2 h Z (r_v (qAa (iv:=1) qa Z Z (by decide) ⟨rfl,rfl⟩ Z Z) Z (X1 3 0 h Z (r_v (qG qa [0,1,2,3] [.tmp 41,.tmp 49,.const (vi (1)),.tmp 50] Z Z Z Z Z Z Z Z) Z (qE qa [.tmp 51] _ ([(⟨W64 ((W64 (2*(W64 (first+l.Bl))))+y.e0),W64 ((W64 (2*(W64 (first+l.To))))+y.e1),1,i1⟩:qv)]:List qv) h Z Z Z Z Z Z Z Z Z ⟨(qb6 (⟨W64 ((W64 (2*(W64 (first+l.Bl))))+y.e0),W64 ((W64 (2*(W64 (first+l.To))))+y.e1),1,i1⟩:qv)),G⟩ Z fun _ _ _ h=>?_))))))));obtain⟨_,a,F⟩:=qc F;obtain⟨g1,a⟩:=qM a;refine qbM qa 4 h Z (h.sl 0 Z).1 (h.sl 0 Z).2 Z Z Z Z Z Z Z Z Z g1 a Z fun _ _ _ _ h=>X0 7 Z ?_;replace h:=h.p [2,3,4] Z;exact rK ⟨_,_,_,_,_,_,F,rfl,h⟩ Z
  refine qu Z ?_;obtain rfl:=qb F;replace F:=A;refine X0 5 Z ?_;replace h:=h.p [2] Z;exact rK ⟨_,_,_,_,_,_,F,rfl,h⟩ Z
 refine qu Z ?_;obtain rfl:=qb F;replace F:=z;refine X0 5 Z ?_;obtain rfl:=qb F;exact rO 0 h Z ⟨rfl,G⟩
def qdp(_:Nat)(s:(List Int)):Option (List Int):=appS ([]:List Int) s
theorem qeO{s:(List Int)}(b:Ro w s cs1){r:(List Int)}(F:qdp n s=V r):RetV prog 86 [oV (List Int) cs1] w r:=by
 obtain⟨p,k,rfl,c⟩:=b;obtain⟨d,i⟩:=qM (show appS ([]:List Int) s=V r from F);cases p with
 |none=>
  obtain rfl:=qxE c;obtain rfl:[]=r:=i;exact zV 8 func86 Z fun h=>X0 8 Z (r_v (quM qa Z Z Z Z Z) Z (qaj (qcl Z Z (X0 4 Z (qU qa (ρ:=(List Int)) [oV (List Int) [oS U 0 0]] h ⟨rfl,G⟩ (PV.done h (qaa qhe)))))))
 |some a=>
  refine zV 8 func86 Z fun h=>X0 8 Z (r_v (quM qa Z Z Z Z Z) Z (qaj (qb8 Z Z (zKSR (qE qa [] _ ([]:List Int) h Z Z Z Z Z Z Z Z Z trivial Z fun _ _ _ h=>zp1 Z (qwk qa 0 h Z (h.oldS c) Z Z Z Z Z Z Z Z Z Z d Z fun _ g f _ h=>?_))))));rw[i] at h;exact X0 2 Z (qU qa (ρ:=(List Int)) [oV (List Int) [oS g (([]:List Int).length+s.length) f]] h ⟨rfl,G⟩ (PV.done h (qaa (qao 0 h Z))))
def qa3(net:Int)(a:(List Tplace)):Nat->(List Int)->Int->Option ((List Int)×Int)|0,_,_=>U|n+1,x1,i1=>bif decide (i1<(a.length:Int)) then(idx a i1).bind fun b=>bif (b.net==net) then bif (!b.drives) then(appS x1 ([i1]:List Int)).bind fun c=>qa3 net a n c (W64 (i1+1)) else qa3 net a n x1 (W64 (i1+1)) else qa3 net a n x1 (W64 (i1+1)) else V (x1,i1)
def qgT(n:Nat)(d:qd)(net:Int):Option (List Int):=(qcy n d).bind fun a=>(qa3 net a n ([]:List Int) 0).bind fun(x1,_)=>V x1
theorem qnC{d:qd}{net}(c:Ro w d cs1){r:(List Int)}(F:qgT n d net=V r):RetV prog 260 [oV qd cs1,vi net] w r:=by
 obtain⟨_,_,_,_,_,_,rfl,_,_,_⟩:=qaz c;refine zV 31 func260 Z fun h=>zSR (qx h Z Z fun _ _ h=>X1 10 0 h Z (zcL h F (qeM (h.old c)) Z fun g _ S1 y v h F=>X0 3 Z ?_));replace h:=h.nil (α:=Int);obtain⟨A,F,i⟩:=qc F;refine qm ?_;replace h:=h.p [0,1] Z;refine rL (fun m e w'=>∃S2 u b s x1 i1,qa3 net g m x1 i1=V A/\e=[(1,vi net),(5,oS u b s),(9,oS y g.length v),(10,vi (g.length:Int)),(11,vi i1)]/\SH w w' [oW S2 (x1:List Int) [oS u b s],oW S1 (g:List Tplace) [oS y g.length v]]) n ⟨_,_,_,_,_,_,F,rfl,h⟩ Z ?_;rintro x _ _ ⟨S2,u,b,s,x1,i1,F,rfl,h⟩;obtain rfl:=(h.sl 0 Z).2;rcases x with _|x
 ·cases F
 refine X0 5 Z (qg Z F ?_ ?_)<;>intro F
 ·refine X0 6 Z ?_;obtain⟨_,_,F,f,_,_,_,_,l,o,p,k⟩:=(h.sl 1 Z).1.ix F;obtain rfl:=qg3 p;refine zx l o ⟨f.1,qD f.2.1 (h.sl 1 Z).2⟩ Z (zc 0 k Z (qp qa h Z Z Z fun _ _ h=>zp1 Z (zs 0 h Z fun _ h=>X1 8 0 h Z (qk (t:=20) F Z ?_ ?_))))<;>intro F
  ·refine X1 8 0 h Z (qg Z F ?_ ?_)<;>intro F
   ·refine X0 3 Z (qE qa [.tmp 26] _ ([i1]:List Int) h Z Z Z Z Z Z Z Z Z ⟨rfl,G⟩ Z fun _ _ _ h=>?_);obtain⟨_,a,F⟩:=qc F;obtain⟨z,a⟩:=qM a;refine qbM qa 2 h Z (h.sl 0 Z).1 (h.sl 0 Z).2 Z Z Z Z Z Z Z Z Z z a Z fun _ _ _ _ h=>X0 7 Z ?_;replace h:=h.p [2,3] Z;exact rK ⟨_,_,_,_,_,_,F,rfl,h⟩ Z
   refine X0 6 Z ?_;replace h:=h.p [1,2] Z;exact rK ⟨_,_,_,_,_,_,F,rfl,h⟩ Z
  refine X0 5 Z (qb8 Z Z (X0 6 Z ?_));replace h:=h.p [1,2] Z;exact rK ⟨_,_,_,_,_,_,F,rfl,h⟩ Z
 refine qu Z ?_;obtain rfl:=qb F;replace F:=i;refine X0 5 Z ?_;obtain rfl:=qb F;exact rO 0 h Z ⟨rfl,G⟩
def qgN(_:Nat)(d:qd)(l:qn)(p:Tplace):Option Int:=bif decide (p.instance_<0) then V 0 else(idx d.Ab p.instance_).bind fun a=>(idx l.Ay a.Bu).bind fun b=>(idx b.Bh p.pin).bind fun c=>V c.Bv
theorem qnM{d:qd}{l:qn}{p:Tplace}(a:Ro w d cs1)(b:Ro w l cs2)(c:Ro w p cs3){r:Int}(F:qgN n d l p=V r):RetV prog 261 [oV qd cs1,oV qn cs2,oV Tplace cs3] w r:=by
 obtain⟨_,_,_,_,_,_,rfl,C,_,_⟩:=qaz a;obtain⟨_,_,rfl,D⟩:=qbF b;obtain rfl:=qg3 c;refine zV 27 func261 Z fun h=>zSR (qx h Z Z fun _ _ h=>qx h Z Z fun _ _ h=>qx h Z Z fun _ _ h=>X1 9 0 h Z (qg Z F ?_ ?_))<;>intro F
 ·exact X0 4 Z (ri h F Z)
 refine zKS (rD (Y1 2 1 h Z ?_));refine Y1 2 2 h Z ?_;refine Y1 2 0 h Z ?_;obtain⟨_,_,F,k,_,_,_,_,s,v,z,f⟩:=C.ix F;obtain⟨_,_,rfl,_⟩:=qV z;refine zdxe s v k Z (zd1 Z (zdc 1 (f.below h.below) Z ?_));obtain⟨_,_,F,m,_,_,_,_,t,x,A,g⟩:=D.ix F;obtain⟨_,_,_,_,_,_,rfl,H,_,_⟩:=qag A;refine zdxe t x m Z (zd1 Z (zdc 2 (g.below h.below) Z (Y1 2 0 h Z ?_)));obtain⟨_,_,F,o,_,_,_,_,u,y,B,i⟩:=H.ix F;obtain rfl:=qbx B;exact zdxe u y o Z (zd1 Z (zdc 2 (i.below h.below) Z (zd1 Z (dN h fun _ h=>ri h F Z))))
def qbk(d:qZ):Nat->(List Int)->Int->Option ((List Int)×Int)|0,_,_=>U|n+1,b,a=>bif decide (a > 0) then(idx d.Ba a).bind fun c=>(idx b c).bind fun f=>(idx b a).bind fun g=>(idx b c).bind fun _=>qbk d n (setS b c (W64 (f+g))) (W64 (a-1)) else V (b,a)
def qbo(a:qf)(f:qZ)(d:(List Tplace))(b:(List Int)):Nat->(List Int)->Int->Option ((List Int)×Int)|0,_,_=>U|n+1,x1,i1=>bif decide (i1<(b.length:Int)) then(idx b i1).bind fun g=>(idx f.Bn i1).bind fun c=>(idx x1 c).bind fun h=>(idx d g).bind fun i=>(qgN n (⟨a.Aa.Ab,a.Aa.As,a.Aa.Ak⟩:qd) (⟨a.Au.Ay⟩:qn) i).bind fun r4=>(idx x1 c).bind fun _=>qbo a f d b n (setS x1 c (W64 (h+r4))) (W64 (i1+1)) else V (x1,i1)
def qdK(n:Nat)(a:qf)(b:Int):Option (List Int):=(idx a.Ah b).bind fun c=>(qdp n c.Bv).bind fun d=>(qcy n (⟨a.Aa.Ab,a.Aa.As,a.Aa.Ak⟩:qd)).bind fun f=>(qgT n (⟨a.Aa.Ab,a.Aa.As,a.Aa.Ak⟩:qd) b).bind fun g=>(qbo a c f g n d 0).bind fun(x1,_)=>(qbk c n x1 (W64 ((d.length:Int)-1))).bind fun(h,_)=>V h
theorem qfX{a:qf}{k}(a3:Ro w a cs1){r:(List Int)}(F:qdK n a k=V r):RetV prog 209 [oV qf cs1,vi k] w r:=by
 obtain⟨p1,k1,p2,k2,p3,k3,p4,k4,p5,k5,rfl,s1,s2,s3,s4,s5⟩:=qac a3;refine zV 74 func209 Z fun h=>zSR (qx h Z Z fun w1 l h=>X1 7 0 h Z ?_);obtain⟨W,_,F,a9,_,_,_,_,b6,c0,c4,a4⟩:=s5.ix F;obtain⟨p6,k6,p7,k7,p8,k8,p9,k9,rfl,s6,_,s8,s9⟩:=qaT c4;refine zxe b6 c0 a9 Z (zc 0 (a4.below h.below) Z (qp qa h Z Z Z fun _ b h=>zs 0 h Z fun _ h=>X1 5 0 h Z (zcL h F (qeO ⟨_,_,rfl,(h.oldS s8)⟩) Z fun R _ S1 d c h F=>X1 6 2 h Z (zcL h F (qeM (qav _ (h.oldS s2) (h.oldS s3) (h.oldS s4))) Z fun T _ S2 O M h F=>X1 8 3 h Z (zcL h F (qnC (qav _ (h.oldS s2) (h.oldS s3) (h.oldS s4))) Z fun Q _ S3 P N h F=>X0 3 Z ?_)))));obtain⟨o1,F,X⟩:=qc F;refine qm (rL (fun m e w'=>∃x1 i1,qbo a W T Q m x1 i1=V o1/\e=[(2,vp l),(5,vp b),(6,oS d R.length c),(7,oS O T.length M),(25,oS P Q.length N),(26,vi (Q.length:Int)),(27,vi i1)]/\SH w w' [oW S3 (Q:List Int) [oS P Q.length N],oW S2 (T:List Tplace) [oS O T.length M],oW S1 (x1:List Int) [oS d R.length c],oX b (qgR W p6 p7 p8 p9 k6 k7 k8 k9) 183,oX l (qaY a p1 p2 p3 p4 p5 k1 k2 k3 k4 k5) 53]) n ⟨_,_,F,rfl,h⟩ Z ?_);rintro m1 _ _ ⟨x1,i1,F,rfl,h⟩;rcases m1 with _|m1
 ·cases F
 refine X0 5 Z (qg Z F ?_ ?_)<;>intro F
 ·refine X0 6 Z ?_;obtain⟨_,_,F,p,_,_,_,_,b7,c1,rfl,a5⟩:=(h.sl 0 Z).1.ix F;refine zx b7 c1 ⟨p.1,qD p.2.1 (h.sl 0 Z).2⟩ Z (zc 0 a5 Z (X0 3 Z (rA [19] [1,2,3,4] h Z fun _ h=>M1 15 [0,1,2,3] 2 (h.p [1,2,3,4] Z) Z ?_)));obtain⟨_,_,F,b4,_,_,_,_,b8,c2,rfl,a6⟩:=s9.ix F;refine Ae 4 31 b8 c2 b4 (h.p [1,2,3,4] Z) Z (Al 5 63 0 a6 (h.p [1,2,3,4] Z) Z ?_);obtain⟨y4,c6,F,s,_,_,_,_,y,D,rfl,_⟩:=(h.sl 2 Z).1.ix F;refine Ax 6 127 y D ⟨s.1,qD s.2.1 (h.sl 2 Z).2⟩ (h.p [1,2,3,4] Z) Z (Aw 7 255 (fun w' hw=>qfv qa (qbU (w1:=w) (S1:=fun _=>False) hw 1 Z c6 y D Z) (j:=0) Z Z Z) (h.p [1,2,3,4] Z) Z ?_);refine M2 16383 [8,9,10,11,12,13] 3 3 (h.p [1,2,3,4] Z) Z ?_;obtain⟨y5,c7,F,t,_,_,_,_,z,H,c5,_⟩:=(h.sl 1 Z).1.ix F;obtain rfl:=qg3 c5;refine Ax 14 32767 z H ⟨t.1,qD t.2.1 (h.sl 1 Z).2⟩ (h.p [1,2,3,4] Z) Z (Aw 15 65535 (fun w' hw=>qfv qa (qbU hw 0 Z c7 z H (qmL (w:=w) (S:=fun _=>False) y5)) (j:=0) Z Z Z) (h.p [1,2,3,4] Z) Z ?_);refine Ao 16 131071 Z (zcI h F (qnM (qav _ (h.oldS s2) (h.oldS s3) (h.oldS s4)) (qeb _ (h.oldS s1)) (qmL y5)) Z fun r4 _ h F=>G0 262143 [17] (h.p [1,2,3,4] Z) Z ?_);obtain⟨_,c8,F,u,_,_,_,_,A,I,rfl,a7⟩:=(h.sl 2 Z).1.ix F;exact Ax 18 524287 A I ⟨u.1,qD u.2.1 (h.sl 2 Z).2⟩ (h.p [1,2,3,4] Z) Z (Ao 19 1048575 Z (qbg qa 2 0 (W64 (y4+r4)) h Z c8 A I Z a7 Z Z Z Z Z Z Z fun _ h=>qaX (fun hs=>absurd (hs 19 (by decide)) (by decide)) (Ad (X0 5 Z (rK ⟨_,_,F,rfl,h⟩ Z)))))
 refine qu Z ?_;obtain rfl:=qb F;replace F:=X;refine X0 8 Z ?_;obtain⟨o2,F,Y⟩:=qc F;refine qm ?_;replace h:=h.p [2,3] Z;refine rL (fun m e w'=>∃x2 i2,qbk W m x2 i2=V o2/\e=[(5,vp b),(6,oS d R.length c),(10,vi i2)]/\SH w w' [oW S1 (x2:List Int) [oS d R.length c],oX b (qgR W p6 p7 p8 p9 k6 k7 k8 k9) 183]) n ⟨_,_,F,rfl,h⟩ Z ?_;rintro m2 _ _ ⟨x2,i2,F,rfl,h⟩;rcases m2 with _|m2
 ·cases F
 refine X0 6 Z (qg Z F ?_ ?_)<;>intro F
 ·refine zKSB (rA [14] [0,1] h Z fun _ h=>M1 15 [0,1,2,3] 1 (h.p [0,1] Z) Z ?_);obtain⟨_,_,F,b5,_,_,_,_,b9,c3,rfl,a8⟩:=s6.ix F;refine Ae 4 31 b9 c3 b5 (h.p [0,1] Z) Z (Al 5 63 0 a8 (h.p [0,1] Z) Z ?_);obtain⟨y8,c9,F,v,_,_,_,_,B,J,rfl,_⟩:=(h.sl 0 Z).1.ix F;refine Ax 6 127 B J ⟨v.1,qD v.2.1 (h.sl 0 Z).2⟩ (h.p [0,1] Z) Z (Aw 7 255 (fun w' hw=>qfv qa (qbU (w1:=w) (S1:=fun _=>False) hw 0 Z c9 B J Z) (j:=0) Z Z Z) (h.p [0,1] Z) Z ?_);refine M0 1023 [8,9] (h.p [0,1] Z) Z ?_;obtain⟨y9,d0,F,x,_,_,_,_,C,K,rfl,_⟩:=(h.sl 0 Z).1.ix F;refine Ax 10 2047 C K ⟨x.1,qD x.2.1 (h.sl 0 Z).2⟩ (h.p [0,1] Z) Z (Aw 11 4095 (fun w' hw=>qfv qa (qbU (w1:=w) (S1:=fun _=>False) hw 0 Z d0 C K Z) (j:=0) Z Z Z) (h.p [0,1] Z) Z ?_);refine M0 8191 [12] (h.p [0,1] Z) Z ?_;obtain⟨_,L,F,f,_,_,_,_,g,i,rfl,o⟩:=(h.sl 0 Z).1.ix F;exact Ax 13 16383 g i ⟨f.1,qD f.2.1 (h.sl 0 Z).2⟩ (h.p [0,1] Z) Z (Ao 14 32767 Z (qbg qa 0 0 (W64 (y8+y9)) h Z L g i Z o Z Z Z Z Z Z Z fun _ h=>qaX (fun hs=>absurd (hs 14 (by decide)) (by decide)) (Ad (X0 6 Z (rK ⟨_,_,F,rfl,h⟩ Z)))))
 refine qu Z ?_;obtain rfl:=qb F;replace F:=Y;refine X0 5 Z ?_;obtain rfl:=qb F;exact rO 0 h Z ⟨rfl,G⟩
def qbK(b:qZ)(c:(List Int))(x1:(List Int)):Nat->(List Int)->Int->Option ((List Int)×Int)|0,_,_=>U|n+1,a,i1=>bif decide (i1<(x1.length:Int)) then(idx b.Ba i1).bind fun d=>(idx a d).bind fun f=>(idx b.Bz i1).bind fun g=>(idx c i1).bind fun h=>(idx a i1).bind fun _=>qbK b c x1 n (setS a i1 (W64 (f+(W64 (g*h))))) (W64 (i1+1)) else V (a,i1)
def qeP(n:Nat)(b:qf)(net:Int):Option (List Int):=(idx b.Ah net).bind fun d=>(qdK n b net).bind fun a=>(mkS (a.length:Int) (0:Int)).bind fun x1=>(qbK d a x1 n x1 1).bind fun(c,_)=>V c
theorem ql9{b:qf}{net}(g:Ro w b cs1){r:(List Int)}(F:qeP n b net=V r):RetV prog 262 [oV qf cs1,vi net] w r:=by
 obtain⟨p1,k1,p2,k2,p3,k3,p4,k4,p5,k5,rfl,_,_,_,_,s5⟩:=qac g;refine zV 49 func262 Z fun h=>zSR (qx h Z Z fun w1 B h=>X0 3 Z (rA [] [0] h Z fun _ h=>M1 7 [0,1,2] 0 (h.p [0] Z) Z ?_));obtain⟨y1,_,F,M,_,_,_,_,P,S,X,H⟩:=s5.ix F;obtain⟨p6,k6,p7,k7,p8,k8,p9,k9,rfl,s6,s7,_,_⟩:=qaT X;refine Ae 3 15 P S M (h.p [0] Z) Z (Al 4 31 0 H (h.p [0] Z) Z (M1 127 [5,6] 0 (h.p [0] Z) Z ?_));obtain⟨f,y,F⟩:=qc F;refine qkD (fun e w'=>∃a A d c,e=[(5,vp a),(6,oS d f.length c)]/\SH w w' [oX a (qgR y1 p6 p7 p8 p9 k6 k7 k8 k9) 183,oW A (f:List Int) [oS d f.length c],oX B (qaY b p1 p2 p3 p4 p5 k1 k2 k3 k4 k5) 53]) 0 (bits 11 2047) ?_ ?_
 ·intro K;refine At 7 8 255 383 Z ?_ ?_
  ·exact qkP f h (cB 209 Z) (qfX (h.old g) y) Z Z Z Z fun a7 S4 a6 a5 h=>Ag (h.p [1] Z) (Ao 8 511 Z (qp qa h Z Z Z fun a8 C h=>Ag (h.p [2] Z) (Ao 9 1023 Z (zs 0 h Z fun a9 h=>G0 2047 [10] (h.p [2] Z) Z (qqo [(5,_),(6,_)] ⟨rfl,rfl,G⟩ (K _ _ ⟨_,_,_,_,rfl,h⟩))))))
  refine qp qa h Z Z Z fun a7 C h=>Ag (h.p [1] Z) (Ao 7 511 Z (qkP f h (cB 209 Z) (qfX (h.old g) y) Z Z Z Z fun a8 S4 a6 a5 h=>Ag (h.p [2] Z) (Ao 9 1023 Z (zs 1 h Z fun a9 h=>G0 2047 [10] (h.p [2] Z) Z ?_))));replace h:=h.p [1,0,2] Z;exact aK K ⟨_,_,_,_,rfl,h⟩ Z
 rintro _ _ ⟨a,A,d,c,rfl,h⟩;refine Ad (X0 4 Z ?_);obtain⟨x1,i,F⟩:=qc F;obtain⟨g1,g2,i⟩:=qQ i;refine qai qa Int h Z Z Z Z Z Z Z Z Z g1 g2 i Z fun _ S6 z h=>X0 7 Z ?_;obtain⟨o1,F,D⟩:=qc F;refine qm ?_;replace h:=h.p [0,1,2] Z;refine rL (fun m e w'=>∃x2 i1,qbK y1 f x1 m x2 i1=V o1/\e=[(5,vp a),(6,oS d f.length c),(7,oS z x1.length x1.length),(8,vi i1)]/\SH w w' [oW S6 (x2:List Int) [oS z x1.length x1.length],oX a (qgR y1 p6 p7 p8 p9 k6 k7 k8 k9) 183,oW A (f:List Int) [oS d f.length c]]) n ⟨_,_,F,rfl,h⟩ Z ?_;rintro m1 _ _ ⟨x2,i1,F,rfl,h⟩;rcases m1 with _|m1
 ·cases F
 refine X0 8 Z (qg Z F ?_ ?_)<;>intro F
 ·refine zKSB (rA [22] [0,1,2] h Z fun _ h=>M1 63 [0,1,2,3,4,5] 1 (h.p [0,1,2] Z) Z ?_);obtain⟨_,_,F,N,_,_,_,_,Q,T,rfl,I⟩:=s6.ix F;refine Ae 6 127 Q T N (h.p [0,1,2] Z) Z (Al 7 255 0 I (h.p [0,1,2] Z) Z ?_);obtain⟨y3,Y,F,k,_,_,_,_,p,u,rfl,_⟩:=(h.sl 0 Z).1.ix F;refine Ax 8 511 p u ⟨k.1,qD k.2.1 (h.sl 0 Z).2⟩ (h.p [0,1,2] Z) Z (Aw 9 1023 (fun w' hw=>qfv qa (qbU (w1:=w) (S1:=fun _=>False) hw 0 Z Y p u Z) (j:=0) Z Z Z) (h.p [0,1,2] Z) Z ?_);refine M1 8191 [10,11,12] 1 (h.p [0,1,2] Z) Z ?_;obtain⟨y4,_,F,O,_,_,_,_,R,W,rfl,J⟩:=s7.ix F;refine Ae 13 16383 R W O (h.p [0,1,2] Z) Z (Al 14 32767 0 J (h.p [0,1,2] Z) Z (M0 131071 [15,16] (h.p [0,1,2] Z) Z ?_));obtain⟨y5,a3,F,l,_,_,_,_,s,v,rfl,_⟩:=(h.sl 2 Z).1.ix F;refine Ax 17 262143 s v ⟨l.1,qD l.2.1 (h.sl 2 Z).2⟩ (h.p [0,1,2] Z) Z (Aw 18 524287 (fun w' hw=>qfv qa (qbU (w1:=w) (S1:=fun _=>False) hw 2 Z a3 s v Z) (j:=0) Z Z Z) (h.p [0,1,2] Z) Z ?_);refine M0 2097151 [19,20] (h.p [0,1,2] Z) Z ?_;obtain⟨_,a4,F,o,_,_,_,_,t,x,rfl,L⟩:=(h.sl 0 Z).1.ix F;exact Ax 21 4194303 t x ⟨o.1,qD o.2.1 (h.sl 0 Z).2⟩ (h.p [0,1,2] Z) Z (Ao 22 8388607 Z (qbg qa 0 0 (W64 (y3+(W64 (y4*y5)))) h Z a4 t x Z L Z Z Z Z Z Z Z fun _ h=>qaX (fun hs=>absurd (hs 22 (by decide)) (by decide)) (Ad (X0 6 Z (rK ⟨_,_,F,rfl,h⟩ Z)))))
 refine qu Z ?_;obtain rfl:=qb F;replace F:=D;refine X0 5 Z ?_;obtain rfl:=qb F;exact rO 0 h Z ⟨rfl,G⟩
def qa0(b:(List Int))(a:qZ):Nat->(List Int)->Int->Option ((List Int)×Int)|0,_,_=>U|n+1,x1,i1=>bif decide (i1<(a.Bn.length:Int)) then(idx a.Bn i1).bind fun d=>(idx b d).bind fun f=>(appS x1 ([f]:List Int)).bind fun c=>qa0 b a n c (W64 (i1+1)) else V (x1,i1)
def qei(n:Nat)(b:qf)(net:Int):Option (List Int):=(qeP n b net).bind fun a=>(idx b.Ah net).bind fun c=>(qa0 a c n ([]:List Int) 0).bind fun(x1,_)=>V x1
theorem qlv{b:qf}{net}(g:Ro w b cs1){r:(List Int)}(F:qei n b net=V r):RetV prog 210 [oV qf cs1,vi net] w r:=by
 obtain⟨_,_,_,_,_,_,_,_,_,_,rfl,_,_,_,_,O⟩:=qac g;refine zV 32 func210 Z fun h=>zSR (qx h Z Z fun _ _ h=>X1 6 0 h Z (zcL h F (ql9 (h.old g)) Z fun k _ S1 L J h F=>X1 12 1 h Z ?_));obtain⟨I,_,F,t,_,_,_,_,v,z,C,o⟩:=O.ix F;obtain⟨_,_,_,_,_,_,H,D,rfl,_,_,_,P⟩:=qaT C;refine zxe v z t Z (zp1 Z (zc 3 (o.below h.below) Z (X0 3 Z ?_)));replace h:=h.nil (α:=Int);obtain⟨N,F,l⟩:=qc F;refine qm ?_;replace h:=h.p [0,1] Z;refine rL (fun m e w'=>∃S2 f d c x1 i1,qa0 k I m x1 i1=V N/\e=[(5,oS L k.length J),(6,oS f d c),(17,oS H I.Bn.length D),(18,vi (I.Bn.length:Int)),(19,vi i1)]/\SH w w' [oW S2 (x1:List Int) [oS f d c],oW S1 (k:List Int) [oS L k.length J]]) n ⟨_,_,_,_,_,_,F,rfl,h⟩ Z ?_;rintro K _ _ ⟨S2,f,d,c,x1,i1,F,rfl,h⟩;obtain rfl:=(h.sl 0 Z).2;rcases K with _|K
 ·cases F
 refine X0 5 Z (qg Z F ?_ ?_)<;>intro F
 ·refine zKSBSR ?_;obtain⟨_,_,F,u,_,_,_,_,x,A,rfl,p⟩:=P.ix F;refine zxe x A u Z (zc 0 (p.below h.below) Z (X0 6 Z ?_));obtain⟨Q,_,F,i,_,_,_,_,y,B,rfl,s⟩:=(h.sl 1 Z).1.ix F;refine zx y B ⟨i.1,qD i.2.1 (h.sl 1 Z).2⟩ Z (zc 0 s Z (qE qa [.tmp 27] _ ([Q]:List Int) h Z Z Z Z Z Z Z Z Z ⟨rfl,G⟩ Z fun _ _ _ h=>?_));obtain⟨_,a,F⟩:=qc F;obtain⟨M,a⟩:=qM a;refine qbM qa 1 h Z (h.sl 0 Z).1 (h.sl 0 Z).2 Z Z Z Z Z Z Z Z Z M a Z fun _ _ _ _ h=>X0 7 Z ?_;replace h:=h.p [1,2] Z;exact rK ⟨_,_,_,_,_,_,F,rfl,h⟩ Z
 refine qu Z ?_;obtain rfl:=qb F;replace F:=l;refine X0 5 Z ?_;obtain rfl:=qb F;exact rO 0 h Z ⟨rfl,G⟩
def qd2(g:(List Int))(d:Int)(f:Int)(h:Int):Nat->(List qv)->Int->Option ((List qv)×Int)|0,_,_=>U|n+1,b,a=>bif decide (a<2) then(idx g d).bind fun i=>(appS b ([(⟨W64 ((W64 (2*i))+a),W64 ((W64 (2*h))+a),2,f⟩:qv)]:List qv)).bind fun c=>qd2 g d f h n c (W64 (a+1)) else V (b,a)
def qd5(g:(List Int))(f:Int)(d:(List Int)):Nat->(List qv)->Int->Option ((List qv)×Int)|0,_,_=>U|n+1,b,a=>bif decide (a<(d.length:Int)) then(idx d a).bind fun h=>(qd2 g f a h n b 0).bind fun(c,_)=>qd5 g f d n c (W64 (a+1)) else V (b,a)
def qd0(a:qf)(h:(List (List Int)))(i:(List Int)):Nat->(List (List Int))->(List Int)->(List qv)->Int->Option ((List (List Int))×(List Int)×(List qv)×Int)|0,_,_,_,_=>U|n+1,k,l,c,b=>bif decide (b<(a.Ah.length:Int)) then(qdK n a b).bind fun r4=>(idx r4 0).bind fun p=>(appS l ([p]:List Int)).bind fun d=>(qei n a b).bind fun m=>(appS k ([m]:List (List Int))).bind fun f=>(idx h b).bind fun r=>(qd5 i b r n c 0).bind fun(g,_)=>qd0 a h i n f d g (W64 (b+1)) else V (k,l,c,b)
def qc5(c:(List Tplace)):Nat->(List (List Int))->(List Int)->Int->Option ((List (List Int))×(List Int)×Int)|0,_,_,_=>U|n+1,d,f,a=>bif decide (a<(c.length:Int)) then(idx c a).bind fun b=>bif b.drives then(idx f b.net).bind fun _=>qc5 c n d (setS f b.net a) (W64 (a+1)) else(idx d b.net).bind fun h=>(appS h ([a]:List Int)).bind fun g=>qc5 c n (setS d b.net g) f (W64 (a+1)) else V (d,f,a)
def qd3(a:qf):Nat->(List qv)->Int->Int->Option ((List qv)×Int×Int)|0,_,_,_=>U|n+1,x1,i1,b=>bif decide (b<(a.Aa.Ab.length:Int)) then(idx a.Aa.Ab b).bind fun c=>(qfo n a c i1).bind fun d=>(appS x1 d).bind fun g=>(qbt n c.As).bind fun f=>qd3 a n g (W64 (i1+f)) (W64 (b+1)) else V (x1,i1,b)
def qkN(n:Nat)(a:qf):Option (Option Tview):=(qcy n (⟨a.Aa.Ab,a.Aa.As,a.Aa.Ak⟩:qd)).bind fun c=>(qd3 a n ([]:List qv) 0 0).bind fun(x1,_,_)=>(mkS (a.Ah.length:Int) (0:Int)).bind fun x3=>(mkS (a.Ah.length:Int) ([]:(List Int))).bind fun d=>(qc5 c n d x3 0).bind fun(f,g,_)=>(qd0 a f g n ([]:List (List Int)) ([]:List Int) x1 0).bind fun(h,i,b,_)=>V (V (⟨(⟨(⟨a.Au.Ay⟩:qn),(⟨a.Aa.Ab,a.Aa.As,a.Aa.Ak⟩:qd),a.Ah⟩:qf),c,b,i,h,[]⟩:Tview))
theorem qqW{A}(hA:∀b,A b->old w b){a:qf}(T:GoT.R w A a cs1){r:(Option Tview)}(F:qkN n a=V r):RetG prog 155 [oV qf cs1] w A r:=by
 obtain⟨K,J,u,p,v,k3,y,s,H,B,rfl,s1,s2,s3,s4,s5⟩:=qac T;have hg:=Rg.start hA;refine qe3 func155 Z (m:=156) Z Z (fun h=>?_);refine zSR (qx h Z Z fun w1 f h=>X0 3 Z (rA [] [0] h Z fun _ h=>M2 7 [0,1,2] 0 0 (h.p [0] Z) Z (Ao 3 15 Z (zcL h F (qeM (qav _ (h.oldS (s2.mono hg.old)) (h.oldS (s3.mono hg.old)) (h.oldS (s4.mono hg.old)))) Z fun d _ S1 I C h F=>Ag (h.p [1] Z) (Aw 4 31 (fun w' hw=>qG qa [0,1] [.tmp 15,.tmp 18] Z Z Z Z Z Z Z Z) (h.p [1] Z) Z ?_)))));refine Ao 5 63 Z (qx h Z Z fun _ c h=>G0 127 [6] (h.p [2] Z) Z (Ad (X1 13 2 h Z ?_)));replace h:=h.nil (α:=qv);obtain⟨o1,F,hK1⟩:=qc F;refine qm (rL (fun m e w'=>∃S2 p7 ln1 k7 x1 i1 i2,qd3 a m x1 i1 i2=V o1/\e=[(1,vp f),(3,vp c),(4,vi i1),(23,oS u a.Aa.Ab.length p),(24,vi (a.Aa.Ab.length:Int)),(25,vi i2)]/\SH w w' [oW S2 (x1:List qv) [oS p7 ln1 k7],oX c [oS K a.Au.Ay.length J,oS u a.Aa.Ab.length p,oS v a.Aa.As.length k3,oS y a.Aa.Ak.length s,oS H a.Ah.length B,oS I d.length C,oS p7 ln1 k7,oS U 0 0,oS U 0 0,oS U 0 0] 161,oW S1 (d:List Tplace) [oS I d.length C],oX f (qaY a K u v y H J p k3 s B) 53]) n ⟨_,_,_,_,_,_,_,F,rfl,h⟩ Z ?_);rintro m1 _ _ ⟨S2,p7,ln1,k7,x1,i1,i2,F,rfl,h⟩;obtain rfl:=(h.sl 0 Z).2;rcases m1 with _|m1
 ·cases F
 refine X0 5 Z (qg Z F ?_ ?_)<;>intro F
 ·refine zKSBSR ?_;obtain⟨y1,_,F,he1,_,_,_,_,hp1,hq1,hr2,hc2⟩:=s2.ix F;obtain⟨_,_,rfl,s6⟩:=qV hr2;refine zxe hp1 hq1 he1 Z (zc 0 (hc2.below h.below) Z (qp qa h Z Z Z fun _ _ h=>zs 0 h Z fun _ h=>zNS (rA [12] [0,2,4] h Z fun _ h=>M3 255 [0,1,2,3,4,5,6,7] 1 2 0 (h.p [0,2,4] Z) Z (Ao 8 511 Z (zcL h F (qmo (h.old (GoT.mono T hg.old)) (qgB y1 (h.oldS (s6.mono hg.old)))) Z fun _ _ _ _ _ h F=>Ag (h.p [1,3,5] Z) (Ao 9 1023 Z ?_))))));obtain⟨_,hx1,F⟩:=qc F;obtain⟨g1,hx1⟩:=qM hx1;refine qbM qa 2 h Z (h.sl 0 Z).1 (h.sl 0 Z).2 Z Z Z Z Z Z Z Z Z g1 hx1 Z fun _ _ _ _ h=>Ag (h.p [1,3,5] Z) (Ao 10 2047 Z (zp1 Z (G0 4095 [11] (h.p [1,3,5] Z) Z (Ao 12 8191 Z (zs 3 h Z fun _ h=>qaX (fun hs=>absurd (hs 12 (by decide)) (by decide)) (Ad (X1 4 1 h Z (zcI h F (qcG ⟨_,_,rfl,(h.oldS (s6.mono hg.old))⟩) Z fun _ _ h F=>X0 8 Z ?_))))))));replace h:=h.p [2,3,4,5] Z;exact rK ⟨_,_,_,_,_,_,_,F,rfl,h⟩ Z
 refine qu Z ?_;obtain rfl:=qb F;replace F:=hK1;refine X1 5 3 h Z ?_;obtain⟨x3,hx2,F⟩:=qc F;obtain⟨g2,g3,hx2⟩:=qQ hx2;refine qai qa Int h Z Z Z Z Z Z Z Z Z g2 g3 hx2 Z fun _ S5 i h=>X1 7 4 h Z ?_;obtain⟨l,hx3,F⟩:=qc F;obtain⟨g4,g5,hx3⟩:=qQ hx3;refine qai qa (List Int) h Z Z Z Z Z Z Z Z Z g4 g5 hx3 Z fun _ _ k h=>X1 12 3 h Z ?_;obtain⟨o2,F,hK2⟩:=qc F;refine qm (rL (fun m e w'=>∃(S7:Nat->Prop) (x5:(List (List Int))) (R:(List Int)) (i3:Int),qc5 d m x5 R i3=V o2/\e=[(1,vp f),(3,vp c),(7,oS i x3.length x3.length),(8,oS k l.length l.length),(58,oS I d.length C),(59,vi (d.length:Int)),(60,vi i3)]/\SH w w' [oW S7 (x5:List (List Int)) [oS k l.length l.length],oW S5 (R:List Int) [oS i x3.length x3.length],oW S2 (x1:List qv) [oS p7 x1.length k7],oX c [oS K a.Au.Ay.length J,oS u a.Aa.Ab.length p,oS v a.Aa.As.length k3,oS y a.Aa.Ak.length s,oS H a.Ah.length B,oS I d.length C,oS p7 x1.length k7,oS U 0 0,oS U 0 0,oS U 0 0] 161,oW S1 (d:List Tplace) [oS I d.length C],oX f (qaY a K u v y H J p k3 s B) 53]) n ⟨_,_,_,_,F,rfl,h⟩ Z ?_);rintro m2 _ _ ⟨S7,x5,R,i3,F,rfl,h⟩;rcases m2 with _|m2
 ·cases F
 refine X0 5 Z (qg Z F ?_ ?_)<;>intro F
 ·refine X0 6 Z ?_;obtain⟨y2,_,F,he2,_,_,_,_,hp2,hq2,hr5,hc4⟩:=(h.sl 4 Z).1.ix F;obtain rfl:=qg3 hr5;refine zx hp2 hq2 ⟨he2.1,qD he2.2.1 (h.sl 4 Z).2⟩ Z (zc 0 hc4 Z (qp qa h Z Z Z fun _ bb4 h=>zp1 Z (zs 0 h Z fun _ h=>X1 6 0 h Z (qg Z F ?_ ?_))))<;>intro F
  ·refine X1 5 0 h Z ?_;obtain⟨_,hy3,F,he3,_,_,_,_,hp3,hq3,rfl,hc6⟩:=(h.sl 2 Z).1.ix F;refine zx hp3 hq3 ⟨he3.1,qD he3.2.1 (h.sl 2 Z).2⟩ Z (qbg qa 2 0 i3 h Z hy3 hp3 hq3 Z hc6 Z Z Z Z Z Z Z fun _ h=>X0 6 Z ?_);replace h:=h.p [1,2,3,4,5,6] Z;exact rK ⟨_,_,_,_,F,rfl,h⟩ Z
  obtain⟨_,hy4,F⟩:=qc F;have W:=qba hy4;replace h:=h.p [1,0,2,3,4,5,6] Z;obtain⟨_,S9,_,h⟩:=h.take hy4;obtain⟨_,_,rfl,-⟩:=h.own 0 Z;refine rA [12] [1,2] h Z fun _ h=>M2 63 [0,1,2,3,4,5] 1 1 (h.p [1,2] Z) Z ?_;obtain⟨_,hp4,-,-,hl2⟩:=h.holeAt 1 Z;obtain⟨q4,hq4⟩:∃q,q=0+(y2.net).toNat*GoT.k (List Int):=⟨_,rfl⟩;refine Ax 6 127 hp4 hq4 ⟨W.1,qD W.2.1 hl2⟩ (h.p [1,2] Z) Z (Aw 7 255 (fun w' hw=>qfv qa (qrq hw 0 Z hp4 hq4) (j:=0) Z Z Z) (h.p [1,2] Z) Z ?_);refine M0 511 [8] (h.p [1,2] Z) Z (Ao 9 1023 Z (qE qa [.tmp 80] _ ([i3]:List Int) h Z Z Z Z Z Z Z Z Z ⟨rfl,G⟩ Z fun _ p14 S10 h=>Ag (h.p [2,3] Z) (Ao 10 2047 Z ?_)));obtain⟨x7,hx4,F⟩:=qc F;obtain⟨g6,hx4⟩:=qM hx4;refine qbM qa 1 h Z (h.sl 0 Z).1 (h.sl 0 Z).2 Z Z Z Z Z Z Z Z Z g6 hx4 Z fun _ p15 k12 S11 h=>Ag (h.p [2,3] Z) ?_;obtain⟨_,hp5,-,-,hl4⟩:=h.holeAt 2 Z;obtain⟨q5,hq5⟩:∃q,q=0+(y2.net).toNat*GoT.k (List Int):=⟨_,rfl⟩;refine Ax 11 4095 hp5 hq5 ⟨W.1,qD W.2.1 hl4⟩ (h.p [2,3] Z) Z (Ao 12 8191 Z (qpn qa 2 0 h Z hp5 hq5 Z Z Z Z Z Z fun _ h=>?_));replace h:SH _ _ [oW S10 (([i3]:List Int):List Int) [oS p14 1 1],oW S11 (x7:List Int) [oS p15 x7.length k12],Ch.hole S9 (x5:List (List Int)) k l.length l.length (y2.net).toNat [oS p15 x7.length k12],oX bb4 (qrh y2) 193,oW S5 (R:List Int) [oS i x3.length x3.length],oW S2 (x1:List qv) [oS p7 x1.length k7],oX c [oS K a.Au.Ay.length J,oS u a.Aa.Ab.length p,oS v a.Aa.As.length k3,oS y a.Aa.Ak.length s,oS H a.Ah.length B,oS I d.length C,oS p7 x1.length k7,oS U 0 0,oS U 0 0,oS U 0 0] 161,oW S1 (d:List Tplace) [oS I d.length C],oX f (qaY a K u v y H J p k3 s B) 53]:=h;refine qaX (fun hs=>absurd (hs 12 (by decide)) (by decide)) (Ad (X0 5 Z ?_));replace h:=h.p [1,2,0,3,4,5,6,7,8] Z;replace h:=h.put;obtain⟨_,h⟩:=qtY (S:=_) h;replace h:=h.p [0,3,4,5,6,7] Z;exact rK ⟨_,_,_,_,F,rfl,h⟩ Z
 refine qu Z ?_;obtain rfl:=qb F;replace F:=hK2;refine X1 8 5 h Z ?_;replace h:=h.nil (α:=Int);replace h:=h.nil (α:=(List Int));obtain⟨o3,F,hK3⟩:=qc F;refine qm (rL (fun m e w'=>∃(S13:Nat->Prop) (t:Option Addr) (ln2:Nat) (o:Nat) (P:(List (List Int))) (S14:Nat->Prop) (D:Option Addr) (ln3:Nat) (z:Nat) (Q:(List Int)) (S15:Nat->Prop) (M:Option Addr) (ln4:Nat) (L:Nat) (g:(List qv)) (X:Int),qd0 a x5 R m P Q g X=V o3/\e=[(1,vp f),(3,vp c),(7,oS i x3.length x3.length),(8,oS k l.length l.length),(87,vi (a.Ah.length:Int)),(88,vi X)]/\SH w w' [oW S13 (P:List (List Int)) [oS t ln2 o],oW S14 (Q:List Int) [oS D ln3 z],oW S7 (x5:List (List Int)) [oS k l.length l.length],oW S5 (R:List Int) [oS i x3.length x3.length],oW S15 (g:List qv) [oS M ln4 L],oX c [oS K a.Au.Ay.length J,oS u a.Aa.Ab.length p,oS v a.Aa.As.length k3,oS y a.Aa.Ak.length s,oS H a.Ah.length B,oS I d.length C,oS M ln4 L,oS D ln3 z,oS t ln2 o,oS U 0 0] 161,oW S1 (d:List Tplace) [oS I d.length C],oX f (qaY a K u v y H J p k3 s B) 53]) n ⟨_,_,_,_,_,_,_,_,_,_,_,_,_,_,_,_,F,rfl,h⟩ Z ?_);rintro m3 _ _ ⟨S13,t,ln2,o,P,S14,D,ln3,z,Q,S15,M,ln4,L,g,X,F,rfl,h⟩;obtain rfl:=(h.sl 0 Z).2;obtain rfl:=(h.sl 1 Z).2;obtain rfl:=(h.sl 4 Z).2;rcases m3 with _|m3
 ·cases F
 refine X0 5 Z (qg Z F ?_ ?_)<;>intro F
 ·refine X0 9 Z (rA [14] [5,7] h Z fun _ h=>M2 127 [0,1,2,3,4,5,6] 0 1 (h.p [5,7] Z) Z (Ao 7 255 Z (zcL h F (qfX (h.old (GoT.mono T hg.old))) Z fun _ _ _ _ _ h F=>Ag (h.p [6,8] Z) ?_)));obtain⟨y5,_,F,he5,_,_,_,_,hp6,hq6,rfl,hc8⟩:=(h.sl 0 Z).1.ix F;refine Ax 8 511 hp6 hq6 ⟨he5.1,qD he5.2.1 (h.sl 0 Z).2⟩ (h.p [6,8] Z) Z (Ao 9 1023 Z (zc 0 hc8 Z (Ag (h.p [6,8] Z) (Ao 10 2047 Z (qE qa [.tmp 100] _ ([y5]:List Int) h Z Z Z Z Z Z Z Z Z ⟨rfl,G⟩ Z fun _ _ _ h=>Ag (h.p [7,9] Z) (Ao 11 4095 Z ?_))))));obtain⟨N,hx5,F⟩:=qc F;obtain⟨g7,hx5⟩:=qM hx5;refine qbM qa 3 h Z (h.sl 0 Z).1 (h.sl 0 Z).2 Z Z Z Z Z Z Z Z Z g7 hx5 Z fun _ a5 Y S18 h=>Ag (h.p [7,9] Z) (Ao 12 8191 Z (zp1 Z (G0 16383 [13] (h.p [7,9] Z) Z (Ao 14 32767 Z (zs 7 h Z fun _ h=>qaX (fun hs=>absurd (hs 14 (by decide)) (by decide)) (Ad (qW (rA [12] [7,9] h Z fun _ h=>M2 127 [0,1,2,3,4,5,6] 0 1 (h.p [7,9] Z) Z (Ao 7 255 Z (zcL h F (qlv (h.old (GoT.mono T hg.old))) Z fun r5 _ _ _ _ h F=>Ag (h.p [8,10] Z) (Ao 8 511 Z (qho qa [.tmp 112] _ ([r5]:List (List Int)) [1,2,3,4,5,6,7,8,9,10] h Z Z Z Z Z Z Z Z Z (qmn (qao 0 h Z) qkz Z) Z Z fun _ _ _ h=>Ag (h.p [8,10] Z) (Ao 9 1023 Z ?_)))))))))))));obtain⟨O,hx6,F⟩:=qc F;obtain⟨g8,hx6⟩:=qM hx6;replace h:=h.p [0,3,1,2,4,5,6,7,8,9,10] Z;refine qon qa h Z Z Z Z Z Z Z Z Z g8 hx6 Z fun _ a6 a3 S21 h=>Ag (h.p [7,9] Z) (Ao 10 2047 Z (zp1 Z (G0 4095 [11] (h.p [7,9] Z) Z (Ao 12 8191 Z (zs 7 h Z fun _ h=>qaX (fun hs=>absurd (hs 12 (by decide)) (by decide)) (Ad (X0 4 Z ?_)))))));obtain⟨y6,hy6,F⟩:=qc F;have he6:=qba hy6;replace h:=h.lrn0 4 Z;obtain⟨_,o_5,_,_,hp7,hq7,-,hr10,hc9⟩:=(qeB (h.lrnO 4 Z)).1.at hy6;have hr11:=hr10;obtain⟨a7,a4,rfl,_⟩:=hr10;replace h:=h.lrnAdd 4 Z hr11;refine zx hp7 hq7 ⟨he6.1,qD he6.2.1 (qeB (h.lrnO 4 Z)).2⟩ Z (zc 0 hc9 Z (X0 3 Z ?_));obtain⟨o4,F,hK4⟩:=qc F;refine qm ?_;replace h:=h.p [0,3,4,5,6,7,8,9] Z;refine rL (fun m e w'=>∃S22 p26 ln5 k21 x13 i5,qd5 R X y6 m x13 i5=V o4/\e=[(1,vp f),(3,vp c),(7,oS i x3.length x3.length),(8,oS k l.length l.length),(11,vi X),(87,vi (a.Ah.length:Int)),(88,vi X),(120,oS a7 y6.length a4),(121,vi (y6.length:Int)),(122,vi i5)]/\SH w w' [oW S21 (O:List (List Int)) [oS a6 O.length a3],oW S18 (N:List Int) [oS a5 N.length Y],Ch.lrn S7 (x5:List (List Int)) [oS k l.length l.length] [fct (y6:(List Int)) [oS a7 y6.length a4]],oW S5 (R:List Int) [oS i x3.length x3.length],oW S22 (x13:List qv) [oS p26 ln5 k21],oX c [oS K a.Au.Ay.length J,oS u a.Aa.Ab.length p,oS v a.Aa.As.length k3,oS y a.Aa.Ak.length s,oS H a.Ah.length B,oS I d.length C,oS p26 ln5 k21,oS a5 N.length Y,oS a6 O.length a3,oS U 0 0] 161,oW S1 (d:List Tplace) [oS I d.length C],oX f (qaY a K u v y H J p k3 s B) 53]) m3 ⟨_,_,_,_,_,_,F,rfl,h⟩ Z ?_;rintro m4 _ _ ⟨S22,p26,ln5,k21,x13,i5,F,rfl,h⟩;obtain rfl:=(h.sl 4 Z).2;rcases m4 with _|m4
  ·cases F
  refine X0 5 Z (qg Z F ?_ ?_)<;>intro F
  ·refine X0 6 Z ?_;obtain⟨y7,_,F,he7,_,_,_,_,hp8,hq8,rfl,hc11⟩:=(qeB (GoT.mono (h.lrnS 2 0 Z Z) (h.lrnB 2 Z))).1.ix F;refine zx hp8 hq8 ⟨he7.1,qD he7.2.1 (qeB (GoT.mono (h.lrnS 2 0 Z Z) (h.lrnB 2 Z))).2⟩ Z (zc 0 hc11 Z (X0 7 Z ?_));obtain⟨o5,F,hK5⟩:=qc F;refine qm (rL (fun m e w'=>∃S23 p27 ln6 k22 x14 i6,qd2 R X i5 y7 m x14 i6=V o5/\e=[(1,vp f),(3,vp c),(7,oS i x3.length x3.length),(8,oS k l.length l.length),(11,vi X),(12,vi i5),(13,vi y7),(87,vi (a.Ah.length:Int)),(88,vi X),(120,oS a7 y6.length a4),(121,vi (y6.length:Int)),(122,vi i5),(127,vi i6)]/\SH w w' [oW S21 (O:List (List Int)) [oS a6 O.length a3],oW S18 (N:List Int) [oS a5 N.length Y],Ch.lrn S7 (x5:List (List Int)) [oS k l.length l.length] [fct (y6:(List Int)) [oS a7 y6.length a4]],oW S5 (R:List Int) [oS i x3.length x3.length],oW S23 (x14:List qv) [oS p27 ln6 k22],oX c [oS K a.Au.Ay.length J,oS u a.Aa.Ab.length p,oS v a.Aa.As.length k3,oS y a.Aa.Ak.length s,oS H a.Ah.length B,oS I d.length C,oS p27 ln6 k22,oS a5 N.length Y,oS a6 O.length a3,oS U 0 0] 161,oW S1 (d:List Tplace) [oS I d.length C],oX f (qaY a K u v y H J p k3 s B) 53]) m4 ⟨_,_,_,_,_,_,F,rfl,h⟩ Z ?_);rintro m5 _ _ ⟨S23,p27,ln6,k22,x14,i6,F,rfl,h⟩;obtain rfl:=(h.sl 4 Z).2;rcases m5 with _|m5
   ·cases F
   refine X0 5 Z (qg Z F ?_ ?_)<;>intro F
   ·refine X0 8 Z (rA [22] [3,5] h Z fun _ h=>M1 127 [0,1,2,3,4,5,6] 1 (h.p [3,5] Z) Z ?_);obtain⟨y8,hy8,F,he8,_,_,_,_,hp9,hq9,rfl,_⟩:=(h.sl 3 Z).1.ix F;refine Ax 7 255 hp9 hq9 ⟨he8.1,qD he8.2.1 (h.sl 3 Z).2⟩ (h.p [3,5] Z) Z (Aw 8 511 (fun w' hw=>qfv qa (qbU (w1:=w) (S1:=fun _=>False) hw 0 Z hy8 hp9 hq9 Z) (j:=0) Z Z Z) (h.p [3,5] Z) Z ?_);refine M0 131071 [9,10,11,12,13,14,15,16] (h.p [3,5] Z) Z (Aw 17 262143 (fun w' hw=>qG qa [0,1,2,3] [.tmp 141,.tmp 145,.const (vi (2)),.tmp 146] Z Z Z Z Z Z Z Z) (h.p [3,5] Z) Z ?_);refine Ao 18 524287 Z (qE qa [.tmp 147] _ ([(⟨W64 ((W64 (2*y8))+i6),W64 ((W64 (2*y7))+i6),2,i5⟩:qv)]:List qv) h Z Z Z Z Z Z Z Z Z ⟨(qb6 (⟨W64 ((W64 (2*y8))+i6),W64 ((W64 (2*y7))+i6),2,i5⟩:qv)),G⟩ Z fun _ _ _ h=>Ag (h.p [4,6] Z) (Ao 19 1048575 Z ?_));obtain⟨_,hx7,F⟩:=qc F;obtain⟨g9,hx7⟩:=qM hx7;refine qbM qa 5 h Z (h.sl 0 Z).1 (h.sl 0 Z).2 Z Z Z Z Z Z Z Z Z g9 hx7 Z fun _ _ _ _ h=>Ag (h.p [4,6] Z) (Ao 20 2097151 Z (zp1 Z (G0 4194303 [21] (h.p [4,6] Z) Z (Ao 22 8388607 Z (zs 6 h Z fun _ h=>qaX (fun hs=>absurd (hs 22 (by decide)) (by decide)) (Ad (X0 5 Z ?_)))))));replace h:=h.p [1,2,3,4,5,6,7,8] Z;exact rK ⟨_,_,_,_,_,_,F,rfl,h⟩ Z
   refine qu Z ?_;obtain rfl:=qb F;replace F:=hK5;exact X0 5 Z (rK ⟨_,_,_,_,_,_,F,rfl,h⟩ Z)
  refine qu Z ?_;obtain rfl:=qb F;replace F:=hK4;refine X0 5 Z ?_;replace h:=h.unlrn 2 Z;exact rK ⟨_,_,_,_,_,_,_,_,_,_,_,_,_,_,_,_,F,rfl,h⟩ Z
 refine qu Z ?_;obtain rfl:=qb F;replace F:=hK3;refine X0 5 Z ?_;obtain rfl:=qb F;have hv1:GoRs.Rs (ρ:=(Option Tview)) h.wc (reg A w h.wc) (V (⟨(⟨(⟨a.Au.Ay⟩:qn),(⟨a.Aa.Ab,a.Aa.As,a.Aa.Ak⟩:qd),a.Ah⟩:qf),d,g,Q,P,[]⟩:Tview)) [oV (Option Tview) [vp c]]:=⟨_,rfl,(hg.outR h (Rg.boxR (x:=(⟨(⟨(⟨a.Au.Ay⟩:qn),(⟨a.Aa.Ab,a.Aa.As,a.Aa.Ak⟩:qd),a.Ah⟩:qf),d,g,Q,P,[]⟩:Tview)) 5 h Z (show GoT.R _ _ ((⟨(⟨(⟨a.Au.Ay⟩:qn),(⟨a.Aa.Ab,a.Aa.As,a.Aa.Ak⟩:qd),a.Ah⟩:qf),d,g,Q,P,[]⟩:Tview):Tview) _ from⟨[oS K a.Au.Ay.length J,oS u a.Aa.Ab.length p,oS v a.Aa.As.length k3,oS y a.Aa.Ak.length s,oS H a.Ah.length B],[oS I d.length C,oS M g.length L,oS D Q.length z,oS t P.length o,oS U 0 0],rfl,⟨[oS K a.Au.Ay.length J],[oS u a.Aa.Ab.length p,oS v a.Aa.As.length k3,oS y a.Aa.Ak.length s,oS H a.Ah.length B],rfl,⟨_,_,rfl,(hg.inS h s1)⟩,⟨[oS u a.Aa.Ab.length p,oS v a.Aa.As.length k3,oS y a.Aa.Ak.length s],[oS H a.Ah.length B],rfl,⟨[oS u a.Aa.Ab.length p],[oS v a.Aa.As.length k3,oS y a.Aa.Ak.length s],rfl,⟨_,_,rfl,(hg.inS h s2)⟩,⟨[oS v a.Aa.As.length k3],[oS y a.Aa.Ak.length s],rfl,⟨_,_,rfl,(hg.inS h s3)⟩,⟨_,_,rfl,(hg.inS h s4)⟩⟩⟩,⟨_,_,rfl,(hg.inS h s5)⟩⟩⟩,⟨[oS I d.length C],[oS M g.length L,oS D Q.length z,oS t P.length o,oS U 0 0],rfl,(Rg.ownR 6 h Z),⟨[oS M g.length L],[oS D Q.length z,oS t P.length o,oS U 0 0],rfl,(Rg.ownR 4 h Z),⟨[oS D Q.length z],[oS t P.length o,oS U 0 0],rfl,(Rg.ownR 1 h Z),⟨[oS t P.length o],[oS U 0 0],rfl,(Rg.ownR 0 h Z),⟨_,_,rfl,qig⟩⟩⟩⟩⟩⟩)))⟩;exact qdN qa (ρ:=(Option Tview)) (r:=(V (⟨(⟨(⟨a.Au.Ay⟩:qn),(⟨a.Aa.Ab,a.Aa.As,a.Aa.Ak⟩:qd),a.Ah⟩:qf),d,g,Q,P,[]⟩:Tview))) [oV (Option Tview) [vp c]] h ⟨rfl,G⟩ hv1
def qca(c:qr):Nat->Int->Option (Flow Bool Int)|0,_=>U|n+1,i1=>bif decide (i1<((4:Nat):Int)) then(idx ([c.Am,c.Ar,c.Aj,c.Aq]:List Int) i1).bind fun b=>(qaq n b 100 5000).bind fun a=>bif (!a) then V (.ret false) else qca c n (W64 (i1+1)) else V (.nxt i1)
def qhR(n:Nat)(c:qr):Option Bool:=(qca c n 0).bind fun|.ret r=>V r|.nxt _=>(qf5 n c.Bd).bind fun a=>bif a then bif decide (c.Am<=c.Ar) then V (decide (c.Aj<=c.Aq)) else V false else V false
theorem qpP{c:qr}(f:Ro w c cs1){r:Bool}(F:qhR n c=V r):RetV prog 232 [oV qr cs1] w r:=by
 obtain rfl:=qaG f;refine zV 43 func232 Z fun h=>zSR (qx h Z Z fun _ a h=>X4 12 0 0 0 0 h Z (qE qa [.tmp 6,.tmp 8,.tmp 10,.tmp 12] _ ([c.Am,c.Ar,c.Aj,c.Aq]:List Int) h Z Z Z Z Z Z Z Z Z ⟨rfl,rfl,rfl,rfl,G⟩ Z fun _ o S1 h=>X0 7 Z ?_));obtain⟨p,F,b⟩:=qc F;refine qm (rL (fun m e w'=>∃i1,qca c m i1=V p/\e=[(1,vp a),(3,oS o 4 4),(4,vi i1)]/\SH w w' [oW S1 (([c.Am,c.Ar,c.Aj,c.Aq]:List Int):List Int) [oS o 4 4],oX a (qb7 c) 54]) n ⟨_,F,rfl,h⟩ Z ?_);rintro l _ _ ⟨i1,F,rfl,h⟩;rcases l with _|l
 ·cases F
 refine X0 8 Z (qg Z F ?_ ?_)<;>intro F
 ·refine X0 7 Z ?_;obtain⟨_,_,F,d,_,_,_,_,i,k,rfl,g⟩:=(h.sl 0 Z).1.ix F;refine zx i k ⟨d.1,qD d.2.1 (h.sl 0 Z).2⟩ Z (zc 0 g Z (zcB h F qad Z fun _ _ h F=>X0 2 Z (qg Z F ?_ ?_)))<;>intro F
  ·refine X0 4 Z ?_;obtain rfl:=qb F;replace F:=b;exact rb h F Z
  exact X0 7 Z (rK ⟨_,F,rfl,h⟩ Z)
 refine qu Z ?_;obtain rfl:=qb F;replace F:=b;refine X1 4 1 h Z (zcB h F qia Z fun _ _ h F=>zp1 Z (qk (t:=29) F Z ?_ ?_))<;>intro F
 ·refine X2 12 1 1 h Z (qk (t:=36) F Z ?_ ?_)<;>intro F
  ·exact X2 13 1 1 h Z (rb h F Z)
  exact X0 8 Z (rb h F Z)
 exact X0 15 Z (rb h F Z)
def qgu(_:Nat)(a:Int)(b:Int):Option Bool:=bif decide (a>=100) then bif decide (a<=b) then V (decide (b<=5000)) else V false else V false
theorem qll{early late}  {r:Bool}(F:qgu n early late=V r):RetV prog 206 [vi early,vi late] w r:=by
 refine zV 16 func206 Z fun h=>X0 9 Z (qk (t:=7) F Z ?_ ?_)<;>intro F
 ·refine X0 8 Z (qk (t:=12) F Z ?_ ?_)<;>intro F
  ·exact X0 7 Z (rb h F Z)
  exact X0 5 Z (rb h F Z)
 exact X0 10 Z (rb h F Z)
def qh1(n:Nat)(c:qr):Option Bool:=(qis n c.Bd).bind fun a=>bif a then(qgu n c.Am c.Ar).bind fun b=>bif b then(qgu n c.Aj c.Aq).bind fun d=>V d else V false else V false
theorem qqa{c:qr}(a:Ro w c cs1){r:Bool}(F:qh1 n c=V r):RetV prog 154 [oV qr cs1] w r:=by
 obtain rfl:=qaG a;refine zV 20 func154 Z fun h=>zSR (qx h Z Z fun _ _ h=>X1 6 0 h Z (zcB h F qlj Z fun _ _ h F=>zp1 Z (qk (t:=6) F Z ?_ ?_)))<;>intro F
 ·refine X2 9 0 0 h Z (zcB h F qll Z fun _ _ h F=>zp2 Z (qk (t:=13) F Z ?_ ?_))<;>intro F
  ·exact X2 9 0 0 h Z (zcB h F qll Z fun _ _ h F=>X0 3 Z (rb h F Z))
  exact X0 8 Z (rb h F Z)
 exact X0 15 Z (rb h F Z)
def qjM(_:Nat)(a:qr)(left:Int):Option Int:=bif decide ((W64 (left-(a.Bd.size:Int)))<0) then V (-1) else V (W64 (left-(a.Bd.size:Int)))
theorem qp7{a:qr}{left}(b:Ro w a cs1){r:Int}(F:qjM n a left=V r):RetV prog 23 [oV qr cs1,vi left] w r:=by
 obtain rfl:=qaG b;refine zV 13 func23 Z fun h=>zSR (qx h Z Z fun _ _ h=>X1 17 0 h Z (qg Z F ?_ ?_))<;>intro F
 ·exact X0 4 Z (ri h F Z)
 exact X0 6 Z (ri h F Z)
def qjH(_:Nat)(a:qr):Option qr:=V (⟨a.Bd,a.Am,a.Ar,a.Aj,a.Aq⟩:qr)
theorem qqj{a:qr}(b:Ro w a cs1){r:qr}(F:qjH n a=V r):RetV prog 28 [oV qr cs1] w r:=by
 obtain rfl:=qaG b;refine zV 20 func28 Z fun h=>zSR (qx h Z Z fun _ _ h=>qp qa h Z Z Z fun _ _ h=>zNSR (qp qa h Z Z Z fun _ _ h=>X1 6 2 h Z (zs 0 h Z fun _ h=>X1 6 2 h Z (zs 0 h Z fun _ h=>X1 6 2 h Z (zs 0 h Z fun _ h=>X1 6 2 h Z (zs 0 h Z fun _ h=>X1 6 2 h Z (zs 0 h Z fun _ h=>X1 4 0 h Z (zs 1 h Z fun _ h=>qaj ?_))))))));obtain rfl:=qb F;exact qU qa (ρ:=qr) [oV qr (qb7 a)] h ⟨⟨_,_,_,rfl,rfl,h.box 1 Z,rfl⟩,G⟩ (PV.done h (qaa (qw (S:=fun _=>False) (qdE (⟨a.Bd,a.Am,a.Ar,a.Aj,a.Aq⟩:qr)))))
def qjE(_:Nat)(a:qr)(b:qr):Option Bool:=bif (a.Bd.toList != b.Bd.toList) then V false else bif (a.Am != b.Am) then V false else bif (a.Ar != b.Ar) then V false else bif (a.Aj != b.Aj) then V false else bif (a.Aq != b.Aq) then V false else V true
theorem qpR{a:qr}{b:qr}(c:Ro w a cs1)(d:Ro w b cs2){r:Bool}(F:qjE n a b=V r):RetV prog 35 [oV qr cs1,oV qr cs2] w r:=by
 obtain rfl:=qaG c;obtain rfl:=qaG d;refine zV 30 func35 Z fun h=>zSR (qx h Z Z fun _ _ h=>qx h Z Z fun _ _ h=>X2 11 1 0 h Z (qg Z F ?_ ?_))<;>intro F
 ·exact X0 4 Z (rb h F Z)
 refine X2 10 1 0 h Z (qg Z F ?_ ?_)<;>intro F
 ·exact X0 4 Z (rb h F Z)
 refine X2 10 1 0 h Z (qg Z F ?_ ?_)<;>intro F
 ·exact X0 4 Z (rb h F Z)
 refine X2 10 1 0 h Z (qg Z F ?_ ?_)<;>intro F
 ·exact X0 4 Z (rb h F Z)
 refine X2 10 1 0 h Z (qg Z F ?_ ?_)<;>intro F
 ·exact X0 4 Z (rb h F Z)
 exact X0 5 Z (rb h F Z)
end Go.Fw


namespace Go.Fw
open Go
set_option maxRecDepth 100000
theorem qwB{d:qd}{k:Int}{n i:Nat}(hi:i<(sinksL d k n).length):∃y:Nat,y<n/\idx (sinksL d k n) (i:Int)=V (y:Int)/\snkQ d k y=true:=by
 rw[qee hi];have a:(sinksL d k n)[i]∈sinksL d k n:=jp hi;generalize (sinksL d k n)[i]=z at a;unfold sinksL at a;obtain⟨y,f,rfl⟩:=List.mem_map.1 a;obtain⟨b,c⟩:=List.mem_filter.1 f;exact⟨y,List.mem_range.1 b,rfl,c⟩
theorem qsf{d:qd}{k:Int}(h:smallD d):Ev (fun n=>qgT n d k) (sinksL d k (places d).length):=by
 have g:=qaN h;have c:Ev (fun n=>qa3 k (places d) n ([]:List Int) 0) (sinksL d k (places d).length,((places d).length:Int)):=by
  refine loopF (Lf:=qa3 k (places d)) (S:=fun j=>sinksL d k j) (len:=(places d).length) (fun n=>?_) (fun j b X a=>?_)
  ·simp only[qa3,ql (je _),cond_false]
  ·have f:(sinksL d k j).length+[(j:Int)].length<=2147483648:=by
    rw[qjm];have:cntP (snkQ d k) j<=j:=qf6;simp;omega
   simp only[qa3,qj b,cond_true,qz b,jd,wS j];rw[qj6] at a;unfold snkQ at a;cases h1:((gt (places d) j).net==k)
   ·rw[h1] at a;simp only[Bool.false_and,cond_false,jW] at a⊢;exact a
   ·cases h2:(gt (places d) j).drives
    ·rw[h1,h2] at a;simp only[Bool.not_false,Bool.and_self,cond_true,qbd f,jd] at a⊢;exact a
    ·rw[h1,h2] at a;simp only[Jg,Bool.and_false,cond_false,jW,cond_true] at a⊢;exact a
 unfold qgT;exact Ev.bind (qop h) (Ev.bind c .done)
structure wireOk(b:qf)(i:Nat):Prop where
 lo:1<=(gt b.Ah i).Ba.length
 hi:(gt b.Ah i).Ba.length<=8
 res:(gt b.Ah i).Bz.length=(gt b.Ah i).Ba.length
 cap:(gt b.Ah i).Bv.length=(gt b.Ah i).Ba.length
 par:∀j,0<j->j<(gt b.Ah i).Ba.length->0<=at0 (gt b.Ah i).Ba j/\at0 (gt b.Ah i).Ba j<j
 snk:(gt b.Ah i).Bn.length=(sinksL b.Aa (i:Int) (places b.Aa).length).length
 sin:∀j,j<(gt b.Ah i).Bn.length->0<=at0 (gt b.Ah i).Bn j/\at0 (gt b.Ah i).Bn j<(gt b.Ah i).Ba.length
theorem qbw{b:qf}(h:blockB b=true){i:Nat}(hi:i<b.Ah.length):wireOk b i:=by
 unfold blockB at h;rw[jf,qap] at h;have:=h.2 i hi;unfold wireB lenB at this;simp only[jf,decide_eq_true_eq,beq_iff_eq] at this;obtain⟨⟨f,g⟩,n,o,k,_,_,l,c⟩:=this;refine⟨f,g,by omega,by omega,fun j m a=>?_,?_,fun j a=>?_⟩
 ·have:=qap.1 k j a;unfold treeB at this;rw[show decide (j=0)=false by simp;omega] at this;simp only[cond_false,qa9] at this;omega
 ·rw[qjm];unfold snkN at l;omega
 ·rw[qhd (d:=0),qap] at c;have:=c j a;rw[qa9] at this;unfold at0;omega
theorem qmM{b:qf}(h:blockB b=true):b.Ah.length=b.Aa.As.length:=by
 unfold blockB at h;simp only[jf,beq_iff_eq] at h;omega

instance:Inhabited qv:=⟨⟨0,0,0,0⟩⟩
instance:Inhabited qP:=⟨⟨0,0⟩⟩
theorem qmN{α:Type}{m:Nat}{z:α}(h:m<=2147483648):mkS (m:Int) z=V (List.replicate m z):=by
 unfold mkS big;rw[if_pos ⟨by omega,by omega⟩,jr]
theorem qsO{α:Type}[Inhabited α]{xs:List α}{a k:Nat}{y:α}(h:k≠a):gt (xs.set a y) k=gt xs k:=by
 unfold gt;rw[jC,List.getElem?_set_ne (by omega),<-jC]
theorem qqr{α:Type}[Inhabited α]{xs:List α}{a:Nat}{y:α}(h:a<xs.length):gt (xs.set a y) a=y:=by
 rw[qcw (by rw[List.length_set];exact h),List.getElem_set_self]

def sumZ(f:Nat->Int):Nat->Int
 |0=>0
 |n+1=>sumZ f n+f n
theorem qvB{f g:Nat->Int}{n:Nat}(h:∀u,u<n->f u=g u):sumZ f n=sumZ g n:=by
 induction n with
 |zero=>rfl
 |succ n ih=>unfold sumZ;rw[ih (fun u a=>h u (by omega)),h n (by omega)]
theorem qt9{f g:Nat->Int}{a n:Nat}(d:a<n)(h:∀u,u<n->u≠a->f u=g u):sumZ f n=sumZ g n+(f a-g a):=by
 induction n with
 |zero=>omega
 |succ n ih=>
  unfold sumZ;by_cases b:a=n
  ·subst b;rw[qvB (fun u c=>h u (by omega) (by omega))];omega
  ·rw[ih (by omega) (fun u c=>h u (by omega)),h n (by omega) (by omega)];omega
theorem qzg{f:Nat->Int}{n:Nat}(h:∀u,u<n->0<=f u):0<=sumZ f n:=by
 induction n with
 |zero=>exact Je _
 |succ n ih=>unfold sumZ;have:=ih (fun u a=>h u (by omega));have:=h n (by omega);omega
theorem qtk{f:Nat->Int}{a n:Nat}(h:∀u,u<n->0<=f u)(d:a<n):f a<=sumZ f n:=by
 induction n with
 |zero=>omega
 |succ n ih=>
  unfold sumZ;by_cases b:a=n
  ·subst b;have:=qzg (fun u (c:u<a)=>h u (by omega));omega
  ·have:=ih (fun u c=>h u (by omega)) (by omega);have:=h n (by omega);omega
theorem qzr{f:Nat->Int}{n:Nat}{c:Int}(h:∀u,u<n->f u<=c):sumZ f n<=n*c:=by
 induction n with
 |zero=>simp[sumZ]
 |succ n ih=>
  unfold sumZ;have:=ih (fun u a=>h u (by omega));have:=h n (by omega);rw[Int.natCast_succ,Int.add_mul];omega
def pinCap(b:qf)(p:Tplace):Int:=bif decide (p.instance_<0) then 0 else(gt (cellAt b p.instance_).Bh p.pin.toNat).Bv
def capJ(b:qf)(j:Nat):Int:=pinCap b (gt (places b.Aa) j)
theorem qxY{b:qf}(h:blockB b=true){j:Nat}(f:j<(places b.Aa).length){n:Nat}:qgN n b.Aa b.Au (gt (places b.Aa) j)=V (capJ b j):=by
 have d:=qam h;unfold capJ pinCap;rcases qlD f with⟨i,k,hi,hk,_,e⟩|⟨i,hi,_,e⟩
 ·rw[e];obtain⟨⟨a,c⟩,g,_⟩:=qhE d hi;unfold place1 cellAt;simp only[qgN,show decide ((i:Int)<0)=false by simp,cond_false,qz hi,jd,qfW a c,jr,qz (show k<(gt b.Au.Ay (gt b.Aa.Ab i).Bu.toNat).Bh.length by omega)]
 ·rw[e];rfl
theorem qx4{b:qf}(h:blockB b=true){j:Nat}(f:j<(places b.Aa).length):0<=capJ b j/\capJ b j<=500:=by
 have d:=qam h;unfold capJ pinCap;rcases qlD f with⟨i,k,hi,hk,_,e⟩|⟨i,hi,_,e⟩
 ·rw[e];obtain⟨⟨g,l⟩,m,c⟩:=qhE d hi;unfold place1 cellAt;simp only[show decide ((i:Int)<0)=false by simp,cond_false,jr];have a:=qjr c;unfold pinsB at a;rw[jf,qap] at a;have:=a.1 k (by omega);unfold pinB at this;cases hl:decide (k+1=(gt b.Au.Ay (gt b.Aa.Ab i).Bu.toNat).Bh.length)
  ·rw[hl] at this;simp only[cond_false,jf,qa9] at this;exact this.2
  ·rw[hl] at this;simp only[cond_true,jf,beq_iff_eq] at this;omega
 ·rw[e];exact⟨Je _,show(0:Int)<=500 by omega⟩
def skL(b:qf)(i:Nat):List Int:=sinksL b.Aa (i:Int) (places b.Aa).length
def addSink(b:qf)(w:qZ)(sk:List Int)(t:List Int)(j:Nat):List Int:=setS t (at0 w.Bn j) (W64 (gt t (at0 w.Bn j).toNat+capJ b (at0 sk j).toNat))
def ldA(b:qf)(w:qZ)(sk:List Int):Nat->List Int
 |0=>w.Bv
 |j+1=>addSink b w sk (ldA b w sk j) j
def addUp(w:qZ)(t:List Int)(j:Nat):List Int:=setS t (at0 w.Ba j) (W64 (gt t (at0 w.Ba j).toNat+gt t j))
def ldB(w:qZ):Nat->List Int->List Int
 |0,t=>t
 |j+1,t=>ldB w j (addUp w t (j+1))
def loadsL(b:qf)(i:Nat):List Int:=ldB (gt b.Ah i) ((gt b.Ah i).Ba.length-1) (ldA b (gt b.Ah i) (skL b i) (skL b i).length)
theorem qph{b:qf}{w:qZ}{sk:List Int}{j:Nat}:(ldA b w sk j).length=w.Bv.length:=by
 induction j with
 |zero=>rfl
 |succ j ih=>unfold ldA addSink;rw[qdM,ih]
theorem qzQ{w:qZ}{j:Nat}{t:List Int}:(ldB w j t).length=t.length:=by
 induction j generalizing t with
 |zero=>rfl
 |succ j ih=>unfold ldB addUp;rw[ih,qdM]
theorem qm2{b:qf}(h:blockB b=true){i:Nat}(hi:i<b.Ah.length):(loadsL b i).length=(gt b.Ah i).Ba.length:=by
 unfold loadsL;rw[qzQ,qph,(qbw h hi).cap]
theorem qht{b:qf}(h:blockB b=true){i:Nat}:(skL b i).length<=78:=by
 have a:=qaN (qN (qam h));unfold skL;rw[qjm];have:cntP (snkQ b.Aa (i:Int)) (places b.Aa).length<=(places b.Aa).length:=qf6;omega
theorem qpO{b:qf}{i j:Nat}(a:j<(skL b i).length):∃y:Nat,y<(places b.Aa).length/\at0 (skL b i) j=(y:Int)/\snkQ b.Aa (i:Int) y=true:=by
 obtain⟨y,c,d,f⟩:=qwB a;exact⟨y,c,by have:=d;rw[show(sinksL b.Aa (i:Int) (places b.Aa).length)=skL b i from rfl,qan a] at this;exact Option.some.inj this,f⟩
theorem qpm{b:qf}(h:blockB b=true){i:Nat}(hi:i<b.Ah.length):Ev (fun n=>qdK n b (i:Int)) (loadsL b i):=by
 have c:=qbw h hi;have m:=qN (qam h);have u:=c.lo;have r:=c.hi;have d:=c.cap;have x:=qht h (i:=i);have e1:Ev (fun n=>qbo b (gt b.Ah i) (places b.Aa) (skL b i) n (gt b.Ah i).Bv 0) (ldA b (gt b.Ah i) (skL b i) (skL b i).length,((skL b i).length:Int)):=by
  refine loopF (Lf:=qbo b (gt b.Ah i) (places b.Aa) (skL b i)) (S:=ldA b (gt b.Ah i) (skL b i)) (len:=(skL b i).length) (fun n=>?_) (fun j a X l=>?_)
  ·simp only[qbo,ql (je _),cond_false]
  ·obtain⟨y,o,k,_⟩:=qpO a;have f:j<(gt b.Ah i).Bn.length:=by rw[c.snk];exact a
   have g:=c.sin j f;have s:=qph (b:=b) (w:=gt b.Ah i) (sk:=skL b i) (j:=j);simp only[qbo,qj a,cond_true,qan a,k,jd,qan f,qfW g.1 (show at0 (gt b.Ah i).Bn j<((ldA b (gt b.Ah i) (skL b i) j).length:Int) by omega),qz o,qxY h o,wS j];have:ldA b (gt b.Ah i) (skL b i) (j+1)=setS (ldA b (gt b.Ah i) (skL b i) j) (at0 (gt b.Ah i).Bn j) (W64 (gt (ldA b (gt b.Ah i) (skL b i) j) (at0 (gt b.Ah i).Bn j).toNat+capJ b y)):=by
    show addSink _ _ _ _ _=_;unfold addSink;rw[k,jr]
   rw[this] at l;exact l
 have p:∀j t,t.length=(gt b.Ah i).Ba.length->j<(gt b.Ah i).Ba.length->Ev (fun n=>qbk (gt b.Ah i) n t (j:Int)) (ldB (gt b.Ah i) j t,0):=by
  intro j
  induction j with
  |zero=>
   intro t _ _;refine Ev.succ ?_;show Ev (fun n=>qbk (gt b.Ah i) (n+1) t 0) _;unfold qbk;exact Ev.ff Z .done
  |succ j ih=>
   intro t z a;have v:=c.par (j+1) (by omega) a;refine Ev.succ ?_;simp only[qbk,show decide (((j+1:Nat):Int) > 0)=true from decide_eq_true (by omega),cond_true,qan a,jd,qfW v.1 (show at0 (gt b.Ah i).Ba (j+1)<(t.length:Int) by omega),qz (show j+1<t.length by omega),show((j+1:Nat):Int)-1=(j:Int) by omega,qaw (show -9223372036854775808<=(j:Int) by omega) (by omega)];exact ih _ (by rw[qdM];exact z) (by omega)
 unfold qdK qdp;rw[qz hi];simp only[jd,qbd (show([]:List Int).length+(gt b.Ah i).Bv.length<=2147483648 by simp;omega),Jj];refine Ev.bind (qop m) (Ev.bind (qsf m) (Ev.bind e1 ?_));rw[qfh (show(gt b.Ah i).Bv.length<=9223372036854775807 by omega),show((gt b.Ah i).Bv.length:Int)-1=(((gt b.Ah i).Ba.length-1:Nat):Int) by omega];exact Ev.bind (p _ _ (by rw[qph];exact d) (by omega)) .done
structure LdOk(t:List Int)(L:Nat)(S:Int):Prop where
 len:t.length=L
 nn:∀k,k<L->0<=gt t k
 sum:sumZ (gt t) L<=S
theorem qmZ{t:List Int}{a:Nat}{y:Int}{k:Nat}(b:a<t.length):gt (setS t (a:Int) y) k=if k=a then y else gt t k:=by
 unfold setS;rw[jr];by_cases h:k=a
 ·subst h;rw[if_pos Z,qqr b]
 ·rw[if_neg h,qsO h]
theorem qAt{b:qf}(h:blockB b=true){i:Nat}(hi:i<b.Ah.length)(m:∀k,k<(gt b.Ah i).Bv.length->0<=gt (gt b.Ah i).Bv k/\gt (gt b.Ah i).Bv k<=500) :
  ∀j,j<=(skL b i).length->LdOk (ldA b (gt b.Ah i) (skL b i) j) (gt b.Ah i).Ba.length (4000+500*j):=by
 have p:=qbw h hi;have A:=p.hi;have l:=p.cap;have B:=qht h (i:=i);intro j
 induction j with
 |zero=>
  intro _;refine⟨l,fun k v=>(m k (by omega)).1,?_⟩;have:=qzr (f:=gt (gt b.Ah i).Bv) (n:=(gt b.Ah i).Ba.length) (c:=500) (fun u J=>(m u (by omega)).2);show sumZ (gt (gt b.Ah i).Bv) _<=_;omega
 |succ j ih=>
  intro H;obtain⟨D,s,K⟩:=ih (by omega);obtain⟨y,C,x,_⟩:=qpO (show j<(skL b i).length by omega);have F:=qx4 h C;have o:=p.sin j (by rw[p.snk];exact(show j<(skL b i).length by omega));obtain⟨a,t⟩:∃a:Nat,at0 (gt b.Ah i).Bn j=(a:Int):=⟨_,qfM o.1⟩;rw[t] at o;have d:a<(gt b.Ah i).Ba.length:=by omega
  have z:=qtk s d;have I:=s a d;have e:ldA b (gt b.Ah i) (skL b i) (j+1)=setS (ldA b (gt b.Ah i) (skL b i) j) (a:Int) (gt (ldA b (gt b.Ah i) (skL b i) j) a+capJ b y):=by
   show addSink _ _ _ _ _=_;unfold addSink;rw[x,t,jr,jr,qaw (by omega) (by omega)]
  rw[e];refine⟨by rw[qdM];exact D,fun k v=>?_,?_⟩
  ·rw[qmZ (by omega)];split
   ·omega
   ·exact s k v
  ·rw[qt9 (g:=gt (ldA b (gt b.Ah i) (skL b i) j)) d (fun u _ r=>by rw[qmZ (by omega),if_neg r]),qmZ (by omega),if_pos Z];omega
theorem qAo{b:qf}(h:blockB b=true){i:Nat}(hi:i<b.Ah.length){S:Int}(A:S<=1000000000):∀j t,j<(gt b.Ah i).Ba.length->t.length=(gt b.Ah i).Ba.length->(∀k,k<t.length->0<=gt t k/\gt t k<=S)->sumZ (gt t) (j+1)<=S ->
  ∀k,k<t.length->0<=gt (ldB (gt b.Ah i) j t) k/\gt (ldB (gt b.Ah i) j t) k<=S:=by
 have x:=qbw h hi;intro j
 induction j with
 |zero=>intro t _ _ c _;exact c
 |succ j ih=>
  intro t s v c r;have p:=x.par (j+1) (by omega) s;obtain⟨a,o⟩:∃a:Nat,at0 (gt b.Ah i).Ba (j+1)=(a:Int):=⟨_,qfM p.1⟩;rw[o] at p;have y:=c a (by omega);have z:=c (j+1) (by omega);have e:addUp (gt b.Ah i) t (j+1)=setS t (a:Int) (gt t a+gt t (j+1)):=by
   unfold addUp;rw[o,jr,qaw (by omega) (by omega)]
  have n:sumZ (gt (setS t (a:Int) (gt t a+gt t (j+1)))) (j+1)<=S:=by
   rw[qt9 (g:=gt t) (a:=a) (by omega) (fun u _ l=>by rw[qmZ (by omega),if_neg l]),qmZ (by omega),if_pos Z];have:sumZ (gt t) (j+1+1)=sumZ (gt t) (j+1)+gt t (j+1):=rfl;omega
  unfold ldB;rw[e];have:=ih (setS t (a:Int) (gt t a+gt t (j+1))) (by omega) (by rw[qdM];exact v) (fun k f=>by
   rw[qdM] at f;have m:∀u,u<j+1->0<=gt (setS t (a:Int) (gt t a+gt t (j+1))) u:=fun u B=>by
    rw[qmZ (by omega)];split
    ·omega
    ·exact(c u (by omega)).1
   have d:=qtk m (show a<j+1 by omega);rw[qmZ (by omega)] at d⊢;rw[if_pos Z] at d;split
   ·omega
   ·exact c k f) n
  rw[qdM] at this;exact this
theorem qqt{b:qf}(h:blockB b=true){i:Nat}(hi:i<b.Ah.length):(∀k,k<(gt b.Ah i).Bv.length->0<=gt (gt b.Ah i).Bv k/\gt (gt b.Ah i).Bv k<=500)/\(∀k,k<(gt b.Ah i).Bz.length->0<=at0 (gt b.Ah i).Bz k/\at0 (gt b.Ah i).Bz k<=1000):=by
 unfold blockB at h;rw[jf,qap] at h;have:=h.2 i hi;unfold wireB lenB at this;simp only[jf,decide_eq_true_eq,beq_iff_eq] at this;obtain⟨_,_,_,_,f,c,_⟩:=this;rw[qhd (d:=0),qap] at f c;exact⟨fun k a=>by have:=c k a;rw[qa9] at this;exact this,fun k a=>by have:=f k a;rw[qa9] at this;exact this⟩
theorem qvL{b:qf}(h:blockB b=true){i:Nat}(hi:i<b.Ah.length){k:Nat}(d:k<(gt b.Ah i).Ba.length):0<=gt (loadsL b i) k/\gt (loadsL b i) k<=43000:=by
 have l:=qbw h hi;have f:=l.lo;have g:=qht h (i:=i);obtain⟨m,a,o⟩:=qAt h hi (qqt h hi).1 (skL b i).length (je _);have:=qAo h hi (S:=43000) (by omega) ((gt b.Ah i).Ba.length-1) (ldA b (gt b.Ah i) (skL b i) (skL b i).length) (by omega) m (fun k d=>by
  have c:=a k (by omega);have n:=qtk a (show k<(gt b.Ah i).Ba.length by omega);exact⟨c,by omega⟩) (by rw[show(gt b.Ah i).Ba.length-1+1=(gt b.Ah i).Ba.length by omega];omega) k (by omega)
 exact this
def dlL(w:qZ)(ld:List Int):Nat->List Int
 |0=>[0]
 |k+1=>dlL w ld k++[W64 (gt (dlL w ld k) (at0 w.Ba (k+1)).toNat+W64 (at0 w.Bz (k+1)*gt ld (k+1)))]
theorem qpj{w:qZ}{ld:List Int}{k:Nat}:(dlL w ld k).length=k+1:=by
 induction k with
 |zero=>rfl
 |succ k ih=>unfold dlL;rw[jg,ih];rfl
def delaysL(b:qf)(i:Nat):List Int:=dlL (gt b.Ah i) (loadsL b i) ((gt b.Ah i).Ba.length-1)
def exactL(b:qf)(i:Nat):List Int:=(gt b.Ah i).Bn.map fun s=>gt (delaysL b i) s.toNat
theorem qnX{b:qf}(h:blockB b=true){i:Nat}(hi:i<b.Ah.length):(delaysL b i).length=(gt b.Ah i).Ba.length:=by
 unfold delaysL;rw[qpj];have:=(qbw h hi).lo;omega
theorem qz4{w:qZ}{ld:List Int}{k m:Nat}(b:k+1<m)(c:at0 w.Ba (k+1)<((k+1:Nat):Int))(_:0<=at0 w.Ba (k+1)) :
  setS (dlL w ld k++List.replicate (m-(k+1)) 0) ((k+1:Nat):Int) (W64 (gt (dlL w ld k++List.replicate (m-(k+1)) 0) (at0 w.Ba (k+1)).toNat+W64 (at0 w.Bz (k+1)*gt ld (k+1))))=dlL w ld (k+1)++List.replicate (m-(k+1+1)) 0:=by
 have a:=qpj (w:=w) (ld:=ld) (k:=k);have e1:gt (dlL w ld k++List.replicate (m-(k+1)) 0) (at0 w.Ba (k+1)).toNat=gt (dlL w ld k) (at0 w.Ba (k+1)).toNat:=by
  rw[qmF,if_pos (by omega)]
 rw[e1];unfold setS;rw[jr,List.set_append,if_neg (by omega),a,Nat.sub_self,show m-(k+1)=(m-(k+1+1))+1 by omega,List.replicate_succ,List.set_cons_zero];show _=(dlL w ld k++[_])++_;rw[jq]
 rfl
theorem qso{b:qf}(h:blockB b=true){i:Nat}(hi:i<b.Ah.length):Ev (fun n=>qeP n b (i:Int)) (delaysL b i):=by
 have f:=qbw h hi;have t:=f.lo;have r:=f.hi;have o:=f.res;have p:=qm2 h hi;have l:mkS ((loadsL b i).length:Int) (0:Int)=V (List.replicate (loadsL b i).length 0):=qi8 (by omega);have c:∀d k,k+1+d=(gt b.Ah i).Ba.length->Ev (fun n=>qbK (gt b.Ah i) (loadsL b i) (List.replicate (loadsL b i).length 0) n (dlL (gt b.Ah i) (loadsL b i) k++List.replicate ((gt b.Ah i).Ba.length-(k+1)) 0) ((k+1:Nat):Int)) (delaysL b i,((loadsL b i).length:Int)):=by
  intro d
  induction d with
  |zero=>
   intro k g;refine Ev.succ ?_;simp only[qbK,jH,ql (show(loadsL b i).length<=k+1 by omega),cond_false];refine Ev.now ?_;rw[show(gt b.Ah i).Ba.length-(k+1)=0 by omega,List.replicate_zero,jW,p,<-g];unfold delaysL;rw[<-g]
   rfl
  |succ d ih=>
   intro k g;have m:=f.par (k+1) (by omega) (by omega);have a:=qpj (w:=gt b.Ah i) (ld:=loadsL b i) (k:=k);have s:(dlL (gt b.Ah i) (loadsL b i) k++List.replicate ((gt b.Ah i).Ba.length-(k+1)) 0).length=(gt b.Ah i).Ba.length:=by rw[jg,jH,a];omega
   refine Ev.succ ?_;simp only[qbK,jH,qj (show k+1<(loadsL b i).length by omega),cond_true,qan (show k+1<(gt b.Ah i).Ba.length by omega),jd,qfW m.1 (show at0 (gt b.Ah i).Ba (k+1)<((dlL (gt b.Ah i) (loadsL b i) k++List.replicate ((gt b.Ah i).Ba.length-(k+1)) 0).length:Int) by omega),
    qan (show k+1<(gt b.Ah i).Bz.length by omega),qz (show k+1<(loadsL b i).length by omega),qz (show k+1<(dlL (gt b.Ah i) (loadsL b i) k++List.replicate ((gt b.Ah i).Ba.length-(k+1)) 0).length by omega),qi3 (show k+1<9223372036854775807 by omega)]
   rw[qz4 (by omega) m.2 m.1];exact ih (k+1) (by omega)
 unfold qeP;rw[qz hi];simp only[jd];refine Ev.bind (qpm h hi) ?_;rw[l];simp only[jd];have:=c ((gt b.Ah i).Ba.length-1) 0 (by omega);have e0:dlL (gt b.Ah i) (loadsL b i) 0++List.replicate ((gt b.Ah i).Ba.length-(0+1)) 0=List.replicate (loadsL b i).length 0:=by
  rw[p];show[(0:Int)]++_=_;rw[show(gt b.Ah i).Ba.length=((gt b.Ah i).Ba.length-(0+1))+1 by omega,List.replicate_succ]
  rfl
 rw[e0] at this;exact Ev.bind this .done
theorem qrz{b:qf}(h:blockB b=true){i:Nat}(hi:i<b.Ah.length):Ev (fun n=>qei n b (i:Int)) (exactL b i):=by
 have d:=qbw h hi;have l:(gt b.Ah i).Bn.length<=78:=by rw[d.snk];exact qht h
 have k:=qnX h hi;have f:Ev (fun n=>qa0 (delaysL b i) (gt b.Ah i) n ([]:List Int) 0) (exactL b i,((gt b.Ah i).Bn.length:Int)):=by
  refine loopF (Lf:=qa0 (delaysL b i) (gt b.Ah i)) (S:=fun j=>((gt b.Ah i).Bn.take j).map fun s=>gt (delaysL b i) s.toNat) (len:=(gt b.Ah i).Bn.length) (fun n=>?_) (fun j a X g=>?_)
  ·simp only[qa0,ql (je _),cond_false,jE];rfl
  ·have c:=d.sin j a;simp only[qa0,qj a,cond_true,qan a,jd,qfW c.1 (show at0 (gt b.Ah i).Bn j<((delaysL b i).length:Int) by omega),wS j];rw[qbd (by rw[ju,jw,jo];omega)];have:((gt b.Ah i).Bn.take j).map (fun s=>gt (delaysL b i) s.toNat)++[gt (delaysL b i) (at0 (gt b.Ah i).Bn j).toNat]=((gt b.Ah i).Bn.take (j+1)).map fun s=>gt (delaysL b i) s.toNat:=by
    rw[js a,jQ,qn8 a];rfl
   rw[this];exact g
 unfold qei;refine Ev.bind (qso h hi) ?_;rw[qz hi];simp only[jd];exact Ev.bind f .done
theorem quN{b:qf}(h:blockB b=true){i:Nat}(hi:i<b.Ah.length):∀k,k<(gt b.Ah i).Ba.length->∀m,m<=k->0<=gt (dlL (gt b.Ah i) (loadsL b i) k) m/\gt (dlL (gt b.Ah i) (loadsL b i) k) m<=43000000*k:=by
 have l:=qbw h hi;have t:=l.hi;have r:=l.res;intro k
 induction k with
 |zero=>
  intro _ m u;have f:m=0:=by omega
  subst f;exact⟨Je _,Je _⟩
 |succ k ih=>
  intro o m u;have c:=qpj (w:=gt b.Ah i) (ld:=loadsL b i) (k:=k);unfold dlL;rw[qmF];split
  ·have:=ih (by omega) m (by omega);omega
  ·have g:m=k+1:=by omega
   subst g;rw[c,Nat.sub_self];show 0<=W64 _/\W64 _<=_;have p:=l.par (k+1) (by omega) o;obtain⟨a,s⟩:∃a:Nat,at0 (gt b.Ah i).Ba (k+1)=(a:Int):=⟨_,qfM p.1⟩;rw[s] at p⊢;rw[jr];have v:=ih (by omega) a (by omega);have n:=(qqt h hi).2 (k+1) (by omega);have d:=qvL h hi o;have x:at0 (gt b.Ah i).Bz (k+1)*gt (loadsL b i) (k+1)<=1000*43000:=Jh n.2 d.2 d.1 (by omega);have y:0<=at0 (gt b.Ah i).Bz (k+1)*gt (loadsL b i) (k+1):=jV n.1 d.1;rw[wO (at0 (gt b.Ah i).Bz (k+1)*gt (loadsL b i) (k+1)),qaw (by omega) (by omega)];omega
theorem qrT{b:qf}(h:blockB b=true){i:Nat}(hi:i<b.Ah.length){j:Nat}(a:j<(gt b.Ah i).Bn.length):0<=gt (exactL b i) j/\gt (exactL b i) j<=344000000:=by
 have c:=qbw h hi;have d:=c.hi;have f:=c.sin j a;have e:gt (exactL b i) j=gt (delaysL b i) (at0 (gt b.Ah i).Bn j).toNat:=by
  unfold exactL;rw[qcw (by rw[ju];exact a),List.getElem_map,qn8 a]
 rw[e];have:=quN h hi ((gt b.Ah i).Ba.length-1) (by omega) (at0 (gt b.Ah i).Bn j).toNat (by omega);show 0<=gt (dlL _ _ _) _/\gt (dlL _ _ _) _<=_;omega

def pre{α:Type}(f:Nat->α)(j:Nat):List α:=(List.range j).map f
theorem qpg{α:Type}{f:Nat->α}{j:Nat}:(pre f j).length=j:=by simp[pre]
theorem qxK{α:Type}{f:Nat->α}{j:Nat}:pre f j++[f j]=pre f (j+1):=by unfold pre;rw[List.range_succ,jQ];rfl
theorem qq9{α:Type}{f:Nat->α}{j:Nat}(h:j<=1048576):appS (pre f j) [f j]=V (pre f (j+1)):=by
 rw[qbd (by rw[qpg,jo];omega),qxK]
theorem qAz{α:Type}[Inhabited α]{f:Nat->α}{n j:Nat}(h:j<n):gt (pre f n) j=f j:=qrF h
theorem qid{α:Type}[Inhabited α]{f:Nat->α}{n j:Nat}(h:j<n):idx (pre f n) (j:Int)=V (f j):=by rw[qz (by rw[qpg];exact h),qAz h]
theorem qhq{α:Type}{f g:Nat->α}{n:Nat}(h:∀k,k<n->f k=g k):pre f n=pre g n:=List.map_congr_left fun k a=>h k (List.mem_range.1 a)
theorem qps{α:Type}{f:Nat->α}{n k:Nat}{v:α}:setS (pre f n) (k:Int) v=pre (fun i=>if i=k then v else f i) n:=by
 unfold setS pre;rw[jr];refine Jn (by simp) fun i a b=>?_;rw[List.getElem_set];by_cases h:k=i
 ·subst h;simp
 ·rw[if_neg h];simp[show ¬ i=k from fun e=>h e.symm]
def fm{α:Type}(f:Nat->List α)(j:Nat):List α:=(List.range j).flatMap f
theorem qkH{α:Type}{f:Nat->List α}{j:Nat}:fm f (j+1)=fm f j++f j:=by unfold fm;rw[List.range_succ,Ji];simp
theorem qpZ{α:Type}{f:Nat->List α}{j c:Nat}(h:∀i,i<j->(f i).length<=c):(fm f j).length<=c*j:=by
 induction j with
 |zero=>exact je _
 |succ j ih=>rw[qkH,jg];have:=ih (fun i hi=>h i (by omega));have:=h j (by omega);rw[Nat.mul_succ];omega
def transL(a:qY):List qP:=
 bif (a.Bi==2) then[⟨0,0⟩,⟨0,1⟩] else bif (a.Bi==3) then[⟨1,0⟩,⟨1,1⟩] else bif (a.Bi != 1) then[] else
 bif (a.Bp==1) then[⟨0,0⟩,⟨1,1⟩] else bif (a.Bp==2) then[⟨0,1⟩,⟨1,0⟩] else[⟨0,0⟩,⟨0,1⟩,⟨1,0⟩,⟨1,1⟩]
theorem qxe{a:qY}{n:Nat}:qfc n a=V (transL a):=by
 unfold qfc transL;cases (a.Bi==2)
 ·cases (a.Bi==3)
  ·cases (a.Bi != 1)
   ·cases (a.Bp==1)
    ·cases (a.Bp==2)<;>rfl
    ·rfl
   ·rfl
  ·rfl
 ·rfl
theorem qru{a:qY}:(transL a).length<=4:=by
 unfold transL;cases (a.Bi==2)
 ·cases (a.Bi==3)
  ·cases (a.Bi != 1)
   ·cases (a.Bp==1)
    ·cases (a.Bp==2)<;>simp
    ·simp
   ·simp
  ·simp
 ·simp
def b01(x:Int):Prop:=x=0\/x=1
theorem qsM{a:qY}{t:qP}(h:t∈transL a):b01 t.e0/\b01 t.e1:=by
 have b:∀t∈[(⟨0,0⟩:qP),⟨0,1⟩,⟨1,0⟩,⟨1,1⟩],b01 t.e0/\b01 t.e1:=by
  intro t c;simp only[Jc,jT,or_false] at c;rcases c with rfl|rfl|rfl|rfl<;>simp[b01]
 refine b t ?_;unfold transL at h;revert h;cases (a.Bi==2)
 ·cases (a.Bi==3)
  ·cases (a.Bi != 1)
   ·cases (a.Bp==1)
    ·cases (a.Bp==2)
     ·exact fun h=>h
     ·intro h;simp at h;rcases h with rfl|rfl<;>simp
    ·intro h;simp at h;rcases h with rfl|rfl<;>simp
   ·intro h;simp at h
  ·intro h;simp at h;rcases h with rfl|rfl<;>simp
 ·intro h;simp at h;rcases h with rfl|rfl<;>simp
def al1(first:Int)(k:Nat)(a:qY)(t:qP):qv:=⟨2*(first+a.Bl)+t.e0,2*(first+a.To)+t.e1,1,(k:Int)⟩
def arcLs(first:Int)(k:Nat)(a:qY):List qv:=(transL a).map (al1 first k a)
def cellLs(c:qC)(first:Int)(j:Nat):List qv:=fm (fun k=>arcLs first k (gt c.Bc k)) j
def instLs(b:qf)(j:Nat):List qv:=fm (fun i=>cellLs (cellAt b (i:Int)) (off b.Aa i:Int) (cellAt b (i:Int)).Bc.length) j
theorem qqi{first:Int}{k:Nat}{a:qY}:(arcLs first k a).length<=4:=by unfold arcLs;rw[ju];exact qru
theorem qtt{b:qf}(h:blockB b=true){i:Nat}(hi:i<b.Aa.Ab.length):Ev (fun n=>qfo n b (gt b.Aa.Ab i) (off b.Aa i:Int)) (cellLs (cellAt b (i:Int)) (off b.Aa i:Int) (cellAt b (i:Int)).Bc.length):=by
 have u:=qam h;have F:=qN u;obtain⟨⟨z,A⟩,r,g⟩:=qhE u hi;have C:=qo3 g;have s:=(qhj (qjr g)).1;have v:off b.Aa i<=78:=by
  have:=qaN F;rw[qhk] at this;have:=qvg (d:=b.Aa) (show i<=b.Aa.Ab.length by omega);omega
 show Ev _ (cellLs (gt b.Au.Ay (gt b.Aa.Ab i).Bu.toNat) (off b.Aa i:Int) (gt b.Au.Ay (gt b.Aa.Ab i).Bu.toNat).Bc.length);generalize hc:gt b.Au.Ay (gt b.Aa.Ab i).Bu.toNat=c at r g C s⊢;have B:Ev (fun n=>qbj (off b.Aa i:Int) c n ([]:List qv) 0) (cellLs c (off b.Aa i:Int) c.Bc.length,(c.Bc.length:Int)):=by
  refine loopF (Lf:=qbj (off b.Aa i:Int) c) (S:=cellLs c (off b.Aa i:Int)) (len:=c.Bc.length) (fun n=>?_) (fun j p X o=>?_)
  ·simp only[qbj,ql (je _),cond_false]
  ·have I:=qnN g p;have D:(cellLs c (off b.Aa i:Int) j).length<=4*j:=qpZ fun _ _=>qqi;simp only[qbj,qj p,cond_true,qz p,jd,qxe,wS j];have m:Ev (fun n=>qbs (off b.Aa i:Int) (j:Int) (gt c.Bc j) (transL (gt c.Bc j)) n (cellLs c (off b.Aa i:Int) j) 0) (cellLs c (off b.Aa i:Int) (j+1),((transL (gt c.Bc j)).length:Int)):=by
    have H:=qru (a:=gt c.Bc j);have:=loopF (Lf:=qbs (off b.Aa i:Int) (j:Int) (gt c.Bc j) (transL (gt c.Bc j))) (S:=fun k=>cellLs c (off b.Aa i:Int) j++((transL (gt c.Bc j)).take k).map (al1 (off b.Aa i:Int) j (gt c.Bc j))) (len:=(transL (gt c.Bc j)).length) (fin:=(cellLs c (off b.Aa i:Int) (j+1),((transL (gt c.Bc j)).length:Int))) (fun n=>by
      simp only[qbs,ql (je _),cond_false,jE];show V (cellLs c _ j++arcLs _ j _,_)=V (fm _ (j+1),_);rw[qkH];rfl)
     (fun k f X o=>by
      have y:=qsM (a:=gt c.Bc j) (t:=gt (transL (gt c.Bc j)) k) (by rw[qcw f];exact jp f);have e0:W64 (W64 (2*W64 ((off b.Aa i:Int)+(gt c.Bc j).Bl))+(gt (transL (gt c.Bc j)) k).e0)=2*((off b.Aa i:Int)+(gt c.Bc j).Bl)+(gt (transL (gt c.Bc j)) k).e0:=by
       rcases y.1 with e|e<;>rw[e,wO ((off b.Aa i:Int)+(gt c.Bc j).Bl),qaw (x:=2*((off b.Aa i:Int)+(gt c.Bc j).Bl)) (by omega) (by omega),qaw (by omega) (by omega)]
      have e1:W64 (W64 (2*W64 ((off b.Aa i:Int)+(gt c.Bc j).To))+(gt (transL (gt c.Bc j)) k).e1)=2*((off b.Aa i:Int)+(gt c.Bc j).To)+(gt (transL (gt c.Bc j)) k).e1:=by
       rcases y.2 with e|e<;>rw[e,wO ((off b.Aa i:Int)+(gt c.Bc j).To),qaw (x:=2*((off b.Aa i:Int)+(gt c.Bc j).To)) (by omega) (by omega),qaw (by omega) (by omega)]
      simp only[qbs,qj f,cond_true,qz f,jd,e0,e1,wS k];rw[qbd (by rw[jg,ju,jw,jo];omega),jq];have:((transL (gt c.Bc j)).take k).map (al1 (off b.Aa i:Int) j (gt c.Bc j))++[al1 (off b.Aa i:Int) j (gt c.Bc j) (gt (transL (gt c.Bc j)) k)]=((transL (gt c.Bc j)).take (k+1)).map (al1 (off b.Aa i:Int) j (gt c.Bc j)):=qf8 f;have l:((transL (gt c.Bc j)).take k).map (al1 (off b.Aa i:Int) j (gt c.Bc j))++[(⟨2*((off b.Aa i:Int)+(gt c.Bc j).Bl)+(gt (transL (gt c.Bc j)) k).e0,2*((off b.Aa i:Int)+(gt c.Bc j).To)+(gt (transL (gt c.Bc j)) k).e1,1,(j:Int)⟩:qv)]=((transL (gt c.Bc j)).take (k+1)).map (al1 (off b.Aa i:Int) j (gt c.Bc j)):=this;rw[l];exact o)
    simpa using this
   exact Ev.bind m o
 unfold qfo;rw[qfW z A,hc];simp only[jd];exact Ev.bind B .done
def dvN(d:qd)(k:Nat):Nat:=((List.range (places d).length).find? fun j=>drvQ d (k:Int) j).getD 0
theorem qj3{l:qn}{d:qd}(h:designB l d=true){k:Nat}(f:k<d.As.length):dvN d k<(places d).length/\drvQ d (k:Int) (dvN d k)=true:=by
 obtain⟨j,b,c,a⟩:=qAM h (k:=(k:Int)) (by omega) (by omega);unfold dvN;cases hf:(List.range (places d).length).find? fun j=>drvQ d (k:Int) j with
 |none=>
  have:=List.find?_eq_none.1 hf j (List.mem_range.2 b);exact absurd (by unfold drvQ;rw[c,a];simp) this
 |some i=>exact⟨List.mem_range.1 (List.mem_of_find?_eq_some hf),by have:=List.find?_some hf;exact this⟩
theorem qo5{d:qd}{k:Int}{j:Nat}:drvQ d k j=true↔(gt (places d) j).net=k/\(gt (places d) j).drives=true:=by unfold drvQ;simp
theorem qyF{l:qn}{d:qd}(h:designB l d=true){k:Nat}(m:k<d.As.length){j:Nat}(i:j<(places d).length)(n:(gt (places d) j).net=(k:Int))(g:(gt (places d) j).drives=true):dvN d k=j:=by
 obtain⟨a,b⟩:=qj3 h m;obtain⟨c,f⟩:=qo5.1 b;exact quF h a i (by rw[c,n]) f g
def wl1(a:Nat)(s:Int)(k:Nat):List qv:=[⟨2*(a:Int),2*s,2,(k:Int)⟩,⟨2*(a:Int)+1,2*s+1,2,(k:Int)⟩]
def wlN(b:qf)(i j:Nat):List qv:=fm (fun k=>wl1 (dvN b.Aa i) (at0 (skL b i) k) k) j
def wireLs(b:qf)(j:Nat):List qv:=fm (fun i=>wlN b i (skL b i).length) j
def linksL(b:qf):List qv:=instLs b b.Aa.Ab.length++wireLs b b.Ah.length
def load0(b:qf)(i:Nat):Int:=gt (loadsL b i) 0
def viewE(b:qf)(ex:List Int):Tview:=⟨b,places b.Aa,linksL b,pre (load0 b) b.Ah.length,pre (exactL b) b.Ah.length,ex⟩
def viewV(b:qf):Tview:=viewE b []
theorem qjw{b:qf}(h:blockB b=true){j:Nat}(d:j<=b.Aa.Ab.length):(instLs b j).length<=32*j:=by
 refine qpZ fun i hi=>?_;obtain⟨_,_,a⟩:=qhE (qam h) (show i<b.Aa.Ab.length by omega);have c:=qo3 a;have:(cellLs (cellAt b (i:Int)) (off b.Aa i:Int) (cellAt b (i:Int)).Bc.length).length<=4*(cellAt b (i:Int)).Bc.length:=qpZ fun _ _=>qqi;have e:(cellAt b (i:Int)).Bc.length<=8:=c;omega
theorem qto{b:qf}{i j:Nat}:(wlN b i j).length<=2*j:=qpZ fun _ _=>je _
theorem qoU{b:qf}(h:blockB b=true){j:Nat}:(wireLs b j).length<=156*j:=by
 refine qpZ fun i _=>?_;have:=qto (b:=b) (i:=i) (j:=(skL b i).length);have:=qht h (i:=i);omega
theorem qhc{b:qf}(h:blockB b=true):(linksL b).length<=10000:=by
 have a:=qN (qam h);have c:=a.ni;have d:=a.nn;have f:=qmM h;have g:=qjw h (je _);have i:=qoU h (j:=b.Ah.length);unfold linksL;rw[jg];omega
theorem qvr{b:qf}(h:blockB b=true):Ev (fun n=>qkN n b) (V (viewV b)):=by
 have r:=qam h;have z:=qN r;have R:=qaN z;have Y:=z.ni;have a3:=z.nn;have hwl:=qmM h;have e1:Ev (fun n=>qd3 b n ([]:List qv) 0 0) (instLs b b.Aa.Ab.length,(off b.Aa b.Aa.Ab.length:Int),(b.Aa.Ab.length:Int)):=by
  have:=loopF (τ:=List qv×Int) (Lf:=fun n t j=>qd3 b n t.1 t.2 j) (S:=fun j=>(instLs b j,(off b.Aa j:Int))) (len:=b.Aa.Ab.length) (fin:=(instLs b b.Aa.Ab.length,(off b.Aa b.Aa.Ab.length:Int),(b.Aa.Ab.length:Int))) (fun n=>by simp only[qd3,ql (je _),cond_false])
   (fun j a X m=>by
    have F:=qjw h (show j<=b.Aa.Ab.length by omega);have M:=qjw h (show j+1<=b.Aa.Ab.length by omega);have N:=qk5 (d:=b.Aa) (i:=j);have a4:off b.Aa (j+1)<=78:=by
     rw[qhk] at R;have:=qvg (d:=b.Aa) (show j+1<=b.Aa.Ab.length by omega);omega
    simp only[qd3,qj a,cond_true,qz a,jd,qbt,wS j];refine Ev.bind (qtt h a) ?_;have e:instLs b j++cellLs (cellAt b (j:Int)) (off b.Aa j:Int) (cellAt b (j:Int)).Bc.length=instLs b (j+1):=qkH.symm;rw[qbd (by rw[<-jg,e];omega),e,qaw (by omega) (by omega),show(off b.Aa j:Int)+((gt b.Aa.Ab j).As.length:Int)=((off b.Aa (j+1):Nat):Int) by omega];exact m)
  exact this
 have I:mkS (b.Ah.length:Int) (0:Int)=V (vecI (fun _=>0) b.Ah.length):=qsx (by omega);have J:mkS (b.Ah.length:Int) ([]:List Int)=V (pre (fun _=>[]) b.Ah.length):=by
  rw[qmN (by omega)]
  congr 1
  refine Jn (by simp[pre]) fun i u h2=>?_;simp[pre]
 have P:Ev (fun n=>qc5 (places b.Aa) n (pre (fun _=>[]) b.Ah.length) (vecI (fun _=>0) b.Ah.length) 0) (pre (fun i=>skL b i) b.Ah.length,vecI (fun k=>(dvN b.Aa k:Int)) b.Ah.length,((places b.Aa).length:Int)):=by
  have v:∀k,k<b.Ah.length->dvN b.Aa k<(places b.Aa).length:=fun k o=>(qj3 r (by omega)).1;have:=loopF (τ:=List (List Int)×List Int) (Lf:=fun n t j=>qc5 (places b.Aa) n t.1 t.2 j) (S:=fun j=>(pre (fun i=>sinksL b.Aa (i:Int) j) b.Ah.length,vecI (fun k=>if dvN b.Aa k<j then(dvN b.Aa k:Int) else 0) b.Ah.length)) (len:=(places b.Aa).length)
   (fin:=(pre (fun i=>skL b i) b.Ah.length,vecI (fun k=>(dvN b.Aa k:Int)) b.Ah.length,((places b.Aa).length:Int))) (fun n=>by
    simp only[qc5,ql (je _),cond_false];rw[qfs (g:=fun k=>(dvN b.Aa k:Int)) (fun k o=>if_pos (v k o))]
    rfl)
   (fun j a X m=>by
    obtain⟨n0,n1⟩:=qmH r a;obtain⟨l,p⟩:∃l:Nat,(gt (places b.Aa) j).net=(l:Int):=⟨_,qfM n0⟩;have x:l<b.Ah.length:=by omega
    simp only[qc5,qj a,cond_true,qz a,jd,p,wS j,qn6 x,qid (f:=fun i=>sinksL b.Aa (i:Int) j) x];cases hdr:(gt (places b.Aa) j).drives
    ·have A:pre (fun i=>sinksL b.Aa (i:Int) (j+1)) b.Ah.length=setS (pre (fun i=>sinksL b.Aa (i:Int) j) b.Ah.length) (l:Int) (sinksL b.Aa (l:Int) j++[(j:Int)]):=by
      rw[qps];refine qhq fun k o=>?_;rw[qj6];unfold snkQ;rw[p,hdr];by_cases c:k=l
      ·subst c;rw[if_pos Z];simp
      ·rw[if_neg c,show(((l:Int)==(k:Int))&&!false)=false by simp;omega];simp
     have B:vecI (fun k=>if dvN b.Aa k<j+1 then(dvN b.Aa k:Int) else 0) b.Ah.length=vecI (fun k=>if dvN b.Aa k<j then(dvN b.Aa k:Int) else 0) b.Ah.length:=by
      refine qfs fun k o=>?_;have K:dvN b.Aa k≠j:=fun e=>by
       have:=(qo5.1 (qj3 r (k:=k) (by omega)).2).2;rw[e,hdr] at this;cases this
      by_cases u:dvN b.Aa k<j
      ·rw[if_pos u,if_pos (by omega)]
      ·rw[if_neg u,if_neg (by omega)]
     rw[A,B] at m;simp only[cond_false];have a7:(sinksL b.Aa (l:Int) j).length<=j:=by rw[qjm];exact qf6
     rw[qbd (by rw[jo];omega)];exact m
    ·have A:pre (fun i=>sinksL b.Aa (i:Int) (j+1)) b.Ah.length=pre (fun i=>sinksL b.Aa (i:Int) j) b.Ah.length:=by
      refine qhq fun k o=>?_;rw[qj6];unfold snkQ;rw[hdr];simp
     have H:=qyF r (show l<b.Aa.As.length by omega) a p hdr;have B:vecI (fun k=>if dvN b.Aa k<j+1 then(dvN b.Aa k:Int) else 0) b.Ah.length=setS (vecI (fun k=>if dvN b.Aa k<j then(dvN b.Aa k:Int) else 0) b.Ah.length) (l:Int) (j:Int):=by
      rw[qrH];refine qfs fun k o=>?_;by_cases c:k=l
      ·subst c;rw[if_pos Z,H,if_pos (by omega)]
      ·rw[if_neg c];have K:dvN b.Aa k≠j:=fun e=>by
        have:=(qo5.1 (qj3 r (k:=k) (by omega)).2).1;rw[e,p] at this;omega
       by_cases u:dvN b.Aa k<j
       ·rw[if_pos u,if_pos (by omega)]
       ·rw[if_neg u,if_neg (by omega)]
     rw[A,B] at m;exact m)
  simpa [sinksL,pre,vecI] using this
 have D:∀(i k:Nat) (s:Int) (t:List qv),i<b.Ah.length->0<=s->s<=78->t.length<=1000000->Ev (fun n=>qd2 (vecI (fun k=>(dvN b.Aa k:Int)) b.Ah.length) (i:Int) (k:Int) s n t 0) (t++wl1 (dvN b.Aa i) s k,2):=by
  intro i k s t hi a5 a6 ht;have v:=(qj3 r (k:=i) (by omega)).1;have L:idx (vecI (fun k=>(dvN b.Aa k:Int)) b.Ah.length) (i:Int)=V (dvN b.Aa i:Int):=qn6 hi;refine Ev.succ ?_;simp only[qd2,L,jd];refine Ev.tt Z ?_;rw[wO (2*(dvN b.Aa i:Int)),wO (2*s),wO (2*(dvN b.Aa i:Int)+0),wO (2*s+0),qbd (by rw[jo];omega)];simp only[jd];refine Ev.succ ?_;simp only[qd2,L,jd];refine Ev.tt Z ?_;rw[show W64 (0+1)=1 from rfl,wO (2*(dvN b.Aa i:Int)),wO (2*s),wO (2*(dvN b.Aa i:Int)+1),wO (2*s+1),qbd (by rw[jg,jo,jo];omega)];simp only[jd];refine Ev.succ ?_;simp only[qd2];refine Ev.ff Z (Ev.now ?_);unfold wl1;rw[jq,Int.add_zero,Int.add_zero]
  rfl
 have C:∀(i:Nat) (t:List qv),i<b.Ah.length->t.length<=900000->Ev (fun n=>qd5 (vecI (fun k=>(dvN b.Aa k:Int)) b.Ah.length) (i:Int) (skL b i) n t 0) (t++wlN b i (skL b i).length,((skL b i).length:Int)):=by
  intro i t hi ht;have a8:=qht h (i:=i);have:=loopF (Lf:=qd5 (vecI (fun k=>(dvN b.Aa k:Int)) b.Ah.length) (i:Int) (skL b i)) (S:=fun k=>t++wlN b i k) (len:=(skL b i).length) (fin:=(t++wlN b i (skL b i).length,((skL b i).length:Int))) (fun n=>by simp only[qd5,ql (je _),cond_false])
   (fun k o X m=>by
    obtain⟨y,L,ey,_⟩:=qpO o;have hwn:=qto (b:=b) (i:=i) (j:=k);simp only[qd5,qj o,cond_true,qan o,jd,wS k];refine Ev.bind (D i k (at0 (skL b i) k) (t++wlN b i k) hi (by omega) (by omega) (by rw[jg];omega)) ?_;rw[jq,show wlN b i k++wl1 (dvN b.Aa i) (at0 (skL b i) k) k=wlN b i (k+1) from qkH.symm];exact m)
  simpa [wlN,fm] using this
 have Q:Ev (fun n=>qd0 b (pre (fun i=>skL b i) b.Ah.length) (vecI (fun k=>(dvN b.Aa k:Int)) b.Ah.length) n ([]:List (List Int)) ([]:List Int) (instLs b b.Aa.Ab.length) 0) (pre (exactL b) b.Ah.length,pre (load0 b) b.Ah.length,linksL b,(b.Ah.length:Int)):=by
  have F:=qjw h (je _);have:=loopF (τ:=List (List Int)×List Int×List qv) (Lf:=fun n t j=>qd0 b (pre (fun i=>skL b i) b.Ah.length) (vecI (fun k=>(dvN b.Aa k:Int)) b.Ah.length) n t.1 t.2.1 t.2.2 j) (S:=fun j=>(pre (exactL b) j,pre (load0 b) j,instLs b b.Aa.Ab.length++wireLs b j)) (len:=b.Ah.length)
   (fin:=(pre (exactL b) b.Ah.length,pre (load0 b) b.Ah.length,linksL b,(b.Ah.length:Int))) (fun n=>by simp only[qd0,ql (je _),cond_false];rfl)
   (fun j a X m=>by
    have hw:=qbw h a;have W:=hw.lo;have T:=qm2 h a;have O:=qoU h (j:=j);simp only[qd0,qj a,cond_true,wS j];refine Ev.bind (qpm h a) ?_;rw[show idx (loadsL b j) (0:Int)=V (load0 b j) from qz (j:=0) (by omega)];simp only[jd];rw[qq9 (by omega)];simp only[jd];refine Ev.bind (qrz h a) ?_;rw[qq9 (by omega),qid (f:=fun i=>skL b i) a];simp only[jd];refine Ev.bind (C j _ a (by rw[jg];omega)) ?_;rw[jq,show wireLs b j++wlN b j (skL b j).length=wireLs b (j+1) from qkH.symm];exact m)
  simpa [wireLs,fm,pre] using this
 unfold qkN;refine Ev.bind (qop z) (Ev.bind e1 ?_);rw[I,J];simp only[jd];exact Ev.bind P (Ev.bind Q .done)
end Go.Fw


namespace Go.Fw
open Go Go.Proofs Go.Proofs.Tryz
open Go.RowKit (Below)
open Ch renaming own->oW,box->oX,grp->oG
open GoT renaming v->oV
open Go.Value renaming slice->oS
set_option maxRecDepth 100000
set_option maxHeartbeats 6400000
variable{n:Nat}{w:World}{cs1 cs2 cs3 cs4 cs5 cs6 cs7 cs8 cs9:List Value}
def qbI(n:Nat)(b:qf):Option Int:=(qcq n (⟨b.Aa.Ab,b.Aa.As,b.Aa.Ak⟩:qd)).bind fun a=>V (W64 (2*(a.length:Int)))
theorem qds{b:qf}(a:Ro w b cs1){r:Int}(F:qbI n b=V r):RetV prog 79 [oV qf cs1] w r:=by
 obtain⟨_,_,_,_,_,_,_,_,_,_,rfl,_,s2,c,d,_⟩:=qac a;exact zV 8 func79 Z fun h=>zSR (qx h Z Z fun _ _ h=>X1 6 0 h Z (zcL h F (qcj (qav _ (h.oldS s2) (h.oldS c) (h.oldS d))) Z fun _ _ _ _ _ h F=>X0 4 Z (ri h F Z)))
def qiy(n:Nat)(s:qe):Option Bool:=(qaq n s.Az (-1000000000) 1000000000).bind fun a=>bif a then(qaq n s.Bf (-1000000000) 1000000000).bind fun b=>bif b then V (decide (s.Az<=s.Bf)) else V false else V false
theorem qk0{s:qe}(a:Ro w s cs1){r:Bool}(F:qiy n s=V r):RetV prog 238 [oV qe cs1] w r:=by
 obtain rfl:=qA a;refine zV 18 func238 Z fun h=>zSR (qx h Z Z fun _ _ h=>X1 6 0 h Z (zcB h F qad Z fun _ _ h F=>zp1 Z (qk (t:=6) F Z ?_ ?_)))<;>intro F
 ·refine X1 5 0 h Z (zcB h F qad Z fun _ _ h F=>zp2 Z (qk (t:=11) F Z ?_ ?_))<;>intro F
  ·exact X2 13 0 0 h Z (rb h F Z)
  exact X0 8 Z (rb h F Z)
 exact X0 13 Z (rb h F Z)
def qhY(_:Nat)(s:qe):Option Bool:=bif decide (s.Az>=0) then bif decide (s.Az<=s.Bf) then V (decide (s.Bf<=1000000)) else V false else V false
theorem qmf{s:qe}(a:Ro w s cs1){r:Bool}(F:qhY n s=V r):RetV prog 274 [oV qe cs1] w r:=by
 obtain rfl:=qA a;refine zV 18 func274 Z fun h=>zSR (qx h Z Z fun _ _ h=>X1 8 0 h Z (qk (t:=6) F Z ?_ ?_))<;>intro F
 ·refine X2 12 0 0 h Z (qk (t:=13) F Z ?_ ?_)<;>intro F
  ·exact X1 9 0 h Z (rb h F Z)
  exact X0 6 Z (rb h F Z)
 exact X0 13 Z (rb h F Z)
def qbY(list:(List qh))(a:Int):Nat->Int->Option (Flow Bool Int)|0,_=>U|n+1,i1=>bif decide (i1<(list.length:Int)) then(idx list i1).bind fun l=>(qaq n l.Bq 0 (W64 (a-1))).bind fun g=>bif (!g) then V (.ret false) else bif decide (i1 > 0) then(idx list (W64 (i1-1))).bind fun m=>(idx list i1).bind fun o=>bif decide (m.Bq>=o.Bq) then V (.ret false) else(idx list i1).bind fun b=>(qiy n (⟨b.Ai.Az,b.Ai.Bf⟩:qe)).bind fun h=>bif (!h) then V (.ret false) else(idx list i1).bind fun c=>(qhY n (⟨c.Be.Az,c.Be.Bf⟩:qe)).bind fun r4=>bif (!r4) then V (.ret false) else qbY list a n (W64 (i1+1)) else(idx list i1).bind fun d=>(qiy n (⟨d.Ai.Az,d.Ai.Bf⟩:qe)).bind fun i=>bif (!i) then V (.ret false) else(idx list i1).bind fun f=>(qhY n (⟨f.Be.Az,f.Be.Bf⟩:qe)).bind fun k=>bif (!k) then V (.ret false) else qbY list a n (W64 (i1+1)) else V (.nxt i1)
def qgs(n:Nat)(b:qf)(list:(List qh)):Option Bool:=(qbI n b).bind fun a=>(qbY list a n 0).bind fun|.ret r=>V r|.nxt _=>V true
theorem qo2{b:qf}{list:(List qh)}(d:Ro w b cs1)(l:Ro w list cs2){r:Bool}(F:qgs n b list=V r):RetV prog 234 [oV qf cs1,oV (List qh) cs2] w r:=by
 obtain⟨_,_,_,_,_,_,_,_,_,_,rfl,_,_,_,_,_⟩:=qac d;obtain⟨p6,k6,rfl,c⟩:=l;refine zV 60 func234 Z fun h=>zSR (qx h Z Z fun _ _ h=>X1 5 0 h Z (zcI h F (qds (h.old d)) Z fun r1 _ h F=>X0 7 Z ?_));obtain⟨o1,F,a⟩:=qc F;refine qm ?_;replace h:=h.p [] Z;refine rL (fun m e w'=>∃i1,qbY list r1 m i1=V o1/\e=[(1,oS p6 list.length k6),(5,vi r1),(6,vi i1)]/\SH w w' []) n ⟨_,F,rfl,h⟩ Z ?_;rintro m1 _ _ ⟨i1,F,rfl,h⟩;rcases m1 with _|m1
 ·cases F
 refine X0 8 Z (qg Z F ?_ ?_)<;>intro F
 ·refine X0 4 Z (rD (zd2 Z ?_));obtain⟨_,_,F,z,_,_,_,_,J,Q,a3,o⟩:=c.ix F;obtain rfl:=qJ a3;refine zdxe J Q z Z (zd1 Z (zdc 0 (o.below h.below) Z (zd2 Z ?_)));obtain⟨r2,a4,F⟩:=qc F;refine qaK r2 (vsB _) (cB 43 Z) (fun _ hb=>qad  a4) Z Z Z Z (zd2 Z (qaR (t:=24) F Z ?_ ?_))<;>intro F
  ·refine Y0 35 Z (dN h fun _ h=>qcl Z Z (X0 4 Z ?_));obtain rfl:=qb F;replace F:=a;exact rb h F Z
  refine Y0 6 Z (qaR (t:=27) F Z ?_ ?_)<;>intro F
  ·refine Y0 7 Z ?_;obtain⟨_,_,F,A,_,_,_,_,K,R,a5,p⟩:=c.ix F;obtain rfl:=qJ a5;refine zdxe K R A Z (Y0 3 Z (zdc 0 (p.below h.below) Z (Y0 5 Z ?_)));obtain⟨_,_,F,B,_,_,_,_,L,S,a6,s⟩:=c.ix F;obtain rfl:=qJ a6;refine zdxe L S B Z (Y0 3 Z (zdc 0 (s.below h.below) Z (Y0 6 Z (qaR (t:=42) F Z ?_ ?_))))<;>intro F
   ·refine Y0 17 Z (dN h fun _ h=>qcl Z Z (X0 4 Z ?_));obtain rfl:=qb F;replace F:=a;exact rb h F Z
   refine Y0 5 Z ?_;obtain⟨_,_,F,C,_,_,_,_,M,T,a7,u⟩:=c.ix F;obtain rfl:=qJ a7;refine zdxe M T C Z (Y0 3 Z (zdc 1 (u.below h.below) Z (Y0 1 Z ?_)));obtain⟨r3,a8,F⟩:=qc F;refine qaK r3 (vsB _) (cB 238 Z) (fun _ hb=>qk0 (qB _) a8) Z Z Z Z (Y0 4 Z (qaR (t:=51) F Z ?_ ?_))<;>intro F
   ·refine Y0 8 Z (dN h fun _ h=>qcl Z Z (X0 4 Z ?_));obtain rfl:=qb F;replace F:=a;exact rb h F Z
   refine Y0 5 Z ?_;obtain⟨_,_,F,D,_,_,_,_,N,W,a9,v⟩:=c.ix F;obtain rfl:=qJ a9;refine zdxe N W D Z (Y0 3 Z (zdc 3 (v.below h.below) Z (Y0 1 Z ?_)));obtain⟨r4,b4,F⟩:=qc F;refine qaK r4 (vsB _) (cB 274 Z) (fun _ hb=>qmf (qB _) b4) Z Z Z Z (Y0 3 Z (dN h fun _ h=>qg Z F ?_ ?_))<;>intro F
   ·refine X0 4 Z ?_;obtain rfl:=qb F;replace F:=a;exact rb h F Z
   exact X0 7 Z (rK ⟨_,F,rfl,h⟩ Z)
  refine Y0 21 Z ?_;obtain⟨_,_,F,H,_,_,_,_,O,X,f,x⟩:=c.ix F;obtain rfl:=qJ f;refine zdxe O X H Z (Y0 3 Z (zdc 1 (x.below h.below) Z (Y0 1 Z ?_)));obtain⟨r5,g,F⟩:=qc F;refine qaK r5 (vsB _) (cB 238 Z) (fun _ hb=>qk0 (qB _) g) Z Z Z Z (Y0 4 Z (qaR (t:=51) F Z ?_ ?_))<;>intro F
  ·refine Y0 8 Z (dN h fun _ h=>qcl Z Z (X0 4 Z ?_));obtain rfl:=qb F;replace F:=a;exact rb h F Z
  refine Y0 5 Z ?_;obtain⟨_,_,F,I,_,_,_,_,P,Y,i,y⟩:=c.ix F;obtain rfl:=qJ i;refine zdxe P Y I Z (Y0 3 Z (zdc 3 (y.below h.below) Z (Y0 1 Z ?_)));obtain⟨r6,k,F⟩:=qc F;refine qaK r6 (vsB _) (cB 274 Z) (fun _ hb=>qmf (qB _) k) Z Z Z Z (Y0 3 Z (dN h fun _ h=>qg Z F ?_ ?_))<;>intro F
  ·refine X0 4 Z ?_;obtain rfl:=qb F;replace F:=a;exact rb h F Z
  exact X0 7 Z (rK ⟨_,F,rfl,h⟩ Z)
 refine qu Z ?_;obtain rfl:=qb F;replace F:=a;exact X0 4 Z (rb h F Z)
def qlN(n:Nat)(t:Int):Option Bool:=(qaV n t (-1000000000) 1000000000).bind fun a=>V a
theorem qoe{t}  {r:Bool}(F:qlN n t=V r):RetV prog 221 [vi t] w r:=by
 exact zV 5 func221 Z fun h=>X0 7 Z (zcB h F qaF Z fun _ _ h F=>X0 2 Z (rb h F Z))
def qhh(n:Nat)(s:qe):Option Bool:=(qlN n s.Az).bind fun a=>bif a then(qlN n s.Bf).bind fun b=>bif b then V (decide (s.Az<=s.Bf)) else V false else V false
theorem qjg{s:qe}(a:Ro w s cs1){r:Bool}(F:qhh n s=V r):RetV prog 163 [oV qe cs1] w r:=by
 obtain rfl:=qA a;refine zV 18 func163 Z fun h=>zSR (qx h Z Z fun _ _ h=>X1 6 0 h Z (zcB h F qoe Z fun _ _ h F=>zp1 Z (qk (t:=6) F Z ?_ ?_)))<;>intro F
 ·refine X1 5 0 h Z (zcB h F qoe Z fun _ _ h F=>zp2 Z (qk (t:=11) F Z ?_ ?_))<;>intro F
  ·exact X2 13 0 0 h Z (rb h F Z)
  exact X0 8 Z (rb h F Z)
 exact X0 13 Z (rb h F Z)
def qlW(n:Nat)(b:Int):Option Bool:=(qaV n b 0 1000000).bind fun a=>V a
theorem qnI{a_n}  {r:Bool}(F:qlW n a_n=V r):RetV prog 263 [vi a_n] w r:=by
 exact zV 5 func263 Z fun h=>X0 7 Z (zcB h F qaF Z fun _ _ h F=>X0 2 Z (rb h F Z))
def qh2(n:Nat)(s:qe):Option Bool:=(qhh n s).bind fun a=>bif a then(qlW n s.Az).bind fun b=>bif b then(qlW n s.Bf).bind fun c=>V c else V false else V false
theorem qmw{s:qe}(a:Ro w s cs1){r:Bool}(F:qh2 n s=V r):RetV prog 213 [oV qe cs1] w r:=by
 obtain rfl:=qA a;refine zV 15 func213 Z fun h=>zSR (qx h Z Z fun _ _ h=>X1 5 0 h Z (zcB h F (qjg (h.old a)) Z fun _ _ h F=>zp1 Z (qk (t:=5) F Z ?_ ?_)))<;>intro F
 ·refine X1 5 0 h Z (zcB h F qnI Z fun _ _ h F=>zp2 Z (qk (t:=10) F Z ?_ ?_))<;>intro F
  ·exact X1 5 0 h Z (zcB h F qnI Z fun _ _ h F=>X0 3 Z (rb h F Z))
  exact X0 6 Z (rb h F Z)
 exact X0 11 Z (rb h F Z)
def qeg(_:Nat)(list:(List Tplace)):Option Int:=V (list.length:Int)
theorem qlx{list:(List Tplace)}(a:Ro w list cs1){r:Int}(F:qeg n list=V r):RetV prog 112 [oV (List Tplace) cs1] w r:=by
 obtain⟨_,_,rfl,_⟩:=a;exact zV 5 func112 Z fun h=>X0 10 Z (ri h F Z)
def qb3(n:Nat)(v:(Option Tview)):Option Int:=(v).bind fun b=>(qeg n b.places).bind fun a=>V (W64 (2*a))
theorem qdl{v:(Option Tview)}(a:Ro w v cs1){r:Int}(F:qb3 n v=V r):RetV prog 68 [oV (Option Tview) cs1] w r:=by
 obtain⟨_,rfl,g⟩:=qau a;refine zV 9 func68 Z fun h=>X0 7 Z ?_;obtain⟨_,d,F⟩:=qc F;obtain⟨_,f,_,rfl,-,c,b⟩:=PtR.get g d;obtain⟨_,_,_,_,_,_,_,_,_,_,_,_,_,_,_,_,_,_,_,_,rfl,_,_,_,_,_,i,_,_,_,_⟩:=qcf c;exact zp2 Z (zc 5 (b.below h.below) Z (zcI h F (qlx ⟨_,_,rfl,(h.oldS i)⟩) Z fun _ _ h F=>X0 3 Z (ri h F Z)))
def qjx(n:Nat)(v:(Option Tview))(node:Int):Option Bool:=(qb3 n v).bind fun a=>(qaV n node 0 (W64 (a-1))).bind fun b=>V b
theorem qoG{v:(Option Tview)}{node}(a:Ro w v cs1){r:Bool}(F:qjx n v node=V r):RetV prog 216 [oV (Option Tview) cs1,vi node] w r:=by
 obtain⟨_,rfl,b⟩:=qau a;exact zV 10 func216 Z fun h=>X0 8 Z (zcI h F (qdl (h.old b)) Z fun _ _ h F=>zp1 Z (zcB h F qaF Z fun _ _ h F=>X0 2 Z (rb h F Z)))
def qaU(v:(Option Tview))(list:(List qh)):Nat->Int->Option (Flow Bool Int)|0,_=>U|n+1,i1=>bif decide (i1<(list.length:Int)) then(idx list i1).bind fun a=>(qjx n v a.Bq).bind fun b=>bif (!b) then V (.ret false) else(qhh n (⟨a.Ai.Az,a.Ai.Bf⟩:qe)).bind fun c=>bif (!c) then V (.ret false) else(qh2 n (⟨a.Be.Az,a.Be.Bf⟩:qe)).bind fun d=>bif (!d) then V (.ret false) else bif decide (i1 > 0) then(idx list (W64 (i1-1))).bind fun f=>bif decide (f.Bq>=a.Bq) then V (.ret false) else qaU v list n (W64 (i1+1)) else qaU v list n (W64 (i1+1)) else V (.nxt i1)
def qdD(n:Nat)(v:(Option Tview))(list:(List qh)):Option Bool:=(qaU v list n 0).bind fun|.ret r=>V r|.nxt _=>V true
theorem qmk{v:(Option Tview)}{list:(List qh)}(b:Ro w v cs1)(c:Ro w list cs2){r:Bool}(F:qdD n v list=V r):RetV prog 158 [oV (Option Tview) cs1,oV (List qh) cs2] w r:=by
 obtain⟨H,rfl,L⟩:=qau b;obtain⟨C,A,rfl,s2⟩:=c;refine zV 47 func158 Z fun h=>X0 11 Z ?_;obtain⟨D,F,a⟩:=qc F;refine qm (rL (fun m e w'=>∃i1,qaU v list m i1=V D/\e=[(0,.pointer H),(1,oS C list.length A),(7,oS C list.length A),(8,vi (list.length:Int)),(9,vi i1)]/\SH w w' []) n ⟨_,F,rfl,h⟩ Z ?_);rintro B _ _ ⟨i1,F,rfl,h⟩;rcases B with _|B
 ·cases F
 refine X0 5 Z (qg Z F ?_ ?_)<;>intro F
 ·refine X0 6 Z ?_;obtain⟨_,_,F,g,_,_,_,_,k,o,s,d⟩:=s2.ix F;obtain rfl:=qJ s;refine zxe k o g Z (zc 0 (d.below h.below) Z (qp qa h Z Z Z fun _ _ h=>zp1 Z (zs 0 h Z fun _ h=>zNS (rD (Y1 3 0 h Z ?_)))));obtain⟨I,u,F⟩:=qc F;refine qaK I (vsB _) (cB 216 Z) (fun _ M=>qoG ((h.ext M).old L) u) Z Z Z Z (zd2 Z (qaR (t:=19) F Z ?_ ?_))<;>intro F
  ·refine Y0 26 Z (dN h fun _ h=>qcl Z Z (X0 4 Z ?_));obtain rfl:=qb F;replace F:=a;exact rb h F Z
  refine Y1 4 0 h Z ?_;refine Y0 1 Z ?_;obtain⟨J,x,F⟩:=qc F;refine qaK J (vsB _) (cB 163 Z) (fun _ M=>qjg (qB _) x) Z Z Z Z (Y0 4 Z (qaR (t:=25) F Z ?_ ?_))<;>intro F
  ·refine Y0 20 Z (dN h fun _ h=>qcl Z Z (X0 4 Z ?_));obtain rfl:=qb F;replace F:=a;exact rb h F Z
  refine Y1 4 0 h Z ?_;refine Y0 1 Z ?_;obtain⟨K,y,F⟩:=qc F;refine qaK K (vsB _) (cB 213 Z) (fun _ M=>qmw (qB _) y) Z Z Z Z (Y0 4 Z (qaR (t:=31) F Z ?_ ?_))<;>intro F
  ·refine Y0 14 Z (dN h fun _ h=>qcl Z Z (X0 4 Z ?_));obtain rfl:=qb F;replace F:=a;exact rb h F Z
  refine Y0 6 Z (qaR (t:=34) F Z ?_ ?_)<;>intro F
  ·refine Y0 7 Z ?_;obtain⟨_,_,F,i,_,_,_,_,l,p,z,f⟩:=s2.ix F;obtain rfl:=qJ z;refine zdxe l p i Z (Y0 3 Z (zdc 0 (f.below h.below) Z (Y1 4 0 h Z ?_)));refine Y0 5 Z (dN h fun _ h=>qg Z F ?_ ?_)<;>intro F
   ·refine X0 4 Z ?_;obtain rfl:=qb F;replace F:=a;exact rb h F Z
   refine X0 6 Z ?_;replace h:=h.p [] Z;exact rK ⟨_,F,rfl,h⟩ Z
  refine Y0 12 Z (dN h fun _ h=>qb8 Z Z (X0 6 Z ?_));replace h:=h.p [] Z;exact rK ⟨_,F,rfl,h⟩ Z
 refine qu Z ?_;obtain rfl:=qb F;replace F:=a;exact X0 4 Z (rb h F Z)
def qlc(_:Nat)(a:(List qh))(left:Int):Option Int:=bif decide ((W64 (left-(a.length:Int)))<0) then V (-1) else V (W64 (left-(a.length:Int)))
theorem qpt{a:(List qh)}{left}(b:Ro w a cs1){r:Int}(F:qlc n a left=V r):RetV prog 25 [oV (List qh) cs1,vi left] w r:=by
 obtain⟨_,_,rfl,_⟩:=b;refine zV 12 func25 Z fun h=>X0 18 Z (qg Z F ?_ ?_)<;>intro F
 ·exact X0 4 Z (ri h F Z)
 exact X0 6 Z (ri h F Z)
def qj1(_:Nat)(a:qe):Option qe:=V (⟨a.Az,a.Bf⟩:qe)
theorem qn4{a:qe}(b:Ro w a cs1){r:qe}(F:qj1 n a=V r):RetV prog 107 [oV qe cs1] w r:=by
 obtain rfl:=qA b;refine zV 11 func107 Z fun h=>zSR (qx h Z Z fun _ _ h=>qp qa h Z Z Z fun _ _ h=>zNSR (qp qa h Z Z Z fun _ _ h=>X1 6 2 h Z (zs 0 h Z fun _ h=>X1 6 2 h Z (zs 0 h Z fun _ h=>X1 4 0 h Z (zs 1 h Z fun _ h=>qaj ?_)))));obtain rfl:=qb F;exact qU qa (ρ:=qe) [oV qe (qie a)] h ⟨⟨_,_,_,rfl,rfl,h.box 1 Z,rfl⟩,G⟩ (PV.done h (qaa (qw (S:=fun _=>False) (qB (⟨a.Az,a.Bf⟩:qe)))))
def qhQ(n:Nat)(a:qh):Option qh:=(qj1 n (⟨a.Ai.Az,a.Ai.Bf⟩:qe)).bind fun b=>(qj1 n (⟨a.Be.Az,a.Be.Bf⟩:qe)).bind fun c=>V (⟨a.Bq,(⟨b.Az,b.Bf⟩:qe),(⟨c.Az,c.Bf⟩:qe)⟩:qh)
theorem qpY{a:qh}(d:Ro w a cs1){r:qh}(F:qhQ n a=V r):RetV prog 65 [oV qh cs1] w r:=by
 obtain rfl:=qJ d;refine zV 16 func65 Z fun h=>zSR (qx h Z Z fun _ _ h=>qp qa h Z Z Z fun _ _ h=>zNSR (qp qa h Z Z Z fun _ _ h=>X1 6 2 h Z (zs 0 h Z fun _ h=>X1 5 2 h Z (zcO h F (qn4 (qB _)) Z fun b _ _ _ h F=>?_))));obtain rfl:=qA (h.own 0 Z);refine zp1 Z (zs 1 h Z fun _ h=>X1 5 3 h Z (zcO h F (qn4 (qB _)) Z fun c _ _ _ h F=>?_));obtain rfl:=qA (h.own 0 Z);refine zp1 Z (zs 2 h Z fun _ h=>X1 4 2 h Z (zs 3 h Z fun _ h=>qaj ?_));obtain rfl:=qb F;exact qU qa (ρ:=qh) [oV qh [vi a.Bq,vi b.Az,vi b.Bf,vi c.Az,vi c.Bf]] h ⟨⟨_,_,_,rfl,rfl,h.box 3 Z,rfl⟩,G⟩ (PV.done h (qaa (qw (S:=fun _=>False) (qcg (⟨a.Bq,(⟨b.Az,b.Bf⟩:qe),(⟨c.Az,c.Bf⟩:qe)⟩:qh)))))
def qe9(a:(List qh)):Nat->(List qh)->Int->Option ((List qh)×Int)|0,_,_=>U|n+1,b,i1=>bif decide (i1<(a.length:Int)) then(idx a i1).bind fun d=>(qhQ n d).bind fun c=>(idx b i1).bind fun _=>qe9 a n (setS b i1 c) (W64 (i1+1)) else V (b,i1)
def qiN(n:Nat)(a:(List qh)):Option (List qh):=(mkS (a.length:Int) ((⟨0,(⟨0,0⟩:qe),(⟨0,0⟩:qe)⟩:qh):qh)).bind fun x1=>(qe9 a n x1 0).bind fun(b,_)=>V b
theorem qpE{a:(List qh)}(i:Ro w a cs1){r:(List qh)}(F:qiN n a=V r):RetV prog 30 [oV (List qh) cs1] w r:=by
 obtain⟨I,D,rfl,J⟩:=i;refine zV 23 func30 Z fun h=>X0 8 Z ?_;obtain⟨x1,b,F⟩:=qc F;obtain⟨B,C,b⟩:=qQ b;refine qai qa qh h Z Z Z Z Z Z Z Z Z B C b Z fun _ S1 z h=>X0 7 Z ?_;obtain⟨H,F,g⟩:=qc F;refine qm (rL (fun m e w'=>∃x i1,qe9 a m x i1=V H/\e=[(0,oS I a.length D),(3,oS z x1.length x1.length),(4,vi i1)]/\SH w w' [oW S1 (x:List qh) [oS z x1.length x1.length]]) n ⟨_,_,F,rfl,h⟩ Z ?_);rintro y _ _ ⟨x,i1,F,rfl,h⟩;rcases y with _|y
 ·cases F
 refine X0 8 Z (qg Z F ?_ ?_)<;>intro F
 ·refine X0 8 Z ?_;obtain⟨K,_,F,o,_,_,_,_,p,s,t,k⟩:=J.ix F;obtain rfl:=qJ t;refine zxe p s o Z (zc 0 (k.below h.below) Z (zcO h F (qpY (qcg K)) Z fun A _ _ _ h F=>?_));obtain rfl:=qJ (h.own 0 Z);obtain⟨L,v,F,c,_,_,_,_,d,f,u,l⟩:=(h.sl 1 Z).1.ix F;obtain rfl:=qJ u;refine zx d f ⟨c.1,qD c.2.1 (h.sl 1 Z).2⟩ Z (qbg qa 1 0 A h Z v d f (qcg L) l Z Z Z (qcg A) Z Z Z fun _ h=>X0 7 Z ?_);replace h:=h.p [1] Z;exact rK ⟨_,_,F,rfl,h⟩ Z
 refine qu Z ?_;obtain rfl:=qb F;replace F:=g;refine X0 5 Z ?_;obtain rfl:=qb F;exact rO 0 h Z ⟨rfl,G⟩
def qkf(_:Nat)(a:qe)(b:qe):Option Bool:=bif (a.Az != b.Az) then V false else bif (a.Bf != b.Bf) then V false else V true
theorem qnF{a:qe}{b:qe}(c:Ro w a cs1)(d:Ro w b cs2){r:Bool}(F:qkf n a b=V r):RetV prog 119 [oV qe cs1,oV qe cs2] w r:=by
 obtain rfl:=qA c;obtain rfl:=qA d;refine zV 15 func119 Z fun h=>zSR (qx h Z Z fun _ _ h=>qx h Z Z fun _ _ h=>X2 11 1 0 h Z (qg Z F ?_ ?_))<;>intro F
 ·exact X0 4 Z (rb h F Z)
 refine X2 10 1 0 h Z (qg Z F ?_ ?_)<;>intro F
 ·exact X0 4 Z (rb h F Z)
 exact X0 5 Z (rb h F Z)
def qh4(n:Nat)(a:qh)(b:qh):Option Bool:=bif (a.Bq != b.Bq) then V false else(qkf n (⟨a.Ai.Az,a.Ai.Bf⟩:qe) (⟨b.Ai.Az,b.Ai.Bf⟩:qe)).bind fun c=>bif (!c) then V false else(qkf n (⟨a.Be.Az,a.Be.Bf⟩:qe) (⟨b.Be.Az,b.Be.Bf⟩:qe)).bind fun d=>bif (!d) then V false else V true
theorem qpN{a:qh}{b:qh}(c:Ro w a cs1)(d:Ro w b cs2){r:Bool}(F:qh4 n a b=V r):RetV prog 74 [oV qh cs1,oV qh cs2] w r:=by
 obtain rfl:=qJ c;obtain rfl:=qJ d;refine zV 22 func74 Z fun h=>zSR (qx h Z Z fun _ _ h=>qx h Z Z fun _ _ h=>X2 11 1 0 h Z (qg Z F ?_ ?_))<;>intro F
 ·exact X0 4 Z (rb h F Z)
 refine X2 8 1 0 h Z (zcB h F (qnF (qB _) (qB _)) Z fun _ _ h F=>X0 2 Z (qg Z F ?_ ?_))<;>intro F
 ·exact X0 4 Z (rb h F Z)
 refine X2 8 1 0 h Z (zcB h F (qnF (qB _) (qB _)) Z fun _ _ h F=>X0 2 Z (qg Z F ?_ ?_))<;>intro F
 ·exact X0 4 Z (rb h F Z)
 exact X0 5 Z (rb h F Z)
def qe7(a:(List qh))(b:(List qh)):Nat->Int->Option (Flow Bool Int)|0,_=>U|n+1,i1=>bif decide (i1<(a.length:Int)) then(idx a i1).bind fun d=>(idx b i1).bind fun f=>(qh4 n d f).bind fun c=>bif (!c) then V (.ret false) else qe7 a b n (W64 (i1+1)) else V (.nxt i1)
def qi6(n:Nat)(a:(List qh))(b:(List qh)):Option Bool:=bif ((a.length:Int) != (b.length:Int)) then V false else(qe7 a b n 0).bind fun|.ret r=>V r|.nxt _=>V true
theorem qpv{a:(List qh)}{b:(List qh)}(d:Ro w a cs1)(f:Ro w b cs2){r:Bool}(F:qi6 n a b=V r):RetV prog 36 [oV (List qh) cs1,oV (List qh) cs2] w r:=by
 obtain⟨C,z,rfl,I⟩:=d;obtain⟨D,A,rfl,s2⟩:=f;refine zV 27 func36 Z fun h=>X0 13 Z (qg Z F ?_ ?_)<;>intro F
 ·exact X0 4 Z (rb h F Z)
 refine X0 6 Z ?_;obtain⟨B,F,c⟩:=qc F;refine qm (rL (fun m e w'=>∃i1,qe7 a b m i1=V B/\e=[(0,oS C a.length z),(1,oS D b.length A),(5,vi i1)]/\SH w w' []) n ⟨_,F,rfl,h⟩ Z ?_);rintro y _ _ ⟨i1,F,rfl,h⟩;rcases y with _|y
 ·cases F
 refine X0 8 Z (qg Z F ?_ ?_)<;>intro F
 ·refine X0 4 Z (rD (zd2 Z ?_));obtain⟨J,_,F,k,_,_,_,_,o,s,u,g⟩:=I.ix F;obtain rfl:=qJ u;refine zdxe o s k Z (zdc 0 (g.below h.below) Z (zd2 Z ?_));obtain⟨K,_,F,l,_,_,_,_,p,t,v,i⟩:=s2.ix F;obtain rfl:=qJ v;refine zdxe p t l Z (zdc 0 (i.below h.below) Z ?_);obtain⟨H,x,F⟩:=qc F;refine qaK H (vsB _) (cB 74 Z) (fun _ L=>qpN (qcg J) (qcg K) x) Z Z Z Z (zd1 Z (dN h fun _ h=>qg Z F ?_ ?_))<;>intro F
  ·refine X0 4 Z ?_;obtain rfl:=qb F;replace F:=c;exact rb h F Z
  exact X0 7 Z (rK ⟨_,F,rfl,h⟩ Z)
 refine qu Z ?_;obtain rfl:=qb F;replace F:=c;exact X0 4 Z (rb h F Z)
def qmj(_:Nat)(list:(List Bool)):Option Int:=V (list.length:Int)
theorem qoz{list:(List Bool)}(a:Ro w list cs1){r:Int}(F:qmj n list=V r):RetV prog 211 [oV (List Bool) cs1] w r:=by
 obtain⟨_,_,rfl,_⟩:=a;exact zV 5 func211 Z fun h=>X0 10 Z (ri h F Z)
def qgM(_:Nat)(list:(List qe)):Option Int:=V (list.length:Int)
theorem qhT{list:(List qe)}(a:Ro w list cs1){r:Int}(F:qgM n list=V r):RetV prog 212 [oV (List qe) cs1] w r:=by
 obtain⟨_,_,rfl,_⟩:=a;exact zV 5 func212 Z fun h=>X0 10 Z (ri h F Z)
def qeQ(a:qq):Nat->Int->Option (Flow Bool Int)|0,_=>U|n+1,i1=>bif decide (i1<(a.Bb.length:Int)) then(idx a.Bb i1).bind fun g=>(idx a.Ai i1).bind fun h=>(qhh n h).bind fun d=>bif (!d) then V (.ret false) else(idx a.Be i1).bind fun i=>(qh2 n i).bind fun f=>bif (!f) then V (.ret false) else bif (!g) then(idx a.Ai i1).bind fun b=>bif (!((b.Az==0)&&(b.Bf==0))) then V (.ret false) else(idx a.Be i1).bind fun c=>bif (!((c.Az==0)&&(c.Bf==0))) then V (.ret false) else qeQ a n (W64 (i1+1)) else qeQ a n (W64 (i1+1)) else V (.nxt i1)
def qk9(n:Nat)(b:(Option Tview))(a:qq):Option Bool:=(qb3 n b).bind fun c=>((qmj n a.Bb).bind fun r4=>bif (r4 != c) then V true else(qgM n a.Ai).bind fun d=>bif (d != c) then V true else(qgM n a.Be).bind fun f=>V (f != c)).bind fun b1=>bif b1 then V false else(qeQ a n 0).bind fun|.ret r=>V r|.nxt _=>V true
theorem qnv{f:(Option Tview)}{a:qq}(k:Ro w f cs1)(l:Ro w a cs2){r:Bool}(F:qk9 n f a=V r):RetV prog 156 [oV (Option Tview) cs1,oV qq cs2] w r:=by
 obtain⟨_,rfl,s1⟩:=qau k;obtain⟨W,T,p3,k2,p4,k3,rfl,s2,X,Y⟩:=qcS l;refine zV 76 func156 Z fun h=>zSR (qx h Z Z fun _ c h=>X0 5 Z (zcI h F (qdl (h.old s1)) Z fun _ _ h F=>X0 4 Z ?_));obtain⟨i,g,_,F,d⟩:=bindE F;refine qa1 (fun e w'=>∃b1,i b1=V r/\e=[(3,vp c),(28,.bool b1)]/\SH w w' [oX c (qbV a W p3 p4 T k2 k3) 111]) ?_ ?_
 ·refine X1 3 0 h Z (zcI h F (qoz ⟨_,_,rfl,(h.oldS s2)⟩) Z fun _ _ h F=>zp3 Z (qk (t:=15) F Z ?_ ?_))<;>intro F
  ·refine X0 14 Z ?_;obtain rfl:=qb F;exact rG ⟨_,d,rfl,h⟩ Z
  refine X1 5 0 h Z (zcI h F (qhT ⟨_,_,rfl,(h.oldS X)⟩) Z fun _ _ h F=>X0 6 Z (qk (t:=22) F Z ?_ ?_))<;>intro F
  ·refine X0 7 Z ?_;obtain rfl:=qb F;exact rG ⟨_,d,rfl,h⟩ Z
  refine X1 5 0 h Z (zcI h F (qhT ⟨_,_,rfl,(h.oldS Y)⟩) Z fun _ _ h F=>X0 6 Z ?_);obtain rfl:=qb F;exact rG ⟨_,d,rfl,h⟩ Z
 rintro _ _ ⟨b1,F,rfl,h⟩;subst g;refine qg Z F ?_ ?_<;>intro F
 ·exact X0 4 Z (rb h F Z)
 refine X1 9 0 h Z ?_;obtain⟨o1,F,b⟩:=qc F;refine qm (rL (fun m e w'=>∃i1,qeQ a m i1=V o1/\e=[(3,vp c),(30,oS W a.Bb.length T),(31,vi (a.Bb.length:Int)),(32,vi i1)]/\SH w w' [oX c (qbV a W p3 p4 T k2 k3) 111]) n ⟨_,F,rfl,h⟩ Z ?_);rintro m1 _ _ ⟨i1,F,rfl,h⟩;rcases m1 with _|m1
 ·cases F
 refine X0 5 Z (qg Z F ?_ ?_)<;>intro F
 ·refine X0 6 Z ?_;obtain⟨_,_,F,x,_,_,_,_,C,K,rfl,o⟩:=s2.ix F;refine zxe C K x Z (zc 0 (o.below h.below) Z (X1 8 0 h Z ?_));obtain⟨y2,_,F,y,_,_,_,_,D,L,P,p⟩:=X.ix F;obtain rfl:=qA P;refine zxe D L y Z (zc 0 (p.below h.below) Z (zcB h F (qjg (qB y2)) Z fun _ _ h F=>zp2 Z (qk (t:=44) F Z ?_ ?_)))<;>intro F
  ·refine X0 31 Z (qcl Z Z (X0 4 Z ?_));obtain rfl:=qb F;replace F:=b;exact rb h F Z
  refine X1 7 0 h Z ?_;obtain⟨y3,_,F,z,_,_,_,_,H,M,Q,s⟩:=Y.ix F;obtain rfl:=qA Q;refine zxe H M z Z (X0 1 Z (zc 0 (s.below h.below) Z (X0 1 Z (zcB h F (qmw (qB y3)) Z fun _ _ h F=>X0 4 Z (qk (t:=53) F Z ?_ ?_)))))<;>intro F
  ·refine X0 22 Z (qcl Z Z (X0 4 Z ?_));obtain rfl:=qb F;replace F:=b;exact rb h F Z
  refine X0 6 Z (qk (t:=56) F Z ?_ ?_)<;>intro F
  ·refine X1 7 0 h Z ?_;obtain⟨_,_,F,A,_,_,_,_,I,N,R,u⟩:=X.ix F;obtain rfl:=qA R;refine zxe I N A Z (X0 1 Z (zc 0 (u.below h.below) Z (X0 1 Z (r_v (qG qa [] [] Z Z Z Z Z Z Z Z) Z (X0 1 Z (r_v (qx6 (by kernel_rfl) Z Z) Z (X0 2 Z (qk (t:=64) F Z ?_ ?_))))))))<;>intro F
   ·refine X0 13 Z (qcl Z Z (X0 4 Z ?_));obtain rfl:=qb F;replace F:=b;exact rb h F Z
   refine X1 7 0 h Z ?_;obtain⟨_,_,F,B,_,_,_,_,J,O,S,v⟩:=Y.ix F;obtain rfl:=qA S;refine zxe J O B Z (X0 1 Z (zc 0 (v.below h.below) Z (X0 1 Z (r_v (qG qa [] [] Z Z Z Z Z Z Z Z) Z (X0 1 Z (r_v (qx6 (by kernel_rfl) Z Z) Z (X0 6 Z (qg Z F ?_ ?_))))))))<;>intro F
   ·refine X0 4 Z ?_;obtain rfl:=qb F;replace F:=b;exact rb h F Z
   exact X0 6 Z (rK ⟨_,F,rfl,h⟩ Z)
  exact X0 20 Z (qb8 Z Z (X0 6 Z (rK ⟨_,F,rfl,h⟩ Z)))
 refine qu Z ?_;obtain rfl:=qb F;replace F:=b;exact X0 4 Z (rb h F Z)
def qgK(_:Nat)(list:(List qv)):Option Int:=V (list.length:Int)
theorem ql3{list:(List qv)}(a:Ro w list cs1){r:Int}(F:qgK n list=V r):RetV prog 214 [oV (List qv) cs1] w r:=by
 obtain⟨_,_,rfl,_⟩:=a;exact zV 5 func214 Z fun h=>X0 10 Z (ri h F Z)
def qeJ(n:Nat)(v:(Option Tview))(list:(List Int)):Option Bool:=(v).bind fun d=>(qgK n d.links).bind fun a=>(qbX n list 0 (W64 (a-1))).bind fun b=>bif b then(qfa n list).bind fun c=>V c else V false
theorem qnw{v:(Option Tview)}{list:(List Int)}(a:Ro w v cs1)(b:Ro w list cs2){r:Bool}(F:qeJ n v list=V r):RetV prog 157 [oV (Option Tview) cs1,oV (List Int) cs2] w r:=by
 obtain⟨_,rfl,i⟩:=qau a;obtain⟨_,_,rfl,s2⟩:=b;refine zV 17 func157 Z fun h=>X0 8 Z ?_;obtain⟨_,f,F⟩:=qc F;obtain⟨_,g,_,rfl,-,d,c⟩:=PtR.get i f;obtain⟨_,_,_,_,_,_,_,_,_,_,_,_,_,_,_,_,_,_,_,_,rfl,_,_,_,_,_,_,k,_,_,_⟩:=qcf d;refine zp2 Z (zc 6 (c.below h.below) Z (zcI h F (ql3 ⟨_,_,rfl,(h.oldS k)⟩) Z fun _ _ h F=>zp1 Z (zcB h F (qck ⟨_,_,rfl,(h.oldS s2)⟩) Z fun _ _ h F=>zp1 Z (qk (t:=13) F Z ?_ ?_))))<;>intro F
 ·exact X0 3 Z (zcB h F (qjU ⟨_,_,rfl,(h.oldS s2)⟩) Z fun _ _ h F=>X0 3 Z (rb h F Z))
 exact X0 5 Z (rb h F Z)
def qbZ(c:(List Int)):Nat->(List Bool)->Int->Option ((List Bool)×Int)|0,_,_=>U|n+1,x3,a=>bif decide (a<(c.length:Int)) then(idx c a).bind fun b=>(idx x3 b).bind fun _=>qbZ c n (setS x3 b false) (W64 (a+1)) else V (x3,a)
def qbW(x1:(List Bool)):Nat->(List Bool)->Int->Option ((List Bool)×Int)|0,_,_=>U|n+1,a,i1=>bif decide (i1<(x1.length:Int)) then(idx a i1).bind fun _=>qbW x1 n (setS a i1 true) (W64 (i1+1)) else V (a,i1)
def qgV(n:Nat)(v:(Option Tview))(c:(List Int)):Option (Option Tgraph):=(v).bind fun b=>(mkS (b.links.length:Int) (false:Bool)).bind fun x1=>(qbW x1 n x1 0).bind fun(a,_)=>(qbZ c n a 0).bind fun(x3,_)=>V (V (⟨v,x3⟩:Tgraph))
theorem qn2{A}(hA:∀b,A b->old w b){v:(Option Tview)}{a3:(List Int)}(u:GoT.R w A v cs1)(y:GoT.R w A a3 cs2){r:(Option Tgraph)}(F:qgV n v a3=V r):RetG prog 159 [oV (Option Tview) cs1,oV (List Int) cs2] w A r:=by
 obtain⟨_,rfl,X⟩:=qau u;obtain⟨W,R,rfl,s2⟩:=y;have hg:=Rg.start hA;refine qe3 func159 Z (m:=47) Z Z (fun h=>?_);refine X0 8 Z ?_;obtain⟨_,M,F⟩:=qc F;obtain⟨b1,f,_,rfl,-,K,z⟩:=PtR.get X M;obtain⟨_,_,_,_,_,_,_,_,_,_,_,_,_,_,_,_,_,_,_,_,rfl,_,_,_,_,_,_,_,_,_,_⟩:=qcf K;refine zp2 Z (zc 6 (z.below h.below) Z (zp1 Z ?_));obtain⟨x1,d,F⟩:=qc F;obtain⟨Y,g2,d⟩:=qQ d;refine qai qa Bool h Z Z Z Z Z Z Z Z Z Y g2 d Z fun _ S1 c h=>r_v (qG qa [0,1] [.tmp 9,.tmp 15] Z Z Z Z Z Z Z Z) Z (qx h Z Z fun _ a h=>X1 12 0 h Z ?_);obtain⟨o1,F,s⟩:=qc F;refine qm (rL (fun m e w'=>∃Q i1,qbW x1 m Q i1=V o1/\e=[(1,oS W a3.length R),(5,vp a),(22,vi (x1.length:Int)),(23,vi i1)]/\SH w w' [oX a [.pointer (V ⟨b1,f,U⟩),oS c x1.length x1.length] 138,oW S1 (Q:List Bool) [oS c x1.length x1.length]]) n ⟨_,_,F,rfl,h⟩ Z ?_);rintro S _ _ ⟨Q,i1,F,rfl,h⟩;rcases S with _|S
 ·cases F
 refine X0 5 Z (qg Z F ?_ ?_)<;>intro F
 ·refine X1 14 0 h Z ?_;obtain⟨_,N,F,g,_,_,_,_,k,o,rfl,B⟩:=(h.sl 1 Z).1.ix F;exact zx k o ⟨g.1,qD g.2.1 (h.sl 1 Z).2⟩ Z (qbg qa 1 0 true h Z N k o Z B Z Z Z Z Z Z Z fun _ h=>X0 6 Z (rK ⟨_,_,F,rfl,h⟩ Z))
 refine qu Z ?_;obtain rfl:=qb F;replace F:=s;refine X0 7 Z ?_;obtain⟨o2,F,t⟩:=qc F;refine qm (rL (fun m e w'=>∃x3 P,qbZ a3 m x3 P=V o2/\e=[(5,vp a),(33,oS W a3.length R),(34,vi (a3.length:Int)),(35,vi P)]/\SH w w' [oX a [.pointer (V ⟨b1,f,U⟩),oS c x1.length x1.length] 138,oW S1 (x3:List Bool) [oS c x1.length x1.length]]) n ⟨_,_,F,rfl,h⟩ Z ?_);rintro T _ _ ⟨x3,P,F,rfl,h⟩;rcases T with _|T
 ·cases F
 refine X0 5 Z (qg Z F ?_ ?_)<;>intro F
 ·refine zKSBSR ?_;obtain⟨_,_,F,H,_,_,_,_,I,J,rfl,C⟩:=s2.ix F;refine zxe I J H Z (zc 0 (C.below h.below) Z (X1 8 0 h Z ?_));obtain⟨_,O,F,i,_,_,_,_,l,p,rfl,D⟩:=(h.sl 1 Z).1.ix F;exact zx l p ⟨i.1,qD i.2.1 (h.sl 1 Z).2⟩ Z (qbg qa 1 0 false h Z O l p Z D Z Z Z Z Z Z Z fun _ h=>X0 6 Z (rK ⟨_,_,F,rfl,h⟩ Z))
 refine qu Z ?_;obtain rfl:=qb F;replace F:=t;refine X0 5 Z ?_;obtain rfl:=qb F;have L:GoRs.Rs (ρ:=(Option Tgraph)) h.wc (reg A w h.wc) (V (⟨v,x3⟩:Tgraph)) [oV (Option Tgraph) [vp a]]:=⟨_,rfl,(hg.outR h (Rg.boxR (x:=(⟨v,x3⟩:Tgraph)) 0 h Z (show GoT.R _ _ ((⟨v,x3⟩:Tgraph):Tgraph) _ from⟨[.pointer (V ⟨b1,f,U⟩)],[oS c x1.length x1.length],rfl,(hg.inR h X),(Rg.ownR 1 h Z)⟩)))⟩;exact qdN qa (ρ:=(Option Tgraph)) (r:=(V (⟨v,x3⟩:Tgraph))) [oV (Option Tgraph) [vp a]] h ⟨rfl,G⟩ L
def qc4(s:(List Int))(v:Int):Nat->Int->Option (Flow Int Int)|0,_=>U|n+1,i1=>bif decide (i1<(s.length:Int)) then(idx s i1).bind fun a=>bif (v==a) then V (.ret i1) else qc4 s v n (W64 (i1+1)) else V (.nxt i1)
def qhJ(n:Nat)(s:(List Int))(v:Int):Option Int:=(qc4 s v n 0).bind fun|.ret r=>V r|.nxt _=>V (-1)
theorem qoF{s:(List Int)}{v}(b:Ro w s cs1){r:Int}(F:qhJ n s v=V r):RetV prog 218 [oV (List Int) cs1,vi v] w r:=by
 obtain⟨o,k,rfl,p⟩:=b;refine zV 19 func218 Z fun h=>X0 11 Z ?_;obtain⟨l,F,a⟩:=qc F;refine qm (rL (fun m e w'=>∃i1,qc4 s v m i1=V l/\e=[(0,oS o s.length k),(1,vi v),(7,vi (s.length:Int)),(8,vi i1)]/\SH w w' []) n ⟨_,F,rfl,h⟩ Z ?_);rintro i _ _ ⟨i1,F,rfl,h⟩;rcases i with _|i
 ·cases F
 refine X0 5 Z (qg Z F ?_ ?_)<;>intro F
 ·refine X0 13 Z ?_;obtain⟨_,_,F,d,_,_,_,_,f,g,rfl,c⟩:=p.ix F;refine zxe f g d Z (zc 0 (c.below h.below) Z (X0 2 Z (qg Z F ?_ ?_)))<;>intro F
  ·refine X0 5 Z ?_;obtain rfl:=qb F;replace F:=a;exact ri h F Z
  exact X0 6 Z (rK ⟨_,F,rfl,h⟩ Z)
 refine qu Z ?_;obtain rfl:=qb F;replace F:=a;exact X0 4 Z (ri h F Z)
def qiV(_:Nat)(l:qv)(a:Int):Option Bool:=V (l.Bl==a)
theorem qoc{l:qv}{g}(a:Ro w l cs1){f}(b:Ro w (V g) [.pointer f]){r:Bool}(F:qiV n l g=V r):RetV prog 264 [oV qv cs1,.pointer f] w r:=by
 obtain rfl:=qar a;obtain⟨_,i,_,rfl,-,d,c⟩:=PtR.get b Z;obtain rfl:=d;exact zV 8 func264 Z fun h=>zSR (qx h Z Z fun _ _ h=>X1 6 0 h Z (zc 0 (c.below h.below) Z (X0 3 Z (rb h F Z))))
def qH(h:Int)(b:Tgraph)(a:Tview):Nat->(List Int)->Int->Option ((List Int)×Int)|0,_,_=>U|n+1,x1,i1=>bif decide (i1<(a.links.length:Int)) then(idx a.links i1).bind fun f=>(idx b.live i1).bind fun g=>bif g then(qiV n f h).bind fun c=>bif c then(appS x1 ([i1]:List Int)).bind fun d=>qH h b a n d (W64 (i1+1)) else qH h b a n x1 (W64 (i1+1)) else qH h b a n x1 (W64 (i1+1)) else V (x1,i1)
def qcn(n:Nat)(g:(Option Tgraph))(c:Int):Option (List Int):=(g).bind fun a=>(a.view).bind fun b=>(qH c a b n ([]:List Int) 0).bind fun(x1,_)=>V x1
theorem qg4{g:(Option Tgraph)}{is_0}(l:Ro w g cs1){Q}(f:Ro w (V is_0) [.pointer Q]){r:(List Int)}(F:qcn n g is_0=V r):RetV prog 131 [oV (Option Tgraph) cs1,.func (.func 264) #[] #[.pointer Q]] w r:=by
 obtain⟨_,rfl,X⟩:=qau l;obtain⟨b1,K,_,rfl,-,B,_⟩:=PtR.get f Z;obtain rfl:=B;refine zV 39 func131 Z fun h=>X0 12 Z ?_;obtain⟨y1,I,F⟩:=qc F;obtain⟨b2,L,_,rfl,-,C,i⟩:=PtR.get X I;obtain⟨_,_,_,rfl,s2,Y⟩:=qek C;refine zp2 Z (zc 0 (i.below h.below) Z ?_);obtain⟨O,J,F⟩:=qc F;obtain⟨_,W,_,rfl,-,D,o⟩:=PtR.get s2 J;obtain⟨_,_,_,_,_,_,_,_,_,_,_,_,M,S,_,_,_,_,_,_,rfl,_,_,_,_,_,_,N,_,_,_⟩:=qcf D;refine zp2 Z (zc 6 (o.below h.below) Z (X0 3 Z ?_));replace h:=h.nil (α:=Int);obtain⟨T,F,k⟩:=qc F;refine qm (rL (fun m e w'=>∃S1 d c b x1 i1,qH is_0 y1 O m x1 i1=V T/\e=[(0,.pointer (V ⟨b2,L,U⟩)),(1,.func (.func 264) #[] #[.pointer (V ⟨b1,K,U⟩)]),(5,oS d c b),(14,oS M O.links.length S),(15,vi (O.links.length:Int)),(16,vi i1)]/\SH w w' [oW S1 (x1:List Int) [oS d c b]]) n ⟨_,_,_,_,_,_,F,rfl,h⟩ Z ?_);rintro P _ _ ⟨S1,d,c,b,x1,i1,F,rfl,h⟩;obtain rfl:=(h.sl 0 Z).2;rcases P with _|P
 ·cases F
 refine X0 5 Z (qg Z F ?_ ?_)<;>intro F
 ·refine X0 6 Z ?_;obtain⟨y3,_,F,u,_,_,_,_,x,z,H,p⟩:=N.ix F;obtain rfl:=qar H;refine zxe x z u Z (zc 0 (p.below h.below) Z (qp qa h Z Z Z fun _ _ h=>zp1 Z (zs 0 h Z fun _ h=>X0 6 Z (zc 1 (i.below h.below) Z (zp1 Z ?_)))));obtain⟨_,_,F,v,_,_,_,_,y,A,rfl,s⟩:=Y.ix F;refine zxe y A v Z (zc 0 (s.below h.below) Z (zp1 Z (qk (t:=28) F Z ?_ ?_)))<;>intro F
  ·refine X1 5 0 h Z (zcB h F (qoc (qb6 y3) (h.old f)) Z fun _ _ h F=>X0 2 Z (qg Z F ?_ ?_))<;>intro F
   ·refine X0 3 Z (qE qa [.tmp 34] _ ([i1]:List Int) h Z Z Z Z Z Z Z Z Z ⟨rfl,G⟩ Z fun _ _ _ h=>?_);obtain⟨_,a,F⟩:=qc F;obtain⟨R,a⟩:=qM a;refine qbM qa 2 h Z (h.sl 0 Z).1 (h.sl 0 Z).2 Z Z Z Z Z Z Z Z Z R a Z fun _ _ _ _ h=>X0 7 Z ?_;replace h:=h.p [2] Z;exact rK ⟨_,_,_,_,_,_,F,rfl,h⟩ Z
   refine X0 6 Z ?_;replace h:=h.p [1] Z;exact rK ⟨_,_,_,_,_,_,F,rfl,h⟩ Z
  refine X0 5 Z (qb8 Z Z (X0 6 Z ?_));replace h:=h.p [1] Z;exact rK ⟨_,_,_,_,_,_,F,rfl,h⟩ Z
 refine qu Z ?_;obtain rfl:=qb F;replace F:=k;refine X0 5 Z ?_;obtain rfl:=qb F;exact rO 0 h Z ⟨rfl,G⟩
def qh9(n:Nat)(g:(Option Tgraph))(node:Int):Option (List Int):=(qcn n g node).bind fun a=>V a
theorem qo1{g:(Option Tgraph)}{node}(a:Ro w g cs1){r:(List Int)}(F:qh9 n g node=V r):RetV prog 219 [oV (Option Tgraph) cs1,vi node] w r:=by
 obtain⟨_,rfl,b⟩:=qau a;refine zV 8 func219 Z fun h=>zSR (qx h Z Z fun _ _ h=>X0 6 Z (zcL h F (qg4 (h.old b) (qfV (x:=node) 0 h Z Z)) Z fun _ _ _ _ _ h F=>X0 2 Z ?_));obtain rfl:=qb F;exact rO 0 h Z ⟨rfl,G⟩
def qip(_:Nat)(_:qv):Option Bool:=V true
theorem qns{a:qv}(b:Ro w a cs1){r:Bool}(F:qip n a=V r):RetV prog 217 [oV qv cs1] w r:=by
 obtain rfl:=qar b;exact zV 3 func217 Z fun h=>zSR (qx h Z Z fun _ _ h=>X0 6 Z (rb h F Z))
def qF(b:Tgraph)(a:Tview):Nat->(List Int)->Int->Option ((List Int)×Int)|0,_,_=>U|n+1,x1,i1=>bif decide (i1<(a.links.length:Int)) then(idx a.links i1).bind fun f=>(idx b.live i1).bind fun g=>bif g then(qip n f).bind fun c=>bif c then(appS x1 ([i1]:List Int)).bind fun d=>qF b a n d (W64 (i1+1)) else qF b a n x1 (W64 (i1+1)) else qF b a n x1 (W64 (i1+1)) else V (x1,i1)
def qbf(n:Nat)(g:(Option Tgraph)):Option (List Int):=(g).bind fun a=>(a.view).bind fun b=>(qF a b n ([]:List Int) 0).bind fun(x1,_)=>V x1
theorem qgY{g:(Option Tgraph)}(k:Ro w g cs1){r:(List Int)}(F:qbf n g=V r):RetV prog 131 [oV (Option Tgraph) cs1,.func (.func 217) #[] #[]] w r:=by
 obtain⟨_,rfl,R⟩:=qau k;refine zV 39 func131 Z fun h=>X0 12 Z ?_;obtain⟨T,D,F⟩:=qc F;obtain⟨b1,I,_,rfl,-,A,f⟩:=PtR.get R D;obtain⟨_,_,_,rfl,s2,S⟩:=qek A;refine zp2 Z (zc 0 (f.below h.below) Z ?_);obtain⟨L,H,F⟩:=qc F;obtain⟨_,Q,_,rfl,-,B,l⟩:=PtR.get s2 H;obtain⟨_,_,_,_,_,_,_,_,_,_,_,_,J,O,_,_,_,_,_,_,rfl,_,_,_,_,_,_,K,_,_,_⟩:=qcf B;refine zp2 Z (zc 6 (l.below h.below) Z (X0 3 Z ?_));replace h:=h.nil (α:=Int);obtain⟨P,F,i⟩:=qc F;refine qm (rL (fun m e w'=>∃S1 d c b x1 i1,qF T L m x1 i1=V P/\e=[(0,.pointer (V ⟨b1,I,U⟩)),(1,.func (.func 217) #[] #[]),(5,oS d c b),(14,oS J L.links.length O),(15,vi (L.links.length:Int)),(16,vi i1)]/\SH w w' [oW S1 (x1:List Int) [oS d c b]]) n ⟨_,_,_,_,_,_,F,rfl,h⟩ Z ?_);rintro M _ _ ⟨S1,d,c,b,x1,i1,F,rfl,h⟩;obtain rfl:=(h.sl 0 Z).2;rcases M with _|M
 ·cases F
 refine X0 5 Z (qg Z F ?_ ?_)<;>intro F
 ·refine X0 6 Z ?_;obtain⟨W,_,F,s,_,_,_,_,v,y,C,o⟩:=K.ix F;obtain rfl:=qar C;refine zxe v y s Z (zc 0 (o.below h.below) Z (qp qa h Z Z Z fun _ _ h=>zp1 Z (zs 0 h Z fun _ h=>X0 6 Z (zc 1 (f.below h.below) Z (zp1 Z ?_)))));obtain⟨_,_,F,u,_,_,_,_,x,z,rfl,p⟩:=S.ix F;refine zxe x z u Z (zc 0 (p.below h.below) Z (zp1 Z (qk (t:=28) F Z ?_ ?_)))<;>intro F
  ·refine X1 5 0 h Z (zcB h F (qns (qb6 W)) Z fun _ _ h F=>X0 2 Z (qg Z F ?_ ?_))<;>intro F
   ·refine X0 3 Z (qE qa [.tmp 34] _ ([i1]:List Int) h Z Z Z Z Z Z Z Z Z ⟨rfl,G⟩ Z fun _ _ _ h=>?_);obtain⟨_,a,F⟩:=qc F;obtain⟨N,a⟩:=qM a;refine qbM qa 2 h Z (h.sl 0 Z).1 (h.sl 0 Z).2 Z Z Z Z Z Z Z Z Z N a Z fun _ _ _ _ h=>X0 7 Z ?_;replace h:=h.p [2] Z;exact rK ⟨_,_,_,_,_,_,F,rfl,h⟩ Z
   refine X0 6 Z ?_;replace h:=h.p [1] Z;exact rK ⟨_,_,_,_,_,_,F,rfl,h⟩ Z
  refine X0 5 Z (qb8 Z Z (X0 6 Z ?_));replace h:=h.p [1] Z;exact rK ⟨_,_,_,_,_,_,F,rfl,h⟩ Z
 refine qu Z ?_;obtain rfl:=qb F;replace F:=i;refine X0 5 Z ?_;obtain rfl:=qb F;exact rO 0 h Z ⟨rfl,G⟩
def qcc(f:Tgraph)(r4:(List Int)):Nat->(List Int)->Int->Option ((List Int)×Int)|0,_,_=>U|n+1,c,b=>bif decide (b<(r4.length:Int)) then(idx r4 b).bind fun g=>(f.view).bind fun h=>(idx h.links g).bind fun a=>(idx c a.To).bind fun d=>(idx c a.To).bind fun _=>qcc f r4 n (setS c a.To (W64 (d-1))) (W64 (b+1)) else V (c,b)
def qcb(a:(Option Tgraph))(f:Tgraph)(x1:(List Int)):Nat->(List Int)->(List Int)->Int->Option (Flow ((List Int)×Bool) ((List Int)×(List Int)×Int))|0,_,_,_=>U|n+1,x3,c,d=>bif decide (d<(x1.length:Int)) then(qhJ n c 0).bind fun b=>bif decide (b<0) then V (.ret ([],false)) else(idx c b).bind fun _=>(appS x3 ([b]:List Int)).bind fun g=>(qh9 n a b).bind fun r4=>(qcc f r4 n (setS c b (-1)) 0).bind fun(h,_)=>qcb a f x1 n g h (W64 (d+1)) else V (.nxt (x3,c,d))
def qce(d:Tgraph)(b:(List Int)):Nat->(List Int)->Int->Option ((List Int)×Int)|0,_,_=>U|n+1,a,i1=>bif decide (i1<(b.length:Int)) then(idx b i1).bind fun f=>(d.view).bind fun g=>(idx g.links f).bind fun c=>(idx a c.To).bind fun h=>(idx a c.To).bind fun _=>qce d b n (setS a c.To (W64 (h+1))) (W64 (i1+1)) else V (a,i1)
def qhy(n:Nat)(a:(Option Tgraph)):Option ((List Int)×Bool):=(a).bind fun b=>(qb3 n b.view).bind fun c=>(mkS c (0:Int)).bind fun x1=>(qbf n a).bind fun d=>(qce b d n x1 0).bind fun(f,_)=>(qcb a b x1 n ([]:List Int) f 0).bind fun|.ret r=>V r|.nxt (x3,_,_)=>V (x3,true)
theorem qoy{c:(Option Tgraph)}(ha1:Ro w c cs1){r:((List Int)×Bool)}(F:qhy n c=V r):RetV prog 160 [oV (Option Tgraph) cs1] w r:=by
 obtain⟨_,rfl,s1⟩:=qau ha1;refine zV 83 func160 Z fun h=>X0 8 Z ?_;obtain⟨y1,hy1,F⟩:=qc F;obtain⟨b1,k,_,rfl,-,hr1,d⟩:=PtR.get s1 hy1;obtain⟨_,_,_,rfl,s2,_⟩:=qek hr1;refine zp2 Z (zc 0 (d.below h.below) Z (zcI h F (qdl (h.old s2)) Z fun _ _ h F=>?_));obtain⟨x1,f,F⟩:=qc F;obtain⟨g1,g2,f⟩:=qQ f;refine qai qa Int h Z Z Z Z Z Z Z Z Z g1 g2 f Z fun _ S1 l h=>X0 6 Z (zcL h F (qgY (h.old s1)) Z fun Y _ S2 p5 k2 h F=>X0 3 Z ?_);obtain⟨o1,F,hK1⟩:=qc F;refine qm (rL (fun m e w'=>∃x2 i1,qce y1 Y m x2 i1=V o1/\e=[(0,.pointer (V ⟨b1,k,U⟩)),(4,oS l x1.length x1.length),(18,oS p5 Y.length k2),(19,vi (Y.length:Int)),(20,vi i1)]/\SH w w' [oW S2 (Y:List Int) [oS p5 Y.length k2],oW S1 (x2:List Int) [oS l x1.length x1.length]]) n ⟨_,_,F,rfl,h⟩ Z ?_);rintro m1 _ _ ⟨x2,i1,F,rfl,h⟩;rcases m1 with _|m1
 ·cases F
 refine X0 5 Z (qg Z F ?_ ?_)<;>intro F
 ·refine zKSBSR ?_;obtain⟨_,_,F,y,_,_,_,_,hp1,hq1,rfl,hc3⟩:=(h.sl 0 Z).1.ix F;refine zx hp1 hq1 ⟨y.1,qD y.2.1 (h.sl 0 Z).2⟩ Z (zc 0 hc3 Z (X0 7 Z (zc 0 (d.below h.below) Z ?_)));obtain⟨_,hy3,F⟩:=qc F;obtain⟨_,o_3,_,rfl,-,hr5,hc4⟩:=PtR.get s2 hy3;obtain⟨_,_,_,_,_,_,_,_,_,_,_,_,_,_,_,_,_,_,_,_,rfl,_,_,_,_,_,_,s10,_,_,_⟩:=qcf hr5;refine zp2 Z (zc 6 (hc4.below h.below) Z (zp1 Z ?_));obtain⟨_,_,F,he2,_,_,_,_,hp2,hq2,hr6,hc5⟩:=s10.ix F;obtain rfl:=qar hr6;refine zxe hp2 hq2 he2 Z (zp1 Z (zc 1 (hc5.below h.below) Z ?_));obtain⟨y5,_,F,z,_,_,_,_,hp3,hq3,rfl,hc6⟩:=(h.sl 1 Z).1.ix F;refine zx hp3 hq3 ⟨z.1,qD z.2.1 (h.sl 1 Z).2⟩ Z (zc 0 hc6 Z (zp1 Z ?_));obtain⟨_,hy6,F,A,_,_,_,_,I,L,rfl,hc7⟩:=(h.sl 1 Z).1.ix F;exact zx I L ⟨A.1,qD A.2.1 (h.sl 1 Z).2⟩ Z (qbg qa 1 0 (W64 (y5+1)) h Z hy6 I L Z hc7 Z Z Z Z Z Z Z fun _ h=>X0 6 Z (rK ⟨_,_,F,rfl,h⟩ Z))
 refine qu Z ?_;obtain rfl:=qb F;replace F:=hK1;refine X0 11 Z ?_;replace h:=h.nil (α:=Int);obtain⟨o2,F,o⟩:=qc F;refine qm ?_;replace h:=h.p [0,2] Z;refine rL (fun m e w'=>∃S3 b i a x3 x4 i2,qcb c y1 x1 m x3 x4 i2=V o2/\e=[(0,.pointer (V ⟨b1,k,U⟩)),(4,oS l x1.length x1.length),(7,oS b i a),(42,vi (x1.length:Int)),(43,vi i2)]/\SH w w' [oW S3 (x3:List Int) [oS b i a],oW S1 (x4:List Int) [oS l x1.length x1.length]]) n ⟨_,_,_,_,_,_,_,F,rfl,h⟩ Z ?_;rintro m2 _ _ ⟨S3,b,i,a,x3,x4,i2,F,rfl,h⟩;obtain rfl:=(h.sl 0 Z).2;rcases m2 with _|m2
 ·cases F
 refine X0 5 Z (qg Z F ?_ ?_)<;>intro F
 ·refine X0 6 Z (zcI h F (qoF (h.own 1 Z)) Z fun r3 _ h F=>X0 8 Z (qg Z F ?_ ?_))<;>intro F
  ·refine X0 5 Z ?_;obtain rfl:=qb F;replace F:=o;obtain rfl:=qb F;exact qU qa (ρ:=((List Int)×Bool)) [oV (List Int) [oS U 0 0],oV Bool [.bool false]] h ⟨rfl,rfl,G⟩ (PV.done h (qae h qhe (qaa (qw (S:=fun _=>False) Z)) (by rfl)))
  refine X0 5 Z ?_;obtain⟨_,hy7,F,B,_,_,_,_,J,M,rfl,p⟩:=(h.sl 1 Z).1.ix F;refine zx J M ⟨B.1,qD B.2.1 (h.sl 1 Z).2⟩ Z (qbg qa 1 0 (-1) h Z hy7 J M Z p Z Z Z Z Z Z Z fun _ h=>X0 5 Z (qE qa [.tmp 53] _ ([r3]:List Int) h Z Z Z Z Z Z Z Z Z ⟨rfl,G⟩ Z fun _ _ _ h=>?_));obtain⟨x5,g,F⟩:=qc F;obtain⟨g3,g⟩:=qM g;refine qbM qa 1 h Z (h.sl 0 Z).1 (h.sl 0 Z).2 Z Z Z Z Z Z Z Z Z g3 g Z fun _ W R S5 h=>X0 6 Z (zcL h F (qo1 (h.old s1)) Z fun r4 _ S6 X T h F=>X0 3 Z ?_);obtain⟨o3,F,hK3⟩:=qc F;refine qm ?_;replace h:=h.p [0,2,3] Z;refine rL (fun m e w'=>∃x6 i3,qcc y1 r4 m x6 i3=V o3/\e=[(0,.pointer (V ⟨b1,k,U⟩)),(4,oS l x1.length x1.length),(7,oS W x5.length R),(42,vi (x1.length:Int)),(43,vi i2),(58,oS X r4.length T),(59,vi (r4.length:Int)),(60,vi i3)]/\SH w w' [oW S6 (r4:List Int) [oS X r4.length T],oW S5 (x5:List Int) [oS W x5.length R],oW S1 (x6:List Int) [oS l x1.length x1.length]]) m2 ⟨_,_,F,rfl,h⟩ Z ?_;rintro m3 _ _ ⟨x6,i3,F,rfl,h⟩;rcases m3 with _|m3
  ·cases F
  refine X0 5 Z (qg Z F ?_ ?_)<;>intro F
  ·refine zKSBSR ?_;obtain⟨_,_,F,C,_,_,_,_,hp6,hq6,rfl,s⟩:=(h.sl 0 Z).1.ix F;refine zx hp6 hq6 ⟨C.1,qD C.2.1 (h.sl 0 Z).2⟩ Z (zc 0 s Z (X0 7 Z (zc 0 (d.below h.below) Z ?_)));obtain⟨_,hy9,F⟩:=qc F;obtain⟨_,o_9,_,rfl,-,O,t⟩:=PtR.get s2 hy9;obtain⟨_,_,_,_,_,_,_,_,_,_,_,_,_,_,_,_,_,_,_,_,rfl,_,_,_,_,_,_,s20,_,_,_⟩:=qcf O;refine zp2 Z (zc 6 (t.below h.below) Z (zp1 Z ?_));obtain⟨_,_,F,he7,_,_,_,_,hp7,hq7,P,u⟩:=s20.ix F;obtain rfl:=qar P;refine zxe hp7 hq7 he7 Z (zp1 Z (zc 1 (u.below h.below) Z ?_));obtain⟨y11,_,F,D,_,_,_,_,hp8,hq8,rfl,v⟩:=(h.sl 2 Z).1.ix F;refine zx hp8 hq8 ⟨D.1,qD D.2.1 (h.sl 2 Z).2⟩ Z (zc 0 v Z (zp1 Z ?_));obtain⟨_,Q,F,H,_,_,_,_,K,N,rfl,x⟩:=(h.sl 2 Z).1.ix F;exact zx K N ⟨H.1,qD H.2.1 (h.sl 2 Z).2⟩ Z (qbg qa 2 0 (W64 (y11-1)) h Z Q K N Z x Z Z Z Z Z Z Z fun _ h=>X0 6 Z (rK ⟨_,_,F,rfl,h⟩ Z))
  refine qu Z ?_;obtain rfl:=qb F;replace F:=hK3;refine X0 5 Z ?_;replace h:=h.p [1,2] Z;exact rK ⟨_,_,_,_,_,_,_,F,rfl,h⟩ Z
 refine qu Z ?_;obtain rfl:=qb F;replace F:=o;refine X0 6 Z ?_;obtain rfl:=qb F;exact qU qa (ρ:=((List Int)×Bool)) [oV (List Int) [oS b x3.length a],oV Bool [.bool true]] h ⟨rfl,rfl,G⟩ (PV.done h (qae h (qao 0 h Z) (qaa (qw (S:=fun _=>False) Z)) (by rfl)))
def qfG(n:Nat)(b:qf)(c:qr)(p:(List Int))(r:(List qh))(t:(Option qq)):Option ((Option Tgraph)×(List Int)×Int):=((qi7 n b).bind fun l=>bif (!l) then V true else(qh1 n c).bind fun d=>V (!d)).bind fun b1=>bif b1 then V (U,[],1) else(qkN n b).bind fun a=>(bif (!(t).isNone) then(t).bind fun m=>(qk9 n a m).bind fun k=>V (!k) else V false).bind fun b2=>bif b2 then V (U,[],1) else((qeJ n a p).bind fun h=>bif (!h) then V true else(qdD n a r).bind fun i=>V (!i)).bind fun b3=>bif b3 then V (U,[],2) else(qgV n a p).bind fun f=>(qhy n f).bind fun(r4,g)=>bif (!g) then V (U,[],7) else V (f,r4,0)
theorem qoA{A}(hA:∀b,A b->old w b){b:qf}{c:qr}{b9:(List Int)}{c0:(List qh)}{t:(Option qq)}(i:GoT.R w A b cs1)(x:GoT.R w A c cs2)(M:GoT.R w A b9 cs3)(N:GoT.R w A c0 cs4)(O:GoT.R w A t cs5){r:((Option Tgraph)×(List Int)×Int)}(F:qfG n b c b9 c0 t=V r):RetG prog 108 [oV qf cs1,oV qr cs2,oV (List Int) cs3,oV (List qh) cs4,oV (Option qq) cs5] w A r:=by
 obtain⟨p1,k1,p2,k2,p3,k3,p4,k4,p5,k5,rfl,_,_,_,_,_⟩:=qac i;obtain rfl:=qaG x;obtain⟨p6,k6,rfl,s6⟩:=M;obtain⟨p7,k7,rfl,s7⟩:=N;obtain⟨p8,rfl,s8⟩:=qau O;have hg:=Rg.start hA;refine qe3 func108 Z (m:=61) Z Z (fun h=>?_);refine zSR (qx h Z Z fun _ k h=>qx h Z Z fun _ _ h=>X0 6 Z ?_);obtain⟨L,v,_,F,p⟩:=bindE F;refine qa1 (fun e w'=>∃b1,L b1=V r/\e=[(2,oS p6 b9.length k6),(3,oS p7 c0.length k7),(4,.pointer p8),(5,vp k),(24,.bool b1)]/\SH w w' [oX k (qaY b p1 p2 p3 p4 p5 k1 k2 k3 k4 k5) 53]) ?_ ?_
 ·refine X1 2 1 h Z (zcB h F (qqN (h.old (GoT.mono i hg.old))) Z fun _ _ h F=>zp2 Z (qk (t:=20) F Z ?_ ?_))<;>intro F
  ·refine X0 5 Z ?_;replace h:=h.p [1] Z;obtain rfl:=qb F;exact rG ⟨_,p,rfl,h⟩ Z
  refine X1 3 0 h Z (zcB h F (qqa (h.old (GoT.mono x hg.old))) Z fun _ _ h F=>X0 4 Z ?_);replace h:=h.p [1] Z;obtain rfl:=qb F;exact rG ⟨_,p,rfl,h⟩ Z
 rintro _ _ ⟨b1,F,rfl,h⟩;subst v;refine qg Z F ?_ ?_<;>intro F
 ·refine X0 6 Z ?_;obtain rfl:=qb F;have a4:GoRs.Rs (ρ:=((Option Tgraph)×(List Int)×Int)) h.wc (reg A w h.wc) (U,[],1) [oV (Option Tgraph) [.pointer U],oV (List Int) [oS U 0 0],oV Int [vi 1]]:=⟨_,_,rfl,rfl,⟨_,_,rfl,(hg.outR h (⟨_,_,rfl,qig⟩)),⟨_,rfl,rfl⟩⟩⟩;exact qdN qa (ρ:=((Option Tgraph)×(List Int)×Int)) (r:=(U,[],1)) [oV (Option Tgraph) [.pointer U],oV (List Int) [oS U 0 0],oV Int [vi 1]] h ⟨rfl,rfl,rfl,G⟩ a4
 refine X1 4 0 h Z ?_;obtain⟨r1,R,F⟩:=qc F;refine qjJ r1 hg h (cB 155 Z) (qqW (hg.regOld h) (hg.inR h i) R) Z Z Z Z fun w3 _ _ a f b7 a5=>?_;have hL1:=h.ext f.below;have s9:=Up.S hg h f s6;have s10:=Up.S hg h f s7;have H:=Up.Pt hg h f s8;have hb1:=h.below.trans (f.below.mono h.below.size);replace h:=b7;obtain⟨_,rfl,S⟩:=qkk a5;obtain⟨p9,rfl,g⟩:=qau S;refine X0 5 Z ?_;obtain⟨K,u,_,F,o⟩:=bindE F;refine qa1 (fun e w'=>∃b2,K b2=V r/\e=[(2,oS p6 b9.length k6),(3,oS p7 c0.length k7),(13,.pointer p9),(27,.bool b2)]/\SH w3 w' []) ?_ ?_
 ·refine X0 2 Z ?_;have Q:=PtR.isNone H;refine r_v (qyy qa Z Z Z Z Q) Z (zp1 Z (qk (t:=30) F Z ?_ ?_))<;>intro F
  ·refine X0 5 Z ?_;obtain⟨y1,b6,F⟩:=qc F;obtain⟨_,o_1,_,rfl,-,y,P⟩:=PtR.get H b6;obtain⟨_,_,_,_,_,_,rfl,s14,s15,s16⟩:=qcS y;refine X0 2 Z (zc 0 (P.below h.below) Z (X0 1 Z (zcB h F (qnv (h.old (GoT.mono g a.old)) (qt3 y1 (h.oldS (s14.mono a.old)) (h.oldS (s15.mono a.old)) (h.oldS (s16.mono a.old)))) Z fun _ _ h F=>X0 5 Z ?_)));obtain rfl:=qb F;exact rG ⟨_,o,rfl,h⟩ Z
  refine X0 9 Z ?_;obtain rfl:=qb F;exact rG ⟨_,o,rfl,h⟩ Z
 rintro _ _ ⟨b2,F,rfl,h⟩;subst u;refine qg Z F ?_ ?_<;>intro F
 ·refine X0 6 Z ?_;obtain rfl:=qb F;have a6:GoRs.Rs (ρ:=((Option Tgraph)×(List Int)×Int)) h.wc (reg A w h.wc) (U,[],1) [oV (Option Tgraph) [.pointer U],oV (List Int) [oS U 0 0],oV Int [vi 1]]:=⟨_,_,rfl,rfl,⟨_,_,rfl,(a.outR h (⟨_,_,rfl,qig⟩)),⟨_,rfl,rfl⟩⟩⟩;exact qdN qa (ρ:=((Option Tgraph)×(List Int)×Int)) (r:=(U,[],1)) [oV (Option Tgraph) [.pointer U],oV (List Int) [oS U 0 0],oV Int [vi 1]] (h.unbase a.below (show NoD [] from trivial)) ⟨rfl,rfl,rfl,G⟩ a6
 refine qW ?_;obtain⟨J,s,_,F,l⟩:=bindE F;refine qa1 (fun e w'=>∃b3,J b3=V r/\e=[(2,oS p6 b9.length k6),(13,.pointer p9),(38,.bool b3)]/\SH w3 w' []) ?_ ?_
 ·refine X0 3 Z (zcB h F (qnw (h.old (GoT.mono g a.old)) ⟨_,_,rfl,(h.oldS (s9.mono a.old))⟩) Z fun _ _ h F=>zp2 Z (qk (t:=43) F Z ?_ ?_))<;>intro F
  ·refine X0 7 Z ?_;obtain rfl:=qb F;exact rG ⟨_,l,rfl,h⟩ Z
  refine X0 5 Z (zcB h F (qmk (h.old (GoT.mono g a.old)) ⟨_,_,rfl,(h.oldS (s10.mono a.old))⟩) Z fun _ _ h F=>X0 5 Z ?_);obtain rfl:=qb F;exact rG ⟨_,l,rfl,h⟩ Z
 rintro _ _ ⟨b3,F,rfl,h⟩;subst s;refine qg Z F ?_ ?_<;>intro F
 ·refine X0 6 Z ?_;obtain rfl:=qb F;have a7:GoRs.Rs (ρ:=((Option Tgraph)×(List Int)×Int)) h.wc (reg A w h.wc) (U,[],2) [oV (Option Tgraph) [.pointer U],oV (List Int) [oS U 0 0],oV Int [vi 2]]:=⟨_,_,rfl,rfl,⟨_,_,rfl,(a.outR h (⟨_,_,rfl,qig⟩)),⟨_,rfl,rfl⟩⟩⟩;exact qdN qa (ρ:=((Option Tgraph)×(List Int)×Int)) (r:=(U,[],2)) [oV (Option Tgraph) [.pointer U],oV (List Int) [oS U 0 0],oV Int [vi 2]] (h.unbase a.below (show NoD [] from trivial)) ⟨rfl,rfl,rfl,G⟩ a7
 refine X0 6 Z ?_;obtain⟨r2,T,F⟩:=qc F;refine qjJ r2 a h (cB 159 Z) (qn2 (a.regOld h) (a.inR h g) ⟨_,_,rfl,(a.inS h s9)⟩ T) Z Z Z Z fun _ _ _ d z b8 a8=>?_;have hL2:=h.ext z.below;have hb2:=h.below.trans (z.below.mono h.below.size);replace h:=b8;obtain⟨_,rfl,W⟩:=qkk a8;obtain⟨C,rfl,I⟩:=qau W;refine X0 5 Z ?_;obtain⟨⟨r4,r5⟩,X,F⟩:=qc F;refine qaM (r4,r5) h (cB 160 Z) (qoy (h.old (GoT.mono I d.old)) X) Z Z Z Z fun _ _ _ a9 Y=>?_;obtain⟨_,_,D,k8,_,rfl,b4,a3⟩:=a9.consL Y;obtain⟨rfl,h⟩:=b4.lastB a3;refine X0 12 Z (qg Z F ?_ ?_)<;>intro F
 ·refine X0 6 Z ?_;obtain rfl:=qb F;have b5:GoRs.Rs (ρ:=((Option Tgraph)×(List Int)×Int)) h.wc (reg A w h.wc) (U,[],7) [oV (Option Tgraph) [.pointer U],oV (List Int) [oS U 0 0],oV Int [vi 7]]:=⟨_,_,rfl,rfl,⟨_,_,rfl,(d.outR h (⟨_,_,rfl,qig⟩)),⟨_,rfl,rfl⟩⟩⟩;exact qdN qa (ρ:=((Option Tgraph)×(List Int)×Int)) (r:=(U,[],7)) [oV (Option Tgraph) [.pointer U],oV (List Int) [oS U 0 0],oV Int [vi 7]] (h.unbase d.below ⟨fun _ h=>h,G⟩) ⟨rfl,rfl,rfl,G⟩ b5
 refine X0 9 Z ?_;obtain rfl:=qb F;have B:GoRs.Rs (ρ:=((Option Tgraph)×(List Int)×Int)) h.wc (reg A w h.wc) (r2,r4,0) [oV (Option Tgraph) [.pointer C],oV (List Int) [oS D r4.length k8],oV Int [vi 0]]:=⟨_,_,rfl,(d.outR h (d.inR h I)),⟨_,_,rfl,(d.outR h (Rg.ownR 0 h Z)),⟨_,rfl,rfl⟩⟩⟩;exact qdN qa (ρ:=((Option Tgraph)×(List Int)×Int)) (r:=(r2,r4,0)) [oV (Option Tgraph) [.pointer C],oV (List Int) [oS D r4.length k8],oV Int [vi 0]] (h.unbase d.below ⟨fun _ h=>h,G⟩) ⟨rfl,rfl,rfl,G⟩ B
def qb4(a:Int)(c:(List Bool))(d:(List Bool)):Nat->Int->Option Int|0,_=>U|n+1,b=>bif decide (b<a) then(idx c b).bind fun f=>bif f then qb4 a c d n (W64 (b+1)) else(idx d b).bind fun g=>bif g then qb4 a c d n (W64 (b+1)) else V b else V b
def qcE(a:(List qv))(b:(List Bool))(d:(List Bool)):Nat->(List Bool)->Int->Option ((List Bool)×Int)|0,_,_=>U|n+1,c,i1=>bif decide (i1<(a.length:Int)) then((idx b i1).bind fun g=>bif g then(idx a i1).bind fun h=>(idx d h.Bl).bind fun i=>V (!i) else V false).bind fun b1=>bif b1 then(idx a i1).bind fun f=>(idx c f.To).bind fun _=>qcE a b d n (setS c f.To true) (W64 (i1+1)) else qcE a b d n c (W64 (i1+1)) else V (c,i1)
def qer(a:Int)(b:(List qv))(c:(List Bool)):Nat->(List Bool)->(List Int)->Option (Flow ((List Int)×Bool) ((List Bool)×(List Int)))|0,_,_=>U|n+1,d,x3=>bif decide ((x3.length:Int)<a) then(mkS a (false:Bool)).bind fun g=>(qcE b c d n g 0).bind fun(h,_)=>(qb4 a d h n 0).bind fun f=>bif (f==a) then V (.ret (([]:List Int),false)) else(idx d f).bind fun _=>(appS x3 ([f]:List Int)).bind fun i=>qer a b c n (setS d f true) i else V (.nxt (d,x3))
def qgz(n:Nat)(a:Int)(b:(List qv))(c:(List Bool)):Option ((List Int)×Bool):=(mkS a (false:Bool)).bind fun x1=>(qer a b c n x1 ([]:List Int)).bind fun|.ret r=>V r|.nxt (_,x3)=>V (x3,true)
theorem qms{a}{b:(List qv)}{c:(List Bool)}(ha1:Ro w b cs1)(ha2:Ro w c cs2){r:((List Int)×Bool)}(F:qgz n a b c=V r):RetV prog 80 [vi a,oV (List qv) cs1,oV (List Bool) cs2] w r:=by
 obtain⟨W,R,rfl,s1⟩:=ha1;obtain⟨X,T,rfl,s2⟩:=ha2;refine zV 79 func80 Z fun h=>X0 7 Z (qE qa [] _ ([]:List Int) h Z Z Z Z Z Z Z Z Z trivial Z fun _ _ _ h=>X0 5 Z ?_);obtain⟨x1,k,F⟩:=qc F;obtain⟨g1,g2,k⟩:=qQ k;refine qai qa Bool h Z Z Z Z Z Z Z Z Z g1 g2 k Z fun _ S2 g h=>X0 3 Z ?_;obtain⟨o1,F,x⟩:=qc F;refine qm (rL (fun m e w'=>∃i s d p k3 x3,qer a b c m i x3=V o1/\e=[(0,vi a),(1,oS W b.length R),(2,oS X c.length T),(8,oS d p k3),(9,oS g x1.length x1.length)]/\SH w w' [oW S2 (i:List Bool) [oS g x1.length x1.length],oW s (x3:List Int) [oS d p k3]]) n ⟨_,_,_,_,_,_,F,rfl,h⟩ Z ?_);rintro m1 _ _ ⟨i,s,d,p,k3,x3,F,rfl,h⟩;obtain rfl:=(h.sl 1 Z).2;rcases m1 with _|m1
 ·cases F
 refine X0 8 Z (qg Z F ?_ ?_)<;>intro F
 ·refine X0 5 Z ?_;obtain⟨f,l,F⟩:=qc F;obtain⟨g3,g4,l⟩:=qQ l;refine qai qa Bool h Z Z Z Z Z Z Z Z Z g3 g4 l Z fun _ S4 u h=>X0 7 Z ?_;obtain⟨o2,F,hK2⟩:=qc F;refine qm (rL (fun m e w'=>∃v i1,qcE b c i m v i1=V o2/\e=[(0,vi a),(1,oS W b.length R),(2,oS X c.length T),(8,oS d x3.length k3),(9,oS g x1.length x1.length),(10,oS u f.length f.length),(11,vi i1)]/\SH w w' [oW S4 (v:List Bool) [oS u f.length f.length],oW S2 (i:List Bool) [oS g x1.length x1.length],oW s (x3:List Int) [oS d x3.length k3]]) m1 ⟨_,_,F,rfl,h⟩ Z ?_);rintro m2 _ _ ⟨v,i1,F,rfl,h⟩;rcases m2 with _|m2
  ·cases F
  refine X0 8 Z (qg Z F ?_ ?_)<;>intro F
  ·refine X0 4 Z ?_;obtain⟨KF1,A,_,F,y⟩:=bindE F;refine qa1 (fun e w'=>∃b1,KF1 b1=V o2/\e=[(0,vi a),(1,oS W b.length R),(2,oS X c.length T),(8,oS d x3.length k3),(9,oS g x1.length x1.length),(10,oS u f.length f.length),(11,vi i1),(42,.bool b1)]/\SH w w' [oW S4 (v:List Bool) [oS u f.length f.length],oW S2 (i:List Bool) [oS g x1.length x1.length],oW s (x3:List Int) [oS d x3.length k3]]) ?_ ?_
   ·refine X0 3 Z ?_;obtain⟨_,_,F,he3,_,_,_,_,hp3,hq3,rfl,hc6⟩:=s2.ix F;refine zxe hp3 hq3 he3 Z (zc 0 (hc6.below h.below) Z (zp1 Z (qk (t:=32) F Z ?_ ?_)))<;>intro F
    ·refine X0 7 Z ?_;obtain⟨_,_,F,he4,_,_,_,_,hp4,hq4,hr4,hc7⟩:=s1.ix F;obtain rfl:=qar hr4;refine zxe hp4 hq4 he4 Z (X0 3 Z (zc 0 (hc7.below h.below) Z (X0 1 Z ?_)));obtain⟨_,_,F,J,_,_,_,_,hp5,hq5,rfl,hc8⟩:=(h.sl 1 Z).1.ix F;refine zx hp5 hq5 ⟨J.1,qD J.2.1 (h.sl 1 Z).2⟩ Z (X0 1 Z (zc 0 hc8 Z (X0 4 Z ?_)));obtain rfl:=qb F;exact rG ⟨_,y,rfl,h⟩ Z
    refine X0 11 Z ?_;obtain rfl:=qb F;exact rG ⟨_,y,rfl,h⟩ Z
   rintro _ _ ⟨b1,F,rfl,h⟩;subst A;refine qg Z F ?_ ?_<;>intro F
   ·refine X0 4 Z ?_;obtain⟨_,_,F,he1,_,_,_,_,hp1,hq1,hr1,hc4⟩:=s1.ix F;obtain rfl:=qar hr1;refine zxe hp1 hq1 he1 Z (zp1 Z (zc 1 (hc4.below h.below) Z ?_));obtain⟨_,hy2,F,I,_,_,_,_,N,P,rfl,hc5⟩:=(h.sl 0 Z).1.ix F;exact zx N P ⟨I.1,qD I.2.1 (h.sl 0 Z).2⟩ Z (qbg qa 0 0 true h Z hy2 N P Z hc5 Z Z Z Z Z Z Z fun _ h=>X0 7 Z (rK ⟨_,_,F,rfl,h⟩ Z))
   exact X0 7 Z (rK ⟨_,_,F,rfl,h⟩ Z)
  refine qu Z ?_;obtain rfl:=qb F;replace F:=hK2;refine X0 5 Z ?_;obtain⟨KF2,B,o4,F,z⟩:=bindE F;refine qa1 (fun e w'=>∃Y,KF2 Y=V o1/\e=[(0,vi a),(1,oS W b.length R),(2,oS X c.length T),(8,oS d x3.length k3),(9,oS g x1.length x1.length),(12,vi Y)]/\SH w w' [oW S2 (i:List Bool) [oS g x1.length x1.length],oW s (x3:List Int) [oS d x3.length k3]]) ?_ ?_
  ·refine qm (rL (fun m e w'=>∃i4,qb4 a i v m i4=V o4/\e=[(0,vi a),(1,oS W b.length R),(2,oS X c.length T),(8,oS d x3.length k3),(9,oS g x1.length x1.length),(10,oS u f.length f.length),(12,vi i4)]/\SH w w' [oW S4 (v:List Bool) [oS u f.length f.length],oW S2 (i:List Bool) [oS g x1.length x1.length],oW s (x3:List Int) [oS d x3.length k3]]) m1 ⟨_,F,rfl,h⟩ Z ?_);rintro m3 _ _ ⟨i4,F,rfl,h⟩;rcases m3 with _|m3
   ·cases F
   refine X0 7 Z (qk (t:=53) F Z ?_ ?_)<;>intro F
   ·refine X0 5 Z ?_;obtain⟨_,_,F,L,_,_,_,_,hp7,hq7,rfl,D⟩:=(h.sl 1 Z).1.ix F;refine zx hp7 hq7 ⟨L.1,qD L.2.1 (h.sl 1 Z).2⟩ Z (X0 1 Z (zc 0 D Z (X0 2 Z (qk (t:=58) F Z ?_ ?_))))<;>intro F
    ·exact X0 8 Z (qcl Z Z (X0 8 Z (rK ⟨_,F,rfl,h⟩ Z)))
    refine X0 5 Z ?_;obtain⟨_,_,F,M,_,_,_,_,hp8,hq8,rfl,H⟩:=(h.sl 0 Z).1.ix F;refine zx hp8 hq8 ⟨M.1,qD M.2.1 (h.sl 0 Z).2⟩ Z (X0 1 Z (zc 0 H Z (X0 4 Z (qg Z F ?_ ?_))))<;>intro F
    ·exact X0 8 Z (rK ⟨_,F,rfl,h⟩ Z)
    refine qu Z ?_;replace h:=h.p [1,2] Z;obtain rfl:=qb F;exact rG ⟨_,z,rfl,h⟩ Z
   refine X0 12 Z (qb8 Z Z (qu Z ?_));replace h:=h.p [1,2] Z;obtain rfl:=qb F;exact rG ⟨_,z,rfl,h⟩ Z
  rintro _ _ ⟨Y,F,rfl,h⟩;subst B;refine X0 7 Z (qg Z F ?_ ?_)<;>intro F
  ·refine zSR (qE qa [] _ ([]:List Int) h Z Z Z Z Z Z Z Z Z trivial Z fun _ p7 _ h=>X0 3 Z ?_);obtain rfl:=qb F;replace F:=x;obtain rfl:=qb F;exact qU qa (ρ:=((List Int)×Bool)) [oV (List Int) [oS p7 0 0],oV Bool [.bool false]] h ⟨rfl,rfl,G⟩ (PV.done h (qae h (qao 0 h Z) (qaa (qw (S:=fun _=>False) Z)) (by rfl)))
  refine X0 5 Z ?_;obtain⟨_,hy6,F,K,_,_,_,_,O,Q,rfl,C⟩:=(h.sl 0 Z).1.ix F;refine zx O Q ⟨K.1,qD K.2.1 (h.sl 0 Z).2⟩ Z (qbg qa 0 0 true h Z hy6 O Q Z C Z Z Z Z Z Z Z fun _ h=>X0 4 Z (qE qa [.tmp 75] _ ([Y]:List Int) h Z Z Z Z Z Z Z Z Z ⟨rfl,G⟩ Z fun _ _ _ h=>?_));obtain⟨_,o,F⟩:=qc F;obtain⟨g5,o⟩:=qM o;refine qbM qa 2 h Z (h.sl 0 Z).1 (h.sl 0 Z).2 Z Z Z Z Z Z Z Z Z g5 o Z fun _ _ _ _ h=>X0 3 Z ?_;replace h:=h.p [1,2] Z;exact rK ⟨_,_,_,_,_,_,F,rfl,h⟩ Z
 refine qu Z ?_;obtain rfl:=qb F;replace F:=x;refine X0 6 Z ?_;obtain rfl:=qb F;exact qU qa (ρ:=((List Int)×Bool)) [oV (List Int) [oS d x3.length k3],oV Bool [.bool true]] h ⟨rfl,rfl,G⟩ (PV.done h (qae h (qao 1 h Z) (qaa (qw (S:=fun _=>False) Z)) (by rfl)))
end Go.Fw


namespace Go.Fw
open Go
set_option maxRecDepth 100000
structure LkOk(ls:List qv)(M:Nat):Prop where
 len:ls.length<=10000
 nodes:M<=156
 fr0:∀x,x<ls.length->0<=(gt ls x).Bl
 fr1:∀x,x<ls.length->(gt ls x).Bl<(M:Int)
 to0:∀x,x<ls.length->0<=(gt ls x).To
 to1:∀x,x<ls.length->(gt ls x).To<(M:Int)
def frL(ls:List qv)(x:Nat):Int:=(gt ls x).Bl
def toL(ls:List qv)(x:Nat):Int:=(gt ls x).To
def lvL(lv:List Bool)(x:Nat):Bool:=gt lv x
abbrev inL(ls:List qv)(lv:List Bool)(j:Nat)(R:List Nat)(k:Nat):Nat:=inN j (frL ls) (toL ls) (lvL lv) R k
abbrev nxtL(ls:List qv)(lv:List Bool)(M:Nat)(R:List Nat):Option Nat:=nxtN ls.length (frL ls) (toL ls) (lvL lv) M R
abbrev ordL(ls:List qv)(lv:List Bool)(M m:Nat)(R:List Nat):Option (List Nat):=ordN ls.length (frL ls) (toL ls) (lvL lv) M m R
def ordR(ls:List qv)(lv:List Bool)(M:Nat):List Int×Bool:=match ordL ls lv M M [] with|some R=>(ints R,true)|none=>([],false)
theorem qwF{ls:List qv}{lv:List Bool}{M m:Nat}{R:List Nat}(h:nxtL ls lv M R=U):ordL ls lv M (m+1) R=U:=by
 show(match nxtL ls lv M R with|none=>U|some k=>ordL ls lv M m (R++[k]))=U;rw[h]
theorem qwM{ls:List qv}{lv:List Bool}{M m k:Nat}{R:List Nat}(h:nxtL ls lv M R=V k):ordL ls lv M (m+1) R=ordL ls lv M m (R++[k]):=by
 show(match nxtL ls lv M R with|none=>U|some k=>ordL ls lv M m (R++[k]))=_;rw[h]
theorem qp0{M:Nat}{v:Bool}(h:M<=2147483648):mkS (M:Int) v=V (pre (fun _=>v) M):=by
 rw[qmN h]
 congr 1
 refine Jn (by simp[pre]) fun i a b=>?_;simp[pre]
theorem qAv{L:Nat}{fr to:Nat->Int}{lv:Nat->Bool}{R:List Nat}{k:Nat}:inN L fr to lv R k<=L:=qf6
theorem quk{L:Nat}{fr to:Nat->Int}{lv:Nat->Bool}{R:List Nat}{k:Nat}:inN (L+1) fr to lv R k=inN L fr to lv R k+(bif lv L&&(to L==(k:Int)&&!decide (fr L∈ints R)) then 1 else 0):=rfl
def ledB(ls:List qv)(lv:List Bool)(j:Nat)(R:List Nat)(M:Nat):List Bool:=pre (fun k=>!decide (inL ls lv j R k=0)) M
def inB(R:List Nat)(M:Nat):List Bool:=pre (fun k=>decide (k∈R)) M
theorem qzY{ls:List qv}{lv:List Bool}{M:Nat}(h:LkOk ls M)(z:lv.length=ls.length){R:List Nat} :
  Ev (fun n=>qcE ls lv (inB R M) n (pre (fun _=>false) M) 0) (ledB ls lv ls.length R M,(ls.length:Int)):=by
 have x:=h.len;refine loopF (Lf:=qcE ls lv (inB R M)) (S:=fun j=>ledB ls lv j R M) (len:=ls.length) (fun n=>?_) (fun j l X i=>?_)
 ·simp only[qcE,ql (je _),cond_false]
 ·obtain⟨a,u⟩:∃a:Nat,(gt ls j).Bl=(a:Int):=⟨_,qfM (h.fr0 j l)⟩;obtain⟨c,v⟩:∃c:Nat,(gt ls j).To=(c:Int):=⟨_,qfM (h.to0 j l)⟩;have p:a<M:=by have:=h.fr1 j l;omega
  have r:c<M:=by have:=h.to1 j l;omega
  have s:frL ls j=(a:Int):=u;have o:toL ls j=(c:Int):=v;have b:decide (frL ls j∈ints R)=decide (a∈R):=by rw[s];exact decide_eq_decide.2 qhV
  have i1:idx (inB R M) (a:Int)=V (decide (a∈R)):=qid (f:=fun k=>decide (k∈R)) p;have y:idx (ledB ls lv j R M) (c:Int)=V (!decide (inL ls lv j R c=0)):=qid (f:=fun k=>!decide (inL ls lv j R k=0)) r;have t:(lvL lv j&&!decide (a∈R))=true->ledB ls lv (j+1) R M=setS (ledB ls lv j R M) (c:Int) true:=by
   intro g;unfold ledB;rw[qps];refine qhq fun k _=>?_;show(!decide (inN (j+1) _ _ _ R k=0))=_;rw[quk,o,b];by_cases m:k=c
   ·subst m;rw[if_pos Z];simp only[jf] at g;simp[g.1,g.2]
   ·rw[if_neg m,show((c:Int)==(k:Int))=false by simp;omega];simp
  have d:(lvL lv j&&!decide (a∈R))=false->ledB ls lv (j+1) R M=ledB ls lv j R M:=by
   intro g;unfold ledB;refine qhq fun k _=>?_;show(!decide (inN (j+1) _ _ _ R k=0))=_;rw[quk,o,b,show(lvL lv j&&(((c:Int)==(k:Int))&&!decide (a∈R)))=false by
    cases h1:lvL lv j
    ·rfl
    ·rw[h1] at g;simp only[jG] at g;rw[g];simp]
   simp
  simp only[qcE,qj l,cond_true,qz (show j<lv.length by omega),qz l,jd,u,v,i1,y,wS j];cases h1:gt lv j
  ·simp only[cond_false,jd];have:=d (by unfold lvL;rw[h1];rfl);rw[this] at i;exact i
  ·simp only[cond_true,jd];cases h2:decide (a∈R)
   ·simp only[Bool.not_false,cond_true];have:=t (by unfold lvL;rw[h1,h2];rfl);rw[this] at i;exact i
   ·simp only[Jg,cond_false];have:=d (by unfold lvL;rw[h1,h2];rfl);rw[this] at i;exact i
theorem qx8{ls:List qv}{lv:List Bool}{M:Nat}(h:LkOk ls M){R:List Nat} :
  Ev (fun n=>qb4 (M:Int) (inB R M) (ledB ls lv ls.length R M) n 0) (match nxtL ls lv M R with|some k=>(k:Int)|none=>(M:Int)):=by
 have t:=h.nodes;have b:∀d j,j+d=M->(∀i,i<j->freeN ls.length (frL ls) (toL ls) (lvL lv) R i=false) ->
   Ev (fun n=>qb4 (M:Int) (inB R M) (ledB ls lv ls.length R M) n (j:Int)) (match nxtL ls lv M R with|some k=>(k:Int)|none=>(M:Int)):=by
  intro d
  induction d with
  |zero=>
   intro j p c;have l:nxtL ls lv M R=U:=by
    show(List.range M).find? _=U;rw[List.find?_eq_none];intro x r;rw[List.mem_range] at r;rw[c x (by omega)];simp
   rw[l];refine Ev.succ ?_;simp only[qb4,ql (show M<=j by omega),cond_false];rw[show j=M by omega];exact .done
  |succ d ih=>
   intro j p c;have a:j<M:=by omega
   have i1:idx (inB R M) (j:Int)=V (decide (j∈R)):=qid (f:=fun k=>decide (k∈R)) a;have s:idx (ledB ls lv ls.length R M) (j:Int)=V (!decide (inL ls lv ls.length R j=0)):=qid (f:=fun k=>!decide (inL ls lv ls.length R k=0)) a;refine Ev.succ ?_;simp only[qb4,qj a,cond_true,i1,s,jd,wS j];have m:freeN ls.length (frL ls) (toL ls) (lvL lv) R j=false->Ev (fun n=>qb4 (M:Int) (inB R M) (ledB ls lv ls.length R M) n ((j+1:Nat):Int)) (match nxtL ls lv M R with|some k=>(k:Int)|none=>(M:Int)):=fun o=>
    ih (j+1) (by omega) fun i hi=>by
     by_cases g:i=j
     ·rw[g];exact o
     ·exact c i (by omega)
   cases h1:decide (j∈R)
   ·simp only[cond_false];cases h2:decide (inL ls lv ls.length R j=0)
    ·simp only[Bool.not_false,cond_true];exact m (by unfold freeN;rw[h1];show(!false&&decide (inL ls lv ls.length R j=0))=false;rw[h2];rfl)
    ·simp only[Jg,cond_false];have:nxtL ls lv M R=V j:=by
      show(List.range M).find? _=V j;rw[List.find?_range_eq_some];refine⟨?_,List.mem_range.2 a,fun i hi=>by rw[c i hi];rfl⟩;unfold freeN;rw[h1];show(!false&&decide (inL ls lv ls.length R j=0))=true;rw[h2];rfl
     rw[this];exact .done
   ·simp only[cond_true];exact m (by unfold freeN;rw[h1];rfl)
 exact b M 0 (by omega) (fun i hi=>absurd hi (by omega))
theorem qs1{ls:List qv}{lv:List Bool}{M:Nat}(h:LkOk ls M)(g:lv.length=ls.length):Ev (fun n=>qgz n (M:Int) ls lv) (ordR ls lv M):=by
 have l:=h.nodes;have b:∀m R,R.length+m=M->Ev (fun n=>qer (M:Int) ls lv n (inB R M) (ints R))
   (match ordL ls lv M m R with|some R'=>.nxt (inB R' M,ints R')|none=>.ret ([],false)):=by
  intro m
  induction m with
  |zero=>
   intro R c;refine Ev.succ ?_;simp only[qer,qbQ,ql (show M<=R.length by omega),cond_false];exact .done
  |succ m ih=>
   intro R c;refine Ev.succ ?_;simp only[qer,qbQ,qj (show R.length<M by omega),cond_true,qp0 (v:=false) (show M<=2147483648 by omega),jd];refine Ev.bind (qzY h g) (Ev.bind (qx8 h) ?_);show Ev _ (match (match nxtL ls lv M R with|none=>U|some k=>ordL ls lv M m (R++[k])) with|some R'=>_|none=>_);cases hn:nxtL ls lv M R with
   |none=>
    simp only[beq_self_eq_true,cond_true];exact .done
   |some k=>
    obtain⟨d,_,_⟩:=qql hn;have i1:idx (inB R M) (k:Int)=V (decide (k∈R)):=qid (f:=fun k=>decide (k∈R)) d;have e1:setS (inB R M) (k:Int) true=inB (R++[k]) M:=by
     unfold inB;rw[qps];refine qhq fun i _=>?_;by_cases a:i=k
     ·subst a;simp
     ·simp[a]
    simp only[show((k:Int)==(M:Int))=false by simp;omega,cond_false,i1,jd];rw[qbd (by rw[qbQ,jo];omega),e1,<-qkV];exact ih (R++[k]) (by rw[jg,jo];omega)
 have e0:pre (fun _=>false) M=inB [] M:=qhq fun k _=>by simp
 unfold qgz;rw[qp0 (v:=false) (show M<=2147483648 by omega)];simp only[jd];rw[e0];refine Ev.bind (b M [] (by simp)) ?_;unfold ordR;cases ordL ls lv M M []<;>exact .done
def grV(ls:List qv)(lv:List Bool)(ps:List Tplace)(b:qf)(lo:List Int)(de:List (List Int))(ex:List Int):Option Tgraph:=V ⟨V ⟨b,ps,ls,lo,de,ex⟩,lv⟩
theorem qte{xs:List Int}(c:xs.length<=1000000):Ev (fun n=>qhJ n xs 0) (ixL (fun y=>(0:Int)==y) xs):=
 qgi (fin:=(xs.length:Int)) (Lf:=qc4 xs 0) (pf:=fun _ y=>V ((0:Int)==y)) (fun _ _=>.done)
  (fun n=>by simp only[qc4,ql (je _),cond_false])
  (fun n j x a=>by
   have b:=(List.getElem?_eq_some_iff.1 a).1;simp only[qc4,qj b,cond_true,qaE a,jd,wS j])
  (fun n=>by unfold qhJ;congr 1;funext o;cases o<;>rfl)
theorem qy5{f:Nat->Int}{M:Nat}{p:Int->Bool}:ixL p (vecI f M)=match (List.range M).find? (fun k=>p (f k)) with|some k=>(k:Int)|none=>-1:=by
 cases hf:(List.range M).find? (fun k=>p (f k)) with
 |none=>
  have a:(vecI f M).findIdx? p=U:=by
   rw[List.findIdx?_eq_none_iff];intro x g;obtain⟨k,d,rfl⟩:=List.mem_map.1 g;have:=List.find?_eq_none.1 hf k d;simpa using this
  unfold ixL;rw[a]
 |some k=>
  obtain⟨a,b,c⟩:=List.find?_range_eq_some.1 hf;rw[List.mem_range] at b;have:=qsY (p:=p) (xs:=vecI f M) (j:=k) (by rw[qme];exact b) (by simpa [vecI] using a) (fun i hi=>by
   have:=c i hi;simpa [vecI] using this)
  rw[this]
section
variable{ls:List qv}{lv:List Bool}{M:Nat}{ps:List Tplace}{b:qf}{lo:List Int}{de:List (List Int)}{ex:List Int}
theorem qtD(h:LkOk ls M)(k:lv.length=ls.length):Ev (fun n=>qbf n (grV ls lv ps b lo de ex)) (ints (selN (lvL lv) ls.length)):=by
 have g:=h.len;have f:Ev (fun n=>qF ⟨V ⟨b,ps,ls,lo,de,ex⟩,lv⟩ ⟨b,ps,ls,lo,de,ex⟩ n ([]:List Int) 0) (ints (selN (lvL lv) ls.length),(ls.length:Int)):=by
  refine qp9 (q:=lvL lv) (Lf:=qF ⟨V ⟨b,ps,ls,lo,de,ex⟩,lv⟩ ⟨b,ps,ls,lo,de,ex⟩) (len:=ls.length) (by omega) (Ev.succ ?_) (fun j a t i X c d=>?_)
  ·simp only[qF,ql (je _),cond_false];exact .done
  ·simp only[qF,qj a,cond_true,qz a,qz (show j<lv.length by omega),jd,qip,i,wS j];cases hq:gt lv j
   ·simp only[cond_false];exact d hq
   ·simp only[cond_true];exact c hq
 unfold qbf grV;simp only[jd];exact Ev.bind f .done
theorem qzl(h:LkOk ls M)(k:lv.length=ls.length){v:Int}:Ev (fun n=>qh9 n (grV ls lv ps b lo de ex) v) (ints (selN (fun x=>lvL lv x&&(frL ls x==v)) ls.length)):=by
 have g:=h.len;have f:Ev (fun n=>qH v ⟨V ⟨b,ps,ls,lo,de,ex⟩,lv⟩ ⟨b,ps,ls,lo,de,ex⟩ n ([]:List Int) 0) (ints (selN (fun x=>lvL lv x&&(frL ls x==v)) ls.length),(ls.length:Int)):=by
  refine qp9 (q:=fun x=>lvL lv x&&(frL ls x==v)) (Lf:=qH v ⟨V ⟨b,ps,ls,lo,de,ex⟩,lv⟩ ⟨b,ps,ls,lo,de,ex⟩) (len:=ls.length) (by omega) (Ev.succ ?_) (fun j d t i X c a=>?_)
  ·simp only[qH,ql (je _),cond_false];exact .done
  ·simp only[qH,qj d,cond_true,qz d,qz (show j<lv.length by omega),jd,qiV,i,wS j];unfold lvL frL at c a;cases hq:gt lv j
   ·simp only[cond_false];exact a (by rw[hq];rfl)
   ·simp only[cond_true];cases hw:(gt ls j).Bl==v
    ·simp only[cond_false];exact a (by rw[hq,hw];rfl)
    ·simp only[cond_true];exact c (by rw[hq,hw];rfl)
 unfold qh9 qcn grV;simp only[jd];exact Ev.bind (Ev.bind f .done) .done
theorem qxR{q:Nat->Bool}{m:Nat}{p:Nat->Bool}:(selN q m).countP p=cntP (fun x=>q x&&p x) m:=by
 induction m with
 |zero=>rfl
 |succ m ih=>
  rw[qjz,List.countP_append,ih];show _=cntP (fun x=>q x&&p x) m+(bif (q m&&p m) then 1 else 0);cases q m
  ·rfl
  ·cases hp:p m<;>simp[hp]
def cntT(ls:List qv)(S:List Nat)(k:Nat):Nat:=S.countP (fun x=>toL ls x==(k:Int))
theorem qv8{S:List Nat}{k:Nat}:cntT ls S k<=S.length:=List.countP_le_length
theorem qxB{S:List Nat}{j k:Nat}(a:j<S.length):cntT ls (S.take (j+1)) k=cntT ls (S.take j) k+(if toL ls S[j]=(k:Int) then 1 else 0):=by
 unfold cntT;rw[js a,List.countP_append];by_cases h:toL ls S[j]=(k:Int)<;>simp[h]
theorem bumpV{f:Nat->Int}{c:Nat}{S:List Nat}{j:Nat}{d v:Int}(g:j<S.length)(b:toL ls S[j]=(c:Int))(h:v=f c+d*(cntT ls (S.take j) c:Int)+d) :
  setS (vecI (fun k=>f k+d*(cntT ls (S.take j) k:Int)) M) (c:Int) v=vecI (fun k=>f k+d*(cntT ls (S.take (j+1)) k:Int)) M:=by
 rw[qrH];refine qfs fun k _=>?_;rw[qxB g,b];by_cases a:k=c
 ·subst a;rw[if_pos Z,if_pos Z,h];rw[Int.natCast_add,Int.mul_add];omega
 ·rw[if_neg a,if_neg (by omega)];simp
theorem qAG(h:LkOk ls M){S:List Nat}(p:∀x,x∈S->x<ls.length)(s:S.length<=10000) :
  Ev (fun n=>qce ⟨V ⟨b,ps,ls,lo,de,ex⟩,lv⟩ (ints S) n (vecI (fun _=>0) M) 0) (vecI (fun k=>(cntT ls S k:Int)) M,(S.length:Int)):=by
 have:=loopF (Lf:=qce ⟨V ⟨b,ps,ls,lo,de,ex⟩,lv⟩ (ints S)) (S:=fun j=>vecI (fun k=>0+1*(cntT ls (S.take j) k:Int)) M) (len:=S.length) (fin:=(vecI (fun k=>(cntT ls S k:Int)) M,(S.length:Int))) (fun n=>by
   simp only[qce,qbQ,ql (je _),cond_false,jE];rw[qfs (f:=fun k=>0+1*(cntT ls S k:Int)) (g:=fun k=>(cntT ls S k:Int)) (fun k _=>by omega)])
  (fun j a X r=>by
   have m:=p S[j] (jp a);obtain⟨c,o⟩:∃c:Nat,(gt ls S[j]).To=(c:Int):=⟨_,qfM (h.to0 _ m)⟩;have i:c<M:=by have:=h.to1 _ m;omega
   have l:=qv8 (ls:=ls) (S:=S.take j) (k:=c);rw[jw] at l;simp only[qce,qbQ,qj a,cond_true,qlX a,jd,qz m,o,qn6 i,wS j];rw[qaw (by omega) (by omega),bumpV (d:=1) a o (by omega)];exact r)
 rw[qfs (f:=fun k=>0+1*(cntT ls (S.take 0) k:Int)) (g:=fun _=>0) (fun k _=>by unfold cntT;simp)] at this;exact this
theorem qyV(h:LkOk ls M){S:List Nat}{f:Nat->Int}(p:∀x,x∈S->x<ls.length)(u:S.length<=10000)(s:∀k,k<M->-1<=f k/\f k<=10000) :
  Ev (fun n=>qcc ⟨V ⟨b,ps,ls,lo,de,ex⟩,lv⟩ (ints S) n (vecI f M) 0) (vecI (fun k=>f k-(cntT ls S k:Int)) M,(S.length:Int)):=by
 have:=loopF (Lf:=qcc ⟨V ⟨b,ps,ls,lo,de,ex⟩,lv⟩ (ints S)) (S:=fun j=>vecI (fun k=>f k+(-1)*(cntT ls (S.take j) k:Int)) M) (len:=S.length) (fin:=(vecI (fun k=>f k-(cntT ls S k:Int)) M,(S.length:Int))) (fun n=>by
   simp only[qcc,qbQ,ql (je _),cond_false,jE];rw[qfs (f:=fun k=>f k+(-1)*(cntT ls S k:Int)) (g:=fun k=>f k-(cntT ls S k:Int)) (fun k _=>by omega)])
  (fun j i X r=>by
   have m:=p S[j] (jp i);obtain⟨c,o⟩:∃c:Nat,(gt ls S[j]).To=(c:Int):=⟨_,qfM (h.to0 _ m)⟩;have a:c<M:=by have:=h.to1 _ m;omega
   have l:=qv8 (ls:=ls) (S:=S.take j) (k:=c);rw[jw] at l;have t:=s c a;simp only[qcc,qbQ,qj i,cond_true,qlX i,jd,qz m,o,qn6 a,wS j];rw[qaw (by omega) (by omega),bumpV (d:=-1) i o (by omega)];exact r)
 rw[qfs (f:=fun k=>f k+(-1)*(cntT ls (S.take 0) k:Int)) (g:=f) (fun k _=>by unfold cntT;simp)] at this;exact this
def openV(ls:List qv)(lv:List Bool)(R:List Nat)(k:Nat):Int:=if k∈R then -1 else(inL ls lv ls.length R k:Int)
theorem qxn{R:List Nat}:ixL (fun y=>(0:Int)==y) (vecI (openV ls lv R) M)=match nxtL ls lv M R with|some k=>(k:Int)|none=>-1:=by
 rw[qy5];have:(fun k=>((0:Int)==openV ls lv R k))=freeN ls.length (frL ls) (toL ls) (lvL lv) R:=by
  funext k
  unfold openV freeN;by_cases a:k∈R
  ·rw[if_pos a];simp[a]
  ·rw[if_neg a];simp only[a,decide_false,Bool.not_false,jG];by_cases b:inL ls lv ls.length R k=0
   ·simp[b]
   ·rw[show((0:Int)==((inL ls lv ls.length R k:Nat):Int))=false from beq_eq_false_iff_ne.2 (by omega)];simpa using b
 rw[this]
 rfl
theorem qwI(h:LkOk ls M)(t:lv.length=ls.length)(F:M=2*ps.length):Ev (fun n=>qhy n (grV ls lv ps b lo de ex)) (ordR ls lv M):=by
 have H:=h.nodes;have C:=h.len;have g:∀m R,R.length+m=M->Closed ls.length (frL ls) (toL ls) (lvL lv) R->∃y:List Int×List Int×Int,Ev (fun n=>qcb (grV ls lv ps b lo de ex) ⟨V ⟨b,ps,ls,lo,de,ex⟩,lv⟩ (vecI (fun _=>0) M) n (ints R) (vecI (openV ls lv R) M) (R.length:Int))
   (match ordL ls lv M m R with|some R'=>.nxt (ints R',y.2.1,y.2.2)|none=>.ret ([],false)):=by
  intro m
  induction m with
  |zero=>
   intro R A _;refine⟨(ints R,vecI (openV ls lv R) M,(R.length:Int)),Ev.succ ?_⟩;simp only[qcb,qme,ql (show M<=R.length by omega),cond_false];exact .done
  |succ m ih=>
   intro R A s;have c:=qte (xs:=vecI (openV ls lv R) M) (by rw[qme];omega);rw[qxn] at c;cases hn:nxtL ls lv M R with
   |none=>
    rw[hn] at c;rw[qwF hn];refine⟨([],[],0),Ev.succ ?_⟩;simp only[qcb,qme,qj (show R.length<M by omega),cond_true];exact Ev.bind c (Ev.tt (by decide) .done)
   |some k=>
    rw[hn] at c;rw[qwM hn];obtain⟨B,d,r⟩:=qql hn;obtain⟨y,o⟩:=ih (R++[k]) (by rw[jg,jo];omega) (s.snoc r);refine⟨y,Ev.succ ?_⟩;simp only[qcb,qme,qj (show R.length<M by omega),cond_true];refine Ev.bind c (Ev.ff (by simp) ?_);rw[qn6 B,qbd (by rw[qbQ,jo];omega),qrH,<-qkV];simp only[jd];refine Ev.bind (qzl h t) ?_;have D:=qmB (q:=fun x=>lvL lv x&&(frL ls x==(k:Int))) (j:=ls.length);refine Ev.bind (qyV h (fun x p=>(qfk.1 p).1) (by omega) (fun i hi=>?_)) ?_
    ·split
     ·omega
     ·unfold openV;have:inL ls lv ls.length R i<=ls.length:=qAv;split<;>omega
    ·have u:vecI (fun i=>(if i=k then -1 else openV ls lv R i)-(cntT ls (selN (fun x=>lvL lv x&&(frL ls x==(k:Int))) ls.length) i:Int)) M=vecI (openV ls lv (R++[k])) M:=by
      refine qfs fun i _=>?_;have v:cntT ls (selN (fun x=>lvL lv x&&(frL ls x==(k:Int))) ls.length) i=lkN ls.length (frL ls) (toL ls) (lvL lv) k i:=qxR;rw[v];unfold openV;by_cases a:i∈R++[k]
      ·rw[if_pos a,s.no_back d r a];rcases List.mem_append.1 a with l|l
       ·split
        ·rfl
        ·rfl
       ·rw[if_pos (List.mem_singleton.1 l)];rfl
      ·have l:i∉R:=fun e=>a (jJ _ e);have z:i≠k:=fun e=>a (jP _ (List.mem_singleton.2 e));rw[if_neg a,if_neg z,if_neg l];have:=qx7 (L:=ls.length) (fr:=frL ls) (to:=toL ls) (lv:=lvL lv) (R:=R) (i:=k) (k:=i) d;show(inN _ _ _ _ R i:Int)-_=(inN _ _ _ _ (R++[k]) i:Int);omega
     rw[u,qi3 (show R.length<9223372036854775807 by omega)];rw[jg,jo] at o;exact o
 have f:=qAG (b:=b) (ps:=ps) (lo:=lo) (de:=de) (ex:=ex) (lv:=lv) h (S:=selN (lvL lv) ls.length) (fun x p=>(qfk.1 p).1) (by have:=qmB (q:=lvL lv) (j:=ls.length);omega);have e0:vecI (fun k=>(cntT ls (selN (lvL lv) ls.length) k:Int)) M=vecI (openV ls lv []) M:=by
  refine qfs fun k _=>?_;unfold openV;rw[if_neg (by simp)]
  congr 1
  show List.countP _ _=inN _ _ _ _ [] k;rw[qxR];unfold inN;exact qrV fun x _=>by simp[ints]
 rw[e0] at f;obtain⟨y,o⟩:=g M [] (by simp) Closed.nil;unfold qhy;show Ev (fun n=>(V _).bind _) _;simp only[jd,qb3,qeg];rw[qaw (by omega) (by omega),show 2*(ps.length:Int)=(M:Int) by omega,qsx (by omega)];simp only[jd];refine Ev.bind (qtD h t) (Ev.bind f (Ev.bind o ?_));unfold ordR;cases ordL ls lv M M []<;>exact .done
end
end Go.Fw


namespace Go.Fw
open Go Go.Proofs Go.Proofs.Tryz
open Go.RowKit (Below)
open Ch renaming own->oW,box->oX,grp->oG
open GoT renaming v->oV
open Go.Value renaming slice->oS
set_option maxRecDepth 100000
set_option maxHeartbeats 6400000
variable{n:Nat}{w:World}{cs1 cs2 cs3 cs4 cs5 cs6 cs7 cs8 cs9:List Value}
def ql4(_:Nat)(b:Int):Option qq:=(mkS b (false:Bool)).bind fun x1=>(mkS b ((⟨0,0⟩:qe):qe)).bind fun a=>(mkS b ((⟨0,0⟩:qe):qe)).bind fun x3=>V (⟨x1,a,x3⟩:qq)
theorem qpV{a_n}  {r:qq}(F:ql4 n a_n=V r):RetV prog 236 [vi a_n] w r:=by
 refine zV 10 func236 Z fun h=>zSR (qp qa h Z Z Z fun _ I h=>zNS (rA [] [] h Z fun _ h=>M0 21 [0,2,4] (h.p [] Z) Z ?_));obtain⟨x1,a,F⟩:=qc F;obtain⟨A,b,F⟩:=qc F;obtain⟨x3,c,F⟩:=qc F;refine qkD (fun e w'=>∃C x D y H z,e=[(2,vp I)]/\SH w w' [oW C (x3:List qe) [oS x x3.length x3.length],oW D (A:List qe) [oS y A.length A.length],oW H (x1:List Bool) [oS z x1.length x1.length],oX I [oS z x1.length x1.length,oS y A.length A.length,oS x x3.length x3.length] 111]) 0 (bits 8 255) ?_ ?_
 ·intro K;refine qrf 1 3 5 Z Z Z (bits 8 23) (bits 8 29) (bits 8 53) (by kernel_rfl) (by kernel_rfl) (by kernel_rfl) (by kernel_rfl) ?_ ?_ ?_
  ·obtain⟨m,o,a⟩:=qQ a;refine qai qa Bool h Z Z Z Z Z Z Z Z Z m o a Z fun L B J h=>Ag (h.p [] Z) (At 3 5 31 55 Z ?_ ?_)
   ·obtain⟨d,f,b⟩:=qQ b;refine qai qa qe h Z Z Z Z Z Z Z Z Z d f b Z fun t k p h=>Ag (h.p [] Z) (Ao 5 63 Z ?_);obtain⟨g,i,c⟩:=qQ c;refine qai qa qe h Z Z Z Z Z Z Z Z Z g i c Z fun u l s h=>Ag (h.p [] Z) (Aw 6 127 (fun w' M=>qG qa [0,1,2] [.tmp 4,.tmp 6,.tmp 8] Z Z Z Z Z Z Z Z) (h.p [] Z) Z ?_);exact Ao 7 255 Z (zs 3 h Z fun v h=>Ag (h.p [] Z) (qqo [(2,_)] ⟨rfl,G⟩ (K _ _ ⟨_,_,_,_,_,_,rfl,h⟩)))
   obtain⟨d,f,c⟩:=qQ c;refine qai qa qe h Z Z Z Z Z Z Z Z Z d f c Z fun t k p h=>Ag (h.p [] Z) (Ao 3 63 Z ?_);obtain⟨g,i,b⟩:=qQ b;refine qai qa qe h Z Z Z Z Z Z Z Z Z g i b Z fun u l s h=>Ag (h.p [] Z) (Aw 6 127 (fun w' M=>qG qa [0,1,2] [.tmp 4,.tmp 6,.tmp 8] Z Z Z Z Z Z Z Z) (h.p [] Z) Z ?_);refine Ao 7 255 Z (zs 3 h Z fun v h=>Ag (h.p [] Z) ?_);replace h:=h.p [1,0,2,3] Z;exact aK K ⟨_,_,_,_,_,_,rfl,h⟩ Z
  ·obtain⟨m,o,b⟩:=qQ b;refine qai qa qe h Z Z Z Z Z Z Z Z Z m o b Z fun L B J h=>Ag (h.p [] Z) (At 1 5 31 61 Z ?_ ?_)
   ·obtain⟨d,f,a⟩:=qQ a;refine qai qa Bool h Z Z Z Z Z Z Z Z Z d f a Z fun t k p h=>Ag (h.p [] Z) (Ao 5 63 Z ?_);obtain⟨g,i,c⟩:=qQ c;refine qai qa qe h Z Z Z Z Z Z Z Z Z g i c Z fun u l s h=>Ag (h.p [] Z) (Aw 6 127 (fun w' M=>qG qa [0,1,2] [.tmp 4,.tmp 6,.tmp 8] Z Z Z Z Z Z Z Z) (h.p [] Z) Z ?_);refine Ao 7 255 Z (zs 3 h Z fun v h=>Ag (h.p [] Z) ?_);replace h:=h.p [0,2,1,3] Z;exact aK K ⟨_,_,_,_,_,_,rfl,h⟩ Z
   obtain⟨d,f,c⟩:=qQ c;refine qai qa qe h Z Z Z Z Z Z Z Z Z d f c Z fun t k p h=>Ag (h.p [] Z) (Ao 1 63 Z ?_);obtain⟨g,i,a⟩:=qQ a;refine qai qa Bool h Z Z Z Z Z Z Z Z Z g i a Z fun u l s h=>Ag (h.p [] Z) (Aw 6 127 (fun w' M=>qG qa [0,1,2] [.tmp 4,.tmp 6,.tmp 8] Z Z Z Z Z Z Z Z) (h.p [] Z) Z ?_);refine Ao 7 255 Z (zs 3 h Z fun v h=>Ag (h.p [] Z) ?_);replace h:=h.p [1,2,0,3] Z;exact aK K ⟨_,_,_,_,_,_,rfl,h⟩ Z
  obtain⟨m,o,c⟩:=qQ c;refine qai qa qe h Z Z Z Z Z Z Z Z Z m o c Z fun L B J h=>Ag (h.p [] Z) (At 1 3 55 61 Z ?_ ?_)
  ·obtain⟨d,f,a⟩:=qQ a;refine qai qa Bool h Z Z Z Z Z Z Z Z Z d f a Z fun t k p h=>Ag (h.p [] Z) (Ao 3 63 Z ?_);obtain⟨g,i,b⟩:=qQ b;refine qai qa qe h Z Z Z Z Z Z Z Z Z g i b Z fun u l s h=>Ag (h.p [] Z) (Aw 6 127 (fun w' M=>qG qa [0,1,2] [.tmp 4,.tmp 6,.tmp 8] Z Z Z Z Z Z Z Z) (h.p [] Z) Z ?_);refine Ao 7 255 Z (zs 3 h Z fun v h=>Ag (h.p [] Z) ?_);replace h:=h.p [2,0,1,3] Z;exact aK K ⟨_,_,_,_,_,_,rfl,h⟩ Z
  obtain⟨d,f,b⟩:=qQ b;refine qai qa qe h Z Z Z Z Z Z Z Z Z d f b Z fun t k p h=>Ag (h.p [] Z) (Ao 1 63 Z ?_);obtain⟨g,i,a⟩:=qQ a;refine qai qa Bool h Z Z Z Z Z Z Z Z Z g i a Z fun u l s h=>Ag (h.p [] Z) (Aw 6 127 (fun w' M=>qG qa [0,1,2] [.tmp 4,.tmp 6,.tmp 8] Z Z Z Z Z Z Z Z) (h.p [] Z) Z ?_);refine Ao 7 255 Z (zs 3 h Z fun v h=>Ag (h.p [] Z) ?_);replace h:=h.p [2,1,0,3] Z;exact aK K ⟨_,_,_,_,_,_,rfl,h⟩ Z
 rintro _ _ ⟨C,x,D,y,H,z,rfl,h⟩;refine Ad ?_;obtain rfl:=qb F;exact qU qa (ρ:=qq) [oV qq [oS z x1.length x1.length,oS y A.length A.length,oS x x3.length x3.length]] h ⟨⟨_,_,_,rfl,rfl,h.box 3 Z,rfl⟩,G⟩ (PV.done h (qaa (qgg (⟨x1,A,x3⟩:qq) h (qao 2 h Z) (qao 1 h Z) (qao 0 h Z) (by rfl) (by rfl))))
def qmV(_:Nat)(list:(List Int)):Option (List Int):=(appS ([]:List Int) list).bind fun x1=>V x1
theorem qqT{list:(List Int)}(b:Ro w list cs1){r:(List Int)}(F:qmV n list=V r):RetV prog 246 [oV (List Int) cs1] w r:=by
 obtain⟨_,_,rfl,d⟩:=b;refine zV 6 func246 Z fun h=>X0 6 Z (qE qa [] _ ([]:List Int) h Z Z Z Z Z Z Z Z Z trivial Z fun _ _ _ h=>zp1 Z ?_);obtain⟨_,a,F⟩:=qc F;obtain⟨c,a⟩:=qM a;refine qbM qa 0 h Z (h.oldS d) Z Z Z Z Z Z Z Z Z Z c a Z fun _ _ _ _ h=>X0 2 Z ?_;obtain rfl:=qb F;exact rO 0 h Z ⟨rfl,G⟩
def qlP(_:Nat)(l:qn)(d:qd)(p:Tl05Place):Option Int:=bif decide (p.instance_<0) then V 0 else(idx d.Ab p.instance_).bind fun a=>(idx l.Ay a.Bu).bind fun b=>(idx b.Bh p.pin).bind fun c=>V c.Bv
theorem qrQ{l:qn}{d:qd}{p:Tl05Place}(a:Ro w l cs1)(b:Ro w d cs2)(c:Ro w p cs3){r:Int}(F:qlP n l d p=V r):RetV prog 247 [oV qn cs1,oV qd cs2,oV Tl05Place cs3] w r:=by
 obtain⟨_,_,rfl,C⟩:=qbF a;obtain⟨_,_,_,_,_,_,rfl,s2,_,_⟩:=qaz b;obtain rfl:=qb0 c;refine zV 27 func247 Z fun h=>zSR (qx h Z Z fun _ _ h=>qx h Z Z fun _ _ h=>qx h Z Z fun _ _ h=>X1 9 0 h Z (qg Z F ?_ ?_))<;>intro F
 ·exact X0 4 Z (ri h F Z)
 refine zKS (rD (Y1 2 2 h Z ?_));refine Y1 2 1 h Z ?_;refine Y1 2 0 h Z ?_;obtain⟨_,_,F,k,_,_,_,_,s,v,z,f⟩:=s2.ix F;obtain⟨_,_,rfl,_⟩:=qV z;refine zdxe s v k Z (zd1 Z (zdc 1 (f.below h.below) Z ?_));obtain⟨_,_,F,m,_,_,_,_,t,x,A,g⟩:=C.ix F;obtain⟨_,_,_,_,_,_,rfl,D,_,_⟩:=qag A;refine zdxe t x m Z (zd1 Z (zdc 2 (g.below h.below) Z (Y1 2 0 h Z ?_)));obtain⟨_,_,F,o,_,_,_,_,u,y,B,i⟩:=D.ix F;obtain rfl:=qbx B;exact zdxe u y o Z (zd1 Z (zdc 2 (i.below h.below) Z (zd1 Z (dN h fun _ h=>ri h F Z))))
def qdj(d:qZ):Nat->(List Int)->Int->Option ((List Int)×Int)|0,_,_=>U|n+1,b,a=>bif decide (a > 0) then(idx d.Ba a).bind fun c=>(idx b c).bind fun f=>(idx b a).bind fun g=>(idx b c).bind fun _=>qdj d n (setS b c (W64 (f+g))) (W64 (a-1)) else V (b,a)
def qdu(a:qf)(f:qZ)(d:(List Tl05Place))(b:(List Int)):Nat->(List Int)->Int->Option ((List Int)×Int)|0,_,_=>U|n+1,x1,i1=>bif decide (i1<(b.length:Int)) then(idx f.Bn i1).bind fun c=>(idx x1 c).bind fun g=>(idx b i1).bind fun h=>(idx d h).bind fun i=>(qlP n (⟨a.Au.Ay⟩:qn) (⟨a.Aa.Ab,a.Aa.As,a.Aa.Ak⟩:qd) i).bind fun r4=>(idx x1 c).bind fun _=>qdu a f d b n (setS x1 c (W64 (g+r4))) (W64 (i1+1)) else V (x1,i1)
def qh5(n:Nat)(a:qf)(b:Int):Option (List Int):=(idx a.Ah b).bind fun c=>(qmV n c.Bv).bind fun d=>(qcq n (⟨a.Aa.Ab,a.Aa.As,a.Aa.Ak⟩:qd)).bind fun f=>(qgG n (⟨a.Aa.Ab,a.Aa.As,a.Aa.Ak⟩:qd) b).bind fun g=>(qdu a c f g n d 0).bind fun(x1,_)=>(qdj c n x1 (W64 ((d.length:Int)-1))).bind fun(h,_)=>V h
theorem qmc{a:qf}{k}(a5:Ro w a cs1){r:(List Int)}(F:qh5 n a k=V r):RetV prog 196 [oV qf cs1,vi k] w r:=by
 obtain⟨p1,k1,p2,k2,p3,k3,p4,k4,p5,k5,rfl,s1,s2,s3,s4,s5⟩:=qac a5;refine zV 76 func196 Z fun h=>zSR (qx h Z Z fun w1 l h=>X1 7 0 h Z ?_);obtain⟨Y,_,F,b4,_,_,_,_,b7,c0,c3,a6⟩:=s5.ix F;obtain⟨p6,k6,p7,k7,p8,k8,p9,k9,rfl,s6,_,s8,s9⟩:=qaT c3;refine zxe b7 c0 b4 Z (zc 0 (a6.below h.below) Z (qp qa h Z Z Z fun _ b h=>zs 0 h Z fun _ h=>X1 5 0 h Z (zcL h F (qqT ⟨_,_,rfl,(h.oldS s8)⟩) Z fun T _ S1 d c h F=>X1 6 2 h Z (zcL h F (qcj (qav _ (h.oldS s2) (h.oldS s3) (h.oldS s4))) Z fun W _ S2 Q O h F=>X1 7 3 h Z (zcL h F (qjq (qav _ (h.oldS s2) (h.oldS s3) (h.oldS s4))) Z fun X _ S3 R P h F=>X0 7 Z ?_)))));obtain⟨o1,F,a3⟩:=qc F;refine qm (rL (fun m e w'=>∃x1 i1,qdu a Y W X m x1 i1=V o1/\e=[(2,vp l),(5,vp b),(6,oS d T.length c),(7,oS Q W.length O),(8,oS R X.length P),(9,vi i1)]/\SH w w' [oW S3 (X:List Int) [oS R X.length P],oW S2 (W:List Tl05Place) [oS Q W.length O],oW S1 (x1:List Int) [oS d T.length c],oX b (qgR Y p6 p7 p8 p9 k6 k7 k8 k9) 183,oX l (qaY a p1 p2 p3 p4 p5 k1 k2 k3 k4 k5) 53]) n ⟨_,_,F,rfl,h⟩ Z ?_);rintro m1 _ _ ⟨x1,i1,F,rfl,h⟩;rcases m1 with _|m1
 ·cases F
 refine X0 8 Z (qg Z F ?_ ?_)<;>intro F
 ·refine zKSB (rA [22] [0,1,2,3,4] h Z fun _ h=>M1 15 [0,1,2,3] 3 (h.p [0,1,2,3,4] Z) Z ?_);obtain⟨_,_,F,b5,_,_,_,_,b8,c1,rfl,a7⟩:=s9.ix F;refine Ae 4 31 b8 c1 b5 (h.p [0,1,2,3,4] Z) Z (Al 5 63 0 a7 (h.p [0,1,2,3,4] Z) Z ?_);obtain⟨y3,c5,F,p,_,_,_,_,y,H,rfl,_⟩:=(h.sl 2 Z).1.ix F;refine Ax 6 127 y H ⟨p.1,qD p.2.1 (h.sl 2 Z).2⟩ (h.p [0,1,2,3,4] Z) Z (Aw 7 255 (fun w' hw=>qfv qa (qbU (w1:=w) (S1:=fun _=>False) hw 2 Z c5 y H Z) (j:=0) Z Z Z) (h.p [0,1,2,3,4] Z) Z ?_);refine M2 32767 [8,9,10,11,12,13,14] 4 4 (h.p [0,1,2,3,4] Z) Z ?_;obtain⟨_,c6,F,s,_,_,_,_,z,I,rfl,_⟩:=(h.sl 0 Z).1.ix F;refine Ax 15 65535 z I ⟨s.1,qD s.2.1 (h.sl 0 Z).2⟩ (h.p [0,1,2,3,4] Z) Z (Aw 16 131071 (fun w' hw=>qfv qa (qbU (w1:=w) (S1:=fun _=>False) hw 0 Z c6 z I Z) (j:=0) Z Z Z) (h.p [0,1,2,3,4] Z) Z ?_);obtain⟨y5,c7,F,t,_,_,_,_,A,J,c4,_⟩:=(h.sl 1 Z).1.ix F;obtain rfl:=qb0 c4;refine Ax 17 262143 A J ⟨t.1,qD t.2.1 (h.sl 1 Z).2⟩ (h.p [0,1,2,3,4] Z) Z (Aw 18 524287 (fun w' hw=>qfv qa (qbU hw 1 Z c7 A J (qfr (w:=w) (S:=fun _=>False) y5)) (j:=0) Z Z Z) (h.p [0,1,2,3,4] Z) Z ?_);refine Ao 19 1048575 Z (zcI h F (qrQ (qeb _ (h.oldS s1)) (qav _ (h.oldS s2) (h.oldS s3) (h.oldS s4)) (qfr y5)) Z fun r4 _ h F=>G0 2097151 [20] (h.p [0,1,2,3,4] Z) Z ?_);obtain⟨_,c8,F,u,_,_,_,_,B,K,rfl,a8⟩:=(h.sl 2 Z).1.ix F;exact Ax 21 4194303 B K ⟨u.1,qD u.2.1 (h.sl 2 Z).2⟩ (h.p [0,1,2,3,4] Z) Z (Ao 22 8388607 Z (qbg qa 2 0 (W64 (y3+r4)) h Z c8 B K Z a8 Z Z Z Z Z Z Z fun _ h=>qaX (fun hs=>absurd (hs 22 (by decide)) (by decide)) (Ad (X0 6 Z (rK ⟨_,_,F,rfl,h⟩ Z)))))
 refine qu Z ?_;obtain rfl:=qb F;replace F:=a3;refine X0 8 Z ?_;obtain⟨o2,F,a4⟩:=qc F;refine qm ?_;replace h:=h.p [2,3] Z;refine rL (fun m e w'=>∃x2 i2,qdj Y m x2 i2=V o2/\e=[(5,vp b),(6,oS d T.length c),(10,vi i2)]/\SH w w' [oW S1 (x2:List Int) [oS d T.length c],oX b (qgR Y p6 p7 p8 p9 k6 k7 k8 k9) 183]) n ⟨_,_,F,rfl,h⟩ Z ?_;rintro m2 _ _ ⟨x2,i2,F,rfl,h⟩;rcases m2 with _|m2
 ·cases F
 refine X0 6 Z (qg Z F ?_ ?_)<;>intro F
 ·refine zKSB (rA [14] [0,1] h Z fun _ h=>M1 15 [0,1,2,3] 1 (h.p [0,1] Z) Z ?_);obtain⟨_,_,F,b6,_,_,_,_,b9,c2,rfl,a9⟩:=s6.ix F;refine Ae 4 31 b9 c2 b6 (h.p [0,1] Z) Z (Al 5 63 0 a9 (h.p [0,1] Z) Z ?_);obtain⟨y8,c9,F,v,_,_,_,_,C,L,rfl,_⟩:=(h.sl 0 Z).1.ix F;refine Ax 6 127 C L ⟨v.1,qD v.2.1 (h.sl 0 Z).2⟩ (h.p [0,1] Z) Z (Aw 7 255 (fun w' hw=>qfv qa (qbU (w1:=w) (S1:=fun _=>False) hw 0 Z c9 C L Z) (j:=0) Z Z Z) (h.p [0,1] Z) Z ?_);refine M0 1023 [8,9] (h.p [0,1] Z) Z ?_;obtain⟨y9,d0,F,x,_,_,_,_,D,M,rfl,_⟩:=(h.sl 0 Z).1.ix F;refine Ax 10 2047 D M ⟨x.1,qD x.2.1 (h.sl 0 Z).2⟩ (h.p [0,1] Z) Z (Aw 11 4095 (fun w' hw=>qfv qa (qbU (w1:=w) (S1:=fun _=>False) hw 0 Z d0 D M Z) (j:=0) Z Z Z) (h.p [0,1] Z) Z ?_);refine M0 8191 [12] (h.p [0,1] Z) Z ?_;obtain⟨_,N,F,f,_,_,_,_,g,i,rfl,o⟩:=(h.sl 0 Z).1.ix F;exact Ax 13 16383 g i ⟨f.1,qD f.2.1 (h.sl 0 Z).2⟩ (h.p [0,1] Z) Z (Ao 14 32767 Z (qbg qa 0 0 (W64 (y8+y9)) h Z N g i Z o Z Z Z Z Z Z Z fun _ h=>qaX (fun hs=>absurd (hs 14 (by decide)) (by decide)) (Ad (X0 6 Z (rK ⟨_,_,F,rfl,h⟩ Z)))))
 refine qu Z ?_;obtain rfl:=qb F;replace F:=a4;refine X0 5 Z ?_;obtain rfl:=qb F;exact rO 0 h Z ⟨rfl,G⟩
def qj7(n:Nat)(b:qf)(x:qv):Option (qY×Int):=(qcq n (⟨b.Aa.Ab,b.Aa.As,b.Aa.Ak⟩:qd)).bind fun c=>(idx c (W64 (x.To.tdiv 2))).bind fun a=>(idx b.Aa.Ab a.instance_).bind fun f=>(idx b.Au.Ay f.Bu).bind fun g=>(idx g.Bc x.Cb).bind fun h=>(qh5 n b a.net).bind fun d=>(idx d 0).bind fun i=>V (h,i)
theorem qnQ{A}(hA:∀b,A b->old w b){b:qf}{x:qv}(y:GoT.R w A b cs1)(N:GoT.R w A x cs2){r:(qY×Int)}(F:qj7 n b x=V r):RetG prog 142 [oV qf cs1,oV qv cs2] w A r:=by
 obtain⟨p1,k1,p2,k2,p3,k3,p4,k4,p5,k5,rfl,s1,s2,s3,s4,_⟩:=qac y;obtain rfl:=qar N;have hg:=Rg.start hA;refine qe3 func142 Z (m:=39) Z Z (fun h=>?_);refine zSR (qx h Z Z fun w1 f h=>qx h Z Z fun _ g h=>qp qa h Z Z Z fun _ c h=>X0 3 Z ?_);obtain⟨r1,I,F⟩:=qc F;obtain⟨L,a,F⟩:=qc F;refine qa1 (fun e w'=>∃d,e=[(2,vp f),(3,vp g),(4,vp c),(6,vp d)]/\SH w w' [oX d (qlG L) 287,oX c [vi 0,vi 0,vi 0,vi 0,oS U 0 0,oS U 0 0] 238,oX g (qkv x) 154,oX f (qaY b p1 p2 p3 p4 p5 k1 k2 k3 k4 k5) 53]) ?_ ?_
 ·refine rA [9] [1,2] h Z fun _ h=>M2 59 [0,1,3,4,5] 1 0 (h.p [1,2] Z) Z (At 2 8 63 315 Z ?_ ?_)
  ·refine qkP r1 h (cB 127 Z) (qcj (qav _ (h.oldS (s2.mono hg.old)) (h.oldS (s3.mono hg.old)) (h.oldS (s4.mono hg.old))) I) Z Z Z Z fun _ _ _ _ h=>Ag (h.p [2,3] Z) ?_;have z:=qba a;obtain⟨_,o_4,_,_,i,l,-,a7,_⟩:=(h.sl 0 Z).1.at a;obtain rfl:=qb0 a7;refine Ax 6 127 i l ⟨z.1,qD z.2.1 (h.sl 0 Z).2⟩ (h.p [2,3] Z) Z (At 7 8 255 383 Z ?_ ?_)
   ·refine r_v (qfv qa (qbU h 0 Z a i l (qfr (w:=w) (S:=fun _=>False) L)) (j:=0) Z Z Z) Z (Ag (h.p [2,3] Z) (Ao 8 511 Z (qp qa h Z Z Z fun _ _ h=>Ag (h.p [3,4] Z) (Ao 9 1023 Z (zs 0 h Z fun _ h=>qaX (fun hs=>absurd (hs 9 (by decide)) (by decide)) (Ad ?_))))));replace h:=h.p [0,2,3,4] Z;exact rG ⟨_,rfl,h⟩ Z
   refine qp qa h Z Z Z fun _ _ h=>Ag (h.p [3,4] Z) (Ao 7 511 Z (r_v (qfv qa (qbU h 1 Z a i l (qfr (w:=w) (S:=fun _=>False) L)) (j:=0) Z Z Z) Z (Ag (h.p [3,4] Z) (Ao 9 1023 Z (zs 0 h Z fun _ h=>qaX (fun hs=>absurd (hs 9 (by decide)) (by decide)) (Ad ?_))))));replace h:=h.p [0,2,3,4] Z;exact rG ⟨_,rfl,h⟩ Z
  refine qp qa h Z Z Z fun _ _ h=>Ag (h.p [2,3] Z) (Ao 2 319 Z (qkP r1 h (cB 127 Z) (qcj (qav _ (h.oldS (s2.mono hg.old)) (h.oldS (s3.mono hg.old)) (h.oldS (s4.mono hg.old))) I) Z Z Z Z fun _ _ _ _ h=>Ag (h.p [3,4] Z) ?_));have B:=qba a;obtain⟨_,o_5,_,_,D,H,-,a8,_⟩:=(h.sl 0 Z).1.at a;obtain rfl:=qb0 a8;refine Ax 6 383 D H ⟨B.1,qD B.2.1 (h.sl 0 Z).2⟩ (h.p [3,4] Z) Z (Ao 7 511 Z (r_v (qfv qa (qbU h 0 Z a D H (qfr (w:=w) (S:=fun _=>False) L)) (j:=0) Z Z Z) Z (Ag (h.p [3,4] Z) (Ao 9 1023 Z (zs 1 h Z fun _ h=>qaX (fun hs=>absurd (hs 9 (by decide)) (by decide)) (Ad ?_))))));replace h:=h.p [1,2,3,4] Z;exact rG ⟨_,rfl,h⟩ Z
 rintro _ _ ⟨d,rfl,h⟩;refine qW (rA [] [0,2,3] h Z fun _ h=>M3 255 [0,1,2,3,4,5,6,7] 2 2 0 (h.p [0,2,3] Z) Z ?_);obtain⟨_,_,F,R,_,_,_,_,X,a4,a9,O⟩:=s2.ix F;obtain⟨_,_,rfl,_⟩:=qV a9;refine Ae 8 511 X a4 R (h.p [0,2,3] Z) Z (M0 1023 [9] (h.p [0,2,3] Z) Z (Al 10 2047 1 O (h.p [0,2,3] Z) Z ?_));obtain⟨_,_,F,T,_,_,_,_,Y,a5,b4,P⟩:=s1.ix F;obtain⟨_,_,_,_,_,_,rfl,_,s8,_⟩:=qag b4;refine Ae 11 4095 Y a5 T (h.p [0,2,3] Z) Z (M0 8191 [12] (h.p [0,2,3] Z) Z (Al 13 16383 3 P (h.p [0,2,3] Z) Z (M1 65535 [14,15] 1 (h.p [0,2,3] Z) Z ?_)));obtain⟨v,_,F,W,_,_,_,_,a3,a6,b5,Q⟩:=s8.ix F;obtain⟨t,p,u,s,rfl,b7,b8⟩:=qah b5;refine Ae 16 131071 a3 a6 W (h.p [0,2,3] Z) Z (Al 17 262143 0 Q (h.p [0,2,3] Z) Z (M2 2097151 [18,19,20] 2 0 (h.p [0,2,3] Z) Z (Ao 21 4194303 Z (zcL h F (qmc (h.old (GoT.mono y hg.old))) Z fun _ _ _ _ _ h F=>Ag (h.p [1,3,4] Z) ?_))));obtain⟨M,J,F,C,_,_,_,_,k,o,rfl,_⟩:=(h.sl 0 Z).1.ix F;refine Ax 22 8388607 k o ⟨C.1,qD C.2.1 (h.sl 0 Z).2⟩ (h.p [1,3,4] Z) Z (qkD (fun e w'=>e=[(4,vp c),(5,vi M)]/\SH w w' [oX d (qlG L) 287,oX c (qg7 v t u p s) 238,oX g (qkv x) 154,oX f (qaY b p1 p2 p3 p4 p5 k1 k2 k3 k4 k5) 53]) 0 (bits 26 67108863) ?_ ?_)
 ·intro K;refine At 23 24 16777215 25165823 Z ?_ ?_
  ·refine r_v (qfv qa (qbU (w1:=w) (S1:=fun _=>False) h 0 Z J k o Z) (j:=0) Z Z Z) Z (Ag (h.p [1,3,4] Z) (Ao 24 33554431 Z (zs 2 h Z fun b9 h=>G0 67108863 [25] (h.p [1,3,4] Z) Z ?_)));replace h:=h.p [1,2,3,4] Z;exact aK K ⟨rfl,h⟩ Z
  refine zs 2 h Z fun b9 h=>Ag (h.p [1,3,4] Z) (Ao 23 33554431 Z (r_v (qfv qa (qbU (w1:=w) (S1:=fun _=>False) h 0 Z J k o Z) (j:=0) Z Z Z) Z (G0 67108863 [25] (h.p [1,3,4] Z) Z ?_)));replace h:=h.p [1,2,3,4] Z;exact aK K ⟨rfl,h⟩ Z
 rintro _ _ ⟨rfl,h⟩;refine Ad ?_;obtain rfl:=qb F;have b6:GoRs.Rs (ρ:=(qY×Int)) h.wc (reg A w h.wc) (v,M) [oV qY (qg7 v t u p s),oV Int [vi M]]:=⟨_,_,rfl,(hg.outR h (qfS v (hg.inS h b7) (hg.inS h b8))),⟨_,rfl,rfl⟩⟩;exact qdN qa (ρ:=(qY×Int)) (r:=(v,M)) [oV qY (qg7 v t u p s),oV Int [vi M]] h ⟨⟨_,_,_,rfl,rfl,h.box 1 Z,rfl⟩,rfl,G⟩ b6
def qcK(_:Nat)(a:Int)(b:Int)(mode:Int):Option Int:=(quoS a b).bind fun c=>(remS a b).bind fun d=>(bif decide (d<0) then V (mode==0) else V false).bind fun b1=>bif b1 then V (W64 (c-1)) else bif decide (d > 0) then bif (mode==1) then V (W64 (c+1)) else V c else V c
theorem qg1{a b mode}  {r:Int}(F:qcK n a b mode=V r):RetV prog 146 [vi a,vi b,vi mode] w r:=by
 refine zV 32 func146 Z fun h=>X0 8 Z ?_;obtain⟨m,c,F⟩:=qc F;obtain⟨k,c⟩:=qsw c;refine r_v (qAh k Z Z) Z ?_;rw[c];refine X0 6 Z ?_;obtain⟨o,d,F⟩:=qc F;obtain⟨l,d⟩:=qsN d;refine r_v (qAd l Z Z) Z ?_;rw[d];refine X0 4 Z ?_;obtain⟨i,g,_,F,f⟩:=bindE F;refine qa1 (fun e w'=>∃b1,i b1=V r/\e=[(2,vi mode),(7,vi m),(8,vi o),(20,.bool b1)]/\SH w w' []) ?_ ?_
 ·refine X0 4 Z (qk (t:=17) F Z ?_ ?_)<;>intro F
  ·refine X0 6 Z ?_;obtain rfl:=qb F;exact rG ⟨_,f,rfl,h⟩ Z
  refine X0 4 Z ?_;obtain rfl:=qb F;exact rG ⟨_,f,rfl,h⟩ Z
 rintro _ _ ⟨b1,F,rfl,h⟩;subst g;refine qg Z F ?_ ?_<;>intro F
 ·exact X0 6 Z (ri h F Z)
 refine X0 7 Z (qk (t:=25) F Z ?_ ?_)<;>intro F
 ·refine X0 6 Z (qg Z F ?_ ?_)<;>intro F
  ·exact X0 6 Z (ri h F Z)
  exact X0 6 Z (ri h F Z)
 exact X0 4 Z (qb8 Z Z (X0 6 Z (ri h F Z)))
def qbB(h:(List Int))(x:Int)(a:Int)(b:Int):Nat->Int->Option (Flow (Int×Int×Int) Int)|0,_=>U|n+1,i1=>bif decide (i1>=0) then(idx h i1).bind fun c=>bif ((if b<(if a > x then a else x) then b else(if a > x then a else x))==c) then V (.ret (i1,1,0)) else(idx h i1).bind fun d=>bif decide ((if b<(if a > x then a else x) then b else(if a > x then a else x)) > d) then(idx h (W64 (i1+1))).bind fun f=>(idx h i1).bind fun g=>V (.ret (i1,W64 (f-(if b<(if a > x then a else x) then b else(if a > x then a else x))),W64 ((if b<(if a > x then a else x) then b else(if a > x then a else x))-g))) else qbB h x a b n (W64 (i1-1)) else V (.nxt i1)
def qde(n:Nat)(c:(List Int))(x:Int):Option (Int×Int×Int):=(idx c 0).bind fun a=>(idx c (W64 ((c.length:Int)-1))).bind fun b=>(qbB c x a b n (W64 ((c.length:Int)-1))).bind fun|.ret r=>V r|.nxt _=>V (0,1,0)
theorem qlm{Y:(List Int)}{x}(f:Ro w Y cs1){r:(Int×Int×Int)}(F:qde n Y x=V r):RetV prog 197 [oV (List Int) cs1,vi x] w r:=by
 obtain⟨T,Q,rfl,d⟩:=f;refine zV 56 func197 Z fun h=>X0 16 Z ?_;obtain⟨a,_,F,s,_,_,_,_,A,J,rfl,g⟩:=d.ix F;refine zxe A J s Z (zc 0 (g.below h.below) Z (X0 9 Z ?_));obtain⟨c,_,F,t,_,_,_,_,B,K,rfl,i⟩:=d.ix F;refine zxe B K t Z (zc 0 (i.below h.below) Z (X0 10 Z ?_));obtain⟨R,F,b⟩:=qc F;refine qm (rL (fun m e w'=>∃i1,qbB Y x a c m i1=V R/\e=[(0,oS T Y.length Q),(1,vi (if c<(if a > x then a else x) then c else(if a > x then a else x))),(8,vi i1)]/\SH w w' []) n ⟨_,F,rfl,h⟩ Z ?_);rintro P _ _ ⟨i1,F,rfl,h⟩;rcases P with _|P
 ·cases F
 refine X0 6 Z (qg Z F ?_ ?_)<;>intro F
 ·refine X0 9 Z ?_;obtain⟨_,_,F,u,_,_,_,_,C,L,rfl,k⟩:=d.ix F;refine zxe C L u Z (zc 0 (k.below h.below) Z (X0 2 Z (qg Z F ?_ ?_)))<;>intro F
  ·refine X0 7 Z ?_;obtain rfl:=qb F;replace F:=b;obtain rfl:=qb F;exact qU qa (ρ:=(Int×Int×Int)) [oV Int [vi i1],oV Int [vi 1],oV Int [vi 0]] h ⟨rfl,rfl,rfl,G⟩ (PV.done h (qae h (qw (S:=fun _=>False) Z) (qae h (qw (S:=fun _=>False) Z) (qaa (qw (S:=fun _=>False) Z)) (by rfl)) (by rfl)))
  refine X0 6 Z ?_;obtain⟨_,_,F,v,_,_,_,_,D,M,rfl,l⟩:=d.ix F;refine zxe D M v Z (zc 0 (l.below h.below) Z (X0 2 Z (qg Z F ?_ ?_)))<;>intro F
  ·refine qW (rD (zd4 Z ?_));obtain⟨W,_,F,y,_,_,_,_,H,N,rfl,o⟩:=d.ix F;refine zdxe H N y Z (zdc 0 (o.below h.below) Z (zd5 Z ?_));obtain⟨X,_,F,z,_,_,_,_,I,O,rfl,p⟩:=d.ix F;refine zdxe I O z Z (zdc 0 (p.below h.below) Z (zd4 Z (dN h fun _ h=>?_)));obtain rfl:=qb F;replace F:=b;obtain rfl:=qb F;exact qU qa (ρ:=(Int×Int×Int)) [oV Int [vi i1],oV Int [vi (W64 (W-(if c<(if a > x then a else x) then c else(if a > x then a else x))))],oV Int [vi (W64 ((if c<(if a > x then a else x) then c else(if a > x then a else x))-X))]] h ⟨rfl,rfl,rfl,G⟩ (PV.done h (qae h (qw (S:=fun _=>False) Z) (qae h (qw (S:=fun _=>False) Z) (qaa (qw (S:=fun _=>False) Z)) (by rfl)) (by rfl)))
  exact X0 7 Z (rK ⟨_,F,rfl,h⟩ Z)
 refine qu Z ?_;obtain rfl:=qb F;replace F:=b;refine X0 6 Z ?_;obtain rfl:=qb F;exact qU qa (ρ:=(Int×Int×Int)) [oV Int [vi 0],oV Int [vi 1],oV Int [vi 0]] h ⟨rfl,rfl,rfl,G⟩ (PV.done h (qae h (qw (S:=fun _=>False) Z) (qae h (qw (S:=fun _=>False) Z) (qaa (qw (S:=fun _=>False) Z)) (by rfl)) (by rfl)))
def qcs(a:qy)(f:Int)(g:Int)(r4:Int)(h:Int)(i:Int)(k:Int)(c:Int):Nat->Int->Int->Option (Int×Int)|0,_,_=>U|n+1,d,b=>bif decide (b<2) then(bif (c==1) then V r4 else V g).bind fun l=>(bif (b==0) then V (W64 (l*i)) else V (W64 (l*k))).bind fun m=>bif decide (m > 0) then(idx a.Bj (W64 ((W64 ((W64 ((W64 (f+c))*(a.Bk.length:Int)))+h))+b))).bind fun o=>qcs a f g r4 h i k c n (W64 (d+(W64 (m*o)))) (W64 (b+1)) else qcs a f g r4 h i k c n d (W64 (b+1)) else V (d,b)
def qdZ(a:qy)(c:Int)(d:Int)(r4:Int)(f:Int)(g:Int)(h:Int):Nat->Int->Int->Option (Int×Int)|0,_,_=>U|n+1,i1,b=>bif decide (b<2) then(qcs a c d r4 f g h b n i1 0).bind fun(i,_)=>qdZ a c d r4 f g h n i (W64 (b+1)) else V (i1,b)
def qf9(n:Nat)(a:qy)(b:Int)(c:Int)(d:Int):Option Int:=(qde n a.Bo b).bind fun(i,f,r4)=>(qde n a.Bk c).bind fun(k,g,h)=>(qdZ a i f r4 k g h n 0 0).bind fun(i1,_)=>(qcK n i1 (W64 ((W64 (f+r4))*(W64 (g+h)))) d).bind fun l=>V l
theorem qnn{a:qy}{o p c}(L:Ro w a cs1){r:Int}(F:qf9 n a o p c=V r):RetV prog 143 [oV qy cs1,vi o,vi p,vi c] w r:=by
 obtain⟨B,z,C,A,D,k3,rfl,s1,s2,s3⟩:=qaJ L;refine zV 88 func143 Z fun h=>zSR (qx h Z Z fun _ b h=>X1 7 0 h Z ?_);obtain⟨⟨f,g,r4⟩,Q,F⟩:=qc F;refine qaM (f,g,r4) h (cB 197 Z) (qlm ⟨_,_,rfl,(h.oldS s1)⟩ Q) Z Z Z Z fun _ _ _ a4 R=>?_;obtain⟨_,_,rfl,a5,S⟩:=a4.consI R;obtain⟨_,_,rfl,a6,T⟩:=a5.consI S;obtain⟨rfl,h⟩:=a6.lastI T;refine X1 13 0 h Z ?_;obtain⟨⟨i,k,l⟩,W,F⟩:=qc F;refine qaM (i,k,l) h (cB 197 Z) (qlm ⟨_,_,rfl,(h.oldS s2)⟩ W) Z Z Z Z fun _ _ _ a7 X=>?_;obtain⟨_,_,rfl,a8,Y⟩:=a7.consI X;obtain⟨_,_,rfl,a9,a3⟩:=a8.consI Y;obtain⟨rfl,h⟩:=a9.lastI a3;refine X1 24 0 h Z ?_;obtain⟨o1,F,J⟩:=qc F;refine qm (rL (fun m e w'=>∃i1 d,qdZ a f g r4 i k l m i1 d=V o1/\e=[(3,vi c),(4,vp b),(9,vi f),(10,vi g),(11,vi r4),(12,vi i),(13,vi k),(14,vi l),(15,vi (a.Bk.length:Int)),(16,vi i1),(17,vi d)]/\SH w w' [oX b (qhf a B C D z A k3) 243]) n ⟨_,_,F,rfl,h⟩ Z ?_);rintro m1 _ _ ⟨i1,d,F,rfl,h⟩;rcases m1 with _|m1
 ·cases F
 refine X0 6 Z (qg Z F ?_ ?_)<;>intro F
 ·refine X0 7 Z ?_;obtain⟨o2,F,K⟩:=qc F;refine qm (rL (fun m e w'=>∃x y,qcs a f g r4 i k l d m x y=V o2/\e=[(3,vi c),(4,vp b),(9,vi f),(10,vi g),(11,vi r4),(12,vi i),(13,vi k),(14,vi l),(15,vi (a.Bk.length:Int)),(16,vi x),(17,vi d),(18,vi y)]/\SH w w' [oX b (qhf a B C D z A k3) 243]) m1 ⟨_,_,F,rfl,h⟩ Z ?_);rintro m2 _ _ ⟨x,y,F,rfl,h⟩;rcases m2 with _|m2
  ·cases F
  refine X0 6 Z (qg Z F ?_ ?_)<;>intro F
  ·refine X0 14 Z ?_;obtain⟨I,v,_,F,t⟩:=bindE F;refine qa1 (fun e w'=>∃i5,I i5=V o2/\e=[(3,vi c),(4,vp b),(9,vi f),(10,vi g),(11,vi r4),(12,vi i),(13,vi k),(14,vi l),(15,vi (a.Bk.length:Int)),(16,vi x),(17,vi d),(18,vi y),(19,vi i5)]/\SH w w' [oX b (qhf a B C D z A k3) 243]) ?_ ?_
   ·refine qg Z F ?_ ?_<;>intro F
    ·refine X0 4 Z ?_;obtain rfl:=qb F;exact rG ⟨_,t,rfl,h⟩ Z
    refine qcx ?_;obtain rfl:=qb F;exact rG ⟨_,t,rfl,h⟩ Z
   rintro _ _ ⟨i5,F,rfl,h⟩;subst v;refine X0 6 Z ?_;obtain⟨H,u,_,F,s⟩:=bindE F;refine qa1 (fun e w'=>∃i6,H i6=V o2/\e=[(3,vi c),(4,vp b),(9,vi f),(10,vi g),(11,vi r4),(12,vi i),(13,vi k),(14,vi l),(15,vi (a.Bk.length:Int)),(16,vi x),(17,vi d),(18,vi y),(19,vi i6)]/\SH w w' [oX b (qhf a B C D z A k3) 243]) ?_ ?_
   ·refine qg Z F ?_ ?_<;>intro F
    ·refine X0 6 Z ?_;obtain rfl:=qb F;exact rG ⟨_,s,rfl,h⟩ Z
    refine X0 6 Z ?_;obtain rfl:=qb F;exact rG ⟨_,s,rfl,h⟩ Z
   rintro _ _ ⟨i6,F,rfl,h⟩;subst u;refine X0 5 Z (qg Z F ?_ ?_)<;>intro F
   ·refine X1 14 0 h Z ?_;obtain⟨_,_,F,N,_,_,_,_,O,P,rfl,M⟩:=s3.ix F;exact zxe O P N Z (zc 0 (M.below h.below) Z (X0 10 Z (rK ⟨_,_,F,rfl,h⟩ Z)))
   exact X0 7 Z (rK ⟨_,_,F,rfl,h⟩ Z)
  refine qu Z ?_;obtain rfl:=qb F;replace F:=K;exact X0 6 Z (rK ⟨_,_,F,rfl,h⟩ Z)
 refine qu Z ?_;obtain rfl:=qb F;replace F:=J;exact X0 11 Z (zcI h F qg1 Z fun _ _ h F=>X0 2 Z (ri h F Z))
def qdR(b:qZ)(a:(List Int)):Nat->(List Int)->Int->Option ((List Int)×Int)|0,_,_=>U|n+1,x1,i1=>bif decide (i1<(a.length:Int)) then(idx b.Ba i1).bind fun d=>(idx x1 d).bind fun f=>(idx b.Bz i1).bind fun g=>(idx a i1).bind fun h=>(appS x1 ([W64 (f+(W64 (g*h)))]:List Int)).bind fun c=>qdR b a n c (W64 (i1+1)) else V (x1,i1)
def qg9(n:Nat)(b:qf)(net:Int):Option (List Int):=(idx b.Ah net).bind fun c=>(qh5 n b net).bind fun a=>(qdR c a n ([0]:List Int) 1).bind fun(x1,_)=>V x1
theorem qlR{b:qf}{net}(i:Ro w b cs1){r:(List Int)}(F:qg9 n b net=V r):RetV prog 198 [oV qf cs1,vi net] w r:=by
 obtain⟨_,_,_,_,_,_,_,_,_,_,rfl,_,_,_,_,s5⟩:=qac i;refine zV 47 func198 Z fun h=>zSR (qx h Z Z fun w1 _ h=>X1 7 0 h Z ?_);obtain⟨T,_,F,B,_,_,_,_,H,L,P,x⟩:=s5.ix F;obtain⟨p6,X,p7,Y,p8,k8,p9,k9,rfl,s6,s7,_,_⟩:=qaT P;refine zxe H L B Z (zc 0 (x.below h.below) Z (qp qa h Z Z Z fun _ g h=>zs 0 h Z fun _ h=>X1 5 1 h Z (zcL h F (qmc (h.old i)) Z fun u _ S1 t s h F=>X0 4 Z (qE qa [.const (vi (0))] _ ([0]:List Int) h Z Z Z Z Z Z Z Z Z ⟨rfl,G⟩ Z fun _ _ _ h=>X0 7 Z ?_))));obtain⟨o1,F,v⟩:=qc F;refine qm ?_;replace h:=h.p [0,1,2] Z;refine rL (fun m e w'=>∃R f d c x1 i1,qdR T u m x1 i1=V o1/\e=[(5,vp g),(6,oS t u.length s),(7,oS f d c),(8,vi i1)]/\SH w w' [oW R (x1:List Int) [oS f d c],oW S1 (u:List Int) [oS t u.length s],oX g (qgR T p6 p7 p8 p9 X Y k8 k9) 183]) n ⟨_,_,_,_,_,_,F,rfl,h⟩ Z ?_;rintro S _ _ ⟨R,f,d,c,x1,i1,F,rfl,h⟩;obtain rfl:=(h.sl 0 Z).2;rcases S with _|S
 ·cases F
 refine X0 8 Z (qg Z F ?_ ?_)<;>intro F
 ·refine zKSB (rA [] [1,2] h Z fun _ h=>M1 31 [0,1,2,3,4] 1 (h.p [1,2] Z) Z ?_);obtain⟨_,_,F,C,_,_,_,_,I,M,rfl,y⟩:=s6.ix F;refine Ae 5 63 I M C (h.p [1,2] Z) Z (Al 6 127 0 y (h.p [1,2] Z) Z ?_);obtain⟨y3,_,F,k,_,_,_,_,J,N,rfl,z⟩:=(h.sl 0 Z).1.ix F;refine Ax 7 255 J N ⟨k.1,qD k.2.1 (h.sl 0 Z).2⟩ (h.p [1,2] Z) Z (M1 3839 [9,10,11] 1 (h.p [1,2] Z) Z ?_);obtain⟨y4,_,F,D,_,_,_,_,K,O,rfl,A⟩:=s7.ix F;refine Ae 12 7935 K O D (h.p [1,2] Z) Z (Al 13 16127 0 A (h.p [1,2] Z) Z (M0 65279 [14,15] (h.p [1,2] Z) Z ?_));obtain⟨y5,Q,F,l,_,_,_,_,o,p,rfl,_⟩:=(h.sl 1 Z).1.ix F;refine Ax 16 130815 o p ⟨l.1,qD l.2.1 (h.sl 1 Z).2⟩ (h.p [1,2] Z) Z (Aw 17 261887 (fun w' hw=>qfv qa (qbU (w1:=w) (S1:=fun _=>False) hw 0 Z Q o p Z) (j:=0) Z Z Z) (h.p [1,2] Z) Z ?_);refine M0 524031 [18] (h.p [1,2] Z) Z (Ao 8 524287 Z (zc 0 z Z (G0 1048575 [19] (h.p [1,2] Z) Z (Ao 20 2097151 Z (qE qa [.tmp 43] _ ([W64 (y3+(W64 (y4*y5)))]:List Int) h Z Z Z Z Z Z Z Z Z ⟨rfl,G⟩ Z fun _ _ _ h=>Ag (h.p [2,3] Z) (Ao 21 4194303 Z ?_))))));obtain⟨_,a,F⟩:=qc F;obtain⟨W,a⟩:=qM a;refine qbM qa 1 h Z (h.sl 0 Z).1 (h.sl 0 Z).2 Z Z Z Z Z Z Z Z Z W a Z fun _ _ _ _ h=>G0 8388607 [22] (h.p [2,3] Z) Z (Ad (X0 6 Z ?_));replace h:=h.p [1,2,3] Z;exact rK ⟨_,_,_,_,_,_,F,rfl,h⟩ Z
 refine qu Z ?_;obtain rfl:=qb F;replace F:=v;refine X0 5 Z ?_;obtain rfl:=qb F;exact rO 0 h Z ⟨rfl,G⟩
def qbP(b:qf)(net:Int)(mode:Int)(a:(List Int)):Nat->(List Int)->Int->Option ((List Int)×Int)|0,_,_=>U|n+1,x1,i1=>(idx b.Ah net).bind fun f=>bif decide (i1<(f.Bn.length:Int)) then(idx b.Ah net).bind fun g=>(idx g.Bn i1).bind fun h=>(idx a h).bind fun i=>(qcK n i 1000 mode).bind fun c=>(appS x1 ([c]:List Int)).bind fun d=>qbP b net mode a n d (W64 (i1+1)) else V (x1,i1)
def qf2(n:Nat)(b:qf)(net:Int)(mode:Int):Option (List Int):=(qg9 n b net).bind fun a=>(qbP b net mode a n ([]:List Int) 0).bind fun(x1,_)=>V x1
theorem qnt{b:qf}{net mode}(f:Ro w b cs1){r:(List Int)}(F:qf2 n b net mode=V r):RetV prog 144 [oV qf cs1,vi net,vi mode] w r:=by
 obtain⟨p1,T,p2,W,p3,k3,p4,X,p5,Y,rfl,_,_,_,_,R⟩:=qac f;refine zV 43 func144 Z fun h=>zSR (qx h Z Z fun _ d h=>X1 6 0 h Z (zcL h F (qlR (h.old f)) Z fun i _ S1 Q O h F=>X0 4 Z (qE qa [] _ ([]:List Int) h Z Z Z Z Z Z Z Z Z trivial Z fun _ _ _ h=>X0 7 Z ?_)));obtain⟨o1,F,k⟩:=qc F;refine qm (rL (fun m e w'=>∃N L c K x1 i1,qbP b net mode i m x1 i1=V o1/\e=[(1,vi net),(2,vi mode),(3,vp d),(7,oS Q i.length O),(8,oS L c K),(9,vi i1)]/\SH w w' [oW N (x1:List Int) [oS L c K],oW S1 (i:List Int) [oS Q i.length O],oX d (qaY b p1 p2 p3 p4 p5 T W k3 X Y) 53]) n ⟨_,_,_,_,_,_,F,rfl,h⟩ Z ?_);rintro P _ _ ⟨N,L,c,K,x1,i1,F,rfl,h⟩;obtain rfl:=(h.sl 0 Z).2;rcases P with _|P
 ·cases F
 refine X1 7 2 h Z ?_;obtain⟨_,_,F,t,_,_,_,_,x,B,I,l⟩:=R.ix F;obtain⟨_,_,_,_,_,_,_,_,rfl,_,_,_,_⟩:=qaT I;refine zxe x B t Z (zp1 Z (zc 3 (l.below h.below) Z (X0 3 Z (qg Z F ?_ ?_))))<;>intro F
 ·refine X1 9 2 h Z ?_;obtain⟨_,_,F,u,_,_,_,_,y,C,J,o⟩:=R.ix F;obtain⟨_,_,_,_,_,_,_,_,rfl,_,_,_,M⟩:=qaT J;refine zxe y C u Z (zp1 Z (zc 3 (o.below h.below) Z (zp1 Z ?_)));obtain⟨_,_,F,v,_,_,_,_,z,D,rfl,p⟩:=M.ix F;refine zxe z D v Z (zc 0 (p.below h.below) Z ?_);obtain⟨_,_,F,g,_,_,_,_,A,H,rfl,s⟩:=(h.sl 1 Z).1.ix F;refine zx A H ⟨g.1,qD g.2.1 (h.sl 1 Z).2⟩ Z (zc 0 s Z (zp1 Z (zcI h F qg1 Z fun r2 _ h F=>qE qa [.tmp 39] _ ([r2]:List Int) h Z Z Z Z Z Z Z Z Z ⟨rfl,G⟩ Z fun _ _ _ h=>?_)));obtain⟨_,a,F⟩:=qc F;obtain⟨S,a⟩:=qM a;refine qbM qa 1 h Z (h.sl 0 Z).1 (h.sl 0 Z).2 Z Z Z Z Z Z Z Z Z S a Z fun _ _ _ _ h=>X0 8 Z ?_;replace h:=h.p [1,2,3] Z;exact rK ⟨_,_,_,_,_,_,F,rfl,h⟩ Z
 refine qu Z ?_;obtain rfl:=qb F;replace F:=k;refine X0 5 Z ?_;obtain rfl:=qb F;exact rO 0 h Z ⟨rfl,G⟩
def qjX(n:Nat)(b:qf)(x:qv):Option Int:=(qcq n (⟨b.Aa.Ab,b.Aa.As,b.Aa.Ak⟩:qd)).bind fun a=>(idx a (W64 (x.To.tdiv 2))).bind fun c=>V c.net
theorem qn5{b:qf}{x:qv}(c:Ro w b cs1)(d:Ro w x cs2){r:Int}(F:qjX n b x=V r):RetV prog 145 [oV qf cs1,oV qv cs2] w r:=by
 obtain⟨_,_,_,_,_,_,_,_,_,_,rfl,_,s2,l,m,_⟩:=qac c;obtain rfl:=qar d;refine zV 14 func145 Z fun h=>zSR (qx h Z Z fun _ _ h=>qx h Z Z fun _ _ h=>X0 3 Z (rA [] [0,1] h Z fun _ h=>M2 59 [0,1,3,4,5] 1 0 (h.p [0,1] Z) Z (Ao 2 63 Z (zcL h F (qcj (qav _ (h.oldS s2) (h.oldS l) (h.oldS m))) Z fun _ _ _ _ _ h F=>Ag (h.p [1,2] Z) ?_))));obtain⟨_,_,F,a,_,_,_,_,g,i,k,f⟩:=(h.sl 0 Z).1.ix F;obtain rfl:=qb0 k;exact Ax 6 127 g i ⟨a.1,qD a.2.1 (h.sl 0 Z).2⟩ (h.p [1,2] Z) Z (M0 255 [7] (h.p [1,2] Z) Z (Ao 8 511 Z (zc 2 f Z (G0 1023 [9] (h.p [1,2] Z) Z (Ad (ri h F Z))))))
def qg2(_:Nat)(c:qr)(kind:Int)(mode:Int):Option Int:=bif (kind==1) then bif (mode==0) then V c.Am else V c.Ar else bif (mode==0) then V c.Aj else V c.Aq
theorem qlF{c:qr}{kind mode}(a:Ro w c cs1){r:Int}(F:qg2 n c kind mode=V r):RetV prog 147 [oV qr cs1,vi kind,vi mode] w r:=by
 obtain rfl:=qaG a;refine zV 21 func147 Z fun h=>zSR (qx h Z Z fun _ _ h=>X0 8 Z (qg Z F ?_ ?_))<;>intro F
 ·refine X0 6 Z (qg Z F ?_ ?_)<;>intro F
  ·exact X1 6 0 h Z (ri h F Z)
  exact X1 7 0 h Z (ri h F Z)
 refine X0 7 Z (qg Z F ?_ ?_)<;>intro F
 ·exact X1 6 0 h Z (ri h F Z)
 exact X1 7 0 h Z (ri h F Z)
def qb1(n:Nat)(b:qf)(c:qr)(x:qv)(r:Int)(mode:Int):Option Int:=bif (x.Bi==1) then(qj7 n b x).bind fun(d,f)=>(idx d.Br (x.To.tmod 2)).bind fun m=>(qf9 n m r f mode).bind fun r4=>(qg2 n c x.Bi mode).bind fun g=>(qcK n (W64 (r4*g)) 1000 mode).bind fun h=>V h else(qjX n b x).bind fun i=>(qf2 n b i mode).bind fun k=>(idx k x.Cb).bind fun p=>(qg2 n c x.Bi mode).bind fun l=>(qcK n (W64 (p*l)) 1000 mode).bind fun a=>V a
theorem qcz{b:qf}{c:qr}{x:qv}{slew mode}(i:Ro w b cs1)(k:Ro w c cs2)(f:Ro w x cs3){r:Int}(F:qb1 n b c x slew mode=V r):RetV prog 99 [oV qf cs1,oV qr cs2,oV qv cs3,vi slew,vi mode] w r:=by
 obtain⟨_,_,_,_,_,_,_,_,_,_,rfl,_,_,_,_,_⟩:=qac i;obtain rfl:=qaG k;obtain rfl:=qar f;refine zV 53 func99 Z fun h=>zSR (qx h Z Z fun _ _ h=>qx h Z Z fun _ _ h=>qx h Z Z fun _ _ h=>X1 13 0 h Z (qg Z F ?_ ?_))<;>intro F
 ·refine X2 4 2 0 h Z ?_;have a:Rg (old w) w (old w) w:=.start (fun _ h=>h);obtain⟨⟨S,T⟩,B,F⟩:=qc F;refine qjJ (S,T) a h (cB 142 Z) (qnQ (a.regOld h) (a.inR h i) (a.inR h f) B) Z Z Z Z fun _ _ _ g d J H=>?_;have N:=h.ext d.below;have p:=Up.box 1 h d Z;have W:=Up.R a h d k;have O:=Up.boxP (x:=c) a 1 h d Z (a.inR h k);have l:=Up.box 0 h d Z;have e:=Up.R a h d f;have P:=Up.boxP (x:=x) a 0 h d Z (a.inR h f);have R:=h.below.trans (d.below.mono h.below.size);replace h:=J;obtain⟨_,_,rfl,o,I⟩:=qlB H;have Q:=o;obtain⟨_,_,_,_,rfl,X,_⟩:=qah o;obtain⟨_,rfl,C⟩:=qkk I;obtain rfl:=C;refine zp3 Z (qp qa h Z Z Z fun _ _ h=>zs 0 h Z fun _ h=>X1 6 0 h Z (zc 1 (l.below h.below) Z (zp1 Z ?_)));obtain⟨Y,_,F,u,_,_,_,_,v,z,D,s⟩:=X.ix F;obtain⟨_,_,_,_,_,_,rfl,K,L,M⟩:=qaJ D;refine zxe v z u Z (zc 0 (s.below h.below) Z (zp3 Z (zcI h F (qnn (qft Y (h.oldS (K.mono g.old)) (h.oldS (L.mono g.old)) (h.oldS (M.mono g.old)))) Z fun _ _ h F=>X0 5 Z (zc 0 (p.below h.below) Z (zp1 Z (zc 2 (l.below h.below) Z (zp1 Z (zcI h F (qlF (h.old (GoT.mono W g.old))) Z fun _ _ h F=>zp2 Z (zcI h F qg1 Z fun _ _ h F=>X0 2 Z ?_)))))))));replace h:=h.unbase g.below ⟨fun _ h=>h,G⟩;exact ri h F Z
 refine rA [] [0,2] h Z fun _ h=>M4 215 [0,1,2,4,6,7] 1 1 0 0 (h.p [0,2] Z) Z (Ao 3 223 Z (zcI h F (qn5 (h.old i) (h.old f)) Z fun _ _ h F=>Ag (h.p [0,2] Z) (Ao 5 255 Z (zcL h F (qnt (h.old i)) Z fun _ _ _ _ _ h F=>Ag (h.p [1,3] Z) ?_))));obtain⟨_,_,F,m,_,_,_,_,y,A,rfl,t⟩:=(h.sl 0 Z).1.ix F;exact Ax 8 511 y A ⟨m.1,qD m.2.1 (h.sl 0 Z).2⟩ (h.p [1,3] Z) Z (Ao 9 1023 Z (zc 0 t Z (G0 2047 [10] (h.p [1,3] Z) Z (Ad (X2 7 2 1 h Z (zcI h F (qlF (h.old k)) Z fun _ _ h F=>zp2 Z (zcI h F qg1 Z fun _ _ h F=>X0 2 Z (ri h F Z))))))))
def qd4(b:Int):Nat->Int->Int->Option (Int×Int)|0,_,_=>U|n+1,i1,a=>bif decide (i1<a) then bif decide ((W64 ((W64 ((W64 ((W64 (i1+a))+1)).tdiv 2))*(W64 ((W64 ((W64 (i1+a))+1)).tdiv 2))))<=b) then qd4 b n (W64 ((W64 ((W64 (i1+a))+1)).tdiv 2)) a else qd4 b n i1 (W64 ((W64 ((W64 ((W64 (i1+a))+1)).tdiv 2))-1)) else V (i1,a)
def qiC(n:Nat)(a:Int)(mode:Int):Option Int:=(qd4 a n 0 2000000000).bind fun(i1,_)=>bif (mode==1) then bif decide ((W64 (i1*i1))<a) then V (W64 (i1+1)) else V i1 else V i1
theorem qq3{a_n mode}  {r:Int}(F:qiC n a_n mode=V r):RetV prog 199 [vi a_n,vi mode] w r:=by
 refine zV 36 func199 Z fun h=>X0 10 Z ?_;obtain⟨d,F,a⟩:=qc F;refine qm (rL (fun m e w'=>∃i1 b,qd4 a_n m i1 b=V d/\e=[(0,vi a_n),(1,vi mode),(5,vi i1),(6,vi b)]/\SH w w' []) n ⟨_,_,F,rfl,h⟩ Z ?_);rintro c _ _ ⟨i1,b,F,rfl,h⟩;rcases c with _|c
 ·cases F
 refine X0 7 Z (qg Z F ?_ ?_)<;>intro F
 ·refine X0 19 Z (qg Z F ?_ ?_)<;>intro F
  ·exact X0 5 Z (rK ⟨_,_,F,rfl,h⟩ Z)
  exact X0 6 Z (rK ⟨_,_,F,rfl,h⟩ Z)
 refine qu Z ?_;obtain rfl:=qb F;replace F:=a;refine X0 6 Z (qk (t:=26) F Z ?_ ?_)<;>intro F
 ·refine X0 12 Z (qg Z F ?_ ?_)<;>intro F
  ·exact X0 10 Z (ri h F Z)
  exact X0 6 Z (ri h F Z)
 exact X0 7 Z (qb8 Z Z (X0 6 Z (ri h F Z)))
def qmI(n:Nat)(b:qf)(net:Int)(k:Int)(i:Int)(mode:Int):Option Int:=(idx b.Ah net).bind fun g=>(idx g.Bn k).bind fun h=>(qg9 n b net).bind fun c=>(idx c h).bind fun a=>(qiC n (W64 ((W64 ((W64 (1000000*i))*i))+(W64 ((W64 (4*a))*a)))) mode).bind fun d=>(qcK n d 1000 mode).bind fun f=>V f
theorem qqQ{b:qf}{net sink slew mode}(a:Ro w b cs1){r:Int}(F:qmI n b net sink slew mode=V r):RetV prog 148 [oV qf cs1,vi net,vi sink,vi slew,vi mode] w r:=by
 obtain⟨_,_,_,_,_,_,_,_,_,_,rfl,_,_,_,_,v⟩:=qac a;refine zV 39 func148 Z fun h=>zSR (qx h Z Z fun _ _ h=>X0 3 Z (rA [] [0] h Z fun _ h=>M2 59 [0,1,3,4,5] 0 0 (h.p [0] Z) Z ?_));obtain⟨_,_,F,i,_,_,_,_,l,p,u,d⟩:=v.ix F;obtain⟨_,_,_,_,_,_,_,_,rfl,_,_,_,x⟩:=qaT u;refine Ae 6 123 l p i (h.p [0] Z) Z (M0 251 [7] (h.p [0] Z) Z (Al 8 507 3 d (h.p [0] Z) Z (M0 1019 [9] (h.p [0] Z) Z ?_)));obtain⟨_,_,F,k,_,_,_,_,m,s,rfl,f⟩:=x.ix F;refine Ae 10 2043 m s k (h.p [0] Z) Z (Al 11 4091 0 f (h.p [0] Z) Z (Ao 2 4095 Z (zcL h F (qlR (h.old a)) Z fun _ _ _ _ _ h F=>Ag (h.p [1] Z) ?_)));obtain⟨_,_,F,c,_,_,_,_,o,t,rfl,g⟩:=(h.sl 0 Z).1.ix F;exact Ax 12 8191 o t ⟨c.1,qD c.2.1 (h.sl 0 Z).2⟩ (h.p [1] Z) Z (Ao 13 16383 Z (zc 0 g Z (G0 32767 [14] (h.p [1] Z) Z (Ad (X0 12 Z (zcI h F qq3 Z fun _ _ h F=>zp1 Z (zcI h F qg1 Z fun _ _ h F=>X0 2 Z (ri h F Z))))))))
def qcr(n:Nat)(b:qf)(x:qv)(h:Int)(mode:Int):Option Int:=bif (x.Bi==1) then(qj7 n b x).bind fun(c,d)=>(idx c.Be (x.To.tmod 2)).bind fun g=>(qf9 n g h d mode).bind fun r4=>V r4 else(qjX n b x).bind fun f=>(qmI n b f x.Cb h mode).bind fun a=>V (if a<1000000 then a else 1000000)
theorem qdb{b:qf}{x:qv}{slew mode}(f:Ro w b cs1)(c:Ro w x cs2){r:Int}(F:qcr n b x slew mode=V r):RetV prog 100 [oV qf cs1,oV qv cs2,vi slew,vi mode] w r:=by
 obtain⟨_,_,_,_,_,_,_,_,_,_,rfl,_,_,_,_,_⟩:=qac f;obtain rfl:=qar c;refine zV 41 func100 Z fun h=>zSR (qx h Z Z fun _ _ h=>qx h Z Z fun _ _ h=>X1 9 0 h Z (qg Z F ?_ ?_))<;>intro F
 ·refine X2 4 1 0 h Z ?_;have a:Rg (old w) w (old w) w:=.start (fun _ h=>h);obtain⟨⟨L,M⟩,s,F⟩:=qc F;refine qjJ (L,M) a h (cB 142 Z) (qnQ (a.regOld h) (a.inR h f) (a.inR h c) s) Z Z Z Z fun _ _ _ g d B z=>?_;have H:=h.ext d.below;have k:=Up.box 0 h d Z;have S:=Up.R a h d c;have I:=Up.boxP (x:=x) a 0 h d Z (a.inR h c);have K:=h.below.trans (d.below.mono h.below.size);replace h:=B;obtain⟨_,_,rfl,i,A⟩:=qlB z;have J:=i;obtain⟨_,_,_,_,rfl,_,P⟩:=qah i;obtain⟨_,rfl,t⟩:=qkk A;obtain rfl:=t;refine zp3 Z (qp qa h Z Z Z fun _ _ h=>zs 0 h Z fun _ h=>X1 7 0 h Z (zc 1 (k.below h.below) Z (zp1 Z ?_)));obtain⟨R,_,F,m,_,_,_,_,o,p,u,l⟩:=P.ix F;obtain⟨_,_,_,_,_,_,rfl,Q,C,D⟩:=qaJ u;refine zxe o p m Z (zc 0 (l.below h.below) Z (zp3 Z (zcI h F (qnn (qft R (h.oldS (Q.mono g.old)) (h.oldS (C.mono g.old)) (h.oldS (D.mono g.old)))) Z fun _ _ h F=>X0 2 Z ?_)));replace h:=h.unbase g.below ⟨fun _ h=>h,G⟩;exact ri h F Z
 refine zKS (rD (Y1 1 1 h Z ?_));refine Y1 1 1 h Z ?_;refine Y1 1 0 h Z ?_;obtain⟨N,v,F⟩:=qc F;refine qaK N (vsI _) (cB 145 Z) (fun _ T=>qn5 ((h.ext T).old f) ((h.ext T).old c) v) Z Z Z Z (Y1 2 0 h Z ?_);refine zd2 Z ?_;obtain⟨O,y,F⟩:=qc F;exact qaK O (vsI _) (cB 148 Z) (fun _ T=>qqQ ((h.ext T).old f) y) Z Z Z Z (zd2 Z (dN h fun _ h=>ri h F Z))
def qhU(n:Nat)(a:qf)(d:qr)(b:qv)(c:qe):Option (qe×qe):=(qb1 n a d b c.Az 0).bind fun f=>(qb1 n a d b c.Az 1).bind fun g=>(qcr n a b c.Az 0).bind fun h=>(qcr n a b c.Az 1).bind fun r4=>(qb1 n a d b c.Bf 0).bind fun i=>(qb1 n a d b c.Bf 1).bind fun k=>(qcr n a b c.Bf 0).bind fun l=>(qcr n a b c.Bf 1).bind fun m=>V ((⟨(if i<f then i else f),(if k > g then k else g)⟩:qe),(⟨(if l<h then l else h),(if m > r4 then m else r4)⟩:qe))
theorem qfT{g:qf}{i:qr}{k:qv}{l:qe}(a:Ro w g cs1)(d:Ro w i cs2)(b:Ro w k cs3)(K:Ro w l cs4){r:(qe×qe)}(F:qhU n g i k l=V r):RetV prog 181 [oV qf cs1,oV qr cs2,oV qv cs3,oV qe cs4] w r:=by
 obtain⟨P,L,Q,M,R,k3,T,N,W,O,rfl,_,_,_,_,_⟩:=qac a;obtain rfl:=qaG d;obtain rfl:=qar b;obtain rfl:=qA K;refine zV 76 func181 Z fun h=>zSR (qx h Z Z fun _ m h=>qx h Z Z fun _ o h=>qx h Z Z fun _ p h=>qx h Z Z fun _ s h=>qp qa h Z Z Z fun _ t h=>qp qa h Z Z Z fun _ u h=>zNS ?_);obtain⟨x,B,F⟩:=qc F;obtain⟨v,y,F⟩:=qc F;refine qa1 (fun e w'=>∃c,e=[(4,vp m),(5,vp o),(6,vp p),(7,vp s),(8,vp t),(9,vp u),(10,vp c)]/\SH w w' [oX c [vi x,vi v] 102,oX u [vi 0,vi 0] 102,oX t [vi 0,vi 0] 102,oX s (qie l) 102,oX p (qkv k) 154,oX o (qb7 i) 54,oX m (qaY g P Q R T W L M k3 N O) 53]) ?_ ?_
 ·refine rA [14] [2,3,4,5] h Z fun _ h=>M4 31 [0,1,2,3,4] 3 2 1 0 (h.p [2,3,4,5] Z) Z (M4 2015 [6,7,8,9,10] 3 2 1 0 (h.p [2,3,4,5] Z) Z (At 5 13 2047 10207 Z ?_ ?_))
  ·refine qcv x h (cB 99 Z) (qcz (h.old a) (h.old d) (h.old b) B) Z Z Z Z fun _ h=>Ag (h.p [2,3,4,5] Z) (At 11 13 4095 10239 Z ?_ ?_)
   ·refine qcv v h (cB 99 Z) (qcz (h.old a) (h.old d) (h.old b) y) Z Z Z Z fun _ h=>Ag (h.p [2,3,4,5] Z) (Aw 12 8191 (fun w' Y=>qG qa [0,1] [.tmp 17,.tmp 23] Z Z Z Z Z Z Z Z) (h.p [2,3,4,5] Z) Z ?_);exact Ao 13 16383 Z (qp qa h Z Z Z fun _ _ h=>Ag (h.p [3,4,5,6] Z) (Ao 14 32767 Z (zs 0 h Z fun _ h=>qaX (fun X=>absurd (X 14 (by decide)) (by decide)) (Ad (rG ⟨_,rfl,h⟩ Z)))))
   refine qp qa h Z Z Z fun _ _ h=>Ag (h.p [3,4,5,6] Z) (Ao 11 12287 Z (qcv v h (cB 99 Z) (qcz (h.old a) (h.old d) (h.old b) y) Z Z Z Z fun _ h=>Ag (h.p [3,4,5,6] Z) (Aw 12 16383 (fun w' Y=>qG qa [0,1] [.tmp 17,.tmp 23] Z Z Z Z Z Z Z Z) (h.p [3,4,5,6] Z) Z ?_)));exact Ao 14 32767 Z (zs 0 h Z fun _ h=>qaX (fun X=>absurd (X 14 (by decide)) (by decide)) (Ad (rG ⟨_,rfl,h⟩ Z)))
  refine qp qa h Z Z Z fun _ _ h=>Ag (h.p [3,4,5,6] Z) (Ao 5 10239 Z (qcv x h (cB 99 Z) (qcz (h.old a) (h.old d) (h.old b) B) Z Z Z Z fun _ h=>Ag (h.p [3,4,5,6] Z) (Ao 11 12287 Z (qcv v h (cB 99 Z) (qcz (h.old a) (h.old d) (h.old b) y) Z Z Z Z fun _ h=>Ag (h.p [3,4,5,6] Z) (Aw 12 16383 (fun w' Y=>qG qa [0,1] [.tmp 17,.tmp 23] Z Z Z Z Z Z Z Z) (h.p [3,4,5,6] Z) Z ?_)))));exact Ao 14 32767 Z (zs 0 h Z fun _ h=>qaX (fun X=>absurd (X 14 (by decide)) (by decide)) (Ad (rG ⟨_,rfl,h⟩ Z)))
 rintro _ _ ⟨c,rfl,h⟩;refine qW ?_;obtain⟨A,C,F⟩:=qc F;obtain⟨r4,z,F⟩:=qc F;refine qa1 (fun e w'=>∃f,e=[(4,vp m),(5,vp o),(6,vp p),(7,vp s),(8,vp t),(9,vp u),(10,vp c),(11,vp f)]/\SH w w' [oX f [vi A,vi r4] 102,oX c [vi x,vi v] 102,oX u [vi 0,vi 0] 102,oX t [vi 0,vi 0] 102,oX s (qie l) 102,oX p (qkv k) 154,oX o (qb7 i) 54,oX m (qaY g P Q R T W L M k3 N O) 53]) ?_ ?_
 ·refine rA [12] [3,4,6] h Z fun _ h=>M4 47 [0,1,2,3,5] 2 1 0 2 (h.p [3,4,6] Z) Z (M2 495 [6,7,8] 1 0 (h.p [3,4,6] Z) Z (At 4 11 511 2543 Z ?_ ?_))
  ·refine qcv A h (cB 100 Z) (qdb (h.old a) (h.old b) C) Z Z Z Z fun _ h=>Ag (h.p [3,4,6] Z) (At 9 11 1023 2559 Z ?_ ?_)
   ·refine qcv r4 h (cB 100 Z) (qdb (h.old a) (h.old b) z) Z Z Z Z fun _ h=>Ag (h.p [3,4,6] Z) (Aw 10 2047 (fun w' Y=>qG qa [0,1] [.tmp 29,.tmp 34] Z Z Z Z Z Z Z Z) (h.p [3,4,6] Z) Z ?_);exact Ao 11 4095 Z (qp qa h Z Z Z fun _ _ h=>Ag (h.p [4,5,7] Z) (Ao 12 8191 Z (zs 0 h Z fun _ h=>qaX (fun X=>absurd (X 12 (by decide)) (by decide)) (Ad (rG ⟨_,rfl,h⟩ Z)))))
   refine qp qa h Z Z Z fun _ _ h=>Ag (h.p [4,5,7] Z) (Ao 9 3071 Z (qcv r4 h (cB 100 Z) (qdb (h.old a) (h.old b) z) Z Z Z Z fun _ h=>Ag (h.p [4,5,7] Z) (Aw 10 4095 (fun w' Y=>qG qa [0,1] [.tmp 29,.tmp 34] Z Z Z Z Z Z Z Z) (h.p [4,5,7] Z) Z ?_)));exact Ao 12 8191 Z (zs 0 h Z fun _ h=>qaX (fun X=>absurd (X 12 (by decide)) (by decide)) (Ad (rG ⟨_,rfl,h⟩ Z)))
  refine qp qa h Z Z Z fun _ _ h=>Ag (h.p [4,5,7] Z) (Ao 4 2559 Z (qcv A h (cB 100 Z) (qdb (h.old a) (h.old b) C) Z Z Z Z fun _ h=>Ag (h.p [4,5,7] Z) (Ao 9 3071 Z (qcv r4 h (cB 100 Z) (qdb (h.old a) (h.old b) z) Z Z Z Z fun _ h=>Ag (h.p [4,5,7] Z) (Aw 10 4095 (fun w' Y=>qG qa [0,1] [.tmp 29,.tmp 34] Z Z Z Z Z Z Z Z) (h.p [4,5,7] Z) Z ?_)))));exact Ao 12 8191 Z (zs 0 h Z fun _ h=>qaX (fun X=>absurd (X 12 (by decide)) (by decide)) (Ad (rG ⟨_,rfl,h⟩ Z)))
 rintro _ _ ⟨f,rfl,h⟩;refine qW (rA [10] [1,4,5,6,7] h Z fun _ h=>M4 63 [0,1,2,3,4,5] 0 4 3 2 (h.p [1,4,5,6,7] Z) Z (M1 127 [6] 1 (h.p [1,4,5,6,7] Z) Z (Ao 7 255 Z (zcI h F (qcz (h.old a) (h.old d) (h.old b)) Z fun D _ h F=>G0 1023 [8,9] (h.p [1,4,5,6,7] Z) Z (Ao 10 2047 Z (zs 1 h Z fun _ h=>qaX (fun X=>absurd (X 10 (by decide)) (by decide)) (Ad (qW (rA [10] [1,4,5,6,7] h Z fun _ h=>M4 63 [0,1,2,3,4,5] 0 4 3 2 (h.p [1,4,5,6,7] Z) Z (M1 127 [6] 1 (h.p [1,4,5,6,7] Z) Z (Ao 7 255 Z (zcI h F (qcz (h.old a) (h.old d) (h.old b)) Z fun H _ h F=>G0 1023 [8,9] (h.p [1,4,5,6,7] Z) Z (Ao 10 2047 Z (zs 1 h Z fun _ h=>qaX (fun X=>absurd (X 10 (by decide)) (by decide)) (Ad (qW (rA [9] [0,4,5,7] h Z fun _ h=>M4 63 [0,1,2,3,4,5] 0 3 2 1 (h.p [0,4,5,7] Z) Z (Ao 6 127 Z (zcI h F (qdb (h.old a) (h.old b)) Z fun I _ h F=>G0 511 [7,8] (h.p [0,4,5,7] Z) Z (Ao 9 1023 Z (zs 0 h Z fun _ h=>qaX (fun X=>absurd (X 9 (by decide)) (by decide)) (Ad (qW (rA [9] [0,4,5,7] h Z fun _ h=>M4 63 [0,1,2,3,4,5] 0 3 2 1 (h.p [0,4,5,7] Z) Z (Ao 6 127 Z (zcI h F (qdb (h.old a) (h.old b)) Z fun J _ h F=>G0 511 [7,8] (h.p [0,4,5,7] Z) Z (Ao 9 1023 Z (zs 0 h Z fun _ h=>qaX (fun X=>absurd (X 9 (by decide)) (by decide)) (Ad (qW (rA [] [0,1] h Z fun _ h=>M2 3 [0,1] 1 0 (h.p [0,1] Z) Z (Ao 2 7 Z (zs 3 h Z fun _ h=>Ag (h.p [0,1] Z) (Ao 3 15 Z (zs 2 h Z fun _ h=>Ag (h.p [0,1] Z) (Ad ?_))))))))))))))))))))))))))))))))))));obtain rfl:=qb F;exact qU qa (ρ:=(qe×qe)) [oV qe [vi (if D<x then D else x),vi (if H > v then H else v)],oV qe [vi (if I<A then I else A),vi (if J > r4 then J else r4)]] h ⟨⟨_,_,_,rfl,rfl,h.box 3 Z,rfl⟩,⟨_,_,_,rfl,rfl,h.box 2 Z,rfl⟩,G⟩ (PV.done h (qae h (qw (S:=fun _=>False) (qB (⟨(if D<x then D else x),(if H > v then H else v)⟩:qe))) (qaa (qw (S:=fun _=>False) (qB (⟨(if I<A then I else A),(if J > r4 then J else r4)⟩:qe)))) (by rfl)))
def qkE(_:Nat)(a:qe)(b:qe):Option qe:=V (⟨(if b.Az<a.Az then b.Az else a.Az),(if b.Bf > a.Bf then b.Bf else a.Bf)⟩:qe)
theorem qni{a:qe}{b:qe}(c:Ro w a cs1)(d:Ro w b cs2){r:qe}(F:qkE n a b=V r):RetV prog 275 [oV qe cs1,oV qe cs2] w r:=by
 obtain rfl:=qA c;obtain rfl:=qA d;refine zV 16 func275 Z fun h=>zSR (qx h Z Z fun _ _ h=>qx h Z Z fun _ _ h=>qp qa h Z Z Z fun _ _ h=>X4 13 2 1 2 1 h Z (r_v (qG qa [0,1] [.tmp 9,.tmp 14] Z Z Z Z Z Z Z Z) Z (zs 0 h Z fun _ h=>qaj ?_)));obtain rfl:=qb F;exact qU qa (ρ:=qe) [oV qe [vi (if b.Az<a.Az then b.Az else a.Az),vi (if b.Bf > a.Bf then b.Bf else a.Bf)]] h ⟨⟨_,_,_,rfl,rfl,h.box 0 Z,rfl⟩,G⟩ (PV.done h (qaa (qw (S:=fun _=>False) (qB (⟨(if b.Az<a.Az then b.Az else a.Az),(if b.Bf > a.Bf then b.Bf else a.Bf)⟩:qe)))))
end Go.Fw
