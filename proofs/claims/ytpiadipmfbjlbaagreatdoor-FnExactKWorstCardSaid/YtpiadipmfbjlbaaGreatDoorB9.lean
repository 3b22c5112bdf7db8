/- By a program of mine (gen.py): for each function a plain function and the proof that the code computes it. -/
import Derived.Test.YtpiadipmfbjlbaaGreatDoorA2
import Derived.Test.YtpiadipmfbjlbaaGreatDoorFw33
open Option renaming bind_some->jd, some->V, none->U
open Nat renaming le_refl->je, zero_add->jY, le_trans->Jb
open Bool renaming and_eq_true->jf, eq_iff_iff->jn, true_and->jG, not_eq_true'->jI, not_true->Ji
open List renaming length_append->jg, getElem?_eq_getElem->jh, append_assoc->jp, length_map->jq, getElem_mem->jt, length_take->jv, take_length->jC, getD_eq_getElem?_getD->jF, map_append->jK, getElem_of_mem->jV, append_nil->Ja, flatMap_append->Jl
open Int renaming toNat_natCast->jr

namespace Go.Fw
open Go Go.Proofs Go.Proofs.Tryz
open Go.RowKit (Below)
open Ch renaming own->oW,box->oX,grp->oG
open GoT renaming v->oV
open Go.Value renaming slice->oS
set_option maxRecDepth 100000
set_option maxHeartbeats 6400000
variable{n:Nat}{w:World}{cs1 cs2 cs3 cs4 cs5 cs6 cs7 cs8 cs9:List Value}
def qdZ(a:qB)(i1:Int)(c:qI):Nat->Int->Option (Flow Bool Int)|0,_=>U|n+1,b=>bif decide (b<i1) then(idx a.Ba b).bind fun d=>bif (d.Bi==c.Bi) then(idx a.Ba b).bind fun f=>bif (f.Bl==c.Bl) then(idx a.Ba b).bind fun g=>bif (g.To==c.To) then V (.ret false) else qdZ a i1 c n (W64 (b+1)) else qdZ a i1 c n (W64 (b+1)) else qdZ a i1 c n (W64 (b+1)) else V (.nxt b)
def qgx(a:qB):Nat->Int->Option (Flow Bool Int)|0,_=>U|n+1,b=>bif decide (b<(a.Bq.length:Int)) then(idx a.Bq b).bind fun d=>(qal n d 0 1).bind fun c=>bif (!c) then V (.ret false) else qgx a n (W64 (b+1)) else V (.nxt b)
def qgr(a:qB):Nat->Int->Option (Flow Bool Int)|0,_=>U|n+1,i1=>bif decide (i1<(a.Ba.length:Int)) then(idx a.Ba i1).bind fun b=>(qmc n a b).bind fun r4=>bif (!r4) then V (.ret false) else(qdZ a i1 b n 0).bind fun|.ret r=>V (.ret r)|.nxt _=>qgr a n (W64 (i1+1)) else V (.nxt i1)
def qmo(n:Nat)(a:qB):Option Bool:=(qle n a).bind fun(c,h)=>(bif (!h) then V true else(qgz n a.Bc).bind fun i=>bif (!i) then V true else bif decide ((a.Ba.length:Int) > 8) then V true else(qal n a.Cc 0 100000).bind fun k=>bif (!k) then V true else(qal n a.Bw 0 100000).bind fun l=>V (!l)).bind fun b1=>bif b1 then V false else(qgr a n 0).bind fun|.ret r=>V r|.nxt _=>(qkk n a).bind fun b=>bif (a.Bi==1) then(qgx a n 0).bind fun|.ret r=>V r|.nxt _=>bif (c==0) then(shlS 1 (IntKind.wrap .u64 (W64 ((a.Bg.length:Int)-1)))).bind fun m=>V ((a.Bq.length:Int)==m) else V false else bif (a.Bi==2) then bif (c==1) then(idx b 1).bind fun p=>bif (p==0) then(idx b 2).bind fun s=>(idx b 3).bind fun t=>bif (!((decide (s > 0))==(decide (t > 0)))) then V ((a.Bq.length:Int)==0) else V false else V false else V false else bif (a.Bi==3) then bif (c==1) then(idx b 1).bind fun d=>bif decide (d > 0) then(idx b 2).bind fun f=>bif decide (f > 0) then(idx b 3).bind fun g=>bif (g==0) then V ((a.Bq.length:Int)==0) else V false else V false else V false else V false else V false
theorem qsz{a:qB}(d:Ro w a cs1){r:Bool}(F:qmo n a=V r):RetV prog 312 [oV qB cs1] w r:=by
 obtain⟨Q,O,R,P,S,k3,rfl,_,s2,s3⟩:=qag d;refine zV 182 func312 Z fun h=>zSR (qx h Z Z fun _ b h=>X1 5 0 h Z ?_);obtain⟨⟨N,r3⟩,d1,F⟩:=qc F;refine qaI (N,r3) h (cB 323 Z) (qrM (h.old d) d1) Z Z Z Z fun _ _ _ d9 d3=>?_;obtain⟨_,_,rfl,e2,d4⟩:=d9.consI d3;obtain⟨rfl,h⟩:=e2.lastB d4;refine X0 8 Z ?_;obtain⟨T,s,_,F,c⟩:=bindE F;refine qaV (fun e w'=>∃b1,T b1=V r/\e=[(1,vp b),(3,vi N),(40,.bool b1)]/\SH w w' [oX b (qeF a Q R S O P k3) 251]) ?_ ?_
 ·refine X0 4 Z (qn (t:=17) F Z ?_ ?_)<;>intro F
  ·refine X0 24 Z ?_;obtain rfl:=qb F;exact rG ⟨_,c,rfl,h⟩ Z
  refine X1 5 0 h Z (zcB h F qiI Z fun _ _ h F=>X0 4 Z (qn (t:=23) F Z ?_ ?_))<;>intro F
  ·refine X0 18 Z ?_;obtain rfl:=qb F;exact rG ⟨_,c,rfl,h⟩ Z
  refine X1 10 0 h Z (qn (t:=29) F Z ?_ ?_)<;>intro F
  ·refine X0 12 Z ?_;obtain rfl:=qb F;exact rG ⟨_,c,rfl,h⟩ Z
  refine X1 5 0 h Z (zcB h F qaa Z fun _ _ h F=>X0 4 Z (qn (t:=35) F Z ?_ ?_))<;>intro F
  ·refine X0 6 Z ?_;obtain rfl:=qb F;exact rG ⟨_,c,rfl,h⟩ Z
  refine X1 5 0 h Z (zcB h F qaa Z fun _ _ h F=>X0 4 Z ?_);obtain rfl:=qb F;exact rG ⟨_,c,rfl,h⟩ Z
 rintro _ _ ⟨b1,F,rfl,h⟩;subst s;refine qg Z F ?_ ?_<;>intro F
 ·exact X0 4 Z (rb h F Z)
 refine X0 6 Z ?_;obtain⟨o1,F,i⟩:=qc F;refine qm (rL (fun m e w'=>∃i1,qgr a m i1=V o1/\e=[(1,vp b),(3,vi N),(5,vi i1)]/\SH w w' [oX b (qeF a Q R S O P k3) 251]) n ⟨_,F,rfl,h⟩ Z ?_);rintro m1 _ _ ⟨i1,F,rfl,h⟩;rcases m1 with _|m1
 ·cases F
 refine X1 9 0 h Z (qg Z F ?_ ?_)<;>intro F
 ·refine X1 8 0 h Z ?_;obtain⟨y1,_,F,a4,_,_,_,_,a9,c2,d5,W⟩:=s2.ix F;obtain⟨p4,k4,p5,k5,rfl,s4,s5⟩:=qaj d5;refine zxe a9 c2 a4 Z (zc 0 (W.below h.below) Z (qp qa h Z Z Z fun _ l h=>zs 0 h Z fun _ h=>X2 6 1 0 h Z (zcB h F (qsX (h.old d) (qgt y1 (h.oldS s4) (h.oldS s5))) Z fun _ _ h F=>X0 2 Z (qg Z F ?_ ?_))))<;>intro F
  ·refine X0 4 Z ?_;obtain rfl:=qb F;replace F:=i;exact rb h F Z
  refine X0 5 Z ?_;obtain⟨o2,F,o⟩:=qc F;refine qm (rL (fun m e w'=>∃i2,qdZ a i1 y1 m i2=V o2/\e=[(1,vp b),(3,vi N),(5,vi i1),(6,vp l),(7,vi i2)]/\SH w w' [oX l (qhv y1 p4 p5 k4 k5) 238,oX b (qeF a Q R S O P k3) 251]) m1 ⟨_,F,rfl,h⟩ Z ?_);rintro m2 _ _ ⟨i2,F,rfl,h⟩;rcases m2 with _|m2
  ·cases F
  refine X0 7 Z (qg Z F ?_ ?_)<;>intro F
  ·refine X0 4 Z (rD (Y1 2 1 h Z ?_));refine zd1 Z ?_;obtain⟨_,_,F,a5,_,_,_,_,b4,c3,d6,X⟩:=s2.ix F;obtain⟨_,_,_,_,rfl,_,_⟩:=qaj d6;refine zdxe b4 c3 a5 Z (zd1 Z (zdc 0 (X.below h.below) Z (Y1 2 0 h Z ?_)));refine zd2 Z (qaU (t:=71) F Z ?_ ?_)<;>intro F
   ·refine Y1 4 1 h Z ?_;refine Y0 3 Z ?_;obtain⟨_,_,F,a6,_,_,_,_,b5,c4,d7,Y⟩:=s2.ix F;obtain⟨_,_,_,_,rfl,_,_⟩:=qaj d7;refine zdxe b5 c4 a6 Z (Y0 3 Z (zdc 1 (Y.below h.below) Z (Y1 4 0 h Z ?_)));refine Y0 4 Z (qaU (t:=82) F Z ?_ ?_)<;>intro F
    ·refine Y1 4 1 h Z ?_;refine Y0 3 Z ?_;obtain⟨_,_,F,a7,_,_,_,_,b6,c5,d8,a3⟩:=s2.ix F;obtain⟨_,_,_,_,rfl,_,_⟩:=qaj d8;refine zdxe b6 c5 a7 Z (Y0 3 Z (zdc 2 (a3.below h.below) Z (Y1 4 0 h Z ?_)));refine Y0 3 Z (dN h fun _ h=>qg Z F ?_ ?_)<;>intro F
     ·refine X0 4 Z ?_;obtain rfl:=qb F;replace F:=o;obtain rfl:=qb F;replace F:=i;exact rb h F Z
     exact X0 7 Z (rK ⟨_,F,rfl,h⟩ Z)
    exact Y0 10 Z (dN h fun _ h=>qch Z Z (X0 7 Z (rK ⟨_,F,rfl,h⟩ Z)))
   exact Y0 21 Z (dN h fun _ h=>qch Z Z (X0 7 Z (rK ⟨_,F,rfl,h⟩ Z)))
  refine qr Z ?_;obtain rfl:=qb F;replace F:=o;refine X0 6 Z ?_;replace h:=h.p [1] Z;exact rK ⟨_,F,rfl,h⟩ Z
 refine qr Z ?_;obtain rfl:=qb F;replace F:=i;refine X1 3 0 h Z (zcL h F (qrl (h.old d)) Z fun _ _ _ _ _ h F=>X1 14 1 h Z (qg Z F ?_ ?_))<;>intro F
 ·refine X0 5 Z ?_;obtain⟨o3,F,p⟩:=qc F;refine qm ?_;replace h:=h.p [1] Z;refine rL (fun m e w'=>∃i3,qgx a m i3=V o3/\e=[(1,vp b),(3,vi N),(9,vi i3)]/\SH w w' [oX b (qeF a Q R S O P k3) 251]) n ⟨_,F,rfl,h⟩ Z ?_;rintro m3 _ _ ⟨i3,F,rfl,h⟩;rcases m3 with _|m3
  ·cases F
  refine X1 9 0 h Z (qg Z F ?_ ?_)<;>intro F
  ·refine X1 8 0 h Z ?_;obtain⟨_,_,F,a8,_,_,_,_,b7,c6,rfl,u⟩:=s3.ix F;refine zxe b7 c6 a8 Z (zc 0 (u.below h.below) Z (zcB h F qaa Z fun _ _ h F=>X0 2 Z (qg Z F ?_ ?_)))<;>intro F
   ·refine X0 4 Z ?_;obtain rfl:=qb F;replace F:=p;exact rb h F Z
   exact X0 7 Z (rK ⟨_,F,rfl,h⟩ Z)
  refine qr Z ?_;obtain rfl:=qb F;replace F:=p;refine X0 5 Z (qn (t:=115) F Z ?_ ?_)<;>intro F
  ·refine X2 17 0 0 h Z ?_;obtain⟨_,k,F⟩:=qc F;obtain⟨g1,k⟩:=quj k;refine r_v (qBM g1 Z Z) Z ?_;rw[k];exact X0 5 Z (rb h F Z)
  exact X0 13 Z (rb h F Z)
 refine X0 5 Z (qg Z F ?_ ?_)<;>intro F
 ·refine qab (rD (zd3 Z (qaU (t:=131) F Z ?_ ?_)))<;>intro F
  ·refine Y0 3 Z ?_;obtain⟨_,_,F,C,_,_,_,_,b8,c7,rfl,v⟩:=(h.sl 0 Z).1.ix F;refine zdx b8 c7 ⟨C.1,qD C.2.1 (h.sl 0 Z).2⟩ Z (Y0 1 Z (zdc 0 v Z (Y0 4 Z (qaU (t:=137) F Z ?_ ?_))))<;>intro F
   ·refine Y0 3 Z ?_;obtain⟨_,_,F,D,_,_,_,_,b9,c8,rfl,x⟩:=(h.sl 0 Z).1.ix F;refine zdx b9 c8 ⟨D.1,qD D.2.1 (h.sl 0 Z).2⟩ Z (Y0 1 Z (zdc 0 x Z (Y0 5 Z ?_)));obtain⟨_,_,F,H,_,_,_,_,c0,c9,rfl,y⟩:=(h.sl 0 Z).1.ix F;refine zdx c0 c9 ⟨H.1,qD H.2.1 (h.sl 0 Z).2⟩ Z (Y0 1 Z (zdc 0 y Z (Y0 6 Z (qaU (t:=148) F Z ?_ ?_))))<;>intro F
    ·refine Y1 4 1 h Z ?_;exact Y0 6 Z (dN h fun _ h=>rb h F Z)
    exact Y0 6 Z (dN h fun _ h=>rb h F Z)
   exact Y0 17 Z (dN h fun _ h=>rb h F Z)
  exact Y0 23 Z (dN h fun _ h=>rb h F Z)
 refine X0 5 Z (qg Z F ?_ ?_)<;>intro F
 ·refine X0 5 Z (qn (t:=158) F Z ?_ ?_)<;>intro F
  ·refine X0 3 Z ?_;obtain⟨_,_,F,I,_,_,_,_,c1,d0,rfl,z⟩:=(h.sl 0 Z).1.ix F;refine zx c1 d0 ⟨I.1,qD I.2.1 (h.sl 0 Z).2⟩ Z (X0 1 Z (zc 0 z Z (X0 4 Z (qn (t:=164) F Z ?_ ?_))))<;>intro F
   ·refine X0 3 Z ?_;obtain⟨_,_,F,f,_,_,_,_,J,L,rfl,A⟩:=(h.sl 0 Z).1.ix F;refine zx J L ⟨f.1,qD f.2.1 (h.sl 0 Z).2⟩ Z (X0 1 Z (zc 0 A Z (X0 4 Z (qn (t:=170) F Z ?_ ?_))))<;>intro F
    ·refine X0 3 Z ?_;obtain⟨_,_,F,g,_,_,_,_,K,M,rfl,B⟩:=(h.sl 0 Z).1.ix F;refine zx K M ⟨g.1,qD g.2.1 (h.sl 0 Z).2⟩ Z (X0 1 Z (zc 0 B Z (X0 4 Z (qn (t:=176) F Z ?_ ?_))))<;>intro F
     ·exact X1 11 1 h Z (rb h F Z)
     exact X0 7 Z (rb h F Z)
    exact X0 13 Z (rb h F Z)
   exact X0 19 Z (rb h F Z)
  exact X0 25 Z (rb h F Z)
 exact X0 6 Z (rb h F Z)
def qd6(l:qq)(i1:Int):Nat->Int->Option (Flow Bool Int)|0,_=>U|n+1,a=>bif decide (a<i1) then(idx l.As a).bind fun b=>(idx l.As i1).bind fun c=>bif (b.Bc.toList==c.Bc.toList) then V (.ret false) else qd6 l i1 n (W64 (a+1)) else V (.nxt a)
def qeb(l:qq):Nat->Int->Option (Flow Bool Int)|0,_=>U|n+1,i1=>bif decide (i1<(l.As.length:Int)) then(idx l.As i1).bind fun b=>(qmo n b).bind fun a=>bif (!a) then V (.ret false) else(qd6 l i1 n 0).bind fun|.ret r=>V (.ret r)|.nxt _=>qeb l n (W64 (i1+1)) else V (.nxt i1)
def qjh(n:Nat)(l:qq):Option Bool:=(qeb l n 0).bind fun|.ret r=>V r|.nxt _=>V (decide ((l.As.length:Int)<=8))
theorem qqA{l:qq}(d:Ro w l cs1){r:Bool}(F:qjh n l=V r):RetV prog 295 [oV qq cs1] w r:=by
 obtain⟨K,I,rfl,H⟩:=qbM d;refine zV 41 func295 Z fun h=>zSR (qx h Z Z fun _ a h=>X0 7 Z ?_);obtain⟨L,F,b⟩:=qc F;refine qm (rL (fun m e w'=>∃i1,qeb l m i1=V L/\e=[(1,vp a),(3,vi i1)]/\SH w w' [oX a [oS K l.As.length I] 46]) n ⟨_,F,rfl,h⟩ Z ?_);rintro D _ _ ⟨i1,F,rfl,h⟩;rcases D with _|D
 ·cases F
 refine X1 9 0 h Z (qg Z F ?_ ?_)<;>intro F
 ·refine X1 9 0 h Z ?_;obtain⟨P,_,F,k,_,_,_,_,s,v,z,f⟩:=H.ix F;obtain⟨_,_,_,_,_,_,rfl,s2,N,O⟩:=qag z;refine zxe s v k Z (zc 0 (f.below h.below) Z (zcB h F (qsz (qlu P (h.oldS s2) (h.oldS N) (h.oldS O))) Z fun _ _ h F=>X0 2 Z (qg Z F ?_ ?_)))<;>intro F
  ·refine X0 4 Z ?_;obtain rfl:=qb F;replace F:=b;exact rb h F Z
  refine X0 5 Z ?_;obtain⟨M,F,c⟩:=qc F;refine qm (rL (fun m e w'=>∃C,qd6 l i1 m C=V M/\e=[(1,vp a),(3,vi i1),(4,vi C)]/\SH w w' [oX a [oS K l.As.length I] 46]) D ⟨_,F,rfl,h⟩ Z ?_);rintro J _ _ ⟨C,F,rfl,h⟩;rcases J with _|J
  ·cases F
  refine X0 7 Z (qg Z F ?_ ?_)<;>intro F
  ·refine X0 4 Z (rD (Y1 2 0 h Z ?_));refine zd1 Z ?_;obtain⟨_,_,F,o,_,_,_,_,t,x,A,g⟩:=H.ix F;obtain⟨_,_,_,_,_,_,rfl,_,_,_⟩:=qag A;refine zdxe t x o Z (zd1 Z (zdc 0 (g.below h.below) Z (Y1 2 0 h Z ?_)));refine zd1 Z ?_;obtain⟨_,_,F,p,_,_,_,_,u,y,B,i⟩:=H.ix F;obtain⟨_,_,_,_,_,_,rfl,_,_,_⟩:=qag B;refine zdxe u y p Z (zd1 Z (zdc 0 (i.below h.below) Z (zd1 Z (dN h fun _ h=>qg Z F ?_ ?_))))<;>intro F
   ·refine X0 4 Z ?_;obtain rfl:=qb F;replace F:=c;obtain rfl:=qb F;replace F:=b;exact rb h F Z
   exact X0 7 Z (rK ⟨_,F,rfl,h⟩ Z)
  refine qr Z ?_;obtain rfl:=qb F;replace F:=c;exact X0 6 Z (rK ⟨_,F,rfl,h⟩ Z)
 refine qr Z ?_;obtain rfl:=qb F;replace F:=b;exact X1 8 0 h Z (rb h F Z)
def qe5(a:qd)(c:ql):Nat->Int->Option (Flow Bool Int)|0,_=>U|n+1,b=>bif decide (b<(c.Am.length:Int)) then(idx c.Am b).bind fun f=>(qal n f 0 (W64 ((a.Am.length:Int)-1))).bind fun d=>bif (!d) then V (.ret false) else qe5 a c n (W64 (b+1)) else V (.nxt b)
def qeY(a:qd):Nat->Int->Option (Flow Bool Int)|0,_=>U|n+1,b=>bif decide (b<(a.Aj.length:Int)) then(idx a.Aj b).bind fun d=>(qal n d.Bx 1 2).bind fun c=>bif (!c) then V (.ret false) else(idx a.Aj b).bind fun f=>(qal n f.Ca 0 (W64 ((a.Am.length:Int)-1))).bind fun r4=>bif (!r4) then V (.ret false) else qeY a n (W64 (b+1)) else V (.nxt b)
def qeZ(b:qq)(a:qd):Nat->Int->Option (Flow Bool Int)|0,_=>U|n+1,i1=>bif decide (i1<(a.Ab.length:Int)) then(idx a.Ab i1).bind fun c=>((qal n c.Bv 0 (W64 ((b.As.length:Int)-1))).bind fun d=>bif (!d) then V true else(idx b.As c.Bv).bind fun f=>V ((c.Am.length:Int) != (f.Bg.length:Int))).bind fun b2=>bif b2 then V (.ret false) else(qe5 a c n 0).bind fun|.ret r=>V (.ret r)|.nxt _=>qeZ b a n (W64 (i1+1)) else V (.nxt i1)
def qkb(n:Nat)(b:qq)(a:qd):Option Bool:=(qeZ b a n 0).bind fun|.ret r=>V r|.nxt _=>(qeY a n 0).bind fun|.ret r=>V r|.nxt _=>V true
theorem qqL{c:qq}{a:qd}(A:Ro w c cs1)(B:Ro w a cs2){r:Bool}(F:qkb n c a=V r):RetV prog 296 [oV qq cs1,oV qd cs2] w r:=by
 obtain⟨p1,k1,rfl,s1⟩:=qbM A;obtain⟨v,s,x,k3,y,u,rfl,s2,_,s4⟩:=qaD B;refine zV 90 func296 Z fun h=>zSR (qx h Z Z fun _ d h=>qx h Z Z fun _ b h=>X1 14 0 h Z ?_);obtain⟨o1,F,g⟩:=qc F;refine qm (rL (fun m e w'=>∃i1,qeZ c a m i1=V o1/\e=[(2,vp d),(3,vp b),(5,vi (a.Am.length:Int)),(6,vi i1)]/\SH w w' [oX b (qaT a v x y s k3 u) 50,oX d [oS p1 c.As.length k1] 46]) n ⟨_,F,rfl,h⟩ Z ?_);rintro m1 _ _ ⟨i1,F,rfl,h⟩;rcases m1 with _|m1
 ·cases F
 refine X1 9 0 h Z (qg Z F ?_ ?_)<;>intro F
 ·refine X1 8 0 h Z ?_;obtain⟨y1,_,F,J,_,_,_,_,O,T,a4,C⟩:=s2.ix F;obtain⟨p5,k5,rfl,s5⟩:=qT a4;refine zxe O T J Z (zc 0 (C.below h.below) Z (qp qa h Z Z Z fun _ f h=>zs 0 h Z fun _ h=>zNSS ?_));obtain⟨z,o,_,F,l⟩:=bindE F;refine qaV (fun e w'=>∃b2,z b2=V o1/\e=[(2,vp d),(3,vp b),(5,vi (a.Am.length:Int)),(6,vi i1),(7,vp f),(46,.bool b2)]/\SH w w' [oX f (qkG y1 p5 k5) 253,oX b (qaT a v x y s k3 u) 50,oX d [oS p1 c.As.length k1] 46]) ?_ ?_
  ·refine rD (Y1 2 0 h Z ?_);refine Y1 2 2 h Z ?_;refine zd2 Z ?_;obtain⟨r2,a5,F⟩:=qc F;refine qbi r2 (vsB _) (cB 43 Z) (fun _ hb=>qaa  a5) Z Z Z Z (zd2 Z (qaU (t:=33) F Z ?_ ?_))<;>intro F
   ·refine Y0 13 Z (dN h fun _ h=>?_);obtain rfl:=qb F;exact rG ⟨_,l,rfl,h⟩ Z
   refine Y1 4 0 h Z ?_;refine Y1 6 2 h Z ?_;refine Y1 4 0 h Z ?_;refine Y0 1 Z ?_;obtain⟨_,_,F,L,_,_,_,_,Q,X,a6,H⟩:=s1.ix F;obtain⟨_,_,_,_,_,_,rfl,_,_,_⟩:=qag a6;refine zdxe Q X L Z (Y0 3 Z (zdc 2 (H.below h.below) Z (Y0 5 Z (dN h fun _ h=>?_))));obtain rfl:=qb F;exact rG ⟨_,l,rfl,h⟩ Z
  rintro _ _ ⟨b2,F,rfl,h⟩;subst o;refine qg Z F ?_ ?_<;>intro F
  ·refine X0 4 Z ?_;obtain rfl:=qb F;replace F:=g;exact rb h F Z
  refine X0 5 Z ?_;obtain⟨o2,F,k⟩:=qc F;refine qm (rL (fun m e w'=>∃i2,qe5 a y1 m i2=V o2/\e=[(2,vp d),(3,vp b),(5,vi (a.Am.length:Int)),(6,vi i1),(7,vp f),(8,vi i2)]/\SH w w' [oX f (qkG y1 p5 k5) 253,oX b (qaT a v x y s k3 u) 50,oX d [oS p1 c.As.length k1] 46]) m1 ⟨_,F,rfl,h⟩ Z ?_);rintro m2 _ _ ⟨i2,F,rfl,h⟩;rcases m2 with _|m2
  ·cases F
  refine X1 9 0 h Z (qg Z F ?_ ?_)<;>intro F
  ·refine X1 8 0 h Z ?_;obtain⟨_,_,F,K,_,_,_,_,P,W,rfl,D⟩:=s5.ix F;refine zxe P W K Z (zc 0 (D.below h.below) Z (zp2 Z (zcB h F qaa Z fun _ _ h F=>X0 2 Z (qg Z F ?_ ?_))))<;>intro F
   ·refine X0 4 Z ?_;obtain rfl:=qb F;replace F:=k;obtain rfl:=qb F;replace F:=g;exact rb h F Z
   exact X0 7 Z (rK ⟨_,F,rfl,h⟩ Z)
  refine qr Z ?_;obtain rfl:=qb F;replace F:=k;refine X0 6 Z ?_;replace h:=h.p [1,2] Z;exact rK ⟨_,F,rfl,h⟩ Z
 refine qr Z ?_;obtain rfl:=qb F;replace F:=g;refine X0 5 Z ?_;obtain⟨o4,F,i⟩:=qc F;refine qm ?_;replace h:=h.p [0] Z;refine rL (fun m e w'=>∃i3,qeY a m i3=V o4/\e=[(3,vp b),(5,vi (a.Am.length:Int)),(9,vi i3)]/\SH w w' [oX b (qaT a v x y s k3 u) 50]) n ⟨_,F,rfl,h⟩ Z ?_;rintro m3 _ _ ⟨i3,F,rfl,h⟩;rcases m3 with _|m3
 ·cases F
 refine X1 9 0 h Z (qg Z F ?_ ?_)<;>intro F
 ·refine X1 8 0 h Z ?_;obtain⟨_,_,F,M,_,_,_,_,R,Y,a7,I⟩:=s4.ix F;obtain rfl:=qaW a7;refine zxe R Y M Z (zp1 Z (zc 1 (I.below h.below) Z (zcB h F qaa Z fun _ _ h F=>zp2 Z (qn (t:=78) F Z ?_ ?_))))<;>intro F
  ·refine X0 12 Z (qcq Z Z (X0 4 Z ?_));obtain rfl:=qb F;replace F:=i;exact rb h F Z
  refine X1 7 0 h Z ?_;obtain⟨_,_,F,N,_,_,_,_,S,a3,a8,p⟩:=s4.ix F;obtain rfl:=qaW a8;refine zxe S a3 N Z (X0 3 Z (zc 2 (p.below h.below) Z (X0 5 Z (zcB h F qaa Z fun _ _ h F=>X0 4 Z (qg Z F ?_ ?_)))))<;>intro F
  ·refine X0 4 Z ?_;obtain rfl:=qb F;replace F:=i;exact rb h F Z
  exact X0 7 Z (rK ⟨_,F,rfl,h⟩ Z)
 refine qr Z ?_;obtain rfl:=qb F;replace F:=i;exact X0 4 Z (rb h F Z)
def qeW(list:(List ByteArray))(i1:Int):Nat->Int->Option (Flow Bool Int)|0,_=>U|n+1,a=>bif decide (a<i1) then(idx list a).bind fun b=>(idx list i1).bind fun c=>bif (b.toList==c.toList) then V (.ret false) else qeW list i1 n (W64 (a+1)) else V (.nxt a)
def qeP(list:(List ByteArray)):Nat->Int->Option (Flow Bool Int)|0,_=>U|n+1,i1=>bif decide (i1<(list.length:Int)) then(idx list i1).bind fun b=>(qgz n b).bind fun a=>bif (!a) then V (.ret false) else(qeW list i1 n 0).bind fun|.ret r=>V (.ret r)|.nxt _=>qeP list n (W64 (i1+1)) else V (.nxt i1)
def qg9(n:Nat)(list:(List ByteArray)):Option Bool:=(qeP list n 0).bind fun|.ret r=>V r|.nxt _=>V true
theorem qjV{list:(List ByteArray)}(c:Ro w list cs1){r:Bool}(F:qg9 n list=V r):RetV prog 297 [oV (List ByteArray) cs1] w r:=by
 obtain⟨C,A,rfl,z⟩:=c;refine zV 31 func297 Z fun h=>X0 9 Z ?_;obtain⟨D,F,a⟩:=qc F;refine qm (rL (fun m e w'=>∃i1,qeP list m i1=V D/\e=[(0,oS C list.length A),(3,vi i1)]/\SH w w' []) n ⟨_,F,rfl,h⟩ Z ?_);rintro y _ _ ⟨i1,F,rfl,h⟩;rcases y with _|y
 ·cases F
 refine X0 8 Z (qg Z F ?_ ?_)<;>intro F
 ·refine X0 8 Z ?_;obtain⟨_,_,F,i,_,_,_,_,o,t,rfl,d⟩:=z.ix F;refine zxe o t i Z (zc 0 (d.below h.below) Z (zcB h F qiI Z fun _ _ h F=>X0 2 Z (qg Z F ?_ ?_)))<;>intro F
  ·refine X0 4 Z ?_;obtain rfl:=qb F;replace F:=a;exact rb h F Z
  refine X0 5 Z ?_;obtain⟨H,F,b⟩:=qc F;refine qm (rL (fun m e w'=>∃x,qeW list i1 m x=V H/\e=[(0,oS C list.length A),(3,vi i1),(4,vi x)]/\SH w w' []) y ⟨_,F,rfl,h⟩ Z ?_);rintro B _ _ ⟨x,F,rfl,h⟩;rcases B with _|B
  ·cases F
  refine X0 7 Z (qg Z F ?_ ?_)<;>intro F
  ·refine X0 4 Z (rD (zd2 Z ?_));obtain⟨_,_,F,k,_,_,_,_,p,u,rfl,f⟩:=z.ix F;refine zdxe p u k Z (zdc 0 (f.below h.below) Z (zd2 Z ?_));obtain⟨_,_,F,l,_,_,_,_,s,v,rfl,g⟩:=z.ix F;refine zdxe s v l Z (zdc 0 (g.below h.below) Z (zd1 Z (dN h fun _ h=>qg Z F ?_ ?_)))<;>intro F
   ·refine X0 4 Z ?_;obtain rfl:=qb F;replace F:=b;obtain rfl:=qb F;replace F:=a;exact rb h F Z
   exact X0 7 Z (rK ⟨_,F,rfl,h⟩ Z)
  refine qr Z ?_;obtain rfl:=qb F;replace F:=b;exact X0 6 Z (rK ⟨_,F,rfl,h⟩ Z)
 refine qr Z ?_;obtain rfl:=qb F;replace F:=a;exact X0 4 Z (rb h F Z)
def qe1(c:(List Int))(d:(List Int)):Nat->Int->Option (Flow Bool Int)|0,_=>U|n+1,a=>bif decide (a<(c.length:Int)) then(idx d a).bind fun b=>bif (b != 1) then V (.ret false) else qe1 c d n (W64 (a+1)) else V (.nxt a)
def qcP(a:qd):Nat->(List Int)->Int->Option ((List Int)×Int)|0,_,_=>U|n+1,c,b=>bif decide (b<(a.Aj.length:Int)) then(idx a.Aj b).bind fun f=>bif (f.Bx==1) then(idx a.Aj b).bind fun d=>(idx c d.Ca).bind fun g=>(idx c d.Ca).bind fun _=>qcP a n (setS c d.Ca (W64 (g+1))) (W64 (b+1)) else qcP a n c (W64 (b+1)) else V (c,b)
def qdF(a:qd):Nat->(List Int)->Int->Option ((List Int)×Int)|0,_,_=>U|n+1,c,b=>bif decide (b<(a.Ab.length:Int)) then(idx a.Ab b).bind fun f=>(idx f.Am (W64 ((f.Am.length:Int)-1))).bind fun d=>(idx c d).bind fun g=>(idx c d).bind fun _=>qdF a n (setS c d (W64 (g+1))) (W64 (b+1)) else V (c,b)
def qdu(a:qd):Nat->(List ByteArray)->Int->Option ((List ByteArray)×Int)|0,_,_=>U|n+1,x3,b=>bif decide (b<(a.Aj.length:Int)) then(idx a.Aj b).bind fun d=>(appS x3 ([d.Bc]:List ByteArray)).bind fun c=>qdu a n c (W64 (b+1)) else V (x3,b)
def qdA(a:qd):Nat->(List ByteArray)->Int->Option ((List ByteArray)×Int)|0,_,_=>U|n+1,x1,i1=>bif decide (i1<(a.Ab.length:Int)) then(idx a.Ab i1).bind fun c=>(appS x1 ([c.Bc]:List ByteArray)).bind fun b=>qdA a n b (W64 (i1+1)) else V (x1,i1)
def qj9(n:Nat)(b:qq)(a:qd):Option Bool:=((qjh n b).bind fun r4=>bif (!r4) then V true else bif decide ((a.Ab.length:Int) > 14) then V true else bif decide ((a.Am.length:Int) > 30) then V true else bif decide ((a.Aj.length:Int) > 8) then V true else(qkb n b a).bind fun i=>V (!i)).bind fun b1=>bif b1 then V false else(qdA a n ([]:List ByteArray) 0).bind fun(x1,_)=>(qdu a n ([]:List ByteArray) 0).bind fun(x3,_)=>((qg9 n x1).bind fun f=>bif (!f) then V true else(qg9 n x3).bind fun g=>bif (!g) then V true else(qg9 n a.Am).bind fun h=>V (!h)).bind fun d=>bif d then V false else(mkS (a.Am.length:Int) (0:Int)).bind fun c=>(qdF a n c 0).bind fun(k,_)=>(qcP a n k 0).bind fun(l,_)=>(qe1 c l n 0).bind fun|.ret r=>V r|.nxt _=>V true
theorem qq6{I:qq}{a:qd}(p:Ro w I cs1)(M:Ro w a cs2){r:Bool}(F:qj9 n I a=V r):RetV prog 270 [oV qq cs1,oV qd cs2] w r:=by
 obtain⟨_,_,rfl,_⟩:=qbM p;obtain⟨C,A,D,k3,H,B,rfl,s2,s3,s4⟩:=qaD M;refine zV 153 func270 Z fun h=>zSR (qx h Z Z fun _ _ h=>qx h Z Z fun _ b h=>X0 4 Z ?_);obtain⟨KF2,L,_,F,f⟩:=bindE F;refine qaV (fun e w'=>∃b1,KF2 b1=V r/\e=[(3,vp b),(40,.bool b1)]/\SH w w' [oX b (qaT a C D H A k3 B) 50]) ?_ ?_
 ·refine X1 2 1 h Z (zcB h F (qqA (h.old p)) Z fun _ _ h F=>zp2 Z (qn (t:=17) F Z ?_ ?_))<;>intro F
  ·refine X0 24 Z ?_;replace h:=h.p [0] Z;obtain rfl:=qb F;exact rG ⟨_,f,rfl,h⟩ Z
  refine X1 10 0 h Z (qn (t:=23) F Z ?_ ?_)<;>intro F
  ·refine X0 18 Z ?_;replace h:=h.p [0] Z;obtain rfl:=qb F;exact rG ⟨_,f,rfl,h⟩ Z
  refine X1 10 0 h Z (qn (t:=29) F Z ?_ ?_)<;>intro F
  ·refine X0 12 Z ?_;replace h:=h.p [0] Z;obtain rfl:=qb F;exact rG ⟨_,f,rfl,h⟩ Z
  refine X1 10 0 h Z (qn (t:=35) F Z ?_ ?_)<;>intro F
  ·refine X0 6 Z ?_;replace h:=h.p [0] Z;obtain rfl:=qb F;exact rG ⟨_,f,rfl,h⟩ Z
  refine X2 5 1 0 h Z (zcB h F (qqL (h.old p) (h.old M)) Z fun _ _ h F=>X0 4 Z ?_);replace h:=h.p [0] Z;obtain rfl:=qb F;exact rG ⟨_,f,rfl,h⟩ Z
 rintro _ _ ⟨b1,F,rfl,h⟩;subst L;refine qg Z F ?_ ?_<;>intro F
 ·exact X0 4 Z (rb h F Z)
 refine zKSR (qG qa [] _ ([]:List ByteArray) h Z Z Z Z Z Z Z Z Z trivial Z fun _ _ _ h=>X0 7 Z ?_);obtain⟨o1,F,hK1⟩:=qc F;refine qm (rL (fun m e w'=>∃S2 p6 x k5 x1 i1,qdA a m x1 i1=V o1/\e=[(3,vp b),(5,oS p6 x k5),(6,vi i1)]/\SH w w' [oW S2 (x1:List ByteArray) [oS p6 x k5],oX b (qaT a C D H A k3 B) 50]) n ⟨_,_,_,_,_,_,F,rfl,h⟩ Z ?_);rintro m1 _ _ ⟨S2,p6,x,k5,x1,i1,F,rfl,h⟩;obtain rfl:=(h.sl 0 Z).2;rcases m1 with _|m1
 ·cases F
 refine X1 9 1 h Z (qg Z F ?_ ?_)<;>intro F
 ·refine X1 8 1 h Z ?_;obtain⟨y1,_,F,he1,_,_,_,_,hp1,hq1,hr1,hc3⟩:=s2.ix F;obtain⟨_,_,rfl,_⟩:=qT hr1;refine zxe hp1 hq1 he1 Z (zp1 Z (zc 0 (hc3.below h.below) Z (qG qa [.tmp 55] _ ([y1.Bc]:List ByteArray) h Z Z Z Z Z Z Z Z Z ⟨rfl,G⟩ Z fun _ _ _ h=>?_)));obtain⟨_,s,F⟩:=qc F;obtain⟨g1,s⟩:=qN s;refine qbW qa 1 h Z (h.sl 0 Z).1 (h.sl 0 Z).2 Z Z Z Z Z Z Z Z Z g1 s Z fun _ _ _ _ h=>X0 8 Z ?_;replace h:=h.p [1,2] Z;exact rK ⟨_,_,_,_,_,_,F,rfl,h⟩ Z
 refine qr Z ?_;obtain rfl:=qb F;replace F:=hK1;refine zSR (qG qa [] _ ([]:List ByteArray) h Z Z Z Z Z Z Z Z Z trivial Z fun _ _ _ h=>X0 7 Z ?_);obtain⟨o2,F,hK2⟩:=qc F;refine qm (rL (fun m e w'=>∃S6 z y k8 x3 i2,qdu a m x3 i2=V o2/\e=[(3,vp b),(5,oS p6 x1.length k5),(7,oS z y k8),(8,vi i2)]/\SH w w' [oW S6 (x3:List ByteArray) [oS z y k8],oW S2 (x1:List ByteArray) [oS p6 x1.length k5],oX b (qaT a C D H A k3 B) 50]) n ⟨_,_,_,_,_,_,F,rfl,h⟩ Z ?_);rintro m2 _ _ ⟨S6,z,y,k8,x3,i2,F,rfl,h⟩;obtain rfl:=(h.sl 0 Z).2;rcases m2 with _|m2
 ·cases F
 refine X1 9 2 h Z (qg Z F ?_ ?_)<;>intro F
 ·refine X1 8 2 h Z ?_;obtain⟨y2,_,F,he2,_,_,_,_,hp2,hq2,hr2,hc5⟩:=s4.ix F;obtain rfl:=qaW hr2;refine zxe hp2 hq2 he2 Z (zp1 Z (zc 0 (hc5.below h.below) Z (qG qa [.tmp 72] _ ([y2.Bc]:List ByteArray) h Z Z Z Z Z Z Z Z Z ⟨rfl,G⟩ Z fun _ _ _ h=>?_)));obtain⟨_,u,F⟩:=qc F;obtain⟨g2,u⟩:=qN u;refine qbW qa 1 h Z (h.sl 0 Z).1 (h.sl 0 Z).2 Z Z Z Z Z Z Z Z Z g2 u Z fun _ _ _ _ h=>X0 8 Z ?_;replace h:=h.p [1,2,3] Z;exact rK ⟨_,_,_,_,_,_,F,rfl,h⟩ Z
 refine qr Z ?_;obtain rfl:=qb F;replace F:=hK2;refine zSS ?_;obtain⟨KF1,K,_,F,o⟩:=bindE F;refine qaV (fun e w'=>∃b4,KF1 b4=V r/\e=[(3,vp b),(88,.bool b4)]/\SH w w' [oX b (qaT a C D H A k3 B) 50]) ?_ ?_
 ·refine X0 2 Z (zcB h F (qjV (h.own 1 Z)) Z fun _ _ h F=>zp2 Z (qn (t:=78) F Z ?_ ?_))<;>intro F
  ·refine X0 11 Z ?_;replace h:=h.p [2] Z;obtain rfl:=qb F;exact rG ⟨_,o,rfl,h⟩ Z
  refine X0 3 Z (zcB h F (qjV (h.own 0 Z)) Z fun _ _ h F=>X0 4 Z (qn (t:=83) F Z ?_ ?_))<;>intro F
  ·refine X0 6 Z ?_;replace h:=h.p [2] Z;obtain rfl:=qb F;exact rG ⟨_,o,rfl,h⟩ Z
  refine X1 5 2 h Z (zcB h F (qjV ⟨_,_,rfl,(h.oldS s3)⟩) Z fun _ _ h F=>X0 4 Z ?_);replace h:=h.p [2] Z;obtain rfl:=qb F;exact rG ⟨_,o,rfl,h⟩ Z
 rintro _ _ ⟨b4,F,rfl,h⟩;subst K;refine qg Z F ?_ ?_<;>intro F
 ·exact X0 4 Z (rb h F Z)
 refine X1 6 0 h Z ?_;obtain⟨d,v,F⟩:=qc F;obtain⟨g3,g4,v⟩:=qS v;refine qam qa Int h Z Z Z Z Z Z Z Z Z g3 g4 v Z fun _ S9 c h=>X0 7 Z ?_;obtain⟨o3,F,hK3⟩:=qc F;refine qm (rL (fun m e w'=>∃x6 i3,qdF a m x6 i3=V o3/\e=[(3,vp b),(9,oS c d.length d.length),(10,vi i3)]/\SH w w' [oW S9 (x6:List Int) [oS c d.length d.length],oX b (qaT a C D H A k3 B) 50]) n ⟨_,_,F,rfl,h⟩ Z ?_);rintro m3 _ _ ⟨x6,i3,F,rfl,h⟩;rcases m3 with _|m3
 ·cases F
 refine X1 9 1 h Z (qg Z F ?_ ?_)<;>intro F
 ·refine X1 8 1 h Z ?_;obtain⟨_,_,F,he3,_,_,_,_,hp3,hq3,hr3,hc8⟩:=s2.ix F;obtain⟨_,_,rfl,s6⟩:=qT hr3;refine zxe hp3 hq3 he3 Z (zp1 Z (zc 2 (hc8.below h.below) Z (X0 8 Z ?_)));obtain⟨_,_,F,he4,_,_,_,_,hp4,hq4,rfl,hc9⟩:=s6.ix F;refine zxe hp4 hq4 he4 Z (zc 0 (hc9.below h.below) Z ?_);obtain⟨y5,_,F,W,_,_,_,_,hp5,hq5,rfl,N⟩:=(h.sl 0 Z).1.ix F;refine zx hp5 hq5 ⟨W.1,qD W.2.1 (h.sl 0 Z).2⟩ Z (zc 0 N Z (zp1 Z ?_));obtain⟨_,hy6,F,X,_,_,_,_,a4,a6,rfl,O⟩:=(h.sl 0 Z).1.ix F;exact zx a4 a6 ⟨X.1,qD X.2.1 (h.sl 0 Z).2⟩ Z (qav qa 0 0 (W64 (y5+1)) h Z hy6 a4 a6 Z O Z Z Z Z Z Z Z fun _ h=>X0 7 Z (rK ⟨_,_,F,rfl,h⟩ Z))
 refine qr Z ?_;obtain rfl:=qb F;replace F:=hK3;refine X0 5 Z ?_;obtain⟨o4,F,hK4⟩:=qc F;refine qm (rL (fun m e w'=>∃x7 i4,qcP a m x7 i4=V o4/\e=[(3,vp b),(9,oS c d.length d.length),(12,vi i4)]/\SH w w' [oW S9 (x7:List Int) [oS c d.length d.length],oX b (qaT a C D H A k3 B) 50]) n ⟨_,_,F,rfl,h⟩ Z ?_);rintro m4 _ _ ⟨x7,i4,F,rfl,h⟩;rcases m4 with _|m4
 ·cases F
 refine X1 9 1 h Z (qg Z F ?_ ?_)<;>intro F
 ·refine X1 8 1 h Z ?_;obtain⟨_,_,F,he7,_,_,_,_,hp7,hq7,hr7,P⟩:=s4.ix F;obtain rfl:=qaW hr7;refine zxe hp7 hq7 he7 Z (zp1 Z (zc 1 (P.below h.below) Z (X0 2 Z (qg Z F ?_ ?_))))<;>intro F
  ·refine X1 5 1 h Z ?_;obtain⟨_,_,F,he8,_,_,_,_,hp8,hq8,hr8,Q⟩:=s4.ix F;obtain rfl:=qaW hr8;refine zxe hp8 hq8 he8 Z (zp1 Z (zc 2 (Q.below h.below) Z ?_));obtain⟨y9,_,F,Y,_,_,_,_,hp9,hq9,rfl,R⟩:=(h.sl 0 Z).1.ix F;refine zx hp9 hq9 ⟨Y.1,qD Y.2.1 (h.sl 0 Z).2⟩ Z (zc 0 R Z (zp1 Z ?_));obtain⟨_,a7,F,g,_,_,_,_,k,l,rfl,S⟩:=(h.sl 0 Z).1.ix F;exact zx k l ⟨g.1,qD g.2.1 (h.sl 0 Z).2⟩ Z (qav qa 0 0 (W64 (y9+1)) h Z a7 k l Z S Z Z Z Z Z Z Z fun _ h=>X0 7 Z (rK ⟨_,_,F,rfl,h⟩ Z))
  exact X0 7 Z (rK ⟨_,_,F,rfl,h⟩ Z)
 refine qr Z ?_;obtain rfl:=qb F;replace F:=hK4;refine X0 5 Z ?_;obtain⟨o5,F,J⟩:=qc F;refine qm ?_;replace h:=h.p [0] Z;refine rL (fun m e w'=>∃i5,qe1 d x7 m i5=V o5/\e=[(9,oS c d.length d.length),(13,vi i5)]/\SH w w' [oW S9 (x7:List Int) [oS c d.length d.length]]) n ⟨_,F,rfl,h⟩ Z ?_;rintro m5 _ _ ⟨i5,F,rfl,h⟩;rcases m5 with _|m5
 ·cases F
 refine X0 8 Z (qg Z F ?_ ?_)<;>intro F
 ·refine X0 7 Z ?_;obtain⟨_,_,F,i,_,_,_,_,a3,a5,rfl,T⟩:=(h.sl 0 Z).1.ix F;refine zx a3 a5 ⟨i.1,qD i.2.1 (h.sl 0 Z).2⟩ Z (zc 0 T Z (X0 2 Z (qg Z F ?_ ?_)))<;>intro F
  ·refine X0 4 Z ?_;obtain rfl:=qb F;replace F:=J;exact rb h F Z
  exact X0 7 Z (rK ⟨_,F,rfl,h⟩ Z)
 refine qr Z ?_;obtain rfl:=qb F;replace F:=J;exact X0 4 Z (rb h F Z)
def qgl(a:qE):Nat->Int->Option (Flow Bool Int)|0,_=>U|n+1,b=>bif decide (b<(a.Bn.length:Int)) then(idx a.Bn b).bind fun d=>(qal n d 0 (W64 ((a.Ar.length:Int)-1))).bind fun c=>bif (!c) then V (.ret false) else qgl a n (W64 (b+1)) else V (.nxt b)
def qcZ(a:qE):Nat->Int->Option (Flow Bool Int)|0,_=>U|n+1,i1=>bif decide (i1<(a.Ar.length:Int)) then((idx a.Bu i1).bind fun k=>(qal n k 0 500).bind fun d=>bif (!d) then V true else(idx a.Bz i1).bind fun l=>(qal n l 0 1000).bind fun r4=>V (!r4)).bind fun b2=>bif b2 then V (.ret false) else bif (i1==0) then(idx a.Ar i1).bind fun f=>bif (f != (-1)) then V (.ret false) else(idx a.Bz i1).bind fun g=>bif (g != 0) then V (.ret false) else bif decide (i1 > 0) then(idx a.Ar i1).bind fun h=>(qal n h 0 (W64 (i1-1))).bind fun b=>bif (!b) then V (.ret false) else qcZ a n (W64 (i1+1)) else qcZ a n (W64 (i1+1)) else bif decide (i1 > 0) then(idx a.Ar i1).bind fun i=>(qal n i 0 (W64 (i1-1))).bind fun c=>bif (!c) then V (.ret false) else qcZ a n (W64 (i1+1)) else qcZ a n (W64 (i1+1)) else V (.nxt i1)
def qmy(n:Nat)(a:qE)(b:Int):Option Bool:=(bif decide ((a.Ar.length:Int)<1) then V true else bif decide ((a.Ar.length:Int) > 8) then V true else bif ((a.Bz.length:Int) != (a.Ar.length:Int)) then V true else bif ((a.Bu.length:Int) != (a.Ar.length:Int)) then V true else V ((a.Bn.length:Int) != b)).bind fun b1=>bif b1 then V false else(qcZ a n 0).bind fun|.ret r=>V r|.nxt _=>(qgl a n 0).bind fun|.ret r=>V r|.nxt _=>V true
theorem qs7{a:qE}{f}(H:Ro w a cs1){r:Bool}(F:qmy n a f=V r):RetV prog 271 [oV qE cs1,vi f] w r:=by
 obtain⟨y,u,z,v,A,k3,B,x,rfl,s1,s2,s3,s4⟩:=qaR H;refine zV 108 func271 Z fun h=>zSR (qx h Z Z fun _ b h=>X1 11 0 h Z ?_);obtain⟨D,l,_,F,d⟩:=bindE F;refine qaV (fun e w'=>∃b1,D b1=V r/\e=[(2,vp b),(5,vi (a.Ar.length:Int)),(37,.bool b1)]/\SH w w' [oX b (qho a y z A B u v k3 x) 183]) ?_ ?_
 ·refine X0 4 Z (qn (t:=13) F Z ?_ ?_)<;>intro F
  ·refine X0 25 Z ?_;obtain rfl:=qb F;exact rG ⟨_,d,rfl,h⟩ Z
  refine X0 6 Z (qn (t:=17) F Z ?_ ?_)<;>intro F
  ·refine X0 21 Z ?_;obtain rfl:=qb F;exact rG ⟨_,d,rfl,h⟩ Z
  refine X1 12 0 h Z (qn (t:=24) F Z ?_ ?_)<;>intro F
  ·refine X0 14 Z ?_;obtain rfl:=qb F;exact rG ⟨_,d,rfl,h⟩ Z
  refine X1 12 0 h Z (qn (t:=31) F Z ?_ ?_)<;>intro F
  ·refine X0 7 Z ?_;obtain rfl:=qb F;exact rG ⟨_,d,rfl,h⟩ Z
  refine X1 12 0 h Z ?_;obtain rfl:=qb F;exact rG ⟨_,d,rfl,h⟩ Z
 rintro _ _ ⟨b1,F,rfl,h⟩;subst l;refine qg Z F ?_ ?_<;>intro F
 ·exact X0 4 Z (rb h F Z)
 refine X0 6 Z ?_;obtain⟨o1,F,c⟩:=qc F;refine qm (rL (fun m e w'=>∃i1,qcZ a m i1=V o1/\e=[(2,vp b),(5,vi (a.Ar.length:Int)),(6,vi i1)]/\SH w w' [oX b (qho a y z A B u v k3 x) 183]) n ⟨_,F,rfl,h⟩ Z ?_);rintro m1 _ _ ⟨i1,F,rfl,h⟩;rcases m1 with _|m1
 ·cases F
 refine X0 7 Z (qg Z F ?_ ?_)<;>intro F
 ·refine X0 5 Z ?_;obtain⟨C,k,_,F,g⟩:=bindE F;refine qaV (fun e w'=>∃b2,C b2=V o1/\e=[(2,vp b),(5,vi (a.Ar.length:Int)),(6,vi i1),(58,.bool b2)]/\SH w w' [oX b (qho a y z A B u v k3 x) 183]) ?_ ?_
  ·refine X1 4 0 h Z ?_;obtain⟨_,_,F,Q,_,_,_,_,a3,b4,rfl,o⟩:=s3.ix F;refine zxe a3 b4 Q Z (zc 0 (o.below h.below) Z (zcB h F qaa Z fun _ _ h F=>zp2 Z (qn (t:=50) F Z ?_ ?_)))<;>intro F
   ·refine X0 9 Z ?_;obtain rfl:=qb F;exact rG ⟨_,g,rfl,h⟩ Z
   refine X1 7 0 h Z ?_;obtain⟨_,_,F,R,_,_,_,_,a4,b5,rfl,p⟩:=s2.ix F;refine zxe a4 b5 R Z (X0 1 Z (zc 0 (p.below h.below) Z (X0 1 Z (zcB h F qaa Z fun _ _ h F=>X0 4 Z ?_))));obtain rfl:=qb F;exact rG ⟨_,g,rfl,h⟩ Z
  rintro _ _ ⟨b2,F,rfl,h⟩;subst k;refine qg Z F ?_ ?_<;>intro F
  ·refine X0 4 Z ?_;obtain rfl:=qb F;replace F:=c;exact rb h F Z
  refine X0 6 Z (qn (t:=61) F Z ?_ ?_)<;>intro F
  ·refine X1 7 0 h Z ?_;obtain⟨_,_,F,M,_,_,_,_,T,a6,rfl,I⟩:=s1.ix F;refine zxe T a6 M Z (X0 1 Z (zc 0 (I.below h.below) Z (X0 4 Z (qn (t:=68) F Z ?_ ?_))))<;>intro F
   ·refine X0 25 Z (qcq Z Z (X0 4 Z ?_));obtain rfl:=qb F;replace F:=c;exact rb h F Z
   refine X1 7 0 h Z ?_;obtain⟨_,_,F,N,_,_,_,_,W,a7,rfl,J⟩:=s2.ix F;refine zxe W a7 N Z (X0 1 Z (zc 0 (J.below h.below) Z (X0 6 Z (qn (t:=77) F Z ?_ ?_))))<;>intro F
   ·refine X0 15 Z (qcq Z Z (X0 4 Z ?_));obtain rfl:=qb F;replace F:=c;exact rb h F Z
   refine X0 6 Z (qn (t:=80) F Z ?_ ?_)<;>intro F
   ·refine X1 7 0 h Z ?_;obtain⟨_,_,F,O,_,_,_,_,X,a8,rfl,K⟩:=s1.ix F;refine zxe X a8 O Z (X0 1 Z (zc 0 (K.below h.below) Z (X0 5 Z (zcB h F qaa Z fun _ _ h F=>X0 6 Z (qg Z F ?_ ?_)))))<;>intro F
    ·refine X0 4 Z ?_;obtain rfl:=qb F;replace F:=c;exact rb h F Z
    exact X0 7 Z (rK ⟨_,F,rfl,h⟩ Z)
   exact X0 13 Z (qch Z Z (X0 7 Z (rK ⟨_,F,rfl,h⟩ Z)))
  refine X0 22 Z (qn (t:=80) F Z ?_ ?_)<;>intro F
  ·refine X1 7 0 h Z ?_;obtain⟨_,_,F,P,_,_,_,_,Y,a9,rfl,L⟩:=s1.ix F;refine zxe Y a9 P Z (X0 1 Z (zc 0 (L.below h.below) Z (X0 5 Z (zcB h F qaa Z fun _ _ h F=>X0 6 Z (qg Z F ?_ ?_)))))<;>intro F
   ·refine X0 4 Z ?_;obtain rfl:=qb F;replace F:=c;exact rb h F Z
   exact X0 7 Z (rK ⟨_,F,rfl,h⟩ Z)
  exact X0 13 Z (qch Z Z (X0 7 Z (rK ⟨_,F,rfl,h⟩ Z)))
 refine qr Z ?_;obtain rfl:=qb F;replace F:=c;refine X0 5 Z ?_;obtain⟨o3,F,i⟩:=qc F;refine qm (rL (fun m e w'=>∃i2,qgl a m i2=V o3/\e=[(2,vp b),(5,vi (a.Ar.length:Int)),(7,vi i2)]/\SH w w' [oX b (qho a y z A B u v k3 x) 183]) n ⟨_,F,rfl,h⟩ Z ?_);rintro m2 _ _ ⟨i2,F,rfl,h⟩;rcases m2 with _|m2
 ·cases F
 refine X1 9 0 h Z (qg Z F ?_ ?_)<;>intro F
 ·refine X1 8 0 h Z ?_;obtain⟨_,_,F,S,_,_,_,_,a5,b6,rfl,s⟩:=s4.ix F;refine zxe a5 b6 S Z (zc 0 (s.below h.below) Z (zp2 Z (zcB h F qaa Z fun _ _ h F=>X0 2 Z (qg Z F ?_ ?_))))<;>intro F
  ·refine X0 4 Z ?_;obtain rfl:=qb F;replace F:=i;exact rb h F Z
  exact X0 7 Z (rK ⟨_,F,rfl,h⟩ Z)
 refine qr Z ?_;obtain rfl:=qb F;replace F:=i;exact X0 4 Z (rb h F Z)
def qft(b:qj):Nat->Int->Option (Flow Bool Int)|0,_=>U|n+1,i1=>bif decide (i1<(b.Ah.length:Int)) then(idx b.Ah i1).bind fun d=>(qg8 n (⟨b.Aa.Ab,b.Aa.Am,b.Aa.Aj⟩:qd) i1).bind fun a=>(qmy n d (a.length:Int)).bind fun c=>bif (!c) then V (.ret false) else qft b n (W64 (i1+1)) else V (.nxt i1)
def qh5(n:Nat)(b:qj):Option Bool:=((qj9 n (⟨b.Av.As⟩:qq) (⟨b.Aa.Ab,b.Aa.Am,b.Aa.Aj⟩:qd)).bind fun a=>bif (!a) then V true else V ((b.Ah.length:Int) != (b.Aa.Am.length:Int))).bind fun b1=>bif b1 then V false else(qft b n 0).bind fun|.ret r=>V r|.nxt _=>V true
theorem qn7{b:qj}(i:Ro w b cs1){r:Bool}(F:qh5 n b=V r):RetV prog 231 [oV qj cs1] w r:=by
 obtain⟨A,u,B,v,C,k3,D,x,H,y,rfl,L,s2,I,J,M⟩:=qaf i;refine zV 39 func231 Z fun h=>zSR (qx h Z Z fun _ a h=>X0 4 Z ?_);obtain⟨g,f,_,F,d⟩:=bindE F;refine qaV (fun e w'=>∃b1,g b1=V r/\e=[(1,vp a),(19,.bool b1)]/\SH w w' [oX a (qa5 b A B C D H u v k3 x y) 53]) ?_ ?_
 ·refine X2 5 0 0 h Z (zcB h F (qq6 (qeH _ (h.oldS L)) (qay _ (h.oldS s2) (h.oldS I) (h.oldS J))) Z fun _ _ h F=>zp2 Z (qn (t:=10) F Z ?_ ?_))<;>intro F
  ·refine X0 10 Z ?_;obtain rfl:=qb F;exact rG ⟨_,d,rfl,h⟩ Z
  refine X2 18 0 0 h Z ?_;obtain rfl:=qb F;exact rG ⟨_,d,rfl,h⟩ Z
 rintro _ _ ⟨b1,F,rfl,h⟩;subst f;refine qg Z F ?_ ?_<;>intro F
 ·exact X0 4 Z (rb h F Z)
 refine X0 6 Z ?_;obtain⟨K,F,c⟩:=qc F;refine qm (rL (fun m e w'=>∃i1,qft b m i1=V K/\e=[(1,vp a),(3,vi i1)]/\SH w w' [oX a (qa5 b A B C D H u v k3 x y) 53]) n ⟨_,F,rfl,h⟩ Z ?_);rintro z _ _ ⟨i1,F,rfl,h⟩;rcases z with _|z
 ·cases F
 refine X1 9 0 h Z (qg Z F ?_ ?_)<;>intro F
 ·refine X0 4 Z (rA [] [0] h Z fun _ h=>M1 7 [0,1,2] 0 (h.p [0] Z) Z ?_);obtain⟨R,_,F,l,_,_,_,_,o,p,s,k⟩:=M.ix F;obtain⟨_,_,_,_,_,_,_,_,rfl,N,O,P,Q⟩:=qaR s;refine Ae 3 15 o p l (h.p [0] Z) Z (Al 4 31 0 k (h.p [0] Z) Z (M1 255 [5,6,7] 0 (h.p [0] Z) Z (Ao 8 511 Z (zcL h F (qj8 (qay _ (h.oldS s2) (h.oldS I) (h.oldS J))) Z fun _ _ _ _ _ h F=>G0 1023 [9] (h.p [1] Z) Z (Ao 10 2047 Z (zcB h F (qs7 (qlv R (h.oldS N) (h.oldS O) (h.oldS P) (h.oldS Q))) Z fun _ _ h F=>G0 4095 [11] (h.p [1] Z) Z (Ad (qg Z F ?_ ?_))))))))<;>intro F
  ·refine X0 4 Z ?_;obtain rfl:=qb F;replace F:=c;exact rb h F Z
  refine X0 7 Z ?_;replace h:=h.p [1] Z;exact rK ⟨_,F,rfl,h⟩ Z
 refine qr Z ?_;obtain rfl:=qb F;replace F:=c;exact X0 4 Z (rb h F Z)
def qaS(_:Nat)(x:Int)(b:Int)(a:Int):Option Bool:=bif decide (x>=b) then V (decide (x<=a)) else V false
theorem qaE{x low high}  {r:Bool}(F:qaS n x low high=V r):RetV prog 46 [vi x,vi low,vi high] w r:=by
 refine zV 15 func46 Z fun h=>X0 10 Z (qn (t:=10) F Z ?_ ?_)<;>intro F
 ·exact X0 9 Z (rb h F Z)
 exact X0 6 Z (rb h F Z)
def qjJ(_:Nat)(s cutset:ByteArray):Option ByteArray:=if s.size<=9223372036854775807/\cutset.size<4294967281/\cutset.data.toList.all (fun b=>decide (b.toNat<128))=true then V ⟨(Lib.trimS s.data.toList cutset.data.toList).toArray⟩ else U
theorem qrS{s cutset}{r:ByteArray}(F:qjJ n s cutset=V r):RetV prog 257 [.string s,.string cutset] w r:=by
 unfold qjJ at F;split at F
 ·rename_i hh
  obtain rfl:=qb F;refine(Tryz.strings_Trim_any s cutset w hh.1 hh.2.1 hh.2.2).mono ?_;rintro e w' ⟨rfl,a⟩;exact⟨_,rfl,a,[.string _],rfl,qwZ _ _⟩
 cases F
def qhr(_:Nat)(s:ByteArray)(c:(IntK .u8)):Option Int:=V (Lib.indexByte s.data.toList c.val.toNat.toUInt8)
theorem qoy{s}{c:(IntK .u8)}{r:Int}(F:qhr n s c=V r):RetV prog 258 [.string s,.int .u8 c.val] w r:=by
 obtain rfl:=qb F;refine(Tryz.strings_IndexByte s c.val w).mono ?_;rintro e w' ⟨rfl,rfl⟩;exact⟨_,rfl,Below.refl _ _,[vi _],rfl,qAm _ _⟩
def qi3(n:Nat)(s:ByteArray):Option Bool:=(qaS n (s.size:Int) 1 8).bind fun a=>bif a then(qjJ n s (⟨#[97,98,99,100,101,102,103,104,105,106,107,108,109,110,111,112,113,114,115,116,117,118,119,120,121,122,48,49,50,51,52,53,54,55,56,57]⟩:ByteArray)).bind fun b=>bif (b.toList==(⟨#[]⟩:ByteArray).toList) then(atS s 0).bind fun d=>(qhr n (⟨#[97,98,99,100,101,102,103,104,105,106,107,108,109,110,111,112,113,114,115,116,117,118,119,120,121,122]⟩:ByteArray) (⟨d⟩:IntK .u8)).bind fun c=>V (decide (c>=0)) else V false else V false
theorem qlZ{s}  {r:Bool}(F:qi3 n s=V r):RetV prog 205 [.string s] w r:=by
 refine zV 17 func205 Z fun h=>X0 8 Z (zcB h F qaE Z fun _ _ h F=>zp1 Z (qn (t:=6) F Z ?_ ?_))<;>intro F
 ·refine X0 3 Z (zcS h F qrS Z fun _ _ h F=>X0 4 Z (qn (t:=11) F Z ?_ ?_))<;>intro F
  ·refine X0 3 Z ?_;obtain⟨_,a,F⟩:=qc F;have b:=qoU a;exact r_v (qoA qa b Z Z Z Z) Z (X0 1 Z (zcI h F qoy Z fun _ _ h F=>X0 5 Z (rb h F Z)))
  exact X0 7 Z (rb h F Z)
 exact X0 12 Z (rb h F Z)
def qci(s:(List ByteArray))(v:ByteArray):Nat->Int->Option (Flow Int Int)|0,_=>U|n+1,i1=>bif decide (i1<(s.length:Int)) then(idx s i1).bind fun a=>bif (v.toList==a.toList) then V (.ret i1) else qci s v n (W64 (i1+1)) else V (.nxt i1)
def qf4(n:Nat)(s:(List ByteArray))(v:ByteArray):Option Int:=(qci s v n 0).bind fun|.ret r=>V r|.nxt _=>V (-1)
theorem qnV{s:(List ByteArray)}{v}(b:Ro w s cs1){r:Int}(F:qf4 n s v=V r):RetV prog 319 [oV (List ByteArray) cs1,.string v] w r:=by
 obtain⟨o,k,rfl,p⟩:=b;refine zV 19 func319 Z fun h=>X0 11 Z ?_;obtain⟨l,F,a⟩:=qc F;refine qm (rL (fun m e w'=>∃i1,qci s v m i1=V l/\e=[(0,oS o s.length k),(1,.string v),(7,vi (s.length:Int)),(8,vi i1)]/\SH w w' []) n ⟨_,F,rfl,h⟩ Z ?_);rintro i _ _ ⟨i1,F,rfl,h⟩;rcases i with _|i
 ·cases F
 refine X0 5 Z (qg Z F ?_ ?_)<;>intro F
 ·refine X0 13 Z ?_;obtain⟨_,_,F,d,_,_,_,_,f,g,rfl,c⟩:=p.ix F;refine zxe f g d Z (zc 0 (c.below h.below) Z (X0 2 Z (qg Z F ?_ ?_)))<;>intro F
  ·refine X0 5 Z ?_;obtain rfl:=qb F;replace F:=a;exact ri h F Z
  exact X0 6 Z (rK ⟨_,F,rfl,h⟩ Z)
 refine qr Z ?_;obtain rfl:=qb F;replace F:=a;exact X0 4 Z (ri h F Z)
def qeD(n:Nat)(s:(List ByteArray))(v:ByteArray):Option Bool:=(qf4 n s v).bind fun a=>V (decide (a>=0))
theorem ql6{s:(List ByteArray)}{v}(a:Ro w s cs1){r:Bool}(F:qeD n s v=V r):RetV prog 303 [oV (List ByteArray) cs1,.string v] w r:=by
 obtain⟨_,_,rfl,b⟩:=a;exact zV 9 func303 Z fun h=>X0 8 Z (zcI h F (qnV ⟨_,_,rfl,(h.oldS b)⟩) Z fun _ _ h F=>X0 3 Z (rb h F Z))
def qe4(list:(List ByteArray)):Nat->Int->Option (Flow Bool Int)|0,_=>U|n+1,i1=>bif decide (i1<(list.length:Int)) then(idx list i1).bind fun a=>(qi3 n a).bind fun b=>bif (!b) then V (.ret false) else(subS list 0 i1).bind fun x1=>(qeD n x1 a).bind fun c=>bif c then V (.ret false) else qe4 list n (W64 (i1+1)) else V (.nxt i1)
def qeM(n:Nat)(list:(List ByteArray)):Option Bool:=(qe4 list n 0).bind fun|.ret r=>V r|.nxt _=>V true
theorem qge{list:(List ByteArray)}(f:Ro w list cs1){r:Bool}(F:qeM n list=V r):RetV prog 280 [oV (List ByteArray) cs1] w r:=by
 obtain⟨v,s,rfl,p⟩:=f;refine zV 23 func280 Z fun h=>X0 11 Z ?_;obtain⟨y,F,a⟩:=qc F;refine qm (rL (fun m e w'=>∃i1,qe4 list m i1=V y/\e=[(0,oS v list.length s),(5,oS v list.length s),(6,vi (list.length:Int)),(7,vi i1)]/\SH w w' []) n ⟨_,F,rfl,h⟩ Z ?_);rintro u _ _ ⟨i1,F,rfl,h⟩;rcases u with _|u
 ·cases F
 refine X0 5 Z (qg Z F ?_ ?_)<;>intro F
 ·refine X0 6 Z ?_;obtain⟨_,_,F,i,_,_,_,_,l,o,rfl,g⟩:=p.ix F;refine zxe l o i Z (zc 0 (g.below h.below) Z (X0 6 Z (zcB h F qlZ Z fun _ _ h F=>zp2 Z (qn (t:=15) F Z ?_ ?_))))<;>intro F
  ·refine X0 7 Z (qcq Z Z (X0 4 Z ?_));obtain rfl:=qb F;replace F:=a;exact rb h F Z
  refine X0 5 Z ?_;obtain⟨_,d,F⟩:=qc F;obtain⟨_,_,c,b,k,x⟩:=qpA (h.oldS p) d;refine r_v (qlT qa Z Z Z (qpF x Z) c b k Z Z Z Z) Z ?_;have s2:=qsG p d c b;refine X0 3 Z (zcB h F (ql6 ⟨_,_,rfl,(h.oldS s2)⟩) Z fun _ _ h F=>X0 2 Z (qg Z F ?_ ?_))<;>intro F
  ·refine X0 4 Z ?_;obtain rfl:=qb F;replace F:=a;exact rb h F Z
  exact X0 6 Z (rK ⟨_,F,rfl,h⟩ Z)
 refine qr Z ?_;obtain rfl:=qb F;replace F:=a;exact X0 4 Z (rb h F Z)
def qcN(_:Nat)(list:(List qan)):Option Int:=V (list.length:Int)
theorem qiZ{list:(List qan)}(a:Ro w list cs1){r:Int}(F:qcN n list=V r):RetV prog 313 [oV (List qan) cs1] w r:=by
 obtain⟨_,_,rfl,_⟩:=a;exact zV 5 func313 Z fun h=>X0 10 Z (ri h F Z)
def qdg(list:(List qan)):Nat->(List ByteArray)->Int->Option (Flow Bool ((List ByteArray)×Int))|0,_,_=>U|n+1,x1,i1=>bif decide (i1<(list.length:Int)) then(idx list i1).bind fun a=>(appS x1 ([a.Bc]:List ByteArray)).bind fun b=>bif (i1==(W64 ((list.length:Int)-1))) then bif (a.Bx != 2) then V (.ret false) else bif (a.Bu != 0) then V (.ret false) else bif a.Bt then V (.ret false) else qdg list n b (W64 (i1+1)) else bif (a.Bx != 1) then V (.ret false) else(qaS n a.Bu 0 500).bind fun c=>bif (!c) then V (.ret false) else qdg list n b (W64 (i1+1)) else V (.nxt (x1,i1))
def qlj(n:Nat)(list:(List qan)):Option Bool:=(qdg list n ([]:List ByteArray) 0).bind fun|.ret r=>V r|.nxt (x1,_)=>(qcN n list).bind fun a=>(qaS n a 2 5).bind fun b=>bif b then(qeM n x1).bind fun r4=>V r4 else V false
theorem qrW{list:(List qan)}(d:Ro w list cs1){r:Bool}(F:qlj n list=V r):RetV prog 300 [oV (List qan) cs1] w r:=by
 obtain⟨v,s,rfl,x⟩:=d;refine zV 52 func300 Z fun h=>X0 15 Z ?_;replace h:=h.nil (α:=ByteArray);obtain⟨z,F,a⟩:=qc F;refine qm (rL (fun m e w'=>∃S1 p c o x1 i1,qdg list m x1 i1=V z/\e=[(0,oS v list.length s),(3,oS p c o),(6,oS v list.length s),(7,vi (list.length:Int)),(8,vi i1)]/\SH w w' [oW S1 (x1:List ByteArray) [oS p c o]]) n ⟨_,_,_,_,_,_,F,rfl,h⟩ Z ?_);rintro u _ _ ⟨S1,p,c,o,x1,i1,F,rfl,h⟩;obtain rfl:=(h.sl 0 Z).2;rcases u with _|u
 ·cases F
 refine X0 5 Z (qg Z F ?_ ?_)<;>intro F
 ·refine X0 6 Z ?_;obtain⟨A,_,F,g,_,_,_,_,i,k,l,f⟩:=x.ix F;obtain rfl:=qa0 l;refine zxe i k g Z (zc 0 (f.below h.below) Z (qp qa h Z Z Z fun _ _ h=>zp1 Z (zs 0 h Z fun _ h=>X1 6 0 h Z (qG qa [.tmp 15] _ ([A.Bc]:List ByteArray) h Z Z Z Z Z Z Z Z Z ⟨rfl,G⟩ Z fun _ _ _ h=>?_))));obtain⟨_,b,F⟩:=qc F;obtain⟨y,b⟩:=qN b;refine qbW qa 2 h Z (h.sl 0 Z).1 (h.sl 0 Z).2 Z Z Z Z Z Z Z Z Z y b Z fun _ _ _ _ h=>X0 10 Z (qg Z F ?_ ?_)<;>intro F
  ·refine X1 6 1 h Z (qn (t:=26) F Z ?_ ?_)<;>intro F
   ·refine X0 9 Z (qcq Z Z (X0 4 Z ?_));obtain rfl:=qb F;replace F:=a;exact rb h F Z
   refine X1 8 1 h Z (qn (t:=31) F Z ?_ ?_)<;>intro F
   ·refine X0 4 Z (qcq Z Z (X0 4 Z ?_));obtain rfl:=qb F;replace F:=a;exact rb h F Z
   refine X1 6 1 h Z (qg Z F ?_ ?_)<;>intro F
   ·refine X0 4 Z ?_;obtain rfl:=qb F;replace F:=a;exact rb h F Z
   refine X0 6 Z ?_;replace h:=h.p [2] Z;exact rK ⟨_,_,_,_,_,_,F,rfl,h⟩ Z
  refine X1 6 1 h Z (qn (t:=38) F Z ?_ ?_)<;>intro F
  ·refine X0 6 Z (qcq Z Z (X0 4 Z ?_));obtain rfl:=qb F;replace F:=a;exact rb h F Z
  refine X1 5 1 h Z (zcB h F qaE Z fun _ _ h F=>X0 4 Z (qg Z F ?_ ?_))<;>intro F
  ·refine X0 4 Z ?_;obtain rfl:=qb F;replace F:=a;exact rb h F Z
  refine X0 6 Z ?_;replace h:=h.p [2] Z;exact rK ⟨_,_,_,_,_,_,F,rfl,h⟩ Z
 refine qr Z ?_;obtain rfl:=qb F;replace F:=a;refine X0 3 Z (zcI h F (qiZ ⟨_,_,rfl,(h.oldS x)⟩) Z fun _ _ h F=>zcB h F qaE Z fun _ _ h F=>zp1 Z (qn (t:=48) F Z ?_ ?_))<;>intro F
 ·exact X0 3 Z (zcB h F (qge (h.own 0 Z)) Z fun _ _ h F=>X0 3 Z (rb h F Z))
 exact X0 5 Z (rb h F Z)
def qe7(n:Nat)(c:qB):Option Int:=(qcN n c.Bg).bind fun a=>V (W64 (a-1))
theorem qik{c:qB}(a:Ro w c cs1){r:Int}(F:qe7 n c=V r):RetV prog 317 [oV qB cs1] w r:=by
 obtain⟨_,_,_,_,_,_,rfl,b,_,_⟩:=qag a;exact zV 7 func317 Z fun h=>zSR (qx h Z Z fun _ _ h=>X1 6 0 h Z (zcI h F (qiZ ⟨_,_,rfl,(h.oldS b)⟩) Z fun _ _ h F=>X0 3 Z (ri h F Z)))
def qk7(_:Nat)(kind:Int):Option Bool:=bif (kind==4) then V true else V (kind==5)
theorem qr3{kind}  {r:Bool}(F:qk7 n kind=V r):RetV prog 326 [vi kind] w r:=by
 refine zV 9 func326 Z fun h=>X0 9 Z (qn (t:=5) F Z ?_ ?_)<;>intro F
 ·exact X0 5 Z (rb h F Z)
 exact X0 7 Z (rb h F Z)
def qh1(n:Nat)(d:Int)(b:Int)(c:Int):Option Bool:=(qaS n d b c).bind fun a=>V (!a)
theorem qpm{a_n l m i}(a:Ro w (V l) [.pointer i]){k}(b:Ro w (V m) [.pointer k]){r:Bool}(F:qh1 n a_n l m=V r):RetV prog 111 [vi a_n,.pointer i,.pointer k] w r:=by
 obtain⟨_,o,_,rfl,-,f,c⟩:=PtR.get a Z;obtain rfl:=f;obtain⟨_,p,_,rfl,-,g,d⟩:=PtR.get b Z;obtain rfl:=g;exact zV 10 func111 Z fun h=>X0 7 Z (zc 0 (c.below h.below) Z (zc 0 (d.below h.below) Z (zcB h F qaE Z fun _ _ h F=>X0 3 Z (rb h F Z))))
def qai(s:(List Int))(a:Int)(b:Int):Nat->Int->Option (Flow Int Int)|0,_=>U|n+1,i1=>bif decide (i1<(s.length:Int)) then(idx s i1).bind fun d=>(qh1 n d a b).bind fun c=>bif c then V (.ret i1) else qai s a b n (W64 (i1+1)) else V (.nxt i1)
def qa6(n:Nat)(s:(List Int))(a:Int)(b:Int):Option Int:=(qai s a b n 0).bind fun|.ret r=>V r|.nxt _=>V (-1)
theorem qgI{s:(List Int)}{a b}(g:Ro w s cs1){y}(d:Ro w (V a) [.pointer y]){z}(f:Ro w (V b) [.pointer z]){r:Int}(F:qa6 n s a b=V r):RetV prog 164 [oV (List Int) cs1,.func (.func 111) #[] #[.pointer y,.pointer z]] w r:=by
 obtain⟨C,A,rfl,D⟩:=g;obtain⟨b1,u,_,rfl,-,p,_⟩:=PtR.get d Z;obtain rfl:=p;obtain⟨b2,v,_,rfl,-,t,_⟩:=PtR.get f Z;obtain rfl:=t;refine zV 19 func164 Z fun h=>X0 11 Z ?_;obtain⟨B,F,c⟩:=qc F;refine qm (rL (fun m e w'=>∃i1,qai s a b m i1=V B/\e=[(0,oS C s.length A),(1,.func (.func 111) #[] #[.pointer (V ⟨b1,u,U⟩),.pointer (V ⟨b2,v,U⟩)]),(7,vi (s.length:Int)),(8,vi i1)]/\SH w w' []) n ⟨_,F,rfl,h⟩ Z ?_);rintro x _ _ ⟨i1,F,rfl,h⟩;rcases x with _|x
 ·cases F
 refine X0 5 Z (qg Z F ?_ ?_)<;>intro F
 ·refine X0 13 Z ?_;obtain⟨_,_,F,k,_,_,_,_,l,o,rfl,i⟩:=D.ix F;refine zxe l o k Z (zc 0 (i.below h.below) Z (zcB h F (qpm (h.old d) (h.old f)) Z fun _ _ h F=>qak (qg Z F ?_ ?_)))<;>intro F
  ·refine X0 5 Z ?_;obtain rfl:=qb F;replace F:=c;exact ri h F Z
  exact X0 6 Z (rK ⟨_,F,rfl,h⟩ Z)
 refine qr Z ?_;obtain rfl:=qb F;replace F:=c;exact X0 4 Z (ri h F Z)
def qbG(n:Nat)(s:(List Int))(a:Int)(b:Int):Option Bool:=(qa6 n s a b).bind fun c=>V (decide (c>=0))
theorem qf0{s:(List Int)}{a b}(f:Ro w s cs1){k}(c:Ro w (V a) [.pointer k]){l}(d:Ro w (V b) [.pointer l]){r:Bool}(F:qbG n s a b=V r):RetV prog 110 [oV (List Int) cs1,.func (.func 111) #[] #[.pointer k,.pointer l]] w r:=by
 obtain⟨_,_,rfl,p⟩:=f;obtain⟨_,m,_,rfl,-,g,_⟩:=PtR.get c Z;obtain rfl:=g;obtain⟨_,o,_,rfl,-,i,_⟩:=PtR.get d Z;obtain rfl:=i;exact zV 9 func110 Z fun h=>X0 8 Z (zcI h F (qgI ⟨_,_,rfl,(h.oldS p)⟩ (h.old c) (h.old d)) Z fun _ _ h F=>X0 3 Z (rb h F Z))
def qb9(n:Nat)(list:(List Int))(c:Int)(b:Int):Option Bool:=(qbG n list c b).bind fun a=>V (!a)
theorem qcs{list:(List Int)}{low high}(a:Ro w list cs1){r:Bool}(F:qb9 n list low high=V r):RetV prog 67 [oV (List Int) cs1,vi low,vi high] w r:=by
 obtain⟨_,_,rfl,b⟩:=a;exact zV 11 func67 Z fun h=>zSR (qx h Z Z fun _ _ h=>qx h Z Z fun _ _ h=>X0 6 Z (zcB h F (qf0 ⟨_,_,rfl,(h.oldS b)⟩ (qiu (x:=low) 1 h Z Z) (qiu (x:=high) 0 h Z Z)) Z fun _ _ h F=>X0 3 Z (rb h F Z)))
def qbA(_:Nat)(list:(List Int)):Option Int:=V (list.length:Int)
theorem qcK{list:(List Int)}(a:Ro w list cs1){r:Int}(F:qbA n list=V r):RetV prog 208 [oV (List Int) cs1] w r:=by
 obtain⟨_,_,rfl,_⟩:=a;exact zV 5 func208 Z fun h=>X0 10 Z (ri h F Z)
def qbE(list:(List Int)):Nat->Int->Option (Flow Bool Int)|0,_=>U|n+1,i1=>bif decide (i1<(list.length:Int)) then(idx list (W64 (i1-1))).bind fun a=>(idx list i1).bind fun b=>bif decide (a>=b) then V (.ret false) else qbE list n (W64 (i1+1)) else V (.nxt i1)
def qfK(n:Nat)(list:(List Int)):Option Bool:=(qbE list n 1).bind fun|.ret r=>V r|.nxt _=>V true
theorem qkC{list:(List Int)}(b:Ro w list cs1){r:Bool}(F:qfK n list=V r):RetV prog 215 [oV (List Int) cs1] w r:=by
 obtain⟨v,t,rfl,s⟩:=b;refine zV 20 func215 Z fun h=>X0 9 Z ?_;obtain⟨u,F,a⟩:=qc F;refine qm (rL (fun m e w'=>∃i1,qbE list m i1=V u/\e=[(0,oS v list.length t),(3,vi i1)]/\SH w w' []) n ⟨_,F,rfl,h⟩ Z ?_);rintro p _ _ ⟨i1,F,rfl,h⟩;rcases p with _|p
 ·cases F
 refine X0 8 Z (qg Z F ?_ ?_)<;>intro F
 ·refine X0 4 Z (rD (zd3 Z ?_));obtain⟨_,_,F,f,_,_,_,_,i,l,rfl,c⟩:=s.ix F;refine zdxe i l f Z (zdc 0 (c.below h.below) Z (zd2 Z ?_));obtain⟨_,_,F,g,_,_,_,_,k,o,rfl,d⟩:=s.ix F;refine zdxe k o g Z (zdc 0 (d.below h.below) Z (zd1 Z (dN h fun _ h=>qg Z F ?_ ?_)))<;>intro F
  ·refine X0 4 Z ?_;obtain rfl:=qb F;replace F:=a;exact rb h F Z
  exact X0 7 Z (rK ⟨_,F,rfl,h⟩ Z)
 refine qr Z ?_;obtain rfl:=qb F;replace F:=a;exact X0 4 Z (rb h F Z)
def qkF(n:Nat)(list:(List Int)):Option Bool:=(qbA n list).bind fun a=>(qaS n a 1 4).bind fun b=>bif b then(qb9 n list 0 100000).bind fun c=>bif c then(qfK n list).bind fun r4=>V r4 else V false else V false
theorem qoD{list:(List Int)}(a:Ro w list cs1){r:Bool}(F:qkF n list=V r):RetV prog 344 [oV (List Int) cs1] w r:=by
 obtain⟨_,_,rfl,b⟩:=a;refine zV 14 func344 Z fun h=>X0 7 Z (zcI h F (qcK ⟨_,_,rfl,(h.oldS b)⟩) Z fun _ _ h F=>zcB h F qaE Z fun _ _ h F=>zp1 Z (qn (t:=6) F Z ?_ ?_))<;>intro F
 ·refine X0 3 Z (zcB h F (qcs ⟨_,_,rfl,(h.oldS b)⟩) Z fun _ _ h F=>zp2 Z (qn (t:=10) F Z ?_ ?_))<;>intro F
  ·exact X0 3 Z (zcB h F (qkC ⟨_,_,rfl,(h.oldS b)⟩) Z fun _ _ h F=>X0 3 Z (rb h F Z))
  exact X0 5 Z (rb h F Z)
 exact X0 9 Z (rb h F Z)
def qll(n:Nat)(t:qv):Option Bool:=(qkF n t.Bo).bind fun a=>bif a then(qkF n t.Bk).bind fun b=>bif b then bif ((t.Bj.length:Int)==(W64 ((t.Bo.length:Int)*(t.Bk.length:Int)))) then(qb9 n t.Bj (-1000000) 1000000).bind fun c=>V c else V false else V false else V false
theorem qr7{t:qv}(a:Ro w t cs1){r:Bool}(F:qll n t=V r):RetV prog 338 [oV qv cs1] w r:=by
 obtain⟨_,_,_,_,_,_,rfl,b,s2,c⟩:=qaJ a;refine zV 29 func338 Z fun h=>zSR (qx h Z Z fun _ _ h=>X1 6 0 h Z (zcB h F (qoD ⟨_,_,rfl,(h.oldS b)⟩) Z fun _ _ h F=>zp1 Z (qn (t:=6) F Z ?_ ?_)))<;>intro F
 ·refine X1 5 0 h Z (zcB h F (qoD ⟨_,_,rfl,(h.oldS s2)⟩) Z fun _ _ h F=>zp2 Z (qn (t:=11) F Z ?_ ?_))<;>intro F
  ·refine X3 24 0 0 0 h Z (qn (t:=24) F Z ?_ ?_)<;>intro F
   ·exact X1 5 0 h Z (zcB h F (qcs ⟨_,_,rfl,(h.oldS c)⟩) Z fun _ _ h F=>X0 3 Z (rb h F Z))
   exact X0 6 Z (rb h F Z)
  exact X0 19 Z (rb h F Z)
 exact X0 24 Z (rb h F Z)
def qdb(x:(List Int)):Nat->Int->Int->Option (Int×Int)|0,_,_=>U|n+1,i1,a=>bif decide (a<(x.length:Int)) then(idx x a).bind fun b=>qdb x n (if b<i1 then b else i1) (W64 (a+1)) else V (i1,a)
def qic(n:Nat)(x:(List Int)):Option Int:=(bif decide ((x.length:Int)<1) then U else V ()).bind fun _=>(idx x 0).bind fun a=>(qdb x n a 1).bind fun(i1,_)=>V i1
theorem qpj{x:(List Int)}(f:Ro w x cs1){r:Int}(F:qic n x=V r):RetV prog 339 [oV (List Int) cs1] w r:=by
 obtain⟨z,v,rfl,A⟩:=f;refine zV 25 func339 Z fun h=>X0 11 Z ?_;obtain⟨b,a,_,F,d⟩:=bindE F;refine qaV (fun e w'=>b ()=V r/\e=[(0,oS z x.length v)]/\SH w w' []) ?_ ?_
 ·refine qg Z F ?_ ?_<;>intro F
  ·refine qQ ?_;cases F
  refine qcJ ?_;obtain rfl:=qb F;exact rG ⟨d,rfl,h⟩ Z
 rintro _ _ ⟨F,rfl,h⟩;subst a;refine X0 3 Z ?_;obtain⟨_,_,F,k,_,_,_,_,o,s,rfl,g⟩:=A.ix F;refine zxe o s k Z (zc 0 (g.below h.below) Z (X0 7 Z ?_));obtain⟨B,F,c⟩:=qc F;refine qm (rL (fun m e w'=>∃i1 u,qdb x m i1 u=V B/\e=[(0,oS z x.length v),(3,vi i1),(4,vi u)]/\SH w w' []) n ⟨_,_,F,rfl,h⟩ Z ?_);rintro y _ _ ⟨i1,u,F,rfl,h⟩;rcases y with _|y
 ·cases F
 refine X0 8 Z (qg Z F ?_ ?_)<;>intro F
 ·refine X0 7 Z ?_;obtain⟨_,_,F,l,_,_,_,_,p,t,rfl,i⟩:=A.ix F;exact zxe p t l Z (zc 0 (i.below h.below) Z (X0 9 Z (rK ⟨_,_,F,rfl,h⟩ Z)))
 refine qr Z ?_;obtain rfl:=qb F;replace F:=c;exact X0 5 Z (ri h F Z)
def qhZ(n:Nat)(t:qv)(c:Bool):Option Bool:=(qll n t).bind fun a=>bif (!a) then V true else bif c then(qic n t.Bj).bind fun b=>V (decide (b<0)) else V false
theorem qpr{t:qv}{g}(a:Ro w t cs1){f}(b:Ro w (V g) [.pointer f]){r:Bool}(F:qhZ n t g=V r):RetV prog 337 [oV qv cs1,.pointer f] w r:=by
 obtain⟨_,_,_,_,_,_,rfl,_,_,k⟩:=qaJ a;obtain⟨_,i,_,rfl,-,d,c⟩:=PtR.get b Z;obtain rfl:=d;refine zV 16 func337 Z fun h=>zSR (qx h Z Z fun _ _ h=>X1 5 0 h Z (zcB h F (qr7 (h.old a)) Z fun _ _ h F=>zp2 Z (qn (t:=7) F Z ?_ ?_)))<;>intro F
 ·exact X0 10 Z (rb h F Z)
 refine X0 1 Z (zc 0 (c.below h.below) Z (X0 2 Z (qn (t:=9) F Z ?_ ?_)))<;>intro F
 ·exact X1 5 0 h Z (zcI h F (qpj ⟨_,_,rfl,(h.oldS k)⟩) Z fun _ _ h F=>X0 7 Z (rb h F Z))
 exact X0 9 Z (rb h F Z)
def qY(s:(List qv))(a:Bool):Nat->Int->Option (Flow Int Int)|0,_=>U|n+1,i1=>bif decide (i1<(s.length:Int)) then(idx s i1).bind fun c=>(qhZ n c a).bind fun b=>bif b then V (.ret i1) else qY s a n (W64 (i1+1)) else V (.nxt i1)
def qaM(n:Nat)(s:(List qv))(a:Bool):Option Int:=(qY s a n 0).bind fun|.ret r=>V r|.nxt _=>V (-1)
theorem qfQ{s:(List qv)}{a}(d:Ro w s cs1){u}(c:Ro w (V a) [.pointer u]){r:Int}(F:qaM n s a=V r):RetV prog 343 [oV (List qv) cs1,.func (.func 337) #[] #[.pointer u]] w r:=by
 obtain⟨y,v,rfl,z⟩:=d;obtain⟨b1,p,_,rfl,-,l,_⟩:=PtR.get c Z;obtain rfl:=l;refine zV 19 func343 Z fun h=>X0 11 Z ?_;obtain⟨x,F,b⟩:=qc F;refine qm (rL (fun m e w'=>∃i1,qY s a m i1=V x/\e=[(0,oS y s.length v),(1,.func (.func 337) #[] #[.pointer (V ⟨b1,p,U⟩)]),(7,vi (s.length:Int)),(8,vi i1)]/\SH w w' []) n ⟨_,F,rfl,h⟩ Z ?_);rintro t _ _ ⟨i1,F,rfl,h⟩;rcases t with _|t
 ·cases F
 refine X0 5 Z (qg Z F ?_ ?_)<;>intro F
 ·refine X0 13 Z ?_;obtain⟨C,_,F,g,_,_,_,_,i,k,o,f⟩:=z.ix F;obtain⟨_,_,_,_,_,_,rfl,s2,A,B⟩:=qaJ o;refine zxe i k g Z (zc 0 (f.below h.below) Z (zcB h F (qpr (qfZ C (h.oldS s2) (h.oldS A) (h.oldS B)) (h.old c)) Z fun _ _ h F=>qak (qg Z F ?_ ?_)))<;>intro F
  ·refine X0 5 Z ?_;obtain rfl:=qb F;replace F:=b;exact ri h F Z
  exact X0 6 Z (rK ⟨_,F,rfl,h⟩ Z)
 refine qr Z ?_;obtain rfl:=qb F;replace F:=b;exact X0 4 Z (ri h F Z)
def qbc(n:Nat)(s:(List qv))(a:Bool):Option Bool:=(qaM n s a).bind fun b=>V (decide (b>=0))
theorem qfc{s:(List qv)}{a}(c:Ro w s cs1){f}(b:Ro w (V a) [.pointer f]){r:Bool}(F:qbc n s a=V r):RetV prog 336 [oV (List qv) cs1,.func (.func 337) #[] #[.pointer f]] w r:=by
 obtain⟨_,_,rfl,i⟩:=c;obtain⟨_,g,_,rfl,-,d,_⟩:=PtR.get b Z;obtain rfl:=d;exact zV 9 func336 Z fun h=>X0 8 Z (zcI h F (qfQ ⟨_,_,rfl,(h.oldS i)⟩ (h.old b)) Z fun _ _ h F=>X0 3 Z (rb h F Z))
def qgs(n:Nat)(list:(List qv))(b:Bool):Option Bool:=bif ((list.length:Int)==2) then(qbc n list b).bind fun a=>V (!a) else V false
theorem qjj{list:(List qv)}{positive}(a:Ro w list cs1){r:Bool}(F:qgs n list positive=V r):RetV prog 327 [oV (List qv) cs1,.bool positive] w r:=by
 obtain⟨_,_,rfl,b⟩:=a;refine zV 14 func327 Z fun h=>zSR (qx h Z Z fun _ _ h=>X0 8 Z (qn (t:=8) F Z ?_ ?_))<;>intro F
 ·exact X0 5 Z (zcB h F (qfc ⟨_,_,rfl,(h.oldS b)⟩ (qiu (x:=positive) 0 h Z Z)) Z fun _ _ h F=>X0 5 Z (rb h F Z))
 exact X0 7 Z (rb h F Z)
def qjM(_:Nat)(p:qan):Option Bool:=V p.Bt
theorem qor{p:qan}(a:Ro w p cs1){r:Bool}(F:qjM n p=V r):RetV prog 341 [oV qan cs1] w r:=by
 obtain rfl:=qa0 a;exact zV 5 func341 Z fun h=>zSR (qx h Z Z fun _ _ h=>X1 8 0 h Z (rb h F Z))
def qZ(s:(List qan)):Nat->Int->Option (Flow Int Int)|0,_=>U|n+1,i1=>bif decide (i1<(s.length:Int)) then(idx s i1).bind fun b=>(qjM n b).bind fun a=>bif a then V (.ret i1) else qZ s n (W64 (i1+1)) else V (.nxt i1)
def qbC(n:Nat)(s:(List qan)):Option Int:=(qZ s n 0).bind fun|.ret r=>V r|.nxt _=>V (-1)
theorem qfW{s:(List qan)}(b:Ro w s cs1){r:Int}(F:qbC n s=V r):RetV prog 340 [oV (List qan) cs1,.func (.func 341) #[] #[]] w r:=by
 obtain⟨p,l,rfl,t⟩:=b;refine zV 19 func340 Z fun h=>X0 11 Z ?_;obtain⟨o,F,a⟩:=qc F;refine qm (rL (fun m e w'=>∃i1,qZ s m i1=V o/\e=[(0,oS p s.length l),(1,.func (.func 341) #[] #[]),(7,vi (s.length:Int)),(8,vi i1)]/\SH w w' []) n ⟨_,F,rfl,h⟩ Z ?_);rintro k _ _ ⟨i1,F,rfl,h⟩;rcases k with _|k
 ·cases F
 refine X0 5 Z (qg Z F ?_ ?_)<;>intro F
 ·refine X0 13 Z ?_;obtain⟨u,_,F,d,_,_,_,_,f,g,i,c⟩:=t.ix F;obtain rfl:=qa0 i;refine zxe f g d Z (zc 0 (c.below h.below) Z (zcB h F (qor (qew u)) Z fun _ _ h F=>qak (qg Z F ?_ ?_)))<;>intro F
  ·refine X0 5 Z ?_;obtain rfl:=qb F;replace F:=a;exact ri h F Z
  exact X0 6 Z (rK ⟨_,F,rfl,h⟩ Z)
 refine qr Z ?_;obtain rfl:=qb F;replace F:=a;exact X0 4 Z (ri h F Z)
def qiC(n:Nat)(c:qB):Option Int:=(qbC n c.Bg).bind fun a=>V a
theorem qpL{c:qB}(a:Ro w c cs1){r:Int}(F:qiC n c=V r):RetV prog 328 [oV qB cs1] w r:=by
 obtain⟨_,_,_,_,_,_,rfl,b,_,_⟩:=qag a;exact zV 6 func328 Z fun h=>zSR (qx h Z Z fun _ _ h=>X1 6 0 h Z (zcI h F (qfW ⟨_,_,rfl,(h.oldS b)⟩) Z fun _ _ h F=>X0 2 Z (ri h F Z)))
def qhs(n:Nat)(c:qB)(pin:Int):Option Bool:=(qe7 n c).bind fun a=>(qaS n pin 0 (W64 (a-1))).bind fun b=>V b
theorem qkz{c:qB}{pin}(a:Ro w c cs1){r:Bool}(F:qhs n c pin=V r):RetV prog 329 [oV qB cs1,vi pin] w r:=by
 obtain⟨_,_,_,_,_,_,rfl,_,_,_⟩:=qag a;exact zV 10 func329 Z fun h=>zSR (qx h Z Z fun _ _ h=>X1 6 0 h Z (zcI h F (qik (h.old a)) Z fun _ _ h F=>zp1 Z (zcB h F qaE Z fun _ _ h F=>X0 2 Z (rb h F Z))))

def qiF(n:Nat)(b:qB)(a:qI):Option Bool:=(qk7 n a.Bi).bind fun d=>bif d then(bif (a.Br==0) then bif ((a.Bf.length:Int)==0) then(qgs n a.Bp false).bind fun f=>bif f then(qiC n b).bind fun g=>bif (a.Bl==g) then bif decide (a.Bl>=0) then(qhs n b a.To).bind fun r4=>bif r4 then V (a.To != a.Bl) else V false else V false else V false else V false else V false else V false).bind fun b1=>V b1 else((qgs n a.Bp true).bind fun i=>bif (!i) then V true else(qgs n a.Bf true).bind fun k=>bif (!k) then V true else(qe7 n b).bind fun l=>bif (a.To != l) then V true else(qhs n b a.Bl).bind fun m=>V (!m)).bind fun b2=>bif b2 then V false else bif (a.Bi==1) then(idx b.Bg a.Bl).bind fun o=>bif (!o.Bt) then(qaS n a.Br 1 3).bind fun h=>V h else V false else(bif (a.Bi==2) then V (a.Bi==2) else V (a.Bi==3)).bind fun c=>bif c then(idx b.Bg a.Bl).bind fun p=>bif p.Bt then V (a.Br==0) else V false else V false
theorem qpG{c:qB}{d:qI}(b:Ro w c cs1)(z:Ro w d cs2){r:Bool}(F:qiF n c d=V r):RetV prog 314 [oV qB cs1,oV qI cs2] w r:=by
 obtain⟨Y,S,p2,T,p3,k3,rfl,s1,_,_⟩:=qag b;obtain⟨p4,W,p5,X,rfl,s4,s5⟩:=qaj z;refine zV 103 func314 Z fun h=>zSR (qx h Z Z fun _ f h=>qx h Z Z fun _ g h=>X1 7 0 h Z (zcB h F qr3 Z fun _ _ h F=>qak (qg Z F ?_ ?_)))<;>intro F
 ·refine qab ?_;obtain⟨u,l,_,F,a⟩:=bindE F;refine qaV (fun e w'=>∃b1,u b1=V r/\e=[(4,.bool b1)]/\SH w w' []) ?_ ?_
  ·refine rD (Y1 2 0 h Z ?_);refine zd2 Z (qaU (t:=11) F Z ?_ ?_)<;>intro F
   ·refine Y1 4 0 h Z ?_;refine Y0 6 Z (qaU (t:=17) F Z ?_ ?_)<;>intro F
    ·refine Y1 4 0 h Z ?_;refine Y0 1 Z ?_;obtain⟨r2,L,F⟩:=qc F;refine qbi r2 (vsB _) (cB 327 Z) (fun _ hb=>qjj ⟨_,_,rfl,((h.ext hb).oldS s4)⟩ L) Z Z Z Z (zd2 Z (qaU (t:=22) F Z ?_ ?_))<;>intro F
     ·refine Y1 4 0 h Z ?_;refine Y1 2 1 h Z ?_;refine Y0 1 Z ?_;obtain⟨r3,M,F⟩:=qc F;refine qbi r3 (vsI _) (cB 328 Z) (fun _ hb=>qpL ((h.ext hb).old b) M) Z Z Z Z (Y0 4 Z (qaU (t:=29) F Z ?_ ?_))<;>intro F
      ·refine Y1 4 0 h Z ?_;refine Y0 4 Z (qaU (t:=34) F Z ?_ ?_)<;>intro F
       ·refine Y1 2 1 h Z ?_;refine Y1 4 0 h Z ?_;refine Y0 1 Z ?_;obtain⟨r4,N,F⟩:=qc F;refine qbi r4 (vsB _) (cB 329 Z) (fun _ hb=>qkz ((h.ext hb).old b) N) Z Z Z Z (zd2 Z (qaU (t:=40) F Z ?_ ?_))<;>intro F
        ·refine Y1 4 0 h Z ?_;refine Y1 4 0 h Z ?_;refine Y0 4 Z (dN h fun _ h=>?_);replace h:=h.p [] Z;obtain rfl:=qb F;exact rG ⟨_,a,rfl,h⟩ Z
        refine Y0 7 Z (dN h fun _ h=>?_);replace h:=h.p [] Z;obtain rfl:=qb F;exact rG ⟨_,a,rfl,h⟩ Z
       refine Y0 13 Z (dN h fun _ h=>?_);replace h:=h.p [] Z;obtain rfl:=qb F;exact rG ⟨_,a,rfl,h⟩ Z
      refine Y0 18 Z (dN h fun _ h=>?_);replace h:=h.p [] Z;obtain rfl:=qb F;exact rG ⟨_,a,rfl,h⟩ Z
     refine Y0 25 Z (dN h fun _ h=>?_);replace h:=h.p [] Z;obtain rfl:=qb F;exact rG ⟨_,a,rfl,h⟩ Z
    refine Y0 30 Z (dN h fun _ h=>?_);replace h:=h.p [] Z;obtain rfl:=qb F;exact rG ⟨_,a,rfl,h⟩ Z
   refine Y0 36 Z (dN h fun _ h=>?_);replace h:=h.p [] Z;obtain rfl:=qb F;exact rG ⟨_,a,rfl,h⟩ Z
  rintro _ _ ⟨b1,F,rfl,h⟩;subst l;exact rb h F Z
 refine zKSS ?_;obtain⟨x,o,_,F,i⟩:=bindE F;refine qaV (fun e w'=>∃b2,x b2=V r/\e=[(2,vp f),(3,vp g),(70,.bool b2)]/\SH w w' [oX g (qhv d p4 p5 W X) 238,oX f (qeF c Y p2 p3 S T k3) 251]) ?_ ?_
 ·refine rD (Y1 2 0 h Z ?_);obtain⟨r6,Q,F⟩:=qc F;refine qbi r6 (vsB _) (cB 327 Z) (fun _ hb=>qjj ⟨_,_,rfl,((h.ext hb).oldS s4)⟩ Q) Z Z Z Z (zd2 Z (qaU (t:=51) F Z ?_ ?_))<;>intro F
  ·refine Y0 19 Z (dN h fun _ h=>?_);obtain rfl:=qb F;exact rG ⟨_,i,rfl,h⟩ Z
  refine Y1 4 0 h Z ?_;refine Y0 1 Z ?_;obtain⟨r7,R,F⟩:=qc F;refine qbi r7 (vsB _) (cB 327 Z) (fun _ hb=>qjj ⟨_,_,rfl,((h.ext hb).oldS s5)⟩ R) Z Z Z Z (Y0 4 Z (qaU (t:=57) F Z ?_ ?_))<;>intro F
  ·refine Y0 13 Z (dN h fun _ h=>?_);obtain rfl:=qb F;exact rG ⟨_,i,rfl,h⟩ Z
  refine Y1 4 0 h Z ?_;refine Y1 2 1 h Z ?_;refine Y0 1 Z ?_;obtain⟨r8,p,F⟩:=qc F;refine qbi r8 (vsI _) (cB 317 Z) (fun _ hb=>qik ((h.ext hb).old b) p) Z Z Z Z (Y0 4 Z (qaU (t:=64) F Z ?_ ?_))<;>intro F
  ·refine Y0 6 Z (dN h fun _ h=>?_);obtain rfl:=qb F;exact rG ⟨_,i,rfl,h⟩ Z
  refine Y1 2 1 h Z ?_;refine Y1 4 0 h Z ?_;refine Y0 1 Z ?_;obtain⟨r9,s,F⟩:=qc F;refine qbi r9 (vsB _) (cB 329 Z) (fun _ hb=>qkz ((h.ext hb).old b) s) Z Z Z Z (Y0 3 Z (dN h fun _ h=>?_));obtain rfl:=qb F;exact rG ⟨_,i,rfl,h⟩ Z
 rintro _ _ ⟨b2,F,rfl,h⟩;subst o;refine qg Z F ?_ ?_<;>intro F
 ·exact X0 4 Z (rb h F Z)
 refine X1 13 0 h Z (qg Z F ?_ ?_)<;>intro F
 ·refine X2 6 1 0 h Z ?_;obtain⟨_,_,F,C,_,_,_,_,H,J,O,A⟩:=s1.ix F;obtain rfl:=qa0 O;refine zxe H J C Z (zp1 Z (zc 3 (A.below h.below) Z (zp2 Z (qn (t:=83) F Z ?_ ?_))))<;>intro F
  ·exact X1 5 0 h Z (zcB h F qaE Z fun _ _ h F=>X0 3 Z (rb h F Z))
  exact X0 6 Z (rb h F Z)
 refine X0 6 Z ?_;obtain⟨v,m,_,F,k⟩:=bindE F;refine qaV (fun e w'=>∃y,v y=V r/\e=[(2,vp f),(3,vp g),(88,.bool y)]/\SH w w' [oX g (qhv d p4 p5 W X) 238,oX f (qeF c Y p2 p3 S T k3) 251]) ?_ ?_
 ·refine qg Z F ?_ ?_<;>intro F
  ·refine qcJ ?_;obtain rfl:=qb F;exact rG ⟨_,k,rfl,h⟩ Z
  refine X0 4 Z ?_;obtain rfl:=qb F;exact rG ⟨_,k,rfl,h⟩ Z
 rintro _ _ ⟨y,F,rfl,h⟩;subst m;refine qg Z F ?_ ?_<;>intro F
 ·refine X2 6 1 0 h Z ?_;obtain⟨_,_,F,D,_,_,_,_,I,K,P,B⟩:=s1.ix F;obtain rfl:=qa0 P;refine zxe I K D Z (zp1 Z (zc 3 (B.below h.below) Z (zp1 Z (qn (t:=98) F Z ?_ ?_))))<;>intro F
  ·exact X1 9 0 h Z (rb h F Z)
  exact X0 6 Z (rb h F Z)
 exact X0 6 Z (rb h F Z)
def qf1(_:Nat)(b:qI)(a:qI):Option Bool:=bif (b.Bi==a.Bi) then bif (b.Bl==a.Bl) then V (b.To==a.To) else V false else V false
theorem qnw{k:qI}{g:qI}(b:Ro w k cs1){f}(c:Ro w (V g) [.pointer f]){r:Bool}(F:qf1 n k g=V r):RetV prog 316 [oV qI cs1,.pointer f] w r:=by
 obtain⟨_,_,_,_,rfl,_,_⟩:=qaj b;obtain⟨_,i,_,rfl,-,d,a⟩:=PtR.get c Z;obtain⟨_,_,_,_,rfl,_,_⟩:=qaj d;refine zV 23 func316 Z fun h=>zSR (qx h Z Z fun _ _ h=>X1 7 0 h Z (zc 0 (a.below h.below) Z (zp2 Z (qn (t:=9) F Z ?_ ?_))))<;>intro F
 ·refine X1 7 0 h Z (zc 1 (a.below h.below) Z (X0 4 Z (qn (t:=16) F Z ?_ ?_)))<;>intro F
  ·exact X1 7 0 h Z (zc 2 (a.below h.below) Z (X0 5 Z (rb h F Z)))
  exact X0 8 Z (rb h F Z)
 exact X0 15 Z (rb h F Z)
def qU(s:(List qI))(a:qI):Nat->Int->Option (Flow Int Int)|0,_=>U|n+1,i1=>bif decide (i1<(s.length:Int)) then(idx s i1).bind fun c=>(qf1 n c a).bind fun b=>bif b then V (.ret i1) else qU s a n (W64 (i1+1)) else V (.nxt i1)
def qbj(n:Nat)(s:(List qI))(a:qI):Option Int:=(qU s a n 0).bind fun|.ret r=>V r|.nxt _=>V (-1)
theorem qfn{s:(List qI)}{a:qI}(d:Ro w s cs1){u}(c:Ro w (V a) [.pointer u]){r:Int}(F:qbj n s a=V r):RetV prog 330 [oV (List qI) cs1,.func (.func 316) #[] #[.pointer u]] w r:=by
 obtain⟨y,v,rfl,z⟩:=d;obtain⟨b1,p,_,rfl,-,l,_⟩:=PtR.get c Z;obtain⟨_,_,_,_,rfl,_,_⟩:=qaj l;refine zV 19 func330 Z fun h=>X0 11 Z ?_;obtain⟨x,F,b⟩:=qc F;refine qm (rL (fun m e w'=>∃i1,qU s a m i1=V x/\e=[(0,oS y s.length v),(1,.func (.func 316) #[] #[.pointer (V ⟨b1,p,U⟩)]),(7,vi (s.length:Int)),(8,vi i1)]/\SH w w' []) n ⟨_,F,rfl,h⟩ Z ?_);rintro t _ _ ⟨i1,F,rfl,h⟩;rcases t with _|t
 ·cases F
 refine X0 5 Z (qg Z F ?_ ?_)<;>intro F
 ·refine X0 13 Z ?_;obtain⟨C,_,F,g,_,_,_,_,i,k,o,f⟩:=z.ix F;obtain⟨_,_,_,_,rfl,A,B⟩:=qaj o;refine zxe i k g Z (zc 0 (f.below h.below) Z (zcB h F (qnw (qgt C (h.oldS A) (h.oldS B)) (h.old c)) Z fun _ _ h F=>qak (qg Z F ?_ ?_)))<;>intro F
  ·refine X0 5 Z ?_;obtain rfl:=qb F;replace F:=b;exact ri h F Z
  exact X0 6 Z (rK ⟨_,F,rfl,h⟩ Z)
 refine qr Z ?_;obtain rfl:=qb F;replace F:=b;exact X0 4 Z (ri h F Z)
def qaC(n:Nat)(s:(List qI))(a:qI):Option Bool:=(qbj n s a).bind fun b=>V (decide (b>=0))
theorem qeU{s:(List qI)}{a:qI}(c:Ro w s cs1){f}(b:Ro w (V a) [.pointer f]){r:Bool}(F:qaC n s a=V r):RetV prog 315 [oV (List qI) cs1,.func (.func 316) #[] #[.pointer f]] w r:=by
 obtain⟨_,_,rfl,i⟩:=c;obtain⟨_,g,_,rfl,-,d,_⟩:=PtR.get b Z;obtain⟨_,_,_,_,rfl,_,_⟩:=qaj d;exact zV 9 func315 Z fun h=>X0 8 Z (zcI h F (qfn ⟨_,_,rfl,(h.oldS i)⟩ (h.old b)) Z fun _ _ h F=>X0 3 Z (rb h F Z))
def qcO(c:qB):Nat->Int->Option (Flow Bool Int)|0,_=>U|n+1,i1=>bif decide (i1<(c.Ba.length:Int)) then(idx c.Ba i1).bind fun a=>(qiF n c a).bind fun b=>bif (!b) then V (.ret false) else(subS c.Ba 0 i1).bind fun x1=>(qaC n x1 a).bind fun d=>bif d then V (.ret false) else qcO c n (W64 (i1+1)) else V (.nxt i1)
def qhk(n:Nat)(c:qB):Option Bool:=(qcO c n 0).bind fun|.ret r=>V r|.nxt _=>V (decide ((c.Ba.length:Int)<=8))
theorem qoH{c:qB}(d:Ro w c cs1){r:Bool}(F:qhk n c=V r):RetV prog 301 [oV qB cs1] w r:=by
 obtain⟨J,H,A,y,K,k3,rfl,_,s2,_⟩:=qag d;refine zV 30 func301 Z fun h=>zSR (qx h Z Z fun _ b h=>X1 10 0 h Z ?_);obtain⟨I,F,a⟩:=qc F;refine qm (rL (fun m e w'=>∃i1,qcO c m i1=V I/\e=[(1,vp b),(6,oS A c.Ba.length y),(7,vi (c.Ba.length:Int)),(8,vi i1)]/\SH w w' [oX b (qeF c J A K H y k3) 251]) n ⟨_,F,rfl,h⟩ Z ?_);rintro z _ _ ⟨i1,F,rfl,h⟩;rcases z with _|z
 ·cases F
 refine X0 5 Z (qg Z F ?_ ?_)<;>intro F
 ·refine X0 6 Z ?_;obtain⟨v,_,F,l,_,_,_,_,p,s,u,k⟩:=s2.ix F;obtain⟨_,_,_,_,rfl,B,C⟩:=qaj u;refine zxe p s l Z (zc 0 (k.below h.below) Z (qp qa h Z Z Z fun _ _ h=>zp1 Z (zs 0 h Z fun _ h=>X2 5 1 0 h Z (zcB h F (qpG (h.old d) (qgt v (h.oldS B) (h.oldS C))) Z fun _ _ h F=>zp2 Z (qn (t:=17) F Z ?_ ?_)))))<;>intro F
  ·refine X0 8 Z (qcq Z Z (X0 4 Z ?_));obtain rfl:=qb F;replace F:=a;exact rb h F Z
  refine X1 7 1 h Z ?_;obtain⟨_,i,F⟩:=qc F;obtain⟨_,_,g,f,o,D⟩:=qpA (h.oldS s2) i;refine r_v (qlT qa Z Z Z (qpF D Z) g f o Z Z Z Z) Z ?_;have L:=qsG s2 i g f;refine X0 3 Z (zcB h F (qeU ⟨_,_,rfl,(h.oldS L)⟩ (qiu (x:=v) 0 h Z (qgt v (h.oldS B) (h.oldS C)))) Z fun _ _ h F=>X0 2 Z (qg Z F ?_ ?_))<;>intro F
  ·refine X0 4 Z ?_;obtain rfl:=qb F;replace F:=a;exact rb h F Z
  refine X0 6 Z ?_;replace h:=h.p [1] Z;exact rK ⟨_,F,rfl,h⟩ Z
 refine qr Z ?_;obtain rfl:=qb F;replace F:=a;exact X1 8 0 h Z (rb h F Z)
def qkY(_:Nat)(a:qI)(b:Int):Option Bool:=V (a.Bi==b)
theorem qpM{a:qI}{i}(b:Ro w a cs1){g}(c:Ro w (V i) [.pointer g]){r:Bool}(F:qkY n a i=V r):RetV prog 331 [oV qI cs1,.pointer g] w r:=by
 obtain⟨_,_,_,_,rfl,_,_⟩:=qaj b;obtain⟨_,k,_,rfl,-,f,d⟩:=PtR.get c Z;obtain rfl:=f;exact zV 8 func331 Z fun h=>zSR (qx h Z Z fun _ _ h=>X1 6 0 h Z (zc 0 (d.below h.below) Z (X0 3 Z (rb h F Z))))
def qae(s:(List qI))(a:Int):Nat->Int->Option (Flow Int Int)|0,_=>U|n+1,i1=>bif decide (i1<(s.length:Int)) then(idx s i1).bind fun c=>(qkY n c a).bind fun b=>bif b then V (.ret i1) else qae s a n (W64 (i1+1)) else V (.nxt i1)
def qbJ(n:Nat)(s:(List qI))(a:Int):Option Int:=(qae s a n 0).bind fun|.ret r=>V r|.nxt _=>V (-1)
theorem qgp{s:(List qI)}{a}(d:Ro w s cs1){u}(c:Ro w (V a) [.pointer u]){r:Int}(F:qbJ n s a=V r):RetV prog 330 [oV (List qI) cs1,.func (.func 331) #[] #[.pointer u]] w r:=by
 obtain⟨y,v,rfl,z⟩:=d;obtain⟨b1,p,_,rfl,-,l,_⟩:=PtR.get c Z;obtain rfl:=l;refine zV 19 func330 Z fun h=>X0 11 Z ?_;obtain⟨x,F,b⟩:=qc F;refine qm (rL (fun m e w'=>∃i1,qae s a m i1=V x/\e=[(0,oS y s.length v),(1,.func (.func 331) #[] #[.pointer (V ⟨b1,p,U⟩)]),(7,vi (s.length:Int)),(8,vi i1)]/\SH w w' []) n ⟨_,F,rfl,h⟩ Z ?_);rintro t _ _ ⟨i1,F,rfl,h⟩;rcases t with _|t
 ·cases F
 refine X0 5 Z (qg Z F ?_ ?_)<;>intro F
 ·refine X0 13 Z ?_;obtain⟨B,_,F,g,_,_,_,_,i,k,o,f⟩:=z.ix F;obtain⟨_,_,_,_,rfl,s2,A⟩:=qaj o;refine zxe i k g Z (zc 0 (f.below h.below) Z (zcB h F (qpM (qgt B (h.oldS s2) (h.oldS A)) (h.old c)) Z fun _ _ h F=>qak (qg Z F ?_ ?_)))<;>intro F
  ·refine X0 5 Z ?_;obtain rfl:=qb F;replace F:=b;exact ri h F Z
  exact X0 6 Z (rK ⟨_,F,rfl,h⟩ Z)
 refine qr Z ?_;obtain rfl:=qb F;replace F:=b;exact X0 4 Z (ri h F Z)
def qbr(n:Nat)(s:(List qI))(a:Int):Option Bool:=(qbJ n s a).bind fun b=>V (decide (b>=0))
theorem qfP{s:(List qI)}{a}(c:Ro w s cs1){f}(b:Ro w (V a) [.pointer f]){r:Bool}(F:qbr n s a=V r):RetV prog 315 [oV (List qI) cs1,.func (.func 331) #[] #[.pointer f]] w r:=by
 obtain⟨_,_,rfl,i⟩:=c;obtain⟨_,g,_,rfl,-,d,_⟩:=PtR.get b Z;obtain rfl:=d;exact zV 9 func315 Z fun h=>X0 8 Z (zcI h F (qgp ⟨_,_,rfl,(h.oldS i)⟩ (h.old b)) Z fun _ _ h F=>X0 3 Z (rb h F Z))
def qdO(n:Nat)(c:qB)(kind:Int):Option Bool:=(qbr n c.Ba kind).bind fun a=>V a
theorem qeQ{c:qB}{kind}(a:Ro w c cs1){r:Bool}(F:qdO n c kind=V r):RetV prog 318 [oV qB cs1,vi kind] w r:=by
 obtain⟨_,_,_,_,_,_,rfl,_,s2,_⟩:=qag a;exact zV 9 func318 Z fun h=>zSR (qx h Z Z fun _ _ h=>qx h Z Z fun _ _ h=>X1 7 1 h Z (zcB h F (qfP ⟨_,_,rfl,(h.oldS s2)⟩ (qiu (x:=kind) 0 h Z Z)) Z fun _ _ h F=>X0 2 Z (rb h F Z)))
def qbk(a:qB):Nat->Int->Int->Option (Int×Int)|0,_,_=>U|n+1,i1,b=>bif decide (b<(a.Bg.length:Int)) then(idx a.Bg b).bind fun c=>bif c.Bt then qbk a n (W64 (i1+1)) (W64 (b+1)) else qbk a n i1 (W64 (b+1)) else V (i1,b)
def qgB(n:Nat)(a:qB):Option Bool:=(qbk a n 0 0).bind fun(i1,_)=>bif (a.Bi==1) then bif (i1==0) then(qe7 n a).bind fun b=>(shlS 1 b).bind fun k=>bif ((a.Bq.length:Int)==k) then(qb9 n a.Bq 0 1).bind fun c=>V c else V false else V false else bif (a.Bi==2) then bif (i1==1) then bif ((a.Bq.length:Int)==0) then(qdO n a 1).bind fun d=>bif (!d) then(qdO n a 2).bind fun r4=>(qdO n a 3).bind fun f=>V (!(r4==f)) else V false else V false else V false else bif (a.Bi==3) then bif (i1==1) then bif ((a.Bq.length:Int)==0) then(qdO n a 1).bind fun g=>bif g then(qdO n a 2).bind fun h=>bif h then(qdO n a 3).bind fun i=>V (!i) else V false else V false else V false else V false else V false
theorem qoe{b:qB}(a:Ro w b cs1){r:Bool}(F:qgB n b=V r):RetV prog 302 [oV qB cs1] w r:=by
 obtain⟨B,z,I,D,J,k3,rfl,O,_,P⟩:=qag a;refine zV 83 func302 Z fun h=>zSR (qx h Z Z fun _ d h=>X1 14 0 h Z ?_);obtain⟨H,F,f⟩:=qc F;refine qm (rL (fun m e w'=>∃i1 y,qbk b m i1 y=V H/\e=[(1,vp d),(3,vi i1),(7,oS B b.Bg.length z),(8,vi (b.Bg.length:Int)),(9,vi y)]/\SH w w' [oX d (qeF b B I J z D k3) 251]) n ⟨_,_,F,rfl,h⟩ Z ?_);rintro A _ _ ⟨i1,y,F,rfl,h⟩;rcases A with _|A
 ·cases F
 refine X0 5 Z (qg Z F ?_ ?_)<;>intro F
 ·refine zKSBSR ?_;obtain⟨_,_,F,i,_,_,_,_,k,l,o,g⟩:=O.ix F;obtain rfl:=qa0 o;refine zxe k l i Z (zc 0 (g.below h.below) Z (qp qa h Z Z Z fun _ _ h=>zs 0 h Z fun _ h=>X1 6 0 h Z (qg Z F ?_ ?_)))<;>intro F
  ·refine X0 10 Z ?_;replace h:=h.p [1] Z;exact rK ⟨_,_,F,rfl,h⟩ Z
  refine X0 6 Z ?_;replace h:=h.p [1] Z;exact rK ⟨_,_,F,rfl,h⟩ Z
 refine qr Z ?_;obtain rfl:=qb F;replace F:=f;refine X1 12 0 h Z (qg Z F ?_ ?_)<;>intro F
 ·refine qab (rD (zd3 Z (qaU (t:=24) F Z ?_ ?_)))<;>intro F
  ·refine Y1 4 0 h Z ?_;refine Y1 4 0 h Z ?_;refine Y0 1 Z ?_;obtain⟨K,p,F⟩:=qc F;refine qbi K (vsI _) (cB 317 Z) (fun _ Q=>qik ((h.ext Q).old a) p) Z Z Z Z (Y0 1 Z ?_);obtain⟨_,c,F⟩:=qc F;obtain⟨C,c⟩:=quj c;refine d_v (fun _ Q=>qBM C Z Z) Z ?_;rw[c];refine Y0 4 Z (qaU (t:=33) F Z ?_ ?_)<;>intro F
   ·refine Y1 4 0 h Z ?_;refine Y0 1 Z ?_;obtain⟨L,s,F⟩:=qc F;exact qbi L (vsB _) (cB 67 Z) (fun _ Q=>qcs ⟨_,_,rfl,((h.ext Q).oldS P)⟩ s) Z Z Z Z (zd2 Z (dN h fun _ h=>rb h F Z))
   exact Y0 5 Z (dN h fun _ h=>rb h F Z)
  exact Y0 14 Z (dN h fun _ h=>rb h F Z)
 refine X0 5 Z (qg Z F ?_ ?_)<;>intro F
 ·refine qab (rD (zd3 Z (qaU (t:=42) F Z ?_ ?_)))<;>intro F
  ·refine Y1 4 0 h Z ?_;refine Y0 6 Z (qaU (t:=48) F Z ?_ ?_)<;>intro F
   ·refine Y1 2 0 h Z ?_;refine Y0 1 Z ?_;obtain⟨M,u,F⟩:=qc F;refine qbi M (vsB _) (cB 318 Z) (fun _ Q=>qeQ ((h.ext Q).old a) u) Z Z Z Z (Y0 4 Z (qaU (t:=53) F Z ?_ ?_))<;>intro F
    ·refine Y1 2 0 h Z ?_;refine Y0 1 Z ?_;obtain⟨r4,v,F⟩:=qc F;refine qbi r4 (vsB _) (cB 318 Z) (fun _ Q=>qeQ ((h.ext Q).old a) v) Z Z Z Z (Y1 2 0 h Z ?_);refine Y0 1 Z ?_;obtain⟨N,x,F⟩:=qc F;exact qbi N (vsB _) (cB 318 Z) (fun _ Q=>qeQ ((h.ext Q).old a) x) Z Z Z Z (Y0 4 Z (dN h fun _ h=>rb h F Z))
    exact Y0 7 Z (dN h fun _ h=>rb h F Z)
   exact Y0 12 Z (dN h fun _ h=>rb h F Z)
  exact Y0 18 Z (dN h fun _ h=>rb h F Z)
 refine X0 5 Z (qg Z F ?_ ?_)<;>intro F
 ·refine X0 5 Z (qn (t:=64) F Z ?_ ?_)<;>intro F
  ·refine X1 10 0 h Z (qn (t:=70) F Z ?_ ?_)<;>intro F
   ·refine X1 3 0 h Z (zcB h F (qeQ (h.old a)) Z fun _ _ h F=>zp2 Z (qn (t:=74) F Z ?_ ?_))<;>intro F
    ·refine X1 3 0 h Z (zcB h F (qeQ (h.old a)) Z fun _ _ h F=>zp2 Z (qn (t:=78) F Z ?_ ?_))<;>intro F
     ·exact X1 3 0 h Z (zcB h F (qeQ (h.old a)) Z fun _ _ h F=>X0 5 Z (rb h F Z))
     exact X0 6 Z (rb h F Z)
    exact X0 10 Z (rb h F Z)
   exact X0 14 Z (rb h F Z)
  exact X0 20 Z (rb h F Z)
 exact X0 6 Z (rb h F Z)
def qmx(n:Nat)(c:qB):Option Bool:=(qi3 n c.Bc).bind fun a=>bif a then(qlj n c.Bg).bind fun b=>bif b then(qhk n c).bind fun d=>bif d then(qaS n c.Cc 0 100000).bind fun r4=>bif r4 then(qaS n c.Bw 0 100000).bind fun f=>bif f then(qgB n c).bind fun g=>V g else V false else V false else V false else V false else V false
theorem qsV{c:qB}(a:Ro w c cs1){r:Bool}(F:qmx n c=V r):RetV prog 279 [oV qB cs1] w r:=by
 obtain⟨_,_,_,_,_,_,rfl,b,_,_⟩:=qag a;refine zV 29 func279 Z fun h=>zSR (qx h Z Z fun _ _ h=>X1 6 0 h Z (zcB h F qlZ Z fun _ _ h F=>zp1 Z (qn (t:=6) F Z ?_ ?_)))<;>intro F
 ·refine X1 5 0 h Z (zcB h F (qrW ⟨_,_,rfl,(h.oldS b)⟩) Z fun _ _ h F=>zp2 Z (qn (t:=11) F Z ?_ ?_))<;>intro F
  ·refine X1 3 0 h Z (zcB h F (qoH (h.old a)) Z fun _ _ h F=>zp2 Z (qn (t:=15) F Z ?_ ?_))<;>intro F
   ·refine X1 5 0 h Z (zcB h F qaE Z fun _ _ h F=>zp2 Z (qn (t:=20) F Z ?_ ?_))<;>intro F
    ·refine X1 5 0 h Z (zcB h F qaE Z fun _ _ h F=>zp2 Z (qn (t:=25) F Z ?_ ?_))<;>intro F
     ·exact X1 3 0 h Z (zcB h F (qoe (h.old a)) Z fun _ _ h F=>X0 3 Z (rb h F Z))
     exact X0 5 Z (rb h F Z)
    exact X0 10 Z (rb h F Z)
   exact X0 15 Z (rb h F Z)
  exact X0 19 Z (rb h F Z)
 exact X0 24 Z (rb h F Z)
def qc2(l:qq):Nat->(List ByteArray)->Int->Option (Flow Bool ((List ByteArray)×Int))|0,_,_=>U|n+1,x1,i1=>bif decide (i1<(l.As.length:Int)) then(idx l.As i1).bind fun a=>(qmx n a).bind fun b=>bif (!b) then V (.ret false) else(appS x1 ([a.Bc]:List ByteArray)).bind fun c=>qc2 l n c (W64 (i1+1)) else V (.nxt (x1,i1))
def qjA(n:Nat)(l:qq):Option Bool:=(qc2 l n ([]:List ByteArray) 0).bind fun|.ret r=>V r|.nxt (x1,_)=>bif decide ((l.As.length:Int)<=8) then(qeM n x1).bind fun a=>V a else V false
theorem qqy{l:qq}(f:Ro w l cs1){r:Bool}(F:qjA n l=V r):RetV prog 250 [oV qq cs1] w r:=by
 obtain⟨y,v,rfl,C⟩:=qbM f;refine zV 30 func250 Z fun h=>zSR (qx h Z Z fun _ c h=>X1 14 0 h Z ?_);replace h:=h.nil (α:=ByteArray);obtain⟨B,F,d⟩:=qc F;refine qm (rL (fun m e w'=>∃S1 u b s x1 i1,qc2 l m x1 i1=V B/\e=[(1,vp c),(3,oS u b s),(7,oS y l.As.length v),(8,vi (l.As.length:Int)),(9,vi i1)]/\SH w w' [oW S1 (x1:List ByteArray) [oS u b s],oX c [oS y l.As.length v] 46]) n ⟨_,_,_,_,_,_,F,rfl,h⟩ Z ?_);rintro x _ _ ⟨S1,u,b,s,x1,i1,F,rfl,h⟩;obtain rfl:=(h.sl 0 Z).2;rcases x with _|x
 ·cases F
 refine X0 5 Z (qg Z F ?_ ?_)<;>intro F
 ·refine zKSBSR ?_;obtain⟨z,_,F,i,_,_,_,_,k,o,p,g⟩:=C.ix F;obtain⟨_,_,_,_,_,_,rfl,s2,D,H⟩:=qag p;refine zxe k o i Z (zc 0 (g.below h.below) Z (qp qa h Z Z Z fun _ _ h=>zs 0 h Z fun _ h=>X1 5 0 h Z (zcB h F (qsV (qlu z (h.oldS s2) (h.oldS D) (h.oldS H))) Z fun _ _ h F=>X0 2 Z (qg Z F ?_ ?_))))<;>intro F
  ·refine X0 4 Z ?_;obtain rfl:=qb F;replace F:=d;exact rb h F Z
  refine X1 5 0 h Z (qG qa [.tmp 18] _ ([z.Bc]:List ByteArray) h Z Z Z Z Z Z Z Z Z ⟨rfl,G⟩ Z fun _ _ _ h=>?_);obtain⟨_,a,F⟩:=qc F;obtain⟨A,a⟩:=qN a;refine qbW qa 2 h Z (h.sl 0 Z).1 (h.sl 0 Z).2 Z Z Z Z Z Z Z Z Z A a Z fun _ _ _ _ h=>X0 7 Z ?_;replace h:=h.p [2,3] Z;exact rK ⟨_,_,_,_,_,_,F,rfl,h⟩ Z
 refine qr Z ?_;obtain rfl:=qb F;replace F:=d;refine X1 7 1 h Z (qn (t:=26) F Z ?_ ?_)<;>intro F
 ·exact X0 3 Z (zcB h F (qge (h.own 0 Z)) Z fun _ _ h F=>X0 3 Z (rb h F Z))
 exact X0 5 Z (rb h F Z)
def qbu(d:qd):Nat->(List ByteArray)->Int->Option ((List ByteArray)×Int)|0,_,_=>U|n+1,x3,a=>bif decide (a<(d.Aj.length:Int)) then(idx d.Aj a).bind fun c=>(appS x3 ([c.Bc]:List ByteArray)).bind fun b=>qbu d n b (W64 (a+1)) else V (x3,a)
def qbt(d:qd):Nat->(List ByteArray)->Int->Option ((List ByteArray)×Int)|0,_,_=>U|n+1,x1,i1=>bif decide (i1<(d.Ab.length:Int)) then(idx d.Ab i1).bind fun b=>(appS x1 ([b.Bc]:List ByteArray)).bind fun a=>qbt d n a (W64 (i1+1)) else V (x1,i1)
def qfR(n:Nat)(d:qd):Option Bool:=(qbt d n ([]:List ByteArray) 0).bind fun(x1,_)=>(qbu d n ([]:List ByteArray) 0).bind fun(x3,_)=>bif decide ((x1.length:Int)<=14) then bif decide ((d.Am.length:Int)<=30) then bif decide ((x3.length:Int)<=8) then(qeM n x1).bind fun a=>bif a then(qeM n d.Am).bind fun b=>bif b then(qeM n x3).bind fun c=>V c else V false else V false else V false else V false else V false
theorem qmV{d:qd}(p:Ro w d cs1){r:Bool}(F:qfR n d=V r):RetV prog 251 [oV qd cs1] w r:=by
 obtain⟨K,I,R,O,L,k3,rfl,Y,s2,s3⟩:=qaD p;refine zV 62 func251 Z fun h=>zSR (qx h Z Z fun _ a h=>X1 15 0 h Z ?_);replace h:=h.nil (α:=ByteArray);obtain⟨W,F,l⟩:=qc F;refine qm (rL (fun m e w'=>∃S1 k f i x1 i1,qbt d m x1 i1=V W/\e=[(1,vp a),(3,oS k f i),(4,oS U 0 0),(10,oS K d.Ab.length I),(11,vi (d.Ab.length:Int)),(12,vi i1)]/\SH w w' [oW S1 (x1:List ByteArray) [oS k f i],oX a (qaT d K R L I O k3) 50]) n ⟨_,_,_,_,_,_,F,rfl,h⟩ Z ?_);rintro P _ _ ⟨S1,k,f,i,x1,i1,F,rfl,h⟩;obtain rfl:=(h.sl 0 Z).2;rcases P with _|P
 ·cases F
 refine X0 5 Z (qg Z F ?_ ?_)<;>intro F
 ·refine zKSBSR ?_;obtain⟨y1,_,F,v,_,_,_,_,y,A,C,s⟩:=Y.ix F;obtain⟨_,_,rfl,_⟩:=qT C;refine zxe y A v Z (zc 0 (s.below h.below) Z (qp qa h Z Z Z fun _ _ h=>zs 0 h Z fun _ h=>X1 5 0 h Z (qG qa [.tmp 18] _ ([y1.Bc]:List ByteArray) h Z Z Z Z Z Z Z Z Z ⟨rfl,G⟩ Z fun _ _ _ h=>?_)));obtain⟨_,b,F⟩:=qc F;obtain⟨S,b⟩:=qN b;refine qbW qa 2 h Z (h.sl 0 Z).1 (h.sl 0 Z).2 Z Z Z Z Z Z Z Z Z S b Z fun _ _ _ _ h=>X0 7 Z ?_;replace h:=h.p [2,3] Z;exact rK ⟨_,_,_,_,_,_,F,rfl,h⟩ Z
 refine qr Z ?_;obtain rfl:=qb F;replace F:=l;refine X1 8 1 h Z ?_;replace h:=h.nil (α:=ByteArray);obtain⟨X,F,o⟩:=qc F;refine qm (rL (fun m e w'=>∃N M g J x3 H,qbu d m x3 H=V X/\e=[(1,vp a),(3,oS k x1.length i),(4,oS M g J),(23,oS L d.Aj.length k3),(24,vi (d.Aj.length:Int)),(25,vi H)]/\SH w w' [oW N (x3:List ByteArray) [oS M g J],oW S1 (x1:List ByteArray) [oS k x1.length i],oX a (qaT d K R L I O k3) 50]) n ⟨_,_,_,_,_,_,F,rfl,h⟩ Z ?_);rintro Q _ _ ⟨N,M,g,J,x3,H,F,rfl,h⟩;obtain rfl:=(h.sl 0 Z).2;rcases Q with _|Q
 ·cases F
 refine X0 5 Z (qg Z F ?_ ?_)<;>intro F
 ·refine zKSBSR ?_;obtain⟨y2,_,F,x,_,_,_,_,z,B,D,u⟩:=s3.ix F;obtain rfl:=qaW D;refine zxe z B x Z (zc 0 (u.below h.below) Z (qp qa h Z Z Z fun _ _ h=>zs 0 h Z fun _ h=>X1 5 0 h Z (qG qa [.tmp 31] _ ([y2.Bc]:List ByteArray) h Z Z Z Z Z Z Z Z Z ⟨rfl,G⟩ Z fun _ _ _ h=>?_)));obtain⟨_,c,F⟩:=qc F;obtain⟨T,c⟩:=qN c;refine qbW qa 2 h Z (h.sl 0 Z).1 (h.sl 0 Z).2 Z Z Z Z Z Z Z Z Z T c Z fun _ _ _ _ h=>X0 7 Z ?_;replace h:=h.p [2,3,4] Z;exact rK ⟨_,_,_,_,_,_,F,rfl,h⟩ Z
 refine qr Z ?_;obtain rfl:=qb F;replace F:=o;refine X0 6 Z (qn (t:=38) F Z ?_ ?_)<;>intro F
 ·refine X1 10 2 h Z (qn (t:=44) F Z ?_ ?_)<;>intro F
  ·refine X0 8 Z (qn (t:=49) F Z ?_ ?_)<;>intro F
   ·refine X0 3 Z (zcB h F (qge (h.own 1 Z)) Z fun _ _ h F=>zp2 Z (qn (t:=53) F Z ?_ ?_))<;>intro F
    ·refine X1 5 2 h Z (zcB h F (qge ⟨_,_,rfl,(h.oldS s2)⟩) Z fun _ _ h F=>zp2 Z (qn (t:=58) F Z ?_ ?_))<;>intro F
     ·exact X0 3 Z (zcB h F (qge (h.own 0 Z)) Z fun _ _ h F=>X0 3 Z (rb h F Z))
     exact X0 5 Z (rb h F Z)
    exact X0 10 Z (rb h F Z)
   exact X0 14 Z (rb h F Z)
  exact X0 19 Z (rb h F Z)
 exact X0 25 Z (rb h F Z)
def qhj(_:Nat)(list:(List qB)):Option Int:=V (list.length:Int)
theorem qmG{list:(List qB)}(a:Ro w list cs1){r:Int}(F:qhj n list=V r):RetV prog 281 [oV (List qB) cs1] w r:=by
 obtain⟨_,_,rfl,_⟩:=a;exact zV 5 func281 Z fun h=>X0 10 Z (ri h F Z)
def qiU(_:Nat)(list:(List ByteArray)):Option Int:=V (list.length:Int)
theorem qog{list:(List ByteArray)}(a:Ro w list cs1){r:Int}(F:qiU n list=V r):RetV prog 283 [oV (List ByteArray) cs1] w r:=by
 obtain⟨_,_,rfl,_⟩:=a;exact zV 5 func283 Z fun h=>X0 10 Z (ri h F Z)
def qeh(n:Nat)(d:qd)(net:Int):Option Bool:=(qiU n d.Am).bind fun a=>(qaS n net 0 (W64 (a-1))).bind fun b=>V b
theorem qhB{d:qd}{net}(a:Ro w d cs1){r:Bool}(F:qeh n d net=V r):RetV prog 253 [oV qd cs1,vi net] w r:=by
 obtain⟨_,_,_,_,_,_,rfl,_,s2,_⟩:=qaD a;exact zV 11 func253 Z fun h=>zSR (qx h Z Z fun _ _ h=>X1 7 0 h Z (zcI h F (qog ⟨_,_,rfl,(h.oldS s2)⟩) Z fun _ _ h F=>zp1 Z (zcB h F qaE Z fun _ _ h F=>X0 2 Z (rb h F Z))))
def qdN(n:Nat)(net:Int)(b:qd):Option Bool:=(qeh n b net).bind fun a=>V (!a)
theorem qlk{net}{d:qd}{f}(a:Ro w (V d) [.pointer f]){r:Bool}(F:qdN n net d=V r):RetV prog 282 [vi net,.pointer f] w r:=by
 obtain⟨_,g,_,rfl,-,c,b⟩:=PtR.get a Z;obtain⟨_,_,_,_,_,_,rfl,i,s2,k⟩:=qaD c;exact zV 8 func282 Z fun h=>X0 6 Z (zc 0 (b.below h.below) Z (zp1 Z (zcB h F (qhB (qay d (h.oldS i) (h.oldS s2) (h.oldS k))) Z fun _ _ h F=>X0 3 Z (rb h F Z))))
def qO(s:(List Int))(a:qd):Nat->Int->Option (Flow Int Int)|0,_=>U|n+1,i1=>bif decide (i1<(s.length:Int)) then(idx s i1).bind fun c=>(qdN n c a).bind fun b=>bif b then V (.ret i1) else qO s a n (W64 (i1+1)) else V (.nxt i1)
def qba(n:Nat)(s:(List Int))(a:qd):Option Int:=(qO s a n 0).bind fun|.ret r=>V r|.nxt _=>V (-1)
theorem qfe{s:(List Int)}{a:qd}(d:Ro w s cs1){t}(c:Ro w (V a) [.pointer t]){r:Int}(F:qba n s a=V r):RetV prog 164 [oV (List Int) cs1,.func (.func 282) #[] #[.pointer t]] w r:=by
 obtain⟨x,u,rfl,y⟩:=d;obtain⟨b1,o,_,rfl,-,l,_⟩:=PtR.get c Z;obtain⟨_,_,_,_,_,_,rfl,_,_,_⟩:=qaD l;refine zV 19 func164 Z fun h=>X0 11 Z ?_;obtain⟨v,F,b⟩:=qc F;refine qm (rL (fun m e w'=>∃i1,qO s a m i1=V v/\e=[(0,oS x s.length u),(1,.func (.func 282) #[] #[.pointer (V ⟨b1,o,U⟩)]),(7,vi (s.length:Int)),(8,vi i1)]/\SH w w' []) n ⟨_,F,rfl,h⟩ Z ?_);rintro p _ _ ⟨i1,F,rfl,h⟩;rcases p with _|p
 ·cases F
 refine X0 5 Z (qg Z F ?_ ?_)<;>intro F
 ·refine X0 13 Z ?_;obtain⟨_,_,F,g,_,_,_,_,i,k,rfl,f⟩:=y.ix F;refine zxe i k g Z (zc 0 (f.below h.below) Z (zcB h F (qlk (h.old c)) Z fun _ _ h F=>qak (qg Z F ?_ ?_)))<;>intro F
  ·refine X0 5 Z ?_;obtain rfl:=qb F;replace F:=b;exact ri h F Z
  exact X0 6 Z (rK ⟨_,F,rfl,h⟩ Z)
 refine qr Z ?_;obtain rfl:=qb F;replace F:=b;exact X0 4 Z (ri h F Z)
def qaY(n:Nat)(s:(List Int))(a:qd):Option Bool:=(qba n s a).bind fun b=>V (decide (b>=0))
theorem qey{s:(List Int)}{a:qd}(c:Ro w s cs1){f}(b:Ro w (V a) [.pointer f]){r:Bool}(F:qaY n s a=V r):RetV prog 110 [oV (List Int) cs1,.func (.func 282) #[] #[.pointer f]] w r:=by
 obtain⟨_,_,rfl,i⟩:=c;obtain⟨_,g,_,rfl,-,d,_⟩:=PtR.get b Z;obtain⟨_,_,_,_,_,_,rfl,_,_,_⟩:=qaD d;exact zV 9 func110 Z fun h=>X0 8 Z (zcI h F (qfe ⟨_,_,rfl,(h.oldS i)⟩ (h.old b)) Z fun _ _ h F=>X0 3 Z (rb h F Z))
def qeA(n:Nat)(d:qd)(l:qq)(x:ql):Option Bool:=(qhj n l.As).bind fun a=>(qaS n x.Bv 0 (W64 (a-1))).bind fun b=>bif b then(idx l.As x.Bv).bind fun f=>bif ((x.Am.length:Int)==(f.Bg.length:Int)) then(qaY n x.Am d).bind fun c=>V (!c) else V false else V false
theorem ql9{d:qd}{l:qq}{x:ql}(a:Ro w d cs1)(b:Ro w l cs2)(c:Ro w x cs3){r:Bool}(F:qeA n d l x=V r):RetV prog 252 [oV qd cs1,oV qq cs2,oV ql cs3] w r:=by
 obtain⟨_,_,_,_,_,_,rfl,_,_,_⟩:=qaD a;obtain⟨_,_,rfl,u⟩:=qbM b;obtain⟨_,_,rfl,A⟩:=qT c;refine zV 35 func252 Z fun h=>zSR (qx h Z Z fun _ _ h=>qx h Z Z fun _ _ h=>qx h Z Z fun _ _ h=>X0 3 Z (rD (Y1 2 0 h Z ?_)));refine Y1 2 1 h Z ?_;obtain⟨v,m,F⟩:=qc F;refine qbi v (vsI _) (cB 281 Z) (fun _ B=>qmG ⟨_,_,rfl,((h.ext B).oldS u)⟩ m) Z Z Z Z (zd1 Z ?_);obtain⟨y,o,F⟩:=qc F;refine qbi y (vsB _) (cB 46 Z) (fun _ B=>qaE  o) Z Z Z Z (zd1 Z (qaU (t:=14) F Z ?_ ?_))<;>intro F
 ·refine Y1 4 0 h Z ?_;refine Y1 6 1 h Z ?_;refine Y1 4 0 h Z ?_;refine Y0 1 Z ?_;obtain⟨_,_,F,g,_,_,_,_,i,k,p,f⟩:=u.ix F;obtain⟨_,_,_,_,_,_,rfl,_,_,_⟩:=qag p;refine zdxe i k g Z (Y0 3 Z (zdc 2 (f.below h.below) Z (Y0 6 Z (qaU (t:=28) F Z ?_ ?_))))<;>intro F
  ·refine Y1 4 0 h Z ?_;refine Y0 3 Z ?_;obtain⟨z,s,F⟩:=qc F;exact qbi z (vsB _) (cB 110 Z) (fun _ B=>qey ⟨_,_,rfl,((h.ext B).oldS A)⟩ (qiu (x:=d) 2 (h.ext B) Z ((h.ext B).old a)) s) Z Z Z Z (Y0 4 Z (dN h fun _ h=>rb h F Z))
  exact Y0 7 Z (dN h fun _ h=>rb h F Z)
 exact Y0 21 Z (dN h fun _ h=>rb h F Z)
def qk0(_:Nat)(a:Int):Option Bool:=V (a != 1)
theorem qpO{a_n}  {r:Bool}(F:qk0 n a_n=V r):RetV prog 255 [vi a_n] w r:=by
 exact zV 5 func255 Z fun h=>X0 10 Z (rb h F Z)
def qap(s:(List Int)):Nat->Int->Option (Flow Int Int)|0,_=>U|n+1,i1=>bif decide (i1<(s.length:Int)) then(idx s i1).bind fun b=>(qk0 n b).bind fun a=>bif a then V (.ret i1) else qap s n (W64 (i1+1)) else V (.nxt i1)
def qcl(n:Nat)(s:(List Int)):Option Int:=(qap s n 0).bind fun|.ret r=>V r|.nxt _=>V (-1)
theorem qhu{s:(List Int)}(b:Ro w s cs1){r:Int}(F:qcl n s=V r):RetV prog 284 [oV (List Int) cs1,.func (.func 255) #[] #[]] w r:=by
 obtain⟨o,k,rfl,p⟩:=b;refine zV 19 func284 Z fun h=>X0 11 Z ?_;obtain⟨l,F,a⟩:=qc F;refine qm (rL (fun m e w'=>∃i1,qap s m i1=V l/\e=[(0,oS o s.length k),(1,.func (.func 255) #[] #[]),(7,vi (s.length:Int)),(8,vi i1)]/\SH w w' []) n ⟨_,F,rfl,h⟩ Z ?_);rintro i _ _ ⟨i1,F,rfl,h⟩;rcases i with _|i
 ·cases F
 refine X0 5 Z (qg Z F ?_ ?_)<;>intro F
 ·refine X0 13 Z ?_;obtain⟨_,_,F,d,_,_,_,_,f,g,rfl,c⟩:=p.ix F;refine zxe f g d Z (zc 0 (c.below h.below) Z (zcB h F qpO Z fun _ _ h F=>qak (qg Z F ?_ ?_)))<;>intro F
  ·refine X0 5 Z ?_;obtain rfl:=qb F;replace F:=a;exact ri h F Z
  exact X0 6 Z (rK ⟨_,F,rfl,h⟩ Z)
 refine qr Z ?_;obtain rfl:=qb F;replace F:=a;exact X0 4 Z (ri h F Z)
def qb0(n:Nat)(s:(List Int)):Option Bool:=(qcl n s).bind fun a=>V (decide (a>=0))
theorem qgL{s:(List Int)}(a:Ro w s cs1){r:Bool}(F:qb0 n s=V r):RetV prog 254 [oV (List Int) cs1,.func (.func 255) #[] #[]] w r:=by
 obtain⟨_,_,rfl,b⟩:=a;exact zV 9 func254 Z fun h=>X0 8 Z (zcI h F (qhu ⟨_,_,rfl,(h.oldS b)⟩) Z fun _ _ h F=>X0 3 Z (rb h F Z))
def qcQ(a:qd):Nat->(List Int)->Int->Option (Flow Bool ((List Int)×Int))|0,_,_=>U|n+1,x3,c=>bif decide (c<(a.Aj.length:Int)) then(idx a.Aj c).bind fun b=>(bif (b.Bx != 1) then bif (b.Bx != 2) then V true else(qeh n a b.Ca).bind fun f=>V (!f) else(qeh n a b.Ca).bind fun g=>V (!g)).bind fun d=>bif d then V (.ret false) else bif (b.Bx==1) then(idx x3 b.Ca).bind fun h=>(idx x3 b.Ca).bind fun _=>qcQ a n (setS x3 b.Ca (W64 (h+1))) (W64 (c+1)) else qcQ a n x3 (W64 (c+1)) else V (.nxt (x3,c))
def qdv(b:qq)(a:qd):Nat->(List Int)->Int->Option (Flow Bool ((List Int)×Int))|0,_,_=>U|n+1,c,i1=>bif decide (i1<(a.Ab.length:Int)) then(idx a.Ab i1).bind fun d=>(qeA n a b d).bind fun g=>bif (!g) then V (.ret false) else(idx d.Am (W64 ((d.Am.length:Int)-1))).bind fun f=>(idx c f).bind fun h=>(idx c f).bind fun _=>qdv b a n (setS c f (W64 (h+1))) (W64 (i1+1)) else V (.nxt (c,i1))
def qkn(n:Nat)(b:qq)(a:qd):Option Bool:=((qjA n b).bind fun c=>bif (!c) then V true else(qfR n a).bind fun d=>V (!d)).bind fun b1=>bif b1 then V false else(mkS (a.Am.length:Int) (0:Int)).bind fun x1=>(qdv b a n x1 0).bind fun|.ret r=>V r|.nxt (f,_)=>(qcQ a n f 0).bind fun|.ret r=>V r|.nxt (x3,_)=>(qb0 n x3).bind fun r4=>V (!r4)
theorem qro{c:qq}{a:qd}(i:Ro w c cs1)(d:Ro w a cs2){r:Bool}(F:qkn n c a=V r):RetV prog 202 [oV qq cs1,oV qd cs2] w r:=by
 obtain⟨p1,k1,rfl,_⟩:=qbM i;obtain⟨O,N,Q,k3,o,l,rfl,s2,_,s4⟩:=qaD d;refine zV 84 func202 Z fun h=>zSR (qx h Z Z fun _ f h=>qx h Z Z fun _ b h=>X0 4 Z ?_);obtain⟨S,z,_,F,x⟩:=bindE F;refine qaV (fun e w'=>∃b1,S b1=V r/\e=[(2,vp f),(3,vp b),(17,.bool b1)]/\SH w w' [oX b (qaT a O Q o N k3 l) 50,oX f [oS p1 c.As.length k1] 46]) ?_ ?_
 ·refine X1 2 1 h Z (zcB h F (qqy (h.old i)) Z fun _ _ h F=>zp2 Z (qn (t:=13) F Z ?_ ?_))<;>intro F
  ·refine X0 5 Z ?_;obtain rfl:=qb F;exact rG ⟨_,x,rfl,h⟩ Z
  refine X1 3 0 h Z (zcB h F (qmV (h.old d)) Z fun _ _ h F=>X0 4 Z ?_);obtain rfl:=qb F;exact rG ⟨_,x,rfl,h⟩ Z
 rintro _ _ ⟨b1,F,rfl,h⟩;subst z;refine qg Z F ?_ ?_<;>intro F
 ·exact X0 4 Z (rb h F Z)
 refine X1 6 0 h Z ?_;obtain⟨x1,k,F⟩:=qc F;obtain⟨g1,g2,k⟩:=qS k;refine qam qa Int h Z Z Z Z Z Z Z Z Z g1 g2 k Z fun _ S1 p h=>X1 10 1 h Z ?_;obtain⟨o1,F,u⟩:=qc F;refine qm (rL (fun m e w'=>∃x2 i1,qdv c a m x2 i1=V o1/\e=[(2,vp f),(3,vp b),(5,oS p x1.length x1.length),(23,oS O a.Ab.length N),(24,vi (a.Ab.length:Int)),(25,vi i1)]/\SH w w' [oW S1 (x2:List Int) [oS p x1.length x1.length],oX b (qaT a O Q o N k3 l) 50,oX f [oS p1 c.As.length k1] 46]) n ⟨_,_,F,rfl,h⟩ Z ?_);rintro m1 _ _ ⟨x2,i1,F,rfl,h⟩;rcases m1 with _|m1
 ·cases F
 refine X0 5 Z (qg Z F ?_ ?_)<;>intro F
 ·refine zKSBSR ?_;obtain⟨y1,_,F,a5,_,_,_,_,a8,b8,c3,W⟩:=s2.ix F;obtain⟨_,_,rfl,s5⟩:=qT c3;refine zxe a8 b8 a5 Z (zc 0 (W.below h.below) Z (qp qa h Z Z Z fun _ _ h=>zs 0 h Z fun _ h=>X3 7 2 3 0 h Z (zcB h F (ql9 (h.old d) (h.old i) (qha y1 (h.oldS s5))) Z fun _ _ h F=>X0 2 Z (qg Z F ?_ ?_))))<;>intro F
  ·refine X0 4 Z ?_;obtain rfl:=qb F;replace F:=u;exact rb h F Z
  refine X2 9 0 0 h Z ?_;obtain⟨_,_,F,a6,_,_,_,_,a9,b9,rfl,X⟩:=s5.ix F;refine zxe a9 b9 a6 Z (zc 0 (X.below h.below) Z ?_);obtain⟨y3,_,F,C,_,_,_,_,b4,c0,rfl,Y⟩:=(h.sl 1 Z).1.ix F;refine zx b4 c0 ⟨C.1,qD C.2.1 (h.sl 1 Z).2⟩ Z (zc 0 Y Z (zp1 Z ?_));obtain⟨_,c5,F,D,_,_,_,_,J,L,rfl,a3⟩:=(h.sl 1 Z).1.ix F;refine zx J L ⟨D.1,qD D.2.1 (h.sl 1 Z).2⟩ Z (qav qa 1 0 (W64 (y3+1)) h Z c5 J L Z a3 Z Z Z Z Z Z Z fun _ h=>X0 6 Z ?_);replace h:=h.p [1,2,3] Z;exact rK ⟨_,_,F,rfl,h⟩ Z
 refine qr Z ?_;obtain rfl:=qb F;replace F:=u;refine X1 8 1 h Z ?_;obtain⟨o2,F,v⟩:=qc F;refine qm ?_;replace h:=h.p [0,1] Z;refine rL (fun m e w'=>∃x3 P,qcQ a m x3 P=V o2/\e=[(3,vp b),(5,oS p x1.length x1.length),(49,oS o a.Aj.length l),(50,vi (a.Aj.length:Int)),(51,vi P)]/\SH w w' [oW S1 (x3:List Int) [oS p x1.length x1.length],oX b (qaT a O Q o N k3 l) 50]) n ⟨_,_,F,rfl,h⟩ Z ?_;rintro m2 _ _ ⟨x3,P,F,rfl,h⟩;rcases m2 with _|m2
 ·cases F
 refine X0 5 Z (qg Z F ?_ ?_)<;>intro F
 ·refine zKSBSR ?_;obtain⟨y5,_,F,a7,_,_,_,_,b5,c1,c4,a4⟩:=s4.ix F;obtain rfl:=qaW c4;refine zxe b5 c1 a7 Z (zc 0 (a4.below h.below) Z (qp qa h Z Z Z fun _ s h=>zs 0 h Z fun _ h=>zNSS ?_));obtain⟨R,y,_,F,g⟩:=bindE F;refine qaV (fun e w'=>∃T,R T=V o2/\e=[(3,vp b),(5,oS p x1.length x1.length),(9,vp s),(49,oS o a.Aj.length l),(50,vi (a.Aj.length:Int)),(51,vi P),(69,.bool T)]/\SH w w' [oX s (qse y5) 255,oW S1 (x3:List Int) [oS p x1.length x1.length],oX b (qaT a O Q o N k3 l) 50]) ?_ ?_
  ·refine X1 5 0 h Z (qn (t:=58) F Z ?_ ?_)<;>intro F
   ·refine X1 8 0 h Z (qn (t:=63) F Z ?_ ?_)<;>intro F
    ·refine X0 7 Z ?_;obtain rfl:=qb F;exact rG ⟨_,g,rfl,h⟩ Z
    refine X2 7 2 0 h Z (zcB h F (qhB (h.old d)) Z fun _ _ h F=>X0 4 Z ?_);obtain rfl:=qb F;exact rG ⟨_,g,rfl,h⟩ Z
   refine X2 12 2 0 h Z (zcB h F (qhB (h.old d)) Z fun _ _ h F=>X0 4 Z ?_);obtain rfl:=qb F;exact rG ⟨_,g,rfl,h⟩ Z
  rintro _ _ ⟨T,F,rfl,h⟩;subst y;refine qg Z F ?_ ?_<;>intro F
  ·refine X0 4 Z ?_;obtain rfl:=qb F;replace F:=v;exact rb h F Z
  refine X1 7 0 h Z (qg Z F ?_ ?_)<;>intro F
  ·refine X1 4 0 h Z ?_;obtain⟨y6,_,F,H,_,_,_,_,b6,c2,rfl,A⟩:=(h.sl 1 Z).1.ix F;refine zx b6 c2 ⟨H.1,qD H.2.1 (h.sl 1 Z).2⟩ Z (zc 0 A Z (zp1 Z ?_));obtain⟨_,c6,F,I,_,_,_,_,K,M,rfl,B⟩:=(h.sl 1 Z).1.ix F;refine zx K M ⟨I.1,qD I.2.1 (h.sl 1 Z).2⟩ Z (qav qa 1 0 (W64 (y6+1)) h Z c6 K M Z B Z Z Z Z Z Z Z fun _ h=>X0 6 Z ?_);replace h:=h.p [1,2] Z;exact rK ⟨_,_,F,rfl,h⟩ Z
  refine X0 6 Z ?_;replace h:=h.p [1,2] Z;exact rK ⟨_,_,F,rfl,h⟩ Z
 refine qr Z ?_;obtain rfl:=qb F;replace F:=v;exact X0 3 Z (zcB h F (qgL (h.own 0 Z)) Z fun _ _ h F=>X0 3 Z (rb h F Z))
def qbV(i1:Int)(b:ql):Nat->(List Tplace)->Int->Option ((List Tplace)×Int)|0,_,_=>U|n+1,c,a=>bif decide (a<(b.Am.length:Int)) then(idx b.Am a).bind fun d=>(appS c ([(⟨i1,a,d,(a==(W64 ((b.Am.length:Int)-1)))⟩:Tplace)]:List Tplace)).bind fun x3=>qbV i1 b n x3 (W64 (a+1)) else V (c,a)
def qbU(d:qd):Nat->(List Tplace)->Int->Option ((List Tplace)×Int)|0,_,_=>U|n+1,b,a=>bif decide (a<(d.Aj.length:Int)) then(idx d.Aj a).bind fun c=>(appS b ([(⟨(-1),a,c.Ca,(c.Bx==1)⟩:Tplace)]:List Tplace)).bind fun f=>qbU d n f (W64 (a+1)) else V (b,a)
def qbT(d:qd):Nat->(List Tplace)->Int->Option ((List Tplace)×Int)|0,_,_=>U|n+1,x1,i1=>bif decide (i1<(d.Ab.length:Int)) then(idx d.Ab i1).bind fun b=>(qbV i1 b n x1 0).bind fun(a,_)=>qbT d n a (W64 (i1+1)) else V (x1,i1)
def qcH(n:Nat)(d:qd):Option (List Tplace):=(qbT d n ([]:List Tplace) 0).bind fun(x1,_)=>(qbU d n x1 0).bind fun(a,_)=>V a
theorem qfi{d:qd}(z:Ro w d cs1){r:(List Tplace)}(F:qcH n d=V r):RetV prog 203 [oV qd cs1] w r:=by
 obtain⟨t,s,p2,k2,X,k3,rfl,s1,_,s3⟩:=qaD z;refine zV 61 func203 Z fun h=>zSR (qx h Z Z fun _ a h=>X1 14 0 h Z ?_);replace h:=h.nil (α:=Tplace);obtain⟨o1,F,v⟩:=qc F;refine qm (rL (fun m e w'=>∃S1 Y g R x1 i1,qbT d m x1 i1=V o1/\e=[(1,vp a),(3,oS Y g R),(11,oS t d.Ab.length s),(12,vi (d.Ab.length:Int)),(13,vi i1)]/\SH w w' [oW S1 (x1:List Tplace) [oS Y g R],oX a (qaT d t p2 X s k2 k3) 50]) n ⟨_,_,_,_,_,_,F,rfl,h⟩ Z ?_);rintro W _ _ ⟨S1,Y,g,R,x1,i1,F,rfl,h⟩;obtain rfl:=(h.sl 0 Z).2;rcases W with _|W
 ·cases F
 refine X0 5 Z (qg Z F ?_ ?_)<;>intro F
 ·refine X0 6 Z ?_;obtain⟨l,_,F,D,_,_,_,_,J,M,P,A⟩:=s1.ix F;obtain⟨p5,k5,rfl,s4⟩:=qT P;refine zxe J M D Z (zc 0 (A.below h.below) Z (qp qa h Z Z Z fun _ o h=>zp1 Z (zs 0 h Z fun _ h=>X1 8 0 h Z ?_)));obtain⟨o2,F,x⟩:=qc F;refine qm (rL (fun m e w'=>∃S2 p6 i S x2 f,qbV i1 l m x2 f=V o2/\e=[(1,vp a),(3,oS p6 i S),(4,vi i1),(5,vp o),(11,oS t d.Ab.length s),(12,vi (d.Ab.length:Int)),(13,vi i1),(19,oS p5 l.Am.length k5),(20,vi (l.Am.length:Int)),(21,vi f)]/\SH w w' [oX o (qkG l p5 k5) 253,oW S2 (x2:List Tplace) [oS p6 i S],oX a (qaT d t p2 X s k2 k3) 50]) W ⟨_,_,_,_,_,_,F,rfl,h⟩ Z ?_);rintro m2 _ _ ⟨S2,p6,i,S,x2,f,F,rfl,h⟩;obtain rfl:=(h.sl 1 Z).2;rcases m2 with _|m2
  ·cases F
  refine X0 5 Z (qg Z F ?_ ?_)<;>intro F
  ·refine X0 6 Z ?_;obtain⟨y2,_,F,H,_,_,_,_,K,N,rfl,B⟩:=s4.ix F;refine zxe K N H Z (zc 0 (B.below h.below) Z (X1 14 0 h Z (r_v (qV qa [0,1,2,3] [.tmp 27,.tmp 28,.tmp 29,.tmp 35] Z Z Z Z Z Z Z Z) Z (qG qa [.tmp 36] _ ([(⟨i1,f,y2,(f==(W64 ((l.Am.length:Int)-1)))⟩:Tplace)]:List Tplace) h Z Z Z Z Z Z Z Z Z ⟨(qnq (⟨i1,f,y2,(f==(W64 ((l.Am.length:Int)-1)))⟩:Tplace)),G⟩ Z fun _ _ _ h=>?_))));obtain⟨_,b,F⟩:=qc F;obtain⟨g1,b⟩:=qN b;refine qbW qa 2 h Z (h.sl 0 Z).1 (h.sl 0 Z).2 Z Z Z Z Z Z Z Z Z g1 b Z fun _ _ _ _ h=>X0 7 Z ?_;replace h:=h.p [1,2,3] Z;exact rK ⟨_,_,_,_,_,_,F,rfl,h⟩ Z
  refine qr Z ?_;obtain rfl:=qb F;replace F:=x;refine X0 5 Z ?_;replace h:=h.p [1,2] Z;exact rK ⟨_,_,_,_,_,_,F,rfl,h⟩ Z
 refine qr Z ?_;obtain rfl:=qb F;replace F:=v;refine X1 8 1 h Z ?_;obtain⟨o3,F,y⟩:=qc F;refine qm ?_;replace h:=h.p [0] Z;refine rL (fun m e w'=>∃S5 p9 k T x4 p,qbU d m x4 p=V o3/\e=[(3,oS p9 k T),(42,oS X d.Aj.length k3),(43,vi (d.Aj.length:Int)),(44,vi p)]/\SH w w' [oW S5 (x4:List Tplace) [oS p9 k T]]) n ⟨_,_,_,_,_,_,F,rfl,h⟩ Z ?_;rintro m3 _ _ ⟨S5,p9,k,T,x4,p,F,rfl,h⟩;obtain rfl:=(h.sl 0 Z).2;rcases m3 with _|m3
 ·cases F
 refine X0 5 Z (qg Z F ?_ ?_)<;>intro F
 ·refine X0 6 Z ?_;obtain⟨u,_,F,I,_,_,_,_,L,O,Q,C⟩:=s3.ix F;obtain rfl:=qaW Q;refine zxe L O I Z (zc 0 (C.below h.below) Z (qp qa h Z Z Z fun _ _ h=>zp1 Z (zs 0 h Z fun _ h=>X2 9 0 0 h Z (r_v (qV qa [0,1,2,3] [.const (vi (-1)),.tmp 50,.tmp 52,.tmp 55] Z Z Z Z Z Z Z Z) Z (qG qa [.tmp 56] _ ([(⟨(-1),p,u.Ca,(u.Bx==1)⟩:Tplace)]:List Tplace) h Z Z Z Z Z Z Z Z Z ⟨(qnq (⟨(-1),p,u.Ca,(u.Bx==1)⟩:Tplace)),G⟩ Z fun _ _ _ h=>?_)))));obtain⟨_,c,F⟩:=qc F;obtain⟨g2,c⟩:=qN c;refine qbW qa 2 h Z (h.sl 0 Z).1 (h.sl 0 Z).2 Z Z Z Z Z Z Z Z Z g2 c Z fun _ _ _ _ h=>X0 7 Z ?_;replace h:=h.p [2] Z;exact rK ⟨_,_,_,_,_,_,F,rfl,h⟩ Z
 refine qr Z ?_;obtain rfl:=qb F;replace F:=y;refine X0 5 Z ?_;obtain rfl:=qb F;exact rO 0 h Z ⟨rfl,G⟩
def qbn(f:qE):Nat->Int->Option (Flow Bool Int)|0,_=>U|n+1,i1=>bif decide (i1<(f.Ar.length:Int)) then(idx f.Ar i1).bind fun a=>bif (i1==0) then bif (a != (-1)) then V (.ret false) else(idx f.Bz 0).bind fun d=>bif (d != 0) then V (.ret false) else bif decide (i1 > 0) then(qaS n a 0 (W64 (i1-1))).bind fun b=>bif (!b) then V (.ret false) else qbn f n (W64 (i1+1)) else qbn f n (W64 (i1+1)) else bif decide (i1 > 0) then(qaS n a 0 (W64 (i1-1))).bind fun c=>bif (!c) then V (.ret false) else qbn f n (W64 (i1+1)) else qbn f n (W64 (i1+1)) else V (.nxt i1)
def qhT(n:Nat)(a:qE):Option Bool:=(qbn a n 0).bind fun|.ret r=>V r|.nxt _=>V true
theorem qpk{H:qE}(c:Ro w H cs1){r:Bool}(F:qhT n H=V r):RetV prog 256 [oV qE cs1] w r:=by
 obtain⟨v,s,A,x,B,k3,C,y,rfl,D,s2,_,_⟩:=qaR c;refine zV 38 func256 Z fun h=>zSR (qx h Z Z fun _ b h=>X1 10 0 h Z ?_);obtain⟨z,F,a⟩:=qc F;refine qm (rL (fun m e w'=>∃i1,qbn H m i1=V z/\e=[(1,vp b),(6,oS v H.Ar.length s),(7,vi (H.Ar.length:Int)),(8,vi i1)]/\SH w w' [oX b (qho H v A B C s x k3 y) 183]) n ⟨_,F,rfl,h⟩ Z ?_);rintro u _ _ ⟨i1,F,rfl,h⟩;rcases u with _|u
 ·cases F
 refine X0 5 Z (qg Z F ?_ ?_)<;>intro F
 ·refine X0 6 Z ?_;obtain⟨_,_,F,g,_,_,_,_,k,o,rfl,d⟩:=D.ix F;refine zxe k o g Z (zc 0 (d.below h.below) Z (X0 8 Z (qn (t:=15) F Z ?_ ?_)))<;>intro F
  ·refine X0 6 Z (qn (t:=18) F Z ?_ ?_)<;>intro F
   ·refine X0 20 Z (qcq Z Z (X0 4 Z ?_));obtain rfl:=qb F;replace F:=a;exact rb h F Z
   refine X1 5 0 h Z ?_;obtain⟨_,_,F,i,_,_,_,_,l,p,rfl,f⟩:=s2.ix F;refine zxe l p i Z (X0 1 Z (zc 0 (f.below h.below) Z (X0 6 Z (qn (t:=26) F Z ?_ ?_))))<;>intro F
   ·refine X0 11 Z (qcq Z Z (X0 4 Z ?_));obtain rfl:=qb F;replace F:=a;exact rb h F Z
   refine X0 6 Z (qn (t:=29) F Z ?_ ?_)<;>intro F
   ·refine X0 7 Z (zcB h F qaE Z fun _ _ h F=>X0 6 Z (qg Z F ?_ ?_))<;>intro F
    ·refine X0 4 Z ?_;obtain rfl:=qb F;replace F:=a;exact rb h F Z
    exact X0 6 Z (rK ⟨_,F,rfl,h⟩ Z)
   exact X0 9 Z (qch Z Z (X0 6 Z (rK ⟨_,F,rfl,h⟩ Z)))
  refine X0 17 Z (qn (t:=29) F Z ?_ ?_)<;>intro F
  ·refine X0 7 Z (zcB h F qaE Z fun _ _ h F=>X0 6 Z (qg Z F ?_ ?_))<;>intro F
   ·refine X0 4 Z ?_;obtain rfl:=qb F;replace F:=a;exact rb h F Z
   exact X0 6 Z (rK ⟨_,F,rfl,h⟩ Z)
  exact X0 9 Z (qch Z Z (X0 6 Z (rK ⟨_,F,rfl,h⟩ Z)))
 refine qr Z ?_;obtain rfl:=qb F;replace F:=a;exact X0 4 Z (rb h F Z)
def qmf(n:Nat)(k:qE)(l:Int):Option Bool:=(qbA n k.Ar).bind fun a=>(qaS n a 1 8).bind fun b=>bif b then(qbA n k.Bz).bind fun c=>bif (c==a) then(qbA n k.Bu).bind fun r4=>bif (r4==a) then(qhT n k).bind fun d=>bif d then(qb9 n k.Bz 0 1000).bind fun f=>bif f then(qb9 n k.Bu 0 500).bind fun g=>bif g then(qbA n k.Bn).bind fun h=>bif (h==l) then(qb9 n k.Bn 0 (W64 (a-1))).bind fun i=>V i else V false else V false else V false else V false else V false else V false else V false
theorem qsr{f:qE}{sinks}(a:Ro w f cs1){r:Bool}(F:qmf n f sinks=V r):RetV prog 204 [oV qE cs1,vi sinks] w r:=by
 obtain⟨_,_,_,_,_,_,_,_,rfl,d,s2,b,c⟩:=qaR a;refine zV 53 func204 Z fun h=>zSR (qx h Z Z fun _ _ h=>X1 6 0 h Z (zcI h F (qcK ⟨_,_,rfl,(h.oldS d)⟩) Z fun _ _ h F=>X0 5 Z (zcB h F qaE Z fun _ _ h F=>zp1 Z (qn (t:=11) F Z ?_ ?_))))<;>intro F
 ·refine X1 5 0 h Z (zcI h F (qcK ⟨_,_,rfl,(h.oldS s2)⟩) Z fun _ _ h F=>X0 6 Z (qn (t:=18) F Z ?_ ?_))<;>intro F
  ·refine X1 5 0 h Z (zcI h F (qcK ⟨_,_,rfl,(h.oldS b)⟩) Z fun _ _ h F=>X0 6 Z (qn (t:=25) F Z ?_ ?_))<;>intro F
   ·refine X1 3 0 h Z (zcB h F (qpk (h.old a)) Z fun _ _ h F=>zp2 Z (qn (t:=29) F Z ?_ ?_))<;>intro F
    ·refine X1 5 0 h Z (zcB h F (qcs ⟨_,_,rfl,(h.oldS s2)⟩) Z fun _ _ h F=>zp2 Z (qn (t:=34) F Z ?_ ?_))<;>intro F
     ·refine X1 5 0 h Z (zcB h F (qcs ⟨_,_,rfl,(h.oldS b)⟩) Z fun _ _ h F=>zp2 Z (qn (t:=39) F Z ?_ ?_))<;>intro F
      ·refine X1 5 0 h Z (zcI h F (qcK ⟨_,_,rfl,(h.oldS c)⟩) Z fun _ _ h F=>X0 6 Z (qn (t:=46) F Z ?_ ?_))<;>intro F
       ·exact X1 9 0 h Z (zcB h F (qcs ⟨_,_,rfl,(h.oldS c)⟩) Z fun _ _ h F=>X0 3 Z (rb h F Z))
       exact X0 8 Z (rb h F Z)
      exact X0 15 Z (rb h F Z)
     exact X0 20 Z (rb h F Z)
    exact X0 25 Z (rb h F Z)
   exact X0 29 Z (rb h F Z)
  exact X0 36 Z (rb h F Z)
 exact X0 43 Z (rb h F Z)
def qfw(b:qj)(c:(List Int)):Nat->Int->Option (Flow Bool Int)|0,_=>U|n+1,a=>bif decide (a<(b.Ah.length:Int)) then(idx b.Ah a).bind fun f=>(idx c a).bind fun g=>(qmf n f g).bind fun d=>bif (!d) then V (.ret false) else qfw b c n (W64 (a+1)) else V (.nxt a)
def qdo(b:(List Tplace)):Nat->(List Int)->Int->Option ((List Int)×Int)|0,_,_=>U|n+1,a,i1=>bif decide (i1<(b.length:Int)) then(idx b i1).bind fun c=>bif (!c.drives) then(idx a c.net).bind fun d=>(idx a c.net).bind fun _=>qdo b n (setS a c.net (W64 (d+1))) (W64 (i1+1)) else qdo b n a (W64 (i1+1)) else V (a,i1)
def qjm(n:Nat)(b:qj):Option Bool:=((qkn n (⟨b.Av.As⟩:qq) (⟨b.Aa.Ab,b.Aa.Am,b.Aa.Aj⟩:qd)).bind fun c=>bif (!c) then V true else V ((b.Ah.length:Int) != (b.Aa.Am.length:Int))).bind fun b1=>bif b1 then V false else(mkS (b.Ah.length:Int) (0:Int)).bind fun x1=>(qcH n (⟨b.Aa.Ab,b.Aa.Am,b.Aa.Aj⟩:qd)).bind fun a=>(qdo a n x1 0).bind fun(d,_)=>(qfw b d n 0).bind fun|.ret r=>V r|.nxt _=>V true
theorem qrN{b:qj}(A:Ro w b cs1){r:Bool}(F:qjm n b=V r):RetV prog 153 [oV qj cs1] w r:=by
 obtain⟨p1,k1,p2,k2,p3,k3,p4,k4,p5,k5,rfl,s1,s2,s3,s4,s5⟩:=qaf A;refine zV 63 func153 Z fun h=>zSR (qx h Z Z fun _ a h=>X0 4 Z ?_);obtain⟨y,g,_,F,f⟩:=bindE F;refine qaV (fun e w'=>∃b1,y b1=V r/\e=[(1,vp a),(23,.bool b1)]/\SH w w' [oX a (qa5 b p1 p2 p3 p4 p5 k1 k2 k3 k4 k5) 53]) ?_ ?_
 ·refine X2 5 0 0 h Z (zcB h F (qro (qeH _ (h.oldS s1)) (qay _ (h.oldS s2) (h.oldS s3) (h.oldS s4))) Z fun _ _ h F=>zp2 Z (qn (t:=14) F Z ?_ ?_))<;>intro F
  ·refine X0 10 Z ?_;obtain rfl:=qb F;exact rG ⟨_,f,rfl,h⟩ Z
  refine X2 18 0 0 h Z ?_;obtain rfl:=qb F;exact rG ⟨_,f,rfl,h⟩ Z
 rintro _ _ ⟨b1,F,rfl,h⟩;subst g;refine qg Z F ?_ ?_<;>intro F
 ·exact X0 4 Z (rb h F Z)
 refine X1 6 0 h Z ?_;obtain⟨x1,c,F⟩:=qc F;obtain⟨g1,g2,c⟩:=qS c;refine qam qa Int h Z Z Z Z Z Z Z Z Z g1 g2 c Z fun _ S1 x h=>X1 7 1 h Z (zcL h F (qfi (qay _ (h.oldS s2) (h.oldS s3) (h.oldS s4))) Z fun u _ S2 p7 k6 h F=>X0 3 Z ?_);obtain⟨o1,F,z⟩:=qc F;refine qm (rL (fun m e w'=>∃v i1,qdo u m v i1=V o1/\e=[(1,vp a),(3,oS x x1.length x1.length),(30,oS p7 u.length k6),(31,vi (u.length:Int)),(32,vi i1)]/\SH w w' [oW S2 (u:List Tplace) [oS p7 u.length k6],oW S1 (v:List Int) [oS x x1.length x1.length],oX a (qa5 b p1 p2 p3 p4 p5 k1 k2 k3 k4 k5) 53]) n ⟨_,_,F,rfl,h⟩ Z ?_);rintro m1 _ _ ⟨v,i1,F,rfl,h⟩;rcases m1 with _|m1
 ·cases F
 refine X0 5 Z (qg Z F ?_ ?_)<;>intro F
 ·refine zKSBSR ?_;obtain⟨_,_,F,i,_,_,_,_,K,O,S,B⟩:=(h.sl 0 Z).1.ix F;obtain rfl:=qhP S;refine zx K O ⟨i.1,qD i.2.1 (h.sl 0 Z).2⟩ Z (zc 0 B Z (qp qa h Z Z Z fun _ _ h=>zs 0 h Z fun _ h=>X1 7 0 h Z (qg Z F ?_ ?_)))<;>intro F
  ·refine X1 4 0 h Z ?_;obtain⟨y2,_,F,k,_,_,_,_,L,P,rfl,C⟩:=(h.sl 2 Z).1.ix F;refine zx L P ⟨k.1,qD k.2.1 (h.sl 2 Z).2⟩ Z (zc 0 C Z (zp1 Z ?_));obtain⟨_,X,F,l,_,_,_,_,p,s,rfl,D⟩:=(h.sl 2 Z).1.ix F;refine zx p s ⟨l.1,qD l.2.1 (h.sl 2 Z).2⟩ Z (qav qa 2 0 (W64 (y2+1)) h Z X p s Z D Z Z Z Z Z Z Z fun _ h=>X0 6 Z ?_);replace h:=h.p [1,2,3] Z;exact rK ⟨_,_,F,rfl,h⟩ Z
  refine X0 6 Z ?_;replace h:=h.p [1,2,3] Z;exact rK ⟨_,_,F,rfl,h⟩ Z
 refine qr Z ?_;obtain rfl:=qb F;replace F:=z;refine X1 8 2 h Z ?_;obtain⟨o2,F,d⟩:=qc F;refine qm ?_;replace h:=h.p [1] Z;refine rL (fun m e w'=>∃Y,qfw b v m Y=V o2/\e=[(3,oS x x1.length x1.length),(48,oS p5 b.Ah.length k5),(49,vi (b.Ah.length:Int)),(50,vi Y)]/\SH w w' [oW S1 (v:List Int) [oS x x1.length x1.length]]) n ⟨_,F,rfl,h⟩ Z ?_;rintro m2 _ _ ⟨Y,F,rfl,h⟩;rcases m2 with _|m2
 ·cases F
 refine X0 5 Z (qg Z F ?_ ?_)<;>intro F
 ·refine X0 6 Z ?_;obtain⟨y4,_,F,J,_,_,_,_,M,Q,T,H⟩:=s5.ix F;obtain⟨_,_,_,_,_,_,_,_,rfl,s6,s7,s8,s9⟩:=qaR T;refine zxe M Q J Z (zc 0 (H.below h.below) Z (qp qa h Z Z Z fun _ _ h=>zp1 Z (zs 0 h Z fun _ h=>zNS (rD (Y1 1 0 h Z ?_)))));refine zd2 Z ?_;obtain⟨_,_,F,o,_,_,_,_,N,R,rfl,I⟩:=(h.sl 1 Z).1.ix F;refine zdx N R ⟨o.1,qD o.2.1 (h.sl 1 Z).2⟩ Z (zdc 0 I Z ?_);obtain⟨r2,W,F⟩:=qc F;refine qbi r2 (vsB _) (cB 204 Z) (fun _ hb=>qsr (qlv y4 ((h.ext hb).oldS s6) ((h.ext hb).oldS s7) ((h.ext hb).oldS s8) ((h.ext hb).oldS s9)) W) Z Z Z Z (zd1 Z (dN h fun _ h=>qg Z F ?_ ?_))<;>intro F
  ·refine X0 4 Z ?_;obtain rfl:=qb F;replace F:=d;exact rb h F Z
  refine X0 6 Z ?_;replace h:=h.p [1] Z;exact rK ⟨_,F,rfl,h⟩ Z
 refine qr Z ?_;obtain rfl:=qb F;replace F:=d;exact X0 4 Z (rb h F Z)
end Go.Fw


namespace Go.Fw
open Go
def qa3(a:(List Int)):Nat:=a.length
theorem qeO{a:(List Int)}(h:(rngL rngI) a)(w:qa3 a<=1048576):(okL okI) a:=
 ⟨by simp only[qa3] at w;omega,fun x b=>h.2 x b⟩
def qi1(x:qv):Prop:=(rngL rngI) x.Bo/\(rngL rngI) x.Bk/\(rngL rngI) x.Bj
def qeB(x:qv):Nat:=qa3 x.Bo+qa3 x.Bk+qa3 x.Bj
structure qji(x:qv):Prop where
 Bo:(okL okI) x.Bo
 Bk:(okL okI) x.Bk
 Bj:(okL okI) x.Bj
theorem qwY{x:qv}(h:qi1 x)(w:qeB x<=1048576):qji x:=⟨qeO (h.1) (by simp only[qeB] at w;omega),qeO (h.2.1) (by simp only[qeB] at w;omega),qeO (h.2.2) (by simp only[qeB] at w;omega)⟩
def qdq(a:(List qv)):Nat:=a.length+(a.map fun x=>qeB x).sum
theorem qrB{a:(List qv)}(h:(rngL qi1) a)(w:qdq a<=1048576):(okL qji) a:=
 ⟨by simp only[qdq] at w;omega,fun x b=>qwY (h.2 x b) (by have:=qcI (wt:=fun x:qv=>qeB x) b;simp only[qdq] at w;omega)⟩
def qnQ(x:qI):Prop:=rngI x.Bi/\rngI x.Bl/\rngI x.To/\rngI x.Br/\(rngL qi1) x.Bp/\(rngL qi1) x.Bf
def qjP(x:qI):Nat:=qdq x.Bp+qdq x.Bf
structure qpY(x:qI):Prop where
 Bi:okI x.Bi
 Bl:okI x.Bl
 To:okI x.To
 Br:okI x.Br
 Bp:(okL qji) x.Bp
 Bf:(okL qji) x.Bf
theorem qAp{x:qI}(h:qnQ x)(w:qjP x<=1048576):qpY x:=⟨h.1,h.2.1,h.2.2.1,h.2.2.2.1,qrB (h.2.2.2.2.1) (by simp only[qjP] at w;omega),qrB (h.2.2.2.2.2) (by simp only[qjP] at w;omega)⟩
theorem qgw{a:(List Int)}(h:qa3 a<=1048576):Ev (fun n=>qbB n a a) true:=by
 have f:a.length<=1048576:=by simp only[qa3] at h;omega
 unfold qbB;exact Ev.ff (by simp) (Ev.bind (b:=.nxt (a.length:Int)) (qjf (eqf:=fun _ x y=>V (!(x != y))) (fun x _=>Ev.now (by simp))
  (fun n=>by simp only[qgk,qk (je _),cond_false])
  (fun n j x c=>by
   have d:=(List.getElem?_eq_some_iff.1 c).1;simp only[qgk,qi d,cond_true,qao c,jd,Bool.not_not,wS j])) .done)
theorem qzR{a:qv}(h:qeB a<=1048576):Ev (fun n=>qjE n a a) true:=by
 unfold qjE;simp only[qeB] at h;exact Ev.bind (qgw (a:=a.Bo) (by omega)) (Ev.ff Z (Ev.bind (qgw (a:=a.Bk) (by omega)) (Ev.ff Z (Ev.bind (qgw (a:=a.Bj) (by omega)) (Ev.ff Z (.done))))))
theorem qtX{a:(List qv)}(h:qdq a<=1048576):Ev (fun n=>qiA n a a) true:=by
 have f:a.length<=1048576:=by simp only[qdq] at h;omega
 unfold qiA;exact Ev.ff (by simp) (Ev.bind (b:=.nxt (a.length:Int)) (qjf (eqf:=qjE) (fun x c=>qzR (by have:=qcI (wt:=fun x:qv=>qeB x) c;simp only[qdq] at h;omega))
  (fun n=>by simp only[qf5,qk (je _),cond_false])
  (fun n j x c=>by
   have d:=(List.getElem?_eq_some_iff.1 c).1;simp only[qf5,qi d,cond_true,qao c,jd,wS j])) .done)
theorem qCh{a:qI}(h:qjP a<=1048576):Ev (fun n=>qlU n a a) true:=by
 unfold qlU;simp only[qjP] at h;exact Ev.ff qaH (Ev.ff qaH (Ev.ff qaH (Ev.ff qaH (Ev.bind (qtX (a:=a.Bp) (by omega)) (Ev.ff Z (Ev.bind (qtX (a:=a.Bf) (by omega)) (Ev.ff Z (.done))))))))
def qin(a:(List qI)):Nat:=a.length+(a.map fun x=>qjP x).sum
theorem qyi{a:(List qI)}(h:(rngL qnQ) a)(w:qin a<=1048576):(okL qpY) a:=
 ⟨by simp only[qin] at w;omega,fun x b=>qAp (h.2 x b) (by have:=qcI (wt:=fun x:qI=>qjP x) b;simp only[qin] at w;omega)⟩
theorem qA3{a:(List qI)}(h:qin a<=1048576):Ev (fun n=>qmv n a a) true:=by
 have f:a.length<=1048576:=by simp only[qin] at h;omega
 unfold qmv;exact Ev.ff (by simp) (Ev.bind (b:=.nxt (a.length:Int)) (qjf (eqf:=qlU) (fun x c=>qCh (by have:=qcI (wt:=fun x:qI=>qjP x) c;simp only[qin] at h;omega))
  (fun n=>by simp only[qhI,qk (je _),cond_false])
  (fun n j x c=>by
   have d:=(List.getElem?_eq_some_iff.1 c).1;simp only[qhI,qi d,cond_true,qao c,jd,wS j])) .done)
def qnL(x:qan):Prop:=rngS x.Bc/\rngI x.Bx/\rngI x.Bu/\rngB x.Bt
def qlS(x:qan):Nat:=x.Bc.size
structure qop(x:qan):Prop where
 Bc:okS x.Bc
 Bx:okI x.Bx
 Bu:okI x.Bu
 Bt:okT x.Bt
theorem qz6{x:qan}(h:qnL x)(w:qlS x<=1048576):qop x:=⟨(by unfold okS;simp only[qlS] at w;omega),h.2.1,h.2.2.1,G⟩
def qim(a:(List qan)):Nat:=a.length+(a.map fun x=>qlS x).sum
theorem qyc{a:(List qan)}(h:(rngL qnL) a)(w:qim a<=1048576):(okL qop) a:=
 ⟨by simp only[qim] at w;omega,fun x b=>qz6 (h.2 x b) (by have:=qcI (wt:=fun x:qan=>qlS x) b;simp only[qim] at w;omega)⟩
def qlK(x:qB):Prop:=rngS x.Bc/\rngI x.Bi/\(rngL qnL) x.Bg/\(rngL qnQ) x.Ba/\(rngL rngI) x.Bq/\rngI x.Cc/\rngI x.Bw
def qgo(x:qB):Nat:=x.Bc.size+qim x.Bg+qin x.Ba+qa3 x.Bq
structure qpd(x:qB):Prop where
 Bc:okS x.Bc
 Bi:okI x.Bi
 Bg:(okL qop) x.Bg
 Ba:(okL qpY) x.Ba
 Bq:(okL okI) x.Bq
 Cc:okI x.Cc
 Bw:okI x.Bw
theorem qyV{x:qB}(h:qlK x)(w:qgo x<=1048576):qpd x:=⟨(by unfold okS;simp only[qgo] at w;omega),h.2.1,qyc (h.2.2.1) (by simp only[qgo] at w;omega),qyi (h.2.2.2.1) (by simp only[qgo] at w;omega),qeO (h.2.2.2.2.1) (by simp only[qgo] at w;omega),h.2.2.2.2.2.1,h.2.2.2.2.2.2⟩
def qgy(a:(List qB)):Nat:=a.length+(a.map fun x=>qgo x).sum
theorem qxx{a:(List qB)}(h:(rngL qlK) a)(w:qgy a<=1048576):(okL qpd) a:=
 ⟨by simp only[qgy] at w;omega,fun x b=>qyV (h.2 x b) (by have:=qcI (wt:=fun x:qB=>qgo x) b;simp only[qgy] at w;omega)⟩
def qmC(x:qq):Prop:=(rngL qlK) x.As
def qe3(x:qq):Nat:=qgy x.As
structure qiV(x:qq):Prop where
 As:(okL qpd) x.As
theorem qvk{x:qq}(h:qmC x)(w:qe3 x<=1048576):qiV x:=⟨qxx (h) (by simp only[qe3] at w;omega)⟩
def qgM(x:ql):Prop:=rngS x.Bc/\rngI x.Bv/\(rngL rngI) x.Am
def qbS(x:ql):Nat:=x.Bc.size+qa3 x.Am
structure qo0(x:ql):Prop where
 Bc:okS x.Bc
 Bv:okI x.Bv
 Am:(okL okI) x.Am
theorem qtx{x:ql}(h:qgM x)(w:qbS x<=1048576):qo0 x:=⟨(by unfold okS;simp only[qbS] at w;omega),h.2.1,qeO (h.2.2) (by simp only[qbS] at w;omega)⟩
def qb8(a:(List ql)):Nat:=a.length+(a.map fun x=>qbS x).sum
theorem qtc{a:(List ql)}(h:(rngL qgM) a)(w:qb8 a<=1048576):(okL qo0) a:=
 ⟨by simp only[qb8] at w;omega,fun x b=>qtx (h.2 x b) (by have:=qcI (wt:=fun x:ql=>qbS x) b;simp only[qb8] at w;omega)⟩
def qeS(a:(List ByteArray)):Nat:=a.length+(a.map fun x=>x.size).sum
theorem qu3{a:(List ByteArray)}(_:(rngL rngS) a)(w:qeS a<=1048576):(okL okS) a:=
 ⟨by simp only[qeS] at w;omega,fun x b=>(by unfold okS;have:=qcI (wt:=fun x:ByteArray=>x.size) b;simp only[qeS] at w;omega)⟩
def qlL(x:qP):Prop:=rngS x.Bc/\rngI x.Bx/\rngI x.Ca
def qiX(x:qP):Nat:=x.Bc.size
structure quv(x:qP):Prop where
 Bc:okS x.Bc
 Bx:okI x.Bx
 Ca:okI x.Ca
theorem qyA{x:qP}(h:qlL x)(w:qiX x<=1048576):quv x:=⟨(by unfold okS;simp only[qiX] at w;omega),h.2.1,h.2.2⟩
def qgK(a:(List qP)):Nat:=a.length+(a.map fun x=>qiX x).sum
theorem qw2{a:(List qP)}(h:(rngL qlL) a)(w:qgK a<=1048576):(okL quv) a:=
 ⟨by simp only[qgK] at w;omega,fun x b=>qyA (h.2 x b) (by have:=qcI (wt:=fun x:qP=>qiX x) b;simp only[qgK] at w;omega)⟩
def qnv(x:qd):Prop:=(rngL qgM) x.Ab/\(rngL rngS) x.Am/\(rngL qlL) x.Aj
def qe9(x:qd):Nat:=qb8 x.Ab+qeS x.Am+qgK x.Aj
structure qly(x:qd):Prop where
 Ab:(okL qo0) x.Ab
 Am:(okL okS) x.Am
 Aj:(okL quv) x.Aj
theorem qwp{x:qd}(h:qnv x)(w:qe9 x<=1048576):qly x:=⟨qtc (h.1) (by simp only[qe9] at w;omega),qu3 (h.2.1) (by simp only[qe9] at w;omega),qw2 (h.2.2) (by simp only[qe9] at w;omega)⟩
def qlM(x:qE):Prop:=(rngL rngI) x.Ar/\(rngL rngI) x.Bz/\(rngL rngI) x.Bu/\(rngL rngI) x.Bn
def qga(x:qE):Nat:=qa3 x.Ar+qa3 x.Bz+qa3 x.Bu+qa3 x.Bn
structure qqt(x:qE):Prop where
 Ar:(okL okI) x.Ar
 Bz:(okL okI) x.Bz
 Bu:(okL okI) x.Bu
 Bn:(okL okI) x.Bn
theorem qyB{x:qE}(h:qlM x)(w:qga x<=1048576):qqt x:=⟨qeO (h.1) (by simp only[qga] at w;omega),qeO (h.2.1) (by simp only[qga] at w;omega),qeO (h.2.2.1) (by simp only[qga] at w;omega),qeO (h.2.2.2) (by simp only[qga] at w;omega)⟩
def qgF(a:(List qE)):Nat:=a.length+(a.map fun x=>qga x).sum
theorem qxo{a:(List qE)}(h:(rngL qlM) a)(w:qgF a<=1048576):(okL qqt) a:=
 ⟨by simp only[qgF] at w;omega,fun x b=>qyB (h.2 x b) (by have:=qcI (wt:=fun x:qE=>qga x) b;simp only[qgF] at w;omega)⟩
def qph(x:qj):Prop:=qmC x.Av/\qnv x.Aa/\(rngL qlM) x.Ah
def qgJ(x:qj):Nat:=qe3 x.Av+qe9 x.Aa+qgF x.Ah
structure qm9(x:qj):Prop where
 Av:qiV x.Av
 Aa:qly x.Aa
 Ah:(okL qqt) x.Ah
theorem qxm{x:qj}(h:qph x)(w:qgJ x<=1048576):qm9 x:=⟨qvk (h.1) (by simp only[qgJ] at w;omega),qwp (h.2.1) (by simp only[qgJ] at w;omega),qxo (h.2.2) (by simp only[qgJ] at w;omega)⟩
theorem qBS{a:qan}(_:qlS a<=1048576):Ev (fun n=>qlD n a a) true:=by
 unfold qlD;exact Ev.ff qjC (Ev.ff qaH (Ev.ff qaH (Ev.ff quy (.done))))
theorem qAB{a:(List qan)}(h:qim a<=1048576):Ev (fun n=>qms n a a) true:=by
 have f:a.length<=1048576:=by simp only[qim] at h;omega
 unfold qms;exact Ev.ff (by simp) (Ev.bind (b:=.nxt (a.length:Int)) (qjf (eqf:=qlD) (fun x c=>qBS (by have:=qcI (wt:=fun x:qan=>qlS x) c;simp only[qim] at h;omega))
  (fun n=>by simp only[qhQ,qk (je _),cond_false])
  (fun n j x c=>by
   have d:=(List.getElem?_eq_some_iff.1 c).1;simp only[qhQ,qi d,cond_true,qao c,jd,wS j])) .done)
theorem qA9{a:qB}(h:qgo a<=1048576):Ev (fun n=>qkK n a a) true:=by
 unfold qkK;simp only[qgo] at h;exact Ev.ff qjC (Ev.ff qaH (Ev.bind (qAB (a:=a.Bg) (by omega)) (Ev.ff Z (Ev.bind (qA3 (a:=a.Ba) (by omega)) (Ev.ff Z (Ev.bind (qgw (a:=a.Bq) (by omega)) (Ev.ff Z (Ev.ff qaH (Ev.ff qaH (.done))))))))))
theorem qzk{a:(List qB)}(h:qgy a<=1048576):Ev (fun n=>qk5 n a a) true:=by
 have f:a.length<=1048576:=by simp only[qgy] at h;omega
 unfold qk5;exact Ev.ff (by simp) (Ev.bind (b:=.nxt (a.length:Int)) (qjf (eqf:=qkK) (fun x c=>qA9 (by have:=qcI (wt:=fun x:qB=>qgo x) c;simp only[qgy] at h;omega))
  (fun n=>by simp only[qgR,qk (je _),cond_false])
  (fun n j x c=>by
   have d:=(List.getElem?_eq_some_iff.1 c).1;simp only[qgR,qi d,cond_true,qao c,jd,wS j])) .done)
theorem qxl{a:qq}(h:qe3 a<=1048576):Ev (fun n=>qjD n a a) true:=by
 unfold qjD;simp only[qe3] at h;exact Ev.bind (qzk (a:=a.As) (by omega)) (Ev.ff Z (.done))
theorem qvV{a:ql}(h:qbS a<=1048576):Ev (fun n=>qgS n a a) true:=by
 unfold qgS;simp only[qbS] at h;exact Ev.ff qjC (Ev.ff qaH (Ev.bind (qgw (a:=a.Am) (by omega)) (Ev.ff Z (.done))))
theorem quA{a:(List ql)}(h:qb8 a<=1048576):Ev (fun n=>qif n a a) true:=by
 have f:a.length<=1048576:=by simp only[qb8] at h;omega
 unfold qif;exact Ev.ff (by simp) (Ev.bind (b:=.nxt (a.length:Int)) (qjf (eqf:=qgS) (fun x c=>qvV (by have:=qcI (wt:=fun x:ql=>qbS x) c;simp only[qb8] at h;omega))
  (fun n=>by simp only[qev,qk (je _),cond_false])
  (fun n j x c=>by
   have d:=(List.getElem?_eq_some_iff.1 c).1;simp only[qev,qi d,cond_true,qao c,jd,wS j])) .done)
theorem qw4{a:(List ByteArray)}(h:qeS a<=1048576):Ev (fun n=>qi7 n a a) true:=by
 have f:a.length<=1048576:=by simp only[qeS] at h;omega
 unfold qi7;exact Ev.ff (by simp) (Ev.bind (b:=.nxt (a.length:Int)) (qjf (eqf:=fun _ x y=>V (!(x.toList != y.toList))) (fun x _=>Ev.now (by simp))
  (fun n=>by simp only[qfz,qk (je _),cond_false])
  (fun n j x c=>by
   have d:=(List.getElem?_eq_some_iff.1 c).1;simp only[qfz,qi d,cond_true,qao c,jd,Bool.not_not,wS j])) .done)
theorem qBh{a:qP}(_:qiX a<=1048576):Ev (fun n=>qkx n a a) true:=by
 unfold qkx;exact Ev.ff qjC (Ev.ff qaH (Ev.ff qaH (.done)))
theorem qzQ{a:(List qP)}(h:qgK a<=1048576):Ev (fun n=>qlb n a a) true:=by
 have f:a.length<=1048576:=by simp only[qgK] at h;omega
 unfold qlb;exact Ev.ff (by simp) (Ev.bind (b:=.nxt (a.length:Int)) (qjf (eqf:=qkx) (fun x c=>qBh (by have:=qcI (wt:=fun x:qP=>qiX x) c;simp only[qgK] at h;omega))
  (fun n=>by simp only[qgP,qk (je _),cond_false])
  (fun n j x c=>by
   have d:=(List.getElem?_eq_some_iff.1 c).1;simp only[qgP,qi d,cond_true,qao c,jd,wS j])) .done)
theorem qyx{a:qd}(h:qe9 a<=1048576):Ev (fun n=>qkj n a a) true:=by
 unfold qkj;simp only[qe9] at h;exact Ev.bind (quA (a:=a.Ab) (by omega)) (Ev.ff Z (Ev.bind (qw4 (a:=a.Am) (by omega)) (Ev.ff Z (Ev.bind (qzQ (a:=a.Aj) (by omega)) (Ev.ff Z (.done))))))
theorem qAL{a:qE}(h:qga a<=1048576):Ev (fun n=>qkw n a a) true:=by
 unfold qkw;simp only[qga] at h;exact Ev.bind (qgw (a:=a.Ar) (by omega)) (Ev.ff Z (Ev.bind (qgw (a:=a.Bz) (by omega)) (Ev.ff Z (Ev.bind (qgw (a:=a.Bu) (by omega)) (Ev.ff Z (Ev.bind (qgw (a:=a.Bn) (by omega)) (Ev.ff Z (.done))))))))
theorem qzu{a:(List qE)}(h:qgF a<=1048576):Ev (fun n=>qln n a a) true:=by
 have f:a.length<=1048576:=by simp only[qgF] at h;omega
 unfold qln;exact Ev.ff (by simp) (Ev.bind (b:=.nxt (a.length:Int)) (qjf (eqf:=qkw) (fun x c=>qAL (by have:=qcI (wt:=fun x:qE=>qga x) c;simp only[qgF] at h;omega))
  (fun n=>by simp only[qgZ,qk (je _),cond_false])
  (fun n j x c=>by
   have d:=(List.getElem?_eq_some_iff.1 c).1;simp only[qgZ,qi d,cond_true,qao c,jd,wS j])) .done)
theorem qzP{a:qj}(h:qgJ a<=1048576):Ev (fun n=>qld n a a) true:=by
 unfold qld;simp only[qgJ] at h;exact Ev.bind (qxl (a:=a.Av) (by omega)) (Ev.ff Z (Ev.bind (qyx (a:=a.Aa) (by omega)) (Ev.ff Z (Ev.bind (qzu (a:=a.Ah) (by omega)) (Ev.ff Z (.done))))))
theorem qhd{a:(List Int)}{left:Int}(h:(rngL rngI) a)(b:0<=left)(c:left<=1048576):Sz (fun n=>qcc n a left) (fun r=>r=left-(qa3 a:Int)):=
 Sz.less b c (by omega) (by have:=h.1;omega) (fun _=>rfl)
theorem qzy{a:qv}{left:Int}(h:qi1 a)(g:0<=left)(i:left<=1048576):Sz (fun n=>qjq n a left) (fun r=>r=left-(qeB a:Int)):=by
 unfold qjq;obtain⟨b,c,d⟩:=h;exact Sz.step (qhd (a:=a.Bo) b (by omega) (by omega)) fun s k m=>Sz.step (qhd (a:=a.Bk) c (by omega) (by omega)) fun t l o=>Sz.step (qhd (a:=a.Bj) d (by omega) (by omega)) fun u f p=>Sz.done f (by simp only[qeB];omega)
theorem qt9{a:(List qv)}{left:Int}(h:(rngL qi1) a)(d:0<=left)(f:left<=1048576):Sz (fun n=>qkc n a left) (fun r=>r=left-(qdq a:Int)):=
 Sz.list (Lf:=qe6 a) (wt:=fun x:qv=>qeB x) (el:=qjq) d f h.1 (fun x b left p q=>qzy (h.2 x b) p q)
  (fun c n=>by simp only[qe6,qk (je _),cond_false])
  (fun c n j x b=>by
   have g:=(List.getElem?_eq_some_iff.1 b).1;have i:=h.1;simp only[qe6,qi g,cond_true,qao b,jd,wS j])
  (fun _=>rfl)
theorem qBQ{a:qI}{left:Int}(h:qnQ a)(l:0<=left)(m:left<=1048576):Sz (fun n=>qlX n a left) (fun r=>r=left-(qjP a:Int)):=by
 unfold qlX;obtain⟨d,f,g,i,b,c⟩:=h;exact Sz.step (qt9 (a:=a.Bp) b (by omega) (by omega)) fun t o p=>Sz.step (qt9 (a:=a.Bf) c (by omega) (by omega)) fun u k s=>Sz.done k (by simp only[qjP];omega)
theorem qBA{a:(List qI)}{left:Int}(h:(rngL qnQ) a)(d:0<=left)(f:left<=1048576):Sz (fun n=>qoQ n a left) (fun r=>r=left-(qin a:Int)):=
 Sz.list (Lf:=qgu a) (wt:=fun x:qI=>qjP x) (el:=qlX) d f h.1 (fun x b left p q=>qBQ (h.2 x b) p q)
  (fun c n=>by simp only[qgu,qk (je _),cond_false])
  (fun c n j x b=>by
   have g:=(List.getElem?_eq_some_iff.1 b).1;have i:=h.1;simp only[qgu,qi g,cond_true,qao b,jd,wS j])
  (fun _=>rfl)
theorem qCd{a:qan}{left:Int}(h:qnL a)(i:0<=left)(k:left<=1048576):Sz (fun n=>ql2 n a left) (fun r=>r=left-(qlS a:Int)):=by
 unfold ql2;obtain⟨b,c,d,f⟩:=h;exact Sz.strStep b (by omega) (by omega) fun g l=>Sz.done g (by simp only[qlS];omega)
theorem qBx{a:(List qan)}{left:Int}(h:(rngL qnL) a)(d:0<=left)(f:left<=1048576):Sz (fun n=>qoT n a left) (fun r=>r=left-(qim a:Int)):=
 Sz.list (Lf:=qgv a) (wt:=fun x:qan=>qlS x) (el:=ql2) d f h.1 (fun x b left p q=>qCd (h.2 x b) p q)
  (fun c n=>by simp only[qgv,qk (je _),cond_false])
  (fun c n j x b=>by
   have g:=(List.getElem?_eq_some_iff.1 b).1;have i:=h.1;simp only[qgv,qi g,cond_true,qao b,jd,wS j])
  (fun _=>rfl)
theorem qBp{a:qB}{left:Int}(h:qlK a)(m:0<=left)(o:left<=1048576):Sz (fun n=>qkv n a left) (fun r=>r=left-(qgo a:Int)):=by
 unfold qkv;obtain⟨b,g,c,d,f,i,k⟩:=h;exact Sz.strStep b (by omega) (by omega) fun p u=>Sz.step (qBx (a:=a.Bg) c (by omega) (by omega)) fun z s v=>Sz.step (qBA (a:=a.Ba) d (by omega) (by omega)) fun A t x=>Sz.step (qhd (a:=a.Bq) f (by omega) (by omega)) fun B l y=>Sz.done l (by simp only[qgo];omega)
theorem qAj{a:(List qB)}{left:Int}(h:(rngL qlK) a)(d:0<=left)(f:left<=1048576):Sz (fun n=>qnG n a left) (fun r=>r=left-(qgy a:Int)):=
 Sz.list (Lf:=qfp a) (wt:=fun x:qB=>qgo x) (el:=qkv) d f h.1 (fun x b left p q=>qBp (h.2 x b) p q)
  (fun c n=>by simp only[qfp,qk (je _),cond_false])
  (fun c n j x b=>by
   have g:=(List.getElem?_eq_some_iff.1 b).1;have i:=h.1;simp only[qfp,qi g,cond_true,qao b,jd,wS j])
  (fun _=>rfl)
theorem qxa{a:qq}{left:Int}(h:qmC a)(d:0<=left)(f:left<=1048576):Sz (fun n=>qjr n a left) (fun r=>r=left-(qe3 a:Int)):=by
 unfold qjr;have b:=h;exact Sz.step (qAj (a:=a.As) b (by omega) (by omega)) fun i c g=>Sz.done c (by simp only[qe3];omega)
theorem qv5{a:ql}{left:Int}(h:qgM a)(g:0<=left)(i:left<=1048576):Sz (fun n=>qg3 n a left) (fun r=>r=left-(qbS a:Int)):=by
 unfold qg3;obtain⟨b,d,c⟩:=h;exact Sz.strStep b (by omega) (by omega) fun k l=>Sz.step (qhd (a:=a.Am) c (by omega) (by omega)) fun o f m=>Sz.done f (by simp only[qbS];omega)
theorem quP{a:(List ql)}{left:Int}(h:(rngL qgM) a)(d:0<=left)(f:left<=1048576):Sz (fun n=>qjS n a left) (fun r=>r=left-(qb8 a:Int)):=
 Sz.list (Lf:=qda a) (wt:=fun x:ql=>qbS x) (el:=qg3) d f h.1 (fun x b left p q=>qv5 (h.2 x b) p q)
  (fun c n=>by simp only[qda,qk (je _),cond_false])
  (fun c n j x b=>by
   have g:=(List.getElem?_eq_some_iff.1 b).1;have i:=h.1;simp only[qda,qi g,cond_true,qao b,jd,wS j])
  (fun _=>rfl)
theorem qww{a:(List ByteArray)}{left:Int}(h:(rngL rngS) a)(d:0<=left)(f:left<=1048576):Sz (fun n=>ql4 n a left) (fun r=>r=left-(qeS a:Int)):=
 Sz.list (Lf:=qd7 a) (wt:=fun x:ByteArray=>x.size) (el:=fun _ (x:ByteArray) b=>V (W64 (b-(x.size:Int)))) d f h.1 (fun x c left p q=>Sz.str (h.2 x c) p q)
  (fun b n=>by simp only[qd7,qk (je _),cond_false])
  (fun b n j x c=>by
   have g:=(List.getElem?_eq_some_iff.1 c).1;have i:=h.1;simp only[qd7,qi g,cond_true,qao c,jd,wS j])
  (fun _=>rfl)
theorem qAZ{a:qP}{left:Int}(h:qlL a)(g:0<=left)(i:left<=1048576):Sz (fun n=>qkI n a left) (fun r=>r=left-(qiX a:Int)):=by
 unfold qkI;obtain⟨b,c,d⟩:=h;exact Sz.strStep b (by omega) (by omega) fun f k=>Sz.done f (by simp only[qiX];omega)
theorem qzM{a:(List qP)}{left:Int}(h:(rngL qlL) a)(d:0<=left)(f:left<=1048576):Sz (fun n=>qnF n a left) (fun r=>r=left-(qgK a:Int)):=
 Sz.list (Lf:=qfu a) (wt:=fun x:qP=>qiX x) (el:=qkI) d f h.1 (fun x b left p q=>qAZ (h.2 x b) p q)
  (fun c n=>by simp only[qfu,qk (je _),cond_false])
  (fun c n j x b=>by
   have g:=(List.getElem?_eq_some_iff.1 b).1;have i:=h.1;simp only[qfu,qi g,cond_true,qao b,jd,wS j])
  (fun _=>rfl)
theorem qyz{a:qd}{left:Int}(h:qnv a)(g:0<=left)(i:left<=1048576):Sz (fun n=>qkl n a left) (fun r=>r=left-(qe9 a:Int)):=by
 unfold qkl;obtain⟨b,c,d⟩:=h;exact Sz.step (quP (a:=a.Ab) b (by omega) (by omega)) fun s k m=>Sz.step (qww (a:=a.Am) c (by omega) (by omega)) fun t l o=>Sz.step (qzM (a:=a.Aj) d (by omega) (by omega)) fun u f p=>Sz.done f (by simp only[qe9];omega)
theorem qBq{a:qE}{left:Int}(h:qlM a)(i:0<=left)(k:left<=1048576):Sz (fun n=>qkO n a left) (fun r=>r=left-(qga a:Int)):=by
 unfold qkO;obtain⟨b,c,d,f⟩:=h;exact Sz.step (qhd (a:=a.Ar) b (by omega) (by omega)) fun v l p=>Sz.step (qhd (a:=a.Bz) c (by omega) (by omega)) fun x m s=>Sz.step (qhd (a:=a.Bu) d (by omega) (by omega)) fun y o t=>Sz.step (qhd (a:=a.Bn) f (by omega) (by omega)) fun z g u=>Sz.done g (by simp only[qga];omega)
theorem qAl{a:(List qE)}{left:Int}(h:(rngL qlM) a)(d:0<=left)(f:left<=1048576):Sz (fun n=>qnm n a left) (fun r=>r=left-(qgF a:Int)):=
 Sz.list (Lf:=qfq a) (wt:=fun x:qE=>qga x) (el:=qkO) d f h.1 (fun x b left p q=>qBq (h.2 x b) p q)
  (fun c n=>by simp only[qfq,qk (je _),cond_false])
  (fun c n j x b=>by
   have g:=(List.getElem?_eq_some_iff.1 b).1;have i:=h.1;simp only[qfq,qi g,cond_true,qao b,jd,wS j])
  (fun _=>rfl)
theorem qzC{a:qj}{left:Int}(h:qph a)(g:0<=left)(i:left<=1048576):Sz (fun n=>qla n a left) (fun r=>r=left-(qgJ a:Int)):=by
 unfold qla;obtain⟨b,c,d⟩:=h;exact Sz.step (qxa (a:=a.Av) b (by omega) (by omega)) fun s k m=>Sz.step (qyz (a:=a.Aa) c (by omega) (by omega)) fun t l o=>Sz.step (qAl (a:=a.Ah) d (by omega) (by omega)) fun u f p=>Sz.done f (by simp only[qgJ];omega)
theorem qg5{a:(List Int)}(h:qa3 a<=1048576):Ev (fun n=>qbK n a) a:=by
 have i:a.length<=1048576:=by simp only[qa3] at h;omega
 unfold qbK;exact Ev.bindN (qjk (by omega)) (Ev.bind (b:=(a,(a.length:Int))) (qka (cp:=fun _ x=>V x) (fun _ _=>.done)
  (fun c n=>by simp only[qf8,qk (je _),cond_false])
  (fun c n j x y d g=>by
   have f:=(List.getElem?_eq_some_iff.1 d).1;simp only[qf8,qi f,cond_true,qao d,qao g,jd,wS j])) .done)
theorem qzS{a:qv}(h:qeB a<=1048576):Ev (fun n=>qjl n a) a:=by
 unfold qjl;simp only[qeB] at h;exact Ev.bind (qg5 (a:=a.Bo) (by omega)) (Ev.bind (qg5 (a:=a.Bk) (by omega)) (Ev.bind (qg5 (a:=a.Bj) (by omega)) (.done)))
theorem qul{a:(List qv)}(h:qdq a<=1048576):Ev (fun n=>qiv n a) a:=by
 have i:a.length<=1048576:=by simp only[qdq] at h;omega
 unfold qiv;exact Ev.bindN (qjk (by omega)) (Ev.bind (b:=(a,(a.length:Int))) (qka (cp:=qjl) (fun x c=>qzS (by have:=qcI (wt:=fun x:qv=>qeB x) c;simp only[qdq] at h;omega))
  (fun d n=>by simp only[qgg,qk (je _),cond_false])
  (fun d n j x y c g=>by
   have f:=(List.getElem?_eq_some_iff.1 c).1;simp only[qgg,qi f,cond_true,qao c,qao g,jd,wS j])) .done)
theorem qCb{a:qI}(h:qjP a<=1048576):Ev (fun n=>qlV n a) a:=by
 unfold qlV;simp only[qjP] at h;exact Ev.bind (qul (a:=a.Bp) (by omega)) (Ev.bind (qul (a:=a.Bf) (by omega)) (.done))
theorem qAz{a:(List qI)}(h:qin a<=1048576):Ev (fun n=>qmm n a) a:=by
 have i:a.length<=1048576:=by simp only[qin] at h;omega
 unfold qmm;exact Ev.bindN (qjk (by omega)) (Ev.bind (b:=(a,(a.length:Int))) (qka (cp:=qlV) (fun x c=>qCb (by have:=qcI (wt:=fun x:qI=>qjP x) c;simp only[qin] at h;omega))
  (fun d n=>by simp only[qhN,qk (je _),cond_false])
  (fun d n j x y c g=>by
   have f:=(List.getElem?_eq_some_iff.1 c).1;simp only[qhN,qi f,cond_true,qao c,qao g,jd,wS j])) .done)
theorem qB9{a:qan}(_:qlS a<=1048576):Ev (fun n=>qlz n a) a:=by
 unfold qlz;exact .done
theorem qBs{a:(List qan)}(h:qim a<=1048576):Ev (fun n=>qmq n a) a:=by
 have i:a.length<=1048576:=by simp only[qim] at h;omega
 unfold qmq;exact Ev.bindN (qjk (by omega)) (Ev.bind (b:=(a,(a.length:Int))) (qka (cp:=qlz) (fun x c=>qB9 (by have:=qcI (wt:=fun x:qan=>qlS x) c;simp only[qim] at h;omega))
  (fun d n=>by simp only[qhF,qk (je _),cond_false])
  (fun d n j x y c g=>by
   have f:=(List.getElem?_eq_some_iff.1 c).1;simp only[qhF,qi f,cond_true,qao c,qao g,jd,wS j])) .done)
theorem qA7{a:qB}(h:qgo a<=1048576):Ev (fun n=>qkQ n a) a:=by
 unfold qkQ;simp only[qgo] at h;exact Ev.bind (qBs (a:=a.Bg) (by omega)) (Ev.bind (qAz (a:=a.Ba) (by omega)) (Ev.bind (qg5 (a:=a.Bq) (by omega)) (.done)))
theorem qAb{a:(List qB)}(h:qgy a<=1048576):Ev (fun n=>qlf n a) a:=by
 have i:a.length<=1048576:=by simp only[qgy] at h;omega
 unfold qlf;exact Ev.bindN (qjk (by omega)) (Ev.bind (b:=(a,(a.length:Int))) (qka (cp:=qkQ) (fun x c=>qA7 (by have:=qcI (wt:=fun x:qB=>qgo x) c;simp only[qgy] at h;omega))
  (fun d n=>by simp only[qgW,qk (je _),cond_false])
  (fun d n j x y c g=>by
   have f:=(List.getElem?_eq_some_iff.1 c).1;simp only[qgW,qi f,cond_true,qao c,qao g,jd,wS j])) .done)
theorem qw8{a:qq}(h:qe3 a<=1048576):Ev (fun n=>qjn n a) a:=by
 unfold qjn;simp only[qe3] at h;exact Ev.bind (qAb (a:=a.As) (by omega)) (.done)
theorem qwe{a:ql}(h:qbS a<=1048576):Ev (fun n=>qgQ n a) a:=by
 unfold qgQ;simp only[qbS] at h;exact Ev.bind (qg5 (a:=a.Am) (by omega)) (.done)
theorem quZ{a:(List ql)}(h:qb8 a<=1048576):Ev (fun n=>qh3 n a) a:=by
 have i:a.length<=1048576:=by simp only[qb8] at h;omega
 unfold qh3;exact Ev.bindN (qjk (by omega)) (Ev.bind (b:=(a,(a.length:Int))) (qka (cp:=qgQ) (fun x c=>qwe (by have:=qcI (wt:=fun x:ql=>qbS x) c;simp only[qb8] at h;omega))
  (fun d n=>by simp only[qex,qk (je _),cond_false])
  (fun d n j x y c g=>by
   have f:=(List.getElem?_eq_some_iff.1 c).1;simp only[qex,qi f,cond_true,qao c,qao g,jd,wS j])) .done)
theorem qwD{a:(List ByteArray)}(h:qeS a<=1048576):Ev (fun n=>qjc n a) a:=by
 have i:a.length<=1048576:=by simp only[qeS] at h;omega
 unfold qjc;exact Ev.bindN (qjk (by omega)) (Ev.bind (b:=(a,(a.length:Int))) (qka (cp:=fun _ x=>V x) (fun _ _=>.done)
  (fun c n=>by simp only[qfT,qk (je _),cond_false])
  (fun c n j x y d g=>by
   have f:=(List.getElem?_eq_some_iff.1 d).1;simp only[qfT,qi f,cond_true,qao d,qao g,jd,wS j])) .done)
theorem qBE{a:qP}(_:qiX a<=1048576):Ev (fun n=>qkS n a) a:=by
 unfold qkS;exact .done
theorem qzK{a:(List qP)}(h:qgK a<=1048576):Ev (fun n=>qlm n a) a:=by
 have i:a.length<=1048576:=by simp only[qgK] at h;omega
 unfold qlm;exact Ev.bindN (qjk (by omega)) (Ev.bind (b:=(a,(a.length:Int))) (qka (cp:=qkS) (fun x c=>qBE (by have:=qcI (wt:=fun x:qP=>qiX x) c;simp only[qgK] at h;omega))
  (fun d n=>by simp only[qg1,qk (je _),cond_false])
  (fun d n j x y c g=>by
   have f:=(List.getElem?_eq_some_iff.1 c).1;simp only[qg1,qi f,cond_true,qao c,qao g,jd,wS j])) .done)
theorem qyK{a:qd}(h:qe9 a<=1048576):Ev (fun n=>qkh n a) a:=by
 unfold qkh;simp only[qe9] at h;exact Ev.bind (quZ (a:=a.Ab) (by omega)) (Ev.bind (qwD (a:=a.Am) (by omega)) (Ev.bind (qzK (a:=a.Aj) (by omega)) (.done)))
theorem qBC{a:qE}(h:qga a<=1048576):Ev (fun n=>qkT n a) a:=by
 unfold qkT;simp only[qga] at h;exact Ev.bind (qg5 (a:=a.Ar) (by omega)) (Ev.bind (qg5 (a:=a.Bz) (by omega)) (Ev.bind (qg5 (a:=a.Bu) (by omega)) (Ev.bind (qg5 (a:=a.Bn) (by omega)) (.done))))
theorem qy7{a:(List qE)}(h:qgF a<=1048576):Ev (fun n=>qlo n a) a:=by
 have i:a.length<=1048576:=by simp only[qgF] at h;omega
 unfold qlo;exact Ev.bindN (qjk (by omega)) (Ev.bind (b:=(a,(a.length:Int))) (qka (cp:=qkT) (fun x c=>qBC (by have:=qcI (wt:=fun x:qE=>qga x) c;simp only[qgF] at h;omega))
  (fun d n=>by simp only[qg2,qk (je _),cond_false])
  (fun d n j x y c g=>by
   have f:=(List.getElem?_eq_some_iff.1 c).1;simp only[qg2,qi f,cond_true,qao c,qao g,jd,wS j])) .done)
theorem qzw{a:qj}(h:qgJ a<=1048576):Ev (fun n=>qlp n a) a:=by
 unfold qlp;simp only[qgJ] at h;exact Ev.bind (qw8 (a:=a.Av) (by omega)) (Ev.bind (qyK (a:=a.Aa) (by omega)) (Ev.bind (qy7 (a:=a.Ah) (by omega)) (.done)))
end Go.Fw


namespace Go.Fw
open Go
set_option maxRecDepth 100000
theorem qcA{n:Nat}{x lo hi:Int}:qal n x lo hi=V (inI x lo hi):=by
 simp only[qal,qoo,qqj];rfl
theorem qcR{n:Nat}{x lo hi:Int}:qaS n x lo hi=V (inI x lo hi):=by
 simp only[qaS,qoo,qqj];rfl
def bt(s:ByteArray)(j:Nat):Nat:=(s.data.toList.getD j 0).toNat
theorem qAu{s:ByteArray}{j:Nat}(h:j<s.size):atS s (j:Int)=V (bt s j:Int):=by
 have a:j<s.data.size:=h;have b:j<s.data.toList.length:=by simpa using a
 unfold atS;rw[if_pos (by omega),jr];have:s[j]?=V (s.data.toList.getD j 0):=by
  rw[getElem?_pos s j h,jF,jh b]
  rfl
 rw[this]
 rfl
def letB(b:Nat):Bool:=decide (97<=b)&&decide (b<=122)
def digB(b:Nat):Bool:=decide (48<=b)&&decide (b<=57)
def chB(s:ByteArray)(j:Nat):Bool:=letB (bt s j) || digB (bt s j)&&decide (0<j)
def nameB(s:ByteArray):Bool:=(decide (1<=s.size)&&decide (s.size<=8))&&allN (chB s) s.size
theorem qnM{s:ByteArray}(h:okS s):Ev (fun n=>qgz n s) (nameB s):=by
 unfold okS at h;have d:Ev (fun n=>qer s n 0) (bif allN (chB s) s.size then .nxt (s.size:Int) else .ret false):=by
  refine qff ?_ (fun j a X f=>?_)
  ·exact Ev.succ (by simp only[qer,qk (je _),cond_false];exact .done)
  ·refine Ev.succ ?_;simp only[qer,qi a,cond_true,qAu a,jd,qoo,qqj,wS j];have e1:(decide ((bt s j:Int)>=97)&&decide ((bt s j:Int)<=122))=letB (bt s j):=by unfold letB;rw[jn];simp;omega
   have b:(decide ((bt s j:Int)>=48)&&decide ((bt s j:Int)<=57))=digB (bt s j):=by unfold digB;rw[jn];simp;omega
   have c:decide ((j:Int) > 0)=decide (0<j):=by rw[jn];simp
   rw[e1,b,c];unfold chB;cases letB (bt s j)<;>cases digB (bt s j)<;>cases decide (0<j)<;>first|exact f|exact .done
 unfold qgz;refine Ev.cast (r:=bif allN (chB s) s.size then(decide (1<=s.size)&&decide (s.size<=8)) else false) (Ev.bindB d (fun _=>?_) (fun _=>.done)) ?_
 ·simp only[qoo,qqj];exact Ev.now (by congr 1;rw[jn];simp;omega)
 ·unfold nameB;cases allN (chB s) s.size<;>simp
def cutset:List UInt8:=[97,98,99,100,101,102,103,104,105,106,107,108,109,110,111,112,113,114,115,116,117,118,119,120,121,122,48,49,50,51,52,53,54,55,56,57]
theorem qsZ(b:UInt8):cutset.contains b=(letB b.toNat || digB b.toNat):=by
 have a:(List.range 256).all (fun m=>cutset.contains (UInt8.ofNat m)==(letB (UInt8.ofNat m).toNat || digB (UInt8.ofNat m).toNat))=true:=by kernel_rfl
 have h:=List.all_eq_true.1 a b.toNat (List.mem_range.2 b.toNat_lt);rw[beq_iff_eq] at h;simpa using h
def letters:List UInt8:=[97,98,99,100,101,102,103,104,105,106,107,108,109,110,111,112,113,114,115,116,117,118,119,120,121,122]
theorem qwP(m:Nat)(b:m<256):decide ((Lib.indexByte letters m.toUInt8)>=0)=letB m:=by
 have a:(List.range 256).all (fun m=>decide ((Lib.indexByte letters m.toUInt8)>=0)==letB m)=true:=by kernel_rfl
 have h:=List.all_eq_true.1 a m (List.mem_range.2 b);rwa [beq_iff_eq] at h
theorem qtJ{α:Type}{p:α->Bool}{l:List α}:l.dropWhile p=[]↔∀x,x∈l->p x=true:=by
 induction l with
 |nil=>simp
 |cons y l ih=>
  rw[List.dropWhile_cons];by_cases h:p y=true
  ·rw[if_pos h,ih];simp[h]
  ·rw[if_neg h];simp[h]
theorem qtz{α:Type}{p:α->Bool}{l:List α}(h:∀x,x∈l.dropWhile p->p x=true):∀x,x∈l->p x=true:=by
 induction l with
 |nil=>simp
 |cons y l ih=>
  rw[List.dropWhile_cons] at h;by_cases b:p y=true
  ·rw[if_pos b] at h;intro x a;rcases List.mem_cons.1 a with rfl|a
   ·exact b
   ·exact ih h x a
  ·rw[if_neg b] at h;exact h
theorem qAs{l cs:List UInt8}:Lib.trimS l cs=[]↔∀x,x∈l->cs.contains x=true:=by
 unfold Lib.trimS Lib.trimRightS Lib.trimLeftS;rw[qtJ];constructor
 ·intro h x a;exact qtz (p:=(cs.contains ·)) (l:=l.reverse) (fun y b=>h y (List.mem_reverse.2 b)) x (List.mem_reverse.2 a)
 ·intro h x a;exact h x (List.mem_reverse.1 ((List.dropWhile_suffix _).subset (List.mem_reverse.1 a)))
theorem qiw{a b:ByteArray}:(a.toList==b.toList)=decide (a=b):=by
 rw[jn,beq_iff_eq,decide_eq_true_iff];constructor
 ·intro h;exact ByteArray.ext (by have:=congrArg List.toArray h;simpa [ByteArray.toList_eq] using this)
 ·rintro rfl;rfl

theorem qBO{s:ByteArray}{j:Nat}(h:j<s.data.toList.length):bt s j=(s.data.toList[j]).toNat:=by
 unfold bt;rw[jF,jh h];rfl
theorem qCl{s:ByteArray}{j:Nat}:bt s j<256:=UInt8.toNat_lt _
theorem qq5{n:Nat}{s:ByteArray}(h:okS s):qi3 n s=V (nameB s):=by
 unfold okS at h;have z:s.data.toList.length=s.size:=by simp
 simp only[qi3,qcR,jd];cases hI:inI (s.size:Int) 1 8 with
 |false=>
  have k:(decide (1<=s.size)&&decide (s.size<=8))=false:=by rw[qys] at hI;rw[Bool.and_eq_false_iff,decide_eq_false_iff_not,decide_eq_false_iff_not];omega
  simp[nameB,k]
 |true=>
  have k:1<=s.size/\s.size<=8:=by rw[qbe] at hI;omega
  have t:qjJ n s (⟨#[97,98,99,100,101,102,103,104,105,106,107,108,109,110,111,112,113,114,115,116,117,118,119,120,121,122,48,49,50,51,52,53,54,55,56,57]⟩:ByteArray)=V ⟨(Lib.trimS s.data.toList cutset).toArray⟩:=by
   unfold qjJ;rw[if_pos ⟨by omega,by decide,by decide⟩]
   rfl
  rw[t];simp only[cond_true,jd];have p:(((⟨(Lib.trimS s.data.toList cutset).toArray⟩:ByteArray).toList==(⟨#[]⟩:ByteArray).toList))=allN (fun j=>letB (bt s j) || digB (bt s j)) s.size:=by
   rw[qiw,jn,decide_eq_true_iff,qas];have:((⟨(Lib.trimS s.data.toList cutset).toArray⟩:ByteArray)=⟨#[]⟩)↔Lib.trimS s.data.toList cutset=[]:=by
    constructor
    ·intro i;have:=congrArg (fun x:ByteArray=>x.data.toList) i;simpa using this
    ·intro i;rw[i]
   rw[this,qAs];constructor
   ·intro m j a;have c:j<s.data.toList.length:=by omega
    have:=m _ (jt c);rw[qsZ,<-qBO c] at this;exact this
   ·intro m x u;obtain⟨j,a,rfl⟩:=jV u;have:=m j (by omega);rw[qsZ,<-qBO a];exact this
  rw[p];have o:atS s 0=V (bt s 0:Int):=qAu (j:=0) (by omega);have g:decide (Lib.indexByte letters (bt s 0:Int).toNat.toUInt8>=0)=letB (bt s 0):=by
   rw[jr];exact qwP _ qCl
  have r:∀b:Bool,(bif b then(atS s 0).bind fun y=>(qhr n (⟨#[97,98,99,100,101,102,103,104,105,106,107,108,109,110,111,112,113,114,115,116,117,118,119,120,121,122]⟩:ByteArray) (⟨y⟩:IntK .u8)).bind fun v=>V (decide (v>=0)) else V false)=V (b&&letB (bt s 0)):=by
   intro b;cases b with
   |false=>rfl
   |true=>
    rw[o];simp only[cond_true,jd,qhr,jG];exact congrArg V g
  rw[r]
  congr 1
  have l:(decide (1<=s.size)&&decide (s.size<=8))=true:=by simp[k]
  unfold nameB;rw[l,jG,jn,jf,qas,qas];simp only[chB,Bool.or_eq_true,jf,decide_eq_true_eq];constructor
  ·rintro⟨d,f⟩ j a;rcases Nat.eq_zero_or_pos j with rfl|hp
   ·exact .inl f
   ·exact(d j a).imp id (fun h=>⟨h,hp⟩)
  ·intro d;refine⟨fun j a=>(d j a).imp id (fun h=>h.1),?_⟩;rcases d 0 (by omega) with f|f
   ·exact f
   ·omega
def strAt(xs:List ByteArray)(j:Nat):ByteArray:=xs.getD j ByteArray.empty
theorem qqk{xs:List ByteArray}{j:Nat}(h:j<xs.length):strAt xs j=xs[j]:=by simp[strAt,h]
theorem qsj{xs:List ByteArray}{j:Nat}(h:j<xs.length):idx xs (j:Int)=V (strAt xs j):=by rw[qcX h,qqk h]
def neB(xs:List ByteArray)(j i:Nat):Bool:=!decide (strAt xs i=strAt xs j)
def namesB(xs:List ByteArray):Bool:=allN (fun j=>nameB (strAt xs j)&&allN (neB xs j) j) xs.length
theorem qoW{xs:List ByteArray}(h:okL okS xs):Ev (fun n=>qg9 n xs) (namesB xs):=by
 have f:=h.len;have c:∀j,j<xs.length->Ev (fun n=>qeW xs (j:Int) n 0) (bif allN (neB xs j) j then .nxt (j:Int) else .ret false):=by
  intro j a;refine qff ?_ (fun i hi X d=>Ev.succ ?_)
  ·exact Ev.succ (by simp only[qeW,qk (je _),cond_false];exact .done)
  ·simp only[qeW,qi hi,cond_true,qsj (show i<xs.length by omega),qsj a,jd,qiw,wS i];unfold neB;cases decide (strAt xs i=strAt xs j)
   ·exact d
   ·exact .done
 have b:Ev (fun n=>qeP xs n 0) (bif namesB xs then .nxt (xs.length:Int) else .ret false):=by
  refine qff ?_ (fun j a X d=>Ev.succ ?_)
  ·exact Ev.succ (by simp only[qeP,qk (je _),cond_false];exact .done)
  ·simp only[qeP,qi a,cond_true,qsj a,jd,wS j];refine Ev.bind (qnM (by rw[qqk a];exact h.at a)) ?_;cases nameB (strAt xs j)
   ·exact .done
   ·refine Ev.ff Z (Ev.bind (c j a) ?_);cases allN (neB xs j) j
    ·exact .done
    ·exact d
 unfold qg9;refine Ev.bind b ?_;cases namesB xs<;>exact .done
theorem qv6{xs:List ByteArray}{v:ByteArray}(c:xs.length<=1048576):Ev (fun n=>qf4 n xs v) (ixL (fun x=>decide (v=x)) xs):=
 qgX (fin:=(xs.length:Int)) (Lf:=qci xs v) (pf:=fun _ x=>V (decide (v=x))) (fun _ _=>.done)
  (fun n=>by simp only[qci,qk (je _),cond_false])
  (fun n j x a=>by
   have b:=(List.getElem?_eq_some_iff.1 a).1;simp only[qci,qi b,cond_true,qao a,jd,qiw,wS j])
  (fun n=>by unfold qf4;congr 1;funext o;cases o<;>rfl)
theorem qs9{xs:List ByteArray}{v:ByteArray}(a:xs.length<=1048576):Ev (fun n=>qeD n xs v) (xs.any fun x=>decide (v=x)):=by
 unfold qeD;exact Ev.bind (qv6 a) (Ev.now (by rw[qpN]))
theorem qks{xs:List ByteArray}(h:okL okS xs):Ev (fun n=>qeM n xs) (namesB xs):=by
 have g:=h.len;have b:Ev (fun n=>qe4 xs n 0) (bif namesB xs then .nxt (xs.length:Int) else .ret false):=by
  refine qff ?_ (fun j a X c=>Ev.succ ?_)
  ·exact Ev.succ (by simp only[qe4,qk (je _),cond_false];exact .done)
  ·have f:subS xs 0 (j:Int)=V (xs.take j):=by
    unfold subS;rw[if_pos ⟨by omega,by omega,by omega⟩];simp
   simp only[qe4,qi a,cond_true,qsj a,jd,f,qq5 (show okS (strAt xs j) by rw[qqk a];exact h.at a),wS j];cases nameB (strAt xs j)
   ·exact .done
   ·refine Ev.ff Z (Ev.bind (qs9 (by simp;omega)) ?_);have:((xs.take j).any fun x=>decide (strAt xs j=x)) = !allN (neB xs j) j:=by
     rw[qvT (d:=ByteArray.empty)]
     congr 1
     rw[jv,Nat.min_eq_left (by omega)];refine qiT (fun i hi=>?_);unfold neB strAt
     congr 1
     have:(xs.take j).getD i ByteArray.empty=xs.getD i ByteArray.empty:=by simp[jF,hi]
     rw[this];exact decide_eq_decide.2 eq_comm
    rw[this];cases allN (neB xs j) j
    ·exact .done
    ·exact c
 unfold qeM;refine Ev.bind b ?_;cases namesB xs<;>exact .done

theorem qtH{n:Nat}{x lo hi:Int}:qh1 n x lo hi=V (!inI x lo hi):=by simp only[qh1,qcR,jd]
theorem qeG{xs:List Int}{lo hi:Int}(d:xs.length<=1048576):Ev (fun n=>qb9 n xs lo hi) (xs.all fun x=>inI x lo hi):=by
 have b:Ev (fun n=>qa6 n xs lo hi) (ixL (fun x=>!inI x lo hi) xs):=
  qgX (fin:=(xs.length:Int)) (Lf:=qai xs lo hi) (pf:=fun _ x=>V (!inI x lo hi)) (fun _ _=>.done)
   (fun n=>by simp only[qai,qk (je _),cond_false])
   (fun n j x a=>by
    have c:=(List.getElem?_eq_some_iff.1 a).1;simp only[qai,qi c,cond_true,qao a,jd,qtH,wS j])
   (fun n=>by unfold qa6;congr 1;funext o;cases o<;>rfl)
 unfold qb9 qbG;refine Ev.bind (Ev.bind b (Ev.now Z)) (Ev.now ?_);rw[qpN,qsd]
def stepB(xs:List Int)(j:Nat):Bool:=decide (j=0) || decide (at0 xs (j-1)<at0 xs j)
def incB(xs:List Int):Bool:=allN (stepB xs) xs.length
theorem qn2{xs:List Int}(m:xs.length<=1048576):Ev (fun n=>qfK n xs) (incB xs):=by
 have g:Ev (fun n=>qbE xs n 1) (bif incB xs then .nxt (max 1 xs.length:Int) else .ret false):=by
  by_cases b:xs.length=0
  ·have k:incB xs=true:=by unfold incB;rw[b];rfl
   rw[k];refine Ev.succ ?_;have:decide ((1:Int)<(xs.length:Int))=false:=by rw[b];decide
   simp only[qbE,this,cond_false];exact Ev.now (by rw[b];rfl)
  ·have:=qxZ (Lf:=qbE xs) (len:=xs.length) (i0:=1) (f:=stepB xs) (bad:=false) (fin:=.nxt (max 1 xs.length:Int)) (by omega)
    (Ev.succ (by
     simp only[qbE,qk (je _),cond_false];exact Ev.now (by congr 2;omega)))
    (fun j l a X i=>Ev.succ (by
     simp only[qbE,qi a,cond_true,wS j,show(j:Int)-1=((j-1:Nat):Int) by omega,qK (show -9223372036854775808<=((j-1:Nat):Int) by omega) (by omega),qar (show j-1<xs.length by omega),qar a,jd];unfold stepB;by_cases c:at0 xs (j-1)<at0 xs j
     ·have e1:decide (at0 xs (j-1)>=at0 xs j)=false:=by simp;omega
      rw[e1];simp only[c,decide_true,Bool.or_true,cond_true,cond_false];exact i
     ·have e1:decide (at0 xs (j-1)>=at0 xs j)=true:=by simp;omega
      have d:decide (j=0)=false:=by simp;omega
      rw[e1,d];simp only[c,decide_false,Bool.or_self,cond_true,cond_false];exact .done))
   have e:allN (fun j=>stepB xs (1+j)) (xs.length-1)=incB xs:=by
    unfold incB;rw[jn,qas,qas];constructor
    ·intro h j a;cases j with
     |zero=>rfl
     |succ j=>have:=h j (by omega);rwa [Nat.add_comm] at this
    ·intro h j a;exact h (1+j) (by omega)
   rw[e] at this;exact this
 unfold qfK;refine Ev.bind g ?_;cases incB xs<;>exact .done
def lenB{α:Type}(xs:List α)(lo hi:Nat):Bool:=decide (lo<=xs.length)&&decide (xs.length<=hi)
theorem qvj{α:Type}{xs:List α}{lo hi:Nat}:inI (xs.length:Int) (lo:Int) (hi:Int)=lenB xs lo hi:=by
 unfold inI lenB;rw[jn];simp
def axisB(xs:List Int):Bool:=lenB xs 1 4&&((xs.all fun x=>inI x 0 100000)&&incB xs)
theorem qub{xs:List Int}(a:xs.length<=1048576):Ev (fun n=>qkF n xs) (axisB xs):=by
 simp only[qkF,qbA,jd,qcR,show inI (xs.length:Int) 1 4=lenB xs 1 4 from qvj (lo:=1) (hi:=4)];unfold axisB;cases lenB xs 1 4
 ·exact .done
 ·refine Ev.tt Z (Ev.bind (qeG a) ?_);cases (xs.all fun x=>inI x 0 100000)
  ·exact .done
  ·exact Ev.tt Z (Ev.bind (qn2 a) .done)
theorem qs3{xs:List Int}(k:xs.length<=1048576):Ev (fun n=>qju n xs) (axisB xs):=by
 have i:Ev (fun n=>qem xs n 0) (bif allN (fun j=>inI (at0 xs j) 0 100000&&stepB xs j) xs.length then .nxt (xs.length:Int) else .ret false):=by
  refine qff ?_ (fun j c X a=>Ev.succ ?_)
  ·exact Ev.succ (by simp only[qem,qk (je _),cond_false];exact .done)
  ·simp only[qem,qi c,cond_true,qar c,jd,qcA,wS j];cases inI (at0 xs j) 0 100000
   ·exact .done
   ·simp only[Ji,cond_false,jG];unfold stepB;by_cases h:j=0
    ·subst h;exact Ev.ff (by decide) a
    ·simp only[show(j:Int)-1=((j-1:Nat):Int) by omega,qK (show -9223372036854775808<=((j-1:Nat):Int) by omega) (by omega),qar (show j-1<xs.length by omega),jd];have f:decide (j=0)=false:=by simp;omega
     have g:decide ((j:Int) > 0)=true:=by simp;omega
     rw[f,g];simp only[cond_true,Bool.false_or];by_cases b:at0 xs (j-1)<at0 xs j
     ·have e1:decide (at0 xs (j-1)>=at0 xs j)=false:=by simp;omega
      rw[e1];simp only[b,decide_true,cond_true,cond_false];exact a
     ·have e1:decide (at0 xs (j-1)>=at0 xs j)=true:=by simp;omega
      rw[e1];simp only[b,decide_false,cond_true,cond_false];exact .done
 have e:axisB xs=(allN (fun j=>inI (at0 xs j) 0 100000&&stepB xs j) xs.length&&lenB xs 1 4):=by
  unfold axisB incB;rw[qm3,qhG (d:=0),Bool.and_comm]
  rfl
 rw[e];unfold qju;refine Ev.bind i ?_;cases allN (fun j=>inI (at0 xs j) 0 100000&&stepB xs j) xs.length
 ·exact .done
 ·simp only[cond_true,qoo,qqj,jG];exact Ev.now (by congr 1;unfold lenB;rw[jn];simp;omega)
def tableB(t:qv):Bool:=axisB t.Bo&&(axisB t.Bk&&(decide (t.Bj.length=t.Bo.length*t.Bk.length)&&(t.Bj.all fun x=>inI x (-1000000) 1000000)))
theorem qxU{a b:Nat}(c:a<=1048576)(d:b<=1048576):W64 ((a:Int)*(b:Int))=((a*b:Nat):Int):=by
 have h:a*b<=1048576*1048576:=Nat.mul_le_mul c d;have e:(a:Int)*(b:Int)=((a*b:Nat):Int):=by simp
 rw[e];exact qK (by omega) (by omega)
theorem qxr{t:qv}(h:qji t):Ev (fun n=>qll n t) (tableB t):=by
 unfold qll tableB;refine Ev.bind (qub h.Bo.len) ?_;cases axisB t.Bo
 ·exact .done
 ·refine Ev.tt Z (Ev.bind (qub h.Bk.len) ?_);cases axisB t.Bk
  ·exact .done
  ·rw[qxU h.Bo.len h.Bk.len];have e:(((t.Bj.length:Nat):Int)==((t.Bo.length*t.Bk.length:Nat):Int))=decide (t.Bj.length=t.Bo.length*t.Bk.length):=by rw[jn];simp;omega
   rw[e];cases decide (t.Bj.length=t.Bo.length*t.Bk.length)
   ·exact .done
   ·exact Ev.tt Z (Ev.tt Z (Ev.bind (qeG h.Bj.len) .done))
theorem qvH{t:qv}(h:qji t):Ev (fun n=>qk4 n t) (tableB t):=by
 have f:=h.Bj.len;have c:Ev (fun n=>qfy t n 0) (bif (t.Bj.all fun x=>inI x (-1000000) 1000000) then .nxt (t.Bj.length:Int) else .ret false):=
  qqq (fun n=>by simp only[qfy,qk (je _),cond_false]) (fun j a X d=>by
   simp only[qfy,qi a,cond_true,qcX a,jd,qcA,wS j];cases inI t.Bj[j] (-1000000) 1000000
   ·exact .done
   ·exact d)
 unfold qk4 tableB;refine Ev.bind (b:=!(axisB t.Bo&&(axisB t.Bk&&decide (t.Bj.length=t.Bo.length*t.Bk.length)))) ?_ ?_
 ·refine Ev.bind (qs3 h.Bo.len) ?_;cases axisB t.Bo
  ·exact .done
  ·refine Ev.ff Z (Ev.bind (qs3 h.Bk.len) ?_);cases axisB t.Bk
   ·exact .done
   ·refine Ev.ff Z (Ev.now ?_);rw[qxU h.Bo.len h.Bk.len]
    congr 1
    rw[jn];simp;omega
 ·cases axisB t.Bo
  ·exact .done
  ·cases axisB t.Bk
   ·exact .done
   ·cases decide (t.Bj.length=t.Bo.length*t.Bk.length)
    ·exact .done
    ·refine Ev.ff Z (Ev.bind c ?_);cases (t.Bj.all fun x=>inI x (-1000000) 1000000)<;>exact .done

instance:Inhabited qan:=⟨⟨ByteArray.empty,0,0,false⟩⟩
instance:Inhabited qv:=⟨⟨[],[],[]⟩⟩
instance:Inhabited qI:=⟨⟨0,0,0,0,[],[]⟩⟩
instance:Inhabited qB:=⟨⟨ByteArray.empty,0,[],[],[],0,0⟩⟩
instance:Inhabited ql:=⟨⟨ByteArray.empty,0,[]⟩⟩
instance:Inhabited qP:=⟨⟨ByteArray.empty,0,0⟩⟩
instance:Inhabited qE:=⟨⟨[],[],[],[]⟩⟩
theorem lastE{j m:Nat}(h:j<m)(a:m<=1048576):((j:Int)==W64 ((m:Int)-1))=decide (j+1=m):=by
 rcases qAD h with h|h
 ·exact h
 ·omega
theorem qls{α:Type}[Inhabited α]{xs:List α}{g:α->ByteArray}{j:Nat}(h:j<xs.length):strAt (xs.map g) j=g (gt xs j):=by
 rw[qqk (by simpa using h),qcT h];simp
theorem qpf{α:Type}{xs:List α}{g:α->ByteArray}{ok:α->Prop}(h:okL ok xs)(a:∀x,ok x->okS (g x)):okL okS (xs.map g):=
 ⟨by rw[jq];exact h.1,fun y c=>by
  obtain⟨x,b,rfl⟩:=List.mem_map.1 c;exact a x (h.2 x b)⟩
theorem qnb{α β:Type}{xs:List α}{g:α->β}{j:Nat}(h:j<xs.length)(a:xs.length<=1048576){y:β}:appS ((xs.take j).map g) [y]=V ((xs.take j).map g++[y]):=
 qbl (by simp;omega)
def pinB(ps:List qan)(j:Nat):Bool:=
 bif decide (j+1=ps.length) then((gt ps j).Bx==2)&&(((gt ps j).Bu==0)&&!(gt ps j).Bt) else((gt ps j).Bx==1)&&inI (gt ps j).Bu 0 500
def pinsB(ps:List qan):Bool:=allN (pinB ps) ps.length&&(lenB ps 2 5&&namesB (ps.map qan.Bc))
def clkN(ps:List qan)(j:Nat):Nat:=cntP (fun i=>(gt ps i).Bt) j
theorem qwG{ps:List qan}(h:okL qop ps):Ev (fun n=>qlj n ps) (pinsB ps):=by
 have i:=h.len;have l:Ev (fun n=>qdg ps n ([]:List ByteArray) 0) (bif allN (pinB ps) ps.length then .nxt (ps.map qan.Bc,(ps.length:Int)) else .ret false):=by
  refine loopN (Lf:=qdg ps) (S:=fun j=>(ps.take j).map qan.Bc) (pinB ps) (fun n=>?_) (fun j a o X f=>?_)
  ·simp only[qdg,qk (je _),cond_false,jC]
  ·simp only[qdg,qi a,cond_true,qC a,jd,qnb a i,qgG (g:=qan.Bc) a,lastE a i,bne,qdr,qcR,wS j];generalize hc:pinB ps j=c at f⊢;unfold pinB at hc;cases hd:decide (j+1=ps.length)
   ·rw[hd] at hc;simp only[cond_false] at hc⊢;subst hc;exact Ev.okP (fun b=>Ev.okP1 (fun d=>f (by rw[b,d];rfl)))
   ·rw[hd] at hc;simp only[cond_true] at hc⊢;subst hc;refine Ev.okP (fun b=>Ev.okP (fun d=>Ev.chkP1 (fun k=>f (by rw[b,d,k];rfl))))
 unfold qlj pinsB;refine Ev.bind l ?_;cases allN (pinB ps) ps.length
 ·exact .done
 ·simp only[cond_true,qcN,qcR,jd,show inI (ps.length:Int) 2 5=lenB ps 2 5 from qvj (lo:=2) (hi:=5),jG];exact Ev.andP (fun _=>Ev.last (qks (qpf h (fun x m=>m.Bc))))
def pinS(ps:List qan)(j:Nat):Bool:=allN (neB (ps.map qan.Bc) j) j&&((nameB (gt ps j).Bc&&inI (gt ps j).Bu 0 500)&&(bif decide (j+1=ps.length) then((gt ps j).Bx==2)&&(((gt ps j).Bu==0)&&!(gt ps j).Bt) else((gt ps j).Bx==1)))
theorem qA8{ps:List qan}:(lenB ps 2 5&&allN (pinS ps) ps.length)=pinsB ps:=by
 have e:namesB (ps.map qan.Bc)=allN (fun j=>nameB (gt ps j).Bc&&allN (neB (ps.map qan.Bc) j) j) ps.length:=by
  unfold namesB;rw[jq];exact qiT (fun j a=>by rw[qls a])
 unfold pinsB;rw[e,<-Bool.and_assoc,Bool.and_comm (allN (pinB ps) ps.length),Bool.and_assoc,<-qm3]
 congr 1
 refine qiT (fun j a=>?_);unfold pinS pinB;cases hd:decide (j+1=ps.length)
 ·simp only[cond_false];cases allN (neB (ps.map qan.Bc) j) j<;>cases nameB (gt ps j).Bc<;>cases inI (gt ps j).Bu 0 500<;>cases ((gt ps j).Bx==1)<;>rfl
 ·simp only[cond_true];cases hcap:((gt ps j).Bu==0)
  ·simp
  ·have:inI (gt ps j).Bu 0 500=true:=by rw[beq_iff_eq] at hcap;rw[hcap];rfl
   rw[this];cases allN (neB (ps.map qan.Bc) j) j<;>cases nameB (gt ps j).Bc<;>cases ((gt ps j).Bx==2)<;>cases (gt ps j).Bt<;>rfl
theorem qxe{c:qB}(h:okL qop c.Bg):Ev (fun n=>qle n c) (bif pinsB c.Bg then(((clkN c.Bg c.Bg.length:Nat):Int),true) else(0,false)):=by
 have s:=h.len;have l:∀j,j<c.Bg.length->Ev (fun n=>qfo c (j:Int) (gt c.Bg j) n 0) (bif allN (neB (c.Bg.map qan.Bc) j) j then .nxt (j:Int) else .ret (0,false)):=by
  intro j b;refine qff ?_ (fun i hi X a=>Ev.succ ?_)
  ·exact Ev.succ (by simp only[qfo,qk (je _),cond_false];exact .done)
  ·simp only[qfo,qi hi,cond_true,qC (show i<c.Bg.length by omega),jd,qiw,wS i];unfold neB;rw[qls (g:=qan.Bc) (show i<c.Bg.length by omega),qls (g:=qan.Bc) b];exact Ev.chkP1 (fun _=>a)
 have k:Ev (fun n=>qdm c n 0 0) (bif allN (pinS c.Bg) c.Bg.length then .nxt (((clkN c.Bg c.Bg.length:Nat):Int),(c.Bg.length:Int)) else .ret (0,false)):=by
  refine loopN (Lf:=qdm c) (S:=fun j=>((clkN c.Bg j:Nat):Int)) (pinS c.Bg) (fun n=>?_) (fun j b u X a=>?_)
  ·simp only[qdm,qk (je _),cond_false]
  ·have t:clkN c.Bg j<=j:=qgC;have d:((j:Int)==W64 ((c.Bg.length:Int)-1))=decide (j+1=c.Bg.length):=lastE b s;have f:decide ((j:Int)<W64 ((c.Bg.length:Int)-1)) = !decide (j+1=c.Bg.length):=by
    rw[qK (by omega) (by omega),jn];simp;omega
   simp only[qdm,qi b,cond_true,qC b,jd,wS j,qcB (show clkN c.Bg j<9223372036854775807 by omega),d,f,qcA];unfold pinS;refine Ev.bind (l j b) ?_;cases ha:allN (neB (c.Bg.map qan.Bc) j) j
   ·exact .done
   ·simp only[cond_true,jG];refine Ev.chkT ?_ (fun o=>?_)
    ·exact Ev.or (qnM (qoS h b).Bc) (fun _=>.done)
    ·refine Ev.chkT1 ?_ (fun r=>?_)
     ·cases decide (j+1=c.Bg.length)
      ·exact .done
      ·simp only[cond_true,Ji,cond_false,bne,qdr];cases ((gt c.Bg j).Bx==2)<;>cases ((gt c.Bg j).Bu==0)<;>cases (gt c.Bg j).Bt<;>exact .done
     ·have a:=a (by unfold pinS;rw[ha,o,r];rfl);have m:clkN c.Bg (j+1)=clkN c.Bg j+(bif (gt c.Bg j).Bt then 1 else 0):=rfl;rw[m] at a;cases hc:(gt c.Bg j).Bt
      ·rw[hc] at a;exact Ev.ff Z a
      ·rw[hc] at a;exact Ev.tt Z a
 rw[<-qA8];unfold qle;refine Ev.guard ?_ (fun o=>?_)
 ·unfold lenB;have e1:decide ((c.Bg.length:Int)<2) = !decide (2<=c.Bg.length):=by rw[jn];simp;omega
  have p:decide ((c.Bg.length:Int) > 5) = !decide (c.Bg.length<=5):=by rw[jn];simp;omega
  rw[e1,p];cases decide (2<=c.Bg.length)<;>cases decide (c.Bg.length<=5)<;>exact .done
 ·refine Ev.bind k ?_;cases allN (pinS c.Bg) c.Bg.length<;>exact .done
def mnL(xs:List Int):Int:=(xs.drop 1).foldl (fun m y=>if y<m then y else m) (at0 xs 0)
def mxL(xs:List Int):Int:=(xs.drop 1).foldl (fun m y=>if y > m then y else m) (at0 xs 0)
theorem qs5{t:qv}(h:tableB t=true):1<=t.Bj.length:=by
 unfold tableB axisB lenB at h;simp only[jf,decide_eq_true_eq] at h;obtain⟨⟨⟨a,_⟩,_⟩,⟨⟨b,_⟩,_⟩,c,_⟩:=h;rw[c];exact Nat.mul_pos a b
theorem qAH{xs:List Int}(b:1<=xs.length)(f:xs.length<=1048576):Ev (fun n=>qic n xs) (mnL xs):=by
 have c:=(qqP (Lf:=fun n t j=>qdb xs n t j) (xs:=xs) (step:=fun(m y:Int)=>if y<m then y else m) (fin:=fun t=>(t,(xs.length:Int))) 1 (at0 xs 0) (fun _ _=>True) b trivial (fun _ _ _ _=>trivial)
  (fun n t=>by simp only[qdb,qk (je _),cond_false])
  (fun j t a _ X d=>by simpa only[qdb,qi a,cond_true,qcX a,jd,wS j] using d)).1
 unfold qic;rw[show decide ((xs.length:Int)<1)=false by simp;omega,show idx xs (0:Int)=V (at0 xs 0) from qar (j:=0) (by omega)];simp only[cond_false,jd];exact Ev.bind c .done
theorem qxp{t:qv}(h:qji t):Ev (fun n=>qib n t) (bif tableB t then(⟨mnL t.Bj,mxL t.Bj⟩,0) else(⟨0,0⟩,1)):=by
 unfold qib;refine Ev.chk1 (qvH h) (fun l=>?_);have i:=qs5 l;have p:=h.Bj.len;have f:=(qqP (Lf:=fun n (d:Int×Int) j=>qde t n d.1 d.2 j) (xs:=t.Bj) (step:=fun(m:Int×Int) y=>(if y<m.1 then y else m.1,if y > m.2 then y else m.2)) (fin:=fun d=>(d.1,d.2,(t.Bj.length:Int))) 1 (at0 t.Bj 0,at0 t.Bj 0) (fun _ _=>True) i trivial (fun _ _ _ _=>trivial)
  (fun n t=>by simp only[qde,qk (je _),cond_false])
  (fun j t g _ X k=>by simpa only[qde,qi g,cond_true,qcX g,jd,wS j] using k)).1
 have o:∀(c:List Int) (a b:Int),c.foldl (fun(m:Int×Int) y=>(if y<m.1 then y else m.1,if y > m.2 then y else m.2)) (a,b)=(c.foldl (fun m y=>if y<m then y else m) a,c.foldl (fun m y=>if y > m then y else m) b):=by
  intro c
  induction c with
  |nil=>intro a b;rfl
  |cons y c ih=>intro a b;simp only[List.foldl_cons,ih]
 rw[o] at f;rw[show idx t.Bj (0:Int)=V (at0 t.Bj 0) from qar (j:=0) (by omega)];simp only[jd];exact Ev.bind f .done
def tabB(pos:Bool)(t:qv):Bool:=tableB t&&(!pos || decide (0<=mnL t.Bj))
def tablesB(a:List qv)(pos:Bool):Bool:=decide (a.length=2)&&a.all (tabB pos)
theorem qnO{a:List qv}{pos:Bool}(h:okL qji a):Ev (fun n=>qgs n a pos) (tablesB a pos):=by
 have g:=h.len;have c:Ev (fun n=>qaM n a pos) (ixL (fun x=>!tabB pos x) a):=
  qgX (fin:=(a.length:Int)) (Lf:=qY a pos) (pf:=fun n x=>qhZ n x pos) (fun x b=>by
    unfold qhZ tabB;refine Ev.or (qxr (h.2 x b)) (fun d=>?_);cases pos
    ·exact .done
    ·refine Ev.tt Z (Ev.bind (qAH (qs5 d) (h.2 x b).Bj.len) (Ev.now ?_))
     congr 1
     rw[jn];simp)
   (fun n=>by simp only[qY,qk (je _),cond_false])
   (fun n j x b=>by
    have f:=(List.getElem?_eq_some_iff.1 b).1;simp only[qY,qi f,cond_true,qao b,jd,wS j])
   (fun n=>by unfold qaM;congr 1;funext o;cases o<;>rfl)
 unfold qgs qbc tablesB;rw[show((a.length:Int)==2)=decide (a.length=2) by rw[jn];simp;omega];refine Ev.andP (fun _=>Ev.bind (Ev.bind c (Ev.now Z)) (Ev.now ?_));rw[qpN,qsd]
theorem qjH{a:List qv}{pos:Bool}(h:okL qji a):Ev (fun n=>qd3 n a pos) (tablesB a pos):=by
 unfold qd3 tablesB;rw[show((a.length:Int) != 2) = !decide (a.length=2) by rw[jn];simp;omega];simp only[qdr];refine Ev.andP (fun b=>?_);have b:a.length=2:=by simpa using b
 have f:Ev (fun n=>qc8 a pos n 0) (bif allN (fun j=>tabB pos (gt a j)) a.length then .nxt (2:Int) else .ret false):=by
  refine qff (len:=a.length) ?_ (fun j d X c=>Ev.succ ?_)
  ·rw[b];exact Ev.succ (by simp only[qc8];exact .done)
  ·simp only[qc8,show decide ((j:Int)<2)=true by simp;omega,cond_true,qC d,jd,wS j];refine Ev.bind (qxp (qoS h d)) ?_;unfold tabB;cases tableB (gt a j)
   ·exact .done
   ·simp only[cond_true,jG];refine Ev.ff Z ?_;cases pos
    ·exact c
    ·refine Ev.tt Z ?_;rw[show decide (mnL (gt a j).Bj<0) = !decide (0<=mnL (gt a j).Bj) by rw[jn];simp];simp only[qdr];exact Ev.okP1 (fun _=>c)
 rw[qi8];refine Ev.bind f ?_;cases allN (fun j=>tabB pos (gt a j)) a.length<;>exact .done

theorem qf6{α:Type}[Inhabited α]{xs:List α}{x:Int}(a:0<=x)(b:x<xs.length):idx xs x=V (gt xs x.toNat):=by
  have:=qC (xs:=xs) (j:=x.toNat) (by omega);rwa [<-qgA a] at this
theorem qtN{q:Nat->Bool}{m n:Nat}(h:m<=n):cntP q m<=cntP q n:=by
  induction n with
  |zero=>
    obtain rfl:m=0:=by omega
    exact je _
  |succ n ih=>
    rcases Nat.lt_or_eq_of_le h with h|rfl
    · exact Jb (ih (by omega)) (Nat.le_add_right _ _)
    · exact je _
theorem qo5{m k:Nat}:decide ((m:Int)<=(k:Int))=decide (m<=k):=by rw[jn];simp
theorem qvY{q:Nat->Bool}{n i j:Nat}(hi:i<j)(d:j<n)(a:q i=true)(b:q j=true):2<=cntP q n:=by
  have e1:cntP q (i+1)=cntP q i+1:=by rw[cntP,a];rfl
  have c:cntP q (j+1)=cntP q j+1:=by rw[cntP,b];rfl
  have f:=qtN (q:=q) (show i+1<=j by omega);have g:=qtN (q:=q) (show j+1<=n by omega);omega
theorem qwi{q:Nat->Bool}{n i j:Nat}(d:cntP q n<=1)(hi:i<n)(c:j<n)(a:q i=true)(b:q j=true):i=j:=by
  rcases Nat.lt_trichotomy i j with h|h|h
  · have:=qvY h c a b;omega
  · exact h
  · have:=qvY h hi b a;omega
def clkIx(ps:List qan):Int:=ixL (fun p=>p.Bt) ps
def clkAt(ps:List qan)(x:Int):Bool:=(gt ps x.toNat).Bt
theorem qzY{c:qB}(f:c.Bg.length<=1048576):Ev (fun n=>qiC n c) (clkIx c.Bg):=by
  unfold qiC;refine Ev.bind (b:=clkIx c.Bg) ?_ .done;exact qgX (fin:=(c.Bg.length:Int)) (Lf:=qZ c.Bg) (pf:=fun n x=>qjM n x) (fun _ _=>.done)
    (fun n=>by simp only[qZ,qk (je _),cond_false])
    (fun n j x a=>by
      have d:=(List.getElem?_eq_some_iff.1 a).1;simp only[qZ,qi d,cond_true,qao a,jd,wS j])
    (fun n=>by unfold qbC;congr 1;funext o;cases o<;>rfl)
def arcI(ps:List qan)(a:qI):Bool:=
  bif (a.Bi==4) || (a.Bi==5) then
    (a.Br==0)&&(((a.Bf.length:Int)==0)&&(tablesB a.Bp false&&((a.Bl==clkIx ps)&&(decide (a.Bl>=0)&&(inI a.To 0 (ps.length-2)&&!(a.To==a.Bl))))))
  else
    (tablesB a.Bp true&&(tablesB a.Bf true&&((a.To==(ps.length:Int)-1)&&inI a.Bl 0 (ps.length-2)))) &&
      (bif a.Bi==1 then !clkAt ps a.Bl&&inI a.Br 1 3 else(bif (a.Bi==2) || (a.Bi==3) then clkAt ps a.Bl&&(a.Br==0) else false))
def arcS(ps:List qan)(a:qI):Bool:=
  (inI a.Bl 0 (ps.length-2)&&inI a.To 0 (ps.length-1)) &&
    (bif a.Bi==1 then !clkAt ps a.Bl&&((a.To==(ps.length:Int)-1)&&(inI a.Br 1 3&&(tablesB a.Bp true&&tablesB a.Bf true)))
     else(bif (a.Bi==2) || (a.Bi==3) then clkAt ps a.Bl&&((a.To==(ps.length:Int)-1)&&((a.Br==0)&&(tablesB a.Bp true&&tablesB a.Bf true)))
     else(bif (a.Bi==4) || (a.Bi==5) then clkAt ps a.Bl&&(decide (a.To<(ps.length:Int)-1)&&(!clkAt ps a.To&&((a.Br==0)&&(tablesB a.Bp false&&((a.Bf.length:Int)==0))))) else false)))
theorem qrx{c d:Bool}:(bif c then V c else V d)=V (c || d):=by cases c<;>rfl
theorem qvy{c d:Bool}:(bif c then V true else V d)=V (c || d):=by cases c<;>rfl
theorem qwy{n:Nat}{k:Int}:qk7 n k=V ((k==4) || (k==5)):=by simp only[qk7,qvy]
theorem qAo{c:qB}{a:qI}(h:okL qop c.Bg)(b:qpY a)(k:2<=c.Bg.length):Ev (fun n=>qiF n c a) (arcI c.Bg a):=by
  have i:=h.len;have e1:W64 ((c.Bg.length:Int)-1)=(c.Bg.length:Int)-1:=qfM (by omega);have f:W64 ((c.Bg.length:Int)-1-1)=(c.Bg.length:Int)-2:=by rw[qK (by omega) (by omega)];omega
  simp only[qiF,qwy,jd,qhs,qe7,qcN,e1,f,qcR,qrx,bne];unfold arcI;refine Ev.iff (fun _=>Ev.last ?_) (fun _=>Ev.guardB ?_ (fun d=>?_))
  · exact Ev.andP fun _=>Ev.andP fun _=>Ev.and (qnO b.Bp) fun _=>Ev.bind (qzY i) (Ev.andP fun _=>Ev.andP fun _=>Ev.andP fun _=>.done)
  · refine Ev.or (qnO b.Bp) fun _=>Ev.or (qnO b.Bf) fun _=>?_
    simp only[qdr];exact Ev.orBP fun _=>.done
  · have g:0<=a.Bl/\a.Bl<=(c.Bg.length:Int)-2:=by
      simp only[jf,qbe] at d;exact d.2.2.2
    simp only[qf6 g.1 (show a.Bl<(c.Bg.length:Int) by omega),jd];exact Ev.iff (fun _=>Ev.andP fun _=>.done) (fun _=>Ev.iff (fun _=>Ev.andP fun _=>.done) (fun _=>.done))
theorem qy1{c:qB}{a:qI}(h:okL qop c.Bg)(b:qpY a)(k:2<=c.Bg.length):Ev (fun n=>qmc n c a) (arcS c.Bg a):=by
  have i:=h.len;have e1:W64 ((c.Bg.length:Int)-1)=(c.Bg.length:Int)-1:=qfM (by omega);have g:W64 ((c.Bg.length:Int)-1-1)=(c.Bg.length:Int)-2:=by rw[qK (by omega) (by omega)];omega
  simp only[qmc,jd,e1,g,qcA,qrx];unfold arcS;refine Ev.guardB ?_ (fun d=>?_)
  · simp only[qdr]
    exact Ev.orBP fun _=>.done
  · have f:(0<=a.Bl/\a.Bl<=(c.Bg.length:Int)-2)/\(0<=a.To/\a.To<=(c.Bg.length:Int)-1):=by
      simp only[jf,qbe] at d;exact d
    simp only[qf6 f.1.1 (show a.Bl<(c.Bg.length:Int) by omega),qf6 f.2.1 (show a.To<(c.Bg.length:Int) by omega),jd];refine Ev.iff (fun _=>?_) (fun _=>Ev.iff (fun _=>?_) (fun _=>Ev.iff (fun _=>?_) (fun _=>.done)))
    · exact Ev.andP fun _=>Ev.andP fun _=>Ev.andP fun _=>Ev.and (qjH b.Bp) fun _=>Ev.last (qjH b.Bf)
    · exact Ev.andP fun _=>Ev.andP fun _=>Ev.andP fun _=>Ev.and (qjH b.Bp) fun _=>Ev.last (qjH b.Bf)
    · exact Ev.andP fun _=>Ev.andP fun _=>Ev.andP fun _=>Ev.andP fun _=>Ev.and (qjH b.Bp) fun _=>.done
theorem qqO{ps:List qan}(f:clkN ps ps.length<=1){x:Int}(k:0<=x):clkIx ps=x↔x<ps.length/\clkAt ps x=true:=by
  unfold clkIx ixL;cases hf:ps.findIdx? (fun p=>p.Bt) with
  |some j=>
    obtain⟨d,i,_⟩:=List.findIdx?_eq_some_iff_getElem.1 hf;have b:(gt ps j).Bt=true:=by rw[qcT d];exact i
    constructor
    · intro e
      have e:(j:Int)=x:=e;subst e;exact⟨by omega,by unfold clkAt;rw[jr];exact b⟩
    · rintro⟨g,a⟩
      have:=qwi f d (show x.toNat<ps.length by omega) b a;show(j:Int)=x;omega
  |none=>
    have h:=List.findIdx?_eq_none_iff.1 hf;constructor
    · intro e
      have e:(-1:Int)=x:=e;omega
    · rintro⟨g,a⟩
      have c:x.toNat<ps.length:=by omega
      unfold clkAt at a;rw[qcT c] at a;have:=h _ (jt c);rw[a] at this;exact absurd this (by decide)
theorem qhx{ps:List qan}(h:pinsB ps=true):(2<=ps.length/\ps.length<=5)/\clkAt ps ((ps.length:Int)-1)=false:=by
  unfold pinsB lenB at h;simp only[jf,decide_eq_true_eq] at h;refine⟨h.2.1,?_⟩;have a:=qas.1 h.1 (ps.length-1) (by omega);unfold pinB at a;rw[show decide (ps.length-1+1=ps.length)=true by simp;omega] at a;simp only[cond_true,jf,jI] at a;unfold clkAt;rw[show((ps.length:Int)-1).toNat=ps.length-1 by omega];exact a.2.2
theorem qzt{ps:List qan}{a:qI}(h:pinsB ps=true)(b:clkN ps ps.length<=1):arcI ps a=arcS ps a:=by
  obtain⟨⟨D,z⟩,l⟩:=qhx h;rw[jn];unfold arcI arcS;cases h45:((a.Bi==4) || (a.Bi==5)) with
  |true=>
    have B:(a.Bi==1)=false:=by simp at h45⊢;omega
    have u:((a.Bi==2) || (a.Bi==3))=false:=by simp at h45⊢;omega
    rw[B,u];simp only[cond_true,cond_false,jf,qbe,decide_eq_true_eq,beq_iff_eq,jI,beq_eq_false_iff_ne,ne_eq];constructor
    · rintro⟨t,m,s,p,o,r,A⟩
      obtain⟨C,n⟩:=(qqO b o).1 p.symm;have x:a.Bl≠(ps.length:Int)-1:=by intro e;rw[e,l] at n;cases n
      refine⟨⟨⟨o,by omega⟩,⟨r.1,by omega⟩⟩,n,by omega,?_,t,s,m⟩;cases c:clkAt ps a.To with
      |false=>rfl
      |true=>
        have:=(qqO b r.1).2 ⟨by omega,c⟩;omega
    · rintro⟨⟨p,r⟩,n,y,c,t,s,m⟩
      have:=(qqO b p.1).2 ⟨by omega,n⟩;refine⟨t,m,s,this.symm,p.1,⟨r.1,by omega⟩,?_⟩;intro e;rw[e,n] at c;cases c
  |false=>
    simp only[cond_false,jf,qbe,beq_iff_eq];cases (a.Bi==1)
    · cases ((a.Bi==2) || (a.Bi==3))
      · simp
      · simp only[cond_true,cond_false,jf,beq_iff_eq]
        constructor
        · rintro⟨⟨b,d,f,g⟩,i,k⟩
          exact⟨⟨g,by omega⟩,i,f,k,b,d⟩
        · rintro⟨⟨g,v⟩,i,f,k,b,d⟩
          exact⟨⟨b,d,f,g⟩,i,k⟩
    · simp only[cond_true,jf,qbe,jI,beq_iff_eq]
      constructor
      · rintro⟨⟨b,d,f,g⟩,i,k⟩
        exact⟨⟨g,by omega⟩,i,f,k,b,d⟩
      · rintro⟨⟨g,v⟩,i,f,k,b,d⟩
        exact⟨⟨b,d,f,g⟩,i,k⟩
theorem qui{ps:List qan}{a:qI}(h:arcS ps a=true):1<=a.Bi/\a.Bi<=5:=by
  unfold arcS at h;rw[jf] at h;have h:=h.2;cases h1:(a.Bi==1)
  · cases h2:((a.Bi==2) || (a.Bi==3))
    · cases h4:((a.Bi==4) || (a.Bi==5))
      · rw[h1,h2,h4] at h;cases h
      · simp at h4;omega
    · simp at h2;omega
  · simp at h1;omega
def sameArc(x y:qI):Bool:=(x.Bi==y.Bi)&&((x.Bl==y.Bl)&&(x.To==y.To))
def newArc(a:List qI)(j:Nat):Bool:=allN (fun i=>!sameArc (gt a i) (gt a j)) j
theorem qwF{c:qB}(h:okL qop c.Bg)(f:okL qpY c.Ba)(p:2<=c.Bg.length):Ev (fun n=>qhk n c) (allN (fun j=>arcI c.Bg (gt c.Ba j)&&newArc c.Ba j) c.Ba.length&&decide (c.Ba.length<=8)):=by
  have m:=f.len;have i:∀(a:List qI) (y:qI),a.length<=1048576->Ev (fun n=>qaC n a y) (a.any fun x=>sameArc x y):=by
    intro a y m;unfold qaC;refine Ev.bind (b:=ixL (fun x=>sameArc x y) a) (qgX (fin:=(a.length:Int)) (Lf:=qU a y) (pf:=fun n x=>qf1 n x y) (fun x _=>?_)
      (fun n=>by simp only[qU,qk (je _),cond_false])
      (fun n j x g=>by
        have d:=(List.getElem?_eq_some_iff.1 g).1;simp only[qU,qi d,cond_true,qao g,jd,wS j])
      (fun n=>by unfold qbj;congr 1;funext o;cases o<;>rfl)) (Ev.now (by rw[qpN]))
    unfold qf1 sameArc;exact Ev.andP fun _=>Ev.andP fun _=>.done
  have k:Ev (fun n=>qcO c n 0) (bif allN (fun j=>arcI c.Bg (gt c.Ba j)&&newArc c.Ba j) c.Ba.length then .nxt (c.Ba.length:Int) else .ret false):=by
    refine qff ?_ (fun j d X l=>Ev.succ ?_)
    · exact Ev.succ (by simp only[qcO,qk (je _),cond_false];exact .done)
    · simp only[qcO,qi d,cond_true,qC d,jd,qmU (Nat.le_of_lt d),wS j]
      refine Ev.chk (qAo h (qoS f d) p) fun _=>Ev.chkT1 ?_ (fun _=>l);refine(i _ _ (by simp;omega)).cast ?_;rw[qAg (Nat.le_of_lt d)];rfl
  unfold qhk;refine Ev.bind k ?_;cases allN (fun j=>arcI c.Bg (gt c.Ba j)&&newArc c.Ba j) c.Ba.length
  · exact .done
  · refine Ev.now ?_
    show V (decide ((c.Ba.length:Int)<=((8:Nat):Int)))=V (true&&decide (c.Ba.length<=8));rw[qo5,jG]
def hasB(b:List qI)(k:Int):Bool:=b.any fun a=>a.Bi==k
theorem qq4{c:qB}{k:Int}(f:c.Ba.length<=1048576):Ev (fun n=>qdO n c k) (hasB c.Ba k):=by
  unfold qdO qbr;exact Ev.last (Ev.bind (b:=ixL (fun x=>x.Bi==k) c.Ba) (qgX (fin:=(c.Ba.length:Int)) (Lf:=qae c.Ba k) (pf:=fun n x=>qkY n x k) (fun x _=>.done)
      (fun n=>by simp only[qae,qk (je _),cond_false])
      (fun n j x a=>by
        have d:=(List.getElem?_eq_some_iff.1 a).1;simp only[qae,qi d,cond_true,qao a,jd,wS j])
      (fun n=>by unfold qbJ;congr 1;funext o;cases o<;>rfl)) (Ev.now (by rw[qpN];rfl)))
def kindN(a:List qI)(k:Nat)(j:Nat):Nat:=cntP (fun i=>(gt a i).Bi==(k:Int)) j
theorem qud{a:List qI}{k:Nat}:decide (((kindN a k a.length:Nat):Int) > 0)=hasB a k:=by
  rw[show decide (((kindN a k a.length:Nat):Int) > 0)=decide (0<kindN a k a.length) by simp];unfold kindN hasB;rw[qvB,qwJ]
theorem qwv{a:List qI}{k:Nat}:(((kindN a k a.length:Nat):Int)==0) = !hasB a k:=by
  rw[<-qud,jn];simp
theorem qwq{c:qB}(g:okL qpY c.Ba)(h:∀j,j<c.Ba.length->1<=(gt c.Ba j).Bi/\(gt c.Ba j).Bi<=5):Ev (fun n=>qkk n c) (vecC (fun k=>kindN c.Ba k c.Ba.length) 6):=by
  have o:=g.len;have d:Ev (fun n=>qdJ c n (vecC (fun _=>0) 6) 0) (vecC (fun k=>kindN c.Ba k c.Ba.length) 6,(c.Ba.length:Int)):=by
    refine loopF (Lf:=qdJ c) (S:=fun j=>vecC (fun k=>kindN c.Ba k j) 6) (len:=c.Ba.length) (fun n=>?_) (fun j a X f=>?_)
    · simp only[qdJ,qk (je _),cond_false]
    · obtain⟨p,r⟩:=h j a
      have b:(gt c.Ba j).Bi=(((gt c.Ba j).Bi.toNat:Nat):Int):=qgA (by omega);have l:kindN c.Ba (gt c.Ba j).Bi.toNat j<=j:=qgC;simp only[qdJ,qi a,cond_true,qC a,jd,wS j];rw[b,qlF (show(gt c.Ba j).Bi.toNat<6 by omega)];simp only[jd];rw[qt5 (c:=fun k=>kindN c.Ba k j) (by show kindN c.Ba _ j<_;omega)];have:vecC (fun i=>kindN c.Ba i j+(bif decide ((gt c.Ba j).Bi.toNat=i) then 1 else 0)) 6=vecC (fun k=>kindN c.Ba k (j+1)) 6:=by
        refine qlC (fun k _=>?_);show _=kindN c.Ba k j+(bif (gt c.Ba j).Bi==(k:Int) then 1 else 0)
        congr 2
        rw[jn];simp;omega
      rw[this];exact f
  unfold qkk;rw[show mkS 6 (0:Int)=V (vecC (fun _=>0) 6) from qpg (m:=6) (by omega)];simp only[jd];exact Ev.bind d .done
def kindB(c:qB):Bool:=
  bif c.Bi==1 then(((clkN c.Bg c.Bg.length:Nat):Int)==0)&&(((c.Bq.length:Int)==((2 ^ (c.Bg.length-1):Nat):Int))&&(c.Bq.all fun x=>inI x 0 1))
  else bif c.Bi==2 then(((clkN c.Bg c.Bg.length:Nat):Int)==1)&&(((c.Bq.length:Int)==0)&&(!hasB c.Ba 1&&!(hasB c.Ba 2==hasB c.Ba 3)))
  else bif c.Bi==3 then(((clkN c.Bg c.Bg.length:Nat):Int)==1)&&(((c.Bq.length:Int)==0)&&(hasB c.Ba 1&&(hasB c.Ba 2&&!hasB c.Ba 3)))
  else false
theorem qt0{c:qB}(h:kindB c=true):clkN c.Bg c.Bg.length<=1:=by
  unfold kindB at h;cases h1:(c.Bi==1)
  · cases h2:(c.Bi==2)
    · cases h3:(c.Bi==3)
      · rw[h1,h2,h3] at h;cases h
      · rw[h1,h2,h3] at h
        simp only[cond_true,cond_false,jf,beq_iff_eq] at h;omega
    · rw[h1,h2] at h
      simp only[cond_true,cond_false,jf,beq_iff_eq] at h;omega
  · rw[h1] at h
    simp only[cond_true,jf,beq_iff_eq] at h;omega
theorem qvl{m:Nat}(a:2<=m)(b:m<=5):shlS 1 (W64 ((m:Int)-1))=V ((2 ^ (m-1):Nat):Int)/\shlS 1 (IntKind.wrap .u64 (W64 ((m:Int)-1)))=V ((2 ^ (m-1):Nat):Int):=by
  have:m=2\/m=3\/m=4\/m=5:=by omega
  rcases this with rfl|rfl|rfl|rfl<;>exact⟨by decide,by decide⟩
theorem qvN{c:qB}(b:qpd c)(k:2<=c.Bg.length)(g:c.Bg.length<=5):Ev (fun n=>qgB n c) (kindB c):=by
  have l:=b.Bg.len;have i:Ev (fun n=>qbk c n 0 0) (((clkN c.Bg c.Bg.length:Nat):Int),(c.Bg.length:Int)):=by
    refine loopF (Lf:=qbk c) (S:=fun j=>((clkN c.Bg j:Nat):Int)) (len:=c.Bg.length) (fun n=>?_) (fun j h X d=>?_)
    · simp only[qbk,qk (je _),cond_false]
    · have m:clkN c.Bg j<=j:=qgC
      simp only[qbk,qi h,cond_true,qC h,jd,wS j,qcB (show clkN c.Bg j<9223372036854775807 by omega)];have f:clkN c.Bg (j+1)=clkN c.Bg j+(bif (gt c.Bg j).Bt then 1 else 0):=rfl;rw[f] at d;cases b:(gt c.Bg j).Bt
      · rw[b] at d;exact Ev.ff Z d
      · rw[b] at d;exact Ev.tt Z d
  unfold qgB kindB;refine Ev.bind i ?_;simp only[qe7,qcN,jd,(qvl k g).1];have a:=b.Ba.len;refine Ev.iff (fun _=>?_) (fun _=>Ev.iff (fun _=>?_) (fun _=>Ev.iff (fun _=>?_) (fun _=>.done)))
  · exact Ev.andP fun _=>Ev.andP fun _=>Ev.last (qeG b.Bq.len)
  · exact Ev.andP fun _=>Ev.andP fun _=>Ev.bind (qq4 a) (Ev.andP fun _=>Ev.bind (qq4 a) (Ev.bind (qq4 a) .done))
  · exact Ev.andP fun _=>Ev.andP fun _=>Ev.and (qq4 a) fun _=>Ev.and (qq4 a) fun _=>Ev.bind (qq4 a) .done
def cellB(c:qB):Bool:=
  nameB c.Bc&&(pinsB c.Bg&&((allN (fun j=>arcI c.Bg (gt c.Ba j)&&newArc c.Ba j) c.Ba.length&&decide (c.Ba.length<=8))&&(inI c.Cc 0 100000&&(inI c.Bw 0 100000&&kindB c))))
theorem qya{c:qB}(a:qpd c):Ev (fun n=>qmx n c) (cellB c):=by
  simp only[qmx,qq5 a.Bc,qcR,jd];unfold cellB;refine Ev.andP fun _=>Ev.and (qwG a.Bg) fun f=>?_;obtain⟨⟨d,b⟩,_⟩:=qhx f;exact Ev.and (qwF a.Bg a.Ba d) fun _=>Ev.andP fun _=>Ev.andP fun _=>Ev.last (qvN a d b)
theorem qwW{c:qB}(d:qpd c):Ev (fun n=>qmo n c) (cellB c):=by
  have p:=d.Ba.len;have r:=d.Bq.len;have e:cellB c=((pinsB c.Bg&&(nameB c.Bc&&(decide (c.Ba.length<=8)&&(inI c.Cc 0 100000&&inI c.Bw 0 100000))))&&(allN (fun j=>arcS c.Bg (gt c.Ba j)&&newArc c.Ba j) c.Ba.length&&kindB c)):=by
    unfold cellB;cases l:kindB c
    · simp
    · cases hp:pinsB c.Bg
      · simp
      · rw[qiT (fun j _=>by rw[qzt hp (qt0 l)])]
        cases nameB c.Bc<;>cases allN (fun j=>arcS c.Bg (gt c.Ba j)&&newArc c.Ba j) c.Ba.length<;>cases decide (c.Ba.length<=8)<;>cases inI c.Cc 0 100000<;>cases inI c.Bw 0 100000<;>rfl
  rw[e];unfold qmo;refine Ev.bind (qxe d.Bg) ?_;cases hp:pinsB c.Bg
  · exact .done
  · obtain⟨⟨o,m⟩,_⟩:=qhx hp
    simp only[cond_true,jG,Ji,cond_false];refine Ev.guardB ?_ (fun _=>?_)
    · simp only[qcA,jd,qdr]
      refine Ev.orB (qnM d.Bc) fun _=>?_;rw[show decide ((c.Ba.length:Int) > 8) = !decide (c.Ba.length<=8) by rw[jn];simp;omega,qdr];exact Ev.orBP fun _=>Ev.orBP fun _=>.done
    · have g:∀j,j<c.Ba.length->Ev (fun n=>qdZ c (j:Int) (gt c.Ba j) n 0) (bif newArc c.Ba j then .nxt (j:Int) else .ret false):=by
        intro j a;refine qff ?_ (fun i hi X b=>Ev.succ ?_)
        · exact Ev.succ (by simp only[qdZ,qk (je _),cond_false];exact .done)
        · simp only[qdZ,qi hi,cond_true,qC (show i<c.Ba.length by omega),jd,wS i]
          unfold sameArc;cases ((gt c.Ba i).Bi==(gt c.Ba j).Bi)
          · exact b
          · cases ((gt c.Ba i).Bl==(gt c.Ba j).Bl)
            · exact b
            · cases ((gt c.Ba i).To==(gt c.Ba j).To)
              · exact b
              · exact .done
      have f:Ev (fun n=>qgr c n 0) (bif allN (fun j=>arcS c.Bg (gt c.Ba j)&&newArc c.Ba j) c.Ba.length then .nxt (c.Ba.length:Int) else .ret false):=by
        refine qff ?_ (fun j a X b=>Ev.succ ?_)
        · exact Ev.succ (by simp only[qgr,qk (je _),cond_false];exact .done)
        · simp only[qgr,qi a,cond_true,qC a,jd,wS j]
          refine Ev.chk (qy1 d.Bg (qoS d.Ba a) o) fun _=>Ev.bind (g j a) ?_;cases newArc c.Ba j
          · exact .done
          · exact b
      have h:Ev (fun n=>qgx c n 0) (bif (c.Bq.all fun x=>inI x 0 1) then .nxt (c.Bq.length:Int) else .ret false):=
        qqq (fun n=>by simp only[qgx,qk (je _),cond_false]) (fun j a X b=>by
          simp only[qgx,qi a,cond_true,qcX a,jd,qcA,wS j,qdr];exact Ev.okP1 fun _=>b)
      refine Ev.bind f ?_;cases hA:allN (fun j=>arcS c.Bg (gt c.Ba j)&&newArc c.Ba j) c.Ba.length
      · exact .done
      · have l:∀j,j<c.Ba.length->1<=(gt c.Ba j).Bi/\(gt c.Ba j).Bi<=5:=fun j a=>by
          have:=qas.1 hA j a;rw[jf] at this;exact qui this.1
        simp only[cond_true,jG];refine Ev.bind (qwq d.Ba l) ?_;simp only[(qvl o m).2,jd,
          show idx (vecC (fun k=>kindN c.Ba k c.Ba.length) 6) (1:Int)=V ((kindN c.Ba 1 c.Ba.length:Nat):Int) from qlF (k:=1) (by omega),
          show idx (vecC (fun k=>kindN c.Ba k c.Ba.length) 6) (2:Int)=V ((kindN c.Ba 2 c.Ba.length:Nat):Int) from qlF (k:=2) (by omega),
          show idx (vecC (fun k=>kindN c.Ba k c.Ba.length) 6) (3:Int)=V ((kindN c.Ba 3 c.Ba.length:Nat):Int) from qlF (k:=3) (by omega),qud,qwv]
        unfold kindB;refine Ev.iff (fun _=>?_) (fun _=>Ev.iff (fun _=>?_) (fun _=>Ev.iff (fun _=>?_) (fun _=>.done)))
        · refine Ev.bind h ?_
          cases (c.Bq.all fun x=>inI x 0 1)
          · exact Ev.now (by simp)
          · exact(Ev.andP (fun _=>.done)).cast (by rw[Bool.and_true])
        · refine(Ev.andP fun _=>Ev.andP fun _=>Ev.andP fun _=>.done).cast ?_
          cases (((clkN c.Bg c.Bg.length:Nat):Int)==1)<;>cases ((c.Bq.length:Int)==0)<;>cases hasB c.Ba ((1:Nat):Int)<;>cases hasB c.Ba ((2:Nat):Int)<;>cases hasB c.Ba ((3:Nat):Int)<;>rfl
        · refine(Ev.andP fun _=>Ev.andP fun _=>Ev.andP fun _=>Ev.andP fun _=>.done).cast ?_
          cases (((clkN c.Bg c.Bg.length:Nat):Int)==1)<;>cases ((c.Bq.length:Int)==0)<;>cases hasB c.Ba ((1:Nat):Int)<;>cases hasB c.Ba ((2:Nat):Int)<;>cases hasB c.Ba ((3:Nat):Int)<;>rfl
def libB(l:qq):Bool:=l.As.all cellB&&(decide (l.As.length<=8)&&namesB (l.As.map qB.Bc))
theorem qvb{l:qq}(h:qiV l):Ev (fun n=>qjA n l) (libB l):=by
  have d:=h.As.len;have b:Ev (fun n=>qc2 l n ([]:List ByteArray) 0) (bif allN (fun j=>cellB (gt l.As j)) l.As.length then .nxt (l.As.map qB.Bc,(l.As.length:Int)) else .ret false):=by
    refine loopN (Lf:=qc2 l) (S:=fun j=>(l.As.take j).map qB.Bc) (fun j=>cellB (gt l.As j)) (fun n=>?_) (fun j a i X c=>?_)
    · simp only[qc2,qk (je _),cond_false,jC]
    · simp only[qc2,qi a,cond_true,qC a,jd,qnb a d,qgG (g:=qB.Bc) a,wS j]
      exact Ev.chk1 (qya (qoS h.As a)) c
  unfold qjA libB;rw[qi8];refine Ev.bind b ?_;cases allN (fun j=>cellB (gt l.As j)) l.As.length
  · exact .done
  · simp only[cond_true,jG,show decide ((l.As.length:Int)<=8)=decide (l.As.length<=8) from qo5 (k:=8)]
    exact Ev.andP fun _=>Ev.last (qks (qpf h.As (fun x f=>f.Bc)))

theorem qxj{c:qB}(h:cellB c=true):nameB c.Bc=true:=by
 unfold cellB at h;rw[jf] at h;exact h.1
theorem qjR{c:qB}(h:cellB c=true):pinsB c.Bg=true:=by
 unfold cellB at h;simp only[jf] at h;exact h.2.1
theorem qtI{l:qq}(h:qiV l):Ev (fun n=>qjh n l) (libB l):=by
 have f:=h.As.len;have c:∀j,j<l.As.length->Ev (fun n=>qd6 l (j:Int) n 0) (bif allN (neB (l.As.map qB.Bc) j) j then .nxt (j:Int) else .ret false):=by
  intro j a;refine qff ?_ (fun i hi X d=>Ev.succ ?_)
  ·exact Ev.succ (by simp only[qd6,qk (je _),cond_false];exact .done)
  ·simp only[qd6,qi hi,cond_true,qC (show i<l.As.length by omega),qC a,jd,qiw,wS i];unfold neB;rw[qls (g:=qB.Bc) (show i<l.As.length by omega),qls (g:=qB.Bc) a];exact Ev.chkP1 (fun _=>d)
 have b:Ev (fun n=>qeb l n 0) (bif allN (fun j=>cellB (gt l.As j)&&allN (neB (l.As.map qB.Bc) j) j) l.As.length then .nxt (l.As.length:Int) else .ret false):=by
  refine qff ?_ (fun j a X d=>Ev.succ ?_)
  ·exact Ev.succ (by simp only[qeb,qk (je _),cond_false];exact .done)
  ·simp only[qeb,qi a,cond_true,qC a,jd,wS j];refine Ev.chk (qwW (qoS h.As a)) fun _=>Ev.bind (c j a) ?_;cases allN (neB (l.As.map qB.Bc) j) j
   ·exact .done
   ·exact d
 have e:libB l=(allN (fun j=>cellB (gt l.As j)&&allN (neB (l.As.map qB.Bc) j) j) l.As.length&&decide (l.As.length<=8)):=by
  unfold libB namesB;rw[qi8,jq,Bool.and_comm (decide (l.As.length<=8)),<-Bool.and_assoc,<-qm3]
  congr 1
  refine qiT (fun j a=>?_);rw[qls (g:=qB.Bc) a];cases hc:cellB (gt l.As j)
  ·rfl
  ·rw[qxj hc];rfl
 rw[e];unfold qjh;refine Ev.bind b ?_;cases allN (fun j=>cellB (gt l.As j)&&allN (neB (l.As.map qB.Bc) j) j) l.As.length
 ·exact .done
 ·refine Ev.now ?_;show V (decide ((l.As.length:Int)<=((8:Nat):Int)))=V (true&&decide (l.As.length<=8));rw[qo5,jG]
theorem qm6{c c':Nat->Nat}{m:Nat}{x:Int}(b:0<=x)(h:x<m)(d:c x.toNat<9223372036854775807)(f:∀k,k<m->c' k=c k+(bif x==(k:Int) then 1 else 0)) :
  idx (vecC c m) x=V (c x.toNat:Int)/\setS (vecC c m) x (W64 ((c x.toNat:Int)+1))=vecC c' m:=by
 have ex:x=(x.toNat:Int):=qgA b;have e1:=qlF (c:=c) (m:=m) (k:=x.toNat) (by omega);have a:=qt5 (c:=c) (m:=m) (k:=x.toNat) d;rw[<-ex] at e1 a;refine⟨e1,a.trans (qlC (fun k g=>?_))⟩;rw[f k g]
 congr 2
 rw[jn];simp;omega
def netB(d:qd)(x:Int):Bool:=inI x 0 ((d.Am.length:Int)-1)
theorem qvn{n:Nat}{d:qd}{x:Int}(a:d.Am.length<=1048576):qeh n d x=V (netB d x):=by
 simp only[qeh,qiU,jd,qcR,qfM (show d.Am.length<=9223372036854775807 by omega)];rfl
theorem qtS{n:Nat}{d:qd}{x:Int}(a:d.Am.length<=1048576):qal n x 0 (W64 ((d.Am.length:Int)-1))=V (netB d x):=by
 rw[qcA,qfM (show d.Am.length<=9223372036854775807 by omega)];rfl
def hasNamesB(d:qd):Bool:=(decide (d.Ab.length<=14)&&(decide (d.Am.length<=30)&&decide (d.Aj.length<=8)))&&(namesB (d.Ab.map ql.Bc)&&(namesB d.Am&&namesB (d.Aj.map qP.Bc)))
theorem qvp{d:qd}(h:qly d):Ev (fun n=>qfR n d) (hasNamesB d):=by
 have i:=h.Ab.len;have l:=h.Aj.len;have b:Ev (fun n=>qbt d n ([]:List ByteArray) 0) (d.Ab.map ql.Bc,(d.Ab.length:Int)):=by
  refine loopF (Lf:=qbt d) (S:=fun j=>(d.Ab.take j).map ql.Bc) (len:=d.Ab.length) (fun n=>?_) (fun j a X f=>?_)
  ·simp only[qbt,qk (je _),cond_false,jC]
  ·simpa only[qbt,qi a,cond_true,qC a,jd,qnb a i,qgG (g:=ql.Bc) a,wS j] using f
 have c:Ev (fun n=>qbu d n ([]:List ByteArray) 0) (d.Aj.map qP.Bc,(d.Aj.length:Int)):=by
  refine loopF (Lf:=qbu d) (S:=fun j=>(d.Aj.take j).map qP.Bc) (len:=d.Aj.length) (fun n=>?_) (fun j a X f=>?_)
  ·simp only[qbu,qk (je _),cond_false,jC]
  ·simpa only[qbu,qi a,cond_true,qC a,jd,qnb a l,qgG (g:=qP.Bc) a,wS j] using f
 unfold qfR hasNamesB;refine Ev.bind b (Ev.bind c ?_);simp only[jq];rw[show decide ((d.Ab.length:Int)<=14)=decide (d.Ab.length<=14) from qo5 (k:=14),show decide ((d.Am.length:Int)<=30)=decide (d.Am.length<=30) from qo5 (k:=30),show decide ((d.Aj.length:Int)<=8)=decide (d.Aj.length<=8) from qo5 (k:=8)];rw[Bool.and_assoc,Bool.and_assoc];exact Ev.andP fun _=>Ev.andP fun _=>Ev.andP fun _=>Ev.and (qks (qpf h.Ab (fun x m=>m.Bc))) fun _=>Ev.and (qks h.Am) fun _=>Ev.last (qks (qpf h.Aj (fun x m=>m.Bc)))
def instB(l:qq)(d:qd)(x:ql):Bool:=inI x.Bv 0 ((l.As.length:Int)-1)&&(((x.Am.length:Int)==((gt l.As x.Bv.toNat).Bg.length:Int))&&x.Am.all (netB d))
theorem qtK{d:qd}{l:qq}{x:ql}(g:d.Am.length<=1048576)(h:l.As.length<=1048576)(a:x.Am.length<=1048576):Ev (fun n=>qeA n d l x) (instB l d x):=by
 simp only[qeA,qhj,jd,qcR,qfM (show l.As.length<=9223372036854775807 by omega)];unfold instB;refine Ev.andP fun c=>?_;rw[qbe] at c;rw[qf6 c.1 (by omega)];simp only[jd];refine Ev.andP fun _=>Ev.bind (b:=x.Am.any fun y=>!netB d y) ?_ (Ev.now (by rw[qsd]));unfold qaY;exact Ev.bind (b:=ixL (fun y=>!netB d y) x.Am) (qgX (fin:=(x.Am.length:Int)) (Lf:=qO x.Am d) (pf:=fun n y=>qdN n y d) (fun y _=>⟨0,fun n _=>by simp only[qdN,qvn g,jd]⟩)
   (fun n=>by simp only[qO,qk (je _),cond_false])
   (fun n j y a=>by
    have f:=(List.getElem?_eq_some_iff.1 a).1;simp only[qO,qi f,cond_true,qao a,jd,wS j])
   (fun n=>by unfold qba;congr 1;funext o;cases o<;>rfl)) (Ev.now (by rw[qpN]))
def portB(d:qd)(p:qP):Bool:=inI p.Bx 1 2&&netB d p.Ca
theorem qB6{x:Int}:inI x 1 2=((x==1) || (x==2)):=by
 unfold inI;rw[jn];simp;omega
def lastN(x:ql):Int:=at0 x.Am (x.Am.length-1)
theorem qv3{x:ql}(a:1<=x.Am.length)(b:x.Am.length<=1048576):idx x.Am (W64 ((x.Am.length:Int)-1))=V (lastN x):=by
 rw[qfM (by omega),show((x.Am.length:Int)-1)=((x.Am.length-1:Nat):Int) by omega,qar (by omega)];rfl
theorem qx8{d:qd}{x:ql}(a:1<=x.Am.length)(h:x.Am.all (netB d)=true):0<=lastN x/\lastN x<d.Am.length:=by
 rw[qhG (d:=0),qas] at h;have:=h (x.Am.length-1) (by omega);unfold netB at this;rw[qbe] at this;unfold lastN at0;omega
theorem qsM{l:qq}{d:qd}{x:ql}(a:libB l=true)(h:instB l d x=true):1<=x.Am.length/\0<=lastN x/\lastN x<d.Am.length:=by
 unfold instB at h;simp only[jf,qbe,beq_iff_eq] at h;obtain⟨g,i,f⟩:=h;unfold libB at a;simp only[jf] at a;have c:=a.1;rw[qi8,qas] at c;have:=qhx (qjR (c x.Bv.toNat (by omega)));have b:1<=x.Am.length:=by omega
 exact⟨b,qx8 b f⟩
def drvI(d:qd)(k j:Nat):Nat:=cntP (fun i=>lastN (gt d.Ab i)==(k:Int)) j
def drvP(d:qd)(k j:Nat):Nat:=cntP (fun i=>((gt d.Aj i).Bx==1)&&((gt d.Aj i).Ca==(k:Int))) j
def drvB(d:qd):Bool:=allN (fun k=>((drvI d k d.Ab.length+drvP d k d.Aj.length:Nat):Int)==1) d.Am.length
def designB(l:qq)(d:qd):Bool:=(libB l&&hasNamesB d)&&(d.Ab.all (instB l d)&&(d.Aj.all (portB d)&&drvB d))
theorem qqV{d:qd}{k j:Nat}:drvI d k (j+1)=drvI d k j+(bif lastN (gt d.Ab j)==(k:Int) then 1 else 0):=rfl
theorem qo4{d:qd}{k j:Nat}:drvP d k (j+1)=drvP d k j+(bif ((gt d.Aj j).Bx==1)&&((gt d.Aj j).Ca==(k:Int)) then 1 else 0):=rfl
theorem qvO{l:qq}{d:qd}(h:qiV l)(g:qly d):Ev (fun n=>qkn n l d) (designB l d):=by
 have I:=g.Ab.len;have J:=g.Aj.len;have i:=g.Am.len;have v:=h.As.len;unfold qkn designB;refine Ev.guardB (Ev.or (qvb h) fun _=>Ev.neg (qvp g)) fun z=>?_;rw[jf] at z;rw[qpg (m:=d.Am.length) (by omega)];simp only[jd];have t:Ev (fun n=>qdv l d n (vecC (fun _=>0) d.Am.length) 0) (bif allN (fun j=>instB l d (gt d.Ab j)) d.Ab.length then .nxt (vecC (fun k=>drvI d k d.Ab.length) d.Am.length,(d.Ab.length:Int)) else .ret false):=by
  refine loopN (Lf:=qdv l d) (S:=fun j=>vecC (fun k=>drvI d k j) d.Am.length) (fun j=>instB l d (gt d.Ab j)) (fun n=>?_) (fun j a K X f=>?_)
  ·simp only[qdv,qk (je _),cond_false]
  ·simp only[qdv,qi a,cond_true,qC a,jd,wS j];have p:=(qoS g.Ab a).Am.len;refine Ev.chk1 (qtK i v p) fun hi=>?_;obtain⟨r,B,C⟩:=qsM z.1 hi;have L:drvI d (lastN (gt d.Ab j)).toNat j<=j:=qgC;obtain⟨e1,s⟩:=qm6 (c:=fun k=>drvI d k j) (c':=fun k=>drvI d k (j+1)) B C (by show drvI _ _ _<_;omega) (fun k _=>qqV);simp only[qv3 r p,jd,e1,s];exact f hi
 have u:Ev (fun n=>qcQ d n (vecC (fun k=>drvI d k d.Ab.length) d.Am.length) 0) (bif allN (fun j=>portB d (gt d.Aj j)) d.Aj.length then .nxt (vecC (fun k=>drvI d k d.Ab.length+drvP d k d.Aj.length) d.Am.length,(d.Aj.length:Int)) else .ret false):=by
  refine loopN (Lf:=qcQ d) (S:=fun j=>vecC (fun k=>drvI d k d.Ab.length+drvP d k j) d.Am.length) (fun j=>portB d (gt d.Aj j)) (fun n=>?_) (fun j a K X f=>?_)
  ·simp only[qcQ,qk (je _),cond_false]
  ·simp only[qcQ,qi a,cond_true,qC a,jd,qvn i,bne,wS j];refine Ev.chkT1 ?_ fun hi=>?_
   ·unfold portB;rw[qB6];cases ((gt d.Aj j).Bx==1)<;>cases ((gt d.Aj j).Bx==2)<;>exact .done
   ·have f:=f hi;unfold portB netB at hi;simp only[jf,qbe] at hi;have D:drvI d (gt d.Aj j).Ca.toNat d.Ab.length<=d.Ab.length:=qgC;have F:drvP d (gt d.Aj j).Ca.toNat j<=j:=qgC;cases r:((gt d.Aj j).Bx==1)
    ·have:vecC (fun k=>drvI d k d.Ab.length+drvP d k (j+1)) d.Am.length=vecC (fun k=>drvI d k d.Ab.length+drvP d k j) d.Am.length:=by
      refine qlC (fun k _=>?_);rw[qo4,r];rfl
     rw[this] at f;exact f
    ·obtain⟨e1,s⟩:=qm6 (c:=fun k=>drvI d k d.Ab.length+drvP d k j) (c':=fun k=>drvI d k d.Ab.length+drvP d k (j+1)) (x:=(gt d.Aj j).Ca) (m:=d.Am.length) hi.2.1 (by omega) (by show drvI _ _ _+drvP _ _ _<_;omega) (fun k _=>by rw[qo4,r,jG];omega);simp only[cond_true,jd,e1,s];exact f
 rw[qi8,qi8];refine Ev.bind t ?_;cases allN (fun j=>instB l d (gt d.Ab j)) d.Ab.length
 ·exact .done
 ·refine Ev.bind u ?_;cases allN (fun j=>portB d (gt d.Aj j)) d.Aj.length
  ·exact .done
  ·simp only[cond_true,jG];unfold qb0;refine Ev.bind (b:=(vecC (fun k=>drvI d k d.Ab.length+drvP d k d.Aj.length) d.Am.length).any fun x=>!(x==1)) (Ev.bind (b:=ixL (fun x=>!(x==1)) (vecC (fun k=>drvI d k d.Ab.length+drvP d k d.Aj.length) d.Am.length)) (qgX (fin:=(((vecC (fun k=>drvI d k d.Ab.length+drvP d k d.Aj.length) d.Am.length).length:Nat):Int)) (Lf:=qap (vecC (fun k=>drvI d k d.Ab.length+drvP d k d.Aj.length) d.Am.length)) (pf:=fun n y=>qk0 n y) (fun y _=>.done)
    (fun n=>by simp only[qap,qk (je _),cond_false])
    (fun n j y A=>by
     have a:=(List.getElem?_eq_some_iff.1 A).1;have:j<d.Am.length:=by rw[qoR] at a;exact a
     simp only[qap,qi a,cond_true,qao A,jd,wS j])
    (fun n=>by unfold qcl;congr 1;funext o;cases o<;>rfl)) (Ev.now (by rw[qpN]))) (Ev.now ?_)
   rw[qsd,qhG (d:=0),qoR];unfold drvB
   congr 1
   exact qiT (fun k H=>by
    have:=qvs (c:=fun k=>drvI d k d.Ab.length+drvP d k d.Aj.length) H;unfold at0 at this;rw[this])
theorem qwd{l:qq}{d:qd}(h:qiV l)(f:qly d):Ev (fun n=>qkb n l d) (d.Ab.all (instB l d)&&d.Aj.all (portB d)):=by
 have r:=f.Ab.len;have s:=f.Aj.len;have c:=f.Am.len;have p:=h.As.len;have i:∀x:ql,x.Am.length<=1048576->Ev (fun n=>qe5 d x n 0) (bif x.Am.all (netB d) then .nxt (x.Am.length:Int) else .ret false):=fun x t=>
  qqq (fun n=>by simp only[qe5,qk (je _),cond_false]) (fun j a X b=>by
   simp only[qe5,qi a,cond_true,qcX a,jd,qtS c,wS j,qdr];exact Ev.okP1 fun _=>b)
 have g:Ev (fun n=>qeZ l d n 0) (bif allN (fun j=>instB l d (gt d.Ab j)) d.Ab.length then .nxt (d.Ab.length:Int) else .ret false):=by
  refine qff ?_ (fun j a X b=>Ev.succ ?_)
  ·exact Ev.succ (by simp only[qeZ,qk (je _),cond_false];exact .done)
  ·simp only[qeZ,qi a,cond_true,qC a,jd,qcA,qfM (show l.As.length<=9223372036854775807 by omega),wS j,bne];have m:=(qoS f.Ab a).Am.len;unfold instB;rw[<-Bool.and_assoc];refine Ev.chkT ?_ fun _=>Ev.bind (i _ m) ?_
   ·simp only[qdr];refine Ev.orBP fun o=>?_;rw[qbe] at o;rw[qf6 o.1 (by omega)];exact .done
   ·cases (gt d.Ab j).Am.all (netB d)
    ·exact .done
    ·exact b
 have k:Ev (fun n=>qeY d n 0) (bif allN (fun j=>portB d (gt d.Aj j)) d.Aj.length then .nxt (d.Aj.length:Int) else .ret false):=by
  refine qff ?_ (fun j a X b=>Ev.succ ?_)
  ·exact Ev.succ (by simp only[qeY,qk (je _),cond_false];exact .done)
  ·simp only[qeY,qi a,cond_true,qC a,jd,qtS c,wS j];simp only[qcA,jd,qdr];unfold portB;exact Ev.okP fun _=>Ev.okP1 fun _=>b
 unfold qkb;rw[qi8,qi8];refine Ev.bind g ?_;cases allN (fun j=>instB l d (gt d.Ab j)) d.Ab.length
 ·exact .done
 ·refine Ev.bind k ?_;cases allN (fun j=>portB d (gt d.Aj j)) d.Aj.length<;>exact .done
theorem quB{l:qq}{d:qd}(h:qiV l)(i:qly d):Ev (fun n=>qj9 n l d) (designB l d):=by
 have J:=i.Ab.len;have K:=i.Aj.len;have W:=i.Am.len;have T:=h.As.len;have e:designB l d=((libB l&&(decide (d.Ab.length<=14)&&(decide (d.Am.length<=30)&&(decide (d.Aj.length<=8)&&(d.Ab.all (instB l d)&&d.Aj.all (portB d))))))&&((namesB (d.Ab.map ql.Bc)&&(namesB (d.Aj.map qP.Bc)&&namesB d.Am))&&drvB d)):=by
  unfold designB hasNamesB;generalize libB l=a1;generalize decide (d.Ab.length<=14)=a2;generalize decide (d.Am.length<=30)=a3;generalize decide (d.Aj.length<=8)=a4;generalize d.Ab.all (instB l d)=a5;generalize d.Aj.all (portB d)=a6;generalize namesB (d.Ab.map ql.Bc)=a7;generalize namesB (d.Aj.map qP.Bc)=a8;generalize namesB d.Am=a9;generalize drvB d=a10;rw[jn];simp only[jf];constructor
  ·rintro⟨⟨f,⟨p,r,u⟩,z,B,A⟩,v,y,o⟩;exact⟨⟨f,p,r,u,v,y⟩,⟨z,A,B⟩,o⟩
  ·rintro⟨⟨f,p,r,u,v,y⟩,⟨z,A,B⟩,o⟩;exact⟨⟨f,⟨p,r,u⟩,z,B,A⟩,v,y,o⟩
 rw[e];unfold qj9;refine Ev.guardB ?_ fun P=>?_
 ·refine Ev.or (qtI h) fun _=>?_;rw[show decide ((d.Ab.length:Int) > 14) = !decide (d.Ab.length<=14) by rw[jn];simp;omega,show decide ((d.Am.length:Int) > 30) = !decide (d.Am.length<=30) by rw[jn];simp;omega,show decide ((d.Aj.length:Int) > 8) = !decide (d.Aj.length<=8) by rw[jn];simp;omega];simp only[qdr];exact Ev.orBP fun _=>Ev.orBP fun _=>Ev.orBP fun _=>Ev.neg (qwd h i)
 ·simp only[jf] at P;obtain⟨s,_,_,_,N,O⟩:=P;rw[qi8,qas] at N O;have C:Ev (fun n=>qdA d n ([]:List ByteArray) 0) (d.Ab.map ql.Bc,(d.Ab.length:Int)):=by
   refine loopF (Lf:=qdA d) (S:=fun j=>(d.Ab.take j).map ql.Bc) (len:=d.Ab.length) (fun n=>?_) (fun j a X b=>?_)
   ·simp only[qdA,qk (je _),cond_false,jC]
   ·simpa only[qdA,qi a,cond_true,qC a,jd,qnb a J,qgG (g:=ql.Bc) a,wS j] using b
  have D:Ev (fun n=>qdu d n ([]:List ByteArray) 0) (d.Aj.map qP.Bc,(d.Aj.length:Int)):=by
   refine loopF (Lf:=qdu d) (S:=fun j=>(d.Aj.take j).map qP.Bc) (len:=d.Aj.length) (fun n=>?_) (fun j a X b=>?_)
   ·simp only[qdu,qk (je _),cond_false,jC]
   ·simpa only[qdu,qi a,cond_true,qC a,jd,qnb a K,qgG (g:=qP.Bc) a,wS j] using b
  have F:Ev (fun n=>qdF d n (vecC (fun _=>0) d.Am.length) 0) (vecC (fun k=>drvI d k d.Ab.length) d.Am.length,(d.Ab.length:Int)):=by
   refine loopF (Lf:=qdF d) (S:=fun j=>vecC (fun k=>drvI d k j) d.Am.length) (len:=d.Ab.length) (fun n=>?_) (fun j a X b=>?_)
   ·simp only[qdF,qk (je _),cond_false]
   ·have M:=(qoS i.Ab a).Am.len;obtain⟨f,p,r⟩:=qsM s (N j a);have Y:drvI d (lastN (gt d.Ab j)).toNat j<=j:=qgC;obtain⟨e1,t⟩:=qm6 (c:=fun k=>drvI d k j) (c':=fun k=>drvI d k (j+1)) p r (by show drvI _ _ _<_;omega) (fun k _=>qqV);simpa only[qdF,qi a,cond_true,qC a,jd,wS j,qv3 f M,e1,t] using b
  have H:Ev (fun n=>qcP d n (vecC (fun k=>drvI d k d.Ab.length) d.Am.length) 0) (vecC (fun k=>drvI d k d.Ab.length+drvP d k d.Aj.length) d.Am.length,(d.Aj.length:Int)):=by
   refine loopF (Lf:=qcP d) (S:=fun j=>vecC (fun k=>drvI d k d.Ab.length+drvP d k j) d.Am.length) (len:=d.Aj.length) (fun n=>?_) (fun j a X b=>?_)
   ·simp only[qcP,qk (je _),cond_false]
   ·have hi:=O j a;unfold portB netB at hi;simp only[jf,qbe] at hi;have Q:drvI d (gt d.Aj j).Ca.toNat d.Ab.length<=d.Ab.length:=qgC;have R:drvP d (gt d.Aj j).Ca.toNat j<=j:=qgC;simp only[qcP,qi a,cond_true,qC a,jd,wS j];cases f:((gt d.Aj j).Bx==1)
    ·have:vecC (fun k=>drvI d k d.Ab.length+drvP d k (j+1)) d.Am.length=vecC (fun k=>drvI d k d.Ab.length+drvP d k j) d.Am.length:=by
      refine qlC (fun k _=>?_);rw[qo4,f];rfl
     rw[this] at b;exact b
    ·obtain⟨e1,t⟩:=qm6 (c:=fun k=>drvI d k d.Ab.length+drvP d k j) (c':=fun k=>drvI d k d.Ab.length+drvP d k (j+1)) (x:=(gt d.Aj j).Ca) (m:=d.Am.length) hi.2.1 (by omega) (by show drvI _ _ _+drvP _ _ _<_;omega) (fun k _=>by rw[qo4,f,jG];omega);simp only[cond_true,jd,e1,t];exact b
  have I:Ev (fun n=>qe1 (vecC (fun _=>0) d.Am.length) (vecC (fun k=>drvI d k d.Ab.length+drvP d k d.Aj.length) d.Am.length) n 0) (bif drvB d then .nxt (d.Am.length:Int) else .ret false):=by
   refine qff ?_ (fun j a X b=>Ev.succ ?_)
   ·exact Ev.succ (by simp only[qe1,qoR,qk (je _),cond_false];exact .done)
   ·simp only[qe1,qoR,qi a,cond_true,qlF a,jd,bne,qdr,wS j];exact Ev.okP1 fun _=>b
  refine Ev.bind C (Ev.bind D ?_);refine Ev.guardB (Ev.or (qoW (qpf i.Ab (fun x L=>L.Bc))) fun _=>Ev.or (qoW (qpf i.Aj (fun x L=>L.Bc))) fun _=>Ev.neg (qoW i.Am)) fun _=>?_;rw[qpg (m:=d.Am.length) (by omega)];simp only[jd];refine Ev.bind F (Ev.bind H (Ev.bind I ?_));cases drvB d<;>exact .done

theorem qBk{m k:Nat}:decide ((m:Int)<(k:Int)) = !decide (k<=m):=by rw[jn];simp
theorem qBr{m k:Nat}:decide ((m:Int) > (k:Int)) = !decide (m<=k):=by rw[jn];simp
def treeB(w:qE)(j:Nat):Bool:=bif decide (j=0) then(at0 w.Ar j==-1)&&(at0 w.Bz j==0) else inI (at0 w.Ar j) 0 ((j:Int)-1)
def wireB(w:qE)(s:Int):Bool:=
 lenB w.Ar 1 8&&(((w.Bz.length:Int)==(w.Ar.length:Int))&&(((w.Bu.length:Int)==(w.Ar.length:Int))&&(allN (treeB w) w.Ar.length &&
  ((w.Bz.all fun x=>inI x 0 1000)&&((w.Bu.all fun x=>inI x 0 500)&&(((w.Bn.length:Int)==s)&&(w.Bn.all fun x=>inI x 0 ((w.Ar.length:Int)-1))))))))
theorem qyW{w:qE}(i:w.Ar.length<=1048576)(h:((w.Bz.length:Int)==(w.Ar.length:Int))=true):Ev (fun n=>qhT n w) (allN (treeB w) w.Ar.length):=by
 rw[beq_iff_eq] at h;have g:Ev (fun n=>qbn w n 0) (bif allN (treeB w) w.Ar.length then .nxt (w.Ar.length:Int) else .ret false):=by
  refine qff ?_ (fun j b X a=>Ev.succ ?_)
  ·exact Ev.succ (by simp only[qbn,qk (je _),cond_false];exact .done)
  ·simp only[qbn,qi b,cond_true,qar b,jd,qcR,wS j,bne,qdr];unfold treeB;by_cases f:j=0
   ·subst f;rw[show idx w.Bz (0:Int)=V (at0 w.Bz 0) from qar (j:=0) (by omega)];simp only[jd];refine Ev.tt (by simp) (Ev.okP fun _=>Ev.okP1 fun _=>Ev.ff (by simp) a)
   ·have e1:decide (j=0)=false:=by simp;omega
    have c:((j:Int)==0)=false:=by simp;omega
    have d:decide ((j:Int) > 0)=true:=by simp;omega
    rw[e1,c,d,qfM (show j<=9223372036854775807 by omega)];simp only[cond_false,cond_true];exact Ev.okP1 fun _=>a
 unfold qhT;refine Ev.bind g ?_;cases allN (treeB w) w.Ar.length<;>exact .done
theorem qyr{w:qE}{s:Int}(h:qqt w):Ev (fun n=>qmf n w s) (wireB w s):=by
 have a:=h.Ar.len;simp only[qmf,qbA,jd,qcR,qfM (show w.Ar.length<=9223372036854775807 by omega)];unfold wireB;rw[show inI (w.Ar.length:Int) 1 8=lenB w.Ar 1 8 from qvj (lo:=1) (hi:=8)];exact Ev.andP fun _=>Ev.andP fun b=>Ev.andP fun _=>Ev.and (qyW a b) fun _=>Ev.and (qeG h.Bz.len) fun _=>Ev.and (qeG h.Bu.len) fun _=>Ev.andP fun _=>Ev.last (qeG h.Bn.len)
theorem qxb{w:qE}{s:Int}(h:qqt w):Ev (fun n=>qmy n w s) (wireB w s):=by
 have r:=h.Ar.len;have o:=h.Bn.len;have e:wireB w s=((decide (1<=w.Ar.length)&&(decide (w.Ar.length<=8)&&(((w.Bz.length:Int)==(w.Ar.length:Int))&&(((w.Bu.length:Int)==(w.Ar.length:Int))&&((w.Bn.length:Int)==s)))))&&(allN (fun j=>(inI (at0 w.Bu j) 0 500&&inI (at0 w.Bz j) 0 1000)&&treeB w j) w.Ar.length&&(w.Bn.all fun x=>inI x 0 ((w.Ar.length:Int)-1)))):=by
  unfold wireB lenB;cases h1:((w.Bz.length:Int)==(w.Ar.length:Int))
  ·simp
  ·cases h2:((w.Bu.length:Int)==(w.Ar.length:Int))
   ·simp
   ·rw[beq_iff_eq] at h1 h2;rw[qm3,qm3];rw[qhG (p:=fun x=>inI x 0 1000) (d:=0),qhG (p:=fun x=>inI x 0 500) (d:=0),show w.Bz.length=w.Ar.length by omega,show w.Bu.length=w.Ar.length by omega];show _=(_&&((allN (fun j=>inI (w.Bu.getD j 0) 0 500) _&&allN (fun j=>inI (w.Bz.getD j 0) 0 1000) _&&_)&&_));generalize allN (fun j=>inI (w.Bu.getD j 0) 0 500) w.Ar.length=a1;generalize allN (fun j=>inI (w.Bz.getD j 0) 0 1000) w.Ar.length=a2;generalize allN (fun j=>treeB w j) w.Ar.length=a3;generalize ((w.Bn.length:Int)==s)=a4;generalize decide (1<=w.Ar.length)=a5;generalize decide (w.Ar.length<=8)=a6;generalize (w.Bn.all fun x=>inI x 0 ((w.Ar.length:Int)-1))=a7;cases a1<;>cases a2<;>cases a3<;>cases a4<;>cases a5<;>cases a6<;>rfl
 rw[e];unfold qmy;refine Ev.guardB ?_ fun m=>?_
 ·rw[show decide ((w.Ar.length:Int)<1) = !decide (1<=w.Ar.length) from qBk (k:=1),show decide ((w.Ar.length:Int) > 8) = !decide (w.Ar.length<=8) from qBr (k:=8)];simp only[bne,qdr];exact Ev.orBP fun _=>Ev.orBP fun _=>Ev.orBP fun _=>Ev.orBP fun _=>.done
 ·simp only[jf,beq_iff_eq] at m;have c:Ev (fun n=>qcZ w n 0) (bif allN (fun j=>(inI (at0 w.Bu j) 0 500&&inI (at0 w.Bz j) 0 1000)&&treeB w j) w.Ar.length then .nxt (w.Ar.length:Int) else .ret false):=by
   refine qff ?_ (fun j a X b=>Ev.succ ?_)
   ·exact Ev.succ (by simp only[qcZ,qk (je _),cond_false];exact .done)
   ·simp only[qcZ,qi a,cond_true,qar a,qar (show j<w.Bu.length by omega),qar (show j<w.Bz.length by omega),jd,qcA,wS j,bne,qdr];refine Ev.chkT (Ev.orBP fun _=>.done) fun _=>?_;unfold treeB;by_cases l:j=0
    ·subst l;refine Ev.tt (by simp) (Ev.okP fun _=>Ev.okP1 fun _=>Ev.ff (by simp) b)
    ·have e1:decide (j=0)=false:=by simp;omega
     have g:((j:Int)==0)=false:=by simp;omega
     have i:decide ((j:Int) > 0)=true:=by simp;omega
     rw[e1,g,i,qfM (show j<=9223372036854775807 by omega)];simp only[cond_false,cond_true];exact Ev.okP1 fun _=>b
  have f:Ev (fun n=>qgl w n 0) (bif (w.Bn.all fun x=>inI x 0 ((w.Ar.length:Int)-1)) then .nxt (w.Bn.length:Int) else .ret false):=
   qqq (fun n=>by simp only[qgl,qk (je _),cond_false]) (fun j a X b=>by
    simp only[qgl,qi a,cond_true,qcX a,jd,qcA,qfM (show w.Ar.length<=9223372036854775807 by omega),wS j,qdr];exact Ev.okP1 fun _=>b)
  refine Ev.bind c ?_;cases allN (fun j=>(inI (at0 w.Bu j) 0 500&&inI (at0 w.Bz j) 0 1000)&&treeB w j) w.Ar.length
  ·exact .done
  ·refine Ev.bind f ?_;cases (w.Bn.all fun x=>inI x 0 ((w.Ar.length:Int)-1))<;>exact .done
instance:Inhabited Tplace:=⟨⟨0,0,0,false⟩⟩
instance:Inhabited Tl05Place:=⟨⟨0,0,0,false⟩⟩
def toSp(p:Tplace):Tl05Place:=⟨p.instance_,p.pin,p.net,p.drives⟩
def plX(i:Nat)(x:ql)(j:Nat):List Tplace:=(List.range j).map fun(k:Nat)=>⟨(i:Int),(k:Int),at0 x.Am k,decide (k+1=x.Am.length)⟩
def plI(d:qd)(j:Nat):List Tplace:=(List.range j).flatMap fun(i:Nat)=>plX i (gt d.Ab i) (gt d.Ab i).Am.length
def plP(d:qd)(j:Nat):List Tplace:=(List.range j).map fun(i:Nat)=>⟨-1,(i:Int),(gt d.Aj i).Ca,(gt d.Aj i).Bx==1⟩
def places(d:qd):List Tplace:=plI d d.Ab.length++plP d d.Aj.length
theorem qvL{i:Nat}{x:ql}{j:Nat}:plX i x (j+1)=plX i x j++[⟨(i:Int),(j:Int),at0 x.Am j,decide (j+1=x.Am.length)⟩]:=by
 unfold plX;rw[List.range_succ,jK];rfl
theorem qoV{d:qd}{j:Nat}:plI d (j+1)=plI d j++plX j (gt d.Ab j) (gt d.Ab j).Am.length:=by
 unfold plI;rw[List.range_succ,Jl];simp
theorem qvU{d:qd}{j:Nat}:plP d (j+1)=plP d j++[⟨-1,(j:Int),(gt d.Aj j).Ca,(gt d.Aj j).Bx==1⟩]:=by
 unfold plP;rw[List.range_succ,jK];rfl
theorem qsi{i:Nat}{x:ql}{j:Nat}:(plX i x j).length=j:=by simp[plX]
theorem qsc{d:qd}{j:Nat}:(plP d j).length=j:=by simp[plP]
structure smallD(d:qd):Prop where
 ni:d.Ab.length<=14
 nn:d.Am.length<=30
 np:d.Aj.length<=8
 nx:∀i,i<d.Ab.length->2<=(gt d.Ab i).Am.length/\(gt d.Ab i).Am.length<=5
theorem qW{l:qq}{d:qd}(h:designB l d=true):smallD d:=by
 unfold designB hasNamesB libB at h;simp only[jf,decide_eq_true_eq] at h;obtain⟨⟨⟨b,_⟩,⟨c,f,g⟩,_⟩,a,_⟩:=h;refine⟨c,f,g,fun i hi=>?_⟩;rw[qi8,qas] at a b;have:=a i hi;unfold instB at this;simp only[jf,qbe,beq_iff_eq] at this;have k:=qhx (qjR (b (gt d.Ab i).Bv.toNat (by omega)));omega
theorem qp3{d:qd}(h:smallD d){j:Nat}(a:j<=d.Ab.length):(plI d j).length<=5*j:=by
 induction j with
 |zero=>exact je _
 |succ j ih=>
  rw[qoV,jg,qsi];have:=ih (by omega);have:=h.nx j (by omega);omega
theorem qaX{d:qd}(h:smallD d):(places d).length<=78:=by
 unfold places;rw[jg,qsc];have:=qp3 h (je _);have:=h.ni;have:=h.np;omega
theorem qpe{d:qd}(h:smallD d):Ev (fun n=>qcH n d) (places d):=by
 have l:=h.ni;have m:=h.np;have f:∀i,i<d.Ab.length->∀pre:List Tplace,pre.length<=100->Ev (fun n=>qbV (i:Int) (gt d.Ab i) n pre 0) (pre++plX i (gt d.Ab i) (gt d.Ab i).Am.length,((gt d.Ab i).Am.length:Int)):=by
  intro i hi pre p;have o:=h.nx i hi;have:=loopF (Lf:=qbV (i:Int) (gt d.Ab i)) (S:=fun j=>pre++plX i (gt d.Ab i) j) (len:=(gt d.Ab i).Am.length) (fin:=(pre++plX i (gt d.Ab i) (gt d.Ab i).Am.length,((gt d.Ab i).Am.length:Int))) (fun n=>by
    simp only[qbV,qk (je _),cond_false])
   (fun j a X b=>by
    have k:(pre++plX i (gt d.Ab i) j).length+[(⟨(i:Int),(j:Int),at0 (gt d.Ab i).Am j,decide (j+1=(gt d.Ab i).Am.length)⟩:Tplace)].length<=2147483648:=by
     rw[jg,qsi];simp;omega
    simp only[qbV,qi a,cond_true,qar a,jd,lastE a (show(gt d.Ab i).Am.length<=1048576 by omega),qbl k,jp,<-qvL,wS j];exact b)
  simpa [plX] using this
 have c:Ev (fun n=>qbT d n ([]:List Tplace) 0) (plI d d.Ab.length,(d.Ab.length:Int)):=by
  refine loopF (Lf:=qbT d) (S:=fun j=>plI d j) (len:=d.Ab.length) (fun n=>?_) (fun j a X b=>?_)
  ·simp only[qbT,qk (je _),cond_false]
  ·simp only[qbT,qi a,cond_true,qC a,jd,wS j];refine Ev.bind (f j a _ (by have:=qp3 h (Nat.le_of_lt a);omega)) ?_;rw[<-qoV];exact b
 have g:Ev (fun n=>qbU d n (plI d d.Ab.length) 0) (places d,(d.Aj.length:Int)):=by
  have:=loopF (Lf:=qbU d) (S:=fun j=>plI d d.Ab.length++plP d j) (len:=d.Aj.length) (fin:=(places d,(d.Aj.length:Int))) (fun n=>by
    simp only[qbU,qk (je _),cond_false];rfl)
   (fun j a X b=>by
    have k:(plI d d.Ab.length++plP d j).length+[(⟨-1,(j:Int),(gt d.Aj j).Ca,(gt d.Aj j).Bx==1⟩:Tplace)].length<=2147483648:=by
     rw[jg,qsc];have:=qp3 h (je _);simp;omega
    simp only[qbU,qi a,cond_true,qC a,jd,qbl k,jp,<-qvU,wS j];exact b)
  simpa [plP] using this
 unfold qcH;exact Ev.bind c (Ev.bind g .done)
theorem qiO{d:qd}(h:smallD d):Ev (fun n=>qcz n d) ((places d).map toSp):=by
 have l:=h.ni;have m:=h.np;have f:∀i,i<d.Ab.length->∀pre:List Tplace,pre.length<=100->Ev (fun n=>qc3 (i:Int) (gt d.Ab i) n (pre.map toSp) 0) ((pre++plX i (gt d.Ab i) (gt d.Ab i).Am.length).map toSp,((gt d.Ab i).Am.length:Int)):=by
  intro i hi pre p;have o:=h.nx i hi;have:=loopF (Lf:=qc3 (i:Int) (gt d.Ab i)) (S:=fun j=>(pre++plX i (gt d.Ab i) j).map toSp) (len:=(gt d.Ab i).Am.length) (fin:=((pre++plX i (gt d.Ab i) (gt d.Ab i).Am.length).map toSp,((gt d.Ab i).Am.length:Int))) (fun n=>by
    simp only[qc3,qk (je _),cond_false])
   (fun j a X b=>by
    have k:((pre++plX i (gt d.Ab i) j).map toSp).length+[(⟨(i:Int),(j:Int),at0 (gt d.Ab i).Am j,decide (j+1=(gt d.Ab i).Am.length)⟩:Tl05Place)].length<=2147483648:=by
     rw[jq,jg,qsi];simp;omega
    simp only[qc3,qi a,cond_true,qar a,jd,lastE a (show(gt d.Ab i).Am.length<=1048576 by omega),qbl k,wS j];rw[qvL,<-jp,jK] at b;exact b)
  simpa [plX] using this
 have c:Ev (fun n=>qc1 d n ([]:List Tl05Place) 0) ((plI d d.Ab.length).map toSp,(d.Ab.length:Int)):=by
  refine loopF (Lf:=qc1 d) (S:=fun j=>(plI d j).map toSp) (len:=d.Ab.length) (fun n=>?_) (fun j a X b=>?_)
  ·simp only[qc1,qk (je _),cond_false]
  ·simp only[qc1,qi a,cond_true,qC a,jd,wS j];refine Ev.bind (f j a _ (by have:=qp3 h (Nat.le_of_lt a);omega)) ?_;rw[<-qoV];exact b
 have g:Ev (fun n=>qc5 d n ((plI d d.Ab.length).map toSp) 0) ((places d).map toSp,(d.Aj.length:Int)):=by
  have:=loopF (Lf:=qc5 d) (S:=fun j=>(plI d d.Ab.length++plP d j).map toSp) (len:=d.Aj.length) (fin:=((places d).map toSp,(d.Aj.length:Int))) (fun n=>by
    simp only[qc5,qk (je _),cond_false];rfl)
   (fun j a X b=>by
    have k:((plI d d.Ab.length++plP d j).map toSp).length+[(⟨-1,(j:Int),(gt d.Aj j).Ca,(gt d.Aj j).Bx==1⟩:Tl05Place)].length<=2147483648:=by
     rw[jq,jg,qsc];have:=qp3 h (je _);simp;omega
    simp only[qc5,qi a,cond_true,qC a,jd,qbl k,wS j];rw[qvU,<-jp,jK] at b;exact b)
  simpa [plP] using this
 unfold qcz;exact Ev.bind c (Ev.bind g .done)
def snkQ(d:qd)(k:Int)(i:Nat):Bool:=((gt (places d) i).net==k)&&!(gt (places d) i).drives
def sinksL(d:qd)(k:Int)(j:Nat):List Int:=((List.range j).filter (snkQ d k)).map fun(i:Nat)=>(i:Int)
def snkN(d:qd)(k:Int):Nat:=cntP (snkQ d k) (places d).length
theorem qkE{d:qd}{k:Int}{j:Nat}:sinksL d k (j+1)=sinksL d k j++(bif snkQ d k j then[(j:Int)] else[]):=by
 unfold sinksL;rw[List.range_succ,List.filter_append,jK]
 congr 1
 cases h:snkQ d k j<;>simp[h]
theorem qjW{d:qd}{k:Int}{j:Nat}:(sinksL d k j).length=cntP (snkQ d k) j:=by
 induction j with
 |zero=>rfl
 |succ j ih=>
  rw[qkE,jg,ih];show _=cntP (snkQ d k) j+_
  congr 1
  cases snkQ d k j<;>rfl
theorem qq2{α β:Type}[Inhabited α][Inhabited β]{xs:List α}{g:α->β}{j:Nat}(h:j<xs.length):gt (xs.map g) j=g (gt xs j):=by
 rw[qcT (by simpa using h),qcT h];simp
theorem qo3{d:qd}{k:Int}(h:smallD d):Ev (fun n=>qg8 n d k) (sinksL d k (places d).length):=by
 have l:=qaX h;have g:Ev (fun n=>qcV k ((places d).map toSp) n ([]:List Int) 0) (sinksL d k (places d).length,((places d).length:Int)):=by
  refine loopF (Lf:=qcV k ((places d).map toSp)) (S:=fun j=>sinksL d k j) (len:=(places d).length) (fun n=>?_) (fun j f X a=>?_)
  ·simp only[qcV,jq,qk (je _),cond_false]
  ·have c:j<((places d).map toSp).length:=by simpa using f
   have i:(sinksL d k j).length+[(j:Int)].length<=2147483648:=by
    rw[qjW];have:cntP (snkQ d k) j<=j:=qgC;simp;omega
   simp only[qcV,qi c,cond_true,qC c,qq2 f,jd,wS j];rw[show ∀p:Tplace,(toSp p).net=p.net from fun _=>rfl,show ∀p:Tplace,(toSp p).drives=p.drives from fun _=>rfl];refine Ev.bind (b:=snkQ d k j) (Ev.andP fun _=>.done) ?_;rw[qkE] at a;cases hq:snkQ d k j
   ·rw[hq] at a;simp only[cond_false,Ja] at a⊢;exact a
   ·rw[hq] at a;simp only[cond_true,qbl i,jd] at a⊢;exact a
 unfold qg8;exact Ev.bind (qiO h) (Ev.bind g .done)
theorem qnP{l:qq}{d:qd}(h:designB l d=true){i:Nat}(hi:i<(places d).length):0<=(gt (places d) i).net/\(gt (places d) i).net<d.Am.length:=by
 unfold designB at h;simp only[jf] at h;obtain⟨_,f,g,_⟩:=h;rw[qi8,qas] at f g;have a:gt (places d) i∈places d:=by rw[qcT hi];exact jt hi
 generalize gt (places d) i=p at a;unfold places at a;rcases List.mem_append.1 a with a|a
 ·unfold plI at a;obtain⟨i,hi,a⟩:=List.mem_flatMap.1 a;unfold plX at a;obtain⟨k,m,rfl⟩:=List.mem_map.1 a;have:=f i (List.mem_range.1 hi);unfold instB at this;simp only[jf] at this;have b:=this.2.2;rw[qhG (d:=0),qas] at b;have c:=b k (List.mem_range.1 m);unfold netB at c;rw[qbe] at c;show 0<=at0 _ _/\at0 _ _<_;unfold at0;omega
 ·unfold plP at a;obtain⟨i,hi,rfl⟩:=List.mem_map.1 a;have:=g i (List.mem_range.1 hi);unfold portB netB at this;simp only[jf,qbe] at this;show 0<=(gt d.Aj i).Ca/\(gt d.Aj i).Ca<_;omega
def blockB(b:qj):Bool:=(designB b.Av b.Aa&&((b.Ah.length:Int)==(b.Aa.Am.length:Int)))&&allN (fun j=>wireB (gt b.Ah j) (snkN b.Aa (j:Int))) b.Ah.length
theorem qxg{b:qj}(h:qm9 b):Ev (fun n=>qjm n b) (blockB b):=by
 have r:=h.Ah.len;unfold qjm blockB;refine Ev.guardB (Ev.or (qvO h.Av h.Aa) fun _=>.done) fun l=>?_;rw[jf,beq_iff_eq] at l;obtain⟨o,y⟩:=l;have i:=qW o;have u:=qaX i;have v:=i.nn;rw[qpg (m:=b.Ah.length) (by omega)];simp only[jd];have f:Ev (fun n=>qdo (places b.Aa) n (vecC (fun _=>0) b.Ah.length) 0) (vecC (fun k=>snkN b.Aa (k:Int)) b.Ah.length,((places b.Aa).length:Int)):=by
  refine loopF (Lf:=qdo (places b.Aa)) (S:=fun j=>vecC (fun k=>cntP (snkQ b.Aa (k:Int)) j) b.Ah.length) (len:=(places b.Aa).length) (fun n=>?_) (fun j a X d=>?_)
  ·simp only[qdo,qk (je _),cond_false];rfl
  ·simp only[qdo,qi a,cond_true,qC a,jd,wS j];obtain⟨s,z⟩:=qnP o a;cases h1:(gt (places b.Aa) j).drives
   ·have t:cntP (snkQ b.Aa (((gt (places b.Aa) j).net.toNat:Nat):Int)) j<=j:=qgC;obtain⟨e1,p⟩:=qm6 (c:=fun k=>cntP (snkQ b.Aa (k:Int)) j) (c':=fun k=>cntP (snkQ b.Aa (k:Int)) (j+1)) (x:=(gt (places b.Aa) j).net) (m:=b.Ah.length) s (by omega) (by show cntP _ _<_;omega) (fun k _=>by
     show cntP _ j+(bif snkQ b.Aa (k:Int) j then 1 else 0)=_;unfold snkQ;rw[h1,Bool.not_false,Bool.and_true])
    simp only[Bool.not_false,cond_true,jd,e1,p];exact d
   ·have:vecC (fun k=>cntP (snkQ b.Aa (k:Int)) (j+1)) b.Ah.length=vecC (fun k=>cntP (snkQ b.Aa (k:Int)) j) b.Ah.length:=by
     refine qlC (fun k _=>?_);show cntP _ j+(bif snkQ b.Aa (k:Int) j then 1 else 0)=_;unfold snkQ;rw[h1,Ji,Bool.and_false];rfl
    rw[this] at d;exact d
 have g:Ev (fun n=>qfw b (vecC (fun k=>snkN b.Aa (k:Int)) b.Ah.length) n 0) (bif allN (fun j=>wireB (gt b.Ah j) (snkN b.Aa (j:Int))) b.Ah.length then .nxt (b.Ah.length:Int) else .ret false):=by
  refine qff ?_ (fun j a X d=>Ev.succ ?_)
  ·exact Ev.succ (by simp only[qfw,qk (je _),cond_false];exact .done)
  ·simp only[qfw,qi a,cond_true,qC a,qlF a,jd,wS j];exact Ev.chk1 (qyr (qoS h.Ah a)) fun _=>d
 refine Ev.bind (qpe i) (Ev.bind f (Ev.bind g ?_));cases allN (fun j=>wireB (gt b.Ah j) (snkN b.Aa (j:Int))) b.Ah.length<;>exact .done
theorem qrq{b:qj}(h:qm9 b):Ev (fun n=>qh5 n b) (blockB b):=by
 have i:=h.Ah.len;unfold qh5 blockB;refine Ev.guardB (Ev.or (quB h.Av h.Aa) fun _=>.done) fun c=>?_;rw[jf] at c;have g:=qW c.1;have d:Ev (fun n=>qft b n 0) (bif allN (fun j=>wireB (gt b.Ah j) (snkN b.Aa (j:Int))) b.Ah.length then .nxt (b.Ah.length:Int) else .ret false):=by
  refine qff ?_ (fun j a X f=>Ev.succ ?_)
  ·exact Ev.succ (by simp only[qft,qk (je _),cond_false];exact .done)
  ·simp only[qft,qi a,cond_true,qC a,jd,wS j];refine Ev.bind (qo3 g) ?_;rw[qjW];exact Ev.chk1 (qxb (qoS h.Ah a)) fun _=>f
 refine Ev.bind d ?_;cases allN (fun j=>wireB (gt b.Ah j) (snkN b.Aa (j:Int))) b.Ah.length<;>exact .done

def off(d:qd)(i:Nat):Nat:=(plI d i).length
def place1(d:qd)(i k:Nat):Tplace:=⟨(i:Int),(k:Int),at0 (gt d.Ab i).Am k,decide (k+1=(gt d.Ab i).Am.length)⟩
def place2(d:qd)(i:Nat):Tplace:=⟨-1,(i:Int),(gt d.Aj i).Ca,(gt d.Aj i).Bx==1⟩
theorem qlN{d:qd}{i:Nat}:off d (i+1)=off d i+(gt d.Ab i).Am.length:=by
 unfold off;rw[qoV,jg,qsi]
theorem qwN{d:qd}{i j:Nat}(h:i<=j):off d i<=off d j:=by
 induction j with
 |zero=>
  obtain rfl:i=0:=by omega
  exact je _
 |succ j ih=>
  rcases Nat.lt_or_eq_of_le h with h|rfl
  ·rw[qlN];have:=ih (by omega);omega
  ·exact je _
theorem qhH{d:qd}:(places d).length=off d d.Ab.length+d.Aj.length:=by
 unfold places off;rw[jg,qsc]
theorem qCj{d:qd}{n i k:Nat}(hi:i<n)(c:k<(gt d.Ab i).Am.length):off d i+k<off d n/\gt (plI d n) (off d i+k)=place1 d i k:=by
 induction n with
 |zero=>omega
 |succ n ih=>
  rw[qoV,qmZ];rcases Nat.lt_succ_iff_lt_or_eq.1 hi with h|rfl
  ·obtain⟨a,b⟩:=ih h;refine⟨by rw[qlN];omega,?_⟩;rw[if_pos (show off d i+k<(plI d n).length from a),b]
  ·refine⟨by rw[qlN];omega,?_⟩;rw[if_neg (by unfold off;omega),show off d i+k-(plI d i).length=k by unfold off;omega];exact qsp c
theorem qlx{d:qd}{i k:Nat}(hi:i<d.Ab.length)(c:k<(gt d.Ab i).Am.length):off d i+k<(places d).length/\gt (places d) (off d i+k)=place1 d i k:=by
 obtain⟨a,b⟩:=qCj hi c;refine⟨by rw[qhH];omega,?_⟩;unfold places;rw[qmZ,if_pos (show off d i+k<(plI d d.Ab.length).length from a),b]
theorem qua{d:qd}{i:Nat}(hi:i<d.Aj.length):off d d.Ab.length+i<(places d).length/\gt (places d) (off d d.Ab.length+i)=place2 d i:=by
 refine⟨by rw[qhH];omega,?_⟩;unfold places;rw[qmZ,if_neg (by unfold off;omega),show off d d.Ab.length+i-(plI d d.Ab.length).length=i by unfold off;omega];exact qsp hi
theorem qyl{d:qd}{n j:Nat}(a:j<off d n):∃i k,i<n/\k<(gt d.Ab i).Am.length/\j=off d i+k:=by
 induction n with
 |zero=>exact absurd a (Nat.not_lt_zero _)
 |succ n ih=>
  by_cases h:j<off d n
  ·obtain⟨i,k,f,b,c⟩:=ih h;exact⟨i,k,by omega,b,c⟩
  ·rw[qlN] at a;exact⟨n,j-off d n,by omega,by omega,by omega⟩
theorem qmt{d:qd}{j:Nat}(c:j<(places d).length) :
  (∃i k,i<d.Ab.length/\k<(gt d.Ab i).Am.length/\j=off d i+k/\gt (places d) j=place1 d i k) \/
  (∃i,i<d.Aj.length/\j=off d d.Ab.length+i/\gt (places d) j=place2 d i):=by
 rw[qhH] at c;by_cases h:j<off d d.Ab.length
 ·obtain⟨i,k,a,b,rfl⟩:=qyl h;exact .inl ⟨i,k,a,b,rfl,(qlx a b).2⟩
 ·refine .inr ⟨j-off d d.Ab.length,by omega,by omega,?_⟩;have:=(qua (d:=d) (i:=j-off d d.Ab.length) (by omega)).2;rwa [show off d d.Ab.length+(j-off d d.Ab.length)=j by omega] at this
def drvQ(d:qd)(k:Int)(j:Nat):Bool:=((gt (places d) j).net==k)&&(gt (places d) j).drives
theorem qvC{q:Nat->Bool}{m n:Nat}:cntP q (m+n)=cntP q m+cntP (fun j=>q (m+j)) n:=by
 induction n with
 |zero=>rfl
 |succ n ih=>
  show cntP q (m+n)+(bif q (m+n) then 1 else 0)=cntP q m+(cntP (fun j=>q (m+j)) n+(bif q (m+n) then 1 else 0));rw[ih];omega
theorem qy2{q:Nat->Bool}{n:Nat}{b:Bool}(h:1<=n)(a:∀j,j+1<n->q j=false)(c:q (n-1)=b):cntP q n=bif b then 1 else 0:=by
 obtain⟨m,rfl⟩:∃m,n=m+1:=⟨n-1,by omega⟩;show cntP q m+(bif q m then 1 else 0)=_;rw[qo8.2 (fun j d=>a j (by omega)),show m=m+1-1 by omega,c,jY]
theorem qwu{d:qd}{k:Nat}(b:smallD d):cntP (drvQ d (k:Int)) (places d).length=drvI d k d.Ab.length+drvP d k d.Aj.length:=by
 rw[qhH,qvC]
 congr 1
 ·have:∀n,n<=d.Ab.length->cntP (drvQ d (k:Int)) (off d n)=drvI d k n:=by
   intro n
   induction n with
   |zero=>intro _;rfl
   |succ n ih=>
    intro f;rw[qlN,qvC,ih (by omega),qqV]
    congr 1
    have c:=(b.nx n (by omega)).1;refine qy2 (by omega) (fun j a=>?_) ?_
    ·show drvQ d _ (off d n+j)=false;unfold drvQ;rw[(qlx (by omega) (by omega)).2];unfold place1;simp;omega
    ·show drvQ d _ (off d n+_)=_;unfold drvQ;rw[(qlx (by omega) (by omega)).2];unfold place1 lastN;simp;omega
  exact this _ (je _)
 ·refine qta (fun j a=>?_);show drvQ d _ (off d _+j)=_;unfold drvQ;rw[(qua a).2];unfold place2;exact Bool.and_comm _ _
theorem qxK{l:qq}{d:qd}(h:designB l d=true){k:Nat}(a:k<d.Am.length):cntP (drvQ d (k:Int)) (places d).length=1:=by
 rw[qwu (qW h)];unfold designB drvB at h;simp only[jf] at h;have:=qas.1 h.2.2.2 k a;rw[beq_iff_eq] at this;omega
theorem qvE{l:qq}{d:qd}(h:designB l d=true){i j:Nat}(hi:i<(places d).length)(f:j<(places d).length)(c:(gt (places d) i).net=(gt (places d) j).net)(a:(gt (places d) i).drives=true)(b:(gt (places d) j).drives=true):i=j:=by
 obtain⟨g,m⟩:=qnP h hi;have e:=qgA g;have:=qxK h (k:=(gt (places d) i).net.toNat) (by omega);refine qwi (Nat.le_of_eq this) hi f ?_ ?_
 ·unfold drvQ;rw[<-e,a];simp
 ·unfold drvQ;rw[<-e,b,c];simp
theorem qB4{l:qq}{d:qd}(h:designB l d=true){k:Int}(c:0<=k)(g:k<d.Am.length):∃j,j<(places d).length/\(gt (places d) j).net=k/\(gt (places d) j).drives=true:=by
 have e:=qgA c;have:=qxK h (k:=k.toNat) (by omega);have b:decide (0<cntP (drvQ d ((k.toNat:Nat):Int)) (places d).length)=true:=by rw[this];rfl
 rw[qvB,jI,qnp] at b;obtain⟨j,f,a⟩:=b;rw[Bool.not_eq_false',<-e] at a;unfold drvQ at a;simp only[jf,beq_iff_eq] at a;exact⟨j,f,a.1,a.2⟩
def cellAt(b:qj)(i:Int):qB:=gt b.Av.As (gt b.Aa.Ab i.toNat).Bv.toNat
theorem qh9{l:qq}{d:qd}(h:designB l d=true){i:Nat}(hi:i<d.Ab.length) :
  (0<=(gt d.Ab i).Bv/\(gt d.Ab i).Bv<l.As.length)/\(gt d.Ab i).Am.length=(gt l.As (gt d.Ab i).Bv.toNat).Bg.length/\cellB (gt l.As (gt d.Ab i).Bv.toNat)=true:=by
 unfold designB libB at h;simp only[jf] at h;obtain⟨⟨⟨b,_⟩,_⟩,a,_⟩:=h;rw[qi8,qas] at a b;have:=a i hi;unfold instB at this;simp only[jf,qbe,beq_iff_eq] at this;exact⟨⟨this.1.1,by omega⟩,by omega,b _ (by omega)⟩
theorem qok{c:qB}(h:cellB c=true){j:Nat}(f:j<c.Ba.length):(1<=(gt c.Ba j).Bi/\(gt c.Ba j).Bi<=5)/\(0<=(gt c.Ba j).Bl/\(gt c.Ba j).Bl<(c.Bg.length:Int)-1)/\(0<=(gt c.Ba j).To/\(gt c.Ba j).To<=(c.Bg.length:Int)-1)/\arcS c.Bg (gt c.Ba j)=true:=by
 unfold cellB at h;simp only[jf] at h;obtain⟨_,i,⟨d,_⟩,_,_,g⟩:=h;have:=qas.1 d j f;rw[jf,qzt i (qt0 g)] at this;have b:=this.1;refine⟨qui b,?_⟩;have a:=b;unfold arcS at a;simp only[jf,qbe] at a;refine⟨⟨a.1.1.1,by omega⟩,a.1.2,b⟩
theorem qpD{c:qB}(h:cellB c=true):c.Ba.length<=8:=by
 unfold cellB at h;simp only[jf,decide_eq_true_eq] at h;exact h.2.2.1.2
theorem qau{b:qj}(h:blockB b=true):designB b.Av b.Aa=true:=by
 unfold blockB at h;simp only[jf] at h;exact h.1.1
end Go.Fw
