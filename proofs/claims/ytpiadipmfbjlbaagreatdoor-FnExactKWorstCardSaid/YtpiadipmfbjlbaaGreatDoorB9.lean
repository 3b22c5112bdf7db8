/- By a program of mine (gen.py): for each function a plain function and the proof that the code computes it. -/
import Derived.Test.YtpiadipmfbjlbaaGreatDoorA2
import Derived.Test.YtpiadipmfbjlbaaGreatDoorFw33
open Option renaming bind_some->jd, some->V, none->U
open Nat renaming le_refl->je, zero_add->jY, le_trans->Jb
open Bool renaming and_eq_true->jf, eq_iff_iff->jn, true_and->jG, not_eq_true'->jI, not_true->Ji
open List renaming length_append->jg, getElem?_eq_getElem->jh, append_assoc->jp, length_map->jq, getElem_mem->jt, length_take->jv, take_length->jC, getD_eq_getElem?_getD->jF, map_append->jK, getElem_of_mem->jV, append_nil->Ja, flatMap_append->Jl
open Int renaming toNat_natCast->jr

namespace Go.Fw
open Go Go.Proofs Go.Proofs.Tryz
open Go.RowKit (Below)
open Ch renaming own->oW,box->oX,grp->oG
open GoT renaming v->oV
open Go.Value renaming slice->oS
set_option maxRecDepth 100000
set_option maxHeartbeats 6400000
variable{n:Nat}{w:World}{cs1 cs2 cs3 cs4 cs5 cs6 cs7 cs8 cs9:List Value}
def qd0(a:qB)(i1:Int)(c:qI):Nat->Int->Option (Flow Bool Int)|0,_=>U|n+1,b=>bif decide (b<i1) then(idx a.Ba b).bind fun d=>bif (d.Bi==c.Bi) then(idx a.Ba b).bind fun f=>bif (f.Bl==c.Bl) then(idx a.Ba b).bind fun g=>bif (g.To==c.To) then V (.ret false) else qd0 a i1 c n (W64 (b+1)) else qd0 a i1 c n (W64 (b+1)) else qd0 a i1 c n (W64 (b+1)) else V (.nxt b)
def qgm(a:qB):Nat->Int->Option (Flow Bool Int)|0,_=>U|n+1,b=>bif decide (b<(a.Bq.length:Int)) then(idx a.Bq b).bind fun d=>(qam n d 0 1).bind fun c=>bif (!c) then V (.ret false) else qgm a n (W64 (b+1)) else V (.nxt b)
def qgh(a:qB):Nat->Int->Option (Flow Bool Int)|0,_=>U|n+1,i1=>bif decide (i1<(a.Ba.length:Int)) then(idx a.Ba i1).bind fun b=>(qmD n a b).bind fun r4=>bif (!r4) then V (.ret false) else(qd0 a i1 b n 0).bind fun|.ret r=>V (.ret r)|.nxt _=>qgh a n (W64 (i1+1)) else V (.nxt i1)
def qml(n:Nat)(a:qB):Option Bool:=(qlq n a).bind fun(c,h)=>(bif (!h) then V true else(qgO n a.Bc).bind fun i=>bif (!i) then V true else bif decide ((a.Ba.length:Int) > 8) then V true else(qam n a.Cc 0 100000).bind fun k=>bif (!k) then V true else(qam n a.Bw 0 100000).bind fun l=>V (!l)).bind fun b1=>bif b1 then V false else(qgh a n 0).bind fun|.ret r=>V r|.nxt _=>(qkc n a).bind fun b=>bif (a.Bi==1) then(qgm a n 0).bind fun|.ret r=>V r|.nxt _=>bif (c==0) then(shlS 1 (IntKind.wrap .u64 (W64 ((a.Bg.length:Int)-1)))).bind fun m=>V ((a.Bq.length:Int)==m) else V false else bif (a.Bi==2) then bif (c==1) then(idx b 1).bind fun p=>bif (p==0) then(idx b 2).bind fun s=>(idx b 3).bind fun t=>bif (!((decide (s > 0))==(decide (t > 0)))) then V ((a.Bq.length:Int)==0) else V false else V false else V false else bif (a.Bi==3) then bif (c==1) then(idx b 1).bind fun d=>bif decide (d > 0) then(idx b 2).bind fun f=>bif decide (f > 0) then(idx b 3).bind fun g=>bif (g==0) then V ((a.Bq.length:Int)==0) else V false else V false else V false else V false else V false
theorem qsp{a:qB}(d:Ro w a cs1){r:Bool}(F:qml n a=V r):RetV prog 312 [oV qB cs1] w r:=by
 obtain⟨Q,O,R,P,S,k3,rfl,_,s2,s3⟩:=qag d;refine zV 182 func312 Z fun h=>zSR (qw h Z Z fun _ b h=>X1 5 0 h Z ?_);obtain⟨⟨N,r3⟩,d1,F⟩:=qc F;refine qaJ (N,r3) h (cB 323 Z) (qrF (h.old d) d1) Z Z Z Z fun _ _ _ d9 d3=>?_;obtain⟨_,_,rfl,e2,d4⟩:=d9.consI d3;obtain⟨rfl,h⟩:=e2.lastB d4;refine X0 8 Z ?_;obtain⟨T,s,_,F,c⟩:=bindE F;refine qaU (fun e w'=>∃b1,T b1=V r/\e=[(1,vp b),(3,vi N),(40,.bool b1)]/\SH w w' [oX b (qeH a Q R S O P k3) 251]) ?_ ?_
 ·refine X0 4 Z (qn (t:=17) F Z ?_ ?_)<;>intro F
  ·refine X0 24 Z ?_;obtain rfl:=qb F;exact rG ⟨_,c,rfl,h⟩ Z
  refine X1 5 0 h Z (zcB h F qiI Z fun _ _ h F=>X0 4 Z (qn (t:=23) F Z ?_ ?_))<;>intro F
  ·refine X0 18 Z ?_;obtain rfl:=qb F;exact rG ⟨_,c,rfl,h⟩ Z
  refine X1 10 0 h Z (qn (t:=29) F Z ?_ ?_)<;>intro F
  ·refine X0 12 Z ?_;obtain rfl:=qb F;exact rG ⟨_,c,rfl,h⟩ Z
  refine X1 5 0 h Z (zcB h F qab Z fun _ _ h F=>X0 4 Z (qn (t:=35) F Z ?_ ?_))<;>intro F
  ·refine X0 6 Z ?_;obtain rfl:=qb F;exact rG ⟨_,c,rfl,h⟩ Z
  refine X1 5 0 h Z (zcB h F qab Z fun _ _ h F=>X0 4 Z ?_);obtain rfl:=qb F;exact rG ⟨_,c,rfl,h⟩ Z
 rintro _ _ ⟨b1,F,rfl,h⟩;subst s;refine qg Z F ?_ ?_<;>intro F
 ·exact X0 4 Z (rb h F Z)
 refine X0 6 Z ?_;obtain⟨o1,F,i⟩:=qc F;refine qm (rL (fun m e w'=>∃i1,qgh a m i1=V o1/\e=[(1,vp b),(3,vi N),(5,vi i1)]/\SH w w' [oX b (qeH a Q R S O P k3) 251]) n ⟨_,F,rfl,h⟩ Z ?_);rintro m1 _ _ ⟨i1,F,rfl,h⟩;rcases m1 with _|m1
 ·cases F
 refine X1 9 0 h Z (qg Z F ?_ ?_)<;>intro F
 ·refine X1 8 0 h Z ?_;obtain⟨y1,_,F,a4,_,_,_,_,a9,c2,d5,W⟩:=s2.ix F;obtain⟨p4,k4,p5,k5,rfl,s4,s5⟩:=qak d5;refine zxe a9 c2 a4 Z (zc 0 (W.below h.below) Z (qp qa h Z Z Z fun _ l h=>zs 0 h Z fun _ h=>X2 6 1 0 h Z (zcB h F (qss (h.old d) (qgt y1 (h.oldS s4) (h.oldS s5))) Z fun _ _ h F=>X0 2 Z (qg Z F ?_ ?_))))<;>intro F
  ·refine X0 4 Z ?_;obtain rfl:=qb F;replace F:=i;exact rb h F Z
  refine X0 5 Z ?_;obtain⟨o2,F,o⟩:=qc F;refine qm (rL (fun m e w'=>∃i2,qd0 a i1 y1 m i2=V o2/\e=[(1,vp b),(3,vi N),(5,vi i1),(6,vp l),(7,vi i2)]/\SH w w' [oX l (qhR y1 p4 p5 k4 k5) 238,oX b (qeH a Q R S O P k3) 251]) m1 ⟨_,F,rfl,h⟩ Z ?_);rintro m2 _ _ ⟨i2,F,rfl,h⟩;rcases m2 with _|m2
  ·cases F
  refine X0 7 Z (qg Z F ?_ ?_)<;>intro F
  ·refine X0 4 Z (rD (Y1 2 1 h Z ?_));refine zd1 Z ?_;obtain⟨_,_,F,a5,_,_,_,_,b4,c3,d6,X⟩:=s2.ix F;obtain⟨_,_,_,_,rfl,_,_⟩:=qak d6;refine zdxe b4 c3 a5 Z (zd1 Z (zdc 0 (X.below h.below) Z (Y1 2 0 h Z ?_)));refine zd2 Z (qaV (t:=71) F Z ?_ ?_)<;>intro F
   ·refine Y1 4 1 h Z ?_;refine Y0 3 Z ?_;obtain⟨_,_,F,a6,_,_,_,_,b5,c4,d7,Y⟩:=s2.ix F;obtain⟨_,_,_,_,rfl,_,_⟩:=qak d7;refine zdxe b5 c4 a6 Z (Y0 3 Z (zdc 1 (Y.below h.below) Z (Y1 4 0 h Z ?_)));refine Y0 4 Z (qaV (t:=82) F Z ?_ ?_)<;>intro F
    ·refine Y1 4 1 h Z ?_;refine Y0 3 Z ?_;obtain⟨_,_,F,a7,_,_,_,_,b6,c5,d8,a3⟩:=s2.ix F;obtain⟨_,_,_,_,rfl,_,_⟩:=qak d8;refine zdxe b6 c5 a7 Z (Y0 3 Z (zdc 2 (a3.below h.below) Z (Y1 4 0 h Z ?_)));refine Y0 3 Z (dN h fun _ h=>qg Z F ?_ ?_)<;>intro F
     ·refine X0 4 Z ?_;obtain rfl:=qb F;replace F:=o;obtain rfl:=qb F;replace F:=i;exact rb h F Z
     exact X0 7 Z (rK ⟨_,F,rfl,h⟩ Z)
    exact Y0 10 Z (dN h fun _ h=>qch Z Z (X0 7 Z (rK ⟨_,F,rfl,h⟩ Z)))
   exact Y0 21 Z (dN h fun _ h=>qch Z Z (X0 7 Z (rK ⟨_,F,rfl,h⟩ Z)))
  refine qr Z ?_;obtain rfl:=qb F;replace F:=o;refine X0 6 Z ?_;replace h:=h.p [1] Z;exact rK ⟨_,F,rfl,h⟩ Z
 refine qr Z ?_;obtain rfl:=qb F;replace F:=i;refine X1 3 0 h Z (zcL h F (qqY (h.old d)) Z fun _ _ _ _ _ h F=>X1 14 1 h Z (qg Z F ?_ ?_))<;>intro F
 ·refine X0 5 Z ?_;obtain⟨o3,F,p⟩:=qc F;refine qm ?_;replace h:=h.p [1] Z;refine rL (fun m e w'=>∃i3,qgm a m i3=V o3/\e=[(1,vp b),(3,vi N),(9,vi i3)]/\SH w w' [oX b (qeH a Q R S O P k3) 251]) n ⟨_,F,rfl,h⟩ Z ?_;rintro m3 _ _ ⟨i3,F,rfl,h⟩;rcases m3 with _|m3
  ·cases F
  refine X1 9 0 h Z (qg Z F ?_ ?_)<;>intro F
  ·refine X1 8 0 h Z ?_;obtain⟨_,_,F,a8,_,_,_,_,b7,c6,rfl,u⟩:=s3.ix F;refine zxe b7 c6 a8 Z (zc 0 (u.below h.below) Z (zcB h F qab Z fun _ _ h F=>X0 2 Z (qg Z F ?_ ?_)))<;>intro F
   ·refine X0 4 Z ?_;obtain rfl:=qb F;replace F:=p;exact rb h F Z
   exact X0 7 Z (rK ⟨_,F,rfl,h⟩ Z)
  refine qr Z ?_;obtain rfl:=qb F;replace F:=p;refine X0 5 Z (qn (t:=115) F Z ?_ ?_)<;>intro F
  ·refine X2 17 0 0 h Z ?_;obtain⟨_,k,F⟩:=qc F;obtain⟨g1,k⟩:=qum k;refine r_v (qBK g1 Z Z) Z ?_;rw[k];exact X0 5 Z (rb h F Z)
  exact X0 13 Z (rb h F Z)
 refine X0 5 Z (qg Z F ?_ ?_)<;>intro F
 ·refine qad (rD (zd3 Z (qaV (t:=131) F Z ?_ ?_)))<;>intro F
  ·refine Y0 3 Z ?_;obtain⟨_,_,F,C,_,_,_,_,b8,c7,rfl,v⟩:=(h.sl 0 Z).1.ix F;refine zdx b8 c7 ⟨C.1,qD C.2.1 (h.sl 0 Z).2⟩ Z (Y0 1 Z (zdc 0 v Z (Y0 4 Z (qaV (t:=137) F Z ?_ ?_))))<;>intro F
   ·refine Y0 3 Z ?_;obtain⟨_,_,F,D,_,_,_,_,b9,c8,rfl,x⟩:=(h.sl 0 Z).1.ix F;refine zdx b9 c8 ⟨D.1,qD D.2.1 (h.sl 0 Z).2⟩ Z (Y0 1 Z (zdc 0 x Z (Y0 5 Z ?_)));obtain⟨_,_,F,H,_,_,_,_,c0,c9,rfl,y⟩:=(h.sl 0 Z).1.ix F;refine zdx c0 c9 ⟨H.1,qD H.2.1 (h.sl 0 Z).2⟩ Z (Y0 1 Z (zdc 0 y Z (Y0 6 Z (qaV (t:=148) F Z ?_ ?_))))<;>intro F
    ·refine Y1 4 1 h Z ?_;exact Y0 6 Z (dN h fun _ h=>rb h F Z)
    exact Y0 6 Z (dN h fun _ h=>rb h F Z)
   exact Y0 17 Z (dN h fun _ h=>rb h F Z)
  exact Y0 23 Z (dN h fun _ h=>rb h F Z)
 refine X0 5 Z (qg Z F ?_ ?_)<;>intro F
 ·refine X0 5 Z (qn (t:=158) F Z ?_ ?_)<;>intro F
  ·refine X0 3 Z ?_;obtain⟨_,_,F,I,_,_,_,_,c1,d0,rfl,z⟩:=(h.sl 0 Z).1.ix F;refine zx c1 d0 ⟨I.1,qD I.2.1 (h.sl 0 Z).2⟩ Z (X0 1 Z (zc 0 z Z (X0 4 Z (qn (t:=164) F Z ?_ ?_))))<;>intro F
   ·refine X0 3 Z ?_;obtain⟨_,_,F,f,_,_,_,_,J,L,rfl,A⟩:=(h.sl 0 Z).1.ix F;refine zx J L ⟨f.1,qD f.2.1 (h.sl 0 Z).2⟩ Z (X0 1 Z (zc 0 A Z (X0 4 Z (qn (t:=170) F Z ?_ ?_))))<;>intro F
    ·refine X0 3 Z ?_;obtain⟨_,_,F,g,_,_,_,_,K,M,rfl,B⟩:=(h.sl 0 Z).1.ix F;refine zx K M ⟨g.1,qD g.2.1 (h.sl 0 Z).2⟩ Z (X0 1 Z (zc 0 B Z (X0 4 Z (qn (t:=176) F Z ?_ ?_))))<;>intro F
     ·exact X1 11 1 h Z (rb h F Z)
     exact X0 7 Z (rb h F Z)
    exact X0 13 Z (rb h F Z)
   exact X0 19 Z (rb h F Z)
  exact X0 25 Z (rb h F Z)
 exact X0 6 Z (rb h F Z)
def qd6(l:qq)(i1:Int):Nat->Int->Option (Flow Bool Int)|0,_=>U|n+1,a=>bif decide (a<i1) then(idx l.As a).bind fun b=>(idx l.As i1).bind fun c=>bif (b.Bc.toList==c.Bc.toList) then V (.ret false) else qd6 l i1 n (W64 (a+1)) else V (.nxt a)
def qea(l:qq):Nat->Int->Option (Flow Bool Int)|0,_=>U|n+1,i1=>bif decide (i1<(l.As.length:Int)) then(idx l.As i1).bind fun b=>(qml n b).bind fun a=>bif (!a) then V (.ret false) else(qd6 l i1 n 0).bind fun|.ret r=>V (.ret r)|.nxt _=>qea l n (W64 (i1+1)) else V (.nxt i1)
def qjA(n:Nat)(l:qq):Option Bool:=(qea l n 0).bind fun|.ret r=>V r|.nxt _=>V (decide ((l.As.length:Int)<=8))
theorem qqB{l:qq}(d:Ro w l cs1){r:Bool}(F:qjA n l=V r):RetV prog 295 [oV qq cs1] w r:=by
 obtain⟨K,I,rfl,H⟩:=qbP d;refine zV 41 func295 Z fun h=>zSR (qw h Z Z fun _ a h=>X0 7 Z ?_);obtain⟨L,F,b⟩:=qc F;refine qm (rL (fun m e w'=>∃i1,qea l m i1=V L/\e=[(1,vp a),(3,vi i1)]/\SH w w' [oX a [oS K l.As.length I] 46]) n ⟨_,F,rfl,h⟩ Z ?_);rintro D _ _ ⟨i1,F,rfl,h⟩;rcases D with _|D
 ·cases F
 refine X1 9 0 h Z (qg Z F ?_ ?_)<;>intro F
 ·refine X1 9 0 h Z ?_;obtain⟨P,_,F,k,_,_,_,_,s,v,z,f⟩:=H.ix F;obtain⟨_,_,_,_,_,_,rfl,s2,N,O⟩:=qag z;refine zxe s v k Z (zc 0 (f.below h.below) Z (zcB h F (qsp (qlu P (h.oldS s2) (h.oldS N) (h.oldS O))) Z fun _ _ h F=>X0 2 Z (qg Z F ?_ ?_)))<;>intro F
  ·refine X0 4 Z ?_;obtain rfl:=qb F;replace F:=b;exact rb h F Z
  refine X0 5 Z ?_;obtain⟨M,F,c⟩:=qc F;refine qm (rL (fun m e w'=>∃C,qd6 l i1 m C=V M/\e=[(1,vp a),(3,vi i1),(4,vi C)]/\SH w w' [oX a [oS K l.As.length I] 46]) D ⟨_,F,rfl,h⟩ Z ?_);rintro J _ _ ⟨C,F,rfl,h⟩;rcases J with _|J
  ·cases F
  refine X0 7 Z (qg Z F ?_ ?_)<;>intro F
  ·refine X0 4 Z (rD (Y1 2 0 h Z ?_));refine zd1 Z ?_;obtain⟨_,_,F,o,_,_,_,_,t,x,A,g⟩:=H.ix F;obtain⟨_,_,_,_,_,_,rfl,_,_,_⟩:=qag A;refine zdxe t x o Z (zd1 Z (zdc 0 (g.below h.below) Z (Y1 2 0 h Z ?_)));refine zd1 Z ?_;obtain⟨_,_,F,p,_,_,_,_,u,y,B,i⟩:=H.ix F;obtain⟨_,_,_,_,_,_,rfl,_,_,_⟩:=qag B;refine zdxe u y p Z (zd1 Z (zdc 0 (i.below h.below) Z (zd1 Z (dN h fun _ h=>qg Z F ?_ ?_))))<;>intro F
   ·refine X0 4 Z ?_;obtain rfl:=qb F;replace F:=c;obtain rfl:=qb F;replace F:=b;exact rb h F Z
   exact X0 7 Z (rK ⟨_,F,rfl,h⟩ Z)
  refine qr Z ?_;obtain rfl:=qb F;replace F:=c;exact X0 6 Z (rK ⟨_,F,rfl,h⟩ Z)
 refine qr Z ?_;obtain rfl:=qb F;replace F:=b;exact X1 8 0 h Z (rb h F Z)
def qe4(a:qd)(c:ql):Nat->Int->Option (Flow Bool Int)|0,_=>U|n+1,b=>bif decide (b<(c.Am.length:Int)) then(idx c.Am b).bind fun f=>(qam n f 0 (W64 ((a.Am.length:Int)-1))).bind fun d=>bif (!d) then V (.ret false) else qe4 a c n (W64 (b+1)) else V (.nxt b)
def qe1(a:qd):Nat->Int->Option (Flow Bool Int)|0,_=>U|n+1,b=>bif decide (b<(a.Aj.length:Int)) then(idx a.Aj b).bind fun d=>(qam n d.Bx 1 2).bind fun c=>bif (!c) then V (.ret false) else(idx a.Aj b).bind fun f=>(qam n f.Ca 0 (W64 ((a.Am.length:Int)-1))).bind fun r4=>bif (!r4) then V (.ret false) else qe1 a n (W64 (b+1)) else V (.nxt b)
def qeT(b:qq)(a:qd):Nat->Int->Option (Flow Bool Int)|0,_=>U|n+1,i1=>bif decide (i1<(a.Ab.length:Int)) then(idx a.Ab i1).bind fun c=>((qam n c.Bu 0 (W64 ((b.As.length:Int)-1))).bind fun d=>bif (!d) then V true else(idx b.As c.Bu).bind fun f=>V ((c.Am.length:Int) != (f.Bg.length:Int))).bind fun b2=>bif b2 then V (.ret false) else(qe4 a c n 0).bind fun|.ret r=>V (.ret r)|.nxt _=>qeT b a n (W64 (i1+1)) else V (.nxt i1)
def qkq(n:Nat)(b:qq)(a:qd):Option Bool:=(qeT b a n 0).bind fun|.ret r=>V r|.nxt _=>(qe1 a n 0).bind fun|.ret r=>V r|.nxt _=>V true
theorem qrd{c:qq}{a:qd}(A:Ro w c cs1)(B:Ro w a cs2){r:Bool}(F:qkq n c a=V r):RetV prog 296 [oV qq cs1,oV qd cs2] w r:=by
 obtain⟨p1,k1,rfl,s1⟩:=qbP A;obtain⟨v,s,x,k3,y,u,rfl,s2,_,s4⟩:=qaD B;refine zV 90 func296 Z fun h=>zSR (qw h Z Z fun _ d h=>qw h Z Z fun _ b h=>X1 14 0 h Z ?_);obtain⟨o1,F,g⟩:=qc F;refine qm (rL (fun m e w'=>∃i1,qeT c a m i1=V o1/\e=[(2,vp d),(3,vp b),(5,vi (a.Am.length:Int)),(6,vi i1)]/\SH w w' [oX b (qaT a v x y s k3 u) 50,oX d [oS p1 c.As.length k1] 46]) n ⟨_,F,rfl,h⟩ Z ?_);rintro m1 _ _ ⟨i1,F,rfl,h⟩;rcases m1 with _|m1
 ·cases F
 refine X1 9 0 h Z (qg Z F ?_ ?_)<;>intro F
 ·refine X1 8 0 h Z ?_;obtain⟨y1,_,F,J,_,_,_,_,O,T,a4,C⟩:=s2.ix F;obtain⟨p5,k5,rfl,s5⟩:=qU a4;refine zxe O T J Z (zc 0 (C.below h.below) Z (qp qa h Z Z Z fun _ f h=>zs 0 h Z fun _ h=>zNSS ?_));obtain⟨z,o,_,F,l⟩:=bindE F;refine qaU (fun e w'=>∃b2,z b2=V o1/\e=[(2,vp d),(3,vp b),(5,vi (a.Am.length:Int)),(6,vi i1),(7,vp f),(46,.bool b2)]/\SH w w' [oX f (qkU y1 p5 k5) 253,oX b (qaT a v x y s k3 u) 50,oX d [oS p1 c.As.length k1] 46]) ?_ ?_
  ·refine rD (Y1 2 0 h Z ?_);refine Y1 2 2 h Z ?_;refine zd2 Z ?_;obtain⟨r2,a5,F⟩:=qc F;refine qbk r2 (vsB _) (cB 43 Z) (fun _ hb=>qab  a5) Z Z Z Z (zd2 Z (qaV (t:=33) F Z ?_ ?_))<;>intro F
   ·refine Y0 13 Z (dN h fun _ h=>?_);obtain rfl:=qb F;exact rG ⟨_,l,rfl,h⟩ Z
   refine Y1 4 0 h Z ?_;refine Y1 6 2 h Z ?_;refine Y1 4 0 h Z ?_;refine Y0 1 Z ?_;obtain⟨_,_,F,L,_,_,_,_,Q,X,a6,H⟩:=s1.ix F;obtain⟨_,_,_,_,_,_,rfl,_,_,_⟩:=qag a6;refine zdxe Q X L Z (Y0 3 Z (zdc 2 (H.below h.below) Z (Y0 5 Z (dN h fun _ h=>?_))));obtain rfl:=qb F;exact rG ⟨_,l,rfl,h⟩ Z
  rintro _ _ ⟨b2,F,rfl,h⟩;subst o;refine qg Z F ?_ ?_<;>intro F
  ·refine X0 4 Z ?_;obtain rfl:=qb F;replace F:=g;exact rb h F Z
  refine X0 5 Z ?_;obtain⟨o2,F,k⟩:=qc F;refine qm (rL (fun m e w'=>∃i2,qe4 a y1 m i2=V o2/\e=[(2,vp d),(3,vp b),(5,vi (a.Am.length:Int)),(6,vi i1),(7,vp f),(8,vi i2)]/\SH w w' [oX f (qkU y1 p5 k5) 253,oX b (qaT a v x y s k3 u) 50,oX d [oS p1 c.As.length k1] 46]) m1 ⟨_,F,rfl,h⟩ Z ?_);rintro m2 _ _ ⟨i2,F,rfl,h⟩;rcases m2 with _|m2
  ·cases F
  refine X1 9 0 h Z (qg Z F ?_ ?_)<;>intro F
  ·refine X1 8 0 h Z ?_;obtain⟨_,_,F,K,_,_,_,_,P,W,rfl,D⟩:=s5.ix F;refine zxe P W K Z (zc 0 (D.below h.below) Z (zp2 Z (zcB h F qab Z fun _ _ h F=>X0 2 Z (qg Z F ?_ ?_))))<;>intro F
   ·refine X0 4 Z ?_;obtain rfl:=qb F;replace F:=k;obtain rfl:=qb F;replace F:=g;exact rb h F Z
   exact X0 7 Z (rK ⟨_,F,rfl,h⟩ Z)
  refine qr Z ?_;obtain rfl:=qb F;replace F:=k;refine X0 6 Z ?_;replace h:=h.p [1,2] Z;exact rK ⟨_,F,rfl,h⟩ Z
 refine qr Z ?_;obtain rfl:=qb F;replace F:=g;refine X0 5 Z ?_;obtain⟨o4,F,i⟩:=qc F;refine qm ?_;replace h:=h.p [0] Z;refine rL (fun m e w'=>∃i3,qe1 a m i3=V o4/\e=[(3,vp b),(5,vi (a.Am.length:Int)),(9,vi i3)]/\SH w w' [oX b (qaT a v x y s k3 u) 50]) n ⟨_,F,rfl,h⟩ Z ?_;rintro m3 _ _ ⟨i3,F,rfl,h⟩;rcases m3 with _|m3
 ·cases F
 refine X1 9 0 h Z (qg Z F ?_ ?_)<;>intro F
 ·refine X1 8 0 h Z ?_;obtain⟨_,_,F,M,_,_,_,_,R,Y,a7,I⟩:=s4.ix F;obtain rfl:=qaY a7;refine zxe R Y M Z (zp1 Z (zc 1 (I.below h.below) Z (zcB h F qab Z fun _ _ h F=>zp2 Z (qn (t:=78) F Z ?_ ?_))))<;>intro F
  ·refine X0 12 Z (qct Z Z (X0 4 Z ?_));obtain rfl:=qb F;replace F:=i;exact rb h F Z
  refine X1 7 0 h Z ?_;obtain⟨_,_,F,N,_,_,_,_,S,a3,a8,p⟩:=s4.ix F;obtain rfl:=qaY a8;refine zxe S a3 N Z (X0 3 Z (zc 2 (p.below h.below) Z (X0 5 Z (zcB h F qab Z fun _ _ h F=>X0 4 Z (qg Z F ?_ ?_)))))<;>intro F
  ·refine X0 4 Z ?_;obtain rfl:=qb F;replace F:=i;exact rb h F Z
  exact X0 7 Z (rK ⟨_,F,rfl,h⟩ Z)
 refine qr Z ?_;obtain rfl:=qb F;replace F:=i;exact X0 4 Z (rb h F Z)
def qeU(list:(List ByteArray))(i1:Int):Nat->Int->Option (Flow Bool Int)|0,_=>U|n+1,a=>bif decide (a<i1) then(idx list a).bind fun b=>(idx list i1).bind fun c=>bif (b.toList==c.toList) then V (.ret false) else qeU list i1 n (W64 (a+1)) else V (.nxt a)
def qe0(list:(List ByteArray)):Nat->Int->Option (Flow Bool Int)|0,_=>U|n+1,i1=>bif decide (i1<(list.length:Int)) then(idx list i1).bind fun b=>(qgO n b).bind fun a=>bif (!a) then V (.ret false) else(qeU list i1 n 0).bind fun|.ret r=>V (.ret r)|.nxt _=>qe0 list n (W64 (i1+1)) else V (.nxt i1)
def qhf(n:Nat)(list:(List ByteArray)):Option Bool:=(qe0 list n 0).bind fun|.ret r=>V r|.nxt _=>V true
theorem qj0{list:(List ByteArray)}(c:Ro w list cs1){r:Bool}(F:qhf n list=V r):RetV prog 297 [oV (List ByteArray) cs1] w r:=by
 obtain⟨C,A,rfl,z⟩:=c;refine zV 31 func297 Z fun h=>X0 9 Z ?_;obtain⟨D,F,a⟩:=qc F;refine qm (rL (fun m e w'=>∃i1,qe0 list m i1=V D/\e=[(0,oS C list.length A),(3,vi i1)]/\SH w w' []) n ⟨_,F,rfl,h⟩ Z ?_);rintro y _ _ ⟨i1,F,rfl,h⟩;rcases y with _|y
 ·cases F
 refine X0 8 Z (qg Z F ?_ ?_)<;>intro F
 ·refine X0 8 Z ?_;obtain⟨_,_,F,i,_,_,_,_,o,t,rfl,d⟩:=z.ix F;refine zxe o t i Z (zc 0 (d.below h.below) Z (zcB h F qiI Z fun _ _ h F=>X0 2 Z (qg Z F ?_ ?_)))<;>intro F
  ·refine X0 4 Z ?_;obtain rfl:=qb F;replace F:=a;exact rb h F Z
  refine X0 5 Z ?_;obtain⟨H,F,b⟩:=qc F;refine qm (rL (fun m e w'=>∃x,qeU list i1 m x=V H/\e=[(0,oS C list.length A),(3,vi i1),(4,vi x)]/\SH w w' []) y ⟨_,F,rfl,h⟩ Z ?_);rintro B _ _ ⟨x,F,rfl,h⟩;rcases B with _|B
  ·cases F
  refine X0 7 Z (qg Z F ?_ ?_)<;>intro F
  ·refine X0 4 Z (rD (zd2 Z ?_));obtain⟨_,_,F,k,_,_,_,_,p,u,rfl,f⟩:=z.ix F;refine zdxe p u k Z (zdc 0 (f.below h.below) Z (zd2 Z ?_));obtain⟨_,_,F,l,_,_,_,_,s,v,rfl,g⟩:=z.ix F;refine zdxe s v l Z (zdc 0 (g.below h.below) Z (zd1 Z (dN h fun _ h=>qg Z F ?_ ?_)))<;>intro F
   ·refine X0 4 Z ?_;obtain rfl:=qb F;replace F:=b;obtain rfl:=qb F;replace F:=a;exact rb h F Z
   exact X0 7 Z (rK ⟨_,F,rfl,h⟩ Z)
  refine qr Z ?_;obtain rfl:=qb F;replace F:=b;exact X0 6 Z (rK ⟨_,F,rfl,h⟩ Z)
 refine qr Z ?_;obtain rfl:=qb F;replace F:=a;exact X0 4 Z (rb h F Z)
def qe6(c:(List Int))(d:(List Int)):Nat->Int->Option (Flow Bool Int)|0,_=>U|n+1,a=>bif decide (a<(c.length:Int)) then(idx d a).bind fun b=>bif (b != 1) then V (.ret false) else qe6 c d n (W64 (a+1)) else V (.nxt a)
def qcW(a:qd):Nat->(List Int)->Int->Option ((List Int)×Int)|0,_,_=>U|n+1,c,b=>bif decide (b<(a.Aj.length:Int)) then(idx a.Aj b).bind fun f=>bif (f.Bx==1) then(idx a.Aj b).bind fun d=>(idx c d.Ca).bind fun g=>(idx c d.Ca).bind fun _=>qcW a n (setS c d.Ca (W64 (g+1))) (W64 (b+1)) else qcW a n c (W64 (b+1)) else V (c,b)
def qdA(a:qd):Nat->(List Int)->Int->Option ((List Int)×Int)|0,_,_=>U|n+1,c,b=>bif decide (b<(a.Ab.length:Int)) then(idx a.Ab b).bind fun f=>(idx f.Am (W64 ((f.Am.length:Int)-1))).bind fun d=>(idx c d).bind fun g=>(idx c d).bind fun _=>qdA a n (setS c d (W64 (g+1))) (W64 (b+1)) else V (c,b)
def qdC(a:qd):Nat->(List ByteArray)->Int->Option ((List ByteArray)×Int)|0,_,_=>U|n+1,x3,b=>bif decide (b<(a.Aj.length:Int)) then(idx a.Aj b).bind fun d=>(appS x3 ([d.Bc]:List ByteArray)).bind fun c=>qdC a n c (W64 (b+1)) else V (x3,b)
def qdw(a:qd):Nat->(List ByteArray)->Int->Option ((List ByteArray)×Int)|0,_,_=>U|n+1,x1,i1=>bif decide (i1<(a.Ab.length:Int)) then(idx a.Ab i1).bind fun c=>(appS x1 ([c.Bc]:List ByteArray)).bind fun b=>qdw a n b (W64 (i1+1)) else V (x1,i1)
def qkn(n:Nat)(b:qq)(a:qd):Option Bool:=((qjA n b).bind fun r4=>bif (!r4) then V true else bif decide ((a.Ab.length:Int) > 14) then V true else bif decide ((a.Am.length:Int) > 30) then V true else bif decide ((a.Aj.length:Int) > 8) then V true else(qkq n b a).bind fun i=>V (!i)).bind fun b1=>bif b1 then V false else(qdw a n ([]:List ByteArray) 0).bind fun(x1,_)=>(qdC a n ([]:List ByteArray) 0).bind fun(x3,_)=>((qhf n x1).bind fun f=>bif (!f) then V true else(qhf n x3).bind fun g=>bif (!g) then V true else(qhf n a.Am).bind fun h=>V (!h)).bind fun d=>bif d then V false else(mkS (a.Am.length:Int) (0:Int)).bind fun c=>(qdA a n c 0).bind fun(k,_)=>(qcW a n k 0).bind fun(l,_)=>(qe6 c l n 0).bind fun|.ret r=>V r|.nxt _=>V true
theorem qq6{I:qq}{a:qd}(p:Ro w I cs1)(M:Ro w a cs2){r:Bool}(F:qkn n I a=V r):RetV prog 270 [oV qq cs1,oV qd cs2] w r:=by
 obtain⟨_,_,rfl,_⟩:=qbP p;obtain⟨C,A,D,k3,H,B,rfl,s2,s3,s4⟩:=qaD M;refine zV 153 func270 Z fun h=>zSR (qw h Z Z fun _ _ h=>qw h Z Z fun _ b h=>X0 4 Z ?_);obtain⟨KF2,L,_,F,f⟩:=bindE F;refine qaU (fun e w'=>∃b1,KF2 b1=V r/\e=[(3,vp b),(40,.bool b1)]/\SH w w' [oX b (qaT a C D H A k3 B) 50]) ?_ ?_
 ·refine X1 2 1 h Z (zcB h F (qqB (h.old p)) Z fun _ _ h F=>zp2 Z (qn (t:=17) F Z ?_ ?_))<;>intro F
  ·refine X0 24 Z ?_;replace h:=h.p [0] Z;obtain rfl:=qb F;exact rG ⟨_,f,rfl,h⟩ Z
  refine X1 10 0 h Z (qn (t:=23) F Z ?_ ?_)<;>intro F
  ·refine X0 18 Z ?_;replace h:=h.p [0] Z;obtain rfl:=qb F;exact rG ⟨_,f,rfl,h⟩ Z
  refine X1 10 0 h Z (qn (t:=29) F Z ?_ ?_)<;>intro F
  ·refine X0 12 Z ?_;replace h:=h.p [0] Z;obtain rfl:=qb F;exact rG ⟨_,f,rfl,h⟩ Z
  refine X1 10 0 h Z (qn (t:=35) F Z ?_ ?_)<;>intro F
  ·refine X0 6 Z ?_;replace h:=h.p [0] Z;obtain rfl:=qb F;exact rG ⟨_,f,rfl,h⟩ Z
  refine X2 5 1 0 h Z (zcB h F (qrd (h.old p) (h.old M)) Z fun _ _ h F=>X0 4 Z ?_);replace h:=h.p [0] Z;obtain rfl:=qb F;exact rG ⟨_,f,rfl,h⟩ Z
 rintro _ _ ⟨b1,F,rfl,h⟩;subst L;refine qg Z F ?_ ?_<;>intro F
 ·exact X0 4 Z (rb h F Z)
 refine zKSR (qG qa [] _ ([]:List ByteArray) h Z Z Z Z Z Z Z Z Z trivial Z fun _ _ _ h=>X0 7 Z ?_);obtain⟨o1,F,hK1⟩:=qc F;refine qm (rL (fun m e w'=>∃S2 p6 x k5 x1 i1,qdw a m x1 i1=V o1/\e=[(3,vp b),(5,oS p6 x k5),(6,vi i1)]/\SH w w' [oW S2 (x1:List ByteArray) [oS p6 x k5],oX b (qaT a C D H A k3 B) 50]) n ⟨_,_,_,_,_,_,F,rfl,h⟩ Z ?_);rintro m1 _ _ ⟨S2,p6,x,k5,x1,i1,F,rfl,h⟩;obtain rfl:=(h.sl 0 Z).2;rcases m1 with _|m1
 ·cases F
 refine X1 9 1 h Z (qg Z F ?_ ?_)<;>intro F
 ·refine X1 8 1 h Z ?_;obtain⟨y1,_,F,he1,_,_,_,_,hp1,hq1,hr1,hc3⟩:=s2.ix F;obtain⟨_,_,rfl,_⟩:=qU hr1;refine zxe hp1 hq1 he1 Z (zp1 Z (zc 0 (hc3.below h.below) Z (qG qa [.tmp 55] _ ([y1.Bc]:List ByteArray) h Z Z Z Z Z Z Z Z Z ⟨rfl,G⟩ Z fun _ _ _ h=>?_)));obtain⟨_,s,F⟩:=qc F;obtain⟨g1,s⟩:=qN s;refine qbY qa 1 h Z (h.sl 0 Z).1 (h.sl 0 Z).2 Z Z Z Z Z Z Z Z Z g1 s Z fun _ _ _ _ h=>X0 8 Z ?_;replace h:=h.p [1,2] Z;exact rK ⟨_,_,_,_,_,_,F,rfl,h⟩ Z
 refine qr Z ?_;obtain rfl:=qb F;replace F:=hK1;refine zSR (qG qa [] _ ([]:List ByteArray) h Z Z Z Z Z Z Z Z Z trivial Z fun _ _ _ h=>X0 7 Z ?_);obtain⟨o2,F,hK2⟩:=qc F;refine qm (rL (fun m e w'=>∃S6 z y k8 x3 i2,qdC a m x3 i2=V o2/\e=[(3,vp b),(5,oS p6 x1.length k5),(7,oS z y k8),(8,vi i2)]/\SH w w' [oW S6 (x3:List ByteArray) [oS z y k8],oW S2 (x1:List ByteArray) [oS p6 x1.length k5],oX b (qaT a C D H A k3 B) 50]) n ⟨_,_,_,_,_,_,F,rfl,h⟩ Z ?_);rintro m2 _ _ ⟨S6,z,y,k8,x3,i2,F,rfl,h⟩;obtain rfl:=(h.sl 0 Z).2;rcases m2 with _|m2
 ·cases F
 refine X1 9 2 h Z (qg Z F ?_ ?_)<;>intro F
 ·refine X1 8 2 h Z ?_;obtain⟨y2,_,F,he2,_,_,_,_,hp2,hq2,hr2,hc5⟩:=s4.ix F;obtain rfl:=qaY hr2;refine zxe hp2 hq2 he2 Z (zp1 Z (zc 0 (hc5.below h.below) Z (qG qa [.tmp 72] _ ([y2.Bc]:List ByteArray) h Z Z Z Z Z Z Z Z Z ⟨rfl,G⟩ Z fun _ _ _ h=>?_)));obtain⟨_,u,F⟩:=qc F;obtain⟨g2,u⟩:=qN u;refine qbY qa 1 h Z (h.sl 0 Z).1 (h.sl 0 Z).2 Z Z Z Z Z Z Z Z Z g2 u Z fun _ _ _ _ h=>X0 8 Z ?_;replace h:=h.p [1,2,3] Z;exact rK ⟨_,_,_,_,_,_,F,rfl,h⟩ Z
 refine qr Z ?_;obtain rfl:=qb F;replace F:=hK2;refine zSS ?_;obtain⟨KF1,K,_,F,o⟩:=bindE F;refine qaU (fun e w'=>∃b4,KF1 b4=V r/\e=[(3,vp b),(88,.bool b4)]/\SH w w' [oX b (qaT a C D H A k3 B) 50]) ?_ ?_
 ·refine X0 2 Z (zcB h F (qj0 (h.own 1 Z)) Z fun _ _ h F=>zp2 Z (qn (t:=78) F Z ?_ ?_))<;>intro F
  ·refine X0 11 Z ?_;replace h:=h.p [2] Z;obtain rfl:=qb F;exact rG ⟨_,o,rfl,h⟩ Z
  refine X0 3 Z (zcB h F (qj0 (h.own 0 Z)) Z fun _ _ h F=>X0 4 Z (qn (t:=83) F Z ?_ ?_))<;>intro F
  ·refine X0 6 Z ?_;replace h:=h.p [2] Z;obtain rfl:=qb F;exact rG ⟨_,o,rfl,h⟩ Z
  refine X1 5 2 h Z (zcB h F (qj0 ⟨_,_,rfl,(h.oldS s3)⟩) Z fun _ _ h F=>X0 4 Z ?_);replace h:=h.p [2] Z;obtain rfl:=qb F;exact rG ⟨_,o,rfl,h⟩ Z
 rintro _ _ ⟨b4,F,rfl,h⟩;subst K;refine qg Z F ?_ ?_<;>intro F
 ·exact X0 4 Z (rb h F Z)
 refine X1 6 0 h Z ?_;obtain⟨d,v,F⟩:=qc F;obtain⟨g3,g4,v⟩:=qT v;refine qan qa Int h Z Z Z Z Z Z Z Z Z g3 g4 v Z fun _ S9 c h=>X0 7 Z ?_;obtain⟨o3,F,hK3⟩:=qc F;refine qm (rL (fun m e w'=>∃x6 i3,qdA a m x6 i3=V o3/\e=[(3,vp b),(9,oS c d.length d.length),(10,vi i3)]/\SH w w' [oW S9 (x6:List Int) [oS c d.length d.length],oX b (qaT a C D H A k3 B) 50]) n ⟨_,_,F,rfl,h⟩ Z ?_);rintro m3 _ _ ⟨x6,i3,F,rfl,h⟩;rcases m3 with _|m3
 ·cases F
 refine X1 9 1 h Z (qg Z F ?_ ?_)<;>intro F
 ·refine X1 8 1 h Z ?_;obtain⟨_,_,F,he3,_,_,_,_,hp3,hq3,hr3,hc8⟩:=s2.ix F;obtain⟨_,_,rfl,s6⟩:=qU hr3;refine zxe hp3 hq3 he3 Z (zp1 Z (zc 2 (hc8.below h.below) Z (X0 8 Z ?_)));obtain⟨_,_,F,he4,_,_,_,_,hp4,hq4,rfl,hc9⟩:=s6.ix F;refine zxe hp4 hq4 he4 Z (zc 0 (hc9.below h.below) Z ?_);obtain⟨y5,_,F,W,_,_,_,_,hp5,hq5,rfl,N⟩:=(h.sl 0 Z).1.ix F;refine zx hp5 hq5 ⟨W.1,qD W.2.1 (h.sl 0 Z).2⟩ Z (zc 0 N Z (zp1 Z ?_));obtain⟨_,hy6,F,X,_,_,_,_,a4,a6,rfl,O⟩:=(h.sl 0 Z).1.ix F;exact zx a4 a6 ⟨X.1,qD X.2.1 (h.sl 0 Z).2⟩ Z (qav qa 0 0 (W64 (y5+1)) h Z hy6 a4 a6 Z O Z Z Z Z Z Z Z fun _ h=>X0 7 Z (rK ⟨_,_,F,rfl,h⟩ Z))
 refine qr Z ?_;obtain rfl:=qb F;replace F:=hK3;refine X0 5 Z ?_;obtain⟨o4,F,hK4⟩:=qc F;refine qm (rL (fun m e w'=>∃x7 i4,qcW a m x7 i4=V o4/\e=[(3,vp b),(9,oS c d.length d.length),(12,vi i4)]/\SH w w' [oW S9 (x7:List Int) [oS c d.length d.length],oX b (qaT a C D H A k3 B) 50]) n ⟨_,_,F,rfl,h⟩ Z ?_);rintro m4 _ _ ⟨x7,i4,F,rfl,h⟩;rcases m4 with _|m4
 ·cases F
 refine X1 9 1 h Z (qg Z F ?_ ?_)<;>intro F
 ·refine X1 8 1 h Z ?_;obtain⟨_,_,F,he7,_,_,_,_,hp7,hq7,hr7,P⟩:=s4.ix F;obtain rfl:=qaY hr7;refine zxe hp7 hq7 he7 Z (zp1 Z (zc 1 (P.below h.below) Z (X0 2 Z (qg Z F ?_ ?_))))<;>intro F
  ·refine X1 5 1 h Z ?_;obtain⟨_,_,F,he8,_,_,_,_,hp8,hq8,hr8,Q⟩:=s4.ix F;obtain rfl:=qaY hr8;refine zxe hp8 hq8 he8 Z (zp1 Z (zc 2 (Q.below h.below) Z ?_));obtain⟨y9,_,F,Y,_,_,_,_,hp9,hq9,rfl,R⟩:=(h.sl 0 Z).1.ix F;refine zx hp9 hq9 ⟨Y.1,qD Y.2.1 (h.sl 0 Z).2⟩ Z (zc 0 R Z (zp1 Z ?_));obtain⟨_,a7,F,g,_,_,_,_,k,l,rfl,S⟩:=(h.sl 0 Z).1.ix F;exact zx k l ⟨g.1,qD g.2.1 (h.sl 0 Z).2⟩ Z (qav qa 0 0 (W64 (y9+1)) h Z a7 k l Z S Z Z Z Z Z Z Z fun _ h=>X0 7 Z (rK ⟨_,_,F,rfl,h⟩ Z))
  exact X0 7 Z (rK ⟨_,_,F,rfl,h⟩ Z)
 refine qr Z ?_;obtain rfl:=qb F;replace F:=hK4;refine X0 5 Z ?_;obtain⟨o5,F,J⟩:=qc F;refine qm ?_;replace h:=h.p [0] Z;refine rL (fun m e w'=>∃i5,qe6 d x7 m i5=V o5/\e=[(9,oS c d.length d.length),(13,vi i5)]/\SH w w' [oW S9 (x7:List Int) [oS c d.length d.length]]) n ⟨_,F,rfl,h⟩ Z ?_;rintro m5 _ _ ⟨i5,F,rfl,h⟩;rcases m5 with _|m5
 ·cases F
 refine X0 8 Z (qg Z F ?_ ?_)<;>intro F
 ·refine X0 7 Z ?_;obtain⟨_,_,F,i,_,_,_,_,a3,a5,rfl,T⟩:=(h.sl 0 Z).1.ix F;refine zx a3 a5 ⟨i.1,qD i.2.1 (h.sl 0 Z).2⟩ Z (zc 0 T Z (X0 2 Z (qg Z F ?_ ?_)))<;>intro F
  ·refine X0 4 Z ?_;obtain rfl:=qb F;replace F:=J;exact rb h F Z
  exact X0 7 Z (rK ⟨_,F,rfl,h⟩ Z)
 refine qr Z ?_;obtain rfl:=qb F;replace F:=J;exact X0 4 Z (rb h F Z)
def qgd(a:qE):Nat->Int->Option (Flow Bool Int)|0,_=>U|n+1,b=>bif decide (b<(a.Bn.length:Int)) then(idx a.Bn b).bind fun d=>(qam n d 0 (W64 ((a.Ar.length:Int)-1))).bind fun c=>bif (!c) then V (.ret false) else qgd a n (W64 (b+1)) else V (.nxt b)
def qc2(a:qE):Nat->Int->Option (Flow Bool Int)|0,_=>U|n+1,i1=>bif decide (i1<(a.Ar.length:Int)) then((idx a.Bv i1).bind fun k=>(qam n k 0 500).bind fun d=>bif (!d) then V true else(idx a.Bz i1).bind fun l=>(qam n l 0 1000).bind fun r4=>V (!r4)).bind fun b2=>bif b2 then V (.ret false) else bif (i1==0) then(idx a.Ar i1).bind fun f=>bif (f != (-1)) then V (.ret false) else(idx a.Bz i1).bind fun g=>bif (g != 0) then V (.ret false) else bif decide (i1 > 0) then(idx a.Ar i1).bind fun h=>(qam n h 0 (W64 (i1-1))).bind fun b=>bif (!b) then V (.ret false) else qc2 a n (W64 (i1+1)) else qc2 a n (W64 (i1+1)) else bif decide (i1 > 0) then(idx a.Ar i1).bind fun i=>(qam n i 0 (W64 (i1-1))).bind fun c=>bif (!c) then V (.ret false) else qc2 a n (W64 (i1+1)) else qc2 a n (W64 (i1+1)) else V (.nxt i1)
def qmv(n:Nat)(a:qE)(b:Int):Option Bool:=(bif decide ((a.Ar.length:Int)<1) then V true else bif decide ((a.Ar.length:Int) > 8) then V true else bif ((a.Bz.length:Int) != (a.Ar.length:Int)) then V true else bif ((a.Bv.length:Int) != (a.Ar.length:Int)) then V true else V ((a.Bn.length:Int) != b)).bind fun b1=>bif b1 then V false else(qc2 a n 0).bind fun|.ret r=>V r|.nxt _=>(qgd a n 0).bind fun|.ret r=>V r|.nxt _=>V true
theorem qsG{a:qE}{f}(H:Ro w a cs1){r:Bool}(F:qmv n a f=V r):RetV prog 271 [oV qE cs1,vi f] w r:=by
 obtain⟨y,u,z,v,A,k3,B,x,rfl,s1,s2,s3,s4⟩:=qaR H;refine zV 108 func271 Z fun h=>zSR (qw h Z Z fun _ b h=>X1 11 0 h Z ?_);obtain⟨D,l,_,F,d⟩:=bindE F;refine qaU (fun e w'=>∃b1,D b1=V r/\e=[(2,vp b),(5,vi (a.Ar.length:Int)),(37,.bool b1)]/\SH w w' [oX b (qhn a y z A B u v k3 x) 183]) ?_ ?_
 ·refine X0 4 Z (qn (t:=13) F Z ?_ ?_)<;>intro F
  ·refine X0 25 Z ?_;obtain rfl:=qb F;exact rG ⟨_,d,rfl,h⟩ Z
  refine X0 6 Z (qn (t:=17) F Z ?_ ?_)<;>intro F
  ·refine X0 21 Z ?_;obtain rfl:=qb F;exact rG ⟨_,d,rfl,h⟩ Z
  refine X1 12 0 h Z (qn (t:=24) F Z ?_ ?_)<;>intro F
  ·refine X0 14 Z ?_;obtain rfl:=qb F;exact rG ⟨_,d,rfl,h⟩ Z
  refine X1 12 0 h Z (qn (t:=31) F Z ?_ ?_)<;>intro F
  ·refine X0 7 Z ?_;obtain rfl:=qb F;exact rG ⟨_,d,rfl,h⟩ Z
  refine X1 12 0 h Z ?_;obtain rfl:=qb F;exact rG ⟨_,d,rfl,h⟩ Z
 rintro _ _ ⟨b1,F,rfl,h⟩;subst l;refine qg Z F ?_ ?_<;>intro F
 ·exact X0 4 Z (rb h F Z)
 refine X0 6 Z ?_;obtain⟨o1,F,c⟩:=qc F;refine qm (rL (fun m e w'=>∃i1,qc2 a m i1=V o1/\e=[(2,vp b),(5,vi (a.Ar.length:Int)),(6,vi i1)]/\SH w w' [oX b (qhn a y z A B u v k3 x) 183]) n ⟨_,F,rfl,h⟩ Z ?_);rintro m1 _ _ ⟨i1,F,rfl,h⟩;rcases m1 with _|m1
 ·cases F
 refine X0 7 Z (qg Z F ?_ ?_)<;>intro F
 ·refine X0 5 Z ?_;obtain⟨C,k,_,F,g⟩:=bindE F;refine qaU (fun e w'=>∃b2,C b2=V o1/\e=[(2,vp b),(5,vi (a.Ar.length:Int)),(6,vi i1),(58,.bool b2)]/\SH w w' [oX b (qhn a y z A B u v k3 x) 183]) ?_ ?_
  ·refine X1 4 0 h Z ?_;obtain⟨_,_,F,Q,_,_,_,_,a3,b4,rfl,o⟩:=s3.ix F;refine zxe a3 b4 Q Z (zc 0 (o.below h.below) Z (zcB h F qab Z fun _ _ h F=>zp2 Z (qn (t:=50) F Z ?_ ?_)))<;>intro F
   ·refine X0 9 Z ?_;obtain rfl:=qb F;exact rG ⟨_,g,rfl,h⟩ Z
   refine X1 7 0 h Z ?_;obtain⟨_,_,F,R,_,_,_,_,a4,b5,rfl,p⟩:=s2.ix F;refine zxe a4 b5 R Z (X0 1 Z (zc 0 (p.below h.below) Z (X0 1 Z (zcB h F qab Z fun _ _ h F=>X0 4 Z ?_))));obtain rfl:=qb F;exact rG ⟨_,g,rfl,h⟩ Z
  rintro _ _ ⟨b2,F,rfl,h⟩;subst k;refine qg Z F ?_ ?_<;>intro F
  ·refine X0 4 Z ?_;obtain rfl:=qb F;replace F:=c;exact rb h F Z
  refine X0 6 Z (qn (t:=61) F Z ?_ ?_)<;>intro F
  ·refine X1 7 0 h Z ?_;obtain⟨_,_,F,M,_,_,_,_,T,a6,rfl,I⟩:=s1.ix F;refine zxe T a6 M Z (X0 1 Z (zc 0 (I.below h.below) Z (X0 4 Z (qn (t:=68) F Z ?_ ?_))))<;>intro F
   ·refine X0 25 Z (qct Z Z (X0 4 Z ?_));obtain rfl:=qb F;replace F:=c;exact rb h F Z
   refine X1 7 0 h Z ?_;obtain⟨_,_,F,N,_,_,_,_,W,a7,rfl,J⟩:=s2.ix F;refine zxe W a7 N Z (X0 1 Z (zc 0 (J.below h.below) Z (X0 6 Z (qn (t:=77) F Z ?_ ?_))))<;>intro F
   ·refine X0 15 Z (qct Z Z (X0 4 Z ?_));obtain rfl:=qb F;replace F:=c;exact rb h F Z
   refine X0 6 Z (qn (t:=80) F Z ?_ ?_)<;>intro F
   ·refine X1 7 0 h Z ?_;obtain⟨_,_,F,O,_,_,_,_,X,a8,rfl,K⟩:=s1.ix F;refine zxe X a8 O Z (X0 1 Z (zc 0 (K.below h.below) Z (X0 5 Z (zcB h F qab Z fun _ _ h F=>X0 6 Z (qg Z F ?_ ?_)))))<;>intro F
    ·refine X0 4 Z ?_;obtain rfl:=qb F;replace F:=c;exact rb h F Z
    exact X0 7 Z (rK ⟨_,F,rfl,h⟩ Z)
   exact X0 13 Z (qch Z Z (X0 7 Z (rK ⟨_,F,rfl,h⟩ Z)))
  refine X0 22 Z (qn (t:=80) F Z ?_ ?_)<;>intro F
  ·refine X1 7 0 h Z ?_;obtain⟨_,_,F,P,_,_,_,_,Y,a9,rfl,L⟩:=s1.ix F;refine zxe Y a9 P Z (X0 1 Z (zc 0 (L.below h.below) Z (X0 5 Z (zcB h F qab Z fun _ _ h F=>X0 6 Z (qg Z F ?_ ?_)))))<;>intro F
   ·refine X0 4 Z ?_;obtain rfl:=qb F;replace F:=c;exact rb h F Z
   exact X0 7 Z (rK ⟨_,F,rfl,h⟩ Z)
  exact X0 13 Z (qch Z Z (X0 7 Z (rK ⟨_,F,rfl,h⟩ Z)))
 refine qr Z ?_;obtain rfl:=qb F;replace F:=c;refine X0 5 Z ?_;obtain⟨o3,F,i⟩:=qc F;refine qm (rL (fun m e w'=>∃i2,qgd a m i2=V o3/\e=[(2,vp b),(5,vi (a.Ar.length:Int)),(7,vi i2)]/\SH w w' [oX b (qhn a y z A B u v k3 x) 183]) n ⟨_,F,rfl,h⟩ Z ?_);rintro m2 _ _ ⟨i2,F,rfl,h⟩;rcases m2 with _|m2
 ·cases F
 refine X1 9 0 h Z (qg Z F ?_ ?_)<;>intro F
 ·refine X1 8 0 h Z ?_;obtain⟨_,_,F,S,_,_,_,_,a5,b6,rfl,s⟩:=s4.ix F;refine zxe a5 b6 S Z (zc 0 (s.below h.below) Z (zp2 Z (zcB h F qab Z fun _ _ h F=>X0 2 Z (qg Z F ?_ ?_))))<;>intro F
  ·refine X0 4 Z ?_;obtain rfl:=qb F;replace F:=i;exact rb h F Z
  exact X0 7 Z (rK ⟨_,F,rfl,h⟩ Z)
 refine qr Z ?_;obtain rfl:=qb F;replace F:=i;exact X0 4 Z (rb h F Z)
def qfu(b:qj):Nat->Int->Option (Flow Bool Int)|0,_=>U|n+1,i1=>bif decide (i1<(b.Ah.length:Int)) then(idx b.Ah i1).bind fun d=>(qhb n (⟨b.Aa.Ab,b.Aa.Am,b.Aa.Aj⟩:qd) i1).bind fun a=>(qmv n d (a.length:Int)).bind fun c=>bif (!c) then V (.ret false) else qfu b n (W64 (i1+1)) else V (.nxt i1)
def qhX(n:Nat)(b:qj):Option Bool:=((qkn n (⟨b.Au.As⟩:qq) (⟨b.Aa.Ab,b.Aa.Am,b.Aa.Aj⟩:qd)).bind fun a=>bif (!a) then V true else V ((b.Ah.length:Int) != (b.Aa.Am.length:Int))).bind fun b1=>bif b1 then V false else(qfu b n 0).bind fun|.ret r=>V r|.nxt _=>V true
theorem qn5{b:qj}(i:Ro w b cs1){r:Bool}(F:qhX n b=V r):RetV prog 231 [oV qj cs1] w r:=by
 obtain⟨A,u,B,v,C,k3,D,x,H,y,rfl,L,s2,I,J,M⟩:=qah i;refine zV 39 func231 Z fun h=>zSR (qw h Z Z fun _ a h=>X0 4 Z ?_);obtain⟨g,f,_,F,d⟩:=bindE F;refine qaU (fun e w'=>∃b1,g b1=V r/\e=[(1,vp a),(19,.bool b1)]/\SH w w' [oX a (qa4 b A B C D H u v k3 x y) 53]) ?_ ?_
 ·refine X2 5 0 0 h Z (zcB h F (qq6 (qeF _ (h.oldS L)) (qaz _ (h.oldS s2) (h.oldS I) (h.oldS J))) Z fun _ _ h F=>zp2 Z (qn (t:=10) F Z ?_ ?_))<;>intro F
  ·refine X0 10 Z ?_;obtain rfl:=qb F;exact rG ⟨_,d,rfl,h⟩ Z
  refine X2 18 0 0 h Z ?_;obtain rfl:=qb F;exact rG ⟨_,d,rfl,h⟩ Z
 rintro _ _ ⟨b1,F,rfl,h⟩;subst f;refine qg Z F ?_ ?_<;>intro F
 ·exact X0 4 Z (rb h F Z)
 refine X0 6 Z ?_;obtain⟨K,F,c⟩:=qc F;refine qm (rL (fun m e w'=>∃i1,qfu b m i1=V K/\e=[(1,vp a),(3,vi i1)]/\SH w w' [oX a (qa4 b A B C D H u v k3 x y) 53]) n ⟨_,F,rfl,h⟩ Z ?_);rintro z _ _ ⟨i1,F,rfl,h⟩;rcases z with _|z
 ·cases F
 refine X1 9 0 h Z (qg Z F ?_ ?_)<;>intro F
 ·refine X0 4 Z (rA [] [0] h Z fun _ h=>M1 7 [0,1,2] 0 (h.p [0] Z) Z ?_);obtain⟨R,_,F,l,_,_,_,_,o,p,s,k⟩:=M.ix F;obtain⟨_,_,_,_,_,_,_,_,rfl,N,O,P,Q⟩:=qaR s;refine Ae 3 15 o p l (h.p [0] Z) Z (Al 4 31 0 k (h.p [0] Z) Z (M1 255 [5,6,7] 0 (h.p [0] Z) Z (Ao 8 511 Z (zcL h F (qka (qaz _ (h.oldS s2) (h.oldS I) (h.oldS J))) Z fun _ _ _ _ _ h F=>G0 1023 [9] (h.p [1] Z) Z (Ao 10 2047 Z (zcB h F (qsG (qlw R (h.oldS N) (h.oldS O) (h.oldS P) (h.oldS Q))) Z fun _ _ h F=>G0 4095 [11] (h.p [1] Z) Z (Ad (qg Z F ?_ ?_))))))))<;>intro F
  ·refine X0 4 Z ?_;obtain rfl:=qb F;replace F:=c;exact rb h F Z
  refine X0 7 Z ?_;replace h:=h.p [1] Z;exact rK ⟨_,F,rfl,h⟩ Z
 refine qr Z ?_;obtain rfl:=qb F;replace F:=c;exact X0 4 Z (rb h F Z)
def qaS(_:Nat)(x:Int)(b:Int)(a:Int):Option Bool:=bif decide (x>=b) then V (decide (x<=a)) else V false
theorem qaE{x low high}  {r:Bool}(F:qaS n x low high=V r):RetV prog 46 [vi x,vi low,vi high] w r:=by
 refine zV 15 func46 Z fun h=>X0 10 Z (qn (t:=10) F Z ?_ ?_)<;>intro F
 ·exact X0 9 Z (rb h F Z)
 exact X0 6 Z (rb h F Z)
def qjy(_:Nat)(s cutset:ByteArray):Option ByteArray:=if s.size<=9223372036854775807/\cutset.size<4294967281/\cutset.data.toList.all (fun b=>decide (b.toNat<128))=true then V ⟨(Lib.trimS s.data.toList cutset.data.toList).toArray⟩ else U
theorem qrO{s cutset}{r:ByteArray}(F:qjy n s cutset=V r):RetV prog 257 [.string s,.string cutset] w r:=by
 unfold qjy at F;split at F
 ·rename_i hh
  obtain rfl:=qb F;refine(Tryz.strings_Trim_any s cutset w hh.1 hh.2.1 hh.2.2).mono ?_;rintro e w' ⟨rfl,a⟩;exact⟨_,rfl,a,[.string _],rfl,qxk _ _⟩
 cases F
def qhp(_:Nat)(s:ByteArray)(c:(IntK .u8)):Option Int:=V (Lib.indexByte s.data.toList c.val.toNat.toUInt8)
theorem qon{s}{c:(IntK .u8)}{r:Int}(F:qhp n s c=V r):RetV prog 258 [.string s,.int .u8 c.val] w r:=by
 obtain rfl:=qb F;refine(Tryz.strings_IndexByte s c.val w).mono ?_;rintro e w' ⟨rfl,rfl⟩;exact⟨_,rfl,Below.refl _ _,[vi _],rfl,qAj _ _⟩
def qi6(n:Nat)(s:ByteArray):Option Bool:=(qaS n (s.size:Int) 1 8).bind fun a=>bif a then(qjy n s (⟨#[97,98,99,100,101,102,103,104,105,106,107,108,109,110,111,112,113,114,115,116,117,118,119,120,121,122,48,49,50,51,52,53,54,55,56,57]⟩:ByteArray)).bind fun b=>bif (b.toList==(⟨#[]⟩:ByteArray).toList) then(atS s 0).bind fun d=>(qhp n (⟨#[97,98,99,100,101,102,103,104,105,106,107,108,109,110,111,112,113,114,115,116,117,118,119,120,121,122]⟩:ByteArray) (⟨d⟩:IntK .u8)).bind fun c=>V (decide (c>=0)) else V false else V false
theorem qlZ{s}  {r:Bool}(F:qi6 n s=V r):RetV prog 205 [.string s] w r:=by
 refine zV 17 func205 Z fun h=>X0 8 Z (zcB h F qaE Z fun _ _ h F=>zp1 Z (qn (t:=6) F Z ?_ ?_))<;>intro F
 ·refine X0 3 Z (zcS h F qrO Z fun _ _ h F=>X0 4 Z (qn (t:=11) F Z ?_ ?_))<;>intro F
  ·refine X0 3 Z ?_;obtain⟨_,a,F⟩:=qc F;have b:=qoM a;exact r_v (qoP qa b Z Z Z Z) Z (X0 1 Z (zcI h F qon Z fun _ _ h F=>X0 5 Z (rb h F Z)))
  exact X0 7 Z (rb h F Z)
 exact X0 12 Z (rb h F Z)
def qcl(s:(List ByteArray))(v:ByteArray):Nat->Int->Option (Flow Int Int)|0,_=>U|n+1,i1=>bif decide (i1<(s.length:Int)) then(idx s i1).bind fun a=>bif (v.toList==a.toList) then V (.ret i1) else qcl s v n (W64 (i1+1)) else V (.nxt i1)
def qf4(n:Nat)(s:(List ByteArray))(v:ByteArray):Option Int:=(qcl s v n 0).bind fun|.ret r=>V r|.nxt _=>V (-1)
theorem qnx{s:(List ByteArray)}{v}(b:Ro w s cs1){r:Int}(F:qf4 n s v=V r):RetV prog 319 [oV (List ByteArray) cs1,.string v] w r:=by
 obtain⟨o,k,rfl,p⟩:=b;refine zV 19 func319 Z fun h=>X0 11 Z ?_;obtain⟨l,F,a⟩:=qc F;refine qm (rL (fun m e w'=>∃i1,qcl s v m i1=V l/\e=[(0,oS o s.length k),(1,.string v),(7,vi (s.length:Int)),(8,vi i1)]/\SH w w' []) n ⟨_,F,rfl,h⟩ Z ?_);rintro i _ _ ⟨i1,F,rfl,h⟩;rcases i with _|i
 ·cases F
 refine X0 5 Z (qg Z F ?_ ?_)<;>intro F
 ·refine X0 13 Z ?_;obtain⟨_,_,F,d,_,_,_,_,f,g,rfl,c⟩:=p.ix F;refine zxe f g d Z (zc 0 (c.below h.below) Z (X0 2 Z (qg Z F ?_ ?_)))<;>intro F
  ·refine X0 5 Z ?_;obtain rfl:=qb F;replace F:=a;exact ri h F Z
  exact X0 6 Z (rK ⟨_,F,rfl,h⟩ Z)
 refine qr Z ?_;obtain rfl:=qb F;replace F:=a;exact X0 4 Z (ri h F Z)
def qeI(n:Nat)(s:(List ByteArray))(v:ByteArray):Option Bool:=(qf4 n s v).bind fun a=>V (decide (a>=0))
theorem ql8{s:(List ByteArray)}{v}(a:Ro w s cs1){r:Bool}(F:qeI n s v=V r):RetV prog 303 [oV (List ByteArray) cs1,.string v] w r:=by
 obtain⟨_,_,rfl,b⟩:=a;exact zV 9 func303 Z fun h=>X0 8 Z (zcI h F (qnx ⟨_,_,rfl,(h.oldS b)⟩) Z fun _ _ h F=>X0 3 Z (rb h F Z))
def qe7(list:(List ByteArray)):Nat->Int->Option (Flow Bool Int)|0,_=>U|n+1,i1=>bif decide (i1<(list.length:Int)) then(idx list i1).bind fun a=>(qi6 n a).bind fun b=>bif (!b) then V (.ret false) else(subS list 0 i1).bind fun x1=>(qeI n x1 a).bind fun c=>bif c then V (.ret false) else qe7 list n (W64 (i1+1)) else V (.nxt i1)
def qeM(n:Nat)(list:(List ByteArray)):Option Bool:=(qe7 list n 0).bind fun|.ret r=>V r|.nxt _=>V true
theorem qgj{list:(List ByteArray)}(f:Ro w list cs1){r:Bool}(F:qeM n list=V r):RetV prog 280 [oV (List ByteArray) cs1] w r:=by
 obtain⟨v,s,rfl,p⟩:=f;refine zV 23 func280 Z fun h=>X0 11 Z ?_;obtain⟨y,F,a⟩:=qc F;refine qm (rL (fun m e w'=>∃i1,qe7 list m i1=V y/\e=[(0,oS v list.length s),(5,oS v list.length s),(6,vi (list.length:Int)),(7,vi i1)]/\SH w w' []) n ⟨_,F,rfl,h⟩ Z ?_);rintro u _ _ ⟨i1,F,rfl,h⟩;rcases u with _|u
 ·cases F
 refine X0 5 Z (qg Z F ?_ ?_)<;>intro F
 ·refine X0 6 Z ?_;obtain⟨_,_,F,i,_,_,_,_,l,o,rfl,g⟩:=p.ix F;refine zxe l o i Z (zc 0 (g.below h.below) Z (X0 6 Z (zcB h F qlZ Z fun _ _ h F=>zp2 Z (qn (t:=15) F Z ?_ ?_))))<;>intro F
  ·refine X0 7 Z (qct Z Z (X0 4 Z ?_));obtain rfl:=qb F;replace F:=a;exact rb h F Z
  refine X0 5 Z ?_;obtain⟨_,d,F⟩:=qc F;obtain⟨_,_,c,b,k,x⟩:=qpM (h.oldS p) d;refine r_v (qlL qa Z Z Z (qpZ x Z) c b k Z Z Z Z) Z ?_;have s2:=qs3 p d c b;refine X0 3 Z (zcB h F (ql8 ⟨_,_,rfl,(h.oldS s2)⟩) Z fun _ _ h F=>X0 2 Z (qg Z F ?_ ?_))<;>intro F
  ·refine X0 4 Z ?_;obtain rfl:=qb F;replace F:=a;exact rb h F Z
  exact X0 6 Z (rK ⟨_,F,rfl,h⟩ Z)
 refine qr Z ?_;obtain rfl:=qb F;replace F:=a;exact X0 4 Z (rb h F Z)
def qcX(_:Nat)(list:(List qao)):Option Int:=V (list.length:Int)
theorem qi7{list:(List qao)}(a:Ro w list cs1){r:Int}(F:qcX n list=V r):RetV prog 313 [oV (List qao) cs1] w r:=by
 obtain⟨_,_,rfl,_⟩:=a;exact zV 5 func313 Z fun h=>X0 10 Z (ri h F Z)
def qdp(list:(List qao)):Nat->(List ByteArray)->Int->Option (Flow Bool ((List ByteArray)×Int))|0,_,_=>U|n+1,x1,i1=>bif decide (i1<(list.length:Int)) then(idx list i1).bind fun a=>(appS x1 ([a.Bc]:List ByteArray)).bind fun b=>bif (i1==(W64 ((list.length:Int)-1))) then bif (a.Bx != 2) then V (.ret false) else bif (a.Bv != 0) then V (.ret false) else bif a.Bt then V (.ret false) else qdp list n b (W64 (i1+1)) else bif (a.Bx != 1) then V (.ret false) else(qaS n a.Bv 0 500).bind fun c=>bif (!c) then V (.ret false) else qdp list n b (W64 (i1+1)) else V (.nxt (x1,i1))
def qle(n:Nat)(list:(List qao)):Option Bool:=(qdp list n ([]:List ByteArray) 0).bind fun|.ret r=>V r|.nxt (x1,_)=>(qcX n list).bind fun a=>(qaS n a 2 5).bind fun b=>bif b then(qeM n x1).bind fun r4=>V r4 else V false
theorem qrQ{list:(List qao)}(d:Ro w list cs1){r:Bool}(F:qle n list=V r):RetV prog 300 [oV (List qao) cs1] w r:=by
 obtain⟨v,s,rfl,x⟩:=d;refine zV 52 func300 Z fun h=>X0 15 Z ?_;replace h:=h.nil (α:=ByteArray);obtain⟨z,F,a⟩:=qc F;refine qm (rL (fun m e w'=>∃S1 p c o x1 i1,qdp list m x1 i1=V z/\e=[(0,oS v list.length s),(3,oS p c o),(6,oS v list.length s),(7,vi (list.length:Int)),(8,vi i1)]/\SH w w' [oW S1 (x1:List ByteArray) [oS p c o]]) n ⟨_,_,_,_,_,_,F,rfl,h⟩ Z ?_);rintro u _ _ ⟨S1,p,c,o,x1,i1,F,rfl,h⟩;obtain rfl:=(h.sl 0 Z).2;rcases u with _|u
 ·cases F
 refine X0 5 Z (qg Z F ?_ ?_)<;>intro F
 ·refine X0 6 Z ?_;obtain⟨A,_,F,g,_,_,_,_,i,k,l,f⟩:=x.ix F;obtain rfl:=qa0 l;refine zxe i k g Z (zc 0 (f.below h.below) Z (qp qa h Z Z Z fun _ _ h=>zp1 Z (zs 0 h Z fun _ h=>X1 6 0 h Z (qG qa [.tmp 15] _ ([A.Bc]:List ByteArray) h Z Z Z Z Z Z Z Z Z ⟨rfl,G⟩ Z fun _ _ _ h=>?_))));obtain⟨_,b,F⟩:=qc F;obtain⟨y,b⟩:=qN b;refine qbY qa 2 h Z (h.sl 0 Z).1 (h.sl 0 Z).2 Z Z Z Z Z Z Z Z Z y b Z fun _ _ _ _ h=>X0 10 Z (qg Z F ?_ ?_)<;>intro F
  ·refine X1 6 1 h Z (qn (t:=26) F Z ?_ ?_)<;>intro F
   ·refine X0 9 Z (qct Z Z (X0 4 Z ?_));obtain rfl:=qb F;replace F:=a;exact rb h F Z
   refine X1 8 1 h Z (qn (t:=31) F Z ?_ ?_)<;>intro F
   ·refine X0 4 Z (qct Z Z (X0 4 Z ?_));obtain rfl:=qb F;replace F:=a;exact rb h F Z
   refine X1 6 1 h Z (qg Z F ?_ ?_)<;>intro F
   ·refine X0 4 Z ?_;obtain rfl:=qb F;replace F:=a;exact rb h F Z
   refine X0 6 Z ?_;replace h:=h.p [2] Z;exact rK ⟨_,_,_,_,_,_,F,rfl,h⟩ Z
  refine X1 6 1 h Z (qn (t:=38) F Z ?_ ?_)<;>intro F
  ·refine X0 6 Z (qct Z Z (X0 4 Z ?_));obtain rfl:=qb F;replace F:=a;exact rb h F Z
  refine X1 5 1 h Z (zcB h F qaE Z fun _ _ h F=>X0 4 Z (qg Z F ?_ ?_))<;>intro F
  ·refine X0 4 Z ?_;obtain rfl:=qb F;replace F:=a;exact rb h F Z
  refine X0 6 Z ?_;replace h:=h.p [2] Z;exact rK ⟨_,_,_,_,_,_,F,rfl,h⟩ Z
 refine qr Z ?_;obtain rfl:=qb F;replace F:=a;refine X0 3 Z (zcI h F (qi7 ⟨_,_,rfl,(h.oldS x)⟩) Z fun _ _ h F=>zcB h F qaE Z fun _ _ h F=>zp1 Z (qn (t:=48) F Z ?_ ?_))<;>intro F
 ·exact X0 3 Z (zcB h F (qgj (h.own 0 Z)) Z fun _ _ h F=>X0 3 Z (rb h F Z))
 exact X0 5 Z (rb h F Z)
def qeS(n:Nat)(c:qB):Option Int:=(qcX n c.Bg).bind fun a=>V (W64 (a-1))
theorem qil{c:qB}(a:Ro w c cs1){r:Int}(F:qeS n c=V r):RetV prog 317 [oV qB cs1] w r:=by
 obtain⟨_,_,_,_,_,_,rfl,b,_,_⟩:=qag a;exact zV 7 func317 Z fun h=>zSR (qw h Z Z fun _ _ h=>X1 6 0 h Z (zcI h F (qi7 ⟨_,_,rfl,(h.oldS b)⟩) Z fun _ _ h F=>X0 3 Z (ri h F Z)))
def qlt(_:Nat)(kind:Int):Option Bool:=bif (kind==4) then V true else V (kind==5)
theorem qrV{kind}  {r:Bool}(F:qlt n kind=V r):RetV prog 326 [vi kind] w r:=by
 refine zV 9 func326 Z fun h=>X0 9 Z (qn (t:=5) F Z ?_ ?_)<;>intro F
 ·exact X0 5 Z (rb h F Z)
 exact X0 7 Z (rb h F Z)
def qid(n:Nat)(d:Int)(b:Int)(c:Int):Option Bool:=(qaS n d b c).bind fun a=>V (!a)
theorem qpv{a_n l m i}(a:Ro w (V l) [.pointer i]){k}(b:Ro w (V m) [.pointer k]){r:Bool}(F:qid n a_n l m=V r):RetV prog 111 [vi a_n,.pointer i,.pointer k] w r:=by
 obtain⟨_,o,_,rfl,-,f,c⟩:=PtR.get a Z;obtain rfl:=f;obtain⟨_,p,_,rfl,-,g,d⟩:=PtR.get b Z;obtain rfl:=g;exact zV 10 func111 Z fun h=>X0 7 Z (zc 0 (c.below h.below) Z (zc 0 (d.below h.below) Z (zcB h F qaE Z fun _ _ h F=>X0 3 Z (rb h F Z))))
def qaj(s:(List Int))(a:Int)(b:Int):Nat->Int->Option (Flow Int Int)|0,_=>U|n+1,i1=>bif decide (i1<(s.length:Int)) then(idx s i1).bind fun d=>(qid n d a b).bind fun c=>bif c then V (.ret i1) else qaj s a b n (W64 (i1+1)) else V (.nxt i1)
def qa6(n:Nat)(s:(List Int))(a:Int)(b:Int):Option Int:=(qaj s a b n 0).bind fun|.ret r=>V r|.nxt _=>V (-1)
theorem qgI{s:(List Int)}{a b}(g:Ro w s cs1){y}(d:Ro w (V a) [.pointer y]){z}(f:Ro w (V b) [.pointer z]){r:Int}(F:qa6 n s a b=V r):RetV prog 164 [oV (List Int) cs1,.func (.func 111) #[] #[.pointer y,.pointer z]] w r:=by
 obtain⟨C,A,rfl,D⟩:=g;obtain⟨b1,u,_,rfl,-,p,_⟩:=PtR.get d Z;obtain rfl:=p;obtain⟨b2,v,_,rfl,-,t,_⟩:=PtR.get f Z;obtain rfl:=t;refine zV 19 func164 Z fun h=>X0 11 Z ?_;obtain⟨B,F,c⟩:=qc F;refine qm (rL (fun m e w'=>∃i1,qaj s a b m i1=V B/\e=[(0,oS C s.length A),(1,.func (.func 111) #[] #[.pointer (V ⟨b1,u,U⟩),.pointer (V ⟨b2,v,U⟩)]),(7,vi (s.length:Int)),(8,vi i1)]/\SH w w' []) n ⟨_,F,rfl,h⟩ Z ?_);rintro x _ _ ⟨i1,F,rfl,h⟩;rcases x with _|x
 ·cases F
 refine X0 5 Z (qg Z F ?_ ?_)<;>intro F
 ·refine X0 13 Z ?_;obtain⟨_,_,F,k,_,_,_,_,l,o,rfl,i⟩:=D.ix F;refine zxe l o k Z (zc 0 (i.below h.below) Z (zcB h F (qpv (h.old d) (h.old f)) Z fun _ _ h F=>qal (qg Z F ?_ ?_)))<;>intro F
  ·refine X0 5 Z ?_;obtain rfl:=qb F;replace F:=c;exact ri h F Z
  exact X0 6 Z (rK ⟨_,F,rfl,h⟩ Z)
 refine qr Z ?_;obtain rfl:=qb F;replace F:=c;exact X0 4 Z (ri h F Z)
def qbH(n:Nat)(s:(List Int))(a:Int)(b:Int):Option Bool:=(qa6 n s a b).bind fun c=>V (decide (c>=0))
theorem qf2{s:(List Int)}{a b}(f:Ro w s cs1){k}(c:Ro w (V a) [.pointer k]){l}(d:Ro w (V b) [.pointer l]){r:Bool}(F:qbH n s a b=V r):RetV prog 110 [oV (List Int) cs1,.func (.func 111) #[] #[.pointer k,.pointer l]] w r:=by
 obtain⟨_,_,rfl,p⟩:=f;obtain⟨_,m,_,rfl,-,g,_⟩:=PtR.get c Z;obtain rfl:=g;obtain⟨_,o,_,rfl,-,i,_⟩:=PtR.get d Z;obtain rfl:=i;exact zV 9 func110 Z fun h=>X0 8 Z (zcI h F (qgI ⟨_,_,rfl,(h.oldS p)⟩ (h.old c) (h.old d)) Z fun _ _ h F=>X0 3 Z (rb h F Z))
def qb6(n:Nat)(list:(List Int))(c:Int)(b:Int):Option Bool:=(qbH n list c b).bind fun a=>V (!a)
theorem qcr{list:(List Int)}{low high}(a:Ro w list cs1){r:Bool}(F:qb6 n list low high=V r):RetV prog 67 [oV (List Int) cs1,vi low,vi high] w r:=by
 obtain⟨_,_,rfl,b⟩:=a;exact zV 11 func67 Z fun h=>zSR (qw h Z Z fun _ _ h=>qw h Z Z fun _ _ h=>X0 6 Z (zcB h F (qf2 ⟨_,_,rfl,(h.oldS b)⟩ (qiw (x:=low) 1 h Z Z) (qiw (x:=high) 0 h Z Z)) Z fun _ _ h F=>X0 3 Z (rb h F Z)))
def qbB(_:Nat)(list:(List Int)):Option Int:=V (list.length:Int)
theorem qcT{list:(List Int)}(a:Ro w list cs1){r:Int}(F:qbB n list=V r):RetV prog 208 [oV (List Int) cs1] w r:=by
 obtain⟨_,_,rfl,_⟩:=a;exact zV 5 func208 Z fun h=>X0 10 Z (ri h F Z)
def qbF(list:(List Int)):Nat->Int->Option (Flow Bool Int)|0,_=>U|n+1,i1=>bif decide (i1<(list.length:Int)) then(idx list (W64 (i1-1))).bind fun a=>(idx list i1).bind fun b=>bif decide (a>=b) then V (.ret false) else qbF list n (W64 (i1+1)) else V (.nxt i1)
def qfU(n:Nat)(list:(List Int)):Option Bool:=(qbF list n 1).bind fun|.ret r=>V r|.nxt _=>V true
theorem qkz{list:(List Int)}(b:Ro w list cs1){r:Bool}(F:qfU n list=V r):RetV prog 215 [oV (List Int) cs1] w r:=by
 obtain⟨v,t,rfl,s⟩:=b;refine zV 20 func215 Z fun h=>X0 9 Z ?_;obtain⟨u,F,a⟩:=qc F;refine qm (rL (fun m e w'=>∃i1,qbF list m i1=V u/\e=[(0,oS v list.length t),(3,vi i1)]/\SH w w' []) n ⟨_,F,rfl,h⟩ Z ?_);rintro p _ _ ⟨i1,F,rfl,h⟩;rcases p with _|p
 ·cases F
 refine X0 8 Z (qg Z F ?_ ?_)<;>intro F
 ·refine X0 4 Z (rD (zd3 Z ?_));obtain⟨_,_,F,f,_,_,_,_,i,l,rfl,c⟩:=s.ix F;refine zdxe i l f Z (zdc 0 (c.below h.below) Z (zd2 Z ?_));obtain⟨_,_,F,g,_,_,_,_,k,o,rfl,d⟩:=s.ix F;refine zdxe k o g Z (zdc 0 (d.below h.below) Z (zd1 Z (dN h fun _ h=>qg Z F ?_ ?_)))<;>intro F
  ·refine X0 4 Z ?_;obtain rfl:=qb F;replace F:=a;exact rb h F Z
  exact X0 7 Z (rK ⟨_,F,rfl,h⟩ Z)
 refine qr Z ?_;obtain rfl:=qb F;replace F:=a;exact X0 4 Z (rb h F Z)
def qkC(n:Nat)(list:(List Int)):Option Bool:=(qbB n list).bind fun a=>(qaS n a 1 4).bind fun b=>bif b then(qb6 n list 0 100000).bind fun c=>bif c then(qfU n list).bind fun r4=>V r4 else V false else V false
theorem qow{list:(List Int)}(a:Ro w list cs1){r:Bool}(F:qkC n list=V r):RetV prog 344 [oV (List Int) cs1] w r:=by
 obtain⟨_,_,rfl,b⟩:=a;refine zV 14 func344 Z fun h=>X0 7 Z (zcI h F (qcT ⟨_,_,rfl,(h.oldS b)⟩) Z fun _ _ h F=>zcB h F qaE Z fun _ _ h F=>zp1 Z (qn (t:=6) F Z ?_ ?_))<;>intro F
 ·refine X0 3 Z (zcB h F (qcr ⟨_,_,rfl,(h.oldS b)⟩) Z fun _ _ h F=>zp2 Z (qn (t:=10) F Z ?_ ?_))<;>intro F
  ·exact X0 3 Z (zcB h F (qkz ⟨_,_,rfl,(h.oldS b)⟩) Z fun _ _ h F=>X0 3 Z (rb h F Z))
  exact X0 5 Z (rb h F Z)
 exact X0 9 Z (rb h F Z)
def qlg(n:Nat)(t:qv):Option Bool:=(qkC n t.Bo).bind fun a=>bif a then(qkC n t.Bk).bind fun b=>bif b then bif ((t.Bj.length:Int)==(W64 ((t.Bo.length:Int)*(t.Bk.length:Int)))) then(qb6 n t.Bj (-1000000) 1000000).bind fun c=>V c else V false else V false else V false
theorem qsa{t:qv}(a:Ro w t cs1){r:Bool}(F:qlg n t=V r):RetV prog 338 [oV qv cs1] w r:=by
 obtain⟨_,_,_,_,_,_,rfl,b,s2,c⟩:=qaH a;refine zV 29 func338 Z fun h=>zSR (qw h Z Z fun _ _ h=>X1 6 0 h Z (zcB h F (qow ⟨_,_,rfl,(h.oldS b)⟩) Z fun _ _ h F=>zp1 Z (qn (t:=6) F Z ?_ ?_)))<;>intro F
 ·refine X1 5 0 h Z (zcB h F (qow ⟨_,_,rfl,(h.oldS s2)⟩) Z fun _ _ h F=>zp2 Z (qn (t:=11) F Z ?_ ?_))<;>intro F
  ·refine X3 24 0 0 0 h Z (qn (t:=24) F Z ?_ ?_)<;>intro F
   ·exact X1 5 0 h Z (zcB h F (qcr ⟨_,_,rfl,(h.oldS c)⟩) Z fun _ _ h F=>X0 3 Z (rb h F Z))
   exact X0 6 Z (rb h F Z)
  exact X0 19 Z (rb h F Z)
 exact X0 24 Z (rb h F Z)
def qde(x:(List Int)):Nat->Int->Int->Option (Int×Int)|0,_,_=>U|n+1,i1,a=>bif decide (a<(x.length:Int)) then(idx x a).bind fun b=>qde x n (if b<i1 then b else i1) (W64 (a+1)) else V (i1,a)
def qib(n:Nat)(x:(List Int)):Option Int:=(bif decide ((x.length:Int)<1) then U else V ()).bind fun _=>(idx x 0).bind fun a=>(qde x n a 1).bind fun(i1,_)=>V i1
theorem qpn{x:(List Int)}(f:Ro w x cs1){r:Int}(F:qib n x=V r):RetV prog 339 [oV (List Int) cs1] w r:=by
 obtain⟨z,v,rfl,A⟩:=f;refine zV 25 func339 Z fun h=>X0 11 Z ?_;obtain⟨b,a,_,F,d⟩:=bindE F;refine qaU (fun e w'=>b ()=V r/\e=[(0,oS z x.length v)]/\SH w w' []) ?_ ?_
 ·refine qg Z F ?_ ?_<;>intro F
  ·refine qP ?_;cases F
  refine qcJ ?_;obtain rfl:=qb F;exact rG ⟨d,rfl,h⟩ Z
 rintro _ _ ⟨F,rfl,h⟩;subst a;refine X0 3 Z ?_;obtain⟨_,_,F,k,_,_,_,_,o,s,rfl,g⟩:=A.ix F;refine zxe o s k Z (zc 0 (g.below h.below) Z (X0 7 Z ?_));obtain⟨B,F,c⟩:=qc F;refine qm (rL (fun m e w'=>∃i1 u,qde x m i1 u=V B/\e=[(0,oS z x.length v),(3,vi i1),(4,vi u)]/\SH w w' []) n ⟨_,_,F,rfl,h⟩ Z ?_);rintro y _ _ ⟨i1,u,F,rfl,h⟩;rcases y with _|y
 ·cases F
 refine X0 8 Z (qg Z F ?_ ?_)<;>intro F
 ·refine X0 7 Z ?_;obtain⟨_,_,F,l,_,_,_,_,p,t,rfl,i⟩:=A.ix F;exact zxe p t l Z (zc 0 (i.below h.below) Z (X0 9 Z (rK ⟨_,_,F,rfl,h⟩ Z)))
 refine qr Z ?_;obtain rfl:=qb F;replace F:=c;exact X0 5 Z (ri h F Z)
def qh1(n:Nat)(t:qv)(c:Bool):Option Bool:=(qlg n t).bind fun a=>bif (!a) then V true else bif c then(qib n t.Bj).bind fun b=>V (decide (b<0)) else V false
theorem qpp{t:qv}{g}(a:Ro w t cs1){f}(b:Ro w (V g) [.pointer f]){r:Bool}(F:qh1 n t g=V r):RetV prog 337 [oV qv cs1,.pointer f] w r:=by
 obtain⟨_,_,_,_,_,_,rfl,_,_,k⟩:=qaH a;obtain⟨_,i,_,rfl,-,d,c⟩:=PtR.get b Z;obtain rfl:=d;refine zV 16 func337 Z fun h=>zSR (qw h Z Z fun _ _ h=>X1 5 0 h Z (zcB h F (qsa (h.old a)) Z fun _ _ h F=>zp2 Z (qn (t:=7) F Z ?_ ?_)))<;>intro F
 ·exact X0 10 Z (rb h F Z)
 refine X0 1 Z (zc 0 (c.below h.below) Z (X0 2 Z (qn (t:=9) F Z ?_ ?_)))<;>intro F
 ·exact X1 5 0 h Z (zcI h F (qpn ⟨_,_,rfl,(h.oldS k)⟩) Z fun _ _ h F=>X0 7 Z (rb h F Z))
 exact X0 9 Z (rb h F Z)
def qZ(s:(List qv))(a:Bool):Nat->Int->Option (Flow Int Int)|0,_=>U|n+1,i1=>bif decide (i1<(s.length:Int)) then(idx s i1).bind fun c=>(qh1 n c a).bind fun b=>bif b then V (.ret i1) else qZ s a n (W64 (i1+1)) else V (.nxt i1)
def qaK(n:Nat)(s:(List qv))(a:Bool):Option Int:=(qZ s a n 0).bind fun|.ret r=>V r|.nxt _=>V (-1)
theorem qfT{s:(List qv)}{a}(d:Ro w s cs1){u}(c:Ro w (V a) [.pointer u]){r:Int}(F:qaK n s a=V r):RetV prog 343 [oV (List qv) cs1,.func (.func 337) #[] #[.pointer u]] w r:=by
 obtain⟨y,v,rfl,z⟩:=d;obtain⟨b1,p,_,rfl,-,l,_⟩:=PtR.get c Z;obtain rfl:=l;refine zV 19 func343 Z fun h=>X0 11 Z ?_;obtain⟨x,F,b⟩:=qc F;refine qm (rL (fun m e w'=>∃i1,qZ s a m i1=V x/\e=[(0,oS y s.length v),(1,.func (.func 337) #[] #[.pointer (V ⟨b1,p,U⟩)]),(7,vi (s.length:Int)),(8,vi i1)]/\SH w w' []) n ⟨_,F,rfl,h⟩ Z ?_);rintro t _ _ ⟨i1,F,rfl,h⟩;rcases t with _|t
 ·cases F
 refine X0 5 Z (qg Z F ?_ ?_)<;>intro F
 ·refine X0 13 Z ?_;obtain⟨C,_,F,g,_,_,_,_,i,k,o,f⟩:=z.ix F;obtain⟨_,_,_,_,_,_,rfl,s2,A,B⟩:=qaH o;refine zxe i k g Z (zc 0 (f.below h.below) Z (zcB h F (qpp (qfZ C (h.oldS s2) (h.oldS A) (h.oldS B)) (h.old c)) Z fun _ _ h F=>qal (qg Z F ?_ ?_)))<;>intro F
  ·refine X0 5 Z ?_;obtain rfl:=qb F;replace F:=b;exact ri h F Z
  exact X0 6 Z (rK ⟨_,F,rfl,h⟩ Z)
 refine qr Z ?_;obtain rfl:=qb F;replace F:=b;exact X0 4 Z (ri h F Z)
def qbg(n:Nat)(s:(List qv))(a:Bool):Option Bool:=(qaK n s a).bind fun b=>V (decide (b>=0))
theorem qfg{s:(List qv)}{a}(c:Ro w s cs1){f}(b:Ro w (V a) [.pointer f]){r:Bool}(F:qbg n s a=V r):RetV prog 336 [oV (List qv) cs1,.func (.func 337) #[] #[.pointer f]] w r:=by
 obtain⟨_,_,rfl,i⟩:=c;obtain⟨_,g,_,rfl,-,d,_⟩:=PtR.get b Z;obtain rfl:=d;exact zV 9 func336 Z fun h=>X0 8 Z (zcI h F (qfT ⟨_,_,rfl,(h.oldS i)⟩ (h.old b)) Z fun _ _ h F=>X0 3 Z (rb h F Z))
def qgu(n:Nat)(list:(List qv))(b:Bool):Option Bool:=bif ((list.length:Int)==2) then(qbg n list b).bind fun a=>V (!a) else V false
theorem qjd{list:(List qv)}{positive}(a:Ro w list cs1){r:Bool}(F:qgu n list positive=V r):RetV prog 327 [oV (List qv) cs1,.bool positive] w r:=by
 obtain⟨_,_,rfl,b⟩:=a;refine zV 14 func327 Z fun h=>zSR (qw h Z Z fun _ _ h=>X0 8 Z (qn (t:=8) F Z ?_ ?_))<;>intro F
 ·exact X0 5 Z (zcB h F (qfg ⟨_,_,rfl,(h.oldS b)⟩ (qiw (x:=positive) 0 h Z Z)) Z fun _ _ h F=>X0 5 Z (rb h F Z))
 exact X0 7 Z (rb h F Z)
def qjc(_:Nat)(p:qao):Option Bool:=V p.Bt
theorem qoS{p:qao}(a:Ro w p cs1){r:Bool}(F:qjc n p=V r):RetV prog 341 [oV qao cs1] w r:=by
 obtain rfl:=qa0 a;exact zV 5 func341 Z fun h=>zSR (qw h Z Z fun _ _ h=>X1 8 0 h Z (rb h F Z))
def qaa(s:(List qao)):Nat->Int->Option (Flow Int Int)|0,_=>U|n+1,i1=>bif decide (i1<(s.length:Int)) then(idx s i1).bind fun b=>(qjc n b).bind fun a=>bif a then V (.ret i1) else qaa s n (W64 (i1+1)) else V (.nxt i1)
def qbD(n:Nat)(s:(List qao)):Option Int:=(qaa s n 0).bind fun|.ret r=>V r|.nxt _=>V (-1)
theorem qf1{s:(List qao)}(b:Ro w s cs1){r:Int}(F:qbD n s=V r):RetV prog 340 [oV (List qao) cs1,.func (.func 341) #[] #[]] w r:=by
 obtain⟨p,l,rfl,t⟩:=b;refine zV 19 func340 Z fun h=>X0 11 Z ?_;obtain⟨o,F,a⟩:=qc F;refine qm (rL (fun m e w'=>∃i1,qaa s m i1=V o/\e=[(0,oS p s.length l),(1,.func (.func 341) #[] #[]),(7,vi (s.length:Int)),(8,vi i1)]/\SH w w' []) n ⟨_,F,rfl,h⟩ Z ?_);rintro k _ _ ⟨i1,F,rfl,h⟩;rcases k with _|k
 ·cases F
 refine X0 5 Z (qg Z F ?_ ?_)<;>intro F
 ·refine X0 13 Z ?_;obtain⟨u,_,F,d,_,_,_,_,f,g,i,c⟩:=t.ix F;obtain rfl:=qa0 i;refine zxe f g d Z (zc 0 (c.below h.below) Z (zcB h F (qoS (qey u)) Z fun _ _ h F=>qal (qg Z F ?_ ?_)))<;>intro F
  ·refine X0 5 Z ?_;obtain rfl:=qb F;replace F:=a;exact ri h F Z
  exact X0 6 Z (rK ⟨_,F,rfl,h⟩ Z)
 refine qr Z ?_;obtain rfl:=qb F;replace F:=a;exact X0 4 Z (ri h F Z)
def qiL(n:Nat)(c:qB):Option Int:=(qbD n c.Bg).bind fun a=>V a
theorem qpC{c:qB}(a:Ro w c cs1){r:Int}(F:qiL n c=V r):RetV prog 328 [oV qB cs1] w r:=by
 obtain⟨_,_,_,_,_,_,rfl,b,_,_⟩:=qag a;exact zV 6 func328 Z fun h=>zSR (qw h Z Z fun _ _ h=>X1 6 0 h Z (zcI h F (qf1 ⟨_,_,rfl,(h.oldS b)⟩) Z fun _ _ h F=>X0 2 Z (ri h F Z)))
def qhs(n:Nat)(c:qB)(pin:Int):Option Bool:=(qeS n c).bind fun a=>(qaS n pin 0 (W64 (a-1))).bind fun b=>V b
theorem qkH{c:qB}{pin}(a:Ro w c cs1){r:Bool}(F:qhs n c pin=V r):RetV prog 329 [oV qB cs1,vi pin] w r:=by
 obtain⟨_,_,_,_,_,_,rfl,_,_,_⟩:=qag a;exact zV 10 func329 Z fun h=>zSR (qw h Z Z fun _ _ h=>X1 6 0 h Z (zcI h F (qil (h.old a)) Z fun _ _ h F=>zp1 Z (zcB h F qaE Z fun _ _ h F=>X0 2 Z (rb h F Z))))

def qiH(n:Nat)(b:qB)(a:qI):Option Bool:=(qlt n a.Bi).bind fun d=>bif d then(bif (a.Br==0) then bif ((a.Bf.length:Int)==0) then(qgu n a.Bp false).bind fun f=>bif f then(qiL n b).bind fun g=>bif (a.Bl==g) then bif decide (a.Bl>=0) then(qhs n b a.To).bind fun r4=>bif r4 then V (a.To != a.Bl) else V false else V false else V false else V false else V false else V false).bind fun b1=>V b1 else((qgu n a.Bp true).bind fun i=>bif (!i) then V true else(qgu n a.Bf true).bind fun k=>bif (!k) then V true else(qeS n b).bind fun l=>bif (a.To != l) then V true else(qhs n b a.Bl).bind fun m=>V (!m)).bind fun b2=>bif b2 then V false else bif (a.Bi==1) then(idx b.Bg a.Bl).bind fun o=>bif (!o.Bt) then(qaS n a.Br 1 3).bind fun h=>V h else V false else(bif (a.Bi==2) then V (a.Bi==2) else V (a.Bi==3)).bind fun c=>bif c then(idx b.Bg a.Bl).bind fun p=>bif p.Bt then V (a.Br==0) else V false else V false
theorem qpT{c:qB}{d:qI}(b:Ro w c cs1)(z:Ro w d cs2){r:Bool}(F:qiH n c d=V r):RetV prog 314 [oV qB cs1,oV qI cs2] w r:=by
 obtain⟨Y,S,p2,T,p3,k3,rfl,s1,_,_⟩:=qag b;obtain⟨p4,W,p5,X,rfl,s4,s5⟩:=qak z;refine zV 103 func314 Z fun h=>zSR (qw h Z Z fun _ f h=>qw h Z Z fun _ g h=>X1 7 0 h Z (zcB h F qrV Z fun _ _ h F=>qal (qg Z F ?_ ?_)))<;>intro F
 ·refine qad ?_;obtain⟨u,l,_,F,a⟩:=bindE F;refine qaU (fun e w'=>∃b1,u b1=V r/\e=[(4,.bool b1)]/\SH w w' []) ?_ ?_
  ·refine rD (Y1 2 0 h Z ?_);refine zd2 Z (qaV (t:=11) F Z ?_ ?_)<;>intro F
   ·refine Y1 4 0 h Z ?_;refine Y0 6 Z (qaV (t:=17) F Z ?_ ?_)<;>intro F
    ·refine Y1 4 0 h Z ?_;refine Y0 1 Z ?_;obtain⟨r2,L,F⟩:=qc F;refine qbk r2 (vsB _) (cB 327 Z) (fun _ hb=>qjd ⟨_,_,rfl,((h.ext hb).oldS s4)⟩ L) Z Z Z Z (zd2 Z (qaV (t:=22) F Z ?_ ?_))<;>intro F
     ·refine Y1 4 0 h Z ?_;refine Y1 2 1 h Z ?_;refine Y0 1 Z ?_;obtain⟨r3,M,F⟩:=qc F;refine qbk r3 (vsI _) (cB 328 Z) (fun _ hb=>qpC ((h.ext hb).old b) M) Z Z Z Z (Y0 4 Z (qaV (t:=29) F Z ?_ ?_))<;>intro F
      ·refine Y1 4 0 h Z ?_;refine Y0 4 Z (qaV (t:=34) F Z ?_ ?_)<;>intro F
       ·refine Y1 2 1 h Z ?_;refine Y1 4 0 h Z ?_;refine Y0 1 Z ?_;obtain⟨r4,N,F⟩:=qc F;refine qbk r4 (vsB _) (cB 329 Z) (fun _ hb=>qkH ((h.ext hb).old b) N) Z Z Z Z (zd2 Z (qaV (t:=40) F Z ?_ ?_))<;>intro F
        ·refine Y1 4 0 h Z ?_;refine Y1 4 0 h Z ?_;refine Y0 4 Z (dN h fun _ h=>?_);replace h:=h.p [] Z;obtain rfl:=qb F;exact rG ⟨_,a,rfl,h⟩ Z
        refine Y0 7 Z (dN h fun _ h=>?_);replace h:=h.p [] Z;obtain rfl:=qb F;exact rG ⟨_,a,rfl,h⟩ Z
       refine Y0 13 Z (dN h fun _ h=>?_);replace h:=h.p [] Z;obtain rfl:=qb F;exact rG ⟨_,a,rfl,h⟩ Z
      refine Y0 18 Z (dN h fun _ h=>?_);replace h:=h.p [] Z;obtain rfl:=qb F;exact rG ⟨_,a,rfl,h⟩ Z
     refine Y0 25 Z (dN h fun _ h=>?_);replace h:=h.p [] Z;obtain rfl:=qb F;exact rG ⟨_,a,rfl,h⟩ Z
    refine Y0 30 Z (dN h fun _ h=>?_);replace h:=h.p [] Z;obtain rfl:=qb F;exact rG ⟨_,a,rfl,h⟩ Z
   refine Y0 36 Z (dN h fun _ h=>?_);replace h:=h.p [] Z;obtain rfl:=qb F;exact rG ⟨_,a,rfl,h⟩ Z
  rintro _ _ ⟨b1,F,rfl,h⟩;subst l;exact rb h F Z
 refine zKSS ?_;obtain⟨x,o,_,F,i⟩:=bindE F;refine qaU (fun e w'=>∃b2,x b2=V r/\e=[(2,vp f),(3,vp g),(70,.bool b2)]/\SH w w' [oX g (qhR d p4 p5 W X) 238,oX f (qeH c Y p2 p3 S T k3) 251]) ?_ ?_
 ·refine rD (Y1 2 0 h Z ?_);obtain⟨r6,Q,F⟩:=qc F;refine qbk r6 (vsB _) (cB 327 Z) (fun _ hb=>qjd ⟨_,_,rfl,((h.ext hb).oldS s4)⟩ Q) Z Z Z Z (zd2 Z (qaV (t:=51) F Z ?_ ?_))<;>intro F
  ·refine Y0 19 Z (dN h fun _ h=>?_);obtain rfl:=qb F;exact rG ⟨_,i,rfl,h⟩ Z
  refine Y1 4 0 h Z ?_;refine Y0 1 Z ?_;obtain⟨r7,R,F⟩:=qc F;refine qbk r7 (vsB _) (cB 327 Z) (fun _ hb=>qjd ⟨_,_,rfl,((h.ext hb).oldS s5)⟩ R) Z Z Z Z (Y0 4 Z (qaV (t:=57) F Z ?_ ?_))<;>intro F
  ·refine Y0 13 Z (dN h fun _ h=>?_);obtain rfl:=qb F;exact rG ⟨_,i,rfl,h⟩ Z
  refine Y1 4 0 h Z ?_;refine Y1 2 1 h Z ?_;refine Y0 1 Z ?_;obtain⟨r8,p,F⟩:=qc F;refine qbk r8 (vsI _) (cB 317 Z) (fun _ hb=>qil ((h.ext hb).old b) p) Z Z Z Z (Y0 4 Z (qaV (t:=64) F Z ?_ ?_))<;>intro F
  ·refine Y0 6 Z (dN h fun _ h=>?_);obtain rfl:=qb F;exact rG ⟨_,i,rfl,h⟩ Z
  refine Y1 2 1 h Z ?_;refine Y1 4 0 h Z ?_;refine Y0 1 Z ?_;obtain⟨r9,s,F⟩:=qc F;refine qbk r9 (vsB _) (cB 329 Z) (fun _ hb=>qkH ((h.ext hb).old b) s) Z Z Z Z (Y0 3 Z (dN h fun _ h=>?_));obtain rfl:=qb F;exact rG ⟨_,i,rfl,h⟩ Z
 rintro _ _ ⟨b2,F,rfl,h⟩;subst o;refine qg Z F ?_ ?_<;>intro F
 ·exact X0 4 Z (rb h F Z)
 refine X1 13 0 h Z (qg Z F ?_ ?_)<;>intro F
 ·refine X2 6 1 0 h Z ?_;obtain⟨_,_,F,C,_,_,_,_,H,J,O,A⟩:=s1.ix F;obtain rfl:=qa0 O;refine zxe H J C Z (zp1 Z (zc 3 (A.below h.below) Z (zp2 Z (qn (t:=83) F Z ?_ ?_))))<;>intro F
  ·exact X1 5 0 h Z (zcB h F qaE Z fun _ _ h F=>X0 3 Z (rb h F Z))
  exact X0 6 Z (rb h F Z)
 refine X0 6 Z ?_;obtain⟨v,m,_,F,k⟩:=bindE F;refine qaU (fun e w'=>∃y,v y=V r/\e=[(2,vp f),(3,vp g),(88,.bool y)]/\SH w w' [oX g (qhR d p4 p5 W X) 238,oX f (qeH c Y p2 p3 S T k3) 251]) ?_ ?_
 ·refine qg Z F ?_ ?_<;>intro F
  ·refine qcJ ?_;obtain rfl:=qb F;exact rG ⟨_,k,rfl,h⟩ Z
  refine X0 4 Z ?_;obtain rfl:=qb F;exact rG ⟨_,k,rfl,h⟩ Z
 rintro _ _ ⟨y,F,rfl,h⟩;subst m;refine qg Z F ?_ ?_<;>intro F
 ·refine X2 6 1 0 h Z ?_;obtain⟨_,_,F,D,_,_,_,_,I,K,P,B⟩:=s1.ix F;obtain rfl:=qa0 P;refine zxe I K D Z (zp1 Z (zc 3 (B.below h.below) Z (zp1 Z (qn (t:=98) F Z ?_ ?_))))<;>intro F
  ·exact X1 9 0 h Z (rb h F Z)
  exact X0 6 Z (rb h F Z)
 exact X0 6 Z (rb h F Z)
def qf3(_:Nat)(b:qI)(a:qI):Option Bool:=bif (b.Bi==a.Bi) then bif (b.Bl==a.Bl) then V (b.To==a.To) else V false else V false
theorem qnr{k:qI}{g:qI}(b:Ro w k cs1){f}(c:Ro w (V g) [.pointer f]){r:Bool}(F:qf3 n k g=V r):RetV prog 316 [oV qI cs1,.pointer f] w r:=by
 obtain⟨_,_,_,_,rfl,_,_⟩:=qak b;obtain⟨_,i,_,rfl,-,d,a⟩:=PtR.get c Z;obtain⟨_,_,_,_,rfl,_,_⟩:=qak d;refine zV 23 func316 Z fun h=>zSR (qw h Z Z fun _ _ h=>X1 7 0 h Z (zc 0 (a.below h.below) Z (zp2 Z (qn (t:=9) F Z ?_ ?_))))<;>intro F
 ·refine X1 7 0 h Z (zc 1 (a.below h.below) Z (X0 4 Z (qn (t:=16) F Z ?_ ?_)))<;>intro F
  ·exact X1 7 0 h Z (zc 2 (a.below h.below) Z (X0 5 Z (rb h F Z)))
  exact X0 8 Z (rb h F Z)
 exact X0 15 Z (rb h F Z)
def qV(s:(List qI))(a:qI):Nat->Int->Option (Flow Int Int)|0,_=>U|n+1,i1=>bif decide (i1<(s.length:Int)) then(idx s i1).bind fun c=>(qf3 n c a).bind fun b=>bif b then V (.ret i1) else qV s a n (W64 (i1+1)) else V (.nxt i1)
def qbj(n:Nat)(s:(List qI))(a:qI):Option Int:=(qV s a n 0).bind fun|.ret r=>V r|.nxt _=>V (-1)
theorem qfp{s:(List qI)}{a:qI}(d:Ro w s cs1){u}(c:Ro w (V a) [.pointer u]){r:Int}(F:qbj n s a=V r):RetV prog 330 [oV (List qI) cs1,.func (.func 316) #[] #[.pointer u]] w r:=by
 obtain⟨y,v,rfl,z⟩:=d;obtain⟨b1,p,_,rfl,-,l,_⟩:=PtR.get c Z;obtain⟨_,_,_,_,rfl,_,_⟩:=qak l;refine zV 19 func330 Z fun h=>X0 11 Z ?_;obtain⟨x,F,b⟩:=qc F;refine qm (rL (fun m e w'=>∃i1,qV s a m i1=V x/\e=[(0,oS y s.length v),(1,.func (.func 316) #[] #[.pointer (V ⟨b1,p,U⟩)]),(7,vi (s.length:Int)),(8,vi i1)]/\SH w w' []) n ⟨_,F,rfl,h⟩ Z ?_);rintro t _ _ ⟨i1,F,rfl,h⟩;rcases t with _|t
 ·cases F
 refine X0 5 Z (qg Z F ?_ ?_)<;>intro F
 ·refine X0 13 Z ?_;obtain⟨C,_,F,g,_,_,_,_,i,k,o,f⟩:=z.ix F;obtain⟨_,_,_,_,rfl,A,B⟩:=qak o;refine zxe i k g Z (zc 0 (f.below h.below) Z (zcB h F (qnr (qgt C (h.oldS A) (h.oldS B)) (h.old c)) Z fun _ _ h F=>qal (qg Z F ?_ ?_)))<;>intro F
  ·refine X0 5 Z ?_;obtain rfl:=qb F;replace F:=b;exact ri h F Z
  exact X0 6 Z (rK ⟨_,F,rfl,h⟩ Z)
 refine qr Z ?_;obtain rfl:=qb F;replace F:=b;exact X0 4 Z (ri h F Z)
def qaC(n:Nat)(s:(List qI))(a:qI):Option Bool:=(qbj n s a).bind fun b=>V (decide (b>=0))
theorem qe9{s:(List qI)}{a:qI}(c:Ro w s cs1){f}(b:Ro w (V a) [.pointer f]){r:Bool}(F:qaC n s a=V r):RetV prog 315 [oV (List qI) cs1,.func (.func 316) #[] #[.pointer f]] w r:=by
 obtain⟨_,_,rfl,i⟩:=c;obtain⟨_,g,_,rfl,-,d,_⟩:=PtR.get b Z;obtain⟨_,_,_,_,rfl,_,_⟩:=qak d;exact zV 9 func315 Z fun h=>X0 8 Z (zcI h F (qfp ⟨_,_,rfl,(h.oldS i)⟩ (h.old b)) Z fun _ _ h F=>X0 3 Z (rb h F Z))
def qcP(c:qB):Nat->Int->Option (Flow Bool Int)|0,_=>U|n+1,i1=>bif decide (i1<(c.Ba.length:Int)) then(idx c.Ba i1).bind fun a=>(qiH n c a).bind fun b=>bif (!b) then V (.ret false) else(subS c.Ba 0 i1).bind fun x1=>(qaC n x1 a).bind fun d=>bif d then V (.ret false) else qcP c n (W64 (i1+1)) else V (.nxt i1)
def qht(n:Nat)(c:qB):Option Bool:=(qcP c n 0).bind fun|.ret r=>V r|.nxt _=>V (decide ((c.Ba.length:Int)<=8))
theorem qoH{c:qB}(d:Ro w c cs1){r:Bool}(F:qht n c=V r):RetV prog 301 [oV qB cs1] w r:=by
 obtain⟨J,H,A,y,K,k3,rfl,_,s2,_⟩:=qag d;refine zV 30 func301 Z fun h=>zSR (qw h Z Z fun _ b h=>X1 10 0 h Z ?_);obtain⟨I,F,a⟩:=qc F;refine qm (rL (fun m e w'=>∃i1,qcP c m i1=V I/\e=[(1,vp b),(6,oS A c.Ba.length y),(7,vi (c.Ba.length:Int)),(8,vi i1)]/\SH w w' [oX b (qeH c J A K H y k3) 251]) n ⟨_,F,rfl,h⟩ Z ?_);rintro z _ _ ⟨i1,F,rfl,h⟩;rcases z with _|z
 ·cases F
 refine X0 5 Z (qg Z F ?_ ?_)<;>intro F
 ·refine X0 6 Z ?_;obtain⟨v,_,F,l,_,_,_,_,p,s,u,k⟩:=s2.ix F;obtain⟨_,_,_,_,rfl,B,C⟩:=qak u;refine zxe p s l Z (zc 0 (k.below h.below) Z (qp qa h Z Z Z fun _ _ h=>zp1 Z (zs 0 h Z fun _ h=>X2 5 1 0 h Z (zcB h F (qpT (h.old d) (qgt v (h.oldS B) (h.oldS C))) Z fun _ _ h F=>zp2 Z (qn (t:=17) F Z ?_ ?_)))))<;>intro F
  ·refine X0 8 Z (qct Z Z (X0 4 Z ?_));obtain rfl:=qb F;replace F:=a;exact rb h F Z
  refine X1 7 1 h Z ?_;obtain⟨_,i,F⟩:=qc F;obtain⟨_,_,g,f,o,D⟩:=qpM (h.oldS s2) i;refine r_v (qlL qa Z Z Z (qpZ D Z) g f o Z Z Z Z) Z ?_;have L:=qs3 s2 i g f;refine X0 3 Z (zcB h F (qe9 ⟨_,_,rfl,(h.oldS L)⟩ (qiw (x:=v) 0 h Z (qgt v (h.oldS B) (h.oldS C)))) Z fun _ _ h F=>X0 2 Z (qg Z F ?_ ?_))<;>intro F
  ·refine X0 4 Z ?_;obtain rfl:=qb F;replace F:=a;exact rb h F Z
  refine X0 6 Z ?_;replace h:=h.p [1] Z;exact rK ⟨_,F,rfl,h⟩ Z
 refine qr Z ?_;obtain rfl:=qb F;replace F:=a;exact X1 8 0 h Z (rb h F Z)
def qkW(_:Nat)(a:qI)(b:Int):Option Bool:=V (a.Bi==b)
theorem qpX{a:qI}{i}(b:Ro w a cs1){g}(c:Ro w (V i) [.pointer g]){r:Bool}(F:qkW n a i=V r):RetV prog 331 [oV qI cs1,.pointer g] w r:=by
 obtain⟨_,_,_,_,rfl,_,_⟩:=qak b;obtain⟨_,k,_,rfl,-,f,d⟩:=PtR.get c Z;obtain rfl:=f;exact zV 8 func331 Z fun h=>zSR (qw h Z Z fun _ _ h=>X1 6 0 h Z (zc 0 (d.below h.below) Z (X0 3 Z (rb h F Z))))
def qaf(s:(List qI))(a:Int):Nat->Int->Option (Flow Int Int)|0,_=>U|n+1,i1=>bif decide (i1<(s.length:Int)) then(idx s i1).bind fun c=>(qkW n c a).bind fun b=>bif b then V (.ret i1) else qaf s a n (W64 (i1+1)) else V (.nxt i1)
def qbL(n:Nat)(s:(List qI))(a:Int):Option Int:=(qaf s a n 0).bind fun|.ret r=>V r|.nxt _=>V (-1)
theorem qgo{s:(List qI)}{a}(d:Ro w s cs1){u}(c:Ro w (V a) [.pointer u]){r:Int}(F:qbL n s a=V r):RetV prog 330 [oV (List qI) cs1,.func (.func 331) #[] #[.pointer u]] w r:=by
 obtain⟨y,v,rfl,z⟩:=d;obtain⟨b1,p,_,rfl,-,l,_⟩:=PtR.get c Z;obtain rfl:=l;refine zV 19 func330 Z fun h=>X0 11 Z ?_;obtain⟨x,F,b⟩:=qc F;refine qm (rL (fun m e w'=>∃i1,qaf s a m i1=V x/\e=[(0,oS y s.length v),(1,.func (.func 331) #[] #[.pointer (V ⟨b1,p,U⟩)]),(7,vi (s.length:Int)),(8,vi i1)]/\SH w w' []) n ⟨_,F,rfl,h⟩ Z ?_);rintro t _ _ ⟨i1,F,rfl,h⟩;rcases t with _|t
 ·cases F
 refine X0 5 Z (qg Z F ?_ ?_)<;>intro F
 ·refine X0 13 Z ?_;obtain⟨B,_,F,g,_,_,_,_,i,k,o,f⟩:=z.ix F;obtain⟨_,_,_,_,rfl,s2,A⟩:=qak o;refine zxe i k g Z (zc 0 (f.below h.below) Z (zcB h F (qpX (qgt B (h.oldS s2) (h.oldS A)) (h.old c)) Z fun _ _ h F=>qal (qg Z F ?_ ?_)))<;>intro F
  ·refine X0 5 Z ?_;obtain rfl:=qb F;replace F:=b;exact ri h F Z
  exact X0 6 Z (rK ⟨_,F,rfl,h⟩ Z)
 refine qr Z ?_;obtain rfl:=qb F;replace F:=b;exact X0 4 Z (ri h F Z)
def qbv(n:Nat)(s:(List qI))(a:Int):Option Bool:=(qbL n s a).bind fun b=>V (decide (b>=0))
theorem qfL{s:(List qI)}{a}(c:Ro w s cs1){f}(b:Ro w (V a) [.pointer f]){r:Bool}(F:qbv n s a=V r):RetV prog 315 [oV (List qI) cs1,.func (.func 331) #[] #[.pointer f]] w r:=by
 obtain⟨_,_,rfl,i⟩:=c;obtain⟨_,g,_,rfl,-,d,_⟩:=PtR.get b Z;obtain rfl:=d;exact zV 9 func315 Z fun h=>X0 8 Z (zcI h F (qgo ⟨_,_,rfl,(h.oldS i)⟩ (h.old b)) Z fun _ _ h F=>X0 3 Z (rb h F Z))
def qdQ(n:Nat)(c:qB)(kind:Int):Option Bool:=(qbv n c.Ba kind).bind fun a=>V a
theorem qeW{c:qB}{kind}(a:Ro w c cs1){r:Bool}(F:qdQ n c kind=V r):RetV prog 318 [oV qB cs1,vi kind] w r:=by
 obtain⟨_,_,_,_,_,_,rfl,_,s2,_⟩:=qag a;exact zV 9 func318 Z fun h=>zSR (qw h Z Z fun _ _ h=>qw h Z Z fun _ _ h=>X1 7 1 h Z (zcB h F (qfL ⟨_,_,rfl,(h.oldS s2)⟩ (qiw (x:=kind) 0 h Z Z)) Z fun _ _ h F=>X0 2 Z (rb h F Z)))
def qbl(a:qB):Nat->Int->Int->Option (Int×Int)|0,_,_=>U|n+1,i1,b=>bif decide (b<(a.Bg.length:Int)) then(idx a.Bg b).bind fun c=>bif c.Bt then qbl a n (W64 (i1+1)) (W64 (b+1)) else qbl a n i1 (W64 (b+1)) else V (i1,b)
def qgD(n:Nat)(a:qB):Option Bool:=(qbl a n 0 0).bind fun(i1,_)=>bif (a.Bi==1) then bif (i1==0) then(qeS n a).bind fun b=>(shlS 1 b).bind fun k=>bif ((a.Bq.length:Int)==k) then(qb6 n a.Bq 0 1).bind fun c=>V c else V false else V false else bif (a.Bi==2) then bif (i1==1) then bif ((a.Bq.length:Int)==0) then(qdQ n a 1).bind fun d=>bif (!d) then(qdQ n a 2).bind fun r4=>(qdQ n a 3).bind fun f=>V (!(r4==f)) else V false else V false else V false else bif (a.Bi==3) then bif (i1==1) then bif ((a.Bq.length:Int)==0) then(qdQ n a 1).bind fun g=>bif g then(qdQ n a 2).bind fun h=>bif h then(qdQ n a 3).bind fun i=>V (!i) else V false else V false else V false else V false else V false
theorem qol{b:qB}(a:Ro w b cs1){r:Bool}(F:qgD n b=V r):RetV prog 302 [oV qB cs1] w r:=by
 obtain⟨B,z,I,D,J,k3,rfl,O,_,P⟩:=qag a;refine zV 83 func302 Z fun h=>zSR (qw h Z Z fun _ d h=>X1 14 0 h Z ?_);obtain⟨H,F,f⟩:=qc F;refine qm (rL (fun m e w'=>∃i1 y,qbl b m i1 y=V H/\e=[(1,vp d),(3,vi i1),(7,oS B b.Bg.length z),(8,vi (b.Bg.length:Int)),(9,vi y)]/\SH w w' [oX d (qeH b B I J z D k3) 251]) n ⟨_,_,F,rfl,h⟩ Z ?_);rintro A _ _ ⟨i1,y,F,rfl,h⟩;rcases A with _|A
 ·cases F
 refine X0 5 Z (qg Z F ?_ ?_)<;>intro F
 ·refine zKSBSR ?_;obtain⟨_,_,F,i,_,_,_,_,k,l,o,g⟩:=O.ix F;obtain rfl:=qa0 o;refine zxe k l i Z (zc 0 (g.below h.below) Z (qp qa h Z Z Z fun _ _ h=>zs 0 h Z fun _ h=>X1 6 0 h Z (qg Z F ?_ ?_)))<;>intro F
  ·refine X0 10 Z ?_;replace h:=h.p [1] Z;exact rK ⟨_,_,F,rfl,h⟩ Z
  refine X0 6 Z ?_;replace h:=h.p [1] Z;exact rK ⟨_,_,F,rfl,h⟩ Z
 refine qr Z ?_;obtain rfl:=qb F;replace F:=f;refine X1 12 0 h Z (qg Z F ?_ ?_)<;>intro F
 ·refine qad (rD (zd3 Z (qaV (t:=24) F Z ?_ ?_)))<;>intro F
  ·refine Y1 4 0 h Z ?_;refine Y1 4 0 h Z ?_;refine Y0 1 Z ?_;obtain⟨K,p,F⟩:=qc F;refine qbk K (vsI _) (cB 317 Z) (fun _ Q=>qil ((h.ext Q).old a) p) Z Z Z Z (Y0 1 Z ?_);obtain⟨_,c,F⟩:=qc F;obtain⟨C,c⟩:=qum c;refine d_v (fun _ Q=>qBK C Z Z) Z ?_;rw[c];refine Y0 4 Z (qaV (t:=33) F Z ?_ ?_)<;>intro F
   ·refine Y1 4 0 h Z ?_;refine Y0 1 Z ?_;obtain⟨L,s,F⟩:=qc F;exact qbk L (vsB _) (cB 67 Z) (fun _ Q=>qcr ⟨_,_,rfl,((h.ext Q).oldS P)⟩ s) Z Z Z Z (zd2 Z (dN h fun _ h=>rb h F Z))
   exact Y0 5 Z (dN h fun _ h=>rb h F Z)
  exact Y0 14 Z (dN h fun _ h=>rb h F Z)
 refine X0 5 Z (qg Z F ?_ ?_)<;>intro F
 ·refine qad (rD (zd3 Z (qaV (t:=42) F Z ?_ ?_)))<;>intro F
  ·refine Y1 4 0 h Z ?_;refine Y0 6 Z (qaV (t:=48) F Z ?_ ?_)<;>intro F
   ·refine Y1 2 0 h Z ?_;refine Y0 1 Z ?_;obtain⟨M,u,F⟩:=qc F;refine qbk M (vsB _) (cB 318 Z) (fun _ Q=>qeW ((h.ext Q).old a) u) Z Z Z Z (Y0 4 Z (qaV (t:=53) F Z ?_ ?_))<;>intro F
    ·refine Y1 2 0 h Z ?_;refine Y0 1 Z ?_;obtain⟨r4,v,F⟩:=qc F;refine qbk r4 (vsB _) (cB 318 Z) (fun _ Q=>qeW ((h.ext Q).old a) v) Z Z Z Z (Y1 2 0 h Z ?_);refine Y0 1 Z ?_;obtain⟨N,x,F⟩:=qc F;exact qbk N (vsB _) (cB 318 Z) (fun _ Q=>qeW ((h.ext Q).old a) x) Z Z Z Z (Y0 4 Z (dN h fun _ h=>rb h F Z))
    exact Y0 7 Z (dN h fun _ h=>rb h F Z)
   exact Y0 12 Z (dN h fun _ h=>rb h F Z)
  exact Y0 18 Z (dN h fun _ h=>rb h F Z)
 refine X0 5 Z (qg Z F ?_ ?_)<;>intro F
 ·refine X0 5 Z (qn (t:=64) F Z ?_ ?_)<;>intro F
  ·refine X1 10 0 h Z (qn (t:=70) F Z ?_ ?_)<;>intro F
   ·refine X1 3 0 h Z (zcB h F (qeW (h.old a)) Z fun _ _ h F=>zp2 Z (qn (t:=74) F Z ?_ ?_))<;>intro F
    ·refine X1 3 0 h Z (zcB h F (qeW (h.old a)) Z fun _ _ h F=>zp2 Z (qn (t:=78) F Z ?_ ?_))<;>intro F
     ·exact X1 3 0 h Z (zcB h F (qeW (h.old a)) Z fun _ _ h F=>X0 5 Z (rb h F Z))
     exact X0 6 Z (rb h F Z)
    exact X0 10 Z (rb h F Z)
   exact X0 14 Z (rb h F Z)
  exact X0 20 Z (rb h F Z)
 exact X0 6 Z (rb h F Z)
def qmC(n:Nat)(c:qB):Option Bool:=(qi6 n c.Bc).bind fun a=>bif a then(qle n c.Bg).bind fun b=>bif b then(qht n c).bind fun d=>bif d then(qaS n c.Cc 0 100000).bind fun r4=>bif r4 then(qaS n c.Bw 0 100000).bind fun f=>bif f then(qgD n c).bind fun g=>V g else V false else V false else V false else V false else V false
theorem qsP{c:qB}(a:Ro w c cs1){r:Bool}(F:qmC n c=V r):RetV prog 279 [oV qB cs1] w r:=by
 obtain⟨_,_,_,_,_,_,rfl,b,_,_⟩:=qag a;refine zV 29 func279 Z fun h=>zSR (qw h Z Z fun _ _ h=>X1 6 0 h Z (zcB h F qlZ Z fun _ _ h F=>zp1 Z (qn (t:=6) F Z ?_ ?_)))<;>intro F
 ·refine X1 5 0 h Z (zcB h F (qrQ ⟨_,_,rfl,(h.oldS b)⟩) Z fun _ _ h F=>zp2 Z (qn (t:=11) F Z ?_ ?_))<;>intro F
  ·refine X1 3 0 h Z (zcB h F (qoH (h.old a)) Z fun _ _ h F=>zp2 Z (qn (t:=15) F Z ?_ ?_))<;>intro F
   ·refine X1 5 0 h Z (zcB h F qaE Z fun _ _ h F=>zp2 Z (qn (t:=20) F Z ?_ ?_))<;>intro F
    ·refine X1 5 0 h Z (zcB h F qaE Z fun _ _ h F=>zp2 Z (qn (t:=25) F Z ?_ ?_))<;>intro F
     ·exact X1 3 0 h Z (zcB h F (qol (h.old a)) Z fun _ _ h F=>X0 3 Z (rb h F Z))
     exact X0 5 Z (rb h F Z)
    exact X0 10 Z (rb h F Z)
   exact X0 15 Z (rb h F Z)
  exact X0 19 Z (rb h F Z)
 exact X0 24 Z (rb h F Z)
def qdb(l:qq):Nat->(List ByteArray)->Int->Option (Flow Bool ((List ByteArray)×Int))|0,_,_=>U|n+1,x1,i1=>bif decide (i1<(l.As.length:Int)) then(idx l.As i1).bind fun a=>(qmC n a).bind fun b=>bif (!b) then V (.ret false) else(appS x1 ([a.Bc]:List ByteArray)).bind fun c=>qdb l n c (W64 (i1+1)) else V (.nxt (x1,i1))
def qjz(n:Nat)(l:qq):Option Bool:=(qdb l n ([]:List ByteArray) 0).bind fun|.ret r=>V r|.nxt (x1,_)=>bif decide ((l.As.length:Int)<=8) then(qeM n x1).bind fun a=>V a else V false
theorem qqF{l:qq}(f:Ro w l cs1){r:Bool}(F:qjz n l=V r):RetV prog 250 [oV qq cs1] w r:=by
 obtain⟨y,v,rfl,C⟩:=qbP f;refine zV 30 func250 Z fun h=>zSR (qw h Z Z fun _ c h=>X1 14 0 h Z ?_);replace h:=h.nil (α:=ByteArray);obtain⟨B,F,d⟩:=qc F;refine qm (rL (fun m e w'=>∃S1 u b s x1 i1,qdb l m x1 i1=V B/\e=[(1,vp c),(3,oS u b s),(7,oS y l.As.length v),(8,vi (l.As.length:Int)),(9,vi i1)]/\SH w w' [oW S1 (x1:List ByteArray) [oS u b s],oX c [oS y l.As.length v] 46]) n ⟨_,_,_,_,_,_,F,rfl,h⟩ Z ?_);rintro x _ _ ⟨S1,u,b,s,x1,i1,F,rfl,h⟩;obtain rfl:=(h.sl 0 Z).2;rcases x with _|x
 ·cases F
 refine X0 5 Z (qg Z F ?_ ?_)<;>intro F
 ·refine zKSBSR ?_;obtain⟨z,_,F,i,_,_,_,_,k,o,p,g⟩:=C.ix F;obtain⟨_,_,_,_,_,_,rfl,s2,D,H⟩:=qag p;refine zxe k o i Z (zc 0 (g.below h.below) Z (qp qa h Z Z Z fun _ _ h=>zs 0 h Z fun _ h=>X1 5 0 h Z (zcB h F (qsP (qlu z (h.oldS s2) (h.oldS D) (h.oldS H))) Z fun _ _ h F=>X0 2 Z (qg Z F ?_ ?_))))<;>intro F
  ·refine X0 4 Z ?_;obtain rfl:=qb F;replace F:=d;exact rb h F Z
  refine X1 5 0 h Z (qG qa [.tmp 18] _ ([z.Bc]:List ByteArray) h Z Z Z Z Z Z Z Z Z ⟨rfl,G⟩ Z fun _ _ _ h=>?_);obtain⟨_,a,F⟩:=qc F;obtain⟨A,a⟩:=qN a;refine qbY qa 2 h Z (h.sl 0 Z).1 (h.sl 0 Z).2 Z Z Z Z Z Z Z Z Z A a Z fun _ _ _ _ h=>X0 7 Z ?_;replace h:=h.p [2,3] Z;exact rK ⟨_,_,_,_,_,_,F,rfl,h⟩ Z
 refine qr Z ?_;obtain rfl:=qb F;replace F:=d;refine X1 7 1 h Z (qn (t:=26) F Z ?_ ?_)<;>intro F
 ·exact X0 3 Z (zcB h F (qgj (h.own 0 Z)) Z fun _ _ h F=>X0 3 Z (rb h F Z))
 exact X0 5 Z (rb h F Z)
def qbp(d:qd):Nat->(List ByteArray)->Int->Option ((List ByteArray)×Int)|0,_,_=>U|n+1,x3,a=>bif decide (a<(d.Aj.length:Int)) then(idx d.Aj a).bind fun c=>(appS x3 ([c.Bc]:List ByteArray)).bind fun b=>qbp d n b (W64 (a+1)) else V (x3,a)
def qby(d:qd):Nat->(List ByteArray)->Int->Option ((List ByteArray)×Int)|0,_,_=>U|n+1,x1,i1=>bif decide (i1<(d.Ab.length:Int)) then(idx d.Ab i1).bind fun b=>(appS x1 ([b.Bc]:List ByteArray)).bind fun a=>qby d n a (W64 (i1+1)) else V (x1,i1)
def qfS(n:Nat)(d:qd):Option Bool:=(qby d n ([]:List ByteArray) 0).bind fun(x1,_)=>(qbp d n ([]:List ByteArray) 0).bind fun(x3,_)=>bif decide ((x1.length:Int)<=14) then bif decide ((d.Am.length:Int)<=30) then bif decide ((x3.length:Int)<=8) then(qeM n x1).bind fun a=>bif a then(qeM n d.Am).bind fun b=>bif b then(qeM n x3).bind fun c=>V c else V false else V false else V false else V false else V false
theorem qm4{d:qd}(p:Ro w d cs1){r:Bool}(F:qfS n d=V r):RetV prog 251 [oV qd cs1] w r:=by
 obtain⟨K,I,R,O,L,k3,rfl,Y,s2,s3⟩:=qaD p;refine zV 62 func251 Z fun h=>zSR (qw h Z Z fun _ a h=>X1 15 0 h Z ?_);replace h:=h.nil (α:=ByteArray);obtain⟨W,F,l⟩:=qc F;refine qm (rL (fun m e w'=>∃S1 k f i x1 i1,qby d m x1 i1=V W/\e=[(1,vp a),(3,oS k f i),(4,oS U 0 0),(10,oS K d.Ab.length I),(11,vi (d.Ab.length:Int)),(12,vi i1)]/\SH w w' [oW S1 (x1:List ByteArray) [oS k f i],oX a (qaT d K R L I O k3) 50]) n ⟨_,_,_,_,_,_,F,rfl,h⟩ Z ?_);rintro P _ _ ⟨S1,k,f,i,x1,i1,F,rfl,h⟩;obtain rfl:=(h.sl 0 Z).2;rcases P with _|P
 ·cases F
 refine X0 5 Z (qg Z F ?_ ?_)<;>intro F
 ·refine zKSBSR ?_;obtain⟨y1,_,F,v,_,_,_,_,y,A,C,s⟩:=Y.ix F;obtain⟨_,_,rfl,_⟩:=qU C;refine zxe y A v Z (zc 0 (s.below h.below) Z (qp qa h Z Z Z fun _ _ h=>zs 0 h Z fun _ h=>X1 5 0 h Z (qG qa [.tmp 18] _ ([y1.Bc]:List ByteArray) h Z Z Z Z Z Z Z Z Z ⟨rfl,G⟩ Z fun _ _ _ h=>?_)));obtain⟨_,b,F⟩:=qc F;obtain⟨S,b⟩:=qN b;refine qbY qa 2 h Z (h.sl 0 Z).1 (h.sl 0 Z).2 Z Z Z Z Z Z Z Z Z S b Z fun _ _ _ _ h=>X0 7 Z ?_;replace h:=h.p [2,3] Z;exact rK ⟨_,_,_,_,_,_,F,rfl,h⟩ Z
 refine qr Z ?_;obtain rfl:=qb F;replace F:=l;refine X1 8 1 h Z ?_;replace h:=h.nil (α:=ByteArray);obtain⟨X,F,o⟩:=qc F;refine qm (rL (fun m e w'=>∃N M g J x3 H,qbp d m x3 H=V X/\e=[(1,vp a),(3,oS k x1.length i),(4,oS M g J),(23,oS L d.Aj.length k3),(24,vi (d.Aj.length:Int)),(25,vi H)]/\SH w w' [oW N (x3:List ByteArray) [oS M g J],oW S1 (x1:List ByteArray) [oS k x1.length i],oX a (qaT d K R L I O k3) 50]) n ⟨_,_,_,_,_,_,F,rfl,h⟩ Z ?_);rintro Q _ _ ⟨N,M,g,J,x3,H,F,rfl,h⟩;obtain rfl:=(h.sl 0 Z).2;rcases Q with _|Q
 ·cases F
 refine X0 5 Z (qg Z F ?_ ?_)<;>intro F
 ·refine zKSBSR ?_;obtain⟨y2,_,F,x,_,_,_,_,z,B,D,u⟩:=s3.ix F;obtain rfl:=qaY D;refine zxe z B x Z (zc 0 (u.below h.below) Z (qp qa h Z Z Z fun _ _ h=>zs 0 h Z fun _ h=>X1 5 0 h Z (qG qa [.tmp 31] _ ([y2.Bc]:List ByteArray) h Z Z Z Z Z Z Z Z Z ⟨rfl,G⟩ Z fun _ _ _ h=>?_)));obtain⟨_,c,F⟩:=qc F;obtain⟨T,c⟩:=qN c;refine qbY qa 2 h Z (h.sl 0 Z).1 (h.sl 0 Z).2 Z Z Z Z Z Z Z Z Z T c Z fun _ _ _ _ h=>X0 7 Z ?_;replace h:=h.p [2,3,4] Z;exact rK ⟨_,_,_,_,_,_,F,rfl,h⟩ Z
 refine qr Z ?_;obtain rfl:=qb F;replace F:=o;refine X0 6 Z (qn (t:=38) F Z ?_ ?_)<;>intro F
 ·refine X1 10 2 h Z (qn (t:=44) F Z ?_ ?_)<;>intro F
  ·refine X0 8 Z (qn (t:=49) F Z ?_ ?_)<;>intro F
   ·refine X0 3 Z (zcB h F (qgj (h.own 1 Z)) Z fun _ _ h F=>zp2 Z (qn (t:=53) F Z ?_ ?_))<;>intro F
    ·refine X1 5 2 h Z (zcB h F (qgj ⟨_,_,rfl,(h.oldS s2)⟩) Z fun _ _ h F=>zp2 Z (qn (t:=58) F Z ?_ ?_))<;>intro F
     ·exact X0 3 Z (zcB h F (qgj (h.own 0 Z)) Z fun _ _ h F=>X0 3 Z (rb h F Z))
     exact X0 5 Z (rb h F Z)
    exact X0 10 Z (rb h F Z)
   exact X0 14 Z (rb h F Z)
  exact X0 19 Z (rb h F Z)
 exact X0 25 Z (rb h F Z)
def qhj(_:Nat)(list:(List qB)):Option Int:=V (list.length:Int)
theorem qmI{list:(List qB)}(a:Ro w list cs1){r:Int}(F:qhj n list=V r):RetV prog 281 [oV (List qB) cs1] w r:=by
 obtain⟨_,_,rfl,_⟩:=a;exact zV 5 func281 Z fun h=>X0 10 Z (ri h F Z)
def qi0(_:Nat)(list:(List ByteArray)):Option Int:=V (list.length:Int)
theorem qof{list:(List ByteArray)}(a:Ro w list cs1){r:Int}(F:qi0 n list=V r):RetV prog 283 [oV (List ByteArray) cs1] w r:=by
 obtain⟨_,_,rfl,_⟩:=a;exact zV 5 func283 Z fun h=>X0 10 Z (ri h F Z)
def qef(n:Nat)(d:qd)(net:Int):Option Bool:=(qi0 n d.Am).bind fun a=>(qaS n net 0 (W64 (a-1))).bind fun b=>V b
theorem qhA{d:qd}{net}(a:Ro w d cs1){r:Bool}(F:qef n d net=V r):RetV prog 253 [oV qd cs1,vi net] w r:=by
 obtain⟨_,_,_,_,_,_,rfl,_,s2,_⟩:=qaD a;exact zV 11 func253 Z fun h=>zSR (qw h Z Z fun _ _ h=>X1 7 0 h Z (zcI h F (qof ⟨_,_,rfl,(h.oldS s2)⟩) Z fun _ _ h F=>zp1 Z (zcB h F qaE Z fun _ _ h F=>X0 2 Z (rb h F Z))))
def qdV(n:Nat)(net:Int)(b:qd):Option Bool:=(qef n b net).bind fun a=>V (!a)
theorem qk8{net}{d:qd}{f}(a:Ro w (V d) [.pointer f]){r:Bool}(F:qdV n net d=V r):RetV prog 282 [vi net,.pointer f] w r:=by
 obtain⟨_,g,_,rfl,-,c,b⟩:=PtR.get a Z;obtain⟨_,_,_,_,_,_,rfl,i,s2,k⟩:=qaD c;exact zV 8 func282 Z fun h=>X0 6 Z (zc 0 (b.below h.below) Z (zp1 Z (zcB h F (qhA (qaz d (h.oldS i) (h.oldS s2) (h.oldS k))) Z fun _ _ h F=>X0 3 Z (rb h F Z))))
def qO(s:(List Int))(a:qd):Nat->Int->Option (Flow Int Int)|0,_=>U|n+1,i1=>bif decide (i1<(s.length:Int)) then(idx s i1).bind fun c=>(qdV n c a).bind fun b=>bif b then V (.ret i1) else qO s a n (W64 (i1+1)) else V (.nxt i1)
def qbe(n:Nat)(s:(List Int))(a:qd):Option Int:=(qO s a n 0).bind fun|.ret r=>V r|.nxt _=>V (-1)
theorem qfh{s:(List Int)}{a:qd}(d:Ro w s cs1){t}(c:Ro w (V a) [.pointer t]){r:Int}(F:qbe n s a=V r):RetV prog 164 [oV (List Int) cs1,.func (.func 282) #[] #[.pointer t]] w r:=by
 obtain⟨x,u,rfl,y⟩:=d;obtain⟨b1,o,_,rfl,-,l,_⟩:=PtR.get c Z;obtain⟨_,_,_,_,_,_,rfl,_,_,_⟩:=qaD l;refine zV 19 func164 Z fun h=>X0 11 Z ?_;obtain⟨v,F,b⟩:=qc F;refine qm (rL (fun m e w'=>∃i1,qO s a m i1=V v/\e=[(0,oS x s.length u),(1,.func (.func 282) #[] #[.pointer (V ⟨b1,o,U⟩)]),(7,vi (s.length:Int)),(8,vi i1)]/\SH w w' []) n ⟨_,F,rfl,h⟩ Z ?_);rintro p _ _ ⟨i1,F,rfl,h⟩;rcases p with _|p
 ·cases F
 refine X0 5 Z (qg Z F ?_ ?_)<;>intro F
 ·refine X0 13 Z ?_;obtain⟨_,_,F,g,_,_,_,_,i,k,rfl,f⟩:=y.ix F;refine zxe i k g Z (zc 0 (f.below h.below) Z (zcB h F (qk8 (h.old c)) Z fun _ _ h F=>qal (qg Z F ?_ ?_)))<;>intro F
  ·refine X0 5 Z ?_;obtain rfl:=qb F;replace F:=b;exact ri h F Z
  exact X0 6 Z (rK ⟨_,F,rfl,h⟩ Z)
 refine qr Z ?_;obtain rfl:=qb F;replace F:=b;exact X0 4 Z (ri h F Z)
def qaW(n:Nat)(s:(List Int))(a:qd):Option Bool:=(qbe n s a).bind fun b=>V (decide (b>=0))
theorem qex{s:(List Int)}{a:qd}(c:Ro w s cs1){f}(b:Ro w (V a) [.pointer f]){r:Bool}(F:qaW n s a=V r):RetV prog 110 [oV (List Int) cs1,.func (.func 282) #[] #[.pointer f]] w r:=by
 obtain⟨_,_,rfl,i⟩:=c;obtain⟨_,g,_,rfl,-,d,_⟩:=PtR.get b Z;obtain⟨_,_,_,_,_,_,rfl,_,_,_⟩:=qaD d;exact zV 9 func110 Z fun h=>X0 8 Z (zcI h F (qfh ⟨_,_,rfl,(h.oldS i)⟩ (h.old b)) Z fun _ _ h F=>X0 3 Z (rb h F Z))
def qeC(n:Nat)(d:qd)(l:qq)(x:ql):Option Bool:=(qhj n l.As).bind fun a=>(qaS n x.Bu 0 (W64 (a-1))).bind fun b=>bif b then(idx l.As x.Bu).bind fun f=>bif ((x.Am.length:Int)==(f.Bg.length:Int)) then(qaW n x.Am d).bind fun c=>V (!c) else V false else V false
theorem ql9{d:qd}{l:qq}{x:ql}(a:Ro w d cs1)(b:Ro w l cs2)(c:Ro w x cs3){r:Bool}(F:qeC n d l x=V r):RetV prog 252 [oV qd cs1,oV qq cs2,oV ql cs3] w r:=by
 obtain⟨_,_,_,_,_,_,rfl,_,_,_⟩:=qaD a;obtain⟨_,_,rfl,u⟩:=qbP b;obtain⟨_,_,rfl,A⟩:=qU c;refine zV 35 func252 Z fun h=>zSR (qw h Z Z fun _ _ h=>qw h Z Z fun _ _ h=>qw h Z Z fun _ _ h=>X0 3 Z (rD (Y1 2 0 h Z ?_)));refine Y1 2 1 h Z ?_;obtain⟨v,m,F⟩:=qc F;refine qbk v (vsI _) (cB 281 Z) (fun _ B=>qmI ⟨_,_,rfl,((h.ext B).oldS u)⟩ m) Z Z Z Z (zd1 Z ?_);obtain⟨y,o,F⟩:=qc F;refine qbk y (vsB _) (cB 46 Z) (fun _ B=>qaE  o) Z Z Z Z (zd1 Z (qaV (t:=14) F Z ?_ ?_))<;>intro F
 ·refine Y1 4 0 h Z ?_;refine Y1 6 1 h Z ?_;refine Y1 4 0 h Z ?_;refine Y0 1 Z ?_;obtain⟨_,_,F,g,_,_,_,_,i,k,p,f⟩:=u.ix F;obtain⟨_,_,_,_,_,_,rfl,_,_,_⟩:=qag p;refine zdxe i k g Z (Y0 3 Z (zdc 2 (f.below h.below) Z (Y0 6 Z (qaV (t:=28) F Z ?_ ?_))))<;>intro F
  ·refine Y1 4 0 h Z ?_;refine Y0 3 Z ?_;obtain⟨z,s,F⟩:=qc F;exact qbk z (vsB _) (cB 110 Z) (fun _ B=>qex ⟨_,_,rfl,((h.ext B).oldS A)⟩ (qiw (x:=d) 2 (h.ext B) Z ((h.ext B).old a)) s) Z Z Z Z (Y0 4 Z (dN h fun _ h=>rb h F Z))
  exact Y0 7 Z (dN h fun _ h=>rb h F Z)
 exact Y0 21 Z (dN h fun _ h=>rb h F Z)
def qk1(_:Nat)(a:Int):Option Bool:=V (a != 1)
theorem qpI{a_n}  {r:Bool}(F:qk1 n a_n=V r):RetV prog 255 [vi a_n] w r:=by
 exact zV 5 func255 Z fun h=>X0 10 Z (rb h F Z)
def qap(s:(List Int)):Nat->Int->Option (Flow Int Int)|0,_=>U|n+1,i1=>bif decide (i1<(s.length:Int)) then(idx s i1).bind fun b=>(qk1 n b).bind fun a=>bif a then V (.ret i1) else qap s n (W64 (i1+1)) else V (.nxt i1)
def qcp(n:Nat)(s:(List Int)):Option Int:=(qap s n 0).bind fun|.ret r=>V r|.nxt _=>V (-1)
theorem qhv{s:(List Int)}(b:Ro w s cs1){r:Int}(F:qcp n s=V r):RetV prog 284 [oV (List Int) cs1,.func (.func 255) #[] #[]] w r:=by
 obtain⟨o,k,rfl,p⟩:=b;refine zV 19 func284 Z fun h=>X0 11 Z ?_;obtain⟨l,F,a⟩:=qc F;refine qm (rL (fun m e w'=>∃i1,qap s m i1=V l/\e=[(0,oS o s.length k),(1,.func (.func 255) #[] #[]),(7,vi (s.length:Int)),(8,vi i1)]/\SH w w' []) n ⟨_,F,rfl,h⟩ Z ?_);rintro i _ _ ⟨i1,F,rfl,h⟩;rcases i with _|i
 ·cases F
 refine X0 5 Z (qg Z F ?_ ?_)<;>intro F
 ·refine X0 13 Z ?_;obtain⟨_,_,F,d,_,_,_,_,f,g,rfl,c⟩:=p.ix F;refine zxe f g d Z (zc 0 (c.below h.below) Z (zcB h F qpI Z fun _ _ h F=>qal (qg Z F ?_ ?_)))<;>intro F
  ·refine X0 5 Z ?_;obtain rfl:=qb F;replace F:=a;exact ri h F Z
  exact X0 6 Z (rK ⟨_,F,rfl,h⟩ Z)
 refine qr Z ?_;obtain rfl:=qb F;replace F:=a;exact X0 4 Z (ri h F Z)
def qb2(n:Nat)(s:(List Int)):Option Bool:=(qcp n s).bind fun a=>V (decide (a>=0))
theorem qgH{s:(List Int)}(a:Ro w s cs1){r:Bool}(F:qb2 n s=V r):RetV prog 254 [oV (List Int) cs1,.func (.func 255) #[] #[]] w r:=by
 obtain⟨_,_,rfl,b⟩:=a;exact zV 9 func254 Z fun h=>X0 8 Z (zcI h F (qhv ⟨_,_,rfl,(h.oldS b)⟩) Z fun _ _ h F=>X0 3 Z (rb h F Z))
def qcN(a:qd):Nat->(List Int)->Int->Option (Flow Bool ((List Int)×Int))|0,_,_=>U|n+1,x3,c=>bif decide (c<(a.Aj.length:Int)) then(idx a.Aj c).bind fun b=>(bif (b.Bx != 1) then bif (b.Bx != 2) then V true else(qef n a b.Ca).bind fun f=>V (!f) else(qef n a b.Ca).bind fun g=>V (!g)).bind fun d=>bif d then V (.ret false) else bif (b.Bx==1) then(idx x3 b.Ca).bind fun h=>(idx x3 b.Ca).bind fun _=>qcN a n (setS x3 b.Ca (W64 (h+1))) (W64 (c+1)) else qcN a n x3 (W64 (c+1)) else V (.nxt (x3,c))
def qdJ(b:qq)(a:qd):Nat->(List Int)->Int->Option (Flow Bool ((List Int)×Int))|0,_,_=>U|n+1,c,i1=>bif decide (i1<(a.Ab.length:Int)) then(idx a.Ab i1).bind fun d=>(qeC n a b d).bind fun g=>bif (!g) then V (.ret false) else(idx d.Am (W64 ((d.Am.length:Int)-1))).bind fun f=>(idx c f).bind fun h=>(idx c f).bind fun _=>qdJ b a n (setS c f (W64 (h+1))) (W64 (i1+1)) else V (.nxt (c,i1))
def qkm(n:Nat)(b:qq)(a:qd):Option Bool:=((qjz n b).bind fun c=>bif (!c) then V true else(qfS n a).bind fun d=>V (!d)).bind fun b1=>bif b1 then V false else(mkS (a.Am.length:Int) (0:Int)).bind fun x1=>(qdJ b a n x1 0).bind fun|.ret r=>V r|.nxt (f,_)=>(qcN a n f 0).bind fun|.ret r=>V r|.nxt (x3,_)=>(qb2 n x3).bind fun r4=>V (!r4)
theorem qrc{c:qq}{a:qd}(i:Ro w c cs1)(d:Ro w a cs2){r:Bool}(F:qkm n c a=V r):RetV prog 202 [oV qq cs1,oV qd cs2] w r:=by
 obtain⟨p1,k1,rfl,_⟩:=qbP i;obtain⟨O,N,Q,k3,o,l,rfl,s2,_,s4⟩:=qaD d;refine zV 84 func202 Z fun h=>zSR (qw h Z Z fun _ f h=>qw h Z Z fun _ b h=>X0 4 Z ?_);obtain⟨S,z,_,F,x⟩:=bindE F;refine qaU (fun e w'=>∃b1,S b1=V r/\e=[(2,vp f),(3,vp b),(17,.bool b1)]/\SH w w' [oX b (qaT a O Q o N k3 l) 50,oX f [oS p1 c.As.length k1] 46]) ?_ ?_
 ·refine X1 2 1 h Z (zcB h F (qqF (h.old i)) Z fun _ _ h F=>zp2 Z (qn (t:=13) F Z ?_ ?_))<;>intro F
  ·refine X0 5 Z ?_;obtain rfl:=qb F;exact rG ⟨_,x,rfl,h⟩ Z
  refine X1 3 0 h Z (zcB h F (qm4 (h.old d)) Z fun _ _ h F=>X0 4 Z ?_);obtain rfl:=qb F;exact rG ⟨_,x,rfl,h⟩ Z
 rintro _ _ ⟨b1,F,rfl,h⟩;subst z;refine qg Z F ?_ ?_<;>intro F
 ·exact X0 4 Z (rb h F Z)
 refine X1 6 0 h Z ?_;obtain⟨x1,k,F⟩:=qc F;obtain⟨g1,g2,k⟩:=qT k;refine qan qa Int h Z Z Z Z Z Z Z Z Z g1 g2 k Z fun _ S1 p h=>X1 10 1 h Z ?_;obtain⟨o1,F,u⟩:=qc F;refine qm (rL (fun m e w'=>∃x2 i1,qdJ c a m x2 i1=V o1/\e=[(2,vp f),(3,vp b),(5,oS p x1.length x1.length),(23,oS O a.Ab.length N),(24,vi (a.Ab.length:Int)),(25,vi i1)]/\SH w w' [oW S1 (x2:List Int) [oS p x1.length x1.length],oX b (qaT a O Q o N k3 l) 50,oX f [oS p1 c.As.length k1] 46]) n ⟨_,_,F,rfl,h⟩ Z ?_);rintro m1 _ _ ⟨x2,i1,F,rfl,h⟩;rcases m1 with _|m1
 ·cases F
 refine X0 5 Z (qg Z F ?_ ?_)<;>intro F
 ·refine zKSBSR ?_;obtain⟨y1,_,F,a5,_,_,_,_,a8,b8,c3,W⟩:=s2.ix F;obtain⟨_,_,rfl,s5⟩:=qU c3;refine zxe a8 b8 a5 Z (zc 0 (W.below h.below) Z (qp qa h Z Z Z fun _ _ h=>zs 0 h Z fun _ h=>X3 7 2 3 0 h Z (zcB h F (ql9 (h.old d) (h.old i) (qg9 y1 (h.oldS s5))) Z fun _ _ h F=>X0 2 Z (qg Z F ?_ ?_))))<;>intro F
  ·refine X0 4 Z ?_;obtain rfl:=qb F;replace F:=u;exact rb h F Z
  refine X2 9 0 0 h Z ?_;obtain⟨_,_,F,a6,_,_,_,_,a9,b9,rfl,X⟩:=s5.ix F;refine zxe a9 b9 a6 Z (zc 0 (X.below h.below) Z ?_);obtain⟨y3,_,F,C,_,_,_,_,b4,c0,rfl,Y⟩:=(h.sl 1 Z).1.ix F;refine zx b4 c0 ⟨C.1,qD C.2.1 (h.sl 1 Z).2⟩ Z (zc 0 Y Z (zp1 Z ?_));obtain⟨_,c5,F,D,_,_,_,_,J,L,rfl,a3⟩:=(h.sl 1 Z).1.ix F;refine zx J L ⟨D.1,qD D.2.1 (h.sl 1 Z).2⟩ Z (qav qa 1 0 (W64 (y3+1)) h Z c5 J L Z a3 Z Z Z Z Z Z Z fun _ h=>X0 6 Z ?_);replace h:=h.p [1,2,3] Z;exact rK ⟨_,_,F,rfl,h⟩ Z
 refine qr Z ?_;obtain rfl:=qb F;replace F:=u;refine X1 8 1 h Z ?_;obtain⟨o2,F,v⟩:=qc F;refine qm ?_;replace h:=h.p [0,1] Z;refine rL (fun m e w'=>∃x3 P,qcN a m x3 P=V o2/\e=[(3,vp b),(5,oS p x1.length x1.length),(49,oS o a.Aj.length l),(50,vi (a.Aj.length:Int)),(51,vi P)]/\SH w w' [oW S1 (x3:List Int) [oS p x1.length x1.length],oX b (qaT a O Q o N k3 l) 50]) n ⟨_,_,F,rfl,h⟩ Z ?_;rintro m2 _ _ ⟨x3,P,F,rfl,h⟩;rcases m2 with _|m2
 ·cases F
 refine X0 5 Z (qg Z F ?_ ?_)<;>intro F
 ·refine zKSBSR ?_;obtain⟨y5,_,F,a7,_,_,_,_,b5,c1,c4,a4⟩:=s4.ix F;obtain rfl:=qaY c4;refine zxe b5 c1 a7 Z (zc 0 (a4.below h.below) Z (qp qa h Z Z Z fun _ s h=>zs 0 h Z fun _ h=>zNSS ?_));obtain⟨R,y,_,F,g⟩:=bindE F;refine qaU (fun e w'=>∃T,R T=V o2/\e=[(3,vp b),(5,oS p x1.length x1.length),(9,vp s),(49,oS o a.Aj.length l),(50,vi (a.Aj.length:Int)),(51,vi P),(69,.bool T)]/\SH w w' [oX s (qsk y5) 255,oW S1 (x3:List Int) [oS p x1.length x1.length],oX b (qaT a O Q o N k3 l) 50]) ?_ ?_
  ·refine X1 5 0 h Z (qn (t:=58) F Z ?_ ?_)<;>intro F
   ·refine X1 8 0 h Z (qn (t:=63) F Z ?_ ?_)<;>intro F
    ·refine X0 7 Z ?_;obtain rfl:=qb F;exact rG ⟨_,g,rfl,h⟩ Z
    refine X2 7 2 0 h Z (zcB h F (qhA (h.old d)) Z fun _ _ h F=>X0 4 Z ?_);obtain rfl:=qb F;exact rG ⟨_,g,rfl,h⟩ Z
   refine X2 12 2 0 h Z (zcB h F (qhA (h.old d)) Z fun _ _ h F=>X0 4 Z ?_);obtain rfl:=qb F;exact rG ⟨_,g,rfl,h⟩ Z
  rintro _ _ ⟨T,F,rfl,h⟩;subst y;refine qg Z F ?_ ?_<;>intro F
  ·refine X0 4 Z ?_;obtain rfl:=qb F;replace F:=v;exact rb h F Z
  refine X1 7 0 h Z (qg Z F ?_ ?_)<;>intro F
  ·refine X1 4 0 h Z ?_;obtain⟨y6,_,F,H,_,_,_,_,b6,c2,rfl,A⟩:=(h.sl 1 Z).1.ix F;refine zx b6 c2 ⟨H.1,qD H.2.1 (h.sl 1 Z).2⟩ Z (zc 0 A Z (zp1 Z ?_));obtain⟨_,c6,F,I,_,_,_,_,K,M,rfl,B⟩:=(h.sl 1 Z).1.ix F;refine zx K M ⟨I.1,qD I.2.1 (h.sl 1 Z).2⟩ Z (qav qa 1 0 (W64 (y6+1)) h Z c6 K M Z B Z Z Z Z Z Z Z fun _ h=>X0 6 Z ?_);replace h:=h.p [1,2] Z;exact rK ⟨_,_,F,rfl,h⟩ Z
  refine X0 6 Z ?_;replace h:=h.p [1,2] Z;exact rK ⟨_,_,F,rfl,h⟩ Z
 refine qr Z ?_;obtain rfl:=qb F;replace F:=v;exact X0 3 Z (zcB h F (qgH (h.own 0 Z)) Z fun _ _ h F=>X0 3 Z (rb h F Z))
def qbW(i1:Int)(b:ql):Nat->(List Tplace)->Int->Option ((List Tplace)×Int)|0,_,_=>U|n+1,c,a=>bif decide (a<(b.Am.length:Int)) then(idx b.Am a).bind fun d=>(appS c ([(⟨i1,a,d,(a==(W64 ((b.Am.length:Int)-1)))⟩:Tplace)]:List Tplace)).bind fun x3=>qbW i1 b n x3 (W64 (a+1)) else V (c,a)
def qbV(d:qd):Nat->(List Tplace)->Int->Option ((List Tplace)×Int)|0,_,_=>U|n+1,b,a=>bif decide (a<(d.Aj.length:Int)) then(idx d.Aj a).bind fun c=>(appS b ([(⟨(-1),a,c.Ca,(c.Bx==1)⟩:Tplace)]:List Tplace)).bind fun f=>qbV d n f (W64 (a+1)) else V (b,a)
def qbX(d:qd):Nat->(List Tplace)->Int->Option ((List Tplace)×Int)|0,_,_=>U|n+1,x1,i1=>bif decide (i1<(d.Ab.length:Int)) then(idx d.Ab i1).bind fun b=>(qbW i1 b n x1 0).bind fun(a,_)=>qbX d n a (W64 (i1+1)) else V (x1,i1)
def qcK(n:Nat)(d:qd):Option (List Tplace):=(qbX d n ([]:List Tplace) 0).bind fun(x1,_)=>(qbV d n x1 0).bind fun(a,_)=>V a
theorem qfk{d:qd}(z:Ro w d cs1){r:(List Tplace)}(F:qcK n d=V r):RetV prog 203 [oV qd cs1] w r:=by
 obtain⟨t,s,p2,k2,X,k3,rfl,s1,_,s3⟩:=qaD z;refine zV 61 func203 Z fun h=>zSR (qw h Z Z fun _ a h=>X1 14 0 h Z ?_);replace h:=h.nil (α:=Tplace);obtain⟨o1,F,v⟩:=qc F;refine qm (rL (fun m e w'=>∃S1 Y g R x1 i1,qbX d m x1 i1=V o1/\e=[(1,vp a),(3,oS Y g R),(11,oS t d.Ab.length s),(12,vi (d.Ab.length:Int)),(13,vi i1)]/\SH w w' [oW S1 (x1:List Tplace) [oS Y g R],oX a (qaT d t p2 X s k2 k3) 50]) n ⟨_,_,_,_,_,_,F,rfl,h⟩ Z ?_);rintro W _ _ ⟨S1,Y,g,R,x1,i1,F,rfl,h⟩;obtain rfl:=(h.sl 0 Z).2;rcases W with _|W
 ·cases F
 refine X0 5 Z (qg Z F ?_ ?_)<;>intro F
 ·refine X0 6 Z ?_;obtain⟨l,_,F,D,_,_,_,_,J,M,P,A⟩:=s1.ix F;obtain⟨p5,k5,rfl,s4⟩:=qU P;refine zxe J M D Z (zc 0 (A.below h.below) Z (qp qa h Z Z Z fun _ o h=>zp1 Z (zs 0 h Z fun _ h=>X1 8 0 h Z ?_)));obtain⟨o2,F,x⟩:=qc F;refine qm (rL (fun m e w'=>∃S2 p6 i S x2 f,qbW i1 l m x2 f=V o2/\e=[(1,vp a),(3,oS p6 i S),(4,vi i1),(5,vp o),(11,oS t d.Ab.length s),(12,vi (d.Ab.length:Int)),(13,vi i1),(19,oS p5 l.Am.length k5),(20,vi (l.Am.length:Int)),(21,vi f)]/\SH w w' [oX o (qkU l p5 k5) 253,oW S2 (x2:List Tplace) [oS p6 i S],oX a (qaT d t p2 X s k2 k3) 50]) W ⟨_,_,_,_,_,_,F,rfl,h⟩ Z ?_);rintro m2 _ _ ⟨S2,p6,i,S,x2,f,F,rfl,h⟩;obtain rfl:=(h.sl 1 Z).2;rcases m2 with _|m2
  ·cases F
  refine X0 5 Z (qg Z F ?_ ?_)<;>intro F
  ·refine X0 6 Z ?_;obtain⟨y2,_,F,H,_,_,_,_,K,N,rfl,B⟩:=s4.ix F;refine zxe K N H Z (zc 0 (B.below h.below) Z (X1 14 0 h Z (r_v (qW qa [0,1,2,3] [.tmp 27,.tmp 28,.tmp 29,.tmp 35] Z Z Z Z Z Z Z Z) Z (qG qa [.tmp 36] _ ([(⟨i1,f,y2,(f==(W64 ((l.Am.length:Int)-1)))⟩:Tplace)]:List Tplace) h Z Z Z Z Z Z Z Z Z ⟨(qnH (⟨i1,f,y2,(f==(W64 ((l.Am.length:Int)-1)))⟩:Tplace)),G⟩ Z fun _ _ _ h=>?_))));obtain⟨_,b,F⟩:=qc F;obtain⟨g1,b⟩:=qN b;refine qbY qa 2 h Z (h.sl 0 Z).1 (h.sl 0 Z).2 Z Z Z Z Z Z Z Z Z g1 b Z fun _ _ _ _ h=>X0 7 Z ?_;replace h:=h.p [1,2,3] Z;exact rK ⟨_,_,_,_,_,_,F,rfl,h⟩ Z
  refine qr Z ?_;obtain rfl:=qb F;replace F:=x;refine X0 5 Z ?_;replace h:=h.p [1,2] Z;exact rK ⟨_,_,_,_,_,_,F,rfl,h⟩ Z
 refine qr Z ?_;obtain rfl:=qb F;replace F:=v;refine X1 8 1 h Z ?_;obtain⟨o3,F,y⟩:=qc F;refine qm ?_;replace h:=h.p [0] Z;refine rL (fun m e w'=>∃S5 p9 k T x4 p,qbV d m x4 p=V o3/\e=[(3,oS p9 k T),(42,oS X d.Aj.length k3),(43,vi (d.Aj.length:Int)),(44,vi p)]/\SH w w' [oW S5 (x4:List Tplace) [oS p9 k T]]) n ⟨_,_,_,_,_,_,F,rfl,h⟩ Z ?_;rintro m3 _ _ ⟨S5,p9,k,T,x4,p,F,rfl,h⟩;obtain rfl:=(h.sl 0 Z).2;rcases m3 with _|m3
 ·cases F
 refine X0 5 Z (qg Z F ?_ ?_)<;>intro F
 ·refine X0 6 Z ?_;obtain⟨u,_,F,I,_,_,_,_,L,O,Q,C⟩:=s3.ix F;obtain rfl:=qaY Q;refine zxe L O I Z (zc 0 (C.below h.below) Z (qp qa h Z Z Z fun _ _ h=>zp1 Z (zs 0 h Z fun _ h=>X2 9 0 0 h Z (r_v (qW qa [0,1,2,3] [.const (vi (-1)),.tmp 50,.tmp 52,.tmp 55] Z Z Z Z Z Z Z Z) Z (qG qa [.tmp 56] _ ([(⟨(-1),p,u.Ca,(u.Bx==1)⟩:Tplace)]:List Tplace) h Z Z Z Z Z Z Z Z Z ⟨(qnH (⟨(-1),p,u.Ca,(u.Bx==1)⟩:Tplace)),G⟩ Z fun _ _ _ h=>?_)))));obtain⟨_,c,F⟩:=qc F;obtain⟨g2,c⟩:=qN c;refine qbY qa 2 h Z (h.sl 0 Z).1 (h.sl 0 Z).2 Z Z Z Z Z Z Z Z Z g2 c Z fun _ _ _ _ h=>X0 7 Z ?_;replace h:=h.p [2] Z;exact rK ⟨_,_,_,_,_,_,F,rfl,h⟩ Z
 refine qr Z ?_;obtain rfl:=qb F;replace F:=y;refine X0 5 Z ?_;obtain rfl:=qb F;exact rO 0 h Z ⟨rfl,G⟩
def qbo(f:qE):Nat->Int->Option (Flow Bool Int)|0,_=>U|n+1,i1=>bif decide (i1<(f.Ar.length:Int)) then(idx f.Ar i1).bind fun a=>bif (i1==0) then bif (a != (-1)) then V (.ret false) else(idx f.Bz 0).bind fun d=>bif (d != 0) then V (.ret false) else bif decide (i1 > 0) then(qaS n a 0 (W64 (i1-1))).bind fun b=>bif (!b) then V (.ret false) else qbo f n (W64 (i1+1)) else qbo f n (W64 (i1+1)) else bif decide (i1 > 0) then(qaS n a 0 (W64 (i1-1))).bind fun c=>bif (!c) then V (.ret false) else qbo f n (W64 (i1+1)) else qbo f n (W64 (i1+1)) else V (.nxt i1)
def qii(n:Nat)(a:qE):Option Bool:=(qbo a n 0).bind fun|.ret r=>V r|.nxt _=>V true
theorem qpy{H:qE}(c:Ro w H cs1){r:Bool}(F:qii n H=V r):RetV prog 256 [oV qE cs1] w r:=by
 obtain⟨v,s,A,x,B,k3,C,y,rfl,D,s2,_,_⟩:=qaR c;refine zV 38 func256 Z fun h=>zSR (qw h Z Z fun _ b h=>X1 10 0 h Z ?_);obtain⟨z,F,a⟩:=qc F;refine qm (rL (fun m e w'=>∃i1,qbo H m i1=V z/\e=[(1,vp b),(6,oS v H.Ar.length s),(7,vi (H.Ar.length:Int)),(8,vi i1)]/\SH w w' [oX b (qhn H v A B C s x k3 y) 183]) n ⟨_,F,rfl,h⟩ Z ?_);rintro u _ _ ⟨i1,F,rfl,h⟩;rcases u with _|u
 ·cases F
 refine X0 5 Z (qg Z F ?_ ?_)<;>intro F
 ·refine X0 6 Z ?_;obtain⟨_,_,F,g,_,_,_,_,k,o,rfl,d⟩:=D.ix F;refine zxe k o g Z (zc 0 (d.below h.below) Z (X0 8 Z (qn (t:=15) F Z ?_ ?_)))<;>intro F
  ·refine X0 6 Z (qn (t:=18) F Z ?_ ?_)<;>intro F
   ·refine X0 20 Z (qct Z Z (X0 4 Z ?_));obtain rfl:=qb F;replace F:=a;exact rb h F Z
   refine X1 5 0 h Z ?_;obtain⟨_,_,F,i,_,_,_,_,l,p,rfl,f⟩:=s2.ix F;refine zxe l p i Z (X0 1 Z (zc 0 (f.below h.below) Z (X0 6 Z (qn (t:=26) F Z ?_ ?_))))<;>intro F
   ·refine X0 11 Z (qct Z Z (X0 4 Z ?_));obtain rfl:=qb F;replace F:=a;exact rb h F Z
   refine X0 6 Z (qn (t:=29) F Z ?_ ?_)<;>intro F
   ·refine X0 7 Z (zcB h F qaE Z fun _ _ h F=>X0 6 Z (qg Z F ?_ ?_))<;>intro F
    ·refine X0 4 Z ?_;obtain rfl:=qb F;replace F:=a;exact rb h F Z
    exact X0 6 Z (rK ⟨_,F,rfl,h⟩ Z)
   exact X0 9 Z (qch Z Z (X0 6 Z (rK ⟨_,F,rfl,h⟩ Z)))
  refine X0 17 Z (qn (t:=29) F Z ?_ ?_)<;>intro F
  ·refine X0 7 Z (zcB h F qaE Z fun _ _ h F=>X0 6 Z (qg Z F ?_ ?_))<;>intro F
   ·refine X0 4 Z ?_;obtain rfl:=qb F;replace F:=a;exact rb h F Z
   exact X0 6 Z (rK ⟨_,F,rfl,h⟩ Z)
  exact X0 9 Z (qch Z Z (X0 6 Z (rK ⟨_,F,rfl,h⟩ Z)))
 refine qr Z ?_;obtain rfl:=qb F;replace F:=a;exact X0 4 Z (rb h F Z)
def qmc(n:Nat)(k:qE)(l:Int):Option Bool:=(qbB n k.Ar).bind fun a=>(qaS n a 1 8).bind fun b=>bif b then(qbB n k.Bz).bind fun c=>bif (c==a) then(qbB n k.Bv).bind fun r4=>bif (r4==a) then(qii n k).bind fun d=>bif d then(qb6 n k.Bz 0 1000).bind fun f=>bif f then(qb6 n k.Bv 0 500).bind fun g=>bif g then(qbB n k.Bn).bind fun h=>bif (h==l) then(qb6 n k.Bn 0 (W64 (a-1))).bind fun i=>V i else V false else V false else V false else V false else V false else V false else V false
theorem qtc{f:qE}{sinks}(a:Ro w f cs1){r:Bool}(F:qmc n f sinks=V r):RetV prog 204 [oV qE cs1,vi sinks] w r:=by
 obtain⟨_,_,_,_,_,_,_,_,rfl,d,s2,b,c⟩:=qaR a;refine zV 53 func204 Z fun h=>zSR (qw h Z Z fun _ _ h=>X1 6 0 h Z (zcI h F (qcT ⟨_,_,rfl,(h.oldS d)⟩) Z fun _ _ h F=>X0 5 Z (zcB h F qaE Z fun _ _ h F=>zp1 Z (qn (t:=11) F Z ?_ ?_))))<;>intro F
 ·refine X1 5 0 h Z (zcI h F (qcT ⟨_,_,rfl,(h.oldS s2)⟩) Z fun _ _ h F=>X0 6 Z (qn (t:=18) F Z ?_ ?_))<;>intro F
  ·refine X1 5 0 h Z (zcI h F (qcT ⟨_,_,rfl,(h.oldS b)⟩) Z fun _ _ h F=>X0 6 Z (qn (t:=25) F Z ?_ ?_))<;>intro F
   ·refine X1 3 0 h Z (zcB h F (qpy (h.old a)) Z fun _ _ h F=>zp2 Z (qn (t:=29) F Z ?_ ?_))<;>intro F
    ·refine X1 5 0 h Z (zcB h F (qcr ⟨_,_,rfl,(h.oldS s2)⟩) Z fun _ _ h F=>zp2 Z (qn (t:=34) F Z ?_ ?_))<;>intro F
     ·refine X1 5 0 h Z (zcB h F (qcr ⟨_,_,rfl,(h.oldS b)⟩) Z fun _ _ h F=>zp2 Z (qn (t:=39) F Z ?_ ?_))<;>intro F
      ·refine X1 5 0 h Z (zcI h F (qcT ⟨_,_,rfl,(h.oldS c)⟩) Z fun _ _ h F=>X0 6 Z (qn (t:=46) F Z ?_ ?_))<;>intro F
       ·exact X1 9 0 h Z (zcB h F (qcr ⟨_,_,rfl,(h.oldS c)⟩) Z fun _ _ h F=>X0 3 Z (rb h F Z))
       exact X0 8 Z (rb h F Z)
      exact X0 15 Z (rb h F Z)
     exact X0 20 Z (rb h F Z)
    exact X0 25 Z (rb h F Z)
   exact X0 29 Z (rb h F Z)
  exact X0 36 Z (rb h F Z)
 exact X0 43 Z (rb h F Z)
def qfz(b:qj)(c:(List Int)):Nat->Int->Option (Flow Bool Int)|0,_=>U|n+1,a=>bif decide (a<(b.Ah.length:Int)) then(idx b.Ah a).bind fun f=>(idx c a).bind fun g=>(qmc n f g).bind fun d=>bif (!d) then V (.ret false) else qfz b c n (W64 (a+1)) else V (.nxt a)
def qdn(b:(List Tplace)):Nat->(List Int)->Int->Option ((List Int)×Int)|0,_,_=>U|n+1,a,i1=>bif decide (i1<(b.length:Int)) then(idx b i1).bind fun c=>bif (!c.drives) then(idx a c.net).bind fun d=>(idx a c.net).bind fun _=>qdn b n (setS a c.net (W64 (d+1))) (W64 (i1+1)) else qdn b n a (W64 (i1+1)) else V (a,i1)
def qjk(n:Nat)(b:qj):Option Bool:=((qkm n (⟨b.Au.As⟩:qq) (⟨b.Aa.Ab,b.Aa.Am,b.Aa.Aj⟩:qd)).bind fun c=>bif (!c) then V true else V ((b.Ah.length:Int) != (b.Aa.Am.length:Int))).bind fun b1=>bif b1 then V false else(mkS (b.Ah.length:Int) (0:Int)).bind fun x1=>(qcK n (⟨b.Aa.Ab,b.Aa.Am,b.Aa.Aj⟩:qd)).bind fun a=>(qdn a n x1 0).bind fun(d,_)=>(qfz b d n 0).bind fun|.ret r=>V r|.nxt _=>V true
theorem qr3{b:qj}(A:Ro w b cs1){r:Bool}(F:qjk n b=V r):RetV prog 153 [oV qj cs1] w r:=by
 obtain⟨p1,k1,p2,k2,p3,k3,p4,k4,p5,k5,rfl,s1,s2,s3,s4,s5⟩:=qah A;refine zV 63 func153 Z fun h=>zSR (qw h Z Z fun _ a h=>X0 4 Z ?_);obtain⟨y,g,_,F,f⟩:=bindE F;refine qaU (fun e w'=>∃b1,y b1=V r/\e=[(1,vp a),(23,.bool b1)]/\SH w w' [oX a (qa4 b p1 p2 p3 p4 p5 k1 k2 k3 k4 k5) 53]) ?_ ?_
 ·refine X2 5 0 0 h Z (zcB h F (qrc (qeF _ (h.oldS s1)) (qaz _ (h.oldS s2) (h.oldS s3) (h.oldS s4))) Z fun _ _ h F=>zp2 Z (qn (t:=14) F Z ?_ ?_))<;>intro F
  ·refine X0 10 Z ?_;obtain rfl:=qb F;exact rG ⟨_,f,rfl,h⟩ Z
  refine X2 18 0 0 h Z ?_;obtain rfl:=qb F;exact rG ⟨_,f,rfl,h⟩ Z
 rintro _ _ ⟨b1,F,rfl,h⟩;subst g;refine qg Z F ?_ ?_<;>intro F
 ·exact X0 4 Z (rb h F Z)
 refine X1 6 0 h Z ?_;obtain⟨x1,c,F⟩:=qc F;obtain⟨g1,g2,c⟩:=qT c;refine qan qa Int h Z Z Z Z Z Z Z Z Z g1 g2 c Z fun _ S1 x h=>X1 7 1 h Z (zcL h F (qfk (qaz _ (h.oldS s2) (h.oldS s3) (h.oldS s4))) Z fun u _ S2 p7 k6 h F=>X0 3 Z ?_);obtain⟨o1,F,z⟩:=qc F;refine qm (rL (fun m e w'=>∃v i1,qdn u m v i1=V o1/\e=[(1,vp a),(3,oS x x1.length x1.length),(30,oS p7 u.length k6),(31,vi (u.length:Int)),(32,vi i1)]/\SH w w' [oW S2 (u:List Tplace) [oS p7 u.length k6],oW S1 (v:List Int) [oS x x1.length x1.length],oX a (qa4 b p1 p2 p3 p4 p5 k1 k2 k3 k4 k5) 53]) n ⟨_,_,F,rfl,h⟩ Z ?_);rintro m1 _ _ ⟨v,i1,F,rfl,h⟩;rcases m1 with _|m1
 ·cases F
 refine X0 5 Z (qg Z F ?_ ?_)<;>intro F
 ·refine zKSBSR ?_;obtain⟨_,_,F,i,_,_,_,_,K,O,S,B⟩:=(h.sl 0 Z).1.ix F;obtain rfl:=qhy S;refine zx K O ⟨i.1,qD i.2.1 (h.sl 0 Z).2⟩ Z (zc 0 B Z (qp qa h Z Z Z fun _ _ h=>zs 0 h Z fun _ h=>X1 7 0 h Z (qg Z F ?_ ?_)))<;>intro F
  ·refine X1 4 0 h Z ?_;obtain⟨y2,_,F,k,_,_,_,_,L,P,rfl,C⟩:=(h.sl 2 Z).1.ix F;refine zx L P ⟨k.1,qD k.2.1 (h.sl 2 Z).2⟩ Z (zc 0 C Z (zp1 Z ?_));obtain⟨_,X,F,l,_,_,_,_,p,s,rfl,D⟩:=(h.sl 2 Z).1.ix F;refine zx p s ⟨l.1,qD l.2.1 (h.sl 2 Z).2⟩ Z (qav qa 2 0 (W64 (y2+1)) h Z X p s Z D Z Z Z Z Z Z Z fun _ h=>X0 6 Z ?_);replace h:=h.p [1,2,3] Z;exact rK ⟨_,_,F,rfl,h⟩ Z
  refine X0 6 Z ?_;replace h:=h.p [1,2,3] Z;exact rK ⟨_,_,F,rfl,h⟩ Z
 refine qr Z ?_;obtain rfl:=qb F;replace F:=z;refine X1 8 2 h Z ?_;obtain⟨o2,F,d⟩:=qc F;refine qm ?_;replace h:=h.p [1] Z;refine rL (fun m e w'=>∃Y,qfz b v m Y=V o2/\e=[(3,oS x x1.length x1.length),(48,oS p5 b.Ah.length k5),(49,vi (b.Ah.length:Int)),(50,vi Y)]/\SH w w' [oW S1 (v:List Int) [oS x x1.length x1.length]]) n ⟨_,F,rfl,h⟩ Z ?_;rintro m2 _ _ ⟨Y,F,rfl,h⟩;rcases m2 with _|m2
 ·cases F
 refine X0 5 Z (qg Z F ?_ ?_)<;>intro F
 ·refine X0 6 Z ?_;obtain⟨y4,_,F,J,_,_,_,_,M,Q,T,H⟩:=s5.ix F;obtain⟨_,_,_,_,_,_,_,_,rfl,s6,s7,s8,s9⟩:=qaR T;refine zxe M Q J Z (zc 0 (H.below h.below) Z (qp qa h Z Z Z fun _ _ h=>zp1 Z (zs 0 h Z fun _ h=>zNS (rD (Y1 1 0 h Z ?_)))));refine zd2 Z ?_;obtain⟨_,_,F,o,_,_,_,_,N,R,rfl,I⟩:=(h.sl 1 Z).1.ix F;refine zdx N R ⟨o.1,qD o.2.1 (h.sl 1 Z).2⟩ Z (zdc 0 I Z ?_);obtain⟨r2,W,F⟩:=qc F;refine qbk r2 (vsB _) (cB 204 Z) (fun _ hb=>qtc (qlw y4 ((h.ext hb).oldS s6) ((h.ext hb).oldS s7) ((h.ext hb).oldS s8) ((h.ext hb).oldS s9)) W) Z Z Z Z (zd1 Z (dN h fun _ h=>qg Z F ?_ ?_))<;>intro F
  ·refine X0 4 Z ?_;obtain rfl:=qb F;replace F:=d;exact rb h F Z
  refine X0 6 Z ?_;replace h:=h.p [1] Z;exact rK ⟨_,F,rfl,h⟩ Z
 refine qr Z ?_;obtain rfl:=qb F;replace F:=d;exact X0 4 Z (rb h F Z)
end Go.Fw


namespace Go.Fw
open Go
def qa3(a:(List Int)):Nat:=a.length
theorem qeO{a:(List Int)}(h:(rngL rngI) a)(w:qa3 a<=1048576):(okL okI) a:=
 ⟨by simp only[qa3] at w;omega,fun x b=>h.2 x b⟩
def qi3(x:qv):Prop:=(rngL rngI) x.Bo/\(rngL rngI) x.Bk/\(rngL rngI) x.Bj
def qeE(x:qv):Nat:=qa3 x.Bo+qa3 x.Bk+qa3 x.Bj
structure qjw(x:qv):Prop where
 Bo:(okL okI) x.Bo
 Bk:(okL okI) x.Bk
 Bj:(okL okI) x.Bj
theorem qwy{x:qv}(h:qi3 x)(w:qeE x<=1048576):qjw x:=⟨qeO (h.1) (by simp only[qeE] at w;omega),qeO (h.2.1) (by simp only[qeE] at w;omega),qeO (h.2.2) (by simp only[qeE] at w;omega)⟩
def qds(a:(List qv)):Nat:=a.length+(a.map fun x=>qeE x).sum
theorem qrz{a:(List qv)}(h:(rngL qi3) a)(w:qds a<=1048576):(okL qjw) a:=
 ⟨by simp only[qds] at w;omega,fun x b=>qwy (h.2 x b) (by have:=qcL (wt:=fun x:qv=>qeE x) b;simp only[qds] at w;omega)⟩
def qnO(x:qI):Prop:=rngI x.Bi/\rngI x.Bl/\rngI x.To/\rngI x.Br/\(rngL qi3) x.Bp/\(rngL qi3) x.Bf
def qjR(x:qI):Nat:=qds x.Bp+qds x.Bf
structure qpV(x:qI):Prop where
 Bi:okI x.Bi
 Bl:okI x.Bl
 To:okI x.To
 Br:okI x.Br
 Bp:(okL qjw) x.Bp
 Bf:(okL qjw) x.Bf
theorem qz8{x:qI}(h:qnO x)(w:qjR x<=1048576):qpV x:=⟨h.1,h.2.1,h.2.2.1,h.2.2.2.1,qrz (h.2.2.2.2.1) (by simp only[qjR] at w;omega),qrz (h.2.2.2.2.2) (by simp only[qjR] at w;omega)⟩
theorem qge{a:(List Int)}(h:qa3 a<=1048576):Ev (fun n=>qbC n a a) true:=by
 have f:a.length<=1048576:=by simp only[qa3] at h;omega
 unfold qbC;exact Ev.ff (by simp) (Ev.bind (b:=.nxt (a.length:Int)) (qjH (eqf:=fun _ x y=>V (!(x != y))) (fun x _=>Ev.now (by simp))
  (fun n=>by simp only[qgi,qk (je _),cond_false])
  (fun n j x c=>by
   have d:=(List.getElem?_eq_some_iff.1 c).1;simp only[qgi,qi d,cond_true,qR c,jd,Bool.not_not,wS j])) .done)
theorem qAm{a:qv}(h:qeE a<=1048576):Ev (fun n=>qjm n a a) true:=by
 unfold qjm;simp only[qeE] at h;exact Ev.bind (qge (a:=a.Bo) (by omega)) (Ev.ff Z (Ev.bind (qge (a:=a.Bk) (by omega)) (Ev.ff Z (Ev.bind (qge (a:=a.Bj) (by omega)) (Ev.ff Z (.done))))))
theorem qtQ{a:(List qv)}(h:qds a<=1048576):Ev (fun n=>qiv n a a) true:=by
 have f:a.length<=1048576:=by simp only[qds] at h;omega
 unfold qiv;exact Ev.ff (by simp) (Ev.bind (b:=.nxt (a.length:Int)) (qjH (eqf:=qjm) (fun x c=>qAm (by have:=qcL (wt:=fun x:qv=>qeE x) c;simp only[qds] at h;omega))
  (fun n=>by simp only[qgw,qk (je _),cond_false])
  (fun n j x c=>by
   have d:=(List.getElem?_eq_some_iff.1 c).1;simp only[qgw,qi d,cond_true,qR c,jd,wS j])) .done)
theorem qCd{a:qI}(h:qjR a<=1048576):Ev (fun n=>qlM n a a) true:=by
 unfold qlM;simp only[qjR] at h;exact Ev.ff qaI (Ev.ff qaI (Ev.ff qaI (Ev.ff qaI (Ev.bind (qtQ (a:=a.Bp) (by omega)) (Ev.ff Z (Ev.bind (qtQ (a:=a.Bf) (by omega)) (Ev.ff Z (.done))))))))
def qio(a:(List qI)):Nat:=a.length+(a.map fun x=>qjR x).sum
theorem qy0{a:(List qI)}(h:(rngL qnO) a)(w:qio a<=1048576):(okL qpV) a:=
 ⟨by simp only[qio] at w;omega,fun x b=>qz8 (h.2 x b) (by have:=qcL (wt:=fun x:qI=>qjR x) b;simp only[qio] at w;omega)⟩
theorem qBr{a:(List qI)}(h:qio a<=1048576):Ev (fun n=>qmo n a a) true:=by
 have f:a.length<=1048576:=by simp only[qio] at h;omega
 unfold qmo;exact Ev.ff (by simp) (Ev.bind (b:=.nxt (a.length:Int)) (qjH (eqf:=qlM) (fun x c=>qCd (by have:=qcL (wt:=fun x:qI=>qjR x) c;simp only[qio] at h;omega))
  (fun n=>by simp only[qhC,qk (je _),cond_false])
  (fun n j x c=>by
   have d:=(List.getElem?_eq_some_iff.1 c).1;simp only[qhC,qi d,cond_true,qR c,jd,wS j])) .done)
def qnu(x:qao):Prop:=rngS x.Bc/\rngI x.Bx/\rngI x.Bv/\rngB x.Bt
def qlH(x:qao):Nat:=x.Bc.size
structure qoB(x:qao):Prop where
 Bc:okS x.Bc
 Bx:okI x.Bx
 Bv:okI x.Bv
 Bt:okT x.Bt
theorem qz3{x:qao}(h:qnu x)(w:qlH x<=1048576):qoB x:=⟨(by unfold okS;simp only[qlH] at w;omega),h.2.1,h.2.2.1,G⟩
def qip(a:(List qao)):Nat:=a.length+(a.map fun x=>qlH x).sum
theorem qyo{a:(List qao)}(h:(rngL qnu) a)(w:qip a<=1048576):(okL qoB) a:=
 ⟨by simp only[qip] at w;omega,fun x b=>qz3 (h.2 x b) (by have:=qcL (wt:=fun x:qao=>qlH x) b;simp only[qip] at w;omega)⟩
def ql0(x:qB):Prop:=rngS x.Bc/\rngI x.Bi/\(rngL qnu) x.Bg/\(rngL qnO) x.Ba/\(rngL rngI) x.Bq/\rngI x.Cc/\rngI x.Bw
def qgb(x:qB):Nat:=x.Bc.size+qip x.Bg+qio x.Ba+qa3 x.Bq
structure qpg(x:qB):Prop where
 Bc:okS x.Bc
 Bi:okI x.Bi
 Bg:(okL qoB) x.Bg
 Ba:(okL qpV) x.Ba
 Bq:(okL okI) x.Bq
 Cc:okI x.Cc
 Bw:okI x.Bw
theorem qyt{x:qB}(h:ql0 x)(w:qgb x<=1048576):qpg x:=⟨(by unfold okS;simp only[qgb] at w;omega),h.2.1,qyo (h.2.2.1) (by simp only[qgb] at w;omega),qy0 (h.2.2.2.1) (by simp only[qgb] at w;omega),qeO (h.2.2.2.2.1) (by simp only[qgb] at w;omega),h.2.2.2.2.2.1,h.2.2.2.2.2.2⟩
def qgB(a:(List qB)):Nat:=a.length+(a.map fun x=>qgb x).sum
theorem qwZ{a:(List qB)}(h:(rngL ql0) a)(w:qgB a<=1048576):(okL qpg) a:=
 ⟨by simp only[qgB] at w;omega,fun x b=>qyt (h.2 x b) (by have:=qcL (wt:=fun x:qB=>qgb x) b;simp only[qgB] at w;omega)⟩
def qmq(x:qq):Prop:=(rngL ql0) x.As
def qeZ(x:qq):Nat:=qgB x.As
structure qiR(x:qq):Prop where
 As:(okL qpg) x.As
theorem qu9{x:qq}(h:qmq x)(w:qeZ x<=1048576):qiR x:=⟨qwZ (h) (by simp only[qeZ] at w;omega)⟩
def qgJ(x:ql):Prop:=rngS x.Bc/\rngI x.Bu/\(rngL rngI) x.Am
def qbT(x:ql):Nat:=x.Bc.size+qa3 x.Am
structure qoy(x:ql):Prop where
 Bc:okS x.Bc
 Bu:okI x.Bu
 Am:(okL okI) x.Am
theorem qtD{x:ql}(h:qgJ x)(w:qbT x<=1048576):qoy x:=⟨(by unfold okS;simp only[qbT] at w;omega),h.2.1,qeO (h.2.2) (by simp only[qbT] at w;omega)⟩
def qca(a:(List ql)):Nat:=a.length+(a.map fun x=>qbT x).sum
theorem qsx{a:(List ql)}(h:(rngL qgJ) a)(w:qca a<=1048576):(okL qoy) a:=
 ⟨by simp only[qca] at w;omega,fun x b=>qtD (h.2 x b) (by have:=qcL (wt:=fun x:ql=>qbT x) b;simp only[qca] at w;omega)⟩
def qe5(a:(List ByteArray)):Nat:=a.length+(a.map fun x=>x.size).sum
theorem qu1{a:(List ByteArray)}(_:(rngL rngS) a)(w:qe5 a<=1048576):(okL okS) a:=
 ⟨by simp only[qe5] at w;omega,fun x b=>(by unfold okS;have:=qcL (wt:=fun x:ByteArray=>x.size) b;simp only[qe5] at w;omega)⟩
def ql4(x:qQ):Prop:=rngS x.Bc/\rngI x.Bx/\rngI x.Ca
def qiT(x:qQ):Nat:=x.Bc.size
structure quC(x:qQ):Prop where
 Bc:okS x.Bc
 Bx:okI x.Bx
 Ca:okI x.Ca
theorem qyX{x:qQ}(h:ql4 x)(w:qiT x<=1048576):quC x:=⟨(by unfold okS;simp only[qiT] at w;omega),h.2.1,h.2.2⟩
def qgE(a:(List qQ)):Nat:=a.length+(a.map fun x=>qiT x).sum
theorem qxi{a:(List qQ)}(h:(rngL ql4) a)(w:qgE a<=1048576):(okL quC) a:=
 ⟨by simp only[qgE] at w;omega,fun x b=>qyX (h.2 x b) (by have:=qcL (wt:=fun x:qQ=>qiT x) b;simp only[qgE] at w;omega)⟩
def qnS(x:qd):Prop:=(rngL qgJ) x.Ab/\(rngL rngS) x.Am/\(rngL ql4) x.Aj
def qff(x:qd):Nat:=qca x.Ab+qe5 x.Am+qgE x.Aj
structure qlv(x:qd):Prop where
 Ab:(okL qoy) x.Ab
 Am:(okL okS) x.Am
 Aj:(okL quC) x.Aj
theorem qv0{x:qd}(h:qnS x)(w:qff x<=1048576):qlv x:=⟨qsx (h.1) (by simp only[qff] at w;omega),qu1 (h.2.1) (by simp only[qff] at w;omega),qxi (h.2.2) (by simp only[qff] at w;omega)⟩
def ql6(x:qE):Prop:=(rngL rngI) x.Ar/\(rngL rngI) x.Bz/\(rngL rngI) x.Bv/\(rngL rngI) x.Bn
def qgx(x:qE):Nat:=qa3 x.Ar+qa3 x.Bz+qa3 x.Bv+qa3 x.Bn
structure qqs(x:qE):Prop where
 Ar:(okL okI) x.Ar
 Bz:(okL okI) x.Bz
 Bv:(okL okI) x.Bv
 Bn:(okL okI) x.Bn
theorem qx5{x:qE}(h:ql6 x)(w:qgx x<=1048576):qqs x:=⟨qeO (h.1) (by simp only[qgx] at w;omega),qeO (h.2.1) (by simp only[qgx] at w;omega),qeO (h.2.2.1) (by simp only[qgx] at w;omega),qeO (h.2.2.2) (by simp only[qgx] at w;omega)⟩
def qgL(a:(List qE)):Nat:=a.length+(a.map fun x=>qgx x).sum
theorem qw0{a:(List qE)}(h:(rngL ql6) a)(w:qgL a<=1048576):(okL qqs) a:=
 ⟨by simp only[qgL] at w;omega,fun x b=>qx5 (h.2 x b) (by have:=qcL (wt:=fun x:qE=>qgx x) b;simp only[qgL] at w;omega)⟩
def qpa(x:qj):Prop:=qmq x.Au/\qnS x.Aa/\(rngL ql6) x.Ah
def qgM(x:qj):Nat:=qeZ x.Au+qff x.Aa+qgL x.Ah
structure qnl(x:qj):Prop where
 Au:qiR x.Au
 Aa:qlv x.Aa
 Ah:(okL qqs) x.Ah
theorem qw4{x:qj}(h:qpa x)(w:qgM x<=1048576):qnl x:=⟨qu9 (h.1) (by simp only[qgM] at w;omega),qv0 (h.2.1) (by simp only[qgM] at w;omega),qw0 (h.2.2) (by simp only[qgM] at w;omega)⟩
theorem qBQ{a:qao}(_:qlH a<=1048576):Ev (fun n=>qlG n a a) true:=by
 unfold qlG;exact Ev.ff qjg (Ev.ff qaI (Ev.ff qaI (Ev.ff qvf (.done))))
theorem qBx{a:(List qao)}(h:qip a<=1048576):Ev (fun n=>qmE n a a) true:=by
 have f:a.length<=1048576:=by simp only[qip] at h;omega
 unfold qmE;exact Ev.ff (by simp) (Ev.bind (b:=.nxt (a.length:Int)) (qjH (eqf:=qlG) (fun x c=>qBQ (by have:=qcL (wt:=fun x:qao=>qlH x) c;simp only[qip] at h;omega))
  (fun n=>by simp only[qhQ,qk (je _),cond_false])
  (fun n j x c=>by
   have d:=(List.getElem?_eq_some_iff.1 c).1;simp only[qhQ,qi d,cond_true,qR c,jd,wS j])) .done)
theorem qAW{a:qB}(h:qgb a<=1048576):Ev (fun n=>qkv n a a) true:=by
 unfold qkv;simp only[qgb] at h;exact Ev.ff qjg (Ev.ff qaI (Ev.bind (qBx (a:=a.Bg) (by omega)) (Ev.ff Z (Ev.bind (qBr (a:=a.Ba) (by omega)) (Ev.ff Z (Ev.bind (qge (a:=a.Bq) (by omega)) (Ev.ff Z (Ev.ff qaI (Ev.ff qaI (.done))))))))))
theorem qzc{a:(List qB)}(h:qgB a<=1048576):Ev (fun n=>qls n a a) true:=by
 have f:a.length<=1048576:=by simp only[qgB] at h;omega
 unfold qls;exact Ev.ff (by simp) (Ev.bind (b:=.nxt (a.length:Int)) (qjH (eqf:=qkv) (fun x c=>qAW (by have:=qcL (wt:=fun x:qB=>qgb x) c;simp only[qgB] at h;omega))
  (fun n=>by simp only[qg1,qk (je _),cond_false])
  (fun n j x c=>by
   have d:=(List.getElem?_eq_some_iff.1 c).1;simp only[qg1,qi d,cond_true,qR c,jd,wS j])) .done)
theorem qwF{a:qq}(h:qeZ a<=1048576):Ev (fun n=>qjJ n a a) true:=by
 unfold qjJ;simp only[qeZ] at h;exact Ev.bind (qzc (a:=a.As) (by omega)) (Ev.ff Z (.done))
theorem qvC{a:ql}(h:qbT a<=1048576):Ev (fun n=>qgX n a a) true:=by
 unfold qgX;simp only[qbT] at h;exact Ev.ff qjg (Ev.ff qaI (Ev.bind (qge (a:=a.Am) (by omega)) (Ev.ff Z (.done))))
theorem qva{a:(List ql)}(h:qca a<=1048576):Ev (fun n=>qij n a a) true:=by
 have f:a.length<=1048576:=by simp only[qca] at h;omega
 unfold qij;exact Ev.ff (by simp) (Ev.bind (b:=.nxt (a.length:Int)) (qjH (eqf:=qgX) (fun x c=>qvC (by have:=qcL (wt:=fun x:ql=>qbT x) c;simp only[qca] at h;omega))
  (fun n=>by simp only[qeA,qk (je _),cond_false])
  (fun n j x c=>by
   have d:=(List.getElem?_eq_some_iff.1 c).1;simp only[qeA,qi d,cond_true,qR c,jd,wS j])) .done)
theorem qwB{a:(List ByteArray)}(h:qe5 a<=1048576):Ev (fun n=>qjs n a a) true:=by
 have f:a.length<=1048576:=by simp only[qe5] at h;omega
 unfold qjs;exact Ev.ff (by simp) (Ev.bind (b:=.nxt (a.length:Int)) (qjH (eqf:=fun _ x y=>V (!(x.toList != y.toList))) (fun x _=>Ev.now (by simp))
  (fun n=>by simp only[qfP,qk (je _),cond_false])
  (fun n j x c=>by
   have d:=(List.getElem?_eq_some_iff.1 c).1;simp only[qfP,qi d,cond_true,qR c,jd,Bool.not_not,wS j])) .done)
theorem qBm{a:qQ}(_:qiT a<=1048576):Ev (fun n=>qkI n a a) true:=by
 unfold qkI;exact Ev.ff qjg (Ev.ff qaI (Ev.ff qaI (.done)))
theorem qzU{a:(List qQ)}(h:qgE a<=1048576):Ev (fun n=>qlo n a a) true:=by
 have f:a.length<=1048576:=by simp only[qgE] at h;omega
 unfold qlo;exact Ev.ff (by simp) (Ev.bind (b:=.nxt (a.length:Int)) (qjH (eqf:=qkI) (fun x c=>qBm (by have:=qcL (wt:=fun x:qQ=>qiT x) c;simp only[qgE] at h;omega))
  (fun n=>by simp only[qg5,qk (je _),cond_false])
  (fun n j x c=>by
   have d:=(List.getElem?_eq_some_iff.1 c).1;simp only[qg5,qi d,cond_true,qR c,jd,wS j])) .done)
theorem qyg{a:qd}(h:qff a<=1048576):Ev (fun n=>qko n a a) true:=by
 unfold qko;simp only[qff] at h;exact Ev.bind (qva (a:=a.Ab) (by omega)) (Ev.ff Z (Ev.bind (qwB (a:=a.Am) (by omega)) (Ev.ff Z (Ev.bind (qzU (a:=a.Aj) (by omega)) (Ev.ff Z (.done))))))
theorem qAF{a:qE}(h:qgx a<=1048576):Ev (fun n=>qkL n a a) true:=by
 unfold qkL;simp only[qgx] at h;exact Ev.bind (qge (a:=a.Ar) (by omega)) (Ev.ff Z (Ev.bind (qge (a:=a.Bz) (by omega)) (Ev.ff Z (Ev.bind (qge (a:=a.Bv) (by omega)) (Ev.ff Z (Ev.bind (qge (a:=a.Bn) (by omega)) (Ev.ff Z (.done))))))))
theorem qAc{a:(List qE)}(h:qgL a<=1048576):Ev (fun n=>qk6 n a a) true:=by
 have f:a.length<=1048576:=by simp only[qgL] at h;omega
 unfold qk6;exact Ev.ff (by simp) (Ev.bind (b:=.nxt (a.length:Int)) (qjH (eqf:=qkL) (fun x c=>qAF (by have:=qcL (wt:=fun x:qE=>qgx x) c;simp only[qgL] at h;omega))
  (fun n=>by simp only[qgR,qk (je _),cond_false])
  (fun n j x c=>by
   have d:=(List.getElem?_eq_some_iff.1 c).1;simp only[qgR,qi d,cond_true,qR c,jd,wS j])) .done)
theorem qzw{a:qj}(h:qgM a<=1048576):Ev (fun n=>qk9 n a a) true:=by
 unfold qk9;simp only[qgM] at h;exact Ev.bind (qwF (a:=a.Au) (by omega)) (Ev.ff Z (Ev.bind (qyg (a:=a.Aa) (by omega)) (Ev.ff Z (Ev.bind (qAc (a:=a.Ah) (by omega)) (Ev.ff Z (.done))))))
theorem qg8{a:(List Int)}{left:Int}(h:(rngL rngI) a)(b:0<=left)(c:left<=1048576):Sz (fun n=>qcf n a left) (fun r=>r=left-(qa3 a:Int)):=
 Sz.less b c (by omega) (by have:=h.1;omega) (fun _=>rfl)
theorem qy8{a:qv}{left:Int}(h:qi3 a)(g:0<=left)(i:left<=1048576):Sz (fun n=>qju n a left) (fun r=>r=left-(qeE a:Int)):=by
 unfold qju;obtain⟨b,c,d⟩:=h;exact Sz.step (qg8 (a:=a.Bo) b (by omega) (by omega)) fun s k m=>Sz.step (qg8 (a:=a.Bk) c (by omega) (by omega)) fun t l o=>Sz.step (qg8 (a:=a.Bj) d (by omega) (by omega)) fun u f p=>Sz.done f (by simp only[qeE];omega)
theorem qt1{a:(List qv)}{left:Int}(h:(rngL qi3) a)(d:0<=left)(f:left<=1048576):Sz (fun n=>qke n a left) (fun r=>r=left-(qds a:Int)):=
 Sz.list (Lf:=qe2 a) (wt:=fun x:qv=>qeE x) (el:=qju) d f h.1 (fun x b left p q=>qy8 (h.2 x b) p q)
  (fun c n=>by simp only[qe2,qk (je _),cond_false])
  (fun c n j x b=>by
   have g:=(List.getElem?_eq_some_iff.1 b).1;have i:=h.1;simp only[qe2,qi g,cond_true,qR b,jd,wS j])
  (fun _=>rfl)
theorem qCe{a:qI}{left:Int}(h:qnO a)(l:0<=left)(m:left<=1048576):Sz (fun n=>qlF n a left) (fun r=>r=left-(qjR a:Int)):=by
 unfold qlF;obtain⟨d,f,g,i,b,c⟩:=h;exact Sz.step (qt1 (a:=a.Bp) b (by omega) (by omega)) fun t o p=>Sz.step (qt1 (a:=a.Bf) c (by omega) (by omega)) fun u k s=>Sz.done k (by simp only[qjR];omega)
theorem qBj{a:(List qI)}{left:Int}(h:(rngL qnO) a)(d:0<=left)(f:left<=1048576):Sz (fun n=>qoq n a left) (fun r=>r=left-(qio a:Int)):=
 Sz.list (Lf:=qgs a) (wt:=fun x:qI=>qjR x) (el:=qlF) d f h.1 (fun x b left p q=>qCe (h.2 x b) p q)
  (fun c n=>by simp only[qgs,qk (je _),cond_false])
  (fun c n j x b=>by
   have g:=(List.getElem?_eq_some_iff.1 b).1;have i:=h.1;simp only[qgs,qi g,cond_true,qR b,jd,wS j])
  (fun _=>rfl)
theorem qCa{a:qao}{left:Int}(h:qnu a)(i:0<=left)(k:left<=1048576):Sz (fun n=>qlJ n a left) (fun r=>r=left-(qlH a:Int)):=by
 unfold qlJ;obtain⟨b,c,d,f⟩:=h;exact Sz.strStep b (by omega) (by omega) fun g l=>Sz.done g (by simp only[qlH];omega)
theorem qAD{a:(List qao)}{left:Int}(h:(rngL qnu) a)(d:0<=left)(f:left<=1048576):Sz (fun n=>qo2 n a left) (fun r=>r=left-(qip a:Int)):=
 Sz.list (Lf:=qgv a) (wt:=fun x:qao=>qlH x) (el:=qlJ) d f h.1 (fun x b left p q=>qCa (h.2 x b) p q)
  (fun c n=>by simp only[qgv,qk (je _),cond_false])
  (fun c n j x b=>by
   have g:=(List.getElem?_eq_some_iff.1 b).1;have i:=h.1;simp only[qgv,qi g,cond_true,qR b,jd,wS j])
  (fun _=>rfl)
theorem qBE{a:qB}{left:Int}(h:ql0 a)(m:0<=left)(o:left<=1048576):Sz (fun n=>qkE n a left) (fun r=>r=left-(qgb a:Int)):=by
 unfold qkE;obtain⟨b,g,c,d,f,i,k⟩:=h;exact Sz.strStep b (by omega) (by omega) fun p u=>Sz.step (qAD (a:=a.Bg) c (by omega) (by omega)) fun z s v=>Sz.step (qBj (a:=a.Ba) d (by omega) (by omega)) fun A t x=>Sz.step (qg8 (a:=a.Bq) f (by omega) (by omega)) fun B l y=>Sz.done l (by simp only[qgb];omega)
theorem qzj{a:(List qB)}{left:Int}(h:(rngL ql0) a)(d:0<=left)(f:left<=1048576):Sz (fun n=>qnU n a left) (fun r=>r=left-(qgB a:Int)):=
 Sz.list (Lf:=qfx a) (wt:=fun x:qB=>qgb x) (el:=qkE) d f h.1 (fun x b left p q=>qBE (h.2 x b) p q)
  (fun c n=>by simp only[qfx,qk (je _),cond_false])
  (fun c n j x b=>by
   have g:=(List.getElem?_eq_some_iff.1 b).1;have i:=h.1;simp only[qfx,qi g,cond_true,qR b,jd,wS j])
  (fun _=>rfl)
theorem qxg{a:qq}{left:Int}(h:qmq a)(d:0<=left)(f:left<=1048576):Sz (fun n=>qjb n a left) (fun r=>r=left-(qeZ a:Int)):=by
 unfold qjb;have b:=h;exact Sz.step (qzj (a:=a.As) b (by omega) (by omega)) fun i c g=>Sz.done c (by simp only[qeZ];omega)
theorem qvT{a:ql}{left:Int}(h:qgJ a)(g:0<=left)(i:left<=1048576):Sz (fun n=>qg0 n a left) (fun r=>r=left-(qbT a:Int)):=by
 unfold qg0;obtain⟨b,d,c⟩:=h;exact Sz.strStep b (by omega) (by omega) fun k l=>Sz.step (qg8 (a:=a.Am) c (by omega) (by omega)) fun o f m=>Sz.done f (by simp only[qbT];omega)
theorem quA{a:(List ql)}{left:Int}(h:(rngL qgJ) a)(d:0<=left)(f:left<=1048576):Sz (fun n=>qj4 n a left) (fun r=>r=left-(qca a:Int)):=
 Sz.list (Lf:=qdd a) (wt:=fun x:ql=>qbT x) (el:=qg0) d f h.1 (fun x b left p q=>qvT (h.2 x b) p q)
  (fun c n=>by simp only[qdd,qk (je _),cond_false])
  (fun c n j x b=>by
   have g:=(List.getElem?_eq_some_iff.1 b).1;have i:=h.1;simp only[qdd,qi g,cond_true,qR b,jd,wS j])
  (fun _=>rfl)
theorem qxj{a:(List ByteArray)}{left:Int}(h:(rngL rngS) a)(d:0<=left)(f:left<=1048576):Sz (fun n=>qlP n a left) (fun r=>r=left-(qe5 a:Int)):=
 Sz.list (Lf:=qek a) (wt:=fun x:ByteArray=>x.size) (el:=fun _ (x:ByteArray) b=>V (W64 (b-(x.size:Int)))) d f h.1 (fun x c left p q=>Sz.str (h.2 x c) p q)
  (fun b n=>by simp only[qek,qk (je _),cond_false])
  (fun b n j x c=>by
   have g:=(List.getElem?_eq_some_iff.1 c).1;have i:=h.1;simp only[qek,qi g,cond_true,qR c,jd,wS j])
  (fun _=>rfl)
theorem qAN{a:qQ}{left:Int}(h:ql4 a)(g:0<=left)(i:left<=1048576):Sz (fun n=>qkJ n a left) (fun r=>r=left-(qiT a:Int)):=by
 unfold qkJ;obtain⟨b,c,d⟩:=h;exact Sz.strStep b (by omega) (by omega) fun f k=>Sz.done f (by simp only[qiT];omega)
theorem qzQ{a:(List qQ)}{left:Int}(h:(rngL ql4) a)(d:0<=left)(f:left<=1048576):Sz (fun n=>qnB n a left) (fun r=>r=left-(qgE a:Int)):=
 Sz.list (Lf:=qft a) (wt:=fun x:qQ=>qiT x) (el:=qkJ) d f h.1 (fun x b left p q=>qAN (h.2 x b) p q)
  (fun c n=>by simp only[qft,qk (je _),cond_false])
  (fun c n j x b=>by
   have g:=(List.getElem?_eq_some_iff.1 b).1;have i:=h.1;simp only[qft,qi g,cond_true,qR b,jd,wS j])
  (fun _=>rfl)
theorem qyY{a:qd}{left:Int}(h:qnS a)(g:0<=left)(i:left<=1048576):Sz (fun n=>qkb n a left) (fun r=>r=left-(qff a:Int)):=by
 unfold qkb;obtain⟨b,c,d⟩:=h;exact Sz.step (quA (a:=a.Ab) b (by omega) (by omega)) fun s k m=>Sz.step (qxj (a:=a.Am) c (by omega) (by omega)) fun t l o=>Sz.step (qzQ (a:=a.Aj) d (by omega) (by omega)) fun u f p=>Sz.done f (by simp only[qff];omega)
theorem qBD{a:qE}{left:Int}(h:ql6 a)(i:0<=left)(k:left<=1048576):Sz (fun n=>qkA n a left) (fun r=>r=left-(qgx a:Int)):=by
 unfold qkA;obtain⟨b,c,d,f⟩:=h;exact Sz.step (qg8 (a:=a.Ar) b (by omega) (by omega)) fun v l p=>Sz.step (qg8 (a:=a.Bz) c (by omega) (by omega)) fun x m s=>Sz.step (qg8 (a:=a.Bv) d (by omega) (by omega)) fun y o t=>Sz.step (qg8 (a:=a.Bn) f (by omega) (by omega)) fun z g u=>Sz.done g (by simp only[qgx];omega)
theorem qzZ{a:(List qE)}{left:Int}(h:(rngL ql6) a)(d:0<=left)(f:left<=1048576):Sz (fun n=>qn1 n a left) (fun r=>r=left-(qgL a:Int)):=
 Sz.list (Lf:=qfw a) (wt:=fun x:qE=>qgx x) (el:=qkA) d f h.1 (fun x b left p q=>qBD (h.2 x b) p q)
  (fun c n=>by simp only[qfw,qk (je _),cond_false])
  (fun c n j x b=>by
   have g:=(List.getElem?_eq_some_iff.1 b).1;have i:=h.1;simp only[qfw,qi g,cond_true,qR b,jd,wS j])
  (fun _=>rfl)
theorem qzI{a:qj}{left:Int}(h:qpa a)(g:0<=left)(i:left<=1048576):Sz (fun n=>qll n a left) (fun r=>r=left-(qgM a:Int)):=by
 unfold qll;obtain⟨b,c,d⟩:=h;exact Sz.step (qxg (a:=a.Au) b (by omega) (by omega)) fun s k m=>Sz.step (qyY (a:=a.Aa) c (by omega) (by omega)) fun t l o=>Sz.step (qzZ (a:=a.Ah) d (by omega) (by omega)) fun u f p=>Sz.done f (by simp only[qgM];omega)
theorem qhe{a:(List Int)}(h:qa3 a<=1048576):Ev (fun n=>qbN n a) a:=by
 have i:a.length<=1048576:=by simp only[qa3] at h;omega
 unfold qbN;exact Ev.bindN (qje (by omega)) (Ev.bind (b:=(a,(a.length:Int))) (qkd (cp:=fun _ x=>V x) (fun _ _=>.done)
  (fun c n=>by simp only[qgz,qk (je _),cond_false])
  (fun c n j x y d g=>by
   have f:=(List.getElem?_eq_some_iff.1 d).1;simp only[qgz,qi f,cond_true,qR d,qR g,jd,wS j])) .done)
theorem qzD{a:qv}(h:qeE a<=1048576):Ev (fun n=>qjx n a) a:=by
 unfold qjx;simp only[qeE] at h;exact Ev.bind (qhe (a:=a.Bo) (by omega)) (Ev.bind (qhe (a:=a.Bk) (by omega)) (Ev.bind (qhe (a:=a.Bj) (by omega)) (.done)))
theorem qut{a:(List qv)}(h:qds a<=1048576):Ev (fun n=>qiq n a) a:=by
 have i:a.length<=1048576:=by simp only[qds] at h;omega
 unfold qiq;exact Ev.bindN (qje (by omega)) (Ev.bind (b:=(a,(a.length:Int))) (qkd (cp:=qjx) (fun x c=>qzD (by have:=qcL (wt:=fun x:qv=>qeE x) c;simp only[qds] at h;omega))
  (fun d n=>by simp only[qgg,qk (je _),cond_false])
  (fun d n j x y c g=>by
   have f:=(List.getElem?_eq_some_iff.1 c).1;simp only[qgg,qi f,cond_true,qR c,qR g,jd,wS j])) .done)
theorem qCh{a:qI}(h:qjR a<=1048576):Ev (fun n=>qlS n a) a:=by
 unfold qlS;simp only[qjR] at h;exact Ev.bind (qut (a:=a.Bp) (by omega)) (Ev.bind (qut (a:=a.Bf) (by omega)) (.done))
theorem qAY{a:(List qI)}(h:qio a<=1048576):Ev (fun n=>qmf n a) a:=by
 have i:a.length<=1048576:=by simp only[qio] at h;omega
 unfold qmf;exact Ev.bindN (qje (by omega)) (Ev.bind (b:=(a,(a.length:Int))) (qkd (cp:=qlS) (fun x c=>qCh (by have:=qcL (wt:=fun x:qI=>qjR x) c;simp only[qio] at h;omega))
  (fun d n=>by simp only[qhS,qk (je _),cond_false])
  (fun d n j x y c g=>by
   have f:=(List.getElem?_eq_some_iff.1 c).1;simp only[qhS,qi f,cond_true,qR c,qR g,jd,wS j])) .done)
theorem qB9{a:qao}(_:qlH a<=1048576):Ev (fun n=>qlN n a) a:=by
 unfold qlN;exact .done
theorem qA2{a:(List qao)}(h:qip a<=1048576):Ev (fun n=>qme n a) a:=by
 have i:a.length<=1048576:=by simp only[qip] at h;omega
 unfold qme;exact Ev.bindN (qje (by omega)) (Ev.bind (b:=(a,(a.length:Int))) (qkd (cp:=qlN) (fun x c=>qB9 (by have:=qcL (wt:=fun x:qao=>qlH x) c;simp only[qip] at h;omega))
  (fun d n=>by simp only[qhz,qk (je _),cond_false])
  (fun d n j x y c g=>by
   have f:=(List.getElem?_eq_some_iff.1 c).1;simp only[qhz,qi f,cond_true,qR c,qR g,jd,wS j])) .done)
theorem qBb{a:qB}(h:qgb a<=1048576):Ev (fun n=>qkM n a) a:=by
 unfold qkM;simp only[qgb] at h;exact Ev.bind (qA2 (a:=a.Bg) (by omega)) (Ev.bind (qAY (a:=a.Ba) (by omega)) (Ev.bind (qhe (a:=a.Bq) (by omega)) (.done)))
theorem qzC{a:(List qB)}(h:qgB a<=1048576):Ev (fun n=>qk7 n a) a:=by
 have i:a.length<=1048576:=by simp only[qgB] at h;omega
 unfold qk7;exact Ev.bindN (qje (by omega)) (Ev.bind (b:=(a,(a.length:Int))) (qkd (cp:=qkM) (fun x c=>qBb (by have:=qcL (wt:=fun x:qB=>qgb x) c;simp only[qgB] at h;omega))
  (fun d n=>by simp only[qg4,qk (je _),cond_false])
  (fun d n j x y c g=>by
   have f:=(List.getElem?_eq_some_iff.1 c).1;simp only[qg4,qi f,cond_true,qR c,qR g,jd,wS j])) .done)
theorem qwK{a:qq}(h:qeZ a<=1048576):Ev (fun n=>qja n a) a:=by
 unfold qja;simp only[qeZ] at h;exact Ev.bind (qzC (a:=a.As) (by omega)) (.done)
theorem qvA{a:ql}(h:qbT a<=1048576):Ev (fun n=>qgS n a) a:=by
 unfold qgS;simp only[qbT] at h;exact Ev.bind (qhe (a:=a.Am) (by omega)) (.done)
theorem qvj{a:(List ql)}(h:qca a<=1048576):Ev (fun n=>qhU n a) a:=by
 have i:a.length<=1048576:=by simp only[qca] at h;omega
 unfold qhU;exact Ev.bindN (qje (by omega)) (Ev.bind (b:=(a,(a.length:Int))) (qkd (cp:=qgS) (fun x c=>qvA (by have:=qcL (wt:=fun x:ql=>qbT x) c;simp only[qca] at h;omega))
  (fun d n=>by simp only[qez,qk (je _),cond_false])
  (fun d n j x y c g=>by
   have f:=(List.getElem?_eq_some_iff.1 c).1;simp only[qez,qi f,cond_true,qR c,qR g,jd,wS j])) .done)
theorem qw6{a:(List ByteArray)}(h:qe5 a<=1048576):Ev (fun n=>qjB n a) a:=by
 have i:a.length<=1048576:=by simp only[qe5] at h;omega
 unfold qjB;exact Ev.bindN (qje (by omega)) (Ev.bind (b:=(a,(a.length:Int))) (qkd (cp:=fun _ x=>V x) (fun _ _=>.done)
  (fun c n=>by simp only[qfN,qk (je _),cond_false])
  (fun c n j x y d g=>by
   have f:=(List.getElem?_eq_some_iff.1 d).1;simp only[qfN,qi f,cond_true,qR d,qR g,jd,wS j])) .done)
theorem qA6{a:qQ}(_:qiT a<=1048576):Ev (fun n=>qkB n a) a:=by
 unfold qkB;exact .done
theorem qzl{a:(List qQ)}(h:qgE a<=1048576):Ev (fun n=>qlc n a) a:=by
 have i:a.length<=1048576:=by simp only[qgE] at h;omega
 unfold qlc;exact Ev.bindN (qje (by omega)) (Ev.bind (b:=(a,(a.length:Int))) (qkd (cp:=qkB) (fun x c=>qA6 (by have:=qcL (wt:=fun x:qQ=>qiT x) c;simp only[qgE] at h;omega))
  (fun d n=>by simp only[qgV,qk (je _),cond_false])
  (fun d n j x y c g=>by
   have f:=(List.getElem?_eq_some_iff.1 c).1;simp only[qgV,qi f,cond_true,qR c,qR g,jd,wS j])) .done)
theorem qyI{a:qd}(h:qff a<=1048576):Ev (fun n=>qkk n a) a:=by
 unfold qkk;simp only[qff] at h;exact Ev.bind (qvj (a:=a.Ab) (by omega)) (Ev.bind (qw6 (a:=a.Am) (by omega)) (Ev.bind (qzl (a:=a.Aj) (by omega)) (.done)))
theorem qAJ{a:qE}(h:qgx a<=1048576):Ev (fun n=>qkO n a) a:=by
 unfold qkO;simp only[qgx] at h;exact Ev.bind (qhe (a:=a.Ar) (by omega)) (Ev.bind (qhe (a:=a.Bz) (by omega)) (Ev.bind (qhe (a:=a.Bv) (by omega)) (Ev.bind (qhe (a:=a.Bn) (by omega)) (.done))))
theorem qy9{a:(List qE)}(h:qgL a<=1048576):Ev (fun n=>qla n a) a:=by
 have i:a.length<=1048576:=by simp only[qgL] at h;omega
 unfold qla;exact Ev.bindN (qje (by omega)) (Ev.bind (b:=(a,(a.length:Int))) (qkd (cp:=qkO) (fun x c=>qAJ (by have:=qcL (wt:=fun x:qE=>qgx x) c;simp only[qgL] at h;omega))
  (fun d n=>by simp only[qg3,qk (je _),cond_false])
  (fun d n j x y c g=>by
   have f:=(List.getElem?_eq_some_iff.1 c).1;simp only[qg3,qi f,cond_true,qR c,qR g,jd,wS j])) .done)
theorem qzs{a:qj}(h:qgM a<=1048576):Ev (fun n=>qlm n a) a:=by
 unfold qlm;simp only[qgM] at h;exact Ev.bind (qwK (a:=a.Au) (by omega)) (Ev.bind (qyI (a:=a.Aa) (by omega)) (Ev.bind (qy9 (a:=a.Ah) (by omega)) (.done)))
end Go.Fw


namespace Go.Fw
open Go
set_option maxRecDepth 100000
theorem qcA{n:Nat}{x lo hi:Int}:qam n x lo hi=V (inI x lo hi):=by
 simp only[qam,qoC,qql];rfl
theorem qcM{n:Nat}{x lo hi:Int}:qaS n x lo hi=V (inI x lo hi):=by
 simp only[qaS,qoC,qql];rfl
def bt(s:ByteArray)(j:Nat):Nat:=(s.data.toList.getD j 0).toNat
theorem qzu{s:ByteArray}{j:Nat}(h:j<s.size):atS s (j:Int)=V (bt s j:Int):=by
 have a:j<s.data.size:=h;have b:j<s.data.toList.length:=by simpa using a
 unfold atS;rw[if_pos (by omega),jr];have:s[j]?=V (s.data.toList.getD j 0):=by
  rw[getElem?_pos s j h,jF,jh b]
  rfl
 rw[this]
 rfl
def letB(b:Nat):Bool:=decide (97<=b)&&decide (b<=122)
def digB(b:Nat):Bool:=decide (48<=b)&&decide (b<=57)
def chB(s:ByteArray)(j:Nat):Bool:=letB (bt s j) || digB (bt s j)&&decide (0<j)
def nameB(s:ByteArray):Bool:=(decide (1<=s.size)&&decide (s.size<=8))&&allN (chB s) s.size
theorem qnv{s:ByteArray}(h:okS s):Ev (fun n=>qgO n s) (nameB s):=by
 unfold okS at h;have d:Ev (fun n=>qep s n 0) (bif allN (chB s) s.size then .nxt (s.size:Int) else .ret false):=by
  refine qfi ?_ (fun j a X f=>?_)
  ·exact Ev.succ (by simp only[qep,qk (je _),cond_false];exact .done)
  ·refine Ev.succ ?_;simp only[qep,qi a,cond_true,qzu a,jd,qoC,qql,wS j];have e1:(decide ((bt s j:Int)>=97)&&decide ((bt s j:Int)<=122))=letB (bt s j):=by unfold letB;rw[jn];simp;omega
   have b:(decide ((bt s j:Int)>=48)&&decide ((bt s j:Int)<=57))=digB (bt s j):=by unfold digB;rw[jn];simp;omega
   have c:decide ((j:Int) > 0)=decide (0<j):=by rw[jn];simp
   rw[e1,b,c];unfold chB;cases letB (bt s j)<;>cases digB (bt s j)<;>cases decide (0<j)<;>first|exact f|exact .done
 unfold qgO;refine Ev.cast (r:=bif allN (chB s) s.size then(decide (1<=s.size)&&decide (s.size<=8)) else false) (Ev.bindB d (fun _=>?_) (fun _=>.done)) ?_
 ·simp only[qoC,qql];exact Ev.now (by congr 1;rw[jn];simp;omega)
 ·unfold nameB;cases allN (chB s) s.size<;>simp
def cutset:List UInt8:=[97,98,99,100,101,102,103,104,105,106,107,108,109,110,111,112,113,114,115,116,117,118,119,120,121,122,48,49,50,51,52,53,54,55,56,57]
theorem qsT(b:UInt8):cutset.contains b=(letB b.toNat || digB b.toNat):=by
 have a:(List.range 256).all (fun m=>cutset.contains (UInt8.ofNat m)==(letB (UInt8.ofNat m).toNat || digB (UInt8.ofNat m).toNat))=true:=by kernel_rfl
 have h:=List.all_eq_true.1 a b.toNat (List.mem_range.2 b.toNat_lt);rw[beq_iff_eq] at h;simpa using h
def letters:List UInt8:=[97,98,99,100,101,102,103,104,105,106,107,108,109,110,111,112,113,114,115,116,117,118,119,120,121,122]
theorem qxx(m:Nat)(b:m<256):decide ((Lib.indexByte letters m.toUInt8)>=0)=letB m:=by
 have a:(List.range 256).all (fun m=>decide ((Lib.indexByte letters m.toUInt8)>=0)==letB m)=true:=by kernel_rfl
 have h:=List.all_eq_true.1 a m (List.mem_range.2 b);rwa [beq_iff_eq] at h
theorem qtK{α:Type}{p:α->Bool}{l:List α}:l.dropWhile p=[]↔∀x,x∈l->p x=true:=by
 induction l with
 |nil=>simp
 |cons y l ih=>
  rw[List.dropWhile_cons];by_cases h:p y=true
  ·rw[if_pos h,ih];simp[h]
  ·rw[if_neg h];simp[h]
theorem qtz{α:Type}{p:α->Bool}{l:List α}(h:∀x,x∈l.dropWhile p->p x=true):∀x,x∈l->p x=true:=by
 induction l with
 |nil=>simp
 |cons y l ih=>
  rw[List.dropWhile_cons] at h;by_cases b:p y=true
  ·rw[if_pos b] at h;intro x a;rcases List.mem_cons.1 a with rfl|a
   ·exact b
   ·exact ih h x a
  ·rw[if_neg b] at h;exact h
theorem qzP{l cs:List UInt8}:Lib.trimS l cs=[]↔∀x,x∈l->cs.contains x=true:=by
 unfold Lib.trimS Lib.trimRightS Lib.trimLeftS;rw[qtK];constructor
 ·intro h x a;exact qtz (p:=(cs.contains ·)) (l:=l.reverse) (fun y b=>h y (List.mem_reverse.2 b)) x (List.mem_reverse.2 a)
 ·intro h x a;exact h x (List.mem_reverse.1 ((List.dropWhile_suffix _).subset (List.mem_reverse.1 a)))
theorem qiu{a b:ByteArray}:(a.toList==b.toList)=decide (a=b):=by
 rw[jn,beq_iff_eq,decide_eq_true_iff];constructor
 ·intro h;exact ByteArray.ext (by have:=congrArg List.toArray h;simpa [ByteArray.toList_eq] using this)
 ·rintro rfl;rfl

theorem qBN{s:ByteArray}{j:Nat}(h:j<s.data.toList.length):bt s j=(s.data.toList[j]).toNat:=by
 unfold bt;rw[jF,jh h];rfl
theorem qCo{s:ByteArray}{j:Nat}:bt s j<256:=UInt8.toNat_lt _
theorem qrb{n:Nat}{s:ByteArray}(h:okS s):qi6 n s=V (nameB s):=by
 unfold okS at h;have z:s.data.toList.length=s.size:=by simp
 simp only[qi6,qcM,jd];cases hI:inI (s.size:Int) 1 8 with
 |false=>
  have k:(decide (1<=s.size)&&decide (s.size<=8))=false:=by rw[qy4] at hI;rw[Bool.and_eq_false_iff,decide_eq_false_iff_not,decide_eq_false_iff_not];omega
  simp[nameB,k]
 |true=>
  have k:1<=s.size/\s.size<=8:=by rw[qbc] at hI;omega
  have t:qjy n s (⟨#[97,98,99,100,101,102,103,104,105,106,107,108,109,110,111,112,113,114,115,116,117,118,119,120,121,122,48,49,50,51,52,53,54,55,56,57]⟩:ByteArray)=V ⟨(Lib.trimS s.data.toList cutset).toArray⟩:=by
   unfold qjy;rw[if_pos ⟨by omega,by decide,by decide⟩]
   rfl
  rw[t];simp only[cond_true,jd];have p:(((⟨(Lib.trimS s.data.toList cutset).toArray⟩:ByteArray).toList==(⟨#[]⟩:ByteArray).toList))=allN (fun j=>letB (bt s j) || digB (bt s j)) s.size:=by
   rw[qiu,jn,decide_eq_true_iff,qas];have:((⟨(Lib.trimS s.data.toList cutset).toArray⟩:ByteArray)=⟨#[]⟩)↔Lib.trimS s.data.toList cutset=[]:=by
    constructor
    ·intro i;have:=congrArg (fun x:ByteArray=>x.data.toList) i;simpa using this
    ·intro i;rw[i]
   rw[this,qzP];constructor
   ·intro m j a;have c:j<s.data.toList.length:=by omega
    have:=m _ (jt c);rw[qsT,<-qBN c] at this;exact this
   ·intro m x u;obtain⟨j,a,rfl⟩:=jV u;have:=m j (by omega);rw[qsT,<-qBN a];exact this
  rw[p];have o:atS s 0=V (bt s 0:Int):=qzu (j:=0) (by omega);have g:decide (Lib.indexByte letters (bt s 0:Int).toNat.toUInt8>=0)=letB (bt s 0):=by
   rw[jr];exact qxx _ qCo
  have r:∀b:Bool,(bif b then(atS s 0).bind fun y=>(qhp n (⟨#[97,98,99,100,101,102,103,104,105,106,107,108,109,110,111,112,113,114,115,116,117,118,119,120,121,122]⟩:ByteArray) (⟨y⟩:IntK .u8)).bind fun v=>V (decide (v>=0)) else V false)=V (b&&letB (bt s 0)):=by
   intro b;cases b with
   |false=>rfl
   |true=>
    rw[o];simp only[cond_true,jd,qhp,jG];exact congrArg V g
  rw[r]
  congr 1
  have l:(decide (1<=s.size)&&decide (s.size<=8))=true:=by simp[k]
  unfold nameB;rw[l,jG,jn,jf,qas,qas];simp only[chB,Bool.or_eq_true,jf,decide_eq_true_eq];constructor
  ·rintro⟨d,f⟩ j a;rcases Nat.eq_zero_or_pos j with rfl|hp
   ·exact .inl f
   ·exact(d j a).imp id (fun h=>⟨h,hp⟩)
  ·intro d;refine⟨fun j a=>(d j a).imp id (fun h=>h.1),?_⟩;rcases d 0 (by omega) with f|f
   ·exact f
   ·omega
def strAt(xs:List ByteArray)(j:Nat):ByteArray:=xs.getD j ByteArray.empty
theorem qp6{xs:List ByteArray}{j:Nat}(h:j<xs.length):strAt xs j=xs[j]:=by simp[strAt,h]
theorem qsi{xs:List ByteArray}{j:Nat}(h:j<xs.length):idx xs (j:Int)=V (strAt xs j):=by rw[qc4 h,qp6 h]
def neB(xs:List ByteArray)(j i:Nat):Bool:=!decide (strAt xs i=strAt xs j)
def namesB(xs:List ByteArray):Bool:=allN (fun j=>nameB (strAt xs j)&&allN (neB xs j) j) xs.length
theorem qou{xs:List ByteArray}(h:okL okS xs):Ev (fun n=>qhf n xs) (namesB xs):=by
 have f:=h.len;have c:∀j,j<xs.length->Ev (fun n=>qeU xs (j:Int) n 0) (bif allN (neB xs j) j then .nxt (j:Int) else .ret false):=by
  intro j a;refine qfi ?_ (fun i hi X d=>Ev.succ ?_)
  ·exact Ev.succ (by simp only[qeU,qk (je _),cond_false];exact .done)
  ·simp only[qeU,qi hi,cond_true,qsi (show i<xs.length by omega),qsi a,jd,qiu,wS i];unfold neB;cases decide (strAt xs i=strAt xs j)
   ·exact d
   ·exact .done
 have b:Ev (fun n=>qe0 xs n 0) (bif namesB xs then .nxt (xs.length:Int) else .ret false):=by
  refine qfi ?_ (fun j a X d=>Ev.succ ?_)
  ·exact Ev.succ (by simp only[qe0,qk (je _),cond_false];exact .done)
  ·simp only[qe0,qi a,cond_true,qsi a,jd,wS j];refine Ev.bind (qnv (by rw[qp6 a];exact h.at a)) ?_;cases nameB (strAt xs j)
   ·exact .done
   ·refine Ev.ff Z (Ev.bind (c j a) ?_);cases allN (neB xs j) j
    ·exact .done
    ·exact d
 unfold qhf;refine Ev.bind b ?_;cases namesB xs<;>exact .done
theorem qv1{xs:List ByteArray}{v:ByteArray}(c:xs.length<=1048576):Ev (fun n=>qf4 n xs v) (ixL (fun x=>decide (v=x)) xs):=
 qgW (fin:=(xs.length:Int)) (Lf:=qcl xs v) (pf:=fun _ x=>V (decide (v=x))) (fun _ _=>.done)
  (fun n=>by simp only[qcl,qk (je _),cond_false])
  (fun n j x a=>by
   have b:=(List.getElem?_eq_some_iff.1 a).1;simp only[qcl,qi b,cond_true,qR a,jd,qiu,wS j])
  (fun n=>by unfold qf4;congr 1;funext o;cases o<;>rfl)
theorem qs7{xs:List ByteArray}{v:ByteArray}(a:xs.length<=1048576):Ev (fun n=>qeI n xs v) (xs.any fun x=>decide (v=x)):=by
 unfold qeI;exact Ev.bind (qv1 a) (Ev.now (by rw[qpN]))
theorem qks{xs:List ByteArray}(h:okL okS xs):Ev (fun n=>qeM n xs) (namesB xs):=by
 have g:=h.len;have b:Ev (fun n=>qe7 xs n 0) (bif namesB xs then .nxt (xs.length:Int) else .ret false):=by
  refine qfi ?_ (fun j a X c=>Ev.succ ?_)
  ·exact Ev.succ (by simp only[qe7,qk (je _),cond_false];exact .done)
  ·have f:subS xs 0 (j:Int)=V (xs.take j):=by
    unfold subS;rw[if_pos ⟨by omega,by omega,by omega⟩];simp
   simp only[qe7,qi a,cond_true,qsi a,jd,f,qrb (show okS (strAt xs j) by rw[qp6 a];exact h.at a),wS j];cases nameB (strAt xs j)
   ·exact .done
   ·refine Ev.ff Z (Ev.bind (qs7 (by simp;omega)) ?_);have:((xs.take j).any fun x=>decide (strAt xs j=x)) = !allN (neB xs j) j:=by
     rw[qvZ (d:=ByteArray.empty)]
     congr 1
     rw[jv,Nat.min_eq_left (by omega)];refine qiU (fun i hi=>?_);unfold neB strAt
     congr 1
     have:(xs.take j).getD i ByteArray.empty=xs.getD i ByteArray.empty:=by simp[jF,hi]
     rw[this];exact decide_eq_decide.2 eq_comm
    rw[this];cases allN (neB xs j) j
    ·exact .done
    ·exact c
 unfold qeM;refine Ev.bind b ?_;cases namesB xs<;>exact .done

theorem qtr{n:Nat}{x lo hi:Int}:qid n x lo hi=V (!inI x lo hi):=by simp only[qid,qcM,jd]
theorem qeK{xs:List Int}{lo hi:Int}(d:xs.length<=1048576):Ev (fun n=>qb6 n xs lo hi) (xs.all fun x=>inI x lo hi):=by
 have b:Ev (fun n=>qa6 n xs lo hi) (ixL (fun x=>!inI x lo hi) xs):=
  qgW (fin:=(xs.length:Int)) (Lf:=qaj xs lo hi) (pf:=fun _ x=>V (!inI x lo hi)) (fun _ _=>.done)
   (fun n=>by simp only[qaj,qk (je _),cond_false])
   (fun n j x a=>by
    have c:=(List.getElem?_eq_some_iff.1 a).1;simp only[qaj,qi c,cond_true,qR a,jd,qtr,wS j])
   (fun n=>by unfold qa6;congr 1;funext o;cases o<;>rfl)
 unfold qb6 qbH;refine Ev.bind (Ev.bind b (Ev.now Z)) (Ev.now ?_);rw[qpN,qsd]
def stepB(xs:List Int)(j:Nat):Bool:=decide (j=0) || decide (at0 xs (j-1)<at0 xs j)
def incB(xs:List Int):Bool:=allN (stepB xs) xs.length
theorem qn6{xs:List Int}(m:xs.length<=1048576):Ev (fun n=>qfU n xs) (incB xs):=by
 have g:Ev (fun n=>qbF xs n 1) (bif incB xs then .nxt (max 1 xs.length:Int) else .ret false):=by
  by_cases b:xs.length=0
  ·have k:incB xs=true:=by unfold incB;rw[b];rfl
   rw[k];refine Ev.succ ?_;have:decide ((1:Int)<(xs.length:Int))=false:=by rw[b];decide
   simp only[qbF,this,cond_false];exact Ev.now (by rw[b];rfl)
  ·have:=qxR (Lf:=qbF xs) (len:=xs.length) (i0:=1) (f:=stepB xs) (bad:=false) (fin:=.nxt (max 1 xs.length:Int)) (by omega)
    (Ev.succ (by
     simp only[qbF,qk (je _),cond_false];exact Ev.now (by congr 2;omega)))
    (fun j l a X i=>Ev.succ (by
     simp only[qbF,qi a,cond_true,wS j,show(j:Int)-1=((j-1:Nat):Int) by omega,qK (show -9223372036854775808<=((j-1:Nat):Int) by omega) (by omega),qar (show j-1<xs.length by omega),qar a,jd];unfold stepB;by_cases c:at0 xs (j-1)<at0 xs j
     ·have e1:decide (at0 xs (j-1)>=at0 xs j)=false:=by simp;omega
      rw[e1];simp only[c,decide_true,Bool.or_true,cond_true,cond_false];exact i
     ·have e1:decide (at0 xs (j-1)>=at0 xs j)=true:=by simp;omega
      have d:decide (j=0)=false:=by simp;omega
      rw[e1,d];simp only[c,decide_false,Bool.or_self,cond_true,cond_false];exact .done))
   have e:allN (fun j=>stepB xs (1+j)) (xs.length-1)=incB xs:=by
    unfold incB;rw[jn,qas,qas];constructor
    ·intro h j a;cases j with
     |zero=>rfl
     |succ j=>have:=h j (by omega);rwa [Nat.add_comm] at this
    ·intro h j a;exact h (1+j) (by omega)
   rw[e] at this;exact this
 unfold qfU;refine Ev.bind g ?_;cases incB xs<;>exact .done
def lenB{α:Type}(xs:List α)(lo hi:Nat):Bool:=decide (lo<=xs.length)&&decide (xs.length<=hi)
theorem quV{α:Type}{xs:List α}{lo hi:Nat}:inI (xs.length:Int) (lo:Int) (hi:Int)=lenB xs lo hi:=by
 unfold inI lenB;rw[jn];simp
def axisB(xs:List Int):Bool:=lenB xs 1 4&&((xs.all fun x=>inI x 0 100000)&&incB xs)
theorem qun{xs:List Int}(a:xs.length<=1048576):Ev (fun n=>qkC n xs) (axisB xs):=by
 simp only[qkC,qbB,jd,qcM,show inI (xs.length:Int) 1 4=lenB xs 1 4 from quV (lo:=1) (hi:=4)];unfold axisB;cases lenB xs 1 4
 ·exact .done
 ·refine Ev.tt Z (Ev.bind (qeK a) ?_);cases (xs.all fun x=>inI x 0 100000)
  ·exact .done
  ·exact Ev.tt Z (Ev.bind (qn6 a) .done)
theorem qsD{xs:List Int}(k:xs.length<=1048576):Ev (fun n=>qjN n xs) (axisB xs):=by
 have i:Ev (fun n=>qeq xs n 0) (bif allN (fun j=>inI (at0 xs j) 0 100000&&stepB xs j) xs.length then .nxt (xs.length:Int) else .ret false):=by
  refine qfi ?_ (fun j c X a=>Ev.succ ?_)
  ·exact Ev.succ (by simp only[qeq,qk (je _),cond_false];exact .done)
  ·simp only[qeq,qi c,cond_true,qar c,jd,qcA,wS j];cases inI (at0 xs j) 0 100000
   ·exact .done
   ·simp only[Ji,cond_false,jG];unfold stepB;by_cases h:j=0
    ·subst h;exact Ev.ff (by decide) a
    ·simp only[show(j:Int)-1=((j-1:Nat):Int) by omega,qK (show -9223372036854775808<=((j-1:Nat):Int) by omega) (by omega),qar (show j-1<xs.length by omega),jd];have f:decide (j=0)=false:=by simp;omega
     have g:decide ((j:Int) > 0)=true:=by simp;omega
     rw[f,g];simp only[cond_true,Bool.false_or];by_cases b:at0 xs (j-1)<at0 xs j
     ·have e1:decide (at0 xs (j-1)>=at0 xs j)=false:=by simp;omega
      rw[e1];simp only[b,decide_true,cond_true,cond_false];exact a
     ·have e1:decide (at0 xs (j-1)>=at0 xs j)=true:=by simp;omega
      rw[e1];simp only[b,decide_false,cond_true,cond_false];exact .done
 have e:axisB xs=(allN (fun j=>inI (at0 xs j) 0 100000&&stepB xs j) xs.length&&lenB xs 1 4):=by
  unfold axisB incB;rw[qm2,qhB (d:=0),Bool.and_comm]
  rfl
 rw[e];unfold qjN;refine Ev.bind i ?_;cases allN (fun j=>inI (at0 xs j) 0 100000&&stepB xs j) xs.length
 ·exact .done
 ·simp only[cond_true,qoC,qql,jG];exact Ev.now (by congr 1;unfold lenB;rw[jn];simp;omega)
def tableB(t:qv):Bool:=axisB t.Bo&&(axisB t.Bk&&(decide (t.Bj.length=t.Bo.length*t.Bk.length)&&(t.Bj.all fun x=>inI x (-1000000) 1000000)))
theorem qxP{a b:Nat}(c:a<=1048576)(d:b<=1048576):W64 ((a:Int)*(b:Int))=((a*b:Nat):Int):=by
 have h:a*b<=1048576*1048576:=Nat.mul_le_mul c d;have e:(a:Int)*(b:Int)=((a*b:Nat):Int):=by simp
 rw[e];exact qK (by omega) (by omega)
theorem qw8{t:qv}(h:qjw t):Ev (fun n=>qlg n t) (tableB t):=by
 unfold qlg tableB;refine Ev.bind (qun h.Bo.len) ?_;cases axisB t.Bo
 ·exact .done
 ·refine Ev.tt Z (Ev.bind (qun h.Bk.len) ?_);cases axisB t.Bk
  ·exact .done
  ·rw[qxP h.Bo.len h.Bk.len];have e:(((t.Bj.length:Nat):Int)==((t.Bo.length*t.Bk.length:Nat):Int))=decide (t.Bj.length=t.Bo.length*t.Bk.length):=by rw[jn];simp;omega
   rw[e];cases decide (t.Bj.length=t.Bo.length*t.Bk.length)
   ·exact .done
   ·exact Ev.tt Z (Ev.tt Z (Ev.bind (qeK h.Bj.len) .done))
theorem qwa{t:qv}(h:qjw t):Ev (fun n=>qln n t) (tableB t):=by
 have f:=h.Bj.len;have c:Ev (fun n=>qfs t n 0) (bif (t.Bj.all fun x=>inI x (-1000000) 1000000) then .nxt (t.Bj.length:Int) else .ret false):=
  qqD (fun n=>by simp only[qfs,qk (je _),cond_false]) (fun j a X d=>by
   simp only[qfs,qi a,cond_true,qc4 a,jd,qcA,wS j];cases inI t.Bj[j] (-1000000) 1000000
   ·exact .done
   ·exact d)
 unfold qln tableB;refine Ev.bind (b:=!(axisB t.Bo&&(axisB t.Bk&&decide (t.Bj.length=t.Bo.length*t.Bk.length)))) ?_ ?_
 ·refine Ev.bind (qsD h.Bo.len) ?_;cases axisB t.Bo
  ·exact .done
  ·refine Ev.ff Z (Ev.bind (qsD h.Bk.len) ?_);cases axisB t.Bk
   ·exact .done
   ·refine Ev.ff Z (Ev.now ?_);rw[qxP h.Bo.len h.Bk.len]
    congr 1
    rw[jn];simp;omega
 ·cases axisB t.Bo
  ·exact .done
  ·cases axisB t.Bk
   ·exact .done
   ·cases decide (t.Bj.length=t.Bo.length*t.Bk.length)
    ·exact .done
    ·refine Ev.ff Z (Ev.bind c ?_);cases (t.Bj.all fun x=>inI x (-1000000) 1000000)<;>exact .done

instance:Inhabited qao:=⟨⟨ByteArray.empty,0,0,false⟩⟩
instance:Inhabited qv:=⟨⟨[],[],[]⟩⟩
instance:Inhabited qI:=⟨⟨0,0,0,0,[],[]⟩⟩
instance:Inhabited qB:=⟨⟨ByteArray.empty,0,[],[],[],0,0⟩⟩
instance:Inhabited ql:=⟨⟨ByteArray.empty,0,[]⟩⟩
instance:Inhabited qQ:=⟨⟨ByteArray.empty,0,0⟩⟩
instance:Inhabited qE:=⟨⟨[],[],[],[]⟩⟩
theorem lastE{j m:Nat}(h:j<m)(a:m<=1048576):((j:Int)==W64 ((m:Int)-1))=decide (j+1=m):=by
 rcases qA7 h with h|h
 ·exact h
 ·omega
theorem qlA{α:Type}[Inhabited α]{xs:List α}{g:α->ByteArray}{j:Nat}(h:j<xs.length):strAt (xs.map g) j=g (gt xs j):=by
 rw[qp6 (by simpa using h),qcR h];simp
theorem qo6{α:Type}{xs:List α}{g:α->ByteArray}{ok:α->Prop}(h:okL ok xs)(a:∀x,ok x->okS (g x)):okL okS (xs.map g):=
 ⟨by rw[jq];exact h.1,fun y c=>by
  obtain⟨x,b,rfl⟩:=List.mem_map.1 c;exact a x (h.2 x b)⟩
theorem qmX{α β:Type}{xs:List α}{g:α->β}{j:Nat}(h:j<xs.length)(a:xs.length<=1048576){y:β}:appS ((xs.take j).map g) [y]=V ((xs.take j).map g++[y]):=
 qbm (by simp;omega)
def pinB(ps:List qao)(j:Nat):Bool:=
 bif decide (j+1=ps.length) then((gt ps j).Bx==2)&&(((gt ps j).Bv==0)&&!(gt ps j).Bt) else((gt ps j).Bx==1)&&inI (gt ps j).Bv 0 500
def pinsB(ps:List qao):Bool:=allN (pinB ps) ps.length&&(lenB ps 2 5&&namesB (ps.map qao.Bc))
def clkN(ps:List qao)(j:Nat):Nat:=cntP (fun i=>(gt ps i).Bt) j
theorem qxq{ps:List qao}(h:okL qoB ps):Ev (fun n=>qle n ps) (pinsB ps):=by
 have i:=h.len;have l:Ev (fun n=>qdp ps n ([]:List ByteArray) 0) (bif allN (pinB ps) ps.length then .nxt (ps.map qao.Bc,(ps.length:Int)) else .ret false):=by
  refine loopN (Lf:=qdp ps) (S:=fun j=>(ps.take j).map qao.Bc) (pinB ps) (fun n=>?_) (fun j a o X f=>?_)
  ·simp only[qdp,qk (je _),cond_false,jC]
  ·simp only[qdp,qi a,cond_true,qC a,jd,qmX a i,qgA (g:=qao.Bc) a,lastE a i,bne,qdt,qcM,wS j];generalize hc:pinB ps j=c at f⊢;unfold pinB at hc;cases hd:decide (j+1=ps.length)
   ·rw[hd] at hc;simp only[cond_false] at hc⊢;subst hc;exact Ev.okP (fun b=>Ev.okP1 (fun d=>f (by rw[b,d];rfl)))
   ·rw[hd] at hc;simp only[cond_true] at hc⊢;subst hc;refine Ev.okP (fun b=>Ev.okP (fun d=>Ev.chkP1 (fun k=>f (by rw[b,d,k];rfl))))
 unfold qle pinsB;refine Ev.bind l ?_;cases allN (pinB ps) ps.length
 ·exact .done
 ·simp only[cond_true,qcX,qcM,jd,show inI (ps.length:Int) 2 5=lenB ps 2 5 from quV (lo:=2) (hi:=5),jG];exact Ev.andP (fun _=>Ev.last (qks (qo6 h (fun x m=>m.Bc))))
def pinS(ps:List qao)(j:Nat):Bool:=allN (neB (ps.map qao.Bc) j) j&&((nameB (gt ps j).Bc&&inI (gt ps j).Bv 0 500)&&(bif decide (j+1=ps.length) then((gt ps j).Bx==2)&&(((gt ps j).Bv==0)&&!(gt ps j).Bt) else((gt ps j).Bx==1)))
theorem qBC{ps:List qao}:(lenB ps 2 5&&allN (pinS ps) ps.length)=pinsB ps:=by
 have e:namesB (ps.map qao.Bc)=allN (fun j=>nameB (gt ps j).Bc&&allN (neB (ps.map qao.Bc) j) j) ps.length:=by
  unfold namesB;rw[jq];exact qiU (fun j a=>by rw[qlA a])
 unfold pinsB;rw[e,<-Bool.and_assoc,Bool.and_comm (allN (pinB ps) ps.length),Bool.and_assoc,<-qm2]
 congr 1
 refine qiU (fun j a=>?_);unfold pinS pinB;cases hd:decide (j+1=ps.length)
 ·simp only[cond_false];cases allN (neB (ps.map qao.Bc) j) j<;>cases nameB (gt ps j).Bc<;>cases inI (gt ps j).Bv 0 500<;>cases ((gt ps j).Bx==1)<;>rfl
 ·simp only[cond_true];cases hcap:((gt ps j).Bv==0)
  ·simp
  ·have:inI (gt ps j).Bv 0 500=true:=by rw[beq_iff_eq] at hcap;rw[hcap];rfl
   rw[this];cases allN (neB (ps.map qao.Bc) j) j<;>cases nameB (gt ps j).Bc<;>cases ((gt ps j).Bx==2)<;>cases (gt ps j).Bt<;>rfl
theorem qwC{c:qB}(h:okL qoB c.Bg):Ev (fun n=>qlq n c) (bif pinsB c.Bg then(((clkN c.Bg c.Bg.length:Nat):Int),true) else(0,false)):=by
 have s:=h.len;have l:∀j,j<c.Bg.length->Ev (fun n=>qfv c (j:Int) (gt c.Bg j) n 0) (bif allN (neB (c.Bg.map qao.Bc) j) j then .nxt (j:Int) else .ret (0,false)):=by
  intro j b;refine qfi ?_ (fun i hi X a=>Ev.succ ?_)
  ·exact Ev.succ (by simp only[qfv,qk (je _),cond_false];exact .done)
  ·simp only[qfv,qi hi,cond_true,qC (show i<c.Bg.length by omega),jd,qiu,wS i];unfold neB;rw[qlA (g:=qao.Bc) (show i<c.Bg.length by omega),qlA (g:=qao.Bc) b];exact Ev.chkP1 (fun _=>a)
 have k:Ev (fun n=>qdm c n 0 0) (bif allN (pinS c.Bg) c.Bg.length then .nxt (((clkN c.Bg c.Bg.length:Nat):Int),(c.Bg.length:Int)) else .ret (0,false)):=by
  refine loopN (Lf:=qdm c) (S:=fun j=>((clkN c.Bg j:Nat):Int)) (pinS c.Bg) (fun n=>?_) (fun j b u X a=>?_)
  ·simp only[qdm,qk (je _),cond_false]
  ·have t:clkN c.Bg j<=j:=qgG;have d:((j:Int)==W64 ((c.Bg.length:Int)-1))=decide (j+1=c.Bg.length):=lastE b s;have f:decide ((j:Int)<W64 ((c.Bg.length:Int)-1)) = !decide (j+1=c.Bg.length):=by
    rw[qK (by omega) (by omega),jn];simp;omega
   simp only[qdm,qi b,cond_true,qC b,jd,wS j,qcz (show clkN c.Bg j<9223372036854775807 by omega),d,f,qcA];unfold pinS;refine Ev.bind (l j b) ?_;cases ha:allN (neB (c.Bg.map qao.Bc) j) j
   ·exact .done
   ·simp only[cond_true,jG];refine Ev.chkT ?_ (fun o=>?_)
    ·exact Ev.or (qnv (qop h b).Bc) (fun _=>.done)
    ·refine Ev.chkT1 ?_ (fun r=>?_)
     ·cases decide (j+1=c.Bg.length)
      ·exact .done
      ·simp only[cond_true,Ji,cond_false,bne,qdt];cases ((gt c.Bg j).Bx==2)<;>cases ((gt c.Bg j).Bv==0)<;>cases (gt c.Bg j).Bt<;>exact .done
     ·have a:=a (by unfold pinS;rw[ha,o,r];rfl);have m:clkN c.Bg (j+1)=clkN c.Bg j+(bif (gt c.Bg j).Bt then 1 else 0):=rfl;rw[m] at a;cases hc:(gt c.Bg j).Bt
      ·rw[hc] at a;exact Ev.ff Z a
      ·rw[hc] at a;exact Ev.tt Z a
 rw[<-qBC];unfold qlq;refine Ev.guard ?_ (fun o=>?_)
 ·unfold lenB;have e1:decide ((c.Bg.length:Int)<2) = !decide (2<=c.Bg.length):=by rw[jn];simp;omega
  have p:decide ((c.Bg.length:Int) > 5) = !decide (c.Bg.length<=5):=by rw[jn];simp;omega
  rw[e1,p];cases decide (2<=c.Bg.length)<;>cases decide (c.Bg.length<=5)<;>exact .done
 ·refine Ev.bind k ?_;cases allN (pinS c.Bg) c.Bg.length<;>exact .done
def mnL(xs:List Int):Int:=(xs.drop 1).foldl (fun m y=>if y<m then y else m) (at0 xs 0)
def mxL(xs:List Int):Int:=(xs.drop 1).foldl (fun m y=>if y > m then y else m) (at0 xs 0)
theorem qs2{t:qv}(h:tableB t=true):1<=t.Bj.length:=by
 unfold tableB axisB lenB at h;simp only[jf,decide_eq_true_eq] at h;obtain⟨⟨⟨a,_⟩,_⟩,⟨⟨b,_⟩,_⟩,c,_⟩:=h;rw[c];exact Nat.mul_pos a b
theorem qAV{xs:List Int}(b:1<=xs.length)(f:xs.length<=1048576):Ev (fun n=>qib n xs) (mnL xs):=by
 have c:=(qrp (Lf:=fun n t j=>qde xs n t j) (xs:=xs) (step:=fun(m y:Int)=>if y<m then y else m) (fin:=fun t=>(t,(xs.length:Int))) 1 (at0 xs 0) (fun _ _=>True) b trivial (fun _ _ _ _=>trivial)
  (fun n t=>by simp only[qde,qk (je _),cond_false])
  (fun j t a _ X d=>by simpa only[qde,qi a,cond_true,qc4 a,jd,wS j] using d)).1
 unfold qib;rw[show decide ((xs.length:Int)<1)=false by simp;omega,show idx xs (0:Int)=V (at0 xs 0) from qar (j:=0) (by omega)];simp only[cond_false,jd];exact Ev.bind c .done
theorem qwE{t:qv}(h:qjw t):Ev (fun n=>qie n t) (bif tableB t then(⟨mnL t.Bj,mxL t.Bj⟩,0) else(⟨0,0⟩,1)):=by
 unfold qie;refine Ev.chk1 (qwa h) (fun l=>?_);have i:=qs2 l;have p:=h.Bj.len;have f:=(qrp (Lf:=fun n (d:Int×Int) j=>qdg t n d.1 d.2 j) (xs:=t.Bj) (step:=fun(m:Int×Int) y=>(if y<m.1 then y else m.1,if y > m.2 then y else m.2)) (fin:=fun d=>(d.1,d.2,(t.Bj.length:Int))) 1 (at0 t.Bj 0,at0 t.Bj 0) (fun _ _=>True) i trivial (fun _ _ _ _=>trivial)
  (fun n t=>by simp only[qdg,qk (je _),cond_false])
  (fun j t g _ X k=>by simpa only[qdg,qi g,cond_true,qc4 g,jd,wS j] using k)).1
 have o:∀(c:List Int) (a b:Int),c.foldl (fun(m:Int×Int) y=>(if y<m.1 then y else m.1,if y > m.2 then y else m.2)) (a,b)=(c.foldl (fun m y=>if y<m then y else m) a,c.foldl (fun m y=>if y > m then y else m) b):=by
  intro c
  induction c with
  |nil=>intro a b;rfl
  |cons y c ih=>intro a b;simp only[List.foldl_cons,ih]
 rw[o] at f;rw[show idx t.Bj (0:Int)=V (at0 t.Bj 0) from qar (j:=0) (by omega)];simp only[jd];exact Ev.bind f .done
def tabB(pos:Bool)(t:qv):Bool:=tableB t&&(!pos || decide (0<=mnL t.Bj))
def tablesB(a:List qv)(pos:Bool):Bool:=decide (a.length=2)&&a.all (tabB pos)
theorem qnD{a:List qv}{pos:Bool}(h:okL qjw a):Ev (fun n=>qgu n a pos) (tablesB a pos):=by
 have g:=h.len;have c:Ev (fun n=>qaK n a pos) (ixL (fun x=>!tabB pos x) a):=
  qgW (fin:=(a.length:Int)) (Lf:=qZ a pos) (pf:=fun n x=>qh1 n x pos) (fun x b=>by
    unfold qh1 tabB;refine Ev.or (qw8 (h.2 x b)) (fun d=>?_);cases pos
    ·exact .done
    ·refine Ev.tt Z (Ev.bind (qAV (qs2 d) (h.2 x b).Bj.len) (Ev.now ?_))
     congr 1
     rw[jn];simp)
   (fun n=>by simp only[qZ,qk (je _),cond_false])
   (fun n j x b=>by
    have f:=(List.getElem?_eq_some_iff.1 b).1;simp only[qZ,qi f,cond_true,qR b,jd,wS j])
   (fun n=>by unfold qaK;congr 1;funext o;cases o<;>rfl)
 unfold qgu qbg tablesB;rw[show((a.length:Int)==2)=decide (a.length=2) by rw[jn];simp;omega];refine Ev.andP (fun _=>Ev.bind (Ev.bind c (Ev.now Z)) (Ev.now ?_));rw[qpN,qsd]
theorem qjj{a:List qv}{pos:Bool}(h:okL qjw a):Ev (fun n=>qdX n a pos) (tablesB a pos):=by
 unfold qdX tablesB;rw[show((a.length:Int) != 2) = !decide (a.length=2) by rw[jn];simp;omega];simp only[qdt];refine Ev.andP (fun b=>?_);have b:a.length=2:=by simpa using b
 have f:Ev (fun n=>qc0 a pos n 0) (bif allN (fun j=>tabB pos (gt a j)) a.length then .nxt (2:Int) else .ret false):=by
  refine qfi (len:=a.length) ?_ (fun j d X c=>Ev.succ ?_)
  ·rw[b];exact Ev.succ (by simp only[qc0];exact .done)
  ·simp only[qc0,show decide ((j:Int)<2)=true by simp;omega,cond_true,qC d,jd,wS j];refine Ev.bind (qwE (qop h d)) ?_;unfold tabB;cases tableB (gt a j)
   ·exact .done
   ·simp only[cond_true,jG];refine Ev.ff Z ?_;cases pos
    ·exact c
    ·refine Ev.tt Z ?_;rw[show decide (mnL (gt a j).Bj<0) = !decide (0<=mnL (gt a j).Bj) by rw[jn];simp];simp only[qdt];exact Ev.okP1 (fun _=>c)
 rw[qjt];refine Ev.bind f ?_;cases allN (fun j=>tabB pos (gt a j)) a.length<;>exact .done

theorem qgp{α:Type}[Inhabited α]{xs:List α}{x:Int}(a:0<=x)(b:x<xs.length):idx xs x=V (gt xs x.toNat):=by
  have:=qC (xs:=xs) (j:=x.toNat) (by omega);rwa [<-qgF a] at this
theorem qup{q:Nat->Bool}{m n:Nat}(h:m<=n):cntP q m<=cntP q n:=by
  induction n with
  |zero=>
    obtain rfl:m=0:=by omega
    exact je _
  |succ n ih=>
    rcases Nat.lt_or_eq_of_le h with h|rfl
    · exact Jb (ih (by omega)) (Nat.le_add_right _ _)
    · exact je _
theorem qpj{m k:Nat}:decide ((m:Int)<=(k:Int))=decide (m<=k):=by rw[jn];simp
theorem qvO{q:Nat->Bool}{n i j:Nat}(hi:i<j)(d:j<n)(a:q i=true)(b:q j=true):2<=cntP q n:=by
  have e1:cntP q (i+1)=cntP q i+1:=by rw[cntP,a];rfl
  have c:cntP q (j+1)=cntP q j+1:=by rw[cntP,b];rfl
  have f:=qup (q:=q) (show i+1<=j by omega);have g:=qup (q:=q) (show j+1<=n by omega);omega
theorem qwo{q:Nat->Bool}{n i j:Nat}(d:cntP q n<=1)(hi:i<n)(c:j<n)(a:q i=true)(b:q j=true):i=j:=by
  rcases Nat.lt_trichotomy i j with h|h|h
  · have:=qvO h c a b;omega
  · exact h
  · have:=qvO h hi b a;omega
def clkIx(ps:List qao):Int:=ixL (fun p=>p.Bt) ps
def clkAt(ps:List qao)(x:Int):Bool:=(gt ps x.toNat).Bt
theorem qz4{c:qB}(f:c.Bg.length<=1048576):Ev (fun n=>qiL n c) (clkIx c.Bg):=by
  unfold qiL;refine Ev.bind (b:=clkIx c.Bg) ?_ .done;exact qgW (fin:=(c.Bg.length:Int)) (Lf:=qaa c.Bg) (pf:=fun n x=>qjc n x) (fun _ _=>.done)
    (fun n=>by simp only[qaa,qk (je _),cond_false])
    (fun n j x a=>by
      have d:=(List.getElem?_eq_some_iff.1 a).1;simp only[qaa,qi d,cond_true,qR a,jd,wS j])
    (fun n=>by unfold qbD;congr 1;funext o;cases o<;>rfl)
def arcI(ps:List qao)(a:qI):Bool:=
  bif (a.Bi==4) || (a.Bi==5) then
    (a.Br==0)&&(((a.Bf.length:Int)==0)&&(tablesB a.Bp false&&((a.Bl==clkIx ps)&&(decide (a.Bl>=0)&&(inI a.To 0 (ps.length-2)&&!(a.To==a.Bl))))))
  else
    (tablesB a.Bp true&&(tablesB a.Bf true&&((a.To==(ps.length:Int)-1)&&inI a.Bl 0 (ps.length-2)))) &&
      (bif a.Bi==1 then !clkAt ps a.Bl&&inI a.Br 1 3 else(bif (a.Bi==2) || (a.Bi==3) then clkAt ps a.Bl&&(a.Br==0) else false))
def arcS(ps:List qao)(a:qI):Bool:=
  (inI a.Bl 0 (ps.length-2)&&inI a.To 0 (ps.length-1)) &&
    (bif a.Bi==1 then !clkAt ps a.Bl&&((a.To==(ps.length:Int)-1)&&(inI a.Br 1 3&&(tablesB a.Bp true&&tablesB a.Bf true)))
     else(bif (a.Bi==2) || (a.Bi==3) then clkAt ps a.Bl&&((a.To==(ps.length:Int)-1)&&((a.Br==0)&&(tablesB a.Bp true&&tablesB a.Bf true)))
     else(bif (a.Bi==4) || (a.Bi==5) then clkAt ps a.Bl&&(decide (a.To<(ps.length:Int)-1)&&(!clkAt ps a.To&&((a.Br==0)&&(tablesB a.Bp false&&((a.Bf.length:Int)==0))))) else false)))
theorem qru{c d:Bool}:(bif c then V c else V d)=V (c || d):=by cases c<;>rfl
theorem qvt{c d:Bool}:(bif c then V true else V d)=V (c || d):=by cases c<;>rfl
theorem qxr{n:Nat}{k:Int}:qlt n k=V ((k==4) || (k==5)):=by simp only[qlt,qvt]
theorem qzb{c:qB}{a:qI}(h:okL qoB c.Bg)(b:qpV a)(k:2<=c.Bg.length):Ev (fun n=>qiH n c a) (arcI c.Bg a):=by
  have i:=h.len;have e1:W64 ((c.Bg.length:Int)-1)=(c.Bg.length:Int)-1:=qfM (by omega);have f:W64 ((c.Bg.length:Int)-1-1)=(c.Bg.length:Int)-2:=by rw[qK (by omega) (by omega)];omega
  simp only[qiH,qxr,jd,qhs,qeS,qcX,e1,f,qcM,qru,bne];unfold arcI;refine Ev.iff (fun _=>Ev.last ?_) (fun _=>Ev.guardB ?_ (fun d=>?_))
  · exact Ev.andP fun _=>Ev.andP fun _=>Ev.and (qnD b.Bp) fun _=>Ev.bind (qz4 i) (Ev.andP fun _=>Ev.andP fun _=>Ev.andP fun _=>.done)
  · refine Ev.or (qnD b.Bp) fun _=>Ev.or (qnD b.Bf) fun _=>?_
    simp only[qdt];exact Ev.orBP fun _=>.done
  · have g:0<=a.Bl/\a.Bl<=(c.Bg.length:Int)-2:=by
      simp only[jf,qbc] at d;exact d.2.2.2
    simp only[qgp g.1 (show a.Bl<(c.Bg.length:Int) by omega),jd];exact Ev.iff (fun _=>Ev.andP fun _=>.done) (fun _=>Ev.iff (fun _=>Ev.andP fun _=>.done) (fun _=>.done))
theorem qyl{c:qB}{a:qI}(h:okL qoB c.Bg)(b:qpV a)(k:2<=c.Bg.length):Ev (fun n=>qmD n c a) (arcS c.Bg a):=by
  have i:=h.len;have e1:W64 ((c.Bg.length:Int)-1)=(c.Bg.length:Int)-1:=qfM (by omega);have g:W64 ((c.Bg.length:Int)-1-1)=(c.Bg.length:Int)-2:=by rw[qK (by omega) (by omega)];omega
  simp only[qmD,jd,e1,g,qcA,qru];unfold arcS;refine Ev.guardB ?_ (fun d=>?_)
  · simp only[qdt]
    exact Ev.orBP fun _=>.done
  · have f:(0<=a.Bl/\a.Bl<=(c.Bg.length:Int)-2)/\(0<=a.To/\a.To<=(c.Bg.length:Int)-1):=by
      simp only[jf,qbc] at d;exact d
    simp only[qgp f.1.1 (show a.Bl<(c.Bg.length:Int) by omega),qgp f.2.1 (show a.To<(c.Bg.length:Int) by omega),jd];refine Ev.iff (fun _=>?_) (fun _=>Ev.iff (fun _=>?_) (fun _=>Ev.iff (fun _=>?_) (fun _=>.done)))
    · exact Ev.andP fun _=>Ev.andP fun _=>Ev.andP fun _=>Ev.and (qjj b.Bp) fun _=>Ev.last (qjj b.Bf)
    · exact Ev.andP fun _=>Ev.andP fun _=>Ev.andP fun _=>Ev.and (qjj b.Bp) fun _=>Ev.last (qjj b.Bf)
    · exact Ev.andP fun _=>Ev.andP fun _=>Ev.andP fun _=>Ev.andP fun _=>Ev.and (qjj b.Bp) fun _=>.done
theorem qrl{ps:List qao}(f:clkN ps ps.length<=1){x:Int}(k:0<=x):clkIx ps=x↔x<ps.length/\clkAt ps x=true:=by
  unfold clkIx ixL;cases hf:ps.findIdx? (fun p=>p.Bt) with
  |some j=>
    obtain⟨d,i,_⟩:=List.findIdx?_eq_some_iff_getElem.1 hf;have b:(gt ps j).Bt=true:=by rw[qcR d];exact i
    constructor
    · intro e
      have e:(j:Int)=x:=e;subst e;exact⟨by omega,by unfold clkAt;rw[jr];exact b⟩
    · rintro⟨g,a⟩
      have:=qwo f d (show x.toNat<ps.length by omega) b a;show(j:Int)=x;omega
  |none=>
    have h:=List.findIdx?_eq_none_iff.1 hf;constructor
    · intro e
      have e:(-1:Int)=x:=e;omega
    · rintro⟨g,a⟩
      have c:x.toNat<ps.length:=by omega
      unfold clkAt at a;rw[qcR c] at a;have:=h _ (jt c);rw[a] at this;exact absurd this (by decide)
theorem qhI{ps:List qao}(h:pinsB ps=true):(2<=ps.length/\ps.length<=5)/\clkAt ps ((ps.length:Int)-1)=false:=by
  unfold pinsB lenB at h;simp only[jf,decide_eq_true_eq] at h;refine⟨h.2.1,?_⟩;have a:=qas.1 h.1 (ps.length-1) (by omega);unfold pinB at a;rw[show decide (ps.length-1+1=ps.length)=true by simp;omega] at a;simp only[cond_true,jf,jI] at a;unfold clkAt;rw[show((ps.length:Int)-1).toNat=ps.length-1 by omega];exact a.2.2
theorem qzi{ps:List qao}{a:qI}(h:pinsB ps=true)(b:clkN ps ps.length<=1):arcI ps a=arcS ps a:=by
  obtain⟨⟨D,z⟩,l⟩:=qhI h;rw[jn];unfold arcI arcS;cases h45:((a.Bi==4) || (a.Bi==5)) with
  |true=>
    have B:(a.Bi==1)=false:=by simp at h45⊢;omega
    have u:((a.Bi==2) || (a.Bi==3))=false:=by simp at h45⊢;omega
    rw[B,u];simp only[cond_true,cond_false,jf,qbc,decide_eq_true_eq,beq_iff_eq,jI,beq_eq_false_iff_ne,ne_eq];constructor
    · rintro⟨t,m,s,p,o,r,A⟩
      obtain⟨C,n⟩:=(qrl b o).1 p.symm;have x:a.Bl≠(ps.length:Int)-1:=by intro e;rw[e,l] at n;cases n
      refine⟨⟨⟨o,by omega⟩,⟨r.1,by omega⟩⟩,n,by omega,?_,t,s,m⟩;cases c:clkAt ps a.To with
      |false=>rfl
      |true=>
        have:=(qrl b r.1).2 ⟨by omega,c⟩;omega
    · rintro⟨⟨p,r⟩,n,y,c,t,s,m⟩
      have:=(qrl b p.1).2 ⟨by omega,n⟩;refine⟨t,m,s,this.symm,p.1,⟨r.1,by omega⟩,?_⟩;intro e;rw[e,n] at c;cases c
  |false=>
    simp only[cond_false,jf,qbc,beq_iff_eq];cases (a.Bi==1)
    · cases ((a.Bi==2) || (a.Bi==3))
      · simp
      · simp only[cond_true,cond_false,jf,beq_iff_eq]
        constructor
        · rintro⟨⟨b,d,f,g⟩,i,k⟩
          exact⟨⟨g,by omega⟩,i,f,k,b,d⟩
        · rintro⟨⟨g,v⟩,i,f,k,b,d⟩
          exact⟨⟨b,d,f,g⟩,i,k⟩
    · simp only[cond_true,jf,qbc,jI,beq_iff_eq]
      constructor
      · rintro⟨⟨b,d,f,g⟩,i,k⟩
        exact⟨⟨g,by omega⟩,i,f,k,b,d⟩
      · rintro⟨⟨g,v⟩,i,f,k,b,d⟩
        exact⟨⟨b,d,f,g⟩,i,k⟩
theorem quk{ps:List qao}{a:qI}(h:arcS ps a=true):1<=a.Bi/\a.Bi<=5:=by
  unfold arcS at h;rw[jf] at h;have h:=h.2;cases h1:(a.Bi==1)
  · cases h2:((a.Bi==2) || (a.Bi==3))
    · cases h4:((a.Bi==4) || (a.Bi==5))
      · rw[h1,h2,h4] at h;cases h
      · simp at h4;omega
    · simp at h2;omega
  · simp at h1;omega
def sameArc(x y:qI):Bool:=(x.Bi==y.Bi)&&((x.Bl==y.Bl)&&(x.To==y.To))
def newArc(a:List qI)(j:Nat):Bool:=allN (fun i=>!sameArc (gt a i) (gt a j)) j
theorem qwJ{c:qB}(h:okL qoB c.Bg)(f:okL qpV c.Ba)(p:2<=c.Bg.length):Ev (fun n=>qht n c) (allN (fun j=>arcI c.Bg (gt c.Ba j)&&newArc c.Ba j) c.Ba.length&&decide (c.Ba.length<=8)):=by
  have m:=f.len;have i:∀(a:List qI) (y:qI),a.length<=1048576->Ev (fun n=>qaC n a y) (a.any fun x=>sameArc x y):=by
    intro a y m;unfold qaC;refine Ev.bind (b:=ixL (fun x=>sameArc x y) a) (qgW (fin:=(a.length:Int)) (Lf:=qV a y) (pf:=fun n x=>qf3 n x y) (fun x _=>?_)
      (fun n=>by simp only[qV,qk (je _),cond_false])
      (fun n j x g=>by
        have d:=(List.getElem?_eq_some_iff.1 g).1;simp only[qV,qi d,cond_true,qR g,jd,wS j])
      (fun n=>by unfold qbj;congr 1;funext o;cases o<;>rfl)) (Ev.now (by rw[qpN]))
    unfold qf3 sameArc;exact Ev.andP fun _=>Ev.andP fun _=>.done
  have k:Ev (fun n=>qcP c n 0) (bif allN (fun j=>arcI c.Bg (gt c.Ba j)&&newArc c.Ba j) c.Ba.length then .nxt (c.Ba.length:Int) else .ret false):=by
    refine qfi ?_ (fun j d X l=>Ev.succ ?_)
    · exact Ev.succ (by simp only[qcP,qk (je _),cond_false];exact .done)
    · simp only[qcP,qi d,cond_true,qC d,jd,qng (Nat.le_of_lt d),wS j]
      refine Ev.chk (qzb h (qop f d) p) fun _=>Ev.chkT1 ?_ (fun _=>l);refine(i _ _ (by simp;omega)).cast ?_;rw[qAg (Nat.le_of_lt d)];rfl
  unfold qht;refine Ev.bind k ?_;cases allN (fun j=>arcI c.Bg (gt c.Ba j)&&newArc c.Ba j) c.Ba.length
  · exact .done
  · refine Ev.now ?_
    show V (decide ((c.Ba.length:Int)<=((8:Nat):Int)))=V (true&&decide (c.Ba.length<=8));rw[qpj,jG]
def hasB(b:List qI)(k:Int):Bool:=b.any fun a=>a.Bi==k
theorem qq4{c:qB}{k:Int}(f:c.Ba.length<=1048576):Ev (fun n=>qdQ n c k) (hasB c.Ba k):=by
  unfold qdQ qbv;exact Ev.last (Ev.bind (b:=ixL (fun x=>x.Bi==k) c.Ba) (qgW (fin:=(c.Ba.length:Int)) (Lf:=qaf c.Ba k) (pf:=fun n x=>qkW n x k) (fun x _=>.done)
      (fun n=>by simp only[qaf,qk (je _),cond_false])
      (fun n j x a=>by
        have d:=(List.getElem?_eq_some_iff.1 a).1;simp only[qaf,qi d,cond_true,qR a,jd,wS j])
      (fun n=>by unfold qbL;congr 1;funext o;cases o<;>rfl)) (Ev.now (by rw[qpN];rfl)))
def kindN(a:List qI)(k:Nat)(j:Nat):Nat:=cntP (fun i=>(gt a i).Bi==(k:Int)) j
theorem qtY{a:List qI}{k:Nat}:decide (((kindN a k a.length:Nat):Int) > 0)=hasB a k:=by
  rw[show decide (((kindN a k a.length:Nat):Int) > 0)=decide (0<kindN a k a.length) by simp];unfold kindN hasB;rw[qvP,qwW]
theorem qwu{a:List qI}{k:Nat}:(((kindN a k a.length:Nat):Int)==0) = !hasB a k:=by
  rw[<-qtY,jn];simp
theorem qvJ{c:qB}(g:okL qpV c.Ba)(h:∀j,j<c.Ba.length->1<=(gt c.Ba j).Bi/\(gt c.Ba j).Bi<=5):Ev (fun n=>qkc n c) (vecC (fun k=>kindN c.Ba k c.Ba.length) 6):=by
  have o:=g.len;have d:Ev (fun n=>qdx c n (vecC (fun _=>0) 6) 0) (vecC (fun k=>kindN c.Ba k c.Ba.length) 6,(c.Ba.length:Int)):=by
    refine loopF (Lf:=qdx c) (S:=fun j=>vecC (fun k=>kindN c.Ba k j) 6) (len:=c.Ba.length) (fun n=>?_) (fun j a X f=>?_)
    · simp only[qdx,qk (je _),cond_false]
    · obtain⟨p,r⟩:=h j a
      have b:(gt c.Ba j).Bi=(((gt c.Ba j).Bi.toNat:Nat):Int):=qgF (by omega);have l:kindN c.Ba (gt c.Ba j).Bi.toNat j<=j:=qgG;simp only[qdx,qi a,cond_true,qC a,jd,wS j];rw[b,qlC (show(gt c.Ba j).Bi.toNat<6 by omega)];simp only[jd];rw[qt8 (c:=fun k=>kindN c.Ba k j) (by show kindN c.Ba _ j<_;omega)];have:vecC (fun i=>kindN c.Ba i j+(bif decide ((gt c.Ba j).Bi.toNat=i) then 1 else 0)) 6=vecC (fun k=>kindN c.Ba k (j+1)) 6:=by
        refine qlE (fun k _=>?_);show _=kindN c.Ba k j+(bif (gt c.Ba j).Bi==(k:Int) then 1 else 0)
        congr 2
        rw[jn];simp;omega
      rw[this];exact f
  unfold qkc;rw[show mkS 6 (0:Int)=V (vecC (fun _=>0) 6) from qpd (m:=6) (by omega)];simp only[jd];exact Ev.bind d .done
def kindB(c:qB):Bool:=
  bif c.Bi==1 then(((clkN c.Bg c.Bg.length:Nat):Int)==0)&&(((c.Bq.length:Int)==((2 ^ (c.Bg.length-1):Nat):Int))&&(c.Bq.all fun x=>inI x 0 1))
  else bif c.Bi==2 then(((clkN c.Bg c.Bg.length:Nat):Int)==1)&&(((c.Bq.length:Int)==0)&&(!hasB c.Ba 1&&!(hasB c.Ba 2==hasB c.Ba 3)))
  else bif c.Bi==3 then(((clkN c.Bg c.Bg.length:Nat):Int)==1)&&(((c.Bq.length:Int)==0)&&(hasB c.Ba 1&&(hasB c.Ba 2&&!hasB c.Ba 3)))
  else false
theorem qub{c:qB}(h:kindB c=true):clkN c.Bg c.Bg.length<=1:=by
  unfold kindB at h;cases h1:(c.Bi==1)
  · cases h2:(c.Bi==2)
    · cases h3:(c.Bi==3)
      · rw[h1,h2,h3] at h;cases h
      · rw[h1,h2,h3] at h
        simp only[cond_true,cond_false,jf,beq_iff_eq] at h;omega
    · rw[h1,h2] at h
      simp only[cond_true,cond_false,jf,beq_iff_eq] at h;omega
  · rw[h1] at h
    simp only[cond_true,jf,beq_iff_eq] at h;omega
theorem qwg{m:Nat}(a:2<=m)(b:m<=5):shlS 1 (W64 ((m:Int)-1))=V ((2 ^ (m-1):Nat):Int)/\shlS 1 (IntKind.wrap .u64 (W64 ((m:Int)-1)))=V ((2 ^ (m-1):Nat):Int):=by
  have:m=2\/m=3\/m=4\/m=5:=by omega
  rcases this with rfl|rfl|rfl|rfl<;>exact⟨by decide,by decide⟩
theorem qwn{c:qB}(b:qpg c)(k:2<=c.Bg.length)(g:c.Bg.length<=5):Ev (fun n=>qgD n c) (kindB c):=by
  have l:=b.Bg.len;have i:Ev (fun n=>qbl c n 0 0) (((clkN c.Bg c.Bg.length:Nat):Int),(c.Bg.length:Int)):=by
    refine loopF (Lf:=qbl c) (S:=fun j=>((clkN c.Bg j:Nat):Int)) (len:=c.Bg.length) (fun n=>?_) (fun j h X d=>?_)
    · simp only[qbl,qk (je _),cond_false]
    · have m:clkN c.Bg j<=j:=qgG
      simp only[qbl,qi h,cond_true,qC h,jd,wS j,qcz (show clkN c.Bg j<9223372036854775807 by omega)];have f:clkN c.Bg (j+1)=clkN c.Bg j+(bif (gt c.Bg j).Bt then 1 else 0):=rfl;rw[f] at d;cases b:(gt c.Bg j).Bt
      · rw[b] at d;exact Ev.ff Z d
      · rw[b] at d;exact Ev.tt Z d
  unfold qgD kindB;refine Ev.bind i ?_;simp only[qeS,qcX,jd,(qwg k g).1];have a:=b.Ba.len;refine Ev.iff (fun _=>?_) (fun _=>Ev.iff (fun _=>?_) (fun _=>Ev.iff (fun _=>?_) (fun _=>.done)))
  · exact Ev.andP fun _=>Ev.andP fun _=>Ev.last (qeK b.Bq.len)
  · exact Ev.andP fun _=>Ev.andP fun _=>Ev.bind (qq4 a) (Ev.andP fun _=>Ev.bind (qq4 a) (Ev.bind (qq4 a) .done))
  · exact Ev.andP fun _=>Ev.andP fun _=>Ev.and (qq4 a) fun _=>Ev.and (qq4 a) fun _=>Ev.bind (qq4 a) .done
def cellB(c:qB):Bool:=
  nameB c.Bc&&(pinsB c.Bg&&((allN (fun j=>arcI c.Bg (gt c.Ba j)&&newArc c.Ba j) c.Ba.length&&decide (c.Ba.length<=8))&&(inI c.Cc 0 100000&&(inI c.Bw 0 100000&&kindB c))))
theorem qy3{c:qB}(a:qpg c):Ev (fun n=>qmC n c) (cellB c):=by
  simp only[qmC,qrb a.Bc,qcM,jd];unfold cellB;refine Ev.andP fun _=>Ev.and (qxq a.Bg) fun f=>?_;obtain⟨⟨d,b⟩,_⟩:=qhI f;exact Ev.and (qwJ a.Bg a.Ba d) fun _=>Ev.andP fun _=>Ev.andP fun _=>Ev.last (qwn a d b)
theorem qxt{c:qB}(d:qpg c):Ev (fun n=>qml n c) (cellB c):=by
  have p:=d.Ba.len;have r:=d.Bq.len;have e:cellB c=((pinsB c.Bg&&(nameB c.Bc&&(decide (c.Ba.length<=8)&&(inI c.Cc 0 100000&&inI c.Bw 0 100000))))&&(allN (fun j=>arcS c.Bg (gt c.Ba j)&&newArc c.Ba j) c.Ba.length&&kindB c)):=by
    unfold cellB;cases l:kindB c
    · simp
    · cases hp:pinsB c.Bg
      · simp
      · rw[qiU (fun j _=>by rw[qzi hp (qub l)])]
        cases nameB c.Bc<;>cases allN (fun j=>arcS c.Bg (gt c.Ba j)&&newArc c.Ba j) c.Ba.length<;>cases decide (c.Ba.length<=8)<;>cases inI c.Cc 0 100000<;>cases inI c.Bw 0 100000<;>rfl
  rw[e];unfold qml;refine Ev.bind (qwC d.Bg) ?_;cases hp:pinsB c.Bg
  · exact .done
  · obtain⟨⟨o,m⟩,_⟩:=qhI hp
    simp only[cond_true,jG,Ji,cond_false];refine Ev.guardB ?_ (fun _=>?_)
    · simp only[qcA,jd,qdt]
      refine Ev.orB (qnv d.Bc) fun _=>?_;rw[show decide ((c.Ba.length:Int) > 8) = !decide (c.Ba.length<=8) by rw[jn];simp;omega,qdt];exact Ev.orBP fun _=>Ev.orBP fun _=>.done
    · have g:∀j,j<c.Ba.length->Ev (fun n=>qd0 c (j:Int) (gt c.Ba j) n 0) (bif newArc c.Ba j then .nxt (j:Int) else .ret false):=by
        intro j a;refine qfi ?_ (fun i hi X b=>Ev.succ ?_)
        · exact Ev.succ (by simp only[qd0,qk (je _),cond_false];exact .done)
        · simp only[qd0,qi hi,cond_true,qC (show i<c.Ba.length by omega),jd,wS i]
          unfold sameArc;cases ((gt c.Ba i).Bi==(gt c.Ba j).Bi)
          · exact b
          · cases ((gt c.Ba i).Bl==(gt c.Ba j).Bl)
            · exact b
            · cases ((gt c.Ba i).To==(gt c.Ba j).To)
              · exact b
              · exact .done
      have f:Ev (fun n=>qgh c n 0) (bif allN (fun j=>arcS c.Bg (gt c.Ba j)&&newArc c.Ba j) c.Ba.length then .nxt (c.Ba.length:Int) else .ret false):=by
        refine qfi ?_ (fun j a X b=>Ev.succ ?_)
        · exact Ev.succ (by simp only[qgh,qk (je _),cond_false];exact .done)
        · simp only[qgh,qi a,cond_true,qC a,jd,wS j]
          refine Ev.chk (qyl d.Bg (qop d.Ba a) o) fun _=>Ev.bind (g j a) ?_;cases newArc c.Ba j
          · exact .done
          · exact b
      have h:Ev (fun n=>qgm c n 0) (bif (c.Bq.all fun x=>inI x 0 1) then .nxt (c.Bq.length:Int) else .ret false):=
        qqD (fun n=>by simp only[qgm,qk (je _),cond_false]) (fun j a X b=>by
          simp only[qgm,qi a,cond_true,qc4 a,jd,qcA,wS j,qdt];exact Ev.okP1 fun _=>b)
      refine Ev.bind f ?_;cases hA:allN (fun j=>arcS c.Bg (gt c.Ba j)&&newArc c.Ba j) c.Ba.length
      · exact .done
      · have l:∀j,j<c.Ba.length->1<=(gt c.Ba j).Bi/\(gt c.Ba j).Bi<=5:=fun j a=>by
          have:=qas.1 hA j a;rw[jf] at this;exact quk this.1
        simp only[cond_true,jG];refine Ev.bind (qvJ d.Ba l) ?_;simp only[(qwg o m).2,jd,
          show idx (vecC (fun k=>kindN c.Ba k c.Ba.length) 6) (1:Int)=V ((kindN c.Ba 1 c.Ba.length:Nat):Int) from qlC (k:=1) (by omega),
          show idx (vecC (fun k=>kindN c.Ba k c.Ba.length) 6) (2:Int)=V ((kindN c.Ba 2 c.Ba.length:Nat):Int) from qlC (k:=2) (by omega),
          show idx (vecC (fun k=>kindN c.Ba k c.Ba.length) 6) (3:Int)=V ((kindN c.Ba 3 c.Ba.length:Nat):Int) from qlC (k:=3) (by omega),qtY,qwu]
        unfold kindB;refine Ev.iff (fun _=>?_) (fun _=>Ev.iff (fun _=>?_) (fun _=>Ev.iff (fun _=>?_) (fun _=>.done)))
        · refine Ev.bind h ?_
          cases (c.Bq.all fun x=>inI x 0 1)
          · exact Ev.now (by simp)
          · exact(Ev.andP (fun _=>.done)).cast (by rw[Bool.and_true])
        · refine(Ev.andP fun _=>Ev.andP fun _=>Ev.andP fun _=>.done).cast ?_
          cases (((clkN c.Bg c.Bg.length:Nat):Int)==1)<;>cases ((c.Bq.length:Int)==0)<;>cases hasB c.Ba ((1:Nat):Int)<;>cases hasB c.Ba ((2:Nat):Int)<;>cases hasB c.Ba ((3:Nat):Int)<;>rfl
        · refine(Ev.andP fun _=>Ev.andP fun _=>Ev.andP fun _=>Ev.andP fun _=>.done).cast ?_
          cases (((clkN c.Bg c.Bg.length:Nat):Int)==1)<;>cases ((c.Bq.length:Int)==0)<;>cases hasB c.Ba ((1:Nat):Int)<;>cases hasB c.Ba ((2:Nat):Int)<;>cases hasB c.Ba ((3:Nat):Int)<;>rfl
def libB(l:qq):Bool:=l.As.all cellB&&(decide (l.As.length<=8)&&namesB (l.As.map qB.Bc))
theorem qvb{l:qq}(h:qiR l):Ev (fun n=>qjz n l) (libB l):=by
  have d:=h.As.len;have b:Ev (fun n=>qdb l n ([]:List ByteArray) 0) (bif allN (fun j=>cellB (gt l.As j)) l.As.length then .nxt (l.As.map qB.Bc,(l.As.length:Int)) else .ret false):=by
    refine loopN (Lf:=qdb l) (S:=fun j=>(l.As.take j).map qB.Bc) (fun j=>cellB (gt l.As j)) (fun n=>?_) (fun j a i X c=>?_)
    · simp only[qdb,qk (je _),cond_false,jC]
    · simp only[qdb,qi a,cond_true,qC a,jd,qmX a d,qgA (g:=qB.Bc) a,wS j]
      exact Ev.chk1 (qy3 (qop h.As a)) c
  unfold qjz libB;rw[qjt];refine Ev.bind b ?_;cases allN (fun j=>cellB (gt l.As j)) l.As.length
  · exact .done
  · simp only[cond_true,jG,show decide ((l.As.length:Int)<=8)=decide (l.As.length<=8) from qpj (k:=8)]
    exact Ev.andP fun _=>Ev.last (qks (qo6 h.As (fun x f=>f.Bc)))

theorem qww{c:qB}(h:cellB c=true):nameB c.Bc=true:=by
 unfold cellB at h;rw[jf] at h;exact h.1
theorem qj2{c:qB}(h:cellB c=true):pinsB c.Bg=true:=by
 unfold cellB at h;simp only[jf] at h;exact h.2.1
theorem qtF{l:qq}(h:qiR l):Ev (fun n=>qjA n l) (libB l):=by
 have f:=h.As.len;have c:∀j,j<l.As.length->Ev (fun n=>qd6 l (j:Int) n 0) (bif allN (neB (l.As.map qB.Bc) j) j then .nxt (j:Int) else .ret false):=by
  intro j a;refine qfi ?_ (fun i hi X d=>Ev.succ ?_)
  ·exact Ev.succ (by simp only[qd6,qk (je _),cond_false];exact .done)
  ·simp only[qd6,qi hi,cond_true,qC (show i<l.As.length by omega),qC a,jd,qiu,wS i];unfold neB;rw[qlA (g:=qB.Bc) (show i<l.As.length by omega),qlA (g:=qB.Bc) a];exact Ev.chkP1 (fun _=>d)
 have b:Ev (fun n=>qea l n 0) (bif allN (fun j=>cellB (gt l.As j)&&allN (neB (l.As.map qB.Bc) j) j) l.As.length then .nxt (l.As.length:Int) else .ret false):=by
  refine qfi ?_ (fun j a X d=>Ev.succ ?_)
  ·exact Ev.succ (by simp only[qea,qk (je _),cond_false];exact .done)
  ·simp only[qea,qi a,cond_true,qC a,jd,wS j];refine Ev.chk (qxt (qop h.As a)) fun _=>Ev.bind (c j a) ?_;cases allN (neB (l.As.map qB.Bc) j) j
   ·exact .done
   ·exact d
 have e:libB l=(allN (fun j=>cellB (gt l.As j)&&allN (neB (l.As.map qB.Bc) j) j) l.As.length&&decide (l.As.length<=8)):=by
  unfold libB namesB;rw[qjt,jq,Bool.and_comm (decide (l.As.length<=8)),<-Bool.and_assoc,<-qm2]
  congr 1
  refine qiU (fun j a=>?_);rw[qlA (g:=qB.Bc) a];cases hc:cellB (gt l.As j)
  ·rfl
  ·rw[qww hc];rfl
 rw[e];unfold qjA;refine Ev.bind b ?_;cases allN (fun j=>cellB (gt l.As j)&&allN (neB (l.As.map qB.Bc) j) j) l.As.length
 ·exact .done
 ·refine Ev.now ?_;show V (decide ((l.As.length:Int)<=((8:Nat):Int)))=V (true&&decide (l.As.length<=8));rw[qpj,jG]
theorem qm5{c c':Nat->Nat}{m:Nat}{x:Int}(b:0<=x)(h:x<m)(d:c x.toNat<9223372036854775807)(f:∀k,k<m->c' k=c k+(bif x==(k:Int) then 1 else 0)) :
  idx (vecC c m) x=V (c x.toNat:Int)/\setS (vecC c m) x (W64 ((c x.toNat:Int)+1))=vecC c' m:=by
 have ex:x=(x.toNat:Int):=qgF b;have e1:=qlC (c:=c) (m:=m) (k:=x.toNat) (by omega);have a:=qt8 (c:=c) (m:=m) (k:=x.toNat) d;rw[<-ex] at e1 a;refine⟨e1,a.trans (qlE (fun k g=>?_))⟩;rw[f k g]
 congr 2
 rw[jn];simp;omega
def netB(d:qd)(x:Int):Bool:=inI x 0 ((d.Am.length:Int)-1)
theorem qvw{n:Nat}{d:qd}{x:Int}(a:d.Am.length<=1048576):qef n d x=V (netB d x):=by
 simp only[qef,qi0,jd,qcM,qfM (show d.Am.length<=9223372036854775807 by omega)];rfl
theorem qt2{n:Nat}{d:qd}{x:Int}(a:d.Am.length<=1048576):qam n x 0 (W64 ((d.Am.length:Int)-1))=V (netB d x):=by
 rw[qcA,qfM (show d.Am.length<=9223372036854775807 by omega)];rfl
def hasNamesB(d:qd):Bool:=(decide (d.Ab.length<=14)&&(decide (d.Am.length<=30)&&decide (d.Aj.length<=8)))&&(namesB (d.Ab.map ql.Bc)&&(namesB d.Am&&namesB (d.Aj.map qQ.Bc)))
theorem qvu{d:qd}(h:qlv d):Ev (fun n=>qfS n d) (hasNamesB d):=by
 have i:=h.Ab.len;have l:=h.Aj.len;have b:Ev (fun n=>qby d n ([]:List ByteArray) 0) (d.Ab.map ql.Bc,(d.Ab.length:Int)):=by
  refine loopF (Lf:=qby d) (S:=fun j=>(d.Ab.take j).map ql.Bc) (len:=d.Ab.length) (fun n=>?_) (fun j a X f=>?_)
  ·simp only[qby,qk (je _),cond_false,jC]
  ·simpa only[qby,qi a,cond_true,qC a,jd,qmX a i,qgA (g:=ql.Bc) a,wS j] using f
 have c:Ev (fun n=>qbp d n ([]:List ByteArray) 0) (d.Aj.map qQ.Bc,(d.Aj.length:Int)):=by
  refine loopF (Lf:=qbp d) (S:=fun j=>(d.Aj.take j).map qQ.Bc) (len:=d.Aj.length) (fun n=>?_) (fun j a X f=>?_)
  ·simp only[qbp,qk (je _),cond_false,jC]
  ·simpa only[qbp,qi a,cond_true,qC a,jd,qmX a l,qgA (g:=qQ.Bc) a,wS j] using f
 unfold qfS hasNamesB;refine Ev.bind b (Ev.bind c ?_);simp only[jq];rw[show decide ((d.Ab.length:Int)<=14)=decide (d.Ab.length<=14) from qpj (k:=14),show decide ((d.Am.length:Int)<=30)=decide (d.Am.length<=30) from qpj (k:=30),show decide ((d.Aj.length:Int)<=8)=decide (d.Aj.length<=8) from qpj (k:=8)];rw[Bool.and_assoc,Bool.and_assoc];exact Ev.andP fun _=>Ev.andP fun _=>Ev.andP fun _=>Ev.and (qks (qo6 h.Ab (fun x m=>m.Bc))) fun _=>Ev.and (qks h.Am) fun _=>Ev.last (qks (qo6 h.Aj (fun x m=>m.Bc)))
def instB(l:qq)(d:qd)(x:ql):Bool:=inI x.Bu 0 ((l.As.length:Int)-1)&&(((x.Am.length:Int)==((gt l.As x.Bu.toNat).Bg.length:Int))&&x.Am.all (netB d))
theorem qtL{d:qd}{l:qq}{x:ql}(g:d.Am.length<=1048576)(h:l.As.length<=1048576)(a:x.Am.length<=1048576):Ev (fun n=>qeC n d l x) (instB l d x):=by
 simp only[qeC,qhj,jd,qcM,qfM (show l.As.length<=9223372036854775807 by omega)];unfold instB;refine Ev.andP fun c=>?_;rw[qbc] at c;rw[qgp c.1 (by omega)];simp only[jd];refine Ev.andP fun _=>Ev.bind (b:=x.Am.any fun y=>!netB d y) ?_ (Ev.now (by rw[qsd]));unfold qaW;exact Ev.bind (b:=ixL (fun y=>!netB d y) x.Am) (qgW (fin:=(x.Am.length:Int)) (Lf:=qO x.Am d) (pf:=fun n y=>qdV n y d) (fun y _=>⟨0,fun n _=>by simp only[qdV,qvw g,jd]⟩)
   (fun n=>by simp only[qO,qk (je _),cond_false])
   (fun n j y a=>by
    have f:=(List.getElem?_eq_some_iff.1 a).1;simp only[qO,qi f,cond_true,qR a,jd,wS j])
   (fun n=>by unfold qbe;congr 1;funext o;cases o<;>rfl)) (Ev.now (by rw[qpN]))
def portB(d:qd)(p:qQ):Bool:=inI p.Bx 1 2&&netB d p.Ca
theorem qCk{x:Int}:inI x 1 2=((x==1) || (x==2)):=by
 unfold inI;rw[jn];simp;omega
def lastN(x:ql):Int:=at0 x.Am (x.Am.length-1)
theorem qvS{x:ql}(a:1<=x.Am.length)(b:x.Am.length<=1048576):idx x.Am (W64 ((x.Am.length:Int)-1))=V (lastN x):=by
 rw[qfM (by omega),show((x.Am.length:Int)-1)=((x.Am.length-1:Nat):Int) by omega,qar (by omega)];rfl
theorem qx6{d:qd}{x:ql}(a:1<=x.Am.length)(h:x.Am.all (netB d)=true):0<=lastN x/\lastN x<d.Am.length:=by
 rw[qhB (d:=0),qas] at h;have:=h (x.Am.length-1) (by omega);unfold netB at this;rw[qbc] at this;unfold lastN at0;omega
theorem qsB{l:qq}{d:qd}{x:ql}(a:libB l=true)(h:instB l d x=true):1<=x.Am.length/\0<=lastN x/\lastN x<d.Am.length:=by
 unfold instB at h;simp only[jf,qbc,beq_iff_eq] at h;obtain⟨g,i,f⟩:=h;unfold libB at a;simp only[jf] at a;have c:=a.1;rw[qjt,qas] at c;have:=qhI (qj2 (c x.Bu.toNat (by omega)));have b:1<=x.Am.length:=by omega
 exact⟨b,qx6 b f⟩
def drvI(d:qd)(k j:Nat):Nat:=cntP (fun i=>lastN (gt d.Ab i)==(k:Int)) j
def drvP(d:qd)(k j:Nat):Nat:=cntP (fun i=>((gt d.Aj i).Bx==1)&&((gt d.Aj i).Ca==(k:Int))) j
def drvB(d:qd):Bool:=allN (fun k=>((drvI d k d.Ab.length+drvP d k d.Aj.length:Nat):Int)==1) d.Am.length
def designB(l:qq)(d:qd):Bool:=(libB l&&hasNamesB d)&&(d.Ab.all (instB l d)&&(d.Aj.all (portB d)&&drvB d))
theorem qqN{d:qd}{k j:Nat}:drvI d k (j+1)=drvI d k j+(bif lastN (gt d.Ab j)==(k:Int) then 1 else 0):=rfl
theorem qpk{d:qd}{k j:Nat}:drvP d k (j+1)=drvP d k j+(bif ((gt d.Aj j).Bx==1)&&((gt d.Aj j).Ca==(k:Int)) then 1 else 0):=rfl
theorem qv5{l:qq}{d:qd}(h:qiR l)(g:qlv d):Ev (fun n=>qkm n l d) (designB l d):=by
 have I:=g.Ab.len;have J:=g.Aj.len;have i:=g.Am.len;have v:=h.As.len;unfold qkm designB;refine Ev.guardB (Ev.or (qvb h) fun _=>Ev.neg (qvu g)) fun z=>?_;rw[jf] at z;rw[qpd (m:=d.Am.length) (by omega)];simp only[jd];have t:Ev (fun n=>qdJ l d n (vecC (fun _=>0) d.Am.length) 0) (bif allN (fun j=>instB l d (gt d.Ab j)) d.Ab.length then .nxt (vecC (fun k=>drvI d k d.Ab.length) d.Am.length,(d.Ab.length:Int)) else .ret false):=by
  refine loopN (Lf:=qdJ l d) (S:=fun j=>vecC (fun k=>drvI d k j) d.Am.length) (fun j=>instB l d (gt d.Ab j)) (fun n=>?_) (fun j a K X f=>?_)
  ·simp only[qdJ,qk (je _),cond_false]
  ·simp only[qdJ,qi a,cond_true,qC a,jd,wS j];have p:=(qop g.Ab a).Am.len;refine Ev.chk1 (qtL i v p) fun hi=>?_;obtain⟨r,B,C⟩:=qsB z.1 hi;have L:drvI d (lastN (gt d.Ab j)).toNat j<=j:=qgG;obtain⟨e1,s⟩:=qm5 (c:=fun k=>drvI d k j) (c':=fun k=>drvI d k (j+1)) B C (by show drvI _ _ _<_;omega) (fun k _=>qqN);simp only[qvS r p,jd,e1,s];exact f hi
 have u:Ev (fun n=>qcN d n (vecC (fun k=>drvI d k d.Ab.length) d.Am.length) 0) (bif allN (fun j=>portB d (gt d.Aj j)) d.Aj.length then .nxt (vecC (fun k=>drvI d k d.Ab.length+drvP d k d.Aj.length) d.Am.length,(d.Aj.length:Int)) else .ret false):=by
  refine loopN (Lf:=qcN d) (S:=fun j=>vecC (fun k=>drvI d k d.Ab.length+drvP d k j) d.Am.length) (fun j=>portB d (gt d.Aj j)) (fun n=>?_) (fun j a K X f=>?_)
  ·simp only[qcN,qk (je _),cond_false]
  ·simp only[qcN,qi a,cond_true,qC a,jd,qvw i,bne,wS j];refine Ev.chkT1 ?_ fun hi=>?_
   ·unfold portB;rw[qCk];cases ((gt d.Aj j).Bx==1)<;>cases ((gt d.Aj j).Bx==2)<;>exact .done
   ·have f:=f hi;unfold portB netB at hi;simp only[jf,qbc] at hi;have D:drvI d (gt d.Aj j).Ca.toNat d.Ab.length<=d.Ab.length:=qgG;have F:drvP d (gt d.Aj j).Ca.toNat j<=j:=qgG;cases r:((gt d.Aj j).Bx==1)
    ·have:vecC (fun k=>drvI d k d.Ab.length+drvP d k (j+1)) d.Am.length=vecC (fun k=>drvI d k d.Ab.length+drvP d k j) d.Am.length:=by
      refine qlE (fun k _=>?_);rw[qpk,r];rfl
     rw[this] at f;exact f
    ·obtain⟨e1,s⟩:=qm5 (c:=fun k=>drvI d k d.Ab.length+drvP d k j) (c':=fun k=>drvI d k d.Ab.length+drvP d k (j+1)) (x:=(gt d.Aj j).Ca) (m:=d.Am.length) hi.2.1 (by omega) (by show drvI _ _ _+drvP _ _ _<_;omega) (fun k _=>by rw[qpk,r,jG];omega);simp only[cond_true,jd,e1,s];exact f
 rw[qjt,qjt];refine Ev.bind t ?_;cases allN (fun j=>instB l d (gt d.Ab j)) d.Ab.length
 ·exact .done
 ·refine Ev.bind u ?_;cases allN (fun j=>portB d (gt d.Aj j)) d.Aj.length
  ·exact .done
  ·simp only[cond_true,jG];unfold qb2;refine Ev.bind (b:=(vecC (fun k=>drvI d k d.Ab.length+drvP d k d.Aj.length) d.Am.length).any fun x=>!(x==1)) (Ev.bind (b:=ixL (fun x=>!(x==1)) (vecC (fun k=>drvI d k d.Ab.length+drvP d k d.Aj.length) d.Am.length)) (qgW (fin:=(((vecC (fun k=>drvI d k d.Ab.length+drvP d k d.Aj.length) d.Am.length).length:Nat):Int)) (Lf:=qap (vecC (fun k=>drvI d k d.Ab.length+drvP d k d.Aj.length) d.Am.length)) (pf:=fun n y=>qk1 n y) (fun y _=>.done)
    (fun n=>by simp only[qap,qk (je _),cond_false])
    (fun n j y A=>by
     have a:=(List.getElem?_eq_some_iff.1 A).1;have:j<d.Am.length:=by rw[qoz] at a;exact a
     simp only[qap,qi a,cond_true,qR A,jd,wS j])
    (fun n=>by unfold qcp;congr 1;funext o;cases o<;>rfl)) (Ev.now (by rw[qpN]))) (Ev.now ?_)
   rw[qsd,qhB (d:=0),qoz];unfold drvB
   congr 1
   exact qiU (fun k H=>by
    have:=qwc (c:=fun k=>drvI d k d.Ab.length+drvP d k d.Aj.length) H;unfold at0 at this;rw[this])
theorem qvv{l:qq}{d:qd}(h:qiR l)(f:qlv d):Ev (fun n=>qkq n l d) (d.Ab.all (instB l d)&&d.Aj.all (portB d)):=by
 have r:=f.Ab.len;have s:=f.Aj.len;have c:=f.Am.len;have p:=h.As.len;have i:∀x:ql,x.Am.length<=1048576->Ev (fun n=>qe4 d x n 0) (bif x.Am.all (netB d) then .nxt (x.Am.length:Int) else .ret false):=fun x t=>
  qqD (fun n=>by simp only[qe4,qk (je _),cond_false]) (fun j a X b=>by
   simp only[qe4,qi a,cond_true,qc4 a,jd,qt2 c,wS j,qdt];exact Ev.okP1 fun _=>b)
 have g:Ev (fun n=>qeT l d n 0) (bif allN (fun j=>instB l d (gt d.Ab j)) d.Ab.length then .nxt (d.Ab.length:Int) else .ret false):=by
  refine qfi ?_ (fun j a X b=>Ev.succ ?_)
  ·exact Ev.succ (by simp only[qeT,qk (je _),cond_false];exact .done)
  ·simp only[qeT,qi a,cond_true,qC a,jd,qcA,qfM (show l.As.length<=9223372036854775807 by omega),wS j,bne];have m:=(qop f.Ab a).Am.len;unfold instB;rw[<-Bool.and_assoc];refine Ev.chkT ?_ fun _=>Ev.bind (i _ m) ?_
   ·simp only[qdt];refine Ev.orBP fun o=>?_;rw[qbc] at o;rw[qgp o.1 (by omega)];exact .done
   ·cases (gt d.Ab j).Am.all (netB d)
    ·exact .done
    ·exact b
 have k:Ev (fun n=>qe1 d n 0) (bif allN (fun j=>portB d (gt d.Aj j)) d.Aj.length then .nxt (d.Aj.length:Int) else .ret false):=by
  refine qfi ?_ (fun j a X b=>Ev.succ ?_)
  ·exact Ev.succ (by simp only[qe1,qk (je _),cond_false];exact .done)
  ·simp only[qe1,qi a,cond_true,qC a,jd,qt2 c,wS j];simp only[qcA,jd,qdt];unfold portB;exact Ev.okP fun _=>Ev.okP1 fun _=>b
 unfold qkq;rw[qjt,qjt];refine Ev.bind g ?_;cases allN (fun j=>instB l d (gt d.Ab j)) d.Ab.length
 ·exact .done
 ·refine Ev.bind k ?_;cases allN (fun j=>portB d (gt d.Aj j)) d.Aj.length<;>exact .done
theorem qu4{l:qq}{d:qd}(h:qiR l)(i:qlv d):Ev (fun n=>qkn n l d) (designB l d):=by
 have J:=i.Ab.len;have K:=i.Aj.len;have W:=i.Am.len;have T:=h.As.len;have e:designB l d=((libB l&&(decide (d.Ab.length<=14)&&(decide (d.Am.length<=30)&&(decide (d.Aj.length<=8)&&(d.Ab.all (instB l d)&&d.Aj.all (portB d))))))&&((namesB (d.Ab.map ql.Bc)&&(namesB (d.Aj.map qQ.Bc)&&namesB d.Am))&&drvB d)):=by
  unfold designB hasNamesB;generalize libB l=a1;generalize decide (d.Ab.length<=14)=a2;generalize decide (d.Am.length<=30)=a3;generalize decide (d.Aj.length<=8)=a4;generalize d.Ab.all (instB l d)=a5;generalize d.Aj.all (portB d)=a6;generalize namesB (d.Ab.map ql.Bc)=a7;generalize namesB (d.Aj.map qQ.Bc)=a8;generalize namesB d.Am=a9;generalize drvB d=a10;rw[jn];simp only[jf];constructor
  ·rintro⟨⟨f,⟨p,r,u⟩,z,B,A⟩,v,y,o⟩;exact⟨⟨f,p,r,u,v,y⟩,⟨z,A,B⟩,o⟩
  ·rintro⟨⟨f,p,r,u,v,y⟩,⟨z,A,B⟩,o⟩;exact⟨⟨f,⟨p,r,u⟩,z,B,A⟩,v,y,o⟩
 rw[e];unfold qkn;refine Ev.guardB ?_ fun P=>?_
 ·refine Ev.or (qtF h) fun _=>?_;rw[show decide ((d.Ab.length:Int) > 14) = !decide (d.Ab.length<=14) by rw[jn];simp;omega,show decide ((d.Am.length:Int) > 30) = !decide (d.Am.length<=30) by rw[jn];simp;omega,show decide ((d.Aj.length:Int) > 8) = !decide (d.Aj.length<=8) by rw[jn];simp;omega];simp only[qdt];exact Ev.orBP fun _=>Ev.orBP fun _=>Ev.orBP fun _=>Ev.neg (qvv h i)
 ·simp only[jf] at P;obtain⟨s,_,_,_,N,O⟩:=P;rw[qjt,qas] at N O;have C:Ev (fun n=>qdw d n ([]:List ByteArray) 0) (d.Ab.map ql.Bc,(d.Ab.length:Int)):=by
   refine loopF (Lf:=qdw d) (S:=fun j=>(d.Ab.take j).map ql.Bc) (len:=d.Ab.length) (fun n=>?_) (fun j a X b=>?_)
   ·simp only[qdw,qk (je _),cond_false,jC]
   ·simpa only[qdw,qi a,cond_true,qC a,jd,qmX a J,qgA (g:=ql.Bc) a,wS j] using b
  have D:Ev (fun n=>qdC d n ([]:List ByteArray) 0) (d.Aj.map qQ.Bc,(d.Aj.length:Int)):=by
   refine loopF (Lf:=qdC d) (S:=fun j=>(d.Aj.take j).map qQ.Bc) (len:=d.Aj.length) (fun n=>?_) (fun j a X b=>?_)
   ·simp only[qdC,qk (je _),cond_false,jC]
   ·simpa only[qdC,qi a,cond_true,qC a,jd,qmX a K,qgA (g:=qQ.Bc) a,wS j] using b
  have F:Ev (fun n=>qdA d n (vecC (fun _=>0) d.Am.length) 0) (vecC (fun k=>drvI d k d.Ab.length) d.Am.length,(d.Ab.length:Int)):=by
   refine loopF (Lf:=qdA d) (S:=fun j=>vecC (fun k=>drvI d k j) d.Am.length) (len:=d.Ab.length) (fun n=>?_) (fun j a X b=>?_)
   ·simp only[qdA,qk (je _),cond_false]
   ·have M:=(qop i.Ab a).Am.len;obtain⟨f,p,r⟩:=qsB s (N j a);have Y:drvI d (lastN (gt d.Ab j)).toNat j<=j:=qgG;obtain⟨e1,t⟩:=qm5 (c:=fun k=>drvI d k j) (c':=fun k=>drvI d k (j+1)) p r (by show drvI _ _ _<_;omega) (fun k _=>qqN);simpa only[qdA,qi a,cond_true,qC a,jd,wS j,qvS f M,e1,t] using b
  have H:Ev (fun n=>qcW d n (vecC (fun k=>drvI d k d.Ab.length) d.Am.length) 0) (vecC (fun k=>drvI d k d.Ab.length+drvP d k d.Aj.length) d.Am.length,(d.Aj.length:Int)):=by
   refine loopF (Lf:=qcW d) (S:=fun j=>vecC (fun k=>drvI d k d.Ab.length+drvP d k j) d.Am.length) (len:=d.Aj.length) (fun n=>?_) (fun j a X b=>?_)
   ·simp only[qcW,qk (je _),cond_false]
   ·have hi:=O j a;unfold portB netB at hi;simp only[jf,qbc] at hi;have Q:drvI d (gt d.Aj j).Ca.toNat d.Ab.length<=d.Ab.length:=qgG;have R:drvP d (gt d.Aj j).Ca.toNat j<=j:=qgG;simp only[qcW,qi a,cond_true,qC a,jd,wS j];cases f:((gt d.Aj j).Bx==1)
    ·have:vecC (fun k=>drvI d k d.Ab.length+drvP d k (j+1)) d.Am.length=vecC (fun k=>drvI d k d.Ab.length+drvP d k j) d.Am.length:=by
      refine qlE (fun k _=>?_);rw[qpk,f];rfl
     rw[this] at b;exact b
    ·obtain⟨e1,t⟩:=qm5 (c:=fun k=>drvI d k d.Ab.length+drvP d k j) (c':=fun k=>drvI d k d.Ab.length+drvP d k (j+1)) (x:=(gt d.Aj j).Ca) (m:=d.Am.length) hi.2.1 (by omega) (by show drvI _ _ _+drvP _ _ _<_;omega) (fun k _=>by rw[qpk,f,jG];omega);simp only[cond_true,jd,e1,t];exact b
  have I:Ev (fun n=>qe6 (vecC (fun _=>0) d.Am.length) (vecC (fun k=>drvI d k d.Ab.length+drvP d k d.Aj.length) d.Am.length) n 0) (bif drvB d then .nxt (d.Am.length:Int) else .ret false):=by
   refine qfi ?_ (fun j a X b=>Ev.succ ?_)
   ·exact Ev.succ (by simp only[qe6,qoz,qk (je _),cond_false];exact .done)
   ·simp only[qe6,qoz,qi a,cond_true,qlC a,jd,bne,qdt,wS j];exact Ev.okP1 fun _=>b
  refine Ev.bind C (Ev.bind D ?_);refine Ev.guardB (Ev.or (qou (qo6 i.Ab (fun x L=>L.Bc))) fun _=>Ev.or (qou (qo6 i.Aj (fun x L=>L.Bc))) fun _=>Ev.neg (qou i.Am)) fun _=>?_;rw[qpd (m:=d.Am.length) (by omega)];simp only[jd];refine Ev.bind F (Ev.bind H (Ev.bind I ?_));cases drvB d<;>exact .done

theorem qBv{m k:Nat}:decide ((m:Int)<(k:Int)) = !decide (k<=m):=by rw[jn];simp
theorem qAP{m k:Nat}:decide ((m:Int) > (k:Int)) = !decide (m<=k):=by rw[jn];simp
def treeB(w:qE)(j:Nat):Bool:=bif decide (j=0) then(at0 w.Ar j==-1)&&(at0 w.Bz j==0) else inI (at0 w.Ar j) 0 ((j:Int)-1)
def wireB(w:qE)(s:Int):Bool:=
 lenB w.Ar 1 8&&(((w.Bz.length:Int)==(w.Ar.length:Int))&&(((w.Bv.length:Int)==(w.Ar.length:Int))&&(allN (treeB w) w.Ar.length &&
  ((w.Bz.all fun x=>inI x 0 1000)&&((w.Bv.all fun x=>inI x 0 500)&&(((w.Bn.length:Int)==s)&&(w.Bn.all fun x=>inI x 0 ((w.Ar.length:Int)-1))))))))
theorem qyP{w:qE}(i:w.Ar.length<=1048576)(h:((w.Bz.length:Int)==(w.Ar.length:Int))=true):Ev (fun n=>qii n w) (allN (treeB w) w.Ar.length):=by
 rw[beq_iff_eq] at h;have g:Ev (fun n=>qbo w n 0) (bif allN (treeB w) w.Ar.length then .nxt (w.Ar.length:Int) else .ret false):=by
  refine qfi ?_ (fun j b X a=>Ev.succ ?_)
  ·exact Ev.succ (by simp only[qbo,qk (je _),cond_false];exact .done)
  ·simp only[qbo,qi b,cond_true,qar b,jd,qcM,wS j,bne,qdt];unfold treeB;by_cases f:j=0
   ·subst f;rw[show idx w.Bz (0:Int)=V (at0 w.Bz 0) from qar (j:=0) (by omega)];simp only[jd];refine Ev.tt (by simp) (Ev.okP fun _=>Ev.okP1 fun _=>Ev.ff (by simp) a)
   ·have e1:decide (j=0)=false:=by simp;omega
    have c:((j:Int)==0)=false:=by simp;omega
    have d:decide ((j:Int) > 0)=true:=by simp;omega
    rw[e1,c,d,qfM (show j<=9223372036854775807 by omega)];simp only[cond_false,cond_true];exact Ev.okP1 fun _=>a
 unfold qii;refine Ev.bind g ?_;cases allN (treeB w) w.Ar.length<;>exact .done
theorem qyc{w:qE}{s:Int}(h:qqs w):Ev (fun n=>qmc n w s) (wireB w s):=by
 have a:=h.Ar.len;simp only[qmc,qbB,jd,qcM,qfM (show w.Ar.length<=9223372036854775807 by omega)];unfold wireB;rw[show inI (w.Ar.length:Int) 1 8=lenB w.Ar 1 8 from quV (lo:=1) (hi:=8)];exact Ev.andP fun _=>Ev.andP fun b=>Ev.andP fun _=>Ev.and (qyP a b) fun _=>Ev.and (qeK h.Bz.len) fun _=>Ev.and (qeK h.Bv.len) fun _=>Ev.andP fun _=>Ev.last (qeK h.Bn.len)
theorem qwA{w:qE}{s:Int}(h:qqs w):Ev (fun n=>qmv n w s) (wireB w s):=by
 have r:=h.Ar.len;have o:=h.Bn.len;have e:wireB w s=((decide (1<=w.Ar.length)&&(decide (w.Ar.length<=8)&&(((w.Bz.length:Int)==(w.Ar.length:Int))&&(((w.Bv.length:Int)==(w.Ar.length:Int))&&((w.Bn.length:Int)==s)))))&&(allN (fun j=>(inI (at0 w.Bv j) 0 500&&inI (at0 w.Bz j) 0 1000)&&treeB w j) w.Ar.length&&(w.Bn.all fun x=>inI x 0 ((w.Ar.length:Int)-1)))):=by
  unfold wireB lenB;cases h1:((w.Bz.length:Int)==(w.Ar.length:Int))
  ·simp
  ·cases h2:((w.Bv.length:Int)==(w.Ar.length:Int))
   ·simp
   ·rw[beq_iff_eq] at h1 h2;rw[qm2,qm2];rw[qhB (p:=fun x=>inI x 0 1000) (d:=0),qhB (p:=fun x=>inI x 0 500) (d:=0),show w.Bz.length=w.Ar.length by omega,show w.Bv.length=w.Ar.length by omega];show _=(_&&((allN (fun j=>inI (w.Bv.getD j 0) 0 500) _&&allN (fun j=>inI (w.Bz.getD j 0) 0 1000) _&&_)&&_));generalize allN (fun j=>inI (w.Bv.getD j 0) 0 500) w.Ar.length=a1;generalize allN (fun j=>inI (w.Bz.getD j 0) 0 1000) w.Ar.length=a2;generalize allN (fun j=>treeB w j) w.Ar.length=a3;generalize ((w.Bn.length:Int)==s)=a4;generalize decide (1<=w.Ar.length)=a5;generalize decide (w.Ar.length<=8)=a6;generalize (w.Bn.all fun x=>inI x 0 ((w.Ar.length:Int)-1))=a7;cases a1<;>cases a2<;>cases a3<;>cases a4<;>cases a5<;>cases a6<;>rfl
 rw[e];unfold qmv;refine Ev.guardB ?_ fun m=>?_
 ·rw[show decide ((w.Ar.length:Int)<1) = !decide (1<=w.Ar.length) from qBv (k:=1),show decide ((w.Ar.length:Int) > 8) = !decide (w.Ar.length<=8) from qAP (k:=8)];simp only[bne,qdt];exact Ev.orBP fun _=>Ev.orBP fun _=>Ev.orBP fun _=>Ev.orBP fun _=>.done
 ·simp only[jf,beq_iff_eq] at m;have c:Ev (fun n=>qc2 w n 0) (bif allN (fun j=>(inI (at0 w.Bv j) 0 500&&inI (at0 w.Bz j) 0 1000)&&treeB w j) w.Ar.length then .nxt (w.Ar.length:Int) else .ret false):=by
   refine qfi ?_ (fun j a X b=>Ev.succ ?_)
   ·exact Ev.succ (by simp only[qc2,qk (je _),cond_false];exact .done)
   ·simp only[qc2,qi a,cond_true,qar a,qar (show j<w.Bv.length by omega),qar (show j<w.Bz.length by omega),jd,qcA,wS j,bne,qdt];refine Ev.chkT (Ev.orBP fun _=>.done) fun _=>?_;unfold treeB;by_cases l:j=0
    ·subst l;refine Ev.tt (by simp) (Ev.okP fun _=>Ev.okP1 fun _=>Ev.ff (by simp) b)
    ·have e1:decide (j=0)=false:=by simp;omega
     have g:((j:Int)==0)=false:=by simp;omega
     have i:decide ((j:Int) > 0)=true:=by simp;omega
     rw[e1,g,i,qfM (show j<=9223372036854775807 by omega)];simp only[cond_false,cond_true];exact Ev.okP1 fun _=>b
  have f:Ev (fun n=>qgd w n 0) (bif (w.Bn.all fun x=>inI x 0 ((w.Ar.length:Int)-1)) then .nxt (w.Bn.length:Int) else .ret false):=
   qqD (fun n=>by simp only[qgd,qk (je _),cond_false]) (fun j a X b=>by
    simp only[qgd,qi a,cond_true,qc4 a,jd,qcA,qfM (show w.Ar.length<=9223372036854775807 by omega),wS j,qdt];exact Ev.okP1 fun _=>b)
  refine Ev.bind c ?_;cases allN (fun j=>(inI (at0 w.Bv j) 0 500&&inI (at0 w.Bz j) 0 1000)&&treeB w j) w.Ar.length
  ·exact .done
  ·refine Ev.bind f ?_;cases (w.Bn.all fun x=>inI x 0 ((w.Ar.length:Int)-1))<;>exact .done
instance:Inhabited Tplace:=⟨⟨0,0,0,false⟩⟩
instance:Inhabited Tl05Place:=⟨⟨0,0,0,false⟩⟩
def toSp(p:Tplace):Tl05Place:=⟨p.instance_,p.pin,p.net,p.drives⟩
def plX(i:Nat)(x:ql)(j:Nat):List Tplace:=(List.range j).map fun(k:Nat)=>⟨(i:Int),(k:Int),at0 x.Am k,decide (k+1=x.Am.length)⟩
def plI(d:qd)(j:Nat):List Tplace:=(List.range j).flatMap fun(i:Nat)=>plX i (gt d.Ab i) (gt d.Ab i).Am.length
def plP(d:qd)(j:Nat):List Tplace:=(List.range j).map fun(i:Nat)=>⟨-1,(i:Int),(gt d.Aj i).Ca,(gt d.Aj i).Bx==1⟩
def places(d:qd):List Tplace:=plI d d.Ab.length++plP d d.Aj.length
theorem qwk{i:Nat}{x:ql}{j:Nat}:plX i x (j+1)=plX i x j++[⟨(i:Int),(j:Int),at0 x.Am j,decide (j+1=x.Am.length)⟩]:=by
 unfold plX;rw[List.range_succ,jK];rfl
theorem qom{d:qd}{j:Nat}:plI d (j+1)=plI d j++plX j (gt d.Ab j) (gt d.Ab j).Am.length:=by
 unfold plI;rw[List.range_succ,Jl];simp
theorem qvs{d:qd}{j:Nat}:plP d (j+1)=plP d j++[⟨-1,(j:Int),(gt d.Aj j).Ca,(gt d.Aj j).Bx==1⟩]:=by
 unfold plP;rw[List.range_succ,jK];rfl
theorem qse{i:Nat}{x:ql}{j:Nat}:(plX i x j).length=j:=by simp[plX]
theorem qsj{d:qd}{j:Nat}:(plP d j).length=j:=by simp[plP]
structure smallD(d:qd):Prop where
 ni:d.Ab.length<=14
 nn:d.Am.length<=30
 np:d.Aj.length<=8
 nx:∀i,i<d.Ab.length->2<=(gt d.Ab i).Am.length/\(gt d.Ab i).Am.length<=5
theorem qX{l:qq}{d:qd}(h:designB l d=true):smallD d:=by
 unfold designB hasNamesB libB at h;simp only[jf,decide_eq_true_eq] at h;obtain⟨⟨⟨b,_⟩,⟨c,f,g⟩,_⟩,a,_⟩:=h;refine⟨c,f,g,fun i hi=>?_⟩;rw[qjt,qas] at a b;have:=a i hi;unfold instB at this;simp only[jf,qbc,beq_iff_eq] at this;have k:=qhI (qj2 (b (gt d.Ab i).Bu.toNat (by omega)));omega
theorem qqg{d:qd}(h:smallD d){j:Nat}(a:j<=d.Ab.length):(plI d j).length<=5*j:=by
 induction j with
 |zero=>exact je _
 |succ j ih=>
  rw[qom,jg,qse];have:=ih (by omega);have:=h.nx j (by omega);omega
theorem qaZ{d:qd}(h:smallD d):(places d).length<=78:=by
 unfold places;rw[jg,qsj];have:=qqg h (je _);have:=h.ni;have:=h.np;omega
theorem qph{d:qd}(h:smallD d):Ev (fun n=>qcK n d) (places d):=by
 have l:=h.ni;have m:=h.np;have f:∀i,i<d.Ab.length->∀pre:List Tplace,pre.length<=100->Ev (fun n=>qbW (i:Int) (gt d.Ab i) n pre 0) (pre++plX i (gt d.Ab i) (gt d.Ab i).Am.length,((gt d.Ab i).Am.length:Int)):=by
  intro i hi pre p;have o:=h.nx i hi;have:=loopF (Lf:=qbW (i:Int) (gt d.Ab i)) (S:=fun j=>pre++plX i (gt d.Ab i) j) (len:=(gt d.Ab i).Am.length) (fin:=(pre++plX i (gt d.Ab i) (gt d.Ab i).Am.length,((gt d.Ab i).Am.length:Int))) (fun n=>by
    simp only[qbW,qk (je _),cond_false])
   (fun j a X b=>by
    have k:(pre++plX i (gt d.Ab i) j).length+[(⟨(i:Int),(j:Int),at0 (gt d.Ab i).Am j,decide (j+1=(gt d.Ab i).Am.length)⟩:Tplace)].length<=2147483648:=by
     rw[jg,qse];simp;omega
    simp only[qbW,qi a,cond_true,qar a,jd,lastE a (show(gt d.Ab i).Am.length<=1048576 by omega),qbm k,jp,<-qwk,wS j];exact b)
  simpa [plX] using this
 have c:Ev (fun n=>qbX d n ([]:List Tplace) 0) (plI d d.Ab.length,(d.Ab.length:Int)):=by
  refine loopF (Lf:=qbX d) (S:=fun j=>plI d j) (len:=d.Ab.length) (fun n=>?_) (fun j a X b=>?_)
  ·simp only[qbX,qk (je _),cond_false]
  ·simp only[qbX,qi a,cond_true,qC a,jd,wS j];refine Ev.bind (f j a _ (by have:=qqg h (Nat.le_of_lt a);omega)) ?_;rw[<-qom];exact b
 have g:Ev (fun n=>qbV d n (plI d d.Ab.length) 0) (places d,(d.Aj.length:Int)):=by
  have:=loopF (Lf:=qbV d) (S:=fun j=>plI d d.Ab.length++plP d j) (len:=d.Aj.length) (fin:=(places d,(d.Aj.length:Int))) (fun n=>by
    simp only[qbV,qk (je _),cond_false];rfl)
   (fun j a X b=>by
    have k:(plI d d.Ab.length++plP d j).length+[(⟨-1,(j:Int),(gt d.Aj j).Ca,(gt d.Aj j).Bx==1⟩:Tplace)].length<=2147483648:=by
     rw[jg,qsj];have:=qqg h (je _);simp;omega
    simp only[qbV,qi a,cond_true,qC a,jd,qbm k,jp,<-qvs,wS j];exact b)
  simpa [plP] using this
 unfold qcK;exact Ev.bind c (Ev.bind g .done)
theorem qiP{d:qd}(h:smallD d):Ev (fun n=>qcC n d) ((places d).map toSp):=by
 have l:=h.ni;have m:=h.np;have f:∀i,i<d.Ab.length->∀pre:List Tplace,pre.length<=100->Ev (fun n=>qda (i:Int) (gt d.Ab i) n (pre.map toSp) 0) ((pre++plX i (gt d.Ab i) (gt d.Ab i).Am.length).map toSp,((gt d.Ab i).Am.length:Int)):=by
  intro i hi pre p;have o:=h.nx i hi;have:=loopF (Lf:=qda (i:Int) (gt d.Ab i)) (S:=fun j=>(pre++plX i (gt d.Ab i) j).map toSp) (len:=(gt d.Ab i).Am.length) (fin:=((pre++plX i (gt d.Ab i) (gt d.Ab i).Am.length).map toSp,((gt d.Ab i).Am.length:Int))) (fun n=>by
    simp only[qda,qk (je _),cond_false])
   (fun j a X b=>by
    have k:((pre++plX i (gt d.Ab i) j).map toSp).length+[(⟨(i:Int),(j:Int),at0 (gt d.Ab i).Am j,decide (j+1=(gt d.Ab i).Am.length)⟩:Tl05Place)].length<=2147483648:=by
     rw[jq,jg,qse];simp;omega
    simp only[qda,qi a,cond_true,qar a,jd,lastE a (show(gt d.Ab i).Am.length<=1048576 by omega),qbm k,wS j];rw[qwk,<-jp,jK] at b;exact b)
  simpa [plX] using this
 have c:Ev (fun n=>qc1 d n ([]:List Tl05Place) 0) ((plI d d.Ab.length).map toSp,(d.Ab.length:Int)):=by
  refine loopF (Lf:=qc1 d) (S:=fun j=>(plI d j).map toSp) (len:=d.Ab.length) (fun n=>?_) (fun j a X b=>?_)
  ·simp only[qc1,qk (je _),cond_false]
  ·simp only[qc1,qi a,cond_true,qC a,jd,wS j];refine Ev.bind (f j a _ (by have:=qqg h (Nat.le_of_lt a);omega)) ?_;rw[<-qom];exact b
 have g:Ev (fun n=>qc8 d n ((plI d d.Ab.length).map toSp) 0) ((places d).map toSp,(d.Aj.length:Int)):=by
  have:=loopF (Lf:=qc8 d) (S:=fun j=>(plI d d.Ab.length++plP d j).map toSp) (len:=d.Aj.length) (fin:=((places d).map toSp,(d.Aj.length:Int))) (fun n=>by
    simp only[qc8,qk (je _),cond_false];rfl)
   (fun j a X b=>by
    have k:((plI d d.Ab.length++plP d j).map toSp).length+[(⟨-1,(j:Int),(gt d.Aj j).Ca,(gt d.Aj j).Bx==1⟩:Tl05Place)].length<=2147483648:=by
     rw[jq,jg,qsj];have:=qqg h (je _);simp;omega
    simp only[qc8,qi a,cond_true,qC a,jd,qbm k,wS j];rw[qvs,<-jp,jK] at b;exact b)
  simpa [plP] using this
 unfold qcC;exact Ev.bind c (Ev.bind g .done)
def snkQ(d:qd)(k:Int)(i:Nat):Bool:=((gt (places d) i).net==k)&&!(gt (places d) i).drives
def sinksL(d:qd)(k:Int)(j:Nat):List Int:=((List.range j).filter (snkQ d k)).map fun(i:Nat)=>(i:Int)
def snkN(d:qd)(k:Int):Nat:=cntP (snkQ d k) (places d).length
theorem qkN{d:qd}{k:Int}{j:Nat}:sinksL d k (j+1)=sinksL d k j++(bif snkQ d k j then[(j:Int)] else[]):=by
 unfold sinksL;rw[List.range_succ,List.filter_append,jK]
 congr 1
 cases h:snkQ d k j<;>simp[h]
theorem qj3{d:qd}{k:Int}{j:Nat}:(sinksL d k j).length=cntP (snkQ d k) j:=by
 induction j with
 |zero=>rfl
 |succ j ih=>
  rw[qkN,jg,ih];show _=cntP (snkQ d k) j+_
  congr 1
  cases snkQ d k j<;>rfl
theorem qrn{α β:Type}[Inhabited α][Inhabited β]{xs:List α}{g:α->β}{j:Nat}(h:j<xs.length):gt (xs.map g) j=g (gt xs j):=by
 rw[qcR (by simpa using h),qcR h];simp
theorem qos{d:qd}{k:Int}(h:smallD d):Ev (fun n=>qhb n d k) (sinksL d k (places d).length):=by
 have l:=qaZ h;have g:Ev (fun n=>qcS k ((places d).map toSp) n ([]:List Int) 0) (sinksL d k (places d).length,((places d).length:Int)):=by
  refine loopF (Lf:=qcS k ((places d).map toSp)) (S:=fun j=>sinksL d k j) (len:=(places d).length) (fun n=>?_) (fun j f X a=>?_)
  ·simp only[qcS,jq,qk (je _),cond_false]
  ·have c:j<((places d).map toSp).length:=by simpa using f
   have i:(sinksL d k j).length+[(j:Int)].length<=2147483648:=by
    rw[qj3];have:cntP (snkQ d k) j<=j:=qgG;simp;omega
   simp only[qcS,qi c,cond_true,qC c,qrn f,jd,wS j];rw[show ∀p:Tplace,(toSp p).net=p.net from fun _=>rfl,show ∀p:Tplace,(toSp p).drives=p.drives from fun _=>rfl];refine Ev.bind (b:=snkQ d k j) (Ev.andP fun _=>.done) ?_;rw[qkN] at a;cases hq:snkQ d k j
   ·rw[hq] at a;simp only[cond_false,Ja] at a⊢;exact a
   ·rw[hq] at a;simp only[cond_true,qbm i,jd] at a⊢;exact a
 unfold qhb;exact Ev.bind (qiP h) (Ev.bind g .done)
theorem qnY{l:qq}{d:qd}(h:designB l d=true){i:Nat}(hi:i<(places d).length):0<=(gt (places d) i).net/\(gt (places d) i).net<d.Am.length:=by
 unfold designB at h;simp only[jf] at h;obtain⟨_,f,g,_⟩:=h;rw[qjt,qas] at f g;have a:gt (places d) i∈places d:=by rw[qcR hi];exact jt hi
 generalize gt (places d) i=p at a;unfold places at a;rcases List.mem_append.1 a with a|a
 ·unfold plI at a;obtain⟨i,hi,a⟩:=List.mem_flatMap.1 a;unfold plX at a;obtain⟨k,m,rfl⟩:=List.mem_map.1 a;have:=f i (List.mem_range.1 hi);unfold instB at this;simp only[jf] at this;have b:=this.2.2;rw[qhB (d:=0),qas] at b;have c:=b k (List.mem_range.1 m);unfold netB at c;rw[qbc] at c;show 0<=at0 _ _/\at0 _ _<_;unfold at0;omega
 ·unfold plP at a;obtain⟨i,hi,rfl⟩:=List.mem_map.1 a;have:=g i (List.mem_range.1 hi);unfold portB netB at this;simp only[jf,qbc] at this;show 0<=(gt d.Aj i).Ca/\(gt d.Aj i).Ca<_;omega
def blockB(b:qj):Bool:=(designB b.Au b.Aa&&((b.Ah.length:Int)==(b.Aa.Am.length:Int)))&&allN (fun j=>wireB (gt b.Ah j) (snkN b.Aa (j:Int))) b.Ah.length
theorem qwY{b:qj}(h:qnl b):Ev (fun n=>qjk n b) (blockB b):=by
 have r:=h.Ah.len;unfold qjk blockB;refine Ev.guardB (Ev.or (qv5 h.Au h.Aa) fun _=>.done) fun l=>?_;rw[jf,beq_iff_eq] at l;obtain⟨o,y⟩:=l;have i:=qX o;have u:=qaZ i;have v:=i.nn;rw[qpd (m:=b.Ah.length) (by omega)];simp only[jd];have f:Ev (fun n=>qdn (places b.Aa) n (vecC (fun _=>0) b.Ah.length) 0) (vecC (fun k=>snkN b.Aa (k:Int)) b.Ah.length,((places b.Aa).length:Int)):=by
  refine loopF (Lf:=qdn (places b.Aa)) (S:=fun j=>vecC (fun k=>cntP (snkQ b.Aa (k:Int)) j) b.Ah.length) (len:=(places b.Aa).length) (fun n=>?_) (fun j a X d=>?_)
  ·simp only[qdn,qk (je _),cond_false];rfl
  ·simp only[qdn,qi a,cond_true,qC a,jd,wS j];obtain⟨s,z⟩:=qnY o a;cases h1:(gt (places b.Aa) j).drives
   ·have t:cntP (snkQ b.Aa (((gt (places b.Aa) j).net.toNat:Nat):Int)) j<=j:=qgG;obtain⟨e1,p⟩:=qm5 (c:=fun k=>cntP (snkQ b.Aa (k:Int)) j) (c':=fun k=>cntP (snkQ b.Aa (k:Int)) (j+1)) (x:=(gt (places b.Aa) j).net) (m:=b.Ah.length) s (by omega) (by show cntP _ _<_;omega) (fun k _=>by
     show cntP _ j+(bif snkQ b.Aa (k:Int) j then 1 else 0)=_;unfold snkQ;rw[h1,Bool.not_false,Bool.and_true])
    simp only[Bool.not_false,cond_true,jd,e1,p];exact d
   ·have:vecC (fun k=>cntP (snkQ b.Aa (k:Int)) (j+1)) b.Ah.length=vecC (fun k=>cntP (snkQ b.Aa (k:Int)) j) b.Ah.length:=by
     refine qlE (fun k _=>?_);show cntP _ j+(bif snkQ b.Aa (k:Int) j then 1 else 0)=_;unfold snkQ;rw[h1,Ji,Bool.and_false];rfl
    rw[this] at d;exact d
 have g:Ev (fun n=>qfz b (vecC (fun k=>snkN b.Aa (k:Int)) b.Ah.length) n 0) (bif allN (fun j=>wireB (gt b.Ah j) (snkN b.Aa (j:Int))) b.Ah.length then .nxt (b.Ah.length:Int) else .ret false):=by
  refine qfi ?_ (fun j a X d=>Ev.succ ?_)
  ·exact Ev.succ (by simp only[qfz,qk (je _),cond_false];exact .done)
  ·simp only[qfz,qi a,cond_true,qC a,qlC a,jd,wS j];exact Ev.chk1 (qyc (qop h.Ah a)) fun _=>d
 refine Ev.bind (qph i) (Ev.bind f (Ev.bind g ?_));cases allN (fun j=>wireB (gt b.Ah j) (snkN b.Aa (j:Int))) b.Ah.length<;>exact .done
theorem qrC{b:qj}(h:qnl b):Ev (fun n=>qhX n b) (blockB b):=by
 have i:=h.Ah.len;unfold qhX blockB;refine Ev.guardB (Ev.or (qu4 h.Au h.Aa) fun _=>.done) fun c=>?_;rw[jf] at c;have g:=qX c.1;have d:Ev (fun n=>qfu b n 0) (bif allN (fun j=>wireB (gt b.Ah j) (snkN b.Aa (j:Int))) b.Ah.length then .nxt (b.Ah.length:Int) else .ret false):=by
  refine qfi ?_ (fun j a X f=>Ev.succ ?_)
  ·exact Ev.succ (by simp only[qfu,qk (je _),cond_false];exact .done)
  ·simp only[qfu,qi a,cond_true,qC a,jd,wS j];refine Ev.bind (qos g) ?_;rw[qj3];exact Ev.chk1 (qwA (qop h.Ah a)) fun _=>f
 refine Ev.bind d ?_;cases allN (fun j=>wireB (gt b.Ah j) (snkN b.Aa (j:Int))) b.Ah.length<;>exact .done

def off(d:qd)(i:Nat):Nat:=(plI d i).length
def place1(d:qd)(i k:Nat):Tplace:=⟨(i:Int),(k:Int),at0 (gt d.Ab i).Am k,decide (k+1=(gt d.Ab i).Am.length)⟩
def place2(d:qd)(i:Nat):Tplace:=⟨-1,(i:Int),(gt d.Aj i).Ca,(gt d.Aj i).Bx==1⟩
theorem qlD{d:qd}{i:Nat}:off d (i+1)=off d i+(gt d.Ab i).Am.length:=by
 unfold off;rw[qom,jg,qse]
theorem qxw{d:qd}{i j:Nat}(h:i<=j):off d i<=off d j:=by
 induction j with
 |zero=>
  obtain rfl:i=0:=by omega
  exact je _
 |succ j ih=>
  rcases Nat.lt_or_eq_of_le h with h|rfl
  ·rw[qlD];have:=ih (by omega);omega
  ·exact je _
theorem qhx{d:qd}:(places d).length=off d d.Ab.length+d.Aj.length:=by
 unfold places off;rw[jg,qsj]
theorem qBT{d:qd}{n i k:Nat}(hi:i<n)(c:k<(gt d.Ab i).Am.length):off d i+k<off d n/\gt (plI d n) (off d i+k)=place1 d i k:=by
 induction n with
 |zero=>omega
 |succ n ih=>
  rw[qom,qnm];rcases Nat.lt_succ_iff_lt_or_eq.1 hi with h|rfl
  ·obtain⟨a,b⟩:=ih h;refine⟨by rw[qlD];omega,?_⟩;rw[if_pos (show off d i+k<(plI d n).length from a),b]
  ·refine⟨by rw[qlD];omega,?_⟩;rw[if_neg (by unfold off;omega),show off d i+k-(plI d i).length=k by unfold off;omega];exact qtf c
theorem qlz{d:qd}{i k:Nat}(hi:i<d.Ab.length)(c:k<(gt d.Ab i).Am.length):off d i+k<(places d).length/\gt (places d) (off d i+k)=place1 d i k:=by
 obtain⟨a,b⟩:=qBT hi c;refine⟨by rw[qhx];omega,?_⟩;unfold places;rw[qnm,if_pos (show off d i+k<(plI d d.Ab.length).length from a),b]
theorem qur{d:qd}{i:Nat}(hi:i<d.Aj.length):off d d.Ab.length+i<(places d).length/\gt (places d) (off d d.Ab.length+i)=place2 d i:=by
 refine⟨by rw[qhx];omega,?_⟩;unfold places;rw[qnm,if_neg (by unfold off;omega),show off d d.Ab.length+i-(plI d d.Ab.length).length=i by unfold off;omega];exact qtf hi
theorem qyL{d:qd}{n j:Nat}(a:j<off d n):∃i k,i<n/\k<(gt d.Ab i).Am.length/\j=off d i+k:=by
 induction n with
 |zero=>exact absurd a (Nat.not_lt_zero _)
 |succ n ih=>
  by_cases h:j<off d n
  ·obtain⟨i,k,f,b,c⟩:=ih h;exact⟨i,k,by omega,b,c⟩
  ·rw[qlD] at a;exact⟨n,j-off d n,by omega,by omega,by omega⟩
theorem qmB{d:qd}{j:Nat}(c:j<(places d).length) :
  (∃i k,i<d.Ab.length/\k<(gt d.Ab i).Am.length/\j=off d i+k/\gt (places d) j=place1 d i k) \/
  (∃i,i<d.Aj.length/\j=off d d.Ab.length+i/\gt (places d) j=place2 d i):=by
 rw[qhx] at c;by_cases h:j<off d d.Ab.length
 ·obtain⟨i,k,a,b,rfl⟩:=qyL h;exact .inl ⟨i,k,a,b,rfl,(qlz a b).2⟩
 ·refine .inr ⟨j-off d d.Ab.length,by omega,by omega,?_⟩;have:=(qur (d:=d) (i:=j-off d d.Ab.length) (by omega)).2;rwa [show off d d.Ab.length+(j-off d d.Ab.length)=j by omega] at this
def drvQ(d:qd)(k:Int)(j:Nat):Bool:=((gt (places d) j).net==k)&&(gt (places d) j).drives
theorem qvF{q:Nat->Bool}{m n:Nat}:cntP q (m+n)=cntP q m+cntP (fun j=>q (m+j)) n:=by
 induction n with
 |zero=>rfl
 |succ n ih=>
  show cntP q (m+n)+(bif q (m+n) then 1 else 0)=cntP q m+(cntP (fun j=>q (m+j)) n+(bif q (m+n) then 1 else 0));rw[ih];omega
theorem qyV{q:Nat->Bool}{n:Nat}{b:Bool}(h:1<=n)(a:∀j,j+1<n->q j=false)(c:q (n-1)=b):cntP q n=bif b then 1 else 0:=by
 obtain⟨m,rfl⟩:∃m,n=m+1:=⟨n-1,by omega⟩;show cntP q m+(bif q m then 1 else 0)=_;rw[qo9.2 (fun j d=>a j (by omega)),show m=m+1-1 by omega,c,jY]
theorem qwL{d:qd}{k:Nat}(b:smallD d):cntP (drvQ d (k:Int)) (places d).length=drvI d k d.Ab.length+drvP d k d.Aj.length:=by
 rw[qhx,qvF]
 congr 1
 ·have:∀n,n<=d.Ab.length->cntP (drvQ d (k:Int)) (off d n)=drvI d k n:=by
   intro n
   induction n with
   |zero=>intro _;rfl
   |succ n ih=>
    intro f;rw[qlD,qvF,ih (by omega),qqN]
    congr 1
    have c:=(b.nx n (by omega)).1;refine qyV (by omega) (fun j a=>?_) ?_
    ·show drvQ d _ (off d n+j)=false;unfold drvQ;rw[(qlz (by omega) (by omega)).2];unfold place1;simp;omega
    ·show drvQ d _ (off d n+_)=_;unfold drvQ;rw[(qlz (by omega) (by omega)).2];unfold place1 lastN;simp;omega
  exact this _ (je _)
 ·refine qsU (fun j a=>?_);show drvQ d _ (off d _+j)=_;unfold drvQ;rw[(qur a).2];unfold place2;exact Bool.and_comm _ _
theorem qx1{l:qq}{d:qd}(h:designB l d=true){k:Nat}(a:k<d.Am.length):cntP (drvQ d (k:Int)) (places d).length=1:=by
 rw[qwL (qX h)];unfold designB drvB at h;simp only[jf] at h;have:=qas.1 h.2.2.2 k a;rw[beq_iff_eq] at this;omega
theorem qwe{l:qq}{d:qd}(h:designB l d=true){i j:Nat}(hi:i<(places d).length)(f:j<(places d).length)(c:(gt (places d) i).net=(gt (places d) j).net)(a:(gt (places d) i).drives=true)(b:(gt (places d) j).drives=true):i=j:=by
 obtain⟨g,m⟩:=qnY h hi;have e:=qgF g;have:=qx1 h (k:=(gt (places d) i).net.toNat) (by omega);refine qwo (Nat.le_of_eq this) hi f ?_ ?_
 ·unfold drvQ;rw[<-e,a];simp
 ·unfold drvQ;rw[<-e,b,c];simp
theorem qB6{l:qq}{d:qd}(h:designB l d=true){k:Int}(c:0<=k)(g:k<d.Am.length):∃j,j<(places d).length/\(gt (places d) j).net=k/\(gt (places d) j).drives=true:=by
 have e:=qgF c;have:=qx1 h (k:=k.toNat) (by omega);have b:decide (0<cntP (drvQ d ((k.toNat:Nat):Int)) (places d).length)=true:=by rw[this];rfl
 rw[qvP,jI,qnG] at b;obtain⟨j,f,a⟩:=b;rw[Bool.not_eq_false',<-e] at a;unfold drvQ at a;simp only[jf,beq_iff_eq] at a;exact⟨j,f,a.1,a.2⟩
def cellAt(b:qj)(i:Int):qB:=gt b.Au.As (gt b.Aa.Ab i.toNat).Bu.toNat
theorem qih{l:qq}{d:qd}(h:designB l d=true){i:Nat}(hi:i<d.Ab.length) :
  (0<=(gt d.Ab i).Bu/\(gt d.Ab i).Bu<l.As.length)/\(gt d.Ab i).Am.length=(gt l.As (gt d.Ab i).Bu.toNat).Bg.length/\cellB (gt l.As (gt d.Ab i).Bu.toNat)=true:=by
 unfold designB libB at h;simp only[jf] at h;obtain⟨⟨⟨b,_⟩,_⟩,a,_⟩:=h;rw[qjt,qas] at a b;have:=a i hi;unfold instB at this;simp only[jf,qbc,beq_iff_eq] at this;exact⟨⟨this.1.1,by omega⟩,by omega,b _ (by omega)⟩
theorem qoW{c:qB}(h:cellB c=true){j:Nat}(f:j<c.Ba.length):(1<=(gt c.Ba j).Bi/\(gt c.Ba j).Bi<=5)/\(0<=(gt c.Ba j).Bl/\(gt c.Ba j).Bl<(c.Bg.length:Int)-1)/\(0<=(gt c.Ba j).To/\(gt c.Ba j).To<=(c.Bg.length:Int)-1)/\arcS c.Bg (gt c.Ba j)=true:=by
 unfold cellB at h;simp only[jf] at h;obtain⟨_,i,⟨d,_⟩,_,_,g⟩:=h;have:=qas.1 d j f;rw[jf,qzi i (qub g)] at this;have b:=this.1;refine⟨quk b,?_⟩;have a:=b;unfold arcS at a;simp only[jf,qbc] at a;refine⟨⟨a.1.1.1,by omega⟩,a.1.2,b⟩
theorem qpL{c:qB}(h:cellB c=true):c.Ba.length<=8:=by
 unfold cellB at h;simp only[jf,decide_eq_true_eq] at h;exact h.2.2.1.2
theorem qau{b:qj}(h:blockB b=true):designB b.Au b.Aa=true:=by
 unfold blockB at h;simp only[jf] at h;exact h.1.1
end Go.Fw
