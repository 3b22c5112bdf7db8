/- By a program of mine (gen.py): for each function a plain function and the proof that the code computes it. -/
import Derived.Test.YtpiadipmfbjlbaaGreatDoorA2
import Derived.Test.YtpiadipmfbjlbaaGreatDoorFw32
open Option renaming bind_some->jd, some->V, none->U
open Nat renaming le_refl->je, zero_add->jY, le_trans->Jb, not_lt_zero->Jn
open Bool renaming and_eq_true->jf, eq_iff_iff->jn, true_and->jG, not_eq_true'->jI, not_true->Ji
open List renaming length_append->jg, getElem?_eq_getElem->jh, getElem_mem->jp, append_assoc->jq, length_map->ju, length_take->jw, getD_eq_getElem?_getD->jD, take_length->jE, map_append->jL, append_nil->jU, getElem_of_mem->jW, flatMap_append->Jl
open Int renaming toNat_natCast->jr

namespace Go.Fw
open Go Go.Proofs Go.Proofs.Tryz
open Go.RowKit (Below)
open Ch renaming own->oW,box->oX,grp->oG
open GoT renaming v->oV
open Go.Value renaming slice->oS
set_option maxRecDepth 100000
set_option maxHeartbeats 6400000
variable{n:Nat}{w:World}{cs1 cs2 cs3 cs4 cs5 cs6 cs7 cs8 cs9:List Value}
def qd2(a:qz)(i1:Int)(c:qJ):Nat->Int->Option (Flow Bool Int)|0,_=>U|n+1,b=>bif decide (b<i1) then(idx a.Bc b).bind fun d=>bif (d.Bi==c.Bi) then(idx a.Bc b).bind fun f=>bif (f.Bm==c.Bm) then(idx a.Bc b).bind fun g=>bif (g.To==c.To) then V (.ret false) else qd2 a i1 c n (W64 (b+1)) else qd2 a i1 c n (W64 (b+1)) else qd2 a i1 c n (W64 (b+1)) else V (.nxt b)
def qga(a:qz):Nat->Int->Option (Flow Bool Int)|0,_=>U|n+1,b=>bif decide (b<(a.Bq.length:Int)) then(idx a.Bq b).bind fun d=>(qav n d 0 1).bind fun c=>bif (!c) then V (.ret false) else qga a n (W64 (b+1)) else V (.nxt b)
def qf9(a:qz):Nat->Int->Option (Flow Bool Int)|0,_=>U|n+1,i1=>bif decide (i1<(a.Bc.length:Int)) then(idx a.Bc i1).bind fun b=>(qmk n a b).bind fun r4=>bif (!r4) then V (.ret false) else(qd2 a i1 b n 0).bind fun|.ret r=>V (.ret r)|.nxt _=>qf9 a n (W64 (i1+1)) else V (.nxt i1)
def qmv(n:Nat)(a:qz):Option Bool:=(qlq n a).bind fun(c,h)=>(bif (!h) then V true else(qgP n a.Bd).bind fun i=>bif (!i) then V true else bif decide ((a.Bc.length:Int) > 8) then V true else(qav n a.Cc 0 100000).bind fun k=>bif (!k) then V true else(qav n a.Bw 0 100000).bind fun l=>V (!l)).bind fun b1=>bif b1 then V false else(qf9 a n 0).bind fun|.ret r=>V r|.nxt _=>(qkp n a).bind fun b=>bif (a.Bi==1) then(qga a n 0).bind fun|.ret r=>V r|.nxt _=>bif (c==0) then(shlS 1 (IntKind.wrap .u64 (W64 ((a.Bh.length:Int)-1)))).bind fun m=>V ((a.Bq.length:Int)==m) else V false else bif (a.Bi==2) then bif (c==1) then(idx b 1).bind fun p=>bif (p==0) then(idx b 2).bind fun s=>(idx b 3).bind fun t=>bif (!((decide (s > 0))==(decide (t > 0)))) then V ((a.Bq.length:Int)==0) else V false else V false else V false else bif (a.Bi==3) then bif (c==1) then(idx b 1).bind fun d=>bif decide (d > 0) then(idx b 2).bind fun f=>bif decide (f > 0) then(idx b 3).bind fun g=>bif (g==0) then V ((a.Bq.length:Int)==0) else V false else V false else V false else V false else V false
theorem qsw{a:qz}(d:Ro w a cs1){r:Bool}(F:qmv n a=V r):RetV prog 312 [oV qz cs1] w r:=by
 obtain⟨Q,O,R,P,S,k3,rfl,_,s2,s3⟩:=qag d;refine zV 182 func312 Z fun h=>zSR (qw h Z Z fun _ b h=>X1 5 0 h Z ?_);obtain⟨⟨N,r3⟩,d1,F⟩:=qc F;refine qaS (N,r3) h (cB 323 Z) (qrQ (h.old d) d1) Z Z Z Z fun _ _ _ d9 d3=>?_;obtain⟨_,_,rfl,e2,d4⟩:=d9.consI d3;obtain⟨rfl,h⟩:=e2.lastB d4;refine X0 8 Z ?_;obtain⟨T,s,_,F,c⟩:=bindE F;refine qa0 (fun e w'=>∃b1,T b1=V r/\e=[(1,vp b),(3,vi N),(40,.bool b1)]/\SH w w' [oX b (qew a Q R S O P k3) 251]) ?_ ?_
 ·refine X0 4 Z (qn (t:=17) F Z ?_ ?_)<;>intro F
  ·refine X0 24 Z ?_;obtain rfl:=qb F;exact rG ⟨_,c,rfl,h⟩ Z
  refine X1 5 0 h Z (zcB h F qiS Z fun _ _ h F=>X0 4 Z (qn (t:=23) F Z ?_ ?_))<;>intro F
  ·refine X0 18 Z ?_;obtain rfl:=qb F;exact rG ⟨_,c,rfl,h⟩ Z
  refine X1 10 0 h Z (qn (t:=29) F Z ?_ ?_)<;>intro F
  ·refine X0 12 Z ?_;obtain rfl:=qb F;exact rG ⟨_,c,rfl,h⟩ Z
  refine X1 5 0 h Z (zcB h F qah Z fun _ _ h F=>X0 4 Z (qn (t:=35) F Z ?_ ?_))<;>intro F
  ·refine X0 6 Z ?_;obtain rfl:=qb F;exact rG ⟨_,c,rfl,h⟩ Z
  refine X1 5 0 h Z (zcB h F qah Z fun _ _ h F=>X0 4 Z ?_);obtain rfl:=qb F;exact rG ⟨_,c,rfl,h⟩ Z
 rintro _ _ ⟨b1,F,rfl,h⟩;subst s;refine qi Z F ?_ ?_<;>intro F
 ·exact X0 4 Z (rb h F Z)
 refine X0 6 Z ?_;obtain⟨o1,F,i⟩:=qc F;refine qm (rL (fun m e w'=>∃i1,qf9 a m i1=V o1/\e=[(1,vp b),(3,vi N),(5,vi i1)]/\SH w w' [oX b (qew a Q R S O P k3) 251]) n ⟨_,F,rfl,h⟩ Z ?_);rintro m1 _ _ ⟨i1,F,rfl,h⟩;rcases m1 with _|m1
 ·cases F
 refine X1 9 0 h Z (qi Z F ?_ ?_)<;>intro F
 ·refine X1 8 0 h Z ?_;obtain⟨y1,_,F,a4,_,_,_,_,a9,c2,d5,W⟩:=s2.ix F;obtain⟨p4,k4,p5,k5,rfl,s4,s5⟩:=qaj d5;refine zxe a9 c2 a4 Z (zc 0 (W.below h.below) Z (qq qa h Z Z Z fun _ l h=>zs 0 h Z fun _ h=>X2 6 1 0 h Z (zcB h F (qsK (h.old d) (qgb y1 (h.oldS s4) (h.oldS s5))) Z fun _ _ h F=>X0 2 Z (qi Z F ?_ ?_))))<;>intro F
  ·refine X0 4 Z ?_;obtain rfl:=qb F;replace F:=i;exact rb h F Z
  refine X0 5 Z ?_;obtain⟨o2,F,o⟩:=qc F;refine qm (rL (fun m e w'=>∃i2,qd2 a i1 y1 m i2=V o2/\e=[(1,vp b),(3,vi N),(5,vi i1),(6,vp l),(7,vi i2)]/\SH w w' [oX l (qhH y1 p4 p5 k4 k5) 238,oX b (qew a Q R S O P k3) 251]) m1 ⟨_,F,rfl,h⟩ Z ?_);rintro m2 _ _ ⟨i2,F,rfl,h⟩;rcases m2 with _|m2
  ·cases F
  refine X0 7 Z (qi Z F ?_ ?_)<;>intro F
  ·refine X0 4 Z (rD (Y1 2 1 h Z ?_));refine zd1 Z ?_;obtain⟨_,_,F,a5,_,_,_,_,b4,c3,d6,X⟩:=s2.ix F;obtain⟨_,_,_,_,rfl,_,_⟩:=qaj d6;refine zdxe b4 c3 a5 Z (zd1 Z (zdc 0 (X.below h.below) Z (Y1 2 0 h Z ?_)));refine zd2 Z (qaX (t:=71) F Z ?_ ?_)<;>intro F
   ·refine Y1 4 1 h Z ?_;refine Y0 3 Z ?_;obtain⟨_,_,F,a6,_,_,_,_,b5,c4,d7,Y⟩:=s2.ix F;obtain⟨_,_,_,_,rfl,_,_⟩:=qaj d7;refine zdxe b5 c4 a6 Z (Y0 3 Z (zdc 1 (Y.below h.below) Z (Y1 4 0 h Z ?_)));refine Y0 4 Z (qaX (t:=82) F Z ?_ ?_)<;>intro F
    ·refine Y1 4 1 h Z ?_;refine Y0 3 Z ?_;obtain⟨_,_,F,a7,_,_,_,_,b6,c5,d8,a3⟩:=s2.ix F;obtain⟨_,_,_,_,rfl,_,_⟩:=qaj d8;refine zdxe b6 c5 a7 Z (Y0 3 Z (zdc 2 (a3.below h.below) Z (Y1 4 0 h Z ?_)));refine Y0 3 Z (dN h fun _ h=>qi Z F ?_ ?_)<;>intro F
     ·refine X0 4 Z ?_;obtain rfl:=qb F;replace F:=o;obtain rfl:=qb F;replace F:=i;exact rb h F Z
     exact X0 7 Z (rK ⟨_,F,rfl,h⟩ Z)
    exact Y0 10 Z (dN h fun _ h=>qcg Z Z (X0 7 Z (rK ⟨_,F,rfl,h⟩ Z)))
   exact Y0 21 Z (dN h fun _ h=>qcg Z Z (X0 7 Z (rK ⟨_,F,rfl,h⟩ Z)))
  refine qt Z ?_;obtain rfl:=qb F;replace F:=o;refine X0 6 Z ?_;replace h:=h.p [1] Z;exact rK ⟨_,F,rfl,h⟩ Z
 refine qt Z ?_;obtain rfl:=qb F;replace F:=i;refine X1 3 0 h Z (zcL h F (qqV (h.old d)) Z fun _ _ _ _ _ h F=>X1 14 1 h Z (qi Z F ?_ ?_))<;>intro F
 ·refine X0 5 Z ?_;obtain⟨o3,F,p⟩:=qc F;refine qm ?_;replace h:=h.p [1] Z;refine rL (fun m e w'=>∃i3,qga a m i3=V o3/\e=[(1,vp b),(3,vi N),(9,vi i3)]/\SH w w' [oX b (qew a Q R S O P k3) 251]) n ⟨_,F,rfl,h⟩ Z ?_;rintro m3 _ _ ⟨i3,F,rfl,h⟩;rcases m3 with _|m3
  ·cases F
  refine X1 9 0 h Z (qi Z F ?_ ?_)<;>intro F
  ·refine X1 8 0 h Z ?_;obtain⟨_,_,F,a8,_,_,_,_,b7,c6,rfl,u⟩:=s3.ix F;refine zxe b7 c6 a8 Z (zc 0 (u.below h.below) Z (zcB h F qah Z fun _ _ h F=>X0 2 Z (qi Z F ?_ ?_)))<;>intro F
   ·refine X0 4 Z ?_;obtain rfl:=qb F;replace F:=p;exact rb h F Z
   exact X0 7 Z (rK ⟨_,F,rfl,h⟩ Z)
  refine qt Z ?_;obtain rfl:=qb F;replace F:=p;refine X0 5 Z (qn (t:=115) F Z ?_ ?_)<;>intro F
  ·refine X2 17 0 0 h Z ?_;obtain⟨_,k,F⟩:=qc F;obtain⟨g1,k⟩:=qtF k;refine r_v (qBG g1 Z Z) Z ?_;rw[k];exact X0 5 Z (rb h F Z)
  exact X0 13 Z (rb h F Z)
 refine X0 5 Z (qi Z F ?_ ?_)<;>intro F
 ·refine qZ (rD (zd3 Z (qaX (t:=131) F Z ?_ ?_)))<;>intro F
  ·refine Y0 3 Z ?_;obtain⟨_,_,F,C,_,_,_,_,b8,c7,rfl,v⟩:=(h.sl 0 Z).1.ix F;refine zdx b8 c7 ⟨C.1,qC C.2.1 (h.sl 0 Z).2⟩ Z (Y0 1 Z (zdc 0 v Z (Y0 4 Z (qaX (t:=137) F Z ?_ ?_))))<;>intro F
   ·refine Y0 3 Z ?_;obtain⟨_,_,F,D,_,_,_,_,b9,c8,rfl,x⟩:=(h.sl 0 Z).1.ix F;refine zdx b9 c8 ⟨D.1,qC D.2.1 (h.sl 0 Z).2⟩ Z (Y0 1 Z (zdc 0 x Z (Y0 5 Z ?_)));obtain⟨_,_,F,H,_,_,_,_,c0,c9,rfl,y⟩:=(h.sl 0 Z).1.ix F;refine zdx c0 c9 ⟨H.1,qC H.2.1 (h.sl 0 Z).2⟩ Z (Y0 1 Z (zdc 0 y Z (Y0 6 Z (qaX (t:=148) F Z ?_ ?_))))<;>intro F
    ·refine Y1 4 1 h Z ?_;exact Y0 6 Z (dN h fun _ h=>rb h F Z)
    exact Y0 6 Z (dN h fun _ h=>rb h F Z)
   exact Y0 17 Z (dN h fun _ h=>rb h F Z)
  exact Y0 23 Z (dN h fun _ h=>rb h F Z)
 refine X0 5 Z (qi Z F ?_ ?_)<;>intro F
 ·refine X0 5 Z (qn (t:=158) F Z ?_ ?_)<;>intro F
  ·refine X0 3 Z ?_;obtain⟨_,_,F,I,_,_,_,_,c1,d0,rfl,z⟩:=(h.sl 0 Z).1.ix F;refine zx c1 d0 ⟨I.1,qC I.2.1 (h.sl 0 Z).2⟩ Z (X0 1 Z (zc 0 z Z (X0 4 Z (qn (t:=164) F Z ?_ ?_))))<;>intro F
   ·refine X0 3 Z ?_;obtain⟨_,_,F,f,_,_,_,_,J,L,rfl,A⟩:=(h.sl 0 Z).1.ix F;refine zx J L ⟨f.1,qC f.2.1 (h.sl 0 Z).2⟩ Z (X0 1 Z (zc 0 A Z (X0 4 Z (qn (t:=170) F Z ?_ ?_))))<;>intro F
    ·refine X0 3 Z ?_;obtain⟨_,_,F,g,_,_,_,_,K,M,rfl,B⟩:=(h.sl 0 Z).1.ix F;refine zx K M ⟨g.1,qC g.2.1 (h.sl 0 Z).2⟩ Z (X0 1 Z (zc 0 B Z (X0 4 Z (qn (t:=176) F Z ?_ ?_))))<;>intro F
     ·exact X1 11 1 h Z (rb h F Z)
     exact X0 7 Z (rb h F Z)
    exact X0 13 Z (rb h F Z)
   exact X0 19 Z (rb h F Z)
  exact X0 25 Z (rb h F Z)
 exact X0 6 Z (rb h F Z)
def qeh(l:qp)(i1:Int):Nat->Int->Option (Flow Bool Int)|0,_=>U|n+1,a=>bif decide (a<i1) then(idx l.Ay a).bind fun b=>(idx l.Ay i1).bind fun c=>bif (b.Bd.toList==c.Bd.toList) then V (.ret false) else qeh l i1 n (W64 (a+1)) else V (.nxt a)
def qd7(l:qp):Nat->Int->Option (Flow Bool Int)|0,_=>U|n+1,i1=>bif decide (i1<(l.Ay.length:Int)) then(idx l.Ay i1).bind fun b=>(qmv n b).bind fun a=>bif (!a) then V (.ret false) else(qeh l i1 n 0).bind fun|.ret r=>V (.ret r)|.nxt _=>qd7 l n (W64 (i1+1)) else V (.nxt i1)
def qjn(n:Nat)(l:qp):Option Bool:=(qd7 l n 0).bind fun|.ret r=>V r|.nxt _=>V (decide ((l.Ay.length:Int)<=8))
theorem qp0{l:qp}(d:Ro w l cs1){r:Bool}(F:qjn n l=V r):RetV prog 295 [oV qp cs1] w r:=by
 obtain⟨K,I,rfl,H⟩:=qbN d;refine zV 41 func295 Z fun h=>zSR (qw h Z Z fun _ a h=>X0 7 Z ?_);obtain⟨L,F,b⟩:=qc F;refine qm (rL (fun m e w'=>∃i1,qd7 l m i1=V L/\e=[(1,vp a),(3,vi i1)]/\SH w w' [oX a [oS K l.Ay.length I] 46]) n ⟨_,F,rfl,h⟩ Z ?_);rintro D _ _ ⟨i1,F,rfl,h⟩;rcases D with _|D
 ·cases F
 refine X1 9 0 h Z (qi Z F ?_ ?_)<;>intro F
 ·refine X1 9 0 h Z ?_;obtain⟨P,_,F,k,_,_,_,_,s,v,z,f⟩:=H.ix F;obtain⟨_,_,_,_,_,_,rfl,s2,N,O⟩:=qag z;refine zxe s v k Z (zc 0 (f.below h.below) Z (zcB h F (qsw (qlB P (h.oldS s2) (h.oldS N) (h.oldS O))) Z fun _ _ h F=>X0 2 Z (qi Z F ?_ ?_)))<;>intro F
  ·refine X0 4 Z ?_;obtain rfl:=qb F;replace F:=b;exact rb h F Z
  refine X0 5 Z ?_;obtain⟨M,F,c⟩:=qc F;refine qm (rL (fun m e w'=>∃C,qeh l i1 m C=V M/\e=[(1,vp a),(3,vi i1),(4,vi C)]/\SH w w' [oX a [oS K l.Ay.length I] 46]) D ⟨_,F,rfl,h⟩ Z ?_);rintro J _ _ ⟨C,F,rfl,h⟩;rcases J with _|J
  ·cases F
  refine X0 7 Z (qi Z F ?_ ?_)<;>intro F
  ·refine X0 4 Z (rD (Y1 2 0 h Z ?_));refine zd1 Z ?_;obtain⟨_,_,F,o,_,_,_,_,t,x,A,g⟩:=H.ix F;obtain⟨_,_,_,_,_,_,rfl,_,_,_⟩:=qag A;refine zdxe t x o Z (zd1 Z (zdc 0 (g.below h.below) Z (Y1 2 0 h Z ?_)));refine zd1 Z ?_;obtain⟨_,_,F,p,_,_,_,_,u,y,B,i⟩:=H.ix F;obtain⟨_,_,_,_,_,_,rfl,_,_,_⟩:=qag B;refine zdxe u y p Z (zd1 Z (zdc 0 (i.below h.below) Z (zd1 Z (dN h fun _ h=>qi Z F ?_ ?_))))<;>intro F
   ·refine X0 4 Z ?_;obtain rfl:=qb F;replace F:=c;obtain rfl:=qb F;replace F:=b;exact rb h F Z
   exact X0 7 Z (rK ⟨_,F,rfl,h⟩ Z)
  refine qt Z ?_;obtain rfl:=qb F;replace F:=c;exact X0 6 Z (rK ⟨_,F,rfl,h⟩ Z)
 refine qt Z ?_;obtain rfl:=qb F;replace F:=b;exact X1 8 0 h Z (rb h F Z)
def qe0(a:qd)(c:ql):Nat->Int->Option (Flow Bool Int)|0,_=>U|n+1,b=>bif decide (b<(c.As.length:Int)) then(idx c.As b).bind fun f=>(qav n f 0 (W64 ((a.As.length:Int)-1))).bind fun d=>bif (!d) then V (.ret false) else qe0 a c n (W64 (b+1)) else V (.nxt b)
def qeO(a:qd):Nat->Int->Option (Flow Bool Int)|0,_=>U|n+1,b=>bif decide (b<(a.Ak.length:Int)) then(idx a.Ak b).bind fun d=>(qav n d.Bx 1 2).bind fun c=>bif (!c) then V (.ret false) else(idx a.Ak b).bind fun f=>(qav n f.Ca 0 (W64 ((a.As.length:Int)-1))).bind fun r4=>bif (!r4) then V (.ret false) else qeO a n (W64 (b+1)) else V (.nxt b)
def qeU(b:qp)(a:qd):Nat->Int->Option (Flow Bool Int)|0,_=>U|n+1,i1=>bif decide (i1<(a.Ab.length:Int)) then(idx a.Ab i1).bind fun c=>((qav n c.Bv 0 (W64 ((b.Ay.length:Int)-1))).bind fun d=>bif (!d) then V true else(idx b.Ay c.Bv).bind fun f=>V ((c.As.length:Int) != (f.Bh.length:Int))).bind fun b2=>bif b2 then V (.ret false) else(qe0 a c n 0).bind fun|.ret r=>V (.ret r)|.nxt _=>qeU b a n (W64 (i1+1)) else V (.nxt i1)
def qkd(n:Nat)(b:qp)(a:qd):Option Bool:=(qeU b a n 0).bind fun|.ret r=>V r|.nxt _=>(qeO a n 0).bind fun|.ret r=>V r|.nxt _=>V true
theorem qqQ{c:qp}{a:qd}(A:Ro w c cs1)(B:Ro w a cs2){r:Bool}(F:qkd n c a=V r):RetV prog 296 [oV qp cs1,oV qd cs2] w r:=by
 obtain⟨p1,k1,rfl,s1⟩:=qbN A;obtain⟨v,s,x,k3,y,u,rfl,s2,_,s4⟩:=qaE B;refine zV 90 func296 Z fun h=>zSR (qw h Z Z fun _ d h=>qw h Z Z fun _ b h=>X1 14 0 h Z ?_);obtain⟨o1,F,g⟩:=qc F;refine qm (rL (fun m e w'=>∃i1,qeU c a m i1=V o1/\e=[(2,vp d),(3,vp b),(5,vi (a.As.length:Int)),(6,vi i1)]/\SH w w' [oX b (qaW a v x y s k3 u) 50,oX d [oS p1 c.Ay.length k1] 46]) n ⟨_,F,rfl,h⟩ Z ?_);rintro m1 _ _ ⟨i1,F,rfl,h⟩;rcases m1 with _|m1
 ·cases F
 refine X1 9 0 h Z (qi Z F ?_ ?_)<;>intro F
 ·refine X1 8 0 h Z ?_;obtain⟨y1,_,F,J,_,_,_,_,O,T,a4,C⟩:=s2.ix F;obtain⟨p5,k5,rfl,s5⟩:=qV a4;refine zxe O T J Z (zc 0 (C.below h.below) Z (qq qa h Z Z Z fun _ f h=>zs 0 h Z fun _ h=>zNSS ?_));obtain⟨z,o,_,F,l⟩:=bindE F;refine qa0 (fun e w'=>∃b2,z b2=V o1/\e=[(2,vp d),(3,vp b),(5,vi (a.As.length:Int)),(6,vi i1),(7,vp f),(46,.bool b2)]/\SH w w' [oX f (qkz y1 p5 k5) 253,oX b (qaW a v x y s k3 u) 50,oX d [oS p1 c.Ay.length k1] 46]) ?_ ?_
  ·refine rD (Y1 2 0 h Z ?_);refine Y1 2 2 h Z ?_;refine zd2 Z ?_;obtain⟨r2,a5,F⟩:=qc F;refine qa5 r2 (vsB _) (cB 43 Z) (fun _ hb=>qah  a5) Z Z Z Z (zd2 Z (qaX (t:=33) F Z ?_ ?_))<;>intro F
   ·refine Y0 13 Z (dN h fun _ h=>?_);obtain rfl:=qb F;exact rG ⟨_,l,rfl,h⟩ Z
   refine Y1 4 0 h Z ?_;refine Y1 6 2 h Z ?_;refine Y1 4 0 h Z ?_;refine Y0 1 Z ?_;obtain⟨_,_,F,L,_,_,_,_,Q,X,a6,H⟩:=s1.ix F;obtain⟨_,_,_,_,_,_,rfl,_,_,_⟩:=qag a6;refine zdxe Q X L Z (Y0 3 Z (zdc 2 (H.below h.below) Z (Y0 5 Z (dN h fun _ h=>?_))));obtain rfl:=qb F;exact rG ⟨_,l,rfl,h⟩ Z
  rintro _ _ ⟨b2,F,rfl,h⟩;subst o;refine qi Z F ?_ ?_<;>intro F
  ·refine X0 4 Z ?_;obtain rfl:=qb F;replace F:=g;exact rb h F Z
  refine X0 5 Z ?_;obtain⟨o2,F,k⟩:=qc F;refine qm (rL (fun m e w'=>∃i2,qe0 a y1 m i2=V o2/\e=[(2,vp d),(3,vp b),(5,vi (a.As.length:Int)),(6,vi i1),(7,vp f),(8,vi i2)]/\SH w w' [oX f (qkz y1 p5 k5) 253,oX b (qaW a v x y s k3 u) 50,oX d [oS p1 c.Ay.length k1] 46]) m1 ⟨_,F,rfl,h⟩ Z ?_);rintro m2 _ _ ⟨i2,F,rfl,h⟩;rcases m2 with _|m2
  ·cases F
  refine X1 9 0 h Z (qi Z F ?_ ?_)<;>intro F
  ·refine X1 8 0 h Z ?_;obtain⟨_,_,F,K,_,_,_,_,P,W,rfl,D⟩:=s5.ix F;refine zxe P W K Z (zc 0 (D.below h.below) Z (zp2 Z (zcB h F qah Z fun _ _ h F=>X0 2 Z (qi Z F ?_ ?_))))<;>intro F
   ·refine X0 4 Z ?_;obtain rfl:=qb F;replace F:=k;obtain rfl:=qb F;replace F:=g;exact rb h F Z
   exact X0 7 Z (rK ⟨_,F,rfl,h⟩ Z)
  refine qt Z ?_;obtain rfl:=qb F;replace F:=k;refine X0 6 Z ?_;replace h:=h.p [1,2] Z;exact rK ⟨_,F,rfl,h⟩ Z
 refine qt Z ?_;obtain rfl:=qb F;replace F:=g;refine X0 5 Z ?_;obtain⟨o4,F,i⟩:=qc F;refine qm ?_;replace h:=h.p [0] Z;refine rL (fun m e w'=>∃i3,qeO a m i3=V o4/\e=[(3,vp b),(5,vi (a.As.length:Int)),(9,vi i3)]/\SH w w' [oX b (qaW a v x y s k3 u) 50]) n ⟨_,F,rfl,h⟩ Z ?_;rintro m3 _ _ ⟨i3,F,rfl,h⟩;rcases m3 with _|m3
 ·cases F
 refine X1 9 0 h Z (qi Z F ?_ ?_)<;>intro F
 ·refine X1 8 0 h Z ?_;obtain⟨_,_,F,M,_,_,_,_,R,Y,a7,I⟩:=s4.ix F;obtain rfl:=qaZ a7;refine zxe R Y M Z (zp1 Z (zc 1 (I.below h.below) Z (zcB h F qah Z fun _ _ h F=>zp2 Z (qn (t:=78) F Z ?_ ?_))))<;>intro F
  ·refine X0 12 Z (qcs Z Z (X0 4 Z ?_));obtain rfl:=qb F;replace F:=i;exact rb h F Z
  refine X1 7 0 h Z ?_;obtain⟨_,_,F,N,_,_,_,_,S,a3,a8,p⟩:=s4.ix F;obtain rfl:=qaZ a8;refine zxe S a3 N Z (X0 3 Z (zc 2 (p.below h.below) Z (X0 5 Z (zcB h F qah Z fun _ _ h F=>X0 4 Z (qi Z F ?_ ?_)))))<;>intro F
  ·refine X0 4 Z ?_;obtain rfl:=qb F;replace F:=i;exact rb h F Z
  exact X0 7 Z (rK ⟨_,F,rfl,h⟩ Z)
 refine qt Z ?_;obtain rfl:=qb F;replace F:=i;exact X0 4 Z (rb h F Z)
def qeK(list:(List ByteArray))(i1:Int):Nat->Int->Option (Flow Bool Int)|0,_=>U|n+1,a=>bif decide (a<i1) then(idx list a).bind fun b=>(idx list i1).bind fun c=>bif (b.toList==c.toList) then V (.ret false) else qeK list i1 n (W64 (a+1)) else V (.nxt a)
def qeV(list:(List ByteArray)):Nat->Int->Option (Flow Bool Int)|0,_=>U|n+1,i1=>bif decide (i1<(list.length:Int)) then(idx list i1).bind fun b=>(qgP n b).bind fun a=>bif (!a) then V (.ret false) else(qeK list i1 n 0).bind fun|.ret r=>V (.ret r)|.nxt _=>qeV list n (W64 (i1+1)) else V (.nxt i1)
def qhj(n:Nat)(list:(List ByteArray)):Option Bool:=(qeV list n 0).bind fun|.ret r=>V r|.nxt _=>V true
theorem qj8{list:(List ByteArray)}(c:Ro w list cs1){r:Bool}(F:qhj n list=V r):RetV prog 297 [oV (List ByteArray) cs1] w r:=by
 obtain⟨C,A,rfl,z⟩:=c;refine zV 31 func297 Z fun h=>X0 9 Z ?_;obtain⟨D,F,a⟩:=qc F;refine qm (rL (fun m e w'=>∃i1,qeV list m i1=V D/\e=[(0,oS C list.length A),(3,vi i1)]/\SH w w' []) n ⟨_,F,rfl,h⟩ Z ?_);rintro y _ _ ⟨i1,F,rfl,h⟩;rcases y with _|y
 ·cases F
 refine X0 8 Z (qi Z F ?_ ?_)<;>intro F
 ·refine X0 8 Z ?_;obtain⟨_,_,F,i,_,_,_,_,o,t,rfl,d⟩:=z.ix F;refine zxe o t i Z (zc 0 (d.below h.below) Z (zcB h F qiS Z fun _ _ h F=>X0 2 Z (qi Z F ?_ ?_)))<;>intro F
  ·refine X0 4 Z ?_;obtain rfl:=qb F;replace F:=a;exact rb h F Z
  refine X0 5 Z ?_;obtain⟨H,F,b⟩:=qc F;refine qm (rL (fun m e w'=>∃x,qeK list i1 m x=V H/\e=[(0,oS C list.length A),(3,vi i1),(4,vi x)]/\SH w w' []) y ⟨_,F,rfl,h⟩ Z ?_);rintro B _ _ ⟨x,F,rfl,h⟩;rcases B with _|B
  ·cases F
  refine X0 7 Z (qi Z F ?_ ?_)<;>intro F
  ·refine X0 4 Z (rD (zd2 Z ?_));obtain⟨_,_,F,k,_,_,_,_,p,u,rfl,f⟩:=z.ix F;refine zdxe p u k Z (zdc 0 (f.below h.below) Z (zd2 Z ?_));obtain⟨_,_,F,l,_,_,_,_,s,v,rfl,g⟩:=z.ix F;refine zdxe s v l Z (zdc 0 (g.below h.below) Z (zd1 Z (dN h fun _ h=>qi Z F ?_ ?_)))<;>intro F
   ·refine X0 4 Z ?_;obtain rfl:=qb F;replace F:=b;obtain rfl:=qb F;replace F:=a;exact rb h F Z
   exact X0 7 Z (rK ⟨_,F,rfl,h⟩ Z)
  refine qt Z ?_;obtain rfl:=qb F;replace F:=b;exact X0 6 Z (rK ⟨_,F,rfl,h⟩ Z)
 refine qt Z ?_;obtain rfl:=qb F;replace F:=a;exact X0 4 Z (rb h F Z)
def qeW(c:(List Int))(d:(List Int)):Nat->Int->Option (Flow Bool Int)|0,_=>U|n+1,a=>bif decide (a<(c.length:Int)) then(idx d a).bind fun b=>bif (b != 1) then V (.ret false) else qeW c d n (W64 (a+1)) else V (.nxt a)
def qcN(a:qd):Nat->(List Int)->Int->Option ((List Int)×Int)|0,_,_=>U|n+1,c,b=>bif decide (b<(a.Ak.length:Int)) then(idx a.Ak b).bind fun f=>bif (f.Bx==1) then(idx a.Ak b).bind fun d=>(idx c d.Ca).bind fun g=>(idx c d.Ca).bind fun _=>qcN a n (setS c d.Ca (W64 (g+1))) (W64 (b+1)) else qcN a n c (W64 (b+1)) else V (c,b)
def qdC(a:qd):Nat->(List Int)->Int->Option ((List Int)×Int)|0,_,_=>U|n+1,c,b=>bif decide (b<(a.Ab.length:Int)) then(idx a.Ab b).bind fun f=>(idx f.As (W64 ((f.As.length:Int)-1))).bind fun d=>(idx c d).bind fun g=>(idx c d).bind fun _=>qdC a n (setS c d (W64 (g+1))) (W64 (b+1)) else V (c,b)
def qdP(a:qd):Nat->(List ByteArray)->Int->Option ((List ByteArray)×Int)|0,_,_=>U|n+1,x3,b=>bif decide (b<(a.Ak.length:Int)) then(idx a.Ak b).bind fun d=>(appS x3 ([d.Bd]:List ByteArray)).bind fun c=>qdP a n c (W64 (b+1)) else V (x3,b)
def qdK(a:qd):Nat->(List ByteArray)->Int->Option ((List ByteArray)×Int)|0,_,_=>U|n+1,x1,i1=>bif decide (i1<(a.Ab.length:Int)) then(idx a.Ab i1).bind fun c=>(appS x1 ([c.Bd]:List ByteArray)).bind fun b=>qdK a n b (W64 (i1+1)) else V (x1,i1)
def qkg(n:Nat)(b:qp)(a:qd):Option Bool:=((qjn n b).bind fun r4=>bif (!r4) then V true else bif decide ((a.Ab.length:Int) > 14) then V true else bif decide ((a.As.length:Int) > 30) then V true else bif decide ((a.Ak.length:Int) > 8) then V true else(qkd n b a).bind fun i=>V (!i)).bind fun b1=>bif b1 then V false else(qdK a n ([]:List ByteArray) 0).bind fun(x1,_)=>(qdP a n ([]:List ByteArray) 0).bind fun(x3,_)=>((qhj n x1).bind fun f=>bif (!f) then V true else(qhj n x3).bind fun g=>bif (!g) then V true else(qhj n a.As).bind fun h=>V (!h)).bind fun d=>bif d then V false else(mkS (a.As.length:Int) (0:Int)).bind fun c=>(qdC a n c 0).bind fun(k,_)=>(qcN a n k 0).bind fun(l,_)=>(qeW c l n 0).bind fun|.ret r=>V r|.nxt _=>V true
theorem qra{I:qp}{a:qd}(p:Ro w I cs1)(M:Ro w a cs2){r:Bool}(F:qkg n I a=V r):RetV prog 270 [oV qp cs1,oV qd cs2] w r:=by
 obtain⟨_,_,rfl,_⟩:=qbN p;obtain⟨C,A,D,k3,H,B,rfl,s2,s3,s4⟩:=qaE M;refine zV 153 func270 Z fun h=>zSR (qw h Z Z fun _ _ h=>qw h Z Z fun _ b h=>X0 4 Z ?_);obtain⟨KF2,L,_,F,f⟩:=bindE F;refine qa0 (fun e w'=>∃b1,KF2 b1=V r/\e=[(3,vp b),(40,.bool b1)]/\SH w w' [oX b (qaW a C D H A k3 B) 50]) ?_ ?_
 ·refine X1 2 1 h Z (zcB h F (qp0 (h.old p)) Z fun _ _ h F=>zp2 Z (qn (t:=17) F Z ?_ ?_))<;>intro F
  ·refine X0 24 Z ?_;replace h:=h.p [0] Z;obtain rfl:=qb F;exact rG ⟨_,f,rfl,h⟩ Z
  refine X1 10 0 h Z (qn (t:=23) F Z ?_ ?_)<;>intro F
  ·refine X0 18 Z ?_;replace h:=h.p [0] Z;obtain rfl:=qb F;exact rG ⟨_,f,rfl,h⟩ Z
  refine X1 10 0 h Z (qn (t:=29) F Z ?_ ?_)<;>intro F
  ·refine X0 12 Z ?_;replace h:=h.p [0] Z;obtain rfl:=qb F;exact rG ⟨_,f,rfl,h⟩ Z
  refine X1 10 0 h Z (qn (t:=35) F Z ?_ ?_)<;>intro F
  ·refine X0 6 Z ?_;replace h:=h.p [0] Z;obtain rfl:=qb F;exact rG ⟨_,f,rfl,h⟩ Z
  refine X2 5 1 0 h Z (zcB h F (qqQ (h.old p) (h.old M)) Z fun _ _ h F=>X0 4 Z ?_);replace h:=h.p [0] Z;obtain rfl:=qb F;exact rG ⟨_,f,rfl,h⟩ Z
 rintro _ _ ⟨b1,F,rfl,h⟩;subst L;refine qi Z F ?_ ?_<;>intro F
 ·exact X0 4 Z (rb h F Z)
 refine zKSR (qG qa [] _ ([]:List ByteArray) h Z Z Z Z Z Z Z Z Z trivial Z fun _ _ _ h=>X0 7 Z ?_);obtain⟨o1,F,hK1⟩:=qc F;refine qm (rL (fun m e w'=>∃S2 p6 x k5 x1 i1,qdK a m x1 i1=V o1/\e=[(3,vp b),(5,oS p6 x k5),(6,vi i1)]/\SH w w' [oW S2 (x1:List ByteArray) [oS p6 x k5],oX b (qaW a C D H A k3 B) 50]) n ⟨_,_,_,_,_,_,F,rfl,h⟩ Z ?_);rintro m1 _ _ ⟨S2,p6,x,k5,x1,i1,F,rfl,h⟩;obtain rfl:=(h.sl 0 Z).2;rcases m1 with _|m1
 ·cases F
 refine X1 9 1 h Z (qi Z F ?_ ?_)<;>intro F
 ·refine X1 8 1 h Z ?_;obtain⟨y1,_,F,he1,_,_,_,_,hp1,hq1,hr1,hc3⟩:=s2.ix F;obtain⟨_,_,rfl,_⟩:=qV hr1;refine zxe hp1 hq1 he1 Z (zp1 Z (zc 0 (hc3.below h.below) Z (qG qa [.tmp 55] _ ([y1.Bd]:List ByteArray) h Z Z Z Z Z Z Z Z Z ⟨rfl,G⟩ Z fun _ _ _ h=>?_)));obtain⟨_,s,F⟩:=qc F;obtain⟨g1,s⟩:=qO s;refine qbW qa 1 h Z (h.sl 0 Z).1 (h.sl 0 Z).2 Z Z Z Z Z Z Z Z Z g1 s Z fun _ _ _ _ h=>X0 8 Z ?_;replace h:=h.p [1,2] Z;exact rK ⟨_,_,_,_,_,_,F,rfl,h⟩ Z
 refine qt Z ?_;obtain rfl:=qb F;replace F:=hK1;refine zSR (qG qa [] _ ([]:List ByteArray) h Z Z Z Z Z Z Z Z Z trivial Z fun _ _ _ h=>X0 7 Z ?_);obtain⟨o2,F,hK2⟩:=qc F;refine qm (rL (fun m e w'=>∃S6 z y k8 x3 i2,qdP a m x3 i2=V o2/\e=[(3,vp b),(5,oS p6 x1.length k5),(7,oS z y k8),(8,vi i2)]/\SH w w' [oW S6 (x3:List ByteArray) [oS z y k8],oW S2 (x1:List ByteArray) [oS p6 x1.length k5],oX b (qaW a C D H A k3 B) 50]) n ⟨_,_,_,_,_,_,F,rfl,h⟩ Z ?_);rintro m2 _ _ ⟨S6,z,y,k8,x3,i2,F,rfl,h⟩;obtain rfl:=(h.sl 0 Z).2;rcases m2 with _|m2
 ·cases F
 refine X1 9 2 h Z (qi Z F ?_ ?_)<;>intro F
 ·refine X1 8 2 h Z ?_;obtain⟨y2,_,F,he2,_,_,_,_,hp2,hq2,hr2,hc5⟩:=s4.ix F;obtain rfl:=qaZ hr2;refine zxe hp2 hq2 he2 Z (zp1 Z (zc 0 (hc5.below h.below) Z (qG qa [.tmp 72] _ ([y2.Bd]:List ByteArray) h Z Z Z Z Z Z Z Z Z ⟨rfl,G⟩ Z fun _ _ _ h=>?_)));obtain⟨_,u,F⟩:=qc F;obtain⟨g2,u⟩:=qO u;refine qbW qa 1 h Z (h.sl 0 Z).1 (h.sl 0 Z).2 Z Z Z Z Z Z Z Z Z g2 u Z fun _ _ _ _ h=>X0 8 Z ?_;replace h:=h.p [1,2,3] Z;exact rK ⟨_,_,_,_,_,_,F,rfl,h⟩ Z
 refine qt Z ?_;obtain rfl:=qb F;replace F:=hK2;refine zSS ?_;obtain⟨KF1,K,_,F,o⟩:=bindE F;refine qa0 (fun e w'=>∃b4,KF1 b4=V r/\e=[(3,vp b),(88,.bool b4)]/\SH w w' [oX b (qaW a C D H A k3 B) 50]) ?_ ?_
 ·refine X0 2 Z (zcB h F (qj8 (h.own 1 Z)) Z fun _ _ h F=>zp2 Z (qn (t:=78) F Z ?_ ?_))<;>intro F
  ·refine X0 11 Z ?_;replace h:=h.p [2] Z;obtain rfl:=qb F;exact rG ⟨_,o,rfl,h⟩ Z
  refine X0 3 Z (zcB h F (qj8 (h.own 0 Z)) Z fun _ _ h F=>X0 4 Z (qn (t:=83) F Z ?_ ?_))<;>intro F
  ·refine X0 6 Z ?_;replace h:=h.p [2] Z;obtain rfl:=qb F;exact rG ⟨_,o,rfl,h⟩ Z
  refine X1 5 2 h Z (zcB h F (qj8 ⟨_,_,rfl,(h.oldS s3)⟩) Z fun _ _ h F=>X0 4 Z ?_);replace h:=h.p [2] Z;obtain rfl:=qb F;exact rG ⟨_,o,rfl,h⟩ Z
 rintro _ _ ⟨b4,F,rfl,h⟩;subst K;refine qi Z F ?_ ?_<;>intro F
 ·exact X0 4 Z (rb h F Z)
 refine X1 6 0 h Z ?_;obtain⟨d,v,F⟩:=qc F;obtain⟨g3,g4,v⟩:=qU v;refine qam qa Int h Z Z Z Z Z Z Z Z Z g3 g4 v Z fun _ S9 c h=>X0 7 Z ?_;obtain⟨o3,F,hK3⟩:=qc F;refine qm (rL (fun m e w'=>∃x6 i3,qdC a m x6 i3=V o3/\e=[(3,vp b),(9,oS c d.length d.length),(10,vi i3)]/\SH w w' [oW S9 (x6:List Int) [oS c d.length d.length],oX b (qaW a C D H A k3 B) 50]) n ⟨_,_,F,rfl,h⟩ Z ?_);rintro m3 _ _ ⟨x6,i3,F,rfl,h⟩;rcases m3 with _|m3
 ·cases F
 refine X1 9 1 h Z (qi Z F ?_ ?_)<;>intro F
 ·refine X1 8 1 h Z ?_;obtain⟨_,_,F,he3,_,_,_,_,hp3,hq3,hr3,hc8⟩:=s2.ix F;obtain⟨_,_,rfl,s6⟩:=qV hr3;refine zxe hp3 hq3 he3 Z (zp1 Z (zc 2 (hc8.below h.below) Z (X0 8 Z ?_)));obtain⟨_,_,F,he4,_,_,_,_,hp4,hq4,rfl,hc9⟩:=s6.ix F;refine zxe hp4 hq4 he4 Z (zc 0 (hc9.below h.below) Z ?_);obtain⟨y5,_,F,W,_,_,_,_,hp5,hq5,rfl,N⟩:=(h.sl 0 Z).1.ix F;refine zx hp5 hq5 ⟨W.1,qC W.2.1 (h.sl 0 Z).2⟩ Z (zc 0 N Z (zp1 Z ?_));obtain⟨_,hy6,F,X,_,_,_,_,a4,a6,rfl,O⟩:=(h.sl 0 Z).1.ix F;exact zx a4 a6 ⟨X.1,qC X.2.1 (h.sl 0 Z).2⟩ Z (qax qa 0 0 (W64 (y5+1)) h Z hy6 a4 a6 Z O Z Z Z Z Z Z Z fun _ h=>X0 7 Z (rK ⟨_,_,F,rfl,h⟩ Z))
 refine qt Z ?_;obtain rfl:=qb F;replace F:=hK3;refine X0 5 Z ?_;obtain⟨o4,F,hK4⟩:=qc F;refine qm (rL (fun m e w'=>∃x7 i4,qcN a m x7 i4=V o4/\e=[(3,vp b),(9,oS c d.length d.length),(12,vi i4)]/\SH w w' [oW S9 (x7:List Int) [oS c d.length d.length],oX b (qaW a C D H A k3 B) 50]) n ⟨_,_,F,rfl,h⟩ Z ?_);rintro m4 _ _ ⟨x7,i4,F,rfl,h⟩;rcases m4 with _|m4
 ·cases F
 refine X1 9 1 h Z (qi Z F ?_ ?_)<;>intro F
 ·refine X1 8 1 h Z ?_;obtain⟨_,_,F,he7,_,_,_,_,hp7,hq7,hr7,P⟩:=s4.ix F;obtain rfl:=qaZ hr7;refine zxe hp7 hq7 he7 Z (zp1 Z (zc 1 (P.below h.below) Z (X0 2 Z (qi Z F ?_ ?_))))<;>intro F
  ·refine X1 5 1 h Z ?_;obtain⟨_,_,F,he8,_,_,_,_,hp8,hq8,hr8,Q⟩:=s4.ix F;obtain rfl:=qaZ hr8;refine zxe hp8 hq8 he8 Z (zp1 Z (zc 2 (Q.below h.below) Z ?_));obtain⟨y9,_,F,Y,_,_,_,_,hp9,hq9,rfl,R⟩:=(h.sl 0 Z).1.ix F;refine zx hp9 hq9 ⟨Y.1,qC Y.2.1 (h.sl 0 Z).2⟩ Z (zc 0 R Z (zp1 Z ?_));obtain⟨_,a7,F,g,_,_,_,_,k,l,rfl,S⟩:=(h.sl 0 Z).1.ix F;exact zx k l ⟨g.1,qC g.2.1 (h.sl 0 Z).2⟩ Z (qax qa 0 0 (W64 (y9+1)) h Z a7 k l Z S Z Z Z Z Z Z Z fun _ h=>X0 7 Z (rK ⟨_,_,F,rfl,h⟩ Z))
  exact X0 7 Z (rK ⟨_,_,F,rfl,h⟩ Z)
 refine qt Z ?_;obtain rfl:=qb F;replace F:=hK4;refine X0 5 Z ?_;obtain⟨o5,F,J⟩:=qc F;refine qm ?_;replace h:=h.p [0] Z;refine rL (fun m e w'=>∃i5,qeW d x7 m i5=V o5/\e=[(9,oS c d.length d.length),(13,vi i5)]/\SH w w' [oW S9 (x7:List Int) [oS c d.length d.length]]) n ⟨_,F,rfl,h⟩ Z ?_;rintro m5 _ _ ⟨i5,F,rfl,h⟩;rcases m5 with _|m5
 ·cases F
 refine X0 8 Z (qi Z F ?_ ?_)<;>intro F
 ·refine X0 7 Z ?_;obtain⟨_,_,F,i,_,_,_,_,a3,a5,rfl,T⟩:=(h.sl 0 Z).1.ix F;refine zx a3 a5 ⟨i.1,qC i.2.1 (h.sl 0 Z).2⟩ Z (zc 0 T Z (X0 2 Z (qi Z F ?_ ?_)))<;>intro F
  ·refine X0 4 Z ?_;obtain rfl:=qb F;replace F:=J;exact rb h F Z
  exact X0 7 Z (rK ⟨_,F,rfl,h⟩ Z)
 refine qt Z ?_;obtain rfl:=qb F;replace F:=J;exact X0 4 Z (rb h F Z)
def qgs(a:qE):Nat->Int->Option (Flow Bool Int)|0,_=>U|n+1,b=>bif decide (b<(a.Bn.length:Int)) then(idx a.Bn b).bind fun d=>(qav n d 0 (W64 ((a.Az.length:Int)-1))).bind fun c=>bif (!c) then V (.ret false) else qgs a n (W64 (b+1)) else V (.nxt b)
def qc9(a:qE):Nat->Int->Option (Flow Bool Int)|0,_=>U|n+1,i1=>bif decide (i1<(a.Az.length:Int)) then((idx a.Bu i1).bind fun k=>(qav n k 0 500).bind fun d=>bif (!d) then V true else(idx a.Bz i1).bind fun l=>(qav n l 0 1000).bind fun r4=>V (!r4)).bind fun b2=>bif b2 then V (.ret false) else bif (i1==0) then(idx a.Az i1).bind fun f=>bif (f != (-1)) then V (.ret false) else(idx a.Bz i1).bind fun g=>bif (g != 0) then V (.ret false) else bif decide (i1 > 0) then(idx a.Az i1).bind fun h=>(qav n h 0 (W64 (i1-1))).bind fun b=>bif (!b) then V (.ret false) else qc9 a n (W64 (i1+1)) else qc9 a n (W64 (i1+1)) else bif decide (i1 > 0) then(idx a.Az i1).bind fun i=>(qav n i 0 (W64 (i1-1))).bind fun c=>bif (!c) then V (.ret false) else qc9 a n (W64 (i1+1)) else qc9 a n (W64 (i1+1)) else V (.nxt i1)
def qmj(n:Nat)(a:qE)(b:Int):Option Bool:=(bif decide ((a.Az.length:Int)<1) then V true else bif decide ((a.Az.length:Int) > 8) then V true else bif ((a.Bz.length:Int) != (a.Az.length:Int)) then V true else bif ((a.Bu.length:Int) != (a.Az.length:Int)) then V true else V ((a.Bn.length:Int) != b)).bind fun b1=>bif b1 then V false else(qc9 a n 0).bind fun|.ret r=>V r|.nxt _=>(qgs a n 0).bind fun|.ret r=>V r|.nxt _=>V true
theorem qsC{a:qE}{f}(H:Ro w a cs1){r:Bool}(F:qmj n a f=V r):RetV prog 271 [oV qE cs1,vi f] w r:=by
 obtain⟨y,u,z,v,A,k3,B,x,rfl,s1,s2,s3,s4⟩:=qaR H;refine zV 108 func271 Z fun h=>zSR (qw h Z Z fun _ b h=>X1 11 0 h Z ?_);obtain⟨D,l,_,F,d⟩:=bindE F;refine qa0 (fun e w'=>∃b1,D b1=V r/\e=[(2,vp b),(5,vi (a.Az.length:Int)),(37,.bool b1)]/\SH w w' [oX b (qhx a y z A B u v k3 x) 183]) ?_ ?_
 ·refine X0 4 Z (qn (t:=13) F Z ?_ ?_)<;>intro F
  ·refine X0 25 Z ?_;obtain rfl:=qb F;exact rG ⟨_,d,rfl,h⟩ Z
  refine X0 6 Z (qn (t:=17) F Z ?_ ?_)<;>intro F
  ·refine X0 21 Z ?_;obtain rfl:=qb F;exact rG ⟨_,d,rfl,h⟩ Z
  refine X1 12 0 h Z (qn (t:=24) F Z ?_ ?_)<;>intro F
  ·refine X0 14 Z ?_;obtain rfl:=qb F;exact rG ⟨_,d,rfl,h⟩ Z
  refine X1 12 0 h Z (qn (t:=31) F Z ?_ ?_)<;>intro F
  ·refine X0 7 Z ?_;obtain rfl:=qb F;exact rG ⟨_,d,rfl,h⟩ Z
  refine X1 12 0 h Z ?_;obtain rfl:=qb F;exact rG ⟨_,d,rfl,h⟩ Z
 rintro _ _ ⟨b1,F,rfl,h⟩;subst l;refine qi Z F ?_ ?_<;>intro F
 ·exact X0 4 Z (rb h F Z)
 refine X0 6 Z ?_;obtain⟨o1,F,c⟩:=qc F;refine qm (rL (fun m e w'=>∃i1,qc9 a m i1=V o1/\e=[(2,vp b),(5,vi (a.Az.length:Int)),(6,vi i1)]/\SH w w' [oX b (qhx a y z A B u v k3 x) 183]) n ⟨_,F,rfl,h⟩ Z ?_);rintro m1 _ _ ⟨i1,F,rfl,h⟩;rcases m1 with _|m1
 ·cases F
 refine X0 7 Z (qi Z F ?_ ?_)<;>intro F
 ·refine X0 5 Z ?_;obtain⟨C,k,_,F,g⟩:=bindE F;refine qa0 (fun e w'=>∃b2,C b2=V o1/\e=[(2,vp b),(5,vi (a.Az.length:Int)),(6,vi i1),(58,.bool b2)]/\SH w w' [oX b (qhx a y z A B u v k3 x) 183]) ?_ ?_
  ·refine X1 4 0 h Z ?_;obtain⟨_,_,F,Q,_,_,_,_,a3,b4,rfl,o⟩:=s3.ix F;refine zxe a3 b4 Q Z (zc 0 (o.below h.below) Z (zcB h F qah Z fun _ _ h F=>zp2 Z (qn (t:=50) F Z ?_ ?_)))<;>intro F
   ·refine X0 9 Z ?_;obtain rfl:=qb F;exact rG ⟨_,g,rfl,h⟩ Z
   refine X1 7 0 h Z ?_;obtain⟨_,_,F,R,_,_,_,_,a4,b5,rfl,p⟩:=s2.ix F;refine zxe a4 b5 R Z (X0 1 Z (zc 0 (p.below h.below) Z (X0 1 Z (zcB h F qah Z fun _ _ h F=>X0 4 Z ?_))));obtain rfl:=qb F;exact rG ⟨_,g,rfl,h⟩ Z
  rintro _ _ ⟨b2,F,rfl,h⟩;subst k;refine qi Z F ?_ ?_<;>intro F
  ·refine X0 4 Z ?_;obtain rfl:=qb F;replace F:=c;exact rb h F Z
  refine X0 6 Z (qn (t:=61) F Z ?_ ?_)<;>intro F
  ·refine X1 7 0 h Z ?_;obtain⟨_,_,F,M,_,_,_,_,T,a6,rfl,I⟩:=s1.ix F;refine zxe T a6 M Z (X0 1 Z (zc 0 (I.below h.below) Z (X0 4 Z (qn (t:=68) F Z ?_ ?_))))<;>intro F
   ·refine X0 25 Z (qcs Z Z (X0 4 Z ?_));obtain rfl:=qb F;replace F:=c;exact rb h F Z
   refine X1 7 0 h Z ?_;obtain⟨_,_,F,N,_,_,_,_,W,a7,rfl,J⟩:=s2.ix F;refine zxe W a7 N Z (X0 1 Z (zc 0 (J.below h.below) Z (X0 6 Z (qn (t:=77) F Z ?_ ?_))))<;>intro F
   ·refine X0 15 Z (qcs Z Z (X0 4 Z ?_));obtain rfl:=qb F;replace F:=c;exact rb h F Z
   refine X0 6 Z (qn (t:=80) F Z ?_ ?_)<;>intro F
   ·refine X1 7 0 h Z ?_;obtain⟨_,_,F,O,_,_,_,_,X,a8,rfl,K⟩:=s1.ix F;refine zxe X a8 O Z (X0 1 Z (zc 0 (K.below h.below) Z (X0 5 Z (zcB h F qah Z fun _ _ h F=>X0 6 Z (qi Z F ?_ ?_)))))<;>intro F
    ·refine X0 4 Z ?_;obtain rfl:=qb F;replace F:=c;exact rb h F Z
    exact X0 7 Z (rK ⟨_,F,rfl,h⟩ Z)
   exact X0 13 Z (qcg Z Z (X0 7 Z (rK ⟨_,F,rfl,h⟩ Z)))
  refine X0 22 Z (qn (t:=80) F Z ?_ ?_)<;>intro F
  ·refine X1 7 0 h Z ?_;obtain⟨_,_,F,P,_,_,_,_,Y,a9,rfl,L⟩:=s1.ix F;refine zxe Y a9 P Z (X0 1 Z (zc 0 (L.below h.below) Z (X0 5 Z (zcB h F qah Z fun _ _ h F=>X0 6 Z (qi Z F ?_ ?_)))))<;>intro F
   ·refine X0 4 Z ?_;obtain rfl:=qb F;replace F:=c;exact rb h F Z
   exact X0 7 Z (rK ⟨_,F,rfl,h⟩ Z)
  exact X0 13 Z (qcg Z Z (X0 7 Z (rK ⟨_,F,rfl,h⟩ Z)))
 refine qt Z ?_;obtain rfl:=qb F;replace F:=c;refine X0 5 Z ?_;obtain⟨o3,F,i⟩:=qc F;refine qm (rL (fun m e w'=>∃i2,qgs a m i2=V o3/\e=[(2,vp b),(5,vi (a.Az.length:Int)),(7,vi i2)]/\SH w w' [oX b (qhx a y z A B u v k3 x) 183]) n ⟨_,F,rfl,h⟩ Z ?_);rintro m2 _ _ ⟨i2,F,rfl,h⟩;rcases m2 with _|m2
 ·cases F
 refine X1 9 0 h Z (qi Z F ?_ ?_)<;>intro F
 ·refine X1 8 0 h Z ?_;obtain⟨_,_,F,S,_,_,_,_,a5,b6,rfl,s⟩:=s4.ix F;refine zxe a5 b6 S Z (zc 0 (s.below h.below) Z (zp2 Z (zcB h F qah Z fun _ _ h F=>X0 2 Z (qi Z F ?_ ?_))))<;>intro F
  ·refine X0 4 Z ?_;obtain rfl:=qb F;replace F:=i;exact rb h F Z
  exact X0 7 Z (rK ⟨_,F,rfl,h⟩ Z)
 refine qt Z ?_;obtain rfl:=qb F;replace F:=i;exact X0 4 Z (rb h F Z)
def qfm(b:qh):Nat->Int->Option (Flow Bool Int)|0,_=>U|n+1,i1=>bif decide (i1<(b.Ai.length:Int)) then(idx b.Ai i1).bind fun d=>(qhg n (⟨b.Aa.Ab,b.Aa.As,b.Aa.Ak⟩:qd) i1).bind fun a=>(qmj n d (a.length:Int)).bind fun c=>bif (!c) then V (.ret false) else qfm b n (W64 (i1+1)) else V (.nxt i1)
def qim(n:Nat)(b:qh):Option Bool:=((qkg n (⟨b.Au.Ay⟩:qp) (⟨b.Aa.Ab,b.Aa.As,b.Aa.Ak⟩:qd)).bind fun a=>bif (!a) then V true else V ((b.Ai.length:Int) != (b.Aa.As.length:Int))).bind fun b1=>bif b1 then V false else(qfm b n 0).bind fun|.ret r=>V r|.nxt _=>V true
theorem qob{b:qh}(i:Ro w b cs1){r:Bool}(F:qim n b=V r):RetV prog 231 [oV qh cs1] w r:=by
 obtain⟨A,u,B,v,C,k3,D,x,H,y,rfl,L,s2,I,J,M⟩:=qaf i;refine zV 39 func231 Z fun h=>zSR (qw h Z Z fun _ a h=>X0 4 Z ?_);obtain⟨g,f,_,F,d⟩:=bindE F;refine qa0 (fun e w'=>∃b1,g b1=V r/\e=[(1,vp a),(19,.bool b1)]/\SH w w' [oX a (qa8 b A B C D H u v k3 x y) 53]) ?_ ?_
 ·refine X2 5 0 0 h Z (zcB h F (qra (qeC _ (h.oldS L)) (qaC _ (h.oldS s2) (h.oldS I) (h.oldS J))) Z fun _ _ h F=>zp2 Z (qn (t:=10) F Z ?_ ?_))<;>intro F
  ·refine X0 10 Z ?_;obtain rfl:=qb F;exact rG ⟨_,d,rfl,h⟩ Z
  refine X2 18 0 0 h Z ?_;obtain rfl:=qb F;exact rG ⟨_,d,rfl,h⟩ Z
 rintro _ _ ⟨b1,F,rfl,h⟩;subst f;refine qi Z F ?_ ?_<;>intro F
 ·exact X0 4 Z (rb h F Z)
 refine X0 6 Z ?_;obtain⟨K,F,c⟩:=qc F;refine qm (rL (fun m e w'=>∃i1,qfm b m i1=V K/\e=[(1,vp a),(3,vi i1)]/\SH w w' [oX a (qa8 b A B C D H u v k3 x y) 53]) n ⟨_,F,rfl,h⟩ Z ?_);rintro z _ _ ⟨i1,F,rfl,h⟩;rcases z with _|z
 ·cases F
 refine X1 9 0 h Z (qi Z F ?_ ?_)<;>intro F
 ·refine X0 4 Z (rA [] [0] h Z fun _ h=>M1 7 [0,1,2] 0 (h.p [0] Z) Z ?_);obtain⟨R,_,F,l,_,_,_,_,o,p,s,k⟩:=M.ix F;obtain⟨_,_,_,_,_,_,_,_,rfl,N,O,P,Q⟩:=qaR s;refine Ae 3 15 o p l (h.p [0] Z) Z (Al 4 31 0 k (h.p [0] Z) Z (M1 255 [5,6,7] 0 (h.p [0] Z) Z (Ao 8 511 Z (zcL h F (qjY (qaC _ (h.oldS s2) (h.oldS I) (h.oldS J))) Z fun _ _ _ _ _ h F=>G0 1023 [9] (h.p [1] Z) Z (Ao 10 2047 Z (zcB h F (qsC (qlz R (h.oldS N) (h.oldS O) (h.oldS P) (h.oldS Q))) Z fun _ _ h F=>G0 4095 [11] (h.p [1] Z) Z (Ad (qi Z F ?_ ?_))))))))<;>intro F
  ·refine X0 4 Z ?_;obtain rfl:=qb F;replace F:=c;exact rb h F Z
  refine X0 7 Z ?_;replace h:=h.p [1] Z;exact rK ⟨_,F,rfl,h⟩ Z
 refine qt Z ?_;obtain rfl:=qb F;replace F:=c;exact X0 4 Z (rb h F Z)
def qa4(_:Nat)(x:Int)(b:Int)(a:Int):Option Bool:=bif decide (x>=b) then V (decide (x<=a)) else V false
theorem qaI{x low high}  {r:Bool}(F:qa4 n x low high=V r):RetV prog 46 [vi x,vi low,vi high] w r:=by
 refine zV 15 func46 Z fun h=>X0 10 Z (qn (t:=10) F Z ?_ ?_)<;>intro F
 ·exact X0 9 Z (rb h F Z)
 exact X0 6 Z (rb h F Z)
def qjy(_:Nat)(s cutset:ByteArray):Option ByteArray:=if s.size<=9223372036854775807/\cutset.size<4294967281/\cutset.data.toList.all (fun b=>decide (b.toNat<128))=true then V ⟨(Lib.trimS s.data.toList cutset.data.toList).toArray⟩ else U
theorem qr3{s cutset}{r:ByteArray}(F:qjy n s cutset=V r):RetV prog 257 [.string s,.string cutset] w r:=by
 unfold qjy at F;split at F
 ·rename_i hh
  obtain rfl:=qb F;refine(Tryz.strings_Trim_any s cutset w hh.1 hh.2.1 hh.2.2).mono ?_;rintro e w' ⟨rfl,a⟩;exact⟨_,rfl,a,[.string _],rfl,qwW _ _⟩
 cases F
def qhv(_:Nat)(s:ByteArray)(c:(IntK .u8)):Option Int:=V (Lib.indexByte s.data.toList c.val.toNat.toUInt8)
theorem qoq{s}{c:(IntK .u8)}{r:Int}(F:qhv n s c=V r):RetV prog 258 [.string s,.int .u8 c.val] w r:=by
 obtain rfl:=qb F;refine(Tryz.strings_IndexByte s c.val w).mono ?_;rintro e w' ⟨rfl,rfl⟩;exact⟨_,rfl,Below.refl _ _,[vi _],rfl,qzf _ _⟩
def qi8(n:Nat)(s:ByteArray):Option Bool:=(qa4 n (s.size:Int) 1 8).bind fun a=>bif a then(qjy n s (⟨#[97,98,99,100,101,102,103,104,105,106,107,108,109,110,111,112,113,114,115,116,117,118,119,120,121,122,48,49,50,51,52,53,54,55,56,57]⟩:ByteArray)).bind fun b=>bif (b.toList==(⟨#[]⟩:ByteArray).toList) then(atS s 0).bind fun d=>(qhv n (⟨#[97,98,99,100,101,102,103,104,105,106,107,108,109,110,111,112,113,114,115,116,117,118,119,120,121,122]⟩:ByteArray) (⟨d⟩:IntK .u8)).bind fun c=>V (decide (c>=0)) else V false else V false
theorem qlV{s}  {r:Bool}(F:qi8 n s=V r):RetV prog 205 [.string s] w r:=by
 refine zV 17 func205 Z fun h=>X0 8 Z (zcB h F qaI Z fun _ _ h F=>zp1 Z (qn (t:=6) F Z ?_ ?_))<;>intro F
 ·refine X0 3 Z (zcS h F qr3 Z fun _ _ h F=>X0 4 Z (qn (t:=11) F Z ?_ ?_))<;>intro F
  ·refine X0 3 Z ?_;obtain⟨_,a,F⟩:=qc F;have b:=qoB a;exact r_v (qow qa b Z Z Z Z) Z (X0 1 Z (zcI h F qoq Z fun _ _ h F=>X0 5 Z (rb h F Z)))
  exact X0 7 Z (rb h F Z)
 exact X0 12 Z (rb h F Z)
def qci(s:(List ByteArray))(v:ByteArray):Nat->Int->Option (Flow Int Int)|0,_=>U|n+1,i1=>bif decide (i1<(s.length:Int)) then(idx s i1).bind fun a=>bif (v.toList==a.toList) then V (.ret i1) else qci s v n (W64 (i1+1)) else V (.nxt i1)
def qf6(n:Nat)(s:(List ByteArray))(v:ByteArray):Option Int:=(qci s v n 0).bind fun|.ret r=>V r|.nxt _=>V (-1)
theorem qnK{s:(List ByteArray)}{v}(b:Ro w s cs1){r:Int}(F:qf6 n s v=V r):RetV prog 319 [oV (List ByteArray) cs1,.string v] w r:=by
 obtain⟨o,k,rfl,p⟩:=b;refine zV 19 func319 Z fun h=>X0 11 Z ?_;obtain⟨l,F,a⟩:=qc F;refine qm (rL (fun m e w'=>∃i1,qci s v m i1=V l/\e=[(0,oS o s.length k),(1,.string v),(7,vi (s.length:Int)),(8,vi i1)]/\SH w w' []) n ⟨_,F,rfl,h⟩ Z ?_);rintro i _ _ ⟨i1,F,rfl,h⟩;rcases i with _|i
 ·cases F
 refine X0 5 Z (qi Z F ?_ ?_)<;>intro F
 ·refine X0 13 Z ?_;obtain⟨_,_,F,d,_,_,_,_,f,g,rfl,c⟩:=p.ix F;refine zxe f g d Z (zc 0 (c.below h.below) Z (X0 2 Z (qi Z F ?_ ?_)))<;>intro F
  ·refine X0 5 Z ?_;obtain rfl:=qb F;replace F:=a;exact ri h F Z
  exact X0 6 Z (rK ⟨_,F,rfl,h⟩ Z)
 refine qt Z ?_;obtain rfl:=qb F;replace F:=a;exact X0 4 Z (ri h F Z)
def qeB(n:Nat)(s:(List ByteArray))(v:ByteArray):Option Bool:=(qf6 n s v).bind fun a=>V (decide (a>=0))
theorem qmc{s:(List ByteArray)}{v}(a:Ro w s cs1){r:Bool}(F:qeB n s v=V r):RetV prog 303 [oV (List ByteArray) cs1,.string v] w r:=by
 obtain⟨_,_,rfl,b⟩:=a;exact zV 9 func303 Z fun h=>X0 8 Z (zcI h F (qnK ⟨_,_,rfl,(h.oldS b)⟩) Z fun _ _ h F=>X0 3 Z (rb h F Z))
def qeL(list:(List ByteArray)):Nat->Int->Option (Flow Bool Int)|0,_=>U|n+1,i1=>bif decide (i1<(list.length:Int)) then(idx list i1).bind fun a=>(qi8 n a).bind fun b=>bif (!b) then V (.ret false) else(subS list 0 i1).bind fun x1=>(qeB n x1 a).bind fun c=>bif c then V (.ret false) else qeL list n (W64 (i1+1)) else V (.nxt i1)
def qeJ(n:Nat)(list:(List ByteArray)):Option Bool:=(qeL list n 0).bind fun|.ret r=>V r|.nxt _=>V true
theorem qgk{list:(List ByteArray)}(f:Ro w list cs1){r:Bool}(F:qeJ n list=V r):RetV prog 280 [oV (List ByteArray) cs1] w r:=by
 obtain⟨v,s,rfl,p⟩:=f;refine zV 23 func280 Z fun h=>X0 11 Z ?_;obtain⟨y,F,a⟩:=qc F;refine qm (rL (fun m e w'=>∃i1,qeL list m i1=V y/\e=[(0,oS v list.length s),(5,oS v list.length s),(6,vi (list.length:Int)),(7,vi i1)]/\SH w w' []) n ⟨_,F,rfl,h⟩ Z ?_);rintro u _ _ ⟨i1,F,rfl,h⟩;rcases u with _|u
 ·cases F
 refine X0 5 Z (qi Z F ?_ ?_)<;>intro F
 ·refine X0 6 Z ?_;obtain⟨_,_,F,i,_,_,_,_,l,o,rfl,g⟩:=p.ix F;refine zxe l o i Z (zc 0 (g.below h.below) Z (X0 6 Z (zcB h F qlV Z fun _ _ h F=>zp2 Z (qn (t:=15) F Z ?_ ?_))))<;>intro F
  ·refine X0 7 Z (qcs Z Z (X0 4 Z ?_));obtain rfl:=qb F;replace F:=a;exact rb h F Z
  refine X0 5 Z ?_;obtain⟨_,d,F⟩:=qc F;obtain⟨_,_,c,b,k,x⟩:=quu (h.oldS p) d;refine r_v (qqm qa Z Z Z (qu7 x Z) c b k Z Z Z Z) Z ?_;have s2:=qwS p d c b;refine X0 3 Z (zcB h F (qmc ⟨_,_,rfl,(h.oldS s2)⟩) Z fun _ _ h F=>X0 2 Z (qi Z F ?_ ?_))<;>intro F
  ·refine X0 4 Z ?_;obtain rfl:=qb F;replace F:=a;exact rb h F Z
  exact X0 6 Z (rK ⟨_,F,rfl,h⟩ Z)
 refine qt Z ?_;obtain rfl:=qb F;replace F:=a;exact X0 4 Z (rb h F Z)
def qcR(_:Nat)(list:(List qal)):Option Int:=V (list.length:Int)
theorem qi7{list:(List qal)}(a:Ro w list cs1){r:Int}(F:qcR n list=V r):RetV prog 313 [oV (List qal) cs1] w r:=by
 obtain⟨_,_,rfl,_⟩:=a;exact zV 5 func313 Z fun h=>X0 10 Z (ri h F Z)
def qdo(list:(List qal)):Nat->(List ByteArray)->Int->Option (Flow Bool ((List ByteArray)×Int))|0,_,_=>U|n+1,x1,i1=>bif decide (i1<(list.length:Int)) then(idx list i1).bind fun a=>(appS x1 ([a.Bd]:List ByteArray)).bind fun b=>bif (i1==(W64 ((list.length:Int)-1))) then bif (a.Bx != 2) then V (.ret false) else bif (a.Bu != 0) then V (.ret false) else bif a.Bt then V (.ret false) else qdo list n b (W64 (i1+1)) else bif (a.Bx != 1) then V (.ret false) else(qa4 n a.Bu 0 500).bind fun c=>bif (!c) then V (.ret false) else qdo list n b (W64 (i1+1)) else V (.nxt (x1,i1))
def qlr(n:Nat)(list:(List qal)):Option Bool:=(qdo list n ([]:List ByteArray) 0).bind fun|.ret r=>V r|.nxt (x1,_)=>(qcR n list).bind fun a=>(qa4 n a 2 5).bind fun b=>bif b then(qeJ n x1).bind fun r4=>V r4 else V false
theorem qrH{list:(List qal)}(d:Ro w list cs1){r:Bool}(F:qlr n list=V r):RetV prog 300 [oV (List qal) cs1] w r:=by
 obtain⟨v,s,rfl,x⟩:=d;refine zV 52 func300 Z fun h=>X0 15 Z ?_;replace h:=h.nil (α:=ByteArray);obtain⟨z,F,a⟩:=qc F;refine qm (rL (fun m e w'=>∃S1 p c o x1 i1,qdo list m x1 i1=V z/\e=[(0,oS v list.length s),(3,oS p c o),(6,oS v list.length s),(7,vi (list.length:Int)),(8,vi i1)]/\SH w w' [oW S1 (x1:List ByteArray) [oS p c o]]) n ⟨_,_,_,_,_,_,F,rfl,h⟩ Z ?_);rintro u _ _ ⟨S1,p,c,o,x1,i1,F,rfl,h⟩;obtain rfl:=(h.sl 0 Z).2;rcases u with _|u
 ·cases F
 refine X0 5 Z (qi Z F ?_ ?_)<;>intro F
 ·refine X0 6 Z ?_;obtain⟨A,_,F,g,_,_,_,_,i,k,l,f⟩:=x.ix F;obtain rfl:=qa2 l;refine zxe i k g Z (zc 0 (f.below h.below) Z (qq qa h Z Z Z fun _ _ h=>zp1 Z (zs 0 h Z fun _ h=>X1 6 0 h Z (qG qa [.tmp 15] _ ([A.Bd]:List ByteArray) h Z Z Z Z Z Z Z Z Z ⟨rfl,G⟩ Z fun _ _ _ h=>?_))));obtain⟨_,b,F⟩:=qc F;obtain⟨y,b⟩:=qO b;refine qbW qa 2 h Z (h.sl 0 Z).1 (h.sl 0 Z).2 Z Z Z Z Z Z Z Z Z y b Z fun _ _ _ _ h=>X0 10 Z (qi Z F ?_ ?_)<;>intro F
  ·refine X1 6 1 h Z (qn (t:=26) F Z ?_ ?_)<;>intro F
   ·refine X0 9 Z (qcs Z Z (X0 4 Z ?_));obtain rfl:=qb F;replace F:=a;exact rb h F Z
   refine X1 8 1 h Z (qn (t:=31) F Z ?_ ?_)<;>intro F
   ·refine X0 4 Z (qcs Z Z (X0 4 Z ?_));obtain rfl:=qb F;replace F:=a;exact rb h F Z
   refine X1 6 1 h Z (qi Z F ?_ ?_)<;>intro F
   ·refine X0 4 Z ?_;obtain rfl:=qb F;replace F:=a;exact rb h F Z
   refine X0 6 Z ?_;replace h:=h.p [2] Z;exact rK ⟨_,_,_,_,_,_,F,rfl,h⟩ Z
  refine X1 6 1 h Z (qn (t:=38) F Z ?_ ?_)<;>intro F
  ·refine X0 6 Z (qcs Z Z (X0 4 Z ?_));obtain rfl:=qb F;replace F:=a;exact rb h F Z
  refine X1 5 1 h Z (zcB h F qaI Z fun _ _ h F=>X0 4 Z (qi Z F ?_ ?_))<;>intro F
  ·refine X0 4 Z ?_;obtain rfl:=qb F;replace F:=a;exact rb h F Z
  refine X0 6 Z ?_;replace h:=h.p [2] Z;exact rK ⟨_,_,_,_,_,_,F,rfl,h⟩ Z
 refine qt Z ?_;obtain rfl:=qb F;replace F:=a;refine X0 3 Z (zcI h F (qi7 ⟨_,_,rfl,(h.oldS x)⟩) Z fun _ _ h F=>zcB h F qaI Z fun _ _ h F=>zp1 Z (qn (t:=48) F Z ?_ ?_))<;>intro F
 ·exact X0 3 Z (zcB h F (qgk (h.own 0 Z)) Z fun _ _ h F=>X0 3 Z (rb h F Z))
 exact X0 5 Z (rb h F Z)
def qe3(n:Nat)(c:qz):Option Int:=(qcR n c.Bh).bind fun a=>V (W64 (a-1))
theorem qip{c:qz}(a:Ro w c cs1){r:Int}(F:qe3 n c=V r):RetV prog 317 [oV qz cs1] w r:=by
 obtain⟨_,_,_,_,_,_,rfl,b,_,_⟩:=qag a;exact zV 7 func317 Z fun h=>zSR (qw h Z Z fun _ _ h=>X1 6 0 h Z (zcI h F (qi7 ⟨_,_,rfl,(h.oldS b)⟩) Z fun _ _ h F=>X0 3 Z (ri h F Z)))
def qls(_:Nat)(kind:Int):Option Bool:=bif (kind==4) then V true else V (kind==5)
theorem qrZ{kind}  {r:Bool}(F:qls n kind=V r):RetV prog 326 [vi kind] w r:=by
 refine zV 9 func326 Z fun h=>X0 9 Z (qn (t:=5) F Z ?_ ?_)<;>intro F
 ·exact X0 5 Z (rb h F Z)
 exact X0 7 Z (rb h F Z)
def qia(n:Nat)(d:Int)(b:Int)(c:Int):Option Bool:=(qa4 n d b c).bind fun a=>V (!a)
theorem qpu{a_n l m i}(a:Ro w (V l) [.pointer i]){k}(b:Ro w (V m) [.pointer k]){r:Bool}(F:qia n a_n l m=V r):RetV prog 111 [vi a_n,.pointer i,.pointer k] w r:=by
 obtain⟨_,o,_,rfl,-,f,c⟩:=PtR.get a Z;obtain rfl:=f;obtain⟨_,p,_,rfl,-,g,d⟩:=PtR.get b Z;obtain rfl:=g;exact zV 10 func111 Z fun h=>X0 7 Z (zc 0 (c.below h.below) Z (zc 0 (d.below h.below) Z (zcB h F qaI Z fun _ _ h F=>X0 3 Z (rb h F Z))))
def qai(s:(List Int))(a:Int)(b:Int):Nat->Int->Option (Flow Int Int)|0,_=>U|n+1,i1=>bif decide (i1<(s.length:Int)) then(idx s i1).bind fun d=>(qia n d a b).bind fun c=>bif c then V (.ret i1) else qai s a b n (W64 (i1+1)) else V (.nxt i1)
def qa9(n:Nat)(s:(List Int))(a:Int)(b:Int):Option Int:=(qai s a b n 0).bind fun|.ret r=>V r|.nxt _=>V (-1)
theorem qgC{s:(List Int)}{a b}(g:Ro w s cs1){y}(d:Ro w (V a) [.pointer y]){z}(f:Ro w (V b) [.pointer z]){r:Int}(F:qa9 n s a b=V r):RetV prog 164 [oV (List Int) cs1,.func (.func 111) #[] #[.pointer y,.pointer z]] w r:=by
 obtain⟨C,A,rfl,D⟩:=g;obtain⟨b1,u,_,rfl,-,p,_⟩:=PtR.get d Z;obtain rfl:=p;obtain⟨b2,v,_,rfl,-,t,_⟩:=PtR.get f Z;obtain rfl:=t;refine zV 19 func164 Z fun h=>X0 11 Z ?_;obtain⟨B,F,c⟩:=qc F;refine qm (rL (fun m e w'=>∃i1,qai s a b m i1=V B/\e=[(0,oS C s.length A),(1,.func (.func 111) #[] #[.pointer (V ⟨b1,u,U⟩),.pointer (V ⟨b2,v,U⟩)]),(7,vi (s.length:Int)),(8,vi i1)]/\SH w w' []) n ⟨_,F,rfl,h⟩ Z ?_);rintro x _ _ ⟨i1,F,rfl,h⟩;rcases x with _|x
 ·cases F
 refine X0 5 Z (qi Z F ?_ ?_)<;>intro F
 ·refine X0 13 Z ?_;obtain⟨_,_,F,k,_,_,_,_,l,o,rfl,i⟩:=D.ix F;refine zxe l o k Z (zc 0 (i.below h.below) Z (zcB h F (qpu (h.old d) (h.old f)) Z fun _ _ h F=>qan (qi Z F ?_ ?_)))<;>intro F
  ·refine X0 5 Z ?_;obtain rfl:=qb F;replace F:=c;exact ri h F Z
  exact X0 6 Z (rK ⟨_,F,rfl,h⟩ Z)
 refine qt Z ?_;obtain rfl:=qb F;replace F:=c;exact X0 4 Z (ri h F Z)
def qbH(n:Nat)(s:(List Int))(a:Int)(b:Int):Option Bool:=(qa9 n s a b).bind fun c=>V (decide (c>=0))
theorem qf3{s:(List Int)}{a b}(f:Ro w s cs1){k}(c:Ro w (V a) [.pointer k]){l}(d:Ro w (V b) [.pointer l]){r:Bool}(F:qbH n s a b=V r):RetV prog 110 [oV (List Int) cs1,.func (.func 111) #[] #[.pointer k,.pointer l]] w r:=by
 obtain⟨_,_,rfl,p⟩:=f;obtain⟨_,m,_,rfl,-,g,_⟩:=PtR.get c Z;obtain rfl:=g;obtain⟨_,o,_,rfl,-,i,_⟩:=PtR.get d Z;obtain rfl:=i;exact zV 9 func110 Z fun h=>X0 8 Z (zcI h F (qgC ⟨_,_,rfl,(h.oldS p)⟩ (h.old c) (h.old d)) Z fun _ _ h F=>X0 3 Z (rb h F Z))
def qb6(n:Nat)(list:(List Int))(c:Int)(b:Int):Option Bool:=(qbH n list c b).bind fun a=>V (!a)
theorem qct{list:(List Int)}{low high}(a:Ro w list cs1){r:Bool}(F:qb6 n list low high=V r):RetV prog 67 [oV (List Int) cs1,vi low,vi high] w r:=by
 obtain⟨_,_,rfl,b⟩:=a;exact zV 11 func67 Z fun h=>zSR (qw h Z Z fun _ _ h=>qw h Z Z fun _ _ h=>X0 6 Z (zcB h F (qf3 ⟨_,_,rfl,(h.oldS b)⟩ (qf8 (x:=low) 1 h Z Z) (qf8 (x:=high) 0 h Z Z)) Z fun _ _ h F=>X0 3 Z (rb h F Z)))
def qbA(_:Nat)(list:(List Int)):Option Int:=V (list.length:Int)
theorem qcQ{list:(List Int)}(a:Ro w list cs1){r:Int}(F:qbA n list=V r):RetV prog 208 [oV (List Int) cs1] w r:=by
 obtain⟨_,_,rfl,_⟩:=a;exact zV 5 func208 Z fun h=>X0 10 Z (ri h F Z)
def qbE(list:(List Int)):Nat->Int->Option (Flow Bool Int)|0,_=>U|n+1,i1=>bif decide (i1<(list.length:Int)) then(idx list (W64 (i1-1))).bind fun a=>(idx list i1).bind fun b=>bif decide (a>=b) then V (.ret false) else qbE list n (W64 (i1+1)) else V (.nxt i1)
def qfQ(n:Nat)(list:(List Int)):Option Bool:=(qbE list n 1).bind fun|.ret r=>V r|.nxt _=>V true
theorem qkV{list:(List Int)}(b:Ro w list cs1){r:Bool}(F:qfQ n list=V r):RetV prog 215 [oV (List Int) cs1] w r:=by
 obtain⟨v,t,rfl,s⟩:=b;refine zV 20 func215 Z fun h=>X0 9 Z ?_;obtain⟨u,F,a⟩:=qc F;refine qm (rL (fun m e w'=>∃i1,qbE list m i1=V u/\e=[(0,oS v list.length t),(3,vi i1)]/\SH w w' []) n ⟨_,F,rfl,h⟩ Z ?_);rintro p _ _ ⟨i1,F,rfl,h⟩;rcases p with _|p
 ·cases F
 refine X0 8 Z (qi Z F ?_ ?_)<;>intro F
 ·refine X0 4 Z (rD (zd3 Z ?_));obtain⟨_,_,F,f,_,_,_,_,i,l,rfl,c⟩:=s.ix F;refine zdxe i l f Z (zdc 0 (c.below h.below) Z (zd2 Z ?_));obtain⟨_,_,F,g,_,_,_,_,k,o,rfl,d⟩:=s.ix F;refine zdxe k o g Z (zdc 0 (d.below h.below) Z (zd1 Z (dN h fun _ h=>qi Z F ?_ ?_)))<;>intro F
  ·refine X0 4 Z ?_;obtain rfl:=qb F;replace F:=a;exact rb h F Z
  exact X0 7 Z (rK ⟨_,F,rfl,h⟩ Z)
 refine qt Z ?_;obtain rfl:=qb F;replace F:=a;exact X0 4 Z (rb h F Z)
def qkw(n:Nat)(list:(List Int)):Option Bool:=(qbA n list).bind fun a=>(qa4 n a 1 4).bind fun b=>bif b then(qb6 n list 0 100000).bind fun c=>bif c then(qfQ n list).bind fun r4=>V r4 else V false else V false
theorem qoJ{list:(List Int)}(a:Ro w list cs1){r:Bool}(F:qkw n list=V r):RetV prog 344 [oV (List Int) cs1] w r:=by
 obtain⟨_,_,rfl,b⟩:=a;refine zV 14 func344 Z fun h=>X0 7 Z (zcI h F (qcQ ⟨_,_,rfl,(h.oldS b)⟩) Z fun _ _ h F=>zcB h F qaI Z fun _ _ h F=>zp1 Z (qn (t:=6) F Z ?_ ?_))<;>intro F
 ·refine X0 3 Z (zcB h F (qct ⟨_,_,rfl,(h.oldS b)⟩) Z fun _ _ h F=>zp2 Z (qn (t:=10) F Z ?_ ?_))<;>intro F
  ·exact X0 3 Z (zcB h F (qkV ⟨_,_,rfl,(h.oldS b)⟩) Z fun _ _ h F=>X0 3 Z (rb h F Z))
  exact X0 5 Z (rb h F Z)
 exact X0 9 Z (rb h F Z)
def qle(n:Nat)(t:qy):Option Bool:=(qkw n t.Bo).bind fun a=>bif a then(qkw n t.Bk).bind fun b=>bif b then bif ((t.Bj.length:Int)==(W64 ((t.Bo.length:Int)*(t.Bk.length:Int)))) then(qb6 n t.Bj (-1000000) 1000000).bind fun c=>V c else V false else V false else V false
theorem qrJ{t:qy}(a:Ro w t cs1){r:Bool}(F:qle n t=V r):RetV prog 338 [oV qy cs1] w r:=by
 obtain⟨_,_,_,_,_,_,rfl,b,s2,c⟩:=qaK a;refine zV 29 func338 Z fun h=>zSR (qw h Z Z fun _ _ h=>X1 6 0 h Z (zcB h F (qoJ ⟨_,_,rfl,(h.oldS b)⟩) Z fun _ _ h F=>zp1 Z (qn (t:=6) F Z ?_ ?_)))<;>intro F
 ·refine X1 5 0 h Z (zcB h F (qoJ ⟨_,_,rfl,(h.oldS s2)⟩) Z fun _ _ h F=>zp2 Z (qn (t:=11) F Z ?_ ?_))<;>intro F
  ·refine X3 24 0 0 0 h Z (qn (t:=24) F Z ?_ ?_)<;>intro F
   ·exact X1 5 0 h Z (zcB h F (qct ⟨_,_,rfl,(h.oldS c)⟩) Z fun _ _ h F=>X0 3 Z (rb h F Z))
   exact X0 6 Z (rb h F Z)
  exact X0 19 Z (rb h F Z)
 exact X0 24 Z (rb h F Z)
def qdh(x:(List Int)):Nat->Int->Int->Option (Int×Int)|0,_,_=>U|n+1,i1,a=>bif decide (a<(x.length:Int)) then(idx x a).bind fun b=>qdh x n (if b<i1 then b else i1) (W64 (a+1)) else V (i1,a)
def qh2(n:Nat)(x:(List Int)):Option Int:=(bif decide ((x.length:Int)<1) then U else V ()).bind fun _=>(idx x 0).bind fun a=>(qdh x n a 1).bind fun(i1,_)=>V i1
theorem qpn{x:(List Int)}(f:Ro w x cs1){r:Int}(F:qh2 n x=V r):RetV prog 339 [oV (List Int) cs1] w r:=by
 obtain⟨z,v,rfl,A⟩:=f;refine zV 25 func339 Z fun h=>X0 11 Z ?_;obtain⟨b,a,_,F,d⟩:=bindE F;refine qa0 (fun e w'=>b ()=V r/\e=[(0,oS z x.length v)]/\SH w w' []) ?_ ?_
 ·refine qi Z F ?_ ?_<;>intro F
  ·refine qS ?_;cases F
  refine qcI ?_;obtain rfl:=qb F;exact rG ⟨d,rfl,h⟩ Z
 rintro _ _ ⟨F,rfl,h⟩;subst a;refine X0 3 Z ?_;obtain⟨_,_,F,k,_,_,_,_,o,s,rfl,g⟩:=A.ix F;refine zxe o s k Z (zc 0 (g.below h.below) Z (X0 7 Z ?_));obtain⟨B,F,c⟩:=qc F;refine qm (rL (fun m e w'=>∃i1 u,qdh x m i1 u=V B/\e=[(0,oS z x.length v),(3,vi i1),(4,vi u)]/\SH w w' []) n ⟨_,_,F,rfl,h⟩ Z ?_);rintro y _ _ ⟨i1,u,F,rfl,h⟩;rcases y with _|y
 ·cases F
 refine X0 8 Z (qi Z F ?_ ?_)<;>intro F
 ·refine X0 7 Z ?_;obtain⟨_,_,F,l,_,_,_,_,p,t,rfl,i⟩:=A.ix F;exact zxe p t l Z (zc 0 (i.below h.below) Z (X0 9 Z (rK ⟨_,_,F,rfl,h⟩ Z)))
 refine qt Z ?_;obtain rfl:=qb F;replace F:=c;exact X0 5 Z (ri h F Z)
def qhZ(n:Nat)(t:qy)(c:Bool):Option Bool:=(qle n t).bind fun a=>bif (!a) then V true else bif c then(qh2 n t.Bj).bind fun b=>V (decide (b<0)) else V false
theorem qpl{t:qy}{g}(a:Ro w t cs1){f}(b:Ro w (V g) [.pointer f]){r:Bool}(F:qhZ n t g=V r):RetV prog 337 [oV qy cs1,.pointer f] w r:=by
 obtain⟨_,_,_,_,_,_,rfl,_,_,k⟩:=qaK a;obtain⟨_,i,_,rfl,-,d,c⟩:=PtR.get b Z;obtain rfl:=d;refine zV 16 func337 Z fun h=>zSR (qw h Z Z fun _ _ h=>X1 5 0 h Z (zcB h F (qrJ (h.old a)) Z fun _ _ h F=>zp2 Z (qn (t:=7) F Z ?_ ?_)))<;>intro F
 ·exact X0 10 Z (rb h F Z)
 refine X0 1 Z (zc 0 (c.below h.below) Z (X0 2 Z (qn (t:=9) F Z ?_ ?_)))<;>intro F
 ·exact X1 5 0 h Z (zcI h F (qpn ⟨_,_,rfl,(h.oldS k)⟩) Z fun _ _ h F=>X0 7 Z (rb h F Z))
 exact X0 9 Z (rb h F Z)
def qX(s:(List qy))(a:Bool):Nat->Int->Option (Flow Int Int)|0,_=>U|n+1,i1=>bif decide (i1<(s.length:Int)) then(idx s i1).bind fun c=>(qhZ n c a).bind fun b=>bif b then V (.ret i1) else qX s a n (W64 (i1+1)) else V (.nxt i1)
def qaN(n:Nat)(s:(List qy))(a:Bool):Option Int:=(qX s a n 0).bind fun|.ret r=>V r|.nxt _=>V (-1)
theorem qfD{s:(List qy)}{a}(d:Ro w s cs1){u}(c:Ro w (V a) [.pointer u]){r:Int}(F:qaN n s a=V r):RetV prog 343 [oV (List qy) cs1,.func (.func 337) #[] #[.pointer u]] w r:=by
 obtain⟨y,v,rfl,z⟩:=d;obtain⟨b1,p,_,rfl,-,l,_⟩:=PtR.get c Z;obtain rfl:=l;refine zV 19 func343 Z fun h=>X0 11 Z ?_;obtain⟨x,F,b⟩:=qc F;refine qm (rL (fun m e w'=>∃i1,qX s a m i1=V x/\e=[(0,oS y s.length v),(1,.func (.func 337) #[] #[.pointer (V ⟨b1,p,U⟩)]),(7,vi (s.length:Int)),(8,vi i1)]/\SH w w' []) n ⟨_,F,rfl,h⟩ Z ?_);rintro t _ _ ⟨i1,F,rfl,h⟩;rcases t with _|t
 ·cases F
 refine X0 5 Z (qi Z F ?_ ?_)<;>intro F
 ·refine X0 13 Z ?_;obtain⟨C,_,F,g,_,_,_,_,i,k,o,f⟩:=z.ix F;obtain⟨_,_,_,_,_,_,rfl,s2,A,B⟩:=qaK o;refine zxe i k g Z (zc 0 (f.below h.below) Z (zcB h F (qpl (qfV C (h.oldS s2) (h.oldS A) (h.oldS B)) (h.old c)) Z fun _ _ h F=>qan (qi Z F ?_ ?_)))<;>intro F
  ·refine X0 5 Z ?_;obtain rfl:=qb F;replace F:=b;exact ri h F Z
  exact X0 6 Z (rK ⟨_,F,rfl,h⟩ Z)
 refine qt Z ?_;obtain rfl:=qb F;replace F:=b;exact X0 4 Z (ri h F Z)
def qbc(n:Nat)(s:(List qy))(a:Bool):Option Bool:=(qaN n s a).bind fun b=>V (decide (b>=0))
theorem qe5{s:(List qy)}{a}(c:Ro w s cs1){f}(b:Ro w (V a) [.pointer f]){r:Bool}(F:qbc n s a=V r):RetV prog 336 [oV (List qy) cs1,.func (.func 337) #[] #[.pointer f]] w r:=by
 obtain⟨_,_,rfl,i⟩:=c;obtain⟨_,g,_,rfl,-,d,_⟩:=PtR.get b Z;obtain rfl:=d;exact zV 9 func336 Z fun h=>X0 8 Z (zcI h F (qfD ⟨_,_,rfl,(h.oldS i)⟩ (h.old b)) Z fun _ _ h F=>X0 3 Z (rb h F Z))
def qgd(n:Nat)(list:(List qy))(b:Bool):Option Bool:=bif ((list.length:Int)==2) then(qbc n list b).bind fun a=>V (!a) else V false
theorem qjF{list:(List qy)}{positive}(a:Ro w list cs1){r:Bool}(F:qgd n list positive=V r):RetV prog 327 [oV (List qy) cs1,.bool positive] w r:=by
 obtain⟨_,_,rfl,b⟩:=a;refine zV 14 func327 Z fun h=>zSR (qw h Z Z fun _ _ h=>X0 8 Z (qn (t:=8) F Z ?_ ?_))<;>intro F
 ·exact X0 5 Z (zcB h F (qe5 ⟨_,_,rfl,(h.oldS b)⟩ (qf8 (x:=positive) 0 h Z Z)) Z fun _ _ h F=>X0 5 Z (rb h F Z))
 exact X0 7 Z (rb h F Z)
def qjj(_:Nat)(p:qal):Option Bool:=V p.Bt
theorem qot{p:qal}(a:Ro w p cs1){r:Bool}(F:qjj n p=V r):RetV prog 341 [oV qal cs1] w r:=by
 obtain rfl:=qa2 a;exact zV 5 func341 Z fun h=>zSR (qw h Z Z fun _ _ h=>X1 8 0 h Z (rb h F Z))
def qaa(s:(List qal)):Nat->Int->Option (Flow Int Int)|0,_=>U|n+1,i1=>bif decide (i1<(s.length:Int)) then(idx s i1).bind fun b=>(qjj n b).bind fun a=>bif a then V (.ret i1) else qaa s n (W64 (i1+1)) else V (.nxt i1)
def qbC(n:Nat)(s:(List qal)):Option Int:=(qaa s n 0).bind fun|.ret r=>V r|.nxt _=>V (-1)
theorem qfW{s:(List qal)}(b:Ro w s cs1){r:Int}(F:qbC n s=V r):RetV prog 340 [oV (List qal) cs1,.func (.func 341) #[] #[]] w r:=by
 obtain⟨p,l,rfl,t⟩:=b;refine zV 19 func340 Z fun h=>X0 11 Z ?_;obtain⟨o,F,a⟩:=qc F;refine qm (rL (fun m e w'=>∃i1,qaa s m i1=V o/\e=[(0,oS p s.length l),(1,.func (.func 341) #[] #[]),(7,vi (s.length:Int)),(8,vi i1)]/\SH w w' []) n ⟨_,F,rfl,h⟩ Z ?_);rintro k _ _ ⟨i1,F,rfl,h⟩;rcases k with _|k
 ·cases F
 refine X0 5 Z (qi Z F ?_ ?_)<;>intro F
 ·refine X0 13 Z ?_;obtain⟨u,_,F,d,_,_,_,_,f,g,i,c⟩:=t.ix F;obtain rfl:=qa2 i;refine zxe f g d Z (zc 0 (c.below h.below) Z (zcB h F (qot (qes u)) Z fun _ _ h F=>qan (qi Z F ?_ ?_)))<;>intro F
  ·refine X0 5 Z ?_;obtain rfl:=qb F;replace F:=a;exact ri h F Z
  exact X0 6 Z (rK ⟨_,F,rfl,h⟩ Z)
 refine qt Z ?_;obtain rfl:=qb F;replace F:=a;exact X0 4 Z (ri h F Z)
def qiI(n:Nat)(c:qz):Option Int:=(qbC n c.Bh).bind fun a=>V a
theorem qpJ{c:qz}(a:Ro w c cs1){r:Int}(F:qiI n c=V r):RetV prog 328 [oV qz cs1] w r:=by
 obtain⟨_,_,_,_,_,_,rfl,b,_,_⟩:=qag a;exact zV 6 func328 Z fun h=>zSR (qw h Z Z fun _ _ h=>X1 6 0 h Z (zcI h F (qfW ⟨_,_,rfl,(h.oldS b)⟩) Z fun _ _ h F=>X0 2 Z (ri h F Z)))
def qhu(n:Nat)(c:qz)(pin:Int):Option Bool:=(qe3 n c).bind fun a=>(qa4 n pin 0 (W64 (a-1))).bind fun b=>V b
theorem qkv{c:qz}{pin}(a:Ro w c cs1){r:Bool}(F:qhu n c pin=V r):RetV prog 329 [oV qz cs1,vi pin] w r:=by
 obtain⟨_,_,_,_,_,_,rfl,_,_,_⟩:=qag a;exact zV 10 func329 Z fun h=>zSR (qw h Z Z fun _ _ h=>X1 6 0 h Z (zcI h F (qip (h.old a)) Z fun _ _ h F=>zp1 Z (zcB h F qaI Z fun _ _ h F=>X0 2 Z (rb h F Z))))

def qiJ(n:Nat)(b:qz)(a:qJ):Option Bool:=(qls n a.Bi).bind fun d=>bif d then(bif (a.Br==0) then bif ((a.Be.length:Int)==0) then(qgd n a.Bp false).bind fun f=>bif f then(qiI n b).bind fun g=>bif (a.Bm==g) then bif decide (a.Bm>=0) then(qhu n b a.To).bind fun r4=>bif r4 then V (a.To != a.Bm) else V false else V false else V false else V false else V false else V false).bind fun b1=>V b1 else((qgd n a.Bp true).bind fun i=>bif (!i) then V true else(qgd n a.Be true).bind fun k=>bif (!k) then V true else(qe3 n b).bind fun l=>bif (a.To != l) then V true else(qhu n b a.Bm).bind fun m=>V (!m)).bind fun b2=>bif b2 then V false else bif (a.Bi==1) then(idx b.Bh a.Bm).bind fun o=>bif (!o.Bt) then(qa4 n a.Br 1 3).bind fun h=>V h else V false else(bif (a.Bi==2) then V (a.Bi==2) else V (a.Bi==3)).bind fun c=>bif c then(idx b.Bh a.Bm).bind fun p=>bif p.Bt then V (a.Br==0) else V false else V false
theorem qpP{c:qz}{d:qJ}(b:Ro w c cs1)(z:Ro w d cs2){r:Bool}(F:qiJ n c d=V r):RetV prog 314 [oV qz cs1,oV qJ cs2] w r:=by
 obtain⟨Y,S,p2,T,p3,k3,rfl,s1,_,_⟩:=qag b;obtain⟨p4,W,p5,X,rfl,s4,s5⟩:=qaj z;refine zV 103 func314 Z fun h=>zSR (qw h Z Z fun _ f h=>qw h Z Z fun _ g h=>X1 7 0 h Z (zcB h F qrZ Z fun _ _ h F=>qan (qi Z F ?_ ?_)))<;>intro F
 ·refine qZ ?_;obtain⟨u,l,_,F,a⟩:=bindE F;refine qa0 (fun e w'=>∃b1,u b1=V r/\e=[(4,.bool b1)]/\SH w w' []) ?_ ?_
  ·refine rD (Y1 2 0 h Z ?_);refine zd2 Z (qaX (t:=11) F Z ?_ ?_)<;>intro F
   ·refine Y1 4 0 h Z ?_;refine Y0 6 Z (qaX (t:=17) F Z ?_ ?_)<;>intro F
    ·refine Y1 4 0 h Z ?_;refine Y0 1 Z ?_;obtain⟨r2,L,F⟩:=qc F;refine qa5 r2 (vsB _) (cB 327 Z) (fun _ hb=>qjF ⟨_,_,rfl,((h.ext hb).oldS s4)⟩ L) Z Z Z Z (zd2 Z (qaX (t:=22) F Z ?_ ?_))<;>intro F
     ·refine Y1 4 0 h Z ?_;refine Y1 2 1 h Z ?_;refine Y0 1 Z ?_;obtain⟨r3,M,F⟩:=qc F;refine qa5 r3 (vsI _) (cB 328 Z) (fun _ hb=>qpJ ((h.ext hb).old b) M) Z Z Z Z (Y0 4 Z (qaX (t:=29) F Z ?_ ?_))<;>intro F
      ·refine Y1 4 0 h Z ?_;refine Y0 4 Z (qaX (t:=34) F Z ?_ ?_)<;>intro F
       ·refine Y1 2 1 h Z ?_;refine Y1 4 0 h Z ?_;refine Y0 1 Z ?_;obtain⟨r4,N,F⟩:=qc F;refine qa5 r4 (vsB _) (cB 329 Z) (fun _ hb=>qkv ((h.ext hb).old b) N) Z Z Z Z (zd2 Z (qaX (t:=40) F Z ?_ ?_))<;>intro F
        ·refine Y1 4 0 h Z ?_;refine Y1 4 0 h Z ?_;refine Y0 4 Z (dN h fun _ h=>?_);replace h:=h.p [] Z;obtain rfl:=qb F;exact rG ⟨_,a,rfl,h⟩ Z
        refine Y0 7 Z (dN h fun _ h=>?_);replace h:=h.p [] Z;obtain rfl:=qb F;exact rG ⟨_,a,rfl,h⟩ Z
       refine Y0 13 Z (dN h fun _ h=>?_);replace h:=h.p [] Z;obtain rfl:=qb F;exact rG ⟨_,a,rfl,h⟩ Z
      refine Y0 18 Z (dN h fun _ h=>?_);replace h:=h.p [] Z;obtain rfl:=qb F;exact rG ⟨_,a,rfl,h⟩ Z
     refine Y0 25 Z (dN h fun _ h=>?_);replace h:=h.p [] Z;obtain rfl:=qb F;exact rG ⟨_,a,rfl,h⟩ Z
    refine Y0 30 Z (dN h fun _ h=>?_);replace h:=h.p [] Z;obtain rfl:=qb F;exact rG ⟨_,a,rfl,h⟩ Z
   refine Y0 36 Z (dN h fun _ h=>?_);replace h:=h.p [] Z;obtain rfl:=qb F;exact rG ⟨_,a,rfl,h⟩ Z
  rintro _ _ ⟨b1,F,rfl,h⟩;subst l;exact rb h F Z
 refine zKSS ?_;obtain⟨x,o,_,F,i⟩:=bindE F;refine qa0 (fun e w'=>∃b2,x b2=V r/\e=[(2,vp f),(3,vp g),(70,.bool b2)]/\SH w w' [oX g (qhH d p4 p5 W X) 238,oX f (qew c Y p2 p3 S T k3) 251]) ?_ ?_
 ·refine rD (Y1 2 0 h Z ?_);obtain⟨r6,Q,F⟩:=qc F;refine qa5 r6 (vsB _) (cB 327 Z) (fun _ hb=>qjF ⟨_,_,rfl,((h.ext hb).oldS s4)⟩ Q) Z Z Z Z (zd2 Z (qaX (t:=51) F Z ?_ ?_))<;>intro F
  ·refine Y0 19 Z (dN h fun _ h=>?_);obtain rfl:=qb F;exact rG ⟨_,i,rfl,h⟩ Z
  refine Y1 4 0 h Z ?_;refine Y0 1 Z ?_;obtain⟨r7,R,F⟩:=qc F;refine qa5 r7 (vsB _) (cB 327 Z) (fun _ hb=>qjF ⟨_,_,rfl,((h.ext hb).oldS s5)⟩ R) Z Z Z Z (Y0 4 Z (qaX (t:=57) F Z ?_ ?_))<;>intro F
  ·refine Y0 13 Z (dN h fun _ h=>?_);obtain rfl:=qb F;exact rG ⟨_,i,rfl,h⟩ Z
  refine Y1 4 0 h Z ?_;refine Y1 2 1 h Z ?_;refine Y0 1 Z ?_;obtain⟨r8,p,F⟩:=qc F;refine qa5 r8 (vsI _) (cB 317 Z) (fun _ hb=>qip ((h.ext hb).old b) p) Z Z Z Z (Y0 4 Z (qaX (t:=64) F Z ?_ ?_))<;>intro F
  ·refine Y0 6 Z (dN h fun _ h=>?_);obtain rfl:=qb F;exact rG ⟨_,i,rfl,h⟩ Z
  refine Y1 2 1 h Z ?_;refine Y1 4 0 h Z ?_;refine Y0 1 Z ?_;obtain⟨r9,s,F⟩:=qc F;refine qa5 r9 (vsB _) (cB 329 Z) (fun _ hb=>qkv ((h.ext hb).old b) s) Z Z Z Z (Y0 3 Z (dN h fun _ h=>?_));obtain rfl:=qb F;exact rG ⟨_,i,rfl,h⟩ Z
 rintro _ _ ⟨b2,F,rfl,h⟩;subst o;refine qi Z F ?_ ?_<;>intro F
 ·exact X0 4 Z (rb h F Z)
 refine X1 13 0 h Z (qi Z F ?_ ?_)<;>intro F
 ·refine X2 6 1 0 h Z ?_;obtain⟨_,_,F,C,_,_,_,_,H,J,O,A⟩:=s1.ix F;obtain rfl:=qa2 O;refine zxe H J C Z (zp1 Z (zc 3 (A.below h.below) Z (zp2 Z (qn (t:=83) F Z ?_ ?_))))<;>intro F
  ·exact X1 5 0 h Z (zcB h F qaI Z fun _ _ h F=>X0 3 Z (rb h F Z))
  exact X0 6 Z (rb h F Z)
 refine X0 6 Z ?_;obtain⟨v,m,_,F,k⟩:=bindE F;refine qa0 (fun e w'=>∃y,v y=V r/\e=[(2,vp f),(3,vp g),(88,.bool y)]/\SH w w' [oX g (qhH d p4 p5 W X) 238,oX f (qew c Y p2 p3 S T k3) 251]) ?_ ?_
 ·refine qi Z F ?_ ?_<;>intro F
  ·refine qcI ?_;obtain rfl:=qb F;exact rG ⟨_,k,rfl,h⟩ Z
  refine X0 4 Z ?_;obtain rfl:=qb F;exact rG ⟨_,k,rfl,h⟩ Z
 rintro _ _ ⟨y,F,rfl,h⟩;subst m;refine qi Z F ?_ ?_<;>intro F
 ·refine X2 6 1 0 h Z ?_;obtain⟨_,_,F,D,_,_,_,_,I,K,P,B⟩:=s1.ix F;obtain rfl:=qa2 P;refine zxe I K D Z (zp1 Z (zc 3 (B.below h.below) Z (zp1 Z (qn (t:=98) F Z ?_ ?_))))<;>intro F
  ·exact X1 9 0 h Z (rb h F Z)
  exact X0 6 Z (rb h F Z)
 exact X0 6 Z (rb h F Z)
def qf4(_:Nat)(b:qJ)(a:qJ):Option Bool:=bif (b.Bi==a.Bi) then bif (b.Bm==a.Bm) then V (b.To==a.To) else V false else V false
theorem qnw{k:qJ}{g:qJ}(b:Ro w k cs1){f}(c:Ro w (V g) [.pointer f]){r:Bool}(F:qf4 n k g=V r):RetV prog 316 [oV qJ cs1,.pointer f] w r:=by
 obtain⟨_,_,_,_,rfl,_,_⟩:=qaj b;obtain⟨_,i,_,rfl,-,d,a⟩:=PtR.get c Z;obtain⟨_,_,_,_,rfl,_,_⟩:=qaj d;refine zV 23 func316 Z fun h=>zSR (qw h Z Z fun _ _ h=>X1 7 0 h Z (zc 0 (a.below h.below) Z (zp2 Z (qn (t:=9) F Z ?_ ?_))))<;>intro F
 ·refine X1 7 0 h Z (zc 1 (a.below h.below) Z (X0 4 Z (qn (t:=16) F Z ?_ ?_)))<;>intro F
  ·exact X1 7 0 h Z (zc 2 (a.below h.below) Z (X0 5 Z (rb h F Z)))
  exact X0 8 Z (rb h F Z)
 exact X0 15 Z (rb h F Z)
def qW(s:(List qJ))(a:qJ):Nat->Int->Option (Flow Int Int)|0,_=>U|n+1,i1=>bif decide (i1<(s.length:Int)) then(idx s i1).bind fun c=>(qf4 n c a).bind fun b=>bif b then V (.ret i1) else qW s a n (W64 (i1+1)) else V (.nxt i1)
def qbj(n:Nat)(s:(List qJ))(a:qJ):Option Int:=(qW s a n 0).bind fun|.ret r=>V r|.nxt _=>V (-1)
theorem qfk{s:(List qJ)}{a:qJ}(d:Ro w s cs1){u}(c:Ro w (V a) [.pointer u]){r:Int}(F:qbj n s a=V r):RetV prog 330 [oV (List qJ) cs1,.func (.func 316) #[] #[.pointer u]] w r:=by
 obtain⟨y,v,rfl,z⟩:=d;obtain⟨b1,p,_,rfl,-,l,_⟩:=PtR.get c Z;obtain⟨_,_,_,_,rfl,_,_⟩:=qaj l;refine zV 19 func330 Z fun h=>X0 11 Z ?_;obtain⟨x,F,b⟩:=qc F;refine qm (rL (fun m e w'=>∃i1,qW s a m i1=V x/\e=[(0,oS y s.length v),(1,.func (.func 316) #[] #[.pointer (V ⟨b1,p,U⟩)]),(7,vi (s.length:Int)),(8,vi i1)]/\SH w w' []) n ⟨_,F,rfl,h⟩ Z ?_);rintro t _ _ ⟨i1,F,rfl,h⟩;rcases t with _|t
 ·cases F
 refine X0 5 Z (qi Z F ?_ ?_)<;>intro F
 ·refine X0 13 Z ?_;obtain⟨C,_,F,g,_,_,_,_,i,k,o,f⟩:=z.ix F;obtain⟨_,_,_,_,rfl,A,B⟩:=qaj o;refine zxe i k g Z (zc 0 (f.below h.below) Z (zcB h F (qnw (qgb C (h.oldS A) (h.oldS B)) (h.old c)) Z fun _ _ h F=>qan (qi Z F ?_ ?_)))<;>intro F
  ·refine X0 5 Z ?_;obtain rfl:=qb F;replace F:=b;exact ri h F Z
  exact X0 6 Z (rK ⟨_,F,rfl,h⟩ Z)
 refine qt Z ?_;obtain rfl:=qb F;replace F:=b;exact X0 4 Z (ri h F Z)
def qaF(n:Nat)(s:(List qJ))(a:qJ):Option Bool:=(qbj n s a).bind fun b=>V (decide (b>=0))
theorem qeX{s:(List qJ)}{a:qJ}(c:Ro w s cs1){f}(b:Ro w (V a) [.pointer f]){r:Bool}(F:qaF n s a=V r):RetV prog 315 [oV (List qJ) cs1,.func (.func 316) #[] #[.pointer f]] w r:=by
 obtain⟨_,_,rfl,i⟩:=c;obtain⟨_,g,_,rfl,-,d,_⟩:=PtR.get b Z;obtain⟨_,_,_,_,rfl,_,_⟩:=qaj d;exact zV 9 func315 Z fun h=>X0 8 Z (zcI h F (qfk ⟨_,_,rfl,(h.oldS i)⟩ (h.old b)) Z fun _ _ h F=>X0 3 Z (rb h F Z))
def qcM(c:qz):Nat->Int->Option (Flow Bool Int)|0,_=>U|n+1,i1=>bif decide (i1<(c.Bc.length:Int)) then(idx c.Bc i1).bind fun a=>(qiJ n c a).bind fun b=>bif (!b) then V (.ret false) else(subS c.Bc 0 i1).bind fun x1=>(qaF n x1 a).bind fun d=>bif d then V (.ret false) else qcM c n (W64 (i1+1)) else V (.nxt i1)
def qhs(n:Nat)(c:qz):Option Bool:=(qcM c n 0).bind fun|.ret r=>V r|.nxt _=>V (decide ((c.Bc.length:Int)<=8))
theorem qoN{c:qz}(d:Ro w c cs1){r:Bool}(F:qhs n c=V r):RetV prog 301 [oV qz cs1] w r:=by
 obtain⟨J,H,A,y,K,k3,rfl,_,s2,_⟩:=qag d;refine zV 30 func301 Z fun h=>zSR (qw h Z Z fun _ b h=>X1 10 0 h Z ?_);obtain⟨I,F,a⟩:=qc F;refine qm (rL (fun m e w'=>∃i1,qcM c m i1=V I/\e=[(1,vp b),(6,oS A c.Bc.length y),(7,vi (c.Bc.length:Int)),(8,vi i1)]/\SH w w' [oX b (qew c J A K H y k3) 251]) n ⟨_,F,rfl,h⟩ Z ?_);rintro z _ _ ⟨i1,F,rfl,h⟩;rcases z with _|z
 ·cases F
 refine X0 5 Z (qi Z F ?_ ?_)<;>intro F
 ·refine X0 6 Z ?_;obtain⟨v,_,F,l,_,_,_,_,p,s,u,k⟩:=s2.ix F;obtain⟨_,_,_,_,rfl,B,C⟩:=qaj u;refine zxe p s l Z (zc 0 (k.below h.below) Z (qq qa h Z Z Z fun _ _ h=>zp1 Z (zs 0 h Z fun _ h=>X2 5 1 0 h Z (zcB h F (qpP (h.old d) (qgb v (h.oldS B) (h.oldS C))) Z fun _ _ h F=>zp2 Z (qn (t:=17) F Z ?_ ?_)))))<;>intro F
  ·refine X0 8 Z (qcs Z Z (X0 4 Z ?_));obtain rfl:=qb F;replace F:=a;exact rb h F Z
  refine X1 7 1 h Z ?_;obtain⟨_,i,F⟩:=qc F;obtain⟨_,_,g,f,o,D⟩:=quu (h.oldS s2) i;refine r_v (qqm qa Z Z Z (qu7 D Z) g f o Z Z Z Z) Z ?_;have L:=qwS s2 i g f;refine X0 3 Z (zcB h F (qeX ⟨_,_,rfl,(h.oldS L)⟩ (qf8 (x:=v) 0 h Z (qgb v (h.oldS B) (h.oldS C)))) Z fun _ _ h F=>X0 2 Z (qi Z F ?_ ?_))<;>intro F
  ·refine X0 4 Z ?_;obtain rfl:=qb F;replace F:=a;exact rb h F Z
  refine X0 6 Z ?_;replace h:=h.p [1] Z;exact rK ⟨_,F,rfl,h⟩ Z
 refine qt Z ?_;obtain rfl:=qb F;replace F:=a;exact X1 8 0 h Z (rb h F Z)
def qkY(_:Nat)(a:qJ)(b:Int):Option Bool:=V (a.Bi==b)
theorem qpV{a:qJ}{i}(b:Ro w a cs1){g}(c:Ro w (V i) [.pointer g]){r:Bool}(F:qkY n a i=V r):RetV prog 331 [oV qJ cs1,.pointer g] w r:=by
 obtain⟨_,_,_,_,rfl,_,_⟩:=qaj b;obtain⟨_,k,_,rfl,-,f,d⟩:=PtR.get c Z;obtain rfl:=f;exact zV 8 func331 Z fun h=>zSR (qw h Z Z fun _ _ h=>X1 6 0 h Z (zc 0 (d.below h.below) Z (X0 3 Z (rb h F Z))))
def qad(s:(List qJ))(a:Int):Nat->Int->Option (Flow Int Int)|0,_=>U|n+1,i1=>bif decide (i1<(s.length:Int)) then(idx s i1).bind fun c=>(qkY n c a).bind fun b=>bif b then V (.ret i1) else qad s a n (W64 (i1+1)) else V (.nxt i1)
def qbJ(n:Nat)(s:(List qJ))(a:Int):Option Int:=(qad s a n 0).bind fun|.ret r=>V r|.nxt _=>V (-1)
theorem qgi{s:(List qJ)}{a}(d:Ro w s cs1){u}(c:Ro w (V a) [.pointer u]){r:Int}(F:qbJ n s a=V r):RetV prog 330 [oV (List qJ) cs1,.func (.func 331) #[] #[.pointer u]] w r:=by
 obtain⟨y,v,rfl,z⟩:=d;obtain⟨b1,p,_,rfl,-,l,_⟩:=PtR.get c Z;obtain rfl:=l;refine zV 19 func330 Z fun h=>X0 11 Z ?_;obtain⟨x,F,b⟩:=qc F;refine qm (rL (fun m e w'=>∃i1,qad s a m i1=V x/\e=[(0,oS y s.length v),(1,.func (.func 331) #[] #[.pointer (V ⟨b1,p,U⟩)]),(7,vi (s.length:Int)),(8,vi i1)]/\SH w w' []) n ⟨_,F,rfl,h⟩ Z ?_);rintro t _ _ ⟨i1,F,rfl,h⟩;rcases t with _|t
 ·cases F
 refine X0 5 Z (qi Z F ?_ ?_)<;>intro F
 ·refine X0 13 Z ?_;obtain⟨B,_,F,g,_,_,_,_,i,k,o,f⟩:=z.ix F;obtain⟨_,_,_,_,rfl,s2,A⟩:=qaj o;refine zxe i k g Z (zc 0 (f.below h.below) Z (zcB h F (qpV (qgb B (h.oldS s2) (h.oldS A)) (h.old c)) Z fun _ _ h F=>qan (qi Z F ?_ ?_)))<;>intro F
  ·refine X0 5 Z ?_;obtain rfl:=qb F;replace F:=b;exact ri h F Z
  exact X0 6 Z (rK ⟨_,F,rfl,h⟩ Z)
 refine qt Z ?_;obtain rfl:=qb F;replace F:=b;exact X0 4 Z (ri h F Z)
def qbu(n:Nat)(s:(List qJ))(a:Int):Option Bool:=(qbJ n s a).bind fun b=>V (decide (b>=0))
theorem qfF{s:(List qJ)}{a}(c:Ro w s cs1){f}(b:Ro w (V a) [.pointer f]){r:Bool}(F:qbu n s a=V r):RetV prog 315 [oV (List qJ) cs1,.func (.func 331) #[] #[.pointer f]] w r:=by
 obtain⟨_,_,rfl,i⟩:=c;obtain⟨_,g,_,rfl,-,d,_⟩:=PtR.get b Z;obtain rfl:=d;exact zV 9 func315 Z fun h=>X0 8 Z (zcI h F (qgi ⟨_,_,rfl,(h.oldS i)⟩ (h.old b)) Z fun _ _ h F=>X0 3 Z (rb h F Z))
def qdT(n:Nat)(c:qz)(kind:Int):Option Bool:=(qbu n c.Bc kind).bind fun a=>V a
theorem qeS{c:qz}{kind}(a:Ro w c cs1){r:Bool}(F:qdT n c kind=V r):RetV prog 318 [oV qz cs1,vi kind] w r:=by
 obtain⟨_,_,_,_,_,_,rfl,_,s2,_⟩:=qag a;exact zV 9 func318 Z fun h=>zSR (qw h Z Z fun _ _ h=>qw h Z Z fun _ _ h=>X1 7 1 h Z (zcB h F (qfF ⟨_,_,rfl,(h.oldS s2)⟩ (qf8 (x:=kind) 0 h Z Z)) Z fun _ _ h F=>X0 2 Z (rb h F Z)))
def qbk(a:qz):Nat->Int->Int->Option (Int×Int)|0,_,_=>U|n+1,i1,b=>bif decide (b<(a.Bh.length:Int)) then(idx a.Bh b).bind fun c=>bif c.Bt then qbk a n (W64 (i1+1)) (W64 (b+1)) else qbk a n i1 (W64 (b+1)) else V (i1,b)
def qgD(n:Nat)(a:qz):Option Bool:=(qbk a n 0 0).bind fun(i1,_)=>bif (a.Bi==1) then bif (i1==0) then(qe3 n a).bind fun b=>(shlS 1 b).bind fun k=>bif ((a.Bq.length:Int)==k) then(qb6 n a.Bq 0 1).bind fun c=>V c else V false else V false else bif (a.Bi==2) then bif (i1==1) then bif ((a.Bq.length:Int)==0) then(qdT n a 1).bind fun d=>bif (!d) then(qdT n a 2).bind fun r4=>(qdT n a 3).bind fun f=>V (!(r4==f)) else V false else V false else V false else bif (a.Bi==3) then bif (i1==1) then bif ((a.Bq.length:Int)==0) then(qdT n a 1).bind fun g=>bif g then(qdT n a 2).bind fun h=>bif h then(qdT n a 3).bind fun i=>V (!i) else V false else V false else V false else V false else V false
theorem qog{b:qz}(a:Ro w b cs1){r:Bool}(F:qgD n b=V r):RetV prog 302 [oV qz cs1] w r:=by
 obtain⟨B,z,I,D,J,k3,rfl,O,_,P⟩:=qag a;refine zV 83 func302 Z fun h=>zSR (qw h Z Z fun _ d h=>X1 14 0 h Z ?_);obtain⟨H,F,f⟩:=qc F;refine qm (rL (fun m e w'=>∃i1 y,qbk b m i1 y=V H/\e=[(1,vp d),(3,vi i1),(7,oS B b.Bh.length z),(8,vi (b.Bh.length:Int)),(9,vi y)]/\SH w w' [oX d (qew b B I J z D k3) 251]) n ⟨_,_,F,rfl,h⟩ Z ?_);rintro A _ _ ⟨i1,y,F,rfl,h⟩;rcases A with _|A
 ·cases F
 refine X0 5 Z (qi Z F ?_ ?_)<;>intro F
 ·refine zKSBSR ?_;obtain⟨_,_,F,i,_,_,_,_,k,l,o,g⟩:=O.ix F;obtain rfl:=qa2 o;refine zxe k l i Z (zc 0 (g.below h.below) Z (qq qa h Z Z Z fun _ _ h=>zs 0 h Z fun _ h=>X1 6 0 h Z (qi Z F ?_ ?_)))<;>intro F
  ·refine X0 10 Z ?_;replace h:=h.p [1] Z;exact rK ⟨_,_,F,rfl,h⟩ Z
  refine X0 6 Z ?_;replace h:=h.p [1] Z;exact rK ⟨_,_,F,rfl,h⟩ Z
 refine qt Z ?_;obtain rfl:=qb F;replace F:=f;refine X1 12 0 h Z (qi Z F ?_ ?_)<;>intro F
 ·refine qZ (rD (zd3 Z (qaX (t:=24) F Z ?_ ?_)))<;>intro F
  ·refine Y1 4 0 h Z ?_;refine Y1 4 0 h Z ?_;refine Y0 1 Z ?_;obtain⟨K,p,F⟩:=qc F;refine qa5 K (vsI _) (cB 317 Z) (fun _ Q=>qip ((h.ext Q).old a) p) Z Z Z Z (Y0 1 Z ?_);obtain⟨_,c,F⟩:=qc F;obtain⟨C,c⟩:=qtF c;refine d_v (fun _ Q=>qBG C Z Z) Z ?_;rw[c];refine Y0 4 Z (qaX (t:=33) F Z ?_ ?_)<;>intro F
   ·refine Y1 4 0 h Z ?_;refine Y0 1 Z ?_;obtain⟨L,s,F⟩:=qc F;exact qa5 L (vsB _) (cB 67 Z) (fun _ Q=>qct ⟨_,_,rfl,((h.ext Q).oldS P)⟩ s) Z Z Z Z (zd2 Z (dN h fun _ h=>rb h F Z))
   exact Y0 5 Z (dN h fun _ h=>rb h F Z)
  exact Y0 14 Z (dN h fun _ h=>rb h F Z)
 refine X0 5 Z (qi Z F ?_ ?_)<;>intro F
 ·refine qZ (rD (zd3 Z (qaX (t:=42) F Z ?_ ?_)))<;>intro F
  ·refine Y1 4 0 h Z ?_;refine Y0 6 Z (qaX (t:=48) F Z ?_ ?_)<;>intro F
   ·refine Y1 2 0 h Z ?_;refine Y0 1 Z ?_;obtain⟨M,u,F⟩:=qc F;refine qa5 M (vsB _) (cB 318 Z) (fun _ Q=>qeS ((h.ext Q).old a) u) Z Z Z Z (Y0 4 Z (qaX (t:=53) F Z ?_ ?_))<;>intro F
    ·refine Y1 2 0 h Z ?_;refine Y0 1 Z ?_;obtain⟨r4,v,F⟩:=qc F;refine qa5 r4 (vsB _) (cB 318 Z) (fun _ Q=>qeS ((h.ext Q).old a) v) Z Z Z Z (Y1 2 0 h Z ?_);refine Y0 1 Z ?_;obtain⟨N,x,F⟩:=qc F;exact qa5 N (vsB _) (cB 318 Z) (fun _ Q=>qeS ((h.ext Q).old a) x) Z Z Z Z (Y0 4 Z (dN h fun _ h=>rb h F Z))
    exact Y0 7 Z (dN h fun _ h=>rb h F Z)
   exact Y0 12 Z (dN h fun _ h=>rb h F Z)
  exact Y0 18 Z (dN h fun _ h=>rb h F Z)
 refine X0 5 Z (qi Z F ?_ ?_)<;>intro F
 ·refine X0 5 Z (qn (t:=64) F Z ?_ ?_)<;>intro F
  ·refine X1 10 0 h Z (qn (t:=70) F Z ?_ ?_)<;>intro F
   ·refine X1 3 0 h Z (zcB h F (qeS (h.old a)) Z fun _ _ h F=>zp2 Z (qn (t:=74) F Z ?_ ?_))<;>intro F
    ·refine X1 3 0 h Z (zcB h F (qeS (h.old a)) Z fun _ _ h F=>zp2 Z (qn (t:=78) F Z ?_ ?_))<;>intro F
     ·exact X1 3 0 h Z (zcB h F (qeS (h.old a)) Z fun _ _ h F=>X0 5 Z (rb h F Z))
     exact X0 6 Z (rb h F Z)
    exact X0 10 Z (rb h F Z)
   exact X0 14 Z (rb h F Z)
  exact X0 20 Z (rb h F Z)
 exact X0 6 Z (rb h F Z)
def qmE(n:Nat)(c:qz):Option Bool:=(qi8 n c.Bd).bind fun a=>bif a then(qlr n c.Bh).bind fun b=>bif b then(qhs n c).bind fun d=>bif d then(qa4 n c.Cc 0 100000).bind fun r4=>bif r4 then(qa4 n c.Bw 0 100000).bind fun f=>bif f then(qgD n c).bind fun g=>V g else V false else V false else V false else V false else V false
theorem qs7{c:qz}(a:Ro w c cs1){r:Bool}(F:qmE n c=V r):RetV prog 279 [oV qz cs1] w r:=by
 obtain⟨_,_,_,_,_,_,rfl,b,_,_⟩:=qag a;refine zV 29 func279 Z fun h=>zSR (qw h Z Z fun _ _ h=>X1 6 0 h Z (zcB h F qlV Z fun _ _ h F=>zp1 Z (qn (t:=6) F Z ?_ ?_)))<;>intro F
 ·refine X1 5 0 h Z (zcB h F (qrH ⟨_,_,rfl,(h.oldS b)⟩) Z fun _ _ h F=>zp2 Z (qn (t:=11) F Z ?_ ?_))<;>intro F
  ·refine X1 3 0 h Z (zcB h F (qoN (h.old a)) Z fun _ _ h F=>zp2 Z (qn (t:=15) F Z ?_ ?_))<;>intro F
   ·refine X1 5 0 h Z (zcB h F qaI Z fun _ _ h F=>zp2 Z (qn (t:=20) F Z ?_ ?_))<;>intro F
    ·refine X1 5 0 h Z (zcB h F qaI Z fun _ _ h F=>zp2 Z (qn (t:=25) F Z ?_ ?_))<;>intro F
     ·exact X1 3 0 h Z (zcB h F (qog (h.old a)) Z fun _ _ h F=>X0 3 Z (rb h F Z))
     exact X0 5 Z (rb h F Z)
    exact X0 10 Z (rb h F Z)
   exact X0 15 Z (rb h F Z)
  exact X0 19 Z (rb h F Z)
 exact X0 24 Z (rb h F Z)
def qc6(l:qp):Nat->(List ByteArray)->Int->Option (Flow Bool ((List ByteArray)×Int))|0,_,_=>U|n+1,x1,i1=>bif decide (i1<(l.Ay.length:Int)) then(idx l.Ay i1).bind fun a=>(qmE n a).bind fun b=>bif (!b) then V (.ret false) else(appS x1 ([a.Bd]:List ByteArray)).bind fun c=>qc6 l n c (W64 (i1+1)) else V (.nxt (x1,i1))
def qjh(n:Nat)(l:qp):Option Bool:=(qc6 l n ([]:List ByteArray) 0).bind fun|.ret r=>V r|.nxt (x1,_)=>bif decide ((l.Ay.length:Int)<=8) then(qeJ n x1).bind fun a=>V a else V false
theorem qqC{l:qp}(f:Ro w l cs1){r:Bool}(F:qjh n l=V r):RetV prog 250 [oV qp cs1] w r:=by
 obtain⟨y,v,rfl,C⟩:=qbN f;refine zV 30 func250 Z fun h=>zSR (qw h Z Z fun _ c h=>X1 14 0 h Z ?_);replace h:=h.nil (α:=ByteArray);obtain⟨B,F,d⟩:=qc F;refine qm (rL (fun m e w'=>∃S1 u b s x1 i1,qc6 l m x1 i1=V B/\e=[(1,vp c),(3,oS u b s),(7,oS y l.Ay.length v),(8,vi (l.Ay.length:Int)),(9,vi i1)]/\SH w w' [oW S1 (x1:List ByteArray) [oS u b s],oX c [oS y l.Ay.length v] 46]) n ⟨_,_,_,_,_,_,F,rfl,h⟩ Z ?_);rintro x _ _ ⟨S1,u,b,s,x1,i1,F,rfl,h⟩;obtain rfl:=(h.sl 0 Z).2;rcases x with _|x
 ·cases F
 refine X0 5 Z (qi Z F ?_ ?_)<;>intro F
 ·refine zKSBSR ?_;obtain⟨z,_,F,i,_,_,_,_,k,o,p,g⟩:=C.ix F;obtain⟨_,_,_,_,_,_,rfl,s2,D,H⟩:=qag p;refine zxe k o i Z (zc 0 (g.below h.below) Z (qq qa h Z Z Z fun _ _ h=>zs 0 h Z fun _ h=>X1 5 0 h Z (zcB h F (qs7 (qlB z (h.oldS s2) (h.oldS D) (h.oldS H))) Z fun _ _ h F=>X0 2 Z (qi Z F ?_ ?_))))<;>intro F
  ·refine X0 4 Z ?_;obtain rfl:=qb F;replace F:=d;exact rb h F Z
  refine X1 5 0 h Z (qG qa [.tmp 18] _ ([z.Bd]:List ByteArray) h Z Z Z Z Z Z Z Z Z ⟨rfl,G⟩ Z fun _ _ _ h=>?_);obtain⟨_,a,F⟩:=qc F;obtain⟨A,a⟩:=qO a;refine qbW qa 2 h Z (h.sl 0 Z).1 (h.sl 0 Z).2 Z Z Z Z Z Z Z Z Z A a Z fun _ _ _ _ h=>X0 7 Z ?_;replace h:=h.p [2,3] Z;exact rK ⟨_,_,_,_,_,_,F,rfl,h⟩ Z
 refine qt Z ?_;obtain rfl:=qb F;replace F:=d;refine X1 7 1 h Z (qn (t:=26) F Z ?_ ?_)<;>intro F
 ·exact X0 3 Z (zcB h F (qgk (h.own 0 Z)) Z fun _ _ h F=>X0 3 Z (rb h F Z))
 exact X0 5 Z (rb h F Z)
def qbp(d:qd):Nat->(List ByteArray)->Int->Option ((List ByteArray)×Int)|0,_,_=>U|n+1,x3,a=>bif decide (a<(d.Ak.length:Int)) then(idx d.Ak a).bind fun c=>(appS x3 ([c.Bd]:List ByteArray)).bind fun b=>qbp d n b (W64 (a+1)) else V (x3,a)
def qby(d:qd):Nat->(List ByteArray)->Int->Option ((List ByteArray)×Int)|0,_,_=>U|n+1,x1,i1=>bif decide (i1<(d.Ab.length:Int)) then(idx d.Ab i1).bind fun b=>(appS x1 ([b.Bd]:List ByteArray)).bind fun a=>qby d n a (W64 (i1+1)) else V (x1,i1)
def qfU(n:Nat)(d:qd):Option Bool:=(qby d n ([]:List ByteArray) 0).bind fun(x1,_)=>(qbp d n ([]:List ByteArray) 0).bind fun(x3,_)=>bif decide ((x1.length:Int)<=14) then bif decide ((d.As.length:Int)<=30) then bif decide ((x3.length:Int)<=8) then(qeJ n x1).bind fun a=>bif a then(qeJ n d.As).bind fun b=>bif b then(qeJ n x3).bind fun c=>V c else V false else V false else V false else V false else V false
theorem qmX{d:qd}(p:Ro w d cs1){r:Bool}(F:qfU n d=V r):RetV prog 251 [oV qd cs1] w r:=by
 obtain⟨K,I,R,O,L,k3,rfl,Y,s2,s3⟩:=qaE p;refine zV 62 func251 Z fun h=>zSR (qw h Z Z fun _ a h=>X1 15 0 h Z ?_);replace h:=h.nil (α:=ByteArray);obtain⟨W,F,l⟩:=qc F;refine qm (rL (fun m e w'=>∃S1 k f i x1 i1,qby d m x1 i1=V W/\e=[(1,vp a),(3,oS k f i),(4,oS U 0 0),(10,oS K d.Ab.length I),(11,vi (d.Ab.length:Int)),(12,vi i1)]/\SH w w' [oW S1 (x1:List ByteArray) [oS k f i],oX a (qaW d K R L I O k3) 50]) n ⟨_,_,_,_,_,_,F,rfl,h⟩ Z ?_);rintro P _ _ ⟨S1,k,f,i,x1,i1,F,rfl,h⟩;obtain rfl:=(h.sl 0 Z).2;rcases P with _|P
 ·cases F
 refine X0 5 Z (qi Z F ?_ ?_)<;>intro F
 ·refine zKSBSR ?_;obtain⟨y1,_,F,v,_,_,_,_,y,A,C,s⟩:=Y.ix F;obtain⟨_,_,rfl,_⟩:=qV C;refine zxe y A v Z (zc 0 (s.below h.below) Z (qq qa h Z Z Z fun _ _ h=>zs 0 h Z fun _ h=>X1 5 0 h Z (qG qa [.tmp 18] _ ([y1.Bd]:List ByteArray) h Z Z Z Z Z Z Z Z Z ⟨rfl,G⟩ Z fun _ _ _ h=>?_)));obtain⟨_,b,F⟩:=qc F;obtain⟨S,b⟩:=qO b;refine qbW qa 2 h Z (h.sl 0 Z).1 (h.sl 0 Z).2 Z Z Z Z Z Z Z Z Z S b Z fun _ _ _ _ h=>X0 7 Z ?_;replace h:=h.p [2,3] Z;exact rK ⟨_,_,_,_,_,_,F,rfl,h⟩ Z
 refine qt Z ?_;obtain rfl:=qb F;replace F:=l;refine X1 8 1 h Z ?_;replace h:=h.nil (α:=ByteArray);obtain⟨X,F,o⟩:=qc F;refine qm (rL (fun m e w'=>∃N M g J x3 H,qbp d m x3 H=V X/\e=[(1,vp a),(3,oS k x1.length i),(4,oS M g J),(23,oS L d.Ak.length k3),(24,vi (d.Ak.length:Int)),(25,vi H)]/\SH w w' [oW N (x3:List ByteArray) [oS M g J],oW S1 (x1:List ByteArray) [oS k x1.length i],oX a (qaW d K R L I O k3) 50]) n ⟨_,_,_,_,_,_,F,rfl,h⟩ Z ?_);rintro Q _ _ ⟨N,M,g,J,x3,H,F,rfl,h⟩;obtain rfl:=(h.sl 0 Z).2;rcases Q with _|Q
 ·cases F
 refine X0 5 Z (qi Z F ?_ ?_)<;>intro F
 ·refine zKSBSR ?_;obtain⟨y2,_,F,x,_,_,_,_,z,B,D,u⟩:=s3.ix F;obtain rfl:=qaZ D;refine zxe z B x Z (zc 0 (u.below h.below) Z (qq qa h Z Z Z fun _ _ h=>zs 0 h Z fun _ h=>X1 5 0 h Z (qG qa [.tmp 31] _ ([y2.Bd]:List ByteArray) h Z Z Z Z Z Z Z Z Z ⟨rfl,G⟩ Z fun _ _ _ h=>?_)));obtain⟨_,c,F⟩:=qc F;obtain⟨T,c⟩:=qO c;refine qbW qa 2 h Z (h.sl 0 Z).1 (h.sl 0 Z).2 Z Z Z Z Z Z Z Z Z T c Z fun _ _ _ _ h=>X0 7 Z ?_;replace h:=h.p [2,3,4] Z;exact rK ⟨_,_,_,_,_,_,F,rfl,h⟩ Z
 refine qt Z ?_;obtain rfl:=qb F;replace F:=o;refine X0 6 Z (qn (t:=38) F Z ?_ ?_)<;>intro F
 ·refine X1 10 2 h Z (qn (t:=44) F Z ?_ ?_)<;>intro F
  ·refine X0 8 Z (qn (t:=49) F Z ?_ ?_)<;>intro F
   ·refine X0 3 Z (zcB h F (qgk (h.own 1 Z)) Z fun _ _ h F=>zp2 Z (qn (t:=53) F Z ?_ ?_))<;>intro F
    ·refine X1 5 2 h Z (zcB h F (qgk ⟨_,_,rfl,(h.oldS s2)⟩) Z fun _ _ h F=>zp2 Z (qn (t:=58) F Z ?_ ?_))<;>intro F
     ·exact X0 3 Z (zcB h F (qgk (h.own 0 Z)) Z fun _ _ h F=>X0 3 Z (rb h F Z))
     exact X0 5 Z (rb h F Z)
    exact X0 10 Z (rb h F Z)
   exact X0 14 Z (rb h F Z)
  exact X0 19 Z (rb h F Z)
 exact X0 25 Z (rb h F Z)
def qhn(_:Nat)(list:(List qz)):Option Int:=V (list.length:Int)
theorem qmJ{list:(List qz)}(a:Ro w list cs1){r:Int}(F:qhn n list=V r):RetV prog 281 [oV (List qz) cs1] w r:=by
 obtain⟨_,_,rfl,_⟩:=a;exact zV 5 func281 Z fun h=>X0 10 Z (ri h F Z)
def qiU(_:Nat)(list:(List ByteArray)):Option Int:=V (list.length:Int)
theorem qof{list:(List ByteArray)}(a:Ro w list cs1){r:Int}(F:qiU n list=V r):RetV prog 283 [oV (List ByteArray) cs1] w r:=by
 obtain⟨_,_,rfl,_⟩:=a;exact zV 5 func283 Z fun h=>X0 10 Z (ri h F Z)
def qd9(n:Nat)(d:qd)(net:Int):Option Bool:=(qiU n d.As).bind fun a=>(qa4 n net 0 (W64 (a-1))).bind fun b=>V b
theorem qhG{d:qd}{net}(a:Ro w d cs1){r:Bool}(F:qd9 n d net=V r):RetV prog 253 [oV qd cs1,vi net] w r:=by
 obtain⟨_,_,_,_,_,_,rfl,_,s2,_⟩:=qaE a;exact zV 11 func253 Z fun h=>zSR (qw h Z Z fun _ _ h=>X1 7 0 h Z (zcI h F (qof ⟨_,_,rfl,(h.oldS s2)⟩) Z fun _ _ h F=>zp1 Z (zcB h F qaI Z fun _ _ h F=>X0 2 Z (rb h F Z))))
def qdS(n:Nat)(net:Int)(b:qd):Option Bool:=(qd9 n b net).bind fun a=>V (!a)
theorem qlj{net}{d:qd}{f}(a:Ro w (V d) [.pointer f]){r:Bool}(F:qdS n net d=V r):RetV prog 282 [vi net,.pointer f] w r:=by
 obtain⟨_,g,_,rfl,-,c,b⟩:=PtR.get a Z;obtain⟨_,_,_,_,_,_,rfl,i,s2,k⟩:=qaE c;exact zV 8 func282 Z fun h=>X0 6 Z (zc 0 (b.below h.below) Z (zp1 Z (zcB h F (qhG (qaC d (h.oldS i) (h.oldS s2) (h.oldS k))) Z fun _ _ h F=>X0 3 Z (rb h F Z))))
def qP(s:(List Int))(a:qd):Nat->Int->Option (Flow Int Int)|0,_=>U|n+1,i1=>bif decide (i1<(s.length:Int)) then(idx s i1).bind fun c=>(qdS n c a).bind fun b=>bif b then V (.ret i1) else qP s a n (W64 (i1+1)) else V (.nxt i1)
def qbb(n:Nat)(s:(List Int))(a:qd):Option Int:=(qP s a n 0).bind fun|.ret r=>V r|.nxt _=>V (-1)
theorem qfa{s:(List Int)}{a:qd}(d:Ro w s cs1){t}(c:Ro w (V a) [.pointer t]){r:Int}(F:qbb n s a=V r):RetV prog 164 [oV (List Int) cs1,.func (.func 282) #[] #[.pointer t]] w r:=by
 obtain⟨x,u,rfl,y⟩:=d;obtain⟨b1,o,_,rfl,-,l,_⟩:=PtR.get c Z;obtain⟨_,_,_,_,_,_,rfl,_,_,_⟩:=qaE l;refine zV 19 func164 Z fun h=>X0 11 Z ?_;obtain⟨v,F,b⟩:=qc F;refine qm (rL (fun m e w'=>∃i1,qP s a m i1=V v/\e=[(0,oS x s.length u),(1,.func (.func 282) #[] #[.pointer (V ⟨b1,o,U⟩)]),(7,vi (s.length:Int)),(8,vi i1)]/\SH w w' []) n ⟨_,F,rfl,h⟩ Z ?_);rintro p _ _ ⟨i1,F,rfl,h⟩;rcases p with _|p
 ·cases F
 refine X0 5 Z (qi Z F ?_ ?_)<;>intro F
 ·refine X0 13 Z ?_;obtain⟨_,_,F,g,_,_,_,_,i,k,rfl,f⟩:=y.ix F;refine zxe i k g Z (zc 0 (f.below h.below) Z (zcB h F (qlj (h.old c)) Z fun _ _ h F=>qan (qi Z F ?_ ?_)))<;>intro F
  ·refine X0 5 Z ?_;obtain rfl:=qb F;replace F:=b;exact ri h F Z
  exact X0 6 Z (rK ⟨_,F,rfl,h⟩ Z)
 refine qt Z ?_;obtain rfl:=qb F;replace F:=b;exact X0 4 Z (ri h F Z)
def qaY(n:Nat)(s:(List Int))(a:qd):Option Bool:=(qbb n s a).bind fun b=>V (decide (b>=0))
theorem qeu{s:(List Int)}{a:qd}(c:Ro w s cs1){f}(b:Ro w (V a) [.pointer f]){r:Bool}(F:qaY n s a=V r):RetV prog 110 [oV (List Int) cs1,.func (.func 282) #[] #[.pointer f]] w r:=by
 obtain⟨_,_,rfl,i⟩:=c;obtain⟨_,g,_,rfl,-,d,_⟩:=PtR.get b Z;obtain⟨_,_,_,_,_,_,rfl,_,_,_⟩:=qaE d;exact zV 9 func110 Z fun h=>X0 8 Z (zcI h F (qfa ⟨_,_,rfl,(h.oldS i)⟩ (h.old b)) Z fun _ _ h F=>X0 3 Z (rb h F Z))
def qeD(n:Nat)(d:qd)(l:qp)(x:ql):Option Bool:=(qhn n l.Ay).bind fun a=>(qa4 n x.Bv 0 (W64 (a-1))).bind fun b=>bif b then(idx l.Ay x.Bv).bind fun f=>bif ((x.As.length:Int)==(f.Bh.length:Int)) then(qaY n x.As d).bind fun c=>V (!c) else V false else V false
theorem qmf{d:qd}{l:qp}{x:ql}(a:Ro w d cs1)(b:Ro w l cs2)(c:Ro w x cs3){r:Bool}(F:qeD n d l x=V r):RetV prog 252 [oV qd cs1,oV qp cs2,oV ql cs3] w r:=by
 obtain⟨_,_,_,_,_,_,rfl,_,_,_⟩:=qaE a;obtain⟨_,_,rfl,u⟩:=qbN b;obtain⟨_,_,rfl,A⟩:=qV c;refine zV 35 func252 Z fun h=>zSR (qw h Z Z fun _ _ h=>qw h Z Z fun _ _ h=>qw h Z Z fun _ _ h=>X0 3 Z (rD (Y1 2 0 h Z ?_)));refine Y1 2 1 h Z ?_;obtain⟨v,m,F⟩:=qc F;refine qa5 v (vsI _) (cB 281 Z) (fun _ B=>qmJ ⟨_,_,rfl,((h.ext B).oldS u)⟩ m) Z Z Z Z (zd1 Z ?_);obtain⟨y,o,F⟩:=qc F;refine qa5 y (vsB _) (cB 46 Z) (fun _ B=>qaI  o) Z Z Z Z (zd1 Z (qaX (t:=14) F Z ?_ ?_))<;>intro F
 ·refine Y1 4 0 h Z ?_;refine Y1 6 1 h Z ?_;refine Y1 4 0 h Z ?_;refine Y0 1 Z ?_;obtain⟨_,_,F,g,_,_,_,_,i,k,p,f⟩:=u.ix F;obtain⟨_,_,_,_,_,_,rfl,_,_,_⟩:=qag p;refine zdxe i k g Z (Y0 3 Z (zdc 2 (f.below h.below) Z (Y0 6 Z (qaX (t:=28) F Z ?_ ?_))))<;>intro F
  ·refine Y1 4 0 h Z ?_;refine Y0 3 Z ?_;obtain⟨z,s,F⟩:=qc F;exact qa5 z (vsB _) (cB 110 Z) (fun _ B=>qeu ⟨_,_,rfl,((h.ext B).oldS A)⟩ (qf8 (x:=d) 2 (h.ext B) Z ((h.ext B).old a)) s) Z Z Z Z (Y0 4 Z (dN h fun _ h=>rb h F Z))
  exact Y0 7 Z (dN h fun _ h=>rb h F Z)
 exact Y0 21 Z (dN h fun _ h=>rb h F Z)
def qk0(_:Nat)(a:Int):Option Bool:=V (a != 1)
theorem qpW{a_n}  {r:Bool}(F:qk0 n a_n=V r):RetV prog 255 [vi a_n] w r:=by
 exact zV 5 func255 Z fun h=>X0 10 Z (rb h F Z)
def qap(s:(List Int)):Nat->Int->Option (Flow Int Int)|0,_=>U|n+1,i1=>bif decide (i1<(s.length:Int)) then(idx s i1).bind fun b=>(qk0 n b).bind fun a=>bif a then V (.ret i1) else qap s n (W64 (i1+1)) else V (.nxt i1)
def qcl(n:Nat)(s:(List Int)):Option Int:=(qap s n 0).bind fun|.ret r=>V r|.nxt _=>V (-1)
theorem qhA{s:(List Int)}(b:Ro w s cs1){r:Int}(F:qcl n s=V r):RetV prog 284 [oV (List Int) cs1,.func (.func 255) #[] #[]] w r:=by
 obtain⟨o,k,rfl,p⟩:=b;refine zV 19 func284 Z fun h=>X0 11 Z ?_;obtain⟨l,F,a⟩:=qc F;refine qm (rL (fun m e w'=>∃i1,qap s m i1=V l/\e=[(0,oS o s.length k),(1,.func (.func 255) #[] #[]),(7,vi (s.length:Int)),(8,vi i1)]/\SH w w' []) n ⟨_,F,rfl,h⟩ Z ?_);rintro i _ _ ⟨i1,F,rfl,h⟩;rcases i with _|i
 ·cases F
 refine X0 5 Z (qi Z F ?_ ?_)<;>intro F
 ·refine X0 13 Z ?_;obtain⟨_,_,F,d,_,_,_,_,f,g,rfl,c⟩:=p.ix F;refine zxe f g d Z (zc 0 (c.below h.below) Z (zcB h F qpW Z fun _ _ h F=>qan (qi Z F ?_ ?_)))<;>intro F
  ·refine X0 5 Z ?_;obtain rfl:=qb F;replace F:=a;exact ri h F Z
  exact X0 6 Z (rK ⟨_,F,rfl,h⟩ Z)
 refine qt Z ?_;obtain rfl:=qb F;replace F:=a;exact X0 4 Z (ri h F Z)
def qb0(n:Nat)(s:(List Int)):Option Bool:=(qcl n s).bind fun a=>V (decide (a>=0))
theorem qgI{s:(List Int)}(a:Ro w s cs1){r:Bool}(F:qb0 n s=V r):RetV prog 254 [oV (List Int) cs1,.func (.func 255) #[] #[]] w r:=by
 obtain⟨_,_,rfl,b⟩:=a;exact zV 9 func254 Z fun h=>X0 8 Z (zcI h F (qhA ⟨_,_,rfl,(h.oldS b)⟩) Z fun _ _ h F=>X0 3 Z (rb h F Z))
def qcU(a:qd):Nat->(List Int)->Int->Option (Flow Bool ((List Int)×Int))|0,_,_=>U|n+1,x3,c=>bif decide (c<(a.Ak.length:Int)) then(idx a.Ak c).bind fun b=>(bif (b.Bx != 1) then bif (b.Bx != 2) then V true else(qd9 n a b.Ca).bind fun f=>V (!f) else(qd9 n a b.Ca).bind fun g=>V (!g)).bind fun d=>bif d then V (.ret false) else bif (b.Bx==1) then(idx x3 b.Ca).bind fun h=>(idx x3 b.Ca).bind fun _=>qcU a n (setS x3 b.Ca (W64 (h+1))) (W64 (c+1)) else qcU a n x3 (W64 (c+1)) else V (.nxt (x3,c))
def qdG(b:qp)(a:qd):Nat->(List Int)->Int->Option (Flow Bool ((List Int)×Int))|0,_,_=>U|n+1,c,i1=>bif decide (i1<(a.Ab.length:Int)) then(idx a.Ab i1).bind fun d=>(qeD n a b d).bind fun g=>bif (!g) then V (.ret false) else(idx d.As (W64 ((d.As.length:Int)-1))).bind fun f=>(idx c f).bind fun h=>(idx c f).bind fun _=>qdG b a n (setS c f (W64 (h+1))) (W64 (i1+1)) else V (.nxt (c,i1))
def qkj(n:Nat)(b:qp)(a:qd):Option Bool:=((qjh n b).bind fun c=>bif (!c) then V true else(qfU n a).bind fun d=>V (!d)).bind fun b1=>bif b1 then V false else(mkS (a.As.length:Int) (0:Int)).bind fun x1=>(qdG b a n x1 0).bind fun|.ret r=>V r|.nxt (f,_)=>(qcU a n f 0).bind fun|.ret r=>V r|.nxt (x3,_)=>(qb0 n x3).bind fun r4=>V (!r4)
theorem qqZ{c:qp}{a:qd}(i:Ro w c cs1)(d:Ro w a cs2){r:Bool}(F:qkj n c a=V r):RetV prog 202 [oV qp cs1,oV qd cs2] w r:=by
 obtain⟨p1,k1,rfl,_⟩:=qbN i;obtain⟨O,N,Q,k3,o,l,rfl,s2,_,s4⟩:=qaE d;refine zV 84 func202 Z fun h=>zSR (qw h Z Z fun _ f h=>qw h Z Z fun _ b h=>X0 4 Z ?_);obtain⟨S,z,_,F,x⟩:=bindE F;refine qa0 (fun e w'=>∃b1,S b1=V r/\e=[(2,vp f),(3,vp b),(17,.bool b1)]/\SH w w' [oX b (qaW a O Q o N k3 l) 50,oX f [oS p1 c.Ay.length k1] 46]) ?_ ?_
 ·refine X1 2 1 h Z (zcB h F (qqC (h.old i)) Z fun _ _ h F=>zp2 Z (qn (t:=13) F Z ?_ ?_))<;>intro F
  ·refine X0 5 Z ?_;obtain rfl:=qb F;exact rG ⟨_,x,rfl,h⟩ Z
  refine X1 3 0 h Z (zcB h F (qmX (h.old d)) Z fun _ _ h F=>X0 4 Z ?_);obtain rfl:=qb F;exact rG ⟨_,x,rfl,h⟩ Z
 rintro _ _ ⟨b1,F,rfl,h⟩;subst z;refine qi Z F ?_ ?_<;>intro F
 ·exact X0 4 Z (rb h F Z)
 refine X1 6 0 h Z ?_;obtain⟨x1,k,F⟩:=qc F;obtain⟨g1,g2,k⟩:=qU k;refine qam qa Int h Z Z Z Z Z Z Z Z Z g1 g2 k Z fun _ S1 p h=>X1 10 1 h Z ?_;obtain⟨o1,F,u⟩:=qc F;refine qm (rL (fun m e w'=>∃x2 i1,qdG c a m x2 i1=V o1/\e=[(2,vp f),(3,vp b),(5,oS p x1.length x1.length),(23,oS O a.Ab.length N),(24,vi (a.Ab.length:Int)),(25,vi i1)]/\SH w w' [oW S1 (x2:List Int) [oS p x1.length x1.length],oX b (qaW a O Q o N k3 l) 50,oX f [oS p1 c.Ay.length k1] 46]) n ⟨_,_,F,rfl,h⟩ Z ?_);rintro m1 _ _ ⟨x2,i1,F,rfl,h⟩;rcases m1 with _|m1
 ·cases F
 refine X0 5 Z (qi Z F ?_ ?_)<;>intro F
 ·refine zKSBSR ?_;obtain⟨y1,_,F,a5,_,_,_,_,a8,b8,c3,W⟩:=s2.ix F;obtain⟨_,_,rfl,s5⟩:=qV c3;refine zxe a8 b8 a5 Z (zc 0 (W.below h.below) Z (qq qa h Z Z Z fun _ _ h=>zs 0 h Z fun _ h=>X3 7 2 3 0 h Z (zcB h F (qmf (h.old d) (h.old i) (qhc y1 (h.oldS s5))) Z fun _ _ h F=>X0 2 Z (qi Z F ?_ ?_))))<;>intro F
  ·refine X0 4 Z ?_;obtain rfl:=qb F;replace F:=u;exact rb h F Z
  refine X2 9 0 0 h Z ?_;obtain⟨_,_,F,a6,_,_,_,_,a9,b9,rfl,X⟩:=s5.ix F;refine zxe a9 b9 a6 Z (zc 0 (X.below h.below) Z ?_);obtain⟨y3,_,F,C,_,_,_,_,b4,c0,rfl,Y⟩:=(h.sl 1 Z).1.ix F;refine zx b4 c0 ⟨C.1,qC C.2.1 (h.sl 1 Z).2⟩ Z (zc 0 Y Z (zp1 Z ?_));obtain⟨_,c5,F,D,_,_,_,_,J,L,rfl,a3⟩:=(h.sl 1 Z).1.ix F;refine zx J L ⟨D.1,qC D.2.1 (h.sl 1 Z).2⟩ Z (qax qa 1 0 (W64 (y3+1)) h Z c5 J L Z a3 Z Z Z Z Z Z Z fun _ h=>X0 6 Z ?_);replace h:=h.p [1,2,3] Z;exact rK ⟨_,_,F,rfl,h⟩ Z
 refine qt Z ?_;obtain rfl:=qb F;replace F:=u;refine X1 8 1 h Z ?_;obtain⟨o2,F,v⟩:=qc F;refine qm ?_;replace h:=h.p [0,1] Z;refine rL (fun m e w'=>∃x3 P,qcU a m x3 P=V o2/\e=[(3,vp b),(5,oS p x1.length x1.length),(49,oS o a.Ak.length l),(50,vi (a.Ak.length:Int)),(51,vi P)]/\SH w w' [oW S1 (x3:List Int) [oS p x1.length x1.length],oX b (qaW a O Q o N k3 l) 50]) n ⟨_,_,F,rfl,h⟩ Z ?_;rintro m2 _ _ ⟨x3,P,F,rfl,h⟩;rcases m2 with _|m2
 ·cases F
 refine X0 5 Z (qi Z F ?_ ?_)<;>intro F
 ·refine zKSBSR ?_;obtain⟨y5,_,F,a7,_,_,_,_,b5,c1,c4,a4⟩:=s4.ix F;obtain rfl:=qaZ c4;refine zxe b5 c1 a7 Z (zc 0 (a4.below h.below) Z (qq qa h Z Z Z fun _ s h=>zs 0 h Z fun _ h=>zNSS ?_));obtain⟨R,y,_,F,g⟩:=bindE F;refine qa0 (fun e w'=>∃T,R T=V o2/\e=[(3,vp b),(5,oS p x1.length x1.length),(9,vp s),(49,oS o a.Ak.length l),(50,vi (a.Ak.length:Int)),(51,vi P),(69,.bool T)]/\SH w w' [oX s (qsg y5) 255,oW S1 (x3:List Int) [oS p x1.length x1.length],oX b (qaW a O Q o N k3 l) 50]) ?_ ?_
  ·refine X1 5 0 h Z (qn (t:=58) F Z ?_ ?_)<;>intro F
   ·refine X1 8 0 h Z (qn (t:=63) F Z ?_ ?_)<;>intro F
    ·refine X0 7 Z ?_;obtain rfl:=qb F;exact rG ⟨_,g,rfl,h⟩ Z
    refine X2 7 2 0 h Z (zcB h F (qhG (h.old d)) Z fun _ _ h F=>X0 4 Z ?_);obtain rfl:=qb F;exact rG ⟨_,g,rfl,h⟩ Z
   refine X2 12 2 0 h Z (zcB h F (qhG (h.old d)) Z fun _ _ h F=>X0 4 Z ?_);obtain rfl:=qb F;exact rG ⟨_,g,rfl,h⟩ Z
  rintro _ _ ⟨T,F,rfl,h⟩;subst y;refine qi Z F ?_ ?_<;>intro F
  ·refine X0 4 Z ?_;obtain rfl:=qb F;replace F:=v;exact rb h F Z
  refine X1 7 0 h Z (qi Z F ?_ ?_)<;>intro F
  ·refine X1 4 0 h Z ?_;obtain⟨y6,_,F,H,_,_,_,_,b6,c2,rfl,A⟩:=(h.sl 1 Z).1.ix F;refine zx b6 c2 ⟨H.1,qC H.2.1 (h.sl 1 Z).2⟩ Z (zc 0 A Z (zp1 Z ?_));obtain⟨_,c6,F,I,_,_,_,_,K,M,rfl,B⟩:=(h.sl 1 Z).1.ix F;refine zx K M ⟨I.1,qC I.2.1 (h.sl 1 Z).2⟩ Z (qax qa 1 0 (W64 (y6+1)) h Z c6 K M Z B Z Z Z Z Z Z Z fun _ h=>X0 6 Z ?_);replace h:=h.p [1,2] Z;exact rK ⟨_,_,F,rfl,h⟩ Z
  refine X0 6 Z ?_;replace h:=h.p [1,2] Z;exact rK ⟨_,_,F,rfl,h⟩ Z
 refine qt Z ?_;obtain rfl:=qb F;replace F:=v;exact X0 3 Z (zcB h F (qgI (h.own 0 Z)) Z fun _ _ h F=>X0 3 Z (rb h F Z))
def qbS(i1:Int)(b:ql):Nat->(List Tplace)->Int->Option ((List Tplace)×Int)|0,_,_=>U|n+1,c,a=>bif decide (a<(b.As.length:Int)) then(idx b.As a).bind fun d=>(appS c ([(⟨i1,a,d,(a==(W64 ((b.As.length:Int)-1)))⟩:Tplace)]:List Tplace)).bind fun x3=>qbS i1 b n x3 (W64 (a+1)) else V (c,a)
def qbU(d:qd):Nat->(List Tplace)->Int->Option ((List Tplace)×Int)|0,_,_=>U|n+1,b,a=>bif decide (a<(d.Ak.length:Int)) then(idx d.Ak a).bind fun c=>(appS b ([(⟨(-1),a,c.Ca,(c.Bx==1)⟩:Tplace)]:List Tplace)).bind fun f=>qbU d n f (W64 (a+1)) else V (b,a)
def qbT(d:qd):Nat->(List Tplace)->Int->Option ((List Tplace)×Int)|0,_,_=>U|n+1,x1,i1=>bif decide (i1<(d.Ab.length:Int)) then(idx d.Ab i1).bind fun b=>(qbS i1 b n x1 0).bind fun(a,_)=>qbT d n a (W64 (i1+1)) else V (x1,i1)
def qcJ(n:Nat)(d:qd):Option (List Tplace):=(qbT d n ([]:List Tplace) 0).bind fun(x1,_)=>(qbU d n x1 0).bind fun(a,_)=>V a
theorem qff{d:qd}(z:Ro w d cs1){r:(List Tplace)}(F:qcJ n d=V r):RetV prog 203 [oV qd cs1] w r:=by
 obtain⟨t,s,p2,k2,X,k3,rfl,s1,_,s3⟩:=qaE z;refine zV 61 func203 Z fun h=>zSR (qw h Z Z fun _ a h=>X1 14 0 h Z ?_);replace h:=h.nil (α:=Tplace);obtain⟨o1,F,v⟩:=qc F;refine qm (rL (fun m e w'=>∃S1 Y g R x1 i1,qbT d m x1 i1=V o1/\e=[(1,vp a),(3,oS Y g R),(11,oS t d.Ab.length s),(12,vi (d.Ab.length:Int)),(13,vi i1)]/\SH w w' [oW S1 (x1:List Tplace) [oS Y g R],oX a (qaW d t p2 X s k2 k3) 50]) n ⟨_,_,_,_,_,_,F,rfl,h⟩ Z ?_);rintro W _ _ ⟨S1,Y,g,R,x1,i1,F,rfl,h⟩;obtain rfl:=(h.sl 0 Z).2;rcases W with _|W
 ·cases F
 refine X0 5 Z (qi Z F ?_ ?_)<;>intro F
 ·refine X0 6 Z ?_;obtain⟨l,_,F,D,_,_,_,_,J,M,P,A⟩:=s1.ix F;obtain⟨p5,k5,rfl,s4⟩:=qV P;refine zxe J M D Z (zc 0 (A.below h.below) Z (qq qa h Z Z Z fun _ o h=>zp1 Z (zs 0 h Z fun _ h=>X1 8 0 h Z ?_)));obtain⟨o2,F,x⟩:=qc F;refine qm (rL (fun m e w'=>∃S2 p6 i S x2 f,qbS i1 l m x2 f=V o2/\e=[(1,vp a),(3,oS p6 i S),(4,vi i1),(5,vp o),(11,oS t d.Ab.length s),(12,vi (d.Ab.length:Int)),(13,vi i1),(19,oS p5 l.As.length k5),(20,vi (l.As.length:Int)),(21,vi f)]/\SH w w' [oX o (qkz l p5 k5) 253,oW S2 (x2:List Tplace) [oS p6 i S],oX a (qaW d t p2 X s k2 k3) 50]) W ⟨_,_,_,_,_,_,F,rfl,h⟩ Z ?_);rintro m2 _ _ ⟨S2,p6,i,S,x2,f,F,rfl,h⟩;obtain rfl:=(h.sl 1 Z).2;rcases m2 with _|m2
  ·cases F
  refine X0 5 Z (qi Z F ?_ ?_)<;>intro F
  ·refine X0 6 Z ?_;obtain⟨y2,_,F,H,_,_,_,_,K,N,rfl,B⟩:=s4.ix F;refine zxe K N H Z (zc 0 (B.below h.below) Z (X1 14 0 h Z (r_v (qH qa [0,1,2,3] [.tmp 27,.tmp 28,.tmp 29,.tmp 35] Z Z Z Z Z Z Z Z) Z (qG qa [.tmp 36] _ ([(⟨i1,f,y2,(f==(W64 ((l.As.length:Int)-1)))⟩:Tplace)]:List Tplace) h Z Z Z Z Z Z Z Z Z ⟨(qnp (⟨i1,f,y2,(f==(W64 ((l.As.length:Int)-1)))⟩:Tplace)),G⟩ Z fun _ _ _ h=>?_))));obtain⟨_,b,F⟩:=qc F;obtain⟨g1,b⟩:=qO b;refine qbW qa 2 h Z (h.sl 0 Z).1 (h.sl 0 Z).2 Z Z Z Z Z Z Z Z Z g1 b Z fun _ _ _ _ h=>X0 7 Z ?_;replace h:=h.p [1,2,3] Z;exact rK ⟨_,_,_,_,_,_,F,rfl,h⟩ Z
  refine qt Z ?_;obtain rfl:=qb F;replace F:=x;refine X0 5 Z ?_;replace h:=h.p [1,2] Z;exact rK ⟨_,_,_,_,_,_,F,rfl,h⟩ Z
 refine qt Z ?_;obtain rfl:=qb F;replace F:=v;refine X1 8 1 h Z ?_;obtain⟨o3,F,y⟩:=qc F;refine qm ?_;replace h:=h.p [0] Z;refine rL (fun m e w'=>∃S5 p9 k T x4 p,qbU d m x4 p=V o3/\e=[(3,oS p9 k T),(42,oS X d.Ak.length k3),(43,vi (d.Ak.length:Int)),(44,vi p)]/\SH w w' [oW S5 (x4:List Tplace) [oS p9 k T]]) n ⟨_,_,_,_,_,_,F,rfl,h⟩ Z ?_;rintro m3 _ _ ⟨S5,p9,k,T,x4,p,F,rfl,h⟩;obtain rfl:=(h.sl 0 Z).2;rcases m3 with _|m3
 ·cases F
 refine X0 5 Z (qi Z F ?_ ?_)<;>intro F
 ·refine X0 6 Z ?_;obtain⟨u,_,F,I,_,_,_,_,L,O,Q,C⟩:=s3.ix F;obtain rfl:=qaZ Q;refine zxe L O I Z (zc 0 (C.below h.below) Z (qq qa h Z Z Z fun _ _ h=>zp1 Z (zs 0 h Z fun _ h=>X2 9 0 0 h Z (r_v (qH qa [0,1,2,3] [.const (vi (-1)),.tmp 50,.tmp 52,.tmp 55] Z Z Z Z Z Z Z Z) Z (qG qa [.tmp 56] _ ([(⟨(-1),p,u.Ca,(u.Bx==1)⟩:Tplace)]:List Tplace) h Z Z Z Z Z Z Z Z Z ⟨(qnp (⟨(-1),p,u.Ca,(u.Bx==1)⟩:Tplace)),G⟩ Z fun _ _ _ h=>?_)))));obtain⟨_,c,F⟩:=qc F;obtain⟨g2,c⟩:=qO c;refine qbW qa 2 h Z (h.sl 0 Z).1 (h.sl 0 Z).2 Z Z Z Z Z Z Z Z Z g2 c Z fun _ _ _ _ h=>X0 7 Z ?_;replace h:=h.p [2] Z;exact rK ⟨_,_,_,_,_,_,F,rfl,h⟩ Z
 refine qt Z ?_;obtain rfl:=qb F;replace F:=y;refine X0 5 Z ?_;obtain rfl:=qb F;exact rO 0 h Z ⟨rfl,G⟩
def qbm(f:qE):Nat->Int->Option (Flow Bool Int)|0,_=>U|n+1,i1=>bif decide (i1<(f.Az.length:Int)) then(idx f.Az i1).bind fun a=>bif (i1==0) then bif (a != (-1)) then V (.ret false) else(idx f.Bz 0).bind fun d=>bif (d != 0) then V (.ret false) else bif decide (i1 > 0) then(qa4 n a 0 (W64 (i1-1))).bind fun b=>bif (!b) then V (.ret false) else qbm f n (W64 (i1+1)) else qbm f n (W64 (i1+1)) else bif decide (i1 > 0) then(qa4 n a 0 (W64 (i1-1))).bind fun c=>bif (!c) then V (.ret false) else qbm f n (W64 (i1+1)) else qbm f n (W64 (i1+1)) else V (.nxt i1)
def qif(n:Nat)(a:qE):Option Bool:=(qbm a n 0).bind fun|.ret r=>V r|.nxt _=>V true
theorem qpw{H:qE}(c:Ro w H cs1){r:Bool}(F:qif n H=V r):RetV prog 256 [oV qE cs1] w r:=by
 obtain⟨v,s,A,x,B,k3,C,y,rfl,D,s2,_,_⟩:=qaR c;refine zV 38 func256 Z fun h=>zSR (qw h Z Z fun _ b h=>X1 10 0 h Z ?_);obtain⟨z,F,a⟩:=qc F;refine qm (rL (fun m e w'=>∃i1,qbm H m i1=V z/\e=[(1,vp b),(6,oS v H.Az.length s),(7,vi (H.Az.length:Int)),(8,vi i1)]/\SH w w' [oX b (qhx H v A B C s x k3 y) 183]) n ⟨_,F,rfl,h⟩ Z ?_);rintro u _ _ ⟨i1,F,rfl,h⟩;rcases u with _|u
 ·cases F
 refine X0 5 Z (qi Z F ?_ ?_)<;>intro F
 ·refine X0 6 Z ?_;obtain⟨_,_,F,g,_,_,_,_,k,o,rfl,d⟩:=D.ix F;refine zxe k o g Z (zc 0 (d.below h.below) Z (X0 8 Z (qn (t:=15) F Z ?_ ?_)))<;>intro F
  ·refine X0 6 Z (qn (t:=18) F Z ?_ ?_)<;>intro F
   ·refine X0 20 Z (qcs Z Z (X0 4 Z ?_));obtain rfl:=qb F;replace F:=a;exact rb h F Z
   refine X1 5 0 h Z ?_;obtain⟨_,_,F,i,_,_,_,_,l,p,rfl,f⟩:=s2.ix F;refine zxe l p i Z (X0 1 Z (zc 0 (f.below h.below) Z (X0 6 Z (qn (t:=26) F Z ?_ ?_))))<;>intro F
   ·refine X0 11 Z (qcs Z Z (X0 4 Z ?_));obtain rfl:=qb F;replace F:=a;exact rb h F Z
   refine X0 6 Z (qn (t:=29) F Z ?_ ?_)<;>intro F
   ·refine X0 7 Z (zcB h F qaI Z fun _ _ h F=>X0 6 Z (qi Z F ?_ ?_))<;>intro F
    ·refine X0 4 Z ?_;obtain rfl:=qb F;replace F:=a;exact rb h F Z
    exact X0 6 Z (rK ⟨_,F,rfl,h⟩ Z)
   exact X0 9 Z (qcg Z Z (X0 6 Z (rK ⟨_,F,rfl,h⟩ Z)))
  refine X0 17 Z (qn (t:=29) F Z ?_ ?_)<;>intro F
  ·refine X0 7 Z (zcB h F qaI Z fun _ _ h F=>X0 6 Z (qi Z F ?_ ?_))<;>intro F
   ·refine X0 4 Z ?_;obtain rfl:=qb F;replace F:=a;exact rb h F Z
   exact X0 6 Z (rK ⟨_,F,rfl,h⟩ Z)
  exact X0 9 Z (qcg Z Z (X0 6 Z (rK ⟨_,F,rfl,h⟩ Z)))
 refine qt Z ?_;obtain rfl:=qb F;replace F:=a;exact X0 4 Z (rb h F Z)
def qmi(n:Nat)(k:qE)(l:Int):Option Bool:=(qbA n k.Az).bind fun a=>(qa4 n a 1 8).bind fun b=>bif b then(qbA n k.Bz).bind fun c=>bif (c==a) then(qbA n k.Bu).bind fun r4=>bif (r4==a) then(qif n k).bind fun d=>bif d then(qb6 n k.Bz 0 1000).bind fun f=>bif f then(qb6 n k.Bu 0 500).bind fun g=>bif g then(qbA n k.Bn).bind fun h=>bif (h==l) then(qb6 n k.Bn 0 (W64 (a-1))).bind fun i=>V i else V false else V false else V false else V false else V false else V false else V false
theorem qsk{f:qE}{sinks}(a:Ro w f cs1){r:Bool}(F:qmi n f sinks=V r):RetV prog 204 [oV qE cs1,vi sinks] w r:=by
 obtain⟨_,_,_,_,_,_,_,_,rfl,d,s2,b,c⟩:=qaR a;refine zV 53 func204 Z fun h=>zSR (qw h Z Z fun _ _ h=>X1 6 0 h Z (zcI h F (qcQ ⟨_,_,rfl,(h.oldS d)⟩) Z fun _ _ h F=>X0 5 Z (zcB h F qaI Z fun _ _ h F=>zp1 Z (qn (t:=11) F Z ?_ ?_))))<;>intro F
 ·refine X1 5 0 h Z (zcI h F (qcQ ⟨_,_,rfl,(h.oldS s2)⟩) Z fun _ _ h F=>X0 6 Z (qn (t:=18) F Z ?_ ?_))<;>intro F
  ·refine X1 5 0 h Z (zcI h F (qcQ ⟨_,_,rfl,(h.oldS b)⟩) Z fun _ _ h F=>X0 6 Z (qn (t:=25) F Z ?_ ?_))<;>intro F
   ·refine X1 3 0 h Z (zcB h F (qpw (h.old a)) Z fun _ _ h F=>zp2 Z (qn (t:=29) F Z ?_ ?_))<;>intro F
    ·refine X1 5 0 h Z (zcB h F (qct ⟨_,_,rfl,(h.oldS s2)⟩) Z fun _ _ h F=>zp2 Z (qn (t:=34) F Z ?_ ?_))<;>intro F
     ·refine X1 5 0 h Z (zcB h F (qct ⟨_,_,rfl,(h.oldS b)⟩) Z fun _ _ h F=>zp2 Z (qn (t:=39) F Z ?_ ?_))<;>intro F
      ·refine X1 5 0 h Z (zcI h F (qcQ ⟨_,_,rfl,(h.oldS c)⟩) Z fun _ _ h F=>X0 6 Z (qn (t:=46) F Z ?_ ?_))<;>intro F
       ·exact X1 9 0 h Z (zcB h F (qct ⟨_,_,rfl,(h.oldS c)⟩) Z fun _ _ h F=>X0 3 Z (rb h F Z))
       exact X0 8 Z (rb h F Z)
      exact X0 15 Z (rb h F Z)
     exact X0 20 Z (rb h F Z)
    exact X0 25 Z (rb h F Z)
   exact X0 29 Z (rb h F Z)
  exact X0 36 Z (rb h F Z)
 exact X0 43 Z (rb h F Z)
def qfn(b:qh)(c:(List Int)):Nat->Int->Option (Flow Bool Int)|0,_=>U|n+1,a=>bif decide (a<(b.Ai.length:Int)) then(idx b.Ai a).bind fun f=>(idx c a).bind fun g=>(qmi n f g).bind fun d=>bif (!d) then V (.ret false) else qfn b c n (W64 (a+1)) else V (.nxt a)
def qdn(b:(List Tplace)):Nat->(List Int)->Int->Option ((List Int)×Int)|0,_,_=>U|n+1,a,i1=>bif decide (i1<(b.length:Int)) then(idx b i1).bind fun c=>bif (!c.drives) then(idx a c.net).bind fun d=>(idx a c.net).bind fun _=>qdn b n (setS a c.net (W64 (d+1))) (W64 (i1+1)) else qdn b n a (W64 (i1+1)) else V (a,i1)
def qjC(n:Nat)(b:qh):Option Bool:=((qkj n (⟨b.Au.Ay⟩:qp) (⟨b.Aa.Ab,b.Aa.As,b.Aa.Ak⟩:qd)).bind fun c=>bif (!c) then V true else V ((b.Ai.length:Int) != (b.Aa.As.length:Int))).bind fun b1=>bif b1 then V false else(mkS (b.Ai.length:Int) (0:Int)).bind fun x1=>(qcJ n (⟨b.Aa.Ab,b.Aa.As,b.Aa.Ak⟩:qd)).bind fun a=>(qdn a n x1 0).bind fun(d,_)=>(qfn b d n 0).bind fun|.ret r=>V r|.nxt _=>V true
theorem qrM{b:qh}(A:Ro w b cs1){r:Bool}(F:qjC n b=V r):RetV prog 153 [oV qh cs1] w r:=by
 obtain⟨p1,k1,p2,k2,p3,k3,p4,k4,p5,k5,rfl,s1,s2,s3,s4,s5⟩:=qaf A;refine zV 63 func153 Z fun h=>zSR (qw h Z Z fun _ a h=>X0 4 Z ?_);obtain⟨y,g,_,F,f⟩:=bindE F;refine qa0 (fun e w'=>∃b1,y b1=V r/\e=[(1,vp a),(23,.bool b1)]/\SH w w' [oX a (qa8 b p1 p2 p3 p4 p5 k1 k2 k3 k4 k5) 53]) ?_ ?_
 ·refine X2 5 0 0 h Z (zcB h F (qqZ (qeC _ (h.oldS s1)) (qaC _ (h.oldS s2) (h.oldS s3) (h.oldS s4))) Z fun _ _ h F=>zp2 Z (qn (t:=14) F Z ?_ ?_))<;>intro F
  ·refine X0 10 Z ?_;obtain rfl:=qb F;exact rG ⟨_,f,rfl,h⟩ Z
  refine X2 18 0 0 h Z ?_;obtain rfl:=qb F;exact rG ⟨_,f,rfl,h⟩ Z
 rintro _ _ ⟨b1,F,rfl,h⟩;subst g;refine qi Z F ?_ ?_<;>intro F
 ·exact X0 4 Z (rb h F Z)
 refine X1 6 0 h Z ?_;obtain⟨x1,c,F⟩:=qc F;obtain⟨g1,g2,c⟩:=qU c;refine qam qa Int h Z Z Z Z Z Z Z Z Z g1 g2 c Z fun _ S1 x h=>X1 7 1 h Z (zcL h F (qff (qaC _ (h.oldS s2) (h.oldS s3) (h.oldS s4))) Z fun u _ S2 p7 k6 h F=>X0 3 Z ?_);obtain⟨o1,F,z⟩:=qc F;refine qm (rL (fun m e w'=>∃v i1,qdn u m v i1=V o1/\e=[(1,vp a),(3,oS x x1.length x1.length),(30,oS p7 u.length k6),(31,vi (u.length:Int)),(32,vi i1)]/\SH w w' [oW S2 (u:List Tplace) [oS p7 u.length k6],oW S1 (v:List Int) [oS x x1.length x1.length],oX a (qa8 b p1 p2 p3 p4 p5 k1 k2 k3 k4 k5) 53]) n ⟨_,_,F,rfl,h⟩ Z ?_);rintro m1 _ _ ⟨v,i1,F,rfl,h⟩;rcases m1 with _|m1
 ·cases F
 refine X0 5 Z (qi Z F ?_ ?_)<;>intro F
 ·refine zKSBSR ?_;obtain⟨_,_,F,i,_,_,_,_,K,O,S,B⟩:=(h.sl 0 Z).1.ix F;obtain rfl:=qhT S;refine zx K O ⟨i.1,qC i.2.1 (h.sl 0 Z).2⟩ Z (zc 0 B Z (qq qa h Z Z Z fun _ _ h=>zs 0 h Z fun _ h=>X1 7 0 h Z (qi Z F ?_ ?_)))<;>intro F
  ·refine X1 4 0 h Z ?_;obtain⟨y2,_,F,k,_,_,_,_,L,P,rfl,C⟩:=(h.sl 2 Z).1.ix F;refine zx L P ⟨k.1,qC k.2.1 (h.sl 2 Z).2⟩ Z (zc 0 C Z (zp1 Z ?_));obtain⟨_,X,F,l,_,_,_,_,p,s,rfl,D⟩:=(h.sl 2 Z).1.ix F;refine zx p s ⟨l.1,qC l.2.1 (h.sl 2 Z).2⟩ Z (qax qa 2 0 (W64 (y2+1)) h Z X p s Z D Z Z Z Z Z Z Z fun _ h=>X0 6 Z ?_);replace h:=h.p [1,2,3] Z;exact rK ⟨_,_,F,rfl,h⟩ Z
  refine X0 6 Z ?_;replace h:=h.p [1,2,3] Z;exact rK ⟨_,_,F,rfl,h⟩ Z
 refine qt Z ?_;obtain rfl:=qb F;replace F:=z;refine X1 8 2 h Z ?_;obtain⟨o2,F,d⟩:=qc F;refine qm ?_;replace h:=h.p [1] Z;refine rL (fun m e w'=>∃Y,qfn b v m Y=V o2/\e=[(3,oS x x1.length x1.length),(48,oS p5 b.Ai.length k5),(49,vi (b.Ai.length:Int)),(50,vi Y)]/\SH w w' [oW S1 (v:List Int) [oS x x1.length x1.length]]) n ⟨_,F,rfl,h⟩ Z ?_;rintro m2 _ _ ⟨Y,F,rfl,h⟩;rcases m2 with _|m2
 ·cases F
 refine X0 5 Z (qi Z F ?_ ?_)<;>intro F
 ·refine X0 6 Z ?_;obtain⟨y4,_,F,J,_,_,_,_,M,Q,T,H⟩:=s5.ix F;obtain⟨_,_,_,_,_,_,_,_,rfl,s6,s7,s8,s9⟩:=qaR T;refine zxe M Q J Z (zc 0 (H.below h.below) Z (qq qa h Z Z Z fun _ _ h=>zp1 Z (zs 0 h Z fun _ h=>zNS (rD (Y1 1 0 h Z ?_)))));refine zd2 Z ?_;obtain⟨_,_,F,o,_,_,_,_,N,R,rfl,I⟩:=(h.sl 1 Z).1.ix F;refine zdx N R ⟨o.1,qC o.2.1 (h.sl 1 Z).2⟩ Z (zdc 0 I Z ?_);obtain⟨r2,W,F⟩:=qc F;refine qa5 r2 (vsB _) (cB 204 Z) (fun _ hb=>qsk (qlz y4 ((h.ext hb).oldS s6) ((h.ext hb).oldS s7) ((h.ext hb).oldS s8) ((h.ext hb).oldS s9)) W) Z Z Z Z (zd1 Z (dN h fun _ h=>qi Z F ?_ ?_))<;>intro F
  ·refine X0 4 Z ?_;obtain rfl:=qb F;replace F:=d;exact rb h F Z
  refine X0 6 Z ?_;replace h:=h.p [1] Z;exact rK ⟨_,F,rfl,h⟩ Z
 refine qt Z ?_;obtain rfl:=qb F;replace F:=d;exact X0 4 Z (rb h F Z)
end Go.Fw


namespace Go.Fw
open Go
def qa7(a:(List Int)):Nat:=a.length
theorem qeI{a:(List Int)}(h:(rngL rngI) a)(w:qa7 a<=1048576):(okL okI) a:=
 ⟨by simp only[qa7] at w;omega,fun x b=>h.2 x b⟩
def qja(x:qy):Prop:=(rngL rngI) x.Bo/\(rngL rngI) x.Bk/\(rngL rngI) x.Bj
def qex(x:qy):Nat:=qa7 x.Bo+qa7 x.Bk+qa7 x.Bj
structure qjO(x:qy):Prop where
 Bo:(okL okI) x.Bo
 Bk:(okL okI) x.Bk
 Bj:(okL okI) x.Bj
theorem qxf{x:qy}(h:qja x)(w:qex x<=1048576):qjO x:=⟨qeI (h.1) (by simp only[qex] at w;omega),qeI (h.2.1) (by simp only[qex] at w;omega),qeI (h.2.2) (by simp only[qex] at w;omega)⟩
def qdw(a:(List qy)):Nat:=a.length+(a.map fun x=>qex x).sum
theorem qrn{a:(List qy)}(h:(rngL qja) a)(w:qdw a<=1048576):(okL qjO) a:=
 ⟨by simp only[qdw] at w;omega,fun x b=>qxf (h.2 x b) (by have:=qcY (wt:=fun x:qy=>qex x) b;simp only[qdw] at w;omega)⟩
def qnA(x:qJ):Prop:=rngI x.Bi/\rngI x.Bm/\rngI x.To/\rngI x.Br/\(rngL qja) x.Bp/\(rngL qja) x.Be
def qjS(x:qJ):Nat:=qdw x.Bp+qdw x.Be
structure qpU(x:qJ):Prop where
 Bi:okI x.Bi
 Bm:okI x.Bm
 To:okI x.To
 Br:okI x.Br
 Bp:(okL qjO) x.Bp
 Be:(okL qjO) x.Be
theorem qz7{x:qJ}(h:qnA x)(w:qjS x<=1048576):qpU x:=⟨h.1,h.2.1,h.2.2.1,h.2.2.2.1,qrn (h.2.2.2.2.1) (by simp only[qjS] at w;omega),qrn (h.2.2.2.2.2) (by simp only[qjS] at w;omega)⟩
theorem qgA{a:(List Int)}(h:qa7 a<=1048576):Ev (fun n=>qbB n a a) true:=by
 have f:a.length<=1048576:=by simp only[qa7] at h;omega
 unfold qbB;exact Ev.ff (by simp) (Ev.bind (b:=.nxt (a.length:Int)) (qkf (eqf:=fun _ x y=>V (!(x != y))) (fun x _=>Ev.now (by simp))
  (fun n=>by simp only[qgg,qk (je _),cond_false])
  (fun n j x c=>by
   have d:=(List.getElem?_eq_some_iff.1 c).1;simp only[qgg,qj d,cond_true,qas c,jd,Bool.not_not,wS j])) .done)
theorem qzn{a:qy}(h:qex a<=1048576):Ev (fun n=>qjs n a a) true:=by
 unfold qjs;simp only[qex] at h;exact Ev.bind (qgA (a:=a.Bo) (by omega)) (Ev.ff Z (Ev.bind (qgA (a:=a.Bk) (by omega)) (Ev.ff Z (Ev.bind (qgA (a:=a.Bj) (by omega)) (Ev.ff Z (.done))))))
theorem qtX{a:(List qy)}(h:qdw a<=1048576):Ev (fun n=>qix n a a) true:=by
 have f:a.length<=1048576:=by simp only[qdw] at h;omega
 unfold qix;exact Ev.ff (by simp) (Ev.bind (b:=.nxt (a.length:Int)) (qkf (eqf:=qjs) (fun x c=>qzn (by have:=qcY (wt:=fun x:qy=>qex x) c;simp only[qdw] at h;omega))
  (fun n=>by simp only[qgl,qk (je _),cond_false])
  (fun n j x c=>by
   have d:=(List.getElem?_eq_some_iff.1 c).1;simp only[qgl,qj d,cond_true,qas c,jd,wS j])) .done)
theorem qB3{a:qJ}(h:qjS a<=1048576):Ev (fun n=>qlZ n a a) true:=by
 unfold qlZ;simp only[qjS] at h;exact Ev.ff qaJ (Ev.ff qaJ (Ev.ff qaJ (Ev.ff qaJ (Ev.bind (qtX (a:=a.Bp) (by omega)) (Ev.ff Z (Ev.bind (qtX (a:=a.Be) (by omega)) (Ev.ff Z (.done))))))))
def qin(a:(List qJ)):Nat:=a.length+(a.map fun x=>qjS x).sum
theorem qyS{a:(List qJ)}(h:(rngL qnA) a)(w:qin a<=1048576):(okL qpU) a:=
 ⟨by simp only[qin] at w;omega,fun x b=>qz7 (h.2 x b) (by have:=qcY (wt:=fun x:qJ=>qjS x) b;simp only[qin] at w;omega)⟩
theorem qAT{a:(List qJ)}(h:qin a<=1048576):Ev (fun n=>qmB n a a) true:=by
 have f:a.length<=1048576:=by simp only[qin] at h;omega
 unfold qmB;exact Ev.ff (by simp) (Ev.bind (b:=.nxt (a.length:Int)) (qkf (eqf:=qlZ) (fun x c=>qB3 (by have:=qcY (wt:=fun x:qJ=>qjS x) c;simp only[qin] at h;omega))
  (fun n=>by simp only[qhP,qk (je _),cond_false])
  (fun n j x c=>by
   have d:=(List.getElem?_eq_some_iff.1 c).1;simp only[qhP,qj d,cond_true,qas c,jd,wS j])) .done)
def qnJ(x:qal):Prop:=rngS x.Bd/\rngI x.Bx/\rngI x.Bu/\rngB x.Bt
def qlS(x:qal):Nat:=x.Bd.size
structure qok(x:qal):Prop where
 Bd:okS x.Bd
 Bx:okI x.Bx
 Bu:okI x.Bu
 Bt:okT x.Bt
theorem qzv{x:qal}(h:qnJ x)(w:qlS x<=1048576):qok x:=⟨(by unfold okS;simp only[qlS] at w;omega),h.2.1,h.2.2.1,G⟩
def qiq(a:(List qal)):Nat:=a.length+(a.map fun x=>qlS x).sum
theorem qyW{a:(List qal)}(h:(rngL qnJ) a)(w:qiq a<=1048576):(okL qok) a:=
 ⟨by simp only[qiq] at w;omega,fun x b=>qzv (h.2 x b) (by have:=qcY (wt:=fun x:qal=>qlS x) b;simp only[qiq] at w;omega)⟩
def qlP(x:qz):Prop:=rngS x.Bd/\rngI x.Bi/\(rngL qnJ) x.Bh/\(rngL qnA) x.Bc/\(rngL rngI) x.Bq/\rngI x.Cc/\rngI x.Bw
def qgj(x:qz):Nat:=x.Bd.size+qiq x.Bh+qin x.Bc+qa7 x.Bq
structure qo8(x:qz):Prop where
 Bd:okS x.Bd
 Bi:okI x.Bi
 Bh:(okL qok) x.Bh
 Bc:(okL qpU) x.Bc
 Bq:(okL okI) x.Bq
 Cc:okI x.Cc
 Bw:okI x.Bw
theorem qyz{x:qz}(h:qlP x)(w:qgj x<=1048576):qo8 x:=⟨(by unfold okS;simp only[qgj] at w;omega),h.2.1,qyW (h.2.2.1) (by simp only[qgj] at w;omega),qyS (h.2.2.2.1) (by simp only[qgj] at w;omega),qeI (h.2.2.2.2.1) (by simp only[qgj] at w;omega),h.2.2.2.2.2.1,h.2.2.2.2.2.2⟩
def qgR(a:(List qz)):Nat:=a.length+(a.map fun x=>qgj x).sum
theorem qwT{a:(List qz)}(h:(rngL qlP) a)(w:qgR a<=1048576):(okL qo8) a:=
 ⟨by simp only[qgR] at w;omega,fun x b=>qyz (h.2 x b) (by have:=qcY (wt:=fun x:qz=>qgj x) b;simp only[qgR] at w;omega)⟩
def qmC(x:qp):Prop:=(rngL qlP) x.Ay
def qeR(x:qp):Nat:=qgR x.Ay
structure qi2(x:qp):Prop where
 Ay:(okL qo8) x.Ay
theorem quP{x:qp}(h:qmC x)(w:qeR x<=1048576):qi2 x:=⟨qwT (h) (by simp only[qeR] at w;omega)⟩
def qgL(x:ql):Prop:=rngS x.Bd/\rngI x.Bv/\(rngL rngI) x.As
def qbR(x:ql):Nat:=x.Bd.size+qa7 x.As
structure qoH(x:ql):Prop where
 Bd:okS x.Bd
 Bv:okI x.Bv
 As:(okL okI) x.As
theorem qtw{x:ql}(h:qgL x)(w:qbR x<=1048576):qoH x:=⟨(by unfold okS;simp only[qbR] at w;omega),h.2.1,qeI (h.2.2) (by simp only[qbR] at w;omega)⟩
def qb3(a:(List ql)):Nat:=a.length+(a.map fun x=>qbR x).sum
theorem qta{a:(List ql)}(h:(rngL qgL) a)(w:qb3 a<=1048576):(okL qoH) a:=
 ⟨by simp only[qb3] at w;omega,fun x b=>qtw (h.2 x b) (by have:=qcY (wt:=fun x:ql=>qbR x) b;simp only[qb3] at w;omega)⟩
def qeM(a:(List ByteArray)):Nat:=a.length+(a.map fun x=>x.size).sum
theorem quW{a:(List ByteArray)}(_:(rngL rngS) a)(w:qeM a<=1048576):(okL okS) a:=
 ⟨by simp only[qeM] at w;omega,fun x b=>(by unfold okS;have:=qcY (wt:=fun x:ByteArray=>x.size) b;simp only[qeM] at w;omega)⟩
def qlR(x:qR):Prop:=rngS x.Bd/\rngI x.Bx/\rngI x.Ca
def qi4(x:qR):Nat:=x.Bd.size
structure qux(x:qR):Prop where
 Bd:okS x.Bd
 Bx:okI x.Bx
 Ca:okI x.Ca
theorem qyF{x:qR}(h:qlR x)(w:qi4 x<=1048576):qux x:=⟨(by unfold okS;simp only[qi4] at w;omega),h.2.1,h.2.2⟩
def qgE(a:(List qR)):Nat:=a.length+(a.map fun x=>qi4 x).sum
theorem qwt{a:(List qR)}(h:(rngL qlR) a)(w:qgE a<=1048576):(okL qux) a:=
 ⟨by simp only[qgE] at w;omega,fun x b=>qyF (h.2 x b) (by have:=qcY (wt:=fun x:qR=>qi4 x) b;simp only[qgE] at w;omega)⟩
def qn0(x:qd):Prop:=(rngL qgL) x.Ab/\(rngL rngS) x.As/\(rngL qlR) x.Ak
def qfd(x:qd):Nat:=qb3 x.Ab+qeM x.As+qgE x.Ak
structure qlE(x:qd):Prop where
 Ab:(okL qoH) x.Ab
 As:(okL okS) x.As
 Ak:(okL qux) x.Ak
theorem qv2{x:qd}(h:qn0 x)(w:qfd x<=1048576):qlE x:=⟨qta (h.1) (by simp only[qfd] at w;omega),quW (h.2.1) (by simp only[qfd] at w;omega),qwt (h.2.2) (by simp only[qfd] at w;omega)⟩
def ql0(x:qE):Prop:=(rngL rngI) x.Az/\(rngL rngI) x.Bz/\(rngL rngI) x.Bu/\(rngL rngI) x.Bn
def qf7(x:qE):Nat:=qa7 x.Az+qa7 x.Bz+qa7 x.Bu+qa7 x.Bn
structure qqg(x:qE):Prop where
 Az:(okL okI) x.Az
 Bz:(okL okI) x.Bz
 Bu:(okL okI) x.Bu
 Bn:(okL okI) x.Bn
theorem qyf{x:qE}(h:ql0 x)(w:qf7 x<=1048576):qqg x:=⟨qeI (h.1) (by simp only[qf7] at w;omega),qeI (h.2.1) (by simp only[qf7] at w;omega),qeI (h.2.2.1) (by simp only[qf7] at w;omega),qeI (h.2.2.2) (by simp only[qf7] at w;omega)⟩
def qgM(a:(List qE)):Nat:=a.length+(a.map fun x=>qf7 x).sum
theorem qwB{a:(List qE)}(h:(rngL ql0) a)(w:qgM a<=1048576):(okL qqg) a:=
 ⟨by simp only[qgM] at w;omega,fun x b=>qyf (h.2 x b) (by have:=qcY (wt:=fun x:qE=>qf7 x) b;simp only[qgM] at w;omega)⟩
def qph(x:qh):Prop:=qmC x.Au/\qn0 x.Aa/\(rngL ql0) x.Ai
def qgQ(x:qh):Nat:=qeR x.Au+qfd x.Aa+qgM x.Ai
structure qm0(x:qh):Prop where
 Au:qi2 x.Au
 Aa:qlE x.Aa
 Ai:(okL qqg) x.Ai
theorem qxk{x:qh}(h:qph x)(w:qgQ x<=1048576):qm0 x:=⟨quP (h.1) (by simp only[qgQ] at w;omega),qv2 (h.2.1) (by simp only[qgQ] at w;omega),qwB (h.2.2) (by simp only[qgQ] at w;omega)⟩
theorem qBM{a:qal}(_:qlS a<=1048576):Ev (fun n=>ql2 n a a) true:=by
 unfold ql2;exact Ev.ff qjM (Ev.ff qaJ (Ev.ff qaJ (Ev.ff quS (.done))))
theorem qAv{a:(List qal)}(h:qiq a<=1048576):Ev (fun n=>qms n a a) true:=by
 have f:a.length<=1048576:=by simp only[qiq] at h;omega
 unfold qms;exact Ev.ff (by simp) (Ev.bind (b:=.nxt (a.length:Int)) (qkf (eqf:=ql2) (fun x c=>qBM (by have:=qcY (wt:=fun x:qal=>qlS x) c;simp only[qiq] at h;omega))
  (fun n=>by simp only[qhK,qk (je _),cond_false])
  (fun n j x c=>by
   have d:=(List.getElem?_eq_some_iff.1 c).1;simp only[qhK,qj d,cond_true,qas c,jd,wS j])) .done)
theorem qBa{a:qz}(h:qgj a<=1048576):Ev (fun n=>qkS n a a) true:=by
 unfold qkS;simp only[qgj] at h;exact Ev.ff qjM (Ev.ff qaJ (Ev.bind (qAv (a:=a.Bh) (by omega)) (Ev.ff Z (Ev.bind (qAT (a:=a.Bc) (by omega)) (Ev.ff Z (Ev.bind (qgA (a:=a.Bq) (by omega)) (Ev.ff Z (Ev.ff qaJ (Ev.ff qaJ (.done))))))))))
theorem qzi{a:(List qz)}(h:qgR a<=1048576):Ev (fun n=>qlt n a a) true:=by
 have f:a.length<=1048576:=by simp only[qgR] at h;omega
 unfold qlt;exact Ev.ff (by simp) (Ev.bind (b:=.nxt (a.length:Int)) (qkf (eqf:=qkS) (fun x c=>qBa (by have:=qcY (wt:=fun x:qz=>qgj x) c;simp only[qgR] at h;omega))
  (fun n=>by simp only[qg8,qk (je _),cond_false])
  (fun n j x c=>by
   have d:=(List.getElem?_eq_some_iff.1 c).1;simp only[qg8,qj d,cond_true,qas c,jd,wS j])) .done)
theorem qxu{a:qp}(h:qeR a<=1048576):Ev (fun n=>qjq n a a) true:=by
 unfold qjq;simp only[qeR] at h;exact Ev.bind (qzi (a:=a.Ay) (by omega)) (Ev.ff Z (.done))
theorem qvm{a:ql}(h:qbR a<=1048576):Ev (fun n=>qgW n a a) true:=by
 unfold qgW;simp only[qbR] at h;exact Ev.ff qjM (Ev.ff qaJ (Ev.bind (qgA (a:=a.As) (by omega)) (Ev.ff Z (.done))))
theorem qu5{a:(List ql)}(h:qb3 a<=1048576):Ev (fun n=>qie n a a) true:=by
 have f:a.length<=1048576:=by simp only[qb3] at h;omega
 unfold qie;exact Ev.ff (by simp) (Ev.bind (b:=.nxt (a.length:Int)) (qkf (eqf:=qgW) (fun x c=>qvm (by have:=qcY (wt:=fun x:ql=>qbR x) c;simp only[qb3] at h;omega))
  (fun n=>by simp only[qet,qk (je _),cond_false])
  (fun n j x c=>by
   have d:=(List.getElem?_eq_some_iff.1 c).1;simp only[qet,qj d,cond_true,qas c,jd,wS j])) .done)
theorem qwu{a:(List ByteArray)}(h:qeM a<=1048576):Ev (fun n=>qjg n a a) true:=by
 have f:a.length<=1048576:=by simp only[qeM] at h;omega
 unfold qjg;exact Ev.ff (by simp) (Ev.bind (b:=.nxt (a.length:Int)) (qkf (eqf:=fun _ x y=>V (!(x.toList != y.toList))) (fun x _=>Ev.now (by simp))
  (fun n=>by simp only[qfM,qk (je _),cond_false])
  (fun n j x c=>by
   have d:=(List.getElem?_eq_some_iff.1 c).1;simp only[qfM,qj d,cond_true,qas c,jd,Bool.not_not,wS j])) .done)
theorem qA4{a:qR}(_:qi4 a<=1048576):Ev (fun n=>qkA n a a) true:=by
 unfold qkA;exact Ev.ff qjM (Ev.ff qaJ (Ev.ff qaJ (.done)))
theorem qzq{a:(List qR)}(h:qgE a<=1048576):Ev (fun n=>qlm n a a) true:=by
 have f:a.length<=1048576:=by simp only[qgE] at h;omega
 unfold qlm;exact Ev.ff (by simp) (Ev.bind (b:=.nxt (a.length:Int)) (qkf (eqf:=qkA) (fun x c=>qA4 (by have:=qcY (wt:=fun x:qR=>qi4 x) c;simp only[qgE] at h;omega))
  (fun n=>by simp only[qgY,qk (je _),cond_false])
  (fun n j x c=>by
   have d:=(List.getElem?_eq_some_iff.1 c).1;simp only[qgY,qj d,cond_true,qas c,jd,wS j])) .done)
theorem qyX{a:qd}(h:qfd a<=1048576):Ev (fun n=>qkq n a a) true:=by
 unfold qkq;simp only[qfd] at h;exact Ev.bind (qu5 (a:=a.Ab) (by omega)) (Ev.ff Z (Ev.bind (qwu (a:=a.As) (by omega)) (Ev.ff Z (Ev.bind (qzq (a:=a.Ak) (by omega)) (Ev.ff Z (.done))))))
theorem qAU{a:qE}(h:qf7 a<=1048576):Ev (fun n=>qkI n a a) true:=by
 unfold qkI;simp only[qf7] at h;exact Ev.bind (qgA (a:=a.Az) (by omega)) (Ev.ff Z (Ev.bind (qgA (a:=a.Bz) (by omega)) (Ev.ff Z (Ev.bind (qgA (a:=a.Bu) (by omega)) (Ev.ff Z (Ev.bind (qgA (a:=a.Bn) (by omega)) (Ev.ff Z (.done))))))))
theorem qAa{a:(List qE)}(h:qgM a<=1048576):Ev (fun n=>qlf n a a) true:=by
 have f:a.length<=1048576:=by simp only[qgM] at h;omega
 unfold qlf;exact Ev.ff (by simp) (Ev.bind (b:=.nxt (a.length:Int)) (qkf (eqf:=qkI) (fun x c=>qAU (by have:=qcY (wt:=fun x:qE=>qf7 x) c;simp only[qgM] at h;omega))
  (fun n=>by simp only[qg3,qk (je _),cond_false])
  (fun n j x c=>by
   have d:=(List.getElem?_eq_some_iff.1 c).1;simp only[qg3,qj d,cond_true,qas c,jd,wS j])) .done)
theorem qAp{a:qh}(h:qgQ a<=1048576):Ev (fun n=>qk8 n a a) true:=by
 unfold qk8;simp only[qgQ] at h;exact Ev.bind (qxu (a:=a.Au) (by omega)) (Ev.ff Z (Ev.bind (qyX (a:=a.Aa) (by omega)) (Ev.ff Z (Ev.bind (qAa (a:=a.Ai) (by omega)) (Ev.ff Z (.done))))))
theorem qhd{a:(List Int)}{left:Int}(h:(rngL rngI) a)(b:0<=left)(c:left<=1048576):Sz (fun n=>qcc n a left) (fun r=>r=left-(qa7 a:Int)):=
 Sz.less b c (by omega) (by have:=h.1;omega) (fun _=>rfl)
theorem qAs{a:qy}{left:Int}(h:qja a)(g:0<=left)(i:left<=1048576):Sz (fun n=>qjc n a left) (fun r=>r=left-(qex a:Int)):=by
 unfold qjc;obtain⟨b,c,d⟩:=h;exact Sz.step (qhd (a:=a.Bo) b (by omega) (by omega)) fun s k m=>Sz.step (qhd (a:=a.Bk) c (by omega) (by omega)) fun t l o=>Sz.step (qhd (a:=a.Bj) d (by omega) (by omega)) fun u f p=>Sz.done f (by simp only[qex];omega)
theorem qul{a:(List qy)}{left:Int}(h:(rngL qja) a)(d:0<=left)(f:left<=1048576):Sz (fun n=>qkn n a left) (fun r=>r=left-(qdw a:Int)):=
 Sz.list (Lf:=qeY a) (wt:=fun x:qy=>qex x) (el:=qjc) d f h.1 (fun x b left p q=>qAs (h.2 x b) p q)
  (fun c n=>by simp only[qeY,qk (je _),cond_false])
  (fun c n j x b=>by
   have g:=(List.getElem?_eq_some_iff.1 b).1;have i:=h.1;simp only[qeY,qj g,cond_true,qas b,jd,wS j])
  (fun _=>rfl)
theorem qCh{a:qJ}{left:Int}(h:qnA a)(l:0<=left)(m:left<=1048576):Sz (fun n=>qlL n a left) (fun r=>r=left-(qjS a:Int)):=by
 unfold qlL;obtain⟨d,f,g,i,b,c⟩:=h;exact Sz.step (qul (a:=a.Bp) b (by omega) (by omega)) fun t o p=>Sz.step (qul (a:=a.Be) c (by omega) (by omega)) fun u k s=>Sz.done k (by simp only[qjS];omega)
theorem qBs{a:(List qJ)}{left:Int}(h:(rngL qnA) a)(d:0<=left)(f:left<=1048576):Sz (fun n=>qoD n a left) (fun r=>r=left-(qin a:Int)):=
 Sz.list (Lf:=qgx a) (wt:=fun x:qJ=>qjS x) (el:=qlL) d f h.1 (fun x b left p q=>qCh (h.2 x b) p q)
  (fun c n=>by simp only[qgx,qk (je _),cond_false])
  (fun c n j x b=>by
   have g:=(List.getElem?_eq_some_iff.1 b).1;have i:=h.1;simp only[qgx,qj g,cond_true,qas b,jd,wS j])
  (fun _=>rfl)
theorem qB2{a:qal}{left:Int}(h:qnJ a)(i:0<=left)(k:left<=1048576):Sz (fun n=>ql6 n a left) (fun r=>r=left-(qlS a:Int)):=by
 unfold ql6;obtain⟨b,c,d,f⟩:=h;exact Sz.strStep b (by omega) (by omega) fun g l=>Sz.done g (by simp only[qlS];omega)
theorem qBp{a:(List qal)}{left:Int}(h:(rngL qnJ) a)(d:0<=left)(f:left<=1048576):Sz (fun n=>qoR n a left) (fun r=>r=left-(qiq a:Int)):=
 Sz.list (Lf:=qgh a) (wt:=fun x:qal=>qlS x) (el:=ql6) d f h.1 (fun x b left p q=>qB2 (h.2 x b) p q)
  (fun c n=>by simp only[qgh,qk (je _),cond_false])
  (fun c n j x b=>by
   have g:=(List.getElem?_eq_some_iff.1 b).1;have i:=h.1;simp only[qgh,qj g,cond_true,qas b,jd,wS j])
  (fun _=>rfl)
theorem qAF{a:qz}{left:Int}(h:qlP a)(m:0<=left)(o:left<=1048576):Sz (fun n=>qkM n a left) (fun r=>r=left-(qgj a:Int)):=by
 unfold qkM;obtain⟨b,g,c,d,f,i,k⟩:=h;exact Sz.strStep b (by omega) (by omega) fun p u=>Sz.step (qBp (a:=a.Bh) c (by omega) (by omega)) fun z s v=>Sz.step (qBs (a:=a.Bc) d (by omega) (by omega)) fun A t x=>Sz.step (qhd (a:=a.Bq) f (by omega) (by omega)) fun B l y=>Sz.done l (by simp only[qgj];omega)
theorem qz6{a:(List qz)}{left:Int}(h:(rngL qlP) a)(d:0<=left)(f:left<=1048576):Sz (fun n=>qnQ n a left) (fun r=>r=left-(qgR a:Int)):=
 Sz.list (Lf:=qfr a) (wt:=fun x:qz=>qgj x) (el:=qkM) d f h.1 (fun x b left p q=>qAF (h.2 x b) p q)
  (fun c n=>by simp only[qfr,qk (je _),cond_false])
  (fun c n j x b=>by
   have g:=(List.getElem?_eq_some_iff.1 b).1;have i:=h.1;simp only[qfr,qj g,cond_true,qas b,jd,wS j])
  (fun _=>rfl)
theorem qw7{a:qp}{left:Int}(h:qmC a)(d:0<=left)(f:left<=1048576):Sz (fun n=>qjd n a left) (fun r=>r=left-(qeR a:Int)):=by
 unfold qjd;have b:=h;exact Sz.step (qz6 (a:=a.Ay) b (by omega) (by omega)) fun i c g=>Sz.done c (by simp only[qeR];omega)
theorem qvQ{a:ql}{left:Int}(h:qgL a)(g:0<=left)(i:left<=1048576):Sz (fun n=>qg5 n a left) (fun r=>r=left-(qbR a:Int)):=by
 unfold qg5;obtain⟨b,d,c⟩:=h;exact Sz.strStep b (by omega) (by omega) fun k l=>Sz.step (qhd (a:=a.As) c (by omega) (by omega)) fun o f m=>Sz.done f (by simp only[qbR];omega)
theorem quA{a:(List ql)}{left:Int}(h:(rngL qgL) a)(d:0<=left)(f:left<=1048576):Sz (fun n=>qjZ n a left) (fun r=>r=left-(qb3 a:Int)):=
 Sz.list (Lf:=qde a) (wt:=fun x:ql=>qbR x) (el:=qg5) d f h.1 (fun x b left p q=>qvQ (h.2 x b) p q)
  (fun c n=>by simp only[qde,qk (je _),cond_false])
  (fun c n j x b=>by
   have g:=(List.getElem?_eq_some_iff.1 b).1;have i:=h.1;simp only[qde,qj g,cond_true,qas b,jd,wS j])
  (fun _=>rfl)
theorem qwE{a:(List ByteArray)}{left:Int}(h:(rngL rngS) a)(d:0<=left)(f:left<=1048576):Sz (fun n=>qlH n a left) (fun r=>r=left-(qeM a:Int)):=
 Sz.list (Lf:=qef a) (wt:=fun x:ByteArray=>x.size) (el:=fun _ (x:ByteArray) b=>V (W64 (b-(x.size:Int)))) d f h.1 (fun x c left p q=>Sz.str (h.2 x c) p q)
  (fun b n=>by simp only[qef,qk (je _),cond_false])
  (fun b n j x c=>by
   have g:=(List.getElem?_eq_some_iff.1 c).1;have i:=h.1;simp only[qef,qj g,cond_true,qas c,jd,wS j])
  (fun _=>rfl)
theorem qA9{a:qR}{left:Int}(h:qlR a)(g:0<=left)(i:left<=1048576):Sz (fun n=>qkR n a left) (fun r=>r=left-(qi4 a:Int)):=by
 unfold qkR;obtain⟨b,c,d⟩:=h;exact Sz.strStep b (by omega) (by omega) fun f k=>Sz.done f (by simp only[qi4];omega)
theorem qAi{a:(List qR)}{left:Int}(h:(rngL qlR) a)(d:0<=left)(f:left<=1048576):Sz (fun n=>qnI n a left) (fun r=>r=left-(qgE a:Int)):=
 Sz.list (Lf:=qfu a) (wt:=fun x:qR=>qi4 x) (el:=qkR) d f h.1 (fun x b left p q=>qA9 (h.2 x b) p q)
  (fun c n=>by simp only[qfu,qk (je _),cond_false])
  (fun c n j x b=>by
   have g:=(List.getElem?_eq_some_iff.1 b).1;have i:=h.1;simp only[qfu,qj g,cond_true,qas b,jd,wS j])
  (fun _=>rfl)
theorem qyd{a:qd}{left:Int}(h:qn0 a)(g:0<=left)(i:left<=1048576):Sz (fun n=>qko n a left) (fun r=>r=left-(qfd a:Int)):=by
 unfold qko;obtain⟨b,c,d⟩:=h;exact Sz.step (quA (a:=a.Ab) b (by omega) (by omega)) fun s k m=>Sz.step (qwE (a:=a.As) c (by omega) (by omega)) fun t l o=>Sz.step (qAi (a:=a.Ak) d (by omega) (by omega)) fun u f p=>Sz.done f (by simp only[qfd];omega)
theorem qAX{a:qE}{left:Int}(h:ql0 a)(i:0<=left)(k:left<=1048576):Sz (fun n=>qkF n a left) (fun r=>r=left-(qf7 a:Int)):=by
 unfold qkF;obtain⟨b,c,d,f⟩:=h;exact Sz.step (qhd (a:=a.Az) b (by omega) (by omega)) fun v l p=>Sz.step (qhd (a:=a.Bz) c (by omega) (by omega)) fun x m s=>Sz.step (qhd (a:=a.Bu) d (by omega) (by omega)) fun y o t=>Sz.step (qhd (a:=a.Bn) f (by omega) (by omega)) fun z g u=>Sz.done g (by simp only[qf7];omega)
theorem qzB{a:(List qE)}{left:Int}(h:(rngL ql0) a)(d:0<=left)(f:left<=1048576):Sz (fun n=>qnM n a left) (fun r=>r=left-(qgM a:Int)):=
 Sz.list (Lf:=qfq a) (wt:=fun x:qE=>qf7 x) (el:=qkF) d f h.1 (fun x b left p q=>qAX (h.2 x b) p q)
  (fun c n=>by simp only[qfq,qk (je _),cond_false])
  (fun c n j x b=>by
   have g:=(List.getElem?_eq_some_iff.1 b).1;have i:=h.1;simp only[qfq,qj g,cond_true,qas b,jd,wS j])
  (fun _=>rfl)
theorem qzS{a:qh}{left:Int}(h:qph a)(g:0<=left)(i:left<=1048576):Sz (fun n=>qlv n a left) (fun r=>r=left-(qgQ a:Int)):=by
 unfold qlv;obtain⟨b,c,d⟩:=h;exact Sz.step (qw7 (a:=a.Au) b (by omega) (by omega)) fun s k m=>Sz.step (qyd (a:=a.Aa) c (by omega) (by omega)) fun t l o=>Sz.step (qzB (a:=a.Ai) d (by omega) (by omega)) fun u f p=>Sz.done f (by simp only[qgQ];omega)
theorem qhe{a:(List Int)}(h:qa7 a<=1048576):Ev (fun n=>qbP n a) a:=by
 have i:a.length<=1048576:=by simp only[qa7] at h;omega
 unfold qbP;exact Ev.bindN (qjo (by omega)) (Ev.bind (b:=(a,(a.length:Int))) (qks (cp:=fun _ x=>V x) (fun _ _=>.done)
  (fun c n=>by simp only[qgc,qk (je _),cond_false])
  (fun c n j x y d g=>by
   have f:=(List.getElem?_eq_some_iff.1 d).1;simp only[qgc,qj f,cond_true,qas d,qas g,jd,wS j])) .done)
theorem qzm{a:qy}(h:qex a<=1048576):Ev (fun n=>qjA n a) a:=by
 unfold qjA;simp only[qex] at h;exact Ev.bind (qhe (a:=a.Bo) (by omega)) (Ev.bind (qhe (a:=a.Bk) (by omega)) (Ev.bind (qhe (a:=a.Bj) (by omega)) (.done)))
theorem qtN{a:(List qy)}(h:qdw a<=1048576):Ev (fun n=>qit n a) a:=by
 have i:a.length<=1048576:=by simp only[qdw] at h;omega
 unfold qit;exact Ev.bindN (qjo (by omega)) (Ev.bind (b:=(a,(a.length:Int))) (qks (cp:=qjA) (fun x c=>qzm (by have:=qcY (wt:=fun x:qy=>qex x) c;simp only[qdw] at h;omega))
  (fun d n=>by simp only[qgz,qk (je _),cond_false])
  (fun d n j x y c g=>by
   have f:=(List.getElem?_eq_some_iff.1 c).1;simp only[qgz,qj f,cond_true,qas c,qas g,jd,wS j])) .done)
theorem qB8{a:qJ}(h:qjS a<=1048576):Ev (fun n=>qlX n a) a:=by
 unfold qlX;simp only[qjS] at h;exact Ev.bind (qtN (a:=a.Bp) (by omega)) (Ev.bind (qtN (a:=a.Be) (by omega)) (.done))
theorem qBu{a:(List qJ)}(h:qin a<=1048576):Ev (fun n=>qmo n a) a:=by
 have i:a.length<=1048576:=by simp only[qin] at h;omega
 unfold qmo;exact Ev.bindN (qjo (by omega)) (Ev.bind (b:=(a,(a.length:Int))) (qks (cp:=qlX) (fun x c=>qB8 (by have:=qcY (wt:=fun x:qJ=>qjS x) c;simp only[qin] at h;omega))
  (fun d n=>by simp only[qhE,qk (je _),cond_false])
  (fun d n j x y c g=>by
   have f:=(List.getElem?_eq_some_iff.1 c).1;simp only[qhE,qj f,cond_true,qas c,qas g,jd,wS j])) .done)
theorem qCg{a:qal}(_:qlS a<=1048576):Ev (fun n=>qlW n a) a:=by
 unfold qlW;exact .done
theorem qBk{a:(List qal)}(h:qiq a<=1048576):Ev (fun n=>qmr n a) a:=by
 have i:a.length<=1048576:=by simp only[qiq] at h;omega
 unfold qmr;exact Ev.bindN (qjo (by omega)) (Ev.bind (b:=(a,(a.length:Int))) (qks (cp:=qlW) (fun x c=>qCg (by have:=qcY (wt:=fun x:qal=>qlS x) c;simp only[qiq] at h;omega))
  (fun d n=>by simp only[qhQ,qk (je _),cond_false])
  (fun d n j x y c g=>by
   have f:=(List.getElem?_eq_some_iff.1 c).1;simp only[qhQ,qj f,cond_true,qas c,qas g,jd,wS j])) .done)
theorem qA1{a:qz}(h:qgj a<=1048576):Ev (fun n=>qkW n a) a:=by
 unfold qkW;simp only[qgj] at h;exact Ev.bind (qBk (a:=a.Bh) (by omega)) (Ev.bind (qBu (a:=a.Bc) (by omega)) (Ev.bind (qhe (a:=a.Bq) (by omega)) (.done)))
theorem qzC{a:(List qz)}(h:qgR a<=1048576):Ev (fun n=>qll n a) a:=by
 have i:a.length<=1048576:=by simp only[qgR] at h;omega
 unfold qll;exact Ev.bindN (qjo (by omega)) (Ev.bind (b:=(a,(a.length:Int))) (qks (cp:=qkW) (fun x c=>qA1 (by have:=qcY (wt:=fun x:qz=>qgj x) c;simp only[qgR] at h;omega))
  (fun d n=>by simp only[qg7,qk (je _),cond_false])
  (fun d n j x y c g=>by
   have f:=(List.getElem?_eq_some_iff.1 c).1;simp only[qg7,qj f,cond_true,qas c,qas g,jd,wS j])) .done)
theorem qxn{a:qp}(h:qeR a<=1048576):Ev (fun n=>qjv n a) a:=by
 unfold qjv;simp only[qeR] at h;exact Ev.bind (qzC (a:=a.Ay) (by omega)) (.done)
theorem qvi{a:ql}(h:qbR a<=1048576):Ev (fun n=>qgT n a) a:=by
 unfold qgT;simp only[qbR] at h;exact Ev.bind (qhe (a:=a.As) (by omega)) (.done)
theorem quX{a:(List ql)}(h:qb3 a<=1048576):Ev (fun n=>qh6 n a) a:=by
 have i:a.length<=1048576:=by simp only[qb3] at h;omega
 unfold qh6;exact Ev.bindN (qjo (by omega)) (Ev.bind (b:=(a,(a.length:Int))) (qks (cp:=qgT) (fun x c=>qvi (by have:=qcY (wt:=fun x:ql=>qbR x) c;simp only[qb3] at h;omega))
  (fun d n=>by simp only[qev,qk (je _),cond_false])
  (fun d n j x y c g=>by
   have f:=(List.getElem?_eq_some_iff.1 c).1;simp only[qev,qj f,cond_true,qas c,qas g,jd,wS j])) .done)
theorem qwX{a:(List ByteArray)}(h:qeM a<=1048576):Ev (fun n=>qjJ n a) a:=by
 have i:a.length<=1048576:=by simp only[qeM] at h;omega
 unfold qjJ;exact Ev.bindN (qjo (by omega)) (Ev.bind (b:=(a,(a.length:Int))) (qks (cp:=fun _ x=>V x) (fun _ _=>.done)
  (fun c n=>by simp only[qfL,qk (je _),cond_false])
  (fun c n j x y d g=>by
   have f:=(List.getElem?_eq_some_iff.1 d).1;simp only[qfL,qj f,cond_true,qas d,qas g,jd,wS j])) .done)
theorem qBj{a:qR}(_:qi4 a<=1048576):Ev (fun n=>qkP n a) a:=by
 unfold qkP;exact .done
theorem qzs{a:(List qR)}(h:qgE a<=1048576):Ev (fun n=>qli n a) a:=by
 have i:a.length<=1048576:=by simp only[qgE] at h;omega
 unfold qli;exact Ev.bindN (qjo (by omega)) (Ev.bind (b:=(a,(a.length:Int))) (qks (cp:=qkP) (fun x c=>qBj (by have:=qcY (wt:=fun x:qR=>qi4 x) c;simp only[qgE] at h;omega))
  (fun d n=>by simp only[qg4,qk (je _),cond_false])
  (fun d n j x y c g=>by
   have f:=(List.getElem?_eq_some_iff.1 c).1;simp only[qg4,qj f,cond_true,qas c,qas g,jd,wS j])) .done)
theorem qyJ{a:qd}(h:qfd a<=1048576):Ev (fun n=>qkk n a) a:=by
 unfold qkk;simp only[qfd] at h;exact Ev.bind (quX (a:=a.Ab) (by omega)) (Ev.bind (qwX (a:=a.As) (by omega)) (Ev.bind (qzs (a:=a.Ak) (by omega)) (.done)))
theorem qAJ{a:qE}(h:qf7 a<=1048576):Ev (fun n=>qkC n a) a:=by
 unfold qkC;simp only[qf7] at h;exact Ev.bind (qhe (a:=a.Az) (by omega)) (Ev.bind (qhe (a:=a.Bz) (by omega)) (Ev.bind (qhe (a:=a.Bu) (by omega)) (Ev.bind (qhe (a:=a.Bn) (by omega)) (.done))))
theorem qzb{a:(List qE)}(h:qgM a<=1048576):Ev (fun n=>qk9 n a) a:=by
 have i:a.length<=1048576:=by simp only[qgM] at h;omega
 unfold qk9;exact Ev.bindN (qjo (by omega)) (Ev.bind (b:=(a,(a.length:Int))) (qks (cp:=qkC) (fun x c=>qAJ (by have:=qcY (wt:=fun x:qE=>qf7 x) c;simp only[qgM] at h;omega))
  (fun d n=>by simp only[qgV,qk (je _),cond_false])
  (fun d n j x y c g=>by
   have f:=(List.getElem?_eq_some_iff.1 c).1;simp only[qgV,qj f,cond_true,qas c,qas g,jd,wS j])) .done)
theorem qzr{a:qh}(h:qgQ a<=1048576):Ev (fun n=>qly n a) a:=by
 unfold qly;simp only[qgQ] at h;exact Ev.bind (qxn (a:=a.Au) (by omega)) (Ev.bind (qyJ (a:=a.Aa) (by omega)) (Ev.bind (qzb (a:=a.Ai) (by omega)) (.done)))
end Go.Fw


namespace Go.Fw
open Go
set_option maxRecDepth 100000
theorem qdb{n:Nat}{x lo hi:Int}:qav n x lo hi=V (inI x lo hi):=by
 simp only[qav,qo0,qqj];rfl
theorem qec{n:Nat}{x lo hi:Int}:qa4 n x lo hi=V (inI x lo hi):=by
 simp only[qa4,qo0,qqj];rfl
def bt(s:ByteArray)(j:Nat):Nat:=(s.data.toList.getD j 0).toNat
theorem qzE{s:ByteArray}{j:Nat}(h:j<s.size):atS s (j:Int)=V (bt s j:Int):=by
 have a:j<s.data.size:=h;have b:j<s.data.toList.length:=by simpa using a
 unfold atS;rw[if_pos (by omega),jr];have:s[j]?=V (s.data.toList.getD j 0):=by
  rw[getElem?_pos s j h,jD,jh b]
  rfl
 rw[this]
 rfl
def letB(b:Nat):Bool:=decide (97<=b)&&decide (b<=122)
def digB(b:Nat):Bool:=decide (48<=b)&&decide (b<=57)
def chB(s:ByteArray)(j:Nat):Bool:=letB (bt s j) || digB (bt s j)&&decide (0<j)
def nameB(s:ByteArray):Bool:=(decide (1<=s.size)&&decide (s.size<=8))&&allN (chB s) s.size
theorem qnR{s:ByteArray}(h:okS s):Ev (fun n=>qgP n s) (nameB s):=by
 unfold okS at h;have d:Ev (fun n=>qek s n 0) (bif allN (chB s) s.size then .nxt (s.size:Int) else .ret false):=by
  refine qe6 ?_ (fun j a X f=>?_)
  ·exact Ev.succ (by simp only[qek,qk (je _),cond_false];exact .done)
  ·refine Ev.succ ?_;simp only[qek,qj a,cond_true,qzE a,jd,qo0,qqj,wS j];have e1:(decide ((bt s j:Int)>=97)&&decide ((bt s j:Int)<=122))=letB (bt s j):=by unfold letB;rw[jn];simp;omega
   have b:(decide ((bt s j:Int)>=48)&&decide ((bt s j:Int)<=57))=digB (bt s j):=by unfold digB;rw[jn];simp;omega
   have c:decide ((j:Int) > 0)=decide (0<j):=by rw[jn];simp
   rw[e1,b,c];unfold chB;cases letB (bt s j)<;>cases digB (bt s j)<;>cases decide (0<j)<;>first|exact f|exact .done
 unfold qgP;refine Ev.cast (r:=bif allN (chB s) s.size then(decide (1<=s.size)&&decide (s.size<=8)) else false) (Ev.bindB d (fun _=>?_) (fun _=>.done)) ?_
 ·simp only[qo0,qqj];exact Ev.now (by congr 1;rw[jn];simp;omega)
 ·unfold nameB;cases allN (chB s) s.size<;>simp
def cutset:List UInt8:=[97,98,99,100,101,102,103,104,105,106,107,108,109,110,111,112,113,114,115,116,117,118,119,120,121,122,48,49,50,51,52,53,54,55,56,57]
theorem qsV(b:UInt8):cutset.contains b=(letB b.toNat || digB b.toNat):=by
 have a:(List.range 256).all (fun m=>cutset.contains (UInt8.ofNat m)==(letB (UInt8.ofNat m).toNat || digB (UInt8.ofNat m).toNat))=true:=by kernel_rfl
 have h:=List.all_eq_true.1 a b.toNat (List.mem_range.2 b.toNat_lt);rw[beq_iff_eq] at h;simpa using h
def letters:List UInt8:=[97,98,99,100,101,102,103,104,105,106,107,108,109,110,111,112,113,114,115,116,117,118,119,120,121,122]
theorem qxs(m:Nat)(b:m<256):decide ((Lib.indexByte letters m.toUInt8)>=0)=letB m:=by
 have a:(List.range 256).all (fun m=>decide ((Lib.indexByte letters m.toUInt8)>=0)==letB m)=true:=by kernel_rfl
 have h:=List.all_eq_true.1 a m (List.mem_range.2 b);rwa [beq_iff_eq] at h
theorem qtg{α:Type}{p:α->Bool}{l:List α}:l.dropWhile p=[]↔∀x,x∈l->p x=true:=by
 induction l with
 |nil=>simp
 |cons y l ih=>
  rw[List.dropWhile_cons];by_cases h:p y=true
  ·rw[if_pos h,ih];simp[h]
  ·rw[if_neg h];simp[h]
theorem qtt{α:Type}{p:α->Bool}{l:List α}(h:∀x,x∈l.dropWhile p->p x=true):∀x,x∈l->p x=true:=by
 induction l with
 |nil=>simp
 |cons y l ih=>
  rw[List.dropWhile_cons] at h;by_cases b:p y=true
  ·rw[if_pos b] at h;intro x a;rcases List.mem_cons.1 a with rfl|a
   ·exact b
   ·exact ih h x a
  ·rw[if_neg b] at h;exact h
theorem qAm{l cs:List UInt8}:Lib.trimS l cs=[]↔∀x,x∈l->cs.contains x=true:=by
 unfold Lib.trimS Lib.trimRightS Lib.trimLeftS;rw[qtg];constructor
 ·intro h x a;exact qtt (p:=(cs.contains ·)) (l:=l.reverse) (fun y b=>h y (List.mem_reverse.2 b)) x (List.mem_reverse.2 a)
 ·intro h x a;exact h x (List.mem_reverse.1 ((List.dropWhile_suffix _).subset (List.mem_reverse.1 a)))
theorem qiH{a b:ByteArray}:(a.toList==b.toList)=decide (a=b):=by
 rw[jn,beq_iff_eq,decide_eq_true_iff];constructor
 ·intro h;exact ByteArray.ext (by have:=congrArg List.toArray h;simpa [ByteArray.toList_eq] using this)
 ·rintro rfl;rfl

theorem qBC{s:ByteArray}{j:Nat}(h:j<s.data.toList.length):bt s j=(s.data.toList[j]).toNat:=by
 unfold bt;rw[jD,jh h];rfl
theorem qCk{s:ByteArray}{j:Nat}:bt s j<256:=UInt8.toNat_lt _
theorem qri{n:Nat}{s:ByteArray}(h:okS s):qi8 n s=V (nameB s):=by
 unfold okS at h;have z:s.data.toList.length=s.size:=by simp
 simp only[qi8,qec,jd];cases hI:inI (s.size:Int) 1 8 with
 |false=>
  have k:(decide (1<=s.size)&&decide (s.size<=8))=false:=by rw[qyc] at hI;rw[Bool.and_eq_false_iff,decide_eq_false_iff_not,decide_eq_false_iff_not];omega
  simp[nameB,k]
 |true=>
  have k:1<=s.size/\s.size<=8:=by rw[qbi] at hI;omega
  have t:qjy n s (⟨#[97,98,99,100,101,102,103,104,105,106,107,108,109,110,111,112,113,114,115,116,117,118,119,120,121,122,48,49,50,51,52,53,54,55,56,57]⟩:ByteArray)=V ⟨(Lib.trimS s.data.toList cutset).toArray⟩:=by
   unfold qjy;rw[if_pos ⟨by omega,by decide,by decide⟩]
   rfl
  rw[t];simp only[cond_true,jd];have p:(((⟨(Lib.trimS s.data.toList cutset).toArray⟩:ByteArray).toList==(⟨#[]⟩:ByteArray).toList))=allN (fun j=>letB (bt s j) || digB (bt s j)) s.size:=by
   rw[qiH,jn,decide_eq_true_iff,qau];have:((⟨(Lib.trimS s.data.toList cutset).toArray⟩:ByteArray)=⟨#[]⟩)↔Lib.trimS s.data.toList cutset=[]:=by
    constructor
    ·intro i;have:=congrArg (fun x:ByteArray=>x.data.toList) i;simpa using this
    ·intro i;rw[i]
   rw[this,qAm];constructor
   ·intro m j a;have c:j<s.data.toList.length:=by omega
    have:=m _ (jp c);rw[qsV,<-qBC c] at this;exact this
   ·intro m x u;obtain⟨j,a,rfl⟩:=jW u;have:=m j (by omega);rw[qsV,<-qBC a];exact this
  rw[p];have o:atS s 0=V (bt s 0:Int):=qzE (j:=0) (by omega);have g:decide (Lib.indexByte letters (bt s 0:Int).toNat.toUInt8>=0)=letB (bt s 0):=by
   rw[jr];exact qxs _ qCk
  have r:∀b:Bool,(bif b then(atS s 0).bind fun y=>(qhv n (⟨#[97,98,99,100,101,102,103,104,105,106,107,108,109,110,111,112,113,114,115,116,117,118,119,120,121,122]⟩:ByteArray) (⟨y⟩:IntK .u8)).bind fun v=>V (decide (v>=0)) else V false)=V (b&&letB (bt s 0)):=by
   intro b;cases b with
   |false=>rfl
   |true=>
    rw[o];simp only[cond_true,jd,qhv,jG];exact congrArg V g
  rw[r]
  congr 1
  have l:(decide (1<=s.size)&&decide (s.size<=8))=true:=by simp[k]
  unfold nameB;rw[l,jG,jn,jf,qau,qau];simp only[chB,Bool.or_eq_true,jf,decide_eq_true_eq];constructor
  ·rintro⟨d,f⟩ j a;rcases Nat.eq_zero_or_pos j with rfl|hp
   ·exact .inl f
   ·exact(d j a).imp id (fun h=>⟨h,hp⟩)
  ·intro d;refine⟨fun j a=>(d j a).imp id (fun h=>h.1),?_⟩;rcases d 0 (by omega) with f|f
   ·exact f
   ·omega
def strAt(xs:List ByteArray)(j:Nat):ByteArray:=xs.getD j ByteArray.empty
theorem qp5{xs:List ByteArray}{j:Nat}(h:j<xs.length):strAt xs j=xs[j]:=by simp[strAt,h]
theorem qr9{xs:List ByteArray}{j:Nat}(h:j<xs.length):idx xs (j:Int)=V (strAt xs j):=by rw[qdA h,qp5 h]
def neB(xs:List ByteArray)(j i:Nat):Bool:=!decide (strAt xs i=strAt xs j)
def namesB(xs:List ByteArray):Bool:=allN (fun j=>nameB (strAt xs j)&&allN (neB xs j) j) xs.length
theorem qov{xs:List ByteArray}(h:okL okS xs):Ev (fun n=>qhj n xs) (namesB xs):=by
 have f:=h.len;have c:∀j,j<xs.length->Ev (fun n=>qeK xs (j:Int) n 0) (bif allN (neB xs j) j then .nxt (j:Int) else .ret false):=by
  intro j a;refine qe6 ?_ (fun i hi X d=>Ev.succ ?_)
  ·exact Ev.succ (by simp only[qeK,qk (je _),cond_false];exact .done)
  ·simp only[qeK,qj hi,cond_true,qr9 (show i<xs.length by omega),qr9 a,jd,qiH,wS i];unfold neB;cases decide (strAt xs i=strAt xs j)
   ·exact d
   ·exact .done
 have b:Ev (fun n=>qeV xs n 0) (bif namesB xs then .nxt (xs.length:Int) else .ret false):=by
  refine qe6 ?_ (fun j a X d=>Ev.succ ?_)
  ·exact Ev.succ (by simp only[qeV,qk (je _),cond_false];exact .done)
  ·simp only[qeV,qj a,cond_true,qr9 a,jd,wS j];refine Ev.bind (qnR (by rw[qp5 a];exact h.at a)) ?_;cases nameB (strAt xs j)
   ·exact .done
   ·refine Ev.ff Z (Ev.bind (c j a) ?_);cases allN (neB xs j) j
    ·exact .done
    ·exact d
 unfold qhj;refine Ev.bind b ?_;cases namesB xs<;>exact .done
theorem qvI{xs:List ByteArray}{v:ByteArray}(c:xs.length<=1048576):Ev (fun n=>qf6 n xs v) (ixL (fun x=>decide (v=x)) xs):=
 qg0 (fin:=(xs.length:Int)) (Lf:=qci xs v) (pf:=fun _ x=>V (decide (v=x))) (fun _ _=>.done)
  (fun n=>by simp only[qci,qk (je _),cond_false])
  (fun n j x a=>by
   have b:=(List.getElem?_eq_some_iff.1 a).1;simp only[qci,qj b,cond_true,qas a,jd,qiH,wS j])
  (fun n=>by unfold qf6;congr 1;funext o;cases o<;>rfl)
theorem qsF{xs:List ByteArray}{v:ByteArray}(a:xs.length<=1048576):Ev (fun n=>qeB n xs v) (xs.any fun x=>decide (v=x)):=by
 unfold qeB;exact Ev.bind (qvI a) (Ev.now (by rw[qpX]))
theorem qku{xs:List ByteArray}(h:okL okS xs):Ev (fun n=>qeJ n xs) (namesB xs):=by
 have g:=h.len;have b:Ev (fun n=>qeL xs n 0) (bif namesB xs then .nxt (xs.length:Int) else .ret false):=by
  refine qe6 ?_ (fun j a X c=>Ev.succ ?_)
  ·exact Ev.succ (by simp only[qeL,qk (je _),cond_false];exact .done)
  ·have f:subS xs 0 (j:Int)=V (xs.take j):=by
    unfold subS;rw[if_pos ⟨by omega,by omega,by omega⟩];simp
   simp only[qeL,qj a,cond_true,qr9 a,jd,f,qri (show okS (strAt xs j) by rw[qp5 a];exact h.at a),wS j];cases nameB (strAt xs j)
   ·exact .done
   ·refine Ev.ff Z (Ev.bind (qsF (by simp;omega)) ?_);have:((xs.take j).any fun x=>decide (strAt xs j=x)) = !allN (neB xs j) j:=by
     rw[qwc (d:=ByteArray.empty)]
     congr 1
     rw[jw,Nat.min_eq_left (by omega)];refine qi1 (fun i hi=>?_);unfold neB strAt
     congr 1
     have:(xs.take j).getD i ByteArray.empty=xs.getD i ByteArray.empty:=by simp[jD,hi]
     rw[this];exact decide_eq_decide.2 eq_comm
    rw[this];cases allN (neB xs j) j
    ·exact .done
    ·exact c
 unfold qeJ;refine Ev.bind b ?_;cases namesB xs<;>exact .done

theorem qtv{n:Nat}{x lo hi:Int}:qia n x lo hi=V (!inI x lo hi):=by simp only[qia,qec,jd]
theorem qey{xs:List Int}{lo hi:Int}(d:xs.length<=1048576):Ev (fun n=>qb6 n xs lo hi) (xs.all fun x=>inI x lo hi):=by
 have b:Ev (fun n=>qa9 n xs lo hi) (ixL (fun x=>!inI x lo hi) xs):=
  qg0 (fin:=(xs.length:Int)) (Lf:=qai xs lo hi) (pf:=fun _ x=>V (!inI x lo hi)) (fun _ _=>.done)
   (fun n=>by simp only[qai,qk (je _),cond_false])
   (fun n j x a=>by
    have c:=(List.getElem?_eq_some_iff.1 a).1;simp only[qai,qj c,cond_true,qas a,jd,qtv,wS j])
   (fun n=>by unfold qa9;congr 1;funext o;cases o<;>rfl)
 unfold qb6 qbH;refine Ev.bind (Ev.bind b (Ev.now Z)) (Ev.now ?_);rw[qpX,qsd]
def stepB(xs:List Int)(j:Nat):Bool:=decide (j=0) || decide (at0 xs (j-1)<at0 xs j)
def incB(xs:List Int):Bool:=allN (stepB xs) xs.length
theorem qn7{xs:List Int}(m:xs.length<=1048576):Ev (fun n=>qfQ n xs) (incB xs):=by
 have g:Ev (fun n=>qbE xs n 1) (bif incB xs then .nxt (max 1 xs.length:Int) else .ret false):=by
  by_cases b:xs.length=0
  ·have k:incB xs=true:=by unfold incB;rw[b];rfl
   rw[k];refine Ev.succ ?_;have:decide ((1:Int)<(xs.length:Int))=false:=by rw[b];decide
   simp only[qbE,this,cond_false];exact Ev.now (by rw[b];rfl)
  ·have:=qxW (Lf:=qbE xs) (len:=xs.length) (i0:=1) (f:=stepB xs) (bad:=false) (fin:=.nxt (max 1 xs.length:Int)) (by omega)
    (Ev.succ (by
     simp only[qbE,qk (je _),cond_false];exact Ev.now (by congr 2;omega)))
    (fun j l a X i=>Ev.succ (by
     simp only[qbE,qj a,cond_true,wS j,show(j:Int)-1=((j-1:Nat):Int) by omega,qM (show -9223372036854775808<=((j-1:Nat):Int) by omega) (by omega),qat (show j-1<xs.length by omega),qat a,jd];unfold stepB;by_cases c:at0 xs (j-1)<at0 xs j
     ·have e1:decide (at0 xs (j-1)>=at0 xs j)=false:=by simp;omega
      rw[e1];simp only[c,decide_true,Bool.or_true,cond_true,cond_false];exact i
     ·have e1:decide (at0 xs (j-1)>=at0 xs j)=true:=by simp;omega
      have d:decide (j=0)=false:=by simp;omega
      rw[e1,d];simp only[c,decide_false,Bool.or_self,cond_true,cond_false];exact .done))
   have e:allN (fun j=>stepB xs (1+j)) (xs.length-1)=incB xs:=by
    unfold incB;rw[jn,qau,qau];constructor
    ·intro h j a;cases j with
     |zero=>rfl
     |succ j=>have:=h j (by omega);rwa [Nat.add_comm] at this
    ·intro h j a;exact h (1+j) (by omega)
   rw[e] at this;exact this
 unfold qfQ;refine Ev.bind g ?_;cases incB xs<;>exact .done
def lenB{α:Type}(xs:List α)(lo hi:Nat):Bool:=decide (lo<=xs.length)&&decide (xs.length<=hi)
theorem qup{α:Type}{xs:List α}{lo hi:Nat}:inI (xs.length:Int) (lo:Int) (hi:Int)=lenB xs lo hi:=by
 unfold inI lenB;rw[jn];simp
def axisB(xs:List Int):Bool:=lenB xs 1 4&&((xs.all fun x=>inI x 0 100000)&&incB xs)
theorem qtK{xs:List Int}(a:xs.length<=1048576):Ev (fun n=>qkw n xs) (axisB xs):=by
 simp only[qkw,qbA,jd,qec,show inI (xs.length:Int) 1 4=lenB xs 1 4 from qup (lo:=1) (hi:=4)];unfold axisB;cases lenB xs 1 4
 ·exact .done
 ·refine Ev.tt Z (Ev.bind (qey a) ?_);cases (xs.all fun x=>inI x 0 100000)
  ·exact .done
  ·exact Ev.tt Z (Ev.bind (qn7 a) .done)
theorem qsN{xs:List Int}(k:xs.length<=1048576):Ev (fun n=>qjD n xs) (axisB xs):=by
 have i:Ev (fun n=>qel xs n 0) (bif allN (fun j=>inI (at0 xs j) 0 100000&&stepB xs j) xs.length then .nxt (xs.length:Int) else .ret false):=by
  refine qe6 ?_ (fun j c X a=>Ev.succ ?_)
  ·exact Ev.succ (by simp only[qel,qk (je _),cond_false];exact .done)
  ·simp only[qel,qj c,cond_true,qat c,jd,qdb,wS j];cases inI (at0 xs j) 0 100000
   ·exact .done
   ·simp only[Ji,cond_false,jG];unfold stepB;by_cases h:j=0
    ·subst h;exact Ev.ff (by decide) a
    ·simp only[show(j:Int)-1=((j-1:Nat):Int) by omega,qM (show -9223372036854775808<=((j-1:Nat):Int) by omega) (by omega),qat (show j-1<xs.length by omega),jd];have f:decide (j=0)=false:=by simp;omega
     have g:decide ((j:Int) > 0)=true:=by simp;omega
     rw[f,g];simp only[cond_true,Bool.false_or];by_cases b:at0 xs (j-1)<at0 xs j
     ·have e1:decide (at0 xs (j-1)>=at0 xs j)=false:=by simp;omega
      rw[e1];simp only[b,decide_true,cond_true,cond_false];exact a
     ·have e1:decide (at0 xs (j-1)>=at0 xs j)=true:=by simp;omega
      rw[e1];simp only[b,decide_false,cond_true,cond_false];exact .done
 have e:axisB xs=(allN (fun j=>inI (at0 xs j) 0 100000&&stepB xs j) xs.length&&lenB xs 1 4):=by
  unfold axisB incB;rw[qmZ,qhC (d:=0),Bool.and_comm]
  rfl
 rw[e];unfold qjD;refine Ev.bind i ?_;cases allN (fun j=>inI (at0 xs j) 0 100000&&stepB xs j) xs.length
 ·exact .done
 ·simp only[cond_true,qo0,qqj,jG];exact Ev.now (by congr 1;unfold lenB;rw[jn];simp;omega)
def tableB(t:qy):Bool:=axisB t.Bo&&(axisB t.Bk&&(decide (t.Bj.length=t.Bo.length*t.Bk.length)&&(t.Bj.all fun x=>inI x (-1000000) 1000000)))
theorem qxL{a b:Nat}(c:a<=1048576)(d:b<=1048576):W64 ((a:Int)*(b:Int))=((a*b:Nat):Int):=by
 have h:a*b<=1048576*1048576:=Nat.mul_le_mul c d;have e:(a:Int)*(b:Int)=((a*b:Nat):Int):=by simp
 rw[e];exact qM (by omega) (by omega)
theorem qwH{t:qy}(h:qjO t):Ev (fun n=>qle n t) (tableB t):=by
 unfold qle tableB;refine Ev.bind (qtK h.Bo.len) ?_;cases axisB t.Bo
 ·exact .done
 ·refine Ev.tt Z (Ev.bind (qtK h.Bk.len) ?_);cases axisB t.Bk
  ·exact .done
  ·rw[qxL h.Bo.len h.Bk.len];have e:(((t.Bj.length:Nat):Int)==((t.Bo.length*t.Bk.length:Nat):Int))=decide (t.Bj.length=t.Bo.length*t.Bk.length):=by rw[jn];simp;omega
   rw[e];cases decide (t.Bj.length=t.Bo.length*t.Bk.length)
   ·exact .done
   ·exact Ev.tt Z (Ev.tt Z (Ev.bind (qey h.Bj.len) .done))
theorem qv5{t:qy}(h:qjO t):Ev (fun n=>qlw n t) (tableB t):=by
 have f:=h.Bj.len;have c:Ev (fun n=>qft t n 0) (bif (t.Bj.all fun x=>inI x (-1000000) 1000000) then .nxt (t.Bj.length:Int) else .ret false):=
  qqa (fun n=>by simp only[qft,qk (je _),cond_false]) (fun j a X d=>by
   simp only[qft,qj a,cond_true,qdA a,jd,qdb,wS j];cases inI t.Bj[j] (-1000000) 1000000
   ·exact .done
   ·exact d)
 unfold qlw tableB;refine Ev.bind (b:=!(axisB t.Bo&&(axisB t.Bk&&decide (t.Bj.length=t.Bo.length*t.Bk.length)))) ?_ ?_
 ·refine Ev.bind (qsN h.Bo.len) ?_;cases axisB t.Bo
  ·exact .done
  ·refine Ev.ff Z (Ev.bind (qsN h.Bk.len) ?_);cases axisB t.Bk
   ·exact .done
   ·refine Ev.ff Z (Ev.now ?_);rw[qxL h.Bo.len h.Bk.len]
    congr 1
    rw[jn];simp;omega
 ·cases axisB t.Bo
  ·exact .done
  ·cases axisB t.Bk
   ·exact .done
   ·cases decide (t.Bj.length=t.Bo.length*t.Bk.length)
    ·exact .done
    ·refine Ev.ff Z (Ev.bind c ?_);cases (t.Bj.all fun x=>inI x (-1000000) 1000000)<;>exact .done

instance:Inhabited qal:=⟨⟨ByteArray.empty,0,0,false⟩⟩
instance:Inhabited qy:=⟨⟨[],[],[]⟩⟩
instance:Inhabited qJ:=⟨⟨0,0,0,0,[],[]⟩⟩
instance:Inhabited qz:=⟨⟨ByteArray.empty,0,[],[],[],0,0⟩⟩
instance:Inhabited ql:=⟨⟨ByteArray.empty,0,[]⟩⟩
instance:Inhabited qR:=⟨⟨ByteArray.empty,0,0⟩⟩
instance:Inhabited qE:=⟨⟨[],[],[],[]⟩⟩
theorem lastE{j m:Nat}(h:j<m)(a:m<=1048576):((j:Int)==W64 ((m:Int)-1))=decide (j+1=m):=by
 rcases qAQ h with h|h
 ·exact h
 ·omega
theorem qlD{α:Type}[Inhabited α]{xs:List α}{g:α->ByteArray}{j:Nat}(h:j<xs.length):strAt (xs.map g) j=g (gt xs j):=by
 rw[qp5 (by simpa using h),qcG h];simp
theorem qpe{α:Type}{xs:List α}{g:α->ByteArray}{ok:α->Prop}(h:okL ok xs)(a:∀x,ok x->okS (g x)):okL okS (xs.map g):=
 ⟨by rw[ju];exact h.1,fun y c=>by
  obtain⟨x,b,rfl⟩:=List.mem_map.1 c;exact a x (h.2 x b)⟩
theorem qnc{α β:Type}{xs:List α}{g:α->β}{j:Nat}(h:j<xs.length)(a:xs.length<=1048576){y:β}:appS ((xs.take j).map g) [y]=V ((xs.take j).map g++[y]):=
 qbn (by simp;omega)
def pinB(ps:List qal)(j:Nat):Bool:=
 bif decide (j+1=ps.length) then((gt ps j).Bx==2)&&(((gt ps j).Bu==0)&&!(gt ps j).Bt) else((gt ps j).Bx==1)&&inI (gt ps j).Bu 0 500
def pinsB(ps:List qal):Bool:=allN (pinB ps) ps.length&&(lenB ps 2 5&&namesB (ps.map qal.Bd))
def clkN(ps:List qal)(j:Nat):Nat:=cntP (fun i=>(gt ps i).Bt) j
theorem qwD{ps:List qal}(h:okL qok ps):Ev (fun n=>qlr n ps) (pinsB ps):=by
 have i:=h.len;have l:Ev (fun n=>qdo ps n ([]:List ByteArray) 0) (bif allN (pinB ps) ps.length then .nxt (ps.map qal.Bd,(ps.length:Int)) else .ret false):=by
  refine loopN (Lf:=qdo ps) (S:=fun j=>(ps.take j).map qal.Bd) (pinB ps) (fun n=>?_) (fun j a o X f=>?_)
  ·simp only[qdo,qk (je _),cond_false,jE]
  ·simp only[qdo,qj a,cond_true,qA a,jd,qnc a i,qgH (g:=qal.Bd) a,lastE a i,bne,qdx,qec,wS j];generalize hc:pinB ps j=c at f⊢;unfold pinB at hc;cases hd:decide (j+1=ps.length)
   ·rw[hd] at hc;simp only[cond_false] at hc⊢;subst hc;exact Ev.okP (fun b=>Ev.okP1 (fun d=>f (by rw[b,d];rfl)))
   ·rw[hd] at hc;simp only[cond_true] at hc⊢;subst hc;refine Ev.okP (fun b=>Ev.okP (fun d=>Ev.chkP1 (fun k=>f (by rw[b,d,k];rfl))))
 unfold qlr pinsB;refine Ev.bind l ?_;cases allN (pinB ps) ps.length
 ·exact .done
 ·simp only[cond_true,qcR,qec,jd,show inI (ps.length:Int) 2 5=lenB ps 2 5 from qup (lo:=2) (hi:=5),jG];exact Ev.andP (fun _=>Ev.last (qku (qpe h (fun x m=>m.Bd))))
def pinS(ps:List qal)(j:Nat):Bool:=allN (neB (ps.map qal.Bd) j) j&&((nameB (gt ps j).Bd&&inI (gt ps j).Bu 0 500)&&(bif decide (j+1=ps.length) then((gt ps j).Bx==2)&&(((gt ps j).Bu==0)&&!(gt ps j).Bt) else((gt ps j).Bx==1)))
theorem qBh{ps:List qal}:(lenB ps 2 5&&allN (pinS ps) ps.length)=pinsB ps:=by
 have e:namesB (ps.map qal.Bd)=allN (fun j=>nameB (gt ps j).Bd&&allN (neB (ps.map qal.Bd) j) j) ps.length:=by
  unfold namesB;rw[ju];exact qi1 (fun j a=>by rw[qlD a])
 unfold pinsB;rw[e,<-Bool.and_assoc,Bool.and_comm (allN (pinB ps) ps.length),Bool.and_assoc,<-qmZ]
 congr 1
 refine qi1 (fun j a=>?_);unfold pinS pinB;cases hd:decide (j+1=ps.length)
 ·simp only[cond_false];cases allN (neB (ps.map qal.Bd) j) j<;>cases nameB (gt ps j).Bd<;>cases inI (gt ps j).Bu 0 500<;>cases ((gt ps j).Bx==1)<;>rfl
 ·simp only[cond_true];cases hcap:((gt ps j).Bu==0)
  ·simp
  ·have:inI (gt ps j).Bu 0 500=true:=by rw[beq_iff_eq] at hcap;rw[hcap];rfl
   rw[this];cases allN (neB (ps.map qal.Bd) j) j<;>cases nameB (gt ps j).Bd<;>cases ((gt ps j).Bx==2)<;>cases (gt ps j).Bt<;>rfl
theorem qxm{c:qz}(h:okL qok c.Bh):Ev (fun n=>qlq n c) (bif pinsB c.Bh then(((clkN c.Bh c.Bh.length:Nat):Int),true) else(0,false)):=by
 have s:=h.len;have l:∀j,j<c.Bh.length->Ev (fun n=>qfl c (j:Int) (gt c.Bh j) n 0) (bif allN (neB (c.Bh.map qal.Bd) j) j then .nxt (j:Int) else .ret (0,false)):=by
  intro j b;refine qe6 ?_ (fun i hi X a=>Ev.succ ?_)
  ·exact Ev.succ (by simp only[qfl,qk (je _),cond_false];exact .done)
  ·simp only[qfl,qj hi,cond_true,qA (show i<c.Bh.length by omega),jd,qiH,wS i];unfold neB;rw[qlD (g:=qal.Bd) (show i<c.Bh.length by omega),qlD (g:=qal.Bd) b];exact Ev.chkP1 (fun _=>a)
 have k:Ev (fun n=>qdp c n 0 0) (bif allN (pinS c.Bh) c.Bh.length then .nxt (((clkN c.Bh c.Bh.length:Nat):Int),(c.Bh.length:Int)) else .ret (0,false)):=by
  refine loopN (Lf:=qdp c) (S:=fun j=>((clkN c.Bh j:Nat):Int)) (pinS c.Bh) (fun n=>?_) (fun j b u X a=>?_)
  ·simp only[qdp,qk (je _),cond_false]
  ·have t:clkN c.Bh j<=j:=qgJ;have d:((j:Int)==W64 ((c.Bh.length:Int)-1))=decide (j+1=c.Bh.length):=lastE b s;have f:decide ((j:Int)<W64 ((c.Bh.length:Int)-1)) = !decide (j+1=c.Bh.length):=by
    rw[qM (by omega) (by omega),jn];simp;omega
   simp only[qdp,qj b,cond_true,qA b,jd,wS j,qc4 (show clkN c.Bh j<9223372036854775807 by omega),d,f,qdb];unfold pinS;refine Ev.bind (l j b) ?_;cases ha:allN (neB (c.Bh.map qal.Bd) j) j
   ·exact .done
   ·simp only[cond_true,jG];refine Ev.chkT ?_ (fun o=>?_)
    ·exact Ev.or (qnR (qoF h b).Bd) (fun _=>.done)
    ·refine Ev.chkT1 ?_ (fun r=>?_)
     ·cases decide (j+1=c.Bh.length)
      ·exact .done
      ·simp only[cond_true,Ji,cond_false,bne,qdx];cases ((gt c.Bh j).Bx==2)<;>cases ((gt c.Bh j).Bu==0)<;>cases (gt c.Bh j).Bt<;>exact .done
     ·have a:=a (by unfold pinS;rw[ha,o,r];rfl);have m:clkN c.Bh (j+1)=clkN c.Bh j+(bif (gt c.Bh j).Bt then 1 else 0):=rfl;rw[m] at a;cases hc:(gt c.Bh j).Bt
      ·rw[hc] at a;exact Ev.ff Z a
      ·rw[hc] at a;exact Ev.tt Z a
 rw[<-qBh];unfold qlq;refine Ev.guard ?_ (fun o=>?_)
 ·unfold lenB;have e1:decide ((c.Bh.length:Int)<2) = !decide (2<=c.Bh.length):=by rw[jn];simp;omega
  have p:decide ((c.Bh.length:Int) > 5) = !decide (c.Bh.length<=5):=by rw[jn];simp;omega
  rw[e1,p];cases decide (2<=c.Bh.length)<;>cases decide (c.Bh.length<=5)<;>exact .done
 ·refine Ev.bind k ?_;cases allN (pinS c.Bh) c.Bh.length<;>exact .done
def mnL(xs:List Int):Int:=(xs.drop 1).foldl (fun m y=>if y<m then y else m) (at0 xs 0)
def mxL(xs:List Int):Int:=(xs.drop 1).foldl (fun m y=>if y > m then y else m) (at0 xs 0)
theorem qsq{t:qy}(h:tableB t=true):1<=t.Bj.length:=by
 unfold tableB axisB lenB at h;simp only[jf,decide_eq_true_eq] at h;obtain⟨⟨⟨a,_⟩,_⟩,⟨⟨b,_⟩,_⟩,c,_⟩:=h;rw[c];exact Nat.mul_pos a b
theorem qA5{xs:List Int}(b:1<=xs.length)(f:xs.length<=1048576):Ev (fun n=>qh2 n xs) (mnL xs):=by
 have c:=(qq5 (Lf:=fun n t j=>qdh xs n t j) (xs:=xs) (step:=fun(m y:Int)=>if y<m then y else m) (fin:=fun t=>(t,(xs.length:Int))) 1 (at0 xs 0) (fun _ _=>True) b trivial (fun _ _ _ _=>trivial)
  (fun n t=>by simp only[qdh,qk (je _),cond_false])
  (fun j t a _ X d=>by simpa only[qdh,qj a,cond_true,qdA a,jd,wS j] using d)).1
 unfold qh2;rw[show decide ((xs.length:Int)<1)=false by simp;omega,show idx xs (0:Int)=V (at0 xs 0) from qat (j:=0) (by omega)];simp only[cond_false,jd];exact Ev.bind c .done
theorem qxt{t:qy}(h:qjO t):Ev (fun n=>qil n t) (bif tableB t then(⟨mnL t.Bj,mxL t.Bj⟩,0) else(⟨0,0⟩,1)):=by
 unfold qil;refine Ev.chk1 (qv5 h) (fun l=>?_);have i:=qsq l;have p:=h.Bj.len;have f:=(qq5 (Lf:=fun n (d:Int×Int) j=>qdg t n d.1 d.2 j) (xs:=t.Bj) (step:=fun(m:Int×Int) y=>(if y<m.1 then y else m.1,if y > m.2 then y else m.2)) (fin:=fun d=>(d.1,d.2,(t.Bj.length:Int))) 1 (at0 t.Bj 0,at0 t.Bj 0) (fun _ _=>True) i trivial (fun _ _ _ _=>trivial)
  (fun n t=>by simp only[qdg,qk (je _),cond_false])
  (fun j t g _ X k=>by simpa only[qdg,qj g,cond_true,qdA g,jd,wS j] using k)).1
 have o:∀(c:List Int) (a b:Int),c.foldl (fun(m:Int×Int) y=>(if y<m.1 then y else m.1,if y > m.2 then y else m.2)) (a,b)=(c.foldl (fun m y=>if y<m then y else m) a,c.foldl (fun m y=>if y > m then y else m) b):=by
  intro c
  induction c with
  |nil=>intro a b;rfl
  |cons y c ih=>intro a b;simp only[List.foldl_cons,ih]
 rw[o] at f;rw[show idx t.Bj (0:Int)=V (at0 t.Bj 0) from qat (j:=0) (by omega)];simp only[jd];exact Ev.bind f .done
def tabB(pos:Bool)(t:qy):Bool:=tableB t&&(!pos || decide (0<=mnL t.Bj))
def tablesB(a:List qy)(pos:Bool):Bool:=decide (a.length=2)&&a.all (tabB pos)
theorem qnY{a:List qy}{pos:Bool}(h:okL qjO a):Ev (fun n=>qgd n a pos) (tablesB a pos):=by
 have g:=h.len;have c:Ev (fun n=>qaN n a pos) (ixL (fun x=>!tabB pos x) a):=
  qg0 (fin:=(a.length:Int)) (Lf:=qX a pos) (pf:=fun n x=>qhZ n x pos) (fun x b=>by
    unfold qhZ tabB;refine Ev.or (qwH (h.2 x b)) (fun d=>?_);cases pos
    ·exact .done
    ·refine Ev.tt Z (Ev.bind (qA5 (qsq d) (h.2 x b).Bj.len) (Ev.now ?_))
     congr 1
     rw[jn];simp)
   (fun n=>by simp only[qX,qk (je _),cond_false])
   (fun n j x b=>by
    have f:=(List.getElem?_eq_some_iff.1 b).1;simp only[qX,qj f,cond_true,qas b,jd,wS j])
   (fun n=>by unfold qaN;congr 1;funext o;cases o<;>rfl)
 unfold qgd qbc tablesB;rw[show((a.length:Int)==2)=decide (a.length=2) by rw[jn];simp;omega];refine Ev.andP (fun _=>Ev.bind (Ev.bind c (Ev.now Z)) (Ev.now ?_));rw[qpX,qsd]
theorem qjr{a:List qy}{pos:Bool}(h:okL qjO a):Ev (fun n=>qd0 n a pos) (tablesB a pos):=by
 unfold qd0 tablesB;rw[show((a.length:Int) != 2) = !decide (a.length=2) by rw[jn];simp;omega];simp only[qdx];refine Ev.andP (fun b=>?_);have b:a.length=2:=by simpa using b
 have f:Ev (fun n=>qc8 a pos n 0) (bif allN (fun j=>tabB pos (gt a j)) a.length then .nxt (2:Int) else .ret false):=by
  refine qe6 (len:=a.length) ?_ (fun j d X c=>Ev.succ ?_)
  ·rw[b];exact Ev.succ (by simp only[qc8];exact .done)
  ·simp only[qc8,show decide ((j:Int)<2)=true by simp;omega,cond_true,qA d,jd,wS j];refine Ev.bind (qxt (qoF h d)) ?_;unfold tabB;cases tableB (gt a j)
   ·exact .done
   ·simp only[cond_true,jG];refine Ev.ff Z ?_;cases pos
    ·exact c
    ·refine Ev.tt Z ?_;rw[show decide (mnL (gt a j).Bj<0) = !decide (0<=mnL (gt a j).Bj) by rw[jn];simp];simp only[qdx];exact Ev.okP1 (fun _=>c)
 rw[qjp];refine Ev.bind f ?_;cases allN (fun j=>tabB pos (gt a j)) a.length<;>exact .done

theorem qgq{α:Type}[Inhabited α]{xs:List α}{x:Int}(a:0<=x)(b:x<xs.length):idx xs x=V (gt xs x.toNat):=by
  have:=qA (xs:=xs) (j:=x.toNat) (by omega);rwa [<-qgS a] at this
theorem qtO{q:Nat->Bool}{m n:Nat}(h:m<=n):cntP q m<=cntP q n:=by
  induction n with
  |zero=>
    obtain rfl:m=0:=by omega
    exact je _
  |succ n ih=>
    rcases Nat.lt_or_eq_of_le h with h|rfl
    · exact Jb (ih (by omega)) (Nat.le_add_right _ _)
    · exact je _
theorem qo7{m k:Nat}:decide ((m:Int)<=(k:Int))=decide (m<=k):=by rw[jn];simp
theorem qvG{q:Nat->Bool}{n i j:Nat}(hi:i<j)(d:j<n)(a:q i=true)(b:q j=true):2<=cntP q n:=by
  have e1:cntP q (i+1)=cntP q i+1:=by rw[cntP,a];rfl
  have c:cntP q (j+1)=cntP q j+1:=by rw[cntP,b];rfl
  have f:=qtO (q:=q) (show i+1<=j by omega);have g:=qtO (q:=q) (show j+1<=n by omega);omega
theorem qwk{q:Nat->Bool}{n i j:Nat}(d:cntP q n<=1)(hi:i<n)(c:j<n)(a:q i=true)(b:q j=true):i=j:=by
  rcases Nat.lt_trichotomy i j with h|h|h
  · have:=qvG h c a b;omega
  · exact h
  · have:=qvG h hi b a;omega
def clkIx(ps:List qal):Int:=ixL (fun p=>p.Bt) ps
def clkAt(ps:List qal)(x:Int):Bool:=(gt ps x.toNat).Bt
theorem qAg{c:qz}(f:c.Bh.length<=1048576):Ev (fun n=>qiI n c) (clkIx c.Bh):=by
  unfold qiI;refine Ev.bind (b:=clkIx c.Bh) ?_ .done;exact qg0 (fin:=(c.Bh.length:Int)) (Lf:=qaa c.Bh) (pf:=fun n x=>qjj n x) (fun _ _=>.done)
    (fun n=>by simp only[qaa,qk (je _),cond_false])
    (fun n j x a=>by
      have d:=(List.getElem?_eq_some_iff.1 a).1;simp only[qaa,qj d,cond_true,qas a,jd,wS j])
    (fun n=>by unfold qbC;congr 1;funext o;cases o<;>rfl)
def arcI(ps:List qal)(a:qJ):Bool:=
  bif (a.Bi==4) || (a.Bi==5) then
    (a.Br==0)&&(((a.Be.length:Int)==0)&&(tablesB a.Bp false&&((a.Bm==clkIx ps)&&(decide (a.Bm>=0)&&(inI a.To 0 (ps.length-2)&&!(a.To==a.Bm))))))
  else
    (tablesB a.Bp true&&(tablesB a.Be true&&((a.To==(ps.length:Int)-1)&&inI a.Bm 0 (ps.length-2)))) &&
      (bif a.Bi==1 then !clkAt ps a.Bm&&inI a.Br 1 3 else(bif (a.Bi==2) || (a.Bi==3) then clkAt ps a.Bm&&(a.Br==0) else false))
def arcS(ps:List qal)(a:qJ):Bool:=
  (inI a.Bm 0 (ps.length-2)&&inI a.To 0 (ps.length-1)) &&
    (bif a.Bi==1 then !clkAt ps a.Bm&&((a.To==(ps.length:Int)-1)&&(inI a.Br 1 3&&(tablesB a.Bp true&&tablesB a.Be true)))
     else(bif (a.Bi==2) || (a.Bi==3) then clkAt ps a.Bm&&((a.To==(ps.length:Int)-1)&&((a.Br==0)&&(tablesB a.Bp true&&tablesB a.Be true)))
     else(bif (a.Bi==4) || (a.Bi==5) then clkAt ps a.Bm&&(decide (a.To<(ps.length:Int)-1)&&(!clkAt ps a.To&&((a.Br==0)&&(tablesB a.Bp false&&((a.Be.length:Int)==0))))) else false)))
theorem qru{c d:Bool}:(bif c then V c else V d)=V (c || d):=by cases c<;>rfl
theorem qvj{c d:Bool}:(bif c then V true else V d)=V (c || d):=by cases c<;>rfl
theorem qwN{n:Nat}{k:Int}:qls n k=V ((k==4) || (k==5)):=by simp only[qls,qvj]
theorem qzZ{c:qz}{a:qJ}(h:okL qok c.Bh)(b:qpU a)(k:2<=c.Bh.length):Ev (fun n=>qiJ n c a) (arcI c.Bh a):=by
  have i:=h.len;have e1:W64 ((c.Bh.length:Int)-1)=(c.Bh.length:Int)-1:=qfG (by omega);have f:W64 ((c.Bh.length:Int)-1-1)=(c.Bh.length:Int)-2:=by rw[qM (by omega) (by omega)];omega
  simp only[qiJ,qwN,jd,qhu,qe3,qcR,e1,f,qec,qru,bne];unfold arcI;refine Ev.iff (fun _=>Ev.last ?_) (fun _=>Ev.guardB ?_ (fun d=>?_))
  · exact Ev.andP fun _=>Ev.andP fun _=>Ev.and (qnY b.Bp) fun _=>Ev.bind (qAg i) (Ev.andP fun _=>Ev.andP fun _=>Ev.andP fun _=>.done)
  · refine Ev.or (qnY b.Bp) fun _=>Ev.or (qnY b.Be) fun _=>?_
    simp only[qdx];exact Ev.orBP fun _=>.done
  · have g:0<=a.Bm/\a.Bm<=(c.Bh.length:Int)-2:=by
      simp only[jf,qbi] at d;exact d.2.2.2
    simp only[qgq g.1 (show a.Bm<(c.Bh.length:Int) by omega),jd];exact Ev.iff (fun _=>Ev.andP fun _=>.done) (fun _=>Ev.iff (fun _=>Ev.andP fun _=>.done) (fun _=>.done))
theorem qyb{c:qz}{a:qJ}(h:okL qok c.Bh)(b:qpU a)(k:2<=c.Bh.length):Ev (fun n=>qmk n c a) (arcS c.Bh a):=by
  have i:=h.len;have e1:W64 ((c.Bh.length:Int)-1)=(c.Bh.length:Int)-1:=qfG (by omega);have g:W64 ((c.Bh.length:Int)-1-1)=(c.Bh.length:Int)-2:=by rw[qM (by omega) (by omega)];omega
  simp only[qmk,jd,e1,g,qdb,qru];unfold arcS;refine Ev.guardB ?_ (fun d=>?_)
  · simp only[qdx]
    exact Ev.orBP fun _=>.done
  · have f:(0<=a.Bm/\a.Bm<=(c.Bh.length:Int)-2)/\(0<=a.To/\a.To<=(c.Bh.length:Int)-1):=by
      simp only[jf,qbi] at d;exact d
    simp only[qgq f.1.1 (show a.Bm<(c.Bh.length:Int) by omega),qgq f.2.1 (show a.To<(c.Bh.length:Int) by omega),jd];refine Ev.iff (fun _=>?_) (fun _=>Ev.iff (fun _=>?_) (fun _=>Ev.iff (fun _=>?_) (fun _=>.done)))
    · exact Ev.andP fun _=>Ev.andP fun _=>Ev.andP fun _=>Ev.and (qjr b.Bp) fun _=>Ev.last (qjr b.Be)
    · exact Ev.andP fun _=>Ev.andP fun _=>Ev.andP fun _=>Ev.and (qjr b.Bp) fun _=>Ev.last (qjr b.Be)
    · exact Ev.andP fun _=>Ev.andP fun _=>Ev.andP fun _=>Ev.andP fun _=>Ev.and (qjr b.Bp) fun _=>.done
theorem qrd{ps:List qal}(f:clkN ps ps.length<=1){x:Int}(k:0<=x):clkIx ps=x↔x<ps.length/\clkAt ps x=true:=by
  unfold clkIx ixL;cases hf:ps.findIdx? (fun p=>p.Bt) with
  |some j=>
    obtain⟨d,i,_⟩:=List.findIdx?_eq_some_iff_getElem.1 hf;have b:(gt ps j).Bt=true:=by rw[qcG d];exact i
    constructor
    · intro e
      have e:(j:Int)=x:=e;subst e;exact⟨by omega,by unfold clkAt;rw[jr];exact b⟩
    · rintro⟨g,a⟩
      have:=qwk f d (show x.toNat<ps.length by omega) b a;show(j:Int)=x;omega
  |none=>
    have h:=List.findIdx?_eq_none_iff.1 hf;constructor
    · intro e
      have e:(-1:Int)=x:=e;omega
    · rintro⟨g,a⟩
      have c:x.toNat<ps.length:=by omega
      unfold clkAt at a;rw[qcG c] at a;have:=h _ (jp c);rw[a] at this;exact absurd this (by decide)
theorem qhD{ps:List qal}(h:pinsB ps=true):(2<=ps.length/\ps.length<=5)/\clkAt ps ((ps.length:Int)-1)=false:=by
  unfold pinsB lenB at h;simp only[jf,decide_eq_true_eq] at h;refine⟨h.2.1,?_⟩;have a:=qau.1 h.1 (ps.length-1) (by omega);unfold pinB at a;rw[show decide (ps.length-1+1=ps.length)=true by simp;omega] at a;simp only[cond_true,jf,jI] at a;unfold clkAt;rw[show((ps.length:Int)-1).toNat=ps.length-1 by omega];exact a.2.2
theorem qzd{ps:List qal}{a:qJ}(h:pinsB ps=true)(b:clkN ps ps.length<=1):arcI ps a=arcS ps a:=by
  obtain⟨⟨D,z⟩,l⟩:=qhD h;rw[jn];unfold arcI arcS;cases h45:((a.Bi==4) || (a.Bi==5)) with
  |true=>
    have B:(a.Bi==1)=false:=by simp at h45⊢;omega
    have u:((a.Bi==2) || (a.Bi==3))=false:=by simp at h45⊢;omega
    rw[B,u];simp only[cond_true,cond_false,jf,qbi,decide_eq_true_eq,beq_iff_eq,jI,beq_eq_false_iff_ne,ne_eq];constructor
    · rintro⟨t,m,s,p,o,r,A⟩
      obtain⟨C,n⟩:=(qrd b o).1 p.symm;have x:a.Bm≠(ps.length:Int)-1:=by intro e;rw[e,l] at n;cases n
      refine⟨⟨⟨o,by omega⟩,⟨r.1,by omega⟩⟩,n,by omega,?_,t,s,m⟩;cases c:clkAt ps a.To with
      |false=>rfl
      |true=>
        have:=(qrd b r.1).2 ⟨by omega,c⟩;omega
    · rintro⟨⟨p,r⟩,n,y,c,t,s,m⟩
      have:=(qrd b p.1).2 ⟨by omega,n⟩;refine⟨t,m,s,this.symm,p.1,⟨r.1,by omega⟩,?_⟩;intro e;rw[e,n] at c;cases c
  |false=>
    simp only[cond_false,jf,qbi,beq_iff_eq];cases (a.Bi==1)
    · cases ((a.Bi==2) || (a.Bi==3))
      · simp
      · simp only[cond_true,cond_false,jf,beq_iff_eq]
        constructor
        · rintro⟨⟨b,d,f,g⟩,i,k⟩
          exact⟨⟨g,by omega⟩,i,f,k,b,d⟩
        · rintro⟨⟨g,v⟩,i,f,k,b,d⟩
          exact⟨⟨b,d,f,g⟩,i,k⟩
    · simp only[cond_true,jf,qbi,jI,beq_iff_eq]
      constructor
      · rintro⟨⟨b,d,f,g⟩,i,k⟩
        exact⟨⟨g,by omega⟩,i,f,k,b,d⟩
      · rintro⟨⟨g,v⟩,i,f,k,b,d⟩
        exact⟨⟨b,d,f,g⟩,i,k⟩
theorem qtR{ps:List qal}{a:qJ}(h:arcS ps a=true):1<=a.Bi/\a.Bi<=5:=by
  unfold arcS at h;rw[jf] at h;have h:=h.2;cases h1:(a.Bi==1)
  · cases h2:((a.Bi==2) || (a.Bi==3))
    · cases h4:((a.Bi==4) || (a.Bi==5))
      · rw[h1,h2,h4] at h;cases h
      · simp at h4;omega
    · simp at h2;omega
  · simp at h1;omega
def sameArc(x y:qJ):Bool:=(x.Bi==y.Bi)&&((x.Bm==y.Bm)&&(x.To==y.To))
def newArc(a:List qJ)(j:Nat):Bool:=allN (fun i=>!sameArc (gt a i) (gt a j)) j
theorem qxg{c:qz}(h:okL qok c.Bh)(f:okL qpU c.Bc)(p:2<=c.Bh.length):Ev (fun n=>qhs n c) (allN (fun j=>arcI c.Bh (gt c.Bc j)&&newArc c.Bc j) c.Bc.length&&decide (c.Bc.length<=8)):=by
  have m:=f.len;have i:∀(a:List qJ) (y:qJ),a.length<=1048576->Ev (fun n=>qaF n a y) (a.any fun x=>sameArc x y):=by
    intro a y m;unfold qaF;refine Ev.bind (b:=ixL (fun x=>sameArc x y) a) (qg0 (fin:=(a.length:Int)) (Lf:=qW a y) (pf:=fun n x=>qf4 n x y) (fun x _=>?_)
      (fun n=>by simp only[qW,qk (je _),cond_false])
      (fun n j x g=>by
        have d:=(List.getElem?_eq_some_iff.1 g).1;simp only[qW,qj d,cond_true,qas g,jd,wS j])
      (fun n=>by unfold qbj;congr 1;funext o;cases o<;>rfl)) (Ev.now (by rw[qpX]))
    unfold qf4 sameArc;exact Ev.andP fun _=>Ev.andP fun _=>.done
  have k:Ev (fun n=>qcM c n 0) (bif allN (fun j=>arcI c.Bh (gt c.Bc j)&&newArc c.Bc j) c.Bc.length then .nxt (c.Bc.length:Int) else .ret false):=by
    refine qe6 ?_ (fun j d X l=>Ev.succ ?_)
    · exact Ev.succ (by simp only[qcM,qk (je _),cond_false];exact .done)
    · simp only[qcM,qj d,cond_true,qA d,jd,qtJ (Nat.le_of_lt d),wS j]
      refine Ev.chk (qzZ h (qoF f d) p) fun _=>Ev.chkT1 ?_ (fun _=>l);refine(i _ _ (by simp;omega)).cast ?_;rw[qAo (Nat.le_of_lt d)];rfl
  unfold qhs;refine Ev.bind k ?_;cases allN (fun j=>arcI c.Bh (gt c.Bc j)&&newArc c.Bc j) c.Bc.length
  · exact .done
  · refine Ev.now ?_
    show V (decide ((c.Bc.length:Int)<=((8:Nat):Int)))=V (true&&decide (c.Bc.length<=8));rw[qo7,jG]
def hasB(b:List qJ)(k:Int):Bool:=b.any fun a=>a.Bi==k
theorem qrc{c:qz}{k:Int}(f:c.Bc.length<=1048576):Ev (fun n=>qdT n c k) (hasB c.Bc k):=by
  unfold qdT qbu;exact Ev.last (Ev.bind (b:=ixL (fun x=>x.Bi==k) c.Bc) (qg0 (fin:=(c.Bc.length:Int)) (Lf:=qad c.Bc k) (pf:=fun n x=>qkY n x k) (fun x _=>.done)
      (fun n=>by simp only[qad,qk (je _),cond_false])
      (fun n j x a=>by
        have d:=(List.getElem?_eq_some_iff.1 a).1;simp only[qad,qj d,cond_true,qas a,jd,wS j])
      (fun n=>by unfold qbJ;congr 1;funext o;cases o<;>rfl)) (Ev.now (by rw[qpX];rfl)))
def kindN(a:List qJ)(k:Nat)(j:Nat):Nat:=cntP (fun i=>(gt a i).Bi==(k:Int)) j
theorem qt5{a:List qJ}{k:Nat}:decide (((kindN a k a.length:Nat):Int) > 0)=hasB a k:=by
  rw[show decide (((kindN a k a.length:Nat):Int) > 0)=decide (0<kindN a k a.length) by simp];unfold kindN hasB;rw[qwb,qxv]
theorem qxl{a:List qJ}{k:Nat}:(((kindN a k a.length:Nat):Int)==0) = !hasB a k:=by
  rw[<-qt5,jn];simp
theorem qwr{c:qz}(g:okL qpU c.Bc)(h:∀j,j<c.Bc.length->1<=(gt c.Bc j).Bi/\(gt c.Bc j).Bi<=5):Ev (fun n=>qkp n c) (vecC (fun k=>kindN c.Bc k c.Bc.length) 6):=by
  have o:=g.len;have d:Ev (fun n=>qdL c n (vecC (fun _=>0) 6) 0) (vecC (fun k=>kindN c.Bc k c.Bc.length) 6,(c.Bc.length:Int)):=by
    refine loopF (Lf:=qdL c) (S:=fun j=>vecC (fun k=>kindN c.Bc k j) 6) (len:=c.Bc.length) (fun n=>?_) (fun j a X f=>?_)
    · simp only[qdL,qk (je _),cond_false]
    · obtain⟨p,r⟩:=h j a
      have b:(gt c.Bc j).Bi=(((gt c.Bc j).Bi.toNat:Nat):Int):=qgS (by omega);have l:kindN c.Bc (gt c.Bc j).Bi.toNat j<=j:=qgJ;simp only[qdL,qj a,cond_true,qA a,jd,wS j];rw[b,qlJ (show(gt c.Bc j).Bi.toNat<6 by omega)];simp only[jd];rw[qt7 (c:=fun k=>kindN c.Bc k j) (by show kindN c.Bc _ j<_;omega)];have:vecC (fun i=>kindN c.Bc i j+(bif decide ((gt c.Bc j).Bi.toNat=i) then 1 else 0)) 6=vecC (fun k=>kindN c.Bc k (j+1)) 6:=by
        refine qlN (fun k _=>?_);show _=kindN c.Bc k j+(bif (gt c.Bc j).Bi==(k:Int) then 1 else 0)
        congr 2
        rw[jn];simp;omega
      rw[this];exact f
  unfold qkp;rw[show mkS 6 (0:Int)=V (vecC (fun _=>0) 6) from qpc (m:=6) (by omega)];simp only[jd];exact Ev.bind d .done
def kindB(c:qz):Bool:=
  bif c.Bi==1 then(((clkN c.Bh c.Bh.length:Nat):Int)==0)&&(((c.Bq.length:Int)==((2 ^ (c.Bh.length-1):Nat):Int))&&(c.Bq.all fun x=>inI x 0 1))
  else bif c.Bi==2 then(((clkN c.Bh c.Bh.length:Nat):Int)==1)&&(((c.Bq.length:Int)==0)&&(!hasB c.Bc 1&&!(hasB c.Bc 2==hasB c.Bc 3)))
  else bif c.Bi==3 then(((clkN c.Bh c.Bh.length:Nat):Int)==1)&&(((c.Bq.length:Int)==0)&&(hasB c.Bc 1&&(hasB c.Bc 2&&!hasB c.Bc 3)))
  else false
theorem quh{c:qz}(h:kindB c=true):clkN c.Bh c.Bh.length<=1:=by
  unfold kindB at h;cases h1:(c.Bi==1)
  · cases h2:(c.Bi==2)
    · cases h3:(c.Bi==3)
      · rw[h1,h2,h3] at h;cases h
      · rw[h1,h2,h3] at h
        simp only[cond_true,cond_false,jf,beq_iff_eq] at h;omega
    · rw[h1,h2] at h
      simp only[cond_true,cond_false,jf,beq_iff_eq] at h;omega
  · rw[h1] at h
    simp only[cond_true,jf,beq_iff_eq] at h;omega
theorem qvH{m:Nat}(a:2<=m)(b:m<=5):shlS 1 (W64 ((m:Int)-1))=V ((2 ^ (m-1):Nat):Int)/\shlS 1 (IntKind.wrap .u64 (W64 ((m:Int)-1)))=V ((2 ^ (m-1):Nat):Int):=by
  have:m=2\/m=3\/m=4\/m=5:=by omega
  rcases this with rfl|rfl|rfl|rfl<;>exact⟨by decide,by decide⟩
theorem qwa{c:qz}(b:qo8 c)(k:2<=c.Bh.length)(g:c.Bh.length<=5):Ev (fun n=>qgD n c) (kindB c):=by
  have l:=b.Bh.len;have i:Ev (fun n=>qbk c n 0 0) (((clkN c.Bh c.Bh.length:Nat):Int),(c.Bh.length:Int)):=by
    refine loopF (Lf:=qbk c) (S:=fun j=>((clkN c.Bh j:Nat):Int)) (len:=c.Bh.length) (fun n=>?_) (fun j h X d=>?_)
    · simp only[qbk,qk (je _),cond_false]
    · have m:clkN c.Bh j<=j:=qgJ
      simp only[qbk,qj h,cond_true,qA h,jd,wS j,qc4 (show clkN c.Bh j<9223372036854775807 by omega)];have f:clkN c.Bh (j+1)=clkN c.Bh j+(bif (gt c.Bh j).Bt then 1 else 0):=rfl;rw[f] at d;cases b:(gt c.Bh j).Bt
      · rw[b] at d;exact Ev.ff Z d
      · rw[b] at d;exact Ev.tt Z d
  unfold qgD kindB;refine Ev.bind i ?_;simp only[qe3,qcR,jd,(qvH k g).1];have a:=b.Bc.len;refine Ev.iff (fun _=>?_) (fun _=>Ev.iff (fun _=>?_) (fun _=>Ev.iff (fun _=>?_) (fun _=>.done)))
  · exact Ev.andP fun _=>Ev.andP fun _=>Ev.last (qey b.Bq.len)
  · exact Ev.andP fun _=>Ev.andP fun _=>Ev.bind (qrc a) (Ev.andP fun _=>Ev.bind (qrc a) (Ev.bind (qrc a) .done))
  · exact Ev.andP fun _=>Ev.andP fun _=>Ev.and (qrc a) fun _=>Ev.and (qrc a) fun _=>Ev.bind (qrc a) .done
def cellB(c:qz):Bool:=
  nameB c.Bd&&(pinsB c.Bh&&((allN (fun j=>arcI c.Bh (gt c.Bc j)&&newArc c.Bc j) c.Bc.length&&decide (c.Bc.length<=8))&&(inI c.Cc 0 100000&&(inI c.Bw 0 100000&&kindB c))))
theorem qyG{c:qz}(a:qo8 c):Ev (fun n=>qmE n c) (cellB c):=by
  simp only[qmE,qri a.Bd,qec,jd];unfold cellB;refine Ev.andP fun _=>Ev.and (qwD a.Bh) fun f=>?_;obtain⟨⟨d,b⟩,_⟩:=qhD f;exact Ev.and (qxg a.Bh a.Bc d) fun _=>Ev.andP fun _=>Ev.andP fun _=>Ev.last (qwa a d b)
theorem qwZ{c:qz}(d:qo8 c):Ev (fun n=>qmv n c) (cellB c):=by
  have p:=d.Bc.len;have r:=d.Bq.len;have e:cellB c=((pinsB c.Bh&&(nameB c.Bd&&(decide (c.Bc.length<=8)&&(inI c.Cc 0 100000&&inI c.Bw 0 100000))))&&(allN (fun j=>arcS c.Bh (gt c.Bc j)&&newArc c.Bc j) c.Bc.length&&kindB c)):=by
    unfold cellB;cases l:kindB c
    · simp
    · cases hp:pinsB c.Bh
      · simp
      · rw[qi1 (fun j _=>by rw[qzd hp (quh l)])]
        cases nameB c.Bd<;>cases allN (fun j=>arcS c.Bh (gt c.Bc j)&&newArc c.Bc j) c.Bc.length<;>cases decide (c.Bc.length<=8)<;>cases inI c.Cc 0 100000<;>cases inI c.Bw 0 100000<;>rfl
  rw[e];unfold qmv;refine Ev.bind (qxm d.Bh) ?_;cases hp:pinsB c.Bh
  · exact .done
  · obtain⟨⟨o,m⟩,_⟩:=qhD hp
    simp only[cond_true,jG,Ji,cond_false];refine Ev.guardB ?_ (fun _=>?_)
    · simp only[qdb,jd,qdx]
      refine Ev.orB (qnR d.Bd) fun _=>?_;rw[show decide ((c.Bc.length:Int) > 8) = !decide (c.Bc.length<=8) by rw[jn];simp;omega,qdx];exact Ev.orBP fun _=>Ev.orBP fun _=>.done
    · have g:∀j,j<c.Bc.length->Ev (fun n=>qd2 c (j:Int) (gt c.Bc j) n 0) (bif newArc c.Bc j then .nxt (j:Int) else .ret false):=by
        intro j a;refine qe6 ?_ (fun i hi X b=>Ev.succ ?_)
        · exact Ev.succ (by simp only[qd2,qk (je _),cond_false];exact .done)
        · simp only[qd2,qj hi,cond_true,qA (show i<c.Bc.length by omega),jd,wS i]
          unfold sameArc;cases ((gt c.Bc i).Bi==(gt c.Bc j).Bi)
          · exact b
          · cases ((gt c.Bc i).Bm==(gt c.Bc j).Bm)
            · exact b
            · cases ((gt c.Bc i).To==(gt c.Bc j).To)
              · exact b
              · exact .done
      have f:Ev (fun n=>qf9 c n 0) (bif allN (fun j=>arcS c.Bh (gt c.Bc j)&&newArc c.Bc j) c.Bc.length then .nxt (c.Bc.length:Int) else .ret false):=by
        refine qe6 ?_ (fun j a X b=>Ev.succ ?_)
        · exact Ev.succ (by simp only[qf9,qk (je _),cond_false];exact .done)
        · simp only[qf9,qj a,cond_true,qA a,jd,wS j]
          refine Ev.chk (qyb d.Bh (qoF d.Bc a) o) fun _=>Ev.bind (g j a) ?_;cases newArc c.Bc j
          · exact .done
          · exact b
      have h:Ev (fun n=>qga c n 0) (bif (c.Bq.all fun x=>inI x 0 1) then .nxt (c.Bq.length:Int) else .ret false):=
        qqa (fun n=>by simp only[qga,qk (je _),cond_false]) (fun j a X b=>by
          simp only[qga,qj a,cond_true,qdA a,jd,qdb,wS j,qdx];exact Ev.okP1 fun _=>b)
      refine Ev.bind f ?_;cases hA:allN (fun j=>arcS c.Bh (gt c.Bc j)&&newArc c.Bc j) c.Bc.length
      · exact .done
      · have l:∀j,j<c.Bc.length->1<=(gt c.Bc j).Bi/\(gt c.Bc j).Bi<=5:=fun j a=>by
          have:=qau.1 hA j a;rw[jf] at this;exact qtR this.1
        simp only[cond_true,jG];refine Ev.bind (qwr d.Bc l) ?_;simp only[(qvH o m).2,jd,
          show idx (vecC (fun k=>kindN c.Bc k c.Bc.length) 6) (1:Int)=V ((kindN c.Bc 1 c.Bc.length:Nat):Int) from qlJ (k:=1) (by omega),
          show idx (vecC (fun k=>kindN c.Bc k c.Bc.length) 6) (2:Int)=V ((kindN c.Bc 2 c.Bc.length:Nat):Int) from qlJ (k:=2) (by omega),
          show idx (vecC (fun k=>kindN c.Bc k c.Bc.length) 6) (3:Int)=V ((kindN c.Bc 3 c.Bc.length:Nat):Int) from qlJ (k:=3) (by omega),qt5,qxl]
        unfold kindB;refine Ev.iff (fun _=>?_) (fun _=>Ev.iff (fun _=>?_) (fun _=>Ev.iff (fun _=>?_) (fun _=>.done)))
        · refine Ev.bind h ?_
          cases (c.Bq.all fun x=>inI x 0 1)
          · exact Ev.now (by simp)
          · exact(Ev.andP (fun _=>.done)).cast (by rw[Bool.and_true])
        · refine(Ev.andP fun _=>Ev.andP fun _=>Ev.andP fun _=>.done).cast ?_
          cases (((clkN c.Bh c.Bh.length:Nat):Int)==1)<;>cases ((c.Bq.length:Int)==0)<;>cases hasB c.Bc ((1:Nat):Int)<;>cases hasB c.Bc ((2:Nat):Int)<;>cases hasB c.Bc ((3:Nat):Int)<;>rfl
        · refine(Ev.andP fun _=>Ev.andP fun _=>Ev.andP fun _=>Ev.andP fun _=>.done).cast ?_
          cases (((clkN c.Bh c.Bh.length:Nat):Int)==1)<;>cases ((c.Bq.length:Int)==0)<;>cases hasB c.Bc ((1:Nat):Int)<;>cases hasB c.Bc ((2:Nat):Int)<;>cases hasB c.Bc ((3:Nat):Int)<;>rfl
def libB(l:qp):Bool:=l.Ay.all cellB&&(decide (l.Ay.length<=8)&&namesB (l.Ay.map qz.Bd))
theorem qu2{l:qp}(h:qi2 l):Ev (fun n=>qjh n l) (libB l):=by
  have d:=h.Ay.len;have b:Ev (fun n=>qc6 l n ([]:List ByteArray) 0) (bif allN (fun j=>cellB (gt l.Ay j)) l.Ay.length then .nxt (l.Ay.map qz.Bd,(l.Ay.length:Int)) else .ret false):=by
    refine loopN (Lf:=qc6 l) (S:=fun j=>(l.Ay.take j).map qz.Bd) (fun j=>cellB (gt l.Ay j)) (fun n=>?_) (fun j a i X c=>?_)
    · simp only[qc6,qk (je _),cond_false,jE]
    · simp only[qc6,qj a,cond_true,qA a,jd,qnc a d,qgH (g:=qz.Bd) a,wS j]
      exact Ev.chk1 (qyG (qoF h.Ay a)) c
  unfold qjh libB;rw[qjp];refine Ev.bind b ?_;cases allN (fun j=>cellB (gt l.Ay j)) l.Ay.length
  · exact .done
  · simp only[cond_true,jG,show decide ((l.Ay.length:Int)<=8)=decide (l.Ay.length<=8) from qo7 (k:=8)]
    exact Ev.andP fun _=>Ev.last (qku (qpe h.Ay (fun x f=>f.Bd)))

theorem qww{c:qz}(h:cellB c=true):nameB c.Bd=true:=by
 unfold cellB at h;rw[jf] at h;exact h.1
theorem qj0{c:qz}(h:cellB c=true):pinsB c.Bh=true:=by
 unfold cellB at h;simp only[jf] at h;exact h.2.1
theorem qtj{l:qp}(h:qi2 l):Ev (fun n=>qjn n l) (libB l):=by
 have f:=h.Ay.len;have c:∀j,j<l.Ay.length->Ev (fun n=>qeh l (j:Int) n 0) (bif allN (neB (l.Ay.map qz.Bd) j) j then .nxt (j:Int) else .ret false):=by
  intro j a;refine qe6 ?_ (fun i hi X d=>Ev.succ ?_)
  ·exact Ev.succ (by simp only[qeh,qk (je _),cond_false];exact .done)
  ·simp only[qeh,qj hi,cond_true,qA (show i<l.Ay.length by omega),qA a,jd,qiH,wS i];unfold neB;rw[qlD (g:=qz.Bd) (show i<l.Ay.length by omega),qlD (g:=qz.Bd) a];exact Ev.chkP1 (fun _=>d)
 have b:Ev (fun n=>qd7 l n 0) (bif allN (fun j=>cellB (gt l.Ay j)&&allN (neB (l.Ay.map qz.Bd) j) j) l.Ay.length then .nxt (l.Ay.length:Int) else .ret false):=by
  refine qe6 ?_ (fun j a X d=>Ev.succ ?_)
  ·exact Ev.succ (by simp only[qd7,qk (je _),cond_false];exact .done)
  ·simp only[qd7,qj a,cond_true,qA a,jd,wS j];refine Ev.chk (qwZ (qoF h.Ay a)) fun _=>Ev.bind (c j a) ?_;cases allN (neB (l.Ay.map qz.Bd) j) j
   ·exact .done
   ·exact d
 have e:libB l=(allN (fun j=>cellB (gt l.Ay j)&&allN (neB (l.Ay.map qz.Bd) j) j) l.Ay.length&&decide (l.Ay.length<=8)):=by
  unfold libB namesB;rw[qjp,ju,Bool.and_comm (decide (l.Ay.length<=8)),<-Bool.and_assoc,<-qmZ]
  congr 1
  refine qi1 (fun j a=>?_);rw[qlD (g:=qz.Bd) a];cases hc:cellB (gt l.Ay j)
  ·rfl
  ·rw[qww hc];rfl
 rw[e];unfold qjn;refine Ev.bind b ?_;cases allN (fun j=>cellB (gt l.Ay j)&&allN (neB (l.Ay.map qz.Bd) j) j) l.Ay.length
 ·exact .done
 ·refine Ev.now ?_;show V (decide ((l.Ay.length:Int)<=((8:Nat):Int)))=V (true&&decide (l.Ay.length<=8));rw[qo7,jG]
theorem qnl{c c':Nat->Nat}{m:Nat}{x:Int}(b:0<=x)(h:x<m)(d:c x.toNat<9223372036854775807)(f:∀k,k<m->c' k=c k+(bif x==(k:Int) then 1 else 0)) :
  idx (vecC c m) x=V (c x.toNat:Int)/\setS (vecC c m) x (W64 ((c x.toNat:Int)+1))=vecC c' m:=by
 have ex:x=(x.toNat:Int):=qgS b;have e1:=qlJ (c:=c) (m:=m) (k:=x.toNat) (by omega);have a:=qt7 (c:=c) (m:=m) (k:=x.toNat) d;rw[<-ex] at e1 a;refine⟨e1,a.trans (qlN (fun k g=>?_))⟩;rw[f k g]
 congr 2
 rw[jn];simp;omega
def netB(d:qd)(x:Int):Bool:=inI x 0 ((d.As.length:Int)-1)
theorem qvt{n:Nat}{d:qd}{x:Int}(a:d.As.length<=1048576):qd9 n d x=V (netB d x):=by
 simp only[qd9,qiU,jd,qec,qfG (show d.As.length<=9223372036854775807 by omega)];rfl
theorem qug{n:Nat}{d:qd}{x:Int}(a:d.As.length<=1048576):qav n x 0 (W64 ((d.As.length:Int)-1))=V (netB d x):=by
 rw[qdb,qfG (show d.As.length<=9223372036854775807 by omega)];rfl
def hasNamesB(d:qd):Bool:=(decide (d.Ab.length<=14)&&(decide (d.As.length<=30)&&decide (d.Ak.length<=8)))&&(namesB (d.Ab.map ql.Bd)&&(namesB d.As&&namesB (d.Ak.map qR.Bd)))
theorem qvg{d:qd}(h:qlE d):Ev (fun n=>qfU n d) (hasNamesB d):=by
 have i:=h.Ab.len;have l:=h.Ak.len;have b:Ev (fun n=>qby d n ([]:List ByteArray) 0) (d.Ab.map ql.Bd,(d.Ab.length:Int)):=by
  refine loopF (Lf:=qby d) (S:=fun j=>(d.Ab.take j).map ql.Bd) (len:=d.Ab.length) (fun n=>?_) (fun j a X f=>?_)
  ·simp only[qby,qk (je _),cond_false,jE]
  ·simpa only[qby,qj a,cond_true,qA a,jd,qnc a i,qgH (g:=ql.Bd) a,wS j] using f
 have c:Ev (fun n=>qbp d n ([]:List ByteArray) 0) (d.Ak.map qR.Bd,(d.Ak.length:Int)):=by
  refine loopF (Lf:=qbp d) (S:=fun j=>(d.Ak.take j).map qR.Bd) (len:=d.Ak.length) (fun n=>?_) (fun j a X f=>?_)
  ·simp only[qbp,qk (je _),cond_false,jE]
  ·simpa only[qbp,qj a,cond_true,qA a,jd,qnc a l,qgH (g:=qR.Bd) a,wS j] using f
 unfold qfU hasNamesB;refine Ev.bind b (Ev.bind c ?_);simp only[ju];rw[show decide ((d.Ab.length:Int)<=14)=decide (d.Ab.length<=14) from qo7 (k:=14),show decide ((d.As.length:Int)<=30)=decide (d.As.length<=30) from qo7 (k:=30),show decide ((d.Ak.length:Int)<=8)=decide (d.Ak.length<=8) from qo7 (k:=8)];rw[Bool.and_assoc,Bool.and_assoc];exact Ev.andP fun _=>Ev.andP fun _=>Ev.andP fun _=>Ev.and (qku (qpe h.Ab (fun x m=>m.Bd))) fun _=>Ev.and (qku h.As) fun _=>Ev.last (qku (qpe h.Ak (fun x m=>m.Bd)))
def instB(l:qp)(d:qd)(x:ql):Bool:=inI x.Bv 0 ((l.Ay.length:Int)-1)&&(((x.As.length:Int)==((gt l.Ay x.Bv.toNat).Bh.length:Int))&&x.As.all (netB d))
theorem qte{d:qd}{l:qp}{x:ql}(g:d.As.length<=1048576)(h:l.Ay.length<=1048576)(a:x.As.length<=1048576):Ev (fun n=>qeD n d l x) (instB l d x):=by
 simp only[qeD,qhn,jd,qec,qfG (show l.Ay.length<=9223372036854775807 by omega)];unfold instB;refine Ev.andP fun c=>?_;rw[qbi] at c;rw[qgq c.1 (by omega)];simp only[jd];refine Ev.andP fun _=>Ev.bind (b:=x.As.any fun y=>!netB d y) ?_ (Ev.now (by rw[qsd]));unfold qaY;exact Ev.bind (b:=ixL (fun y=>!netB d y) x.As) (qg0 (fin:=(x.As.length:Int)) (Lf:=qP x.As d) (pf:=fun n y=>qdS n y d) (fun y _=>⟨0,fun n _=>by simp only[qdS,qvt g,jd]⟩)
   (fun n=>by simp only[qP,qk (je _),cond_false])
   (fun n j y a=>by
    have f:=(List.getElem?_eq_some_iff.1 a).1;simp only[qP,qj f,cond_true,qas a,jd,wS j])
   (fun n=>by unfold qbb;congr 1;funext o;cases o<;>rfl)) (Ev.now (by rw[qpX]))
def portB(d:qd)(p:qR):Bool:=inI p.Bx 1 2&&netB d p.Ca
theorem qCb{x:Int}:inI x 1 2=((x==1) || (x==2)):=by
 unfold inI;rw[jn];simp;omega
def lastN(x:ql):Int:=at0 x.As (x.As.length-1)
theorem qvX{x:ql}(a:1<=x.As.length)(b:x.As.length<=1048576):idx x.As (W64 ((x.As.length:Int)-1))=V (lastN x):=by
 rw[qfG (by omega),show((x.As.length:Int)-1)=((x.As.length-1:Nat):Int) by omega,qat (by omega)];rfl
theorem qyI{d:qd}{x:ql}(a:1<=x.As.length)(h:x.As.all (netB d)=true):0<=lastN x/\lastN x<d.As.length:=by
 rw[qhC (d:=0),qau] at h;have:=h (x.As.length-1) (by omega);unfold netB at this;rw[qbi] at this;unfold lastN at0;omega
theorem qs3{l:qp}{d:qd}{x:ql}(a:libB l=true)(h:instB l d x=true):1<=x.As.length/\0<=lastN x/\lastN x<d.As.length:=by
 unfold instB at h;simp only[jf,qbi,beq_iff_eq] at h;obtain⟨g,i,f⟩:=h;unfold libB at a;simp only[jf] at a;have c:=a.1;rw[qjp,qau] at c;have:=qhD (qj0 (c x.Bv.toNat (by omega)));have b:1<=x.As.length:=by omega
 exact⟨b,qyI b f⟩
def drvI(d:qd)(k j:Nat):Nat:=cntP (fun i=>lastN (gt d.Ab i)==(k:Int)) j
def drvP(d:qd)(k j:Nat):Nat:=cntP (fun i=>((gt d.Ak i).Bx==1)&&((gt d.Ak i).Ca==(k:Int))) j
def drvB(d:qd):Bool:=allN (fun k=>((drvI d k d.Ab.length+drvP d k d.Ak.length:Nat):Int)==1) d.As.length
def designB(l:qp)(d:qd):Bool:=(libB l&&hasNamesB d)&&(d.Ab.all (instB l d)&&(d.Ak.all (portB d)&&drvB d))
theorem qrf{d:qd}{k j:Nat}:drvI d k (j+1)=drvI d k j+(bif lastN (gt d.Ab j)==(k:Int) then 1 else 0):=rfl
theorem qo6{d:qd}{k j:Nat}:drvP d k (j+1)=drvP d k j+(bif ((gt d.Ak j).Bx==1)&&((gt d.Ak j).Ca==(k:Int)) then 1 else 0):=rfl
theorem qwj{l:qp}{d:qd}(h:qi2 l)(g:qlE d):Ev (fun n=>qkj n l d) (designB l d):=by
 have I:=g.Ab.len;have J:=g.Ak.len;have i:=g.As.len;have v:=h.Ay.len;unfold qkj designB;refine Ev.guardB (Ev.or (qu2 h) fun _=>Ev.neg (qvg g)) fun z=>?_;rw[jf] at z;rw[qpc (m:=d.As.length) (by omega)];simp only[jd];have t:Ev (fun n=>qdG l d n (vecC (fun _=>0) d.As.length) 0) (bif allN (fun j=>instB l d (gt d.Ab j)) d.Ab.length then .nxt (vecC (fun k=>drvI d k d.Ab.length) d.As.length,(d.Ab.length:Int)) else .ret false):=by
  refine loopN (Lf:=qdG l d) (S:=fun j=>vecC (fun k=>drvI d k j) d.As.length) (fun j=>instB l d (gt d.Ab j)) (fun n=>?_) (fun j a K X f=>?_)
  ·simp only[qdG,qk (je _),cond_false]
  ·simp only[qdG,qj a,cond_true,qA a,jd,wS j];have p:=(qoF g.Ab a).As.len;refine Ev.chk1 (qte i v p) fun hi=>?_;obtain⟨r,B,C⟩:=qs3 z.1 hi;have L:drvI d (lastN (gt d.Ab j)).toNat j<=j:=qgJ;obtain⟨e1,s⟩:=qnl (c:=fun k=>drvI d k j) (c':=fun k=>drvI d k (j+1)) B C (by show drvI _ _ _<_;omega) (fun k _=>qrf);simp only[qvX r p,jd,e1,s];exact f hi
 have u:Ev (fun n=>qcU d n (vecC (fun k=>drvI d k d.Ab.length) d.As.length) 0) (bif allN (fun j=>portB d (gt d.Ak j)) d.Ak.length then .nxt (vecC (fun k=>drvI d k d.Ab.length+drvP d k d.Ak.length) d.As.length,(d.Ak.length:Int)) else .ret false):=by
  refine loopN (Lf:=qcU d) (S:=fun j=>vecC (fun k=>drvI d k d.Ab.length+drvP d k j) d.As.length) (fun j=>portB d (gt d.Ak j)) (fun n=>?_) (fun j a K X f=>?_)
  ·simp only[qcU,qk (je _),cond_false]
  ·simp only[qcU,qj a,cond_true,qA a,jd,qvt i,bne,wS j];refine Ev.chkT1 ?_ fun hi=>?_
   ·unfold portB;rw[qCb];cases ((gt d.Ak j).Bx==1)<;>cases ((gt d.Ak j).Bx==2)<;>exact .done
   ·have f:=f hi;unfold portB netB at hi;simp only[jf,qbi] at hi;have D:drvI d (gt d.Ak j).Ca.toNat d.Ab.length<=d.Ab.length:=qgJ;have F:drvP d (gt d.Ak j).Ca.toNat j<=j:=qgJ;cases r:((gt d.Ak j).Bx==1)
    ·have:vecC (fun k=>drvI d k d.Ab.length+drvP d k (j+1)) d.As.length=vecC (fun k=>drvI d k d.Ab.length+drvP d k j) d.As.length:=by
      refine qlN (fun k _=>?_);rw[qo6,r];rfl
     rw[this] at f;exact f
    ·obtain⟨e1,s⟩:=qnl (c:=fun k=>drvI d k d.Ab.length+drvP d k j) (c':=fun k=>drvI d k d.Ab.length+drvP d k (j+1)) (x:=(gt d.Ak j).Ca) (m:=d.As.length) hi.2.1 (by omega) (by show drvI _ _ _+drvP _ _ _<_;omega) (fun k _=>by rw[qo6,r,jG];omega);simp only[cond_true,jd,e1,s];exact f
 rw[qjp,qjp];refine Ev.bind t ?_;cases allN (fun j=>instB l d (gt d.Ab j)) d.Ab.length
 ·exact .done
 ·refine Ev.bind u ?_;cases allN (fun j=>portB d (gt d.Ak j)) d.Ak.length
  ·exact .done
  ·simp only[cond_true,jG];unfold qb0;refine Ev.bind (b:=(vecC (fun k=>drvI d k d.Ab.length+drvP d k d.Ak.length) d.As.length).any fun x=>!(x==1)) (Ev.bind (b:=ixL (fun x=>!(x==1)) (vecC (fun k=>drvI d k d.Ab.length+drvP d k d.Ak.length) d.As.length)) (qg0 (fin:=(((vecC (fun k=>drvI d k d.Ab.length+drvP d k d.Ak.length) d.As.length).length:Nat):Int)) (Lf:=qap (vecC (fun k=>drvI d k d.Ab.length+drvP d k d.Ak.length) d.As.length)) (pf:=fun n y=>qk0 n y) (fun y _=>.done)
    (fun n=>by simp only[qap,qk (je _),cond_false])
    (fun n j y A=>by
     have a:=(List.getElem?_eq_some_iff.1 A).1;have:j<d.As.length:=by rw[qoX] at a;exact a
     simp only[qap,qj a,cond_true,qas A,jd,wS j])
    (fun n=>by unfold qcl;congr 1;funext o;cases o<;>rfl)) (Ev.now (by rw[qpX]))) (Ev.now ?_)
   rw[qsd,qhC (d:=0),qoX];unfold drvB
   congr 1
   exact qi1 (fun k H=>by
    have:=qwh (c:=fun k=>drvI d k d.Ab.length+drvP d k d.Ak.length) H;unfold at0 at this;rw[this])
theorem qv9{l:qp}{d:qd}(h:qi2 l)(f:qlE d):Ev (fun n=>qkd n l d) (d.Ab.all (instB l d)&&d.Ak.all (portB d)):=by
 have r:=f.Ab.len;have s:=f.Ak.len;have c:=f.As.len;have p:=h.Ay.len;have i:∀x:ql,x.As.length<=1048576->Ev (fun n=>qe0 d x n 0) (bif x.As.all (netB d) then .nxt (x.As.length:Int) else .ret false):=fun x t=>
  qqa (fun n=>by simp only[qe0,qk (je _),cond_false]) (fun j a X b=>by
   simp only[qe0,qj a,cond_true,qdA a,jd,qug c,wS j,qdx];exact Ev.okP1 fun _=>b)
 have g:Ev (fun n=>qeU l d n 0) (bif allN (fun j=>instB l d (gt d.Ab j)) d.Ab.length then .nxt (d.Ab.length:Int) else .ret false):=by
  refine qe6 ?_ (fun j a X b=>Ev.succ ?_)
  ·exact Ev.succ (by simp only[qeU,qk (je _),cond_false];exact .done)
  ·simp only[qeU,qj a,cond_true,qA a,jd,qdb,qfG (show l.Ay.length<=9223372036854775807 by omega),wS j,bne];have m:=(qoF f.Ab a).As.len;unfold instB;rw[<-Bool.and_assoc];refine Ev.chkT ?_ fun _=>Ev.bind (i _ m) ?_
   ·simp only[qdx];refine Ev.orBP fun o=>?_;rw[qbi] at o;rw[qgq o.1 (by omega)];exact .done
   ·cases (gt d.Ab j).As.all (netB d)
    ·exact .done
    ·exact b
 have k:Ev (fun n=>qeO d n 0) (bif allN (fun j=>portB d (gt d.Ak j)) d.Ak.length then .nxt (d.Ak.length:Int) else .ret false):=by
  refine qe6 ?_ (fun j a X b=>Ev.succ ?_)
  ·exact Ev.succ (by simp only[qeO,qk (je _),cond_false];exact .done)
  ·simp only[qeO,qj a,cond_true,qA a,jd,qug c,wS j];simp only[qdb,jd,qdx];unfold portB;exact Ev.okP fun _=>Ev.okP1 fun _=>b
 unfold qkd;rw[qjp,qjp];refine Ev.bind g ?_;cases allN (fun j=>instB l d (gt d.Ab j)) d.Ab.length
 ·exact .done
 ·refine Ev.bind k ?_;cases allN (fun j=>portB d (gt d.Ak j)) d.Ak.length<;>exact .done
theorem qvd{l:qp}{d:qd}(h:qi2 l)(i:qlE d):Ev (fun n=>qkg n l d) (designB l d):=by
 have J:=i.Ab.len;have K:=i.Ak.len;have W:=i.As.len;have T:=h.Ay.len;have e:designB l d=((libB l&&(decide (d.Ab.length<=14)&&(decide (d.As.length<=30)&&(decide (d.Ak.length<=8)&&(d.Ab.all (instB l d)&&d.Ak.all (portB d))))))&&((namesB (d.Ab.map ql.Bd)&&(namesB (d.Ak.map qR.Bd)&&namesB d.As))&&drvB d)):=by
  unfold designB hasNamesB;generalize libB l=a1;generalize decide (d.Ab.length<=14)=a2;generalize decide (d.As.length<=30)=a3;generalize decide (d.Ak.length<=8)=a4;generalize d.Ab.all (instB l d)=a5;generalize d.Ak.all (portB d)=a6;generalize namesB (d.Ab.map ql.Bd)=a7;generalize namesB (d.Ak.map qR.Bd)=a8;generalize namesB d.As=a9;generalize drvB d=a10;rw[jn];simp only[jf];constructor
  ·rintro⟨⟨f,⟨p,r,u⟩,z,B,A⟩,v,y,o⟩;exact⟨⟨f,p,r,u,v,y⟩,⟨z,A,B⟩,o⟩
  ·rintro⟨⟨f,p,r,u,v,y⟩,⟨z,A,B⟩,o⟩;exact⟨⟨f,⟨p,r,u⟩,z,B,A⟩,v,y,o⟩
 rw[e];unfold qkg;refine Ev.guardB ?_ fun P=>?_
 ·refine Ev.or (qtj h) fun _=>?_;rw[show decide ((d.Ab.length:Int) > 14) = !decide (d.Ab.length<=14) by rw[jn];simp;omega,show decide ((d.As.length:Int) > 30) = !decide (d.As.length<=30) by rw[jn];simp;omega,show decide ((d.Ak.length:Int) > 8) = !decide (d.Ak.length<=8) by rw[jn];simp;omega];simp only[qdx];exact Ev.orBP fun _=>Ev.orBP fun _=>Ev.orBP fun _=>Ev.neg (qv9 h i)
 ·simp only[jf] at P;obtain⟨s,_,_,_,N,O⟩:=P;rw[qjp,qau] at N O;have C:Ev (fun n=>qdK d n ([]:List ByteArray) 0) (d.Ab.map ql.Bd,(d.Ab.length:Int)):=by
   refine loopF (Lf:=qdK d) (S:=fun j=>(d.Ab.take j).map ql.Bd) (len:=d.Ab.length) (fun n=>?_) (fun j a X b=>?_)
   ·simp only[qdK,qk (je _),cond_false,jE]
   ·simpa only[qdK,qj a,cond_true,qA a,jd,qnc a J,qgH (g:=ql.Bd) a,wS j] using b
  have D:Ev (fun n=>qdP d n ([]:List ByteArray) 0) (d.Ak.map qR.Bd,(d.Ak.length:Int)):=by
   refine loopF (Lf:=qdP d) (S:=fun j=>(d.Ak.take j).map qR.Bd) (len:=d.Ak.length) (fun n=>?_) (fun j a X b=>?_)
   ·simp only[qdP,qk (je _),cond_false,jE]
   ·simpa only[qdP,qj a,cond_true,qA a,jd,qnc a K,qgH (g:=qR.Bd) a,wS j] using b
  have F:Ev (fun n=>qdC d n (vecC (fun _=>0) d.As.length) 0) (vecC (fun k=>drvI d k d.Ab.length) d.As.length,(d.Ab.length:Int)):=by
   refine loopF (Lf:=qdC d) (S:=fun j=>vecC (fun k=>drvI d k j) d.As.length) (len:=d.Ab.length) (fun n=>?_) (fun j a X b=>?_)
   ·simp only[qdC,qk (je _),cond_false]
   ·have M:=(qoF i.Ab a).As.len;obtain⟨f,p,r⟩:=qs3 s (N j a);have Y:drvI d (lastN (gt d.Ab j)).toNat j<=j:=qgJ;obtain⟨e1,t⟩:=qnl (c:=fun k=>drvI d k j) (c':=fun k=>drvI d k (j+1)) p r (by show drvI _ _ _<_;omega) (fun k _=>qrf);simpa only[qdC,qj a,cond_true,qA a,jd,wS j,qvX f M,e1,t] using b
  have H:Ev (fun n=>qcN d n (vecC (fun k=>drvI d k d.Ab.length) d.As.length) 0) (vecC (fun k=>drvI d k d.Ab.length+drvP d k d.Ak.length) d.As.length,(d.Ak.length:Int)):=by
   refine loopF (Lf:=qcN d) (S:=fun j=>vecC (fun k=>drvI d k d.Ab.length+drvP d k j) d.As.length) (len:=d.Ak.length) (fun n=>?_) (fun j a X b=>?_)
   ·simp only[qcN,qk (je _),cond_false]
   ·have hi:=O j a;unfold portB netB at hi;simp only[jf,qbi] at hi;have Q:drvI d (gt d.Ak j).Ca.toNat d.Ab.length<=d.Ab.length:=qgJ;have R:drvP d (gt d.Ak j).Ca.toNat j<=j:=qgJ;simp only[qcN,qj a,cond_true,qA a,jd,wS j];cases f:((gt d.Ak j).Bx==1)
    ·have:vecC (fun k=>drvI d k d.Ab.length+drvP d k (j+1)) d.As.length=vecC (fun k=>drvI d k d.Ab.length+drvP d k j) d.As.length:=by
      refine qlN (fun k _=>?_);rw[qo6,f];rfl
     rw[this] at b;exact b
    ·obtain⟨e1,t⟩:=qnl (c:=fun k=>drvI d k d.Ab.length+drvP d k j) (c':=fun k=>drvI d k d.Ab.length+drvP d k (j+1)) (x:=(gt d.Ak j).Ca) (m:=d.As.length) hi.2.1 (by omega) (by show drvI _ _ _+drvP _ _ _<_;omega) (fun k _=>by rw[qo6,f,jG];omega);simp only[cond_true,jd,e1,t];exact b
  have I:Ev (fun n=>qeW (vecC (fun _=>0) d.As.length) (vecC (fun k=>drvI d k d.Ab.length+drvP d k d.Ak.length) d.As.length) n 0) (bif drvB d then .nxt (d.As.length:Int) else .ret false):=by
   refine qe6 ?_ (fun j a X b=>Ev.succ ?_)
   ·exact Ev.succ (by simp only[qeW,qoX,qk (je _),cond_false];exact .done)
   ·simp only[qeW,qoX,qj a,cond_true,qlJ a,jd,bne,qdx,wS j];exact Ev.okP1 fun _=>b
  refine Ev.bind C (Ev.bind D ?_);refine Ev.guardB (Ev.or (qov (qpe i.Ab (fun x L=>L.Bd))) fun _=>Ev.or (qov (qpe i.Ak (fun x L=>L.Bd))) fun _=>Ev.neg (qov i.As)) fun _=>?_;rw[qpc (m:=d.As.length) (by omega)];simp only[jd];refine Ev.bind F (Ev.bind H (Ev.bind I ?_));cases drvB d<;>exact .done

theorem qBf{m k:Nat}:decide ((m:Int)<(k:Int)) = !decide (k<=m):=by rw[jn];simp
theorem qBc{m k:Nat}:decide ((m:Int) > (k:Int)) = !decide (m<=k):=by rw[jn];simp
def treeB(w:qE)(j:Nat):Bool:=bif decide (j=0) then(at0 w.Az j==-1)&&(at0 w.Bz j==0) else inI (at0 w.Az j) 0 ((j:Int)-1)
def wireB(w:qE)(s:Int):Bool:=
 lenB w.Az 1 8&&(((w.Bz.length:Int)==(w.Az.length:Int))&&(((w.Bu.length:Int)==(w.Az.length:Int))&&(allN (treeB w) w.Az.length &&
  ((w.Bz.all fun x=>inI x 0 1000)&&((w.Bu.all fun x=>inI x 0 500)&&(((w.Bn.length:Int)==s)&&(w.Bn.all fun x=>inI x 0 ((w.Az.length:Int)-1))))))))
theorem qyp{w:qE}(i:w.Az.length<=1048576)(h:((w.Bz.length:Int)==(w.Az.length:Int))=true):Ev (fun n=>qif n w) (allN (treeB w) w.Az.length):=by
 rw[beq_iff_eq] at h;have g:Ev (fun n=>qbm w n 0) (bif allN (treeB w) w.Az.length then .nxt (w.Az.length:Int) else .ret false):=by
  refine qe6 ?_ (fun j b X a=>Ev.succ ?_)
  ·exact Ev.succ (by simp only[qbm,qk (je _),cond_false];exact .done)
  ·simp only[qbm,qj b,cond_true,qat b,jd,qec,wS j,bne,qdx];unfold treeB;by_cases f:j=0
   ·subst f;rw[show idx w.Bz (0:Int)=V (at0 w.Bz 0) from qat (j:=0) (by omega)];simp only[jd];refine Ev.tt (by simp) (Ev.okP fun _=>Ev.okP1 fun _=>Ev.ff (by simp) a)
   ·have e1:decide (j=0)=false:=by simp;omega
    have c:((j:Int)==0)=false:=by simp;omega
    have d:decide ((j:Int) > 0)=true:=by simp;omega
    rw[e1,c,d,qfG (show j<=9223372036854775807 by omega)];simp only[cond_false,cond_true];exact Ev.okP1 fun _=>a
 unfold qif;refine Ev.bind g ?_;cases allN (treeB w) w.Az.length<;>exact .done
theorem qyZ{w:qE}{s:Int}(h:qqg w):Ev (fun n=>qmi n w s) (wireB w s):=by
 have a:=h.Az.len;simp only[qmi,qbA,jd,qec,qfG (show w.Az.length<=9223372036854775807 by omega)];unfold wireB;rw[show inI (w.Az.length:Int) 1 8=lenB w.Az 1 8 from qup (lo:=1) (hi:=8)];exact Ev.andP fun _=>Ev.andP fun b=>Ev.andP fun _=>Ev.and (qyp a b) fun _=>Ev.and (qey h.Bz.len) fun _=>Ev.and (qey h.Bu.len) fun _=>Ev.andP fun _=>Ev.last (qey h.Bn.len)
theorem qw3{w:qE}{s:Int}(h:qqg w):Ev (fun n=>qmj n w s) (wireB w s):=by
 have r:=h.Az.len;have o:=h.Bn.len;have e:wireB w s=((decide (1<=w.Az.length)&&(decide (w.Az.length<=8)&&(((w.Bz.length:Int)==(w.Az.length:Int))&&(((w.Bu.length:Int)==(w.Az.length:Int))&&((w.Bn.length:Int)==s)))))&&(allN (fun j=>(inI (at0 w.Bu j) 0 500&&inI (at0 w.Bz j) 0 1000)&&treeB w j) w.Az.length&&(w.Bn.all fun x=>inI x 0 ((w.Az.length:Int)-1)))):=by
  unfold wireB lenB;cases h1:((w.Bz.length:Int)==(w.Az.length:Int))
  ·simp
  ·cases h2:((w.Bu.length:Int)==(w.Az.length:Int))
   ·simp
   ·rw[beq_iff_eq] at h1 h2;rw[qmZ,qmZ];rw[qhC (p:=fun x=>inI x 0 1000) (d:=0),qhC (p:=fun x=>inI x 0 500) (d:=0),show w.Bz.length=w.Az.length by omega,show w.Bu.length=w.Az.length by omega];show _=(_&&((allN (fun j=>inI (w.Bu.getD j 0) 0 500) _&&allN (fun j=>inI (w.Bz.getD j 0) 0 1000) _&&_)&&_));generalize allN (fun j=>inI (w.Bu.getD j 0) 0 500) w.Az.length=a1;generalize allN (fun j=>inI (w.Bz.getD j 0) 0 1000) w.Az.length=a2;generalize allN (fun j=>treeB w j) w.Az.length=a3;generalize ((w.Bn.length:Int)==s)=a4;generalize decide (1<=w.Az.length)=a5;generalize decide (w.Az.length<=8)=a6;generalize (w.Bn.all fun x=>inI x 0 ((w.Az.length:Int)-1))=a7;cases a1<;>cases a2<;>cases a3<;>cases a4<;>cases a5<;>cases a6<;>rfl
 rw[e];unfold qmj;refine Ev.guardB ?_ fun m=>?_
 ·rw[show decide ((w.Az.length:Int)<1) = !decide (1<=w.Az.length) from qBf (k:=1),show decide ((w.Az.length:Int) > 8) = !decide (w.Az.length<=8) from qBc (k:=8)];simp only[bne,qdx];exact Ev.orBP fun _=>Ev.orBP fun _=>Ev.orBP fun _=>Ev.orBP fun _=>.done
 ·simp only[jf,beq_iff_eq] at m;have c:Ev (fun n=>qc9 w n 0) (bif allN (fun j=>(inI (at0 w.Bu j) 0 500&&inI (at0 w.Bz j) 0 1000)&&treeB w j) w.Az.length then .nxt (w.Az.length:Int) else .ret false):=by
   refine qe6 ?_ (fun j a X b=>Ev.succ ?_)
   ·exact Ev.succ (by simp only[qc9,qk (je _),cond_false];exact .done)
   ·simp only[qc9,qj a,cond_true,qat a,qat (show j<w.Bu.length by omega),qat (show j<w.Bz.length by omega),jd,qdb,wS j,bne,qdx];refine Ev.chkT (Ev.orBP fun _=>.done) fun _=>?_;unfold treeB;by_cases l:j=0
    ·subst l;refine Ev.tt (by simp) (Ev.okP fun _=>Ev.okP1 fun _=>Ev.ff (by simp) b)
    ·have e1:decide (j=0)=false:=by simp;omega
     have g:((j:Int)==0)=false:=by simp;omega
     have i:decide ((j:Int) > 0)=true:=by simp;omega
     rw[e1,g,i,qfG (show j<=9223372036854775807 by omega)];simp only[cond_false,cond_true];exact Ev.okP1 fun _=>b
  have f:Ev (fun n=>qgs w n 0) (bif (w.Bn.all fun x=>inI x 0 ((w.Az.length:Int)-1)) then .nxt (w.Bn.length:Int) else .ret false):=
   qqa (fun n=>by simp only[qgs,qk (je _),cond_false]) (fun j a X b=>by
    simp only[qgs,qj a,cond_true,qdA a,jd,qdb,qfG (show w.Az.length<=9223372036854775807 by omega),wS j,qdx];exact Ev.okP1 fun _=>b)
  refine Ev.bind c ?_;cases allN (fun j=>(inI (at0 w.Bu j) 0 500&&inI (at0 w.Bz j) 0 1000)&&treeB w j) w.Az.length
  ·exact .done
  ·refine Ev.bind f ?_;cases (w.Bn.all fun x=>inI x 0 ((w.Az.length:Int)-1))<;>exact .done
instance:Inhabited Tplace:=⟨⟨0,0,0,false⟩⟩
instance:Inhabited Tl05Place:=⟨⟨0,0,0,false⟩⟩
def toSp(p:Tplace):Tl05Place:=⟨p.instance_,p.pin,p.net,p.drives⟩
def plX(i:Nat)(x:ql)(j:Nat):List Tplace:=(List.range j).map fun(k:Nat)=>⟨(i:Int),(k:Int),at0 x.As k,decide (k+1=x.As.length)⟩
def plI(d:qd)(j:Nat):List Tplace:=(List.range j).flatMap fun(i:Nat)=>plX i (gt d.Ab i) (gt d.Ab i).As.length
def plP(d:qd)(j:Nat):List Tplace:=(List.range j).map fun(i:Nat)=>⟨-1,(i:Int),(gt d.Ak i).Ca,(gt d.Ak i).Bx==1⟩
def places(d:qd):List Tplace:=plI d d.Ab.length++plP d d.Ak.length
theorem qwm{i:Nat}{x:ql}{j:Nat}:plX i x (j+1)=plX i x j++[⟨(i:Int),(j:Int),at0 x.As j,decide (j+1=x.As.length)⟩]:=by
 unfold plX;rw[List.range_succ,jL];rfl
theorem qou{d:qd}{j:Nat}:plI d (j+1)=plI d j++plX j (gt d.Ab j) (gt d.Ab j).As.length:=by
 unfold plI;rw[List.range_succ,Jl];simp
theorem qvV{d:qd}{j:Nat}:plP d (j+1)=plP d j++[⟨-1,(j:Int),(gt d.Ak j).Ca,(gt d.Ak j).Bx==1⟩]:=by
 unfold plP;rw[List.range_succ,jL];rfl
theorem qsb{i:Nat}{x:ql}{j:Nat}:(plX i x j).length=j:=by simp[plX]
theorem qr7{d:qd}{j:Nat}:(plP d j).length=j:=by simp[plP]
structure smallD(d:qd):Prop where
 ni:d.Ab.length<=14
 nn:d.As.length<=30
 np:d.Ak.length<=8
 nx:∀i,i<d.Ab.length->2<=(gt d.Ab i).As.length/\(gt d.Ab i).As.length<=5
theorem qQ{l:qp}{d:qd}(h:designB l d=true):smallD d:=by
 unfold designB hasNamesB libB at h;simp only[jf,decide_eq_true_eq] at h;obtain⟨⟨⟨b,_⟩,⟨c,f,g⟩,_⟩,a,_⟩:=h;refine⟨c,f,g,fun i hi=>?_⟩;rw[qjp,qau] at a b;have:=a i hi;unfold instB at this;simp only[jf,qbi,beq_iff_eq] at this;have k:=qhD (qj0 (b (gt d.Ab i).Bv.toNat (by omega)));omega
theorem qqs{d:qd}(h:smallD d){j:Nat}(a:j<=d.Ab.length):(plI d j).length<=5*j:=by
 induction j with
 |zero=>exact je _
 |succ j ih=>
  rw[qou,jg,qsb];have:=ih (by omega);have:=h.nx j (by omega);omega
theorem qaU{d:qd}(h:smallD d):(places d).length<=78:=by
 unfold places;rw[jg,qr7];have:=qqs h (je _);have:=h.ni;have:=h.np;omega
theorem qpa{d:qd}(h:smallD d):Ev (fun n=>qcJ n d) (places d):=by
 have l:=h.ni;have m:=h.np;have f:∀i,i<d.Ab.length->∀pre:List Tplace,pre.length<=100->Ev (fun n=>qbS (i:Int) (gt d.Ab i) n pre 0) (pre++plX i (gt d.Ab i) (gt d.Ab i).As.length,((gt d.Ab i).As.length:Int)):=by
  intro i hi pre p;have o:=h.nx i hi;have:=loopF (Lf:=qbS (i:Int) (gt d.Ab i)) (S:=fun j=>pre++plX i (gt d.Ab i) j) (len:=(gt d.Ab i).As.length) (fin:=(pre++plX i (gt d.Ab i) (gt d.Ab i).As.length,((gt d.Ab i).As.length:Int))) (fun n=>by
    simp only[qbS,qk (je _),cond_false])
   (fun j a X b=>by
    have k:(pre++plX i (gt d.Ab i) j).length+[(⟨(i:Int),(j:Int),at0 (gt d.Ab i).As j,decide (j+1=(gt d.Ab i).As.length)⟩:Tplace)].length<=2147483648:=by
     rw[jg,qsb];simp;omega
    simp only[qbS,qj a,cond_true,qat a,jd,lastE a (show(gt d.Ab i).As.length<=1048576 by omega),qbn k,jq,<-qwm,wS j];exact b)
  simpa [plX] using this
 have c:Ev (fun n=>qbT d n ([]:List Tplace) 0) (plI d d.Ab.length,(d.Ab.length:Int)):=by
  refine loopF (Lf:=qbT d) (S:=fun j=>plI d j) (len:=d.Ab.length) (fun n=>?_) (fun j a X b=>?_)
  ·simp only[qbT,qk (je _),cond_false]
  ·simp only[qbT,qj a,cond_true,qA a,jd,wS j];refine Ev.bind (f j a _ (by have:=qqs h (Nat.le_of_lt a);omega)) ?_;rw[<-qou];exact b
 have g:Ev (fun n=>qbU d n (plI d d.Ab.length) 0) (places d,(d.Ak.length:Int)):=by
  have:=loopF (Lf:=qbU d) (S:=fun j=>plI d d.Ab.length++plP d j) (len:=d.Ak.length) (fin:=(places d,(d.Ak.length:Int))) (fun n=>by
    simp only[qbU,qk (je _),cond_false];rfl)
   (fun j a X b=>by
    have k:(plI d d.Ab.length++plP d j).length+[(⟨-1,(j:Int),(gt d.Ak j).Ca,(gt d.Ak j).Bx==1⟩:Tplace)].length<=2147483648:=by
     rw[jg,qr7];have:=qqs h (je _);simp;omega
    simp only[qbU,qj a,cond_true,qA a,jd,qbn k,jq,<-qvV,wS j];exact b)
  simpa [plP] using this
 unfold qcJ;exact Ev.bind c (Ev.bind g .done)
theorem qi3{d:qd}(h:smallD d):Ev (fun n=>qcA n d) ((places d).map toSp):=by
 have l:=h.ni;have m:=h.np;have f:∀i,i<d.Ab.length->∀pre:List Tplace,pre.length<=100->Ev (fun n=>qc2 (i:Int) (gt d.Ab i) n (pre.map toSp) 0) ((pre++plX i (gt d.Ab i) (gt d.Ab i).As.length).map toSp,((gt d.Ab i).As.length:Int)):=by
  intro i hi pre p;have o:=h.nx i hi;have:=loopF (Lf:=qc2 (i:Int) (gt d.Ab i)) (S:=fun j=>(pre++plX i (gt d.Ab i) j).map toSp) (len:=(gt d.Ab i).As.length) (fin:=((pre++plX i (gt d.Ab i) (gt d.Ab i).As.length).map toSp,((gt d.Ab i).As.length:Int))) (fun n=>by
    simp only[qc2,qk (je _),cond_false])
   (fun j a X b=>by
    have k:((pre++plX i (gt d.Ab i) j).map toSp).length+[(⟨(i:Int),(j:Int),at0 (gt d.Ab i).As j,decide (j+1=(gt d.Ab i).As.length)⟩:Tl05Place)].length<=2147483648:=by
     rw[ju,jg,qsb];simp;omega
    simp only[qc2,qj a,cond_true,qat a,jd,lastE a (show(gt d.Ab i).As.length<=1048576 by omega),qbn k,wS j];rw[qwm,<-jq,jL] at b;exact b)
  simpa [plX] using this
 have c:Ev (fun n=>qc0 d n ([]:List Tl05Place) 0) ((plI d d.Ab.length).map toSp,(d.Ab.length:Int)):=by
  refine loopF (Lf:=qc0 d) (S:=fun j=>(plI d j).map toSp) (len:=d.Ab.length) (fun n=>?_) (fun j a X b=>?_)
  ·simp only[qc0,qk (je _),cond_false]
  ·simp only[qc0,qj a,cond_true,qA a,jd,wS j];refine Ev.bind (f j a _ (by have:=qqs h (Nat.le_of_lt a);omega)) ?_;rw[<-qou];exact b
 have g:Ev (fun n=>qcZ d n ((plI d d.Ab.length).map toSp) 0) ((places d).map toSp,(d.Ak.length:Int)):=by
  have:=loopF (Lf:=qcZ d) (S:=fun j=>(plI d d.Ab.length++plP d j).map toSp) (len:=d.Ak.length) (fin:=((places d).map toSp,(d.Ak.length:Int))) (fun n=>by
    simp only[qcZ,qk (je _),cond_false];rfl)
   (fun j a X b=>by
    have k:((plI d d.Ab.length++plP d j).map toSp).length+[(⟨-1,(j:Int),(gt d.Ak j).Ca,(gt d.Ak j).Bx==1⟩:Tl05Place)].length<=2147483648:=by
     rw[ju,jg,qr7];have:=qqs h (je _);simp;omega
    simp only[qcZ,qj a,cond_true,qA a,jd,qbn k,wS j];rw[qvV,<-jq,jL] at b;exact b)
  simpa [plP] using this
 unfold qcA;exact Ev.bind c (Ev.bind g .done)
def snkQ(d:qd)(k:Int)(i:Nat):Bool:=((gt (places d) i).net==k)&&!(gt (places d) i).drives
def sinksL(d:qd)(k:Int)(j:Nat):List Int:=((List.range j).filter (snkQ d k)).map fun(i:Nat)=>(i:Int)
def snkN(d:qd)(k:Int):Nat:=cntP (snkQ d k) (places d).length
theorem qkD{d:qd}{k:Int}{j:Nat}:sinksL d k (j+1)=sinksL d k j++(bif snkQ d k j then[(j:Int)] else[]):=by
 unfold sinksL;rw[List.range_succ,List.filter_append,jL]
 congr 1
 cases h:snkQ d k j<;>simp[h]
theorem qjX{d:qd}{k:Int}{j:Nat}:(sinksL d k j).length=cntP (snkQ d k) j:=by
 induction j with
 |zero=>rfl
 |succ j ih=>
  rw[qkD,jg,ih];show _=cntP (snkQ d k) j+_
  congr 1
  cases snkQ d k j<;>rfl
theorem qqI{α β:Type}[Inhabited α][Inhabited β]{xs:List α}{g:α->β}{j:Nat}(h:j<xs.length):gt (xs.map g) j=g (gt xs j):=by
 rw[qcG (by simpa using h),qcG h];simp
theorem qoT{d:qd}{k:Int}(h:smallD d):Ev (fun n=>qhg n d k) (sinksL d k (places d).length):=by
 have l:=qaU h;have g:Ev (fun n=>qcS k ((places d).map toSp) n ([]:List Int) 0) (sinksL d k (places d).length,((places d).length:Int)):=by
  refine loopF (Lf:=qcS k ((places d).map toSp)) (S:=fun j=>sinksL d k j) (len:=(places d).length) (fun n=>?_) (fun j f X a=>?_)
  ·simp only[qcS,ju,qk (je _),cond_false]
  ·have c:j<((places d).map toSp).length:=by simpa using f
   have i:(sinksL d k j).length+[(j:Int)].length<=2147483648:=by
    rw[qjX];have:cntP (snkQ d k) j<=j:=qgJ;simp;omega
   simp only[qcS,qj c,cond_true,qA c,qqI f,jd,wS j];rw[show ∀p:Tplace,(toSp p).net=p.net from fun _=>rfl,show ∀p:Tplace,(toSp p).drives=p.drives from fun _=>rfl];refine Ev.bind (b:=snkQ d k j) (Ev.andP fun _=>.done) ?_;rw[qkD] at a;cases hq:snkQ d k j
   ·rw[hq] at a;simp only[cond_false,jU] at a⊢;exact a
   ·rw[hq] at a;simp only[cond_true,qbn i,jd] at a⊢;exact a
 unfold qhg;exact Ev.bind (qi3 h) (Ev.bind g .done)
theorem qnX{l:qp}{d:qd}(h:designB l d=true){i:Nat}(hi:i<(places d).length):0<=(gt (places d) i).net/\(gt (places d) i).net<d.As.length:=by
 unfold designB at h;simp only[jf] at h;obtain⟨_,f,g,_⟩:=h;rw[qjp,qau] at f g;have a:gt (places d) i∈places d:=by rw[qcG hi];exact jp hi
 generalize gt (places d) i=p at a;unfold places at a;rcases List.mem_append.1 a with a|a
 ·unfold plI at a;obtain⟨i,hi,a⟩:=List.mem_flatMap.1 a;unfold plX at a;obtain⟨k,m,rfl⟩:=List.mem_map.1 a;have:=f i (List.mem_range.1 hi);unfold instB at this;simp only[jf] at this;have b:=this.2.2;rw[qhC (d:=0),qau] at b;have c:=b k (List.mem_range.1 m);unfold netB at c;rw[qbi] at c;show 0<=at0 _ _/\at0 _ _<_;unfold at0;omega
 ·unfold plP at a;obtain⟨i,hi,rfl⟩:=List.mem_map.1 a;have:=g i (List.mem_range.1 hi);unfold portB netB at this;simp only[jf,qbi] at this;show 0<=(gt d.Ak i).Ca/\(gt d.Ak i).Ca<_;omega
def blockB(b:qh):Bool:=(designB b.Au b.Aa&&((b.Ai.length:Int)==(b.Aa.As.length:Int)))&&allN (fun j=>wireB (gt b.Ai j) (snkN b.Aa (j:Int))) b.Ai.length
theorem qxi{b:qh}(h:qm0 b):Ev (fun n=>qjC n b) (blockB b):=by
 have r:=h.Ai.len;unfold qjC blockB;refine Ev.guardB (Ev.or (qwj h.Au h.Aa) fun _=>.done) fun l=>?_;rw[jf,beq_iff_eq] at l;obtain⟨o,y⟩:=l;have i:=qQ o;have u:=qaU i;have v:=i.nn;rw[qpc (m:=b.Ai.length) (by omega)];simp only[jd];have f:Ev (fun n=>qdn (places b.Aa) n (vecC (fun _=>0) b.Ai.length) 0) (vecC (fun k=>snkN b.Aa (k:Int)) b.Ai.length,((places b.Aa).length:Int)):=by
  refine loopF (Lf:=qdn (places b.Aa)) (S:=fun j=>vecC (fun k=>cntP (snkQ b.Aa (k:Int)) j) b.Ai.length) (len:=(places b.Aa).length) (fun n=>?_) (fun j a X d=>?_)
  ·simp only[qdn,qk (je _),cond_false];rfl
  ·simp only[qdn,qj a,cond_true,qA a,jd,wS j];obtain⟨s,z⟩:=qnX o a;cases h1:(gt (places b.Aa) j).drives
   ·have t:cntP (snkQ b.Aa (((gt (places b.Aa) j).net.toNat:Nat):Int)) j<=j:=qgJ;obtain⟨e1,p⟩:=qnl (c:=fun k=>cntP (snkQ b.Aa (k:Int)) j) (c':=fun k=>cntP (snkQ b.Aa (k:Int)) (j+1)) (x:=(gt (places b.Aa) j).net) (m:=b.Ai.length) s (by omega) (by show cntP _ _<_;omega) (fun k _=>by
     show cntP _ j+(bif snkQ b.Aa (k:Int) j then 1 else 0)=_;unfold snkQ;rw[h1,Bool.not_false,Bool.and_true])
    simp only[Bool.not_false,cond_true,jd,e1,p];exact d
   ·have:vecC (fun k=>cntP (snkQ b.Aa (k:Int)) (j+1)) b.Ai.length=vecC (fun k=>cntP (snkQ b.Aa (k:Int)) j) b.Ai.length:=by
     refine qlN (fun k _=>?_);show cntP _ j+(bif snkQ b.Aa (k:Int) j then 1 else 0)=_;unfold snkQ;rw[h1,Ji,Bool.and_false];rfl
    rw[this] at d;exact d
 have g:Ev (fun n=>qfn b (vecC (fun k=>snkN b.Aa (k:Int)) b.Ai.length) n 0) (bif allN (fun j=>wireB (gt b.Ai j) (snkN b.Aa (j:Int))) b.Ai.length then .nxt (b.Ai.length:Int) else .ret false):=by
  refine qe6 ?_ (fun j a X d=>Ev.succ ?_)
  ·exact Ev.succ (by simp only[qfn,qk (je _),cond_false];exact .done)
  ·simp only[qfn,qj a,cond_true,qA a,qlJ a,jd,wS j];exact Ev.chk1 (qyZ (qoF h.Ai a)) fun _=>d
 refine Ev.bind (qpa i) (Ev.bind f (Ev.bind g ?_));cases allN (fun j=>wireB (gt b.Ai j) (snkN b.Aa (j:Int))) b.Ai.length<;>exact .done
theorem qo3{b:qh}(h:qm0 b):Ev (fun n=>qim n b) (blockB b):=by
 have i:=h.Ai.len;unfold qim blockB;refine Ev.guardB (Ev.or (qvd h.Au h.Aa) fun _=>.done) fun c=>?_;rw[jf] at c;have g:=qQ c.1;have d:Ev (fun n=>qfm b n 0) (bif allN (fun j=>wireB (gt b.Ai j) (snkN b.Aa (j:Int))) b.Ai.length then .nxt (b.Ai.length:Int) else .ret false):=by
  refine qe6 ?_ (fun j a X f=>Ev.succ ?_)
  ·exact Ev.succ (by simp only[qfm,qk (je _),cond_false];exact .done)
  ·simp only[qfm,qj a,cond_true,qA a,jd,wS j];refine Ev.bind (qoT g) ?_;rw[qjX];exact Ev.chk1 (qw3 (qoF h.Ai a)) fun _=>f
 refine Ev.bind d ?_;cases allN (fun j=>wireB (gt b.Ai j) (snkN b.Aa (j:Int))) b.Ai.length<;>exact .done

def off(d:qd)(i:Nat):Nat:=(plI d i).length
def place1(d:qd)(i k:Nat):Tplace:=⟨(i:Int),(k:Int),at0 (gt d.Ab i).As k,decide (k+1=(gt d.Ab i).As.length)⟩
def place2(d:qd)(i:Nat):Tplace:=⟨-1,(i:Int),(gt d.Ak i).Ca,(gt d.Ak i).Bx==1⟩
theorem ql3{d:qd}{i:Nat}:off d (i+1)=off d i+(gt d.Ab i).As.length:=by
 unfold off;rw[qou,jg,qsb]
theorem qw5{d:qd}{i j:Nat}(h:i<=j):off d i<=off d j:=by
 induction j with
 |zero=>
  obtain rfl:i=0:=by omega
  exact je _
 |succ j ih=>
  rcases Nat.lt_or_eq_of_le h with h|rfl
  ·rw[ql3];have:=ih (by omega);omega
  ·exact je _
theorem qhR{d:qd}:(places d).length=off d d.Ab.length+d.Ak.length:=by
 unfold places off;rw[jg,qr7]
theorem qBP{d:qd}{n i k:Nat}(hi:i<n)(c:k<(gt d.Ab i).As.length):off d i+k<off d n/\gt (plI d n) (off d i+k)=place1 d i k:=by
 induction n with
 |zero=>omega
 |succ n ih=>
  rw[qou,qnj];rcases Nat.lt_succ_iff_lt_or_eq.1 hi with h|rfl
  ·obtain⟨a,b⟩:=ih h;refine⟨by rw[ql3];omega,?_⟩;rw[if_pos (show off d i+k<(plI d n).length from a),b]
  ·refine⟨by rw[ql3];omega,?_⟩;rw[if_neg (by unfold off;omega),show off d i+k-(plI d i).length=k by unfold off;omega];exact qsX c
theorem qlA{d:qd}{i k:Nat}(hi:i<d.Ab.length)(c:k<(gt d.Ab i).As.length):off d i+k<(places d).length/\gt (places d) (off d i+k)=place1 d i k:=by
 obtain⟨a,b⟩:=qBP hi c;refine⟨by rw[qhR];omega,?_⟩;unfold places;rw[qnj,if_pos (show off d i+k<(plI d d.Ab.length).length from a),b]
theorem qt8{d:qd}{i:Nat}(hi:i<d.Ak.length):off d d.Ab.length+i<(places d).length/\gt (places d) (off d d.Ab.length+i)=place2 d i:=by
 refine⟨by rw[qhR];omega,?_⟩;unfold places;rw[qnj,if_neg (by unfold off;omega),show off d d.Ab.length+i-(plI d d.Ab.length).length=i by unfold off;omega];exact qsX hi
theorem qyM{d:qd}{n j:Nat}(a:j<off d n):∃i k,i<n/\k<(gt d.Ab i).As.length/\j=off d i+k:=by
 induction n with
 |zero=>exact absurd a (Jn _)
 |succ n ih=>
  by_cases h:j<off d n
  ·obtain⟨i,k,f,b,c⟩:=ih h;exact⟨i,k,by omega,b,c⟩
  ·rw[ql3] at a;exact⟨n,j-off d n,by omega,by omega,by omega⟩
theorem qmm{d:qd}{j:Nat}(c:j<(places d).length) :
  (∃i k,i<d.Ab.length/\k<(gt d.Ab i).As.length/\j=off d i+k/\gt (places d) j=place1 d i k) \/
  (∃i,i<d.Ak.length/\j=off d d.Ab.length+i/\gt (places d) j=place2 d i):=by
 rw[qhR] at c;by_cases h:j<off d d.Ab.length
 ·obtain⟨i,k,a,b,rfl⟩:=qyM h;exact .inl ⟨i,k,a,b,rfl,(qlA a b).2⟩
 ·refine .inr ⟨j-off d d.Ab.length,by omega,by omega,?_⟩;have:=(qt8 (d:=d) (i:=j-off d d.Ab.length) (by omega)).2;rwa [show off d d.Ab.length+(j-off d d.Ab.length)=j by omega] at this
def drvQ(d:qd)(k:Int)(j:Nat):Bool:=((gt (places d) j).net==k)&&(gt (places d) j).drives
theorem qvw{q:Nat->Bool}{m n:Nat}:cntP q (m+n)=cntP q m+cntP (fun j=>q (m+j)) n:=by
 induction n with
 |zero=>rfl
 |succ n ih=>
  show cntP q (m+n)+(bif q (m+n) then 1 else 0)=cntP q m+(cntP (fun j=>q (m+j)) n+(bif q (m+n) then 1 else 0));rw[ih];omega
theorem qyt{q:Nat->Bool}{n:Nat}{b:Bool}(h:1<=n)(a:∀j,j+1<n->q j=false)(c:q (n-1)=b):cntP q n=bif b then 1 else 0:=by
 obtain⟨m,rfl⟩:∃m,n=m+1:=⟨n-1,by omega⟩;show cntP q m+(bif q m then 1 else 0)=_;rw[qpd.2 (fun j d=>a j (by omega)),show m=m+1-1 by omega,c,jY]
theorem qwQ{d:qd}{k:Nat}(b:smallD d):cntP (drvQ d (k:Int)) (places d).length=drvI d k d.Ab.length+drvP d k d.Ak.length:=by
 rw[qhR,qvw]
 congr 1
 ·have:∀n,n<=d.Ab.length->cntP (drvQ d (k:Int)) (off d n)=drvI d k n:=by
   intro n
   induction n with
   |zero=>intro _;rfl
   |succ n ih=>
    intro f;rw[ql3,qvw,ih (by omega),qrf]
    congr 1
    have c:=(b.nx n (by omega)).1;refine qyt (by omega) (fun j a=>?_) ?_
    ·show drvQ d _ (off d n+j)=false;unfold drvQ;rw[(qlA (by omega) (by omega)).2];unfold place1;simp;omega
    ·show drvQ d _ (off d n+_)=_;unfold drvQ;rw[(qlA (by omega) (by omega)).2];unfold place1 lastN;simp;omega
  exact this _ (je _)
 ·refine qsH (fun j a=>?_);show drvQ d _ (off d _+j)=_;unfold drvQ;rw[(qt8 a).2];unfold place2;exact Bool.and_comm _ _
theorem qxJ{l:qp}{d:qd}(h:designB l d=true){k:Nat}(a:k<d.As.length):cntP (drvQ d (k:Int)) (places d).length=1:=by
 rw[qwQ (qQ h)];unfold designB drvB at h;simp only[jf] at h;have:=qau.1 h.2.2.2 k a;rw[beq_iff_eq] at this;omega
theorem qvv{l:qp}{d:qd}(h:designB l d=true){i j:Nat}(hi:i<(places d).length)(f:j<(places d).length)(c:(gt (places d) i).net=(gt (places d) j).net)(a:(gt (places d) i).drives=true)(b:(gt (places d) j).drives=true):i=j:=by
 obtain⟨g,m⟩:=qnX h hi;have e:=qgS g;have:=qxJ h (k:=(gt (places d) i).net.toNat) (by omega);refine qwk (Nat.le_of_eq this) hi f ?_ ?_
 ·unfold drvQ;rw[<-e,a];simp
 ·unfold drvQ;rw[<-e,b,c];simp
theorem qB6{l:qp}{d:qd}(h:designB l d=true){k:Int}(c:0<=k)(g:k<d.As.length):∃j,j<(places d).length/\(gt (places d) j).net=k/\(gt (places d) j).drives=true:=by
 have e:=qgS c;have:=qxJ h (k:=k.toNat) (by omega);have b:decide (0<cntP (drvQ d ((k.toNat:Nat):Int)) (places d).length)=true:=by rw[this];rfl
 rw[qwb,jI,qnL] at b;obtain⟨j,f,a⟩:=b;rw[Bool.not_eq_false',<-e] at a;unfold drvQ at a;simp only[jf,beq_iff_eq] at a;exact⟨j,f,a.1,a.2⟩
def cellAt(b:qh)(i:Int):qz:=gt b.Au.Ay (gt b.Aa.Ab i.toNat).Bv.toNat
theorem qh1{l:qp}{d:qd}(h:designB l d=true){i:Nat}(hi:i<d.Ab.length) :
  (0<=(gt d.Ab i).Bv/\(gt d.Ab i).Bv<l.Ay.length)/\(gt d.Ab i).As.length=(gt l.Ay (gt d.Ab i).Bv.toNat).Bh.length/\cellB (gt l.Ay (gt d.Ab i).Bv.toNat)=true:=by
 unfold designB libB at h;simp only[jf] at h;obtain⟨⟨⟨b,_⟩,_⟩,a,_⟩:=h;rw[qjp,qau] at a b;have:=a i hi;unfold instB at this;simp only[jf,qbi,beq_iff_eq] at this;exact⟨⟨this.1.1,by omega⟩,by omega,b _ (by omega)⟩
theorem qoK{c:qz}(h:cellB c=true){j:Nat}(f:j<c.Bc.length):(1<=(gt c.Bc j).Bi/\(gt c.Bc j).Bi<=5)/\(0<=(gt c.Bc j).Bm/\(gt c.Bc j).Bm<(c.Bh.length:Int)-1)/\(0<=(gt c.Bc j).To/\(gt c.Bc j).To<=(c.Bh.length:Int)-1)/\arcS c.Bh (gt c.Bc j)=true:=by
 unfold cellB at h;simp only[jf] at h;obtain⟨_,i,⟨d,_⟩,_,_,g⟩:=h;have:=qau.1 d j f;rw[jf,qzd i (quh g)] at this;have b:=this.1;refine⟨qtR b,?_⟩;have a:=b;unfold arcS at a;simp only[jf,qbi] at a;refine⟨⟨a.1.1.1,by omega⟩,a.1.2,b⟩
theorem qpL{c:qz}(h:cellB c=true):c.Bc.length<=8:=by
 unfold cellB at h;simp only[jf,decide_eq_true_eq] at h;exact h.2.2.1.2
theorem qar{b:qh}(h:blockB b=true):designB b.Au b.Aa=true:=by
 unfold blockB at h;simp only[jf] at h;exact h.1.1
end Go.Fw
