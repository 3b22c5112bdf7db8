/- By a program of mine (gen.py): for each function a plain function and the proof that the code computes it. -/
import Derived.Test.YtpiadipmfbjlbaaGreatDoorA2
import Derived.Test.YtpiadipmfbjlbaaGreatDoorFw34
open Option renaming bind_some->jd, some->V, none->U
open Nat renaming le_refl->je, zero_add->jU, le_trans->jX, not_lt_zero->Jk
open Bool renaming and_eq_true->jf, eq_iff_iff->jm, true_and->jG, not_eq_true'->jI, not_true->Jg
open List renaming length_append->jg, getElem?_eq_getElem->jh, getElem_mem->jp, append_assoc->jq, length_map->ju, length_take->jw, getD_eq_getElem?_getD->jC, take_length->jE, map_append->jQ, append_nil->jW, getElem_of_mem->jY, flatMap_append->Ji
open Int renaming toNat_natCast->jr

namespace Go.Fw
open Go Go.Proofs Go.Proofs.Tryz
open Go.RowKit (Below)
open Ch renaming own->oW,box->oX,grp->oG
open GoT renaming v->oV
open Go.Value renaming slice->oS
set_option maxRecDepth 100000
set_option maxHeartbeats 6400000
variable{n:Nat}{w:World}{cs1 cs2 cs3 cs4 cs5 cs6 cs7 cs8 cs9:List Value}
def qdF(a:qC)(i1:Int)(c:qY):Nat->Int->Option (Flow Bool Int)|0,_=>U|n+1,b=>bif decide (b<i1) then(idx a.Bc b).bind fun d=>bif (d.Bi==c.Bi) then(idx a.Bc b).bind fun f=>bif (f.Bl==c.Bl) then(idx a.Bc b).bind fun g=>bif (g.To==c.To) then V (.ret false) else qdF a i1 c n (W64 (b+1)) else qdF a i1 c n (W64 (b+1)) else qdF a i1 c n (W64 (b+1)) else V (.nxt b)
def qfR(a:qC):Nat->Int->Option (Flow Bool Int)|0,_=>U|n+1,b=>bif decide (b<(a.Bt.length:Int)) then(idx a.Bt b).bind fun d=>(qaq n d 0 1).bind fun c=>bif (!c) then V (.ret false) else qfR a n (W64 (b+1)) else V (.nxt b)
def qfP(a:qC):Nat->Int->Option (Flow Bool Int)|0,_=>U|n+1,i1=>bif decide (i1<(a.Bc.length:Int)) then(idx a.Bc i1).bind fun b=>(qlO n a b).bind fun r4=>bif (!r4) then V (.ret false) else(qdF a i1 b n 0).bind fun|.ret r=>V (.ret r)|.nxt _=>qfP a n (W64 (i1+1)) else V (.nxt i1)
def qlE(n:Nat)(a:qC):Option Bool:=(qkO n a).bind fun(c,h)=>(bif (!h) then V true else(qf5 n a.Bd).bind fun i=>bif (!i) then V true else bif decide ((a.Bc.length:Int) > 8) then V true else(qaq n a.Cc 0 100000).bind fun k=>bif (!k) then V true else(qaq n a.Bw 0 100000).bind fun l=>V (!l)).bind fun b1=>bif b1 then V false else(qfP a n 0).bind fun|.ret r=>V r|.nxt _=>(qjF n a).bind fun b=>bif (a.Bi==1) then(qfR a n 0).bind fun|.ret r=>V r|.nxt _=>bif (c==0) then(shlS 1 (IntKind.wrap .u64 (W64 ((a.Bh.length:Int)-1)))).bind fun m=>V ((a.Bt.length:Int)==m) else V false else bif (a.Bi==2) then bif (c==1) then(idx b 1).bind fun p=>bif (p==0) then(idx b 2).bind fun s=>(idx b 3).bind fun t=>bif (!((decide (s > 0))==(decide (t > 0)))) then V ((a.Bt.length:Int)==0) else V false else V false else V false else bif (a.Bi==3) then bif (c==1) then(idx b 1).bind fun d=>bif decide (d > 0) then(idx b 2).bind fun f=>bif decide (f > 0) then(idx b 3).bind fun g=>bif (g==0) then V ((a.Bt.length:Int)==0) else V false else V false else V false else V false else V false
theorem qrs{a:qC}(d:Ro w a cs1){r:Bool}(F:qlE n a=V r):RetV prog 312 [oV qC cs1] w r:=by
 obtain⟨Q,O,R,P,S,k3,rfl,_,s2,s3⟩:=qag d;refine zV 182 func312 Z fun h=>zSR (qx h Z Z fun _ b h=>X1 5 0 h Z ?_);obtain⟨⟨N,r3⟩,d1,F⟩:=qc F;refine qaM (N,r3) h (cB 323 Z) (qqO (h.old d) d1) Z Z Z Z fun _ _ _ d9 d3=>?_;obtain⟨_,_,rfl,e2,d4⟩:=d9.consI d3;obtain⟨rfl,h⟩:=e2.lastB d4;refine X0 8 Z ?_;obtain⟨T,s,_,F,c⟩:=bindE F;refine qa1 (fun e w'=>∃b1,T b1=V r/\e=[(1,vp b),(3,vi N),(40,.bool b1)]/\SH w w' [oX b (qed a Q R S O P k3) 251]) ?_ ?_
 ·refine X0 4 Z (qk (t:=17) F Z ?_ ?_)<;>intro F
  ·refine X0 24 Z ?_;obtain rfl:=qb F;exact rG ⟨_,c,rfl,h⟩ Z
  refine X1 5 0 h Z (zcB h F qia Z fun _ _ h F=>X0 4 Z (qk (t:=23) F Z ?_ ?_))<;>intro F
  ·refine X0 18 Z ?_;obtain rfl:=qb F;exact rG ⟨_,c,rfl,h⟩ Z
  refine X1 10 0 h Z (qk (t:=29) F Z ?_ ?_)<;>intro F
  ·refine X0 12 Z ?_;obtain rfl:=qb F;exact rG ⟨_,c,rfl,h⟩ Z
  refine X1 5 0 h Z (zcB h F qad Z fun _ _ h F=>X0 4 Z (qk (t:=35) F Z ?_ ?_))<;>intro F
  ·refine X0 6 Z ?_;obtain rfl:=qb F;exact rG ⟨_,c,rfl,h⟩ Z
  refine X1 5 0 h Z (zcB h F qad Z fun _ _ h F=>X0 4 Z ?_);obtain rfl:=qb F;exact rG ⟨_,c,rfl,h⟩ Z
 rintro _ _ ⟨b1,F,rfl,h⟩;subst s;refine qg Z F ?_ ?_<;>intro F
 ·exact X0 4 Z (rb h F Z)
 refine X0 6 Z ?_;obtain⟨o1,F,i⟩:=qc F;refine qm (rL (fun m e w'=>∃i1,qfP a m i1=V o1/\e=[(1,vp b),(3,vi N),(5,vi i1)]/\SH w w' [oX b (qed a Q R S O P k3) 251]) n ⟨_,F,rfl,h⟩ Z ?_);rintro m1 _ _ ⟨i1,F,rfl,h⟩;rcases m1 with _|m1
 ·cases F
 refine X1 9 0 h Z (qg Z F ?_ ?_)<;>intro F
 ·refine X1 8 0 h Z ?_;obtain⟨y1,_,F,a4,_,_,_,_,a9,c2,d5,W⟩:=s2.ix F;obtain⟨p4,k4,p5,k5,rfl,s4,s5⟩:=qah d5;refine zxe a9 c2 a4 Z (zc 0 (W.below h.below) Z (qp qa h Z Z Z fun _ l h=>zs 0 h Z fun _ h=>X2 6 1 0 h Z (zcB h F (qrG (h.old d) (qfS y1 (h.oldS s4) (h.oldS s5))) Z fun _ _ h F=>X0 2 Z (qg Z F ?_ ?_))))<;>intro F
  ·refine X0 4 Z ?_;obtain rfl:=qb F;replace F:=i;exact rb h F Z
  refine X0 5 Z ?_;obtain⟨o2,F,o⟩:=qc F;refine qm (rL (fun m e w'=>∃i2,qdF a i1 y1 m i2=V o2/\e=[(1,vp b),(3,vi N),(5,vi i1),(6,vp l),(7,vi i2)]/\SH w w' [oX l (qg7 y1 p4 p5 k4 k5) 238,oX b (qed a Q R S O P k3) 251]) m1 ⟨_,F,rfl,h⟩ Z ?_);rintro m2 _ _ ⟨i2,F,rfl,h⟩;rcases m2 with _|m2
  ·cases F
  refine X0 7 Z (qg Z F ?_ ?_)<;>intro F
  ·refine X0 4 Z (rD (Y1 2 1 h Z ?_));refine zd1 Z ?_;obtain⟨_,_,F,a5,_,_,_,_,b4,c3,d6,X⟩:=s2.ix F;obtain⟨_,_,_,_,rfl,_,_⟩:=qah d6;refine zdxe b4 c3 a5 Z (zd1 Z (zdc 0 (X.below h.below) Z (Y1 2 0 h Z ?_)));refine zd2 Z (qaR (t:=71) F Z ?_ ?_)<;>intro F
   ·refine Y1 4 1 h Z ?_;refine Y0 3 Z ?_;obtain⟨_,_,F,a6,_,_,_,_,b5,c4,d7,Y⟩:=s2.ix F;obtain⟨_,_,_,_,rfl,_,_⟩:=qah d7;refine zdxe b5 c4 a6 Z (Y0 3 Z (zdc 1 (Y.below h.below) Z (Y1 4 0 h Z ?_)));refine Y0 4 Z (qaR (t:=82) F Z ?_ ?_)<;>intro F
    ·refine Y1 4 1 h Z ?_;refine Y0 3 Z ?_;obtain⟨_,_,F,a7,_,_,_,_,b6,c5,d8,a3⟩:=s2.ix F;obtain⟨_,_,_,_,rfl,_,_⟩:=qah d8;refine zdxe b6 c5 a7 Z (Y0 3 Z (zdc 2 (a3.below h.below) Z (Y1 4 0 h Z ?_)));refine Y0 3 Z (dN h fun _ h=>qg Z F ?_ ?_)<;>intro F
     ·refine X0 4 Z ?_;obtain rfl:=qb F;replace F:=o;obtain rfl:=qb F;replace F:=i;exact rb h F Z
     exact X0 7 Z (rK ⟨_,F,rfl,h⟩ Z)
    exact Y0 10 Z (dN h fun _ h=>qb8 Z Z (X0 7 Z (rK ⟨_,F,rfl,h⟩ Z)))
   exact Y0 21 Z (dN h fun _ h=>qb8 Z Z (X0 7 Z (rK ⟨_,F,rfl,h⟩ Z)))
  refine qu Z ?_;obtain rfl:=qb F;replace F:=o;refine X0 6 Z ?_;replace h:=h.p [1] Z;exact rK ⟨_,F,rfl,h⟩ Z
 refine qu Z ?_;obtain rfl:=qb F;replace F:=i;refine X1 3 0 h Z (zcL h F (qp3 (h.old d)) Z fun _ _ _ _ _ h F=>X1 14 1 h Z (qg Z F ?_ ?_))<;>intro F
 ·refine X0 5 Z ?_;obtain⟨o3,F,p⟩:=qc F;refine qm ?_;replace h:=h.p [1] Z;refine rL (fun m e w'=>∃i3,qfR a m i3=V o3/\e=[(1,vp b),(3,vi N),(9,vi i3)]/\SH w w' [oX b (qed a Q R S O P k3) 251]) n ⟨_,F,rfl,h⟩ Z ?_;rintro m3 _ _ ⟨i3,F,rfl,h⟩;rcases m3 with _|m3
  ·cases F
  refine X1 9 0 h Z (qg Z F ?_ ?_)<;>intro F
  ·refine X1 8 0 h Z ?_;obtain⟨_,_,F,a8,_,_,_,_,b7,c6,rfl,u⟩:=s3.ix F;refine zxe b7 c6 a8 Z (zc 0 (u.below h.below) Z (zcB h F qad Z fun _ _ h F=>X0 2 Z (qg Z F ?_ ?_)))<;>intro F
   ·refine X0 4 Z ?_;obtain rfl:=qb F;replace F:=p;exact rb h F Z
   exact X0 7 Z (rK ⟨_,F,rfl,h⟩ Z)
  refine qu Z ?_;obtain rfl:=qb F;replace F:=p;refine X0 5 Z (qk (t:=115) F Z ?_ ?_)<;>intro F
  ·refine X2 17 0 0 h Z ?_;obtain⟨_,k,F⟩:=qc F;obtain⟨g1,k⟩:=qs4 k;refine r_v (qz8 g1 Z Z) Z ?_;rw[k];exact X0 5 Z (rb h F Z)
  exact X0 13 Z (rb h F Z)
 refine X0 5 Z (qg Z F ?_ ?_)<;>intro F
 ·refine qW (rD (zd3 Z (qaR (t:=131) F Z ?_ ?_)))<;>intro F
  ·refine Y0 3 Z ?_;obtain⟨_,_,F,C,_,_,_,_,b8,c7,rfl,v⟩:=(h.sl 0 Z).1.ix F;refine zdx b8 c7 ⟨C.1,qD C.2.1 (h.sl 0 Z).2⟩ Z (Y0 1 Z (zdc 0 v Z (Y0 4 Z (qaR (t:=137) F Z ?_ ?_))))<;>intro F
   ·refine Y0 3 Z ?_;obtain⟨_,_,F,D,_,_,_,_,b9,c8,rfl,x⟩:=(h.sl 0 Z).1.ix F;refine zdx b9 c8 ⟨D.1,qD D.2.1 (h.sl 0 Z).2⟩ Z (Y0 1 Z (zdc 0 x Z (Y0 5 Z ?_)));obtain⟨_,_,F,H,_,_,_,_,c0,c9,rfl,y⟩:=(h.sl 0 Z).1.ix F;refine zdx c0 c9 ⟨H.1,qD H.2.1 (h.sl 0 Z).2⟩ Z (Y0 1 Z (zdc 0 y Z (Y0 6 Z (qaR (t:=148) F Z ?_ ?_))))<;>intro F
    ·refine Y1 4 1 h Z ?_;exact Y0 6 Z (dN h fun _ h=>rb h F Z)
    exact Y0 6 Z (dN h fun _ h=>rb h F Z)
   exact Y0 17 Z (dN h fun _ h=>rb h F Z)
  exact Y0 23 Z (dN h fun _ h=>rb h F Z)
 refine X0 5 Z (qg Z F ?_ ?_)<;>intro F
 ·refine X0 5 Z (qk (t:=158) F Z ?_ ?_)<;>intro F
  ·refine X0 3 Z ?_;obtain⟨_,_,F,I,_,_,_,_,c1,d0,rfl,z⟩:=(h.sl 0 Z).1.ix F;refine zx c1 d0 ⟨I.1,qD I.2.1 (h.sl 0 Z).2⟩ Z (X0 1 Z (zc 0 z Z (X0 4 Z (qk (t:=164) F Z ?_ ?_))))<;>intro F
   ·refine X0 3 Z ?_;obtain⟨_,_,F,f,_,_,_,_,J,L,rfl,A⟩:=(h.sl 0 Z).1.ix F;refine zx J L ⟨f.1,qD f.2.1 (h.sl 0 Z).2⟩ Z (X0 1 Z (zc 0 A Z (X0 4 Z (qk (t:=170) F Z ?_ ?_))))<;>intro F
    ·refine X0 3 Z ?_;obtain⟨_,_,F,g,_,_,_,_,K,M,rfl,B⟩:=(h.sl 0 Z).1.ix F;refine zx K M ⟨g.1,qD g.2.1 (h.sl 0 Z).2⟩ Z (X0 1 Z (zc 0 B Z (X0 4 Z (qk (t:=176) F Z ?_ ?_))))<;>intro F
     ·exact X1 11 1 h Z (rb h F Z)
     exact X0 7 Z (rb h F Z)
    exact X0 13 Z (rb h F Z)
   exact X0 19 Z (rb h F Z)
  exact X0 25 Z (rb h F Z)
 exact X0 6 Z (rb h F Z)
def qdQ(l:qn)(i1:Int):Nat->Int->Option (Flow Bool Int)|0,_=>U|n+1,a=>bif decide (a<i1) then(idx l.Ay a).bind fun b=>(idx l.Ay i1).bind fun c=>bif (b.Bd.toList==c.Bd.toList) then V (.ret false) else qdQ l i1 n (W64 (a+1)) else V (.nxt a)
def qdO(l:qn):Nat->Int->Option (Flow Bool Int)|0,_=>U|n+1,i1=>bif decide (i1<(l.Ay.length:Int)) then(idx l.Ay i1).bind fun b=>(qlE n b).bind fun a=>bif (!a) then V (.ret false) else(qdQ l i1 n 0).bind fun|.ret r=>V (.ret r)|.nxt _=>qdO l n (W64 (i1+1)) else V (.nxt i1)
def qiR(n:Nat)(l:qn):Option Bool:=(qdO l n 0).bind fun|.ret r=>V r|.nxt _=>V (decide ((l.Ay.length:Int)<=8))
theorem qpi{l:qn}(d:Ro w l cs1){r:Bool}(F:qiR n l=V r):RetV prog 295 [oV qn cs1] w r:=by
 obtain⟨K,I,rfl,H⟩:=qbF d;refine zV 41 func295 Z fun h=>zSR (qx h Z Z fun _ a h=>X0 7 Z ?_);obtain⟨L,F,b⟩:=qc F;refine qm (rL (fun m e w'=>∃i1,qdO l m i1=V L/\e=[(1,vp a),(3,vi i1)]/\SH w w' [oX a [oS K l.Ay.length I] 46]) n ⟨_,F,rfl,h⟩ Z ?_);rintro D _ _ ⟨i1,F,rfl,h⟩;rcases D with _|D
 ·cases F
 refine X1 9 0 h Z (qg Z F ?_ ?_)<;>intro F
 ·refine X1 9 0 h Z ?_;obtain⟨P,_,F,k,_,_,_,_,s,v,z,f⟩:=H.ix F;obtain⟨_,_,_,_,_,_,rfl,s2,N,O⟩:=qag z;refine zxe s v k Z (zc 0 (f.below h.below) Z (zcB h F (qrs (qkS P (h.oldS s2) (h.oldS N) (h.oldS O))) Z fun _ _ h F=>X0 2 Z (qg Z F ?_ ?_)))<;>intro F
  ·refine X0 4 Z ?_;obtain rfl:=qb F;replace F:=b;exact rb h F Z
  refine X0 5 Z ?_;obtain⟨M,F,c⟩:=qc F;refine qm (rL (fun m e w'=>∃C,qdQ l i1 m C=V M/\e=[(1,vp a),(3,vi i1),(4,vi C)]/\SH w w' [oX a [oS K l.Ay.length I] 46]) D ⟨_,F,rfl,h⟩ Z ?_);rintro J _ _ ⟨C,F,rfl,h⟩;rcases J with _|J
  ·cases F
  refine X0 7 Z (qg Z F ?_ ?_)<;>intro F
  ·refine X0 4 Z (rD (Y1 2 0 h Z ?_));refine zd1 Z ?_;obtain⟨_,_,F,o,_,_,_,_,t,x,A,g⟩:=H.ix F;obtain⟨_,_,_,_,_,_,rfl,_,_,_⟩:=qag A;refine zdxe t x o Z (zd1 Z (zdc 0 (g.below h.below) Z (Y1 2 0 h Z ?_)));refine zd1 Z ?_;obtain⟨_,_,F,p,_,_,_,_,u,y,B,i⟩:=H.ix F;obtain⟨_,_,_,_,_,_,rfl,_,_,_⟩:=qag B;refine zdxe u y p Z (zd1 Z (zdc 0 (i.below h.below) Z (zd1 Z (dN h fun _ h=>qg Z F ?_ ?_))))<;>intro F
   ·refine X0 4 Z ?_;obtain rfl:=qb F;replace F:=c;obtain rfl:=qb F;replace F:=b;exact rb h F Z
   exact X0 7 Z (rK ⟨_,F,rfl,h⟩ Z)
  refine qu Z ?_;obtain rfl:=qb F;replace F:=c;exact X0 6 Z (rK ⟨_,F,rfl,h⟩ Z)
 refine qu Z ?_;obtain rfl:=qb F;replace F:=b;exact X1 8 0 h Z (rb h F Z)
def qex(a:qd)(c:qt):Nat->Int->Option (Flow Bool Int)|0,_=>U|n+1,b=>bif decide (b<(c.As.length:Int)) then(idx c.As b).bind fun f=>(qaq n f 0 (W64 ((a.As.length:Int)-1))).bind fun d=>bif (!d) then V (.ret false) else qex a c n (W64 (b+1)) else V (.nxt b)
def qey(a:qd):Nat->Int->Option (Flow Bool Int)|0,_=>U|n+1,b=>bif decide (b<(a.Ak.length:Int)) then(idx a.Ak b).bind fun d=>(qaq n d.Bx 1 2).bind fun c=>bif (!c) then V (.ret false) else(idx a.Ak b).bind fun f=>(qaq n f.Ca 0 (W64 ((a.As.length:Int)-1))).bind fun r4=>bif (!r4) then V (.ret false) else qey a n (W64 (b+1)) else V (.nxt b)
def qeu(b:qn)(a:qd):Nat->Int->Option (Flow Bool Int)|0,_=>U|n+1,i1=>bif decide (i1<(a.Ab.length:Int)) then(idx a.Ab i1).bind fun c=>((qaq n c.Bu 0 (W64 ((b.Ay.length:Int)-1))).bind fun d=>bif (!d) then V true else(idx b.Ay c.Bu).bind fun f=>V ((c.As.length:Int) != (f.Bh.length:Int))).bind fun b2=>bif b2 then V (.ret false) else(qex a c n 0).bind fun|.ret r=>V (.ret r)|.nxt _=>qeu b a n (W64 (i1+1)) else V (.nxt i1)
def qjK(n:Nat)(b:qn)(a:qd):Option Bool:=(qeu b a n 0).bind fun|.ret r=>V r|.nxt _=>(qey a n 0).bind fun|.ret r=>V r|.nxt _=>V true
theorem qpX{c:qn}{a:qd}(A:Ro w c cs1)(B:Ro w a cs2){r:Bool}(F:qjK n c a=V r):RetV prog 296 [oV qn cs1,oV qd cs2] w r:=by
 obtain⟨p1,k1,rfl,s1⟩:=qbF A;obtain⟨v,s,x,k3,y,u,rfl,s2,_,s4⟩:=qaz B;refine zV 90 func296 Z fun h=>zSR (qx h Z Z fun _ d h=>qx h Z Z fun _ b h=>X1 14 0 h Z ?_);obtain⟨o1,F,g⟩:=qc F;refine qm (rL (fun m e w'=>∃i1,qeu c a m i1=V o1/\e=[(2,vp d),(3,vp b),(5,vi (a.As.length:Int)),(6,vi i1)]/\SH w w' [oX b (qaQ a v x y s k3 u) 50,oX d [oS p1 c.Ay.length k1] 46]) n ⟨_,F,rfl,h⟩ Z ?_);rintro m1 _ _ ⟨i1,F,rfl,h⟩;rcases m1 with _|m1
 ·cases F
 refine X1 9 0 h Z (qg Z F ?_ ?_)<;>intro F
 ·refine X1 8 0 h Z ?_;obtain⟨y1,_,F,J,_,_,_,_,O,T,a4,C⟩:=s2.ix F;obtain⟨p5,k5,rfl,s5⟩:=qV a4;refine zxe O T J Z (zc 0 (C.below h.below) Z (qp qa h Z Z Z fun _ f h=>zs 0 h Z fun _ h=>zNSS ?_));obtain⟨z,o,_,F,l⟩:=bindE F;refine qa1 (fun e w'=>∃b2,z b2=V o1/\e=[(2,vp d),(3,vp b),(5,vi (a.As.length:Int)),(6,vi i1),(7,vp f),(46,.bool b2)]/\SH w w' [oX f (qkb y1 p5 k5) 253,oX b (qaQ a v x y s k3 u) 50,oX d [oS p1 c.Ay.length k1] 46]) ?_ ?_
  ·refine rD (Y1 2 0 h Z ?_);refine Y1 2 2 h Z ?_;refine zd2 Z ?_;obtain⟨r2,a5,F⟩:=qc F;refine qaK r2 (vsB _) (cB 43 Z) (fun _ hb=>qad  a5) Z Z Z Z (zd2 Z (qaR (t:=33) F Z ?_ ?_))<;>intro F
   ·refine Y0 13 Z (dN h fun _ h=>?_);obtain rfl:=qb F;exact rG ⟨_,l,rfl,h⟩ Z
   refine Y1 4 0 h Z ?_;refine Y1 6 2 h Z ?_;refine Y1 4 0 h Z ?_;refine Y0 1 Z ?_;obtain⟨_,_,F,L,_,_,_,_,Q,X,a6,H⟩:=s1.ix F;obtain⟨_,_,_,_,_,_,rfl,_,_,_⟩:=qag a6;refine zdxe Q X L Z (Y0 3 Z (zdc 2 (H.below h.below) Z (Y0 5 Z (dN h fun _ h=>?_))));obtain rfl:=qb F;exact rG ⟨_,l,rfl,h⟩ Z
  rintro _ _ ⟨b2,F,rfl,h⟩;subst o;refine qg Z F ?_ ?_<;>intro F
  ·refine X0 4 Z ?_;obtain rfl:=qb F;replace F:=g;exact rb h F Z
  refine X0 5 Z ?_;obtain⟨o2,F,k⟩:=qc F;refine qm (rL (fun m e w'=>∃i2,qex a y1 m i2=V o2/\e=[(2,vp d),(3,vp b),(5,vi (a.As.length:Int)),(6,vi i1),(7,vp f),(8,vi i2)]/\SH w w' [oX f (qkb y1 p5 k5) 253,oX b (qaQ a v x y s k3 u) 50,oX d [oS p1 c.Ay.length k1] 46]) m1 ⟨_,F,rfl,h⟩ Z ?_);rintro m2 _ _ ⟨i2,F,rfl,h⟩;rcases m2 with _|m2
  ·cases F
  refine X1 9 0 h Z (qg Z F ?_ ?_)<;>intro F
  ·refine X1 8 0 h Z ?_;obtain⟨_,_,F,K,_,_,_,_,P,W,rfl,D⟩:=s5.ix F;refine zxe P W K Z (zc 0 (D.below h.below) Z (zp2 Z (zcB h F qad Z fun _ _ h F=>X0 2 Z (qg Z F ?_ ?_))))<;>intro F
   ·refine X0 4 Z ?_;obtain rfl:=qb F;replace F:=k;obtain rfl:=qb F;replace F:=g;exact rb h F Z
   exact X0 7 Z (rK ⟨_,F,rfl,h⟩ Z)
  refine qu Z ?_;obtain rfl:=qb F;replace F:=k;refine X0 6 Z ?_;replace h:=h.p [1,2] Z;exact rK ⟨_,F,rfl,h⟩ Z
 refine qu Z ?_;obtain rfl:=qb F;replace F:=g;refine X0 5 Z ?_;obtain⟨o4,F,i⟩:=qc F;refine qm ?_;replace h:=h.p [0] Z;refine rL (fun m e w'=>∃i3,qey a m i3=V o4/\e=[(3,vp b),(5,vi (a.As.length:Int)),(9,vi i3)]/\SH w w' [oX b (qaQ a v x y s k3 u) 50]) n ⟨_,F,rfl,h⟩ Z ?_;rintro m3 _ _ ⟨i3,F,rfl,h⟩;rcases m3 with _|m3
 ·cases F
 refine X1 9 0 h Z (qg Z F ?_ ?_)<;>intro F
 ·refine X1 8 0 h Z ?_;obtain⟨_,_,F,M,_,_,_,_,R,Y,a7,I⟩:=s4.ix F;obtain rfl:=qbl a7;refine zxe R Y M Z (zp1 Z (zc 1 (I.below h.below) Z (zcB h F qad Z fun _ _ h F=>zp2 Z (qk (t:=78) F Z ?_ ?_))))<;>intro F
  ·refine X0 12 Z (qcl Z Z (X0 4 Z ?_));obtain rfl:=qb F;replace F:=i;exact rb h F Z
  refine X1 7 0 h Z ?_;obtain⟨_,_,F,N,_,_,_,_,S,a3,a8,p⟩:=s4.ix F;obtain rfl:=qbl a8;refine zxe S a3 N Z (X0 3 Z (zc 2 (p.below h.below) Z (X0 5 Z (zcB h F qad Z fun _ _ h F=>X0 4 Z (qg Z F ?_ ?_)))))<;>intro F
  ·refine X0 4 Z ?_;obtain rfl:=qb F;replace F:=i;exact rb h F Z
  exact X0 7 Z (rK ⟨_,F,rfl,h⟩ Z)
 refine qu Z ?_;obtain rfl:=qb F;replace F:=i;exact X0 4 Z (rb h F Z)
def qen(list:(List ByteArray))(i1:Int):Nat->Int->Option (Flow Bool Int)|0,_=>U|n+1,a=>bif decide (a<i1) then(idx list a).bind fun b=>(idx list i1).bind fun c=>bif (b.toList==c.toList) then V (.ret false) else qen list i1 n (W64 (a+1)) else V (.nxt a)
def qet(list:(List ByteArray)):Nat->Int->Option (Flow Bool Int)|0,_=>U|n+1,i1=>bif decide (i1<(list.length:Int)) then(idx list i1).bind fun b=>(qf5 n b).bind fun a=>bif (!a) then V (.ret false) else(qen list i1 n 0).bind fun|.ret r=>V (.ret r)|.nxt _=>qet list n (W64 (i1+1)) else V (.nxt i1)
def qgE(n:Nat)(list:(List ByteArray)):Option Bool:=(qet list n 0).bind fun|.ret r=>V r|.nxt _=>V true
theorem qjp{list:(List ByteArray)}(c:Ro w list cs1){r:Bool}(F:qgE n list=V r):RetV prog 297 [oV (List ByteArray) cs1] w r:=by
 obtain⟨C,A,rfl,z⟩:=c;refine zV 31 func297 Z fun h=>X0 9 Z ?_;obtain⟨D,F,a⟩:=qc F;refine qm (rL (fun m e w'=>∃i1,qet list m i1=V D/\e=[(0,oS C list.length A),(3,vi i1)]/\SH w w' []) n ⟨_,F,rfl,h⟩ Z ?_);rintro y _ _ ⟨i1,F,rfl,h⟩;rcases y with _|y
 ·cases F
 refine X0 8 Z (qg Z F ?_ ?_)<;>intro F
 ·refine X0 8 Z ?_;obtain⟨_,_,F,i,_,_,_,_,o,t,rfl,d⟩:=z.ix F;refine zxe o t i Z (zc 0 (d.below h.below) Z (zcB h F qia Z fun _ _ h F=>X0 2 Z (qg Z F ?_ ?_)))<;>intro F
  ·refine X0 4 Z ?_;obtain rfl:=qb F;replace F:=a;exact rb h F Z
  refine X0 5 Z ?_;obtain⟨H,F,b⟩:=qc F;refine qm (rL (fun m e w'=>∃x,qen list i1 m x=V H/\e=[(0,oS C list.length A),(3,vi i1),(4,vi x)]/\SH w w' []) y ⟨_,F,rfl,h⟩ Z ?_);rintro B _ _ ⟨x,F,rfl,h⟩;rcases B with _|B
  ·cases F
  refine X0 7 Z (qg Z F ?_ ?_)<;>intro F
  ·refine X0 4 Z (rD (zd2 Z ?_));obtain⟨_,_,F,k,_,_,_,_,p,u,rfl,f⟩:=z.ix F;refine zdxe p u k Z (zdc 0 (f.below h.below) Z (zd2 Z ?_));obtain⟨_,_,F,l,_,_,_,_,s,v,rfl,g⟩:=z.ix F;refine zdxe s v l Z (zdc 0 (g.below h.below) Z (zd1 Z (dN h fun _ h=>qg Z F ?_ ?_)))<;>intro F
   ·refine X0 4 Z ?_;obtain rfl:=qb F;replace F:=b;obtain rfl:=qb F;replace F:=a;exact rb h F Z
   exact X0 7 Z (rK ⟨_,F,rfl,h⟩ Z)
  refine qu Z ?_;obtain rfl:=qb F;replace F:=b;exact X0 6 Z (rK ⟨_,F,rfl,h⟩ Z)
 refine qu Z ?_;obtain rfl:=qb F;replace F:=a;exact X0 4 Z (rb h F Z)
def qeo(c:(List Int))(d:(List Int)):Nat->Int->Option (Flow Bool Int)|0,_=>U|n+1,a=>bif decide (a<(c.length:Int)) then(idx d a).bind fun b=>bif (b != 1) then V (.ret false) else qeo c d n (W64 (a+1)) else V (.nxt a)
def qcI(a:qd):Nat->(List Int)->Int->Option ((List Int)×Int)|0,_,_=>U|n+1,c,b=>bif decide (b<(a.Ak.length:Int)) then(idx a.Ak b).bind fun f=>bif (f.Bx==1) then(idx a.Ak b).bind fun d=>(idx c d.Ca).bind fun g=>(idx c d.Ca).bind fun _=>qcI a n (setS c d.Ca (W64 (g+1))) (W64 (b+1)) else qcI a n c (W64 (b+1)) else V (c,b)
def qdw(a:qd):Nat->(List Int)->Int->Option ((List Int)×Int)|0,_,_=>U|n+1,c,b=>bif decide (b<(a.Ab.length:Int)) then(idx a.Ab b).bind fun f=>(idx f.As (W64 ((f.As.length:Int)-1))).bind fun d=>(idx c d).bind fun g=>(idx c d).bind fun _=>qdw a n (setS c d (W64 (g+1))) (W64 (b+1)) else V (c,b)
def qdn(a:qd):Nat->(List ByteArray)->Int->Option ((List ByteArray)×Int)|0,_,_=>U|n+1,x3,b=>bif decide (b<(a.Ak.length:Int)) then(idx a.Ak b).bind fun d=>(appS x3 ([d.Bd]:List ByteArray)).bind fun c=>qdn a n c (W64 (b+1)) else V (x3,b)
def qdr(a:qd):Nat->(List ByteArray)->Int->Option ((List ByteArray)×Int)|0,_,_=>U|n+1,x1,i1=>bif decide (i1<(a.Ab.length:Int)) then(idx a.Ab i1).bind fun c=>(appS x1 ([c.Bd]:List ByteArray)).bind fun b=>qdr a n b (W64 (i1+1)) else V (x1,i1)
def qjD(n:Nat)(b:qn)(a:qd):Option Bool:=((qiR n b).bind fun r4=>bif (!r4) then V true else bif decide ((a.Ab.length:Int) > 14) then V true else bif decide ((a.As.length:Int) > 30) then V true else bif decide ((a.Ak.length:Int) > 8) then V true else(qjK n b a).bind fun i=>V (!i)).bind fun b1=>bif b1 then V false else(qdr a n ([]:List ByteArray) 0).bind fun(x1,_)=>(qdn a n ([]:List ByteArray) 0).bind fun(x3,_)=>((qgE n x1).bind fun f=>bif (!f) then V true else(qgE n x3).bind fun g=>bif (!g) then V true else(qgE n a.As).bind fun h=>V (!h)).bind fun d=>bif d then V false else(mkS (a.As.length:Int) (0:Int)).bind fun c=>(qdw a n c 0).bind fun(k,_)=>(qcI a n k 0).bind fun(l,_)=>(qeo c l n 0).bind fun|.ret r=>V r|.nxt _=>V true
theorem qp2{I:qn}{a:qd}(p:Ro w I cs1)(M:Ro w a cs2){r:Bool}(F:qjD n I a=V r):RetV prog 270 [oV qn cs1,oV qd cs2] w r:=by
 obtain⟨_,_,rfl,_⟩:=qbF p;obtain⟨C,A,D,k3,H,B,rfl,s2,s3,s4⟩:=qaz M;refine zV 153 func270 Z fun h=>zSR (qx h Z Z fun _ _ h=>qx h Z Z fun _ b h=>X0 4 Z ?_);obtain⟨KF2,L,_,F,f⟩:=bindE F;refine qa1 (fun e w'=>∃b1,KF2 b1=V r/\e=[(3,vp b),(40,.bool b1)]/\SH w w' [oX b (qaQ a C D H A k3 B) 50]) ?_ ?_
 ·refine X1 2 1 h Z (zcB h F (qpi (h.old p)) Z fun _ _ h F=>zp2 Z (qk (t:=17) F Z ?_ ?_))<;>intro F
  ·refine X0 24 Z ?_;replace h:=h.p [0] Z;obtain rfl:=qb F;exact rG ⟨_,f,rfl,h⟩ Z
  refine X1 10 0 h Z (qk (t:=23) F Z ?_ ?_)<;>intro F
  ·refine X0 18 Z ?_;replace h:=h.p [0] Z;obtain rfl:=qb F;exact rG ⟨_,f,rfl,h⟩ Z
  refine X1 10 0 h Z (qk (t:=29) F Z ?_ ?_)<;>intro F
  ·refine X0 12 Z ?_;replace h:=h.p [0] Z;obtain rfl:=qb F;exact rG ⟨_,f,rfl,h⟩ Z
  refine X1 10 0 h Z (qk (t:=35) F Z ?_ ?_)<;>intro F
  ·refine X0 6 Z ?_;replace h:=h.p [0] Z;obtain rfl:=qb F;exact rG ⟨_,f,rfl,h⟩ Z
  refine X2 5 1 0 h Z (zcB h F (qpX (h.old p) (h.old M)) Z fun _ _ h F=>X0 4 Z ?_);replace h:=h.p [0] Z;obtain rfl:=qb F;exact rG ⟨_,f,rfl,h⟩ Z
 rintro _ _ ⟨b1,F,rfl,h⟩;subst L;refine qg Z F ?_ ?_<;>intro F
 ·exact X0 4 Z (rb h F Z)
 refine zKSR (qE qa [] _ ([]:List ByteArray) h Z Z Z Z Z Z Z Z Z trivial Z fun _ _ _ h=>X0 7 Z ?_);obtain⟨o1,F,hK1⟩:=qc F;refine qm (rL (fun m e w'=>∃S2 p6 x k5 x1 i1,qdr a m x1 i1=V o1/\e=[(3,vp b),(5,oS p6 x k5),(6,vi i1)]/\SH w w' [oW S2 (x1:List ByteArray) [oS p6 x k5],oX b (qaQ a C D H A k3 B) 50]) n ⟨_,_,_,_,_,_,F,rfl,h⟩ Z ?_);rintro m1 _ _ ⟨S2,p6,x,k5,x1,i1,F,rfl,h⟩;obtain rfl:=(h.sl 0 Z).2;rcases m1 with _|m1
 ·cases F
 refine X1 9 1 h Z (qg Z F ?_ ?_)<;>intro F
 ·refine X1 8 1 h Z ?_;obtain⟨y1,_,F,he1,_,_,_,_,hp1,hq1,hr1,hc3⟩:=s2.ix F;obtain⟨_,_,rfl,_⟩:=qV hr1;refine zxe hp1 hq1 he1 Z (zp1 Z (zc 0 (hc3.below h.below) Z (qE qa [.tmp 55] _ ([y1.Bd]:List ByteArray) h Z Z Z Z Z Z Z Z Z ⟨rfl,G⟩ Z fun _ _ _ h=>?_)));obtain⟨_,s,F⟩:=qc F;obtain⟨g1,s⟩:=qM s;refine qbM qa 1 h Z (h.sl 0 Z).1 (h.sl 0 Z).2 Z Z Z Z Z Z Z Z Z g1 s Z fun _ _ _ _ h=>X0 8 Z ?_;replace h:=h.p [1,2] Z;exact rK ⟨_,_,_,_,_,_,F,rfl,h⟩ Z
 refine qu Z ?_;obtain rfl:=qb F;replace F:=hK1;refine zSR (qE qa [] _ ([]:List ByteArray) h Z Z Z Z Z Z Z Z Z trivial Z fun _ _ _ h=>X0 7 Z ?_);obtain⟨o2,F,hK2⟩:=qc F;refine qm (rL (fun m e w'=>∃S6 z y k8 x3 i2,qdn a m x3 i2=V o2/\e=[(3,vp b),(5,oS p6 x1.length k5),(7,oS z y k8),(8,vi i2)]/\SH w w' [oW S6 (x3:List ByteArray) [oS z y k8],oW S2 (x1:List ByteArray) [oS p6 x1.length k5],oX b (qaQ a C D H A k3 B) 50]) n ⟨_,_,_,_,_,_,F,rfl,h⟩ Z ?_);rintro m2 _ _ ⟨S6,z,y,k8,x3,i2,F,rfl,h⟩;obtain rfl:=(h.sl 0 Z).2;rcases m2 with _|m2
 ·cases F
 refine X1 9 2 h Z (qg Z F ?_ ?_)<;>intro F
 ·refine X1 8 2 h Z ?_;obtain⟨y2,_,F,he2,_,_,_,_,hp2,hq2,hr2,hc5⟩:=s4.ix F;obtain rfl:=qbl hr2;refine zxe hp2 hq2 he2 Z (zp1 Z (zc 0 (hc5.below h.below) Z (qE qa [.tmp 72] _ ([y2.Bd]:List ByteArray) h Z Z Z Z Z Z Z Z Z ⟨rfl,G⟩ Z fun _ _ _ h=>?_)));obtain⟨_,u,F⟩:=qc F;obtain⟨g2,u⟩:=qM u;refine qbM qa 1 h Z (h.sl 0 Z).1 (h.sl 0 Z).2 Z Z Z Z Z Z Z Z Z g2 u Z fun _ _ _ _ h=>X0 8 Z ?_;replace h:=h.p [1,2,3] Z;exact rK ⟨_,_,_,_,_,_,F,rfl,h⟩ Z
 refine qu Z ?_;obtain rfl:=qb F;replace F:=hK2;refine zSS ?_;obtain⟨KF1,K,_,F,o⟩:=bindE F;refine qa1 (fun e w'=>∃b4,KF1 b4=V r/\e=[(3,vp b),(88,.bool b4)]/\SH w w' [oX b (qaQ a C D H A k3 B) 50]) ?_ ?_
 ·refine X0 2 Z (zcB h F (qjp (h.own 1 Z)) Z fun _ _ h F=>zp2 Z (qk (t:=78) F Z ?_ ?_))<;>intro F
  ·refine X0 11 Z ?_;replace h:=h.p [2] Z;obtain rfl:=qb F;exact rG ⟨_,o,rfl,h⟩ Z
  refine X0 3 Z (zcB h F (qjp (h.own 0 Z)) Z fun _ _ h F=>X0 4 Z (qk (t:=83) F Z ?_ ?_))<;>intro F
  ·refine X0 6 Z ?_;replace h:=h.p [2] Z;obtain rfl:=qb F;exact rG ⟨_,o,rfl,h⟩ Z
  refine X1 5 2 h Z (zcB h F (qjp ⟨_,_,rfl,(h.oldS s3)⟩) Z fun _ _ h F=>X0 4 Z ?_);replace h:=h.p [2] Z;obtain rfl:=qb F;exact rG ⟨_,o,rfl,h⟩ Z
 rintro _ _ ⟨b4,F,rfl,h⟩;subst K;refine qg Z F ?_ ?_<;>intro F
 ·exact X0 4 Z (rb h F Z)
 refine X1 6 0 h Z ?_;obtain⟨d,v,F⟩:=qc F;obtain⟨g3,g4,v⟩:=qQ v;refine qai qa Int h Z Z Z Z Z Z Z Z Z g3 g4 v Z fun _ S9 c h=>X0 7 Z ?_;obtain⟨o3,F,hK3⟩:=qc F;refine qm (rL (fun m e w'=>∃x6 i3,qdw a m x6 i3=V o3/\e=[(3,vp b),(9,oS c d.length d.length),(10,vi i3)]/\SH w w' [oW S9 (x6:List Int) [oS c d.length d.length],oX b (qaQ a C D H A k3 B) 50]) n ⟨_,_,F,rfl,h⟩ Z ?_);rintro m3 _ _ ⟨x6,i3,F,rfl,h⟩;rcases m3 with _|m3
 ·cases F
 refine X1 9 1 h Z (qg Z F ?_ ?_)<;>intro F
 ·refine X1 8 1 h Z ?_;obtain⟨_,_,F,he3,_,_,_,_,hp3,hq3,hr3,hc8⟩:=s2.ix F;obtain⟨_,_,rfl,s6⟩:=qV hr3;refine zxe hp3 hq3 he3 Z (zp1 Z (zc 2 (hc8.below h.below) Z (X0 8 Z ?_)));obtain⟨_,_,F,he4,_,_,_,_,hp4,hq4,rfl,hc9⟩:=s6.ix F;refine zxe hp4 hq4 he4 Z (zc 0 (hc9.below h.below) Z ?_);obtain⟨y5,_,F,W,_,_,_,_,hp5,hq5,rfl,N⟩:=(h.sl 0 Z).1.ix F;refine zx hp5 hq5 ⟨W.1,qD W.2.1 (h.sl 0 Z).2⟩ Z (zc 0 N Z (zp1 Z ?_));obtain⟨_,hy6,F,X,_,_,_,_,a4,a6,rfl,O⟩:=(h.sl 0 Z).1.ix F;exact zx a4 a6 ⟨X.1,qD X.2.1 (h.sl 0 Z).2⟩ Z (qbg qa 0 0 (W64 (y5+1)) h Z hy6 a4 a6 Z O Z Z Z Z Z Z Z fun _ h=>X0 7 Z (rK ⟨_,_,F,rfl,h⟩ Z))
 refine qu Z ?_;obtain rfl:=qb F;replace F:=hK3;refine X0 5 Z ?_;obtain⟨o4,F,hK4⟩:=qc F;refine qm (rL (fun m e w'=>∃x7 i4,qcI a m x7 i4=V o4/\e=[(3,vp b),(9,oS c d.length d.length),(12,vi i4)]/\SH w w' [oW S9 (x7:List Int) [oS c d.length d.length],oX b (qaQ a C D H A k3 B) 50]) n ⟨_,_,F,rfl,h⟩ Z ?_);rintro m4 _ _ ⟨x7,i4,F,rfl,h⟩;rcases m4 with _|m4
 ·cases F
 refine X1 9 1 h Z (qg Z F ?_ ?_)<;>intro F
 ·refine X1 8 1 h Z ?_;obtain⟨_,_,F,he7,_,_,_,_,hp7,hq7,hr7,P⟩:=s4.ix F;obtain rfl:=qbl hr7;refine zxe hp7 hq7 he7 Z (zp1 Z (zc 1 (P.below h.below) Z (X0 2 Z (qg Z F ?_ ?_))))<;>intro F
  ·refine X1 5 1 h Z ?_;obtain⟨_,_,F,he8,_,_,_,_,hp8,hq8,hr8,Q⟩:=s4.ix F;obtain rfl:=qbl hr8;refine zxe hp8 hq8 he8 Z (zp1 Z (zc 2 (Q.below h.below) Z ?_));obtain⟨y9,_,F,Y,_,_,_,_,hp9,hq9,rfl,R⟩:=(h.sl 0 Z).1.ix F;refine zx hp9 hq9 ⟨Y.1,qD Y.2.1 (h.sl 0 Z).2⟩ Z (zc 0 R Z (zp1 Z ?_));obtain⟨_,a7,F,g,_,_,_,_,k,l,rfl,S⟩:=(h.sl 0 Z).1.ix F;exact zx k l ⟨g.1,qD g.2.1 (h.sl 0 Z).2⟩ Z (qbg qa 0 0 (W64 (y9+1)) h Z a7 k l Z S Z Z Z Z Z Z Z fun _ h=>X0 7 Z (rK ⟨_,_,F,rfl,h⟩ Z))
  exact X0 7 Z (rK ⟨_,_,F,rfl,h⟩ Z)
 refine qu Z ?_;obtain rfl:=qb F;replace F:=hK4;refine X0 5 Z ?_;obtain⟨o5,F,J⟩:=qc F;refine qm ?_;replace h:=h.p [0] Z;refine rL (fun m e w'=>∃i5,qeo d x7 m i5=V o5/\e=[(9,oS c d.length d.length),(13,vi i5)]/\SH w w' [oW S9 (x7:List Int) [oS c d.length d.length]]) n ⟨_,F,rfl,h⟩ Z ?_;rintro m5 _ _ ⟨i5,F,rfl,h⟩;rcases m5 with _|m5
 ·cases F
 refine X0 8 Z (qg Z F ?_ ?_)<;>intro F
 ·refine X0 7 Z ?_;obtain⟨_,_,F,i,_,_,_,_,a3,a5,rfl,T⟩:=(h.sl 0 Z).1.ix F;refine zx a3 a5 ⟨i.1,qD i.2.1 (h.sl 0 Z).2⟩ Z (zc 0 T Z (X0 2 Z (qg Z F ?_ ?_)))<;>intro F
  ·refine X0 4 Z ?_;obtain rfl:=qb F;replace F:=J;exact rb h F Z
  exact X0 7 Z (rK ⟨_,F,rfl,h⟩ Z)
 refine qu Z ?_;obtain rfl:=qb F;replace F:=J;exact X0 4 Z (rb h F Z)
def qfZ(a:qZ):Nat->Int->Option (Flow Bool Int)|0,_=>U|n+1,b=>bif decide (b<(a.Bn.length:Int)) then(idx a.Bn b).bind fun d=>(qaq n d 0 (W64 ((a.Ba.length:Int)-1))).bind fun c=>bif (!c) then V (.ret false) else qfZ a n (W64 (b+1)) else V (.nxt b)
def qcQ(a:qZ):Nat->Int->Option (Flow Bool Int)|0,_=>U|n+1,i1=>bif decide (i1<(a.Ba.length:Int)) then((idx a.Bv i1).bind fun k=>(qaq n k 0 500).bind fun d=>bif (!d) then V true else(idx a.Bz i1).bind fun l=>(qaq n l 0 1000).bind fun r4=>V (!r4)).bind fun b2=>bif b2 then V (.ret false) else bif (i1==0) then(idx a.Ba i1).bind fun f=>bif (f != (-1)) then V (.ret false) else(idx a.Bz i1).bind fun g=>bif (g != 0) then V (.ret false) else bif decide (i1 > 0) then(idx a.Ba i1).bind fun h=>(qaq n h 0 (W64 (i1-1))).bind fun b=>bif (!b) then V (.ret false) else qcQ a n (W64 (i1+1)) else qcQ a n (W64 (i1+1)) else bif decide (i1 > 0) then(idx a.Ba i1).bind fun i=>(qaq n i 0 (W64 (i1-1))).bind fun c=>bif (!c) then V (.ret false) else qcQ a n (W64 (i1+1)) else qcQ a n (W64 (i1+1)) else V (.nxt i1)
def ql2(n:Nat)(a:qZ)(b:Int):Option Bool:=(bif decide ((a.Ba.length:Int)<1) then V true else bif decide ((a.Ba.length:Int) > 8) then V true else bif ((a.Bz.length:Int) != (a.Ba.length:Int)) then V true else bif ((a.Bv.length:Int) != (a.Ba.length:Int)) then V true else V ((a.Bn.length:Int) != b)).bind fun b1=>bif b1 then V false else(qcQ a n 0).bind fun|.ret r=>V r|.nxt _=>(qfZ a n 0).bind fun|.ret r=>V r|.nxt _=>V true
theorem qr3{a:qZ}{f}(H:Ro w a cs1){r:Bool}(F:ql2 n a f=V r):RetV prog 271 [oV qZ cs1,vi f] w r:=by
 obtain⟨y,u,z,v,A,k3,B,x,rfl,s1,s2,s3,s4⟩:=qaT H;refine zV 108 func271 Z fun h=>zSR (qx h Z Z fun _ b h=>X1 11 0 h Z ?_);obtain⟨D,l,_,F,d⟩:=bindE F;refine qa1 (fun e w'=>∃b1,D b1=V r/\e=[(2,vp b),(5,vi (a.Ba.length:Int)),(37,.bool b1)]/\SH w w' [oX b (qgR a y z A B u v k3 x) 183]) ?_ ?_
 ·refine X0 4 Z (qk (t:=13) F Z ?_ ?_)<;>intro F
  ·refine X0 25 Z ?_;obtain rfl:=qb F;exact rG ⟨_,d,rfl,h⟩ Z
  refine X0 6 Z (qk (t:=17) F Z ?_ ?_)<;>intro F
  ·refine X0 21 Z ?_;obtain rfl:=qb F;exact rG ⟨_,d,rfl,h⟩ Z
  refine X1 12 0 h Z (qk (t:=24) F Z ?_ ?_)<;>intro F
  ·refine X0 14 Z ?_;obtain rfl:=qb F;exact rG ⟨_,d,rfl,h⟩ Z
  refine X1 12 0 h Z (qk (t:=31) F Z ?_ ?_)<;>intro F
  ·refine X0 7 Z ?_;obtain rfl:=qb F;exact rG ⟨_,d,rfl,h⟩ Z
  refine X1 12 0 h Z ?_;obtain rfl:=qb F;exact rG ⟨_,d,rfl,h⟩ Z
 rintro _ _ ⟨b1,F,rfl,h⟩;subst l;refine qg Z F ?_ ?_<;>intro F
 ·exact X0 4 Z (rb h F Z)
 refine X0 6 Z ?_;obtain⟨o1,F,c⟩:=qc F;refine qm (rL (fun m e w'=>∃i1,qcQ a m i1=V o1/\e=[(2,vp b),(5,vi (a.Ba.length:Int)),(6,vi i1)]/\SH w w' [oX b (qgR a y z A B u v k3 x) 183]) n ⟨_,F,rfl,h⟩ Z ?_);rintro m1 _ _ ⟨i1,F,rfl,h⟩;rcases m1 with _|m1
 ·cases F
 refine X0 7 Z (qg Z F ?_ ?_)<;>intro F
 ·refine X0 5 Z ?_;obtain⟨C,k,_,F,g⟩:=bindE F;refine qa1 (fun e w'=>∃b2,C b2=V o1/\e=[(2,vp b),(5,vi (a.Ba.length:Int)),(6,vi i1),(58,.bool b2)]/\SH w w' [oX b (qgR a y z A B u v k3 x) 183]) ?_ ?_
  ·refine X1 4 0 h Z ?_;obtain⟨_,_,F,Q,_,_,_,_,a3,b4,rfl,o⟩:=s3.ix F;refine zxe a3 b4 Q Z (zc 0 (o.below h.below) Z (zcB h F qad Z fun _ _ h F=>zp2 Z (qk (t:=50) F Z ?_ ?_)))<;>intro F
   ·refine X0 9 Z ?_;obtain rfl:=qb F;exact rG ⟨_,g,rfl,h⟩ Z
   refine X1 7 0 h Z ?_;obtain⟨_,_,F,R,_,_,_,_,a4,b5,rfl,p⟩:=s2.ix F;refine zxe a4 b5 R Z (X0 1 Z (zc 0 (p.below h.below) Z (X0 1 Z (zcB h F qad Z fun _ _ h F=>X0 4 Z ?_))));obtain rfl:=qb F;exact rG ⟨_,g,rfl,h⟩ Z
  rintro _ _ ⟨b2,F,rfl,h⟩;subst k;refine qg Z F ?_ ?_<;>intro F
  ·refine X0 4 Z ?_;obtain rfl:=qb F;replace F:=c;exact rb h F Z
  refine X0 6 Z (qk (t:=61) F Z ?_ ?_)<;>intro F
  ·refine X1 7 0 h Z ?_;obtain⟨_,_,F,M,_,_,_,_,T,a6,rfl,I⟩:=s1.ix F;refine zxe T a6 M Z (X0 1 Z (zc 0 (I.below h.below) Z (X0 4 Z (qk (t:=68) F Z ?_ ?_))))<;>intro F
   ·refine X0 25 Z (qcl Z Z (X0 4 Z ?_));obtain rfl:=qb F;replace F:=c;exact rb h F Z
   refine X1 7 0 h Z ?_;obtain⟨_,_,F,N,_,_,_,_,W,a7,rfl,J⟩:=s2.ix F;refine zxe W a7 N Z (X0 1 Z (zc 0 (J.below h.below) Z (X0 6 Z (qk (t:=77) F Z ?_ ?_))))<;>intro F
   ·refine X0 15 Z (qcl Z Z (X0 4 Z ?_));obtain rfl:=qb F;replace F:=c;exact rb h F Z
   refine X0 6 Z (qk (t:=80) F Z ?_ ?_)<;>intro F
   ·refine X1 7 0 h Z ?_;obtain⟨_,_,F,O,_,_,_,_,X,a8,rfl,K⟩:=s1.ix F;refine zxe X a8 O Z (X0 1 Z (zc 0 (K.below h.below) Z (X0 5 Z (zcB h F qad Z fun _ _ h F=>X0 6 Z (qg Z F ?_ ?_)))))<;>intro F
    ·refine X0 4 Z ?_;obtain rfl:=qb F;replace F:=c;exact rb h F Z
    exact X0 7 Z (rK ⟨_,F,rfl,h⟩ Z)
   exact X0 13 Z (qb8 Z Z (X0 7 Z (rK ⟨_,F,rfl,h⟩ Z)))
  refine X0 22 Z (qk (t:=80) F Z ?_ ?_)<;>intro F
  ·refine X1 7 0 h Z ?_;obtain⟨_,_,F,P,_,_,_,_,Y,a9,rfl,L⟩:=s1.ix F;refine zxe Y a9 P Z (X0 1 Z (zc 0 (L.below h.below) Z (X0 5 Z (zcB h F qad Z fun _ _ h F=>X0 6 Z (qg Z F ?_ ?_)))))<;>intro F
   ·refine X0 4 Z ?_;obtain rfl:=qb F;replace F:=c;exact rb h F Z
   exact X0 7 Z (rK ⟨_,F,rfl,h⟩ Z)
  exact X0 13 Z (qb8 Z Z (X0 7 Z (rK ⟨_,F,rfl,h⟩ Z)))
 refine qu Z ?_;obtain rfl:=qb F;replace F:=c;refine X0 5 Z ?_;obtain⟨o3,F,i⟩:=qc F;refine qm (rL (fun m e w'=>∃i2,qfZ a m i2=V o3/\e=[(2,vp b),(5,vi (a.Ba.length:Int)),(7,vi i2)]/\SH w w' [oX b (qgR a y z A B u v k3 x) 183]) n ⟨_,F,rfl,h⟩ Z ?_);rintro m2 _ _ ⟨i2,F,rfl,h⟩;rcases m2 with _|m2
 ·cases F
 refine X1 9 0 h Z (qg Z F ?_ ?_)<;>intro F
 ·refine X1 8 0 h Z ?_;obtain⟨_,_,F,S,_,_,_,_,a5,b6,rfl,s⟩:=s4.ix F;refine zxe a5 b6 S Z (zc 0 (s.below h.below) Z (zp2 Z (zcB h F qad Z fun _ _ h F=>X0 2 Z (qg Z F ?_ ?_))))<;>intro F
  ·refine X0 4 Z ?_;obtain rfl:=qb F;replace F:=i;exact rb h F Z
  exact X0 7 Z (rK ⟨_,F,rfl,h⟩ Z)
 refine qu Z ?_;obtain rfl:=qb F;replace F:=i;exact X0 4 Z (rb h F Z)
def qeY(b:qf):Nat->Int->Option (Flow Bool Int)|0,_=>U|n+1,i1=>bif decide (i1<(b.Ah.length:Int)) then(idx b.Ah i1).bind fun d=>(qgG n (⟨b.Aa.Ab,b.Aa.As,b.Aa.Ak⟩:qd) i1).bind fun a=>(ql2 n d (a.length:Int)).bind fun c=>bif (!c) then V (.ret false) else qeY b n (W64 (i1+1)) else V (.nxt i1)
def qhx(n:Nat)(b:qf):Option Bool:=((qjD n (⟨b.Au.Ay⟩:qn) (⟨b.Aa.Ab,b.Aa.As,b.Aa.Ak⟩:qd)).bind fun a=>bif (!a) then V true else V ((b.Ah.length:Int) != (b.Aa.As.length:Int))).bind fun b1=>bif b1 then V false else(qeY b n 0).bind fun|.ret r=>V r|.nxt _=>V true
theorem qnl{b:qf}(i:Ro w b cs1){r:Bool}(F:qhx n b=V r):RetV prog 231 [oV qf cs1] w r:=by
 obtain⟨A,u,B,v,C,k3,D,x,H,y,rfl,L,s2,I,J,M⟩:=qac i;refine zV 39 func231 Z fun h=>zSR (qx h Z Z fun _ a h=>X0 4 Z ?_);obtain⟨g,f,_,F,d⟩:=bindE F;refine qa1 (fun e w'=>∃b1,g b1=V r/\e=[(1,vp a),(19,.bool b1)]/\SH w w' [oX a (qaY b A B C D H u v k3 x y) 53]) ?_ ?_
 ·refine X2 5 0 0 h Z (zcB h F (qp2 (qeb _ (h.oldS L)) (qav _ (h.oldS s2) (h.oldS I) (h.oldS J))) Z fun _ _ h F=>zp2 Z (qk (t:=10) F Z ?_ ?_))<;>intro F
  ·refine X0 10 Z ?_;obtain rfl:=qb F;exact rG ⟨_,d,rfl,h⟩ Z
  refine X2 18 0 0 h Z ?_;obtain rfl:=qb F;exact rG ⟨_,d,rfl,h⟩ Z
 rintro _ _ ⟨b1,F,rfl,h⟩;subst f;refine qg Z F ?_ ?_<;>intro F
 ·exact X0 4 Z (rb h F Z)
 refine X0 6 Z ?_;obtain⟨K,F,c⟩:=qc F;refine qm (rL (fun m e w'=>∃i1,qeY b m i1=V K/\e=[(1,vp a),(3,vi i1)]/\SH w w' [oX a (qaY b A B C D H u v k3 x y) 53]) n ⟨_,F,rfl,h⟩ Z ?_);rintro z _ _ ⟨i1,F,rfl,h⟩;rcases z with _|z
 ·cases F
 refine X1 9 0 h Z (qg Z F ?_ ?_)<;>intro F
 ·refine X0 4 Z (rA [] [0] h Z fun _ h=>M1 7 [0,1,2] 0 (h.p [0] Z) Z ?_);obtain⟨R,_,F,l,_,_,_,_,o,p,s,k⟩:=M.ix F;obtain⟨_,_,_,_,_,_,_,_,rfl,N,O,P,Q⟩:=qaT s;refine Ae 3 15 o p l (h.p [0] Z) Z (Al 4 31 0 k (h.p [0] Z) Z (M1 255 [5,6,7] 0 (h.p [0] Z) Z (Ao 8 511 Z (zcL h F (qjq (qav _ (h.oldS s2) (h.oldS I) (h.oldS J))) Z fun _ _ _ _ _ h F=>G0 1023 [9] (h.p [1] Z) Z (Ao 10 2047 Z (zcB h F (qr3 (qkW R (h.oldS N) (h.oldS O) (h.oldS P) (h.oldS Q))) Z fun _ _ h F=>G0 4095 [11] (h.p [1] Z) Z (Ad (qg Z F ?_ ?_))))))))<;>intro F
  ·refine X0 4 Z ?_;obtain rfl:=qb F;replace F:=c;exact rb h F Z
  refine X0 7 Z ?_;replace h:=h.p [1] Z;exact rK ⟨_,F,rfl,h⟩ Z
 refine qu Z ?_;obtain rfl:=qb F;replace F:=c;exact X0 4 Z (rb h F Z)
def qaV(_:Nat)(x:Int)(b:Int)(a:Int):Option Bool:=bif decide (x>=b) then V (decide (x<=a)) else V false
theorem qaF{x low high}  {r:Bool}(F:qaV n x low high=V r):RetV prog 46 [vi x,vi low,vi high] w r:=by
 refine zV 15 func46 Z fun h=>X0 10 Z (qk (t:=10) F Z ?_ ?_)<;>intro F
 ·exact X0 9 Z (rb h F Z)
 exact X0 6 Z (rb h F Z)
def qjc(_:Nat)(s cutset:ByteArray):Option ByteArray:=if s.size<=9223372036854775807/\cutset.size<4294967281/\cutset.data.toList.all (fun b=>decide (b.toNat<128))=true then V ⟨(Lib.trimS s.data.toList cutset.data.toList).toArray⟩ else U
theorem qqy{s cutset}{r:ByteArray}(F:qjc n s cutset=V r):RetV prog 257 [.string s,.string cutset] w r:=by
 unfold qjc at F;split at F
 ·rename_i hh
  obtain rfl:=qb F;refine(Tryz.strings_Trim_any s cutset w hh.1 hh.2.1 hh.2.2).mono ?_;rintro e w' ⟨rfl,a⟩;exact⟨_,rfl,a,[.string _],rfl,qAQ _ _⟩
 cases F
def qgW(_:Nat)(s:ByteArray)(c:(IntK .u8)):Option Int:=V (Lib.indexByte s.data.toList c.val.toNat.toUInt8)
theorem qob{s}{c:(IntK .u8)}{r:Int}(F:qgW n s c=V r):RetV prog 258 [.string s,.int .u8 c.val] w r:=by
 obtain rfl:=qb F;refine(Tryz.strings_IndexByte s c.val w).mono ?_;rintro e w' ⟨rfl,rfl⟩;exact⟨_,rfl,Below.refl _ _,[vi _],rfl,qyO _ _⟩
def qis(n:Nat)(s:ByteArray):Option Bool:=(qaV n (s.size:Int) 1 8).bind fun a=>bif a then(qjc n s (⟨#[97,98,99,100,101,102,103,104,105,106,107,108,109,110,111,112,113,114,115,116,117,118,119,120,121,122,48,49,50,51,52,53,54,55,56,57]⟩:ByteArray)).bind fun b=>bif (b.toList==(⟨#[]⟩:ByteArray).toList) then(atS s 0).bind fun d=>(qgW n (⟨#[97,98,99,100,101,102,103,104,105,106,107,108,109,110,111,112,113,114,115,116,117,118,119,120,121,122]⟩:ByteArray) (⟨d⟩:IntK .u8)).bind fun c=>V (decide (c>=0)) else V false else V false
theorem qlj{s}  {r:Bool}(F:qis n s=V r):RetV prog 205 [.string s] w r:=by
 refine zV 17 func205 Z fun h=>X0 8 Z (zcB h F qaF Z fun _ _ h F=>zp1 Z (qk (t:=6) F Z ?_ ?_))<;>intro F
 ·refine X0 3 Z (zcS h F qqy Z fun _ _ h F=>X0 4 Z (qk (t:=11) F Z ?_ ?_))<;>intro F
  ·refine X0 3 Z ?_;obtain⟨_,a,F⟩:=qc F;have b:=qnY a;exact r_v (qnU qa b Z Z Z Z) Z (X0 1 Z (zcI h F qob Z fun _ _ h F=>X0 5 Z (rb h F Z)))
  exact X0 7 Z (rb h F Z)
 exact X0 12 Z (rb h F Z)
def qb9(s:(List ByteArray))(v:ByteArray):Nat->Int->Option (Flow Int Int)|0,_=>U|n+1,i1=>bif decide (i1<(s.length:Int)) then(idx s i1).bind fun a=>bif (v.toList==a.toList) then V (.ret i1) else qb9 s v n (W64 (i1+1)) else V (.nxt i1)
def qfw(n:Nat)(s:(List ByteArray))(v:ByteArray):Option Int:=(qb9 s v n 0).bind fun|.ret r=>V r|.nxt _=>V (-1)
theorem qmP{s:(List ByteArray)}{v}(b:Ro w s cs1){r:Int}(F:qfw n s v=V r):RetV prog 319 [oV (List ByteArray) cs1,.string v] w r:=by
 obtain⟨o,k,rfl,p⟩:=b;refine zV 19 func319 Z fun h=>X0 11 Z ?_;obtain⟨l,F,a⟩:=qc F;refine qm (rL (fun m e w'=>∃i1,qb9 s v m i1=V l/\e=[(0,oS o s.length k),(1,.string v),(7,vi (s.length:Int)),(8,vi i1)]/\SH w w' []) n ⟨_,F,rfl,h⟩ Z ?_);rintro i _ _ ⟨i1,F,rfl,h⟩;rcases i with _|i
 ·cases F
 refine X0 5 Z (qg Z F ?_ ?_)<;>intro F
 ·refine X0 13 Z ?_;obtain⟨_,_,F,d,_,_,_,_,f,g,rfl,c⟩:=p.ix F;refine zxe f g d Z (zc 0 (c.below h.below) Z (X0 2 Z (qg Z F ?_ ?_)))<;>intro F
  ·refine X0 5 Z ?_;obtain rfl:=qb F;replace F:=a;exact ri h F Z
  exact X0 6 Z (rK ⟨_,F,rfl,h⟩ Z)
 refine qu Z ?_;obtain rfl:=qb F;replace F:=a;exact X0 4 Z (ri h F Z)
def qeh(n:Nat)(s:(List ByteArray))(v:ByteArray):Option Bool:=(qfw n s v).bind fun a=>V (decide (a>=0))
theorem qlt{s:(List ByteArray)}{v}(a:Ro w s cs1){r:Bool}(F:qeh n s v=V r):RetV prog 303 [oV (List ByteArray) cs1,.string v] w r:=by
 obtain⟨_,_,rfl,b⟩:=a;exact zV 9 func303 Z fun h=>X0 8 Z (zcI h F (qmP ⟨_,_,rfl,(h.oldS b)⟩) Z fun _ _ h F=>X0 3 Z (rb h F Z))
def qez(list:(List ByteArray)):Nat->Int->Option (Flow Bool Int)|0,_=>U|n+1,i1=>bif decide (i1<(list.length:Int)) then(idx list i1).bind fun a=>(qis n a).bind fun b=>bif (!b) then V (.ret false) else(subS list 0 i1).bind fun x1=>(qeh n x1 a).bind fun c=>bif c then V (.ret false) else qez list n (W64 (i1+1)) else V (.nxt i1)
def qej(n:Nat)(list:(List ByteArray)):Option Bool:=(qez list n 0).bind fun|.ret r=>V r|.nxt _=>V true
theorem qfY{list:(List ByteArray)}(f:Ro w list cs1){r:Bool}(F:qej n list=V r):RetV prog 280 [oV (List ByteArray) cs1] w r:=by
 obtain⟨v,s,rfl,p⟩:=f;refine zV 23 func280 Z fun h=>X0 11 Z ?_;obtain⟨y,F,a⟩:=qc F;refine qm (rL (fun m e w'=>∃i1,qez list m i1=V y/\e=[(0,oS v list.length s),(5,oS v list.length s),(6,vi (list.length:Int)),(7,vi i1)]/\SH w w' []) n ⟨_,F,rfl,h⟩ Z ?_);rintro u _ _ ⟨i1,F,rfl,h⟩;rcases u with _|u
 ·cases F
 refine X0 5 Z (qg Z F ?_ ?_)<;>intro F
 ·refine X0 6 Z ?_;obtain⟨_,_,F,i,_,_,_,_,l,o,rfl,g⟩:=p.ix F;refine zxe l o i Z (zc 0 (g.below h.below) Z (X0 6 Z (zcB h F qlj Z fun _ _ h F=>zp2 Z (qk (t:=15) F Z ?_ ?_))))<;>intro F
  ·refine X0 7 Z (qcl Z Z (X0 4 Z ?_));obtain rfl:=qb F;replace F:=a;exact rb h F Z
  refine X0 5 Z ?_;obtain⟨_,d,F⟩:=qc F;obtain⟨_,_,c,b,k,x⟩:=qtO (h.oldS p) d;refine r_v (qo9 qa Z Z Z (qtC x Z) c b k Z Z Z Z) Z ?_;have s2:=qvS p d c b;refine X0 3 Z (zcB h F (qlt ⟨_,_,rfl,(h.oldS s2)⟩) Z fun _ _ h F=>X0 2 Z (qg Z F ?_ ?_))<;>intro F
  ·refine X0 4 Z ?_;obtain rfl:=qb F;replace F:=a;exact rb h F Z
  exact X0 6 Z (rK ⟨_,F,rfl,h⟩ Z)
 refine qu Z ?_;obtain rfl:=qb F;replace F:=a;exact X0 4 Z (rb h F Z)
def qcC(_:Nat)(list:(List qaA)):Option Int:=V (list.length:Int)
theorem qir{list:(List qaA)}(a:Ro w list cs1){r:Int}(F:qcC n list=V r):RetV prog 313 [oV (List qaA) cs1] w r:=by
 obtain⟨_,_,rfl,_⟩:=a;exact zV 5 func313 Z fun h=>X0 10 Z (ri h F Z)
def qc9(list:(List qaA)):Nat->(List ByteArray)->Int->Option (Flow Bool ((List ByteArray)×Int))|0,_,_=>U|n+1,x1,i1=>bif decide (i1<(list.length:Int)) then(idx list i1).bind fun a=>(appS x1 ([a.Bd]:List ByteArray)).bind fun b=>bif (i1==(W64 ((list.length:Int)-1))) then bif (a.Bx != 2) then V (.ret false) else bif (a.Bv != 0) then V (.ret false) else bif a.Bs then V (.ret false) else qc9 list n b (W64 (i1+1)) else bif (a.Bx != 1) then V (.ret false) else(qaV n a.Bv 0 500).bind fun c=>bif (!c) then V (.ret false) else qc9 list n b (W64 (i1+1)) else V (.nxt (x1,i1))
def qkC(n:Nat)(list:(List qaA)):Option Bool:=(qc9 list n ([]:List ByteArray) 0).bind fun|.ret r=>V r|.nxt (x1,_)=>(qcC n list).bind fun a=>(qaV n a 2 5).bind fun b=>bif b then(qej n x1).bind fun r4=>V r4 else V false
theorem qqD{list:(List qaA)}(d:Ro w list cs1){r:Bool}(F:qkC n list=V r):RetV prog 300 [oV (List qaA) cs1] w r:=by
 obtain⟨v,s,rfl,x⟩:=d;refine zV 52 func300 Z fun h=>X0 15 Z ?_;replace h:=h.nil (α:=ByteArray);obtain⟨z,F,a⟩:=qc F;refine qm (rL (fun m e w'=>∃S1 p c o x1 i1,qc9 list m x1 i1=V z/\e=[(0,oS v list.length s),(3,oS p c o),(6,oS v list.length s),(7,vi (list.length:Int)),(8,vi i1)]/\SH w w' [oW S1 (x1:List ByteArray) [oS p c o]]) n ⟨_,_,_,_,_,_,F,rfl,h⟩ Z ?_);rintro u _ _ ⟨S1,p,c,o,x1,i1,F,rfl,h⟩;obtain rfl:=(h.sl 0 Z).2;rcases u with _|u
 ·cases F
 refine X0 5 Z (qg Z F ?_ ?_)<;>intro F
 ·refine X0 6 Z ?_;obtain⟨A,_,F,g,_,_,_,_,i,k,l,f⟩:=x.ix F;obtain rfl:=qbx l;refine zxe i k g Z (zc 0 (f.below h.below) Z (qp qa h Z Z Z fun _ _ h=>zp1 Z (zs 0 h Z fun _ h=>X1 6 0 h Z (qE qa [.tmp 15] _ ([A.Bd]:List ByteArray) h Z Z Z Z Z Z Z Z Z ⟨rfl,G⟩ Z fun _ _ _ h=>?_))));obtain⟨_,b,F⟩:=qc F;obtain⟨y,b⟩:=qM b;refine qbM qa 2 h Z (h.sl 0 Z).1 (h.sl 0 Z).2 Z Z Z Z Z Z Z Z Z y b Z fun _ _ _ _ h=>X0 10 Z (qg Z F ?_ ?_)<;>intro F
  ·refine X1 6 1 h Z (qk (t:=26) F Z ?_ ?_)<;>intro F
   ·refine X0 9 Z (qcl Z Z (X0 4 Z ?_));obtain rfl:=qb F;replace F:=a;exact rb h F Z
   refine X1 8 1 h Z (qk (t:=31) F Z ?_ ?_)<;>intro F
   ·refine X0 4 Z (qcl Z Z (X0 4 Z ?_));obtain rfl:=qb F;replace F:=a;exact rb h F Z
   refine X1 6 1 h Z (qg Z F ?_ ?_)<;>intro F
   ·refine X0 4 Z ?_;obtain rfl:=qb F;replace F:=a;exact rb h F Z
   refine X0 6 Z ?_;replace h:=h.p [2] Z;exact rK ⟨_,_,_,_,_,_,F,rfl,h⟩ Z
  refine X1 6 1 h Z (qk (t:=38) F Z ?_ ?_)<;>intro F
  ·refine X0 6 Z (qcl Z Z (X0 4 Z ?_));obtain rfl:=qb F;replace F:=a;exact rb h F Z
  refine X1 5 1 h Z (zcB h F qaF Z fun _ _ h F=>X0 4 Z (qg Z F ?_ ?_))<;>intro F
  ·refine X0 4 Z ?_;obtain rfl:=qb F;replace F:=a;exact rb h F Z
  refine X0 6 Z ?_;replace h:=h.p [2] Z;exact rK ⟨_,_,_,_,_,_,F,rfl,h⟩ Z
 refine qu Z ?_;obtain rfl:=qb F;replace F:=a;refine X0 3 Z (zcI h F (qir ⟨_,_,rfl,(h.oldS x)⟩) Z fun _ _ h F=>zcB h F qaF Z fun _ _ h F=>zp1 Z (qk (t:=48) F Z ?_ ?_))<;>intro F
 ·exact X0 3 Z (zcB h F (qfY (h.own 0 Z)) Z fun _ _ h F=>X0 3 Z (rb h F Z))
 exact X0 5 Z (rb h F Z)
def qes(n:Nat)(c:qC):Option Int:=(qcC n c.Bh).bind fun a=>V (W64 (a-1))
theorem qhM{c:qC}(a:Ro w c cs1){r:Int}(F:qes n c=V r):RetV prog 317 [oV qC cs1] w r:=by
 obtain⟨_,_,_,_,_,_,rfl,b,_,_⟩:=qag a;exact zV 7 func317 Z fun h=>zSR (qx h Z Z fun _ _ h=>X1 6 0 h Z (zcI h F (qir ⟨_,_,rfl,(h.oldS b)⟩) Z fun _ _ h F=>X0 3 Z (ri h F Z)))
def qkx(_:Nat)(kind:Int):Option Bool:=bif (kind==4) then V true else V (kind==5)
theorem qqM{kind}  {r:Bool}(F:qkx n kind=V r):RetV prog 326 [vi kind] w r:=by
 refine zV 9 func326 Z fun h=>X0 9 Z (qk (t:=5) F Z ?_ ?_)<;>intro F
 ·exact X0 5 Z (rb h F Z)
 exact X0 7 Z (rb h F Z)
def qhI(n:Nat)(d:Int)(b:Int)(c:Int):Option Bool:=(qaV n d b c).bind fun a=>V (!a)
theorem qox{a_n l m i}(a:Ro w (V l) [.pointer i]){k}(b:Ro w (V m) [.pointer k]){r:Bool}(F:qhI n a_n l m=V r):RetV prog 111 [vi a_n,.pointer i,.pointer k] w r:=by
 obtain⟨_,o,_,rfl,-,f,c⟩:=PtR.get a Z;obtain rfl:=f;obtain⟨_,p,_,rfl,-,g,d⟩:=PtR.get b Z;obtain rfl:=g;exact zV 10 func111 Z fun h=>X0 7 Z (zc 0 (c.below h.below) Z (zc 0 (d.below h.below) Z (zcB h F qaF Z fun _ _ h F=>X0 3 Z (rb h F Z))))
def qaf(s:(List Int))(a:Int)(b:Int):Nat->Int->Option (Flow Int Int)|0,_=>U|n+1,i1=>bif decide (i1<(s.length:Int)) then(idx s i1).bind fun d=>(qhI n d a b).bind fun c=>bif c then V (.ret i1) else qaf s a b n (W64 (i1+1)) else V (.nxt i1)
def qaZ(n:Nat)(s:(List Int))(a:Int)(b:Int):Option Int:=(qaf s a b n 0).bind fun|.ret r=>V r|.nxt _=>V (-1)
theorem qf1{s:(List Int)}{a b}(g:Ro w s cs1){y}(d:Ro w (V a) [.pointer y]){z}(f:Ro w (V b) [.pointer z]){r:Int}(F:qaZ n s a b=V r):RetV prog 164 [oV (List Int) cs1,.func (.func 111) #[] #[.pointer y,.pointer z]] w r:=by
 obtain⟨C,A,rfl,D⟩:=g;obtain⟨b1,u,_,rfl,-,p,_⟩:=PtR.get d Z;obtain rfl:=p;obtain⟨b2,v,_,rfl,-,t,_⟩:=PtR.get f Z;obtain rfl:=t;refine zV 19 func164 Z fun h=>X0 11 Z ?_;obtain⟨B,F,c⟩:=qc F;refine qm (rL (fun m e w'=>∃i1,qaf s a b m i1=V B/\e=[(0,oS C s.length A),(1,.func (.func 111) #[] #[.pointer (V ⟨b1,u,U⟩),.pointer (V ⟨b2,v,U⟩)]),(7,vi (s.length:Int)),(8,vi i1)]/\SH w w' []) n ⟨_,F,rfl,h⟩ Z ?_);rintro x _ _ ⟨i1,F,rfl,h⟩;rcases x with _|x
 ·cases F
 refine X0 5 Z (qg Z F ?_ ?_)<;>intro F
 ·refine X0 13 Z ?_;obtain⟨_,_,F,k,_,_,_,_,l,o,rfl,i⟩:=D.ix F;refine zxe l o k Z (zc 0 (i.below h.below) Z (zcB h F (qox (h.old d) (h.old f)) Z fun _ _ h F=>qaj (qg Z F ?_ ?_)))<;>intro F
  ·refine X0 5 Z ?_;obtain rfl:=qb F;replace F:=c;exact ri h F Z
  exact X0 6 Z (rK ⟨_,F,rfl,h⟩ Z)
 refine qu Z ?_;obtain rfl:=qb F;replace F:=c;exact X0 4 Z (ri h F Z)
def qbA(n:Nat)(s:(List Int))(a:Int)(b:Int):Option Bool:=(qaZ n s a b).bind fun c=>V (decide (c>=0))
theorem qfu{s:(List Int)}{a b}(f:Ro w s cs1){k}(c:Ro w (V a) [.pointer k]){l}(d:Ro w (V b) [.pointer l]){r:Bool}(F:qbA n s a b=V r):RetV prog 110 [oV (List Int) cs1,.func (.func 111) #[] #[.pointer k,.pointer l]] w r:=by
 obtain⟨_,_,rfl,p⟩:=f;obtain⟨_,m,_,rfl,-,g,_⟩:=PtR.get c Z;obtain rfl:=g;obtain⟨_,o,_,rfl,-,i,_⟩:=PtR.get d Z;obtain rfl:=i;exact zV 9 func110 Z fun h=>X0 8 Z (zcI h F (qf1 ⟨_,_,rfl,(h.oldS p)⟩ (h.old c) (h.old d)) Z fun _ _ h F=>X0 3 Z (rb h F Z))
def qbX(n:Nat)(list:(List Int))(c:Int)(b:Int):Option Bool:=(qbA n list c b).bind fun a=>V (!a)
theorem qck{list:(List Int)}{low high}(a:Ro w list cs1){r:Bool}(F:qbX n list low high=V r):RetV prog 67 [oV (List Int) cs1,vi low,vi high] w r:=by
 obtain⟨_,_,rfl,b⟩:=a;exact zV 11 func67 Z fun h=>zSR (qx h Z Z fun _ _ h=>qx h Z Z fun _ _ h=>X0 6 Z (zcB h F (qfu ⟨_,_,rfl,(h.oldS b)⟩ (qfV (x:=low) 1 h Z Z) (qfV (x:=high) 0 h Z Z)) Z fun _ _ h F=>X0 3 Z (rb h F Z)))
def qbt(_:Nat)(list:(List Int)):Option Int:=V (list.length:Int)
theorem qcG{list:(List Int)}(a:Ro w list cs1){r:Int}(F:qbt n list=V r):RetV prog 208 [oV (List Int) cs1] w r:=by
 obtain⟨_,_,rfl,_⟩:=a;exact zV 5 func208 Z fun h=>X0 10 Z (ri h F Z)
def qbv(list:(List Int)):Nat->Int->Option (Flow Bool Int)|0,_=>U|n+1,i1=>bif decide (i1<(list.length:Int)) then(idx list (W64 (i1-1))).bind fun a=>(idx list i1).bind fun b=>bif decide (a>=b) then V (.ret false) else qbv list n (W64 (i1+1)) else V (.nxt i1)
def qfa(n:Nat)(list:(List Int)):Option Bool:=(qbv list n 1).bind fun|.ret r=>V r|.nxt _=>V true
theorem qjU{list:(List Int)}(b:Ro w list cs1){r:Bool}(F:qfa n list=V r):RetV prog 215 [oV (List Int) cs1] w r:=by
 obtain⟨v,t,rfl,s⟩:=b;refine zV 20 func215 Z fun h=>X0 9 Z ?_;obtain⟨u,F,a⟩:=qc F;refine qm (rL (fun m e w'=>∃i1,qbv list m i1=V u/\e=[(0,oS v list.length t),(3,vi i1)]/\SH w w' []) n ⟨_,F,rfl,h⟩ Z ?_);rintro p _ _ ⟨i1,F,rfl,h⟩;rcases p with _|p
 ·cases F
 refine X0 8 Z (qg Z F ?_ ?_)<;>intro F
 ·refine X0 4 Z (rD (zd3 Z ?_));obtain⟨_,_,F,f,_,_,_,_,i,l,rfl,c⟩:=s.ix F;refine zdxe i l f Z (zdc 0 (c.below h.below) Z (zd2 Z ?_));obtain⟨_,_,F,g,_,_,_,_,k,o,rfl,d⟩:=s.ix F;refine zdxe k o g Z (zdc 0 (d.below h.below) Z (zd1 Z (dN h fun _ h=>qg Z F ?_ ?_)))<;>intro F
  ·refine X0 4 Z ?_;obtain rfl:=qb F;replace F:=a;exact rb h F Z
  exact X0 7 Z (rK ⟨_,F,rfl,h⟩ Z)
 refine qu Z ?_;obtain rfl:=qb F;replace F:=a;exact X0 4 Z (rb h F Z)
def qjV(n:Nat)(list:(List Int)):Option Bool:=(qbt n list).bind fun a=>(qaV n a 1 4).bind fun b=>bif b then(qbX n list 0 100000).bind fun c=>bif c then(qfa n list).bind fun r4=>V r4 else V false else V false
theorem qn0{list:(List Int)}(a:Ro w list cs1){r:Bool}(F:qjV n list=V r):RetV prog 344 [oV (List Int) cs1] w r:=by
 obtain⟨_,_,rfl,b⟩:=a;refine zV 14 func344 Z fun h=>X0 7 Z (zcI h F (qcG ⟨_,_,rfl,(h.oldS b)⟩) Z fun _ _ h F=>zcB h F qaF Z fun _ _ h F=>zp1 Z (qk (t:=6) F Z ?_ ?_))<;>intro F
 ·refine X0 3 Z (zcB h F (qck ⟨_,_,rfl,(h.oldS b)⟩) Z fun _ _ h F=>zp2 Z (qk (t:=10) F Z ?_ ?_))<;>intro F
  ·exact X0 3 Z (zcB h F (qjU ⟨_,_,rfl,(h.oldS b)⟩) Z fun _ _ h F=>X0 3 Z (rb h F Z))
  exact X0 5 Z (rb h F Z)
 exact X0 9 Z (rb h F Z)
def qku(n:Nat)(t:qy):Option Bool:=(qjV n t.Bo).bind fun a=>bif a then(qjV n t.Bk).bind fun b=>bif b then bif ((t.Bj.length:Int)==(W64 ((t.Bo.length:Int)*(t.Bk.length:Int)))) then(qbX n t.Bj (-1000000) 1000000).bind fun c=>V c else V false else V false else V false
theorem qqL{t:qy}(a:Ro w t cs1){r:Bool}(F:qku n t=V r):RetV prog 338 [oV qy cs1] w r:=by
 obtain⟨_,_,_,_,_,_,rfl,b,s2,c⟩:=qaJ a;refine zV 29 func338 Z fun h=>zSR (qx h Z Z fun _ _ h=>X1 6 0 h Z (zcB h F (qn0 ⟨_,_,rfl,(h.oldS b)⟩) Z fun _ _ h F=>zp1 Z (qk (t:=6) F Z ?_ ?_)))<;>intro F
 ·refine X1 5 0 h Z (zcB h F (qn0 ⟨_,_,rfl,(h.oldS s2)⟩) Z fun _ _ h F=>zp2 Z (qk (t:=11) F Z ?_ ?_))<;>intro F
  ·refine X3 24 0 0 0 h Z (qk (t:=24) F Z ?_ ?_)<;>intro F
   ·exact X1 5 0 h Z (zcB h F (qck ⟨_,_,rfl,(h.oldS c)⟩) Z fun _ _ h F=>X0 3 Z (rb h F Z))
   exact X0 6 Z (rb h F Z)
  exact X0 19 Z (rb h F Z)
 exact X0 24 Z (rb h F Z)
def qc3(x:(List Int)):Nat->Int->Int->Option (Int×Int)|0,_,_=>U|n+1,i1,a=>bif decide (a<(x.length:Int)) then(idx x a).bind fun b=>qc3 x n (if b<i1 then b else i1) (W64 (a+1)) else V (i1,a)
def qhC(n:Nat)(x:(List Int)):Option Int:=(bif decide ((x.length:Int)<1) then U else V ()).bind fun _=>(idx x 0).bind fun a=>(qc3 x n a 1).bind fun(i1,_)=>V i1
theorem qoE{x:(List Int)}(f:Ro w x cs1){r:Int}(F:qhC n x=V r):RetV prog 339 [oV (List Int) cs1] w r:=by
 obtain⟨z,v,rfl,A⟩:=f;refine zV 25 func339 Z fun h=>X0 11 Z ?_;obtain⟨b,a,_,F,d⟩:=bindE F;refine qa1 (fun e w'=>b ()=V r/\e=[(0,oS z x.length v)]/\SH w w' []) ?_ ?_
 ·refine qg Z F ?_ ?_<;>intro F
  ·refine qO ?_;cases F
  refine qcx ?_;obtain rfl:=qb F;exact rG ⟨d,rfl,h⟩ Z
 rintro _ _ ⟨F,rfl,h⟩;subst a;refine X0 3 Z ?_;obtain⟨_,_,F,k,_,_,_,_,o,s,rfl,g⟩:=A.ix F;refine zxe o s k Z (zc 0 (g.below h.below) Z (X0 7 Z ?_));obtain⟨B,F,c⟩:=qc F;refine qm (rL (fun m e w'=>∃i1 u,qc3 x m i1 u=V B/\e=[(0,oS z x.length v),(3,vi i1),(4,vi u)]/\SH w w' []) n ⟨_,_,F,rfl,h⟩ Z ?_);rintro y _ _ ⟨i1,u,F,rfl,h⟩;rcases y with _|y
 ·cases F
 refine X0 8 Z (qg Z F ?_ ?_)<;>intro F
 ·refine X0 7 Z ?_;obtain⟨_,_,F,l,_,_,_,_,p,t,rfl,i⟩:=A.ix F;exact zxe p t l Z (zc 0 (i.below h.below) Z (X0 9 Z (rK ⟨_,_,F,rfl,h⟩ Z)))
 refine qu Z ?_;obtain rfl:=qb F;replace F:=c;exact X0 5 Z (ri h F Z)
def qhs(n:Nat)(t:qy)(c:Bool):Option Bool:=(qku n t).bind fun a=>bif (!a) then V true else bif c then(qhC n t.Bj).bind fun b=>V (decide (b<0)) else V false
theorem qow{t:qy}{g}(a:Ro w t cs1){f}(b:Ro w (V g) [.pointer f]){r:Bool}(F:qhs n t g=V r):RetV prog 337 [oV qy cs1,.pointer f] w r:=by
 obtain⟨_,_,_,_,_,_,rfl,_,_,k⟩:=qaJ a;obtain⟨_,i,_,rfl,-,d,c⟩:=PtR.get b Z;obtain rfl:=d;refine zV 16 func337 Z fun h=>zSR (qx h Z Z fun _ _ h=>X1 5 0 h Z (zcB h F (qqL (h.old a)) Z fun _ _ h F=>zp2 Z (qk (t:=7) F Z ?_ ?_)))<;>intro F
 ·exact X0 10 Z (rb h F Z)
 refine X0 1 Z (zc 0 (c.below h.below) Z (X0 2 Z (qk (t:=9) F Z ?_ ?_)))<;>intro F
 ·exact X1 5 0 h Z (zcI h F (qoE ⟨_,_,rfl,(h.oldS k)⟩) Z fun _ _ h F=>X0 7 Z (rb h F Z))
 exact X0 9 Z (rb h F Z)
def qS(s:(List qy))(a:Bool):Nat->Int->Option (Flow Int Int)|0,_=>U|n+1,i1=>bif decide (i1<(s.length:Int)) then(idx s i1).bind fun c=>(qhs n c a).bind fun b=>bif b then V (.ret i1) else qS s a n (W64 (i1+1)) else V (.nxt i1)
def qaI(n:Nat)(s:(List qy))(a:Bool):Option Int:=(qS s a n 0).bind fun|.ret r=>V r|.nxt _=>V (-1)
theorem qe8{s:(List qy)}{a}(d:Ro w s cs1){u}(c:Ro w (V a) [.pointer u]){r:Int}(F:qaI n s a=V r):RetV prog 343 [oV (List qy) cs1,.func (.func 337) #[] #[.pointer u]] w r:=by
 obtain⟨y,v,rfl,z⟩:=d;obtain⟨b1,p,_,rfl,-,l,_⟩:=PtR.get c Z;obtain rfl:=l;refine zV 19 func343 Z fun h=>X0 11 Z ?_;obtain⟨x,F,b⟩:=qc F;refine qm (rL (fun m e w'=>∃i1,qS s a m i1=V x/\e=[(0,oS y s.length v),(1,.func (.func 337) #[] #[.pointer (V ⟨b1,p,U⟩)]),(7,vi (s.length:Int)),(8,vi i1)]/\SH w w' []) n ⟨_,F,rfl,h⟩ Z ?_);rintro t _ _ ⟨i1,F,rfl,h⟩;rcases t with _|t
 ·cases F
 refine X0 5 Z (qg Z F ?_ ?_)<;>intro F
 ·refine X0 13 Z ?_;obtain⟨C,_,F,g,_,_,_,_,i,k,o,f⟩:=z.ix F;obtain⟨_,_,_,_,_,_,rfl,s2,A,B⟩:=qaJ o;refine zxe i k g Z (zc 0 (f.below h.below) Z (zcB h F (qow (qft C (h.oldS s2) (h.oldS A) (h.oldS B)) (h.old c)) Z fun _ _ h F=>qaj (qg Z F ?_ ?_)))<;>intro F
  ·refine X0 5 Z ?_;obtain rfl:=qb F;replace F:=b;exact ri h F Z
  exact X0 6 Z (rK ⟨_,F,rfl,h⟩ Z)
 refine qu Z ?_;obtain rfl:=qb F;replace F:=b;exact X0 4 Z (ri h F Z)
def qa5(n:Nat)(s:(List qy))(a:Bool):Option Bool:=(qaI n s a).bind fun b=>V (decide (b>=0))
theorem qeE{s:(List qy)}{a}(c:Ro w s cs1){f}(b:Ro w (V a) [.pointer f]){r:Bool}(F:qa5 n s a=V r):RetV prog 336 [oV (List qy) cs1,.func (.func 337) #[] #[.pointer f]] w r:=by
 obtain⟨_,_,rfl,i⟩:=c;obtain⟨_,g,_,rfl,-,d,_⟩:=PtR.get b Z;obtain rfl:=d;exact zV 9 func336 Z fun h=>X0 8 Z (zcI h F (qe8 ⟨_,_,rfl,(h.oldS i)⟩ (h.old b)) Z fun _ _ h F=>X0 3 Z (rb h F Z))
def qfO(n:Nat)(list:(List qy))(b:Bool):Option Bool:=bif ((list.length:Int)==2) then(qa5 n list b).bind fun a=>V (!a) else V false
theorem qiY{list:(List qy)}{positive}(a:Ro w list cs1){r:Bool}(F:qfO n list positive=V r):RetV prog 327 [oV (List qy) cs1,.bool positive] w r:=by
 obtain⟨_,_,rfl,b⟩:=a;refine zV 14 func327 Z fun h=>zSR (qx h Z Z fun _ _ h=>X0 8 Z (qk (t:=8) F Z ?_ ?_))<;>intro F
 ·exact X0 5 Z (zcB h F (qeE ⟨_,_,rfl,(h.oldS b)⟩ (qfV (x:=positive) 0 h Z Z)) Z fun _ _ h F=>X0 5 Z (rb h F Z))
 exact X0 7 Z (rb h F Z)
def qjf(_:Nat)(p:qaA):Option Bool:=V p.Bs
theorem qnD{p:qaA}(a:Ro w p cs1){r:Bool}(F:qjf n p=V r):RetV prog 341 [oV qaA cs1] w r:=by
 obtain rfl:=qbx a;exact zV 5 func341 Z fun h=>zSR (qx h Z Z fun _ _ h=>X1 8 0 h Z (rb h F Z))
def qX(s:(List qaA)):Nat->Int->Option (Flow Int Int)|0,_=>U|n+1,i1=>bif decide (i1<(s.length:Int)) then(idx s i1).bind fun b=>(qjf n b).bind fun a=>bif a then V (.ret i1) else qX s n (W64 (i1+1)) else V (.nxt i1)
def qbu(n:Nat)(s:(List qaA)):Option Int:=(qX s n 0).bind fun|.ret r=>V r|.nxt _=>V (-1)
theorem qfq{s:(List qaA)}(b:Ro w s cs1){r:Int}(F:qbu n s=V r):RetV prog 340 [oV (List qaA) cs1,.func (.func 341) #[] #[]] w r:=by
 obtain⟨p,l,rfl,t⟩:=b;refine zV 19 func340 Z fun h=>X0 11 Z ?_;obtain⟨o,F,a⟩:=qc F;refine qm (rL (fun m e w'=>∃i1,qX s m i1=V o/\e=[(0,oS p s.length l),(1,.func (.func 341) #[] #[]),(7,vi (s.length:Int)),(8,vi i1)]/\SH w w' []) n ⟨_,F,rfl,h⟩ Z ?_);rintro k _ _ ⟨i1,F,rfl,h⟩;rcases k with _|k
 ·cases F
 refine X0 5 Z (qg Z F ?_ ?_)<;>intro F
 ·refine X0 13 Z ?_;obtain⟨u,_,F,d,_,_,_,_,f,g,i,c⟩:=t.ix F;obtain rfl:=qbx i;refine zxe f g d Z (zc 0 (c.below h.below) Z (zcB h F (qnD (qka u)) Z fun _ _ h F=>qaj (qg Z F ?_ ?_)))<;>intro F
  ·refine X0 5 Z ?_;obtain rfl:=qb F;replace F:=a;exact ri h F Z
  exact X0 6 Z (rK ⟨_,F,rfl,h⟩ Z)
 refine qu Z ?_;obtain rfl:=qb F;replace F:=a;exact X0 4 Z (ri h F Z)
def qic(n:Nat)(c:qC):Option Int:=(qbu n c.Bh).bind fun a=>V a
theorem qoM{c:qC}(a:Ro w c cs1){r:Int}(F:qic n c=V r):RetV prog 328 [oV qC cs1] w r:=by
 obtain⟨_,_,_,_,_,_,rfl,b,_,_⟩:=qag a;exact zV 6 func328 Z fun h=>zSR (qx h Z Z fun _ _ h=>X1 6 0 h Z (zcI h F (qfq ⟨_,_,rfl,(h.oldS b)⟩) Z fun _ _ h F=>X0 2 Z (ri h F Z)))
def qgP(n:Nat)(c:qC)(pin:Int):Option Bool:=(qes n c).bind fun a=>(qaV n pin 0 (W64 (a-1))).bind fun b=>V b
theorem qkh{c:qC}{pin}(a:Ro w c cs1){r:Bool}(F:qgP n c pin=V r):RetV prog 329 [oV qC cs1,vi pin] w r:=by
 obtain⟨_,_,_,_,_,_,rfl,_,_,_⟩:=qag a;exact zV 10 func329 Z fun h=>zSR (qx h Z Z fun _ _ h=>X1 6 0 h Z (zcI h F (qhM (h.old a)) Z fun _ _ h F=>zp1 Z (zcB h F qaF Z fun _ _ h F=>X0 2 Z (rb h F Z))))

def qih(n:Nat)(b:qC)(a:qY):Option Bool:=(qkx n a.Bi).bind fun d=>bif d then(bif (a.Bp==0) then bif ((a.Be.length:Int)==0) then(qfO n a.Br false).bind fun f=>bif f then(qic n b).bind fun g=>bif (a.Bl==g) then bif decide (a.Bl>=0) then(qgP n b a.To).bind fun r4=>bif r4 then V (a.To != a.Bl) else V false else V false else V false else V false else V false else V false).bind fun b1=>V b1 else((qfO n a.Br true).bind fun i=>bif (!i) then V true else(qfO n a.Be true).bind fun k=>bif (!k) then V true else(qes n b).bind fun l=>bif (a.To != l) then V true else(qgP n b a.Bl).bind fun m=>V (!m)).bind fun b2=>bif b2 then V false else bif (a.Bi==1) then(idx b.Bh a.Bl).bind fun o=>bif (!o.Bs) then(qaV n a.Bp 1 3).bind fun h=>V h else V false else(bif (a.Bi==2) then V (a.Bi==2) else V (a.Bi==3)).bind fun c=>bif c then(idx b.Bh a.Bl).bind fun p=>bif p.Bs then V (a.Bp==0) else V false else V false
theorem qoV{c:qC}{d:qY}(b:Ro w c cs1)(z:Ro w d cs2){r:Bool}(F:qih n c d=V r):RetV prog 314 [oV qC cs1,oV qY cs2] w r:=by
 obtain⟨Y,S,p2,T,p3,k3,rfl,s1,_,_⟩:=qag b;obtain⟨p4,W,p5,X,rfl,s4,s5⟩:=qah z;refine zV 103 func314 Z fun h=>zSR (qx h Z Z fun _ f h=>qx h Z Z fun _ g h=>X1 7 0 h Z (zcB h F qqM Z fun _ _ h F=>qaj (qg Z F ?_ ?_)))<;>intro F
 ·refine qW ?_;obtain⟨u,l,_,F,a⟩:=bindE F;refine qa1 (fun e w'=>∃b1,u b1=V r/\e=[(4,.bool b1)]/\SH w w' []) ?_ ?_
  ·refine rD (Y1 2 0 h Z ?_);refine zd2 Z (qaR (t:=11) F Z ?_ ?_)<;>intro F
   ·refine Y1 4 0 h Z ?_;refine Y0 6 Z (qaR (t:=17) F Z ?_ ?_)<;>intro F
    ·refine Y1 4 0 h Z ?_;refine Y0 1 Z ?_;obtain⟨r2,L,F⟩:=qc F;refine qaK r2 (vsB _) (cB 327 Z) (fun _ hb=>qiY ⟨_,_,rfl,((h.ext hb).oldS s4)⟩ L) Z Z Z Z (zd2 Z (qaR (t:=22) F Z ?_ ?_))<;>intro F
     ·refine Y1 4 0 h Z ?_;refine Y1 2 1 h Z ?_;refine Y0 1 Z ?_;obtain⟨r3,M,F⟩:=qc F;refine qaK r3 (vsI _) (cB 328 Z) (fun _ hb=>qoM ((h.ext hb).old b) M) Z Z Z Z (Y0 4 Z (qaR (t:=29) F Z ?_ ?_))<;>intro F
      ·refine Y1 4 0 h Z ?_;refine Y0 4 Z (qaR (t:=34) F Z ?_ ?_)<;>intro F
       ·refine Y1 2 1 h Z ?_;refine Y1 4 0 h Z ?_;refine Y0 1 Z ?_;obtain⟨r4,N,F⟩:=qc F;refine qaK r4 (vsB _) (cB 329 Z) (fun _ hb=>qkh ((h.ext hb).old b) N) Z Z Z Z (zd2 Z (qaR (t:=40) F Z ?_ ?_))<;>intro F
        ·refine Y1 4 0 h Z ?_;refine Y1 4 0 h Z ?_;refine Y0 4 Z (dN h fun _ h=>?_);replace h:=h.p [] Z;obtain rfl:=qb F;exact rG ⟨_,a,rfl,h⟩ Z
        refine Y0 7 Z (dN h fun _ h=>?_);replace h:=h.p [] Z;obtain rfl:=qb F;exact rG ⟨_,a,rfl,h⟩ Z
       refine Y0 13 Z (dN h fun _ h=>?_);replace h:=h.p [] Z;obtain rfl:=qb F;exact rG ⟨_,a,rfl,h⟩ Z
      refine Y0 18 Z (dN h fun _ h=>?_);replace h:=h.p [] Z;obtain rfl:=qb F;exact rG ⟨_,a,rfl,h⟩ Z
     refine Y0 25 Z (dN h fun _ h=>?_);replace h:=h.p [] Z;obtain rfl:=qb F;exact rG ⟨_,a,rfl,h⟩ Z
    refine Y0 30 Z (dN h fun _ h=>?_);replace h:=h.p [] Z;obtain rfl:=qb F;exact rG ⟨_,a,rfl,h⟩ Z
   refine Y0 36 Z (dN h fun _ h=>?_);replace h:=h.p [] Z;obtain rfl:=qb F;exact rG ⟨_,a,rfl,h⟩ Z
  rintro _ _ ⟨b1,F,rfl,h⟩;subst l;exact rb h F Z
 refine zKSS ?_;obtain⟨x,o,_,F,i⟩:=bindE F;refine qa1 (fun e w'=>∃b2,x b2=V r/\e=[(2,vp f),(3,vp g),(70,.bool b2)]/\SH w w' [oX g (qg7 d p4 p5 W X) 238,oX f (qed c Y p2 p3 S T k3) 251]) ?_ ?_
 ·refine rD (Y1 2 0 h Z ?_);obtain⟨r6,Q,F⟩:=qc F;refine qaK r6 (vsB _) (cB 327 Z) (fun _ hb=>qiY ⟨_,_,rfl,((h.ext hb).oldS s4)⟩ Q) Z Z Z Z (zd2 Z (qaR (t:=51) F Z ?_ ?_))<;>intro F
  ·refine Y0 19 Z (dN h fun _ h=>?_);obtain rfl:=qb F;exact rG ⟨_,i,rfl,h⟩ Z
  refine Y1 4 0 h Z ?_;refine Y0 1 Z ?_;obtain⟨r7,R,F⟩:=qc F;refine qaK r7 (vsB _) (cB 327 Z) (fun _ hb=>qiY ⟨_,_,rfl,((h.ext hb).oldS s5)⟩ R) Z Z Z Z (Y0 4 Z (qaR (t:=57) F Z ?_ ?_))<;>intro F
  ·refine Y0 13 Z (dN h fun _ h=>?_);obtain rfl:=qb F;exact rG ⟨_,i,rfl,h⟩ Z
  refine Y1 4 0 h Z ?_;refine Y1 2 1 h Z ?_;refine Y0 1 Z ?_;obtain⟨r8,p,F⟩:=qc F;refine qaK r8 (vsI _) (cB 317 Z) (fun _ hb=>qhM ((h.ext hb).old b) p) Z Z Z Z (Y0 4 Z (qaR (t:=64) F Z ?_ ?_))<;>intro F
  ·refine Y0 6 Z (dN h fun _ h=>?_);obtain rfl:=qb F;exact rG ⟨_,i,rfl,h⟩ Z
  refine Y1 2 1 h Z ?_;refine Y1 4 0 h Z ?_;refine Y0 1 Z ?_;obtain⟨r9,s,F⟩:=qc F;refine qaK r9 (vsB _) (cB 329 Z) (fun _ hb=>qkh ((h.ext hb).old b) s) Z Z Z Z (Y0 3 Z (dN h fun _ h=>?_));obtain rfl:=qb F;exact rG ⟨_,i,rfl,h⟩ Z
 rintro _ _ ⟨b2,F,rfl,h⟩;subst o;refine qg Z F ?_ ?_<;>intro F
 ·exact X0 4 Z (rb h F Z)
 refine X1 13 0 h Z (qg Z F ?_ ?_)<;>intro F
 ·refine X2 6 1 0 h Z ?_;obtain⟨_,_,F,C,_,_,_,_,H,J,O,A⟩:=s1.ix F;obtain rfl:=qbx O;refine zxe H J C Z (zp1 Z (zc 3 (A.below h.below) Z (zp2 Z (qk (t:=83) F Z ?_ ?_))))<;>intro F
  ·exact X1 5 0 h Z (zcB h F qaF Z fun _ _ h F=>X0 3 Z (rb h F Z))
  exact X0 6 Z (rb h F Z)
 refine X0 6 Z ?_;obtain⟨v,m,_,F,k⟩:=bindE F;refine qa1 (fun e w'=>∃y,v y=V r/\e=[(2,vp f),(3,vp g),(88,.bool y)]/\SH w w' [oX g (qg7 d p4 p5 W X) 238,oX f (qed c Y p2 p3 S T k3) 251]) ?_ ?_
 ·refine qg Z F ?_ ?_<;>intro F
  ·refine qcx ?_;obtain rfl:=qb F;exact rG ⟨_,k,rfl,h⟩ Z
  refine X0 4 Z ?_;obtain rfl:=qb F;exact rG ⟨_,k,rfl,h⟩ Z
 rintro _ _ ⟨y,F,rfl,h⟩;subst m;refine qg Z F ?_ ?_<;>intro F
 ·refine X2 6 1 0 h Z ?_;obtain⟨_,_,F,D,_,_,_,_,I,K,P,B⟩:=s1.ix F;obtain rfl:=qbx P;refine zxe I K D Z (zp1 Z (zc 3 (B.below h.below) Z (zp1 Z (qk (t:=98) F Z ?_ ?_))))<;>intro F
  ·exact X1 9 0 h Z (rb h F Z)
  exact X0 6 Z (rb h F Z)
 exact X0 6 Z (rb h F Z)
def qfx(_:Nat)(b:qY)(a:qY):Option Bool:=bif (b.Bi==a.Bi) then bif (b.Bl==a.Bl) then V (b.To==a.To) else V false else V false
theorem qm6{k:qY}{g:qY}(b:Ro w k cs1){f}(c:Ro w (V g) [.pointer f]){r:Bool}(F:qfx n k g=V r):RetV prog 316 [oV qY cs1,.pointer f] w r:=by
 obtain⟨_,_,_,_,rfl,_,_⟩:=qah b;obtain⟨_,i,_,rfl,-,d,a⟩:=PtR.get c Z;obtain⟨_,_,_,_,rfl,_,_⟩:=qah d;refine zV 23 func316 Z fun h=>zSR (qx h Z Z fun _ _ h=>X1 7 0 h Z (zc 0 (a.below h.below) Z (zp2 Z (qk (t:=9) F Z ?_ ?_))))<;>intro F
 ·refine X1 7 0 h Z (zc 1 (a.below h.below) Z (X0 4 Z (qk (t:=16) F Z ?_ ?_)))<;>intro F
  ·exact X1 7 0 h Z (zc 2 (a.below h.below) Z (X0 5 Z (rb h F Z)))
  exact X0 8 Z (rb h F Z)
 exact X0 15 Z (rb h F Z)
def qR(s:(List qY))(a:qY):Nat->Int->Option (Flow Int Int)|0,_=>U|n+1,i1=>bif decide (i1<(s.length:Int)) then(idx s i1).bind fun c=>(qfx n c a).bind fun b=>bif b then V (.ret i1) else qR s a n (W64 (i1+1)) else V (.nxt i1)
def qbb(n:Nat)(s:(List qY))(a:qY):Option Int:=(qR s a n 0).bind fun|.ret r=>V r|.nxt _=>V (-1)
theorem qeR{s:(List qY)}{a:qY}(d:Ro w s cs1){u}(c:Ro w (V a) [.pointer u]){r:Int}(F:qbb n s a=V r):RetV prog 330 [oV (List qY) cs1,.func (.func 316) #[] #[.pointer u]] w r:=by
 obtain⟨y,v,rfl,z⟩:=d;obtain⟨b1,p,_,rfl,-,l,_⟩:=PtR.get c Z;obtain⟨_,_,_,_,rfl,_,_⟩:=qah l;refine zV 19 func330 Z fun h=>X0 11 Z ?_;obtain⟨x,F,b⟩:=qc F;refine qm (rL (fun m e w'=>∃i1,qR s a m i1=V x/\e=[(0,oS y s.length v),(1,.func (.func 316) #[] #[.pointer (V ⟨b1,p,U⟩)]),(7,vi (s.length:Int)),(8,vi i1)]/\SH w w' []) n ⟨_,F,rfl,h⟩ Z ?_);rintro t _ _ ⟨i1,F,rfl,h⟩;rcases t with _|t
 ·cases F
 refine X0 5 Z (qg Z F ?_ ?_)<;>intro F
 ·refine X0 13 Z ?_;obtain⟨C,_,F,g,_,_,_,_,i,k,o,f⟩:=z.ix F;obtain⟨_,_,_,_,rfl,A,B⟩:=qah o;refine zxe i k g Z (zc 0 (f.below h.below) Z (zcB h F (qm6 (qfS C (h.oldS A) (h.oldS B)) (h.old c)) Z fun _ _ h F=>qaj (qg Z F ?_ ?_)))<;>intro F
  ·refine X0 5 Z ?_;obtain rfl:=qb F;replace F:=b;exact ri h F Z
  exact X0 6 Z (rK ⟨_,F,rfl,h⟩ Z)
 refine qu Z ?_;obtain rfl:=qb F;replace F:=b;exact X0 4 Z (ri h F Z)
def qay(n:Nat)(s:(List qY))(a:qY):Option Bool:=(qbb n s a).bind fun b=>V (decide (b>=0))
theorem qeA{s:(List qY)}{a:qY}(c:Ro w s cs1){f}(b:Ro w (V a) [.pointer f]){r:Bool}(F:qay n s a=V r):RetV prog 315 [oV (List qY) cs1,.func (.func 316) #[] #[.pointer f]] w r:=by
 obtain⟨_,_,rfl,i⟩:=c;obtain⟨_,g,_,rfl,-,d,_⟩:=PtR.get b Z;obtain⟨_,_,_,_,rfl,_,_⟩:=qah d;exact zV 9 func315 Z fun h=>X0 8 Z (zcI h F (qeR ⟨_,_,rfl,(h.oldS i)⟩ (h.old b)) Z fun _ _ h F=>X0 3 Z (rb h F Z))
def qcD(c:qC):Nat->Int->Option (Flow Bool Int)|0,_=>U|n+1,i1=>bif decide (i1<(c.Bc.length:Int)) then(idx c.Bc i1).bind fun a=>(qih n c a).bind fun b=>bif (!b) then V (.ret false) else(subS c.Bc 0 i1).bind fun x1=>(qay n x1 a).bind fun d=>bif d then V (.ret false) else qcD c n (W64 (i1+1)) else V (.nxt i1)
def qgS(n:Nat)(c:qC):Option Bool:=(qcD c n 0).bind fun|.ret r=>V r|.nxt _=>V (decide ((c.Bc.length:Int)<=8))
theorem qnS{c:qC}(d:Ro w c cs1){r:Bool}(F:qgS n c=V r):RetV prog 301 [oV qC cs1] w r:=by
 obtain⟨J,H,A,y,K,k3,rfl,_,s2,_⟩:=qag d;refine zV 30 func301 Z fun h=>zSR (qx h Z Z fun _ b h=>X1 10 0 h Z ?_);obtain⟨I,F,a⟩:=qc F;refine qm (rL (fun m e w'=>∃i1,qcD c m i1=V I/\e=[(1,vp b),(6,oS A c.Bc.length y),(7,vi (c.Bc.length:Int)),(8,vi i1)]/\SH w w' [oX b (qed c J A K H y k3) 251]) n ⟨_,F,rfl,h⟩ Z ?_);rintro z _ _ ⟨i1,F,rfl,h⟩;rcases z with _|z
 ·cases F
 refine X0 5 Z (qg Z F ?_ ?_)<;>intro F
 ·refine X0 6 Z ?_;obtain⟨v,_,F,l,_,_,_,_,p,s,u,k⟩:=s2.ix F;obtain⟨_,_,_,_,rfl,B,C⟩:=qah u;refine zxe p s l Z (zc 0 (k.below h.below) Z (qp qa h Z Z Z fun _ _ h=>zp1 Z (zs 0 h Z fun _ h=>X2 5 1 0 h Z (zcB h F (qoV (h.old d) (qfS v (h.oldS B) (h.oldS C))) Z fun _ _ h F=>zp2 Z (qk (t:=17) F Z ?_ ?_)))))<;>intro F
  ·refine X0 8 Z (qcl Z Z (X0 4 Z ?_));obtain rfl:=qb F;replace F:=a;exact rb h F Z
  refine X1 7 1 h Z ?_;obtain⟨_,i,F⟩:=qc F;obtain⟨_,_,g,f,o,D⟩:=qtO (h.oldS s2) i;refine r_v (qo9 qa Z Z Z (qtC D Z) g f o Z Z Z Z) Z ?_;have L:=qvS s2 i g f;refine X0 3 Z (zcB h F (qeA ⟨_,_,rfl,(h.oldS L)⟩ (qfV (x:=v) 0 h Z (qfS v (h.oldS B) (h.oldS C)))) Z fun _ _ h F=>X0 2 Z (qg Z F ?_ ?_))<;>intro F
  ·refine X0 4 Z ?_;obtain rfl:=qb F;replace F:=a;exact rb h F Z
  refine X0 6 Z ?_;replace h:=h.p [1] Z;exact rK ⟨_,F,rfl,h⟩ Z
 refine qu Z ?_;obtain rfl:=qb F;replace F:=a;exact X1 8 0 h Z (rb h F Z)
def qkm(_:Nat)(a:qY)(b:Int):Option Bool:=V (a.Bi==b)
theorem qoL{a:qY}{i}(b:Ro w a cs1){g}(c:Ro w (V i) [.pointer g]){r:Bool}(F:qkm n a i=V r):RetV prog 331 [oV qY cs1,.pointer g] w r:=by
 obtain⟨_,_,_,_,rfl,_,_⟩:=qah b;obtain⟨_,k,_,rfl,-,f,d⟩:=PtR.get c Z;obtain rfl:=f;exact zV 8 func331 Z fun h=>zSR (qx h Z Z fun _ _ h=>X1 6 0 h Z (zc 0 (d.below h.below) Z (X0 3 Z (rb h F Z))))
def qab(s:(List qY))(a:Int):Nat->Int->Option (Flow Int Int)|0,_=>U|n+1,i1=>bif decide (i1<(s.length:Int)) then(idx s i1).bind fun c=>(qkm n c a).bind fun b=>bif b then V (.ret i1) else qab s a n (W64 (i1+1)) else V (.nxt i1)
def qbC(n:Nat)(s:(List qY))(a:Int):Option Int:=(qab s a n 0).bind fun|.ret r=>V r|.nxt _=>V (-1)
theorem qfH{s:(List qY)}{a}(d:Ro w s cs1){u}(c:Ro w (V a) [.pointer u]){r:Int}(F:qbC n s a=V r):RetV prog 330 [oV (List qY) cs1,.func (.func 331) #[] #[.pointer u]] w r:=by
 obtain⟨y,v,rfl,z⟩:=d;obtain⟨b1,p,_,rfl,-,l,_⟩:=PtR.get c Z;obtain rfl:=l;refine zV 19 func330 Z fun h=>X0 11 Z ?_;obtain⟨x,F,b⟩:=qc F;refine qm (rL (fun m e w'=>∃i1,qab s a m i1=V x/\e=[(0,oS y s.length v),(1,.func (.func 331) #[] #[.pointer (V ⟨b1,p,U⟩)]),(7,vi (s.length:Int)),(8,vi i1)]/\SH w w' []) n ⟨_,F,rfl,h⟩ Z ?_);rintro t _ _ ⟨i1,F,rfl,h⟩;rcases t with _|t
 ·cases F
 refine X0 5 Z (qg Z F ?_ ?_)<;>intro F
 ·refine X0 13 Z ?_;obtain⟨B,_,F,g,_,_,_,_,i,k,o,f⟩:=z.ix F;obtain⟨_,_,_,_,rfl,s2,A⟩:=qah o;refine zxe i k g Z (zc 0 (f.below h.below) Z (zcB h F (qoL (qfS B (h.oldS s2) (h.oldS A)) (h.old c)) Z fun _ _ h F=>qaj (qg Z F ?_ ?_)))<;>intro F
  ·refine X0 5 Z ?_;obtain rfl:=qb F;replace F:=b;exact ri h F Z
  exact X0 6 Z (rK ⟨_,F,rfl,h⟩ Z)
 refine qu Z ?_;obtain rfl:=qb F;replace F:=b;exact X0 4 Z (ri h F Z)
def qbn(n:Nat)(s:(List qY))(a:Int):Option Bool:=(qbC n s a).bind fun b=>V (decide (b>=0))
theorem qe2{s:(List qY)}{a}(c:Ro w s cs1){f}(b:Ro w (V a) [.pointer f]){r:Bool}(F:qbn n s a=V r):RetV prog 315 [oV (List qY) cs1,.func (.func 331) #[] #[.pointer f]] w r:=by
 obtain⟨_,_,rfl,i⟩:=c;obtain⟨_,g,_,rfl,-,d,_⟩:=PtR.get b Z;obtain rfl:=d;exact zV 9 func315 Z fun h=>X0 8 Z (zcI h F (qfH ⟨_,_,rfl,(h.oldS i)⟩ (h.old b)) Z fun _ _ h F=>X0 3 Z (rb h F Z))
def qdx(n:Nat)(c:qC)(kind:Int):Option Bool:=(qbn n c.Bc kind).bind fun a=>V a
theorem qeq{c:qC}{kind}(a:Ro w c cs1){r:Bool}(F:qdx n c kind=V r):RetV prog 318 [oV qC cs1,vi kind] w r:=by
 obtain⟨_,_,_,_,_,_,rfl,_,s2,_⟩:=qag a;exact zV 9 func318 Z fun h=>zSR (qx h Z Z fun _ _ h=>qx h Z Z fun _ _ h=>X1 7 1 h Z (zcB h F (qe2 ⟨_,_,rfl,(h.oldS s2)⟩ (qfV (x:=kind) 0 h Z Z)) Z fun _ _ h F=>X0 2 Z (rb h F Z)))
def qbc(a:qC):Nat->Int->Int->Option (Int×Int)|0,_,_=>U|n+1,i1,b=>bif decide (b<(a.Bh.length:Int)) then(idx a.Bh b).bind fun c=>bif c.Bs then qbc a n (W64 (i1+1)) (W64 (b+1)) else qbc a n i1 (W64 (b+1)) else V (i1,b)
def qf4(n:Nat)(a:qC):Option Bool:=(qbc a n 0 0).bind fun(i1,_)=>bif (a.Bi==1) then bif (i1==0) then(qes n a).bind fun b=>(shlS 1 b).bind fun k=>bif ((a.Bt.length:Int)==k) then(qbX n a.Bt 0 1).bind fun c=>V c else V false else V false else bif (a.Bi==2) then bif (i1==1) then bif ((a.Bt.length:Int)==0) then(qdx n a 1).bind fun d=>bif (!d) then(qdx n a 2).bind fun r4=>(qdx n a 3).bind fun f=>V (!(r4==f)) else V false else V false else V false else bif (a.Bi==3) then bif (i1==1) then bif ((a.Bt.length:Int)==0) then(qdx n a 1).bind fun g=>bif g then(qdx n a 2).bind fun h=>bif h then(qdx n a 3).bind fun i=>V (!i) else V false else V false else V false else V false else V false
theorem qnr{b:qC}(a:Ro w b cs1){r:Bool}(F:qf4 n b=V r):RetV prog 302 [oV qC cs1] w r:=by
 obtain⟨B,z,I,D,J,k3,rfl,O,_,P⟩:=qag a;refine zV 83 func302 Z fun h=>zSR (qx h Z Z fun _ d h=>X1 14 0 h Z ?_);obtain⟨H,F,f⟩:=qc F;refine qm (rL (fun m e w'=>∃i1 y,qbc b m i1 y=V H/\e=[(1,vp d),(3,vi i1),(7,oS B b.Bh.length z),(8,vi (b.Bh.length:Int)),(9,vi y)]/\SH w w' [oX d (qed b B I J z D k3) 251]) n ⟨_,_,F,rfl,h⟩ Z ?_);rintro A _ _ ⟨i1,y,F,rfl,h⟩;rcases A with _|A
 ·cases F
 refine X0 5 Z (qg Z F ?_ ?_)<;>intro F
 ·refine zKSBSR ?_;obtain⟨_,_,F,i,_,_,_,_,k,l,o,g⟩:=O.ix F;obtain rfl:=qbx o;refine zxe k l i Z (zc 0 (g.below h.below) Z (qp qa h Z Z Z fun _ _ h=>zs 0 h Z fun _ h=>X1 6 0 h Z (qg Z F ?_ ?_)))<;>intro F
  ·refine X0 10 Z ?_;replace h:=h.p [1] Z;exact rK ⟨_,_,F,rfl,h⟩ Z
  refine X0 6 Z ?_;replace h:=h.p [1] Z;exact rK ⟨_,_,F,rfl,h⟩ Z
 refine qu Z ?_;obtain rfl:=qb F;replace F:=f;refine X1 12 0 h Z (qg Z F ?_ ?_)<;>intro F
 ·refine qW (rD (zd3 Z (qaR (t:=24) F Z ?_ ?_)))<;>intro F
  ·refine Y1 4 0 h Z ?_;refine Y1 4 0 h Z ?_;refine Y0 1 Z ?_;obtain⟨K,p,F⟩:=qc F;refine qaK K (vsI _) (cB 317 Z) (fun _ Q=>qhM ((h.ext Q).old a) p) Z Z Z Z (Y0 1 Z ?_);obtain⟨_,c,F⟩:=qc F;obtain⟨C,c⟩:=qs4 c;refine d_v (fun _ Q=>qz8 C Z Z) Z ?_;rw[c];refine Y0 4 Z (qaR (t:=33) F Z ?_ ?_)<;>intro F
   ·refine Y1 4 0 h Z ?_;refine Y0 1 Z ?_;obtain⟨L,s,F⟩:=qc F;exact qaK L (vsB _) (cB 67 Z) (fun _ Q=>qck ⟨_,_,rfl,((h.ext Q).oldS P)⟩ s) Z Z Z Z (zd2 Z (dN h fun _ h=>rb h F Z))
   exact Y0 5 Z (dN h fun _ h=>rb h F Z)
  exact Y0 14 Z (dN h fun _ h=>rb h F Z)
 refine X0 5 Z (qg Z F ?_ ?_)<;>intro F
 ·refine qW (rD (zd3 Z (qaR (t:=42) F Z ?_ ?_)))<;>intro F
  ·refine Y1 4 0 h Z ?_;refine Y0 6 Z (qaR (t:=48) F Z ?_ ?_)<;>intro F
   ·refine Y1 2 0 h Z ?_;refine Y0 1 Z ?_;obtain⟨M,u,F⟩:=qc F;refine qaK M (vsB _) (cB 318 Z) (fun _ Q=>qeq ((h.ext Q).old a) u) Z Z Z Z (Y0 4 Z (qaR (t:=53) F Z ?_ ?_))<;>intro F
    ·refine Y1 2 0 h Z ?_;refine Y0 1 Z ?_;obtain⟨r4,v,F⟩:=qc F;refine qaK r4 (vsB _) (cB 318 Z) (fun _ Q=>qeq ((h.ext Q).old a) v) Z Z Z Z (Y1 2 0 h Z ?_);refine Y0 1 Z ?_;obtain⟨N,x,F⟩:=qc F;exact qaK N (vsB _) (cB 318 Z) (fun _ Q=>qeq ((h.ext Q).old a) x) Z Z Z Z (Y0 4 Z (dN h fun _ h=>rb h F Z))
    exact Y0 7 Z (dN h fun _ h=>rb h F Z)
   exact Y0 12 Z (dN h fun _ h=>rb h F Z)
  exact Y0 18 Z (dN h fun _ h=>rb h F Z)
 refine X0 5 Z (qg Z F ?_ ?_)<;>intro F
 ·refine X0 5 Z (qk (t:=64) F Z ?_ ?_)<;>intro F
  ·refine X1 10 0 h Z (qk (t:=70) F Z ?_ ?_)<;>intro F
   ·refine X1 3 0 h Z (zcB h F (qeq (h.old a)) Z fun _ _ h F=>zp2 Z (qk (t:=74) F Z ?_ ?_))<;>intro F
    ·refine X1 3 0 h Z (zcB h F (qeq (h.old a)) Z fun _ _ h F=>zp2 Z (qk (t:=78) F Z ?_ ?_))<;>intro F
     ·exact X1 3 0 h Z (zcB h F (qeq (h.old a)) Z fun _ _ h F=>X0 5 Z (rb h F Z))
     exact X0 6 Z (rb h F Z)
    exact X0 10 Z (rb h F Z)
   exact X0 14 Z (rb h F Z)
  exact X0 20 Z (rb h F Z)
 exact X0 6 Z (rb h F Z)
def qlL(n:Nat)(c:qC):Option Bool:=(qis n c.Bd).bind fun a=>bif a then(qkC n c.Bh).bind fun b=>bif b then(qgS n c).bind fun d=>bif d then(qaV n c.Cc 0 100000).bind fun r4=>bif r4 then(qaV n c.Bw 0 100000).bind fun f=>bif f then(qf4 n c).bind fun g=>V g else V false else V false else V false else V false else V false
theorem qrL{c:qC}(a:Ro w c cs1){r:Bool}(F:qlL n c=V r):RetV prog 279 [oV qC cs1] w r:=by
 obtain⟨_,_,_,_,_,_,rfl,b,_,_⟩:=qag a;refine zV 29 func279 Z fun h=>zSR (qx h Z Z fun _ _ h=>X1 6 0 h Z (zcB h F qlj Z fun _ _ h F=>zp1 Z (qk (t:=6) F Z ?_ ?_)))<;>intro F
 ·refine X1 5 0 h Z (zcB h F (qqD ⟨_,_,rfl,(h.oldS b)⟩) Z fun _ _ h F=>zp2 Z (qk (t:=11) F Z ?_ ?_))<;>intro F
  ·refine X1 3 0 h Z (zcB h F (qnS (h.old a)) Z fun _ _ h F=>zp2 Z (qk (t:=15) F Z ?_ ?_))<;>intro F
   ·refine X1 5 0 h Z (zcB h F qaF Z fun _ _ h F=>zp2 Z (qk (t:=20) F Z ?_ ?_))<;>intro F
    ·refine X1 5 0 h Z (zcB h F qaF Z fun _ _ h F=>zp2 Z (qk (t:=25) F Z ?_ ?_))<;>intro F
     ·exact X1 3 0 h Z (zcB h F (qnr (h.old a)) Z fun _ _ h F=>X0 3 Z (rb h F Z))
     exact X0 5 Z (rb h F Z)
    exact X0 10 Z (rb h F Z)
   exact X0 15 Z (rb h F Z)
  exact X0 19 Z (rb h F Z)
 exact X0 24 Z (rb h F Z)
def qcN(l:qn):Nat->(List ByteArray)->Int->Option (Flow Bool ((List ByteArray)×Int))|0,_,_=>U|n+1,x1,i1=>bif decide (i1<(l.Ay.length:Int)) then(idx l.Ay i1).bind fun a=>(qlL n a).bind fun b=>bif (!b) then V (.ret false) else(appS x1 ([a.Bd]:List ByteArray)).bind fun c=>qcN l n c (W64 (i1+1)) else V (.nxt (x1,i1))
def qiE(n:Nat)(l:qn):Option Bool:=(qcN l n ([]:List ByteArray) 0).bind fun|.ret r=>V r|.nxt (x1,_)=>bif decide ((l.Ay.length:Int)<=8) then(qej n x1).bind fun a=>V a else V false
theorem qpy{l:qn}(f:Ro w l cs1){r:Bool}(F:qiE n l=V r):RetV prog 250 [oV qn cs1] w r:=by
 obtain⟨y,v,rfl,C⟩:=qbF f;refine zV 30 func250 Z fun h=>zSR (qx h Z Z fun _ c h=>X1 14 0 h Z ?_);replace h:=h.nil (α:=ByteArray);obtain⟨B,F,d⟩:=qc F;refine qm (rL (fun m e w'=>∃S1 u b s x1 i1,qcN l m x1 i1=V B/\e=[(1,vp c),(3,oS u b s),(7,oS y l.Ay.length v),(8,vi (l.Ay.length:Int)),(9,vi i1)]/\SH w w' [oW S1 (x1:List ByteArray) [oS u b s],oX c [oS y l.Ay.length v] 46]) n ⟨_,_,_,_,_,_,F,rfl,h⟩ Z ?_);rintro x _ _ ⟨S1,u,b,s,x1,i1,F,rfl,h⟩;obtain rfl:=(h.sl 0 Z).2;rcases x with _|x
 ·cases F
 refine X0 5 Z (qg Z F ?_ ?_)<;>intro F
 ·refine zKSBSR ?_;obtain⟨z,_,F,i,_,_,_,_,k,o,p,g⟩:=C.ix F;obtain⟨_,_,_,_,_,_,rfl,s2,D,H⟩:=qag p;refine zxe k o i Z (zc 0 (g.below h.below) Z (qp qa h Z Z Z fun _ _ h=>zs 0 h Z fun _ h=>X1 5 0 h Z (zcB h F (qrL (qkS z (h.oldS s2) (h.oldS D) (h.oldS H))) Z fun _ _ h F=>X0 2 Z (qg Z F ?_ ?_))))<;>intro F
  ·refine X0 4 Z ?_;obtain rfl:=qb F;replace F:=d;exact rb h F Z
  refine X1 5 0 h Z (qE qa [.tmp 18] _ ([z.Bd]:List ByteArray) h Z Z Z Z Z Z Z Z Z ⟨rfl,G⟩ Z fun _ _ _ h=>?_);obtain⟨_,a,F⟩:=qc F;obtain⟨A,a⟩:=qM a;refine qbM qa 2 h Z (h.sl 0 Z).1 (h.sl 0 Z).2 Z Z Z Z Z Z Z Z Z A a Z fun _ _ _ _ h=>X0 7 Z ?_;replace h:=h.p [2,3] Z;exact rK ⟨_,_,_,_,_,_,F,rfl,h⟩ Z
 refine qu Z ?_;obtain rfl:=qb F;replace F:=d;refine X1 7 1 h Z (qk (t:=26) F Z ?_ ?_)<;>intro F
 ·exact X0 3 Z (zcB h F (qfY (h.own 0 Z)) Z fun _ _ h F=>X0 3 Z (rb h F Z))
 exact X0 5 Z (rb h F Z)
def qbr(d:qd):Nat->(List ByteArray)->Int->Option ((List ByteArray)×Int)|0,_,_=>U|n+1,x3,a=>bif decide (a<(d.Ak.length:Int)) then(idx d.Ak a).bind fun c=>(appS x3 ([c.Bd]:List ByteArray)).bind fun b=>qbr d n b (W64 (a+1)) else V (x3,a)
def qbp(d:qd):Nat->(List ByteArray)->Int->Option ((List ByteArray)×Int)|0,_,_=>U|n+1,x1,i1=>bif decide (i1<(d.Ab.length:Int)) then(idx d.Ab i1).bind fun b=>(appS x1 ([b.Bd]:List ByteArray)).bind fun a=>qbp d n a (W64 (i1+1)) else V (x1,i1)
def qe4(n:Nat)(d:qd):Option Bool:=(qbp d n ([]:List ByteArray) 0).bind fun(x1,_)=>(qbr d n ([]:List ByteArray) 0).bind fun(x3,_)=>bif decide ((x1.length:Int)<=14) then bif decide ((d.As.length:Int)<=30) then bif decide ((x3.length:Int)<=8) then(qej n x1).bind fun a=>bif a then(qej n d.As).bind fun b=>bif b then(qej n x3).bind fun c=>V c else V false else V false else V false else V false else V false
theorem qmd{d:qd}(p:Ro w d cs1){r:Bool}(F:qe4 n d=V r):RetV prog 251 [oV qd cs1] w r:=by
 obtain⟨K,I,R,O,L,k3,rfl,Y,s2,s3⟩:=qaz p;refine zV 62 func251 Z fun h=>zSR (qx h Z Z fun _ a h=>X1 15 0 h Z ?_);replace h:=h.nil (α:=ByteArray);obtain⟨W,F,l⟩:=qc F;refine qm (rL (fun m e w'=>∃S1 k f i x1 i1,qbp d m x1 i1=V W/\e=[(1,vp a),(3,oS k f i),(4,oS U 0 0),(10,oS K d.Ab.length I),(11,vi (d.Ab.length:Int)),(12,vi i1)]/\SH w w' [oW S1 (x1:List ByteArray) [oS k f i],oX a (qaQ d K R L I O k3) 50]) n ⟨_,_,_,_,_,_,F,rfl,h⟩ Z ?_);rintro P _ _ ⟨S1,k,f,i,x1,i1,F,rfl,h⟩;obtain rfl:=(h.sl 0 Z).2;rcases P with _|P
 ·cases F
 refine X0 5 Z (qg Z F ?_ ?_)<;>intro F
 ·refine zKSBSR ?_;obtain⟨y1,_,F,v,_,_,_,_,y,A,C,s⟩:=Y.ix F;obtain⟨_,_,rfl,_⟩:=qV C;refine zxe y A v Z (zc 0 (s.below h.below) Z (qp qa h Z Z Z fun _ _ h=>zs 0 h Z fun _ h=>X1 5 0 h Z (qE qa [.tmp 18] _ ([y1.Bd]:List ByteArray) h Z Z Z Z Z Z Z Z Z ⟨rfl,G⟩ Z fun _ _ _ h=>?_)));obtain⟨_,b,F⟩:=qc F;obtain⟨S,b⟩:=qM b;refine qbM qa 2 h Z (h.sl 0 Z).1 (h.sl 0 Z).2 Z Z Z Z Z Z Z Z Z S b Z fun _ _ _ _ h=>X0 7 Z ?_;replace h:=h.p [2,3] Z;exact rK ⟨_,_,_,_,_,_,F,rfl,h⟩ Z
 refine qu Z ?_;obtain rfl:=qb F;replace F:=l;refine X1 8 1 h Z ?_;replace h:=h.nil (α:=ByteArray);obtain⟨X,F,o⟩:=qc F;refine qm (rL (fun m e w'=>∃N M g J x3 H,qbr d m x3 H=V X/\e=[(1,vp a),(3,oS k x1.length i),(4,oS M g J),(23,oS L d.Ak.length k3),(24,vi (d.Ak.length:Int)),(25,vi H)]/\SH w w' [oW N (x3:List ByteArray) [oS M g J],oW S1 (x1:List ByteArray) [oS k x1.length i],oX a (qaQ d K R L I O k3) 50]) n ⟨_,_,_,_,_,_,F,rfl,h⟩ Z ?_);rintro Q _ _ ⟨N,M,g,J,x3,H,F,rfl,h⟩;obtain rfl:=(h.sl 0 Z).2;rcases Q with _|Q
 ·cases F
 refine X0 5 Z (qg Z F ?_ ?_)<;>intro F
 ·refine zKSBSR ?_;obtain⟨y2,_,F,x,_,_,_,_,z,B,D,u⟩:=s3.ix F;obtain rfl:=qbl D;refine zxe z B x Z (zc 0 (u.below h.below) Z (qp qa h Z Z Z fun _ _ h=>zs 0 h Z fun _ h=>X1 5 0 h Z (qE qa [.tmp 31] _ ([y2.Bd]:List ByteArray) h Z Z Z Z Z Z Z Z Z ⟨rfl,G⟩ Z fun _ _ _ h=>?_)));obtain⟨_,c,F⟩:=qc F;obtain⟨T,c⟩:=qM c;refine qbM qa 2 h Z (h.sl 0 Z).1 (h.sl 0 Z).2 Z Z Z Z Z Z Z Z Z T c Z fun _ _ _ _ h=>X0 7 Z ?_;replace h:=h.p [2,3,4] Z;exact rK ⟨_,_,_,_,_,_,F,rfl,h⟩ Z
 refine qu Z ?_;obtain rfl:=qb F;replace F:=o;refine X0 6 Z (qk (t:=38) F Z ?_ ?_)<;>intro F
 ·refine X1 10 2 h Z (qk (t:=44) F Z ?_ ?_)<;>intro F
  ·refine X0 8 Z (qk (t:=49) F Z ?_ ?_)<;>intro F
   ·refine X0 3 Z (zcB h F (qfY (h.own 1 Z)) Z fun _ _ h F=>zp2 Z (qk (t:=53) F Z ?_ ?_))<;>intro F
    ·refine X1 5 2 h Z (zcB h F (qfY ⟨_,_,rfl,(h.oldS s2)⟩) Z fun _ _ h F=>zp2 Z (qk (t:=58) F Z ?_ ?_))<;>intro F
     ·exact X0 3 Z (zcB h F (qfY (h.own 0 Z)) Z fun _ _ h F=>X0 3 Z (rb h F Z))
     exact X0 5 Z (rb h F Z)
    exact X0 10 Z (rb h F Z)
   exact X0 14 Z (rb h F Z)
  exact X0 19 Z (rb h F Z)
 exact X0 25 Z (rb h F Z)
def qgL(_:Nat)(list:(List qC)):Option Int:=V (list.length:Int)
theorem qma{list:(List qC)}(a:Ro w list cs1){r:Int}(F:qgL n list=V r):RetV prog 281 [oV (List qC) cs1] w r:=by
 obtain⟨_,_,rfl,_⟩:=a;exact zV 5 func281 Z fun h=>X0 10 Z (ri h F Z)
def qin(_:Nat)(list:(List ByteArray)):Option Int:=V (list.length:Int)
theorem qnx{list:(List ByteArray)}(a:Ro w list cs1){r:Int}(F:qin n list=V r):RetV prog 283 [oV (List ByteArray) cs1] w r:=by
 obtain⟨_,_,rfl,_⟩:=a;exact zV 5 func283 Z fun h=>X0 10 Z (ri h F Z)
def qdS(n:Nat)(d:qd)(net:Int):Option Bool:=(qin n d.As).bind fun a=>(qaV n net 0 (W64 (a-1))).bind fun b=>V b
theorem qhb{d:qd}{net}(a:Ro w d cs1){r:Bool}(F:qdS n d net=V r):RetV prog 253 [oV qd cs1,vi net] w r:=by
 obtain⟨_,_,_,_,_,_,rfl,_,s2,_⟩:=qaz a;exact zV 11 func253 Z fun h=>zSR (qx h Z Z fun _ _ h=>X1 7 0 h Z (zcI h F (qnx ⟨_,_,rfl,(h.oldS s2)⟩) Z fun _ _ h F=>zp1 Z (zcB h F qaF Z fun _ _ h F=>X0 2 Z (rb h F Z))))
def qdA(n:Nat)(net:Int)(b:qd):Option Bool:=(qdS n b net).bind fun a=>V (!a)
theorem qkL{net}{d:qd}{f}(a:Ro w (V d) [.pointer f]){r:Bool}(F:qdA n net d=V r):RetV prog 282 [vi net,.pointer f] w r:=by
 obtain⟨_,g,_,rfl,-,c,b⟩:=PtR.get a Z;obtain⟨_,_,_,_,_,_,rfl,i,s2,k⟩:=qaz c;exact zV 8 func282 Z fun h=>X0 6 Z (zc 0 (b.below h.below) Z (zp1 Z (zcB h F (qhb (qav d (h.oldS i) (h.oldS s2) (h.oldS k))) Z fun _ _ h F=>X0 3 Z (rb h F Z))))
def qL(s:(List Int))(a:qd):Nat->Int->Option (Flow Int Int)|0,_=>U|n+1,i1=>bif decide (i1<(s.length:Int)) then(idx s i1).bind fun c=>(qdA n c a).bind fun b=>bif b then V (.ret i1) else qL s a n (W64 (i1+1)) else V (.nxt i1)
def qa6(n:Nat)(s:(List Int))(a:qd):Option Int:=(qL s a n 0).bind fun|.ret r=>V r|.nxt _=>V (-1)
theorem qeH{s:(List Int)}{a:qd}(d:Ro w s cs1){t}(c:Ro w (V a) [.pointer t]){r:Int}(F:qa6 n s a=V r):RetV prog 164 [oV (List Int) cs1,.func (.func 282) #[] #[.pointer t]] w r:=by
 obtain⟨x,u,rfl,y⟩:=d;obtain⟨b1,o,_,rfl,-,l,_⟩:=PtR.get c Z;obtain⟨_,_,_,_,_,_,rfl,_,_,_⟩:=qaz l;refine zV 19 func164 Z fun h=>X0 11 Z ?_;obtain⟨v,F,b⟩:=qc F;refine qm (rL (fun m e w'=>∃i1,qL s a m i1=V v/\e=[(0,oS x s.length u),(1,.func (.func 282) #[] #[.pointer (V ⟨b1,o,U⟩)]),(7,vi (s.length:Int)),(8,vi i1)]/\SH w w' []) n ⟨_,F,rfl,h⟩ Z ?_);rintro p _ _ ⟨i1,F,rfl,h⟩;rcases p with _|p
 ·cases F
 refine X0 5 Z (qg Z F ?_ ?_)<;>intro F
 ·refine X0 13 Z ?_;obtain⟨_,_,F,g,_,_,_,_,i,k,rfl,f⟩:=y.ix F;refine zxe i k g Z (zc 0 (f.below h.below) Z (zcB h F (qkL (h.old c)) Z fun _ _ h F=>qaj (qg Z F ?_ ?_)))<;>intro F
  ·refine X0 5 Z ?_;obtain rfl:=qb F;replace F:=b;exact ri h F Z
  exact X0 6 Z (rK ⟨_,F,rfl,h⟩ Z)
 refine qu Z ?_;obtain rfl:=qb F;replace F:=b;exact X0 4 Z (ri h F Z)
def qaS(n:Nat)(s:(List Int))(a:qd):Option Bool:=(qa6 n s a).bind fun b=>V (decide (b>=0))
theorem qd8{s:(List Int)}{a:qd}(c:Ro w s cs1){f}(b:Ro w (V a) [.pointer f]){r:Bool}(F:qaS n s a=V r):RetV prog 110 [oV (List Int) cs1,.func (.func 282) #[] #[.pointer f]] w r:=by
 obtain⟨_,_,rfl,i⟩:=c;obtain⟨_,g,_,rfl,-,d,_⟩:=PtR.get b Z;obtain⟨_,_,_,_,_,_,rfl,_,_,_⟩:=qaz d;exact zV 9 func110 Z fun h=>X0 8 Z (zcI h F (qeH ⟨_,_,rfl,(h.oldS i)⟩ (h.old b)) Z fun _ _ h F=>X0 3 Z (rb h F Z))
def qec(n:Nat)(d:qd)(l:qn)(x:qt):Option Bool:=(qgL n l.Ay).bind fun a=>(qaV n x.Bu 0 (W64 (a-1))).bind fun b=>bif b then(idx l.Ay x.Bu).bind fun f=>bif ((x.As.length:Int)==(f.Bh.length:Int)) then(qaS n x.As d).bind fun c=>V (!c) else V false else V false
theorem qlw{d:qd}{l:qn}{x:qt}(a:Ro w d cs1)(b:Ro w l cs2)(c:Ro w x cs3){r:Bool}(F:qec n d l x=V r):RetV prog 252 [oV qd cs1,oV qn cs2,oV qt cs3] w r:=by
 obtain⟨_,_,_,_,_,_,rfl,_,_,_⟩:=qaz a;obtain⟨_,_,rfl,u⟩:=qbF b;obtain⟨_,_,rfl,A⟩:=qV c;refine zV 35 func252 Z fun h=>zSR (qx h Z Z fun _ _ h=>qx h Z Z fun _ _ h=>qx h Z Z fun _ _ h=>X0 3 Z (rD (Y1 2 0 h Z ?_)));refine Y1 2 1 h Z ?_;obtain⟨v,m,F⟩:=qc F;refine qaK v (vsI _) (cB 281 Z) (fun _ B=>qma ⟨_,_,rfl,((h.ext B).oldS u)⟩ m) Z Z Z Z (zd1 Z ?_);obtain⟨y,o,F⟩:=qc F;refine qaK y (vsB _) (cB 46 Z) (fun _ B=>qaF  o) Z Z Z Z (zd1 Z (qaR (t:=14) F Z ?_ ?_))<;>intro F
 ·refine Y1 4 0 h Z ?_;refine Y1 6 1 h Z ?_;refine Y1 4 0 h Z ?_;refine Y0 1 Z ?_;obtain⟨_,_,F,g,_,_,_,_,i,k,p,f⟩:=u.ix F;obtain⟨_,_,_,_,_,_,rfl,_,_,_⟩:=qag p;refine zdxe i k g Z (Y0 3 Z (zdc 2 (f.below h.below) Z (Y0 6 Z (qaR (t:=28) F Z ?_ ?_))))<;>intro F
  ·refine Y1 4 0 h Z ?_;refine Y0 3 Z ?_;obtain⟨z,s,F⟩:=qc F;exact qaK z (vsB _) (cB 110 Z) (fun _ B=>qd8 ⟨_,_,rfl,((h.ext B).oldS A)⟩ (qfV (x:=d) 2 (h.ext B) Z ((h.ext B).old a)) s) Z Z Z Z (Y0 4 Z (dN h fun _ h=>rb h F Z))
  exact Y0 7 Z (dN h fun _ h=>rb h F Z)
 exact Y0 21 Z (dN h fun _ h=>rb h F Z)
def qkl(_:Nat)(a:Int):Option Bool:=V (a != 1)
theorem qoN{a_n}  {r:Bool}(F:qkl n a_n=V r):RetV prog 255 [vi a_n] w r:=by
 exact zV 5 func255 Z fun h=>X0 10 Z (rb h F Z)
def qak(s:(List Int)):Nat->Int->Option (Flow Int Int)|0,_=>U|n+1,i1=>bif decide (i1<(s.length:Int)) then(idx s i1).bind fun b=>(qkl n b).bind fun a=>bif a then V (.ret i1) else qak s n (W64 (i1+1)) else V (.nxt i1)
def qcd(n:Nat)(s:(List Int)):Option Int:=(qak s n 0).bind fun|.ret r=>V r|.nxt _=>V (-1)
theorem qgX{s:(List Int)}(b:Ro w s cs1){r:Int}(F:qcd n s=V r):RetV prog 284 [oV (List Int) cs1,.func (.func 255) #[] #[]] w r:=by
 obtain⟨o,k,rfl,p⟩:=b;refine zV 19 func284 Z fun h=>X0 11 Z ?_;obtain⟨l,F,a⟩:=qc F;refine qm (rL (fun m e w'=>∃i1,qak s m i1=V l/\e=[(0,oS o s.length k),(1,.func (.func 255) #[] #[]),(7,vi (s.length:Int)),(8,vi i1)]/\SH w w' []) n ⟨_,F,rfl,h⟩ Z ?_);rintro i _ _ ⟨i1,F,rfl,h⟩;rcases i with _|i
 ·cases F
 refine X0 5 Z (qg Z F ?_ ?_)<;>intro F
 ·refine X0 13 Z ?_;obtain⟨_,_,F,d,_,_,_,_,f,g,rfl,c⟩:=p.ix F;refine zxe f g d Z (zc 0 (c.below h.below) Z (zcB h F qoN Z fun _ _ h F=>qaj (qg Z F ?_ ?_)))<;>intro F
  ·refine X0 5 Z ?_;obtain rfl:=qb F;replace F:=a;exact ri h F Z
  exact X0 6 Z (rK ⟨_,F,rfl,h⟩ Z)
 refine qu Z ?_;obtain rfl:=qb F;replace F:=a;exact X0 4 Z (ri h F Z)
def qbT(n:Nat)(s:(List Int)):Option Bool:=(qcd n s).bind fun a=>V (decide (a>=0))
theorem qgb{s:(List Int)}(a:Ro w s cs1){r:Bool}(F:qbT n s=V r):RetV prog 254 [oV (List Int) cs1,.func (.func 255) #[] #[]] w r:=by
 obtain⟨_,_,rfl,b⟩:=a;exact zV 9 func254 Z fun h=>X0 8 Z (zcI h F (qgX ⟨_,_,rfl,(h.oldS b)⟩) Z fun _ _ h F=>X0 3 Z (rb h F Z))
def qcB(a:qd):Nat->(List Int)->Int->Option (Flow Bool ((List Int)×Int))|0,_,_=>U|n+1,x3,c=>bif decide (c<(a.Ak.length:Int)) then(idx a.Ak c).bind fun b=>(bif (b.Bx != 1) then bif (b.Bx != 2) then V true else(qdS n a b.Ca).bind fun f=>V (!f) else(qdS n a b.Ca).bind fun g=>V (!g)).bind fun d=>bif d then V (.ret false) else bif (b.Bx==1) then(idx x3 b.Ca).bind fun h=>(idx x3 b.Ca).bind fun _=>qcB a n (setS x3 b.Ca (W64 (h+1))) (W64 (c+1)) else qcB a n x3 (W64 (c+1)) else V (.nxt (x3,c))
def qdt(b:qn)(a:qd):Nat->(List Int)->Int->Option (Flow Bool ((List Int)×Int))|0,_,_=>U|n+1,c,i1=>bif decide (i1<(a.Ab.length:Int)) then(idx a.Ab i1).bind fun d=>(qec n a b d).bind fun g=>bif (!g) then V (.ret false) else(idx d.As (W64 ((d.As.length:Int)-1))).bind fun f=>(idx c f).bind fun h=>(idx c f).bind fun _=>qdt b a n (setS c f (W64 (h+1))) (W64 (i1+1)) else V (.nxt (c,i1))
def qjC(n:Nat)(b:qn)(a:qd):Option Bool:=((qiE n b).bind fun c=>bif (!c) then V true else(qe4 n a).bind fun d=>V (!d)).bind fun b1=>bif b1 then V false else(mkS (a.As.length:Int) (0:Int)).bind fun x1=>(qdt b a n x1 0).bind fun|.ret r=>V r|.nxt (f,_)=>(qcB a n f 0).bind fun|.ret r=>V r|.nxt (x3,_)=>(qbT n x3).bind fun r4=>V (!r4)
theorem qp1{c:qn}{a:qd}(i:Ro w c cs1)(d:Ro w a cs2){r:Bool}(F:qjC n c a=V r):RetV prog 202 [oV qn cs1,oV qd cs2] w r:=by
 obtain⟨p1,k1,rfl,_⟩:=qbF i;obtain⟨O,N,Q,k3,o,l,rfl,s2,_,s4⟩:=qaz d;refine zV 84 func202 Z fun h=>zSR (qx h Z Z fun _ f h=>qx h Z Z fun _ b h=>X0 4 Z ?_);obtain⟨S,z,_,F,x⟩:=bindE F;refine qa1 (fun e w'=>∃b1,S b1=V r/\e=[(2,vp f),(3,vp b),(17,.bool b1)]/\SH w w' [oX b (qaQ a O Q o N k3 l) 50,oX f [oS p1 c.Ay.length k1] 46]) ?_ ?_
 ·refine X1 2 1 h Z (zcB h F (qpy (h.old i)) Z fun _ _ h F=>zp2 Z (qk (t:=13) F Z ?_ ?_))<;>intro F
  ·refine X0 5 Z ?_;obtain rfl:=qb F;exact rG ⟨_,x,rfl,h⟩ Z
  refine X1 3 0 h Z (zcB h F (qmd (h.old d)) Z fun _ _ h F=>X0 4 Z ?_);obtain rfl:=qb F;exact rG ⟨_,x,rfl,h⟩ Z
 rintro _ _ ⟨b1,F,rfl,h⟩;subst z;refine qg Z F ?_ ?_<;>intro F
 ·exact X0 4 Z (rb h F Z)
 refine X1 6 0 h Z ?_;obtain⟨x1,k,F⟩:=qc F;obtain⟨g1,g2,k⟩:=qQ k;refine qai qa Int h Z Z Z Z Z Z Z Z Z g1 g2 k Z fun _ S1 p h=>X1 10 1 h Z ?_;obtain⟨o1,F,u⟩:=qc F;refine qm (rL (fun m e w'=>∃x2 i1,qdt c a m x2 i1=V o1/\e=[(2,vp f),(3,vp b),(5,oS p x1.length x1.length),(23,oS O a.Ab.length N),(24,vi (a.Ab.length:Int)),(25,vi i1)]/\SH w w' [oW S1 (x2:List Int) [oS p x1.length x1.length],oX b (qaQ a O Q o N k3 l) 50,oX f [oS p1 c.Ay.length k1] 46]) n ⟨_,_,F,rfl,h⟩ Z ?_);rintro m1 _ _ ⟨x2,i1,F,rfl,h⟩;rcases m1 with _|m1
 ·cases F
 refine X0 5 Z (qg Z F ?_ ?_)<;>intro F
 ·refine zKSBSR ?_;obtain⟨y1,_,F,a5,_,_,_,_,a8,b8,c3,W⟩:=s2.ix F;obtain⟨_,_,rfl,s5⟩:=qV c3;refine zxe a8 b8 a5 Z (zc 0 (W.below h.below) Z (qp qa h Z Z Z fun _ _ h=>zs 0 h Z fun _ h=>X3 7 2 3 0 h Z (zcB h F (qlw (h.old d) (h.old i) (qgB y1 (h.oldS s5))) Z fun _ _ h F=>X0 2 Z (qg Z F ?_ ?_))))<;>intro F
  ·refine X0 4 Z ?_;obtain rfl:=qb F;replace F:=u;exact rb h F Z
  refine X2 9 0 0 h Z ?_;obtain⟨_,_,F,a6,_,_,_,_,a9,b9,rfl,X⟩:=s5.ix F;refine zxe a9 b9 a6 Z (zc 0 (X.below h.below) Z ?_);obtain⟨y3,_,F,C,_,_,_,_,b4,c0,rfl,Y⟩:=(h.sl 1 Z).1.ix F;refine zx b4 c0 ⟨C.1,qD C.2.1 (h.sl 1 Z).2⟩ Z (zc 0 Y Z (zp1 Z ?_));obtain⟨_,c5,F,D,_,_,_,_,J,L,rfl,a3⟩:=(h.sl 1 Z).1.ix F;refine zx J L ⟨D.1,qD D.2.1 (h.sl 1 Z).2⟩ Z (qbg qa 1 0 (W64 (y3+1)) h Z c5 J L Z a3 Z Z Z Z Z Z Z fun _ h=>X0 6 Z ?_);replace h:=h.p [1,2,3] Z;exact rK ⟨_,_,F,rfl,h⟩ Z
 refine qu Z ?_;obtain rfl:=qb F;replace F:=u;refine X1 8 1 h Z ?_;obtain⟨o2,F,v⟩:=qc F;refine qm ?_;replace h:=h.p [0,1] Z;refine rL (fun m e w'=>∃x3 P,qcB a m x3 P=V o2/\e=[(3,vp b),(5,oS p x1.length x1.length),(49,oS o a.Ak.length l),(50,vi (a.Ak.length:Int)),(51,vi P)]/\SH w w' [oW S1 (x3:List Int) [oS p x1.length x1.length],oX b (qaQ a O Q o N k3 l) 50]) n ⟨_,_,F,rfl,h⟩ Z ?_;rintro m2 _ _ ⟨x3,P,F,rfl,h⟩;rcases m2 with _|m2
 ·cases F
 refine X0 5 Z (qg Z F ?_ ?_)<;>intro F
 ·refine zKSBSR ?_;obtain⟨y5,_,F,a7,_,_,_,_,b5,c1,c4,a4⟩:=s4.ix F;obtain rfl:=qbl c4;refine zxe b5 c1 a7 Z (zc 0 (a4.below h.below) Z (qp qa h Z Z Z fun _ s h=>zs 0 h Z fun _ h=>zNSS ?_));obtain⟨R,y,_,F,g⟩:=bindE F;refine qa1 (fun e w'=>∃T,R T=V o2/\e=[(3,vp b),(5,oS p x1.length x1.length),(9,vp s),(49,oS o a.Ak.length l),(50,vi (a.Ak.length:Int)),(51,vi P),(69,.bool T)]/\SH w w' [oX s (qre y5) 255,oW S1 (x3:List Int) [oS p x1.length x1.length],oX b (qaQ a O Q o N k3 l) 50]) ?_ ?_
  ·refine X1 5 0 h Z (qk (t:=58) F Z ?_ ?_)<;>intro F
   ·refine X1 8 0 h Z (qk (t:=63) F Z ?_ ?_)<;>intro F
    ·refine X0 7 Z ?_;obtain rfl:=qb F;exact rG ⟨_,g,rfl,h⟩ Z
    refine X2 7 2 0 h Z (zcB h F (qhb (h.old d)) Z fun _ _ h F=>X0 4 Z ?_);obtain rfl:=qb F;exact rG ⟨_,g,rfl,h⟩ Z
   refine X2 12 2 0 h Z (zcB h F (qhb (h.old d)) Z fun _ _ h F=>X0 4 Z ?_);obtain rfl:=qb F;exact rG ⟨_,g,rfl,h⟩ Z
  rintro _ _ ⟨T,F,rfl,h⟩;subst y;refine qg Z F ?_ ?_<;>intro F
  ·refine X0 4 Z ?_;obtain rfl:=qb F;replace F:=v;exact rb h F Z
  refine X1 7 0 h Z (qg Z F ?_ ?_)<;>intro F
  ·refine X1 4 0 h Z ?_;obtain⟨y6,_,F,H,_,_,_,_,b6,c2,rfl,A⟩:=(h.sl 1 Z).1.ix F;refine zx b6 c2 ⟨H.1,qD H.2.1 (h.sl 1 Z).2⟩ Z (zc 0 A Z (zp1 Z ?_));obtain⟨_,c6,F,I,_,_,_,_,K,M,rfl,B⟩:=(h.sl 1 Z).1.ix F;refine zx K M ⟨I.1,qD I.2.1 (h.sl 1 Z).2⟩ Z (qbg qa 1 0 (W64 (y6+1)) h Z c6 K M Z B Z Z Z Z Z Z Z fun _ h=>X0 6 Z ?_);replace h:=h.p [1,2] Z;exact rK ⟨_,_,F,rfl,h⟩ Z
  refine X0 6 Z ?_;replace h:=h.p [1,2] Z;exact rK ⟨_,_,F,rfl,h⟩ Z
 refine qu Z ?_;obtain rfl:=qb F;replace F:=v;exact X0 3 Z (zcB h F (qgb (h.own 0 Z)) Z fun _ _ h F=>X0 3 Z (rb h F Z))
def qbL(i1:Int)(b:qt):Nat->(List Tplace)->Int->Option ((List Tplace)×Int)|0,_,_=>U|n+1,c,a=>bif decide (a<(b.As.length:Int)) then(idx b.As a).bind fun d=>(appS c ([(⟨i1,a,d,(a==(W64 ((b.As.length:Int)-1)))⟩:Tplace)]:List Tplace)).bind fun x3=>qbL i1 b n x3 (W64 (a+1)) else V (c,a)
def qbO(d:qd):Nat->(List Tplace)->Int->Option ((List Tplace)×Int)|0,_,_=>U|n+1,b,a=>bif decide (a<(d.Ak.length:Int)) then(idx d.Ak a).bind fun c=>(appS b ([(⟨(-1),a,c.Ca,(c.Bx==1)⟩:Tplace)]:List Tplace)).bind fun f=>qbO d n f (W64 (a+1)) else V (b,a)
def qbN(d:qd):Nat->(List Tplace)->Int->Option ((List Tplace)×Int)|0,_,_=>U|n+1,x1,i1=>bif decide (i1<(d.Ab.length:Int)) then(idx d.Ab i1).bind fun b=>(qbL i1 b n x1 0).bind fun(a,_)=>qbN d n a (W64 (i1+1)) else V (x1,i1)
def qcy(n:Nat)(d:qd):Option (List Tplace):=(qbN d n ([]:List Tplace) 0).bind fun(x1,_)=>(qbO d n x1 0).bind fun(a,_)=>V a
theorem qeM{d:qd}(z:Ro w d cs1){r:(List Tplace)}(F:qcy n d=V r):RetV prog 203 [oV qd cs1] w r:=by
 obtain⟨t,s,p2,k2,X,k3,rfl,s1,_,s3⟩:=qaz z;refine zV 61 func203 Z fun h=>zSR (qx h Z Z fun _ a h=>X1 14 0 h Z ?_);replace h:=h.nil (α:=Tplace);obtain⟨o1,F,v⟩:=qc F;refine qm (rL (fun m e w'=>∃S1 Y g R x1 i1,qbN d m x1 i1=V o1/\e=[(1,vp a),(3,oS Y g R),(11,oS t d.Ab.length s),(12,vi (d.Ab.length:Int)),(13,vi i1)]/\SH w w' [oW S1 (x1:List Tplace) [oS Y g R],oX a (qaQ d t p2 X s k2 k3) 50]) n ⟨_,_,_,_,_,_,F,rfl,h⟩ Z ?_);rintro W _ _ ⟨S1,Y,g,R,x1,i1,F,rfl,h⟩;obtain rfl:=(h.sl 0 Z).2;rcases W with _|W
 ·cases F
 refine X0 5 Z (qg Z F ?_ ?_)<;>intro F
 ·refine X0 6 Z ?_;obtain⟨l,_,F,D,_,_,_,_,J,M,P,A⟩:=s1.ix F;obtain⟨p5,k5,rfl,s4⟩:=qV P;refine zxe J M D Z (zc 0 (A.below h.below) Z (qp qa h Z Z Z fun _ o h=>zp1 Z (zs 0 h Z fun _ h=>X1 8 0 h Z ?_)));obtain⟨o2,F,x⟩:=qc F;refine qm (rL (fun m e w'=>∃S2 p6 i S x2 f,qbL i1 l m x2 f=V o2/\e=[(1,vp a),(3,oS p6 i S),(4,vi i1),(5,vp o),(11,oS t d.Ab.length s),(12,vi (d.Ab.length:Int)),(13,vi i1),(19,oS p5 l.As.length k5),(20,vi (l.As.length:Int)),(21,vi f)]/\SH w w' [oX o (qkb l p5 k5) 253,oW S2 (x2:List Tplace) [oS p6 i S],oX a (qaQ d t p2 X s k2 k3) 50]) W ⟨_,_,_,_,_,_,F,rfl,h⟩ Z ?_);rintro m2 _ _ ⟨S2,p6,i,S,x2,f,F,rfl,h⟩;obtain rfl:=(h.sl 1 Z).2;rcases m2 with _|m2
  ·cases F
  refine X0 5 Z (qg Z F ?_ ?_)<;>intro F
  ·refine X0 6 Z ?_;obtain⟨y2,_,F,H,_,_,_,_,K,N,rfl,B⟩:=s4.ix F;refine zxe K N H Z (zc 0 (B.below h.below) Z (X1 14 0 h Z (r_v (qG qa [0,1,2,3] [.tmp 27,.tmp 28,.tmp 29,.tmp 35] Z Z Z Z Z Z Z Z) Z (qE qa [.tmp 36] _ ([(⟨i1,f,y2,(f==(W64 ((l.As.length:Int)-1)))⟩:Tplace)]:List Tplace) h Z Z Z Z Z Z Z Z Z ⟨(qmL (⟨i1,f,y2,(f==(W64 ((l.As.length:Int)-1)))⟩:Tplace)),G⟩ Z fun _ _ _ h=>?_))));obtain⟨_,b,F⟩:=qc F;obtain⟨g1,b⟩:=qM b;refine qbM qa 2 h Z (h.sl 0 Z).1 (h.sl 0 Z).2 Z Z Z Z Z Z Z Z Z g1 b Z fun _ _ _ _ h=>X0 7 Z ?_;replace h:=h.p [1,2,3] Z;exact rK ⟨_,_,_,_,_,_,F,rfl,h⟩ Z
  refine qu Z ?_;obtain rfl:=qb F;replace F:=x;refine X0 5 Z ?_;replace h:=h.p [1,2] Z;exact rK ⟨_,_,_,_,_,_,F,rfl,h⟩ Z
 refine qu Z ?_;obtain rfl:=qb F;replace F:=v;refine X1 8 1 h Z ?_;obtain⟨o3,F,y⟩:=qc F;refine qm ?_;replace h:=h.p [0] Z;refine rL (fun m e w'=>∃S5 p9 k T x4 p,qbO d m x4 p=V o3/\e=[(3,oS p9 k T),(42,oS X d.Ak.length k3),(43,vi (d.Ak.length:Int)),(44,vi p)]/\SH w w' [oW S5 (x4:List Tplace) [oS p9 k T]]) n ⟨_,_,_,_,_,_,F,rfl,h⟩ Z ?_;rintro m3 _ _ ⟨S5,p9,k,T,x4,p,F,rfl,h⟩;obtain rfl:=(h.sl 0 Z).2;rcases m3 with _|m3
 ·cases F
 refine X0 5 Z (qg Z F ?_ ?_)<;>intro F
 ·refine X0 6 Z ?_;obtain⟨u,_,F,I,_,_,_,_,L,O,Q,C⟩:=s3.ix F;obtain rfl:=qbl Q;refine zxe L O I Z (zc 0 (C.below h.below) Z (qp qa h Z Z Z fun _ _ h=>zp1 Z (zs 0 h Z fun _ h=>X2 9 0 0 h Z (r_v (qG qa [0,1,2,3] [.const (vi (-1)),.tmp 50,.tmp 52,.tmp 55] Z Z Z Z Z Z Z Z) Z (qE qa [.tmp 56] _ ([(⟨(-1),p,u.Ca,(u.Bx==1)⟩:Tplace)]:List Tplace) h Z Z Z Z Z Z Z Z Z ⟨(qmL (⟨(-1),p,u.Ca,(u.Bx==1)⟩:Tplace)),G⟩ Z fun _ _ _ h=>?_)))));obtain⟨_,c,F⟩:=qc F;obtain⟨g2,c⟩:=qM c;refine qbM qa 2 h Z (h.sl 0 Z).1 (h.sl 0 Z).2 Z Z Z Z Z Z Z Z Z g2 c Z fun _ _ _ _ h=>X0 7 Z ?_;replace h:=h.p [2] Z;exact rK ⟨_,_,_,_,_,_,F,rfl,h⟩ Z
 refine qu Z ?_;obtain rfl:=qb F;replace F:=y;refine X0 5 Z ?_;obtain rfl:=qb F;exact rO 0 h Z ⟨rfl,G⟩
def qbe(f:qZ):Nat->Int->Option (Flow Bool Int)|0,_=>U|n+1,i1=>bif decide (i1<(f.Ba.length:Int)) then(idx f.Ba i1).bind fun a=>bif (i1==0) then bif (a != (-1)) then V (.ret false) else(idx f.Bz 0).bind fun d=>bif (d != 0) then V (.ret false) else bif decide (i1 > 0) then(qaV n a 0 (W64 (i1-1))).bind fun b=>bif (!b) then V (.ret false) else qbe f n (W64 (i1+1)) else qbe f n (W64 (i1+1)) else bif decide (i1 > 0) then(qaV n a 0 (W64 (i1-1))).bind fun c=>bif (!c) then V (.ret false) else qbe f n (W64 (i1+1)) else qbe f n (W64 (i1+1)) else V (.nxt i1)
def qhv(n:Nat)(a:qZ):Option Bool:=(qbe a n 0).bind fun|.ret r=>V r|.nxt _=>V true
theorem qoD{H:qZ}(c:Ro w H cs1){r:Bool}(F:qhv n H=V r):RetV prog 256 [oV qZ cs1] w r:=by
 obtain⟨v,s,A,x,B,k3,C,y,rfl,D,s2,_,_⟩:=qaT c;refine zV 38 func256 Z fun h=>zSR (qx h Z Z fun _ b h=>X1 10 0 h Z ?_);obtain⟨z,F,a⟩:=qc F;refine qm (rL (fun m e w'=>∃i1,qbe H m i1=V z/\e=[(1,vp b),(6,oS v H.Ba.length s),(7,vi (H.Ba.length:Int)),(8,vi i1)]/\SH w w' [oX b (qgR H v A B C s x k3 y) 183]) n ⟨_,F,rfl,h⟩ Z ?_);rintro u _ _ ⟨i1,F,rfl,h⟩;rcases u with _|u
 ·cases F
 refine X0 5 Z (qg Z F ?_ ?_)<;>intro F
 ·refine X0 6 Z ?_;obtain⟨_,_,F,g,_,_,_,_,k,o,rfl,d⟩:=D.ix F;refine zxe k o g Z (zc 0 (d.below h.below) Z (X0 8 Z (qk (t:=15) F Z ?_ ?_)))<;>intro F
  ·refine X0 6 Z (qk (t:=18) F Z ?_ ?_)<;>intro F
   ·refine X0 20 Z (qcl Z Z (X0 4 Z ?_));obtain rfl:=qb F;replace F:=a;exact rb h F Z
   refine X1 5 0 h Z ?_;obtain⟨_,_,F,i,_,_,_,_,l,p,rfl,f⟩:=s2.ix F;refine zxe l p i Z (X0 1 Z (zc 0 (f.below h.below) Z (X0 6 Z (qk (t:=26) F Z ?_ ?_))))<;>intro F
   ·refine X0 11 Z (qcl Z Z (X0 4 Z ?_));obtain rfl:=qb F;replace F:=a;exact rb h F Z
   refine X0 6 Z (qk (t:=29) F Z ?_ ?_)<;>intro F
   ·refine X0 7 Z (zcB h F qaF Z fun _ _ h F=>X0 6 Z (qg Z F ?_ ?_))<;>intro F
    ·refine X0 4 Z ?_;obtain rfl:=qb F;replace F:=a;exact rb h F Z
    exact X0 6 Z (rK ⟨_,F,rfl,h⟩ Z)
   exact X0 9 Z (qb8 Z Z (X0 6 Z (rK ⟨_,F,rfl,h⟩ Z)))
  refine X0 17 Z (qk (t:=29) F Z ?_ ?_)<;>intro F
  ·refine X0 7 Z (zcB h F qaF Z fun _ _ h F=>X0 6 Z (qg Z F ?_ ?_))<;>intro F
   ·refine X0 4 Z ?_;obtain rfl:=qb F;replace F:=a;exact rb h F Z
   exact X0 6 Z (rK ⟨_,F,rfl,h⟩ Z)
  exact X0 9 Z (qb8 Z Z (X0 6 Z (rK ⟨_,F,rfl,h⟩ Z)))
 refine qu Z ?_;obtain rfl:=qb F;replace F:=a;exact X0 4 Z (rb h F Z)
def qlZ(n:Nat)(k:qZ)(l:Int):Option Bool:=(qbt n k.Ba).bind fun a=>(qaV n a 1 8).bind fun b=>bif b then(qbt n k.Bz).bind fun c=>bif (c==a) then(qbt n k.Bv).bind fun r4=>bif (r4==a) then(qhv n k).bind fun d=>bif d then(qbX n k.Bz 0 1000).bind fun f=>bif f then(qbX n k.Bv 0 500).bind fun g=>bif g then(qbt n k.Bn).bind fun h=>bif (h==l) then(qbX n k.Bn 0 (W64 (a-1))).bind fun i=>V i else V false else V false else V false else V false else V false else V false else V false
theorem qrI{f:qZ}{sinks}(a:Ro w f cs1){r:Bool}(F:qlZ n f sinks=V r):RetV prog 204 [oV qZ cs1,vi sinks] w r:=by
 obtain⟨_,_,_,_,_,_,_,_,rfl,d,s2,b,c⟩:=qaT a;refine zV 53 func204 Z fun h=>zSR (qx h Z Z fun _ _ h=>X1 6 0 h Z (zcI h F (qcG ⟨_,_,rfl,(h.oldS d)⟩) Z fun _ _ h F=>X0 5 Z (zcB h F qaF Z fun _ _ h F=>zp1 Z (qk (t:=11) F Z ?_ ?_))))<;>intro F
 ·refine X1 5 0 h Z (zcI h F (qcG ⟨_,_,rfl,(h.oldS s2)⟩) Z fun _ _ h F=>X0 6 Z (qk (t:=18) F Z ?_ ?_))<;>intro F
  ·refine X1 5 0 h Z (zcI h F (qcG ⟨_,_,rfl,(h.oldS b)⟩) Z fun _ _ h F=>X0 6 Z (qk (t:=25) F Z ?_ ?_))<;>intro F
   ·refine X1 3 0 h Z (zcB h F (qoD (h.old a)) Z fun _ _ h F=>zp2 Z (qk (t:=29) F Z ?_ ?_))<;>intro F
    ·refine X1 5 0 h Z (zcB h F (qck ⟨_,_,rfl,(h.oldS s2)⟩) Z fun _ _ h F=>zp2 Z (qk (t:=34) F Z ?_ ?_))<;>intro F
     ·refine X1 5 0 h Z (zcB h F (qck ⟨_,_,rfl,(h.oldS b)⟩) Z fun _ _ h F=>zp2 Z (qk (t:=39) F Z ?_ ?_))<;>intro F
      ·refine X1 5 0 h Z (zcI h F (qcG ⟨_,_,rfl,(h.oldS c)⟩) Z fun _ _ h F=>X0 6 Z (qk (t:=46) F Z ?_ ?_))<;>intro F
       ·exact X1 9 0 h Z (zcB h F (qck ⟨_,_,rfl,(h.oldS c)⟩) Z fun _ _ h F=>X0 3 Z (rb h F Z))
       exact X0 8 Z (rb h F Z)
      exact X0 15 Z (rb h F Z)
     exact X0 20 Z (rb h F Z)
    exact X0 25 Z (rb h F Z)
   exact X0 29 Z (rb h F Z)
  exact X0 36 Z (rb h F Z)
 exact X0 43 Z (rb h F Z)
def qe1(b:qf)(c:(List Int)):Nat->Int->Option (Flow Bool Int)|0,_=>U|n+1,a=>bif decide (a<(b.Ah.length:Int)) then(idx b.Ah a).bind fun f=>(idx c a).bind fun g=>(qlZ n f g).bind fun d=>bif (!d) then V (.ret false) else qe1 b c n (W64 (a+1)) else V (.nxt a)
def qdc(b:(List Tplace)):Nat->(List Int)->Int->Option ((List Int)×Int)|0,_,_=>U|n+1,a,i1=>bif decide (i1<(b.length:Int)) then(idx b i1).bind fun c=>bif (!c.drives) then(idx a c.net).bind fun d=>(idx a c.net).bind fun _=>qdc b n (setS a c.net (W64 (d+1))) (W64 (i1+1)) else qdc b n a (W64 (i1+1)) else V (a,i1)
def qi7(n:Nat)(b:qf):Option Bool:=((qjC n (⟨b.Au.Ay⟩:qn) (⟨b.Aa.Ab,b.Aa.As,b.Aa.Ak⟩:qd)).bind fun c=>bif (!c) then V true else V ((b.Ah.length:Int) != (b.Aa.As.length:Int))).bind fun b1=>bif b1 then V false else(mkS (b.Ah.length:Int) (0:Int)).bind fun x1=>(qcy n (⟨b.Aa.Ab,b.Aa.As,b.Aa.Ak⟩:qd)).bind fun a=>(qdc a n x1 0).bind fun(d,_)=>(qe1 b d n 0).bind fun|.ret r=>V r|.nxt _=>V true
theorem qqN{b:qf}(A:Ro w b cs1){r:Bool}(F:qi7 n b=V r):RetV prog 153 [oV qf cs1] w r:=by
 obtain⟨p1,k1,p2,k2,p3,k3,p4,k4,p5,k5,rfl,s1,s2,s3,s4,s5⟩:=qac A;refine zV 63 func153 Z fun h=>zSR (qx h Z Z fun _ a h=>X0 4 Z ?_);obtain⟨y,g,_,F,f⟩:=bindE F;refine qa1 (fun e w'=>∃b1,y b1=V r/\e=[(1,vp a),(23,.bool b1)]/\SH w w' [oX a (qaY b p1 p2 p3 p4 p5 k1 k2 k3 k4 k5) 53]) ?_ ?_
 ·refine X2 5 0 0 h Z (zcB h F (qp1 (qeb _ (h.oldS s1)) (qav _ (h.oldS s2) (h.oldS s3) (h.oldS s4))) Z fun _ _ h F=>zp2 Z (qk (t:=14) F Z ?_ ?_))<;>intro F
  ·refine X0 10 Z ?_;obtain rfl:=qb F;exact rG ⟨_,f,rfl,h⟩ Z
  refine X2 18 0 0 h Z ?_;obtain rfl:=qb F;exact rG ⟨_,f,rfl,h⟩ Z
 rintro _ _ ⟨b1,F,rfl,h⟩;subst g;refine qg Z F ?_ ?_<;>intro F
 ·exact X0 4 Z (rb h F Z)
 refine X1 6 0 h Z ?_;obtain⟨x1,c,F⟩:=qc F;obtain⟨g1,g2,c⟩:=qQ c;refine qai qa Int h Z Z Z Z Z Z Z Z Z g1 g2 c Z fun _ S1 x h=>X1 7 1 h Z (zcL h F (qeM (qav _ (h.oldS s2) (h.oldS s3) (h.oldS s4))) Z fun u _ S2 p7 k6 h F=>X0 3 Z ?_);obtain⟨o1,F,z⟩:=qc F;refine qm (rL (fun m e w'=>∃v i1,qdc u m v i1=V o1/\e=[(1,vp a),(3,oS x x1.length x1.length),(30,oS p7 u.length k6),(31,vi (u.length:Int)),(32,vi i1)]/\SH w w' [oW S2 (u:List Tplace) [oS p7 u.length k6],oW S1 (v:List Int) [oS x x1.length x1.length],oX a (qaY b p1 p2 p3 p4 p5 k1 k2 k3 k4 k5) 53]) n ⟨_,_,F,rfl,h⟩ Z ?_);rintro m1 _ _ ⟨v,i1,F,rfl,h⟩;rcases m1 with _|m1
 ·cases F
 refine X0 5 Z (qg Z F ?_ ?_)<;>intro F
 ·refine zKSBSR ?_;obtain⟨_,_,F,i,_,_,_,_,K,O,S,B⟩:=(h.sl 0 Z).1.ix F;obtain rfl:=qg3 S;refine zx K O ⟨i.1,qD i.2.1 (h.sl 0 Z).2⟩ Z (zc 0 B Z (qp qa h Z Z Z fun _ _ h=>zs 0 h Z fun _ h=>X1 7 0 h Z (qg Z F ?_ ?_)))<;>intro F
  ·refine X1 4 0 h Z ?_;obtain⟨y2,_,F,k,_,_,_,_,L,P,rfl,C⟩:=(h.sl 2 Z).1.ix F;refine zx L P ⟨k.1,qD k.2.1 (h.sl 2 Z).2⟩ Z (zc 0 C Z (zp1 Z ?_));obtain⟨_,X,F,l,_,_,_,_,p,s,rfl,D⟩:=(h.sl 2 Z).1.ix F;refine zx p s ⟨l.1,qD l.2.1 (h.sl 2 Z).2⟩ Z (qbg qa 2 0 (W64 (y2+1)) h Z X p s Z D Z Z Z Z Z Z Z fun _ h=>X0 6 Z ?_);replace h:=h.p [1,2,3] Z;exact rK ⟨_,_,F,rfl,h⟩ Z
  refine X0 6 Z ?_;replace h:=h.p [1,2,3] Z;exact rK ⟨_,_,F,rfl,h⟩ Z
 refine qu Z ?_;obtain rfl:=qb F;replace F:=z;refine X1 8 2 h Z ?_;obtain⟨o2,F,d⟩:=qc F;refine qm ?_;replace h:=h.p [1] Z;refine rL (fun m e w'=>∃Y,qe1 b v m Y=V o2/\e=[(3,oS x x1.length x1.length),(48,oS p5 b.Ah.length k5),(49,vi (b.Ah.length:Int)),(50,vi Y)]/\SH w w' [oW S1 (v:List Int) [oS x x1.length x1.length]]) n ⟨_,F,rfl,h⟩ Z ?_;rintro m2 _ _ ⟨Y,F,rfl,h⟩;rcases m2 with _|m2
 ·cases F
 refine X0 5 Z (qg Z F ?_ ?_)<;>intro F
 ·refine X0 6 Z ?_;obtain⟨y4,_,F,J,_,_,_,_,M,Q,T,H⟩:=s5.ix F;obtain⟨_,_,_,_,_,_,_,_,rfl,s6,s7,s8,s9⟩:=qaT T;refine zxe M Q J Z (zc 0 (H.below h.below) Z (qp qa h Z Z Z fun _ _ h=>zp1 Z (zs 0 h Z fun _ h=>zNS (rD (Y1 1 0 h Z ?_)))));refine zd2 Z ?_;obtain⟨_,_,F,o,_,_,_,_,N,R,rfl,I⟩:=(h.sl 1 Z).1.ix F;refine zdx N R ⟨o.1,qD o.2.1 (h.sl 1 Z).2⟩ Z (zdc 0 I Z ?_);obtain⟨r2,W,F⟩:=qc F;refine qaK r2 (vsB _) (cB 204 Z) (fun _ hb=>qrI (qkW y4 ((h.ext hb).oldS s6) ((h.ext hb).oldS s7) ((h.ext hb).oldS s8) ((h.ext hb).oldS s9)) W) Z Z Z Z (zd1 Z (dN h fun _ h=>qg Z F ?_ ?_))<;>intro F
  ·refine X0 4 Z ?_;obtain rfl:=qb F;replace F:=d;exact rb h F Z
  refine X0 6 Z ?_;replace h:=h.p [1] Z;exact rK ⟨_,F,rfl,h⟩ Z
 refine qu Z ?_;obtain rfl:=qb F;replace F:=d;exact X0 4 Z (rb h F Z)
end Go.Fw


namespace Go.Fw
open Go
def qdG(a:(List Int)):Nat:=a.length
theorem qem{a:(List Int)}(h:(rngL rngI) a)(w:qdG a<=1048576):(okL okI) a:=
 ⟨by simp only[qdG] at w;omega,fun x b=>h.2 x b⟩
def qit(x:qy):Prop:=(rngL rngI) x.Bo/\(rngL rngI) x.Bk/\(rngL rngI) x.Bj
def qgd(x:qy):Nat:=qdG x.Bo+qdG x.Bk+qdG x.Bj
structure qjd(x:qy):Prop where
 Bo:(okL okI) x.Bo
 Bk:(okL okI) x.Bk
 Bj:(okL okI) x.Bj
theorem qvc{x:qy}(h:qit x)(w:qgd x<=1048576):qjd x:=⟨qem (h.1) (by simp only[qgd] at w;omega),qem (h.2.1) (by simp only[qgd] at w;omega),qem (h.2.2) (by simp only[qgd] at w;omega)⟩
def qgn(a:(List qy)):Nat:=a.length+(a.map fun x=>qgd x).sum
theorem qqv{a:(List qy)}(h:(rngL qit) a)(w:qgn a<=1048576):(okL qjd) a:=
 ⟨by simp only[qgn] at w;omega,fun x b=>qvc (h.2 x b) (by have:=qeS (wt:=fun x:qy=>qgd x) b;simp only[qgn] at w;omega)⟩
def qmU(x:qY):Prop:=rngI x.Bi/\rngI x.Bl/\rngI x.To/\rngI x.Bp/\(rngL qit) x.Br/\(rngL qit) x.Be
def qlU(x:qY):Nat:=qgn x.Br+qgn x.Be
structure qoW(x:qY):Prop where
 Bi:okI x.Bi
 Bl:okI x.Bl
 To:okI x.To
 Bp:okI x.Bp
 Br:(okL qjd) x.Br
 Be:(okL qjd) x.Be
theorem qyZ{x:qY}(h:qmU x)(w:qlU x<=1048576):qoW x:=⟨h.1,h.2.1,h.2.2.1,h.2.2.2.1,qqv (h.2.2.2.2.1) (by simp only[qlU] at w;omega),qqv (h.2.2.2.2.2) (by simp only[qlU] at w;omega)⟩
theorem qgy{a:(List Int)}(h:qdG a<=1048576):Ev (fun n=>qbJ n a a) true:=by
 have f:a.length<=1048576:=by simp only[qdG] at h;omega
 unfold qbJ;exact Ev.ff (by simp) (Ev.bind (b:=.nxt (a.length:Int)) (qjI (eqf:=fun _ x y=>V (!(x != y))) (fun x _=>Ev.now (by simp))
  (fun n=>by simp only[qfJ,ql (je _),cond_false])
  (fun n j x c=>by
   have d:=(List.getElem?_eq_some_iff.1 c).1;simp only[qfJ,qj d,cond_true,qaE c,jd,Bool.not_not,wS j])) .done)
theorem qys{a:qy}(h:qgd a<=1048576):Ev (fun n=>qiQ n a a) true:=by
 unfold qiQ;simp only[qgd] at h;exact Ev.bind (qgy (a:=a.Bo) (by omega)) (Ev.ff Z (Ev.bind (qgy (a:=a.Bk) (by omega)) (Ev.ff Z (Ev.bind (qgy (a:=a.Bj) (by omega)) (Ev.ff Z (.done))))))
theorem qsC{a:(List qy)}(h:qgn a<=1048576):Ev (fun n=>qh3 n a a) true:=by
 have f:a.length<=1048576:=by simp only[qgn] at h;omega
 unfold qh3;exact Ev.ff (by simp) (Ev.bind (b:=.nxt (a.length:Int)) (qjI (eqf:=qiQ) (fun x c=>qys (by have:=qeS (wt:=fun x:qy=>qgd x) c;simp only[qgn] at h;omega))
  (fun n=>by simp only[qfE,ql (je _),cond_false])
  (fun n j x c=>by
   have d:=(List.getElem?_eq_some_iff.1 c).1;simp only[qfE,qj d,cond_true,qaE c,jd,wS j])) .done)
theorem qAB{a:qY}(h:qlU a<=1048576):Ev (fun n=>qls n a a) true:=by
 unfold qls;simp only[qlU] at h;exact Ev.ff qa4 (Ev.ff qa4 (Ev.ff qa4 (Ev.ff qa4 (Ev.bind (qsC (a:=a.Br) (by omega)) (Ev.ff Z (Ev.bind (qsC (a:=a.Be) (by omega)) (Ev.ff Z (.done))))))))
def qk7(a:(List qY)):Nat:=a.length+(a.map fun x=>qlU x).sum
theorem qxy{a:(List qY)}(h:(rngL qmU) a)(w:qk7 a<=1048576):(okL qoW) a:=
 ⟨by simp only[qk7] at w;omega,fun x b=>qyZ (h.2 x b) (by have:=qeS (wt:=fun x:qY=>qlU x) b;simp only[qk7] at w;omega)⟩
theorem qz1{a:(List qY)}(h:qk7 a<=1048576):Ev (fun n=>qlz n a a) true:=by
 have f:a.length<=1048576:=by simp only[qk7] at h;omega
 unfold qlz;exact Ev.ff (by simp) (Ev.bind (b:=.nxt (a.length:Int)) (qjI (eqf:=qls) (fun x c=>qAB (by have:=qeS (wt:=fun x:qY=>qlU x) c;simp only[qk7] at h;omega))
  (fun n=>by simp only[qha,ql (je _),cond_false])
  (fun n j x c=>by
   have d:=(List.getElem?_eq_some_iff.1 c).1;simp only[qha,qj d,cond_true,qaE c,jd,wS j])) .done)
def qm9(x:qaA):Prop:=rngS x.Bd/\rngI x.Bx/\rngI x.Bv/\rngB x.Bs
def qnL(x:qaA):Nat:=x.Bd.size
structure qod(x:qaA):Prop where
 Bd:okS x.Bd
 Bx:okI x.Bx
 Bv:okI x.Bv
 Bs:okT x.Bs
theorem qxV{x:qaA}(h:qm9 x)(w:qnL x<=1048576):qod x:=⟨(by unfold okS;simp only[qnL] at w;omega),h.2.1,h.2.2.1,G⟩
def qkX(a:(List qaA)):Nat:=a.length+(a.map fun x=>qnL x).sum
theorem qxC{a:(List qaA)}(h:(rngL qm9) a)(w:qkX a<=1048576):(okL qod) a:=
 ⟨by simp only[qkX] at w;omega,fun x b=>qxV (h.2 x b) (by have:=qeS (wt:=fun x:qaA=>qnL x) b;simp only[qkX] at w;omega)⟩
def qlk(x:qC):Prop:=rngS x.Bd/\rngI x.Bi/\(rngL qm9) x.Bh/\(rngL qmU) x.Bc/\(rngL rngI) x.Bt/\rngI x.Cc/\rngI x.Bw
def qhP(x:qC):Nat:=x.Bd.size+qkX x.Bh+qk7 x.Bc+qdG x.Bt
structure qoj(x:qC):Prop where
 Bd:okS x.Bd
 Bi:okI x.Bi
 Bh:(okL qod) x.Bh
 Bc:(okL qoW) x.Bc
 Bt:(okL okI) x.Bt
 Cc:okI x.Cc
 Bw:okI x.Bw
theorem qxx{x:qC}(h:qlk x)(w:qhP x<=1048576):qoj x:=⟨(by unfold okS;simp only[qhP] at w;omega),h.2.1,qxC (h.2.2.1) (by simp only[qhP] at w;omega),qxy (h.2.2.2.1) (by simp only[qhP] at w;omega),qem (h.2.2.2.2.1) (by simp only[qhP] at w;omega),h.2.2.2.2.2.1,h.2.2.2.2.2.2⟩
def qiz(a:(List qC)):Nat:=a.length+(a.map fun x=>qhP x).sum
theorem qvC{a:(List qC)}(h:(rngL qlk) a)(w:qiz a<=1048576):(okL qoj) a:=
 ⟨by simp only[qiz] at w;omega,fun x b=>qxx (h.2 x b) (by have:=qeS (wt:=fun x:qC=>qhP x) b;simp only[qiz] at w;omega)⟩
def qlS(x:qn):Prop:=(rngL qlk) x.Ay
def qhH(x:qn):Nat:=qiz x.Ay
structure qio(x:qn):Prop where
 Ay:(okL qoj) x.Ay
theorem qtw{x:qn}(h:qlS x)(w:qhH x<=1048576):qio x:=⟨qvC (h) (by simp only[qhH] at w;omega)⟩
def qga(x:qt):Prop:=rngS x.Bd/\rngI x.Bu/\(rngL rngI) x.As
def qc0(x:qt):Nat:=x.Bd.size+qdG x.As
structure qn3(x:qt):Prop where
 Bd:okS x.Bd
 Bu:okI x.Bu
 As:(okL okI) x.As
theorem qse{x:qt}(h:qga x)(w:qc0 x<=1048576):qn3 x:=⟨(by unfold okS;simp only[qc0] at w;omega),h.2.1,qem (h.2.2) (by simp only[qc0] at w;omega)⟩
def qdH(a:(List qt)):Nat:=a.length+(a.map fun x=>qc0 x).sum
theorem qrY{a:(List qt)}(h:(rngL qga) a)(w:qdH a<=1048576):(okL qn3) a:=
 ⟨by simp only[qdH] at w;omega,fun x b=>qse (h.2 x b) (by have:=qeS (wt:=fun x:qt=>qc0 x) b;simp only[qdH] at w;omega)⟩
def qhB(a:(List ByteArray)):Nat:=a.length+(a.map fun x=>x.size).sum
theorem qtf{a:(List ByteArray)}(_:(rngL rngS) a)(w:qhB a<=1048576):(okL okS) a:=
 ⟨by simp only[qhB] at w;omega,fun x b=>(by unfold okS;have:=qeS (wt:=fun x:ByteArray=>x.size) b;simp only[qhB] at w;omega)⟩
def qlp(x:qas):Prop:=rngS x.Bd/\rngI x.Bx/\rngI x.Ca
def qle(x:qas):Nat:=x.Bd.size
structure qtS(x:qas):Prop where
 Bd:okS x.Bd
 Bx:okI x.Bx
 Ca:okI x.Ca
theorem qw3{x:qas}(h:qlp x)(w:qle x<=1048576):qtS x:=⟨(by unfold okS;simp only[qle] at w;omega),h.2.1,h.2.2⟩
def qi5(a:(List qas)):Nat:=a.length+(a.map fun x=>qle x).sum
theorem qvm{a:(List qas)}(h:(rngL qlp) a)(w:qi5 a<=1048576):(okL qtS) a:=
 ⟨by simp only[qi5] at w;omega,fun x b=>qw3 (h.2 x b) (by have:=qeS (wt:=fun x:qas=>qle x) b;simp only[qi5] at w;omega)⟩
def qm1(x:qd):Prop:=(rngL qga) x.Ab/\(rngL rngS) x.As/\(rngL qlp) x.Ak
def qg6(x:qd):Nat:=qdH x.Ab+qhB x.As+qi5 x.Ak
structure qkT(x:qd):Prop where
 Ab:(okL qn3) x.Ab
 As:(okL okS) x.As
 Ak:(okL qtS) x.Ak
theorem qux{x:qd}(h:qm1 x)(w:qg6 x<=1048576):qkT x:=⟨qrY (h.1) (by simp only[qg6] at w;omega),qtf (h.2.1) (by simp only[qg6] at w;omega),qvm (h.2.2) (by simp only[qg6] at w;omega)⟩
def qkY(x:qZ):Prop:=(rngL rngI) x.Ba/\(rngL rngI) x.Bz/\(rngL rngI) x.Bv/\(rngL rngI) x.Bn
def qhN(x:qZ):Nat:=qdG x.Ba+qdG x.Bz+qdG x.Bv+qdG x.Bn
structure qpz(x:qZ):Prop where
 Ba:(okL okI) x.Ba
 Bz:(okL okI) x.Bz
 Bv:(okL okI) x.Bv
 Bn:(okL okI) x.Bn
theorem qw1{x:qZ}(h:qkY x)(w:qhN x<=1048576):qpz x:=⟨qem (h.1) (by simp only[qhN] at w;omega),qem (h.2.1) (by simp only[qhN] at w;omega),qem (h.2.2.1) (by simp only[qhN] at w;omega),qem (h.2.2.2) (by simp only[qhN] at w;omega)⟩
def qiW(a:(List qZ)):Nat:=a.length+(a.map fun x=>qhN x).sum
theorem qve{a:(List qZ)}(h:(rngL qkY) a)(w:qiW a<=1048576):(okL qpz) a:=
 ⟨by simp only[qiW] at w;omega,fun x b=>qw1 (h.2 x b) (by have:=qeS (wt:=fun x:qZ=>qhN x) b;simp only[qiW] at w;omega)⟩
def qos(x:qf):Prop:=qlS x.Au/\qm1 x.Aa/\(rngL qkY) x.Ah
def qiH(x:qf):Nat:=qhH x.Au+qg6 x.Aa+qiW x.Ah
structure qmh(x:qf):Prop where
 Au:qio x.Au
 Aa:qkT x.Aa
 Ah:(okL qpz) x.Ah
theorem qv3{x:qf}(h:qos x)(w:qiH x<=1048576):qmh x:=⟨qtw (h.1) (by simp only[qiH] at w;omega),qux (h.2.1) (by simp only[qiH] at w;omega),qve (h.2.2) (by simp only[qiH] at w;omega)⟩
theorem qAm{a:qaA}(_:qnL a<=1048576):Ev (fun n=>qk6 n a a) true:=by
 unfold qk6;exact Ev.ff qiS (Ev.ff qa4 (Ev.ff qa4 (Ev.ff qtJ (.done))))
theorem qz3{a:(List qaA)}(h:qkX a<=1048576):Ev (fun n=>qlV n a a) true:=by
 have f:a.length<=1048576:=by simp only[qkX] at h;omega
 unfold qlV;exact Ev.ff (by simp) (Ev.bind (b:=.nxt (a.length:Int)) (qjI (eqf:=qk6) (fun x c=>qAm (by have:=qeS (wt:=fun x:qaA=>qnL x) c;simp only[qkX] at h;omega))
  (fun n=>by simp only[qhm,ql (je _),cond_false])
  (fun n j x c=>by
   have d:=(List.getElem?_eq_some_iff.1 c).1;simp only[qhm,qj d,cond_true,qaE c,jd,wS j])) .done)
theorem qzT{a:qC}(h:qhP a<=1048576):Ev (fun n=>qjZ n a a) true:=by
 unfold qjZ;simp only[qhP] at h;exact Ev.ff qiS (Ev.ff qa4 (Ev.bind (qz3 (a:=a.Bh) (by omega)) (Ev.ff Z (Ev.bind (qz1 (a:=a.Bc) (by omega)) (Ev.ff Z (Ev.bind (qgy (a:=a.Bt) (by omega)) (Ev.ff Z (Ev.ff qa4 (Ev.ff qa4 (.done))))))))))
theorem qyl{a:(List qC)}(h:qiz a<=1048576):Ev (fun n=>qkG n a a) true:=by
 have f:a.length<=1048576:=by simp only[qiz] at h;omega
 unfold qkG;exact Ev.ff (by simp) (Ev.bind (b:=.nxt (a.length:Int)) (qjI (eqf:=qjZ) (fun x c=>qzT (by have:=qeS (wt:=fun x:qC=>qhP x) c;simp only[qiz] at h;omega))
  (fun n=>by simp only[qgr,ql (je _),cond_false])
  (fun n j x c=>by
   have d:=(List.getElem?_eq_some_iff.1 c).1;simp only[qgr,qj d,cond_true,qaE c,jd,wS j])) .done)
theorem qvl{a:qn}(h:qhH a<=1048576):Ev (fun n=>qi1 n a a) true:=by
 unfold qi1;simp only[qhH] at h;exact Ev.bind (qyl (a:=a.Ay) (by omega)) (Ev.ff Z (.done))
theorem qui{a:qt}(h:qc0 a<=1048576):Ev (fun n=>qgm n a a) true:=by
 unfold qgm;simp only[qc0] at h;exact Ev.ff qiS (Ev.ff qa4 (Ev.bind (qgy (a:=a.As) (by omega)) (Ev.ff Z (.done))))
theorem qtH{a:(List qt)}(h:qdH a<=1048576):Ev (fun n=>qhz n a a) true:=by
 have f:a.length<=1048576:=by simp only[qdH] at h;omega
 unfold qhz;exact Ev.ff (by simp) (Ev.bind (b:=.nxt (a.length:Int)) (qjI (eqf:=qgm) (fun x c=>qui (by have:=qeS (wt:=fun x:qt=>qc0 x) c;simp only[qdH] at h;omega))
  (fun n=>by simp only[qea,ql (je _),cond_false])
  (fun n j x c=>by
   have d:=(List.getElem?_eq_some_iff.1 c).1;simp only[qea,qj d,cond_true,qaE c,jd,wS j])) .done)
theorem qvn{a:(List ByteArray)}(h:qhB a<=1048576):Ev (fun n=>qiM n a a) true:=by
 have f:a.length<=1048576:=by simp only[qhB] at h;omega
 unfold qiM;exact Ev.ff (by simp) (Ev.bind (b:=.nxt (a.length:Int)) (qjI (eqf:=fun _ x y=>V (!(x.toList != y.toList))) (fun x _=>Ev.now (by simp))
  (fun n=>by simp only[qfm,ql (je _),cond_false])
  (fun n j x c=>by
   have d:=(List.getElem?_eq_some_iff.1 c).1;simp only[qfm,qj d,cond_true,qaE c,jd,Bool.not_not,wS j])) .done)
theorem qzq{a:qas}(_:qle a<=1048576):Ev (fun n=>qj5 n a a) true:=by
 unfold qj5;exact Ev.ff qiS (Ev.ff qa4 (Ev.ff qa4 (.done)))
theorem qyN{a:(List qas)}(h:qi5 a<=1048576):Ev (fun n=>qkI n a a) true:=by
 have f:a.length<=1048576:=by simp only[qi5] at h;omega
 unfold qkI;exact Ev.ff (by simp) (Ev.bind (b:=.nxt (a.length:Int)) (qjI (eqf:=qj5) (fun x c=>qzq (by have:=qeS (wt:=fun x:qas=>qle x) c;simp only[qi5] at h;omega))
  (fun n=>by simp only[qgk,ql (je _),cond_false])
  (fun n j x c=>by
   have d:=(List.getElem?_eq_some_iff.1 c).1;simp only[qgk,qj d,cond_true,qaE c,jd,wS j])) .done)
theorem qxg{a:qd}(h:qg6 a<=1048576):Ev (fun n=>qjQ n a a) true:=by
 unfold qjQ;simp only[qg6] at h;exact Ev.bind (qtH (a:=a.Ab) (by omega)) (Ev.ff Z (Ev.bind (qvn (a:=a.As) (by omega)) (Ev.ff Z (Ev.bind (qyN (a:=a.Ak) (by omega)) (Ev.ff Z (.done))))))
theorem qzj{a:qZ}(h:qhN a<=1048576):Ev (fun n=>qjS n a a) true:=by
 unfold qjS;simp only[qhN] at h;exact Ev.bind (qgy (a:=a.Ba) (by omega)) (Ev.ff Z (Ev.bind (qgy (a:=a.Bz) (by omega)) (Ev.ff Z (Ev.bind (qgy (a:=a.Bv) (by omega)) (Ev.ff Z (Ev.bind (qgy (a:=a.Bn) (by omega)) (Ev.ff Z (.done))))))))
theorem qyY{a:(List qZ)}(h:qiW a<=1048576):Ev (fun n=>qkB n a a) true:=by
 have f:a.length<=1048576:=by simp only[qiW] at h;omega
 unfold qkB;exact Ev.ff (by simp) (Ev.bind (b:=.nxt (a.length:Int)) (qjI (eqf:=qjS) (fun x c=>qzj (by have:=qeS (wt:=fun x:qZ=>qhN x) c;simp only[qiW] at h;omega))
  (fun n=>by simp only[qgt,ql (je _),cond_false])
  (fun n j x c=>by
   have d:=(List.getElem?_eq_some_iff.1 c).1;simp only[qgt,qj d,cond_true,qaE c,jd,wS j])) .done)
theorem qyb{a:qf}(h:qiH a<=1048576):Ev (fun n=>qkF n a a) true:=by
 unfold qkF;simp only[qiH] at h;exact Ev.bind (qvl (a:=a.Au) (by omega)) (Ev.ff Z (Ev.bind (qxg (a:=a.Aa) (by omega)) (Ev.ff Z (Ev.bind (qyY (a:=a.Ah) (by omega)) (Ev.ff Z (.done))))))
theorem qgI{a:(List Int)}{left:Int}(h:(rngL rngI) a)(b:0<=left)(c:left<=1048576):Sz (fun n=>qb2 n a left) (fun r=>r=left-(qdG a:Int)):=
 Sz.less b c (by omega) (by have:=h.1;omega) (fun _=>rfl)
theorem qxL{a:qy}{left:Int}(h:qit a)(g:0<=left)(i:left<=1048576):Sz (fun n=>qiI n a left) (fun r=>r=left-(qgd a:Int)):=by
 unfold qiI;obtain⟨b,c,d⟩:=h;exact Sz.step (qgI (a:=a.Bo) b (by omega) (by omega)) fun s k m=>Sz.step (qgI (a:=a.Bk) c (by omega) (by omega)) fun t l o=>Sz.step (qgI (a:=a.Bj) d (by omega) (by omega)) fun u f p=>Sz.done f (by simp only[qgd];omega)
theorem qsS{a:(List qy)}{left:Int}(h:(rngL qit) a)(d:0<=left)(f:left<=1048576):Sz (fun n=>qjN n a left) (fun r=>r=left-(qgn a:Int)):=
 Sz.list (Lf:=qev a) (wt:=fun x:qy=>qgd x) (el:=qiI) d f h.1 (fun x b left p q=>qxL (h.2 x b) p q)
  (fun c n=>by simp only[qev,ql (je _),cond_false])
  (fun c n j x b=>by
   have g:=(List.getElem?_eq_some_iff.1 b).1;have i:=h.1;simp only[qev,qj g,cond_true,qaE b,jd,wS j])
  (fun _=>rfl)
theorem qAq{a:qY}{left:Int}(h:qmU a)(l:0<=left)(m:left<=1048576):Sz (fun n=>qla n a left) (fun r=>r=left-(qlU a:Int)):=by
 unfold qla;obtain⟨d,f,g,i,b,c⟩:=h;exact Sz.step (qsS (a:=a.Br) b (by omega) (by omega)) fun t o p=>Sz.step (qsS (a:=a.Be) c (by omega) (by omega)) fun u k s=>Sz.done k (by simp only[qlU];omega)
theorem qzp{a:(List qY)}{left:Int}(h:(rngL qmU) a)(d:0<=left)(f:left<=1048576):Sz (fun n=>qnH n a left) (fun r=>r=left-(qk7 a:Int)):=
 Sz.list (Lf:=qfL a) (wt:=fun x:qY=>qlU x) (el:=qla) d f h.1 (fun x b left p q=>qAq (h.2 x b) p q)
  (fun c n=>by simp only[qfL,ql (je _),cond_false])
  (fun c n j x b=>by
   have g:=(List.getElem?_eq_some_iff.1 b).1;have i:=h.1;simp only[qfL,qj g,cond_true,qaE b,jd,wS j])
  (fun _=>rfl)
theorem qAP{a:qaA}{left:Int}(h:qm9 a)(i:0<=left)(k:left<=1048576):Sz (fun n=>qln n a left) (fun r=>r=left-(qnL a:Int)):=by
 unfold qln;obtain⟨b,c,d,f⟩:=h;exact Sz.strStep b (by omega) (by omega) fun g l=>Sz.done g (by simp only[qnL];omega)
theorem qzG{a:(List qaA)}{left:Int}(h:(rngL qm9) a)(d:0<=left)(f:left<=1048576):Sz (fun n=>qnR n a left) (fun r=>r=left-(qkX a:Int)):=
 Sz.list (Lf:=qfA a) (wt:=fun x:qaA=>qnL x) (el:=qln) d f h.1 (fun x b left p q=>qAP (h.2 x b) p q)
  (fun c n=>by simp only[qfA,ql (je _),cond_false])
  (fun c n j x b=>by
   have g:=(List.getElem?_eq_some_iff.1 b).1;have i:=h.1;simp only[qfA,qj g,cond_true,qaE b,jd,wS j])
  (fun _=>rfl)
theorem qy2{a:qC}{left:Int}(h:qlk a)(m:0<=left)(o:left<=1048576):Sz (fun n=>qkd n a left) (fun r=>r=left-(qhP a:Int)):=by
 unfold qkd;obtain⟨b,g,c,d,f,i,k⟩:=h;exact Sz.strStep b (by omega) (by omega) fun p u=>Sz.step (qzG (a:=a.Bh) c (by omega) (by omega)) fun z s v=>Sz.step (qzp (a:=a.Bc) d (by omega) (by omega)) fun A t x=>Sz.step (qgI (a:=a.Bt) f (by omega) (by omega)) fun B l y=>Sz.done l (by simp only[qhP];omega)
theorem qyp{a:(List qC)}{left:Int}(h:(rngL qlk) a)(d:0<=left)(f:left<=1048576):Sz (fun n=>qmX n a left) (fun r=>r=left-(qiz a:Int)):=
 Sz.list (Lf:=qeT a) (wt:=fun x:qC=>qhP x) (el:=qkd) d f h.1 (fun x b left p q=>qy2 (h.2 x b) p q)
  (fun c n=>by simp only[qeT,ql (je _),cond_false])
  (fun c n j x b=>by
   have g:=(List.getElem?_eq_some_iff.1 b).1;have i:=h.1;simp only[qeT,qj g,cond_true,qaE b,jd,wS j])
  (fun _=>rfl)
theorem qvf{a:qn}{left:Int}(h:qlS a)(d:0<=left)(f:left<=1048576):Sz (fun n=>qiJ n a left) (fun r=>r=left-(qhH a:Int)):=by
 unfold qiJ;have b:=h;exact Sz.step (qyp (a:=a.Ay) b (by omega) (by omega)) fun i c g=>Sz.done c (by simp only[qhH];omega)
theorem quQ{a:qt}{left:Int}(h:qga a)(g:0<=left)(i:left<=1048576):Sz (fun n=>qgh n a left) (fun r=>r=left-(qc0 a:Int)):=by
 unfold qgh;obtain⟨b,d,c⟩:=h;exact Sz.strStep b (by omega) (by omega) fun k l=>Sz.step (qgI (a:=a.As) c (by omega) (by omega)) fun o f m=>Sz.done f (by simp only[qc0];omega)
theorem qtE{a:(List qt)}{left:Int}(h:(rngL qga) a)(d:0<=left)(f:left<=1048576):Sz (fun n=>qjt n a left) (fun r=>r=left-(qdH a:Int)):=
 Sz.list (Lf:=qc2 a) (wt:=fun x:qt=>qc0 x) (el:=qgh) d f h.1 (fun x b left p q=>quQ (h.2 x b) p q)
  (fun c n=>by simp only[qc2,ql (je _),cond_false])
  (fun c n j x b=>by
   have g:=(List.getElem?_eq_some_iff.1 b).1;have i:=h.1;simp only[qc2,qj g,cond_true,qaE b,jd,wS j])
  (fun _=>rfl)
theorem qvQ{a:(List ByteArray)}{left:Int}(h:(rngL rngS) a)(d:0<=left)(f:left<=1048576):Sz (fun n=>qld n a left) (fun r=>r=left-(qhB a:Int)):=
 Sz.list (Lf:=qdW a) (wt:=fun x:ByteArray=>x.size) (el:=fun _ (x:ByteArray) b=>V (W64 (b-(x.size:Int)))) d f h.1 (fun x c left p q=>Sz.str (h.2 x c) p q)
  (fun b n=>by simp only[qdW,ql (je _),cond_false])
  (fun b n j x c=>by
   have g:=(List.getElem?_eq_some_iff.1 c).1;have i:=h.1;simp only[qdW,qj g,cond_true,qaE c,jd,wS j])
  (fun _=>rfl)
theorem qzx{a:qas}{left:Int}(h:qlp a)(g:0<=left)(i:left<=1048576):Sz (fun n=>qj2 n a left) (fun r=>r=left-(qle a:Int)):=by
 unfold qj2;obtain⟨b,c,d⟩:=h;exact Sz.strStep b (by omega) (by omega) fun f k=>Sz.done f (by simp only[qle];omega)
theorem qxQ{a:(List qas)}{left:Int}(h:(rngL qlp) a)(d:0<=left)(f:left<=1048576):Sz (fun n=>qmS n a left) (fun r=>r=left-(qi5 a:Int)):=
 Sz.list (Lf:=qe0 a) (wt:=fun x:qas=>qle x) (el:=qj2) d f h.1 (fun x b left p q=>qzx (h.2 x b) p q)
  (fun c n=>by simp only[qe0,ql (je _),cond_false])
  (fun c n j x b=>by
   have g:=(List.getElem?_eq_some_iff.1 b).1;have i:=h.1;simp only[qe0,qj g,cond_true,qaE b,jd,wS j])
  (fun _=>rfl)
theorem qxj{a:qd}{left:Int}(h:qm1 a)(g:0<=left)(i:left<=1048576):Sz (fun n=>qjO n a left) (fun r=>r=left-(qg6 a:Int)):=by
 unfold qjO;obtain⟨b,c,d⟩:=h;exact Sz.step (qtE (a:=a.Ab) b (by omega) (by omega)) fun s k m=>Sz.step (qvQ (a:=a.As) c (by omega) (by omega)) fun t l o=>Sz.step (qxQ (a:=a.Ak) d (by omega) (by omega)) fun u f p=>Sz.done f (by simp only[qg6];omega)
theorem qzm{a:qZ}{left:Int}(h:qkY a)(i:0<=left)(k:left<=1048576):Sz (fun n=>qkj n a left) (fun r=>r=left-(qhN a:Int)):=by
 unfold qkj;obtain⟨b,c,d,f⟩:=h;exact Sz.step (qgI (a:=a.Ba) b (by omega) (by omega)) fun v l p=>Sz.step (qgI (a:=a.Bz) c (by omega) (by omega)) fun x m s=>Sz.step (qgI (a:=a.Bv) d (by omega) (by omega)) fun y o t=>Sz.step (qgI (a:=a.Bn) f (by omega) (by omega)) fun z g u=>Sz.done g (by simp only[qhN];omega)
theorem qyc{a:(List qZ)}{left:Int}(h:(rngL qkY) a)(d:0<=left)(f:left<=1048576):Sz (fun n=>qne n a left) (fun r=>r=left-(qiW a:Int)):=
 Sz.list (Lf:=qeV a) (wt:=fun x:qZ=>qhN x) (el:=qkj) d f h.1 (fun x b left p q=>qzm (h.2 x b) p q)
  (fun c n=>by simp only[qeV,ql (je _),cond_false])
  (fun c n j x b=>by
   have g:=(List.getElem?_eq_some_iff.1 b).1;have i:=h.1;simp only[qeV,qj g,cond_true,qaE b,jd,wS j])
  (fun _=>rfl)
theorem qyh{a:qf}{left:Int}(h:qos a)(g:0<=left)(i:left<=1048576):Sz (fun n=>qky n a left) (fun r=>r=left-(qiH a:Int)):=by
 unfold qky;obtain⟨b,c,d⟩:=h;exact Sz.step (qvf (a:=a.Au) b (by omega) (by omega)) fun s k m=>Sz.step (qxj (a:=a.Aa) c (by omega) (by omega)) fun t l o=>Sz.step (qyc (a:=a.Ah) d (by omega) (by omega)) fun u f p=>Sz.done f (by simp only[qiH];omega)
theorem qgD{a:(List Int)}(h:qdG a<=1048576):Ev (fun n=>qbD n a) a:=by
 have i:a.length<=1048576:=by simp only[qdG] at h;omega
 unfold qbD;exact Ev.bindN (qi8 (by omega)) (Ev.bind (b:=(a,(a.length:Int))) (qjG (cp:=fun _ x=>V x) (fun _ _=>.done)
  (fun c n=>by simp only[qfQ,ql (je _),cond_false])
  (fun c n j x y d g=>by
   have f:=(List.getElem?_eq_some_iff.1 d).1;simp only[qfQ,qj f,cond_true,qaE d,qaE g,jd,wS j])) .done)
theorem qyj{a:qy}(h:qgd a<=1048576):Ev (fun n=>qiL n a) a:=by
 unfold qiL;simp only[qgd] at h;exact Ev.bind (qgD (a:=a.Bo) (by omega)) (Ev.bind (qgD (a:=a.Bk) (by omega)) (Ev.bind (qgD (a:=a.Bj) (by omega)) (.done)))
theorem qsD{a:(List qy)}(h:qgn a<=1048576):Ev (fun n=>qhW n a) a:=by
 have i:a.length<=1048576:=by simp only[qgn] at h;omega
 unfold qhW;exact Ev.bindN (qi8 (by omega)) (Ev.bind (b:=(a,(a.length:Int))) (qjG (cp:=qiL) (fun x c=>qyj (by have:=qeS (wt:=fun x:qy=>qgd x) c;simp only[qgn] at h;omega))
  (fun d n=>by simp only[qfD,ql (je _),cond_false])
  (fun d n j x y c g=>by
   have f:=(List.getElem?_eq_some_iff.1 c).1;simp only[qfD,qj f,cond_true,qaE c,qaE g,jd,wS j])) .done)
theorem qAn{a:qY}(h:qlU a<=1048576):Ev (fun n=>qlh n a) a:=by
 unfold qlh;simp only[qlU] at h;exact Ev.bind (qsD (a:=a.Br) (by omega)) (Ev.bind (qsD (a:=a.Be) (by omega)) (.done))
theorem qzU{a:(List qY)}(h:qk7 a<=1048576):Ev (fun n=>qlK n a) a:=by
 have i:a.length<=1048576:=by simp only[qk7] at h;omega
 unfold qlK;exact Ev.bindN (qi8 (by omega)) (Ev.bind (b:=(a,(a.length:Int))) (qjG (cp:=qlh) (fun x c=>qAn (by have:=qeS (wt:=fun x:qY=>qlU x) c;simp only[qk7] at h;omega))
  (fun d n=>by simp only[qg5,ql (je _),cond_false])
  (fun d n j x y c g=>by
   have f:=(List.getElem?_eq_some_iff.1 c).1;simp only[qg5,qj f,cond_true,qaE c,qaE g,jd,wS j])) .done)
theorem qAw{a:qaA}(_:qnL a<=1048576):Ev (fun n=>qlb n a) a:=by
 unfold qlb;exact .done
theorem qzA{a:(List qaA)}(h:qkX a<=1048576):Ev (fun n=>ql1 n a) a:=by
 have i:a.length<=1048576:=by simp only[qkX] at h;omega
 unfold ql1;exact Ev.bindN (qi8 (by omega)) (Ev.bind (b:=(a,(a.length:Int))) (qjG (cp:=qlb) (fun x c=>qAw (by have:=qeS (wt:=fun x:qaA=>qnL x) c;simp only[qkX] at h;omega))
  (fun d n=>by simp only[qgZ,ql (je _),cond_false])
  (fun d n j x y c g=>by
   have f:=(List.getElem?_eq_some_iff.1 c).1;simp only[qgZ,qj f,cond_true,qaE c,qaE g,jd,wS j])) .done)
theorem qz5{a:qC}(h:qhP a<=1048576):Ev (fun n=>qjY n a) a:=by
 unfold qjY;simp only[qhP] at h;exact Ev.bind (qzA (a:=a.Bh) (by omega)) (Ev.bind (qzU (a:=a.Bc) (by omega)) (Ev.bind (qgD (a:=a.Bt) (by omega)) (.done)))
theorem qyq{a:(List qC)}(h:qiz a<=1048576):Ev (fun n=>qkK n a) a:=by
 have i:a.length<=1048576:=by simp only[qiz] at h;omega
 unfold qkK;exact Ev.bindN (qi8 (by omega)) (Ev.bind (b:=(a,(a.length:Int))) (qjG (cp:=qjY) (fun x c=>qz5 (by have:=qeS (wt:=fun x:qC=>qhP x) c;simp only[qiz] at h;omega))
  (fun d n=>by simp only[qgw,ql (je _),cond_false])
  (fun d n j x y c g=>by
   have f:=(List.getElem?_eq_some_iff.1 c).1;simp only[qgw,qj f,cond_true,qaE c,qaE g,jd,wS j])) .done)
theorem qu7{a:qn}(h:qhH a<=1048576):Ev (fun n=>qiA n a) a:=by
 unfold qiA;simp only[qhH] at h;exact Ev.bind (qyq (a:=a.Ay) (by omega)) (.done)
theorem qu0{a:qt}(h:qc0 a<=1048576):Ev (fun n=>qgj n a) a:=by
 unfold qgj;simp only[qc0] at h;exact Ev.bind (qgD (a:=a.As) (by omega)) (.done)
theorem qtL{a:(List qt)}(h:qdH a<=1048576):Ev (fun n=>qhK n a) a:=by
 have i:a.length<=1048576:=by simp only[qdH] at h;omega
 unfold qhK;exact Ev.bindN (qi8 (by omega)) (Ev.bind (b:=(a,(a.length:Int))) (qjG (cp:=qgj) (fun x c=>qu0 (by have:=qeS (wt:=fun x:qt=>qc0 x) c;simp only[qdH] at h;omega))
  (fun d n=>by simp only[qd9,ql (je _),cond_false])
  (fun d n j x y c g=>by
   have f:=(List.getElem?_eq_some_iff.1 c).1;simp only[qd9,qj f,cond_true,qaE c,qaE g,jd,wS j])) .done)
theorem qv1{a:(List ByteArray)}(h:qhB a<=1048576):Ev (fun n=>qjb n a) a:=by
 have i:a.length<=1048576:=by simp only[qhB] at h;omega
 unfold qjb;exact Ev.bindN (qi8 (by omega)) (Ev.bind (b:=(a,(a.length:Int))) (qjG (cp:=fun _ x=>V x) (fun _ _=>.done)
  (fun c n=>by simp only[qfg,ql (je _),cond_false])
  (fun c n j x y d g=>by
   have f:=(List.getElem?_eq_some_iff.1 d).1;simp only[qfg,qj f,cond_true,qaE d,qaE g,jd,wS j])) .done)
theorem qzX{a:qas}(_:qle a<=1048576):Ev (fun n=>qke n a) a:=by
 unfold qke;exact .done
theorem qyf{a:(List qas)}(h:qi5 a<=1048576):Ev (fun n=>qkA n a) a:=by
 have i:a.length<=1048576:=by simp only[qi5] at h;omega
 unfold qkA;exact Ev.bindN (qi8 (by omega)) (Ev.bind (b:=(a,(a.length:Int))) (qjG (cp:=qke) (fun x c=>qzX (by have:=qeS (wt:=fun x:qas=>qle x) c;simp only[qi5] at h;omega))
  (fun d n=>by simp only[qgq,ql (je _),cond_false])
  (fun d n j x y c g=>by
   have f:=(List.getElem?_eq_some_iff.1 c).1;simp only[qgq,qj f,cond_true,qaE c,qaE g,jd,wS j])) .done)
theorem qwN{a:qd}(h:qg6 a<=1048576):Ev (fun n=>qjR n a) a:=by
 unfold qjR;simp only[qg6] at h;exact Ev.bind (qtL (a:=a.Ab) (by omega)) (Ev.bind (qv1 (a:=a.As) (by omega)) (Ev.bind (qyf (a:=a.Ak) (by omega)) (.done)))
theorem qze{a:qZ}(h:qhN a<=1048576):Ev (fun n=>qjW n a) a:=by
 unfold qjW;simp only[qhN] at h;exact Ev.bind (qgD (a:=a.Ba) (by omega)) (Ev.bind (qgD (a:=a.Bz) (by omega)) (Ev.bind (qgD (a:=a.Bv) (by omega)) (Ev.bind (qgD (a:=a.Bn) (by omega)) (.done))))
theorem qx3{a:(List qZ)}(h:qiW a<=1048576):Ev (fun n=>qkt n a) a:=by
 have i:a.length<=1048576:=by simp only[qiW] at h;omega
 unfold qkt;exact Ev.bindN (qi8 (by omega)) (Ev.bind (b:=(a,(a.length:Int))) (qjG (cp:=qjW) (fun x c=>qze (by have:=qeS (wt:=fun x:qZ=>qhN x) c;simp only[qiW] at h;omega))
  (fun d n=>by simp only[qgv,ql (je _),cond_false])
  (fun d n j x y c g=>by
   have f:=(List.getElem?_eq_some_iff.1 c).1;simp only[qgv,qj f,cond_true,qaE c,qaE g,jd,wS j])) .done)
theorem qyE{a:qf}(h:qiH a<=1048576):Ev (fun n=>qkM n a) a:=by
 unfold qkM;simp only[qiH] at h;exact Ev.bind (qu7 (a:=a.Au) (by omega)) (Ev.bind (qwN (a:=a.Aa) (by omega)) (Ev.bind (qx3 (a:=a.Ah) (by omega)) (.done)))
end Go.Fw


namespace Go.Fw
open Go
set_option maxRecDepth 100000
theorem qcZ{n:Nat}{x lo hi:Int}:qaq n x lo hi=V (inI x lo hi):=by
 simp only[qaq,qnG,qpp];rfl
theorem qdV{n:Nat}{x lo hi:Int}:qaV n x lo hi=V (inI x lo hi):=by
 simp only[qaV,qnG,qpp];rfl
def bt(s:ByteArray)(j:Nat):Nat:=(s.data.toList.getD j 0).toNat
theorem qyW{s:ByteArray}{j:Nat}(h:j<s.size):atS s (j:Int)=V (bt s j:Int):=by
 have a:j<s.data.size:=h;have b:j<s.data.toList.length:=by simpa using a
 unfold atS;rw[if_pos (by omega),jr];have:s[j]?=V (s.data.toList.getD j 0):=by
  rw[getElem?_pos s j h,jC,jh b]
  rfl
 rw[this]
 rfl
def letB(b:Nat):Bool:=decide (97<=b)&&decide (b<=122)
def digB(b:Nat):Bool:=decide (48<=b)&&decide (b<=57)
def chB(s:ByteArray)(j:Nat):Bool:=letB (bt s j) || digB (bt s j)&&decide (0<j)
def nameB(s:ByteArray):Bool:=(decide (1<=s.size)&&decide (s.size<=8))&&allN (chB s) s.size
theorem qm5{s:ByteArray}(h:okS s):Ev (fun n=>qf5 n s) (nameB s):=by
 unfold okS at h;have d:Ev (fun n=>qd6 s n 0) (bif allN (chB s) s.size then .nxt (s.size:Int) else .ret false):=by
  refine qeK ?_ (fun j a X f=>?_)
  ·exact Ev.succ (by simp only[qd6,ql (je _),cond_false];exact .done)
  ·refine Ev.succ ?_;simp only[qd6,qj a,cond_true,qyW a,jd,qnG,qpp,wS j];have e1:(decide ((bt s j:Int)>=97)&&decide ((bt s j:Int)<=122))=letB (bt s j):=by unfold letB;rw[jm];simp;omega
   have b:(decide ((bt s j:Int)>=48)&&decide ((bt s j:Int)<=57))=digB (bt s j):=by unfold digB;rw[jm];simp;omega
   have c:decide ((j:Int) > 0)=decide (0<j):=by rw[jm];simp
   rw[e1,b,c];unfold chB;cases letB (bt s j)<;>cases digB (bt s j)<;>cases decide (0<j)<;>first|exact f|exact .done
 unfold qf5;refine Ev.cast (r:=bif allN (chB s) s.size then(decide (1<=s.size)&&decide (s.size<=8)) else false) (Ev.bindB d (fun _=>?_) (fun _=>.done)) ?_
 ·simp only[qnG,qpp];exact Ev.now (by congr 1;rw[jm];simp;omega)
 ·unfold nameB;cases allN (chB s) s.size<;>simp
def cutset:List UInt8:=[97,98,99,100,101,102,103,104,105,106,107,108,109,110,111,112,113,114,115,116,117,118,119,120,121,122,48,49,50,51,52,53,54,55,56,57]
theorem qrE(b:UInt8):cutset.contains b=(letB b.toNat || digB b.toNat):=by
 have a:(List.range 256).all (fun m=>cutset.contains (UInt8.ofNat m)==(letB (UInt8.ofNat m).toNat || digB (UInt8.ofNat m).toNat))=true:=by kernel_rfl
 have h:=List.all_eq_true.1 a b.toNat (List.mem_range.2 b.toNat_lt);rw[beq_iff_eq] at h;simpa using h
def letters:List UInt8:=[97,98,99,100,101,102,103,104,105,106,107,108,109,110,111,112,113,114,115,116,117,118,119,120,121,122]
theorem qvu(m:Nat)(b:m<256):decide ((Lib.indexByte letters m.toUInt8)>=0)=letB m:=by
 have a:(List.range 256).all (fun m=>decide ((Lib.indexByte letters m.toUInt8)>=0)==letB m)=true:=by kernel_rfl
 have h:=List.all_eq_true.1 a m (List.mem_range.2 b);rwa [beq_iff_eq] at h
theorem qss{α:Type}{p:α->Bool}{l:List α}:l.dropWhile p=[]↔∀x,x∈l->p x=true:=by
 induction l with
 |nil=>simp
 |cons y l ih=>
  rw[List.dropWhile_cons];by_cases h:p y=true
  ·rw[if_pos h,ih];simp[h]
  ·rw[if_neg h];simp[h]
theorem qsq{α:Type}{p:α->Bool}{l:List α}(h:∀x,x∈l.dropWhile p->p x=true):∀x,x∈l->p x=true:=by
 induction l with
 |nil=>simp
 |cons y l ih=>
  rw[List.dropWhile_cons] at h;by_cases b:p y=true
  ·rw[if_pos b] at h;intro x a;rcases List.mem_cons.1 a with rfl|a
   ·exact b
   ·exact ih h x a
  ·rw[if_neg b] at h;exact h
theorem qxX{l cs:List UInt8}:Lib.trimS l cs=[]↔∀x,x∈l->cs.contains x=true:=by
 unfold Lib.trimS Lib.trimRightS Lib.trimLeftS;rw[qss];constructor
 ·intro h x a;exact qsq (p:=(cs.contains ·)) (l:=l.reverse) (fun y b=>h y (List.mem_reverse.2 b)) x (List.mem_reverse.2 a)
 ·intro h x a;exact h x (List.mem_reverse.1 ((List.dropWhile_suffix _).subset (List.mem_reverse.1 a)))
theorem qhZ{a b:ByteArray}:(a.toList==b.toList)=decide (a=b):=by
 rw[jm,beq_iff_eq,decide_eq_true_iff];constructor
 ·intro h;exact ByteArray.ext (by have:=congrArg List.toArray h;simpa [ByteArray.toList_eq] using this)
 ·rintro rfl;rfl

theorem qAb{s:ByteArray}{j:Nat}(h:j<s.data.toList.length):bt s j=(s.data.toList[j]).toNat:=by
 unfold bt;rw[jC,jh h];rfl
theorem qAY{s:ByteArray}{j:Nat}:bt s j<256:=UInt8.toNat_lt _
theorem qp4{n:Nat}{s:ByteArray}(h:okS s):qis n s=V (nameB s):=by
 unfold okS at h;have z:s.data.toList.length=s.size:=by simp
 simp only[qis,qdV,jd];cases hI:inI (s.size:Int) 1 8 with
 |false=>
  have k:(decide (1<=s.size)&&decide (s.size<=8))=false:=by rw[qxa] at hI;rw[Bool.and_eq_false_iff,decide_eq_false_iff_not,decide_eq_false_iff_not];omega
  simp[nameB,k]
 |true=>
  have k:1<=s.size/\s.size<=8:=by rw[qa9] at hI;omega
  have t:qjc n s (⟨#[97,98,99,100,101,102,103,104,105,106,107,108,109,110,111,112,113,114,115,116,117,118,119,120,121,122,48,49,50,51,52,53,54,55,56,57]⟩:ByteArray)=V ⟨(Lib.trimS s.data.toList cutset).toArray⟩:=by
   unfold qjc;rw[if_pos ⟨by omega,by decide,by decide⟩]
   rfl
  rw[t];simp only[cond_true,jd];have p:(((⟨(Lib.trimS s.data.toList cutset).toArray⟩:ByteArray).toList==(⟨#[]⟩:ByteArray).toList))=allN (fun j=>letB (bt s j) || digB (bt s j)) s.size:=by
   rw[qhZ,jm,decide_eq_true_iff,qap];have:((⟨(Lib.trimS s.data.toList cutset).toArray⟩:ByteArray)=⟨#[]⟩)↔Lib.trimS s.data.toList cutset=[]:=by
    constructor
    ·intro i;have:=congrArg (fun x:ByteArray=>x.data.toList) i;simpa using this
    ·intro i;rw[i]
   rw[this,qxX];constructor
   ·intro m j a;have c:j<s.data.toList.length:=by omega
    have:=m _ (jp c);rw[qrE,<-qAb c] at this;exact this
   ·intro m x u;obtain⟨j,a,rfl⟩:=jY u;have:=m j (by omega);rw[qrE,<-qAb a];exact this
  rw[p];have o:atS s 0=V (bt s 0:Int):=qyW (j:=0) (by omega);have g:decide (Lib.indexByte letters (bt s 0:Int).toNat.toUInt8>=0)=letB (bt s 0):=by
   rw[jr];exact qvu _ qAY
  have r:∀b:Bool,(bif b then(atS s 0).bind fun y=>(qgW n (⟨#[97,98,99,100,101,102,103,104,105,106,107,108,109,110,111,112,113,114,115,116,117,118,119,120,121,122]⟩:ByteArray) (⟨y⟩:IntK .u8)).bind fun v=>V (decide (v>=0)) else V false)=V (b&&letB (bt s 0)):=by
   intro b;cases b with
   |false=>rfl
   |true=>
    rw[o];simp only[cond_true,jd,qgW,jG];exact congrArg V g
  rw[r]
  congr 1
  have l:(decide (1<=s.size)&&decide (s.size<=8))=true:=by simp[k]
  unfold nameB;rw[l,jG,jm,jf,qap,qap];simp only[chB,Bool.or_eq_true,jf,decide_eq_true_eq];constructor
  ·rintro⟨d,f⟩ j a;rcases Nat.eq_zero_or_pos j with rfl|hp
   ·exact .inl f
   ·exact(d j a).imp id (fun h=>⟨h,hp⟩)
  ·intro d;refine⟨fun j a=>(d j a).imp id (fun h=>h.1),?_⟩;rcases d 0 (by omega) with f|f
   ·exact f
   ·omega
def strAt(xs:List ByteArray)(j:Nat):ByteArray:=xs.getD j ByteArray.empty
theorem qo4{xs:List ByteArray}{j:Nat}(h:j<xs.length):strAt xs j=xs[j]:=by simp[strAt,h]
theorem qq8{xs:List ByteArray}{j:Nat}(h:j<xs.length):idx xs (j:Int)=V (strAt xs j):=by rw[qee h,qo4 h]
def neB(xs:List ByteArray)(j i:Nat):Bool:=!decide (strAt xs i=strAt xs j)
def namesB(xs:List ByteArray):Bool:=allN (fun j=>nameB (strAt xs j)&&allN (neB xs j) j) xs.length
theorem qn7{xs:List ByteArray}(h:okL okS xs):Ev (fun n=>qgE n xs) (namesB xs):=by
 have f:=h.len;have c:∀j,j<xs.length->Ev (fun n=>qen xs (j:Int) n 0) (bif allN (neB xs j) j then .nxt (j:Int) else .ret false):=by
  intro j a;refine qeK ?_ (fun i hi X d=>Ev.succ ?_)
  ·exact Ev.succ (by simp only[qen,ql (je _),cond_false];exact .done)
  ·simp only[qen,qj hi,cond_true,qq8 (show i<xs.length by omega),qq8 a,jd,qhZ,wS i];unfold neB;cases decide (strAt xs i=strAt xs j)
   ·exact d
   ·exact .done
 have b:Ev (fun n=>qet xs n 0) (bif namesB xs then .nxt (xs.length:Int) else .ret false):=by
  refine qeK ?_ (fun j a X d=>Ev.succ ?_)
  ·exact Ev.succ (by simp only[qet,ql (je _),cond_false];exact .done)
  ·simp only[qet,qj a,cond_true,qq8 a,jd,wS j];refine Ev.bind (qm5 (by rw[qo4 a];exact h.at a)) ?_;cases nameB (strAt xs j)
   ·exact .done
   ·refine Ev.ff Z (Ev.bind (c j a) ?_);cases allN (neB xs j) j
    ·exact .done
    ·exact d
 unfold qgE;refine Ev.bind b ?_;cases namesB xs<;>exact .done
theorem qun{xs:List ByteArray}{v:ByteArray}(c:xs.length<=1048576):Ev (fun n=>qfw n xs v) (ixL (fun x=>decide (v=x)) xs):=
 qgi (fin:=(xs.length:Int)) (Lf:=qb9 xs v) (pf:=fun _ x=>V (decide (v=x))) (fun _ _=>.done)
  (fun n=>by simp only[qb9,ql (je _),cond_false])
  (fun n j x a=>by
   have b:=(List.getElem?_eq_some_iff.1 a).1;simp only[qb9,qj b,cond_true,qaE a,jd,qhZ,wS j])
  (fun n=>by unfold qfw;congr 1;funext o;cases o<;>rfl)
theorem qrk{xs:List ByteArray}{v:ByteArray}(a:xs.length<=1048576):Ev (fun n=>qeh n xs v) (xs.any fun x=>decide (v=x)):=by
 unfold qeh;exact Ev.bind (qun a) (Ev.now (by rw[qoT]))
theorem qj8{xs:List ByteArray}(h:okL okS xs):Ev (fun n=>qej n xs) (namesB xs):=by
 have g:=h.len;have b:Ev (fun n=>qez xs n 0) (bif namesB xs then .nxt (xs.length:Int) else .ret false):=by
  refine qeK ?_ (fun j a X c=>Ev.succ ?_)
  ·exact Ev.succ (by simp only[qez,ql (je _),cond_false];exact .done)
  ·have f:subS xs 0 (j:Int)=V (xs.take j):=by
    unfold subS;rw[if_pos ⟨by omega,by omega,by omega⟩];simp
   simp only[qez,qj a,cond_true,qq8 a,jd,f,qp4 (show okS (strAt xs j) by rw[qo4 a];exact h.at a),wS j];cases nameB (strAt xs j)
   ·exact .done
   ·refine Ev.ff Z (Ev.bind (qrk (by simp;omega)) ?_);have:((xs.take j).any fun x=>decide (strAt xs j=x)) = !allN (neB xs j) j:=by
     rw[quz (d:=ByteArray.empty)]
     congr 1
     rw[jw,Nat.min_eq_left (by omega)];refine qim (fun i hi=>?_);unfold neB strAt
     congr 1
     have:(xs.take j).getD i ByteArray.empty=xs.getD i ByteArray.empty:=by simp[jC,hi]
     rw[this];exact decide_eq_decide.2 eq_comm
    rw[this];cases allN (neB xs j) j
    ·exact .done
    ·exact c
 unfold qej;refine Ev.bind b ?_;cases namesB xs<;>exact .done

theorem qsc{n:Nat}{x lo hi:Int}:qhI n x lo hi=V (!inI x lo hi):=by simp only[qhI,qdV,jd]
theorem qef{xs:List Int}{lo hi:Int}(d:xs.length<=1048576):Ev (fun n=>qbX n xs lo hi) (xs.all fun x=>inI x lo hi):=by
 have b:Ev (fun n=>qaZ n xs lo hi) (ixL (fun x=>!inI x lo hi) xs):=
  qgi (fin:=(xs.length:Int)) (Lf:=qaf xs lo hi) (pf:=fun _ x=>V (!inI x lo hi)) (fun _ _=>.done)
   (fun n=>by simp only[qaf,ql (je _),cond_false])
   (fun n j x a=>by
    have c:=(List.getElem?_eq_some_iff.1 a).1;simp only[qaf,qj c,cond_true,qaE a,jd,qsc,wS j])
   (fun n=>by unfold qaZ;congr 1;funext o;cases o<;>rfl)
 unfold qbX qbA;refine Ev.bind (Ev.bind b (Ev.now Z)) (Ev.now ?_);rw[qoT,qrd]
def stepB(xs:List Int)(j:Nat):Bool:=decide (j=0) || decide (at0 xs (j-1)<at0 xs j)
def incB(xs:List Int):Bool:=allN (stepB xs) xs.length
theorem qnh{xs:List Int}(m:xs.length<=1048576):Ev (fun n=>qfa n xs) (incB xs):=by
 have g:Ev (fun n=>qbv xs n 1) (bif incB xs then .nxt (max 1 xs.length:Int) else .ret false):=by
  by_cases b:xs.length=0
  ·have k:incB xs=true:=by unfold incB;rw[b];rfl
   rw[k];refine Ev.succ ?_;have:decide ((1:Int)<(xs.length:Int))=false:=by rw[b];decide
   simp only[qbv,this,cond_false];exact Ev.now (by rw[b];rfl)
  ·have:=qv9 (Lf:=qbv xs) (len:=xs.length) (i0:=1) (f:=stepB xs) (bad:=false) (fin:=.nxt (max 1 xs.length:Int)) (by omega)
    (Ev.succ (by
     simp only[qbv,ql (je _),cond_false];exact Ev.now (by congr 2;omega)))
    (fun j l a X i=>Ev.succ (by
     simp only[qbv,qj a,cond_true,wS j,show(j:Int)-1=((j-1:Nat):Int) by omega,qaw (show -9223372036854775808<=((j-1:Nat):Int) by omega) (by omega),qan (show j-1<xs.length by omega),qan a,jd];unfold stepB;by_cases c:at0 xs (j-1)<at0 xs j
     ·have e1:decide (at0 xs (j-1)>=at0 xs j)=false:=by simp;omega
      rw[e1];simp only[c,decide_true,Bool.or_true,cond_true,cond_false];exact i
     ·have e1:decide (at0 xs (j-1)>=at0 xs j)=true:=by simp;omega
      have d:decide (j=0)=false:=by simp;omega
      rw[e1,d];simp only[c,decide_false,Bool.or_self,cond_true,cond_false];exact .done))
   have e:allN (fun j=>stepB xs (1+j)) (xs.length-1)=incB xs:=by
    unfold incB;rw[jm,qap,qap];constructor
    ·intro h j a;cases j with
     |zero=>rfl
     |succ j=>have:=h j (by omega);rwa [Nat.add_comm] at this
    ·intro h j a;exact h (1+j) (by omega)
   rw[e] at this;exact this
 unfold qfa;refine Ev.bind g ?_;cases incB xs<;>exact .done
def lenB{α:Type}(xs:List α)(lo hi:Nat):Bool:=decide (lo<=xs.length)&&decide (xs.length<=hi)
theorem qtd{α:Type}{xs:List α}{lo hi:Nat}:inI (xs.length:Int) (lo:Int) (hi:Int)=lenB xs lo hi:=by
 unfold inI lenB;rw[jm];simp
def axisB(xs:List Int):Bool:=lenB xs 1 4&&((xs.all fun x=>inI x 0 100000)&&incB xs)
theorem qsR{xs:List Int}(a:xs.length<=1048576):Ev (fun n=>qjV n xs) (axisB xs):=by
 simp only[qjV,qbt,jd,qdV,show inI (xs.length:Int) 1 4=lenB xs 1 4 from qtd (lo:=1) (hi:=4)];unfold axisB;cases lenB xs 1 4
 ·exact .done
 ·refine Ev.tt Z (Ev.bind (qef a) ?_);cases (xs.all fun x=>inI x 0 100000)
  ·exact .done
  ·exact Ev.tt Z (Ev.bind (qnh a) .done)
theorem qrl{xs:List Int}(k:xs.length<=1048576):Ev (fun n=>qiG n xs) (axisB xs):=by
 have i:Ev (fun n=>qd7 xs n 0) (bif allN (fun j=>inI (at0 xs j) 0 100000&&stepB xs j) xs.length then .nxt (xs.length:Int) else .ret false):=by
  refine qeK ?_ (fun j c X a=>Ev.succ ?_)
  ·exact Ev.succ (by simp only[qd7,ql (je _),cond_false];exact .done)
  ·simp only[qd7,qj c,cond_true,qan c,jd,qcZ,wS j];cases inI (at0 xs j) 0 100000
   ·exact .done
   ·simp only[Jg,cond_false,jG];unfold stepB;by_cases h:j=0
    ·subst h;exact Ev.ff (by decide) a
    ·simp only[show(j:Int)-1=((j-1:Nat):Int) by omega,qaw (show -9223372036854775808<=((j-1:Nat):Int) by omega) (by omega),qan (show j-1<xs.length by omega),jd];have f:decide (j=0)=false:=by simp;omega
     have g:decide ((j:Int) > 0)=true:=by simp;omega
     rw[f,g];simp only[cond_true,Bool.false_or];by_cases b:at0 xs (j-1)<at0 xs j
     ·have e1:decide (at0 xs (j-1)>=at0 xs j)=false:=by simp;omega
      rw[e1];simp only[b,decide_true,cond_true,cond_false];exact a
     ·have e1:decide (at0 xs (j-1)>=at0 xs j)=true:=by simp;omega
      rw[e1];simp only[b,decide_false,cond_true,cond_false];exact .done
 have e:axisB xs=(allN (fun j=>inI (at0 xs j) 0 100000&&stepB xs j) xs.length&&lenB xs 1 4):=by
  unfold axisB incB;rw[qmm,qhd (d:=0),Bool.and_comm]
  rfl
 rw[e];unfold qiG;refine Ev.bind i ?_;cases allN (fun j=>inI (at0 xs j) 0 100000&&stepB xs j) xs.length
 ·exact .done
 ·simp only[cond_true,qnG,qpp,jG];exact Ev.now (by congr 1;unfold lenB;rw[jm];simp;omega)
def tableB(t:qy):Bool:=axisB t.Bo&&(axisB t.Bk&&(decide (t.Bj.length=t.Bo.length*t.Bk.length)&&(t.Bj.all fun x=>inI x (-1000000) 1000000)))
theorem qwh{a b:Nat}(c:a<=1048576)(d:b<=1048576):W64 ((a:Int)*(b:Int))=((a*b:Nat):Int):=by
 have h:a*b<=1048576*1048576:=Nat.mul_le_mul c d;have e:(a:Int)*(b:Int)=((a*b:Nat):Int):=by simp
 rw[e];exact qaw (by omega) (by omega)
theorem qu5{t:qy}(h:qjd t):Ev (fun n=>qku n t) (tableB t):=by
 unfold qku tableB;refine Ev.bind (qsR h.Bo.len) ?_;cases axisB t.Bo
 ·exact .done
 ·refine Ev.tt Z (Ev.bind (qsR h.Bk.len) ?_);cases axisB t.Bk
  ·exact .done
  ·rw[qwh h.Bo.len h.Bk.len];have e:(((t.Bj.length:Nat):Int)==((t.Bo.length*t.Bk.length:Nat):Int))=decide (t.Bj.length=t.Bo.length*t.Bk.length):=by rw[jm];simp;omega
   rw[e];cases decide (t.Bj.length=t.Bo.length*t.Bk.length)
   ·exact .done
   ·exact Ev.tt Z (Ev.tt Z (Ev.bind (qef h.Bj.len) .done))
theorem quP{t:qy}(h:qjd t):Ev (fun n=>qkw n t) (tableB t):=by
 have f:=h.Bj.len;have c:Ev (fun n=>qeW t n 0) (bif (t.Bj.all fun x=>inI x (-1000000) 1000000) then .nxt (t.Bj.length:Int) else .ret false):=
  qpo (fun n=>by simp only[qeW,ql (je _),cond_false]) (fun j a X d=>by
   simp only[qeW,qj a,cond_true,qee a,jd,qcZ,wS j];cases inI t.Bj[j] (-1000000) 1000000
   ·exact .done
   ·exact d)
 unfold qkw tableB;refine Ev.bind (b:=!(axisB t.Bo&&(axisB t.Bk&&decide (t.Bj.length=t.Bo.length*t.Bk.length)))) ?_ ?_
 ·refine Ev.bind (qrl h.Bo.len) ?_;cases axisB t.Bo
  ·exact .done
  ·refine Ev.ff Z (Ev.bind (qrl h.Bk.len) ?_);cases axisB t.Bk
   ·exact .done
   ·refine Ev.ff Z (Ev.now ?_);rw[qwh h.Bo.len h.Bk.len]
    congr 1
    rw[jm];simp;omega
 ·cases axisB t.Bo
  ·exact .done
  ·cases axisB t.Bk
   ·exact .done
   ·cases decide (t.Bj.length=t.Bo.length*t.Bk.length)
    ·exact .done
    ·refine Ev.ff Z (Ev.bind c ?_);cases (t.Bj.all fun x=>inI x (-1000000) 1000000)<;>exact .done

instance:Inhabited qaA:=⟨⟨ByteArray.empty,0,0,false⟩⟩
instance:Inhabited qy:=⟨⟨[],[],[]⟩⟩
instance:Inhabited qY:=⟨⟨0,0,0,0,[],[]⟩⟩
instance:Inhabited qC:=⟨⟨ByteArray.empty,0,[],[],[],0,0⟩⟩
instance:Inhabited qt:=⟨⟨ByteArray.empty,0,[]⟩⟩
instance:Inhabited qas:=⟨⟨ByteArray.empty,0,0⟩⟩
instance:Inhabited qZ:=⟨⟨[],[],[],[]⟩⟩
theorem lastE{j m:Nat}(h:j<m)(a:m<=1048576):((j:Int)==W64 ((m:Int)-1))=decide (j+1=m):=by
 rcases qzk h with h|h
 ·exact h
 ·omega
theorem qkU{α:Type}[Inhabited α]{xs:List α}{g:α->ByteArray}{j:Nat}(h:j<xs.length):strAt (xs.map g) j=g (gt xs j):=by
 rw[qo4 (by simpa using h),qcw h];simp
theorem qom{α:Type}{xs:List α}{g:α->ByteArray}{ok:α->Prop}(h:okL ok xs)(a:∀x,ok x->okS (g x)):okL okS (xs.map g):=
 ⟨by rw[ju];exact h.1,fun y c=>by
  obtain⟨x,b,rfl⟩:=List.mem_map.1 c;exact a x (h.2 x b)⟩
theorem qmg{α β:Type}{xs:List α}{g:α->β}{j:Nat}(h:j<xs.length)(a:xs.length<=1048576){y:β}:appS ((xs.take j).map g) [y]=V ((xs.take j).map g++[y]):=
 qbd (by simp;omega)
def pinB(ps:List qaA)(j:Nat):Bool:=
 bif decide (j+1=ps.length) then((gt ps j).Bx==2)&&(((gt ps j).Bv==0)&&!(gt ps j).Bs) else((gt ps j).Bx==1)&&inI (gt ps j).Bv 0 500
def pinsB(ps:List qaA):Bool:=allN (pinB ps) ps.length&&(lenB ps 2 5&&namesB (ps.map qaA.Bd))
def clkN(ps:List qaA)(j:Nat):Nat:=cntP (fun i=>(gt ps i).Bs) j
theorem qvt{ps:List qaA}(h:okL qod ps):Ev (fun n=>qkC n ps) (pinsB ps):=by
 have i:=h.len;have l:Ev (fun n=>qc9 ps n ([]:List ByteArray) 0) (bif allN (pinB ps) ps.length then .nxt (ps.map qaA.Bd,(ps.length:Int)) else .ret false):=by
  refine loopN (Lf:=qc9 ps) (S:=fun j=>(ps.take j).map qaA.Bd) (pinB ps) (fun n=>?_) (fun j a o X f=>?_)
  ·simp only[qc9,ql (je _),cond_false,jE]
  ·simp only[qc9,qj a,cond_true,qz a,jd,qmg a i,qf8 (g:=qaA.Bd) a,lastE a i,bne,qdg,qdV,wS j];generalize hc:pinB ps j=c at f⊢;unfold pinB at hc;cases hd:decide (j+1=ps.length)
   ·rw[hd] at hc;simp only[cond_false] at hc⊢;subst hc;exact Ev.okP (fun b=>Ev.okP1 (fun d=>f (by rw[b,d];rfl)))
   ·rw[hd] at hc;simp only[cond_true] at hc⊢;subst hc;refine Ev.okP (fun b=>Ev.okP (fun d=>Ev.chkP1 (fun k=>f (by rw[b,d,k];rfl))))
 unfold qkC pinsB;refine Ev.bind l ?_;cases allN (pinB ps) ps.length
 ·exact .done
 ·simp only[cond_true,qcC,qdV,jd,show inI (ps.length:Int) 2 5=lenB ps 2 5 from qtd (lo:=2) (hi:=5),jG];exact Ev.andP (fun _=>Ev.last (qj8 (qom h (fun x m=>m.Bd))))
def pinS(ps:List qaA)(j:Nat):Bool:=allN (neB (ps.map qaA.Bd) j) j&&((nameB (gt ps j).Bd&&inI (gt ps j).Bv 0 500)&&(bif decide (j+1=ps.length) then((gt ps j).Bx==2)&&(((gt ps j).Bv==0)&&!(gt ps j).Bs) else((gt ps j).Bx==1)))
theorem qzC{ps:List qaA}:(lenB ps 2 5&&allN (pinS ps) ps.length)=pinsB ps:=by
 have e:namesB (ps.map qaA.Bd)=allN (fun j=>nameB (gt ps j).Bd&&allN (neB (ps.map qaA.Bd) j) j) ps.length:=by
  unfold namesB;rw[ju];exact qim (fun j a=>by rw[qkU a])
 unfold pinsB;rw[e,<-Bool.and_assoc,Bool.and_comm (allN (pinB ps) ps.length),Bool.and_assoc,<-qmm]
 congr 1
 refine qim (fun j a=>?_);unfold pinS pinB;cases hd:decide (j+1=ps.length)
 ·simp only[cond_false];cases allN (neB (ps.map qaA.Bd) j) j<;>cases nameB (gt ps j).Bd<;>cases inI (gt ps j).Bv 0 500<;>cases ((gt ps j).Bx==1)<;>rfl
 ·simp only[cond_true];cases hcap:((gt ps j).Bv==0)
  ·simp
  ·have:inI (gt ps j).Bv 0 500=true:=by rw[beq_iff_eq] at hcap;rw[hcap];rfl
   rw[this];cases allN (neB (ps.map qaA.Bd) j) j<;>cases nameB (gt ps j).Bd<;>cases ((gt ps j).Bx==2)<;>cases (gt ps j).Bs<;>rfl
theorem qvz{c:qC}(h:okL qod c.Bh):Ev (fun n=>qkO n c) (bif pinsB c.Bh then(((clkN c.Bh c.Bh.length:Nat):Int),true) else(0,false)):=by
 have s:=h.len;have l:∀j,j<c.Bh.length->Ev (fun n=>qeU c (j:Int) (gt c.Bh j) n 0) (bif allN (neB (c.Bh.map qaA.Bd) j) j then .nxt (j:Int) else .ret (0,false)):=by
  intro j b;refine qeK ?_ (fun i hi X a=>Ev.succ ?_)
  ·exact Ev.succ (by simp only[qeU,ql (je _),cond_false];exact .done)
  ·simp only[qeU,qj hi,cond_true,qz (show i<c.Bh.length by omega),jd,qhZ,wS i];unfold neB;rw[qkU (g:=qaA.Bd) (show i<c.Bh.length by omega),qkU (g:=qaA.Bd) b];exact Ev.chkP1 (fun _=>a)
 have k:Ev (fun n=>qc6 c n 0 0) (bif allN (pinS c.Bh) c.Bh.length then .nxt (((clkN c.Bh c.Bh.length:Nat):Int),(c.Bh.length:Int)) else .ret (0,false)):=by
  refine loopN (Lf:=qc6 c) (S:=fun j=>((clkN c.Bh j:Nat):Int)) (pinS c.Bh) (fun n=>?_) (fun j b u X a=>?_)
  ·simp only[qc6,ql (je _),cond_false]
  ·have t:clkN c.Bh j<=j:=qf6;have d:((j:Int)==W64 ((c.Bh.length:Int)-1))=decide (j+1=c.Bh.length):=lastE b s;have f:decide ((j:Int)<W64 ((c.Bh.length:Int)-1)) = !decide (j+1=c.Bh.length):=by
    rw[qaw (by omega) (by omega),jm];simp;omega
   simp only[qc6,qj b,cond_true,qz b,jd,wS j,qi3 (show clkN c.Bh j<9223372036854775807 by omega),d,f,qcZ];unfold pinS;refine Ev.bind (l j b) ?_;cases ha:allN (neB (c.Bh.map qaA.Bd) j) j
   ·exact .done
   ·simp only[cond_true,jG];refine Ev.chkT ?_ (fun o=>?_)
    ·exact Ev.or (qm5 (qoh h b).Bd) (fun _=>.done)
    ·refine Ev.chkT1 ?_ (fun r=>?_)
     ·cases decide (j+1=c.Bh.length)
      ·exact .done
      ·simp only[cond_true,Jg,cond_false,bne,qdg];cases ((gt c.Bh j).Bx==2)<;>cases ((gt c.Bh j).Bv==0)<;>cases (gt c.Bh j).Bs<;>exact .done
     ·have a:=a (by unfold pinS;rw[ha,o,r];rfl);have m:clkN c.Bh (j+1)=clkN c.Bh j+(bif (gt c.Bh j).Bs then 1 else 0):=rfl;rw[m] at a;cases hc:(gt c.Bh j).Bs
      ·rw[hc] at a;exact Ev.ff Z a
      ·rw[hc] at a;exact Ev.tt Z a
 rw[<-qzC];unfold qkO;refine Ev.guard ?_ (fun o=>?_)
 ·unfold lenB;have e1:decide ((c.Bh.length:Int)<2) = !decide (2<=c.Bh.length):=by rw[jm];simp;omega
  have p:decide ((c.Bh.length:Int) > 5) = !decide (c.Bh.length<=5):=by rw[jm];simp;omega
  rw[e1,p];cases decide (2<=c.Bh.length)<;>cases decide (c.Bh.length<=5)<;>exact .done
 ·refine Ev.bind k ?_;cases allN (pinS c.Bh) c.Bh.length<;>exact .done
def mnL(xs:List Int):Int:=(xs.drop 1).foldl (fun m y=>if y<m then y else m) (at0 xs 0)
def mxL(xs:List Int):Int:=(xs.drop 1).foldl (fun m y=>if y > m then y else m) (at0 xs 0)
theorem qrO{t:qy}(h:tableB t=true):1<=t.Bj.length:=by
 unfold tableB axisB lenB at h;simp only[jf,decide_eq_true_eq] at h;obtain⟨⟨⟨a,_⟩,_⟩,⟨⟨b,_⟩,_⟩,c,_⟩:=h;rw[c];exact Nat.mul_pos a b
theorem qzH{xs:List Int}(b:1<=xs.length)(f:xs.length<=1048576):Ev (fun n=>qhC n xs) (mnL xs):=by
 have c:=(qqe (Lf:=fun n t j=>qc3 xs n t j) (xs:=xs) (step:=fun(m y:Int)=>if y<m then y else m) (fin:=fun t=>(t,(xs.length:Int))) 1 (at0 xs 0) (fun _ _=>True) b trivial (fun _ _ _ _=>trivial)
  (fun n t=>by simp only[qc3,ql (je _),cond_false])
  (fun j t a _ X d=>by simpa only[qc3,qj a,cond_true,qee a,jd,wS j] using d)).1
 unfold qhC;rw[show decide ((xs.length:Int)<1)=false by simp;omega,show idx xs (0:Int)=V (at0 xs 0) from qan (j:=0) (by omega)];simp only[cond_false,jd];exact Ev.bind c .done
theorem qv0{t:qy}(h:qjd t):Ev (fun n=>qhA n t) (bif tableB t then(⟨mnL t.Bj,mxL t.Bj⟩,0) else(⟨0,0⟩,1)):=by
 unfold qhA;refine Ev.chk1 (quP h) (fun l=>?_);have i:=qrO l;have p:=h.Bj.len;have f:=(qqe (Lf:=fun n (d:Int×Int) j=>qc1 t n d.1 d.2 j) (xs:=t.Bj) (step:=fun(m:Int×Int) y=>(if y<m.1 then y else m.1,if y > m.2 then y else m.2)) (fin:=fun d=>(d.1,d.2,(t.Bj.length:Int))) 1 (at0 t.Bj 0,at0 t.Bj 0) (fun _ _=>True) i trivial (fun _ _ _ _=>trivial)
  (fun n t=>by simp only[qc1,ql (je _),cond_false])
  (fun j t g _ X k=>by simpa only[qc1,qj g,cond_true,qee g,jd,wS j] using k)).1
 have o:∀(c:List Int) (a b:Int),c.foldl (fun(m:Int×Int) y=>(if y<m.1 then y else m.1,if y > m.2 then y else m.2)) (a,b)=(c.foldl (fun m y=>if y<m then y else m) a,c.foldl (fun m y=>if y > m then y else m) b):=by
  intro c
  induction c with
  |nil=>intro a b;rfl
  |cons y c ih=>intro a b;simp only[List.foldl_cons,ih]
 rw[o] at f;rw[show idx t.Bj (0:Int)=V (at0 t.Bj 0) from qan (j:=0) (by omega)];simp only[jd];exact Ev.bind f .done
def tabB(pos:Bool)(t:qy):Bool:=tableB t&&(!pos || decide (0<=mnL t.Bj))
def tablesB(a:List qy)(pos:Bool):Bool:=decide (a.length=2)&&a.all (tabB pos)
theorem qm0{a:List qy}{pos:Bool}(h:okL qjd a):Ev (fun n=>qfO n a pos) (tablesB a pos):=by
 have g:=h.len;have c:Ev (fun n=>qaI n a pos) (ixL (fun x=>!tabB pos x) a):=
  qgi (fin:=(a.length:Int)) (Lf:=qS a pos) (pf:=fun n x=>qhs n x pos) (fun x b=>by
    unfold qhs tabB;refine Ev.or (qu5 (h.2 x b)) (fun d=>?_);cases pos
    ·exact .done
    ·refine Ev.tt Z (Ev.bind (qzH (qrO d) (h.2 x b).Bj.len) (Ev.now ?_))
     congr 1
     rw[jm];simp)
   (fun n=>by simp only[qS,ql (je _),cond_false])
   (fun n j x b=>by
    have f:=(List.getElem?_eq_some_iff.1 b).1;simp only[qS,qj f,cond_true,qaE b,jd,wS j])
   (fun n=>by unfold qaI;congr 1;funext o;cases o<;>rfl)
 unfold qfO qa5 tablesB;rw[show((a.length:Int)==2)=decide (a.length=2) by rw[jm];simp;omega];refine Ev.andP (fun _=>Ev.bind (Ev.bind c (Ev.now Z)) (Ev.now ?_));rw[qoT,qrd]
theorem qje{a:List qy}{pos:Bool}(h:okL qjd a):Ev (fun n=>qdC n a pos) (tablesB a pos):=by
 unfold qdC tablesB;rw[show((a.length:Int) != 2) = !decide (a.length=2) by rw[jm];simp;omega];simp only[qdg];refine Ev.andP (fun b=>?_);have b:a.length=2:=by simpa using b
 have f:Ev (fun n=>qcX a pos n 0) (bif allN (fun j=>tabB pos (gt a j)) a.length then .nxt (2:Int) else .ret false):=by
  refine qeK (len:=a.length) ?_ (fun j d X c=>Ev.succ ?_)
  ·rw[b];exact Ev.succ (by simp only[qcX];exact .done)
  ·simp only[qcX,show decide ((j:Int)<2)=true by simp;omega,cond_true,qz d,jd,wS j];refine Ev.bind (qv0 (qoh h d)) ?_;unfold tabB;cases tableB (gt a j)
   ·exact .done
   ·simp only[cond_true,jG];refine Ev.ff Z ?_;cases pos
    ·exact c
    ·refine Ev.tt Z ?_;rw[show decide (mnL (gt a j).Bj<0) = !decide (0<=mnL (gt a j).Bj) by rw[jm];simp];simp only[qdg];exact Ev.okP1 (fun _=>c)
 rw[qi2];refine Ev.bind f ?_;cases allN (fun j=>tabB pos (gt a j)) a.length<;>exact .done

theorem qfW{α:Type}[Inhabited α]{xs:List α}{x:Int}(a:0<=x)(b:x<xs.length):idx xs x=V (gt xs x.toNat):=by
  have:=qz (xs:=xs) (j:=x.toNat) (by omega);rwa [<-qfM a] at this
theorem qsH{q:Nat->Bool}{m n:Nat}(h:m<=n):cntP q m<=cntP q n:=by
  induction n with
  |zero=>
    obtain rfl:m=0:=by omega
    exact je _
  |succ n ih=>
    rcases Nat.lt_or_eq_of_le h with h|rfl
    · exact jX (ih (by omega)) (Nat.le_add_right _ _)
    · exact je _
theorem qor{m k:Nat}:decide ((m:Int)<=(k:Int))=decide (m<=k):=by rw[jm];simp
theorem quw{q:Nat->Bool}{n i j:Nat}(hi:i<j)(d:j<n)(a:q i=true)(b:q j=true):2<=cntP q n:=by
  have e1:cntP q (i+1)=cntP q i+1:=by rw[cntP,a];rfl
  have c:cntP q (j+1)=cntP q j+1:=by rw[cntP,b];rfl
  have f:=qsH (q:=q) (show i+1<=j by omega);have g:=qsH (q:=q) (show j+1<=n by omega);omega
theorem qul{q:Nat->Bool}{n i j:Nat}(d:cntP q n<=1)(hi:i<n)(c:j<n)(a:q i=true)(b:q j=true):i=j:=by
  rcases Nat.lt_trichotomy i j with h|h|h
  · have:=quw h c a b;omega
  · exact h
  · have:=quw h hi b a;omega
def clkIx(ps:List qaA):Int:=ixL (fun p=>p.Bs) ps
def clkAt(ps:List qaA)(x:Int):Bool:=(gt ps x.toNat).Bs
theorem qyC{c:qC}(f:c.Bh.length<=1048576):Ev (fun n=>qic n c) (clkIx c.Bh):=by
  unfold qic;refine Ev.bind (b:=clkIx c.Bh) ?_ .done;exact qgi (fin:=(c.Bh.length:Int)) (Lf:=qX c.Bh) (pf:=fun n x=>qjf n x) (fun _ _=>.done)
    (fun n=>by simp only[qX,ql (je _),cond_false])
    (fun n j x a=>by
      have d:=(List.getElem?_eq_some_iff.1 a).1;simp only[qX,qj d,cond_true,qaE a,jd,wS j])
    (fun n=>by unfold qbu;congr 1;funext o;cases o<;>rfl)
def arcI(ps:List qaA)(a:qY):Bool:=
  bif (a.Bi==4) || (a.Bi==5) then
    (a.Bp==0)&&(((a.Be.length:Int)==0)&&(tablesB a.Br false&&((a.Bl==clkIx ps)&&(decide (a.Bl>=0)&&(inI a.To 0 (ps.length-2)&&!(a.To==a.Bl))))))
  else
    (tablesB a.Br true&&(tablesB a.Be true&&((a.To==(ps.length:Int)-1)&&inI a.Bl 0 (ps.length-2)))) &&
      (bif a.Bi==1 then !clkAt ps a.Bl&&inI a.Bp 1 3 else(bif (a.Bi==2) || (a.Bi==3) then clkAt ps a.Bl&&(a.Bp==0) else false))
def arcS(ps:List qaA)(a:qY):Bool:=
  (inI a.Bl 0 (ps.length-2)&&inI a.To 0 (ps.length-1)) &&
    (bif a.Bi==1 then !clkAt ps a.Bl&&((a.To==(ps.length:Int)-1)&&(inI a.Bp 1 3&&(tablesB a.Br true&&tablesB a.Be true)))
     else(bif (a.Bi==2) || (a.Bi==3) then clkAt ps a.Bl&&((a.To==(ps.length:Int)-1)&&((a.Bp==0)&&(tablesB a.Br true&&tablesB a.Be true)))
     else(bif (a.Bi==4) || (a.Bi==5) then clkAt ps a.Bl&&(decide (a.To<(ps.length:Int)-1)&&(!clkAt ps a.To&&((a.Bp==0)&&(tablesB a.Br false&&((a.Be.length:Int)==0))))) else false)))
theorem qqp{c d:Bool}:(bif c then V c else V d)=V (c || d):=by cases c<;>rfl
theorem quD{c d:Bool}:(bif c then V true else V d)=V (c || d):=by cases c<;>rfl
theorem qv6{n:Nat}{k:Int}:qkx n k=V ((k==4) || (k==5)):=by simp only[qkx,quD]
theorem qyI{c:qC}{a:qY}(h:okL qod c.Bh)(b:qoW a)(k:2<=c.Bh.length):Ev (fun n=>qih n c a) (arcI c.Bh a):=by
  have i:=h.len;have e1:W64 ((c.Bh.length:Int)-1)=(c.Bh.length:Int)-1:=qfh (by omega);have f:W64 ((c.Bh.length:Int)-1-1)=(c.Bh.length:Int)-2:=by rw[qaw (by omega) (by omega)];omega
  simp only[qih,qv6,jd,qgP,qes,qcC,e1,f,qdV,qqp,bne];unfold arcI;refine Ev.iff (fun _=>Ev.last ?_) (fun _=>Ev.guardB ?_ (fun d=>?_))
  · exact Ev.andP fun _=>Ev.andP fun _=>Ev.and (qm0 b.Br) fun _=>Ev.bind (qyC i) (Ev.andP fun _=>Ev.andP fun _=>Ev.andP fun _=>.done)
  · refine Ev.or (qm0 b.Br) fun _=>Ev.or (qm0 b.Be) fun _=>?_
    simp only[qdg];exact Ev.orBP fun _=>.done
  · have g:0<=a.Bl/\a.Bl<=(c.Bh.length:Int)-2:=by
      simp only[jf,qa9] at d;exact d.2.2.2
    simp only[qfW g.1 (show a.Bl<(c.Bh.length:Int) by omega),jd];exact Ev.iff (fun _=>Ev.andP fun _=>.done) (fun _=>Ev.iff (fun _=>Ev.andP fun _=>.done) (fun _=>.done))
theorem qxt{c:qC}{a:qY}(h:okL qod c.Bh)(b:qoW a)(k:2<=c.Bh.length):Ev (fun n=>qlO n c a) (arcS c.Bh a):=by
  have i:=h.len;have e1:W64 ((c.Bh.length:Int)-1)=(c.Bh.length:Int)-1:=qfh (by omega);have g:W64 ((c.Bh.length:Int)-1-1)=(c.Bh.length:Int)-2:=by rw[qaw (by omega) (by omega)];omega
  simp only[qlO,jd,e1,g,qcZ,qqp];unfold arcS;refine Ev.guardB ?_ (fun d=>?_)
  · simp only[qdg]
    exact Ev.orBP fun _=>.done
  · have f:(0<=a.Bl/\a.Bl<=(c.Bh.length:Int)-2)/\(0<=a.To/\a.To<=(c.Bh.length:Int)-1):=by
      simp only[jf,qa9] at d;exact d
    simp only[qfW f.1.1 (show a.Bl<(c.Bh.length:Int) by omega),qfW f.2.1 (show a.To<(c.Bh.length:Int) by omega),jd];refine Ev.iff (fun _=>?_) (fun _=>Ev.iff (fun _=>?_) (fun _=>Ev.iff (fun _=>?_) (fun _=>.done)))
    · exact Ev.andP fun _=>Ev.andP fun _=>Ev.andP fun _=>Ev.and (qje b.Br) fun _=>Ev.last (qje b.Be)
    · exact Ev.andP fun _=>Ev.andP fun _=>Ev.andP fun _=>Ev.and (qje b.Br) fun _=>Ev.last (qje b.Be)
    · exact Ev.andP fun _=>Ev.andP fun _=>Ev.andP fun _=>Ev.andP fun _=>Ev.and (qje b.Br) fun _=>.done
theorem qqg{ps:List qaA}(f:clkN ps ps.length<=1){x:Int}(k:0<=x):clkIx ps=x↔x<ps.length/\clkAt ps x=true:=by
  unfold clkIx ixL;cases hf:ps.findIdx? (fun p=>p.Bs) with
  |some j=>
    obtain⟨d,i,_⟩:=List.findIdx?_eq_some_iff_getElem.1 hf;have b:(gt ps j).Bs=true:=by rw[qcw d];exact i
    constructor
    · intro e
      have e:(j:Int)=x:=e;subst e;exact⟨by omega,by unfold clkAt;rw[jr];exact b⟩
    · rintro⟨g,a⟩
      have:=qul f d (show x.toNat<ps.length by omega) b a;show(j:Int)=x;omega
  |none=>
    have h:=List.findIdx?_eq_none_iff.1 hf;constructor
    · intro e
      have e:(-1:Int)=x:=e;omega
    · rintro⟨g,a⟩
      have c:x.toNat<ps.length:=by omega
      unfold clkAt at a;rw[qcw c] at a;have:=h _ (jp c);rw[a] at this;exact absurd this (by decide)
theorem qhj{ps:List qaA}(h:pinsB ps=true):(2<=ps.length/\ps.length<=5)/\clkAt ps ((ps.length:Int)-1)=false:=by
  unfold pinsB lenB at h;simp only[jf,decide_eq_true_eq] at h;refine⟨h.2.1,?_⟩;have a:=qap.1 h.1 (ps.length-1) (by omega);unfold pinB at a;rw[show decide (ps.length-1+1=ps.length)=true by simp;omega] at a;simp only[cond_true,jf,jI] at a;unfold clkAt;rw[show((ps.length:Int)-1).toNat=ps.length-1 by omega];exact a.2.2
theorem qyB{ps:List qaA}{a:qY}(h:pinsB ps=true)(b:clkN ps ps.length<=1):arcI ps a=arcS ps a:=by
  obtain⟨⟨D,z⟩,l⟩:=qhj h;rw[jm];unfold arcI arcS;cases h45:((a.Bi==4) || (a.Bi==5)) with
  |true=>
    have B:(a.Bi==1)=false:=by simp at h45⊢;omega
    have u:((a.Bi==2) || (a.Bi==3))=false:=by simp at h45⊢;omega
    rw[B,u];simp only[cond_true,cond_false,jf,qa9,decide_eq_true_eq,beq_iff_eq,jI,beq_eq_false_iff_ne,ne_eq];constructor
    · rintro⟨t,m,s,p,o,r,A⟩
      obtain⟨C,n⟩:=(qqg b o).1 p.symm;have x:a.Bl≠(ps.length:Int)-1:=by intro e;rw[e,l] at n;cases n
      refine⟨⟨⟨o,by omega⟩,⟨r.1,by omega⟩⟩,n,by omega,?_,t,s,m⟩;cases c:clkAt ps a.To with
      |false=>rfl
      |true=>
        have:=(qqg b r.1).2 ⟨by omega,c⟩;omega
    · rintro⟨⟨p,r⟩,n,y,c,t,s,m⟩
      have:=(qqg b p.1).2 ⟨by omega,n⟩;refine⟨t,m,s,this.symm,p.1,⟨r.1,by omega⟩,?_⟩;intro e;rw[e,n] at c;cases c
  |false=>
    simp only[cond_false,jf,qa9,beq_iff_eq];cases (a.Bi==1)
    · cases ((a.Bi==2) || (a.Bi==3))
      · simp
      · simp only[cond_true,cond_false,jf,beq_iff_eq]
        constructor
        · rintro⟨⟨b,d,f,g⟩,i,k⟩
          exact⟨⟨g,by omega⟩,i,f,k,b,d⟩
        · rintro⟨⟨g,v⟩,i,f,k,b,d⟩
          exact⟨⟨b,d,f,g⟩,i,k⟩
    · simp only[cond_true,jf,qa9,jI,beq_iff_eq]
      constructor
      · rintro⟨⟨b,d,f,g⟩,i,k⟩
        exact⟨⟨g,by omega⟩,i,f,k,b,d⟩
      · rintro⟨⟨g,v⟩,i,f,k,b,d⟩
        exact⟨⟨b,d,f,g⟩,i,k⟩
theorem qsA{ps:List qaA}{a:qY}(h:arcS ps a=true):1<=a.Bi/\a.Bi<=5:=by
  unfold arcS at h;rw[jf] at h;have h:=h.2;cases h1:(a.Bi==1)
  · cases h2:((a.Bi==2) || (a.Bi==3))
    · cases h4:((a.Bi==4) || (a.Bi==5))
      · rw[h1,h2,h4] at h;cases h
      · simp at h4;omega
    · simp at h2;omega
  · simp at h1;omega
def sameArc(x y:qY):Bool:=(x.Bi==y.Bi)&&((x.Bl==y.Bl)&&(x.To==y.To))
def newArc(a:List qY)(j:Nat):Bool:=allN (fun i=>!sameArc (gt a i) (gt a j)) j
theorem qvh{c:qC}(h:okL qod c.Bh)(f:okL qoW c.Bc)(p:2<=c.Bh.length):Ev (fun n=>qgS n c) (allN (fun j=>arcI c.Bh (gt c.Bc j)&&newArc c.Bc j) c.Bc.length&&decide (c.Bc.length<=8)):=by
  have m:=f.len;have i:∀(a:List qY) (y:qY),a.length<=1048576->Ev (fun n=>qay n a y) (a.any fun x=>sameArc x y):=by
    intro a y m;unfold qay;refine Ev.bind (b:=ixL (fun x=>sameArc x y) a) (qgi (fin:=(a.length:Int)) (Lf:=qR a y) (pf:=fun n x=>qfx n x y) (fun x _=>?_)
      (fun n=>by simp only[qR,ql (je _),cond_false])
      (fun n j x g=>by
        have d:=(List.getElem?_eq_some_iff.1 g).1;simp only[qR,qj d,cond_true,qaE g,jd,wS j])
      (fun n=>by unfold qbb;congr 1;funext o;cases o<;>rfl)) (Ev.now (by rw[qoT]))
    unfold qfx sameArc;exact Ev.andP fun _=>Ev.andP fun _=>.done
  have k:Ev (fun n=>qcD c n 0) (bif allN (fun j=>arcI c.Bh (gt c.Bc j)&&newArc c.Bc j) c.Bc.length then .nxt (c.Bc.length:Int) else .ret false):=by
    refine qeK ?_ (fun j d X l=>Ev.succ ?_)
    · exact Ev.succ (by simp only[qcD,ql (je _),cond_false];exact .done)
    · simp only[qcD,qj d,cond_true,qz d,jd,qs6 (Nat.le_of_lt d),wS j]
      refine Ev.chk (qyI h (qoh f d) p) fun _=>Ev.chkT1 ?_ (fun _=>l);refine(i _ _ (by simp;omega)).cast ?_;rw[qxM (Nat.le_of_lt d)];rfl
  unfold qgS;refine Ev.bind k ?_;cases allN (fun j=>arcI c.Bh (gt c.Bc j)&&newArc c.Bc j) c.Bc.length
  · exact .done
  · refine Ev.now ?_
    show V (decide ((c.Bc.length:Int)<=((8:Nat):Int)))=V (true&&decide (c.Bc.length<=8));rw[qor,jG]
def hasB(b:List qY)(k:Int):Bool:=b.any fun a=>a.Bi==k
theorem qpL{c:qC}{k:Int}(f:c.Bc.length<=1048576):Ev (fun n=>qdx n c k) (hasB c.Bc k):=by
  unfold qdx qbn;exact Ev.last (Ev.bind (b:=ixL (fun x=>x.Bi==k) c.Bc) (qgi (fin:=(c.Bc.length:Int)) (Lf:=qab c.Bc k) (pf:=fun n x=>qkm n x k) (fun x _=>.done)
      (fun n=>by simp only[qab,ql (je _),cond_false])
      (fun n j x a=>by
        have d:=(List.getElem?_eq_some_iff.1 a).1;simp only[qab,qj d,cond_true,qaE a,jd,wS j])
      (fun n=>by unfold qbC;congr 1;funext o;cases o<;>rfl)) (Ev.now (by rw[qoT];rfl)))
def kindN(a:List qY)(k:Nat)(j:Nat):Nat:=cntP (fun i=>(gt a i).Bi==(k:Int)) j
theorem qs3{a:List qY}{k:Nat}:decide (((kindN a k a.length:Nat):Int) > 0)=hasB a k:=by
  rw[show decide (((kindN a k a.length:Nat):Int) > 0)=decide (0<kindN a k a.length) by simp];unfold kindN hasB;rw[quU,qvU]
theorem qvy{a:List qY}{k:Nat}:(((kindN a k a.length:Nat):Int)==0) = !hasB a k:=by
  rw[<-qs3,jm];simp
theorem quH{c:qC}(g:okL qoW c.Bc)(h:∀j,j<c.Bc.length->1<=(gt c.Bc j).Bi/\(gt c.Bc j).Bi<=5):Ev (fun n=>qjF n c) (vecC (fun k=>kindN c.Bc k c.Bc.length) 6):=by
  have o:=g.len;have d:Ev (fun n=>qdv c n (vecC (fun _=>0) 6) 0) (vecC (fun k=>kindN c.Bc k c.Bc.length) 6,(c.Bc.length:Int)):=by
    refine loopF (Lf:=qdv c) (S:=fun j=>vecC (fun k=>kindN c.Bc k j) 6) (len:=c.Bc.length) (fun n=>?_) (fun j a X f=>?_)
    · simp only[qdv,ql (je _),cond_false]
    · obtain⟨p,r⟩:=h j a
      have b:(gt c.Bc j).Bi=(((gt c.Bc j).Bi.toNat:Nat):Int):=qfM (by omega);have l:kindN c.Bc (gt c.Bc j).Bi.toNat j<=j:=qf6;simp only[qdv,qj a,cond_true,qz a,jd,wS j];rw[b,qlq (show(gt c.Bc j).Bi.toNat<6 by omega)];simp only[jd];rw[qsP (c:=fun k=>kindN c.Bc k j) (by show kindN c.Bc _ j<_;omega)];have:vecC (fun i=>kindN c.Bc i j+(bif decide ((gt c.Bc j).Bi.toNat=i) then 1 else 0)) 6=vecC (fun k=>kindN c.Bc k (j+1)) 6:=by
        refine qk3 (fun k _=>?_);show _=kindN c.Bc k j+(bif (gt c.Bc j).Bi==(k:Int) then 1 else 0)
        congr 2
        rw[jm];simp;omega
      rw[this];exact f
  unfold qjF;rw[show mkS 6 (0:Int)=V (vecC (fun _=>0) 6) from qoo (m:=6) (by omega)];simp only[jd];exact Ev.bind d .done
def kindB(c:qC):Bool:=
  bif c.Bi==1 then(((clkN c.Bh c.Bh.length:Nat):Int)==0)&&(((c.Bt.length:Int)==((2 ^ (c.Bh.length-1):Nat):Int))&&(c.Bt.all fun x=>inI x 0 1))
  else bif c.Bi==2 then(((clkN c.Bh c.Bh.length:Nat):Int)==1)&&(((c.Bt.length:Int)==0)&&(!hasB c.Bc 1&&!(hasB c.Bc 2==hasB c.Bc 3)))
  else bif c.Bi==3 then(((clkN c.Bh c.Bh.length:Nat):Int)==1)&&(((c.Bt.length:Int)==0)&&(hasB c.Bc 1&&(hasB c.Bc 2&&!hasB c.Bc 3)))
  else false
theorem qsJ{c:qC}(h:kindB c=true):clkN c.Bh c.Bh.length<=1:=by
  unfold kindB at h;cases h1:(c.Bi==1)
  · cases h2:(c.Bi==2)
    · cases h3:(c.Bi==3)
      · rw[h1,h2,h3] at h;cases h
      · rw[h1,h2,h3] at h
        simp only[cond_true,cond_false,jf,beq_iff_eq] at h;omega
    · rw[h1,h2] at h
      simp only[cond_true,cond_false,jf,beq_iff_eq] at h;omega
  · rw[h1] at h
    simp only[cond_true,jf,beq_iff_eq] at h;omega
theorem qu3{m:Nat}(a:2<=m)(b:m<=5):shlS 1 (W64 ((m:Int)-1))=V ((2 ^ (m-1):Nat):Int)/\shlS 1 (IntKind.wrap .u64 (W64 ((m:Int)-1)))=V ((2 ^ (m-1):Nat):Int):=by
  have:m=2\/m=3\/m=4\/m=5:=by omega
  rcases this with rfl|rfl|rfl|rfl<;>exact⟨by decide,by decide⟩
theorem qt2{c:qC}(b:qoj c)(k:2<=c.Bh.length)(g:c.Bh.length<=5):Ev (fun n=>qf4 n c) (kindB c):=by
  have l:=b.Bh.len;have i:Ev (fun n=>qbc c n 0 0) (((clkN c.Bh c.Bh.length:Nat):Int),(c.Bh.length:Int)):=by
    refine loopF (Lf:=qbc c) (S:=fun j=>((clkN c.Bh j:Nat):Int)) (len:=c.Bh.length) (fun n=>?_) (fun j h X d=>?_)
    · simp only[qbc,ql (je _),cond_false]
    · have m:clkN c.Bh j<=j:=qf6
      simp only[qbc,qj h,cond_true,qz h,jd,wS j,qi3 (show clkN c.Bh j<9223372036854775807 by omega)];have f:clkN c.Bh (j+1)=clkN c.Bh j+(bif (gt c.Bh j).Bs then 1 else 0):=rfl;rw[f] at d;cases b:(gt c.Bh j).Bs
      · rw[b] at d;exact Ev.ff Z d
      · rw[b] at d;exact Ev.tt Z d
  unfold qf4 kindB;refine Ev.bind i ?_;simp only[qes,qcC,jd,(qu3 k g).1];have a:=b.Bc.len;refine Ev.iff (fun _=>?_) (fun _=>Ev.iff (fun _=>?_) (fun _=>Ev.iff (fun _=>?_) (fun _=>.done)))
  · exact Ev.andP fun _=>Ev.andP fun _=>Ev.last (qef b.Bt.len)
  · exact Ev.andP fun _=>Ev.andP fun _=>Ev.bind (qpL a) (Ev.andP fun _=>Ev.bind (qpL a) (Ev.bind (qpL a) .done))
  · exact Ev.andP fun _=>Ev.andP fun _=>Ev.and (qpL a) fun _=>Ev.and (qpL a) fun _=>Ev.bind (qpL a) .done
def cellB(c:qC):Bool:=
  nameB c.Bd&&(pinsB c.Bh&&((allN (fun j=>arcI c.Bh (gt c.Bc j)&&newArc c.Bc j) c.Bc.length&&decide (c.Bc.length<=8))&&(inI c.Cc 0 100000&&(inI c.Bw 0 100000&&kindB c))))
theorem qxz{c:qC}(a:qoj c):Ev (fun n=>qlL n c) (cellB c):=by
  simp only[qlL,qp4 a.Bd,qdV,jd];unfold cellB;refine Ev.andP fun _=>Ev.and (qvt a.Bh) fun f=>?_;obtain⟨⟨d,b⟩,_⟩:=qhj f;exact Ev.and (qvh a.Bh a.Bc d) fun _=>Ev.andP fun _=>Ev.andP fun _=>Ev.last (qt2 a d b)
theorem qvX{c:qC}(d:qoj c):Ev (fun n=>qlE n c) (cellB c):=by
  have p:=d.Bc.len;have r:=d.Bt.len;have e:cellB c=((pinsB c.Bh&&(nameB c.Bd&&(decide (c.Bc.length<=8)&&(inI c.Cc 0 100000&&inI c.Bw 0 100000))))&&(allN (fun j=>arcS c.Bh (gt c.Bc j)&&newArc c.Bc j) c.Bc.length&&kindB c)):=by
    unfold cellB;cases l:kindB c
    · simp
    · cases hp:pinsB c.Bh
      · simp
      · rw[qim (fun j _=>by rw[qyB hp (qsJ l)])]
        cases nameB c.Bd<;>cases allN (fun j=>arcS c.Bh (gt c.Bc j)&&newArc c.Bc j) c.Bc.length<;>cases decide (c.Bc.length<=8)<;>cases inI c.Cc 0 100000<;>cases inI c.Bw 0 100000<;>rfl
  rw[e];unfold qlE;refine Ev.bind (qvz d.Bh) ?_;cases hp:pinsB c.Bh
  · exact .done
  · obtain⟨⟨o,m⟩,_⟩:=qhj hp
    simp only[cond_true,jG,Jg,cond_false];refine Ev.guardB ?_ (fun _=>?_)
    · simp only[qcZ,jd,qdg]
      refine Ev.orB (qm5 d.Bd) fun _=>?_;rw[show decide ((c.Bc.length:Int) > 8) = !decide (c.Bc.length<=8) by rw[jm];simp;omega,qdg];exact Ev.orBP fun _=>Ev.orBP fun _=>.done
    · have g:∀j,j<c.Bc.length->Ev (fun n=>qdF c (j:Int) (gt c.Bc j) n 0) (bif newArc c.Bc j then .nxt (j:Int) else .ret false):=by
        intro j a;refine qeK ?_ (fun i hi X b=>Ev.succ ?_)
        · exact Ev.succ (by simp only[qdF,ql (je _),cond_false];exact .done)
        · simp only[qdF,qj hi,cond_true,qz (show i<c.Bc.length by omega),jd,wS i]
          unfold sameArc;cases ((gt c.Bc i).Bi==(gt c.Bc j).Bi)
          · exact b
          · cases ((gt c.Bc i).Bl==(gt c.Bc j).Bl)
            · exact b
            · cases ((gt c.Bc i).To==(gt c.Bc j).To)
              · exact b
              · exact .done
      have f:Ev (fun n=>qfP c n 0) (bif allN (fun j=>arcS c.Bh (gt c.Bc j)&&newArc c.Bc j) c.Bc.length then .nxt (c.Bc.length:Int) else .ret false):=by
        refine qeK ?_ (fun j a X b=>Ev.succ ?_)
        · exact Ev.succ (by simp only[qfP,ql (je _),cond_false];exact .done)
        · simp only[qfP,qj a,cond_true,qz a,jd,wS j]
          refine Ev.chk (qxt d.Bh (qoh d.Bc a) o) fun _=>Ev.bind (g j a) ?_;cases newArc c.Bc j
          · exact .done
          · exact b
      have h:Ev (fun n=>qfR c n 0) (bif (c.Bt.all fun x=>inI x 0 1) then .nxt (c.Bt.length:Int) else .ret false):=
        qpo (fun n=>by simp only[qfR,ql (je _),cond_false]) (fun j a X b=>by
          simp only[qfR,qj a,cond_true,qee a,jd,qcZ,wS j,qdg];exact Ev.okP1 fun _=>b)
      refine Ev.bind f ?_;cases hA:allN (fun j=>arcS c.Bh (gt c.Bc j)&&newArc c.Bc j) c.Bc.length
      · exact .done
      · have l:∀j,j<c.Bc.length->1<=(gt c.Bc j).Bi/\(gt c.Bc j).Bi<=5:=fun j a=>by
          have:=qap.1 hA j a;rw[jf] at this;exact qsA this.1
        simp only[cond_true,jG];refine Ev.bind (quH d.Bc l) ?_;simp only[(qu3 o m).2,jd,
          show idx (vecC (fun k=>kindN c.Bc k c.Bc.length) 6) (1:Int)=V ((kindN c.Bc 1 c.Bc.length:Nat):Int) from qlq (k:=1) (by omega),
          show idx (vecC (fun k=>kindN c.Bc k c.Bc.length) 6) (2:Int)=V ((kindN c.Bc 2 c.Bc.length:Nat):Int) from qlq (k:=2) (by omega),
          show idx (vecC (fun k=>kindN c.Bc k c.Bc.length) 6) (3:Int)=V ((kindN c.Bc 3 c.Bc.length:Nat):Int) from qlq (k:=3) (by omega),qs3,qvy]
        unfold kindB;refine Ev.iff (fun _=>?_) (fun _=>Ev.iff (fun _=>?_) (fun _=>Ev.iff (fun _=>?_) (fun _=>.done)))
        · refine Ev.bind h ?_
          cases (c.Bt.all fun x=>inI x 0 1)
          · exact Ev.now (by simp)
          · exact(Ev.andP (fun _=>.done)).cast (by rw[Bool.and_true])
        · refine(Ev.andP fun _=>Ev.andP fun _=>Ev.andP fun _=>.done).cast ?_
          cases (((clkN c.Bh c.Bh.length:Nat):Int)==1)<;>cases ((c.Bt.length:Int)==0)<;>cases hasB c.Bc ((1:Nat):Int)<;>cases hasB c.Bc ((2:Nat):Int)<;>cases hasB c.Bc ((3:Nat):Int)<;>rfl
        · refine(Ev.andP fun _=>Ev.andP fun _=>Ev.andP fun _=>Ev.andP fun _=>.done).cast ?_
          cases (((clkN c.Bh c.Bh.length:Nat):Int)==1)<;>cases ((c.Bt.length:Int)==0)<;>cases hasB c.Bc ((1:Nat):Int)<;>cases hasB c.Bc ((2:Nat):Int)<;>cases hasB c.Bc ((3:Nat):Int)<;>rfl
def libB(l:qn):Bool:=l.Ay.all cellB&&(decide (l.Ay.length<=8)&&namesB (l.Ay.map qC.Bd))
theorem qtz{l:qn}(h:qio l):Ev (fun n=>qiE n l) (libB l):=by
  have d:=h.Ay.len;have b:Ev (fun n=>qcN l n ([]:List ByteArray) 0) (bif allN (fun j=>cellB (gt l.Ay j)) l.Ay.length then .nxt (l.Ay.map qC.Bd,(l.Ay.length:Int)) else .ret false):=by
    refine loopN (Lf:=qcN l) (S:=fun j=>(l.Ay.take j).map qC.Bd) (fun j=>cellB (gt l.Ay j)) (fun n=>?_) (fun j a i X c=>?_)
    · simp only[qcN,ql (je _),cond_false,jE]
    · simp only[qcN,qj a,cond_true,qz a,jd,qmg a d,qf8 (g:=qC.Bd) a,wS j]
      exact Ev.chk1 (qxz (qoh h.Ay a)) c
  unfold qiE libB;rw[qi2];refine Ev.bind b ?_;cases allN (fun j=>cellB (gt l.Ay j)) l.Ay.length
  · exact .done
  · simp only[cond_true,jG,show decide ((l.Ay.length:Int)<=8)=decide (l.Ay.length<=8) from qor (k:=8)]
    exact Ev.andP fun _=>Ev.last (qj8 (qom h.Ay (fun x f=>f.Bd)))

theorem qvZ{c:qC}(h:cellB c=true):nameB c.Bd=true:=by
 unfold cellB at h;rw[jf] at h;exact h.1
theorem qjr{c:qC}(h:cellB c=true):pinsB c.Bh=true:=by
 unfold cellB at h;simp only[jf] at h;exact h.2.1
theorem qsp{l:qn}(h:qio l):Ev (fun n=>qiR n l) (libB l):=by
 have f:=h.Ay.len;have c:∀j,j<l.Ay.length->Ev (fun n=>qdQ l (j:Int) n 0) (bif allN (neB (l.Ay.map qC.Bd) j) j then .nxt (j:Int) else .ret false):=by
  intro j a;refine qeK ?_ (fun i hi X d=>Ev.succ ?_)
  ·exact Ev.succ (by simp only[qdQ,ql (je _),cond_false];exact .done)
  ·simp only[qdQ,qj hi,cond_true,qz (show i<l.Ay.length by omega),qz a,jd,qhZ,wS i];unfold neB;rw[qkU (g:=qC.Bd) (show i<l.Ay.length by omega),qkU (g:=qC.Bd) a];exact Ev.chkP1 (fun _=>d)
 have b:Ev (fun n=>qdO l n 0) (bif allN (fun j=>cellB (gt l.Ay j)&&allN (neB (l.Ay.map qC.Bd) j) j) l.Ay.length then .nxt (l.Ay.length:Int) else .ret false):=by
  refine qeK ?_ (fun j a X d=>Ev.succ ?_)
  ·exact Ev.succ (by simp only[qdO,ql (je _),cond_false];exact .done)
  ·simp only[qdO,qj a,cond_true,qz a,jd,wS j];refine Ev.chk (qvX (qoh h.Ay a)) fun _=>Ev.bind (c j a) ?_;cases allN (neB (l.Ay.map qC.Bd) j) j
   ·exact .done
   ·exact d
 have e:libB l=(allN (fun j=>cellB (gt l.Ay j)&&allN (neB (l.Ay.map qC.Bd) j) j) l.Ay.length&&decide (l.Ay.length<=8)):=by
  unfold libB namesB;rw[qi2,ju,Bool.and_comm (decide (l.Ay.length<=8)),<-Bool.and_assoc,<-qmm]
  congr 1
  refine qim (fun j a=>?_);rw[qkU (g:=qC.Bd) a];cases hc:cellB (gt l.Ay j)
  ·rfl
  ·rw[qvZ hc];rfl
 rw[e];unfold qiR;refine Ev.bind b ?_;cases allN (fun j=>cellB (gt l.Ay j)&&allN (neB (l.Ay.map qC.Bd) j) j) l.Ay.length
 ·exact .done
 ·refine Ev.now ?_;show V (decide ((l.Ay.length:Int)<=((8:Nat):Int)))=V (true&&decide (l.Ay.length<=8));rw[qor,jG]
theorem qmG{c c':Nat->Nat}{m:Nat}{x:Int}(b:0<=x)(h:x<m)(d:c x.toNat<9223372036854775807)(f:∀k,k<m->c' k=c k+(bif x==(k:Int) then 1 else 0)) :
  idx (vecC c m) x=V (c x.toNat:Int)/\setS (vecC c m) x (W64 ((c x.toNat:Int)+1))=vecC c' m:=by
 have ex:x=(x.toNat:Int):=qfM b;have e1:=qlq (c:=c) (m:=m) (k:=x.toNat) (by omega);have a:=qsP (c:=c) (m:=m) (k:=x.toNat) d;rw[<-ex] at e1 a;refine⟨e1,a.trans (qk3 (fun k g=>?_))⟩;rw[f k g]
 congr 2
 rw[jm];simp;omega
def netB(d:qd)(x:Int):Bool:=inI x 0 ((d.As.length:Int)-1)
theorem qut{n:Nat}{d:qd}{x:Int}(a:d.As.length<=1048576):qdS n d x=V (netB d x):=by
 simp only[qdS,qin,jd,qdV,qfh (show d.As.length<=9223372036854775807 by omega)];rfl
theorem qsF{n:Nat}{d:qd}{x:Int}(a:d.As.length<=1048576):qaq n x 0 (W64 ((d.As.length:Int)-1))=V (netB d x):=by
 rw[qcZ,qfh (show d.As.length<=9223372036854775807 by omega)];rfl
def hasNamesB(d:qd):Bool:=(decide (d.Ab.length<=14)&&(decide (d.As.length<=30)&&decide (d.Ak.length<=8)))&&(namesB (d.Ab.map qt.Bd)&&(namesB d.As&&namesB (d.Ak.map qas.Bd)))
theorem qt4{d:qd}(h:qkT d):Ev (fun n=>qe4 n d) (hasNamesB d):=by
 have i:=h.Ab.len;have l:=h.Ak.len;have b:Ev (fun n=>qbp d n ([]:List ByteArray) 0) (d.Ab.map qt.Bd,(d.Ab.length:Int)):=by
  refine loopF (Lf:=qbp d) (S:=fun j=>(d.Ab.take j).map qt.Bd) (len:=d.Ab.length) (fun n=>?_) (fun j a X f=>?_)
  ·simp only[qbp,ql (je _),cond_false,jE]
  ·simpa only[qbp,qj a,cond_true,qz a,jd,qmg a i,qf8 (g:=qt.Bd) a,wS j] using f
 have c:Ev (fun n=>qbr d n ([]:List ByteArray) 0) (d.Ak.map qas.Bd,(d.Ak.length:Int)):=by
  refine loopF (Lf:=qbr d) (S:=fun j=>(d.Ak.take j).map qas.Bd) (len:=d.Ak.length) (fun n=>?_) (fun j a X f=>?_)
  ·simp only[qbr,ql (je _),cond_false,jE]
  ·simpa only[qbr,qj a,cond_true,qz a,jd,qmg a l,qf8 (g:=qas.Bd) a,wS j] using f
 unfold qe4 hasNamesB;refine Ev.bind b (Ev.bind c ?_);simp only[ju];rw[show decide ((d.Ab.length:Int)<=14)=decide (d.Ab.length<=14) from qor (k:=14),show decide ((d.As.length:Int)<=30)=decide (d.As.length<=30) from qor (k:=30),show decide ((d.Ak.length:Int)<=8)=decide (d.Ak.length<=8) from qor (k:=8)];rw[Bool.and_assoc,Bool.and_assoc];exact Ev.andP fun _=>Ev.andP fun _=>Ev.andP fun _=>Ev.and (qj8 (qom h.Ab (fun x m=>m.Bd))) fun _=>Ev.and (qj8 h.As) fun _=>Ev.last (qj8 (qom h.Ak (fun x m=>m.Bd)))
def instB(l:qn)(d:qd)(x:qt):Bool:=inI x.Bu 0 ((l.Ay.length:Int)-1)&&(((x.As.length:Int)==((gt l.Ay x.Bu.toNat).Bh.length:Int))&&x.As.all (netB d))
theorem qsh{d:qd}{l:qn}{x:qt}(g:d.As.length<=1048576)(h:l.Ay.length<=1048576)(a:x.As.length<=1048576):Ev (fun n=>qec n d l x) (instB l d x):=by
 simp only[qec,qgL,jd,qdV,qfh (show l.Ay.length<=9223372036854775807 by omega)];unfold instB;refine Ev.andP fun c=>?_;rw[qa9] at c;rw[qfW c.1 (by omega)];simp only[jd];refine Ev.andP fun _=>Ev.bind (b:=x.As.any fun y=>!netB d y) ?_ (Ev.now (by rw[qrd]));unfold qaS;exact Ev.bind (b:=ixL (fun y=>!netB d y) x.As) (qgi (fin:=(x.As.length:Int)) (Lf:=qL x.As d) (pf:=fun n y=>qdA n y d) (fun y _=>⟨0,fun n _=>by simp only[qdA,qut g,jd]⟩)
   (fun n=>by simp only[qL,ql (je _),cond_false])
   (fun n j y a=>by
    have f:=(List.getElem?_eq_some_iff.1 a).1;simp only[qL,qj f,cond_true,qaE a,jd,wS j])
   (fun n=>by unfold qa6;congr 1;funext o;cases o<;>rfl)) (Ev.now (by rw[qoT]))
def portB(d:qd)(p:qas):Bool:=inI p.Bx 1 2&&netB d p.Ca
theorem qAr{x:Int}:inI x 1 2=((x==1) || (x==2)):=by
 unfold inI;rw[jm];simp;omega
def lastN(x:qt):Int:=at0 x.As (x.As.length-1)
theorem quY{x:qt}(a:1<=x.As.length)(b:x.As.length<=1048576):idx x.As (W64 ((x.As.length:Int)-1))=V (lastN x):=by
 rw[qfh (by omega),show((x.As.length:Int)-1)=((x.As.length-1:Nat):Int) by omega,qan (by omega)];rfl
theorem qw7{d:qd}{x:qt}(a:1<=x.As.length)(h:x.As.all (netB d)=true):0<=lastN x/\lastN x<d.As.length:=by
 rw[qhd (d:=0),qap] at h;have:=h (x.As.length-1) (by omega);unfold netB at this;rw[qa9] at this;unfold lastN at0;omega
theorem qrR{l:qn}{d:qd}{x:qt}(a:libB l=true)(h:instB l d x=true):1<=x.As.length/\0<=lastN x/\lastN x<d.As.length:=by
 unfold instB at h;simp only[jf,qa9,beq_iff_eq] at h;obtain⟨g,i,f⟩:=h;unfold libB at a;simp only[jf] at a;have c:=a.1;rw[qi2,qap] at c;have:=qhj (qjr (c x.Bu.toNat (by omega)));have b:1<=x.As.length:=by omega
 exact⟨b,qw7 b f⟩
def drvI(d:qd)(k j:Nat):Nat:=cntP (fun i=>lastN (gt d.Ab i)==(k:Int)) j
def drvP(d:qd)(k j:Nat):Nat:=cntP (fun i=>((gt d.Ak i).Bx==1)&&((gt d.Ak i).Ca==(k:Int))) j
def drvB(d:qd):Bool:=allN (fun k=>((drvI d k d.Ab.length+drvP d k d.Ak.length:Nat):Int)==1) d.As.length
def designB(l:qn)(d:qd):Bool:=(libB l&&hasNamesB d)&&(d.Ab.all (instB l d)&&(d.Ak.all (portB d)&&drvB d))
theorem qpU{d:qd}{k j:Nat}:drvI d k (j+1)=drvI d k j+(bif lastN (gt d.Ab j)==(k:Int) then 1 else 0):=rfl
theorem qov{d:qd}{k j:Nat}:drvP d k (j+1)=drvP d k j+(bif ((gt d.Ak j).Bx==1)&&((gt d.Ak j).Ca==(k:Int)) then 1 else 0):=rfl
theorem quc{l:qn}{d:qd}(h:qio l)(g:qkT d):Ev (fun n=>qjC n l d) (designB l d):=by
 have I:=g.Ab.len;have J:=g.Ak.len;have i:=g.As.len;have v:=h.Ay.len;unfold qjC designB;refine Ev.guardB (Ev.or (qtz h) fun _=>Ev.neg (qt4 g)) fun z=>?_;rw[jf] at z;rw[qoo (m:=d.As.length) (by omega)];simp only[jd];have t:Ev (fun n=>qdt l d n (vecC (fun _=>0) d.As.length) 0) (bif allN (fun j=>instB l d (gt d.Ab j)) d.Ab.length then .nxt (vecC (fun k=>drvI d k d.Ab.length) d.As.length,(d.Ab.length:Int)) else .ret false):=by
  refine loopN (Lf:=qdt l d) (S:=fun j=>vecC (fun k=>drvI d k j) d.As.length) (fun j=>instB l d (gt d.Ab j)) (fun n=>?_) (fun j a K X f=>?_)
  ·simp only[qdt,ql (je _),cond_false]
  ·simp only[qdt,qj a,cond_true,qz a,jd,wS j];have p:=(qoh g.Ab a).As.len;refine Ev.chk1 (qsh i v p) fun hi=>?_;obtain⟨r,B,C⟩:=qrR z.1 hi;have L:drvI d (lastN (gt d.Ab j)).toNat j<=j:=qf6;obtain⟨e1,s⟩:=qmG (c:=fun k=>drvI d k j) (c':=fun k=>drvI d k (j+1)) B C (by show drvI _ _ _<_;omega) (fun k _=>qpU);simp only[quY r p,jd,e1,s];exact f hi
 have u:Ev (fun n=>qcB d n (vecC (fun k=>drvI d k d.Ab.length) d.As.length) 0) (bif allN (fun j=>portB d (gt d.Ak j)) d.Ak.length then .nxt (vecC (fun k=>drvI d k d.Ab.length+drvP d k d.Ak.length) d.As.length,(d.Ak.length:Int)) else .ret false):=by
  refine loopN (Lf:=qcB d) (S:=fun j=>vecC (fun k=>drvI d k d.Ab.length+drvP d k j) d.As.length) (fun j=>portB d (gt d.Ak j)) (fun n=>?_) (fun j a K X f=>?_)
  ·simp only[qcB,ql (je _),cond_false]
  ·simp only[qcB,qj a,cond_true,qz a,jd,qut i,bne,wS j];refine Ev.chkT1 ?_ fun hi=>?_
   ·unfold portB;rw[qAr];cases ((gt d.Ak j).Bx==1)<;>cases ((gt d.Ak j).Bx==2)<;>exact .done
   ·have f:=f hi;unfold portB netB at hi;simp only[jf,qa9] at hi;have D:drvI d (gt d.Ak j).Ca.toNat d.Ab.length<=d.Ab.length:=qf6;have F:drvP d (gt d.Ak j).Ca.toNat j<=j:=qf6;cases r:((gt d.Ak j).Bx==1)
    ·have:vecC (fun k=>drvI d k d.Ab.length+drvP d k (j+1)) d.As.length=vecC (fun k=>drvI d k d.Ab.length+drvP d k j) d.As.length:=by
      refine qk3 (fun k _=>?_);rw[qov,r];rfl
     rw[this] at f;exact f
    ·obtain⟨e1,s⟩:=qmG (c:=fun k=>drvI d k d.Ab.length+drvP d k j) (c':=fun k=>drvI d k d.Ab.length+drvP d k (j+1)) (x:=(gt d.Ak j).Ca) (m:=d.As.length) hi.2.1 (by omega) (by show drvI _ _ _+drvP _ _ _<_;omega) (fun k _=>by rw[qov,r,jG];omega);simp only[cond_true,jd,e1,s];exact f
 rw[qi2,qi2];refine Ev.bind t ?_;cases allN (fun j=>instB l d (gt d.Ab j)) d.Ab.length
 ·exact .done
 ·refine Ev.bind u ?_;cases allN (fun j=>portB d (gt d.Ak j)) d.Ak.length
  ·exact .done
  ·simp only[cond_true,jG];unfold qbT;refine Ev.bind (b:=(vecC (fun k=>drvI d k d.Ab.length+drvP d k d.Ak.length) d.As.length).any fun x=>!(x==1)) (Ev.bind (b:=ixL (fun x=>!(x==1)) (vecC (fun k=>drvI d k d.Ab.length+drvP d k d.Ak.length) d.As.length)) (qgi (fin:=(((vecC (fun k=>drvI d k d.Ab.length+drvP d k d.Ak.length) d.As.length).length:Nat):Int)) (Lf:=qak (vecC (fun k=>drvI d k d.Ab.length+drvP d k d.Ak.length) d.As.length)) (pf:=fun n y=>qkl n y) (fun y _=>.done)
    (fun n=>by simp only[qak,ql (je _),cond_false])
    (fun n j y A=>by
     have a:=(List.getElem?_eq_some_iff.1 A).1;have:j<d.As.length:=by rw[qoa] at a;exact a
     simp only[qak,qj a,cond_true,qaE A,jd,wS j])
    (fun n=>by unfold qcd;congr 1;funext o;cases o<;>rfl)) (Ev.now (by rw[qoT]))) (Ev.now ?_)
   rw[qrd,qhd (d:=0),qoa];unfold drvB
   congr 1
   exact qim (fun k H=>by
    have:=qt5 (c:=fun k=>drvI d k d.Ab.length+drvP d k d.Ak.length) H;unfold at0 at this;rw[this])
theorem quS{l:qn}{d:qd}(h:qio l)(f:qkT d):Ev (fun n=>qjK n l d) (d.Ab.all (instB l d)&&d.Ak.all (portB d)):=by
 have r:=f.Ab.len;have s:=f.Ak.len;have c:=f.As.len;have p:=h.Ay.len;have i:∀x:qt,x.As.length<=1048576->Ev (fun n=>qex d x n 0) (bif x.As.all (netB d) then .nxt (x.As.length:Int) else .ret false):=fun x t=>
  qpo (fun n=>by simp only[qex,ql (je _),cond_false]) (fun j a X b=>by
   simp only[qex,qj a,cond_true,qee a,jd,qsF c,wS j,qdg];exact Ev.okP1 fun _=>b)
 have g:Ev (fun n=>qeu l d n 0) (bif allN (fun j=>instB l d (gt d.Ab j)) d.Ab.length then .nxt (d.Ab.length:Int) else .ret false):=by
  refine qeK ?_ (fun j a X b=>Ev.succ ?_)
  ·exact Ev.succ (by simp only[qeu,ql (je _),cond_false];exact .done)
  ·simp only[qeu,qj a,cond_true,qz a,jd,qcZ,qfh (show l.Ay.length<=9223372036854775807 by omega),wS j,bne];have m:=(qoh f.Ab a).As.len;unfold instB;rw[<-Bool.and_assoc];refine Ev.chkT ?_ fun _=>Ev.bind (i _ m) ?_
   ·simp only[qdg];refine Ev.orBP fun o=>?_;rw[qa9] at o;rw[qfW o.1 (by omega)];exact .done
   ·cases (gt d.Ab j).As.all (netB d)
    ·exact .done
    ·exact b
 have k:Ev (fun n=>qey d n 0) (bif allN (fun j=>portB d (gt d.Ak j)) d.Ak.length then .nxt (d.Ak.length:Int) else .ret false):=by
  refine qeK ?_ (fun j a X b=>Ev.succ ?_)
  ·exact Ev.succ (by simp only[qey,ql (je _),cond_false];exact .done)
  ·simp only[qey,qj a,cond_true,qz a,jd,qsF c,wS j];simp only[qcZ,jd,qdg];unfold portB;exact Ev.okP fun _=>Ev.okP1 fun _=>b
 unfold qjK;rw[qi2,qi2];refine Ev.bind g ?_;cases allN (fun j=>instB l d (gt d.Ab j)) d.Ab.length
 ·exact .done
 ·refine Ev.bind k ?_;cases allN (fun j=>portB d (gt d.Ak j)) d.Ak.length<;>exact .done
theorem qtn{l:qn}{d:qd}(h:qio l)(i:qkT d):Ev (fun n=>qjD n l d) (designB l d):=by
 have J:=i.Ab.len;have K:=i.Ak.len;have W:=i.As.len;have T:=h.Ay.len;have e:designB l d=((libB l&&(decide (d.Ab.length<=14)&&(decide (d.As.length<=30)&&(decide (d.Ak.length<=8)&&(d.Ab.all (instB l d)&&d.Ak.all (portB d))))))&&((namesB (d.Ab.map qt.Bd)&&(namesB (d.Ak.map qas.Bd)&&namesB d.As))&&drvB d)):=by
  unfold designB hasNamesB;generalize libB l=a1;generalize decide (d.Ab.length<=14)=a2;generalize decide (d.As.length<=30)=a3;generalize decide (d.Ak.length<=8)=a4;generalize d.Ab.all (instB l d)=a5;generalize d.Ak.all (portB d)=a6;generalize namesB (d.Ab.map qt.Bd)=a7;generalize namesB (d.Ak.map qas.Bd)=a8;generalize namesB d.As=a9;generalize drvB d=a10;rw[jm];simp only[jf];constructor
  ·rintro⟨⟨f,⟨p,r,u⟩,z,B,A⟩,v,y,o⟩;exact⟨⟨f,p,r,u,v,y⟩,⟨z,A,B⟩,o⟩
  ·rintro⟨⟨f,p,r,u,v,y⟩,⟨z,A,B⟩,o⟩;exact⟨⟨f,⟨p,r,u⟩,z,B,A⟩,v,y,o⟩
 rw[e];unfold qjD;refine Ev.guardB ?_ fun P=>?_
 ·refine Ev.or (qsp h) fun _=>?_;rw[show decide ((d.Ab.length:Int) > 14) = !decide (d.Ab.length<=14) by rw[jm];simp;omega,show decide ((d.As.length:Int) > 30) = !decide (d.As.length<=30) by rw[jm];simp;omega,show decide ((d.Ak.length:Int) > 8) = !decide (d.Ak.length<=8) by rw[jm];simp;omega];simp only[qdg];exact Ev.orBP fun _=>Ev.orBP fun _=>Ev.orBP fun _=>Ev.neg (quS h i)
 ·simp only[jf] at P;obtain⟨s,_,_,_,N,O⟩:=P;rw[qi2,qap] at N O;have C:Ev (fun n=>qdr d n ([]:List ByteArray) 0) (d.Ab.map qt.Bd,(d.Ab.length:Int)):=by
   refine loopF (Lf:=qdr d) (S:=fun j=>(d.Ab.take j).map qt.Bd) (len:=d.Ab.length) (fun n=>?_) (fun j a X b=>?_)
   ·simp only[qdr,ql (je _),cond_false,jE]
   ·simpa only[qdr,qj a,cond_true,qz a,jd,qmg a J,qf8 (g:=qt.Bd) a,wS j] using b
  have D:Ev (fun n=>qdn d n ([]:List ByteArray) 0) (d.Ak.map qas.Bd,(d.Ak.length:Int)):=by
   refine loopF (Lf:=qdn d) (S:=fun j=>(d.Ak.take j).map qas.Bd) (len:=d.Ak.length) (fun n=>?_) (fun j a X b=>?_)
   ·simp only[qdn,ql (je _),cond_false,jE]
   ·simpa only[qdn,qj a,cond_true,qz a,jd,qmg a K,qf8 (g:=qas.Bd) a,wS j] using b
  have F:Ev (fun n=>qdw d n (vecC (fun _=>0) d.As.length) 0) (vecC (fun k=>drvI d k d.Ab.length) d.As.length,(d.Ab.length:Int)):=by
   refine loopF (Lf:=qdw d) (S:=fun j=>vecC (fun k=>drvI d k j) d.As.length) (len:=d.Ab.length) (fun n=>?_) (fun j a X b=>?_)
   ·simp only[qdw,ql (je _),cond_false]
   ·have M:=(qoh i.Ab a).As.len;obtain⟨f,p,r⟩:=qrR s (N j a);have Y:drvI d (lastN (gt d.Ab j)).toNat j<=j:=qf6;obtain⟨e1,t⟩:=qmG (c:=fun k=>drvI d k j) (c':=fun k=>drvI d k (j+1)) p r (by show drvI _ _ _<_;omega) (fun k _=>qpU);simpa only[qdw,qj a,cond_true,qz a,jd,wS j,quY f M,e1,t] using b
  have H:Ev (fun n=>qcI d n (vecC (fun k=>drvI d k d.Ab.length) d.As.length) 0) (vecC (fun k=>drvI d k d.Ab.length+drvP d k d.Ak.length) d.As.length,(d.Ak.length:Int)):=by
   refine loopF (Lf:=qcI d) (S:=fun j=>vecC (fun k=>drvI d k d.Ab.length+drvP d k j) d.As.length) (len:=d.Ak.length) (fun n=>?_) (fun j a X b=>?_)
   ·simp only[qcI,ql (je _),cond_false]
   ·have hi:=O j a;unfold portB netB at hi;simp only[jf,qa9] at hi;have Q:drvI d (gt d.Ak j).Ca.toNat d.Ab.length<=d.Ab.length:=qf6;have R:drvP d (gt d.Ak j).Ca.toNat j<=j:=qf6;simp only[qcI,qj a,cond_true,qz a,jd,wS j];cases f:((gt d.Ak j).Bx==1)
    ·have:vecC (fun k=>drvI d k d.Ab.length+drvP d k (j+1)) d.As.length=vecC (fun k=>drvI d k d.Ab.length+drvP d k j) d.As.length:=by
      refine qk3 (fun k _=>?_);rw[qov,f];rfl
     rw[this] at b;exact b
    ·obtain⟨e1,t⟩:=qmG (c:=fun k=>drvI d k d.Ab.length+drvP d k j) (c':=fun k=>drvI d k d.Ab.length+drvP d k (j+1)) (x:=(gt d.Ak j).Ca) (m:=d.As.length) hi.2.1 (by omega) (by show drvI _ _ _+drvP _ _ _<_;omega) (fun k _=>by rw[qov,f,jG];omega);simp only[cond_true,jd,e1,t];exact b
  have I:Ev (fun n=>qeo (vecC (fun _=>0) d.As.length) (vecC (fun k=>drvI d k d.Ab.length+drvP d k d.Ak.length) d.As.length) n 0) (bif drvB d then .nxt (d.As.length:Int) else .ret false):=by
   refine qeK ?_ (fun j a X b=>Ev.succ ?_)
   ·exact Ev.succ (by simp only[qeo,qoa,ql (je _),cond_false];exact .done)
   ·simp only[qeo,qoa,qj a,cond_true,qlq a,jd,bne,qdg,wS j];exact Ev.okP1 fun _=>b
  refine Ev.bind C (Ev.bind D ?_);refine Ev.guardB (Ev.or (qn7 (qom i.Ab (fun x L=>L.Bd))) fun _=>Ev.or (qn7 (qom i.Ak (fun x L=>L.Bd))) fun _=>Ev.neg (qn7 i.As)) fun _=>?_;rw[qoo (m:=d.As.length) (by omega)];simp only[jd];refine Ev.bind F (Ev.bind H (Ev.bind I ?_));cases drvB d<;>exact .done

theorem qz0{m k:Nat}:decide ((m:Int)<(k:Int)) = !decide (k<=m):=by rw[jm];simp
theorem qy4{m k:Nat}:decide ((m:Int) > (k:Int)) = !decide (m<=k):=by rw[jm];simp
def treeB(w:qZ)(j:Nat):Bool:=bif decide (j=0) then(at0 w.Ba j==-1)&&(at0 w.Bz j==0) else inI (at0 w.Ba j) 0 ((j:Int)-1)
def wireB(w:qZ)(s:Int):Bool:=
 lenB w.Ba 1 8&&(((w.Bz.length:Int)==(w.Ba.length:Int))&&(((w.Bv.length:Int)==(w.Ba.length:Int))&&(allN (treeB w) w.Ba.length &&
  ((w.Bz.all fun x=>inI x 0 1000)&&((w.Bv.all fun x=>inI x 0 500)&&(((w.Bn.length:Int)==s)&&(w.Bn.all fun x=>inI x 0 ((w.Ba.length:Int)-1))))))))
theorem qw9{w:qZ}(i:w.Ba.length<=1048576)(h:((w.Bz.length:Int)==(w.Ba.length:Int))=true):Ev (fun n=>qhv n w) (allN (treeB w) w.Ba.length):=by
 rw[beq_iff_eq] at h;have g:Ev (fun n=>qbe w n 0) (bif allN (treeB w) w.Ba.length then .nxt (w.Ba.length:Int) else .ret false):=by
  refine qeK ?_ (fun j b X a=>Ev.succ ?_)
  ·exact Ev.succ (by simp only[qbe,ql (je _),cond_false];exact .done)
  ·simp only[qbe,qj b,cond_true,qan b,jd,qdV,wS j,bne,qdg];unfold treeB;by_cases f:j=0
   ·subst f;rw[show idx w.Bz (0:Int)=V (at0 w.Bz 0) from qan (j:=0) (by omega)];simp only[jd];refine Ev.tt (by simp) (Ev.okP fun _=>Ev.okP1 fun _=>Ev.ff (by simp) a)
   ·have e1:decide (j=0)=false:=by simp;omega
    have c:((j:Int)==0)=false:=by simp;omega
    have d:decide ((j:Int) > 0)=true:=by simp;omega
    rw[e1,c,d,qfh (show j<=9223372036854775807 by omega)];simp only[cond_false,cond_true];exact Ev.okP1 fun _=>a
 unfold qhv;refine Ev.bind g ?_;cases allN (treeB w) w.Ba.length<;>exact .done
theorem qwP{w:qZ}{s:Int}(h:qpz w):Ev (fun n=>qlZ n w s) (wireB w s):=by
 have a:=h.Ba.len;simp only[qlZ,qbt,jd,qdV,qfh (show w.Ba.length<=9223372036854775807 by omega)];unfold wireB;rw[show inI (w.Ba.length:Int) 1 8=lenB w.Ba 1 8 from qtd (lo:=1) (hi:=8)];exact Ev.andP fun _=>Ev.andP fun b=>Ev.andP fun _=>Ev.and (qw9 a b) fun _=>Ev.and (qef h.Bz.len) fun _=>Ev.and (qef h.Bv.len) fun _=>Ev.andP fun _=>Ev.last (qef h.Bn.len)
theorem qvM{w:qZ}{s:Int}(h:qpz w):Ev (fun n=>ql2 n w s) (wireB w s):=by
 have r:=h.Ba.len;have o:=h.Bn.len;have e:wireB w s=((decide (1<=w.Ba.length)&&(decide (w.Ba.length<=8)&&(((w.Bz.length:Int)==(w.Ba.length:Int))&&(((w.Bv.length:Int)==(w.Ba.length:Int))&&((w.Bn.length:Int)==s)))))&&(allN (fun j=>(inI (at0 w.Bv j) 0 500&&inI (at0 w.Bz j) 0 1000)&&treeB w j) w.Ba.length&&(w.Bn.all fun x=>inI x 0 ((w.Ba.length:Int)-1)))):=by
  unfold wireB lenB;cases h1:((w.Bz.length:Int)==(w.Ba.length:Int))
  ·simp
  ·cases h2:((w.Bv.length:Int)==(w.Ba.length:Int))
   ·simp
   ·rw[beq_iff_eq] at h1 h2;rw[qmm,qmm];rw[qhd (p:=fun x=>inI x 0 1000) (d:=0),qhd (p:=fun x=>inI x 0 500) (d:=0),show w.Bz.length=w.Ba.length by omega,show w.Bv.length=w.Ba.length by omega];show _=(_&&((allN (fun j=>inI (w.Bv.getD j 0) 0 500) _&&allN (fun j=>inI (w.Bz.getD j 0) 0 1000) _&&_)&&_));generalize allN (fun j=>inI (w.Bv.getD j 0) 0 500) w.Ba.length=a1;generalize allN (fun j=>inI (w.Bz.getD j 0) 0 1000) w.Ba.length=a2;generalize allN (fun j=>treeB w j) w.Ba.length=a3;generalize ((w.Bn.length:Int)==s)=a4;generalize decide (1<=w.Ba.length)=a5;generalize decide (w.Ba.length<=8)=a6;generalize (w.Bn.all fun x=>inI x 0 ((w.Ba.length:Int)-1))=a7;cases a1<;>cases a2<;>cases a3<;>cases a4<;>cases a5<;>cases a6<;>rfl
 rw[e];unfold ql2;refine Ev.guardB ?_ fun m=>?_
 ·rw[show decide ((w.Ba.length:Int)<1) = !decide (1<=w.Ba.length) from qz0 (k:=1),show decide ((w.Ba.length:Int) > 8) = !decide (w.Ba.length<=8) from qy4 (k:=8)];simp only[bne,qdg];exact Ev.orBP fun _=>Ev.orBP fun _=>Ev.orBP fun _=>Ev.orBP fun _=>.done
 ·simp only[jf,beq_iff_eq] at m;have c:Ev (fun n=>qcQ w n 0) (bif allN (fun j=>(inI (at0 w.Bv j) 0 500&&inI (at0 w.Bz j) 0 1000)&&treeB w j) w.Ba.length then .nxt (w.Ba.length:Int) else .ret false):=by
   refine qeK ?_ (fun j a X b=>Ev.succ ?_)
   ·exact Ev.succ (by simp only[qcQ,ql (je _),cond_false];exact .done)
   ·simp only[qcQ,qj a,cond_true,qan a,qan (show j<w.Bv.length by omega),qan (show j<w.Bz.length by omega),jd,qcZ,wS j,bne,qdg];refine Ev.chkT (Ev.orBP fun _=>.done) fun _=>?_;unfold treeB;by_cases l:j=0
    ·subst l;refine Ev.tt (by simp) (Ev.okP fun _=>Ev.okP1 fun _=>Ev.ff (by simp) b)
    ·have e1:decide (j=0)=false:=by simp;omega
     have g:((j:Int)==0)=false:=by simp;omega
     have i:decide ((j:Int) > 0)=true:=by simp;omega
     rw[e1,g,i,qfh (show j<=9223372036854775807 by omega)];simp only[cond_false,cond_true];exact Ev.okP1 fun _=>b
  have f:Ev (fun n=>qfZ w n 0) (bif (w.Bn.all fun x=>inI x 0 ((w.Ba.length:Int)-1)) then .nxt (w.Bn.length:Int) else .ret false):=
   qpo (fun n=>by simp only[qfZ,ql (je _),cond_false]) (fun j a X b=>by
    simp only[qfZ,qj a,cond_true,qee a,jd,qcZ,qfh (show w.Ba.length<=9223372036854775807 by omega),wS j,qdg];exact Ev.okP1 fun _=>b)
  refine Ev.bind c ?_;cases allN (fun j=>(inI (at0 w.Bv j) 0 500&&inI (at0 w.Bz j) 0 1000)&&treeB w j) w.Ba.length
  ·exact .done
  ·refine Ev.bind f ?_;cases (w.Bn.all fun x=>inI x 0 ((w.Ba.length:Int)-1))<;>exact .done
instance:Inhabited Tplace:=⟨⟨0,0,0,false⟩⟩
instance:Inhabited Tl05Place:=⟨⟨0,0,0,false⟩⟩
def toSp(p:Tplace):Tl05Place:=⟨p.instance_,p.pin,p.net,p.drives⟩
def plX(i:Nat)(x:qt)(j:Nat):List Tplace:=(List.range j).map fun(k:Nat)=>⟨(i:Int),(k:Int),at0 x.As k,decide (k+1=x.As.length)⟩
def plI(d:qd)(j:Nat):List Tplace:=(List.range j).flatMap fun(i:Nat)=>plX i (gt d.Ab i) (gt d.Ab i).As.length
def plP(d:qd)(j:Nat):List Tplace:=(List.range j).map fun(i:Nat)=>⟨-1,(i:Int),(gt d.Ak i).Ca,(gt d.Ak i).Bx==1⟩
def places(d:qd):List Tplace:=plI d d.Ab.length++plP d d.Ak.length
theorem quJ{i:Nat}{x:qt}{j:Nat}:plX i x (j+1)=plX i x j++[⟨(i:Int),(j:Int),at0 x.As j,decide (j+1=x.As.length)⟩]:=by
 unfold plX;rw[List.range_succ,jQ];rfl
theorem qnA{d:qd}{j:Nat}:plI d (j+1)=plI d j++plX j (gt d.Ab j) (gt d.Ab j).As.length:=by
 unfold plI;rw[List.range_succ,Ji];simp
theorem que{d:qd}{j:Nat}:plP d (j+1)=plP d j++[⟨-1,(j:Int),(gt d.Ak j).Ca,(gt d.Ak j).Bx==1⟩]:=by
 unfold plP;rw[List.range_succ,jQ];rfl
theorem qrc{i:Nat}{x:qt}{j:Nat}:(plX i x j).length=j:=by simp[plX]
theorem qq7{d:qd}{j:Nat}:(plP d j).length=j:=by simp[plP]
structure smallD(d:qd):Prop where
 ni:d.Ab.length<=14
 nn:d.As.length<=30
 np:d.Ak.length<=8
 nx:∀i,i<d.Ab.length->2<=(gt d.Ab i).As.length/\(gt d.Ab i).As.length<=5
theorem qN{l:qn}{d:qd}(h:designB l d=true):smallD d:=by
 unfold designB hasNamesB libB at h;simp only[jf,decide_eq_true_eq] at h;obtain⟨⟨⟨b,_⟩,⟨c,f,g⟩,_⟩,a,_⟩:=h;refine⟨c,f,g,fun i hi=>?_⟩;rw[qi2,qap] at a b;have:=a i hi;unfold instB at this;simp only[jf,qa9,beq_iff_eq] at this;have k:=qhj (qjr (b (gt d.Ab i).Bu.toNat (by omega)));omega
theorem qpb{d:qd}(h:smallD d){j:Nat}(a:j<=d.Ab.length):(plI d j).length<=5*j:=by
 induction j with
 |zero=>exact je _
 |succ j ih=>
  rw[qnA,jg,qrc];have:=ih (by omega);have:=h.nx j (by omega);omega
theorem qaN{d:qd}(h:smallD d):(places d).length<=78:=by
 unfold places;rw[jg,qq7];have:=qpb h (je _);have:=h.ni;have:=h.np;omega
theorem qop{d:qd}(h:smallD d):Ev (fun n=>qcy n d) (places d):=by
 have l:=h.ni;have m:=h.np;have f:∀i,i<d.Ab.length->∀pre:List Tplace,pre.length<=100->Ev (fun n=>qbL (i:Int) (gt d.Ab i) n pre 0) (pre++plX i (gt d.Ab i) (gt d.Ab i).As.length,((gt d.Ab i).As.length:Int)):=by
  intro i hi pre p;have o:=h.nx i hi;have:=loopF (Lf:=qbL (i:Int) (gt d.Ab i)) (S:=fun j=>pre++plX i (gt d.Ab i) j) (len:=(gt d.Ab i).As.length) (fin:=(pre++plX i (gt d.Ab i) (gt d.Ab i).As.length,((gt d.Ab i).As.length:Int))) (fun n=>by
    simp only[qbL,ql (je _),cond_false])
   (fun j a X b=>by
    have k:(pre++plX i (gt d.Ab i) j).length+[(⟨(i:Int),(j:Int),at0 (gt d.Ab i).As j,decide (j+1=(gt d.Ab i).As.length)⟩:Tplace)].length<=2147483648:=by
     rw[jg,qrc];simp;omega
    simp only[qbL,qj a,cond_true,qan a,jd,lastE a (show(gt d.Ab i).As.length<=1048576 by omega),qbd k,jq,<-quJ,wS j];exact b)
  simpa [plX] using this
 have c:Ev (fun n=>qbN d n ([]:List Tplace) 0) (plI d d.Ab.length,(d.Ab.length:Int)):=by
  refine loopF (Lf:=qbN d) (S:=fun j=>plI d j) (len:=d.Ab.length) (fun n=>?_) (fun j a X b=>?_)
  ·simp only[qbN,ql (je _),cond_false]
  ·simp only[qbN,qj a,cond_true,qz a,jd,wS j];refine Ev.bind (f j a _ (by have:=qpb h (Nat.le_of_lt a);omega)) ?_;rw[<-qnA];exact b
 have g:Ev (fun n=>qbO d n (plI d d.Ab.length) 0) (places d,(d.Ak.length:Int)):=by
  have:=loopF (Lf:=qbO d) (S:=fun j=>plI d d.Ab.length++plP d j) (len:=d.Ak.length) (fin:=(places d,(d.Ak.length:Int))) (fun n=>by
    simp only[qbO,ql (je _),cond_false];rfl)
   (fun j a X b=>by
    have k:(plI d d.Ab.length++plP d j).length+[(⟨-1,(j:Int),(gt d.Ak j).Ca,(gt d.Ak j).Bx==1⟩:Tplace)].length<=2147483648:=by
     rw[jg,qq7];have:=qpb h (je _);simp;omega
    simp only[qbO,qj a,cond_true,qz a,jd,qbd k,jq,<-que,wS j];exact b)
  simpa [plP] using this
 unfold qcy;exact Ev.bind c (Ev.bind g .done)
theorem qii{d:qd}(h:smallD d):Ev (fun n=>qcq n d) ((places d).map toSp):=by
 have l:=h.ni;have m:=h.np;have f:∀i,i<d.Ab.length->∀pre:List Tplace,pre.length<=100->Ev (fun n=>qcP (i:Int) (gt d.Ab i) n (pre.map toSp) 0) ((pre++plX i (gt d.Ab i) (gt d.Ab i).As.length).map toSp,((gt d.Ab i).As.length:Int)):=by
  intro i hi pre p;have o:=h.nx i hi;have:=loopF (Lf:=qcP (i:Int) (gt d.Ab i)) (S:=fun j=>(pre++plX i (gt d.Ab i) j).map toSp) (len:=(gt d.Ab i).As.length) (fin:=((pre++plX i (gt d.Ab i) (gt d.Ab i).As.length).map toSp,((gt d.Ab i).As.length:Int))) (fun n=>by
    simp only[qcP,ql (je _),cond_false])
   (fun j a X b=>by
    have k:((pre++plX i (gt d.Ab i) j).map toSp).length+[(⟨(i:Int),(j:Int),at0 (gt d.Ab i).As j,decide (j+1=(gt d.Ab i).As.length)⟩:Tl05Place)].length<=2147483648:=by
     rw[ju,jg,qrc];simp;omega
    simp only[qcP,qj a,cond_true,qan a,jd,lastE a (show(gt d.Ab i).As.length<=1048576 by omega),qbd k,wS j];rw[quJ,<-jq,jQ] at b;exact b)
  simpa [plX] using this
 have c:Ev (fun n=>qcO d n ([]:List Tl05Place) 0) ((plI d d.Ab.length).map toSp,(d.Ab.length:Int)):=by
  refine loopF (Lf:=qcO d) (S:=fun j=>(plI d j).map toSp) (len:=d.Ab.length) (fun n=>?_) (fun j a X b=>?_)
  ·simp only[qcO,ql (je _),cond_false]
  ·simp only[qcO,qj a,cond_true,qz a,jd,wS j];refine Ev.bind (f j a _ (by have:=qpb h (Nat.le_of_lt a);omega)) ?_;rw[<-qnA];exact b
 have g:Ev (fun n=>qcU d n ((plI d d.Ab.length).map toSp) 0) ((places d).map toSp,(d.Ak.length:Int)):=by
  have:=loopF (Lf:=qcU d) (S:=fun j=>(plI d d.Ab.length++plP d j).map toSp) (len:=d.Ak.length) (fin:=((places d).map toSp,(d.Ak.length:Int))) (fun n=>by
    simp only[qcU,ql (je _),cond_false];rfl)
   (fun j a X b=>by
    have k:((plI d d.Ab.length++plP d j).map toSp).length+[(⟨-1,(j:Int),(gt d.Ak j).Ca,(gt d.Ak j).Bx==1⟩:Tl05Place)].length<=2147483648:=by
     rw[ju,jg,qq7];have:=qpb h (je _);simp;omega
    simp only[qcU,qj a,cond_true,qz a,jd,qbd k,wS j];rw[que,<-jq,jQ] at b;exact b)
  simpa [plP] using this
 unfold qcq;exact Ev.bind c (Ev.bind g .done)
def snkQ(d:qd)(k:Int)(i:Nat):Bool:=((gt (places d) i).net==k)&&!(gt (places d) i).drives
def sinksL(d:qd)(k:Int)(j:Nat):List Int:=((List.range j).filter (snkQ d k)).map fun(i:Nat)=>(i:Int)
def snkN(d:qd)(k:Int):Nat:=cntP (snkQ d k) (places d).length
theorem qj6{d:qd}{k:Int}{j:Nat}:sinksL d k (j+1)=sinksL d k j++(bif snkQ d k j then[(j:Int)] else[]):=by
 unfold sinksL;rw[List.range_succ,List.filter_append,jQ]
 congr 1
 cases h:snkQ d k j<;>simp[h]
theorem qjm{d:qd}{k:Int}{j:Nat}:(sinksL d k j).length=cntP (snkQ d k) j:=by
 induction j with
 |zero=>rfl
 |succ j ih=>
  rw[qj6,jg,ih];show _=cntP (snkQ d k) j+_
  congr 1
  cases snkQ d k j<;>rfl
theorem qpT{α β:Type}[Inhabited α][Inhabited β]{xs:List α}{g:α->β}{j:Nat}(h:j<xs.length):gt (xs.map g) j=g (gt xs j):=by
 rw[qcw (by simpa using h),qcw h];simp
theorem qnJ{d:qd}{k:Int}(h:smallD d):Ev (fun n=>qgG n d k) (sinksL d k (places d).length):=by
 have l:=qaN h;have g:Ev (fun n=>qcJ k ((places d).map toSp) n ([]:List Int) 0) (sinksL d k (places d).length,((places d).length:Int)):=by
  refine loopF (Lf:=qcJ k ((places d).map toSp)) (S:=fun j=>sinksL d k j) (len:=(places d).length) (fun n=>?_) (fun j f X a=>?_)
  ·simp only[qcJ,ju,ql (je _),cond_false]
  ·have c:j<((places d).map toSp).length:=by simpa using f
   have i:(sinksL d k j).length+[(j:Int)].length<=2147483648:=by
    rw[qjm];have:cntP (snkQ d k) j<=j:=qf6;simp;omega
   simp only[qcJ,qj c,cond_true,qz c,qpT f,jd,wS j];rw[show ∀p:Tplace,(toSp p).net=p.net from fun _=>rfl,show ∀p:Tplace,(toSp p).drives=p.drives from fun _=>rfl];refine Ev.bind (b:=snkQ d k j) (Ev.andP fun _=>.done) ?_;rw[qj6] at a;cases hq:snkQ d k j
   ·rw[hq] at a;simp only[cond_false,jW] at a⊢;exact a
   ·rw[hq] at a;simp only[cond_true,qbd i,jd] at a⊢;exact a
 unfold qgG;exact Ev.bind (qii h) (Ev.bind g .done)
theorem qmH{l:qn}{d:qd}(h:designB l d=true){i:Nat}(hi:i<(places d).length):0<=(gt (places d) i).net/\(gt (places d) i).net<d.As.length:=by
 unfold designB at h;simp only[jf] at h;obtain⟨_,f,g,_⟩:=h;rw[qi2,qap] at f g;have a:gt (places d) i∈places d:=by rw[qcw hi];exact jp hi
 generalize gt (places d) i=p at a;unfold places at a;rcases List.mem_append.1 a with a|a
 ·unfold plI at a;obtain⟨i,hi,a⟩:=List.mem_flatMap.1 a;unfold plX at a;obtain⟨k,m,rfl⟩:=List.mem_map.1 a;have:=f i (List.mem_range.1 hi);unfold instB at this;simp only[jf] at this;have b:=this.2.2;rw[qhd (d:=0),qap] at b;have c:=b k (List.mem_range.1 m);unfold netB at c;rw[qa9] at c;show 0<=at0 _ _/\at0 _ _<_;unfold at0;omega
 ·unfold plP at a;obtain⟨i,hi,rfl⟩:=List.mem_map.1 a;have:=g i (List.mem_range.1 hi);unfold portB netB at this;simp only[jf,qa9] at this;show 0<=(gt d.Ak i).Ca/\(gt d.Ak i).Ca<_;omega
def blockB(b:qf):Bool:=(designB b.Au b.Aa&&((b.Ah.length:Int)==(b.Aa.As.length:Int)))&&allN (fun j=>wireB (gt b.Ah j) (snkN b.Aa (j:Int))) b.Ah.length
theorem qvN{b:qf}(h:qmh b):Ev (fun n=>qi7 n b) (blockB b):=by
 have r:=h.Ah.len;unfold qi7 blockB;refine Ev.guardB (Ev.or (quc h.Au h.Aa) fun _=>.done) fun l=>?_;rw[jf,beq_iff_eq] at l;obtain⟨o,y⟩:=l;have i:=qN o;have u:=qaN i;have v:=i.nn;rw[qoo (m:=b.Ah.length) (by omega)];simp only[jd];have f:Ev (fun n=>qdc (places b.Aa) n (vecC (fun _=>0) b.Ah.length) 0) (vecC (fun k=>snkN b.Aa (k:Int)) b.Ah.length,((places b.Aa).length:Int)):=by
  refine loopF (Lf:=qdc (places b.Aa)) (S:=fun j=>vecC (fun k=>cntP (snkQ b.Aa (k:Int)) j) b.Ah.length) (len:=(places b.Aa).length) (fun n=>?_) (fun j a X d=>?_)
  ·simp only[qdc,ql (je _),cond_false];rfl
  ·simp only[qdc,qj a,cond_true,qz a,jd,wS j];obtain⟨s,z⟩:=qmH o a;cases h1:(gt (places b.Aa) j).drives
   ·have t:cntP (snkQ b.Aa (((gt (places b.Aa) j).net.toNat:Nat):Int)) j<=j:=qf6;obtain⟨e1,p⟩:=qmG (c:=fun k=>cntP (snkQ b.Aa (k:Int)) j) (c':=fun k=>cntP (snkQ b.Aa (k:Int)) (j+1)) (x:=(gt (places b.Aa) j).net) (m:=b.Ah.length) s (by omega) (by show cntP _ _<_;omega) (fun k _=>by
     show cntP _ j+(bif snkQ b.Aa (k:Int) j then 1 else 0)=_;unfold snkQ;rw[h1,Bool.not_false,Bool.and_true])
    simp only[Bool.not_false,cond_true,jd,e1,p];exact d
   ·have:vecC (fun k=>cntP (snkQ b.Aa (k:Int)) (j+1)) b.Ah.length=vecC (fun k=>cntP (snkQ b.Aa (k:Int)) j) b.Ah.length:=by
     refine qk3 (fun k _=>?_);show cntP _ j+(bif snkQ b.Aa (k:Int) j then 1 else 0)=_;unfold snkQ;rw[h1,Jg,Bool.and_false];rfl
    rw[this] at d;exact d
 have g:Ev (fun n=>qe1 b (vecC (fun k=>snkN b.Aa (k:Int)) b.Ah.length) n 0) (bif allN (fun j=>wireB (gt b.Ah j) (snkN b.Aa (j:Int))) b.Ah.length then .nxt (b.Ah.length:Int) else .ret false):=by
  refine qeK ?_ (fun j a X d=>Ev.succ ?_)
  ·exact Ev.succ (by simp only[qe1,ql (je _),cond_false];exact .done)
  ·simp only[qe1,qj a,cond_true,qz a,qlq a,jd,wS j];exact Ev.chk1 (qwP (qoh h.Ah a)) fun _=>d
 refine Ev.bind (qop i) (Ev.bind f (Ev.bind g ?_));cases allN (fun j=>wireB (gt b.Ah j) (snkN b.Aa (j:Int))) b.Ah.length<;>exact .done
theorem qoi{b:qf}(h:qmh b):Ev (fun n=>qhx n b) (blockB b):=by
 have i:=h.Ah.len;unfold qhx blockB;refine Ev.guardB (Ev.or (qtn h.Au h.Aa) fun _=>.done) fun c=>?_;rw[jf] at c;have g:=qN c.1;have d:Ev (fun n=>qeY b n 0) (bif allN (fun j=>wireB (gt b.Ah j) (snkN b.Aa (j:Int))) b.Ah.length then .nxt (b.Ah.length:Int) else .ret false):=by
  refine qeK ?_ (fun j a X f=>Ev.succ ?_)
  ·exact Ev.succ (by simp only[qeY,ql (je _),cond_false];exact .done)
  ·simp only[qeY,qj a,cond_true,qz a,jd,wS j];refine Ev.bind (qnJ g) ?_;rw[qjm];exact Ev.chk1 (qvM (qoh h.Ah a)) fun _=>f
 refine Ev.bind d ?_;cases allN (fun j=>wireB (gt b.Ah j) (snkN b.Aa (j:Int))) b.Ah.length<;>exact .done

def off(d:qd)(i:Nat):Nat:=(plI d i).length
def place1(d:qd)(i k:Nat):Tplace:=⟨(i:Int),(k:Int),at0 (gt d.Ab i).As k,decide (k+1=(gt d.Ab i).As.length)⟩
def place2(d:qd)(i:Nat):Tplace:=⟨-1,(i:Int),(gt d.Ak i).Ca,(gt d.Ak i).Bx==1⟩
theorem qk5{d:qd}{i:Nat}:off d (i+1)=off d i+(gt d.Ab i).As.length:=by
 unfold off;rw[qnA,jg,qrc]
theorem qvg{d:qd}{i j:Nat}(h:i<=j):off d i<=off d j:=by
 induction j with
 |zero=>
  obtain rfl:i=0:=by omega
  exact je _
 |succ j ih=>
  rcases Nat.lt_or_eq_of_le h with h|rfl
  ·rw[qk5];have:=ih (by omega);omega
  ·exact je _
theorem qhk{d:qd}:(places d).length=off d d.Ab.length+d.Ak.length:=by
 unfold places off;rw[jg,qq7]
theorem qAK{d:qd}{n i k:Nat}(hi:i<n)(c:k<(gt d.Ab i).As.length):off d i+k<off d n/\gt (plI d n) (off d i+k)=place1 d i k:=by
 induction n with
 |zero=>omega
 |succ n ih=>
  rw[qnA,qmF];rcases Nat.lt_succ_iff_lt_or_eq.1 hi with h|rfl
  ·obtain⟨a,b⟩:=ih h;refine⟨by rw[qk5];omega,?_⟩;rw[if_pos (show off d i+k<(plI d n).length from a),b]
  ·refine⟨by rw[qk5];omega,?_⟩;rw[if_neg (by unfold off;omega),show off d i+k-(plI d i).length=k by unfold off;omega];exact qrF c
theorem qkR{d:qd}{i k:Nat}(hi:i<d.Ab.length)(c:k<(gt d.Ab i).As.length):off d i+k<(places d).length/\gt (places d) (off d i+k)=place1 d i k:=by
 obtain⟨a,b⟩:=qAK hi c;refine⟨by rw[qhk];omega,?_⟩;unfold places;rw[qmF,if_pos (show off d i+k<(plI d d.Ab.length).length from a),b]
theorem qs2{d:qd}{i:Nat}(hi:i<d.Ak.length):off d d.Ab.length+i<(places d).length/\gt (places d) (off d d.Ab.length+i)=place2 d i:=by
 refine⟨by rw[qhk];omega,?_⟩;unfold places;rw[qmF,if_neg (by unfold off;omega),show off d d.Ab.length+i-(plI d d.Ab.length).length=i by unfold off;omega];exact qrF hi
theorem qwT{d:qd}{n j:Nat}(a:j<off d n):∃i k,i<n/\k<(gt d.Ab i).As.length/\j=off d i+k:=by
 induction n with
 |zero=>exact absurd a (Jk _)
 |succ n ih=>
  by_cases h:j<off d n
  ·obtain⟨i,k,f,b,c⟩:=ih h;exact⟨i,k,by omega,b,c⟩
  ·rw[qk5] at a;exact⟨n,j-off d n,by omega,by omega,by omega⟩
theorem qlD{d:qd}{j:Nat}(c:j<(places d).length) :
  (∃i k,i<d.Ab.length/\k<(gt d.Ab i).As.length/\j=off d i+k/\gt (places d) j=place1 d i k) \/
  (∃i,i<d.Ak.length/\j=off d d.Ab.length+i/\gt (places d) j=place2 d i):=by
 rw[qhk] at c;by_cases h:j<off d d.Ab.length
 ·obtain⟨i,k,a,b,rfl⟩:=qwT h;exact .inl ⟨i,k,a,b,rfl,(qkR a b).2⟩
 ·refine .inr ⟨j-off d d.Ab.length,by omega,by omega,?_⟩;have:=(qs2 (d:=d) (i:=j-off d d.Ab.length) (by omega)).2;rwa [show off d d.Ab.length+(j-off d d.Ab.length)=j by omega] at this
def drvQ(d:qd)(k:Int)(j:Nat):Bool:=((gt (places d) j).net==k)&&(gt (places d) j).drives
theorem qt8{q:Nat->Bool}{m n:Nat}:cntP q (m+n)=cntP q m+cntP (fun j=>q (m+j)) n:=by
 induction n with
 |zero=>rfl
 |succ n ih=>
  show cntP q (m+n)+(bif q (m+n) then 1 else 0)=cntP q m+(cntP (fun j=>q (m+j)) n+(bif q (m+n) then 1 else 0));rw[ih];omega
theorem qw8{q:Nat->Bool}{n:Nat}{b:Bool}(h:1<=n)(a:∀j,j+1<n->q j=false)(c:q (n-1)=b):cntP q n=bif b then 1 else 0:=by
 obtain⟨m,rfl⟩:∃m,n=m+1:=⟨n-1,by omega⟩;show cntP q m+(bif q m then 1 else 0)=_;rw[qot.2 (fun j d=>a j (by omega)),show m=m+1-1 by omega,c,jU]
theorem qvV{d:qd}{k:Nat}(b:smallD d):cntP (drvQ d (k:Int)) (places d).length=drvI d k d.Ab.length+drvP d k d.Ak.length:=by
 rw[qhk,qt8]
 congr 1
 ·have:∀n,n<=d.Ab.length->cntP (drvQ d (k:Int)) (off d n)=drvI d k n:=by
   intro n
   induction n with
   |zero=>intro _;rfl
   |succ n ih=>
    intro f;rw[qk5,qt8,ih (by omega),qpU]
    congr 1
    have c:=(b.nx n (by omega)).1;refine qw8 (by omega) (fun j a=>?_) ?_
    ·show drvQ d _ (off d n+j)=false;unfold drvQ;rw[(qkR (by omega) (by omega)).2];unfold place1;simp;omega
    ·show drvQ d _ (off d n+_)=_;unfold drvQ;rw[(qkR (by omega) (by omega)).2];unfold place1 lastN;simp;omega
  exact this _ (je _)
 ·refine qrV (fun j a=>?_);show drvQ d _ (off d _+j)=_;unfold drvQ;rw[(qs2 a).2];unfold place2;exact Bool.and_comm _ _
theorem qwd{l:qn}{d:qd}(h:designB l d=true){k:Nat}(a:k<d.As.length):cntP (drvQ d (k:Int)) (places d).length=1:=by
 rw[qvV (qN h)];unfold designB drvB at h;simp only[jf] at h;have:=qap.1 h.2.2.2 k a;rw[beq_iff_eq] at this;omega
theorem quF{l:qn}{d:qd}(h:designB l d=true){i j:Nat}(hi:i<(places d).length)(f:j<(places d).length)(c:(gt (places d) i).net=(gt (places d) j).net)(a:(gt (places d) i).drives=true)(b:(gt (places d) j).drives=true):i=j:=by
 obtain⟨g,m⟩:=qmH h hi;have e:=qfM g;have:=qwd h (k:=(gt (places d) i).net.toNat) (by omega);refine qul (Nat.le_of_eq this) hi f ?_ ?_
 ·unfold drvQ;rw[<-e,a];simp
 ·unfold drvQ;rw[<-e,b,c];simp
theorem qAM{l:qn}{d:qd}(h:designB l d=true){k:Int}(c:0<=k)(g:k<d.As.length):∃j,j<(places d).length/\(gt (places d) j).net=k/\(gt (places d) j).drives=true:=by
 have e:=qfM c;have:=qwd h (k:=k.toNat) (by omega);have b:decide (0<cntP (drvQ d ((k.toNat:Nat):Int)) (places d).length)=true:=by rw[this];rfl
 rw[quU,jI,qmR] at b;obtain⟨j,f,a⟩:=b;rw[Bool.not_eq_false',<-e] at a;unfold drvQ at a;simp only[jf,beq_iff_eq] at a;exact⟨j,f,a.1,a.2⟩
def cellAt(b:qf)(i:Int):qC:=gt b.Au.Ay (gt b.Aa.Ab i.toNat).Bu.toNat
theorem qhE{l:qn}{d:qd}(h:designB l d=true){i:Nat}(hi:i<d.Ab.length) :
  (0<=(gt d.Ab i).Bu/\(gt d.Ab i).Bu<l.Ay.length)/\(gt d.Ab i).As.length=(gt l.Ay (gt d.Ab i).Bu.toNat).Bh.length/\cellB (gt l.Ay (gt d.Ab i).Bu.toNat)=true:=by
 unfold designB libB at h;simp only[jf] at h;obtain⟨⟨⟨b,_⟩,_⟩,a,_⟩:=h;rw[qi2,qap] at a b;have:=a i hi;unfold instB at this;simp only[jf,qa9,beq_iff_eq] at this;exact⟨⟨this.1.1,by omega⟩,by omega,b _ (by omega)⟩
theorem qnN{c:qC}(h:cellB c=true){j:Nat}(f:j<c.Bc.length):(1<=(gt c.Bc j).Bi/\(gt c.Bc j).Bi<=5)/\(0<=(gt c.Bc j).Bl/\(gt c.Bc j).Bl<(c.Bh.length:Int)-1)/\(0<=(gt c.Bc j).To/\(gt c.Bc j).To<=(c.Bh.length:Int)-1)/\arcS c.Bh (gt c.Bc j)=true:=by
 unfold cellB at h;simp only[jf] at h;obtain⟨_,i,⟨d,_⟩,_,_,g⟩:=h;have:=qap.1 d j f;rw[jf,qyB i (qsJ g)] at this;have b:=this.1;refine⟨qsA b,?_⟩;have a:=b;unfold arcS at a;simp only[jf,qa9] at a;refine⟨⟨a.1.1.1,by omega⟩,a.1.2,b⟩
theorem qo3{c:qC}(h:cellB c=true):c.Bc.length<=8:=by
 unfold cellB at h;simp only[jf,decide_eq_true_eq] at h;exact h.2.2.1.2
theorem qam{b:qf}(h:blockB b=true):designB b.Au b.Aa=true:=by
 unfold blockB at h;simp only[jf] at h;exact h.1.1
end Go.Fw
