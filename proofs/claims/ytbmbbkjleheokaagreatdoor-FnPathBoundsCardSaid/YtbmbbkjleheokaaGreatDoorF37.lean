/- By a program of mine (gen.py): for each function a plain function and the proof that the code computes it. -/
import Derived.Test.YtbmbbkjleheokaaGreatDoorDR3
import Derived.Test.YtbmbbkjleheokaaGreatDoorTM
open Option renaming bind_some → jd, some → V, none → U
open Nat renaming le_refl → jf

namespace Go.Fw
open Go Go.Proofs Go.Proofs.Tryz
open Go.RowKit (Below)
open Ch renaming own→oW,box→oX,grp→oG
open GoT renaming v→oV
open Go.Value renaming slice→oS
set_option maxRecDepth 100000
set_option maxHeartbeats 6400000
variable {n:Nat}{w:World}{cs1 cs2 cs3 cs4 cs5 cs6 cs7 cs8 cs9:List Value}
def qpA (_:Nat)(code:(List (IntK .u8))):Option Bool :=V (decide ((code.length:Int) > 4096))
theorem qr3 {code:(List (IntK .u8))}(a:Ro w code cs1){r:Bool}(F:qpA n code=V r):RetV prog 9 [oV (List (IntK .u8)) cs1] w r:=by
 obtain⟨_,_,rfl,_⟩:=a;exact zV 6 func9 Z fun h=>X0 11 Z (rb h F Z)
def qb6 (a:(List Int))(d:(List Int))(c:qu):Nat→Int→Option (Flow Bool Int)| 0,_=>U| n+1,b =>bif decide (b<(a.length:Int)) then(idx a b).bind fun f =>bif decide (f<0) then V (.ret false) else(idx a b).bind fun g =>bif decide (g ≥ (c.Av.length:Int)) then V (.ret false) else(idx d b).bind fun h =>(idx a b).bind fun i =>bif (h != (W64 (i.tdiv 2))) then V (.ret false) else(idx a b).bind fun k =>(idx c.Av k).bind fun l =>bif (!l) then V (.ret false) else qb6 a d c n (W64 (b+1)) else V (.nxt b)
def qiJ (n:Nat)(a_0:(List (IntK .u8))):Option Bool :=(qpA n a_0).bind fun r1 =>bif r1 then V true else(qca n a_0).bind fun o=>match o with| (B,C,D,F) =>(qeM n B C D F).bind fun o=>match o with| (y,z) =>(qca n a_0).bind fun o=>match o with| (c,d,f,l) =>bif (z != 0) then(qhq n c d f l).bind fun o=>match o with| (_,m) =>(bif (z==m) then V (y==0) else V false).bind fun b1 =>V b1 else(qgZ n c d f).bind fun o=>match o with| (b,p) =>(qca n a_0).bind fun o=>match o with| (s,t,u,_) =>(qhW n s t u).bind fun o=>match o with| (g,v) =>(qca n a_0).bind fun o=>match o with| (a,h,i,_) =>(qaM n (⟨(⟨a.Ac.Ap.As⟩:qw),(⟨a.Ac.Aa.Ab,a.Ac.Aa.Am,a.Ac.Aa.Ai⟩:qg),a.Ac.Af⟩:qe) (⟨a.Aj.Bh,a.Aj.Ay,a.Aj.Ba,a.Aj.Au,a.Aj.Bb⟩:qx) a.Bf a.Ar).bind fun o=>match o with| (k,_) =>(bif (p != 0) then V true else bif (v != 0) then V true else bif ((b.length:Int) != (W64 ((i.length:Int)+1))) then V true else bif ((g.length:Int) != (b.length:Int)) then V true else(idx b 0).bind fun I =>V (I != h)).bind fun b2 =>bif b2 then V false else(qb6 b g k n 0).bind fun o=>match o with| .ret r=>V r| .nxt _ =>(idx b (W64 ((b.length:Int)-1))).bind fun H =>(idx k.Ah H).bind fun A =>bif decide (y≤A.Bd) then bif decide (y ≥ A.Aq) then(qiL n a h i).bind fun x =>V x else V false else V false
theorem qmD {a_0:(List (IntK .u8))}(ha1:Ro w a_0 cs1){r:Bool}(F:qiJ n a_0=V r):RetV prog 6 [oV (List (IntK .u8)) cs1] w r:=by
 obtain⟨_,_,rfl,s1⟩:=ha1;refine zV 198 func6 Z fun h=>X0 8 Z (zcB h F (qr3 ⟨_,_,rfl,(h.oldS s1)⟩) Z fun _ w1 h F=>qa6 (ql Z F ?_ ?_))<;>intro F
 ·exact X0 4 Z (rb h F Z)
 refine X0 4 Z ?_;have b:Rg (old w) w (old w) w:=.start (fun _ h=>h);obtain⟨⟨r3,r4,r5,r6⟩,hr2,F⟩:=qd F;refine qmV (r3,r4,r5,r6) b h (cB 27 Z) (qdW (b.atB h) ⟨_,_,rfl,(b.inBS h s1)⟩ hr2) Z Z Z Z fun _ _ S1 h hv1=>?_;obtain⟨_,_,rfl,g0,hv2⟩:=qce hv1;have hr4:=g0;obtain⟨_,_,_,_,_,_,_,_,_,_,_,_,_,_,rfl,_,_,_,_,_,_,_⟩:=qcg g0;replace h:=h.grpAdd 0 Z hr4;obtain⟨_,_,rfl,h0,hv3⟩:=qce hv2;have hr6:=h0;obtain rfl:=h0;obtain⟨_,_,rfl,h6,hv4⟩:=qce hv3;have hr8:=h6;obtain⟨_,_,rfl,_⟩:=h6;replace h:=h.grpAdd 0 Z hr8;obtain⟨_,rfl,h7⟩:=qf8 hv4;have hr10:=h7;obtain rfl:=h7;refine zp5 Z (qh qa h Z Z Z fun _ z h=>zs 0 h Z fun _ h=>X1 10 0 h Z ?_);obtain⟨⟨r8,r9⟩,e9,F⟩:=qd F;refine qaJ (r8,r9) h (cB 28 Z) (qne (h.grp 1 1 Z Z) (h.grp 1 0 Z Z) e9) Z Z Z Z fun _ _ _ hv5 f0=>?_;obtain⟨_,_,rfl,hv6,f1⟩:=hv5.consI f0;obtain⟨rfl,h⟩:=hv6.lastI f1;refine X0 9 Z ?_;obtain⟨⟨r11,r12,r13,r14⟩,f2,F⟩:=qd F;refine qmV (r11,r12,r13,r14) b h (cB 27 Z) (qdW (b.atB h) ⟨_,_,rfl,(b.inBS h s1)⟩ f2) Z Z Z Z fun _ _ _ h hv8=>?_;obtain⟨_,_,rfl,a5,hv9⟩:=qce hv8;have f3:=a5;obtain⟨_,_,_,_,_,_,_,_,_,_,_,_,_,_,rfl,_,_,_,_,_,_,_⟩:=qcg a5;replace h:=h.grpAdd 0 Z f3;obtain⟨_,_,rfl,a6,h8⟩:=qce hv9;have hr19:=a6;obtain rfl:=a6;obtain⟨_,_,rfl,a7,h9⟩:=qce h8;have f4:=a7;obtain⟨_,_,rfl,_⟩:=a7;replace h:=h.grpAdd 0 Z f4;obtain⟨_,rfl,a8⟩:=qf8 h9;have hr23:=a8;obtain rfl:=a8;refine zp5 Z (zs 1 h Z fun _ h=>X0 10 Z (ql Z F ?_ ?_))<;>intro F
 ·refine X1 6 1 h Z ?_;obtain⟨⟨r16,r17⟩,f5,F⟩:=qd F;refine qaJ (r16,r17) h (cB 29 Z) (qm0 (h.grp 0 1 Z Z) (h.grp 0 0 Z Z) f5) Z Z Z Z fun _ _ _ i2 f6=>?_;obtain⟨_,_,rfl,i3,f7⟩:=i2.consI f6;obtain⟨rfl,h⟩:=i3.lastI f7;refine X0 7 Z ?_;obtain⟨KF1,d1,_,F,d0⟩:=bindE F;refine qaE (fun e w'=>∃ b1,KF1 b1=V r∧e=[(2,.bool b1)]∧SH w w' []) ?_ ?_
  ·refine X0 5 Z (qi (t:=56) F Z ?_ ?_)<;>intro F
   ·refine X0 7 Z ?_;replace h:=h.grpKeep [1] 0 Z;replace h:=h.p [0,1] Z;replace h:=h.p [] Z;obtain rfl:=qb F;exact rG ⟨_,d0,rfl,h⟩ Z
   refine X0 5 Z ?_;replace h:=h.grpKeep [1] 0 Z;replace h:=h.p [0,1] Z;replace h:=h.p [] Z;obtain rfl:=qb F;exact rG ⟨_,d0,rfl,h⟩ Z
  rintro _ _ ⟨b1,F,rfl,h⟩;subst d1;exact rb h F Z
 refine X1 6 1 h Z ?_;obtain⟨⟨i,r20⟩,f8,F⟩:=qd F;refine qaJ (i,r20) h (cB 30 Z) (qkO (h.grp 0 1 Z Z) (h.grp 0 0 Z Z) f8) Z Z Z Z fun _ _ _ i4 f9=>?_;obtain⟨c3,_,R,N,_,rfl,i5,g1⟩:=i4.consL f9;obtain⟨rfl,h⟩:=i5.lastI g1;refine X0 9 Z ?_;obtain⟨⟨r22,r23,r24,r25⟩,g2,F⟩:=qd F;refine qmV (r22,r23,r24,r25) b h (cB 27 Z) (qdW (b.atB h) ⟨_,_,rfl,(b.inBS h s1)⟩ g2) Z Z Z Z fun _ _ _ h i6=>?_;obtain⟨_,_,rfl,a9,i7⟩:=qce i6;have g3:=a9;obtain⟨_,_,_,_,_,_,_,_,_,_,_,_,_,_,rfl,_,_,_,_,_,_,_⟩:=qcg a9;replace h:=h.grpAdd 0 Z g3;obtain⟨_,_,rfl,b4,i8⟩:=qce i7;have hr36:=b4;obtain rfl:=b4;obtain⟨_,_,rfl,b5,i9⟩:=qce i8;have g4:=b5;obtain⟨_,_,rfl,_⟩:=b5;replace h:=h.grpAdd 0 Z g4;obtain⟨_,rfl,b6⟩:=qf8 i9;have hr40:=b6;obtain rfl:=b6;refine zp5 Z (zs 3 h Z fun _ h=>X1 9 3 h Z ?_);obtain⟨⟨v,r28⟩,g5,F⟩:=qd F;refine qaJ (v,r28) h (cB 31 Z) (qns (h.grp 0 1 Z Z) (h.grp 0 0 Z Z) g5) Z Z Z Z fun _ _ _ k0 g6=>?_;obtain⟨c8,_,a3,Y,_,rfl,k1,g7⟩:=k0.consL g6;obtain⟨rfl,h⟩:=k1.lastI g7;refine X0 9 Z ?_;obtain⟨⟨a,a4,k,r33⟩,g8,F⟩:=qd F;refine qmV (a,a4,k,r33) b h (cB 27 Z) (qdW (b.atB h) ⟨_,_,rfl,(b.inBS h s1)⟩ g8) Z Z Z Z fun _ _ c4 h k2=>?_;obtain⟨_,_,rfl,b7,k3⟩:=qce k2;have g9:=b7;obtain⟨y,x,o,l,f,c,g,d,u,s,D,A,H,B,rfl,_,_,_,_,_,_,_⟩:=qcg b7;replace h:=h.grpAdd 0 Z g9;obtain⟨_,_,rfl,b8,k4⟩:=qce k3;have hr49:=b8;obtain rfl:=b8;obtain⟨_,_,rfl,b9,k5⟩:=qce k4;have h1:=b9;obtain⟨I,C,rfl,_⟩:=b9;replace h:=h.grpAdd 0 Z h1;obtain⟨_,rfl,c0⟩:=qf8 k5;have hr53:=c0;obtain rfl:=c0;refine zp5 Z (zs 5 h Z fun _ h=>X4 14 5 5 5 5 h Z ?_);obtain⟨⟨p,r36⟩,h2,F⟩:=qd F;refine qaJ (p,r36) h (cB 32 Z) (qfV ⟨[oS y a.Ac.Ap.As.length x],[oS o a.Ac.Aa.Ab.length l,oS f a.Ac.Aa.Am.length c,oS g a.Ac.Aa.Ai.length d,oS u a.Ac.Af.length s],rfl,⟨_,_,rfl,(qcx (h.grp 0 1 Z Z)).1.1⟩,⟨[oS o a.Ac.Aa.Ab.length l,oS f a.Ac.Aa.Am.length c,oS g a.Ac.Aa.Ai.length d],[oS u a.Ac.Af.length s],rfl,⟨[oS o a.Ac.Aa.Ab.length l],[oS f a.Ac.Aa.Am.length c,oS g a.Ac.Aa.Ai.length d],rfl,⟨_,_,rfl,(qcx (h.grp 0 1 Z Z)).2.1.1⟩,⟨[oS f a.Ac.Aa.Am.length c],[oS g a.Ac.Aa.Ai.length d],rfl,⟨_,_,rfl,(qcx (h.grp 0 1 Z Z)).2.2.1.1⟩,⟨_,_,rfl,(qcx (h.grp 0 1 Z Z)).2.2.2.1.1⟩⟩⟩,⟨_,_,rfl,(qcx (h.grp 0 1 Z Z)).2.2.2.2.1.1⟩⟩⟩ (qcc _) ⟨_,_,rfl,(qcx (h.grp 0 1 Z Z)).2.2.2.2.2.1.1⟩ ⟨_,_,rfl,(qcx (h.grp 0 1 Z Z)).2.2.2.2.2.2.1⟩ h2) Z Z Z Z fun _ _ _ k6 h3=>?_;obtain⟨c9,_,_,_,rfl,c2,h4⟩:=k6.cons h3;obtain⟨T,O,W,P,X,Q,rfl,-,-,-⟩:=qb0 (c2.sh.own 0 Z);obtain⟨rfl,h⟩:=c2.lastI h4;refine zp3 Z (qh qa h Z Z Z fun _ J h=>zs 0 h Z fun _ h=>X0 4 Z ?_);obtain⟨KF2,d3,_,F,M⟩:=bindE F;refine qaE (fun e w'=>∃ b2,KF2 b2=V r∧e=[(3,vp z),(4,vi a4),(5,oS I k.length C),(7,vi r8),(11,oS R i.length N),(13,oS a3 v.length Y),(15,vp J),(127,.bool b2)]∧SH w w' [oX J (qa7 p T W X O P Q) 55,oW c9 (p:qu) (qa7 p T W X O P Q),oG (old w) c4 [fct (k:(List Int)) [oS I k.length C],fct (a:qaA) (qbI a y o f g u D H x l c d s A B)],oW c8 (v:List Int) [oS a3 v.length Y],oW c3 (i:List Int) [oS R i.length N],oX z (qbI a y o f g u D H x l c d s A B) 62]) ?_ ?_
 ·refine X0 4 Z (qi (t:=102) F Z ?_ ?_)<;>intro F
  ·refine X0 26 Z ?_;replace h:=h.p [0,1,2,3,5,6,7,8] Z;replace h:=h.p [0,1,2,3,4,6,7] Z;replace h:=h.p [0,1,2,3,4,5] Z;obtain rfl:=qb F;exact rG ⟨_,M,rfl,h⟩ Z
  refine X0 6 Z (qi (t:=106) F Z ?_ ?_)<;>intro F
  ·refine X0 22 Z ?_;replace h:=h.p [0,1,2,3,5,6,7,8] Z;replace h:=h.p [0,1,2,3,4,6,7] Z;replace h:=h.p [0,1,2,3,4,5] Z;obtain rfl:=qb F;exact rG ⟨_,M,rfl,h⟩ Z
  refine X0 14 Z (qi (t:=114) F Z ?_ ?_)<;>intro F
  ·refine X0 14 Z ?_;replace h:=h.p [0,1,2,3,5,6,7,8] Z;replace h:=h.p [0,1,2,3,4,6,7] Z;replace h:=h.p [0,1,2,3,4,5] Z;obtain rfl:=qb F;exact rG ⟨_,M,rfl,h⟩ Z
  refine X0 12 Z (qi (t:=121) F Z ?_ ?_)<;>intro F
  ·refine X0 7 Z ?_;replace h:=h.p [0,1,2,3,5,6,7,8] Z;replace h:=h.p [0,1,2,3,4,6,7] Z;replace h:=h.p [0,1,2,3,4,5] Z;obtain rfl:=qb F;exact rG ⟨_,M,rfl,h⟩ Z
  refine X0 3 Z ?_;obtain⟨_,_,F,e6,_,_,_,_,hp9,hq9,rfl,d5⟩:=(h.sl 5 Z).1.ix F;refine zx hp9 hq9 ⟨e6.1,qC e6.2.1 (h.sl 5 Z).2⟩ Z (X0 1 Z (zc 0 d5 Z (X0 6 Z ?_)));replace h:=h.p [0,1,2,3,5,6,7,8] Z;replace h:=h.p [0,1,2,3,4,6,7] Z;replace h:=h.p [0,1,2,3,4,5] Z;obtain rfl:=qb F;exact rG ⟨_,M,rfl,h⟩ Z
 rintro _ _ ⟨b2,F,rfl,h⟩;subst d3;refine ql Z F ?_ ?_<;>intro F
 ·refine X0 4 Z ?_;replace h:=h.p [0,1,3,4,5] Z;exact rb h F Z
 refine X0 6 Z ?_;obtain⟨o2,F,L⟩:=qd F;refine qn (rL (fun m e w'=>∃ i1,qb6 i v p m i1=V o2∧e=[(3,vp z),(4,vi a4),(5,oS I k.length C),(7,vi r8),(11,oS R i.length N),(13,oS a3 v.length Y),(15,vp J),(17,vi i1)]∧SH w w' [oX J (qa7 p T W X O P Q) 55,oW c9 (p:qu) (qa7 p T W X O P Q),oG (old w) c4 [fct (k:(List Int)) [oS I k.length C],fct (a:qaA) (qbI a y o f g u D H x l c d s A B)],oW c8 (v:List Int) [oS a3 v.length Y],oW c3 (i:List Int) [oS R i.length N],oX z (qbI a y o f g u D H x l c d s A B) 62]) n ⟨_,F,rfl,h⟩ Z ?_);rintro m1 _ _ ⟨i1,F,rfl,h⟩;rcases m1 with _|m1
 ·cases F
 refine X0 8 Z (ql Z F ?_ ?_)<;>intro F
 ·refine X0 4 Z (rD (zd2 Z ?_));obtain⟨_,_,F,d6,_,_,_,_,hp1,hq1,rfl,hc5⟩:=(h.sl 4 Z).1.ix F;refine zdx hp1 hq1 ⟨d6.1,qC d6.2.1 (h.sl 4 Z).2⟩ Z (zdc 0 hc5 Z (zd2 Z (qaC (t:=139) F Z ?_ ?_)))<;>intro F
  ·refine Y0 32 Z (dN h fun _ h=>qbS Z Z (X0 4 Z ?_));replace h:=h.p [0,1,3,4,5] Z;obtain rfl:=qb F;replace F:=L;exact rb h F Z
  refine Y0 5 Z ?_;obtain⟨_,_,F,d7,_,_,_,_,hp2,hq2,rfl,hc6⟩:=(h.sl 4 Z).1.ix F;refine zdx hp2 hq2 ⟨d7.1,qC d7.2.1 (h.sl 4 Z).2⟩ Z (Y0 1 Z (zdc 0 hc6 Z (Y1 4 0 h Z ?_)));refine Y0 6 Z (qaC (t:=149) F Z ?_ ?_)<;>intro F
  ·refine Y0 22 Z (dN h fun _ h=>qbS Z Z (X0 4 Z ?_));replace h:=h.p [0,1,3,4,5] Z;obtain rfl:=qb F;replace F:=L;exact rb h F Z
  refine Y0 5 Z ?_;obtain⟨_,_,F,d8,_,_,_,_,hp3,hq3,rfl,hc7⟩:=(h.sl 3 Z).1.ix F;refine zdx hp3 hq3 ⟨d8.1,qC d8.2.1 (h.sl 3 Z).2⟩ Z (Y0 1 Z (zdc 0 hc7 Z (Y0 5 Z ?_)));obtain⟨_,_,F,d9,_,_,_,_,hp4,hq4,rfl,hc8⟩:=(h.sl 4 Z).1.ix F;refine zdx hp4 hq4 ⟨d9.1,qC d9.2.1 (h.sl 4 Z).2⟩ Z (Y0 1 Z (zdc 0 hc8 Z (Y0 6 Z (qaC (t:=161) F Z ?_ ?_))))<;>intro F
  ·refine Y0 10 Z (dN h fun _ h=>qbS Z Z (X0 4 Z ?_));replace h:=h.p [0,1,3,4,5] Z;obtain rfl:=qb F;replace F:=L;exact rb h F Z
  refine Y1 4 0 h Z ?_;refine Y0 5 Z ?_;obtain⟨_,_,F,e2,_,_,_,_,hp5,hq5,rfl,hc9⟩:=(h.sl 4 Z).1.ix F;refine zdx hp5 hq5 ⟨e2.1,qC e2.2.1 (h.sl 4 Z).2⟩ Z (Y0 1 Z (zdc 0 hc9 Z (Y0 1 Z ?_)));obtain⟨_,_,F,e3,_,_,_,_,hp6,hq6,rfl,d4⟩:=(qid (h.own 1 Z)).1.1.ix F;refine zdx hp6 hq6 ⟨e3.1,qC e3.2.1 (qid (h.own 1 Z)).1.2⟩ Z (Y0 1 Z (zdc 0 d4 Z (Y0 3 Z (dN h fun _ h=>ql Z F ?_ ?_))))<;>intro F
  ·refine X0 4 Z ?_;replace h:=h.p [0,1,3,4,5] Z;obtain rfl:=qb F;replace F:=L;exact rb h F Z
  exact X0 7 Z (rK ⟨_,F,rfl,h⟩ Z)
 refine qv Z ?_;obtain rfl:=qb F;replace F:=L;refine qcr (rA [] [0,4] h Z fun _ h=>M1 63 [0,1,2,3,4,5] 0 (h.p [0,4] Z) Z ?_);obtain⟨_,hy7,F,e4,_,_,_,_,e7,e8,rfl,_⟩:=(h.sl 4 Z).1.ix F;refine Ax 6 127 e7 e8 ⟨e4.1,qC e4.2.1 (h.sl 4 Z).2⟩ (h.p [0,4] Z) Z (Aw 7 255 (fun w' hw=>qb1 qa (qJ (w1:=w) (S1:=fun _=>False) hw 1 Z hy7 e7 e8 Z) (j:=0) Z Z Z) (h.p [0,4] Z) Z ?_);obtain⟨y8,k7,F,e5,_,_,_,_,c6,c7,h5,_⟩:=(qid (h.own 1 Z)).2.1.1.ix F;obtain rfl:=qt h5;refine Ax 8 511 c6 c7 ⟨e5.1,qC e5.2.1 (qid (h.own 1 Z)).2.1.2⟩ (h.p [0,4] Z) Z (qiB (fun e w'=>∃ c5,e=[(18,vp c5),(3,vp z),(4,vi a4),(5,oS I k.length C),(7,vi r8)]∧SH w w' [oX c5 (qgm y8) 68,oX J (qa7 p T W X O P Q) 55,oG (old w) c4 [fct (k:(List Int)) [oS I k.length C],fct (a:qaA) (qbI a y o f g u D H x l c d s A B)],oW c3 (i:List Int) [oS R i.length N],oX z (qbI a y o f g u D H x l c d s A B) 62]) 0 (bits 12 4095) ?_ ?_)
 ·intro K;refine At 9 10 1023 1535 Z ?_ ?_
  ·refine r_v (qb1 qa (qr1 (qid (h.own 1 Z)).2.1.1 k7 c6 c7 (qA (w:=w) (S:=fun _=>False) y8)) (j:=0) Z Z Z) Z (Ag (h.p [0,4] Z) (Ao 10 2047 Z (qh qa h Z Z Z fun w30 bb6 h=>Ag (h.p [1,5] Z) (Ao 11 4095 Z (zs 0 h Z fun w31 h=>Ag (h.p [1,5] Z) ?_)))));replace h:=h.p [0,1,3,5,6] Z;exact aK K ⟨_,rfl,h⟩ Z
  refine qh qa h Z Z Z fun w30 bb6 h=>Ag (h.p [1,5] Z) (Ao 9 2047 Z (r_v (qb1 qa (qr1 (qid (h.own 2 Z)).2.1.1 k7 c6 c7 (qA (w:=w) (S:=fun _=>False) y8)) (j:=0) Z Z Z) Z (Ag (h.p [1,5] Z) (Ao 11 4095 Z (zs 0 h Z fun w31 h=>Ag (h.p [1,5] Z) ?_)))));replace h:=h.p [0,1,3,5,6] Z;exact aK K ⟨_,rfl,h⟩ Z
 rintro _ _ ⟨c5,rfl,h⟩;refine Ad (X1 7 0 h Z (qi (t:=186) F Z ?_ ?_))<;>intro F
 ·refine X1 10 0 h Z (qi (t:=192) F Z ?_ ?_)<;>intro F
  ·refine X1 7 4 h Z (zcB h F (qnY (h.grp 2 1 Z Z) (h.grp 2 0 Z Z)) Z fun _ _ h F=>X0 3 Z ?_);replace h:=h.p [0,1,3,4] Z;exact rb h F Z
  refine X0 7 Z ?_;replace h:=h.p [0,1,3,4] Z;exact rb h F Z
 refine X0 13 Z ?_;replace h:=h.p [0,1,3,4] Z;exact rb h F Z

end Go.Fw


namespace Go.Fw
open Go
set_option maxRecDepth 100000
theorem quK {j:qaA}{start:Int}{path:List Int}(h:qkU j)(b:path.length≤1048576)(mode:Int) :
  (∃ code:Int,code ≠ 0∧Ev (fun n=>qhq n j start path mode) (0,code)∧Ev (fun n=>qbB n j mode start path) (U,code)) ∨
  ∃ t R f,WkOk j t R∧JobT j t f∧modeB mode=true∧pathB j start path=true∧Ev (fun n=>qbB n j mode start path) (wkV j t R,0)∧∀ m,modeB m=true→Ev (fun n=>qbB n j m start path) (wkV j t R,0):=by
 unfold qhq;rcases qoR (start:=start) h b mode with⟨code,hne,hs,hi⟩|⟨t,R,hw,hs,hi⟩
 ·exact .inl ⟨code,hne,Ev.bind hs (Ev.tt (qir hne) .done),hi⟩
 ·cases hm:modeB mode
  ·rw[hm] at hi;refine .inl ⟨2,by decide,Ev.bind hs (Ev.ff Z ?_),hi⟩;simp only[qqd,hm];exact .done
  ·rw[hm] at hi;obtain⟨e,c,_⟩:=qtB (j:=j) (t:=t) (start:=start) hw.tg.bl h.Ar.len b;cases hb:pathB j start path
   ·rw[hb] at hi c;refine .inl ⟨5,by decide,Ev.bind hs (Ev.ff Z ?_),hi⟩;simp only[qqd,hm,jd];exact Ev.ff Z (Ev.bind c .done)
   ·rw[hb] at hi;obtain⟨f,d⟩:=qxg h hs;exact .inr ⟨t,R,f,hw,d,rfl,rfl,hi,fun m a=>qrV h hw hs b hb a⟩
section
variable {code:List (IntK .u8)}
theorem qoP (J:rngL rng8 code):Ev (fun n=>qiJ n code) true:=by
 unfold qiJ qpA;refine Ev.bindN Z (Ev.bif (fun _=>.done) (fun N=>?_));have N:code.length≤4096:=by have:=of_decide_eq_false N;omega
 obtain⟨⟨j,start,path,mode⟩,p,M,_,x,_⟩:=qsw (code:=code) ⟨by omega,J.2⟩ (by omega);dsimp only at M x;have h:=M.ok;have O:=x.len;refine Ev.bind p ?_;dsimp only;rcases quK (start:=start) h O mode with⟨c,hne,hs,hi⟩|⟨t,R,f,hw,hT,hm,hb,hi,hi'⟩
 ·have B:Ev (fun n=>qeM n j start path mode) (0,c):=by
   unfold qeM;exact Ev.bind hi (Ev.tt (qir hne) .done)
  exact Ev.bind B (Ev.bind p (Ev.tt (qir hne) (Ev.bind hs (Ev.bind (b:=true) (Ev.tt (by simp) (Ev.now Z)) .done))))
 ·have h1:=hw.tg.bl;have a3:=qvk hw hb;have B:Ev (fun n=>qeM n j start path mode) (ofS mode (arS f (linksL j.Ac) t (srcV (srcO j.Ar start)).2.Ah path path.length),0):=by
   unfold qeM;refine Ev.bind hi (Ev.ff Z (Ev.bind (qvy h hw hT.si (by omega) hb) ?_));simp only[qw7 hm];exact .done
  have o:=hi' 0 Z;have D:Ev (fun n=>qgZ n j start path) (pre (atP (linksL j.Ac) start path) (path.length+1),0):=by
   unfold qgZ;exact Ev.bind o (Ev.ff Z (Ev.bind (qrv (t:=t) (R:=R) O hb) .done))
  have T:Ev (fun n=>qiL n j start path) true:=by
   unfold qiL;exact Ev.bind o .done
  have u:=qw3 hw hT hb;have g:=u path.length (jf _);have y:atP (linksL j.Ac) start path 0=start:=rfl;have v:∀ i,i≤path.length→∃ k:Nat,k<ndB j.Ac∧atP (linksL j.Ac) start path i=(k:Int)∧gt t.Av k=true:=fun i hi=>by
   obtain⟨k,L,z,m⟩:=u i hi;exact⟨k,L,z,m.r⟩
  have Y:∀ k,k<ndB j.Ac→gt t.Av k=true→spanB (gt t.Ah k)=true:=fun k J Q=>(hT.eq k J).b Q;generalize arS f (linksL j.Ac) t (srcV (srcO j.Ar start)).2.Ah path path.length=A at B g;generalize atP (linksL j.Ac) start path=P at D g y v;have d:(pre P (path.length+1)).length=path.length+1:=qhX;have F:Ev (fun n=>qhW n j start path) (hlvL (pre P (path.length+1)),0):=by
   have C:Ev (fun n=>qcF (pre P (path.length+1)) n (pre P (path.length+1)) 0) (hlvL (pre P (path.length+1)),((pre P (path.length+1)).length:Int)):=by
    generalize pre P (path.length+1)=xs at d ⊢;have:=loopF (Lf:=fun n s i=>qcF xs n s i) (S:=mixS (fun i=>W64 ((gt xs i).tdiv 2)) xs) (len:=xs.length) (fin:=(hlvL xs,(xs.length:Int)))
     (fun n=>by
      have e:(mixS (fun i=>W64 ((gt xs i).tdiv 2)) xs xs.length).length=xs.length:=qp3 (jf _);simp only[qcF,e,qq (jf _),cond_false];rw[qts];rfl)
     (fun i hi X H=>by
      have e:(mixS (fun i=>W64 ((gt xs i).tdiv 2)) xs i).length=xs.length:=qp3 (by omega);simp only[qcF,e,qp hi,cond_true,qvA hi,jd,wS i];rw[←qdX hi,qva (f:=fun i=>W64 ((gt xs i).tdiv 2)) hi];exact H)
    rwa [qtt] at this
   unfold qhW;exact Ev.bind D (Ev.bind C .done)
  refine Ev.bind B (Ev.bind p (Ev.ff Z (Ev.bind D (Ev.bind p (Ev.bind F (Ev.bind p (Ev.bind hT.pt ?_)))))));have l:∀ i,i<path.length+1→idx (pre P (path.length+1)) (i:Int)=V (P i):=fun i hi=>qgN hi;have K:∀ i,i<path.length+1→idx (hlvL (pre P (path.length+1))) (i:Int)=V (W64 ((P i).tdiv 2)):=fun i hi=>by
   unfold hlvL;rw[qgN (f:=fun i=>W64 ((gt (pre P (path.length+1)) i).tdiv 2)) (by rw[qhX];exact hi),qs5 hi]
  have I:(hlvL (pre P (path.length+1))).length=path.length+1:=by unfold hlvL;rw[qhX,qhX]
  have Q:=hw.tm.r;have ha:=hw.tm.a;have e0:idx (pre P (path.length+1)) 0=V start:=by rw[←y];exact l 0 (by omega)
  refine Ev.bind (b:=false) ?_ (Ev.ff Z ?_)
  ·refine Ev.ff Z (Ev.ff Z (Ev.ff ?_ (Ev.ff ?_ (Ev.bindN e0 (Ev.now (by simp))))))
   ·dsimp only;rw[d,qR (by omega) (by omega)];simp
   ·rw[d,I];simp
  ·have W:Ev (fun n=>qb6 (pre P (path.length+1)) (hlvL (pre P (path.length+1))) t n 0) (.nxt ((path.length+1:Nat):Int)):=by
    refine qwD (τ:=Unit) (st:=fun _=>()) (Lf:=fun n _ i=>qb6 (pre P (path.length+1)) (hlvL (pre P (path.length+1))) t n i) (len:=path.length+1) (Ev.succ ?_) (fun i hi X H=>Ev.succ ?_)
    ·simp only[qb6,d];exact Ev.ff (qq (jf _)) .done
    ·obtain⟨k,L,z,m⟩:=v i (by omega);have a:=l i hi;have r:=K i hi;rw[z] at a r;simp only[qb6,d,wS i];refine Ev.tt (qp hi) (Ev.bindN a (Ev.ff (decide_eq_false (by omega)) (Ev.bindN a (Ev.ff (decide_eq_false (by omega)) (Ev.bindN r (Ev.bindN a (Ev.ff (by simp) (Ev.bindN a (Ev.bindN (qz (by omega)) (Ev.ff (by rw[m];rfl) H)))))))))) 
   refine Ev.bind W ?_;obtain⟨k,L,z,m⟩:=g;have el:W64 (((pre P (path.length+1)).length:Int)-1)=(path.length:Int):=by rw[d,qR (by omega) (by omega)];omega
   have a:=l path.length (by omega);rw[z] at a;dsimp only;rw[el];have b1:=m.i.e;have b2:=m.i.l;have b3:=m.o;refine Ev.bindN a (Ev.bindN (qz (by omega)) (Ev.tt ?_ (Ev.tt ?_ (Ev.bind T .done))))
   ·refine decide_eq_true ?_;rcases qnE hm with rfl|rfl
    ·show A.Aq≤_;omega
    ·show A.Bd≤_;omega
   ·refine decide_eq_true ?_;rcases qnE hm with rfl|rfl
    ·show A.Aq ≥ _;omega
    ·show A.Bd ≥ _;omega
end
end Go.Fw
