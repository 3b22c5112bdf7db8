/- By a program of mine (gen.py): for each function a plain function and the proof that the code computes it. -/
import Derived.Test.YtbmbbkjleheokaaGreatDoorDR3
import Derived.Test.YtbmbbkjleheokaaGreatDoorTM
open Option renaming some → V, none → U
open Nat renaming le_refl → jf, zero_le → jQ, zero_add → Je
open List renaming drop_eq_getElem_cons → jC, length_take → jM

namespace Go.Fw
open Go Go.Proofs Go.Proofs.Tryz
open Go.RowKit (Below)
open Ch renaming own→oW,box→oX,grp→oG
open GoT renaming v→oV
open Go.Value renaming slice→oS
set_option maxRecDepth 100000
set_option maxHeartbeats 6400000
variable {n:Nat}{w:World}{cs1 cs2 cs3 cs4 cs5 cs6 cs7 cs8 cs9:List Value}
def qqp (_:Nat)(code:(List (IntK .u8))):Option Bool :=V (decide ((code.length:Int) > 4096))
theorem qrT {code:(List (IntK .u8))}(a:Ro w code cs1){r:Bool}(F:qqp n code=V r):RetV prog 9 [oV (List (IntK .u8)) cs1] w r:=by
 obtain⟨_,_,rfl,_⟩:=a;exact zV 6 func9 Z fun h=>X0 11 Z (rb h F Z)
def qk3 (n:Nat)(a_0:(List (IntK .u8))):Option Bool :=(qqp n a_0).bind fun r1 =>bif r1 then V true else(qa2 n a_0).bind fun o=>match o with| (N,O,P) =>(qbJ n N O P).bind fun o=>match o with| (b,K,L) =>(qa2 n a_0).bind fun o=>match o with| (g,h,i) =>bif (L != 0) then(qfx n g h i).bind fun o=>match o with| (_,_,l) =>(bif (L==l) then V ((b.length:Int)==0) else V false).bind fun b1 =>V b1 else(qbR n g h i).bind fun o=>match o with| (c,m) =>(qa2 n a_0).bind fun o=>match o with| (p,r,s) =>(qbR n p s r).bind fun o=>match o with| (t,u) =>(qa2 n a_0).bind fun o=>match o with| (v,x,y) =>(qgd n v x y).bind fun o=>match o with| (z,k) =>(qa2 n a_0).bind fun o=>match o with| (d,a,f) =>(bif (m != 0) then V true else bif (u != 0) then V true else bif (c != t) then V true else bif decide (c<0) then V true else bif (!(K==(a.Bm==f.Bm))) then V true else V (!(K==(k==0)))).bind fun b2 =>bif b2 then V false else bif (!K) then(bif (c==0) then bif ((b.length:Int)==0) then V (k==4) else V false else V false).bind fun b3 =>V b3 else(bif decide ((b.length:Int) > (a.Be.length:Int)) then V true else bif decide ((b.length:Int) > (f.Be.length:Int)) then V true else(subS a.Be 0 (b.length:Int)).bind fun Q =>(qhS n b Q).bind fun I =>bif (!I) then V true else(subS f.Be 0 (b.length:Int)).bind fun R =>(qhS n b R).bind fun J =>V (!J)).bind fun M =>bif M then V false else(qiM n d a.Bm b).bind fun o=>match o with| (A,B) =>(qf1 n d a.Bm b 1).bind fun o=>match o with| (C,D) =>(qf1 n d a.Bm b 0).bind fun o=>match o with| (F,H) =>bif (B==0) then bif (D==0) then bif (H==0) then bif (A==z) then V (c==(W64 (C-F))) else V false else V false else V false else V false
theorem qoG {a_0:(List (IntK .u8))}(ha1:Ro w a_0 cs1){r:Bool}(F:qk3 n a_0=V r):RetV prog 7 [oV (List (IntK .u8)) cs1] w r:=by
 obtain⟨_,_,rfl,s1⟩:=ha1;refine zV 226 func7 Z fun h=>X0 8 Z (zcB h F (qrT ⟨_,_,rfl,(h.oldS s1)⟩) Z fun _ _ h F=>qa7 (qk Z F ?_ ?_))<;>intro F
 ·exact X0 4 Z (rb h F Z)
 refine X0 4 Z ?_;have a:Rg (old w) w (old w) w:=.start (fun _ h=>h);obtain⟨⟨r3,r4,r5⟩,hr2,F⟩:=qd F;refine qm1 (r3,r4,r5) a h (cB 34 Z) (qb1 (a.atB h) ⟨_,_,rfl,(a.inBS h s1)⟩ hr2) Z Z Z Z fun _ _ _ h hv1=>?_;obtain⟨_,_,rfl,hr3,hv2⟩:=qct hv1;have hr4:=hr3;obtain⟨_,_,_,_,_,_,_,_,_,_,_,_,_,_,rfl,_,_,_,_,_,_,_⟩:=qbC hr3;replace h:=h.grpAdd 0 Z hr4;obtain⟨_,_,rfl,hr5,hv3⟩:=qct hv2;have hr6:=hr5;obtain⟨_,_,rfl,_⟩:=qav hr5;replace h:=h.grpAdd 0 Z hr6;obtain⟨_,rfl,hr7⟩:=qe1 hv3;have hr8:=hr7;obtain⟨_,_,rfl,_⟩:=qav hr7;replace h:=h.grpAdd 0 Z hr8;refine zp4 Z (qi qa h Z Z Z fun _ g h=>qi qa h Z Z Z fun _ i h=>qi qa h Z Z Z fun _ bb3 h=>zs 2 h Z fun _ h=>zs 1 h Z fun _ h=>zs 0 h Z fun _ h=>X3 6 2 1 0 h Z ?_);obtain⟨⟨r7,r8,r9⟩,hr9,F⟩:=qd F;refine qaF (r7,r8,r9) h (cB 35 Z) (qln (h.grp 3 2 Z Z) (h.grp 3 1 Z Z) (h.grp 3 0 Z Z) hr9) Z Z Z Z fun _ _ _ hv4 hr10=>?_;obtain⟨S3,_,z,l,_,rfl,hv5,hr11⟩:=hv4.consL hr10;obtain⟨_,_,rfl,hv6,hr12⟩:=hv5.consB hr11;obtain⟨rfl,h⟩:=hv6.lastI hr12;refine X0 11 Z ?_;obtain⟨⟨r11,r12,r13⟩,hr14,F⟩:=qd F;refine qm1 (r11,r12,r13) a h (cB 34 Z) (qb1 (a.atB h) ⟨_,_,rfl,(a.inBS h s1)⟩ hr14) Z Z Z Z fun _ _ _ h hv8=>?_;obtain⟨_,_,rfl,L,hv9⟩:=qct hv8;have hr16:=L;obtain⟨_,_,_,_,_,_,_,_,_,_,_,_,_,_,rfl,_,_,_,_,_,_,_⟩:=qbC L;replace h:=h.grpAdd 0 Z hr16;obtain⟨_,_,rfl,M,hv10⟩:=qct hv9;have hr18:=M;obtain⟨_,_,rfl,_⟩:=qav M;replace h:=h.grpAdd 0 Z hr18;obtain⟨_,rfl,N⟩:=qe1 hv10;have hr20:=N;obtain⟨_,_,rfl,_⟩:=qav N;replace h:=h.grpAdd 0 Z hr20;refine zp4 Z (zs 4 h Z fun _ h=>zs 3 h Z fun _ h=>zs 2 h Z fun _ h=>X0 7 Z (qk Z F ?_ ?_))<;>intro F
 ·refine X3 5 4 3 2 h Z ?_;obtain⟨⟨r15,r16,r17⟩,hr21,F⟩:=qd F;refine qaF (r15,r16,r17) h (cB 36 Z) (qlC (h.grp 0 2 Z Z) (h.grp 0 1 Z Z) (h.grp 0 0 Z Z) hr21) Z Z Z Z fun _ _ _ hv11 hr22=>?_;obtain⟨_,_,_,_,_,rfl,hv12,hr23⟩:=hv11.consL hr22;obtain⟨_,_,rfl,hv13,hr24⟩:=hv12.consB hr23;obtain⟨rfl,h⟩:=hv13.lastI hr24;refine X0 9 Z ?_;obtain⟨KF1,hKF1,_,F,hK1⟩:=bindE F;refine qaA (fun e w'=>∃ b1,KF1 b1=V r∧e=[(2,.bool b1)]∧SH w w' []) ?_ ?_
  ·refine X0 5 Z (qg (t:=59) F Z ?_ ?_)<;>intro F
   ·refine X0 9 Z ?_;replace h:=h.p [0,1,2,3,4,5] Z;replace h:=h.p [] Z;obtain rfl:=qb F;exact rG ⟨_,hK1,rfl,h⟩ Z
   refine X0 6 Z ?_;replace h:=h.p [0,1,2,3,4,5] Z;replace h:=h.p [] Z;obtain rfl:=qb F;exact rG ⟨_,hK1,rfl,h⟩ Z
  rintro _ _ ⟨b1,F,rfl,h⟩;subst hKF1;exact rb h F Z
 refine X3 6 4 3 2 h Z ?_;obtain⟨⟨a6,r20⟩,hr26,F⟩:=qd F;refine qaF (a6,r20) h (cB 37 Z) (qkj (h.grp 0 2 Z Z) (h.grp 0 1 Z Z) (h.grp 0 0 Z Z) hr26) Z Z Z Z fun _ _ _ hv15 hr27=>?_;obtain⟨_,_,rfl,hv16,hr28⟩:=hv15.consI hr27;obtain⟨rfl,h⟩:=hv16.lastI hr28;refine X0 9 Z ?_;obtain⟨⟨r22,r23,r24⟩,hr30,F⟩:=qd F;refine qm1 (r22,r23,r24) a h (cB 34 Z) (qb1 (a.atB h) ⟨_,_,rfl,(a.inBS h s1)⟩ hr30) Z Z Z Z fun _ _ _ h hv18=>?_;obtain⟨_,_,rfl,O,hv19⟩:=qct hv18;have hr32:=O;obtain⟨_,_,_,_,_,_,_,_,_,_,_,_,_,_,rfl,_,_,_,_,_,_,_⟩:=qbC O;replace h:=h.grpAdd 0 Z hr32;obtain⟨_,_,rfl,P,hv20⟩:=qct hv19;have hr34:=P;obtain⟨_,_,rfl,_⟩:=qav P;replace h:=h.grpAdd 0 Z hr34;obtain⟨_,rfl,Q⟩:=qe1 hv20;have hr36:=Q;obtain⟨_,_,rfl,_⟩:=qav Q;replace h:=h.grpAdd 0 Z hr36;refine zp4 Z (zs 5 h Z fun _ h=>zs 4 h Z fun _ h=>zs 3 h Z fun _ h=>X3 6 5 3 4 h Z ?_);obtain⟨⟨r26,r27⟩,hr37,F⟩:=qd F;refine qaF (r26,r27) h (cB 37 Z) (qkj (h.grp 0 2 Z Z) (h.grp 0 0 Z Z) (h.grp 0 1 Z Z) hr37) Z Z Z Z fun _ _ _ hv21 hr38=>?_;obtain⟨_,_,rfl,hv22,hr39⟩:=hv21.consI hr38;obtain⟨rfl,h⟩:=hv22.lastI hr39;refine X0 9 Z ?_;obtain⟨⟨r29,r30,r31⟩,hr41,F⟩:=qd F;refine qm1 (r29,r30,r31) a h (cB 34 Z) (qb1 (a.atB h) ⟨_,_,rfl,(a.inBS h s1)⟩ hr41) Z Z Z Z fun _ _ _ h hv24=>?_;obtain⟨_,_,rfl,R,hv25⟩:=qct hv24;have hr43:=R;obtain⟨_,_,_,_,_,_,_,_,_,_,_,_,_,_,rfl,_,_,_,_,_,_,_⟩:=qbC R;replace h:=h.grpAdd 0 Z hr43;obtain⟨_,_,rfl,S,hv26⟩:=qct hv25;have hr45:=S;obtain⟨_,_,rfl,_⟩:=qav S;replace h:=h.grpAdd 0 Z hr45;obtain⟨_,rfl,T⟩:=qe1 hv26;have hr47:=T;obtain⟨_,_,rfl,_⟩:=qav T;replace h:=h.grpAdd 0 Z hr47;refine zp4 Z (zs 6 h Z fun _ h=>zs 5 h Z fun _ h=>zs 4 h Z fun _ h=>X3 6 6 5 4 h Z ?_);obtain⟨⟨a7,r34⟩,hr48,F⟩:=qd F;refine qaF (a7,r34) h (cB 38 Z) (qn0 (h.grp 0 2 Z Z) (h.grp 0 1 Z Z) (h.grp 0 0 Z Z) hr48) Z Z Z Z fun _ _ _ hv27 hr49=>?_;obtain⟨_,_,rfl,hv28,hr50⟩:=hv27.consI hr49;obtain⟨rfl,h⟩:=hv28.lastI hr50;refine X0 9 Z ?_;obtain⟨⟨b,c,f⟩,hr52,F⟩:=qd F;refine qm1 (b,c,f) a h (cB 34 Z) (qb1 (a.atB h) ⟨_,_,rfl,(a.inBS h s1)⟩ hr52) Z Z Z Z fun _ _ S24 h hv30=>?_;obtain⟨_,_,rfl,W,hv31⟩:=qct hv30;have hr54:=W;obtain⟨A,m,B,o,C,p,D,s,H,u,I,v,J,x,rfl,_,_,_,_,_,_,_⟩:=qbC W;replace h:=h.grpAdd 0 Z hr54;obtain⟨_,_,rfl,X,hv32⟩:=qct hv31;have hr56:=X;obtain⟨K,y,rfl,_⟩:=qav X;replace h:=h.grpAdd 0 Z hr56;obtain⟨_,rfl,Y⟩:=qe1 hv32;have hr58:=Y;obtain⟨a5,a4,rfl,_⟩:=qav Y;replace h:=h.grpAdd 0 Z hr58;refine zp4 Z (zs 7 h Z fun _ h=>zs 6 h Z fun _ h=>zs 5 h Z fun _ h=>zNSS ?_);obtain⟨KF4,hKF4,_,F,d⟩:=bindE F;refine qaA (fun e w'=>∃ b2,KF4 b2=V r∧e=[(3,vp g),(4,vp i),(5,vp bb3),(6,oS z r7.length l),(7,.bool r8),(12,vi a6),(16,vi a7),(17,vi r34),(132,.bool b2)]∧SH w w' [oG (old w) S24 [fct (f:qT) (qes f a5 a4),fct (c:qT) (qes c K y),fct (b:qau) (qbV b A B C D H I J m o p s u v x)],oW S3 (r7:List Int) [oS z r7.length l],oX bb3 (qes f a5 a4) 84,oX i (qes c K y) 84,oX g (qbV b A B C D H I J m o p s u v x) 62]) ?_ ?_
 ·refine X0 4 Z (qg (t:=105) F Z ?_ ?_)<;>intro F
  ·refine X0 28 Z ?_;replace h:=h.p [0,2,3,4,5,6,7,8] Z;replace h:=h.p [0,2,3,4,5,6,7] Z;replace h:=h.p [0,2,3,4,5,6] Z;replace h:=h.p [0,1,2,3,4] Z;obtain rfl:=qb F;exact rG ⟨_,d,rfl,h⟩ Z
  refine X0 6 Z (qg (t:=109) F Z ?_ ?_)<;>intro F
  ·refine X0 24 Z ?_;replace h:=h.p [0,2,3,4,5,6,7,8] Z;replace h:=h.p [0,2,3,4,5,6,7] Z;replace h:=h.p [0,2,3,4,5,6] Z;replace h:=h.p [0,1,2,3,4] Z;obtain rfl:=qb F;exact rG ⟨_,d,rfl,h⟩ Z
  refine X0 8 Z (qg (t:=114) F Z ?_ ?_)<;>intro F
  ·refine X0 19 Z ?_;replace h:=h.p [0,2,3,4,5,6,7,8] Z;replace h:=h.p [0,2,3,4,5,6,7] Z;replace h:=h.p [0,2,3,4,5,6] Z;replace h:=h.p [0,1,2,3,4] Z;obtain rfl:=qb F;exact rG ⟨_,d,rfl,h⟩ Z
  refine X0 6 Z (qg (t:=118) F Z ?_ ?_)<;>intro F
  ·refine X0 15 Z ?_;replace h:=h.p [0,2,3,4,5,6,7,8] Z;replace h:=h.p [0,2,3,4,5,6,7] Z;replace h:=h.p [0,2,3,4,5,6] Z;replace h:=h.p [0,1,2,3,4] Z;obtain rfl:=qb F;exact rG ⟨_,d,rfl,h⟩ Z
  refine X2 16 6 5 h Z (qg (t:=127) F Z ?_ ?_)<;>intro F
  ·refine X0 6 Z ?_;replace h:=h.p [0,2,3,4,5,6,7,8] Z;replace h:=h.p [0,2,3,4,5,6,7] Z;replace h:=h.p [0,2,3,4,5,6] Z;replace h:=h.p [0,1,2,3,4] Z;obtain rfl:=qb F;exact rG ⟨_,d,rfl,h⟩ Z
  refine X0 10 Z ?_;replace h:=h.p [0,2,3,4,5,6,7,8] Z;replace h:=h.p [0,2,3,4,5,6,7] Z;replace h:=h.p [0,2,3,4,5,6] Z;replace h:=h.p [0,1,2,3,4] Z;obtain rfl:=qb F;exact rG ⟨_,d,rfl,h⟩ Z
 rintro _ _ ⟨b2,F,rfl,h⟩;subst hKF4;refine qk Z F ?_ ?_<;>intro F
 ·refine X0 4 Z ?_;replace h:=h.p [1,2,3,4] Z;exact rb h F Z
 refine X0 7 Z (qk Z F ?_ ?_)<;>intro F
 ·refine qcq ?_;obtain⟨KF2,hKF2,_,F,a3⟩:=bindE F;refine qaA (fun e w'=>∃ b3,KF2 b3=V r∧e=[(2,.bool b3)]∧SH w w' []) ?_ ?_
  ·refine X0 4 Z (qg (t:=137) F Z ?_ ?_)<;>intro F
   ·refine X0 8 Z (qg (t:=142) F Z ?_ ?_)<;>intro F
    ·refine X0 7 Z ?_;replace h:=h.p [] Z;obtain rfl:=qb F;exact rG ⟨_,a3,rfl,h⟩ Z
    refine X0 5 Z ?_;replace h:=h.p [] Z;obtain rfl:=qb F;exact rG ⟨_,a3,rfl,h⟩ Z
   refine X0 10 Z ?_;replace h:=h.p [] Z;obtain rfl:=qb F;exact rG ⟨_,a3,rfl,h⟩ Z
  rintro _ _ ⟨b3,F,rfl,h⟩;subst hKF2;exact rb h F Z
 refine zKSS ?_;obtain⟨KF3,hKF3,_,F,k⟩:=bindE F;refine qaA (fun e w'=>∃ b4,KF3 b4=V r∧e=[(3,vp g),(4,vp i),(6,oS z r7.length l),(12,vi a6),(16,vi a7),(179,.bool b4)]∧SH w w' [oG (old w) S24 [fct (f:qT) (qes f a5 a4),fct (c:qT) (qes c K y),fct (b:qau) (qbV b A B C D H I J m o p s u v x)],oW S3 (r7:List Int) [oS z r7.length l],oX i (qes c K y) 84,oX g (qbV b A B C D H I J m o p s u v x) 62]) ?_ ?_
 ·refine X1 8 3 h Z (qg (t:=152) F Z ?_ ?_)<;>intro F
  ·refine X0 28 Z ?_;replace h:=h.p [0,1,3,4] Z;obtain rfl:=qb F;exact rG ⟨_,k,rfl,h⟩ Z
  refine X1 14 2 h Z (qg (t:=160) F Z ?_ ?_)<;>intro F
  ·refine X0 20 Z ?_;replace h:=h.p [0,1,3,4] Z;obtain rfl:=qb F;exact rG ⟨_,k,rfl,h⟩ Z
  refine X1 11 3 h Z ?_;obtain⟨_,hx1,F⟩:=qd F;obtain⟨_,_,hp1,hk1,hl1,g1⟩:=qnE (qj7 (h.grp 0 1 Z Z)).1 hx1;refine r_v (qkt qa Z Z Z (qnM g1 (qj7 (h.grp 0 1 Z Z)).2) hp1 hk1 hl1 Z Z Z Z) Z (X0 1 Z (zcB h F (qlG (h.own 1 Z) ⟨_,_,rfl,(qnH (qj7 (h.grp 0 1 Z Z)).1 hx1 hp1 hk1)⟩) Z fun _ _ h F=>X0 4 Z (qg (t:=170) F Z ?_ ?_)))<;>intro F
  ·refine X0 10 Z ?_;replace h:=h.p [0,1,3,4] Z;obtain rfl:=qb F;exact rG ⟨_,k,rfl,h⟩ Z
  refine X1 11 2 h Z ?_;obtain⟨_,hx2,F⟩:=qd F;obtain⟨_,_,hp2,hk2,hl2,g2⟩:=qnE (qj7 (h.grp 0 0 Z Z)).1 hx2;refine r_v (qkt qa Z Z Z (qnM g2 (qj7 (h.grp 0 0 Z Z)).2) hp2 hk2 hl2 Z Z Z Z) Z (X0 1 Z (zcB h F (qlG (h.own 1 Z) ⟨_,_,rfl,(qnH (qj7 (h.grp 0 0 Z Z)).1 hx2 hp2 hk2)⟩) Z fun _ _ h F=>X0 4 Z ?_));replace h:=h.p [0,1,3,4] Z;obtain rfl:=qb F;exact rG ⟨_,k,rfl,h⟩ Z
 rintro _ _ ⟨b4,F,rfl,h⟩;subst hKF3;refine qk Z F ?_ ?_<;>intro F
 ·refine X0 4 Z ?_;replace h:=h.p [1,2,3] Z;exact rb h F Z
 refine X2 7 3 2 h Z ?_;obtain⟨⟨r40,r41⟩,hr59,F⟩:=qd F;refine qaF (r40,r41) h (cB 40 Z) (qnS (h.grp 0 2 Z Z) (h.own 1 Z) hr59) Z Z Z Z fun _ _ _ hv33 hr60=>?_;obtain⟨_,_,rfl,hv34,hr61⟩:=hv33.consI hr60;obtain⟨rfl,h⟩:=hv34.lastI hr61;refine X2 12 3 2 h Z ?_;obtain⟨⟨r43,r44⟩,hr63,F⟩:=qd F;refine qaF (r43,r44) h (cB 28 Z) (qjL (h.grp 0 2 Z Z) (h.own 1 Z) hr63) Z Z Z Z fun _ _ _ hv36 hr64=>?_;obtain⟨_,_,rfl,hv37,hr65⟩:=hv36.consI hr64;obtain⟨rfl,h⟩:=hv37.lastI hr65;refine X2 12 3 2 h Z ?_;obtain⟨⟨r46,r47⟩,hr67,F⟩:=qd F;refine qaF (r46,r47) h (cB 28 Z) (qjL (h.grp 0 2 Z Z) (h.own 1 Z) hr67) Z Z Z Z fun _ _ _ hv39 hr68=>?_;obtain⟨_,_,rfl,hv40,hr69⟩:=hv39.consI hr68;obtain⟨rfl,h⟩:=hv40.lastI hr69;refine X0 11 Z (qg (t:=206) F Z ?_ ?_)<;>intro F
 ·refine X0 6 Z (qg (t:=210) F Z ?_ ?_)<;>intro F
  ·refine X0 6 Z (qg (t:=214) F Z ?_ ?_)<;>intro F
   ·refine X0 8 Z (qg (t:=219) F Z ?_ ?_)<;>intro F
    ·refine X0 13 Z ?_;replace h:=h.p [1,2,3] Z;exact rb h F Z
    refine X0 8 Z ?_;replace h:=h.p [1,2,3] Z;exact rb h F Z
   refine X0 13 Z ?_;replace h:=h.p [1,2,3] Z;exact rb h F Z
  refine X0 17 Z ?_;replace h:=h.p [1,2,3] Z;exact rb h F Z
 refine X0 21 Z ?_;replace h:=h.p [1,2,3] Z;exact rb h F Z

end Go.Fw


namespace Go.Fw
open Go
set_option maxRecDepth 100000
def cmN:List Int→List Int→Nat
 | x::xs,y::ys=>bif x==y then cmN xs ys+1 else 0
 | _,_=>0
theorem qsE:∀ xs ys,cmN xs ys=cmN ys xs:=by
 intro xs
 induction xs with
 | nil=>intro ys;cases ys<;>rfl
 | cons x xs ih=>
  intro ys;cases ys with
  | nil=>rfl
  | cons y ys=>
   show(bif x==y then cmN xs ys+1 else 0)=(bif y==x then cmN ys xs+1 else 0);rw[ih ys,Bool.beq_comm]
theorem qvE:∀ xs ys,cmN xs ys≤xs.length:=by
 intro xs
 induction xs with
 | nil=>intro ys;cases ys<;>exact jf _
 | cons x xs ih=>
  intro ys;cases ys with
  | nil=>exact jQ _
  | cons y ys=>
   show(bif x==y then cmN xs ys+1 else 0)≤xs.length+1;have:=ih ys;cases x==y
   ·exact jQ _
   ·show cmN xs ys+1≤_;omega
theorem qvt:∀ xs ys:List Int,xs.take (cmN xs ys)=ys.take (cmN xs ys):=by
 intro xs
 induction xs with
 | nil=>intro ys;cases ys<;>rfl
 | cons x xs ih=>
  intro ys;cases ys with
  | nil=>rfl
  | cons y ys=>
   show(x::xs).take (bif x==y then cmN xs ys+1 else 0)=(y::ys).take (bif x==y then cmN xs ys+1 else 0);cases h:x==y
   ·rfl
   ·rw[beq_iff_eq] at h;subst h;show(x::xs).take (cmN xs ys+1)=(x::ys).take (cmN xs ys+1);rw[List.take_succ_cons,List.take_succ_cons,ih ys]
theorem qq6 {p q:qT}(k:p.Be.length≤1048576)(l:q.Be.length≤1048576):Ev (fun n=>qeP n p q) (bif p.Bm != q.Bm then(0,false) else((cmN p.Be q.Be:Int),true)):=by
 have a:(if (q.Be.length:Int)<(p.Be.length:Int) then(q.Be.length:Int) else(p.Be.length:Int))=((min p.Be.length q.Be.length:Nat):Int):=by split<;>omega
 have b:∀ d i,i+d=min p.Be.length q.Be.length→Ev (fun n=>qda p q n (i:Int)) ((i+cmN (p.Be.drop i) (q.Be.drop i):Nat):Int):=by
  intro d
  induction d with
  | zero=>
   intro i hi;refine Ev.succ ?_;simp only[qda,a];refine Ev.ff (qq (by omega)) ?_;have e:cmN (p.Be.drop i) (q.Be.drop i)=0:=by
    rcases (by omega:p.Be.length≤i∨q.Be.length≤i) with h|h
    ·rw[List.drop_eq_nil_of_le h];cases q.Be.drop i<;>rfl
    ·rw[List.drop_eq_nil_of_le h];cases p.Be.drop i<;>rfl
   rw[e];exact .done
  | succ d ih=>
   intro i hi;have c:i<p.Be.length:=by omega
   have f:i<q.Be.length:=by omega
   refine Ev.succ ?_;simp only[qda,a,wS i];have e1:p.Be.drop i=p.Be[i]::p.Be.drop (i+1):=jC c;have g:q.Be.drop i=q.Be[i]::q.Be.drop (i+1):=jC f;rw[e1,g];refine Ev.tt (qp (by omega)) (Ev.bindN (qaZ c) (Ev.bindN (qaZ f) ?_));show Ev _ ((i+(bif p.Be[i]==q.Be[i] then cmN (p.Be.drop (i+1)) (q.Be.drop (i+1))+1 else 0):Nat):Int);cases p.Be[i]==q.Be[i]
   ·exact .done
   ·have:=ih (i+1) (by omega);rw[show i+1+cmN (p.Be.drop (i+1)) (q.Be.drop (i+1))=i+(cmN (p.Be.drop (i+1)) (q.Be.drop (i+1))+1) by omega] at this;exact this
 unfold qeP;refine Ev.bif (fun h=>by rw[h];exact .done) (fun h=>?_);rw[h];have:=b (min p.Be.length q.Be.length) 0 (by omega);rw[List.drop_zero,List.drop_zero,Je] at this;exact Ev.bind this .done
theorem qu1 {j:qau}{p q:qT}(h:qku j)(l:p.Be.length≤1048576)(m:q.Be.length≤1048576) :
  (∃ code:Int,code ≠ 0∧Ev (fun n=>qjO n j p q) (U,code)∧Ev (fun n=>qeF n j p q) (U,code)) ∨
  ∃ t R f,WkOk j t R∧JobT j t f∧pathB j p.Bm p.Be=true∧pathB j q.Bm q.Be=true∧Ev (fun n=>qa4 n j) (swV j t,0)∧Ev (fun n=>qeF n j p q) (wkV j t R,0)∧Ev (fun n=>qeF n j q p) (wkV j t R,0):=by
 unfold qjO qeF;rcases qrK h with⟨code,hne,hs,hi⟩|⟨t,R,hw,hs,hi⟩
 ·rcases qpH h with⟨code',hne',hs',hi'⟩|⟨t',R',hw',hs',hi'⟩
  ·have:code=code':=by
    have e:=hs;unfold qa4 at e;have:=e.uniq (Ev.bind hs' (Ev.tt (qhx hne') .done));injection this
   subst this;exact .inl ⟨code,hne,Ev.bind hs (Ev.tt (qhx hne) .done),Ev.bind hi' (Ev.ff (by simpa using hne) .done)⟩
  ·exfalso;have c:=hw'.tg.bl;have o:=qg6 (ls:=linksL j.Ac) (br:=j.Bg) (qdN c) h.Bg.len;unfold qa4 at hs;have:=hs.uniq (Ev.bind hs' (Ev.ff Z (Ev.bind (qdh c) (Ev.bind o .done))));cases this
 ·obtain⟨f,k⟩:=qxg h hs;have c:=hw.tg.bl;have i:=qtY h hw k.pt;have d:=qmK (t:=t) (R:=R) (start:=p.Bm) (path:=p.Be) c h.Ap.len l;have g:=qmK (t:=t) (R:=R) (start:=q.Bm) (path:=q.Be) c h.Ap.len m;obtain⟨e1,a,_⟩:=qqV (j:=j) (t:=t) (start:=p.Bm) c h.Ap.len l;obtain⟨r,b,_⟩:=qqV (j:=j) (t:=t) (start:=q.Bm) c h.Ap.len m;cases hbp:pathB j p.Bm p.Be
  ·rw[hbp] at d a;exact .inl ⟨5,by decide,Ev.bind hs (Ev.ff Z (Ev.bind a (Ev.bind b (Ev.tt Z .done)))),Ev.bind i (Ev.tt Z (Ev.bind d (Ev.tt Z .done)))⟩
  ·rw[hbp] at d a;cases hbq:pathB j q.Bm q.Be
   ·rw[hbq] at g b;exact .inl ⟨5,by decide,Ev.bind hs (Ev.ff Z (Ev.bind a (Ev.bind b (Ev.ff Z (Ev.tt Z .done))))),Ev.bind i (Ev.tt Z (Ev.bind d (Ev.ff Z (Ev.bind g (Ev.tt Z .done)))))⟩
   ·rw[hbq] at g b;exact .inr ⟨t,R,f,hw,k,rfl,rfl,hs,Ev.bind i (Ev.tt Z (Ev.bind d (Ev.ff Z (Ev.bind g (Ev.ff Z .done))))),Ev.bind i (Ev.tt Z (Ev.bind g (Ev.ff Z (Ev.bind d (Ev.ff Z .done)))))⟩
theorem qv5 {xs:List Int}(c:xs.length≤1048576):Ev (fun n=>qhS n xs xs) true:=by
 have a:Ev (fun n=>qdA xs xs n 0) (.nxt (xs.length:Int)):=by
  refine qwR (τ:=Unit) (st:=fun _=>()) (Lf:=fun n _ i=>qdA xs xs n i) (len:=xs.length) (Ev.succ ?_) (fun i hi X b=>Ev.succ ?_)
  ·simp only[qdA];exact Ev.ff (qq (jf _)) .done
  ·simp only[qdA,wS i];exact Ev.tt (qp hi) (Ev.bindN (qaZ hi) (Ev.bindN (qaZ hi) (Ev.ff (by simp) b)))
 unfold qhS;exact Ev.ff (by simp) (Ev.bind a .done)
section
variable {code:List (IntK .u8)}
theorem qrf (hk:rngL rng8 code):Ev (fun n=>qk3 n code) true:=by
 unfold qk3 qqp;refine Ev.bindN Z (Ev.bif (fun _=>.done) (fun e=>?_));have e:code.length≤4096:=by have:=of_decide_eq_false e;omega
 obtain⟨⟨j,p,q⟩,r,Y,F,H⟩:=qt2 (code:=code) ⟨by omega,hk.2⟩;dsimp only at Y F H;have h:=Y.ok;have K:=F.Be.len;have T:=H.Be.len;have d:=qq6 (p:=p) (q:=q) K T;have i:=qq6 (p:=q) (q:=p) T K;refine Ev.bind r ?_;dsimp only;rcases qu1 h K T with⟨c,hne,hs,hi⟩|⟨t,R,f,hw,hT,hbp,hbq,hs,hi,hi'⟩
 ·have z:Ev (fun n=>qbJ n j p q) ([],false,c):=by
   unfold qbJ;exact Ev.bind hi (Ev.tt (qhx hne) .done)
  have hS:Ev (fun n=>qfx n j p q) ([],false,c):=by
   unfold qfx;exact Ev.bind hs (Ev.tt (qhx hne) .done)
  exact Ev.bind z (Ev.bind r (Ev.tt (qhx hne) (Ev.bind hS (Ev.bind (b:=true) (Ev.tt (by simp) (Ev.now Z)) .done))))
 ·have h1:=hw.tg.bl;have hpl:=qr0 hw hbp;have hql:=qr0 hw hbq;have sP:=qrh h hw hT.si (by omega) hbp;have sQ:=qrh h hw hT.si (by omega) hbq;have nP:=qnZ (t:=t) (R:=R) K hbp;cases hst:p.Bm != q.Bm
  · -- one start
   have v:p.Bm=q.Bm:=by simpa using hst
   have o:(q.Bm != p.Bm)=false:=by simp[v]
   have M:(p.Bm==q.Bm)=true:=by simp[v]
   have C:=qvE p.Be q.Be;have u:=qvE q.Be p.Be;rw[qsE] at u;have y:=qvt p.Be q.Be;rw[hst] at d;rw[o,qsE] at i;simp only[cond_false] at d i;obtain⟨a,S⟩:∃ a,a=cmN p.Be q.Be:=⟨_,rfl⟩;rw[←S] at C u y d i;have l:(p.Be.take a).length=a:=by rw[jM];omega
   obtain⟨k,Q,B,J⟩:=qwS hw hT hbp a C;have eQ:arS f (linksL j.Ac) t (srcV (srcO j.Ap q.Bm)).2.Ah q.Be a=arS f (linksL j.Ac) t (srcV (srcO j.Ap p.Bm)).2.Ah p.Be a:=by
    rw[←qqh (path:=q.Be) a (jf _),←y,qqh a (jf _),v]
   have W:idx (pre (arS f (linksL j.Ac) t (srcV (srcO j.Ap p.Bm)).2.Ah p.Be) (p.Be.length+1)) (a:Int)=V (arS f (linksL j.Ac) t (srcV (srcO j.Ap p.Bm)).2.Ah p.Be a):=qfY (f:=arS f (linksL j.Ac) t (srcV (srcO j.Ap p.Bm)).2.Ah p.Be) (by omega);have X:idx (pre (arS f (linksL j.Ac) t (srcV (srcO j.Ap q.Bm)).2.Ah q.Be) (q.Be.length+1)) (a:Int)=V (arS f (linksL j.Ac) t (srcV (srcO j.Ap p.Bm)).2.Ah p.Be a):=by rw[←eQ];exact qfY (f:=arS f (linksL j.Ac) t (srcV (srcO j.Ap q.Bm)).2.Ah q.Be) (by omega)
   have iN:idx (pre (atP (linksL j.Ac) p.Bm p.Be) (p.Be.length+1)) (a:Int)=V (k:Int):=by rw[←B];exact qfY (f:=atP (linksL j.Ac) p.Bm p.Be) (by omega)
   have s:pathB j p.Bm (p.Be.take a)=true:=qte hbp;have L:∀ m,modeB m=true→Ev (fun n=>qf1 n j p.Bm (p.Be.take a) m) (ofS m (arS f (linksL j.Ac) t (srcV (srcO j.Ap p.Bm)).2.Ah p.Be a),0):=fun m hm=>by
    have g:=qwe h hw hT.si (by rw[l];omega) s;rw[l,qqh a (jf _)] at g;unfold qf1;refine Ev.bind (qpb h hw hs (by rw[l];omega) s hm) (Ev.ff Z (Ev.bind g ?_));simp only[qxq hm];exact .done
   have eT:Ev (fun n=>qiM n j p.Bm (p.Be.take a)) ((k:Int),0):=by
    have n1:=qnZ (t:=t) (R:=R) (by rw[l];omega) s;rw[l] at n1;unfold qiM qkw;refine Ev.bind (b:=(pre (atP (linksL j.Ac) p.Bm (p.Be.take a)) (a+1),0)) (Ev.bind (qpb h hw hs (by rw[l];omega) s Z) (Ev.ff Z (Ev.bind n1 .done))) (Ev.ff Z ?_);show Ev (fun n=>(idx (pre (atP (linksL j.Ac) p.Bm (p.Be.take a)) (a+1)) (W64 (((pre (atP (linksL j.Ac) p.Bm (p.Be.take a)) (a+1)).length:Int)-1))).bind _) _;rw[qj3,show W64 (((a+1:Nat):Int)-1)=(a:Int) by rw[qR (by omega) (by omega)];omega,qfY (f:=atP (linksL j.Ac) p.Bm (p.Be.take a)) (show a<a+1 by omega),qsy a (jf _),B];exact .done
   have hB:=(hT.eq k Q).b J.r;rw[qna] at hB;have b1:=J.i.e;have b2:=J.i.l;have b3:=J.o;generalize arS f (linksL j.Ac) t (srcV (srcO j.Ap p.Bm)).2.Ah p.Be a=A at W X L b1 b2 b3;have N:W64 (A.Bd-A.Aq)=A.Bd-A.Aq:=qR (by omega) (by omega);have subP:subS p.Be 0 (a:Int)=V (p.Be.take a):=qm8 (by omega);have I:subS q.Be 0 (a:Int)=V (p.Be.take a):=by rw[y];exact qm8 (by omega)
   have z:Ev (fun n=>qbJ n j p q) (p.Be.take a,true,0):=by
    unfold qbJ;exact Ev.bind hi (Ev.ff Z (Ev.bind d (Ev.bindN subP (Ev.bindN (qkK (by omega)) .done))))
   have O:Ev (fun n=>qbR n j p q) (A.Bd-A.Aq,0):=by
    unfold qbR qir;exact Ev.bind hi (Ev.ff Z (Ev.bind sP (Ev.bind (Ev.bind d (Ev.ff Z (Ev.bindN W (Ev.bindN W (Ev.now (by rw[N])))))) .done)))
   have x:Ev (fun n=>qbR n j q p) (A.Bd-A.Aq,0):=by
    unfold qbR qir;exact Ev.bind hi' (Ev.ff Z (Ev.bind sQ (Ev.bind (Ev.bind i (Ev.ff Z (Ev.bindN X (Ev.bindN X (Ev.now (by rw[N])))))) .done)))
   have P:Ev (fun n=>qgd n j p q) ((k:Int),0):=by
    unfold qgd;exact Ev.bind hi (Ev.ff Z (Ev.bind d (Ev.ff Z (Ev.bind nP (Ev.bindN iN .done)))))
   have D:=qv5 (xs:=p.Be.take a) (by omega);refine Ev.bind z (Ev.bind r (Ev.ff Z (Ev.bind O (Ev.bind r (Ev.bind x (Ev.bind r (Ev.bind P (Ev.bind r ?_))))))));refine Ev.bind (b:=false) (Ev.ff Z (Ev.ff Z (Ev.ff (by simp) (Ev.ff (decide_eq_false (by omega)) (Ev.ff (by rw[M];rfl) .done))))) (Ev.ff Z (Ev.ff Z ?_));refine Ev.bind (b:=false) ?_ (Ev.ff Z ?_)
   ·dsimp only;rw[l];exact Ev.ff (decide_eq_false (by omega)) (Ev.ff (decide_eq_false (by omega)) (Ev.bindN subP (Ev.bind D (Ev.ff Z (Ev.bindN I (Ev.bind D .done))))))
   ·refine Ev.bind eT (Ev.bind (L 1 Z) (Ev.bind (L 0 Z) (Ev.tt Z (Ev.tt Z (Ev.tt Z (Ev.tt (by simp) (Ev.now ?_)))))));show V (A.Bd-A.Aq==W64 (A.Bd-A.Aq))=V true;rw[N];simp
  · -- two starts
   have o:(q.Bm != p.Bm)=true:=by rw[bne_comm];exact hst
   have M:(p.Bm==q.Bm)=false:=by
    have:p.Bm ≠ q.Bm:=by simpa using hst
    simpa using this
   rw[hst] at d;rw[o] at i;simp only[cond_true] at d i;have z:Ev (fun n=>qbJ n j p q) ([],false,0):=by
    unfold qbJ;exact Ev.bind hi (Ev.ff Z (Ev.bind d (Ev.bindN (qm8 (j:=0) (jQ _)) (Ev.bindN (qkK (by simp)) (Ev.now (by simp))))))
   have O:Ev (fun n=>qbR n j p q) (0,0):=by
    unfold qbR qir;exact Ev.bind hi (Ev.ff Z (Ev.bind sP (Ev.bind (Ev.bind d (Ev.tt Z .done)) .done)))
   have x:Ev (fun n=>qbR n j q p) (0,0):=by
    unfold qbR qir;exact Ev.bind hi' (Ev.ff Z (Ev.bind sQ (Ev.bind (Ev.bind i (Ev.tt Z .done)) .done)))
   have P:Ev (fun n=>qgd n j p q) (0,4):=by
    unfold qgd;exact Ev.bind hi (Ev.ff Z (Ev.bind d (Ev.tt Z .done)))
   refine Ev.bind z (Ev.bind r (Ev.ff Z (Ev.bind O (Ev.bind r (Ev.bind x (Ev.bind r (Ev.bind P (Ev.bind r ?_))))))));refine Ev.bind (b:=false) (Ev.ff Z (Ev.ff Z (Ev.ff Z (Ev.ff Z (Ev.ff (by rw[M];rfl) .done))))) (Ev.ff Z (Ev.tt Z ?_));exact Ev.bind (b:=true) (Ev.tt Z (Ev.tt Z .done)) .done
end
end Go.Fw
