/- By a program of mine (gen.py): for each function a plain function and the proof that the code computes it. -/
import Derived.Test.YtklmnhcgjnglhaaGreatDoorDK
import Derived.Test.YtklmnhcgjnglhaaGreatDoorVA
open Option renaming some->V, none->U
open Bool renaming true->An, false->Cd, cond_false->Cj
open Nat renaming le_refl->jf
open List renaming length_map->jq, length_take->jy
open Go.Fw.Ev renaming bind->Ck, succ->Cm, ff->Cp, tt->Cr, now->Cx, bindN->Cy

namespace Go.Fw
open Go Go.Proofs Go.Proofs.Tryz
open Go.RowKit (Below)
open Ch renaming own->oW,box->oX,grp->oG
open qm renaming v->oV
open Go.Value renaming slice->oS
set_option maxRecDepth 100000
set_option maxHeartbeats 6400000
variable{n:Nat}{w:World}{cs1 cs2 cs3 cs4 cs5 cs6 cs7 cs8 cs9:List Value}
def NF(_:Nat)(code:List (gW .u8)):Option Bool:=V (decide ((code.length:Int) > 4096))
theorem VK{code:List (gW .u8)}(a:Ro w code cs1){r:Bool}(F:NF n code=V r):qP prog 5 [gv code cs1] w r:=by
 obtain⟨_,_,rfl,_⟩:=a;exact zV 6 func5 Z fun h=>X0 11 Z (rb h F Z)
def du(Ce:List (gW .u8))(b:List qK):Nat->bg->Int->Int->Int->Option (eE Bool (bg×Int×Int×Int))|0,_,_,_,_=>U|n+1,h,y,x,a=>bif decide (a<(b.length:Int)) then(qF b a).bind fun z=>(qF b a).bind fun A=>(pU n h z.Bo A.Bl x).bind fun(f,k)=>(fK n Ce).bind fun(l,_,_,_)=>(qF b a).bind fun r=>(qF b a).bind fun s=>(tx n l r.Bo s.Bl).bind fun(m,p)=>(fK n Ce).bind fun(g,c,d,_)=>(bif (k != 0) then V An else bif (p != 0) then V An else bif (m != c) then V An else(qF b a).bind fun v=>V (f != v.Af)).bind fun i=>bif i then V (.ret Cd) else bif decide (a > 0) then(qF b (qj (a-1))).bind fun t=>bif (t.Af != f) then(qF b (qj (a-1))).bind fun u=>bif (!((decide (u.Af > f))==(d==1))) then V (.ret Cd) else du Ce b n g c d (qj (a+1)) else du Ce b n g c d (qj (a+1)) else du Ce b n g c d (qj (a+1)) else V (.nxt (h,y,x,a))
def tM(n:Nat)(Ce:List (gW .u8)):Option Bool:=(NF n Ce).bind fun r1=>bif r1 then V An else(fK n Ce).bind fun|(F,H,I,J)=>(sP n F H I J).bind fun|(f,C)=>(fK n Ce).bind fun(g,h,k,l)=>bif (C != 0) then(xF n g h k l).bind fun(_,m)=>(bif (C==m) then V ((f.length:Int)==0) else V Cd).bind fun b1=>V b1 else(tC n g h).bind fun(d,p)=>(fK n Ce).bind fun(a,_,_,_)=>(iP n (⟨(⟨a.Ac.Ar.Au⟩:qB),(⟨a.Ac.Aa.Ab,a.Ac.Aa.Am,a.Ac.Aa.Ai⟩:qk),a.Ac.Ah⟩:qf) (⟨a.Aj.Bh,a.Aj.Ba,a.Aj.Bd,a.Aj.Ay,a.Aj.Bc⟩:qG) a.Av a.Ap).bind fun(b,s)=>(fK n Ce).bind fun(t,c,u,i)=>(bif (p != 0) then V An else bif (s != 0) then V An else bif ((f.length:Int) != (if i<d then i else d)) then V An else bif decide ((b.Aq.length:Int)<=c) then V An else bif decide ((b.Af.length:Int)<=c) then V An else(qF b.Aq c).bind fun A=>V (!(A==(decide (d > 0))))).bind fun b2=>bif b2 then V Cd else(du Ce f n t c u 0).bind fun|.ret r=>V r|.nxt (_,B,D,_)=>bif ((f.length:Int)==0) then V An else bif (D==1) then(qF f 0).bind fun v=>(qF b.Af B).bind fun x=>V (v.Af==x.Be) else(qF f 0).bind fun y=>(qF b.Af B).bind fun z=>V (y.Af==z.As)
theorem BS{Ce:List (gW .u8)}(ha1:Ro w Ce cs1){r:Bool}(F:tM n Ce=V r):qP prog 3 [gv Ce cs1] w r:=by
 obtain⟨p1,k1,rfl,s1⟩:=ha1;refine zV 255 func3 Z fun h=>X0 8 Z (dF h F (VK ⟨_,_,Z,(h.oldS s1)⟩) Z fun _ _ h F=>ac (qp Z F ?_ ?_))<;>intro F
 .exact X0 4 Z (rb h F Z)
 refine X0 4 Z ?_;have a:Rg (old w) w (old w) w:=.start (fun _ h=>h);obtain⟨⟨r3,r4,r5,r6⟩,hr2,F⟩:=qc F;refine zC (r3,r4,r5,r6) a h (cB 6 Z) (ig (a.atB h) ⟨_,_,Z,(a.inBS h s1)⟩ hr2) Z Z Z Z fun _ _ _ h hv1=>?_;obtain⟨_,_,rfl,hr3,hv2⟩:=dA hv1;have hr4:=hr3;obtain⟨_,_,_,_,_,_,_,_,_,_,_,_,_,_,rfl,_,_,_,_,_,_,_⟩:=dJ hr3;have h:=h.grpAdd 0 Z hr4;obtain⟨_,_,rfl,hr5,hv3⟩:=dA hv2;have hr6:=hr5;obtain rfl:=hr5;obtain⟨_,_,rfl,hr7,hv4⟩:=dA hv3;have hr8:=hr7;obtain rfl:=hr7;obtain⟨_,rfl,hr9⟩:=mS hv4;have hr10:=hr9;obtain rfl:=hr9;refine qb0 Z (qi qa h Z Z Z fun _ d h=>zs 0 h Z fun _ h=>X1 10 0 h Z ?_);obtain⟨⟨u,r9⟩,hr11,F⟩:=qc F;refine bG (u,r9) h (cB 7 Z) (MZ (h.grp 1 0 Z Z) hr11) Z Z Z Z fun _ _ _ hv5 hr12=>?_;obtain⟨S3,_,p9,k9,_,rfl,hv6,hr13⟩:=hv5.consL hr12;obtain⟨rfl,h⟩:=hv6.lastI hr13;refine X0 9 Z ?_;obtain⟨⟨r11,r12,r13,r14⟩,hr15,F⟩:=qc F;refine zC (r11,r12,r13,r14) a h (cB 6 Z) (ig (a.atB h) ⟨_,_,Z,(a.inBS h s1)⟩ hr15) Z Z Z Z fun _ _ _ h hv8=>?_;obtain⟨_,_,rfl,hr16,hv9⟩:=dA hv8;have hr17:=hr16;obtain⟨_,_,_,_,_,_,_,_,_,_,_,_,_,_,rfl,_,_,_,_,_,_,_⟩:=dJ hr16;have h:=h.grpAdd 0 Z hr17;obtain⟨_,_,rfl,hr18,hv10⟩:=dA hv9;have hr19:=hr18;obtain rfl:=hr18;obtain⟨_,_,rfl,hr20,hv11⟩:=dA hv10;have hr21:=hr20;obtain rfl:=hr20;obtain⟨_,rfl,hr22⟩:=mS hv11;have hr23:=hr22;obtain rfl:=hr22;refine qb0 Z (zs 2 h Z fun _ h=>X0 10 Z (qp Z F ?_ ?_))<;>intro F
 .refine X1 6 2 h Z ?_;obtain⟨⟨r16,r17⟩,hr24,F⟩:=qc F;refine bG (r16,r17) h (cB 8 Z) (NQ (h.grp 0 0 Z Z) hr24) Z Z Z Z fun _ _ _ hv12 hr25=>?_;obtain⟨_,_,_,_,_,rfl,hv13,hr26⟩:=hv12.consL hr25;obtain⟨rfl,h⟩:=hv13.lastI hr26;refine X0 7 Z ?_;obtain⟨KF1,hKF1,_,F,hK1⟩:=bindE F;refine bd (fun e w'=>∃b1,KF1 b1=V r/\e=[(2,.bool b1)]/\SH w w' []) ?_ ?_
  .refine X0 5 Z (qh (t:=57) F Z ?_ ?_)<;>intro F
   .refine X0 9 Z ?_;have h:=h.p [0,1,2,3] Z;have h:=h.p [] Z;exact rH F hK1 h Z
   refine X0 6 Z ?_;have h:=h.p [0,1,2,3] Z;have h:=h.p [] Z;exact rH F hK1 h Z
  rintro _ _ ⟨b1,F,rfl,h⟩;subst hKF1;exact rb h F Z
 refine X1 5 2 h Z ?_;obtain⟨⟨r19,r20⟩,hr28,F⟩:=qc F;refine bG (r19,r20) h (cB 9 Z) (FY (h.grp 0 0 Z Z) hr28) Z Z Z Z fun _ _ _ hv15 hr29=>?_;obtain⟨_,_,rfl,hv16,hr30⟩:=hv15.consI hr29;obtain⟨rfl,h⟩:=hv16.lastI hr30;refine X0 9 Z ?_;obtain⟨⟨b,r23,r24,r25⟩,hr32,F⟩:=qc F;refine zC (b,r23,r24,r25) a h (cB 6 Z) (ig (a.atB h) ⟨_,_,Z,(a.inBS h s1)⟩ hr32) Z Z Z Z fun _ _ _ h hv18=>?_;obtain⟨_,_,rfl,hr33,hv19⟩:=dA hv18;have hr34:=hr33;obtain⟨p18,k18,p19,k19,p20,k20,p21,k21,p22,k22,_,_,_,_,rfl,_,_,_,_,_,_,_⟩:=dJ hr33;have h:=h.grpAdd 0 Z hr34;obtain⟨_,_,rfl,hr35,hv20⟩:=dA hv19;have hr36:=hr35;obtain rfl:=hr35;obtain⟨_,_,rfl,hr37,hv21⟩:=dA hv20;have hr38:=hr37;obtain rfl:=hr37;obtain⟨_,rfl,hr39⟩:=mS hv21;have hr40:=hr39;obtain rfl:=hr39;refine qb0 Z (zs 3 h Z fun _ h=>X4 14 3 3 3 3 h Z ?_);obtain⟨⟨c,r28⟩,hr41,F⟩:=qc F;refine bG (c,r28) h (cB 10 Z) (yt (show qm.R _ _ (b.Ac:qf) _ from⟨[oL p18 b.Ac.Ar.Au k18],[oL p19 b.Ac.Aa.Ab k19,oL p20 b.Ac.Aa.Am k20,oL p21 b.Ac.Aa.Ai k21,oL p22 b.Ac.Ah k22],Z,⟨_,_,Z,(iV (h.grp 0 0 Z Z)).1.1⟩,⟨[oL p19 b.Ac.Aa.Ab k19,oL p20 b.Ac.Aa.Am k20,oL p21 b.Ac.Aa.Ai k21],[oL p22 b.Ac.Ah k22],Z,⟨[oL p19 b.Ac.Aa.Ab k19],[oL p20 b.Ac.Aa.Am k20,oL p21 b.Ac.Aa.Ai k21],Z,⟨_,_,Z,(iV (h.grp 0 0 Z Z)).2.1.1⟩,⟨[oL p20 b.Ac.Aa.Am k20],[oL p21 b.Ac.Aa.Ai k21],Z,⟨_,_,Z,(iV (h.grp 0 0 Z Z)).2.2.1.1⟩,⟨_,_,Z,(iV (h.grp 0 0 Z Z)).2.2.2.1.1⟩⟩⟩,⟨_,_,Z,(iV (h.grp 0 0 Z Z)).2.2.2.2.1.1⟩⟩⟩) (mD _) ⟨_,_,Z,(iV (h.grp 0 0 Z Z)).2.2.2.2.2.1.1⟩ ⟨_,_,Z,(iV (h.grp 0 0 Z Z)).2.2.2.2.2.2.1⟩ hr41) Z Z Z Z fun _ _ _ hv22 hr42=>?_;obtain⟨B,_,_,_,rfl,hv23,hr43⟩:=hv22.cons hr42;obtain⟨l,g,o,i,p,k,rfl,-,-,-⟩:=dX (hv23.sh.own 0 Z);obtain⟨rfl,h⟩:=hv23.lastI hr43;refine EK Z (qi qa h Z Z Z fun _ f h=>zs 0 h Z fun _ h=>X0 5 Z ?_);obtain⟨⟨r30,r31,r32,r33⟩,hr45,F⟩:=qc F;refine zC (r30,r31,r32,r33) a h (cB 6 Z) (ig (a.atB h) ⟨_,_,Z,(a.inBS h s1)⟩ hr45) Z Z Z Z fun _ _ S19 h hv25=>?_;obtain⟨_,_,rfl,hr46,hv26⟩:=dA hv25;have hr47:=hr46;obtain⟨p28,k28,p29,k29,p30,k30,p31,k31,p32,k32,p33,k33,p34,k34,rfl,_,_,_,_,_,_,_⟩:=dJ hr46;have h:=h.grpAdd 0 Z hr47;obtain⟨_,_,rfl,hr48,hv27⟩:=dA hv26;have hr49:=hr48;obtain rfl:=hr48;obtain⟨_,_,rfl,hr50,hv28⟩:=dA hv27;have hr51:=hr50;obtain rfl:=hr50;obtain⟨_,rfl,hr52⟩:=mS hv28;have hr53:=hr52;obtain rfl:=hr52;refine qb0 Z (zs 6 h Z fun _ h=>X0 6 Z ?_);obtain⟨KF5,hKF5,_,F,A⟩:=bindE F;refine bd (fun e w'=>∃b2,KF5 b2=V r/\e=[(0,oL p1 Ce k1),(3,vp d),(4,vi r31),(5,vi r32),(7,oL p9 u k9),(13,vp f),(131,.bool b2)]/\SH w w' [oG (old w) S19 [ti (r30:bg) (gl r30 p28 p29 p30 p31 p32 p33 p34 k28 k29 k30 k31 k32 k33 k34)],oX f (bF c l o p g i k) 51,oW B (c:qn) (bF c l o p g i k),oW S3 (u:List qK) [oL p9 u k9],oX d (gl r30 p28 p29 p30 p31 p32 p33 p34 k28 k29 k30 k31 k32 k33 k34) 40]) ?_ ?_
 .refine X0 4 Z (qh (t:=96) F Z ?_ ?_)<;>intro F
  .refine X0 36 Z ?_;have h:=h.p [0,1,2,4,5,6,7] Z;have h:=h.p [0,1,2,4,5,6] Z;have h:=h.p [0,1,2,3,4] Z;exact rH F A h Z
  refine X0 6 Z (qh (t:=100) F Z ?_ ?_)<;>intro F
  .refine X0 32 Z ?_;have h:=h.p [0,1,2,4,5,6,7] Z;have h:=h.p [0,1,2,4,5,6] Z;have h:=h.p [0,1,2,3,4] Z;exact rH F A h Z
  refine X0 14 Z (qh (t:=108) F Z ?_ ?_)<;>intro F
  .refine X0 24 Z ?_;have h:=h.p [0,1,2,4,5,6,7] Z;have h:=h.p [0,1,2,4,5,6] Z;have h:=h.p [0,1,2,3,4] Z;exact rH F A h Z
  refine X1 12 1 h Z (qh (t:=115) F Z ?_ ?_)<;>intro F
  .refine X0 17 Z ?_;have h:=h.p [0,1,2,4,5,6,7] Z;have h:=h.p [0,1,2,4,5,6] Z;have h:=h.p [0,1,2,3,4] Z;exact rH F A h Z
  refine X1 12 1 h Z (qh (t:=122) F Z ?_ ?_)<;>intro F
  .refine X0 10 Z ?_;have h:=h.p [0,1,2,4,5,6,7] Z;have h:=h.p [0,1,2,4,5,6] Z;have h:=h.p [0,1,2,3,4] Z;exact rH F A h Z
  refine X1 7 1 h Z ?_;obtain⟨_,_,F,he22,_,_,_,_,hp22,hq22,rfl,hc34⟩:=(sZ (h.own 2 Z)).1.1.ix F;refine zx hp22 hq22 ⟨he22.1,qD he22.2.1 (sZ (h.own 2 Z)).1.2⟩ Z (X0 1 Z (zc 0 hc34 Z (X0 8 Z ?_)));have h:=h.p [0,1,2,4,5,6,7] Z;have h:=h.p [0,1,2,4,5,6] Z;have h:=h.p [0,1,2,3,4] Z;exact rH F A h Z
 rintro _ _ ⟨b2,F,rfl,h⟩;subst hKF5;refine qp Z F ?_ ?_<;>intro F
 .refine X0 4 Z ?_;have h:=h.p [1,2,3,4] Z;exact rb h F Z
 refine X0 6 Z ?_;obtain⟨o2,F,hK2⟩:=qc F;refine qr (rL (fun m e w'=>∃S20 s b7 a6 b8 a7 b9 a8 c0 a9 c2 b4 c3 b5 c4 b6 i1 i2 i3,du Ce u m s i1 i2 i3=V o2/\e=[(0,oL p1 Ce k1),(3,vp d),(4,vi i1),(5,vi i2),(7,oL p9 u k9),(13,vp f),(15,vi i3)]/\SH w w' [oG (old w) S20 [ti (s:bg) (gl s b7 b8 b9 c0 c2 c3 c4 a6 a7 a8 a9 b4 b5 b6)],oX f (bF c l o p g i k) 51,oW B (c:qn) (bF c l o p g i k),oW S3 (u:List qK) [oL p9 u k9],oX d (gl s b7 b8 b9 c0 c2 c3 c4 a6 a7 a8 a9 b4 b5 b6) 40]) n ⟨_,_,_,_,_,_,_,_,_,_,_,_,_,_,_,_,_,_,_,F,Z,h⟩ Z ?_);rintro m1 _ _ ⟨S20,s,b7,a6,b8,a7,b9,a8,c0,a9,c2,b4,c3,b5,c4,b6,i1,i2,i3,F,rfl,h⟩;rcases m1 with _|m1
 .cases F
 refine X0 8 Z (qp Z F ?_ ?_)<;>intro F
 .refine X0 4 Z (rA [] [4] h Z fun _ h=>M1 7 [0,1,2] 0 (h.p [4] Z) Z ?_);obtain⟨y1,hy1,F⟩:=qc F;have he1:=bH hy1;have h:=h.lrn0 3 Z;obtain⟨_,o_1,_,_,hp1,hq1,-,hr54,hc5⟩:=(kZ (h.lrnO 3 Z)).1.at hy1;have hr55:=hr54;obtain⟨p42,k42,rfl,_⟩:=fb hr54;have h:=h.lrnAdd 3 Z hr55;refine Ax 3 15 hp1 hq1 ⟨he1.1,qD he1.2.1 (kZ (h.lrnO 3 Z)).2⟩ (h.p [4] Z) Z (M0 223 [4,6,7] (h.p [4] Z) Z ?_);obtain⟨y2,_,F,he2,_,_,_,_,hp2,hq2,hr56,hc6⟩:=(kZ (h.lrnO 3 Z)).1.ix F;have hr57:=hr56;obtain⟨p43,k43,rfl,_⟩:=fb hr56;have h:=h.lrnAdd 3 Z hr57;refine Ax 8 479 hp2 hq2 ⟨he2.1,qD he2.2.1 (kZ (h.lrnO 3 Z)).2⟩ (h.p [4] Z) Z (M0 3039 [9,11] (h.p [4] Z) Z ?_);obtain⟨⟨c5,r37⟩,hr58,F⟩:=qc F;refine sg (fun e w'=>e=[(0,oL p1 Ce k1),(13,vp f),(15,vi i3),(16,vi c5),(17,vi r37),(3,vp d),(7,oL p9 u k9)]/\SH w w' [oG (old w) S20 [ti (s:bg) (gl s b7 b8 b9 c0 c2 c3 c4 a6 a7 a8 a9 b4 b5 b6)],oX f (bF c l o p g i k) 51,oW B (c:qn) (bF c l o p g i k),Ch.lrn S3 (u:List qK) [oL p9 u k9] [ti (y2:qK) (xi y2 p43 k43),ti (y1:qK) (xi y1 p42 k42)],oX d (gl s b7 b8 b9 c0 c2 c3 c4 a6 a7 a8 a9 b4 b5 b6) 40]) 0 (bits 18 262143) ?_ ?_
  .intro K;refine At 5 10 3071 4063 Z ?_ ?_
   .refine zc 0 hc5 Z (Ag (h.p [4] Z) (Ao 10 4095 Z (zc 1 hc6 Z (Ag (h.p [4] Z) (Ao 12 8191 Z (bG (c5,r37) h (cB 11 Z) (vG (h.grp 0 0 Z Z) ⟨_,_,Z,(yF (qm.mono (h.lrnS 3 0 Z Z) (h.lrnB 3 Z))).1⟩ hr58) Z Z Z Z fun w52 S60 us65 Y v=>?_))))));obtain⟨S61,us66,rfl,a3,x⟩:=Y.consI v;obtain⟨rfl,h⟩:=a3.lastI x;exact G0 262143 [13,14,15,16,17] (h.p [4] Z) Z (zK [(0,_),(13,_),(15,_),(16,_),(17,_),(3,_),(7,_)] ⟨Z,Z,Z,Z,Z,Z,Z,G⟩ (K _ _ ⟨Z,h⟩))
   refine zc 1 hc6 Z (Ag (h.p [4] Z) (Ao 5 4095 Z (zc 0 hc5 Z (Ag (h.p [4] Z) (Ao 12 8191 Z (bG (c5,r37) h (cB 11 Z) (vG (h.grp 0 0 Z Z) ⟨_,_,Z,(yF (qm.mono (h.lrnS 3 0 Z Z) (h.lrnB 3 Z))).1⟩ hr58) Z Z Z Z fun w52 S60 us65 Y v=>?_))))));obtain⟨S61,us66,rfl,a3,x⟩:=Y.consI v;obtain⟨rfl,h⟩:=a3.lastI x;exact G0 262143 [13,14,15,16,17] (h.p [4] Z) Z (zK [(0,_),(13,_),(15,_),(16,_),(17,_),(3,_),(7,_)] ⟨Z,Z,Z,Z,Z,Z,Z,G⟩ (K _ _ ⟨Z,h⟩))
  rintro _ _ ⟨rfl,h⟩;refine Ad (X0 3 Z ?_);obtain⟨⟨r64,r65,r66,r67⟩,hr156,F⟩:=qc F;refine zC (r64,r65,r66,r67) a h (cB 6 Z) (ig (a.atB h) ⟨_,_,Z,(a.inBS h s1)⟩ hr156) Z Z Z Z fun _ _ S63 h hv84=>?_;obtain⟨_,_,rfl,C,hv85⟩:=dA hv84;have hr158:=C;obtain⟨p75,k75,p76,k76,p77,k77,p78,k78,p79,k79,p80,k80,p81,k81,rfl,_,_,_,_,_,_,_⟩:=dJ C;have h:=h.grpAdd 0 Z hr158;obtain⟨_,_,rfl,D,hv86⟩:=dA hv85;have hr160:=D;obtain rfl:=D;obtain⟨_,_,rfl,H,hv87⟩:=dA hv86;have hr162:=H;obtain rfl:=H;obtain⟨_,rfl,I⟩:=mS hv87;have hr164:=I;obtain rfl:=I;refine qb0 Z (zs 5 h Z fun _ h=>X0 5 Z (rA [] [5] h Z fun _ h=>M1 7 [0,1,2] 0 (h.p [5] Z) Z ?_));obtain⟨y13,_,F,he13,_,_,_,_,hp13,hq13,J,hc21⟩:=(kZ (h.lrnO 4 Z)).1.ix F;have hr166:=J;obtain⟨p82,k82,rfl,_⟩:=fb J;have h:=h.lrnAdd 4 Z hr166;refine Ax 3 15 hp13 hq13 ⟨he13.1,qD he13.2.1 (kZ (h.lrnO 4 Z)).2⟩ (h.p [5] Z) Z (M0 223 [4,6,7] (h.p [5] Z) Z ?_);obtain⟨y14,_,F,he14,_,_,_,_,hp14,hq14,L,hc22⟩:=(kZ (h.lrnO 4 Z)).1.ix F;have hr168:=L;obtain⟨p83,k83,rfl,_⟩:=fb L;have h:=h.lrnAdd 4 Z hr168;refine Ax 8 479 hp14 hq14 ⟨he14.1,qD he14.2.1 (kZ (h.lrnO 4 Z)).2⟩ (h.p [5] Z) Z (M0 991 [9] (h.p [5] Z) Z ?_);obtain⟨⟨r69,r70⟩,M,F⟩:=qc F;refine sg (fun e w'=>e=[(0,oL p1 Ce k1),(13,vp f),(15,vi i3),(16,vi c5),(17,vi r37),(18,vi r69),(19,vi r70),(3,vp d),(7,oL p9 u k9)]/\SH w w' [oG (old w) S63 [ti (r64:bg) (gl r64 p75 p76 p77 p78 p79 p80 p81 k75 k76 k77 k78 k79 k80 k81)],oX f (bF c l o p g i k) 51,oW B (c:qn) (bF c l o p g i k),Ch.lrn S3 (u:List qK) [oL p9 u k9] [ti (y14:qK) (xi y14 p83 k83),ti (y13:qK) (xi y13 p82 k82),ti (y2:qK) (xi y2 p43 k43),ti (y1:qK) (xi y1 p42 k42)],oX d (gl r64 p75 p76 p77 p78 p79 p80 p81 k75 k76 k77 k78 k79 k80 k81) 40]) 0 (bits 17 131071) ?_ ?_
  .intro K;refine At 5 10 1023 2015 Z ?_ ?_
   .refine zc 0 hc21 Z (Ag (h.p [5] Z) (Ao 10 2047 Z (zc 1 hc22 Z (Ag (h.p [5] Z) (Ao 11 4095 Z (bG (r69,r70) h (cB 12 Z) (xm (h.grp 0 0 Z Z) ⟨_,_,Z,(yF (qm.mono (h.lrnS 4 0 Z Z) (h.lrnB 4 Z))).1⟩ M) Z Z Z Z fun w60 S70 us75 a4 y=>?_))))));obtain⟨S71,us76,rfl,a5,z⟩:=a4.consI y;obtain⟨rfl,h⟩:=a5.lastI z;refine G0 131071 [12,13,14,15,16] (h.p [5] Z) Z ?_;have h:=h.p [0,2,3,4,5] Z;exact aK K ⟨Z,h⟩ Z
   refine zc 1 hc22 Z (Ag (h.p [5] Z) (Ao 5 2047 Z (zc 0 hc21 Z (Ag (h.p [5] Z) (Ao 11 4095 Z (bG (r69,r70) h (cB 12 Z) (xm (h.grp 0 0 Z Z) ⟨_,_,Z,(yF (qm.mono (h.lrnS 4 0 Z Z) (h.lrnB 4 Z))).1⟩ M) Z Z Z Z fun w60 S70 us75 a4 y=>?_))))));obtain⟨S71,us76,rfl,a5,z⟩:=a4.consI y;obtain⟨rfl,h⟩:=a5.lastI z;refine G0 131071 [12,13,14,15,16] (h.p [5] Z) Z ?_;have h:=h.p [0,2,3,4,5] Z;exact aK K ⟨Z,h⟩ Z
  rintro _ _ ⟨rfl,h⟩;refine Ad (X0 3 Z ?_);obtain⟨⟨r72,r73,r74,r75⟩,hr179,F⟩:=qc F;refine zC (r72,r73,r74,r75) a h (cB 6 Z) (ig (a.atB h) ⟨_,_,Z,(a.inBS h s1)⟩ hr179) Z Z Z Z fun _ _ S73 h hv97=>?_;obtain⟨_,_,rfl,N,hv98⟩:=dA hv97;have hr181:=N;obtain⟨p84,k84,p85,k85,p86,k86,p87,k87,p88,k88,p89,k89,p90,k90,rfl,_,_,_,_,_,_,_⟩:=dJ N;have h:=h.grpAdd 0 Z hr181;obtain⟨_,_,rfl,O,hv99⟩:=dA hv98;have hr183:=O;obtain rfl:=O;obtain⟨_,_,rfl,P,hv100⟩:=dA hv99;have hr185:=P;obtain rfl:=P;obtain⟨_,rfl,Q⟩:=mS hv100;have hr187:=Q;obtain rfl:=Q;refine qb0 Z (zs 5 h Z fun _ h=>X0 6 Z ?_);obtain⟨KF4,hKF4,_,F,hK4⟩:=bindE F;refine bd (fun e w'=>∃b19,KF4 b19=V o2/\e=[(0,oL p1 Ce k1),(3,vp d),(4,vi r73),(5,vi r74),(7,oL p9 u k9),(13,vp f),(15,vi i3),(16,vi c5),(202,.bool b19)]/\SH w w' [oG (old w) S73 [ti (r72:bg) (gl r72 p84 p85 p86 p87 p88 p89 p90 k84 k85 k86 k87 k88 k89 k90)],oX f (bF c l o p g i k) 51,oW B (c:qn) (bF c l o p g i k),oW S3 (u:List qK) [oL p9 u k9],oX d (gl r72 p84 p85 p86 p87 p88 p89 p90 k84 k85 k86 k87 k88 k89 k90) 40]) ?_ ?_
  .refine X0 4 Z (qh (t:=185) F Z ?_ ?_)<;>intro F
   .refine X0 18 Z ?_;have h:=h.p [0,2,3,4,5] Z;have h:=h.unlrn 3 Z;exact rH F hK4 h Z
   refine X0 6 Z (qh (t:=189) F Z ?_ ?_)<;>intro F
   .refine X0 14 Z ?_;have h:=h.p [0,2,3,4,5] Z;have h:=h.unlrn 3 Z;exact rH F hK4 h Z
   refine X0 8 Z (qh (t:=194) F Z ?_ ?_)<;>intro F
   .refine X0 9 Z ?_;have h:=h.p [0,2,3,4,5] Z;have h:=h.unlrn 3 Z;exact rH F hK4 h Z
   refine X0 7 Z ?_;obtain⟨_,_,F,he17,_,_,_,_,hp17,hq17,T,hc27⟩:=(kZ (h.lrnO 4 Z)).1.ix F;have hr193:=T;obtain⟨_,_,rfl,_⟩:=fb T;have h:=h.lrnAdd 4 Z hr193;refine zx hp17 hq17 ⟨he17.1,qD he17.2.1 (kZ (h.lrnO 4 Z)).2⟩ Z (X0 3 Z (zc 2 hc27 Z (X0 4 Z ?_)));have h:=h.p [0,2,3,4,5] Z;have h:=h.unlrn 3 Z;exact rH F hK4 h Z
  rintro _ _ ⟨b19,F,rfl,h⟩;subst hKF4;refine qp Z F ?_ ?_<;>intro F
  .refine X0 4 Z ?_;have h:=h.p [1,2,3,4] Z;cases qe F;exact rb h hK2 Z
  refine X0 6 Z (qh (t:=205) F Z ?_ ?_)<;>intro F
  .refine X0 7 Z ?_;obtain⟨_,hy15,F⟩:=qc F;have he15:=bH hy15;have h:=h.lrn0 3 Z;obtain⟨_,o_15,_,_,hp15,hq15,-,R,hc24⟩:=(kZ (h.lrnO 3 Z)).1.at hy15;have hr189:=R;obtain⟨_,_,rfl,_⟩:=fb R;have h:=h.lrnAdd 3 Z hr189;refine zx hp15 hq15 ⟨he15.1,qD he15.2.1 (kZ (h.lrnO 3 Z)).2⟩ Z (X0 3 Z (zc 2 hc24 Z (X0 6 Z (qh (t:=215) F Z ?_ ?_))))<;>intro F
   .refine X0 7 Z ?_;obtain⟨_,_,F,he16,_,_,_,_,hp16,hq16,S,hc25⟩:=(kZ (h.lrnO 3 Z)).1.ix F;have hr191:=S;obtain⟨_,_,rfl,_⟩:=fb S;have h:=h.lrnAdd 3 Z hr191;refine zx hp16 hq16 ⟨he16.1,qD he16.2.1 (kZ (h.lrnO 3 Z)).2⟩ Z (X0 3 Z (zc 2 hc25 Z (X0 12 Z (qp Z F ?_ ?_))))<;>intro F
    .refine X0 4 Z ?_;have h:=h.p [1,2,3,4] Z;cases qe F;exact rb h hK2 Z
    refine X0 7 Z ?_;have h:=h.unlrn 3 Z;exact rK ⟨_,_,_,_,_,_,_,_,_,_,_,_,_,_,_,_,_,_,_,F,Z,h⟩ Z
   refine X0 13 Z (ch Z Z (X0 7 Z ?_));have h:=h.unlrn 3 Z;exact rK ⟨_,_,_,_,_,_,_,_,_,_,_,_,_,_,_,_,_,_,_,F,Z,h⟩ Z
  exact X0 23 Z (ch Z Z (X0 7 Z (rK ⟨_,_,_,_,_,_,_,_,_,_,_,_,_,_,_,_,_,_,_,F,Z,h⟩ Z)))
 refine qx Z ?_;cases qe F;have F:=hK2;refine X0 7 Z (qp Z F ?_ ?_)<;>intro F
 .refine X0 4 Z ?_;have h:=h.p [1,2,3,4] Z;exact rb h F Z
 refine X0 7 Z (qp Z F ?_ ?_)<;>intro F
 .refine au (rD (vD Z ?_));obtain⟨_,hy18,F⟩:=qc F;have he18:=bH hy18;have h:=h.lrn0 3 Z;obtain⟨_,o_18,_,_,hp18,hq18,-,W,hc30⟩:=(kZ (h.lrnO 3 Z)).1.at hy18;have hr195:=W;obtain⟨_,_,rfl,_⟩:=fb W;have h:=h.lrnAdd 3 Z hr195;refine XH hp18 hq18 ⟨he18.1,qD he18.2.1 (kZ (h.lrnO 3 Z)).2⟩ Z (vD Z (XG 2 hc30 Z (Y1 2 1 h Z ?_)));refine vD Z ?_;obtain⟨_,_,F,he19,_,_,_,_,hp19,hq19,hr196,hc31⟩:=(sZ (h.own 2 Z)).2.1.1.ix F;obtain rfl:=qA hr196;refine XH hp19 hq19 ⟨he19.1,qD he19.2.1 (sZ (h.own 2 Z)).2.1.2⟩ Z (vD Z (XG 1 hc31 Z (xQ Z (dN h fun _ h=>?_))));have h:=h.p [1,2,3,4] Z;exact rb h F Z
 refine E1 (rD (vD Z ?_));obtain⟨_,hy20,F⟩:=qc F;have he20:=bH hy20;have h:=h.lrn0 3 Z;obtain⟨_,o_20,_,_,hp20,hq20,-,X,hc32⟩:=(kZ (h.lrnO 3 Z)).1.at hy20;have hr198:=X;obtain⟨_,_,rfl,_⟩:=fb X;have h:=h.lrnAdd 3 Z hr198;refine XH hp20 hq20 ⟨he20.1,qD he20.2.1 (kZ (h.lrnO 3 Z)).2⟩ Z (vD Z (XG 2 hc32 Z (Y1 2 1 h Z ?_)));refine vD Z ?_;obtain⟨_,_,F,he21,_,_,_,_,hp21,hq21,hr199,hc33⟩:=(sZ (h.own 2 Z)).2.1.1.ix F;obtain rfl:=qA hr199;refine XH hp21 hq21 ⟨he21.1,qD he21.2.1 (sZ (h.own 2 Z)).2.1.2⟩ Z (vD Z (XG 0 hc33 Z (xQ Z (dN h fun _ h=>?_))));have h:=h.p [1,2,3,4] Z;exact rb h F Z
end Go.Fw


namespace Go.Fw
open Go
set_option maxRecDepth 100000
section
variable{code:List (gW .u8)}
theorem HW(hk:qbc WH code):Ev (fun n=>tM n code) An:=by
 unfold tM NF;refine Cy Z (Ev.bif (fun _=>.done) (fun X=>?_));have X:code.length<=4096:=by have:=of_decide_eq_false X;omega
 obtain⟨⟨j,node,mode,count⟩,v,W⟩:=F7 (code:=code) ⟨by omega,hk.2⟩ (by omega);dsimp only at W;have h:=W.ok;refine Ck v ?_;dsimp only;obtain⟨⟨M,k⟩,hi,O⟩:=XL (node:=node) (mode:=mode) (count:=count) h;refine Ck hi (Ck v ?_);dsimp only at O⊢;rcases O with⟨a,rfl,hs⟩|⟨rfl,hm,y,t,R,f,c,N,rfl⟩
 .exact Cr (oR a) (Ck hs (Ck (b:=An) (Cr (by simp) (Cx Z)) .done))
 obtain⟨q0,q1⟩:=bV.1 y;have Y:=N.len;have D:=N.reached;have o:=fun h0=>N.first hm h0;have hnd:=N.nd;have F:(wj mode ((aP j t R.length node.toNat).map (vA (AR f j t mode)))).length=(aP j t R.length node.toNat).length:=by rw[VL,jq]
 have r:=fun q (y:q<(wj mode ((aP j t R.length node.toNat).map (vA (AR f j t mode)))).length)=>C4 (A:=AR f j t mode) y;have m:=fun i q (h1:i<q) (h2:q<(wj mode ((aP j t R.length node.toNat).map (vA (AR f j t mode)))).length)=>C2 hm (QX (mode:=mode) h1 h2);generalize wj mode ((aP j t R.length node.toNat).map (vA (AR f j t mode)))=S at o F r m⊢;have Q:=N.few;have H:(S.take count.toNat).length=min count.toNat S.length:=jy;have l:∀q,q<(S.take count.toNat).length->gt (S.take count.toNat) q=gt S q:=fun q y=>B6 (by omega);have hSl:S.length<=300:=by omega
 generalize hT:S.take count.toNat=T at H l⊢;refine Cp Z (Ck (F5 h N) (Ck v (Ck (W5 h N) (Ck v ?_))));dsimp only;have hr:=N.w.tm.r;have ha:=N.w.tm.a;have ir:qF t.Aq node=V (gt t.Aq node.toNat):=by
  have:=qz (xs:=t.Aq) (j:=node.toNat) (by omega);rwa [<-N.arr] at this
 have ia:qF t.Af node=V (gt t.Af node.toNat):=by
  have:=qz (xs:=t.Af) (j:=node.toNat) (by omega);rwa [<-N.arr] at this
 refine Ck (b:=Cd) (Cp Z (Cp Z (Cp ?_ (Cp (decide_eq_false (by omega)) (Cp (decide_eq_false (by omega)) (Cy ir (Cx ?_))))))) (Cp Z ?_)
 .have:(T.length:Int)=if count<gt c node.toNat then count else gt c node.toNat:=by split<;>omega
  simpa using this
 .rw[D];simp
 have B:∀d q,q+d=T.length->Ev (fun n=>du code T n j node mode (q:Int)) (.nxt (j,node,mode,(T.length:Int))):=by
  intro d
  induction d with
  |zero=>
   intro q y;obtain rfl:q=T.length:=by omega
   refine Cm ?_;simp only[du,qu (jf _),Cj];exact .done
  |succ d ih=>
   intro q y;have g:q<T.length:=by omega
   obtain⟨p,hp,ep⟩:=r q (by omega);obtain⟨P,he,z⟩:=N.isPath hp;have eq:gt T q=vA (AR f j t mode) p:=(l q g).trans ep;have e1:(gt T q).Bo=p.Bo:=by rw[eq];rfl
   have J:(gt T q).Bl=p.Bl:=by rw[eq];rfl
   have K:(gt T q).Af=AR f j t mode p:=by rw[eq];rfl
   have hA:=qas h N hm P z;have L:=qaz h N P z;rw[he] at L;have u:∀x:Nat,x<T.length->qF T (x:Int)=V (gt T x):=fun x hx=>qz hx;refine Cm ?_;simp only[du,wS q];refine Cr (qq g) (Cy (u q g) (Cy (u q g) ?_));rw[e1,J];refine Ck hA (Ck v (Cy (u q g) (Cy (u q g) ?_)));rw[e1,J];refine Ck L (Ck v (Ck (b:=Cd) (Cp Z (Cp Z (Cp (by simp) (Cy (u q g) (Cx ?_))))) (Cp Z (Ev.bif (fun s=>?_) fun _=>ih (q+1) (by omega)))))
   .rw[K];unfold AR;simp
   have s:0<q:=by have:=of_decide_eq_true s;omega
   have em:qj ((q:Int)-1)=((q-1:Nat):Int):=by rw[qY (by omega) (by omega)];omega
   rw[em];refine Cy (u (q-1) (by omega)) (Ev.bif (fun a=>Cy (u (q-1) (by omega)) (Cp ?_ (ih (q+1) (by omega)))) fun _=>ih (q+1) (by omega));obtain⟨I,o1⟩:=m (q-1) q (by omega) (by omega);rw[<-l q g,<-l (q-1) (by omega)] at I o1;rw[K] at I o1;have ea:IC mode (ED f (qd j.Ac) t (bh (aI j.Ap p.Bo)).2.Af p.Bl p.Bl.length)=AR f j t mode p:=rfl;rw[ea] at a⊢;have a:(gt T (q-1)).Af≠AR f j t mode p:=by simpa using a
   rcases vh hm with rfl|rfl
   .have:=I Z;have e:decide ((gt T (q-1)).Af > AR f j t 0 p)=Cd:=decide_eq_false (by omega);rw[e];rfl
   .have:=o1 Z;have e:decide ((gt T (q-1)).Af > AR f j t 1 p)=An:=decide_eq_true (by omega);rw[e];rfl
 refine Ck (B T.length 0 (by omega)) ?_;dsimp only;refine Ev.bif (fun _=>.done) (fun a=>?_);have a:T.length≠0:=by
  have:((T.length:Int)==0)=Cd:=a;intro e;rw[e] at this;cases this
 have i0:qF T (0:Int)=V (gt T 0):=qz (j:=0) (by omega);have C:=o (by omega);rw[<-l 0 (by omega)] at C;rcases vh hm with rfl|rfl
 .refine Cp Z (Cy i0 (Cy ia (Cx ?_)));rw[C];show V ((gt t.Af node.toNat).As==(gt t.Af node.toNat).As)=V An;simp
 .refine Cr Z (Cy i0 (Cy ia (Cx ?_)));rw[C];show V ((gt t.Af node.toNat).Be==(gt t.Af node.toNat).Be)=V An;simp
end
end Go.Fw
