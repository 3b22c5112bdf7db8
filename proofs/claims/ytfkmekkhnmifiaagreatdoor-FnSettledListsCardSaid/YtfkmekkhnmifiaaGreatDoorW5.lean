/- By a program of mine (gen.py): for each function a plain function and the proof that the code computes it. -/
import Derived.Test.YtfkmekkhnmifiaaGreatDoorZ2
import Derived.Test.YtfkmekkhnmifiaaGreatDoorA3
import Derived.Test.YtfkmekkhnmifiaaGreatDoorFw37
import Derived.Test.YtfkmekkhnmifiaaGreatDoorR3
open Option renaming bind_some->jd, some->V, none->G
open Bool renaming and_eq_true->je, eq_iff_iff->jj, true_and->jy, not_eq_true'->jA, or_eq_true->Jg, false_or->Ji, not_true->Jj
open Nat renaming le_refl->jf, mul_le_mul_right->ju, le_trans->jT, zero_le->jW, zero_add->Jf
open List renaming length_append->jg, length_singleton->jh, getElem?_eq_getElem->jn, getElem_mem->jo, length_map->jt, append_assoc->jv, getD_eq_getElem?_getD->jx, not_mem_nil->jz, take_succ_eq_append_getElem->jC, take_length->jG, length_replicate->jH, mem_cons->jK, length_take->jN, mem_append_left->jR, append_nil->jY, map_append->jZ, getElem_of_mem->Jb, mem_append_right->Jc, ext_getElem->Jh
open Int renaming toNat_natCast->jp, tdiv_eq_ediv_of_nonneg->jD, le_refl->jQ, mul_nonneg->jV, mul_le_mul->jX, add_zero->Jd, mul_assoc->Je

namespace Go.Fw
open Go Go.Proofs Go.Proofs.Tryz
open Go.RowKit (Below)
open Ch renaming own->oW,box->oX,grp->oG
open GoT renaming v->oV
open Go.Value renaming slice->oS
set_option maxRecDepth 100000
set_option maxHeartbeats 6400000
variable{n:Nat}{w:World}{cs1 cs2 cs3 cs4 cs5 cs6 cs7 cs8 cs9:List Value}
def qdK(b:(List Bool))(c:(List Bool)):Nat->(List Int)->Int->Option ((List Int)×Int)|0,_,_=>G|n+1,d,a=>bif decide (a<(b.length:Int)) then(idx c a).bind fun g=>bif (!g) then(appS d ([a]:List Int)).bind fun f=>qdK b c n f (W64 (a+1)) else qdK b c n d (W64 (a+1)) else V (d,a)
def qby(r1:(List qv))(c:(List Bool))(b:(List (List Int))):Nat->Int->Int->Option (Int×Int)|0,_,_=>G|n+1,d,a=>bif decide (a<(r1.length:Int)) then(idx c a).bind fun h=>bif h then(idx r1 a).bind fun i=>bif (i.Au==1) then(idx b 0).bind fun k=>(idx r1 a).bind fun l=>(qgz n k l.Be).bind fun f=>bif f then(idx b 0).bind fun m=>(idx r1 a).bind fun o=>(qgz n m o.To).bind fun g=>bif g then qby r1 c b n a (W64 (a+1)) else qby r1 c b n d (W64 (a+1)) else qby r1 c b n d (W64 (a+1)) else qby r1 c b n d (W64 (a+1)) else qby r1 c b n d (W64 (a+1)) else V (d,a)
def qgo(r1:(List qv))(c:Int):Nat->(List Bool)->Option (List Bool)|0,_=>G|n+1,a=>(qjE n c r1 a).bind fun d=>bif ((d.length:Int)==0) then V a else(qby r1 a d n (-1) 0).bind fun(b,_)=>(idx a b).bind fun _=>qgo r1 c n (setS a b false)
def qjK(n:Nat)(a_0:qd):Option (List Int):=(qeL n a_0).bind fun r1=>(qh0 n r1 ([]:List Int)).bind fun a=>(qf5 n a_0).bind fun b=>(qgo r1 b n a).bind fun c=>(qdK a c n ([]:List Int) 0).bind fun(d,_)=>V d
theorem qo6{a_0:qd}(b:Ro w a_0 cs1){r:(List Int)}(F:qjK n a_0=V r):RetV prog 173 [gv a_0 cs1] w r:=by
 obtain⟨_,_,_,_,_,_,_,_,_,_,rfl,_,_,_,_,_⟩:=qF b;refine zV 86 func173 Z fun h=>zSR (qB h Z Z fun _ _ h=>X1 5 0 h Z (zcL h F (qgu (h.old b)) Z fun r1 _ S1 R Q h F=>X0 5 Z (qm qa [] _ ([]:List Int) h z9 trivial Z fun _ _ _ h=>zcL h F (qj8 (h.own 1 Z) (h.own 0 Z)) Z fun g _ T l k h F=>X1 5 3 h Z (zcI h F (qhP (h.old b)) Z fun r3 _ h F=>X0 3 Z ?_))));obtain⟨o1,F,W⟩:=qc F;refine ql ?_;replace h:=h.p [0,2] Z;refine rL (fun m e w'=>∃i,qgo r1 r3 m i=V o1/\e=[(3,oS R r1.length Q),(4,oS l g.length k),(5,vi r3)]/\SH w w' [oW T (i:List Bool) [oS l g.length k],oW S1 (r1:List qv) [oS R r1.length Q]]) n ⟨_,F,rfl,h⟩ Z ?_;rintro m1 _ _ ⟨i,F,rfl,h⟩;rcases m1 with _|m1
 ·cases F
 refine X0 6 Z (zcL h F (qpj (h.own 1 Z) (h.own 0 Z)) Z fun S _ S4 p9 k8 h F=>X0 9 Z (qk Z F ?_ ?_))<;>intro F
 ·refine qu Z ?_;obtain rfl:=qb F;replace F:=W;refine zSR (qm qa [] _ ([]:List Int) h z9 trivial Z fun _ _ _ h=>X0 7 Z ?_);obtain⟨o2,F,X⟩:=qc F;refine ql ?_;replace h:=h.p [0,2] Z;refine rL (fun m e w'=>∃S6 f d k9 x2 P,qdK g i m x2 P=V o2/\e=[(4,oS l g.length k),(9,oS f d k9),(10,vi P)]/\SH w w' [oW S6 (x2:List Int) [oS f d k9],oW T (i:List Bool) [oS l g.length k]]) n ⟨_,_,_,_,_,_,F,rfl,h⟩ Z ?_;rintro m2 _ _ ⟨S6,f,d,k9,x2,P,F,rfl,h⟩;obtain rfl:=(h.sl 0 Z).2;rcases m2 with _|m2
  ·cases F
  refine X0 8 Z (qk Z F ?_ ?_)<;>intro F
  ·refine X0 7 Z ?_;obtain⟨_,_,F,u,_,_,_,_,a8,b9,rfl,a3⟩:=(h.sl 1 Z).1.ix F;refine zx a8 b9 ⟨u.1,qC u.2.1 (h.sl 1 Z).2⟩ Z (zc 0 a3 Z (X0 2 Z (qk Z F ?_ ?_)))<;>intro F
   ·refine X0 3 Z (qm qa [.tmp 82] _ ([P]:List Int) h z9 ⟨rfl,trivial⟩ Z fun _ _ _ h=>?_);obtain⟨_,c,F⟩:=qc F;obtain⟨g1,c⟩:=qD c;refine qav qa 1 h Z (h.sl 0 Z).1 (h.sl 0 Z).2 z9 g1 c Z fun _ _ _ _ h=>X0 8 Z ?_;replace h:=h.p [1,2] Z;exact rK ⟨_,_,_,_,_,_,F,rfl,h⟩ Z
   exact X0 7 Z (rK ⟨_,_,_,_,_,_,F,rfl,h⟩ Z)
  refine qu Z ?_;cases qb F;replace F:=X;refine X0 5 Z ?_;cases qb F;exact rO 0 h Z ⟨rfl,trivial⟩
 refine X0 10 Z ?_;obtain⟨o3,F,Y⟩:=qc F;refine ql (rL (fun m e w'=>∃i2 i3,qby r1 i S m i2 i3=V o3/\e=[(3,oS R r1.length Q),(4,oS l g.length k),(5,vi r3),(6,oS p9 S.length k8),(7,vi i2),(8,vi i3)]/\SH w w' [oW S4 (S:List (List Int)) [oS p9 S.length k8],oW T (i:List Bool) [oS l g.length k],oW S1 (r1:List qv) [oS R r1.length Q]]) m1 ⟨_,_,F,rfl,h⟩ Z ?_);rintro m3 _ _ ⟨i2,i3,F,rfl,h⟩;rcases m3 with _|m3
 ·cases F
 refine X0 8 Z (qk Z F ?_ ?_)<;>intro F
 ·refine X0 4 Z (rD (zd2 Z ?_));obtain⟨_,_,F,v,_,_,_,_,a9,c0,rfl,a4⟩:=(h.sl 1 Z).1.ix F;refine zdx a9 c0 ⟨v.1,qC v.2.1 (h.sl 1 Z).2⟩ Z (zdc 0 a4 Z (zd1 Z (qaO (t:=35) F Z ?_ ?_)))<;>intro F
  ·refine Y0 5 Z ?_;obtain⟨_,_,F,x,_,_,_,_,b4,c2,c7,a5⟩:=(h.sl 2 Z).1.ix F;obtain rfl:=qaD c7;refine zdx b4 c2 ⟨x.1,qC x.2.1 (h.sl 2 Z).2⟩ Z (Y0 3 Z (zdc 2 a5 Z (Y0 4 Z (qaO (t:=43) F Z ?_ ?_))))<;>intro F
   ·refine Y0 3 Z ?_;obtain⟨_,O,F⟩:=qc F;have y:=qbH O;replace h:=h.lrn0 0 Z;obtain⟨_,o_4,_,_,b5,c3,-,N,a6⟩:=(qmA (h.lrnO 0 Z)).1.at O;have c8:=N;obtain⟨_,_,rfl,_⟩:=N;replace h:=h.lrnAdd 0 Z c8;refine zdx b5 c3 ⟨y.1,qC y.2.1 (qmA (h.lrnO 0 Z)).2⟩ Z (Y0 1 Z (zdc 0 a6 Z (Y0 5 Z ?_)));obtain⟨_,_,F,z,_,_,_,_,b6,c4,I,a7⟩:=(h.sl 2 Z).1.ix F;obtain rfl:=qaD I;refine zdx b6 c4 ⟨z.1,qC z.2.1 (h.sl 2 Z).2⟩ Z (Y0 3 Z (zdc 0 a7 Z (Y0 1 Z ?_)));obtain⟨r5,J,F⟩:=qc F;refine qck r5 (vsB _) (cB 128 Z) (fun _ hb=>qhy (GoT.mono ((h.ext hb).lrnS 0 0 Z Z) ((h.ext hb).lrnB 0 Z)) J) Z Z Z Z (zd2 Z (qaO (t:=54) F Z ?_ ?_))<;>intro F
    ·refine Y0 3 Z ?_;obtain⟨_,_,F,A,_,_,_,_,b7,c5,a,o⟩:=(qmA (h.lrnO 0 Z)).1.ix F;have K:=a;obtain⟨_,_,rfl,_⟩:=a;replace h:=h.lrnAdd 0 Z K;refine zdx b7 c5 ⟨A.1,qC A.2.1 (qmA (h.lrnO 0 Z)).2⟩ Z (Y0 1 Z (zdc 0 o Z (Y0 5 Z ?_)));obtain⟨_,_,F,B,_,_,_,_,b8,c6,L,p⟩:=(h.sl 2 Z).1.ix F;obtain rfl:=qaD L;refine zdx b8 c6 ⟨B.1,qC B.2.1 (h.sl 2 Z).2⟩ Z (Y0 3 Z (zdc 1 p Z (Y0 1 Z ?_)));obtain⟨r6,M,F⟩:=qc F;refine qck r6 (vsB _) (cB 128 Z) (fun _ hb=>qhy (GoT.mono ((h.ext hb).lrnS 0 0 Z Z) ((h.ext hb).lrnB 0 Z)) M) Z Z Z Z (zd1 Z (dN h fun _ h=>qk Z F ?_ ?_))<;>intro F
     ·refine X0 10 Z ?_;replace h:=h.unlrn 0 Z;exact rK ⟨_,_,F,rfl,h⟩ Z
     refine X0 7 Z ?_;replace h:=h.unlrn 0 Z;exact rK ⟨_,_,F,rfl,h⟩ Z
    refine Y0 10 Z (dN h fun _ h=>qbc Z Z (X0 7 Z ?_));replace h:=h.unlrn 0 Z;exact rK ⟨_,_,F,rfl,h⟩ Z
   exact Y0 21 Z (dN h fun _ h=>qbc Z Z (X0 7 Z (rK ⟨_,_,F,rfl,h⟩ Z)))
  exact Y0 29 Z (dN h fun _ h=>qbc Z Z (X0 7 Z (rK ⟨_,_,F,rfl,h⟩ Z)))
 refine qu Z ?_;cases qb F;replace F:=Y;refine X0 3 Z ?_;obtain⟨_,c9,F,C,_,_,_,_,D,H,rfl,s⟩:=(h.sl 1 Z).1.ix F;refine zx D H ⟨C.1,qC C.2.1 (h.sl 1 Z).2⟩ Z (qaC qa 1 0 false h Z c9 D H Z s Z Z Z Z Z Z Z fun _ h=>zNE ?_);replace h:=h.p [1,2] Z;exact rK ⟨_,F,rfl,h⟩ Z
def qbP(a_0:Tl01Source)(A:Int)(b1:Bool):Nat->(List qf)->Int->Int->Int->Option ((List qf)×Int×Int×Int)|0,_,_,_,_=>G|n+1,D,B,C,d=>bif decide (d<2) then(bif b1 then(qr n (⟨a_0.code,B,C⟩:Tl01Source) 8).bind fun(s,b,c)=>bif decide (s > 0) then V (b,c,true) else(qr n (⟨a_0.code,b,c⟩:Tl01Source) 24).bind fun(t,u,v)=>V (u,v,(t==0)) else(qr n (⟨a_0.code,B,C⟩:Tl01Source) 24).bind fun(x,y,z)=>V (y,z,(x==0))).bind fun|(F,i8,b2)=>bif b2 then(qr n (⟨a_0.code,F,i8⟩:Tl01Source) 200).bind fun|(H,f,g)=>(qr n (⟨a_0.code,f,g⟩:Tl01Source) 30).bind fun(a,h,i)=>(qr n (⟨a_0.code,h,i⟩:Tl01Source) 40).bind fun(k,i16,l)=>(qr n (⟨a_0.code,i16,l⟩:Tl01Source) 12).bind fun(m,p,r)=>(appS D ([(⟨W64 ((W64 (2*A))+d),(⟨W64 (H-50),W64 ((W64 (H-50))+k)⟩:qg),(⟨a,W64 (a+m)⟩:qg)⟩:qf)]:List qf)).bind fun I=>qbP a_0 A b1 n I p r (W64 (d+1)) else qbP a_0 A b1 n D F i8 (W64 (d+1)) else V (D,B,C,d)
def qcl(a_0:Tl01Source)(b:(List Tl05Place)):Nat->(List qf)->Int->Int->Int->Option ((List qf)×Int×Int×Int)|0,_,_,_,_=>G|n+1,f,c,d,a=>bif decide (a<(b.length:Int)) then((idx b a).bind fun k=>bif decide (k.instance_<0) then(idx b a).bind fun l=>V l.drives else V false).bind fun b1=>(qbP a_0 a b1 n f c d 0).bind fun(i,g,h,_)=>qcl a_0 b n i g h (W64 (a+1)) else V (f,c,d,a)
def qeA(n:Nat)(a_0:Tl01Source)(a_1:qd):Option ((List qf)×Int×Int):=(qb2 n a_1).bind fun r1=>bif (!r1) then V (([]:List qf),a_0.at_,a_0.seed) else(qb9 n (⟨a_1.Aa.Ab,a_1.Aa.Ah,a_1.Aa.Ai⟩:qj)).bind fun p=>(qcl a_0 p n ([]:List qf) a_0.at_ a_0.seed 0).bind fun(b,h,i,_)=>bif decide ((b.length:Int) > 0) then(qr n (⟨a_0.code,h,i⟩:Tl01Source) (b.length:Int)).bind fun(a,g,i32)=>(qr n (⟨a_0.code,g,i32⟩:Tl01Source) 30).bind fun(f,c,d)=>bif (f==0) then(idx b 0).bind fun r=>(idx b a).bind fun s=>V ((setS b a ({ s with Bi:=r.Bi })),c,d) else bif (f==1) then(idx b a).bind fun t=>(idx b a).bind fun k=>V ((setS b a ({ k with Af:={ k.Af with Ak:=W64 (t.Af.As+1) } })),c,d) else bif (f==2) then(idx b a).bind fun l=>V ((setS b a ({ l with Av:={ l.Av with Ak:=(-1) } })),c,d) else bif (f==3) then(idx b a).bind fun m=>V ((setS b a ({ m with Af:={ m.Af with As:=1000000000 } })),c,d) else V (b,c,d) else V (b,h,i)
theorem qiK{n b w F}{a_0:Tl01Source}{a p1 c}{a_1:qd}{cs1}(p:SH b w (xb a a_0 p1 c a_0.at_ a_0.seed::F))(ha1:GoT.R w (Fr b F) a_0 (qab a_0 p1 c))(I:GoT.R w (Fr b F) a_1 cs1){r:((List qf)×Int×Int)}(hF:qeA n a_0 a_1=V r):RetW prog 174 [vp a,gv a_1 cs1] w (fun us w'=>∃S1 cs2,us=[oV (List qf) cs2]/\SH b w' (oW S1 (r.1:(List qf)) cs2::xb a a_0 p1 c r.2.1 r.2.2::F)):=by
 have h:=SH.frm1 p ha1;have hz1:=I;obtain⟨p2,k2,p3,k3,p4,k4,p5,k5,p6,k6,rfl,_,_,_,_,_⟩:=qF I;replace h:=h.grpAdd 1 Z hz1;replace h:SH _ _ [xb a a_0 p1 c a_0.at_ a_0.seed,oG (old b) (FS F) [fct (a_1:qd) (qt a_1 p2 p3 p4 p5 p6 k2 k3 k4 k5 k6),fct (a_0:Tl01Source) (qab a_0 p1 c),same b w F]]:=h;refine qa8 func174 Z (m:=128) Z Z (zSR (qB h Z Z fun _ _ h=>X0 4 Z (qm qa [] _ ([]:List qf) h z9 trivial Z fun _ p7 _ h=>X1 6 1 h Z (zcB h hF (qej (h.grp 3 0 Z Z)) Z fun _ _ h hF=>X0 2 Z (qk Z hF ?_ ?_)))))<;>intro hF
 ·refine X0 5 Z ?_;obtain rfl:=qb hF;replace h:=h.p [0,2,3] Z;exact qaL qa [oV (List qf) [oS p7 0 0]] ⟨rfl,trivial⟩ ⟨_,_,rfl,SH.unfr 1 2 p h Z Z⟩
 refine X1 5 1 h Z (zcL h hF (qb3 (show GoT.R _ _ (a_1.Aa:qj) _ from⟨[oS p3 a_1.Aa.Ab.length k3],[oS p4 a_1.Aa.Ah.length k4,oS p5 a_1.Aa.Ai.length k5],rfl,⟨_,_,rfl,(qf4 (h.grp 3 0 Z Z)).2.1.1⟩,⟨[oS p4 a_1.Aa.Ah.length k4],[oS p5 a_1.Aa.Ai.length k5],rfl,⟨_,_,rfl,(qf4 (h.grp 3 0 Z Z)).2.2.1.1⟩,⟨_,_,rfl,(qf4 (h.grp 3 0 Z Z)).2.2.2.1.1⟩⟩⟩)) Z fun d _ S3 u s h hF=>X0 7 Z ?_);replace h:=h.grpKeep [1,2] 4 Z;obtain⟨o1,hF,hK1⟩:=qc hF;refine ql ?_;replace h:=h.p [0,1,3,4] Z;refine rL (fun m e w'=>∃S4 k y g f i1 i2 o,qcl a_0 d m f i1 i2 o=V o1/\e=[(0,vp a),(5,oS k y g),(6,oS u d.length s),(7,vi o)]/\SH b w' [oW S3 (d:List Tl05Place) [oS u d.length s],oW S4 (f:List qf) [oS k y g],xb a a_0 p1 c i1 i2,xf b w F a_0 p1 c]) n ⟨_,_,_,_,_,_,_,_,hF,rfl,h⟩ Z ?_;rintro m1 _ _ ⟨S4,k,y,g,f,i1,i2,o,hF,rfl,h⟩;obtain rfl:=(h.sl 1 Z).2;rcases m1 with _|m1
 ·cases hF
 refine X0 8 Z (qk Z hF ?_ ?_)<;>intro hF
 ·refine X0 4 Z ?_;obtain⟨KF2,H,_,hF,C⟩:=bindE hF;refine qas (fun e w'=>∃b1,KF2 b1=V o1/\e=[(0,vp a),(5,oS k f.length g),(6,oS u d.length s),(7,vi o),(8,.bool b1)]/\SH b w' [oW S3 (d:List Tl05Place) [oS u d.length s],oW S4 (f:List qf) [oS k f.length g],xb a a_0 p1 c i1 i2,xf b w F a_0 p1 c]) ?_ ?_
  ·refine X0 3 Z ?_;obtain⟨_,_,hF,O,_,_,_,_,hp1,hq1,b4,hc5⟩:=(h.sl 0 Z).1.ix hF;obtain rfl:=qbF b4;refine zx hp1 hq1 ⟨O.1,qC O.2.1 (h.sl 0 Z).2⟩ Z (zp1 Z (zc 0 hc5 Z (zp2 Z (qe (t:=33) hF Z ?_ ?_))))<;>intro hF
   ·refine X0 5 Z ?_;obtain⟨_,_,hF,P,_,_,_,_,hp2,hq2,b5,hc6⟩:=(h.sl 0 Z).1.ix hF;obtain rfl:=qbF b5;refine zx hp2 hq2 ⟨P.1,qC P.2.1 (h.sl 0 Z).2⟩ Z (X0 3 Z (zc 3 hc6 Z (X0 3 Z ?_)));cases qb hF;exact rG ⟨_,C,rfl,h⟩ Z
   refine X0 8 Z ?_;cases qb hF;exact rG ⟨_,C,rfl,h⟩ Z
  rintro _ _ ⟨b1,hF,rfl,h⟩;subst H;refine X0 4 Z ?_;obtain⟨o2,hF,hK2⟩:=qc hF;refine ql (rL (fun m e w'=>∃S5 i z k9 B i4 i5 A,qbP a_0 o b1 m B i4 i5 A=V o2/\e=[(0,vp a),(5,oS i z k9),(6,oS u d.length s),(7,vi o),(8,.bool b1),(9,vi A)]/\SH b w' [oW S3 (d:List Tl05Place) [oS u d.length s],oW S5 (B:List qf) [oS i z k9],xb a a_0 p1 c i4 i5,xf b w F a_0 p1 c]) m1 ⟨_,_,_,_,_,_,_,_,hF,rfl,h⟩ Z ?_);rintro m2 _ _ ⟨S5,i,z,k9,B,i4,i5,A,hF,rfl,h⟩;obtain rfl:=(h.sl 1 Z).2;rcases m2 with _|m2
  ·cases hF
  refine X0 6 Z (qk Z hF ?_ ?_)<;>intro hF
  ·refine X0 4 Z ?_;obtain⟨KF1,D,_,hF,v⟩:=bindE hF;refine qas (fun e w'=>∃i7 i8 b2,KF1 (i7,i8,b2)=V o2/\e=[(0,vp a),(5,oS i B.length k9),(6,oS u d.length s),(7,vi o),(8,.bool b1),(9,vi A),(54,.bool b2)]/\SH b w' [xb a a_0 p1 c i7 i8,oW S3 (d:List Tl05Place) [oS u d.length s],oW S5 (B:List qf) [oS i B.length k9],xf b w F a_0 p1 c]) ?_ ?_
   ·refine X0 3 Z (qe (t:=45) hF Z ?_ ?_)<;>intro hF
    ·refine X0 3 Z ?_;replace h:=h.p [2,0,1,3] Z;obtain⟨⟨_,_,_⟩,hr7,hF⟩:=qc hF;refine nxE h (h.frG 3 0 1 Z Z Z) hr7 Z Z Z fun _ h=>X0 4 Z (qe (t:=50) hF Z ?_ ?_)<;>intro hF
     ·refine X0 5 Z ?_;cases qb hF;exact rG ⟨_,_,_,v,rfl,h⟩ Z
     refine X0 3 Z ?_;obtain⟨⟨_,_,_⟩,hr8,hF⟩:=qc hF;refine nxE h (h.frG 3 0 1 Z Z Z) hr8 Z Z Z fun _ h=>X0 4 Z ?_;cases qb hF;exact rG ⟨_,_,_,v,rfl,h⟩ Z
    refine X0 8 Z ?_;replace h:=h.p [2,0,1,3] Z;obtain⟨⟨_,_,_⟩,hr9,hF⟩:=qc hF;refine nxE h (h.frG 3 0 1 Z Z Z) hr9 Z Z Z fun _ h=>X0 4 Z ?_;cases qb hF;exact rG ⟨_,_,_,v,rfl,h⟩ Z
   rintro _ _ ⟨i7,i8,b2,hF,rfl,h⟩;subst D;refine qk Z hF ?_ ?_<;>intro hF
   ·refine X0 3 Z ?_;obtain⟨⟨i9,_,_⟩,hr3,hF⟩:=qc hF;refine nxE h (h.frG 3 0 1 Z Z Z) hr3 Z Z Z fun _ h=>zp2 Z ?_;obtain⟨⟨l,_,_⟩,hr4,hF⟩:=qc hF;refine nxE h (h.frG 3 0 1 Z Z Z) hr4 Z Z Z fun _ h=>X0 12 Z ?_;obtain⟨⟨c5,_,_⟩,hr5,hF⟩:=qc hF;refine nxE h (h.frG 3 0 1 Z Z Z) hr5 Z Z Z fun _ h=>zp1 Z (r_v (qz qa [0,1] [.tmp 65,.tmp 69] z8) Z (zp3 Z ?_));obtain⟨⟨c6,_,_⟩,hr6,hF⟩:=qc hF;refine nxE h (h.frG 3 0 1 Z Z Z) hr6 Z Z Z fun _ h=>zp1 Z (r_v (qz qa [0,1] [.tmp 71,.tmp 75] z8) Z (r_v (qz qa [0,1,2] [.tmp 64,.tmp 70,.tmp 76] z8) Z (qm qa [.tmp 77] _ ([(⟨W64 ((W64 (2*o))+A),(⟨W64 (i9-50),W64 ((W64 (i9-50))+c5)⟩:qg),(⟨l,W64 (l+c6)⟩:qg)⟩:qf)]:List qf) h z9 ⟨(qcb (⟨W64 ((W64 (2*o))+A),(⟨W64 (i9-50),W64 ((W64 (i9-50))+c5)⟩:qg),(⟨l,W64 (l+c6)⟩:qg)⟩:qf)),trivial⟩ Z fun _ _ _ h=>?_)));obtain⟨_,x,hF⟩:=qc hF;obtain⟨g1,x⟩:=qD x;refine qav qa 3 h Z (h.sl 0 Z).1 (h.sl 0 Z).2 z9 g1 x Z fun _ _ _ _ h=>X0 8 Z ?_;replace h:=h.p [2,3,1,4] Z;exact rK ⟨_,_,_,_,_,_,_,_,hF,rfl,h⟩ Z
   refine X0 7 Z ?_;replace h:=h.p [1,2,0,3] Z;exact rK ⟨_,_,_,_,_,_,_,_,hF,rfl,h⟩ Z
  refine qu Z ?_;cases qb hF;exact X0 6 Z (rK ⟨_,_,_,_,_,_,_,_,hK2,rfl,h⟩ Z)
 refine qu Z ?_;cases qb hF;replace hF:=hK1;refine X0 7 Z (qk Z hF ?_ ?_)<;>intro hF
 ·refine X0 5 Z ?_;replace h:=h.p [2,0,1,3] Z;obtain⟨⟨_,_,_⟩,b6,hF⟩:=qc hF;refine nxE h (h.frG 3 0 1 Z Z Z) b6 Z Z Z fun _ h=>X0 5 Z ?_;obtain⟨⟨_,_,_⟩,b7,hF⟩:=qc hF;refine nxE h (h.frG 3 0 1 Z Z Z) b7 Z Z Z fun _ h=>X0 7 Z (qk Z hF ?_ ?_)<;>intro hF
  ·refine X0 4 Z ?_;obtain⟨y3,_,hF,Q,_,_,_,_,hp3,hq3,b8,hc9⟩:=(h.sl 2 Z).1.ix hF;obtain rfl:=qax b8;refine zx hp3 hq3 ⟨Q.1,qC Q.2.1 (h.sl 2 Z).2⟩ Z (zp1 Z (zc 0 hc9 Z ?_));obtain⟨y4,hy4,hF,R,_,_,_,_,Y,a6,b9,J⟩:=(h.sl 2 Z).1.ix hF;obtain rfl:=qax b9;refine zx Y a6 ⟨R.1,qC R.2.1 (h.sl 2 Z).2⟩ Z (zp1 Z (qaC qa 2 0 ({ y4 with Bi:=y3.Bi }:qf) h Z hy4 Y a6 (qcb y4) J Z Z Z (qcb ({ y4 with Bi:=y3.Bi })) Z Z Z fun _ h=>X0 7 Z ?_));obtain rfl:=qb hF;replace h:=h.p [2,0,3] Z;exact qaL qa [oV (List qf) [oS k f.length g]] ⟨rfl,trivial⟩ ⟨_,_,rfl,SH.unfr 1 1 p h Z Z⟩
  refine X0 5 Z (qk Z hF ?_ ?_)<;>intro hF
  ·refine X0 5 Z ?_;obtain⟨y5,_,hF,S,_,_,_,_,hp5,hq5,c0,K⟩:=(h.sl 2 Z).1.ix hF;obtain rfl:=qax c0;refine zx hp5 hq5 ⟨S.1,qC S.2.1 (h.sl 2 Z).2⟩ Z (zp2 Z (zc 2 K Z (zp1 Z ?_)));obtain⟨y6,hy6,hF,T,_,_,_,_,a3,a7,c2,L⟩:=(h.sl 2 Z).1.ix hF;obtain rfl:=qax c2;refine zx a3 a7 ⟨T.1,qC T.2.1 (h.sl 2 Z).2⟩ Z (zp2 Z (qaC qa 2 1 ({ y6 with Af:={ y6.Af with Ak:=W64 (y5.Af.As+1) } }:qf) h Z hy6 a3 a7 (qcb y6) L Z Z Z (qcb ({ y6 with Af:={ y6.Af with Ak:=W64 (y5.Af.As+1) } })) Z Z Z fun _ h=>X0 7 Z ?_));obtain rfl:=qb hF;replace h:=h.p [2,0,3] Z;exact qaL qa [oV (List qf) [oS k f.length g]] ⟨rfl,trivial⟩ ⟨_,_,rfl,SH.unfr 1 1 p h Z Z⟩
  refine X0 5 Z (qk Z hF ?_ ?_)<;>intro hF
  ·refine X0 3 Z ?_;obtain⟨y7,hy7,hF,W,_,_,_,_,a4,a8,c3,M⟩:=(h.sl 2 Z).1.ix hF;obtain rfl:=qax c3;refine zx a4 a8 ⟨W.1,qC W.2.1 (h.sl 2 Z).2⟩ Z (zp2 Z (qaC qa 2 3 ({ y7 with Av:={ y7.Av with Ak:=(-1) } }:qf) h Z hy7 a4 a8 (qcb y7) M Z Z Z (qcb ({ y7 with Av:={ y7.Av with Ak:=(-1) } })) Z Z Z fun _ h=>X0 7 Z ?_));obtain rfl:=qb hF;replace h:=h.p [2,0,3] Z;exact qaL qa [oV (List qf) [oS k f.length g]] ⟨rfl,trivial⟩ ⟨_,_,rfl,SH.unfr 1 1 p h Z Z⟩
  refine X0 5 Z (qk Z hF ?_ ?_)<;>intro hF
  ·refine X0 3 Z ?_;obtain⟨y8,hy8,hF,X,_,_,_,_,a5,a9,c4,N⟩:=(h.sl 2 Z).1.ix hF;obtain rfl:=qax c4;refine zx a5 a9 ⟨X.1,qC X.2.1 (h.sl 2 Z).2⟩ Z (zp2 Z (qaC qa 2 2 ({ y8 with Af:={ y8.Af with As:=1000000000 } }:qf) h Z hy8 a5 a9 (qcb y8) N Z Z Z (qcb ({ y8 with Af:={ y8.Af with As:=1000000000 } })) Z Z Z fun _ h=>X0 7 Z ?_));obtain rfl:=qb hF;replace h:=h.p [2,0,3] Z;exact qaL qa [oV (List qf) [oS k f.length g]] ⟨rfl,trivial⟩ ⟨_,_,rfl,SH.unfr 1 1 p h Z Z⟩
  refine X0 7 Z ?_;obtain rfl:=qb hF;replace h:=h.p [2,0,3] Z;exact qaL qa [oV (List qf) [oS k f.length g]] ⟨rfl,trivial⟩ ⟨_,_,rfl,SH.unfr 1 1 p h Z Z⟩
 refine X0 6 Z ?_;obtain rfl:=qb hF;replace h:=h.p [1,2,3] Z;exact qaL qa [oV (List qf) [oS k f.length g]] ⟨rfl,trivial⟩ ⟨_,_,rfl,SH.unfr 1 1 p h Z Z⟩
def qhW(n:Nat)(s:Tl01Source):Option (qd×qx×(List Int)×(List qf)×Int×Int):=(qha n (⟨s.code,s.at_,s.seed⟩:Tl01Source)).bind fun(r1,y,z)=>(qgU n (⟨s.code,y,z⟩:Tl01Source)).bind fun|(v,A,B)=>(qr n (⟨s.code,A,B⟩:Tl01Source) 3).bind fun|(C,t,u)=>(bif (C==0) then(qeH n (⟨s.code,t,u⟩:Tl01Source) 5 true).bind fun|(K,p,r)=>V (K,p,r) else V (r1,t,u)).bind fun|(c,i8,D)=>(qgP n (⟨s.code,i8,D⟩:Tl01Source) c).bind fun(x,a,b)=>((qb2 n c).bind fun J=>bif J then bif ((x.length:Int)==0) then(qr n (⟨s.code,a,b⟩:Tl01Source) 6).bind fun(k,l,m)=>V (l,m,decide (k > 0)) else V (a,b,false) else V (a,b,false)).bind fun(d,f,b1)=>bif b1 then(qjK n c).bind fun F=>(qeA n (⟨s.code,d,f⟩:Tl01Source) c).bind fun|(H,g,h)=>V (c,v,F,H,g,h) else(qeA n (⟨s.code,d,f⟩:Tl01Source) c).bind fun|(I,i16,i)=>V (c,v,x,I,i16,i)
theorem qm7{n K w F}{s:Tl01Source}{g p1 o}(h0:SH K w (xb g s p1 o s.at_ s.seed::F))(ha1:GoT.R w (Fr K F) s (qab s p1 o)){r:(qd×qx×(List Int)×(List qf)×Int×Int)}(hF:qhW n s=V r):RetW prog 116 [vp g] w (fun us w'=>∃S1 cs1 S2 cs2 S3 cs3,us=[oV qd cs1,oV qx (qN r.2.1),oV (List Int) cs2,oV (List qf) cs3]/\SH K w' (oG (fun _=>False) S1 [fct (r.1:qd) cs1]::oG (fun _=>False) S2 [fct (r.2.2.1:(List Int)) cs2]::oG (fun _=>False) S3 [fct (r.2.2.2.1:(List qf)) cs3]::xb g s p1 o r.2.2.2.2.1 r.2.2.2.2.2::F)):=by
 have h:=SH.frm1 h0 ha1;refine qa8 func116 Z (m:=41) Z Z (zSR (qh qa h Z Z Z fun _ p h=>qh qa h Z Z Z fun _ u h=>X0 6 Z ?_));replace h:=h.p [2,0,1,3] Z;obtain⟨⟨r1,i1,i2⟩,hr1,hF⟩:=qc hF;refine qaS (cB 26 Z) (qmS (s:=s) h (show GoT.R _ _ (s:Tl01Source) _ from⟨[oS p1 s.code.length o],[vi s.at_,vi s.seed],rfl,⟨_,_,rfl,(qA (h.frG 3 0 1 Z Z Z)).1⟩,⟨[vi s.at_],[vi s.seed],rfl,rfl,rfl⟩⟩) hr1) Z Z Z Z ?_;rintro _ _ ⟨S4,_,rfl,h⟩;have hr2:=h.grpS 0 0 Z Z;obtain⟨p2,k2,p3,k3,p4,k4,p5,k5,p6,k6,rfl,_,_,_,_,_⟩:=qF hr2;replace h:SH _ _ [oG (fun _=>False) S4 [fct (r1:qd) (qt r1 p2 p3 p4 p5 p6 k2 k3 k4 k5 k6)],xb g s p1 o i1 i2,oX u zl8 36,oX p zl7 34,xf K w F s p1 o]:=h;refine qh qa h Z Z Z fun _ v h=>zs 0 h Z fun _ h=>X0 4 Z ?_;replace h:=h.p [2,0,1,3,4,5] Z;obtain⟨⟨M,_,_⟩,hr4,hF⟩:=qc hF;refine qaS (cB 30 Z) (qmu (s:=(⟨s.code,i1,i2⟩:Tl01Source)) h (show GoT.R _ _ ((⟨s.code,i1,i2⟩:Tl01Source):Tl01Source) _ from⟨[oS p1 s.code.length o],[vi i1,vi i2],rfl,⟨_,_,rfl,(qA (h.frG 5 0 1 Z Z Z)).1⟩,⟨[vi i1],[vi i2],rfl,rfl,rfl⟩⟩) hr4) Z Z Z Z ?_;rintro _ _ ⟨rfl,h⟩;dsimp only at h;refine qh qa h Z Z Z fun _ y h=>zs 0 h Z fun _ h=>X0 5 Z ?_;replace h:=h.p [1,0,2,3,4,5,6] Z;obtain⟨⟨_,i6,i7⟩,hr5,hF⟩:=qc hF;refine nxC h ((qA (h.frG 6 0 1 Z Z Z)).1) hr5 Z Z Z fun _ h=>X0 2 Z ?_;obtain⟨KF2,S,_,hF,Q⟩:=bindE hF;refine qas (fun e w'=>∃P i H A I B J C d a f c i8 O,KF2 (i,i8,O)=V r/\e=[(0,vp g),(2,vp p),(3,vp u),(6,vp v),(7,vp y)]/\SH K w' [oG (fun _=>False) P [fct (i:qd) (qt i H I J d f A B C a c)],xb g s p1 o i8 O,oX y (qN M) 36,oX v (qt i H I J d f A B C a c) 34,oX u zl8 36,oX p zl7 34,xf K w F s p1 o]) ?_ ?_
 ·refine qk Z hF ?_ ?_<;>intro hF
  ·refine X0 2 Z ?_;obtain⟨⟨r9,i21,i22⟩,Y,hF⟩:=qc hF;refine qaS (cB 80 Z) (qeU (s:=(⟨s.code,i6,i7⟩:Tl01Source)) (most:=5) (wild:=true) h (show GoT.R _ _ ((⟨s.code,i6,i7⟩:Tl01Source):Tl01Source) _ from⟨[oS p1 s.code.length o],[vi i6,vi i7],rfl,⟨_,_,rfl,(qA (h.frG 6 0 1 Z Z Z)).1⟩,⟨[vi i6],[vi i7],rfl,rfl,rfl⟩⟩) Y) Z Z Z Z ?_;rintro _ _ ⟨S10,_,rfl,h⟩;obtain⟨p16,k16,p17,k17,p18,k18,p19,k19,p20,k20,rfl,-,-,-,-,-⟩:=qF (h.own 0 Z);replace h:=h.frzI 0 Z;replace h:SH _ _ [oG (fun _=>False) S10 [fct (r9:qd) (qt r9 p16 p17 p18 p19 p20 k16 k17 k18 k19 k20)],xb g s p1 o i21 i22,oX y (qN M) 36,oX v (qt r1 p2 p3 p4 p5 p6 k2 k3 k4 k5 k6) 34,oG (fun _=>False) S4 [fct (r1:qd) (qt r1 p2 p3 p4 p5 p6 k2 k3 k4 k5 k6)],oX u zl8 36,oX p zl7 34,xf K w F s p1 o]:=h;refine zs 3 h Z fun _ h=>qbf ?_;replace h:=h.p [0,1,2,3,5,6,7] Z;cases qb hF;exact rG ⟨_,_,_,_,_,_,_,_,_,_,_,_,_,_,Q,rfl,h⟩ Z
  refine qfu ?_;replace h:=h.p [3,0,1,2,4,5,6] Z;cases qb hF;exact rG ⟨_,_,_,_,_,_,_,_,_,_,_,_,_,_,Q,rfl,h⟩ Z
 rintro _ _ ⟨P,i,H,A,I,B,J,C,d,a,f,c,i8,O,hF,rfl,h⟩;subst S;refine X1 4 3 h Z ?_;replace h:=h.p [1,0,2,3,4,5,6] Z;obtain⟨⟨L,i10,i11⟩,hr6,hF⟩:=qc hF;refine qaS (cB 29 Z) (ql8 (s:=(⟨s.code,i8,O⟩:Tl01Source)) (b:=i) h (show GoT.R _ _ ((⟨s.code,i8,O⟩:Tl01Source):Tl01Source) _ from⟨[oS p1 s.code.length o],[vi i8,vi O],rfl,⟨_,_,rfl,(qA (h.frG 6 0 1 Z Z Z)).1⟩,⟨[vi i8],[vi O],rfl,rfl,rfl⟩⟩) (h.frG 1 0 1 Z Z Z) hr6) Z Z Z Z ?_;rintro _ _ ⟨S6,_,rfl,h⟩;obtain⟨D,z,rfl,-⟩:=h.own 0 Z;replace h:SH _ _ [oW S6 (L:List Int) [oS D L.length z],xb g s p1 o i10 i11,oG (fun _=>False) P [fct (i:qd) (qt i H I J d f A B C a c)],oX y (qN M) 36,oX v (qt i H I J d f A B C a c) 34,oX u zl8 36,oX p zl7 34,xf K w F s p1 o]:=h;refine X0 4 Z ?_;obtain⟨KF1,R,_,hF,N⟩:=bindE hF;refine qas (fun e w'=>∃k l b1,KF1 (k,l,b1)=V r/\e=[(0,vp g),(2,vp p),(3,vp u),(6,vp v),(7,vp y),(8,oS D L.length z),(32,.bool b1)]/\SH K w' [xb g s p1 o k l,oW S6 (L:List Int) [oS D L.length z],oG (fun _=>False) P [fct (i:qd) (qt i H I J d f A B C a c)],oX y (qN M) 36,oX v (qt i H I J d f A B C a c) 34,oX u zl8 36,oX p zl7 34,xf K w F s p1 o]) ?_ ?_
 ·refine X1 2 4 h Z (zcB h hF (qej (h.grp 2 0 Z Z)) Z fun _ _ h hF=>zp1 Z (qe (t:=23) hF Z ?_ ?_))<;>intro hF
  ·refine X0 8 Z (qe (t:=28) hF Z ?_ ?_)<;>intro hF
   ·refine X0 3 Z ?_;replace h:=h.p [1,0,2,3,4,5,6,7] Z;obtain⟨⟨_,_,_⟩,X,hF⟩:=qc hF;refine nxC h ((qA (h.frG 7 0 1 Z Z Z)).1) X Z Z Z fun _ h=>X0 4 Z ?_;cases qb hF;exact rG ⟨_,_,_,N,rfl,h⟩ Z
   refine X0 5 Z ?_;replace h:=h.p [1,0,2,3,4,5,6,7] Z;cases qb hF;exact rG ⟨_,_,_,N,rfl,h⟩ Z
  refine X0 10 Z ?_;replace h:=h.p [1,0,2,3,4,5,6,7] Z;cases qb hF;exact rG ⟨_,_,_,N,rfl,h⟩ Z
 rintro _ _ ⟨k,l,b1,hF,rfl,h⟩;subst R;refine qk Z hF ?_ ?_<;>intro hF
 ·refine X1 2 4 h Z (zcL h hF (qo6 (h.grp 2 0 Z Z)) Z fun r5 _ S7 p13 k13 h hF=>X0 3 Z (rA [] [4,5] h Z fun _ h=>M3 31 [0,1,2,3,4] 1 0 1 (h.p [4,5] Z) Z (Ao 5 63 Z ?_)));replace h:=h.p [1,0,2,3,4,5,6,7,8] Z;obtain⟨⟨r6,i14,i15⟩,hr8,hF⟩:=qc hF;refine qaS (cB 174 Z) (qiK (a_0:=(⟨s.code,k,l⟩:Tl01Source)) (a_1:=i) h (show GoT.R _ _ ((⟨s.code,k,l⟩:Tl01Source):Tl01Source) _ from⟨[oS p1 s.code.length o],[vi k,vi l],rfl,⟨_,_,rfl,(qA (h.frG 8 0 1 Z Z Z)).1⟩,⟨[vi k],[vi l],rfl,rfl,rfl⟩⟩) (h.frG 3 0 1 Z Z Z) hr8) Z Z Z Z ?_;rintro _ _ ⟨S8,_,rfl,h⟩;obtain⟨p14,k14,rfl,-⟩:=h.own 0 Z;replace h:SH _ _ [oW S8 (r6:List qf) [oS p14 r6.length k14],xb g s p1 o i14 i15,oW S7 (r5:List Int) [oS p13 r5.length k13],oW S6 (L:List Int) [oS D L.length z],oG (fun _=>False) P [fct (i:qd) (qt i H I J d f A B C a c)],oX y (qN M) 36,oX v (qt i H I J d f A B C a c) 34,oX u zl8 36,oX p zl7 34,xf K w F s p1 o]:=h;refine Ag (h.p [5,6] Z) (Ao 6 127 Z (zs 8 h Z fun _ h=>Ag (h.p [5,6] Z) (Ao 7 255 Z (zs 7 h Z fun _ h=>G0 1023 [8,9] (h.p [5,6] Z) Z (Ad ?_)))));have T:=h;replace h:=h.grpAdd 4 Z (x:=(i:qd)) (h.grpS 4 0 Z Z);replace h:=h.grpKeep [0] 4 Z;replace h:=h.frzI 2 Z;replace h:=h.grpAdd 2 Z (x:=(r5:(List Int))) (h.grpS 2 0 Z Z);replace h:=h.grpKeep [0] 2 Z;replace h:=h.frzI 0 Z;replace h:=h.grpAdd 0 Z (x:=(r6:(List qf))) (h.grpS 0 0 Z Z);replace h:=h.grpKeep [0] 0 Z;obtain rfl:=qb hF;replace h:=h.p [4,2,0,1,9] Z;exact qaL qa [oV qd (qt i H I J d f A B C a c),oV qx (qN M),oV (List Int) [oS p13 r5.length k13],oV (List qf) [oS p14 r6.length k14]] ⟨⟨_,_,_,rfl,rfl,T.box 8 Z,rfl⟩,⟨_,_,_,rfl,rfl,T.box 7 Z,rfl⟩,rfl,rfl,trivial⟩ ⟨_,_,_,_,_,_,rfl,SH.unfr 1 1 h0 h Z Z⟩
 refine zKS (rA [] [3,4] h Z fun _ h=>M3 31 [0,1,2,3,4] 1 0 1 (h.p [3,4] Z) Z (Ao 5 63 Z ?_));obtain⟨⟨r7,i16,i17⟩,hr9,hF⟩:=qc hF;refine qaS (cB 174 Z) (qiK (a_0:=(⟨s.code,k,l⟩:Tl01Source)) (a_1:=i) h (show GoT.R _ _ ((⟨s.code,k,l⟩:Tl01Source):Tl01Source) _ from⟨[oS p1 s.code.length o],[vi k,vi l],rfl,⟨_,_,rfl,(qA (h.frG 7 0 1 Z Z Z)).1⟩,⟨[vi k],[vi l],rfl,rfl,rfl⟩⟩) (h.frG 2 0 1 Z Z Z) hr9) Z Z Z Z ?_;rintro _ _ ⟨S9,_,rfl,h⟩;obtain⟨p15,k15,rfl,-⟩:=h.own 0 Z;replace h:SH _ _ [oW S9 (r7:List qf) [oS p15 r7.length k15],xb g s p1 o i16 i17,oW S6 (L:List Int) [oS D L.length z],oG (fun _=>False) P [fct (i:qd) (qt i H I J d f A B C a c)],oX y (qN M) 36,oX v (qt i H I J d f A B C a c) 34,oX u zl8 36,oX p zl7 34,xf K w F s p1 o]:=h;refine Ag (h.p [4,5] Z) (Ao 6 127 Z (zs 7 h Z fun _ h=>Ag (h.p [4,5] Z) (Ao 7 255 Z (zs 6 h Z fun _ h=>G0 1023 [8,9] (h.p [4,5] Z) Z (Ad ?_)))));have W:=h;replace h:=h.grpAdd 3 Z (x:=(i:qd)) (h.grpS 3 0 Z Z);replace h:=h.grpKeep [0] 3 Z;replace h:=h.frzI 2 Z;replace h:=h.grpAdd 2 Z (x:=(L:(List Int))) (h.grpS 2 0 Z Z);replace h:=h.grpKeep [0] 2 Z;replace h:=h.frzI 0 Z;replace h:=h.grpAdd 0 Z (x:=(r7:(List qf))) (h.grpS 0 0 Z Z);replace h:=h.grpKeep [0] 0 Z;obtain rfl:=qb hF;replace h:=h.p [3,2,0,1,8] Z;exact qaL qa [oV qd (qt i H I J d f A B C a c),oV qx (qN M),oV (List Int) [oS D L.length z],oV (List qf) [oS p15 r7.length k15]] ⟨⟨_,_,_,rfl,rfl,W.box 7 Z,rfl⟩,⟨_,_,_,rfl,rfl,W.box 6 Z,rfl⟩,rfl,rfl,trivial⟩ ⟨_,_,_,_,_,_,rfl,SH.unfr 1 1 h0 h Z Z⟩
def qey(a_0:Tl01Source)(a_1:qd)(i:Int):Nat->(List qi)->Int->Int->Int->Option ((List qi)×Int×Int×Int)|0,_,_,_,_=>G|n+1,d,k,l,c=>bif decide (c<(a_1.Aa.Ah.length:Int)) then((qr n (⟨a_0.code,k,l⟩:Tl01Source) 6).bind fun(h,a,b)=>bif (h==0) then V (a,b,decide ((d.length:Int)<20)) else V (a,b,false)).bind fun(m,i8,b1)=>bif b1 then(qr n (⟨a_0.code,m,i8⟩:Tl01Source) 12).bind fun(p,f,g)=>(appS d ([(⟨i,c,W64 (1+p)⟩:qi)]:List qi)).bind fun r=>qey a_0 a_1 i n r f g (W64 (c+1)) else qey a_0 a_1 i n d m i8 (W64 (c+1)) else V (d,k,l,c)
def qfw(a_0:Tl01Source)(a_1:qd):Nat->(List qi)->Int->Int->Int->Option ((List qi)×Int×Int×Int)|0,_,_,_,_=>G|n+1,d,b,c,a=>bif decide (a<(a_1.Aa.Ah.length:Int)) then(qey a_0 a_1 a n d b c (W64 (a+1))).bind fun(h,f,g,_)=>qfw a_0 a_1 n h f g (W64 (a+1)) else V (d,b,c,a)
def qki(n:Nat)(a_0:Tl01Source)(a_1:qd):Option ((List qi)×Int×Int):=(qfw a_0 a_1 n ([]:List qi) a_0.at_ a_0.seed 0).bind fun(b,l,m,_)=>bif decide ((b.length:Int) > 0) then(qr n (⟨a_0.code,l,m⟩:Tl01Source) (b.length:Int)).bind fun(a,i16,g)=>(qr n (⟨a_0.code,i16,g⟩:Tl01Source) 24).bind fun(f,c,d)=>bif (f==0) then(idx b a).bind fun r=>(idx b a).bind fun s=>V ((setS b a ({ s with B:=r.A })),c,d) else bif (f==1) then(qr n (⟨a_0.code,c,d⟩:Tl01Source) 3).bind fun(h,i,k)=>(idx ([0,10000,10001]:List Int) h).bind fun t=>(idx b a).bind fun u=>V ((setS b a ({ u with Bp:=t })),i,k) else bif (f==2) then(idx b a).bind fun v=>(appS b ([v]:List qi)).bind fun p=>V (p,c,d) else bif (f==3) then(idx b a).bind fun x=>V ((setS b a ({ x with B:=(a_1.Aa.Ah.length:Int) })),c,d) else V (b,c,d) else V (b,l,m)
theorem qpy{n b w F}{a_0:Tl01Source}{a p1 c}{a_1:qd}{cs1}(k:SH b w (xb a a_0 p1 c a_0.at_ a_0.seed::F))(ha1:GoT.R w (Fr b F) a_0 (qab a_0 p1 c))(z:GoT.R w (Fr b F) a_1 cs1){r:((List qi)×Int×Int)}(hF:qki n a_0 a_1=V r):RetW prog 117 [vp a,gv a_1 cs1] w (fun us w'=>∃S1 cs2,us=[oV (List qi) cs2]/\SH b w' (oW S1 (r.1:(List qi)) cs2::xb a a_0 p1 c r.2.1 r.2.2::F)):=by
 have h:=SH.frm1 k ha1;have hz1:=z;obtain⟨p2,k2,p3,k3,p4,k4,p5,k5,p6,k6,rfl,_,_,_,_,_⟩:=qF z;replace h:=h.grpAdd 1 Z hz1;replace h:SH _ _ [xb a a_0 p1 c a_0.at_ a_0.seed,oG (old b) (FS F) [fct (a_1:qd) (qt a_1 p2 p3 p4 p5 p6 k2 k3 k4 k5 k6),fct (a_0:Tl01Source) (qab a_0 p1 c),same b w F]]:=h;refine qa8 func117 Z (m:=92) Z Z (zSR (qB h Z Z fun _ _ h=>X0 4 Z (qm qa [] _ ([]:List qi) h z9 trivial Z fun _ _ _ h=>X1 15 1 h Z ?_)));replace h:=h.grpKeep [1,2] 3 Z;obtain⟨o1,hF,hK1⟩:=qc hF;refine ql ?_;replace h:=h.p [0,2,3] Z;refine rL (fun m e w'=>∃S3 g p f i i1 i2 d,qfw a_0 a_1 m i i1 i2 d=V o1/\e=[(0,vp a),(5,oS g p f),(6,vi (a_1.Aa.Ah.length:Int)),(7,vi d)]/\SH b w' [oW S3 (i:List qi) [oS g p f],xb a a_0 p1 c i1 i2,xf b w F a_0 p1 c]) n ⟨_,_,_,_,_,_,_,_,hF,rfl,h⟩ Z ?_;rintro m1 _ _ ⟨S3,g,p,f,i,i1,i2,d,hF,rfl,h⟩;obtain rfl:=(h.sl 0 Z).2;rcases m1 with _|m1
 ·cases hF
 refine X0 7 Z (qk Z hF ?_ ?_)<;>intro hF
 ·refine X0 9 Z ?_;obtain⟨o2,hF,hK2⟩:=qc hF;refine ql (rL (fun m e w'=>∃S4 Y s X v i4 i5 u,qey a_0 a_1 d m v i4 i5 u=V o2/\e=[(0,vp a),(5,oS Y s X),(6,vi (a_1.Aa.Ah.length:Int)),(7,vi d),(8,vi u)]/\SH b w' [oW S4 (v:List qi) [oS Y s X],xb a a_0 p1 c i4 i5,xf b w F a_0 p1 c]) m1 ⟨_,_,_,_,_,_,_,_,hF,rfl,h⟩ Z ?_);rintro m2 _ _ ⟨S4,Y,s,X,v,i4,i5,u,hF,rfl,h⟩;obtain rfl:=(h.sl 0 Z).2;rcases m2 with _|m2
  ·cases hF
  refine X0 7 Z (qk Z hF ?_ ?_)<;>intro hF
  ·refine X0 4 Z ?_;obtain⟨a3,y,_,hF,x⟩:=bindE hF;refine qas (fun e w'=>∃i7 i8 b1,a3 (i7,i8,b1)=V o2/\e=[(0,vp a),(5,oS Y v.length X),(6,vi (a_1.Aa.Ah.length:Int)),(7,vi d),(8,vi u),(34,.bool b1)]/\SH b w' [xb a a_0 p1 c i7 i8,oW S4 (v:List qi) [oS Y v.length X],xf b w F a_0 p1 c]) ?_ ?_
   ·refine X0 2 Z ?_;replace h:=h.p [1,0,2] Z;obtain⟨⟨_,_,_⟩,hr2,hF⟩:=qc hF;refine nxE h (h.frG 2 0 1 Z Z Z) hr2 Z Z Z fun _ h=>zp2 Z (qe (t:=30) hF Z ?_ ?_)<;>intro hF
    ·refine X0 8 Z ?_;cases qb hF;exact rG ⟨_,_,_,x,rfl,h⟩ Z
    refine X0 5 Z ?_;cases qb hF;exact rG ⟨_,_,_,x,rfl,h⟩ Z
   rintro _ _ ⟨i7,i8,b1,hF,rfl,h⟩;subst y;refine qk Z hF ?_ ?_<;>intro hF
   ·refine X0 5 Z ?_;obtain⟨⟨i9,_,_⟩,hr1,hF⟩:=qc hF;refine nxE h (h.frG 2 0 1 Z Z Z) hr1 Z Z Z fun _ h=>zp1 Z (r_v (qz qa [0,1,2] [.tmp 36,.tmp 37,.tmp 40] z8) Z (qm qa [.tmp 41] _ ([(⟨d,u,W64 (1+i9)⟩:qi)]:List qi) h z9 ⟨(qeN (⟨d,u,W64 (1+i9)⟩:qi)),trivial⟩ Z fun _ _ _ h=>?_));obtain⟨_,l,hF⟩:=qc hF;obtain⟨g1,l⟩:=qD l;refine qav qa 2 h Z (h.sl 0 Z).1 (h.sl 0 Z).2 z9 g1 l Z fun _ _ _ _ h=>X0 8 Z ?_;replace h:=h.p [2,1,3] Z;exact rK ⟨_,_,_,_,_,_,_,_,hF,rfl,h⟩ Z
   refine X0 7 Z ?_;replace h:=h.p [1,0,2] Z;exact rK ⟨_,_,_,_,_,_,_,_,hF,rfl,h⟩ Z
  refine qu Z ?_;cases qb hF;exact X0 6 Z (rK ⟨_,_,_,_,_,_,_,_,hK2,rfl,h⟩ Z)
 refine qu Z ?_;cases qb hF;replace hF:=hK1;refine X0 7 Z (qk Z hF ?_ ?_)<;>intro hF
 ·refine X0 5 Z ?_;replace h:=h.p [1,0,2] Z;obtain⟨⟨_,_,_⟩,hr3,hF⟩:=qc hF;refine nxE h (h.frG 2 0 1 Z Z Z) hr3 Z Z Z fun _ h=>X0 5 Z ?_;obtain⟨⟨_,_,_⟩,hr4,hF⟩:=qc hF;refine nxE h (h.frG 2 0 1 Z Z Z) hr4 Z Z Z fun _ h=>X0 7 Z (qk Z hF ?_ ?_)<;>intro hF
  ·refine X0 5 Z ?_;obtain⟨y1,_,hF,H,_,_,_,_,hp1,hq1,hr5,hc6⟩:=(h.sl 1 Z).1.ix hF;obtain rfl:=qau hr5;refine zx hp1 hq1 ⟨H.1,qC H.2.1 (h.sl 1 Z).2⟩ Z (zp1 Z (zc 0 hc6 Z ?_));obtain⟨y2,hy2,hF,I,_,_,_,_,N,Q,hr6,hc7⟩:=(h.sl 1 Z).1.ix hF;obtain rfl:=qau hr6;refine zx N Q ⟨I.1,qC I.2.1 (h.sl 1 Z).2⟩ Z (zp1 Z (qaC qa 1 1 ({ y2 with B:=y1.A }:qi) h Z hy2 N Q (qeN y2) hc7 Z Z Z (qeN ({ y2 with B:=y1.A })) Z Z Z fun _ h=>X0 7 Z ?_));obtain rfl:=qb hF;replace h:=h.p [1,0,2] Z;exact qaL qa [oV (List qi) [oS g i.length f]] ⟨rfl,trivial⟩ ⟨_,_,rfl,SH.unfr 1 1 k h Z Z⟩
  refine X0 5 Z (qk Z hF ?_ ?_)<;>intro hF
  ·refine X0 3 Z (qm qa [.const (vi (0)),.const (vi (10000)),.const (vi (10001))] _ ([0,10000,10001]:List Int) h z9 ⟨rfl,rfl,rfl,trivial⟩ Z fun _ _ _ h=>zp1 Z ?_);replace h:=h.p [1,0,2,3] Z;obtain⟨⟨_,_,_⟩,hr7,hF⟩:=qc hF;refine nxE h (h.frG 3 0 1 Z Z Z) hr7 Z Z Z fun _ h=>?_;obtain⟨y3,_,hF,J,_,_,_,_,hp3,hq3,rfl,hc9⟩:=(h.sl 1 Z).1.ix hF;refine zx hp3 hq3 ⟨J.1,qC J.2.1 (h.sl 1 Z).2⟩ Z (zc 0 hc9 Z ?_);obtain⟨y4,hy4,hF,K,_,_,_,_,O,R,hr9,A⟩:=(h.sl 2 Z).1.ix hF;obtain rfl:=qau hr9;refine zx O R ⟨K.1,qC K.2.1 (h.sl 2 Z).2⟩ Z (zp1 Z (qaC qa 2 2 ({ y4 with Bp:=y3 }:qi) h Z hy4 O R (qeN y4) A Z Z Z (qeN ({ y4 with Bp:=y3 })) Z Z Z fun _ h=>X0 7 Z ?_));obtain rfl:=qb hF;replace h:=h.p [2,0,3] Z;exact qaL qa [oV (List qi) [oS g i.length f]] ⟨rfl,trivial⟩ ⟨_,_,rfl,SH.unfr 1 1 k h Z Z⟩
  refine X0 5 Z (qk Z hF ?_ ?_)<;>intro hF
  ·refine X0 4 Z ?_;obtain⟨y5,_,hF,L,_,_,_,_,hp5,hq5,T,C⟩:=(h.sl 1 Z).1.ix hF;obtain rfl:=qau T;refine zx hp5 hq5 ⟨L.1,qC L.2.1 (h.sl 1 Z).2⟩ Z (zc 0 C Z (qm qa [.tmp 81] _ ([y5]:List qi) h z9 ⟨(qeN y5),trivial⟩ Z fun _ _ _ h=>?_));obtain⟨x4,o,hF⟩:=qc hF;obtain⟨g2,o⟩:=qD o;refine qav qa 2 h Z (h.sl 0 Z).1 (h.sl 0 Z).2 z9 g2 o Z fun _ p14 k10 _ h=>X0 8 Z ?_;obtain rfl:=qb hF;replace h:=h.p [2,1,3] Z;exact qaL qa [oV (List qi) [oS p14 x4.length k10]] ⟨rfl,trivial⟩ ⟨_,_,rfl,SH.unfr 1 1 k h Z Z⟩
  refine X0 5 Z (qk Z hF ?_ ?_)<;>intro hF
  ·refine X0 4 Z ?_;obtain⟨y6,hy6,hF,M,_,_,_,_,P,S,W,D⟩:=(h.sl 1 Z).1.ix hF;obtain rfl:=qau W;refine zx P S ⟨M.1,qC M.2.1 (h.sl 1 Z).2⟩ Z (zp1 Z (qaC qa 1 1 ({ y6 with B:=(a_1.Aa.Ah.length:Int) }:qi) h Z hy6 P S (qeN y6) D Z Z Z (qeN ({ y6 with B:=(a_1.Aa.Ah.length:Int) })) Z Z Z fun _ h=>X0 7 Z ?_));obtain rfl:=qb hF;replace h:=h.p [1,0,2] Z;exact qaL qa [oV (List qi) [oS g i.length f]] ⟨rfl,trivial⟩ ⟨_,_,rfl,SH.unfr 1 1 k h Z Z⟩
  refine X0 7 Z ?_;obtain rfl:=qb hF;replace h:=h.p [1,0,2] Z;exact qaL qa [oV (List qi) [oS g i.length f]] ⟨rfl,trivial⟩ ⟨_,_,rfl,SH.unfr 1 1 k h Z Z⟩
 refine X0 6 Z ?_;obtain rfl:=qb hF;exact qaL qa [oV (List qi) [oS g i.length f]] ⟨rfl,trivial⟩ ⟨_,_,rfl,SH.unfr 1 1 k h Z Z⟩
def qcp(s:Tl01Source)(list:(List qi)):Nat->(List Int)->Int->Int->Int->Option ((List Int)×Int×Int×Int)|0,_,_,_,_=>G|n+1,b,c,d,a=>bif decide (a<(list.length:Int)) then(qr n (⟨s.code,c,d⟩:Tl01Source) 2).bind fun(h,f,g)=>bif (h==0) then(appS b ([a]:List Int)).bind fun i=>qcp s list n i f g (W64 (a+1)) else qcp s list n b f g (W64 (a+1)) else V (b,c,d,a)
def qh4(n:Nat)(s:Tl01Source)(list:(List qi)):Option ((List Int)×Int×Int):=(qcp s list n ([]:List Int) s.at_ s.seed 0).bind fun(b,c,d,_)=>(qr n (⟨s.code,c,d⟩:Tl01Source) 16).bind fun(f,i8,a)=>bif (f==0) then(appS b ([(list.length:Int)]:List Int)).bind fun g=>V (g,i8,a) else V (b,i8,a)
theorem qni{n b w F}{s:Tl01Source}{a p1 f}{list:(List qi)}{cs1}(p:SH b w (xb a s p1 f s.at_ s.seed::F))(u:GoT.R w (Fr b F) s (qab s p1 f))(i:GoT.R w (Fr b F) list cs1){r:((List Int)×Int×Int)}(N:qh4 n s list=V r):RetW prog 55 [vp a,gv list cs1] w (fun O w'=>∃S1 cs2,O=[oV (List Int) cs2]/\SH b w' (oW S1 (r.1:(List Int)) cs2::xb a s p1 f r.2.1 r.2.2::F)):=by
 have h:=SH.frm1 p u;have y:=i;obtain⟨C,B,rfl,_⟩:=i;replace h:=h.grpAdd 1 Z y;replace h:SH _ _ [xb a s p1 f s.at_ s.seed,oG (old b) (FS F) [fct (list:(List qi)) [oS C list.length B],fct (s:Tl01Source) (qab s p1 f),same b w F]]:=h;refine qa8 func55 Z (m:=30) Z Z (X0 6 Z (qm qa [] _ ([]:List Int) h z9 trivial Z fun _ _ _ h=>X0 7 Z ?_));obtain⟨o1,N,t⟩:=qc N;refine ql (rL (fun m e w'=>∃D l g k3 o z A k,qcp s list m o z A k=V o1/\e=[(0,vp a),(1,oS C list.length B),(5,oS l g k3),(6,vi k)]/\SH b w' [oW D (o:List Int) [oS l g k3],xb a s p1 f z A,oG (old b) (FS F) [fct (list:(List qi)) [oS C list.length B],fct (s:Tl01Source) (qab s p1 f),same b w F]]) n ⟨_,_,_,_,_,_,_,_,N,rfl,h⟩ Z ?_);rintro H _ _ ⟨D,l,g,k3,o,z,A,k,N,rfl,h⟩;obtain rfl:=(h.sl 0 Z).2;rcases H with _|H
 ·cases N
 refine X0 8 Z (qk Z N ?_ ?_)<;>intro N
 ·refine X0 6 Z ?_;replace h:=h.p [1,0,2] Z;obtain⟨⟨_,_,_⟩,v,N⟩:=qc N;refine nxE h (h.frG 2 1 1 Z Z Z) v Z Z Z fun _ h=>X0 2 Z (qk Z N ?_ ?_)<;>intro N
  ·refine X0 3 Z (qm qa [.tmp 18] _ ([k]:List Int) h z9 ⟨rfl,trivial⟩ Z fun _ _ _ h=>?_);obtain⟨_,c,N⟩:=qc N;obtain⟨I,c⟩:=qD c;refine qav qa 2 h Z (h.sl 0 Z).1 (h.sl 0 Z).2 z9 I c Z fun _ _ _ _ h=>X0 8 Z ?_;replace h:=h.p [2,1,3] Z;exact rK ⟨_,_,_,_,_,_,_,_,N,rfl,h⟩ Z
  refine X0 7 Z ?_;replace h:=h.p [1,0,2] Z;exact rK ⟨_,_,_,_,_,_,_,_,N,rfl,h⟩ Z
 refine qu Z ?_;cases qb N;replace N:=t;refine X0 4 Z ?_;replace h:=h.p [1,0,2] Z;obtain⟨⟨_,_,_⟩,x,N⟩:=qc N;refine nxE h (h.frG 2 1 1 Z Z Z) x Z Z Z fun _ h=>X0 2 Z (qk Z N ?_ ?_)<;>intro N
 ·refine X0 4 Z (qm qa [.tmp 26] _ ([(list.length:Int)]:List Int) h z9 ⟨rfl,trivial⟩ Z fun _ _ _ h=>?_);obtain⟨M,d,N⟩:=qc N;obtain⟨J,d⟩:=qD d;refine qav qa 2 h Z (h.sl 0 Z).1 (h.sl 0 Z).2 z9 J d Z fun _ L K _ h=>X0 7 Z ?_;obtain rfl:=qb N;replace h:=h.p [2,1,3] Z;exact qaL qa [oV (List Int) [oS L M.length K]] ⟨rfl,trivial⟩ ⟨_,_,rfl,SH.unfr 1 2 p h Z Z⟩
 refine X0 6 Z ?_;obtain rfl:=qb N;replace h:=h.p [1,0,2] Z;exact qaL qa [oV (List Int) [oS l o.length k3]] ⟨rfl,trivial⟩ ⟨_,_,rfl,SH.unfr 1 2 p h Z Z⟩
def qh1(n:Nat)(s:Tl01Source):Option (qd×qx×(List Int)×(List qf)×(List qi)×Int×Int):=(qhW n (⟨s.code,s.at_,s.seed⟩:Tl01Source)).bind fun(r1,f,g,h,a,b)=>(qki n (⟨s.code,a,b⟩:Tl01Source) r1).bind fun(i,c,d)=>V (r1,f,g,h,i,c,d)
theorem qne{n o w F}{s:Tl01Source}{a p1 b}(Y:SH o w (xb a s p1 b s.at_ s.seed::F))(J:GoT.R w (Fr o F) s (qab s p1 b)){r:(qd×qx×(List Int)×(List qf)×(List qi)×Int×Int)}(hF:qh1 n s=V r):RetW prog 54 [vp a] w (fun us w'=>∃S1 cs1 S2 cs2 S3 cs3 S4 cs4,us=[oV qd cs1,oV qx (qN r.2.1),oV (List Int) cs2,oV (List qf) cs3,oV (List qi) cs4]/\SH o w' (oG (fun _=>False) S1 [fct (r.1:qd) cs1]::oG (fun _=>False) S2 [fct (r.2.2.1:(List Int)) cs2]::oG (fun _=>False) S3 [fct (r.2.2.2.1:(List qf)) cs3]::oG (fun _=>False) S4 [fct (r.2.2.2.2.1:(List qi)) cs4]::xb a s p1 b r.2.2.2.2.2.1 r.2.2.2.2.2.2::F)):=by
 have h:=SH.frm1 Y J;refine qa8 func54 Z (m:=25) Z Z (zSR (qh qa h Z Z Z fun _ f h=>qh qa h Z Z Z fun _ g h=>X0 7 Z ?_));replace h:=h.p [2,0,1,3] Z;obtain⟨⟨r1,r2,c,d,k,l⟩,K,hF⟩:=qc hF;refine qaS (cB 116 Z) (qm7 (s:=s) h (show GoT.R _ _ (s:Tl01Source) _ from⟨[oS p1 s.code.length b],[vi s.at_,vi s.seed],rfl,⟨_,_,rfl,(qA (h.frG 3 0 1 Z Z Z)).1⟩,⟨[vi s.at_],[vi s.seed],rfl,rfl,rfl⟩⟩) K) Z Z Z Z ?_;rintro _ _ ⟨T,_,W,_,X,_,rfl,h⟩;have L:=h.grpS 0 0 Z Z;obtain⟨y,p,z,k3,A,t,B,u,C,v,rfl,_,_,_,_,_⟩:=qF L;have M:=h.grpS 1 0 Z Z;obtain⟨R,P,rfl,_⟩:=M;have N:=h.grpS 2 0 Z Z;obtain⟨S,Q,rfl,_⟩:=N;replace h:SH _ _ [oG (fun _=>False) T [fct (r1:qd) (qt r1 y z A B C p k3 t u v)],oG (fun _=>False) W [fct (c:(List Int)) [oS R c.length P]],oG (fun _=>False) X [fct (d:(List qf)) [oS S d.length Q]],xb a s p1 b k l,oX g zl8 36,oX f zl7 34,xf o w F s p1 b]:=h;refine zp5 Z (qh qa h Z Z Z fun _ H h=>qh qa h Z Z Z fun _ I h=>zs 1 h Z fun _ h=>zs 0 h Z fun _ h=>X0 4 Z (rA [] [0,1] h Z fun _ h=>M3 63 [0,1,2,3,4,5] 1 0 1 (h.p [0,1] Z) Z (Ao 6 127 Z ?_)));replace h:=h.p [5,0,1,2,3,4,6,7,8] Z;obtain⟨⟨D,i3,i4⟩,O,hF⟩:=qc hF;refine qaS (cB 117 Z) (qpy (a_0:=(⟨s.code,k,l⟩:Tl01Source)) (a_1:=r1) h (show GoT.R _ _ ((⟨s.code,k,l⟩:Tl01Source):Tl01Source) _ from⟨[oS p1 s.code.length b],[vi k,vi l],rfl,⟨_,_,rfl,(qA (h.frG 8 0 1 Z Z Z)).1⟩,⟨[vi k],[vi l],rfl,rfl,rfl⟩⟩) (h.frG 3 0 1 Z Z Z) O) Z Z Z Z ?_;rintro _ _ ⟨S8,_,rfl,h⟩;obtain⟨p9,e,rfl,-⟩:=h.own 0 Z;replace h:SH _ _ [oW S8 (D:List qi) [oS p9 D.length e],xb a s p1 b i3 i4,oX I (qN r2) 36,oX H (qt r1 y z A B C p k3 t u v) 34,oG (fun _=>False) T [fct (r1:qd) (qt r1 y z A B C p k3 t u v)],oG (fun _=>False) W [fct (c:(List Int)) [oS R c.length P]],oG (fun _=>False) X [fct (d:(List qf)) [oS S d.length Q]],oX g zl8 36,oX f zl7 34,xf o w F s p1 b]:=h;refine Ag (h.p [2,3] Z) (Ao 7 255 Z (zs 8 h Z fun _ h=>Ag (h.p [2,3] Z) (Ao 8 511 Z (zs 7 h Z fun _ h=>G0 4095 [9,10,11] (h.p [2,3] Z) Z (Ad ?_)))));have i:=h;replace h:=h.grpAdd 4 Z (x:=(r1:qd)) (h.grpS 4 0 Z Z);replace h:=h.grpKeep [0] 4 Z;replace h:=h.grpAdd 5 Z (x:=(c:(List Int))) (h.grpS 5 0 Z Z);replace h:=h.grpKeep [0] 5 Z;replace h:=h.grpAdd 6 Z (x:=(d:(List qf))) (h.grpS 6 0 Z Z);replace h:=h.grpKeep [0] 6 Z;replace h:=h.frzI 0 Z;replace h:=h.grpAdd 0 Z (x:=(D:(List qi))) (h.grpS 0 0 Z Z);replace h:=h.grpKeep [0] 0 Z;obtain rfl:=qb hF;replace h:=h.p [4,5,6,0,1,9] Z;exact qaL qa [oV qd (qt r1 y z A B C p k3 t u v),oV qx (qN r2),oV (List Int) [oS R c.length P],oV (List qf) [oS S d.length Q],oV (List qi) [oS p9 D.length e]] ⟨⟨_,_,_,rfl,rfl,i.box 8 Z,rfl⟩,⟨_,_,_,rfl,rfl,i.box 7 Z,rfl⟩,rfl,rfl,rfl,trivial⟩ ⟨_,_,_,_,_,_,_,_,rfl,SH.unfr 1 1 Y h Z Z⟩
def qfI(code:(List (IntK .u8))):Nat->Int->Int->Option (Int×Int)|0,_,_=>G|n+1,b,a=>(bif decide (a<(code.length:Int)) then V (decide (a<64)) else V false).bind fun b1=>bif b1 then(idx code a).bind fun c=>qfI code n ((W64 ((W64 (b*31))+(W64 c.val))).tmod 2147483647) (W64 (a+1)) else V (b,a)
def qmx(n:Nat)(code:(List (IntK .u8))):Option (Option Tl01Source):=(qfI code n 12345 0).bind fun(a,_)=>V (V (⟨code,0,a⟩:Tl01Source))
theorem qoX{n w}{code:(List (IntK .u8))}{cs1}(p:Ro w code cs1){r:(Option Tl01Source)}(F:qmx n code=V r):RetZ prog 25 [gv code cs1] w (fun A L=>∃b g,r=(V (⟨code,0,g⟩:Tl01Source))/\A=[oV (Option Tl01Source) [vp b]]/\L=[oX b (cs1++[vi 0,vi g]) 147]):=by
 obtain⟨p1,k,rfl,s1⟩:=p;refine qjW func25 Z (m:=34) Z Z (fun h=>?_);refine X0 7 Z (r_v (qz qa [0,2] [.tmp 5,.const (vi (12345))] z8) Z (qB h Z Z fun _ a h=>X0 7 Z ?_));obtain⟨o1,F,o⟩:=qc F;refine ql (rL (fun m e w'=>∃f i,qfI code m f i=V o1/\e=[(0,oS p1 code.length k),(3,vp a),(4,vi i)]/\SH w w' [oX a [oS p1 code.length k,vi 0,vi f] 147]) n ⟨_,_,F,rfl,h⟩ Z ?_);rintro y _ _ ⟨f,i,F,rfl,h⟩;rcases y with _|y
 ·cases F
 refine zSS ?_;obtain⟨l,d,_,F,c⟩:=bindE F;refine qas (fun e w'=>∃b1,l b1=V o1/\e=[(0,oS p1 code.length k),(3,vp a),(4,vi i),(15,.bool b1)]/\SH w w' [oX a [oS p1 code.length k,vi 0,vi f] 147]) ?_ ?_
 ·refine X0 6 Z (qe (t:=12) F Z ?_ ?_)<;>intro F
  ·refine X0 6 Z ?_;cases qb F;exact rG ⟨_,c,rfl,h⟩ Z
  refine X0 4 Z ?_;cases qb F;exact rG ⟨_,c,rfl,h⟩ Z
 rintro _ _ ⟨b1,F,rfl,h⟩;subst d;refine qk Z F ?_ ?_<;>intro F
 ·refine zKSB (rA [15] [0] h Z fun _ h=>M1 255 [0,1,2,3,4,5,6,7] 0 (h.p [0] Z) Z ?_);obtain⟨_,_,F,u,_,_,_,_,v,x,rfl,s⟩:=s1.ix F;exact Ae 8 511 v x u (h.p [0] Z) Z (Al 9 1023 0 s (h.p [0] Z) Z (M0 8191 [10,11,12] (h.p [0] Z) Z (Ao 13 16383 Z (zp1 Z (G0 32767 [14] (h.p [0] Z) Z (Ao 15 65535 Z (zs 0 h Z fun _ h=>qa3 (fun z=>absurd (z 15 (by decide)) (by decide)) (Ad (X0 6 Z (rK ⟨_,_,F,rfl,h⟩ Z))))))))))
 refine qu Z ?_;cases qb F;replace F:=o;refine X0 5 Z ?_;obtain rfl:=qb F;exact qkS qa [oV (Option Tl01Source) [vp a]] h ⟨rfl,trivial⟩ ⟨a,f,rfl,rfl,rfl⟩
def qgI(n:Nat)(code:(List (IntK .u8))):Option (qd×qx×(List Int)×(List qf)×(List qi)×(List Int)):=(qmx n code).bind fun o=>match o with|some (⟨_,_,i⟩)=>((qh1 n (⟨code,0,i⟩:Tl01Source)).bind fun(d,f,g,h,a,k,l)=>(qh4 n (⟨code,k,l⟩:Tl01Source) a).bind fun(s,m,p)=>(qdy n d f g h a).bind fun(_,b,_,c)=>(bif (c==0) then(qr n (⟨code,m,p⟩:Tl01Source) 2).bind fun(r,_,_)=>V (r==0) else V false).bind fun b1=>bif b1 then V (d,f,g,h,a,b) else V (d,f,g,h,a,s))|_=>G
theorem qmH{A}(hA:∀b,A b->old w b){code:(List (IntK .u8))}(ha1:GoT.R w A code cs1){r:(qd×qx×(List Int)×(List qf)×(List qi)×(List Int))}(F:qgI n code=V r):RetG prog 12 [gv code cs1] w A r:=by
 obtain⟨p1,k1,rfl,s1⟩:=ha1;have hg:=Rg.start hA;refine qmV func12 Z (m:=57) Z Z (fun h=>?_);refine zSR (qh qa h Z Z Z fun _ k h=>qh qa h Z Z Z fun _ l h=>X0 8 Z ?_);obtain⟨_,hr1,F⟩:=qc F;refine qnE (cB 25 Z) (qoX ⟨_,_,rfl,(h.oldS (s1.mono hg.old))⟩ hr1) Z Z Z Z ?_;rintro _ _ _ hs1 ⟨R,i1,rfl,rfl,rfl⟩;replace h:SH _ _ [oX R [oS p1 code.length k1,vi 0,vi i1] 147,oX l zl8 36,oX k zl7 34]:=SH.appendN h hs1 ⟨fun _ h=>h,trivial⟩;refine X0 5 Z ?_;obtain⟨⟨c,i,f,g,d,i2,i3⟩,hr2,F⟩:=qc F;refine qaS (cB 54 Z) (qne (s:=(⟨code,0,i1⟩:Tl01Source)) h (qkN _ (h.frOldS (s1.mono hg.old))) hr2) Z Z Z Z ?_;rintro _ _ ⟨S1,_,S2,_,S3,_,S4,_,rfl,h⟩;have hr3:=h.grpS 0 0 Z Z;obtain⟨C,v,D,k3,H,x,I,y,J,z,rfl,_,_,_,_,_⟩:=qF hr3;have hr5:=h.grpS 1 0 Z Z;obtain⟨O,L,rfl,_⟩:=hr5;have hr7:=h.grpS 2 0 Z Z;obtain⟨P,M,rfl,_⟩:=hr7;have hr9:=h.grpS 3 0 Z Z;obtain⟨Q,N,rfl,_⟩:=hr9;replace h:SH _ _ [oG (fun _=>False) S1 [fct (c:qd) (qt c C D H I J v k3 x y z)],oG (fun _=>False) S2 [fct (f:(List Int)) [oS O f.length L]],oG (fun _=>False) S3 [fct (g:(List qf)) [oS P g.length M]],oG (fun _=>False) S4 [fct (d:(List qi)) [oS Q d.length N]],oX R [oS p1 code.length k1,vi i2,vi i3] 147,oX l zl8 36,oX k zl7 34]:=h;refine X0 6 Z (qh qa h Z Z Z fun _ S h=>qh qa h Z Z Z fun _ T h=>zs 1 h Z fun _ h=>zs 0 h Z fun _ h=>X0 8 Z ?_);replace h:=h.p [6,0,1,2,3,4,5,7,8] Z;obtain⟨⟨K,i4,i5⟩,a4,F⟩:=qc F;refine qaS (cB 55 Z) (qni (s:=(⟨code,i2,i3⟩:Tl01Source)) (list:=d) h (qkN _ (h.frOldS (s1.mono hg.old))) (h.frG 6 0 1 Z Z Z) a4) Z Z Z Z ?_;rintro _ _ ⟨S5,_,rfl,h⟩;obtain⟨p,o,rfl,-⟩:=h.own 0 Z;replace h:SH _ _ [oW S5 (K:List Int) [oS p K.length o],oX R [oS p1 code.length k1,vi i4,vi i5] 147,oX T (qN i) 36,oX S (qt c C D H I J v k3 x y z) 34,oG (fun _=>False) S1 [fct (c:qd) (qt c C D H I J v k3 x y z)],oG (fun _=>False) S2 [fct (f:(List Int)) [oS O f.length L]],oG (fun _=>False) S3 [fct (g:(List qf)) [oS P g.length M]],oG (fun _=>False) S4 [fct (d:(List qi)) [oS Q d.length N]],oX l zl8 36,oX k zl7 34]:=h;refine X2 10 3 2 h Z ?_;obtain⟨⟨r9,a,r11,r12⟩,a5,F⟩:=qc F;refine qaX (r9,a,r11,r12) h (cB 18 Z) (qmJ (h.grp 4 0 Z Z) (qiT i) (h.grp 5 0 Z Z) (h.grp 6 0 Z Z) (h.grp 7 0 Z Z) a5) Z Z Z Z fun _ _ _ hv1 a6=>?_;obtain⟨_,_,_,_,rfl,b5,a7⟩:=hv1.cons a6;obtain⟨_,_,_,_,_,_,rfl,-,-,-⟩:=qaP (b5.sh.own 0 Z);obtain⟨S9,_,B,u,_,rfl,hv3,a8⟩:=b5.consL a7;obtain⟨_,_,rfl,hv4,a9⟩:=hv3.consI a8;obtain⟨rfl,h⟩:=hv4.lastI a9;refine zp5 Z (qh qa h Z Z Z fun _ _ h=>zs 0 h Z fun _ h=>X0 5 Z ?_);obtain⟨b6,X,_,F,W⟩:=bindE F;refine qas (fun e w'=>∃b1,b6 b1=V r/\e=[(2,vp k),(3,vp l),(9,vp S),(10,vp T),(11,oS O f.length L),(12,oS P g.length M),(13,oS Q d.length N),(14,oS p K.length o),(16,oS B a.length u),(49,.bool b1)]/\SH w w' [oW S9 (a:List Int) [oS B a.length u],oW S5 (K:List Int) [oS p K.length o],oX T (qN i) 36,oX S (qt c C D H I J v k3 x y z) 34,oG (fun _=>False) S1 [fct (c:qd) (qt c C D H I J v k3 x y z)],oG (fun _=>False) S2 [fct (f:(List Int)) [oS O f.length L]],oG (fun _=>False) S3 [fct (g:(List qf)) [oS P g.length M]],oG (fun _=>False) S4 [fct (d:(List qi)) [oS Q d.length N]],oX l zl8 36,oX k zl7 34]) ?_ ?_
 ·refine X0 4 Z (qe (t:=45) F Z ?_ ?_)<;>intro F
  ·refine X0 3 Z ?_;replace h:=h.p [4,0,1,2,3,5,6,7,8,9,10,11,12] Z;obtain⟨⟨_,_,_⟩,b4,F⟩:=qc F;refine qaS (cB 27 Z) (qlT (a_0:=(⟨code,i4,i5⟩:Tl01Source)) (a_1:=2) h (qkN _ (h.frOldS (s1.mono hg.old))) b4) Z Z Z Z ?_;rintro _ _ ⟨rfl,h⟩;dsimp only at h;refine X0 4 Z ?_;replace h:=h.p [2,4,5,6,7,8,9,10,11,12] Z;cases qb F;exact rG ⟨_,W,rfl,h⟩ Z
  refine X0 5 Z ?_;replace h:=h.p [1,3,5,6,7,8,9,10,11,12] Z;cases qb F;exact rG ⟨_,W,rfl,h⟩ Z
 rintro _ _ ⟨b1,F,rfl,h⟩;subst X;refine qk Z F ?_ ?_<;>intro F
 ·refine X0 5 Z (rA [] [2,3] h Z fun _ h=>M2 63 [0,1,2,3,4,5] 1 0 (h.p [2,3] Z) Z (Ao 6 127 Z (zs 9 h Z fun _ h=>Ag (h.p [2,3] Z) (Ao 7 255 Z (zs 8 h Z fun _ h=>G0 4095 [8,9,10,11] (h.p [2,3] Z) Z (Ad ?_))))));obtain rfl:=qb F;have hv6:GoRs.Rs (ρ:=(qd×qx×(List Int)×(List qf)×(List qi)×(List Int))) h.wc (reg A w h.wc) (c,i,f,g,d,a) [oV qd (qt c C D H I J v k3 x y z),oV qx (qN i),oV (List Int) [oS O f.length L],oV (List qf) [oS P g.length M],oV (List qi) [oS Q d.length N],oV (List Int) [oS B a.length u]]:=⟨_,_,rfl,(hg.outR h (GoT.mono (Rg.grpR 4 0 h Z Z) (fun _ hb=>hb.elim (fun h=>h.elim) .inr))),⟨_,_,rfl,(hg.outR h (qiT i)),⟨_,_,rfl,(hg.outR h (GoT.mono (Rg.grpR 5 0 h Z Z) (fun _ hb=>hb.elim (fun h=>h.elim) .inr))),⟨_,_,rfl,(hg.outR h (GoT.mono (Rg.grpR 6 0 h Z Z) (fun _ hb=>hb.elim (fun h=>h.elim) .inr))),⟨_,_,rfl,(hg.outR h (GoT.mono (Rg.grpR 7 0 h Z Z) (fun _ hb=>hb.elim (fun h=>h.elim) .inr))),⟨_,rfl,(hg.outR h (Rg.ownR 0 h Z))⟩⟩⟩⟩⟩⟩;have Y:=h;replace h:=h.p [0,1,2,3,8,9] Z;exact qso qa (ρ:=(qd×qx×(List Int)×(List qf)×(List qi)×(List Int))) (r:=(c,i,f,g,d,a)) [oV qd (qt c C D H I J v k3 x y z),oV qx (qN i),oV (List Int) [oS O f.length L],oV (List qf) [oS P g.length M],oV (List qi) [oS Q d.length N],oV (List Int) [oS B a.length u]] h ⟨⟨_,_,_,rfl,rfl,Y.box 9 Z,rfl⟩,⟨_,_,_,rfl,rfl,Y.box 8 Z,rfl⟩,rfl,rfl,rfl,rfl,trivial⟩ hv6
 refine zKS (rA [] [2,3] h Z fun _ h=>M2 63 [0,1,2,3,4,5] 1 0 (h.p [2,3] Z) Z (Ao 6 127 Z (zs 9 h Z fun _ h=>Ag (h.p [2,3] Z) (Ao 7 255 Z (zs 8 h Z fun _ h=>G0 4095 [8,9,10,11] (h.p [2,3] Z) Z (Ad ?_))))));obtain rfl:=qb F;have hv7:GoRs.Rs (ρ:=(qd×qx×(List Int)×(List qf)×(List qi)×(List Int))) h.wc (reg A w h.wc) (c,i,f,g,d,K) [oV qd (qt c C D H I J v k3 x y z),oV qx (qN i),oV (List Int) [oS O f.length L],oV (List qf) [oS P g.length M],oV (List qi) [oS Q d.length N],oV (List Int) [oS p K.length o]]:=⟨_,_,rfl,(hg.outR h (GoT.mono (Rg.grpR 4 0 h Z Z) (fun _ hb=>hb.elim (fun h=>h.elim) .inr))),⟨_,_,rfl,(hg.outR h (qiT i)),⟨_,_,rfl,(hg.outR h (GoT.mono (Rg.grpR 5 0 h Z Z) (fun _ hb=>hb.elim (fun h=>h.elim) .inr))),⟨_,_,rfl,(hg.outR h (GoT.mono (Rg.grpR 6 0 h Z Z) (fun _ hb=>hb.elim (fun h=>h.elim) .inr))),⟨_,_,rfl,(hg.outR h (GoT.mono (Rg.grpR 7 0 h Z Z) (fun _ hb=>hb.elim (fun h=>h.elim) .inr))),⟨_,rfl,(hg.outR h (Rg.ownR 1 h Z))⟩⟩⟩⟩⟩⟩;have a3:=h;replace h:=h.p [0,1,2,3,8,9] Z;exact qso qa (ρ:=(qd×qx×(List Int)×(List qf)×(List qi)×(List Int))) (r:=(c,i,f,g,d,K)) [oV qd (qt c C D H I J v k3 x y z),oV qx (qN i),oV (List Int) [oS O f.length L],oV (List qf) [oS P g.length M],oV (List qi) [oS Q d.length N],oV (List Int) [oS p K.length o]] h ⟨⟨_,_,_,rfl,rfl,a3.box 9 Z,rfl⟩,⟨_,_,_,rfl,rfl,a3.box 8 Z,rfl⟩,rfl,rfl,rfl,rfl,trivial⟩ hv7
end Go.Fw


namespace Go.Fw
open Go
structure qmf(x:qaA):Prop where
 Az:okS x.Az
 Bs:okI x.Bs
 Bl:okI x.Bl
 Bn:okT x.Bn
structure qjb(x:qS):Prop where
 Bj:(okL okI) x.Bj
 Bd:(okL okI) x.Bd
 Ba:(okL okI) x.Ba
structure qma(x:qay):Prop where
 Au:okI x.Au
 Be:okI x.Be
 To:okI x.To
 Bk:okI x.Bk
 Bo:(okL qjb) x.Bo
 Av:(okL qjb) x.Av
structure qnK(x:qL):Prop where
 Az:okS x.Az
 Au:okI x.Au
 Ay:(okL qmf) x.Ay
 Aq:(okL qma) x.Aq
 Bm:(okL okI) x.Bm
 Bx:okI x.Bx
 Bt:okI x.Bt
structure qhv(x:qE):Prop where
 Ap:(okL qnK) x.Ap
structure qpE(x:qI):Prop where
 Az:okS x.Az
 Bq:okI x.Bq
 Ah:(okL okI) x.Ah
structure qsj(x:qaz):Prop where
 Az:okS x.Az
 Bs:okI x.Bs
 Bw:okI x.Bw
structure qkq(x:qj):Prop where
 Ab:(okL qpE) x.Ab
 Ah:(okL okS) x.Ah
 Ai:(okL qsj) x.Ai
structure qog(x:qah):Prop where
 Aj:(okL okI) x.Aj
 Br:(okL okI) x.Br
 Bl:(okL okI) x.Bl
 Bb:(okL okI) x.Bb
structure qfO(x:qd):Prop where
 Am:qhv x.Am
 Aa:qkq x.Aa
 Ac:(okL qog) x.Ac
structure qrg(x:qx):Prop where
 Az:okS x.Az
 Bc:okI x.Bc
 Bg:okI x.Bg
 Bf:okI x.Bf
 Bh:okI x.Bh
structure qp7(x:qg):Prop where
 Ak:okI x.Ak
 As:okI x.As
structure qiM(x:qf):Prop where
 Bi:okI x.Bi
 Af:qp7 x.Af
 Av:qp7 x.Av
structure qfQ(x:qi):Prop where
 A:okI x.A
 B:okI x.B
 Bp:okI x.Bp
structure qyg(x:qn):Prop where
 Ar:(okL okT) x.Ar
 Af:(okL qp7) x.Af
 Av:(okL qp7) x.Av
structure qvt(x:qpt):Prop where
 Cc:okI x.Cc
 Cb:okI x.Cb
structure qrP(x:qjq):Prop where
 Be:okI x.Be
 To:okI x.To
 Bo:okI x.Bo
 Ca:okI x.Ca
structure qvD(x:qoD):Prop where
 Bz:(okL qvt) x.Bz
 Cd:(okL qrP) x.Cd
end Go.Fw


namespace Go.Fw
open Go
set_option maxRecDepth 100000
theorem qc1{n:Nat}{x lo hi:Int}:qaw n x lo hi=V (inI x lo hi):=by
 simp only[qaw,qnc,qow];rfl
theorem qdE{n:Nat}{x lo hi:Int}:qa1 n x lo hi=V (inI x lo hi):=by
 simp only[qa1,qnc,qow];rfl
def bt(s:ByteArray)(j:Nat):Nat:=(s.data.toList.getD j 0).toNat
theorem qvW{s:ByteArray}{j:Nat}(h:j<s.size):atS s (j:Int)=V (bt s j:Int):=by
 have a:j<s.data.size:=h;have b:j<s.data.toList.length:=by simpa using a
 unfold atS;rw[if_pos (by omega),jp];have:s[j]?=V (s.data.toList.getD j 0):=by
  rw[getElem?_pos s j h,jx,jn b]
  rfl
 rw[this]
 rfl
def letB(b:Nat):Bool:=decide (97<=b)&&decide (b<=122)
def digB(b:Nat):Bool:=decide (48<=b)&&decide (b<=57)
def chB(s:ByteArray)(j:Nat):Bool:=letB (bt s j) || digB (bt s j)&&decide (0<j)
def nameB(s:ByteArray):Bool:=(decide (1<=s.size)&&decide (s.size<=8))&&allN (chB s) s.size
theorem qmd{s:ByteArray}(h:okS s):Ev (fun n=>qgW n s) (nameB s):=by
 unfold okS at h;have c:Ev (fun n=>qei s n 0) (bif allN (chB s) s.size then .nxt (s.size:Int) else .ret false):=by
  refine qer ?_ (fun j a X d=>?_)
  ·exact Ev.succ (by simp only[qei,qq (jf _),cond_false];exact .done)
  ·refine Ev.succ ?_;simp only[qei,qp a,cond_true,qvW a,jd,qnc,qow,wS j];have e1:(decide ((bt s j:Int)>=97)&&decide ((bt s j:Int)<=122))=letB (bt s j):=by unfold letB;rw[jj];simp;omega
   have e2:(decide ((bt s j:Int)>=48)&&decide ((bt s j:Int)<=57))=digB (bt s j):=by unfold digB;rw[jj];simp;omega
   have b:decide ((j:Int) > 0)=decide (0<j):=by rw[jj];simp
   rw[e1,e2,b];unfold chB;cases letB (bt s j)<;>cases digB (bt s j)<;>cases decide (0<j)<;>first|exact d|exact .done
 unfold qgW;refine Ev.cast (r:=bif allN (chB s) s.size then(decide (1<=s.size)&&decide (s.size<=8)) else false) (Ev.bindB c (fun _=>?_) (fun _=>.done)) ?_
 ·simp only[qnc,qow];exact Ev.now (by congr 1;rw[jj];simp;omega)
 ·unfold nameB;cases allN (chB s) s.size<;>simp
def cutset:List UInt8:=[97,98,99,100,101,102,103,104,105,106,107,108,109,110,111,112,113,114,115,116,117,118,119,120,121,122,48,49,50,51,52,53,54,55,56,57]
theorem qqb(b:UInt8):cutset.contains b=(letB b.toNat || digB b.toNat):=by
 have a:(List.range 256).all (fun m=>cutset.contains (UInt8.ofNat m)==(letB (UInt8.ofNat m).toNat || digB (UInt8.ofNat m).toNat))=true:=by kernel_rfl
 have h:=List.all_eq_true.1 a b.toNat (List.mem_range.2 b.toNat_lt);rw[beq_iff_eq] at h;simpa using h
def letters:List UInt8:=[97,98,99,100,101,102,103,104,105,106,107,108,109,110,111,112,113,114,115,116,117,118,119,120,121,122]
theorem qtV(m:Nat)(b:m<256):decide ((Lib.indexByte letters m.toUInt8)>=0)=letB m:=by
 have a:(List.range 256).all (fun m=>decide ((Lib.indexByte letters m.toUInt8)>=0)==letB m)=true:=by kernel_rfl
 have h:=List.all_eq_true.1 a m (List.mem_range.2 b);rwa [beq_iff_eq] at h
theorem qqY{α:Type}{p:α->Bool}{l:List α}:l.dropWhile p=[]↔∀x,x∈l->p x=true:=by
 induction l with
 |nil=>simp
 |cons y l ih=>
  rw[List.dropWhile_cons];by_cases h:p y=true
  ·rw[if_pos h,ih];simp[h]
  ·rw[if_neg h];simp[h]
theorem qq4{α:Type}{p:α->Bool}{l:List α}(h:∀x,x∈l.dropWhile p->p x=true):∀x,x∈l->p x=true:=by
 induction l with
 |nil=>simp
 |cons y l ih=>
  rw[List.dropWhile_cons] at h;by_cases b:p y=true
  ·rw[if_pos b] at h;intro x a;rcases List.mem_cons.1 a with rfl|a
   ·exact b
   ·exact ih h x a
  ·rw[if_neg b] at h;exact h
theorem qvH{l cs:List UInt8}:Lib.trimS l cs=[]↔∀x,x∈l->cs.contains x=true:=by
 unfold Lib.trimS Lib.trimRightS Lib.trimLeftS;rw[qqY];constructor
 ·intro h x a;exact qq4 (p:=(cs.contains ·)) (l:=l.reverse) (fun y b=>h y (List.mem_reverse.2 b)) x (List.mem_reverse.2 a)
 ·intro h x a;exact h x (List.mem_reverse.1 ((List.dropWhile_suffix _).subset (List.mem_reverse.1 a)))
theorem qil{a b:ByteArray}:(a.toList==b.toList)=decide (a=b):=by
 rw[jj,beq_iff_eq,decide_eq_true_iff];constructor
 ·intro h;exact ByteArray.ext (by have:=congrArg List.toArray h;simpa [ByteArray.toList_eq] using this)
 ·rintro rfl;rfl

theorem qxD{s:ByteArray}{j:Nat}(h:j<s.data.toList.length):bt s j=(s.data.toList[j]).toNat:=by
 unfold bt;rw[jx,jn h];rfl
theorem qyo{s:ByteArray}{j:Nat}:bt s j<256:=UInt8.toNat_lt _
theorem qoU{n:Nat}{s:ByteArray}(h:okS s):qiU n s=V (nameB s):=by
 unfold okS at h;have z:s.data.toList.length=s.size:=by simp
 simp only[qiU,qdE,jd];cases hI:inI (s.size:Int) 1 8 with
 |false=>
  have k:(decide (1<=s.size)&&decide (s.size<=8))=false:=by rw[qvn] at hI;rw[Bool.and_eq_false_iff,decide_eq_false_iff_not,decide_eq_false_iff_not];omega
  simp[nameB,k]
 |true=>
  have k:1<=s.size/\s.size<=8:=by rw[qaK] at hI;omega
  have t:qi0 n s (⟨#[97,98,99,100,101,102,103,104,105,106,107,108,109,110,111,112,113,114,115,116,117,118,119,120,121,122,48,49,50,51,52,53,54,55,56,57]⟩:ByteArray)=V ⟨(Lib.trimS s.data.toList cutset).toArray⟩:=by
   unfold qi0;rw[if_pos ⟨by omega,by decide,by decide⟩]
   rfl
  rw[t];simp only[cond_true,jd];have p:(((⟨(Lib.trimS s.data.toList cutset).toArray⟩:ByteArray).toList==(⟨#[]⟩:ByteArray).toList))=allN (fun j=>letB (bt s j) || digB (bt s j)) s.size:=by
   rw[qil,jj,decide_eq_true_iff,qai];have:((⟨(Lib.trimS s.data.toList cutset).toArray⟩:ByteArray)=⟨#[]⟩)↔Lib.trimS s.data.toList cutset=[]:=by
    constructor
    ·intro i;have:=congrArg (fun x:ByteArray=>x.data.toList) i;simpa using this
    ·intro i;rw[i]
   rw[this,qvH];constructor
   ·intro m j a;have c:j<s.data.toList.length:=by omega
    have:=m _ (jo c);rw[qqb,<-qxD c] at this;exact this
   ·intro m x u;obtain⟨j,a,rfl⟩:=Jb u;have:=m j (by omega);rw[qqb,<-qxD a];exact this
  rw[p];have o:atS s 0=V (bt s 0:Int):=qvW (j:=0) (by omega);have g:decide (Lib.indexByte letters (bt s 0:Int).toNat.toUInt8>=0)=letB (bt s 0):=by
   rw[jp];exact qtV _ qyo
  have r:∀b:Bool,(bif b then(atS s 0).bind fun y=>(qhj n (⟨#[97,98,99,100,101,102,103,104,105,106,107,108,109,110,111,112,113,114,115,116,117,118,119,120,121,122]⟩:ByteArray) (⟨y⟩:IntK .u8)).bind fun v=>V (decide (v>=0)) else V false)=V (b&&letB (bt s 0)):=by
   intro b;cases b with
   |false=>rfl
   |true=>
    rw[o];simp only[cond_true,jd,qhj,jy];exact congrArg V g
  rw[r]
  congr 1
  have l:(decide (1<=s.size)&&decide (s.size<=8))=true:=by simp[k]
  unfold nameB;rw[l,jy,jj,je,qai,qai];simp only[chB,Jg,je,decide_eq_true_eq];constructor
  ·rintro⟨d,f⟩ j a;rcases Nat.eq_zero_or_pos j with rfl|hp
   ·exact .inl f
   ·exact(d j a).imp id (fun h=>⟨h,hp⟩)
  ·intro d;refine⟨fun j a=>(d j a).imp id (fun h=>h.1),?_⟩;rcases d 0 (by omega) with f|f
   ·exact f
   ·omega
def strAt(xs:List ByteArray)(j:Nat):ByteArray:=xs.getD j ByteArray.empty
theorem qoy{xs:List ByteArray}{j:Nat}(h:j<xs.length):strAt xs j=xs[j]:=by simp[strAt,h]
theorem qp0{xs:List ByteArray}{j:Nat}(h:j<xs.length):idx xs (j:Int)=V (strAt xs j):=by rw[qa4 h,qoy h]
def neB(xs:List ByteArray)(j i:Nat):Bool:=!decide (strAt xs i=strAt xs j)
def namesB(xs:List ByteArray):Bool:=allN (fun j=>nameB (strAt xs j)&&allN (neB xs j) j) xs.length
theorem qnq{xs:List ByteArray}(h:okL okS xs):Ev (fun n=>qg4 n xs) (namesB xs):=by
 have f:=h.len;have c:∀j,j<xs.length->Ev (fun n=>qe2 xs (j:Int) n 0) (bif allN (neB xs j) j then .nxt (j:Int) else .ret false):=by
  intro j a;refine qer ?_ (fun i hi X d=>Ev.succ ?_)
  ·exact Ev.succ (by simp only[qe2,qq (jf _),cond_false];exact .done)
  ·simp only[qe2,qp hi,cond_true,qp0 (show i<xs.length by omega),qp0 a,jd,qil,wS i];unfold neB;cases decide (strAt xs i=strAt xs j)
   ·exact d
   ·exact .done
 have b:Ev (fun n=>qeY xs n 0) (bif namesB xs then .nxt (xs.length:Int) else .ret false):=by
  refine qer ?_ (fun j a X d=>Ev.succ ?_)
  ·exact Ev.succ (by simp only[qeY,qq (jf _),cond_false];exact .done)
  ·simp only[qeY,qp a,cond_true,qp0 a,jd,wS j];refine Ev.bind (qmd (by rw[qoy a];exact h.at a)) ?_;cases nameB (strAt xs j)
   ·exact .done
   ·refine Ev.ff Z (Ev.bind (c j a) ?_);cases allN (neB xs j) j
    ·exact .done
    ·exact d
 unfold qg4;refine Ev.bind b ?_;cases namesB xs<;>exact .done
theorem qsI{xs:List ByteArray}{v:ByteArray}(c:xs.length<=1048576):Ev (fun n=>qgd n xs v) (ixL (fun x=>decide (v=x)) xs):=
 qfc (fin:=(xs.length:Int)) (Lf:=qcf xs v) (pf:=fun _ x=>V (decide (v=x))) (fun _ _=>.done)
  (fun n=>by simp only[qcf,qq (jf _),cond_false])
  (fun n j x a=>by
   have b:=(List.getElem?_eq_some_iff.1 a).1;simp only[qcf,qp b,cond_true,qgM a,jd,qil,wS j])
  (fun n=>by unfold qgd;congr 1;funext o;cases o<;>rfl)
theorem qqg{xs:List ByteArray}{v:ByteArray}(a:xs.length<=1048576):Ev (fun n=>qeF n xs v) (xs.any fun x=>decide (v=x)):=by
 unfold qeF;exact Ev.bind (qsI a) (Ev.now (by rw[qmh]))
theorem qjX{xs:List ByteArray}(h:okL okS xs):Ev (fun n=>qeM n xs) (namesB xs):=by
 have g:=h.len;have b:Ev (fun n=>qeV xs n 0) (bif namesB xs then .nxt (xs.length:Int) else .ret false):=by
  refine qer ?_ (fun j a X c=>Ev.succ ?_)
  ·exact Ev.succ (by simp only[qeV,qq (jf _),cond_false];exact .done)
  ·have f:subS xs 0 (j:Int)=V (xs.take j):=by
    unfold subS;rw[if_pos ⟨by omega,by omega,by omega⟩];simp
   simp only[qeV,qp a,cond_true,qp0 a,jd,f,qoU (show okS (strAt xs j) by rw[qoy a];exact h.at a),wS j];cases nameB (strAt xs j)
   ·exact .done
   ·refine Ev.ff Z (Ev.bind (qqg (by simp;omega)) ?_);have:((xs.take j).any fun x=>decide (strAt xs j=x)) = !allN (neB xs j) j:=by
     rw[qsG (d:=ByteArray.empty)]
     congr 1
     rw[jN,Nat.min_eq_left (by omega)];refine qiG (fun i hi=>?_);unfold neB strAt
     congr 1
     have:(xs.take j).getD i ByteArray.empty=xs.getD i ByteArray.empty:=by simp[jx,hi]
     rw[this];exact decide_eq_decide.2 eq_comm
    rw[this];cases allN (neB xs j) j
    ·exact .done
    ·exact c
 unfold qeM;refine Ev.bind b ?_;cases namesB xs<;>exact .done

theorem qq6{n:Nat}{x lo hi:Int}:qhU n x lo hi=V (!inI x lo hi):=by simp only[qhU,qdE,jd]
theorem qeD{xs:List Int}{lo hi:Int}(d:xs.length<=1048576):Ev (fun n=>qbV n xs lo hi) (xs.all fun x=>inI x lo hi):=by
 have b:Ev (fun n=>qbb n xs lo hi) (ixL (fun x=>!inI x lo hi) xs):=
  qfc (fin:=(xs.length:Int)) (Lf:=qal xs lo hi) (pf:=fun _ x=>V (!inI x lo hi)) (fun _ _=>.done)
   (fun n=>by simp only[qal,qq (jf _),cond_false])
   (fun n j x a=>by
    have c:=(List.getElem?_eq_some_iff.1 a).1;simp only[qal,qp c,cond_true,qgM a,jd,qq6,wS j])
   (fun n=>by unfold qbb;congr 1;funext o;cases o<;>rfl)
 unfold qbV qbO;refine Ev.bind (Ev.bind b (Ev.now Z)) (Ev.now ?_);rw[qmh,qoj]
def stepB(xs:List Int)(j:Nat):Bool:=decide (j=0) || decide (at0 xs (j-1)<at0 xs j)
def incB(xs:List Int):Bool:=allN (stepB xs) xs.length
theorem qjZ{xs:List Int}(l:xs.length<=1048576):Ev (fun n=>qeb n xs) (incB xs):=by
 have d:Ev (fun n=>qbN xs n 1) (bif incB xs then .nxt (max 1 xs.length:Int) else .ret false):=by
  by_cases b:xs.length=0
  ·have i:incB xs=true:=by unfold incB;rw[b];rfl
   rw[i];refine Ev.succ ?_;have:decide ((1:Int)<(xs.length:Int))=false:=by rw[b];decide
   simp only[qbN,this,cond_false];exact Ev.now (by rw[b];rfl)
  ·have:=qud (Lf:=qbN xs) (len:=xs.length) (i0:=1) (f:=stepB xs) (bad:=false) (fin:=.nxt (max 1 xs.length:Int)) (by omega)
    (Ev.succ (by
     simp only[qbN,qq (jf _),cond_false];exact Ev.now (by congr 2;omega)))
    (fun j k a X g=>Ev.succ (by
     simp only[qbN,qp a,cond_true,wS j,show(j:Int)-1=((j-1:Nat):Int) by omega,qQ (show -9223372036854775808<=((j-1:Nat):Int) by omega) (by omega),qar (show j-1<xs.length by omega),qar a,jd];unfold stepB;by_cases c:at0 xs (j-1)<at0 xs j
     ·have e1:decide (at0 xs (j-1)>=at0 xs j)=false:=by simp;omega
      rw[e1];simp only[c,decide_true,Bool.or_true,cond_true,cond_false];exact g
     ·have e1:decide (at0 xs (j-1)>=at0 xs j)=true:=by simp;omega
      have e2:decide (j=0)=false:=by simp;omega
      rw[e1,e2];simp only[c,decide_false,Bool.or_self,cond_true,cond_false];exact .done))
   have e:allN (fun j=>stepB xs (1+j)) (xs.length-1)=incB xs:=by
    unfold incB;rw[jj,qai,qai];constructor
    ·intro h j a;cases j with
     |zero=>rfl
     |succ j=>have:=h j (by omega);rwa [Nat.add_comm] at this
    ·intro h j a;exact h (1+j) (by omega)
   rw[e] at this;exact this
 unfold qeb;refine Ev.bind d ?_;cases incB xs<;>exact .done
def lenB{α:Type}(xs:List α)(lo hi:Nat):Bool:=decide (lo<=xs.length)&&decide (xs.length<=hi)
theorem qsd{α:Type}{xs:List α}{lo hi:Nat}:inI (xs.length:Int) (lo:Int) (hi:Int)=lenB xs lo hi:=by
 unfold inI lenB;rw[jj];simp
def axisB(xs:List Int):Bool:=lenB xs 1 4&&((xs.all fun x=>inI x 0 100000)&&incB xs)
theorem qrA{xs:List Int}(a:xs.length<=1048576):Ev (fun n=>qjM n xs) (axisB xs):=by
 simp only[qjM,qbI,jd,qdE,show inI (xs.length:Int) 1 4=lenB xs 1 4 from qsd (lo:=1) (hi:=4)];unfold axisB;cases lenB xs 1 4
 ·exact .done
 ·refine Ev.tt Z (Ev.bind (qeD a) ?_);cases (xs.all fun x=>inI x 0 100000)
  ·exact .done
  ·exact Ev.tt Z (Ev.bind (qjZ a) .done)
theorem qqJ{xs:List Int}(i:xs.length<=1048576):Ev (fun n=>qi2 n xs) (axisB xs):=by
 have h:Ev (fun n=>qef xs n 0) (bif allN (fun j=>inI (at0 xs j) 0 100000&&stepB xs j) xs.length then .nxt (xs.length:Int) else .ret false):=by
  refine qer ?_ (fun j c X a=>Ev.succ ?_)
  ·exact Ev.succ (by simp only[qef,qq (jf _),cond_false];exact .done)
  ·simp only[qef,qp c,cond_true,qar c,jd,qc1,wS j];cases inI (at0 xs j) 0 100000
   ·exact .done
   ·simp only[Jj,cond_false,jy];unfold stepB;by_cases g:j=0
    ·subst g;exact Ev.ff (by decide) a
    ·simp only[show(j:Int)-1=((j-1:Nat):Int) by omega,qQ (show -9223372036854775808<=((j-1:Nat):Int) by omega) (by omega),qar (show j-1<xs.length by omega),jd];have e2:decide (j=0)=false:=by simp;omega
     have f:decide ((j:Int) > 0)=true:=by simp;omega
     rw[e2,f];simp only[cond_true,Ji];by_cases b:at0 xs (j-1)<at0 xs j
     ·have e1:decide (at0 xs (j-1)>=at0 xs j)=false:=by simp;omega
      rw[e1];simp only[b,decide_true,cond_true,cond_false];exact a
     ·have e1:decide (at0 xs (j-1)>=at0 xs j)=true:=by simp;omega
      rw[e1];simp only[b,decide_false,cond_true,cond_false];exact .done
 have e:axisB xs=(allN (fun j=>inI (at0 xs j) 0 100000&&stepB xs j) xs.length&&lenB xs 1 4):=by
  unfold axisB incB;rw[qlF,qhE (d:=0),Bool.and_comm]
  rfl
 rw[e];unfold qi2;refine Ev.bind h ?_;cases allN (fun j=>inI (at0 xs j) 0 100000&&stepB xs j) xs.length
 ·exact .done
 ·simp only[cond_true,qnc,qow,jy];exact Ev.now (by congr 1;unfold lenB;rw[jj];simp;omega)
def tableB(t:qS):Bool:=axisB t.Bj&&(axisB t.Bd&&(decide (t.Ba.length=t.Bj.length*t.Bd.length)&&(t.Ba.all fun x=>inI x (-1000000) 1000000)))
theorem qp4{a b:Nat}(c:a<=1048576)(d:b<=1048576):W64 ((a:Int)*(b:Int))=((a*b:Nat):Int):=by
 have h:a*b<=1048576*1048576:=Nat.mul_le_mul c d;have e:(a:Int)*(b:Int)=((a*b:Nat):Int):=by simp
 rw[e];exact qQ (by omega) (by omega)
theorem qtJ{t:qS}(h:qjb t):Ev (fun n=>qkf n t) (tableB t):=by
 unfold qkf tableB;refine Ev.bind (qrA h.Bj.len) ?_;cases axisB t.Bj
 ·exact .done
 ·refine Ev.tt Z (Ev.bind (qrA h.Bd.len) ?_);cases axisB t.Bd
  ·exact .done
  ·rw[qp4 h.Bj.len h.Bd.len];have e:(((t.Ba.length:Nat):Int)==((t.Bj.length*t.Bd.length:Nat):Int))=decide (t.Ba.length=t.Bj.length*t.Bd.length):=by rw[jj];simp;omega
   rw[e];cases decide (t.Ba.length=t.Bj.length*t.Bd.length)
   ·exact .done
   ·exact Ev.tt Z (Ev.tt Z (Ev.bind (qeD h.Ba.len) .done))
theorem qss{t:qS}(h:qjb t):Ev (fun n=>qkh n t) (tableB t):=by
 have f:=h.Ba.len;have c:Ev (fun n=>qfz t n 0) (bif (t.Ba.all fun x=>inI x (-1000000) 1000000) then .nxt (t.Ba.length:Int) else .ret false):=
  qov (fun n=>by simp only[qfz,qq (jf _),cond_false]) (fun j a X d=>by
   simp only[qfz,qp a,cond_true,qa4 a,jd,qc1,wS j];cases inI t.Ba[j] (-1000000) 1000000
   ·exact .done
   ·exact d)
 unfold qkh tableB;refine Ev.bind (b:=!(axisB t.Bj&&(axisB t.Bd&&decide (t.Ba.length=t.Bj.length*t.Bd.length)))) ?_ ?_
 ·refine Ev.bind (qqJ h.Bj.len) ?_;cases axisB t.Bj
  ·exact .done
  ·refine Ev.ff Z (Ev.bind (qqJ h.Bd.len) ?_);cases axisB t.Bd
   ·exact .done
   ·refine Ev.ff Z (Ev.now ?_);rw[qp4 h.Bj.len h.Bd.len]
    congr 1
    rw[jj];simp;omega
 ·cases axisB t.Bj
  ·exact .done
  ·cases axisB t.Bd
   ·exact .done
   ·cases decide (t.Ba.length=t.Bj.length*t.Bd.length)
    ·exact .done
    ·refine Ev.ff Z (Ev.bind c ?_);cases (t.Ba.all fun x=>inI x (-1000000) 1000000)<;>exact .done

instance:Inhabited qaA:=⟨⟨ByteArray.empty,0,0,false⟩⟩
instance:Inhabited qS:=⟨⟨[],[],[]⟩⟩
instance:Inhabited qay:=⟨⟨0,0,0,0,[],[]⟩⟩
instance:Inhabited qL:=⟨⟨ByteArray.empty,0,[],[],[],0,0⟩⟩
instance:Inhabited qI:=⟨⟨ByteArray.empty,0,[]⟩⟩
instance:Inhabited qaz:=⟨⟨ByteArray.empty,0,0⟩⟩
instance:Inhabited qah:=⟨⟨[],[],[],[]⟩⟩
theorem lastE{j m:Nat}(h:j<m)(a:m<=1048576):((j:Int)==W64 ((m:Int)-1))=decide (j+1=m):=by
 rcases qw0 h with h|h
 ·exact h
 ·omega
theorem qkw{α:Type}[Inhabited α]{xs:List α}{g:α->ByteArray}{j:Nat}(h:j<xs.length):strAt (xs.map g) j=g (gt xs j):=by
 rw[qoy (by simpa using h),qeQ h];simp
theorem qny{α:Type}{xs:List α}{g:α->ByteArray}{ok:α->Prop}(h:okL ok xs)(a:∀x,ok x->okS (g x)):okL okS (xs.map g):=
 ⟨by rw[jt];exact h.1,fun y c=>by
  obtain⟨x,b,rfl⟩:=List.mem_map.1 c;exact a x (h.2 x b)⟩
theorem qlK{α β:Type}{xs:List α}{g:α->β}{j:Nat}(h:j<xs.length)(a:xs.length<=1048576){y:β}:appS ((xs.take j).map g) [y]=V ((xs.take j).map g++[y]):=
 qcx (by simp;omega)
def pinB(ps:List qaA)(j:Nat):Bool:=
 bif decide (j+1=ps.length) then((gt ps j).Bs==2)&&(((gt ps j).Bl==0)&&!(gt ps j).Bn) else((gt ps j).Bs==1)&&inI (gt ps j).Bl 0 500
def pinsB(ps:List qaA):Bool:=allN (pinB ps) ps.length&&(lenB ps 2 5&&namesB (ps.map qaA.Az))
def clkN(ps:List qaA)(j:Nat):Nat:=cntP (fun i=>(gt ps i).Bn) j
theorem qtk{ps:List qaA}(h:okL qmf ps):Ev (fun n=>qkn n ps) (pinsB ps):=by
 have i:=h.len;have l:Ev (fun n=>qdk ps n ([]:List ByteArray) 0) (bif allN (pinB ps) ps.length then .nxt (ps.map qaA.Az,(ps.length:Int)) else .ret false):=by
  refine loopN (Lf:=qdk ps) (S:=fun j=>(ps.take j).map qaA.Az) (pinB ps) (fun n=>?_) (fun j a o X f=>?_)
  ·simp only[qdk,qq (jf _),cond_false,jG]
  ·simp only[qdk,qp a,cond_true,qw a,jd,qlK a i,qgH (g:=qaA.Az) a,lastE a i,bne,qb6,qdE,wS j];generalize hc:pinB ps j=c at f⊢;unfold pinB at hc;cases hd:decide (j+1=ps.length)
   ·rw[hd] at hc;simp only[cond_false] at hc⊢;subst hc;exact Ev.okP (fun b=>Ev.okP1 (fun d=>f (by rw[b,d];rfl)))
   ·rw[hd] at hc;simp only[cond_true] at hc⊢;subst hc;refine Ev.okP (fun b=>Ev.okP (fun d=>Ev.chkP1 (fun k=>f (by rw[b,d,k];rfl))))
 unfold qkn pinsB;refine Ev.bind l ?_;cases allN (pinB ps) ps.length
 ·exact .done
 ·simp only[cond_true,qcK,qdE,jd,show inI (ps.length:Int) 2 5=lenB ps 2 5 from qsd (lo:=2) (hi:=5),jy];exact Ev.andP (fun _=>Ev.last (qjX (qny h (fun x m=>m.Az))))
def pinS(ps:List qaA)(j:Nat):Bool:=allN (neB (ps.map qaA.Az) j) j&&((nameB (gt ps j).Az&&inI (gt ps j).Bl 0 500)&&(bif decide (j+1=ps.length) then((gt ps j).Bs==2)&&(((gt ps j).Bl==0)&&!(gt ps j).Bn) else((gt ps j).Bs==1)))
theorem qwG{ps:List qaA}:(lenB ps 2 5&&allN (pinS ps) ps.length)=pinsB ps:=by
 have e:namesB (ps.map qaA.Az)=allN (fun j=>nameB (gt ps j).Az&&allN (neB (ps.map qaA.Az) j) j) ps.length:=by
  unfold namesB;rw[jt];exact qiG (fun j a=>by rw[qkw a])
 unfold pinsB;rw[e,<-Bool.and_assoc,Bool.and_comm (allN (pinB ps) ps.length),Bool.and_assoc,<-qlF]
 congr 1
 refine qiG (fun j a=>?_);unfold pinS pinB;cases hd:decide (j+1=ps.length)
 ·simp only[cond_false];cases allN (neB (ps.map qaA.Az) j) j<;>cases nameB (gt ps j).Az<;>cases inI (gt ps j).Bl 0 500<;>cases ((gt ps j).Bs==1)<;>rfl
 ·simp only[cond_true];cases hcap:((gt ps j).Bl==0)
  ·simp
  ·have:inI (gt ps j).Bl 0 500=true:=by rw[beq_iff_eq] at hcap;rw[hcap];rfl
   rw[this];cases allN (neB (ps.map qaA.Az) j) j<;>cases nameB (gt ps j).Az<;>cases ((gt ps j).Bs==2)<;>cases (gt ps j).Bn<;>rfl
theorem qtK{c:qL}(h:okL qmf c.Ay):Ev (fun n=>qkj n c) (bif pinsB c.Ay then(((clkN c.Ay c.Ay.length:Nat):Int),true) else(0,false)):=by
 have r:=h.len;have l:∀j,j<c.Ay.length->Ev (fun n=>qfx c (j:Int) (gt c.Ay j) n 0) (bif allN (neB (c.Ay.map qaA.Az) j) j then .nxt (j:Int) else .ret (0,false)):=by
  intro j b;refine qer ?_ (fun i hi X a=>Ev.succ ?_)
  ·exact Ev.succ (by simp only[qfx,qq (jf _),cond_false];exact .done)
  ·simp only[qfx,qp hi,cond_true,qw (show i<c.Ay.length by omega),jd,qil,wS i];unfold neB;rw[qkw (g:=qaA.Az) (show i<c.Ay.length by omega),qkw (g:=qaA.Az) b];exact Ev.chkP1 (fun _=>a)
 have k:Ev (fun n=>qdj c n 0 0) (bif allN (pinS c.Ay) c.Ay.length then .nxt (((clkN c.Ay c.Ay.length:Nat):Int),(c.Ay.length:Int)) else .ret (0,false)):=by
  refine loopN (Lf:=qdj c) (S:=fun j=>((clkN c.Ay j:Nat):Int)) (pinS c.Ay) (fun n=>?_) (fun j b t X a=>?_)
  ·simp only[qdj,qq (jf _),cond_false]
  ·have s:clkN c.Ay j<=j:=qgE;have d:((j:Int)==W64 ((c.Ay.length:Int)-1))=decide (j+1=c.Ay.length):=lastE b r;have f:decide ((j:Int)<W64 ((c.Ay.length:Int)-1)) = !decide (j+1=c.Ay.length):=by
    rw[qQ (by omega) (by omega),jj];simp;omega
   simp only[qdj,qp b,cond_true,qw b,jd,wS j,qih (show clkN c.Ay j<9223372036854775807 by omega),d,f,qc1];unfold pinS;refine Ev.bind (l j b) ?_;cases ha:allN (neB (c.Ay.map qaA.Az) j) j
   ·exact .done
   ·simp only[cond_true,jy];refine Ev.chkT ?_ (fun o=>?_)
    ·exact Ev.or (qmd (qna h b).Az) (fun _=>.done)
    ·refine Ev.chkT1 ?_ (fun p=>?_)
     ·cases decide (j+1=c.Ay.length)
      ·exact .done
      ·simp only[cond_true,Jj,cond_false,bne,qb6];cases ((gt c.Ay j).Bs==2)<;>cases ((gt c.Ay j).Bl==0)<;>cases (gt c.Ay j).Bn<;>exact .done
     ·have a:=a (by unfold pinS;rw[ha,o,p];rfl);have m:clkN c.Ay (j+1)=clkN c.Ay j+(bif (gt c.Ay j).Bn then 1 else 0):=rfl;rw[m] at a;cases hc:(gt c.Ay j).Bn
      ·rw[hc] at a;exact Ev.ff Z a
      ·rw[hc] at a;exact Ev.tt Z a
 rw[<-qwG];unfold qkj;refine Ev.guard ?_ (fun o=>?_)
 ·unfold lenB;have e1:decide ((c.Ay.length:Int)<2) = !decide (2<=c.Ay.length):=by rw[jj];simp;omega
  have e2:decide ((c.Ay.length:Int) > 5) = !decide (c.Ay.length<=5):=by rw[jj];simp;omega
  rw[e1,e2];cases decide (2<=c.Ay.length)<;>cases decide (c.Ay.length<=5)<;>exact .done
 ·refine Ev.bind k ?_;cases allN (pinS c.Ay) c.Ay.length<;>exact .done
def mnL(xs:List Int):Int:=(xs.drop 1).foldl (fun m y=>if y<m then y else m) (at0 xs 0)
def mxL(xs:List Int):Int:=(xs.drop 1).foldl (fun m y=>if y > m then y else m) (at0 xs 0)
theorem qqw{t:qS}(h:tableB t=true):1<=t.Ba.length:=by
 unfold tableB axisB lenB at h;simp only[je,decide_eq_true_eq] at h;obtain⟨⟨⟨a,_⟩,_⟩,⟨⟨b,_⟩,_⟩,c,_⟩:=h;rw[c];exact Nat.mul_pos a b
theorem qwL{xs:List Int}(b:1<=xs.length)(f:xs.length<=1048576):Ev (fun n=>qh6 n xs) (mnL xs):=by
 have c:=(qo2 (Lf:=fun n t j=>qdf xs n t j) (xs:=xs) (step:=fun(m y:Int)=>if y<m then y else m) (fin:=fun t=>(t,(xs.length:Int))) 1 (at0 xs 0) (fun _ _=>True) b trivial (fun _ _ _ _=>trivial)
  (fun n t=>by simp only[qdf,qq (jf _),cond_false])
  (fun j t a _ X d=>by simpa only[qdf,qp a,cond_true,qa4 a,jd,wS j] using d)).1
 unfold qh6;rw[show decide ((xs.length:Int)<1)=false by simp;omega,show idx xs (0:Int)=V (at0 xs 0) from qar (j:=0) (by omega)];simp only[cond_false,jd];exact Ev.bind c .done
theorem qts{t:qS}(h:qjb t):Ev (fun n=>qhZ n t) (bif tableB t then(⟨mnL t.Ba,mxL t.Ba⟩,0) else(⟨0,0⟩,1)):=by
 unfold qhZ;refine Ev.chk1 (qss h) (fun k=>?_);have g:=qqw k;have o:=h.Ba.len;have d:=(qo2 (Lf:=fun n (c:Int×Int) j=>qdd t n c.1 c.2 j) (xs:=t.Ba) (step:=fun(m:Int×Int) y=>(if y<m.1 then y else m.1,if y > m.2 then y else m.2)) (fin:=fun c=>(c.1,c.2,(t.Ba.length:Int))) 1 (at0 t.Ba 0,at0 t.Ba 0) (fun _ _=>True) g trivial (fun _ _ _ _=>trivial)
  (fun n t=>by simp only[qdd,qq (jf _),cond_false])
  (fun j t f _ X i=>by simpa only[qdd,qp f,cond_true,qa4 f,jd,wS j] using i)).1
 have l:∀(ys:List Int) (a b:Int),ys.foldl (fun(m:Int×Int) y=>(if y<m.1 then y else m.1,if y > m.2 then y else m.2)) (a,b)=(ys.foldl (fun m y=>if y<m then y else m) a,ys.foldl (fun m y=>if y > m then y else m) b):=by
  intro ys
  induction ys with
  |nil=>intro a b;rfl
  |cons y ys ih=>intro a b;simp only[List.foldl_cons,ih]
 rw[l] at d;rw[show idx t.Ba (0:Int)=V (at0 t.Ba 0) from qar (j:=0) (by omega)];simp only[jd];exact Ev.bind d .done
def tabB(pos:Bool)(t:qS):Bool:=tableB t&&(!pos || decide (0<=mnL t.Ba))
def tablesB(a:List qS)(pos:Bool):Bool:=decide (a.length=2)&&a.all (tabB pos)
theorem qmc{a:List qS}{pos:Bool}(h:okL qjb a):Ev (fun n=>qgm n a pos) (tablesB a pos):=by
 have g:=h.len;have c:Ev (fun n=>qaT n a pos) (ixL (fun x=>!tabB pos x) a):=
  qfc (fin:=(a.length:Int)) (Lf:=qaa a pos) (pf:=fun n x=>qh5 n x pos) (fun x b=>by
    unfold qh5 tabB;refine Ev.or (qtJ (h.2 x b)) (fun d=>?_);cases pos
    ·exact .done
    ·refine Ev.tt Z (Ev.bind (qwL (qqw d) (h.2 x b).Ba.len) (Ev.now ?_))
     congr 1
     rw[jj];simp)
   (fun n=>by simp only[qaa,qq (jf _),cond_false])
   (fun n j x b=>by
    have f:=(List.getElem?_eq_some_iff.1 b).1;simp only[qaa,qp f,cond_true,qgM b,jd,wS j])
   (fun n=>by unfold qaT;congr 1;funext o;cases o<;>rfl)
 unfold qgm qbg tablesB;rw[show((a.length:Int)==2)=decide (a.length=2) by rw[jj];simp;omega];refine Ev.andP (fun _=>Ev.bind (Ev.bind c (Ev.now Z)) (Ev.now ?_));rw[qmh,qoj]
theorem qiZ{a:List qS}{pos:Bool}(h:okL qjb a):Ev (fun n=>qdX n a pos) (tablesB a pos):=by
 unfold qdX tablesB;rw[show((a.length:Int) != 2) = !decide (a.length=2) by rw[jj];simp;omega];simp only[qb6];refine Ev.andP (fun b=>?_);have b:a.length=2:=by simpa using b
 have f:Ev (fun n=>qc6 a pos n 0) (bif allN (fun j=>tabB pos (gt a j)) a.length then .nxt (2:Int) else .ret false):=by
  refine qer (len:=a.length) ?_ (fun j d X c=>Ev.succ ?_)
  ·rw[b];exact Ev.succ (by simp only[qc6];exact .done)
  ·simp only[qc6,show decide ((j:Int)<2)=true by simp;omega,cond_true,qw d,jd,wS j];refine Ev.bind (qts (qna h d)) ?_;unfold tabB;cases tableB (gt a j)
   ·exact .done
   ·simp only[cond_true,jy];refine Ev.ff Z ?_;cases pos
    ·exact c
    ·refine Ev.tt Z ?_;rw[show decide (mnL (gt a j).Ba<0) = !decide (0<=mnL (gt a j).Ba) by rw[jj];simp];simp only[qb6];exact Ev.okP1 (fun _=>c)
 rw[qjc];refine Ev.bind f ?_;cases allN (fun j=>tabB pos (gt a j)) a.length<;>exact .done

theorem qf1{α:Type}[Inhabited α]{xs:List α}{x:Int}(a:0<=x)(b:x<xs.length):idx xs x=V (gt xs x.toNat):=by
  have:=qw (xs:=xs) (j:=x.toNat) (by omega);rwa [<-qdu a] at this
theorem qrq{q:Nat->Bool}{m n:Nat}(h:m<=n):cntP q m<=cntP q n:=by
  induction n with
  |zero=>
    obtain rfl:m=0:=by omega
    exact jf _
  |succ n ih=>
    rcases Nat.lt_or_eq_of_le h with h|rfl
    · exact jT (ih (by omega)) (Nat.le_add_right _ _)
    · exact jf _
theorem qld{m k:Nat}:decide ((m:Int)<=(k:Int))=decide (m<=k):=by rw[jj];simp
theorem qth{q:Nat->Bool}{n i j:Nat}(hi:i<j)(c:j<n)(a:q i=true)(b:q j=true):2<=cntP q n:=by
  have e1:cntP q (i+1)=cntP q i+1:=by rw[cntP,a];rfl
  have e2:cntP q (j+1)=cntP q j+1:=by rw[cntP,b];rfl
  have d:=qrq (q:=q) (show i+1<=j by omega);have f:=qrq (q:=q) (show j+1<=n by omega);omega
theorem qsW{q:Nat->Bool}{n i j:Nat}(d:cntP q n<=1)(hi:i<n)(c:j<n)(a:q i=true)(b:q j=true):i=j:=by
  rcases Nat.lt_trichotomy i j with h|h|h
  · have:=qth h c a b;omega
  · exact h
  · have:=qth h hi b a;omega
def clkIx(ps:List qaA):Int:=ixL (fun p=>p.Bn) ps
def clkAt(ps:List qaA)(x:Int):Bool:=(gt ps x.toNat).Bn
theorem qwn{c:qL}(f:c.Ay.length<=1048576):Ev (fun n=>qix n c) (clkIx c.Ay):=by
  unfold qix;refine Ev.bind (b:=clkIx c.Ay) ?_ .done;exact qfc (fin:=(c.Ay.length:Int)) (Lf:=qac c.Ay) (pf:=fun n x=>qi5 n x) (fun _ _=>.done)
    (fun n=>by simp only[qac,qq (jf _),cond_false])
    (fun n j x a=>by
      have d:=(List.getElem?_eq_some_iff.1 a).1;simp only[qac,qp d,cond_true,qgM a,jd,wS j])
    (fun n=>by unfold qbJ;congr 1;funext o;cases o<;>rfl)
def arcI(ps:List qaA)(a:qay):Bool:=
  bif (a.Au==4) || (a.Au==5) then
    (a.Bk==0)&&(((a.Av.length:Int)==0)&&(tablesB a.Bo false&&((a.Be==clkIx ps)&&(decide (a.Be>=0)&&(inI a.To 0 (ps.length-2)&&!(a.To==a.Be))))))
  else
    (tablesB a.Bo true&&(tablesB a.Av true&&((a.To==(ps.length:Int)-1)&&inI a.Be 0 (ps.length-2)))) &&
      (bif a.Au==1 then !clkAt ps a.Be&&inI a.Bk 1 3 else(bif (a.Au==2) || (a.Au==3) then clkAt ps a.Be&&(a.Bk==0) else false))
def arcS(ps:List qaA)(a:qay):Bool:=
  (inI a.Be 0 (ps.length-2)&&inI a.To 0 (ps.length-1)) &&
    (bif a.Au==1 then !clkAt ps a.Be&&((a.To==(ps.length:Int)-1)&&(inI a.Bk 1 3&&(tablesB a.Bo true&&tablesB a.Av true)))
     else(bif (a.Au==2) || (a.Au==3) then clkAt ps a.Be&&((a.To==(ps.length:Int)-1)&&((a.Bk==0)&&(tablesB a.Bo true&&tablesB a.Av true)))
     else(bif (a.Au==4) || (a.Au==5) then clkAt ps a.Be&&(decide (a.To<(ps.length:Int)-1)&&(!clkAt ps a.To&&((a.Bk==0)&&(tablesB a.Bo false&&((a.Av.length:Int)==0))))) else false)))
theorem qpA{c d:Bool}:(bif c then V c else V d)=V (c || d):=by cases c<;>rfl
theorem qsw{c d:Bool}:(bif c then V true else V d)=V (c || d):=by cases c<;>rfl
theorem qtT{n:Nat}{k:Int}:qke n k=V ((k==4) || (k==5)):=by simp only[qke,qsw]
theorem qvF{c:qL}{a:qay}(h:okL qmf c.Ay)(b:qma a)(i:2<=c.Ay.length):Ev (fun n=>qiy n c a) (arcI c.Ay a):=by
  have g:=h.len;have e1:W64 ((c.Ay.length:Int)-1)=(c.Ay.length:Int)-1:=qd0 (by omega);have e2:W64 ((c.Ay.length:Int)-1-1)=(c.Ay.length:Int)-2:=by rw[qQ (by omega) (by omega)];omega
  simp only[qiy,qtT,jd,qhc,qe4,qcK,e1,e2,qdE,qpA,bne];unfold arcI;refine Ev.iff (fun _=>Ev.last ?_) (fun _=>Ev.guardB ?_ (fun d=>?_))
  · exact Ev.andP fun _=>Ev.andP fun _=>Ev.and (qmc b.Bo) fun _=>Ev.bind (qwn g) (Ev.andP fun _=>Ev.andP fun _=>Ev.andP fun _=>.done)
  · refine Ev.or (qmc b.Bo) fun _=>Ev.or (qmc b.Av) fun _=>?_
    simp only[qb6];exact Ev.orBP fun _=>.done
  · have f:0<=a.Be/\a.Be<=(c.Ay.length:Int)-2:=by
      simp only[je,qaK] at d;exact d.2.2.2
    simp only[qf1 f.1 (show a.Be<(c.Ay.length:Int) by omega),jd];exact Ev.iff (fun _=>Ev.andP fun _=>.done) (fun _=>Ev.iff (fun _=>Ev.andP fun _=>.done) (fun _=>.done))
theorem qvi{c:qL}{a:qay}(h:okL qmf c.Ay)(b:qma a)(i:2<=c.Ay.length):Ev (fun n=>qlk n c a) (arcS c.Ay a):=by
  have g:=h.len;have e1:W64 ((c.Ay.length:Int)-1)=(c.Ay.length:Int)-1:=qd0 (by omega);have e2:W64 ((c.Ay.length:Int)-1-1)=(c.Ay.length:Int)-2:=by rw[qQ (by omega) (by omega)];omega
  simp only[qlk,jd,e1,e2,qc1,qpA];unfold arcS;refine Ev.guardB ?_ (fun d=>?_)
  · simp only[qb6]
    exact Ev.orBP fun _=>.done
  · have f:(0<=a.Be/\a.Be<=(c.Ay.length:Int)-2)/\(0<=a.To/\a.To<=(c.Ay.length:Int)-1):=by
      simp only[je,qaK] at d;exact d
    simp only[qf1 f.1.1 (show a.Be<(c.Ay.length:Int) by omega),qf1 f.2.1 (show a.To<(c.Ay.length:Int) by omega),jd];refine Ev.iff (fun _=>?_) (fun _=>Ev.iff (fun _=>?_) (fun _=>Ev.iff (fun _=>?_) (fun _=>.done)))
    · exact Ev.andP fun _=>Ev.andP fun _=>Ev.andP fun _=>Ev.and (qiZ b.Bo) fun _=>Ev.last (qiZ b.Av)
    · exact Ev.andP fun _=>Ev.andP fun _=>Ev.andP fun _=>Ev.and (qiZ b.Bo) fun _=>Ev.last (qiZ b.Av)
    · exact Ev.andP fun _=>Ev.andP fun _=>Ev.andP fun _=>Ev.andP fun _=>Ev.and (qiZ b.Bo) fun _=>.done
theorem qo9{ps:List qaA}(f:clkN ps ps.length<=1){x:Int}(k:0<=x):clkIx ps=x↔x<ps.length/\clkAt ps x=true:=by
  unfold clkIx ixL;cases hf:ps.findIdx? (fun p=>p.Bn) with
  |some j=>
    obtain⟨d,i,_⟩:=List.findIdx?_eq_some_iff_getElem.1 hf;have b:(gt ps j).Bn=true:=by rw[qeQ d];exact i
    constructor
    · intro e
      have e:(j:Int)=x:=e;subst e;exact⟨by omega,by unfold clkAt;rw[jp];exact b⟩
    · rintro⟨g,a⟩
      have:=qsW f d (show x.toNat<ps.length by omega) b a;show(j:Int)=x;omega
  |none=>
    have h:=List.findIdx?_eq_none_iff.1 hf;constructor
    · intro e
      have e:(-1:Int)=x:=e;omega
    · rintro⟨g,a⟩
      have c:x.toNat<ps.length:=by omega
      unfold clkAt at a;rw[qeQ c] at a;have:=h _ (jo c);rw[a] at this;exact absurd this (by decide)
theorem qhJ{ps:List qaA}(h:pinsB ps=true):(2<=ps.length/\ps.length<=5)/\clkAt ps ((ps.length:Int)-1)=false:=by
  unfold pinsB lenB at h;simp only[je,decide_eq_true_eq] at h;refine⟨h.2.1,?_⟩;have a:=qai.1 h.1 (ps.length-1) (by omega);unfold pinB at a;rw[show decide (ps.length-1+1=ps.length)=true by simp;omega] at a;simp only[cond_true,je,jA] at a;unfold clkAt;rw[show((ps.length:Int)-1).toNat=ps.length-1 by omega];exact a.2.2
theorem qvV{ps:List qaA}{a:qay}(h:pinsB ps=true)(b:clkN ps ps.length<=1):arcI ps a=arcS ps a:=by
  obtain⟨⟨D,z⟩,l⟩:=qhJ h;rw[jj];unfold arcI arcS;cases h45:((a.Au==4) || (a.Au==5)) with
  |true=>
    have B:(a.Au==1)=false:=by simp at h45⊢;omega
    have u:((a.Au==2) || (a.Au==3))=false:=by simp at h45⊢;omega
    rw[B,u];simp only[cond_true,cond_false,je,qaK,decide_eq_true_eq,beq_iff_eq,jA,beq_eq_false_iff_ne,ne_eq];constructor
    · rintro⟨t,m,s,p,o,r,A⟩
      obtain⟨C,n⟩:=(qo9 b o).1 p.symm;have x:a.Be≠(ps.length:Int)-1:=by intro e;rw[e,l] at n;cases n
      refine⟨⟨⟨o,by omega⟩,⟨r.1,by omega⟩⟩,n,by omega,?_,t,s,m⟩;cases c:clkAt ps a.To with
      |false=>rfl
      |true=>
        have:=(qo9 b r.1).2 ⟨by omega,c⟩;omega
    · rintro⟨⟨p,r⟩,n,y,c,t,s,m⟩
      have:=(qo9 b p.1).2 ⟨by omega,n⟩;refine⟨t,m,s,this.symm,p.1,⟨r.1,by omega⟩,?_⟩;intro e;rw[e,n] at c;cases c
  |false=>
    simp only[cond_false,je,qaK,beq_iff_eq];cases (a.Au==1)
    · cases ((a.Au==2) || (a.Au==3))
      · simp
      · simp only[cond_true,cond_false,je,beq_iff_eq]
        constructor
        · rintro⟨⟨b,d,f,g⟩,i,k⟩
          exact⟨⟨g,by omega⟩,i,f,k,b,d⟩
        · rintro⟨⟨g,v⟩,i,f,k,b,d⟩
          exact⟨⟨b,d,f,g⟩,i,k⟩
    · simp only[cond_true,je,qaK,jA,beq_iff_eq]
      constructor
      · rintro⟨⟨b,d,f,g⟩,i,k⟩
        exact⟨⟨g,by omega⟩,i,f,k,b,d⟩
      · rintro⟨⟨g,v⟩,i,f,k,b,d⟩
        exact⟨⟨b,d,f,g⟩,i,k⟩
theorem qrx{ps:List qaA}{a:qay}(h:arcS ps a=true):1<=a.Au/\a.Au<=5:=by
  unfold arcS at h;rw[je] at h;have h:=h.2;cases h1:(a.Au==1)
  · cases h2:((a.Au==2) || (a.Au==3))
    · cases h4:((a.Au==4) || (a.Au==5))
      · rw[h1,h2,h4] at h;cases h
      · simp at h4;omega
    · simp at h2;omega
  · simp at h1;omega
def sameArc(x y:qay):Bool:=(x.Au==y.Au)&&((x.Be==y.Be)&&(x.To==y.To))
def newArc(ar:List qay)(j:Nat):Bool:=allN (fun i=>!sameArc (gt ar i) (gt ar j)) j
theorem qtp{c:qL}(h:okL qmf c.Ay)(d:okL qma c.Aq)(m:2<=c.Ay.length):Ev (fun n=>qhi n c) (allN (fun j=>arcI c.Ay (gt c.Aq j)&&newArc c.Aq j) c.Aq.length&&decide (c.Aq.length<=8)):=by
  have l:=d.len;have g:∀(ar:List qay) (y:qay),ar.length<=1048576->Ev (fun n=>qaH n ar y) (ar.any fun x=>sameArc x y):=by
    intro ar y l;unfold qaH;refine Ev.bind (b:=ixL (fun x=>sameArc x y) ar) (qfc (fin:=(ar.length:Int)) (Lf:=qX ar y) (pf:=fun n x=>qgb n x y) (fun x _=>?_)
      (fun n=>by simp only[qX,qq (jf _),cond_false])
      (fun n j x f=>by
        have a:=(List.getElem?_eq_some_iff.1 f).1;simp only[qX,qp a,cond_true,qgM f,jd,wS j])
      (fun n=>by unfold qbq;congr 1;funext o;cases o<;>rfl)) (Ev.now (by rw[qmh]))
    unfold qgb sameArc;exact Ev.andP fun _=>Ev.andP fun _=>.done
  have i:Ev (fun n=>qcL c n 0) (bif allN (fun j=>arcI c.Ay (gt c.Aq j)&&newArc c.Aq j) c.Aq.length then .nxt (c.Aq.length:Int) else .ret false):=by
    refine qer ?_ (fun j a X k=>Ev.succ ?_)
    · exact Ev.succ (by simp only[qcL,qq (jf _),cond_false];exact .done)
    · simp only[qcL,qp a,cond_true,qw a,jd,quT (Nat.le_of_lt a),wS j]
      refine Ev.chk (qvF h (qna d a) m) fun _=>Ev.chkT1 ?_ (fun _=>k);refine(g _ _ (by simp;omega)).cast ?_;rw[qvI (Nat.le_of_lt a)];rfl
  unfold qhi;refine Ev.bind i ?_;cases allN (fun j=>arcI c.Ay (gt c.Aq j)&&newArc c.Aq j) c.Aq.length
  · exact .done
  · refine Ev.now ?_
    show V (decide ((c.Aq.length:Int)<=((8:Nat):Int)))=V (true&&decide (c.Aq.length<=8));rw[qld,jy]
def hasB(ar:List qay)(k:Int):Bool:=ar.any fun a=>a.Au==k
theorem qo1{c:qL}{k:Int}(f:c.Aq.length<=1048576):Ev (fun n=>qdR n c k) (hasB c.Aq k):=by
  unfold qdR qbC;exact Ev.last (Ev.bind (b:=ixL (fun x=>x.Au==k) c.Aq) (qfc (fin:=(c.Aq.length:Int)) (Lf:=qaf c.Aq k) (pf:=fun n x=>qj1 n x k) (fun x _=>.done)
      (fun n=>by simp only[qaf,qq (jf _),cond_false])
      (fun n j x a=>by
        have d:=(List.getElem?_eq_some_iff.1 a).1;simp only[qaf,qp d,cond_true,qgM a,jd,wS j])
      (fun n=>by unfold qbU;congr 1;funext o;cases o<;>rfl)) (Ev.now (by rw[qmh];rfl)))
def kindN(ar:List qay)(k:Nat)(j:Nat):Nat:=cntP (fun i=>(gt ar i).Au==(k:Int)) j
theorem qro{ar:List qay}{k:Nat}:decide (((kindN ar k ar.length:Nat):Int) > 0)=hasB ar k:=by
  rw[show decide (((kindN ar k ar.length:Nat):Int) > 0)=decide (0<kindN ar k ar.length) by simp];unfold kindN hasB;rw[qsJ,qtw]
theorem qtQ{ar:List qay}{k:Nat}:(((kindN ar k ar.length:Nat):Int)==0) = !hasB ar k:=by
  rw[<-qro,jj];simp
theorem qta{c:qL}(g:okL qma c.Aq)(h:∀j,j<c.Aq.length->1<=(gt c.Aq j).Au/\(gt c.Aq j).Au<=5):Ev (fun n=>qjD n c) (vecC (fun k=>kindN c.Aq k c.Aq.length) 6):=by
  have o:=g.len;have d:Ev (fun n=>qdA c n (vecC (fun _=>0) 6) 0) (vecC (fun k=>kindN c.Aq k c.Aq.length) 6,(c.Aq.length:Int)):=by
    refine loopF (Lf:=qdA c) (S:=fun j=>vecC (fun k=>kindN c.Aq k j) 6) (len:=c.Aq.length) (fun n=>?_) (fun j a X f=>?_)
    · simp only[qdA,qq (jf _),cond_false]
    · obtain⟨p,r⟩:=h j a
      have b:(gt c.Aq j).Au=(((gt c.Aq j).Au.toNat:Nat):Int):=qdu (by omega);have l:kindN c.Aq (gt c.Aq j).Au.toNat j<=j:=qgE;simp only[qdA,qp a,cond_true,qw a,jd,wS j];rw[b,qkJ (show(gt c.Aq j).Au.toNat<6 by omega)];simp only[jd];rw[qrs (c:=fun k=>kindN c.Aq k j) (by show kindN c.Aq _ j<_;omega)];have:vecC (fun i=>kindN c.Aq i j+(bif decide ((gt c.Aq j).Au.toNat=i) then 1 else 0)) 6=vecC (fun k=>kindN c.Aq k (j+1)) 6:=by
        refine qkG (fun k _=>?_);show _=kindN c.Aq k j+(bif (gt c.Aq j).Au==(k:Int) then 1 else 0)
        congr 2
        rw[jj];simp;omega
      rw[this];exact f
  unfold qjD;rw[show mkS 6 (0:Int)=V (vecC (fun _=>0) 6) from qnw (m:=6) (by omega)];simp only[jd];exact Ev.bind d .done
def kindB(c:qL):Bool:=
  bif c.Au==1 then(((clkN c.Ay c.Ay.length:Nat):Int)==0)&&(((c.Bm.length:Int)==((2 ^ (c.Ay.length-1):Nat):Int))&&(c.Bm.all fun x=>inI x 0 1))
  else bif c.Au==2 then(((clkN c.Ay c.Ay.length:Nat):Int)==1)&&(((c.Bm.length:Int)==0)&&(!hasB c.Aq 1&&!(hasB c.Aq 2==hasB c.Aq 3)))
  else bif c.Au==3 then(((clkN c.Ay c.Ay.length:Nat):Int)==1)&&(((c.Bm.length:Int)==0)&&(hasB c.Aq 1&&(hasB c.Aq 2&&!hasB c.Aq 3)))
  else false
theorem qrp{c:qL}(h:kindB c=true):clkN c.Ay c.Ay.length<=1:=by
  unfold kindB at h;cases h1:(c.Au==1)
  · cases h2:(c.Au==2)
    · cases h3:(c.Au==3)
      · rw[h1,h2,h3] at h;cases h
      · rw[h1,h2,h3] at h
        simp only[cond_true,cond_false,je,beq_iff_eq] at h;omega
    · rw[h1,h2] at h
      simp only[cond_true,cond_false,je,beq_iff_eq] at h;omega
  · rw[h1] at h
    simp only[cond_true,je,beq_iff_eq] at h;omega
theorem qsN{m:Nat}(a:2<=m)(b:m<=5):shlS 1 (W64 ((m:Int)-1))=V ((2 ^ (m-1):Nat):Int)/\shlS 1 (IntKind.wrap .u64 (W64 ((m:Int)-1)))=V ((2 ^ (m-1):Nat):Int):=by
  have:m=2\/m=3\/m=4\/m=5:=by omega
  rcases this with rfl|rfl|rfl|rfl<;>exact⟨by decide,by decide⟩
theorem qsU{c:qL}(b:qnK c)(k:2<=c.Ay.length)(g:c.Ay.length<=5):Ev (fun n=>qgD n c) (kindB c):=by
  have l:=b.Ay.len;have i:Ev (fun n=>qbr c n 0 0) (((clkN c.Ay c.Ay.length:Nat):Int),(c.Ay.length:Int)):=by
    refine loopF (Lf:=qbr c) (S:=fun j=>((clkN c.Ay j:Nat):Int)) (len:=c.Ay.length) (fun n=>?_) (fun j h X d=>?_)
    · simp only[qbr,qq (jf _),cond_false]
    · have m:clkN c.Ay j<=j:=qgE
      simp only[qbr,qp h,cond_true,qw h,jd,wS j,qih (show clkN c.Ay j<9223372036854775807 by omega)];have f:clkN c.Ay (j+1)=clkN c.Ay j+(bif (gt c.Ay j).Bn then 1 else 0):=rfl;rw[f] at d;cases b:(gt c.Ay j).Bn
      · rw[b] at d;exact Ev.ff Z d
      · rw[b] at d;exact Ev.tt Z d
  unfold qgD kindB;refine Ev.bind i ?_;simp only[qe4,qcK,jd,(qsN k g).1];have a:=b.Aq.len;refine Ev.iff (fun _=>?_) (fun _=>Ev.iff (fun _=>?_) (fun _=>Ev.iff (fun _=>?_) (fun _=>.done)))
  · exact Ev.andP fun _=>Ev.andP fun _=>Ev.last (qeD b.Bm.len)
  · exact Ev.andP fun _=>Ev.andP fun _=>Ev.bind (qo1 a) (Ev.andP fun _=>Ev.bind (qo1 a) (Ev.bind (qo1 a) .done))
  · exact Ev.andP fun _=>Ev.andP fun _=>Ev.and (qo1 a) fun _=>Ev.and (qo1 a) fun _=>Ev.bind (qo1 a) .done
def cellB(c:qL):Bool:=
  nameB c.Az&&(pinsB c.Ay&&((allN (fun j=>arcI c.Ay (gt c.Aq j)&&newArc c.Aq j) c.Aq.length&&decide (c.Aq.length<=8))&&(inI c.Bx 0 100000&&(inI c.Bt 0 100000&&kindB c))))
theorem qu6{c:qL}(a:qnK c):Ev (fun n=>qk5 n c) (cellB c):=by
  simp only[qk5,qoU a.Az,qdE,jd];unfold cellB;refine Ev.andP fun _=>Ev.and (qtk a.Ay) fun f=>?_;obtain⟨⟨d,b⟩,_⟩:=qhJ f;exact Ev.and (qtp a.Ay a.Aq d) fun _=>Ev.andP fun _=>Ev.andP fun _=>Ev.last (qsU a d b)
theorem qtE{c:qL}(d:qnK c):Ev (fun n=>qlp n c) (cellB c):=by
  have p:=d.Aq.len;have r:=d.Bm.len;have e:cellB c=((pinsB c.Ay&&(nameB c.Az&&(decide (c.Aq.length<=8)&&(inI c.Bx 0 100000&&inI c.Bt 0 100000))))&&(allN (fun j=>arcS c.Ay (gt c.Aq j)&&newArc c.Aq j) c.Aq.length&&kindB c)):=by
    unfold cellB;cases l:kindB c
    · simp
    · cases hp:pinsB c.Ay
      · simp
      · rw[qiG (fun j _=>by rw[qvV hp (qrp l)])]
        cases nameB c.Az<;>cases allN (fun j=>arcS c.Ay (gt c.Aq j)&&newArc c.Aq j) c.Aq.length<;>cases decide (c.Aq.length<=8)<;>cases inI c.Bx 0 100000<;>cases inI c.Bt 0 100000<;>rfl
  rw[e];unfold qlp;refine Ev.bind (qtK d.Ay) ?_;cases hp:pinsB c.Ay
  · exact .done
  · obtain⟨⟨o,m⟩,_⟩:=qhJ hp
    simp only[cond_true,jy,Jj,cond_false];refine Ev.guardB ?_ (fun _=>?_)
    · simp only[qc1,jd,qb6]
      refine Ev.orB (qmd d.Az) fun _=>?_;rw[show decide ((c.Aq.length:Int) > 8) = !decide (c.Aq.length<=8) by rw[jj];simp;omega,qb6];exact Ev.orBP fun _=>Ev.orBP fun _=>.done
    · have g:∀j,j<c.Aq.length->Ev (fun n=>qd5 c (j:Int) (gt c.Aq j) n 0) (bif newArc c.Aq j then .nxt (j:Int) else .ret false):=by
        intro j a;refine qer ?_ (fun i hi X b=>Ev.succ ?_)
        · exact Ev.succ (by simp only[qd5,qq (jf _),cond_false];exact .done)
        · simp only[qd5,qp hi,cond_true,qw (show i<c.Aq.length by omega),jd,wS i]
          unfold sameArc;cases ((gt c.Aq i).Au==(gt c.Aq j).Au)
          · exact b
          · cases ((gt c.Aq i).Be==(gt c.Aq j).Be)
            · exact b
            · cases ((gt c.Aq i).To==(gt c.Aq j).To)
              · exact b
              · exact .done
      have f:Ev (fun n=>qgt c n 0) (bif allN (fun j=>arcS c.Ay (gt c.Aq j)&&newArc c.Aq j) c.Aq.length then .nxt (c.Aq.length:Int) else .ret false):=by
        refine qer ?_ (fun j a X b=>Ev.succ ?_)
        · exact Ev.succ (by simp only[qgt,qq (jf _),cond_false];exact .done)
        · simp only[qgt,qp a,cond_true,qw a,jd,wS j]
          refine Ev.chk (qvi d.Ay (qna d.Aq a) o) fun _=>Ev.bind (g j a) ?_;cases newArc c.Aq j
          · exact .done
          · exact b
      have h:Ev (fun n=>qgv c n 0) (bif (c.Bm.all fun x=>inI x 0 1) then .nxt (c.Bm.length:Int) else .ret false):=
        qov (fun n=>by simp only[qgv,qq (jf _),cond_false]) (fun j a X b=>by
          simp only[qgv,qp a,cond_true,qa4 a,jd,qc1,wS j,qb6];exact Ev.okP1 fun _=>b)
      refine Ev.bind f ?_;cases hA:allN (fun j=>arcS c.Ay (gt c.Aq j)&&newArc c.Aq j) c.Aq.length
      · exact .done
      · have l:∀j,j<c.Aq.length->1<=(gt c.Aq j).Au/\(gt c.Aq j).Au<=5:=fun j a=>by
          have:=qai.1 hA j a;rw[je] at this;exact qrx this.1
        simp only[cond_true,jy];refine Ev.bind (qta d.Aq l) ?_;simp only[(qsN o m).2,jd,
          show idx (vecC (fun k=>kindN c.Aq k c.Aq.length) 6) (1:Int)=V ((kindN c.Aq 1 c.Aq.length:Nat):Int) from qkJ (k:=1) (by omega),
          show idx (vecC (fun k=>kindN c.Aq k c.Aq.length) 6) (2:Int)=V ((kindN c.Aq 2 c.Aq.length:Nat):Int) from qkJ (k:=2) (by omega),
          show idx (vecC (fun k=>kindN c.Aq k c.Aq.length) 6) (3:Int)=V ((kindN c.Aq 3 c.Aq.length:Nat):Int) from qkJ (k:=3) (by omega),qro,qtQ]
        unfold kindB;refine Ev.iff (fun _=>?_) (fun _=>Ev.iff (fun _=>?_) (fun _=>Ev.iff (fun _=>?_) (fun _=>.done)))
        · refine Ev.bind h ?_
          cases (c.Bm.all fun x=>inI x 0 1)
          · exact Ev.now (by simp)
          · exact(Ev.andP (fun _=>.done)).cast (by rw[Bool.and_true])
        · refine(Ev.andP fun _=>Ev.andP fun _=>Ev.andP fun _=>.done).cast ?_
          cases (((clkN c.Ay c.Ay.length:Nat):Int)==1)<;>cases ((c.Bm.length:Int)==0)<;>cases hasB c.Aq ((1:Nat):Int)<;>cases hasB c.Aq ((2:Nat):Int)<;>cases hasB c.Aq ((3:Nat):Int)<;>rfl
        · refine(Ev.andP fun _=>Ev.andP fun _=>Ev.andP fun _=>Ev.andP fun _=>.done).cast ?_
          cases (((clkN c.Ay c.Ay.length:Nat):Int)==1)<;>cases ((c.Bm.length:Int)==0)<;>cases hasB c.Aq ((1:Nat):Int)<;>cases hasB c.Aq ((2:Nat):Int)<;>cases hasB c.Aq ((3:Nat):Int)<;>rfl
def libB(l:qE):Bool:=l.Ap.all cellB&&(decide (l.Ap.length<=8)&&namesB (l.Ap.map qL.Az))
theorem qsm{l:qE}(h:qhv l):Ev (fun n=>qjl n l) (libB l):=by
  have d:=h.Ap.len;have b:Ev (fun n=>qdb l n ([]:List ByteArray) 0) (bif allN (fun j=>cellB (gt l.Ap j)) l.Ap.length then .nxt (l.Ap.map qL.Az,(l.Ap.length:Int)) else .ret false):=by
    refine loopN (Lf:=qdb l) (S:=fun j=>(l.Ap.take j).map qL.Az) (fun j=>cellB (gt l.Ap j)) (fun n=>?_) (fun j a i X c=>?_)
    · simp only[qdb,qq (jf _),cond_false,jG]
    · simp only[qdb,qp a,cond_true,qw a,jd,qlK a d,qgH (g:=qL.Az) a,wS j]
      exact Ev.chk1 (qu6 (qna h.Ap a)) c
  unfold qjl libB;rw[qjc];refine Ev.bind b ?_;cases allN (fun j=>cellB (gt l.Ap j)) l.Ap.length
  · exact .done
  · simp only[cond_true,jy,show decide ((l.Ap.length:Int)<=8)=decide (l.Ap.length<=8) from qld (k:=8)]
    exact Ev.andP fun _=>Ev.last (qjX (qny h.Ap (fun x f=>f.Az)))

theorem qtn{c:qL}(h:cellB c=true):nameB c.Az=true:=by
 unfold cellB at h;rw[je] at h;exact h.1
theorem qjx{c:qL}(h:cellB c=true):pinsB c.Ay=true:=by
 unfold cellB at h;simp only[je] at h;exact h.2.1
theorem qq0{l:qE}(h:qhv l):Ev (fun n=>qi1 n l) (libB l):=by
 have f:=h.Ap.len;have c:∀j,j<l.Ap.length->Ev (fun n=>qd6 l (j:Int) n 0) (bif allN (neB (l.Ap.map qL.Az) j) j then .nxt (j:Int) else .ret false):=by
  intro j a;refine qer ?_ (fun i hi X d=>Ev.succ ?_)
  ·exact Ev.succ (by simp only[qd6,qq (jf _),cond_false];exact .done)
  ·simp only[qd6,qp hi,cond_true,qw (show i<l.Ap.length by omega),qw a,jd,qil,wS i];unfold neB;rw[qkw (g:=qL.Az) (show i<l.Ap.length by omega),qkw (g:=qL.Az) a];exact Ev.chkP1 (fun _=>d)
 have b:Ev (fun n=>qd9 l n 0) (bif allN (fun j=>cellB (gt l.Ap j)&&allN (neB (l.Ap.map qL.Az) j) j) l.Ap.length then .nxt (l.Ap.length:Int) else .ret false):=by
  refine qer ?_ (fun j a X d=>Ev.succ ?_)
  ·exact Ev.succ (by simp only[qd9,qq (jf _),cond_false];exact .done)
  ·simp only[qd9,qp a,cond_true,qw a,jd,wS j];refine Ev.chk (qtE (qna h.Ap a)) fun _=>Ev.bind (c j a) ?_;cases allN (neB (l.Ap.map qL.Az) j) j
   ·exact .done
   ·exact d
 have e:libB l=(allN (fun j=>cellB (gt l.Ap j)&&allN (neB (l.Ap.map qL.Az) j) j) l.Ap.length&&decide (l.Ap.length<=8)):=by
  unfold libB namesB;rw[qjc,jt,Bool.and_comm (decide (l.Ap.length<=8)),<-Bool.and_assoc,<-qlF]
  congr 1
  refine qiG (fun j a=>?_);rw[qkw (g:=qL.Az) a];cases hc:cellB (gt l.Ap j)
  ·rfl
  ·rw[qtn hc];rfl
 rw[e];unfold qi1;refine Ev.bind b ?_;cases allN (fun j=>cellB (gt l.Ap j)&&allN (neB (l.Ap.map qL.Az) j) j) l.Ap.length
 ·exact .done
 ·refine Ev.now ?_;show V (decide ((l.Ap.length:Int)<=((8:Nat):Int)))=V (true&&decide (l.Ap.length<=8));rw[qld,jy]
theorem qlZ{c c':Nat->Nat}{m:Nat}{x:Int}(a:0<=x)(g:x<m)(b:c x.toNat<9223372036854775807)(d:∀k,k<m->c' k=c k+(bif x==(k:Int) then 1 else 0)) :
  idx (vecC c m) x=V (c x.toNat:Int)/\setS (vecC c m) x (W64 ((c x.toNat:Int)+1))=vecC c' m:=by
 have ex:x=(x.toNat:Int):=qdu a;have e1:=qkJ (c:=c) (m:=m) (k:=x.toNat) (by omega);have e2:=qrs (c:=c) (m:=m) (k:=x.toNat) b;rw[<-ex] at e1 e2;refine⟨e1,e2.trans (qkG (fun k f=>?_))⟩;rw[d k f]
 congr 2
 rw[jj];simp;omega
def netB(d:qj)(x:Int):Bool:=inI x 0 ((d.Ah.length:Int)-1)
theorem qqx{n:Nat}{d:qj}{x:Int}(a:d.Ah.length<=1048576):qcv n d x=V (netB d x):=by
 simp only[qcv,qiB,jd,qdE,qd0 (show d.Ah.length<=9223372036854775807 by omega)];rfl
theorem qoZ{n:Nat}{d:qj}{x:Int}(a:d.Ah.length<=1048576):qaw n x 0 (W64 ((d.Ah.length:Int)-1))=V (netB d x):=by
 rw[qc1,qd0 (show d.Ah.length<=9223372036854775807 by omega)];rfl
def hasNamesB(d:qj):Bool:=(decide (d.Ab.length<=14)&&(decide (d.Ah.length<=30)&&decide (d.Ai.length<=8)))&&(namesB (d.Ab.map qI.Az)&&(namesB d.Ah&&namesB (d.Ai.map qaz.Az)))
theorem qsv{d:qj}(h:qkq d):Ev (fun n=>qfR n d) (hasNamesB d):=by
 have i:=h.Ab.len;have l:=h.Ai.len;have b:Ev (fun n=>qbu d n ([]:List ByteArray) 0) (d.Ab.map qI.Az,(d.Ab.length:Int)):=by
  refine loopF (Lf:=qbu d) (S:=fun j=>(d.Ab.take j).map qI.Az) (len:=d.Ab.length) (fun n=>?_) (fun j a X f=>?_)
  ·simp only[qbu,qq (jf _),cond_false,jG]
  ·simpa only[qbu,qp a,cond_true,qw a,jd,qlK a i,qgH (g:=qI.Az) a,wS j] using f
 have c:Ev (fun n=>qbG d n ([]:List ByteArray) 0) (d.Ai.map qaz.Az,(d.Ai.length:Int)):=by
  refine loopF (Lf:=qbG d) (S:=fun j=>(d.Ai.take j).map qaz.Az) (len:=d.Ai.length) (fun n=>?_) (fun j a X f=>?_)
  ·simp only[qbG,qq (jf _),cond_false,jG]
  ·simpa only[qbG,qp a,cond_true,qw a,jd,qlK a l,qgH (g:=qaz.Az) a,wS j] using f
 unfold qfR hasNamesB;refine Ev.bind b (Ev.bind c ?_);simp only[jt];rw[show decide ((d.Ab.length:Int)<=14)=decide (d.Ab.length<=14) from qld (k:=14),show decide ((d.Ah.length:Int)<=30)=decide (d.Ah.length<=30) from qld (k:=30),show decide ((d.Ai.length:Int)<=8)=decide (d.Ai.length<=8) from qld (k:=8)];rw[Bool.and_assoc,Bool.and_assoc];exact Ev.andP fun _=>Ev.andP fun _=>Ev.andP fun _=>Ev.and (qjX (qny h.Ab (fun x m=>m.Az))) fun _=>Ev.and (qjX h.Ah) fun _=>Ev.last (qjX (qny h.Ai (fun x m=>m.Az)))
def instB(l:qE)(d:qj)(x:qI):Bool:=inI x.Bq 0 ((l.Ap.length:Int)-1)&&(((x.Ah.length:Int)==((gt l.Ap x.Bq.toNat).Ay.length:Int))&&x.Ah.all (netB d))
theorem qq3{d:qj}{l:qE}{x:qI}(g:d.Ah.length<=1048576)(h:l.Ap.length<=1048576)(a:x.Ah.length<=1048576):Ev (fun n=>qeK n d l x) (instB l d x):=by
 simp only[qeK,qg6,jd,qdE,qd0 (show l.Ap.length<=9223372036854775807 by omega)];unfold instB;refine Ev.andP fun c=>?_;rw[qaK] at c;rw[qf1 c.1 (by omega)];simp only[jd];refine Ev.andP fun _=>Ev.bind (b:=x.Ah.any fun y=>!netB d y) ?_ (Ev.now (by rw[qoj]));unfold qa5;exact Ev.bind (b:=ixL (fun y=>!netB d y) x.Ah) (qfc (fin:=(x.Ah.length:Int)) (Lf:=qU x.Ah d) (pf:=fun n y=>qdT n y d) (fun y _=>⟨0,fun n _=>by simp only[qdT,qqx g,jd]⟩)
   (fun n=>by simp only[qU,qq (jf _),cond_false])
   (fun n j y a=>by
    have f:=(List.getElem?_eq_some_iff.1 a).1;simp only[qU,qp f,cond_true,qgM a,jd,wS j])
   (fun n=>by unfold qbi;congr 1;funext o;cases o<;>rfl)) (Ev.now (by rw[qmh]))
def portB(d:qj)(p:qaz):Bool:=inI p.Bs 1 2&&netB d p.Bw
theorem qya{x:Int}:inI x 1 2=((x==1) || (x==2)):=by
 unfold inI;rw[jj];simp;omega
def lastN(x:qI):Int:=at0 x.Ah (x.Ah.length-1)
theorem qsK{x:qI}(a:1<=x.Ah.length)(b:x.Ah.length<=1048576):idx x.Ah (W64 ((x.Ah.length:Int)-1))=V (lastN x):=by
 rw[qd0 (by omega),show((x.Ah.length:Int)-1)=((x.Ah.length-1:Nat):Int) by omega,qar (by omega)];rfl
theorem qvd{d:qj}{x:qI}(a:1<=x.Ah.length)(h:x.Ah.all (netB d)=true):0<=lastN x/\lastN x<d.Ah.length:=by
 rw[qhE (d:=0),qai] at h;have:=h (x.Ah.length-1) (by omega);unfold netB at this;rw[qaK] at this;unfold lastN at0;omega
theorem qqh{l:qE}{d:qj}{x:qI}(a:libB l=true)(h:instB l d x=true):1<=x.Ah.length/\0<=lastN x/\lastN x<d.Ah.length:=by
 unfold instB at h;simp only[je,qaK,beq_iff_eq] at h;obtain⟨g,i,f⟩:=h;unfold libB at a;simp only[je] at a;have c:=a.1;rw[qjc,qai] at c;have:=qhJ (qjx (c x.Bq.toNat (by omega)));have b:1<=x.Ah.length:=by omega
 exact⟨b,qvd b f⟩
def drvI(d:qj)(k j:Nat):Nat:=cntP (fun i=>lastN (gt d.Ab i)==(k:Int)) j
def drvP(d:qj)(k j:Nat):Nat:=cntP (fun i=>((gt d.Ai i).Bs==1)&&((gt d.Ai i).Bw==(k:Int))) j
def drvB(d:qj):Bool:=allN (fun k=>((drvI d k d.Ab.length+drvP d k d.Ai.length:Nat):Int)==1) d.Ah.length
def designB(l:qE)(d:qj):Bool:=(libB l&&hasNamesB d)&&(d.Ab.all (instB l d)&&(d.Ai.all (portB d)&&drvB d))
theorem qo5{d:qj}{k j:Nat}:drvI d k (j+1)=drvI d k j+(bif lastN (gt d.Ab j)==(k:Int) then 1 else 0):=rfl
theorem qnB{d:qj}{k j:Nat}:drvP d k (j+1)=drvP d k j+(bif ((gt d.Ai j).Bs==1)&&((gt d.Ai j).Bw==(k:Int)) then 1 else 0):=rfl
theorem qsX{l:qE}{d:qj}(h:qhv l)(g:qkq d):Ev (fun n=>qjI n l d) (designB l d):=by
 have H:=g.Ab.len;have I:=g.Ai.len;have i:=g.Ah.len;have u:=h.Ap.len;unfold qjI designB;refine Ev.guardB (Ev.or (qsm h) fun _=>Ev.neg (qsv g)) fun v=>?_;rw[je] at v;rw[qnw (m:=d.Ah.length) (by omega)];simp only[jd];have s:Ev (fun n=>qdO l d n (vecC (fun _=>0) d.Ah.length) 0) (bif allN (fun j=>instB l d (gt d.Ab j)) d.Ab.length then .nxt (vecC (fun k=>drvI d k d.Ab.length) d.Ah.length,(d.Ab.length:Int)) else .ret false):=by
  refine loopN (Lf:=qdO l d) (S:=fun j=>vecC (fun k=>drvI d k j) d.Ah.length) (fun j=>instB l d (gt d.Ab j)) (fun n=>?_) (fun j a J X f=>?_)
  ·simp only[qdO,qq (jf _),cond_false]
  ·simp only[qdO,qp a,cond_true,qw a,jd,wS j];have p:=(qna g.Ab a).Ah.len;refine Ev.chk1 (qq3 i u p) fun hi=>?_;obtain⟨r,A,B⟩:=qqh v.1 hi;have K:drvI d (lastN (gt d.Ab j)).toNat j<=j:=qgE;obtain⟨e1,e2⟩:=qlZ (c:=fun k=>drvI d k j) (c':=fun k=>drvI d k (j+1)) A B (by show drvI _ _ _<_;omega) (fun k _=>qo5);simp only[qsK r p,jd,e1,e2];exact f hi
 have t:Ev (fun n=>qcU d n (vecC (fun k=>drvI d k d.Ab.length) d.Ah.length) 0) (bif allN (fun j=>portB d (gt d.Ai j)) d.Ai.length then .nxt (vecC (fun k=>drvI d k d.Ab.length+drvP d k d.Ai.length) d.Ah.length,(d.Ai.length:Int)) else .ret false):=by
  refine loopN (Lf:=qcU d) (S:=fun j=>vecC (fun k=>drvI d k d.Ab.length+drvP d k j) d.Ah.length) (fun j=>portB d (gt d.Ai j)) (fun n=>?_) (fun j a J X f=>?_)
  ·simp only[qcU,qq (jf _),cond_false]
  ·simp only[qcU,qp a,cond_true,qw a,jd,qqx i,bne,wS j];refine Ev.chkT1 ?_ fun hi=>?_
   ·unfold portB;rw[qya];cases ((gt d.Ai j).Bs==1)<;>cases ((gt d.Ai j).Bs==2)<;>exact .done
   ·have f:=f hi;unfold portB netB at hi;simp only[je,qaK] at hi;have C:drvI d (gt d.Ai j).Bw.toNat d.Ab.length<=d.Ab.length:=qgE;have D:drvP d (gt d.Ai j).Bw.toNat j<=j:=qgE;cases r:((gt d.Ai j).Bs==1)
    ·have:vecC (fun k=>drvI d k d.Ab.length+drvP d k (j+1)) d.Ah.length=vecC (fun k=>drvI d k d.Ab.length+drvP d k j) d.Ah.length:=by
      refine qkG (fun k _=>?_);rw[qnB,r];rfl
     rw[this] at f;exact f
    ·obtain⟨e1,e2⟩:=qlZ (c:=fun k=>drvI d k d.Ab.length+drvP d k j) (c':=fun k=>drvI d k d.Ab.length+drvP d k (j+1)) (x:=(gt d.Ai j).Bw) (m:=d.Ah.length) hi.2.1 (by omega) (by show drvI _ _ _+drvP _ _ _<_;omega) (fun k _=>by rw[qnB,r,jy];omega);simp only[cond_true,jd,e1,e2];exact f
 rw[qjc,qjc];refine Ev.bind s ?_;cases allN (fun j=>instB l d (gt d.Ab j)) d.Ab.length
 ·exact .done
 ·refine Ev.bind t ?_;cases allN (fun j=>portB d (gt d.Ai j)) d.Ai.length
  ·exact .done
  ·simp only[cond_true,jy];unfold qb5;refine Ev.bind (b:=(vecC (fun k=>drvI d k d.Ab.length+drvP d k d.Ai.length) d.Ah.length).any fun x=>!(x==1)) (Ev.bind (b:=ixL (fun x=>!(x==1)) (vecC (fun k=>drvI d k d.Ab.length+drvP d k d.Ai.length) d.Ah.length)) (qfc (fin:=(((vecC (fun k=>drvI d k d.Ab.length+drvP d k d.Ai.length) d.Ah.length).length:Nat):Int)) (Lf:=qaq (vecC (fun k=>drvI d k d.Ab.length+drvP d k d.Ai.length) d.Ah.length)) (pf:=fun n y=>qj0 n y) (fun y _=>.done)
    (fun n=>by simp only[qaq,qq (jf _),cond_false])
    (fun n j y z=>by
     have a:=(List.getElem?_eq_some_iff.1 z).1;have:j<d.Ah.length:=by rw[qm1] at a;exact a
     simp only[qaq,qp a,cond_true,qgM z,jd,wS j])
    (fun n=>by unfold qcq;congr 1;funext o;cases o<;>rfl)) (Ev.now (by rw[qmh]))) (Ev.now ?_)
   rw[qoj,qhE (d:=0),qm1];unfold drvB
   congr 1
   exact qiG (fun k F=>by
    have:=qsB (c:=fun k=>drvI d k d.Ab.length+drvP d k d.Ai.length) F;unfold at0 at this;rw[this])
theorem qs6{l:qE}{d:qj}(h:qhv l)(f:qkq d):Ev (fun n=>qjC n l d) (d.Ab.all (instB l d)&&d.Ai.all (portB d)):=by
 have r:=f.Ab.len;have s:=f.Ai.len;have c:=f.Ah.len;have p:=h.Ap.len;have i:∀x:qI,x.Ah.length<=1048576->Ev (fun n=>qeS d x n 0) (bif x.Ah.all (netB d) then .nxt (x.Ah.length:Int) else .ret false):=fun x t=>
  qov (fun n=>by simp only[qeS,qq (jf _),cond_false]) (fun j a X b=>by
   simp only[qeS,qp a,cond_true,qa4 a,jd,qoZ c,wS j,qb6];exact Ev.okP1 fun _=>b)
 have g:Ev (fun n=>qeT l d n 0) (bif allN (fun j=>instB l d (gt d.Ab j)) d.Ab.length then .nxt (d.Ab.length:Int) else .ret false):=by
  refine qer ?_ (fun j a X b=>Ev.succ ?_)
  ·exact Ev.succ (by simp only[qeT,qq (jf _),cond_false];exact .done)
  ·simp only[qeT,qp a,cond_true,qw a,jd,qc1,qd0 (show l.Ap.length<=9223372036854775807 by omega),wS j,bne];have m:=(qna f.Ab a).Ah.len;unfold instB;rw[<-Bool.and_assoc];refine Ev.chkT ?_ fun _=>Ev.bind (i _ m) ?_
   ·simp only[qb6];refine Ev.orBP fun o=>?_;rw[qaK] at o;rw[qf1 o.1 (by omega)];exact .done
   ·cases (gt d.Ab j).Ah.all (netB d)
    ·exact .done
    ·exact b
 have k:Ev (fun n=>qeR d n 0) (bif allN (fun j=>portB d (gt d.Ai j)) d.Ai.length then .nxt (d.Ai.length:Int) else .ret false):=by
  refine qer ?_ (fun j a X b=>Ev.succ ?_)
  ·exact Ev.succ (by simp only[qeR,qq (jf _),cond_false];exact .done)
  ·simp only[qeR,qp a,cond_true,qw a,jd,qoZ c,wS j];simp only[qc1,jd,qb6];unfold portB;exact Ev.okP fun _=>Ev.okP1 fun _=>b
 unfold qjC;rw[qjc,qjc];refine Ev.bind g ?_;cases allN (fun j=>instB l d (gt d.Ab j)) d.Ab.length
 ·exact .done
 ·refine Ev.bind k ?_;cases allN (fun j=>portB d (gt d.Ai j)) d.Ai.length<;>exact .done
theorem qrY{l:qE}{d:qj}(h:qhv l)(i:qkq d):Ev (fun n=>qjJ n l d) (designB l d):=by
 have I:=i.Ab.len;have J:=i.Ai.len;have T:=i.Ah.len;have R:=h.Ap.len;have e:designB l d=((libB l&&(decide (d.Ab.length<=14)&&(decide (d.Ah.length<=30)&&(decide (d.Ai.length<=8)&&(d.Ab.all (instB l d)&&d.Ai.all (portB d))))))&&((namesB (d.Ab.map qI.Az)&&(namesB (d.Ai.map qaz.Az)&&namesB d.Ah))&&drvB d)):=by
  unfold designB hasNamesB;generalize libB l=a1;generalize decide (d.Ab.length<=14)=a2;generalize decide (d.Ah.length<=30)=a3;generalize decide (d.Ai.length<=8)=a4;generalize d.Ab.all (instB l d)=a5;generalize d.Ai.all (portB d)=a6;generalize namesB (d.Ab.map qI.Az)=a7;generalize namesB (d.Ai.map qaz.Az)=a8;generalize namesB d.Ah=a9;generalize drvB d=a10;rw[jj];simp only[je];constructor
  ·rintro⟨⟨f,⟨p,r,t⟩,y,A,z⟩,u,v,o⟩;exact⟨⟨f,p,r,t,u,v⟩,⟨y,z,A⟩,o⟩
  ·rintro⟨⟨f,p,r,t,u,v⟩,⟨y,z,A⟩,o⟩;exact⟨⟨f,⟨p,r,t⟩,y,A,z⟩,u,v,o⟩
 rw[e];unfold qjJ;refine Ev.guardB ?_ fun O=>?_
 ·refine Ev.or (qq0 h) fun _=>?_;rw[show decide ((d.Ab.length:Int) > 14) = !decide (d.Ab.length<=14) by rw[jj];simp;omega,show decide ((d.Ah.length:Int) > 30) = !decide (d.Ah.length<=30) by rw[jj];simp;omega,show decide ((d.Ai.length:Int) > 8) = !decide (d.Ai.length<=8) by rw[jj];simp;omega];simp only[qb6];exact Ev.orBP fun _=>Ev.orBP fun _=>Ev.orBP fun _=>Ev.neg (qs6 h i)
 ·simp only[je] at O;obtain⟨s,_,_,_,M,N⟩:=O;rw[qjc,qai] at M N;have B:Ev (fun n=>qdD d n ([]:List ByteArray) 0) (d.Ab.map qI.Az,(d.Ab.length:Int)):=by
   refine loopF (Lf:=qdD d) (S:=fun j=>(d.Ab.take j).map qI.Az) (len:=d.Ab.length) (fun n=>?_) (fun j a X b=>?_)
   ·simp only[qdD,qq (jf _),cond_false,jG]
   ·simpa only[qdD,qp a,cond_true,qw a,jd,qlK a I,qgH (g:=qI.Az) a,wS j] using b
  have C:Ev (fun n=>qdH d n ([]:List ByteArray) 0) (d.Ai.map qaz.Az,(d.Ai.length:Int)):=by
   refine loopF (Lf:=qdH d) (S:=fun j=>(d.Ai.take j).map qaz.Az) (len:=d.Ai.length) (fun n=>?_) (fun j a X b=>?_)
   ·simp only[qdH,qq (jf _),cond_false,jG]
   ·simpa only[qdH,qp a,cond_true,qw a,jd,qlK a J,qgH (g:=qaz.Az) a,wS j] using b
  have D:Ev (fun n=>qdJ d n (vecC (fun _=>0) d.Ah.length) 0) (vecC (fun k=>drvI d k d.Ab.length) d.Ah.length,(d.Ab.length:Int)):=by
   refine loopF (Lf:=qdJ d) (S:=fun j=>vecC (fun k=>drvI d k j) d.Ah.length) (len:=d.Ab.length) (fun n=>?_) (fun j a X b=>?_)
   ·simp only[qdJ,qq (jf _),cond_false]
   ·have L:=(qna i.Ab a).Ah.len;obtain⟨f,p,r⟩:=qqh s (M j a);have W:drvI d (lastN (gt d.Ab j)).toNat j<=j:=qgE;obtain⟨e1,e2⟩:=qlZ (c:=fun k=>drvI d k j) (c':=fun k=>drvI d k (j+1)) p r (by show drvI _ _ _<_;omega) (fun k _=>qo5);simpa only[qdJ,qp a,cond_true,qw a,jd,wS j,qsK f L,e1,e2] using b
  have F:Ev (fun n=>qcM d n (vecC (fun k=>drvI d k d.Ab.length) d.Ah.length) 0) (vecC (fun k=>drvI d k d.Ab.length+drvP d k d.Ai.length) d.Ah.length,(d.Ai.length:Int)):=by
   refine loopF (Lf:=qcM d) (S:=fun j=>vecC (fun k=>drvI d k d.Ab.length+drvP d k j) d.Ah.length) (len:=d.Ai.length) (fun n=>?_) (fun j a X b=>?_)
   ·simp only[qcM,qq (jf _),cond_false]
   ·have hi:=N j a;unfold portB netB at hi;simp only[je,qaK] at hi;have P:drvI d (gt d.Ai j).Bw.toNat d.Ab.length<=d.Ab.length:=qgE;have Q:drvP d (gt d.Ai j).Bw.toNat j<=j:=qgE;simp only[qcM,qp a,cond_true,qw a,jd,wS j];cases f:((gt d.Ai j).Bs==1)
    ·have:vecC (fun k=>drvI d k d.Ab.length+drvP d k (j+1)) d.Ah.length=vecC (fun k=>drvI d k d.Ab.length+drvP d k j) d.Ah.length:=by
      refine qkG (fun k _=>?_);rw[qnB,f];rfl
     rw[this] at b;exact b
    ·obtain⟨e1,e2⟩:=qlZ (c:=fun k=>drvI d k d.Ab.length+drvP d k j) (c':=fun k=>drvI d k d.Ab.length+drvP d k (j+1)) (x:=(gt d.Ai j).Bw) (m:=d.Ah.length) hi.2.1 (by omega) (by show drvI _ _ _+drvP _ _ _<_;omega) (fun k _=>by rw[qnB,f,jy];omega);simp only[cond_true,jd,e1,e2];exact b
  have H:Ev (fun n=>qe0 (vecC (fun _=>0) d.Ah.length) (vecC (fun k=>drvI d k d.Ab.length+drvP d k d.Ai.length) d.Ah.length) n 0) (bif drvB d then .nxt (d.Ah.length:Int) else .ret false):=by
   refine qer ?_ (fun j a X b=>Ev.succ ?_)
   ·exact Ev.succ (by simp only[qe0,qm1,qq (jf _),cond_false];exact .done)
   ·simp only[qe0,qm1,qp a,cond_true,qkJ a,jd,bne,qb6,wS j];exact Ev.okP1 fun _=>b
  refine Ev.bind B (Ev.bind C ?_);refine Ev.guardB (Ev.or (qnq (qny i.Ab (fun x K=>K.Az))) fun _=>Ev.or (qnq (qny i.Ai (fun x K=>K.Az))) fun _=>Ev.neg (qnq i.Ah)) fun _=>?_;rw[qnw (m:=d.Ah.length) (by omega)];simp only[jd];refine Ev.bind D (Ev.bind F (Ev.bind H ?_));cases drvB d<;>exact .done

theorem qxl{m k:Nat}:decide ((m:Int)<(k:Int)) = !decide (k<=m):=by rw[jj];simp
theorem qxi{m k:Nat}:decide ((m:Int) > (k:Int)) = !decide (m<=k):=by rw[jj];simp
def treeB(w:qah)(j:Nat):Bool:=bif decide (j=0) then(at0 w.Aj j==-1)&&(at0 w.Br j==0) else inI (at0 w.Aj j) 0 ((j:Int)-1)
def wireB(w:qah)(s:Int):Bool:=
 lenB w.Aj 1 8&&(((w.Br.length:Int)==(w.Aj.length:Int))&&(((w.Bl.length:Int)==(w.Aj.length:Int))&&(allN (treeB w) w.Aj.length &&
  ((w.Br.all fun x=>inI x 0 1000)&&((w.Bl.all fun x=>inI x 0 500)&&(((w.Bb.length:Int)==s)&&(w.Bb.all fun x=>inI x 0 ((w.Aj.length:Int)-1))))))))
theorem quY{w:qah}(h:w.Aj.length<=1048576)(g:((w.Br.length:Int)==(w.Aj.length:Int))=true):Ev (fun n=>qhL n w) (allN (treeB w) w.Aj.length):=by
 rw[beq_iff_eq] at g;have f:Ev (fun n=>qbt w n 0) (bif allN (treeB w) w.Aj.length then .nxt (w.Aj.length:Int) else .ret false):=by
  refine qer ?_ (fun j b X a=>Ev.succ ?_)
  ·exact Ev.succ (by simp only[qbt,qq (jf _),cond_false];exact .done)
  ·simp only[qbt,qp b,cond_true,qar b,jd,qdE,wS j,bne,qb6];unfold treeB;by_cases d:j=0
   ·subst d;rw[show idx w.Br (0:Int)=V (at0 w.Br 0) from qar (j:=0) (by omega)];simp only[jd];refine Ev.tt (by simp) (Ev.okP fun _=>Ev.okP1 fun _=>Ev.ff (by simp) a)
   ·have e1:decide (j=0)=false:=by simp;omega
    have e2:((j:Int)==0)=false:=by simp;omega
    have c:decide ((j:Int) > 0)=true:=by simp;omega
    rw[e1,e2,c,qd0 (show j<=9223372036854775807 by omega)];simp only[cond_false,cond_true];exact Ev.okP1 fun _=>a
 unfold qhL;refine Ev.bind f ?_;cases allN (treeB w) w.Aj.length<;>exact .done
theorem quB{w:qah}{s:Int}(h:qog w):Ev (fun n=>qk9 n w s) (wireB w s):=by
 have a:=h.Aj.len;simp only[qk9,qbI,jd,qdE,qd0 (show w.Aj.length<=9223372036854775807 by omega)];unfold wireB;rw[show inI (w.Aj.length:Int) 1 8=lenB w.Aj 1 8 from qsd (lo:=1) (hi:=8)];exact Ev.andP fun _=>Ev.andP fun b=>Ev.andP fun _=>Ev.and (quY a b) fun _=>Ev.and (qeD h.Br.len) fun _=>Ev.and (qeD h.Bl.len) fun _=>Ev.andP fun _=>Ev.last (qeD h.Bb.len)
theorem qt1{w:qah}{s:Int}(h:qog w):Ev (fun n=>qk6 n w s) (wireB w s):=by
 have o:=h.Aj.len;have m:=h.Bb.len;have e:wireB w s=((decide (1<=w.Aj.length)&&(decide (w.Aj.length<=8)&&(((w.Br.length:Int)==(w.Aj.length:Int))&&(((w.Bl.length:Int)==(w.Aj.length:Int))&&((w.Bb.length:Int)==s)))))&&(allN (fun j=>(inI (at0 w.Bl j) 0 500&&inI (at0 w.Br j) 0 1000)&&treeB w j) w.Aj.length&&(w.Bb.all fun x=>inI x 0 ((w.Aj.length:Int)-1)))):=by
  unfold wireB lenB;cases h1:((w.Br.length:Int)==(w.Aj.length:Int))
  ·simp
  ·cases h2:((w.Bl.length:Int)==(w.Aj.length:Int))
   ·simp
   ·rw[beq_iff_eq] at h1 h2;rw[qlF,qlF];rw[qhE (p:=fun x=>inI x 0 1000) (d:=0),qhE (p:=fun x=>inI x 0 500) (d:=0),show w.Br.length=w.Aj.length by omega,show w.Bl.length=w.Aj.length by omega];show _=(_&&((allN (fun j=>inI (w.Bl.getD j 0) 0 500) _&&allN (fun j=>inI (w.Br.getD j 0) 0 1000) _&&_)&&_));generalize allN (fun j=>inI (w.Bl.getD j 0) 0 500) w.Aj.length=a1;generalize allN (fun j=>inI (w.Br.getD j 0) 0 1000) w.Aj.length=a2;generalize allN (fun j=>treeB w j) w.Aj.length=a3;generalize ((w.Bb.length:Int)==s)=a4;generalize decide (1<=w.Aj.length)=a5;generalize decide (w.Aj.length<=8)=a6;generalize (w.Bb.all fun x=>inI x 0 ((w.Aj.length:Int)-1))=a7;cases a1<;>cases a2<;>cases a3<;>cases a4<;>cases a5<;>cases a6<;>rfl
 rw[e];unfold qk6;refine Ev.guardB ?_ fun l=>?_
 ·rw[show decide ((w.Aj.length:Int)<1) = !decide (1<=w.Aj.length) from qxl (k:=1),show decide ((w.Aj.length:Int) > 8) = !decide (w.Aj.length<=8) from qxi (k:=8)];simp only[bne,qb6];exact Ev.orBP fun _=>Ev.orBP fun _=>Ev.orBP fun _=>Ev.orBP fun _=>.done
 ·simp only[je,beq_iff_eq] at l;have c:Ev (fun n=>qc4 w n 0) (bif allN (fun j=>(inI (at0 w.Bl j) 0 500&&inI (at0 w.Br j) 0 1000)&&treeB w j) w.Aj.length then .nxt (w.Aj.length:Int) else .ret false):=by
   refine qer ?_ (fun j a X b=>Ev.succ ?_)
   ·exact Ev.succ (by simp only[qc4,qq (jf _),cond_false];exact .done)
   ·simp only[qc4,qp a,cond_true,qar a,qar (show j<w.Bl.length by omega),qar (show j<w.Br.length by omega),jd,qc1,wS j,bne,qb6];refine Ev.chkT (Ev.orBP fun _=>.done) fun _=>?_;unfold treeB;by_cases i:j=0
    ·subst i;refine Ev.tt (by simp) (Ev.okP fun _=>Ev.okP1 fun _=>Ev.ff (by simp) b)
    ·have e1:decide (j=0)=false:=by simp;omega
     have e2:((j:Int)==0)=false:=by simp;omega
     have g:decide ((j:Int) > 0)=true:=by simp;omega
     rw[e1,e2,g,qd0 (show j<=9223372036854775807 by omega)];simp only[cond_false,cond_true];exact Ev.okP1 fun _=>b
  have f:Ev (fun n=>qgw w n 0) (bif (w.Bb.all fun x=>inI x 0 ((w.Aj.length:Int)-1)) then .nxt (w.Bb.length:Int) else .ret false):=
   qov (fun n=>by simp only[qgw,qq (jf _),cond_false]) (fun j a X b=>by
    simp only[qgw,qp a,cond_true,qa4 a,jd,qc1,qd0 (show w.Aj.length<=9223372036854775807 by omega),wS j,qb6];exact Ev.okP1 fun _=>b)
  refine Ev.bind c ?_;cases allN (fun j=>(inI (at0 w.Bl j) 0 500&&inI (at0 w.Br j) 0 1000)&&treeB w j) w.Aj.length
  ·exact .done
  ·refine Ev.bind f ?_;cases (w.Bb.all fun x=>inI x 0 ((w.Aj.length:Int)-1))<;>exact .done
instance:Inhabited Tplace:=⟨⟨0,0,0,false⟩⟩
instance:Inhabited Tl05Place:=⟨⟨0,0,0,false⟩⟩
def toSp(p:Tplace):Tl05Place:=⟨p.instance_,p.pin,p.net,p.drives⟩
def plX(i:Nat)(x:qI)(j:Nat):List Tplace:=(List.range j).map fun(k:Nat)=>⟨(i:Int),(k:Int),at0 x.Ah k,decide (k+1=x.Ah.length)⟩
def plI(d:qj)(j:Nat):List Tplace:=(List.range j).flatMap fun(i:Nat)=>plX i (gt d.Ab i) (gt d.Ab i).Ah.length
def plP(d:qj)(j:Nat):List Tplace:=(List.range j).map fun(i:Nat)=>⟨-1,(i:Int),(gt d.Ai i).Bw,(gt d.Ai i).Bs==1⟩
def places(d:qj):List Tplace:=plI d d.Ab.length++plP d d.Ai.length
theorem qsP{i:Nat}{x:qI}{j:Nat}:plX i x (j+1)=plX i x j++[⟨(i:Int),(j:Int),at0 x.Ah j,decide (j+1=x.Ah.length)⟩]:=by
 unfold plX;rw[List.range_succ,jZ];rfl
theorem qmW{d:qj}{j:Nat}:plI d (j+1)=plI d j++plX j (gt d.Ab j) (gt d.Ab j).Ah.length:=by
 unfold plI;rw[List.range_succ,List.flatMap_append];simp
theorem qsz{d:qj}{j:Nat}:plP d (j+1)=plP d j++[⟨-1,(j:Int),(gt d.Ai j).Bw,(gt d.Ai j).Bs==1⟩]:=by
 unfold plP;rw[List.range_succ,jZ];rfl
theorem qp2{i:Nat}{x:qI}{j:Nat}:(plX i x j).length=j:=by simp[plX]
theorem qpZ{d:qj}{j:Nat}:(plP d j).length=j:=by simp[plP]
structure smallD(d:qj):Prop where
 ni:d.Ab.length<=14
 nn:d.Ah.length<=30
 np:d.Ai.length<=8
 nx:∀i,i<d.Ab.length->2<=(gt d.Ab i).Ah.length/\(gt d.Ab i).Ah.length<=5
theorem qY{l:qE}{d:qj}(h:designB l d=true):smallD d:=by
 unfold designB hasNamesB libB at h;simp only[je,decide_eq_true_eq] at h;obtain⟨⟨⟨b,_⟩,⟨c,f,g⟩,_⟩,a,_⟩:=h;refine⟨c,f,g,fun i hi=>?_⟩;rw[qjc,qai] at a b;have:=a i hi;unfold instB at this;simp only[je,qaK,beq_iff_eq] at this;have k:=qhJ (qjx (b (gt d.Ab i).Bq.toNat (by omega)));omega
theorem qox{d:qj}(h:smallD d){j:Nat}(a:j<=d.Ab.length):(plI d j).length<=5*j:=by
 induction j with
 |zero=>exact jf _
 |succ j ih=>
  rw[qmW,jg,qp2];have:=ih (by omega);have:=h.nx j (by omega);omega
theorem qaV{d:qj}(h:smallD d):(places d).length<=78:=by
 unfold places;rw[jg,qpZ];have:=qox h (jf _);have:=h.ni;have:=h.np;omega
theorem qnH{d:qj}(h:smallD d):Ev (fun n=>qcH n d) (places d):=by
 have l:=h.ni;have m:=h.np;have f:∀i,i<d.Ab.length->∀pre:List Tplace,pre.length<=100->Ev (fun n=>qbX (i:Int) (gt d.Ab i) n pre 0) (pre++plX i (gt d.Ab i) (gt d.Ab i).Ah.length,((gt d.Ab i).Ah.length:Int)):=by
  intro i hi pre p;have o:=h.nx i hi;have:=loopF (Lf:=qbX (i:Int) (gt d.Ab i)) (S:=fun j=>pre++plX i (gt d.Ab i) j) (len:=(gt d.Ab i).Ah.length) (fin:=(pre++plX i (gt d.Ab i) (gt d.Ab i).Ah.length,((gt d.Ab i).Ah.length:Int))) (fun n=>by
    simp only[qbX,qq (jf _),cond_false])
   (fun j a X b=>by
    have k:(pre++plX i (gt d.Ab i) j).length+[(⟨(i:Int),(j:Int),at0 (gt d.Ab i).Ah j,decide (j+1=(gt d.Ab i).Ah.length)⟩:Tplace)].length<=2147483648:=by
     rw[jg,qp2];simp;omega
    simp only[qbX,qp a,cond_true,qar a,jd,lastE a (show(gt d.Ab i).Ah.length<=1048576 by omega),qcx k,jv,<-qsP,wS j];exact b)
  simpa [plX] using this
 have c:Ev (fun n=>qb0 d n ([]:List Tplace) 0) (plI d d.Ab.length,(d.Ab.length:Int)):=by
  refine loopF (Lf:=qb0 d) (S:=fun j=>plI d j) (len:=d.Ab.length) (fun n=>?_) (fun j a X b=>?_)
  ·simp only[qb0,qq (jf _),cond_false]
  ·simp only[qb0,qp a,cond_true,qw a,jd,wS j];refine Ev.bind (f j a _ (by have:=qox h (Nat.le_of_lt a);omega)) ?_;rw[<-qmW];exact b
 have g:Ev (fun n=>qbZ d n (plI d d.Ab.length) 0) (places d,(d.Ai.length:Int)):=by
  have:=loopF (Lf:=qbZ d) (S:=fun j=>plI d d.Ab.length++plP d j) (len:=d.Ai.length) (fin:=(places d,(d.Ai.length:Int))) (fun n=>by
    simp only[qbZ,qq (jf _),cond_false];rfl)
   (fun j a X b=>by
    have k:(plI d d.Ab.length++plP d j).length+[(⟨-1,(j:Int),(gt d.Ai j).Bw,(gt d.Ai j).Bs==1⟩:Tplace)].length<=2147483648:=by
     rw[jg,qpZ];have:=qox h (jf _);simp;omega
    simp only[qbZ,qp a,cond_true,qw a,jd,qcx k,jv,<-qsz,wS j];exact b)
  simpa [plP] using this
 unfold qcH;exact Ev.bind c (Ev.bind g .done)
theorem qhH{d:qj}(h:smallD d):Ev (fun n=>qb9 n d) ((places d).map toSp):=by
 have l:=h.ni;have m:=h.np;have f:∀i,i<d.Ab.length->∀pre:List Tplace,pre.length<=100->Ev (fun n=>qc8 (i:Int) (gt d.Ab i) n (pre.map toSp) 0) ((pre++plX i (gt d.Ab i) (gt d.Ab i).Ah.length).map toSp,((gt d.Ab i).Ah.length:Int)):=by
  intro i hi pre p;have o:=h.nx i hi;have:=loopF (Lf:=qc8 (i:Int) (gt d.Ab i)) (S:=fun j=>(pre++plX i (gt d.Ab i) j).map toSp) (len:=(gt d.Ab i).Ah.length) (fin:=((pre++plX i (gt d.Ab i) (gt d.Ab i).Ah.length).map toSp,((gt d.Ab i).Ah.length:Int))) (fun n=>by
    simp only[qc8,qq (jf _),cond_false])
   (fun j a X b=>by
    have k:((pre++plX i (gt d.Ab i) j).map toSp).length+[(⟨(i:Int),(j:Int),at0 (gt d.Ab i).Ah j,decide (j+1=(gt d.Ab i).Ah.length)⟩:Tl05Place)].length<=2147483648:=by
     rw[jt,jg,qp2];simp;omega
    simp only[qc8,qp a,cond_true,qar a,jd,lastE a (show(gt d.Ab i).Ah.length<=1048576 by omega),qcx k,wS j];rw[qsP,<-jv,jZ] at b;exact b)
  simpa [plX] using this
 have c:Ev (fun n=>qc7 d n ([]:List Tl05Place) 0) ((plI d d.Ab.length).map toSp,(d.Ab.length:Int)):=by
  refine loopF (Lf:=qc7 d) (S:=fun j=>(plI d j).map toSp) (len:=d.Ab.length) (fun n=>?_) (fun j a X b=>?_)
  ·simp only[qc7,qq (jf _),cond_false]
  ·simp only[qc7,qp a,cond_true,qw a,jd,wS j];refine Ev.bind (f j a _ (by have:=qox h (Nat.le_of_lt a);omega)) ?_;rw[<-qmW];exact b
 have g:Ev (fun n=>qcZ d n ((plI d d.Ab.length).map toSp) 0) ((places d).map toSp,(d.Ai.length:Int)):=by
  have:=loopF (Lf:=qcZ d) (S:=fun j=>(plI d d.Ab.length++plP d j).map toSp) (len:=d.Ai.length) (fin:=((places d).map toSp,(d.Ai.length:Int))) (fun n=>by
    simp only[qcZ,qq (jf _),cond_false];rfl)
   (fun j a X b=>by
    have k:((plI d d.Ab.length++plP d j).map toSp).length+[(⟨-1,(j:Int),(gt d.Ai j).Bw,(gt d.Ai j).Bs==1⟩:Tl05Place)].length<=2147483648:=by
     rw[jt,jg,qpZ];have:=qox h (jf _);simp;omega
    simp only[qcZ,qp a,cond_true,qw a,jd,qcx k,wS j];rw[qsz,<-jv,jZ] at b;exact b)
  simpa [plP] using this
 unfold qb9;exact Ev.bind c (Ev.bind g .done)
def snkQ(d:qj)(k:Int)(i:Nat):Bool:=((gt (places d) i).net==k)&&!(gt (places d) i).drives
def sinksL(d:qj)(k:Int)(j:Nat):List Int:=((List.range j).filter (snkQ d k)).map fun(i:Nat)=>(i:Int)
def snkN(d:qj)(k:Int):Nat:=cntP (snkQ d k) (places d).length
theorem qjS{d:qj}{k:Int}{j:Nat}:sinksL d k (j+1)=sinksL d k j++(bif snkQ d k j then[(j:Int)] else[]):=by
 unfold sinksL;rw[List.range_succ,List.filter_append,jZ]
 congr 1
 cases h:snkQ d k j<;>simp[h]
theorem qjr{d:qj}{k:Int}{j:Nat}:(sinksL d k j).length=cntP (snkQ d k) j:=by
 induction j with
 |zero=>rfl
 |succ j ih=>
  rw[qjS,jg,ih];show _=cntP (snkQ d k) j+_
  congr 1
  cases snkQ d k j<;>rfl
theorem qn3{α β:Type}[Inhabited α][Inhabited β]{xs:List α}{g:α->β}{j:Nat}(h:j<xs.length):gt (xs.map g) j=g (gt xs j):=by
 rw[qeQ (by simpa using h),qeQ h];simp
theorem qln{d:qj}{k:Int}(h:smallD d):Ev (fun n=>qf7 n d k) (sinksL d k (places d).length):=by
 have l:=qaV h;have g:Ev (fun n=>qcQ k ((places d).map toSp) n ([]:List Int) 0) (sinksL d k (places d).length,((places d).length:Int)):=by
  refine loopF (Lf:=qcQ k ((places d).map toSp)) (S:=fun j=>sinksL d k j) (len:=(places d).length) (fun n=>?_) (fun j f X a=>?_)
  ·simp only[qcQ,jt,qq (jf _),cond_false]
  ·have c:j<((places d).map toSp).length:=by simpa using f
   have i:(sinksL d k j).length+[(j:Int)].length<=2147483648:=by
    rw[qjr];have:cntP (snkQ d k) j<=j:=qgE;simp;omega
   simp only[qcQ,qp c,cond_true,qw c,qn3 f,jd,wS j];rw[show ∀p:Tplace,(toSp p).net=p.net from fun _=>rfl,show ∀p:Tplace,(toSp p).drives=p.drives from fun _=>rfl];refine Ev.bind (b:=snkQ d k j) (Ev.andP fun _=>.done) ?_;rw[qjS] at a;cases hq:snkQ d k j
   ·rw[hq] at a;simp only[cond_false,jY] at a⊢;exact a
   ·rw[hq] at a;simp only[cond_true,qcx i,jd] at a⊢;exact a
 unfold qf7;exact Ev.bind (qhH h) (Ev.bind g .done)
theorem ql7{l:qE}{d:qj}(h:designB l d=true){i:Nat}(hi:i<(places d).length):0<=(gt (places d) i).net/\(gt (places d) i).net<d.Ah.length:=by
 unfold designB at h;simp only[je] at h;obtain⟨_,f,g,_⟩:=h;rw[qjc,qai] at f g;have a:gt (places d) i∈places d:=by rw[qeQ hi];exact jo hi
 generalize gt (places d) i=p at a;unfold places at a;rcases List.mem_append.1 a with a|a
 ·unfold plI at a;obtain⟨i,hi,a⟩:=List.mem_flatMap.1 a;unfold plX at a;obtain⟨k,m,rfl⟩:=List.mem_map.1 a;have:=f i (List.mem_range.1 hi);unfold instB at this;simp only[je] at this;have b:=this.2.2;rw[qhE (d:=0),qai] at b;have c:=b k (List.mem_range.1 m);unfold netB at c;rw[qaK] at c;show 0<=at0 _ _/\at0 _ _<_;unfold at0;omega
 ·unfold plP at a;obtain⟨i,hi,rfl⟩:=List.mem_map.1 a;have:=g i (List.mem_range.1 hi);unfold portB netB at this;simp only[je,qaK] at this;show 0<=(gt d.Ai i).Bw/\(gt d.Ai i).Bw<_;omega
def blockB(b:qd):Bool:=(designB b.Am b.Aa&&((b.Ac.length:Int)==(b.Aa.Ah.length:Int)))&&allN (fun j=>wireB (gt b.Ac j) (snkN b.Aa (j:Int))) b.Ac.length
theorem qiA{b:qd}(h:qfO b):Ev (fun n=>qdV n b) (blockB b):=by
 have p:=h.Ac.len;unfold qdV blockB;refine Ev.guardB (Ev.or (qsX h.Am h.Aa) fun _=>.done) fun l=>?_;rw[je,beq_iff_eq] at l;obtain⟨o,v⟩:=l;have i:=qY o;have t:=qaV i;have u:=i.nn;rw[qnw (m:=b.Ac.length) (by omega)];simp only[jd];have f:Ev (fun n=>qdt (places b.Aa) n (vecC (fun _=>0) b.Ac.length) 0) (vecC (fun k=>snkN b.Aa (k:Int)) b.Ac.length,((places b.Aa).length:Int)):=by
  refine loopF (Lf:=qdt (places b.Aa)) (S:=fun j=>vecC (fun k=>cntP (snkQ b.Aa (k:Int)) j) b.Ac.length) (len:=(places b.Aa).length) (fun n=>?_) (fun j a X d=>?_)
  ·simp only[qdt,qq (jf _),cond_false];rfl
  ·simp only[qdt,qp a,cond_true,qw a,jd,wS j];obtain⟨r,n1⟩:=ql7 o a;cases h1:(gt (places b.Aa) j).drives
   ·have s:cntP (snkQ b.Aa (((gt (places b.Aa) j).net.toNat:Nat):Int)) j<=j:=qgE;obtain⟨e1,e2⟩:=qlZ (c:=fun k=>cntP (snkQ b.Aa (k:Int)) j) (c':=fun k=>cntP (snkQ b.Aa (k:Int)) (j+1)) (x:=(gt (places b.Aa) j).net) (m:=b.Ac.length) r (by omega) (by show cntP _ _<_;omega) (fun k _=>by
     show cntP _ j+(bif snkQ b.Aa (k:Int) j then 1 else 0)=_;unfold snkQ;rw[h1,Bool.not_false,Bool.and_true])
    simp only[Bool.not_false,cond_true,jd,e1,e2];exact d
   ·have:vecC (fun k=>cntP (snkQ b.Aa (k:Int)) (j+1)) b.Ac.length=vecC (fun k=>cntP (snkQ b.Aa (k:Int)) j) b.Ac.length:=by
     refine qkG (fun k _=>?_);show cntP _ j+(bif snkQ b.Aa (k:Int) j then 1 else 0)=_;unfold snkQ;rw[h1,Jj,Bool.and_false];rfl
    rw[this] at d;exact d
 have g:Ev (fun n=>qfA b (vecC (fun k=>snkN b.Aa (k:Int)) b.Ac.length) n 0) (bif allN (fun j=>wireB (gt b.Ac j) (snkN b.Aa (j:Int))) b.Ac.length then .nxt (b.Ac.length:Int) else .ret false):=by
  refine qer ?_ (fun j a X d=>Ev.succ ?_)
  ·exact Ev.succ (by simp only[qfA,qq (jf _),cond_false];exact .done)
  ·simp only[qfA,qp a,cond_true,qw a,qkJ a,jd,wS j];exact Ev.chk1 (quB (qna h.Ac a)) fun _=>d
 refine Ev.bind (qnH i) (Ev.bind f (Ev.bind g ?_));cases allN (fun j=>wireB (gt b.Ac j) (snkN b.Aa (j:Int))) b.Ac.length<;>exact .done
theorem qeO{b:qd}(h:qfO b):Ev (fun n=>qb2 n b) (blockB b):=by
 have i:=h.Ac.len;unfold qb2 blockB;refine Ev.guardB (Ev.or (qrY h.Am h.Aa) fun _=>.done) fun c=>?_;rw[je] at c;have g:=qY c.1;have d:Ev (fun n=>qfE b n 0) (bif allN (fun j=>wireB (gt b.Ac j) (snkN b.Aa (j:Int))) b.Ac.length then .nxt (b.Ac.length:Int) else .ret false):=by
  refine qer ?_ (fun j a X f=>Ev.succ ?_)
  ·exact Ev.succ (by simp only[qfE,qq (jf _),cond_false];exact .done)
  ·simp only[qfE,qp a,cond_true,qw a,jd,wS j];refine Ev.bind (qln g) ?_;rw[qjr];exact Ev.chk1 (qt1 (qna h.Ac a)) fun _=>f
 refine Ev.bind d ?_;cases allN (fun j=>wireB (gt b.Ac j) (snkN b.Aa (j:Int))) b.Ac.length<;>exact .done

def off(d:qj)(i:Nat):Nat:=(plI d i).length
def place1(d:qj)(i k:Nat):Tplace:=⟨(i:Int),(k:Int),at0 (gt d.Ab i).Ah k,decide (k+1=(gt d.Ab i).Ah.length)⟩
def place2(d:qj)(i:Nat):Tplace:=⟨-1,(i:Int),(gt d.Ai i).Bw,(gt d.Ai i).Bs==1⟩
theorem qkP{d:qj}{i:Nat}:off d (i+1)=off d i+(gt d.Ab i).Ah.length:=by
 unfold off;rw[qmW,jg,qp2]
theorem qtL{d:qj}{i j:Nat}(h:i<=j):off d i<=off d j:=by
 induction j with
 |zero=>
  obtain rfl:i=0:=by omega
  exact jf _
 |succ j ih=>
  rcases Nat.lt_or_eq_of_le h with h|rfl
  ·rw[qkP];have:=ih (by omega);omega
  ·exact jf _
theorem qhB{d:qj}:(places d).length=off d d.Ab.length+d.Ai.length:=by
 unfold places off;rw[jg,qpZ]
theorem qx9{d:qj}{n i k:Nat}(hi:i<n)(c:k<(gt d.Ab i).Ah.length):off d i+k<off d n/\gt (plI d n) (off d i+k)=place1 d i k:=by
 induction n with
 |zero=>omega
 |succ n ih=>
  rw[qmW,qlO];rcases Nat.lt_succ_iff_lt_or_eq.1 hi with h|rfl
  ·obtain⟨a,b⟩:=ih h;refine⟨by rw[qkP];omega,?_⟩;rw[if_pos (show off d i+k<(plI d n).length from a),b]
  ·refine⟨by rw[qkP];omega,?_⟩;rw[if_neg (by unfold off;omega),show off d i+k-(plI d i).length=k by unfold off;omega];exact qqs c
theorem qkA{d:qj}{i k:Nat}(hi:i<d.Ab.length)(c:k<(gt d.Ab i).Ah.length):off d i+k<(places d).length/\gt (places d) (off d i+k)=place1 d i k:=by
 obtain⟨a,b⟩:=qx9 hi c;refine⟨by rw[qhB];omega,?_⟩;unfold places;rw[qlO,if_pos (show off d i+k<(plI d d.Ab.length).length from a),b]
theorem qrF{d:qj}{i:Nat}(hi:i<d.Ai.length):off d d.Ab.length+i<(places d).length/\gt (places d) (off d d.Ab.length+i)=place2 d i:=by
 refine⟨by rw[qhB];omega,?_⟩;unfold places;rw[qlO,if_neg (by unfold off;omega),show off d d.Ab.length+i-(plI d d.Ab.length).length=i by unfold off;omega];exact qqs hi
theorem qvg{d:qj}{n j:Nat}(a:j<off d n):∃i k,i<n/\k<(gt d.Ab i).Ah.length/\j=off d i+k:=by
 induction n with
 |zero=>exact absurd a (Nat.not_lt_zero _)
 |succ n ih=>
  by_cases h:j<off d n
  ·obtain⟨i,k,f,b,c⟩:=ih h;exact⟨i,k,by omega,b,c⟩
  ·rw[qkP] at a;exact⟨n,j-off d n,by omega,by omega,by omega⟩
theorem qlc{d:qj}{j:Nat}(c:j<(places d).length) :
  (∃i k,i<d.Ab.length/\k<(gt d.Ab i).Ah.length/\j=off d i+k/\gt (places d) j=place1 d i k) \/
  (∃i,i<d.Ai.length/\j=off d d.Ab.length+i/\gt (places d) j=place2 d i):=by
 rw[qhB] at c;by_cases h:j<off d d.Ab.length
 ·obtain⟨i,k,a,b,rfl⟩:=qvg h;exact .inl ⟨i,k,a,b,rfl,(qkA a b).2⟩
 ·refine .inr ⟨j-off d d.Ab.length,by omega,by omega,?_⟩;have:=(qrF (d:=d) (i:=j-off d d.Ab.length) (by omega)).2;rwa [show off d d.Ab.length+(j-off d d.Ab.length)=j by omega] at this
def drvQ(d:qj)(k:Int)(j:Nat):Bool:=((gt (places d) j).net==k)&&(gt (places d) j).drives
theorem qs8{q:Nat->Bool}{m n:Nat}:cntP q (m+n)=cntP q m+cntP (fun j=>q (m+j)) n:=by
 induction n with
 |zero=>rfl
 |succ n ih=>
  show cntP q (m+n)+(bif q (m+n) then 1 else 0)=cntP q m+(cntP (fun j=>q (m+j)) n+(bif q (m+n) then 1 else 0));rw[ih];omega
theorem qvl{q:Nat->Bool}{n:Nat}{b:Bool}(h:1<=n)(a:∀j,j+1<n->q j=false)(c:q (n-1)=b):cntP q n=bif b then 1 else 0:=by
 obtain⟨m,rfl⟩:∃m,n=m+1:=⟨n-1,by omega⟩;show cntP q m+(bif q m then 1 else 0)=_;rw[qnD.2 (fun j d=>a j (by omega)),show m=m+1-1 by omega,c,Jf]
theorem qtr{d:qj}{k:Nat}(b:smallD d):cntP (drvQ d (k:Int)) (places d).length=drvI d k d.Ab.length+drvP d k d.Ai.length:=by
 rw[qhB,qs8]
 congr 1
 ·have:∀n,n<=d.Ab.length->cntP (drvQ d (k:Int)) (off d n)=drvI d k n:=by
   intro n
   induction n with
   |zero=>intro _;rfl
   |succ n ih=>
    intro f;rw[qkP,qs8,ih (by omega),qo5]
    congr 1
    have c:=(b.nx n (by omega)).1;refine qvl (by omega) (fun j a=>?_) ?_
    ·show drvQ d _ (off d n+j)=false;unfold drvQ;rw[(qkA (by omega) (by omega)).2];unfold place1;simp;omega
    ·show drvQ d _ (off d n+_)=_;unfold drvQ;rw[(qkA (by omega) (by omega)).2];unfold place1 lastN;simp;omega
  exact this _ (jf _)
 ·refine qqD (fun j a=>?_);show drvQ d _ (off d _+j)=_;unfold drvQ;rw[(qrF a).2];unfold place2;exact Bool.and_comm _ _
theorem qur{l:qE}{d:qj}(h:designB l d=true){k:Nat}(a:k<d.Ah.length):cntP (drvQ d (k:Int)) (places d).length=1:=by
 rw[qtr (qY h)];unfold designB drvB at h;simp only[je] at h;have:=qai.1 h.2.2.2 k a;rw[beq_iff_eq] at this;omega
theorem qtf{l:qE}{d:qj}(h:designB l d=true){i j:Nat}(hi:i<(places d).length)(f:j<(places d).length)(c:(gt (places d) i).net=(gt (places d) j).net)(a:(gt (places d) i).drives=true)(b:(gt (places d) j).drives=true):i=j:=by
 obtain⟨g,n1⟩:=ql7 h hi;have e:=qdu g;have:=qur h (k:=(gt (places d) i).net.toNat) (by omega);refine qsW (Nat.le_of_eq this) hi f ?_ ?_
 ·unfold drvQ;rw[<-e,a];simp
 ·unfold drvQ;rw[<-e,b,c];simp
theorem qxG{l:qE}{d:qj}(h:designB l d=true){k:Int}(c:0<=k)(g:k<d.Ah.length):∃j,j<(places d).length/\(gt (places d) j).net=k/\(gt (places d) j).drives=true:=by
 have e:=qdu c;have:=qur h (k:=k.toNat) (by omega);have b:decide (0<cntP (drvQ d ((k.toNat:Nat):Int)) (places d).length)=true:=by rw[this];rfl
 rw[qsJ,jA,qmm] at b;obtain⟨j,f,a⟩:=b;rw[Bool.not_eq_false',<-e] at a;unfold drvQ at a;simp only[je,beq_iff_eq] at a;exact⟨j,f,a.1,a.2⟩
def cellAt(b:qd)(i:Int):qL:=gt b.Am.Ap (gt b.Aa.Ab i.toNat).Bq.toNat
theorem qhN{l:qE}{d:qj}(h:designB l d=true){i:Nat}(hi:i<d.Ab.length) :
  (0<=(gt d.Ab i).Bq/\(gt d.Ab i).Bq<l.Ap.length)/\(gt d.Ab i).Ah.length=(gt l.Ap (gt d.Ab i).Bq.toNat).Ay.length/\cellB (gt l.Ap (gt d.Ab i).Bq.toNat)=true:=by
 unfold designB libB at h;simp only[je] at h;obtain⟨⟨⟨b,_⟩,_⟩,a,_⟩:=h;rw[qjc,qai] at a b;have:=a i hi;unfold instB at this;simp only[je,qaK,beq_iff_eq] at this;exact⟨⟨this.1.1,by omega⟩,by omega,b _ (by omega)⟩
theorem qnr{c:qL}(h:cellB c=true){j:Nat}(f:j<c.Aq.length):(1<=(gt c.Aq j).Au/\(gt c.Aq j).Au<=5)/\(0<=(gt c.Aq j).Be/\(gt c.Aq j).Be<(c.Ay.length:Int)-1)/\(0<=(gt c.Aq j).To/\(gt c.Aq j).To<=(c.Ay.length:Int)-1)/\arcS c.Ay (gt c.Aq j)=true:=by
 unfold cellB at h;simp only[je] at h;obtain⟨_,i,⟨d,_⟩,_,_,g⟩:=h;have:=qai.1 d j f;rw[je,qvV i (qrp g)] at this;have b:=this.1;refine⟨qrx b,?_⟩;have a:=b;unfold arcS at a;simp only[je,qaK] at a;refine⟨⟨a.1.1.1,by omega⟩,a.1.2,b⟩
theorem qn6{c:qL}(h:cellB c=true):c.Aq.length<=8:=by
 unfold cellB at h;simp only[je,decide_eq_true_eq] at h;exact h.2.2.1.2
theorem qan{b:qd}(h:blockB b=true):designB b.Am b.Aa=true:=by
 unfold blockB at h;simp only[je] at h;exact h.1.1

theorem quU{d:qj}{k:Int}{n i:Nat}(hi:i<(sinksL d k n).length):∃y:Nat,y<n/\idx (sinksL d k n) (i:Int)=V (y:Int)/\snkQ d k y=true:=by
 rw[qa4 hi];have a:(sinksL d k n)[i]∈sinksL d k n:=jo hi;generalize (sinksL d k n)[i]=z at a;unfold sinksL at a;obtain⟨y,f,rfl⟩:=List.mem_map.1 a;obtain⟨b,c⟩:=List.mem_filter.1 f;exact⟨y,List.mem_range.1 b,rfl,c⟩
theorem qra{d:qj}{k:Int}(h:smallD d):Ev (fun n=>qhf n d k) (sinksL d k (places d).length):=by
 have g:=qaV h;have c:Ev (fun n=>qbj k (places d) n ([]:List Int) 0) (sinksL d k (places d).length,((places d).length:Int)):=by
  refine loopF (Lf:=qbj k (places d)) (S:=fun j=>sinksL d k j) (len:=(places d).length) (fun n=>?_) (fun j b X a=>?_)
  ·simp only[qbj,qq (jf _),cond_false]
  ·have f:(sinksL d k j).length+[(j:Int)].length<=2147483648:=by
    rw[qjr];have:cntP (snkQ d k) j<=j:=qgE;simp;omega
   simp only[qbj,qp b,cond_true,qw b,jd,wS j];rw[qjS] at a;unfold snkQ at a;cases h1:((gt (places d) j).net==k)
   ·rw[h1] at a;simp only[Bool.false_and,cond_false,jY] at a⊢;exact a
   ·cases h2:(gt (places d) j).drives
    ·rw[h1,h2] at a;simp only[Bool.not_false,Bool.and_self,cond_true,qcx f,jd] at a⊢;exact a
    ·rw[h1,h2] at a;simp only[Jj,Bool.and_false,cond_false,jY,cond_true] at a⊢;exact a
 unfold qhf;exact Ev.bind (qnH h) (Ev.bind c .done)
structure wireOk(b:qd)(i:Nat):Prop where
 lo:1<=(gt b.Ac i).Aj.length
 hi:(gt b.Ac i).Aj.length<=8
 res:(gt b.Ac i).Br.length=(gt b.Ac i).Aj.length
 cap:(gt b.Ac i).Bl.length=(gt b.Ac i).Aj.length
 par:∀j,0<j->j<(gt b.Ac i).Aj.length->0<=at0 (gt b.Ac i).Aj j/\at0 (gt b.Ac i).Aj j<j
 snk:(gt b.Ac i).Bb.length=(sinksL b.Aa (i:Int) (places b.Aa).length).length
 sin:∀j,j<(gt b.Ac i).Bb.length->0<=at0 (gt b.Ac i).Bb j/\at0 (gt b.Ac i).Bb j<(gt b.Ac i).Aj.length
theorem qbK{b:qd}(h:blockB b=true){i:Nat}(hi:i<b.Ac.length):wireOk b i:=by
 unfold blockB at h;rw[je,qai] at h;have:=h.2 i hi;unfold wireB lenB at this;simp only[je,decide_eq_true_eq,beq_iff_eq] at this;obtain⟨⟨f,g⟩,n,o,k,_,_,l,c⟩:=this;refine⟨f,g,by omega,by omega,fun j m a=>?_,?_,fun j a=>?_⟩
 ·have:=qai.1 k j a;unfold treeB at this;rw[show decide (j=0)=false by simp;omega] at this;simp only[cond_false,qaK] at this;omega
 ·rw[qjr];unfold snkN at l;omega
 ·rw[qhE (d:=0),qai] at c;have:=c j a;rw[qaK] at this;unfold at0;omega
theorem qfh{b:qd}(h:blockB b=true):b.Ac.length=b.Aa.Ah.length:=by
 unfold blockB at h;simp only[je,beq_iff_eq] at h;omega

instance:Inhabited qv:=⟨⟨0,0,0,0⟩⟩
instance:Inhabited qW:=⟨⟨0,0⟩⟩
theorem qkk{α:Type}{m:Nat}{z:α}(h:m<=2147483648):mkS (m:Int) z=V (List.replicate m z):=by
 unfold mkS big;rw[if_pos ⟨by omega,by omega⟩,jp]
theorem qrJ{α:Type}[Inhabited α]{xs:List α}{a k:Nat}{y:α}(h:k≠a):gt (xs.set a y) k=gt xs k:=by
 unfold gt;rw[jx,List.getElem?_set_ne (by omega),<-jx]
theorem qpD{α:Type}[Inhabited α]{xs:List α}{a:Nat}{y:α}(h:a<xs.length):gt (xs.set a y) a=y:=by
 rw[qeQ (by rw[List.length_set];exact h),List.getElem_set_self]

def CodeOk(code:List (IntK .u8)):Prop:=code.length<=1048576/\∀x,x∈code->rng8 x
structure SrcI(code:List (IntK .u8))(a s:Int):Prop where
 a0:0<=a
 a1:a<=(code.length:Int)
 s0:0<=s
 s1:s<=2147483646
theorem tm31{x:Int}(h:0<=x):0<=x.tmod 2147483647/\x.tmod 2147483647<=2147483646:=by
 have a:=Int.tmod_nonneg 2147483647 h;have b:=Int.tmod_lt_of_pos x (show(0:Int)<2147483647 by decide);omega
theorem qoN{x k:Int}(a:0<k):remS x k=V (x.tmod k):=by unfold remS;rw[if_neg (by omega)]
theorem qaW(x:Int):okI (W64 x):=by
 unfold okI W64;rw[Go.IntWalk.i64_left];unfold Go.RowKit.wrap64;omega
theorem qaj{x:Int}(a:-4611686018427387904<=x)(b:x<=4611686018427387904):okI x:=by unfold okI;omega
theorem qtO{code:List (IntK .u8)}(g:CodeOk code):∃s,Ev (fun n=>qmx n code) (V ⟨code,0,s⟩)/\SrcI code 0 s:=by
 have c:∀k j i,j+k=code.length->0<=i->i<=2147483646->EvQ (fun n=>qfI code n i (j:Int)) (fun o=>0<=o.1/\o.1<=2147483646):=by
  intro k
  induction k with
  |zero=>
   intro j i m f b;refine EvQ.succ ?_;simp only[qfI,qq (show code.length<=j by omega),cond_false,jd];exact EvQ.done ⟨f,b⟩
  |succ k ih=>
   intro j i m f b;have a:j<code.length:=by omega
   have r:=g.1;have p:=g.2 _ (jo a);unfold rng8 at p;refine EvQ.succ ?_;simp only[qfI,qp a,cond_true,jd,qa4 a,wS j];refine EvQ.bif (fun _=>?_) (fun _=>EvQ.done ⟨f,b⟩);have e1:W64 (i*31)=i*31:=qQ (by omega) (by omega);have e2:W64 code[j].val=code[j].val:=qQ (by omega) (by omega);have h:W64 (i*31+code[j].val)=i*31+code[j].val:=qQ (by omega) (by omega);rw[e1,e2,h];have d:=tm31 (show 0<=i*31+code[j].val by omega);exact ih (j+1) _ (by omega) d.1 d.2
 obtain⟨⟨s,j⟩,b,d,l⟩:=c code.length 0 12345 (by omega) (by decide) (by decide);exact⟨s,Ev.bind b .done,⟨jQ _,by omega,d,l⟩⟩
theorem qam{code:List (IntK .u8)}{a s:Int}(k:Int)(l:CodeOk code)(h:SrcI code a s) :
  EvQ (fun n=>qr n ⟨code,a,s⟩ k) (fun o=>((0<=o.1/\(1<=k->o.1<k))/\(k<=1->o.1=0))/\SrcI code o.2.1 o.2.2):=by
 obtain⟨a0,a1,s0,s1⟩:=h;have y:=l.1;unfold qr;refine EvQ.bif (fun g=>EvQ.done ⟨⟨⟨jQ _,fun h=>by omega⟩,fun _=>rfl⟩,⟨a0,a1,s0,s1⟩⟩) (fun g=>?_);have g:1<k:=by have:=of_decide_eq_false g;omega
 refine EvQ.bif (fun i=>?_) (fun _=>?_)
 ·have i:a<(code.length:Int):=of_decide_eq_true i;obtain⟨j,rfl⟩:∃j:Nat,a=(j:Int):=⟨a.toNat,by omega⟩;have c:j<code.length:=by omega
  have m:=l.2 _ (jo c);unfold rng8 at m;have e2:W64 code[j].val=code[j].val:=qQ (by omega) (by omega);have r:W64 ((j:Int)+1)=((j+1:Nat):Int):=qih (by omega);refine EvQ.bindN (qa4 c) ?_;rw[e2,r];refine EvQ.bif (fun t=>?_) (fun t=>?_)
  ·refine EvQ.bindN (qoN (by omega)) (EvQ.done ⟨⟨⟨Int.tmod_nonneg _ m.1,fun _=>Int.tmod_lt_of_pos _ (by omega)⟩,fun h=>by omega⟩,⟨by show(0:Int)<=((j+1:Nat):Int);omega,by show((j+1:Nat):Int)<=_;omega,s0,s1⟩⟩)
  ·have d:W64 (s*48271)=s*48271:=qQ (by omega) (by omega);have f:W64 (s*48271+code[j].val)=s*48271+code[j].val:=qQ (by omega) (by omega);have p:W64 (s*48271+code[j].val+1)=s*48271+code[j].val+1:=qQ (by omega) (by omega);rw[d,f,p];have b:=tm31 (show 0<=s*48271+code[j].val+1 by omega);exact EvQ.bindN (qoN (by omega)) (EvQ.done ⟨⟨⟨Int.tmod_nonneg _ b.1,fun _=>Int.tmod_lt_of_pos _ (by omega)⟩,fun h=>by omega⟩,⟨by show(0:Int)<=((j+1:Nat):Int);omega,by show((j+1:Nat):Int)<=_;omega,b.1,b.2⟩⟩)
 ·have d:W64 (s*48271)=s*48271:=qQ (by omega) (by omega);have f:W64 (s*48271+11)=s*48271+11:=qQ (by omega) (by omega);rw[d,f];have b:=tm31 (show 0<=s*48271+11 by omega);have u:0<=((s*48271+11).tmod 2147483647).tdiv 7:=Int.tdiv_nonneg b.1 (by decide);have v:((s*48271+11).tmod 2147483647).tdiv 7<=2147483646:=by
   rw[jD b.1];omega
  rw[qQ (x:=((s*48271+11).tmod 2147483647).tdiv 7) (by omega) (by omega)];exact EvQ.bindN (qoN (by omega)) (EvQ.done ⟨⟨⟨Int.tmod_nonneg _ u,fun _=>Int.tmod_lt_of_pos _ (by omega)⟩,fun h=>by omega⟩,⟨a0,a1,b.1,b.2⟩⟩)
theorem qbp{α:Type}{ok:α->Prop}{xs:List α}{y:α}(h:∀x,x∈xs->ok x)(b:ok y):∀x,x∈xs++[y]->ok x:=by
 intro x a;rcases List.mem_append.1 a with a|a
 ·exact h x a
 ·obtain rfl:=List.mem_singleton.1 a;exact b
theorem qb1{α:Type}{xs:List α}{y:α}(h:xs.length<=1048576):appS xs [y]=V (xs++[y]):=qcx (by simp;omega)
section
variable{code:List (IntK .u8)}{a s:Int}
theorem qwm{step:Int}(A:1<=step)(N:step<=1000)(i:CodeOk code)(h:SrcI code a s) :
  EvQ (fun n=>qgq n ⟨code,a,s⟩ step) (fun o=>(1<=o.1.length/\o.1.length<=3/\∀x,x∈o.1->okI x)/\SrcI code o.2.1 o.2.2):=by
 have d:∀(r:Nat) (x:List Int) (f g c:Int),SrcI code f g->x.length+r<=3->(∀y,y∈x->okI y)->okI c ->
   EvQ (fun n=>qdg ⟨code,a,s⟩ step n x f g c (r:Int)) (fun o=>(o.1.length=x.length+r/\∀y,y∈o.1->okI y)/\SrcI code o.2.1 o.2.2.1):=by
  intro r
  induction r with
  |zero=>
   intro x f g c b B p hi;refine EvQ.succ ?_;simp only[qdg];exact EvQ.ff Z (EvQ.done ⟨⟨rfl,p⟩,b⟩)
  |succ r ih=>
   intro x f g c b B p hi;refine EvQ.succ ?_;simp only[qdg];refine EvQ.tt (by simp) (EvQ.bindN (qb1 (by omega)) (EvQ.bind (qam step i b) ?_));rintro⟨H,t,u⟩ ⟨_,l⟩;have e:W64 (((r+1:Nat):Int)-1)=(r:Int):=by rw[qQ (by omega) (by omega)];omega
   dsimp only;rw[e];exact(ih (x++[c]) t u _ l (by rw[jg,jh];omega) (qbp p hi) (qaW _)).mono (fun o k=>⟨⟨by rw[k.1.1,jg,jh];omega,k.1.2⟩,k.2⟩)
 unfold qgq;refine EvQ.bind (qam step i h) ?_;rintro⟨D,O,P⟩ ⟨⟨⟨K,p1⟩,_⟩,b⟩;refine EvQ.bind (qam 3 i b) ?_;rintro⟨v,I,J⟩ ⟨⟨⟨L,z⟩,_⟩,b⟩;dsimp only at K p1 L z b⊢;have T:=z (by decide);have S:=p1 A;obtain⟨m,C⟩:∃m:Nat,1+v=((m+1:Nat):Int):=⟨v.toNat,by omega⟩;rw[wO (1+v),C];refine EvQ.bind (d (m+1) [] I J D b (by simp;omega) (fun _ h=>by cases h) (qaj (by omega) (by omega))) ?_;rintro⟨W,Q,R,c,F⟩ ⟨⟨r1,M⟩,b⟩;exact EvQ.done ⟨⟨by simp only at r1;simp at r1;dsimp only;omega,by simp only at r1;simp at r1;dsimp only;omega,M⟩,b⟩
theorem qwv{c:Prop}[Decidable c]{x y:Int}(a:okI x)(b:okI y):okI (if c then x else y):=by split<;>assumption
theorem qui{base:Int}(k:CodeOk code)(h:SrcI code a s) :
  EvQ (fun n=>qi9 n ⟨code,a,s⟩ base) (fun o=>qjb o.1/\SrcI code o.2.1 o.2.2):=by
 unfold qi9;refine EvQ.bind (qwm (by decide) (by decide) k h) ?_;rintro⟨r1,e,i2⟩ ⟨⟨l1,l2,r⟩,c⟩;refine EvQ.bind (qwm (by decide) (by decide) k c) ?_;rintro⟨f,Q,S⟩ ⟨⟨T,t,u⟩,c⟩;dsimp only at l1 l2 r T t u c⊢;have Y:r1.length*f.length<=3*3:=Nat.mul_le_mul l2 t;have l:∀(d j:Nat) (x:List Int) (m p:Int),SrcI code m p->j+d=r1.length*f.length->x.length=j->(∀y,y∈x->okI y) ->
   EvQ (fun n=>qeg ⟨code,a,s⟩ base r1 f n x m p (j:Int)) (fun o=>(o.1.length<=9/\∀y,y∈o.1->okI y)/\SrcI code o.2.1 o.2.2.1):=by
  intro d
  induction d with
  |zero=>
   intro j x m p c B D g;refine EvQ.succ ?_;simp only[qeg,qp4 (show r1.length<=1048576 by omega) (show f.length<=1048576 by omega)];have z:x.length<=9:=by omega
   exact EvQ.ff (qq (by omega)) (EvQ.done ⟨⟨z,g⟩,c⟩)
  |succ d ih=>
   intro j x m p c B D g;refine EvQ.succ ?_;simp only[qeg,qp4 (show r1.length<=1048576 by omega) (show f.length<=1048576 by omega)];refine EvQ.tt (qp (by omega)) (EvQ.bind (qam 10 k c) ?_);rintro⟨i8,i9,F⟩ ⟨⟨⟨W,X⟩,_⟩,c⟩;dsimp only at W X c⊢;refine EvQ.bindN (b:=((j % f.length:Nat):Int)) (by rw[qoN (by omega),Int.ofNat_tmod]) ?_;refine EvQ.bind (R:=fun o:Int×Int×Int=>SrcI code o.1 o.2.1/\okI o.2.2) ?_ ?_
   ·refine EvQ.bif (fun i=>?_) (fun _=>EvQ.done ⟨c,qaW _⟩);have C:1<=j:=by
     rcases Nat.eq_zero_or_pos j with rfl|h2
     ·simp at i
     ·exact h2
    have e1:W64 ((j:Int)-1)=((j-1:Nat):Int):=by rw[qQ (by omega) (by omega)];omega
    rw[e1];refine EvQ.bindN (qa4 (show j-1<x.length by omega)) (EvQ.bind (qam 20 k c) ?_);rintro⟨N,O,P⟩ ⟨_,c⟩;exact EvQ.done ⟨c,qwv (qaW _) (qaW _)⟩
   ·rintro⟨H,I,J⟩ ⟨c,hi⟩;dsimp only at c hi⊢;rw[wS j];refine EvQ.bif (fun i=>?_) (fun _=>?_)
    ·have A:f.length<=j:=by have:=of_decide_eq_true i;omega
     have e1:W64 ((j:Int)-(f.length:Int))=((j-f.length:Nat):Int):=by rw[qQ (by omega) (by omega)];omega
     rw[e1];refine EvQ.bindN (qa4 (show j-f.length<x.length by omega)) (EvQ.bind (qam 20 k c) ?_);rintro⟨K,L,M⟩ ⟨_,c⟩;refine EvQ.bindN (qb1 (by omega)) ?_;exact ih (j+1) _ _ _ c (by omega) (by rw[jg,jh];omega) (qbp g (qwv (qaW _) hi))
    ·refine EvQ.bindN (qb1 (by omega)) ?_;exact ih (j+1) _ _ _ c (by omega) (by rw[jg,jh];omega) (qbp g hi)
 refine EvQ.bind (l (r1.length*f.length) 0 [] Q S c (by omega) Z (fun _ h=>by cases h)) ?_;rintro⟨x1,i5,i6,i7⟩ ⟨⟨n1,v⟩,c⟩;dsimp only at n1 v c;exact EvQ.done ⟨⟨⟨by dsimp only;omega,r⟩,⟨by dsimp only;omega,u⟩,⟨by dsimp only;omega,v⟩⟩,c⟩
theorem qqF{base:Int}(d:CodeOk code)(h:SrcI code a s) :
  EvQ (fun n=>qdP n ⟨code,a,s⟩ base) (fun o=>okL qjb o.1/\SrcI code o.2.1 o.2.2):=by
 unfold qdP;refine EvQ.bind (qui d h) ?_;rintro⟨r1,i,k⟩ ⟨f,b⟩;refine EvQ.bind (qui d b) ?_;rintro⟨p,l,m⟩ ⟨g,b⟩;refine EvQ.done ⟨⟨by simp,fun x c=>?_⟩,b⟩;rcases List.mem_cons.1 c with rfl|c
 ·exact f
 ·obtain rfl:=List.mem_singleton.1 c;exact g
theorem qsp{kind f t sense:Int}(i:okI kind)(g:okI f)(k:okI t)(d:okI sense)(c:CodeOk code)(h:SrcI code a s) :
  EvQ (fun n=>qdl n ⟨code,a,s⟩ kind f t sense) (fun o=>qma o.1/\SrcI code o.2.1 o.2.2):=by
 unfold qdl;refine EvQ.bif (fun _=>?_) (fun _=>?_)
 ·refine EvQ.bind (qam 10 c h) ?_;rintro⟨y,z,A⟩ ⟨_,b⟩;refine EvQ.bind (qqF c b) ?_;rintro⟨r1,B,C⟩ ⟨l,b⟩;exact EvQ.done ⟨⟨i,g,k,qaj (x:=0) (by decide) (by decide),l,⟨jW _,fun _ h=>by cases h⟩⟩,b⟩
 ·refine EvQ.bind (qam 20 c h) ?_;rintro⟨D,F,H⟩ ⟨_,b⟩;refine EvQ.bind (qqF c b) ?_;rintro⟨J,I,r⟩ ⟨m,b⟩;refine EvQ.bind (qqF c b) ?_;rintro⟨K,u,v⟩ ⟨p,b⟩;exact EvQ.done ⟨⟨i,g,k,d,m,p⟩,b⟩
end

section
variable{code:List (IntK .u8)}{a s:Int}
theorem qwP{q:Nat}(h:q<=8):W64 (2*(q:Int))=((q*2:Nat):Int):=by rw[qQ (by omega) (by omega)];omega
theorem Ev.add{α:Type}{f:Nat->Option α}{r:α}(k:Nat)(h:∀m,f (m+k)=V r):Ev f r:=
 ⟨k,fun n a=>by obtain⟨m,rfl⟩:∃m,n=m+k:=⟨n-k,by omega⟩;exact h m⟩
def SenseOk(k:Nat)(a:List Int):Prop:=∀(b:ByteArray) (ps:List qaA) (i j:Int) (p:Nat),p<k->EvQ (fun n=>qlx n ⟨b,1,ps,[],a,i,j⟩ (p:Int)) okI
theorem qqf{k:Nat}{J:ByteArray}{c:List Int}(Q:k<=3)(hl:c.length=2 ^ k)(D:SenseOk k c)(B:okS J)(F:∀x,x∈c->okI x)(z:CodeOk code)(h:SrcI code a s) :
  EvQ (fun n=>qfP n ⟨code,a,s⟩ J c) (fun o=>qnK o.1/\SrcI code o.2.1 o.2.2):=by
 have R:(2:Nat) ^ k<=8:=by
  have:(2:Nat) ^ k<=2 ^ 3:=Nat.pow_le_pow_right (by decide) Q;simpa using this
 have v:∀(d j:Nat) (x:List qaA) (i l:Int),SrcI code i l->j+d=k->x.length=j->(∀y,y∈x->qmf y) ->
   EvQ (fun n=>qfH ⟨code,a,s⟩ c n x i l ((2 ^ j:Nat):Int)) (fun o=>(o.1.length=k/\∀y,y∈o.1->qmf y)/\SrcI code o.2.1 o.2.2.1):=by
  intro d
  induction d with
  |zero=>
   intro j x i l f A u g;refine EvQ.succ ?_;simp only[qfH];have:j=k:=by omega
   subst this;exact EvQ.ff (qq (by omega)) (EvQ.done ⟨⟨u,g⟩,f⟩)
  |succ d ih=>
   intro j x i l f A u g;refine EvQ.succ ?_;simp only[qfH];have S:(2:Nat) ^ j<2 ^ k:=Nat.pow_lt_pow_right (by decide) (by omega);refine EvQ.tt (qp (by omega)) ?_;have t:j<4:=by omega
   refine EvQ.bindN (b:=([(⟨#[97]⟩:ByteArray),(⟨#[98]⟩:ByteArray),(⟨#[99]⟩:ByteArray),(⟨#[100]⟩:ByteArray)]:List ByteArray)[j]'(by simpa using t)) (by rw[u];exact qa4 (by simpa using t)) (EvQ.bind (qam 9 z f) ?_);rintro⟨T,W,X⟩ ⟨_,f⟩;refine EvQ.bindN (qb1 (by omega)) ?_;have e:W64 (2*((2 ^ j:Nat):Int))=((2 ^ (j+1):Nat):Int):=by
    rw[Nat.pow_succ];exact qwP (by omega)
   dsimp only;rw[e];refine ih (j+1) _ _ _ f (by omega) (by rw[jg,jh];omega) (qbp g ⟨?_,qaj (x:=1) (by decide) (by decide),qaW _,trivial⟩);rcases j with _|_|_|_|j
   ·show(1:Nat)<=1048576;decide
   ·show(1:Nat)<=1048576;decide
   ·show(1:Nat)<=1048576;decide
   ·show(1:Nat)<=1048576;decide
   ·omega
 unfold qfP;refine EvQ.bind (qam 50 z h) ?_;rintro⟨L,i2,i3⟩ ⟨⟨⟨p0,p1⟩,_⟩,f⟩;refine EvQ.bind (qam 80 z f) ?_;rintro⟨M,i5,i6⟩ ⟨⟨⟨q0,N⟩,_⟩,f⟩;dsimp only at p0 p1 q0 N;have p2:=p1 (by decide);have q2:=N (by decide);refine EvQ.bind (v k 0 [] i5 i6 f (by omega) Z (fun _ h=>by cases h)) ?_;rintro⟨K,i7,i8,i9⟩ ⟨⟨H,m⟩,f⟩;dsimp only at H m f⊢;refine EvQ.bindN (qb1 (by omega)) ?_;have r:∀(d j:Nat) (x:List qay) (i l:Int),SrcI code i l->j+d=k->x.length<=j->(∀y,y∈x->qma y) ->
   EvQ (fun n=>qex ⟨code,a,s⟩ J c L M K (K++[(⟨(⟨#[121]⟩:ByteArray),2,0,false⟩:qaA)]) n x i l (j:Int)) (fun o=>(o.1.length<=k/\∀y,y∈o.1->qma y)/\SrcI code o.2.1 o.2.2.1):=by
  intro d
  induction d with
  |zero=>
   intro j x i l f A u g;refine EvQ.succ ?_;simp only[qex];have P:x.length<=k:=by omega
   exact EvQ.ff (qq (by omega)) (EvQ.done ⟨⟨P,g⟩,f⟩)
  |succ d ih=>
   intro j x i l f A u g;refine EvQ.succ ?_;simp only[qex,wS j];refine EvQ.tt (qp (by omega)) (EvQ.bind (D _ _ _ _ j (by omega)) (fun r1 C=>?_));refine EvQ.bif (fun _=>?_) (fun _=>ih (j+1) x i l f (by omega) (by omega) g);refine EvQ.bind (qsp (qaj (by decide) (by decide)) (qaj (by omega) (by omega)) (qaj (by omega) (by omega)) C z f) ?_;rintro⟨r2,a5,a6⟩ ⟨O,f⟩;refine EvQ.bindN (qb1 (by omega)) ?_;exact ih (j+1) _ _ _ f (by omega) (by rw[jg,jh];omega) (qbp g O)
 refine EvQ.bind (r k 0 [] i7 i8 f (by omega) (jW _) (fun _ h=>by cases h)) ?_;rintro⟨x4,Y,a3,a4⟩ ⟨⟨I,p⟩,f⟩;dsimp only at I p f;refine EvQ.done ⟨⟨B,qaj (x:=1) (by decide) (by decide),⟨?_,?_⟩,⟨?_,p⟩,⟨?_,F⟩,qaj (x:=L) (by omega) (by omega),qaj (x:=M) (by omega) (by omega)⟩,f⟩
 ·show(K++_).length<=_;rw[jg,jh];omega
 ·exact qbp m ⟨by show(1:Nat)<=1048576;decide,qaj (x:=2) (by decide) (by decide),qaj (x:=0) (by decide) (by decide),trivial⟩
 ·show x4.length<=_;omega
 ·show c.length<=_;omega
theorem qns{xs:List Int}(h:xs.all (fun x=>decide (-1000<=x)&&decide (x<=1000))=true):∀x,x∈xs->okI x:=by
 intro x a;have:=List.all_eq_true.1 h x a;simp only[je,decide_eq_true_eq] at this;exact qaj (by omega) (by omega)
theorem qtj{u:ByteArray}{kind edge:Int}(d:okS u)(m:okI kind)(B:okI edge)(c:CodeOk code)(h:SrcI code a s) :
  EvQ (fun n=>qe1 n ⟨code,a,s⟩ u kind edge) (fun o=>qnK o.1/\SrcI code o.2.1 o.2.2):=by
 have z:∀x:Int,-1000<=x->x<=1000->okI x:=fun x i k=>qaj (by omega) (by omega);unfold qe1;refine EvQ.bind (qam 50 c h) ?_;rintro⟨r,T,W⟩ ⟨⟨⟨P,p1⟩,_⟩,b⟩;refine EvQ.bind (qam 80 c b) ?_;rintro⟨t,X,Y⟩ ⟨⟨⟨Q,v⟩,_⟩,b⟩;dsimp only at P p1 Q v;have p2:=p1 (by decide);have q2:=v (by decide);refine EvQ.bind (qam 9 c b) ?_;rintro⟨O,e,i9⟩ ⟨_,b⟩;refine EvQ.bind (qam 9 c b) ?_;rintro⟨g,C,D⟩ ⟨_,b⟩;refine EvQ.bind (qsp B (z _ (by decide) (by decide)) (z _ (by decide) (by decide)) (z _ (by decide) (by decide)) c b) ?_;rintro⟨r1,F,H⟩ ⟨i,b⟩;refine EvQ.bind (qsp (z _ (by decide) (by decide)) (z _ (by decide) (by decide)) (z _ (by decide) (by decide)) (z _ (by decide) (by decide)) c b) ?_;rintro⟨R,I,J⟩ ⟨k,b⟩;refine EvQ.bind (qsp (z _ (by decide) (by decide)) (z _ (by decide) (by decide)) (z _ (by decide) (by decide)) (z _ (by decide) (by decide)) c b) ?_;rintro⟨S,K,L⟩ ⟨y,b⟩;dsimp only at i k y b⊢;have l:∀x,x∈[r1,R,S]->qma x:=by
  intro x f;simp only[jK,jz,or_false] at f;rcases f with rfl|rfl|rfl<;>assumption
 have p:∀x,x∈[(⟨(⟨#[100]⟩:ByteArray),1,W64 (1+O),false⟩:qaA),(⟨(⟨#[99,107]⟩:ByteArray),1,W64 (1+g),true⟩:qaA),(⟨(⟨#[113]⟩:ByteArray),2,0,false⟩:qaA)]->qmf x:=by
  intro x f;simp only[jK,jz,or_false] at f;rcases f with rfl|rfl|rfl
  ·exact⟨by show(1:Nat)<=1048576;decide,z 1 (by decide) (by decide),qaW _,trivial⟩
  ·exact⟨by show(2:Nat)<=1048576;decide,z 1 (by decide) (by decide),qaW _,trivial⟩
  ·exact⟨by show(1:Nat)<=1048576;decide,z 2 (by decide) (by decide),z 0 (by decide) (by decide),trivial⟩
 refine EvQ.bif (fun _=>?_) (fun _=>?_)
 ·refine EvQ.bind (qsp (z _ (by decide) (by decide)) (z _ (by decide) (by decide)) (z _ (by decide) (by decide)) (z _ (by decide) (by decide)) c b) ?_;rintro⟨r4,M,N⟩ ⟨A,b⟩;refine EvQ.bindN (qb1 (by simp)) ?_;exact EvQ.done ⟨⟨d,m,⟨by simp,p⟩,⟨by simp,qbp l A⟩,⟨jW _,fun _ h=>by cases h⟩,z r (by omega) (by omega),z t (by omega) (by omega)⟩,b⟩
 ·exact EvQ.done ⟨⟨d,m,⟨by simp,p⟩,⟨by simp,l⟩,⟨jW _,fun _ h=>by cases h⟩,z r (by omega) (by omega),z t (by omega) (by omega)⟩,b⟩
theorem sense1a:SenseOk 1 [1,0]:=by
 intro b ps i j p a;obtain rfl:p=0:=by omega
 exact⟨_,Ev.add 4 (fun m=>rfl),qaj (by decide) (by decide)⟩
theorem sense1b:SenseOk 1 [0,1]:=by
 intro b ps i j p a;obtain rfl:p=0:=by omega
 exact⟨_,Ev.add 4 (fun m=>rfl),qaj (by decide) (by decide)⟩
theorem sense2a:SenseOk 2 [1,1,1,0]:=by
 intro b ps i j p a;rcases p with _|_|p
 ·exact⟨_,Ev.add 8 (fun m=>rfl),qaj (by decide) (by decide)⟩
 ·exact⟨_,Ev.add 8 (fun m=>rfl),qaj (by decide) (by decide)⟩
 ·omega
theorem sense2b:SenseOk 2 [0,1,1,0]:=by
 intro b ps i j p a;rcases p with _|_|p
 ·exact⟨_,Ev.add 8 (fun m=>rfl),qaj (by decide) (by decide)⟩
 ·exact⟨_,Ev.add 8 (fun m=>rfl),qaj (by decide) (by decide)⟩
 ·omega
theorem sense3:SenseOk 3 [0,1,0,1,0,0,1,1]:=by
 intro b ps i j p a;rcases p with _|_|_|p
 ·exact⟨_,Ev.add 12 (fun m=>rfl),qaj (by decide) (by decide)⟩
 ·exact⟨_,Ev.add 12 (fun m=>rfl),qaj (by decide) (by decide)⟩
 ·exact⟨_,Ev.add 12 (fun m=>rfl),qaj (by decide) (by decide)⟩
 ·omega
theorem qyq(c:CodeOk code)(h:SrcI code a s):EvQ (fun n=>qkm n ⟨code,a,s⟩) (fun o=>qhv o.1/\SrcI code o.2.1 o.2.2):=by
 have z:∀x:Int,-1000<=x->x<=1000->okI x:=fun x f g=>qaj (by omega) (by omega);unfold qkm;refine EvQ.bind (qqf (k:=1) (by decide) Z sense1a (by show(3:Nat)<=1048576;decide) (qns Z) c h) ?_;rintro⟨r1,F,H⟩ ⟨f,b⟩;refine EvQ.bind (qqf (k:=1) (by decide) Z sense1b (by show(3:Nat)<=1048576;decide) (qns Z) c b) ?_;rintro⟨P,I,J⟩ ⟨g,b⟩;refine EvQ.bind (qqf (k:=2) (by decide) Z sense2a (by show(4:Nat)<=1048576;decide) (qns Z) c b) ?_;rintro⟨Q,K,L⟩ ⟨v,b⟩;refine EvQ.bind (qqf (k:=2) (by decide) Z sense2b (by show(3:Nat)<=1048576;decide) (qns Z) c b) ?_;rintro⟨R,M,N⟩ ⟨y,b⟩;refine EvQ.bind (qqf (k:=3) (by decide) Z sense3 (by show(3:Nat)<=1048576;decide) (qns Z) c b) ?_;rintro⟨S,O,i⟩ ⟨A,b⟩;refine EvQ.bind (qtj (by show(4:Nat)<=1048576;decide) (z _ (by decide) (by decide)) (z _ (by decide) (by decide)) c b) ?_;rintro⟨T,l,m⟩ ⟨B,b⟩;refine EvQ.bind (qtj (by show(5:Nat)<=1048576;decide) (z _ (by decide) (by decide)) (z _ (by decide) (by decide)) c b) ?_;rintro⟨W,p,r⟩ ⟨C,b⟩;refine EvQ.bind (qtj (by show(5:Nat)<=1048576;decide) (z _ (by decide) (by decide)) (z _ (by decide) (by decide)) c b) ?_;rintro⟨X,t,u⟩ ⟨D,b⟩;refine EvQ.done ⟨⟨⟨by simp,fun x d=>?_⟩⟩,b⟩;simp only[jK,jz,or_false] at d;rcases d with rfl|rfl|rfl|rfl|rfl|rfl|rfl|rfl<;>assumption
end

section
variable{code:List (IntK .u8)}{a s:Int}
theorem qnI(b:IntK .u8):(strOf [b]).size=1:=rfl
theorem qrW{x y:ByteArray}(h:x.size+y.size<=1048576):catB x y=V (x++y):=by
 unfold catB;rw[if_pos];have:IntKind.i64.max=9223372036854775807:=rfl;omega
theorem qwy:∀(d:Nat) (k:Int),d<=15->0<=k->k<((10 ^ (d+1):Nat):Int)->EvQ (fun n=>qbT n k) (fun z=>z.size<=d+1):=by
 intro d
 induction d with
 |zero=>
  intro k f b c;refine EvQ.succ ?_;simp only[qbT];refine EvQ.ff (by simp;omega) (EvQ.tt (by simp;omega) (EvQ.done ?_));rw[qnI];exact jf _
 |succ d ih=>
  intro k f b c;refine EvQ.succ ?_;simp only[qbT];refine EvQ.ff (by simp;omega) (EvQ.bif (fun _=>EvQ.done (by rw[qnI];omega)) (fun h=>?_));have l:(10:Nat) ^ (d+1+1)<=10 ^ 17:=Nat.pow_le_pow_right (by decide) (by omega);have i:k<=9223372036854775807:=by
   have:(10:Nat) ^ 17<=9223372036854775807:=by decide
   omega
  have e:k.tdiv 10=k / 10:=jD b;have e1:W64 (k.tdiv 10)=k / 10:=by rw[e];exact qQ (by omega) (by omega)
  rw[e1];have a:k / 10<((10 ^ (d+1):Nat):Int):=by rw[Nat.pow_succ] at c;omega
  refine EvQ.bind (ih (k / 10) (by omega) (by omega) a) (fun m g=>?_);refine EvQ.bindN (qrW (by rw[qnI];omega)) (EvQ.done ?_);rw[ByteArray.size_append,qnI];omega
theorem quc{k:Nat}(h:k<=1000):EvQ (fun n=>qbT n (k:Int)) (fun z=>z.size<=4):=qwy 3 k (by decide) (by omega) (by omega)
theorem qwT{y:Int}(a:0<=y)(b:y<=7):∃p:Nat,idx ([2,2,3,3,4,3,3,3]:List Int) y=V (p:Int)/\2<=p/\p<=4:=by
 have:y=0\/y=1\/y=2\/y=3\/y=4\/y=5\/y=6\/y=7:=by omega
 rcases this with rfl|rfl|rfl|rfl|rfl|rfl|rfl|rfl
 ·exact⟨2,rfl,by decide,by decide⟩
 ·exact⟨2,rfl,by decide,by decide⟩
 ·exact⟨3,rfl,by decide,by decide⟩
 ·exact⟨3,rfl,by decide,by decide⟩
 ·exact⟨4,rfl,by decide,by decide⟩
 ·exact⟨3,rfl,by decide,by decide⟩
 ·exact⟨3,rfl,by decide,by decide⟩
 ·exact⟨3,rfl,by decide,by decide⟩
theorem qxh{y:Int}(a:0<=y)(b:y<12):∃p:Int,idx ([0,1,2,2,3,4,5,5,5,6,7,1]:List Int) y=V p/\0<=p/\p<=7:=by
 have:y=0\/y=1\/y=2\/y=3\/y=4\/y=5\/y=6\/y=7\/y=8\/y=9\/y=10\/y=11:=by omega
 rcases this with rfl|rfl|rfl|rfl|rfl|rfl|rfl|rfl|rfl|rfl|rfl|rfl<;>exact⟨_,rfl,by decide,by decide⟩
theorem qnF{α:Type}{xs:List α}(h:xs.length<=1048576):appS ([]:List α) xs=V xs:=by
 have:=qcx (xs:=([]:List α)) (ys:=xs) (by simp;omega);rwa [List.nil_append] at this
theorem qxS{l:List ByteArray}{m:Int}{p:Nat}(k:idx ([2,2,3,3,4,3,3,3]:List Int) m=V (p:Int))(H:2<=p)(I:p<=4)(u:l.length<=100)(i:CodeOk code) :
  ∀(d j:Nat) (x:List Int) (f g:Int),SrcI code f g->j+d+1=p->x.length=j->(∀y,y∈x->okI y) ->
   EvQ (fun n=>qev ⟨code,a,s⟩ l m n x f g (j:Int)) (fun o=>(o.1.length+1=p/\∀y,y∈o.1->okI y)/\SrcI code o.2.1 o.2.2.1):=by
 have h:W64 ((p:Int)-1)=((p-1:Nat):Int):=by rw[qQ (by omega) (by omega)];omega
 intro d
 induction d with
 |zero=>
  intro j x f g c r t b;refine EvQ.succ ?_;simp only[qev];refine EvQ.bindN k ?_;rw[h];exact EvQ.ff (qq (by omega)) (EvQ.done ⟨⟨by dsimp only;omega,b⟩,c⟩)
 |succ d ih=>
  intro j x f g c r t b;refine EvQ.succ ?_;simp only[qev];refine EvQ.bindN k ?_;rw[h];refine EvQ.tt (qp (by omega)) (EvQ.bind (qam _ i c) ?_);rintro⟨v,z,A⟩ ⟨_,c⟩;refine EvQ.bind (qam 3 i c) ?_;rintro⟨B,C,D⟩ ⟨_,c⟩;refine EvQ.bind (R:=okI) (EvQ.bif (fun _=>EvQ.done (qaW _)) (fun _=>EvQ.done (qaW _))) (fun F hi=>?_);refine EvQ.bind (R:=fun _=>True) (EvQ.bif (fun _=>EvQ.done trivial) (fun _=>EvQ.done trivial)) (fun b3 _=>?_);rw[wS j];refine EvQ.bif (fun _=>?_) (fun _=>?_)
  ·exact EvQ.bindN (qnF (by omega)) (EvQ.bindN (qb1 (by omega)) (ih (j+1) _ _ _ c (by omega) (by rw[jg,jh];omega) (qbp b (qaj (by decide) (by decide)))))
  ·exact EvQ.bindN (qnF (by omega)) (EvQ.bindN (qb1 (by omega)) (ih (j+1) _ _ _ c (by omega) (by rw[jg,jh];omega) (qbp b hi)))
structure InsI(x:qI):Prop where
 ok:qpE x
 l2:2<=x.Ah.length
 l5:x.Ah.length<=5
theorem qxc(B:CodeOk code):∀(r:Nat) (f:List ByteArray) (d:List qI) (i l:Int),SrcI code i l->d.length+r<=14->f.length=d.length+3->(∀y,y∈f->okS y)->(∀y,y∈d->InsI y) ->
  EvQ (fun n=>qfJ ⟨code,a,s⟩ n f d i l (r:Int)) (fun o=>(o.1.length=o.2.1.length+3/\o.2.1.length=d.length+r/\(∀y,y∈o.1->okS y)/\∀y,y∈o.2.1->InsI y)/\SrcI code o.2.2.1 o.2.2.2.1):=by
 intro r
 induction r with
 |zero=>
  intro f d i l b I g m t;refine EvQ.succ ?_;simp only[qfJ];exact EvQ.ff Z (EvQ.done ⟨⟨g,rfl,m,t⟩,b⟩)
 |succ r ih=>
  intro f d i l b I g m t;refine EvQ.succ ?_;simp only[qfJ];refine EvQ.tt (by simp) (EvQ.bind (qam 12 B b) ?_);rintro⟨W,P,Q⟩ ⟨⟨⟨C,D⟩,_⟩,b⟩;dsimp only at C D b⊢;obtain⟨T,v,z,A⟩:=qxh C (D (by decide));obtain⟨p,J,R,S⟩:=qwT z A;refine EvQ.bindN v (EvQ.bind (quc (show d.length<=1000 by omega)) (fun r1 K=>?_));have F:(⟨#[117]⟩:ByteArray).size=1:=rfl;have H:(⟨#[110]⟩:ByteArray).size=1:=rfl;refine EvQ.bindN (qrW (by rw[F];omega)) (EvQ.bind (qxS J R S (by omega) B (p-1) 0 [] P Q b (by omega) Z (fun _ h=>by cases h)) ?_);rintro⟨Y,M,N,O⟩ ⟨⟨u,c⟩,b⟩;dsimp only at u c b⊢;refine EvQ.bindN (qnF (by omega)) (EvQ.bindN (qb1 (by omega)) (EvQ.bind (quc (show f.length<=1000 by omega)) (fun X L=>?_)));refine EvQ.bindN (qrW (by rw[H];omega)) (EvQ.bindN (qb1 (by omega)) (EvQ.bindN (qb1 (by omega)) ?_));have e:W64 (((r+1:Nat):Int)-1)=(r:Int):=by rw[qQ (by omega) (by omega)];omega
  rw[e];refine(ih _ _ _ _ b (by rw[jg,jh];omega) (by rw[jg,jg,jh,jh];omega) (qbp m (by show(_++_:ByteArray).size<=_;rw[ByteArray.size_append,H];omega))
   (qbp t ⟨⟨by show(_++_:ByteArray).size<=_;rw[ByteArray.size_append,F];omega,qaj (x:=T) (by omega) (by omega),⟨by show(_++_:List Int).length<=_;rw[jg,jh];omega,qbp c (qaj (by omega) (by omega))⟩⟩,by show _<=(_++_:List Int).length;rw[jg,jh];omega,by show(_++_:List Int).length<=_;rw[jg,jh];omega⟩)).mono (fun o k=>⟨⟨k.1.1,by rw[k.1.2.1,jg,jh];omega,k.1.2.2⟩,k.2⟩)
theorem qio{α:Type}{ok:α->Prop}{xs:List α}{j:Int}{y:α}(h:∀x,x∈xs->ok x)(b:ok y):∀x,x∈setS xs j y->ok x:=by
 intro x a;unfold setS at a;rcases List.mem_or_eq_of_mem_set a with a|rfl
 ·exact h x a
 ·exact b
theorem qym{wild:Bool}{p:List ByteArray}{h:List qI}(J:h.length<=14)(u:p.length<=100)(m:CodeOk code):∀(d j:Nat) (x:List qI) (i l:Int),SrcI code i l->j+d=h.length->x.length=h.length->(∀y,y∈x->InsI y) ->
  EvQ (fun n=>qep ⟨code,a,s⟩ wild p h n x i l (j:Int)) (fun o=>(o.1.length=h.length/\∀y,y∈o.1->InsI y)/\SrcI code o.2.1 o.2.2.1):=by
 intro d
 induction d with
 |zero=>
  intro j x i l c t k f;refine EvQ.succ ?_;simp only[qep];exact EvQ.ff (qq (by omega)) (EvQ.done ⟨⟨k,f⟩,c⟩)
 |succ d ih=>
  intro j x i l c t k f;have g:j<x.length:=by omega
  refine EvQ.succ ?_;simp only[qep,wS j];refine EvQ.tt (qp (by omega)) (EvQ.bind (R:=fun o:Int×Int×Bool=>SrcI code o.1 o.2.1) (EvQ.bind (qam 4 m c) ?_) ?_)
  ·rintro⟨D,F,H⟩ ⟨_,c⟩;refine EvQ.bif (fun _=>?_) (fun _=>EvQ.done c);refine EvQ.bindN (qa4 g) (EvQ.bif (fun _=>EvQ.done c) (fun _=>EvQ.bindN (qa4 g) (EvQ.bif (fun _=>EvQ.done c) (fun _=>EvQ.done c))))
  ·rintro⟨v,z,I⟩ c;dsimp only at c⊢;refine EvQ.bif (fun _=>?_) (fun _=>ih (j+1) x _ _ c (by omega) k f);refine EvQ.bindN (qa4 g) (EvQ.bind (qam _ m c) ?_);rintro⟨A,B,C⟩ ⟨_,c⟩;have hi:=f _ (jo g);have r:0<x[j].Ah.length:=by have:=hi.l2;omega
   refine EvQ.bindN (b:=x[j].Ah[0]) (qa4 (j:=0) r) ?_;refine ih (j+1) _ _ _ c (by omega) (by rw[qaY];exact k) (qio f ⟨⟨hi.ok.Az,hi.ok.Bq,⟨by show(setS _ _ _).length<=_;rw[qaY];exact hi.ok.Ah.1,qio hi.ok.Ah.2 (qaW _)⟩⟩,by show _<=(setS _ _ _).length;rw[qaY];exact hi.l2,by show(setS _ _ _).length<=_;rw[qaY];exact hi.l5⟩)
structure DesI(d:qj):Prop where
 ok:qkq d
 sm:smallD d
 n1:1<=d.Ah.length
 p1:1<=d.Ai.length
theorem qv6{most:Int}{wild:Bool}(K:2<=most)(J:most<=14)(g:CodeOk code)(h:SrcI code a s) :
  EvQ (fun n=>qkp n ⟨code,a,s⟩ most wild) (fun o=>DesI o.1/\SrcI code o.2.1 o.2.2):=by
 have z:∀x:Int,-1000<=x->x<=1000->okI x:=fun x F K=>qaj (by omega) (by omega);unfold qkp;refine EvQ.bindN (qnF (by simp)) (EvQ.bind (qam _ g h) ?_);rintro⟨u,O,S⟩ ⟨⟨⟨q0,C⟩,_⟩,b⟩;have I:W64 (most-1)=most-1:=qQ (by omega) (by omega);rw[I] at C;dsimp only at q0 C b⊢;have q2:=C (by omega);obtain⟨m,M⟩:∃m:Nat,2+u=(m:Int):=⟨(2+u).toNat,by omega⟩;rw[wO (2+u),M];have r:∀y,y∈[(⟨#[110,99,107]⟩:ByteArray),(⟨#[110,97]⟩:ByteArray),(⟨#[110,98]⟩:ByteArray)]->okS y:=by
  intro y f;simp only[jK,jz,or_false] at f;rcases f with rfl|rfl|rfl
  ·show(3:Nat)<=1048576;decide
  ·show(2:Nat)<=1048576;decide
  ·show(2:Nat)<=1048576;decide
 refine EvQ.bind (qxc g m _ [] O S b (by simp;omega) Z r (fun _ h=>by cases h)) ?_;rintro⟨p,D,i4,i5,i6⟩ ⟨⟨A,B,H,hi⟩,b⟩;dsimp only at A B H hi b⊢;have B:D.length=m:=by simpa using B
 refine EvQ.bind (qym (wild:=wild) (by omega) (by omega) g D.length 0 D i4 i5 b (by omega) Z hi) ?_;rintro⟨c,P,Q,R⟩ ⟨⟨v,d⟩,b⟩;dsimp only at v d b⊢;have N:∀y,y∈[(⟨(⟨#[99,107]⟩:ByteArray),1,0⟩:qaz),(⟨(⟨#[97]⟩:ByteArray),1,1⟩:qaz),(⟨(⟨#[98]⟩:ByteArray),1,2⟩:qaz)]->qsj y:=by
  intro y f;simp only[jK,jz,or_false] at f;rcases f with rfl|rfl|rfl
  ·exact⟨by show(2:Nat)<=1048576;decide,z _ (by decide) (by decide),z _ (by decide) (by decide)⟩
  ·exact⟨by show(1:Nat)<=1048576;decide,z _ (by decide) (by decide),z _ (by decide) (by decide)⟩
  ·exact⟨by show(1:Nat)<=1048576;decide,z _ (by decide) (by decide),z _ (by decide) (by decide)⟩
 refine EvQ.bindN (qnF (by simp)) (EvQ.bindN (qb1 (by simp)) (EvQ.bind (qam 2 g b) ?_));have l:=qbp (y:=(⟨(⟨#[121]⟩:ByteArray),2,W64 ((p.length:Int)-1)⟩:qaz)) N ⟨by show(1:Nat)<=1048576;decide,z 2 (by decide) (by decide),qaW _⟩;have fin:∀{ps:List qaz},1<=ps.length->ps.length<=8->(∀y,y∈ps->qsj y)->DesI ⟨c,p,ps⟩:=fun {ps} F L t=>by
  refine⟨⟨⟨by show c.length<=_;omega,fun y f=>(d y f).ok⟩,⟨by show p.length<=_;omega,H⟩,⟨by show ps.length<=_;omega,t⟩⟩,⟨by show c.length<=_;omega,by show p.length<=_;omega,L,fun i hi=>?_⟩,by show 1<=p.length;omega,F⟩;have k:i<c.length:=hi;have:=d _ (jo k);show 2<=(gt c i).Ah.length/\(gt c i).Ah.length<=5;rw[qeQ k];exact⟨this.l2,this.l5⟩
 rintro⟨T,W,X⟩ ⟨_,b⟩;refine EvQ.bif (fun _=>?_) (fun _=>EvQ.done ⟨fin (by simp) (by simp) l,b⟩);refine EvQ.bind (qam _ g b) ?_;rintro⟨Y,e,a3⟩ ⟨_,b⟩;exact EvQ.bindN (qb1 (by simp)) (EvQ.done ⟨fin (by simp) (by simp) (qbp l ⟨by show(1:Nat)<=1048576;decide,z 2 (by decide) (by decide),qaW _⟩),b⟩)
end

section
variable{code:List (IntK .u8)}{a s:Int}
structure WirI(x:qah):Prop where
 ok:qog x
 p1:1<=x.Aj.length/\x.Aj.length<=100
 r1:1<=x.Br.length
 c1:1<=x.Bl.length
 s1:x.Bb.length<=100
theorem qp6{xs:List Int}(h:xs.length<=1048576):Ev (fun n=>qeI n xs) xs:=by
 unfold qeI;exact Ev.bindN (qnF h) .done
theorem qwF(t:CodeOk code):∀(r:Nat) (d f g:List Int) (h m:Int),SrcI code h m->r<=10->(1<=d.length/\d.length+r<=50)->(1<=f.length/\f.length+r<=50)->(1<=g.length/\g.length+r<=50) ->
  (∀y,y∈d->okI y)->(∀y,y∈f->okI y)->(∀y,y∈g->okI y) ->
  EvQ (fun n=>qdc ⟨code,a,s⟩ n d f g h m (r:Int)) (fun o=>(((1<=o.1.length/\o.1.length<=50)/\∀y,y∈o.1->okI y)/\((1<=o.2.1.length/\o.2.1.length<=50)/\∀y,y∈o.2.1->okI y)/\(1<=o.2.2.1.length/\o.2.2.1.length<=50)/\∀y,y∈o.2.2.1->okI y)/\SrcI code o.2.2.2.1 o.2.2.2.2.1):=by
 intro r
 induction r with
 |zero=>
  intro d f g h m c D l1 l2 u i l p;refine EvQ.succ ?_;simp only[qdc];exact EvQ.ff Z (EvQ.done ⟨⟨⟨⟨l1.1,by dsimp only;omega⟩,i⟩,⟨⟨l2.1,by dsimp only;omega⟩,l⟩,⟨u.1,by dsimp only;omega⟩,p⟩,c⟩)
 |succ r ih=>
  intro d f g h m c D l1 l2 u i l p;have e:W64 (((r+1:Nat):Int)-1)=(r:Int):=by rw[qQ (by omega) (by omega)];omega
  have b:∀{x:Int} {k:Int},0<=x->x<k->k<=1000->okI x:=fun P i l=>qaj (by omega) (by omega);refine EvQ.succ ?_;simp only[qdc,e];refine EvQ.tt (by simp) (EvQ.bindE (qp6 (by omega)) (EvQ.bind (qam _ t c) ?_));rintro⟨F,H,I⟩ ⟨⟨⟨v,p1⟩,_⟩,c⟩;refine EvQ.bindN (qb1 (by omega)) (EvQ.bindE (qp6 (by omega)) (EvQ.bind (qam _ t c) ?_));rintro⟨J,K,L⟩ ⟨⟨⟨z,A⟩,_⟩,c⟩;refine EvQ.bindN (qb1 (by omega)) (EvQ.bindE (qp6 (by omega)) (EvQ.bind (qam _ t c) ?_));rintro⟨M,N,O⟩ ⟨⟨⟨B,C⟩,_⟩,c⟩;dsimp only at v p1 z A B C c;refine EvQ.bindN (qb1 (by omega)) ?_;exact ih _ _ _ _ _ c (by omega) (by rw[jg,jh];omega) (by rw[jg,jh];omega) (by rw[jg,jh];omega)
   (qbp i (b B (C (by decide)) (by decide))) (qbp l (b z (A (by decide)) (by decide))) (qbp p (b v (p1 (by omega)) (by omega)))
theorem qw9{r1:qah}{i:List Int}(l:CodeOk code)(z:r1.Bb.length<=100)(v:1<=i.length/\i.length<=50):∀(d j:Nat) (x:List Int) (f g:Int),SrcI code f g->j+d=r1.Bb.length->x.length=r1.Bb.length->(∀y,y∈x->okI y) ->
  EvQ (fun n=>qdh ⟨code,a,s⟩ r1 i n x f g (j:Int)) (fun o=>(o.1.length=r1.Bb.length/\∀y,y∈o.1->okI y)/\SrcI code o.2.1 o.2.2.1):=by
 intro d
 induction d with
 |zero=>
  intro j x f g c m h b;refine EvQ.succ ?_;simp only[qdh];exact EvQ.ff (qq (by omega)) (EvQ.done ⟨⟨h,b⟩,c⟩)
 |succ d ih=>
  intro j x f g c m h b;refine EvQ.succ ?_;simp only[qdh,wS j];refine EvQ.tt (qp (by omega)) (EvQ.bind (qam _ l c) ?_);rintro⟨p,r,t⟩ ⟨⟨⟨u,k⟩,_⟩,c⟩;dsimp only at u k c⊢;have A:=k (by omega);exact EvQ.bindN (qa4 (show j<x.length by omega)) (ih (j+1) _ _ _ c (by omega) (by rw[qaY];exact h) (qio b (qaj (by omega) (by omega))))
theorem qxI{m:Nat}(R:m<=100)(c:CodeOk code)(h:SrcI code a s):EvQ (fun n=>qhO n ⟨code,a,s⟩ (m:Int)) (fun o=>WirI o.1/\SrcI code o.2.1 o.2.2):=by
 have z:∀x:Int,-1000<=x->x<=1000->okI x:=fun x f g=>qaj (by omega) (by omega);unfold qhO;refine EvQ.bind (qam 6 c h) ?_;rintro⟨d,S,T⟩ ⟨⟨⟨N,p1⟩,_⟩,b⟩;dsimp only at N p1 b⊢;have X:=p1 (by decide);have C:Ev (fun n=>qi4 n (m:Int) d) (⟨[-1],[0],[d],List.replicate m 0⟩:qah):=by
  unfold qi4;exact Ev.bindN (qkk (by omega)) .done
 refine EvQ.bindE C (EvQ.bind (qam 4 c b) ?_);rintro⟨t,J,K⟩ ⟨⟨⟨O,v⟩,_⟩,b⟩;dsimp only at O v b⊢;have Y:=v (by decide);obtain⟨r,rfl⟩:∃r:Nat,t=(r:Int):=⟨t.toNat,by omega⟩;have one:∀{x:Int},okI x->∀y,y∈[x]->okI y:=fun D y i=>by obtain rfl:=List.mem_singleton.1 i;exact D
 refine EvQ.bind (qwF c r [d] [0] [-1] J K b (by omega) (by simp;omega) (by simp;omega) (by simp;omega) (one (z _ (by omega) (by omega))) (one (z _ (by decide) (by decide))) (one (z _ (by decide) (by decide)))) ?_;rintro⟨P,Q,A,L,M,W⟩ ⟨⟨⟨l1,f⟩,⟨l2,g⟩,k,p⟩,b⟩;dsimp only at l1 f l2 g k p b⊢;refine EvQ.bind (qw9 (r1:=⟨[-1],[0],[d],List.replicate m 0⟩) c (by simp;omega) k m 0 (List.replicate m 0) L M b (by simp) Z (fun y i=>by obtain⟨_,rfl⟩:=List.mem_replicate.1 i;exact z _ (by decide) (by decide))) ?_;rintro⟨l,F,H,I⟩ ⟨⟨u,B⟩,b⟩;have u:l.length=m:=by simpa using u
 exact EvQ.done ⟨⟨⟨⟨by show A.length<=_;omega,p⟩,⟨by show Q.length<=_;omega,g⟩,⟨by show P.length<=_;omega,f⟩,⟨by show l.length<=_;omega,B⟩⟩,⟨k.1,by show A.length<=_;omega⟩,l2.1,l1.1,by show l.length<=_;omega⟩,b⟩
structure BlkI(b:qd):Prop where
 lib:qhv b.Am
 des:DesI b.Aa
 wl:b.Ac.length=b.Aa.Ah.length
 wi:∀y,y∈b.Ac->WirI y
theorem BlkI.ok{b:qd}(h:BlkI b):qfO b:=⟨h.lib,h.des.ok,⟨by rw[h.wl];exact h.des.ok.Ah.1,fun y a=>(h.wi y a).ok⟩⟩
theorem qnv{most:Int}{wild:Bool}(u:2<=most)(m:most<=14)(p:CodeOk code)(h:SrcI code a s) :
  EvQ (fun n=>qeH n ⟨code,a,s⟩ most wild) (fun o=>BlkI o.1/\SrcI code o.2.1 o.2.2):=by
 unfold qeH;refine EvQ.bind (qyq p h) ?_;rintro⟨r1,I,J⟩ ⟨r,b⟩;refine EvQ.bind (qv6 u m p b) ?_;rintro⟨c,F,H⟩ ⟨g,b⟩;dsimp only at r g b⊢;have A:=g.sm.nn;have B:=qaV g.sm;have i:∀(d j:Nat) (x:List qah) (k l:Int),SrcI code k l->j+d=c.Ah.length->x.length=j->(∀y,y∈x->WirI y) ->
   EvQ (fun n=>qfD ⟨code,a,s⟩ c n x k l (j:Int)) (fun o=>(o.1.length=c.Ah.length/\∀y,y∈o.1->WirI y)/\SrcI code o.2.1 o.2.2.1):=by
  intro d
  induction d with
  |zero=>
   intro j x k l b z D f;refine EvQ.succ ?_;simp only[qfD];exact EvQ.ff (qq (by omega)) (EvQ.done ⟨⟨by dsimp only;omega,f⟩,b⟩)
  |succ d ih=>
   intro j x k l b z D f;refine EvQ.succ ?_;simp only[qfD,wS j];have C:(sinksL c (j:Int) (places c).length).length<=78:=by
    have:(sinksL c (j:Int) (places c).length).length<=(places c).length:=by
     unfold sinksL;rw[jt];refine jT (List.length_filter_le _ _) ?_;rw[List.length_range];exact jf _
    omega
   refine EvQ.tt (qp (by omega)) (EvQ.bindE (qln g.sm) (EvQ.bind (qxI (by omega) p b) ?_));rintro⟨P,N,O⟩ ⟨v,b⟩;exact EvQ.bindN (qb1 (by omega)) (ih (j+1) _ _ _ b (by omega) (by rw[jg,jh];omega) (qbp f v))
 refine EvQ.bind (i c.Ah.length 0 [] F H b (by omega) Z (fun _ h=>by cases h)) ?_;rintro⟨Q,K,L,M⟩ ⟨⟨l1,t⟩,b⟩;exact EvQ.done ⟨⟨r,g,l1,t⟩,b⟩
structure BlkO(b:qd):Prop where
 ok:qfO b
 sm:smallD b.Aa
theorem qtl(g:CodeOk code)(h:SrcI code a s):EvQ (fun n=>qit n ⟨code,a,s⟩) (fun o=>BlkO o.1/\SrcI code o.2.1 o.2.2):=by
 unfold qit;refine EvQ.bind (qam 3 g h) ?_;rintro⟨X,Y,i3⟩ ⟨_,d⟩;refine EvQ.bind (qnv (by decide) (by decide) g d) ?_;rintro⟨r1,i4,i5⟩ ⟨b,d⟩;dsimp only at b d⊢;have D:1<=r1.Ac.length:=by rw[b.wl];exact b.des.n1
 have F:r1.Ac.length<=30:=by rw[b.wl];exact b.des.sm.nn
 refine EvQ.bind (qam _ g d) ?_;rintro⟨p,i7,i8⟩ ⟨⟨⟨O,r⟩,_⟩,d⟩;dsimp only at O r d⊢;have q2:=r (by omega);obtain⟨k,rfl⟩:∃k:Nat,p=(k:Int):=⟨p.toNat,by omega⟩;have i:k<r1.Ac.length:=by omega
 have c:=b.wi _ (jo i);have W:∀{y:qah},qog y->BlkO ⟨r1.Am,r1.Aa,setS r1.Ac (k:Int) y⟩:=fun {y} h=>⟨⟨b.lib,b.des.ok,⟨by show(setS _ _ _).length<=_;rw[qaY];omega,qio (fun y c=>(b.wi y c).ok) h⟩⟩,b.des.sm⟩;have z:∀x:Int,-1000<=x->x<=1000->okI x:=fun x Q R=>qaj (by omega) (by omega);have S:=c.p1;have T:=c.r1;have u:=c.c1;have B:=c.s1;refine EvQ.bind (qam 20 g d) ?_;rintro⟨i9,H,I⟩ ⟨_,d⟩;dsimp only at d⊢;refine EvQ.bif (fun _=>?_) (fun _=>EvQ.bif (fun _=>?_) (fun _=>EvQ.bif (fun _=>?_) (fun _=>EvQ.bif (fun _=>?_) (fun _=>EvQ.bif (fun _=>?_) (fun _=>EvQ.bif (fun _=>?_) (fun _=>EvQ.done ⟨⟨b.ok,b.des.sm⟩,d⟩))))))
 ·have e:subS r1.Ac 1 (r1.Ac.length:Int)=V (r1.Ac.drop 1):=by
   unfold subS;rw[if_pos (by omega)];simp
  refine EvQ.bindN e (EvQ.done ⟨⟨⟨b.lib,b.des.ok,⟨by show(r1.Ac.drop 1).length<=_;rw[List.length_drop];omega,fun y c=>(b.wi y (List.mem_of_mem_drop c)).ok⟩⟩,b.des.sm⟩,d⟩)
 ·refine EvQ.bindN (qa4 i) (EvQ.bindE (qp6 (by omega)) (EvQ.bindN (qb1 (by omega)) (EvQ.done ⟨W ⟨c.ok.Aj,c.ok.Br,c.ok.Bl,⟨by show(_++_:List Int).length<=_;rw[jg,jh];omega,qbp c.ok.Bb.2 (z _ (by decide) (by decide))⟩⟩,d⟩)))
 ·refine EvQ.bindN (qa4 i) (EvQ.bindN (qa4 (j:=0) (show 0<r1.Ac[k].Br.length by omega)) (EvQ.done ⟨W ⟨c.ok.Aj,⟨by show(setS _ _ _).length<=_;rw[qaY];exact c.ok.Br.1,qio c.ok.Br.2 (z _ (by decide) (by decide))⟩,c.ok.Bl,c.ok.Bb⟩,d⟩))
 ·refine EvQ.bindN (qa4 i) (EvQ.bind (qam 3 g d) ?_);rintro⟨f,J,K⟩ ⟨⟨⟨P,t⟩,_⟩,d⟩;dsimp only at P t d⊢;have t2:=t (by decide);have:f=0\/f=1\/f=2:=by omega
  have C:∃v:Int,idx ([(-1),500,501]:List Int) f=V v/\okI v:=by
   rcases this with rfl|rfl|rfl
   ·exact⟨_,rfl,z _ (by decide) (by decide)⟩
   ·exact⟨_,rfl,z _ (by decide) (by decide)⟩
   ·exact⟨_,rfl,z _ (by decide) (by decide)⟩
  obtain⟨v,l,m⟩:=C;exact EvQ.bindN l (EvQ.bindN (qa4 (j:=0) (show 0<r1.Ac[k].Bl.length by omega)) (EvQ.done ⟨W ⟨c.ok.Aj,c.ok.Br,⟨by show(setS _ _ _).length<=_;rw[qaY];exact c.ok.Bl.1,qio c.ok.Bl.2 m⟩,c.ok.Bb⟩,d⟩))
 ·refine EvQ.bindN (qa4 i) (EvQ.bind (qam 5 g d) ?_);rintro⟨L,M,N⟩ ⟨_,d⟩;have e:W64 ((r1.Ac[k].Aj.length:Int)-1)=((r1.Ac[k].Aj.length-1:Nat):Int):=by rw[qQ (by omega) (by omega)];omega
  dsimp only;rw[e];exact EvQ.bindN (qa4 (show r1.Ac[k].Aj.length-1<r1.Ac[k].Aj.length by omega)) (EvQ.done ⟨W ⟨⟨by show(setS _ _ _).length<=_;rw[qaY];exact c.ok.Aj.1,qio c.ok.Aj.2 (qaW _)⟩,c.ok.Br,c.ok.Bl,c.ok.Bb⟩,d⟩)
 ·have A:=b.des.p1;refine EvQ.bindN (qa4 (j:=0) (show 0<r1.Aa.Ai.length by omega)) (EvQ.done ⟨⟨⟨b.lib,⟨b.des.ok.Ab,b.des.ok.Ah,⟨by show(setS _ _ _).length<=_;rw[qaY];exact b.des.ok.Ai.1,qio b.des.ok.Ai.2 ⟨(b.des.ok.Ai.2 _ (jo _)).Az,z 3 (by decide) (by decide),(b.des.ok.Ai.2 _ (jo _)).Bw⟩⟩⟩,b.ok.Ac⟩,⟨b.des.sm.ni,b.des.sm.nn,by show(setS _ _ _).length<=_;rw[qaY];exact b.des.sm.np,b.des.sm.nx⟩⟩,d⟩)
end

def sumZ(f:Nat->Int):Nat->Int
 |0=>0
 |n+1=>sumZ f n+f n
theorem qtX{f g:Nat->Int}{n:Nat}(h:∀u,u<n->f u=g u):sumZ f n=sumZ g n:=by
 induction n with
 |zero=>rfl
 |succ n ih=>unfold sumZ;rw[ih (fun u a=>h u (by omega)),h n (by omega)]
theorem qti{f g:Nat->Int}{a n:Nat}(d:a<n)(h:∀u,u<n->u≠a->f u=g u):sumZ f n=sumZ g n+(f a-g a):=by
 induction n with
 |zero=>omega
 |succ n ih=>
  unfold sumZ;by_cases b:a=n
  ·subst b;rw[qtX (fun u c=>h u (by omega) (by omega))];omega
  ·rw[ih (by omega) (fun u c=>h u (by omega)),h n (by omega) (by omega)];omega
theorem qxt{f:Nat->Int}{n:Nat}(h:∀u,u<n->0<=f u):0<=sumZ f n:=by
 induction n with
 |zero=>exact jQ _
 |succ n ih=>unfold sumZ;have:=ih (fun u a=>h u (by omega));have:=h n (by omega);omega
theorem qsi{f:Nat->Int}{a n:Nat}(h:∀u,u<n->0<=f u)(d:a<n):f a<=sumZ f n:=by
 induction n with
 |zero=>omega
 |succ n ih=>
  unfold sumZ;by_cases b:a=n
  ·subst b;have:=qxt (fun u (c:u<a)=>h u (by omega));omega
  ·have:=ih (fun u c=>h u (by omega)) (by omega);have:=h n (by omega);omega
theorem qxe{f:Nat->Int}{n:Nat}{c:Int}(h:∀u,u<n->f u<=c):sumZ f n<=n*c:=by
 induction n with
 |zero=>simp[sumZ]
 |succ n ih=>
  unfold sumZ;have:=ih (fun u a=>h u (by omega));have:=h n (by omega);rw[Int.natCast_succ,Int.add_mul];omega
def pinCap(b:qd)(p:Tplace):Int:=bif decide (p.instance_<0) then 0 else(gt (cellAt b p.instance_).Ay p.pin.toNat).Bl
def capJ(b:qd)(j:Nat):Int:=pinCap b (gt (places b.Aa) j)
theorem qv1{b:qd}(h:blockB b=true){j:Nat}(d:j<(places b.Aa).length){n:Nat}:qhg n b.Aa b.Am (gt (places b.Aa) j)=V (capJ b j):=by
 have c:=qan h;unfold capJ pinCap;rcases qlc d with⟨i,k,hi,hk,_,e⟩|⟨i,hi,_,e⟩
 ·rw[e];obtain⟨⟨a,c1⟩,f,_⟩:=qhN c hi;unfold place1 cellAt;simp only[qhg,show decide ((i:Int)<0)=false by simp,cond_false,qw hi,jd,qf1 a c1,jp,qw (show k<(gt b.Am.Ap (gt b.Aa.Ab i).Bq.toNat).Ay.length by omega)]
 ·rw[e];rfl
theorem qv3{b:qd}(h:blockB b=true){j:Nat}(f:j<(places b.Aa).length):0<=capJ b j/\capJ b j<=500:=by
 have d:=qan h;unfold capJ pinCap;rcases qlc f with⟨i,k,hi,hk,_,e⟩|⟨i,hi,_,e⟩
 ·rw[e];obtain⟨⟨g,c1⟩,l,c⟩:=qhN d hi;unfold place1 cellAt;simp only[show decide ((i:Int)<0)=false by simp,cond_false,jp];have a:=qjx c;unfold pinsB at a;rw[je,qai] at a;have:=a.1 k (by omega);unfold pinB at this;cases hl:decide (k+1=(gt b.Am.Ap (gt b.Aa.Ab i).Bq.toNat).Ay.length)
  ·rw[hl] at this;simp only[cond_false,je,qaK] at this;exact this.2
  ·rw[hl] at this;simp only[cond_true,je,beq_iff_eq] at this;omega
 ·rw[e];exact⟨jQ _,show(0:Int)<=500 by omega⟩
def skL(b:qd)(i:Nat):List Int:=sinksL b.Aa (i:Int) (places b.Aa).length
def addSink(b:qd)(w:qah)(sk:List Int)(t:List Int)(j:Nat):List Int:=setS t (at0 w.Bb j) (W64 (gt t (at0 w.Bb j).toNat+capJ b (at0 sk j).toNat))
def ldA(b:qd)(w:qah)(sk:List Int):Nat->List Int
 |0=>w.Bl
 |j+1=>addSink b w sk (ldA b w sk j) j
def addUp(w:qah)(t:List Int)(j:Nat):List Int:=setS t (at0 w.Aj j) (W64 (gt t (at0 w.Aj j).toNat+gt t j))
def ldB(w:qah):Nat->List Int->List Int
 |0,t=>t
 |j+1,t=>ldB w j (addUp w t (j+1))
def loadsL(b:qd)(i:Nat):List Int:=ldB (gt b.Ac i) ((gt b.Ac i).Aj.length-1) (ldA b (gt b.Ac i) (skL b i) (skL b i).length)
theorem qoQ{b:qd}{w:qah}{sk:List Int}{j:Nat}:(ldA b w sk j).length=w.Bl.length:=by
 induction j with
 |zero=>rfl
 |succ j ih=>unfold ldA addSink;rw[qaY,ih]
theorem qxs{w:qah}{j:Nat}{t:List Int}:(ldB w j t).length=t.length:=by
 induction j generalizing t with
 |zero=>rfl
 |succ j ih=>unfold ldB addUp;rw[ih,qaY]
theorem qmw{b:qd}(h:blockB b=true){i:Nat}(hi:i<b.Ac.length):(loadsL b i).length=(gt b.Ac i).Aj.length:=by
 unfold loadsL;rw[qxs,qoQ,(qbK h hi).cap]
theorem qhY{b:qd}(h:blockB b=true){i:Nat}:(skL b i).length<=78:=by
 have a:=qaV (qY (qan h));unfold skL;rw[qjr];have:cntP (snkQ b.Aa (i:Int)) (places b.Aa).length<=(places b.Aa).length:=qgE;omega
theorem qn1{b:qd}{i j:Nat}(a:j<(skL b i).length):∃y:Nat,y<(places b.Aa).length/\at0 (skL b i) j=(y:Int)/\snkQ b.Aa (i:Int) y=true:=by
 obtain⟨y,c,d,f⟩:=quU a;exact⟨y,c,by have:=d;rw[show(sinksL b.Aa (i:Int) (places b.Aa).length)=skL b i from rfl,qar a] at this;exact Option.some.inj this,f⟩
theorem qoz{b:qd}(h:blockB b=true){i:Nat}(hi:i<b.Ac.length):Ev (fun n=>qdW n b (i:Int)) (loadsL b i):=by
 have c:=qbK h hi;have m:=qY (qan h);have s:=c.lo;have p:=c.hi;have d:=c.cap;have v:=qhY h (i:=i);have e1:Ev (fun n=>qbz b (gt b.Ac i) (places b.Aa) (skL b i) n (gt b.Ac i).Bl 0) (ldA b (gt b.Ac i) (skL b i) (skL b i).length,((skL b i).length:Int)):=by
  refine loopF (Lf:=qbz b (gt b.Ac i) (places b.Aa) (skL b i)) (S:=ldA b (gt b.Ac i) (skL b i)) (len:=(skL b i).length) (fun n=>?_) (fun j a X l=>?_)
  ·simp only[qbz,qq (jf _),cond_false]
  ·obtain⟨y,o,k,_⟩:=qn1 a;have f:j<(gt b.Ac i).Bb.length:=by rw[c.snk];exact a
   have g:=c.sin j f;have r:=qoQ (b:=b) (w:=gt b.Ac i) (sk:=skL b i) (j:=j);simp only[qbz,qp a,cond_true,qar a,k,jd,qar f,qf1 g.1 (show at0 (gt b.Ac i).Bb j<((ldA b (gt b.Ac i) (skL b i) j).length:Int) by omega),qw o,qv1 h o,wS j];have:ldA b (gt b.Ac i) (skL b i) (j+1)=setS (ldA b (gt b.Ac i) (skL b i) j) (at0 (gt b.Ac i).Bb j) (W64 (gt (ldA b (gt b.Ac i) (skL b i) j) (at0 (gt b.Ac i).Bb j).toNat+capJ b y)):=by
    show addSink _ _ _ _ _=_;unfold addSink;rw[k,jp]
   rw[this] at l;exact l
 have e2:∀j t,t.length=(gt b.Ac i).Aj.length->j<(gt b.Ac i).Aj.length->Ev (fun n=>qbx (gt b.Ac i) n t (j:Int)) (ldB (gt b.Ac i) j t,0):=by
  intro j
  induction j with
  |zero=>
   intro t _ _;refine Ev.succ ?_;show Ev (fun n=>qbx (gt b.Ac i) (n+1) t 0) _;unfold qbx;exact Ev.ff Z .done
  |succ j ih=>
   intro t x a;have u:=c.par (j+1) (by omega) a;refine Ev.succ ?_;simp only[qbx,show decide (((j+1:Nat):Int) > 0)=true from decide_eq_true (by omega),cond_true,qar a,jd,qf1 u.1 (show at0 (gt b.Ac i).Aj (j+1)<(t.length:Int) by omega),qw (show j+1<t.length by omega),show((j+1:Nat):Int)-1=(j:Int) by omega,qQ (show -9223372036854775808<=(j:Int) by omega) (by omega)];exact ih _ (by rw[qaY];exact x) (by omega)
 unfold qdW qiz;rw[qw hi];simp only[jd,qcx (show([]:List Int).length+(gt b.Ac i).Bl.length<=2147483648 by simp;omega),List.nil_append];refine Ev.bind (qnH m) (Ev.bind (qra m) (Ev.bind e1 ?_));rw[qd0 (show(gt b.Ac i).Bl.length<=9223372036854775807 by omega),show((gt b.Ac i).Bl.length:Int)-1=(((gt b.Ac i).Aj.length-1:Nat):Int) by omega];exact Ev.bind (e2 _ _ (by rw[qoQ];exact d) (by omega)) .done
structure LdOk(t:List Int)(L:Nat)(S:Int):Prop where
 len:t.length=L
 nn:∀k,k<L->0<=gt t k
 sum:sumZ (gt t) L<=S
theorem qmv{t:List Int}{a:Nat}{y:Int}{k:Nat}(b:a<t.length):gt (setS t (a:Int) y) k=if k=a then y else gt t k:=by
 unfold setS;rw[jp];by_cases h:k=a
 ·subst h;rw[if_pos Z,qpD b]
 ·rw[if_neg h,qrJ h]
theorem qxH{b:qd}(h:blockB b=true){i:Nat}(hi:i<b.Ac.length)(m:∀k,k<(gt b.Ac i).Bl.length->0<=gt (gt b.Ac i).Bl k/\gt (gt b.Ac i).Bl k<=500) :
  ∀j,j<=(skL b i).length->LdOk (ldA b (gt b.Ac i) (skL b i) j) (gt b.Ac i).Aj.length (4000+500*j):=by
 have p:=qbK h hi;have z:=p.hi;have l:=p.cap;have A:=qhY h (i:=i);intro j
 induction j with
 |zero=>
  intro _;refine⟨l,fun k t=>(m k (by omega)).1,?_⟩;have:=qxe (f:=gt (gt b.Ac i).Bl) (n:=(gt b.Ac i).Aj.length) (c:=500) (fun u H=>(m u (by omega)).2);show sumZ (gt (gt b.Ac i).Bl) _<=_;omega
 |succ j ih=>
  intro D;obtain⟨l1,n1,s1⟩:=ih (by omega);obtain⟨y,B,v,_⟩:=qn1 (show j<(skL b i).length by omega);have C:=qv3 h B;have o:=p.sin j (by rw[p.snk];exact(show j<(skL b i).length by omega));obtain⟨a,s⟩:∃a:Nat,at0 (gt b.Ac i).Bb j=(a:Int):=⟨_,qdu o.1⟩;rw[s] at o;have d:a<(gt b.Ac i).Aj.length:=by omega
  have x:=qsi n1 d;have F:=n1 a d;have e:ldA b (gt b.Ac i) (skL b i) (j+1)=setS (ldA b (gt b.Ac i) (skL b i) j) (a:Int) (gt (ldA b (gt b.Ac i) (skL b i) j) a+capJ b y):=by
   show addSink _ _ _ _ _=_;unfold addSink;rw[v,s,jp,jp,qQ (by omega) (by omega)]
  rw[e];refine⟨by rw[qaY];exact l1,fun k t=>?_,?_⟩
  ·rw[qmv (by omega)];split
   ·omega
   ·exact n1 k t
  ·rw[qti (g:=gt (ldA b (gt b.Ac i) (skL b i) j)) d (fun u _ r=>by rw[qmv (by omega),if_neg r]),qmv (by omega),if_pos Z];omega
theorem qxW{b:qd}(h:blockB b=true){i:Nat}(hi:i<b.Ac.length){S:Int}(A:S<=1000000000):∀j t,j<(gt b.Ac i).Aj.length->t.length=(gt b.Ac i).Aj.length->(∀k,k<t.length->0<=gt t k/\gt t k<=S)->sumZ (gt t) (j+1)<=S ->
  ∀k,k<t.length->0<=gt (ldB (gt b.Ac i) j t) k/\gt (ldB (gt b.Ac i) j t) k<=S:=by
 have x:=qbK h hi;intro j
 induction j with
 |zero=>intro t _ _ c _;exact c
 |succ j ih=>
  intro t s v c r;have p:=x.par (j+1) (by omega) s;obtain⟨a,o⟩:∃a:Nat,at0 (gt b.Ac i).Aj (j+1)=(a:Int):=⟨_,qdu p.1⟩;rw[o] at p;have y:=c a (by omega);have z:=c (j+1) (by omega);have e:addUp (gt b.Ac i) t (j+1)=setS t (a:Int) (gt t a+gt t (j+1)):=by
   unfold addUp;rw[o,jp,qQ (by omega) (by omega)]
  have n:sumZ (gt (setS t (a:Int) (gt t a+gt t (j+1)))) (j+1)<=S:=by
   rw[qti (g:=gt t) (a:=a) (by omega) (fun u _ l=>by rw[qmv (by omega),if_neg l]),qmv (by omega),if_pos Z];have:sumZ (gt t) (j+1+1)=sumZ (gt t) (j+1)+gt t (j+1):=rfl;omega
  unfold ldB;rw[e];have:=ih (setS t (a:Int) (gt t a+gt t (j+1))) (by omega) (by rw[qaY];exact v) (fun k f=>by
   rw[qaY] at f;have m:∀u,u<j+1->0<=gt (setS t (a:Int) (gt t a+gt t (j+1))) u:=fun u B=>by
    rw[qmv (by omega)];split
    ·omega
    ·exact(c u (by omega)).1
   have d:=qsi m (show a<j+1 by omega);rw[qmv (by omega)] at d⊢;rw[if_pos Z] at d;split
   ·omega
   ·exact c k f) n
  rw[qaY] at this;exact this
theorem qpC{b:qd}(h:blockB b=true){i:Nat}(hi:i<b.Ac.length):(∀k,k<(gt b.Ac i).Bl.length->0<=gt (gt b.Ac i).Bl k/\gt (gt b.Ac i).Bl k<=500)/\(∀k,k<(gt b.Ac i).Br.length->0<=at0 (gt b.Ac i).Br k/\at0 (gt b.Ac i).Br k<=1000):=by
 unfold blockB at h;rw[je,qai] at h;have:=h.2 i hi;unfold wireB lenB at this;simp only[je,decide_eq_true_eq,beq_iff_eq] at this;obtain⟨_,_,_,_,f,c,_⟩:=this;rw[qhE (d:=0),qai] at f c;exact⟨fun k a=>by have:=c k a;rw[qaK] at this;exact this,fun k a=>by have:=f k a;rw[qaK] at this;exact this⟩
theorem qt4{b:qd}(h:blockB b=true){i:Nat}(hi:i<b.Ac.length){k:Nat}(c:k<(gt b.Ac i).Aj.length):0<=gt (loadsL b i) k/\gt (loadsL b i) k<=43000:=by
 have g:=qbK h hi;have d:=g.lo;have f:=qhY h (i:=i);obtain⟨l1,n1,s1⟩:=qxH h hi (qpC h hi).1 (skL b i).length (jf _);have:=qxW h hi (S:=43000) (by omega) ((gt b.Ac i).Aj.length-1) (ldA b (gt b.Ac i) (skL b i) (skL b i).length) (by omega) l1 (fun k c=>by
  have a:=n1 k (by omega);have l:=qsi n1 (show k<(gt b.Ac i).Aj.length by omega);exact⟨a,by omega⟩) (by rw[show(gt b.Ac i).Aj.length-1+1=(gt b.Ac i).Aj.length by omega];omega) k (by omega)
 exact this
def dlL(w:qah)(ld:List Int):Nat->List Int
 |0=>[0]
 |k+1=>dlL w ld k++[W64 (gt (dlL w ld k) (at0 w.Aj (k+1)).toNat+W64 (at0 w.Br (k+1)*gt ld (k+1)))]
theorem qoq{w:qah}{ld:List Int}{k:Nat}:(dlL w ld k).length=k+1:=by
 induction k with
 |zero=>rfl
 |succ k ih=>unfold dlL;rw[jg,ih];rfl
def delaysL(b:qd)(i:Nat):List Int:=dlL (gt b.Ac i) (loadsL b i) ((gt b.Ac i).Aj.length-1)
def exactL(b:qd)(i:Nat):List Int:=(gt b.Ac i).Bb.map fun s=>gt (delaysL b i) s.toNat
theorem qnk{b:qd}(h:blockB b=true){i:Nat}(hi:i<b.Ac.length):(delaysL b i).length=(gt b.Ac i).Aj.length:=by
 unfold delaysL;rw[qoq];have:=(qbK h hi).lo;omega
theorem qxk{w:qah}{ld:List Int}{k m:Nat}(b:k+1<m)(c:at0 w.Aj (k+1)<((k+1:Nat):Int))(_:0<=at0 w.Aj (k+1)) :
  setS (dlL w ld k++List.replicate (m-(k+1)) 0) ((k+1:Nat):Int) (W64 (gt (dlL w ld k++List.replicate (m-(k+1)) 0) (at0 w.Aj (k+1)).toNat+W64 (at0 w.Br (k+1)*gt ld (k+1))))=dlL w ld (k+1)++List.replicate (m-(k+1+1)) 0:=by
 have a:=qoq (w:=w) (ld:=ld) (k:=k);have e1:gt (dlL w ld k++List.replicate (m-(k+1)) 0) (at0 w.Aj (k+1)).toNat=gt (dlL w ld k) (at0 w.Aj (k+1)).toNat:=by
  rw[qlO,if_pos (by omega)]
 rw[e1];unfold setS;rw[jp,List.set_append,if_neg (by omega),a,Nat.sub_self,show m-(k+1)=(m-(k+1+1))+1 by omega,List.replicate_succ,List.set_cons_zero];show _=(dlL w ld k++[_])++_;rw[jv]
 rfl
theorem qq7{b:qd}(h:blockB b=true){i:Nat}(hi:i<b.Ac.length):Ev (fun n=>qfn n b (i:Int)) (delaysL b i):=by
 have f:=qbK h hi;have s:=f.lo;have p:=f.hi;have o:=f.res;have l1:=qmw h hi;have l:mkS ((loadsL b i).length:Int) (0:Int)=V (List.replicate (loadsL b i).length 0):=qxm (by omega);have c:∀d k,k+1+d=(gt b.Ac i).Aj.length->Ev (fun n=>qbW (gt b.Ac i) (loadsL b i) (List.replicate (loadsL b i).length 0) n (dlL (gt b.Ac i) (loadsL b i) k++List.replicate ((gt b.Ac i).Aj.length-(k+1)) 0) ((k+1:Nat):Int)) (delaysL b i,((loadsL b i).length:Int)):=by
  intro d
  induction d with
  |zero=>
   intro k g;refine Ev.succ ?_;simp only[qbW,jH,qq (show(loadsL b i).length<=k+1 by omega),cond_false];refine Ev.now ?_;rw[show(gt b.Ac i).Aj.length-(k+1)=0 by omega,List.replicate_zero,jY,l1,<-g];unfold delaysL;rw[<-g]
   rfl
  |succ d ih=>
   intro k g;have m:=f.par (k+1) (by omega) (by omega);have a:=qoq (w:=gt b.Ac i) (ld:=loadsL b i) (k:=k);have r:(dlL (gt b.Ac i) (loadsL b i) k++List.replicate ((gt b.Ac i).Aj.length-(k+1)) 0).length=(gt b.Ac i).Aj.length:=by rw[jg,jH,a];omega
   refine Ev.succ ?_;simp only[qbW,jH,qp (show k+1<(loadsL b i).length by omega),cond_true,qar (show k+1<(gt b.Ac i).Aj.length by omega),jd,qf1 m.1 (show at0 (gt b.Ac i).Aj (k+1)<((dlL (gt b.Ac i) (loadsL b i) k++List.replicate ((gt b.Ac i).Aj.length-(k+1)) 0).length:Int) by omega),
    qar (show k+1<(gt b.Ac i).Br.length by omega),qw (show k+1<(loadsL b i).length by omega),qw (show k+1<(dlL (gt b.Ac i) (loadsL b i) k++List.replicate ((gt b.Ac i).Aj.length-(k+1)) 0).length by omega),qih (show k+1<9223372036854775807 by omega)]
   rw[qxk (by omega) m.2 m.1];exact ih (k+1) (by omega)
 unfold qfn;rw[qw hi];simp only[jd];refine Ev.bind (qoz h hi) ?_;rw[l];simp only[jd];have:=c ((gt b.Ac i).Aj.length-1) 0 (by omega);have e0:dlL (gt b.Ac i) (loadsL b i) 0++List.replicate ((gt b.Ac i).Aj.length-(0+1)) 0=List.replicate (loadsL b i).length 0:=by
  rw[l1];show[(0:Int)]++_=_;rw[show(gt b.Ac i).Aj.length=((gt b.Ac i).Aj.length-(0+1))+1 by omega,List.replicate_succ]
  rfl
 rw[e0] at this;exact Ev.bind this .done
theorem qqN{b:qd}(h:blockB b=true){i:Nat}(hi:i<b.Ac.length):Ev (fun n=>qeC n b (i:Int)) (exactL b i):=by
 have d:=qbK h hi;have l:(gt b.Ac i).Bb.length<=78:=by rw[d.snk];exact qhY h
 have k:=qnk h hi;have f:Ev (fun n=>qbe (delaysL b i) (gt b.Ac i) n ([]:List Int) 0) (exactL b i,((gt b.Ac i).Bb.length:Int)):=by
  refine loopF (Lf:=qbe (delaysL b i) (gt b.Ac i)) (S:=fun j=>((gt b.Ac i).Bb.take j).map fun s=>gt (delaysL b i) s.toNat) (len:=(gt b.Ac i).Bb.length) (fun n=>?_) (fun j a X g=>?_)
  ·simp only[qbe,qq (jf _),cond_false,jG];rfl
  ·have c:=d.sin j a;simp only[qbe,qp a,cond_true,qar a,jd,qf1 c.1 (show at0 (gt b.Ac i).Bb j<((delaysL b i).length:Int) by omega),wS j];rw[qcx (by rw[jt,jN,jh];omega)];have:((gt b.Ac i).Bb.take j).map (fun s=>gt (delaysL b i) s.toNat)++[gt (delaysL b i) (at0 (gt b.Ac i).Bb j).toNat]=((gt b.Ac i).Bb.take (j+1)).map fun s=>gt (delaysL b i) s.toNat:=by
    rw[jC a,jZ,qhF a];rfl
   rw[this];exact g
 unfold qeC;refine Ev.bind (qq7 h hi) ?_;rw[qw hi];simp only[jd];exact Ev.bind f .done
theorem qtc{b:qd}(h:blockB b=true){i:Nat}(hi:i<b.Ac.length):∀k,k<(gt b.Ac i).Aj.length->∀m,m<=k->0<=gt (dlL (gt b.Ac i) (loadsL b i) k) m/\gt (dlL (gt b.Ac i) (loadsL b i) k) m<=43000000*k:=by
 have l:=qbK h hi;have t:=l.hi;have r:=l.res;intro k
 induction k with
 |zero=>
  intro _ m u;have f:m=0:=by omega
  subst f;exact⟨jQ _,jQ _⟩
 |succ k ih=>
  intro o m u;have c:=qoq (w:=gt b.Ac i) (ld:=loadsL b i) (k:=k);unfold dlL;rw[qlO];split
  ·have:=ih (by omega) m (by omega);omega
  ·have g:m=k+1:=by omega
   subst g;rw[c,Nat.sub_self];show 0<=W64 _/\W64 _<=_;have p:=l.par (k+1) (by omega) o;obtain⟨a,s⟩:∃a:Nat,at0 (gt b.Ac i).Aj (k+1)=(a:Int):=⟨_,qdu p.1⟩;rw[s] at p⊢;rw[jp];have v:=ih (by omega) a (by omega);have n:=(qpC h hi).2 (k+1) (by omega);have d:=qt4 h hi o;have x:at0 (gt b.Ac i).Br (k+1)*gt (loadsL b i) (k+1)<=1000*43000:=jX n.2 d.2 d.1 (by omega);have y:0<=at0 (gt b.Ac i).Br (k+1)*gt (loadsL b i) (k+1):=jV n.1 d.1;rw[wO (at0 (gt b.Ac i).Br (k+1)*gt (loadsL b i) (k+1)),qQ (by omega) (by omega)];omega
theorem qoa{b:qd}(h:blockB b=true){i:Nat}(hi:i<b.Ac.length){j:Nat}(a:j<(gt b.Ac i).Bb.length):0<=gt (exactL b i) j/\gt (exactL b i) j<=344000000:=by
 have c:=qbK h hi;have d:=c.hi;have f:=c.sin j a;have e:gt (exactL b i) j=gt (delaysL b i) (at0 (gt b.Ac i).Bb j).toNat:=by
  unfold exactL;rw[qeQ (by rw[jt];exact a),List.getElem_map,qhF a]
 rw[e];have:=qtc h hi ((gt b.Ac i).Aj.length-1) (by omega) (at0 (gt b.Ac i).Bb j).toNat (by omega);show 0<=gt (dlL _ _ _) _/\gt (dlL _ _ _) _<=_;omega

def pre{α:Type}(f:Nat->α)(j:Nat):List α:=(List.range j).map f
theorem qlf{α:Type}{f:Nat->α}{j:Nat}:(pre f j).length=j:=by simp[pre]
theorem qv0{α:Type}{f:Nat->α}{j:Nat}:pre f j++[f j]=pre f (j+1):=by unfold pre;rw[List.range_succ,jZ];rfl
theorem qsc{α:Type}{f:Nat->α}{j:Nat}(h:j<=1048576):appS (pre f j) [f j]=V (pre f (j+1)):=by
 rw[qcx (by rw[qlf,jh];omega),qv0]
theorem qvP{α:Type}[Inhabited α]{f:Nat->α}{n j:Nat}(h:j<n):gt (pre f n) j=f j:=qqs h
theorem qjg{α:Type}[Inhabited α]{f:Nat->α}{n j:Nat}(h:j<n):idx (pre f n) (j:Int)=V (f j):=by rw[qw (by rw[qlf];exact h),qvP h]
theorem qhT{α:Type}{f g:Nat->α}{n:Nat}(h:∀k,k<n->f k=g k):pre f n=pre g n:=List.map_congr_left fun k a=>h k (List.mem_range.1 a)
theorem qos{α:Type}{f:Nat->α}{n k:Nat}{v:α}:setS (pre f n) (k:Int) v=pre (fun i=>if i=k then v else f i) n:=by
 unfold setS pre;rw[jp];refine Jh (by simp) fun i a b=>?_;rw[List.getElem_set];by_cases h:k=i
 ·subst h;simp
 ·rw[if_neg h];simp[show ¬ i=k from fun e=>h e.symm]
def fm{α:Type}(f:Nat->List α)(j:Nat):List α:=(List.range j).flatMap f
theorem qkg{α:Type}{f:Nat->List α}{j:Nat}:fm f (j+1)=fm f j++f j:=by unfold fm;rw[List.range_succ,List.flatMap_append];simp
theorem qpz{α:Type}{f:Nat->List α}{j c:Nat}(h:∀i,i<j->(f i).length<=c):(fm f j).length<=c*j:=by
 induction j with
 |zero=>exact jf _
 |succ j ih=>rw[qkg,jg];have:=ih (fun i hi=>h i (by omega));have:=h j (by omega);rw[Nat.mul_succ];omega
def transL(a:qay):List qW:=
 bif (a.Au==2) then[⟨0,0⟩,⟨0,1⟩] else bif (a.Au==3) then[⟨1,0⟩,⟨1,1⟩] else bif (a.Au != 1) then[] else
 bif (a.Bk==1) then[⟨0,0⟩,⟨1,1⟩] else bif (a.Bk==2) then[⟨0,1⟩,⟨1,0⟩] else[⟨0,0⟩,⟨0,1⟩,⟨1,0⟩,⟨1,1⟩]
theorem qvb{a:qay}{n:Nat}:qfL n a=V (transL a):=by
 unfold qfL transL;cases (a.Au==2)
 ·cases (a.Au==3)
  ·cases (a.Au != 1)
   ·cases (a.Bk==1)
    ·cases (a.Bk==2)<;>rfl
    ·rfl
   ·rfl
  ·rfl
 ·rfl
theorem qqn{a:qay}:(transL a).length<=4:=by
 unfold transL;cases (a.Au==2)
 ·cases (a.Au==3)
  ·cases (a.Au != 1)
   ·cases (a.Bk==1)
    ·cases (a.Bk==2)<;>simp
    ·simp
   ·simp
  ·simp
 ·simp
def b01(x:Int):Prop:=x=0\/x=1
theorem qrO{a:qay}{t:qW}(h:t∈transL a):b01 t.e0/\b01 t.e1:=by
 have b:∀t∈[(⟨0,0⟩:qW),⟨0,1⟩,⟨1,0⟩,⟨1,1⟩],b01 t.e0/\b01 t.e1:=by
  intro t c;simp only[jK,jz,or_false] at c;rcases c with rfl|rfl|rfl|rfl<;>simp[b01]
 refine b t ?_;unfold transL at h;revert h;cases (a.Au==2)
 ·cases (a.Au==3)
  ·cases (a.Au != 1)
   ·cases (a.Bk==1)
    ·cases (a.Bk==2)
     ·exact fun h=>h
     ·intro h;simp at h;rcases h with rfl|rfl<;>simp
    ·intro h;simp at h;rcases h with rfl|rfl<;>simp
   ·intro h;simp at h
  ·intro h;simp at h;rcases h with rfl|rfl<;>simp
 ·intro h;simp at h;rcases h with rfl|rfl<;>simp
def al1(first:Int)(k:Nat)(a:qay)(t:qW):qv:=⟨2*(first+a.Be)+t.e0,2*(first+a.To)+t.e1,1,(k:Int)⟩
def arcLs(first:Int)(k:Nat)(a:qay):List qv:=(transL a).map (al1 first k a)
def cellLs(c:qL)(first:Int)(j:Nat):List qv:=fm (fun k=>arcLs first k (gt c.Aq k)) j
def instLs(b:qd)(j:Nat):List qv:=fm (fun i=>cellLs (cellAt b (i:Int)) (off b.Aa i:Int) (cellAt b (i:Int)).Aq.length) j
theorem qoT{first:Int}{k:Nat}{a:qay}:(arcLs first k a).length<=4:=by unfold arcLs;rw[jt];exact qqn
theorem qrR{b:qd}(h:blockB b=true){i:Nat}(hi:i<b.Aa.Ab.length):Ev (fun n=>qfX n b (gt b.Aa.Ab i) (off b.Aa i:Int)) (cellLs (cellAt b (i:Int)) (off b.Aa i:Int) (cellAt b (i:Int)).Aq.length):=by
 have u:=qan h;have D:=qY u;obtain⟨⟨z,c1⟩,r,g⟩:=qhN u hi;have B:=qn6 g;have s:=(qhJ (qjx g)).1;have v:off b.Aa i<=78:=by
  have:=qaV D;rw[qhB] at this;have:=qtL (d:=b.Aa) (show i<=b.Aa.Ab.length by omega);omega
 show Ev _ (cellLs (gt b.Am.Ap (gt b.Aa.Ab i).Bq.toNat) (off b.Aa i:Int) (gt b.Am.Ap (gt b.Aa.Ab i).Bq.toNat).Aq.length);generalize hc:gt b.Am.Ap (gt b.Aa.Ab i).Bq.toNat=c at r g B s⊢;have A:Ev (fun n=>qbw (off b.Aa i:Int) c n ([]:List qv) 0) (cellLs c (off b.Aa i:Int) c.Aq.length,(c.Aq.length:Int)):=by
  refine loopF (Lf:=qbw (off b.Aa i:Int) c) (S:=cellLs c (off b.Aa i:Int)) (len:=c.Aq.length) (fun n=>?_) (fun j p X o=>?_)
  ·simp only[qbw,qq (jf _),cond_false]
  ·have H:=qnr g p;have C:(cellLs c (off b.Aa i:Int) j).length<=4*j:=qpz fun _ _=>qoT;simp only[qbw,qp p,cond_true,qw p,jd,qvb,wS j];have m:Ev (fun n=>qbD (off b.Aa i:Int) (j:Int) (gt c.Aq j) (transL (gt c.Aq j)) n (cellLs c (off b.Aa i:Int) j) 0) (cellLs c (off b.Aa i:Int) (j+1),((transL (gt c.Aq j)).length:Int)):=by
    have F:=qqn (a:=gt c.Aq j);have:=loopF (Lf:=qbD (off b.Aa i:Int) (j:Int) (gt c.Aq j) (transL (gt c.Aq j))) (S:=fun k=>cellLs c (off b.Aa i:Int) j++((transL (gt c.Aq j)).take k).map (al1 (off b.Aa i:Int) j (gt c.Aq j))) (len:=(transL (gt c.Aq j)).length) (fin:=(cellLs c (off b.Aa i:Int) (j+1),((transL (gt c.Aq j)).length:Int))) (fun n=>by
      simp only[qbD,qq (jf _),cond_false,jG];show V (cellLs c _ j++arcLs _ j _,_)=V (fm _ (j+1),_);rw[qkg];rfl)
     (fun k f X o=>by
      have y:=qrO (a:=gt c.Aq j) (t:=gt (transL (gt c.Aq j)) k) (by rw[qeQ f];exact jo f);have e0:W64 (W64 (2*W64 ((off b.Aa i:Int)+(gt c.Aq j).Be))+(gt (transL (gt c.Aq j)) k).e0)=2*((off b.Aa i:Int)+(gt c.Aq j).Be)+(gt (transL (gt c.Aq j)) k).e0:=by
       rcases y.1 with e|e<;>rw[e,wO ((off b.Aa i:Int)+(gt c.Aq j).Be),qQ (x:=2*((off b.Aa i:Int)+(gt c.Aq j).Be)) (by omega) (by omega),qQ (by omega) (by omega)]
      have e1:W64 (W64 (2*W64 ((off b.Aa i:Int)+(gt c.Aq j).To))+(gt (transL (gt c.Aq j)) k).e1)=2*((off b.Aa i:Int)+(gt c.Aq j).To)+(gt (transL (gt c.Aq j)) k).e1:=by
       rcases y.2 with e|e<;>rw[e,wO ((off b.Aa i:Int)+(gt c.Aq j).To),qQ (x:=2*((off b.Aa i:Int)+(gt c.Aq j).To)) (by omega) (by omega),qQ (by omega) (by omega)]
      simp only[qbD,qp f,cond_true,qw f,jd,e0,e1,wS k];rw[qcx (by rw[jg,jt,jN,jh];omega),jv];have:((transL (gt c.Aq j)).take k).map (al1 (off b.Aa i:Int) j (gt c.Aq j))++[al1 (off b.Aa i:Int) j (gt c.Aq j) (gt (transL (gt c.Aq j)) k)]=((transL (gt c.Aq j)).take (k+1)).map (al1 (off b.Aa i:Int) j (gt c.Aq j)):=qgH f;have l:((transL (gt c.Aq j)).take k).map (al1 (off b.Aa i:Int) j (gt c.Aq j))++[(⟨2*((off b.Aa i:Int)+(gt c.Aq j).Be)+(gt (transL (gt c.Aq j)) k).e0,2*((off b.Aa i:Int)+(gt c.Aq j).To)+(gt (transL (gt c.Aq j)) k).e1,1,(j:Int)⟩:qv)]=((transL (gt c.Aq j)).take (k+1)).map (al1 (off b.Aa i:Int) j (gt c.Aq j)):=this;rw[l];exact o)
    simpa using this
   exact Ev.bind m o
 unfold qfX;rw[qf1 z c1,hc];simp only[jd];exact Ev.bind A .done
def dvN(d:qj)(k:Nat):Nat:=((List.range (places d).length).find? fun j=>drvQ d (k:Int) j).getD 0
theorem qim{l:qE}{d:qj}(h:designB l d=true){k:Nat}(f:k<d.Ah.length):dvN d k<(places d).length/\drvQ d (k:Int) (dvN d k)=true:=by
 obtain⟨j,b,c,a⟩:=qxG h (k:=(k:Int)) (by omega) (by omega);unfold dvN;cases hf:(List.range (places d).length).find? fun j=>drvQ d (k:Int) j with
 |none=>
  have:=List.find?_eq_none.1 hf j (List.mem_range.2 b);exact absurd (by unfold drvQ;rw[c,a];simp) this
 |some i=>exact⟨List.mem_range.1 (List.mem_of_find?_eq_some hf),by have:=List.find?_some hf;exact this⟩
theorem qlD{d:qj}{k:Int}{j:Nat}:drvQ d k j=true↔(gt (places d) j).net=k/\(gt (places d) j).drives=true:=by unfold drvQ;simp
theorem qsD{l:qE}{d:qj}(h:designB l d=true){k:Nat}(m:k<d.Ah.length){j:Nat}(i:j<(places d).length)(n:(gt (places d) j).net=(k:Int))(g:(gt (places d) j).drives=true):dvN d k=j:=by
 obtain⟨a,b⟩:=qim h m;obtain⟨c,f⟩:=qlD.1 b;exact qtf h a i (by rw[c,n]) f g
def wl1(a:Nat)(s:Int)(k:Nat):List qv:=[⟨2*(a:Int),2*s,2,(k:Int)⟩,⟨2*(a:Int)+1,2*s+1,2,(k:Int)⟩]
def wlN(b:qd)(i j:Nat):List qv:=fm (fun k=>wl1 (dvN b.Aa i) (at0 (skL b i) k) k) j
def wireLs(b:qd)(j:Nat):List qv:=fm (fun i=>wlN b i (skL b i).length) j
def linksL(b:qd):List qv:=instLs b b.Aa.Ab.length++wireLs b b.Ac.length
def load0(b:qd)(i:Nat):Int:=gt (loadsL b i) 0
def viewE(b:qd)(ex:List Int):Tview:=⟨b,places b.Aa,linksL b,pre (load0 b) b.Ac.length,pre (exactL b) b.Ac.length,ex⟩
def viewV(b:qd):Tview:=viewE b []
theorem qjt{b:qd}(h:blockB b=true){j:Nat}(d:j<=b.Aa.Ab.length):(instLs b j).length<=32*j:=by
 refine qpz fun i hi=>?_;obtain⟨_,_,a⟩:=qhN (qan h) (show i<b.Aa.Ab.length by omega);have c:=qn6 a;have:(cellLs (cellAt b (i:Int)) (off b.Aa i:Int) (cellAt b (i:Int)).Aq.length).length<=4*(cellAt b (i:Int)).Aq.length:=qpz fun _ _=>qoT;have e:(cellAt b (i:Int)).Aq.length<=8:=c;omega
theorem qr4{b:qd}{i j:Nat}:(wlN b i j).length<=2*j:=qpz fun _ _=>jf _
theorem qn7{b:qd}(h:blockB b=true){j:Nat}:(wireLs b j).length<=156*j:=by
 refine qpz fun i _=>?_;have:=qr4 (b:=b) (i:=i) (j:=(skL b i).length);have:=qhY h (i:=i);omega
theorem qkR{b:qd}(h:blockB b=true):(linksL b).length<=10000:=by
 have a:=qY (qan h);have c:=a.ni;have d:=a.nn;have f:=qfh h;have g:=qjt h (jf _);have i:=qn7 h (j:=b.Ac.length);unfold linksL;rw[jg];omega
theorem qtG{b:qd}(h:blockB b=true):Ev (fun n=>qkc n b) (V (viewV b)):=by
 have r:=qan h;have z:=qY r;have Q:=qaV z;have W:=z.ni;have Y:=z.nn;have hwl:=qfh h;have e1:Ev (fun n=>qeq b n ([]:List qv) 0 0) (instLs b b.Aa.Ab.length,(off b.Aa b.Aa.Ab.length:Int),(b.Aa.Ab.length:Int)):=by
  have:=loopF (τ:=List qv×Int) (Lf:=fun n t j=>qeq b n t.1 t.2 j) (S:=fun j=>(instLs b j,(off b.Aa j:Int))) (len:=b.Aa.Ab.length) (fin:=(instLs b b.Aa.Ab.length,(off b.Aa b.Aa.Ab.length:Int),(b.Aa.Ab.length:Int))) (fun n=>by simp only[qeq,qq (jf _),cond_false])
   (fun j a X m=>by
    have F:=qjt h (show j<=b.Aa.Ab.length by omega);have M:=qjt h (show j+1<=b.Aa.Ab.length by omega);have N:=qkP (d:=b.Aa) (i:=j);have a3:off b.Aa (j+1)<=78:=by
     rw[qhB] at Q;have:=qtL (d:=b.Aa) (show j+1<=b.Aa.Ab.length by omega);omega
    simp only[qeq,qp a,cond_true,qw a,jd,qbI,wS j];refine Ev.bind (qrR h a) ?_;have e:instLs b j++cellLs (cellAt b (j:Int)) (off b.Aa j:Int) (cellAt b (j:Int)).Aq.length=instLs b (j+1):=qkg.symm;rw[qcx (by rw[<-jg,e];omega),e,qQ (by omega) (by omega),show(off b.Aa j:Int)+((gt b.Aa.Ab j).Ah.length:Int)=((off b.Aa (j+1):Nat):Int) by omega];exact m)
  exact this
 have I:mkS (b.Ac.length:Int) (0:Int)=V (vecI (fun _=>0) b.Ac.length):=qrG (by omega);have J:mkS (b.Ac.length:Int) ([]:List Int)=V (pre (fun _=>[]) b.Ac.length):=by
  rw[qkk (by omega)]
  congr 1
  refine Jh (by simp[pre]) fun i u h2=>?_;simp[pre]
 have e2:Ev (fun n=>qdr (places b.Aa) n (pre (fun _=>[]) b.Ac.length) (vecI (fun _=>0) b.Ac.length) 0) (pre (fun i=>skL b i) b.Ac.length,vecI (fun k=>(dvN b.Aa k:Int)) b.Ac.length,((places b.Aa).length:Int)):=by
  have v:∀k,k<b.Ac.length->dvN b.Aa k<(places b.Aa).length:=fun k o=>(qim r (by omega)).1;have:=loopF (τ:=List (List Int)×List Int) (Lf:=fun n t j=>qdr (places b.Aa) n t.1 t.2 j) (S:=fun j=>(pre (fun i=>sinksL b.Aa (i:Int) j) b.Ac.length,vecI (fun k=>if dvN b.Aa k<j then(dvN b.Aa k:Int) else 0) b.Ac.length)) (len:=(places b.Aa).length)
   (fin:=(pre (fun i=>skL b i) b.Ac.length,vecI (fun k=>(dvN b.Aa k:Int)) b.Ac.length,((places b.Aa).length:Int))) (fun n=>by
    simp only[qdr,qq (jf _),cond_false];rw[qf8 (g:=fun k=>(dvN b.Aa k:Int)) (fun k o=>if_pos (v k o))]
    rfl)
   (fun j a X m=>by
    obtain⟨n0,n1⟩:=ql7 r a;obtain⟨l,p⟩:∃l:Nat,(gt (places b.Aa) j).net=(l:Int):=⟨_,qdu n0⟩;have x:l<b.Ac.length:=by omega
    simp only[qdr,qp a,cond_true,qw a,jd,p,wS j,qm5 x,qjg (f:=fun i=>sinksL b.Aa (i:Int) j) x];cases hdr:(gt (places b.Aa) j).drives
    ·have A:pre (fun i=>sinksL b.Aa (i:Int) (j+1)) b.Ac.length=setS (pre (fun i=>sinksL b.Aa (i:Int) j) b.Ac.length) (l:Int) (sinksL b.Aa (l:Int) j++[(j:Int)]):=by
      rw[qos];refine qhT fun k o=>?_;rw[qjS];unfold snkQ;rw[p,hdr];by_cases c:k=l
      ·subst c;rw[if_pos Z];simp
      ·rw[if_neg c,show(((l:Int)==(k:Int))&&!false)=false by simp;omega];simp
     have B:vecI (fun k=>if dvN b.Aa k<j+1 then(dvN b.Aa k:Int) else 0) b.Ac.length=vecI (fun k=>if dvN b.Aa k<j then(dvN b.Aa k:Int) else 0) b.Ac.length:=by
      refine qf8 fun k o=>?_;have K:dvN b.Aa k≠j:=fun e=>by
       have:=(qlD.1 (qim r (k:=k) (by omega)).2).2;rw[e,hdr] at this;cases this
      by_cases u:dvN b.Aa k<j
      ·rw[if_pos u,if_pos (by omega)]
      ·rw[if_neg u,if_neg (by omega)]
     rw[A,B] at m;simp only[cond_false];have a6:(sinksL b.Aa (l:Int) j).length<=j:=by rw[qjr];exact qgE
     rw[qcx (by rw[jh];omega)];exact m
    ·have A:pre (fun i=>sinksL b.Aa (i:Int) (j+1)) b.Ac.length=pre (fun i=>sinksL b.Aa (i:Int) j) b.Ac.length:=by
      refine qhT fun k o=>?_;rw[qjS];unfold snkQ;rw[hdr];simp
     have H:=qsD r (show l<b.Aa.Ah.length by omega) a p hdr;have B:vecI (fun k=>if dvN b.Aa k<j+1 then(dvN b.Aa k:Int) else 0) b.Ac.length=setS (vecI (fun k=>if dvN b.Aa k<j then(dvN b.Aa k:Int) else 0) b.Ac.length) (l:Int) (j:Int):=by
      rw[qqp];refine qf8 fun k o=>?_;by_cases c:k=l
      ·subst c;rw[if_pos Z,H,if_pos (by omega)]
      ·rw[if_neg c];have K:dvN b.Aa k≠j:=fun e=>by
        have:=(qlD.1 (qim r (k:=k) (by omega)).2).1;rw[e,p] at this;omega
       by_cases u:dvN b.Aa k<j
       ·rw[if_pos u,if_pos (by omega)]
       ·rw[if_neg u,if_neg (by omega)]
     rw[A,B] at m;exact m)
  simpa [sinksL,pre,vecI] using this
 have D:∀(i k:Nat) (s:Int) (t:List qv),i<b.Ac.length->0<=s->s<=78->t.length<=1000000->Ev (fun n=>qen (vecI (fun k=>(dvN b.Aa k:Int)) b.Ac.length) (i:Int) (k:Int) s n t 0) (t++wl1 (dvN b.Aa i) s k,2):=by
  intro i k s t hi a4 a5 ht;have v:=(qim r (k:=i) (by omega)).1;have L:idx (vecI (fun k=>(dvN b.Aa k:Int)) b.Ac.length) (i:Int)=V (dvN b.Aa i:Int):=qm5 hi;refine Ev.succ ?_;simp only[qen,L,jd];refine Ev.tt Z ?_;rw[wO (2*(dvN b.Aa i:Int)),wO (2*s),wO (2*(dvN b.Aa i:Int)+0),wO (2*s+0),qcx (by rw[jh];omega)];simp only[jd];refine Ev.succ ?_;simp only[qen,L,jd];refine Ev.tt Z ?_;rw[show W64 (0+1)=1 from rfl,wO (2*(dvN b.Aa i:Int)),wO (2*s),wO (2*(dvN b.Aa i:Int)+1),wO (2*s+1),qcx (by rw[jg,jh,jh];omega)];simp only[jd];refine Ev.succ ?_;simp only[qen];refine Ev.ff Z (Ev.now ?_);unfold wl1;rw[jv,Jd,Jd]
  rfl
 have C:∀(i:Nat) (t:List qv),i<b.Ac.length->t.length<=900000->Ev (fun n=>qee (vecI (fun k=>(dvN b.Aa k:Int)) b.Ac.length) (i:Int) (skL b i) n t 0) (t++wlN b i (skL b i).length,((skL b i).length:Int)):=by
  intro i t hi ht;have a7:=qhY h (i:=i);have:=loopF (Lf:=qee (vecI (fun k=>(dvN b.Aa k:Int)) b.Ac.length) (i:Int) (skL b i)) (S:=fun k=>t++wlN b i k) (len:=(skL b i).length) (fin:=(t++wlN b i (skL b i).length,((skL b i).length:Int))) (fun n=>by simp only[qee,qq (jf _),cond_false])
   (fun k o X m=>by
    obtain⟨y,L,ey,_⟩:=qn1 o;have hwn:=qr4 (b:=b) (i:=i) (j:=k);simp only[qee,qp o,cond_true,qar o,jd,wS k];refine Ev.bind (D i k (at0 (skL b i) k) (t++wlN b i k) hi (by omega) (by omega) (by rw[jg];omega)) ?_;rw[jv,show wlN b i k++wl1 (dvN b.Aa i) (at0 (skL b i) k) k=wlN b i (k+1) from qkg.symm];exact m)
  simpa [wlN,fm] using this
 have P:Ev (fun n=>qew b (pre (fun i=>skL b i) b.Ac.length) (vecI (fun k=>(dvN b.Aa k:Int)) b.Ac.length) n ([]:List (List Int)) ([]:List Int) (instLs b b.Aa.Ab.length) 0) (pre (exactL b) b.Ac.length,pre (load0 b) b.Ac.length,linksL b,(b.Ac.length:Int)):=by
  have F:=qjt h (jf _);have:=loopF (τ:=List (List Int)×List Int×List qv) (Lf:=fun n t j=>qew b (pre (fun i=>skL b i) b.Ac.length) (vecI (fun k=>(dvN b.Aa k:Int)) b.Ac.length) n t.1 t.2.1 t.2.2 j) (S:=fun j=>(pre (exactL b) j,pre (load0 b) j,instLs b b.Aa.Ab.length++wireLs b j)) (len:=b.Ac.length)
   (fin:=(pre (exactL b) b.Ac.length,pre (load0 b) b.Ac.length,linksL b,(b.Ac.length:Int))) (fun n=>by simp only[qew,qq (jf _),cond_false];rfl)
   (fun j a X m=>by
    have hw:=qbK h a;have T:=hw.lo;have R:=qmw h a;have O:=qn7 h (j:=j);simp only[qew,qp a,cond_true,wS j];refine Ev.bind (qoz h a) ?_;rw[show idx (loadsL b j) (0:Int)=V (load0 b j) from qw (j:=0) (by omega)];simp only[jd];rw[qsc (by omega)];simp only[jd];refine Ev.bind (qqN h a) ?_;rw[qsc (by omega),qjg (f:=fun i=>skL b i) a];simp only[jd];refine Ev.bind (C j _ a (by rw[jg];omega)) ?_;rw[jv,show wireLs b j++wlN b j (skL b j).length=wireLs b (j+1) from qkg.symm];exact m)
  simpa [wireLs,fm,pre] using this
 unfold qkc;refine Ev.bind (qnH z) (Ev.bind e1 ?_);rw[I,J];simp only[jd];exact Ev.bind e2 (Ev.bind P .done)

structure LkOk(ls:List qv)(M:Nat):Prop where
 len:ls.length<=10000
 nodes:M<=156
 fr0:∀x,x<ls.length->0<=(gt ls x).Be
 fr1:∀x,x<ls.length->(gt ls x).Be<(M:Int)
 to0:∀x,x<ls.length->0<=(gt ls x).To
 to1:∀x,x<ls.length->(gt ls x).To<(M:Int)
def frL(ls:List qv)(x:Nat):Int:=(gt ls x).Be
def toL(ls:List qv)(x:Nat):Int:=(gt ls x).To
def lvL(lv:List Bool)(x:Nat):Bool:=gt lv x
abbrev inL(ls:List qv)(lv:List Bool)(j:Nat)(R:List Nat)(k:Nat):Nat:=inN j (frL ls) (toL ls) (lvL lv) R k
abbrev nxtL(ls:List qv)(lv:List Bool)(M:Nat)(R:List Nat):Option Nat:=nxtN ls.length (frL ls) (toL ls) (lvL lv) M R
abbrev ordL(ls:List qv)(lv:List Bool)(M m:Nat)(R:List Nat):Option (List Nat):=ordN ls.length (frL ls) (toL ls) (lvL lv) M m R
def ordR(ls:List qv)(lv:List Bool)(M:Nat):List Int×Bool:=match ordL ls lv M M [] with|some R=>(ints R,true)|none=>([],false)
theorem qvk{ls:List qv}{lv:List Bool}{M m:Nat}{R:List Nat}(h:nxtL ls lv M R=G):ordL ls lv M (m+1) R=G:=by
 show(match nxtL ls lv M R with|none=>G|some k=>ordL ls lv M m (R++[k]))=G;rw[h]
theorem quL{ls:List qv}{lv:List Bool}{M m k:Nat}{R:List Nat}(h:nxtL ls lv M R=V k):ordL ls lv M (m+1) R=ordL ls lv M m (R++[k]):=by
 show(match nxtL ls lv M R with|none=>G|some k=>ordL ls lv M m (R++[k]))=_;rw[h]
theorem qlJ{M:Nat}{v:Bool}(h:M<=2147483648):mkS (M:Int) v=V (pre (fun _=>v) M):=by
 rw[qkk h]
 congr 1
 refine Jh (by simp[pre]) fun i a b=>?_;simp[pre]
theorem qx4{L:Nat}{fr to:Nat->Int}{lv:Nat->Bool}{R:List Nat}{k:Nat}:inN L fr to lv R k<=L:=qgE
theorem qsq{L:Nat}{fr to:Nat->Int}{lv:Nat->Bool}{R:List Nat}{k:Nat}:inN (L+1) fr to lv R k=inN L fr to lv R k+(bif lv L&&(to L==(k:Int)&&!decide (fr L∈ints R)) then 1 else 0):=rfl
def ledB(ls:List qv)(lv:List Bool)(j:Nat)(R:List Nat)(M:Nat):List Bool:=pre (fun k=>!decide (inL ls lv j R k=0)) M
def inB(R:List Nat)(M:Nat):List Bool:=pre (fun k=>decide (k∈R)) M
theorem qxr{ls:List qv}{lv:List Bool}{M:Nat}(h:LkOk ls M)(A:lv.length=ls.length){R:List Nat} :
  Ev (fun n=>qcT ls lv (inB R M) n (pre (fun _=>false) M) 0) (ledB ls lv ls.length R M,(ls.length:Int)):=by
 have x:=h.len;refine loopF (Lf:=qcT ls lv (inB R M)) (S:=fun j=>ledB ls lv j R M) (len:=ls.length) (fun n=>?_) (fun j l X i=>?_)
 ·simp only[qcT,qq (jf _),cond_false]
 ·obtain⟨a,u⟩:∃a:Nat,(gt ls j).Be=(a:Int):=⟨_,qdu (h.fr0 j l)⟩;obtain⟨c,v⟩:∃c:Nat,(gt ls j).To=(c:Int):=⟨_,qdu (h.to0 j l)⟩;have p:a<M:=by have:=h.fr1 j l;omega
  have r:c<M:=by have:=h.to1 j l;omega
  have s:frL ls j=(a:Int):=u;have o:toL ls j=(c:Int):=v;have b:decide (frL ls j∈ints R)=decide (a∈R):=by rw[s];exact decide_eq_decide.2 qlP
  have y:idx (inB R M) (a:Int)=V (decide (a∈R)):=qjg (f:=fun k=>decide (k∈R)) p;have z:idx (ledB ls lv j R M) (c:Int)=V (!decide (inL ls lv j R c=0)):=qjg (f:=fun k=>!decide (inL ls lv j R k=0)) r;have t:(lvL lv j&&!decide (a∈R))=true->ledB ls lv (j+1) R M=setS (ledB ls lv j R M) (c:Int) true:=by
   intro g;unfold ledB;rw[qos];refine qhT fun k _=>?_;show(!decide (inN (j+1) _ _ _ R k=0))=_;rw[qsq,o,b];by_cases m:k=c
   ·subst m;rw[if_pos Z];simp only[je] at g;simp[g.1,g.2]
   ·rw[if_neg m,show((c:Int)==(k:Int))=false by simp;omega];simp
  have d:(lvL lv j&&!decide (a∈R))=false->ledB ls lv (j+1) R M=ledB ls lv j R M:=by
   intro g;unfold ledB;refine qhT fun k _=>?_;show(!decide (inN (j+1) _ _ _ R k=0))=_;rw[qsq,o,b,show(lvL lv j&&(((c:Int)==(k:Int))&&!decide (a∈R)))=false by
    cases h1:lvL lv j
    ·rfl
    ·rw[h1] at g;simp only[jy] at g;rw[g];simp]
   simp
  simp only[qcT,qp l,cond_true,qw (show j<lv.length by omega),qw l,jd,u,v,y,z,wS j];cases h1:gt lv j
  ·simp only[cond_false,jd];have:=d (by unfold lvL;rw[h1];rfl);rw[this] at i;exact i
  ·simp only[cond_true,jd];cases h2:decide (a∈R)
   ·simp only[Bool.not_false,cond_true];have:=t (by unfold lvL;rw[h1,h2];rfl);rw[this] at i;exact i
   ·simp only[Jj,cond_false];have:=d (by unfold lvL;rw[h1,h2];rfl);rw[this] at i;exact i
theorem qvQ{ls:List qv}{lv:List Bool}{M:Nat}(h:LkOk ls M){R:List Nat} :
  Ev (fun n=>qce (M:Int) (inB R M) (ledB ls lv ls.length R M) n 0) (match nxtL ls lv M R with|some k=>(k:Int)|none=>(M:Int)):=by
 have u:=h.nodes;have b:∀d j,j+d=M->(∀i,i<j->freeN ls.length (frL ls) (toL ls) (lvL lv) R i=false) ->
   Ev (fun n=>qce (M:Int) (inB R M) (ledB ls lv ls.length R M) n (j:Int)) (match nxtL ls lv M R with|some k=>(k:Int)|none=>(M:Int)):=by
  intro d
  induction d with
  |zero=>
   intro j p c;have l:nxtL ls lv M R=G:=by
    show(List.range M).find? _=G;rw[List.find?_eq_none];intro x r;rw[List.mem_range] at r;rw[c x (by omega)];simp
   rw[l];refine Ev.succ ?_;simp only[qce,qq (show M<=j by omega),cond_false];rw[show j=M by omega];exact .done
  |succ d ih=>
   intro j p c;have a:j<M:=by omega
   have s:idx (inB R M) (j:Int)=V (decide (j∈R)):=qjg (f:=fun k=>decide (k∈R)) a;have t:idx (ledB ls lv ls.length R M) (j:Int)=V (!decide (inL ls lv ls.length R j=0)):=qjg (f:=fun k=>!decide (inL ls lv ls.length R k=0)) a;refine Ev.succ ?_;simp only[qce,qp a,cond_true,s,t,jd,wS j];have m:freeN ls.length (frL ls) (toL ls) (lvL lv) R j=false->Ev (fun n=>qce (M:Int) (inB R M) (ledB ls lv ls.length R M) n ((j+1:Nat):Int)) (match nxtL ls lv M R with|some k=>(k:Int)|none=>(M:Int)):=fun o=>
    ih (j+1) (by omega) fun i hi=>by
     by_cases g:i=j
     ·rw[g];exact o
     ·exact c i (by omega)
   cases h1:decide (j∈R)
   ·simp only[cond_false];cases h2:decide (inL ls lv ls.length R j=0)
    ·simp only[Bool.not_false,cond_true];exact m (by unfold freeN;rw[h1];show(!false&&decide (inL ls lv ls.length R j=0))=false;rw[h2];rfl)
    ·simp only[Jj,cond_false];have:nxtL ls lv M R=V j:=by
      show(List.range M).find? _=V j;rw[List.find?_range_eq_some];refine⟨?_,List.mem_range.2 a,fun i hi=>by rw[c i hi];rfl⟩;unfold freeN;rw[h1];show(!false&&decide (inL ls lv ls.length R j=0))=true;rw[h2];rfl
     rw[this];exact .done
   ·simp only[cond_true];exact m (by unfold freeN;rw[h1];rfl)
 exact b M 0 (by omega) (fun i hi=>absurd hi (by omega))
theorem qvp{ls:List qv}{lv:List Bool}{M:Nat}(h:LkOk ls M)(g:lv.length=ls.length):Ev (fun n=>qin n (M:Int) ls lv) (ordR ls lv M):=by
 have o:=h.nodes;have b:∀m R,R.length+m=M->Ev (fun n=>qeZ (M:Int) ls lv n (inB R M) (ints R))
   (match ordL ls lv M m R with|some R'=>.nxt (inB R' M,ints R')|none=>.ret ([],false)):=by
  intro m
  induction m with
  |zero=>
   intro R c;refine Ev.succ ?_;simp only[qeZ,qbv,qq (show M<=R.length by omega),cond_false];exact .done
  |succ m ih=>
   intro R c;refine Ev.succ ?_;simp only[qeZ,qbv,qp (show R.length<M by omega),cond_true,qlJ (v:=false) (show M<=2147483648 by omega),jd];refine Ev.bind (qxr h g) (Ev.bind (qvQ h) ?_);show Ev _ (match (match nxtL ls lv M R with|none=>G|some k=>ordL ls lv M m (R++[k])) with|some R'=>_|none=>_);cases hn:nxtL ls lv M R with
   |none=>
    simp only[beq_self_eq_true,cond_true];exact .done
   |some k=>
    obtain⟨d,_,_⟩:=qpb hn;have l:idx (inB R M) (k:Int)=V (decide (k∈R)):=qjg (f:=fun k=>decide (k∈R)) d;have e1:setS (inB R M) (k:Int) true=inB (R++[k]) M:=by
     unfold inB;rw[qos];refine qhT fun i _=>?_;by_cases a:i=k
     ·subst a;simp
     ·simp[a]
    simp only[show((k:Int)==(M:Int))=false by simp;omega,cond_false,l,jd];rw[qcx (by rw[qbv,jh];omega),e1,<-qkz];exact ih (R++[k]) (by rw[jg,jh];omega)
 have e0:pre (fun _=>false) M=inB [] M:=qhT fun k _=>by simp
 unfold qin;rw[qlJ (v:=false) (show M<=2147483648 by omega)];simp only[jd];rw[e0];refine Ev.bind (b M [] (by simp)) ?_;unfold ordR;cases ordL ls lv M M []<;>exact .done
def grV(ls:List qv)(lv:List Bool)(ps:List Tplace)(b:qd)(lo:List Int)(de:List (List Int))(ex:List Int):Option Tgraph:=V ⟨V ⟨b,ps,ls,lo,de,ex⟩,lv⟩
theorem qsk{xs:List Int}(c:xs.length<=1000000):Ev (fun n=>qhQ n xs 0) (ixL (fun y=>(0:Int)==y) xs):=
 qfc (fin:=(xs.length:Int)) (Lf:=qde xs 0) (pf:=fun _ y=>V ((0:Int)==y)) (fun _ _=>.done)
  (fun n=>by simp only[qde,qq (jf _),cond_false])
  (fun n j x a=>by
   have b:=(List.getElem?_eq_some_iff.1 a).1;simp only[qde,qp b,cond_true,qgM a,jd,wS j])
  (fun n=>by unfold qhQ;congr 1;funext o;cases o<;>rfl)
theorem qwH{f:Nat->Int}{M:Nat}{p:Int->Bool}:ixL p (vecI f M)=match (List.range M).find? (fun k=>p (f k)) with|some k=>(k:Int)|none=>-1:=by
 cases hf:(List.range M).find? (fun k=>p (f k)) with
 |none=>
  have a:(vecI f M).findIdx? p=G:=by
   rw[List.findIdx?_eq_none_iff];intro x g;obtain⟨k,d,rfl⟩:=List.mem_map.1 g;have:=List.find?_eq_none.1 hf k d;simpa using this
  unfold ixL;rw[a]
 |some k=>
  obtain⟨a,b,c⟩:=List.find?_range_eq_some.1 hf;rw[List.mem_range] at b;have:=qrH (p:=p) (xs:=vecI f M) (j:=k) (by rw[ql3];exact b) (by simpa [vecI] using a) (fun i hi=>by
   have:=c i hi;simpa [vecI] using this)
  rw[this]
section
variable{ls:List qv}{lv:List Bool}{M:Nat}{ps:List Tplace}{b:qd}{lo:List Int}{de:List (List Int)}{ex:List Int}
theorem qr1(h:LkOk ls M)(k:lv.length=ls.length):Ev (fun n=>qbs n (grV ls lv ps b lo de ex)) (ints (selN (lvL lv) ls.length)):=by
 have g:=h.len;have f:Ev (fun n=>qP ⟨V ⟨b,ps,ls,lo,de,ex⟩,lv⟩ ⟨b,ps,ls,lo,de,ex⟩ n ([]:List Int) 0) (ints (selN (lvL lv) ls.length),(ls.length:Int)):=by
  refine qkv (q:=lvL lv) (Lf:=qP ⟨V ⟨b,ps,ls,lo,de,ex⟩,lv⟩ ⟨b,ps,ls,lo,de,ex⟩) (len:=ls.length) (by omega) (Ev.succ ?_) (fun j a t i X c d=>?_)
  ·simp only[qP,qq (jf _),cond_false];exact .done
  ·simp only[qP,qp a,cond_true,qw a,qw (show j<lv.length by omega),jd,qiF,i,wS j];cases hq:gt lv j
   ·simp only[cond_false];exact d hq
   ·simp only[cond_true];exact c hq
 unfold qbs grV;simp only[jd];exact Ev.bind f .done
theorem qw5(h:LkOk ls M)(k:lv.length=ls.length){v:Int}:Ev (fun n=>qiu n (grV ls lv ps b lo de ex) v) (ints (selN (fun x=>lvL lv x&&(frL ls x==v)) ls.length)):=by
 have g:=h.len;have f:Ev (fun n=>qR v ⟨V ⟨b,ps,ls,lo,de,ex⟩,lv⟩ ⟨b,ps,ls,lo,de,ex⟩ n ([]:List Int) 0) (ints (selN (fun x=>lvL lv x&&(frL ls x==v)) ls.length),(ls.length:Int)):=by
  refine qkv (q:=fun x=>lvL lv x&&(frL ls x==v)) (Lf:=qR v ⟨V ⟨b,ps,ls,lo,de,ex⟩,lv⟩ ⟨b,ps,ls,lo,de,ex⟩) (len:=ls.length) (by omega) (Ev.succ ?_) (fun j d t i X c a=>?_)
  ·simp only[qR,qq (jf _),cond_false];exact .done
  ·simp only[qR,qp d,cond_true,qw d,qw (show j<lv.length by omega),jd,qje,i,wS j];unfold lvL frL at c a;cases hq:gt lv j
   ·simp only[cond_false];exact a (by rw[hq];rfl)
   ·simp only[cond_true];cases hw:(gt ls j).Be==v
    ·simp only[cond_false];exact a (by rw[hq,hw];rfl)
    ·simp only[cond_true];exact c (by rw[hq,hw];rfl)
 unfold qiu qcB grV;simp only[jd];exact Ev.bind (Ev.bind f .done) .done
theorem qwi{q:Nat->Bool}{m:Nat}{p:Nat->Bool}:(selN q m).countP p=cntP (fun x=>q x&&p x) m:=by
 induction m with
 |zero=>rfl
 |succ m ih=>
  rw[qhM,List.countP_append,ih];show _=cntP (fun x=>q x&&p x) m+(bif (q m&&p m) then 1 else 0);cases q m
  ·rfl
  ·cases hp:p m<;>simp[hp]
def cntT(ls:List qv)(S:List Nat)(k:Nat):Nat:=S.countP (fun x=>toL ls x==(k:Int))
theorem qt9{S:List Nat}{k:Nat}:cntT ls S k<=S.length:=List.countP_le_length
theorem quS{S:List Nat}{j k:Nat}(a:j<S.length):cntT ls (S.take (j+1)) k=cntT ls (S.take j) k+(if toL ls S[j]=(k:Int) then 1 else 0):=by
 unfold cntT;rw[jC a,List.countP_append];by_cases h:toL ls S[j]=(k:Int)<;>simp[h]
theorem bumpV{f:Nat->Int}{c:Nat}{S:List Nat}{j:Nat}{d v:Int}(g:j<S.length)(b:toL ls S[j]=(c:Int))(h:v=f c+d*(cntT ls (S.take j) c:Int)+d) :
  setS (vecI (fun k=>f k+d*(cntT ls (S.take j) k:Int)) M) (c:Int) v=vecI (fun k=>f k+d*(cntT ls (S.take (j+1)) k:Int)) M:=by
 rw[qqp];refine qf8 fun k _=>?_;rw[quS g,b];by_cases a:k=c
 ·subst a;rw[if_pos Z,if_pos Z,h];rw[Int.natCast_add,Int.mul_add];omega
 ·rw[if_neg a,if_neg (by omega)];simp
theorem qxL(h:LkOk ls M){S:List Nat}(p:∀x,x∈S->x<ls.length)(s:S.length<=10000) :
  Ev (fun n=>qco ⟨V ⟨b,ps,ls,lo,de,ex⟩,lv⟩ (ints S) n (vecI (fun _=>0) M) 0) (vecI (fun k=>(cntT ls S k:Int)) M,(S.length:Int)):=by
 have:=loopF (Lf:=qco ⟨V ⟨b,ps,ls,lo,de,ex⟩,lv⟩ (ints S)) (S:=fun j=>vecI (fun k=>0+1*(cntT ls (S.take j) k:Int)) M) (len:=S.length) (fin:=(vecI (fun k=>(cntT ls S k:Int)) M,(S.length:Int))) (fun n=>by
   simp only[qco,qbv,qq (jf _),cond_false,jG];rw[qf8 (f:=fun k=>0+1*(cntT ls S k:Int)) (g:=fun k=>(cntT ls S k:Int)) (fun k _=>by omega)])
  (fun j a X r=>by
   have m:=p S[j] (jo a);obtain⟨c,o⟩:∃c:Nat,(gt ls S[j]).To=(c:Int):=⟨_,qdu (h.to0 _ m)⟩;have i:c<M:=by have:=h.to1 _ m;omega
   have l:=qt9 (ls:=ls) (S:=S.take j) (k:=c);rw[jN] at l;simp only[qco,qbv,qp a,cond_true,qoL a,jd,qw m,o,qm5 i,wS j];rw[qQ (by omega) (by omega),bumpV (d:=1) a o (by omega)];exact r)
 rw[qf8 (f:=fun k=>0+1*(cntT ls (S.take 0) k:Int)) (g:=fun _=>0) (fun k _=>by unfold cntT;simp)] at this;exact this
theorem qvT(h:LkOk ls M){S:List Nat}{f:Nat->Int}(p:∀x,x∈S->x<ls.length)(u:S.length<=10000)(s:∀k,k<M->-1<=f k/\f k<=10000) :
  Ev (fun n=>qcm ⟨V ⟨b,ps,ls,lo,de,ex⟩,lv⟩ (ints S) n (vecI f M) 0) (vecI (fun k=>f k-(cntT ls S k:Int)) M,(S.length:Int)):=by
 have:=loopF (Lf:=qcm ⟨V ⟨b,ps,ls,lo,de,ex⟩,lv⟩ (ints S)) (S:=fun j=>vecI (fun k=>f k+(-1)*(cntT ls (S.take j) k:Int)) M) (len:=S.length) (fin:=(vecI (fun k=>f k-(cntT ls S k:Int)) M,(S.length:Int))) (fun n=>by
   simp only[qcm,qbv,qq (jf _),cond_false,jG];rw[qf8 (f:=fun k=>f k+(-1)*(cntT ls S k:Int)) (g:=fun k=>f k-(cntT ls S k:Int)) (fun k _=>by omega)])
  (fun j i X r=>by
   have m:=p S[j] (jo i);obtain⟨c,o⟩:∃c:Nat,(gt ls S[j]).To=(c:Int):=⟨_,qdu (h.to0 _ m)⟩;have a:c<M:=by have:=h.to1 _ m;omega
   have l:=qt9 (ls:=ls) (S:=S.take j) (k:=c);rw[jN] at l;have t:=s c a;simp only[qcm,qbv,qp i,cond_true,qoL i,jd,qw m,o,qm5 a,wS j];rw[qQ (by omega) (by omega),bumpV (d:=-1) i o (by omega)];exact r)
 rw[qf8 (f:=fun k=>f k+(-1)*(cntT ls (S.take 0) k:Int)) (g:=f) (fun k _=>by unfold cntT;simp)] at this;exact this
def openV(ls:List qv)(lv:List Bool)(R:List Nat)(k:Nat):Int:=if k∈R then -1 else(inL ls lv ls.length R k:Int)
theorem qu9{R:List Nat}:ixL (fun y=>(0:Int)==y) (vecI (openV ls lv R) M)=match nxtL ls lv M R with|some k=>(k:Int)|none=>-1:=by
 rw[qwH];have:(fun k=>((0:Int)==openV ls lv R k))=freeN ls.length (frL ls) (toL ls) (lvL lv) R:=by
  funext k
  unfold openV freeN;by_cases a:k∈R
  ·rw[if_pos a];simp[a]
  ·rw[if_neg a];simp only[a,decide_false,Bool.not_false,jy];by_cases b:inL ls lv ls.length R k=0
   ·simp[b]
   ·rw[show((0:Int)==((inL ls lv ls.length R k:Nat):Int))=false from beq_eq_false_iff_ne.2 (by omega)];simpa using b
 rw[this]
 rfl
theorem qu5(h:LkOk ls M)(t:lv.length=ls.length)(D:M=2*ps.length):Ev (fun n=>qhR n (grV ls lv ps b lo de ex)) (ordR ls lv M):=by
 have F:=h.nodes;have B:=h.len;have g:∀m R,R.length+m=M->Closed ls.length (frL ls) (toL ls) (lvL lv) R->∃y:List Int×List Int×Int,Ev (fun n=>qcn (grV ls lv ps b lo de ex) ⟨V ⟨b,ps,ls,lo,de,ex⟩,lv⟩ (vecI (fun _=>0) M) n (ints R) (vecI (openV ls lv R) M) (R.length:Int))
   (match ordL ls lv M m R with|some R'=>.nxt (ints R',y.2.1,y.2.2)|none=>.ret ([],false)):=by
  intro m
  induction m with
  |zero=>
   intro R z _;refine⟨(ints R,vecI (openV ls lv R) M,(R.length:Int)),Ev.succ ?_⟩;simp only[qcn,ql3,qq (show M<=R.length by omega),cond_false];exact .done
  |succ m ih=>
   intro R z s;have c:=qsk (xs:=vecI (openV ls lv R) M) (by rw[ql3];omega);rw[qu9] at c;cases hn:nxtL ls lv M R with
   |none=>
    rw[hn] at c;rw[qvk hn];refine⟨([],[],0),Ev.succ ?_⟩;simp only[qcn,ql3,qp (show R.length<M by omega),cond_true];exact Ev.bind c (Ev.tt (by decide) .done)
   |some k=>
    rw[hn] at c;rw[quL hn];obtain⟨A,d,r⟩:=qpb hn;obtain⟨y,o⟩:=ih (R++[k]) (by rw[jg,jh];omega) (s.snoc r);refine⟨y,Ev.succ ?_⟩;simp only[qcn,ql3,qp (show R.length<M by omega),cond_true];refine Ev.bind c (Ev.ff (by simp) ?_);rw[qm5 A,qcx (by rw[qbv,jh];omega),qqp,<-qkz];simp only[jd];refine Ev.bind (qw5 h t) ?_;have C:=qgy (q:=fun x=>lvL lv x&&(frL ls x==(k:Int))) (j:=ls.length);refine Ev.bind (qvT h (fun x p=>(qbM.1 p).1) (by omega) (fun i hi=>?_)) ?_
    ·split
     ·omega
     ·unfold openV;have:inL ls lv ls.length R i<=ls.length:=qx4;split<;>omega
    ·have e2:vecI (fun i=>(if i=k then -1 else openV ls lv R i)-(cntT ls (selN (fun x=>lvL lv x&&(frL ls x==(k:Int))) ls.length) i:Int)) M=vecI (openV ls lv (R++[k])) M:=by
      refine qf8 fun i _=>?_;have u:cntT ls (selN (fun x=>lvL lv x&&(frL ls x==(k:Int))) ls.length) i=lkN ls.length (frL ls) (toL ls) (lvL lv) k i:=qwi;rw[u];unfold openV;by_cases a:i∈R++[k]
      ·rw[if_pos a,s.no_back d r a];rcases List.mem_append.1 a with l|l
       ·split
        ·rfl
        ·rfl
       ·rw[if_pos (List.mem_singleton.1 l)];rfl
      ·have l:i∉R:=fun e=>a (jR _ e);have v:i≠k:=fun e=>a (Jc _ (List.mem_singleton.2 e));rw[if_neg a,if_neg v,if_neg l];have:=qwq (L:=ls.length) (fr:=frL ls) (to:=toL ls) (lv:=lvL lv) (R:=R) (i:=k) (k:=i) d;show(inN _ _ _ _ R i:Int)-_=(inN _ _ _ _ (R++[k]) i:Int);omega
     rw[e2,qih (show R.length<9223372036854775807 by omega)];rw[jg,jh] at o;exact o
 have f:=qxL (b:=b) (ps:=ps) (lo:=lo) (de:=de) (ex:=ex) (lv:=lv) h (S:=selN (lvL lv) ls.length) (fun x p=>(qbM.1 p).1) (by have:=qgy (q:=lvL lv) (j:=ls.length);omega);have e0:vecI (fun k=>(cntT ls (selN (lvL lv) ls.length) k:Int)) M=vecI (openV ls lv []) M:=by
  refine qf8 fun k _=>?_;unfold openV;rw[if_neg (by simp)]
  congr 1
  show List.countP _ _=inN _ _ _ _ [] k;rw[qwi];unfold inN;exact qqD fun x _=>by simp[ints]
 rw[e0] at f;obtain⟨y,o⟩:=g M [] (by simp) Closed.nil;unfold qhR;show Ev (fun n=>(V _).bind _) _;simp only[jd,qdq,qeJ];rw[qQ (by omega) (by omega),show 2*(ps.length:Int)=(M:Int) by omega,qrG (by omega)];simp only[jd];refine Ev.bind (qr1 h t) (Ev.bind f (Ev.bind o ?_));unfold ordR;cases ordL ls lv M M []<;>exact .done
end

theorem qr5{n m:Nat}{a b mode:Int}:qfN n a b mode=qcP m a b mode:=by
 unfold qfN qcP;cases quoS a b with
 |none=>rfl
 |some y1=>
  cases remS a b with
  |none=>rfl
  |some y2=>
   simp only[jd];generalize decide (y2<0)=p;generalize decide (y2 > 0)=q;generalize (mode==0)=m0;generalize (mode==1)=m1;cases p<;>cases q<;>cases m0<;>cases m1<;>rfl
theorem qwo{a b:Int}(f:0<b):-(if a<0 then -a else a)<=a.tdiv b/\a.tdiv b<=(if a<0 then -a else a):=by
 by_cases h:a<0
 ·rw[if_pos h];have e:a.tdiv b=-((-a).tdiv b):=by rw[Int.neg_tdiv,Int.neg_neg]
  rw[e,jD (show 0<=-a by omega)];have c:=Int.ediv_nonneg (show 0<=-a by omega) (show 0<=b by omega);have d:=Int.ediv_le_self (a:=-a) b (by omega);omega
 ·rw[if_neg h,jD (by omega)];have c:=Int.ediv_nonneg (show 0<=a by omega) (show 0<=b by omega);have d:=Int.ediv_le_self (a:=a) b (by omega);omega
theorem qkH{n:Nat}{a b mode:Int}(d:0<b)(g:-9000000000000000000<=a)(h:a<=9000000000000000000):qcP n a b mode=V (divI a b mode):=by
 have c:=qwo (a:=a) d;have i:-9000000000000000000<=a.tdiv b/\a.tdiv b<=9000000000000000000:=by
  revert c;split<;>intro c<;>omega
 unfold qcP quoS remS divI;rw[if_neg (by omega),if_neg (by omega)];have f:IntKind.i64.wrap (a.tdiv b)=a.tdiv b:=qQ (by omega) (by omega);simp only[f,jd];rw[wO (a.tdiv b-1),wO (a.tdiv b+1)];generalize decide (a.tmod b<0)=p;generalize decide (a.tmod b > 0)=q;generalize (mode==0)=m0;generalize (mode==1)=m1;cases p<;>cases q<;>cases m0<;>cases m1<;>rfl
theorem qk3{a b mode M:Int}(d:0<b)(c:0<=a)(h:a<=b*M):0<=divI a b mode/\divI a b mode<=M:=by
 rw[qmo c d];have e:=Int.emod_add_mul_ediv a b;have i:=Int.emod_nonneg a (show b≠0 by omega);have f:=Int.ediv_nonneg c (show 0<=b by omega);have g:a / b<=M:=Int.ediv_le_of_le_mul d (by rw[Int.mul_comm];exact h);split
 ·rename_i hc
  refine⟨by omega,?_⟩;have:a / b<M:=by
   refine Int.lt_of_not_ge fun k=>?_;have e2:a / b=M:=by omega
   rw[e2] at e;omega
  omega
 ·exact⟨f,g⟩
structure AxOk(ax:List Int):Prop where
 lo:1<=ax.length
 hi:ax.length<=4
 at_:∀j,j<ax.length->0<=at0 ax j/\at0 ax j<=100000
 inc:∀j i,i<j->j<ax.length->at0 ax i<at0 ax j
theorem qsu{b:List Int}(h:axisB b=true):AxOk b:=by
 unfold axisB lenB incB at h;simp only[je,decide_eq_true_eq] at h;obtain⟨⟨m,n⟩,k,l⟩:=h;rw[qhE (d:=0),qai] at k;rw[qai] at l;refine⟨m,n,fun j f=>by have:=k j f;rw[qaK] at this;exact this,fun j=>?_⟩
 induction j with
 |zero=>intro i hi _;omega
 |succ j ih=>
  intro i hi f;have a:=l (j+1) f;unfold stepB at a;simp only[Jg,decide_eq_true_eq,Nat.add_sub_cancel] at a;have g:at0 b j<at0 b (j+1):=by
   rcases a with a|a
   ·omega
   ·exact a
  by_cases c:i=j
  ·rw[c];exact g
  ·have:=ih i (by omega) (by omega);omega
theorem least{P:Nat->Prop}:∀m,P m->∃p,p<=m/\P p/\∀k,k<p->¬ P k:=by
 intro m
 induction m using Nat.strongRecOn with
 |ind m ih=>
  intro f;by_cases h:∃k,k<m/\P k
  ·obtain⟨k,a,b⟩:=h;obtain⟨p,g,c,d⟩:=ih k a b;exact⟨p,by omega,c,d⟩
  ·exact⟨m,jf _,f,fun k a b=>h ⟨k,a,b⟩⟩
structure Wt(ax:List Int)(i:Nat)(a b:Int):Prop where
 il:i<ax.length
 a0:0<a
 a1:a<=100000
 b0:0<=b
 b1:b<=100000
 nx:0<b->i+1<ax.length
 one:b=0->a=1
def wtL(i:Nat)(a b:Int):List Tweight:=if b=0 then[⟨(i:Int),1⟩] else[⟨(i:Int),a⟩,⟨((i+1:Nat):Int),b⟩]
def clampV(a:List Int)(x:Int):Int:=if at0 a (a.length-1)<(if at0 a 0 > x then at0 a 0 else x) then at0 a (a.length-1) else(if at0 a 0 > x then at0 a 0 else x)
theorem qxd{m:Nat}(h:m<=8):shrS .u64 (IntKind.wrap .u64 (W64 (m:Int))) 1=V ((m / 2:Nat):Int):=by
 rcases (by omega:m=0\/m=1\/m=2\/m=3\/m=4\/m=5\/m=6\/m=7\/m=8) with e|e|e|e|e|e|e|e|e<;>rw[e]<;>rfl
theorem qvo{a:List Int}(h:AxOk a){c:Int}{p:Nat}(s:p<a.length)(z:c<=at0 a p)(t:∀k,k<p->at0 a k<c) :
  Ev (fun n=>qdv n a c) ((p:Int),(at0 a p==c)):=by
 have y:=h.hi;have b:∀d i j,j-i<=d->i<=p->p<=j->j<=a.length->Ev (fun n=>qaG a c n (i:Int) (j:Int)) ((p:Int),(p:Int)):=by
  intro d
  induction d with
  |zero=>
   intro i j u hi m o;refine Ev.succ ?_;simp only[qaG,qq (show j<=i by omega),cond_false];rw[show i=p by omega,show j=p by omega];exact .done
  |succ d ih=>
   intro i j u hi m o;refine Ev.succ ?_;by_cases g:i<j
   ·have r:(i+j) / 2<a.length:=by omega
    simp only[qaG,qp g,cond_true,<-Int.natCast_add,qxd (show i+j<=8 by omega),jd,qQ (x:=(((i+j) / 2:Nat):Int)) (by omega) (by omega),qar r,qkE,qet,bne_self_eq_false,cond_false,qih (show(i+j) / 2<9223372036854775807 by omega)];by_cases f:at0 a ((i+j) / 2)<c
    ·refine Ev.tt (by simpa using f) (ih _ _ (by omega) ?_ m o);refine Nat.lt_of_not_le fun l=>?_;by_cases v:p=(i+j) / 2
     ·rw[<-v] at f;omega
     ·have:=h.inc ((i+j) / 2) p (by omega) r;omega
    ·refine Ev.ff (by simpa using f) (ih _ _ (by omega) hi ?_ (by omega));refine Nat.le_of_not_lt fun l=>f (t _ l)
   ·simp only[qaG,qq (show j<=i by omega),cond_false];rw[show i=p by omega,show j=p by omega];exact .done
 unfold qdv;refine Ev.bind (b a.length 0 a.length (by omega) (by omega) (by omega) (jf _)) ?_;simp only[qp s,cond_true,qar s,jd,qgN,bne_self_eq_false,cond_false];cases at0 a p==c<;>exact .done
def WAt(d:List Int)(i:Nat)(a b c:Int):Prop:=(b=0/\at0 d i=c)\/(0<b/\a=at0 d (i+1)-c/\b=c-at0 d i)
theorem qqE{f:List Int}(h:AxOk f)(x:Int):∃i a b,Wt f i a b/\WAt f i a b (clampV f x)/\Ev (fun n=>qdn n f x) ((i:Int),a,b)/\Ev (fun n=>qfT n f x) (wtL i a b,a+b):=by
 have M:=h.lo;have I:=h.hi;have L:at0 f 0<=at0 f (f.length-1):=by
  by_cases D:f.length-1=0
  ·rw[D];exact jQ _
  ·have:=h.inc (f.length-1) 0 (by omega) (by omega);omega
 obtain⟨c,v⟩:∃c,c=clampV f x:=⟨_,rfl⟩;have y:at0 f 0<=c/\c<=at0 f (f.length-1):=by
  rw[v];unfold clampV;split<;>split at *<;>omega
 obtain⟨p,Q,s,z⟩:=least (P:=fun k=>c<=at0 f k) (f.length-1) y.2;have o:p<f.length:=by omega
 have t:∀k,k<p->at0 f k<c:=fun k K=>by have:=z k K;omega
 have C:=qvo h o s t;have l:(if at0 f (f.length-1)<(if at0 f 0 > x then at0 f 0 else x) then at0 f (f.length-1) else(if at0 f 0 > x then at0 f 0 else x))=c:=v.symm;have g:W64 ((f.length:Int)-1)=((f.length-1:Nat):Int):=by rw[qd0 (by omega)];omega
 have T:=h.at_ p o;have m:∀(R:Int×Int×Int),Ev (fun n=>qbR f x (at0 f 0) (at0 f (f.length-1)) n (p:Int)) (.ret R)->Ev (fun n=>qdn n f x) R:=by
  intro R F;have u:∀d j,j=p+d->j<f.length->Ev (fun n=>qbR f x (at0 f 0) (at0 f (f.length-1)) n (j:Int)) (.ret R):=by
   intro d
   induction d with
   |zero=>intro j J _;rw[show j=p by omega];exact F
   |succ d ih=>
    intro j J B;have H:=h.inc j p (by omega) B;refine Ev.succ ?_;simp only[qbR,show decide ((j:Int)>=0)=true from decide_eq_true (by omega),cond_true,qar B,jd,l];refine Ev.ff (beq_eq_false_iff_ne.2 (by omega)) (Ev.ff (decide_eq_false (by omega)) ?_);rw[show(j:Int)-1=((j-1:Nat):Int) by omega,qQ (by omega) (by omega)];exact ih (j-1) (by omega) (by omega)
  unfold qdn;rw[show(0:Int)=((0:Nat):Int) from rfl,qar (show 0<f.length by omega),g,qar (show f.length-1<f.length by omega)];simp only[jd];exact Ev.bind (u (f.length-1-p) (f.length-1) (by omega) (by omega)) .done
 by_cases r:at0 f p=c
 ·refine⟨p,1,0,⟨o,by omega,by omega,by omega,by omega,fun h=>absurd h (by omega),fun _=>rfl⟩,v ▸ .inl ⟨rfl,r⟩,m _ (Ev.succ ?_),?_⟩
  ·simp only[qbR,show decide ((p:Int)>=0)=true from decide_eq_true (by omega),cond_true,qar o,jd,l];exact Ev.tt (beq_iff_eq.2 r.symm) .done
  ·unfold qfT;rw[show(0:Int)=((0:Nat):Int) from rfl,qar (show 0<f.length by omega),g,qar (show f.length-1<f.length by omega)];simp only[jd,l];exact Ev.bind C (Ev.tt (beq_iff_eq.2 r) (Ev.now Z))
 ·have O:0<p:=by
   refine Nat.pos_of_ne_zero fun e=>r ?_;rw[e] at s⊢;omega
  have N:=t (p-1) (by omega);have S:=h.at_ (p-1) (by omega);have A:((p:Int)-1)=((p-1:Nat):Int):=by omega
  refine⟨p-1,at0 f p-c,c-at0 f (p-1),⟨by omega,by omega,by omega,by omega,by omega,fun _=>by omega,fun h=>absurd h (by omega)⟩,v ▸ .inr ⟨by omega,by rw[show p-1+1=p by omega],rfl⟩,m _ (Ev.succ ?_),?_⟩
  ·simp only[qbR,show decide ((p:Int)>=0)=true from decide_eq_true (by omega),cond_true,qar o,jd,l];refine Ev.ff (beq_eq_false_iff_ne.2 (by omega)) (Ev.ff (decide_eq_false (by omega)) ?_);rw[A,qQ (x:=((p-1:Nat):Int)) (by omega) (by omega)];refine Ev.succ ?_;simp only[qbR,show decide (((p-1:Nat):Int)>=0)=true from decide_eq_true (by omega),cond_true,qar (show p-1<f.length by omega),jd,l];refine Ev.ff (beq_eq_false_iff_ne.2 (by omega)) (Ev.tt (decide_eq_true (by omega)) ?_);rw[qih (show p-1<9223372036854775807 by omega),show p-1+1=p by omega,qar o];simp only[jd];rw[wO (at0 f p-c),wO (c-at0 f (p-1))];exact .done
  ·unfold qfT;rw[show(0:Int)=((0:Nat):Int) from rfl,qar (show 0<f.length by omega),g,qar (show f.length-1<f.length by omega)];simp only[jd,l];refine Ev.bind C (Ev.ff (beq_eq_false_iff_ne.2 r) ?_);rw[qar o,A,qQ (x:=((p-1:Nat):Int)) (by omega) (by omega),qar (show p-1<f.length by omega)];simp only[jd];rw[wO (at0 f p-c),wO (c-at0 f (p-1)),wO (at0 f p-at0 f (p-1))];refine Ev.now ?_;unfold wtL;rw[if_neg (by omega),show p-1+1=p by omega]
   congr 2
   omega

structure TbOk(t:qS):Prop where
 s:AxOk t.Bj
 l:AxOk t.Bd
 n:t.Ba.length=t.Bj.length*t.Bd.length
 v:∀k,-1000000<=at0 t.Ba k/\at0 t.Ba k<=1000000
theorem qut{xs:List Int}{k:Nat}(h:¬ k<xs.length):at0 xs k=0:=by simp[at0,jx,List.getElem?_eq_none (show xs.length<=k by omega)]
theorem quX{t:qS}(h:tableB t=true):TbOk t:=by
 unfold tableB at h;simp only[je,decide_eq_true_eq] at h;obtain⟨c,f,g,a⟩:=h;rw[qhE (d:=0),qai] at a;refine⟨qsu c,qsu f,g,fun k=>?_⟩;by_cases b:k<t.Ba.length
 ·have:=a k b;rw[qaK] at this;exact this
 ·rw[qut b];omega
def tv(t:qS)(i j:Nat):Int:=at0 t.Ba (i*t.Bd.length+j)
theorem mulA{x y Y:Int}(a:0<=x)(c:-Y<=y)(d:y<=Y):-(x*Y)<=x*y/\x*y<=x*Y:=by
 have f:=Int.mul_le_mul_of_nonneg_left d a;have b:=Int.mul_le_mul_of_nonneg_left c a;rw[Int.mul_neg] at b;exact⟨b,f⟩
theorem mulT{w q v:Int}(d:0<=w)(w1:w<=100000)(b:0<=q)(c:q<=100000)(h:-1000000<=v)(i:v<=1000000):(0<=w*q/\w*q<=10000000000)/\(-10000000000000000<=w*q*v/\w*q*v<=10000000000000000):=by
 have a:=jV d b;have f:w*q<=100000*100000:=jX w1 c b (by omega);have g:=mulA (x:=w*q) (y:=v) (Y:=1000000) a (by omega) (by omega);refine⟨⟨a,by omega⟩,?_,?_⟩<;>omega
theorem qxz{t:qS}{i j:Nat}(h:TbOk t)(hi:i<t.Bj.length)(f:j<t.Bd.length):i*t.Bd.length+j<t.Ba.length/\t.Ba.length<=16:=by
 have a:=h.s.hi;have b:=h.l.hi;have c:(i+1)*t.Bd.length<=t.Bj.length*t.Bd.length:=ju _ hi;have d:t.Bj.length*t.Bd.length<=4*4:=Nat.mul_le_mul a b;rw[h.n];rw[Nat.add_mul] at c;omega
theorem sTerm{t:qS}(h:TbOk t){i j c k:Nat}{a1 b1 a2 b2 w q s:Int}(I:c<2)(J:k<2)(B:w=if c=1 then b1 else a1)(f:q=if k=0 then a2 else b2)
  (F:0<=w) (w1:w<=100000) (C:0<=q) (D:q<=100000) (hi:0<w->i+c<t.Bj.length) (z:0<q->j+k<t.Bd.length) (s0:-1000000000000000000<=s) (s1:s<=1000000000000000000) (n:Nat) :
  qcF t (i:Int) a1 b1 (j:Int) a2 b2 (c:Int) (n+1) s (k:Int)=qcF t (i:Int) a1 b1 (j:Int) a2 b2 (c:Int) n (s+w*q*tv t (i+c) (j+k)) ((k+1:Nat):Int):=by
 have l:=h.v ((i+c)*t.Bd.length+(j+k));obtain⟨⟨M,N⟩,O,P⟩:=mulT F w1 C D l.1 l.2;have o:(bif ((c:Int)==1) then V b1 else V a1)=V w:=by
  rw[B];by_cases a:c=1
  ·rw[if_pos a,a];rfl
  ·rw[if_neg a,show((c:Int)==1)=false from beq_eq_false_iff_ne.2 (by omega)];rfl
 have p:(bif ((k:Int)==0) then V (W64 (w*a2)) else V (W64 (w*b2)))=V (w*q):=by
  have m:W64 (w*q)=w*q:=qQ (by omega) (by omega);by_cases a:k=0
  ·rw[if_pos a] at f;rw[a,<-f,m];rfl
  ·rw[if_neg a] at f;rw[show((k:Int)==0)=false from beq_eq_false_iff_ne.2 (by omega),<-f,m];rfl
 rw[qcF];simp only[show decide ((k:Int)<2)=true from decide_eq_true (by omega),cond_true,o,p,jd,wS k];by_cases d:w*q > 0
 ·have b:0<w:=by
   by_cases e:w=0
   ·rw[e,Int.zero_mul] at d;omega
   ·omega
  have g:0<q:=by
   by_cases e:q=0
   ·rw[e,Int.mul_zero] at d;omega
   ·omega
  obtain⟨H,Q⟩:=qxz h (hi b) (z g);have K:=h.l.hi;have L:=h.s.hi;have y:=hi b;have A:((i+c:Nat):Int)*(t.Bd.length:Int)=(((i+c)*t.Bd.length:Nat):Int):=(Int.natCast_mul _ _).symm;have u:W64 (W64 (W64 (W64 ((i:Int)+(c:Int))*(t.Bd.length:Int))+(j:Int))+(k:Int))=(((i+c)*t.Bd.length+(j+k):Nat):Int):=by
   rw[wO ((i:Int)+(c:Int)),<-Int.natCast_add,A,qQ (x:=(((i+c)*t.Bd.length:Nat):Int)) (by omega) (by omega),<-Int.natCast_add,qQ (x:=(((i+c)*t.Bd.length+j:Nat):Int)) (by omega) (by omega),<-Int.natCast_add,qQ (by omega) (by omega),Nat.add_assoc]
  rw[show decide (w*q > 0)=true from decide_eq_true d,u,qar H];simp only[cond_true,jd];have r:W64 (s+W64 (w*q*at0 t.Ba ((i+c)*t.Bd.length+(j+k))))=s+w*q*tv t (i+c) (j+k):=by
   unfold tv;rw[qQ (x:=w*q*at0 t.Ba ((i+c)*t.Bd.length+(j+k))) (by omega) (by omega),qQ (by omega) (by omega)]
  rw[r]
 ·have v:w*q=0:=by omega
  rw[show decide (w*q > 0)=false from decide_eq_false d,v,Int.zero_mul,Jd]
  rfl
def rowS(t:qS)(j:Nat)(a2 b2:Int)(i:Nat):Int:=a2*tv t i j+b2*tv t i (j+1)
theorem qmi{t:qS}(h:TbOk t){i j:Nat}:-1000000<=tv t i j/\tv t i j<=1000000:=h.v _
theorem qrS{t:qS}(h:TbOk t){i j:Nat}{a2 b2:Int}(a0:0<=a2)(b0:0<=b2):-((a2+b2)*1000000)<=rowS t j a2 b2 i/\rowS t j a2 b2 i<=(a2+b2)*1000000:=by
 have a:=mulA (x:=a2) (y:=tv t i j) (Y:=1000000) a0 (qmi h).1 (qmi h).2;have b:=mulA (x:=b2) (y:=tv t i (j+1)) (Y:=1000000) b0 (qmi h).1 (qmi h).2;unfold rowS;omega
theorem sRow{t:qS}(h:TbOk t){i j c:Nat}{a1 b1 a2 b2 w s:Int}(d:c<2)(f:w=if c=1 then b1 else a1)(b:0<=w)(w1:w<=100000)(hi:0<w->i+c<t.Bj.length)(a:Wt t.Bd j a2 b2)
  (s0:-100000000000000000<=s) (s1:s<=100000000000000000):Ev (fun n=>qcF t (i:Int) a1 b1 (j:Int) a2 b2 (c:Int) n s 0) (s+w*rowS t j a2 b2 (i+c),2):=by
 have l:=a.a0;have g:=a.b0;have m:=(mulT b w1 (show 0<=a2 by omega) a.a1 (qmi h (i:=i+c) (j:=j)).1 (qmi h).2).2;refine Ev.step (fun n=>sTerm h d (k:=0) (w:=w) (q:=a2) (by omega) f Z b w1 (by omega) a.a1 hi (fun _=>a.il) (by omega) (by omega) n) ?_;refine Ev.step (fun n=>sTerm h d (k:=1) (w:=w) (q:=b2) (by omega) f Z b w1 g a.b1 hi a.nx (by show _<=s+w*a2*tv t (i+c) (j+0);rw[Nat.add_zero];omega) (by show s+w*a2*tv t (i+c) (j+0)<=_;rw[Nat.add_zero];omega) n) ?_;refine Ev.succ ?_;simp only[qcF,show decide (((1+1:Nat):Int)<2)=false from rfl,cond_false];refine Ev.now ?_;unfold rowS;rw[Int.mul_add,<-Je,<-Je,Int.add_assoc,Nat.add_zero]
 rfl
theorem iTerm{t:qS}(h:TbOk t){a:List Tweight}{i j k:Nat}{w q s:Int}(m:k<a.length)(A:a.length<=2)(p:idx a (k:Int)=V ⟨(j:Int),q⟩)(c:0<=w)(w1:w<=100000)(r:0<=q)(u:q<=100000)
  (hi:i<t.Bj.length) (l:j<t.Bd.length) (s0:-1000000000000000000<=s) (s1:s<=1000000000000000000) (n:Nat) :
  qbk t a ⟨(i:Int),w⟩ (n+1) s (k:Int)=qbk t a ⟨(i:Int),w⟩ n (s+w*q*tv t i j) ((k+1:Nat):Int):=by
 have b:=qmi h (i:=i) (j:=j);obtain⟨_,C,D⟩:=mulT c w1 r u b.1 b.2;have F:=mulA (x:=w) (y:=tv t i j) (Y:=1000000) c b.1 b.2;obtain⟨v,H⟩:=qxz h hi l;have z:=h.l.hi;have B:=h.s.hi;have o:(i:Int)*(t.Bd.length:Int)=((i*t.Bd.length:Nat):Int):=(Int.natCast_mul _ _).symm;rw[qbk];simp only[qp m,cond_true,p,jd,wS k,o];rw[qQ (x:=((i*t.Bd.length:Nat):Int)) (by omega) (by omega),<-Int.natCast_add,qQ (x:=((i*t.Bd.length+j:Nat):Int)) (by omega) (by omega),qar v];simp only[jd];have d:W64 (s+W64 (W64 (at0 t.Ba (i*t.Bd.length+j)*w)*q))=s+w*q*tv t i j:=by
  have f:at0 t.Ba (i*t.Bd.length+j)*w=w*tv t i j:=Int.mul_comm _ _;have g:w*tv t i j*q=w*q*tv t i j:=by rw[Je,Int.mul_comm (tv t i j) q,<-Je]
  rw[f,wO (w*tv t i j),g,wO (w*q*tv t i j),qQ (by omega) (by omega)]
 rw[d]
theorem iRow{t:qS}(h:TbOk t){i j:Nat}{a2 b2 w s:Int}(b:0<=w)(w1:w<=100000)(hi:i<t.Bj.length)(a:Wt t.Bd j a2 b2)
  (s0:-100000000000000000<=s) (s1:s<=100000000000000000):Ev (fun n=>qbk t (wtL j a2 b2) ⟨(i:Int),w⟩ n s 0) (s+w*rowS t j a2 b2 i,((wtL j a2 b2).length:Int)):=by
 have l:=a.a0;have g:=a.b0;have m:=(mulT b w1 (show 0<=a2 by omega) a.a1 (qmi h (i:=i) (j:=j)).1 (qmi h).2).2;by_cases c:b2=0
 ·have f:=a.one c;subst c f;have d:wtL j 1 0=[⟨(j:Int),1⟩]:=if_pos Z;rw[d];refine Ev.step (fun n=>iTerm h (k:=0) (q:=1) (by simp) (by simp) Z b w1 (by omega) (by omega) hi a.il (by omega) (by omega) n) (Ev.succ ?_);simp only[qbk];refine Ev.ff Z (Ev.now ?_);unfold rowS;rw[Int.mul_one,Int.one_mul,Int.zero_mul,Jd]
  rfl
 ·have d:wtL j a2 b2=[⟨(j:Int),a2⟩,⟨((j+1:Nat):Int),b2⟩]:=if_neg c;rw[d];refine Ev.step (fun n=>iTerm h (k:=0) (q:=a2) (by simp) (by simp) Z b w1 (by omega) a.a1 hi a.il (by omega) (by omega) n) ?_;refine Ev.step (fun n=>iTerm h (k:=1) (j:=j+1) (q:=b2) (by simp) (by simp) Z b w1 g a.b1 hi (a.nx (by omega)) (by omega) (by omega) n) (Ev.succ ?_);simp only[qbk];refine Ev.ff Z (Ev.now ?_);unfold rowS;rw[Int.mul_add,<-Je,<-Je,Int.add_assoc]
  rfl
def sumS(t:qS)(i j:Nat)(a1 b1 a2 b2:Int):Int:=a1*rowS t j a2 b2 i+b1*rowS t j a2 b2 (i+1)
theorem rowT{t:qS}(h:TbOk t){i j:Nat}{w a2 b2:Int}(f:0<=w)(w1:w<=100000)(a:Wt t.Bd j a2 b2):-20000000000000000<=w*rowS t j a2 b2 i/\w*rowS t j a2 b2 i<=20000000000000000:=by
 have l:=a.a0;have c:=a.b0;have b:=a.a1;have d:=a.b1;have g:=qrS h (i:=i) (j:=j) (a2:=a2) (b2:=b2) (by omega) c;have k:=mulA (x:=w) (y:=rowS t j a2 b2 i) (Y:=200000000000) f (by omega) (by omega);omega
theorem qw7{t:qS}(h:TbOk t){sl ld:Int}{i j:Nat}{a1 b1 a2 b2:Int}(W1:Wt t.Bj i a1 b1)(W2:Wt t.Bd j a2 b2)
  (p:Ev (fun n=>qdn n t.Bj sl) ((i:Int),a1,b1)/\Ev (fun n=>qfT n t.Bj sl) (wtL i a1 b1,a1+b1)) (D:Ev (fun n=>qdn n t.Bd ld) ((j:Int),a2,b2)/\Ev (fun n=>qfT n t.Bd ld) (wtL j a2 b2,a2+b2)) :
  0<(a1+b1)*(a2+b2)/\sumS t i j a1 b1 a2 b2<=(a1+b1)*(a2+b2)*1000000/\-((a1+b1)*(a2+b2)*1000000)<=sumS t i j a1 b1 a2 b2/\-9000000000000000000<=sumS t i j a1 b1 a2 b2/\sumS t i j a1 b1 a2 b2<=9000000000000000000/\((∀k,0<=at0 t.Ba k)->0<=sumS t i j a1 b1 a2 b2) /\
  ∀mode,Ev (fun n=>qgB n t sl ld mode) (divI (sumS t i j a1 b1 a2 b2) ((a1+b1)*(a2+b2)) mode)/\Ev (fun n=>qda n t sl ld mode) (divI (sumS t i j a1 b1 a2 b2) ((a1+b1)*(a2+b2)) mode):=by
 obtain⟨p1,H⟩:=p;obtain⟨F,I⟩:=D;have B:=W1.a0;have a:=W1.b0;have C:=W2.a0;have b:=W2.b0;have d:=W1.a1;have f:=W1.b1;have J:=W2.a1;have K:=W2.b1;have r1:=rowT h (i:=i) (w:=a1) (by omega) d W2;have M:=rowT h (i:=i+1) (w:=b1) a f W2;have v:=qrS h (i:=i) (j:=j) (a2:=a2) (b2:=b2) (by omega) b;have z:=qrS h (i:=i+1) (j:=j) (a2:=a2) (b2:=b2) (by omega) b;have N:=mulA (x:=a1) (y:=rowS t j a2 b2 i) (Y:=(a2+b2)*1000000) (by omega) v.1 v.2;have O:=mulA (x:=b1) (y:=rowS t j a2 b2 (i+1)) (Y:=(a2+b2)*1000000) a z.1 z.2;have L:a1*((a2+b2)*1000000)+b1*((a2+b2)*1000000)=(a1+b1)*(a2+b2)*1000000:=by rw[<-Int.add_mul,Je]
 have D0:0<(a1+b1)*(a2+b2):=Int.mul_pos (by omega) (by omega);have D1:(a1+b1)*(a2+b2)<=200000*200000:=jX (by omega) (by omega) (by omega) (by omega);refine⟨D0,by unfold sumS;omega,by unfold sumS;omega,by unfold sumS;omega,by unfold sumS;omega,fun u=>?_,fun mode=>⟨?_,?_⟩⟩
 ·have s:∀i,0<=rowS t j a2 b2 i:=fun i=>Int.add_nonneg (jV (by omega) (u _)) (jV b (u _));exact Int.add_nonneg (jV (by omega) (s _)) (jV a (s _))
 ·have l:Ev (fun n=>qem t (i:Int) a1 b1 (j:Int) a2 b2 n 0 0) (sumS t i j a1 b1 a2 b2,2):=by
   refine Ev.succ ?_;simp only[qem];refine Ev.tt Z (Ev.bind (sRow h (c:=0) (w:=a1) (by omega) Z (by omega) d (fun _=>W1.il) W2 (by omega) (by omega)) ?_);refine Ev.succ ?_;simp only[qem];refine Ev.tt Z (Ev.bind (sRow h (c:=1) (w:=b1) (by omega) Z a f W1.nx W2 (by rw[Nat.add_zero];omega) (by rw[Nat.add_zero];omega)) ?_);refine Ev.succ ?_;simp only[qem];refine Ev.ff Z (Ev.now ?_);unfold sumS;rw[Int.zero_add,Nat.add_zero]
   rfl
  unfold qgB;refine Ev.bind p1 (Ev.bind F (Ev.bind l ?_));show Ev (fun n=>(qcP n (sumS t i j a1 b1 a2 b2) (W64 (W64 (a1+b1)*W64 (a2+b2))) mode).bind fun r=>V r) _;rw[wO (a1+b1),wO (a2+b2),wO ((a1+b1)*(a2+b2))];exact Ev.bind ⟨0,fun n _=>qkH D0 (by unfold sumS;omega) (by unfold sumS;omega)⟩ .done
 ·have l:Ev (fun n=>qbm t (wtL i a1 b1) (wtL j a2 b2) n 0 0) (sumS t i j a1 b1 a2 b2,((wtL i a1 b1).length:Int)):=by
   by_cases g:b1=0
   ·have A:=W1.one g;subst g A;have o:wtL i 1 0=[⟨(i:Int),1⟩]:=if_pos Z;rw[o];refine Ev.succ ?_;simp only[qbm];refine Ev.tt Z (Ev.bind (Ev.now Z) (Ev.bind (iRow h (i:=i) (w:=1) (by omega) (by omega) W1.il W2 (by omega) (by omega)) (Ev.succ ?_)));simp only[qbm];refine Ev.ff Z (Ev.now ?_);unfold sumS;rw[Int.zero_add,Int.zero_mul,Jd]
    rfl
   ·have o:wtL i a1 b1=[⟨(i:Int),a1⟩,⟨((i+1:Nat):Int),b1⟩]:=if_neg g;rw[o];refine Ev.succ ?_;simp only[qbm];refine Ev.tt Z (Ev.bind (Ev.now Z) (Ev.bind (iRow h (i:=i) (w:=a1) (by omega) d W1.il W2 (by omega) (by omega)) (Ev.succ ?_)));simp only[qbm];refine Ev.tt Z (Ev.bind (Ev.now Z) (Ev.bind (iRow h (i:=i+1) (w:=b1) a f (W1.nx (by omega)) W2 (by omega) (by omega)) (Ev.succ ?_)));simp only[qbm];refine Ev.ff Z (Ev.now ?_);unfold sumS;rw[Int.zero_add]
    rfl
  unfold qda;refine Ev.bind H (Ev.bind I (Ev.bind l ?_));show Ev (fun n=>(qfN n (sumS t i j a1 b1 a2 b2) (W64 ((a1+b1)*(a2+b2))) mode).bind fun r=>V r) _;rw[wO ((a1+b1)*(a2+b2))];exact Ev.bind ⟨0,fun n _=>(qr5 (m:=0)).trans (qkH D0 (by unfold sumS;omega) (by unfold sumS;omega))⟩ .done
theorem qus{t:qS}(h:TbOk t)(sl ld:Int):∃S D:Int,0<D/\S<=D*1000000/\-(D*1000000)<=S/\-9000000000000000000<=S/\S<=9000000000000000000/\((∀k,0<=at0 t.Ba k)->0<=S) /\
  ∀mode,Ev (fun n=>qgB n t sl ld mode) (divI S D mode)/\Ev (fun n=>qda n t sl ld mode) (divI S D mode):=by
 obtain⟨i,a1,b1,W1,_,p⟩:=qqE h.s sl;obtain⟨j,a2,b2,W2,_,a⟩:=qqE h.l ld;exact⟨_,_,qw7 h W1 W2 p a⟩
end Go.Fw
