/- By a program of mine (gen.py): for each function a plain function and the proof that the code computes it. -/
import Derived.Test.YtklmnhcgjnglhaaGreatDoorW3
import Derived.Test.YtklmnhcgjnglhaaGreatDoorB2
open Option renaming bind_some->jd, some->V, none->U
open Bool renaming and_eq_true->je, eq_iff_iff->jp, true_and->jN, not_true->Jq, true->An, false->Cd, cond_true->Ci, cond_false->Cj
open Nat renaming le_refl->jf, mul_le_mul_right->jt, le_trans->Ja, add_zero->Jp
open List renaming length_append->jg, length_singleton->jh, getElem?_eq_getElem->jj, getElem_mem->jm, length_map->jo, mem_cons_of_mem->jr, mem_cons_self->ju, append_assoc->jv, take_succ_eq_append_getElem->jw, length_take->jy, getD_eq_getElem?_getD->jz, drop_eq_getElem_cons->jF, take_length->jH, not_mem_nil->jI, length_replicate->jJ, mem_append_left->jM, mem_cons->jQ, all_eq_true->jR, mem_append_right->jX, map_append->jY, append_nil->Jb, getElem_take->Jl
open Int renaming toNat_natCast->jq, le_refl->jL, tdiv_eq_ediv_of_nonneg->jO, mul_nonneg->jS, mul_le_mul_of_nonneg_left->jU, mul_assoc->Jc, mul_le_mul->Jf, le_trans->Jh, add_zero->Jk
open Go.Fw.Ev renaming bind->Ck, succ->Cm, ff->Cp, tt->Cq, now->Cx, bindN->Cy
open Go.Fw.PV renaming done->Cr
open Go.Fw.mt renaming get->Cs

namespace Go.Fw
open Go Go.Proofs Go.Proofs.Tryz
open Go.RowKit (Below)
open Ch renaming own->oW,box->oX,grp->oG
open qm renaming v->oV
open Go.Value renaming slice->oS
set_option maxRecDepth 100000
set_option maxHeartbeats 6400000
variable{n:Nat}{w:World}{cs1 cs2 cs3 cs4 cs5 cs6 cs7 cs8 cs9:List Value}
def zg(_:Nat)(c:Int):Option qu:=(yW c (Cd:Bool)).bind λx1=>(yW c ((⟨0,0⟩:qg):qg)).bind λa=>(yW c ((⟨0,0⟩:qg):qg)).bind λb=>V (⟨x1,a,b⟩:qu)
theorem LZ{a_n}  {r:qu}(F:zg n a_n=V r):qN prog 217 [vi a_n] w r:=by
 refine zV 10 func217 Z λh=>db (qi qa h Z Z Z λ_ J h=>V7 (rA [] [] h Z λ_ h=>M0 21 [0,2,4] (h.p [] Z) Z ?_));obtain⟨x1,a,F⟩:=qc F;obtain⟨A,b,F⟩:=qc F;obtain⟨B,c,F⟩:=qc F;refine uc (λe w'=>∃D x H y I z,e=[(2,vp J)]/\SH w w' [oW D (B:List qg) [oS x B.length B.length],oW H (A:List qg) [oS y A.length A.length],oW I (x1:List Bool) [oS z x1.length x1.length],oX J [oS z x1.length x1.length,oS y A.length A.length,oS x B.length B.length] 51]) 0 (bits 8 255) ?_ ?_
 .intro K;refine rN 1 3 5 Z Z Z (bits 8 23) (bits 8 29) (bits 8 53) (by kernel_rfl) (by kernel_rfl) (by kernel_rfl) (by kernel_rfl) ?_ ?_ ?_
  .obtain⟨m,o,a⟩:=aT a;refine bC qa Bool h z9 m o a Z λM C L h=>Ag (h.p [] Z) (At 3 5 31 55 Z ?_ ?_)
   .obtain⟨d,f,b⟩:=aT b;refine bC qa qg h z9 d f b Z λt k p h=>Ag (h.p [] Z) (Ao 5 63 Z ?_);obtain⟨g,i,c⟩:=aT c;refine bC qa qg h z9 g i c Z λu l s h=>Ag (h.p [] Z) (Aw 6 127 (λw' N=>qB qa [0,1,2] [.tmp 4,.tmp 6,.tmp 8] z8) (h.p [] Z) Z ?_);exact Ao 7 255 Z (zs 3 h Z λv h=>Ag (h.p [] Z) (BK [(2,_)] ⟨Z,G⟩ (K _ _ ⟨_,_,_,_,_,_,Z,h⟩)))
   obtain⟨d,f,c⟩:=aT c;refine bC qa qg h z9 d f c Z λt k p h=>Ag (h.p [] Z) (Ao 3 63 Z ?_);obtain⟨g,i,b⟩:=aT b;refine bC qa qg h z9 g i b Z λu l s h=>Ag (h.p [] Z) (Aw 6 127 (λw' N=>qB qa [0,1,2] [.tmp 4,.tmp 6,.tmp 8] z8) (h.p [] Z) Z ?_);refine Ao 7 255 Z (zs 3 h Z λv h=>Ag (h.p [] Z) ?_);have h:=h.p [1,0,2,3] Z;exact aK K ⟨_,_,_,_,_,_,Z,h⟩ Z
  .obtain⟨m,o,b⟩:=aT b;refine bC qa qg h z9 m o b Z λM C L h=>Ag (h.p [] Z) (At 1 5 31 61 Z ?_ ?_)
   .obtain⟨d,f,a⟩:=aT a;refine bC qa Bool h z9 d f a Z λt k p h=>Ag (h.p [] Z) (Ao 5 63 Z ?_);obtain⟨g,i,c⟩:=aT c;refine bC qa qg h z9 g i c Z λu l s h=>Ag (h.p [] Z) (Aw 6 127 (λw' N=>qB qa [0,1,2] [.tmp 4,.tmp 6,.tmp 8] z8) (h.p [] Z) Z ?_);refine Ao 7 255 Z (zs 3 h Z λv h=>Ag (h.p [] Z) ?_);have h:=h.p [0,2,1,3] Z;exact aK K ⟨_,_,_,_,_,_,Z,h⟩ Z
   obtain⟨d,f,c⟩:=aT c;refine bC qa qg h z9 d f c Z λt k p h=>Ag (h.p [] Z) (Ao 1 63 Z ?_);obtain⟨g,i,a⟩:=aT a;refine bC qa Bool h z9 g i a Z λu l s h=>Ag (h.p [] Z) (Aw 6 127 (λw' N=>qB qa [0,1,2] [.tmp 4,.tmp 6,.tmp 8] z8) (h.p [] Z) Z ?_);refine Ao 7 255 Z (zs 3 h Z λv h=>Ag (h.p [] Z) ?_);have h:=h.p [1,2,0,3] Z;exact aK K ⟨_,_,_,_,_,_,Z,h⟩ Z
  obtain⟨m,o,c⟩:=aT c;refine bC qa qg h z9 m o c Z λM C L h=>Ag (h.p [] Z) (At 1 3 55 61 Z ?_ ?_)
  .obtain⟨d,f,a⟩:=aT a;refine bC qa Bool h z9 d f a Z λt k p h=>Ag (h.p [] Z) (Ao 3 63 Z ?_);obtain⟨g,i,b⟩:=aT b;refine bC qa qg h z9 g i b Z λu l s h=>Ag (h.p [] Z) (Aw 6 127 (λw' N=>qB qa [0,1,2] [.tmp 4,.tmp 6,.tmp 8] z8) (h.p [] Z) Z ?_);refine Ao 7 255 Z (zs 3 h Z λv h=>Ag (h.p [] Z) ?_);have h:=h.p [2,0,1,3] Z;exact aK K ⟨_,_,_,_,_,_,Z,h⟩ Z
  obtain⟨d,f,b⟩:=aT b;refine bC qa qg h z9 d f b Z λt k p h=>Ag (h.p [] Z) (Ao 1 63 Z ?_);obtain⟨g,i,a⟩:=aT a;refine bC qa Bool h z9 g i a Z λu l s h=>Ag (h.p [] Z) (Aw 6 127 (λw' N=>qB qa [0,1,2] [.tmp 4,.tmp 6,.tmp 8] z8) (h.p [] Z) Z ?_);refine Ao 7 255 Z (zs 3 h Z λv h=>Ag (h.p [] Z) ?_);have h:=h.p [2,1,0,3] Z;exact aK K ⟨_,_,_,_,_,_,Z,h⟩ Z
 rintro _ _ ⟨D,x,H,y,I,z,rfl,h⟩;refine Ad ?_;obtain rfl:=qe F;exact aC qa (ρ:=qu) [oV qu [oS z x1.length x1.length,oS y A.length A.length,oS x B.length B.length]] h ⟨⟨_,_,_,Z,Z,h.box 3 Z,Z⟩,G⟩ (Cr h (rv (oN (⟨x1,A,B⟩:qu) h (qS 2 h Z) (qS 1 h Z) (qS 0 h Z) (by rfl) (by rfl))))
def lw(_:Nat)(list:List Int):Option (List Int):=(df ([]:List Int) list).bind λx1=>V x1
theorem mM{list:List Int}(b:Ro w list cs1){r:List Int}(F:lw n list=V r):qN prog 242 [gv list cs1] w r:=by
 obtain⟨_,_,rfl,s1⟩:=b;refine zV 6 func242 Z λh=>X0 6 Z (qt qa [] _ ([]:List Int) h z9 trivial Z λ_ _ _ h=>cr Z ?_);obtain⟨_,a,F⟩:=qc F;obtain⟨c,a⟩:=qJ a;refine bn qa 0 h Z (h.oldS s1) Z z9 c a Z λ_ _ _ _ h=>X0 2 Z ?_;cases qe F;exact rO 0 h Z ⟨Z,G⟩
def yG(_:Nat)(l:qD)(d:qk)(p:qW):Option Int:=bif decide (p.instance_<0) then V 0 else(qG d.Ab p.instance_).bind λa=>(qG l.As a.Bv).bind λb=>(qG b.Bh p.pin).bind λc=>V c.Bs
theorem QG{l:qD}{d:qk}{p:qW}(a:Ro w l cs1)(b:Ro w d cs2)(c:Ro w p cs3){r:Int}(F:yG n l d p=V r):qN prog 262 [gv l cs1,gv d cs2,gv p cs3] w r:=by
 obtain⟨_,_,rfl,s1⟩:=gx a;obtain⟨_,_,_,_,_,_,rfl,s2,_,_⟩:=cn b;obtain rfl:=dw c;refine zV 27 func262 Z λh=>db (qK h Z Z λ_ _ h=>qK h Z Z λ_ _ h=>qK h Z Z λ_ _ h=>X1 9 0 h Z (qn Z F ?_ ?_))<;>intro F
 .exact X0 4 Z (ri h F Z)
 refine N7 (rD (Y1 2 2 h Z ?_));refine Y1 2 1 h Z ?_;refine Y1 2 0 h Z ?_;obtain⟨_,_,F,k,_,_,_,_,s,v,z,f⟩:=s2.ix F;obtain⟨_,_,rfl,_⟩:=bI z;refine fU s v k Z (xm Z (dZ 1 f h Z ?_));obtain⟨_,_,F,m,_,_,_,_,t,x,A,g⟩:=s1.ix F;obtain⟨_,_,_,_,_,_,rfl,C,_,_⟩:=aV A;refine fU t x m Z (xm Z (dZ 2 g h Z (Y1 2 0 h Z ?_)));obtain⟨_,_,F,o,_,_,_,_,u,y,B,i⟩:=C.ix F;obtain rfl:=mG B;exact fU u y o Z (xm Z (dZ 2 i h Z (xm Z (dN h λ_ h=>ri h F Z))))
def iN(d:aR):Nat->(List Int)->Int->Option ((List Int)×Int)|0,_,_=>U|n+1,b,a=>bif decide (a > 0) then(qG d.Ak a).bind λc=>(qG b c).bind λf=>(qG b a).bind λg=>(qG b c).bind λ_=>iN d n (am b c (qj (f+g))) (qj (a-1)) else V (b,a)
def iM(Ce:qf)(f:aR)(d:List qW)(b:List Int):Nat->(List Int)->Int->Option ((List Int)×Int)|0,_,_=>U|n+1,x1,a=>bif decide (a<(b.length:Int)) then(qG f.Bl a).bind λc=>(qG x1 c).bind λh=>(qG b a).bind λi=>(qG d i).bind λk=>(yG n (⟨Ce.Aq.As⟩:qD) (⟨Ce.Aa.Ab,Ce.Aa.Ap,Ce.Aa.Ai⟩:qk) k).bind λg=>(qG x1 c).bind λ_=>iM Ce f d b n (am x1 c (qj (h+g))) (qj (a+1)) else V (x1,a)
def ta(n:Nat)(Ce:qf)(Cf:Int):Option (List Int):=(qG Ce.Ah Cf).bind λa=>(lw n a.Bs).bind λr1=>(fa n (⟨Ce.Aa.Ab,Ce.Aa.Ap,Ce.Aa.Ai⟩:qk)).bind λb=>(nL n (⟨Ce.Aa.Ab,Ce.Aa.Ap,Ce.Aa.Ai⟩:qk) Cf).bind λc=>(iM Ce a b c n r1 0).bind λ(x1,_)=>(iN a n x1 (qj ((r1.length:Int)-1))).bind λ(d,_)=>V d
theorem zW{Ce:qf}{Cf}(Y:Ro w Ce cs1){r:List Int}(F:ta n Ce Cf=V r):qN prog 234 [gv Ce cs1,vi Cf] w r:=by
 obtain⟨p1,k1,p2,k2,p3,k3,p4,k4,p5,k5,rfl,s1,s2,s3,s4,s5⟩:=qZ Y;refine zV 76 func234 Z λh=>db (qK h Z Z λw1 i h=>X1 7 0 h Z ?_);obtain⟨T,_,F,a7,_,_,_,_,b4,b7,c0,a3⟩:=s5.ix F;obtain⟨p6,k6,p7,k7,p8,k8,p9,k9,rfl,s6,_,s8,s9⟩:=dM c0;refine ft b4 b7 a7 Z (bL 0 a3 h Z (qi qa h Z Z Z λ_ a h=>zs 0 h Z λ_ h=>X1 5 0 h Z (uY h F (mM ⟨_,_,Z,(h.oldS s8)⟩) Z λr1 _ S1 c b h F=>X1 6 2 h Z (uY h F (eH (cp _ (h.oldS s2) (h.oldS s3) (h.oldS s4))) Z λQ _ S2 O M h F=>X1 7 3 h Z (uY h F (sq (cp _ (h.oldS s2) (h.oldS s3) (h.oldS s4))) Z λR _ S3 P N h F=>X0 7 Z ?_)))));obtain⟨o1,F,W⟩:=qc F;refine qq (rL (λm e w'=>∃x1 i1,iM Ce T Q R m x1 i1=V o1/\e=[(2,vp i),(5,vp a),(6,oL c r1 b),(7,oL O Q M),(8,oL P R N),(9,vi i1)]/\SH w w' [oW S3 (R:List Int) [oL P R N],oW S2 (Q:List qW) [oL O Q M],oW S1 (x1:List Int) [oL c r1 b],oX a (oD T p6 p7 p8 p9 k6 k7 k8 k9) 171,oX i (qL Ce p1 p2 p3 p4 p5 k1 k2 k3 k4 k5) 34]) n ⟨_,_,F,Z,h⟩ Z ?_);rintro m1 _ _ ⟨x1,i1,F,rfl,h⟩;rcases m1 with _|m1
 .cases F
 refine X0 8 Z (qn Z F ?_ ?_)<;>intro F
 .refine WC (rA [22] [0,1,2,3,4] h Z λ_ h=>M1 15 [0,1,2,3] 3 (h.p [0,1,2,3,4] Z) Z ?_);obtain⟨_,_,F,a8,_,_,_,_,b5,b8,rfl,a4⟩:=s9.ix F;refine Ae 4 31 b5 b8 a8 (h.p [0,1,2,3,4] Z) Z (Al 5 63 0 a4 (h.p [0,1,2,3,4] Z) Z ?_);obtain⟨y3,c3,F,l,_,_,_,_,v,C,rfl,_⟩:=(h.sl 2 Z).1.ix F;refine Ax 6 127 v C ⟨l.1,qE l.2.1 (h.sl 2 Z).2⟩ (h.p [0,1,2,3,4] Z) Z (Aw 7 255 (λw' hw=>da qa (qR (w1:=w) (S1:=λ_=>False) hw 2 Z c3 v C Z) (j:=0) Z Z Z) (h.p [0,1,2,3,4] Z) Z ?_);refine M2 32767 [8,9,10,11,12,13,14] 4 4 (h.p [0,1,2,3,4] Z) Z ?_;obtain⟨_,c4,F,o,_,_,_,_,x,D,rfl,_⟩:=(h.sl 0 Z).1.ix F;refine Ax 15 65535 x D ⟨o.1,qE o.2.1 (h.sl 0 Z).2⟩ (h.p [0,1,2,3,4] Z) Z (Aw 16 131071 (λw' hw=>da qa (qR (w1:=w) (S1:=λ_=>False) hw 0 Z c4 x D Z) (j:=0) Z Z Z) (h.p [0,1,2,3,4] Z) Z ?_);obtain⟨y5,c5,F,p,_,_,_,_,y,H,c2,_⟩:=(h.sl 1 Z).1.ix F;obtain rfl:=dw c2;refine Ax 17 262143 y H ⟨p.1,qE p.2.1 (h.sl 1 Z).2⟩ (h.p [0,1,2,3,4] Z) Z (Aw 18 524287 (λw' hw=>da qa (qR hw 1 Z c5 y H (nG (w:=w) (S:=λ_=>False) y5)) (j:=0) Z Z Z) (h.p [0,1,2,3,4] Z) Z ?_);refine Ao 19 1048575 Z (mR h F (QG (uD _ (h.oldS s1)) (cp _ (h.oldS s2) (h.oldS s3) (h.oldS s4)) (nG y5)) Z λr4 _ h F=>G0 2097151 [20] (h.p [0,1,2,3,4] Z) Z ?_);obtain⟨_,c6,F,s,_,_,_,_,z,I,rfl,a5⟩:=(h.sl 2 Z).1.ix F;exact Ax 21 4194303 z I ⟨s.1,qE s.2.1 (h.sl 2 Z).2⟩ (h.p [0,1,2,3,4] Z) Z (Ao 22 8388607 Z (bM qa 2 0 (qj (y3+r4)) h Z c6 z I Z a5 Z Z Z Z Z Z Z λ_ h=>bN (λhs=>absurd (hs 22 (by decide)) (by decide)) (Ad (X0 6 Z (rK ⟨_,_,F,Z,h⟩ Z)))))
 refine qy Z ?_;cases qe F;have F:=W;refine X0 8 Z ?_;obtain⟨o2,F,X⟩:=qc F;refine qq ?_;have h:=h.p [2,3] Z;refine rL (λm e w'=>∃x2 i2,iN T m x2 i2=V o2/\e=[(5,vp a),(6,oL c r1 b),(10,vi i2)]/\SH w w' [oW S1 (x2:List Int) [oL c r1 b],oX a (oD T p6 p7 p8 p9 k6 k7 k8 k9) 171]) n ⟨_,_,F,Z,h⟩ Z ?_;rintro m2 _ _ ⟨x2,i2,F,rfl,h⟩;rcases m2 with _|m2
 .cases F
 refine X0 6 Z (qn Z F ?_ ?_)<;>intro F
 .refine WC (rA [14] [0,1] h Z λ_ h=>M1 15 [0,1,2,3] 1 (h.p [0,1] Z) Z ?_);obtain⟨_,_,F,a9,_,_,_,_,b6,b9,rfl,a6⟩:=s6.ix F;refine Ae 4 31 b6 b9 a9 (h.p [0,1] Z) Z (Al 5 63 0 a6 (h.p [0,1] Z) Z ?_);obtain⟨y8,c7,F,t,_,_,_,_,A,J,rfl,_⟩:=(h.sl 0 Z).1.ix F;refine Ax 6 127 A J ⟨t.1,qE t.2.1 (h.sl 0 Z).2⟩ (h.p [0,1] Z) Z (Aw 7 255 (λw' hw=>da qa (qR (w1:=w) (S1:=λ_=>False) hw 0 Z c7 A J Z) (j:=0) Z Z Z) (h.p [0,1] Z) Z ?_);refine M0 1023 [8,9] (h.p [0,1] Z) Z ?_;obtain⟨y9,c8,F,u,_,_,_,_,B,K,rfl,_⟩:=(h.sl 0 Z).1.ix F;refine Ax 10 2047 B K ⟨u.1,qE u.2.1 (h.sl 0 Z).2⟩ (h.p [0,1] Z) Z (Aw 11 4095 (λw' hw=>da qa (qR (w1:=w) (S1:=λ_=>False) hw 0 Z c8 B K Z) (j:=0) Z Z Z) (h.p [0,1] Z) Z ?_);refine M0 8191 [12] (h.p [0,1] Z) Z ?_;obtain⟨_,L,F,d,_,_,_,_,f,g,rfl,k⟩:=(h.sl 0 Z).1.ix F;exact Ax 13 16383 f g ⟨d.1,qE d.2.1 (h.sl 0 Z).2⟩ (h.p [0,1] Z) Z (Ao 14 32767 Z (bM qa 0 0 (qj (y8+y9)) h Z L f g Z k Z Z Z Z Z Z Z λ_ h=>bN (λhs=>absurd (hs 14 (by decide)) (by decide)) (Ad (X0 6 Z (rK ⟨_,_,F,Z,h⟩ Z)))))
 refine qy Z ?_;cases qe F;have F:=X;refine X0 5 Z ?_;cases qe F;exact rO 0 h Z ⟨Z,G⟩
def wq(n:Nat)(b:qf)(x:qx):Option (bo×Int):=(fa n (⟨b.Aa.Ab,b.Aa.Ap,b.Aa.Ai⟩:qk)).bind λr1=>(qG r1 (qj (x.To.tdiv 2))).bind λa=>(qG b.Aa.Ab a.instance_).bind λd=>(qG b.Aq.As d.Bv).bind λf=>(qG f.Av x.Ca).bind λg=>(ta n b a.net).bind λc=>(qG c 0).bind λh=>V (g,h)
theorem EH{A}(hA:∀b,A b->old w b){b:qf}{x:qx}(y:qm.R w A b cs1)(N:qm.R w A x cs2){r:bo×Int}(F:wq n b x=V r):yP prog 191 [gv b cs1,gv x cs2] w A r:=by
 obtain⟨p1,k1,p2,k2,p3,k3,p4,k4,p5,k5,rfl,s1,s2,s3,s4,_⟩:=qZ y;obtain rfl:=aB N;have hg:=Rg.start hA;refine gc func191 Z (m:=39) Z Z (λh=>?_);refine db (qK h Z Z λw1 f h=>qK h Z Z λ_ g h=>qi qa h Z Z Z λ_ c h=>X0 3 Z ?_);obtain⟨r1,I,F⟩:=qc F;obtain⟨L,a,F⟩:=qc F;refine bw (λe w'=>∃d,e=[(2,vp f),(3,vp g),(4,vp c),(6,vp d)]/\SH w w' [oX d (yj L) 225,oX c qeG 109,oX g (wK x) 127,oX f (qL b p1 p2 p3 p4 p5 k1 k2 k3 k4 k5) 34]) ?_ ?_
 .refine rA [9] [1,2] h Z λ_ h=>M2 59 [0,1,3,4,5] 1 0 (h.p [1,2] Z) Z (At 2 8 63 315 Z ?_ ?_)
  .refine uH r1 h (cB 108 Z) (eH (cp _ (h.oldS (s2.mono hg.old)) (h.oldS (s3.mono hg.old)) (h.oldS (s4.mono hg.old))) I) Z Z Z Z λ_ _ _ _ h=>Ag (h.p [2,3] Z) ?_;have z:=bJ a;obtain⟨_,o_4,_,_,i,l,-,a7,_⟩:=(h.sl 0 Z).1.at a;obtain rfl:=dw a7;refine Ax 6 127 i l ⟨z.1,qE z.2.1 (h.sl 0 Z).2⟩ (h.p [2,3] Z) Z (At 7 8 255 383 Z ?_ ?_)
   .refine dF (da qa (qR h 0 Z a i l (nG (w:=w) (S:=λ_=>False) L)) (j:=0) Z Z Z) Z (Ag (h.p [2,3] Z) (Ao 8 511 Z (qi qa h Z Z Z λ_ _ h=>Ag (h.p [3,4] Z) (Ao 9 1023 Z (zs 0 h Z λ_ h=>bN (λhs=>absurd (hs 9 (by decide)) (by decide)) (Ad ?_))))));exact rG ⟨_,Z,h.p [0,2,3,4] Z⟩ Z
   refine qi qa h Z Z Z λ_ _ h=>Ag (h.p [3,4] Z) (Ao 7 511 Z (dF (da qa (qR h 1 Z a i l (nG (w:=w) (S:=λ_=>False) L)) (j:=0) Z Z Z) Z (Ag (h.p [3,4] Z) (Ao 9 1023 Z (zs 0 h Z λ_ h=>bN (λhs=>absurd (hs 9 (by decide)) (by decide)) (Ad ?_))))));exact rG ⟨_,Z,h.p [0,2,3,4] Z⟩ Z
  refine qi qa h Z Z Z λ_ _ h=>Ag (h.p [2,3] Z) (Ao 2 319 Z (uH r1 h (cB 108 Z) (eH (cp _ (h.oldS (s2.mono hg.old)) (h.oldS (s3.mono hg.old)) (h.oldS (s4.mono hg.old))) I) Z Z Z Z λ_ _ _ _ h=>Ag (h.p [3,4] Z) ?_));have B:=bJ a;obtain⟨_,o_5,_,_,D,H,-,a8,_⟩:=(h.sl 0 Z).1.at a;obtain rfl:=dw a8;refine Ax 6 383 D H ⟨B.1,qE B.2.1 (h.sl 0 Z).2⟩ (h.p [3,4] Z) Z (Ao 7 511 Z (dF (da qa (qR h 0 Z a D H (nG (w:=w) (S:=λ_=>False) L)) (j:=0) Z Z Z) Z (Ag (h.p [3,4] Z) (Ao 9 1023 Z (zs 1 h Z λ_ h=>bN (λhs=>absurd (hs 9 (by decide)) (by decide)) (Ad ?_))))));exact rG ⟨_,Z,h.p [1,2,3,4] Z⟩ Z
 rintro _ _ ⟨d,rfl,h⟩;refine aD (rA [] [0,2,3] h Z λ_ h=>M3 255 [0,1,2,3,4,5,6,7] 2 2 0 (h.p [0,2,3] Z) Z ?_);obtain⟨_,_,F,R,_,_,_,_,X,a4,a9,O⟩:=s2.ix F;obtain⟨_,_,rfl,_⟩:=bI a9;refine Ae 8 511 X a4 R (h.p [0,2,3] Z) Z (M0 1023 [9] (h.p [0,2,3] Z) Z (Al 10 2047 1 O (h.p [0,2,3] Z) Z ?_));obtain⟨_,_,F,T,_,_,_,_,Y,a5,b4,P⟩:=s1.ix F;obtain⟨_,_,_,_,_,_,rfl,_,s8,_⟩:=aV b4;refine Ae 11 4095 Y a5 T (h.p [0,2,3] Z) Z (M0 8191 [12] (h.p [0,2,3] Z) Z (Al 13 16383 3 P (h.p [0,2,3] Z) Z (M1 65535 [14,15] 1 (h.p [0,2,3] Z) Z ?_)));obtain⟨v,_,F,W,_,_,_,_,a3,a6,b5,Q⟩:=s8.ix F;obtain⟨t,p,u,s,rfl,b7,b8⟩:=bd b5;refine Ae 16 131071 a3 a6 W (h.p [0,2,3] Z) Z (Al 17 262143 0 Q (h.p [0,2,3] Z) Z (M2 2097151 [18,19,20] 2 0 (h.p [0,2,3] Z) Z (Ao 21 4194303 Z (uY h F (zW (h.old (qm.mono y hg.old))) Z λ_ _ _ _ _ h F=>Ag (h.p [1,3,4] Z) ?_))));obtain⟨M,J,F,C,_,_,_,_,k,o,rfl,_⟩:=(h.sl 0 Z).1.ix F;refine Ax 22 8388607 k o ⟨C.1,qE C.2.1 (h.sl 0 Z).2⟩ (h.p [1,3,4] Z) Z (uc (λe w'=>e=[(4,vp c),(5,vi M)]/\SH w w' [oX d (yj L) 225,oX c (kI v t u p s) 109,oX g (wK x) 127,oX f (qL b p1 p2 p3 p4 p5 k1 k2 k3 k4 k5) 34]) 0 (bits 26 67108863) ?_ ?_)
 .intro K;refine At 23 24 16777215 25165823 Z ?_ ?_
  .refine dF (da qa (qR (w1:=w) (S1:=λ_=>False) h 0 Z J k o Z) (j:=0) Z Z Z) Z (Ag (h.p [1,3,4] Z) (Ao 24 33554431 Z (zs 2 h Z λb9 h=>G0 67108863 [25] (h.p [1,3,4] Z) Z ?_)));have h:=h.p [1,2,3,4] Z;exact aK K ⟨Z,h⟩ Z
  refine zs 2 h Z λb9 h=>Ag (h.p [1,3,4] Z) (Ao 23 33554431 Z (dF (da qa (qR (w1:=w) (S1:=λ_=>False) h 0 Z J k o Z) (j:=0) Z Z Z) Z (G0 67108863 [25] (h.p [1,3,4] Z) Z ?_)));have h:=h.p [1,2,3,4] Z;exact aK K ⟨Z,h⟩ Z
 rintro _ _ ⟨rfl,h⟩;refine Ad ?_;obtain rfl:=qe F;have b6:gk.Rs (ρ:=(bo×Int)) h.wc (vJ A w h.wc) (v,M) [oV bo (kI v t u p s),oV Int [vi M]]:=⟨_,_,Z,(hg.outR h (uC v (hg.inS h b7) (hg.inS h b8))),⟨_,Z,Z⟩⟩;exact gn qa (ρ:=(bo×Int)) (r:=(v,M)) [oV bo (kI v t u p s),oV Int [vi M]] h ⟨⟨_,_,_,Z,Z,h.box 1 Z,Z⟩,Z,G⟩ b6
def gf(_:Nat)(a:Int)(b:Int)(mode:Int):Option Int:=(T9 a b).bind λc=>(HD a b).bind λd=>(bif decide (d<0) then V (mode==0) else V Cd).bind λb1=>bif b1 then V (qj (c-1)) else bif decide (d > 0) then bif (mode==1) then V (qj (c+1)) else V c else V c
theorem rF{a b mode}  {r:Int}(F:gf n a b mode=V r):qN prog 195 [vi a,vi b,vi mode] w r:=by
 refine zV 32 func195 Z λh=>X0 8 Z ?_;obtain⟨m,c,F⟩:=qc F;obtain⟨k,c⟩:=SZ c;refine dF (qc4 k Z Z) Z ?_;rw[c];refine X0 6 Z ?_;obtain⟨o,d,F⟩:=qc F;obtain⟨l,d⟩:=vx d;refine dF (N5 l Z Z) Z ?_;rw[d];refine X0 4 Z ?_;obtain⟨i,g,_,F,f⟩:=bindE F;refine bw (λe w'=>∃b1,i b1=V r/\e=[(2,vi mode),(7,vi m),(8,vi o),(20,.bool b1)]/\SH w w' []) ?_ ?_
 .refine X0 4 Z (qh (t:=17) F Z ?_ ?_)<;>intro F
  .refine X0 6 Z ?_;exact rH F f h Z
  refine X0 4 Z ?_;exact rH F f h Z
 rintro _ _ ⟨b1,F,rfl,h⟩;subst g;refine qn Z F ?_ ?_<;>intro F
 .exact X0 6 Z (ri h F Z)
 refine X0 7 Z (qh (t:=25) F Z ?_ ?_)<;>intro F
 .refine X0 6 Z (qn Z F ?_ ?_)<;>intro F
  .exact X0 6 Z (ri h F Z)
  exact X0 6 Z (ri h F Z)
 exact X0 4 Z (bQ Z Z (X0 6 Z (ri h F Z)))
def dR(i:List Int)(x:Int)(a:Int)(c:Int):Nat->Int->Option (eE (Int×Int×Int) Int)|0,_=>U|n+1,b=>bif decide (b>=0) then(qG i b).bind λd=>bif ((if c<(if a > x then a else x) then c else(if a > x then a else x))==d) then V (.ret (b,1,0)) else(qG i b).bind λf=>bif decide ((if c<(if a > x then a else x) then c else(if a > x then a else x)) > f) then(qG i (qj (b+1))).bind λg=>(qG i b).bind λh=>V (.ret (b,qj (g-(if c<(if a > x then a else x) then c else(if a > x then a else x))),qj ((if c<(if a > x then a else x) then c else(if a > x then a else x))-h))) else dR i x a c n (qj (b-1)) else V (.nxt b)
def ie(n:Nat)(c:List Int)(x:Int):Option (Int×Int×Int):=(qG c 0).bind λa=>(qG c (qj ((c.length:Int)-1))).bind λb=>(dR c x a b n (qj ((c.length:Int)-1))).bind λ|.ret r=>V r|.nxt _=>V (0,1,0)
theorem xS{T:List Int}{x}(f:Ro w T cs1){r:Int×Int×Int}(F:ie n T x=V r):qN prog 235 [gv T cs1,vi x] w r:=by
 obtain⟨p1,Q,rfl,s1⟩:=f;refine zV 56 func235 Z λh=>X0 16 Z ?_;obtain⟨a,_,F,s,_,_,_,_,A,J,rfl,g⟩:=s1.ix F;refine ft A J s Z (bL 0 g h Z (X0 9 Z ?_));obtain⟨c,_,F,t,_,_,_,_,B,K,rfl,i⟩:=s1.ix F;refine ft B K t Z (bL 0 i h Z (X0 10 Z ?_));obtain⟨o1,F,b⟩:=qc F;refine qq (rL (λm e w'=>∃d,dR T x a c m d=V o1/\e=[(0,oL p1 T Q),(1,vi (if c<(if a > x then a else x) then c else(if a > x then a else x))),(8,vi d)]/\SH w w' []) n ⟨_,F,Z,h⟩ Z ?_);rintro P _ _ ⟨d,F,rfl,h⟩;rcases P with _|P
 .cases F
 refine X0 6 Z (qn Z F ?_ ?_)<;>intro F
 .refine X0 9 Z ?_;obtain⟨_,_,F,u,_,_,_,_,C,L,rfl,k⟩:=s1.ix F;refine ft C L u Z (bL 0 k h Z (X0 2 Z (qn Z F ?_ ?_)))<;>intro F
  .refine X0 7 Z ?_;cases qe F;have F:=b;cases qe F;exact aC qa (ρ:=(Int×Int×Int)) [oV Int [vi d],oV Int [vi 1],oV Int [vi 0]] h ⟨Z,Z,Z,G⟩ (Cr h (aj h sO (aj h sO ve (by rfl)) (by rfl)))
  refine X0 6 Z ?_;obtain⟨_,_,F,v,_,_,_,_,D,M,rfl,l⟩:=s1.ix F;refine ft D M v Z (bL 0 l h Z (X0 2 Z (qn Z F ?_ ?_)))<;>intro F
  .refine aD (rD (qd7 Z ?_));obtain⟨R,_,F,y,_,_,_,_,H,N,rfl,o⟩:=s1.ix F;refine fU H N y Z (dZ 0 o h Z (qe1 Z ?_));obtain⟨S,_,F,z,_,_,_,_,I,O,rfl,p⟩:=s1.ix F;refine fU I O z Z (dZ 0 p h Z (qd7 Z (dN h λ_ h=>?_)));cases qe F;have F:=b;cases qe F;exact aC qa (ρ:=(Int×Int×Int)) [oV Int [vi d],oV Int [vi (qj (R-(if c<(if a > x then a else x) then c else(if a > x then a else x))))],oV Int [vi (qj ((if c<(if a > x then a else x) then c else(if a > x then a else x))-S))]] h ⟨Z,Z,Z,G⟩ (Cr h (aj h sO (aj h sO ve (by rfl)) (by rfl)))
  exact X0 7 Z (rK ⟨_,F,Z,h⟩ Z)
 refine qy Z ?_;cases qe F;have F:=b;refine X0 6 Z ?_;cases qe F;exact aC qa (ρ:=(Int×Int×Int)) [oV Int [vi 0],oV Int [vi 1],oV Int [vi 0]] h ⟨Z,Z,Z,G⟩ (Cr h (aj h sO (aj h sO ve (by rfl)) (by rfl)))
def fR(Ce:qU)(d:Int)(f:Int)(g:Int)(h:Int)(i:Int)(k:Int)(b:Int):Nat->Int->Int->Option (Int×Int)|0,_,_=>U|n+1,c,a=>bif decide (a<2) then(bif (b==1) then V g else V f).bind λl=>(bif (a==0) then V (qj (l*i)) else V (qj (l*k))).bind λm=>bif decide (m > 0) then(qG Ce.Bg (qj ((qj ((qj ((qj (d+b))*(Ce.Bj.length:Int)))+h))+a))).bind λo=>fR Ce d f g h i k b n (qj (c+(qj (m*o)))) (qj (a+1)) else fR Ce d f g h i k b n c (qj (a+1)) else V (c,a)
def kT(Ce:qU)(c:Int)(d:Int)(f:Int)(g:Int)(h:Int)(i:Int):Nat->Int->Int->Option (Int×Int)|0,_,_=>U|n+1,b,a=>bif decide (a<2) then(fR Ce c d f g h i a n b 0).bind λ(k,_)=>kT Ce c d f g h i n k (qj (a+1)) else V (b,a)
def gF(n:Nat)(Ce:qU)(Cf:Int)(Cg:Int)(a:Int):Option Int:=(ie n Ce.Bp Cf).bind λ(h,b,c)=>(ie n Ce.Bj Cg).bind λ(i,d,f)=>(kT Ce h b c i d f n 0 0).bind λ(g,_)=>(gf n g (qj ((qj (b+c))*(qj (d+f)))) a).bind λk=>V k
theorem BU{Ce:qU}{Cf Cg b}(I:Ro w Ce cs1){r:Int}(F:gF n Ce Cf Cg b=V r):qN prog 192 [gv Ce cs1,vi Cf,vi Cg,vi b] w r:=by
 obtain⟨p1,x,z,y,A,k3,rfl,s1,s2,s3⟩:=ee I;refine zV 88 func192 Z λh=>db (qK h Z Z λ_ a h=>X1 7 0 h Z ?_);obtain⟨⟨d,f,g⟩,N,F⟩:=qc F;refine bB (d,f,g) h (cB 235 Z) (xS ⟨_,_,Z,(h.oldS s1)⟩ N) Z Z Z Z λ_ _ _ X O=>?_;obtain⟨_,_,rfl,Y,P⟩:=X.consI O;obtain⟨_,_,rfl,a3,Q⟩:=Y.consI P;obtain⟨rfl,h⟩:=a3.lastI Q;refine X1 13 0 h Z ?_;obtain⟨⟨i,k,l⟩,R,F⟩:=qc F;refine bB (i,k,l) h (cB 235 Z) (xS ⟨_,_,Z,(h.oldS s2)⟩ R) Z Z Z Z λ_ _ _ a4 S=>?_;obtain⟨_,_,rfl,a5,T⟩:=a4.consI S;obtain⟨_,_,rfl,a6,W⟩:=a5.consI T;obtain⟨rfl,h⟩:=a6.lastI W;refine X1 24 0 h Z ?_;obtain⟨o1,F,D⟩:=qc F;refine qq (rL (λm e w'=>∃i1 c,kT Ce d f g i k l m i1 c=V o1/\e=[(3,vi b),(4,vp a),(9,vi d),(10,vi f),(11,vi g),(12,vi i),(13,vi k),(14,vi l),(15,vi (Ce.Bj.length:Int)),(16,vi i1),(17,vi c)]/\SH w w' [oX a (lc Ce p1 z A x y k3) 175]) n ⟨_,_,F,Z,h⟩ Z ?_);rintro m1 _ _ ⟨i1,c,F,rfl,h⟩;rcases m1 with _|m1
 .cases F
 refine X0 6 Z (qn Z F ?_ ?_)<;>intro F
 .refine X0 7 Z ?_;obtain⟨o2,F,H⟩:=qc F;refine qq (rL (λm e w'=>∃u v,fR Ce d f g i k l c m u v=V o2/\e=[(3,vi b),(4,vp a),(9,vi d),(10,vi f),(11,vi g),(12,vi i),(13,vi k),(14,vi l),(15,vi (Ce.Bj.length:Int)),(16,vi u),(17,vi c),(18,vi v)]/\SH w w' [oX a (lc Ce p1 z A x y k3) 175]) m1 ⟨_,_,F,Z,h⟩ Z ?_);rintro m2 _ _ ⟨u,v,F,rfl,h⟩;rcases m2 with _|m2
  .cases F
  refine X0 6 Z (qn Z F ?_ ?_)<;>intro F
  .refine X0 14 Z ?_;obtain⟨C,t,_,F,p⟩:=bindE F;refine bw (λe w'=>∃i5,C i5=V o2/\e=[(3,vi b),(4,vp a),(9,vi d),(10,vi f),(11,vi g),(12,vi i),(13,vi k),(14,vi l),(15,vi (Ce.Bj.length:Int)),(16,vi u),(17,vi c),(18,vi v),(19,vi i5)]/\SH w w' [oX a (lc Ce p1 z A x y k3) 175]) ?_ ?_
   .refine qn Z F ?_ ?_<;>intro F
    .refine X0 4 Z ?_;exact rH F p h Z
    refine eZ ?_;exact rH F p h Z
   rintro _ _ ⟨i5,F,rfl,h⟩;subst t;refine X0 6 Z ?_;obtain⟨B,s,_,F,o⟩:=bindE F;refine bw (λe w'=>∃i6,B i6=V o2/\e=[(3,vi b),(4,vp a),(9,vi d),(10,vi f),(11,vi g),(12,vi i),(13,vi k),(14,vi l),(15,vi (Ce.Bj.length:Int)),(16,vi u),(17,vi c),(18,vi v),(19,vi i6)]/\SH w w' [oX a (lc Ce p1 z A x y k3) 175]) ?_ ?_
   .refine qn Z F ?_ ?_<;>intro F
    .refine X0 6 Z ?_;exact rH F o h Z
    refine X0 6 Z ?_;exact rH F o h Z
   rintro _ _ ⟨i6,F,rfl,h⟩;subst s;refine X0 5 Z (qn Z F ?_ ?_)<;>intro F
   .refine X1 14 0 h Z ?_;obtain⟨_,_,F,K,_,_,_,_,L,M,rfl,J⟩:=s3.ix F;exact ft L M K Z (bL 0 J h Z (X0 10 Z (rK ⟨_,_,F,Z,h⟩ Z)))
   exact X0 7 Z (rK ⟨_,_,F,Z,h⟩ Z)
  refine qy Z ?_;cases qe F;exact X0 6 Z (rK ⟨_,_,H,Z,h⟩ Z)
 refine qy Z ?_;cases qe F;have F:=D;exact X0 11 Z (mR h F rF Z λ_ _ h F=>X0 2 Z (ri h F Z))
def kF(b:aR)(r1:List Int):Nat->(List Int)->Int->Option ((List Int)×Int)|0,_,_=>U|n+1,x1,a=>bif decide (a<(r1.length:Int)) then(qG b.Ak a).bind λd=>(qG x1 d).bind λf=>(qG b.Bw a).bind λg=>(qG r1 a).bind λh=>(df x1 ([qj (f+(qj (g*h)))]:List Int)).bind λc=>kF b r1 n c (qj (a+1)) else V (x1,a)
def rM(n:Nat)(b:qf)(net:Int):Option (List Int):=(qG b.Ah net).bind λa=>(ta n b net).bind λr1=>(kF a r1 n ([0]:List Int) 1).bind λ(x1,_)=>V x1
theorem yH{b:qf}{net}(i:Ro w b cs1){r:List Int}(F:rM n b net=V r):qN prog 236 [gv b cs1,vi net] w r:=by
 obtain⟨_,_,_,_,_,_,_,_,_,_,rfl,_,_,_,_,s5⟩:=qZ i;refine zV 47 func236 Z λh=>db (qK h Z Z λw1 _ h=>X1 7 0 h Z ?_);obtain⟨T,_,F,A,_,_,_,_,D,K,O,v⟩:=s5.ix F;obtain⟨p6,X,p7,Y,p8,k8,p9,k9,rfl,s6,s7,_,_⟩:=dM O;refine ft D K A Z (bL 0 v h Z (qi qa h Z Z Z λ_ g h=>zs 0 h Z λ_ h=>X1 5 1 h Z (uY h F (zW (h.old i)) Z λr1 _ S1 t s h F=>X0 4 Z (qt qa [.const (vi (0))] _ ([0]:List Int) h z9 ⟨Z,G⟩ Z λ_ _ _ h=>X0 7 Z ?_))));obtain⟨o1,F,u⟩:=qc F;refine qq ?_;have h:=h.p [0,1,2] Z;refine rL (λm e w'=>∃R f d c x1 Q,kF T r1 m x1 Q=V o1/\e=[(5,vp g),(6,oL t r1 s),(7,oS f d c),(8,vi Q)]/\SH w w' [oW R (x1:List Int) [oS f d c],oW S1 (r1:List Int) [oL t r1 s],oX g (oD T p6 p7 p8 p9 X Y k8 k9) 171]) n ⟨_,_,_,_,_,_,F,Z,h⟩ Z ?_;rintro S _ _ ⟨R,f,d,c,x1,Q,F,rfl,h⟩;obtain rfl:=(h.sl 0 Z).2;rcases S with _|S
 .cases F
 refine X0 8 Z (qn Z F ?_ ?_)<;>intro F
 .refine WC (rA [] [1,2] h Z λ_ h=>M1 31 [0,1,2,3,4] 1 (h.p [1,2] Z) Z ?_);obtain⟨_,_,F,B,_,_,_,_,H,L,rfl,x⟩:=s6.ix F;refine Ae 5 63 H L B (h.p [1,2] Z) Z (Al 6 127 0 x (h.p [1,2] Z) Z ?_);obtain⟨y3,_,F,k,_,_,_,_,I,M,rfl,y⟩:=(h.sl 0 Z).1.ix F;refine Ax 7 255 I M ⟨k.1,qE k.2.1 (h.sl 0 Z).2⟩ (h.p [1,2] Z) Z (M1 3839 [9,10,11] 1 (h.p [1,2] Z) Z ?_);obtain⟨y4,_,F,C,_,_,_,_,J,N,rfl,z⟩:=s7.ix F;refine Ae 12 7935 J N C (h.p [1,2] Z) Z (Al 13 16127 0 z (h.p [1,2] Z) Z (M0 65279 [14,15] (h.p [1,2] Z) Z ?_));obtain⟨y5,P,F,l,_,_,_,_,o,p,rfl,_⟩:=(h.sl 1 Z).1.ix F;refine Ax 16 130815 o p ⟨l.1,qE l.2.1 (h.sl 1 Z).2⟩ (h.p [1,2] Z) Z (Aw 17 261887 (λw' hw=>da qa (qR (w1:=w) (S1:=λ_=>False) hw 0 Z P o p Z) (j:=0) Z Z Z) (h.p [1,2] Z) Z ?_);refine M0 524031 [18] (h.p [1,2] Z) Z (Ao 8 524287 Z (zc 0 y Z (G0 1048575 [19] (h.p [1,2] Z) Z (Ao 20 2097151 Z (qt qa [.tmp 43] _ ([qj (y3+(qj (y4*y5)))]:List Int) h z9 ⟨Z,G⟩ Z λ_ _ _ h=>Ag (h.p [2,3] Z) (Ao 21 4194303 Z ?_))))));obtain⟨_,a,F⟩:=qc F;obtain⟨W,a⟩:=qJ a;refine bn qa 1 h Z (h.sl 0 Z).1 (h.sl 0 Z).2 z9 W a Z λ_ _ _ _ h=>G0 8388607 [22] (h.p [2,3] Z) Z (Ad (X0 6 Z ?_));exact rK ⟨_,_,_,_,_,_,F,Z,h.p [1,2,3] Z⟩ Z
 refine qy Z ?_;cases qe F;have F:=u;refine X0 5 Z ?_;cases qe F;exact rO 0 h Z ⟨Z,G⟩
def eC(b:qf)(net:Int)(mode:Int)(r1:List Int):Nat->(List Int)->Int->Option ((List Int)×Int)|0,_,_=>U|n+1,x1,a=>(qG b.Ah net).bind λf=>bif decide (a<(f.Bl.length:Int)) then(qG b.Ah net).bind λg=>(qG g.Bl a).bind λh=>(qG r1 h).bind λi=>(gf n i 1000 mode).bind λc=>(df x1 ([c]:List Int)).bind λd=>eC b net mode r1 n d (qj (a+1)) else V (x1,a)
def pb(n:Nat)(b:qf)(net:Int)(mode:Int):Option (List Int):=(rM n b net).bind λr1=>(eC b net mode r1 n ([]:List Int) 0).bind λ(x1,_)=>V x1
theorem CI{b:qf}{net mode}(f:Ro w b cs1){r:List Int}(F:pb n b net mode=V r):qN prog 193 [gv b cs1,vi net,vi mode] w r:=by
 obtain⟨p1,T,p2,W,p3,k3,p4,X,p5,Y,rfl,_,_,_,_,R⟩:=qZ f;refine zV 43 func193 Z λh=>db (qK h Z Z λ_ d h=>X1 6 0 h Z (uY h F (yH (h.old f)) Z λr1 _ S1 Q O h F=>X0 4 Z (qt qa [] _ ([]:List Int) h z9 trivial Z λ_ _ _ h=>X0 7 Z ?_)));obtain⟨o1,F,i⟩:=qc F;refine qq (rL (λm e w'=>∃N L c K x1 J,eC b net mode r1 m x1 J=V o1/\e=[(1,vi net),(2,vi mode),(3,vp d),(7,oL Q r1 O),(8,oS L c K),(9,vi J)]/\SH w w' [oW N (x1:List Int) [oS L c K],oW S1 (r1:List Int) [oL Q r1 O],oX d (qL b p1 p2 p3 p4 p5 T W k3 X Y) 34]) n ⟨_,_,_,_,_,_,F,Z,h⟩ Z ?_);rintro P _ _ ⟨N,L,c,K,x1,J,F,rfl,h⟩;obtain rfl:=(h.sl 0 Z).2;rcases P with _|P
 .cases F
 refine X1 7 2 h Z ?_;obtain⟨_,_,F,s,_,_,_,_,v,A,H,k⟩:=R.ix F;obtain⟨_,_,_,_,_,_,_,_,rfl,_,_,_,_⟩:=dM H;refine ft v A s Z (cr Z (bL 3 k h Z (X0 3 Z (qn Z F ?_ ?_))))<;>intro F
 .refine X1 9 2 h Z ?_;obtain⟨_,_,F,t,_,_,_,_,x,B,I,l⟩:=R.ix F;obtain⟨_,_,_,_,_,_,_,_,rfl,_,_,_,M⟩:=dM I;refine ft x B t Z (cr Z (bL 3 l h Z (cr Z ?_)));obtain⟨_,_,F,u,_,_,_,_,y,C,rfl,o⟩:=M.ix F;refine ft y C u Z (bL 0 o h Z ?_);obtain⟨_,_,F,g,_,_,_,_,z,D,rfl,p⟩:=(h.sl 1 Z).1.ix F;refine zx z D ⟨g.1,qE g.2.1 (h.sl 1 Z).2⟩ Z (zc 0 p Z (cr Z (mR h F rF Z λr2 _ h F=>qt qa [.tmp 39] _ ([r2]:List Int) h z9 ⟨Z,G⟩ Z λ_ _ _ h=>?_)));obtain⟨_,a,F⟩:=qc F;obtain⟨S,a⟩:=qJ a;refine bn qa 1 h Z (h.sl 0 Z).1 (h.sl 0 Z).2 z9 S a Z λ_ _ _ _ h=>X0 8 Z ?_;exact rK ⟨_,_,_,_,_,_,F,Z,h.p [1,2,3] Z⟩ Z
 refine qy Z ?_;cases qe F;have F:=i;refine X0 5 Z ?_;cases qe F;exact rO 0 h Z ⟨Z,G⟩
def wr(n:Nat)(b:qf)(x:qx):Option Int:=(fa n (⟨b.Aa.Ab,b.Aa.Ap,b.Aa.Ai⟩:qk)).bind λr1=>(qG r1 (qj (x.To.tdiv 2))).bind λa=>V a.net
theorem EI{b:qf}{x:qx}(c:Ro w b cs1)(d:Ro w x cs2){r:Int}(F:wr n b x=V r):qN prog 194 [gv b cs1,gv x cs2] w r:=by
 obtain⟨_,_,_,_,_,_,_,_,_,_,rfl,_,s2,l,m,_⟩:=qZ c;obtain rfl:=aB d;refine zV 14 func194 Z λh=>db (qK h Z Z λ_ _ h=>qK h Z Z λ_ _ h=>X0 3 Z (rA [] [0,1] h Z λ_ h=>M2 59 [0,1,3,4,5] 1 0 (h.p [0,1] Z) Z (Ao 2 63 Z (uY h F (eH (cp _ (h.oldS s2) (h.oldS l) (h.oldS m))) Z λ_ _ _ _ _ h F=>Ag (h.p [1,2] Z) ?_))));obtain⟨_,_,F,a,_,_,_,_,g,i,k,f⟩:=(h.sl 0 Z).1.ix F;obtain rfl:=dw k;exact Ax 6 127 g i ⟨a.1,qE a.2.1 (h.sl 0 Z).2⟩ (h.p [1,2] Z) Z (M0 255 [7] (h.p [1,2] Z) Z (Ao 8 511 Z (zc 2 f Z (G0 1023 [9] (h.p [1,2] Z) Z (Ad (ri h F Z))))))
def kv(_:Nat)(c:qH)(kind:Int)(mode:Int):Option Int:=bif (kind==1) then bif (mode==0) then V c.Bb else V c.Be else bif (mode==0) then V c.Az else V c.Bd
theorem yJ{c:qH}{kind mode}(a:Ro w c cs1){r:Int}(F:kv n c kind mode=V r):qN prog 196 [gv c cs1,vi kind,vi mode] w r:=by
 obtain rfl:=dL a;refine zV 21 func196 Z λh=>db (qK h Z Z λ_ _ h=>X0 8 Z (qn Z F ?_ ?_))<;>intro F
 .refine X0 6 Z (qn Z F ?_ ?_)<;>intro F
  .exact X1 6 0 h Z (ri h F Z)
  exact X1 7 0 h Z (ri h F Z)
 refine X0 7 Z (qn Z F ?_ ?_)<;>intro F
 .exact X1 6 0 h Z (ri h F Z)
 exact X1 7 0 h Z (ri h F Z)
def aI(n:Nat)(b:qf)(c:qH)(x:qx)(s:Int)(mode:Int):Option Int:=bif (x.Bf==1) then(wq n b x).bind λ(d,f)=>(qG d.Bq (x.To.tmod 2)).bind λp=>(gF n p s f mode).bind λg=>(kv n c x.Bf mode).bind λh=>(gf n (qj (g*h)) 1000 mode).bind λi=>V i else(wr n b x).bind λk=>(pb n b k mode).bind λl=>(qG l x.Ca).bind λr=>(kv n c x.Bf mode).bind λm=>(gf n (qj (r*m)) 1000 mode).bind λa=>V a
theorem iW{b:qf}{c:qH}{x:qx}{slew mode}(i:Ro w b cs1)(k:Ro w c cs2)(f:Ro w x cs3){r:Int}(F:aI n b c x slew mode=V r):qN prog 134 [gv b cs1,gv c cs2,gv x cs3,vi slew,vi mode] w r:=by
 obtain⟨_,_,_,_,_,_,_,_,_,_,rfl,_,_,_,_,_⟩:=qZ i;obtain rfl:=dL k;obtain rfl:=aB f;refine zV 53 func134 Z λh=>db (qK h Z Z λ_ _ h=>qK h Z Z λ_ _ h=>qK h Z Z λ_ _ h=>X1 13 0 h Z (qn Z F ?_ ?_))<;>intro F
 .refine X2 4 2 0 h Z ?_;have a:Rg (old w) w (old w) w:=.start (λ_ h=>h);obtain⟨⟨S,T⟩,B,F⟩:=qc F;refine pO (S,T) a h (cB 191 Z) (EH (a.regOld h) (a.inR h i) (a.inR h f) B) Z Z Z Z λ_ _ _ g d J H=>?_;have N:=h.ext d.below;have p:=Up.box 1 h d Z;have W:=Up.R a h d k;have O:=Up.boxP (x:=c) a 1 h d Z (a.inR h k);have l:=Up.box 0 h d Z;have e:=Up.R a h d f;have P:=Up.boxP (x:=x) a 0 h d Z (a.inR h f);have R:=h.below.trans (d.below.mono h.below.size);have h:=J;obtain⟨_,_,rfl,o,I⟩:=dP H;have Q:=o;obtain⟨_,_,_,_,rfl,X,_⟩:=bd o;obtain⟨_,rfl,C⟩:=kQ I;obtain rfl:=C;refine CK Z (qi qa h Z Z Z λ_ _ h=>zs 0 h Z λ_ h=>X1 6 0 h Z (bL 1 l h Z (cr Z ?_)));obtain⟨Y,_,F,u,_,_,_,_,v,z,D,s⟩:=X.ix F;obtain⟨_,_,_,_,_,_,rfl,K,L,M⟩:=ee D;refine ft v z u Z (bL 0 s h Z (CK Z (mR h F (BU (tL Y (h.oldS (K.mono g.old)) (h.oldS (L.mono g.old)) (h.oldS (M.mono g.old)))) Z λ_ _ h F=>X0 5 Z (bL 0 p h Z (cr Z (bL 2 l h Z (cr Z (mR h F (yJ (h.old (qm.mono W g.old))) Z λ_ _ h F=>mr Z (mR h F rF Z λ_ _ h F=>X0 2 Z ?_)))))))));have h:=h.unbase g.below ⟨λ_ h=>h,G⟩;exact ri h F Z
 refine rA [] [0,2] h Z λ_ h=>M4 215 [0,1,2,4,6,7] 1 1 0 0 (h.p [0,2] Z) Z (Ao 3 223 Z (mR h F (EI (h.old i) (h.old f)) Z λ_ _ h F=>Ag (h.p [0,2] Z) (Ao 5 255 Z (uY h F (CI (h.old i)) Z λ_ _ _ _ _ h F=>Ag (h.p [1,3] Z) ?_))));obtain⟨_,_,F,m,_,_,_,_,y,A,rfl,t⟩:=(h.sl 0 Z).1.ix F;exact Ax 8 511 y A ⟨m.1,qE m.2.1 (h.sl 0 Z).2⟩ (h.p [1,3] Z) Z (Ao 9 1023 Z (zc 0 t Z (G0 2047 [10] (h.p [1,3] Z) Z (Ad (X2 7 2 1 h Z (mR h F (yJ (h.old k)) Z λ_ _ h F=>mr Z (mR h F rF Z λ_ _ h F=>X0 2 Z (ri h F Z))))))))
def kZ(c:Int):Nat->Int->Int->Option (Int×Int)|0,_,_=>U|n+1,a,b=>bif decide (a<b) then bif decide ((qj ((qj ((qj ((qj (a+b))+1)).tdiv 2))*(qj ((qj ((qj (a+b))+1)).tdiv 2))))<=c) then kZ c n (qj ((qj ((qj (a+b))+1)).tdiv 2)) b else kZ c n a (qj ((qj ((qj ((qj (a+b))+1)).tdiv 2))-1)) else V (a,b)
def uS(n:Nat)(b:Int)(mode:Int):Option Int:=(kZ b n 0 2000000000).bind λ(a,_)=>bif (mode==1) then bif decide ((qj (a*a))<b) then V (qj (a+1)) else V a else V a
theorem NL{a_n mode}  {r:Int}(F:uS n a_n mode=V r):qN prog 237 [vi a_n,vi mode] w r:=by
 refine zV 36 func237 Z λh=>X0 10 Z ?_;obtain⟨o1,F,a⟩:=qc F;refine qq (rL (λm e w'=>∃b c,kZ a_n m b c=V o1/\e=[(0,vi a_n),(1,vi mode),(5,vi b),(6,vi c)]/\SH w w' []) n ⟨_,_,F,Z,h⟩ Z ?_);rintro d _ _ ⟨b,c,F,rfl,h⟩;rcases d with _|d
 .cases F
 refine X0 7 Z (qn Z F ?_ ?_)<;>intro F
 .refine X0 19 Z (qn Z F ?_ ?_)<;>intro F
  .exact X0 5 Z (rK ⟨_,_,F,Z,h⟩ Z)
  exact X0 6 Z (rK ⟨_,_,F,Z,h⟩ Z)
 refine qy Z ?_;cases qe F;have F:=a;refine X0 6 Z (qh (t:=26) F Z ?_ ?_)<;>intro F
 .refine X0 12 Z (qn Z F ?_ ?_)<;>intro F
  .exact X0 10 Z (ri h F Z)
  exact X0 6 Z (ri h F Z)
 exact X0 7 Z (bQ Z Z (X0 6 Z (ri h F Z)))
def xj(n:Nat)(b:qf)(net:Int)(i:Int)(h:Int)(mode:Int):Option Int:=(qG b.Ah net).bind λf=>(qG f.Bl i).bind λg=>(rM n b net).bind λr1=>(qG r1 g).bind λa=>(uS n (qj ((qj ((qj (1000000*h))*h))+(qj ((qj (4*a))*a)))) mode).bind λc=>(gf n c 1000 mode).bind λd=>V d
theorem NM{b:qf}{net sink slew mode}(a:Ro w b cs1){r:Int}(F:xj n b net sink slew mode=V r):qN prog 197 [gv b cs1,vi net,vi sink,vi slew,vi mode] w r:=by
 obtain⟨_,_,_,_,_,_,_,_,_,_,rfl,_,_,_,_,v⟩:=qZ a;refine zV 39 func197 Z λh=>db (qK h Z Z λ_ _ h=>X0 3 Z (rA [] [0] h Z λ_ h=>M2 59 [0,1,3,4,5] 0 0 (h.p [0] Z) Z ?_));obtain⟨_,_,F,i,_,_,_,_,l,p,u,d⟩:=v.ix F;obtain⟨_,_,_,_,_,_,_,_,rfl,_,_,_,x⟩:=dM u;refine Ae 6 123 l p i (h.p [0] Z) Z (M0 251 [7] (h.p [0] Z) Z (Al 8 507 3 d (h.p [0] Z) Z (M0 1019 [9] (h.p [0] Z) Z ?_)));obtain⟨_,_,F,k,_,_,_,_,m,s,rfl,f⟩:=x.ix F;refine Ae 10 2043 m s k (h.p [0] Z) Z (Al 11 4091 0 f (h.p [0] Z) Z (Ao 2 4095 Z (uY h F (yH (h.old a)) Z λ_ _ _ _ _ h F=>Ag (h.p [1] Z) ?_)));obtain⟨_,_,F,c,_,_,_,_,o,t,rfl,g⟩:=(h.sl 0 Z).1.ix F;exact Ax 12 8191 o t ⟨c.1,qE c.2.1 (h.sl 0 Z).2⟩ (h.p [1] Z) Z (Ao 13 16383 Z (zc 0 g Z (G0 32767 [14] (h.p [1] Z) Z (Ad (X0 12 Z (mR h F NL Z λ_ _ h F=>cr Z (mR h F rF Z λ_ _ h F=>X0 2 Z (ri h F Z))))))))
def cP(n:Nat)(b:qf)(x:qx)(i:Int)(mode:Int):Option Int:=bif (x.Bf==1) then(wq n b x).bind λ(c,d)=>(qG c.Ba (x.To.tmod 2)).bind λh=>(gF n h i d mode).bind λf=>V f else(wr n b x).bind λg=>(xj n b g x.Ca i mode).bind λa=>V (if a<1000000 then a else 1000000)
theorem lb{b:qf}{x:qx}{slew mode}(f:Ro w b cs1)(c:Ro w x cs2){r:Int}(F:cP n b x slew mode=V r):qN prog 135 [gv b cs1,gv x cs2,vi slew,vi mode] w r:=by
 obtain⟨_,_,_,_,_,_,_,_,_,_,rfl,_,_,_,_,_⟩:=qZ f;obtain rfl:=aB c;refine zV 41 func135 Z λh=>db (qK h Z Z λ_ _ h=>qK h Z Z λ_ _ h=>X1 9 0 h Z (qn Z F ?_ ?_))<;>intro F
 .refine X2 4 1 0 h Z ?_;have a:Rg (old w) w (old w) w:=.start (λ_ h=>h);obtain⟨⟨L,M⟩,s,F⟩:=qc F;refine pO (L,M) a h (cB 191 Z) (EH (a.regOld h) (a.inR h f) (a.inR h c) s) Z Z Z Z λ_ _ _ g d B z=>?_;have H:=h.ext d.below;have k:=Up.box 0 h d Z;have S:=Up.R a h d c;have I:=Up.boxP (x:=x) a 0 h d Z (a.inR h c);have K:=h.below.trans (d.below.mono h.below.size);have h:=B;obtain⟨_,_,rfl,i,A⟩:=dP z;have J:=i;obtain⟨_,_,_,_,rfl,_,P⟩:=bd i;obtain⟨_,rfl,t⟩:=kQ A;obtain rfl:=t;refine CK Z (qi qa h Z Z Z λ_ _ h=>zs 0 h Z λ_ h=>X1 7 0 h Z (bL 1 k h Z (cr Z ?_)));obtain⟨R,_,F,m,_,_,_,_,o,p,u,l⟩:=P.ix F;obtain⟨_,_,_,_,_,_,rfl,Q,C,D⟩:=ee u;refine ft o p m Z (bL 0 l h Z (CK Z (mR h F (BU (tL R (h.oldS (Q.mono g.old)) (h.oldS (C.mono g.old)) (h.oldS (D.mono g.old)))) Z λ_ _ h F=>X0 2 Z ?_)));have h:=h.unbase g.below ⟨λ_ h=>h,G⟩;exact ri h F Z
 refine N7 (rD (Y1 1 1 h Z ?_));refine Y1 1 1 h Z ?_;refine Y1 1 0 h Z ?_;obtain⟨N,v,F⟩:=qc F;refine dB N (N6 _) (cB 194 Z) (λ_ T=>EI ((h.ext T).old f) ((h.ext T).old c) v) Z Z Z Z (Y1 2 0 h Z ?_);refine xz Z ?_;obtain⟨O,y,F⟩:=qc F;exact dB O (N6 _) (cB 197 Z) (λ_ T=>NM ((h.ext T).old f) y) Z Z Z Z (xz Z (dN h λ_ h=>ri h F Z))
def lA(n:Nat)(Ce:qf)(Cf:qH)(Cg:qx)(a:qg):Option (qg×qg):=(aI n Ce Cf Cg a.Ar 0).bind λr1=>(aI n Ce Cf Cg a.Ar 1).bind λb=>(cP n Ce Cg a.Ar 0).bind λc=>(cP n Ce Cg a.Ar 1).bind λd=>(aI n Ce Cf Cg a.Bc 0).bind λf=>(aI n Ce Cf Cg a.Bc 1).bind λg=>(cP n Ce Cg a.Bc 0).bind λh=>(cP n Ce Cg a.Bc 1).bind λi=>V ((⟨(if f<r1 then f else r1),(if g > b then g else b)⟩:qg),(⟨(if h<c then h else c),(if i > d then i else d)⟩:qg))
theorem oz{Ce:qf}{Cf:qH}{Cg:qx}{f:qg}(a:Ro w Ce cs1)(d:Ro w Cf cs2)(b:Ro w Cg cs3)(H:Ro w f cs4){r:qg×qg}(F:lA n Ce Cf Cg f=V r):qN prog 172 [gv Ce cs1,gv Cf cs2,gv Cg cs3,gv f cs4] w r:=by
 obtain⟨p1,I,M,J,N,k3,O,K,P,L,rfl,_,_,_,_,_⟩:=qZ a;obtain rfl:=dL d;obtain rfl:=aB b;obtain rfl:=qC H;refine zV 76 func172 Z λh=>db (qK h Z Z λ_ i h=>qK h Z Z λ_ k h=>qK h Z Z λ_ l h=>qK h Z Z λ_ m h=>qi qa h Z Z Z λ_ o h=>qi qa h Z Z Z λ_ p h=>V7 ?_);obtain⟨r1,y,F⟩:=qc F;obtain⟨s,u,F⟩:=qc F;refine bw (λe w'=>∃c,e=[(4,vp i),(5,vp k),(6,vp l),(7,vp m),(8,vp o),(9,vp p),(10,vp c)]/\SH w w' [oX c [vi r1,vi s] 59,oX p [vi 0,vi 0] 59,oX o [vi 0,vi 0] 59,oX m (pE f) 59,oX l (wK Cg) 127,oX k (ch Cf) 36,oX i (qL Ce p1 M N O P I J k3 K L) 34]) ?_ ?_
 .refine rA [14] [2,3,4,5] h Z λ_ h=>M4 31 [0,1,2,3,4] 3 2 1 0 (h.p [2,3,4,5] Z) Z (M4 2015 [6,7,8,9,10] 3 2 1 0 (h.p [2,3,4,5] Z) Z (At 5 13 2047 10207 Z ?_ ?_))
  .refine fQ r1 h (cB 134 Z) (iW (h.old a) (h.old d) (h.old b) y) Z Z Z Z λ_ h=>Ag (h.p [2,3,4,5] Z) (At 11 13 4095 10239 Z ?_ ?_)
   .refine fQ s h (cB 134 Z) (iW (h.old a) (h.old d) (h.old b) u) Z Z Z Z λ_ h=>Ag (h.p [2,3,4,5] Z) (Aw 12 8191 (λw' R=>qB qa [0,1] [.tmp 17,.tmp 23] z8) (h.p [2,3,4,5] Z) Z ?_);exact Ao 13 16383 Z (qi qa h Z Z Z λ_ _ h=>Ag (h.p [3,4,5,6] Z) (Ao 14 32767 Z (zs 0 h Z λ_ h=>bN (λQ=>absurd (Q 14 (by decide)) (by decide)) (Ad (rG ⟨_,Z,h⟩ Z)))))
   refine qi qa h Z Z Z λ_ _ h=>Ag (h.p [3,4,5,6] Z) (Ao 11 12287 Z (fQ s h (cB 134 Z) (iW (h.old a) (h.old d) (h.old b) u) Z Z Z Z λ_ h=>Ag (h.p [3,4,5,6] Z) (Aw 12 16383 (λw' R=>qB qa [0,1] [.tmp 17,.tmp 23] z8) (h.p [3,4,5,6] Z) Z ?_)));exact Ao 14 32767 Z (zs 0 h Z λ_ h=>bN (λQ=>absurd (Q 14 (by decide)) (by decide)) (Ad (rG ⟨_,Z,h⟩ Z)))
  refine qi qa h Z Z Z λ_ _ h=>Ag (h.p [3,4,5,6] Z) (Ao 5 10239 Z (fQ r1 h (cB 134 Z) (iW (h.old a) (h.old d) (h.old b) y) Z Z Z Z λ_ h=>Ag (h.p [3,4,5,6] Z) (Ao 11 12287 Z (fQ s h (cB 134 Z) (iW (h.old a) (h.old d) (h.old b) u) Z Z Z Z λ_ h=>Ag (h.p [3,4,5,6] Z) (Aw 12 16383 (λw' R=>qB qa [0,1] [.tmp 17,.tmp 23] z8) (h.p [3,4,5,6] Z) Z ?_)))));exact Ao 14 32767 Z (zs 0 h Z λ_ h=>bN (λQ=>absurd (Q 14 (by decide)) (by decide)) (Ad (rG ⟨_,Z,h⟩ Z)))
 rintro _ _ ⟨c,rfl,h⟩;refine aD ?_;obtain⟨x,z,F⟩:=qc F;obtain⟨t,v,F⟩:=qc F;refine bw (λe w'=>∃g,e=[(4,vp i),(5,vp k),(6,vp l),(7,vp m),(8,vp o),(9,vp p),(10,vp c),(11,vp g)]/\SH w w' [oX g [vi x,vi t] 59,oX c [vi r1,vi s] 59,oX p [vi 0,vi 0] 59,oX o [vi 0,vi 0] 59,oX m (pE f) 59,oX l (wK Cg) 127,oX k (ch Cf) 36,oX i (qL Ce p1 M N O P I J k3 K L) 34]) ?_ ?_
 .refine rA [12] [3,4,6] h Z λ_ h=>M4 47 [0,1,2,3,5] 2 1 0 2 (h.p [3,4,6] Z) Z (M2 495 [6,7,8] 1 0 (h.p [3,4,6] Z) Z (At 4 11 511 2543 Z ?_ ?_))
  .refine fQ x h (cB 135 Z) (lb (h.old a) (h.old b) z) Z Z Z Z λ_ h=>Ag (h.p [3,4,6] Z) (At 9 11 1023 2559 Z ?_ ?_)
   .refine fQ t h (cB 135 Z) (lb (h.old a) (h.old b) v) Z Z Z Z λ_ h=>Ag (h.p [3,4,6] Z) (Aw 10 2047 (λw' R=>qB qa [0,1] [.tmp 29,.tmp 34] z8) (h.p [3,4,6] Z) Z ?_);exact Ao 11 4095 Z (qi qa h Z Z Z λ_ _ h=>Ag (h.p [4,5,7] Z) (Ao 12 8191 Z (zs 0 h Z λ_ h=>bN (λQ=>absurd (Q 12 (by decide)) (by decide)) (Ad (rG ⟨_,Z,h⟩ Z)))))
   refine qi qa h Z Z Z λ_ _ h=>Ag (h.p [4,5,7] Z) (Ao 9 3071 Z (fQ t h (cB 135 Z) (lb (h.old a) (h.old b) v) Z Z Z Z λ_ h=>Ag (h.p [4,5,7] Z) (Aw 10 4095 (λw' R=>qB qa [0,1] [.tmp 29,.tmp 34] z8) (h.p [4,5,7] Z) Z ?_)));exact Ao 12 8191 Z (zs 0 h Z λ_ h=>bN (λQ=>absurd (Q 12 (by decide)) (by decide)) (Ad (rG ⟨_,Z,h⟩ Z)))
  refine qi qa h Z Z Z λ_ _ h=>Ag (h.p [4,5,7] Z) (Ao 4 2559 Z (fQ x h (cB 135 Z) (lb (h.old a) (h.old b) z) Z Z Z Z λ_ h=>Ag (h.p [4,5,7] Z) (Ao 9 3071 Z (fQ t h (cB 135 Z) (lb (h.old a) (h.old b) v) Z Z Z Z λ_ h=>Ag (h.p [4,5,7] Z) (Aw 10 4095 (λw' R=>qB qa [0,1] [.tmp 29,.tmp 34] z8) (h.p [4,5,7] Z) Z ?_)))));exact Ao 12 8191 Z (zs 0 h Z λ_ h=>bN (λQ=>absurd (Q 12 (by decide)) (by decide)) (Ad (rG ⟨_,Z,h⟩ Z)))
 rintro _ _ ⟨g,rfl,h⟩;refine aD (rA [10] [1,4,5,6,7] h Z λ_ h=>M4 63 [0,1,2,3,4,5] 0 4 3 2 (h.p [1,4,5,6,7] Z) Z (M1 127 [6] 1 (h.p [1,4,5,6,7] Z) Z (Ao 7 255 Z (mR h F (iW (h.old a) (h.old d) (h.old b)) Z λA _ h F=>G0 1023 [8,9] (h.p [1,4,5,6,7] Z) Z (Ao 10 2047 Z (zs 1 h Z λ_ h=>bN (λQ=>absurd (Q 10 (by decide)) (by decide)) (Ad (aD (rA [10] [1,4,5,6,7] h Z λ_ h=>M4 63 [0,1,2,3,4,5] 0 4 3 2 (h.p [1,4,5,6,7] Z) Z (M1 127 [6] 1 (h.p [1,4,5,6,7] Z) Z (Ao 7 255 Z (mR h F (iW (h.old a) (h.old d) (h.old b)) Z λB _ h F=>G0 1023 [8,9] (h.p [1,4,5,6,7] Z) Z (Ao 10 2047 Z (zs 1 h Z λ_ h=>bN (λQ=>absurd (Q 10 (by decide)) (by decide)) (Ad (aD (rA [9] [0,4,5,7] h Z λ_ h=>M4 63 [0,1,2,3,4,5] 0 3 2 1 (h.p [0,4,5,7] Z) Z (Ao 6 127 Z (mR h F (lb (h.old a) (h.old b)) Z λC _ h F=>G0 511 [7,8] (h.p [0,4,5,7] Z) Z (Ao 9 1023 Z (zs 0 h Z λ_ h=>bN (λQ=>absurd (Q 9 (by decide)) (by decide)) (Ad (aD (rA [9] [0,4,5,7] h Z λ_ h=>M4 63 [0,1,2,3,4,5] 0 3 2 1 (h.p [0,4,5,7] Z) Z (Ao 6 127 Z (mR h F (lb (h.old a) (h.old b)) Z λD _ h F=>G0 511 [7,8] (h.p [0,4,5,7] Z) Z (Ao 9 1023 Z (zs 0 h Z λ_ h=>bN (λQ=>absurd (Q 9 (by decide)) (by decide)) (Ad (aD (rA [] [0,1] h Z λ_ h=>M2 3 [0,1] 1 0 (h.p [0,1] Z) Z (Ao 2 7 Z (zs 3 h Z λ_ h=>Ag (h.p [0,1] Z) (Ao 3 15 Z (zs 2 h Z λ_ h=>Ag (h.p [0,1] Z) (Ad ?_))))))))))))))))))))))))))))))))))));cases qe F;exact aC qa (ρ:=(qg×qg)) [oV qg [vi (if A<r1 then A else r1),vi (if B > s then B else s)],oV qg [vi (if C<x then C else x),vi (if D > t then D else t)]] h ⟨⟨_,_,_,Z,Z,h.box 3 Z,Z⟩,⟨_,_,_,Z,Z,h.box 2 Z,Z⟩,G⟩ (Cr h (aj h (mo (S:=λ_=>False) (qI (⟨(if A<r1 then A else r1),(if B > s then B else s)⟩:qg))) (rv (mo (S:=λ_=>False) (qI (⟨(if C<x then C else x),(if D > t then D else t)⟩:qg)))) (by rfl)))
def xl(_:Nat)(a:qg)(b:qg):Option qg:=V (⟨(if b.Ar<a.Ar then b.Ar else a.Ar),(if b.Bc > a.Bc then b.Bc else a.Bc)⟩:qg)
theorem BX{a:qg}{b:qg}(c:Ro w a cs1)(d:Ro w b cs2){r:qg}(F:xl n a b=V r):qN prog 252 [gv a cs1,gv b cs2] w r:=by
 obtain rfl:=qC c;obtain rfl:=qC d;refine zV 16 func252 Z λh=>db (qK h Z Z λ_ _ h=>qK h Z Z λ_ _ h=>qi qa h Z Z Z λ_ _ h=>X4 13 2 1 2 1 h Z (dF (qB qa [0,1] [.tmp 9,.tmp 14] z8) Z (zs 0 h Z λ_ h=>ae ?_)));obtain rfl:=qe F;exact aC qa (ρ:=qg) [oV qg [vi (if b.Ar<a.Ar then b.Ar else a.Ar),vi (if b.Bc > a.Bc then b.Bc else a.Bc)]] h ⟨⟨_,_,_,Z,Z,h.box 0 Z,Z⟩,G⟩ (Cr h (rv (mo (S:=λ_=>False) (qI (⟨(if b.Ar<a.Ar then b.Ar else a.Ar),(if b.Bc > a.Bc then b.Bc else a.Bc)⟩:qg)))))

def im(Ce:qf)(Cf:qH)(Cg:List qx)(d:List Bool)(a:qu)(c:Int):Nat->Int->Int->Int->Int->Int->Bool->Int->Option (Int×Int×Int×Int×Int×Bool×Int)|0,_,_,_,_,_,_,_=>U|n+1,u,i8,p,f,g,m,b=>bif decide (b<(Cg.length:Int)) then(qG Cg b).bind λh=>((qG d b).bind λs=>bif (!s) then V An else bif (h.To != c) then V An else(qG a.Au h.Bm).bind λt=>V (!t)).bind λy=>bif y then im Ce Cf Cg d a c n u i8 p f g m (qj (b+1)) else(qG a.Ba h.Bm).bind λz=>(lA n Ce Cf h z).bind λ(l,r)=>(qG a.Af h.Bm).bind λi=>(qG a.Af h.Bm).bind λk=>bif m then(xl n (⟨qj (i.Ar+l.Ar),qj (k.Bc+l.Bc)⟩:qg) (⟨i8,p⟩:qg)).bind λv=>(xl n r (⟨f,g⟩:qg)).bind λx=>im Ce Cf Cg d a c n c v.Ar v.Bc x.Ar x.Bc An (qj (b+1)) else im Ce Cf Cg d a c n c (qj (i.Ar+l.Ar)) (qj (k.Bc+l.Bc)) r.Ar r.Bc An (qj (b+1)) else V (u,i8,p,f,g,m,b)
def ik(a:List ql)(b:Int):Nat->Int->Int->Int->Int->Int->Bool->Int->Option (Int×Int×Int×Int×Int×Bool×Int)|0,_,_,_,_,_,_,_=>U|n+1,f,g,h,i,k,b1,c=>bif decide (c<(a.length:Int)) then(qG a c).bind λl=>bif (l.Bo==b) then(qG a c).bind λd=>ik a b n d.Bo d.Af.Ar d.Af.Bc d.Ba.Ar d.Ba.Bc An (qj (c+1)) else ik a b n f g h i k b1 (qj (c+1)) else V (f,g,h,i,k,b1,c)
def uU(n:Nat)(Ce:qf)(Cf:qH)(Cg:List qx)(b:List Bool)(c:List ql)(d:qu)(a:Int):Option (Bool×ql):=(ik c a n 0 0 0 0 0 Cd 0).bind λ(i,k,l,m,p,b1,_)=>(im Ce Cf Cg b d a n i k l m p b1 0).bind λ(r,i8,s,f,g,h,_)=>V (h,(⟨r,(⟨i8,s⟩:qg),(⟨f,g⟩:qg)⟩:ql))
theorem NQ{Ce:qf}{Cf:qH}{Cg:List qx}{f:List Bool}{H:List ql}{g:qu}{i}(C:Ro w Ce cs1)(D:Ro w Cf cs2)(ha3:Ro w Cg cs3)(ha4:Ro w f cs4)(ha5:Ro w H cs5)(ha6:Ro w g cs6){r:Bool×ql}(F:uU n Ce Cf Cg f H g i=V r):qN prog 218 [gv Ce cs1,gv Cf cs2,gv Cg cs3,gv f cs4,gv H cs5,gv g cs6,vi i] w r:=by
 obtain⟨p1,k1,p2,k2,p3,k3,p4,k4,p5,k5,rfl,_,_,_,_,_⟩:=qZ C;obtain rfl:=dL D;obtain⟨p6,k6,rfl,s6⟩:=ha3;obtain⟨p7,k7,rfl,s7⟩:=ha4;obtain⟨p8,k8,rfl,s8⟩:=ha5;obtain⟨p9,k9,a5,a3,a6,a4,rfl,s9,s10,s11⟩:=gD ha6;refine zV 121 func218 Z λh=>db (qK h Z Z λ_ k h=>qK h Z Z λ_ l h=>qK h Z Z λ_ o h=>cr Z (qi qa h Z Z Z λ_ s h=>X0 7 Z (dF (qB qa [] [] z8) Z (qi qa h Z Z Z λ_ u h=>zs 0 h Z λ_ h=>X0 6 Z ?_))));obtain⟨o1,F,hK1⟩:=qc F;refine qq (rL (λm e w'=>∃i1 i2 i3 i4 i5 b1 i6,ik H i m i1 i2 i3 i4 i5 b1 i6=V o1/\e=[(2,oL p6 Cg k6),(3,oL p7 f k7),(4,oL p8 H k8),(6,vi i),(7,vp k),(8,vp l),(12,vp o),(15,vp s),(16,.bool b1),(17,vp u),(18,vi i6)]/\SH w w' [oX u [vi i1,vi i2,vi i3,vi i4,vi i5] 122,oX s V4 122,oX o (eJ g p9 a5 a6 k9 a3 a4) 51,oX l (ch Cf) 36,oX k (qL Ce p1 p2 p3 p4 p5 k1 k2 k3 k4 k5) 34]) n ⟨_,_,_,_,_,_,_,F,Z,h⟩ Z ?_);rintro m1 _ _ ⟨i1,i2,i3,i4,i5,b1,i6,F,rfl,h⟩;rcases m1 with _|m1
 .cases F
 refine X0 8 Z (qn Z F ?_ ?_)<;>intro F
 .refine X0 7 Z ?_;obtain⟨_,_,F,he1,_,_,_,_,hp1,hq1,hr1,hc2⟩:=s8.ix F;obtain rfl:=au hr1;refine ft hp1 hq1 he1 Z (cr Z (bL 0 hc2 h Z (X0 3 Z (qn Z F ?_ ?_))))<;>intro F
  .refine X0 7 Z ?_;obtain⟨_,_,F,he2,_,_,_,_,hp2,hq2,hr2,hc4⟩:=s8.ix F;obtain rfl:=au hr2;exact ft hp2 hq2 he2 Z (bL 0 hc4 h Z (zs 0 h Z λ_ h=>X0 7 Z (rK ⟨_,_,_,_,_,_,_,F,Z,h⟩ Z)))
  exact X0 7 Z (rK ⟨_,_,_,_,_,_,_,F,Z,h⟩ Z)
 refine qy Z ?_;cases qe F;have F:=hK1;refine X0 5 Z ?_;obtain⟨o2,F,hK2⟩:=qc F;refine qq (rL (λm e w'=>∃i7 i8 i9 v x b4 N,im Ce Cf Cg f g i m i7 i8 i9 v x b4 N=V o2/\e=[(2,oL p6 Cg k6),(3,oL p7 f k7),(6,vi i),(7,vp k),(8,vp l),(12,vp o),(15,vp s),(16,.bool b4),(17,vp u),(19,vi N)]/\SH w w' [oX u [vi i7,vi i8,vi i9,vi v,vi x] 122,oX s V4 122,oX o (eJ g p9 a5 a6 k9 a3 a4) 51,oX l (ch Cf) 36,oX k (qL Ce p1 p2 p3 p4 p5 k1 k2 k3 k4 k5) 34]) n ⟨_,_,_,_,_,_,_,F,Z,h⟩ Z ?_);rintro m2 _ _ ⟨i7,i8,i9,v,x,b4,N,F,rfl,h⟩;rcases m2 with _|m2
 .cases F
 refine X0 8 Z (qn Z F ?_ ?_)<;>intro F
 .refine X0 7 Z ?_;obtain⟨y3,_,F,he3,_,_,_,_,hp3,hq3,hr3,hc6⟩:=s6.ix F;obtain rfl:=aB hr3;refine ft hp3 hq3 he3 Z (bL 0 hc6 h Z (qi qa h Z Z Z λ_ Y h=>zs 0 h Z λ_ h=>qcN ?_));obtain⟨KF3,hKF3,_,F,a7⟩:=bindE F;refine bw (λe w'=>∃b6,KF3 b6=V o2/\e=[(2,oL p6 Cg k6),(3,oL p7 f k7),(6,vi i),(7,vp k),(8,vp l),(12,vp o),(15,vp s),(16,.bool b4),(17,vp u),(19,vi N),(20,vp Y),(71,.bool b6)]/\SH w w' [oX Y (wK y3) 127,oX u [vi i7,vi i8,vi i9,vi v,vi x] 122,oX s V4 122,oX o (eJ g p9 a5 a6 k9 a3 a4) 51,oX l (ch Cf) 36,oX k (qL Ce p1 p2 p3 p4 p5 k1 k2 k3 k4 k5) 34]) ?_ ?_
  .refine X0 3 Z ?_;obtain⟨_,_,F,he16,_,_,_,_,hp16,hq16,rfl,hc22⟩:=s7.ix F;refine ft hp16 hq16 he16 Z (bL 0 hc22 h Z (mr Z (qh (t:=57) F Z ?_ ?_)))<;>intro F
   .refine X0 15 Z ?_;exact rH F a7 h Z
   refine X1 10 0 h Z (qh (t:=63) F Z ?_ ?_)<;>intro F
   .refine X0 9 Z ?_;exact rH F a7 h Z
   refine X2 9 3 0 h Z ?_;obtain⟨_,_,F,he17,_,_,_,_,hp17,hq17,rfl,hc23⟩:=s9.ix F;refine ft hp17 hq17 he17 Z (X0 1 Z (bL 0 hc23 h Z (X0 4 Z ?_)));exact rH F a7 h Z
  rintro _ _ ⟨b6,F,rfl,h⟩;subst hKF3;refine qn Z F ?_ ?_<;>intro F
  .refine qy Z (X0 5 Z ?_);exact rK ⟨_,_,_,_,_,_,_,F,Z,h.p [1,2,3,4,5] Z⟩ Z
  refine N7 (rA [] [0,3,4,5] h Z λ_ h=>M4 63 [0,1,2,3,4,5] 3 2 0 1 (h.p [0,3,4,5] Z) Z (M1 127 [6] 0 (h.p [0,3,4,5] Z) Z ?_));obtain⟨y4,_,F,he4,_,_,_,_,hp4,hq4,hr4,hc8⟩:=s11.ix F;obtain rfl:=qC hr4;refine Ae 7 255 hp4 hq4 he4 (h.p [0,3,4,5] Z) Z (Al 8 511 0 hc8 (h.p [0,3,4,5] Z) Z ?_);obtain⟨⟨r2,r3⟩,M,F⟩:=qc F;refine uc (λe w'=>∃J L,e=[(12,vp o),(15,vp s),(16,.bool b4),(17,vp u),(19,vi N),(2,oL p6 Cg k6),(20,vp Y),(21,vp L),(22,vp J),(3,oL p7 f k7),(6,vi i),(7,vp k),(8,vp l)]/\SH w w' [oX J (pE r3) 59,oX L (pE r2) 59,oX Y (wK y3) 127,oX u [vi i7,vi i8,vi i9,vi v,vi x] 122,oX s V4 122,oX o (eJ g p9 a5 a6 k9 a3 a4) 51,oX l (ch Cf) 36,oX k (qL Ce p1 p2 p3 p4 p5 k1 k2 k3 k4 k5) 34]) 0 (bits 17 131071) ?_ ?_
  .intro K;refine rN 9 13 14 Z Z Z (bits 17 1023) (bits 17 8703) (bits 17 16895) (by kernel_rfl) (by kernel_rfl) (by kernel_rfl) (by kernel_rfl) ?_ ?_ ?_
   .refine bB (r2,r3) h (cB 172 Z) (oz (h.old C) (h.old D) (ga y3) (qI y4) M) Z Z Z Z λw67 T A d b=>?_;obtain⟨W,X,y,B,rfl,a,c⟩:=d.cons b;obtain rfl:=qC (a.sh.own 0 Z);obtain⟨z,rfl,h⟩:=a.last c;obtain rfl:=qC (h.own 0 Z);refine G0 8191 [10,11,12] (h.p [2,5,6,7] Z) Z (At 13 14 16383 24575 Z ?_ ?_)
    .refine qi qa h Z Z Z λO I h=>Ag (h.p [3,6,7,8] Z) (Ao 14 32767 Z (qi qa h Z Z Z λP p h=>Ag (h.p [4,7,8,9] Z) (Ao 15 65535 Z (zs 1 h Z λQ h=>Ag (h.p [4,7,8,9] Z) (Ao 16 131071 Z (zs 0 h Z λR h=>Ag (h.p [4,7,8,9] Z) ?_))))));have h:=h.p [0,1,4,5,6,7,8,9] Z;exact aK K ⟨_,_,Z,h⟩ Z
    refine qi qa h Z Z Z λO I h=>Ag (h.p [3,6,7,8] Z) (Ao 13 32767 Z (qi qa h Z Z Z λP p h=>Ag (h.p [4,7,8,9] Z) (Ao 15 65535 Z (zs 0 h Z λQ h=>Ag (h.p [4,7,8,9] Z) (Ao 16 131071 Z (zs 1 h Z λR h=>Ag (h.p [4,7,8,9] Z) ?_))))));have h:=h.p [1,0,4,5,6,7,8,9] Z;exact aK K ⟨_,_,Z,h⟩ Z
   .refine qi qa h Z Z Z λw67 I h=>Ag (h.p [1,4,5,6] Z) (At 9 14 9215 25087 Z ?_ ?_)
    .refine bB (r2,r3) h (cB 172 Z) (oz (h.old C) (h.old D) (ga y3) (qI y4) M) Z Z Z Z λO T A d b=>?_;obtain⟨W,X,y,B,rfl,a,c⟩:=d.cons b;obtain rfl:=qC (a.sh.own 0 Z);obtain⟨z,rfl,h⟩:=a.last c;obtain rfl:=qC (h.own 0 Z);refine G0 16383 [10,11,12] (h.p [3,6,7,8] Z) Z (Ao 14 32767 Z (qi qa h Z Z Z λP p h=>Ag (h.p [4,7,8,9] Z) (Ao 15 65535 Z (zs 3 h Z λQ h=>Ag (h.p [4,7,8,9] Z) (Ao 16 131071 Z (zs 0 h Z λR h=>Ag (h.p [4,7,8,9] Z) ?_))))));have h:=h.p [0,3,4,5,6,7,8,9] Z;exact aK K ⟨_,_,Z,h⟩ Z
    refine qi qa h Z Z Z λO p h=>Ag (h.p [2,5,6,7] Z) (Ao 9 25599 Z (bB (r2,r3) h (cB 172 Z) (oz (h.old C) (h.old D) (ga y3) (qI y4) M) Z Z Z Z λP T A d b=>?_));obtain⟨W,X,y,B,rfl,a,c⟩:=d.cons b;obtain rfl:=qC (a.sh.own 0 Z);obtain⟨z,rfl,h⟩:=a.last c;obtain rfl:=qC (h.own 0 Z);refine G0 32767 [10,11,12] (h.p [4,7,8,9] Z) Z (Ao 15 65535 Z (zs 3 h Z λQ h=>Ag (h.p [4,7,8,9] Z) (Ao 16 131071 Z (zs 2 h Z λR h=>Ag (h.p [4,7,8,9] Z) ?_))));have h:=h.p [2,3,4,5,6,7,8,9] Z;exact aK K ⟨_,_,Z,h⟩ Z
   refine qi qa h Z Z Z λw67 I h=>Ag (h.p [1,4,5,6] Z) (At 9 13 17407 25087 Z ?_ ?_)
   .refine bB (r2,r3) h (cB 172 Z) (oz (h.old C) (h.old D) (ga y3) (qI y4) M) Z Z Z Z λO T A d b=>?_;obtain⟨W,X,y,B,rfl,a,c⟩:=d.cons b;obtain rfl:=qC (a.sh.own 0 Z);obtain⟨z,rfl,h⟩:=a.last c;obtain rfl:=qC (h.own 0 Z);refine G0 24575 [10,11,12] (h.p [3,6,7,8] Z) Z (Ao 13 32767 Z (qi qa h Z Z Z λP p h=>Ag (h.p [4,7,8,9] Z) (Ao 15 65535 Z (zs 0 h Z λQ h=>Ag (h.p [4,7,8,9] Z) (Ao 16 131071 Z (zs 3 h Z λR h=>Ag (h.p [4,7,8,9] Z) ?_))))));have h:=h.p [3,0,4,5,6,7,8,9] Z;exact aK K ⟨_,_,Z,h⟩ Z
   refine qi qa h Z Z Z λO p h=>Ag (h.p [2,5,6,7] Z) (Ao 9 25599 Z (bB (r2,r3) h (cB 172 Z) (oz (h.old C) (h.old D) (ga y3) (qI y4) M) Z Z Z Z λP T A d b=>?_));obtain⟨W,X,y,B,rfl,a,c⟩:=d.cons b;obtain rfl:=qC (a.sh.own 0 Z);obtain⟨z,rfl,h⟩:=a.last c;obtain rfl:=qC (h.own 0 Z);refine G0 32767 [10,11,12] (h.p [4,7,8,9] Z) Z (Ao 15 65535 Z (zs 2 h Z λQ h=>Ag (h.p [4,7,8,9] Z) (Ao 16 131071 Z (zs 3 h Z λR h=>Ag (h.p [4,7,8,9] Z) ?_))));have h:=h.p [3,2,4,5,6,7,8,9] Z;exact aK K ⟨_,_,Z,h⟩ Z
  rintro _ _ ⟨J,L,rfl,h⟩;refine Ad (aD (rA [] [1,2,5] h Z λ_ h=>M2 15 [0,1,2,3] 2 1 (h.p [1,2,5] Z) Z ?_));obtain⟨_,_,F,he14,_,_,_,_,hp14,hq14,hr39,hc19⟩:=s10.ix F;obtain rfl:=qC hr39;refine Ae 4 31 hp14 hq14 he14 (h.p [1,2,5] Z) Z (M0 63 [5] (h.p [1,2,5] Z) Z (Al 6 127 0 hc19 (h.p [1,2,5] Z) Z (M3 16383 [7,8,9,10,11,12,13] 0 2 1 (h.p [1,2,5] Z) Z ?_)));obtain⟨_,_,F,he15,_,_,_,_,hp15,hq15,hr40,hc20⟩:=s10.ix F;obtain rfl:=qC hr40;refine Ae 14 32767 hp15 hq15 he15 (h.p [1,2,5] Z) Z (M0 65535 [15] (h.p [1,2,5] Z) Z (Al 16 131071 1 hc20 (h.p [1,2,5] Z) Z (M1 1048575 [17,18,19] 0 (h.p [1,2,5] Z) Z (Aw 20 2097151 (λw' hw=>qB qa [0,1] [.tmp 94,.tmp 104] z8) (h.p [1,2,5] Z) Z ?_))));refine Ao 21 4194303 Z (qi qa h Z Z Z λ_ _ h=>Ag (h.p [2,3,6] Z) (Ao 22 8388607 Z (zs 0 h Z λ_ h=>Ag (h.p [2,3,6] Z) (Ad (X0 5 Z (qn Z F ?_ ?_))))))<;>intro F
  .refine X2 5 0 4 h Z (qc6 h F (BX (qI _) (qI _)) Z λ_ _ _ _ h F=>?_);obtain rfl:=qC (h.own 0 Z);refine zs 1 h Z λ_ h=>X2 5 2 5 h Z (qc6 h F (BX (qI r3) (qI _)) Z λ_ _ _ _ h F=>?_);obtain rfl:=qC (h.own 0 Z);refine zs 3 h Z λ_ h=>X2 9 2 3 h Z (dF (qB qa [0,1,2] [.tmp 115,.tmp 116,.tmp 117] z8) Z (zs 6 h Z λ_ h=>X0 7 Z ?_));exact rK ⟨_,_,_,_,_,_,_,F,Z,h.p [6,7,8,9,10] Z⟩ Z
  refine X2 9 0 1 h Z (dF (qB qa [0,1,2] [.tmp 115,.tmp 116,.tmp 117] z8) Z (zs 4 h Z λ_ h=>X0 7 Z ?_));exact rK ⟨_,_,_,_,_,_,_,F,Z,h.p [4,5,6,7,8] Z⟩ Z
 refine qy Z ?_;cases qe F;have F:=hK2;refine aD (rA [] [0] h Z λ_ h=>M1 7 [0,1,2] 0 (h.p [0] Z) Z (Ao 3 15 Z (zs 1 h Z λ_ h=>Ag (h.p [0] Z) (Ad ?_))));cases qe F;exact aC qa (ρ:=(Bool×ql)) [oV Bool [.bool b4],oV ql [vi i7,vi i8,vi i9,vi v,vi x]] h ⟨Z,⟨_,_,_,Z,Z,h.box 1 Z,Z⟩,G⟩ (Cr h (aj h sO (rv (mo (S:=λ_=>False) (dE (⟨i7,(⟨i8,i9⟩:qg),(⟨v,x⟩:qg)⟩:ql)))) (by rfl)))
def fO(Ce:qf)(Cf:qH)(Cg:List qx)(b:List Bool)(c:List ql)(a:List Int):Nat->(List qg)->(List qg)->(List Bool)->Int->Option (eE (qu×Bool) ((List qg)×(List qg)×(List Bool)×Int))|0,_,_,_,_=>U|n+1,x1,h,i,g=>bif decide (g<(a.length:Int)) then(qG a g).bind λd=>(uU n Ce Cf Cg b c (⟨i,h,x1⟩:qu) d).bind λ(k,f)=>bif (!k) then fO Ce Cf Cg b c a n x1 h i (qj (g+1)) else(tW n (⟨f.Af.Ar,f.Af.Bc⟩:qg)).bind λl=>bif (!l) then V (.ret ((⟨[],[],[]⟩:qu),Cd)) else(qG i d).bind λ_=>(qG h d).bind λ_=>(qG x1 d).bind λ_=>fO Ce Cf Cg b c a n (am x1 d (⟨f.Ba.Ar,f.Ba.Bc⟩:qg)) (am h d (⟨f.Af.Ar,f.Af.Bc⟩:qg)) (am i d An) (qj (g+1)) else V (.nxt (x1,h,i,g))
def yK(n:Nat)(Ce:qf)(Cf:qH)(Cg:List qx)(a:List Bool)(b:List ql)(c:List Int):Option (qu×Bool):=(bV n Ce).bind λr1=>(zg n r1).bind λd=>(fO Ce Cf Cg a b c n d.Ba d.Af d.Au 0).bind λ|.ret r=>V r|.nxt (x1,f,g,_)=>V ((⟨g,f,x1⟩:qu),An)
theorem xU{Ce:qf}{Cf:qH}{Cg:List qx}{a:List Bool}{b:List ql}{c:List Int}(p:Ro w Ce cs1)(y:Ro w Cf cs2)(Q:Ro w Cg cs3)(R:Ro w a cs4)(S:Ro w b cs5)(T:Ro w c cs6){r:qu×Bool}(F:yK n Ce Cf Cg a b c=V r):qN prog 166 [gv Ce cs1,gv Cf cs2,gv Cg cs3,gv a cs4,gv b cs5,gv c cs6] w r:=by
 obtain⟨p1,k1,p2,k2,p3,k3,p4,k4,p5,k5,rfl,_,_,_,_,_⟩:=qZ p;obtain rfl:=dL y;obtain⟨p6,k6,rfl,s6⟩:=Q;obtain⟨p7,k7,rfl,s7⟩:=R;obtain⟨p8,k8,rfl,s8⟩:=S;obtain⟨p9,k9,rfl,s9⟩:=T;refine zV 67 func166 Z λh=>db (qK h Z Z λ_ s h=>qK h Z Z λ_ t h=>qi qa h Z Z Z λ_ u h=>X1 5 2 h Z (mR h F (dY (h.old p)) Z λ_ _ h F=>qc6 h F LZ Z λk _ _ _ h F=>?_));obtain⟨o,l,g,d,i,f,rfl,-,-,-⟩:=gD (h.own 0 Z);refine qi qa h Z Z Z λ_ v h=>zs 0 h Z λ_ h=>X0 6 Z ?_;have h:=h.p [1,0,2,3,4] Z;obtain⟨S2,S3,S4,h⟩:=pA h;obtain⟨o1,F,x⟩:=qc F;refine qq (rL (λm e w'=>∃x1 O P i1,fO Ce Cf Cg a b c m x1 O P i1=V o1/\e=[(2,oL p6 Cg k6),(3,oL p7 a k7),(4,oL p8 b k8),(5,oL p9 c k9),(6,vp s),(7,vp t),(12,vp u),(14,vp v),(15,vi i1)]/\SH w w' [oW S4 (x1:List qg) [oL i k.Ba f],oW S3 (O:List qg) [oL g k.Af d],oW S2 (P:List Bool) [oL o k.Au l],oX v (eJ k o g i l d f) 51,oX u WG 51,oX t (ch Cf) 36,oX s (qL Ce p1 p2 p3 p4 p5 k1 k2 k3 k4 k5) 34]) n ⟨_,_,_,_,F,Z,h⟩ Z ?_);rintro m1 _ _ ⟨x1,O,P,i1,F,rfl,h⟩;rcases m1 with _|m1
 .cases F
 refine X0 8 Z (qn Z F ?_ ?_)<;>intro F
 .refine X0 7 Z ?_;obtain⟨_,_,F,a4,_,_,_,_,a5,a6,rfl,W⟩:=s9.ix F;refine ft a5 a6 a4 Z (bL 0 W h Z (X3 11 6 5 3 h Z ?_));obtain⟨⟨r4,N⟩,a7,F⟩:=qc F;refine bB (r4,N) h (cB 218 Z) (NQ (h.old p) (h.old y) ⟨_,_,Z,(h.oldS s6)⟩ ⟨_,_,Z,(h.oldS s7)⟩ ⟨_,_,Z,(h.oldS s8)⟩ (show qm.R _ _ ((⟨P,O,x1⟩:qu):qu) _ from⟨[oL o k.Au l],[oL g k.Af d,oL i k.Ba f],Z,(h.own 2 Z),⟨[oL g k.Af d],[oL i k.Ba f],Z,(h.own 1 Z),(h.own 0 Z)⟩⟩) a7) Z Z Z Z λ_ _ _ b4 a8=>?_;obtain⟨_,_,rfl,b5,a9⟩:=b4.consB a8;obtain⟨_,rfl,h⟩:=b5.last a9;obtain rfl:=au (h.own 0 Z);refine CK Z (qi qa h Z Z Z λ_ _ h=>cr Z (zs 0 h Z λ_ h=>X0 7 Z (qn Z F ?_ ?_)))<;>intro F
  .refine qy Z (X0 5 Z ?_);exact rK ⟨_,_,_,_,F,Z,h.p [2,3,4,5,6,7,8] Z⟩ Z
  refine X1 6 0 h Z (dI h F (xR (qI _)) Z λ_ _ h F=>X0 2 Z (qn Z F ?_ ?_))<;>intro F
  .refine db (dF (qB qa [] [] z8) Z (zs 6 h Z λ_ h=>X0 2 Z ?_));cases qe F;have F:=x;cases qe F;exact aC qa (ρ:=(qu×Bool)) [oV qu WG,oV Bool [.bool Cd]] h ⟨⟨_,_,_,Z,Z,h.box 6 Z,Z⟩,Z,G⟩ (Cr h (aj h (oN (⟨[],[],[]⟩:qu) h kP kP kP (by rfl) (by rfl)) ve (by rfl)))
  refine X1 6 5 h Z ?_;obtain⟨_,b6,F,z,_,_,_,_,C,I,rfl,X⟩:=(h.sl 4 Z).1.ix F;refine zx C I ⟨z.1,qE z.2.1 (h.sl 4 Z).2⟩ Z (bM qa 4 0 An h Z b6 C I Z X Z Z Z Z Z Z Z λ_ h=>X2 8 5 0 h Z ?_);obtain⟨y3,b7,F,A,_,_,_,_,D,J,L,Y⟩:=(h.sl 3 Z).1.ix F;obtain rfl:=qC L;refine zx D J ⟨A.1,qE A.2.1 (h.sl 3 Z).2⟩ Z (bM qa 3 0 N.Af h Z b7 D J (qI y3) Y Z Z Z (qI N.Af) Z Z Z λ_ h=>X2 7 5 0 h Z ?_);obtain⟨y4,b8,F,B,_,_,_,_,H,K,M,a3⟩:=(h.sl 2 Z).1.ix F;obtain rfl:=qC M;refine zx H K ⟨B.1,qE B.2.1 (h.sl 2 Z).2⟩ Z (bM qa 2 0 N.Ba h Z b8 H K (qI y4) a3 Z Z Z (qI N.Ba) Z Z Z λ_ h=>X0 7 Z ?_);exact rK ⟨_,_,_,_,F,Z,h.p [2,3,4,5,6,7,8] Z⟩ Z
 refine qy Z ?_;cases qe F;have F:=x;refine X1 3 3 h Z (zs 4 h Z λ_ h=>X0 2 Z ?_);cases qe F;exact aC qa (ρ:=(qu×Bool)) [oV qu (eJ k o g i l d f),oV Bool [.bool An]] h ⟨⟨_,_,_,Z,Z,h.box 4 Z,Z⟩,Z,G⟩ (Cr h (aj h (oN (⟨P,O,x1⟩:qu) h (qS 2 h Z) (qS 1 h Z) (qS 0 h Z) (by rfl) (by rfl)) ve (by rfl)))
def sJ(n:Nat)(v:Option cU):Option qu:=(fc n v).bind λr1=>(yW r1 (Cd:Bool)).bind λx1=>(yW r1 ((⟨0,0⟩:qg):qg)).bind λa=>(yW r1 ((⟨0,0⟩:qg):qg)).bind λb=>V (⟨x1,a,b⟩:qu)
theorem AP{v:Option cU}(O:Ro w v cs1){r:qu}(F:sJ n v=V r):qN prog 78 [gv v cs1] w r:=by
 obtain⟨_,rfl,s1⟩:=aJ O;refine zV 13 func78 Z λh=>db (qi qa h Z Z Z λ_ L h=>X0 4 Z (mR h F (iE (h.old s1)) Z λ_ _ h F=>X0 3 Z (rA [] [] h Z λ_ h=>M0 21 [0,2,4] (h.p [] Z) Z ?_)));obtain⟨x1,a,F⟩:=qc F;obtain⟨B,b,F⟩:=qc F;obtain⟨C,c,F⟩:=qc F;refine uc (λe w'=>∃H y I z J A,e=[(2,vp L)]/\SH w w' [oW H (C:List qg) [oS y C.length C.length],oW I (B:List qg) [oS z B.length B.length],oW J (x1:List Bool) [oS A x1.length x1.length],oX L [oS A x1.length x1.length,oS z B.length B.length,oS y C.length C.length] 51]) 0 (bits 8 255) ?_ ?_
 .intro K;refine rN 1 3 5 Z Z Z (bits 8 23) (bits 8 29) (bits 8 53) (by kernel_rfl) (by kernel_rfl) (by kernel_rfl) (by kernel_rfl) ?_ ?_ ?_
  .obtain⟨m,o,a⟩:=aT a;refine bC qa Bool h z9 m o a Z λN D M h=>Ag (h.p [] Z) (At 3 5 31 55 Z ?_ ?_)
   .obtain⟨d,f,b⟩:=aT b;refine bC qa qg h z9 d f b Z λt k p h=>Ag (h.p [] Z) (Ao 5 63 Z ?_);obtain⟨g,i,c⟩:=aT c;refine bC qa qg h z9 g i c Z λu l s h=>Ag (h.p [] Z) (Aw 6 127 (λw' P=>qB qa [0,1,2] [.tmp 7,.tmp 9,.tmp 11] z8) (h.p [] Z) Z ?_);exact Ao 7 255 Z (zs 3 h Z λx h=>Ag (h.p [] Z) (BK [(2,_)] ⟨Z,G⟩ (K _ _ ⟨_,_,_,_,_,_,Z,h⟩)))
   obtain⟨d,f,c⟩:=aT c;refine bC qa qg h z9 d f c Z λt k p h=>Ag (h.p [] Z) (Ao 3 63 Z ?_);obtain⟨g,i,b⟩:=aT b;refine bC qa qg h z9 g i b Z λu l s h=>Ag (h.p [] Z) (Aw 6 127 (λw' P=>qB qa [0,1,2] [.tmp 7,.tmp 9,.tmp 11] z8) (h.p [] Z) Z ?_);refine Ao 7 255 Z (zs 3 h Z λx h=>Ag (h.p [] Z) ?_);have h:=h.p [1,0,2,3] Z;exact aK K ⟨_,_,_,_,_,_,Z,h⟩ Z
  .obtain⟨m,o,b⟩:=aT b;refine bC qa qg h z9 m o b Z λN D M h=>Ag (h.p [] Z) (At 1 5 31 61 Z ?_ ?_)
   .obtain⟨d,f,a⟩:=aT a;refine bC qa Bool h z9 d f a Z λt k p h=>Ag (h.p [] Z) (Ao 5 63 Z ?_);obtain⟨g,i,c⟩:=aT c;refine bC qa qg h z9 g i c Z λu l s h=>Ag (h.p [] Z) (Aw 6 127 (λw' P=>qB qa [0,1,2] [.tmp 7,.tmp 9,.tmp 11] z8) (h.p [] Z) Z ?_);refine Ao 7 255 Z (zs 3 h Z λx h=>Ag (h.p [] Z) ?_);have h:=h.p [0,2,1,3] Z;exact aK K ⟨_,_,_,_,_,_,Z,h⟩ Z
   obtain⟨d,f,c⟩:=aT c;refine bC qa qg h z9 d f c Z λt k p h=>Ag (h.p [] Z) (Ao 1 63 Z ?_);obtain⟨g,i,a⟩:=aT a;refine bC qa Bool h z9 g i a Z λu l s h=>Ag (h.p [] Z) (Aw 6 127 (λw' P=>qB qa [0,1,2] [.tmp 7,.tmp 9,.tmp 11] z8) (h.p [] Z) Z ?_);refine Ao 7 255 Z (zs 3 h Z λx h=>Ag (h.p [] Z) ?_);have h:=h.p [1,2,0,3] Z;exact aK K ⟨_,_,_,_,_,_,Z,h⟩ Z
  obtain⟨m,o,c⟩:=aT c;refine bC qa qg h z9 m o c Z λN D M h=>Ag (h.p [] Z) (At 1 3 55 61 Z ?_ ?_)
  .obtain⟨d,f,a⟩:=aT a;refine bC qa Bool h z9 d f a Z λt k p h=>Ag (h.p [] Z) (Ao 3 63 Z ?_);obtain⟨g,i,b⟩:=aT b;refine bC qa qg h z9 g i b Z λu l s h=>Ag (h.p [] Z) (Aw 6 127 (λw' P=>qB qa [0,1,2] [.tmp 7,.tmp 9,.tmp 11] z8) (h.p [] Z) Z ?_);refine Ao 7 255 Z (zs 3 h Z λx h=>Ag (h.p [] Z) ?_);have h:=h.p [2,0,1,3] Z;exact aK K ⟨_,_,_,_,_,_,Z,h⟩ Z
  obtain⟨d,f,b⟩:=aT b;refine bC qa qg h z9 d f b Z λt k p h=>Ag (h.p [] Z) (Ao 1 63 Z ?_);obtain⟨g,i,a⟩:=aT a;refine bC qa Bool h z9 g i a Z λu l s h=>Ag (h.p [] Z) (Aw 6 127 (λw' P=>qB qa [0,1,2] [.tmp 7,.tmp 9,.tmp 11] z8) (h.p [] Z) Z ?_);refine Ao 7 255 Z (zs 3 h Z λx h=>Ag (h.p [] Z) ?_);have h:=h.p [2,1,0,3] Z;exact aK K ⟨_,_,_,_,_,_,Z,h⟩ Z
 rintro _ _ ⟨H,y,I,z,J,A,rfl,h⟩;refine Ad ?_;obtain rfl:=qe F;exact aC qa (ρ:=qu) [oV qu [oS A x1.length x1.length,oS z B.length B.length,oS y C.length C.length]] h ⟨⟨_,_,_,Z,Z,h.box 3 Z,Z⟩,G⟩ (Cr h (rv (oN (⟨x1,B,C⟩:qu) h (qS 2 h Z) (qS 1 h Z) (qS 0 h Z) (by rfl) (by rfl))))
def wC(_:Nat)(s:ql)(a:Int):Option Bool:=V (s.Bo==a)
theorem HA{s:ql}{f}(a:Ro w s cs1){p1}(b:Ro w (V f) [.pointer p1]){r:Bool}(F:wC n s f=V r):qN prog 96 [gv s cs1,.pointer p1] w r:=by
 obtain rfl:=au a;obtain⟨_,g,_,rfl,-,d,c⟩:=Cs b Z;obtain rfl:=d;exact zV 8 func96 Z λh=>db (qK h Z Z λ_ _ h=>X1 6 0 h Z (bL 0 c h Z (X0 3 Z (rb h F Z))))
def aw(s:List ql)(a:Int):Nat->Int->Option (eE Int Int)|0,_=>U|n+1,b=>bif decide (b<(s.length:Int)) then(qG s b).bind λc=>(wC n c a).bind λr1=>bif r1 then V (.ret b) else aw s a n (qj (b+1)) else V (.nxt b)
def bR(n:Nat)(s:List ql)(a:Int):Option Int:=(aw s a n 0).bind λ|.ret r=>V r|.nxt _=>V (-1)
theorem nt{s:List ql}{a}(d:Ro w s cs1){v}(c:Ro w (V a) [.pointer v]){r:Int}(F:bR n s a=V r):qN prog 95 [gv s cs1,.func (.func 96) #[] #[.pointer v]] w r:=by
 obtain⟨p1,x,rfl,s1⟩:=d;obtain⟨b1,t,_,rfl,-,l,_⟩:=Cs c Z;obtain rfl:=l;refine zV 19 func95 Z λh=>X0 11 Z ?_;obtain⟨o1,F,b⟩:=qc F;refine qq (rL (λm e w'=>∃p,aw s a m p=V o1/\e=[(0,oL p1 s x),(1,.func (.func 96) #[] #[.pointer (V ⟨b1,t,U⟩)]),(7,vi (s.length:Int)),(8,vi p)]/\SH w w' []) n ⟨_,F,Z,h⟩ Z ?_);rintro u _ _ ⟨p,F,rfl,h⟩;rcases u with _|u
 .cases F
 refine X0 5 Z (qn Z F ?_ ?_)<;>intro F
 .refine X0 13 Z ?_;obtain⟨y,_,F,g,_,_,_,_,i,k,o,f⟩:=s1.ix F;obtain rfl:=au o;refine ft i k g Z (bL 0 f h Z (dI h F (HA (dE y) (h.old c)) Z λ_ _ h F=>ae (qn Z F ?_ ?_)))<;>intro F
  .refine X0 5 Z ?_;cases qe F;exact ri h b Z
  exact X0 6 Z (rK ⟨_,F,Z,h⟩ Z)
 refine qy Z ?_;cases qe F;exact X0 4 Z (ri h b Z)
def dX(n:Nat)(list:List ql)(node:Int):Option (ql×Bool):=(bR n list node).bind λr1=>bif decide (r1>=0) then(qG list r1).bind λa=>V (a,An) else V ((⟨0,(⟨0,0⟩:qg),(⟨0,0⟩:qg)⟩:ql),Cd)
theorem lF{list:List ql}{node}(a:Ro w list cs1){r:ql×Bool}(F:dX n list node=V r):qN prog 52 [gv list cs1,vi node] w r:=by
 obtain⟨_,_,rfl,s1⟩:=a;refine zV 17 func52 Z λh=>db (qK h Z Z λ_ _ h=>qi qa h Z Z Z λ_ _ h=>X0 7 Z (mR h F (nt ⟨_,_,Z,(h.oldS s1)⟩ (pm (x:=node) 1 h Z Z)) Z λ_ _ h F=>X0 7 Z (qn Z F ?_ ?_)))<;>intro F
 .refine X0 4 Z ?_;obtain⟨i,_,F,c,_,_,_,_,d,f,g,b⟩:=s1.ix F;obtain rfl:=au g;refine ft d f c Z (bL 0 b h Z (zs 0 h Z λ_ h=>X0 2 Z ?_));cases qe F;exact aC qa (ρ:=(ql×Bool)) [oV ql (nU i),oV Bool [.bool An]] h ⟨⟨_,_,_,Z,Z,h.box 0 Z,Z⟩,Z,G⟩ (Cr h (aj h (mo (S:=λ_=>False) (dE i)) ve (by rfl)))
 refine qd1 (dF (qB qa [] [] z8) Z (zs 0 h Z λ_ h=>X0 2 Z ?_));cases qe F;exact aC qa (ρ:=(ql×Bool)) [oV ql V4,oV Bool [.bool Cd]] h ⟨⟨_,_,_,Z,Z,h.box 0 Z,Z⟩,Z,G⟩ (Cr h (aj h (mo (S:=λ_=>False) (dE (⟨0,(⟨0,0⟩:qg),(⟨0,0⟩:qg)⟩:ql))) ve (by rfl)))
def wB(_:Nat)(l:qx)(a:Int):Option Bool:=V (l.To==a)
theorem GZ{l:qx}{f}(a:Ro w l cs1){p1}(b:Ro w (V f) [.pointer p1]){r:Bool}(F:wB n l f=V r):qN prog 98 [gv l cs1,.pointer p1] w r:=by
 obtain rfl:=aB a;obtain⟨_,g,_,rfl,-,d,c⟩:=Cs b Z;obtain rfl:=d;exact zV 8 func98 Z λh=>db (qK h Z Z λ_ _ h=>X1 6 0 h Z (bL 0 c h Z (X0 3 Z (rb h F Z))))
def ac(h:Int)(c:aX)(b:cU):Nat->(List Int)->Int->Option ((List Int)×Int)|0,_,_=>U|n+1,x1,a=>bif decide (a<(b.links.length:Int)) then(qG b.links a).bind λf=>(qG c.live a).bind λg=>bif g then(wB n f h).bind λr1=>bif r1 then(df x1 ([a]:List Int)).bind λd=>ac h c b n d (qj (a+1)) else ac h c b n x1 (qj (a+1)) else ac h c b n x1 (qj (a+1)) else V (x1,a)
def gl(n:Nat)(g:Option aX)(c:Int):Option (List Int):=(g).bind λa=>(a.view).bind λb=>(ac c a b n ([]:List Int) 0).bind λ(x1,_)=>V x1
theorem sI{g:Option aX}{is_0}(o:Ro w g cs1){R}(f:Ro w (V is_0) [.pointer R]){r:List Int}(F:gl n g is_0=V r):qN prog 97 [gv g cs1,.func (.func 98) #[] #[.pointer R]] w r:=by
 obtain⟨_,rfl,s1⟩:=aJ o;obtain⟨b1,L,_,rfl,-,C,_⟩:=Cs f Z;obtain rfl:=C;refine zV 39 func97 Z λh=>X0 12 Z ?_;obtain⟨Y,J,F⟩:=qc F;obtain⟨b2,M,_,rfl,-,D,i⟩:=Cs s1 J;obtain⟨_,_,_,rfl,s2,X⟩:=eY D;refine mr Z (bL 0 i h Z ?_);obtain⟨P,K,F⟩:=qc F;obtain⟨_,W,_,rfl,-,H,p⟩:=Cs s2 K;obtain⟨_,_,_,_,_,_,_,_,_,_,_,_,N,T,_,_,_,_,_,_,rfl,_,_,_,_,_,_,O,_,_,_⟩:=cS H;refine mr Z (bL 6 p h Z (X0 3 Z ?_));have h:=h.nil (α:=Int);obtain⟨o1,F,l⟩:=qc F;refine qq (rL (λm e w'=>∃S1 d c b x1 k,ac is_0 Y P m x1 k=V o1/\e=[(0,.pointer (V ⟨b2,M,U⟩)),(1,.func (.func 98) #[] #[.pointer (V ⟨b1,L,U⟩)]),(5,oS d c b),(14,oL N P.links T),(15,vi (P.links.length:Int)),(16,vi k)]/\SH w w' [oW S1 (x1:List Int) [oS d c b]]) n ⟨_,_,_,_,_,_,F,Z,h⟩ Z ?_);rintro Q _ _ ⟨S1,d,c,b,x1,k,F,rfl,h⟩;obtain rfl:=(h.sl 0 Z).2;rcases Q with _|Q
 .cases F
 refine X0 5 Z (qn Z F ?_ ?_)<;>intro F
 .refine X0 6 Z ?_;obtain⟨y3,_,F,v,_,_,_,_,y,A,I,s⟩:=O.ix F;obtain rfl:=aB I;refine ft y A v Z (bL 0 s h Z (qi qa h Z Z Z λ_ _ h=>cr Z (zs 0 h Z λ_ h=>X0 6 Z (bL 1 i h Z (cr Z ?_)))));obtain⟨_,_,F,x,_,_,_,_,z,B,rfl,u⟩:=X.ix F;refine ft z B x Z (bL 0 u h Z (cr Z (qh (t:=28) F Z ?_ ?_)))<;>intro F
  .refine X1 5 0 h Z (dI h F (GZ (ga y3) (h.old f)) Z λ_ _ h F=>X0 2 Z (qn Z F ?_ ?_))<;>intro F
   .refine X0 3 Z (qt qa [.tmp 34] _ ([k]:List Int) h z9 ⟨Z,G⟩ Z λ_ _ _ h=>?_);obtain⟨_,a,F⟩:=qc F;obtain⟨S,a⟩:=qJ a;refine bn qa 2 h Z (h.sl 0 Z).1 (h.sl 0 Z).2 z9 S a Z λ_ _ _ _ h=>X0 7 Z ?_;exact rK ⟨_,_,_,_,_,_,F,Z,h.p [2] Z⟩ Z
   refine X0 6 Z ?_;exact rK ⟨_,_,_,_,_,_,F,Z,h.p [1] Z⟩ Z
  refine X0 5 Z (bQ Z Z (X0 6 Z ?_));exact rK ⟨_,_,_,_,_,_,F,Z,h.p [1] Z⟩ Z
 refine qy Z ?_;cases qe F;have F:=l;refine X0 5 Z ?_;cases qe F;exact rO 0 h Z ⟨Z,G⟩
def pr(n:Nat)(g:Option aX)(node:Int):Option (List Int):=(gl n g node).bind λr1=>V r1
theorem vl{g:Option aX}{node}(a:Ro w g cs1){r:List Int}(F:pr n g node=V r):qN prog 53 [gv g cs1,vi node] w r:=by
 obtain⟨_,rfl,s1⟩:=aJ a;refine zV 8 func53 Z λh=>db (qK h Z Z λ_ _ h=>X0 6 Z (uY h F (sI (h.old s1) (pm (x:=node) 0 h Z Z)) Z λ_ _ _ _ _ h F=>X0 2 Z ?_));cases qe F;exact rO 0 h Z ⟨Z,G⟩
def mE(_:Nat)(v:Option cU)(l:qx):Option Int:=(v).bind λa=>(qG a.places (qj (l.To.tdiv 2))).bind λb=>V b.net
theorem tJ{v:Option cU}{l:qx}(a:Ro w v cs1)(b:Ro w l cs2){r:Int}(F:mE n v l=V r):qN prog 136 [gv v cs1,gv l cs2] w r:=by
 obtain⟨_,rfl,s1⟩:=aJ a;obtain rfl:=aB b;refine zV 15 func136 Z λh=>db (qK h Z Z λ_ _ h=>X0 3 Z (rD (xm Z ?_)));obtain⟨_,o,F⟩:=qc F;obtain⟨_,p,_,rfl,-,k,c⟩:=Cs s1 o;obtain⟨_,_,_,_,_,_,_,_,_,_,_,_,_,_,_,_,_,_,_,_,rfl,_,_,_,_,_,s,_,_,_,_⟩:=cS k;refine xz Z (dZ 5 c h Z (Y1 2 0 h Z ?_));refine xm Z ?_;obtain⟨_,_,F,f,_,_,_,_,g,i,m,d⟩:=s.ix F;obtain rfl:=ro m;exact fU g i f Z (xm Z (dZ 2 d h Z (xm Z (dN h λ_ h=>ri h F Z))))
def pl(_:Nat)(v:Option cU)(l:qx):Option bo:=(v).bind λa=>(qG a.places (qj (l.To.tdiv 2))).bind λb=>(qG a.Ac.Aa.Ab b.instance_).bind λc=>(qG a.Ac.Aq.As c.Bv).bind λd=>(qG d.Av l.Ca).bind λf=>V f
theorem xM{A}(hA:∀b,A b->old w b){v:Option cU}{l:qx}(k:qm.R w A v cs1)(o:qm.R w A l cs2){r:bo}(F:pl n v l=V r):yP prog 137 [gv v cs1,gv l cs2] w A r:=by
 obtain⟨_,rfl,s1⟩:=aJ k;obtain rfl:=aB o;have hg:=Rg.start hA;refine gc func137 Z (m:=39) Z Z (λh=>?_);refine db (qK h Z Z λ_ _ h=>qi qa h Z Z Z λ_ _ h=>V7 (rA [] [1] h Z λ_ h=>M0 1 [0] (h.p [1] Z) Z ?_));obtain⟨_,T,F⟩:=qc F;obtain⟨_,e,_,rfl,-,N,a⟩:=Cs s1 T;obtain⟨_,_,_,_,_,_,_,_,_,_,_,_,_,_,_,_,_,_,_,_,rfl,s2,s3,_,_,_,s7,_,_,_,_⟩:=cS N;refine M0 31 [1,2,3,4] (h.p [1] Z) Z (Al 5 63 1 a (h.p [1] Z) Z (M0 511 [6,7,8] (h.p [1] Z) Z (Al 9 1023 5 a (h.p [1] Z) Z (M1 8191 [10,11,12] 0 (h.p [1] Z) Z ?_))));obtain⟨_,_,F,x,_,_,_,_,C,J,O,p⟩:=s7.ix F;obtain rfl:=ro O;refine Ae 13 16383 C J x (h.p [1] Z) Z (M0 32767 [14] (h.p [1] Z) Z (Al 15 65535 0 p (h.p [1] Z) Z ?_));obtain⟨_,_,F,y,_,_,_,_,D,K,P,s⟩:=s3.ix F;obtain⟨_,_,rfl,_⟩:=bI P;refine Ae 16 131071 D K y (h.p [1] Z) Z (Al 17 262143 0 s (h.p [1] Z) Z (Ao 18 524287 Z (qi qa h Z Z Z λ_ _ h=>Ag (h.p [2] Z) (Ao 19 1048575 Z (zs 0 h Z λ_ h=>Ag (h.p [2] Z) (Ad (aD (rA [] [0,2] h Z λ_ h=>M0 31 [0,1,2,3,4] (h.p [0,2] Z) Z (Al 5 63 0 a (h.p [0,2] Z) Z (M1 255 [6,7] 0 (h.p [0,2] Z) Z ?_))))))))));obtain⟨_,_,F,z,_,_,_,_,H,L,Q,t⟩:=s2.ix F;obtain⟨_,_,_,_,_,_,rfl,_,W,_⟩:=aV Q;refine Ae 8 511 H L z (h.p [0,2] Z) Z (M0 1023 [9] (h.p [0,2] Z) Z (Al 10 2047 3 t (h.p [0,2] Z) Z (M1 8191 [11,12] 1 (h.p [0,2] Z) Z ?_)));obtain⟨i,_,F,B,_,_,_,_,I,M,R,u⟩:=W.ix F;obtain⟨f,c,g,d,rfl,X,Y⟩:=bd R;refine Ae 13 16383 I M B (h.p [0,2] Z) Z (Al 14 32767 0 u (h.p [0,2] Z) Z (Ao 15 65535 Z (zs 1 h Z λ_ h=>Ag (h.p [0,2] Z) (Ad ?_))));obtain rfl:=qe F;have S:gk.Rs (ρ:=bo) h.wc (vJ A w h.wc) i [oV bo (kI i f g c d)]:=⟨_,Z,(hg.outR h (uC i (hg.inS h X) (hg.inS h Y)))⟩;exact gn qa (ρ:=bo) (r:=i) [oV bo (kI i f g c d)] h ⟨⟨_,_,_,Z,Z,h.box 1 Z,Z⟩,G⟩ S
def mY(_:Nat)(a:Int)(b:Int)(mode:Int):Option Int:=(T9 a b).bind λc=>(HD a b).bind λd=>(bif (mode==0) then V (decide (d<0)) else V Cd).bind λb1=>bif b1 then V (qj (c-1)) else bif (mode==1) then bif decide (d > 0) then V (qj (c+1)) else V c else V c
theorem uv{a b mode}  {r:Int}(F:mY n a b mode=V r):qN prog 139 [vi a,vi b,vi mode] w r:=by
 refine zV 34 func139 Z λh=>X0 5 Z (rD (xz Z ?_));obtain⟨m,c,F⟩:=qc F;obtain⟨k,c⟩:=SZ c;refine qbI (λ_ p=>qc4 k Z Z) Z ?_;rw[c];refine xz Z ?_;obtain⟨o,d,F⟩:=qc F;obtain⟨l,d⟩:=vx d;refine qbI (λ_ p=>N5 l Z Z) Z ?_;rw[d];refine xz Z (dN h λ_ h=>X0 3 Z ?_);obtain⟨i,g,_,F,f⟩:=bindE F;refine bw (λe w'=>∃b1,i b1=V r/\e=[(2,vi mode),(7,vi m),(8,vi o),(15,.bool b1)]/\SH w w' []) ?_ ?_
 .refine X0 4 Z (qh (t:=18) F Z ?_ ?_)<;>intro F
  .refine X0 7 Z ?_;exact rH F f h Z
  refine X0 5 Z ?_;exact rH F f h Z
 rintro _ _ ⟨b1,F,rfl,h⟩;subst g;refine qn Z F ?_ ?_<;>intro F
 .exact X0 6 Z (ri h F Z)
 refine X0 5 Z (qh (t:=27) F Z ?_ ?_)<;>intro F
 .refine X0 7 Z (qn Z F ?_ ?_)<;>intro F
  .exact X0 6 Z (ri h F Z)
  exact X0 7 Z (ri h F Z)
 exact X0 5 Z (bQ Z Z (X0 7 Z (ri h F Z)))
def tj(_:Nat)(x:Int):Option Bool:=V (x != x)
theorem xE{x}  {r:Bool}(F:tj n x=V r):qN prog 164 [vi x] w r:=by
 exact zV 6 func164 Z λh=>X0 11 Z (rb h F Z)
def xD(n:Nat)(x:Int)(y:Int):Option Bool:=(tj n x).bind λr1=>bif r1 then(tj n y).bind λa=>bif (!a) then V An else V (decide (x<y)) else V (decide (x<y))
theorem HS{x y}  {r:Bool}(F:xD n x y=V r):qN prog 263 [vi x,vi y] w r:=by
 refine zV 17 func263 Z λh=>X0 7 Z (dI h F xE Z λ_ _ h F=>cr Z (qh (t:=7) F Z ?_ ?_))<;>intro F
 .refine X0 3 Z (dI h F xE Z λ_ _ h F=>X0 4 Z (qh (t:=12) F Z ?_ ?_))<;>intro F
  .exact X0 6 Z (rb h F Z)
  exact X0 9 Z (rb h F Z)
 exact X0 14 Z (rb h F Z)
def oU(_:Nat)(x:Int):Option Bool:=V (x != x)
theorem vg{x}  {r:Bool}(F:oU n x=V r):qN prog 264 [vi x] w r:=by
 exact zV 6 func264 Z λh=>X0 11 Z (rb h F Z)
def bE(x:List Int)(f:Int):Nat->Int->Int->Option (Int×Int)|0,_,_=>U|n+1,a,b=>bif decide (a<b) then(qcz .u64 (IntKind.wrap .u64 (qj (a+b))) 1).bind λc=>(qG x (qj c)).bind λd=>(xD n d f).bind λr1=>bif r1 then bE x f n (qj ((qj c)+1)) b else bE x f n a (qj c) else V (a,b)
def iq(n:Nat)(x:List Int)(g:Int):Option (Int×Bool):=(bE x g n 0 (x.length:Int)).bind λ(a,_)=>bif decide (a<(x.length:Int)) then(qG x a).bind λd=>bif (d==g) then V (a,An) else(qG x a).bind λf=>(oU n f).bind λb=>bif b then(oU n g).bind λc=>V (a,c) else V (a,Cd) else V (a,Cd)
theorem wD{x:List Int}{target}(d:Ro w x cs1){r:Int×Bool}(F:iq n x target=V r):qN prog 238 [gv x cs1,vi target] w r:=by
 obtain⟨p1,D,rfl,s1⟩:=d;refine zV 54 func238 Z λh=>X0 18 Z ?_;obtain⟨o1,F,c⟩:=qc F;refine qq (rL (λm e w'=>∃b A,bE x target m b A=V o1/\e=[(0,oL p1 x D),(1,vi target),(6,vi (x.length:Int)),(7,vi b),(8,vi A)]/\SH w w' []) n ⟨_,_,F,Z,h⟩ Z ?_);rintro B _ _ ⟨b,A,F,rfl,h⟩;rcases B with _|B
 .cases F
 refine X0 7 Z (qn Z F ?_ ?_)<;>intro F
 .refine X0 8 Z ?_;obtain⟨_,a,F⟩:=qc F;obtain⟨C,a⟩:=U6 a;refine dF (qez C Z Z) Z ?_;rw[a];refine X0 7 Z ?_;obtain⟨_,_,F,k,_,_,_,_,p,v,rfl,f⟩:=s1.ix F;refine ft p v k Z (bL 0 f h Z (cr Z (dI h F HS Z λ_ _ h F=>ae (qn Z F ?_ ?_))))<;>intro F
  .exact X0 6 Z (rK ⟨_,_,F,Z,h⟩ Z)
  exact X0 5 Z (rK ⟨_,_,F,Z,h⟩ Z)
 refine qy Z ?_;cases qe F;have F:=c;refine X0 7 Z (qh (t:=35) F Z ?_ ?_)<;>intro F
 .refine X0 5 Z ?_;obtain⟨_,_,F,l,_,_,_,_,s,y,rfl,g⟩:=s1.ix F;refine ft s y l Z (X0 1 Z (bL 0 g h Z (X0 6 Z (qh (t:=42) F Z ?_ ?_))))<;>intro F
  .refine X0 15 Z ?_;cases qe F;exact aC qa (ρ:=(Int×Bool)) [oV Int [vi b],oV Bool [.bool An]] h ⟨Z,Z,G⟩ (Cr h (aj h sO ve (by rfl)))
  refine X0 5 Z ?_;obtain⟨_,_,F,o,_,_,_,_,u,z,rfl,i⟩:=s1.ix F;refine ft u z o Z (X0 1 Z (bL 0 i h Z (X0 1 Z (dI h F vg Z λ_ _ h F=>X0 2 Z (qh (t:=48) F Z ?_ ?_)))))<;>intro F
  .refine X0 3 Z (dI h F vg Z λH _ h F=>X0 8 Z ?_);cases qe F;exact aC qa (ρ:=(Int×Bool)) [oV Int [vi b],oV Bool [.bool H]] h ⟨Z,Z,G⟩ (Cr h (aj h sO ve (by rfl)))
  refine X0 10 Z ?_;cases qe F;exact aC qa (ρ:=(Int×Bool)) [oV Int [vi b],oV Bool [.bool Cd]] h ⟨Z,Z,G⟩ (Cr h (aj h sO ve (by rfl)))
 refine X0 21 Z ?_;cases qe F;exact aC qa (ρ:=(Int×Bool)) [oV Int [vi b],oV Bool [.bool Cd]] h ⟨Z,Z,G⟩ (Cr h (aj h sO ve (by rfl)))
def nc(n:Nat)(k:List Int)(x:Int):Option ((List cH)×Int):=(qG k 0).bind λa=>(qG k (qj ((k.length:Int)-1))).bind λc=>(iq n k (if c<(if a > x then a else x) then c else(if a > x then a else x))).bind λ(b,d)=>bif d then V (([(⟨b,1⟩:cH)]:List cH),1) else(qG k b).bind λf=>(qG k (qj (b-1))).bind λg=>(qG k b).bind λh=>(qG k (qj (b-1))).bind λi=>V (([(⟨qj (b-1),qj (f-(if c<(if a > x then a else x) then c else(if a > x then a else x)))⟩:cH),(⟨b,qj ((if c<(if a > x then a else x) then c else(if a > x then a else x))-g)⟩:cH)]:List cH),qj (h-i))
theorem BM{a3:List Int}{x}(d:Ro w a3 cs1){r:(List cH)×Int}(F:nc n a3 x=V r):qN prog 198 [gv a3 cs1,vi x] w r:=by
 obtain⟨_,_,rfl,s1⟩:=d;refine zV 59 func198 Z λh=>X0 6 Z (rD (xz Z ?_));obtain⟨a,_,F,o,_,_,_,_,y,H,rfl,f⟩:=s1.ix F;refine fU y H o Z (dZ 0 f h Z (qe1 Z ?_));obtain⟨b,_,F,p,_,_,_,_,z,I,rfl,g⟩:=s1.ix F;refine fU z I p Z (dZ 0 g h Z (xz Z (dN h λ_ h=>X0 4 Z ?_)));obtain⟨⟨c,Y⟩,N,F⟩:=qc F;refine bB (c,Y) h (cB 238 Z) (wD ⟨_,_,Z,(h.oldS s1)⟩ N) Z Z Z Z λ_ _ _ Q O=>?_;obtain⟨_,_,rfl,R,P⟩:=Q.consI O;obtain⟨rfl,h⟩:=R.lastB P;refine X0 11 Z (qn Z F ?_ ?_)<;>intro F
 .refine X0 3 Z (dF (qB qa [0,1] [.tmp 27,.const (vi (1))] z8) Z (qt qa [.tmp 28] _ ([(⟨c,1⟩:cH)]:List cH) h z9 ⟨(DR (⟨c,1⟩:cH)),G⟩ Z λ_ W _ h=>X0 3 Z ?_));cases qe F;exact aC qa (ρ:=((List cH)×Int)) [oV (List cH) [oS W 1 1],oV Int [vi 1]] h ⟨Z,Z,G⟩ (Cr h (aj h (qS 0 h Z) ve (by rfl)))
 refine N7 (rA [] [] h Z λ_ h=>M0 15 [0,1,2,3] (h.p [] Z) Z ?_);obtain⟨S,_,F,s,_,_,_,_,A,J,rfl,i⟩:=s1.ix F;refine Ae 4 31 A J s (h.p [] Z) Z (Al 5 63 0 i (h.p [] Z) Z (M0 255 [6,7] (h.p [] Z) Z (Aw 8 511 (λw' hw=>qB qa [0,1] [.tmp 31,.tmp 37] z8) (h.p [] Z) Z ?_)));refine M0 16383 [9,10,11,12,13] (h.p [] Z) Z ?_;obtain⟨T,_,F,t,_,_,_,_,B,K,rfl,k⟩:=s1.ix F;refine Ae 14 32767 B K t (h.p [] Z) Z (Al 15 65535 0 k (h.p [] Z) Z (M0 131071 [16] (h.p [] Z) Z (Aw 17 262143 (λw' hw=>qB qa [0,1] [.tmp 39,.tmp 46] z8) (h.p [] Z) Z ?_)));refine M0 1835007 [19,20] (h.p [] Z) Z ?_;obtain⟨e,_,F,u,_,_,_,_,C,L,rfl,l⟩:=s1.ix F;refine Ae 21 3932159 C L u (h.p [] Z) Z (Al 22 8126463 0 l (h.p [] Z) Z (M0 66846719 [23,24,25] (h.p [] Z) Z ?_));obtain⟨y6,_,F,v,_,_,_,_,D,M,rfl,m⟩:=s1.ix F;refine Ae 26 133955583 D M v (h.p [] Z) Z (Al 27 268173311 0 m (h.p [] Z) Z (M0 536608767 [28] (h.p [] Z) Z (Ao 18 536870911 Z (qt qa [.tmp 38,.tmp 47] _ ([(⟨qj (c-1),qj (S-(if b<(if a > x then a else x) then b else(if a > x then a else x)))⟩:cH),(⟨c,qj ((if b<(if a > x then a else x) then b else(if a > x then a else x))-T)⟩:cH)]:List cH) h z9 ⟨(DR (⟨qj (c-1),qj (S-(if b<(if a > x then a else x) then b else(if a > x then a else x)))⟩:cH)),(DR (⟨c,qj ((if b<(if a > x then a else x) then b else(if a > x then a else x))-T)⟩:cH)),G⟩ Z λ_ X _ h=>G0 2147483647 [29,30] (h.p [] Z) Z (Ad ?_)))));cases qe F;exact aC qa (ρ:=((List cH)×Int)) [oV (List cH) [oS X 2 2],oV Int [vi (qj (e-y6))]] h ⟨Z,Z,G⟩ (Cr h (aj h (qS 0 h Z) ve (by rfl)))
def cK(Ce:qU)(b:List cH)(c:cH):Nat->Int->Int->Option (Int×Int)|0,_,_=>U|n+1,d,a=>bif decide (a<(b.length:Int)) then(qG b a).bind λf=>(qG Ce.Bg (qj ((qj (c.index*(Ce.Bj.length:Int)))+f.index))).bind λg=>cK Ce b c n (qj (d+(qj ((qj (g*c.part))*f.part)))) (qj (a+1)) else V (d,a)
def cJ(Ce:qU)(b:List cH)(d:List cH):Nat->Int->Int->Option (Int×Int)|0,_,_=>U|n+1,c,a=>bif decide (a<(b.length:Int)) then(qG b a).bind λg=>(cK Ce d g n c 0).bind λ(f,_)=>cJ Ce b d n f (qj (a+1)) else V (c,a)
def gB(n:Nat)(Ce:qU)(Cf:Int)(Cg:Int)(a:Int):Option Int:=(nc n Ce.Bp Cf).bind λ(c,d)=>(nc n Ce.Bj Cg).bind λ(f,g)=>(cJ Ce c f n 0 0).bind λ(b,_)=>(mY n b (qj (d*g)) a).bind λh=>V h
theorem vX{Ce:qU}{Cf Cg c}(x:Ro w Ce cs1){r:Int}(F:gB n Ce Cf Cg c=V r):qN prog 138 [gv Ce cs1,vi Cf,vi Cg,vi c] w r:=by
 obtain⟨p1,k1,p2,k2,p3,k3,rfl,s1,s2,s3⟩:=ee x;refine zV 73 func138 Z λh=>db (qK h Z Z λ_ d h=>X1 7 0 h Z ?_);obtain⟨⟨b,r3⟩,L,F⟩:=qc F;refine bB (b,r3) h (cB 198 Z) (BM ⟨_,_,Z,(h.oldS s1)⟩ L) Z Z Z Z λ_ _ _ S M=>?_;obtain⟨S2,_,t,s,_,rfl,T,N⟩:=S.consL M;obtain⟨rfl,h⟩:=T.lastI N;refine X1 11 1 h Z ?_;obtain⟨⟨a,r6⟩,O,F⟩:=qc F;refine bB (a,r6) h (cB 198 Z) (BM ⟨_,_,Z,(h.oldS s2)⟩ O) Z Z Z Z λ_ _ _ W P=>?_;obtain⟨S6,_,o,l,_,rfl,X,Q⟩:=W.consL P;obtain⟨rfl,h⟩:=X.lastI Q;refine X0 17 Z ?_;obtain⟨o1,F,u⟩:=qc F;refine qq (rL (λm e w'=>∃Y p,cJ Ce b a m Y p=V o1/\e=[(3,vi c),(4,vp d),(10,vi r3),(11,oL o a l),(12,vi r6),(13,vi Y),(32,oL t b s),(33,vi (b.length:Int)),(34,vi p)]/\SH w w' [oW S6 (a:List cH) [oL o a l],oW S2 (b:List cH) [oL t b s],oX d (lc Ce p1 p2 p3 k1 k2 k3) 175]) n ⟨_,_,F,Z,h⟩ Z ?_);rintro m1 _ _ ⟨Y,p,F,rfl,h⟩;rcases m1 with _|m1
 .cases F
 refine X0 5 Z (qn Z F ?_ ?_)<;>intro F
 .refine ly ?_;obtain⟨y1,_,F,g,_,_,_,_,C,I,R,y⟩:=(h.sl 1 Z).1.ix F;obtain rfl:=IK R;refine zx C I ⟨g.1,qE g.2.1 (h.sl 1 Z).2⟩ Z (zc 0 y Z (qi qa h Z Z Z λ_ f h=>zs 0 h Z λ_ h=>X0 7 Z ?_));obtain⟨o2,F,v⟩:=qc F;refine qq (rL (λm e w'=>∃i3 i4,cK Ce a y1 m i3 i4=V o2/\e=[(3,vi c),(4,vp d),(10,vi r3),(11,oL o a l),(12,vi r6),(13,vi i3),(15,vp f),(32,oL t b s),(33,vi (b.length:Int)),(34,vi p),(38,oL o a l),(39,vi (a.length:Int)),(40,vi i4)]/\SH w w' [oX f (KN y1) 276,oW S6 (a:List cH) [oL o a l],oW S2 (b:List cH) [oL t b s],oX d (lc Ce p1 p2 p3 k1 k2 k3) 175]) m1 ⟨_,_,F,Z,h⟩ Z ?_);rintro m2 _ _ ⟨i3,i4,F,rfl,h⟩;rcases m2 with _|m2
  .cases F
  refine X0 5 Z (qn Z F ?_ ?_)<;>intro F
  .refine ly ?_;obtain⟨_,_,F,i,_,_,_,_,D,J,k,z⟩:=(h.sl 1 Z).1.ix F;obtain rfl:=IK k;refine zx D J ⟨i.1,qE i.2.1 (h.sl 1 Z).2⟩ Z (zc 0 z Z (qi qa h Z Z Z λ_ _ h=>zs 0 h Z λ_ h=>ae (rD (Y1 3 4 h Z ?_))));refine Y1 2 1 h Z ?_;refine Y1 2 4 h Z ?_;refine Y1 4 0 h Z ?_;refine xm Z ?_;obtain⟨_,_,F,B,_,_,_,_,H,K,rfl,A⟩:=s3.ix F;refine fU H K B Z (dZ 0 A h Z (Y1 2 1 h Z ?_));refine Y1 3 0 h Z ?_;refine qcO Z (dN h λ_ h=>X0 5 Z ?_);exact rK ⟨_,_,F,Z,h.p [1,2,3,4] Z⟩ Z
  refine qy Z ?_;cases qe F;have F:=v;refine X0 5 Z ?_;exact rK ⟨_,_,F,Z,h.p [1,2,3] Z⟩ Z
 refine qy Z ?_;cases qe F;have F:=u;exact X0 7 Z (mR h F uv Z λ_ _ h F=>X0 2 Z (ri h F Z))
def xL(n:Nat)(t:Int)(a:Int)(mode:Int):Option Int:=(mY n (qj (t*a)) 1000 mode).bind λr1=>V r1
theorem GK{t thousandths mode}  {r:Int}(F:xL n t thousandths mode=V r):qN prog 140 [vi t,vi thousandths,vi mode] w r:=by
 exact zV 12 func140 Z λh=>X0 10 Z (mR h F uv Z λ_ _ h F=>X0 2 Z (ri h F Z))
def lW(_:Nat)(c:qH)(kind:Int)(mode:Int):Option Int:=(bif (kind==1) then V (mode==0) else V Cd).bind λb1=>bif b1 then V c.Bb else bif (kind==1) then V c.Be else bif (mode==0) then V c.Az else V c.Bd
theorem vc{c:qH}{kind mode}(g:Ro w c cs1){r:Int}(F:lW n c kind mode=V r):qN prog 141 [gv c cs1,vi kind,vi mode] w r:=by
 obtain rfl:=dL g;refine zV 28 func141 Z λh=>db (qK h Z Z λ_ a h=>X0 5 Z ?_);obtain⟨f,d,_,F,b⟩:=bindE F;refine bw (λe w'=>∃b1,f b1=V r/\e=[(1,vi kind),(2,vi mode),(3,vp a),(7,.bool b1)]/\SH w w' [oX a (ch c) 36]) ?_ ?_
 .refine X0 4 Z (qh (t:=10) F Z ?_ ?_)<;>intro F
  .refine X0 7 Z ?_;exact rH F b h Z
  refine X0 5 Z ?_;exact rH F b h Z
 rintro _ _ ⟨b1,F,rfl,h⟩;subst d;refine qn Z F ?_ ?_<;>intro F
 .exact X1 6 0 h Z (ri h F Z)
 refine X0 6 Z (qn Z F ?_ ?_)<;>intro F
 .exact X1 6 0 h Z (ri h F Z)
 refine X0 6 Z (qn Z F ?_ ?_)<;>intro F
 .exact X1 6 0 h Z (ri h F Z)
 exact X1 8 0 h Z (ri h F Z)
def dc(n:Nat)(Ce:Option cU)(Cf:qH)(Cg:Int)(c:Int)(a:Int):Option Int:=(Ce).bind λd=>(qG d.links Cg).bind λb=>(mE n Ce b).bind λr1=>bif (b.Bf==1) then(qG d.loads r1).bind λo=>(pl n Ce b).bind λf=>(qG f.Bq (b.To.tmod 2)).bind λp=>(gB n p c o a).bind λg=>(lW n Cf b.Bf a).bind λh=>(xL n g h a).bind λi=>V i else(qG d.delays r1).bind λr=>(qG r b.Ca).bind λs=>(mY n s 1000 a).bind λk=>(lW n Cf b.Bf a).bind λl=>(xL n k l a).bind λm=>V m
theorem bg{Ce:Option cU}{Cf:qH}{Cg i k}(v:Ro w Ce cs1)(f:Ro w Cf cs2){r:Int}(F:dc n Ce Cf Cg i k=V r):qN prog 85 [gv Ce cs1,gv Cf cs2,vi Cg,vi i,vi k] w r:=by
 obtain⟨_,rfl,s1⟩:=aJ v;obtain rfl:=dL f;refine zV 67 func85 Z λh=>db (qK h Z Z λ_ _ h=>X0 5 Z ?_);obtain⟨_,a5,F⟩:=qc F;obtain⟨_,o_1,_,rfl,-,X,g⟩:=Cs s1 a5;obtain⟨_,_,_,_,_,_,_,_,_,_,_,_,_,_,_,_,_,_,_,_,rfl,s2,s3,s4,s5,s6,s7,s8,s9,t,a7⟩:=cS X;refine mr Z (bL 6 g h Z (cr Z ?_));obtain⟨u,_,F,H,_,_,_,_,L,Q,Y,y⟩:=s8.ix F;obtain rfl:=aB Y;refine ft L Q H Z (bL 0 y h Z (qi qa h Z Z Z λ_ _ h=>zs 0 h Z λ_ h=>X1 5 0 h Z (mR h F (tJ (h.old s1) (ga u)) Z λ_ _ h F=>X1 13 0 h Z (qn Z F ?_ ?_))))<;>intro F
 .refine rA [] [0] h Z λ_ h=>M2 7795 [0,1,4,5,6,9,10,11,12] 0 0 (h.p [0] Z) Z (Al 13 15987 7 g (h.p [0] Z) Z (M0 32371 [14] (h.p [0] Z) Z ?_));obtain⟨_,_,F,I,_,_,_,_,M,R,rfl,z⟩:=s9.ix F;refine Ae 15 65139 M R I (h.p [0] Z) Z (Al 16 130675 0 z (h.p [0] Z) Z (M0 261747 [17] (h.p [0] Z) Z (Ao 2 261751 Z ?_)));have b:Rg (old w) w (old w) w:=.start (λ_ h=>h);obtain⟨r2,e,F⟩:=qc F;refine pO r2 b h (cB 137 Z) (xM (b.regOld h) (b.inR h s1) (ga u) e) Z Z Z Z λ_ _ _ d a a6 a4=>?_;have hL1:=h.ext a.below;have A:=Up.box 0 h a Z;have ha3:=Up.boxP (x:=u) b 0 h a Z (ga u);have B:=Up.box 1 h a Z;have a8:=Up.R b h a f;have ha4:=Up.boxP (x:=Cf) b 1 h a Z (b.inR h f);have hc7:=Up.C h a g;have s13:=Up.S b h a s2;have s14:=Up.S b h a s3;have s15:=Up.S b h a s4;have s16:=Up.S b h a s5;have s17:=Up.S b h a s6;have s18:=Up.S b h a s7;have s19:=Up.S b h a s8;have s20:=Up.S b h a s9;have s21:=Up.S b h a t;have s22:=Up.S b h a a7;have hb1:=h.below.trans (a.below.mono h.below.size);have c:=((h.p [0] Z)).ext a.below;have h:=a6;obtain⟨_,rfl,s⟩:=kQ a4;have ha5:=s;obtain⟨_,_,_,_,rfl,a9,_⟩:=bd s;refine bN (λ_=>(c.ext h.below)) (gz 3 Z (bits 20 261759) (by kernel_rfl) (by kernel_rfl) (λw' hw=>ZQ qa Z w') (c.ext h.below) Z ?_);obtain⟨y4,_,F,m,_,_,_,_,N,S,a3,C⟩:=a9.ix F;obtain⟨_,_,_,_,_,_,rfl,b4,b5,b6⟩:=ee a3;refine gz 7 Z (bits 20 261887) (by kernel_rfl) (by kernel_rfl) (λw' hw=>ZP qa N S ⟨m.1,m.2.1⟩ Z Z Z Z Z Z) (c.ext h.below) Z (Ao 8 262143 Z (bL 0 C h Z (bN (λ_=>(c.ext h.below)) (Ao 18 524287 Z (mR h F (vX (tL y4 (h.oldS (b4.mono d.old)) (h.oldS (b5.mono d.old)) (h.oldS (b6.mono d.old)))) Z λ_ _ h F=>bN (λ_=>(c.ext h.below)) (gz 19 Z (bits 20 1048575) (by kernel_rfl) (by kernel_rfl) (λw' hw=>ZQ qa Z w') (c.ext h.below) Z (Ad (X0 3 Z (bL 0 B h Z (cr Z (bL 2 A h Z (cr Z (mR h F (vc (h.old (qm.mono a8 d.old))) Z λ_ _ h F=>cr Z (mR h F GK Z λ_ _ h F=>X0 2 Z ?_))))))))))))));have h:=h.unbase d.below (show HN [] from trivial);exact ri h F Z
 refine rD (qcO Z (dZ 8 g h Z (xm Z ?_)));obtain⟨_,_,F,J,_,_,_,_,O,T,o,D⟩:=t.ix F;obtain⟨_,_,rfl,b7⟩:=o;refine fU O T J Z (dZ 0 D h Z (Y1 2 0 h Z ?_));obtain⟨_,_,F,K,_,_,_,_,P,W,rfl,l⟩:=b7.ix F;refine fU P W K Z (dZ 0 l h Z (xm Z ?_));obtain⟨r6,p,F⟩:=qc F;exact dB r6 (N6 _) (cB 139 Z) (λ_ hb=>uv  p) Z Z Z Z (xm Z (dN h λ_ h=>X2 7 1 0 h Z (mR h F (vc (h.old f)) Z λ_ _ h F=>cr Z (mR h F GK Z λ_ _ h F=>X0 2 Z (ri h F Z)))))
def oI(c:Int):Nat->Int->Int->Option (Int×Int)|0,_,_=>U|n+1,a,b=>bif decide (a<b) then bif decide ((qj ((qj ((qj ((qj (a+b))+1)).tdiv 2))*(qj ((qj ((qj (a+b))+1)).tdiv 2))))<=c) then oI c n (qj ((qj ((qj (a+b))+1)).tdiv 2)) b else oI c n a (qj ((qj ((qj ((qj (a+b))+1)).tdiv 2))-1)) else V (a,b)
def EY(n:Nat)(b:Int):Option Int:=(oI b n 0 3000000000).bind λ(a,_)=>V a
theorem UN{a_n}  {r:Int}(F:EY n a_n=V r):qN prog 199 [vi a_n] w r:=by
 refine zV 23 func199 Z λh=>X0 10 Z ?_;obtain⟨o1,F,a⟩:=qc F;refine qq (rL (λm e w'=>∃b c,oI a_n m b c=V o1/\e=[(0,vi a_n),(3,vi b),(4,vi c)]/\SH w w' []) n ⟨_,_,F,Z,h⟩ Z ?_);rintro d _ _ ⟨b,c,F,rfl,h⟩;rcases d with _|d
 .cases F
 refine X0 7 Z (qn Z F ?_ ?_)<;>intro F
 .refine X0 19 Z (qn Z F ?_ ?_)<;>intro F
  .exact X0 5 Z (rK ⟨_,_,F,Z,h⟩ Z)
  exact X0 6 Z (rK ⟨_,_,F,Z,h⟩ Z)
 refine qy Z ?_;cases qe F;exact X0 5 Z (ri h a Z)
def vE(n:Nat)(c:Int)(b:Int)(mode:Int):Option Int:=(EY n (qj ((qj ((qj ((qj (500*c))*500))*c))+(qj (b*b))))).bind λr1=>(bif (mode==1) then V (decide ((qj (r1*r1))<(qj ((qj ((qj ((qj (500*c))*500))*c))+(qj (b*b)))))) else V Cd).bind λb1=>bif b1 then V (qj ((qj (r1.tdiv 500))+1)) else(mY n r1 500 mode).bind λa=>V a
theorem KY{slew delay mode}  {r:Int}(F:vE n slew delay mode=V r):qN prog 142 [vi slew,vi delay,vi mode] w r:=by
 refine zV 35 func142 Z λh=>X0 20 Z (mR h F UN Z λr1 _ h F=>X0 4 Z ?_);obtain⟨c,b,_,F,a⟩:=bindE F;refine bw (λe w'=>∃b1,c b1=V r/\e=[(2,vi mode),(8,vi r1),(28,.bool b1)]/\SH w w' []) ?_ ?_
 .refine X0 4 Z (qh (t:=22) F Z ?_ ?_)<;>intro F
  .refine X0 12 Z ?_;exact rH F a h Z
  refine X0 7 Z ?_;exact rH F a h Z
 rintro _ _ ⟨b1,F,rfl,h⟩;subst b;refine qn Z F ?_ ?_<;>intro F
 .exact X0 7 Z (ri h F Z)
 exact X0 5 Z (mR h F uv Z λ_ _ h F=>X0 2 Z (ri h F Z))
def cd(n:Nat)(v:Option cU)(m:Int)(l:Int)(mode:Int):Option Int:=(v).bind λb=>(qG b.links m).bind λa=>(mE n v a).bind λr1=>bif (a.Bf==1) then(qG b.loads r1).bind λg=>(pl n v a).bind λf=>(qG f.Ba (a.To.tmod 2)).bind λh=>(gB n h l g mode).bind λc=>V (if 1000000<c then 1000000 else c) else(qG b.delays r1).bind λi=>(qG i a.Ca).bind λk=>(vE n l k mode).bind λd=>V (if 1000000<d then 1000000 else d)
theorem nb{v:Option cU}{link slew mode}(m:Ro w v cs1){r:Int}(F:cd n v link slew mode=V r):qN prog 86 [gv v cs1,vi link,vi slew,vi mode] w r:=by
 obtain⟨_,rfl,s1⟩:=aJ m;refine zV 59 func86 Z λh=>X0 7 Z ?_;obtain⟨_,W,F⟩:=qc F;obtain⟨_,o_1,_,rfl,-,O,d⟩:=Cs s1 W;obtain⟨_,_,_,_,_,_,_,_,_,_,_,_,_,_,_,_,_,_,_,_,rfl,s2,s3,s4,s5,s6,s7,s8,s9,l,Y⟩:=cS O;refine mr Z (bL 6 d h Z (cr Z ?_));obtain⟨y2,_,F,x,_,_,_,_,B,J,P,o⟩:=s8.ix F;obtain rfl:=aB P;refine ft B J x Z (bL 0 o h Z (qi qa h Z Z Z λ_ _ h=>zs 0 h Z λ_ h=>X1 5 0 h Z (mR h F (tJ (h.old s1) (ga y2)) Z λ_ _ h F=>X1 9 0 h Z (qn Z F ?_ ?_))))<;>intro F
 .refine aD (rA [] [0] h Z λ_ h=>M2 7795 [0,1,4,5,6,9,10,11,12] 0 0 (h.p [0] Z) Z (Al 13 15987 7 d (h.p [0] Z) Z (M0 32371 [14] (h.p [0] Z) Z ?_)));obtain⟨_,_,F,y,_,_,_,_,C,K,rfl,p⟩:=s9.ix F;refine Ae 15 65139 C K y (h.p [0] Z) Z (Al 16 130675 0 p (h.p [0] Z) Z (M0 261747 [17] (h.p [0] Z) Z (Ao 2 261751 Z ?_)));have b:Rg (old w) w (old w) w:=.start (λ_ h=>h);obtain⟨r2,Q,F⟩:=qc F;refine pO r2 b h (cB 137 Z) (xM (b.regOld h) (b.inR h s1) (ga y2) Q) Z Z Z Z λ_ _ _ f a X T=>?_;have hL1:=h.ext a.below;have hc5:=Up.C h a d;have s12:=Up.S b h a s2;have s13:=Up.S b h a s3;have s14:=Up.S b h a s4;have s15:=Up.S b h a s5;have s16:=Up.S b h a s6;have s17:=Up.S b h a s7;have s18:=Up.S b h a s8;have s19:=Up.S b h a s9;have s20:=Up.S b h a l;have s21:=Up.S b h a Y;have hb1:=h.below.trans (a.below.mono h.below.size);have c:=((h.p [0] Z)).ext a.below;have h:=X;obtain⟨_,rfl,k⟩:=kQ T;have ha2:=k;obtain⟨_,_,_,_,rfl,_,e⟩:=bd k;refine bN (λ_=>(c.ext h.below)) (gz 3 Z (bits 21 261759) (by kernel_rfl) (by kernel_rfl) (λw' hw=>ZQ qa Z w') (c.ext h.below) Z ?_);obtain⟨y4,_,F,g,_,_,_,_,D,L,R,s⟩:=e.ix F;obtain⟨_,_,_,_,_,_,rfl,a3,a4,a5⟩:=ee R;refine gz 7 Z (bits 21 261887) (by kernel_rfl) (by kernel_rfl) (λw' hw=>ZP qa D L ⟨g.1,g.2.1⟩ Z Z Z Z Z Z) (c.ext h.below) Z (Ao 8 262143 Z (bL 0 s h Z (bN (λ_=>(c.ext h.below)) (Ao 18 524287 Z (mR h F (vX (tL y4 (h.oldS (a3.mono f.old)) (h.oldS (a4.mono f.old)) (h.oldS (a5.mono f.old)))) Z λ_ _ h F=>bN (λ_=>(c.ext h.below)) (gz 19 Z (bits 21 1048575) (by kernel_rfl) (by kernel_rfl) (λw' hw=>ZQ qa Z w') (c.ext h.below) Z (gz 20 Z (bits 21 2097151) (by kernel_rfl) (by kernel_rfl) (λw' hw=>ZQ qa Z w') (c.ext h.below) Z (Ad ?_))))))));have h:=h.unbase f.below (show HN [] from trivial);exact ri h F Z
 refine N7 (rD (qd7 Z (dZ 8 d h Z (xm Z ?_))));obtain⟨_,_,F,z,_,_,_,_,H,M,S,t⟩:=l.ix F;obtain⟨_,_,rfl,a6⟩:=S;refine fU H M z Z (dZ 0 t h Z (Y1 2 0 h Z ?_));obtain⟨_,_,F,A,_,_,_,_,I,N,rfl,u⟩:=a6.ix F;refine fU I N A Z (dZ 0 u h Z (xm Z ?_));obtain⟨r4,i,F⟩:=qc F;exact dB r4 (N6 _) (cB 142 Z) (λ_ hb=>KY  i) Z Z Z Z (xz Z (dN h λ_ h=>ri h F Z))

def mF(n:Nat)(Ce:Option cU)(Cf:qH)(Cg:Int)(a:qg):Option (qg×qg):=(dc n Ce Cf Cg a.Ar 0).bind λr1=>(dc n Ce Cf Cg a.Bc 0).bind λb=>(dc n Ce Cf Cg a.Ar 1).bind λc=>(dc n Ce Cf Cg a.Bc 1).bind λd=>(Ce).bind λf=>(qG f.links Cg).bind λl=>(bif decide ((f.extras.length:Int) > 0) then V (l.Bf==2) else V Cd).bind λb3=>(bif b3 then(mE n Ce l).bind λs=>(qG f.extras s).bind λm=>V (qj ((if b<r1 then b else r1)-m),qj ((if d > c then d else c)+m)) else V ((if b<r1 then b else r1),(if d > c then d else c))).bind λ(p,r)=>(cd n Ce Cg a.Ar 0).bind λg=>(cd n Ce Cg a.Bc 0).bind λh=>(cd n Ce Cg a.Ar 1).bind λi=>(cd n Ce Cg a.Bc 1).bind λk=>V ((⟨p,r⟩:qg),(⟨(if h<g then h else g),(if k > i then k else i)⟩:qg))
theorem cR{Ce:Option cU}{Cf:qH}{Cg}{c:qg}(N:Ro w Ce cs1)(a:Ro w Cf cs2)(O:Ro w c cs3){r:qg×qg}(F:mF n Ce Cf Cg c=V r):qN prog 99 [gv Ce cs1,gv Cf cs2,vi Cg,gv c cs3] w r:=by
 obtain⟨p1,rfl,s1⟩:=aJ N;obtain rfl:=dL a;obtain rfl:=qC O;refine zV 100 func99 Z λh=>db (qK h Z Z λ_ _ h=>qK h Z Z λ_ _ h=>qi qa h Z Z Z λ_ d h=>qi qa h Z Z Z λ_ f h=>V7 (rD (Y1 2 2 h Z ?_)));refine Y1 2 2 h Z ?_;refine xz Z (dN h λ_ h=>aD ?_);obtain⟨r1,z,F⟩:=qc F;obtain⟨s,p,F⟩:=qc F;obtain⟨m,i,F⟩:=qc F;obtain⟨k,g,F⟩:=qc F;refine bw (λe w'=>∃b,e=[(0,.pointer p1),(2,vi Cg),(8,vp d),(9,vp f),(10,vi c.Ar),(11,vi c.Bc),(12,vp b)]/\SH w w' [oX b [vi (if s<r1 then s else r1),vi (if k > m then k else m)] 59,oX f [vi 0,vi 0] 59,oX d [vi 0,vi 0] 59]) ?_ ?_
 .refine rA [24] [3] h Z λ_ h=>M4 1014255 [0,1,2,3,5,6,7,8,11,12,13,14,16,17,18,19] 0 0 0 0 (h.p [3] Z) Z (At 4 23 1014271 9402863 Z ?_ ?_)
  .refine fQ r1 h (cB 85 Z) (bg (h.old s1) (h.old a) z) Z Z Z Z λ_ h=>Ag (h.p [3] Z) (At 9 23 1014783 9402879 Z ?_ ?_)
   .refine fQ s h (cB 85 Z) (bg (h.old s1) (h.old a) p) Z Z Z Z λ_ h=>G0 1015807 [10] (h.p [3] Z) Z (At 15 23 1048575 9404415 Z ?_ ?_)
    .refine fQ m h (cB 85 Z) (bg (h.old s1) (h.old a) i) Z Z Z Z λ_ h=>Ag (h.p [3] Z) (At 20 23 2097151 9437183 Z ?_ ?_)
     .refine fQ k h (cB 85 Z) (bg (h.old s1) (h.old a) g) Z Z Z Z λ_ h=>G0 4194303 [21] (h.p [3] Z) Z (Aw 22 8388607 (λw' hw=>qB qa [0,1] [.tmp 30,.tmp 41] z8) (h.p [3] Z) Z ?_);refine Ao 23 16777215 Z (qi qa h Z Z Z λ_ _ h=>Ag (h.p [4] Z) (Ao 24 33554431 Z (zs 0 h Z λ_ h=>bN (λhs=>absurd (hs 24 (by decide)) (by decide)) (Ad ?_))));exact rG ⟨_,Z,h.p [0,1,2] Z⟩ Z
     refine qi qa h Z Z Z λ_ _ h=>Ag (h.p [4] Z) (Ao 20 10485759 Z (fQ k h (cB 85 Z) (bg (h.old s1) (h.old a) g) Z Z Z Z λ_ h=>G0 12582911 [21] (h.p [4] Z) Z (Aw 22 16777215 (λw' hw=>qB qa [0,1] [.tmp 30,.tmp 41] z8) (h.p [4] Z) Z ?_)));refine Ao 24 33554431 Z (zs 0 h Z λ_ h=>bN (λhs=>absurd (hs 24 (by decide)) (by decide)) (Ad ?_));exact rG ⟨_,Z,h.p [0,1,2] Z⟩ Z
    refine qi qa h Z Z Z λ_ _ h=>Ag (h.p [4] Z) (Ao 15 9437183 Z (fQ m h (cB 85 Z) (bg (h.old s1) (h.old a) i) Z Z Z Z λ_ h=>Ag (h.p [4] Z) (Ao 20 10485759 Z (fQ k h (cB 85 Z) (bg (h.old s1) (h.old a) g) Z Z Z Z λ_ h=>G0 12582911 [21] (h.p [4] Z) Z (Aw 22 16777215 (λw' hw=>qB qa [0,1] [.tmp 30,.tmp 41] z8) (h.p [4] Z) Z ?_)))));refine Ao 24 33554431 Z (zs 0 h Z λ_ h=>bN (λhs=>absurd (hs 24 (by decide)) (by decide)) (Ad ?_));exact rG ⟨_,Z,h.p [0,1,2] Z⟩ Z
   refine qi qa h Z Z Z λ_ _ h=>Ag (h.p [4] Z) (Ao 9 9403391 Z (fQ s h (cB 85 Z) (bg (h.old s1) (h.old a) p) Z Z Z Z λ_ h=>G0 9404415 [10] (h.p [4] Z) Z (Ao 15 9437183 Z (fQ m h (cB 85 Z) (bg (h.old s1) (h.old a) i) Z Z Z Z λ_ h=>Ag (h.p [4] Z) (Ao 20 10485759 Z (fQ k h (cB 85 Z) (bg (h.old s1) (h.old a) g) Z Z Z Z λ_ h=>G0 12582911 [21] (h.p [4] Z) Z (Aw 22 16777215 (λw' hw=>qB qa [0,1] [.tmp 30,.tmp 41] z8) (h.p [4] Z) Z ?_)))))));refine Ao 24 33554431 Z (zs 0 h Z λ_ h=>bN (λhs=>absurd (hs 24 (by decide)) (by decide)) (Ad ?_));exact rG ⟨_,Z,h.p [0,1,2] Z⟩ Z
  refine qi qa h Z Z Z λ_ _ h=>Ag (h.p [4] Z) (Ao 4 9402879 Z (fQ r1 h (cB 85 Z) (bg (h.old s1) (h.old a) z) Z Z Z Z λ_ h=>Ag (h.p [4] Z) (Ao 9 9403391 Z (fQ s h (cB 85 Z) (bg (h.old s1) (h.old a) p) Z Z Z Z λ_ h=>G0 9404415 [10] (h.p [4] Z) Z (Ao 15 9437183 Z (fQ m h (cB 85 Z) (bg (h.old s1) (h.old a) i) Z Z Z Z λ_ h=>Ag (h.p [4] Z) (Ao 20 10485759 Z (fQ k h (cB 85 Z) (bg (h.old s1) (h.old a) g) Z Z Z Z λ_ h=>G0 12582911 [21] (h.p [4] Z) Z (Aw 22 16777215 (λw' hw=>qB qa [0,1] [.tmp 30,.tmp 41] z8) (h.p [4] Z) Z ?_)))))))));refine Ao 24 33554431 Z (zs 0 h Z λ_ h=>bN (λhs=>absurd (hs 24 (by decide)) (by decide)) (Ad ?_));exact rG ⟨_,Z,h.p [0,1,2] Z⟩ Z
 rintro _ _ ⟨b,rfl,h⟩;refine X0 4 Z ?_;obtain⟨_,a6,F⟩:=qc F;obtain⟨b1,D,_,rfl,-,a4,o⟩:=Cs s1 a6;obtain⟨_,_,_,_,_,_,_,_,_,_,_,_,_,_,_,_,_,_,_,_,rfl,_,_,_,_,_,_,s8,_,_,a7⟩:=cS a4;refine mr Z (bL 6 o h Z (cr Z ?_));obtain⟨y2,_,F,R,_,_,_,_,W,Y,a5,P⟩:=s8.ix F;obtain rfl:=aB a5;refine ft W Y R Z (bL 0 P h Z (qi qa h Z Z Z λ_ l h=>zs 0 h Z λ_ h=>V7 ?_));obtain⟨M,y,_,F,v⟩:=bindE F;refine bw (λe w'=>∃b3,M b3=V r/\e=[(0,.pointer (V ⟨b1,D,U⟩)),(2,vi Cg),(8,vp d),(9,vp f),(10,vi c.Ar),(11,vi c.Bc),(12,vp b),(13,vp l),(60,.bool b3)]/\SH w w' [oX l (wK y2) 127,oX b [vi (if s<r1 then s else r1),vi (if k > m then k else m)] 59,oX f [vi 0,vi 0] 59,oX d [vi 0,vi 0] 59]) ?_ ?_
 .refine X0 4 Z (bL 9 o h Z (CK Z (qh (t:=56) F Z ?_ ?_)))<;>intro F
  .refine X1 8 0 h Z ?_;exact rH F v h Z
  refine X0 5 Z ?_;exact rH F v h Z
 rintro _ _ ⟨b3,F,rfl,h⟩;subst y;obtain⟨L,x,_,F,u⟩:=bindE F;refine bw (λe w'=>∃B C,L (B,C)=V r/\e=[(0,.pointer (V ⟨b1,D,U⟩)),(2,vi Cg),(8,vp d),(9,vp f),(10,vi c.Ar),(11,vi c.Bc),(12,vp b)]/\SH w w' [oX b [vi B,vi C] 59,oX f [vi 0,vi 0] 59,oX d [vi 0,vi 0] 59]) ?_ ?_
 .refine qn Z F ?_ ?_<;>intro F
  .refine aD (rD (qcO Z (dZ 9 o h Z (Y1 2 0 h Z ?_))));obtain⟨r9,A,F⟩:=qc F;refine dB r9 (N6 _) (cB 136 Z) (λ_ hb=>tJ ((h.ext hb).old s1) (ga y2) A) Z Z Z Z ?_;obtain⟨_,_,F,T,_,_,_,_,X,a3,rfl,Q⟩:=a7.ix F;refine fU X a3 T Z (dZ 0 Q h Z (xm Z (dN h λ_ h=>X2 9 1 1 h Z (dF (qB qa [0,1] [.tmp 73,.tmp 77] z8) Z (zs 1 h Z λ_ h=>ae ?_)))));have h:=h.p [1,2,3] Z;cases qe F;exact rG ⟨_,_,u,Z,h⟩ Z
  refine eZ ?_;have h:=h.p [1,2,3] Z;cases qe F;exact rG ⟨_,_,u,Z,h⟩ Z
 rintro _ _ ⟨B,C,F,rfl,h⟩;subst x;refine X0 5 Z (mR h F (nb (h.old s1)) Z λH _ h F=>CK Z (mR h F (nb (h.old s1)) Z λI _ h F=>qbq Z (mR h F (nb (h.old s1)) Z λJ _ h F=>CK Z (mR h F (nb (h.old s1)) Z λK _ h F=>cr Z (dF (qB qa [0,1] [.tmp 87,.tmp 96] z8) Z (qi qa h Z Z Z λ_ _ h=>zs 0 h Z λ_ h=>V7 (rA [] [0,1] h Z λ_ h=>M2 3 [0,1] 1 0 (h.p [0,1] Z) Z (Ao 2 7 Z (zs 3 h Z λ_ h=>Ag (h.p [0,1] Z) (Ao 3 15 Z (zs 2 h Z λ_ h=>Ag (h.p [0,1] Z) (Ad ?_))))))))))));cases qe F;exact aC qa (ρ:=(qg×qg)) [oV qg [vi B,vi C],oV qg [vi (if I<H then I else H),vi (if K > J then K else J)]] h ⟨⟨_,_,_,Z,Z,h.box 3 Z,Z⟩,⟨_,_,_,Z,Z,h.box 2 Z,Z⟩,G⟩ (Cr h (aj h (mo (S:=λ_=>False) (qI (⟨B,C⟩:qg))) (rv (mo (S:=λ_=>False) (qI (⟨(if I<H then I else H),(if K > J then K else J)⟩:qg)))) (by rfl)))
def rf(_:Nat)(s:qg)(t:qg):Option qg:=V (⟨qj (s.Ar+t.Ar),qj (s.Bc+t.Bc)⟩:qg)
theorem yp{s:qg}{t:qg}(a:Ro w s cs1)(b:Ro w t cs2){r:qg}(F:rf n s t=V r):qN prog 100 [gv s cs1,gv t cs2] w r:=by
 obtain rfl:=qC a;obtain rfl:=qC b;refine zV 16 func100 Z λh=>db (qK h Z Z λ_ _ h=>qK h Z Z λ_ _ h=>qi qa h Z Z Z λ_ _ h=>X4 13 2 1 2 1 h Z (dF (qB qa [0,1] [.tmp 9,.tmp 14] z8) Z (zs 0 h Z λ_ h=>ae ?_)));obtain rfl:=qe F;exact aC qa (ρ:=qg) [oV qg [vi (qj (s.Ar+t.Ar)),vi (qj (s.Bc+t.Bc))]] h ⟨⟨_,_,_,Z,Z,h.box 0 Z,Z⟩,G⟩ (Cr h (rv (mo (S:=λ_=>False) (qI (⟨qj (s.Ar+t.Ar),qj (s.Bc+t.Bc)⟩:qg)))))
def ur(_:Nat)(s:qg)(t:qg):Option qg:=V (⟨(if t.Ar<s.Ar then t.Ar else s.Ar),(if t.Bc > s.Bc then t.Bc else s.Bc)⟩:qg)
theorem ky{s:qg}{t:qg}(a:Ro w s cs1)(b:Ro w t cs2){r:qg}(F:ur n s t=V r):qN prog 189 [gv s cs1,gv t cs2] w r:=by
 obtain rfl:=qC a;obtain rfl:=qC b;refine zV 16 func189 Z λh=>db (qK h Z Z λ_ _ h=>qK h Z Z λ_ _ h=>qi qa h Z Z Z λ_ _ h=>X4 13 2 1 2 1 h Z (dF (qB qa [0,1] [.tmp 9,.tmp 14] z8) Z (zs 0 h Z λ_ h=>ae ?_)));obtain rfl:=qe F;exact aC qa (ρ:=qg) [oV qg [vi (if t.Ar<s.Ar then t.Ar else s.Ar),vi (if t.Bc > s.Bc then t.Bc else s.Bc)]] h ⟨⟨_,_,_,Z,Z,h.box 0 Z,Z⟩,G⟩ (Cr h (rv (mo (S:=λ_=>False) (qI (⟨(if t.Ar<s.Ar then t.Ar else s.Ar),(if t.Bc > s.Bc then t.Bc else s.Bc)⟩:qg)))))
def ob(n:Nat)(s:ql)(reached:Bool)(b:qg)(c:qg):Option (ql×Bool):=bif (!reached) then V ((⟨s.Bo,(⟨b.Ar,b.Bc⟩:qg),(⟨c.Ar,c.Bc⟩:qg)⟩:ql),An) else(ur n (⟨s.Af.Ar,s.Af.Bc⟩:qg) b).bind λr1=>(ur n (⟨s.Ba.Ar,s.Ba.Bc⟩:qg) c).bind λa=>V ((⟨s.Bo,(⟨r1.Ar,r1.Bc⟩:qg),(⟨a.Ar,a.Bc⟩:qg)⟩:ql),reached)
theorem vW{n g w F a}{s:ql}{b reached}{i:qg}{k:qg}(h:SH g w (oX b [.bool reached] 4::oX a (nU s) 122::F)){r:ql×Bool}(l:ob n s reached i k=V r):A4 prog 130 [vp a,vp b,.agg #[vi i.Ar,vi i.Bc],.agg #[vi k.Ar,vi k.Bc]] w (λw'=>SH g w' (oX b [.bool r.2] 4::oX a (nU r.1) 122::F)):=by
 refine EA func130 Z (m:=40) Z Z (db (qK h Z Z λ_ _ h=>qK h Z Z λ_ _ h=>X1 9 2 h Z (qn Z l ?_ ?_)))<;>intro l
 .refine aD (rA [] [0,1] h Z λ_ h=>M2 63 [0,1,2,3,4,5] 1 0 (h.p [0,1] Z) Z (Ao 6 127 Z (zs 2 h Z λ_ h=>G0 511 [7,8] (h.p [0,1] Z) Z (Ao 9 1023 Z (zs 3 h Z λ_ h=>G0 4095 [10,11] (h.p [0,1] Z) Z (Ao 12 8191 Z (zs 3 h Z λ_ h=>Ag (h.p [0,1] Z) (Ad ?_))))))));obtain rfl:=qe l;have h:=h.pickT 4 [2,3] Z;exact qdN qa h trivial
 refine eZ ?_;obtain⟨r1,c,l⟩:=qc l;obtain⟨f,d,l⟩:=qc l;refine bw (λe w'=>e=[]/\SH g w' (oX b [.bool reached] 4::oX a [vi s.Bo,vi r1.Ar,vi r1.Bc,vi f.Ar,vi f.Bc] 122::F)) ?_ ?_
 .refine rA [] [0,1] h Z λ_ h=>M2 5983 [0,1,2,3,4,6,8,9,10,12] 1 0 (h.p [0,1] Z) Z (At 5 11 6015 8031 Z ?_ ?_)
  .refine zl 3 1 h Z (Ag (h.p [0,1] Z) (At 7 11 6143 8063 Z ?_ ?_))
   .refine BE r1 h (cB 189 Z) (ky (qI _) (qI i) c) Z Z Z Z λ_ _ _ h=>?_;obtain rfl:=qC (h.own 0 Z);refine Ag (h.p [1,2] Z) (Ao 11 8191 Z (zl 4 3 h Z (Ag (h.p [1,2] Z) (Ao 13 16383 Z (BE f h (cB 189 Z) (ky (qI _) (qI k) d) Z Z Z Z λ_ _ _ h=>?_)))));obtain rfl:=qC (h.own 0 Z);refine G0 65535 [14,15] (h.p [2,3] Z) Z (Ao 16 131071 Z (zs 5 h Z λ_ h=>G0 524287 [17,18] (h.p [2,3] Z) Z (Ao 19 1048575 Z (zs 5 h Z λ_ h=>Ag (h.p [2,3] Z) (Ad ?_)))));exact rG ⟨Z,h.pickT 6 [4,5] Z⟩ Z
   refine zl 3 3 h Z (Ag (h.p [0,1] Z) (Ao 7 8191 Z (BE r1 h (cB 189 Z) (ky (qI _) (qI i) c) Z Z Z Z λ_ _ _ h=>?_)));obtain rfl:=qC (h.own 0 Z);refine Ag (h.p [1,2] Z) (Ao 13 16383 Z (BE f h (cB 189 Z) (ky (qI _) (qI k) d) Z Z Z Z λ_ _ _ h=>?_));obtain rfl:=qC (h.own 0 Z);refine G0 65535 [14,15] (h.p [2,3] Z) Z (Ao 16 131071 Z (zs 5 h Z λ_ h=>G0 524287 [17,18] (h.p [2,3] Z) Z (Ao 19 1048575 Z (zs 5 h Z λ_ h=>Ag (h.p [2,3] Z) (Ad ?_)))));exact rG ⟨Z,h.pickT 6 [4,5] Z⟩ Z
  refine zl 3 3 h Z (Ag (h.p [0,1] Z) (Ao 5 8063 Z (zl 3 1 h Z (Ag (h.p [0,1] Z) (Ao 7 8191 Z (BE r1 h (cB 189 Z) (ky (qI _) (qI i) c) Z Z Z Z λ_ _ _ h=>?_))))));obtain rfl:=qC (h.own 0 Z);refine Ag (h.p [1,2] Z) (Ao 13 16383 Z (BE f h (cB 189 Z) (ky (qI _) (qI k) d) Z Z Z Z λ_ _ _ h=>?_));obtain rfl:=qC (h.own 0 Z);refine G0 65535 [14,15] (h.p [2,3] Z) Z (Ao 16 131071 Z (zs 5 h Z λ_ h=>G0 524287 [17,18] (h.p [2,3] Z) Z (Ao 19 1048575 Z (zs 5 h Z λ_ h=>Ag (h.p [2,3] Z) (Ad ?_)))));exact rG ⟨Z,h.pickT 6 [4,5] Z⟩ Z
 rintro _ _ ⟨rfl,h⟩;obtain rfl:=qe l;exact E6 qa h trivial
def dr(Ce:Option aX)(Cf:qH)(a:qu)(f:List Int):Nat->Bool->Int->Int->Int->Int->Int->Int->Option (Bool×Int×Int×Int×Int×Int×Int)|0,_,_,_,_,_,_,_=>U|n+1,b2,g,h,i8,i,c,b=>bif decide (b<(f.length:Int)) then(qG f b).bind λm=>(Ce).bind λp=>(p.view).bind λu=>(qG u.links m).bind λl=>(qG a.Au l.Bm).bind λv=>bif v then(qG a.Ba l.Bm).bind λx=>(mF n p.view Cf m x).bind λ(r,s)=>(qG a.Af l.Bm).bind λy=>(rf n y r).bind λk=>(ob n (⟨g,(⟨h,i8⟩:qg),(⟨i,c⟩:qg)⟩:ql) b2 k s).bind λ(d,t)=>dr Ce Cf a f n t d.Bo d.Af.Ar d.Af.Bc d.Ba.Ar d.Ba.Bc (qj (b+1)) else dr Ce Cf a f n b2 g h i8 i c (qj (b+1)) else V (b2,g,h,i8,i,c,b)
def kq(n:Nat)(Ce:Option aX)(Cf:qH)(Cg:List ql)(d:qu)(a:Int):Option (Bool×ql):=(dX n Cg a).bind λ(c,t)=>(bif t then(ob n (⟨a,(⟨0,0⟩:qg),(⟨0,0⟩:qg)⟩:ql) Cd (⟨c.Af.Ar,c.Af.Bc⟩:qg) (⟨c.Ba.Ar,c.Ba.Bc⟩:qg)).bind λ(b,g)=>V (g,b.Bo,b.Af.Ar,b.Af.Bc,b.Ba.Ar,b.Ba.Bc) else V (Cd,a,0,0,0,0)).bind λ(b1,h,i,k,l,m)=>(pr n Ce a).bind λu=>(dr Ce Cf d u n b1 h i k l m 0).bind λ(b2,p,r,i8,s,f,_)=>bif (!b2) then V (Cd,(⟨0,(⟨0,0⟩:qg),(⟨0,0⟩:qg)⟩:ql)) else V (An,(⟨p,(⟨r,i8⟩:qg),(⟨s,f⟩:qg)⟩:ql))
theorem zw{Ce:Option aX}{Cf:qH}{Cg:List ql}{f:qu}{R}(ha1:Ro w Ce cs1)(A:Ro w Cf cs2)(ha3:Ro w Cg cs3)(ha4:Ro w f cs4){r:Bool×ql}(F:kq n Ce Cf Cg f R=V r):qN prog 79 [gv Ce cs1,gv Cf cs2,gv Cg cs3,gv f cs4,vi R] w r:=by
 obtain⟨p1,rfl,s1⟩:=aJ ha1;obtain rfl:=dL A;obtain⟨_,_,rfl,s2⟩:=ha3;obtain⟨p3,k2,p4,k3,p5,k4,rfl,s3,s4,s5⟩:=gD ha4;refine zV 88 func79 Z λh=>db (qK h Z Z λ_ g h=>qK h Z Z λ_ i h=>cr Z (qi qa h Z Z Z λ_ k h=>X0 4 Z (dF (qB qa [0] [.tmp 21] z8) Z (qi qa h Z Z Z λ_ o h=>zs 0 h Z λ_ h=>QS (qi qa h Z Z Z λ_ p h=>zs 0 h Z λ_ h=>X0 6 Z ?_)))));obtain⟨⟨r2,r3⟩,hr1,F⟩:=qc F;refine bB (r2,r3) h (cB 52 Z) (lF ⟨_,_,Z,(h.oldS s2)⟩ hr1) Z Z Z Z λ_ _ _ hv1 hr2=>?_;obtain⟨S2,_,_,_,rfl,hv2,hr3⟩:=hv1.cons hr2;obtain rfl:=au (hv2.sh.own 0 Z);obtain⟨rfl,h⟩:=hv2.lastB hr3;refine CK Z (qi qa h Z Z Z λ_ bb6 h=>zs 0 h Z λ_ h=>X0 6 Z ?_);obtain⟨KF1,hKF1,_,F,hK2⟩:=bindE F;refine bw (λe w'=>∃b1 i1 i2 i3 i4 i5,KF1 (b1,i1,i2,i3,i4,i5)=V r/\e=[(0,.pointer p1),(4,vi R),(6,vp g),(8,vp i),(11,vp k),(12,vp o),(13,vp p)]/\SH w w' [oX p [.bool b1] 4,oX o [vi i1,vi i2,vi i3,vi i4,vi i5] 122,oX k V4 122,oX i (eJ f p3 p4 p5 k2 k3 k4) 51,oX g (ch Cf) 36]) ?_ ?_
 .refine qn Z F ?_ ?_<;>intro F
  .refine X2 5 0 0 h Z ?_;have h:=h.p [2,3,0,1,4,5,6] Z;obtain⟨⟨x9,x10⟩,hr43,F⟩:=qc F;refine xc (cB 130 Z) (vW h hr43) Z Z Z Z λ_ h=>?_;replace h:SH _ _ [oX p [.bool x10] 4,oX o (nU x9) 122,oX bb6 (nU r2) 122,oW S2 (r2:ql) (nU r2),oX k V4 122,oX i (eJ f p3 p4 p5 k2 k3 k4) 51,oX g (ch Cf) 36]:=h;refine ae ?_;have h:=h.p [0,1,4,5,6] Z;cases qe F;exact rG ⟨_,_,_,_,_,_,hK2,Z,h⟩ Z
  refine eZ ?_;have h:=h.p [2,3,4,5,6] Z;cases qe F;exact rG ⟨_,_,_,_,_,_,hK2,Z,h⟩ Z
 rintro _ _ ⟨b1,i1,i2,i3,i4,i5,F,rfl,h⟩;subst hKF1;refine X0 5 Z (uY h F (vl (h.old s1)) Z λD _ S5 p6 k5 h F=>X0 3 Z ?_);obtain⟨o1,F,hK1⟩:=qc F;refine qq (rL (λm e w'=>∃b2 W X i8 Y B P,dr Ce Cf f D m b2 W X i8 Y B P=V o1/\e=[(0,.pointer p1),(6,vp g),(8,vp i),(11,vp k),(12,vp o),(13,vp p),(37,oL p6 D k5),(38,vi (D.length:Int)),(39,vi P)]/\SH w w' [oW S5 (D:List Int) [oL p6 D k5],oX p [.bool b2] 4,oX o [vi W,vi X,vi i8,vi Y,vi B] 122,oX k V4 122,oX i (eJ f p3 p4 p5 k2 k3 k4) 51,oX g (ch Cf) 36]) n ⟨_,_,_,_,_,_,_,F,Z,h⟩ Z ?_);rintro m1 _ _ ⟨b2,W,X,i8,Y,B,P,F,rfl,h⟩;rcases m1 with _|m1
 .cases F
 refine X0 5 Z (qn Z F ?_ ?_)<;>intro F
 .refine ly ?_;obtain⟨_,_,F,he1,_,_,_,_,hp1,hq1,rfl,hc2⟩:=(h.sl 0 Z).1.ix F;refine zx hp1 hq1 ⟨he1.1,qE he1.2.1 (h.sl 0 Z).2⟩ Z (zc 0 hc2 Z (X0 5 Z ?_));obtain⟨_,hy2,F⟩:=qc F;obtain⟨b4,o_2,_,rfl,-,hr7,hc3⟩:=Cs s1 hy2;obtain⟨_,_,_,rfl,s6,_⟩:=eY hr7;refine mr Z (bL 0 hc3 h Z ?_);obtain⟨_,hy3,F⟩:=qc F;obtain⟨_,o_3,_,rfl,-,hr8,hc4⟩:=Cs s6 hy3;obtain⟨_,_,_,_,_,_,_,_,_,_,_,_,_,_,_,_,_,_,_,_,rfl,_,_,_,_,_,_,s14,_,_,_⟩:=cS hr8;refine mr Z (bL 6 hc4 h Z (cr Z ?_));obtain⟨y4,_,F,he2,_,_,_,_,hp2,hq2,hr9,hc5⟩:=s14.ix F;obtain rfl:=aB hr9;refine ft hp2 hq2 he2 Z (cr Z (bL 0 hc5 h Z (X1 7 4 h Z ?_)));obtain⟨_,_,F,he3,_,_,_,_,hp3,hq3,rfl,hc6⟩:=s3.ix F;refine ft hp3 hq3 he3 Z (bL 0 hc6 h Z (ae (qn Z F ?_ ?_)))<;>intro F
  .refine aD (rA [] [4,5] h Z λ_ h=>M0 7 [0,1,2] (h.p [4,5] Z) Z (Al 3 15 0 hc3 (h.p [4,5] Z) Z (M2 511 [4,5,6,7,8] 1 0 (h.p [4,5] Z) Z ?_)));obtain⟨y6,_,F,he4,_,_,_,_,hp4,hq4,hr11,hc8⟩:=s5.ix F;obtain rfl:=qC hr11;refine Ae 9 1023 hp4 hq4 he4 (h.p [4,5] Z) Z (Al 10 2047 0 hc8 (h.p [4,5] Z) Z ?_);obtain⟨⟨Q,T⟩,s,F⟩:=qc F;refine uc (λe w'=>∃t u,e=[(0,.pointer (V ⟨b4,o_2,U⟩)),(11,vp k),(12,vp o),(13,vp p),(18,vi y4.Bm),(19,vp u),(20,vp t),(37,oL p6 D k5),(38,vi (D.length:Int)),(39,vi P),(6,vp g),(8,vp i)]/\SH w w' [oX t (pE T) 59,oX u (pE Q) 59,oW S5 (D:List Int) [oL p6 D k5],oX p [.bool b2] 4,oX o [vi W,vi X,vi i8,vi Y,vi B] 122,oX k V4 122,oX i (eJ f p3 p4 p5 k2 k3 k4) 51,oX g (ch Cf) 36]) 0 (bits 19 524287) ?_ ?_
   .intro K;refine rN 11 15 16 Z Z Z (bits 19 4095) (bits 19 34815) (bits 19 67583) (by kernel_rfl) (by kernel_rfl) (by kernel_rfl) (by kernel_rfl) ?_ ?_ ?_
    .refine bB (Q,T) h (cB 99 Z) (cR (h.old s6) (h.old A) (qI y6) s) Z Z Z Z λw54 M y d b=>?_;obtain⟨N,O,v,z,rfl,a,c⟩:=d.cons b;obtain rfl:=qC (a.sh.own 0 Z);obtain⟨x,rfl,h⟩:=a.last c;obtain rfl:=qC (h.own 0 Z);refine G0 32767 [12,13,14] (h.p [6,7] Z) Z (At 15 16 65535 98303 Z ?_ ?_)
     .refine qi qa h Z Z Z λH C h=>Ag (h.p [7,8] Z) (Ao 16 131071 Z (qi qa h Z Z Z λI l h=>Ag (h.p [8,9] Z) (Ao 17 262143 Z (zs 1 h Z λJ h=>Ag (h.p [8,9] Z) (Ao 18 524287 Z (zs 0 h Z λL h=>Ag (h.p [8,9] Z) ?_))))));have h:=h.p [0,1,4,5,6,7,8,9] Z;exact aK K ⟨_,_,Z,h⟩ Z
     refine qi qa h Z Z Z λH C h=>Ag (h.p [7,8] Z) (Ao 15 131071 Z (qi qa h Z Z Z λI l h=>Ag (h.p [8,9] Z) (Ao 17 262143 Z (zs 0 h Z λJ h=>Ag (h.p [8,9] Z) (Ao 18 524287 Z (zs 1 h Z λL h=>Ag (h.p [8,9] Z) ?_))))));have h:=h.p [1,0,4,5,6,7,8,9] Z;exact aK K ⟨_,_,Z,h⟩ Z
    .refine qi qa h Z Z Z λw54 C h=>Ag (h.p [5,6] Z) (At 11 16 36863 100351 Z ?_ ?_)
     .refine bB (Q,T) h (cB 99 Z) (cR (h.old s6) (h.old A) (qI y6) s) Z Z Z Z λH M y d b=>?_;obtain⟨N,O,v,z,rfl,a,c⟩:=d.cons b;obtain rfl:=qC (a.sh.own 0 Z);obtain⟨x,rfl,h⟩:=a.last c;obtain rfl:=qC (h.own 0 Z);refine G0 65535 [12,13,14] (h.p [7,8] Z) Z (Ao 16 131071 Z (qi qa h Z Z Z λI l h=>Ag (h.p [8,9] Z) (Ao 17 262143 Z (zs 3 h Z λJ h=>Ag (h.p [8,9] Z) (Ao 18 524287 Z (zs 0 h Z λL h=>Ag (h.p [8,9] Z) ?_))))));have h:=h.p [0,3,4,5,6,7,8,9] Z;exact aK K ⟨_,_,Z,h⟩ Z
     refine qi qa h Z Z Z λH l h=>Ag (h.p [6,7] Z) (Ao 11 102399 Z (bB (Q,T) h (cB 99 Z) (cR (h.old s6) (h.old A) (qI y6) s) Z Z Z Z λI M y d b=>?_));obtain⟨N,O,v,z,rfl,a,c⟩:=d.cons b;obtain rfl:=qC (a.sh.own 0 Z);obtain⟨x,rfl,h⟩:=a.last c;obtain rfl:=qC (h.own 0 Z);refine G0 131071 [12,13,14] (h.p [8,9] Z) Z (Ao 17 262143 Z (zs 3 h Z λJ h=>Ag (h.p [8,9] Z) (Ao 18 524287 Z (zs 2 h Z λL h=>Ag (h.p [8,9] Z) ?_))));have h:=h.p [2,3,4,5,6,7,8,9] Z;exact aK K ⟨_,_,Z,h⟩ Z
    refine qi qa h Z Z Z λw54 C h=>Ag (h.p [5,6] Z) (At 11 15 69631 100351 Z ?_ ?_)
    .refine bB (Q,T) h (cB 99 Z) (cR (h.old s6) (h.old A) (qI y6) s) Z Z Z Z λH M y d b=>?_;obtain⟨N,O,v,z,rfl,a,c⟩:=d.cons b;obtain rfl:=qC (a.sh.own 0 Z);obtain⟨x,rfl,h⟩:=a.last c;obtain rfl:=qC (h.own 0 Z);refine G0 98303 [12,13,14] (h.p [7,8] Z) Z (Ao 15 131071 Z (qi qa h Z Z Z λI l h=>Ag (h.p [8,9] Z) (Ao 17 262143 Z (zs 0 h Z λJ h=>Ag (h.p [8,9] Z) (Ao 18 524287 Z (zs 3 h Z λL h=>Ag (h.p [8,9] Z) ?_))))));have h:=h.p [3,0,4,5,6,7,8,9] Z;exact aK K ⟨_,_,Z,h⟩ Z
    refine qi qa h Z Z Z λH l h=>Ag (h.p [6,7] Z) (Ao 11 102399 Z (bB (Q,T) h (cB 99 Z) (cR (h.old s6) (h.old A) (qI y6) s) Z Z Z Z λI M y d b=>?_));obtain⟨N,O,v,z,rfl,a,c⟩:=d.cons b;obtain rfl:=qC (a.sh.own 0 Z);obtain⟨x,rfl,h⟩:=a.last c;obtain rfl:=qC (h.own 0 Z);refine G0 131071 [12,13,14] (h.p [8,9] Z) Z (Ao 17 262143 Z (zs 2 h Z λJ h=>Ag (h.p [8,9] Z) (Ao 18 524287 Z (zs 3 h Z λL h=>Ag (h.p [8,9] Z) ?_))));have h:=h.p [3,2,4,5,6,7,8,9] Z;exact aK K ⟨_,_,Z,h⟩ Z
   rintro _ _ ⟨t,u,rfl,h⟩;refine Ad (rA [] [0,1,6] h Z λ_ h=>M1 7 [0,1,2] 2 (h.p [0,1,6] Z) Z ?_);obtain⟨y9,_,F,he7,_,_,_,_,hp7,hq7,hr40,hc11⟩:=s4.ix F;obtain rfl:=qC hr40;refine Ae 3 15 hp7 hq7 he7 (h.p [0,1,6] Z) Z (Al 4 31 0 hc11 (h.p [0,1,6] Z) Z (M2 191 [5,7] 1 0 (h.p [0,1,6] Z) Z (Ao 6 255 Z (qc6 h F (yp (qI y9) (qI Q)) Z λr10 _ S36 _ h F=>?_))));obtain rfl:=qC (h.own 0 Z);refine Ag (h.p [1,2,7] Z) (Ao 8 511 Z ?_);have h:=h.p [4,5,0,1,2,3,6,7,8] Z;obtain⟨⟨x7,x8⟩,hr42,F⟩:=qc F;refine xc (cB 130 Z) (vW h hr42) Z Z Z Z λ_ h=>?_;replace h:SH _ _ [oX p [.bool x8] 4,oX o (nU x7) 122,oW S36 (r10:qg) (pE r10),oX t (pE T) 59,oX u (pE Q) 59,oW S5 (D:List Int) [oL p6 D k5],oX k V4 122,oX i (eJ f p3 p4 p5 k2 k3 k4) 51,oX g (ch Cf) 36]:=h;refine Ag (h.p [3,4,7] Z) (Ad (X0 5 Z ?_));exact rK ⟨_,_,_,_,_,_,_,F,Z,h.p [5,0,1,6,7,8] Z⟩ Z
  exact X0 6 Z (rK ⟨_,_,_,_,_,_,_,F,Z,h⟩ Z)
 refine qy Z ?_;cases qe F;have F:=hK1;refine X1 6 1 h Z (qn Z F ?_ ?_)<;>intro F
 .refine db (dF (qB qa [] [] z8) Z (cr Z (zs 3 h Z λ_ h=>ae ?_)));cases qe F;exact aC qa (ρ:=(Bool×ql)) [oV Bool [.bool Cd],oV ql V4] h ⟨Z,⟨_,_,_,Z,Z,h.box 3 Z,Z⟩,G⟩ (Cr h (aj h sO (rv (mo (S:=λ_=>False) (dE (⟨0,(⟨0,0⟩:qg),(⟨0,0⟩:qg)⟩:ql)))) (by rfl)))
 refine N7 (rA [] [2] h Z λ_ h=>M1 3 [0,1] 0 (h.p [2] Z) Z (Ao 2 7 Z (zs 3 h Z λ_ h=>Ag (h.p [2] Z) (Ad ?_))));cases qe F;exact aC qa (ρ:=(Bool×ql)) [oV Bool [.bool An],oV ql [vi W,vi X,vi i8,vi Y,vi B]] h ⟨Z,⟨_,_,_,Z,Z,h.box 3 Z,Z⟩,G⟩ (Cr h (aj h sO (rv (mo (S:=λ_=>False) (dE (⟨W,(⟨X,i8⟩:qg),(⟨Y,B⟩:qg)⟩:ql)))) (by rfl)))
def cx(g:Option aX)(c:qH)(l:List ql)(order:List Int):Nat->(List qg)->(List qg)->(List Bool)->Int->Option (eE (qu×Bool) ((List qg)×(List qg)×(List Bool)×Int))|0,_,_,_,_=>U|n+1,x1,f,h,d=>bif decide (d<(order.length:Int)) then(qG order d).bind λa=>(kq n g c l (⟨h,f,x1⟩:qu) a).bind λ(i,b)=>(bif i then(re n (⟨b.Af.Ar,b.Af.Bc⟩:qg)).bind λk=>V (!k) else V Cd).bind λb3=>bif b3 then V (.ret ((⟨[],[],[]⟩:qu),Cd)) else(qG h a).bind λ_=>(qG f a).bind λ_=>(qG x1 a).bind λ_=>cx g c l order n (am x1 a (⟨b.Ba.Ar,b.Ba.Bc⟩:qg)) (am f a (⟨b.Af.Ar,b.Af.Bc⟩:qg)) (am h a i) (qj (d+1)) else V (.nxt (x1,f,h,d))
def mZ(n:Nat)(g:Option aX)(c:qH)(f:List ql)(order:List Int):Option (qu×Bool):=(g).bind λd=>(sJ n d.view).bind λr1=>(cx g c f order n r1.Ba r1.Af r1.Au 0).bind λ|.ret r=>V r|.nxt (x1,a,b,_)=>V ((⟨b,a,x1⟩:qu),An)
theorem zy{g:Option aX}{c:qH}{c5:List ql}{order:List Int}(S:Ro w g cs1)(B:Ro w c cs2)(T:Ro w c5 cs3)(W:Ro w order cs4){r:qu×Bool}(F:mZ n g c c5 order=V r):qN prog 36 [gv g cs1,gv c cs2,gv c5 cs3,gv order cs4] w r:=by
 obtain⟨_,rfl,s1⟩:=aJ S;obtain rfl:=dL B;obtain⟨p2,k1,rfl,s2⟩:=T;obtain⟨p3,k2,rfl,s3⟩:=W;refine zV 62 func36 Z λh=>db (qK h Z Z λ_ a h=>qi qa h Z Z Z λ_ b h=>X0 5 Z ?_);obtain⟨_,c0,F⟩:=qc F;obtain⟨b1,P,_,rfl,-,a9,X⟩:=Cs s1 c0;obtain⟨_,_,_,rfl,s4,_⟩:=eY a9;refine mr Z (bL 0 X h Z (qc6 h F (AP (h.old s4)) Z λr1 _ _ _ h F=>?_));obtain⟨p,o,k,f,l,i,rfl,-,-,-⟩:=gD (h.own 0 Z);refine qi qa h Z Z Z λ_ d h=>zs 0 h Z λ_ h=>X0 8 Z ?_;have h:=h.p [1,0,2,3] Z;obtain⟨S2,S3,S4,h⟩:=pA h;obtain⟨o1,F,y⟩:=qc F;refine qq (rL (λm e w'=>∃x1 u v Q,cx g c c5 order m x1 u v Q=V o1/\e=[(0,.pointer (V ⟨b1,P,U⟩)),(2,oL p2 c5 k1),(5,vp a),(8,vp b),(10,vp d),(20,oL p3 order k2),(21,vi (order.length:Int)),(22,vi Q)]/\SH w w' [oW S4 (x1:List qg) [oL l r1.Ba i],oW S3 (u:List qg) [oL k r1.Af f],oW S2 (v:List Bool) [oL p r1.Au o],oX d (eJ r1 p k l o f i) 51,oX b WG 51,oX a (ch c) 36]) n ⟨_,_,_,_,F,Z,h⟩ Z ?_);rintro m1 _ _ ⟨x1,u,v,Q,F,rfl,h⟩;rcases m1 with _|m1
 .cases F
 refine X0 5 Z (qn Z F ?_ ?_)<;>intro F
 .refine ly ?_;obtain⟨y2,_,F,a6,_,_,_,_,a7,a8,rfl,Y⟩:=s3.ix F;refine ft a7 a8 a6 Z (bL 0 Y h Z (X2 9 5 3 h Z ?_));obtain⟨⟨r3,s⟩,b4,F⟩:=qc F;refine bB (r3,s) h (cB 79 Z) (zw (h.old s1) (h.old B) ⟨_,_,Z,(h.oldS s2)⟩ (show qm.R _ _ ((⟨v,u,x1⟩:qu):qu) _ from⟨[oL p r1.Au o],[oL k r1.Af f,oL l r1.Ba i],Z,(h.own 2 Z),⟨[oL k r1.Af f],[oL l r1.Ba i],Z,(h.own 1 Z),(h.own 0 Z)⟩⟩) b4) Z Z Z Z λ_ _ _ b8 b5=>?_;obtain⟨_,_,rfl,b9,b6⟩:=b8.consB b5;obtain⟨_,rfl,h⟩:=b9.last b6;obtain rfl:=au (h.own 0 Z);refine CK Z (qi qa h Z Z Z λ_ x h=>cr Z (zs 0 h Z λ_ h=>qcN ?_));obtain⟨R,A,_,F,z⟩:=bindE F;refine bw (λe w'=>∃b3,R b3=V o1/\e=[(0,.pointer (V ⟨b1,P,U⟩)),(2,oL p2 c5 k1),(5,vp a),(8,vp b),(10,vp d),(12,vi y2),(13,.bool r3),(14,vp x),(20,oL p3 order k2),(21,vi (order.length:Int)),(22,vi Q),(41,.bool b3)]/\SH w w' [oX x (nU s) 122,oW S4 (x1:List qg) [oL l r1.Ba i],oW S3 (u:List qg) [oL k r1.Af f],oW S2 (v:List Bool) [oL p r1.Au o],oX d (eJ r1 p k l o f i) 51,oX b WG 51,oX a (ch c) 36]) ?_ ?_
  .refine X0 3 Z (qh (t:=36) F Z ?_ ?_)<;>intro F
   .refine X1 5 0 h Z (dI h F (uq (qI _)) Z λ_ _ h F=>X0 4 Z ?_);have h:=h.p [0,2,3,4,5,6,7] Z;exact rH F z h Z
   refine X0 6 Z ?_;have h:=h.p [0,2,3,4,5,6,7] Z;exact rH F z h Z
  rintro _ _ ⟨b3,F,rfl,h⟩;subst A;refine qn Z F ?_ ?_<;>intro F
  .refine db (dF (qB qa [] [] z8) Z (zs 5 h Z λ_ h=>X0 2 Z ?_));cases qe F;have F:=y;cases qe F;exact aC qa (ρ:=(qu×Bool)) [oV qu WG,oV Bool [.bool Cd]] h ⟨⟨_,_,_,Z,Z,h.box 5 Z,Z⟩,Z,G⟩ (Cr h (aj h (oN (⟨[],[],[]⟩:qu) h kP kP kP (by rfl) (by rfl)) ve (by rfl)))
  refine eZ (rA [] [0,4] h Z λ_ h=>M4 8191 [0,1,2,3,4,5,6,7,8,9,10,11,12] 1 1 1 0 (h.p [0,4] Z) Z (M1 16383 [13] 0 (h.p [0,4] Z) Z ?_));obtain⟨_,c2,F,C,_,_,_,_,I,L,rfl,a3⟩:=(h.sl 3 Z).1.ix F;refine Ax 14 32767 I L ⟨C.1,qE C.2.1 (h.sl 3 Z).2⟩ (h.p [0,4] Z) Z (Ao 15 65535 Z (bM qa 3 0 r3 h Z c2 I L Z a3 Z Z Z Z Z Z Z λ_ h=>Ag (h.p [0,4] Z) ?_));obtain⟨y4,c3,F,D,_,_,_,_,J,M,b7,a4⟩:=(h.sl 2 Z).1.ix F;obtain rfl:=qC b7;refine Ax 16 131071 J M ⟨D.1,qE D.2.1 (h.sl 2 Z).2⟩ (h.p [0,4] Z) Z (Ao 17 262143 Z (bM qa 2 0 s.Af h Z c3 J M (qI y4) a4 Z Z Z (qI s.Af) Z Z Z λ_ h=>Ag (h.p [0,4] Z) ?_));obtain⟨y5,c4,F,H,_,_,_,_,K,N,O,a5⟩:=(h.sl 1 Z).1.ix F;obtain rfl:=qC O;refine Ax 18 524287 K N ⟨H.1,qE H.2.1 (h.sl 1 Z).2⟩ (h.p [0,4] Z) Z (Ao 19 1048575 Z (bM qa 1 0 s.Ba h Z c4 K N (qI y5) a5 Z Z Z (qI s.Ba) Z Z Z λ_ h=>Ag (h.p [0,4] Z) (Ad (X0 5 Z ?_))));exact rK ⟨_,_,_,_,F,Z,h.p [1,2,3,4,5,6] Z⟩ Z
 refine qy Z ?_;cases qe F;have F:=y;refine X1 3 3 h Z (zs 4 h Z λ_ h=>X0 2 Z ?_);cases qe F;exact aC qa (ρ:=(qu×Bool)) [oV qu (eJ r1 p k l o f i),oV Bool [.bool An]] h ⟨⟨_,_,_,Z,Z,h.box 4 Z,Z⟩,Z,G⟩ (Cr h (aj h (oN (⟨v,u,x1⟩:qu) h (qS 2 h Z) (qS 1 h Z) (qS 0 h Z) (by rfl) (by rfl)) ve (by rfl)))
def mf(list:List Int)(x:Int):Nat->Int->Option (eE Bool Int)|0,_=>U|n+1,a=>bif decide (a<(list.length:Int)) then(qG list a).bind λb=>bif (b==x) then V (.ret An) else mf list x n (qj (a+1)) else V (.nxt a)
def tX(n:Nat)(list:List Int)(x:Int):Option Bool:=(mf list x n 0).bind λ|.ret r=>V r|.nxt _=>V Cd
theorem xT{list:List Int}{x}(b:Ro w list cs1){r:Bool}(F:tX n list x=V r):qN prog 171 [gv list cs1,vi x] w r:=by
 obtain⟨p1,l,rfl,s1⟩:=b;refine zV 18 func171 Z λh=>X0 9 Z ?_;obtain⟨o1,F,a⟩:=qc F;refine qq (rL (λm e w'=>∃i,mf list x m i=V o1/\e=[(0,oL p1 list l),(1,vi x),(5,vi i)]/\SH w w' []) n ⟨_,F,Z,h⟩ Z ?_);rintro k _ _ ⟨i,F,rfl,h⟩;rcases k with _|k
 .cases F
 refine X0 8 Z (qn Z F ?_ ?_)<;>intro F
 .refine X0 7 Z ?_;obtain⟨_,_,F,d,_,_,_,_,f,g,rfl,c⟩:=s1.ix F;refine ft f g d Z (bL 0 c h Z (X0 3 Z (qn Z F ?_ ?_)))<;>intro F
  .refine X0 4 Z ?_;cases qe F;exact rb h a Z
  exact X0 7 Z (rK ⟨_,F,Z,h⟩ Z)
 refine qy Z ?_;cases qe F;exact X0 4 Z (rb h a Z)
def la(links:List qx)(c:List Int):Nat->(List Bool)->Int->Option ((List Bool)×Int)|0,_,_=>U|n+1,x1,a=>bif decide (a<(links.length:Int)) then(tX n c a).bind λr1=>(df x1 ([(!r1)]:List Bool)).bind λb=>la links c n b (qj (a+1)) else V (x1,a)
def pe(n:Nat)(links:List qx)(a:List Int):Option (List Bool):=(la links a n ([]:List Bool) 0).bind λ(x1,_)=>V x1
theorem pn{links:List qx}{t:List Int}(d:Ro w links cs1)(f:Ro w t cs2){r:List Bool}(F:pe n links t=V r):qN prog 107 [gv links cs1,gv t cs2] w r:=by
 obtain⟨p1,o,rfl,_⟩:=d;obtain⟨s,p,rfl,s2⟩:=f;refine zV 22 func107 Z λh=>X0 6 Z (qt qa [] _ ([]:List Bool) h z9 trivial Z λ_ _ _ h=>X0 7 Z ?_);obtain⟨o1,F,c⟩:=qc F;refine qq (rL (λm e w'=>∃S2 i b k3 x1 g,la links t m x1 g=V o1/\e=[(0,oL p1 links o),(1,oL s t p),(5,oS i b k3),(6,vi g)]/\SH w w' [oW S2 (x1:List Bool) [oS i b k3]]) n ⟨_,_,_,_,_,_,F,Z,h⟩ Z ?_);rintro k _ _ ⟨S2,i,b,k3,x1,g,F,rfl,h⟩;obtain rfl:=(h.sl 0 Z).2;rcases k with _|k
 .cases F
 refine X0 8 Z (qn Z F ?_ ?_)<;>intro F
 .refine X0 7 Z (dI h F (xT ⟨_,_,Z,(h.oldS s2)⟩) Z λr1 _ h F=>cr Z (qt qa [.tmp 18] _ ([(!r1)]:List Bool) h z9 ⟨Z,G⟩ Z λ_ _ _ h=>?_));obtain⟨_,a,F⟩:=qc F;obtain⟨l,a⟩:=qJ a;refine bn qa 1 h Z (h.sl 0 Z).1 (h.sl 0 Z).2 z9 l a Z λ_ _ _ _ h=>X0 8 Z ?_;exact rK ⟨_,_,_,_,_,_,F,Z,h.p [1] Z⟩ Z
 refine qy Z ?_;cases qe F;have F:=c;refine X0 5 Z ?_;cases qe F;exact rO 0 h Z ⟨Z,G⟩
def mq(n:Nat)(b:qf)(h:List Int):Option ((List Int)×Int):=(sv n b h).bind λr1=>bif (r1 != 0) then V (([]:List Int),r1) else(kj n b).bind λa=>(bV n b).bind λc=>(pe n a h).bind λd=>(pz n c a d).bind λ(f,g)=>bif (!g) then V (([]:List Int),7) else V (f,0)
theorem ze{b:qf}{v:List Int}(a:Ro w b cs1)(c:Ro w v cs2){r:(List Int)×Int}(F:mq n b v=V r):qN prog 216 [gv b cs1,gv v cs2] w r:=by
 obtain⟨_,_,_,_,_,_,_,_,_,_,rfl,_,_,_,_,_⟩:=qZ a;obtain⟨_,_,rfl,p⟩:=c;refine zV 33 func216 Z λh=>db (qK h Z Z λ_ _ h=>X1 8 0 h Z (mR h F (BW (h.old a) ⟨_,_,Z,(h.oldS p)⟩) Z λr1 _ h F=>X0 7 Z (qn Z F ?_ ?_)))<;>intro F
 .refine db (qt qa [] _ ([]:List Int) h z9 trivial Z λ_ t _ h=>X0 4 Z ?_);cases qe F;exact aC qa (ρ:=((List Int)×Int)) [oV (List Int) [oS t 0 0],oV Int [vi r1]] h ⟨Z,Z,G⟩ (Cr h (aj h (qS 0 h Z) ve (by rfl)))
 refine X1 4 0 h Z (uY h F (lQ (h.old a)) Z λ_ _ _ _ _ h F=>X1 5 1 h Z (mR h F (dY (h.old a)) Z λ_ _ h F=>CK Z (uY h F (pn (h.own 0 Z) ⟨_,_,Z,(h.oldS p)⟩) Z λ_ _ _ _ _ h F=>?_)));obtain⟨⟨o,u⟩,d,F⟩:=qc F;refine bB (o,u) h (cB 65 Z) (zX (h.own 1 Z) (h.own 0 Z) d) Z Z Z Z λ_ _ _ i f=>?_;obtain⟨_,_,l,s,_,rfl,k,g⟩:=i.consL f;obtain⟨rfl,h⟩:=k.lastB g;refine X0 12 Z (qn Z F ?_ ?_)<;>intro F
 .refine db (qt qa [] _ ([]:List Int) h z9 trivial Z λ_ m _ h=>X0 3 Z ?_);cases qe F;exact aC qa (ρ:=((List Int)×Int)) [oV (List Int) [oS m 0 0],oV Int [vi 7]] h ⟨Z,Z,G⟩ (Cr h (aj h (qS 0 h Z) ve (by rfl)))
 refine X0 7 Z ?_;cases qe F;exact aC qa (ρ:=((List Int)×Int)) [oV (List Int) [oL l o s],oV Int [vi 0]] h ⟨Z,Z,G⟩ (Cr h (aj h (qS 0 h Z) ve (by rfl)))
def sw(n:Nat)(b:qf)(c:qH)(k:List Int)(l:List ql):Option ((List Int)×Int):=((ki n b).bind λh=>bif (!h) then V An else(sZ n c).bind λi=>V (!i)).bind λb1=>bif b1 then V (([]:List Int),1) else((sv n b k).bind λf=>bif (f != 0) then V An else(po n b l).bind λg=>V (!g)).bind λb2=>bif b2 then V (([]:List Int),2) else(mq n b k).bind λ(a,d)=>V (a,d)
theorem NP{b:qf}{c:qH}{a3:List Int}{a4:List ql}(a:Ro w b cs1)(l:Ro w c cs2)(p:Ro w a3 cs3)(s:Ro w a4 cs4){r:(List Int)×Int}(F:sw n b c a3 a4=V r):qN prog 165 [gv b cs1,gv c cs2,gv a3 cs3,gv a4 cs4] w r:=by
 obtain⟨p1,B,J,C,K,k3,L,D,M,H,rfl,_,_,_,_,_⟩:=qZ a;obtain rfl:=dL l;obtain⟨N,I,rfl,Q⟩:=p;obtain⟨T,R,rfl,Y⟩:=s;refine zV 35 func165 Z λh=>db (qK h Z Z λ_ d h=>qK h Z Z λ_ _ h=>X0 5 Z ?_);obtain⟨o,k,_,F,g⟩:=bindE F;refine bw (λe w'=>∃b1,o b1=V r/\e=[(2,oL N a3 I),(3,oL T a4 R),(4,vp d),(17,.bool b1)]/\SH w w' [oX d (qL b p1 J K L M B C k3 D H) 34]) ?_ ?_
 .refine X1 2 1 h Z (dI h F (mJ (h.old a)) Z λ_ _ h F=>mr Z (qh (t:=13) F Z ?_ ?_))<;>intro F
  .refine X0 5 Z ?_;have h:=h.p [1] Z;exact rH F g h Z
  refine X1 3 0 h Z (dI h F (LQ (h.old l)) Z λ_ _ h F=>X0 4 Z ?_);have h:=h.p [1] Z;exact rH F g h Z
 rintro _ _ ⟨b1,F,rfl,h⟩;subst k;refine qn Z F ?_ ?_<;>intro F
 .refine db (qt qa [] _ ([]:List Int) h z9 trivial Z λ_ W _ h=>X0 3 Z ?_);cases qe F;exact aC qa (ρ:=((List Int)×Int)) [oV (List Int) [oS W 0 0],oV Int [vi 1]] h ⟨Z,Z,G⟩ (Cr h (aj h (qS 0 h Z) ve (by rfl)))
 refine qbm ?_;obtain⟨m,i,_,F,f⟩:=bindE F;refine bw (λe w'=>∃b2,m b2=V r/\e=[(2,oL N a3 I),(4,vp d),(28,.bool b2)]/\SH w w' [oX d (qL b p1 J K L M B C k3 D H) 34]) ?_ ?_
 .refine X1 3 0 h Z (mR h F (BW (h.old a) ⟨_,_,Z,(h.oldS Q)⟩) Z λ_ _ h F=>mr Z (qh (t:=23) F Z ?_ ?_))<;>intro F
  .refine X0 6 Z ?_;exact rH F f h Z
  refine X1 5 0 h Z (dI h F (HJ (h.old a) ⟨_,_,Z,(h.oldS Y)⟩) Z λ_ _ h F=>X0 4 Z ?_);exact rH F f h Z
 rintro _ _ ⟨b2,F,rfl,h⟩;subst i;refine qn Z F ?_ ?_<;>intro F
 .refine db (qt qa [] _ ([]:List Int) h z9 trivial Z λ_ X _ h=>X0 3 Z ?_);cases qe F;exact aC qa (ρ:=((List Int)×Int)) [oV (List Int) [oS X 0 0],oV Int [vi 2]] h ⟨Z,Z,G⟩ (Cr h (aj h (qS 0 h Z) ve (by rfl)))
 refine X1 5 0 h Z ?_;obtain⟨⟨O,P⟩,u,F⟩:=qc F;refine bB (O,P) h (cB 216 Z) (ze (h.old a) ⟨_,_,Z,(h.oldS Q)⟩ u) Z Z Z Z λ_ _ _ y v=>?_;obtain⟨_,_,A,S,_,rfl,z,x⟩:=y.consL v;obtain⟨rfl,h⟩:=z.lastI x;refine X0 5 Z ?_;cases qe F;exact aC qa (ρ:=((List Int)×Int)) [oV (List Int) [oL A O S],oV Int [vi P]] h ⟨Z,Z,G⟩ (Cr h (aj h (qS 0 h Z) ve (by rfl)))
def cq(n:Nat)(b:qf)(c:qH)(l:List Int)(k:List ql):Option (qu×Int):=(sw n b c l k).bind λ(g,d)=>bif (d != 0) then V ((⟨[],[],[]⟩:qu),d) else(kj n b).bind λf=>(pe n f l).bind λh=>(yK n b c f h k g).bind λ(a,i)=>bif (!i) then V ((⟨[],[],[]⟩:qu),3) else V ((⟨a.Au,a.Af,a.Ba⟩:qu),0)
theorem zR{b:qf}{c:qH}{a4:List Int}{a3:List ql}(a:Ro w b cs1)(f:Ro w c cs2)(Q:Ro w a4 cs3)(R:Ro w a3 cs4){r:qu×Int}(F:cq n b c a4 a3=V r):qN prog 105 [gv b cs1,gv c cs2,gv a4 cs3,gv a3 cs4] w r:=by
 obtain⟨_,_,_,_,_,_,_,_,_,_,rfl,_,_,_,_,_⟩:=qZ a;obtain rfl:=dL f;obtain⟨_,_,rfl,s6⟩:=Q;obtain⟨_,_,rfl,P⟩:=R;refine zV 45 func105 Z λh=>db (qK h Z Z λ_ _ h=>qK h Z Z λ_ _ h=>qi qa h Z Z Z λ_ A h=>X2 8 2 1 h Z ?_);obtain⟨⟨r2,r3⟩,S,F⟩:=qc F;refine bB (r2,r3) h (cB 165 Z) (NP (h.old a) (h.old f) ⟨_,_,Z,(h.oldS s6)⟩ ⟨_,_,Z,(h.oldS P)⟩ S) Z Z Z Z λ_ _ _ X T=>?_;obtain⟨_,_,_,_,_,rfl,Y,W⟩:=X.consL T;obtain⟨rfl,h⟩:=Y.lastI W;refine X0 12 Z (qn Z F ?_ ?_)<;>intro F
 .refine db (dF (qB qa [] [] z8) Z (cr Z (zs 1 h Z λ_ h=>X0 2 Z ?_)));cases qe F;exact aC qa (ρ:=(qu×Int)) [oV qu WG,oV Int [vi r3]] h ⟨⟨_,_,_,Z,Z,h.box 1 Z,Z⟩,Z,G⟩ (Cr h (aj h (oN (⟨[],[],[]⟩:qu) h kP kP kP (by rfl) (by rfl)) ve (by rfl)))
 refine X1 4 3 h Z (uY h F (lQ (h.old a)) Z λ_ _ _ _ _ h F=>X0 3 Z ?_);obtain⟨r5,K,F⟩:=qc F;obtain⟨⟨d,O⟩,v,F⟩:=qc F;refine bw (λe w'=>∃u x l g y m i z o k,e=[(8,vp A),(13,vp u),(14,.bool O)]/\SH w w' [oX u (eJ d o m l k i g) 51,oW x (d.Ba:List qg) [oL l d.Ba g],oW y (d.Af:List qg) [oL m d.Af i],oW z (d.Au:List Bool) [oL o d.Au k],oX A WG 51]) ?_ ?_
 .refine rA [] [3,4] h Z λ_ h=>M2 223 [0,1,2,3,4,6,7] 1 0 (h.p [3,4] Z) Z (At 5 12 255 4319 Z ?_ ?_)
  .refine uH r5 h (cB 107 Z) (pn (h.own 0 Z) ⟨_,_,Z,(h.oldS s6)⟩ K) Z Z Z Z λ_ _ _ _ h=>Ag (h.p [4,5] Z) (At 8 12 511 4351 Z ?_ ?_)
   .refine bB (d,O) h (cB 166 Z) (xU (h.old a) (h.old f) (h.own 1 Z) (h.own 0 Z) ⟨_,_,Z,(h.oldS P)⟩ (h.own 2 Z) v) Z Z Z Z λ_ _ _ L B=>?_;obtain⟨_,_,_,_,rfl,p,C⟩:=L.cons B;obtain⟨_,_,_,_,_,_,rfl,-,-,-⟩:=gD (p.sh.own 0 Z);obtain⟨rfl,h⟩:=p.lastB C;obtain⟨_,_,_,h⟩:=pA h;refine G0 4095 [9,10,11] (h.p [7,8] Z) Z (Ao 12 8191 Z (qi qa h Z Z Z λ_ _ h=>Ag (h.p [8,9] Z) (Ao 13 16383 Z (zs 0 h Z λ_ h=>G0 32767 [14] (h.p [8,9] Z) Z (Ad ?_)))));exact rG ⟨_,_,_,_,_,_,_,_,_,_,Z,h.p [0,1,2,3,7] Z⟩ Z
   refine qi qa h Z Z Z λ_ _ h=>Ag (h.p [5,6] Z) (Ao 8 4607 Z (bB (d,O) h (cB 166 Z) (xU (h.old a) (h.old f) (h.own 2 Z) (h.own 1 Z) ⟨_,_,Z,(h.oldS P)⟩ (h.own 3 Z) v) Z Z Z Z λ_ _ _ M D=>?_));obtain⟨_,_,_,_,rfl,s,H⟩:=M.cons D;obtain⟨_,_,_,_,_,_,rfl,-,-,-⟩:=gD (s.sh.own 0 Z);obtain⟨rfl,h⟩:=s.lastB H;obtain⟨_,_,_,h⟩:=pA h;refine G0 8191 [9,10,11] (h.p [8,9] Z) Z (Ao 13 16383 Z (zs 3 h Z λ_ h=>G0 32767 [14] (h.p [8,9] Z) Z (Ad ?_)));exact rG ⟨_,_,_,_,_,_,_,_,_,_,Z,h.p [3,0,1,2,7] Z⟩ Z
  refine qi qa h Z Z Z λ_ _ h=>Ag (h.p [4,5] Z) (Ao 5 4351 Z (uH r5 h (cB 107 Z) (pn (h.own 1 Z) ⟨_,_,Z,(h.oldS s6)⟩ K) Z Z Z Z λ_ _ _ _ h=>Ag (h.p [5,6] Z) (Ao 8 4607 Z (bB (d,O) h (cB 166 Z) (xU (h.old a) (h.old f) (h.own 2 Z) (h.own 0 Z) ⟨_,_,Z,(h.oldS P)⟩ (h.own 3 Z) v) Z Z Z Z λ_ _ _ N I=>?_))));obtain⟨_,_,_,_,rfl,t,J⟩:=N.cons I;obtain⟨_,_,_,_,_,_,rfl,-,-,-⟩:=gD (t.sh.own 0 Z);obtain⟨rfl,h⟩:=t.lastB J;obtain⟨_,_,_,h⟩:=pA h;refine G0 8191 [9,10,11] (h.p [8,9] Z) Z (Ao 13 16383 Z (zs 4 h Z λ_ h=>G0 32767 [14] (h.p [8,9] Z) Z (Ad ?_)));exact rG ⟨_,_,_,_,_,_,_,_,_,_,Z,h.p [4,0,1,2,7] Z⟩ Z
 rintro _ _ ⟨u,x,l,g,y,m,i,z,o,k,rfl,h⟩;refine X0 6 Z (qn Z F ?_ ?_)<;>intro F
 .refine db (dF (qB qa [] [] z8) Z (zs 4 h Z λ_ h=>X0 2 Z ?_));cases qe F;exact aC qa (ρ:=(qu×Int)) [oV qu WG,oV Int [vi 3]] h ⟨⟨_,_,_,Z,Z,h.box 4 Z,Z⟩,Z,G⟩ (Cr h (aj h (oN (⟨[],[],[]⟩:qu) h kP kP kP (by rfl) (by rfl)) ve (by rfl)))
 refine X1 4 0 h Z (zs 4 h Z λ_ h=>X0 2 Z ?_);cases qe F;exact aC qa (ρ:=(qu×Int)) [oV qu (eJ d o m l k i g),oV Int [vi 0]] h ⟨⟨_,_,_,Z,Z,h.box 4 Z,Z⟩,Z,G⟩ (Cr h (aj h (oN d h (qS 3 h Z) (qS 2 h Z) (qS 1 h Z) (by rfl) (by rfl)) ve (by rfl)))
def wa(n:Nat)(j:aZ):Option ((Option aS)×Int):=(oe n (⟨(⟨j.Ac.Aq.As⟩:qD),(⟨j.Ac.Aa.Ab,j.Ac.Aa.Ap,j.Ac.Aa.Ai⟩:qk),j.Ac.Ah⟩:qf) (⟨j.Aj.Bi,j.Aj.Bb,j.Aj.Be,j.Aj.Az,j.Aj.Bd⟩:qH) j.Ay j.Am U).bind λ(a,b,c)=>bif (c != 0) then V (U,c) else(mZ n a (⟨j.Aj.Bi,j.Aj.Bb,j.Aj.Be,j.Aj.Az,j.Aj.Bd⟩:qH) j.Am b).bind λ(d,f)=>bif (!f) then V (U,3) else V ((V (⟨a,(⟨(⟨(⟨j.Ac.Aq.As⟩:qD),(⟨j.Ac.Aa.Ab,j.Ac.Aa.Ap,j.Ac.Aa.Ai⟩:qk),j.Ac.Ah⟩:qf),(⟨j.Aj.Bi,j.Aj.Bb,j.Aj.Be,j.Aj.Az,j.Aj.Bd⟩:qH),j.Ay,j.Am⟩:aZ),d,b⟩:aS)),0)
theorem PE{A}(hA:∀b,A b->old w b){j:aZ}(g:qm.R w A j cs1){r:(Option aS)×Int}(F:wa n j=V r):yP prog 48 [gv j cs1] w A r:=by
 obtain⟨p1,R,z,y,u,k3,v,o,J,D,K,H,L,I,rfl,s1,s2,s3,s4,s5,s6,s7⟩:=cF g;have hg:=Rg.start hA;refine gc func48 Z (m:=43) Z Z (λh=>?_);refine db (qK h Z Z λ_ _ h=>X4 13 0 0 0 0 h Z ?_);obtain⟨⟨M,f,N⟩,S,F⟩:=qc F;refine pO (M,f,N) hg h (cB 35 Z) (FT (hg.regOld h) (tK _ (hg.inS h s1) (hg.inS h s2) (hg.inS h s3) (hg.inS h s4) (hg.inS h s5)) (nk _) ⟨_,_,Z,(hg.inS h s6)⟩ ⟨_,_,Z,(hg.inS h s7)⟩ Z S) Z Z Z Z λ_ _ _ a c b5 a4=>?_;have hL1:=h.ext c.below;have i:=Up.box 0 h c Z;have s8:=Up.S hg h c s1;have s9:=Up.S hg h c s2;have s10:=Up.S hg h c s3;have s11:=Up.S hg h c s4;have s12:=Up.S hg h c s5;have s13:=Up.S hg h c s6;have O:=Up.S hg h c s7;have s15:=Up.R hg h c g;have ha2:=Up.boxP (x:=j) hg 0 h c Z (hg.inR h g);have hb1:=h.below.trans (c.below.mono h.below.size);have h:=b5;obtain⟨_,_,rfl,T,a5⟩:=dP a4;obtain⟨p8,rfl,P⟩:=aJ T;obtain⟨_,_,rfl,W,a6⟩:=dP a5;obtain⟨p9,k8,rfl,Q⟩:=W;obtain⟨_,rfl,X⟩:=kQ a6;obtain rfl:=X;refine X0 14 Z (qn Z F ?_ ?_)<;>intro F
 .refine X0 6 Z ?_;obtain rfl:=qe F;have a7:gk.Rs (ρ:=((Option aS)×Int)) h.wc (vJ A w h.wc) (U,N) [oV (Option aS) [.pointer U],oV Int [vi N]]:=⟨_,_,Z,Z,⟨_,Z,Z⟩⟩;exact gn qa (ρ:=((Option aS)×Int)) (r:=(U,N)) [oV (Option aS) [.pointer U],oV Int [vi N]] (h.unbase a.below (show HN [] from trivial)) ⟨Z,Z,G⟩ a7
 refine X0 5 Z (bL 5 i h Z (cr Z (bL 11 i h Z (cr Z ?_))));obtain⟨⟨d,r7⟩,Y,F⟩:=qc F;refine bB (d,r7) h (cB 36 Z) (zy (h.old (qm.mono P a.old)) (nk _) ⟨_,_,Z,(h.oldS (O.mono a.old))⟩ ⟨_,_,Z,(h.oldS (Q.mono a.old))⟩ Y) Z Z Z Z λ_ _ _ a8 e=>?_;obtain⟨_,_,_,_,rfl,C,a3⟩:=a8.cons e;obtain⟨p,k9,s,k,t,l,rfl,-,-,-⟩:=gD (C.sh.own 0 Z);obtain⟨rfl,h⟩:=C.lastB a3;refine CK Z (qi qa h Z Z Z λ_ _ h=>zs 0 h Z λ_ h=>X0 8 Z (qn Z F ?_ ?_))<;>intro F
 .refine X0 5 Z ?_;obtain rfl:=qe F;have a9:gk.Rs (ρ:=((Option aS)×Int)) h.wc (vJ A w h.wc) (U,3) [oV (Option aS) [.pointer U],oV Int [vi 3]]:=⟨_,_,Z,Z,⟨_,Z,Z⟩⟩;exact gn qa (ρ:=((Option aS)×Int)) (r:=(U,3)) [oV (Option aS) [.pointer U],oV Int [vi 3]] (h.unbase a.below ⟨λ_ h=>h,⟨λ_ h=>h,G⟩⟩) ⟨Z,Z,G⟩ a9
 refine X0 4 Z (bL 0 i h Z (X1 2 0 h Z (dF (qB qa [0,1,2,3] [.tmp 37,.tmp 38,.tmp 39,.tmp 40] z8) Z (qK h Z Z λ_ B h=>X0 3 Z ?_))));obtain rfl:=qe F;have b4:gk.Rs (ρ:=((Option aS)×Int)) h.wc (vJ A w h.wc) ((V (⟨M,(⟨j.Ac,j.Aj,j.Ay,j.Am⟩:aZ),d,f⟩:aS)),0) [oV (Option aS) [vp B],oV Int [vi 0]]:=⟨_,_,Z,(a.outR h (Rg.boxR (x:=(⟨M,(⟨j.Ac,j.Aj,j.Ay,j.Am⟩:aZ),d,f⟩:aS)) 0 h Z (show qm.R _ _ ((⟨M,(⟨j.Ac,j.Aj,j.Ay,j.Am⟩:aZ),d,f⟩:aS):aS) _ from⟨[.pointer p8],[oL p1 j.Ac.Aq.As R,oL z j.Ac.Aa.Ab y,oL u j.Ac.Aa.Ap k3,oL v j.Ac.Aa.Ai o,oL J j.Ac.Ah D,.string j.Aj.Bi,vi j.Aj.Bb,vi j.Aj.Be,vi j.Aj.Az,vi j.Aj.Bd,oL K j.Ay H,oL L j.Am I,oL p d.Au k9,oL s d.Af k,oL t d.Ba l,oL p9 f k8],Z,(a.inR h P),⟨[oL p1 j.Ac.Aq.As R,oL z j.Ac.Aa.Ab y,oL u j.Ac.Aa.Ap k3,oL v j.Ac.Aa.Ai o,oL J j.Ac.Ah D,.string j.Aj.Bi,vi j.Aj.Bb,vi j.Aj.Be,vi j.Aj.Az,vi j.Aj.Bd,oL K j.Ay H,oL L j.Am I],[oL p d.Au k9,oL s d.Af k,oL t d.Ba l,oL p9 f k8],Z,⟨[oL p1 j.Ac.Aq.As R,oL z j.Ac.Aa.Ab y,oL u j.Ac.Aa.Ap k3,oL v j.Ac.Aa.Ai o,oL J j.Ac.Ah D],[.string j.Aj.Bi,vi j.Aj.Bb,vi j.Aj.Be,vi j.Aj.Az,vi j.Aj.Bd,oL K j.Ay H,oL L j.Am I],Z,⟨[oL p1 j.Ac.Aq.As R],[oL z j.Ac.Aa.Ab y,oL u j.Ac.Aa.Ap k3,oL v j.Ac.Aa.Ai o,oL J j.Ac.Ah D],Z,⟨_,_,Z,(a.inS h s8)⟩,⟨[oL z j.Ac.Aa.Ab y,oL u j.Ac.Aa.Ap k3,oL v j.Ac.Aa.Ai o],[oL J j.Ac.Ah D],Z,⟨[oL z j.Ac.Aa.Ab y],[oL u j.Ac.Aa.Ap k3,oL v j.Ac.Aa.Ai o],Z,⟨_,_,Z,(a.inS h s9)⟩,⟨[oL u j.Ac.Aa.Ap k3],[oL v j.Ac.Aa.Ai o],Z,⟨_,_,Z,(a.inS h s10)⟩,⟨_,_,Z,(a.inS h s11)⟩⟩⟩,⟨_,_,Z,(a.inS h s12)⟩⟩⟩,⟨[.string j.Aj.Bi,vi j.Aj.Bb,vi j.Aj.Be,vi j.Aj.Az,vi j.Aj.Bd],[oL K j.Ay H,oL L j.Am I],Z,⟨[.string j.Aj.Bi],[vi j.Aj.Bb,vi j.Aj.Be,vi j.Aj.Az,vi j.Aj.Bd],Z,Z,⟨[vi j.Aj.Bb],[vi j.Aj.Be,vi j.Aj.Az,vi j.Aj.Bd],Z,Z,⟨[vi j.Aj.Be],[vi j.Aj.Az,vi j.Aj.Bd],Z,Z,⟨[vi j.Aj.Az],[vi j.Aj.Bd],Z,Z,Z⟩⟩⟩⟩,⟨[oL K j.Ay H],[oL L j.Am I],Z,⟨_,_,Z,(a.inS h s13)⟩,⟨_,_,Z,(a.inS h O)⟩⟩⟩⟩,⟨[oL p d.Au k9,oL s d.Af k,oL t d.Ba l],[oL p9 f k8],Z,(Rg.ownR 2 h Z),⟨_,_,Z,(a.inS h Q)⟩⟩⟩⟩))),⟨_,Z,Z⟩⟩;exact gn qa (ρ:=((Option aS)×Int)) (r:=((V (⟨M,(⟨j.Ac,j.Aj,j.Ay,j.Am⟩:aZ),d,f⟩:aS)),0)) [oV (Option aS) [vp B],oV Int [vi 0]] (h.unbase a.below ⟨λ_ h=>h,⟨λ_ h=>h,⟨λ_ h=>h,G⟩⟩⟩) ⟨Z,Z,G⟩ b4
def yq(_:Nat)(mode:Int):Option Bool:=bif (mode==0) then V An else V (mode==1)
theorem PD{mode}  {r:Bool}(F:yq n mode=V r):qN prog 51 [vi mode] w r:=by
 refine zV 9 func51 Z λh=>X0 9 Z (qh (t:=5) F Z ?_ ?_)<;>intro F
 .exact X0 5 Z (rb h F Z)
 exact X0 7 Z (rb h F Z)
def cL(n:Nat)(j:aZ)(mode:Int)(nodes:List Int):Option ((Option aS)×Int):=(wa n j).bind λ(a,b)=>bif (b != 0) then V (U,b) else(a).bind λg=>(g.graph).bind λh=>(fc n h.view).bind λc=>(eS n nodes 0 (qj (c-1))).bind λd=>bif (!d) then V (U,4) else(yq n mode).bind λf=>bif (!f) then V (U,2) else V (a,0)
theorem tw{A}(T:∀b,A b->old w b){j:aZ}{mode}{nodes:List Int}(d:qm.R w A j cs1)(k:qm.R w A nodes cs2){r:(Option aS)×Int}(F:cL n j mode nodes=V r):yP prog 22 [gv j cs1,vi mode,gv nodes cs2] w A r:=by
 obtain⟨_,_,_,_,_,_,_,_,_,_,_,_,_,_,rfl,_,_,_,_,_,_,_⟩:=cF d;obtain⟨_,_,rfl,Q⟩:=k;have S:=Rg.start T;refine gc func22 Z (m:=37) Z Z (λh=>?_);refine db (qK h Z Z λ_ _ h=>X1 6 0 h Z ?_);obtain⟨⟨K,g⟩,p,F⟩:=qc F;refine pO (K,g) S h (cB 48 Z) (PE (S.regOld h) (S.inR h d) p) Z Z Z Z λ_ _ _ a c J x=>?_;have N:=h.ext c.below;have R:=Up.S S h c Q;have O:=h.below.trans (c.below.mono h.below.size);have h:=J;obtain⟨_,_,rfl,s,y⟩:=dP x;obtain⟨_,rfl,i⟩:=aJ s;obtain⟨_,rfl,t⟩:=kQ y;obtain rfl:=t;refine X0 14 Z (qn Z F ?_ ?_)<;>intro F
 .refine X0 6 Z ?_;obtain rfl:=qe F;have z:gk.Rs (ρ:=((Option aS)×Int)) h.wc (vJ A w h.wc) (U,g) [oV (Option aS) [.pointer U],oV Int [vi g]]:=⟨_,_,Z,Z,⟨_,Z,Z⟩⟩;exact gn qa (ρ:=((Option aS)×Int)) (r:=(U,g)) [oV (Option aS) [.pointer U],oV Int [vi g]] (h.unbase a.below (show HN [] from trivial)) ⟨Z,Z,G⟩ z
 refine X0 4 Z ?_;obtain⟨_,H,F⟩:=qc F;obtain⟨b1,f,_,rfl,-,u,l⟩:=Cs i H;obtain⟨_,_,_,_,_,_,_,_,_,_,_,_,_,_,_,_,_,_,_,_,_,_,_,rfl,L,_,_,_,_,_,_,_,_,_,_,_⟩:=oM u;refine mr Z (bL 0 l h Z ?_);obtain⟨_,I,F⟩:=qc F;obtain⟨_,P,_,rfl,-,v,o⟩:=Cs L I;obtain⟨_,_,_,rfl,M,_⟩:=eY v;refine mr Z (bL 0 o h Z (mR h F (iE (h.old (qm.mono M a.old))) Z λ_ _ h F=>cr Z (dI h F (fG ⟨_,_,Z,(h.oldS (R.mono a.old))⟩) Z λ_ _ h F=>X0 3 Z (qn Z F ?_ ?_))))<;>intro F
 .refine X0 5 Z ?_;obtain rfl:=qe F;have B:gk.Rs (ρ:=((Option aS)×Int)) h.wc (vJ A w h.wc) (U,4) [oV (Option aS) [.pointer U],oV Int [vi 4]]:=⟨_,_,Z,Z,⟨_,Z,Z⟩⟩;exact gn qa (ρ:=((Option aS)×Int)) (r:=(U,4)) [oV (Option aS) [.pointer U],oV Int [vi 4]] (h.unbase a.below (show HN [] from trivial)) ⟨Z,Z,G⟩ B
 refine X0 3 Z (dI h F PD Z λ_ _ h F=>X0 3 Z (qn Z F ?_ ?_))<;>intro F
 .refine X0 5 Z ?_;obtain rfl:=qe F;have C:gk.Rs (ρ:=((Option aS)×Int)) h.wc (vJ A w h.wc) (U,2) [oV (Option aS) [.pointer U],oV Int [vi 2]]:=⟨_,_,Z,Z,⟨_,Z,Z⟩⟩;exact gn qa (ρ:=((Option aS)×Int)) (r:=(U,2)) [oV (Option aS) [.pointer U],oV Int [vi 2]] (h.unbase a.below (show HN [] from trivial)) ⟨Z,Z,G⟩ C
 refine X0 8 Z ?_;obtain rfl:=qe F;have D:gk.Rs (ρ:=((Option aS)×Int)) h.wc (vJ A w h.wc) (K,0) [oV (Option aS) [.pointer (V ⟨b1,f,U⟩)],oV Int [vi 0]]:=⟨_,_,Z,(a.outR h (a.inR h i)),⟨_,Z,Z⟩⟩;exact gn qa (ρ:=((Option aS)×Int)) (r:=(K,0)) [oV (Option aS) [.pointer (V ⟨b1,f,U⟩)],oV Int [vi 0]] (h.unbase a.below (show HN [] from trivial)) ⟨Z,Z,G⟩ D
end Go.Fw


namespace Go.Fw
open Go
set_option maxRecDepth 100000
theorem UK{n m:Nat}{a b mode:Int}:mY n a b mode=gf m a b mode:=by
 unfold mY gf;cases T9 a b with
 |none=>rfl
 |some y1=>
  cases HD a b with
  |none=>rfl
  |some y2=>
   simp only[jd];generalize decide (y2<0)=p;generalize decide (y2 > 0)=q;generalize (mode==0)=m0;generalize (mode==1)=m1;cases p<;>cases q<;>cases m0<;>cases m1<;>rfl
theorem qbc{a b:Int}(f:0<b):-(if a<0 then -a else a)<=a.tdiv b/\a.tdiv b<=(if a<0 then -a else a):=by
 by_cases h:a<0
 .rw[if_pos h];have e:a.tdiv b=-((-a).tdiv b):=by rw[Int.neg_tdiv,Int.neg_neg]
  rw[e,jO (show 0<=-a by omega)];have c:=Int.ediv_nonneg (show 0<=-a by omega) (show 0<=b by omega);have d:=Int.ediv_le_self (a:=-a) b (by omega);omega
 .rw[if_neg h,jO (by omega)];have c:=Int.ediv_nonneg (show 0<=a by omega) (show 0<=b by omega);have d:=Int.ediv_le_self (a:=a) b (by omega);omega
theorem xF{n:Nat}{a b mode:Int}(d:0<b)(g:-9000000000000000000<=a)(h:a<=9000000000000000000):gf n a b mode=V (iz a b mode):=by
 have c:=qbc (a:=a) d;have i:-9000000000000000000<=a.tdiv b/\a.tdiv b<=9000000000000000000:=by
  revert c;split<;>intro c<;>omega
 unfold gf T9 HD iz;rw[if_neg (by omega),if_neg (by omega)];have f:IntKind.i64.wrap (a.tdiv b)=a.tdiv b:=qX (by omega) (by omega);simp only[f,jd];rw[wO (a.tdiv b-1),wO (a.tdiv b+1)];generalize decide (a.tmod b<0)=p;generalize decide (a.tmod b > 0)=q;generalize (mode==0)=m0;generalize (mode==1)=m1;cases p<;>cases q<;>cases m0<;>cases m1<;>rfl
theorem uh{a b mode M:Int}(d:0<b)(c:0<=a)(h:a<=b*M):0<=iz a b mode/\iz a b mode<=M:=by
 rw[wP c d];have e:=Int.emod_add_mul_ediv a b;have k:=Int.emod_nonneg a (show b≠0 by omega);have g:=Int.ediv_nonneg c (show 0<=b by omega);have i:a / b<=M:=Int.ediv_le_of_le_mul d (by rw[Int.mul_comm];exact h);split
 .rename_i hc
  refine⟨by omega,?_⟩;have:a / b<M:=by
   refine Int.lt_of_not_ge λl=>?_;have f:a / b=M:=by omega
   rw[f] at e;omega
  omega
 .exact⟨g,i⟩
structure N9(ax:List Int):Prop where
 lo:1<=ax.length
 hi:ax.length<=4
 at_:∀j,j<ax.length->0<=bm ax j/\bm ax j<=100000
 inc:∀j i,i<j->j<ax.length->bm ax i<bm ax j
theorem WT{b:List Int}(h:ug b=An):N9 b:=by
 unfold ug zF KZ at h;simp only[je,decide_eq_true_eq] at h;obtain⟨⟨m,n⟩,k,l⟩:=h;rw[pX (d:=0),aA] at k;rw[aA] at l;refine⟨m,n,λj f=>by have:=k j f;rw[cu] at this;exact this,λj=>?_⟩
 induction j with
 |zero=>intro i hi _;omega
 |succ j ih=>
  intro i hi f;have a:=l (j+1) f;unfold yN at a;simp only[Bool.or_eq_true,decide_eq_true_eq,Nat.add_sub_cancel] at a;have g:bm b j<bm b (j+1):=by
   rcases a with a|a
   .omega
   .exact a
  by_cases c:i=j
  .rw[c];exact g
  .have:=ih i (by omega) (by omega);omega
theorem qel{P:Nat->Prop}:∀m,P m->∃p,p<=m/\P p/\∀k,k<p->¬ P k:=by
 intro m
 induction m using Nat.strongRecOn with
 |ind m ih=>
  intro f;by_cases h:∃k,k<m/\P k
  .obtain⟨k,a,b⟩:=h;obtain⟨p,g,c,d⟩:=ih k a b;exact⟨p,by omega,c,d⟩
  .exact⟨m,jf _,f,λk a b=>h ⟨k,a,b⟩⟩
structure Wt(ax:List Int)(i:Nat)(a b:Int):Prop where
 il:i<ax.length
 a0:0<a
 a1:a<=100000
 b0:0<=b
 b1:b<=100000
 nx:0<b->i+1<ax.length
 one:b=0->a=1
def V3(i:Nat)(a b:Int):List cH:=if b=0 then[⟨(i:Int),1⟩] else[⟨(i:Int),a⟩,⟨((i+1:Nat):Int),b⟩]
def KO(a:List Int)(x:Int):Int:=if bm a (a.length-1)<(if bm a 0 > x then bm a 0 else x) then bm a (a.length-1) else(if bm a 0 > x then bm a 0 else x)
theorem qbT{m:Nat}(h:m<=8):qcz .u64 (IntKind.wrap .u64 (qj (m:Int))) 1=V ((m / 2:Nat):Int):=by
 rcases (by omega:m=0\/m=1\/m=2\/m=3\/m=4\/m=5\/m=6\/m=7\/m=8) with e|e|e|e|e|e|e|e|e<;>rw[e]<;>rfl
theorem U4{a:List Int}(h:N9 a){c:Int}{p:Nat}(s:p<a.length)(z:c<=bm a p)(t:∀k,k<p->bm a k<c) :
  Ev (λn=>iq n a c) ((p:Int),(bm a p==c)):=by
 have y:=h.hi;have b:∀d i j,j-i<=d->i<=p->p<=j->j<=a.length->Ev (λn=>bE a c n (i:Int) (j:Int)) ((p:Int),(p:Int)):=by
  intro d
  induction d with
  |zero=>
   intro i j u hi m o;refine Cm ?_;simp only[bE,qr (show j<=i by omega),Cj];rw[show i=p by omega,show j=p by omega];exact .done
  |succ d ih=>
   intro i j u hi m o;refine Cm ?_;by_cases g:i<j
   .have r:(i+j) / 2<a.length:=by omega
    simp only[bE,qp g,Ci,<-Int.natCast_add,qbT (show i+j<=8 by omega),jd,qX (x:=(((i+j) / 2:Nat):Int)) (by omega) (by omega),aM r,xD,tj,bne_self_eq_false,Cj,ti (show(i+j) / 2<9223372036854775807 by omega)];by_cases f:bm a ((i+j) / 2)<c
    .refine Cq (by simpa using f) (ih _ _ (by omega) ?_ m o);refine Nat.lt_of_not_le λl=>?_;by_cases v:p=(i+j) / 2
     .rw[<-v] at f;omega
     .have:=h.inc ((i+j) / 2) p (by omega) r;omega
    .refine Cp (by simpa using f) (ih _ _ (by omega) hi ?_ (by omega));refine Nat.le_of_not_lt λl=>f (t _ l)
   .simp only[bE,qr (show j<=i by omega),Cj];rw[show i=p by omega,show j=p by omega];exact .done
 unfold iq;refine Ck (b a.length 0 a.length (by omega) (by omega) (by omega) (jf _)) ?_;simp only[qp s,Ci,aM s,jd,oU,bne_self_eq_false,Cj];cases bm a p==c<;>exact .done
def qeL(d:List Int)(i:Nat)(a b c:Int):Prop:=(b=0/\bm d i=c)\/(0<b/\a=bm d (i+1)-c/\b=c-bm d i)
theorem xZ{f:List Int}(h:N9 f)(x:Int):∃i a b,Wt f i a b/\qeL f i a b (KO f x)/\Ev (λn=>ie n f x) ((i:Int),a,b)/\Ev (λn=>nc n f x) (V3 i a b,a+b):=by
 have M:=h.lo;have I:=h.hi;have L:bm f 0<=bm f (f.length-1):=by
  by_cases D:f.length-1=0
  .rw[D];exact jL _
  .have:=h.inc (f.length-1) 0 (by omega) (by omega);omega
 obtain⟨c,v⟩:∃c,c=KO f x:=⟨_,Z⟩;have y:bm f 0<=c/\c<=bm f (f.length-1):=by
  rw[v];unfold KO;split<;>split at *<;>omega
 obtain⟨p,Q,s,z⟩:=qel (P:=λk=>c<=bm f k) (f.length-1) y.2;have o:p<f.length:=by omega
 have t:∀k,k<p->bm f k<c:=λk K=>by have:=z k K;omega
 have C:=U4 h o s t;have l:(if bm f (f.length-1)<(if bm f 0 > x then bm f 0 else x) then bm f (f.length-1) else(if bm f 0 > x then bm f 0 else x))=c:=v.symm;have g:qj ((f.length:Int)-1)=((f.length-1:Nat):Int):=by rw[nD (by omega)];omega
 have T:=h.at_ p o;have m:∀(R:Int×Int×Int),Ev (λn=>dR f x (bm f 0) (bm f (f.length-1)) n (p:Int)) (.ret R)->Ev (λn=>ie n f x) R:=by
  intro R F;have u:∀d j,j=p+d->j<f.length->Ev (λn=>dR f x (bm f 0) (bm f (f.length-1)) n (j:Int)) (.ret R):=by
   intro d
   induction d with
   |zero=>intro j J _;rw[show j=p by omega];exact F
   |succ d ih=>
    intro j J B;have H:=h.inc j p (by omega) B;refine Cm ?_;simp only[dR,show decide ((j:Int)>=0)=An from decide_eq_true (by omega),Ci,aM B,jd,l];refine Cp (beq_eq_false_iff_ne.2 (by omega)) (Cp (decide_eq_false (by omega)) ?_);rw[show(j:Int)-1=((j-1:Nat):Int) by omega,qX (by omega) (by omega)];exact ih (j-1) (by omega) (by omega)
  unfold ie;rw[show(0:Int)=((0:Nat):Int) from rfl,aM (show 0<f.length by omega),g,aM (show f.length-1<f.length by omega)];simp only[jd];exact Ck (u (f.length-1-p) (f.length-1) (by omega) (by omega)) .done
 by_cases r:bm f p=c
 .refine⟨p,1,0,⟨o,by omega,by omega,by omega,by omega,λh=>absurd h (by omega),λ_=>rfl⟩,v ▸ .inl ⟨Z,r⟩,m _ (Cm ?_),?_⟩
  .simp only[dR,show decide ((p:Int)>=0)=An from decide_eq_true (by omega),Ci,aM o,jd,l];exact Cq (beq_iff_eq.2 r.symm) .done
  .unfold nc;rw[show(0:Int)=((0:Nat):Int) from rfl,aM (show 0<f.length by omega),g,aM (show f.length-1<f.length by omega)];simp only[jd,l];exact Ck C (Cq (beq_iff_eq.2 r) (Cx Z))
 .have O:0<p:=by
   refine Nat.pos_of_ne_zero λe=>r ?_;rw[e] at s⊢;omega
  have N:=t (p-1) (by omega);have S:=h.at_ (p-1) (by omega);have A:((p:Int)-1)=((p-1:Nat):Int):=by omega
  refine⟨p-1,bm f p-c,c-bm f (p-1),⟨by omega,by omega,by omega,by omega,by omega,λ_=>by omega,λh=>absurd h (by omega)⟩,v ▸ .inr ⟨by omega,by rw[show p-1+1=p by omega],Z⟩,m _ (Cm ?_),?_⟩
  .simp only[dR,show decide ((p:Int)>=0)=An from decide_eq_true (by omega),Ci,aM o,jd,l];refine Cp (beq_eq_false_iff_ne.2 (by omega)) (Cp (decide_eq_false (by omega)) ?_);rw[A,qX (x:=((p-1:Nat):Int)) (by omega) (by omega)];refine Cm ?_;simp only[dR,show decide (((p-1:Nat):Int)>=0)=An from decide_eq_true (by omega),Ci,aM (show p-1<f.length by omega),jd,l];refine Cp (beq_eq_false_iff_ne.2 (by omega)) (Cq (decide_eq_true (by omega)) ?_);rw[ti (show p-1<9223372036854775807 by omega),show p-1+1=p by omega,aM o];simp only[jd];rw[wO (bm f p-c),wO (c-bm f (p-1))];exact .done
  .unfold nc;rw[show(0:Int)=((0:Nat):Int) from rfl,aM (show 0<f.length by omega),g,aM (show f.length-1<f.length by omega)];simp only[jd,l];refine Ck C (Cp (beq_eq_false_iff_ne.2 r) ?_);rw[aM o,A,qX (x:=((p-1:Nat):Int)) (by omega) (by omega),aM (show p-1<f.length by omega)];simp only[jd];rw[wO (bm f p-c),wO (c-bm f (p-1)),wO (bm f p-bm f (p-1))];refine Cx ?_;unfold V3;rw[if_neg (by omega),show p-1+1=p by omega]
   congr 2
   omega

structure FL(t:qU):Prop where
 s:N9 t.Bp
 l:N9 t.Bj
 n:t.Bg.length=t.Bp.length*t.Bj.length
 v:∀k,-1000000<=bm t.Bg k/\bm t.Bg k<=1000000
theorem H4{xs:List Int}{k:Nat}(h:¬ k<xs.length):bm xs k=0:=by simp[bm,jz,List.getElem?_eq_none (show xs.length<=k by omega)]
theorem V0{t:qU}(h:tM t=An):FL t:=by
 unfold tM at h;simp only[je,decide_eq_true_eq] at h;obtain⟨c,f,g,a⟩:=h;rw[pX (d:=0),aA] at a;refine⟨WT c,WT f,g,λk=>?_⟩;by_cases b:k<t.Bg.length
 .have:=a k b;rw[cu] at this;exact this
 .rw[H4 b];omega
def tv(t:qU)(i j:Nat):Int:=bm t.Bg (i*t.Bj.length+j)
theorem D9{x y Y:Int}(a:0<=x)(c:-Y<=y)(d:y<=Y):-(x*Y)<=x*y/\x*y<=x*Y:=by
 have f:=jU d a;have b:=jU c a;rw[Int.mul_neg] at b;exact⟨b,f⟩
theorem qb9{w q v:Int}(d:0<=w)(w1:w<=100000)(b:0<=q)(c:q<=100000)(h:-1000000<=v)(i:v<=1000000):(0<=w*q/\w*q<=10000000000)/\(-10000000000000000<=w*q*v/\w*q*v<=10000000000000000):=by
 have a:=jS d b;have f:w*q<=100000*100000:=Jf w1 c b (by omega);have g:=D9 (x:=w*q) (y:=v) (Y:=1000000) a (by omega) (by omega);refine⟨⟨a,by omega⟩,?_,?_⟩<;>omega
theorem qav{t:qU}{i j:Nat}(h:FL t)(hi:i<t.Bp.length)(f:j<t.Bj.length):i*t.Bj.length+j<t.Bg.length/\t.Bg.length<=16:=by
 have a:=h.s.hi;have b:=h.l.hi;have c:(i+1)*t.Bj.length<=t.Bp.length*t.Bj.length:=jt _ hi;have d:t.Bp.length*t.Bj.length<=4*4:=Nat.mul_le_mul a b;rw[h.n];rw[Nat.add_mul] at c;omega
theorem qc1{t:qU}(h:FL t){i j c k:Nat}{a1 b1 a2 b2 w q s:Int}(H:c<2)(I:k<2)(B:w=if c=1 then b1 else a1)(f:q=if k=0 then a2 else b2)
  (F:0<=w) (w1:w<=100000) (C:0<=q) (D:q<=100000) (hi:0<w->i+c<t.Bp.length) (z:0<q->j+k<t.Bj.length) (s0:-1000000000000000000<=s) (s1:s<=1000000000000000000) (n:Nat) :
  fR t (i:Int) a1 b1 (j:Int) a2 b2 (c:Int) (n+1) s (k:Int)=fR t (i:Int) a1 b1 (j:Int) a2 b2 (c:Int) n (s+w*q*tv t (i+c) (j+k)) ((k+1:Nat):Int):=by
 have l:=h.v ((i+c)*t.Bj.length+(j+k));obtain⟨⟨L,M⟩,N,O⟩:=qb9 F w1 C D l.1 l.2;have o:(bif ((c:Int)==1) then V b1 else V a1)=V w:=by
  rw[B];by_cases a:c=1
  .rw[if_pos a,a];rfl
  .rw[if_neg a,show((c:Int)==1)=Cd from beq_eq_false_iff_ne.2 (by omega)];rfl
 have p:(bif ((k:Int)==0) then V (qj (w*a2)) else V (qj (w*b2)))=V (w*q):=by
  have m:qj (w*q)=w*q:=qX (by omega) (by omega);by_cases a:k=0
  .rw[if_pos a] at f;rw[a,<-f,m];rfl
  .rw[if_neg a] at f;rw[show((k:Int)==0)=Cd from beq_eq_false_iff_ne.2 (by omega),<-f,m];rfl
 rw[fR];simp only[show decide ((k:Int)<2)=An from decide_eq_true (by omega),Ci,o,p,jd,wS k];by_cases d:w*q > 0
 .have b:0<w:=by
   by_cases e:w=0
   .rw[e,Int.zero_mul] at d;omega
   .omega
  have g:0<q:=by
   by_cases e:q=0
   .rw[e,Int.mul_zero] at d;omega
   .omega
  obtain⟨x1,P⟩:=qav h (hi b) (z g);have J:=h.l.hi;have K:=h.s.hi;have y:=hi b;have A:((i+c:Nat):Int)*(t.Bj.length:Int)=(((i+c)*t.Bj.length:Nat):Int):=(Int.natCast_mul _ _).symm;have u:qj (qj (qj (qj ((i:Int)+(c:Int))*(t.Bj.length:Int))+(j:Int))+(k:Int))=(((i+c)*t.Bj.length+(j+k):Nat):Int):=by
   rw[wO ((i:Int)+(c:Int)),<-Int.natCast_add,A,qX (x:=(((i+c)*t.Bj.length:Nat):Int)) (by omega) (by omega),<-Int.natCast_add,qX (x:=(((i+c)*t.Bj.length+j:Nat):Int)) (by omega) (by omega),<-Int.natCast_add,qX (by omega) (by omega),Nat.add_assoc]
  rw[show decide (w*q > 0)=An from decide_eq_true d,u,aM x1];simp only[Ci,jd];have r:qj (s+qj (w*q*bm t.Bg ((i+c)*t.Bj.length+(j+k))))=s+w*q*tv t (i+c) (j+k):=by
   unfold tv;rw[qX (x:=w*q*bm t.Bg ((i+c)*t.Bj.length+(j+k))) (by omega) (by omega),qX (by omega) (by omega)]
  rw[r]
 .have v:w*q=0:=by omega
  rw[show decide (w*q > 0)=Cd from decide_eq_false d,v,Int.zero_mul,Jk]
  rfl
def rowS(t:qU)(j:Nat)(a2 b2:Int)(i:Nat):Int:=a2*tv t i j+b2*tv t i (j+1)
theorem BI{t:qU}(h:FL t){i j:Nat}:-1000000<=tv t i j/\tv t i j<=1000000:=h.v _
theorem VH{t:qU}(h:FL t){i j:Nat}{a2 b2:Int}(a0:0<=a2)(b0:0<=b2):-((a2+b2)*1000000)<=rowS t j a2 b2 i/\rowS t j a2 b2 i<=(a2+b2)*1000000:=by
 have a:=D9 (x:=a2) (y:=tv t i j) (Y:=1000000) a0 (BI h).1 (BI h).2;have b:=D9 (x:=b2) (y:=tv t i (j+1)) (Y:=1000000) b0 (BI h).1 (BI h).2;unfold rowS;omega
theorem qex{t:qU}(h:FL t){i j c:Nat}{a1 b1 a2 b2 w s:Int}(d:c<2)(f:w=if c=1 then b1 else a1)(b:0<=w)(w1:w<=100000)(hi:0<w->i+c<t.Bp.length)(a:Wt t.Bj j a2 b2)
  (s0:-100000000000000000<=s) (s1:s<=100000000000000000):Ev (λn=>fR t (i:Int) a1 b1 (j:Int) a2 b2 (c:Int) n s 0) (s+w*rowS t j a2 b2 (i+c),2):=by
 have l:=a.a0;have g:=a.b0;have m:=(qb9 b w1 (show 0<=a2 by omega) a.a1 (BI h (i:=i+c) (j:=j)).1 (BI h).2).2;refine Ev.step (λn=>qc1 h d (k:=0) (w:=w) (q:=a2) (by omega) f Z b w1 (by omega) a.a1 hi (λ_=>a.il) (by omega) (by omega) n) ?_;refine Ev.step (λn=>qc1 h d (k:=1) (w:=w) (q:=b2) (by omega) f Z b w1 g a.b1 hi a.nx (by show _<=s+w*a2*tv t (i+c) (j+0);rw[Jp];omega) (by show s+w*a2*tv t (i+c) (j+0)<=_;rw[Jp];omega) n) ?_;refine Cm ?_;simp only[fR,show decide (((1+1:Nat):Int)<2)=Cd from rfl,Cj];refine Cx ?_;unfold rowS;rw[Int.mul_add,<-Jc,<-Jc,Int.add_assoc,Jp]
 rfl
theorem qar{t:qU}(h:FL t){a:List cH}{i j k:Nat}{w q s:Int}(m:k<a.length)(z:a.length<=2)(p:qG a (k:Int)=V ⟨(j:Int),q⟩)(c:0<=w)(w1:w<=100000)(r:0<=q)(u:q<=100000)
  (hi:i<t.Bp.length) (l:j<t.Bj.length) (s0:-1000000000000000000<=s) (s1:s<=1000000000000000000) (n:Nat) :
  cK t a ⟨(i:Int),w⟩ (n+1) s (k:Int)=cK t a ⟨(i:Int),w⟩ n (s+w*q*tv t i j) ((k+1:Nat):Int):=by
 have b:=BI h (i:=i) (j:=j);obtain⟨_,B,C⟩:=qb9 c w1 r u b.1 b.2;have D:=D9 (x:=w) (y:=tv t i j) (Y:=1000000) c b.1 b.2;obtain⟨x1,F⟩:=qav h hi l;have v:=h.l.hi;have A:=h.s.hi;have o:(i:Int)*(t.Bj.length:Int)=((i*t.Bj.length:Nat):Int):=(Int.natCast_mul _ _).symm;rw[cK];simp only[qp m,Ci,p,jd,wS k,o];rw[qX (x:=((i*t.Bj.length:Nat):Int)) (by omega) (by omega),<-Int.natCast_add,qX (x:=((i*t.Bj.length+j:Nat):Int)) (by omega) (by omega),aM x1];simp only[jd];have d:qj (s+qj (qj (bm t.Bg (i*t.Bj.length+j)*w)*q))=s+w*q*tv t i j:=by
  have f:bm t.Bg (i*t.Bj.length+j)*w=w*tv t i j:=Int.mul_comm _ _;have g:w*tv t i j*q=w*q*tv t i j:=by rw[Jc,Int.mul_comm (tv t i j) q,<-Jc]
  rw[f,wO (w*tv t i j),g,wO (w*q*tv t i j),qX (by omega) (by omega)]
 rw[d]
theorem qdr{t:qU}(h:FL t){i j:Nat}{a2 b2 w s:Int}(b:0<=w)(w1:w<=100000)(hi:i<t.Bp.length)(a:Wt t.Bj j a2 b2)
  (s0:-100000000000000000<=s) (s1:s<=100000000000000000):Ev (λn=>cK t (V3 j a2 b2) ⟨(i:Int),w⟩ n s 0) (s+w*rowS t j a2 b2 i,((V3 j a2 b2).length:Int)):=by
 have l:=a.a0;have g:=a.b0;have m:=(qb9 b w1 (show 0<=a2 by omega) a.a1 (BI h (i:=i) (j:=j)).1 (BI h).2).2;by_cases c:b2=0
 .have f:=a.one c;subst c f;have d:V3 j 1 0=[⟨(j:Int),1⟩]:=if_pos Z;rw[d];refine Ev.step (λn=>qar h (k:=0) (q:=1) (by simp) (by simp) Z b w1 (by omega) (by omega) hi a.il (by omega) (by omega) n) (Cm ?_);simp only[cK];refine Cp Z (Cx ?_);unfold rowS;rw[Int.mul_one,Int.one_mul,Int.zero_mul,Jk]
  rfl
 .have d:V3 j a2 b2=[⟨(j:Int),a2⟩,⟨((j+1:Nat):Int),b2⟩]:=if_neg c;rw[d];refine Ev.step (λn=>qar h (k:=0) (q:=a2) (by simp) (by simp) Z b w1 (by omega) a.a1 hi a.il (by omega) (by omega) n) ?_;refine Ev.step (λn=>qar h (k:=1) (j:=j+1) (q:=b2) (by simp) (by simp) Z b w1 g a.b1 hi (a.nx (by omega)) (by omega) (by omega) n) (Cm ?_);simp only[cK];refine Cp Z (Cx ?_);unfold rowS;rw[Int.mul_add,<-Jc,<-Jc,Int.add_assoc]
  rfl
def xW(t:qU)(i j:Nat)(a1 b1 a2 b2:Int):Int:=a1*rowS t j a2 b2 i+b1*rowS t j a2 b2 (i+1)
theorem qet{t:qU}(h:FL t){i j:Nat}{w a2 b2:Int}(f:0<=w)(w1:w<=100000)(a:Wt t.Bj j a2 b2):-20000000000000000<=w*rowS t j a2 b2 i/\w*rowS t j a2 b2 i<=20000000000000000:=by
 have l:=a.a0;have c:=a.b0;have b:=a.a1;have d:=a.b1;have g:=VH h (i:=i) (j:=j) (a2:=a2) (b2:=b2) (by omega) c;have k:=D9 (x:=w) (y:=rowS t j a2 b2 i) (Y:=200000000000) f (by omega) (by omega);omega
theorem UV{t:qU}(h:FL t){sl ld:Int}{i j:Nat}{a1 b1 a2 b2:Int}(W1:Wt t.Bp i a1 b1)(W2:Wt t.Bj j a2 b2)
  (p:Ev (λn=>ie n t.Bp sl) ((i:Int),a1,b1)/\Ev (λn=>nc n t.Bp sl) (V3 i a1 b1,a1+b1)) (C:Ev (λn=>ie n t.Bj ld) ((j:Int),a2,b2)/\Ev (λn=>nc n t.Bj ld) (V3 j a2 b2,a2+b2)) :
  0<(a1+b1)*(a2+b2)/\xW t i j a1 b1 a2 b2<=(a1+b1)*(a2+b2)*1000000/\-((a1+b1)*(a2+b2)*1000000)<=xW t i j a1 b1 a2 b2/\-9000000000000000000<=xW t i j a1 b1 a2 b2/\xW t i j a1 b1 a2 b2<=9000000000000000000/\((∀k,0<=bm t.Bg k)->0<=xW t i j a1 b1 a2 b2) /\
  ∀mode,Ev (λn=>gF n t sl ld mode) (iz (xW t i j a1 b1 a2 b2) ((a1+b1)*(a2+b2)) mode)/\Ev (λn=>gB n t sl ld mode) (iz (xW t i j a1 b1 a2 b2) ((a1+b1)*(a2+b2)) mode):=by
 obtain⟨p1,F⟩:=p;obtain⟨D,H⟩:=C;have A:=W1.a0;have a:=W1.b0;have B:=W2.a0;have b:=W2.b0;have d:=W1.a1;have f:=W1.b1;have I:=W2.a1;have J:=W2.b1;have r1:=qet h (i:=i) (w:=a1) (by omega) d W2;have L:=qet h (i:=i+1) (w:=b1) a f W2;have x1:=VH h (i:=i) (j:=j) (a2:=a2) (b2:=b2) (by omega) b;have v:=VH h (i:=i+1) (j:=j) (a2:=a2) (b2:=b2) (by omega) b;have M:=D9 (x:=a1) (y:=rowS t j a2 b2 i) (Y:=(a2+b2)*1000000) (by omega) x1.1 x1.2;have N:=D9 (x:=b1) (y:=rowS t j a2 b2 (i+1)) (Y:=(a2+b2)*1000000) a v.1 v.2;have K:a1*((a2+b2)*1000000)+b1*((a2+b2)*1000000)=(a1+b1)*(a2+b2)*1000000:=by rw[<-Int.add_mul,Jc]
 have D0:0<(a1+b1)*(a2+b2):=Int.mul_pos (by omega) (by omega);have D1:(a1+b1)*(a2+b2)<=200000*200000:=Jf (by omega) (by omega) (by omega) (by omega);refine⟨D0,by unfold xW;omega,by unfold xW;omega,by unfold xW;omega,by unfold xW;omega,λu=>?_,λmode=>⟨?_,?_⟩⟩
 .have s:∀i,0<=rowS t j a2 b2 i:=λi=>Int.add_nonneg (jS (by omega) (u _)) (jS b (u _));exact Int.add_nonneg (jS (by omega) (s _)) (jS a (s _))
 .have l:Ev (λn=>kT t (i:Int) a1 b1 (j:Int) a2 b2 n 0 0) (xW t i j a1 b1 a2 b2,2):=by
   refine Cm ?_;simp only[kT];refine Cq Z (Ck (qex h (c:=0) (w:=a1) (by omega) Z (by omega) d (λ_=>W1.il) W2 (by omega) (by omega)) ?_);refine Cm ?_;simp only[kT];refine Cq Z (Ck (qex h (c:=1) (w:=b1) (by omega) Z a f W1.nx W2 (by rw[Jp];omega) (by rw[Jp];omega)) ?_);refine Cm ?_;simp only[kT];refine Cp Z (Cx ?_);unfold xW;rw[Int.zero_add,Jp]
   rfl
  unfold gF;refine Ck p1 (Ck D (Ck l ?_));show Ev (λn=>(gf n (xW t i j a1 b1 a2 b2) (qj (qj (a1+b1)*qj (a2+b2))) mode).bind λr=>V r) _;rw[wO (a1+b1),wO (a2+b2),wO ((a1+b1)*(a2+b2))];exact Ck ⟨0,λn _=>xF D0 (by unfold xW;omega) (by unfold xW;omega)⟩ .done
 .have l:Ev (λn=>cJ t (V3 i a1 b1) (V3 j a2 b2) n 0 0) (xW t i j a1 b1 a2 b2,((V3 i a1 b1).length:Int)):=by
   by_cases g:b1=0
   .have z:=W1.one g;subst g z;have o:V3 i 1 0=[⟨(i:Int),1⟩]:=if_pos Z;rw[o];refine Cm ?_;simp only[cJ];refine Cq Z (Ck (Cx Z) (Ck (qdr h (i:=i) (w:=1) (by omega) (by omega) W1.il W2 (by omega) (by omega)) (Cm ?_)));simp only[cJ];refine Cp Z (Cx ?_);unfold xW;rw[Int.zero_add,Int.zero_mul,Jk]
    rfl
   .have o:V3 i a1 b1=[⟨(i:Int),a1⟩,⟨((i+1:Nat):Int),b1⟩]:=if_neg g;rw[o];refine Cm ?_;simp only[cJ];refine Cq Z (Ck (Cx Z) (Ck (qdr h (i:=i) (w:=a1) (by omega) d W1.il W2 (by omega) (by omega)) (Cm ?_)));simp only[cJ];refine Cq Z (Ck (Cx Z) (Ck (qdr h (i:=i+1) (w:=b1) a f (W1.nx (by omega)) W2 (by omega) (by omega)) (Cm ?_)));simp only[cJ];refine Cp Z (Cx ?_);unfold xW;rw[Int.zero_add]
    rfl
  unfold gB;refine Ck F (Ck H (Ck l ?_));show Ev (λn=>(mY n (xW t i j a1 b1 a2 b2) (qj ((a1+b1)*(a2+b2))) mode).bind λr=>V r) _;rw[wO ((a1+b1)*(a2+b2))];exact Ck ⟨0,λn _=>(UK (m:=0)).trans (xF D0 (by unfold xW;omega) (by unfold xW;omega))⟩ .done
theorem L3{t:qU}(h:FL t)(sl ld:Int):∃S D:Int,0<D/\S<=D*1000000/\-(D*1000000)<=S/\-9000000000000000000<=S/\S<=9000000000000000000/\((∀k,0<=bm t.Bg k)->0<=S) /\
  ∀mode,Ev (λn=>gF n t sl ld mode) (iz S D mode)/\Ev (λn=>gB n t sl ld mode) (iz S D mode):=by
 obtain⟨i,a1,b1,W1,_,p⟩:=xZ h.s sl;obtain⟨j,a2,b2,W2,_,a⟩:=xZ h.l ld;exact⟨_,_,UV h W1 W2 p a⟩

theorem Q3{b:qf}(h:aL b=An){j:Nat}(d:j<(places b.Aa).length){n:Nat}:yG n b.Aq b.Aa (ms (gt (places b.Aa) j))=V (OO b j):=by
 have c:=aO h;unfold OO VE;rcases yy d with⟨i,k,hi,hk,_,e⟩|⟨i,hi,_,e⟩
 .rw[e];obtain⟨⟨a,c1⟩,f,_⟩:=pu c hi;unfold zb bW ms;simp only[yG,show decide ((i:Int)<0)=Cd by simp,Cj,qz hi,jd,kJ a c1,jq,qz (show k<(gt b.Aq.As (gt b.Aa.Ab i).Bv.toNat).Bh.length by omega)]
 .rw[e];rfl
theorem MM{b:qf}(h:aL b=An){i:Nat}(hi:i<b.Ah.length):Ev (λn=>ta n b (i:Int)) (dK b i):=by
 have c:=cW h hi;have p:=ab (aO h);have x:=c.lo;have u:=c.hi;have d:=c.cap;have z:=se h (i:=i);have e1:Ev (λn=>iM b (gt b.Ah i) ((places b.Aa).map ms) (pU b i) n (gt b.Ah i).Bs 0) (QV b (gt b.Ah i) (pU b i) (pU b i).length,((pU b i).length:Int)):=by
  refine fq (Lf:=iM b (gt b.Ah i) ((places b.Aa).map ms) (pU b i)) (S:=QV b (gt b.Ah i) (pU b i)) (len:=(pU b i).length) (λn=>?_) (λj a X o=>?_)
  .simp only[iM,qr (jf _),Cj]
  .obtain⟨y,l,m,_⟩:=HH a;have f:j<(gt b.Ah i).Bl.length:=by rw[c.snk];exact a
   have k:=c.sin j f;have v:=ID (b:=b) (w:=gt b.Ah i) (sk:=pU b i) (j:=j);have g:qG ((places b.Aa).map ms) (y:Int)=V (ms (gt (places b.Aa) y)):=by
    refine ra ?_;rw[List.getElem?_map,jj l,fd l];rfl
   have s:=λn=>Q3 h l (n:=n);simp only[iM,qp a,Ci,aM a,m,jd,aM f,kJ k.1 (show bm (gt b.Ah i).Bl j<((QV b (gt b.Ah i) (pU b i) j).length:Int) by omega),g,s,wS j];have:QV b (gt b.Ah i) (pU b i) (j+1)=am (QV b (gt b.Ah i) (pU b i) j) (bm (gt b.Ah i).Bl j) (qj (gt (QV b (gt b.Ah i) (pU b i) j) (bm (gt b.Ah i).Bl j).toNat+OO b y)):=by
    show yi _ _ _ _ _=_;unfold yi;rw[m,jq]
   rw[this] at o;exact o
 have r:∀j t,t.length=(gt b.Ah i).Ak.length->j<(gt b.Ah i).Ak.length->Ev (λn=>iN (gt b.Ah i) n t (j:Int)) (qb0 (gt b.Ah i) j t,0):=by
  intro j
  induction j with
  |zero=>
   intro t _ _;refine Cm ?_;show Ev (λn=>iN (gt b.Ah i) (n+1) t 0) _;unfold iN;exact Cp Z .done
  |succ j ih=>
   intro t A a;have g:=c.par (j+1) (by omega) a;refine Cm ?_;simp only[iN,show decide (((j+1:Nat):Int) > 0)=An from decide_eq_true (by omega),Ci,aM a,jd,kJ g.1 (show bm (gt b.Ah i).Ak (j+1)<(t.length:Int) by omega),qz (show j+1<t.length by omega),show((j+1:Nat):Int)-1=(j:Int) by omega,qX (show -9223372036854775808<=(j:Int) by omega) (by omega)];exact ih _ (by rw[cg];exact A) (by omega)
 unfold ta lw;rw[qz hi];simp only[jd,eG (show([]:List Int).length+(gt b.Ah i).Bs.length<=2147483648 by simp;omega),List.nil_append];refine Ck (oQ p) (Ck (yv p) (Ck e1 ?_));rw[nD (show(gt b.Ah i).Bs.length<=9223372036854775807 by omega),show((gt b.Ah i).Bs.length:Int)-1=(((gt b.Ah i).Ak.length-1:Nat):Int) by omega];exact Ck (r _ _ (by rw[ID];exact d) (by omega)) .done
theorem AS{b:qf}(h:aL b=An){i:Nat}(hi:i<b.Ah.length):Ev (λn=>rM n b (i:Int)) (dV b i):=by
 have f:=cW h hi;have o:=f.lo;have m:=f.hi;have l:=f.res;have l1:=AW h hi;have c:∀d k,k+1+d=(gt b.Ah i).Ak.length->Ev (λn=>kF (gt b.Ah i) (dK b i) n (OT (gt b.Ah i) (dK b i) k) ((k+1:Nat):Int)) (dV b i,((dK b i).length:Int)):=by
  intro d
  induction d with
  |zero=>
   intro k g;refine Cm ?_;simp only[kF,qr (show(dK b i).length<=k+1 by omega),Cj];refine Cx ?_;rw[l1,<-g];unfold dV;rw[<-g]
   rfl
  |succ d ih=>
   intro k g;have p:=f.par (k+1) (by omega) (by omega);have a:=HT (w:=gt b.Ah i) (ld:=dK b i) (k:=k);refine Cm ?_;simp only[kF,qp (show k+1<(dK b i).length by omega),Ci,aM (show k+1<(gt b.Ah i).Ak.length by omega),jd,kJ p.1 (show bm (gt b.Ah i).Ak (k+1)<((OT (gt b.Ah i) (dK b i) k).length:Int) by omega),
    aM (show k+1<(gt b.Ah i).Bw.length by omega),qz (show k+1<(dK b i).length by omega),ti (show k+1<9223372036854775807 by omega)]
   rw[eG (by rw[a,jh];omega)];exact ih (k+1) (by omega)
 unfold rM;rw[qz hi];simp only[jd];refine Ck (MM h hi) ?_;exact Ck (c ((gt b.Ah i).Ak.length-1) 0 (by omega)) .done
theorem rZ{b:qf}(h:aL b=An){i:Nat}(hi:i<b.Ah.length){mode:Int}:Ev (λn=>pb n b (i:Int) mode) ((bA b i).map λx=>iz x 1000 mode):=by
 have k:=cW h hi;have r:(gt b.Ah i).Bl.length<=78:=by rw[k.snk];exact se h
 have p:=yk h hi;have l:Ev (λn=>eC b (i:Int) mode (dV b i) n ([]:List Int) 0) ((bA b i).map (λx=>iz x 1000 mode),((gt b.Ah i).Bl.length:Int)):=by
  refine fq (Lf:=eC b (i:Int) mode (dV b i)) (S:=λj=>(((gt b.Ah i).Bl.take j).map λs=>gt (dV b i) s.toNat).map λx=>iz x 1000 mode) (len:=(gt b.Ah i).Bl.length) (λn=>?_) (λj c X o=>?_)
  .simp only[eC,qz hi,jd,qr (jf _),Cj,jH];rfl
  .have g:=k.sin j c;have f:=xG h hi c;have m:gt (bA b i) j=gt (dV b i) (bm (gt b.Ah i).Bl j).toNat:=by
    unfold bA;rw[fd (by rw[jo];exact c),List.getElem_map,wy c]
   rw[m] at f;have d:=λn=>xF (n:=n) (a:=gt (dV b i) (bm (gt b.Ah i).Bl j).toNat) (b:=1000) (mode:=mode) (by omega) (by omega) (by omega);simp only[eC,qz hi,jd,qp c,Ci,aM c,kJ g.1 (show bm (gt b.Ah i).Bl j<((dV b i).length:Int) by omega),d,wS j];rw[eG (by rw[jo,jo,jy,jh];omega)];have:(((gt b.Ah i).Bl.take j).map (λs=>gt (dV b i) s.toNat)).map (λx=>iz x 1000 mode)++[iz (gt (dV b i) (bm (gt b.Ah i).Bl j).toNat) 1000 mode]=(((gt b.Ah i).Bl.take (j+1)).map λs=>gt (dV b i) s.toNat).map λx=>iz x 1000 mode:=by
    rw[jw c,jY,jY,wy c];rfl
   rw[this];exact o
 unfold pb;exact Ck (AS h hi) (Ck l .done)

instance:Inhabited ql:=⟨⟨0,⟨0,0⟩,⟨0,0⟩⟩⟩
instance:Inhabited qg:=⟨⟨0,0⟩⟩
def ke(c:qH):Bool:=(gu c.Bb 100 5000&&(gu c.Be 100 5000&&(gu c.Az 100 5000&&gu c.Bd 100 5000)))&&(tU c.Bi&&(decide (c.Bb<=c.Be)&&decide (c.Az<=c.Bd)))
theorem VM{c:qH}(h:OA c.Bi):Ev (λn=>sZ n c) (ke c):=by
 have a:Ev (λn=>fk c n 0) (bif gu c.Bb 100 5000&&(gu c.Be 100 5000&&(gu c.Az 100 5000&&gu c.Bd 100 5000)) then .nxt 4 else .ret Cd):=by
  refine Cm ?_;simp only[fk,gC,show qG ([c.Bb,c.Be,c.Az,c.Bd]:List Int) 0=V c.Bb from rfl,jd];refine Cq Z ?_;cases gu c.Bb 100 5000
  .exact .done
  refine Cp Z (Cm ?_);simp only[fk,gC,show qj (0+1)=1 from rfl,show qG ([c.Bb,c.Be,c.Az,c.Bd]:List Int) 1=V c.Be from rfl,jd];refine Cq Z ?_;cases gu c.Be 100 5000
  .exact .done
  refine Cp Z (Cm ?_);simp only[fk,gC,show qj (1+1)=2 from rfl,show qG ([c.Bb,c.Be,c.Az,c.Bd]:List Int) 2=V c.Az from rfl,jd];refine Cq Z ?_;cases gu c.Az 100 5000
  .exact .done
  refine Cp Z (Cm ?_);simp only[fk,gC,show qj (2+1)=3 from rfl,show qG ([c.Bb,c.Be,c.Az,c.Bd]:List Int) 3=V c.Bd from rfl,jd];refine Cq Z ?_;cases gu c.Bd 100 5000
  .exact .done
  refine Cp Z (Cm ?_);simp only[fk];exact Cp Z .done
 unfold sZ ke;refine Ck a ?_;cases gu c.Bb 100 5000&&(gu c.Be 100 5000&&(gu c.Az 100 5000&&gu c.Bd 100 5000))
 .exact .done
 .refine Ck (AR h) ?_;cases tU c.Bi
  .exact .done
  .cases decide (c.Bb<=c.Be)<;>exact .done
theorem QY{n:Nat}{a b:Int}:pk n a b=V (decide (a>=100)&&(decide (a<=b)&&decide (b<=5000))):=by
 unfold pk;cases decide (a>=100)
 .rfl
 .cases decide (a<=b)<;>rfl
theorem WJ{c:qH}(h:OA c.Bi):Ev (λn=>sS n c) (ke c):=by
 have e:ke c=(tU c.Bi&&((decide (c.Bb>=100)&&(decide (c.Bb<=c.Be)&&decide (c.Be<=5000)))&&(decide (c.Az>=100)&&(decide (c.Az<=c.Bd)&&decide (c.Bd<=5000))))):=by
  unfold ke;rw[jp];simp only[je,cu,decide_eq_true_eq];constructor
  .rintro⟨⟨b,d,f,g⟩,a,i,k⟩;refine⟨a,⟨?_,?_,?_⟩,?_,?_,?_⟩<;>omega
  .rintro⟨a,⟨b,d,f⟩,g,i,k⟩;refine⟨⟨⟨?_,?_⟩,⟨?_,?_⟩,⟨?_,?_⟩,?_,?_⟩,a,?_,?_⟩<;>omega
 rw[e];unfold sS;simp only[LB h,QY,jd];cases tU c.Bi
 .exact .done
 .cases decide (c.Bb>=100)&&(decide (c.Bb<=c.Be)&&decide (c.Be<=5000))<;>exact .done
def nN(s:qg):Bool:=gu s.Ar (-1000000000) 1000000000&&(gu s.Bc (-1000000000) 1000000000&&decide (s.Ar<=s.Bc))
def zN(s:qg):Bool:=decide (s.Ar>=0)&&(decide (s.Ar<=s.Bc)&&decide (s.Bc<=1000000))
theorem QB{n:Nat}{s:qg}:tW n s=V (nN s):=by
 unfold tW nN;simp only[gC,jd];cases gu s.Ar (-1000000000) 1000000000
 .rfl
 .cases gu s.Bc (-1000000000) 1000000000<;>rfl
theorem KH{n:Nat}{s:qg}:re n s=V (nN s):=by
 unfold re yt nN;simp only[gV,jd];cases gu s.Ar (-1000000000) 1000000000
 .rfl
 .cases gu s.Bc (-1000000000) 1000000000<;>rfl
theorem YA{n:Nat}{s:qg}:td n s=V (zN s):=by
 unfold td zN;cases decide (s.Ar>=0)
 .rfl
 .cases decide (s.Ar<=s.Bc)<;>rfl
theorem WR{n:Nat}{s:qg}:sU n s=V (zN s):=by
 have e:zN s=(nN s&&(gu s.Ar 0 1000000&&gu s.Bc 0 1000000)):=by
  unfold zN nN;rw[jp];simp only[je,cu,decide_eq_true_eq];constructor
  .rintro⟨a,b,c⟩;refine⟨⟨⟨?_,?_⟩,⟨?_,?_⟩,?_⟩,⟨?_,?_⟩,?_,?_⟩<;>omega
  .rintro⟨⟨a,b,c⟩,d,f⟩;refine⟨?_,?_,?_⟩<;>omega
 rw[e];unfold sU yr;simp only[KH,gV,jd];cases nN s
 .rfl
 .cases gu s.Ar 0 1000000<;>rfl

theorem UP{b:qf}{k:Int}(h:aL b=An){j:Nat}(c:j<(places b.Aa).length)(l:(gt (places b.Aa) j).net=k)(d:(gt (places b.Aa) j).drives=An):Ev (λn=>uP n b.Aa k) (j:Int):=by
 have g:=aO h;have p:=ab g;have t:=bj p;have e:NF (λq:qW=>(q.net==k)&&q.drives) ((places b.Aa).map ms)=(j:Int):=by
  refine qau (by simpa using c) ?_ (λi hi m=>?_)
  .rw[CX c];show(((gt (places b.Aa) j).net==k)&&(gt (places b.Aa) j).drives)=An;rw[l,d];simp
  .have f:i<(places b.Aa).length:=by simpa using hi
   rw[CX f] at m;have a:(((gt (places b.Aa) i).net==k)&&(gt (places b.Aa) i).drives)=An:=m;simp only[je,beq_iff_eq] at a;exact XH g f c (by rw[a.1,l]) a.2 d
 unfold uP;refine Ck (oQ p) ?_;rw[<-e];exact og (fin:=(((places b.Aa).map ms).length:Int)) (Lf:=gH k ((places b.Aa).map ms)) (xs:=(places b.Aa).map ms) (pf:=λ_ (q:qW)=>V ((q.net==k)&&q.drives)) (λ_ _=>.done)
  (λn=>by simp only[gH,qr (jf _),Cj])
  (λn j x r=>by
   have c:=(List.getElem?_eq_some_iff.1 r).1;have s:j<(places b.Aa).length:=by simpa using c
   simp only[gH,qp c,Ci,ra r,jd,wS j];cases (x.net==k)<;>cases x.drives<;>rfl)
  (λn=>by congr 1;funext o;cases o<;>rfl)
theorem PI{b:qf}{i k:Nat}(h:aL b=An)(hi:i<b.Aa.Ab.length)(s:k<(gt b.Aa.Ab i).Ap.length):Ev (λn=>uQ n b.Aa (i:Int) (k:Int)) ((cQ b.Aa i+k:Nat):Int):=by
 have p:=aO h;have f:=ab p;have u:=bj f;obtain⟨c,l⟩:=xr hi s;have e:NF (λq:qW=>(q.instance_==(i:Int))&&(q.pin==(k:Int))) ((places b.Aa).map ms)=((cQ b.Aa i+k:Nat):Int):=by
  refine qau (by simpa using c) ?_ (λm t a=>?_)
  .rw[CX c,l];unfold zb ms;simp
  .have d:m<(places b.Aa).length:=by simpa using t
   rw[CX d] at a;rcases yy d with⟨i',k',hi',hk',em,e'⟩|⟨i',hi',em,e'⟩
   .rw[e'] at a;unfold zb ms at a;simp only[je,beq_iff_eq] at a;obtain rfl:i'=i:=by omega
    obtain rfl:k'=k:=by omega
    exact em
   .rw[e'] at a;unfold VF ms at a;simp only[je,beq_iff_eq] at a;omega
 unfold uQ;refine Ck (oQ f) ?_;rw[<-e];exact og (fin:=(((places b.Aa).map ms).length:Int)) (Lf:=kY (i:Int) (k:Int) ((places b.Aa).map ms)) (xs:=(places b.Aa).map ms) (pf:=λ_ (q:qW)=>V ((q.instance_==(i:Int))&&(q.pin==(k:Int)))) (λ_ _=>.done)
  (λn=>by simp only[kY,qr (jf _),Cj])
  (λn j x g=>by
   have c:=(List.getElem?_eq_some_iff.1 g).1;have r:j<(places b.Aa).length:=by simpa using c
   simp only[kY,qp c,Ci,ra g,jd,wS j];cases (x.instance_==(i:Int))<;>cases (x.pin==(k:Int))<;>rfl)
  (λn=>by congr 1;funext o;cases o<;>rfl)
theorem VC{n:Nat}{xs:List qx}{f t a c k i:Int}(o:xs.length<=1000000)(l:0<=f)(m:f<=1000000)(p:0<=t)(r:t<=1000000)(b:O5 a)(g:O5 c):nC n xs f t a c k i=V (xs++[⟨2*f+a,2*t+c,k,i⟩]):=by
 have d:0<=a/\a<=1:=by rcases b with e|e<;>omega
 have h:0<=c/\c<=1:=by rcases g with e|e<;>omega
 unfold nC;rw[wO (2*f),wO (2*t),wO (2*f+a),wO (2*t+c),eG (by rw[jh];omega)]
 rfl
def qbL(a:bo)(i j:Int):Bool:=bif a.Bf==1 then(bif a.Br==3 then An else(a.Br==1)==(i==j)) else bif a.Bf==2 then i==0 else bif a.Bf==3 then i==1 else Cd
def RN(a:bo)(f t k i j:Int):List qx:=bif qbL a i j then[⟨2*f+i,2*t+j,1,k⟩] else[]
theorem H3{a:bo}{xs:List qx}{f t k i j:Int}{X:List qx×Int}(m:xs.length<=1000000)(d:0<=f)(g:f<=1000000)(o:0<=t)(p:t<=1000000)(hi:O5 i)(c:O5 j)
  (h:Ev (λn=>cO a f t k i n (xs++RN a f t k i j) (j+1)) X):Ev (λn=>cO a f t k i n xs j) X:=by
 have b:0<=j/\j<=1:=by rcases c with e|e<;>omega
 have l:=λn=>VC (n:=n) (k:=1) (i:=k) m d g o p hi c;refine Cm ?_;simp only[cO,l,jd,wO (j+1)];refine Cq (decide_eq_true b.2) ?_;unfold RN qbL at h;cases h1:a.Bf==1
 .cases h2:a.Bf==2
  .cases h3:a.Bf==3
   .rw[h1,h2,h3] at h;simpa using h
   .rw[h1,h2,h3] at h;cases h4:i==1
    .rw[h4] at h;simpa using h
    .rw[h4] at h;simpa using h
  .rw[h1,h2] at h;cases h4:i==0
   .rw[h4] at h;simpa using h
   .rw[h4] at h;simpa using h
 .rw[h1] at h;cases h2:a.Br==3
  .rw[h2] at h;cases h4:(a.Br==1)==(i==j)
   .rw[h4] at h;simpa [h4] using h
   .rw[h4] at h;simpa [h4] using h
  .rw[h2] at h;simpa using h
theorem qda{a:bo}{xs:List qx}{f t k:Int}(v:xs.length<=900000)(d:0<=f)(g:f<=1000000)(h:0<=t)(l:t<=1000000) :
  Ev (λn=>yI n xs a f t k) (xs++RN a f t k 0 0++RN a f t k 0 1++RN a f t k 1 0++RN a f t k 1 1):=by
 have b:∀i j,(RN a f t k i j).length<=1:=λi j=>by unfold RN;cases qbL a i j<;>simp
 have m:=b 0 0;have o:=b 0 1;have p:=b 1 0;have r:=b 1 1;have c:∀(i:Int) (ys:List qx),O5 i->ys.length<=900010->Ev (λn=>cO a f t k i n ys 0) (ys++RN a f t k i 0++RN a f t k i 1,2):=by
  intro i ys hi x;have u:=b i 0;refine H3 (by omega) d g h l hi (.inl Z) (H3 (j:=0+1) (by rw[jg];omega) d g h l hi (.inr Z) (Cm ?_));simp only[cO];exact Cp Z .done
 have s:Ev (λn=>me a f t k n xs 0) (xs++RN a f t k 0 0++RN a f t k 0 1++RN a f t k 1 0++RN a f t k 1 1,2):=by
  refine Cm ?_;simp only[me];refine Cq Z (Ck (c 0 xs (.inl Z) (by omega)) ?_);refine Cm ?_;simp only[me];refine Cq Z (Ck (c 1 _ (.inr Z) (by simp only[jg];omega)) ?_);refine Cm ?_;simp only[me];exact Cp Z .done
 unfold yI;exact Ck s .done
theorem O4{ps:List bp}{a:bo}(h:CO ps a=An)(c:a.Bf<=3)(b:1<=a.Bf):(a.Bf=1/\(a.Br=1\/a.Br=2\/a.Br=3))\/a.Bf=2\/a.Bf=3:=by
 rcases (by omega:a.Bf=1\/a.Bf=2\/a.Bf=3) with e|e|e
 .refine .inl ⟨e,?_⟩;unfold CO at h;rw[e] at h;simp only[beq_self_eq_true,Ci,je,cu] at h;have:=h.2.2.2.1;omega
 .exact .inr (.inl e)
 .exact .inr (.inr e)
theorem qaO{ps:List bp}{a:bo}{first:Int}{k:Nat}(h:CO ps a=An)(c:a.Bf<=3)(b:1<=a.Bf) :
  RN a (first+a.Bm) (first+a.To) (k:Int) 0 0++RN a (first+a.Bm) (first+a.To) (k:Int) 0 1++RN a (first+a.Bm) (first+a.To) (k:Int) 1 0++RN a (first+a.Bm) (first+a.To) (k:Int) 1 1=wG first k a:=by
 unfold wG gM RN qbL;rcases O4 h c b with⟨e,e2|e2|e2⟩|e|e
 .rw[e,e2];rfl
 .rw[e,e2];rfl
 .rw[e,e2];rfl
 .rw[e];rfl
 .rw[e];rfl
theorem MF{a:bo}{first:Int}{k:Nat}(h:3<a.Bf):wG first k a=[]:=by
 unfold wG gM;rw[show(a.Bf==2)=Cd from beq_eq_false_iff_ne.2 (by omega),show(a.Bf==3)=Cd from beq_eq_false_iff_ne.2 (by omega),show(a.Bf != 1)=An from bne_iff_ne.2 (by omega)]
 rfl
theorem hU{b:qf}(h:aL b=An):Ev (λn=>kj n b) (qd b):=by
 have v:=aO h;have z:=ab v;have hl:=bj z;have hni:=z.ni;have hnn:=z.nn;have J:=xC h;have p:(⟨b.Aa.Ab,b.Aa.Ap,b.Aa.Ai⟩:qk)=b.Aa:=rfl;have e1:Ev (λn=>iO b n ([]:List qx) 0) (oK b b.Aa.Ab.length,(b.Aa.Ab.length:Int)):=by
  refine fq (Lf:=iO b) (S:=oK b) (len:=b.Aa.Ab.length) (λn=>?_) (λj m X g=>?_)
  .simp only[iO,qr (jf _),Cj]
  .obtain⟨⟨Q,c1⟩,r,l⟩:=pu v m;have M:=GR l;have s:=(rq (vh l)).1;have H:=vo h (show j<=b.Aa.Ab.length by omega);have O:=xP (d:=b.Aa) (i:=j);have hof:cQ b.Aa (j+1)<=78:=by
    rw[rt] at hl;have:=E2 (d:=b.Aa) (show j+1<=b.Aa.Ab.length by omega);omega
   have F:bW b (j:Int)=gt b.Aq.As (gt b.Aa.Ab j).Bv.toNat:=rfl;simp only[iO,qp m,Ci,qz m,kJ Q c1,jd,wS j];have C:Ev (λn=>gh b (j:Int) (bW b (j:Int)) n (oK b j) 0) (oK b (j+1),((bW b (j:Int)).Av.length:Int)):=by
    rw[show oK b (j+1)=oK b j++nV (bW b (j:Int)) (cQ b.Aa j:Int) (bW b (j:Int)).Av.length from wQ];rw[<-F] at l r M s;generalize bW b (j:Int)=c at l r M s⊢;have:=fq (Lf:=gh b (j:Int) c) (S:=λk=>oK b j++nV c (cQ b.Aa j:Int) k) (len:=c.Av.length) (fin:=(oK b j++nV c (cQ b.Aa j:Int) c.Av.length,(c.Av.length:Int))) (λn=>by simp only[gh,qr (jf _),Cj])
     (λk o X g=>by
      obtain⟨⟨k1,k5⟩,N,I,Y⟩:=CT l o;have e:(nV c (cQ b.Aa j:Int) k).length<=4*k:=KT λ_ _=>KJ;have A:nV c (cQ b.Aa j:Int) (k+1)=nV c (cQ b.Aa j:Int) k++wG (cQ b.Aa j:Int) k (gt c.Av k):=wQ;rw[A] at g;simp only[gh,qp o,Ci,qz o,jd,wS k,p];by_cases B:(gt c.Av k).Bf<=3
      .refine Cq (decide_eq_true B) ?_;have K:=PI h m (k:=(gt c.Av k).Bm.toNat) (by omega);have L:=PI h m (k:=(gt c.Av k).To.toNat) (by omega);rw[<-fB N.1] at K;rw[<-fB I.1] at L;refine Ck K (Ck L (Ck (qda (by rw[jg];omega) (by omega) (by omega) (by omega) (by omega)) ?_));have u:∀x:Int,0<=x->((cQ b.Aa j+x.toNat:Nat):Int)=(cQ b.Aa j:Int)+x:=λx hx=>by omega
       rw[u _ N.1,u _ I.1,jv,jv,jv,<-jv (RN _ _ _ _ _ _),<-jv (RN _ _ _ _ _ _++_),qaO Y B k1,jv];exact g
      .refine Cp (decide_eq_false B) ?_;rw[MF (by omega),Jb] at g;exact g)
    simpa [nV,fm] using this
   exact Ck C g
 have D:∀(i:Nat) (t:List qx),i<b.Ah.length->t.length<=900000->Ev (λn=>iQ (yl b.Aa i:Int) (pU b i) n t 0) (t++VY b i (pU b i).length,((pU b i).length:Int)):=by
  intro i t hi I;have hsm:=se h (i:=i);have a3:=(uj v (k:=i) (by omega)).1;have:=fq (Lf:=iQ (yl b.Aa i:Int) (pU b i)) (S:=λk=>t++VY b i k) (len:=(pU b i).length) (fin:=(t++VY b i (pU b i).length,((pU b i).length:Int))) (λn=>by simp only[iQ,qr (jf _),Cj])
   (λk o X g=>by
    obtain⟨y,hy,ey,_⟩:=HH o;have hwn:=VZ (b:=b) (i:=i) (j:=k);have p1:=λn=>VC (n:=n) (xs:=t++VY b i k) (f:=(yl b.Aa i:Int)) (t:=bm (pU b i) k) (a:=0) (c:=0) (k:=2) (i:=(k:Int)) (by rw[jg];omega) (by omega) (by omega) (by omega) (by omega) (.inl Z) (.inl Z);have p2:=λn=>VC (n:=n) (xs:=t++VY b i k++[⟨2*(yl b.Aa i:Int)+0,2*bm (pU b i) k+0,2,(k:Int)⟩]) (f:=(yl b.Aa i:Int)) (t:=bm (pU b i) k) (a:=1) (c:=1) (k:=2) (i:=(k:Int)) (by rw[jg,jg,jh];omega) (by omega) (by omega) (by omega) (by omega) (.inr Z) (.inr Z);simp only[iQ,qp o,Ci,aM o,jd,p1,p2,wS k];have A:VY b i (k+1)=VY b i k++qd0 (yl b.Aa i) (bm (pU b i) k) k:=wQ;rw[A] at g;rw[Jk,Jk,jv,jv];exact g)
  simpa [VY,fm] using this
 have u:Ev (λn=>iP b n (oK b b.Aa.Ab.length) 0) (qd b,(b.Aa.Ap.length:Int)):=by
  have H:=vo h (jf _);have:=fq (Lf:=iP b) (S:=λj=>oK b b.Aa.Ab.length++zh b j) (len:=b.Aa.Ap.length) (fin:=(qd b,(b.Aa.Ap.length:Int))) (λn=>by
    simp only[iP,qr (jf _),Cj];rw[<-J];rfl)
   (λj m X g=>by
    have P:=HL h (j:=j);obtain⟨R,d2⟩:=uj v m;obtain⟨T,W⟩:=CV.1 d2;simp only[iP,qp m,Ci,wS j,p];refine Ck (UP h R T W) (Ck (yv z) (Ck (D j _ (by omega) (by rw[jg];omega)) ?_));rw[jv,show zh b j++VY b j (pU b j).length=zh b (j+1) from wQ.symm];exact g)
  simpa [zh,fm] using this
 unfold kj;exact Ck e1 (Ck u .done)
def qaz(br:List Int)(m:Nat):List Bool:=pre (λk=>!br.any λy=>y==(k:Int)) m
theorem vG{br:List Int}{m:Nat}:(qaz br m).length=m:=wZ
theorem LC{br:List Int}{x:Int}(d:br.length<=1048576):Ev (λn=>tX n br x) (br.any λy=>y==x):=by
 have b:Ev (λn=>mf br x n 0) (bif br.any (λy=>y==x) then .ret An else .nxt (br.length:Int)):=by
  have:=ll (Lf:=mf br x) (len:=br.length) (f:=λj=>!(gt br j==x)) (bad:=An) (fin:=.nxt (br.length:Int)) (Cm (by simp only[mf,qr (jf _),Cj];exact .done))
   (λj a X c=>Cm (by
    simp only[mf,qp a,Ci,qz a,jd,wS j];cases gt br j==x
    .exact c
    .exact .done))
  rw[A7];refine this.cast ?_;cases bG (λj=>!(gt br j==x)) br.length<;>rfl
 unfold tX;refine Ck b ?_;cases br.any (λy=>y==x)<;>exact .done
theorem rh{ls:List qx}{br:List Int}(g:ls.length<=10000)(a:br.length<=1048576):Ev (λn=>pe n ls br) (qaz br ls.length):=by
 have b:Ev (λn=>la ls br n ([]:List Bool) 0) (qaz br ls.length,(ls.length:Int)):=by
  refine fq (Lf:=la ls br) (S:=λj=>qaz br j) (len:=ls.length) (λn=>?_) (λj d X c=>?_)
  .simp only[la,qr (jf _),Cj]
  .simp only[la,qp d,Ci,wS j];refine Ck (LC a) ?_;have e:df (qaz br j) [!br.any λy=>y==(j:Int)]=V (qaz br (j+1)):=FD (f:=λk:Nat=>!br.any λy=>y==(k:Int)) (by omega);rw[e];exact c
 unfold pe;exact Ck b .done
def qbo(br:List Int)(m:Nat):Bool:=(br.all λx=>gu x 0 ((m:Int)-1))&&KZ br
theorem C7{v:cU}{br:List Int}(A:v.links.length<=10000)(h:qbo br v.links.length=An):Ev (λn=>pK n (V v) br) (V ⟨V v,qaz br v.links.length⟩):=by
 unfold qbo at h;rw[je,ue,aA] at h;have u:yW (v.links.length:Int) Cd=V (pre (λ_=>Cd) v.links.length):=zJ (by omega);generalize hM:v.links.length=M at A h u⊢;have m:∀j i,i<j->j<br.length->gt br i<gt br j:=by
  intro j
  induction j with
  |zero=>intro i hi _;omega
  |succ j ih=>
   intro i hi b;have c:=h.2;unfold KZ at c;rw[aA] at c;have c:=c (j+1) b;unfold yN at c;simp only[Bool.or_eq_true,decide_eq_true_eq,Nat.add_sub_cancel] at c;have s:gt br j<gt br (j+1):=by
    rcases c with c|c
    .omega
    .exact c
   by_cases r:i=j
   .rw[r];exact s
   .have:=ih i (by omega) (by omega);omega
 have o:∀j,j<br.length->(j:Int)<=gt br j:=by
  intro j
  induction j with
  |zero=>
   intro b;have:=h.1 0 b;rw[cu] at this;omega
  |succ j ih=>
   intro b;have:=ih (by omega);have:=m (j+1) j (by omega) b;omega
 have C:br.length<=M:=by
  by_cases D:br.length=0
  .omega
  .have F:=o (br.length-1) (by omega);have B:=h.1 (br.length-1) (by omega);rw[cu] at B;omega
 have e1:Ev (λn=>eU (pre (λ_=>Cd) M) n (pre (λ_=>Cd) M) 0) (pre (λ_=>An) M,(M:Int)):=by
  have:=fq (Lf:=eU (pre (λ_=>Cd) M)) (S:=λj=>pre (λk=>decide (k<j)) M) (len:=M) (fin:=(pre (λ_=>An) M,(M:Int))) (λn=>by
    simp only[eU,wZ,qr (jf _),Cj];rw[sd (g:=λ_=>An) λk d=>decide_eq_true d])
   (λj b X l=>by
    simp only[eU,wZ,qp b,Ci,oO (f:=λk=>decide (k<j)) b,jd,IR,wS j];have:pre (λk=>decide (k<j+1)) M=pre (λk=>if k=j then An else decide (k<j)) M:=sd λk _=>by
     by_cases d:k=j
     .rw[if_pos d,d];simp
     .rw[if_neg d,decide_eq_decide];omega
    rw[this] at l;exact l)
  simpa using this
 have z:Ev (λn=>eV br n (pre (λ_=>An) M) 0) (qaz br M,(br.length:Int)):=by
  have:=fq (Lf:=eV br) (S:=λj=>pre (λk=>!(br.take j).any λy=>y==(k:Int)) M) (len:=br.length) (fin:=(qaz br M,(br.length:Int))) (λn=>by
    simp only[eV,qr (jf _),Cj,jH];rfl)
   (λj b X l=>by
    have x:=h.1 j b;rw[cu] at x;obtain⟨a,t⟩:∃a:Nat,gt br j=(a:Int):=⟨_,fB x.1⟩;have p:a<M:=by omega
    simp only[eV,qp b,Ci,qz b,t,oO (f:=λk=>!(br.take j).any λy=>y==(k:Int)) p,jd,IR,wS j];have:pre (λk=>!(br.take (j+1)).any λy=>y==(k:Int)) M=pre (λk=>if k=a then Cd else !(br.take j).any λy=>y==(k:Int)) M:=sd λk _=>by
     rw[jw b,List.any_append,<-fd b,t];by_cases d:k=a
     .rw[if_pos d,d];simp
     .rw[if_neg d];have:((a:Int)==(k:Int))=Cd:=by simp;omega
      simp[this]
    rw[this] at l;exact l)
  simpa using this
 unfold pK;simp only[jd,hM,u];exact Ck e1 (Ck z .done)
theorem U1{br:List Int}{m:Nat}(h:br.length<=1048576)(i:m<=10000):Ev (λn=>uT n br (m:Int)) (qbo br m):=by
 have g:Ev (λn=>fI br (m:Int) n 0) (bif bG (λj=>gu (gt br j) 0 ((m:Int)-1)&&yN br j) br.length then .nxt (br.length:Int) else .ret Cd):=by
  refine ll (Lf:=fI br (m:Int)) (len:=br.length) (Cm (by simp only[fI,qr (jf _),Cj];exact .done)) (λj d X c=>Cm ?_);simp only[fI,qp d,Ci,qz d,jd,gC,wS j,wO ((m:Int)-1)];cases h1:gu (gt br j) 0 ((m:Int)-1)
  .exact .done
  .refine Cp Z ?_;by_cases b:j=0
   .subst b;exact Cp Z c
   .refine Cq (decide_eq_true (by omega)) ?_;rw[show(j:Int)-1=((j-1:Nat):Int) by omega,qX (by omega) (by omega),qz (show j-1<br.length by omega)];simp only[jd];have f:yN br j=decide (gt br (j-1)<gt br j):=by
     unfold yN;rw[decide_eq_false b,Bool.false_or]
     rfl
    rw[f];by_cases a:gt br (j-1)<gt br j
    .rw[decide_eq_true a];exact Cp (decide_eq_false (by omega)) c
    .rw[decide_eq_false a];exact Cq (decide_eq_true (by omega)) .done
 unfold uT;refine Ck g ?_;unfold qbo KZ;rw[ue,<-zi];cases bG (λj=>gu (gt br j) 0 ((m:Int)-1)&&yN br j) br.length<;>exact .done
theorem XT{v:cU}{br:List Int}(a:br.length<=1048576)(b:v.links.length<=10000):Ev (λn=>lX n (V v) br) (qbo br v.links.length):=by
 unfold lX iw qbo;simp only[jd,wO ((v.links.length:Int)-1)];exact Ev.and (kb a) λ_=>Ev.last (BN a)
theorem D6{b:qf}{br:List Int}(a:wj b)(h:aL b=An)(c:br.length<=1048576):Ev (λn=>sv n b br) (bif qbo br (qd b).length then 0 else 2):=by
 unfold sv;refine Ck (rE a) (Cp (by rw[h];rfl) (Ck (hU h) (Ck (U1 c (lY h)) ?_)));cases qbo br (qd b).length<;>exact .done

theorem DP{α:Type}{f:Nat->List α}{n:Nat}{x:α}(h:x∈fm f n):∃j,j<n/\x∈f j:=by
 unfold fm at h;obtain⟨j,a,b⟩:=List.mem_flatMap.1 h;exact⟨j,List.mem_range.1 a,b⟩
theorem K4{x:Int}{j:Nat}{t:Int}(b:O5 t)(d:j<=100000)(e:x=2*(j:Int)+t):qj (x.tdiv 2)=(j:Int)/\x.tmod 2=t:=by
 have c:0<=t/\t<=1:=by rcases b with e|e<;>omega
 have a:0<=x:=by omega
 rw[jO a,Int.tmod_eq_emod_of_nonneg a,qX (by omega) (by omega)];omega
structure qeB(b:qf)(x:qx)(i j m net a:Nat):Prop where
 kind:x.Bf=1
 il:i<b.Aa.Ab.length
 jl:j<(places b.Aa).length
 inst:(gt (places b.Aa) j).instance_=(i:Int)
 net_:(gt (places b.Aa) j).net=(net:Int)
 nl:net<b.Ah.length
 half:qj (x.To.tdiv 2)=(j:Int)
 mod:x.To.tmod 2=(m:Int)
 ml:m<2
 ix:x.Ca=(a:Int)
 al:a<(bW b (i:Int)).Av.length
 d2:(gt (bW b (i:Int)).Av a).Bq.length=2
 s2:(gt (bW b (i:Int)).Av a).Ba.length=2
 dt:∀t,t∈(gt (bW b (i:Int)).Av a).Bq->FL t/\∀k,0<=bm t.Bg k
 st:∀t,t∈(gt (bW b (i:Int)).Av a).Ba->FL t/\∀k,0<=bm t.Bg k
 k3:(gt (bW b (i:Int)).Av a).Bf<=3
structure qeM(b:qf)(x:qx)(j net k:Nat):Prop where
 kind:x.Bf=2
 jl:j<(places b.Aa).length
 net_:(gt (places b.Aa) j).net=(net:Int)
 nl:net<b.Ah.length
 half:qj (x.To.tdiv 2)=(j:Int)
 ix:x.Ca=(k:Int)
 kl:k<(gt b.Ah net).Bl.length
theorem qdA{xs:List Int}(h:0<=qdz xs)(k:Nat):0<=bm xs k:=by
 have b:∀(ys:List Int) (a:Int),(ys.foldl (λ(m y:Int)=>if y<m then y else m) a<=a)/\∀y,y∈ys->ys.foldl (λ(m y:Int)=>if y<m then y else m) a<=y:=by
  intro ys
  induction ys with
  |nil=>intro a;exact⟨jL _,λy g=>by cases g⟩
  |cons z ys ih=>
   intro a;rw[List.foldl_cons];obtain⟨i,l⟩:=ih (if z<a then z else a);refine⟨?_,λy g=>?_⟩
   .split at i<;>split<;>omega
   .rcases List.mem_cons.1 g with e|e
    .subst e;split at i<;>split<;>omega
    .exact l y e
 by_cases d:k<xs.length
 .have f:xs[k]∈xs.drop 1\/k=0:=by
   by_cases c:k=0
   .exact .inr c
   .refine .inl ?_;have:xs[k]=(xs.drop 1)[k-1]'(by rw[List.length_drop];omega):=by
     rw[List.getElem_drop]
     congr 1;omega
    rw[this];exact jm _
  rw[wy d];unfold qdz at h;rcases f with f|c
  .exact Jh h ((b _ _).2 _ f)
  .subst c;have:=(b (xs.drop 1) (bm xs 0)).1;rw[<-wy d];exact Jh h this
 .rw[H4 d];exact jL _
theorem QO{a:List qU}(h:nT a An=An):a.length=2/\∀t,t∈a->FL t/\∀k,0<=bm t.Bg k:=by
 unfold nT at h;rw[je,decide_eq_true_eq,jR] at h;refine⟨h.1,λt b=>?_⟩;have:=h.2 t b;unfold G4 at this;simp only[Jq,Bool.false_or,je,decide_eq_true_eq] at this;exact⟨V0 this.1,qdA this.2⟩
theorem A8{ps:List bp}{a:bo}(h:CO ps a=An)(c:a.Bf<=3)(b:1<=a.Bf):a.To=(ps.length:Int)-1/\nT a.Bq An=An/\nT a.Ba An=An:=by
 unfold CO at h;rcases (by omega:a.Bf=1\/a.Bf=2\/a.Bf=3) with e|e|e
 .rw[e] at h;simp only[beq_self_eq_true,Ci,je,beq_iff_eq] at h;exact⟨h.2.2.1,h.2.2.2.2⟩
 .rw[e] at h;simp only[show((2:Int)==1)=Cd from rfl,Cj,beq_self_eq_true,Bool.true_or,Ci,je,beq_iff_eq] at h;exact⟨h.2.2.1,h.2.2.2.2⟩
 .rw[e] at h;simp only[show((3:Int)==1)=Cd from rfl,Cj,beq_self_eq_true,Bool.or_true,Ci,je,beq_iff_eq] at h;exact⟨h.2.2.1,h.2.2.2.2⟩
theorem ZN{a:bo}{t:ak}(h:t∈gM a):1<=a.Bf/\a.Bf<=3:=by
 refine⟨?_,?_⟩<;>refine Int.le_of_not_gt λb=>?_
 .have:wG 0 0 a=[]:=by
   unfold wG gM;rw[show(a.Bf==2)=Cd from beq_eq_false_iff_ne.2 (by omega),show(a.Bf==3)=Cd from beq_eq_false_iff_ne.2 (by omega),show(a.Bf != 1)=An from bne_iff_ne.2 (by omega)]
   rfl
  unfold wG at this;rw[List.map_eq_nil_iff] at this;rw[this] at h;cases h
 .have:wG 0 0 a=[]:=MF b;unfold wG at this;rw[List.map_eq_nil_iff] at this;rw[this] at h;cases h
theorem nF{b:qf}(h:aL b=An){x:qx}(c:x∈qd b):((∃i j m net a,qeB b x i j m net a)\/∃j net k,qeM b x j net k)/\(0<=x.Bm/\x.Bm<2*((places b.Aa).length:Int))/\(0<=x.To/\x.To<2*((places b.Aa).length:Int)):=by
 have l:=aO h;have P:=ab l;have hl:=bj P;have S:=xC h;unfold qd at c;rcases List.mem_append.1 c with c|c
 .obtain⟨i,hi,c⟩:=DP c;obtain⟨a,B,c⟩:=DP c;unfold wG at c;obtain⟨t,g,rfl⟩:=List.mem_map.1 c;obtain⟨⟨c0,c1⟩,u,f⟩:=pu l hi;have r:bW b (i:Int)=gt b.Aq.As (gt b.Aa.Ab i).Bv.toNat:=rfl;rw[<-r] at u f;obtain⟨⟨k1,k5⟩,hf,Q,L⟩:=CT f B;obtain⟨K,A⟩:=ZN g;obtain⟨X,o⟩:=TM g;obtain⟨F,Y,tS⟩:=A8 L A K;obtain⟨d2,dt⟩:=QO Y;obtain⟨s2,st⟩:=QO tS;have O:=(rq (vh f)).1;have n:(bW b (i:Int)).Bh.length-1<(gt b.Aa.Ab i).Ap.length:=by omega
  obtain⟨C,H⟩:=xr hi n;obtain⟨W,n1⟩:=BB l C;have e1:(qbz (cQ b.Aa i:Int) a (gt (bW b (i:Int)).Av a) t).To=2*((cQ b.Aa i+((bW b (i:Int)).Bh.length-1):Nat):Int)+t.e1:=by
   show 2*((cQ b.Aa i:Int)+(gt (bW b (i:Int)).Av a).To)+t.e1=_;rw[F];omega
  obtain⟨s,D⟩:=K4 o (by omega) e1;obtain⟨m,I⟩:∃m:Nat,t.e1=(m:Int):=⟨t.e1.toNat,by rcases o with e|e<;>omega⟩;have N:cQ b.Aa i+(gt (bW b (i:Int)).Av a).Bm.toNat<(places b.Aa).length:=(xr hi (k:=(gt (bW b (i:Int)).Av a).Bm.toNat) (by omega)).1;have p:(qbz (cQ b.Aa i:Int) a (gt (bW b (i:Int)).Av a) t).Bm=2*((cQ b.Aa i:Int)+(gt (bW b (i:Int)).Av a).Bm)+t.e0:=rfl;refine⟨.inl ⟨i,_,m,(gt (places b.Aa) (cQ b.Aa i+((bW b (i:Int)).Bh.length-1))).net.toNat,a,⟨Z,hi,C,by rw[H];rfl,fB W,by omega,s,by rw[D,I],by rcases o with e|e<;>omega,Z,B,d2,s2,dt,st,A⟩⟩,?_,?_⟩
  .rw[p];rcases X with e|e<;>rw[e]<;>omega
  .rw[e1];rcases o with e|e<;>rw[e]<;>omega
 .obtain⟨i,hi,c⟩:=DP c;obtain⟨k,n,c⟩:=DP c;obtain⟨y,T,J,v⟩:=HH n;have M:=(uj l (k:=i) (by omega)).1;have R:=cW h hi;have z:(gt (places b.Aa) y).net=(i:Int):=by
   unfold uK at v;simp only[je,beq_iff_eq] at v;exact v.1
  have d:∀t:Int,O5 t->x=⟨2*(yl b.Aa i:Int)+t,2*bm (pU b i) k+t,2,(k:Int)⟩->((∃i j m net a,qeB b x i j m net a)\/∃j net k,qeM b x j net k)/\(0<=x.Bm/\x.Bm<2*((places b.Aa).length:Int))/\(0<=x.To/\x.To<2*((places b.Aa).length:Int)):=by
   intro t g e;have e1:x.To=2*(y:Int)+t:=by rw[e,J]
   have p:x.Bm=2*(yl b.Aa i:Int)+t:=by rw[e]
   obtain⟨s,D⟩:=K4 g (by omega) e1;refine⟨.inr ⟨y,i,k,⟨by rw[e],T,z,hi,s,by rw[e],by rw[R.snk];exact n⟩⟩,?_,?_⟩
   .rw[p];rcases g with e|e<;>rw[e]<;>omega
   .rw[e1];rcases g with e|e<;>rw[e]<;>omega
  unfold qd0 at c;simp only[jQ,jI,or_false] at c;rcases c with c|c
  .exact d 0 (.inl Z) (by rw[c,Jk,Jk])
  .exact d 1 (.inr Z) c
theorem mz{α:Type}[Inhabited α]{xs:List α}{k:Nat}(h:k<xs.length):gt xs k∈xs:=by rw[fd h];exact jm h
theorem kA{b:qf}(h:aL b=An):AG (qd b) (2*(places b.Aa).length) where
 len:=lY h
 nodes:=by have:=bj (ab (aO h));omega
 fr0:=λx a=>(nF h (mz a)).2.1.1
 fr1:=λx a=>by have:=(nF h (mz a)).2.1.2;omega
 to0:=λx a=>(nF h (mz a)).2.2.1
 to1:=λx a=>by have:=(nF h (mz a)).2.2.2;omega
theorem zm{c:qH}(h:ke c=An){kind mode:Int}:∃f:Int,100<=f/\f<=5000/\(∀n,kv n c kind mode=V f)/\∀n,lW n c kind mode=V f:=by
 unfold ke at h;simp only[je,cu,decide_eq_true_eq] at h;obtain⟨⟨a,b,d,g⟩,_⟩:=h;unfold kv lW;cases kind==1
 .cases mode==0
  .exact⟨_,g.1,g.2,λ_=>rfl,λ_=>rfl⟩
  .exact⟨_,d.1,d.2,λ_=>rfl,λ_=>rfl⟩
 .cases mode==0
  .exact⟨_,b.1,b.2,λ_=>rfl,λ_=>rfl⟩
  .exact⟨_,a.1,a.2,λ_=>rfl,λ_=>rfl⟩
theorem uJ{p f mode:Int}(h:0<=p)(p1:p<=400000000000)(c:0<=f)(g:f<=5000):(∀n,gf n (qj (p*f)) 1000 mode=V (iz (p*f) 1000 mode))/\∀n,xL n p f mode=V (iz (p*f) 1000 mode):=by
 have i:=jS h c;have k:p*f<=400000000000*5000:=Jf p1 g c (by omega);have e:qj (p*f)=p*f:=qX (by omega) (by omega);have d:=λn=>xF (n:=n) (a:=p*f) (b:=1000) (mode:=mode) (by omega) (by omega) (by omega);refine⟨λn=>by rw[e];exact d n,λn=>?_⟩;unfold xL;rw[e,UK (m:=0),d 0]
 rfl
theorem qaA{l h H:Int}(c:0<=l)(d:l<h)(f:h<=H)(g:H<=3000000000):qj (qj (qj (l+h)+1) |>.tdiv 2)=(l+h+1) / 2/\qj ((l+h+1) / 2*((l+h+1) / 2))=(l+h+1) / 2*((l+h+1) / 2)/\qj ((l+h+1) / 2-1)=(l+h+1) / 2-1:=by
 have a:0<=(l+h+1) / 2/\(l+h+1) / 2<=3000000000:=by omega
 have i:(l+h+1) / 2*((l+h+1) / 2)<=3000000000*3000000000:=Jf a.2 a.2 a.1 (by omega);have b:=jS a.1 a.1;rw[wO (l+h),wO (l+h+1),jO (by omega),wO ((l+h+1) / 2),wO ((l+h+1) / 2-1)];exact⟨Z,qX (by omega) (by omega),Z⟩
theorem qa7{y mode:Int}(k:0<=y)(r:y<=4000000000000000000):∃v,sE y v/\v<=2000000000/\Ev (λn=>uS n y mode) (if mode=1/\v*v<y then v+1 else v):=by
 obtain⟨v,r1,f,p⟩:=TC (Lf:=λn l h=>kZ y n l h) (fin:=λl=>(l,l)) (x:=y) (H:=2000000000) k (by omega) (by omega)
  (λn l _ _=>by simp only[kZ,show decide (l<l)=Cd from decide_eq_false (Int.lt_irrefl l),Cj])
  (λn l h a b m=>by
   obtain⟨e1,g,i⟩:=qaA a b m (by omega);simp only[kZ,decide_eq_true b,Ci,e1,g,i])
 refine⟨v,r1,f,?_⟩;unfold uS;refine Ck p ?_;have d:=r1.pos;have s:v*v<=2000000000*2000000000:=Jf f f d (by omega);have o:=jS d d;simp only[wO (v*v),wO (v+1)];by_cases c:mode=1
 .refine Cq (by simpa using c) ?_;by_cases a:v*v<y
  .rw[if_pos ⟨c,a⟩];exact Cq (decide_eq_true a) .done
  .rw[if_neg λh=>a h.2];exact Cp (decide_eq_false a) .done
 .rw[if_neg λh=>c h.1];exact Cp (by simpa using c) .done
theorem qaq{y:Int}(d:0<=y)(m:y<=4000000000000000000):∃v,sE y v/\v<=3000000000/\Ev (λn=>EY n y) v:=by
 obtain⟨v,r1,i,k⟩:=TC (Lf:=λn l h=>oI y n l h) (fin:=λl=>(l,l)) (x:=y) (H:=3000000000) d (by omega) (by omega)
  (λn l _ _=>by simp only[oI,show decide (l<l)=Cd from decide_eq_false (Int.lt_irrefl l),Cj])
  (λn l h g a f=>by
   obtain⟨e1,b,c⟩:=qaA g a f (by omega);simp only[oI,decide_eq_true a,Ci,e1,b,c])
 refine⟨v,r1,i,?_⟩;unfold EY;exact Ck k .done
theorem TS{sl d mode:Int}(s0:0<=sl)(s1:sl<=1000000)(g:0<=d)(l:d<=344000000)(o:mode=0\/mode=1):∃r:Int,0<=r/\(∃v,sE (4*(250000*(sl*sl)+d*d)) v/\v<=2000000000/\r=iz (if mode=1/\v*v<4*(250000*(sl*sl)+d*d) then v+1 else v) 1000 mode) /\
  Ev (λn=>(uS n (qj (qj (qj (1000000*sl)*sl)+qj (qj (4*d)*d))) mode).bind λz=>(gf n z 1000 mode).bind λA=>V A) r/\Ev (λn=>vE n sl d mode) r:=by
 have I:=jS s0 s0;have J:sl*sl<=1000000*1000000:=Jf s1 s1 s0 (by omega);have K:=jS g g;have L:d*d<=344000000*344000000:=Jf l l g (by omega);have e1:qj (qj (qj (1000000*sl)*sl)+qj (qj (4*d)*d))=4*(250000*(sl*sl)+d*d):=by
  rw[wO (1000000*sl),wO (4*d),Jc 1000000,Jc 4,wO (1000000*(sl*sl)),wO (4*(d*d)),qX (by omega) (by omega)];omega
 have s:qj (qj (qj (qj (500*sl)*500)*sl)+qj (d*d))=250000*(sl*sl)+d*d:=by
  rw[wO (500*sl),wO (500*sl*500),show 500*sl*500*sl=250000*(sl*sl) by rw[<-Jc];congr 1;omega,wO (250000*(sl*sl)),wO (d*d),qX (by omega) (by omega)]
 obtain⟨v,k,B,C⟩:=qa7 (mode:=mode) (y:=4*(250000*(sl*sl)+d*d)) (by omega) (by omega);obtain⟨w,w1,p,D⟩:=qaq (y:=250000*(sl*sl)+d*d) (by omega) (by omega);have x:=F7 w1 k o;have H:=k.pos;have f:=w1.pos;have a:0<=(if mode=1/\v*v<4*(250000*(sl*sl)+d*d) then v+1 else v)/\(if mode=1/\v*v<4*(250000*(sl*sl)+d*d) then v+1 else v)<=1000*3000000:=by split<;>omega
 refine⟨_,(uh (b:=1000) (mode:=mode) (M:=3000000) (by omega) a.1 a.2).1,⟨v,k,B,Z⟩,?_,?_⟩
 .rw[e1];exact Ck C (Ck ⟨0,λn _=>xF (by omega) (by omega) (by omega)⟩ .done)
 .rw[x];unfold vE;rw[s];refine Ck D ?_;have F:w*w<=3000000000*3000000000:=Jf p p f (by omega);have u:=jS f f;have t:(λn=>mY n w 500 mode)=λ_=>V (iz w 500 mode):=by
   funext n
   rw[UK (m:=0),xF (by omega) (by omega) (by omega)]
  have i:=congrFun t;simp only[wO (w*w),jO f,wO (w / 500),wO (w / 500+1),i,jd];rcases o with rfl|rfl
  .rw[if_neg (by omega)];exact .done
  .by_cases c:w*w<250000*(sl*sl)+d*d
   .rw[if_pos ⟨Z,c⟩,decide_eq_true c];exact .done
   .rw[if_neg λh=>c h.2,decide_eq_false c];exact .done
theorem PN{t:qU}(h:FL t/\∀k,0<=bm t.Bg k)(sl ld mode:Int):∃r:Int,0<=r/\r<=1000000/\Ev (λn=>gF n t sl ld mode) r/\Ev (λn=>gB n t sl ld mode) r:=by
 obtain⟨S,D,D0,S1,_,_,_,S0,a⟩:=L3 h.1 sl ld;obtain⟨b,r1⟩:=uh (mode:=mode) D0 (S0 h.2) S1;exact⟨_,b,r1,a mode⟩
theorem E0{b:qf}{ex:List Int}{x:qx}{j net:Nat}(jl:j<(places b.Aa).length)(c:(gt (places b.Aa) j).net=(net:Int))(a:qj (x.To.tdiv 2)=(j:Int))(n:Nat):mE n (V (nO b ex)) x=V (net:Int):=by
 unfold mE;show(qG (places b.Aa) (qj (x.To.tdiv 2))).bind _=_;rw[a,qz jl];exact congrArg V c
theorem Y2{b:qf}{ex:List Int}(h:aL b=An){x:qx}{i j m net a:Nat}(c:qeB b x i j m net a)(n:Nat):pl n (V (nO b ex)) x=V (gt (bW b (i:Int)).Av a):=by
 obtain⟨⟨d,c1⟩,_,_⟩:=pu (aO h) c.il;unfold pl;show(qG (places b.Aa) (qj (x.To.tdiv 2))).bind (λf=>(qG b.Aa.Ab f.instance_).bind λg=>(qG b.Aq.As g.Bv).bind λk=>(qG k.Av x.Ca).bind λl=>V l)=_;rw[c.half,qz c.jl,jd,c.inst,qz c.il,jd,kJ d c1,jd,c.ix];show(qG (bW b (i:Int)).Av (a:Int)).bind _=_;rw[qz c.al];rfl
theorem vq{b:qf}(h:aL b=An){x:qx}{i j m net a:Nat}(c:qeB b x i j m net a):Ev (λn=>wq n b x) (gt (bW b (i:Int)).Av a,sY b net):=by
 have d:=aO h;have s:=ab d;obtain⟨⟨f,c1⟩,_,_⟩:=pu d c.il;have r:qG ((places b.Aa).map ms) (j:Int)=V (ms (gt (places b.Aa) j)):=by
  refine ra ?_;rw[List.getElem?_map,jj c.jl,fd c.jl];rfl
 have o:=AW h c.nl;have p:=(cW h c.nl).lo;have g:(ms (gt (places b.Aa) j)).instance_=(i:Int):=c.inst;have k:(ms (gt (places b.Aa) j)).net=(net:Int):=c.net_;have l:qG (gt b.Aq.As (gt b.Aa.Ab i).Bv.toNat).Av (a:Int)=V (gt (bW b (i:Int)).Av a):=qz c.al;unfold wq;refine Ck (oQ s) ?_;simp only[c.half,r,jd,g,k,qz c.il,kJ f c1,c.ix,l];refine Ck (MM h c.nl) ?_;rw[show qG (dK b net) (0:Int)=V (sY b net) from qz (j:=0) (by omega)];exact .done
theorem xp{b:qf}(h:aL b=An){x:qx}{j net k:Nat}(a:qeM b x j net k):Ev (λn=>wr n b x) (net:Int):=by
 have f:=ab (aO h);have d:qG ((places b.Aa).map ms) (j:Int)=V (ms (gt (places b.Aa) j)):=by
  refine ra ?_;rw[List.getElem?_map,jj a.jl,fd a.jl];rfl
 have c:(ms (gt (places b.Aa) j)).net=(net:Int):=a.net_;unfold wr;refine Ck (oQ f) ?_;simp only[a.half,d,jd,c];exact .done
theorem NY{b:qf}{c:qH}(ex:List Int)(h:aL b=An)(L:ke c=An){k:Nat}(N:k<(qd b).length){sl mode:Int}(s0:0<=sl)(s1:sl<=1000000)(X:mode=0\/mode=1) :
  (∃D:Int,Ev (λn=>aI n b c (gt (qd b) k) sl mode) D/\Ev (λn=>dc n (V (nO b ex)) c (k:Int) sl mode) D) /\
  ∃S:Int,0<=S/\S<=1000000/\Ev (λn=>cP n b (gt (qd b) k) sl mode) S/\Ev (λn=>cd n (V (nO b ex)) (k:Int) sl mode) S:=by
 have t:qG (nO b ex).links (k:Int)=V (gt (qd b) k):=qz N;obtain⟨d,_⟩:=nF h (mz N);generalize gt (qd b) k=x at d t;rcases d with⟨i,j,m,net,a,d⟩|⟨j,net,q,d⟩
 .have l:=E0 (ex:=ex) d.jl d.net_ d.half;have o:=Y2 (ex:=ex) h d;have s:qG (nO b ex).loads (net:Int)=V (sY b net):=oO (f:=sY b) d.nl;obtain⟨f,T,A,H,F⟩:=zm L (kind:=x.Bf) (mode:=mode);have z:m<(gt (bW b (i:Int)).Av a).Bq.length:=by rw[d.d2];exact d.ml
  have I:m<(gt (bW b (i:Int)).Av a).Ba.length:=by rw[d.s2];exact d.ml
  obtain⟨r,r0,r1,rs,ri⟩:=PN (d.dt _ (mz z)) sl (sY b net) mode;obtain⟨u,O,u1,K,J⟩:=PN (d.st _ (mz I)) sl (sY b net) mode;obtain⟨c1,y⟩:=uJ (mode:=mode) r0 (by omega) (show 0<=f by omega) A;have g:(x.Bf==1)=An:=by rw[d.kind];rfl
  refine⟨⟨iz (r*f) 1000 mode,?_,?_⟩,⟨u,O,u1,?_,?_⟩⟩
  .unfold aI;refine Cq g (Ck (vq h d) ?_);simp only[d.mod,qz z,jd,H];exact Ck rs (Ck ⟨0,λn _=>c1 n⟩ .done)
  .unfold dc;simp only[jd,t,l,s,o,d.mod,qz z,F];exact Cq g (Ck ri (Ck ⟨0,λn _=>y n⟩ .done))
  .unfold cP;refine Cq g (Ck (vq h d) ?_);simp only[d.mod,qz I,jd];exact Ck K .done
  .unfold cd;simp only[jd,t,l,s,o,d.mod,qz I];refine Cq g (Ck J (Cx ?_));rw[if_neg (by omega)]
 .have l:=E0 (ex:=ex) d.jl d.net_ d.half;have p:qG (nO b ex).delays (net:Int)=V (bA b net):=oO (f:=bA b) d.nl;have B:(bA b net).length=(gt b.Ah net).Bl.length:=by unfold bA;rw[jo]
  have v:q<(bA b net).length:=by rw[B];exact d.kl
  obtain⟨P,x1⟩:=xG h d.nl d.kl;obtain⟨f,T,A,H,F⟩:=zm L (kind:=x.Bf) (mode:=mode);have Q:=λn=>xF (n:=n) (a:=gt (bA b net) q) (b:=1000) (mode:=mode) (by omega) (by omega) (by omega);obtain⟨e,p1⟩:=uh (a:=gt (bA b net) q) (b:=1000) (mode:=mode) (M:=344000) (by omega) P (by omega);obtain⟨c1,y⟩:=uJ (mode:=mode) e (by omega) (show 0<=f by omega) A;have g:(x.Bf==1)=Cd:=by rw[d.kind];rfl
  have hi:qG ((bA b net).map λx=>iz x 1000 mode) (q:Int)=V (iz (gt (bA b net) q) 1000 mode):=by
   rw[qz (by rw[jo];exact v),CX v]
  obtain⟨u,O,_,K,J⟩:=TS s0 s1 P x1 X;refine⟨⟨iz (iz (gt (bA b net) q) 1000 mode*f) 1000 mode,?_,?_⟩,⟨if u<1000000 then u else 1000000,by split<;>omega,by split<;>omega,?_,?_⟩⟩
  .unfold aI;refine Cp g (Ck (xp h d) (Ck (rZ h d.nl) ?_));simp only[d.ix,hi,jd,H];exact Ck ⟨0,λn _=>c1 n⟩ .done
  .unfold dc;simp only[jd,t,l,p,d.ix,qz v,F];refine Cp g (Ck (b:=iz (gt (bA b net) q) 1000 mode) ⟨0,λn _=>(UK (m:=0)).trans (Q 0)⟩ (Ck ⟨0,λn _=>y n⟩ .done))
  .have Y:=cW h d.nl;have C:=Y.sin q d.kl;have W:=yk h d.nl;have R:gt (bA b net) q=gt (dV b net) (bm (gt b.Ah net).Bl q).toNat:=by
    unfold bA;rw[fd (by rw[jo];exact d.kl),List.getElem_map,wy d.kl]
   unfold cP xj;refine Cp g (Ck (xp h d) ?_);simp only[d.ix,qz d.nl,jd,aM d.kl];refine Ck (b:=u) (Ck (AS h d.nl) ?_) .done;rw[kJ C.1 (show bm (gt b.Ah net).Bl q<((dV b net).length:Int) by omega)];simp only[jd];rw[<-R];exact K
  .unfold cd;simp only[jd,t,l,p,d.ix,qz v];refine Cp g (Ck J (Cx ?_))
   congr 1
   split<;>split<;>omega
theorem tx{b:qf}{c:qH}(h:aL b=An)(g:ke c=An){k:Nat}(i:k<(qd b).length){sl mode:Int}(s0:0<=sl)(s1:sl<=1000000)(l:mode=0\/mode=1) :
  (∃D:Int,Ev (λn=>aI n b c (gt (qd b) k) sl mode) D/\∀ex,Ev (λn=>dc n (V (nO b ex)) c (k:Int) sl mode) D) /\
  ∃S:Int,0<=S/\S<=1000000/\Ev (λn=>cP n b (gt (qd b) k) sl mode) S/\∀ex,Ev (λn=>cd n (V (nO b ex)) (k:Int) sl mode) S:=by
 obtain⟨⟨D,m,_⟩,⟨S,a,c',d,_⟩⟩:=NY [] h g i s0 s1 l;refine⟨⟨D,m,λex=>?_⟩,⟨S,a,c',d,λex=>?_⟩⟩
 .obtain⟨⟨D',e1,f⟩,_⟩:=NY ex h g i s0 s1 l;rw[m.uniq e1];exact f
 .obtain⟨_,⟨S',_,_,e1,f⟩⟩:=NY ex h g i s0 s1 l;rw[d.uniq e1];exact f

def QC(s:qg):Prop:=(0<=s.Ar/\s.Ar<=1000000)/\(0<=s.Bc/\s.Bc<=1000000)
def xA(b:qf)(c:qH)(f:Nat->qg->qg×qg):Prop:=∀k s,k<(qd b).length->QC s->QC (f k s).2/\Ev (λn=>lA n b c (gt (qd b) k) s) (f k s)
def GP(b:qf)(c:qH)(ex:List Int)(f:Nat->qg->qg×qg):Prop:=∀k s,k<(qd b).length->QC s->QC (f k s).2/\Ev (λn=>mF n (V (nO b ex)) c (k:Int) s) (f k s)
def qeO(b:qf)(ex:List Int)(k:Nat):Int:=bif (gt (qd b) k).Bf==2 then gt ex (gt (places b.Aa) ((gt (qd b) k).To / 2).toNat).net.toNat else 0
def qeA(e:Int)(s:qg):qg:=⟨qj (s.Ar-e),qj (s.Bc+e)⟩
def ZS(b:qf)(ex:List Int)(f:Nat->qg->qg×qg)(k:Nat)(s:qg):qg×qg:=bif decide (0<ex.length)&&((gt (qd b) k).Bf==2) then(qeA (qeO b ex k) (f k s).1,(f k s).2) else f k s
theorem ZF{b:qf}{c:qH}(h:aL b=An)(D:ke c=An):∃f,xA b c f/\∀ex:List Int,ex.length=0\/ex.length=b.Ah.length->GP b c ex (ZS b ex f):=by
 have C:∀x:Nat×qg,∃r:qg×qg,x.1<(qd b).length->QC x.2->QC r.2/\Ev (λn=>lA n b c (gt (qd b) x.1) x.2) r/\∀ex:List Int,ex.length=0\/ex.length=b.Ah.length->Ev (λn=>mF n (V (nO b ex)) c (x.1:Int) x.2) (ZS b ex (λ_ _=>r) x.1 x.2):=by
  rintro⟨k,s⟩;by_cases d:k<(qd b).length/\QC s
  .obtain⟨d,⟨e0,e1⟩,⟨l0,l1⟩⟩:=d;obtain⟨⟨l,p1,Y⟩,⟨t,a1,b1,v1,w1⟩⟩:=tx h D d e0 e1 (mode:=0) (.inl Z);obtain⟨⟨d2,T,e⟩,⟨u,a2,b2,v2,w2⟩⟩:=tx h D d e0 e1 (mode:=1) (.inr Z);obtain⟨⟨o,W,q3⟩,⟨v,a3,b3,v3,w3⟩⟩:=tx h D d l0 l1 (mode:=0) (.inl Z);obtain⟨⟨p,X,q4⟩,⟨y,a4,b4,v4,w4⟩⟩:=tx h D d l0 l1 (mode:=1) (.inr Z);refine⟨(⟨if o<l then o else l,if p > d2 then p else d2⟩,⟨if v<t then v else t,if y > u then y else u⟩),λ_ _=>⟨⟨?_,?_⟩,?_,λex B=>?_⟩⟩
   .show 0<=(if v<t then v else t)/\(if v<t then v else t)<=1000000;split<;>omega
   .show 0<=(if y > u then y else u)/\(if y > u then y else u)<=1000000;split<;>omega
   .unfold lA;exact Ck p1 (Ck T (Ck v1 (Ck v2 (Ck W (Ck X (Ck v3 (Ck v4 .done)))))))
   .unfold mF;refine Ck (Y ex) (Ck (q3 ex) (Ck (e ex) (Ck (q4 ex) ?_)));have S:qG (nO b ex).links (k:Int)=V (gt (qd b) k):=qz d;have g:(nO b ex).extras=ex:=rfl;simp only[jd,S,g];unfold ZS;have fin:∀r:Int×Int,Ev (λn=>(cd n (V (nO b ex)) (k:Int) s.Ar 0).bind λJ=>(cd n (V (nO b ex)) (k:Int) s.Bc 0).bind λK=>(cd n (V (nO b ex)) (k:Int) s.Ar 1).bind λL=>(cd n (V (nO b ex)) (k:Int) s.Bc 1).bind λM=>
      V ((⟨r.1,r.2⟩:qg),(⟨if K<J then K else J,if M > L then M else L⟩:qg))) ((⟨r.1,r.2⟩:qg),(⟨if v<t then v else t,if y > u then y else u⟩:qg)):=λr=>Ck (w1 ex) (Ck (w3 ex) (Ck (w2 ex) (Ck (w4 ex) .done)))
    rw[show decide ((ex.length:Int) > 0)=decide (0<ex.length) by rw[decide_eq_decide];omega];cases hl:decide (0<ex.length)
    .exact Ck (b:=Cd) (Cx Z) (Ck (b:=(if o<l then o else l,if p > d2 then p else d2)) (Cx Z) (fin _))
    .cases hkd:(gt (qd b) k).Bf==2
     .exact Ck (b:=Cd) (Cx Z) (Ck (b:=(if o<l then o else l,if p > d2 then p else d2)) (Cx Z) (fin _))
     .obtain⟨H,_⟩:=nF h (mz d);rcases H with⟨i,j,m,net,a,g⟩|⟨j,net,q,g⟩
      .rw[g.kind] at hkd;cases hkd
      .have Q:=E0 (ex:=ex) g.jl g.net_ g.half;have I:net<ex.length:=by
        have:=of_decide_eq_true hl;have:=g.nl;omega
       have P:=(nF h (mz d)).2.2;have R:=bj (ab (aO h));have O:((gt (qd b) k).To / 2).toNat=j:=by
        have:=g.half;rw[jO P.1,qX (by omega) (by omega)] at this;omega
       have N:qeO b ex k=gt ex net:=by
        unfold qeO;rw[hkd,O,g.net_,jq]
        rfl
       refine Ck (b:=An) (Cx Z) (Ck (b:=(qj ((if o<l then o else l)-gt ex net),qj ((if p > d2 then p else d2)+gt ex net))) ?_ ?_)
       .simp only[Q,jd,qz I];exact .done
       .rw[N];exact fin _
  .exact⟨(s,s),λz A=>absurd ⟨z,A⟩ d⟩
 obtain⟨f,F⟩:=Classical.axiomOfChoice C;exact⟨λk s=>f (k,s),λk s z A=>⟨(F (k,s) z A).1,(F (k,s) z A).2.1⟩,λex B k s z A=>⟨by
  have:=(F (k,s) z A).1;unfold ZS;cases decide (0<ex.length)&&((gt (qd b) k).Bf==2)<;>exact this,(F (k,s) z A).2.2 ex B⟩⟩
theorem TQ{b:qf}{f:Nat->qg->qg×qg}:ZS b [] f=f:=rfl
def N8:qg:=⟨0,0⟩
def ZU:ql:=⟨0,N8,N8⟩
def GJ(s t:qg):qg:=⟨if t.Ar<s.Ar then t.Ar else s.Ar,if t.Bc > s.Bc then t.Bc else s.Bc⟩
theorem SG{s t:qg}:(⟨if s.Ar<t.Ar then s.Ar else t.Ar,if s.Bc > t.Bc then s.Bc else t.Bc⟩:qg)=GJ s t:=by
 unfold GJ
 congr 1
 .split<;>split<;>omega
 .split<;>split<;>omega
def uF(s t:qg):qg:=⟨qj (s.Ar+t.Ar),qj (s.Bc+t.Bc)⟩
def BO(node:Int)(s:Bool×ql)(ar sl:qg):Bool×ql:=bif s.1 then(An,⟨node,GJ s.2.Af ar,GJ s.2.Ba sl⟩) else(An,⟨node,ar,sl⟩)
def ip(ls:List qx)(k:Nat):Nat:=(gt ls k).Bm.toNat
def oC(f:Nat->qg->qg×qg)(ls:List qx)(t:qu)(node:Int)(s:Bool×ql)(k:Nat):Bool×ql:=
 bif gt t.Au (ip ls k) then BO node s (uF (gt t.Af (ip ls k)) (f k (gt t.Ba (ip ls k))).1) (f k (gt t.Ba (ip ls k))).2 else s
def uZ(ls:List qx)(lv:List Bool)(node:Int)(k:Nat):Bool:=AX lv k&&(FH ls k==node)
def aE(xs:List ql)(node:Int):Option ql:=xs.find? λs=>s.Bo==node
def bc(o:Option ql):Bool×ql:=match o with|some y=>(An,y)|none=>(Cd,ZU)
def pi(f:Nat->qg->qg×qg)(ls:List qx)(lv:List Bool)(t:qu)(node:Int)(s0:Bool×ql):Nat->Bool×ql
 |0=>s0
 |k+1=>bif uZ ls lv node k then oC f ls t node (pi f ls lv t node s0 k) k else pi f ls lv t node s0 k
theorem qaE{f:Nat->qg->qg×qg}{ls:List qx}{lv:List Bool}{t:qu}{node:Int}{s0:Bool×ql}{j:Nat}:(lG (uZ ls lv node) j).foldl (oC f ls t node) s0=pi f ls lv t node s0 j:=by
 induction j with
 |zero=>rfl
 |succ j ih=>
  rw[xu,List.foldl_append,ih];show _=bif uZ ls lv node j then oC f ls t node (pi f ls lv t node s0 j) j else pi f ls lv t node s0 j;cases uZ ls lv node j<;>rfl
structure GQ(t:qu)(M:Nat):Prop where
 r:t.Au.length=M
 a:t.Af.length=M
 s:t.Ba.length=M
 sl:∀k,k<M->QC (gt t.Ba k)
structure HP(xs:List ql):Prop where
 len:xs.length<=1048576
 inc:∀j i,i<j->j<xs.length->(gt xs i).Bo<(gt xs j).Bo
 sl:∀x,x∈xs->QC x.Ba
theorem AB{xs:List ql}{node:Int}(g:xs.length<=1048576):Ev (λn=>dX n xs node) ((bc (aE xs node)).2,(bc (aE xs node)).1):=by
 have c:Ev (λn=>bR n xs node) (NF (λs=>s.Bo==node) xs):=
  og (fin:=(xs.length:Int)) (Lf:=aw xs node) (xs:=xs) (pf:=λn x=>wC n x node) (λ_ _=>.done)
   (λn=>by simp only[aw,qr (jf _),Cj])
   (λn j x b=>by
    have a:=(List.getElem?_eq_some_iff.1 b).1;simp only[aw,qp a,Ci,ra b,jd,wS j])
   (λn=>by unfold bR;congr 1;funext o;cases o<;>rfl)
 unfold dX;refine Ck c ?_;unfold NF aE;cases hf:xs.findIdx? (λs=>s.Bo==node) with
 |none=>
  have:xs.find? (λs=>s.Bo==node)=U:=by
   rw[List.find?_eq_none];intro x b;have:=List.findIdx?_eq_none_iff.1 hf x b;simpa using this
  rw[this];exact Cp Z .done
 |some j=>
  obtain⟨a,f,d⟩:=List.findIdx?_eq_some_iff_getElem.1 hf;have:xs.find? (λs=>s.Bo==node)=V xs[j]:=by
   rw[List.find?_eq_some_iff_getElem];exact⟨f,j,a,Z,λi hi=>by have:=d i hi;simpa using this⟩
  rw[this];refine Cq (show decide ((j:Int)>=0)=An from decide_eq_true (by omega)) ?_;show Ev (λn=>(qG xs (j:Int)).bind _) _;rw[bZ a];exact .done
theorem xw{xs:List ql}{node:Int}{y:ql}(h:aE xs node=V y):y.Bo=node/\y∈xs:=by
 have a:=List.find?_some h;exact⟨by simpa using a,List.mem_of_find?_eq_some h⟩
theorem qcu{xs:List ql}{node:Int}(h:HP xs) :
  Ev (λn=>ik xs node n 0 0 0 0 0 Cd 0) ((bc (aE xs node)).2.Bo,(bc (aE xs node)).2.Af.Ar,(bc (aE xs node)).2.Af.Bc,(bc (aE xs node)).2.Ba.Ar,(bc (aE xs node)).2.Ba.Bc,(bc (aE xs node)).1,(xs.length:Int)):=by
 have g:=h.len;have:=fq (τ:=Bool×ql) (Lf:=λn s j=>ik xs node n s.2.Bo s.2.Af.Ar s.2.Af.Bc s.2.Ba.Ar s.2.Ba.Bc s.1 j) (S:=λj=>bc (aE (xs.take j) node)) (len:=xs.length)
  (fin:=((bc (aE xs node)).2.Bo,(bc (aE xs node)).2.Af.Ar,(bc (aE xs node)).2.Af.Bc,(bc (aE xs node)).2.Ba.Ar,(bc (aE xs node)).2.Ba.Bc,(bc (aE xs node)).1,(xs.length:Int)))
  (λn=>by simp only[ik,qr (jf _),Cj,jH])
  (λj a X c=>by
   simp only[ik,qp a,Ci,qz a,jd,wS j];have e:aE (xs.take (j+1)) node=(aE (xs.take j) node).or (bif (gt xs j).Bo==node then V (gt xs j) else U):=by
    unfold aE;rw[jw a,List.find?_append,<-fd a]
    congr 1
   cases hq:(gt xs j).Bo==node
   .rw[hq] at e;have e:aE (xs.take (j+1)) node=aE (xs.take j) node:=by rw[e];cases aE (xs.take j) node<;>rfl
    rw[e] at c;exact c
   .rw[hq] at e;have d:aE (xs.take j) node=U:=by
     unfold aE;rw[List.find?_eq_none];intro x f b;obtain⟨i,hi,rfl⟩:=List.mem_iff_getElem.1 f;rw[jy] at hi;rw[Jl,<-fd (by omega)] at b;have:=h.inc j i (by omega) a;simp only[beq_iff_eq] at hq b;omega
    have e:aE (xs.take (j+1)) node=V (gt xs j):=by rw[e,d];rfl
    rw[e] at c;exact c)
 exact this
theorem uk{ls:List qx}{M:Nat}(h:AG ls M){k:Nat}(a:k<ls.length):(gt ls k).Bm=(ip ls k:Int)/\ip ls k<M:=by
 have b:=h.fr0 k a;have c:=h.fr1 k a;unfold ip;omega
section
variable{b:qf}{c:qH}{ex:List Int}{f:Nat->qg->qg×qg}{lv:List Bool}{t:qu}{xs:List ql}{node:Int}
theorem qa6(h:aL b=An)(o:xA b c f)(u:lv.length=(qd b).length)(i:GQ t (2*(places b.Aa).length))(r:HP xs) :
  Ev (λn=>uU n b c (qd b) lv xs t node) (pi f (qd b) lv t node (bc (aE xs node)) (qd b).length):=by
 have k:=kA h;have p:=k.len;have m:=fq (τ:=Bool×ql) (Lf:=λn s j=>im b c (qd b) lv t node n s.2.Bo s.2.Af.Ar s.2.Af.Bc s.2.Ba.Ar s.2.Ba.Bc s.1 j) (S:=λj=>pi f (qd b) lv t node (bc (aE xs node)) j) (len:=(qd b).length)
  (fin:=(λs:Bool×ql=>(s.2.Bo,s.2.Af.Ar,s.2.Af.Bc,s.2.Ba.Ar,s.2.Ba.Bc,s.1,((qd b).length:Int))) (pi f (qd b) lv t node (bc (aE xs node)) (qd b).length))
  (λn=>by simp only[im,qr (jf _),Cj])
  (λj g X a=>by
   obtain⟨e1,d⟩:=uk k g;have l:pi f (qd b) lv t node (bc (aE xs node)) (j+1)=bif uZ (qd b) lv node j then oC f (qd b) t node (pi f (qd b) lv t node (bc (aE xs node)) j) j else pi f (qd b) lv t node (bc (aE xs node)) j:=rfl;rw[l] at a;generalize pi f (qd b) lv t node (bc (aE xs node)) j=s at a⊢;simp only[im,qp g,Ci,qz g,qz (show j<lv.length by omega),jd,e1,qz (show ip (qd b) j<t.Au.length by rw[i.r];exact d),qz (show ip (qd b) j<t.Af.length by rw[i.a];exact d),qz (show ip (qd b) j<t.Ba.length by rw[i.s];exact d),wS j];unfold uZ AX FH at a;cases h1:gt lv j
   .rw[h1] at a;exact a
   rw[h1,jN] at a;cases h2:(gt (qd b) j).To==node
   .rw[h2] at a;simp only[bne,h2];exact a
   rw[h2] at a;simp only[bne,h2];unfold oC at a;cases h3:gt t.Au (ip (qd b) j)
   .rw[h3] at a;exact a
   rw[h3] at a;simp only[Ci] at a;obtain⟨_,s1⟩:=o j _ g (i.sl _ d);refine Ck (b:=Cd) (Cx Z) (Cp Z (Ck s1 ?_));generalize f j (gt t.Ba (ip (qd b) j))=q at a⊢;unfold BO at a;cases h4:s.1
   .rw[h4] at a;exact a
   .rw[h4] at a;simp only[xl,jd,Ci];have a1:=SG (s:=s.2.Af) (t:=uF (gt t.Af (ip (qd b) j)) q.1);have a2:=SG (s:=s.2.Ba) (t:=q.2);simp only[Ci] at a;rw[<-a1,<-a2] at a;exact a)
 unfold uU;exact Ck (qcu r) (Ck m .done)
theorem qbe{ls:List qx}{M:Nat}{ps:List aY}{lo:List Int}{de:List (List Int)}{ex:List Int}(h:AG ls M)(k:lv.length=ls.length):Ev (λn=>pr n (qcV ls lv ps b lo de ex) node) (eB (lG (uZ ls lv node) ls.length)):=by
 have g:=h.len;have f:Ev (λn=>ac node ⟨V ⟨b,ps,ls,lo,de,ex⟩,lv⟩ ⟨b,ps,ls,lo,de,ex⟩ n ([]:List Int) 0) (eB (lG (uZ ls lv node) ls.length),(ls.length:Int)):=by
  refine LO (q:=uZ ls lv node) (Lf:=ac node ⟨V ⟨b,ps,ls,lo,de,ex⟩,lv⟩ ⟨b,ps,ls,lo,de,ex⟩) (len:=ls.length) (by omega) (Cm ?_) (λj d t i X c a=>?_)
  .simp only[ac,qr (jf _),Cj];exact .done
  .simp only[ac,qp d,Ci,qz d,qz (show j<lv.length by omega),jd,wB,i,wS j];unfold uZ AX FH at c a;cases hq:gt lv j
   .simp only[Cj];exact a (by rw[hq];rfl)
   .simp only[Ci];cases hw:(gt ls j).To==node
    .simp only[Cj];exact a (by rw[hq,hw];rfl)
    .simp only[Ci];exact c (by rw[hq,hw];rfl)
 unfold pr gl qcV;simp only[jd];exact Ck (Ck f .done) .done
def xH(node:Int)(s:Bool×ql):Bool×ql:=bif s.1 then s else(Cd,⟨node,N8,N8⟩)
theorem qap(h:aL b=An)(H:GP b c ex f)(J:lv.length=(qd b).length)(u:GQ t (2*(places b.Aa).length))(N:xs.length<=1048576) :
  Ev (λn=>kq n (V ⟨V (nO b ex),lv⟩) c xs t node) (pi f (qd b) lv t node (bc (aE xs node)) (qd b).length):=by
 have x:=kA h;have I:=x.len;have C:=wm (q:=uZ (qd b) lv node) (j:=(qd b).length);have K:∀j,(pi f (qd b) lv t node (bc (aE xs node)) j).1=An->(pi f (qd b) lv t node (bc (aE xs node)) j).2.Bo=node:=by
  intro j
  induction j with
  |zero=>
   show(bc (aE xs node)).1=An->(bc (aE xs node)).2.Bo=node;cases d:aE xs node with
   |none=>intro e;cases e
   |some y=>exact λ_=>(xw d).1
  |succ j ih=>
   unfold pi;cases uZ (qd b) lv node j
   .exact ih
   .simp only[Ci];unfold oC;cases gt t.Au (ip (qd b) j)
    .exact ih
    .simp only[Ci];unfold BO;cases (pi f (qd b) lv t node (bc (aE xs node)) j).1<;>exact λ_=>rfl
 have O:∀j,(pi f (qd b) lv t node (bc (aE xs node)) j).1=Cd->(pi f (qd b) lv t node (bc (aE xs node)) j).2=ZU:=by
  intro j
  induction j with
  |zero=>
   show(bc (aE xs node)).1=Cd->(bc (aE xs node)).2=ZU;cases aE xs node with
   |none=>exact λ_=>rfl
   |some y=>intro e;cases e
  |succ j ih=>
   unfold pi;cases uZ (qd b) lv node j
   .exact ih
   .simp only[Ci];unfold oC;cases gt t.Au (ip (qd b) j)
    .exact ih
    .simp only[Ci];unfold BO;cases (pi f (qd b) lv t node (bc (aE xs node)) j).1<;>(intro e;cases e)
 have D:∀(l:List Nat) (s:Bool×ql),(∀k,k∈l->uZ (qd b) lv node k=An)->l.foldl (λs k=>xH node (oC f (qd b) t node s k)) (xH node s)=xH node (l.foldl (oC f (qd b) t node) s):=by
  intro l
  induction l with
  |nil=>intro s _;rfl
  |cons k l ih=>
   intro s L;have e:xH node (oC f (qd b) t node (xH node s) k)=xH node (oC f (qd b) t node s k):=by
    unfold oC;obtain⟨s1,s2⟩:=s;cases gt t.Au (ip (qd b) k)<;>cases s1<;>rfl
   rw[List.foldl_cons,List.foldl_cons,e];exact ih _ λP g=>L P (jr _ g)
 have B:=(RZ (τ:=Bool×ql) (xs:=lG (uZ (qd b) lv node) (qd b).length) (Lf:=λn s j=>dr (V ⟨V (nO b ex),lv⟩) c t (eB (lG (uZ (qd b) lv node) (qd b).length)) n s.1 s.2.Bo s.2.Af.Ar s.2.Af.Bc s.2.Ba.Ar s.2.Ba.Bc j)
  (step:=λs k=>xH node (oC f (qd b) t node s k)) (fin:=λs=>(s.1,s.2.Bo,s.2.Af.Ar,s.2.Af.Bc,s.2.Ba.Ar,s.2.Ba.Bc,((eB (lG (uZ (qd b) lv node) (qd b).length)).length:Int))) (xH node (bc (aE xs node))) (λ_ s=>s=xH node s/\s.2.Bo=node) (by
   constructor
   .unfold xH;cases d:(bc (aE xs node)).1
    .rfl
    .simp only[d,Ci]
   .unfold xH;cases d:aE xs node with
    |none=>rfl
    |some y=>exact(xw d).1)
  (λj s p d=>by
   obtain⟨Q,F⟩:=d;have A:(oC f (qd b) t node s (lG (uZ (qd b) lv node) (qd b).length)[j]).2.Bo=node:=by
    unfold oC;cases gt t.Au (ip (qd b) (lG (uZ (qd b) lv node) (qd b).length)[j])
    .exact F
    .unfold BO;cases s.1<;>rfl
   constructor
   .unfold xH;cases d:(oC f (qd b) t node s (lG (uZ (qd b) lv node) (qd b).length)[j]).1
    .rfl
    .simp only[d,Ci]
   .unfold xH;cases d:(oC f (qd b) t node s (lG (uZ (qd b) lv node) (qd b).length)[j]).1
    .rfl
    .exact A)
  (λn s=>by simp only[dr,du,qr (jf _),Cj])
  (λj s p d X a=>by
   obtain⟨v,i⟩:=d;have hi:=yu p;have r:(lG (uZ (qd b) lv node) (qd b).length)[j]<(qd b).length:=(oh.1 (jm p)).1;generalize (lG (uZ (qd b) lv node) (qd b).length)[j]=k at hi r a;obtain⟨e1,m⟩:=uk x r;have M:qG (nO b ex).links (k:Int)=V (gt (qd b) k):=qz r;simp only[dr,du,qp p,Ci,hi,M,jd,e1,qz (show ip (qd b) k<t.Au.length by rw[u.r];exact m),qz (show ip (qd b) k<t.Af.length by rw[u.a];exact m),qz (show ip (qd b) k<t.Ba.length by rw[u.s];exact m),wS j];unfold oC at a;cases h3:gt t.Au (ip (qd b) k)
   .rw[h3] at a;simp only[Cj] at a;rw[<-v] at a;exact a
   rw[h3] at a;simp only[Ci] at a⊢;obtain⟨_,s1⟩:=H k _ r (u.sl _ m);refine Ck s1 ?_;generalize f k (gt t.Ba (ip (qd b) k))=q at a⊢;simp only[rf,jd];unfold BO at a;unfold ob;cases h4:s.1
   .rw[h4] at a;simp only[Bool.not_false,Ci,jd];unfold xH at a;simp only[Cj,Ci] at a;rw[i];exact a
   .rw[h4] at a;simp only[Jq,Cj,ur,jd];unfold xH at a;simp only[Ci] at a;rw[i];exact a)).1
 rw[D _ _ (λk g=>(oh.1 g).2),qaE] at B;unfold kq;refine Ck (AB N) ?_;have e0:(bif (bc (aE xs node)).1 then(ob 0 ⟨node,⟨0,0⟩,⟨0,0⟩⟩ Cd ⟨(bc (aE xs node)).2.Af.Ar,(bc (aE xs node)).2.Af.Bc⟩ ⟨(bc (aE xs node)).2.Ba.Ar,(bc (aE xs node)).2.Ba.Bc⟩).bind (λ(x9,x10)=>V (x10,x9.Bo,x9.Af.Ar,x9.Af.Bc,x9.Ba.Ar,x9.Ba.Bc)) else V (Cd,node,(0:Int),(0:Int),(0:Int),(0:Int))) =
   V ((xH node (bc (aE xs node))).1,(xH node (bc (aE xs node))).2.Bo,(xH node (bc (aE xs node))).2.Af.Ar,(xH node (bc (aE xs node))).2.Af.Bc,(xH node (bc (aE xs node))).2.Ba.Ar,(xH node (bc (aE xs node))).2.Ba.Bc):=by
  cases d:aE xs node with
  |none=>rfl
  |some y=>
   have:=(xw d).1;unfold xH bc;simp only[Ci,this]
   rfl
 refine Cy e0 (Ck (qbe (ps:=places b.Aa) (lo:=pre (sY b) b.Ah.length) (de:=pre (bA b) b.Ah.length) (ex:=ex) x J) (Ck B ?_));have z:=O (qd b).length;generalize pi f (qd b) lv t node (bc (aE xs node)) (qd b).length=s at z⊢;unfold xH;obtain⟨s1,s2⟩:=s;cases s1
 .have:=z Z;simp only at this;subst this;exact .done
 .exact .done
end

theorem tR{b:qf}(h:aL b=An):Ev (λn=>bV n b) ((2*(places b.Aa).length:Nat):Int):=by
 have a:=ab (aO h);have c:=bj a;unfold bV;refine Ck (b:=(places b.Aa).map ms) (oQ a) (Cx ?_);rw[jo,qX (by omega) (by omega)]
 rfl
theorem zH{v:cU}(a:v.places.length<=78)(n:Nat):fc n (V v)=V ((2*v.places.length:Nat):Int):=by
 unfold fc lq;simp only[jd];rw[qX (by omega) (by omega)]
 rfl
def ZK(xs:List ql)(j:Nat):Bool:=decide (j=0) || decide ((gt xs (j-1)).Bo<(gt xs j).Bo)
def MB(xs:List ql)(M:Nat):Bool:=bG (λj=>gu (gt xs j).Bo 0 ((M:Int)-1)&&(ZK xs j&&(nN (gt xs j).Af&&zN (gt xs j).Ba))) xs.length
theorem QK{xs:List ql}{j:Nat}(h:j≠0):ZK xs j=decide ((gt xs (j-1)).Bo<(gt xs j).Bo):=by unfold ZK;rw[decide_eq_false h,Bool.false_or]
theorem RK{b:qf}{xs:List ql}(h:aL b=An)(m:xs.length<=1048576):Ev (λn=>po n b xs) (MB xs (2*(places b.Aa).length)):=by
 have k:=bj (ab (aO h));have e:=tR h;obtain⟨M,g⟩:∃M,M=2*(places b.Aa).length:=⟨_,Z⟩;rw[<-g] at e⊢;have l:M<=156:=by omega
 have i:Ev (λn=>fb xs (M:Int) n 0) (bif MB xs M then .nxt (xs.length:Int) else .ret Cd):=by
  refine ll (Lf:=fb xs (M:Int)) (len:=xs.length) (Cm (by simp only[fb,qr (jf _),Cj];exact .done)) (λj f X d=>Cm ?_);simp only[fb,qp f,Ci,qz f,jd,gC,QB,YA,wS j,wO ((M:Int)-1)];cases gu (gt xs j).Bo 0 ((M:Int)-1)
  .exact .done
  refine Cp Z ?_;by_cases c:j=0
  .subst c;refine Cp Z ?_;show Ev _ (bif (ZK xs 0&&_) then X else _);rw[show ZK xs 0=An from rfl];show Ev (λn=>bif !nN (gt xs 0).Af then _ else bif !zN (gt xs 0).Ba then _ else _) _;cases nN (gt xs 0).Af
   .exact .done
   .cases zN (gt xs 0).Ba
    .exact .done
    .exact d
  .refine Cq (decide_eq_true (by omega)) ?_;rw[show(j:Int)-1=((j-1:Nat):Int) by omega,qX (by omega) (by omega),qz (show j-1<xs.length by omega),QK c];simp only[jd];by_cases a:(gt xs (j-1)).Bo<(gt xs j).Bo
   .rw[decide_eq_true a];refine Cp (decide_eq_false (by omega)) ?_;show Ev (λn=>bif !nN (gt xs j).Af then _ else bif !zN (gt xs j).Ba then _ else _) _;cases nN (gt xs j).Af
    .exact .done
    .cases zN (gt xs j).Ba
     .exact .done
     .exact d
   .rw[decide_eq_false a];exact Cq (decide_eq_true (by omega)) .done
 unfold po;refine Ck e (Ck i ?_);cases MB xs M<;>exact .done
theorem QZ{v:cU}{xs:List ql}(h:v.places.length<=78)(k:xs.length<=1048576):Ev (λn=>kr n (V v) xs) (MB xs (2*v.places.length)):=by
 have e:=zH h;obtain⟨M,f⟩:∃M,M=2*v.places.length:=⟨_,Z⟩;rw[<-f] at e⊢;have i:M<=156:=by omega
 have g:Ev (λn=>cy (V v) xs n 0) (bif MB xs M then .nxt (xs.length:Int) else .ret Cd):=by
  refine ll (Lf:=cy (V v) xs) (len:=xs.length) (Cm (by simp only[cy,qr (jf _),Cj];exact .done)) (λj d X c=>Cm ?_);simp only[cy,qp d,Ci,qz d,jd,vn,e,gV,KH,WR,wS j,wO ((M:Int)-1)];cases gu (gt xs j).Bo 0 ((M:Int)-1)
  .exact .done
  refine Cp Z ?_;show Ev (λn=>bif !nN (gt xs j).Af then _ else bif !zN (gt xs j).Ba then _ else _) _;rw[jN,Bool.and_comm];cases nN (gt xs j).Af
  .exact .done
  .cases zN (gt xs j).Ba
   .exact .done
   .refine Cp Z (Cp Z ?_);rw[jN,jN];by_cases b:j=0
    .subst b;exact Cp Z c
    .refine Cq (decide_eq_true (by omega)) ?_;rw[show(j:Int)-1=((j-1:Nat):Int) by omega,qX (by omega) (by omega),qz (show j-1<xs.length by omega),QK b];simp only[jd];by_cases a:(gt xs (j-1)).Bo<(gt xs j).Bo
     .rw[decide_eq_true a];exact Cp (decide_eq_false (by omega)) c
     .rw[decide_eq_false a];exact Cq (decide_eq_true (by omega)) .done
 unfold kr;refine Ck g ?_;cases MB xs M<;>exact .done
theorem yM{xs:List ql}{M:Nat}(f:xs.length<=1048576)(h:MB xs M=An):HP xs:=by
 unfold MB at h;rw[aA] at h;refine⟨f,λj=>?_,λx g=>?_⟩
 .induction j with
  |zero=>intro i hi _;omega
  |succ j ih=>
   intro i hi d;have a:=h (j+1) d;rw[QK (by omega)] at a;simp only[je,decide_eq_true_eq,Nat.add_sub_cancel] at a;have c:=a.2.1;by_cases b:i=j
   .rw[b];exact c
   .have:=ih i (by omega) (by omega);omega
 .obtain⟨i,hi,rfl⟩:=List.mem_iff_getElem.1 g;have a:=h i hi;rw[<-fd hi];simp only[je] at a;have:=a.2.2.2;unfold zN at this;simp only[je,decide_eq_true_eq] at this;exact⟨⟨this.1,by omega⟩,by omega,this.2.2⟩
section
variable{L:Nat}{fr to:Nat->Int}{lv:Nat->Bool}{n:Nat}
def vb(L:Nat)(fr to:Nat->Int)(lv:Nat->Bool)(n:Nat)(R:List Nat):Prop:=∀l1 k l2,R=l1++k::l2->k<n/\k∉l1/\RH L fr to lv l1 k=0
theorem vb.snoc{R:List Nat}{k:Nat}(h:vb L fr to lv n R)(d:Q9 L fr to lv n R=V k):vb L fr to lv n (R++[k]):=by
 intro l1 a l2 e;rcases List.eq_nil_or_concat l2 with rfl|⟨l2',z,rfl⟩
 .obtain⟨rfl,c⟩:=List.append_inj' e Z;obtain rfl:k=a:=by simpa using c
  exact LH d
 .have b:R++[k]=(l1++a::l2')++[z]:=by rw[e];simp
  obtain⟨e1,_⟩:=List.append_inj' b Z;exact h l1 a l2' e1
theorem qcc:∀m R R',vb L fr to lv n R->R5 L fr to lv n m R=V R'->vb L fr to lv n R':=by
 intro m
 induction m with
 |zero=>intro R R' h e;obtain rfl:=Option.some.inj e;exact h
 |succ m ih=>
  intro R R' h e;unfold R5 at e;cases hn:Q9 L fr to lv n R with
  |none=>rw[hn] at e;cases e
  |some k=>
   rw[hn] at e;exact ih _ _ (h.snoc hn) e
theorem vb.at{R:List Nat}(h:vb L fr to lv n R){j:Nat}(a:j<R.length):R[j]<n/\R[j]∉R.take j/\RH L fr to lv (R.take j) R[j]=0:=by
 refine h (R.take j) R[j] (R.drop (j+1)) ?_;rw[<-jF a,List.take_append_drop]
end
theorem FF{α:Type}[Inhabited α]{xs:List α}{k:Nat}{v:α}(a:k<xs.length)(h:gt xs k=v):am xs (k:Int) v=xs:=by
 unfold am;rw[jq,<-h,fd a];exact List.set_getElem_self a
theorem mh{α:Type}[Inhabited α]{xs:List α}{a k:Nat}{y:α}(b:a<xs.length):gt (am xs (a:Int) y) k=if k=a then y else gt xs k:=by
 unfold am;rw[jq];by_cases h:k=a
 .subst h;rw[if_pos Z,MJ b]
 .rw[if_neg h,SF h]
def HG(t:qu)(k:Nat)(s:Bool×ql):qu:=⟨am t.Au (k:Int) s.1,am t.Af (k:Int) s.2.Af,am t.Ba (k:Int) s.2.Ba⟩
theorem VO{t:qu}{M k:Nat}{s:Bool×ql}(h:GQ t M)(c:k<M)(d:QC s.2.Ba):GQ (HG t k s) M where
 r:=by show(am _ _ _).length=_;rw[cg];exact h.r
 a:=by show(am _ _ _).length=_;rw[cg];exact h.a
 s:=by show(am _ _ _).length=_;rw[cg];exact h.s
 sl:=λj b=>by
  show QC (gt (am _ _ _) j);rw[mh (by rw[h.s];exact c)];split
  .exact d
  .exact h.sl j b
def qbs(t:qu)(M:Nat)(l:List Nat):Prop:=∀k,k<M->k∉l->gt t.Au k=Cd/\gt t.Af k=N8/\gt t.Ba k=N8
def zT:qu:=⟨[],[],[]⟩
theorem qbn:QC N8:=by unfold QC N8;exact⟨⟨jL _,by show(0:Int)<=_;omega⟩,jL _,by show(0:Int)<=_;omega⟩
theorem qbU{s t:qg}(a:QC s)(b:QC t):QC (GJ s t):=by
 obtain⟨⟨a1,a2⟩,c,d⟩:=a;obtain⟨⟨b1,b2⟩,b3,f⟩:=b;refine⟨⟨?_,?_⟩,?_,?_⟩
 .show(0:Int)<=(if t.Ar<s.Ar then t.Ar else s.Ar);split<;>assumption
 .show(if t.Ar<s.Ar then t.Ar else s.Ar)<=1000000;split<;>assumption
 .show(0:Int)<=(if t.Bc > s.Bc then t.Bc else s.Bc);split<;>assumption
 .show(if t.Bc > s.Bc then t.Bc else s.Bc)<=1000000;split<;>assumption
section
variable{b:qf}{c:qH}{ex:List Int}{f g:Nat->qg->qg×qg}{lv:List Bool}{t:qu}{xs:List ql}{node:Int}
theorem ST(h:aL b=An)(m:xA b c g)(i:∀k s,(f k s).2=(g k s).2)(n:GQ t (2*(places b.Aa).length))(o:HP xs):∀j,j<=(qd b).length->QC (pi f (qd b) lv t node (bc (aE xs node)) j).2.Ba:=by
 intro j
 induction j with
 |zero=>
  intro _;show QC (bc (aE xs node)).2.Ba;cases hs:aE xs node with
  |none=>exact qbn
  |some y=>exact o.sl y (xw hs).2
 |succ j a=>
  intro p;have a:=a (by omega);obtain⟨_,l⟩:=uk (kA h) (show j<(qd b).length by omega);have d:=(m j _ (show j<(qd b).length by omega) (n.sl _ l)).1;rw[<-i] at d;show QC (bif uZ (qd b) lv node j then oC f (qd b) t node (pi f (qd b) lv t node (bc (aE xs node)) j) j else pi f (qd b) lv t node (bc (aE xs node)) j).2.Ba;cases uZ (qd b) lv node j
  .exact a
  .simp only[Ci];unfold oC;cases gt t.Au (ip (qd b) j)
   .exact a
   .simp only[Ci];unfold BO;cases (pi f (qd b) lv t node (bc (aE xs node)) j).1
    .exact d
    .exact qbU a d
theorem YG(h:aL b=An)(a:xA b c f)(d:GQ t (2*(places b.Aa).length))(g:HP xs):∀j,j<=(qd b).length->QC (pi f (qd b) lv t node (bc (aE xs node)) j).2.Ba:=ST h a (λ_ _=>rfl) d g
theorem qca:∀j,(pi f (qd b) lv t node (bc (aE xs node)) j).1=Cd->(pi f (qd b) lv t node (bc (aE xs node)) j).2=ZU:=by
 intro j
 induction j with
 |zero=>
  show(bc (aE xs node)).1=Cd->(bc (aE xs node)).2=ZU;cases aE xs node with
  |none=>exact λ_=>rfl
  |some y=>intro e;cases e
 |succ j ih=>
  unfold pi;cases uZ (qd b) lv node j
  .exact ih
  .simp only[Ci];unfold oC;cases gt t.Au (ip (qd b) j)
   .exact ih
   .simp only[Ci];unfold BO;cases (pi f (qd b) lv t node (bc (aE xs node)) j).1<;>(intro e;cases e)
def qew(o:Option qu):qu×Bool:=match o with|some t=>(t,An)|none=>(zT,Cd)
def ZX(f:Nat->qg->qg×qg)(ls:List qx)(lv:List Bool)(xs:List ql):List Nat->qu->Option qu
 | [],t=>V t
 |k::R,t=>bif (pi f ls lv t (k:Int) (bc (aE xs (k:Int))) ls.length).1 then bif nN (pi f ls lv t (k:Int) (bc (aE xs (k:Int))) ls.length).2.Af then ZX f ls lv xs R (HG t k (pi f ls lv t (k:Int) (bc (aE xs (k:Int))) ls.length)) else U else ZX f ls lv xs R t
def G8(M:Nat):qu:=⟨List.replicate M Cd,List.replicate M N8,List.replicate M N8⟩
theorem OY{α:Type}[Inhabited α]{v:α}{M k:Nat}(a:k<M):gt (List.replicate M v) k=v:=by rw[fd (by rw[jJ];exact a)];simp
theorem QT{M:Nat}:GQ (G8 M) M:=⟨jJ,jJ,jJ,λk a=>by
 show QC (gt (List.replicate M N8) k);rw[OY a];exact qbn⟩
theorem ZV{M:Nat}{l:List Nat}:qbs (G8 M) M l:=λ_ a _=>⟨OY a,OY a,OY a⟩
theorem qdR(h:aL b=An)(m:xA b c f)(n:HP xs):∀(R:List Nat) (t d:qu),(∀k,k∈R->k<2*(places b.Aa).length)->GQ t (2*(places b.Aa).length)->ZX f (qd b) lv xs R t=V d->GQ d (2*(places b.Aa).length):=by
 intro R
 induction R with
 |nil=>intro t d _ a e;obtain rfl:=Option.some.inj e;exact a
 |cons k R ih=>
  intro t d g a e;have l:=YG (node:=(k:Int)) (lv:=lv) h m a n (qd b).length (jf _);unfold ZX at e;cases h1:(pi f (qd b) lv t (k:Int) (bc (aE xs (k:Int))) (qd b).length).1
  .rw[h1] at e;exact ih _ _ (λi hi=>g i (jr _ hi)) a e
  .rw[h1] at e;cases h2:nN (pi f (qd b) lv t (k:Int) (bc (aE xs (k:Int))) (qd b).length).2.Af
   .rw[h2] at e;cases e
   .rw[h2] at e;exact ih _ _ (λi hi=>g i (jr _ hi)) (VO a (g k (ju ..)) l) e
def qev(o:Option qu)(m:Nat):eE (qu×Bool) (List qg×List qg×List Bool×Int):=match o with|some t'=>.nxt (t'.Ba,t'.Af,t'.Au,(m:Int))|none=>.ret (zT,Cd)
theorem M6(h:aL b=An)(A:xA b c f)(H:lv.length=(qd b).length)(B:HP xs){R:List Nat}(C:∀k,k∈R->k<2*(places b.Aa).length)(D:R.length<=1000) :
  Ev (λn=>yK n b c (qd b) lv xs (eB R)) (qew (ZX f (qd b) lv xs R (G8 (2*(places b.Aa).length)))):=by
 have I:=bj (ab (aO h));have m:=tR h;obtain⟨M,u⟩:∃M,M=2*(places b.Aa).length:=⟨_,Z⟩;have L:M<=156:=by omega
 have r:∀d j t,j+d=R.length->GQ t M->Ev (λn=>fO b c (qd b) lv xs (eB R) n t.Ba t.Af t.Au (j:Int)) (qev (ZX f (qd b) lv xs (R.drop j) t) R.length):=by
  intro d
  induction d with
  |zero=>
   intro j t F g;obtain rfl:j=R.length:=by omega
   rw[List.drop_length];refine Cm ?_;simp only[fO,du,qr (jf _),Cj];exact .done
  |succ d ih=>
   intro j t F g;have a:j<R.length:=by omega
   have l:=C _ (jm a);have hi:=yu a;have z:R.drop j=R[j]::R.drop (j+1):=jF a;generalize R[j]=k at l hi z;rw[<-u] at l;have v:=qa6 (node:=(k:Int)) h A H (by rw[<-u];exact g) B;have p:=YG (node:=(k:Int)) (lv:=lv) h A (by rw[<-u];exact g) B (qd b).length (jf _);have K:qG t.Au (k:Int)=V (gt t.Au k):=qz (by rw[g.r];exact l);have J:qG t.Af (k:Int)=V (gt t.Af k):=qz (by rw[g.a];exact l);have is:qG t.Ba (k:Int)=V (gt t.Ba k):=qz (by rw[g.s];exact l);have i:∀n,fO b c (qd b) lv xs (eB R) (n+1) t.Ba t.Af t.Au (j:Int)=(uU n b c (qd b) lv xs t (k:Int)).bind λ(r4,r5)=>bif (!r4) then fO b c (qd b) lv xs (eB R) n t.Ba t.Af t.Au ((j+1:Nat):Int) else bif (!nN r5.Af) then V (.ret (zT,Cd)) else
     fO b c (qd b) lv xs (eB R) n (am t.Ba (k:Int) r5.Ba) (am t.Af (k:Int) r5.Af) (am t.Au (k:Int) An) ((j+1:Nat):Int):=λn=>by
    simp only[fO,du,qp a,Ci,hi,jd,QB,K,J,is,wS j]
    rfl
   rw[z];unfold ZX;generalize pi f (qd b) lv t (k:Int) (bc (aE xs (k:Int))) (qd b).length=s at v p⊢;obtain⟨s1,s2⟩:=s;cases s1
   .exact Ev.step i (Ck v (ih (j+1) t (by omega) g))
   .cases hsp:nN s2.Af
    .refine Ev.step i (Ck v ?_);simp only[hsp];exact .done
    .refine Ev.step i (Ck v ?_);simp only[hsp];exact ih (j+1) (HG t k (An,s2)) (by omega) (VO g l p)
 have x:yW (M:Int) Cd=V (List.replicate M Cd):=yw (by omega);have y:yW (M:Int) (⟨0,0⟩:qg)=V (List.replicate M N8):=yw (by omega);have o2:=r R.length 0 (G8 M) (by omega) QT;rw[List.drop_zero] at o2;rw[<-u] at m⊢;unfold yK zg;refine Ck m ?_;simp only[x,y,jd];refine Ck o2 ?_;cases ZX f (qd b) lv xs R (G8 M)<;>exact .done
theorem qbW(h:aL b=An)(hg:xA b c g)(H:∀k s,(f k s).2=(g k s).2)(hf:GP b c ex f)(hl:lv.length=(qd b).length)(P:HP xs){R:List Nat}(Y:∀j,∀O:j<R.length,R[j]<2*(places b.Aa).length/\R[j]∉R.take j)(a3:R.length<=1000) :
  Ev (λn=>mZ n (V ⟨V (nO b ex),lv⟩) c xs (eB R)) (qew (ZX f (qd b) lv xs R (G8 (2*(places b.Aa).length)))):=by
 have L:=bj (ab (aO h));have r:=zH (v:=nO b ex) L;have D:(nO b ex).places.length=(places b.Aa).length:=rfl;rw[D] at r;obtain⟨M,B⟩:∃M,M=2*(places b.Aa).length:=⟨_,Z⟩;have hM:M<=156:=by omega
 have A:∀d j t,j+d=R.length->GQ t M->qbs t M (R.take j)->Ev (λn=>cx (V ⟨V (nO b ex),lv⟩) c xs (eB R) n t.Ba t.Af t.Au (j:Int)) (qev (ZX f (qd b) lv xs (R.drop j) t) R.length):=by
  intro d
  induction d with
  |zero=>
   intro j t O a _;obtain rfl:j=R.length:=by omega
   rw[List.drop_length];refine Cm ?_;simp only[cx,du,qr (jf _),Cj];exact .done
  |succ d ih=>
   intro j t O a F;have m:j<R.length:=by omega
   obtain⟨l,S⟩:=Y j m;have hi:=yu m;have x:R.take (j+1)=R.take j++[R[j]]:=jw m;have N:R.drop j=R[j]::R.drop (j+1):=jF m;generalize R[j]=k at l S hi x N;rw[<-B] at l;have C:=qap (node:=(k:Int)) h hf hl (by rw[<-B];exact a) P.len;have z:=ST (node:=(k:Int)) (lv:=lv) h hg H (by rw[<-B];exact a) P (qd b).length (jf _);have Q:=qca (f:=f) (b:=b) (lv:=lv) (t:=t) (xs:=xs) (node:=(k:Int)) (qd b).length;obtain⟨b1,b2,b3⟩:=F k l S;have ir:qG t.Au (k:Int)=V (gt t.Au k):=qz (by rw[a.r];exact l);have ia:qG t.Af (k:Int)=V (gt t.Af k):=qz (by rw[a.a];exact l);have is:qG t.Ba (k:Int)=V (gt t.Ba k):=qz (by rw[a.s];exact l);have y:∀n,cx (V ⟨V (nO b ex),lv⟩) c xs (eB R) (n+1) t.Ba t.Af t.Au (j:Int)=(kq n (V ⟨V (nO b ex),lv⟩) c xs t (k:Int)).bind λ(r3,r4)=>(bif r3 then V (!nN r4.Af) else V Cd).bind λb3=>bif b3 then V (.ret (zT,Cd)) else
     cx (V ⟨V (nO b ex),lv⟩) c xs (eB R) n (am t.Ba (k:Int) r4.Ba) (am t.Af (k:Int) r4.Af) (am t.Au (k:Int) r3) ((j+1:Nat):Int):=λn=>by
    simp only[cx,du,qp m,Ci,hi,jd,KH,ir,ia,is,wS j]
    rfl
   rw[N];unfold ZX;generalize pi f (qd b) lv t (k:Int) (bc (aE xs (k:Int))) (qd b).length=s at C z Q⊢;obtain⟨s1,s2⟩:=s;cases s1
   .have:=Q Z;simp only at this;subst this;have e1:am t.Ba (k:Int) ZU.Ba=t.Ba:=FF (by rw[a.s];exact l) b3;have W:am t.Af (k:Int) ZU.Af=t.Af:=FF (by rw[a.a];exact l) b2;have X:am t.Au (k:Int) Cd=t.Au:=FF (by rw[a.r];exact l) b1;refine Ev.step y (Ck C ?_);simp only[Cj,jd,e1,W,X];exact ih (j+1) t (by omega) a (λi hi p=>F i hi (λI=>p (by rw[x];exact jM _ I)))
   .cases hsp:nN s2.Af
    .refine Ev.step y (Ck C ?_);simp only[hsp];exact .done
    .refine Ev.step y (Ck C ?_);simp only[hsp];refine ih (j+1) (HG t k (An,s2)) (by omega) (VO a l z) (λi hi p=>?_);rw[x] at p;have u:i≠k:=λe=>p (jX _ (List.mem_singleton.2 e));have:=F i hi (λI=>p (jM _ I));refine⟨?_,?_,?_⟩
     .show gt (am _ _ _) i=_;rw[mh (by rw[a.r];exact l),if_neg u];exact this.1
     .show gt (am _ _ _) i=_;rw[mh (by rw[a.a];exact l),if_neg u];exact this.2.1
     .show gt (am _ _ _) i=_;rw[mh (by rw[a.s];exact l),if_neg u];exact this.2.2
 have J:yW (M:Int) Cd=V (List.replicate M Cd):=yw (by omega);have K:yW (M:Int) (⟨0,0⟩:qg)=V (List.replicate M N8):=yw (by omega);have T:=A R.length 0 (G8 M) (by omega) QT ZV;rw[List.drop_zero] at T;rw[<-B] at r⊢;unfold mZ sJ;simp only[jd,r,J,K];refine Ck T ?_;cases ZX f (qd b) lv xs R (G8 M)<;>exact .done
end

abbrev yg(b:qf):Nat:=(qd b).length
abbrev vH(b:qf):Nat:=2*(places b.Aa).length
abbrev rj(b:qf)(br:List Int):List Bool:=qaz br (yg b)
def WE(b:qf)(br:List Int):Option aX:=V ⟨V (mw b),rj b br⟩
structure O3(b:qf)(c:qH)(br:List Int)(xs:List ql)(R:List Nat):Prop where
 bl:aL b=An
 co:ke c=An
 br_:qbo br (yg b)=An
 sr:MB xs (vH b)=An
 or_:IL (qd b) (rj b br) (vH b) (vH b) []=V R
theorem O3.ord{b:qf}{c:qH}{br:List Int}{xs:List ql}{R:List Nat}(h:O3 b c br xs R):vb (yg b) (CL (qd b)) (FH (qd b)) (AX (rj b br)) (vH b) R:=
 qcc (vH b) [] R (λl1 k l2 e=>by cases l1<;>cases e) h.or_
theorem O3.len{b:qf}{c:qH}{br:List Int}{xs:List ql}{R:List Nat}(h:O3 b c br xs R):R.length=vH b:=by
 have:=qaK (vH b) [] R h.or_;simpa using this
theorem oF{x:Int}(h:x≠0):(x != 0)=An:=by simpa using h
theorem qc2{b:qf}{c:qH}{br:List Int}{xs:List ql}(B:wj b)(H:OA c.Bi)(a:br.length<=1048576)(m:xs.length<=1048576) :
  (∃code:Int,code≠0/\Ev (λn=>sw n b c br xs) ([],code)/\Ev (λn=>oe n b c br xs U) (U,[],code)) \/
  ∃R,O3 b c br xs R/\Ev (λn=>sw n b c br xs) (eB R,0)/\Ev (λn=>oe n b c br xs U) (WE b br,eB R,0):=by
 have s1:=rE B;have k:=ZZ B;have s2:=VM (c:=c) H;have s:=WJ (c:=c) H;unfold sw oe;cases h1:aL b
 .rw[h1] at s1 k;exact .inl ⟨1,by omega,Ck (b:=An) (Ck s1 (Cq Z .done)) (Cq Z .done),Ck (b:=An) (Ck k (Cq Z .done)) (Cq Z .done)⟩
 cases h2:ke c
 .rw[h1] at s1 k;rw[h2] at s2 s;exact .inl ⟨1,by omega,Ck (b:=An) (Ck s1 (Cp Z (Ck s2 .done))) (Cq Z .done),Ck (b:=An) (Ck k (Cp Z (Ck s .done))) (Cq Z .done)⟩
 have C:=bj (ab (aO h1));have d:=lY h1;have I:=kA h1;have i:=D6 (br:=br) B h1 a;have f:=XT (v:=mw b) (br:=br) a d;have y:=RK (xs:=xs) h1 m;have p:=QZ (v:=mw b) (xs:=xs) C m;have F:(mw b).links=qd b:=rfl;have M:(mw b).places=places b.Aa:=rfl;rw[F] at f;rw[M] at p;rw[h1] at s1 k;rw[h2] at s2 s;have A:Ev (λn=>(ki n b).bind λg=>bif (!g) then V An else(sZ n c).bind λh=>V (!h)) Cd:=Ck s1 (Cp Z (Ck s2 .done));have u:Ev (λn=>(un n b).bind λg=>bif (!g) then V An else(sS n c).bind λh=>V (!h)) Cd:=Ck k (Cp Z (Ck s .done));have x:=E1 h1;cases h3:qbo br (yg b)
 .rw[h3] at i f;exact .inl ⟨2,by omega,Ck A (Cp Z (Ck (b:=An) (Ck i (Cq Z .done)) (Cq Z .done))),
   Ck u (Cp Z (Ck x (Ck (b:=Cd) (Cp Z .done) (Cp Z (Ck (b:=An) (Ck f (Cq Z .done)) (Cq Z .done))))))⟩
 cases h4:MB xs (vH b)
 .rw[h3] at i f;rw[h4] at y p;exact .inl ⟨2,by omega,Ck A (Cp Z (Ck (b:=An) (Ck i (Cp Z (Ck y .done))) (Cq Z .done))),
   Ck u (Cp Z (Ck x (Ck (b:=Cd) (Cp Z .done) (Cp Z (Ck (b:=An) (Ck f (Cp Z (Ck p .done))) (Cq Z .done))))))⟩
 have D:=C7 (v:=mw b) (br:=br) d h3;rw[F] at D;have Q:=rh (ls:=qd b) (br:=br) d a;have l:(rj b br).length=yg b:=vG;have z:=TG (lv:=rj b br) I l;have t:=P7 (b:=b) (ps:=places b.Aa) (lo:=pre (sY b) b.Ah.length) (de:=pre (bA b) b.Ah.length) (ex:=[]) (lv:=rj b br) I l Z;rw[h3] at i f;rw[h4] at y p;have K:Ev (λn=>(sv n b br).bind λO=>bif (O != 0) then V An else(po n b xs).bind λP=>V (!P)) Cd:=Ck i (Cp Z (Ck y .done));have J:Ev (λn=>(lX n (V (mw b)) br).bind λg=>bif (!g) then V An else(kr n (V (mw b)) xs).bind λh=>V (!h)) Cd:=Ck f (Cp Z (Ck p .done));have L:∀r:List Int×Int,Ev (λn=>(pz n (vH b:Int) (qd b) (rj b br)).bind λ(g,h)=>bif (!h) then V (([]:List Int),(7:Int)) else V (g,0)) r->Ev (λn=>mq n b br) r:=λr N=>by
  unfold mq;exact Ck i (Cp Z (Ck (hU h1) (Ck (tR h1) (Ck Q N))))
 cases ho:IL (qd b) (rj b br) (vH b) (vH b) [] with
 |none=>
  have e:RM (qd b) (rj b br) (vH b)=([],Cd):=by unfold RM;rw[ho]
  rw[e] at z t;exact .inl ⟨7,by omega,Ck A (Cp Z (Ck K (Cp Z (Ck (L ([],7) (Ck z (Cq Z .done))) .done)))),
   Ck u (Cp Z (Ck x (Ck (b:=Cd) (Cp Z .done) (Cp Z (Ck J (Cp Z (Ck D (Ck t (Cq Z .done)))))))))⟩
 |some R=>
  have e:RM (qd b) (rj b br) (vH b)=(eB R,An):=by unfold RM;rw[ho]
  rw[e] at z t;exact .inr ⟨R,⟨h1,h2,h3,h4,ho⟩,Ck A (Cp Z (Ck K (Cp Z (Ck (L (eB R,0) (Ck z (Cp Z .done))) .done)))),
   Ck u (Cp Z (Ck x (Ck (b:=Cd) (Cp Z .done) (Cp Z (Ck J (Cp Z (Ck D (Ck t (Cp Z .done)))))))))⟩
structure pW(j:aZ)(t:qu)(R:List Nat):Prop where
 tg:O3 j.Ac j.Aj j.Ay j.Am R
 tm:GQ t (vH j.Ac)
def ya(j:aZ)(t:qu)(R:List Nat):Option aS:=V ⟨WE j.Ac j.Ay,j,t,eB R⟩
theorem WA{j:aZ}(h:nH j) :
  (∃code:Int,code≠0/\Ev (λn=>cq n j.Ac j.Aj j.Ay j.Am) (zT,code)/\Ev (λn=>wa n j) (U,code)) \/
  ∃t R,pW j t R/\Ev (λn=>cq n j.Ac j.Aj j.Ay j.Am) (t,0)/\Ev (λn=>wa n j) (ya j t R,0):=by
 have g:=h.Ay.len;have a:=h.Am.len;unfold cq wa;rcases qc2 h.Ac h.Aj.Bi g a with⟨code,hne,hs,hi⟩|⟨R,hg,hs,hi⟩
 .exact .inl ⟨code,hne,Ck hs (Cq (oF hne) .done),Ck hi (Cq (oF hne) .done)⟩
 .have b:=hg.bl;have s:=lY b;have v:=rh (ls:=qd j.Ac) (br:=j.Ay) s g;obtain⟨f,p,r⟩:=ZF b hg.co;have l:=r [] (.inl Z);rw[TQ] at l;have y:=bj (ab (aO b));have m:=hg.len;have c:R.length<=1000:=by rw[m];show 2*(places j.Ac.Aa).length<=1000;omega
  have d:∀k,k∈R->k<2*(places j.Ac.Aa).length:=λk x=>by
   obtain⟨i,hi,rfl⟩:=List.mem_iff_getElem.1 x;exact(hg.ord.at hi).1
  have o2:=M6 (lv:=rj j.Ac j.Ay) (R:=R) b p vG (yM a hg.sr) d c;have u:=qbW (lv:=rj j.Ac j.Ay) (R:=R) b p (λ_ _=>rfl) l vG (yM a hg.sr) (λi hi=>⟨(hg.ord.at hi).1,(hg.ord.at hi).2.1⟩) c;have o1:=qdR (lv:=rj j.Ac j.Ay) b p (yM a hg.sr) R (G8 (2*(places j.Ac.Aa).length));generalize ZX f (qd j.Ac) (rj j.Ac j.Ay) j.Am R (G8 (2*(places j.Ac.Aa).length))=o at o1 o2 u;cases o with
  |none=>exact .inl ⟨3,by omega,Ck hs (Cp Z (Ck (hU b) (Ck v (Ck o2 (Cq Z .done))))),Ck hi (Cp Z (Ck u (Cq Z .done)))⟩
  |some t=>exact .inr ⟨t,R,⟨hg,o1 t d QT Z⟩,Ck hs (Cp Z (Ck (hU b) (Ck v (Ck o2 (Cp Z .done))))),Ck hi (Cp Z (Ck u (Cp Z .done)))⟩
end Go.Fw


namespace Go.Fw
open Go Go.Proofs
open Go.RowKit (Below)
set_option maxRecDepth 100000
set_option maxHeartbeats 6400000
def nW(_:Nat)(x:Int):Option Bool:=
 V (x != x)
theorem vS{n:Nat}{w:World}{x:Int}  {r:Bool}(a:nW n x=V r):TY Tryz.prog 164 [.int .i64 x] w (.bool r):=by
 refine rC Tryz.func164 Z (m:=6) Z Z (λh b=>?_);rw[nW] at a;refine aD ?_;refine ah ?_;refine mA qa Z Z ?_;refine ae ?_;refine aD ?_;refine ah ?_;refine mA qa Z Z ?_;refine mA qa Z Z ?_;refine mA qa Z Z ?_;refine mA qa Z Z ?_;refine ae ?_;obtain rfl:=qe a;exact rz h b qa ⟨Z,G⟩
def fE(n:Nat)(x:Int)(y:Int):Option Int:=
 (nW n x).bind λr1=>
 (nW n y).bind λa=>
 bif r1 then
  bif a then
   V 0
  else
   V (-1)
 else
  bif a then
   V 1
  else
   bif decide (x<y) then
    V (-1)
   else
    bif decide (x > y) then
     V 1
    else
     V 0
theorem mg{n:Nat}{w:World}{x:Int}{y:Int}  {r:Int}(a:fE n x y=V r):TY Tryz.prog 103 [.int .i64 x,.int .i64 y] w (.int .i64 r):=by
 refine rC Tryz.func103 Z (m:=20) Z Z (λh b=>?_);rw[fE] at a;refine aD ?_;refine ah ?_;refine mA qa Z Z ?_;refine ae ?_;refine aD ?_;refine ah ?_;refine mA qa Z Z ?_;obtain⟨r1,k,a⟩:=qc a;refine uI h b (cB 164 Z) (vS k) Z Z Z Z ?_;intro w1 h b;refine mA qa Z Z ?_;refine ae ?_;refine aD ?_;refine ah ?_;refine mA qa Z Z ?_;obtain⟨o,l,a⟩:=qc a;refine uI h b (cB 164 Z) (vS l) Z Z Z Z ?_;intro p h b;refine mA qa Z Z ?_;refine ae ?_;refine aD ?_;refine aD ?_;refine ah ?_;refine mA qa Z Z ?_;refine ae ?_;refine vw Z (λc=>?_) (λc=>?_)
 .replace a:=KM c a;refine aD ?_;refine aD ?_;refine ah ?_;refine mA qa Z Z ?_;refine ae ?_;refine vw Z (λd=>?_) (λd=>?_)
  .replace a:=KM d a;refine aD ?_;refine ah ?_;refine mA qa Z Z ?_;refine ae ?_;obtain rfl:=qe a;exact rz h b qa ⟨Z,G⟩
  .replace a:=KL d a;refine eZ ?_;refine aD ?_;refine ah ?_;refine mA qa Z Z ?_;refine ae ?_;obtain rfl:=qe a;exact rz h b qa ⟨Z,G⟩
 .replace a:=KL c a;refine eZ ?_;refine aD ?_;refine aD ?_;refine ah ?_;refine mA qa Z Z ?_;refine ae ?_;refine vw Z (λf=>?_) (λf=>?_)
  .replace a:=KM f a;refine aD ?_;refine ah ?_;refine mA qa Z Z ?_;refine ae ?_;obtain rfl:=qe a;exact rz h b qa ⟨Z,G⟩
  .replace a:=KL f a;refine eZ ?_;refine aD ?_;refine aD ?_;refine ah ?_;refine mA qa Z Z ?_;refine mA qa Z Z ?_;refine mA qa Z Z ?_;refine ae ?_;refine vw Z (λg=>?_) (λg=>?_)
   .replace a:=KM g a;refine aD ?_;refine ah ?_;refine mA qa Z Z ?_;refine ae ?_;obtain rfl:=qe a;exact rz h b qa ⟨Z,G⟩
   .replace a:=KL g a;refine eZ ?_;refine aD ?_;refine aD ?_;refine ah ?_;refine mA qa Z Z ?_;refine mA qa Z Z ?_;refine mA qa Z Z ?_;refine ae ?_;refine vw Z (λi=>?_) (λi=>?_)
    .replace a:=KM i a;refine aD ?_;refine ah ?_;refine mA qa Z Z ?_;refine ae ?_;obtain rfl:=qe a;exact rz h b qa ⟨Z,G⟩
    .replace a:=KL i a;refine eZ ?_;refine aD ?_;refine ah ?_;refine mA qa Z Z ?_;refine ae ?_;obtain rfl:=qe a;exact rz h b qa ⟨Z,G⟩
def bF(a:List Int)(b:List Int):Nat->Int->Option (eE Int Int)
 |0,_=>U
 |n+1,i1=>
  bif decide (i1<(a.length:Int)) then
   (qG a i1).bind λc=>
   bif decide (i1>=(b.length:Int)) then
    V (.ret 1)
   else
    (qG b i1).bind λd=>
    (fE n c d).bind λr1=>
    bif (r1 != 0) then
     V (.ret r1)
    else
     bF a b n (qj (i1+1))
  else
   V (.nxt i1)
def ks(n:Nat)(a:List Int)(b:List Int):Option Int:=
 (bF a b n 0).bind λ|.ret r=>V r|.nxt _=>bif decide ((a.length:Int)<(b.length:Int)) then V (-1) else V 0
theorem zd{n:Nat}{w:World}{b:List Int}{c:List Int}{o:List Value}(y:Ro w b o){p:List Value}(z:Ro w c p){r:Int}(a:ks n b c=V r):TY Tryz.prog 104 [qm.v (List Int) o,qm.v (List Int) p] w (.int .i64 r):=by
 obtain⟨p1,M,rfl,s1⟩:=y;obtain⟨S,P,rfl,s2⟩:=z;refine rC Tryz.func104 Z (m:=36) Z Z (λh d=>?_);rw[ks] at a;refine aD ?_;refine ah ?_;refine mA qa Z Z ?_;refine ae ?_;refine aD ?_;refine aD ?_;refine ah ?_;refine mA qa Z Z ?_;refine mA qa Z Z ?_;refine mA qa Z Z ?_;refine ae ?_;obtain⟨o1,a,f⟩:=qc a;refine qq ?_;refine qaY [(0,_),(1,_),(9,_),(10,_),(11,_)] ⟨Z,Z,Z,Z,Z,G⟩ ?_;refine E7 (λm e w'=>∃(L:Int),bF b c m L=V o1/\e=[(0,.slice p1 b.length M),(1,.slice S c.length P),(9,.slice p1 b.length M),(10,.int .i64 (b.length:Int)),(11,.int .i64 L)]/\SH w w' []/\w.drawn<=w'.drawn) n ⟨_,a,Z,h,d⟩ ?_;rintro x e1 w1 ⟨L,a,rfl,h,d⟩;rcases x with _|x
 .rw[bF] at a;cases a
 rw[bF] at a;refine aD ?_;refine ah ?_;refine mA qa Z Z ?_;refine ae ?_;refine aD ?_;refine vw Z (λg=>?_) (λg=>?_)
 .replace a:=KM g a;refine eZ ?_;refine aD ?_;refine qq ?_;refine aD ?_;refine ah ?_;refine mA qa Z Z ?_;obtain⟨Y,u,a⟩:=qc a;have s:=bJ u;obtain⟨b1,Q,T,N,C,F,-,I,A⟩:=s1.at u;obtain rfl:=I;refine dF (ZP qa C F ⟨s.1,s.2.1⟩ Z Z Z Z Z Z) Z ?_;refine dF (da qa (A.below h.below) (j:=0) Z Z Z) Z ?_;refine mA qa Z Z ?_;refine mA qa Z Z ?_;refine ae ?_;refine aD ?_;refine aD ?_;refine ah ?_;refine mA qa Z Z ?_;refine mA qa Z Z ?_;refine mA qa Z Z ?_;refine mA qa Z Z ?_;refine ae ?_;refine vw Z (λi=>?_) (λi=>?_)
  .replace a:=KM i a;refine aD ?_;refine ah ?_;refine mA qa Z Z ?_;refine ae ?_;obtain rfl:=qe a;replace a:=f;obtain rfl:=qe a;exact rz h d qa ⟨Z,G⟩
  .replace a:=KL i a;refine eZ ?_;refine aD ?_;refine ah ?_;refine mA qa Z Z ?_;refine mA qa Z Z ?_;obtain⟨y2,v,a⟩:=qc a;have t:=bJ v;obtain⟨b2,R,W,O,D,H,-,J,B⟩:=s2.at v;obtain rfl:=J;refine dF (ZP qa D H ⟨t.1,t.2.1⟩ Z Z Z Z Z Z) Z ?_;refine dF (da qa (B.below h.below) (j:=0) Z Z Z) Z ?_;refine mA qa Z Z ?_;refine ae ?_;refine aD ?_;refine ah ?_;refine mA qa Z Z ?_;refine mA qa Z Z ?_;obtain⟨r1,K,a⟩:=qc a;refine uI h d (cB 103 Z) (mg K) Z Z Z Z ?_;intro X h d;refine mA qa Z Z ?_;refine ae ?_;refine aD ?_;refine ah ?_;refine mA qa Z Z ?_;refine mA qa Z Z ?_;refine ae ?_;refine vw Z (λk=>?_) (λk=>?_)
   .replace a:=KM k a;refine aD ?_;refine ah ?_;refine mA qa Z Z ?_;refine mA qa Z Z ?_;refine ae ?_;obtain rfl:=qe a;replace a:=f;obtain rfl:=qe a;exact rz h d qa ⟨Z,G⟩
   .replace a:=KL k a;refine eZ ?_;refine YV ?_;refine ah ?_;refine mA qa Z Z ?_;refine mA qa Z Z ?_;refine ae ?_;exact E5 x [(0,_),(1,_),(9,_),(10,_),(11,_)] (Nat.lt_succ_self x) ⟨Z,Z,Z,Z,Z,G⟩ ⟨_,a,Z,h,d⟩
 .replace a:=KL g a;refine qy Z ?_;obtain rfl:=qe a;replace a:=f;refine aD ?_;refine aD ?_;refine ah ?_;refine mA qa Z Z ?_;refine mA qa Z Z ?_;refine mA qa Z Z ?_;refine mA qa Z Z ?_;refine mA qa Z Z ?_;refine ae ?_;refine vw Z (λl=>?_) (λl=>?_)
  .replace a:=KM l a;refine aD ?_;refine ah ?_;refine mA qa Z Z ?_;refine ae ?_;obtain rfl:=qe a;exact rz h d qa ⟨Z,G⟩
  .replace a:=KL l a;refine eZ ?_;refine aD ?_;refine ah ?_;refine mA qa Z Z ?_;refine ae ?_;obtain rfl:=qe a;exact rz h d qa ⟨Z,G⟩
def fM(a:List Int):Nat->Int->Option (eE Int Int)
 |0,_=>U
 |n+1,i1=>
  bif decide (i1<(a.length:Int)) then
   (qG a i1).bind λb=>
   bif (b != 0) then
    V (.ret b)
   else
    fM a n (qj (i1+1))
  else
   V (.nxt i1)
def vj(n:Nat)(a:List Int):Option Int:=
 (fM a n 0).bind λ|.ret r=>V r|.nxt _=>V 0
theorem CU{n:Nat}{w:World}{b:List Int}{f:List Value}(p:Ro w b f){r:Int}(a:vj n b=V r):TY Tryz.prog 60 [qm.v (List Int) f] w (.int .i64 r):=by
 obtain⟨p1,z,rfl,s1⟩:=p;refine rC Tryz.func60 Z (m:=18) Z Z (λh i=>?_);rw[vj] at a;refine aD ?_;refine ah ?_;refine mA qa Z Z ?_;refine ae ?_;refine aD ?_;refine ah ?_;refine mA qa Z Z ?_;refine ae ?_;refine aD ?_;refine aD ?_;refine ah ?_;refine mA qa Z Z ?_;refine mA qa Z Z ?_;refine mA qa Z Z ?_;refine ae ?_;obtain⟨o1,a,g⟩:=qc a;refine qq ?_;refine qaY [(3,_),(6,_),(7,_),(8,_)] ⟨Z,Z,Z,Z,G⟩ ?_;refine E7 (λm e w'=>∃(x:Int),fM b m x=V o1/\e=[(3,.int .i64 0),(6,.slice p1 b.length z),(7,.int .i64 (b.length:Int)),(8,.int .i64 x)]/\SH w w' []/\w.drawn<=w'.drawn) n ⟨_,a,Z,h,i⟩ ?_;rintro o e1 w1 ⟨x,a,rfl,h,i⟩;rcases o with _|o
 .rw[fM] at a;cases a
 rw[fM] at a;refine aD ?_;refine ah ?_;refine mA qa Z Z ?_;refine ae ?_;refine aD ?_;refine vw Z (λc=>?_) (λc=>?_)
 .replace a:=KM c a;refine eZ ?_;refine aD ?_;refine qq ?_;refine aD ?_;refine ah ?_;obtain⟨C,l,a⟩:=qc a;have k:=bJ l;obtain⟨b1,A,B,y,t,u,-,v,s⟩:=s1.at l;obtain rfl:=v;refine dF (ZP qa t u ⟨k.1,k.2.1⟩ Z Z Z Z Z Z) Z ?_;refine dF (da qa (s.below h.below) (j:=0) Z Z Z) Z ?_;refine mA qa Z Z ?_;refine ae ?_;refine aD ?_;refine ah ?_;refine mA qa Z Z ?_;refine mA qa Z Z ?_;refine mA qa Z Z ?_;refine ae ?_;refine vw Z (λd=>?_) (λd=>?_)
  .replace a:=KM d a;refine aD ?_;refine ah ?_;refine mA qa Z Z ?_;refine mA qa Z Z ?_;refine ae ?_;obtain rfl:=qe a;replace a:=g;obtain rfl:=qe a;exact rz h i qa ⟨Z,G⟩
  .replace a:=KL d a;refine eZ ?_;refine YV ?_;refine ah ?_;refine mA qa Z Z ?_;refine mA qa Z Z ?_;refine ae ?_;exact E5 o [(3,_),(6,_),(7,_),(8,_)] (Nat.lt_succ_self o) ⟨Z,Z,Z,Z,G⟩ ⟨_,a,Z,h,i⟩
 .replace a:=KL c a;refine qy Z ?_;obtain rfl:=qe a;replace a:=g;refine aD ?_;refine ah ?_;refine mA qa Z Z ?_;refine mA qa Z Z ?_;refine ae ?_;obtain rfl:=qe a;exact rz h i qa ⟨Z,G⟩
def kp(n:Nat)(a:Int)(b:Int)(mode:Int):Option Int:=
 bif (mode==1) then
  (fE n b a).bind λr1=>
  V r1
 else
  (fE n a b).bind λc=>
  V c
theorem yT{n:Nat}{w:World}{a:Int}{b:Int}{mode:Int}  {r:Int}(c:kp n a b mode=V r):TY Tryz.prog 61 [.int .i64 a,.int .i64 b,.int .i64 mode] w (.int .i64 r):=by
 refine rC Tryz.func61 Z (m:=14) Z Z (λh f=>?_);rw[kp] at c;refine aD ?_;refine ah ?_;refine mA qa Z Z ?_;refine ae ?_;refine aD ?_;refine aD ?_;refine ah ?_;refine mA qa Z Z ?_;refine mA qa Z Z ?_;refine ae ?_;refine vw Z (λd=>?_) (λd=>?_)
 .replace c:=KM d c;refine ah ?_;refine mA qa Z Z ?_;refine mA qa Z Z ?_;refine mA qa Z Z ?_;refine mA qa Z Z ?_;refine ae ?_;refine aD ?_;refine ah ?_;refine mA qa Z Z ?_;refine mA qa Z Z ?_;obtain⟨r1,g,c⟩:=qc c;refine uI h f (cB 103 Z) (mg g) Z Z Z Z ?_;intro w1 h f;refine mA qa Z Z ?_;refine ae ?_;obtain rfl:=qe c;exact rz h f qa ⟨Z,G⟩
 .replace c:=KL d c;refine eZ ?_;refine aD ?_;refine ah ?_;refine mA qa Z Z ?_;refine mA qa Z Z ?_;obtain⟨k,i,c⟩:=qc c;refine uI h f (cB 103 Z) (mg i) Z Z Z Z ?_;intro l h f;refine mA qa Z Z ?_;refine ae ?_;obtain rfl:=qe c;exact rz h f qa ⟨Z,G⟩
def mX(n:Nat)(p:qw)(q:qw):Option Int:=
 (fE n p.Bn q.Bn).bind λr1=>
 (ks n p.Bk q.Bk).bind λa=>
 (vj n ([r1,a]:List Int)).bind λb=>
 V b
theorem CB{n:Nat}{w:World}{p:qw}{q:qw}{d:List Value}(k:Ro w p d){f:List Value}(l:Ro w q f){r:Int}(c:mX n p q=V r):TY Tryz.prog 62 [qm.v qw d,qm.v qw f] w (.int .i64 r):=by
 obtain⟨p1,x,rfl,s1⟩:=eX k;obtain⟨z,y,rfl,s2⟩:=eX l;refine rC Tryz.func62 Z (m:=17) Z Z (λh a=>?_);rw[mX] at c;refine aD ?_;refine ah ?_;refine VG h a Z Z ?_;intro w1 g h a;refine VG h a Z Z ?_;intro D i h a;refine mA qa Z Z ?_;refine ae ?_;refine aD ?_;refine qaV [] (λw'=>SH w w' [Ch.box i [.int .i64 q.Bn,.slice z q.Bk.length y,.int .i64 q.Af] 56,Ch.box g [.int .i64 p.Bn,.slice p1 p.Bk.length x,.int .i64 p.Af] 56]) Z 13 Z #[Cd,Cd,Cd,Cd,Cd,Cd,Cd,Cd,Cd,Cd,Cd,Cd,Cd] (by kernel_rfl) (λF u v=>?_);have h:=h.ext u;replace a:=Ja a v;clear u v;refine gz 0 Z #[An,Cd,Cd,Cd,Cd,Cd,Cd,Cd,Cd,Cd,Cd,Cd,Cd] (by kernel_rfl) (by kernel_rfl) (λw' b=>ZQ qa Z w') (h.p [0,1] Z) Z ?_;refine gz 1 Z #[An,An,Cd,Cd,Cd,Cd,Cd,Cd,Cd,Cd,Cd,Cd,Cd] (by kernel_rfl) (by kernel_rfl) (λw' b=>da qa (b.box 1 Z) (j:=0) Z Z Z) (h.p [0,1] Z) Z ?_;refine gz 2 Z #[An,An,An,Cd,Cd,Cd,Cd,Cd,Cd,Cd,Cd,Cd,Cd] (by kernel_rfl) (by kernel_rfl) (λw' b=>ZQ qa Z w') (h.p [0,1] Z) Z ?_;refine gz 3 Z #[An,An,An,An,Cd,Cd,Cd,Cd,Cd,Cd,Cd,Cd,Cd] (by kernel_rfl) (by kernel_rfl) (λw' b=>da qa (b.box 0 Z) (j:=0) Z Z Z) (h.p [0,1] Z) Z ?_;refine gz 5 Z #[An,An,An,An,Cd,An,Cd,Cd,Cd,Cd,Cd,Cd,Cd] (by kernel_rfl) (by kernel_rfl) (λw' b=>ZQ qa Z w') (h.p [0,1] Z) Z ?_;refine gz 6 Z #[An,An,An,An,Cd,An,An,Cd,Cd,Cd,Cd,Cd,Cd] (by kernel_rfl) (by kernel_rfl) (λw' b=>da qa (b.box 1 Z) (j:=1) Z Z Z) (h.p [0,1] Z) Z ?_;refine gz 7 Z #[An,An,An,An,Cd,An,An,An,Cd,Cd,Cd,Cd,Cd] (by kernel_rfl) (by kernel_rfl) (λw' b=>ZQ qa Z w') (h.p [0,1] Z) Z ?_;refine gz 8 Z #[An,An,An,An,Cd,An,An,An,An,Cd,Cd,Cd,Cd] (by kernel_rfl) (by kernel_rfl) (λw' b=>da qa (b.box 0 Z) (j:=1) Z Z Z) (h.p [0,1] Z) Z ?_;refine AH 4 Z #[An,An,An,An,An,An,An,An,An,Cd,Cd,Cd,Cd] (by kernel_rfl) (by kernel_rfl) ?_;obtain⟨r1,o,c⟩:=qc c;refine uI h a (cB 103 Z) (mg o) Z Z Z Z ?_;intro H h a;refine bN (λ_=>(h.p [0,1] Z)) ?_;refine AH 9 Z #[An,An,An,An,An,An,An,An,An,An,Cd,Cd,Cd] (by kernel_rfl) (by kernel_rfl) ?_;obtain⟨A,s,c⟩:=qc c;refine uI h a (cB 104 Z) (zd ⟨_,_,Z,(h.oldS s1)⟩ ⟨_,_,Z,(h.oldS s2)⟩ s) Z Z Z Z ?_;intro I h a;refine bN (λ_=>(h.p [0,1] Z)) ?_;refine AH 10 Z #[An,An,An,An,An,An,An,An,An,An,An,Cd,Cd] (by kernel_rfl) (by kernel_rfl) ?_;refine TA qa [.tmp 9,.tmp 14] _ ([r1,A]:List Int) h a Z Z Z Z Z Z Z Z Z ⟨Z,Z,G⟩ Z ?_;intro J B S1 h a;refine bN (λ_=>(h.p [1,2] Z)) ?_;refine AH 11 Z #[An,An,An,An,An,An,An,An,An,An,An,An,Cd] (by kernel_rfl) (by kernel_rfl) ?_;obtain⟨C,t,c⟩:=qc c;refine uI h a (cB 60 Z) (CU (h.own 0 Z) t) Z Z Z Z ?_;intro K h a;refine bN (λ_=>(h.p [1,2] Z)) ?_;refine gz 12 Z #[An,An,An,An,An,An,An,An,An,An,An,An,An] (by kernel_rfl) (by kernel_rfl) (λw' b=>ZQ qa Z w') (h.p [1,2] Z) Z ?_;refine A5 (by kernel_rfl) ?_;obtain rfl:=qe c;exact rz h a qa ⟨Z,G⟩
def iD(n:Nat)(p:qw)(q:qw)(c:Int):Option Int:=
 (kp n p.Af q.Af c).bind λr1=>
 (mX n p q).bind λa=>
 (vj n ([r1,a]:List Int)).bind λb=>
 V b
theorem DI{n:Nat}{w:World}{p:qw}{q:qw}{B:Int}{d:List Value}(g:Ro w p d){f:List Value}(i:Ro w q f){A:Option Addr}(o:Ro w (V B) [.pointer A]){r:Int}(c:iD n p q B=V r):TY Tryz.prog 59 [qm.v qw d,qm.v qw f,.pointer A] w (.int .i64 r):=by
 obtain⟨p1,D,rfl,s1⟩:=eX g;obtain⟨I,F,rfl,s2⟩:=eX i;obtain⟨b1,H,C,rfl,-,t,s⟩:=Cs o Z;obtain rfl:=t;refine rC Tryz.func59 Z (m:=17) Z Z (λh a=>?_);rw[iD] at c;refine aD ?_;refine ah ?_;refine VG h a Z Z ?_;intro w1 k h a;refine VG h a Z Z ?_;intro M l h a;refine mA qa Z Z ?_;refine ae ?_;refine aD ?_;refine qaV [] (λw'=>SH w w' [Ch.box l [.int .i64 q.Bn,.slice I q.Bk.length F,.int .i64 q.Af] 56,Ch.box k [.int .i64 p.Bn,.slice p1 p.Bk.length D,.int .i64 p.Af] 56]) Z 12 Z #[Cd,Cd,Cd,Cd,Cd,Cd,Cd,Cd,Cd,Cd,Cd,Cd] (by kernel_rfl) (λN y z=>?_);have h:=h.ext y;replace a:=Ja a z;clear y z;refine gz 0 Z #[An,Cd,Cd,Cd,Cd,Cd,Cd,Cd,Cd,Cd,Cd,Cd] (by kernel_rfl) (by kernel_rfl) (λw' b=>ZQ qa Z w') (h.p [0,1] Z) Z ?_;refine gz 1 Z #[An,An,Cd,Cd,Cd,Cd,Cd,Cd,Cd,Cd,Cd,Cd] (by kernel_rfl) (by kernel_rfl) (λw' b=>da qa (b.box 1 Z) (j:=2) Z Z Z) (h.p [0,1] Z) Z ?_;refine gz 2 Z #[An,An,An,Cd,Cd,Cd,Cd,Cd,Cd,Cd,Cd,Cd] (by kernel_rfl) (by kernel_rfl) (λw' b=>ZQ qa Z w') (h.p [0,1] Z) Z ?_;refine gz 3 Z #[An,An,An,An,Cd,Cd,Cd,Cd,Cd,Cd,Cd,Cd] (by kernel_rfl) (by kernel_rfl) (λw' b=>da qa (b.box 0 Z) (j:=2) Z Z Z) (h.p [0,1] Z) Z ?_;refine gz 4 Z #[An,An,An,An,An,Cd,Cd,Cd,Cd,Cd,Cd,Cd] (by kernel_rfl) (by kernel_rfl) (λw' b=>da qa (s.below b.below) (j:=0) Z Z Z) (h.p [0,1] Z) Z ?_;refine gz 6 Z #[An,An,An,An,An,Cd,An,Cd,Cd,Cd,Cd,Cd] (by kernel_rfl) (by kernel_rfl) (λw' b=>da qa (b.box 1 Z) (j:=0) Z Z Z) (h.p [0,1] Z) Z ?_;refine gz 7 Z #[An,An,An,An,An,Cd,An,An,Cd,Cd,Cd,Cd] (by kernel_rfl) (by kernel_rfl) (λw' b=>da qa (b.box 0 Z) (j:=0) Z Z Z) (h.p [0,1] Z) Z ?_;refine AH 5 Z #[An,An,An,An,An,An,An,An,Cd,Cd,Cd,Cd] (by kernel_rfl) (by kernel_rfl) ?_;obtain⟨r1,u,c⟩:=qc c;refine uI h a (cB 61 Z) (yT u) Z Z Z Z ?_;intro O h a;refine bN (λ_=>(h.p [0,1] Z)) ?_;refine AH 8 Z #[An,An,An,An,An,An,An,An,An,Cd,Cd,Cd] (by kernel_rfl) (by kernel_rfl) ?_;obtain⟨J,v,c⟩:=qc c;refine uI h a (cB 62 Z) (CB (h.old g) (h.old i) v) Z Z Z Z ?_;intro P h a;refine bN (λ_=>(h.p [0,1] Z)) ?_;refine AH 9 Z #[An,An,An,An,An,An,An,An,An,An,Cd,Cd] (by kernel_rfl) (by kernel_rfl) ?_;refine TA qa [.tmp 11,.tmp 14] _ ([r1,J]:List Int) h a Z Z Z Z Z Z Z Z Z ⟨Z,Z,G⟩ Z ?_;intro Q K S1 h a;refine bN (λ_=>(h.p [1,2] Z)) ?_;refine AH 10 Z #[An,An,An,An,An,An,An,An,An,An,An,Cd] (by kernel_rfl) (by kernel_rfl) ?_;obtain⟨L,x,c⟩:=qc c;refine uI h a (cB 60 Z) (CU (h.own 0 Z) x) Z Z Z Z ?_;intro R h a;refine bN (λ_=>(h.p [1,2] Z)) ?_;refine gz 11 Z #[An,An,An,An,An,An,An,An,An,An,An,An] (by kernel_rfl) (by kernel_rfl) (λw' b=>ZQ qa Z w') (h.p [1,2] Z) Z ?_;refine A5 (by kernel_rfl) ?_;obtain rfl:=qe c;exact rz h a qa ⟨Z,G⟩
end Go.Fw
