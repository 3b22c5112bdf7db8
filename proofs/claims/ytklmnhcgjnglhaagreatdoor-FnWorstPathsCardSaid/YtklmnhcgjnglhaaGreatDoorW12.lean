/- By a program of mine (gen.py): for each function a plain function and the proof that the code computes it. -/
import Derived.Test.YtklmnhcgjnglhaaGreatDoorW3
import Derived.Test.YtklmnhcgjnglhaaGreatDoorB2
open Option renaming bind_some->jd, some->V, none->U
open Bool renaming and_eq_true->je, eq_iff_iff->jn, true_and->jL, not_true->Jm, true->An, false->Cd, cond_true->Ci, cond_false->Cj
open Nat renaming le_refl->jf, mul_le_mul_right->jt, add_zero->Jl
open List renaming length_append->jg, length_singleton->jh, getElem?_eq_getElem->jj, getElem_mem->jo, mem_cons_of_mem->jp, length_map->jq, mem_cons_self->ju, append_assoc->jv, take_succ_eq_append_getElem->jw, length_take->jy, getD_eq_getElem?_getD->jz, drop_eq_getElem_cons->jF, take_length->jG, not_mem_nil->jH, length_replicate->jI, mem_append_left->jK, mem_cons->jN, mem_append_right->jS, map_append->jT, append_nil->jY, all_eq_true->Jc, getElem_take->Jh
open Int renaming toNat_natCast->jr, tdiv_eq_ediv_of_nonneg->jM, mul_nonneg->jU, le_refl->jV, mul_le_mul->Jb, mul_assoc->Jg, add_zero->Jn
open Go.Fw.Ev renaming bind->Ck, succ->Cm, ff->Cp, tt->Cr, now->Cx, bindN->Cy
open Go.Fw.PV renaming done->Cq
open Go.Fw.ms renaming get->Cs

namespace Go.Fw
open Go Go.Proofs Go.Proofs.Tryz
open Go.RowKit (Below)
open Ch renaming own->oW,box->oX,grp->oG
open qm renaming v->oV
open Go.Value renaming slice->oS
set_option maxRecDepth 100000
set_option maxHeartbeats 6400000
variable{n:Nat}{w:World}{cs1 cs2 cs3 cs4 cs5 cs6 cs7 cs8 cs9:List Value}
def yg(_:Nat)(c:Int):Option qn:=(xY c (Cd:Bool)).bind fun x1=>(xY c ((⟨0,0⟩:qg):qg)).bind fun a=>(xY c ((⟨0,0⟩:qg):qg)).bind fun b=>V (⟨x1,a,b⟩:qn)
theorem IW{a_n}  {r:qn}(F:yg n a_n=V r):qP prog 217 [vi a_n] w r:=by
 refine zV 10 func217 Z fun h=>dE (qi qa h Z Z Z fun _ J h=>O2 (rA [] [] h Z fun _ h=>M0 21 [0,2,4] (h.p [] Z) Z ?_));obtain⟨x1,a,F⟩:=qc F;obtain⟨A,b,F⟩:=qc F;obtain⟨B,c,F⟩:=qc F;refine sg (fun e w'=>∃D x H y I z,e=[(2,vp J)]/\SH w w' [oW D (B:List qg) [oS x B.length B.length],oW H (A:List qg) [oS y A.length A.length],oW I (x1:List Bool) [oS z x1.length x1.length],oX J [oS z x1.length x1.length,oS y A.length A.length,oS x B.length B.length] 51]) 0 (bits 8 255) ?_ ?_
 .intro K;refine pS 1 3 5 Z Z Z (bits 8 23) (bits 8 29) (bits 8 53) (by kernel_rfl) (by kernel_rfl) (by kernel_rfl) (by kernel_rfl) ?_ ?_ ?_
  .obtain⟨m,o,a⟩:=aL a;refine bv qa Bool h z9 m o a Z fun M C L h=>Ag (h.p [] Z) (At 3 5 31 55 Z ?_ ?_)
   .obtain⟨d,f,b⟩:=aL b;refine bv qa qg h z9 d f b Z fun t k p h=>Ag (h.p [] Z) (Ao 5 63 Z ?_);obtain⟨g,i,c⟩:=aL c;refine bv qa qg h z9 g i c Z fun u l s h=>Ag (h.p [] Z) (Aw 6 127 (fun w' N=>qC qa [0,1,2] [.tmp 4,.tmp 6,.tmp 8] z8) (h.p [] Z) Z ?_);exact Ao 7 255 Z (zs 3 h Z fun v h=>Ag (h.p [] Z) (zK [(2,_)] ⟨Z,G⟩ (K _ _ ⟨_,_,_,_,_,_,Z,h⟩)))
   obtain⟨d,f,c⟩:=aL c;refine bv qa qg h z9 d f c Z fun t k p h=>Ag (h.p [] Z) (Ao 3 63 Z ?_);obtain⟨g,i,b⟩:=aL b;refine bv qa qg h z9 g i b Z fun u l s h=>Ag (h.p [] Z) (Aw 6 127 (fun w' N=>qC qa [0,1,2] [.tmp 4,.tmp 6,.tmp 8] z8) (h.p [] Z) Z ?_);refine Ao 7 255 Z (zs 3 h Z fun v h=>Ag (h.p [] Z) ?_);have h:=h.p [1,0,2,3] Z;exact aK K ⟨_,_,_,_,_,_,Z,h⟩ Z
  .obtain⟨m,o,b⟩:=aL b;refine bv qa qg h z9 m o b Z fun M C L h=>Ag (h.p [] Z) (At 1 5 31 61 Z ?_ ?_)
   .obtain⟨d,f,a⟩:=aL a;refine bv qa Bool h z9 d f a Z fun t k p h=>Ag (h.p [] Z) (Ao 5 63 Z ?_);obtain⟨g,i,c⟩:=aL c;refine bv qa qg h z9 g i c Z fun u l s h=>Ag (h.p [] Z) (Aw 6 127 (fun w' N=>qC qa [0,1,2] [.tmp 4,.tmp 6,.tmp 8] z8) (h.p [] Z) Z ?_);refine Ao 7 255 Z (zs 3 h Z fun v h=>Ag (h.p [] Z) ?_);have h:=h.p [0,2,1,3] Z;exact aK K ⟨_,_,_,_,_,_,Z,h⟩ Z
   obtain⟨d,f,c⟩:=aL c;refine bv qa qg h z9 d f c Z fun t k p h=>Ag (h.p [] Z) (Ao 1 63 Z ?_);obtain⟨g,i,a⟩:=aL a;refine bv qa Bool h z9 g i a Z fun u l s h=>Ag (h.p [] Z) (Aw 6 127 (fun w' N=>qC qa [0,1,2] [.tmp 4,.tmp 6,.tmp 8] z8) (h.p [] Z) Z ?_);refine Ao 7 255 Z (zs 3 h Z fun v h=>Ag (h.p [] Z) ?_);have h:=h.p [1,2,0,3] Z;exact aK K ⟨_,_,_,_,_,_,Z,h⟩ Z
  obtain⟨m,o,c⟩:=aL c;refine bv qa qg h z9 m o c Z fun M C L h=>Ag (h.p [] Z) (At 1 3 55 61 Z ?_ ?_)
  .obtain⟨d,f,a⟩:=aL a;refine bv qa Bool h z9 d f a Z fun t k p h=>Ag (h.p [] Z) (Ao 3 63 Z ?_);obtain⟨g,i,b⟩:=aL b;refine bv qa qg h z9 g i b Z fun u l s h=>Ag (h.p [] Z) (Aw 6 127 (fun w' N=>qC qa [0,1,2] [.tmp 4,.tmp 6,.tmp 8] z8) (h.p [] Z) Z ?_);refine Ao 7 255 Z (zs 3 h Z fun v h=>Ag (h.p [] Z) ?_);have h:=h.p [2,0,1,3] Z;exact aK K ⟨_,_,_,_,_,_,Z,h⟩ Z
  obtain⟨d,f,b⟩:=aL b;refine bv qa qg h z9 d f b Z fun t k p h=>Ag (h.p [] Z) (Ao 1 63 Z ?_);obtain⟨g,i,a⟩:=aL a;refine bv qa Bool h z9 g i a Z fun u l s h=>Ag (h.p [] Z) (Aw 6 127 (fun w' N=>qC qa [0,1,2] [.tmp 4,.tmp 6,.tmp 8] z8) (h.p [] Z) Z ?_);refine Ao 7 255 Z (zs 3 h Z fun v h=>Ag (h.p [] Z) ?_);have h:=h.p [2,1,0,3] Z;exact aK K ⟨_,_,_,_,_,_,Z,h⟩ Z
 rintro _ _ ⟨D,x,H,y,I,z,rfl,h⟩;refine Ad ?_;obtain rfl:=qe F;exact aq qa (ρ:=qn) [oV qn [oS z x1.length x1.length,oS y A.length A.length,oS x B.length B.length]] h ⟨⟨_,_,_,Z,Z,h.box 3 Z,Z⟩,G⟩ (Cq h (pJ (lI (⟨x1,A,B⟩:qn) h (qS 2 h Z) (qS 1 h Z) (qS 0 h Z) (by rfl) (by rfl))))
def kU(_:Nat)(list:List Int):Option (List Int):=(dj ([]:List Int) list).bind fun x1=>V x1
theorem mn{list:List Int}(b:Ro w list cs1){r:List Int}(F:kU n list=V r):qP prog 242 [gv list cs1] w r:=by
 obtain⟨_,_,rfl,s1⟩:=b;refine zV 6 func242 Z fun h=>X0 6 Z (qv qa [] _ ([]:List Int) h z9 trivial Z fun _ _ _ h=>cq Z ?_);obtain⟨_,a,F⟩:=qc F;obtain⟨c,a⟩:=qH a;refine bo qa 0 h Z (h.oldS s1) Z z9 c a Z fun _ _ _ _ h=>X0 2 Z ?_;cases qe F;exact rO 0 h Z ⟨Z,G⟩
def xI(_:Nat)(l:qB)(d:qk)(p:qU):Option Int:=bif decide (p.instance_<0) then V 0 else(qF d.Ab p.instance_).bind fun a=>(qF l.Au a.Bv).bind fun b=>(qF b.Bg p.pin).bind fun c=>V c.Br
theorem NS{l:qB}{d:qk}{p:qU}(a:Ro w l cs1)(b:Ro w d cs2)(c:Ro w p cs3){r:Int}(F:xI n l d p=V r):qP prog 262 [gv l cs1,gv d cs2,gv p cs3] w r:=by
 obtain⟨_,_,rfl,s1⟩:=gi a;obtain⟨_,_,_,_,_,_,rfl,s2,_,_⟩:=ce b;obtain rfl:=df c;refine zV 27 func262 Z fun h=>dE (qJ h Z Z fun _ _ h=>qJ h Z Z fun _ _ h=>qJ h Z Z fun _ _ h=>X1 9 0 h Z (qp Z F ?_ ?_))<;>intro F
 .exact X0 4 Z (ri h F Z)
 refine E1 (rD (Y1 2 2 h Z ?_));refine Y1 2 1 h Z ?_;refine Y1 2 0 h Z ?_;obtain⟨_,_,F,k,_,_,_,_,s,v,z,f⟩:=s2.ix F;obtain⟨_,_,rfl,_⟩:=bD z;refine hG s v k Z (vD Z (fF 1 f h Z ?_));obtain⟨_,_,F,m,_,_,_,_,t,x,A,g⟩:=s1.ix F;obtain⟨_,_,_,_,_,_,rfl,C,_,_⟩:=aV A;refine hG t x m Z (vD Z (fF 2 g h Z (Y1 2 0 h Z ?_)));obtain⟨_,_,F,o,_,_,_,_,u,y,B,i⟩:=C.ix F;obtain rfl:=mf B;exact hG u y o Z (vD Z (fF 2 i h Z (vD Z (dN h fun _ h=>ri h F Z))))
def iq(d:aJ):Nat->(List Int)->Int->Option ((List Int)×Int)|0,_,_=>U|n+1,b,a=>bif decide (a > 0) then(qF d.Ak a).bind fun c=>(qF b c).bind fun f=>(qF b a).bind fun g=>(qF b c).bind fun _=>iq d n (ak b c (qj (f+g))) (qj (a-1)) else V (b,a)
def ip(Ce:qf)(f:aJ)(d:List qU)(b:List Int):Nat->(List Int)->Int->Option ((List Int)×Int)|0,_,_=>U|n+1,x1,a=>bif decide (a<(b.length:Int)) then(qF f.Bj a).bind fun c=>(qF x1 c).bind fun h=>(qF b a).bind fun i=>(qF d i).bind fun k=>(xI n (⟨Ce.Ar.Au⟩:qB) (⟨Ce.Aa.Ab,Ce.Aa.Am,Ce.Aa.Ai⟩:qk) k).bind fun g=>(qF x1 c).bind fun _=>ip Ce f d b n (ak x1 c (qj (h+g))) (qj (a+1)) else V (x1,a)
def rZ(n:Nat)(Ce:qf)(Cf:Int):Option (List Int):=(qF Ce.Ah Cf).bind fun a=>(kU n a.Br).bind fun r1=>(eA n (⟨Ce.Aa.Ab,Ce.Aa.Am,Ce.Aa.Ai⟩:qk)).bind fun b=>(mV n (⟨Ce.Aa.Ab,Ce.Aa.Am,Ce.Aa.Ai⟩:qk) Cf).bind fun c=>(ip Ce a b c n r1 0).bind fun(x1,_)=>(iq a n x1 (qj ((r1.length:Int)-1))).bind fun(d,_)=>V d
theorem yO{Ce:qf}{Cf}(Y:Ro w Ce cs1){r:List Int}(F:rZ n Ce Cf=V r):qP prog 234 [gv Ce cs1,vi Cf] w r:=by
 obtain⟨p1,k1,p2,k2,p3,k3,p4,k4,p5,k5,rfl,s1,s2,s3,s4,s5⟩:=qW Y;refine zV 76 func234 Z fun h=>dE (qJ h Z Z fun w1 i h=>X1 7 0 h Z ?_);obtain⟨T,_,F,a7,_,_,_,_,b4,b7,c0,a3⟩:=s5.ix F;obtain⟨p6,k6,p7,k7,p8,k8,p9,k9,rfl,s6,_,s8,s9⟩:=dz c0;refine fG b4 b7 a7 Z (bN 0 a3 h Z (qi qa h Z Z Z fun _ a h=>zs 0 h Z fun _ h=>X1 5 0 h Z (uj h F (mn ⟨_,_,Z,(h.oldS s8)⟩) Z fun r1 _ S1 c b h F=>X1 6 2 h Z (uj h F (dY (cg _ (h.oldS s2) (h.oldS s3) (h.oldS s4))) Z fun Q _ S2 O M h F=>X1 7 3 h Z (uj h F (ro (cg _ (h.oldS s2) (h.oldS s3) (h.oldS s4))) Z fun R _ S3 P N h F=>X0 7 Z ?_)))));obtain⟨o1,F,W⟩:=qc F;refine qr (rL (fun m e w'=>∃x1 i1,ip Ce T Q R m x1 i1=V o1/\e=[(2,vp i),(5,vp a),(6,oL c r1 b),(7,oL O Q M),(8,oL P R N),(9,vi i1)]/\SH w w' [oW S3 (R:List Int) [oL P R N],oW S2 (Q:List qU) [oL O Q M],oW S1 (x1:List Int) [oL c r1 b],oX a (nW T p6 p7 p8 p9 k6 k7 k8 k9) 171,oX i (qN Ce p1 p2 p3 p4 p5 k1 k2 k3 k4 k5) 34]) n ⟨_,_,F,Z,h⟩ Z ?_);rintro m1 _ _ ⟨x1,i1,F,rfl,h⟩;rcases m1 with _|m1
 .cases F
 refine X0 8 Z (qp Z F ?_ ?_)<;>intro F
 .refine TN (rA [22] [0,1,2,3,4] h Z fun _ h=>M1 15 [0,1,2,3] 3 (h.p [0,1,2,3,4] Z) Z ?_);obtain⟨_,_,F,a8,_,_,_,_,b5,b8,rfl,a4⟩:=s9.ix F;refine Ae 4 31 b5 b8 a8 (h.p [0,1,2,3,4] Z) Z (Al 5 63 0 a4 (h.p [0,1,2,3,4] Z) Z ?_);obtain⟨y3,c3,F,l,_,_,_,_,v,C,rfl,_⟩:=(h.sl 2 Z).1.ix F;refine Ax 6 127 v C ⟨l.1,qD l.2.1 (h.sl 2 Z).2⟩ (h.p [0,1,2,3,4] Z) Z (Aw 7 255 (fun w' hw=>cR qa (qQ (w1:=w) (S1:=fun _=>False) hw 2 Z c3 v C Z) (j:=0) Z Z Z) (h.p [0,1,2,3,4] Z) Z ?_);refine M2 32767 [8,9,10,11,12,13,14] 4 4 (h.p [0,1,2,3,4] Z) Z ?_;obtain⟨_,c4,F,o,_,_,_,_,x,D,rfl,_⟩:=(h.sl 0 Z).1.ix F;refine Ax 15 65535 x D ⟨o.1,qD o.2.1 (h.sl 0 Z).2⟩ (h.p [0,1,2,3,4] Z) Z (Aw 16 131071 (fun w' hw=>cR qa (qQ (w1:=w) (S1:=fun _=>False) hw 0 Z c4 x D Z) (j:=0) Z Z Z) (h.p [0,1,2,3,4] Z) Z ?_);obtain⟨y5,c5,F,p,_,_,_,_,y,H,c2,_⟩:=(h.sl 1 Z).1.ix F;obtain rfl:=df c2;refine Ax 17 262143 y H ⟨p.1,qD p.2.1 (h.sl 1 Z).2⟩ (h.p [0,1,2,3,4] Z) Z (Aw 18 524287 (fun w' hw=>cR qa (qQ hw 1 Z c5 y H (mP (w:=w) (S:=fun _=>False) y5)) (j:=0) Z Z Z) (h.p [0,1,2,3,4] Z) Z ?_);refine Ao 19 1048575 Z (mN h F (NS (tO _ (h.oldS s1)) (cg _ (h.oldS s2) (h.oldS s3) (h.oldS s4)) (mP y5)) Z fun r4 _ h F=>G0 2097151 [20] (h.p [0,1,2,3,4] Z) Z ?_);obtain⟨_,c6,F,s,_,_,_,_,z,I,rfl,a5⟩:=(h.sl 2 Z).1.ix F;exact Ax 21 4194303 z I ⟨s.1,qD s.2.1 (h.sl 2 Z).2⟩ (h.p [0,1,2,3,4] Z) Z (Ao 22 8388607 Z (bK qa 2 0 (qj (y3+r4)) h Z c6 z I Z a5 Z Z Z Z Z Z Z fun _ h=>bL (fun hs=>absurd (hs 22 (by decide)) (by decide)) (Ad (X0 6 Z (rK ⟨_,_,F,Z,h⟩ Z)))))
 refine qx Z ?_;cases qe F;have F:=W;refine X0 8 Z ?_;obtain⟨o2,F,X⟩:=qc F;refine qr ?_;have h:=h.p [2,3] Z;refine rL (fun m e w'=>∃x2 i2,iq T m x2 i2=V o2/\e=[(5,vp a),(6,oL c r1 b),(10,vi i2)]/\SH w w' [oW S1 (x2:List Int) [oL c r1 b],oX a (nW T p6 p7 p8 p9 k6 k7 k8 k9) 171]) n ⟨_,_,F,Z,h⟩ Z ?_;rintro m2 _ _ ⟨x2,i2,F,rfl,h⟩;rcases m2 with _|m2
 .cases F
 refine X0 6 Z (qp Z F ?_ ?_)<;>intro F
 .refine TN (rA [14] [0,1] h Z fun _ h=>M1 15 [0,1,2,3] 1 (h.p [0,1] Z) Z ?_);obtain⟨_,_,F,a9,_,_,_,_,b6,b9,rfl,a6⟩:=s6.ix F;refine Ae 4 31 b6 b9 a9 (h.p [0,1] Z) Z (Al 5 63 0 a6 (h.p [0,1] Z) Z ?_);obtain⟨y8,c7,F,t,_,_,_,_,A,J,rfl,_⟩:=(h.sl 0 Z).1.ix F;refine Ax 6 127 A J ⟨t.1,qD t.2.1 (h.sl 0 Z).2⟩ (h.p [0,1] Z) Z (Aw 7 255 (fun w' hw=>cR qa (qQ (w1:=w) (S1:=fun _=>False) hw 0 Z c7 A J Z) (j:=0) Z Z Z) (h.p [0,1] Z) Z ?_);refine M0 1023 [8,9] (h.p [0,1] Z) Z ?_;obtain⟨y9,c8,F,u,_,_,_,_,B,K,rfl,_⟩:=(h.sl 0 Z).1.ix F;refine Ax 10 2047 B K ⟨u.1,qD u.2.1 (h.sl 0 Z).2⟩ (h.p [0,1] Z) Z (Aw 11 4095 (fun w' hw=>cR qa (qQ (w1:=w) (S1:=fun _=>False) hw 0 Z c8 B K Z) (j:=0) Z Z Z) (h.p [0,1] Z) Z ?_);refine M0 8191 [12] (h.p [0,1] Z) Z ?_;obtain⟨_,L,F,d,_,_,_,_,f,g,rfl,k⟩:=(h.sl 0 Z).1.ix F;exact Ax 13 16383 f g ⟨d.1,qD d.2.1 (h.sl 0 Z).2⟩ (h.p [0,1] Z) Z (Ao 14 32767 Z (bK qa 0 0 (qj (y8+y9)) h Z L f g Z k Z Z Z Z Z Z Z fun _ h=>bL (fun hs=>absurd (hs 14 (by decide)) (by decide)) (Ad (X0 6 Z (rK ⟨_,_,F,Z,h⟩ Z)))))
 refine qx Z ?_;cases qe F;have F:=X;refine X0 5 Z ?_;cases qe F;exact rO 0 h Z ⟨Z,G⟩
def vo(n:Nat)(b:qf)(x:qw):Option (bi×Int):=(eA n (⟨b.Aa.Ab,b.Aa.Am,b.Aa.Ai⟩:qk)).bind fun r1=>(qF r1 (qj (x.To.tdiv 2))).bind fun a=>(qF b.Aa.Ab a.instance_).bind fun d=>(qF b.Ar.Au d.Bv).bind fun f=>(qF f.Az x.Ca).bind fun g=>(rZ n b a.net).bind fun c=>(qF c 0).bind fun h=>V (g,h)
theorem CI{A}(hA:∀b,A b->old w b){b:qf}{x:qw}(y:qm.R w A b cs1)(N:qm.R w A x cs2){r:bi×Int}(F:vo n b x=V r):FM prog 191 [gv b cs1,gv x cs2] w A r:=by
 obtain⟨p1,k1,p2,k2,p3,k3,p4,k4,p5,k5,rfl,s1,s2,s3,s4,_⟩:=qW y;obtain rfl:=aA N;have hg:=Rg.start hA;refine kY func191 Z (m:=39) Z Z (fun h=>?_);refine dE (qJ h Z Z fun w1 f h=>qJ h Z Z fun _ g h=>qi qa h Z Z Z fun _ c h=>X0 3 Z ?_);obtain⟨r1,I,F⟩:=qc F;obtain⟨L,a,F⟩:=qc F;refine bd (fun e w'=>∃d,e=[(2,vp f),(3,vp g),(4,vp c),(6,vp d)]/\SH w w' [oX d (xj L) 225,oX c qdD 109,oX g (vM x) 127,oX f (qN b p1 p2 p3 p4 p5 k1 k2 k3 k4 k5) 34]) ?_ ?_
 .refine rA [9] [1,2] h Z fun _ h=>M2 59 [0,1,3,4,5] 1 0 (h.p [1,2] Z) Z (At 2 8 63 315 Z ?_ ?_)
  .refine tR r1 h (cB 108 Z) (dY (cg _ (h.oldS (s2.mono hg.old)) (h.oldS (s3.mono hg.old)) (h.oldS (s4.mono hg.old))) I) Z Z Z Z fun _ _ _ _ h=>Ag (h.p [2,3] Z) ?_;have z:=bH a;obtain⟨_,o_4,_,_,i,l,-,a7,_⟩:=(h.sl 0 Z).1.at a;obtain rfl:=df a7;refine Ax 6 127 i l ⟨z.1,qD z.2.1 (h.sl 0 Z).2⟩ (h.p [2,3] Z) Z (At 7 8 255 383 Z ?_ ?_)
   .refine dK (cR qa (qQ h 0 Z a i l (mP (w:=w) (S:=fun _=>False) L)) (j:=0) Z Z Z) Z (Ag (h.p [2,3] Z) (Ao 8 511 Z (qi qa h Z Z Z fun _ _ h=>Ag (h.p [3,4] Z) (Ao 9 1023 Z (zs 0 h Z fun _ h=>bL (fun hs=>absurd (hs 9 (by decide)) (by decide)) (Ad ?_))))));exact rG ⟨_,Z,h.p [0,2,3,4] Z⟩ Z
   refine qi qa h Z Z Z fun _ _ h=>Ag (h.p [3,4] Z) (Ao 7 511 Z (dK (cR qa (qQ h 1 Z a i l (mP (w:=w) (S:=fun _=>False) L)) (j:=0) Z Z Z) Z (Ag (h.p [3,4] Z) (Ao 9 1023 Z (zs 0 h Z fun _ h=>bL (fun hs=>absurd (hs 9 (by decide)) (by decide)) (Ad ?_))))));exact rG ⟨_,Z,h.p [0,2,3,4] Z⟩ Z
  refine qi qa h Z Z Z fun _ _ h=>Ag (h.p [2,3] Z) (Ao 2 319 Z (tR r1 h (cB 108 Z) (dY (cg _ (h.oldS (s2.mono hg.old)) (h.oldS (s3.mono hg.old)) (h.oldS (s4.mono hg.old))) I) Z Z Z Z fun _ _ _ _ h=>Ag (h.p [3,4] Z) ?_));have B:=bH a;obtain⟨_,o_5,_,_,D,H,-,a8,_⟩:=(h.sl 0 Z).1.at a;obtain rfl:=df a8;refine Ax 6 383 D H ⟨B.1,qD B.2.1 (h.sl 0 Z).2⟩ (h.p [3,4] Z) Z (Ao 7 511 Z (dK (cR qa (qQ h 0 Z a D H (mP (w:=w) (S:=fun _=>False) L)) (j:=0) Z Z Z) Z (Ag (h.p [3,4] Z) (Ao 9 1023 Z (zs 1 h Z fun _ h=>bL (fun hs=>absurd (hs 9 (by decide)) (by decide)) (Ad ?_))))));exact rG ⟨_,Z,h.p [1,2,3,4] Z⟩ Z
 rintro _ _ ⟨d,rfl,h⟩;refine au (rA [] [0,2,3] h Z fun _ h=>M3 255 [0,1,2,3,4,5,6,7] 2 2 0 (h.p [0,2,3] Z) Z ?_);obtain⟨_,_,F,R,_,_,_,_,X,a4,a9,O⟩:=s2.ix F;obtain⟨_,_,rfl,_⟩:=bD a9;refine Ae 8 511 X a4 R (h.p [0,2,3] Z) Z (M0 1023 [9] (h.p [0,2,3] Z) Z (Al 10 2047 1 O (h.p [0,2,3] Z) Z ?_));obtain⟨_,_,F,T,_,_,_,_,Y,a5,b4,P⟩:=s1.ix F;obtain⟨_,_,_,_,_,_,rfl,_,s8,_⟩:=aV b4;refine Ae 11 4095 Y a5 T (h.p [0,2,3] Z) Z (M0 8191 [12] (h.p [0,2,3] Z) Z (Al 13 16383 3 P (h.p [0,2,3] Z) Z (M1 65535 [14,15] 1 (h.p [0,2,3] Z) Z ?_)));obtain⟨v,_,F,W,_,_,_,_,a3,a6,b5,Q⟩:=s8.ix F;obtain⟨t,p,u,s,rfl,b7,b8⟩:=bq b5;refine Ae 16 131071 a3 a6 W (h.p [0,2,3] Z) Z (Al 17 262143 0 Q (h.p [0,2,3] Z) Z (M2 2097151 [18,19,20] 2 0 (h.p [0,2,3] Z) Z (Ao 21 4194303 Z (uj h F (yO (h.old (qm.mono y hg.old))) Z fun _ _ _ _ _ h F=>Ag (h.p [1,3,4] Z) ?_))));obtain⟨M,J,F,C,_,_,_,_,k,o,rfl,_⟩:=(h.sl 0 Z).1.ix F;refine Ax 22 8388607 k o ⟨C.1,qD C.2.1 (h.sl 0 Z).2⟩ (h.p [1,3,4] Z) Z (sg (fun e w'=>e=[(4,vp c),(5,vi M)]/\SH w w' [oX d (xj L) 225,oX c (kq v t u p s) 109,oX g (vM x) 127,oX f (qN b p1 p2 p3 p4 p5 k1 k2 k3 k4 k5) 34]) 0 (bits 26 67108863) ?_ ?_)
 .intro K;refine At 23 24 16777215 25165823 Z ?_ ?_
  .refine dK (cR qa (qQ (w1:=w) (S1:=fun _=>False) h 0 Z J k o Z) (j:=0) Z Z Z) Z (Ag (h.p [1,3,4] Z) (Ao 24 33554431 Z (zs 2 h Z fun b9 h=>G0 67108863 [25] (h.p [1,3,4] Z) Z ?_)));have h:=h.p [1,2,3,4] Z;exact aK K ⟨Z,h⟩ Z
  refine zs 2 h Z fun b9 h=>Ag (h.p [1,3,4] Z) (Ao 23 33554431 Z (dK (cR qa (qQ (w1:=w) (S1:=fun _=>False) h 0 Z J k o Z) (j:=0) Z Z Z) Z (G0 67108863 [25] (h.p [1,3,4] Z) Z ?_)));have h:=h.p [1,2,3,4] Z;exact aK K ⟨Z,h⟩ Z
 rintro _ _ ⟨rfl,h⟩;refine Ad ?_;obtain rfl:=qe F;have b6:la.Rs (ρ:=(bi×Int)) h.wc (xC A w h.wc) (v,M) [oV bi (kq v t u p s),oV Int [vi M]]:=⟨_,_,Z,(hg.outR h (tN v (hg.inS h b7) (hg.inS h b8))),⟨_,Z,Z⟩⟩;exact mR qa (ρ:=(bi×Int)) (r:=(v,M)) [oV bi (kq v t u p s),oV Int [vi M]] h ⟨⟨_,_,_,Z,Z,h.box 1 Z,Z⟩,Z,G⟩ b6
def fW(_:Nat)(a:Int)(b:Int)(mode:Int):Option Int:=(L7 a b).bind fun c=>(LF a b).bind fun d=>(bif decide (d<0) then V (mode==0) else V Cd).bind fun b1=>bif b1 then V (qj (c-1)) else bif decide (d > 0) then bif (mode==1) then V (qj (c+1)) else V c else V c
theorem pO{a b mode}  {r:Int}(F:fW n a b mode=V r):qP prog 195 [vi a,vi b,vi mode] w r:=by
 refine zV 32 func195 Z fun h=>X0 8 Z ?_;obtain⟨m,c,F⟩:=qc F;obtain⟨k,c⟩:=QO c;refine dK (qbY k Z Z) Z ?_;rw[c];refine X0 6 Z ?_;obtain⟨o,d,F⟩:=qc F;obtain⟨l,d⟩:=wq d;refine dK (Z9 l Z Z) Z ?_;rw[d];refine X0 4 Z ?_;obtain⟨i,g,_,F,f⟩:=bindE F;refine bd (fun e w'=>∃b1,i b1=V r/\e=[(2,vi mode),(7,vi m),(8,vi o),(20,.bool b1)]/\SH w w' []) ?_ ?_
 .refine X0 4 Z (qh (t:=17) F Z ?_ ?_)<;>intro F
  .refine X0 6 Z ?_;exact rH F f h Z
  refine X0 4 Z ?_;exact rH F f h Z
 rintro _ _ ⟨b1,F,rfl,h⟩;subst g;refine qp Z F ?_ ?_<;>intro F
 .exact X0 6 Z (ri h F Z)
 refine X0 7 Z (qh (t:=25) F Z ?_ ?_)<;>intro F
 .refine X0 6 Z (qp Z F ?_ ?_)<;>intro F
  .exact X0 6 Z (ri h F Z)
  exact X0 6 Z (ri h F Z)
 exact X0 4 Z (ch Z Z (X0 6 Z (ri h F Z)))
def dC(i:List Int)(x:Int)(a:Int)(c:Int):Nat->Int->Option (eE (Int×Int×Int) Int)|0,_=>U|n+1,b=>bif decide (b>=0) then(qF i b).bind fun d=>bif ((if c<(if a > x then a else x) then c else(if a > x then a else x))==d) then V (.ret (b,1,0)) else(qF i b).bind fun f=>bif decide ((if c<(if a > x then a else x) then c else(if a > x then a else x)) > f) then(qF i (qj (b+1))).bind fun g=>(qF i b).bind fun h=>V (.ret (b,qj (g-(if c<(if a > x then a else x) then c else(if a > x then a else x))),qj ((if c<(if a > x then a else x) then c else(if a > x then a else x))-h))) else dC i x a c n (qj (b-1)) else V (.nxt b)
def gO(n:Nat)(c:List Int)(x:Int):Option (Int×Int×Int):=(qF c 0).bind fun a=>(qF c (qj ((c.length:Int)-1))).bind fun b=>(dC c x a b n (qj ((c.length:Int)-1))).bind fun|.ret r=>V r|.nxt _=>V (0,1,0)
theorem wP{T:List Int}{x}(f:Ro w T cs1){r:Int×Int×Int}(F:gO n T x=V r):qP prog 235 [gv T cs1,vi x] w r:=by
 obtain⟨p1,Q,rfl,s1⟩:=f;refine zV 56 func235 Z fun h=>X0 16 Z ?_;obtain⟨a,_,F,s,_,_,_,_,A,J,rfl,g⟩:=s1.ix F;refine fG A J s Z (bN 0 g h Z (X0 9 Z ?_));obtain⟨c,_,F,t,_,_,_,_,B,K,rfl,i⟩:=s1.ix F;refine fG B K t Z (bN 0 i h Z (X0 10 Z ?_));obtain⟨o1,F,b⟩:=qc F;refine qr (rL (fun m e w'=>∃d,dC T x a c m d=V o1/\e=[(0,oL p1 T Q),(1,vi (if c<(if a > x then a else x) then c else(if a > x then a else x))),(8,vi d)]/\SH w w' []) n ⟨_,F,Z,h⟩ Z ?_);rintro P _ _ ⟨d,F,rfl,h⟩;rcases P with _|P
 .cases F
 refine X0 6 Z (qp Z F ?_ ?_)<;>intro F
 .refine X0 9 Z ?_;obtain⟨_,_,F,u,_,_,_,_,C,L,rfl,k⟩:=s1.ix F;refine fG C L u Z (bN 0 k h Z (X0 2 Z (qp Z F ?_ ?_)))<;>intro F
  .refine X0 7 Z ?_;cases qe F;have F:=b;cases qe F;exact aq qa (ρ:=(Int×Int×Int)) [oV Int [vi d],oV Int [vi 1],oV Int [vi 0]] h ⟨Z,Z,Z,G⟩ (Cq h (ai h vk (ai h vk ul (by rfl)) (by rfl)))
  refine X0 6 Z ?_;obtain⟨_,_,F,v,_,_,_,_,D,M,rfl,l⟩:=s1.ix F;refine fG D M v Z (bN 0 l h Z (X0 2 Z (qp Z F ?_ ?_)))<;>intro F
  .refine au (rD (qdC Z ?_));obtain⟨R,_,F,y,_,_,_,_,H,N,rfl,o⟩:=s1.ix F;refine hG H N y Z (fF 0 o h Z (qdX Z ?_));obtain⟨S,_,F,z,_,_,_,_,I,O,rfl,p⟩:=s1.ix F;refine hG I O z Z (fF 0 p h Z (qdC Z (dN h fun _ h=>?_)));cases qe F;have F:=b;cases qe F;exact aq qa (ρ:=(Int×Int×Int)) [oV Int [vi d],oV Int [vi (qj (R-(if c<(if a > x then a else x) then c else(if a > x then a else x))))],oV Int [vi (qj ((if c<(if a > x then a else x) then c else(if a > x then a else x))-S))]] h ⟨Z,Z,Z,G⟩ (Cq h (ai h vk (ai h vk ul (by rfl)) (by rfl)))
  exact X0 7 Z (rK ⟨_,F,Z,h⟩ Z)
 refine qx Z ?_;cases qe F;have F:=b;refine X0 6 Z ?_;cases qe F;exact aq qa (ρ:=(Int×Int×Int)) [oV Int [vi 0],oV Int [vi 1],oV Int [vi 0]] h ⟨Z,Z,Z,G⟩ (Cq h (ai h vk (ai h vk ul (by rfl)) (by rfl)))
def fL(Ce:aa)(d:Int)(f:Int)(g:Int)(h:Int)(i:Int)(k:Int)(b:Int):Nat->Int->Int->Option (Int×Int)|0,_,_=>U|n+1,c,a=>bif decide (a<2) then(bif (b==1) then V g else V f).bind fun l=>(bif (a==0) then V (qj (l*i)) else V (qj (l*k))).bind fun m=>bif decide (m > 0) then(qF Ce.Bi (qj ((qj ((qj ((qj (d+b))*(Ce.Bm.length:Int)))+h))+a))).bind fun o=>fL Ce d f g h i k b n (qj (c+(qj (m*o)))) (qj (a+1)) else fL Ce d f g h i k b n c (qj (a+1)) else V (c,a)
def ky(Ce:aa)(c:Int)(d:Int)(f:Int)(g:Int)(h:Int)(i:Int):Nat->Int->Int->Option (Int×Int)|0,_,_=>U|n+1,b,a=>bif decide (a<2) then(fL Ce c d f g h i a n b 0).bind fun(k,_)=>ky Ce c d f g h i n k (qj (a+1)) else V (b,a)
def om(n:Nat)(Ce:aa)(Cf:Int)(Cg:Int)(a:Int):Option Int:=(gO n Ce.Bp Cf).bind fun(h,b,c)=>(gO n Ce.Bm Cg).bind fun(i,d,f)=>(ky Ce h b c i d f n 0 0).bind fun(g,_)=>(fW n g (qj ((qj (b+c))*(qj (d+f)))) a).bind fun k=>V k
theorem zX{Ce:aa}{Cf Cg b}(I:Ro w Ce cs1){r:Int}(F:om n Ce Cf Cg b=V r):qP prog 192 [gv Ce cs1,vi Cf,vi Cg,vi b] w r:=by
 obtain⟨p1,x,z,y,A,k3,rfl,s1,s2,s3⟩:=fk I;refine zV 88 func192 Z fun h=>dE (qJ h Z Z fun _ a h=>X1 7 0 h Z ?_);obtain⟨⟨d,f,g⟩,N,F⟩:=qc F;refine bG (d,f,g) h (cB 235 Z) (wP ⟨_,_,Z,(h.oldS s1)⟩ N) Z Z Z Z fun _ _ _ X O=>?_;obtain⟨_,_,rfl,Y,P⟩:=X.consI O;obtain⟨_,_,rfl,a3,Q⟩:=Y.consI P;obtain⟨rfl,h⟩:=a3.lastI Q;refine X1 13 0 h Z ?_;obtain⟨⟨i,k,l⟩,R,F⟩:=qc F;refine bG (i,k,l) h (cB 235 Z) (wP ⟨_,_,Z,(h.oldS s2)⟩ R) Z Z Z Z fun _ _ _ a4 S=>?_;obtain⟨_,_,rfl,a5,T⟩:=a4.consI S;obtain⟨_,_,rfl,a6,W⟩:=a5.consI T;obtain⟨rfl,h⟩:=a6.lastI W;refine X1 24 0 h Z ?_;obtain⟨o1,F,D⟩:=qc F;refine qr (rL (fun m e w'=>∃i1 c,ky Ce d f g i k l m i1 c=V o1/\e=[(3,vi b),(4,vp a),(9,vi d),(10,vi f),(11,vi g),(12,vi i),(13,vi k),(14,vi l),(15,vi (Ce.Bm.length:Int)),(16,vi i1),(17,vi c)]/\SH w w' [oX a (lC Ce p1 z A x y k3) 175]) n ⟨_,_,F,Z,h⟩ Z ?_);rintro m1 _ _ ⟨i1,c,F,rfl,h⟩;rcases m1 with _|m1
 .cases F
 refine X0 6 Z (qp Z F ?_ ?_)<;>intro F
 .refine X0 7 Z ?_;obtain⟨o2,F,H⟩:=qc F;refine qr (rL (fun m e w'=>∃u v,fL Ce d f g i k l c m u v=V o2/\e=[(3,vi b),(4,vp a),(9,vi d),(10,vi f),(11,vi g),(12,vi i),(13,vi k),(14,vi l),(15,vi (Ce.Bm.length:Int)),(16,vi u),(17,vi c),(18,vi v)]/\SH w w' [oX a (lC Ce p1 z A x y k3) 175]) m1 ⟨_,_,F,Z,h⟩ Z ?_);rintro m2 _ _ ⟨u,v,F,rfl,h⟩;rcases m2 with _|m2
  .cases F
  refine X0 6 Z (qp Z F ?_ ?_)<;>intro F
  .refine X0 14 Z ?_;obtain⟨C,t,_,F,p⟩:=bindE F;refine bd (fun e w'=>∃i5,C i5=V o2/\e=[(3,vi b),(4,vp a),(9,vi d),(10,vi f),(11,vi g),(12,vi i),(13,vi k),(14,vi l),(15,vi (Ce.Bm.length:Int)),(16,vi u),(17,vi c),(18,vi v),(19,vi i5)]/\SH w w' [oX a (lC Ce p1 z A x y k3) 175]) ?_ ?_
   .refine qp Z F ?_ ?_<;>intro F
    .refine X0 4 Z ?_;exact rH F p h Z
    refine ez ?_;exact rH F p h Z
   rintro _ _ ⟨i5,F,rfl,h⟩;subst t;refine X0 6 Z ?_;obtain⟨B,s,_,F,o⟩:=bindE F;refine bd (fun e w'=>∃i6,B i6=V o2/\e=[(3,vi b),(4,vp a),(9,vi d),(10,vi f),(11,vi g),(12,vi i),(13,vi k),(14,vi l),(15,vi (Ce.Bm.length:Int)),(16,vi u),(17,vi c),(18,vi v),(19,vi i6)]/\SH w w' [oX a (lC Ce p1 z A x y k3) 175]) ?_ ?_
   .refine qp Z F ?_ ?_<;>intro F
    .refine X0 6 Z ?_;exact rH F o h Z
    refine X0 6 Z ?_;exact rH F o h Z
   rintro _ _ ⟨i6,F,rfl,h⟩;subst s;refine X0 5 Z (qp Z F ?_ ?_)<;>intro F
   .refine X1 14 0 h Z ?_;obtain⟨_,_,F,K,_,_,_,_,L,M,rfl,J⟩:=s3.ix F;exact fG L M K Z (bN 0 J h Z (X0 10 Z (rK ⟨_,_,F,Z,h⟩ Z)))
   exact X0 7 Z (rK ⟨_,_,F,Z,h⟩ Z)
  refine qx Z ?_;cases qe F;exact X0 6 Z (rK ⟨_,_,H,Z,h⟩ Z)
 refine qx Z ?_;cases qe F;have F:=D;exact X0 11 Z (mN h F pO Z fun _ _ h F=>X0 2 Z (ri h F Z))
def ko(b:aJ)(r1:List Int):Nat->(List Int)->Int->Option ((List Int)×Int)|0,_,_=>U|n+1,x1,a=>bif decide (a<(r1.length:Int)) then(qF b.Ak a).bind fun d=>(qF x1 d).bind fun f=>(qF b.Bw a).bind fun g=>(qF r1 a).bind fun h=>(dj x1 ([qj (f+(qj (g*h)))]:List Int)).bind fun c=>ko b r1 n c (qj (a+1)) else V (x1,a)
def pQ(n:Nat)(b:qf)(net:Int):Option (List Int):=(qF b.Ah net).bind fun a=>(rZ n b net).bind fun r1=>(ko a r1 n ([0]:List Int) 1).bind fun(x1,_)=>V x1
theorem xJ{b:qf}{net}(i:Ro w b cs1){r:List Int}(F:pQ n b net=V r):qP prog 236 [gv b cs1,vi net] w r:=by
 obtain⟨_,_,_,_,_,_,_,_,_,_,rfl,_,_,_,_,s5⟩:=qW i;refine zV 47 func236 Z fun h=>dE (qJ h Z Z fun w1 _ h=>X1 7 0 h Z ?_);obtain⟨T,_,F,A,_,_,_,_,D,K,O,v⟩:=s5.ix F;obtain⟨p6,X,p7,Y,p8,k8,p9,k9,rfl,s6,s7,_,_⟩:=dz O;refine fG D K A Z (bN 0 v h Z (qi qa h Z Z Z fun _ g h=>zs 0 h Z fun _ h=>X1 5 1 h Z (uj h F (yO (h.old i)) Z fun r1 _ S1 t s h F=>X0 4 Z (qv qa [.const (vi (0))] _ ([0]:List Int) h z9 ⟨Z,G⟩ Z fun _ _ _ h=>X0 7 Z ?_))));obtain⟨o1,F,u⟩:=qc F;refine qr ?_;have h:=h.p [0,1,2] Z;refine rL (fun m e w'=>∃R f d c x1 Q,ko T r1 m x1 Q=V o1/\e=[(5,vp g),(6,oL t r1 s),(7,oS f d c),(8,vi Q)]/\SH w w' [oW R (x1:List Int) [oS f d c],oW S1 (r1:List Int) [oL t r1 s],oX g (nW T p6 p7 p8 p9 X Y k8 k9) 171]) n ⟨_,_,_,_,_,_,F,Z,h⟩ Z ?_;rintro S _ _ ⟨R,f,d,c,x1,Q,F,rfl,h⟩;obtain rfl:=(h.sl 0 Z).2;rcases S with _|S
 .cases F
 refine X0 8 Z (qp Z F ?_ ?_)<;>intro F
 .refine TN (rA [] [1,2] h Z fun _ h=>M1 31 [0,1,2,3,4] 1 (h.p [1,2] Z) Z ?_);obtain⟨_,_,F,B,_,_,_,_,H,L,rfl,x⟩:=s6.ix F;refine Ae 5 63 H L B (h.p [1,2] Z) Z (Al 6 127 0 x (h.p [1,2] Z) Z ?_);obtain⟨y3,_,F,k,_,_,_,_,I,M,rfl,y⟩:=(h.sl 0 Z).1.ix F;refine Ax 7 255 I M ⟨k.1,qD k.2.1 (h.sl 0 Z).2⟩ (h.p [1,2] Z) Z (M1 3839 [9,10,11] 1 (h.p [1,2] Z) Z ?_);obtain⟨y4,_,F,C,_,_,_,_,J,N,rfl,z⟩:=s7.ix F;refine Ae 12 7935 J N C (h.p [1,2] Z) Z (Al 13 16127 0 z (h.p [1,2] Z) Z (M0 65279 [14,15] (h.p [1,2] Z) Z ?_));obtain⟨y5,P,F,l,_,_,_,_,o,p,rfl,_⟩:=(h.sl 1 Z).1.ix F;refine Ax 16 130815 o p ⟨l.1,qD l.2.1 (h.sl 1 Z).2⟩ (h.p [1,2] Z) Z (Aw 17 261887 (fun w' hw=>cR qa (qQ (w1:=w) (S1:=fun _=>False) hw 0 Z P o p Z) (j:=0) Z Z Z) (h.p [1,2] Z) Z ?_);refine M0 524031 [18] (h.p [1,2] Z) Z (Ao 8 524287 Z (zc 0 y Z (G0 1048575 [19] (h.p [1,2] Z) Z (Ao 20 2097151 Z (qv qa [.tmp 43] _ ([qj (y3+(qj (y4*y5)))]:List Int) h z9 ⟨Z,G⟩ Z fun _ _ _ h=>Ag (h.p [2,3] Z) (Ao 21 4194303 Z ?_))))));obtain⟨_,a,F⟩:=qc F;obtain⟨W,a⟩:=qH a;refine bo qa 1 h Z (h.sl 0 Z).1 (h.sl 0 Z).2 z9 W a Z fun _ _ _ _ h=>G0 8388607 [22] (h.p [2,3] Z) Z (Ad (X0 6 Z ?_));exact rK ⟨_,_,_,_,_,_,F,Z,h.p [1,2,3] Z⟩ Z
 refine qx Z ?_;cases qe F;have F:=u;refine X0 5 Z ?_;cases qe F;exact rO 0 h Z ⟨Z,G⟩
def dS(b:qf)(net:Int)(mode:Int)(r1:List Int):Nat->(List Int)->Int->Option ((List Int)×Int)|0,_,_=>U|n+1,x1,a=>(qF b.Ah net).bind fun f=>bif decide (a<(f.Bj.length:Int)) then(qF b.Ah net).bind fun g=>(qF g.Bj a).bind fun h=>(qF r1 h).bind fun i=>(fW n i 1000 mode).bind fun c=>(dj x1 ([c]:List Int)).bind fun d=>dS b net mode r1 n d (qj (a+1)) else V (x1,a)
def ot(n:Nat)(b:qf)(net:Int)(mode:Int):Option (List Int):=(pQ n b net).bind fun r1=>(dS b net mode r1 n ([]:List Int) 0).bind fun(x1,_)=>V x1
theorem AM{b:qf}{net mode}(f:Ro w b cs1){r:List Int}(F:ot n b net mode=V r):qP prog 193 [gv b cs1,vi net,vi mode] w r:=by
 obtain⟨p1,T,p2,W,p3,k3,p4,X,p5,Y,rfl,_,_,_,_,R⟩:=qW f;refine zV 43 func193 Z fun h=>dE (qJ h Z Z fun _ d h=>X1 6 0 h Z (uj h F (xJ (h.old f)) Z fun r1 _ S1 Q O h F=>X0 4 Z (qv qa [] _ ([]:List Int) h z9 trivial Z fun _ _ _ h=>X0 7 Z ?_)));obtain⟨o1,F,i⟩:=qc F;refine qr (rL (fun m e w'=>∃N L c K x1 J,dS b net mode r1 m x1 J=V o1/\e=[(1,vi net),(2,vi mode),(3,vp d),(7,oL Q r1 O),(8,oS L c K),(9,vi J)]/\SH w w' [oW N (x1:List Int) [oS L c K],oW S1 (r1:List Int) [oL Q r1 O],oX d (qN b p1 p2 p3 p4 p5 T W k3 X Y) 34]) n ⟨_,_,_,_,_,_,F,Z,h⟩ Z ?_);rintro P _ _ ⟨N,L,c,K,x1,J,F,rfl,h⟩;obtain rfl:=(h.sl 0 Z).2;rcases P with _|P
 .cases F
 refine X1 7 2 h Z ?_;obtain⟨_,_,F,s,_,_,_,_,v,A,H,k⟩:=R.ix F;obtain⟨_,_,_,_,_,_,_,_,rfl,_,_,_,_⟩:=dz H;refine fG v A s Z (cq Z (bN 3 k h Z (X0 3 Z (qp Z F ?_ ?_))))<;>intro F
 .refine X1 9 2 h Z ?_;obtain⟨_,_,F,t,_,_,_,_,x,B,I,l⟩:=R.ix F;obtain⟨_,_,_,_,_,_,_,_,rfl,_,_,_,M⟩:=dz I;refine fG x B t Z (cq Z (bN 3 l h Z (cq Z ?_)));obtain⟨_,_,F,u,_,_,_,_,y,C,rfl,o⟩:=M.ix F;refine fG y C u Z (bN 0 o h Z ?_);obtain⟨_,_,F,g,_,_,_,_,z,D,rfl,p⟩:=(h.sl 1 Z).1.ix F;refine zx z D ⟨g.1,qD g.2.1 (h.sl 1 Z).2⟩ Z (zc 0 p Z (cq Z (mN h F pO Z fun r2 _ h F=>qv qa [.tmp 39] _ ([r2]:List Int) h z9 ⟨Z,G⟩ Z fun _ _ _ h=>?_)));obtain⟨_,a,F⟩:=qc F;obtain⟨S,a⟩:=qH a;refine bo qa 1 h Z (h.sl 0 Z).1 (h.sl 0 Z).2 z9 S a Z fun _ _ _ _ h=>X0 8 Z ?_;exact rK ⟨_,_,_,_,_,_,F,Z,h.p [1,2,3] Z⟩ Z
 refine qx Z ?_;cases qe F;have F:=i;refine X0 5 Z ?_;cases qe F;exact rO 0 h Z ⟨Z,G⟩
def vq(n:Nat)(b:qf)(x:qw):Option Int:=(eA n (⟨b.Aa.Ab,b.Aa.Am,b.Aa.Ai⟩:qk)).bind fun r1=>(qF r1 (qj (x.To.tdiv 2))).bind fun a=>V a.net
theorem CJ{b:qf}{x:qw}(c:Ro w b cs1)(d:Ro w x cs2){r:Int}(F:vq n b x=V r):qP prog 194 [gv b cs1,gv x cs2] w r:=by
 obtain⟨_,_,_,_,_,_,_,_,_,_,rfl,_,s2,l,m,_⟩:=qW c;obtain rfl:=aA d;refine zV 14 func194 Z fun h=>dE (qJ h Z Z fun _ _ h=>qJ h Z Z fun _ _ h=>X0 3 Z (rA [] [0,1] h Z fun _ h=>M2 59 [0,1,3,4,5] 1 0 (h.p [0,1] Z) Z (Ao 2 63 Z (uj h F (dY (cg _ (h.oldS s2) (h.oldS l) (h.oldS m))) Z fun _ _ _ _ _ h F=>Ag (h.p [1,2] Z) ?_))));obtain⟨_,_,F,a,_,_,_,_,g,i,k,f⟩:=(h.sl 0 Z).1.ix F;obtain rfl:=df k;exact Ax 6 127 g i ⟨a.1,qD a.2.1 (h.sl 0 Z).2⟩ (h.p [1,2] Z) Z (M0 255 [7] (h.p [1,2] Z) Z (Ao 8 511 Z (zc 2 f Z (G0 1023 [9] (h.p [1,2] Z) Z (Ad (ri h F Z))))))
def iZ(_:Nat)(c:qG)(kind:Int)(mode:Int):Option Int:=bif (kind==1) then bif (mode==0) then V c.Ba else V c.Bd else bif (mode==0) then V c.Ay else V c.Bc
theorem xL{c:qG}{kind mode}(a:Ro w c cs1){r:Int}(F:iZ n c kind mode=V r):qP prog 196 [gv c cs1,vi kind,vi mode] w r:=by
 obtain rfl:=cQ a;refine zV 21 func196 Z fun h=>dE (qJ h Z Z fun _ _ h=>X0 8 Z (qp Z F ?_ ?_))<;>intro F
 .refine X0 6 Z (qp Z F ?_ ?_)<;>intro F
  .exact X1 6 0 h Z (ri h F Z)
  exact X1 7 0 h Z (ri h F Z)
 refine X0 7 Z (qp Z F ?_ ?_)<;>intro F
 .exact X1 6 0 h Z (ri h F Z)
 exact X1 7 0 h Z (ri h F Z)
def cK(n:Nat)(b:qf)(c:qG)(x:qw)(s:Int)(mode:Int):Option Int:=bif (x.Bf==1) then(vo n b x).bind fun(d,f)=>(qF d.Bu (x.To.tmod 2)).bind fun p=>(om n p s f mode).bind fun g=>(iZ n c x.Bf mode).bind fun h=>(fW n (qj (g*h)) 1000 mode).bind fun i=>V i else(vq n b x).bind fun k=>(ot n b k mode).bind fun l=>(qF l x.Ca).bind fun r=>(iZ n c x.Bf mode).bind fun m=>(fW n (qj (r*m)) 1000 mode).bind fun a=>V a
theorem iE{b:qf}{c:qG}{x:qw}{slew mode}(i:Ro w b cs1)(k:Ro w c cs2)(f:Ro w x cs3){r:Int}(F:cK n b c x slew mode=V r):qP prog 134 [gv b cs1,gv c cs2,gv x cs3,vi slew,vi mode] w r:=by
 obtain⟨_,_,_,_,_,_,_,_,_,_,rfl,_,_,_,_,_⟩:=qW i;obtain rfl:=cQ k;obtain rfl:=aA f;refine zV 53 func134 Z fun h=>dE (qJ h Z Z fun _ _ h=>qJ h Z Z fun _ _ h=>qJ h Z Z fun _ _ h=>X1 13 0 h Z (qp Z F ?_ ?_))<;>intro F
 .refine X2 4 2 0 h Z ?_;have a:Rg (old w) w (old w) w:=.start (fun _ h=>h);obtain⟨⟨S,T⟩,B,F⟩:=qc F;refine pg (S,T) a h (cB 191 Z) (CI (a.regOld h) (a.inR h i) (a.inR h f) B) Z Z Z Z fun _ _ _ g d J H=>?_;have N:=h.ext d.below;have p:=Up.box 1 h d Z;have W:=Up.R a h d k;have O:=Up.boxP (x:=c) a 1 h d Z (a.inR h k);have l:=Up.box 0 h d Z;have e:=Up.R a h d f;have P:=Up.boxP (x:=x) a 0 h d Z (a.inR h f);have R:=h.below.trans (d.below.mono h.below.size);have h:=J;obtain⟨_,_,rfl,o,I⟩:=dA H;have Q:=o;obtain⟨_,_,_,_,rfl,X,_⟩:=bq o;obtain⟨_,rfl,C⟩:=mS I;obtain rfl:=C;refine EK Z (qi qa h Z Z Z fun _ _ h=>zs 0 h Z fun _ h=>X1 6 0 h Z (bN 1 l h Z (cq Z ?_)));obtain⟨Y,_,F,u,_,_,_,_,v,z,D,s⟩:=X.ix F;obtain⟨_,_,_,_,_,_,rfl,K,L,M⟩:=fk D;refine fG v z u Z (bN 0 s h Z (EK Z (mN h F (zX (uF Y (h.oldS (K.mono g.old)) (h.oldS (L.mono g.old)) (h.oldS (M.mono g.old)))) Z fun _ _ h F=>X0 5 Z (bN 0 p h Z (cq Z (bN 2 l h Z (cq Z (mN h F (xL (h.old (qm.mono W g.old))) Z fun _ _ h F=>lY Z (mN h F pO Z fun _ _ h F=>X0 2 Z ?_)))))))));have h:=h.unbase g.below ⟨fun _ h=>h,G⟩;exact ri h F Z
 refine rA [] [0,2] h Z fun _ h=>M4 215 [0,1,2,4,6,7] 1 1 0 0 (h.p [0,2] Z) Z (Ao 3 223 Z (mN h F (CJ (h.old i) (h.old f)) Z fun _ _ h F=>Ag (h.p [0,2] Z) (Ao 5 255 Z (uj h F (AM (h.old i)) Z fun _ _ _ _ _ h F=>Ag (h.p [1,3] Z) ?_))));obtain⟨_,_,F,m,_,_,_,_,y,A,rfl,t⟩:=(h.sl 0 Z).1.ix F;exact Ax 8 511 y A ⟨m.1,qD m.2.1 (h.sl 0 Z).2⟩ (h.p [1,3] Z) Z (Ao 9 1023 Z (zc 0 t Z (G0 2047 [10] (h.p [1,3] Z) Z (Ad (X2 7 2 1 h Z (mN h F (xL (h.old k)) Z fun _ _ h F=>lY Z (mN h F pO Z fun _ _ h F=>X0 2 Z (ri h F Z))))))))
def kE(c:Int):Nat->Int->Int->Option (Int×Int)|0,_,_=>U|n+1,a,b=>bif decide (a<b) then bif decide ((qj ((qj ((qj ((qj (a+b))+1)).tdiv 2))*(qj ((qj ((qj (a+b))+1)).tdiv 2))))<=c) then kE c n (qj ((qj ((qj (a+b))+1)).tdiv 2)) b else kE c n a (qj ((qj ((qj ((qj (a+b))+1)).tdiv 2))-1)) else V (a,b)
def ub(n:Nat)(b:Int)(mode:Int):Option Int:=(kE b n 0 2000000000).bind fun(a,_)=>bif (mode==1) then bif decide ((qj (a*a))<b) then V (qj (a+1)) else V a else V a
theorem LI{a_n mode}  {r:Int}(F:ub n a_n mode=V r):qP prog 237 [vi a_n,vi mode] w r:=by
 refine zV 36 func237 Z fun h=>X0 10 Z ?_;obtain⟨o1,F,a⟩:=qc F;refine qr (rL (fun m e w'=>∃b c,kE a_n m b c=V o1/\e=[(0,vi a_n),(1,vi mode),(5,vi b),(6,vi c)]/\SH w w' []) n ⟨_,_,F,Z,h⟩ Z ?_);rintro d _ _ ⟨b,c,F,rfl,h⟩;rcases d with _|d
 .cases F
 refine X0 7 Z (qp Z F ?_ ?_)<;>intro F
 .refine X0 19 Z (qp Z F ?_ ?_)<;>intro F
  .exact X0 5 Z (rK ⟨_,_,F,Z,h⟩ Z)
  exact X0 6 Z (rK ⟨_,_,F,Z,h⟩ Z)
 refine qx Z ?_;cases qe F;have F:=a;refine X0 6 Z (qh (t:=26) F Z ?_ ?_)<;>intro F
 .refine X0 12 Z (qp Z F ?_ ?_)<;>intro F
  .exact X0 10 Z (ri h F Z)
  exact X0 6 Z (ri h F Z)
 exact X0 7 Z (ch Z Z (X0 6 Z (ri h F Z)))
def zF(n:Nat)(b:qf)(net:Int)(i:Int)(h:Int)(mode:Int):Option Int:=(qF b.Ah net).bind fun f=>(qF f.Bj i).bind fun g=>(pQ n b net).bind fun r1=>(qF r1 g).bind fun a=>(ub n (qj ((qj ((qj (1000000*h))*h))+(qj ((qj (4*a))*a)))) mode).bind fun c=>(fW n c 1000 mode).bind fun d=>V d
theorem LJ{b:qf}{net sink slew mode}(a:Ro w b cs1){r:Int}(F:zF n b net sink slew mode=V r):qP prog 197 [gv b cs1,vi net,vi sink,vi slew,vi mode] w r:=by
 obtain⟨_,_,_,_,_,_,_,_,_,_,rfl,_,_,_,_,v⟩:=qW a;refine zV 39 func197 Z fun h=>dE (qJ h Z Z fun _ _ h=>X0 3 Z (rA [] [0] h Z fun _ h=>M2 59 [0,1,3,4,5] 0 0 (h.p [0] Z) Z ?_));obtain⟨_,_,F,i,_,_,_,_,l,p,u,d⟩:=v.ix F;obtain⟨_,_,_,_,_,_,_,_,rfl,_,_,_,x⟩:=dz u;refine Ae 6 123 l p i (h.p [0] Z) Z (M0 251 [7] (h.p [0] Z) Z (Al 8 507 3 d (h.p [0] Z) Z (M0 1019 [9] (h.p [0] Z) Z ?_)));obtain⟨_,_,F,k,_,_,_,_,m,s,rfl,f⟩:=x.ix F;refine Ae 10 2043 m s k (h.p [0] Z) Z (Al 11 4091 0 f (h.p [0] Z) Z (Ao 2 4095 Z (uj h F (xJ (h.old a)) Z fun _ _ _ _ _ h F=>Ag (h.p [1] Z) ?_)));obtain⟨_,_,F,c,_,_,_,_,o,t,rfl,g⟩:=(h.sl 0 Z).1.ix F;exact Ax 12 8191 o t ⟨c.1,qD c.2.1 (h.sl 0 Z).2⟩ (h.p [1] Z) Z (Ao 13 16383 Z (zc 0 g Z (G0 32767 [14] (h.p [1] Z) Z (Ad (X0 12 Z (mN h F LI Z fun _ _ h F=>cq Z (mN h F pO Z fun _ _ h F=>X0 2 Z (ri h F Z))))))))
def kW(n:Nat)(b:qf)(x:qw)(i:Int)(mode:Int):Option Int:=bif (x.Bf==1) then(vo n b x).bind fun(c,d)=>(qF c.Bb (x.To.tmod 2)).bind fun h=>(om n h i d mode).bind fun f=>V f else(vq n b x).bind fun g=>(zF n b g x.Ca i mode).bind fun a=>V (if a<1000000 then a else 1000000)
theorem kG{b:qf}{x:qw}{slew mode}(f:Ro w b cs1)(c:Ro w x cs2){r:Int}(F:kW n b x slew mode=V r):qP prog 135 [gv b cs1,gv x cs2,vi slew,vi mode] w r:=by
 obtain⟨_,_,_,_,_,_,_,_,_,_,rfl,_,_,_,_,_⟩:=qW f;obtain rfl:=aA c;refine zV 41 func135 Z fun h=>dE (qJ h Z Z fun _ _ h=>qJ h Z Z fun _ _ h=>X1 9 0 h Z (qp Z F ?_ ?_))<;>intro F
 .refine X2 4 1 0 h Z ?_;have a:Rg (old w) w (old w) w:=.start (fun _ h=>h);obtain⟨⟨L,M⟩,s,F⟩:=qc F;refine pg (L,M) a h (cB 191 Z) (CI (a.regOld h) (a.inR h f) (a.inR h c) s) Z Z Z Z fun _ _ _ g d B z=>?_;have H:=h.ext d.below;have k:=Up.box 0 h d Z;have S:=Up.R a h d c;have I:=Up.boxP (x:=x) a 0 h d Z (a.inR h c);have K:=h.below.trans (d.below.mono h.below.size);have h:=B;obtain⟨_,_,rfl,i,A⟩:=dA z;have J:=i;obtain⟨_,_,_,_,rfl,_,P⟩:=bq i;obtain⟨_,rfl,t⟩:=mS A;obtain rfl:=t;refine EK Z (qi qa h Z Z Z fun _ _ h=>zs 0 h Z fun _ h=>X1 7 0 h Z (bN 1 k h Z (cq Z ?_)));obtain⟨R,_,F,m,_,_,_,_,o,p,u,l⟩:=P.ix F;obtain⟨_,_,_,_,_,_,rfl,Q,C,D⟩:=fk u;refine fG o p m Z (bN 0 l h Z (EK Z (mN h F (zX (uF R (h.oldS (Q.mono g.old)) (h.oldS (C.mono g.old)) (h.oldS (D.mono g.old)))) Z fun _ _ h F=>X0 2 Z ?_)));have h:=h.unbase g.below ⟨fun _ h=>h,G⟩;exact ri h F Z
 refine E1 (rD (Y1 1 1 h Z ?_));refine Y1 1 1 h Z ?_;refine Y1 1 0 h Z ?_;obtain⟨N,v,F⟩:=qc F;refine en N (qby _) (cB 194 Z) (fun _ T=>CJ ((h.ext T).old f) ((h.ext T).old c) v) Z Z Z Z (Y1 2 0 h Z ?_);refine xQ Z ?_;obtain⟨O,y,F⟩:=qc F;exact en O (qby _) (cB 197 Z) (fun _ T=>LJ ((h.ext T).old f) y) Z Z Z Z (xQ Z (dN h fun _ h=>ri h F Z))
def mW(n:Nat)(Ce:qf)(Cf:qG)(Cg:qw)(a:qg):Option (qg×qg):=(cK n Ce Cf Cg a.As 0).bind fun r1=>(cK n Ce Cf Cg a.As 1).bind fun b=>(kW n Ce Cg a.As 0).bind fun c=>(kW n Ce Cg a.As 1).bind fun d=>(cK n Ce Cf Cg a.Be 0).bind fun f=>(cK n Ce Cf Cg a.Be 1).bind fun g=>(kW n Ce Cg a.Be 0).bind fun h=>(kW n Ce Cg a.Be 1).bind fun i=>V ((⟨(if f<r1 then f else r1),(if g > b then g else b)⟩:qg),(⟨(if h<c then h else c),(if i > d then i else d)⟩:qg))
theorem nR{Ce:qf}{Cf:qG}{Cg:qw}{f:qg}(a:Ro w Ce cs1)(d:Ro w Cf cs2)(b:Ro w Cg cs3)(H:Ro w f cs4){r:qg×qg}(F:mW n Ce Cf Cg f=V r):qP prog 172 [gv Ce cs1,gv Cf cs2,gv Cg cs3,gv f cs4] w r:=by
 obtain⟨p1,I,M,J,N,k3,O,K,P,L,rfl,_,_,_,_,_⟩:=qW a;obtain rfl:=cQ d;obtain rfl:=aA b;obtain rfl:=qA H;refine zV 76 func172 Z fun h=>dE (qJ h Z Z fun _ i h=>qJ h Z Z fun _ k h=>qJ h Z Z fun _ l h=>qJ h Z Z fun _ m h=>qi qa h Z Z Z fun _ o h=>qi qa h Z Z Z fun _ p h=>O2 ?_);obtain⟨r1,y,F⟩:=qc F;obtain⟨s,u,F⟩:=qc F;refine bd (fun e w'=>∃c,e=[(4,vp i),(5,vp k),(6,vp l),(7,vp m),(8,vp o),(9,vp p),(10,vp c)]/\SH w w' [oX c [vi r1,vi s] 59,oX p [vi 0,vi 0] 59,oX o [vi 0,vi 0] 59,oX m (oP f) 59,oX l (vM Cg) 127,oX k (bZ Cf) 36,oX i (qN Ce p1 M N O P I J k3 K L) 34]) ?_ ?_
 .refine rA [14] [2,3,4,5] h Z fun _ h=>M4 31 [0,1,2,3,4] 3 2 1 0 (h.p [2,3,4,5] Z) Z (M4 2015 [6,7,8,9,10] 3 2 1 0 (h.p [2,3,4,5] Z) Z (At 5 13 2047 10207 Z ?_ ?_))
  .refine fJ r1 h (cB 134 Z) (iE (h.old a) (h.old d) (h.old b) y) Z Z Z Z fun _ h=>Ag (h.p [2,3,4,5] Z) (At 11 13 4095 10239 Z ?_ ?_)
   .refine fJ s h (cB 134 Z) (iE (h.old a) (h.old d) (h.old b) u) Z Z Z Z fun _ h=>Ag (h.p [2,3,4,5] Z) (Aw 12 8191 (fun w' R=>qC qa [0,1] [.tmp 17,.tmp 23] z8) (h.p [2,3,4,5] Z) Z ?_);exact Ao 13 16383 Z (qi qa h Z Z Z fun _ _ h=>Ag (h.p [3,4,5,6] Z) (Ao 14 32767 Z (zs 0 h Z fun _ h=>bL (fun Q=>absurd (Q 14 (by decide)) (by decide)) (Ad (rG ⟨_,Z,h⟩ Z)))))
   refine qi qa h Z Z Z fun _ _ h=>Ag (h.p [3,4,5,6] Z) (Ao 11 12287 Z (fJ s h (cB 134 Z) (iE (h.old a) (h.old d) (h.old b) u) Z Z Z Z fun _ h=>Ag (h.p [3,4,5,6] Z) (Aw 12 16383 (fun w' R=>qC qa [0,1] [.tmp 17,.tmp 23] z8) (h.p [3,4,5,6] Z) Z ?_)));exact Ao 14 32767 Z (zs 0 h Z fun _ h=>bL (fun Q=>absurd (Q 14 (by decide)) (by decide)) (Ad (rG ⟨_,Z,h⟩ Z)))
  refine qi qa h Z Z Z fun _ _ h=>Ag (h.p [3,4,5,6] Z) (Ao 5 10239 Z (fJ r1 h (cB 134 Z) (iE (h.old a) (h.old d) (h.old b) y) Z Z Z Z fun _ h=>Ag (h.p [3,4,5,6] Z) (Ao 11 12287 Z (fJ s h (cB 134 Z) (iE (h.old a) (h.old d) (h.old b) u) Z Z Z Z fun _ h=>Ag (h.p [3,4,5,6] Z) (Aw 12 16383 (fun w' R=>qC qa [0,1] [.tmp 17,.tmp 23] z8) (h.p [3,4,5,6] Z) Z ?_)))));exact Ao 14 32767 Z (zs 0 h Z fun _ h=>bL (fun Q=>absurd (Q 14 (by decide)) (by decide)) (Ad (rG ⟨_,Z,h⟩ Z)))
 rintro _ _ ⟨c,rfl,h⟩;refine au ?_;obtain⟨x,z,F⟩:=qc F;obtain⟨t,v,F⟩:=qc F;refine bd (fun e w'=>∃g,e=[(4,vp i),(5,vp k),(6,vp l),(7,vp m),(8,vp o),(9,vp p),(10,vp c),(11,vp g)]/\SH w w' [oX g [vi x,vi t] 59,oX c [vi r1,vi s] 59,oX p [vi 0,vi 0] 59,oX o [vi 0,vi 0] 59,oX m (oP f) 59,oX l (vM Cg) 127,oX k (bZ Cf) 36,oX i (qN Ce p1 M N O P I J k3 K L) 34]) ?_ ?_
 .refine rA [12] [3,4,6] h Z fun _ h=>M4 47 [0,1,2,3,5] 2 1 0 2 (h.p [3,4,6] Z) Z (M2 495 [6,7,8] 1 0 (h.p [3,4,6] Z) Z (At 4 11 511 2543 Z ?_ ?_))
  .refine fJ x h (cB 135 Z) (kG (h.old a) (h.old b) z) Z Z Z Z fun _ h=>Ag (h.p [3,4,6] Z) (At 9 11 1023 2559 Z ?_ ?_)
   .refine fJ t h (cB 135 Z) (kG (h.old a) (h.old b) v) Z Z Z Z fun _ h=>Ag (h.p [3,4,6] Z) (Aw 10 2047 (fun w' R=>qC qa [0,1] [.tmp 29,.tmp 34] z8) (h.p [3,4,6] Z) Z ?_);exact Ao 11 4095 Z (qi qa h Z Z Z fun _ _ h=>Ag (h.p [4,5,7] Z) (Ao 12 8191 Z (zs 0 h Z fun _ h=>bL (fun Q=>absurd (Q 12 (by decide)) (by decide)) (Ad (rG ⟨_,Z,h⟩ Z)))))
   refine qi qa h Z Z Z fun _ _ h=>Ag (h.p [4,5,7] Z) (Ao 9 3071 Z (fJ t h (cB 135 Z) (kG (h.old a) (h.old b) v) Z Z Z Z fun _ h=>Ag (h.p [4,5,7] Z) (Aw 10 4095 (fun w' R=>qC qa [0,1] [.tmp 29,.tmp 34] z8) (h.p [4,5,7] Z) Z ?_)));exact Ao 12 8191 Z (zs 0 h Z fun _ h=>bL (fun Q=>absurd (Q 12 (by decide)) (by decide)) (Ad (rG ⟨_,Z,h⟩ Z)))
  refine qi qa h Z Z Z fun _ _ h=>Ag (h.p [4,5,7] Z) (Ao 4 2559 Z (fJ x h (cB 135 Z) (kG (h.old a) (h.old b) z) Z Z Z Z fun _ h=>Ag (h.p [4,5,7] Z) (Ao 9 3071 Z (fJ t h (cB 135 Z) (kG (h.old a) (h.old b) v) Z Z Z Z fun _ h=>Ag (h.p [4,5,7] Z) (Aw 10 4095 (fun w' R=>qC qa [0,1] [.tmp 29,.tmp 34] z8) (h.p [4,5,7] Z) Z ?_)))));exact Ao 12 8191 Z (zs 0 h Z fun _ h=>bL (fun Q=>absurd (Q 12 (by decide)) (by decide)) (Ad (rG ⟨_,Z,h⟩ Z)))
 rintro _ _ ⟨g,rfl,h⟩;refine au (rA [10] [1,4,5,6,7] h Z fun _ h=>M4 63 [0,1,2,3,4,5] 0 4 3 2 (h.p [1,4,5,6,7] Z) Z (M1 127 [6] 1 (h.p [1,4,5,6,7] Z) Z (Ao 7 255 Z (mN h F (iE (h.old a) (h.old d) (h.old b)) Z fun A _ h F=>G0 1023 [8,9] (h.p [1,4,5,6,7] Z) Z (Ao 10 2047 Z (zs 1 h Z fun _ h=>bL (fun Q=>absurd (Q 10 (by decide)) (by decide)) (Ad (au (rA [10] [1,4,5,6,7] h Z fun _ h=>M4 63 [0,1,2,3,4,5] 0 4 3 2 (h.p [1,4,5,6,7] Z) Z (M1 127 [6] 1 (h.p [1,4,5,6,7] Z) Z (Ao 7 255 Z (mN h F (iE (h.old a) (h.old d) (h.old b)) Z fun B _ h F=>G0 1023 [8,9] (h.p [1,4,5,6,7] Z) Z (Ao 10 2047 Z (zs 1 h Z fun _ h=>bL (fun Q=>absurd (Q 10 (by decide)) (by decide)) (Ad (au (rA [9] [0,4,5,7] h Z fun _ h=>M4 63 [0,1,2,3,4,5] 0 3 2 1 (h.p [0,4,5,7] Z) Z (Ao 6 127 Z (mN h F (kG (h.old a) (h.old b)) Z fun C _ h F=>G0 511 [7,8] (h.p [0,4,5,7] Z) Z (Ao 9 1023 Z (zs 0 h Z fun _ h=>bL (fun Q=>absurd (Q 9 (by decide)) (by decide)) (Ad (au (rA [9] [0,4,5,7] h Z fun _ h=>M4 63 [0,1,2,3,4,5] 0 3 2 1 (h.p [0,4,5,7] Z) Z (Ao 6 127 Z (mN h F (kG (h.old a) (h.old b)) Z fun D _ h F=>G0 511 [7,8] (h.p [0,4,5,7] Z) Z (Ao 9 1023 Z (zs 0 h Z fun _ h=>bL (fun Q=>absurd (Q 9 (by decide)) (by decide)) (Ad (au (rA [] [0,1] h Z fun _ h=>M2 3 [0,1] 1 0 (h.p [0,1] Z) Z (Ao 2 7 Z (zs 3 h Z fun _ h=>Ag (h.p [0,1] Z) (Ao 3 15 Z (zs 2 h Z fun _ h=>Ag (h.p [0,1] Z) (Ad ?_))))))))))))))))))))))))))))))))))));cases qe F;exact aq qa (ρ:=(qg×qg)) [oV qg [vi (if A<r1 then A else r1),vi (if B > s then B else s)],oV qg [vi (if C<x then C else x),vi (if D > t then D else t)]] h ⟨⟨_,_,_,Z,Z,h.box 3 Z,Z⟩,⟨_,_,_,Z,Z,h.box 2 Z,Z⟩,G⟩ (Cq h (ai h (lT (S:=fun _=>False) (qI (⟨(if A<r1 then A else r1),(if B > s then B else s)⟩:qg))) (pJ (lT (S:=fun _=>False) (qI (⟨(if C<x then C else x),(if D > t then D else t)⟩:qg)))) (by rfl)))
def wh(_:Nat)(a:qg)(b:qg):Option qg:=V (⟨(if b.As<a.As then b.As else a.As),(if b.Be > a.Be then b.Be else a.Be)⟩:qg)
theorem AA{a:qg}{b:qg}(c:Ro w a cs1)(d:Ro w b cs2){r:qg}(F:wh n a b=V r):qP prog 252 [gv a cs1,gv b cs2] w r:=by
 obtain rfl:=qA c;obtain rfl:=qA d;refine zV 16 func252 Z fun h=>dE (qJ h Z Z fun _ _ h=>qJ h Z Z fun _ _ h=>qi qa h Z Z Z fun _ _ h=>X4 13 2 1 2 1 h Z (dK (qC qa [0,1] [.tmp 9,.tmp 14] z8) Z (zs 0 h Z fun _ h=>ac ?_)));obtain rfl:=qe F;exact aq qa (ρ:=qg) [oV qg [vi (if b.As<a.As then b.As else a.As),vi (if b.Be > a.Be then b.Be else a.Be)]] h ⟨⟨_,_,_,Z,Z,h.box 0 Z,Z⟩,G⟩ (Cq h (pJ (lT (S:=fun _=>False) (qI (⟨(if b.As<a.As then b.As else a.As),(if b.Be > a.Be then b.Be else a.Be)⟩:qg)))))

def gT(Ce:qf)(Cf:qG)(Cg:List qw)(d:List Bool)(a:qn)(c:Int):Nat->Int->Int->Int->Int->Int->Bool->Int->Option (Int×Int×Int×Int×Int×Bool×Int)|0,_,_,_,_,_,_,_=>U|n+1,u,i8,p,f,g,m,b=>bif decide (b<(Cg.length:Int)) then(qF Cg b).bind fun h=>((qF d b).bind fun s=>bif (!s) then V An else bif (h.To != c) then V An else(qF a.Aq h.Bk).bind fun t=>V (!t)).bind fun y=>bif y then gT Ce Cf Cg d a c n u i8 p f g m (qj (b+1)) else(qF a.Bb h.Bk).bind fun z=>(mW n Ce Cf h z).bind fun(l,r)=>(qF a.Af h.Bk).bind fun i=>(qF a.Af h.Bk).bind fun k=>bif m then(wh n (⟨qj (i.As+l.As),qj (k.Be+l.Be)⟩:qg) (⟨i8,p⟩:qg)).bind fun v=>(wh n r (⟨f,g⟩:qg)).bind fun x=>gT Ce Cf Cg d a c n c v.As v.Be x.As x.Be An (qj (b+1)) else gT Ce Cf Cg d a c n c (qj (i.As+l.As)) (qj (k.Be+l.Be)) r.As r.Be An (qj (b+1)) else V (u,i8,p,f,g,m,b)
def gS(a:List ql)(b:Int):Nat->Int->Int->Int->Int->Int->Bool->Int->Option (Int×Int×Int×Int×Int×Bool×Int)|0,_,_,_,_,_,_,_=>U|n+1,f,g,h,i,k,b1,c=>bif decide (c<(a.length:Int)) then(qF a c).bind fun l=>bif (l.Bn==b) then(qF a c).bind fun d=>gS a b n d.Bn d.Af.As d.Af.Be d.Bb.As d.Bb.Be An (qj (c+1)) else gS a b n f g h i k b1 (qj (c+1)) else V (f,g,h,i,k,b1,c)
def ud(n:Nat)(Ce:qf)(Cf:qG)(Cg:List qw)(b:List Bool)(c:List ql)(d:qn)(a:Int):Option (Bool×ql):=(gS c a n 0 0 0 0 0 Cd 0).bind fun(i,k,l,m,p,b1,_)=>(gT Ce Cf Cg b d a n i k l m p b1 0).bind fun(r,i8,s,f,g,h,_)=>V (h,(⟨r,(⟨i8,s⟩:qg),(⟨f,g⟩:qg)⟩:ql))
theorem LO{Ce:qf}{Cf:qG}{Cg:List qw}{f:List Bool}{H:List ql}{g:qn}{i}(C:Ro w Ce cs1)(D:Ro w Cf cs2)(ha3:Ro w Cg cs3)(ha4:Ro w f cs4)(ha5:Ro w H cs5)(ha6:Ro w g cs6){r:Bool×ql}(F:ud n Ce Cf Cg f H g i=V r):qP prog 218 [gv Ce cs1,gv Cf cs2,gv Cg cs3,gv f cs4,gv H cs5,gv g cs6,vi i] w r:=by
 obtain⟨p1,k1,p2,k2,p3,k3,p4,k4,p5,k5,rfl,_,_,_,_,_⟩:=qW C;obtain rfl:=cQ D;obtain⟨p6,k6,rfl,s6⟩:=ha3;obtain⟨p7,k7,rfl,s7⟩:=ha4;obtain⟨p8,k8,rfl,s8⟩:=ha5;obtain⟨p9,k9,a5,a3,a6,a4,rfl,s9,s10,s11⟩:=dX ha6;refine zV 121 func218 Z fun h=>dE (qJ h Z Z fun _ k h=>qJ h Z Z fun _ l h=>qJ h Z Z fun _ o h=>cq Z (qi qa h Z Z Z fun _ s h=>X0 7 Z (dK (qC qa [] [] z8) Z (qi qa h Z Z Z fun _ u h=>zs 0 h Z fun _ h=>X0 6 Z ?_))));obtain⟨o1,F,hK1⟩:=qc F;refine qr (rL (fun m e w'=>∃i1 i2 i3 i4 i5 b1 i6,gS H i m i1 i2 i3 i4 i5 b1 i6=V o1/\e=[(2,oL p6 Cg k6),(3,oL p7 f k7),(4,oL p8 H k8),(6,vi i),(7,vp k),(8,vp l),(12,vp o),(15,vp s),(16,.bool b1),(17,vp u),(18,vi i6)]/\SH w w' [oX u [vi i1,vi i2,vi i3,vi i4,vi i5] 122,oX s N9 122,oX o (bF g p9 a5 a6 k9 a3 a4) 51,oX l (bZ Cf) 36,oX k (qN Ce p1 p2 p3 p4 p5 k1 k2 k3 k4 k5) 34]) n ⟨_,_,_,_,_,_,_,F,Z,h⟩ Z ?_);rintro m1 _ _ ⟨i1,i2,i3,i4,i5,b1,i6,F,rfl,h⟩;rcases m1 with _|m1
 .cases F
 refine X0 8 Z (qp Z F ?_ ?_)<;>intro F
 .refine X0 7 Z ?_;obtain⟨_,_,F,he1,_,_,_,_,hp1,hq1,hr1,hc2⟩:=s8.ix F;obtain rfl:=aB hr1;refine fG hp1 hq1 he1 Z (cq Z (bN 0 hc2 h Z (X0 3 Z (qp Z F ?_ ?_))))<;>intro F
  .refine X0 7 Z ?_;obtain⟨_,_,F,he2,_,_,_,_,hp2,hq2,hr2,hc4⟩:=s8.ix F;obtain rfl:=aB hr2;exact fG hp2 hq2 he2 Z (bN 0 hc4 h Z (zs 0 h Z fun _ h=>X0 7 Z (rK ⟨_,_,_,_,_,_,_,F,Z,h⟩ Z)))
  exact X0 7 Z (rK ⟨_,_,_,_,_,_,_,F,Z,h⟩ Z)
 refine qx Z ?_;cases qe F;have F:=hK1;refine X0 5 Z ?_;obtain⟨o2,F,hK2⟩:=qc F;refine qr (rL (fun m e w'=>∃i7 i8 i9 v x b4 N,gT Ce Cf Cg f g i m i7 i8 i9 v x b4 N=V o2/\e=[(2,oL p6 Cg k6),(3,oL p7 f k7),(6,vi i),(7,vp k),(8,vp l),(12,vp o),(15,vp s),(16,.bool b4),(17,vp u),(19,vi N)]/\SH w w' [oX u [vi i7,vi i8,vi i9,vi v,vi x] 122,oX s N9 122,oX o (bF g p9 a5 a6 k9 a3 a4) 51,oX l (bZ Cf) 36,oX k (qN Ce p1 p2 p3 p4 p5 k1 k2 k3 k4 k5) 34]) n ⟨_,_,_,_,_,_,_,F,Z,h⟩ Z ?_);rintro m2 _ _ ⟨i7,i8,i9,v,x,b4,N,F,rfl,h⟩;rcases m2 with _|m2
 .cases F
 refine X0 8 Z (qp Z F ?_ ?_)<;>intro F
 .refine X0 7 Z ?_;obtain⟨y3,_,F,he3,_,_,_,_,hp3,hq3,hr3,hc6⟩:=s6.ix F;obtain rfl:=aA hr3;refine fG hp3 hq3 he3 Z (bN 0 hc6 h Z (qi qa h Z Z Z fun _ Y h=>zs 0 h Z fun _ h=>qbD ?_));obtain⟨KF3,hKF3,_,F,a7⟩:=bindE F;refine bd (fun e w'=>∃b6,KF3 b6=V o2/\e=[(2,oL p6 Cg k6),(3,oL p7 f k7),(6,vi i),(7,vp k),(8,vp l),(12,vp o),(15,vp s),(16,.bool b4),(17,vp u),(19,vi N),(20,vp Y),(71,.bool b6)]/\SH w w' [oX Y (vM y3) 127,oX u [vi i7,vi i8,vi i9,vi v,vi x] 122,oX s N9 122,oX o (bF g p9 a5 a6 k9 a3 a4) 51,oX l (bZ Cf) 36,oX k (qN Ce p1 p2 p3 p4 p5 k1 k2 k3 k4 k5) 34]) ?_ ?_
  .refine X0 3 Z ?_;obtain⟨_,_,F,he16,_,_,_,_,hp16,hq16,rfl,hc22⟩:=s7.ix F;refine fG hp16 hq16 he16 Z (bN 0 hc22 h Z (lY Z (qh (t:=57) F Z ?_ ?_)))<;>intro F
   .refine X0 15 Z ?_;exact rH F a7 h Z
   refine X1 10 0 h Z (qh (t:=63) F Z ?_ ?_)<;>intro F
   .refine X0 9 Z ?_;exact rH F a7 h Z
   refine X2 9 3 0 h Z ?_;obtain⟨_,_,F,he17,_,_,_,_,hp17,hq17,rfl,hc23⟩:=s9.ix F;refine fG hp17 hq17 he17 Z (X0 1 Z (bN 0 hc23 h Z (X0 4 Z ?_)));exact rH F a7 h Z
  rintro _ _ ⟨b6,F,rfl,h⟩;subst hKF3;refine qp Z F ?_ ?_<;>intro F
  .refine qx Z (X0 5 Z ?_);exact rK ⟨_,_,_,_,_,_,_,F,Z,h.p [1,2,3,4,5] Z⟩ Z
  refine E1 (rA [] [0,3,4,5] h Z fun _ h=>M4 63 [0,1,2,3,4,5] 3 2 0 1 (h.p [0,3,4,5] Z) Z (M1 127 [6] 0 (h.p [0,3,4,5] Z) Z ?_));obtain⟨y4,_,F,he4,_,_,_,_,hp4,hq4,hr4,hc8⟩:=s11.ix F;obtain rfl:=qA hr4;refine Ae 7 255 hp4 hq4 he4 (h.p [0,3,4,5] Z) Z (Al 8 511 0 hc8 (h.p [0,3,4,5] Z) Z ?_);obtain⟨⟨r2,r3⟩,M,F⟩:=qc F;refine sg (fun e w'=>∃J L,e=[(12,vp o),(15,vp s),(16,.bool b4),(17,vp u),(19,vi N),(2,oL p6 Cg k6),(20,vp Y),(21,vp L),(22,vp J),(3,oL p7 f k7),(6,vi i),(7,vp k),(8,vp l)]/\SH w w' [oX J (oP r3) 59,oX L (oP r2) 59,oX Y (vM y3) 127,oX u [vi i7,vi i8,vi i9,vi v,vi x] 122,oX s N9 122,oX o (bF g p9 a5 a6 k9 a3 a4) 51,oX l (bZ Cf) 36,oX k (qN Ce p1 p2 p3 p4 p5 k1 k2 k3 k4 k5) 34]) 0 (bits 17 131071) ?_ ?_
  .intro K;refine pS 9 13 14 Z Z Z (bits 17 1023) (bits 17 8703) (bits 17 16895) (by kernel_rfl) (by kernel_rfl) (by kernel_rfl) (by kernel_rfl) ?_ ?_ ?_
   .refine bG (r2,r3) h (cB 172 Z) (nR (h.old C) (h.old D) (fT y3) (qI y4) M) Z Z Z Z fun w67 T A d b=>?_;obtain⟨W,X,y,B,rfl,a,c⟩:=d.cons b;obtain rfl:=qA (a.sh.own 0 Z);obtain⟨z,rfl,h⟩:=a.last c;obtain rfl:=qA (h.own 0 Z);refine G0 8191 [10,11,12] (h.p [2,5,6,7] Z) Z (At 13 14 16383 24575 Z ?_ ?_)
    .refine qi qa h Z Z Z fun O I h=>Ag (h.p [3,6,7,8] Z) (Ao 14 32767 Z (qi qa h Z Z Z fun P p h=>Ag (h.p [4,7,8,9] Z) (Ao 15 65535 Z (zs 1 h Z fun Q h=>Ag (h.p [4,7,8,9] Z) (Ao 16 131071 Z (zs 0 h Z fun R h=>Ag (h.p [4,7,8,9] Z) ?_))))));have h:=h.p [0,1,4,5,6,7,8,9] Z;exact aK K ⟨_,_,Z,h⟩ Z
    refine qi qa h Z Z Z fun O I h=>Ag (h.p [3,6,7,8] Z) (Ao 13 32767 Z (qi qa h Z Z Z fun P p h=>Ag (h.p [4,7,8,9] Z) (Ao 15 65535 Z (zs 0 h Z fun Q h=>Ag (h.p [4,7,8,9] Z) (Ao 16 131071 Z (zs 1 h Z fun R h=>Ag (h.p [4,7,8,9] Z) ?_))))));have h:=h.p [1,0,4,5,6,7,8,9] Z;exact aK K ⟨_,_,Z,h⟩ Z
   .refine qi qa h Z Z Z fun w67 I h=>Ag (h.p [1,4,5,6] Z) (At 9 14 9215 25087 Z ?_ ?_)
    .refine bG (r2,r3) h (cB 172 Z) (nR (h.old C) (h.old D) (fT y3) (qI y4) M) Z Z Z Z fun O T A d b=>?_;obtain⟨W,X,y,B,rfl,a,c⟩:=d.cons b;obtain rfl:=qA (a.sh.own 0 Z);obtain⟨z,rfl,h⟩:=a.last c;obtain rfl:=qA (h.own 0 Z);refine G0 16383 [10,11,12] (h.p [3,6,7,8] Z) Z (Ao 14 32767 Z (qi qa h Z Z Z fun P p h=>Ag (h.p [4,7,8,9] Z) (Ao 15 65535 Z (zs 3 h Z fun Q h=>Ag (h.p [4,7,8,9] Z) (Ao 16 131071 Z (zs 0 h Z fun R h=>Ag (h.p [4,7,8,9] Z) ?_))))));have h:=h.p [0,3,4,5,6,7,8,9] Z;exact aK K ⟨_,_,Z,h⟩ Z
    refine qi qa h Z Z Z fun O p h=>Ag (h.p [2,5,6,7] Z) (Ao 9 25599 Z (bG (r2,r3) h (cB 172 Z) (nR (h.old C) (h.old D) (fT y3) (qI y4) M) Z Z Z Z fun P T A d b=>?_));obtain⟨W,X,y,B,rfl,a,c⟩:=d.cons b;obtain rfl:=qA (a.sh.own 0 Z);obtain⟨z,rfl,h⟩:=a.last c;obtain rfl:=qA (h.own 0 Z);refine G0 32767 [10,11,12] (h.p [4,7,8,9] Z) Z (Ao 15 65535 Z (zs 3 h Z fun Q h=>Ag (h.p [4,7,8,9] Z) (Ao 16 131071 Z (zs 2 h Z fun R h=>Ag (h.p [4,7,8,9] Z) ?_))));have h:=h.p [2,3,4,5,6,7,8,9] Z;exact aK K ⟨_,_,Z,h⟩ Z
   refine qi qa h Z Z Z fun w67 I h=>Ag (h.p [1,4,5,6] Z) (At 9 13 17407 25087 Z ?_ ?_)
   .refine bG (r2,r3) h (cB 172 Z) (nR (h.old C) (h.old D) (fT y3) (qI y4) M) Z Z Z Z fun O T A d b=>?_;obtain⟨W,X,y,B,rfl,a,c⟩:=d.cons b;obtain rfl:=qA (a.sh.own 0 Z);obtain⟨z,rfl,h⟩:=a.last c;obtain rfl:=qA (h.own 0 Z);refine G0 24575 [10,11,12] (h.p [3,6,7,8] Z) Z (Ao 13 32767 Z (qi qa h Z Z Z fun P p h=>Ag (h.p [4,7,8,9] Z) (Ao 15 65535 Z (zs 0 h Z fun Q h=>Ag (h.p [4,7,8,9] Z) (Ao 16 131071 Z (zs 3 h Z fun R h=>Ag (h.p [4,7,8,9] Z) ?_))))));have h:=h.p [3,0,4,5,6,7,8,9] Z;exact aK K ⟨_,_,Z,h⟩ Z
   refine qi qa h Z Z Z fun O p h=>Ag (h.p [2,5,6,7] Z) (Ao 9 25599 Z (bG (r2,r3) h (cB 172 Z) (nR (h.old C) (h.old D) (fT y3) (qI y4) M) Z Z Z Z fun P T A d b=>?_));obtain⟨W,X,y,B,rfl,a,c⟩:=d.cons b;obtain rfl:=qA (a.sh.own 0 Z);obtain⟨z,rfl,h⟩:=a.last c;obtain rfl:=qA (h.own 0 Z);refine G0 32767 [10,11,12] (h.p [4,7,8,9] Z) Z (Ao 15 65535 Z (zs 2 h Z fun Q h=>Ag (h.p [4,7,8,9] Z) (Ao 16 131071 Z (zs 3 h Z fun R h=>Ag (h.p [4,7,8,9] Z) ?_))));have h:=h.p [3,2,4,5,6,7,8,9] Z;exact aK K ⟨_,_,Z,h⟩ Z
  rintro _ _ ⟨J,L,rfl,h⟩;refine Ad (au (rA [] [1,2,5] h Z fun _ h=>M2 15 [0,1,2,3] 2 1 (h.p [1,2,5] Z) Z ?_));obtain⟨_,_,F,he14,_,_,_,_,hp14,hq14,hr39,hc19⟩:=s10.ix F;obtain rfl:=qA hr39;refine Ae 4 31 hp14 hq14 he14 (h.p [1,2,5] Z) Z (M0 63 [5] (h.p [1,2,5] Z) Z (Al 6 127 0 hc19 (h.p [1,2,5] Z) Z (M3 16383 [7,8,9,10,11,12,13] 0 2 1 (h.p [1,2,5] Z) Z ?_)));obtain⟨_,_,F,he15,_,_,_,_,hp15,hq15,hr40,hc20⟩:=s10.ix F;obtain rfl:=qA hr40;refine Ae 14 32767 hp15 hq15 he15 (h.p [1,2,5] Z) Z (M0 65535 [15] (h.p [1,2,5] Z) Z (Al 16 131071 1 hc20 (h.p [1,2,5] Z) Z (M1 1048575 [17,18,19] 0 (h.p [1,2,5] Z) Z (Aw 20 2097151 (fun w' hw=>qC qa [0,1] [.tmp 94,.tmp 104] z8) (h.p [1,2,5] Z) Z ?_))));refine Ao 21 4194303 Z (qi qa h Z Z Z fun _ _ h=>Ag (h.p [2,3,6] Z) (Ao 22 8388607 Z (zs 0 h Z fun _ h=>Ag (h.p [2,3,6] Z) (Ad (X0 5 Z (qp Z F ?_ ?_))))))<;>intro F
  .refine X2 5 0 4 h Z (qbE h F (AA (qI _) (qI _)) Z fun _ _ _ _ h F=>?_);obtain rfl:=qA (h.own 0 Z);refine zs 1 h Z fun _ h=>X2 5 2 5 h Z (qbE h F (AA (qI r3) (qI _)) Z fun _ _ _ _ h F=>?_);obtain rfl:=qA (h.own 0 Z);refine zs 3 h Z fun _ h=>X2 9 2 3 h Z (dK (qC qa [0,1,2] [.tmp 115,.tmp 116,.tmp 117] z8) Z (zs 6 h Z fun _ h=>X0 7 Z ?_));exact rK ⟨_,_,_,_,_,_,_,F,Z,h.p [6,7,8,9,10] Z⟩ Z
  refine X2 9 0 1 h Z (dK (qC qa [0,1,2] [.tmp 115,.tmp 116,.tmp 117] z8) Z (zs 4 h Z fun _ h=>X0 7 Z ?_));exact rK ⟨_,_,_,_,_,_,_,F,Z,h.p [4,5,6,7,8] Z⟩ Z
 refine qx Z ?_;cases qe F;have F:=hK2;refine au (rA [] [0] h Z fun _ h=>M1 7 [0,1,2] 0 (h.p [0] Z) Z (Ao 3 15 Z (zs 1 h Z fun _ h=>Ag (h.p [0] Z) (Ad ?_))));cases qe F;exact aq qa (ρ:=(Bool×ql)) [oV Bool [.bool b4],oV ql [vi i7,vi i8,vi i9,vi v,vi x]] h ⟨Z,⟨_,_,_,Z,Z,h.box 1 Z,Z⟩,G⟩ (Cq h (ai h vk (pJ (lT (S:=fun _=>False) (dw (⟨i7,(⟨i8,i9⟩:qg),(⟨v,x⟩:qg)⟩:ql)))) (by rfl)))
def fE(Ce:qf)(Cf:qG)(Cg:List qw)(b:List Bool)(c:List ql)(a:List Int):Nat->(List qg)->(List qg)->(List Bool)->Int->Option (eE (qn×Bool) ((List qg)×(List qg)×(List Bool)×Int))|0,_,_,_,_=>U|n+1,x1,h,i,g=>bif decide (g<(a.length:Int)) then(qF a g).bind fun d=>(ud n Ce Cf Cg b c (⟨i,h,x1⟩:qn) d).bind fun(k,f)=>bif (!k) then fE Ce Cf Cg b c a n x1 h i (qj (g+1)) else(tc n (⟨f.Af.As,f.Af.Be⟩:qg)).bind fun l=>bif (!l) then V (.ret ((⟨[],[],[]⟩:qn),Cd)) else(qF i d).bind fun _=>(qF h d).bind fun _=>(qF x1 d).bind fun _=>fE Ce Cf Cg b c a n (ak x1 d (⟨f.Bb.As,f.Bb.Be⟩:qg)) (ak h d (⟨f.Af.As,f.Af.Be⟩:qg)) (ak i d An) (qj (g+1)) else V (.nxt (x1,h,i,g))
def xM(n:Nat)(Ce:qf)(Cf:qG)(Cg:List qw)(a:List Bool)(b:List ql)(c:List Int):Option (qn×Bool):=(bT n Ce).bind fun r1=>(yg n r1).bind fun d=>(fE Ce Cf Cg a b c n d.Bb d.Af d.Aq 0).bind fun|.ret r=>V r|.nxt (x1,f,g,_)=>V ((⟨g,f,x1⟩:qn),An)
theorem wR{Ce:qf}{Cf:qG}{Cg:List qw}{a:List Bool}{b:List ql}{c:List Int}(p:Ro w Ce cs1)(y:Ro w Cf cs2)(Q:Ro w Cg cs3)(R:Ro w a cs4)(S:Ro w b cs5)(T:Ro w c cs6){r:qn×Bool}(F:xM n Ce Cf Cg a b c=V r):qP prog 166 [gv Ce cs1,gv Cf cs2,gv Cg cs3,gv a cs4,gv b cs5,gv c cs6] w r:=by
 obtain⟨p1,k1,p2,k2,p3,k3,p4,k4,p5,k5,rfl,_,_,_,_,_⟩:=qW p;obtain rfl:=cQ y;obtain⟨p6,k6,rfl,s6⟩:=Q;obtain⟨p7,k7,rfl,s7⟩:=R;obtain⟨p8,k8,rfl,s8⟩:=S;obtain⟨p9,k9,rfl,s9⟩:=T;refine zV 67 func166 Z fun h=>dE (qJ h Z Z fun _ s h=>qJ h Z Z fun _ t h=>qi qa h Z Z Z fun _ u h=>X1 5 2 h Z (mN h F (dL (h.old p)) Z fun _ _ h F=>qbE h F IW Z fun k _ _ _ h F=>?_));obtain⟨o,l,g,d,i,f,rfl,-,-,-⟩:=dX (h.own 0 Z);refine qi qa h Z Z Z fun _ v h=>zs 0 h Z fun _ h=>X0 6 Z ?_;have h:=h.p [1,0,2,3,4] Z;obtain⟨S2,S3,S4,h⟩:=oM h;obtain⟨o1,F,x⟩:=qc F;refine qr (rL (fun m e w'=>∃x1 O P i1,fE Ce Cf Cg a b c m x1 O P i1=V o1/\e=[(2,oL p6 Cg k6),(3,oL p7 a k7),(4,oL p8 b k8),(5,oL p9 c k9),(6,vp s),(7,vp t),(12,vp u),(14,vp v),(15,vi i1)]/\SH w w' [oW S4 (x1:List qg) [oL i k.Bb f],oW S3 (O:List qg) [oL g k.Af d],oW S2 (P:List Bool) [oL o k.Aq l],oX v (bF k o g i l d f) 51,oX u RF 51,oX t (bZ Cf) 36,oX s (qN Ce p1 p2 p3 p4 p5 k1 k2 k3 k4 k5) 34]) n ⟨_,_,_,_,F,Z,h⟩ Z ?_);rintro m1 _ _ ⟨x1,O,P,i1,F,rfl,h⟩;rcases m1 with _|m1
 .cases F
 refine X0 8 Z (qp Z F ?_ ?_)<;>intro F
 .refine X0 7 Z ?_;obtain⟨_,_,F,a4,_,_,_,_,a5,a6,rfl,W⟩:=s9.ix F;refine fG a5 a6 a4 Z (bN 0 W h Z (X3 11 6 5 3 h Z ?_));obtain⟨⟨r4,N⟩,a7,F⟩:=qc F;refine bG (r4,N) h (cB 218 Z) (LO (h.old p) (h.old y) ⟨_,_,Z,(h.oldS s6)⟩ ⟨_,_,Z,(h.oldS s7)⟩ ⟨_,_,Z,(h.oldS s8)⟩ (show qm.R _ _ ((⟨P,O,x1⟩:qn):qn) _ from⟨[oL o k.Aq l],[oL g k.Af d,oL i k.Bb f],Z,(h.own 2 Z),⟨[oL g k.Af d],[oL i k.Bb f],Z,(h.own 1 Z),(h.own 0 Z)⟩⟩) a7) Z Z Z Z fun _ _ _ b4 a8=>?_;obtain⟨_,_,rfl,b5,a9⟩:=b4.consB a8;obtain⟨_,rfl,h⟩:=b5.last a9;obtain rfl:=aB (h.own 0 Z);refine EK Z (qi qa h Z Z Z fun _ _ h=>cq Z (zs 0 h Z fun _ h=>X0 7 Z (qp Z F ?_ ?_)))<;>intro F
  .refine qx Z (X0 5 Z ?_);exact rK ⟨_,_,_,_,F,Z,h.p [2,3,4,5,6,7,8] Z⟩ Z
  refine X1 6 0 h Z (dF h F (wN (qI _)) Z fun _ _ h F=>X0 2 Z (qp Z F ?_ ?_))<;>intro F
  .refine dE (dK (qC qa [] [] z8) Z (zs 6 h Z fun _ h=>X0 2 Z ?_));cases qe F;have F:=x;cases qe F;exact aq qa (ρ:=(qn×Bool)) [oV qn RF,oV Bool [.bool Cd]] h ⟨⟨_,_,_,Z,Z,h.box 6 Z,Z⟩,Z,G⟩ (Cq h (ai h (lI (⟨[],[],[]⟩:qn) h fc fc fc (by rfl) (by rfl)) ul (by rfl)))
  refine X1 6 5 h Z ?_;obtain⟨_,b6,F,z,_,_,_,_,C,I,rfl,X⟩:=(h.sl 4 Z).1.ix F;refine zx C I ⟨z.1,qD z.2.1 (h.sl 4 Z).2⟩ Z (bK qa 4 0 An h Z b6 C I Z X Z Z Z Z Z Z Z fun _ h=>X2 8 5 0 h Z ?_);obtain⟨y3,b7,F,A,_,_,_,_,D,J,L,Y⟩:=(h.sl 3 Z).1.ix F;obtain rfl:=qA L;refine zx D J ⟨A.1,qD A.2.1 (h.sl 3 Z).2⟩ Z (bK qa 3 0 N.Af h Z b7 D J (qI y3) Y Z Z Z (qI N.Af) Z Z Z fun _ h=>X2 7 5 0 h Z ?_);obtain⟨y4,b8,F,B,_,_,_,_,H,K,M,a3⟩:=(h.sl 2 Z).1.ix F;obtain rfl:=qA M;refine zx H K ⟨B.1,qD B.2.1 (h.sl 2 Z).2⟩ Z (bK qa 2 0 N.Bb h Z b8 H K (qI y4) a3 Z Z Z (qI N.Bb) Z Z Z fun _ h=>X0 7 Z ?_);exact rK ⟨_,_,_,_,F,Z,h.p [2,3,4,5,6,7,8] Z⟩ Z
 refine qx Z ?_;cases qe F;have F:=x;refine X1 3 3 h Z (zs 4 h Z fun _ h=>X0 2 Z ?_);cases qe F;exact aq qa (ρ:=(qn×Bool)) [oV qn (bF k o g i l d f),oV Bool [.bool An]] h ⟨⟨_,_,_,Z,Z,h.box 4 Z,Z⟩,Z,G⟩ (Cq h (ai h (lI (⟨P,O,x1⟩:qn) h (qS 2 h Z) (qS 1 h Z) (qS 0 h Z) (by rfl) (by rfl)) ul (by rfl)))
def rM(n:Nat)(v:Option cL):Option qn:=(eC n v).bind fun r1=>(xY r1 (Cd:Bool)).bind fun x1=>(xY r1 ((⟨0,0⟩:qg):qg)).bind fun a=>(xY r1 ((⟨0,0⟩:qg):qg)).bind fun b=>V (⟨x1,a,b⟩:qn)
theorem zk{v:Option cL}(O:Ro w v cs1){r:qn}(F:rM n v=V r):qP prog 78 [gv v cs1] w r:=by
 obtain⟨_,rfl,s1⟩:=aM O;refine zV 13 func78 Z fun h=>dE (qi qa h Z Z Z fun _ L h=>X0 4 Z (mN h F (hZ (h.old s1)) Z fun _ _ h F=>X0 3 Z (rA [] [] h Z fun _ h=>M0 21 [0,2,4] (h.p [] Z) Z ?_)));obtain⟨x1,a,F⟩:=qc F;obtain⟨B,b,F⟩:=qc F;obtain⟨C,c,F⟩:=qc F;refine sg (fun e w'=>∃H y I z J A,e=[(2,vp L)]/\SH w w' [oW H (C:List qg) [oS y C.length C.length],oW I (B:List qg) [oS z B.length B.length],oW J (x1:List Bool) [oS A x1.length x1.length],oX L [oS A x1.length x1.length,oS z B.length B.length,oS y C.length C.length] 51]) 0 (bits 8 255) ?_ ?_
 .intro K;refine pS 1 3 5 Z Z Z (bits 8 23) (bits 8 29) (bits 8 53) (by kernel_rfl) (by kernel_rfl) (by kernel_rfl) (by kernel_rfl) ?_ ?_ ?_
  .obtain⟨m,o,a⟩:=aL a;refine bv qa Bool h z9 m o a Z fun N D M h=>Ag (h.p [] Z) (At 3 5 31 55 Z ?_ ?_)
   .obtain⟨d,f,b⟩:=aL b;refine bv qa qg h z9 d f b Z fun t k p h=>Ag (h.p [] Z) (Ao 5 63 Z ?_);obtain⟨g,i,c⟩:=aL c;refine bv qa qg h z9 g i c Z fun u l s h=>Ag (h.p [] Z) (Aw 6 127 (fun w' P=>qC qa [0,1,2] [.tmp 7,.tmp 9,.tmp 11] z8) (h.p [] Z) Z ?_);exact Ao 7 255 Z (zs 3 h Z fun x h=>Ag (h.p [] Z) (zK [(2,_)] ⟨Z,G⟩ (K _ _ ⟨_,_,_,_,_,_,Z,h⟩)))
   obtain⟨d,f,c⟩:=aL c;refine bv qa qg h z9 d f c Z fun t k p h=>Ag (h.p [] Z) (Ao 3 63 Z ?_);obtain⟨g,i,b⟩:=aL b;refine bv qa qg h z9 g i b Z fun u l s h=>Ag (h.p [] Z) (Aw 6 127 (fun w' P=>qC qa [0,1,2] [.tmp 7,.tmp 9,.tmp 11] z8) (h.p [] Z) Z ?_);refine Ao 7 255 Z (zs 3 h Z fun x h=>Ag (h.p [] Z) ?_);have h:=h.p [1,0,2,3] Z;exact aK K ⟨_,_,_,_,_,_,Z,h⟩ Z
  .obtain⟨m,o,b⟩:=aL b;refine bv qa qg h z9 m o b Z fun N D M h=>Ag (h.p [] Z) (At 1 5 31 61 Z ?_ ?_)
   .obtain⟨d,f,a⟩:=aL a;refine bv qa Bool h z9 d f a Z fun t k p h=>Ag (h.p [] Z) (Ao 5 63 Z ?_);obtain⟨g,i,c⟩:=aL c;refine bv qa qg h z9 g i c Z fun u l s h=>Ag (h.p [] Z) (Aw 6 127 (fun w' P=>qC qa [0,1,2] [.tmp 7,.tmp 9,.tmp 11] z8) (h.p [] Z) Z ?_);refine Ao 7 255 Z (zs 3 h Z fun x h=>Ag (h.p [] Z) ?_);have h:=h.p [0,2,1,3] Z;exact aK K ⟨_,_,_,_,_,_,Z,h⟩ Z
   obtain⟨d,f,c⟩:=aL c;refine bv qa qg h z9 d f c Z fun t k p h=>Ag (h.p [] Z) (Ao 1 63 Z ?_);obtain⟨g,i,a⟩:=aL a;refine bv qa Bool h z9 g i a Z fun u l s h=>Ag (h.p [] Z) (Aw 6 127 (fun w' P=>qC qa [0,1,2] [.tmp 7,.tmp 9,.tmp 11] z8) (h.p [] Z) Z ?_);refine Ao 7 255 Z (zs 3 h Z fun x h=>Ag (h.p [] Z) ?_);have h:=h.p [1,2,0,3] Z;exact aK K ⟨_,_,_,_,_,_,Z,h⟩ Z
  obtain⟨m,o,c⟩:=aL c;refine bv qa qg h z9 m o c Z fun N D M h=>Ag (h.p [] Z) (At 1 3 55 61 Z ?_ ?_)
  .obtain⟨d,f,a⟩:=aL a;refine bv qa Bool h z9 d f a Z fun t k p h=>Ag (h.p [] Z) (Ao 3 63 Z ?_);obtain⟨g,i,b⟩:=aL b;refine bv qa qg h z9 g i b Z fun u l s h=>Ag (h.p [] Z) (Aw 6 127 (fun w' P=>qC qa [0,1,2] [.tmp 7,.tmp 9,.tmp 11] z8) (h.p [] Z) Z ?_);refine Ao 7 255 Z (zs 3 h Z fun x h=>Ag (h.p [] Z) ?_);have h:=h.p [2,0,1,3] Z;exact aK K ⟨_,_,_,_,_,_,Z,h⟩ Z
  obtain⟨d,f,b⟩:=aL b;refine bv qa qg h z9 d f b Z fun t k p h=>Ag (h.p [] Z) (Ao 1 63 Z ?_);obtain⟨g,i,a⟩:=aL a;refine bv qa Bool h z9 g i a Z fun u l s h=>Ag (h.p [] Z) (Aw 6 127 (fun w' P=>qC qa [0,1,2] [.tmp 7,.tmp 9,.tmp 11] z8) (h.p [] Z) Z ?_);refine Ao 7 255 Z (zs 3 h Z fun x h=>Ag (h.p [] Z) ?_);have h:=h.p [2,1,0,3] Z;exact aK K ⟨_,_,_,_,_,_,Z,h⟩ Z
 rintro _ _ ⟨H,y,I,z,J,A,rfl,h⟩;refine Ad ?_;obtain rfl:=qe F;exact aq qa (ρ:=qn) [oV qn [oS A x1.length x1.length,oS z B.length B.length,oS y C.length C.length]] h ⟨⟨_,_,_,Z,Z,h.box 3 Z,Z⟩,G⟩ (Cq h (pJ (lI (⟨x1,B,C⟩:qn) h (qS 2 h Z) (qS 1 h Z) (qS 0 h Z) (by rfl) (by rfl))))
def vx(_:Nat)(s:ql)(a:Int):Option Bool:=V (s.Bn==a)
theorem FA{s:ql}{f}(a:Ro w s cs1){p1}(b:Ro w (V f) [.pointer p1]){r:Bool}(F:vx n s f=V r):qP prog 96 [gv s cs1,.pointer p1] w r:=by
 obtain rfl:=aB a;obtain⟨_,g,_,rfl,-,d,c⟩:=Cs b Z;obtain rfl:=d;exact zV 8 func96 Z fun h=>dE (qJ h Z Z fun _ _ h=>X1 6 0 h Z (bN 0 c h Z (X0 3 Z (rb h F Z))))
def aw(s:List ql)(a:Int):Nat->Int->Option (eE Int Int)|0,_=>U|n+1,b=>bif decide (b<(s.length:Int)) then(qF s b).bind fun c=>(vx n c a).bind fun r1=>bif r1 then V (.ret b) else aw s a n (qj (b+1)) else V (.nxt b)
def bQ(n:Nat)(s:List ql)(a:Int):Option Int:=(aw s a n 0).bind fun|.ret r=>V r|.nxt _=>V (-1)
theorem mH{s:List ql}{a}(d:Ro w s cs1){v}(c:Ro w (V a) [.pointer v]){r:Int}(F:bQ n s a=V r):qP prog 95 [gv s cs1,.func (.func 96) #[] #[.pointer v]] w r:=by
 obtain⟨p1,x,rfl,s1⟩:=d;obtain⟨b1,t,_,rfl,-,l,_⟩:=Cs c Z;obtain rfl:=l;refine zV 19 func95 Z fun h=>X0 11 Z ?_;obtain⟨o1,F,b⟩:=qc F;refine qr (rL (fun m e w'=>∃p,aw s a m p=V o1/\e=[(0,oL p1 s x),(1,.func (.func 96) #[] #[.pointer (V ⟨b1,t,U⟩)]),(7,vi (s.length:Int)),(8,vi p)]/\SH w w' []) n ⟨_,F,Z,h⟩ Z ?_);rintro u _ _ ⟨p,F,rfl,h⟩;rcases u with _|u
 .cases F
 refine X0 5 Z (qp Z F ?_ ?_)<;>intro F
 .refine X0 13 Z ?_;obtain⟨y,_,F,g,_,_,_,_,i,k,o,f⟩:=s1.ix F;obtain rfl:=aB o;refine fG i k g Z (bN 0 f h Z (dF h F (FA (dw y) (h.old c)) Z fun _ _ h F=>ac (qp Z F ?_ ?_)))<;>intro F
  .refine X0 5 Z ?_;cases qe F;exact ri h b Z
  exact X0 6 Z (rK ⟨_,F,Z,h⟩ Z)
 refine qx Z ?_;cases qe F;exact X0 4 Z (ri h b Z)
def fB(n:Nat)(list:List ql)(node:Int):Option (ql×Bool):=(bQ n list node).bind fun r1=>bif decide (r1>=0) then(qF list r1).bind fun a=>V (a,An) else V ((⟨0,(⟨0,0⟩:qg),(⟨0,0⟩:qg)⟩:ql),Cd)
theorem nE{list:List ql}{node}(a:Ro w list cs1){r:ql×Bool}(F:fB n list node=V r):qP prog 52 [gv list cs1,vi node] w r:=by
 obtain⟨_,_,rfl,s1⟩:=a;refine zV 17 func52 Z fun h=>dE (qJ h Z Z fun _ _ h=>qi qa h Z Z Z fun _ _ h=>X0 7 Z (mN h F (mH ⟨_,_,Z,(h.oldS s1)⟩ (oB (x:=node) 1 h Z Z)) Z fun _ _ h F=>X0 7 Z (qp Z F ?_ ?_)))<;>intro F
 .refine X0 4 Z ?_;obtain⟨i,_,F,c,_,_,_,_,d,f,g,b⟩:=s1.ix F;obtain rfl:=aB g;refine fG d f c Z (bN 0 b h Z (zs 0 h Z fun _ h=>X0 2 Z ?_));cases qe F;exact aq qa (ρ:=(ql×Bool)) [oV ql (nk i),oV Bool [.bool An]] h ⟨⟨_,_,_,Z,Z,h.box 0 Z,Z⟩,Z,G⟩ (Cq h (ai h (lT (S:=fun _=>False) (dw i)) ul (by rfl)))
 refine qcX (dK (qC qa [] [] z8) Z (zs 0 h Z fun _ h=>X0 2 Z ?_));cases qe F;exact aq qa (ρ:=(ql×Bool)) [oV ql N9,oV Bool [.bool Cd]] h ⟨⟨_,_,_,Z,Z,h.box 0 Z,Z⟩,Z,G⟩ (Cq h (ai h (lT (S:=fun _=>False) (dw (⟨0,(⟨0,0⟩:qg),(⟨0,0⟩:qg)⟩:ql))) ul (by rfl)))
def vw(_:Nat)(l:qw)(a:Int):Option Bool:=V (l.To==a)
theorem EZ{l:qw}{f}(a:Ro w l cs1){p1}(b:Ro w (V f) [.pointer p1]){r:Bool}(F:vw n l f=V r):qP prog 98 [gv l cs1,.pointer p1] w r:=by
 obtain rfl:=aA a;obtain⟨_,g,_,rfl,-,d,c⟩:=Cs b Z;obtain rfl:=d;exact zV 8 func98 Z fun h=>dE (qJ h Z Z fun _ _ h=>X1 6 0 h Z (bN 0 c h Z (X0 3 Z (rb h F Z))))
def ab(h:Int)(c:aS)(b:cL):Nat->(List Int)->Int->Option ((List Int)×Int)|0,_,_=>U|n+1,x1,a=>bif decide (a<(b.links.length:Int)) then(qF b.links a).bind fun f=>(qF c.live a).bind fun g=>bif g then(vw n f h).bind fun r1=>bif r1 then(dj x1 ([a]:List Int)).bind fun d=>ab h c b n d (qj (a+1)) else ab h c b n x1 (qj (a+1)) else ab h c b n x1 (qj (a+1)) else V (x1,a)
def gb(n:Nat)(g:Option aS)(c:Int):Option (List Int):=(g).bind fun a=>(a.view).bind fun b=>(ab c a b n ([]:List Int) 0).bind fun(x1,_)=>V x1
theorem rJ{g:Option aS}{is_0}(o:Ro w g cs1){R}(f:Ro w (V is_0) [.pointer R]){r:List Int}(F:gb n g is_0=V r):qP prog 97 [gv g cs1,.func (.func 98) #[] #[.pointer R]] w r:=by
 obtain⟨_,rfl,s1⟩:=aM o;obtain⟨b1,L,_,rfl,-,C,_⟩:=Cs f Z;obtain rfl:=C;refine zV 39 func97 Z fun h=>X0 12 Z ?_;obtain⟨Y,J,F⟩:=qc F;obtain⟨b2,M,_,rfl,-,D,i⟩:=Cs s1 J;obtain⟨_,_,_,rfl,s2,X⟩:=fo D;refine lY Z (bN 0 i h Z ?_);obtain⟨P,K,F⟩:=qc F;obtain⟨_,W,_,rfl,-,H,p⟩:=Cs s2 K;obtain⟨_,_,_,_,_,_,_,_,_,_,_,_,N,T,_,_,_,_,_,_,rfl,_,_,_,_,_,_,O,_,_,_⟩:=cJ H;refine lY Z (bN 6 p h Z (X0 3 Z ?_));have h:=h.nil (α:=Int);obtain⟨o1,F,l⟩:=qc F;refine qr (rL (fun m e w'=>∃S1 d c b x1 k,ab is_0 Y P m x1 k=V o1/\e=[(0,.pointer (V ⟨b2,M,U⟩)),(1,.func (.func 98) #[] #[.pointer (V ⟨b1,L,U⟩)]),(5,oS d c b),(14,oL N P.links T),(15,vi (P.links.length:Int)),(16,vi k)]/\SH w w' [oW S1 (x1:List Int) [oS d c b]]) n ⟨_,_,_,_,_,_,F,Z,h⟩ Z ?_);rintro Q _ _ ⟨S1,d,c,b,x1,k,F,rfl,h⟩;obtain rfl:=(h.sl 0 Z).2;rcases Q with _|Q
 .cases F
 refine X0 5 Z (qp Z F ?_ ?_)<;>intro F
 .refine X0 6 Z ?_;obtain⟨y3,_,F,v,_,_,_,_,y,A,I,s⟩:=O.ix F;obtain rfl:=aA I;refine fG y A v Z (bN 0 s h Z (qi qa h Z Z Z fun _ _ h=>cq Z (zs 0 h Z fun _ h=>X0 6 Z (bN 1 i h Z (cq Z ?_)))));obtain⟨_,_,F,x,_,_,_,_,z,B,rfl,u⟩:=X.ix F;refine fG z B x Z (bN 0 u h Z (cq Z (qh (t:=28) F Z ?_ ?_)))<;>intro F
  .refine X1 5 0 h Z (dF h F (EZ (fT y3) (h.old f)) Z fun _ _ h F=>X0 2 Z (qp Z F ?_ ?_))<;>intro F
   .refine X0 3 Z (qv qa [.tmp 34] _ ([k]:List Int) h z9 ⟨Z,G⟩ Z fun _ _ _ h=>?_);obtain⟨_,a,F⟩:=qc F;obtain⟨S,a⟩:=qH a;refine bo qa 2 h Z (h.sl 0 Z).1 (h.sl 0 Z).2 z9 S a Z fun _ _ _ _ h=>X0 7 Z ?_;exact rK ⟨_,_,_,_,_,_,F,Z,h.p [2] Z⟩ Z
   refine X0 6 Z ?_;exact rK ⟨_,_,_,_,_,_,F,Z,h.p [1] Z⟩ Z
  refine X0 5 Z (ch Z Z (X0 6 Z ?_));exact rK ⟨_,_,_,_,_,_,F,Z,h.p [1] Z⟩ Z
 refine qx Z ?_;cases qe F;have F:=l;refine X0 5 Z ?_;cases qe F;exact rO 0 h Z ⟨Z,G⟩
def oH(n:Nat)(g:Option aS)(node:Int):Option (List Int):=(gb n g node).bind fun r1=>V r1
theorem uz{g:Option aS}{node}(a:Ro w g cs1){r:List Int}(F:oH n g node=V r):qP prog 53 [gv g cs1,vi node] w r:=by
 obtain⟨_,rfl,s1⟩:=aM a;refine zV 8 func53 Z fun h=>dE (qJ h Z Z fun _ _ h=>X0 6 Z (uj h F (rJ (h.old s1) (oB (x:=node) 0 h Z Z)) Z fun _ _ _ _ _ h F=>X0 2 Z ?_));cases qe F;exact rO 0 h Z ⟨Z,G⟩
def md(_:Nat)(v:Option cL)(l:qw):Option Int:=(v).bind fun a=>(qF a.places (qj (l.To.tdiv 2))).bind fun b=>V b.net
theorem sJ{v:Option cL}{l:qw}(a:Ro w v cs1)(b:Ro w l cs2){r:Int}(F:md n v l=V r):qP prog 136 [gv v cs1,gv l cs2] w r:=by
 obtain⟨_,rfl,s1⟩:=aM a;obtain rfl:=aA b;refine zV 15 func136 Z fun h=>dE (qJ h Z Z fun _ _ h=>X0 3 Z (rD (vD Z ?_)));obtain⟨_,o,F⟩:=qc F;obtain⟨_,p,_,rfl,-,k,c⟩:=Cs s1 o;obtain⟨_,_,_,_,_,_,_,_,_,_,_,_,_,_,_,_,_,_,_,_,rfl,_,_,_,_,_,s,_,_,_,_⟩:=cJ k;refine xQ Z (fF 5 c h Z (Y1 2 0 h Z ?_));refine vD Z ?_;obtain⟨_,_,F,f,_,_,_,_,g,i,m,d⟩:=s.ix F;obtain rfl:=pF m;exact hG g i f Z (vD Z (fF 2 d h Z (vD Z (dN h fun _ h=>ri h F Z))))
def oA(_:Nat)(v:Option cL)(l:qw):Option bi:=(v).bind fun a=>(qF a.places (qj (l.To.tdiv 2))).bind fun b=>(qF a.Ac.Aa.Ab b.instance_).bind fun c=>(qF a.Ac.Ar.Au c.Bv).bind fun d=>(qF d.Az l.Ca).bind fun f=>V f
theorem wH{A}(hA:∀b,A b->old w b){v:Option cL}{l:qw}(k:qm.R w A v cs1)(o:qm.R w A l cs2){r:bi}(F:oA n v l=V r):FM prog 137 [gv v cs1,gv l cs2] w A r:=by
 obtain⟨_,rfl,s1⟩:=aM k;obtain rfl:=aA o;have hg:=Rg.start hA;refine kY func137 Z (m:=39) Z Z (fun h=>?_);refine dE (qJ h Z Z fun _ _ h=>qi qa h Z Z Z fun _ _ h=>O2 (rA [] [1] h Z fun _ h=>M0 1 [0] (h.p [1] Z) Z ?_));obtain⟨_,T,F⟩:=qc F;obtain⟨_,e,_,rfl,-,N,a⟩:=Cs s1 T;obtain⟨_,_,_,_,_,_,_,_,_,_,_,_,_,_,_,_,_,_,_,_,rfl,s2,s3,_,_,_,s7,_,_,_,_⟩:=cJ N;refine M0 31 [1,2,3,4] (h.p [1] Z) Z (Al 5 63 1 a (h.p [1] Z) Z (M0 511 [6,7,8] (h.p [1] Z) Z (Al 9 1023 5 a (h.p [1] Z) Z (M1 8191 [10,11,12] 0 (h.p [1] Z) Z ?_))));obtain⟨_,_,F,x,_,_,_,_,C,J,O,p⟩:=s7.ix F;obtain rfl:=pF O;refine Ae 13 16383 C J x (h.p [1] Z) Z (M0 32767 [14] (h.p [1] Z) Z (Al 15 65535 0 p (h.p [1] Z) Z ?_));obtain⟨_,_,F,y,_,_,_,_,D,K,P,s⟩:=s3.ix F;obtain⟨_,_,rfl,_⟩:=bD P;refine Ae 16 131071 D K y (h.p [1] Z) Z (Al 17 262143 0 s (h.p [1] Z) Z (Ao 18 524287 Z (qi qa h Z Z Z fun _ _ h=>Ag (h.p [2] Z) (Ao 19 1048575 Z (zs 0 h Z fun _ h=>Ag (h.p [2] Z) (Ad (au (rA [] [0,2] h Z fun _ h=>M0 31 [0,1,2,3,4] (h.p [0,2] Z) Z (Al 5 63 0 a (h.p [0,2] Z) Z (M1 255 [6,7] 0 (h.p [0,2] Z) Z ?_))))))))));obtain⟨_,_,F,z,_,_,_,_,H,L,Q,t⟩:=s2.ix F;obtain⟨_,_,_,_,_,_,rfl,_,W,_⟩:=aV Q;refine Ae 8 511 H L z (h.p [0,2] Z) Z (M0 1023 [9] (h.p [0,2] Z) Z (Al 10 2047 3 t (h.p [0,2] Z) Z (M1 8191 [11,12] 1 (h.p [0,2] Z) Z ?_)));obtain⟨i,_,F,B,_,_,_,_,I,M,R,u⟩:=W.ix F;obtain⟨f,c,g,d,rfl,X,Y⟩:=bq R;refine Ae 13 16383 I M B (h.p [0,2] Z) Z (Al 14 32767 0 u (h.p [0,2] Z) Z (Ao 15 65535 Z (zs 1 h Z fun _ h=>Ag (h.p [0,2] Z) (Ad ?_))));obtain rfl:=qe F;have S:la.Rs (ρ:=bi) h.wc (xC A w h.wc) i [oV bi (kq i f g c d)]:=⟨_,Z,(hg.outR h (tN i (hg.inS h X) (hg.inS h Y)))⟩;exact mR qa (ρ:=bi) (r:=i) [oV bi (kq i f g c d)] h ⟨⟨_,_,_,Z,Z,h.box 1 Z,Z⟩,G⟩ S
def mz(_:Nat)(a:Int)(b:Int)(mode:Int):Option Int:=(L7 a b).bind fun c=>(LF a b).bind fun d=>(bif (mode==0) then V (decide (d<0)) else V Cd).bind fun b1=>bif b1 then V (qj (c-1)) else bif (mode==1) then bif decide (d > 0) then V (qj (c+1)) else V c else V c
theorem tG{a b mode}  {r:Int}(F:mz n a b mode=V r):qP prog 139 [vi a,vi b,vi mode] w r:=by
 refine zV 34 func139 Z fun h=>X0 5 Z (rD (xQ Z ?_));obtain⟨m,c,F⟩:=qc F;obtain⟨k,c⟩:=QO c;refine qbM (fun _ p=>qbY k Z Z) Z ?_;rw[c];refine xQ Z ?_;obtain⟨o,d,F⟩:=qc F;obtain⟨l,d⟩:=wq d;refine qbM (fun _ p=>Z9 l Z Z) Z ?_;rw[d];refine xQ Z (dN h fun _ h=>X0 3 Z ?_);obtain⟨i,g,_,F,f⟩:=bindE F;refine bd (fun e w'=>∃b1,i b1=V r/\e=[(2,vi mode),(7,vi m),(8,vi o),(15,.bool b1)]/\SH w w' []) ?_ ?_
 .refine X0 4 Z (qh (t:=18) F Z ?_ ?_)<;>intro F
  .refine X0 7 Z ?_;exact rH F f h Z
  refine X0 5 Z ?_;exact rH F f h Z
 rintro _ _ ⟨b1,F,rfl,h⟩;subst g;refine qp Z F ?_ ?_<;>intro F
 .exact X0 6 Z (ri h F Z)
 refine X0 5 Z (qh (t:=27) F Z ?_ ?_)<;>intro F
 .refine X0 7 Z (qp Z F ?_ ?_)<;>intro F
  .exact X0 6 Z (ri h F Z)
  exact X0 7 Z (ri h F Z)
 exact X0 5 Z (ch Z Z (X0 7 Z (ri h F Z)))
def sj(_:Nat)(x:Int):Option Bool:=V (x != x)
theorem wA{x}  {r:Bool}(F:sj n x=V r):qP prog 164 [vi x] w r:=by
 exact zV 6 func164 Z fun h=>X0 11 Z (rb h F Z)
def wz(n:Nat)(x:Int)(y:Int):Option Bool:=(sj n x).bind fun r1=>bif r1 then(sj n y).bind fun a=>bif (!a) then V An else V (decide (x<y)) else V (decide (x<y))
theorem FQ{x y}  {r:Bool}(F:wz n x y=V r):qP prog 263 [vi x,vi y] w r:=by
 refine zV 17 func263 Z fun h=>X0 7 Z (dF h F wA Z fun _ _ h F=>cq Z (qh (t:=7) F Z ?_ ?_))<;>intro F
 .refine X0 3 Z (dF h F wA Z fun _ _ h F=>X0 4 Z (qh (t:=12) F Z ?_ ?_))<;>intro F
  .exact X0 6 Z (rb h F Z)
  exact X0 9 Z (rb h F Z)
 exact X0 14 Z (rb h F Z)
def oh(_:Nat)(x:Int):Option Bool:=V (x != x)
theorem uu{x}  {r:Bool}(F:oh n x=V r):qP prog 264 [vi x] w r:=by
 exact zV 6 func264 Z fun h=>X0 11 Z (rb h F Z)
def bx(x:List Int)(f:Int):Nat->Int->Int->Option (Int×Int)|0,_,_=>U|n+1,a,b=>bif decide (a<b) then(qbn .u64 (IntKind.wrap .u64 (qj (a+b))) 1).bind fun c=>(qF x (qj c)).bind fun d=>(wz n d f).bind fun r1=>bif r1 then bx x f n (qj ((qj c)+1)) b else bx x f n a (qj c) else V (a,b)
def gV(n:Nat)(x:List Int)(g:Int):Option (Int×Bool):=(bx x g n 0 (x.length:Int)).bind fun(a,_)=>bif decide (a<(x.length:Int)) then(qF x a).bind fun d=>bif (d==g) then V (a,An) else(qF x a).bind fun f=>(oh n f).bind fun b=>bif b then(oh n g).bind fun c=>V (a,c) else V (a,Cd) else V (a,Cd)
theorem vB{x:List Int}{target}(d:Ro w x cs1){r:Int×Bool}(F:gV n x target=V r):qP prog 238 [gv x cs1,vi target] w r:=by
 obtain⟨p1,D,rfl,s1⟩:=d;refine zV 54 func238 Z fun h=>X0 18 Z ?_;obtain⟨o1,F,c⟩:=qc F;refine qr (rL (fun m e w'=>∃b A,bx x target m b A=V o1/\e=[(0,oL p1 x D),(1,vi target),(6,vi (x.length:Int)),(7,vi b),(8,vi A)]/\SH w w' []) n ⟨_,_,F,Z,h⟩ Z ?_);rintro B _ _ ⟨b,A,F,rfl,h⟩;rcases B with _|B
 .cases F
 refine X0 7 Z (qp Z F ?_ ?_)<;>intro F
 .refine X0 8 Z ?_;obtain⟨_,a,F⟩:=qc F;obtain⟨C,a⟩:=M8 a;refine dK (qdv C Z Z) Z ?_;rw[a];refine X0 7 Z ?_;obtain⟨_,_,F,k,_,_,_,_,p,v,rfl,f⟩:=s1.ix F;refine fG p v k Z (bN 0 f h Z (cq Z (dF h F FQ Z fun _ _ h F=>ac (qp Z F ?_ ?_))))<;>intro F
  .exact X0 6 Z (rK ⟨_,_,F,Z,h⟩ Z)
  exact X0 5 Z (rK ⟨_,_,F,Z,h⟩ Z)
 refine qx Z ?_;cases qe F;have F:=c;refine X0 7 Z (qh (t:=35) F Z ?_ ?_)<;>intro F
 .refine X0 5 Z ?_;obtain⟨_,_,F,l,_,_,_,_,s,y,rfl,g⟩:=s1.ix F;refine fG s y l Z (X0 1 Z (bN 0 g h Z (X0 6 Z (qh (t:=42) F Z ?_ ?_))))<;>intro F
  .refine X0 15 Z ?_;cases qe F;exact aq qa (ρ:=(Int×Bool)) [oV Int [vi b],oV Bool [.bool An]] h ⟨Z,Z,G⟩ (Cq h (ai h vk ul (by rfl)))
  refine X0 5 Z ?_;obtain⟨_,_,F,o,_,_,_,_,u,z,rfl,i⟩:=s1.ix F;refine fG u z o Z (X0 1 Z (bN 0 i h Z (X0 1 Z (dF h F uu Z fun _ _ h F=>X0 2 Z (qh (t:=48) F Z ?_ ?_)))))<;>intro F
  .refine X0 3 Z (dF h F uu Z fun H _ h F=>X0 8 Z ?_);cases qe F;exact aq qa (ρ:=(Int×Bool)) [oV Int [vi b],oV Bool [.bool H]] h ⟨Z,Z,G⟩ (Cq h (ai h vk ul (by rfl)))
  refine X0 10 Z ?_;cases qe F;exact aq qa (ρ:=(Int×Bool)) [oV Int [vi b],oV Bool [.bool Cd]] h ⟨Z,Z,G⟩ (Cq h (ai h vk ul (by rfl)))
 refine X0 21 Z ?_;cases qe F;exact aq qa (ρ:=(Int×Bool)) [oV Int [vi b],oV Bool [.bool Cd]] h ⟨Z,Z,G⟩ (Cq h (ai h vk ul (by rfl)))
def mB(n:Nat)(k:List Int)(x:Int):Option ((List cx)×Int):=(qF k 0).bind fun a=>(qF k (qj ((k.length:Int)-1))).bind fun c=>(gV n k (if c<(if a > x then a else x) then c else(if a > x then a else x))).bind fun(b,d)=>bif d then V (([(⟨b,1⟩:cx)]:List cx),1) else(qF k b).bind fun f=>(qF k (qj (b-1))).bind fun g=>(qF k b).bind fun h=>(qF k (qj (b-1))).bind fun i=>V (([(⟨qj (b-1),qj (f-(if c<(if a > x then a else x) then c else(if a > x then a else x)))⟩:cx),(⟨b,qj ((if c<(if a > x then a else x) then c else(if a > x then a else x))-g)⟩:cx)]:List cx),qj (h-i))
theorem zN{a3:List Int}{x}(d:Ro w a3 cs1){r:(List cx)×Int}(F:mB n a3 x=V r):qP prog 198 [gv a3 cs1,vi x] w r:=by
 obtain⟨_,_,rfl,s1⟩:=d;refine zV 59 func198 Z fun h=>X0 6 Z (rD (xQ Z ?_));obtain⟨a,_,F,o,_,_,_,_,y,H,rfl,f⟩:=s1.ix F;refine hG y H o Z (fF 0 f h Z (qdX Z ?_));obtain⟨b,_,F,p,_,_,_,_,z,I,rfl,g⟩:=s1.ix F;refine hG z I p Z (fF 0 g h Z (xQ Z (dN h fun _ h=>X0 4 Z ?_)));obtain⟨⟨c,Y⟩,N,F⟩:=qc F;refine bG (c,Y) h (cB 238 Z) (vB ⟨_,_,Z,(h.oldS s1)⟩ N) Z Z Z Z fun _ _ _ Q O=>?_;obtain⟨_,_,rfl,R,P⟩:=Q.consI O;obtain⟨rfl,h⟩:=R.lastB P;refine X0 11 Z (qp Z F ?_ ?_)<;>intro F
 .refine X0 3 Z (dK (qC qa [0,1] [.tmp 27,.const (vi (1))] z8) Z (qv qa [.tmp 28] _ ([(⟨c,1⟩:cx)]:List cx) h z9 ⟨(BW (⟨c,1⟩:cx)),G⟩ Z fun _ W _ h=>X0 3 Z ?_));cases qe F;exact aq qa (ρ:=((List cx)×Int)) [oV (List cx) [oS W 1 1],oV Int [vi 1]] h ⟨Z,Z,G⟩ (Cq h (ai h (qS 0 h Z) ul (by rfl)))
 refine E1 (rA [] [] h Z fun _ h=>M0 15 [0,1,2,3] (h.p [] Z) Z ?_);obtain⟨S,_,F,s,_,_,_,_,A,J,rfl,i⟩:=s1.ix F;refine Ae 4 31 A J s (h.p [] Z) Z (Al 5 63 0 i (h.p [] Z) Z (M0 255 [6,7] (h.p [] Z) Z (Aw 8 511 (fun w' hw=>qC qa [0,1] [.tmp 31,.tmp 37] z8) (h.p [] Z) Z ?_)));refine M0 16383 [9,10,11,12,13] (h.p [] Z) Z ?_;obtain⟨T,_,F,t,_,_,_,_,B,K,rfl,k⟩:=s1.ix F;refine Ae 14 32767 B K t (h.p [] Z) Z (Al 15 65535 0 k (h.p [] Z) Z (M0 131071 [16] (h.p [] Z) Z (Aw 17 262143 (fun w' hw=>qC qa [0,1] [.tmp 39,.tmp 46] z8) (h.p [] Z) Z ?_)));refine M0 1835007 [19,20] (h.p [] Z) Z ?_;obtain⟨e,_,F,u,_,_,_,_,C,L,rfl,l⟩:=s1.ix F;refine Ae 21 3932159 C L u (h.p [] Z) Z (Al 22 8126463 0 l (h.p [] Z) Z (M0 66846719 [23,24,25] (h.p [] Z) Z ?_));obtain⟨y6,_,F,v,_,_,_,_,D,M,rfl,m⟩:=s1.ix F;refine Ae 26 133955583 D M v (h.p [] Z) Z (Al 27 268173311 0 m (h.p [] Z) Z (M0 536608767 [28] (h.p [] Z) Z (Ao 18 536870911 Z (qv qa [.tmp 38,.tmp 47] _ ([(⟨qj (c-1),qj (S-(if b<(if a > x then a else x) then b else(if a > x then a else x)))⟩:cx),(⟨c,qj ((if b<(if a > x then a else x) then b else(if a > x then a else x))-T)⟩:cx)]:List cx) h z9 ⟨(BW (⟨qj (c-1),qj (S-(if b<(if a > x then a else x) then b else(if a > x then a else x)))⟩:cx)),(BW (⟨c,qj ((if b<(if a > x then a else x) then b else(if a > x then a else x))-T)⟩:cx)),G⟩ Z fun _ X _ h=>G0 2147483647 [29,30] (h.p [] Z) Z (Ad ?_)))));cases qe F;exact aq qa (ρ:=((List cx)×Int)) [oV (List cx) [oS X 2 2],oV Int [vi (qj (e-y6))]] h ⟨Z,Z,G⟩ (Cq h (ai h (qS 0 h Z) ul (by rfl)))
def cC(Ce:aa)(b:List cx)(c:cx):Nat->Int->Int->Option (Int×Int)|0,_,_=>U|n+1,d,a=>bif decide (a<(b.length:Int)) then(qF b a).bind fun f=>(qF Ce.Bi (qj ((qj (c.index*(Ce.Bm.length:Int)))+f.index))).bind fun g=>cC Ce b c n (qj (d+(qj ((qj (g*c.part))*f.part)))) (qj (a+1)) else V (d,a)
def cz(Ce:aa)(b:List cx)(d:List cx):Nat->Int->Int->Option (Int×Int)|0,_,_=>U|n+1,c,a=>bif decide (a<(b.length:Int)) then(qF b a).bind fun g=>(cC Ce d g n c 0).bind fun(f,_)=>cz Ce b d n f (qj (a+1)) else V (c,a)
def gn(n:Nat)(Ce:aa)(Cf:Int)(Cg:Int)(a:Int):Option Int:=(mB n Ce.Bp Cf).bind fun(c,d)=>(mB n Ce.Bm Cg).bind fun(f,g)=>(cz Ce c f n 0 0).bind fun(b,_)=>(mz n b (qj (d*g)) a).bind fun h=>V h
theorem vd{Ce:aa}{Cf Cg c}(x:Ro w Ce cs1){r:Int}(F:gn n Ce Cf Cg c=V r):qP prog 138 [gv Ce cs1,vi Cf,vi Cg,vi c] w r:=by
 obtain⟨p1,k1,p2,k2,p3,k3,rfl,s1,s2,s3⟩:=fk x;refine zV 73 func138 Z fun h=>dE (qJ h Z Z fun _ d h=>X1 7 0 h Z ?_);obtain⟨⟨b,r3⟩,L,F⟩:=qc F;refine bG (b,r3) h (cB 198 Z) (zN ⟨_,_,Z,(h.oldS s1)⟩ L) Z Z Z Z fun _ _ _ S M=>?_;obtain⟨S2,_,t,s,_,rfl,T,N⟩:=S.consL M;obtain⟨rfl,h⟩:=T.lastI N;refine X1 11 1 h Z ?_;obtain⟨⟨a,r6⟩,O,F⟩:=qc F;refine bG (a,r6) h (cB 198 Z) (zN ⟨_,_,Z,(h.oldS s2)⟩ O) Z Z Z Z fun _ _ _ W P=>?_;obtain⟨S6,_,o,l,_,rfl,X,Q⟩:=W.consL P;obtain⟨rfl,h⟩:=X.lastI Q;refine X0 17 Z ?_;obtain⟨o1,F,u⟩:=qc F;refine qr (rL (fun m e w'=>∃Y p,cz Ce b a m Y p=V o1/\e=[(3,vi c),(4,vp d),(10,vi r3),(11,oL o a l),(12,vi r6),(13,vi Y),(32,oL t b s),(33,vi (b.length:Int)),(34,vi p)]/\SH w w' [oW S6 (a:List cx) [oL o a l],oW S2 (b:List cx) [oL t b s],oX d (lC Ce p1 p2 p3 k1 k2 k3) 175]) n ⟨_,_,F,Z,h⟩ Z ?_);rintro m1 _ _ ⟨Y,p,F,rfl,h⟩;rcases m1 with _|m1
 .cases F
 refine X0 5 Z (qp Z F ?_ ?_)<;>intro F
 .refine lN ?_;obtain⟨y1,_,F,g,_,_,_,_,C,I,R,y⟩:=(h.sl 1 Z).1.ix F;obtain rfl:=GI R;refine zx C I ⟨g.1,qD g.2.1 (h.sl 1 Z).2⟩ Z (zc 0 y Z (qi qa h Z Z Z fun _ f h=>zs 0 h Z fun _ h=>X0 7 Z ?_));obtain⟨o2,F,v⟩:=qc F;refine qr (rL (fun m e w'=>∃i3 i4,cC Ce a y1 m i3 i4=V o2/\e=[(3,vi c),(4,vp d),(10,vi r3),(11,oL o a l),(12,vi r6),(13,vi i3),(15,vp f),(32,oL t b s),(33,vi (b.length:Int)),(34,vi p),(38,oL o a l),(39,vi (a.length:Int)),(40,vi i4)]/\SH w w' [oX f (HJ y1) 276,oW S6 (a:List cx) [oL o a l],oW S2 (b:List cx) [oL t b s],oX d (lC Ce p1 p2 p3 k1 k2 k3) 175]) m1 ⟨_,_,F,Z,h⟩ Z ?_);rintro m2 _ _ ⟨i3,i4,F,rfl,h⟩;rcases m2 with _|m2
  .cases F
  refine X0 5 Z (qp Z F ?_ ?_)<;>intro F
  .refine lN ?_;obtain⟨_,_,F,i,_,_,_,_,D,J,k,z⟩:=(h.sl 1 Z).1.ix F;obtain rfl:=GI k;refine zx D J ⟨i.1,qD i.2.1 (h.sl 1 Z).2⟩ Z (zc 0 z Z (qi qa h Z Z Z fun _ _ h=>zs 0 h Z fun _ h=>ac (rD (Y1 3 4 h Z ?_))));refine Y1 2 1 h Z ?_;refine Y1 2 4 h Z ?_;refine Y1 4 0 h Z ?_;refine vD Z ?_;obtain⟨_,_,F,B,_,_,_,_,H,K,rfl,A⟩:=s3.ix F;refine hG H K B Z (fF 0 A h Z (Y1 2 1 h Z ?_));refine Y1 3 0 h Z ?_;refine qcY Z (dN h fun _ h=>X0 5 Z ?_);exact rK ⟨_,_,F,Z,h.p [1,2,3,4] Z⟩ Z
  refine qx Z ?_;cases qe F;have F:=v;refine X0 5 Z ?_;exact rK ⟨_,_,F,Z,h.p [1,2,3] Z⟩ Z
 refine qx Z ?_;cases qe F;have F:=u;exact X0 7 Z (mN h F tG Z fun _ _ h F=>X0 2 Z (ri h F Z))
def wG(n:Nat)(t:Int)(a:Int)(mode:Int):Option Int:=(mz n (qj (t*a)) 1000 mode).bind fun r1=>V r1
theorem EG{t thousandths mode}  {r:Int}(F:wG n t thousandths mode=V r):qP prog 140 [vi t,vi thousandths,vi mode] w r:=by
 exact zV 12 func140 Z fun h=>X0 10 Z (mN h F tG Z fun _ _ h F=>X0 2 Z (ri h F Z))
def lE(_:Nat)(c:qG)(kind:Int)(mode:Int):Option Int:=(bif (kind==1) then V (mode==0) else V Cd).bind fun b1=>bif b1 then V c.Ba else bif (kind==1) then V c.Bd else bif (mode==0) then V c.Ay else V c.Bc
theorem uo{c:qG}{kind mode}(g:Ro w c cs1){r:Int}(F:lE n c kind mode=V r):qP prog 141 [gv c cs1,vi kind,vi mode] w r:=by
 obtain rfl:=cQ g;refine zV 28 func141 Z fun h=>dE (qJ h Z Z fun _ a h=>X0 5 Z ?_);obtain⟨f,d,_,F,b⟩:=bindE F;refine bd (fun e w'=>∃b1,f b1=V r/\e=[(1,vi kind),(2,vi mode),(3,vp a),(7,.bool b1)]/\SH w w' [oX a (bZ c) 36]) ?_ ?_
 .refine X0 4 Z (qh (t:=10) F Z ?_ ?_)<;>intro F
  .refine X0 7 Z ?_;exact rH F b h Z
  refine X0 5 Z ?_;exact rH F b h Z
 rintro _ _ ⟨b1,F,rfl,h⟩;subst d;refine qp Z F ?_ ?_<;>intro F
 .exact X1 6 0 h Z (ri h F Z)
 refine X0 6 Z (qp Z F ?_ ?_)<;>intro F
 .exact X1 6 0 h Z (ri h F Z)
 refine X0 6 Z (qp Z F ?_ ?_)<;>intro F
 .exact X1 6 0 h Z (ri h F Z)
 exact X1 8 0 h Z (ri h F Z)
def fI(n:Nat)(Ce:Option cL)(Cf:qG)(Cg:Int)(c:Int)(a:Int):Option Int:=(Ce).bind fun d=>(qF d.links Cg).bind fun b=>(md n Ce b).bind fun r1=>bif (b.Bf==1) then(qF d.loads r1).bind fun o=>(oA n Ce b).bind fun f=>(qF f.Bu (b.To.tmod 2)).bind fun p=>(gn n p c o a).bind fun g=>(lE n Cf b.Bf a).bind fun h=>(wG n g h a).bind fun i=>V i else(qF d.delays r1).bind fun r=>(qF r b.Ca).bind fun s=>(mz n s 1000 a).bind fun k=>(lE n Cf b.Bf a).bind fun l=>(wG n k l a).bind fun m=>V m
theorem bm{Ce:Option cL}{Cf:qG}{Cg i k}(v:Ro w Ce cs1)(f:Ro w Cf cs2){r:Int}(F:fI n Ce Cf Cg i k=V r):qP prog 85 [gv Ce cs1,gv Cf cs2,vi Cg,vi i,vi k] w r:=by
 obtain⟨_,rfl,s1⟩:=aM v;obtain rfl:=cQ f;refine zV 67 func85 Z fun h=>dE (qJ h Z Z fun _ _ h=>X0 5 Z ?_);obtain⟨_,a5,F⟩:=qc F;obtain⟨_,o_1,_,rfl,-,X,g⟩:=Cs s1 a5;obtain⟨_,_,_,_,_,_,_,_,_,_,_,_,_,_,_,_,_,_,_,_,rfl,s2,s3,s4,s5,s6,s7,s8,s9,t,a7⟩:=cJ X;refine lY Z (bN 6 g h Z (cq Z ?_));obtain⟨u,_,F,H,_,_,_,_,L,Q,Y,y⟩:=s8.ix F;obtain rfl:=aA Y;refine fG L Q H Z (bN 0 y h Z (qi qa h Z Z Z fun _ _ h=>zs 0 h Z fun _ h=>X1 5 0 h Z (mN h F (sJ (h.old s1) (fT u)) Z fun _ _ h F=>X1 13 0 h Z (qp Z F ?_ ?_))))<;>intro F
 .refine rA [] [0] h Z fun _ h=>M2 7795 [0,1,4,5,6,9,10,11,12] 0 0 (h.p [0] Z) Z (Al 13 15987 7 g (h.p [0] Z) Z (M0 32371 [14] (h.p [0] Z) Z ?_));obtain⟨_,_,F,I,_,_,_,_,M,R,rfl,z⟩:=s9.ix F;refine Ae 15 65139 M R I (h.p [0] Z) Z (Al 16 130675 0 z (h.p [0] Z) Z (M0 261747 [17] (h.p [0] Z) Z (Ao 2 261751 Z ?_)));have b:Rg (old w) w (old w) w:=.start (fun _ h=>h);obtain⟨r2,e,F⟩:=qc F;refine pg r2 b h (cB 137 Z) (wH (b.regOld h) (b.inR h s1) (fT u) e) Z Z Z Z fun _ _ _ d a a6 a4=>?_;have hL1:=h.ext a.below;have A:=Up.box 0 h a Z;have ha3:=Up.boxP (x:=u) b 0 h a Z (fT u);have B:=Up.box 1 h a Z;have a8:=Up.R b h a f;have ha4:=Up.boxP (x:=Cf) b 1 h a Z (b.inR h f);have hc7:=Up.C h a g;have s13:=Up.S b h a s2;have s14:=Up.S b h a s3;have s15:=Up.S b h a s4;have s16:=Up.S b h a s5;have s17:=Up.S b h a s6;have s18:=Up.S b h a s7;have s19:=Up.S b h a s8;have s20:=Up.S b h a s9;have s21:=Up.S b h a t;have s22:=Up.S b h a a7;have hb1:=h.below.trans (a.below.mono h.below.size);have c:=((h.p [0] Z)).ext a.below;have h:=a6;obtain⟨_,rfl,s⟩:=mS a4;have ha5:=s;obtain⟨_,_,_,_,rfl,a9,_⟩:=bq s;refine bL (fun _=>(c.ext h.below)) (gk 3 Z (bits 20 261759) (by kernel_rfl) (by kernel_rfl) (fun w' hw=>WY qa Z w') (c.ext h.below) Z ?_);obtain⟨y4,_,F,m,_,_,_,_,N,S,a3,C⟩:=a9.ix F;obtain⟨_,_,_,_,_,_,rfl,b4,b5,b6⟩:=fk a3;refine gk 7 Z (bits 20 261887) (by kernel_rfl) (by kernel_rfl) (fun w' hw=>WX qa N S ⟨m.1,m.2.1⟩ Z Z Z Z Z Z) (c.ext h.below) Z (Ao 8 262143 Z (bN 0 C h Z (bL (fun _=>(c.ext h.below)) (Ao 18 524287 Z (mN h F (vd (uF y4 (h.oldS (b4.mono d.old)) (h.oldS (b5.mono d.old)) (h.oldS (b6.mono d.old)))) Z fun _ _ h F=>bL (fun _=>(c.ext h.below)) (gk 19 Z (bits 20 1048575) (by kernel_rfl) (by kernel_rfl) (fun w' hw=>WY qa Z w') (c.ext h.below) Z (Ad (X0 3 Z (bN 0 B h Z (cq Z (bN 2 A h Z (cq Z (mN h F (uo (h.old (qm.mono a8 d.old))) Z fun _ _ h F=>cq Z (mN h F EG Z fun _ _ h F=>X0 2 Z ?_))))))))))))));have h:=h.unbase d.below (show EL [] from trivial);exact ri h F Z
 refine rD (qcY Z (fF 8 g h Z (vD Z ?_)));obtain⟨_,_,F,J,_,_,_,_,O,T,o,D⟩:=t.ix F;obtain⟨_,_,rfl,b7⟩:=o;refine hG O T J Z (fF 0 D h Z (Y1 2 0 h Z ?_));obtain⟨_,_,F,K,_,_,_,_,P,W,rfl,l⟩:=b7.ix F;refine hG P W K Z (fF 0 l h Z (vD Z ?_));obtain⟨r6,p,F⟩:=qc F;exact en r6 (qby _) (cB 139 Z) (fun _ hb=>tG  p) Z Z Z Z (vD Z (dN h fun _ h=>X2 7 1 0 h Z (mN h F (uo (h.old f)) Z fun _ _ h F=>cq Z (mN h F EG Z fun _ _ h F=>X0 2 Z (ri h F Z)))))
def nZ(c:Int):Nat->Int->Int->Option (Int×Int)|0,_,_=>U|n+1,a,b=>bif decide (a<b) then bif decide ((qj ((qj ((qj ((qj (a+b))+1)).tdiv 2))*(qj ((qj ((qj (a+b))+1)).tdiv 2))))<=c) then nZ c n (qj ((qj ((qj (a+b))+1)).tdiv 2)) b else nZ c n a (qj ((qj ((qj ((qj (a+b))+1)).tdiv 2))-1)) else V (a,b)
def CZ(n:Nat)(b:Int):Option Int:=(nZ b n 0 3000000000).bind fun(a,_)=>V a
theorem RX{a_n}  {r:Int}(F:CZ n a_n=V r):qP prog 199 [vi a_n] w r:=by
 refine zV 23 func199 Z fun h=>X0 10 Z ?_;obtain⟨o1,F,a⟩:=qc F;refine qr (rL (fun m e w'=>∃b c,nZ a_n m b c=V o1/\e=[(0,vi a_n),(3,vi b),(4,vi c)]/\SH w w' []) n ⟨_,_,F,Z,h⟩ Z ?_);rintro d _ _ ⟨b,c,F,rfl,h⟩;rcases d with _|d
 .cases F
 refine X0 7 Z (qp Z F ?_ ?_)<;>intro F
 .refine X0 19 Z (qp Z F ?_ ?_)<;>intro F
  .exact X0 5 Z (rK ⟨_,_,F,Z,h⟩ Z)
  exact X0 6 Z (rK ⟨_,_,F,Z,h⟩ Z)
 refine qx Z ?_;cases qe F;exact X0 5 Z (ri h a Z)
def uM(n:Nat)(c:Int)(b:Int)(mode:Int):Option Int:=(CZ n (qj ((qj ((qj ((qj (500*c))*500))*c))+(qj (b*b))))).bind fun r1=>(bif (mode==1) then V (decide ((qj (r1*r1))<(qj ((qj ((qj ((qj (500*c))*500))*c))+(qj (b*b)))))) else V Cd).bind fun b1=>bif b1 then V (qj ((qj (r1.tdiv 500))+1)) else(mz n r1 500 mode).bind fun a=>V a
theorem HS{slew delay mode}  {r:Int}(F:uM n slew delay mode=V r):qP prog 142 [vi slew,vi delay,vi mode] w r:=by
 refine zV 35 func142 Z fun h=>X0 20 Z (mN h F RX Z fun r1 _ h F=>X0 4 Z ?_);obtain⟨c,b,_,F,a⟩:=bindE F;refine bd (fun e w'=>∃b1,c b1=V r/\e=[(2,vi mode),(8,vi r1),(28,.bool b1)]/\SH w w' []) ?_ ?_
 .refine X0 4 Z (qh (t:=22) F Z ?_ ?_)<;>intro F
  .refine X0 12 Z ?_;exact rH F a h Z
  refine X0 7 Z ?_;exact rH F a h Z
 rintro _ _ ⟨b1,F,rfl,h⟩;subst b;refine qp Z F ?_ ?_<;>intro F
 .exact X0 7 Z (ri h F Z)
 exact X0 5 Z (mN h F tG Z fun _ _ h F=>X0 2 Z (ri h F Z))
def db(n:Nat)(v:Option cL)(m:Int)(l:Int)(mode:Int):Option Int:=(v).bind fun b=>(qF b.links m).bind fun a=>(md n v a).bind fun r1=>bif (a.Bf==1) then(qF b.loads r1).bind fun g=>(oA n v a).bind fun f=>(qF f.Bb (a.To.tmod 2)).bind fun h=>(gn n h l g mode).bind fun c=>V (if 1000000<c then 1000000 else c) else(qF b.delays r1).bind fun i=>(qF i a.Ca).bind fun k=>(uM n l k mode).bind fun d=>V (if 1000000<d then 1000000 else d)
theorem pb{v:Option cL}{link slew mode}(m:Ro w v cs1){r:Int}(F:db n v link slew mode=V r):qP prog 86 [gv v cs1,vi link,vi slew,vi mode] w r:=by
 obtain⟨_,rfl,s1⟩:=aM m;refine zV 59 func86 Z fun h=>X0 7 Z ?_;obtain⟨_,W,F⟩:=qc F;obtain⟨_,o_1,_,rfl,-,O,d⟩:=Cs s1 W;obtain⟨_,_,_,_,_,_,_,_,_,_,_,_,_,_,_,_,_,_,_,_,rfl,s2,s3,s4,s5,s6,s7,s8,s9,l,Y⟩:=cJ O;refine lY Z (bN 6 d h Z (cq Z ?_));obtain⟨y2,_,F,x,_,_,_,_,B,J,P,o⟩:=s8.ix F;obtain rfl:=aA P;refine fG B J x Z (bN 0 o h Z (qi qa h Z Z Z fun _ _ h=>zs 0 h Z fun _ h=>X1 5 0 h Z (mN h F (sJ (h.old s1) (fT y2)) Z fun _ _ h F=>X1 9 0 h Z (qp Z F ?_ ?_))))<;>intro F
 .refine au (rA [] [0] h Z fun _ h=>M2 7795 [0,1,4,5,6,9,10,11,12] 0 0 (h.p [0] Z) Z (Al 13 15987 7 d (h.p [0] Z) Z (M0 32371 [14] (h.p [0] Z) Z ?_)));obtain⟨_,_,F,y,_,_,_,_,C,K,rfl,p⟩:=s9.ix F;refine Ae 15 65139 C K y (h.p [0] Z) Z (Al 16 130675 0 p (h.p [0] Z) Z (M0 261747 [17] (h.p [0] Z) Z (Ao 2 261751 Z ?_)));have b:Rg (old w) w (old w) w:=.start (fun _ h=>h);obtain⟨r2,Q,F⟩:=qc F;refine pg r2 b h (cB 137 Z) (wH (b.regOld h) (b.inR h s1) (fT y2) Q) Z Z Z Z fun _ _ _ f a X T=>?_;have hL1:=h.ext a.below;have hc5:=Up.C h a d;have s12:=Up.S b h a s2;have s13:=Up.S b h a s3;have s14:=Up.S b h a s4;have s15:=Up.S b h a s5;have s16:=Up.S b h a s6;have s17:=Up.S b h a s7;have s18:=Up.S b h a s8;have s19:=Up.S b h a s9;have s20:=Up.S b h a l;have s21:=Up.S b h a Y;have hb1:=h.below.trans (a.below.mono h.below.size);have c:=((h.p [0] Z)).ext a.below;have h:=X;obtain⟨_,rfl,k⟩:=mS T;have ha2:=k;obtain⟨_,_,_,_,rfl,_,e⟩:=bq k;refine bL (fun _=>(c.ext h.below)) (gk 3 Z (bits 21 261759) (by kernel_rfl) (by kernel_rfl) (fun w' hw=>WY qa Z w') (c.ext h.below) Z ?_);obtain⟨y4,_,F,g,_,_,_,_,D,L,R,s⟩:=e.ix F;obtain⟨_,_,_,_,_,_,rfl,a3,a4,a5⟩:=fk R;refine gk 7 Z (bits 21 261887) (by kernel_rfl) (by kernel_rfl) (fun w' hw=>WX qa D L ⟨g.1,g.2.1⟩ Z Z Z Z Z Z) (c.ext h.below) Z (Ao 8 262143 Z (bN 0 s h Z (bL (fun _=>(c.ext h.below)) (Ao 18 524287 Z (mN h F (vd (uF y4 (h.oldS (a3.mono f.old)) (h.oldS (a4.mono f.old)) (h.oldS (a5.mono f.old)))) Z fun _ _ h F=>bL (fun _=>(c.ext h.below)) (gk 19 Z (bits 21 1048575) (by kernel_rfl) (by kernel_rfl) (fun w' hw=>WY qa Z w') (c.ext h.below) Z (gk 20 Z (bits 21 2097151) (by kernel_rfl) (by kernel_rfl) (fun w' hw=>WY qa Z w') (c.ext h.below) Z (Ad ?_))))))));have h:=h.unbase f.below (show EL [] from trivial);exact ri h F Z
 refine E1 (rD (qdC Z (fF 8 d h Z (vD Z ?_))));obtain⟨_,_,F,z,_,_,_,_,H,M,S,t⟩:=l.ix F;obtain⟨_,_,rfl,a6⟩:=S;refine hG H M z Z (fF 0 t h Z (Y1 2 0 h Z ?_));obtain⟨_,_,F,A,_,_,_,_,I,N,rfl,u⟩:=a6.ix F;refine hG I N A Z (fF 0 u h Z (vD Z ?_));obtain⟨r4,i,F⟩:=qc F;exact en r4 (qby _) (cB 142 Z) (fun _ hb=>HS  i) Z Z Z Z (xQ Z (dN h fun _ h=>ri h F Z))

def me(n:Nat)(Ce:Option cL)(Cf:qG)(Cg:Int)(a:qg):Option (qg×qg):=(fI n Ce Cf Cg a.As 0).bind fun r1=>(fI n Ce Cf Cg a.Be 0).bind fun b=>(fI n Ce Cf Cg a.As 1).bind fun c=>(fI n Ce Cf Cg a.Be 1).bind fun d=>(Ce).bind fun f=>(qF f.links Cg).bind fun l=>(bif decide ((f.extras.length:Int) > 0) then V (l.Bf==2) else V Cd).bind fun b3=>(bif b3 then(md n Ce l).bind fun s=>(qF f.extras s).bind fun m=>V (qj ((if b<r1 then b else r1)-m),qj ((if d > c then d else c)+m)) else V ((if b<r1 then b else r1),(if d > c then d else c))).bind fun(p,r)=>(db n Ce Cg a.As 0).bind fun g=>(db n Ce Cg a.Be 0).bind fun h=>(db n Ce Cg a.As 1).bind fun i=>(db n Ce Cg a.Be 1).bind fun k=>V ((⟨p,r⟩:qg),(⟨(if h<g then h else g),(if k > i then k else i)⟩:qg))
theorem cI{Ce:Option cL}{Cf:qG}{Cg}{c:qg}(N:Ro w Ce cs1)(a:Ro w Cf cs2)(O:Ro w c cs3){r:qg×qg}(F:me n Ce Cf Cg c=V r):qP prog 99 [gv Ce cs1,gv Cf cs2,vi Cg,gv c cs3] w r:=by
 obtain⟨p1,rfl,s1⟩:=aM N;obtain rfl:=cQ a;obtain rfl:=qA O;refine zV 100 func99 Z fun h=>dE (qJ h Z Z fun _ _ h=>qJ h Z Z fun _ _ h=>qi qa h Z Z Z fun _ d h=>qi qa h Z Z Z fun _ f h=>O2 (rD (Y1 2 2 h Z ?_)));refine Y1 2 2 h Z ?_;refine xQ Z (dN h fun _ h=>au ?_);obtain⟨r1,z,F⟩:=qc F;obtain⟨s,p,F⟩:=qc F;obtain⟨m,i,F⟩:=qc F;obtain⟨k,g,F⟩:=qc F;refine bd (fun e w'=>∃b,e=[(0,.pointer p1),(2,vi Cg),(8,vp d),(9,vp f),(10,vi c.As),(11,vi c.Be),(12,vp b)]/\SH w w' [oX b [vi (if s<r1 then s else r1),vi (if k > m then k else m)] 59,oX f [vi 0,vi 0] 59,oX d [vi 0,vi 0] 59]) ?_ ?_
 .refine rA [24] [3] h Z fun _ h=>M4 1014255 [0,1,2,3,5,6,7,8,11,12,13,14,16,17,18,19] 0 0 0 0 (h.p [3] Z) Z (At 4 23 1014271 9402863 Z ?_ ?_)
  .refine fJ r1 h (cB 85 Z) (bm (h.old s1) (h.old a) z) Z Z Z Z fun _ h=>Ag (h.p [3] Z) (At 9 23 1014783 9402879 Z ?_ ?_)
   .refine fJ s h (cB 85 Z) (bm (h.old s1) (h.old a) p) Z Z Z Z fun _ h=>G0 1015807 [10] (h.p [3] Z) Z (At 15 23 1048575 9404415 Z ?_ ?_)
    .refine fJ m h (cB 85 Z) (bm (h.old s1) (h.old a) i) Z Z Z Z fun _ h=>Ag (h.p [3] Z) (At 20 23 2097151 9437183 Z ?_ ?_)
     .refine fJ k h (cB 85 Z) (bm (h.old s1) (h.old a) g) Z Z Z Z fun _ h=>G0 4194303 [21] (h.p [3] Z) Z (Aw 22 8388607 (fun w' hw=>qC qa [0,1] [.tmp 30,.tmp 41] z8) (h.p [3] Z) Z ?_);refine Ao 23 16777215 Z (qi qa h Z Z Z fun _ _ h=>Ag (h.p [4] Z) (Ao 24 33554431 Z (zs 0 h Z fun _ h=>bL (fun hs=>absurd (hs 24 (by decide)) (by decide)) (Ad ?_))));exact rG ⟨_,Z,h.p [0,1,2] Z⟩ Z
     refine qi qa h Z Z Z fun _ _ h=>Ag (h.p [4] Z) (Ao 20 10485759 Z (fJ k h (cB 85 Z) (bm (h.old s1) (h.old a) g) Z Z Z Z fun _ h=>G0 12582911 [21] (h.p [4] Z) Z (Aw 22 16777215 (fun w' hw=>qC qa [0,1] [.tmp 30,.tmp 41] z8) (h.p [4] Z) Z ?_)));refine Ao 24 33554431 Z (zs 0 h Z fun _ h=>bL (fun hs=>absurd (hs 24 (by decide)) (by decide)) (Ad ?_));exact rG ⟨_,Z,h.p [0,1,2] Z⟩ Z
    refine qi qa h Z Z Z fun _ _ h=>Ag (h.p [4] Z) (Ao 15 9437183 Z (fJ m h (cB 85 Z) (bm (h.old s1) (h.old a) i) Z Z Z Z fun _ h=>Ag (h.p [4] Z) (Ao 20 10485759 Z (fJ k h (cB 85 Z) (bm (h.old s1) (h.old a) g) Z Z Z Z fun _ h=>G0 12582911 [21] (h.p [4] Z) Z (Aw 22 16777215 (fun w' hw=>qC qa [0,1] [.tmp 30,.tmp 41] z8) (h.p [4] Z) Z ?_)))));refine Ao 24 33554431 Z (zs 0 h Z fun _ h=>bL (fun hs=>absurd (hs 24 (by decide)) (by decide)) (Ad ?_));exact rG ⟨_,Z,h.p [0,1,2] Z⟩ Z
   refine qi qa h Z Z Z fun _ _ h=>Ag (h.p [4] Z) (Ao 9 9403391 Z (fJ s h (cB 85 Z) (bm (h.old s1) (h.old a) p) Z Z Z Z fun _ h=>G0 9404415 [10] (h.p [4] Z) Z (Ao 15 9437183 Z (fJ m h (cB 85 Z) (bm (h.old s1) (h.old a) i) Z Z Z Z fun _ h=>Ag (h.p [4] Z) (Ao 20 10485759 Z (fJ k h (cB 85 Z) (bm (h.old s1) (h.old a) g) Z Z Z Z fun _ h=>G0 12582911 [21] (h.p [4] Z) Z (Aw 22 16777215 (fun w' hw=>qC qa [0,1] [.tmp 30,.tmp 41] z8) (h.p [4] Z) Z ?_)))))));refine Ao 24 33554431 Z (zs 0 h Z fun _ h=>bL (fun hs=>absurd (hs 24 (by decide)) (by decide)) (Ad ?_));exact rG ⟨_,Z,h.p [0,1,2] Z⟩ Z
  refine qi qa h Z Z Z fun _ _ h=>Ag (h.p [4] Z) (Ao 4 9402879 Z (fJ r1 h (cB 85 Z) (bm (h.old s1) (h.old a) z) Z Z Z Z fun _ h=>Ag (h.p [4] Z) (Ao 9 9403391 Z (fJ s h (cB 85 Z) (bm (h.old s1) (h.old a) p) Z Z Z Z fun _ h=>G0 9404415 [10] (h.p [4] Z) Z (Ao 15 9437183 Z (fJ m h (cB 85 Z) (bm (h.old s1) (h.old a) i) Z Z Z Z fun _ h=>Ag (h.p [4] Z) (Ao 20 10485759 Z (fJ k h (cB 85 Z) (bm (h.old s1) (h.old a) g) Z Z Z Z fun _ h=>G0 12582911 [21] (h.p [4] Z) Z (Aw 22 16777215 (fun w' hw=>qC qa [0,1] [.tmp 30,.tmp 41] z8) (h.p [4] Z) Z ?_)))))))));refine Ao 24 33554431 Z (zs 0 h Z fun _ h=>bL (fun hs=>absurd (hs 24 (by decide)) (by decide)) (Ad ?_));exact rG ⟨_,Z,h.p [0,1,2] Z⟩ Z
 rintro _ _ ⟨b,rfl,h⟩;refine X0 4 Z ?_;obtain⟨_,a6,F⟩:=qc F;obtain⟨b1,D,_,rfl,-,a4,o⟩:=Cs s1 a6;obtain⟨_,_,_,_,_,_,_,_,_,_,_,_,_,_,_,_,_,_,_,_,rfl,_,_,_,_,_,_,s8,_,_,a7⟩:=cJ a4;refine lY Z (bN 6 o h Z (cq Z ?_));obtain⟨y2,_,F,R,_,_,_,_,W,Y,a5,P⟩:=s8.ix F;obtain rfl:=aA a5;refine fG W Y R Z (bN 0 P h Z (qi qa h Z Z Z fun _ l h=>zs 0 h Z fun _ h=>O2 ?_));obtain⟨M,y,_,F,v⟩:=bindE F;refine bd (fun e w'=>∃b3,M b3=V r/\e=[(0,.pointer (V ⟨b1,D,U⟩)),(2,vi Cg),(8,vp d),(9,vp f),(10,vi c.As),(11,vi c.Be),(12,vp b),(13,vp l),(60,.bool b3)]/\SH w w' [oX l (vM y2) 127,oX b [vi (if s<r1 then s else r1),vi (if k > m then k else m)] 59,oX f [vi 0,vi 0] 59,oX d [vi 0,vi 0] 59]) ?_ ?_
 .refine X0 4 Z (bN 9 o h Z (EK Z (qh (t:=56) F Z ?_ ?_)))<;>intro F
  .refine X1 8 0 h Z ?_;exact rH F v h Z
  refine X0 5 Z ?_;exact rH F v h Z
 rintro _ _ ⟨b3,F,rfl,h⟩;subst y;obtain⟨L,x,_,F,u⟩:=bindE F;refine bd (fun e w'=>∃B C,L (B,C)=V r/\e=[(0,.pointer (V ⟨b1,D,U⟩)),(2,vi Cg),(8,vp d),(9,vp f),(10,vi c.As),(11,vi c.Be),(12,vp b)]/\SH w w' [oX b [vi B,vi C] 59,oX f [vi 0,vi 0] 59,oX d [vi 0,vi 0] 59]) ?_ ?_
 .refine qp Z F ?_ ?_<;>intro F
  .refine au (rD (qcY Z (fF 9 o h Z (Y1 2 0 h Z ?_))));obtain⟨r9,A,F⟩:=qc F;refine en r9 (qby _) (cB 136 Z) (fun _ hb=>sJ ((h.ext hb).old s1) (fT y2) A) Z Z Z Z ?_;obtain⟨_,_,F,T,_,_,_,_,X,a3,rfl,Q⟩:=a7.ix F;refine hG X a3 T Z (fF 0 Q h Z (vD Z (dN h fun _ h=>X2 9 1 1 h Z (dK (qC qa [0,1] [.tmp 73,.tmp 77] z8) Z (zs 1 h Z fun _ h=>ac ?_)))));have h:=h.p [1,2,3] Z;cases qe F;exact rG ⟨_,_,u,Z,h⟩ Z
  refine ez ?_;have h:=h.p [1,2,3] Z;cases qe F;exact rG ⟨_,_,u,Z,h⟩ Z
 rintro _ _ ⟨B,C,F,rfl,h⟩;subst x;refine X0 5 Z (mN h F (pb (h.old s1)) Z fun H _ h F=>EK Z (mN h F (pb (h.old s1)) Z fun I _ h F=>qdZ Z (mN h F (pb (h.old s1)) Z fun J _ h F=>EK Z (mN h F (pb (h.old s1)) Z fun K _ h F=>cq Z (dK (qC qa [0,1] [.tmp 87,.tmp 96] z8) Z (qi qa h Z Z Z fun _ _ h=>zs 0 h Z fun _ h=>O2 (rA [] [0,1] h Z fun _ h=>M2 3 [0,1] 1 0 (h.p [0,1] Z) Z (Ao 2 7 Z (zs 3 h Z fun _ h=>Ag (h.p [0,1] Z) (Ao 3 15 Z (zs 2 h Z fun _ h=>Ag (h.p [0,1] Z) (Ad ?_))))))))))));cases qe F;exact aq qa (ρ:=(qg×qg)) [oV qg [vi B,vi C],oV qg [vi (if I<H then I else H),vi (if K > J then K else J)]] h ⟨⟨_,_,_,Z,Z,h.box 3 Z,Z⟩,⟨_,_,_,Z,Z,h.box 2 Z,Z⟩,G⟩ (Cq h (ai h (lT (S:=fun _=>False) (qI (⟨B,C⟩:qg))) (pJ (lT (S:=fun _=>False) (qI (⟨(if I<H then I else H),(if K > J then K else J)⟩:qg)))) (by rfl)))
def pv(_:Nat)(s:qg)(t:qg):Option qg:=V (⟨qj (s.As+t.As),qj (s.Be+t.Be)⟩:qg)
theorem xp{s:qg}{t:qg}(a:Ro w s cs1)(b:Ro w t cs2){r:qg}(F:pv n s t=V r):qP prog 100 [gv s cs1,gv t cs2] w r:=by
 obtain rfl:=qA a;obtain rfl:=qA b;refine zV 16 func100 Z fun h=>dE (qJ h Z Z fun _ _ h=>qJ h Z Z fun _ _ h=>qi qa h Z Z Z fun _ _ h=>X4 13 2 1 2 1 h Z (dK (qC qa [0,1] [.tmp 9,.tmp 14] z8) Z (zs 0 h Z fun _ h=>ac ?_)));obtain rfl:=qe F;exact aq qa (ρ:=qg) [oV qg [vi (qj (s.As+t.As)),vi (qj (s.Be+t.Be))]] h ⟨⟨_,_,_,Z,Z,h.box 0 Z,Z⟩,G⟩ (Cq h (pJ (lT (S:=fun _=>False) (qI (⟨qj (s.As+t.As),qj (s.Be+t.Be)⟩:qg)))))
def tE(_:Nat)(s:qg)(t:qg):Option qg:=V (⟨(if t.As<s.As then t.As else s.As),(if t.Be > s.Be then t.Be else s.Be)⟩:qg)
theorem kc{s:qg}{t:qg}(a:Ro w s cs1)(b:Ro w t cs2){r:qg}(F:tE n s t=V r):qP prog 189 [gv s cs1,gv t cs2] w r:=by
 obtain rfl:=qA a;obtain rfl:=qA b;refine zV 16 func189 Z fun h=>dE (qJ h Z Z fun _ _ h=>qJ h Z Z fun _ _ h=>qi qa h Z Z Z fun _ _ h=>X4 13 2 1 2 1 h Z (dK (qC qa [0,1] [.tmp 9,.tmp 14] z8) Z (zs 0 h Z fun _ h=>ac ?_)));obtain rfl:=qe F;exact aq qa (ρ:=qg) [oV qg [vi (if t.As<s.As then t.As else s.As),vi (if t.Be > s.Be then t.Be else s.Be)]] h ⟨⟨_,_,_,Z,Z,h.box 0 Z,Z⟩,G⟩ (Cq h (pJ (lT (S:=fun _=>False) (qI (⟨(if t.As<s.As then t.As else s.As),(if t.Be > s.Be then t.Be else s.Be)⟩:qg)))))
def nB(n:Nat)(s:ql)(reached:Bool)(b:qg)(c:qg):Option (ql×Bool):=bif (!reached) then V ((⟨s.Bn,(⟨b.As,b.Be⟩:qg),(⟨c.As,c.Be⟩:qg)⟩:ql),An) else(tE n (⟨s.Af.As,s.Af.Be⟩:qg) b).bind fun r1=>(tE n (⟨s.Bb.As,s.Bb.Be⟩:qg) c).bind fun a=>V ((⟨s.Bn,(⟨r1.As,r1.Be⟩:qg),(⟨a.As,a.Be⟩:qg)⟩:ql),reached)
theorem vc{n g w F a}{s:ql}{b reached}{i:qg}{k:qg}(h:SH g w (oX b [.bool reached] 4::oX a (nk s) 122::F)){r:ql×Bool}(l:nB n s reached i k=V r):XM prog 130 [vp a,vp b,.agg #[vi i.As,vi i.Be],.agg #[vi k.As,vi k.Be]] w (fun w'=>SH g w' (oX b [.bool r.2] 4::oX a (nk r.1) 122::F)):=by
 refine CD func130 Z (m:=40) Z Z (dE (qJ h Z Z fun _ _ h=>qJ h Z Z fun _ _ h=>X1 9 2 h Z (qp Z l ?_ ?_)))<;>intro l
 .refine au (rA [] [0,1] h Z fun _ h=>M2 63 [0,1,2,3,4,5] 1 0 (h.p [0,1] Z) Z (Ao 6 127 Z (zs 2 h Z fun _ h=>G0 511 [7,8] (h.p [0,1] Z) Z (Ao 9 1023 Z (zs 3 h Z fun _ h=>G0 4095 [10,11] (h.p [0,1] Z) Z (Ao 12 8191 Z (zs 3 h Z fun _ h=>Ag (h.p [0,1] Z) (Ad ?_))))))));obtain rfl:=qe l;have h:=h.pickT 4 [2,3] Z;exact qcJ qa h trivial
 refine ez ?_;obtain⟨r1,c,l⟩:=qc l;obtain⟨f,d,l⟩:=qc l;refine bd (fun e w'=>e=[]/\SH g w' (oX b [.bool reached] 4::oX a [vi s.Bn,vi r1.As,vi r1.Be,vi f.As,vi f.Be] 122::F)) ?_ ?_
 .refine rA [] [0,1] h Z fun _ h=>M2 5983 [0,1,2,3,4,6,8,9,10,12] 1 0 (h.p [0,1] Z) Z (At 5 11 6015 8031 Z ?_ ?_)
  .refine zl 3 1 h Z (Ag (h.p [0,1] Z) (At 7 11 6143 8063 Z ?_ ?_))
   .refine zB r1 h (cB 189 Z) (kc (qI _) (qI i) c) Z Z Z Z fun _ _ _ h=>?_;obtain rfl:=qA (h.own 0 Z);refine Ag (h.p [1,2] Z) (Ao 11 8191 Z (zl 4 3 h Z (Ag (h.p [1,2] Z) (Ao 13 16383 Z (zB f h (cB 189 Z) (kc (qI _) (qI k) d) Z Z Z Z fun _ _ _ h=>?_)))));obtain rfl:=qA (h.own 0 Z);refine G0 65535 [14,15] (h.p [2,3] Z) Z (Ao 16 131071 Z (zs 5 h Z fun _ h=>G0 524287 [17,18] (h.p [2,3] Z) Z (Ao 19 1048575 Z (zs 5 h Z fun _ h=>Ag (h.p [2,3] Z) (Ad ?_)))));exact rG ⟨Z,h.pickT 6 [4,5] Z⟩ Z
   refine zl 3 3 h Z (Ag (h.p [0,1] Z) (Ao 7 8191 Z (zB r1 h (cB 189 Z) (kc (qI _) (qI i) c) Z Z Z Z fun _ _ _ h=>?_)));obtain rfl:=qA (h.own 0 Z);refine Ag (h.p [1,2] Z) (Ao 13 16383 Z (zB f h (cB 189 Z) (kc (qI _) (qI k) d) Z Z Z Z fun _ _ _ h=>?_));obtain rfl:=qA (h.own 0 Z);refine G0 65535 [14,15] (h.p [2,3] Z) Z (Ao 16 131071 Z (zs 5 h Z fun _ h=>G0 524287 [17,18] (h.p [2,3] Z) Z (Ao 19 1048575 Z (zs 5 h Z fun _ h=>Ag (h.p [2,3] Z) (Ad ?_)))));exact rG ⟨Z,h.pickT 6 [4,5] Z⟩ Z
  refine zl 3 3 h Z (Ag (h.p [0,1] Z) (Ao 5 8063 Z (zl 3 1 h Z (Ag (h.p [0,1] Z) (Ao 7 8191 Z (zB r1 h (cB 189 Z) (kc (qI _) (qI i) c) Z Z Z Z fun _ _ _ h=>?_))))));obtain rfl:=qA (h.own 0 Z);refine Ag (h.p [1,2] Z) (Ao 13 16383 Z (zB f h (cB 189 Z) (kc (qI _) (qI k) d) Z Z Z Z fun _ _ _ h=>?_));obtain rfl:=qA (h.own 0 Z);refine G0 65535 [14,15] (h.p [2,3] Z) Z (Ao 16 131071 Z (zs 5 h Z fun _ h=>G0 524287 [17,18] (h.p [2,3] Z) Z (Ao 19 1048575 Z (zs 5 h Z fun _ h=>Ag (h.p [2,3] Z) (Ad ?_)))));exact rG ⟨Z,h.pickT 6 [4,5] Z⟩ Z
 rintro _ _ ⟨rfl,h⟩;obtain rfl:=qe l;exact YY qa h trivial
def da(Ce:Option aS)(Cf:qG)(a:qn)(f:List Int):Nat->Bool->Int->Int->Int->Int->Int->Int->Option (Bool×Int×Int×Int×Int×Int×Int)|0,_,_,_,_,_,_,_=>U|n+1,b2,g,h,i8,i,c,b=>bif decide (b<(f.length:Int)) then(qF f b).bind fun m=>(Ce).bind fun p=>(p.view).bind fun u=>(qF u.links m).bind fun l=>(qF a.Aq l.Bk).bind fun v=>bif v then(qF a.Bb l.Bk).bind fun x=>(me n p.view Cf m x).bind fun(r,s)=>(qF a.Af l.Bk).bind fun y=>(pv n y r).bind fun k=>(nB n (⟨g,(⟨h,i8⟩:qg),(⟨i,c⟩:qg)⟩:ql) b2 k s).bind fun(d,t)=>da Ce Cf a f n t d.Bn d.Af.As d.Af.Be d.Bb.As d.Bb.Be (qj (b+1)) else da Ce Cf a f n b2 g h i8 i c (qj (b+1)) else V (b2,g,h,i8,i,c,b)
def iR(n:Nat)(Ce:Option aS)(Cf:qG)(Cg:List ql)(d:qn)(a:Int):Option (Bool×ql):=(fB n Cg a).bind fun(c,t)=>(bif t then(nB n (⟨a,(⟨0,0⟩:qg),(⟨0,0⟩:qg)⟩:ql) Cd (⟨c.Af.As,c.Af.Be⟩:qg) (⟨c.Bb.As,c.Bb.Be⟩:qg)).bind fun(b,g)=>V (g,b.Bn,b.Af.As,b.Af.Be,b.Bb.As,b.Bb.Be) else V (Cd,a,0,0,0,0)).bind fun(b1,h,i,k,l,m)=>(oH n Ce a).bind fun u=>(da Ce Cf d u n b1 h i k l m 0).bind fun(b2,p,r,i8,s,f,_)=>bif (!b2) then V (Cd,(⟨0,(⟨0,0⟩:qg),(⟨0,0⟩:qg)⟩:ql)) else V (An,(⟨p,(⟨r,i8⟩:qg),(⟨s,f⟩:qg)⟩:ql))
theorem yv{Ce:Option aS}{Cf:qG}{Cg:List ql}{f:qn}{R}(ha1:Ro w Ce cs1)(A:Ro w Cf cs2)(ha3:Ro w Cg cs3)(ha4:Ro w f cs4){r:Bool×ql}(F:iR n Ce Cf Cg f R=V r):qP prog 79 [gv Ce cs1,gv Cf cs2,gv Cg cs3,gv f cs4,vi R] w r:=by
 obtain⟨p1,rfl,s1⟩:=aM ha1;obtain rfl:=cQ A;obtain⟨_,_,rfl,s2⟩:=ha3;obtain⟨p3,k2,p4,k3,p5,k4,rfl,s3,s4,s5⟩:=dX ha4;refine zV 88 func79 Z fun h=>dE (qJ h Z Z fun _ g h=>qJ h Z Z fun _ i h=>cq Z (qi qa h Z Z Z fun _ k h=>X0 4 Z (dK (qC qa [0] [.tmp 21] z8) Z (qi qa h Z Z Z fun _ o h=>zs 0 h Z fun _ h=>OF (qi qa h Z Z Z fun _ p h=>zs 0 h Z fun _ h=>X0 6 Z ?_)))));obtain⟨⟨r2,r3⟩,hr1,F⟩:=qc F;refine bG (r2,r3) h (cB 52 Z) (nE ⟨_,_,Z,(h.oldS s2)⟩ hr1) Z Z Z Z fun _ _ _ hv1 hr2=>?_;obtain⟨S2,_,_,_,rfl,hv2,hr3⟩:=hv1.cons hr2;obtain rfl:=aB (hv2.sh.own 0 Z);obtain⟨rfl,h⟩:=hv2.lastB hr3;refine EK Z (qi qa h Z Z Z fun _ bb6 h=>zs 0 h Z fun _ h=>X0 6 Z ?_);obtain⟨KF1,hKF1,_,F,hK2⟩:=bindE F;refine bd (fun e w'=>∃b1 i1 i2 i3 i4 i5,KF1 (b1,i1,i2,i3,i4,i5)=V r/\e=[(0,.pointer p1),(4,vi R),(6,vp g),(8,vp i),(11,vp k),(12,vp o),(13,vp p)]/\SH w w' [oX p [.bool b1] 4,oX o [vi i1,vi i2,vi i3,vi i4,vi i5] 122,oX k N9 122,oX i (bF f p3 p4 p5 k2 k3 k4) 51,oX g (bZ Cf) 36]) ?_ ?_
 .refine qp Z F ?_ ?_<;>intro F
  .refine X2 5 0 0 h Z ?_;have h:=h.p [2,3,0,1,4,5,6] Z;obtain⟨⟨x9,x10⟩,hr43,F⟩:=qc F;refine xB (cB 130 Z) (vc h hr43) Z Z Z Z fun _ h=>?_;replace h:SH _ _ [oX p [.bool x10] 4,oX o (nk x9) 122,oX bb6 (nk r2) 122,oW S2 (r2:ql) (nk r2),oX k N9 122,oX i (bF f p3 p4 p5 k2 k3 k4) 51,oX g (bZ Cf) 36]:=h;refine ac ?_;have h:=h.p [0,1,4,5,6] Z;cases qe F;exact rG ⟨_,_,_,_,_,_,hK2,Z,h⟩ Z
  refine ez ?_;have h:=h.p [2,3,4,5,6] Z;cases qe F;exact rG ⟨_,_,_,_,_,_,hK2,Z,h⟩ Z
 rintro _ _ ⟨b1,i1,i2,i3,i4,i5,F,rfl,h⟩;subst hKF1;refine X0 5 Z (uj h F (uz (h.old s1)) Z fun D _ S5 p6 k5 h F=>X0 3 Z ?_);obtain⟨o1,F,hK1⟩:=qc F;refine qr (rL (fun m e w'=>∃b2 W X i8 Y B P,da Ce Cf f D m b2 W X i8 Y B P=V o1/\e=[(0,.pointer p1),(6,vp g),(8,vp i),(11,vp k),(12,vp o),(13,vp p),(37,oL p6 D k5),(38,vi (D.length:Int)),(39,vi P)]/\SH w w' [oW S5 (D:List Int) [oL p6 D k5],oX p [.bool b2] 4,oX o [vi W,vi X,vi i8,vi Y,vi B] 122,oX k N9 122,oX i (bF f p3 p4 p5 k2 k3 k4) 51,oX g (bZ Cf) 36]) n ⟨_,_,_,_,_,_,_,F,Z,h⟩ Z ?_);rintro m1 _ _ ⟨b2,W,X,i8,Y,B,P,F,rfl,h⟩;rcases m1 with _|m1
 .cases F
 refine X0 5 Z (qp Z F ?_ ?_)<;>intro F
 .refine lN ?_;obtain⟨_,_,F,he1,_,_,_,_,hp1,hq1,rfl,hc2⟩:=(h.sl 0 Z).1.ix F;refine zx hp1 hq1 ⟨he1.1,qD he1.2.1 (h.sl 0 Z).2⟩ Z (zc 0 hc2 Z (X0 5 Z ?_));obtain⟨_,hy2,F⟩:=qc F;obtain⟨b4,o_2,_,rfl,-,hr7,hc3⟩:=Cs s1 hy2;obtain⟨_,_,_,rfl,s6,_⟩:=fo hr7;refine lY Z (bN 0 hc3 h Z ?_);obtain⟨_,hy3,F⟩:=qc F;obtain⟨_,o_3,_,rfl,-,hr8,hc4⟩:=Cs s6 hy3;obtain⟨_,_,_,_,_,_,_,_,_,_,_,_,_,_,_,_,_,_,_,_,rfl,_,_,_,_,_,_,s14,_,_,_⟩:=cJ hr8;refine lY Z (bN 6 hc4 h Z (cq Z ?_));obtain⟨y4,_,F,he2,_,_,_,_,hp2,hq2,hr9,hc5⟩:=s14.ix F;obtain rfl:=aA hr9;refine fG hp2 hq2 he2 Z (cq Z (bN 0 hc5 h Z (X1 7 4 h Z ?_)));obtain⟨_,_,F,he3,_,_,_,_,hp3,hq3,rfl,hc6⟩:=s3.ix F;refine fG hp3 hq3 he3 Z (bN 0 hc6 h Z (ac (qp Z F ?_ ?_)))<;>intro F
  .refine au (rA [] [4,5] h Z fun _ h=>M0 7 [0,1,2] (h.p [4,5] Z) Z (Al 3 15 0 hc3 (h.p [4,5] Z) Z (M2 511 [4,5,6,7,8] 1 0 (h.p [4,5] Z) Z ?_)));obtain⟨y6,_,F,he4,_,_,_,_,hp4,hq4,hr11,hc8⟩:=s5.ix F;obtain rfl:=qA hr11;refine Ae 9 1023 hp4 hq4 he4 (h.p [4,5] Z) Z (Al 10 2047 0 hc8 (h.p [4,5] Z) Z ?_);obtain⟨⟨Q,T⟩,s,F⟩:=qc F;refine sg (fun e w'=>∃t u,e=[(0,.pointer (V ⟨b4,o_2,U⟩)),(11,vp k),(12,vp o),(13,vp p),(18,vi y4.Bk),(19,vp u),(20,vp t),(37,oL p6 D k5),(38,vi (D.length:Int)),(39,vi P),(6,vp g),(8,vp i)]/\SH w w' [oX t (oP T) 59,oX u (oP Q) 59,oW S5 (D:List Int) [oL p6 D k5],oX p [.bool b2] 4,oX o [vi W,vi X,vi i8,vi Y,vi B] 122,oX k N9 122,oX i (bF f p3 p4 p5 k2 k3 k4) 51,oX g (bZ Cf) 36]) 0 (bits 19 524287) ?_ ?_
   .intro K;refine pS 11 15 16 Z Z Z (bits 19 4095) (bits 19 34815) (bits 19 67583) (by kernel_rfl) (by kernel_rfl) (by kernel_rfl) (by kernel_rfl) ?_ ?_ ?_
    .refine bG (Q,T) h (cB 99 Z) (cI (h.old s6) (h.old A) (qI y6) s) Z Z Z Z fun w54 M y d b=>?_;obtain⟨N,O,v,z,rfl,a,c⟩:=d.cons b;obtain rfl:=qA (a.sh.own 0 Z);obtain⟨x,rfl,h⟩:=a.last c;obtain rfl:=qA (h.own 0 Z);refine G0 32767 [12,13,14] (h.p [6,7] Z) Z (At 15 16 65535 98303 Z ?_ ?_)
     .refine qi qa h Z Z Z fun H C h=>Ag (h.p [7,8] Z) (Ao 16 131071 Z (qi qa h Z Z Z fun I l h=>Ag (h.p [8,9] Z) (Ao 17 262143 Z (zs 1 h Z fun J h=>Ag (h.p [8,9] Z) (Ao 18 524287 Z (zs 0 h Z fun L h=>Ag (h.p [8,9] Z) ?_))))));have h:=h.p [0,1,4,5,6,7,8,9] Z;exact aK K ⟨_,_,Z,h⟩ Z
     refine qi qa h Z Z Z fun H C h=>Ag (h.p [7,8] Z) (Ao 15 131071 Z (qi qa h Z Z Z fun I l h=>Ag (h.p [8,9] Z) (Ao 17 262143 Z (zs 0 h Z fun J h=>Ag (h.p [8,9] Z) (Ao 18 524287 Z (zs 1 h Z fun L h=>Ag (h.p [8,9] Z) ?_))))));have h:=h.p [1,0,4,5,6,7,8,9] Z;exact aK K ⟨_,_,Z,h⟩ Z
    .refine qi qa h Z Z Z fun w54 C h=>Ag (h.p [5,6] Z) (At 11 16 36863 100351 Z ?_ ?_)
     .refine bG (Q,T) h (cB 99 Z) (cI (h.old s6) (h.old A) (qI y6) s) Z Z Z Z fun H M y d b=>?_;obtain⟨N,O,v,z,rfl,a,c⟩:=d.cons b;obtain rfl:=qA (a.sh.own 0 Z);obtain⟨x,rfl,h⟩:=a.last c;obtain rfl:=qA (h.own 0 Z);refine G0 65535 [12,13,14] (h.p [7,8] Z) Z (Ao 16 131071 Z (qi qa h Z Z Z fun I l h=>Ag (h.p [8,9] Z) (Ao 17 262143 Z (zs 3 h Z fun J h=>Ag (h.p [8,9] Z) (Ao 18 524287 Z (zs 0 h Z fun L h=>Ag (h.p [8,9] Z) ?_))))));have h:=h.p [0,3,4,5,6,7,8,9] Z;exact aK K ⟨_,_,Z,h⟩ Z
     refine qi qa h Z Z Z fun H l h=>Ag (h.p [6,7] Z) (Ao 11 102399 Z (bG (Q,T) h (cB 99 Z) (cI (h.old s6) (h.old A) (qI y6) s) Z Z Z Z fun I M y d b=>?_));obtain⟨N,O,v,z,rfl,a,c⟩:=d.cons b;obtain rfl:=qA (a.sh.own 0 Z);obtain⟨x,rfl,h⟩:=a.last c;obtain rfl:=qA (h.own 0 Z);refine G0 131071 [12,13,14] (h.p [8,9] Z) Z (Ao 17 262143 Z (zs 3 h Z fun J h=>Ag (h.p [8,9] Z) (Ao 18 524287 Z (zs 2 h Z fun L h=>Ag (h.p [8,9] Z) ?_))));have h:=h.p [2,3,4,5,6,7,8,9] Z;exact aK K ⟨_,_,Z,h⟩ Z
    refine qi qa h Z Z Z fun w54 C h=>Ag (h.p [5,6] Z) (At 11 15 69631 100351 Z ?_ ?_)
    .refine bG (Q,T) h (cB 99 Z) (cI (h.old s6) (h.old A) (qI y6) s) Z Z Z Z fun H M y d b=>?_;obtain⟨N,O,v,z,rfl,a,c⟩:=d.cons b;obtain rfl:=qA (a.sh.own 0 Z);obtain⟨x,rfl,h⟩:=a.last c;obtain rfl:=qA (h.own 0 Z);refine G0 98303 [12,13,14] (h.p [7,8] Z) Z (Ao 15 131071 Z (qi qa h Z Z Z fun I l h=>Ag (h.p [8,9] Z) (Ao 17 262143 Z (zs 0 h Z fun J h=>Ag (h.p [8,9] Z) (Ao 18 524287 Z (zs 3 h Z fun L h=>Ag (h.p [8,9] Z) ?_))))));have h:=h.p [3,0,4,5,6,7,8,9] Z;exact aK K ⟨_,_,Z,h⟩ Z
    refine qi qa h Z Z Z fun H l h=>Ag (h.p [6,7] Z) (Ao 11 102399 Z (bG (Q,T) h (cB 99 Z) (cI (h.old s6) (h.old A) (qI y6) s) Z Z Z Z fun I M y d b=>?_));obtain⟨N,O,v,z,rfl,a,c⟩:=d.cons b;obtain rfl:=qA (a.sh.own 0 Z);obtain⟨x,rfl,h⟩:=a.last c;obtain rfl:=qA (h.own 0 Z);refine G0 131071 [12,13,14] (h.p [8,9] Z) Z (Ao 17 262143 Z (zs 2 h Z fun J h=>Ag (h.p [8,9] Z) (Ao 18 524287 Z (zs 3 h Z fun L h=>Ag (h.p [8,9] Z) ?_))));have h:=h.p [3,2,4,5,6,7,8,9] Z;exact aK K ⟨_,_,Z,h⟩ Z
   rintro _ _ ⟨t,u,rfl,h⟩;refine Ad (rA [] [0,1,6] h Z fun _ h=>M1 7 [0,1,2] 2 (h.p [0,1,6] Z) Z ?_);obtain⟨y9,_,F,he7,_,_,_,_,hp7,hq7,hr40,hc11⟩:=s4.ix F;obtain rfl:=qA hr40;refine Ae 3 15 hp7 hq7 he7 (h.p [0,1,6] Z) Z (Al 4 31 0 hc11 (h.p [0,1,6] Z) Z (M2 191 [5,7] 1 0 (h.p [0,1,6] Z) Z (Ao 6 255 Z (qbE h F (xp (qI y9) (qI Q)) Z fun r10 _ S36 _ h F=>?_))));obtain rfl:=qA (h.own 0 Z);refine Ag (h.p [1,2,7] Z) (Ao 8 511 Z ?_);have h:=h.p [4,5,0,1,2,3,6,7,8] Z;obtain⟨⟨x7,x8⟩,hr42,F⟩:=qc F;refine xB (cB 130 Z) (vc h hr42) Z Z Z Z fun _ h=>?_;replace h:SH _ _ [oX p [.bool x8] 4,oX o (nk x7) 122,oW S36 (r10:qg) (oP r10),oX t (oP T) 59,oX u (oP Q) 59,oW S5 (D:List Int) [oL p6 D k5],oX k N9 122,oX i (bF f p3 p4 p5 k2 k3 k4) 51,oX g (bZ Cf) 36]:=h;refine Ag (h.p [3,4,7] Z) (Ad (X0 5 Z ?_));exact rK ⟨_,_,_,_,_,_,_,F,Z,h.p [5,0,1,6,7,8] Z⟩ Z
  exact X0 6 Z (rK ⟨_,_,_,_,_,_,_,F,Z,h⟩ Z)
 refine qx Z ?_;cases qe F;have F:=hK1;refine X1 6 1 h Z (qp Z F ?_ ?_)<;>intro F
 .refine dE (dK (qC qa [] [] z8) Z (cq Z (zs 3 h Z fun _ h=>ac ?_)));cases qe F;exact aq qa (ρ:=(Bool×ql)) [oV Bool [.bool Cd],oV ql N9] h ⟨Z,⟨_,_,_,Z,Z,h.box 3 Z,Z⟩,G⟩ (Cq h (ai h vk (pJ (lT (S:=fun _=>False) (dw (⟨0,(⟨0,0⟩:qg),(⟨0,0⟩:qg)⟩:ql)))) (by rfl)))
 refine E1 (rA [] [2] h Z fun _ h=>M1 3 [0,1] 0 (h.p [2] Z) Z (Ao 2 7 Z (zs 3 h Z fun _ h=>Ag (h.p [2] Z) (Ad ?_))));cases qe F;exact aq qa (ρ:=(Bool×ql)) [oV Bool [.bool An],oV ql [vi W,vi X,vi i8,vi Y,vi B]] h ⟨Z,⟨_,_,_,Z,Z,h.box 3 Z,Z⟩,G⟩ (Cq h (ai h vk (pJ (lT (S:=fun _=>False) (dw (⟨W,(⟨X,i8⟩:qg),(⟨Y,B⟩:qg)⟩:ql)))) (by rfl)))
def cm(g:Option aS)(c:qG)(l:List ql)(order:List Int):Nat->(List qg)->(List qg)->(List Bool)->Int->Option (eE (qn×Bool) ((List qg)×(List qg)×(List Bool)×Int))|0,_,_,_,_=>U|n+1,x1,f,h,d=>bif decide (d<(order.length:Int)) then(qF order d).bind fun a=>(iR n g c l (⟨h,f,x1⟩:qn) a).bind fun(i,b)=>(bif i then(pu n (⟨b.Af.As,b.Af.Be⟩:qg)).bind fun k=>V (!k) else V Cd).bind fun b3=>bif b3 then V (.ret ((⟨[],[],[]⟩:qn),Cd)) else(qF h a).bind fun _=>(qF f a).bind fun _=>(qF x1 a).bind fun _=>cm g c l order n (ak x1 a (⟨b.Bb.As,b.Bb.Be⟩:qg)) (ak f a (⟨b.Af.As,b.Af.Be⟩:qg)) (ak h a i) (qj (d+1)) else V (.nxt (x1,f,h,d))
def fQ(n:Nat)(g:Option aS)(c:qG)(f:List ql)(order:List Int):Option (qn×Bool):=(g).bind fun d=>(rM n d.view).bind fun r1=>(cm g c f order n r1.Bb r1.Af r1.Aq 0).bind fun|.ret r=>V r|.nxt (x1,a,b,_)=>V ((⟨b,a,x1⟩:qn),An)
theorem sQ{g:Option aS}{c:qG}{c5:List ql}{order:List Int}(S:Ro w g cs1)(B:Ro w c cs2)(T:Ro w c5 cs3)(W:Ro w order cs4){r:qn×Bool}(F:fQ n g c c5 order=V r):qP prog 36 [gv g cs1,gv c cs2,gv c5 cs3,gv order cs4] w r:=by
 obtain⟨_,rfl,s1⟩:=aM S;obtain rfl:=cQ B;obtain⟨p2,k1,rfl,s2⟩:=T;obtain⟨p3,k2,rfl,s3⟩:=W;refine zV 62 func36 Z fun h=>dE (qJ h Z Z fun _ a h=>qi qa h Z Z Z fun _ b h=>X0 5 Z ?_);obtain⟨_,c0,F⟩:=qc F;obtain⟨b1,P,_,rfl,-,a9,X⟩:=Cs s1 c0;obtain⟨_,_,_,rfl,s4,_⟩:=fo a9;refine lY Z (bN 0 X h Z (qbE h F (zk (h.old s4)) Z fun r1 _ _ _ h F=>?_));obtain⟨p,o,k,f,l,i,rfl,-,-,-⟩:=dX (h.own 0 Z);refine qi qa h Z Z Z fun _ d h=>zs 0 h Z fun _ h=>X0 8 Z ?_;have h:=h.p [1,0,2,3] Z;obtain⟨S2,S3,S4,h⟩:=oM h;obtain⟨o1,F,y⟩:=qc F;refine qr (rL (fun m e w'=>∃x1 u v Q,cm g c c5 order m x1 u v Q=V o1/\e=[(0,.pointer (V ⟨b1,P,U⟩)),(2,oL p2 c5 k1),(5,vp a),(8,vp b),(10,vp d),(20,oL p3 order k2),(21,vi (order.length:Int)),(22,vi Q)]/\SH w w' [oW S4 (x1:List qg) [oL l r1.Bb i],oW S3 (u:List qg) [oL k r1.Af f],oW S2 (v:List Bool) [oL p r1.Aq o],oX d (bF r1 p k l o f i) 51,oX b RF 51,oX a (bZ c) 36]) n ⟨_,_,_,_,F,Z,h⟩ Z ?_);rintro m1 _ _ ⟨x1,u,v,Q,F,rfl,h⟩;rcases m1 with _|m1
 .cases F
 refine X0 5 Z (qp Z F ?_ ?_)<;>intro F
 .refine lN ?_;obtain⟨y2,_,F,a6,_,_,_,_,a7,a8,rfl,Y⟩:=s3.ix F;refine fG a7 a8 a6 Z (bN 0 Y h Z (X2 9 5 3 h Z ?_));obtain⟨⟨r3,s⟩,b4,F⟩:=qc F;refine bG (r3,s) h (cB 79 Z) (yv (h.old s1) (h.old B) ⟨_,_,Z,(h.oldS s2)⟩ (show qm.R _ _ ((⟨v,u,x1⟩:qn):qn) _ from⟨[oL p r1.Aq o],[oL k r1.Af f,oL l r1.Bb i],Z,(h.own 2 Z),⟨[oL k r1.Af f],[oL l r1.Bb i],Z,(h.own 1 Z),(h.own 0 Z)⟩⟩) b4) Z Z Z Z fun _ _ _ b8 b5=>?_;obtain⟨_,_,rfl,b9,b6⟩:=b8.consB b5;obtain⟨_,rfl,h⟩:=b9.last b6;obtain rfl:=aB (h.own 0 Z);refine EK Z (qi qa h Z Z Z fun _ x h=>cq Z (zs 0 h Z fun _ h=>qbD ?_));obtain⟨R,A,_,F,z⟩:=bindE F;refine bd (fun e w'=>∃b3,R b3=V o1/\e=[(0,.pointer (V ⟨b1,P,U⟩)),(2,oL p2 c5 k1),(5,vp a),(8,vp b),(10,vp d),(12,vi y2),(13,.bool r3),(14,vp x),(20,oL p3 order k2),(21,vi (order.length:Int)),(22,vi Q),(41,.bool b3)]/\SH w w' [oX x (nk s) 122,oW S4 (x1:List qg) [oL l r1.Bb i],oW S3 (u:List qg) [oL k r1.Af f],oW S2 (v:List Bool) [oL p r1.Aq o],oX d (bF r1 p k l o f i) 51,oX b RF 51,oX a (bZ c) 36]) ?_ ?_
  .refine X0 3 Z (qh (t:=36) F Z ?_ ?_)<;>intro F
   .refine X1 5 0 h Z (dF h F (tB (qI _)) Z fun _ _ h F=>X0 4 Z ?_);have h:=h.p [0,2,3,4,5,6,7] Z;exact rH F z h Z
   refine X0 6 Z ?_;have h:=h.p [0,2,3,4,5,6,7] Z;exact rH F z h Z
  rintro _ _ ⟨b3,F,rfl,h⟩;subst A;refine qp Z F ?_ ?_<;>intro F
  .refine dE (dK (qC qa [] [] z8) Z (zs 5 h Z fun _ h=>X0 2 Z ?_));cases qe F;have F:=y;cases qe F;exact aq qa (ρ:=(qn×Bool)) [oV qn RF,oV Bool [.bool Cd]] h ⟨⟨_,_,_,Z,Z,h.box 5 Z,Z⟩,Z,G⟩ (Cq h (ai h (lI (⟨[],[],[]⟩:qn) h fc fc fc (by rfl) (by rfl)) ul (by rfl)))
  refine ez (rA [] [0,4] h Z fun _ h=>M4 8191 [0,1,2,3,4,5,6,7,8,9,10,11,12] 1 1 1 0 (h.p [0,4] Z) Z (M1 16383 [13] 0 (h.p [0,4] Z) Z ?_));obtain⟨_,c2,F,C,_,_,_,_,I,L,rfl,a3⟩:=(h.sl 3 Z).1.ix F;refine Ax 14 32767 I L ⟨C.1,qD C.2.1 (h.sl 3 Z).2⟩ (h.p [0,4] Z) Z (Ao 15 65535 Z (bK qa 3 0 r3 h Z c2 I L Z a3 Z Z Z Z Z Z Z fun _ h=>Ag (h.p [0,4] Z) ?_));obtain⟨y4,c3,F,D,_,_,_,_,J,M,b7,a4⟩:=(h.sl 2 Z).1.ix F;obtain rfl:=qA b7;refine Ax 16 131071 J M ⟨D.1,qD D.2.1 (h.sl 2 Z).2⟩ (h.p [0,4] Z) Z (Ao 17 262143 Z (bK qa 2 0 s.Af h Z c3 J M (qI y4) a4 Z Z Z (qI s.Af) Z Z Z fun _ h=>Ag (h.p [0,4] Z) ?_));obtain⟨y5,c4,F,H,_,_,_,_,K,N,O,a5⟩:=(h.sl 1 Z).1.ix F;obtain rfl:=qA O;refine Ax 18 524287 K N ⟨H.1,qD H.2.1 (h.sl 1 Z).2⟩ (h.p [0,4] Z) Z (Ao 19 1048575 Z (bK qa 1 0 s.Bb h Z c4 K N (qI y5) a5 Z Z Z (qI s.Bb) Z Z Z fun _ h=>Ag (h.p [0,4] Z) (Ad (X0 5 Z ?_))));exact rK ⟨_,_,_,_,F,Z,h.p [1,2,3,4,5,6] Z⟩ Z
 refine qx Z ?_;cases qe F;have F:=y;refine X1 3 3 h Z (zs 4 h Z fun _ h=>X0 2 Z ?_);cases qe F;exact aq qa (ρ:=(qn×Bool)) [oV qn (bF r1 p k l o f i),oV Bool [.bool An]] h ⟨⟨_,_,_,Z,Z,h.box 4 Z,Z⟩,Z,G⟩ (Cq h (ai h (lI (⟨v,u,x1⟩:qn) h (qS 2 h Z) (qS 1 h Z) (qS 0 h Z) (by rfl) (by rfl)) ul (by rfl)))
def lM(list:List Int)(x:Int):Nat->Int->Option (eE Bool Int)|0,_=>U|n+1,a=>bif decide (a<(list.length:Int)) then(qF list a).bind fun b=>bif (b==x) then V (.ret An) else lM list x n (qj (a+1)) else V (.nxt a)
def td(n:Nat)(list:List Int)(x:Int):Option Bool:=(lM list x n 0).bind fun|.ret r=>V r|.nxt _=>V Cd
theorem wQ{list:List Int}{x}(b:Ro w list cs1){r:Bool}(F:td n list x=V r):qP prog 171 [gv list cs1,vi x] w r:=by
 obtain⟨p1,l,rfl,s1⟩:=b;refine zV 18 func171 Z fun h=>X0 9 Z ?_;obtain⟨o1,F,a⟩:=qc F;refine qr (rL (fun m e w'=>∃i,lM list x m i=V o1/\e=[(0,oL p1 list l),(1,vi x),(5,vi i)]/\SH w w' []) n ⟨_,F,Z,h⟩ Z ?_);rintro k _ _ ⟨i,F,rfl,h⟩;rcases k with _|k
 .cases F
 refine X0 8 Z (qp Z F ?_ ?_)<;>intro F
 .refine X0 7 Z ?_;obtain⟨_,_,F,d,_,_,_,_,f,g,rfl,c⟩:=s1.ix F;refine fG f g d Z (bN 0 c h Z (X0 3 Z (qp Z F ?_ ?_)))<;>intro F
  .refine X0 4 Z ?_;cases qe F;exact rb h a Z
  exact X0 7 Z (rK ⟨_,F,Z,h⟩ Z)
 refine qx Z ?_;cases qe F;exact X0 4 Z (rb h a Z)
def kF(links:List qw)(c:List Int):Nat->(List Bool)->Int->Option ((List Bool)×Int)|0,_,_=>U|n+1,x1,a=>bif decide (a<(links.length:Int)) then(td n c a).bind fun r1=>(dj x1 ([(!r1)]:List Bool)).bind fun b=>kF links c n b (qj (a+1)) else V (x1,a)
def ov(n:Nat)(links:List qw)(a:List Int):Option (List Bool):=(kF links a n ([]:List Bool) 0).bind fun(x1,_)=>V x1
theorem oD{links:List qw}{t:List Int}(d:Ro w links cs1)(f:Ro w t cs2){r:List Bool}(F:ov n links t=V r):qP prog 107 [gv links cs1,gv t cs2] w r:=by
 obtain⟨p1,o,rfl,_⟩:=d;obtain⟨s,p,rfl,s2⟩:=f;refine zV 22 func107 Z fun h=>X0 6 Z (qv qa [] _ ([]:List Bool) h z9 trivial Z fun _ _ _ h=>X0 7 Z ?_);obtain⟨o1,F,c⟩:=qc F;refine qr (rL (fun m e w'=>∃S2 i b k3 x1 g,kF links t m x1 g=V o1/\e=[(0,oL p1 links o),(1,oL s t p),(5,oS i b k3),(6,vi g)]/\SH w w' [oW S2 (x1:List Bool) [oS i b k3]]) n ⟨_,_,_,_,_,_,F,Z,h⟩ Z ?_);rintro k _ _ ⟨S2,i,b,k3,x1,g,F,rfl,h⟩;obtain rfl:=(h.sl 0 Z).2;rcases k with _|k
 .cases F
 refine X0 8 Z (qp Z F ?_ ?_)<;>intro F
 .refine X0 7 Z (dF h F (wQ ⟨_,_,Z,(h.oldS s2)⟩) Z fun r1 _ h F=>cq Z (qv qa [.tmp 18] _ ([(!r1)]:List Bool) h z9 ⟨Z,G⟩ Z fun _ _ _ h=>?_));obtain⟨_,a,F⟩:=qc F;obtain⟨l,a⟩:=qH a;refine bo qa 1 h Z (h.sl 0 Z).1 (h.sl 0 Z).2 z9 l a Z fun _ _ _ _ h=>X0 8 Z ?_;exact rK ⟨_,_,_,_,_,_,F,Z,h.p [1] Z⟩ Z
 refine qx Z ?_;cases qe F;have F:=c;refine X0 5 Z ?_;cases qe F;exact rO 0 h Z ⟨Z,G⟩
def lV(n:Nat)(b:qf)(h:List Int):Option ((List Int)×Int):=(rt n b h).bind fun r1=>bif (r1 != 0) then V (([]:List Int),r1) else(iN n b).bind fun a=>(bT n b).bind fun c=>(ov n a h).bind fun d=>(oK n c a d).bind fun(f,g)=>bif (!g) then V (([]:List Int),7) else V (f,0)
theorem ye{b:qf}{v:List Int}(a:Ro w b cs1)(c:Ro w v cs2){r:(List Int)×Int}(F:lV n b v=V r):qP prog 216 [gv b cs1,gv v cs2] w r:=by
 obtain⟨_,_,_,_,_,_,_,_,_,_,rfl,_,_,_,_,_⟩:=qW a;obtain⟨_,_,rfl,p⟩:=c;refine zV 33 func216 Z fun h=>dE (qJ h Z Z fun _ _ h=>X1 8 0 h Z (mN h F (zZ (h.old a) ⟨_,_,Z,(h.oldS p)⟩) Z fun r1 _ h F=>X0 7 Z (qp Z F ?_ ?_)))<;>intro F
 .refine dE (qv qa [] _ ([]:List Int) h z9 trivial Z fun _ t _ h=>X0 4 Z ?_);cases qe F;exact aq qa (ρ:=((List Int)×Int)) [oV (List Int) [oS t 0 0],oV Int [vi r1]] h ⟨Z,Z,G⟩ (Cq h (ai h (qS 0 h Z) ul (by rfl)))
 refine X1 4 0 h Z (uj h F (lw (h.old a)) Z fun _ _ _ _ _ h F=>X1 5 1 h Z (mN h F (dL (h.old a)) Z fun _ _ h F=>EK Z (uj h F (oD (h.own 0 Z) ⟨_,_,Z,(h.oldS p)⟩) Z fun _ _ _ _ _ h F=>?_)));obtain⟨⟨o,u⟩,d,F⟩:=qc F;refine bG (o,u) h (cB 65 Z) (yP (h.own 1 Z) (h.own 0 Z) d) Z Z Z Z fun _ _ _ i f=>?_;obtain⟨_,_,l,s,_,rfl,k,g⟩:=i.consL f;obtain⟨rfl,h⟩:=k.lastB g;refine X0 12 Z (qp Z F ?_ ?_)<;>intro F
 .refine dE (qv qa [] _ ([]:List Int) h z9 trivial Z fun _ m _ h=>X0 3 Z ?_);cases qe F;exact aq qa (ρ:=((List Int)×Int)) [oV (List Int) [oS m 0 0],oV Int [vi 7]] h ⟨Z,Z,G⟩ (Cq h (ai h (qS 0 h Z) ul (by rfl)))
 refine X0 7 Z ?_;cases qe F;exact aq qa (ρ:=((List Int)×Int)) [oV (List Int) [oL l o s],oV Int [vi 0]] h ⟨Z,Z,G⟩ (Cq h (ai h (qS 0 h Z) ul (by rfl)))
def ru(n:Nat)(b:qf)(c:qG)(k:List Int)(l:List ql):Option ((List Int)×Int):=((kT n b).bind fun h=>bif (!h) then V An else(rY n c).bind fun i=>V (!i)).bind fun b1=>bif b1 then V (([]:List Int),1) else((rt n b k).bind fun f=>bif (f != 0) then V An else(oE n b l).bind fun g=>V (!g)).bind fun b2=>bif b2 then V (([]:List Int),2) else(lV n b k).bind fun(a,d)=>V (a,d)
theorem LN{b:qf}{c:qG}{a3:List Int}{a4:List ql}(a:Ro w b cs1)(l:Ro w c cs2)(p:Ro w a3 cs3)(s:Ro w a4 cs4){r:(List Int)×Int}(F:ru n b c a3 a4=V r):qP prog 165 [gv b cs1,gv c cs2,gv a3 cs3,gv a4 cs4] w r:=by
 obtain⟨p1,B,J,C,K,k3,L,D,M,H,rfl,_,_,_,_,_⟩:=qW a;obtain rfl:=cQ l;obtain⟨N,I,rfl,Q⟩:=p;obtain⟨T,R,rfl,Y⟩:=s;refine zV 35 func165 Z fun h=>dE (qJ h Z Z fun _ d h=>qJ h Z Z fun _ _ h=>X0 5 Z ?_);obtain⟨o,k,_,F,g⟩:=bindE F;refine bd (fun e w'=>∃b1,o b1=V r/\e=[(2,oL N a3 I),(3,oL T a4 R),(4,vp d),(17,.bool b1)]/\SH w w' [oX d (qN b p1 J K L M B C k3 D H) 34]) ?_ ?_
 .refine X1 2 1 h Z (dF h F (oC (h.old a)) Z fun _ _ h F=>lY Z (qh (t:=13) F Z ?_ ?_))<;>intro F
  .refine X0 5 Z ?_;have h:=h.p [1] Z;exact rH F g h Z
  refine X1 3 0 h Z (dF h F (IL (h.old l)) Z fun _ _ h F=>X0 4 Z ?_);have h:=h.p [1] Z;exact rH F g h Z
 rintro _ _ ⟨b1,F,rfl,h⟩;subst k;refine qp Z F ?_ ?_<;>intro F
 .refine dE (qv qa [] _ ([]:List Int) h z9 trivial Z fun _ W _ h=>X0 3 Z ?_);cases qe F;exact aq qa (ρ:=((List Int)×Int)) [oV (List Int) [oS W 0 0],oV Int [vi 1]] h ⟨Z,Z,G⟩ (Cq h (ai h (qS 0 h Z) ul (by rfl)))
 refine ZT ?_;obtain⟨m,i,_,F,f⟩:=bindE F;refine bd (fun e w'=>∃b2,m b2=V r/\e=[(2,oL N a3 I),(4,vp d),(28,.bool b2)]/\SH w w' [oX d (qN b p1 J K L M B C k3 D H) 34]) ?_ ?_
 .refine X1 3 0 h Z (mN h F (zZ (h.old a) ⟨_,_,Z,(h.oldS Q)⟩) Z fun _ _ h F=>lY Z (qh (t:=23) F Z ?_ ?_))<;>intro F
  .refine X0 6 Z ?_;exact rH F f h Z
  refine X1 5 0 h Z (dF h F (FH (h.old a) ⟨_,_,Z,(h.oldS Y)⟩) Z fun _ _ h F=>X0 4 Z ?_);exact rH F f h Z
 rintro _ _ ⟨b2,F,rfl,h⟩;subst i;refine qp Z F ?_ ?_<;>intro F
 .refine dE (qv qa [] _ ([]:List Int) h z9 trivial Z fun _ X _ h=>X0 3 Z ?_);cases qe F;exact aq qa (ρ:=((List Int)×Int)) [oV (List Int) [oS X 0 0],oV Int [vi 2]] h ⟨Z,Z,G⟩ (Cq h (ai h (qS 0 h Z) ul (by rfl)))
 refine X1 5 0 h Z ?_;obtain⟨⟨O,P⟩,u,F⟩:=qc F;refine bG (O,P) h (cB 216 Z) (ye (h.old a) ⟨_,_,Z,(h.oldS Q)⟩ u) Z Z Z Z fun _ _ _ y v=>?_;obtain⟨_,_,A,S,_,rfl,z,x⟩:=y.consL v;obtain⟨rfl,h⟩:=z.lastI x;refine X0 5 Z ?_;cases qe F;exact aq qa (ρ:=((List Int)×Int)) [oV (List Int) [oL A O S],oV Int [vi P]] h ⟨Z,Z,G⟩ (Cq h (ai h (qS 0 h Z) ul (by rfl)))
def bM(n:Nat)(b:qf)(c:qG)(l:List Int)(k:List ql):Option (qn×Int):=(ru n b c l k).bind fun(g,d)=>bif (d != 0) then V ((⟨[],[],[]⟩:qn),d) else(iN n b).bind fun f=>(ov n f l).bind fun h=>(xM n b c f h k g).bind fun(a,i)=>bif (!i) then V ((⟨[],[],[]⟩:qn),3) else V ((⟨a.Aq,a.Af,a.Bb⟩:qn),0)
theorem yL{b:qf}{c:qG}{a4:List Int}{a3:List ql}(a:Ro w b cs1)(f:Ro w c cs2)(Q:Ro w a4 cs3)(R:Ro w a3 cs4){r:qn×Int}(F:bM n b c a4 a3=V r):qP prog 105 [gv b cs1,gv c cs2,gv a4 cs3,gv a3 cs4] w r:=by
 obtain⟨_,_,_,_,_,_,_,_,_,_,rfl,_,_,_,_,_⟩:=qW a;obtain rfl:=cQ f;obtain⟨_,_,rfl,s6⟩:=Q;obtain⟨_,_,rfl,P⟩:=R;refine zV 45 func105 Z fun h=>dE (qJ h Z Z fun _ _ h=>qJ h Z Z fun _ _ h=>qi qa h Z Z Z fun _ A h=>X2 8 2 1 h Z ?_);obtain⟨⟨r2,r3⟩,S,F⟩:=qc F;refine bG (r2,r3) h (cB 165 Z) (LN (h.old a) (h.old f) ⟨_,_,Z,(h.oldS s6)⟩ ⟨_,_,Z,(h.oldS P)⟩ S) Z Z Z Z fun _ _ _ X T=>?_;obtain⟨_,_,_,_,_,rfl,Y,W⟩:=X.consL T;obtain⟨rfl,h⟩:=Y.lastI W;refine X0 12 Z (qp Z F ?_ ?_)<;>intro F
 .refine dE (dK (qC qa [] [] z8) Z (cq Z (zs 1 h Z fun _ h=>X0 2 Z ?_)));cases qe F;exact aq qa (ρ:=(qn×Int)) [oV qn RF,oV Int [vi r3]] h ⟨⟨_,_,_,Z,Z,h.box 1 Z,Z⟩,Z,G⟩ (Cq h (ai h (lI (⟨[],[],[]⟩:qn) h fc fc fc (by rfl) (by rfl)) ul (by rfl)))
 refine X1 4 3 h Z (uj h F (lw (h.old a)) Z fun _ _ _ _ _ h F=>X0 3 Z ?_);obtain⟨r5,K,F⟩:=qc F;obtain⟨⟨d,O⟩,v,F⟩:=qc F;refine bd (fun e w'=>∃u x l g y m i z o k,e=[(8,vp A),(13,vp u),(14,.bool O)]/\SH w w' [oX u (bF d o m l k i g) 51,oW x (d.Bb:List qg) [oL l d.Bb g],oW y (d.Af:List qg) [oL m d.Af i],oW z (d.Aq:List Bool) [oL o d.Aq k],oX A RF 51]) ?_ ?_
 .refine rA [] [3,4] h Z fun _ h=>M2 223 [0,1,2,3,4,6,7] 1 0 (h.p [3,4] Z) Z (At 5 12 255 4319 Z ?_ ?_)
  .refine tR r5 h (cB 107 Z) (oD (h.own 0 Z) ⟨_,_,Z,(h.oldS s6)⟩ K) Z Z Z Z fun _ _ _ _ h=>Ag (h.p [4,5] Z) (At 8 12 511 4351 Z ?_ ?_)
   .refine bG (d,O) h (cB 166 Z) (wR (h.old a) (h.old f) (h.own 1 Z) (h.own 0 Z) ⟨_,_,Z,(h.oldS P)⟩ (h.own 2 Z) v) Z Z Z Z fun _ _ _ L B=>?_;obtain⟨_,_,_,_,rfl,p,C⟩:=L.cons B;obtain⟨_,_,_,_,_,_,rfl,-,-,-⟩:=dX (p.sh.own 0 Z);obtain⟨rfl,h⟩:=p.lastB C;obtain⟨_,_,_,h⟩:=oM h;refine G0 4095 [9,10,11] (h.p [7,8] Z) Z (Ao 12 8191 Z (qi qa h Z Z Z fun _ _ h=>Ag (h.p [8,9] Z) (Ao 13 16383 Z (zs 0 h Z fun _ h=>G0 32767 [14] (h.p [8,9] Z) Z (Ad ?_)))));exact rG ⟨_,_,_,_,_,_,_,_,_,_,Z,h.p [0,1,2,3,7] Z⟩ Z
   refine qi qa h Z Z Z fun _ _ h=>Ag (h.p [5,6] Z) (Ao 8 4607 Z (bG (d,O) h (cB 166 Z) (wR (h.old a) (h.old f) (h.own 2 Z) (h.own 1 Z) ⟨_,_,Z,(h.oldS P)⟩ (h.own 3 Z) v) Z Z Z Z fun _ _ _ M D=>?_));obtain⟨_,_,_,_,rfl,s,H⟩:=M.cons D;obtain⟨_,_,_,_,_,_,rfl,-,-,-⟩:=dX (s.sh.own 0 Z);obtain⟨rfl,h⟩:=s.lastB H;obtain⟨_,_,_,h⟩:=oM h;refine G0 8191 [9,10,11] (h.p [8,9] Z) Z (Ao 13 16383 Z (zs 3 h Z fun _ h=>G0 32767 [14] (h.p [8,9] Z) Z (Ad ?_)));exact rG ⟨_,_,_,_,_,_,_,_,_,_,Z,h.p [3,0,1,2,7] Z⟩ Z
  refine qi qa h Z Z Z fun _ _ h=>Ag (h.p [4,5] Z) (Ao 5 4351 Z (tR r5 h (cB 107 Z) (oD (h.own 1 Z) ⟨_,_,Z,(h.oldS s6)⟩ K) Z Z Z Z fun _ _ _ _ h=>Ag (h.p [5,6] Z) (Ao 8 4607 Z (bG (d,O) h (cB 166 Z) (wR (h.old a) (h.old f) (h.own 2 Z) (h.own 0 Z) ⟨_,_,Z,(h.oldS P)⟩ (h.own 3 Z) v) Z Z Z Z fun _ _ _ N I=>?_))));obtain⟨_,_,_,_,rfl,t,J⟩:=N.cons I;obtain⟨_,_,_,_,_,_,rfl,-,-,-⟩:=dX (t.sh.own 0 Z);obtain⟨rfl,h⟩:=t.lastB J;obtain⟨_,_,_,h⟩:=oM h;refine G0 8191 [9,10,11] (h.p [8,9] Z) Z (Ao 13 16383 Z (zs 4 h Z fun _ h=>G0 32767 [14] (h.p [8,9] Z) Z (Ad ?_)));exact rG ⟨_,_,_,_,_,_,_,_,_,_,Z,h.p [4,0,1,2,7] Z⟩ Z
 rintro _ _ ⟨u,x,l,g,y,m,i,z,o,k,rfl,h⟩;refine X0 6 Z (qp Z F ?_ ?_)<;>intro F
 .refine dE (dK (qC qa [] [] z8) Z (zs 4 h Z fun _ h=>X0 2 Z ?_));cases qe F;exact aq qa (ρ:=(qn×Int)) [oV qn RF,oV Int [vi 3]] h ⟨⟨_,_,_,Z,Z,h.box 4 Z,Z⟩,Z,G⟩ (Cq h (ai h (lI (⟨[],[],[]⟩:qn) h fc fc fc (by rfl) (by rfl)) ul (by rfl)))
 refine X1 4 0 h Z (zs 4 h Z fun _ h=>X0 2 Z ?_);cases qe F;exact aq qa (ρ:=(qn×Int)) [oV qn (bF d o m l k i g),oV Int [vi 0]] h ⟨⟨_,_,_,Z,Z,h.box 4 Z,Z⟩,Z,G⟩ (Cq h (ai h (lI d h (qS 3 h Z) (qS 2 h Z) (qS 1 h Z) (by rfl) (by rfl)) ul (by rfl)))
def nT(n:Nat)(j:bg):Option ((Option aY)×Int):=(hY n (⟨(⟨j.Ac.Ar.Au⟩:qB),(⟨j.Ac.Aa.Ab,j.Ac.Aa.Am,j.Ac.Aa.Ai⟩:qk),j.Ac.Ah⟩:qf) (⟨j.Aj.Bh,j.Aj.Ba,j.Aj.Bd,j.Aj.Ay,j.Aj.Bc⟩:qG) j.Av j.Ap U).bind fun(a,b,c)=>bif (c != 0) then V (U,c) else(fQ n a (⟨j.Aj.Bh,j.Aj.Ba,j.Aj.Bd,j.Aj.Ay,j.Aj.Bc⟩:qG) j.Ap b).bind fun(d,f)=>bif (!f) then V (U,3) else V ((V (⟨a,(⟨(⟨(⟨j.Ac.Ar.Au⟩:qB),(⟨j.Ac.Aa.Ab,j.Ac.Aa.Am,j.Ac.Aa.Ai⟩:qk),j.Ac.Ah⟩:qf),(⟨j.Aj.Bh,j.Aj.Ba,j.Aj.Bd,j.Aj.Ay,j.Aj.Bc⟩:qG),j.Av,j.Ap⟩:bg),d,b⟩:aY)),0)
theorem NB{A}(hA:∀b,A b->old w b){j:bg}(g:qm.R w A j cs1){r:(Option aY)×Int}(F:nT n j=V r):FM prog 48 [gv j cs1] w A r:=by
 obtain⟨p1,R,z,y,u,k3,v,o,J,D,K,H,L,I,rfl,s1,s2,s3,s4,s5,s6,s7⟩:=dJ g;have hg:=Rg.start hA;refine kY func48 Z (m:=43) Z Z (fun h=>?_);refine dE (qJ h Z Z fun _ _ h=>X4 13 0 0 0 0 h Z ?_);obtain⟨⟨M,f,N⟩,S,F⟩:=qc F;refine pg (M,f,N) hg h (cB 35 Z) (vH (hg.regOld h) (sK _ (hg.inS h s1) (hg.inS h s2) (hg.inS h s3) (hg.inS h s4) (hg.inS h s5)) (mD _) ⟨_,_,Z,(hg.inS h s6)⟩ ⟨_,_,Z,(hg.inS h s7)⟩ Z S) Z Z Z Z fun _ _ _ a c b5 a4=>?_;have hL1:=h.ext c.below;have i:=Up.box 0 h c Z;have s8:=Up.S hg h c s1;have s9:=Up.S hg h c s2;have s10:=Up.S hg h c s3;have s11:=Up.S hg h c s4;have s12:=Up.S hg h c s5;have s13:=Up.S hg h c s6;have O:=Up.S hg h c s7;have s15:=Up.R hg h c g;have ha2:=Up.boxP (x:=j) hg 0 h c Z (hg.inR h g);have hb1:=h.below.trans (c.below.mono h.below.size);have h:=b5;obtain⟨_,_,rfl,T,a5⟩:=dA a4;obtain⟨p8,rfl,P⟩:=aM T;obtain⟨_,_,rfl,W,a6⟩:=dA a5;obtain⟨p9,k8,rfl,Q⟩:=W;obtain⟨_,rfl,X⟩:=mS a6;obtain rfl:=X;refine X0 14 Z (qp Z F ?_ ?_)<;>intro F
 .refine X0 6 Z ?_;obtain rfl:=qe F;have a7:la.Rs (ρ:=((Option aY)×Int)) h.wc (xC A w h.wc) (U,N) [oV (Option aY) [.pointer U],oV Int [vi N]]:=⟨_,_,Z,Z,⟨_,Z,Z⟩⟩;exact mR qa (ρ:=((Option aY)×Int)) (r:=(U,N)) [oV (Option aY) [.pointer U],oV Int [vi N]] (h.unbase a.below (show EL [] from trivial)) ⟨Z,Z,G⟩ a7
 refine X0 5 Z (bN 5 i h Z (cq Z (bN 11 i h Z (cq Z ?_))));obtain⟨⟨d,r7⟩,Y,F⟩:=qc F;refine bG (d,r7) h (cB 36 Z) (sQ (h.old (qm.mono P a.old)) (mD _) ⟨_,_,Z,(h.oldS (O.mono a.old))⟩ ⟨_,_,Z,(h.oldS (Q.mono a.old))⟩ Y) Z Z Z Z fun _ _ _ a8 e=>?_;obtain⟨_,_,_,_,rfl,C,a3⟩:=a8.cons e;obtain⟨p,k9,s,k,t,l,rfl,-,-,-⟩:=dX (C.sh.own 0 Z);obtain⟨rfl,h⟩:=C.lastB a3;refine EK Z (qi qa h Z Z Z fun _ _ h=>zs 0 h Z fun _ h=>X0 8 Z (qp Z F ?_ ?_))<;>intro F
 .refine X0 5 Z ?_;obtain rfl:=qe F;have a9:la.Rs (ρ:=((Option aY)×Int)) h.wc (xC A w h.wc) (U,3) [oV (Option aY) [.pointer U],oV Int [vi 3]]:=⟨_,_,Z,Z,⟨_,Z,Z⟩⟩;exact mR qa (ρ:=((Option aY)×Int)) (r:=(U,3)) [oV (Option aY) [.pointer U],oV Int [vi 3]] (h.unbase a.below ⟨fun _ h=>h,⟨fun _ h=>h,G⟩⟩) ⟨Z,Z,G⟩ a9
 refine X0 4 Z (bN 0 i h Z (X1 2 0 h Z (dK (qC qa [0,1,2,3] [.tmp 37,.tmp 38,.tmp 39,.tmp 40] z8) Z (qJ h Z Z fun _ B h=>X0 3 Z ?_))));obtain rfl:=qe F;have b4:la.Rs (ρ:=((Option aY)×Int)) h.wc (xC A w h.wc) ((V (⟨M,(⟨j.Ac,j.Aj,j.Av,j.Ap⟩:bg),d,f⟩:aY)),0) [oV (Option aY) [vp B],oV Int [vi 0]]:=⟨_,_,Z,(a.outR h (Rg.boxR (x:=(⟨M,(⟨j.Ac,j.Aj,j.Av,j.Ap⟩:bg),d,f⟩:aY)) 0 h Z (show qm.R _ _ ((⟨M,(⟨j.Ac,j.Aj,j.Av,j.Ap⟩:bg),d,f⟩:aY):aY) _ from⟨[.pointer p8],[oL p1 j.Ac.Ar.Au R,oL z j.Ac.Aa.Ab y,oL u j.Ac.Aa.Am k3,oL v j.Ac.Aa.Ai o,oL J j.Ac.Ah D,.string j.Aj.Bh,vi j.Aj.Ba,vi j.Aj.Bd,vi j.Aj.Ay,vi j.Aj.Bc,oL K j.Av H,oL L j.Ap I,oL p d.Aq k9,oL s d.Af k,oL t d.Bb l,oL p9 f k8],Z,(a.inR h P),⟨[oL p1 j.Ac.Ar.Au R,oL z j.Ac.Aa.Ab y,oL u j.Ac.Aa.Am k3,oL v j.Ac.Aa.Ai o,oL J j.Ac.Ah D,.string j.Aj.Bh,vi j.Aj.Ba,vi j.Aj.Bd,vi j.Aj.Ay,vi j.Aj.Bc,oL K j.Av H,oL L j.Ap I],[oL p d.Aq k9,oL s d.Af k,oL t d.Bb l,oL p9 f k8],Z,⟨[oL p1 j.Ac.Ar.Au R,oL z j.Ac.Aa.Ab y,oL u j.Ac.Aa.Am k3,oL v j.Ac.Aa.Ai o,oL J j.Ac.Ah D],[.string j.Aj.Bh,vi j.Aj.Ba,vi j.Aj.Bd,vi j.Aj.Ay,vi j.Aj.Bc,oL K j.Av H,oL L j.Ap I],Z,⟨[oL p1 j.Ac.Ar.Au R],[oL z j.Ac.Aa.Ab y,oL u j.Ac.Aa.Am k3,oL v j.Ac.Aa.Ai o,oL J j.Ac.Ah D],Z,⟨_,_,Z,(a.inS h s8)⟩,⟨[oL z j.Ac.Aa.Ab y,oL u j.Ac.Aa.Am k3,oL v j.Ac.Aa.Ai o],[oL J j.Ac.Ah D],Z,⟨[oL z j.Ac.Aa.Ab y],[oL u j.Ac.Aa.Am k3,oL v j.Ac.Aa.Ai o],Z,⟨_,_,Z,(a.inS h s9)⟩,⟨[oL u j.Ac.Aa.Am k3],[oL v j.Ac.Aa.Ai o],Z,⟨_,_,Z,(a.inS h s10)⟩,⟨_,_,Z,(a.inS h s11)⟩⟩⟩,⟨_,_,Z,(a.inS h s12)⟩⟩⟩,⟨[.string j.Aj.Bh,vi j.Aj.Ba,vi j.Aj.Bd,vi j.Aj.Ay,vi j.Aj.Bc],[oL K j.Av H,oL L j.Ap I],Z,⟨[.string j.Aj.Bh],[vi j.Aj.Ba,vi j.Aj.Bd,vi j.Aj.Ay,vi j.Aj.Bc],Z,Z,⟨[vi j.Aj.Ba],[vi j.Aj.Bd,vi j.Aj.Ay,vi j.Aj.Bc],Z,Z,⟨[vi j.Aj.Bd],[vi j.Aj.Ay,vi j.Aj.Bc],Z,Z,⟨[vi j.Aj.Ay],[vi j.Aj.Bc],Z,Z,Z⟩⟩⟩⟩,⟨[oL K j.Av H],[oL L j.Ap I],Z,⟨_,_,Z,(a.inS h s13)⟩,⟨_,_,Z,(a.inS h O)⟩⟩⟩⟩,⟨[oL p d.Aq k9,oL s d.Af k,oL t d.Bb l],[oL p9 f k8],Z,(Rg.ownR 2 h Z),⟨_,_,Z,(a.inS h Q)⟩⟩⟩⟩))),⟨_,Z,Z⟩⟩;exact mR qa (ρ:=((Option aY)×Int)) (r:=((V (⟨M,(⟨j.Ac,j.Aj,j.Av,j.Ap⟩:bg),d,f⟩:aY)),0)) [oV (Option aY) [vp B],oV Int [vi 0]] (h.unbase a.below ⟨fun _ h=>h,⟨fun _ h=>h,⟨fun _ h=>h,G⟩⟩⟩) ⟨Z,Z,G⟩ b4
def xq(_:Nat)(mode:Int):Option Bool:=bif (mode==0) then V An else V (mode==1)
theorem NA{mode}  {r:Bool}(F:xq n mode=V r):qP prog 51 [vi mode] w r:=by
 refine zV 9 func51 Z fun h=>X0 9 Z (qh (t:=5) F Z ?_ ?_)<;>intro F
 .exact X0 5 Z (rb h F Z)
 exact X0 7 Z (rb h F Z)
def dV(n:Nat)(j:bg)(mode:Int)(nodes:List Int):Option ((Option aY)×Int):=(nT n j).bind fun(a,b)=>bif (b != 0) then V (U,b) else(a).bind fun g=>(g.graph).bind fun h=>(eC n h.view).bind fun c=>(er n nodes 0 (qj (c-1))).bind fun d=>bif (!d) then V (U,4) else(xq n mode).bind fun f=>bif (!f) then V (U,2) else V (a,0)
theorem vy{A}(T:∀b,A b->old w b){j:bg}{mode}{nodes:List Int}(d:qm.R w A j cs1)(k:qm.R w A nodes cs2){r:(Option aY)×Int}(F:dV n j mode nodes=V r):FM prog 22 [gv j cs1,vi mode,gv nodes cs2] w A r:=by
 obtain⟨_,_,_,_,_,_,_,_,_,_,_,_,_,_,rfl,_,_,_,_,_,_,_⟩:=dJ d;obtain⟨_,_,rfl,Q⟩:=k;have S:=Rg.start T;refine kY func22 Z (m:=37) Z Z (fun h=>?_);refine dE (qJ h Z Z fun _ _ h=>X1 6 0 h Z ?_);obtain⟨⟨K,g⟩,p,F⟩:=qc F;refine pg (K,g) S h (cB 48 Z) (NB (S.regOld h) (S.inR h d) p) Z Z Z Z fun _ _ _ a c J x=>?_;have N:=h.ext c.below;have R:=Up.S S h c Q;have O:=h.below.trans (c.below.mono h.below.size);have h:=J;obtain⟨_,_,rfl,s,y⟩:=dA x;obtain⟨_,rfl,i⟩:=aM s;obtain⟨_,rfl,t⟩:=mS y;obtain rfl:=t;refine X0 14 Z (qp Z F ?_ ?_)<;>intro F
 .refine X0 6 Z ?_;obtain rfl:=qe F;have z:la.Rs (ρ:=((Option aY)×Int)) h.wc (xC A w h.wc) (U,g) [oV (Option aY) [.pointer U],oV Int [vi g]]:=⟨_,_,Z,Z,⟨_,Z,Z⟩⟩;exact mR qa (ρ:=((Option aY)×Int)) (r:=(U,g)) [oV (Option aY) [.pointer U],oV Int [vi g]] (h.unbase a.below (show EL [] from trivial)) ⟨Z,Z,G⟩ z
 refine X0 4 Z ?_;obtain⟨_,H,F⟩:=qc F;obtain⟨b1,f,_,rfl,-,u,l⟩:=Cs i H;obtain⟨_,_,_,_,_,_,_,_,_,_,_,_,_,_,_,_,_,_,_,_,_,_,_,rfl,L,_,_,_,_,_,_,_,_,_,_,_⟩:=sM u;refine lY Z (bN 0 l h Z ?_);obtain⟨_,I,F⟩:=qc F;obtain⟨_,P,_,rfl,-,v,o⟩:=Cs L I;obtain⟨_,_,_,rfl,M,_⟩:=fo v;refine lY Z (bN 0 o h Z (mN h F (hZ (h.old (qm.mono M a.old))) Z fun _ _ h F=>cq Z (dF h F (fj ⟨_,_,Z,(h.oldS (R.mono a.old))⟩) Z fun _ _ h F=>X0 3 Z (qp Z F ?_ ?_))))<;>intro F
 .refine X0 5 Z ?_;obtain rfl:=qe F;have B:la.Rs (ρ:=((Option aY)×Int)) h.wc (xC A w h.wc) (U,4) [oV (Option aY) [.pointer U],oV Int [vi 4]]:=⟨_,_,Z,Z,⟨_,Z,Z⟩⟩;exact mR qa (ρ:=((Option aY)×Int)) (r:=(U,4)) [oV (Option aY) [.pointer U],oV Int [vi 4]] (h.unbase a.below (show EL [] from trivial)) ⟨Z,Z,G⟩ B
 refine X0 3 Z (dF h F NA Z fun _ _ h F=>X0 3 Z (qp Z F ?_ ?_))<;>intro F
 .refine X0 5 Z ?_;obtain rfl:=qe F;have C:la.Rs (ρ:=((Option aY)×Int)) h.wc (xC A w h.wc) (U,2) [oV (Option aY) [.pointer U],oV Int [vi 2]]:=⟨_,_,Z,Z,⟨_,Z,Z⟩⟩;exact mR qa (ρ:=((Option aY)×Int)) (r:=(U,2)) [oV (Option aY) [.pointer U],oV Int [vi 2]] (h.unbase a.below (show EL [] from trivial)) ⟨Z,Z,G⟩ C
 refine X0 8 Z ?_;obtain rfl:=qe F;have D:la.Rs (ρ:=((Option aY)×Int)) h.wc (xC A w h.wc) (K,0) [oV (Option aY) [.pointer (V ⟨b1,f,U⟩)],oV Int [vi 0]]:=⟨_,_,Z,(a.outR h (a.inR h i)),⟨_,Z,Z⟩⟩;exact mR qa (ρ:=((Option aY)×Int)) (r:=(K,0)) [oV (Option aY) [.pointer (V ⟨b1,f,U⟩)],oV Int [vi 0]] (h.unbase a.below (show EL [] from trivial)) ⟨Z,Z,G⟩ D
def iP(n:Nat)(b:qf)(c:qG)(k:List Int)(i:List ql):Option (qn×Int):=(hY n b c k i U).bind fun(d,f,a)=>bif (a != 0) then V ((⟨[],[],[]⟩:qn),a) else(fQ n d c i f).bind fun(g,h)=>bif (!h) then V ((⟨[],[],[]⟩:qn),3) else V (g,0)
theorem yt{b:qf}{c:qG}{a4:List Int}{a3:List ql}(k:Ro w b cs1)(f:Ro w c cs2)(m:Ro w a4 cs3)(o:Ro w a3 cs4){r:qn×Int}(F:iP n b c a4 a3=V r):qP prog 10 [gv b cs1,gv c cs2,gv a4 cs3,gv a3 cs4] w r:=by
 obtain⟨_,_,_,_,_,_,_,_,_,_,rfl,_,_,_,_,_⟩:=qW k;obtain rfl:=cQ f;obtain⟨_,_,rfl,s6⟩:=m;obtain⟨_,_,rfl,S⟩:=o;refine zV 40 func10 Z fun h=>dE (qJ h Z Z fun _ _ h=>qJ h Z Z fun _ _ h=>qi qa h Z Z Z fun _ _ h=>X2 8 2 1 h Z ?_);have a:Rg (old w) w (old w) w:=.start (fun _ h=>h);obtain⟨⟨r2,r3,Q⟩,s,F⟩:=qc F;refine pg (r2,r3,Q) a h (cB 35 Z) (vH (a.regOld h) (a.inR h k) (a.inR h f) ⟨_,_,Z,(a.inS h s6)⟩ ⟨_,_,Z,(a.inS h S)⟩ Z s) Z Z Z Z fun _ _ _ g d I B=>?_;have i:=h.ext d.below;have s8:=Up.S a h d S;have p:=Up.box 1 h d Z;have s9:=Up.R a h d f;have T:=Up.boxP (x:=c) a 1 h d Z (a.inR h f);have Y:=Up.box 0 h d Z;have W:=Up.boxP (x:=(⟨[],[],[]⟩:qn)) a 0 h d Z (KK (⟨[],[],[]⟩:qn) uP uP uP);have X:=h.below.trans (d.below.mono h.below.size);have h:=I;obtain⟨_,_,rfl,t,C⟩:=dA B;obtain⟨_,rfl,O⟩:=aM t;obtain⟨_,_,rfl,u,D⟩:=dA C;obtain⟨_,_,rfl,P⟩:=u;obtain⟨_,rfl,v⟩:=mS D;obtain rfl:=v;refine X0 14 Z (qp Z F ?_ ?_)<;>intro F
 .refine dE (dK (qC qa [] [] z8) Z (cq Z ?_));have h:=SH.back i h (show EL [] from trivial);refine zs 0 h Z fun _ h=>X0 2 Z ?_;have h:=h.unbase a.below ⟨fun _ h=>h,⟨fun _ h=>h,⟨fun _ h=>h,G⟩⟩⟩;cases qe F;exact aq qa (ρ:=(qn×Int)) [oV qn RF,oV Int [vi Q]] h ⟨⟨_,_,_,Z,Z,h.box 0 Z,Z⟩,Z,G⟩ (Cq h (ai h (lI (⟨[],[],[]⟩:qn) h fc fc fc (by rfl) (by rfl)) ul (by rfl)))
 refine X0 4 Z (bN 0 p h Z (lY Z ?_));obtain⟨⟨R,r7⟩,y,F⟩:=qc F;refine bG (R,r7) h (cB 36 Z) (sQ (h.old (qm.mono O g.old)) (h.old (qm.mono s9 g.old)) ⟨_,_,Z,(h.oldS (s8.mono g.old))⟩ ⟨_,_,Z,(h.oldS (P.mono g.old))⟩ y) Z Z Z Z fun _ _ _ H z=>?_;obtain⟨_,_,_,_,rfl,l,A⟩:=H.cons z;obtain⟨L,e,M,J,N,K,rfl,-,-,-⟩:=dX (l.sh.own 0 Z);obtain⟨rfl,h⟩:=l.lastB A;refine EK Z (qi qa h Z Z Z fun _ _ h=>zs 0 h Z fun _ h=>X0 8 Z (qp Z F ?_ ?_))<;>intro F
 .refine dE (dK (qC qa [] [] z8) Z ?_);have h:=SH.back i h ⟨fun _ h=>h,⟨fun _ h=>h,G⟩⟩;refine zs 2 h Z fun _ h=>X0 2 Z ?_;have h:=h.unbase a.below ⟨fun _ h=>h,⟨fun _ h=>h,⟨fun _ h=>h,⟨fun _ h=>h,⟨fun _ h=>h,G⟩⟩⟩⟩⟩;cases qe F;exact aq qa (ρ:=(qn×Int)) [oV qn RF,oV Int [vi 3]] h ⟨⟨_,_,_,Z,Z,h.box 2 Z,Z⟩,Z,G⟩ (Cq h (ai h (lI (⟨[],[],[]⟩:qn) h fc fc fc (by rfl) (by rfl)) ul (by rfl)))
 refine X1 4 0 h Z ?_;have h:=SH.back i h ⟨fun _ h=>h,⟨fun _ h=>h,G⟩⟩;refine zs 2 h Z fun _ h=>X0 2 Z ?_;have h:=h.unbase a.below ⟨fun _ h=>h,⟨fun _ h=>h,⟨fun _ h=>h,⟨fun _ h=>h,⟨fun _ h=>h,G⟩⟩⟩⟩⟩;cases qe F;exact aq qa (ρ:=(qn×Int)) [oV qn (bF R L M N e J K),oV Int [vi 0]] h ⟨⟨_,_,_,Z,Z,h.box 2 Z,Z⟩,Z,G⟩ (Cq h (ai h (qS 1 h Z) ul (by rfl)))
end Go.Fw


namespace Go.Fw
open Go
set_option maxRecDepth 100000
theorem RU{n m:Nat}{a b mode:Int}:mz n a b mode=fW m a b mode:=by
 unfold mz fW;cases L7 a b with
 |none=>rfl
 |some y1=>
  cases LF a b with
  |none=>rfl
  |some y2=>
   simp only[jd];generalize decide (y2<0)=p;generalize decide (y2 > 0)=q;generalize (mode==0)=m0;generalize (mode==1)=m1;cases p<;>cases q<;>cases m0<;>cases m1<;>rfl
theorem Z2{a b:Int}(f:0<b):-(if a<0 then -a else a)<=a.tdiv b/\a.tdiv b<=(if a<0 then -a else a):=by
 by_cases h:a<0
 .rw[if_pos h];have e:a.tdiv b=-((-a).tdiv b):=by rw[Int.neg_tdiv,Int.neg_neg]
  rw[e,jM (show 0<=-a by omega)];have c:=Int.ediv_nonneg (show 0<=-a by omega) (show 0<=b by omega);have d:=Int.ediv_le_self (a:=-a) b (by omega);omega
 .rw[if_neg h,jM (by omega)];have c:=Int.ediv_nonneg (show 0<=a by omega) (show 0<=b by omega);have d:=Int.ediv_le_self (a:=a) b (by omega);omega
theorem wB{n:Nat}{a b mode:Int}(d:0<b)(g:-9000000000000000000<=a)(h:a<=9000000000000000000):fW n a b mode=V (lW a b mode):=by
 have c:=Z2 (a:=a) d;have i:-9000000000000000000<=a.tdiv b/\a.tdiv b<=9000000000000000000:=by
  revert c;split<;>intro c<;>omega
 unfold fW L7 LF lW;rw[if_neg (by omega),if_neg (by omega)];have f:IntKind.i64.wrap (a.tdiv b)=a.tdiv b:=qY (by omega) (by omega);simp only[f,jd];rw[wO (a.tdiv b-1),wO (a.tdiv b+1)];generalize decide (a.tmod b<0)=p;generalize decide (a.tmod b > 0)=q;generalize (mode==0)=m0;generalize (mode==1)=m1;cases p<;>cases q<;>cases m0<;>cases m1<;>rfl
theorem xk{a b mode M:Int}(d:0<b)(c:0<=a)(h:a<=b*M):0<=lW a b mode/\lW a b mode<=M:=by
 rw[ze c d];have e:=Int.emod_add_mul_ediv a b;have k:=Int.emod_nonneg a (show b≠0 by omega);have g:=Int.ediv_nonneg c (show 0<=b by omega);have i:a / b<=M:=Int.ediv_le_of_le_mul d (by rw[Int.mul_comm];exact h);split
 .rename_i hc
  refine⟨by omega,?_⟩;have:a / b<M:=by
   refine Int.lt_of_not_ge fun l=>?_;have f:a / b=M:=by omega
   rw[f] at e;omega
  omega
 .exact⟨g,i⟩
structure O3(ax:List Int):Prop where
 lo:1<=ax.length
 hi:ax.length<=4
 at_:∀j,j<ax.length->0<=bO ax j/\bO ax j<=100000
 inc:∀j i,i<j->j<ax.length->bO ax i<bO ax j
theorem UD{b:List Int}(h:un b=An):O3 b:=by
 unfold un zo HT at h;simp only[je,decide_eq_true_eq] at h;obtain⟨⟨m,n⟩,k,l⟩:=h;rw[pn (d:=0),aG] at k;rw[aG] at l;refine⟨m,n,fun j f=>by have:=k j f;rw[bV] at this;exact this,fun j=>?_⟩
 induction j with
 |zero=>intro i hi _;omega
 |succ j ih=>
  intro i hi f;have a:=l (j+1) f;unfold xO at a;simp only[Bool.or_eq_true,decide_eq_true_eq,Nat.add_sub_cancel] at a;have g:bO b j<bO b (j+1):=by
   rcases a with a|a
   .omega
   .exact a
  by_cases c:i=j
  .rw[c];exact g
  .have:=ih i (by omega) (by omega);omega
theorem qdh{P:Nat->Prop}:∀m,P m->∃p,p<=m/\P p/\∀k,k<p->¬ P k:=by
 intro m
 induction m using Nat.strongRecOn with
 |ind m ih=>
  intro f;by_cases h:∃k,k<m/\P k
  .obtain⟨k,a,b⟩:=h;obtain⟨p,g,c,d⟩:=ih k a b;exact⟨p,by omega,c,d⟩
  .exact⟨m,jf _,f,fun k a b=>h ⟨k,a,b⟩⟩
structure Wt(ax:List Int)(i:Nat)(a b:Int):Prop where
 il:i<ax.length
 a0:0<a
 a1:a<=100000
 b0:0<=b
 b1:b<=100000
 nx:0<b->i+1<ax.length
 one:b=0->a=1
def N7(i:Nat)(a b:Int):List cx:=if b=0 then[⟨(i:Int),1⟩] else[⟨(i:Int),a⟩,⟨((i+1:Nat):Int),b⟩]
def XW(a:List Int)(x:Int):Int:=if bO a (a.length-1)<(if bO a 0 > x then bO a 0 else x) then bO a (a.length-1) else(if bO a 0 > x then bO a 0 else x)
theorem qaH{m:Nat}(h:m<=8):qbn .u64 (IntKind.wrap .u64 (qj (m:Int))) 1=V ((m / 2:Nat):Int):=by
 rcases (by omega:m=0\/m=1\/m=2\/m=3\/m=4\/m=5\/m=6\/m=7\/m=8) with e|e|e|e|e|e|e|e|e<;>rw[e]<;>rfl
theorem M6{a:List Int}(h:O3 a){c:Int}{p:Nat}(s:p<a.length)(z:c<=bO a p)(t:∀k,k<p->bO a k<c) :
  Ev (fun n=>gV n a c) ((p:Int),(bO a p==c)):=by
 have y:=h.hi;have b:∀d i j,j-i<=d->i<=p->p<=j->j<=a.length->Ev (fun n=>bx a c n (i:Int) (j:Int)) ((p:Int),(p:Int)):=by
  intro d
  induction d with
  |zero=>
   intro i j u hi m o;refine Cm ?_;simp only[bx,qu (show j<=i by omega),Cj];rw[show i=p by omega,show j=p by omega];exact .done
  |succ d ih=>
   intro i j u hi m o;refine Cm ?_;by_cases g:i<j
   .have r:(i+j) / 2<a.length:=by omega
    simp only[bx,qq g,Ci,<-Int.natCast_add,qaH (show i+j<=8 by omega),jd,qY (x:=(((i+j) / 2:Nat):Int)) (by omega) (by omega),aX r,wz,sj,bne_self_eq_false,Cj,sf (show(i+j) / 2<9223372036854775807 by omega)];by_cases f:bO a ((i+j) / 2)<c
    .refine Cr (by simpa using f) (ih _ _ (by omega) ?_ m o);refine Nat.lt_of_not_le fun l=>?_;by_cases v:p=(i+j) / 2
     .rw[<-v] at f;omega
     .have:=h.inc ((i+j) / 2) p (by omega) r;omega
    .refine Cp (by simpa using f) (ih _ _ (by omega) hi ?_ (by omega));refine Nat.le_of_not_lt fun l=>f (t _ l)
   .simp only[bx,qu (show j<=i by omega),Cj];rw[show i=p by omega,show j=p by omega];exact .done
 unfold gV;refine Ck (b a.length 0 a.length (by omega) (by omega) (by omega) (jf _)) ?_;simp only[qq s,Ci,aX s,jd,oh,bne_self_eq_false,Cj];cases bO a p==c<;>exact .done
def qd1(d:List Int)(i:Nat)(a b c:Int):Prop:=(b=0/\bO d i=c)\/(0<b/\a=bO d (i+1)-c/\b=c-bO d i)
theorem OD{f:List Int}(h:O3 f)(x:Int):∃i a b,Wt f i a b/\qd1 f i a b (XW f x)/\Ev (fun n=>gO n f x) ((i:Int),a,b)/\Ev (fun n=>mB n f x) (N7 i a b,a+b):=by
 have M:=h.lo;have I:=h.hi;have L:bO f 0<=bO f (f.length-1):=by
  by_cases D:f.length-1=0
  .rw[D];exact jV _
  .have:=h.inc (f.length-1) 0 (by omega) (by omega);omega
 obtain⟨c,v⟩:∃c,c=XW f x:=⟨_,Z⟩;have y:bO f 0<=c/\c<=bO f (f.length-1):=by
  rw[v];unfold XW;split<;>split at *<;>omega
 obtain⟨p,Q,s,z⟩:=qdh (P:=fun k=>c<=bO f k) (f.length-1) y.2;have o:p<f.length:=by omega
 have t:∀k,k<p->bO f k<c:=fun k K=>by have:=z k K;omega
 have C:=M6 h o s t;have l:(if bO f (f.length-1)<(if bO f 0 > x then bO f 0 else x) then bO f (f.length-1) else(if bO f 0 > x then bO f 0 else x))=c:=v.symm;have g:qj ((f.length:Int)-1)=((f.length-1:Nat):Int):=by rw[mM (by omega)];omega
 have T:=h.at_ p o;have m:∀(R:Int×Int×Int),Ev (fun n=>dC f x (bO f 0) (bO f (f.length-1)) n (p:Int)) (.ret R)->Ev (fun n=>gO n f x) R:=by
  intro R F;have u:∀d j,j=p+d->j<f.length->Ev (fun n=>dC f x (bO f 0) (bO f (f.length-1)) n (j:Int)) (.ret R):=by
   intro d
   induction d with
   |zero=>intro j J _;rw[show j=p by omega];exact F
   |succ d ih=>
    intro j J B;have H:=h.inc j p (by omega) B;refine Cm ?_;simp only[dC,show decide ((j:Int)>=0)=An from decide_eq_true (by omega),Ci,aX B,jd,l];refine Cp (beq_eq_false_iff_ne.2 (by omega)) (Cp (decide_eq_false (by omega)) ?_);rw[show(j:Int)-1=((j-1:Nat):Int) by omega,qY (by omega) (by omega)];exact ih (j-1) (by omega) (by omega)
  unfold gO;rw[show(0:Int)=((0:Nat):Int) from rfl,aX (show 0<f.length by omega),g,aX (show f.length-1<f.length by omega)];simp only[jd];exact Ck (u (f.length-1-p) (f.length-1) (by omega) (by omega)) .done
 by_cases r:bO f p=c
 .refine⟨p,1,0,⟨o,by omega,by omega,by omega,by omega,fun h=>absurd h (by omega),fun _=>rfl⟩,v ▸ .inl ⟨Z,r⟩,m _ (Cm ?_),?_⟩
  .simp only[dC,show decide ((p:Int)>=0)=An from decide_eq_true (by omega),Ci,aX o,jd,l];exact Cr (beq_iff_eq.2 r.symm) .done
  .unfold mB;rw[show(0:Int)=((0:Nat):Int) from rfl,aX (show 0<f.length by omega),g,aX (show f.length-1<f.length by omega)];simp only[jd,l];exact Ck C (Cr (beq_iff_eq.2 r) (Cx Z))
 .have O:0<p:=by
   refine Nat.pos_of_ne_zero fun e=>r ?_;rw[e] at s⊢;omega
  have N:=t (p-1) (by omega);have S:=h.at_ (p-1) (by omega);have A:((p:Int)-1)=((p-1:Nat):Int):=by omega
  refine⟨p-1,bO f p-c,c-bO f (p-1),⟨by omega,by omega,by omega,by omega,by omega,fun _=>by omega,fun h=>absurd h (by omega)⟩,v ▸ .inr ⟨by omega,by rw[show p-1+1=p by omega],Z⟩,m _ (Cm ?_),?_⟩
  .simp only[dC,show decide ((p:Int)>=0)=An from decide_eq_true (by omega),Ci,aX o,jd,l];refine Cp (beq_eq_false_iff_ne.2 (by omega)) (Cp (decide_eq_false (by omega)) ?_);rw[A,qY (x:=((p-1:Nat):Int)) (by omega) (by omega)];refine Cm ?_;simp only[dC,show decide (((p-1:Nat):Int)>=0)=An from decide_eq_true (by omega),Ci,aX (show p-1<f.length by omega),jd,l];refine Cp (beq_eq_false_iff_ne.2 (by omega)) (Cr (decide_eq_true (by omega)) ?_);rw[sf (show p-1<9223372036854775807 by omega),show p-1+1=p by omega,aX o];simp only[jd];rw[wO (bO f p-c),wO (c-bO f (p-1))];exact .done
  .unfold mB;rw[show(0:Int)=((0:Nat):Int) from rfl,aX (show 0<f.length by omega),g,aX (show f.length-1<f.length by omega)];simp only[jd,l];refine Ck C (Cp (beq_eq_false_iff_ne.2 r) ?_);rw[aX o,A,qY (x:=((p-1:Nat):Int)) (by omega) (by omega),aX (show p-1<f.length by omega)];simp only[jd];rw[wO (bO f p-c),wO (c-bO f (p-1)),wO (bO f p-bO f (p-1))];refine Cx ?_;unfold N7;rw[if_neg (by omega),show p-1+1=p by omega]
   congr 2
   omega

structure EO(t:aa):Prop where
 s:O3 t.Bp
 l:O3 t.Bm
 n:t.Bi.length=t.Bp.length*t.Bm.length
 v:∀k,-1000000<=bO t.Bi k/\bO t.Bi k<=1000000
theorem A3{xs:List Int}{k:Nat}(h:¬ k<xs.length):bO xs k=0:=by simp[bO,jz,List.getElem?_eq_none (show xs.length<=k by omega)]
theorem N3{t:aa}(h:wU t=An):EO t:=by
 unfold wU at h;simp only[je,decide_eq_true_eq] at h;obtain⟨c,f,g,a⟩:=h;rw[pn (d:=0),aG] at a;refine⟨UD c,UD f,g,fun k=>?_⟩;by_cases b:k<t.Bi.length
 .have:=a k b;rw[bV] at this;exact this
 .rw[A3 b];omega
def tv(t:aa)(i j:Nat):Int:=bO t.Bi (i*t.Bm.length+j)
theorem YP{x y Y:Int}(a:0<=x)(c:-Y<=y)(d:y<=Y):-(x*Y)<=x*y/\x*y<=x*Y:=by
 have f:=Int.mul_le_mul_of_nonneg_left d a;have b:=Int.mul_le_mul_of_nonneg_left c a;rw[Int.mul_neg] at b;exact⟨b,f⟩
theorem qaY{w q v:Int}(d:0<=w)(w1:w<=100000)(b:0<=q)(c:q<=100000)(h:-1000000<=v)(i:v<=1000000):(0<=w*q/\w*q<=10000000000)/\(-10000000000000000<=w*q*v/\w*q*v<=10000000000000000):=by
 have a:=jU d b;have f:w*q<=100000*100000:=Jb w1 c b (by omega);have g:=YP (x:=w*q) (y:=v) (Y:=1000000) a (by omega) (by omega);refine⟨⟨a,by omega⟩,?_,?_⟩<;>omega
theorem qbP{t:aa}{i j:Nat}(h:EO t)(hi:i<t.Bp.length)(f:j<t.Bm.length):i*t.Bm.length+j<t.Bi.length/\t.Bi.length<=16:=by
 have a:=h.s.hi;have b:=h.l.hi;have c:(i+1)*t.Bm.length<=t.Bp.length*t.Bm.length:=jt _ hi;have d:t.Bp.length*t.Bm.length<=4*4:=Nat.mul_le_mul a b;rw[h.n];rw[Nat.add_mul] at c;omega
theorem qbV{t:aa}(h:EO t){i j c k:Nat}{a1 b1 a2 b2 w q s:Int}(H:c<2)(I:k<2)(B:w=if c=1 then b1 else a1)(f:q=if k=0 then a2 else b2)
  (F:0<=w) (w1:w<=100000) (C:0<=q) (D:q<=100000) (hi:0<w->i+c<t.Bp.length) (z:0<q->j+k<t.Bm.length) (s0:-1000000000000000000<=s) (s1:s<=1000000000000000000) (n:Nat) :
  fL t (i:Int) a1 b1 (j:Int) a2 b2 (c:Int) (n+1) s (k:Int)=fL t (i:Int) a1 b1 (j:Int) a2 b2 (c:Int) n (s+w*q*tv t (i+c) (j+k)) ((k+1:Nat):Int):=by
 have l:=h.v ((i+c)*t.Bm.length+(j+k));obtain⟨⟨L,M⟩,N,O⟩:=qaY F w1 C D l.1 l.2;have o:(bif ((c:Int)==1) then V b1 else V a1)=V w:=by
  rw[B];by_cases a:c=1
  .rw[if_pos a,a];rfl
  .rw[if_neg a,show((c:Int)==1)=Cd from beq_eq_false_iff_ne.2 (by omega)];rfl
 have p:(bif ((k:Int)==0) then V (qj (w*a2)) else V (qj (w*b2)))=V (w*q):=by
  have m:qj (w*q)=w*q:=qY (by omega) (by omega);by_cases a:k=0
  .rw[if_pos a] at f;rw[a,<-f,m];rfl
  .rw[if_neg a] at f;rw[show((k:Int)==0)=Cd from beq_eq_false_iff_ne.2 (by omega),<-f,m];rfl
 rw[fL];simp only[show decide ((k:Int)<2)=An from decide_eq_true (by omega),Ci,o,p,jd,wS k];by_cases d:w*q > 0
 .have b:0<w:=by
   by_cases e:w=0
   .rw[e,Int.zero_mul] at d;omega
   .omega
  have g:0<q:=by
   by_cases e:q=0
   .rw[e,Int.mul_zero] at d;omega
   .omega
  obtain⟨x1,P⟩:=qbP h (hi b) (z g);have J:=h.l.hi;have K:=h.s.hi;have y:=hi b;have A:((i+c:Nat):Int)*(t.Bm.length:Int)=(((i+c)*t.Bm.length:Nat):Int):=(Int.natCast_mul _ _).symm;have u:qj (qj (qj (qj ((i:Int)+(c:Int))*(t.Bm.length:Int))+(j:Int))+(k:Int))=(((i+c)*t.Bm.length+(j+k):Nat):Int):=by
   rw[wO ((i:Int)+(c:Int)),<-Int.natCast_add,A,qY (x:=(((i+c)*t.Bm.length:Nat):Int)) (by omega) (by omega),<-Int.natCast_add,qY (x:=(((i+c)*t.Bm.length+j:Nat):Int)) (by omega) (by omega),<-Int.natCast_add,qY (by omega) (by omega),Nat.add_assoc]
  rw[show decide (w*q > 0)=An from decide_eq_true d,u,aX x1];simp only[Ci,jd];have r:qj (s+qj (w*q*bO t.Bi ((i+c)*t.Bm.length+(j+k))))=s+w*q*tv t (i+c) (j+k):=by
   unfold tv;rw[qY (x:=w*q*bO t.Bi ((i+c)*t.Bm.length+(j+k))) (by omega) (by omega),qY (by omega) (by omega)]
  rw[r]
 .have v:w*q=0:=by omega
  rw[show decide (w*q > 0)=Cd from decide_eq_false d,v,Int.zero_mul,Jn]
  rfl
def rowS(t:aa)(j:Nat)(a2 b2:Int)(i:Nat):Int:=a2*tv t i j+b2*tv t i (j+1)
theorem zI{t:aa}(h:EO t){i j:Nat}:-1000000<=tv t i j/\tv t i j<=1000000:=h.v _
theorem SS{t:aa}(h:EO t){i j:Nat}{a2 b2:Int}(a0:0<=a2)(b0:0<=b2):-((a2+b2)*1000000)<=rowS t j a2 b2 i/\rowS t j a2 b2 i<=(a2+b2)*1000000:=by
 have a:=YP (x:=a2) (y:=tv t i j) (Y:=1000000) a0 (zI h).1 (zI h).2;have b:=YP (x:=b2) (y:=tv t i (j+1)) (Y:=1000000) b0 (zI h).1 (zI h).2;unfold rowS;omega
theorem qdt{t:aa}(h:EO t){i j c:Nat}{a1 b1 a2 b2 w s:Int}(d:c<2)(f:w=if c=1 then b1 else a1)(b:0<=w)(w1:w<=100000)(hi:0<w->i+c<t.Bp.length)(a:Wt t.Bm j a2 b2)
  (s0:-100000000000000000<=s) (s1:s<=100000000000000000):Ev (fun n=>fL t (i:Int) a1 b1 (j:Int) a2 b2 (c:Int) n s 0) (s+w*rowS t j a2 b2 (i+c),2):=by
 have l:=a.a0;have g:=a.b0;have m:=(qaY b w1 (show 0<=a2 by omega) a.a1 (zI h (i:=i+c) (j:=j)).1 (zI h).2).2;refine Ev.step (fun n=>qbV h d (k:=0) (w:=w) (q:=a2) (by omega) f Z b w1 (by omega) a.a1 hi (fun _=>a.il) (by omega) (by omega) n) ?_;refine Ev.step (fun n=>qbV h d (k:=1) (w:=w) (q:=b2) (by omega) f Z b w1 g a.b1 hi a.nx (by show _<=s+w*a2*tv t (i+c) (j+0);rw[Jl];omega) (by show s+w*a2*tv t (i+c) (j+0)<=_;rw[Jl];omega) n) ?_;refine Cm ?_;simp only[fL,show decide (((1+1:Nat):Int)<2)=Cd from rfl,Cj];refine Cx ?_;unfold rowS;rw[Int.mul_add,<-Jg,<-Jg,Int.add_assoc,Jl]
 rfl
theorem T6{t:aa}(h:EO t){a:List cx}{i j k:Nat}{w q s:Int}(m:k<a.length)(z:a.length<=2)(p:qF a (k:Int)=V ⟨(j:Int),q⟩)(c:0<=w)(w1:w<=100000)(r:0<=q)(u:q<=100000)
  (hi:i<t.Bp.length) (l:j<t.Bm.length) (s0:-1000000000000000000<=s) (s1:s<=1000000000000000000) (n:Nat) :
  cC t a ⟨(i:Int),w⟩ (n+1) s (k:Int)=cC t a ⟨(i:Int),w⟩ n (s+w*q*tv t i j) ((k+1:Nat):Int):=by
 have b:=zI h (i:=i) (j:=j);obtain⟨_,B,C⟩:=qaY c w1 r u b.1 b.2;have D:=YP (x:=w) (y:=tv t i j) (Y:=1000000) c b.1 b.2;obtain⟨x1,F⟩:=qbP h hi l;have v:=h.l.hi;have A:=h.s.hi;have o:(i:Int)*(t.Bm.length:Int)=((i*t.Bm.length:Nat):Int):=(Int.natCast_mul _ _).symm;rw[cC];simp only[qq m,Ci,p,jd,wS k,o];rw[qY (x:=((i*t.Bm.length:Nat):Int)) (by omega) (by omega),<-Int.natCast_add,qY (x:=((i*t.Bm.length+j:Nat):Int)) (by omega) (by omega),aX x1];simp only[jd];have d:qj (s+qj (qj (bO t.Bi (i*t.Bm.length+j)*w)*q))=s+w*q*tv t i j:=by
  have f:bO t.Bi (i*t.Bm.length+j)*w=w*tv t i j:=Int.mul_comm _ _;have g:w*tv t i j*q=w*q*tv t i j:=by rw[Jg,Int.mul_comm (tv t i j) q,<-Jg]
  rw[f,wO (w*tv t i j),g,wO (w*q*tv t i j),qY (by omega) (by omega)]
 rw[d]
theorem qco{t:aa}(h:EO t){i j:Nat}{a2 b2 w s:Int}(b:0<=w)(w1:w<=100000)(hi:i<t.Bp.length)(a:Wt t.Bm j a2 b2)
  (s0:-100000000000000000<=s) (s1:s<=100000000000000000):Ev (fun n=>cC t (N7 j a2 b2) ⟨(i:Int),w⟩ n s 0) (s+w*rowS t j a2 b2 i,((N7 j a2 b2).length:Int)):=by
 have l:=a.a0;have g:=a.b0;have m:=(qaY b w1 (show 0<=a2 by omega) a.a1 (zI h (i:=i) (j:=j)).1 (zI h).2).2;by_cases c:b2=0
 .have f:=a.one c;subst c f;have d:N7 j 1 0=[⟨(j:Int),1⟩]:=if_pos Z;rw[d];refine Ev.step (fun n=>T6 h (k:=0) (q:=1) (by simp) (by simp) Z b w1 (by omega) (by omega) hi a.il (by omega) (by omega) n) (Cm ?_);simp only[cC];refine Cp Z (Cx ?_);unfold rowS;rw[Int.mul_one,Int.one_mul,Int.zero_mul,Jn]
  rfl
 .have d:N7 j a2 b2=[⟨(j:Int),a2⟩,⟨((j+1:Nat):Int),b2⟩]:=if_neg c;rw[d];refine Ev.step (fun n=>T6 h (k:=0) (q:=a2) (by simp) (by simp) Z b w1 (by omega) a.a1 hi a.il (by omega) (by omega) n) ?_;refine Ev.step (fun n=>T6 h (k:=1) (j:=j+1) (q:=b2) (by simp) (by simp) Z b w1 g a.b1 hi (a.nx (by omega)) (by omega) (by omega) n) (Cm ?_);simp only[cC];refine Cp Z (Cx ?_);unfold rowS;rw[Int.mul_add,<-Jg,<-Jg,Int.add_assoc]
  rfl
def xg(t:aa)(i j:Nat)(a1 b1 a2 b2:Int):Int:=a1*rowS t j a2 b2 i+b1*rowS t j a2 b2 (i+1)
theorem qdp{t:aa}(h:EO t){i j:Nat}{w a2 b2:Int}(f:0<=w)(w1:w<=100000)(a:Wt t.Bm j a2 b2):-20000000000000000<=w*rowS t j a2 b2 i/\w*rowS t j a2 b2 i<=20000000000000000:=by
 have l:=a.a0;have c:=a.b0;have b:=a.a1;have d:=a.b1;have g:=SS h (i:=i) (j:=j) (a2:=a2) (b2:=b2) (by omega) c;have k:=YP (x:=w) (y:=rowS t j a2 b2 i) (Y:=200000000000) f (by omega) (by omega);omega
theorem qaU{t:aa}(h:EO t){sl ld:Int}{i j:Nat}{a1 b1 a2 b2:Int}(W1:Wt t.Bp i a1 b1)(W2:Wt t.Bm j a2 b2)
  (p:Ev (fun n=>gO n t.Bp sl) ((i:Int),a1,b1)/\Ev (fun n=>mB n t.Bp sl) (N7 i a1 b1,a1+b1)) (C:Ev (fun n=>gO n t.Bm ld) ((j:Int),a2,b2)/\Ev (fun n=>mB n t.Bm ld) (N7 j a2 b2,a2+b2)) :
  0<(a1+b1)*(a2+b2)/\xg t i j a1 b1 a2 b2<=(a1+b1)*(a2+b2)*1000000/\-((a1+b1)*(a2+b2)*1000000)<=xg t i j a1 b1 a2 b2/\-9000000000000000000<=xg t i j a1 b1 a2 b2/\xg t i j a1 b1 a2 b2<=9000000000000000000/\((∀k,0<=bO t.Bi k)->0<=xg t i j a1 b1 a2 b2) /\
  ∀mode,Ev (fun n=>om n t sl ld mode) (lW (xg t i j a1 b1 a2 b2) ((a1+b1)*(a2+b2)) mode)/\Ev (fun n=>gn n t sl ld mode) (lW (xg t i j a1 b1 a2 b2) ((a1+b1)*(a2+b2)) mode):=by
 obtain⟨p1,F⟩:=p;obtain⟨D,H⟩:=C;have A:=W1.a0;have a:=W1.b0;have B:=W2.a0;have b:=W2.b0;have d:=W1.a1;have f:=W1.b1;have I:=W2.a1;have J:=W2.b1;have r1:=qdp h (i:=i) (w:=a1) (by omega) d W2;have L:=qdp h (i:=i+1) (w:=b1) a f W2;have x1:=SS h (i:=i) (j:=j) (a2:=a2) (b2:=b2) (by omega) b;have v:=SS h (i:=i+1) (j:=j) (a2:=a2) (b2:=b2) (by omega) b;have M:=YP (x:=a1) (y:=rowS t j a2 b2 i) (Y:=(a2+b2)*1000000) (by omega) x1.1 x1.2;have N:=YP (x:=b1) (y:=rowS t j a2 b2 (i+1)) (Y:=(a2+b2)*1000000) a v.1 v.2;have K:a1*((a2+b2)*1000000)+b1*((a2+b2)*1000000)=(a1+b1)*(a2+b2)*1000000:=by rw[<-Int.add_mul,Jg]
 have D0:0<(a1+b1)*(a2+b2):=Int.mul_pos (by omega) (by omega);have D1:(a1+b1)*(a2+b2)<=200000*200000:=Jb (by omega) (by omega) (by omega) (by omega);refine⟨D0,by unfold xg;omega,by unfold xg;omega,by unfold xg;omega,by unfold xg;omega,fun u=>?_,fun mode=>⟨?_,?_⟩⟩
 .have s:∀i,0<=rowS t j a2 b2 i:=fun i=>Int.add_nonneg (jU (by omega) (u _)) (jU b (u _));exact Int.add_nonneg (jU (by omega) (s _)) (jU a (s _))
 .have l:Ev (fun n=>ky t (i:Int) a1 b1 (j:Int) a2 b2 n 0 0) (xg t i j a1 b1 a2 b2,2):=by
   refine Cm ?_;simp only[ky];refine Cr Z (Ck (qdt h (c:=0) (w:=a1) (by omega) Z (by omega) d (fun _=>W1.il) W2 (by omega) (by omega)) ?_);refine Cm ?_;simp only[ky];refine Cr Z (Ck (qdt h (c:=1) (w:=b1) (by omega) Z a f W1.nx W2 (by rw[Jl];omega) (by rw[Jl];omega)) ?_);refine Cm ?_;simp only[ky];refine Cp Z (Cx ?_);unfold xg;rw[Int.zero_add,Jl]
   rfl
  unfold om;refine Ck p1 (Ck D (Ck l ?_));show Ev (fun n=>(fW n (xg t i j a1 b1 a2 b2) (qj (qj (a1+b1)*qj (a2+b2))) mode).bind fun r=>V r) _;rw[wO (a1+b1),wO (a2+b2),wO ((a1+b1)*(a2+b2))];exact Ck ⟨0,fun n _=>wB D0 (by unfold xg;omega) (by unfold xg;omega)⟩ .done
 .have l:Ev (fun n=>cz t (N7 i a1 b1) (N7 j a2 b2) n 0 0) (xg t i j a1 b1 a2 b2,((N7 i a1 b1).length:Int)):=by
   by_cases g:b1=0
   .have z:=W1.one g;subst g z;have o:N7 i 1 0=[⟨(i:Int),1⟩]:=if_pos Z;rw[o];refine Cm ?_;simp only[cz];refine Cr Z (Ck (Cx Z) (Ck (qco h (i:=i) (w:=1) (by omega) (by omega) W1.il W2 (by omega) (by omega)) (Cm ?_)));simp only[cz];refine Cp Z (Cx ?_);unfold xg;rw[Int.zero_add,Int.zero_mul,Jn]
    rfl
   .have o:N7 i a1 b1=[⟨(i:Int),a1⟩,⟨((i+1:Nat):Int),b1⟩]:=if_neg g;rw[o];refine Cm ?_;simp only[cz];refine Cr Z (Ck (Cx Z) (Ck (qco h (i:=i) (w:=a1) (by omega) d W1.il W2 (by omega) (by omega)) (Cm ?_)));simp only[cz];refine Cr Z (Ck (Cx Z) (Ck (qco h (i:=i+1) (w:=b1) a f (W1.nx (by omega)) W2 (by omega) (by omega)) (Cm ?_)));simp only[cz];refine Cp Z (Cx ?_);unfold xg;rw[Int.zero_add]
    rfl
  unfold gn;refine Ck F (Ck H (Ck l ?_));show Ev (fun n=>(mz n (xg t i j a1 b1 a2 b2) (qj ((a1+b1)*(a2+b2))) mode).bind fun r=>V r) _;rw[wO ((a1+b1)*(a2+b2))];exact Ck ⟨0,fun n _=>(RU (m:=0)).trans (wB D0 (by unfold xg;omega) (by unfold xg;omega))⟩ .done
theorem C3{t:aa}(h:EO t)(sl ld:Int):∃S D:Int,0<D/\S<=D*1000000/\-(D*1000000)<=S/\-9000000000000000000<=S/\S<=9000000000000000000/\((∀k,0<=bO t.Bi k)->0<=S) /\
  ∀mode,Ev (fun n=>om n t sl ld mode) (lW S D mode)/\Ev (fun n=>gn n t sl ld mode) (lW S D mode):=by
 obtain⟨i,a1,b1,W1,_,p⟩:=OD h.s sl;obtain⟨j,a2,b2,W2,_,a⟩:=OD h.l ld;exact⟨_,_,qaU h W1 W2 p a⟩

theorem G9{b:qf}(h:aU b=An){j:Nat}(d:j<(places b.Aa).length){n:Nat}:xI n b.Ar b.Aa (lX (gt (places b.Aa) j))=V (ML b j):=by
 have c:=aO h;unfold ML SP;rcases xz d with⟨i,k,hi,hk,_,e⟩|⟨i,hi,_,e⟩
 .rw[e];obtain⟨⟨a,c1⟩,f,_⟩:=ra c hi;unfold yc cH lX;simp only[xI,show decide ((i:Int)<0)=Cd by simp,Cj,qz hi,jd,kO a c1,jr,qz (show k<(gt b.Ar.Au (gt b.Aa.Ab i).Bv.toNat).Bg.length by omega)]
 .rw[e];rfl
theorem KJ{b:qf}(h:aU b=An){i:Nat}(hi:i<b.Ah.length):Ev (fun n=>rZ n b (i:Int)) (dy b i):=by
 have c:=dq h hi;have p:=qZ (aO h);have x:=c.lo;have u:=c.hi;have d:=c.cap;have z:=rh h (i:=i);have e1:Ev (fun n=>ip b (gt b.Ah i) ((places b.Aa).map lX) (pl b i) n (gt b.Ah i).Br 0) (OJ b (gt b.Ah i) (pl b i) (pl b i).length,((pl b i).length:Int)):=by
  refine fD (Lf:=ip b (gt b.Ah i) ((places b.Aa).map lX) (pl b i)) (S:=OJ b (gt b.Ah i) (pl b i)) (len:=(pl b i).length) (fun n=>?_) (fun j a X o=>?_)
  .simp only[ip,qu (jf _),Cj]
  .obtain⟨y,l,m,_⟩:=FG a;have f:j<(gt b.Ah i).Bj.length:=by rw[c.snk];exact a
   have k:=c.sin j f;have v:=GC (b:=b) (w:=gt b.Ah i) (sk:=pl b i) (j:=j);have g:qF ((places b.Aa).map lX) (y:Int)=V (lX (gt (places b.Aa) y)):=by
    refine pp ?_;rw[List.getElem?_map,jj l,fh l];rfl
   have s:=fun n=>G9 h l (n:=n);simp only[ip,qq a,Ci,aX a,m,jd,aX f,kO k.1 (show bO (gt b.Ah i).Bj j<((OJ b (gt b.Ah i) (pl b i) j).length:Int) by omega),g,s,wS j];have:OJ b (gt b.Ah i) (pl b i) (j+1)=ak (OJ b (gt b.Ah i) (pl b i) j) (bO (gt b.Ah i).Bj j) (qj (gt (OJ b (gt b.Ah i) (pl b i) j) (bO (gt b.Ah i).Bj j).toNat+ML b y)):=by
    show xh _ _ _ _ _=_;unfold xh;rw[m,jr]
   rw[this] at o;exact o
 have r:∀j t,t.length=(gt b.Ah i).Ak.length->j<(gt b.Ah i).Ak.length->Ev (fun n=>iq (gt b.Ah i) n t (j:Int)) (qaO (gt b.Ah i) j t,0):=by
  intro j
  induction j with
  |zero=>
   intro t _ _;refine Cm ?_;show Ev (fun n=>iq (gt b.Ah i) (n+1) t 0) _;unfold iq;exact Cp Z .done
  |succ j ih=>
   intro t A a;have g:=c.par (j+1) (by omega) a;refine Cm ?_;simp only[iq,show decide (((j+1:Nat):Int) > 0)=An from decide_eq_true (by omega),Ci,aX a,jd,kO g.1 (show bO (gt b.Ah i).Ak (j+1)<(t.length:Int) by omega),qz (show j+1<t.length by omega),show((j+1:Nat):Int)-1=(j:Int) by omega,qY (show -9223372036854775808<=(j:Int) by omega) (by omega)];exact ih _ (by rw[bY];exact A) (by omega)
 unfold rZ kU;rw[qz hi];simp only[jd,dU (show([]:List Int).length+(gt b.Ah i).Br.length<=2147483648 by simp;omega),List.nil_append];refine Ck (od p) (Ck (xv p) (Ck e1 ?_));rw[mM (show(gt b.Ah i).Br.length<=9223372036854775807 by omega),show((gt b.Ah i).Br.length:Int)-1=(((gt b.Ah i).Ak.length-1:Nat):Int) by omega];exact Ck (r _ _ (by rw[GC];exact d) (by omega)) .done
theorem GB{b:qf}(h:aU b=An){i:Nat}(hi:i<b.Ah.length):Ev (fun n=>pQ n b (i:Int)) (eh b i):=by
 have f:=dq h hi;have o:=f.lo;have m:=f.hi;have l:=f.res;have l1:=zq h hi;have c:∀d k,k+1+d=(gt b.Ah i).Ak.length->Ev (fun n=>ko (gt b.Ah i) (dy b i) n (MQ (gt b.Ah i) (dy b i) k) ((k+1:Nat):Int)) (eh b i,((dy b i).length:Int)):=by
  intro d
  induction d with
  |zero=>
   intro k g;refine Cm ?_;simp only[ko,qu (show(dy b i).length<=k+1 by omega),Cj];refine Cx ?_;rw[l1,<-g];unfold eh;rw[<-g]
   rfl
  |succ d ih=>
   intro k g;have p:=f.par (k+1) (by omega) (by omega);have a:=FR (w:=gt b.Ah i) (ld:=dy b i) (k:=k);refine Cm ?_;simp only[ko,qq (show k+1<(dy b i).length by omega),Ci,aX (show k+1<(gt b.Ah i).Ak.length by omega),jd,kO p.1 (show bO (gt b.Ah i).Ak (k+1)<((MQ (gt b.Ah i) (dy b i) k).length:Int) by omega),
    aX (show k+1<(gt b.Ah i).Bw.length by omega),qz (show k+1<(dy b i).length by omega),sf (show k+1<9223372036854775807 by omega)]
   rw[dU (by rw[a,jh];omega)];exact ih (k+1) (by omega)
 unfold pQ;rw[qz hi];simp only[jd];refine Ck (KJ h hi) ?_;exact Ck (c ((gt b.Ah i).Ak.length-1) 0 (by omega)) .done
theorem uD{b:qf}(h:aU b=An){i:Nat}(hi:i<b.Ah.length){mode:Int}:Ev (fun n=>ot n b (i:Int) mode) ((cS b i).map fun x=>lW x 1000 mode):=by
 have k:=dq h hi;have r:(gt b.Ah i).Bj.length<=78:=by rw[k.snk];exact rh h
 have p:=BA h hi;have l:Ev (fun n=>dS b (i:Int) mode (eh b i) n ([]:List Int) 0) ((cS b i).map (fun x=>lW x 1000 mode),((gt b.Ah i).Bj.length:Int)):=by
  refine fD (Lf:=dS b (i:Int) mode (eh b i)) (S:=fun j=>(((gt b.Ah i).Bj.take j).map fun s=>gt (eh b i) s.toNat).map fun x=>lW x 1000 mode) (len:=(gt b.Ah i).Bj.length) (fun n=>?_) (fun j c X o=>?_)
  .simp only[dS,qz hi,jd,qu (jf _),Cj,jG];rfl
  .have g:=k.sin j c;have f:=ES h hi c;have m:gt (cS b i) j=gt (eh b i) (bO (gt b.Ah i).Bj j).toNat:=by
    unfold cS;rw[fh (by rw[jq];exact c),List.getElem_map,wx c]
   rw[m] at f;have d:=fun n=>wB (n:=n) (a:=gt (eh b i) (bO (gt b.Ah i).Bj j).toNat) (b:=1000) (mode:=mode) (by omega) (by omega) (by omega);simp only[dS,qz hi,jd,qq c,Ci,aX c,kO g.1 (show bO (gt b.Ah i).Bj j<((eh b i).length:Int) by omega),d,wS j];rw[dU (by rw[jq,jq,jy,jh];omega)];have:(((gt b.Ah i).Bj.take j).map (fun s=>gt (eh b i) s.toNat)).map (fun x=>lW x 1000 mode)++[lW (gt (eh b i) (bO (gt b.Ah i).Bj j).toNat) 1000 mode]=(((gt b.Ah i).Bj.take (j+1)).map fun s=>gt (eh b i) s.toNat).map fun x=>lW x 1000 mode:=by
    rw[jw c,jT,jT,wx c];rfl
   rw[this];exact o
 unfold ot;exact Ck (GB h hi) (Ck l .done)

instance:Inhabited ql:=⟨⟨0,⟨0,0⟩,⟨0,0⟩⟩⟩
instance:Inhabited qg:=⟨⟨0,0⟩⟩
def nc(c:qG):Bool:=(gd c.Ba 100 5000&&(gd c.Bd 100 5000&&(gd c.Ay 100 5000&&gd c.Bc 100 5000)))&&(sY c.Bh&&(decide (c.Ba<=c.Bd)&&decide (c.Ay<=c.Bc)))
theorem SX{c:qG}(h:LW c.Bh):Ev (fun n=>rY n c) (nc c):=by
 have a:Ev (fun n=>eO c n 0) (bif gd c.Ba 100 5000&&(gd c.Bd 100 5000&&(gd c.Ay 100 5000&&gd c.Bc 100 5000)) then .nxt 4 else .ret Cd):=by
  refine Cm ?_;simp only[eO,fC,show qF ([c.Ba,c.Bd,c.Ay,c.Bc]:List Int) 0=V c.Ba from rfl,jd];refine Cr Z ?_;cases gd c.Ba 100 5000
  .exact .done
  refine Cp Z (Cm ?_);simp only[eO,fC,show qj (0+1)=1 from rfl,show qF ([c.Ba,c.Bd,c.Ay,c.Bc]:List Int) 1=V c.Bd from rfl,jd];refine Cr Z ?_;cases gd c.Bd 100 5000
  .exact .done
  refine Cp Z (Cm ?_);simp only[eO,fC,show qj (1+1)=2 from rfl,show qF ([c.Ba,c.Bd,c.Ay,c.Bc]:List Int) 2=V c.Ay from rfl,jd];refine Cr Z ?_;cases gd c.Ay 100 5000
  .exact .done
  refine Cp Z (Cm ?_);simp only[eO,fC,show qj (2+1)=3 from rfl,show qF ([c.Ba,c.Bd,c.Ay,c.Bc]:List Int) 3=V c.Bc from rfl,jd];refine Cr Z ?_;cases gd c.Bc 100 5000
  .exact .done
  refine Cp Z (Cm ?_);simp only[eO];exact Cp Z .done
 unfold rY nc;refine Ck a ?_;cases gd c.Ba 100 5000&&(gd c.Bd 100 5000&&(gd c.Ay 100 5000&&gd c.Bc 100 5000))
 .exact .done
 .refine Ck (zn h) ?_;cases sY c.Bh
  .exact .done
  .cases decide (c.Ba<=c.Bd)<;>exact .done
theorem OO{n:Nat}{a b:Int}:oz n a b=V (decide (a>=100)&&(decide (a<=b)&&decide (b<=5000))):=by
 unfold oz;cases decide (a>=100)
 .rfl
 .cases decide (a<=b)<;>rfl
theorem TT{c:qG}(h:LW c.Bh):Ev (fun n=>rR n c) (nc c):=by
 have e:nc c=(sY c.Bh&&((decide (c.Ba>=100)&&(decide (c.Ba<=c.Bd)&&decide (c.Bd<=5000)))&&(decide (c.Ay>=100)&&(decide (c.Ay<=c.Bc)&&decide (c.Bc<=5000))))):=by
  unfold nc;rw[jn];simp only[je,bV,decide_eq_true_eq];constructor
  .rintro⟨⟨b,d,f,g⟩,a,i,k⟩;refine⟨a,⟨?_,?_,?_⟩,?_,?_,?_⟩<;>omega
  .rintro⟨a,⟨b,d,f⟩,g,i,k⟩;refine⟨⟨⟨?_,?_⟩,⟨?_,?_⟩,⟨?_,?_⟩,?_,?_⟩,a,?_,?_⟩<;>omega
 rw[e];unfold rR;simp only[HU h,OO,jd];cases sY c.Bh
 .exact .done
 .cases decide (c.Ba>=100)&&(decide (c.Ba<=c.Bd)&&decide (c.Bd<=5000))<;>exact .done
def mZ(s:qg):Bool:=gd s.As (-1000000000) 1000000000&&(gd s.Be (-1000000000) 1000000000&&decide (s.As<=s.Be))
def yK(s:qg):Bool:=decide (s.As>=0)&&(decide (s.As<=s.Be)&&decide (s.Be<=1000000))
theorem NM{n:Nat}{s:qg}:tc n s=V (mZ s):=by
 unfold tc mZ;simp only[fC,jd];cases gd s.As (-1000000000) 1000000000
 .rfl
 .cases gd s.Be (-1000000000) 1000000000<;>rfl
theorem HE{n:Nat}{s:qg}:pu n s=V (mZ s):=by
 unfold pu xt mZ;simp only[fx,jd];cases gd s.As (-1000000000) 1000000000
 .rfl
 .cases gd s.Be (-1000000000) 1000000000<;>rfl
theorem VJ{n:Nat}{s:qg}:sb n s=V (yK s):=by
 unfold sb yK;cases decide (s.As>=0)
 .rfl
 .cases decide (s.As<=s.Be)<;>rfl
theorem UB{n:Nat}{s:qg}:rU n s=V (yK s):=by
 have e:yK s=(mZ s&&(gd s.As 0 1000000&&gd s.Be 0 1000000)):=by
  unfold yK mZ;rw[jn];simp only[je,bV,decide_eq_true_eq];constructor
  .rintro⟨a,b,c⟩;refine⟨⟨⟨?_,?_⟩,⟨?_,?_⟩,?_⟩,⟨?_,?_⟩,?_,?_⟩<;>omega
  .rintro⟨⟨a,b,c⟩,d,f⟩;refine⟨?_,?_,?_⟩<;>omega
 rw[e];unfold rU xr;simp only[HE,fx,jd];cases mZ s
 .rfl
 .cases gd s.As 0 1000000<;>rfl

theorem RZ{b:qf}{k:Int}(h:aU b=An){j:Nat}(c:j<(places b.Aa).length)(l:(gt (places b.Aa) j).net=k)(d:(gt (places b.Aa) j).drives=An):Ev (fun n=>tY n b.Aa k) (j:Int):=by
 have g:=aO h;have p:=qZ g;have t:=bf p;have e:KZ (fun q:qU=>(q.net==k)&&q.drives) ((places b.Aa).map lX)=(j:Int):=by
  refine T9 (by simpa using c) ?_ (fun i hi m=>?_)
  .rw[ET c];show(((gt (places b.Aa) j).net==k)&&(gt (places b.Aa) j).drives)=An;rw[l,d];simp
  .have f:i<(places b.Aa).length:=by simpa using hi
   rw[ET f] at m;have a:(((gt (places b.Aa) i).net==k)&&(gt (places b.Aa) i).drives)=An:=m;simp only[je,beq_iff_eq] at a;exact UR g f c (by rw[a.1,l]) a.2 d
 unfold tY;refine Ck (od p) ?_;rw[<-e];exact nF (fin:=(((places b.Aa).map lX).length:Int)) (Lf:=gu k ((places b.Aa).map lX)) (xs:=(places b.Aa).map lX) (pf:=fun _ (q:qU)=>V ((q.net==k)&&q.drives)) (fun _ _=>.done)
  (fun n=>by simp only[gu,qu (jf _),Cj])
  (fun n j x r=>by
   have c:=(List.getElem?_eq_some_iff.1 r).1;have s:j<(places b.Aa).length:=by simpa using c
   simp only[gu,qq c,Ci,pp r,jd,wS j];cases (x.net==k)<;>cases x.drives<;>rfl)
  (fun n=>by congr 1;funext o;cases o<;>rfl)
theorem NE{b:qf}{i k:Nat}(h:aU b=An)(hi:i<b.Aa.Ab.length)(s:k<(gt b.Aa.Ab i).Am.length):Ev (fun n=>tZ n b.Aa (i:Int) (k:Int)) ((cG b.Aa i+k:Nat):Int):=by
 have p:=aO h;have f:=qZ p;have u:=bf f;obtain⟨c,l⟩:=wo hi s;have e:KZ (fun q:qU=>(q.instance_==(i:Int))&&(q.pin==(k:Int))) ((places b.Aa).map lX)=((cG b.Aa i+k:Nat):Int):=by
  refine T9 (by simpa using c) ?_ (fun m t a=>?_)
  .rw[ET c,l];unfold yc lX;simp
  .have d:m<(places b.Aa).length:=by simpa using t
   rw[ET d] at a;rcases xz d with⟨i',k',hi',hk',em,e'⟩|⟨i',hi',em,e'⟩
   .rw[e'] at a;unfold yc lX at a;simp only[je,beq_iff_eq] at a;obtain rfl:i'=i:=by omega
    obtain rfl:k'=k:=by omega
    exact em
   .rw[e'] at a;unfold SQ lX at a;simp only[je,beq_iff_eq] at a;omega
 unfold tZ;refine Ck (od f) ?_;rw[<-e];exact nF (fin:=(((places b.Aa).map lX).length:Int)) (Lf:=kD (i:Int) (k:Int) ((places b.Aa).map lX)) (xs:=(places b.Aa).map lX) (pf:=fun _ (q:qU)=>V ((q.instance_==(i:Int))&&(q.pin==(k:Int)))) (fun _ _=>.done)
  (fun n=>by simp only[kD,qu (jf _),Cj])
  (fun n j x g=>by
   have c:=(List.getElem?_eq_some_iff.1 g).1;have r:j<(places b.Aa).length:=by simpa using c
   simp only[kD,qq c,Ci,pp g,jd,wS j];cases (x.instance_==(i:Int))<;>cases (x.pin==(k:Int))<;>rfl)
  (fun n=>by congr 1;funext o;cases o<;>rfl)
theorem SN{n:Nat}{xs:List qw}{f t a c k i:Int}(o:xs.length<=1000000)(l:0<=f)(m:f<=1000000)(p:0<=t)(r:t<=1000000)(b:E7 a)(g:E7 c):mL n xs f t a c k i=V (xs++[⟨2*f+a,2*t+c,k,i⟩]):=by
 have d:0<=a/\a<=1:=by rcases b with e|e<;>omega
 have h:0<=c/\c<=1:=by rcases g with e|e<;>omega
 unfold mL;rw[wO (2*f),wO (2*t),wO (2*f+a),wO (2*t+c),dU (by rw[jh];omega)]
 rfl
def qaA(a:bi)(i j:Int):Bool:=bif a.Bf==1 then(bif a.Bq==3 then An else(a.Bq==1)==(i==j)) else bif a.Bf==2 then i==0 else bif a.Bf==3 then i==1 else Cd
def PD(a:bi)(f t k i j:Int):List qw:=bif qaA a i j then[⟨2*f+i,2*t+j,1,k⟩] else[]
theorem ZZ{a:bi}{xs:List qw}{f t k i j:Int}{X:List qw×Int}(m:xs.length<=1000000)(d:0<=f)(g:f<=1000000)(o:0<=t)(p:t<=1000000)(hi:E7 i)(c:E7 j)
  (h:Ev (fun n=>cF a f t k i n (xs++PD a f t k i j) (j+1)) X):Ev (fun n=>cF a f t k i n xs j) X:=by
 have b:0<=j/\j<=1:=by rcases c with e|e<;>omega
 have l:=fun n=>SN (n:=n) (k:=1) (i:=k) m d g o p hi c;refine Cm ?_;simp only[cF,l,jd,wO (j+1)];refine Cr (decide_eq_true b.2) ?_;unfold PD qaA at h;cases h1:a.Bf==1
 .cases h2:a.Bf==2
  .cases h3:a.Bf==3
   .rw[h1,h2,h3] at h;simpa using h
   .rw[h1,h2,h3] at h;cases h4:i==1
    .rw[h4] at h;simpa using h
    .rw[h4] at h;simpa using h
  .rw[h1,h2] at h;cases h4:i==0
   .rw[h4] at h;simpa using h
   .rw[h4] at h;simpa using h
 .rw[h1] at h;cases h2:a.Bq==3
  .rw[h2] at h;cases h4:(a.Bq==1)==(i==j)
   .rw[h4] at h;simpa [h4] using h
   .rw[h4] at h;simpa [h4] using h
  .rw[h2] at h;simpa using h
theorem qb6{a:bi}{xs:List qw}{f t k:Int}(v:xs.length<=900000)(d:0<=f)(g:f<=1000000)(h:0<=t)(l:t<=1000000) :
  Ev (fun n=>xK n xs a f t k) (xs++PD a f t k 0 0++PD a f t k 0 1++PD a f t k 1 0++PD a f t k 1 1):=by
 have b:∀i j,(PD a f t k i j).length<=1:=fun i j=>by unfold PD;cases qaA a i j<;>simp
 have m:=b 0 0;have o:=b 0 1;have p:=b 1 0;have r:=b 1 1;have c:∀(i:Int) (ys:List qw),E7 i->ys.length<=900010->Ev (fun n=>cF a f t k i n ys 0) (ys++PD a f t k i 0++PD a f t k i 1,2):=by
  intro i ys hi x;have u:=b i 0;refine ZZ (by omega) d g h l hi (.inl Z) (ZZ (j:=0+1) (by rw[jg];omega) d g h l hi (.inr Z) (Cm ?_));simp only[cF];exact Cp Z .done
 have s:Ev (fun n=>lL a f t k n xs 0) (xs++PD a f t k 0 0++PD a f t k 0 1++PD a f t k 1 0++PD a f t k 1 1,2):=by
  refine Cm ?_;simp only[lL];refine Cr Z (Ck (c 0 xs (.inl Z) (by omega)) ?_);refine Cm ?_;simp only[lL];refine Cr Z (Ck (c 1 _ (.inr Z) (by simp only[jg];omega)) ?_);refine Cm ?_;simp only[lL];exact Cp Z .done
 unfold xK;exact Ck s .done
theorem E6{ps:List bj}{a:bi}(h:AS ps a=An)(c:a.Bf<=3)(b:1<=a.Bf):(a.Bf=1/\(a.Bq=1\/a.Bq=2\/a.Bq=3))\/a.Bf=2\/a.Bf=3:=by
 rcases (by omega:a.Bf=1\/a.Bf=2\/a.Bf=3) with e|e|e
 .refine .inl ⟨e,?_⟩;unfold AS at h;rw[e] at h;simp only[beq_self_eq_true,Ci,je,bV] at h;have:=h.2.2.2.1;omega
 .exact .inr (.inl e)
 .exact .inr (.inr e)
theorem V6{ps:List bj}{a:bi}{first:Int}{k:Nat}(h:AS ps a=An)(c:a.Bf<=3)(b:1<=a.Bf) :
  PD a (first+a.Bk) (first+a.To) (k:Int) 0 0++PD a (first+a.Bk) (first+a.To) (k:Int) 0 1++PD a (first+a.Bk) (first+a.To) (k:Int) 1 0++PD a (first+a.Bk) (first+a.To) (k:Int) 1 1=vF first k a:=by
 unfold vF gA PD qaA;rcases E6 h c b with⟨e,e2|e2|e2⟩|e|e
 .rw[e,e2];rfl
 .rw[e,e2];rfl
 .rw[e,e2];rfl
 .rw[e];rfl
 .rw[e];rfl
theorem KC{a:bi}{first:Int}{k:Nat}(h:3<a.Bf):vF first k a=[]:=by
 unfold vF gA;rw[show(a.Bf==2)=Cd from beq_eq_false_iff_ne.2 (by omega),show(a.Bf==3)=Cd from beq_eq_false_iff_ne.2 (by omega),show(a.Bf != 1)=An from bne_iff_ne.2 (by omega)]
 rfl
theorem gL{b:qf}(h:aU b=An):Ev (fun n=>iN n b) (qd b):=by
 have v:=aO h;have z:=qZ v;have hl:=bf z;have hni:=z.ni;have hnn:=z.nn;have J:=wy h;have p:(⟨b.Aa.Ab,b.Aa.Am,b.Aa.Ai⟩:qk)=b.Aa:=rfl;have e1:Ev (fun n=>iu b n ([]:List qw) 0) (ob b b.Aa.Ab.length,(b.Aa.Ab.length:Int)):=by
  refine fD (Lf:=iu b) (S:=ob b) (len:=b.Aa.Ab.length) (fun n=>?_) (fun j m X g=>?_)
  .simp only[iu,qu (jf _),Cj]
  .obtain⟨⟨Q,c1⟩,r,l⟩:=ra v m;have M:=EQ l;have s:=(pG (uw l)).1;have H:=uC h (show j<=b.Aa.Ab.length by omega);have O:=wK (d:=b.Aa) (i:=j);have hof:cG b.Aa (j+1)<=78:=by
    rw[pH] at hl;have:=YT (d:=b.Aa) (show j+1<=b.Aa.Ab.length by omega);omega
   have F:cH b (j:Int)=gt b.Ar.Au (gt b.Aa.Ab j).Bv.toNat:=rfl;simp only[iu,qq m,Ci,qz m,kO Q c1,jd,wS j];have C:Ev (fun n=>fY b (j:Int) (cH b (j:Int)) n (ob b j) 0) (ob b (j+1),((cH b (j:Int)).Az.length:Int)):=by
    rw[show ob b (j+1)=ob b j++nq (cH b (j:Int)) (cG b.Aa j:Int) (cH b (j:Int)).Az.length from vO];rw[<-F] at l r M s;generalize cH b (j:Int)=c at l r M s⊢;have:=fD (Lf:=fY b (j:Int) c) (S:=fun k=>ob b j++nq c (cG b.Aa j:Int) k) (len:=c.Az.length) (fin:=(ob b j++nq c (cG b.Aa j:Int) c.Az.length,(c.Az.length:Int))) (fun n=>by simp only[fY,qu (jf _),Cj])
     (fun k o X g=>by
      obtain⟨⟨k1,k5⟩,N,I,Y⟩:=AY l o;have e:(nq c (cG b.Aa j:Int) k).length<=4*k:=HN fun _ _=>HF;have A:nq c (cG b.Aa j:Int) (k+1)=nq c (cG b.Aa j:Int) k++vF (cG b.Aa j:Int) k (gt c.Az k):=vO;rw[A] at g;simp only[fY,qq o,Ci,qz o,jd,wS k,p];by_cases B:(gt c.Az k).Bf<=3
      .refine Cr (decide_eq_true B) ?_;have K:=NE h m (k:=(gt c.Az k).Bk.toNat) (by omega);have L:=NE h m (k:=(gt c.Az k).To.toNat) (by omega);rw[<-fa N.1] at K;rw[<-fa I.1] at L;refine Ck K (Ck L (Ck (qb6 (by rw[jg];omega) (by omega) (by omega) (by omega) (by omega)) ?_));have u:∀x:Int,0<=x->((cG b.Aa j+x.toNat:Nat):Int)=(cG b.Aa j:Int)+x:=fun x hx=>by omega
       rw[u _ N.1,u _ I.1,jv,jv,jv,<-jv (PD _ _ _ _ _ _),<-jv (PD _ _ _ _ _ _++_),V6 Y B k1,jv];exact g
      .refine Cp (decide_eq_false B) ?_;rw[KC (by omega),jY] at g;exact g)
    simpa [nq,fm] using this
   exact Ck C g
 have D:∀(i:Nat) (t:List qw),i<b.Ah.length->t.length<=900000->Ev (fun n=>iy (xl b.Aa i:Int) (pl b i) n t 0) (t++TJ b i (pl b i).length,((pl b i).length:Int)):=by
  intro i t hi I;have hsm:=rh h (i:=i);have a3:=(tq v (k:=i) (by omega)).1;have:=fD (Lf:=iy (xl b.Aa i:Int) (pl b i)) (S:=fun k=>t++TJ b i k) (len:=(pl b i).length) (fin:=(t++TJ b i (pl b i).length,((pl b i).length:Int))) (fun n=>by simp only[iy,qu (jf _),Cj])
   (fun k o X g=>by
    obtain⟨y,hy,ey,_⟩:=FG o;have hwn:=TL (b:=b) (i:=i) (j:=k);have p1:=fun n=>SN (n:=n) (xs:=t++TJ b i k) (f:=(xl b.Aa i:Int)) (t:=bO (pl b i) k) (a:=0) (c:=0) (k:=2) (i:=(k:Int)) (by rw[jg];omega) (by omega) (by omega) (by omega) (by omega) (.inl Z) (.inl Z);have p2:=fun n=>SN (n:=n) (xs:=t++TJ b i k++[⟨2*(xl b.Aa i:Int)+0,2*bO (pl b i) k+0,2,(k:Int)⟩]) (f:=(xl b.Aa i:Int)) (t:=bO (pl b i) k) (a:=1) (c:=1) (k:=2) (i:=(k:Int)) (by rw[jg,jg,jh];omega) (by omega) (by omega) (by omega) (by omega) (.inr Z) (.inr Z);simp only[iy,qq o,Ci,aX o,jd,p1,p2,wS k];have A:TJ b i (k+1)=TJ b i k++qcW (xl b.Aa i) (bO (pl b i) k) k:=vO;rw[A] at g;rw[Jn,Jn,jv,jv];exact g)
  simpa [TJ,fm] using this
 have u:Ev (fun n=>iw b n (ob b b.Aa.Ab.length) 0) (qd b,(b.Aa.Am.length:Int)):=by
  have H:=uC h (jf _);have:=fD (Lf:=iw b) (S:=fun j=>ob b b.Aa.Ab.length++yh b j) (len:=b.Aa.Am.length) (fin:=(qd b,(b.Aa.Am.length:Int))) (fun n=>by
    simp only[iw,qu (jf _),Cj];rw[<-J];rfl)
   (fun j m X g=>by
    have P:=FJ h (j:=j);obtain⟨R,d2⟩:=tq v m;obtain⟨T,W⟩:=BB.1 d2;simp only[iw,qq m,Ci,wS j,p];refine Ck (RZ h R T W) (Ck (xv z) (Ck (D j _ (by omega) (by rw[jg];omega)) ?_));rw[jv,show yh b j++TJ b j (pl b j).length=yh b (j+1) from vO.symm];exact g)
  simpa [yh,fm] using this
 unfold iN;exact Ck e1 (Ck u .done)
def U3(br:List Int)(m:Nat):List Bool:=pre (fun k=>!br.any fun y=>y==(k:Int)) m
theorem uO{br:List Int}{m:Nat}:(U3 br m).length=m:=vX
theorem HV{br:List Int}{x:Int}(d:br.length<=1048576):Ev (fun n=>td n br x) (br.any fun y=>y==x):=by
 have b:Ev (fun n=>lM br x n 0) (bif br.any (fun y=>y==x) then .ret An else .nxt (br.length:Int)):=by
  have:=lD (Lf:=lM br x) (len:=br.length) (f:=fun j=>!(gt br j==x)) (bad:=An) (fin:=.nxt (br.length:Int)) (Cm (by simp only[lM,qu (jf _),Cj];exact .done))
   (fun j a X c=>Cm (by
    simp only[lM,qq a,Ci,qz a,jd,wS j];cases gt br j==x
    .exact c
    .exact .done))
  rw[XP];refine this.cast ?_;cases bE (fun j=>!(gt br j==x)) br.length<;>rfl
 unfold td;refine Ck b ?_;cases br.any (fun y=>y==x)<;>exact .done
theorem pz{ls:List qw}{br:List Int}(g:ls.length<=10000)(a:br.length<=1048576):Ev (fun n=>ov n ls br) (U3 br ls.length):=by
 have b:Ev (fun n=>kF ls br n ([]:List Bool) 0) (U3 br ls.length,(ls.length:Int)):=by
  refine fD (Lf:=kF ls br) (S:=fun j=>U3 br j) (len:=ls.length) (fun n=>?_) (fun j d X c=>?_)
  .simp only[kF,qu (jf _),Cj]
  .simp only[kF,qq d,Ci,wS j];refine Ck (HV a) ?_;have e:dj (U3 br j) [!br.any fun y=>y==(j:Int)]=V (U3 br (j+1)):=GN (f:=fun k:Nat=>!br.any fun y=>y==(k:Int)) (by omega);rw[e];exact c
 unfold ov;exact Ck b .done
def qae(br:List Int)(m:Nat):Bool:=(br.all fun x=>gd x 0 ((m:Int)-1))&&HT br
theorem YF{v:cL}{br:List Int}(A:v.links.length<=10000)(h:qae br v.links.length=An):Ev (fun n=>pa n (V v) br) (V ⟨V v,U3 br v.links.length⟩):=by
 unfold qae at h;rw[je,tn,aG] at h;have u:xY (v.links.length:Int) Cd=V (pre (fun _=>Cd) v.links.length):=yE (by omega);generalize hM:v.links.length=M at A h u⊢;have m:∀j i,i<j->j<br.length->gt br i<gt br j:=by
  intro j
  induction j with
  |zero=>intro i hi _;omega
  |succ j ih=>
   intro i hi b;have c:=h.2;unfold HT at c;rw[aG] at c;have c:=c (j+1) b;unfold xO at c;simp only[Bool.or_eq_true,decide_eq_true_eq,Nat.add_sub_cancel] at c;have s:gt br j<gt br (j+1):=by
    rcases c with c|c
    .omega
    .exact c
   by_cases r:i=j
   .rw[r];exact s
   .have:=ih i (by omega) (by omega);omega
 have o:∀j,j<br.length->(j:Int)<=gt br j:=by
  intro j
  induction j with
  |zero=>
   intro b;have:=h.1 0 b;rw[bV] at this;omega
  |succ j ih=>
   intro b;have:=ih (by omega);have:=m (j+1) j (by omega) b;omega
 have C:br.length<=M:=by
  by_cases D:br.length=0
  .omega
  .have F:=o (br.length-1) (by omega);have B:=h.1 (br.length-1) (by omega);rw[bV] at B;omega
 have e1:Ev (fun n=>et (pre (fun _=>Cd) M) n (pre (fun _=>Cd) M) 0) (pre (fun _=>An) M,(M:Int)):=by
  have:=fD (Lf:=et (pre (fun _=>Cd) M)) (S:=fun j=>pre (fun k=>decide (k<j)) M) (len:=M) (fin:=(pre (fun _=>An) M,(M:Int))) (fun n=>by
    simp only[et,vX,qu (jf _),Cj];rw[rf (g:=fun _=>An) fun k d=>decide_eq_true d])
   (fun j b X l=>by
    simp only[et,vX,qq b,Ci,rg (f:=fun k=>decide (k<j)) b,jd,GO,wS j];have:pre (fun k=>decide (k<j+1)) M=pre (fun k=>if k=j then An else decide (k<j)) M:=rf fun k _=>by
     by_cases d:k=j
     .rw[if_pos d,d];simp
     .rw[if_neg d,decide_eq_decide];omega
    rw[this] at l;exact l)
  simpa using this
 have z:Ev (fun n=>eu br n (pre (fun _=>An) M) 0) (U3 br M,(br.length:Int)):=by
  have:=fD (Lf:=eu br) (S:=fun j=>pre (fun k=>!(br.take j).any fun y=>y==(k:Int)) M) (len:=br.length) (fin:=(U3 br M,(br.length:Int))) (fun n=>by
    simp only[eu,qu (jf _),Cj,jG];rfl)
   (fun j b X l=>by
    have x:=h.1 j b;rw[bV] at x;obtain⟨a,t⟩:∃a:Nat,gt br j=(a:Int):=⟨_,fa x.1⟩;have p:a<M:=by omega
    simp only[eu,qq b,Ci,qz b,t,rg (f:=fun k=>!(br.take j).any fun y=>y==(k:Int)) p,jd,GO,wS j];have:pre (fun k=>!(br.take (j+1)).any fun y=>y==(k:Int)) M=pre (fun k=>if k=a then Cd else !(br.take j).any fun y=>y==(k:Int)) M:=rf fun k _=>by
     rw[jw b,List.any_append,<-fh b,t];by_cases d:k=a
     .rw[if_pos d,d];simp
     .rw[if_neg d];have:((a:Int)==(k:Int))=Cd:=by simp;omega
      simp[this]
    rw[this] at l;exact l)
  simpa using this
 unfold pa;simp only[jd,hM,u];exact Ck e1 (Ck z .done)
theorem L9{br:List Int}{m:Nat}(h:br.length<=1048576)(i:m<=10000):Ev (fun n=>uc n br (m:Int)) (qae br m):=by
 have g:Ev (fun n=>fq br (m:Int) n 0) (bif bE (fun j=>gd (gt br j) 0 ((m:Int)-1)&&xO br j) br.length then .nxt (br.length:Int) else .ret Cd):=by
  refine lD (Lf:=fq br (m:Int)) (len:=br.length) (Cm (by simp only[fq,qu (jf _),Cj];exact .done)) (fun j d X c=>Cm ?_);simp only[fq,qq d,Ci,qz d,jd,fC,wS j,wO ((m:Int)-1)];cases h1:gd (gt br j) 0 ((m:Int)-1)
  .exact .done
  .refine Cp Z ?_;by_cases b:j=0
   .subst b;exact Cp Z c
   .refine Cr (decide_eq_true (by omega)) ?_;rw[show(j:Int)-1=((j-1:Nat):Int) by omega,qY (by omega) (by omega),qz (show j-1<br.length by omega)];simp only[jd];have f:xO br j=decide (gt br (j-1)<gt br j):=by
     unfold xO;rw[decide_eq_false b,Bool.false_or]
     rfl
    rw[f];by_cases a:gt br (j-1)<gt br j
    .rw[decide_eq_true a];exact Cp (decide_eq_false (by omega)) c
    .rw[decide_eq_false a];exact Cr (decide_eq_true (by omega)) .done
 unfold uc;refine Ck g ?_;unfold qae HT;rw[tn,<-yj];cases bE (fun j=>gd (gt br j) 0 ((m:Int)-1)&&xO br j) br.length<;>exact .done
theorem VC{v:cL}{br:List Int}(a:br.length<=1048576)(b:v.links.length<=10000):Ev (fun n=>lF n (V v) br) (qae br v.links.length):=by
 unfold lF gZ qae;simp only[jd,wO ((v.links.length:Int)-1)];exact Ev.and (iJ a) fun _=>Ev.last (zP a)
theorem YM{b:qf}{br:List Int}(a:wL b)(h:aU b=An)(c:br.length<=1048576):Ev (fun n=>rt n b br) (bif qae br (qd b).length then 0 else 2):=by
 unfold rt;refine Ck (ta a) (Cp (by rw[h];rfl) (Ck (gL h) (Ck (L9 c (lG h)) ?_)));cases qae br (qd b).length<;>exact .done

theorem BU{α:Type}{f:Nat->List α}{n:Nat}{x:α}(h:x∈fm f n):∃j,j<n/\x∈f j:=by
 unfold fm at h;obtain⟨j,a,b⟩:=List.mem_flatMap.1 h;exact⟨j,List.mem_range.1 a,b⟩
theorem B7{x:Int}{j:Nat}{t:Int}(b:E7 t)(d:j<=100000)(e:x=2*(j:Int)+t):qj (x.tdiv 2)=(j:Int)/\x.tmod 2=t:=by
 have c:0<=t/\t<=1:=by rcases b with e|e<;>omega
 have a:0<=x:=by omega
 rw[jM a,Int.tmod_eq_emod_of_nonneg a,qY (by omega) (by omega)];omega
structure qdx(b:qf)(x:qw)(i j m net a:Nat):Prop where
 kind:x.Bf=1
 il:i<b.Aa.Ab.length
 jl:j<(places b.Aa).length
 inst:(gt (places b.Aa) j).instance_=(i:Int)
 net_:(gt (places b.Aa) j).net=(net:Int)
 nl:net<b.Ah.length
 half:qj (x.To.tdiv 2)=(j:Int)
 mod:x.To.tmod 2=(m:Int)
 ml:m<2
 ix:x.Ca=(a:Int)
 al:a<(cH b (i:Int)).Az.length
 d2:(gt (cH b (i:Int)).Az a).Bu.length=2
 s2:(gt (cH b (i:Int)).Az a).Bb.length=2
 dt:∀t,t∈(gt (cH b (i:Int)).Az a).Bu->EO t/\∀k,0<=bO t.Bi k
 st:∀t,t∈(gt (cH b (i:Int)).Az a).Bb->EO t/\∀k,0<=bO t.Bi k
 k3:(gt (cH b (i:Int)).Az a).Bf<=3
structure qdI(b:qf)(x:qw)(j net k:Nat):Prop where
 kind:x.Bf=2
 jl:j<(places b.Aa).length
 net_:(gt (places b.Aa) j).net=(net:Int)
 nl:net<b.Ah.length
 half:qj (x.To.tdiv 2)=(j:Int)
 ix:x.Ca=(k:Int)
 kl:k<(gt b.Ah net).Bj.length
theorem qcx{xs:List Int}(h:0<=qcw xs)(k:Nat):0<=bO xs k:=by
 have b:∀(ys:List Int) (a:Int),(ys.foldl (fun(m y:Int)=>if y<m then y else m) a<=a)/\∀y,y∈ys->ys.foldl (fun(m y:Int)=>if y<m then y else m) a<=y:=by
  intro ys
  induction ys with
  |nil=>intro a;exact⟨jV _,fun y g=>by cases g⟩
  |cons z ys ih=>
   intro a;rw[List.foldl_cons];obtain⟨i,l⟩:=ih (if z<a then z else a);refine⟨?_,fun y g=>?_⟩
   .split at i<;>split<;>omega
   .rcases List.mem_cons.1 g with e|e
    .subst e;split at i<;>split<;>omega
    .exact l y e
 by_cases d:k<xs.length
 .have f:xs[k]∈xs.drop 1\/k=0:=by
   by_cases c:k=0
   .exact .inr c
   .refine .inl ?_;have:xs[k]=(xs.drop 1)[k-1]'(by rw[List.length_drop];omega):=by
     rw[List.getElem_drop]
     congr 1;omega
    rw[this];exact jo _
  rw[wx d];unfold qcw at h;rcases f with f|c
  .exact Int.le_trans h ((b _ _).2 _ f)
  .subst c;have:=(b (xs.drop 1) (bO xs 0)).1;rw[<-wx d];exact Int.le_trans h this
 .rw[A3 d];exact jV _
theorem NZ{a:List aa}(h:nj a An=An):a.length=2/\∀t,t∈a->EO t/\∀k,0<=bO t.Bi k:=by
 unfold nj at h;rw[je,decide_eq_true_eq,Jc] at h;refine⟨h.1,fun t b=>?_⟩;have:=h.2 t b;unfold ZQ at this;simp only[Jm,Bool.false_or,je,decide_eq_true_eq] at this;exact⟨N3 this.1,qcx this.2⟩
theorem XQ{ps:List bj}{a:bi}(h:AS ps a=An)(c:a.Bf<=3)(b:1<=a.Bf):a.To=(ps.length:Int)-1/\nj a.Bu An=An/\nj a.Bb An=An:=by
 unfold AS at h;rcases (by omega:a.Bf=1\/a.Bf=2\/a.Bf=3) with e|e|e
 .rw[e] at h;simp only[beq_self_eq_true,Ci,je,beq_iff_eq] at h;exact⟨h.2.2.1,h.2.2.2.2⟩
 .rw[e] at h;simp only[show((2:Int)==1)=Cd from rfl,Cj,beq_self_eq_true,Bool.true_or,Ci,je,beq_iff_eq] at h;exact⟨h.2.2.1,h.2.2.2.2⟩
 .rw[e] at h;simp only[show((3:Int)==1)=Cd from rfl,Cj,beq_self_eq_true,Bool.or_true,Ci,je,beq_iff_eq] at h;exact⟨h.2.2.1,h.2.2.2.2⟩
theorem WV{a:bi}{t:aj}(h:t∈gA a):1<=a.Bf/\a.Bf<=3:=by
 refine⟨?_,?_⟩<;>refine Int.le_of_not_gt fun b=>?_
 .have:vF 0 0 a=[]:=by
   unfold vF gA;rw[show(a.Bf==2)=Cd from beq_eq_false_iff_ne.2 (by omega),show(a.Bf==3)=Cd from beq_eq_false_iff_ne.2 (by omega),show(a.Bf != 1)=An from bne_iff_ne.2 (by omega)]
   rfl
  unfold vF at this;rw[List.map_eq_nil_iff] at this;rw[this] at h;cases h
 .have:vF 0 0 a=[]:=KC b;unfold vF at this;rw[List.map_eq_nil_iff] at this;rw[this] at h;cases h
theorem pA{b:qf}(h:aU b=An){x:qw}(c:x∈qd b):((∃i j m net a,qdx b x i j m net a)\/∃j net k,qdI b x j net k)/\(0<=x.Bk/\x.Bk<2*((places b.Aa).length:Int))/\(0<=x.To/\x.To<2*((places b.Aa).length:Int)):=by
 have l:=aO h;have P:=qZ l;have hl:=bf P;have S:=wy h;unfold qd at c;rcases List.mem_append.1 c with c|c
 .obtain⟨i,hi,c⟩:=BU c;obtain⟨a,B,c⟩:=BU c;unfold vF at c;obtain⟨t,g,rfl⟩:=List.mem_map.1 c;obtain⟨⟨c0,c1⟩,u,f⟩:=ra l hi;have r:cH b (i:Int)=gt b.Ar.Au (gt b.Aa.Ab i).Bv.toNat:=rfl;rw[<-r] at u f;obtain⟨⟨k1,k5⟩,hf,Q,L⟩:=AY f B;obtain⟨K,A⟩:=WV g;obtain⟨X,o⟩:=QY g;obtain⟨F,Y,tS⟩:=XQ L A K;obtain⟨d2,dt⟩:=NZ Y;obtain⟨s2,st⟩:=NZ tS;have O:=(pG (uw f)).1;have n:(cH b (i:Int)).Bg.length-1<(gt b.Aa.Ab i).Am.length:=by omega
  obtain⟨C,H⟩:=wo hi n;obtain⟨W,n1⟩:=zy l C;have e1:(qap (cG b.Aa i:Int) a (gt (cH b (i:Int)).Az a) t).To=2*((cG b.Aa i+((cH b (i:Int)).Bg.length-1):Nat):Int)+t.e1:=by
   show 2*((cG b.Aa i:Int)+(gt (cH b (i:Int)).Az a).To)+t.e1=_;rw[F];omega
  obtain⟨s,D⟩:=B7 o (by omega) e1;obtain⟨m,I⟩:∃m:Nat,t.e1=(m:Int):=⟨t.e1.toNat,by rcases o with e|e<;>omega⟩;have N:cG b.Aa i+(gt (cH b (i:Int)).Az a).Bk.toNat<(places b.Aa).length:=(wo hi (k:=(gt (cH b (i:Int)).Az a).Bk.toNat) (by omega)).1;have p:(qap (cG b.Aa i:Int) a (gt (cH b (i:Int)).Az a) t).Bk=2*((cG b.Aa i:Int)+(gt (cH b (i:Int)).Az a).Bk)+t.e0:=rfl;refine⟨.inl ⟨i,_,m,(gt (places b.Aa) (cG b.Aa i+((cH b (i:Int)).Bg.length-1))).net.toNat,a,⟨Z,hi,C,by rw[H];rfl,fa W,by omega,s,by rw[D,I],by rcases o with e|e<;>omega,Z,B,d2,s2,dt,st,A⟩⟩,?_,?_⟩
  .rw[p];rcases X with e|e<;>rw[e]<;>omega
  .rw[e1];rcases o with e|e<;>rw[e]<;>omega
 .obtain⟨i,hi,c⟩:=BU c;obtain⟨k,n,c⟩:=BU c;obtain⟨y,T,J,v⟩:=FG n;have M:=(tq l (k:=i) (by omega)).1;have R:=dq h hi;have z:(gt (places b.Aa) y).net=(i:Int):=by
   unfold tU at v;simp only[je,beq_iff_eq] at v;exact v.1
  have d:∀t:Int,E7 t->x=⟨2*(xl b.Aa i:Int)+t,2*bO (pl b i) k+t,2,(k:Int)⟩->((∃i j m net a,qdx b x i j m net a)\/∃j net k,qdI b x j net k)/\(0<=x.Bk/\x.Bk<2*((places b.Aa).length:Int))/\(0<=x.To/\x.To<2*((places b.Aa).length:Int)):=by
   intro t g e;have e1:x.To=2*(y:Int)+t:=by rw[e,J]
   have p:x.Bk=2*(xl b.Aa i:Int)+t:=by rw[e]
   obtain⟨s,D⟩:=B7 g (by omega) e1;refine⟨.inr ⟨y,i,k,⟨by rw[e],T,z,hi,s,by rw[e],by rw[R.snk];exact n⟩⟩,?_,?_⟩
   .rw[p];rcases g with e|e<;>rw[e]<;>omega
   .rw[e1];rcases g with e|e<;>rw[e]<;>omega
  unfold qcW at c;simp only[jN,jH,or_false] at c;rcases c with c|c
  .exact d 0 (.inl Z) (by rw[c,Jn,Jn])
  .exact d 1 (.inr Z) c
theorem uy{α:Type}[Inhabited α]{xs:List α}{k:Nat}(h:k<xs.length):gt xs k∈xs:=by rw[fh h];exact jo h
theorem kf{b:qf}(h:aU b=An):yZ (qd b) (2*(places b.Aa).length) where
 len:=lG h
 nodes:=by have:=bf (qZ (aO h));omega
 fr0:=fun x a=>(pA h (uy a)).2.1.1
 fr1:=fun x a=>by have:=(pA h (uy a)).2.1.2;omega
 to0:=fun x a=>(pA h (uy a)).2.2.1
 to1:=fun x a=>by have:=(pA h (uy a)).2.2.2;omega
theorem PQ{c:qG}(h:nc c=An){kind mode:Int}:∃f:Int,100<=f/\f<=5000/\(∀n,iZ n c kind mode=V f)/\∀n,lE n c kind mode=V f:=by
 unfold nc at h;simp only[je,bV,decide_eq_true_eq] at h;obtain⟨⟨a,b,d,g⟩,_⟩:=h;unfold iZ lE;cases kind==1
 .cases mode==0
  .exact⟨_,g.1,g.2,fun _=>rfl,fun _=>rfl⟩
  .exact⟨_,d.1,d.2,fun _=>rfl,fun _=>rfl⟩
 .cases mode==0
  .exact⟨_,b.1,b.2,fun _=>rfl,fun _=>rfl⟩
  .exact⟨_,a.1,a.2,fun _=>rfl,fun _=>rfl⟩
theorem yJ{p f mode:Int}(h:0<=p)(p1:p<=400000000000)(c:0<=f)(g:f<=5000):(∀n,fW n (qj (p*f)) 1000 mode=V (lW (p*f) 1000 mode))/\∀n,wG n p f mode=V (lW (p*f) 1000 mode):=by
 have i:=jU h c;have k:p*f<=400000000000*5000:=Jb p1 g c (by omega);have e:qj (p*f)=p*f:=qY (by omega) (by omega);have d:=fun n=>wB (n:=n) (a:=p*f) (b:=1000) (mode:=mode) (by omega) (by omega) (by omega);refine⟨fun n=>by rw[e];exact d n,fun n=>?_⟩;unfold wG;rw[e,RU (m:=0),d 0]
 rfl
theorem U4{l h H:Int}(c:0<=l)(d:l<h)(f:h<=H)(g:H<=3000000000):qj (qj (qj (l+h)+1) |>.tdiv 2)=(l+h+1) / 2/\qj ((l+h+1) / 2*((l+h+1) / 2))=(l+h+1) / 2*((l+h+1) / 2)/\qj ((l+h+1) / 2-1)=(l+h+1) / 2-1:=by
 have a:0<=(l+h+1) / 2/\(l+h+1) / 2<=3000000000:=by omega
 have i:(l+h+1) / 2*((l+h+1) / 2)<=3000000000*3000000000:=Jb a.2 a.2 a.1 (by omega);have b:=jU a.1 a.1;rw[wO (l+h),wO (l+h+1),jM (by omega),wO ((l+h+1) / 2),wO ((l+h+1) / 2-1)];exact⟨Z,qY (by omega) (by omega),Z⟩
theorem Y3{y mode:Int}(k:0<=y)(r:y<=4000000000000000000):∃v,uv y v/\v<=2000000000/\Ev (fun n=>ub n y mode) (if mode=1/\v*v<y then v+1 else v):=by
 obtain⟨v,r1,f,p⟩:=QR (Lf:=fun n l h=>kE y n l h) (fin:=fun l=>(l,l)) (x:=y) (H:=2000000000) k (by omega) (by omega)
  (fun n l _ _=>by simp only[kE,show decide (l<l)=Cd from decide_eq_false (Int.lt_irrefl l),Cj])
  (fun n l h a b m=>by
   obtain⟨e1,g,i⟩:=U4 a b m (by omega);simp only[kE,decide_eq_true b,Ci,e1,g,i])
 refine⟨v,r1,f,?_⟩;unfold ub;refine Ck p ?_;have d:=r1.pos;have s:v*v<=2000000000*2000000000:=Jb f f d (by omega);have o:=jU d d;simp only[wO (v*v),wO (v+1)];by_cases c:mode=1
 .refine Cr (by simpa using c) ?_;by_cases a:v*v<y
  .rw[if_pos ⟨c,a⟩];exact Cr (decide_eq_true a) .done
  .rw[if_neg fun h=>a h.2];exact Cp (decide_eq_false a) .done
 .rw[if_neg fun h=>c h.1];exact Cp (by simpa using c) .done
theorem T5{y:Int}(d:0<=y)(m:y<=4000000000000000000):∃v,uv y v/\v<=3000000000/\Ev (fun n=>CZ n y) v:=by
 obtain⟨v,r1,i,k⟩:=QR (Lf:=fun n l h=>nZ y n l h) (fin:=fun l=>(l,l)) (x:=y) (H:=3000000000) d (by omega) (by omega)
  (fun n l _ _=>by simp only[nZ,show decide (l<l)=Cd from decide_eq_false (Int.lt_irrefl l),Cj])
  (fun n l h g a f=>by
   obtain⟨e1,b,c⟩:=U4 g a f (by omega);simp only[nZ,decide_eq_true a,Ci,e1,b,c])
 refine⟨v,r1,i,?_⟩;unfold CZ;exact Ck k .done
theorem N5{sl d mode:Int}(s0:0<=sl)(s1:sl<=1000000)(g:0<=d)(l:d<=344000000)(o:mode=0\/mode=1):∃r:Int,0<=r/\(∃v,uv (4*(250000*(sl*sl)+d*d)) v/\v<=2000000000/\r=lW (if mode=1/\v*v<4*(250000*(sl*sl)+d*d) then v+1 else v) 1000 mode) /\
  Ev (fun n=>(ub n (qj (qj (qj (1000000*sl)*sl)+qj (qj (4*d)*d))) mode).bind fun z=>(fW n z 1000 mode).bind fun A=>V A) r/\Ev (fun n=>uM n sl d mode) r:=by
 have I:=jU s0 s0;have J:sl*sl<=1000000*1000000:=Jb s1 s1 s0 (by omega);have K:=jU g g;have L:d*d<=344000000*344000000:=Jb l l g (by omega);have e1:qj (qj (qj (1000000*sl)*sl)+qj (qj (4*d)*d))=4*(250000*(sl*sl)+d*d):=by
  rw[wO (1000000*sl),wO (4*d),Jg 1000000,Jg 4,wO (1000000*(sl*sl)),wO (4*(d*d)),qY (by omega) (by omega)];omega
 have s:qj (qj (qj (qj (500*sl)*500)*sl)+qj (d*d))=250000*(sl*sl)+d*d:=by
  rw[wO (500*sl),wO (500*sl*500),show 500*sl*500*sl=250000*(sl*sl) by rw[<-Jg];congr 1;omega,wO (250000*(sl*sl)),wO (d*d),qY (by omega) (by omega)]
 obtain⟨v,k,B,C⟩:=Y3 (mode:=mode) (y:=4*(250000*(sl*sl)+d*d)) (by omega) (by omega);obtain⟨w,w1,p,D⟩:=T5 (y:=250000*(sl*sl)+d*d) (by omega) (by omega);have x:=ZK w1 k o;have H:=k.pos;have f:=w1.pos;have a:0<=(if mode=1/\v*v<4*(250000*(sl*sl)+d*d) then v+1 else v)/\(if mode=1/\v*v<4*(250000*(sl*sl)+d*d) then v+1 else v)<=1000*3000000:=by split<;>omega
 refine⟨_,(xk (b:=1000) (mode:=mode) (M:=3000000) (by omega) a.1 a.2).1,⟨v,k,B,Z⟩,?_,?_⟩
 .rw[e1];exact Ck C (Ck ⟨0,fun n _=>wB (by omega) (by omega) (by omega)⟩ .done)
 .rw[x];unfold uM;rw[s];refine Ck D ?_;have F:w*w<=3000000000*3000000000:=Jb p p f (by omega);have u:=jU f f;have t:(fun n=>mz n w 500 mode)=fun _=>V (lW w 500 mode):=by
   funext n
   rw[RU (m:=0),wB (by omega) (by omega) (by omega)]
  have i:=congrFun t;simp only[wO (w*w),jM f,wO (w / 500),wO (w / 500+1),i,jd];rcases o with rfl|rfl
  .rw[if_neg (by omega)];exact .done
  .by_cases c:w*w<250000*(sl*sl)+d*d
   .rw[if_pos ⟨Z,c⟩,decide_eq_true c];exact .done
   .rw[if_neg fun h=>c h.2,decide_eq_false c];exact .done
theorem VM{t:aa}(h:EO t/\∀k,0<=bO t.Bi k)(sl ld mode:Int):∃r:Int,0<=r/\r<=1000000/\Ev (fun n=>om n t sl ld mode) r/\Ev (fun n=>gn n t sl ld mode) r:=by
 obtain⟨S,D,D0,S1,_,_,_,S0,a⟩:=C3 h.1 sl ld;obtain⟨b,r1⟩:=xk (mode:=mode) D0 (S0 h.2) S1;exact⟨_,b,r1,a mode⟩
theorem YQ{b:qf}{ex:List Int}{x:qw}{j net:Nat}(jl:j<(places b.Aa).length)(c:(gt (places b.Aa) j).net=(net:Int))(a:qj (x.To.tdiv 2)=(j:Int))(n:Nat):md n (V (na b ex)) x=V (net:Int):=by
 unfold md;show(qF (places b.Aa) (qj (x.To.tdiv 2))).bind _=_;rw[a,qz jl];exact congrArg V c
theorem P2{b:qf}{ex:List Int}(h:aU b=An){x:qw}{i j m net a:Nat}(c:qdx b x i j m net a)(n:Nat):oA n (V (na b ex)) x=V (gt (cH b (i:Int)).Az a):=by
 obtain⟨⟨d,c1⟩,_,_⟩:=ra (aO h) c.il;unfold oA;show(qF (places b.Aa) (qj (x.To.tdiv 2))).bind (fun f=>(qF b.Aa.Ab f.instance_).bind fun g=>(qF b.Ar.Au g.Bv).bind fun k=>(qF k.Az x.Ca).bind fun l=>V l)=_;rw[c.half,qz c.jl,jd,c.inst,qz c.il,jd,kO d c1,jd,c.ix];show(qF (cH b (i:Int)).Az (a:Int)).bind _=_;rw[qz c.al];rfl
theorem DA{b:qf}(h:aU b=An){x:qw}{i j m net a:Nat}(c:qdx b x i j m net a):Ev (fun n=>vo n b x) (gt (cH b (i:Int)).Az a,vI b net):=by
 have d:=aO h;have s:=qZ d;obtain⟨⟨f,c1⟩,_,_⟩:=ra d c.il;have r:qF ((places b.Aa).map lX) (j:Int)=V (lX (gt (places b.Aa) j)):=by
  refine pp ?_;rw[List.getElem?_map,jj c.jl,fh c.jl];rfl
 have o:=zq h c.nl;have p:=(dq h c.nl).lo;have g:(lX (gt (places b.Aa) j)).instance_=(i:Int):=c.inst;have k:(lX (gt (places b.Aa) j)).net=(net:Int):=c.net_;have l:qF (gt b.Ar.Au (gt b.Aa.Ab i).Bv.toNat).Az (a:Int)=V (gt (cH b (i:Int)).Az a):=qz c.al;unfold vo;refine Ck (od s) ?_;simp only[c.half,r,jd,g,k,qz c.il,kO f c1,c.ix,l];refine Ck (KJ h c.nl) ?_;rw[show qF (dy b net) (0:Int)=V (vI b net) from qz (j:=0) (by omega)];exact .done
theorem DB{b:qf}(h:aU b=An){x:qw}{j net k:Nat}(a:qdI b x j net k):Ev (fun n=>vq n b x) (net:Int):=by
 have f:=qZ (aO h);have d:qF ((places b.Aa).map lX) (j:Int)=V (lX (gt (places b.Aa) j)):=by
  refine pp ?_;rw[List.getElem?_map,jj a.jl,fh a.jl];rfl
 have c:(lX (gt (places b.Aa) j)).net=(net:Int):=a.net_;unfold vq;refine Ck (od f) ?_;simp only[a.half,d,jd,c];exact .done
theorem SG{b:qf}{c:qG}(ex:List Int)(h:aU b=An)(L:nc c=An){k:Nat}(N:k<(qd b).length){sl mode:Int}(s0:0<=sl)(s1:sl<=1000000)(X:mode=0\/mode=1) :
  (∃D:Int,Ev (fun n=>cK n b c (gt (qd b) k) sl mode) D/\Ev (fun n=>fI n (V (na b ex)) c (k:Int) sl mode) D) /\
  ∃S:Int,0<=S/\S<=1000000/\Ev (fun n=>kW n b (gt (qd b) k) sl mode) S/\Ev (fun n=>db n (V (na b ex)) (k:Int) sl mode) S:=by
 have t:qF (na b ex).links (k:Int)=V (gt (qd b) k):=qz N;obtain⟨d,_⟩:=pA h (uy N);generalize gt (qd b) k=x at d t;rcases d with⟨i,j,m,net,a,d⟩|⟨j,net,q,d⟩
 .have l:=YQ (ex:=ex) d.jl d.net_ d.half;have o:=P2 (ex:=ex) h d;have s:qF (na b ex).loads (net:Int)=V (vI b net):=rg (f:=vI b) d.nl;obtain⟨f,T,A,H,F⟩:=PQ L (kind:=x.Bf) (mode:=mode);have z:m<(gt (cH b (i:Int)).Az a).Bu.length:=by rw[d.d2];exact d.ml
  have I:m<(gt (cH b (i:Int)).Az a).Bb.length:=by rw[d.s2];exact d.ml
  obtain⟨r,r0,r1,rs,ri⟩:=VM (d.dt _ (uy z)) sl (vI b net) mode;obtain⟨u,O,u1,K,J⟩:=VM (d.st _ (uy I)) sl (vI b net) mode;obtain⟨c1,y⟩:=yJ (mode:=mode) r0 (by omega) (show 0<=f by omega) A;have g:(x.Bf==1)=An:=by rw[d.kind];rfl
  refine⟨⟨lW (r*f) 1000 mode,?_,?_⟩,⟨u,O,u1,?_,?_⟩⟩
  .unfold cK;refine Cr g (Ck (DA h d) ?_);simp only[d.mod,qz z,jd,H];exact Ck rs (Ck ⟨0,fun n _=>c1 n⟩ .done)
  .unfold fI;simp only[jd,t,l,s,o,d.mod,qz z,F];exact Cr g (Ck ri (Ck ⟨0,fun n _=>y n⟩ .done))
  .unfold kW;refine Cr g (Ck (DA h d) ?_);simp only[d.mod,qz I,jd];exact Ck K .done
  .unfold db;simp only[jd,t,l,s,o,d.mod,qz I];refine Cr g (Ck J (Cx ?_));rw[if_neg (by omega)]
 .have l:=YQ (ex:=ex) d.jl d.net_ d.half;have p:qF (na b ex).delays (net:Int)=V (cS b net):=rg (f:=cS b) d.nl;have B:(cS b net).length=(gt b.Ah net).Bj.length:=by unfold cS;rw[jq]
  have v:q<(cS b net).length:=by rw[B];exact d.kl
  obtain⟨P,x1⟩:=ES h d.nl d.kl;obtain⟨f,T,A,H,F⟩:=PQ L (kind:=x.Bf) (mode:=mode);have Q:=fun n=>wB (n:=n) (a:=gt (cS b net) q) (b:=1000) (mode:=mode) (by omega) (by omega) (by omega);obtain⟨e,p1⟩:=xk (a:=gt (cS b net) q) (b:=1000) (mode:=mode) (M:=344000) (by omega) P (by omega);obtain⟨c1,y⟩:=yJ (mode:=mode) e (by omega) (show 0<=f by omega) A;have g:(x.Bf==1)=Cd:=by rw[d.kind];rfl
  have hi:qF ((cS b net).map fun x=>lW x 1000 mode) (q:Int)=V (lW (gt (cS b net) q) 1000 mode):=by
   rw[qz (by rw[jq];exact v),ET v]
  obtain⟨u,O,_,K,J⟩:=N5 s0 s1 P x1 X;refine⟨⟨lW (lW (gt (cS b net) q) 1000 mode*f) 1000 mode,?_,?_⟩,⟨if u<1000000 then u else 1000000,by split<;>omega,by split<;>omega,?_,?_⟩⟩
  .unfold cK;refine Cp g (Ck (DB h d) (Ck (uD h d.nl) ?_));simp only[d.ix,hi,jd,H];exact Ck ⟨0,fun n _=>c1 n⟩ .done
  .unfold fI;simp only[jd,t,l,p,d.ix,qz v,F];refine Cp g (Ck (b:=lW (gt (cS b net) q) 1000 mode) ⟨0,fun n _=>(RU (m:=0)).trans (Q 0)⟩ (Ck ⟨0,fun n _=>y n⟩ .done))
  .have Y:=dq h d.nl;have C:=Y.sin q d.kl;have W:=BA h d.nl;have R:gt (cS b net) q=gt (eh b net) (bO (gt b.Ah net).Bj q).toNat:=by
    unfold cS;rw[fh (by rw[jq];exact d.kl),List.getElem_map,wx d.kl]
   unfold kW zF;refine Cp g (Ck (DB h d) ?_);simp only[d.ix,qz d.nl,jd,aX d.kl];refine Ck (b:=u) (Ck (GB h d.nl) ?_) .done;rw[kO C.1 (show bO (gt b.Ah net).Bj q<((eh b net).length:Int) by omega)];simp only[jd];rw[<-R];exact K
  .unfold db;simp only[jd,t,l,p,d.ix,qz v];refine Cp g (Ck J (Cx ?_))
   congr 1
   split<;>split<;>omega
theorem xw{b:qf}{c:qG}(h:aU b=An)(g:nc c=An){k:Nat}(i:k<(qd b).length){sl mode:Int}(s0:0<=sl)(s1:sl<=1000000)(l:mode=0\/mode=1) :
  (∃D:Int,Ev (fun n=>cK n b c (gt (qd b) k) sl mode) D/\∀ex,Ev (fun n=>fI n (V (na b ex)) c (k:Int) sl mode) D) /\
  ∃S:Int,0<=S/\S<=1000000/\Ev (fun n=>kW n b (gt (qd b) k) sl mode) S/\∀ex,Ev (fun n=>db n (V (na b ex)) (k:Int) sl mode) S:=by
 obtain⟨⟨D,m,_⟩,⟨S,a,c',d,_⟩⟩:=SG [] h g i s0 s1 l;refine⟨⟨D,m,fun ex=>?_⟩,⟨S,a,c',d,fun ex=>?_⟩⟩
 .obtain⟨⟨D',e1,f⟩,_⟩:=SG ex h g i s0 s1 l;rw[m.uniq e1];exact f
 .obtain⟨_,⟨S',_,_,e1,f⟩⟩:=SG ex h g i s0 s1 l;rw[d.uniq e1];exact f

def OL(s:qg):Prop:=(0<=s.As/\s.As<=1000000)/\(0<=s.Be/\s.Be<=1000000)
def xR(b:qf)(c:qG)(f:Nat->qg->qg×qg):Prop:=∀k s,k<(qd b).length->OL s->OL (f k s).2/\Ev (fun n=>mW n b c (gt (qd b) k) s) (f k s)
def EN(b:qf)(c:qG)(ex:List Int)(f:Nat->qg->qg×qg):Prop:=∀k s,k<(qd b).length->OL s->OL (f k s).2/\Ev (fun n=>me n (V (na b ex)) c (k:Int) s) (f k s)
def qdK(b:qf)(ex:List Int)(k:Nat):Int:=bif (gt (qd b) k).Bf==2 then gt ex (gt (places b.Aa) ((gt (qd b) k).To / 2).toNat).net.toNat else 0
def qdw(e:Int)(s:qg):qg:=⟨qj (s.As-e),qj (s.Be+e)⟩
def XA(b:qf)(ex:List Int)(f:Nat->qg->qg×qg)(k:Nat)(s:qg):qg×qg:=bif decide (0<ex.length)&&((gt (qd b) k).Bf==2) then(qdw (qdK b ex k) (f k s).1,(f k s).2) else f k s
theorem WP{b:qf}{c:qG}(h:aU b=An)(D:nc c=An):∃f,xR b c f/\∀ex:List Int,ex.length=0\/ex.length=b.Ah.length->EN b c ex (XA b ex f):=by
 have C:∀x:Nat×qg,∃r:qg×qg,x.1<(qd b).length->OL x.2->OL r.2/\Ev (fun n=>mW n b c (gt (qd b) x.1) x.2) r/\∀ex:List Int,ex.length=0\/ex.length=b.Ah.length->Ev (fun n=>me n (V (na b ex)) c (x.1:Int) x.2) (XA b ex (fun _ _=>r) x.1 x.2):=by
  rintro⟨k,s⟩;by_cases d:k<(qd b).length/\OL s
  .obtain⟨d,⟨e0,e1⟩,⟨l0,l1⟩⟩:=d;obtain⟨⟨l,p1,Y⟩,⟨t,a1,b1,v1,w1⟩⟩:=xw h D d e0 e1 (mode:=0) (.inl Z);obtain⟨⟨d2,T,e⟩,⟨u,a2,b2,v2,w2⟩⟩:=xw h D d e0 e1 (mode:=1) (.inr Z);obtain⟨⟨o,W,q3⟩,⟨v,a3,b3,v3,w3⟩⟩:=xw h D d l0 l1 (mode:=0) (.inl Z);obtain⟨⟨p,X,q4⟩,⟨y,a4,b4,v4,w4⟩⟩:=xw h D d l0 l1 (mode:=1) (.inr Z);refine⟨(⟨if o<l then o else l,if p > d2 then p else d2⟩,⟨if v<t then v else t,if y > u then y else u⟩),fun _ _=>⟨⟨?_,?_⟩,?_,fun ex B=>?_⟩⟩
   .show 0<=(if v<t then v else t)/\(if v<t then v else t)<=1000000;split<;>omega
   .show 0<=(if y > u then y else u)/\(if y > u then y else u)<=1000000;split<;>omega
   .unfold mW;exact Ck p1 (Ck T (Ck v1 (Ck v2 (Ck W (Ck X (Ck v3 (Ck v4 .done)))))))
   .unfold me;refine Ck (Y ex) (Ck (q3 ex) (Ck (e ex) (Ck (q4 ex) ?_)));have S:qF (na b ex).links (k:Int)=V (gt (qd b) k):=qz d;have g:(na b ex).extras=ex:=rfl;simp only[jd,S,g];unfold XA;have fin:∀r:Int×Int,Ev (fun n=>(db n (V (na b ex)) (k:Int) s.As 0).bind fun J=>(db n (V (na b ex)) (k:Int) s.Be 0).bind fun K=>(db n (V (na b ex)) (k:Int) s.As 1).bind fun L=>(db n (V (na b ex)) (k:Int) s.Be 1).bind fun M=>
      V ((⟨r.1,r.2⟩:qg),(⟨if K<J then K else J,if M > L then M else L⟩:qg))) ((⟨r.1,r.2⟩:qg),(⟨if v<t then v else t,if y > u then y else u⟩:qg)):=fun r=>Ck (w1 ex) (Ck (w3 ex) (Ck (w2 ex) (Ck (w4 ex) .done)))
    rw[show decide ((ex.length:Int) > 0)=decide (0<ex.length) by rw[decide_eq_decide];omega];cases hl:decide (0<ex.length)
    .exact Ck (b:=Cd) (Cx Z) (Ck (b:=(if o<l then o else l,if p > d2 then p else d2)) (Cx Z) (fin _))
    .cases hkd:(gt (qd b) k).Bf==2
     .exact Ck (b:=Cd) (Cx Z) (Ck (b:=(if o<l then o else l,if p > d2 then p else d2)) (Cx Z) (fin _))
     .obtain⟨H,_⟩:=pA h (uy d);rcases H with⟨i,j,m,net,a,g⟩|⟨j,net,q,g⟩
      .rw[g.kind] at hkd;cases hkd
      .have Q:=YQ (ex:=ex) g.jl g.net_ g.half;have I:net<ex.length:=by
        have:=of_decide_eq_true hl;have:=g.nl;omega
       have P:=(pA h (uy d)).2.2;have R:=bf (qZ (aO h));have O:((gt (qd b) k).To / 2).toNat=j:=by
        have:=g.half;rw[jM P.1,qY (by omega) (by omega)] at this;omega
       have N:qdK b ex k=gt ex net:=by
        unfold qdK;rw[hkd,O,g.net_,jr]
        rfl
       refine Ck (b:=An) (Cx Z) (Ck (b:=(qj ((if o<l then o else l)-gt ex net),qj ((if p > d2 then p else d2)+gt ex net))) ?_ ?_)
       .simp only[Q,jd,qz I];exact .done
       .rw[N];exact fin _
  .exact⟨(s,s),fun z A=>absurd ⟨z,A⟩ d⟩
 obtain⟨f,F⟩:=Classical.axiomOfChoice C;exact⟨fun k s=>f (k,s),fun k s z A=>⟨(F (k,s) z A).1,(F (k,s) z A).2.1⟩,fun ex B k s z A=>⟨by
  have:=(F (k,s) z A).1;unfold XA;cases decide (0<ex.length)&&((gt (qd b) k).Bf==2)<;>exact this,(F (k,s) z A).2.2 ex B⟩⟩
theorem RC{b:qf}{f:Nat->qg->qg×qg}:XA b [] f=f:=rfl
def N8:qg:=⟨0,0⟩
def ZU:ql:=⟨0,N8,N8⟩
def EF(s t:qg):qg:=⟨if t.As<s.As then t.As else s.As,if t.Be > s.Be then t.Be else s.Be⟩
theorem PY{s t:qg}:(⟨if s.As<t.As then s.As else t.As,if s.Be > t.Be then s.Be else t.Be⟩:qg)=EF s t:=by
 unfold EF
 congr 1
 .split<;>split<;>omega
 .split<;>split<;>omega
def ur(s t:qg):qg:=⟨qj (s.As+t.As),qj (s.Be+t.Be)⟩
def zQ(node:Int)(s:Bool×ql)(ar sl:qg):Bool×ql:=bif s.1 then(An,⟨node,EF s.2.Af ar,EF s.2.Bb sl⟩) else(An,⟨node,ar,sl⟩)
def gY(ls:List qw)(k:Nat):Nat:=(gt ls k).Bk.toNat
def nU(f:Nat->qg->qg×qg)(ls:List qw)(t:qn)(node:Int)(s:Bool×ql)(k:Nat):Bool×ql:=
 bif gt t.Aq (gY ls k) then zQ node s (ur (gt t.Af (gY ls k)) (f k (gt t.Bb (gY ls k))).1) (f k (gt t.Bb (gY ls k))).2 else s
def uh(ls:List qw)(lv:List Bool)(node:Int)(k:Nat):Bool:=zr lv k&&(DK ls k==node)
def aI(xs:List ql)(node:Int):Option ql:=xs.find? fun s=>s.Bn==node
def bh(o:Option ql):Bool×ql:=match o with|some y=>(An,y)|none=>(Cd,ZU)
def oy(f:Nat->qg->qg×qg)(ls:List qw)(lv:List Bool)(t:qn)(node:Int)(s0:Bool×ql):Nat->Bool×ql
 |0=>s0
 |k+1=>bif uh ls lv node k then nU f ls t node (oy f ls lv t node s0 k) k else oy f ls lv t node s0 k
theorem U7{f:Nat->qg->qg×qg}{ls:List qw}{lv:List Bool}{t:qn}{node:Int}{s0:Bool×ql}{j:Nat}:(lg (uh ls lv node) j).foldl (nU f ls t node) s0=oy f ls lv t node s0 j:=by
 induction j with
 |zero=>rfl
 |succ j ih=>
  rw[wr,List.foldl_append,ih];show _=bif uh ls lv node j then nU f ls t node (oy f ls lv t node s0 j) j else oy f ls lv t node s0 j;cases uh ls lv node j<;>rfl
structure EP(t:qn)(M:Nat):Prop where
 r:t.Aq.length=M
 a:t.Af.length=M
 s:t.Bb.length=M
 sl:∀k,k<M->OL (gt t.Bb k)
structure KB(xs:List ql):Prop where
 len:xs.length<=1048576
 inc:∀j i,i<j->j<xs.length->(gt xs i).Bn<(gt xs j).Bn
 sl:∀x,x∈xs->OL x.Bb
theorem CN{xs:List ql}{node:Int}(g:xs.length<=1048576):Ev (fun n=>fB n xs node) ((bh (aI xs node)).2,(bh (aI xs node)).1):=by
 have c:Ev (fun n=>bQ n xs node) (KZ (fun s=>s.Bn==node) xs):=
  nF (fin:=(xs.length:Int)) (Lf:=aw xs node) (xs:=xs) (pf:=fun n x=>vx n x node) (fun _ _=>.done)
   (fun n=>by simp only[aw,qu (jf _),Cj])
   (fun n j x b=>by
    have a:=(List.getElem?_eq_some_iff.1 b).1;simp only[aw,qq a,Ci,pp b,jd,wS j])
   (fun n=>by unfold bQ;congr 1;funext o;cases o<;>rfl)
 unfold fB;refine Ck c ?_;unfold KZ aI;cases hf:xs.findIdx? (fun s=>s.Bn==node) with
 |none=>
  have:xs.find? (fun s=>s.Bn==node)=U:=by
   rw[List.find?_eq_none];intro x b;have:=List.findIdx?_eq_none_iff.1 hf x b;simpa using this
  rw[this];exact Cp Z .done
 |some j=>
  obtain⟨a,f,d⟩:=List.findIdx?_eq_some_iff_getElem.1 hf;have:xs.find? (fun s=>s.Bn==node)=V xs[j]:=by
   rw[List.find?_eq_some_iff_getElem];exact⟨f,j,a,Z,fun i hi=>by have:=d i hi;simpa using this⟩
  rw[this];refine Cr (show decide ((j:Int)>=0)=An from decide_eq_true (by omega)) ?_;show Ev (fun n=>(qF xs (j:Int)).bind _) _;rw[cj a];exact .done
theorem yT{xs:List ql}{node:Int}{y:ql}(h:aI xs node=V y):y.Bn=node/\y∈xs:=by
 have a:=List.find?_some h;exact⟨by simpa using a,List.mem_of_find?_eq_some h⟩
theorem qbi{xs:List ql}{node:Int}(h:KB xs) :
  Ev (fun n=>gS xs node n 0 0 0 0 0 Cd 0) ((bh (aI xs node)).2.Bn,(bh (aI xs node)).2.Af.As,(bh (aI xs node)).2.Af.Be,(bh (aI xs node)).2.Bb.As,(bh (aI xs node)).2.Bb.Be,(bh (aI xs node)).1,(xs.length:Int)):=by
 have g:=h.len;have:=fD (τ:=Bool×ql) (Lf:=fun n s j=>gS xs node n s.2.Bn s.2.Af.As s.2.Af.Be s.2.Bb.As s.2.Bb.Be s.1 j) (S:=fun j=>bh (aI (xs.take j) node)) (len:=xs.length)
  (fin:=((bh (aI xs node)).2.Bn,(bh (aI xs node)).2.Af.As,(bh (aI xs node)).2.Af.Be,(bh (aI xs node)).2.Bb.As,(bh (aI xs node)).2.Bb.Be,(bh (aI xs node)).1,(xs.length:Int)))
  (fun n=>by simp only[gS,qu (jf _),Cj,jG])
  (fun j a X c=>by
   simp only[gS,qq a,Ci,qz a,jd,wS j];have e:aI (xs.take (j+1)) node=(aI (xs.take j) node).or (bif (gt xs j).Bn==node then V (gt xs j) else U):=by
    unfold aI;rw[jw a,List.find?_append,<-fh a]
    congr 1
   cases hq:(gt xs j).Bn==node
   .rw[hq] at e;have e:aI (xs.take (j+1)) node=aI (xs.take j) node:=by rw[e];cases aI (xs.take j) node<;>rfl
    rw[e] at c;exact c
   .rw[hq] at e;have d:aI (xs.take j) node=U:=by
     unfold aI;rw[List.find?_eq_none];intro x f b;obtain⟨i,hi,rfl⟩:=List.mem_iff_getElem.1 f;rw[jy] at hi;rw[Jh,<-fh (by omega)] at b;have:=h.inc j i (by omega) a;simp only[beq_iff_eq] at hq b;omega
    have e:aI (xs.take (j+1)) node=V (gt xs j):=by rw[e,d];rfl
    rw[e] at c;exact c)
 exact this
theorem tu{ls:List qw}{M:Nat}(h:yZ ls M){k:Nat}(a:k<ls.length):(gt ls k).Bk=(gY ls k:Int)/\gY ls k<M:=by
 have b:=h.fr0 k a;have c:=h.fr1 k a;unfold gY;omega
section
variable{b:qf}{c:qG}{ex:List Int}{f:Nat->qg->qg×qg}{lv:List Bool}{t:qn}{xs:List ql}{node:Int}
theorem Y2(h:aU b=An)(o:xR b c f)(u:lv.length=(qd b).length)(i:EP t (2*(places b.Aa).length))(r:KB xs) :
  Ev (fun n=>ud n b c (qd b) lv xs t node) (oy f (qd b) lv t node (bh (aI xs node)) (qd b).length):=by
 have k:=kf h;have p:=k.len;have m:=fD (τ:=Bool×ql) (Lf:=fun n s j=>gT b c (qd b) lv t node n s.2.Bn s.2.Af.As s.2.Af.Be s.2.Bb.As s.2.Bb.Be s.1 j) (S:=fun j=>oy f (qd b) lv t node (bh (aI xs node)) j) (len:=(qd b).length)
  (fin:=(fun s:Bool×ql=>(s.2.Bn,s.2.Af.As,s.2.Af.Be,s.2.Bb.As,s.2.Bb.Be,s.1,((qd b).length:Int))) (oy f (qd b) lv t node (bh (aI xs node)) (qd b).length))
  (fun n=>by simp only[gT,qu (jf _),Cj])
  (fun j g X a=>by
   obtain⟨e1,d⟩:=tu k g;have l:oy f (qd b) lv t node (bh (aI xs node)) (j+1)=bif uh (qd b) lv node j then nU f (qd b) t node (oy f (qd b) lv t node (bh (aI xs node)) j) j else oy f (qd b) lv t node (bh (aI xs node)) j:=rfl;rw[l] at a;generalize oy f (qd b) lv t node (bh (aI xs node)) j=s at a⊢;simp only[gT,qq g,Ci,qz g,qz (show j<lv.length by omega),jd,e1,qz (show gY (qd b) j<t.Aq.length by rw[i.r];exact d),qz (show gY (qd b) j<t.Af.length by rw[i.a];exact d),qz (show gY (qd b) j<t.Bb.length by rw[i.s];exact d),wS j];unfold uh zr DK at a;cases h1:gt lv j
   .rw[h1] at a;exact a
   rw[h1,jL] at a;cases h2:(gt (qd b) j).To==node
   .rw[h2] at a;simp only[bne,h2];exact a
   rw[h2] at a;simp only[bne,h2];unfold nU at a;cases h3:gt t.Aq (gY (qd b) j)
   .rw[h3] at a;exact a
   rw[h3] at a;simp only[Ci] at a;obtain⟨_,s1⟩:=o j _ g (i.sl _ d);refine Ck (b:=Cd) (Cx Z) (Cp Z (Ck s1 ?_));generalize f j (gt t.Bb (gY (qd b) j))=q at a⊢;unfold zQ at a;cases h4:s.1
   .rw[h4] at a;exact a
   .rw[h4] at a;simp only[wh,jd,Ci];have a1:=PY (s:=s.2.Af) (t:=ur (gt t.Af (gY (qd b) j)) q.1);have a2:=PY (s:=s.2.Bb) (t:=q.2);simp only[Ci] at a;rw[<-a1,<-a2] at a;exact a)
 unfold ud;exact Ck (qbi r) (Ck m .done)
theorem Z4{ls:List qw}{M:Nat}{ps:List aT}{lo:List Int}{de:List (List Int)}{ex:List Int}(h:yZ ls M)(k:lv.length=ls.length):Ev (fun n=>oH n (qbN ls lv ps b lo de ex) node) (dW (lg (uh ls lv node) ls.length)):=by
 have g:=h.len;have f:Ev (fun n=>ab node ⟨V ⟨b,ps,ls,lo,de,ex⟩,lv⟩ ⟨b,ps,ls,lo,de,ex⟩ n ([]:List Int) 0) (dW (lg (uh ls lv node) ls.length),(ls.length:Int)):=by
  refine II (q:=uh ls lv node) (Lf:=ab node ⟨V ⟨b,ps,ls,lo,de,ex⟩,lv⟩ ⟨b,ps,ls,lo,de,ex⟩) (len:=ls.length) (by omega) (Cm ?_) (fun j d t i X c a=>?_)
  .simp only[ab,qu (jf _),Cj];exact .done
  .simp only[ab,qq d,Ci,qz d,qz (show j<lv.length by omega),jd,vw,i,wS j];unfold uh zr DK at c a;cases hq:gt lv j
   .simp only[Cj];exact a (by rw[hq];rfl)
   .simp only[Ci];cases hw:(gt ls j).To==node
    .simp only[Cj];exact a (by rw[hq,hw];rfl)
    .simp only[Ci];exact c (by rw[hq,hw];rfl)
 unfold oH gb qbN;simp only[jd];exact Ck (Ck f .done) .done
def wC(node:Int)(s:Bool×ql):Bool×ql:=bif s.1 then s else(Cd,⟨node,N8,N8⟩)
theorem T4(h:aU b=An)(H:EN b c ex f)(J:lv.length=(qd b).length)(u:EP t (2*(places b.Aa).length))(N:xs.length<=1048576) :
  Ev (fun n=>iR n (V ⟨V (na b ex),lv⟩) c xs t node) (oy f (qd b) lv t node (bh (aI xs node)) (qd b).length):=by
 have x:=kf h;have I:=x.len;have C:=vl (q:=uh (qd b) lv node) (j:=(qd b).length);have K:∀j,(oy f (qd b) lv t node (bh (aI xs node)) j).1=An->(oy f (qd b) lv t node (bh (aI xs node)) j).2.Bn=node:=by
  intro j
  induction j with
  |zero=>
   show(bh (aI xs node)).1=An->(bh (aI xs node)).2.Bn=node;cases d:aI xs node with
   |none=>intro e;cases e
   |some y=>exact fun _=>(yT d).1
  |succ j ih=>
   unfold oy;cases uh (qd b) lv node j
   .exact ih
   .simp only[Ci];unfold nU;cases gt t.Aq (gY (qd b) j)
    .exact ih
    .simp only[Ci];unfold zQ;cases (oy f (qd b) lv t node (bh (aI xs node)) j).1<;>exact fun _=>rfl
 have O:∀j,(oy f (qd b) lv t node (bh (aI xs node)) j).1=Cd->(oy f (qd b) lv t node (bh (aI xs node)) j).2=ZU:=by
  intro j
  induction j with
  |zero=>
   show(bh (aI xs node)).1=Cd->(bh (aI xs node)).2=ZU;cases aI xs node with
   |none=>exact fun _=>rfl
   |some y=>intro e;cases e
  |succ j ih=>
   unfold oy;cases uh (qd b) lv node j
   .exact ih
   .simp only[Ci];unfold nU;cases gt t.Aq (gY (qd b) j)
    .exact ih
    .simp only[Ci];unfold zQ;cases (oy f (qd b) lv t node (bh (aI xs node)) j).1<;>(intro e;cases e)
 have D:∀(l:List Nat) (s:Bool×ql),(∀k,k∈l->uh (qd b) lv node k=An)->l.foldl (fun s k=>wC node (nU f (qd b) t node s k)) (wC node s)=wC node (l.foldl (nU f (qd b) t node) s):=by
  intro l
  induction l with
  |nil=>intro s _;rfl
  |cons k l ih=>
   intro s L;have e:wC node (nU f (qd b) t node (wC node s) k)=wC node (nU f (qd b) t node s k):=by
    unfold nU;obtain⟨s1,s2⟩:=s;cases gt t.Aq (gY (qd b) k)<;>cases s1<;>rfl
   rw[List.foldl_cons,List.foldl_cons,e];exact ih _ fun P g=>L P (jp _ g)
 have B:=(PR (τ:=Bool×ql) (xs:=lg (uh (qd b) lv node) (qd b).length) (Lf:=fun n s j=>da (V ⟨V (na b ex),lv⟩) c t (dW (lg (uh (qd b) lv node) (qd b).length)) n s.1 s.2.Bn s.2.Af.As s.2.Af.Be s.2.Bb.As s.2.Bb.Be j)
  (step:=fun s k=>wC node (nU f (qd b) t node s k)) (fin:=fun s=>(s.1,s.2.Bn,s.2.Af.As,s.2.Af.Be,s.2.Bb.As,s.2.Bb.Be,((dW (lg (uh (qd b) lv node) (qd b).length)).length:Int))) (wC node (bh (aI xs node))) (fun _ s=>s=wC node s/\s.2.Bn=node) (by
   constructor
   .unfold wC;cases d:(bh (aI xs node)).1
    .rfl
    .simp only[d,Ci]
   .unfold wC;cases d:aI xs node with
    |none=>rfl
    |some y=>exact(yT d).1)
  (fun j s p d=>by
   obtain⟨Q,F⟩:=d;have A:(nU f (qd b) t node s (lg (uh (qd b) lv node) (qd b).length)[j]).2.Bn=node:=by
    unfold nU;cases gt t.Aq (gY (qd b) (lg (uh (qd b) lv node) (qd b).length)[j])
    .exact F
    .unfold zQ;cases s.1<;>rfl
   constructor
   .unfold wC;cases d:(nU f (qd b) t node s (lg (uh (qd b) lv node) (qd b).length)[j]).1
    .rfl
    .simp only[d,Ci]
   .unfold wC;cases d:(nU f (qd b) t node s (lg (uh (qd b) lv node) (qd b).length)[j]).1
    .rfl
    .exact A)
  (fun n s=>by simp only[da,dc,qu (jf _),Cj])
  (fun j s p d X a=>by
   obtain⟨v,i⟩:=d;have hi:=xu p;have r:(lg (uh (qd b) lv node) (qd b).length)[j]<(qd b).length:=(nG.1 (jo p)).1;generalize (lg (uh (qd b) lv node) (qd b).length)[j]=k at hi r a;obtain⟨e1,m⟩:=tu x r;have M:qF (na b ex).links (k:Int)=V (gt (qd b) k):=qz r;simp only[da,dc,qq p,Ci,hi,M,jd,e1,qz (show gY (qd b) k<t.Aq.length by rw[u.r];exact m),qz (show gY (qd b) k<t.Af.length by rw[u.a];exact m),qz (show gY (qd b) k<t.Bb.length by rw[u.s];exact m),wS j];unfold nU at a;cases h3:gt t.Aq (gY (qd b) k)
   .rw[h3] at a;simp only[Cj] at a;rw[<-v] at a;exact a
   rw[h3] at a;simp only[Ci] at a⊢;obtain⟨_,s1⟩:=H k _ r (u.sl _ m);refine Ck s1 ?_;generalize f k (gt t.Bb (gY (qd b) k))=q at a⊢;simp only[pv,jd];unfold zQ at a;unfold nB;cases h4:s.1
   .rw[h4] at a;simp only[Bool.not_false,Ci,jd];unfold wC at a;simp only[Cj,Ci] at a;rw[i];exact a
   .rw[h4] at a;simp only[Jm,Cj,tE,jd];unfold wC at a;simp only[Ci] at a;rw[i];exact a)).1
 rw[D _ _ (fun k g=>(nG.1 g).2),U7] at B;unfold iR;refine Ck (CN N) ?_;have e0:(bif (bh (aI xs node)).1 then(nB 0 ⟨node,⟨0,0⟩,⟨0,0⟩⟩ Cd ⟨(bh (aI xs node)).2.Af.As,(bh (aI xs node)).2.Af.Be⟩ ⟨(bh (aI xs node)).2.Bb.As,(bh (aI xs node)).2.Bb.Be⟩).bind (fun(x9,x10)=>V (x10,x9.Bn,x9.Af.As,x9.Af.Be,x9.Bb.As,x9.Bb.Be)) else V (Cd,node,(0:Int),(0:Int),(0:Int),(0:Int))) =
   V ((wC node (bh (aI xs node))).1,(wC node (bh (aI xs node))).2.Bn,(wC node (bh (aI xs node))).2.Af.As,(wC node (bh (aI xs node))).2.Af.Be,(wC node (bh (aI xs node))).2.Bb.As,(wC node (bh (aI xs node))).2.Bb.Be):=by
  cases d:aI xs node with
  |none=>rfl
  |some y=>
   have:=(yT d).1;unfold wC bh;simp only[Ci,this]
   rfl
 refine Cy e0 (Ck (Z4 (ps:=places b.Aa) (lo:=pre (vI b) b.Ah.length) (de:=pre (cS b) b.Ah.length) (ex:=ex) x J) (Ck B ?_));have z:=O (qd b).length;generalize oy f (qd b) lv t node (bh (aI xs node)) (qd b).length=s at z⊢;unfold wC;obtain⟨s1,s2⟩:=s;cases s1
 .have:=z Z;simp only at this;subst this;exact .done
 .exact .done
end

theorem sW{b:qf}(h:aU b=An):Ev (fun n=>bT n b) ((2*(places b.Aa).length:Nat):Int):=by
 have a:=qZ (aO h);have c:=bf a;unfold bT;refine Ck (b:=(places b.Aa).map lX) (od a) (Cx ?_);rw[jq,qY (by omega) (by omega)]
 rfl
theorem yC{v:cL}(a:v.places.length<=78)(n:Nat):eC n (V v)=V ((2*v.places.length:Nat):Int):=by
 unfold eC kR;simp only[jd];rw[qY (by omega) (by omega)]
 rfl
def WS(xs:List ql)(j:Nat):Bool:=decide (j=0) || decide ((gt xs (j-1)).Bn<(gt xs j).Bn)
def IX(xs:List ql)(M:Nat):Bool:=bE (fun j=>gd (gt xs j).Bn 0 ((M:Int)-1)&&(WS xs j&&(mZ (gt xs j).Af&&yK (gt xs j).Bb))) xs.length
theorem NV{xs:List ql}{j:Nat}(h:j≠0):WS xs j=decide ((gt xs (j-1)).Bn<(gt xs j).Bn):=by unfold WS;rw[decide_eq_false h,Bool.false_or]
theorem PA{b:qf}{xs:List ql}(h:aU b=An)(m:xs.length<=1048576):Ev (fun n=>oE n b xs) (IX xs (2*(places b.Aa).length)):=by
 have k:=bf (qZ (aO h));have e:=sW h;obtain⟨M,g⟩:∃M,M=2*(places b.Aa).length:=⟨_,Z⟩;rw[<-g] at e⊢;have l:M<=156:=by omega
 have i:Ev (fun n=>eB xs (M:Int) n 0) (bif IX xs M then .nxt (xs.length:Int) else .ret Cd):=by
  refine lD (Lf:=eB xs (M:Int)) (len:=xs.length) (Cm (by simp only[eB,qu (jf _),Cj];exact .done)) (fun j f X d=>Cm ?_);simp only[eB,qq f,Ci,qz f,jd,fC,NM,VJ,wS j,wO ((M:Int)-1)];cases gd (gt xs j).Bn 0 ((M:Int)-1)
  .exact .done
  refine Cp Z ?_;by_cases c:j=0
  .subst c;refine Cp Z ?_;show Ev _ (bif (WS xs 0&&_) then X else _);rw[show WS xs 0=An from rfl];show Ev (fun n=>bif !mZ (gt xs 0).Af then _ else bif !yK (gt xs 0).Bb then _ else _) _;cases mZ (gt xs 0).Af
   .exact .done
   .cases yK (gt xs 0).Bb
    .exact .done
    .exact d
  .refine Cr (decide_eq_true (by omega)) ?_;rw[show(j:Int)-1=((j-1:Nat):Int) by omega,qY (by omega) (by omega),qz (show j-1<xs.length by omega),NV c];simp only[jd];by_cases a:(gt xs (j-1)).Bn<(gt xs j).Bn
   .rw[decide_eq_true a];refine Cp (decide_eq_false (by omega)) ?_;show Ev (fun n=>bif !mZ (gt xs j).Af then _ else bif !yK (gt xs j).Bb then _ else _) _;cases mZ (gt xs j).Af
    .exact .done
    .cases yK (gt xs j).Bb
     .exact .done
     .exact d
   .rw[decide_eq_false a];exact Cr (decide_eq_true (by omega)) .done
 unfold oE;refine Ck e (Ck i ?_);cases IX xs M<;>exact .done
theorem OP{v:cL}{xs:List ql}(h:v.places.length<=78)(k:xs.length<=1048576):Ev (fun n=>iU n (V v) xs) (IX xs (2*v.places.length)):=by
 have e:=yC h;obtain⟨M,f⟩:∃M,M=2*v.places.length:=⟨_,Z⟩;rw[<-f] at e⊢;have i:M<=156:=by omega
 have g:Ev (fun n=>cn (V v) xs n 0) (bif IX xs M then .nxt (xs.length:Int) else .ret Cd):=by
  refine lD (Lf:=cn (V v) xs) (len:=xs.length) (Cm (by simp only[cn,qu (jf _),Cj];exact .done)) (fun j d X c=>Cm ?_);simp only[cn,qq d,Ci,qz d,jd,uB,e,fx,HE,UB,wS j,wO ((M:Int)-1)];cases gd (gt xs j).Bn 0 ((M:Int)-1)
  .exact .done
  refine Cp Z ?_;show Ev (fun n=>bif !mZ (gt xs j).Af then _ else bif !yK (gt xs j).Bb then _ else _) _;rw[jL,Bool.and_comm];cases mZ (gt xs j).Af
  .exact .done
  .cases yK (gt xs j).Bb
   .exact .done
   .refine Cp Z (Cp Z ?_);rw[jL,jL];by_cases b:j=0
    .subst b;exact Cp Z c
    .refine Cr (decide_eq_true (by omega)) ?_;rw[show(j:Int)-1=((j-1:Nat):Int) by omega,qY (by omega) (by omega),qz (show j-1<xs.length by omega),NV b];simp only[jd];by_cases a:(gt xs (j-1)).Bn<(gt xs j).Bn
     .rw[decide_eq_true a];exact Cp (decide_eq_false (by omega)) c
     .rw[decide_eq_false a];exact Cr (decide_eq_true (by omega)) .done
 unfold iU;refine Ck g ?_;cases IX xs M<;>exact .done
theorem MC{xs:List ql}{M:Nat}(f:xs.length<=1048576)(h:IX xs M=An):KB xs:=by
 unfold IX at h;rw[aG] at h;refine⟨f,fun j=>?_,fun x g=>?_⟩
 .induction j with
  |zero=>intro i hi _;omega
  |succ j ih=>
   intro i hi d;have a:=h (j+1) d;rw[NV (by omega)] at a;simp only[je,decide_eq_true_eq,Nat.add_sub_cancel] at a;have c:=a.2.1;by_cases b:i=j
   .rw[b];exact c
   .have:=ih i (by omega) (by omega);omega
 .obtain⟨i,hi,rfl⟩:=List.mem_iff_getElem.1 g;have a:=h i hi;rw[<-fh hi];simp only[je] at a;have:=a.2.2.2;unfold yK at this;simp only[je,decide_eq_true_eq] at this;exact⟨⟨this.1,by omega⟩,by omega,this.2.2⟩
section
variable{L:Nat}{fr to:Nat->Int}{lv:Nat->Bool}{n:Nat}
def um(L:Nat)(fr to:Nat->Int)(lv:Nat->Bool)(n:Nat)(R:List Nat):Prop:=∀l1 k l2,R=l1++k::l2->k<n/\k∉l1/\OX L fr to lv l1 k=0
theorem um.snoc{R:List Nat}{k:Nat}(h:um L fr to lv n R)(d:H5 L fr to lv n R=V k):um L fr to lv n (R++[k]):=by
 intro l1 a l2 e;rcases List.eq_nil_or_concat l2 with rfl|⟨l2',z,rfl⟩
 .obtain⟨rfl,c⟩:=List.append_inj' e Z;obtain rfl:k=a:=by simpa using c
  exact IB d
 .have b:R++[k]=(l1++a::l2')++[z]:=by rw[e];simp
  obtain⟨e1,_⟩:=List.append_inj' b Z;exact h l1 a l2' e1
theorem qa1:∀m R R',um L fr to lv n R->I8 L fr to lv n m R=V R'->um L fr to lv n R':=by
 intro m
 induction m with
 |zero=>intro R R' h e;obtain rfl:=Option.some.inj e;exact h
 |succ m ih=>
  intro R R' h e;unfold I8 at e;cases hn:H5 L fr to lv n R with
  |none=>rw[hn] at e;cases e
  |some k=>
   rw[hn] at e;exact ih _ _ (h.snoc hn) e
theorem um.at{R:List Nat}(h:um L fr to lv n R){j:Nat}(a:j<R.length):R[j]<n/\R[j]∉R.take j/\OX L fr to lv (R.take j) R[j]=0:=by
 refine h (R.take j) R[j] (R.drop (j+1)) ?_;rw[<-jF a,List.take_append_drop]
end
theorem DI{α:Type}[Inhabited α]{xs:List α}{k:Nat}{v:α}(a:k<xs.length)(h:gt xs k=v):ak xs (k:Int) v=xs:=by
 unfold ak;rw[jr,<-h,fh a];exact List.set_getElem_self a
theorem lP{α:Type}[Inhabited α]{xs:List α}{a k:Nat}{y:α}(b:a<xs.length):gt (ak xs (a:Int) y) k=if k=a then y else gt xs k:=by
 unfold ak;rw[jr];by_cases h:k=a
 .subst h;rw[if_pos Z,KG b]
 .rw[if_neg h,PX h]
def FE(t:qn)(k:Nat)(s:Bool×ql):qn:=⟨ak t.Aq (k:Int) s.1,ak t.Af (k:Int) s.2.Af,ak t.Bb (k:Int) s.2.Bb⟩
theorem SZ{t:qn}{M k:Nat}{s:Bool×ql}(h:EP t M)(c:k<M)(d:OL s.2.Bb):EP (FE t k s) M where
 r:=by show(ak _ _ _).length=_;rw[bY];exact h.r
 a:=by show(ak _ _ _).length=_;rw[bY];exact h.a
 s:=by show(ak _ _ _).length=_;rw[bY];exact h.s
 sl:=fun j b=>by
  show OL (gt (ak _ _ _) j);rw[lP (by rw[h.s];exact c)];split
  .exact d
  .exact h.sl j b
def qah(t:qn)(M:Nat)(l:List Nat):Prop:=∀k,k<M->k∉l->gt t.Aq k=Cd/\gt t.Af k=N8/\gt t.Bb k=N8
def zT:qn:=⟨[],[],[]⟩
theorem qad:OL N8:=by unfold OL N8;exact⟨⟨jV _,by show(0:Int)<=_;omega⟩,jV _,by show(0:Int)<=_;omega⟩
theorem qaI{s t:qg}(a:OL s)(b:OL t):OL (EF s t):=by
 obtain⟨⟨a1,a2⟩,c,d⟩:=a;obtain⟨⟨b1,b2⟩,b3,f⟩:=b;refine⟨⟨?_,?_⟩,?_,?_⟩
 .show(0:Int)<=(if t.As<s.As then t.As else s.As);split<;>assumption
 .show(if t.As<s.As then t.As else s.As)<=1000000;split<;>assumption
 .show(0:Int)<=(if t.Be > s.Be then t.Be else s.Be);split<;>assumption
 .show(if t.Be > s.Be then t.Be else s.Be)<=1000000;split<;>assumption
section
variable{b:qf}{c:qG}{ex:List Int}{f g:Nat->qg->qg×qg}{lv:List Bool}{t:qn}{xs:List ql}{node:Int}
theorem QI(h:aU b=An)(m:xR b c g)(i:∀k s,(f k s).2=(g k s).2)(n:EP t (2*(places b.Aa).length))(o:KB xs):∀j,j<=(qd b).length->OL (oy f (qd b) lv t node (bh (aI xs node)) j).2.Bb:=by
 intro j
 induction j with
 |zero=>
  intro _;show OL (bh (aI xs node)).2.Bb;cases hs:aI xs node with
  |none=>exact qad
  |some y=>exact o.sl y (yT hs).2
 |succ j a=>
  intro p;have a:=a (by omega);obtain⟨_,l⟩:=tu (kf h) (show j<(qd b).length by omega);have d:=(m j _ (show j<(qd b).length by omega) (n.sl _ l)).1;rw[<-i] at d;show OL (bif uh (qd b) lv node j then nU f (qd b) t node (oy f (qd b) lv t node (bh (aI xs node)) j) j else oy f (qd b) lv t node (bh (aI xs node)) j).2.Bb;cases uh (qd b) lv node j
  .exact a
  .simp only[Ci];unfold nU;cases gt t.Aq (gY (qd b) j)
   .exact a
   .simp only[Ci];unfold zQ;cases (oy f (qd b) lv t node (bh (aI xs node)) j).1
    .exact d
    .exact qaI a d
theorem VP(h:aU b=An)(a:xR b c f)(d:EP t (2*(places b.Aa).length))(g:KB xs):∀j,j<=(qd b).length->OL (oy f (qd b) lv t node (bh (aI xs node)) j).2.Bb:=QI h a (fun _ _=>rfl) d g
theorem qaZ:∀j,(oy f (qd b) lv t node (bh (aI xs node)) j).1=Cd->(oy f (qd b) lv t node (bh (aI xs node)) j).2=ZU:=by
 intro j
 induction j with
 |zero=>
  show(bh (aI xs node)).1=Cd->(bh (aI xs node)).2=ZU;cases aI xs node with
  |none=>exact fun _=>rfl
  |some y=>intro e;cases e
 |succ j ih=>
  unfold oy;cases uh (qd b) lv node j
  .exact ih
  .simp only[Ci];unfold nU;cases gt t.Aq (gY (qd b) j)
   .exact ih
   .simp only[Ci];unfold zQ;cases (oy f (qd b) lv t node (bh (aI xs node)) j).1<;>(intro e;cases e)
def qds(o:Option qn):qn×Bool:=match o with|some t=>(t,An)|none=>(zT,Cd)
def XF(f:Nat->qg->qg×qg)(ls:List qw)(lv:List Bool)(xs:List ql):List Nat->qn->Option qn
 | [],t=>V t
 |k::R,t=>bif (oy f ls lv t (k:Int) (bh (aI xs (k:Int))) ls.length).1 then bif mZ (oy f ls lv t (k:Int) (bh (aI xs (k:Int))) ls.length).2.Af then XF f ls lv xs R (FE t k (oy f ls lv t (k:Int) (bh (aI xs (k:Int))) ls.length)) else U else XF f ls lv xs R t
def ZV(M:Nat):qn:=⟨List.replicate M Cd,List.replicate M N8,List.replicate M N8⟩
theorem MV{α:Type}[Inhabited α]{v:α}{M k:Nat}(a:k<M):gt (List.replicate M v) k=v:=by rw[fh (by rw[jI];exact a)];simp
theorem OG{M:Nat}:EP (ZV M) M:=⟨jI,jI,jI,fun k a=>by
 show OL (gt (List.replicate M N8) k);rw[MV a];exact qad⟩
theorem XC{M:Nat}{l:List Nat}:qah (ZV M) M l:=fun _ a _=>⟨MV a,MV a,MV a⟩
theorem qcN(h:aU b=An)(m:xR b c f)(n:KB xs):∀(R:List Nat) (t d:qn),(∀k,k∈R->k<2*(places b.Aa).length)->EP t (2*(places b.Aa).length)->XF f (qd b) lv xs R t=V d->EP d (2*(places b.Aa).length):=by
 intro R
 induction R with
 |nil=>intro t d _ a e;obtain rfl:=Option.some.inj e;exact a
 |cons k R ih=>
  intro t d g a e;have l:=VP (node:=(k:Int)) (lv:=lv) h m a n (qd b).length (jf _);unfold XF at e;cases h1:(oy f (qd b) lv t (k:Int) (bh (aI xs (k:Int))) (qd b).length).1
  .rw[h1] at e;exact ih _ _ (fun i hi=>g i (jp _ hi)) a e
  .rw[h1] at e;cases h2:mZ (oy f (qd b) lv t (k:Int) (bh (aI xs (k:Int))) (qd b).length).2.Af
   .rw[h2] at e;cases e
   .rw[h2] at e;exact ih _ _ (fun i hi=>g i (jp _ hi)) (SZ a (g k (ju ..)) l) e
def qdr(o:Option qn)(m:Nat):eE (qn×Bool) (List qg×List qg×List Bool×Int):=match o with|some t'=>.nxt (t'.Bb,t'.Af,t'.Aq,(m:Int))|none=>.ret (zT,Cd)
theorem D2(h:aU b=An)(A:xR b c f)(H:lv.length=(qd b).length)(B:KB xs){R:List Nat}(C:∀k,k∈R->k<2*(places b.Aa).length)(D:R.length<=1000) :
  Ev (fun n=>xM n b c (qd b) lv xs (dW R)) (qds (XF f (qd b) lv xs R (ZV (2*(places b.Aa).length)))):=by
 have I:=bf (qZ (aO h));have m:=sW h;obtain⟨M,u⟩:∃M,M=2*(places b.Aa).length:=⟨_,Z⟩;have L:M<=156:=by omega
 have r:∀d j t,j+d=R.length->EP t M->Ev (fun n=>fE b c (qd b) lv xs (dW R) n t.Bb t.Af t.Aq (j:Int)) (qdr (XF f (qd b) lv xs (R.drop j) t) R.length):=by
  intro d
  induction d with
  |zero=>
   intro j t F g;obtain rfl:j=R.length:=by omega
   rw[List.drop_length];refine Cm ?_;simp only[fE,dc,qu (jf _),Cj];exact .done
  |succ d ih=>
   intro j t F g;have a:j<R.length:=by omega
   have l:=C _ (jo a);have hi:=xu a;have z:R.drop j=R[j]::R.drop (j+1):=jF a;generalize R[j]=k at l hi z;rw[<-u] at l;have v:=Y2 (node:=(k:Int)) h A H (by rw[<-u];exact g) B;have p:=VP (node:=(k:Int)) (lv:=lv) h A (by rw[<-u];exact g) B (qd b).length (jf _);have K:qF t.Aq (k:Int)=V (gt t.Aq k):=qz (by rw[g.r];exact l);have J:qF t.Af (k:Int)=V (gt t.Af k):=qz (by rw[g.a];exact l);have is:qF t.Bb (k:Int)=V (gt t.Bb k):=qz (by rw[g.s];exact l);have i:∀n,fE b c (qd b) lv xs (dW R) (n+1) t.Bb t.Af t.Aq (j:Int)=(ud n b c (qd b) lv xs t (k:Int)).bind fun(r4,r5)=>bif (!r4) then fE b c (qd b) lv xs (dW R) n t.Bb t.Af t.Aq ((j+1:Nat):Int) else bif (!mZ r5.Af) then V (.ret (zT,Cd)) else
     fE b c (qd b) lv xs (dW R) n (ak t.Bb (k:Int) r5.Bb) (ak t.Af (k:Int) r5.Af) (ak t.Aq (k:Int) An) ((j+1:Nat):Int):=fun n=>by
    simp only[fE,dc,qq a,Ci,hi,jd,NM,K,J,is,wS j]
    rfl
   rw[z];unfold XF;generalize oy f (qd b) lv t (k:Int) (bh (aI xs (k:Int))) (qd b).length=s at v p⊢;obtain⟨s1,s2⟩:=s;cases s1
   .exact Ev.step i (Ck v (ih (j+1) t (by omega) g))
   .cases hsp:mZ s2.Af
    .refine Ev.step i (Ck v ?_);simp only[hsp];exact .done
    .refine Ev.step i (Ck v ?_);simp only[hsp];exact ih (j+1) (FE t k (An,s2)) (by omega) (SZ g l p)
 have x:xY (M:Int) Cd=V (List.replicate M Cd):=xx (by omega);have y:xY (M:Int) (⟨0,0⟩:qg)=V (List.replicate M N8):=xx (by omega);have o2:=r R.length 0 (ZV M) (by omega) OG;rw[List.drop_zero] at o2;rw[<-u] at m⊢;unfold xM yg;refine Ck m ?_;simp only[x,y,jd];refine Ck o2 ?_;cases XF f (qd b) lv xs R (ZV M)<;>exact .done
theorem qaK(h:aU b=An)(hg:xR b c g)(H:∀k s,(f k s).2=(g k s).2)(hf:EN b c ex f)(hl:lv.length=(qd b).length)(P:KB xs){R:List Nat}(Y:∀j,∀O:j<R.length,R[j]<2*(places b.Aa).length/\R[j]∉R.take j)(a3:R.length<=1000) :
  Ev (fun n=>fQ n (V ⟨V (na b ex),lv⟩) c xs (dW R)) (qds (XF f (qd b) lv xs R (ZV (2*(places b.Aa).length)))):=by
 have L:=bf (qZ (aO h));have r:=yC (v:=na b ex) L;have D:(na b ex).places.length=(places b.Aa).length:=rfl;rw[D] at r;obtain⟨M,B⟩:∃M,M=2*(places b.Aa).length:=⟨_,Z⟩;have hM:M<=156:=by omega
 have A:∀d j t,j+d=R.length->EP t M->qah t M (R.take j)->Ev (fun n=>cm (V ⟨V (na b ex),lv⟩) c xs (dW R) n t.Bb t.Af t.Aq (j:Int)) (qdr (XF f (qd b) lv xs (R.drop j) t) R.length):=by
  intro d
  induction d with
  |zero=>
   intro j t O a _;obtain rfl:j=R.length:=by omega
   rw[List.drop_length];refine Cm ?_;simp only[cm,dc,qu (jf _),Cj];exact .done
  |succ d ih=>
   intro j t O a F;have m:j<R.length:=by omega
   obtain⟨l,S⟩:=Y j m;have hi:=xu m;have x:R.take (j+1)=R.take j++[R[j]]:=jw m;have N:R.drop j=R[j]::R.drop (j+1):=jF m;generalize R[j]=k at l S hi x N;rw[<-B] at l;have C:=T4 (node:=(k:Int)) h hf hl (by rw[<-B];exact a) P.len;have z:=QI (node:=(k:Int)) (lv:=lv) h hg H (by rw[<-B];exact a) P (qd b).length (jf _);have Q:=qaZ (f:=f) (b:=b) (lv:=lv) (t:=t) (xs:=xs) (node:=(k:Int)) (qd b).length;obtain⟨b1,b2,b3⟩:=F k l S;have ir:qF t.Aq (k:Int)=V (gt t.Aq k):=qz (by rw[a.r];exact l);have ia:qF t.Af (k:Int)=V (gt t.Af k):=qz (by rw[a.a];exact l);have is:qF t.Bb (k:Int)=V (gt t.Bb k):=qz (by rw[a.s];exact l);have y:∀n,cm (V ⟨V (na b ex),lv⟩) c xs (dW R) (n+1) t.Bb t.Af t.Aq (j:Int)=(iR n (V ⟨V (na b ex),lv⟩) c xs t (k:Int)).bind fun(r3,r4)=>(bif r3 then V (!mZ r4.Af) else V Cd).bind fun b3=>bif b3 then V (.ret (zT,Cd)) else
     cm (V ⟨V (na b ex),lv⟩) c xs (dW R) n (ak t.Bb (k:Int) r4.Bb) (ak t.Af (k:Int) r4.Af) (ak t.Aq (k:Int) r3) ((j+1:Nat):Int):=fun n=>by
    simp only[cm,dc,qq m,Ci,hi,jd,HE,ir,ia,is,wS j]
    rfl
   rw[N];unfold XF;generalize oy f (qd b) lv t (k:Int) (bh (aI xs (k:Int))) (qd b).length=s at C z Q⊢;obtain⟨s1,s2⟩:=s;cases s1
   .have:=Q Z;simp only at this;subst this;have e1:ak t.Bb (k:Int) ZU.Bb=t.Bb:=DI (by rw[a.s];exact l) b3;have W:ak t.Af (k:Int) ZU.Af=t.Af:=DI (by rw[a.a];exact l) b2;have X:ak t.Aq (k:Int) Cd=t.Aq:=DI (by rw[a.r];exact l) b1;refine Ev.step y (Ck C ?_);simp only[Cj,jd,e1,W,X];exact ih (j+1) t (by omega) a (fun i hi p=>F i hi (fun I=>p (by rw[x];exact jK _ I)))
   .cases hsp:mZ s2.Af
    .refine Ev.step y (Ck C ?_);simp only[hsp];exact .done
    .refine Ev.step y (Ck C ?_);simp only[hsp];refine ih (j+1) (FE t k (An,s2)) (by omega) (SZ a l z) (fun i hi p=>?_);rw[x] at p;have u:i≠k:=fun e=>p (jS _ (List.mem_singleton.2 e));have:=F i hi (fun I=>p (jK _ I));refine⟨?_,?_,?_⟩
     .show gt (ak _ _ _) i=_;rw[lP (by rw[a.r];exact l),if_neg u];exact this.1
     .show gt (ak _ _ _) i=_;rw[lP (by rw[a.a];exact l),if_neg u];exact this.2.1
     .show gt (ak _ _ _) i=_;rw[lP (by rw[a.s];exact l),if_neg u];exact this.2.2
 have J:xY (M:Int) Cd=V (List.replicate M Cd):=xx (by omega);have K:xY (M:Int) (⟨0,0⟩:qg)=V (List.replicate M N8):=xx (by omega);have T:=A R.length 0 (ZV M) (by omega) OG XC;rw[List.drop_zero] at T;rw[<-B] at r⊢;unfold fQ rM;simp only[jd,r,J,K];refine Ck T ?_;cases XF f (qd b) lv xs R (ZV M)<;>exact .done
end

abbrev yX(b:qf):Nat:=(qd b).length
abbrev vt(b:qf):Nat:=2*(places b.Aa).length
abbrev pB(b:qf)(br:List Int):List Bool:=U3 br (yX b)
def XD(b:qf)(br:List Int):Option aS:=V ⟨V (nV b),pB b br⟩
structure E5(b:qf)(c:qG)(br:List Int)(xs:List ql)(R:List Nat):Prop where
 bl:aU b=An
 co:nc c=An
 br_:qae br (yX b)=An
 sr:IX xs (vt b)=An
 or_:GJ (qd b) (pB b br) (vt b) (vt b) []=V R
theorem E5.ord{b:qf}{c:qG}{br:List Int}{xs:List ql}{R:List Nat}(h:E5 b c br xs R):um (yX b) (AO (qd b)) (DK (qd b)) (zr (pB b br)) (vt b) R:=
 qa1 (vt b) [] R (fun l1 k l2 e=>by cases l1<;>cases e) h.or_
theorem E5.len{b:qf}{c:qG}{br:List Int}{xs:List ql}{R:List Nat}(h:E5 b c br xs R):R.length=vt b:=by
 have:=V2 (vt b) [] R h.or_;simpa using this
theorem oR{x:Int}(h:x≠0):(x != 0)=An:=by simpa using h
theorem qbW{b:qf}{c:qG}{br:List Int}{xs:List ql}(B:wL b)(H:LW c.Bh)(a:br.length<=1048576)(m:xs.length<=1048576) :
  (∃code:Int,code≠0/\Ev (fun n=>ru n b c br xs) ([],code)/\Ev (fun n=>hY n b c br xs U) (U,[],code)) \/
  ∃R,E5 b c br xs R/\Ev (fun n=>ru n b c br xs) (dW R,0)/\Ev (fun n=>hY n b c br xs U) (XD b br,dW R,0):=by
 have s1:=ta B;have k:=XJ B;have s2:=SX (c:=c) H;have s:=TT (c:=c) H;unfold ru hY;cases h1:aU b
 .rw[h1] at s1 k;exact .inl ⟨1,by omega,Ck (b:=An) (Ck s1 (Cr Z .done)) (Cr Z .done),Ck (b:=An) (Ck k (Cr Z .done)) (Cr Z .done)⟩
 cases h2:nc c
 .rw[h1] at s1 k;rw[h2] at s2 s;exact .inl ⟨1,by omega,Ck (b:=An) (Ck s1 (Cp Z (Ck s2 .done))) (Cr Z .done),Ck (b:=An) (Ck k (Cp Z (Ck s .done))) (Cr Z .done)⟩
 have C:=bf (qZ (aO h1));have d:=lG h1;have I:=kf h1;have i:=YM (br:=br) B h1 a;have f:=VC (v:=nV b) (br:=br) a d;have y:=PA (xs:=xs) h1 m;have p:=OP (v:=nV b) (xs:=xs) C m;have F:(nV b).links=qd b:=rfl;have M:(nV b).places=places b.Aa:=rfl;rw[F] at f;rw[M] at p;rw[h1] at s1 k;rw[h2] at s2 s;have A:Ev (fun n=>(kT n b).bind fun g=>bif (!g) then V An else(rY n c).bind fun h=>V (!h)) Cd:=Ck s1 (Cp Z (Ck s2 .done));have u:Ev (fun n=>(tz n b).bind fun g=>bif (!g) then V An else(rR n c).bind fun h=>V (!h)) Cd:=Ck k (Cp Z (Ck s .done));have x:=YR h1;cases h3:qae br (yX b)
 .rw[h3] at i f;exact .inl ⟨2,by omega,Ck A (Cp Z (Ck (b:=An) (Ck i (Cr Z .done)) (Cr Z .done))),
   Ck u (Cp Z (Ck x (Ck (b:=Cd) (Cp Z .done) (Cp Z (Ck (b:=An) (Ck f (Cr Z .done)) (Cr Z .done))))))⟩
 cases h4:IX xs (vt b)
 .rw[h3] at i f;rw[h4] at y p;exact .inl ⟨2,by omega,Ck A (Cp Z (Ck (b:=An) (Ck i (Cp Z (Ck y .done))) (Cr Z .done))),
   Ck u (Cp Z (Ck x (Ck (b:=Cd) (Cp Z .done) (Cp Z (Ck (b:=An) (Ck f (Cp Z (Ck p .done))) (Cr Z .done))))))⟩
 have D:=YF (v:=nV b) (br:=br) d h3;rw[F] at D;have Q:=pz (ls:=qd b) (br:=br) d a;have l:(pB b br).length=yX b:=uO;have z:=QU (lv:=pB b br) I l;have t:=G3 (b:=b) (ps:=places b.Aa) (lo:=pre (vI b) b.Ah.length) (de:=pre (cS b) b.Ah.length) (ex:=[]) (lv:=pB b br) I l Z;rw[h3] at i f;rw[h4] at y p;have K:Ev (fun n=>(rt n b br).bind fun O=>bif (O != 0) then V An else(oE n b xs).bind fun P=>V (!P)) Cd:=Ck i (Cp Z (Ck y .done));have J:Ev (fun n=>(lF n (V (nV b)) br).bind fun g=>bif (!g) then V An else(iU n (V (nV b)) xs).bind fun h=>V (!h)) Cd:=Ck f (Cp Z (Ck p .done));have L:∀r:List Int×Int,Ev (fun n=>(oK n (vt b:Int) (qd b) (pB b br)).bind fun(g,h)=>bif (!h) then V (([]:List Int),(7:Int)) else V (g,0)) r->Ev (fun n=>lV n b br) r:=fun r N=>by
  unfold lV;exact Ck i (Cp Z (Ck (gL h1) (Ck (sW h1) (Ck Q N))))
 cases ho:GJ (qd b) (pB b br) (vt b) (vt b) [] with
 |none=>
  have e:PC (qd b) (pB b br) (vt b)=([],Cd):=by unfold PC;rw[ho]
  rw[e] at z t;exact .inl ⟨7,by omega,Ck A (Cp Z (Ck K (Cp Z (Ck (L ([],7) (Ck z (Cr Z .done))) .done)))),
   Ck u (Cp Z (Ck x (Ck (b:=Cd) (Cp Z .done) (Cp Z (Ck J (Cp Z (Ck D (Ck t (Cr Z .done)))))))))⟩
 |some R=>
  have e:PC (qd b) (pB b br) (vt b)=(dW R,An):=by unfold PC;rw[ho]
  rw[e] at z t;exact .inr ⟨R,⟨h1,h2,h3,h4,ho⟩,Ck A (Cp Z (Ck K (Cp Z (Ck (L (dW R,0) (Ck z (Cp Z .done))) .done)))),
   Ck u (Cp Z (Ck x (Ck (b:=Cd) (Cp Z .done) (Cp Z (Ck J (Cp Z (Ck D (Ck t (Cp Z .done)))))))))⟩
structure sy(j:bg)(t:qn)(R:List Nat):Prop where
 tg:E5 j.Ac j.Aj j.Av j.Ap R
 tm:EP t (vt j.Ac)
def yi(j:bg)(t:qn)(R:List Nat):Option aY:=V ⟨XD j.Ac j.Av,j,t,dW R⟩
theorem ME{j:bg}(h:mQ j) :
  (∃code:Int,code≠0/\Ev (fun n=>bM n j.Ac j.Aj j.Av j.Ap) (zT,code)/\Ev (fun n=>nT n j) (U,code)) \/
  ∃t R,sy j t R/\Ev (fun n=>bM n j.Ac j.Aj j.Av j.Ap) (t,0)/\Ev (fun n=>nT n j) (yi j t R,0):=by
 have g:=h.Av.len;have a:=h.Ap.len;unfold bM nT;rcases qbW h.Ac h.Aj.Bh g a with⟨code,hne,hs,hi⟩|⟨R,hg,hs,hi⟩
 .exact .inl ⟨code,hne,Ck hs (Cr (oR hne) .done),Ck hi (Cr (oR hne) .done)⟩
 .have b:=hg.bl;have s:=lG b;have v:=pz (ls:=qd j.Ac) (br:=j.Av) s g;obtain⟨f,p,r⟩:=WP b hg.co;have l:=r [] (.inl Z);rw[RC] at l;have y:=bf (qZ (aO b));have m:=hg.len;have c:R.length<=1000:=by rw[m];show 2*(places j.Ac.Aa).length<=1000;omega
  have d:∀k,k∈R->k<2*(places j.Ac.Aa).length:=fun k x=>by
   obtain⟨i,hi,rfl⟩:=List.mem_iff_getElem.1 x;exact(hg.ord.at hi).1
  have o2:=D2 (lv:=pB j.Ac j.Av) (R:=R) b p uO (MC a hg.sr) d c;have u:=qaK (lv:=pB j.Ac j.Av) (R:=R) b p (fun _ _=>rfl) l uO (MC a hg.sr) (fun i hi=>⟨(hg.ord.at hi).1,(hg.ord.at hi).2.1⟩) c;have o1:=qcN (lv:=pB j.Ac j.Av) b p (MC a hg.sr) R (ZV (2*(places j.Ac.Aa).length));generalize XF f (qd j.Ac) (pB j.Ac j.Av) j.Ap R (ZV (2*(places j.Ac.Aa).length))=o at o1 o2 u;cases o with
  |none=>exact .inl ⟨3,by omega,Ck hs (Cp Z (Ck (gL b) (Ck v (Ck o2 (Cr Z .done))))),Ck hi (Cp Z (Ck u (Cr Z .done)))⟩
  |some t=>exact .inr ⟨t,R,⟨hg,o1 t d OG Z⟩,Ck hs (Cp Z (Ck (gL b) (Ck v (Ck o2 (Cp Z .done))))),Ck hi (Cp Z (Ck u (Cp Z .done)))⟩
end Go.Fw
