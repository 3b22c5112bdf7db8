/- By a program of mine (gen.py): for each function a plain function and the proof that the code computes it. -/
import Derived.Test.YtfkmekkhnmifiaaGreatDoorZ1
import Derived.Test.YtfkmekkhnmifiaaGreatDoorA3
import Derived.Test.YtfkmekkhnmifiaaGreatDoorFw36
import Derived.Test.YtfkmekkhnmifiaaGreatDoorR3
open Option renaming bind_some->jd, some->V, none->U
open Nat renaming le_refl->je, le_trans->jR, zero_le->jW, zero_add->Jf
open Bool renaming and_eq_true->jf, eq_iff_iff->jj, true_and->jy, not_eq_true'->jA, not_true->Jh, false_or->Jj
open List renaming length_append->jg, length_singleton->ji, getElem?_eq_getElem->jn, getElem_mem->jo, length_map->jt, append_assoc->jv, getD_eq_getElem?_getD->jx, not_mem_nil->jz, take_length->jG, mem_cons->jK, length_take->jM, append_nil->jY, map_append->jZ, getElem_of_mem->Jb
open Int renaming toNat_natCast->jq, tdiv_eq_ediv_of_nonneg->jD, le_refl->jU

namespace Go.Fw
open Go Go.Proofs Go.Proofs.Tryz
open Go.RowKit (Below)
open Ch renaming own->oW,box->oX,grp->oG
open GoT renaming v->oV
open Go.Value renaming slice->oS
set_option maxRecDepth 100000
set_option maxHeartbeats 6400000
variable{n:Nat}{w:World}{cs1 cs2 cs3 cs4 cs5 cs6 cs7 cs8 cs9:List Value}
def qfK(s:Tl01Source)(b:qj):Nat->(List qah)->Int->Int->Int->Option ((List qah)×Int×Int×Int)|0,_,_,_,_=>U|n+1,f,c,d,a=>bif decide (a<(b.Ah.length:Int)) then(qf5 n b a).bind fun h=>(qhX n (⟨s.code,c,d⟩:Tl01Source) (h.length:Int)).bind fun(i,i8,g)=>(appS f ([i]:List qah)).bind fun k=>qfK s b n k i8 g (W64 (a+1)) else V (f,c,d,a)
def qeN(n:Nat)(s:Tl01Source)(most:Int)(wild:Bool):Option (qd×Int×Int):=(qkp n (⟨s.code,s.at_,s.seed⟩:Tl01Source)).bind fun(r1,b,c)=>(qkn n (⟨s.code,b,c⟩:Tl01Source) most wild).bind fun(a,d,f)=>(qfK s a n ([]:List qah) d f 0).bind fun(i,g,h,_)=>V ((⟨r1,a,i⟩:qd),g,h)
theorem qe0{n k w F}{s:Tl01Source}{a p1 b most wild}(h0:SH k w (xb a s p1 b s.at_ s.seed::F))(M:GoT.R w (Fr k F) s (qak s p1 b)){r:(qd×Int×Int)}(hF:qeN n s most wild=V r):RetW prog 80 [vp a,vi most,.bool wild] w (fun us w'=>∃S1 cs1,us=[oV qd cs1]/\SH k w' (oW S1 (r.1:qd) cs1::xb a s p1 b r.2.1 r.2.2::F)):=by
 have h:=SH.frm1 h0 M;refine qbh func80 Z (m:=38) Z Z (zSR (qh qa h Z Z Z fun _ d h=>X0 4 Z ?_));have h:=h.p [1,0,2] Z;obtain⟨⟨r1,C,D⟩,O,hF⟩:=qc hF;refine qa2 (cB 141 Z) (qpe (s:=s) h (show GoT.R _ _ (s:Tl01Source) _ from⟨[oS p1 s.code.length b],[vi s.at_,vi s.seed],rfl,⟨_,_,rfl,(qD (h.frG 2 0 1 Z Z Z)).1⟩,⟨[vi s.at_],[vi s.seed],rfl,rfl,rfl⟩⟩) O) Z Z Z Z ?_;rintro _ _ ⟨S2,_,rfl,h⟩;obtain⟨i,g,rfl,-⟩:=qcY (h.own 0 Z);replace h:SH _ _ [oW S2 (r1:qF) [oS i r1.Ap.length g],xb a s p1 b C D,oX d zl7 34,xf k w F s p1 b]:=h;refine qh qa h Z Z Z fun _ f h=>zs 0 h Z fun _ h=>X0 6 Z ?_;have h:=h.p [2,0,1,3,4] Z;obtain⟨⟨c,i3,i4⟩,P,hF⟩:=qc hF;refine qa2 (cB 142 Z) (qpl (a_0:=(⟨s.code,C,D⟩:Tl01Source)) (a_1:=most) (a_2:=wild) h (show GoT.R _ _ ((⟨s.code,C,D⟩:Tl01Source):Tl01Source) _ from⟨[oS p1 s.code.length b],[vi C,vi D],rfl,⟨_,_,rfl,(qD (h.frG 4 0 1 Z Z Z)).1⟩,⟨[vi C],[vi D],rfl,rfl,rfl⟩⟩) P) Z Z Z Z ?_;rintro _ _ ⟨J,_,rfl,h⟩;obtain⟨z,k3,A,x,B,y,rfl,-,-,-⟩:=qa1 (h.own 0 Z);replace h:SH _ _ [oW J (c:qj) (qay c z A B k3 x y),xb a s p1 b i3 i4,oX f [oS i r1.Ap.length g] 26,oW S2 (r1:qF) [oS i r1.Ap.length g],oX d zl7 34,xf k w F s p1 b]:=h;refine qh qa h Z Z Z fun _ l h=>zs 0 h Z fun _ h=>zNSR (qea qa [] _ ([]:List qah) [0,1,2,3,4,5,6] h Z Z Z Z Z Z Z Z Z qhh Z Z fun _ _ _ h=>X0 7 Z ?_);obtain⟨o3,hF,L⟩:=qc hF;refine ql (rL (fun m e w'=>∃K I u H v p t R,qfK s c m v p t R=V o3/\e=[(0,vp a),(6,vp d),(7,vp f),(8,vp l),(9,oS I u H),(10,vi R)]/\SH k w' [oW K (v:List qah) [oS I u H],oX l (qay c z A B k3 x y) 31,oW J (c:qj) (qay c z A B k3 x y),xb a s p1 b p t,oX f [oS i r1.Ap.length g] 26,oW S2 (r1:qF) [oS i r1.Ap.length g],oX d zl7 34,xf k w F s p1 b]) n ⟨_,_,_,_,_,_,_,_,hF,rfl,h⟩ Z ?_);rintro m1 _ _ ⟨K,I,u,H,v,p,t,R,hF,rfl,h⟩;obtain rfl:=(h.sl 0 Z).2;rcases m1 with _|m1
 .cases hF
 refine X1 9 1 h Z (qk Z hF ?_ ?_)<;>intro hF
 .refine X1 8 1 h Z (zcL h hF (qhV (h.own 2 Z)) Z fun r3 _ S6 p8 k7 h hF=>zp1 Z ?_);have h:=h.p [4,0,1,2,3,5,6,7,8] Z;obtain⟨⟨r4,i8,i9⟩,Q,hF⟩:=qc hF;refine qa2 (cB 143 Z) (qnd (s:=(⟨s.code,p,t⟩:Tl01Source)) (sinks:=(r3.length:Int)) h (show GoT.R _ _ ((⟨s.code,p,t⟩:Tl01Source):Tl01Source) _ from⟨[oS p1 s.code.length b],[vi p,vi t],rfl,⟨_,_,rfl,(qD (h.frG 8 0 1 Z Z Z)).1⟩,⟨[vi p],[vi t],rfl,rfl,rfl⟩⟩) Q) Z Z Z Z ?_;rintro _ _ ⟨S7,_,rfl,h⟩;obtain⟨p9,k8,W,k9,X,S,Y,T,rfl,-,-,-,-⟩:=qbU (h.own 0 Z);replace h:SH _ _ [oW S7 (r4:qah) (qgV r4 p9 W X Y k8 k9 S T),xb a s p1 b i8 i9,oW S6 (r3:List Int) [oS p8 r3.length k7],oW K (v:List qah) [oS I v.length H],oX l (qay c z A B k3 x y) 31,oW J (c:qj) (qay c z A B k3 x y),oX f [oS i r1.Ap.length g] 26,oW S2 (r1:qF) [oS i r1.Ap.length g],oX d zl7 34,xf k w F s p1 b]:=h;refine qea qa [.tmp 31] _ ([r4]:List qah) [1,2,3,4,5,6,7,8,9] h Z Z Z Z Z Z Z Z Z (qcQ (qI 0 h Z) qhh Z) Z Z fun _ _ _ h=>?_;obtain⟨_,o,hF⟩:=qc hF;obtain⟨g1,o⟩:=qE o;have h:=h.p [0,3,1,2,4,5,6,7,8,9] Z;refine qmi qa h Z Z Z Z Z Z Z Z Z g1 o Z fun _ _ _ _ h=>X0 8 Z ?_;have h:=h.p [0,3,4,1,5,6,7,8] Z;exact rK ⟨_,_,_,_,_,_,_,_,hF,rfl,h⟩ Z
 refine qt Z ?_;cases qb hF;replace hF:=L;refine X2 5 4 1 h Z (r_v (qy qa [0,1,2] [.tmp 34,.tmp 35,.tmp 36] z8) Z (zs 6 h Z fun _ h=>qbe ?_));have N:=h;obtain⟨_,h⟩:=h.gather [1,3,4,6,7] (quA (⟨r1,c,v⟩:qd) h (qI 5 h Z) (qI 2 h Z) (qI 0 h Z) (by rfl) (by rfl)) Z;obtain rfl:=qb hF;have h:=h.p [0,2,5] Z;exact qaR qa [oV qd [oS i r1.Ap.length g,oS z c.Ab.length k3,oS A c.Ah.length x,oS B c.Ai.length y,oS I v.length H]] ⟨⟨_,_,_,rfl,rfl,N.box 6 Z,rfl⟩,G⟩ ⟨_,_,rfl,SH.unfr 1 1 h0 h Z Z⟩
def qiv(n:Nat)(a_0:Tl01Source):Option (qd×Int×Int):=(qr n (⟨a_0.code,a_0.at_,a_0.seed⟩:Tl01Source) 3).bind fun(s,t,u)=>(qeN n (⟨a_0.code,t,u⟩:Tl01Source) 6 (s==0)).bind fun(r1,v,x)=>(qr n (⟨a_0.code,v,x⟩:Tl01Source) (r1.Ac.length:Int)).bind fun(c,y,i8)=>(qr n (⟨a_0.code,y,i8⟩:Tl01Source) 20).bind fun(f,a,b)=>bif (f==0) then(subS r1.Ac 1 (r1.Ac.length:Int)).bind fun A=>V ((⟨(⟨r1.Am.Ap⟩:qF),(⟨r1.Aa.Ab,r1.Aa.Ah,r1.Aa.Ai⟩:qj),A⟩:qd),a,b) else bif (f==1) then(idx r1.Ac c).bind fun i=>(qeO n i.Bb).bind fun z=>(appS z ([0]:List Int)).bind fun B=>V ((⟨r1.Am,r1.Aa,(setS r1.Ac c (⟨i.Aj,i.Br,i.Bl,B⟩:qah))⟩:qd),a,b) else bif (f==2) then(idx r1.Ac c).bind fun g=>(idx g.Br 0).bind fun _=>V ((⟨r1.Am,r1.Aa,(setS r1.Ac c (⟨g.Aj,(setS g.Br 0 1),g.Bl,g.Bb⟩:qah))⟩:qd),a,b) else bif (f==3) then(idx r1.Ac c).bind fun h=>(qr n (⟨a_0.code,a,b⟩:Tl01Source) 3).bind fun(k,l,m)=>(idx ([(-1),500,501]:List Int) k).bind fun C=>(idx h.Bl 0).bind fun _=>V ((⟨r1.Am,r1.Aa,(setS r1.Ac c (⟨h.Aj,h.Br,(setS h.Bl 0 C),h.Bb⟩:qah))⟩:qd),l,m) else bif (f==4) then(idx r1.Ac c).bind fun d=>(qr n (⟨a_0.code,a,b⟩:Tl01Source) 5).bind fun(p,i16,r)=>(idx d.Aj (W64 ((d.Aj.length:Int)-1))).bind fun _=>V ((⟨r1.Am,r1.Aa,(setS r1.Ac c (⟨(setS d.Aj (W64 ((d.Aj.length:Int)-1)) (W64 (p-1))),d.Br,d.Bl,d.Bb⟩:qah))⟩:qd),i16,r) else bif (f==5) then(idx r1.Aa.Ai 0).bind fun D=>V ((⟨r1.Am,(⟨r1.Aa.Ab,r1.Aa.Ah,(setS r1.Aa.Ai 0 ({ D with Bs:=3 }))⟩:qj),r1.Ac⟩:qd),a,b) else V (r1,a,b)
theorem qnX{n w0 w F}{a_0:Tl01Source}{B p1 N}(h0:SH w0 w (xb B a_0 p1 N a_0.at_ a_0.seed::F))(ha1:GoT.R w (Fr w0 F) a_0 (qak a_0 p1 N)){r:(qd×Int×Int)}(hF:qiv n a_0=V r):RetW prog 79 [vp B] w (fun us w'=>∃S1 cs1,us=[oV qd cs1]/\SH w0 w' (oG (fun _=>False) S1 [fct (r.1:qd) cs1]::xb B a_0 p1 N r.2.1 r.2.2::F)):=by
 have h:=SH.frm1 h0 ha1;refine qbh func79 Z (m:=90) Z Z (zSR (qh qa h Z Z Z fun w1 H h=>X0 5 Z ?_));have h:=h.p [1,0,2] Z;obtain⟨⟨i1,i2,i3⟩,hr1,hF⟩:=qc hF;refine nxE h (h.frG 2 0 1 Z Z Z) hr1 Z Z Z fun _ h=>zp1 Z ?_;obtain⟨⟨r1,i4,i5⟩,hr2,hF⟩:=qc hF;refine qa2 (cB 80 Z) (qe0 (s:=(⟨a_0.code,i2,i3⟩:Tl01Source)) (most:=6) (wild:=(i1==0)) h (show GoT.R _ _ ((⟨a_0.code,i2,i3⟩:Tl01Source):Tl01Source) _ from⟨[oS p1 a_0.code.length N],[vi i2,vi i3],rfl,⟨_,_,rfl,(qD (h.frG 2 0 1 Z Z Z)).1⟩,⟨[vi i2],[vi i3],rfl,rfl,rfl⟩⟩) hr2) Z Z Z Z ?_;rintro _ _ ⟨S2,_,rfl,h⟩;obtain⟨p,o,f,k3,c,a,d,b,l,k,rfl,-,-,-,-,-⟩:=qB (h.own 0 Z);replace h:SH _ _ [oW S2 (r1:qd) (qu r1 p f c d l o k3 a b k),xb B a_0 p1 N i4 i5,oX H zl7 34,xf w0 w F a_0 p1 N]:=h;refine qh qa h Z Z Z fun _ P h=>zs 0 h Z fun _ h=>X1 7 0 h Z ?_;have h:=h.p [2,0,1,3,4] Z;obtain⟨⟨t,_,_⟩,hr3,hF⟩:=qc hF;refine nxE h (h.frG 4 0 1 Z Z Z) hr3 Z Z Z fun _ h=>X0 6 Z ?_;obtain⟨⟨_,i10,i11⟩,hr4,hF⟩:=qc hF;refine nxE h (h.frG 4 0 1 Z Z Z) hr4 Z Z Z fun _ h=>X0 7 Z (qk Z hF ?_ ?_)<;>intro hF
 .refine X1 3 1 h Z ?_;obtain⟨x1,hx1,hF⟩:=qc hF;obtain⟨p7,k7,hp1,hk1,hl1,g1⟩:=qsd (qf3 (h.own 2 Z)).2.2.2.2.1 hx1;refine r_v (qnB qa Z Z Z (qsf g1 (qf3 (h.own 2 Z)).2.2.2.2.2) hp1 hk1 hl1 Z Z Z Z) Z (zp1 Z (zs 1 h Z fun _ h=>X1 5 1 h Z (zs 3 h Z fun _ h=>qbe ?_)));have hk2:=h;have h:=h.frzI 2 Z;have h:=h.grpAdd 2 Z (x:=((⟨(⟨r1.Am.Ap⟩:qF),r1.Aa,x1⟩:qd):qd)) (show GoT.R _ _ ((⟨(⟨r1.Am.Ap⟩:qF),r1.Aa,x1⟩:qd):qd) _ from⟨[oS p r1.Am.Ap.length o],[oS f r1.Aa.Ab.length k3,oS c r1.Aa.Ah.length a,oS d r1.Aa.Ai.length b,oS p7 x1.length k7],rfl,⟨_,_,rfl,(qf3 (h.grpS 2 0 Z Z)).1.1⟩,⟨[oS f r1.Aa.Ab.length k3,oS c r1.Aa.Ah.length a,oS d r1.Aa.Ai.length b],[oS p7 x1.length k7],rfl,⟨[oS f r1.Aa.Ab.length k3],[oS c r1.Aa.Ah.length a,oS d r1.Aa.Ai.length b],rfl,⟨_,_,rfl,(qf3 (h.grpS 2 0 Z Z)).2.1.1⟩,⟨[oS c r1.Aa.Ah.length a],[oS d r1.Aa.Ai.length b],rfl,⟨_,_,rfl,(qf3 (h.grpS 2 0 Z Z)).2.2.1.1⟩,⟨_,_,rfl,(qf3 (h.grpS 2 0 Z Z)).2.2.2.1.1⟩⟩⟩,⟨_,_,rfl,(qtu (qf3 (h.grpS 2 0 Z Z)).2.2.2.2.1 hx1 hp1 hk1)⟩⟩⟩);have h:=h.grpKeep [0] 2 Z;obtain rfl:=qb hF;have h:=h.p [2,0,4] Z;exact qaR qa [oV qd [oS p r1.Am.Ap.length o,oS f r1.Aa.Ab.length k3,oS c r1.Aa.Ah.length a,oS d r1.Aa.Ai.length b,oS p7 x1.length k7]] ⟨⟨_,_,_,rfl,rfl,hk2.box 3 Z,rfl⟩,G⟩ ⟨_,_,rfl,SH.unfr 1 1 h0 h Z Z⟩
 refine X0 5 Z (qk Z hF ?_ ?_)<;>intro hF
 .have h:=h.p [2,0,1,3,4] Z;obtain⟨S3,S4,_,h⟩:=qip h;obtain⟨g,hy1,hF⟩:=qc hF;have I:=qbk hy1;obtain⟨_,S7,_,h⟩:=h.take hy1;obtain⟨p8,k8,p9,k9,a5,a4,p11,k11,rfl,-,-,-,-⟩:=qbU (h.own 0 Z);obtain⟨S8,S9,S10,S11,h⟩:=qjW h;refine rA [14] [4,8] h Z fun _ h=>M2 63 [0,1,2,3,4,5] 1 1 (h.p [4,8] Z) Z ?_;obtain⟨_,hp2,-,-,hl3⟩:=h.holeAt 4 Z;obtain⟨q1,hq1⟩:∃q,q=0+(t).toNat*GoT.k qah:=⟨_,rfl⟩;refine Ax 6 127 hp2 hq1 ⟨I.1,qC I.2.1 hl3⟩ (h.p [4,8] Z) Z (M0 255 [7] (h.p [4,8] Z) Z (Aw 8 511 (fun w' hw=>qbP qa (qhp hw 0 Z hp2 hq1) (j:=3) Z Z Z) (h.p [4,8] Z) Z ?_));obtain⟨r2,hr5,hF⟩:=qc hF;obtain⟨x2,J,hF⟩:=qc hF;refine qjO (fun e w'=>∃S22 p22 k19,e=[(2,vp H),(3,vp P)]/\SH w0 w' [oW S22 (x2:List Int) [oS p22 x2.length k19],oW S10 (g.Bl:List Int) [oS a5 g.Bl.length a4],oW S9 (g.Br:List Int) [oS p9 g.Br.length k9],oW S8 (g.Aj:List Int) [oS p8 g.Aj.length k8],Ch.hole S7 (r1.Ac:List qah) l r1.Ac.length k (t).toNat [oS p8 g.Aj.length k8,oS p9 g.Br.length k9,oS a5 g.Bl.length a4,oS p22 x2.length k19],oW S4 (r1.Aa:qj) (qay r1.Aa f c d k3 a b),oW S3 (r1.Am:qF) [oS p r1.Am.Ap.length o],xb B a_0 p1 N i10 i11,oX P (qu r1 p f c d l o k3 a b k) 34,oX H zl7 34,xf w0 w F a_0 p1 N]) 0 (bits 15 32767) ?_ ?_
  .intro K;refine At 9 10 1023 1535 Z ?_ ?_
   .refine qkr r2 h (cB 140 Z) (qfy (h.own 0 Z) hr5) Z Z Z Z fun w20 S19 p19 k17 h=>Ag (h.p [5,9] Z) (Ao 10 2047 Z (qn qa [.const (vi (0))] _ ([0]:List Int) h z9 ⟨rfl,G⟩ Z fun w21 p20 S20 h=>Ag (h.p [6,10] Z) (Ao 11 4095 Z ?_)));obtain⟨g4,J⟩:=qE J;refine qar qa 1 h Z (h.sl 0 Z).1 (h.sl 0 Z).2 z9 g4 J Z fun w22 p21 k18 S21 h=>Ag (h.p [6,10] Z) (Ao 12 8191 Z ?_);obtain⟨b4,T,-,-,hl9⟩:=h.holeAt 6 Z;obtain⟨q4,W⟩:∃q,q=0+(t).toNat*GoT.k qah:=⟨_,rfl⟩;refine zx T W ⟨I.1,qC I.2.1 hl9⟩ Z (G0 16383 [13] (h.p [6,10] Z) Z (Ao 14 32767 Z (qoR qa 6 3 h Z T W Z Z Z Z Z Z fun w23 h=>qaS (fun hs=>absurd (hs 14 (by decide)) (by decide)) ?_)));have h:=h.p [1,3,4,5,6,7,8,9,10,11,12] Z;exact aK K ⟨_,_,_,rfl,h⟩ Z
   refine qn qa [.const (vi (0))] _ ([0]:List Int) h z9 ⟨rfl,G⟩ Z fun w20 p19 S19 h=>Ag (h.p [5,9] Z) (Ao 9 2047 Z (qkr r2 h (cB 140 Z) (qfy (h.own 1 Z) hr5) Z Z Z Z fun w21 S20 p20 k17 h=>Ag (h.p [6,10] Z) (Ao 11 4095 Z ?_)));obtain⟨g4,J⟩:=qE J;refine qar qa 0 h Z (h.sl 1 Z).1 (h.sl 1 Z).2 z9 g4 J Z fun w22 p21 k18 S21 h=>Ag (h.p [6,10] Z) (Ao 12 8191 Z ?_);obtain⟨b4,T,-,-,hl9⟩:=h.holeAt 6 Z;obtain⟨q4,W⟩:∃q,q=0+(t).toNat*GoT.k qah:=⟨_,rfl⟩;refine zx T W ⟨I.1,qC I.2.1 hl9⟩ Z (G0 16383 [13] (h.p [6,10] Z) Z (Ao 14 32767 Z (qoR qa 6 3 h Z T W Z Z Z Z Z Z fun w23 h=>?_)));replace h:SH _ _ [oW S21 (x2:List Int) [oS p21 x2.length k18],oW S19 (([0]:List Int):List Int) [oS p19 1 1],oW S11 (g.Bb:List Int) [oS p11 g.Bb.length k11],oW S10 (g.Bl:List Int) [oS a5 g.Bl.length a4],oW S9 (g.Br:List Int) [oS p9 g.Br.length k9],oW S8 (g.Aj:List Int) [oS p8 g.Aj.length k8],Ch.hole S7 (r1.Ac:List qah) l r1.Ac.length k (t).toNat [oS p8 g.Aj.length k8,oS p9 g.Br.length k9,oS a5 g.Bl.length a4,oS p21 x2.length k18],oW S4 (r1.Aa:qj) (qay r1.Aa f c d k3 a b),oW S3 (r1.Am:qF) [oS p r1.Am.Ap.length o],xb B a_0 p1 N i10 i11,oX P (qu r1 p f c d l o k3 a b k) 34,oX H zl7 34,xf w0 w F a_0 p1 N]:=h;refine qaS (fun hs=>absurd (hs 14 (by decide)) (by decide)) ?_;have h:=h.p [0,3,4,5,6,7,8,9,10,11,12] Z;exact aK K ⟨_,_,_,rfl,h⟩ Z
  rintro _ _ ⟨S22,p22,k19,rfl,h⟩;refine Ad (X1 4 8 h Z (zs 9 h Z fun _ h=>qbe ?_));have hk3:=h;obtain⟨_,h⟩:=h.gather [4,5,6,7,8,9,10] (qmd (⟨g.Aj,g.Br,g.Bl,x2⟩:qah) h (qI 3 h Z) (qI 2 h Z) (qI 1 h Z) (qI 0 h Z) (by rfl) (by rfl) (by rfl)) Z;have h:=h.put;obtain⟨_,h⟩:=qok (S:=_) h;have h:=h.frzI 2 Z;have h:=h.frzI 1 Z;have h:=h.frzI 0 Z;have h:=h.p [2,1,0,3,4,5,6] Z;have h:=SH.merge h;have h:=SH.merge h;have h:=h.grpAdd 0 Z (x:=((⟨r1.Am,r1.Aa,(setS r1.Ac t (⟨g.Aj,g.Br,g.Bl,x2⟩:qah))⟩:qd):qd)) (show GoT.R _ _ ((⟨(⟨r1.Am.Ap⟩:qF),r1.Aa,(setS r1.Ac t (⟨g.Aj,g.Br,g.Bl,x2⟩:qah))⟩:qd):qd) _ from⟨[oS p r1.Am.Ap.length o],[oS f r1.Aa.Ab.length k3,oS c r1.Aa.Ah.length a,oS d r1.Aa.Ai.length b,oS l r1.Ac.length k],rfl,⟨_,_,rfl,(qji (h.grpS 0 0 Z Z)).1⟩,⟨[oS f r1.Aa.Ab.length k3,oS c r1.Aa.Ah.length a,oS d r1.Aa.Ai.length b],[oS l r1.Ac.length k],rfl,⟨[oS f r1.Aa.Ab.length k3],[oS c r1.Aa.Ah.length a,oS d r1.Aa.Ai.length b],rfl,⟨_,_,rfl,(qdk (h.grpS 0 1 Z Z)).1.1⟩,⟨[oS c r1.Aa.Ah.length a],[oS d r1.Aa.Ai.length b],rfl,⟨_,_,rfl,(qdk (h.grpS 0 1 Z Z)).2.1.1⟩,⟨_,_,rfl,(qdk (h.grpS 0 1 Z Z)).2.2.1⟩⟩⟩,(h.grpS 0 2 Z Z)⟩⟩);have h:=h.grpKeep [0] 0 Z;obtain rfl:=qb hF;have h:=h.p [0,1,4] Z;exact qaR qa [oV qd (qu r1 p f c d l o k3 a b k)] ⟨⟨_,_,_,rfl,rfl,hk3.box 9 Z,rfl⟩,G⟩ ⟨_,_,rfl,SH.unfr 1 1 h0 h Z Z⟩
 refine X0 5 Z (qk Z hF ?_ ?_)<;>intro hF
 .refine X1 4 1 h Z ?_;have h:=h.p [2,0,1,3,4] Z;obtain⟨_,_,_,h⟩:=qip h;obtain⟨O,hy2,hF⟩:=qc hF;have he2:=qbk hy2;obtain⟨_,_,_,h⟩:=h.take hy2;obtain⟨_,_,_,_,_,_,_,_,rfl,-,-,-,-⟩:=qbU (h.own 0 Z);obtain⟨_,_,_,_,h⟩:=qjW h;obtain⟨_,hp6,-,-,hl11⟩:=h.holeAt 4 Z;obtain⟨q5,hq5⟩:∃q,q=0+(t).toNat*GoT.k qah:=⟨_,rfl⟩;refine zx hp6 hq5 ⟨he2.1,qC he2.2.1 hl11⟩ Z (zp1 Z (zc 1 (qhp h 4 Z hp6 hq5) Z ?_));obtain⟨_,hy3,hF,he3,_,_,_,_,hp7,hq6,rfl,hc5⟩:=(h.sl 2 Z).1.ix hF;refine zx hp7 hq6 ⟨he3.1,qC he3.2.1 (h.sl 2 Z).2⟩ Z (qav qa 2 0 1 h Z hy3 hp7 hq6 Z hc5 Z Z Z Z Z Z Z fun _ h=>X1 5 8 h Z (zs 9 h Z fun _ h=>qbe ?_));have hk4:=h;obtain⟨_,h⟩:=h.gather [4,5,6,7,8,9,10] (qmd (⟨O.Aj,(setS O.Br 0 1),O.Bl,O.Bb⟩:qah) h (qI 3 h Z) (qI 2 h Z) (qI 1 h Z) (qI 0 h Z) (by rfl) (by rfl) (by rfl)) Z;have h:=h.put;obtain⟨_,h⟩:=qok (S:=_) h;have h:=h.frzI 2 Z;have h:=h.frzI 1 Z;have h:=h.frzI 0 Z;have h:=h.p [2,1,0,3,4,5,6] Z;have h:=SH.merge h;have h:=SH.merge h;have h:=h.grpAdd 0 Z (x:=((⟨r1.Am,r1.Aa,(setS r1.Ac t (⟨O.Aj,(setS O.Br 0 1),O.Bl,O.Bb⟩:qah))⟩:qd):qd)) (show GoT.R _ _ ((⟨(⟨r1.Am.Ap⟩:qF),r1.Aa,(setS r1.Ac t (⟨O.Aj,(setS O.Br 0 1),O.Bl,O.Bb⟩:qah))⟩:qd):qd) _ from⟨[oS p r1.Am.Ap.length o],[oS f r1.Aa.Ab.length k3,oS c r1.Aa.Ah.length a,oS d r1.Aa.Ai.length b,oS l r1.Ac.length k],rfl,⟨_,_,rfl,(qji (h.grpS 0 0 Z Z)).1⟩,⟨[oS f r1.Aa.Ab.length k3,oS c r1.Aa.Ah.length a,oS d r1.Aa.Ai.length b],[oS l r1.Ac.length k],rfl,⟨[oS f r1.Aa.Ab.length k3],[oS c r1.Aa.Ah.length a,oS d r1.Aa.Ai.length b],rfl,⟨_,_,rfl,(qdk (h.grpS 0 1 Z Z)).1.1⟩,⟨[oS c r1.Aa.Ah.length a],[oS d r1.Aa.Ai.length b],rfl,⟨_,_,rfl,(qdk (h.grpS 0 1 Z Z)).2.1.1⟩,⟨_,_,rfl,(qdk (h.grpS 0 1 Z Z)).2.2.1⟩⟩⟩,(h.grpS 0 2 Z Z)⟩⟩);have h:=h.grpKeep [0] 0 Z;obtain rfl:=qb hF;have h:=h.p [0,1,4] Z;exact qaR qa [oV qd (qu r1 p f c d l o k3 a b k)] ⟨⟨_,_,_,rfl,rfl,hk4.box 9 Z,rfl⟩,G⟩ ⟨_,_,rfl,SH.unfr 1 1 h0 h Z Z⟩
 refine X0 5 Z (qk Z hF ?_ ?_)<;>intro hF
 .have h:=h.p [2,0,1,3,4] Z;obtain⟨S36,S37,_,h⟩:=qip h;obtain⟨i,hy4,hF⟩:=qc hF;have he4:=qbk hy4;obtain⟨_,S40,_,h⟩:=h.take hy4;obtain⟨p27,k24,p28,k25,p29,k26,p30,k27,rfl,-,-,-,-⟩:=qbU (h.own 0 Z);obtain⟨S41,S42,S43,S44,h⟩:=qjW h;refine rA [] [4,8] h Z fun _ h=>M1 7 [0,1,2] 1 (h.p [4,8] Z) Z ?_;obtain⟨_,hp8,-,-,hl13⟩:=h.holeAt 4 Z;obtain⟨q7,hq7⟩:∃q,q=0+(t).toNat*GoT.k qah:=⟨_,rfl⟩;refine Ax 3 15 hp8 hq7 ⟨he4.1,qC he4.2.1 hl13⟩ (h.p [4,8] Z) Z (M0 31 [4] (h.p [4,8] Z) Z (Aw 5 63 (fun w' hw=>qbP qa (qhp hw 0 Z hp8 hq7) (j:=2) Z Z Z) (h.p [4,8] Z) Z ?_));refine M0 191 [7] (h.p [4,8] Z) Z ?_;obtain⟨⟨_,i13,i14⟩,hr9,hF⟩:=qc hF;obtain⟨y5,L,hF⟩:=qc hF;obtain⟨_,M,hF⟩:=qc hF;refine qjO (fun e w'=>e=[(2,vp H),(3,vp P)]/\SH w0 w' [xb B a_0 p1 N i13 i14,oW S44 (i.Bb:List Int) [oS p30 i.Bb.length k27],oW S43 ((setS i.Bl 0 y5):List Int) [oS p29 i.Bl.length k26],oW S42 (i.Br:List Int) [oS p28 i.Br.length k25],oW S41 (i.Aj:List Int) [oS p27 i.Aj.length k24],Ch.hole S40 (r1.Ac:List qah) l r1.Ac.length k (t).toNat [oS p27 i.Aj.length k24,oS p28 i.Br.length k25,oS p29 i.Bl.length k26,oS p30 i.Bb.length k27],oW S37 (r1.Aa:qj) (qay r1.Aa f c d k3 a b),oW S36 (r1.Am:qF) [oS p r1.Am.Ap.length o],oX P (qu r1 p f c d l o k3 a b k) 34,oX H zl7 34,xf w0 w F a_0 p1 N]) 0 (bits 13 8191) ?_ ?_
  .intro K;refine At 6 8 255 447 Z ?_ ?_
   .refine qn qa [.const (vi (-1)),.const (vi (500)),.const (vi (501))] _ ([(-1),500,501]:List Int) h z9 ⟨rfl,rfl,rfl,G⟩ Z fun w36 p33 S47 h=>Ag (h.p [5,9] Z) (Ao 8 511 Z ?_);have h:=h.p [8,0,1,2,3,4,5,6,7,9,10,11] Z;refine nxE h (h.frG 11 0 1 Z Z Z) hr9 Z Z Z fun w37 h=>Ag (h.p [6,9] Z) ?_;have R:=qbk L;obtain⟨b12,o_7,q12,cs11,v,z,-,X,hc11⟩:=(h.sl 1 Z).1.at L;obtain rfl:=X;refine Ax 9 1023 v z ⟨R.1,qC R.2.1 (h.sl 1 Z).2⟩ (h.p [6,9] Z) Z (Ao 10 2047 Z (r_v (qbP qa (qH (w1:=w) (S1:=fun _=>False) h 1 Z L v z Z) (j:=0) Z Z Z) Z (Ag (h.p [6,9] Z) ?_)));have u:=qbk M;obtain⟨b13,o_8,q13,cs12,y,A,-,Y,Q⟩:=(h.sl 3 Z).1.at M;obtain rfl:=Y;refine Ax 11 4095 y A ⟨u.1,qC u.2.1 (h.sl 3 Z).2⟩ (h.p [6,9] Z) Z (Ao 12 8191 Z (qav qa 3 0 y5 h Z M y A Z Q Z Z Z Z Z Z Z fun w38 h=>Ag (h.p [6,9] Z) ?_));have h:=h.p [0,2,3,4,5,6,7,8,9,10,11] Z;exact aK K ⟨rfl,h⟩ Z
   have h:=h.p [7,0,1,2,3,4,5,6,8,9,10] Z;refine nxE h (h.frG 10 0 1 Z Z Z) hr9 Z Z Z fun w36 h=>Ag (h.p [5,8] Z) (Ao 6 511 Z (qn qa [.const (vi (-1)),.const (vi (500)),.const (vi (501))] _ ([(-1),500,501]:List Int) h z9 ⟨rfl,rfl,rfl,G⟩ Z fun w37 p33 S47 h=>Ag (h.p [6,9] Z) ?_));have R:=qbk L;obtain⟨b12,o_7,q12,cs11,v,z,-,X,hc11⟩:=(h.sl 0 Z).1.at L;obtain rfl:=X;refine Ax 9 1023 v z ⟨R.1,qC R.2.1 (h.sl 0 Z).2⟩ (h.p [6,9] Z) Z (Ao 10 2047 Z (r_v (qbP qa (qH (w1:=w) (S1:=fun _=>False) h 0 Z L v z Z) (j:=0) Z Z Z) Z (Ag (h.p [6,9] Z) ?_)));have u:=qbk M;obtain⟨b13,o_8,q13,cs12,y,A,-,Y,Q⟩:=(h.sl 3 Z).1.at M;obtain rfl:=Y;refine Ax 11 4095 y A ⟨u.1,qC u.2.1 (h.sl 3 Z).2⟩ (h.p [6,9] Z) Z (Ao 12 8191 Z (qav qa 3 0 y5 h Z M y A Z Q Z Z Z Z Z Z Z fun w38 h=>Ag (h.p [6,9] Z) ?_));have h:=h.p [1,2,3,4,5,6,7,8,9,10,11] Z;exact aK K ⟨rfl,h⟩ Z
  rintro _ _ ⟨rfl,h⟩;refine Ad (X1 4 8 h Z (zs 9 h Z fun _ h=>qbe ?_));have hk5:=h;obtain⟨_,h⟩:=h.gather [0,5,6,7,8,9,10] (qmd (⟨i.Aj,i.Br,(setS i.Bl 0 y5),i.Bb⟩:qah) h (qI 4 h Z) (qI 3 h Z) (qI 2 h Z) (qI 1 h Z) (by rfl) (by rfl) (by rfl)) Z;have h:=h.p [0,2,1,3,4,5,6,7] Z;have h:=h.put;obtain⟨_,h⟩:=qok (S:=_) h;have h:=h.frzI 3 Z;have h:=h.frzI 2 Z;have h:=h.frzI 0 Z;have h:=h.p [3,2,0,1,4,5,6] Z;have h:=SH.merge h;have h:=SH.merge h;have h:=h.grpAdd 0 Z (x:=((⟨r1.Am,r1.Aa,(setS r1.Ac t (⟨i.Aj,i.Br,(setS i.Bl 0 y5),i.Bb⟩:qah))⟩:qd):qd)) (show GoT.R _ _ ((⟨(⟨r1.Am.Ap⟩:qF),r1.Aa,(setS r1.Ac t (⟨i.Aj,i.Br,(setS i.Bl 0 y5),i.Bb⟩:qah))⟩:qd):qd) _ from⟨[oS p r1.Am.Ap.length o],[oS f r1.Aa.Ab.length k3,oS c r1.Aa.Ah.length a,oS d r1.Aa.Ai.length b,oS l r1.Ac.length k],rfl,⟨_,_,rfl,(qji (h.grpS 0 0 Z Z)).1⟩,⟨[oS f r1.Aa.Ab.length k3,oS c r1.Aa.Ah.length a,oS d r1.Aa.Ai.length b],[oS l r1.Ac.length k],rfl,⟨[oS f r1.Aa.Ab.length k3],[oS c r1.Aa.Ah.length a,oS d r1.Aa.Ai.length b],rfl,⟨_,_,rfl,(qdk (h.grpS 0 1 Z Z)).1.1⟩,⟨[oS c r1.Aa.Ah.length a],[oS d r1.Aa.Ai.length b],rfl,⟨_,_,rfl,(qdk (h.grpS 0 1 Z Z)).2.1.1⟩,⟨_,_,rfl,(qdk (h.grpS 0 1 Z Z)).2.2.1⟩⟩⟩,(h.grpS 0 2 Z Z)⟩⟩);have h:=h.grpKeep [0] 0 Z;obtain rfl:=qb hF;have h:=h.p [0,1,4] Z;exact qaR qa [oV qd (qu r1 p f c d l o k3 a b k)] ⟨⟨_,_,_,rfl,rfl,hk5.box 9 Z,rfl⟩,G⟩ ⟨_,_,rfl,SH.unfr 1 1 h0 h Z Z⟩
 refine X0 5 Z (qk Z hF ?_ ?_)<;>intro hF
 .have h:=h.p [2,0,1,3,4] Z;obtain⟨_,_,_,h⟩:=qip h;obtain⟨C,hy7,hF⟩:=qc hF;have D:=qbk hy7;obtain⟨_,_,_,h⟩:=h.take hy7;obtain⟨_,_,_,_,_,_,_,_,rfl,-,-,-,-⟩:=qbU (h.own 0 Z);obtain⟨_,_,_,_,h⟩:=qjW h;refine rA [] [4,8] h Z fun _ h=>M1 7 [0,1,2] 1 (h.p [4,8] Z) Z ?_;obtain⟨_,hp15,-,-,hl15⟩:=h.holeAt 4 Z;obtain⟨q14,hq14⟩:∃q,q=0+(t).toNat*GoT.k qah:=⟨_,rfl⟩;refine Ax 3 15 hp15 hq14 ⟨D.1,qC D.2.1 hl15⟩ (h.p [4,8] Z) Z (M0 31 [4] (h.p [4,8] Z) Z (Aw 5 63 (fun w' hw=>qbP qa (qhp hw 0 Z hp15 hq14) (j:=0) Z Z Z) (h.p [4,8] Z) Z ?_));refine M1 511 [6,7,8] 1 (h.p [4,8] Z) Z ?_;obtain⟨_,hp16,-,-,hl17⟩:=h.holeAt 4 Z;obtain⟨q15,hq15⟩:∃q,q=0+(t).toNat*GoT.k qah:=⟨_,rfl⟩;refine Ax 9 1023 hp16 hq15 ⟨D.1,qC D.2.1 hl17⟩ (h.p [4,8] Z) Z (M0 2047 [10] (h.p [4,8] Z) Z (Aw 11 4095 (fun w' hw=>qbP qa (qhp hw 0 Z hp16 hq15) (j:=0) Z Z Z) (h.p [4,8] Z) Z ?_));refine M0 32767 [12,13,14] (h.p [4,8] Z) Z (Ao 15 65535 Z ?_);have h:=h.p [7,0,1,2,3,4,5,6,8,9,10] Z;obtain⟨⟨a3,_,_⟩,hr16,hF⟩:=qc hF;refine nxE h (h.frG 10 0 1 Z Z Z) hr16 Z Z Z fun _ h=>G0 131071 [16] (h.p [5,8] Z) Z ?_;obtain⟨_,hy8,hF,he12,_,_,_,_,hp17,hq16,rfl,hc14⟩:=(h.sl 4 Z).1.ix hF;refine Ax 17 262143 hp17 hq16 ⟨he12.1,qC he12.2.1 (h.sl 4 Z).2⟩ (h.p [5,8] Z) Z (Ao 18 524287 Z (qav qa 4 0 (W64 (a3-1)) h Z hy8 hp17 hq16 Z hc14 Z Z Z Z Z Z Z fun _ h=>Ag (h.p [5,8] Z) (Ad (X1 4 8 h Z (zs 9 h Z fun _ h=>qbe ?_)))));have hk6:=h;obtain⟨_,h⟩:=h.gather [0,5,6,7,8,9,10] (qmd (⟨(setS C.Aj (W64 ((C.Aj.length:Int)-1)) (W64 (a3-1))),C.Br,C.Bl,C.Bb⟩:qah) h (qI 4 h Z) (qI 3 h Z) (qI 2 h Z) (qI 1 h Z) (by rfl) (by rfl) (by rfl)) Z;have h:=h.p [0,2,1,3,4,5,6,7] Z;have h:=h.put;obtain⟨_,h⟩:=qok (S:=_) h;have h:=h.frzI 3 Z;have h:=h.frzI 2 Z;have h:=h.frzI 0 Z;have h:=h.p [3,2,0,1,4,5,6] Z;have h:=SH.merge h;have h:=SH.merge h;have h:=h.grpAdd 0 Z (x:=((⟨r1.Am,r1.Aa,(setS r1.Ac t (⟨(setS C.Aj (W64 ((C.Aj.length:Int)-1)) (W64 (a3-1))),C.Br,C.Bl,C.Bb⟩:qah))⟩:qd):qd)) (show GoT.R _ _ ((⟨(⟨r1.Am.Ap⟩:qF),r1.Aa,(setS r1.Ac t (⟨(setS C.Aj (W64 ((C.Aj.length:Int)-1)) (W64 (a3-1))),C.Br,C.Bl,C.Bb⟩:qah))⟩:qd):qd) _ from⟨[oS p r1.Am.Ap.length o],[oS f r1.Aa.Ab.length k3,oS c r1.Aa.Ah.length a,oS d r1.Aa.Ai.length b,oS l r1.Ac.length k],rfl,⟨_,_,rfl,(qji (h.grpS 0 0 Z Z)).1⟩,⟨[oS f r1.Aa.Ab.length k3,oS c r1.Aa.Ah.length a,oS d r1.Aa.Ai.length b],[oS l r1.Ac.length k],rfl,⟨[oS f r1.Aa.Ab.length k3],[oS c r1.Aa.Ah.length a,oS d r1.Aa.Ai.length b],rfl,⟨_,_,rfl,(qdk (h.grpS 0 1 Z Z)).1.1⟩,⟨[oS c r1.Aa.Ah.length a],[oS d r1.Aa.Ai.length b],rfl,⟨_,_,rfl,(qdk (h.grpS 0 1 Z Z)).2.1.1⟩,⟨_,_,rfl,(qdk (h.grpS 0 1 Z Z)).2.2.1⟩⟩⟩,(h.grpS 0 2 Z Z)⟩⟩);have h:=h.grpKeep [0] 0 Z;obtain rfl:=qb hF;have h:=h.p [0,1,4] Z;exact qaR qa [oV qd (qu r1 p f c d l o k3 a b k)] ⟨⟨_,_,_,rfl,rfl,hk6.box 9 Z,rfl⟩,G⟩ ⟨_,_,rfl,SH.unfr 1 1 h0 h Z Z⟩
 refine X0 5 Z (qk Z hF ?_ ?_)<;>intro hF
 .refine X1 4 1 h Z ?_;have h:=h.p [2,0,1,3,4] Z;obtain⟨_,_,_,h⟩:=qip h;have h:=h.p [1,0,2,3,4,5,6] Z;obtain⟨_,_,_,h⟩:=qq7 h;obtain⟨y9,hy9,hF,he13,_,_,_,_,hp18,hq17,hr18,hc16⟩:=(h.sl 0 Z).1.ix hF;obtain rfl:=qfl hr18;refine zx hp18 hq17 ⟨he13.1,qC he13.2.1 (h.sl 0 Z).2⟩ Z (zp1 Z (qav qa 0 1 ({ y9 with Bs:=3 }:qaD) h Z hy9 hp18 hq17 (qjz y9) hc16 Z Z Z (qjz ({ y9 with Bs:=3 })) Z Z Z fun _ h=>X1 5 6 h Z (zs 7 h Z fun _ h=>qbe ?_)));have hk7:=h;have h:=h.frzI 4 Z;have h:=h.frzI 2 Z;have h:=h.frzI 1 Z;have h:=h.frzI 0 Z;have h:=h.frzI 3 Z;have h:=h.p [4,2,0,1,3,5,6,7,8] Z;have h:=SH.merge h;have h:=h.p [0,2,1,3,4,5,6,7] Z;have h:=SH.merge h;have h:=SH.merge h;have h:=SH.merge h;have h:=h.grpAdd 0 Z (x:=((⟨r1.Am,(⟨r1.Aa.Ab,r1.Aa.Ah,(setS r1.Aa.Ai 0 ({ y9 with Bs:=3 }))⟩:qj),r1.Ac⟩:qd):qd)) (show GoT.R _ _ ((⟨(⟨r1.Am.Ap⟩:qF),(⟨r1.Aa.Ab,r1.Aa.Ah,(setS r1.Aa.Ai 0 ({ y9 with Bs:=3 }))⟩:qj),r1.Ac⟩:qd):qd) _ from⟨[oS p r1.Am.Ap.length o],[oS f r1.Aa.Ab.length k3,oS c r1.Aa.Ah.length a,oS d r1.Aa.Ai.length b,oS l r1.Ac.length k],rfl,⟨_,_,rfl,(qji (h.grpS 0 0 Z Z)).1⟩,⟨[oS f r1.Aa.Ab.length k3,oS c r1.Aa.Ah.length a,oS d r1.Aa.Ai.length b],[oS l r1.Ac.length k],rfl,⟨[oS f r1.Aa.Ab.length k3],[oS c r1.Aa.Ah.length a,oS d r1.Aa.Ai.length b],rfl,(h.grpS 0 1 Z Z),⟨[oS c r1.Aa.Ah.length a],[oS d r1.Aa.Ai.length b],rfl,(h.grpS 0 2 Z Z),(h.grpS 0 3 Z Z)⟩⟩,(h.grpS 0 4 Z Z)⟩⟩);have h:=h.grpKeep [0] 0 Z;obtain rfl:=qb hF;have h:=h.p [0,1,4] Z;exact qaR qa [oV qd (qu r1 p f c d l o k3 a b k)] ⟨⟨_,_,_,rfl,rfl,hk7.box 7 Z,rfl⟩,G⟩ ⟨_,_,rfl,SH.unfr 1 1 h0 h Z Z⟩
 refine X1 5 1 h Z (zs 3 h Z fun _ h=>qbe ?_);have hk8:=h;have h:=h.frzI 2 Z;have h:=h.grpAdd 2 Z (x:=(r1:qd)) (h.grpS 2 0 Z Z);have h:=h.grpKeep [0] 2 Z;obtain rfl:=qb hF;have h:=h.p [2,0,4] Z;exact qaR qa [oV qd (qu r1 p f c d l o k3 a b k)] ⟨⟨_,_,_,rfl,rfl,hk8.box 3 Z,rfl⟩,G⟩ ⟨_,_,rfl,SH.unfr 1 1 h0 h Z Z⟩
def qhf(n:Nat)(s:Tl01Source):Option (qd×Int×Int):=(qr n (⟨s.code,s.at_,s.seed⟩:Tl01Source) 12).bind fun(c,a,b)=>bif (c==0) then(qiv n (⟨s.code,a,b⟩:Tl01Source)).bind fun(r1,i,k)=>V (r1,i,k) else bif (c==1) then bif (c==1) then(qeN n (⟨s.code,a,b⟩:Tl01Source) 6 true).bind fun(r,l,m)=>V (r,l,m) else(qeN n (⟨s.code,a,b⟩:Tl01Source) 6 false).bind fun(t,i8,p)=>V (t,i8,p) else bif (c==2) then(qeN n (⟨s.code,a,b⟩:Tl01Source) 6 true).bind fun(u,d,f)=>V (u,d,f) else(qeN n (⟨s.code,a,b⟩:Tl01Source) 6 false).bind fun(v,g,h)=>V (v,g,h)
theorem qmU{n g w F}{s:Tl01Source}{d p1 c}(i:SH g w (xb d s p1 c s.at_ s.seed::F))(ha1:GoT.R w (Fr g F) s (qak s p1 c)){r:(qd×Int×Int)}(hF:qhf n s=V r):RetW prog 26 [vp d] w (fun us w'=>∃S1 cs1,us=[oV qd cs1]/\SH g w' (oG (fun _=>False) S1 [fct (r.1:qd) cs1]::xb d s p1 c r.2.1 r.2.2::F)):=by
 have h:=SH.frm1 i ha1;refine qbh func26 Z (m:=16) Z Z (zSR (qh qa h Z Z Z fun _ f h=>X0 5 Z ?_));have h:=h.p [1,0,2] Z;obtain⟨⟨_,a,b⟩,hr1,hF⟩:=qc hF;refine nxE h (h.frG 2 0 1 Z Z Z) hr1 Z Z Z fun _ h=>X0 7 Z (qk Z hF ?_ ?_)<;>intro hF
 .refine X0 3 Z ?_;obtain⟨⟨r1,i4,i5⟩,hr2,hF⟩:=qc hF;refine qa2 (cB 79 Z) (qnX (a_0:=(⟨s.code,a,b⟩:Tl01Source)) h (show GoT.R _ _ ((⟨s.code,a,b⟩:Tl01Source):Tl01Source) _ from⟨[oS p1 s.code.length c],[vi a,vi b],rfl,⟨_,_,rfl,(qD (h.frG 2 0 1 Z Z Z)).1⟩,⟨[vi a],[vi b],rfl,rfl,rfl⟩⟩) hr2) Z Z Z Z ?_;rintro _ _ ⟨S2,_,rfl,h⟩;have hr3:=h.grpS 0 0 Z Z;obtain⟨p2,k2,p3,k3,p4,k4,p5,k5,p6,k6,rfl,_,_,_,_,_⟩:=qB hr3;replace h:SH _ _ [oG (fun _=>False) S2 [fct (r1:qd) (qu r1 p2 p3 p4 p5 p6 k2 k3 k4 k5 k6)],xb d s p1 c i4 i5,oX f zl7 34,xf g w F s p1 c]:=h;refine zs 2 h Z fun _ h=>qbe ?_;have hk1:=h;have h:=h.grpAdd 0 Z (x:=(r1:qd)) (h.grpS 0 0 Z Z);have h:=h.grpKeep [0] 0 Z;obtain rfl:=qb hF;have h:=h.p [0,1,3] Z;exact qaR qa [oV qd (qu r1 p2 p3 p4 p5 p6 k2 k3 k4 k5 k6)] ⟨⟨_,_,_,rfl,rfl,hk1.box 2 Z,rfl⟩,G⟩ ⟨_,_,rfl,SH.unfr 1 1 i h Z Z⟩
 refine X0 6 Z (qk Z hF ?_ ?_)<;>intro hF
 .refine qfv (qk Z hF ?_ ?_)<;>intro hF
  .refine X0 3 Z ?_;obtain⟨⟨r2,i6,i7⟩,hr5,hF⟩:=qc hF;refine qa2 (cB 80 Z) (qe0 (s:=(⟨s.code,a,b⟩:Tl01Source)) (most:=6) (wild:=true) h (show GoT.R _ _ ((⟨s.code,a,b⟩:Tl01Source):Tl01Source) _ from⟨[oS p1 s.code.length c],[vi a,vi b],rfl,⟨_,_,rfl,(qD (h.frG 2 0 1 Z Z Z)).1⟩,⟨[vi a],[vi b],rfl,rfl,rfl⟩⟩) hr5) Z Z Z Z ?_;rintro _ _ ⟨S3,_,rfl,h⟩;obtain⟨p7,k7,p8,k8,p9,k9,L,k,M,l,rfl,-,-,-,-,-⟩:=qB (h.own 0 Z);replace h:SH _ _ [oW S3 (r2:qd) (qu r2 p7 p8 p9 L M k7 k8 k9 k l),xb d s p1 c i6 i7,oX f zl7 34,xf g w F s p1 c]:=h;refine zs 2 h Z fun _ h=>qbe ?_;have hk2:=h;have h:=h.frzI 0 Z;have h:=h.grpAdd 0 Z (x:=(r2:qd)) (h.grpS 0 0 Z Z);have h:=h.grpKeep [0] 0 Z;obtain rfl:=qb hF;have h:=h.p [0,1,3] Z;exact qaR qa [oV qd (qu r2 p7 p8 p9 L M k7 k8 k9 k l)] ⟨⟨_,_,_,rfl,rfl,hk2.box 2 Z,rfl⟩,G⟩ ⟨_,_,rfl,SH.unfr 1 1 i h Z Z⟩
  refine X0 5 Z ?_;obtain⟨⟨r3,i8,i9⟩,hr6,hF⟩:=qc hF;refine qa2 (cB 80 Z) (qe0 (s:=(⟨s.code,a,b⟩:Tl01Source)) (most:=6) (wild:=false) h (show GoT.R _ _ ((⟨s.code,a,b⟩:Tl01Source):Tl01Source) _ from⟨[oS p1 s.code.length c],[vi a,vi b],rfl,⟨_,_,rfl,(qD (h.frG 2 0 1 Z Z Z)).1⟩,⟨[vi a],[vi b],rfl,rfl,rfl⟩⟩) hr6) Z Z Z Z ?_;rintro _ _ ⟨S4,_,rfl,h⟩;obtain⟨N,o,O,p,P,t,Q,u,R,v,rfl,-,-,-,-,-⟩:=qB (h.own 0 Z);replace h:SH _ _ [oW S4 (r3:qd) (qu r3 N O P Q R o p t u v),xb d s p1 c i8 i9,oX f zl7 34,xf g w F s p1 c]:=h;refine zs 2 h Z fun _ h=>qbe ?_;have hk3:=h;have h:=h.frzI 0 Z;have h:=h.grpAdd 0 Z (x:=(r3:qd)) (h.grpS 0 0 Z Z);have h:=h.grpKeep [0] 0 Z;obtain rfl:=qb hF;have h:=h.p [0,1,3] Z;exact qaR qa [oV qd (qu r3 N O P Q R o p t u v)] ⟨⟨_,_,_,rfl,rfl,hk3.box 2 Z,rfl⟩,G⟩ ⟨_,_,rfl,SH.unfr 1 1 i h Z Z⟩
 refine X0 4 Z (qk Z hF ?_ ?_)<;>intro hF
 .refine X0 3 Z ?_;obtain⟨⟨r4,i10,i11⟩,hr7,hF⟩:=qc hF;refine qa2 (cB 80 Z) (qe0 (s:=(⟨s.code,a,b⟩:Tl01Source)) (most:=6) (wild:=true) h (show GoT.R _ _ ((⟨s.code,a,b⟩:Tl01Source):Tl01Source) _ from⟨[oS p1 s.code.length c],[vi a,vi b],rfl,⟨_,_,rfl,(qD (h.frG 2 0 1 Z Z Z)).1⟩,⟨[vi a],[vi b],rfl,rfl,rfl⟩⟩) hr7) Z Z Z Z ?_;rintro _ _ ⟨S5,_,rfl,h⟩;obtain⟨S,y,T,z,W,A,X,B,Y,C,rfl,-,-,-,-,-⟩:=qB (h.own 0 Z);replace h:SH _ _ [oW S5 (r4:qd) (qu r4 S T W X Y y z A B C),xb d s p1 c i10 i11,oX f zl7 34,xf g w F s p1 c]:=h;refine zs 2 h Z fun _ h=>qbe ?_;have hk4:=h;have h:=h.frzI 0 Z;have h:=h.grpAdd 0 Z (x:=(r4:qd)) (h.grpS 0 0 Z Z);have h:=h.grpKeep [0] 0 Z;obtain rfl:=qb hF;have h:=h.p [0,1,3] Z;exact qaR qa [oV qd (qu r4 S T W X Y y z A B C)] ⟨⟨_,_,_,rfl,rfl,hk4.box 2 Z,rfl⟩,G⟩ ⟨_,_,rfl,SH.unfr 1 1 i h Z Z⟩
 refine X0 5 Z ?_;obtain⟨⟨r5,i12,i13⟩,hr8,hF⟩:=qc hF;refine qa2 (cB 80 Z) (qe0 (s:=(⟨s.code,a,b⟩:Tl01Source)) (most:=6) (wild:=false) h (show GoT.R _ _ ((⟨s.code,a,b⟩:Tl01Source):Tl01Source) _ from⟨[oS p1 s.code.length c],[vi a,vi b],rfl,⟨_,_,rfl,(qD (h.frG 2 0 1 Z Z Z)).1⟩,⟨[vi a],[vi b],rfl,rfl,rfl⟩⟩) hr8) Z Z Z Z ?_;rintro _ _ ⟨S6,_,rfl,h⟩;obtain⟨e,D,a3,H,a4,I,a5,J,a6,K,rfl,-,-,-,-,-⟩:=qB (h.own 0 Z);replace h:SH _ _ [oW S6 (r5:qd) (qu r5 e a3 a4 a5 a6 D H I J K),xb d s p1 c i12 i13,oX f zl7 34,xf g w F s p1 c]:=h;refine zs 2 h Z fun _ h=>qbe ?_;have hk5:=h;have h:=h.frzI 0 Z;have h:=h.grpAdd 0 Z (x:=(r5:qd)) (h.grpS 0 0 Z Z);have h:=h.grpKeep [0] 0 Z;obtain rfl:=qb hF;have h:=h.p [0,1,3] Z;exact qaR qa [oV qd (qu r5 e a3 a4 a5 a6 D H I J K)] ⟨⟨_,_,_,rfl,rfl,hk5.box 2 Z,rfl⟩,G⟩ ⟨_,_,rfl,SH.unfr 1 1 i h Z Z⟩
def qcC(s:Tl01Source)(r1:(List qv))(g:Int):Nat->(List Int)->Int->Int->Int->Option ((List Int)×Int×Int×Int)|0,_,_,_,_=>U|n+1,i,h,b,a=>bif decide (a<(r1.length:Int)) then(appS i ([a]:List Int)).bind fun k=>(qr n (⟨s.code,h,b⟩:Tl01Source) (W64 (1+g))).bind fun(c,d,f)=>qcC s r1 g n k d f (W64 (a+(W64 (1+c)))) else V (i,h,b,a)
def qgT(n:Nat)(s:Tl01Source)(b:qd):Option ((List Int)×Int×Int):=((qco n b).bind fun A=>bif (!A) then V (s.at_,s.seed,true) else(qr n (⟨s.code,s.at_,s.seed⟩:Tl01Source) 3).bind fun(i,k,l)=>V (k,l,decide (i > 0))).bind fun(m,p,b1)=>bif b1 then V (([]:List Int),m,p) else(qeT n b).bind fun r1=>(qr n (⟨s.code,m,p⟩:Tl01Source) 8).bind fun(r,u,v)=>(qr n (⟨s.code,u,v⟩:Tl01Source) (W64 (1+r))).bind fun(x,y,i8)=>(qcC s r1 r n ([]:List Int) y i8 x).bind fun(t,z,c,_)=>(qr n (⟨s.code,z,c⟩:Tl01Source) 12).bind fun(d,i16,a)=>bif (d==0) then(qr n (⟨s.code,i16,a⟩:Tl01Source) 2).bind fun(f,g,h)=>(appS t ([W64 ((r1.length:Int)*f)]:List Int)).bind fun B=>V (B,g,h) else V (t,i16,a)
theorem qmn{n c w F}{s:Tl01Source}{a p1 f}{b:qd}{cs1}(x:SH c w (xb a s p1 f s.at_ s.seed::F))(D:GoT.R w (Fr c F) s (qak s p1 f))(v:GoT.R w (Fr c F) b cs1){r:((List Int)×Int×Int)}(hF:qgT n s b=V r):RetW prog 29 [vp a,gv b cs1] w (fun us w'=>∃S1 cs2,us=[oV (List Int) cs2]/\SH c w' (oW S1 (r.1:(List Int)) cs2::xb a s p1 f r.2.1 r.2.2::F)):=by
 have h:=SH.frm1 x D;have N:=v;obtain⟨p2,T,p3,k3,p4,W,p5,X,p6,Y,rfl,_,_,_,_,_⟩:=qB v;have h:=h.grpAdd 1 Z N;replace h:SH _ _ [xb a s p1 f s.at_ s.seed,oG (old c) (FS F) [fct (b:qd) (qu b p2 p3 p4 p5 p6 T k3 W X Y),fct (s:Tl01Source) (qak s p1 f),same c w F]]:=h;refine qbh func29 Z (m:=52) Z Z (zSR (qA h Z Z fun _ o h=>X0 4 Z (qn qa [] _ ([]:List Int) h z9 trivial Z fun _ p7 S2 h=>X0 4 Z ?_)));obtain⟨B,u,_,hF,p⟩:=bindE hF;refine qau (fun e w'=>∃O Q b1,B (O,Q,b1)=V r/\e=[(0,vp a),(3,vp o),(5,oS p7 0 0),(17,.bool b1)]/\SH c w' [oW S2 (([]:List Int):List Int) [oS p7 0 0],oX o (qu b p2 p3 p4 p5 p6 T k3 W X Y) 34,xb a s p1 f O Q,oG (old c) (FS F) [fct (b:qd) (qu b p2 p3 p4 p5 p6 T k3 W X Y),fct (s:Tl01Source) (qak s p1 f),same c w F]]) ?_ ?_
 .refine X1 2 1 h Z (zcB h hF (qfF (h.grp 3 0 Z Z)) Z fun _ _ h hF=>zp2 Z (qe (t:=13) hF Z ?_ ?_))<;>intro hF
  .refine X0 5 Z ?_;cases qb hF;exact rG ⟨_,_,_,p,rfl,h⟩ Z
  refine X0 3 Z ?_;have h:=h.p [2,0,1,3] Z;obtain⟨⟨_,_,_⟩,M,hF⟩:=qc hF;refine nxE h (h.frG 3 1 1 Z Z Z) M Z Z Z fun _ h=>X0 4 Z ?_;have h:=h.p [1,2,0,3] Z;cases qb hF;exact rG ⟨_,_,_,p,rfl,h⟩ Z
 rintro _ _ ⟨O,Q,b1,hF,rfl,h⟩;subst u;refine qk Z hF ?_ ?_<;>intro hF
 .refine X0 5 Z ?_;obtain rfl:=qb hF;have h:=h.p [0,2,3] Z;exact qaR qa [oV (List Int) [oS p7 0 0]] ⟨rfl,G⟩ ⟨_,_,rfl,SH.unfr 1 2 x h Z Z⟩
 refine X1 4 1 h Z (zcL h hF (qgi (h.grp 3 0 Z Z)) Z fun r1 _ _ _ _ h hF=>X0 6 Z ?_);have h:=h.p [3,0,1,2,4] Z;obtain⟨⟨i3,_,_⟩,H,hF⟩:=qc hF;refine nxE h (h.frG 4 1 1 Z Z Z) H Z Z Z fun _ h=>X0 8 Z ?_;obtain⟨⟨_,_,_⟩,I,hF⟩:=qc hF;refine nxE h (h.frG 4 1 1 Z Z Z) I Z Z Z fun _ h=>X0 2 Z ?_;have h:=h.grpKeep [1,2] 4 Z;obtain⟨o3,hF,C⟩:=qc hF;refine ql ?_;have h:=h.p [0,2,4] Z;refine rL (fun m e w'=>∃S4 z l y A R k d,qcC s r1 i3 m A R k d=V o3/\e=[(0,vp a),(5,oS z l y),(6,vi (r1.length:Int)),(7,vi (W64 (1+i3))),(8,vi d)]/\SH c w' [xb a s p1 f R k,oW S4 (A:List Int) [oS z l y],xf c w F s p1 f]) n ⟨_,_,_,_,_,_,_,_,hF,rfl,h⟩ Z ?_;rintro m1 _ _ ⟨S4,z,l,y,A,R,k,d,hF,rfl,h⟩;obtain rfl:=(h.sl 1 Z).2;rcases m1 with _|m1
 .cases hF
 refine X0 7 Z (qk Z hF ?_ ?_)<;>intro hF
 .refine X0 6 Z (qn qa [.tmp 38] _ ([d]:List Int) h z9 ⟨rfl,G⟩ Z fun _ _ _ h=>?_);obtain⟨_,g,hF⟩:=qc hF;obtain⟨g1,g⟩:=qE g;refine qar qa 2 h Z (h.sl 0 Z).1 (h.sl 0 Z).2 z9 g1 g Z fun _ _ _ _ h=>X0 7 Z ?_;have h:=h.p [1,0,2,3] Z;obtain⟨⟨_,_,_⟩,J,hF⟩:=qc hF;refine nxE h (h.frG 3 0 1 Z Z Z) J Z Z Z fun _ h=>X0 4 Z ?_;have h:=h.p [0,2,3] Z;exact rK ⟨_,_,_,_,_,_,_,_,hF,rfl,h⟩ Z
 refine qt Z ?_;cases qb hF;replace hF:=C;refine X0 4 Z ?_;obtain⟨⟨_,_,_⟩,K,hF⟩:=qc hF;refine nxE h (h.frG 2 0 1 Z Z Z) K Z Z Z fun _ h=>X0 2 Z (qk Z hF ?_ ?_)<;>intro hF
 .refine X0 4 Z ?_;obtain⟨⟨P,_,_⟩,L,hF⟩:=qc hF;refine nxE h (h.frG 2 0 1 Z Z Z) L Z Z Z fun _ h=>zp1 Z (qn qa [.tmp 48] _ ([W64 ((r1.length:Int)*P)]:List Int) h z9 ⟨rfl,G⟩ Z fun _ _ _ h=>?_);obtain⟨x3,i,hF⟩:=qc hF;obtain⟨g2,i⟩:=qE i;refine qar qa 2 h Z (h.sl 0 Z).1 (h.sl 0 Z).2 z9 g2 i Z fun _ a3 S _ h=>X0 7 Z ?_;obtain rfl:=qb hF;have h:=h.p [2,1,3] Z;exact qaR qa [oV (List Int) [oS a3 x3.length S]] ⟨rfl,G⟩ ⟨_,_,rfl,SH.unfr 1 1 x h Z Z⟩
 refine X0 6 Z ?_;obtain rfl:=qb hF;have h:=h.p [1,0,2] Z;exact qaR qa [oV (List Int) [oS z A.length y]] ⟨rfl,G⟩ ⟨_,_,rfl,SH.unfr 1 1 x h Z Z⟩
def qgE(n:Nat)(s:Tl01Source):Option (qz×Int×Int):=(qr n (⟨s.code,s.at_,s.seed⟩:Tl01Source) 3).bind fun|(y,z,A)=>(idx ([(⟨#[115,108,111,119]⟩:ByteArray),(⟨#[102,97,115,116]⟩:ByteArray),(⟨#[116,121,112]⟩:ByteArray)]:List ByteArray) y).bind fun h=>(qr n (⟨s.code,z,A⟩:Tl01Source) 20).bind fun|(c,B,C)=>(qr n (⟨s.code,B,C⟩:Tl01Source) 20).bind fun|(g,i8,D)=>(qr n (⟨s.code,i8,D⟩:Tl01Source) 60).bind fun(d,i,k)=>(qr n (⟨s.code,i,k⟩:Tl01Source) 40).bind fun(f,l,m)=>(qr n (⟨s.code,l,m⟩:Tl01Source) 30).bind fun(i16,a,b)=>bif (i16==0) then V ((⟨h,W64 (800+(W64 (10*c))),W64 ((W64 (800+(W64 (10*c))))-1),W64 (900+(W64 (10*g))),W64 ((W64 (900+(W64 (10*g))))+(W64 (9*f)))⟩:qz),a,b) else bif (i16==1) then(qr n (⟨s.code,a,b⟩:Tl01Source) 3).bind fun(p,r,t)=>(idx ([99,100,(-1)]:List Int) p).bind fun F=>V ((⟨h,W64 (800+(W64 (10*c))),W64 ((W64 (800+(W64 (10*c))))+(W64 (7*d))),F,W64 ((W64 (900+(W64 (10*g))))+(W64 (9*f)))⟩:qz),r,t) else bif (i16==2) then(qr n (⟨s.code,a,b⟩:Tl01Source) 2).bind fun(u,v,x)=>V ((⟨h,W64 (800+(W64 (10*c))),W64 ((W64 (800+(W64 (10*c))))+(W64 (7*d))),W64 (900+(W64 (10*g))),W64 (5000+u)⟩:qz),v,x) else bif (i16==3) then V ((⟨(⟨#[]⟩:ByteArray),W64 (800+(W64 (10*c))),W64 ((W64 (800+(W64 (10*c))))+(W64 (7*d))),W64 (900+(W64 (10*g))),W64 ((W64 (900+(W64 (10*g))))+(W64 (9*f)))⟩:qz),a,b) else V ((⟨h,W64 (800+(W64 (10*c))),W64 ((W64 (800+(W64 (10*c))))+(W64 (7*d))),W64 (900+(W64 (10*g))),W64 ((W64 (900+(W64 (10*g))))+(W64 (9*f)))⟩:qz),a,b)
theorem qms{n l w F}{s:Tl01Source}{b p1 p}(h0:SH l w (xb b s p1 p s.at_ s.seed::F))(ha1:GoT.R w (Fr l F) s (qak s p1 p)){r:(qz×Int×Int)}(hF:qgE n s=V r):RetW prog 30 [vp b] w (fun us w'=>us=[oV qz (qR r.1)]/\SH l w' (xb b s p1 p r.2.1 r.2.2::F)):=by
 have h:=SH.frm1 h0 ha1;refine qbh func30 Z (m:=58) Z Z (zSR (qh qa h Z Z Z fun w1 c h=>zNS ?_));obtain⟨⟨i1,i2,i3⟩,S,hF⟩:=qc hF;obtain⟨R,a,hF⟩:=qc hF;obtain⟨⟨v,i5,i6⟩,o,hF⟩:=qc hF;obtain⟨⟨B,i8,i9⟩,k,hF⟩:=qc hF;refine qau (fun e w'=>∃C,e=[(0,vp b),(2,vp c),(3,vp C)]/\SH l w' [oX C [.string R,vi (W64 (800+(W64 (10*v)))),vi 0,vi (W64 (900+(W64 (10*B)))),vi 0] 36,xb b s p1 p i8 i9,oX c zl8 36,xf l w F s p1 p]) ?_ ?_
 .refine qxG [15] (fun w'=>SH l w' []) Z 16 Z (bits 16 0) (by kernel_rfl) fun _ hb=>?_;have h:=h.ext hb;clear hb;refine qor (fun e w'=>∃D,e=[(0,vp b),(2,vp c),(3,vp D),(17,.agg #[.string R,vi (W64 (800+(W64 (10*v)))),vi 0,vi (W64 (900+(W64 (10*B)))),vi 0])]/\SH l w' [oX D zl8 36,xb b s p1 p i8 i9,oX c zl8 36,xf l w F s p1 p]) 1 (bits 16 32767) ?_ fun KM1=>?_
  .rintro _ _ ⟨D,rfl,h⟩;exact Ao 15 65535 Z (zs 0 h Z fun _ h=>qaS (fun hs=>absurd (hs 15 (by decide)) (by decide)) (Ad (rG ⟨_,rfl,h⟩ Z)))
  refine qor (fun e w'=>e=[(0,vp b),(2,vp c),(17,.agg #[.string R,vi (W64 (800+(W64 (10*v)))),vi 0,vi (W64 (900+(W64 (10*B)))),vi 0])]/\SH l w' [xb b s p1 p i8 i9,oX c zl8 36,xf l w F s p1 p]) 2 (bits 16 16383) ?_ fun KM2=>?_
  .rintro _ _ ⟨rfl,h⟩;exact Ao 14 32767 Z (qh qa h Z Z Z fun _ _ h=>Ag (h.p [] Z) (qn4 [(0,_),(2,_),(3,_),(17,_)] ⟨rfl,rfl,rfl,rfl,G⟩ (KM1 _ _ ⟨_,rfl,h⟩)))
  refine qor (fun e w'=>∃H,e=[(0,vp b),(2,vp c),(3,vp H),(8,.string R),(12,vi (W64 (800+(W64 (10*v))))),(13,vp b)]/\SH l w' [oX H zl8 36,xb b s p1 p i5 i6,oX c zl8 36,xf l w F s p1 p]) 5 (bits 16 17407) ?_ fun KM3=>?_
  .rintro _ _ ⟨H,rfl,h⟩;refine Ao 10 18431 Z ?_;have h:=h.p [1,0,2,3] Z;refine nxE h (h.frG 3 0 1 Z Z Z) k Z Z Z fun _ h=>G0 24575 [11,12] (h.p [] Z) Z (Aw 13 32767 (fun w' hw=>qy qa [0,1,3] [.tmp 8,.tmp 12,.tmp 16] z8) (h.p [] Z) Z ?_);have h:=h.p [1,0,2,3] Z;exact aK KM1 ⟨_,rfl,h⟩ Z
  refine qor (fun e w'=>∃I,e=[(0,vp b),(2,vp c),(3,vp I),(6,vi i1),(12,vi (W64 (800+(W64 (10*v))))),(16,vi (W64 (900+(W64 (10*B)))))]/\SH l w' [oX I zl8 36,xb b s p1 p i8 i9,oX c zl8 36,xf l w F s p1 p]) 5 (bits 16 24550) ?_ fun KM4=>?_
  .rintro _ _ ⟨I,rfl,h⟩;refine Ao 0 24551 Z (qn qa [.const (.string bs12),.const (.string bs3),.const (.string bs13)] _ ([bs12,bs3,bs13]:List ByteArray) h z9 ⟨rfl,rfl,rfl,G⟩ Z fun _ _ _ h=>Ag (h.p [] Z) ?_);have X:=qbk a;obtain⟨_,o_17,_,_,b4,b5,-,hr20,_⟩:=(h.sl 0 Z).1.at a;obtain rfl:=hr20;refine Ax 3 24559 b4 b5 ⟨X.1,qC X.2.1 (h.sl 0 Z).2⟩ (h.p [] Z) Z (Ao 4 24575 Z (r_v (qbP qa (qH (w1:=w) (S1:=fun _=>False) h 0 Z a b4 b5 Z) (j:=0) Z Z Z) Z (Ag (h.p [] Z) (Aw 13 32767 (fun w' hw=>qy qa [0,1,3] [.tmp 8,.tmp 12,.tmp 16] z8) (h.p [] Z) Z ?_))));have h:=h.p [1,2,3,4] Z;exact aK KM1 ⟨_,rfl,h⟩ Z
  refine qor (fun e w'=>e=[(0,vp b),(2,vp c),(8,.string R),(12,vi (W64 (800+(W64 (10*v))))),(13,vp b)]/\SH l w' [xb b s p1 p i5 i6,oX c zl8 36,xf l w F s p1 p]) 6 (bits 16 1023) ?_ fun KM5=>?_
  .rintro _ _ ⟨rfl,h⟩;refine At 10 14 2047 17407 Z ?_ ?_
   .refine nxE h (h.frG 2 0 1 Z Z Z) k Z Z Z fun _ h=>G0 8191 [11,12] (h.p [] Z) Z (Aw 13 16383 (fun w' hw=>qy qa [0,1,3] [.tmp 8,.tmp 12,.tmp 16] z8) (h.p [] Z) Z ?_);exact aK KM2 ⟨rfl,h⟩ Z
   exact qh qa h Z Z Z fun _ _ h=>Ag (h.p [] Z) (qn4 [(0,_),(2,_),(3,_),(8,_),(12,_),(13,_)] ⟨rfl,rfl,rfl,rfl,rfl,rfl,G⟩ (KM3 _ _ ⟨_,rfl,h⟩))
  refine qor (fun e w'=>∃J,e=[(0,vp b),(2,vp c),(3,vp J),(8,.string R),(9,vp b),(13,vp b)]/\SH l w' [oX J zl8 36,xb b s p1 p i2 i3,oX c zl8 36,xf l w F s p1 p]) 8 (bits 16 16959) ?_ fun KM6=>?_
  .rintro _ _ ⟨J,rfl,h⟩;refine Ao 6 17023 Z ?_;have h:=h.p [1,0,2,3] Z;refine nxE h (h.frG 3 0 1 Z Z Z) o Z Z Z fun _ h=>G0 17407 [7,8] (h.p [] Z) Z ?_;have h:=h.p [1,0,2,3] Z;exact aK KM3 ⟨_,rfl,h⟩ Z
  refine qor (fun e w'=>∃K,e=[(0,vp b),(2,vp c),(3,vp K),(6,vi i1),(12,vi (W64 (800+(W64 (10*v))))),(13,vp b)]/\SH l w' [oX K zl8 36,xb b s p1 p i5 i6,oX c zl8 36,xf l w F s p1 p]) 8 (bits 16 17382) ?_ fun KM7=>?_
  .rintro _ _ ⟨K,rfl,h⟩;refine At 0 10 17383 18406 Z ?_ ?_
   .refine qn qa [.const (.string bs12),.const (.string bs3),.const (.string bs13)] _ ([bs12,bs3,bs13]:List ByteArray) h z9 ⟨rfl,rfl,rfl,G⟩ Z fun _ _ _ h=>Ag (h.p [] Z) ?_;have Y:=qbk a;obtain⟨_,o_18,_,_,N,P,-,hr21,_⟩:=(h.sl 0 Z).1.at a;obtain rfl:=hr21;refine Ax 3 17391 N P ⟨Y.1,qC Y.2.1 (h.sl 0 Z).2⟩ (h.p [] Z) Z (At 4 10 17407 18415 Z ?_ ?_)
    .refine r_v (qbP qa (qH (w1:=w) (S1:=fun _=>False) h 0 Z a N P Z) (j:=0) Z Z Z) Z (Ag (h.p [] Z) ?_);have h:=h.p [1,2,3,4] Z;exact aK KM3 ⟨_,rfl,h⟩ Z
    have h:=h.p [2,0,1,3,4] Z;refine nxE h (h.frG 4 0 1 Z Z Z) k Z Z Z fun _ h=>G0 24559 [11,12] (h.p [] Z) Z (Ao 4 24575 Z (r_v (qbP qa (qH (w1:=w) (S1:=fun _=>False) h 1 Z a N P Z) (j:=0) Z Z Z) Z (Ag (h.p [] Z) (Aw 13 32767 (fun w' hw=>qy qa [0,1,3] [.tmp 8,.tmp 12,.tmp 16] z8) (h.p [] Z) Z ?_))));have h:=h.p [2,0,3,4] Z;exact aK KM1 ⟨_,rfl,h⟩ Z
   have h:=h.p [1,0,2,3] Z;refine nxE h (h.frG 3 0 1 Z Z Z) k Z Z Z fun _ h=>G0 24550 [11,12] (h.p [] Z) Z ?_;have h:=h.p [1,0,2,3] Z;exact aK KM4 ⟨_,rfl,h⟩ Z
  refine qor (fun e w'=>∃L S18 b6,e=[(0,vp b),(2,vp c),(3,vp L),(4,oS b6 3 3),(5,vp b),(9,vp b),(13,vp b)]/\SH l w' [oX L zl8 36,oW S18 (([bs12,bs3,bs13]:List ByteArray):List ByteArray) [oS b6 3 3],oX c zl8 36,xb b s p1 p s.at_ s.seed,xf l w F s p1 p]) 11 (bits 16 16931) ?_ fun KM8=>?_
  .rintro _ _ ⟨L,S18,b6,rfl,h⟩;refine Ao 2 16935 Z ?_;have h:=h.p [3,0,1,2,4] Z;refine nxE h (h.frG 4 0 1 Z Z Z) S Z Z Z fun _ h=>Ag (h.p [] Z) ?_;have a3:=qbk a;obtain⟨_,o_19,_,_,x,z,-,hr22,_⟩:=(h.sl 2 Z).1.at a;obtain rfl:=hr22;refine Ax 3 16943 x z ⟨a3.1,qC a3.2.1 (h.sl 2 Z).2⟩ (h.p [] Z) Z (At 4 6 16959 17007 Z ?_ ?_)
   .refine r_v (qbP qa (qH (w1:=w) (S1:=fun _=>False) h 2 Z a x z Z) (j:=0) Z Z Z) Z (Ag (h.p [] Z) ?_);have h:=h.p [1,0,3,4] Z;exact aK KM6 ⟨_,rfl,h⟩ Z
   refine nxE h (h.frG 4 0 1 Z Z Z) o Z Z Z fun _ h=>G0 17391 [7,8] (h.p [] Z) Z (At 4 10 17407 18415 Z ?_ ?_)
   .refine r_v (qbP qa (qH (w1:=w) (S1:=fun _=>False) h 2 Z a x z Z) (j:=0) Z Z Z) Z (Ag (h.p [] Z) ?_);have h:=h.p [1,0,3,4] Z;exact aK KM3 ⟨_,rfl,h⟩ Z
   refine nxE h (h.frG 4 0 1 Z Z Z) k Z Z Z fun _ h=>G0 24559 [11,12] (h.p [] Z) Z (Ao 4 24575 Z (r_v (qbP qa (qH (w1:=w) (S1:=fun _=>False) h 2 Z a x z Z) (j:=0) Z Z Z) Z (Ag (h.p [] Z) (Aw 13 32767 (fun w' hw=>qy qa [0,1,3] [.tmp 8,.tmp 12,.tmp 16] z8) (h.p [] Z) Z ?_))));have h:=h.p [1,0,3,4] Z;exact aK KM1 ⟨_,rfl,h⟩ Z
  refine qor (fun e w'=>∃M,e=[(0,vp b),(2,vp c),(3,vp M),(6,vi i1),(9,vp b),(13,vp b)]/\SH l w' [oX M zl8 36,xb b s p1 p i2 i3,oX c zl8 36,xf l w F s p1 p]) 11 (bits 16 16934) ?_ fun KM9=>?_
  .rintro _ _ ⟨M,rfl,h⟩;refine At 0 6 16935 16998 Z ?_ ?_
   .refine qn qa [.const (.string bs12),.const (.string bs3),.const (.string bs13)] _ ([bs12,bs3,bs13]:List ByteArray) h z9 ⟨rfl,rfl,rfl,G⟩ Z fun _ _ _ h=>Ag (h.p [] Z) ?_;have a4:=qbk a;obtain⟨_,o_20,_,_,y,A,-,hr23,_⟩:=(h.sl 0 Z).1.at a;obtain rfl:=hr23;refine Ax 3 16943 y A ⟨a4.1,qC a4.2.1 (h.sl 0 Z).2⟩ (h.p [] Z) Z (At 4 6 16959 17007 Z ?_ ?_)
    .refine r_v (qbP qa (qH (w1:=w) (S1:=fun _=>False) h 0 Z a y A Z) (j:=0) Z Z Z) Z (Ag (h.p [] Z) ?_);have h:=h.p [1,2,3,4] Z;exact aK KM6 ⟨_,rfl,h⟩ Z
    have h:=h.p [2,0,1,3,4] Z;refine nxE h (h.frG 4 0 1 Z Z Z) o Z Z Z fun _ h=>G0 17391 [7,8] (h.p [] Z) Z (At 4 10 17407 18415 Z ?_ ?_)
    .refine r_v (qbP qa (qH (w1:=w) (S1:=fun _=>False) h 1 Z a y A Z) (j:=0) Z Z Z) Z (Ag (h.p [] Z) ?_);have h:=h.p [2,0,3,4] Z;exact aK KM3 ⟨_,rfl,h⟩ Z
    refine nxE h (h.frG 4 0 1 Z Z Z) k Z Z Z fun _ h=>G0 24559 [11,12] (h.p [] Z) Z (Ao 4 24575 Z (r_v (qbP qa (qH (w1:=w) (S1:=fun _=>False) h 1 Z a y A Z) (j:=0) Z Z Z) Z (Ag (h.p [] Z) (Aw 13 32767 (fun w' hw=>qy qa [0,1,3] [.tmp 8,.tmp 12,.tmp 16] z8) (h.p [] Z) Z ?_))));have h:=h.p [2,0,3,4] Z;exact aK KM1 ⟨_,rfl,h⟩ Z
   have h:=h.p [1,0,2,3] Z;refine nxE h (h.frG 3 0 1 Z Z Z) o Z Z Z fun _ h=>G0 17382 [7,8] (h.p [] Z) Z ?_;have h:=h.p [1,0,2,3] Z;exact aK KM7 ⟨_,rfl,h⟩ Z
  refine M0 546 [1,5,9] (h.p [] Z) Z (qiu 0 2 14 Z Z Z (bits 16 547) (bits 16 550) (bits 16 16930) (by kernel_rfl) (by kernel_rfl) (by kernel_rfl)  (by kernel_rfl) ?_ ?_ ?_)
  .refine qn qa [.const (.string bs12),.const (.string bs3),.const (.string bs13)] _ ([bs12,bs3,bs13]:List ByteArray) h z9 ⟨rfl,rfl,rfl,G⟩ Z fun _ _ _ h=>Ag (h.p [] Z) (At 2 14 551 16931 Z ?_ ?_)
   .have h:=h.p [2,0,1,3] Z;refine nxE h (h.frG 3 0 1 Z Z Z) S Z Z Z fun _ h=>Ag (h.p [] Z) ?_;have a5:=qbk a;obtain⟨_,o_21,_,_,d,g,-,hr24,_⟩:=(h.sl 1 Z).1.at a;obtain rfl:=hr24;refine Ax 3 559 d g ⟨a5.1,qC a5.2.1 (h.sl 1 Z).2⟩ (h.p [] Z) Z (qiu 4 6 14 Z Z Z (bits 16 575) (bits 16 623) (bits 16 16943) (by kernel_rfl) (by kernel_rfl) (by kernel_rfl)  (by kernel_rfl) ?_ ?_ ?_)
    .refine r_v (qbP qa (qH (w1:=w) (S1:=fun _=>False) h 1 Z a d g Z) (j:=0) Z Z Z) Z (Ag (h.p [] Z) (At 6 14 639 16959 Z ?_ ?_))
     .refine nxE h (h.frG 3 0 1 Z Z Z) o Z Z Z fun _ h=>G0 1023 [7,8] (h.p [] Z) Z ?_;have h:=h.p [0,2,3] Z;exact aK KM5 ⟨rfl,h⟩ Z
     refine qh qa h Z Z Z fun _ _ h=>Ag (h.p [] Z) ?_;have h:=h.p [0,1,3,4] Z;exact aK KM6 ⟨_,rfl,h⟩ Z
    .refine nxE h (h.frG 3 0 1 Z Z Z) o Z Z Z fun _ h=>G0 1007 [7,8] (h.p [] Z) Z (qiu 4 10 14 Z Z Z (bits 16 1023) (bits 16 2031) (bits 16 17391) (by kernel_rfl) (by kernel_rfl) (by kernel_rfl)  (by kernel_rfl) ?_ ?_ ?_)
     .refine r_v (qbP qa (qH (w1:=w) (S1:=fun _=>False) h 1 Z a d g Z) (j:=0) Z Z Z) Z (Ag (h.p [] Z) ?_);have h:=h.p [0,2,3] Z;exact aK KM5 ⟨rfl,h⟩ Z
     .refine nxE h (h.frG 3 0 1 Z Z Z) k Z Z Z fun _ h=>G0 8175 [11,12] (h.p [] Z) Z (At 4 14 8191 24559 Z ?_ ?_)
      .refine r_v (qbP qa (qH (w1:=w) (S1:=fun _=>False) h 1 Z a d g Z) (j:=0) Z Z Z) Z (Ag (h.p [] Z) (Aw 13 16383 (fun w' hw=>qy qa [0,1,3] [.tmp 8,.tmp 12,.tmp 16] z8) (h.p [] Z) Z ?_));have h:=h.p [0,2,3] Z;exact aK KM2 ⟨rfl,h⟩ Z
      refine qh qa h Z Z Z fun _ _ h=>Ag (h.p [] Z) (Ao 4 24575 Z (r_v (qbP qa (qH (w1:=w) (S1:=fun _=>False) h 2 Z a d g Z) (j:=0) Z Z Z) Z (Ag (h.p [] Z) (Aw 13 32767 (fun w' hw=>qy qa [0,1,3] [.tmp 8,.tmp 12,.tmp 16] z8) (h.p [] Z) Z ?_))));have h:=h.p [0,1,3,4] Z;exact aK KM1 ⟨_,rfl,h⟩ Z
     refine qh qa h Z Z Z fun _ _ h=>Ag (h.p [] Z) (At 4 10 17407 18415 Z ?_ ?_)
     .refine r_v (qbP qa (qH (w1:=w) (S1:=fun _=>False) h 2 Z a d g Z) (j:=0) Z Z Z) Z (Ag (h.p [] Z) ?_);have h:=h.p [0,1,3,4] Z;exact aK KM3 ⟨_,rfl,h⟩ Z
     have h:=h.p [1,0,2,3,4] Z;refine nxE h (h.frG 4 0 1 Z Z Z) k Z Z Z fun _ h=>G0 24559 [11,12] (h.p [] Z) Z (Ao 4 24575 Z (r_v (qbP qa (qH (w1:=w) (S1:=fun _=>False) h 2 Z a d g Z) (j:=0) Z Z Z) Z (Ag (h.p [] Z) (Aw 13 32767 (fun w' hw=>qy qa [0,1,3] [.tmp 8,.tmp 12,.tmp 16] z8) (h.p [] Z) Z ?_))));have h:=h.p [1,0,3,4] Z;exact aK KM1 ⟨_,rfl,h⟩ Z
    refine qh qa h Z Z Z fun _ _ h=>Ag (h.p [] Z) (At 4 6 16959 17007 Z ?_ ?_)
    .refine r_v (qbP qa (qH (w1:=w) (S1:=fun _=>False) h 2 Z a d g Z) (j:=0) Z Z Z) Z (Ag (h.p [] Z) ?_);have h:=h.p [0,1,3,4] Z;exact aK KM6 ⟨_,rfl,h⟩ Z
    have h:=h.p [1,0,2,3,4] Z;refine nxE h (h.frG 4 0 1 Z Z Z) o Z Z Z fun _ h=>G0 17391 [7,8] (h.p [] Z) Z (At 4 10 17407 18415 Z ?_ ?_)
    .refine r_v (qbP qa (qH (w1:=w) (S1:=fun _=>False) h 2 Z a d g Z) (j:=0) Z Z Z) Z (Ag (h.p [] Z) ?_);have h:=h.p [1,0,3,4] Z;exact aK KM3 ⟨_,rfl,h⟩ Z
    refine nxE h (h.frG 4 0 1 Z Z Z) k Z Z Z fun _ h=>G0 24559 [11,12] (h.p [] Z) Z (Ao 4 24575 Z (r_v (qbP qa (qH (w1:=w) (S1:=fun _=>False) h 2 Z a d g Z) (j:=0) Z Z Z) Z (Ag (h.p [] Z) (Aw 13 32767 (fun w' hw=>qy qa [0,1,3] [.tmp 8,.tmp 12,.tmp 16] z8) (h.p [] Z) Z ?_))));have h:=h.p [1,0,3,4] Z;exact aK KM1 ⟨_,rfl,h⟩ Z
   exact qh qa h Z Z Z fun _ _ h=>Ag (h.p [] Z) (qn4 [(0,_),(2,_),(3,_),(4,_),(5,_),(9,_),(13,_)] ⟨rfl,rfl,rfl,rfl,rfl,rfl,rfl,G⟩ (KM8 _ _ ⟨_,_,_,rfl,h⟩))
  .have h:=h.p [1,0,2] Z;refine nxE h (h.frG 2 0 1 Z Z Z) S Z Z Z fun _ h=>Ag (h.p [] Z) (qiu 0 6 14 Z Z Z (bits 16 551) (bits 16 614) (bits 16 16934) (by kernel_rfl) (by kernel_rfl) (by kernel_rfl)  (by kernel_rfl) ?_ ?_ ?_)
   .refine qn qa [.const (.string bs12),.const (.string bs3),.const (.string bs13)] _ ([bs12,bs3,bs13]:List ByteArray) h z9 ⟨rfl,rfl,rfl,G⟩ Z fun _ _ _ h=>Ag (h.p [] Z) ?_;have a6:=qbk a;obtain⟨_,o_22,_,_,f,i,-,hr25,_⟩:=(h.sl 0 Z).1.at a;obtain rfl:=hr25;refine Ax 3 559 f i ⟨a6.1,qC a6.2.1 (h.sl 0 Z).2⟩ (h.p [] Z) Z (qiu 4 6 14 Z Z Z (bits 16 575) (bits 16 623) (bits 16 16943) (by kernel_rfl) (by kernel_rfl) (by kernel_rfl)  (by kernel_rfl) ?_ ?_ ?_)
    .refine r_v (qbP qa (qH (w1:=w) (S1:=fun _=>False) h 0 Z a f i Z) (j:=0) Z Z Z) Z (Ag (h.p [] Z) (At 6 14 639 16959 Z ?_ ?_))
     .have h:=h.p [1,0,2,3] Z;refine nxE h (h.frG 3 0 1 Z Z Z) o Z Z Z fun _ h=>G0 1023 [7,8] (h.p [] Z) Z ?_;have h:=h.p [0,2,3] Z;exact aK KM5 ⟨rfl,h⟩ Z
     refine qh qa h Z Z Z fun _ _ h=>Ag (h.p [] Z) ?_;have h:=h.p [0,2,3,4] Z;exact aK KM6 ⟨_,rfl,h⟩ Z
    .have h:=h.p [1,0,2,3] Z;refine nxE h (h.frG 3 0 1 Z Z Z) o Z Z Z fun _ h=>G0 1007 [7,8] (h.p [] Z) Z (qiu 4 10 14 Z Z Z (bits 16 1023) (bits 16 2031) (bits 16 17391) (by kernel_rfl) (by kernel_rfl) (by kernel_rfl)  (by kernel_rfl) ?_ ?_ ?_)
     .refine r_v (qbP qa (qH (w1:=w) (S1:=fun _=>False) h 1 Z a f i Z) (j:=0) Z Z Z) Z (Ag (h.p [] Z) ?_);have h:=h.p [0,2,3] Z;exact aK KM5 ⟨rfl,h⟩ Z
     .refine nxE h (h.frG 3 0 1 Z Z Z) k Z Z Z fun _ h=>G0 8175 [11,12] (h.p [] Z) Z (At 4 14 8191 24559 Z ?_ ?_)
      .refine r_v (qbP qa (qH (w1:=w) (S1:=fun _=>False) h 1 Z a f i Z) (j:=0) Z Z Z) Z (Ag (h.p [] Z) (Aw 13 16383 (fun w' hw=>qy qa [0,1,3] [.tmp 8,.tmp 12,.tmp 16] z8) (h.p [] Z) Z ?_));have h:=h.p [0,2,3] Z;exact aK KM2 ⟨rfl,h⟩ Z
      refine qh qa h Z Z Z fun _ _ h=>Ag (h.p [] Z) (Ao 4 24575 Z (r_v (qbP qa (qH (w1:=w) (S1:=fun _=>False) h 2 Z a f i Z) (j:=0) Z Z Z) Z (Ag (h.p [] Z) (Aw 13 32767 (fun w' hw=>qy qa [0,1,3] [.tmp 8,.tmp 12,.tmp 16] z8) (h.p [] Z) Z ?_))));have h:=h.p [0,1,3,4] Z;exact aK KM1 ⟨_,rfl,h⟩ Z
     refine qh qa h Z Z Z fun _ _ h=>Ag (h.p [] Z) (At 4 10 17407 18415 Z ?_ ?_)
     .refine r_v (qbP qa (qH (w1:=w) (S1:=fun _=>False) h 2 Z a f i Z) (j:=0) Z Z Z) Z (Ag (h.p [] Z) ?_);have h:=h.p [0,1,3,4] Z;exact aK KM3 ⟨_,rfl,h⟩ Z
     have h:=h.p [1,0,2,3,4] Z;refine nxE h (h.frG 4 0 1 Z Z Z) k Z Z Z fun _ h=>G0 24559 [11,12] (h.p [] Z) Z (Ao 4 24575 Z (r_v (qbP qa (qH (w1:=w) (S1:=fun _=>False) h 2 Z a f i Z) (j:=0) Z Z Z) Z (Ag (h.p [] Z) (Aw 13 32767 (fun w' hw=>qy qa [0,1,3] [.tmp 8,.tmp 12,.tmp 16] z8) (h.p [] Z) Z ?_))));have h:=h.p [1,0,3,4] Z;exact aK KM1 ⟨_,rfl,h⟩ Z
    refine qh qa h Z Z Z fun _ _ h=>Ag (h.p [] Z) (At 4 6 16959 17007 Z ?_ ?_)
    .refine r_v (qbP qa (qH (w1:=w) (S1:=fun _=>False) h 1 Z a f i Z) (j:=0) Z Z Z) Z (Ag (h.p [] Z) ?_);have h:=h.p [0,2,3,4] Z;exact aK KM6 ⟨_,rfl,h⟩ Z
    have h:=h.p [2,0,1,3,4] Z;refine nxE h (h.frG 4 0 1 Z Z Z) o Z Z Z fun _ h=>G0 17391 [7,8] (h.p [] Z) Z (At 4 10 17407 18415 Z ?_ ?_)
    .refine r_v (qbP qa (qH (w1:=w) (S1:=fun _=>False) h 2 Z a f i Z) (j:=0) Z Z Z) Z (Ag (h.p [] Z) ?_);have h:=h.p [1,0,3,4] Z;exact aK KM3 ⟨_,rfl,h⟩ Z
    refine nxE h (h.frG 4 0 1 Z Z Z) k Z Z Z fun _ h=>G0 24559 [11,12] (h.p [] Z) Z (Ao 4 24575 Z (r_v (qbP qa (qH (w1:=w) (S1:=fun _=>False) h 2 Z a f i Z) (j:=0) Z Z Z) Z (Ag (h.p [] Z) (Aw 13 32767 (fun w' hw=>qy qa [0,1,3] [.tmp 8,.tmp 12,.tmp 16] z8) (h.p [] Z) Z ?_))));have h:=h.p [1,0,3,4] Z;exact aK KM1 ⟨_,rfl,h⟩ Z
   .refine nxE h (h.frG 2 0 1 Z Z Z) o Z Z Z fun _ h=>G0 998 [7,8] (h.p [] Z) Z (qiu 0 10 14 Z Z Z (bits 16 999) (bits 16 2022) (bits 16 17382) (by kernel_rfl) (by kernel_rfl) (by kernel_rfl)  (by kernel_rfl) ?_ ?_ ?_)
    .refine qn qa [.const (.string bs12),.const (.string bs3),.const (.string bs13)] _ ([bs12,bs3,bs13]:List ByteArray) h z9 ⟨rfl,rfl,rfl,G⟩ Z fun _ _ _ h=>Ag (h.p [] Z) ?_;have a7:=qbk a;obtain⟨_,o_23,_,_,t,u,-,hr26,_⟩:=(h.sl 0 Z).1.at a;obtain rfl:=hr26;refine Ax 3 1007 t u ⟨a7.1,qC a7.2.1 (h.sl 0 Z).2⟩ (h.p [] Z) Z (qiu 4 10 14 Z Z Z (bits 16 1023) (bits 16 2031) (bits 16 17391) (by kernel_rfl) (by kernel_rfl) (by kernel_rfl)  (by kernel_rfl) ?_ ?_ ?_)
     .refine r_v (qbP qa (qH (w1:=w) (S1:=fun _=>False) h 0 Z a t u Z) (j:=0) Z Z Z) Z (Ag (h.p [] Z) ?_);have h:=h.p [1,2,3] Z;exact aK KM5 ⟨rfl,h⟩ Z
     .have h:=h.p [1,0,2,3] Z;refine nxE h (h.frG 3 0 1 Z Z Z) k Z Z Z fun _ h=>G0 8175 [11,12] (h.p [] Z) Z (At 4 14 8191 24559 Z ?_ ?_)
      .refine r_v (qbP qa (qH (w1:=w) (S1:=fun _=>False) h 1 Z a t u Z) (j:=0) Z Z Z) Z (Ag (h.p [] Z) (Aw 13 16383 (fun w' hw=>qy qa [0,1,3] [.tmp 8,.tmp 12,.tmp 16] z8) (h.p [] Z) Z ?_));have h:=h.p [0,2,3] Z;exact aK KM2 ⟨rfl,h⟩ Z
      refine qh qa h Z Z Z fun _ _ h=>Ag (h.p [] Z) (Ao 4 24575 Z (r_v (qbP qa (qH (w1:=w) (S1:=fun _=>False) h 2 Z a t u Z) (j:=0) Z Z Z) Z (Ag (h.p [] Z) (Aw 13 32767 (fun w' hw=>qy qa [0,1,3] [.tmp 8,.tmp 12,.tmp 16] z8) (h.p [] Z) Z ?_))));have h:=h.p [0,1,3,4] Z;exact aK KM1 ⟨_,rfl,h⟩ Z
     refine qh qa h Z Z Z fun _ _ h=>Ag (h.p [] Z) (At 4 10 17407 18415 Z ?_ ?_)
     .refine r_v (qbP qa (qH (w1:=w) (S1:=fun _=>False) h 1 Z a t u Z) (j:=0) Z Z Z) Z (Ag (h.p [] Z) ?_);have h:=h.p [0,2,3,4] Z;exact aK KM3 ⟨_,rfl,h⟩ Z
     have h:=h.p [2,0,1,3,4] Z;refine nxE h (h.frG 4 0 1 Z Z Z) k Z Z Z fun _ h=>G0 24559 [11,12] (h.p [] Z) Z (Ao 4 24575 Z (r_v (qbP qa (qH (w1:=w) (S1:=fun _=>False) h 2 Z a t u Z) (j:=0) Z Z Z) Z (Ag (h.p [] Z) (Aw 13 32767 (fun w' hw=>qy qa [0,1,3] [.tmp 8,.tmp 12,.tmp 16] z8) (h.p [] Z) Z ?_))));have h:=h.p [1,0,3,4] Z;exact aK KM1 ⟨_,rfl,h⟩ Z
    .refine nxE h (h.frG 2 0 1 Z Z Z) k Z Z Z fun _ h=>G0 8166 [11,12] (h.p [] Z) Z (At 0 14 8167 24550 Z ?_ ?_)
     .refine qn qa [.const (.string bs12),.const (.string bs3),.const (.string bs13)] _ ([bs12,bs3,bs13]:List ByteArray) h z9 ⟨rfl,rfl,rfl,G⟩ Z fun _ _ _ h=>Ag (h.p [] Z) ?_;have a8:=qbk a;obtain⟨_,o_24,_,_,O,Q,-,hr27,_⟩:=(h.sl 0 Z).1.at a;obtain rfl:=hr27;refine Ax 3 8175 O Q ⟨a8.1,qC a8.2.1 (h.sl 0 Z).2⟩ (h.p [] Z) Z (At 4 14 8191 24559 Z ?_ ?_)
      .refine r_v (qbP qa (qH (w1:=w) (S1:=fun _=>False) h 0 Z a O Q Z) (j:=0) Z Z Z) Z (Ag (h.p [] Z) (Aw 13 16383 (fun w' hw=>qy qa [0,1,3] [.tmp 8,.tmp 12,.tmp 16] z8) (h.p [] Z) Z ?_));have h:=h.p [1,2,3] Z;exact aK KM2 ⟨rfl,h⟩ Z
      refine qh qa h Z Z Z fun _ _ h=>Ag (h.p [] Z) (Ao 4 24575 Z (r_v (qbP qa (qH (w1:=w) (S1:=fun _=>False) h 1 Z a O Q Z) (j:=0) Z Z Z) Z (Ag (h.p [] Z) (Aw 13 32767 (fun w' hw=>qy qa [0,1,3] [.tmp 8,.tmp 12,.tmp 16] z8) (h.p [] Z) Z ?_))));have h:=h.p [0,2,3,4] Z;exact aK KM1 ⟨_,rfl,h⟩ Z
     exact qh qa h Z Z Z fun _ _ h=>Ag (h.p [] Z) (qn4 [(0,_),(2,_),(3,_),(6,_),(12,_),(16,_)] ⟨rfl,rfl,rfl,rfl,rfl,rfl,G⟩ (KM4 _ _ ⟨_,rfl,h⟩))
    exact qh qa h Z Z Z fun _ _ h=>Ag (h.p [] Z) (qn4 [(0,_),(2,_),(3,_),(6,_),(12,_),(13,_)] ⟨rfl,rfl,rfl,rfl,rfl,rfl,G⟩ (KM7 _ _ ⟨_,rfl,h⟩))
   exact qh qa h Z Z Z fun _ _ h=>Ag (h.p [] Z) (qn4 [(0,_),(2,_),(3,_),(6,_),(9,_),(13,_)] ⟨rfl,rfl,rfl,rfl,rfl,rfl,G⟩ (KM9 _ _ ⟨_,rfl,h⟩))
  refine qh qa h Z Z Z fun _ _ h=>Ag (h.p [] Z) (At 0 2 16931 16934 Z ?_ ?_)
  .refine qn qa [.const (.string bs12),.const (.string bs3),.const (.string bs13)] _ ([bs12,bs3,bs13]:List ByteArray) h z9 ⟨rfl,rfl,rfl,G⟩ Z fun _ _ _ h=>Ag (h.p [] Z) ?_;have h:=h.p [1,0,2,3,4] Z;exact aK KM8 ⟨_,_,_,rfl,h⟩ Z
  have h:=h.p [2,0,1,3] Z;refine nxE h (h.frG 3 0 1 Z Z Z) S Z Z Z fun _ h=>Ag (h.p [] Z) ?_;have h:=h.p [1,0,2,3] Z;exact aK KM9 ⟨_,rfl,h⟩ Z
 rintro _ _ ⟨C,rfl,h⟩;refine qb0 (rA [7] [0] h Z fun _ h=>M1 7 [0,1,2] 0 (h.p [0] Z) Z (Ao 3 15 Z ?_));have h:=h.p [1,0,2,3] Z;obtain⟨⟨T,_,_⟩,hr28,hF⟩:=qc hF;refine nxE h (h.frG 3 0 1 Z Z Z) hr28 Z Z Z fun _ h=>G0 127 [4,5,6] (h.p [1] Z) Z (Ao 7 255 Z (zs 1 h Z fun _ h=>qaS (fun hs=>absurd (hs 7 (by decide)) (by decide)) (Ad (qb0 (rA [7] [1] h Z fun _ h=>M1 7 [0,1,2] 0 (h.p [1] Z) Z (Ao 3 15 Z ?_))))));obtain⟨⟨W,_,_⟩,hr29,hF⟩:=qc hF;refine nxE h (h.frG 3 0 1 Z Z Z) hr29 Z Z Z fun _ h=>G0 127 [4,5,6] (h.p [1] Z) Z (Ao 7 255 Z (zs 1 h Z fun _ h=>qaS (fun hs=>absurd (hs 7 (by decide)) (by decide)) (Ad (X0 4 Z ?_))));obtain⟨⟨_,_,_⟩,hr30,hF⟩:=qc hF;refine nxE h (h.frG 3 0 1 Z Z Z) hr30 Z Z Z fun _ h=>X0 7 Z (qk Z hF ?_ ?_)<;>intro hF
 .refine X1 5 1 h Z (zs 1 h Z fun _ h=>X1 5 1 h Z (zs 2 h Z fun _ h=>qbe ?_));have hk1:=h;obtain rfl:=qb hF;have h:=h.p [0,3] Z;exact qaR qa [oV qz [.string R,vi (W64 (800+(W64 (10*v)))),vi (W64 ((W64 (800+(W64 (10*v))))-1)),vi (W64 (900+(W64 (10*B)))),vi (W64 ((W64 (900+(W64 (10*B))))+(W64 (9*W))))]] ⟨⟨_,_,_,rfl,rfl,hk1.box 2 Z,rfl⟩,G⟩ ⟨rfl,SH.unfr 1 1 h0 h Z Z⟩
 refine X0 5 Z (qk Z hF ?_ ?_)<;>intro hF
 .refine qi0 (qn qa [.const (vi (99)),.const (vi (100)),.const (vi (-1))] _ ([99,100,(-1)]:List Int) h z9 ⟨rfl,rfl,rfl,G⟩ Z fun _ _ _ h=>zp1 Z ?_);have h:=h.p [1,0,2,3,4] Z;obtain⟨⟨_,_,_⟩,hr31,hF⟩:=qc hF;refine nxE h (h.frG 4 0 1 Z Z Z) hr31 Z Z Z fun _ h=>?_;obtain⟨y2,_,hF,a9,_,_,_,_,hp25,hq25,rfl,hc27⟩:=(h.sl 1 Z).1.ix hF;refine zx hp25 hq25 ⟨a9.1,qC a9.2.1 (h.sl 1 Z).2⟩ Z (zc 0 hc27 Z (zp1 Z (zs 2 h Z fun _ h=>X1 5 2 h Z (zs 3 h Z fun _ h=>qbe ?_))));have hk2:=h;obtain rfl:=qb hF;have h:=h.p [0,4] Z;exact qaR qa [oV qz [.string R,vi (W64 (800+(W64 (10*v)))),vi (W64 ((W64 (800+(W64 (10*v))))+(W64 (7*T)))),vi y2,vi (W64 ((W64 (900+(W64 (10*B))))+(W64 (9*W))))]] ⟨⟨_,_,_,rfl,rfl,hk2.box 3 Z,rfl⟩,G⟩ ⟨rfl,SH.unfr 1 1 h0 h Z Z⟩
 refine X0 5 Z (qk Z hF ?_ ?_)<;>intro hF
 .refine X0 2 Z ?_;obtain⟨⟨i22,_,_⟩,hr33,hF⟩:=qc hF;refine nxE h (h.frG 3 0 1 Z Z Z) hr33 Z Z Z fun _ h=>zp2 Z (zs 1 h Z fun _ h=>X1 5 1 h Z (zs 2 h Z fun _ h=>qbe ?_));have hk3:=h;obtain rfl:=qb hF;have h:=h.p [0,3] Z;exact qaR qa [oV qz [.string R,vi (W64 (800+(W64 (10*v)))),vi (W64 ((W64 (800+(W64 (10*v))))+(W64 (7*T)))),vi (W64 (900+(W64 (10*B)))),vi (W64 (5000+i22))]] ⟨⟨_,_,_,rfl,rfl,hk3.box 2 Z,rfl⟩,G⟩ ⟨rfl,SH.unfr 1 1 h0 h Z Z⟩
 refine X0 5 Z (qk Z hF ?_ ?_)<;>intro hF
 .refine X0 2 Z (zs 1 h Z fun _ h=>X1 5 1 h Z (zs 2 h Z fun _ h=>qbe ?_));have hk4:=h;obtain rfl:=qb hF;have h:=h.p [0,3] Z;exact qaR qa [oV qz [.string (⟨#[]⟩:ByteArray),vi (W64 (800+(W64 (10*v)))),vi (W64 ((W64 (800+(W64 (10*v))))+(W64 (7*T)))),vi (W64 (900+(W64 (10*B)))),vi (W64 ((W64 (900+(W64 (10*B))))+(W64 (9*W))))]] ⟨⟨_,_,_,rfl,rfl,hk4.box 2 Z,rfl⟩,G⟩ ⟨rfl,SH.unfr 1 1 h0 h Z Z⟩
 refine X1 5 1 h Z (zs 2 h Z fun _ h=>qbe ?_);have hk5:=h;obtain rfl:=qb hF;have h:=h.p [0,3] Z;exact qaR qa [oV qz [.string R,vi (W64 (800+(W64 (10*v)))),vi (W64 ((W64 (800+(W64 (10*v))))+(W64 (7*T)))),vi (W64 (900+(W64 (10*B)))),vi (W64 ((W64 (900+(W64 (10*B))))+(W64 (9*W))))]] ⟨⟨_,_,_,rfl,rfl,hk5.box 2 Z,rfl⟩,G⟩ ⟨rfl,SH.unfr 1 1 h0 h Z Z⟩
def qdI(links:(List qv))(live:(List Bool))(m:Bool):Nat->(List Bool)->Bool->Int->Option ((List Bool)×Bool×Int)|0,_,_,_=>U|n+1,b,b3,a=>bif decide (a<(links.length:Int)) then(idx links a).bind fun d=>(idx links a).bind fun f=>(bif (!m) then V (f.To,d.Bd) else V (d.Bd,f.To)).bind fun(h,c)=>((idx live a).bind fun i=>bif i then(idx b h).bind fun k=>bif k then(idx b c).bind fun l=>V (!l) else V false else V false).bind fun g=>bif g then(idx b c).bind fun _=>qdI links live m n (setS b c true) true (W64 (a+1)) else qdI links live m n b b3 (W64 (a+1)) else V (b,b3,a)
def qe6(links:(List qv))(live:(List Bool))(c:Bool):Nat->(List Bool)->Bool->Option ((List Bool)×Bool)|0,_,_=>U|n+1,a,b2=>bif b2 then(qdI links live c n a false 0).bind fun(b,b3,_)=>qe6 links live c n b b3 else V (a,b2)
def qic(n:Nat)(d:Int)(links:(List qv))(live:(List Bool))(node:Int)(c:Bool):Option (List Bool):=(mkS d (false:Bool)).bind fun a=>(idx a node).bind fun _=>(qe6 links live c n (setS a node true) true).bind fun(b,_)=>V b
theorem qlZ{a_n}{links:(List qv)}{live:(List Bool)}{node forward}(N:Ro w links cs1)(O:Ro w live cs2){r:(List Bool)}(F:qic n a_n links live node forward=V r):RetV prog 257 [vi a_n,gv links cs1,gv live cs2,vi node,.bool forward] w r:=by
 obtain⟨p1,C,rfl,s1⟩:=N;obtain⟨H,D,rfl,s2⟩:=O;refine zV 63 func257 Z fun h=>X0 7 Z ?_;obtain⟨a,d,F⟩:=qc F;obtain⟨g1,g2,d⟩:=qad d;refine qaz qa Bool h z9 g1 g2 d Z fun _ S1 b h=>X0 6 Z ?_;obtain⟨_,c2,F,l,_,_,_,_,u,x,rfl,P⟩:=(h.sl 0 Z).1.ix F;refine zx u x ⟨l.1,qC l.2.1 (h.sl 0 Z).2⟩ Z (qav qa 0 0 true h Z c2 u x Z P Z Z Z Z Z Z Z fun _ h=>X0 6 Z ?_);obtain⟨o1,F,L⟩:=qc F;refine ql (rL (fun m e w'=>∃x2 b2,qe6 links live forward m x2 b2=V o1/\e=[(1,oS p1 links.length C),(2,oS H live.length D),(4,.bool forward),(11,oS b a.length a.length),(12,.bool b2)]/\SH w w' [oW S1 (x2:List Bool) [oS b a.length a.length]]) n ⟨_,_,F,rfl,h⟩ Z ?_);rintro m1 _ _ ⟨x2,b2,F,rfl,h⟩;rcases m1 with _|m1
 .cases F
 refine X0 5 Z (qk Z F ?_ ?_)<;>intro F
 .refine X0 10 Z ?_;obtain⟨o2,F,M⟩:=qc F;refine ql (rL (fun m e w'=>∃A b3 z,qdI links live forward m A b3 z=V o2/\e=[(1,oS p1 links.length C),(2,oS H live.length D),(4,.bool forward),(11,oS b a.length a.length),(12,.bool b3),(13,vi z)]/\SH w w' [oW S1 (A:List Bool) [oS b a.length a.length]]) m1 ⟨_,_,_,F,rfl,h⟩ Z ?_);rintro m2 _ _ ⟨A,b3,z,F,rfl,h⟩;rcases m2 with _|m2
  .cases F
  refine X0 8 Z (qk Z F ?_ ?_)<;>intro F
  .refine X0 4 Z (rD (zd2 Z ?_));obtain⟨_,_,F,X,_,_,_,_,a4,a9,b9,Q⟩:=s1.ix F;obtain rfl:=qaG b9;refine zdxe a4 a9 X Z (zd1 Z (zdc 0 (Q.below h.below) Z (zd2 Z ?_)));obtain⟨_,_,F,Y,_,_,_,_,a5,b4,c0,R⟩:=s1.ix F;obtain rfl:=qaG c0;refine zdxe a5 b4 Y Z (zd1 Z (zdc 1 (R.below h.below) Z (zd2 Z (dN h fun _ h=>X0 6 Z ?_))));obtain⟨J,i,_,F,f⟩:=bindE F;refine qau (fun e w'=>∃i2 B,J (i2,B)=V o2/\e=[(1,oS p1 links.length C),(2,oS H live.length D),(4,.bool forward),(11,oS b a.length a.length),(12,.bool b3),(13,vi z),(14,vi i2),(15,vi B)]/\SH w w' [oW S1 (A:List Bool) [oS b a.length a.length]]) ?_ ?_
   .refine qk Z F ?_ ?_<;>intro F
    .refine X0 6 Z ?_;cases qb F;exact rG ⟨_,_,f,rfl,h⟩ Z
    refine qfv ?_;cases qb F;exact rG ⟨_,_,f,rfl,h⟩ Z
   rintro _ _ ⟨i2,B,F,rfl,h⟩;subst i;refine qb0 ?_;obtain⟨I,g,_,F,c⟩:=bindE F;refine qau (fun e w'=>∃K,I K=V o2/\e=[(1,oS p1 links.length C),(2,oS H live.length D),(4,.bool forward),(11,oS b a.length a.length),(12,.bool b3),(13,vi z),(15,vi B),(58,.bool K)]/\SH w w' [oW S1 (A:List Bool) [oS b a.length a.length]]) ?_ ?_
   .refine X0 3 Z ?_;obtain⟨_,_,F,a3,_,_,_,_,a6,b5,rfl,T⟩:=s2.ix F;refine zxe a6 b5 a3 Z (zc 0 (T.below h.below) Z (zp1 Z (qe (t:=46) F Z ?_ ?_)))<;>intro F
    .refine X0 5 Z ?_;obtain⟨_,_,F,p,_,_,_,_,a7,b7,rfl,W⟩:=(h.sl 0 Z).1.ix F;refine zx a7 b7 ⟨p.1,qC p.2.1 (h.sl 0 Z).2⟩ Z (X0 1 Z (zc 0 W Z (zp2 Z (qe (t:=52) F Z ?_ ?_))))<;>intro F
     .refine X0 5 Z ?_;obtain⟨_,_,F,s,_,_,_,_,a8,b8,rfl,k⟩:=(h.sl 0 Z).1.ix F;refine zx a8 b8 ⟨s.1,qC s.2.1 (h.sl 0 Z).2⟩ Z (X0 1 Z (zc 0 k Z (X0 4 Z ?_)));cases qb F;exact rG ⟨_,c,rfl,h⟩ Z
     refine X0 7 Z ?_;cases qb F;exact rG ⟨_,c,rfl,h⟩ Z
    refine X0 13 Z ?_;cases qb F;exact rG ⟨_,c,rfl,h⟩ Z
   rintro _ _ ⟨K,F,rfl,h⟩;subst g;refine qk Z F ?_ ?_<;>intro F
   .refine X0 4 Z ?_;obtain⟨_,c3,F,o,_,_,_,_,v,y,rfl,S⟩:=(h.sl 0 Z).1.ix F;exact zx v y ⟨o.1,qC o.2.1 (h.sl 0 Z).2⟩ Z (qav qa 0 0 true h Z c3 v y Z S Z Z Z Z Z Z Z fun _ h=>X0 10 Z (rK ⟨_,_,_,F,rfl,h⟩ Z))
   exact X0 7 Z (rK ⟨_,_,_,F,rfl,h⟩ Z)
  refine qt Z ?_;cases qb F;exact qwv (rK ⟨_,_,M,rfl,h⟩ Z)
 refine qt Z ?_;cases qb F;have F:=L;refine X0 5 Z ?_;cases qb F;exact rO 0 h Z ⟨rfl,G⟩
def qdo(links:(List qv))(live:(List Bool))(v:Int):Nat->Int->Option (Flow Bool Int)|0,_=>U|n+1,a=>bif decide (a<(links.length:Int)) then(idx live a).bind fun b=>bif b then(idx links a).bind fun c=>bif (c.Bd==v) then(idx links a).bind fun d=>bif (d.To==v) then V (.ret true) else qdo links live v n (W64 (a+1)) else qdo links live v n (W64 (a+1)) else qdo links live v n (W64 (a+1)) else V (.nxt a)
def qkA(n:Nat)(links:(List qv))(live:(List Bool))(v:Int):Option Bool:=(qdo links live v n 0).bind fun|.ret r=>V r|.nxt _=>V false
theorem qpZ{links:(List qv)}{live:(List Bool)}{v}(b:Ro w links cs1)(c:Ro w live cs2){r:Bool}(F:qkA n links live v=V r):RetV prog 258 [gv links cs1,gv live cs2,vi v] w r:=by
 obtain⟨p1,D,rfl,s1⟩:=b;obtain⟨I,H,rfl,s2⟩:=c;refine zV 36 func258 Z fun h=>X0 9 Z ?_;obtain⟨o1,F,a⟩:=qc F;refine ql (rL (fun m e w'=>∃B,qdo links live v m B=V o1/\e=[(0,oS p1 links.length D),(1,oS I live.length H),(2,vi v),(7,vi B)]/\SH w w' []) n ⟨_,F,rfl,h⟩ Z ?_);rintro C _ _ ⟨B,F,rfl,h⟩;rcases C with _|C
 .cases F
 refine X0 8 Z (qk Z F ?_ ?_)<;>intro F
 .refine X0 7 Z ?_;obtain⟨_,_,F,i,_,_,_,_,o,u,rfl,d⟩:=s2.ix F;refine zxe o u i Z (zc 0 (d.below h.below) Z (zp1 Z (qe (t:=18) F Z ?_ ?_)))<;>intro F
  .refine X0 5 Z ?_;obtain⟨_,_,F,k,_,_,_,_,p,x,z,f⟩:=s1.ix F;obtain rfl:=qaG z;refine zxe p x k Z (X0 3 Z (zc 0 (f.below h.below) Z (X0 6 Z (qe (t:=27) F Z ?_ ?_))))<;>intro F
   .refine X0 5 Z ?_;obtain⟨_,_,F,l,_,_,_,_,s,y,A,g⟩:=s1.ix F;obtain rfl:=qaG A;refine zxe s y l Z (X0 3 Z (zc 1 (g.below h.below) Z (X0 6 Z (qk Z F ?_ ?_))))<;>intro F
    .refine X0 4 Z ?_;cases qb F;exact rb h a Z
    exact X0 7 Z (rK ⟨_,F,rfl,h⟩ Z)
   exact X0 9 Z (qa5 Z Z (X0 7 Z (rK ⟨_,F,rfl,h⟩ Z)))
  exact X0 18 Z (qa5 Z Z (X0 7 Z (rK ⟨_,F,rfl,h⟩ Z)))
 refine qt Z ?_;cases qb F;exact X0 4 Z (rb h a Z)
def qdK(a_0:Int)(r1:(List Bool))(c:(List Bool)):Nat->(List Int)->(List Bool)->Int->Option ((List Int)×(List Bool)×Int)|0,_,_,_=>U|n+1,d,b,a=>bif decide (a<a_0) then((idx r1 a).bind fun g=>bif g then(idx c a).bind fun h=>V h else V false).bind fun b2=>bif b2 then(appS d ([a]:List Int)).bind fun f=>(idx b a).bind fun _=>qdK a_0 r1 c n f (setS b a true) (W64 (a+1)) else qdK a_0 r1 c n d b (W64 (a+1)) else V (d,b,a)
def qcL(a_0:Int)(a_1:(List qv))(a_2:(List Bool)):Nat->(List Bool)->(List (List Int))->Int->Option ((List Bool)×(List (List Int))×Int)|0,_,_,_=>U|n+1,b,c,a=>bif decide (a<a_0) then(idx b a).bind fun l=>bif l then qcL a_0 a_1 a_2 n b c (W64 (a+1)) else(qic n a_0 a_1 a_2 a true).bind fun r1=>(qic n a_0 a_1 a_2 a false).bind fun h=>(qdK a_0 r1 h n ([]:List Int) b 0).bind fun(d,f,_)=>(bif decide ((d.length:Int) > 1) then V true else(qkA n a_1 a_2 a).bind fun i=>V i).bind fun g=>bif g then(appS c ([d]:List (List Int))).bind fun k=>qcL a_0 a_1 a_2 n f k (W64 (a+1)) else qcL a_0 a_1 a_2 n f c (W64 (a+1)) else V (b,c,a)
def qjR(n:Nat)(a_0:Int)(a_1:(List qv))(a_2:(List Bool)):Option (List (List Int)):=(mkS a_0 (false:Bool)).bind fun a=>(qcL a_0 a_1 a_2 n a ([]:List (List Int)) 0).bind fun(_,b,_)=>V b
theorem qpg{a_0}{a_1:(List qv)}{a_2:(List Bool)}(ha1:Ro w a_1 cs1)(ha2:Ro w a_2 cs2){r:(List (List Int))}(F:qjR n a_0 a_1 a_2=V r):RetV prog 229 [vi a_0,gv a_1 cs1,gv a_2 cs2] w r:=by
 obtain⟨p1,O,rfl,s1⟩:=ha1;obtain⟨S,P,rfl,s2⟩:=ha2;refine zV 73 func229 Z fun h=>X0 6 Z (qea qa [] _ ([]:List (List Int)) [] h Z Z Z Z Z Z Z Z Z qhh Z Z fun _ _ _ h=>X0 5 Z ?_);obtain⟨a,g,F⟩:=qc F;obtain⟨g1,g2,g⟩:=qad g;refine qaz qa Bool h z9 g1 g2 g Z fun _ S2 f h=>X0 7 Z ?_;obtain⟨o1,F,hK1⟩:=qc F;refine ql (rL (fun m e w'=>∃(x2:(List Bool)) (x:Nat->Prop) (d:Option Addr) (o:Nat) (k3:Nat) (b:(List (List Int))) (v:Int),qcL a_0 a_1 a_2 m x2 b v=V o1/\e=[(0,vi a_0),(1,oS p1 a_1.length O),(2,oS S a_2.length P),(7,oS d o k3),(8,oS f a.length a.length),(9,vi v)]/\SH w w' [oW S2 (x2:List Bool) [oS f a.length a.length],oW x (b:List (List Int)) [oS d o k3]]) n ⟨_,_,_,_,_,_,_,F,rfl,h⟩ Z ?_);rintro m1 _ _ ⟨x2,x,d,o,k3,b,v,F,rfl,h⟩;obtain rfl:=(h.sl 1 Z).2;rcases m1 with _|m1
 .cases F
 refine X0 7 Z (qk Z F ?_ ?_)<;>intro F
 .refine X0 8 Z ?_;obtain⟨_,_,F,C,_,_,_,_,hp1,hq1,rfl,hc2⟩:=(h.sl 0 Z).1.ix F;refine zx hp1 hq1 ⟨C.1,qC C.2.1 (h.sl 0 Z).2⟩ Z (zc 0 hc2 Z (qbe (qk Z F ?_ ?_)))<;>intro F
  .exact qt Z (X0 5 Z (rK ⟨_,_,_,_,_,_,_,F,rfl,h⟩ Z))
  refine X0 7 Z (zcL h F (qlZ ⟨_,_,rfl,(h.oldS s1)⟩ ⟨_,_,rfl,(h.oldS s2)⟩) Z fun r1 _ S4 T Q h F=>zp4 Z (zcL h F (qlZ ⟨_,_,rfl,(h.oldS s1)⟩ ⟨_,_,rfl,(h.oldS s2)⟩) Z fun u _ S5 W R h F=>X0 5 Z (qn qa [] _ ([]:List Int) h z9 trivial Z fun _ _ _ h=>X0 7 Z ?_)));obtain⟨o2,F,hK2⟩:=qc F;refine ql (rL (fun m e w'=>∃N s p l c M L,qdK a_0 r1 u m c M L=V o2/\e=[(0,vi a_0),(1,oS p1 a_1.length O),(2,oS S a_2.length P),(7,oS d b.length k3),(8,oS f a.length a.length),(9,vi v),(10,oS T r1.length Q),(11,oS W u.length R),(12,oS s p l),(13,vi L)]/\SH w w' [oW N (c:List Int) [oS s p l],oW S5 (u:List Bool) [oS W u.length R],oW S4 (r1:List Bool) [oS T r1.length Q],oW S2 (M:List Bool) [oS f a.length a.length],oW x (b:List (List Int)) [oS d b.length k3]]) m1 ⟨_,_,_,_,_,_,_,F,rfl,h⟩ Z ?_);rintro m2 _ _ ⟨N,s,p,l,c,M,L,F,rfl,h⟩;obtain rfl:=(h.sl 0 Z).2;rcases m2 with _|m2
  .cases F
  refine X0 7 Z (qk Z F ?_ ?_)<;>intro F
  .refine X0 4 Z ?_;obtain⟨X,A,_,F,y⟩:=bindE F;refine qau (fun e w'=>∃b2,X b2=V o2/\e=[(0,vi a_0),(1,oS p1 a_1.length O),(2,oS S a_2.length P),(7,oS d b.length k3),(8,oS f a.length a.length),(9,vi v),(10,oS T r1.length Q),(11,oS W u.length R),(12,oS s c.length l),(13,vi L),(51,.bool b2)]/\SH w w' [oW N (c:List Int) [oS s c.length l],oW S5 (u:List Bool) [oS W u.length R],oW S4 (r1:List Bool) [oS T r1.length Q],oW S2 (M:List Bool) [oS f a.length a.length],oW x (b:List (List Int)) [oS d b.length k3]]) ?_ ?_
   .refine X0 3 Z ?_;obtain⟨_,_,F,H,_,_,_,_,hp3,hq3,rfl,hc7⟩:=(h.sl 2 Z).1.ix F;refine zx hp3 hq3 ⟨H.1,qC H.2.1 (h.sl 2 Z).2⟩ Z (zc 0 hc7 Z (zp1 Z (qe (t:=46) F Z ?_ ?_)))<;>intro F
    .refine X0 5 Z ?_;obtain⟨_,_,F,I,_,_,_,_,hp4,hq4,rfl,hc8⟩:=(h.sl 1 Z).1.ix F;refine zx hp4 hq4 ⟨I.1,qC I.2.1 (h.sl 1 Z).2⟩ Z (X0 1 Z (zc 0 hc8 Z (X0 2 Z ?_)));cases qb F;exact rG ⟨_,y,rfl,h⟩ Z
    refine X0 6 Z ?_;cases qb F;exact rG ⟨_,y,rfl,h⟩ Z
   rintro _ _ ⟨b2,F,rfl,h⟩;subst A;refine qk Z F ?_ ?_<;>intro F
   .refine X0 4 Z (qn qa [.tmp 53] _ ([L]:List Int) h z9 ⟨rfl,G⟩ Z fun _ _ _ h=>?_);obtain⟨_,i,F⟩:=qc F;obtain⟨g3,i⟩:=qE i;refine qar qa 1 h Z (h.sl 0 Z).1 (h.sl 0 Z).2 z9 g3 i Z fun _ _ _ _ h=>X0 5 Z ?_;obtain⟨_,hy2,F,D,_,_,_,_,J,K,rfl,hc6⟩:=(h.sl 4 Z).1.ix F;refine zx J K ⟨D.1,qC D.2.1 (h.sl 4 Z).2⟩ Z (qav qa 4 0 true h Z hy2 J K Z hc6 Z Z Z Z Z Z Z fun _ h=>X0 7 Z ?_);have h:=h.p [1,2,3,4,5] Z;exact rK ⟨_,_,_,_,_,_,_,F,rfl,h⟩ Z
   exact X0 7 Z (rK ⟨_,_,_,_,_,_,_,F,rfl,h⟩ Z)
  refine qt Z ?_;cases qb F;have F:=hK2;refine qb0 ?_;obtain⟨Y,B,_,F,z⟩:=bindE F;refine qau (fun e w'=>∃b6,Y b6=V o1/\e=[(0,vi a_0),(1,oS p1 a_1.length O),(2,oS S a_2.length P),(7,oS d b.length k3),(8,oS f a.length a.length),(9,vi v),(12,oS s c.length l),(67,.bool b6)]/\SH w w' [oW N (c:List Int) [oS s c.length l],oW S2 (M:List Bool) [oS f a.length a.length],oW x (b:List (List Int)) [oS d b.length k3]]) ?_ ?_
  .refine X0 5 Z (qe (t:=62) F Z ?_ ?_)<;>intro F
   .refine X0 6 Z ?_;have h:=h.p [0,3,4] Z;cases qb F;exact rG ⟨_,z,rfl,h⟩ Z
   refine X0 7 Z (zcB h F (qpZ ⟨_,_,rfl,(h.oldS s1)⟩ ⟨_,_,rfl,(h.oldS s2)⟩) Z fun _ _ h F=>X0 2 Z ?_);have h:=h.p [0,3,4] Z;cases qb F;exact rG ⟨_,z,rfl,h⟩ Z
  rintro _ _ ⟨b6,F,rfl,h⟩;subst B;refine qk Z F ?_ ?_<;>intro F
  .refine X0 3 Z (qea qa [.tmp 69] _ ([c]:List (List Int)) [1,2] h Z Z Z Z Z Z Z Z Z (qcQ (qI 0 h Z) qhh Z) Z Z fun _ _ _ h=>?_);obtain⟨_,k,F⟩:=qc F;obtain⟨g4,k⟩:=qE k;have h:=h.p [0,2,1] Z;refine qmi qa h Z Z Z Z Z Z Z Z Z g4 k Z fun _ _ _ _ h=>X0 8 Z ?_;have h:=h.p [1,0] Z;exact rK ⟨_,_,_,_,_,_,_,F,rfl,h⟩ Z
  refine X0 7 Z ?_;have h:=h.p [1,2] Z;exact rK ⟨_,_,_,_,_,_,_,F,rfl,h⟩ Z
 refine qt Z ?_;cases qb F;have F:=hK1;refine X0 5 Z ?_;cases qb F;exact rO 1 h Z ⟨rfl,G⟩

def qdQ(b:(List Bool))(c:(List Bool)):Nat->(List Int)->Int->Option ((List Int)×Int)|0,_,_=>U|n+1,d,a=>bif decide (a<(b.length:Int)) then(idx c a).bind fun g=>bif (!g) then(appS d ([a]:List Int)).bind fun f=>qdQ b c n f (W64 (a+1)) else qdQ b c n d (W64 (a+1)) else V (d,a)
def qbx(r1:(List qv))(c:(List Bool))(b:(List (List Int))):Nat->Int->Int->Option (Int×Int)|0,_,_=>U|n+1,d,a=>bif decide (a<(r1.length:Int)) then(idx c a).bind fun h=>bif h then(idx r1 a).bind fun i=>bif (i.Au==1) then(idx b 0).bind fun k=>(idx r1 a).bind fun l=>(qgz n k l.Bd).bind fun f=>bif f then(idx b 0).bind fun m=>(idx r1 a).bind fun o=>(qgz n m o.To).bind fun g=>bif g then qbx r1 c b n a (W64 (a+1)) else qbx r1 c b n d (W64 (a+1)) else qbx r1 c b n d (W64 (a+1)) else qbx r1 c b n d (W64 (a+1)) else qbx r1 c b n d (W64 (a+1)) else V (d,a)
def qgp(r1:(List qv))(c:Int):Nat->(List Bool)->Option (List Bool)|0,_=>U|n+1,a=>(qjR n c r1 a).bind fun d=>bif ((d.length:Int)==0) then V a else(qbx r1 a d n (-1) 0).bind fun(b,_)=>(idx a b).bind fun _=>qgp r1 c n (setS a b false)
def qjH(n:Nat)(a_0:qd):Option (List Int):=(qeT n a_0).bind fun r1=>(qh1 n r1 ([]:List Int)).bind fun a=>(qf9 n a_0).bind fun b=>(qgp r1 b n a).bind fun c=>(qdQ a c n ([]:List Int) 0).bind fun(d,_)=>V d
theorem qpb{a_0:qd}(b:Ro w a_0 cs1){r:(List Int)}(F:qjH n a_0=V r):RetV prog 173 [gv a_0 cs1] w r:=by
 obtain⟨_,_,_,_,_,_,_,_,_,_,rfl,_,_,_,_,_⟩:=qB b;refine zV 86 func173 Z fun h=>zSR (qA h Z Z fun _ _ h=>X1 5 0 h Z (zcL h F (qgi (h.old b)) Z fun r1 _ S1 R Q h F=>X0 5 Z (qn qa [] _ ([]:List Int) h z9 trivial Z fun _ _ _ h=>zcL h F (qke (h.own 1 Z) (h.own 0 Z)) Z fun g _ T l k h F=>X1 5 3 h Z (zcI h F (qhW (h.old b)) Z fun r3 _ h F=>X0 3 Z ?_))));obtain⟨o1,F,W⟩:=qc F;refine ql ?_;have h:=h.p [0,2] Z;refine rL (fun m e w'=>∃i,qgp r1 r3 m i=V o1/\e=[(3,oS R r1.length Q),(4,oS l g.length k),(5,vi r3)]/\SH w w' [oW T (i:List Bool) [oS l g.length k],oW S1 (r1:List qv) [oS R r1.length Q]]) n ⟨_,F,rfl,h⟩ Z ?_;rintro m1 _ _ ⟨i,F,rfl,h⟩;rcases m1 with _|m1
 .cases F
 refine X0 6 Z (zcL h F (qpg (h.own 1 Z) (h.own 0 Z)) Z fun S _ S4 p9 k8 h F=>X0 9 Z (qk Z F ?_ ?_))<;>intro F
 .refine qt Z ?_;obtain rfl:=qb F;have F:=W;refine zSR (qn qa [] _ ([]:List Int) h z9 trivial Z fun _ _ _ h=>X0 7 Z ?_);obtain⟨o2,F,X⟩:=qc F;refine ql ?_;have h:=h.p [0,2] Z;refine rL (fun m e w'=>∃S6 f d k9 x2 P,qdQ g i m x2 P=V o2/\e=[(4,oS l g.length k),(9,oS f d k9),(10,vi P)]/\SH w w' [oW S6 (x2:List Int) [oS f d k9],oW T (i:List Bool) [oS l g.length k]]) n ⟨_,_,_,_,_,_,F,rfl,h⟩ Z ?_;rintro m2 _ _ ⟨S6,f,d,k9,x2,P,F,rfl,h⟩;obtain rfl:=(h.sl 0 Z).2;rcases m2 with _|m2
  .cases F
  refine X0 8 Z (qk Z F ?_ ?_)<;>intro F
  .refine X0 7 Z ?_;obtain⟨_,_,F,u,_,_,_,_,a8,b9,rfl,a3⟩:=(h.sl 1 Z).1.ix F;refine zx a8 b9 ⟨u.1,qC u.2.1 (h.sl 1 Z).2⟩ Z (zc 0 a3 Z (X0 2 Z (qk Z F ?_ ?_)))<;>intro F
   .refine X0 3 Z (qn qa [.tmp 82] _ ([P]:List Int) h z9 ⟨rfl,G⟩ Z fun _ _ _ h=>?_);obtain⟨_,c,F⟩:=qc F;obtain⟨g1,c⟩:=qE c;refine qar qa 1 h Z (h.sl 0 Z).1 (h.sl 0 Z).2 z9 g1 c Z fun _ _ _ _ h=>X0 8 Z ?_;have h:=h.p [1,2] Z;exact rK ⟨_,_,_,_,_,_,F,rfl,h⟩ Z
   exact X0 7 Z (rK ⟨_,_,_,_,_,_,F,rfl,h⟩ Z)
  refine qt Z ?_;cases qb F;have F:=X;refine X0 5 Z ?_;cases qb F;exact rO 0 h Z ⟨rfl,G⟩
 refine X0 10 Z ?_;obtain⟨o3,F,Y⟩:=qc F;refine ql (rL (fun m e w'=>∃i2 i3,qbx r1 i S m i2 i3=V o3/\e=[(3,oS R r1.length Q),(4,oS l g.length k),(5,vi r3),(6,oS p9 S.length k8),(7,vi i2),(8,vi i3)]/\SH w w' [oW S4 (S:List (List Int)) [oS p9 S.length k8],oW T (i:List Bool) [oS l g.length k],oW S1 (r1:List qv) [oS R r1.length Q]]) m1 ⟨_,_,F,rfl,h⟩ Z ?_);rintro m3 _ _ ⟨i2,i3,F,rfl,h⟩;rcases m3 with _|m3
 .cases F
 refine X0 8 Z (qk Z F ?_ ?_)<;>intro F
 .refine X0 4 Z (rD (zd2 Z ?_));obtain⟨_,_,F,v,_,_,_,_,a9,c0,rfl,a4⟩:=(h.sl 1 Z).1.ix F;refine zdx a9 c0 ⟨v.1,qC v.2.1 (h.sl 1 Z).2⟩ Z (zdc 0 a4 Z (zd1 Z (qaK (t:=35) F Z ?_ ?_)))<;>intro F
  .refine Y0 5 Z ?_;obtain⟨_,_,F,x,_,_,_,_,b4,c2,c7,a5⟩:=(h.sl 2 Z).1.ix F;obtain rfl:=qaG c7;refine zdx b4 c2 ⟨x.1,qC x.2.1 (h.sl 2 Z).2⟩ Z (Y0 3 Z (zdc 2 a5 Z (Y0 4 Z (qaK (t:=43) F Z ?_ ?_))))<;>intro F
   .refine Y0 3 Z ?_;obtain⟨_,O,F⟩:=qc F;have y:=qbk O;have h:=h.lrn0 0 Z;obtain⟨_,o_4,_,_,b5,c3,-,N,a6⟩:=(qkk (h.lrnO 0 Z)).1.at O;have c8:=N;obtain⟨_,_,rfl,_⟩:=N;have h:=h.lrnAdd 0 Z c8;refine zdx b5 c3 ⟨y.1,qC y.2.1 (qkk (h.lrnO 0 Z)).2⟩ Z (Y0 1 Z (zdc 0 a6 Z (Y0 5 Z ?_)));obtain⟨_,_,F,z,_,_,_,_,b6,c4,I,a7⟩:=(h.sl 2 Z).1.ix F;obtain rfl:=qaG I;refine zdx b6 c4 ⟨z.1,qC z.2.1 (h.sl 2 Z).2⟩ Z (Y0 3 Z (zdc 0 a7 Z (Y0 1 Z ?_)));obtain⟨r5,J,F⟩:=qc F;refine qcn r5 (vsB _) (cB 128 Z) (fun _ hb=>qhA (GoT.mono ((h.ext hb).lrnS 0 0 Z Z) ((h.ext hb).lrnB 0 Z)) J) Z Z Z Z (zd2 Z (qaK (t:=54) F Z ?_ ?_))<;>intro F
    .refine Y0 3 Z ?_;obtain⟨_,_,F,A,_,_,_,_,b7,c5,a,o⟩:=(qkk (h.lrnO 0 Z)).1.ix F;have K:=a;obtain⟨_,_,rfl,_⟩:=a;have h:=h.lrnAdd 0 Z K;refine zdx b7 c5 ⟨A.1,qC A.2.1 (qkk (h.lrnO 0 Z)).2⟩ Z (Y0 1 Z (zdc 0 o Z (Y0 5 Z ?_)));obtain⟨_,_,F,B,_,_,_,_,b8,c6,L,p⟩:=(h.sl 2 Z).1.ix F;obtain rfl:=qaG L;refine zdx b8 c6 ⟨B.1,qC B.2.1 (h.sl 2 Z).2⟩ Z (Y0 3 Z (zdc 1 p Z (Y0 1 Z ?_)));obtain⟨r6,M,F⟩:=qc F;refine qcn r6 (vsB _) (cB 128 Z) (fun _ hb=>qhA (GoT.mono ((h.ext hb).lrnS 0 0 Z Z) ((h.ext hb).lrnB 0 Z)) M) Z Z Z Z (zd1 Z (dN h fun _ h=>qk Z F ?_ ?_))<;>intro F
     .refine X0 10 Z ?_;have h:=h.unlrn 0 Z;exact rK ⟨_,_,F,rfl,h⟩ Z
     refine X0 7 Z ?_;have h:=h.unlrn 0 Z;exact rK ⟨_,_,F,rfl,h⟩ Z
    refine Y0 10 Z (dN h fun _ h=>qa5 Z Z (X0 7 Z ?_));have h:=h.unlrn 0 Z;exact rK ⟨_,_,F,rfl,h⟩ Z
   exact Y0 21 Z (dN h fun _ h=>qa5 Z Z (X0 7 Z (rK ⟨_,_,F,rfl,h⟩ Z)))
  exact Y0 29 Z (dN h fun _ h=>qa5 Z Z (X0 7 Z (rK ⟨_,_,F,rfl,h⟩ Z)))
 refine qt Z ?_;cases qb F;have F:=Y;refine X0 3 Z ?_;obtain⟨_,c9,F,C,_,_,_,_,D,H,rfl,s⟩:=(h.sl 1 Z).1.ix F;refine zx D H ⟨C.1,qC C.2.1 (h.sl 1 Z).2⟩ Z (qav qa 1 0 false h Z c9 D H Z s Z Z Z Z Z Z Z fun _ h=>zNE ?_);have h:=h.p [1,2] Z;exact rK ⟨_,F,rfl,h⟩ Z
def qbS(a_0:Tl01Source)(A:Int)(b1:Bool):Nat->(List qg)->Int->Int->Int->Option ((List qg)×Int×Int×Int)|0,_,_,_,_=>U|n+1,D,B,C,d=>bif decide (d<2) then(bif b1 then(qr n (⟨a_0.code,B,C⟩:Tl01Source) 8).bind fun(s,b,c)=>bif decide (s > 0) then V (b,c,true) else(qr n (⟨a_0.code,b,c⟩:Tl01Source) 24).bind fun(t,u,v)=>V (u,v,(t==0)) else(qr n (⟨a_0.code,B,C⟩:Tl01Source) 24).bind fun(x,y,z)=>V (y,z,(x==0))).bind fun|(F,i8,b2)=>bif b2 then(qr n (⟨a_0.code,F,i8⟩:Tl01Source) 200).bind fun|(H,f,g)=>(qr n (⟨a_0.code,f,g⟩:Tl01Source) 30).bind fun(a,h,i)=>(qr n (⟨a_0.code,h,i⟩:Tl01Source) 40).bind fun(k,i16,l)=>(qr n (⟨a_0.code,i16,l⟩:Tl01Source) 12).bind fun(m,p,r)=>(appS D ([(⟨W64 ((W64 (2*A))+d),(⟨W64 (H-50),W64 ((W64 (H-50))+k)⟩:qf),(⟨a,W64 (a+m)⟩:qf)⟩:qg)]:List qg)).bind fun I=>qbS a_0 A b1 n I p r (W64 (d+1)) else qbS a_0 A b1 n D F i8 (W64 (d+1)) else V (D,B,C,d)
def qch(a_0:Tl01Source)(b:(List Tl05Place)):Nat->(List qg)->Int->Int->Int->Option ((List qg)×Int×Int×Int)|0,_,_,_,_=>U|n+1,f,c,d,a=>bif decide (a<(b.length:Int)) then((idx b a).bind fun k=>bif decide (k.instance_<0) then(idx b a).bind fun l=>V l.drives else V false).bind fun b1=>(qbS a_0 a b1 n f c d 0).bind fun(i,g,h,_)=>qch a_0 b n i g h (W64 (a+1)) else V (f,c,d,a)
def qeF(n:Nat)(a_0:Tl01Source)(a_1:qd):Option ((List qg)×Int×Int):=(qco n a_1).bind fun r1=>bif (!r1) then V (([]:List qg),a_0.at_,a_0.seed) else(qcc n (⟨a_1.Aa.Ab,a_1.Aa.Ah,a_1.Aa.Ai⟩:qj)).bind fun p=>(qch a_0 p n ([]:List qg) a_0.at_ a_0.seed 0).bind fun(b,h,i,_)=>bif decide ((b.length:Int) > 0) then(qr n (⟨a_0.code,h,i⟩:Tl01Source) (b.length:Int)).bind fun(a,g,i32)=>(qr n (⟨a_0.code,g,i32⟩:Tl01Source) 30).bind fun(f,c,d)=>bif (f==0) then(idx b 0).bind fun r=>(idx b a).bind fun s=>V ((setS b a ({ s with Bi:=r.Bi })),c,d) else bif (f==1) then(idx b a).bind fun t=>(idx b a).bind fun k=>V ((setS b a ({ k with Af:={ k.Af with Ak:=W64 (t.Af.As+1) } })),c,d) else bif (f==2) then(idx b a).bind fun l=>V ((setS b a ({ l with Av:={ l.Av with Ak:=(-1) } })),c,d) else bif (f==3) then(idx b a).bind fun m=>V ((setS b a ({ m with Af:={ m.Af with As:=1000000000 } })),c,d) else V (b,c,d) else V (b,h,i)
theorem qiJ{n b w F}{a_0:Tl01Source}{a p1 c}{a_1:qd}{cs1}(p:SH b w (xb a a_0 p1 c a_0.at_ a_0.seed::F))(ha1:GoT.R w (Fr b F) a_0 (qak a_0 p1 c))(I:GoT.R w (Fr b F) a_1 cs1){r:((List qg)×Int×Int)}(hF:qeF n a_0 a_1=V r):RetW prog 174 [vp a,gv a_1 cs1] w (fun us w'=>∃S1 cs2,us=[oV (List qg) cs2]/\SH b w' (oW S1 (r.1:(List qg)) cs2::xb a a_0 p1 c r.2.1 r.2.2::F)):=by
 have h:=SH.frm1 p ha1;have hz1:=I;obtain⟨p2,k2,p3,k3,p4,k4,p5,k5,p6,k6,rfl,_,_,_,_,_⟩:=qB I;have h:=h.grpAdd 1 Z hz1;replace h:SH _ _ [xb a a_0 p1 c a_0.at_ a_0.seed,oG (old b) (FS F) [fct (a_1:qd) (qu a_1 p2 p3 p4 p5 p6 k2 k3 k4 k5 k6),fct (a_0:Tl01Source) (qak a_0 p1 c),same b w F]]:=h;refine qbh func174 Z (m:=128) Z Z (zSR (qA h Z Z fun _ _ h=>X0 4 Z (qn qa [] _ ([]:List qg) h z9 trivial Z fun _ p7 _ h=>X1 6 1 h Z (zcB h hF (qfF (h.grp 3 0 Z Z)) Z fun _ _ h hF=>X0 2 Z (qk Z hF ?_ ?_)))))<;>intro hF
 .refine X0 5 Z ?_;obtain rfl:=qb hF;have h:=h.p [0,2,3] Z;exact qaR qa [oV (List qg) [oS p7 0 0]] ⟨rfl,G⟩ ⟨_,_,rfl,SH.unfr 1 2 p h Z Z⟩
 refine X1 5 1 h Z (zcL h hF (qb7 (show GoT.R _ _ (a_1.Aa:qj) _ from⟨[oS p3 a_1.Aa.Ab.length k3],[oS p4 a_1.Aa.Ah.length k4,oS p5 a_1.Aa.Ai.length k5],rfl,⟨_,_,rfl,(qf3 (h.grp 3 0 Z Z)).2.1.1⟩,⟨[oS p4 a_1.Aa.Ah.length k4],[oS p5 a_1.Aa.Ai.length k5],rfl,⟨_,_,rfl,(qf3 (h.grp 3 0 Z Z)).2.2.1.1⟩,⟨_,_,rfl,(qf3 (h.grp 3 0 Z Z)).2.2.2.1.1⟩⟩⟩)) Z fun d _ S3 u s h hF=>X0 7 Z ?_);have h:=h.grpKeep [1,2] 4 Z;obtain⟨o1,hF,hK1⟩:=qc hF;refine ql ?_;have h:=h.p [0,1,3,4] Z;refine rL (fun m e w'=>∃S4 k y g f i1 i2 o,qch a_0 d m f i1 i2 o=V o1/\e=[(0,vp a),(5,oS k y g),(6,oS u d.length s),(7,vi o)]/\SH b w' [oW S3 (d:List Tl05Place) [oS u d.length s],oW S4 (f:List qg) [oS k y g],xb a a_0 p1 c i1 i2,xf b w F a_0 p1 c]) n ⟨_,_,_,_,_,_,_,_,hF,rfl,h⟩ Z ?_;rintro m1 _ _ ⟨S4,k,y,g,f,i1,i2,o,hF,rfl,h⟩;obtain rfl:=(h.sl 1 Z).2;rcases m1 with _|m1
 .cases hF
 refine X0 8 Z (qk Z hF ?_ ?_)<;>intro hF
 .refine X0 4 Z ?_;obtain⟨KF2,H,_,hF,C⟩:=bindE hF;refine qau (fun e w'=>∃b1,KF2 b1=V o1/\e=[(0,vp a),(5,oS k f.length g),(6,oS u d.length s),(7,vi o),(8,.bool b1)]/\SH b w' [oW S3 (d:List Tl05Place) [oS u d.length s],oW S4 (f:List qg) [oS k f.length g],xb a a_0 p1 c i1 i2,xf b w F a_0 p1 c]) ?_ ?_
  .refine X0 3 Z ?_;obtain⟨_,_,hF,O,_,_,_,_,hp1,hq1,b4,hc5⟩:=(h.sl 0 Z).1.ix hF;obtain rfl:=qbD b4;refine zx hp1 hq1 ⟨O.1,qC O.2.1 (h.sl 0 Z).2⟩ Z (zp1 Z (zc 0 hc5 Z (zp2 Z (qe (t:=33) hF Z ?_ ?_))))<;>intro hF
   .refine X0 5 Z ?_;obtain⟨_,_,hF,P,_,_,_,_,hp2,hq2,b5,hc6⟩:=(h.sl 0 Z).1.ix hF;obtain rfl:=qbD b5;refine zx hp2 hq2 ⟨P.1,qC P.2.1 (h.sl 0 Z).2⟩ Z (X0 3 Z (zc 3 hc6 Z (X0 3 Z ?_)));cases qb hF;exact rG ⟨_,C,rfl,h⟩ Z
   refine X0 8 Z ?_;cases qb hF;exact rG ⟨_,C,rfl,h⟩ Z
  rintro _ _ ⟨b1,hF,rfl,h⟩;subst H;refine X0 4 Z ?_;obtain⟨o2,hF,hK2⟩:=qc hF;refine ql (rL (fun m e w'=>∃S5 i z k9 B i4 i5 A,qbS a_0 o b1 m B i4 i5 A=V o2/\e=[(0,vp a),(5,oS i z k9),(6,oS u d.length s),(7,vi o),(8,.bool b1),(9,vi A)]/\SH b w' [oW S3 (d:List Tl05Place) [oS u d.length s],oW S5 (B:List qg) [oS i z k9],xb a a_0 p1 c i4 i5,xf b w F a_0 p1 c]) m1 ⟨_,_,_,_,_,_,_,_,hF,rfl,h⟩ Z ?_);rintro m2 _ _ ⟨S5,i,z,k9,B,i4,i5,A,hF,rfl,h⟩;obtain rfl:=(h.sl 1 Z).2;rcases m2 with _|m2
  .cases hF
  refine X0 6 Z (qk Z hF ?_ ?_)<;>intro hF
  .refine X0 4 Z ?_;obtain⟨KF1,D,_,hF,v⟩:=bindE hF;refine qau (fun e w'=>∃i7 i8 b2,KF1 (i7,i8,b2)=V o2/\e=[(0,vp a),(5,oS i B.length k9),(6,oS u d.length s),(7,vi o),(8,.bool b1),(9,vi A),(54,.bool b2)]/\SH b w' [xb a a_0 p1 c i7 i8,oW S3 (d:List Tl05Place) [oS u d.length s],oW S5 (B:List qg) [oS i B.length k9],xf b w F a_0 p1 c]) ?_ ?_
   .refine X0 3 Z (qe (t:=45) hF Z ?_ ?_)<;>intro hF
    .refine X0 3 Z ?_;have h:=h.p [2,0,1,3] Z;obtain⟨⟨_,_,_⟩,hr7,hF⟩:=qc hF;refine nxE h (h.frG 3 0 1 Z Z Z) hr7 Z Z Z fun _ h=>X0 4 Z (qe (t:=50) hF Z ?_ ?_)<;>intro hF
     .refine X0 5 Z ?_;cases qb hF;exact rG ⟨_,_,_,v,rfl,h⟩ Z
     refine X0 3 Z ?_;obtain⟨⟨_,_,_⟩,hr8,hF⟩:=qc hF;refine nxE h (h.frG 3 0 1 Z Z Z) hr8 Z Z Z fun _ h=>X0 4 Z ?_;cases qb hF;exact rG ⟨_,_,_,v,rfl,h⟩ Z
    refine X0 8 Z ?_;have h:=h.p [2,0,1,3] Z;obtain⟨⟨_,_,_⟩,hr9,hF⟩:=qc hF;refine nxE h (h.frG 3 0 1 Z Z Z) hr9 Z Z Z fun _ h=>X0 4 Z ?_;cases qb hF;exact rG ⟨_,_,_,v,rfl,h⟩ Z
   rintro _ _ ⟨i7,i8,b2,hF,rfl,h⟩;subst D;refine qk Z hF ?_ ?_<;>intro hF
   .refine X0 3 Z ?_;obtain⟨⟨i9,_,_⟩,hr3,hF⟩:=qc hF;refine nxE h (h.frG 3 0 1 Z Z Z) hr3 Z Z Z fun _ h=>zp2 Z ?_;obtain⟨⟨l,_,_⟩,hr4,hF⟩:=qc hF;refine nxE h (h.frG 3 0 1 Z Z Z) hr4 Z Z Z fun _ h=>X0 12 Z ?_;obtain⟨⟨c5,_,_⟩,hr5,hF⟩:=qc hF;refine nxE h (h.frG 3 0 1 Z Z Z) hr5 Z Z Z fun _ h=>zp1 Z (r_v (qy qa [0,1] [.tmp 65,.tmp 69] z8) Z (zp3 Z ?_));obtain⟨⟨c6,_,_⟩,hr6,hF⟩:=qc hF;refine nxE h (h.frG 3 0 1 Z Z Z) hr6 Z Z Z fun _ h=>zp1 Z (r_v (qy qa [0,1] [.tmp 71,.tmp 75] z8) Z (r_v (qy qa [0,1,2] [.tmp 64,.tmp 70,.tmp 76] z8) Z (qn qa [.tmp 77] _ ([(⟨W64 ((W64 (2*o))+A),(⟨W64 (i9-50),W64 ((W64 (i9-50))+c5)⟩:qf),(⟨l,W64 (l+c6)⟩:qf)⟩:qg)]:List qg) h z9 ⟨(qca (⟨W64 ((W64 (2*o))+A),(⟨W64 (i9-50),W64 ((W64 (i9-50))+c5)⟩:qf),(⟨l,W64 (l+c6)⟩:qf)⟩:qg)),G⟩ Z fun _ _ _ h=>?_)));obtain⟨_,x,hF⟩:=qc hF;obtain⟨g1,x⟩:=qE x;refine qar qa 3 h Z (h.sl 0 Z).1 (h.sl 0 Z).2 z9 g1 x Z fun _ _ _ _ h=>X0 8 Z ?_;have h:=h.p [2,3,1,4] Z;exact rK ⟨_,_,_,_,_,_,_,_,hF,rfl,h⟩ Z
   refine X0 7 Z ?_;have h:=h.p [1,2,0,3] Z;exact rK ⟨_,_,_,_,_,_,_,_,hF,rfl,h⟩ Z
  refine qt Z ?_;cases qb hF;exact X0 6 Z (rK ⟨_,_,_,_,_,_,_,_,hK2,rfl,h⟩ Z)
 refine qt Z ?_;cases qb hF;replace hF:=hK1;refine X0 7 Z (qk Z hF ?_ ?_)<;>intro hF
 .refine X0 5 Z ?_;have h:=h.p [2,0,1,3] Z;obtain⟨⟨_,_,_⟩,b6,hF⟩:=qc hF;refine nxE h (h.frG 3 0 1 Z Z Z) b6 Z Z Z fun _ h=>X0 5 Z ?_;obtain⟨⟨_,_,_⟩,b7,hF⟩:=qc hF;refine nxE h (h.frG 3 0 1 Z Z Z) b7 Z Z Z fun _ h=>X0 7 Z (qk Z hF ?_ ?_)<;>intro hF
  .refine X0 4 Z ?_;obtain⟨y3,_,hF,Q,_,_,_,_,hp3,hq3,b8,hc9⟩:=(h.sl 2 Z).1.ix hF;obtain rfl:=qaI b8;refine zx hp3 hq3 ⟨Q.1,qC Q.2.1 (h.sl 2 Z).2⟩ Z (zp1 Z (zc 0 hc9 Z ?_));obtain⟨y4,hy4,hF,R,_,_,_,_,Y,a6,b9,J⟩:=(h.sl 2 Z).1.ix hF;obtain rfl:=qaI b9;refine zx Y a6 ⟨R.1,qC R.2.1 (h.sl 2 Z).2⟩ Z (zp1 Z (qav qa 2 0 ({ y4 with Bi:=y3.Bi }:qg) h Z hy4 Y a6 (qca y4) J Z Z Z (qca ({ y4 with Bi:=y3.Bi })) Z Z Z fun _ h=>X0 7 Z ?_));obtain rfl:=qb hF;have h:=h.p [2,0,3] Z;exact qaR qa [oV (List qg) [oS k f.length g]] ⟨rfl,G⟩ ⟨_,_,rfl,SH.unfr 1 1 p h Z Z⟩
  refine X0 5 Z (qk Z hF ?_ ?_)<;>intro hF
  .refine X0 5 Z ?_;obtain⟨y5,_,hF,S,_,_,_,_,hp5,hq5,c0,K⟩:=(h.sl 2 Z).1.ix hF;obtain rfl:=qaI c0;refine zx hp5 hq5 ⟨S.1,qC S.2.1 (h.sl 2 Z).2⟩ Z (zp2 Z (zc 2 K Z (zp1 Z ?_)));obtain⟨y6,hy6,hF,T,_,_,_,_,a3,a7,c2,L⟩:=(h.sl 2 Z).1.ix hF;obtain rfl:=qaI c2;refine zx a3 a7 ⟨T.1,qC T.2.1 (h.sl 2 Z).2⟩ Z (zp2 Z (qav qa 2 1 ({ y6 with Af:={ y6.Af with Ak:=W64 (y5.Af.As+1) } }:qg) h Z hy6 a3 a7 (qca y6) L Z Z Z (qca ({ y6 with Af:={ y6.Af with Ak:=W64 (y5.Af.As+1) } })) Z Z Z fun _ h=>X0 7 Z ?_));obtain rfl:=qb hF;have h:=h.p [2,0,3] Z;exact qaR qa [oV (List qg) [oS k f.length g]] ⟨rfl,G⟩ ⟨_,_,rfl,SH.unfr 1 1 p h Z Z⟩
  refine X0 5 Z (qk Z hF ?_ ?_)<;>intro hF
  .refine X0 3 Z ?_;obtain⟨y7,hy7,hF,W,_,_,_,_,a4,a8,c3,M⟩:=(h.sl 2 Z).1.ix hF;obtain rfl:=qaI c3;refine zx a4 a8 ⟨W.1,qC W.2.1 (h.sl 2 Z).2⟩ Z (zp2 Z (qav qa 2 3 ({ y7 with Av:={ y7.Av with Ak:=(-1) } }:qg) h Z hy7 a4 a8 (qca y7) M Z Z Z (qca ({ y7 with Av:={ y7.Av with Ak:=(-1) } })) Z Z Z fun _ h=>X0 7 Z ?_));obtain rfl:=qb hF;have h:=h.p [2,0,3] Z;exact qaR qa [oV (List qg) [oS k f.length g]] ⟨rfl,G⟩ ⟨_,_,rfl,SH.unfr 1 1 p h Z Z⟩
  refine X0 5 Z (qk Z hF ?_ ?_)<;>intro hF
  .refine X0 3 Z ?_;obtain⟨y8,hy8,hF,X,_,_,_,_,a5,a9,c4,N⟩:=(h.sl 2 Z).1.ix hF;obtain rfl:=qaI c4;refine zx a5 a9 ⟨X.1,qC X.2.1 (h.sl 2 Z).2⟩ Z (zp2 Z (qav qa 2 2 ({ y8 with Af:={ y8.Af with As:=1000000000 } }:qg) h Z hy8 a5 a9 (qca y8) N Z Z Z (qca ({ y8 with Af:={ y8.Af with As:=1000000000 } })) Z Z Z fun _ h=>X0 7 Z ?_));obtain rfl:=qb hF;have h:=h.p [2,0,3] Z;exact qaR qa [oV (List qg) [oS k f.length g]] ⟨rfl,G⟩ ⟨_,_,rfl,SH.unfr 1 1 p h Z Z⟩
  refine X0 7 Z ?_;obtain rfl:=qb hF;have h:=h.p [2,0,3] Z;exact qaR qa [oV (List qg) [oS k f.length g]] ⟨rfl,G⟩ ⟨_,_,rfl,SH.unfr 1 1 p h Z Z⟩
 refine X0 6 Z ?_;obtain rfl:=qb hF;have h:=h.p [1,2,3] Z;exact qaR qa [oV (List qg) [oS k f.length g]] ⟨rfl,G⟩ ⟨_,_,rfl,SH.unfr 1 1 p h Z Z⟩
def qhQ(n:Nat)(s:Tl01Source):Option (qd×qz×(List Int)×(List qg)×Int×Int):=(qhf n (⟨s.code,s.at_,s.seed⟩:Tl01Source)).bind fun(r1,y,z)=>(qgE n (⟨s.code,y,z⟩:Tl01Source)).bind fun|(v,A,B)=>(qr n (⟨s.code,A,B⟩:Tl01Source) 3).bind fun|(C,t,u)=>(bif (C==0) then(qeN n (⟨s.code,t,u⟩:Tl01Source) 5 true).bind fun|(K,p,r)=>V (K,p,r) else V (r1,t,u)).bind fun|(c,i8,D)=>(qgT n (⟨s.code,i8,D⟩:Tl01Source) c).bind fun(x,a,b)=>((qco n c).bind fun J=>bif J then bif ((x.length:Int)==0) then(qr n (⟨s.code,a,b⟩:Tl01Source) 6).bind fun(k,l,m)=>V (l,m,decide (k > 0)) else V (a,b,false) else V (a,b,false)).bind fun(d,f,b1)=>bif b1 then(qjH n c).bind fun F=>(qeF n (⟨s.code,d,f⟩:Tl01Source) c).bind fun|(H,g,h)=>V (c,v,F,H,g,h) else(qeF n (⟨s.code,d,f⟩:Tl01Source) c).bind fun|(I,i16,i)=>V (c,v,x,I,i16,i)
theorem qnm{n K w F}{s:Tl01Source}{g p1 o}(h0:SH K w (xb g s p1 o s.at_ s.seed::F))(ha1:GoT.R w (Fr K F) s (qak s p1 o)){r:(qd×qz×(List Int)×(List qg)×Int×Int)}(hF:qhQ n s=V r):RetW prog 116 [vp g] w (fun us w'=>∃S1 cs1 S2 cs2 S3 cs3,us=[oV qd cs1,oV qz (qR r.2.1),oV (List Int) cs2,oV (List qg) cs3]/\SH K w' (oG (fun _=>False) S1 [fct (r.1:qd) cs1]::oG (fun _=>False) S2 [fct (r.2.2.1:(List Int)) cs2]::oG (fun _=>False) S3 [fct (r.2.2.2.1:(List qg)) cs3]::xb g s p1 o r.2.2.2.2.1 r.2.2.2.2.2::F)):=by
 have h:=SH.frm1 h0 ha1;refine qbh func116 Z (m:=41) Z Z (zSR (qh qa h Z Z Z fun _ p h=>qh qa h Z Z Z fun _ u h=>X0 6 Z ?_));have h:=h.p [2,0,1,3] Z;obtain⟨⟨r1,i1,i2⟩,hr1,hF⟩:=qc hF;refine qa2 (cB 26 Z) (qmU (s:=s) h (show GoT.R _ _ (s:Tl01Source) _ from⟨[oS p1 s.code.length o],[vi s.at_,vi s.seed],rfl,⟨_,_,rfl,(qD (h.frG 3 0 1 Z Z Z)).1⟩,⟨[vi s.at_],[vi s.seed],rfl,rfl,rfl⟩⟩) hr1) Z Z Z Z ?_;rintro _ _ ⟨S4,_,rfl,h⟩;have hr2:=h.grpS 0 0 Z Z;obtain⟨p2,k2,p3,k3,p4,k4,p5,k5,p6,k6,rfl,_,_,_,_,_⟩:=qB hr2;replace h:SH _ _ [oG (fun _=>False) S4 [fct (r1:qd) (qu r1 p2 p3 p4 p5 p6 k2 k3 k4 k5 k6)],xb g s p1 o i1 i2,oX u zl8 36,oX p zl7 34,xf K w F s p1 o]:=h;refine qh qa h Z Z Z fun _ v h=>zs 0 h Z fun _ h=>X0 4 Z ?_;have h:=h.p [2,0,1,3,4,5] Z;obtain⟨⟨M,_,_⟩,hr4,hF⟩:=qc hF;refine qa2 (cB 30 Z) (qms (s:=(⟨s.code,i1,i2⟩:Tl01Source)) h (show GoT.R _ _ ((⟨s.code,i1,i2⟩:Tl01Source):Tl01Source) _ from⟨[oS p1 s.code.length o],[vi i1,vi i2],rfl,⟨_,_,rfl,(qD (h.frG 5 0 1 Z Z Z)).1⟩,⟨[vi i1],[vi i2],rfl,rfl,rfl⟩⟩) hr4) Z Z Z Z ?_;rintro _ _ ⟨rfl,h⟩;dsimp only at h;refine qh qa h Z Z Z fun _ y h=>zs 0 h Z fun _ h=>X0 5 Z ?_;have h:=h.p [1,0,2,3,4,5,6] Z;obtain⟨⟨_,i6,i7⟩,hr5,hF⟩:=qc hF;refine nxC h ((qD (h.frG 6 0 1 Z Z Z)).1) hr5 Z Z Z fun _ h=>X0 2 Z ?_;obtain⟨KF2,S,_,hF,Q⟩:=bindE hF;refine qau (fun e w'=>∃P i H A I B J C d a f c i8 O,KF2 (i,i8,O)=V r/\e=[(0,vp g),(2,vp p),(3,vp u),(6,vp v),(7,vp y)]/\SH K w' [oG (fun _=>False) P [fct (i:qd) (qu i H I J d f A B C a c)],xb g s p1 o i8 O,oX y (qR M) 36,oX v (qu i H I J d f A B C a c) 34,oX u zl8 36,oX p zl7 34,xf K w F s p1 o]) ?_ ?_
 .refine qk Z hF ?_ ?_<;>intro hF
  .refine X0 2 Z ?_;obtain⟨⟨r9,i21,i22⟩,Y,hF⟩:=qc hF;refine qa2 (cB 80 Z) (qe0 (s:=(⟨s.code,i6,i7⟩:Tl01Source)) (most:=5) (wild:=true) h (show GoT.R _ _ ((⟨s.code,i6,i7⟩:Tl01Source):Tl01Source) _ from⟨[oS p1 s.code.length o],[vi i6,vi i7],rfl,⟨_,_,rfl,(qD (h.frG 6 0 1 Z Z Z)).1⟩,⟨[vi i6],[vi i7],rfl,rfl,rfl⟩⟩) Y) Z Z Z Z ?_;rintro _ _ ⟨S10,_,rfl,h⟩;obtain⟨p16,k16,p17,k17,p18,k18,p19,k19,p20,k20,rfl,-,-,-,-,-⟩:=qB (h.own 0 Z);have h:=h.frzI 0 Z;replace h:SH _ _ [oG (fun _=>False) S10 [fct (r9:qd) (qu r9 p16 p17 p18 p19 p20 k16 k17 k18 k19 k20)],xb g s p1 o i21 i22,oX y (qR M) 36,oX v (qu r1 p2 p3 p4 p5 p6 k2 k3 k4 k5 k6) 34,oG (fun _=>False) S4 [fct (r1:qd) (qu r1 p2 p3 p4 p5 p6 k2 k3 k4 k5 k6)],oX u zl8 36,oX p zl7 34,xf K w F s p1 o]:=h;refine zs 3 h Z fun _ h=>qbe ?_;have h:=h.p [0,1,2,3,5,6,7] Z;cases qb hF;exact rG ⟨_,_,_,_,_,_,_,_,_,_,_,_,_,_,Q,rfl,h⟩ Z
  refine qfv ?_;have h:=h.p [3,0,1,2,4,5,6] Z;cases qb hF;exact rG ⟨_,_,_,_,_,_,_,_,_,_,_,_,_,_,Q,rfl,h⟩ Z
 rintro _ _ ⟨P,i,H,A,I,B,J,C,d,a,f,c,i8,O,hF,rfl,h⟩;subst S;refine X1 4 3 h Z ?_;have h:=h.p [1,0,2,3,4,5,6] Z;obtain⟨⟨L,i10,i11⟩,hr6,hF⟩:=qc hF;refine qa2 (cB 29 Z) (qmn (s:=(⟨s.code,i8,O⟩:Tl01Source)) (b:=i) h (show GoT.R _ _ ((⟨s.code,i8,O⟩:Tl01Source):Tl01Source) _ from⟨[oS p1 s.code.length o],[vi i8,vi O],rfl,⟨_,_,rfl,(qD (h.frG 6 0 1 Z Z Z)).1⟩,⟨[vi i8],[vi O],rfl,rfl,rfl⟩⟩) (h.frG 1 0 1 Z Z Z) hr6) Z Z Z Z ?_;rintro _ _ ⟨S6,_,rfl,h⟩;obtain⟨D,z,rfl,-⟩:=h.own 0 Z;replace h:SH _ _ [oW S6 (L:List Int) [oS D L.length z],xb g s p1 o i10 i11,oG (fun _=>False) P [fct (i:qd) (qu i H I J d f A B C a c)],oX y (qR M) 36,oX v (qu i H I J d f A B C a c) 34,oX u zl8 36,oX p zl7 34,xf K w F s p1 o]:=h;refine X0 4 Z ?_;obtain⟨KF1,R,_,hF,N⟩:=bindE hF;refine qau (fun e w'=>∃k l b1,KF1 (k,l,b1)=V r/\e=[(0,vp g),(2,vp p),(3,vp u),(6,vp v),(7,vp y),(8,oS D L.length z),(32,.bool b1)]/\SH K w' [xb g s p1 o k l,oW S6 (L:List Int) [oS D L.length z],oG (fun _=>False) P [fct (i:qd) (qu i H I J d f A B C a c)],oX y (qR M) 36,oX v (qu i H I J d f A B C a c) 34,oX u zl8 36,oX p zl7 34,xf K w F s p1 o]) ?_ ?_
 .refine X1 2 4 h Z (zcB h hF (qfF (h.grp 2 0 Z Z)) Z fun _ _ h hF=>zp1 Z (qe (t:=23) hF Z ?_ ?_))<;>intro hF
  .refine X0 8 Z (qe (t:=28) hF Z ?_ ?_)<;>intro hF
   .refine X0 3 Z ?_;have h:=h.p [1,0,2,3,4,5,6,7] Z;obtain⟨⟨_,_,_⟩,X,hF⟩:=qc hF;refine nxC h ((qD (h.frG 7 0 1 Z Z Z)).1) X Z Z Z fun _ h=>X0 4 Z ?_;cases qb hF;exact rG ⟨_,_,_,N,rfl,h⟩ Z
   refine X0 5 Z ?_;have h:=h.p [1,0,2,3,4,5,6,7] Z;cases qb hF;exact rG ⟨_,_,_,N,rfl,h⟩ Z
  refine X0 10 Z ?_;have h:=h.p [1,0,2,3,4,5,6,7] Z;cases qb hF;exact rG ⟨_,_,_,N,rfl,h⟩ Z
 rintro _ _ ⟨k,l,b1,hF,rfl,h⟩;subst R;refine qk Z hF ?_ ?_<;>intro hF
 .refine X1 2 4 h Z (zcL h hF (qpb (h.grp 2 0 Z Z)) Z fun r5 _ S7 p13 k13 h hF=>X0 3 Z (rA [] [4,5] h Z fun _ h=>M3 31 [0,1,2,3,4] 1 0 1 (h.p [4,5] Z) Z (Ao 5 63 Z ?_)));have h:=h.p [1,0,2,3,4,5,6,7,8] Z;obtain⟨⟨r6,i14,i15⟩,hr8,hF⟩:=qc hF;refine qa2 (cB 174 Z) (qiJ (a_0:=(⟨s.code,k,l⟩:Tl01Source)) (a_1:=i) h (show GoT.R _ _ ((⟨s.code,k,l⟩:Tl01Source):Tl01Source) _ from⟨[oS p1 s.code.length o],[vi k,vi l],rfl,⟨_,_,rfl,(qD (h.frG 8 0 1 Z Z Z)).1⟩,⟨[vi k],[vi l],rfl,rfl,rfl⟩⟩) (h.frG 3 0 1 Z Z Z) hr8) Z Z Z Z ?_;rintro _ _ ⟨S8,_,rfl,h⟩;obtain⟨p14,k14,rfl,-⟩:=h.own 0 Z;replace h:SH _ _ [oW S8 (r6:List qg) [oS p14 r6.length k14],xb g s p1 o i14 i15,oW S7 (r5:List Int) [oS p13 r5.length k13],oW S6 (L:List Int) [oS D L.length z],oG (fun _=>False) P [fct (i:qd) (qu i H I J d f A B C a c)],oX y (qR M) 36,oX v (qu i H I J d f A B C a c) 34,oX u zl8 36,oX p zl7 34,xf K w F s p1 o]:=h;refine Ag (h.p [5,6] Z) (Ao 6 127 Z (zs 8 h Z fun _ h=>Ag (h.p [5,6] Z) (Ao 7 255 Z (zs 7 h Z fun _ h=>G0 1023 [8,9] (h.p [5,6] Z) Z (Ad ?_)))));have T:=h;have h:=h.grpAdd 4 Z (x:=(i:qd)) (h.grpS 4 0 Z Z);have h:=h.grpKeep [0] 4 Z;have h:=h.frzI 2 Z;have h:=h.grpAdd 2 Z (x:=(r5:(List Int))) (h.grpS 2 0 Z Z);have h:=h.grpKeep [0] 2 Z;have h:=h.frzI 0 Z;have h:=h.grpAdd 0 Z (x:=(r6:(List qg))) (h.grpS 0 0 Z Z);have h:=h.grpKeep [0] 0 Z;obtain rfl:=qb hF;have h:=h.p [4,2,0,1,9] Z;exact qaR qa [oV qd (qu i H I J d f A B C a c),oV qz (qR M),oV (List Int) [oS p13 r5.length k13],oV (List qg) [oS p14 r6.length k14]] ⟨⟨_,_,_,rfl,rfl,T.box 8 Z,rfl⟩,⟨_,_,_,rfl,rfl,T.box 7 Z,rfl⟩,rfl,rfl,G⟩ ⟨_,_,_,_,_,_,rfl,SH.unfr 1 1 h0 h Z Z⟩
 refine zKS (rA [] [3,4] h Z fun _ h=>M3 31 [0,1,2,3,4] 1 0 1 (h.p [3,4] Z) Z (Ao 5 63 Z ?_));obtain⟨⟨r7,i16,i17⟩,hr9,hF⟩:=qc hF;refine qa2 (cB 174 Z) (qiJ (a_0:=(⟨s.code,k,l⟩:Tl01Source)) (a_1:=i) h (show GoT.R _ _ ((⟨s.code,k,l⟩:Tl01Source):Tl01Source) _ from⟨[oS p1 s.code.length o],[vi k,vi l],rfl,⟨_,_,rfl,(qD (h.frG 7 0 1 Z Z Z)).1⟩,⟨[vi k],[vi l],rfl,rfl,rfl⟩⟩) (h.frG 2 0 1 Z Z Z) hr9) Z Z Z Z ?_;rintro _ _ ⟨S9,_,rfl,h⟩;obtain⟨p15,k15,rfl,-⟩:=h.own 0 Z;replace h:SH _ _ [oW S9 (r7:List qg) [oS p15 r7.length k15],xb g s p1 o i16 i17,oW S6 (L:List Int) [oS D L.length z],oG (fun _=>False) P [fct (i:qd) (qu i H I J d f A B C a c)],oX y (qR M) 36,oX v (qu i H I J d f A B C a c) 34,oX u zl8 36,oX p zl7 34,xf K w F s p1 o]:=h;refine Ag (h.p [4,5] Z) (Ao 6 127 Z (zs 7 h Z fun _ h=>Ag (h.p [4,5] Z) (Ao 7 255 Z (zs 6 h Z fun _ h=>G0 1023 [8,9] (h.p [4,5] Z) Z (Ad ?_)))));have W:=h;have h:=h.grpAdd 3 Z (x:=(i:qd)) (h.grpS 3 0 Z Z);have h:=h.grpKeep [0] 3 Z;have h:=h.frzI 2 Z;have h:=h.grpAdd 2 Z (x:=(L:(List Int))) (h.grpS 2 0 Z Z);have h:=h.grpKeep [0] 2 Z;have h:=h.frzI 0 Z;have h:=h.grpAdd 0 Z (x:=(r7:(List qg))) (h.grpS 0 0 Z Z);have h:=h.grpKeep [0] 0 Z;obtain rfl:=qb hF;have h:=h.p [3,2,0,1,8] Z;exact qaR qa [oV qd (qu i H I J d f A B C a c),oV qz (qR M),oV (List Int) [oS D L.length z],oV (List qg) [oS p15 r7.length k15]] ⟨⟨_,_,_,rfl,rfl,W.box 7 Z,rfl⟩,⟨_,_,_,rfl,rfl,W.box 6 Z,rfl⟩,rfl,rfl,G⟩ ⟨_,_,_,_,_,_,rfl,SH.unfr 1 1 h0 h Z Z⟩
def qeu(a_0:Tl01Source)(a_1:qd)(i:Int):Nat->(List qm)->Int->Int->Int->Option ((List qm)×Int×Int×Int)|0,_,_,_,_=>U|n+1,d,k,l,c=>bif decide (c<(a_1.Aa.Ah.length:Int)) then((qr n (⟨a_0.code,k,l⟩:Tl01Source) 6).bind fun(h,a,b)=>bif (h==0) then V (a,b,decide ((d.length:Int)<20)) else V (a,b,false)).bind fun(m,i8,b1)=>bif b1 then(qr n (⟨a_0.code,m,i8⟩:Tl01Source) 12).bind fun(p,f,g)=>(appS d ([(⟨i,c,W64 (1+p)⟩:qm)]:List qm)).bind fun r=>qeu a_0 a_1 i n r f g (W64 (c+1)) else qeu a_0 a_1 i n d m i8 (W64 (c+1)) else V (d,k,l,c)
def qfJ(a_0:Tl01Source)(a_1:qd):Nat->(List qm)->Int->Int->Int->Option ((List qm)×Int×Int×Int)|0,_,_,_,_=>U|n+1,d,b,c,a=>bif decide (a<(a_1.Aa.Ah.length:Int)) then(qeu a_0 a_1 a n d b c (W64 (a+1))).bind fun(h,f,g,_)=>qfJ a_0 a_1 n h f g (W64 (a+1)) else V (d,b,c,a)
def qku(n:Nat)(a_0:Tl01Source)(a_1:qd):Option ((List qm)×Int×Int):=(qfJ a_0 a_1 n ([]:List qm) a_0.at_ a_0.seed 0).bind fun(b,l,m,_)=>bif decide ((b.length:Int) > 0) then(qr n (⟨a_0.code,l,m⟩:Tl01Source) (b.length:Int)).bind fun(a,i16,g)=>(qr n (⟨a_0.code,i16,g⟩:Tl01Source) 24).bind fun(f,c,d)=>bif (f==0) then(idx b a).bind fun r=>(idx b a).bind fun s=>V ((setS b a ({ s with B:=r.A })),c,d) else bif (f==1) then(qr n (⟨a_0.code,c,d⟩:Tl01Source) 3).bind fun(h,i,k)=>(idx ([0,10000,10001]:List Int) h).bind fun t=>(idx b a).bind fun u=>V ((setS b a ({ u with Bp:=t })),i,k) else bif (f==2) then(idx b a).bind fun v=>(appS b ([v]:List qm)).bind fun p=>V (p,c,d) else bif (f==3) then(idx b a).bind fun x=>V ((setS b a ({ x with B:=(a_1.Aa.Ah.length:Int) })),c,d) else V (b,c,d) else V (b,l,m)
theorem qpz{n b w F}{a_0:Tl01Source}{a p1 c}{a_1:qd}{cs1}(k:SH b w (xb a a_0 p1 c a_0.at_ a_0.seed::F))(ha1:GoT.R w (Fr b F) a_0 (qak a_0 p1 c))(z:GoT.R w (Fr b F) a_1 cs1){r:((List qm)×Int×Int)}(hF:qku n a_0 a_1=V r):RetW prog 117 [vp a,gv a_1 cs1] w (fun us w'=>∃S1 cs2,us=[oV (List qm) cs2]/\SH b w' (oW S1 (r.1:(List qm)) cs2::xb a a_0 p1 c r.2.1 r.2.2::F)):=by
 have h:=SH.frm1 k ha1;have hz1:=z;obtain⟨p2,k2,p3,k3,p4,k4,p5,k5,p6,k6,rfl,_,_,_,_,_⟩:=qB z;have h:=h.grpAdd 1 Z hz1;replace h:SH _ _ [xb a a_0 p1 c a_0.at_ a_0.seed,oG (old b) (FS F) [fct (a_1:qd) (qu a_1 p2 p3 p4 p5 p6 k2 k3 k4 k5 k6),fct (a_0:Tl01Source) (qak a_0 p1 c),same b w F]]:=h;refine qbh func117 Z (m:=92) Z Z (zSR (qA h Z Z fun _ _ h=>X0 4 Z (qn qa [] _ ([]:List qm) h z9 trivial Z fun _ _ _ h=>X1 15 1 h Z ?_)));have h:=h.grpKeep [1,2] 3 Z;obtain⟨o1,hF,hK1⟩:=qc hF;refine ql ?_;have h:=h.p [0,2,3] Z;refine rL (fun m e w'=>∃S3 g p f i i1 i2 d,qfJ a_0 a_1 m i i1 i2 d=V o1/\e=[(0,vp a),(5,oS g p f),(6,vi (a_1.Aa.Ah.length:Int)),(7,vi d)]/\SH b w' [oW S3 (i:List qm) [oS g p f],xb a a_0 p1 c i1 i2,xf b w F a_0 p1 c]) n ⟨_,_,_,_,_,_,_,_,hF,rfl,h⟩ Z ?_;rintro m1 _ _ ⟨S3,g,p,f,i,i1,i2,d,hF,rfl,h⟩;obtain rfl:=(h.sl 0 Z).2;rcases m1 with _|m1
 .cases hF
 refine X0 7 Z (qk Z hF ?_ ?_)<;>intro hF
 .refine X0 9 Z ?_;obtain⟨o2,hF,hK2⟩:=qc hF;refine ql (rL (fun m e w'=>∃S4 Y s X v i4 i5 u,qeu a_0 a_1 d m v i4 i5 u=V o2/\e=[(0,vp a),(5,oS Y s X),(6,vi (a_1.Aa.Ah.length:Int)),(7,vi d),(8,vi u)]/\SH b w' [oW S4 (v:List qm) [oS Y s X],xb a a_0 p1 c i4 i5,xf b w F a_0 p1 c]) m1 ⟨_,_,_,_,_,_,_,_,hF,rfl,h⟩ Z ?_);rintro m2 _ _ ⟨S4,Y,s,X,v,i4,i5,u,hF,rfl,h⟩;obtain rfl:=(h.sl 0 Z).2;rcases m2 with _|m2
  .cases hF
  refine X0 7 Z (qk Z hF ?_ ?_)<;>intro hF
  .refine X0 4 Z ?_;obtain⟨a3,y,_,hF,x⟩:=bindE hF;refine qau (fun e w'=>∃i7 i8 b1,a3 (i7,i8,b1)=V o2/\e=[(0,vp a),(5,oS Y v.length X),(6,vi (a_1.Aa.Ah.length:Int)),(7,vi d),(8,vi u),(34,.bool b1)]/\SH b w' [xb a a_0 p1 c i7 i8,oW S4 (v:List qm) [oS Y v.length X],xf b w F a_0 p1 c]) ?_ ?_
   .refine X0 2 Z ?_;have h:=h.p [1,0,2] Z;obtain⟨⟨_,_,_⟩,hr2,hF⟩:=qc hF;refine nxE h (h.frG 2 0 1 Z Z Z) hr2 Z Z Z fun _ h=>zp2 Z (qe (t:=30) hF Z ?_ ?_)<;>intro hF
    .refine X0 8 Z ?_;cases qb hF;exact rG ⟨_,_,_,x,rfl,h⟩ Z
    refine X0 5 Z ?_;cases qb hF;exact rG ⟨_,_,_,x,rfl,h⟩ Z
   rintro _ _ ⟨i7,i8,b1,hF,rfl,h⟩;subst y;refine qk Z hF ?_ ?_<;>intro hF
   .refine X0 5 Z ?_;obtain⟨⟨i9,_,_⟩,hr1,hF⟩:=qc hF;refine nxE h (h.frG 2 0 1 Z Z Z) hr1 Z Z Z fun _ h=>zp1 Z (r_v (qy qa [0,1,2] [.tmp 36,.tmp 37,.tmp 40] z8) Z (qn qa [.tmp 41] _ ([(⟨d,u,W64 (1+i9)⟩:qm)]:List qm) h z9 ⟨(qeS (⟨d,u,W64 (1+i9)⟩:qm)),G⟩ Z fun _ _ _ h=>?_));obtain⟨_,l,hF⟩:=qc hF;obtain⟨g1,l⟩:=qE l;refine qar qa 2 h Z (h.sl 0 Z).1 (h.sl 0 Z).2 z9 g1 l Z fun _ _ _ _ h=>X0 8 Z ?_;have h:=h.p [2,1,3] Z;exact rK ⟨_,_,_,_,_,_,_,_,hF,rfl,h⟩ Z
   refine X0 7 Z ?_;have h:=h.p [1,0,2] Z;exact rK ⟨_,_,_,_,_,_,_,_,hF,rfl,h⟩ Z
  refine qt Z ?_;cases qb hF;exact X0 6 Z (rK ⟨_,_,_,_,_,_,_,_,hK2,rfl,h⟩ Z)
 refine qt Z ?_;cases qb hF;replace hF:=hK1;refine X0 7 Z (qk Z hF ?_ ?_)<;>intro hF
 .refine X0 5 Z ?_;have h:=h.p [1,0,2] Z;obtain⟨⟨_,_,_⟩,hr3,hF⟩:=qc hF;refine nxE h (h.frG 2 0 1 Z Z Z) hr3 Z Z Z fun _ h=>X0 5 Z ?_;obtain⟨⟨_,_,_⟩,hr4,hF⟩:=qc hF;refine nxE h (h.frG 2 0 1 Z Z Z) hr4 Z Z Z fun _ h=>X0 7 Z (qk Z hF ?_ ?_)<;>intro hF
  .refine X0 5 Z ?_;obtain⟨y1,_,hF,H,_,_,_,_,hp1,hq1,hr5,hc6⟩:=(h.sl 1 Z).1.ix hF;obtain rfl:=qax hr5;refine zx hp1 hq1 ⟨H.1,qC H.2.1 (h.sl 1 Z).2⟩ Z (zp1 Z (zc 0 hc6 Z ?_));obtain⟨y2,hy2,hF,I,_,_,_,_,N,Q,hr6,hc7⟩:=(h.sl 1 Z).1.ix hF;obtain rfl:=qax hr6;refine zx N Q ⟨I.1,qC I.2.1 (h.sl 1 Z).2⟩ Z (zp1 Z (qav qa 1 1 ({ y2 with B:=y1.A }:qm) h Z hy2 N Q (qeS y2) hc7 Z Z Z (qeS ({ y2 with B:=y1.A })) Z Z Z fun _ h=>X0 7 Z ?_));obtain rfl:=qb hF;have h:=h.p [1,0,2] Z;exact qaR qa [oV (List qm) [oS g i.length f]] ⟨rfl,G⟩ ⟨_,_,rfl,SH.unfr 1 1 k h Z Z⟩
  refine X0 5 Z (qk Z hF ?_ ?_)<;>intro hF
  .refine X0 3 Z (qn qa [.const (vi (0)),.const (vi (10000)),.const (vi (10001))] _ ([0,10000,10001]:List Int) h z9 ⟨rfl,rfl,rfl,G⟩ Z fun _ _ _ h=>zp1 Z ?_);have h:=h.p [1,0,2,3] Z;obtain⟨⟨_,_,_⟩,hr7,hF⟩:=qc hF;refine nxE h (h.frG 3 0 1 Z Z Z) hr7 Z Z Z fun _ h=>?_;obtain⟨y3,_,hF,J,_,_,_,_,hp3,hq3,rfl,hc9⟩:=(h.sl 1 Z).1.ix hF;refine zx hp3 hq3 ⟨J.1,qC J.2.1 (h.sl 1 Z).2⟩ Z (zc 0 hc9 Z ?_);obtain⟨y4,hy4,hF,K,_,_,_,_,O,R,hr9,A⟩:=(h.sl 2 Z).1.ix hF;obtain rfl:=qax hr9;refine zx O R ⟨K.1,qC K.2.1 (h.sl 2 Z).2⟩ Z (zp1 Z (qav qa 2 2 ({ y4 with Bp:=y3 }:qm) h Z hy4 O R (qeS y4) A Z Z Z (qeS ({ y4 with Bp:=y3 })) Z Z Z fun _ h=>X0 7 Z ?_));obtain rfl:=qb hF;have h:=h.p [2,0,3] Z;exact qaR qa [oV (List qm) [oS g i.length f]] ⟨rfl,G⟩ ⟨_,_,rfl,SH.unfr 1 1 k h Z Z⟩
  refine X0 5 Z (qk Z hF ?_ ?_)<;>intro hF
  .refine X0 4 Z ?_;obtain⟨y5,_,hF,L,_,_,_,_,hp5,hq5,T,C⟩:=(h.sl 1 Z).1.ix hF;obtain rfl:=qax T;refine zx hp5 hq5 ⟨L.1,qC L.2.1 (h.sl 1 Z).2⟩ Z (zc 0 C Z (qn qa [.tmp 81] _ ([y5]:List qm) h z9 ⟨(qeS y5),G⟩ Z fun _ _ _ h=>?_));obtain⟨x4,o,hF⟩:=qc hF;obtain⟨g2,o⟩:=qE o;refine qar qa 2 h Z (h.sl 0 Z).1 (h.sl 0 Z).2 z9 g2 o Z fun _ p14 k10 _ h=>X0 8 Z ?_;obtain rfl:=qb hF;have h:=h.p [2,1,3] Z;exact qaR qa [oV (List qm) [oS p14 x4.length k10]] ⟨rfl,G⟩ ⟨_,_,rfl,SH.unfr 1 1 k h Z Z⟩
  refine X0 5 Z (qk Z hF ?_ ?_)<;>intro hF
  .refine X0 4 Z ?_;obtain⟨y6,hy6,hF,M,_,_,_,_,P,S,W,D⟩:=(h.sl 1 Z).1.ix hF;obtain rfl:=qax W;refine zx P S ⟨M.1,qC M.2.1 (h.sl 1 Z).2⟩ Z (zp1 Z (qav qa 1 1 ({ y6 with B:=(a_1.Aa.Ah.length:Int) }:qm) h Z hy6 P S (qeS y6) D Z Z Z (qeS ({ y6 with B:=(a_1.Aa.Ah.length:Int) })) Z Z Z fun _ h=>X0 7 Z ?_));obtain rfl:=qb hF;have h:=h.p [1,0,2] Z;exact qaR qa [oV (List qm) [oS g i.length f]] ⟨rfl,G⟩ ⟨_,_,rfl,SH.unfr 1 1 k h Z Z⟩
  refine X0 7 Z ?_;obtain rfl:=qb hF;have h:=h.p [1,0,2] Z;exact qaR qa [oV (List qm) [oS g i.length f]] ⟨rfl,G⟩ ⟨_,_,rfl,SH.unfr 1 1 k h Z Z⟩
 refine X0 6 Z ?_;obtain rfl:=qb hF;exact qaR qa [oV (List qm) [oS g i.length f]] ⟨rfl,G⟩ ⟨_,_,rfl,SH.unfr 1 1 k h Z Z⟩
def qhR(n:Nat)(s:Tl01Source):Option (qd×qz×(List Int)×(List qg)×(List qm)×Int×Int):=(qhQ n (⟨s.code,s.at_,s.seed⟩:Tl01Source)).bind fun(r1,f,g,h,a,b)=>(qku n (⟨s.code,a,b⟩:Tl01Source) r1).bind fun(i,c,d)=>V (r1,f,g,h,i,c,d)
theorem qm0{n o w F}{s:Tl01Source}{a p1 b}(Y:SH o w (xb a s p1 b s.at_ s.seed::F))(J:GoT.R w (Fr o F) s (qak s p1 b)){r:(qd×qz×(List Int)×(List qg)×(List qm)×Int×Int)}(hF:qhR n s=V r):RetW prog 54 [vp a] w (fun us w'=>∃S1 cs1 S2 cs2 S3 cs3 S4 cs4,us=[oV qd cs1,oV qz (qR r.2.1),oV (List Int) cs2,oV (List qg) cs3,oV (List qm) cs4]/\SH o w' (oG (fun _=>False) S1 [fct (r.1:qd) cs1]::oG (fun _=>False) S2 [fct (r.2.2.1:(List Int)) cs2]::oG (fun _=>False) S3 [fct (r.2.2.2.1:(List qg)) cs3]::oG (fun _=>False) S4 [fct (r.2.2.2.2.1:(List qm)) cs4]::xb a s p1 b r.2.2.2.2.2.1 r.2.2.2.2.2.2::F)):=by
 have h:=SH.frm1 Y J;refine qbh func54 Z (m:=25) Z Z (zSR (qh qa h Z Z Z fun _ f h=>qh qa h Z Z Z fun _ g h=>X0 7 Z ?_));have h:=h.p [2,0,1,3] Z;obtain⟨⟨r1,r2,c,d,k,l⟩,K,hF⟩:=qc hF;refine qa2 (cB 116 Z) (qnm (s:=s) h (show GoT.R _ _ (s:Tl01Source) _ from⟨[oS p1 s.code.length b],[vi s.at_,vi s.seed],rfl,⟨_,_,rfl,(qD (h.frG 3 0 1 Z Z Z)).1⟩,⟨[vi s.at_],[vi s.seed],rfl,rfl,rfl⟩⟩) K) Z Z Z Z ?_;rintro _ _ ⟨T,_,W,_,X,_,rfl,h⟩;have L:=h.grpS 0 0 Z Z;obtain⟨y,p,z,k3,A,t,B,u,C,v,rfl,_,_,_,_,_⟩:=qB L;have M:=h.grpS 1 0 Z Z;obtain⟨R,P,rfl,_⟩:=M;have N:=h.grpS 2 0 Z Z;obtain⟨S,Q,rfl,_⟩:=N;replace h:SH _ _ [oG (fun _=>False) T [fct (r1:qd) (qu r1 y z A B C p k3 t u v)],oG (fun _=>False) W [fct (c:(List Int)) [oS R c.length P]],oG (fun _=>False) X [fct (d:(List qg)) [oS S d.length Q]],xb a s p1 b k l,oX g zl8 36,oX f zl7 34,xf o w F s p1 b]:=h;refine zp5 Z (qh qa h Z Z Z fun _ H h=>qh qa h Z Z Z fun _ I h=>zs 1 h Z fun _ h=>zs 0 h Z fun _ h=>X0 4 Z (rA [] [0,1] h Z fun _ h=>M3 63 [0,1,2,3,4,5] 1 0 1 (h.p [0,1] Z) Z (Ao 6 127 Z ?_)));have h:=h.p [5,0,1,2,3,4,6,7,8] Z;obtain⟨⟨D,i3,i4⟩,O,hF⟩:=qc hF;refine qa2 (cB 117 Z) (qpz (a_0:=(⟨s.code,k,l⟩:Tl01Source)) (a_1:=r1) h (show GoT.R _ _ ((⟨s.code,k,l⟩:Tl01Source):Tl01Source) _ from⟨[oS p1 s.code.length b],[vi k,vi l],rfl,⟨_,_,rfl,(qD (h.frG 8 0 1 Z Z Z)).1⟩,⟨[vi k],[vi l],rfl,rfl,rfl⟩⟩) (h.frG 3 0 1 Z Z Z) O) Z Z Z Z ?_;rintro _ _ ⟨S8,_,rfl,h⟩;obtain⟨p9,e,rfl,-⟩:=h.own 0 Z;replace h:SH _ _ [oW S8 (D:List qm) [oS p9 D.length e],xb a s p1 b i3 i4,oX I (qR r2) 36,oX H (qu r1 y z A B C p k3 t u v) 34,oG (fun _=>False) T [fct (r1:qd) (qu r1 y z A B C p k3 t u v)],oG (fun _=>False) W [fct (c:(List Int)) [oS R c.length P]],oG (fun _=>False) X [fct (d:(List qg)) [oS S d.length Q]],oX g zl8 36,oX f zl7 34,xf o w F s p1 b]:=h;refine Ag (h.p [2,3] Z) (Ao 7 255 Z (zs 8 h Z fun _ h=>Ag (h.p [2,3] Z) (Ao 8 511 Z (zs 7 h Z fun _ h=>G0 4095 [9,10,11] (h.p [2,3] Z) Z (Ad ?_)))));have i:=h;have h:=h.grpAdd 4 Z (x:=(r1:qd)) (h.grpS 4 0 Z Z);have h:=h.grpKeep [0] 4 Z;have h:=h.grpAdd 5 Z (x:=(c:(List Int))) (h.grpS 5 0 Z Z);have h:=h.grpKeep [0] 5 Z;have h:=h.grpAdd 6 Z (x:=(d:(List qg))) (h.grpS 6 0 Z Z);have h:=h.grpKeep [0] 6 Z;have h:=h.frzI 0 Z;have h:=h.grpAdd 0 Z (x:=(D:(List qm))) (h.grpS 0 0 Z Z);have h:=h.grpKeep [0] 0 Z;obtain rfl:=qb hF;have h:=h.p [4,5,6,0,1,9] Z;exact qaR qa [oV qd (qu r1 y z A B C p k3 t u v),oV qz (qR r2),oV (List Int) [oS R c.length P],oV (List qg) [oS S d.length Q],oV (List qm) [oS p9 D.length e]] ⟨⟨_,_,_,rfl,rfl,i.box 8 Z,rfl⟩,⟨_,_,_,rfl,rfl,i.box 7 Z,rfl⟩,rfl,rfl,rfl,G⟩ ⟨_,_,_,_,_,_,_,_,rfl,SH.unfr 1 1 Y h Z Z⟩
def qfA(code:(List (IntK .u8))):Nat->Int->Int->Option (Int×Int)|0,_,_=>U|n+1,b,a=>(bif decide (a<(code.length:Int)) then V (decide (a<64)) else V false).bind fun b1=>bif b1 then(idx code a).bind fun c=>qfA code n ((W64 ((W64 (b*31))+(W64 c.val))).tmod 2147483647) (W64 (a+1)) else V (b,a)
def qmB(n:Nat)(code:(List (IntK .u8))):Option (Option Tl01Source):=(qfA code n 12345 0).bind fun(a,_)=>V (V (⟨code,0,a⟩:Tl01Source))
theorem qpa{n w}{code:(List (IntK .u8))}{cs1}(p:Ro w code cs1){r:(Option Tl01Source)}(F:qmB n code=V r):RetZ prog 25 [gv code cs1] w (fun A L=>∃b g,r=(V (⟨code,0,g⟩:Tl01Source))/\A=[oV (Option Tl01Source) [vp b]]/\L=[oX b (cs1++[vi 0,vi g]) 147]):=by
 obtain⟨p1,k,rfl,s1⟩:=p;refine qjZ func25 Z (m:=34) Z Z (fun h=>?_);refine X0 7 Z (r_v (qy qa [0,2] [.tmp 5,.const (vi (12345))] z8) Z (qA h Z Z fun _ a h=>X0 7 Z ?_));obtain⟨o1,F,o⟩:=qc F;refine ql (rL (fun m e w'=>∃f i,qfA code m f i=V o1/\e=[(0,oS p1 code.length k),(3,vp a),(4,vi i)]/\SH w w' [oX a [oS p1 code.length k,vi 0,vi f] 147]) n ⟨_,_,F,rfl,h⟩ Z ?_);rintro y _ _ ⟨f,i,F,rfl,h⟩;rcases y with _|y
 .cases F
 refine zSS ?_;obtain⟨l,d,_,F,c⟩:=bindE F;refine qau (fun e w'=>∃b1,l b1=V o1/\e=[(0,oS p1 code.length k),(3,vp a),(4,vi i),(15,.bool b1)]/\SH w w' [oX a [oS p1 code.length k,vi 0,vi f] 147]) ?_ ?_
 .refine X0 6 Z (qe (t:=12) F Z ?_ ?_)<;>intro F
  .refine X0 6 Z ?_;cases qb F;exact rG ⟨_,c,rfl,h⟩ Z
  refine X0 4 Z ?_;cases qb F;exact rG ⟨_,c,rfl,h⟩ Z
 rintro _ _ ⟨b1,F,rfl,h⟩;subst d;refine qk Z F ?_ ?_<;>intro F
 .refine zKSB (rA [15] [0] h Z fun _ h=>M1 255 [0,1,2,3,4,5,6,7] 0 (h.p [0] Z) Z ?_);obtain⟨_,_,F,u,_,_,_,_,v,x,rfl,s⟩:=s1.ix F;exact Ae 8 511 v x u (h.p [0] Z) Z (Al 9 1023 0 s (h.p [0] Z) Z (M0 8191 [10,11,12] (h.p [0] Z) Z (Ao 13 16383 Z (zp1 Z (G0 32767 [14] (h.p [0] Z) Z (Ao 15 65535 Z (zs 0 h Z fun _ h=>qaS (fun z=>absurd (z 15 (by decide)) (by decide)) (Ad (X0 6 Z (rK ⟨_,_,F,rfl,h⟩ Z))))))))))
 refine qt Z ?_;cases qb F;have F:=o;refine X0 5 Z ?_;obtain rfl:=qb F;exact qkQ qa [oV (Option Tl01Source) [vp a]] h ⟨rfl,G⟩ ⟨a,f,rfl,rfl,rfl⟩
def qeJ(n:Nat)(code:(List (IntK .u8))):Option (qd×qz×(List Int)×(List qg)×(List qm)):=(qmB n code).bind fun o=>match o with|some (⟨_,_,a⟩)=>((qhR n (⟨code,0,a⟩:Tl01Source)).bind fun(b,c,d,f,g,_,_)=>V (b,c,d,f,g))|_=>U
theorem qk6{A}(hA:∀b,A b->old w b){code:(List (IntK .u8))}(p:GoT.R w A code cs1){r:(qd×qz×(List Int)×(List qg)×(List qm))}(F:qeJ n code=V r):RetG prog 17 [gv code cs1] w A r:=by
 obtain⟨p1,Y,rfl,s1⟩:=p;have hg:=Rg.start hA;refine qiW func17 Z (m:=17) Z Z (fun h=>?_);refine zSR (qh qa h Z Z Z fun _ g h=>qh qa h Z Z Z fun _ i h=>X0 7 Z ?_);obtain⟨_,t,F⟩:=qc F;refine qmH (cB 25 Z) (qpa ⟨_,_,rfl,(h.oldS (s1.mono hg.old))⟩ t) Z Z Z Z ?_;rintro _ _ _ B ⟨k,X,rfl,rfl,rfl⟩;replace h:SH _ _ [oX k [oS p1 code.length Y,vi 0,vi X] 147,oX i zl8 36,oX g zl7 34]:=SH.appendN h B ⟨fun _ h=>h,G⟩;refine X0 5 Z ?_;obtain⟨⟨a,o,c,d,f,i2,i3⟩,u,F⟩:=qc F;refine qa2 (cB 54 Z) (qm0 (s:=(⟨code,0,X⟩:Tl01Source)) h (qqv _ (h.frOldS (s1.mono hg.old))) u) Z Z Z Z ?_;rintro _ _ ⟨S1,_,S2,_,e,_,S4,_,rfl,h⟩;have v:=h.grpS 0 0 Z Z;obtain⟨N,D,O,k3,P,H,Q,I,R,J,rfl,_,_,_,_,_⟩:=qB v;have x:=h.grpS 1 0 Z Z;obtain⟨S,K,rfl,_⟩:=x;have y:=h.grpS 2 0 Z Z;obtain⟨T,L,rfl,_⟩:=y;have z:=h.grpS 3 0 Z Z;obtain⟨W,M,rfl,_⟩:=z;replace h:SH _ _ [oG (fun _=>False) S1 [fct (a:qd) (qu a N O P Q R D k3 H I J)],oG (fun _=>False) S2 [fct (c:(List Int)) [oS S c.length K]],oG (fun _=>False) e [fct (d:(List qg)) [oS T d.length L]],oG (fun _=>False) S4 [fct (f:(List qm)) [oS W f.length M]],oX k [oS p1 code.length Y,vi i2,vi i3] 147,oX i zl8 36,oX g zl7 34]:=h;refine zp5 Z (zs 6 h Z fun _ h=>zs 5 h Z fun _ h=>X0 4 Z ?_);obtain rfl:=qb F;have C:GoRs.Rs (ρ:=(qd×qz×(List Int)×(List qg)×(List qm))) h.wc (reg A w h.wc) (a,o,c,d,f) [oV qd (qu a N O P Q R D k3 H I J),oV qz (qR o),oV (List Int) [oS S c.length K],oV (List qg) [oS T d.length L],oV (List qm) [oS W f.length M]]:=⟨_,_,rfl,(hg.outR h (GoT.mono (Rg.grpR 0 0 h Z Z) (fun _ hb=>hb.elim (fun h=>h.elim) .inr))),⟨_,_,rfl,(hg.outR h (qiT o)),⟨_,_,rfl,(hg.outR h (GoT.mono (Rg.grpR 1 0 h Z Z) (fun _ hb=>hb.elim (fun h=>h.elim) .inr))),⟨_,_,rfl,(hg.outR h (GoT.mono (Rg.grpR 2 0 h Z Z) (fun _ hb=>hb.elim (fun h=>h.elim) .inr))),⟨_,rfl,(hg.outR h (GoT.mono (Rg.grpR 3 0 h Z Z) (fun _ hb=>hb.elim (fun h=>h.elim) .inr)))⟩⟩⟩⟩⟩;have l:=h;have h:=h.p [4,5,6] Z;exact qlK qa (ρ:=(qd×qz×(List Int)×(List qg)×(List qm))) (r:=(a,o,c,d,f)) [oV qd (qu a N O P Q R D k3 H I J),oV qz (qR o),oV (List Int) [oS S c.length K],oV (List qg) [oS T d.length L],oV (List qm) [oS W f.length M]] h ⟨⟨_,_,_,rfl,rfl,l.box 6 Z,rfl⟩,⟨_,_,_,rfl,rfl,l.box 5 Z,rfl⟩,rfl,rfl,rfl,G⟩ C
end Go.Fw


namespace Go.Fw
open Go
structure qmm(x:qaB):Prop where
 Ba:okS x.Ba
 Bs:okI x.Bs
 Bl:okI x.Bl
 Bo:okT x.Bo
structure qi1(x:qS):Prop where
 Bj:(okL okI) x.Bj
 Be:(okL okI) x.Be
 Az:(okL okI) x.Az
structure qmo(x:qaF):Prop where
 Au:okI x.Au
 Bd:okI x.Bd
 To:okI x.To
 Bk:okI x.Bk
 Bn:(okL qi1) x.Bn
 Av:(okL qi1) x.Av
structure qnJ(x:qL):Prop where
 Ba:okS x.Ba
 Au:okI x.Au
 Ay:(okL qmm) x.Ay
 Ar:(okL qmo) x.Ar
 Bm:(okL okI) x.Bm
 Bx:okI x.Bx
 Bt:okI x.Bt
structure qhn(x:qF):Prop where
 Ap:(okL qnJ) x.Ap
structure qpM(x:qJ):Prop where
 Ba:okS x.Ba
 Bq:okI x.Bq
 Ah:(okL okI) x.Ah
structure qsg(x:qaD):Prop where
 Ba:okS x.Ba
 Bs:okI x.Bs
 Bw:okI x.Bw
structure qkE(x:qj):Prop where
 Ab:(okL qpM) x.Ab
 Ah:(okL okS) x.Ah
 Ai:(okL qsg) x.Ai
structure qoV(x:qah):Prop where
 Aj:(okL okI) x.Aj
 Br:(okL okI) x.Br
 Bl:(okL okI) x.Bl
 Bb:(okL okI) x.Bb
structure qg1(x:qd):Prop where
 Am:qhn x.Am
 Aa:qkE x.Aa
 Ac:(okL qoV) x.Ac
structure qrR(x:qz):Prop where
 Ba:okS x.Ba
 Bc:okI x.Bc
 Bg:okI x.Bg
 Bf:okI x.Bf
 Bh:okI x.Bh
structure qqg(x:qf):Prop where
 Ak:okI x.Ak
 As:okI x.As
structure qiN(x:qg):Prop where
 Bi:okI x.Bi
 Af:qqg x.Af
 Av:qqg x.Av
structure qfO(x:qm):Prop where
 A:okI x.A
 B:okI x.B
 Bp:okI x.Bp
structure qym(x:qi):Prop where
 Aq:(okL okT) x.Aq
 Af:(okL qqg) x.Af
 Av:(okL qqg) x.Av
structure qv9(x:qoZ):Prop where
 Cd:okI x.Cd
 Ca:okI x.Ca
structure qsl(x:qjA):Prop where
 Bd:okI x.Bd
 To:okI x.To
 Bn:okI x.Bn
 Cb:okI x.Cb
structure qv6(x:qoy):Prop where
 Bz:(okL qv9) x.Bz
 Cc:(okL qsl) x.Cc
end Go.Fw


namespace Go.Fw
open Go
set_option maxRecDepth 100000
theorem qc1{n:Nat}{x lo hi:Int}:qaA n x lo hi=V (inI x lo hi):=by
 simp only[qaA,qnu,qon];rfl
theorem qdR{n:Nat}{x lo hi:Int}:qa3 n x lo hi=V (inI x lo hi):=by
 simp only[qa3,qnu,qon];rfl
def bt(s:ByteArray)(j:Nat):Nat:=(s.data.toList.getD j 0).toNat
theorem qv7{s:ByteArray}{j:Nat}(h:j<s.size):atS s (j:Int)=V (bt s j:Int):=by
 have a:j<s.data.size:=h;have b:j<s.data.toList.length:=by simpa using a
 unfold atS;rw[if_pos (by omega),jq];have:s[j]?=V (s.data.toList.getD j 0):=by
  rw[getElem?_pos s j h,jx,jn b]
  rfl
 rw[this]
 rfl
def letB(b:Nat):Bool:=decide (97<=b)&&decide (b<=122)
def digB(b:Nat):Bool:=decide (48<=b)&&decide (b<=57)
def chB(s:ByteArray)(j:Nat):Bool:=letB (bt s j) || digB (bt s j)&&decide (0<j)
def nameB(s:ByteArray):Bool:=(decide (1<=s.size)&&decide (s.size<=8))&&allN (chB s) s.size
theorem qmx{s:ByteArray}(h:okS s):Ev (fun n=>qgJ n s) (nameB s):=by
 unfold okS at h;have d:Ev (fun n=>qew s n 0) (bif allN (chB s) s.size then .nxt (s.size:Int) else .ret false):=by
  refine qeo ?_ (fun j a X f=>?_)
  .exact Ev.succ (by simp only[qew,qq (je _),cond_false];exact .done)
  .refine Ev.succ ?_;simp only[qew,qp a,cond_true,qv7 a,jd,qnu,qon,wS j];have e1:(decide ((bt s j:Int)>=97)&&decide ((bt s j:Int)<=122))=letB (bt s j):=by unfold letB;rw[jj];simp;omega
   have b:(decide ((bt s j:Int)>=48)&&decide ((bt s j:Int)<=57))=digB (bt s j):=by unfold digB;rw[jj];simp;omega
   have c:decide ((j:Int) > 0)=decide (0<j):=by rw[jj];simp
   rw[e1,b,c];unfold chB;cases letB (bt s j)<;>cases digB (bt s j)<;>cases decide (0<j)<;>first|exact f|exact .done
 unfold qgJ;refine Ev.cast (r:=bif allN (chB s) s.size then(decide (1<=s.size)&&decide (s.size<=8)) else false) (Ev.bindB d (fun _=>?_) (fun _=>.done)) ?_
 .simp only[qnu,qon];exact Ev.now (by congr 1;rw[jj];simp;omega)
 .unfold nameB;cases allN (chB s) s.size<;>simp
def cutset:List UInt8:=[97,98,99,100,101,102,103,104,105,106,107,108,109,110,111,112,113,114,115,116,117,118,119,120,121,122,48,49,50,51,52,53,54,55,56,57]
theorem qqR(b:UInt8):cutset.contains b=(letB b.toNat || digB b.toNat):=by
 have a:(List.range 256).all (fun m=>cutset.contains (UInt8.ofNat m)==(letB (UInt8.ofNat m).toNat || digB (UInt8.ofNat m).toNat))=true:=by kernel_rfl
 have h:=List.all_eq_true.1 a b.toNat (List.mem_range.2 b.toNat_lt);rw[beq_iff_eq] at h;simpa using h
def letters:List UInt8:=[97,98,99,100,101,102,103,104,105,106,107,108,109,110,111,112,113,114,115,116,117,118,119,120,121,122]
theorem qtX(m:Nat)(b:m<256):decide ((Lib.indexByte letters m.toUInt8)>=0)=letB m:=by
 have a:(List.range 256).all (fun m=>decide ((Lib.indexByte letters m.toUInt8)>=0)==letB m)=true:=by kernel_rfl
 have h:=List.all_eq_true.1 a m (List.mem_range.2 b);rwa [beq_iff_eq] at h
theorem qrc{α:Type}{p:α->Bool}{l:List α}:l.dropWhile p=[]↔∀x,x∈l->p x=true:=by
 induction l with
 |nil=>simp
 |cons y l ih=>
  rw[List.dropWhile_cons];by_cases h:p y=true
  .rw[if_pos h,ih];simp[h]
  .rw[if_neg h];simp[h]
theorem qrb{α:Type}{p:α->Bool}{l:List α}(h:∀x,x∈l.dropWhile p->p x=true):∀x,x∈l->p x=true:=by
 induction l with
 |nil=>simp
 |cons y l ih=>
  rw[List.dropWhile_cons] at h;by_cases b:p y=true
  .rw[if_pos b] at h;intro x a;rcases List.mem_cons.1 a with rfl|a
   .exact b
   .exact ih h x a
  .rw[if_neg b] at h;exact h
theorem qvy{l cs:List UInt8}:Lib.trimS l cs=[]↔∀x,x∈l->cs.contains x=true:=by
 unfold Lib.trimS Lib.trimRightS Lib.trimLeftS;rw[qrc];constructor
 .intro h x a;exact qrb (p:=(cs.contains ·)) (l:=l.reverse) (fun y b=>h y (List.mem_reverse.2 b)) x (List.mem_reverse.2 a)
 .intro h x a;exact h x (List.mem_reverse.1 ((List.dropWhile_suffix _).subset (List.mem_reverse.1 a)))
theorem qij{a b:ByteArray}:(a.toList==b.toList)=decide (a=b):=by
 rw[jj,beq_iff_eq,decide_eq_true_iff];constructor
 .intro h;exact ByteArray.ext (by have:=congrArg List.toArray h;simpa [ByteArray.toList_eq] using this)
 .rintro rfl;rfl

theorem qxD{s:ByteArray}{j:Nat}(h:j<s.data.toList.length):bt s j=(s.data.toList[j]).toNat:=by
 unfold bt;rw[jx,jn h];rfl
theorem qyx{s:ByteArray}{j:Nat}:bt s j<256:=UInt8.toNat_lt _
theorem qo7{n:Nat}{s:ByteArray}(h:okS s):qiP n s=V (nameB s):=by
 unfold okS at h;have z:s.data.toList.length=s.size:=by simp
 simp only[qiP,qdR,jd];cases hI:inI (s.size:Int) 1 8 with
 |false=>
  have k:(decide (1<=s.size)&&decide (s.size<=8))=false:=by rw[qvk] at hI;rw[Bool.and_eq_false_iff,decide_eq_false_iff_not,decide_eq_false_iff_not];omega
  simp[nameB,k]
 |true=>
  have k:1<=s.size/\s.size<=8:=by rw[qaQ] at hI;omega
  have t:qjp n s (⟨#[97,98,99,100,101,102,103,104,105,106,107,108,109,110,111,112,113,114,115,116,117,118,119,120,121,122,48,49,50,51,52,53,54,55,56,57]⟩:ByteArray)=V ⟨(Lib.trimS s.data.toList cutset).toArray⟩:=by
   unfold qjp;rw[if_pos ⟨by omega,by decide,by decide⟩]
   rfl
  rw[t];simp only[cond_true,jd];have p:(((⟨(Lib.trimS s.data.toList cutset).toArray⟩:ByteArray).toList==(⟨#[]⟩:ByteArray).toList))=allN (fun j=>letB (bt s j) || digB (bt s j)) s.size:=by
   rw[qij,jj,decide_eq_true_iff,qai];have:((⟨(Lib.trimS s.data.toList cutset).toArray⟩:ByteArray)=⟨#[]⟩)↔Lib.trimS s.data.toList cutset=[]:=by
    constructor
    .intro i;have:=congrArg (fun x:ByteArray=>x.data.toList) i;simpa using this
    .intro i;rw[i]
   rw[this,qvy];constructor
   .intro m j a;have c:j<s.data.toList.length:=by omega
    have:=m _ (jo c);rw[qqR,<-qxD c] at this;exact this
   .intro m x u;obtain⟨j,a,rfl⟩:=Jb u;have:=m j (by omega);rw[qqR,<-qxD a];exact this
  rw[p];have o:atS s 0=V (bt s 0:Int):=qv7 (j:=0) (by omega);have g:decide (Lib.indexByte letters (bt s 0:Int).toNat.toUInt8>=0)=letB (bt s 0):=by
   rw[jq];exact qtX _ qyx
  have r:∀b:Bool,(bif b then(atS s 0).bind fun y=>(qhe n (⟨#[97,98,99,100,101,102,103,104,105,106,107,108,109,110,111,112,113,114,115,116,117,118,119,120,121,122]⟩:ByteArray) (⟨y⟩:IntK .u8)).bind fun v=>V (decide (v>=0)) else V false)=V (b&&letB (bt s 0)):=by
   intro b;cases b with
   |false=>rfl
   |true=>
    rw[o];simp only[cond_true,jd,qhe,jy];exact congrArg V g
  rw[r]
  congr 1
  have l:(decide (1<=s.size)&&decide (s.size<=8))=true:=by simp[k]
  unfold nameB;rw[l,jy,jj,jf,qai,qai];simp only[chB,Bool.or_eq_true,jf,decide_eq_true_eq];constructor
  .rintro⟨d,f⟩ j a;rcases Nat.eq_zero_or_pos j with rfl|hp
   .exact .inl f
   .exact(d j a).imp id (fun h=>⟨h,hp⟩)
  .intro d;refine⟨fun j a=>(d j a).imp id (fun h=>h.1),?_⟩;rcases d 0 (by omega) with f|f
   .exact f
   .omega
def strAt(xs:List ByteArray)(j:Nat):ByteArray:=xs.getD j ByteArray.empty
theorem qoN{xs:List ByteArray}{j:Nat}(h:j<xs.length):strAt xs j=xs[j]:=by simp[strAt,h]
theorem qqd{xs:List ByteArray}{j:Nat}(h:j<xs.length):idx xs (j:Int)=V (strAt xs j):=by rw[qaZ h,qoN h]
def neB(xs:List ByteArray)(j i:Nat):Bool:=!decide (strAt xs i=strAt xs j)
def namesB(xs:List ByteArray):Bool:=allN (fun j=>nameB (strAt xs j)&&allN (neB xs j) j) xs.length
theorem qm3{xs:List ByteArray}(h:okL okS xs):Ev (fun n=>qg6 n xs) (namesB xs):=by
 have f:=h.len;have c:∀j,j<xs.length->Ev (fun n=>qe5 xs (j:Int) n 0) (bif allN (neB xs j) j then .nxt (j:Int) else .ret false):=by
  intro j a;refine qeo ?_ (fun i hi X d=>Ev.succ ?_)
  .exact Ev.succ (by simp only[qe5,qq (je _),cond_false];exact .done)
  .simp only[qe5,qp hi,cond_true,qqd (show i<xs.length by omega),qqd a,jd,qij,wS i];unfold neB;cases decide (strAt xs i=strAt xs j)
   .exact d
   .exact .done
 have b:Ev (fun n=>qe9 xs n 0) (bif namesB xs then .nxt (xs.length:Int) else .ret false):=by
  refine qeo ?_ (fun j a X d=>Ev.succ ?_)
  .exact Ev.succ (by simp only[qe9,qq (je _),cond_false];exact .done)
  .simp only[qe9,qp a,cond_true,qqd a,jd,wS j];refine Ev.bind (qmx (by rw[qoN a];exact h.at a)) ?_;cases nameB (strAt xs j)
   .exact .done
   .refine Ev.ff Z (Ev.bind (c j a) ?_);cases allN (neB xs j) j
    .exact .done
    .exact d
 unfold qg6;refine Ev.bind b ?_;cases namesB xs<;>exact .done
theorem qsN{xs:List ByteArray}{v:ByteArray}(c:xs.length<=1048576):Ev (fun n=>qgf n xs v) (ixL (fun x=>decide (v=x)) xs):=
 qfj (fin:=(xs.length:Int)) (Lf:=qcj xs v) (pf:=fun _ x=>V (decide (v=x))) (fun _ _=>.done)
  (fun n=>by simp only[qcj,qq (je _),cond_false])
  (fun n j x a=>by
   have b:=(List.getElem?_eq_some_iff.1 a).1;simp only[qcj,qp b,cond_true,qgC a,jd,qij,wS j])
  (fun n=>by unfold qgf;congr 1;funext o;cases o<;>rfl)
theorem qqW{xs:List ByteArray}{v:ByteArray}(a:xs.length<=1048576):Ev (fun n=>qeP n xs v) (xs.any fun x=>decide (v=x)):=by
 unfold qeP;exact Ev.bind (qsN a) (Ev.now (by rw[qmC]))
theorem qj4{xs:List ByteArray}(h:okL okS xs):Ev (fun n=>qeR n xs) (namesB xs):=by
 have g:=h.len;have b:Ev (fun n=>qeY xs n 0) (bif namesB xs then .nxt (xs.length:Int) else .ret false):=by
  refine qeo ?_ (fun j a X c=>Ev.succ ?_)
  .exact Ev.succ (by simp only[qeY,qq (je _),cond_false];exact .done)
  .have f:subS xs 0 (j:Int)=V (xs.take j):=by
    unfold subS;rw[if_pos ⟨by omega,by omega,by omega⟩];simp
   simp only[qeY,qp a,cond_true,qqd a,jd,f,qo7 (show okS (strAt xs j) by rw[qoN a];exact h.at a),wS j];cases nameB (strAt xs j)
   .exact .done
   .refine Ev.ff Z (Ev.bind (qqW (by simp;omega)) ?_);have:((xs.take j).any fun x=>decide (strAt xs j=x)) = !allN (neB xs j) j:=by
     rw[qs9 (d:=ByteArray.empty)]
     congr 1
     rw[jM,Nat.min_eq_left (by omega)];refine qiD (fun i hi=>?_);unfold neB strAt
     congr 1
     have:(xs.take j).getD i ByteArray.empty=xs.getD i ByteArray.empty:=by simp[jx,hi]
     rw[this];exact decide_eq_decide.2 eq_comm
    rw[this];cases allN (neB xs j) j
    .exact .done
    .exact c
 unfold qeR;refine Ev.bind b ?_;cases namesB xs<;>exact .done

theorem qq6{n:Nat}{x lo hi:Int}:qhP n x lo hi=V (!inI x lo hi):=by simp only[qhP,qdR,jd]
theorem qeL{xs:List Int}{lo hi:Int}(d:xs.length<=1048576):Ev (fun n=>qbW n xs lo hi) (xs.all fun x=>inI x lo hi):=by
 have b:Ev (fun n=>qbc n xs lo hi) (ixL (fun x=>!inI x lo hi) xs):=
  qfj (fin:=(xs.length:Int)) (Lf:=qam xs lo hi) (pf:=fun _ x=>V (!inI x lo hi)) (fun _ _=>.done)
   (fun n=>by simp only[qam,qq (je _),cond_false])
   (fun n j x a=>by
    have c:=(List.getElem?_eq_some_iff.1 a).1;simp only[qam,qp c,cond_true,qgC a,jd,qq6,wS j])
   (fun n=>by unfold qbc;congr 1;funext o;cases o<;>rfl)
 unfold qbW qbQ;refine Ev.bind (Ev.bind b (Ev.now Z)) (Ev.now ?_);rw[qmC,qoJ]
def stepB(xs:List Int)(j:Nat):Bool:=decide (j=0) || decide (at0 xs (j-1)<at0 xs j)
def incB(xs:List Int):Bool:=allN (stepB xs) xs.length
theorem qj8{xs:List Int}(m:xs.length<=1048576):Ev (fun n=>qec n xs) (incB xs):=by
 have g:Ev (fun n=>qbO xs n 1) (bif incB xs then .nxt (max 1 xs.length:Int) else .ret false):=by
  by_cases b:xs.length=0
  .have k:incB xs=true:=by unfold incB;rw[b];rfl
   rw[k];refine Ev.succ ?_;have:decide ((1:Int)<(xs.length:Int))=false:=by rw[b];decide
   simp only[qbO,this,cond_false];exact Ev.now (by rw[b];rfl)
  .have:=quw (Lf:=qbO xs) (len:=xs.length) (i0:=1) (f:=stepB xs) (bad:=false) (fin:=.nxt (max 1 xs.length:Int)) (by omega)
    (Ev.succ (by
     simp only[qbO,qq (je _),cond_false];exact Ev.now (by congr 2;omega)))
    (fun j l a X i=>Ev.succ (by
     simp only[qbO,qp a,cond_true,wS j,show(j:Int)-1=((j-1:Nat):Int) by omega,qP (show -9223372036854775808<=((j-1:Nat):Int) by omega) (by omega),qaw (show j-1<xs.length by omega),qaw a,jd];unfold stepB;by_cases c:at0 xs (j-1)<at0 xs j
     .have e1:decide (at0 xs (j-1)>=at0 xs j)=false:=by simp;omega
      rw[e1];simp only[c,decide_true,Bool.or_true,cond_true,cond_false];exact i
     .have e1:decide (at0 xs (j-1)>=at0 xs j)=true:=by simp;omega
      have d:decide (j=0)=false:=by simp;omega
      rw[e1,d];simp only[c,decide_false,Bool.or_self,cond_true,cond_false];exact .done))
   have e:allN (fun j=>stepB xs (1+j)) (xs.length-1)=incB xs:=by
    unfold incB;rw[jj,qai,qai];constructor
    .intro h j a;cases j with
     |zero=>rfl
     |succ j=>have:=h j (by omega);rwa [Nat.add_comm] at this
    .intro h j a;exact h (1+j) (by omega)
   rw[e] at this;exact this
 unfold qec;refine Ev.bind g ?_;cases incB xs<;>exact .done
def lenB{α:Type}(xs:List α)(lo hi:Nat):Bool:=decide (lo<=xs.length)&&decide (xs.length<=hi)
theorem qr3{α:Type}{xs:List α}{lo hi:Nat}:inI (xs.length:Int) (lo:Int) (hi:Int)=lenB xs lo hi:=by
 unfold inI lenB;rw[jj];simp
def axisB(xs:List Int):Bool:=lenB xs 1 4&&((xs.all fun x=>inI x 0 100000)&&incB xs)
theorem qrG{xs:List Int}(a:xs.length<=1048576):Ev (fun n=>qj3 n xs) (axisB xs):=by
 simp only[qj3,qbH,jd,qdR,show inI (xs.length:Int) 1 4=lenB xs 1 4 from qr3 (lo:=1) (hi:=4)];unfold axisB;cases lenB xs 1 4
 .exact .done
 .refine Ev.tt Z (Ev.bind (qeL a) ?_);cases (xs.all fun x=>inI x 0 100000)
  .exact .done
  .exact Ev.tt Z (Ev.bind (qj8 a) .done)
theorem qqA{xs:List Int}(k:xs.length<=1048576):Ev (fun n=>qjd n xs) (axisB xs):=by
 have i:Ev (fun n=>qeB xs n 0) (bif allN (fun j=>inI (at0 xs j) 0 100000&&stepB xs j) xs.length then .nxt (xs.length:Int) else .ret false):=by
  refine qeo ?_ (fun j c X a=>Ev.succ ?_)
  .exact Ev.succ (by simp only[qeB,qq (je _),cond_false];exact .done)
  .simp only[qeB,qp c,cond_true,qaw c,jd,qc1,wS j];cases inI (at0 xs j) 0 100000
   .exact .done
   .simp only[Jh,cond_false,jy];unfold stepB;by_cases h:j=0
    .subst h;exact Ev.ff (by decide) a
    .simp only[show(j:Int)-1=((j-1:Nat):Int) by omega,qP (show -9223372036854775808<=((j-1:Nat):Int) by omega) (by omega),qaw (show j-1<xs.length by omega),jd];have f:decide (j=0)=false:=by simp;omega
     have g:decide ((j:Int) > 0)=true:=by simp;omega
     rw[f,g];simp only[cond_true,Jj];by_cases b:at0 xs (j-1)<at0 xs j
     .have e1:decide (at0 xs (j-1)>=at0 xs j)=false:=by simp;omega
      rw[e1];simp only[b,decide_true,cond_true,cond_false];exact a
     .have e1:decide (at0 xs (j-1)>=at0 xs j)=true:=by simp;omega
      rw[e1];simp only[b,decide_false,cond_true,cond_false];exact .done
 have e:axisB xs=(allN (fun j=>inI (at0 xs j) 0 100000&&stepB xs j) xs.length&&lenB xs 1 4):=by
  unfold axisB incB;rw[qlX,qho (d:=0),Bool.and_comm]
  rfl
 rw[e];unfold qjd;refine Ev.bind i ?_;cases allN (fun j=>inI (at0 xs j) 0 100000&&stepB xs j) xs.length
 .exact .done
 .simp only[cond_true,qnu,qon,jy];exact Ev.now (by congr 1;unfold lenB;rw[jj];simp;omega)
def tableB(t:qS):Bool:=axisB t.Bj&&(axisB t.Be&&(decide (t.Az.length=t.Bj.length*t.Be.length)&&(t.Az.all fun x=>inI x (-1000000) 1000000)))
theorem qp9{a b:Nat}(c:a<=1048576)(d:b<=1048576):W64 ((a:Int)*(b:Int))=((a*b:Nat):Int):=by
 have h:a*b<=1048576*1048576:=Nat.mul_le_mul c d;have e:(a:Int)*(b:Int)=((a*b:Nat):Int):=by simp
 rw[e];exact qP (by omega) (by omega)
theorem qtL{t:qS}(h:qi1 t):Ev (fun n=>qky n t) (tableB t):=by
 unfold qky tableB;refine Ev.bind (qrG h.Bj.len) ?_;cases axisB t.Bj
 .exact .done
 .refine Ev.tt Z (Ev.bind (qrG h.Be.len) ?_);cases axisB t.Be
  .exact .done
  .rw[qp9 h.Bj.len h.Be.len];have e:(((t.Az.length:Nat):Int)==((t.Bj.length*t.Be.length:Nat):Int))=decide (t.Az.length=t.Bj.length*t.Be.length):=by rw[jj];simp;omega
   rw[e];cases decide (t.Az.length=t.Bj.length*t.Be.length)
   .exact .done
   .exact Ev.tt Z (Ev.tt Z (Ev.bind (qeL h.Az.len) .done))
theorem qs2{t:qS}(h:qi1 t):Ev (fun n=>qkB n t) (tableB t):=by
 have f:=h.Az.len;have c:Ev (fun n=>qfD t n 0) (bif (t.Az.all fun x=>inI x (-1000000) 1000000) then .nxt (t.Az.length:Int) else .ret false):=
  qoM (fun n=>by simp only[qfD,qq (je _),cond_false]) (fun j a X d=>by
   simp only[qfD,qp a,cond_true,qaZ a,jd,qc1,wS j];cases inI t.Az[j] (-1000000) 1000000
   .exact .done
   .exact d)
 unfold qkB tableB;refine Ev.bind (b:=!(axisB t.Bj&&(axisB t.Be&&decide (t.Az.length=t.Bj.length*t.Be.length)))) ?_ ?_
 .refine Ev.bind (qqA h.Bj.len) ?_;cases axisB t.Bj
  .exact .done
  .refine Ev.ff Z (Ev.bind (qqA h.Be.len) ?_);cases axisB t.Be
   .exact .done
   .refine Ev.ff Z (Ev.now ?_);rw[qp9 h.Bj.len h.Be.len]
    congr 1
    rw[jj];simp;omega
 .cases axisB t.Bj
  .exact .done
  .cases axisB t.Be
   .exact .done
   .cases decide (t.Az.length=t.Bj.length*t.Be.length)
    .exact .done
    .refine Ev.ff Z (Ev.bind c ?_);cases (t.Az.all fun x=>inI x (-1000000) 1000000)<;>exact .done

instance:Inhabited qaB:=⟨⟨ByteArray.empty,0,0,false⟩⟩
instance:Inhabited qS:=⟨⟨[],[],[]⟩⟩
instance:Inhabited qaF:=⟨⟨0,0,0,0,[],[]⟩⟩
instance:Inhabited qL:=⟨⟨ByteArray.empty,0,[],[],[],0,0⟩⟩
instance:Inhabited qJ:=⟨⟨ByteArray.empty,0,[]⟩⟩
instance:Inhabited qaD:=⟨⟨ByteArray.empty,0,0⟩⟩
instance:Inhabited qah:=⟨⟨[],[],[],[]⟩⟩
theorem lastE{j m:Nat}(h:j<m)(a:m<=1048576):((j:Int)==W64 ((m:Int)-1))=decide (j+1=m):=by
 rcases qwF h with h|h
 .exact h
 .omega
theorem qkF{α:Type}[Inhabited α]{xs:List α}{g:α->ByteArray}{j:Nat}(h:j<xs.length):strAt (xs.map g) j=g (gt xs j):=by
 rw[qoN (by simpa using h),qeV h];simp
theorem qnQ{α:Type}{xs:List α}{g:α->ByteArray}{ok:α->Prop}(h:okL ok xs)(a:∀x,ok x->okS (g x)):okL okS (xs.map g):=
 ⟨by rw[jt];exact h.1,fun y c=>by
  obtain⟨x,b,rfl⟩:=List.mem_map.1 c;exact a x (h.2 x b)⟩
theorem ql7{α β:Type}{xs:List α}{g:α->β}{j:Nat}(h:j<xs.length)(a:xs.length<=1048576){y:β}:appS ((xs.take j).map g) [y]=V ((xs.take j).map g++[y]):=
 qcA (by simp;omega)
def pinB(ps:List qaB)(j:Nat):Bool:=
 bif decide (j+1=ps.length) then((gt ps j).Bs==2)&&(((gt ps j).Bl==0)&&!(gt ps j).Bo) else((gt ps j).Bs==1)&&inI (gt ps j).Bl 0 500
def pinsB(ps:List qaB):Bool:=allN (pinB ps) ps.length&&(lenB ps 2 5&&namesB (ps.map qaB.Ba))
def clkN(ps:List qaB)(j:Nat):Nat:=cntP (fun i=>(gt ps i).Bo) j
theorem qts{ps:List qaB}(h:okL qmm ps):Ev (fun n=>qkx n ps) (pinsB ps):=by
 have i:=h.len;have l:Ev (fun n=>qdi ps n ([]:List ByteArray) 0) (bif allN (pinB ps) ps.length then .nxt (ps.map qaB.Ba,(ps.length:Int)) else .ret false):=by
  refine loopN (Lf:=qdi ps) (S:=fun j=>(ps.take j).map qaB.Ba) (pinB ps) (fun n=>?_) (fun j a o X f=>?_)
  .simp only[qdi,qq (je _),cond_false,jG]
  .simp only[qdi,qp a,cond_true,qw a,jd,ql7 a i,qgL (g:=qaB.Ba) a,lastE a i,bne,qcb,qdR,wS j];generalize hc:pinB ps j=c at f⊢;unfold pinB at hc;cases hd:decide (j+1=ps.length)
   .rw[hd] at hc;simp only[cond_false] at hc⊢;subst hc;exact Ev.okP (fun b=>Ev.okP1 (fun d=>f (by rw[b,d];rfl)))
   .rw[hd] at hc;simp only[cond_true] at hc⊢;subst hc;refine Ev.okP (fun b=>Ev.okP (fun d=>Ev.chkP1 (fun k=>f (by rw[b,d,k];rfl))))
 unfold qkx pinsB;refine Ev.bind l ?_;cases allN (pinB ps) ps.length
 .exact .done
 .simp only[cond_true,qcV,qdR,jd,show inI (ps.length:Int) 2 5=lenB ps 2 5 from qr3 (lo:=2) (hi:=5),jy];exact Ev.andP (fun _=>Ev.last (qj4 (qnQ h (fun x m=>m.Ba))))
def pinS(ps:List qaB)(j:Nat):Bool:=allN (neB (ps.map qaB.Ba) j) j&&((nameB (gt ps j).Ba&&inI (gt ps j).Bl 0 500)&&(bif decide (j+1=ps.length) then((gt ps j).Bs==2)&&(((gt ps j).Bl==0)&&!(gt ps j).Bo) else((gt ps j).Bs==1)))
theorem qxu{ps:List qaB}:(lenB ps 2 5&&allN (pinS ps) ps.length)=pinsB ps:=by
 have e:namesB (ps.map qaB.Ba)=allN (fun j=>nameB (gt ps j).Ba&&allN (neB (ps.map qaB.Ba) j) j) ps.length:=by
  unfold namesB;rw[jt];exact qiD (fun j a=>by rw[qkF a])
 unfold pinsB;rw[e,<-Bool.and_assoc,Bool.and_comm (allN (pinB ps) ps.length),Bool.and_assoc,<-qlX]
 congr 1
 refine qiD (fun j a=>?_);unfold pinS pinB;cases hd:decide (j+1=ps.length)
 .simp only[cond_false];cases allN (neB (ps.map qaB.Ba) j) j<;>cases nameB (gt ps j).Ba<;>cases inI (gt ps j).Bl 0 500<;>cases ((gt ps j).Bs==1)<;>rfl
 .simp only[cond_true];cases hcap:((gt ps j).Bl==0)
  .simp
  .have:inI (gt ps j).Bl 0 500=true:=by rw[beq_iff_eq] at hcap;rw[hcap];rfl
   rw[this];cases allN (neB (ps.map qaB.Ba) j) j<;>cases nameB (gt ps j).Ba<;>cases ((gt ps j).Bs==2)<;>cases (gt ps j).Bo<;>rfl
theorem qtR{c:qL}(h:okL qmm c.Ay):Ev (fun n=>qkz n c) (bif pinsB c.Ay then(((clkN c.Ay c.Ay.length:Nat):Int),true) else(0,false)):=by
 have s:=h.len;have l:∀j,j<c.Ay.length->Ev (fun n=>qfC c (j:Int) (gt c.Ay j) n 0) (bif allN (neB (c.Ay.map qaB.Ba) j) j then .nxt (j:Int) else .ret (0,false)):=by
  intro j b;refine qeo ?_ (fun i hi X a=>Ev.succ ?_)
  .exact Ev.succ (by simp only[qfC,qq (je _),cond_false];exact .done)
  .simp only[qfC,qp hi,cond_true,qw (show i<c.Ay.length by omega),jd,qij,wS i];unfold neB;rw[qkF (g:=qaB.Ba) (show i<c.Ay.length by omega),qkF (g:=qaB.Ba) b];exact Ev.chkP1 (fun _=>a)
 have k:Ev (fun n=>qdr c n 0 0) (bif allN (pinS c.Ay) c.Ay.length then .nxt (((clkN c.Ay c.Ay.length:Nat):Int),(c.Ay.length:Int)) else .ret (0,false)):=by
  refine loopN (Lf:=qdr c) (S:=fun j=>((clkN c.Ay j:Nat):Int)) (pinS c.Ay) (fun n=>?_) (fun j b u X a=>?_)
  .simp only[qdr,qq (je _),cond_false]
  .have t:clkN c.Ay j<=j:=qgM;have d:((j:Int)==W64 ((c.Ay.length:Int)-1))=decide (j+1=c.Ay.length):=lastE b s;have f:decide ((j:Int)<W64 ((c.Ay.length:Int)-1)) = !decide (j+1=c.Ay.length):=by
    rw[qP (by omega) (by omega),jj];simp;omega
   simp only[qdr,qp b,cond_true,qw b,jd,wS j,qim (show clkN c.Ay j<9223372036854775807 by omega),d,f,qc1];unfold pinS;refine Ev.bind (l j b) ?_;cases ha:allN (neB (c.Ay.map qaB.Ba) j) j
   .exact .done
   .simp only[cond_true,jy];refine Ev.chkT ?_ (fun o=>?_)
    .exact Ev.or (qmx (qm9 h b).Ba) (fun _=>.done)
    .refine Ev.chkT1 ?_ (fun r=>?_)
     .cases decide (j+1=c.Ay.length)
      .exact .done
      .simp only[cond_true,Jh,cond_false,bne,qcb];cases ((gt c.Ay j).Bs==2)<;>cases ((gt c.Ay j).Bl==0)<;>cases (gt c.Ay j).Bo<;>exact .done
     .have a:=a (by unfold pinS;rw[ha,o,r];rfl);have m:clkN c.Ay (j+1)=clkN c.Ay j+(bif (gt c.Ay j).Bo then 1 else 0):=rfl;rw[m] at a;cases hc:(gt c.Ay j).Bo
      .rw[hc] at a;exact Ev.ff Z a
      .rw[hc] at a;exact Ev.tt Z a
 rw[<-qxu];unfold qkz;refine Ev.guard ?_ (fun o=>?_)
 .unfold lenB;have e1:decide ((c.Ay.length:Int)<2) = !decide (2<=c.Ay.length):=by rw[jj];simp;omega
  have p:decide ((c.Ay.length:Int) > 5) = !decide (c.Ay.length<=5):=by rw[jj];simp;omega
  rw[e1,p];cases decide (2<=c.Ay.length)<;>cases decide (c.Ay.length<=5)<;>exact .done
 .refine Ev.bind k ?_;cases allN (pinS c.Ay) c.Ay.length<;>exact .done
def mnL(xs:List Int):Int:=(xs.drop 1).foldl (fun m y=>if y<m then y else m) (at0 xs 0)
def mxL(xs:List Int):Int:=(xs.drop 1).foldl (fun m y=>if y > m then y else m) (at0 xs 0)
theorem qqM{t:qS}(h:tableB t=true):1<=t.Az.length:=by
 unfold tableB axisB lenB at h;simp only[jf,decide_eq_true_eq] at h;obtain⟨⟨⟨a,_⟩,_⟩,⟨⟨b,_⟩,_⟩,c,_⟩:=h;rw[c];exact Nat.mul_pos a b
theorem qwI{xs:List Int}(b:1<=xs.length)(f:xs.length<=1048576):Ev (fun n=>qhZ n xs) (mnL xs):=by
 have c:=(qo0 (Lf:=fun n t j=>qdd xs n t j) (xs:=xs) (step:=fun(m y:Int)=>if y<m then y else m) (fin:=fun t=>(t,(xs.length:Int))) 1 (at0 xs 0) (fun _ _=>True) b trivial (fun _ _ _ _=>trivial)
  (fun n t=>by simp only[qdd,qq (je _),cond_false])
  (fun j t a _ X d=>by simpa only[qdd,qp a,cond_true,qaZ a,jd,wS j] using d)).1
 unfold qhZ;rw[show decide ((xs.length:Int)<1)=false by simp;omega,show idx xs (0:Int)=V (at0 xs 0) from qaw (j:=0) (by omega)];simp only[cond_false,jd];exact Ev.bind c .done
theorem qtT{t:qS}(h:qi1 t):Ev (fun n=>qhU n t) (bif tableB t then(⟨mnL t.Az,mxL t.Az⟩,0) else(⟨0,0⟩,1)):=by
 unfold qhU;refine Ev.chk1 (qs2 h) (fun k=>?_);have g:=qqM k;have o:=h.Az.len;have d:=(qo0 (Lf:=fun n (c:Int×Int) j=>qdc t n c.1 c.2 j) (xs:=t.Az) (step:=fun(m:Int×Int) y=>(if y<m.1 then y else m.1,if y > m.2 then y else m.2)) (fin:=fun c=>(c.1,c.2,(t.Az.length:Int))) 1 (at0 t.Az 0,at0 t.Az 0) (fun _ _=>True) g trivial (fun _ _ _ _=>trivial)
  (fun n t=>by simp only[qdc,qq (je _),cond_false])
  (fun j t f _ X i=>by simpa only[qdc,qp f,cond_true,qaZ f,jd,wS j] using i)).1
 have l:∀(ys:List Int) (a b:Int),ys.foldl (fun(m:Int×Int) y=>(if y<m.1 then y else m.1,if y > m.2 then y else m.2)) (a,b)=(ys.foldl (fun m y=>if y<m then y else m) a,ys.foldl (fun m y=>if y > m then y else m) b):=by
  intro ys
  induction ys with
  |nil=>intro a b;rfl
  |cons y ys ih=>intro a b;simp only[List.foldl_cons,ih]
 rw[l] at d;rw[show idx t.Az (0:Int)=V (at0 t.Az 0) from qaw (j:=0) (by omega)];simp only[jd];exact Ev.bind d .done
def tabB(pos:Bool)(t:qS):Bool:=tableB t&&(!pos || decide (0<=mnL t.Az))
def tablesB(a:List qS)(pos:Bool):Bool:=decide (a.length=2)&&a.all (tabB pos)
theorem qmq{a:List qS}{pos:Bool}(h:okL qi1 a):Ev (fun n=>qgo n a pos) (tablesB a pos):=by
 have g:=h.len;have c:Ev (fun n=>qaU n a pos) (ixL (fun x=>!tabB pos x) a):=
  qfj (fin:=(a.length:Int)) (Lf:=qaa a pos) (pf:=fun n x=>qh5 n x pos) (fun x b=>by
    unfold qh5 tabB;refine Ev.or (qtL (h.2 x b)) (fun d=>?_);cases pos
    .exact .done
    .refine Ev.tt Z (Ev.bind (qwI (qqM d) (h.2 x b).Az.len) (Ev.now ?_))
     congr 1
     rw[jj];simp)
   (fun n=>by simp only[qaa,qq (je _),cond_false])
   (fun n j x b=>by
    have f:=(List.getElem?_eq_some_iff.1 b).1;simp only[qaa,qp f,cond_true,qgC b,jd,wS j])
   (fun n=>by unfold qaU;congr 1;funext o;cases o<;>rfl)
 unfold qgo qbp tablesB;rw[show((a.length:Int)==2)=decide (a.length=2) by rw[jj];simp;omega];refine Ev.andP (fun _=>Ev.bind (Ev.bind c (Ev.now Z)) (Ev.now ?_));rw[qmC,qoJ]
theorem qjb{a:List qS}{pos:Bool}(h:okL qi1 a):Ev (fun n=>qd8 n a pos) (tablesB a pos):=by
 unfold qd8 tablesB;rw[show((a.length:Int) != 2) = !decide (a.length=2) by rw[jj];simp;omega];simp only[qcb];refine Ev.andP (fun b=>?_);have b:a.length=2:=by simpa using b
 have f:Ev (fun n=>qc9 a pos n 0) (bif allN (fun j=>tabB pos (gt a j)) a.length then .nxt (2:Int) else .ret false):=by
  refine qeo (len:=a.length) ?_ (fun j d X c=>Ev.succ ?_)
  .rw[b];exact Ev.succ (by simp only[qc9];exact .done)
  .simp only[qc9,show decide ((j:Int)<2)=true by simp;omega,cond_true,qw d,jd,wS j];refine Ev.bind (qtT (qm9 h d)) ?_;unfold tabB;cases tableB (gt a j)
   .exact .done
   .simp only[cond_true,jy];refine Ev.ff Z ?_;cases pos
    .exact c
    .refine Ev.tt Z ?_;rw[show decide (mnL (gt a j).Az<0) = !decide (0<=mnL (gt a j).Az) by rw[jj];simp];simp only[qcb];exact Ev.okP1 (fun _=>c)
 rw[qjo];refine Ev.bind f ?_;cases allN (fun j=>tabB pos (gt a j)) a.length<;>exact .done

theorem qf4{α:Type}[Inhabited α]{xs:List α}{x:Int}(a:0<=x)(b:x<xs.length):idx xs x=V (gt xs x.toNat):=by
  have:=qw (xs:=xs) (j:=x.toNat) (by omega);rwa [<-qdx a] at this
theorem qrr{q:Nat->Bool}{m n:Nat}(h:m<=n):cntP q m<=cntP q n:=by
  induction n with
  |zero=>
    obtain rfl:m=0:=by omega
    exact je _
  |succ n ih=>
    rcases Nat.lt_or_eq_of_le h with h|rfl
    · exact jR (ih (by omega)) (Nat.le_add_right _ _)
    · exact je _
theorem qlh{m k:Nat}:decide ((m:Int)<=(k:Int))=decide (m<=k):=by rw[jj];simp
theorem qtb{q:Nat->Bool}{n i j:Nat}(hi:i<j)(d:j<n)(a:q i=true)(b:q j=true):2<=cntP q n:=by
  have e1:cntP q (i+1)=cntP q i+1:=by rw[cntP,a];rfl
  have c:cntP q (j+1)=cntP q j+1:=by rw[cntP,b];rfl
  have f:=qrr (q:=q) (show i+1<=j by omega);have g:=qrr (q:=q) (show j+1<=n by omega);omega
theorem qsD{q:Nat->Bool}{n i j:Nat}(d:cntP q n<=1)(hi:i<n)(c:j<n)(a:q i=true)(b:q j=true):i=j:=by
  rcases Nat.lt_trichotomy i j with h|h|h
  · have:=qtb h c a b;omega
  · exact h
  · have:=qtb h hi b a;omega
def clkIx(ps:List qaB):Int:=ixL (fun p=>p.Bo) ps
def clkAt(ps:List qaB)(x:Int):Bool:=(gt ps x.toNat).Bo
theorem qvP{c:qL}(f:c.Ay.length<=1048576):Ev (fun n=>qiw n c) (clkIx c.Ay):=by
  unfold qiw;refine Ev.bind (b:=clkIx c.Ay) ?_ .done;exact qfj (fin:=(c.Ay.length:Int)) (Lf:=qac c.Ay) (pf:=fun n x=>qjm n x) (fun _ _=>.done)
    (fun n=>by simp only[qac,qq (je _),cond_false])
    (fun n j x a=>by
      have d:=(List.getElem?_eq_some_iff.1 a).1;simp only[qac,qp d,cond_true,qgC a,jd,wS j])
    (fun n=>by unfold qbI;congr 1;funext o;cases o<;>rfl)
def arcI(ps:List qaB)(a:qaF):Bool:=
  bif (a.Au==4) || (a.Au==5) then
    (a.Bk==0)&&(((a.Av.length:Int)==0)&&(tablesB a.Bn false&&((a.Bd==clkIx ps)&&(decide (a.Bd>=0)&&(inI a.To 0 (ps.length-2)&&!(a.To==a.Bd))))))
  else
    (tablesB a.Bn true&&(tablesB a.Av true&&((a.To==(ps.length:Int)-1)&&inI a.Bd 0 (ps.length-2)))) &&
      (bif a.Au==1 then !clkAt ps a.Bd&&inI a.Bk 1 3 else(bif (a.Au==2) || (a.Au==3) then clkAt ps a.Bd&&(a.Bk==0) else false))
def arcS(ps:List qaB)(a:qaF):Bool:=
  (inI a.Bd 0 (ps.length-2)&&inI a.To 0 (ps.length-1)) &&
    (bif a.Au==1 then !clkAt ps a.Bd&&((a.To==(ps.length:Int)-1)&&(inI a.Bk 1 3&&(tablesB a.Bn true&&tablesB a.Av true)))
     else(bif (a.Au==2) || (a.Au==3) then clkAt ps a.Bd&&((a.To==(ps.length:Int)-1)&&((a.Bk==0)&&(tablesB a.Bn true&&tablesB a.Av true)))
     else(bif (a.Au==4) || (a.Au==5) then clkAt ps a.Bd&&(decide (a.To<(ps.length:Int)-1)&&(!clkAt ps a.To&&((a.Bk==0)&&(tablesB a.Bn false&&((a.Av.length:Int)==0))))) else false)))
theorem qpP{c d:Bool}:(bif c then V c else V d)=V (c || d):=by cases c<;>rfl
theorem qs8{c d:Bool}:(bif c then V true else V d)=V (c || d):=by cases c<;>rfl
theorem qtA{n:Nat}{k:Int}:qkq n k=V ((k==4) || (k==5)):=by simp only[qkq,qs8]
theorem qwc{c:qL}{a:qaF}(h:okL qmm c.Ay)(b:qmo a)(k:2<=c.Ay.length):Ev (fun n=>qit n c a) (arcI c.Ay a):=by
  have i:=h.len;have e1:W64 ((c.Ay.length:Int)-1)=(c.Ay.length:Int)-1:=qd7 (by omega);have f:W64 ((c.Ay.length:Int)-1-1)=(c.Ay.length:Int)-2:=by rw[qP (by omega) (by omega)];omega
  simp only[qit,qtA,jd,qhi,qe1,qcV,e1,f,qdR,qpP,bne];unfold arcI;refine Ev.iff (fun _=>Ev.last ?_) (fun _=>Ev.guardB ?_ (fun d=>?_))
  · exact Ev.andP fun _=>Ev.andP fun _=>Ev.and (qmq b.Bn) fun _=>Ev.bind (qvP i) (Ev.andP fun _=>Ev.andP fun _=>Ev.andP fun _=>.done)
  · refine Ev.or (qmq b.Bn) fun _=>Ev.or (qmq b.Av) fun _=>?_
    simp only[qcb];exact Ev.orBP fun _=>.done
  · have g:0<=a.Bd/\a.Bd<=(c.Ay.length:Int)-2:=by
      simp only[jf,qaQ] at d;exact d.2.2.2
    simp only[qf4 g.1 (show a.Bd<(c.Ay.length:Int) by omega),jd];exact Ev.iff (fun _=>Ev.andP fun _=>.done) (fun _=>Ev.iff (fun _=>Ev.andP fun _=>.done) (fun _=>.done))
theorem quI{c:qL}{a:qaF}(h:okL qmm c.Ay)(b:qmo a)(k:2<=c.Ay.length):Ev (fun n=>qlb n c a) (arcS c.Ay a):=by
  have i:=h.len;have e1:W64 ((c.Ay.length:Int)-1)=(c.Ay.length:Int)-1:=qd7 (by omega);have g:W64 ((c.Ay.length:Int)-1-1)=(c.Ay.length:Int)-2:=by rw[qP (by omega) (by omega)];omega
  simp only[qlb,jd,e1,g,qc1,qpP];unfold arcS;refine Ev.guardB ?_ (fun d=>?_)
  · simp only[qcb]
    exact Ev.orBP fun _=>.done
  · have f:(0<=a.Bd/\a.Bd<=(c.Ay.length:Int)-2)/\(0<=a.To/\a.To<=(c.Ay.length:Int)-1):=by
      simp only[jf,qaQ] at d;exact d
    simp only[qf4 f.1.1 (show a.Bd<(c.Ay.length:Int) by omega),qf4 f.2.1 (show a.To<(c.Ay.length:Int) by omega),jd];refine Ev.iff (fun _=>?_) (fun _=>Ev.iff (fun _=>?_) (fun _=>Ev.iff (fun _=>?_) (fun _=>.done)))
    · exact Ev.andP fun _=>Ev.andP fun _=>Ev.andP fun _=>Ev.and (qjb b.Bn) fun _=>Ev.last (qjb b.Av)
    · exact Ev.andP fun _=>Ev.andP fun _=>Ev.andP fun _=>Ev.and (qjb b.Bn) fun _=>Ev.last (qjb b.Av)
    · exact Ev.andP fun _=>Ev.andP fun _=>Ev.andP fun _=>Ev.andP fun _=>Ev.and (qjb b.Bn) fun _=>.done
theorem qo9{ps:List qaB}(f:clkN ps ps.length<=1){x:Int}(k:0<=x):clkIx ps=x↔x<ps.length/\clkAt ps x=true:=by
  unfold clkIx ixL;cases hf:ps.findIdx? (fun p=>p.Bo) with
  |some j=>
    obtain⟨d,i,_⟩:=List.findIdx?_eq_some_iff_getElem.1 hf;have b:(gt ps j).Bo=true:=by rw[qeV d];exact i
    constructor
    · intro e
      have e:(j:Int)=x:=e;subst e;exact⟨by omega,by unfold clkAt;rw[jq];exact b⟩
    · rintro⟨g,a⟩
      have:=qsD f d (show x.toNat<ps.length by omega) b a;show(j:Int)=x;omega
  |none=>
    have h:=List.findIdx?_eq_none_iff.1 hf;constructor
    · intro e
      have e:(-1:Int)=x:=e;omega
    · rintro⟨g,a⟩
      have c:x.toNat<ps.length:=by omega
      unfold clkAt at a;rw[qeV c] at a;have:=h _ (jo c);rw[a] at this;exact absurd this (by decide)
theorem qhx{ps:List qaB}(h:pinsB ps=true):(2<=ps.length/\ps.length<=5)/\clkAt ps ((ps.length:Int)-1)=false:=by
  unfold pinsB lenB at h;simp only[jf,decide_eq_true_eq] at h;refine⟨h.2.1,?_⟩;have a:=qai.1 h.1 (ps.length-1) (by omega);unfold pinB at a;rw[show decide (ps.length-1+1=ps.length)=true by simp;omega] at a;simp only[cond_true,jf,jA] at a;unfold clkAt;rw[show((ps.length:Int)-1).toNat=ps.length-1 by omega];exact a.2.2
theorem qvr{ps:List qaB}{a:qaF}(h:pinsB ps=true)(b:clkN ps ps.length<=1):arcI ps a=arcS ps a:=by
  obtain⟨⟨D,z⟩,l⟩:=qhx h;rw[jj];unfold arcI arcS;cases h45:((a.Au==4) || (a.Au==5)) with
  |true=>
    have B:(a.Au==1)=false:=by simp at h45⊢;omega
    have u:((a.Au==2) || (a.Au==3))=false:=by simp at h45⊢;omega
    rw[B,u];simp only[cond_true,cond_false,jf,qaQ,decide_eq_true_eq,beq_iff_eq,jA,beq_eq_false_iff_ne,ne_eq];constructor
    · rintro⟨t,m,s,p,o,r,A⟩
      obtain⟨C,n⟩:=(qo9 b o).1 p.symm;have x:a.Bd≠(ps.length:Int)-1:=by intro e;rw[e,l] at n;cases n
      refine⟨⟨⟨o,by omega⟩,⟨r.1,by omega⟩⟩,n,by omega,?_,t,s,m⟩;cases c:clkAt ps a.To with
      |false=>rfl
      |true=>
        have:=(qo9 b r.1).2 ⟨by omega,c⟩;omega
    · rintro⟨⟨p,r⟩,n,y,c,t,s,m⟩
      have:=(qo9 b p.1).2 ⟨by omega,n⟩;refine⟨t,m,s,this.symm,p.1,⟨r.1,by omega⟩,?_⟩;intro e;rw[e,n] at c;cases c
  |false=>
    simp only[cond_false,jf,qaQ,beq_iff_eq];cases (a.Au==1)
    · cases ((a.Au==2) || (a.Au==3))
      · simp
      · simp only[cond_true,cond_false,jf,beq_iff_eq]
        constructor
        · rintro⟨⟨b,d,f,g⟩,i,k⟩
          exact⟨⟨g,by omega⟩,i,f,k,b,d⟩
        · rintro⟨⟨g,v⟩,i,f,k,b,d⟩
          exact⟨⟨b,d,f,g⟩,i,k⟩
    · simp only[cond_true,jf,qaQ,jA,beq_iff_eq]
      constructor
      · rintro⟨⟨b,d,f,g⟩,i,k⟩
        exact⟨⟨g,by omega⟩,i,f,k,b,d⟩
      · rintro⟨⟨g,v⟩,i,f,k,b,d⟩
        exact⟨⟨b,d,f,g⟩,i,k⟩
theorem qrC{ps:List qaB}{a:qaF}(h:arcS ps a=true):1<=a.Au/\a.Au<=5:=by
  unfold arcS at h;rw[jf] at h;have h:=h.2;cases h1:(a.Au==1)
  · cases h2:((a.Au==2) || (a.Au==3))
    · cases h4:((a.Au==4) || (a.Au==5))
      · rw[h1,h2,h4] at h;cases h
      · simp at h4;omega
    · simp at h2;omega
  · simp at h1;omega
def sameArc(x y:qaF):Bool:=(x.Au==y.Au)&&((x.Bd==y.Bd)&&(x.To==y.To))
def newArc(ar:List qaF)(j:Nat):Bool:=allN (fun i=>!sameArc (gt ar i) (gt ar j)) j
theorem qtM{c:qL}(h:okL qmm c.Ay)(d:okL qmo c.Ar)(m:2<=c.Ay.length):Ev (fun n=>qhc n c) (allN (fun j=>arcI c.Ay (gt c.Ar j)&&newArc c.Ar j) c.Ar.length&&decide (c.Ar.length<=8)):=by
  have l:=d.len;have g:∀(ar:List qaF) (y:qaF),ar.length<=1048576->Ev (fun n=>qaM n ar y) (ar.any fun x=>sameArc x y):=by
    intro ar y l;unfold qaM;refine Ev.bind (b:=ixL (fun x=>sameArc x y) ar) (qfj (fin:=(ar.length:Int)) (Lf:=qY ar y) (pf:=fun n x=>qge n x y) (fun x _=>?_)
      (fun n=>by simp only[qY,qq (je _),cond_false])
      (fun n j x f=>by
        have a:=(List.getElem?_eq_some_iff.1 f).1;simp only[qY,qp a,cond_true,qgC f,jd,wS j])
      (fun n=>by unfold qbr;congr 1;funext o;cases o<;>rfl)) (Ev.now (by rw[qmC]))
    unfold qge sameArc;exact Ev.andP fun _=>Ev.andP fun _=>.done
  have i:Ev (fun n=>qcS c n 0) (bif allN (fun j=>arcI c.Ay (gt c.Ar j)&&newArc c.Ar j) c.Ar.length then .nxt (c.Ar.length:Int) else .ret false):=by
    refine qeo ?_ (fun j a X k=>Ev.succ ?_)
    · exact Ev.succ (by simp only[qcS,qq (je _),cond_false];exact .done)
    · simp only[qcS,qp a,cond_true,qw a,jd,qu3 (Nat.le_of_lt a),wS j]
      refine Ev.chk (qwc h (qm9 d a) m) fun _=>Ev.chkT1 ?_ (fun _=>k);refine(g _ _ (by simp;omega)).cast ?_;rw[qvs (Nat.le_of_lt a)];rfl
  unfold qhc;refine Ev.bind i ?_;cases allN (fun j=>arcI c.Ay (gt c.Ar j)&&newArc c.Ar j) c.Ar.length
  · exact .done
  · refine Ev.now ?_
    show V (decide ((c.Ar.length:Int)<=((8:Nat):Int)))=V (true&&decide (c.Ar.length<=8));rw[qlh,jy]
def hasB(ar:List qaF)(k:Int):Bool:=ar.any fun a=>a.Au==k
theorem qpA{c:qL}{k:Int}(f:c.Ar.length<=1048576):Ev (fun n=>qdX n c k) (hasB c.Ar k):=by
  unfold qdX qbA;exact Ev.last (Ev.bind (b:=ixL (fun x=>x.Au==k) c.Ar) (qfj (fin:=(c.Ar.length:Int)) (Lf:=qaf c.Ar k) (pf:=fun n x=>qkb n x k) (fun x _=>.done)
      (fun n=>by simp only[qaf,qq (je _),cond_false])
      (fun n j x a=>by
        have d:=(List.getElem?_eq_some_iff.1 a).1;simp only[qaf,qp d,cond_true,qgC a,jd,wS j])
      (fun n=>by unfold qbY;congr 1;funext o;cases o<;>rfl)) (Ev.now (by rw[qmC];rfl)))
def kindN(ar:List qaF)(k:Nat)(j:Nat):Nat:=cntP (fun i=>(gt ar i).Au==(k:Int)) j
theorem qrk{ar:List qaF}{k:Nat}:decide (((kindN ar k ar.length:Nat):Int) > 0)=hasB ar k:=by
  rw[show decide (((kindN ar k ar.length:Nat):Int) > 0)=decide (0<kindN ar k ar.length) by simp];unfold kindN hasB;rw[qsE,qtB]
theorem qtF{ar:List qaF}{k:Nat}:(((kindN ar k ar.length:Nat):Int)==0) = !hasB ar k:=by
  rw[<-qrk,jj];simp
theorem qsF{c:qL}(g:okL qmo c.Ar)(h:∀j,j<c.Ar.length->1<=(gt c.Ar j).Au/\(gt c.Ar j).Au<=5):Ev (fun n=>qjK n c) (vecC (fun k=>kindN c.Ar k c.Ar.length) 6):=by
  have o:=g.len;have d:Ev (fun n=>qdP c n (vecC (fun _=>0) 6) 0) (vecC (fun k=>kindN c.Ar k c.Ar.length) 6,(c.Ar.length:Int)):=by
    refine loopF (Lf:=qdP c) (S:=fun j=>vecC (fun k=>kindN c.Ar k j) 6) (len:=c.Ar.length) (fun n=>?_) (fun j a X f=>?_)
    · simp only[qdP,qq (je _),cond_false]
    · obtain⟨p,r⟩:=h j a
      have b:(gt c.Ar j).Au=(((gt c.Ar j).Au.toNat:Nat):Int):=qdx (by omega);have l:kindN c.Ar (gt c.Ar j).Au.toNat j<=j:=qgM;simp only[qdP,qp a,cond_true,qw a,jd,wS j];rw[b,qk3 (show(gt c.Ar j).Au.toNat<6 by omega)];simp only[jd];rw[qrL (c:=fun k=>kindN c.Ar k j) (by show kindN c.Ar _ j<_;omega)];have:vecC (fun i=>kindN c.Ar i j+(bif decide ((gt c.Ar j).Au.toNat=i) then 1 else 0)) 6=vecC (fun k=>kindN c.Ar k (j+1)) 6:=by
        refine qk4 (fun k _=>?_);show _=kindN c.Ar k j+(bif (gt c.Ar j).Au==(k:Int) then 1 else 0)
        congr 2
        rw[jj];simp;omega
      rw[this];exact f
  unfold qjK;rw[show mkS 6 (0:Int)=V (vecC (fun _=>0) 6) from qnM (m:=6) (by omega)];simp only[jd];exact Ev.bind d .done
def kindB(c:qL):Bool:=
  bif c.Au==1 then(((clkN c.Ay c.Ay.length:Nat):Int)==0)&&(((c.Bm.length:Int)==((2 ^ (c.Ay.length-1):Nat):Int))&&(c.Bm.all fun x=>inI x 0 1))
  else bif c.Au==2 then(((clkN c.Ay c.Ay.length:Nat):Int)==1)&&(((c.Bm.length:Int)==0)&&(!hasB c.Ar 1&&!(hasB c.Ar 2==hasB c.Ar 3)))
  else bif c.Au==3 then(((clkN c.Ay c.Ay.length:Nat):Int)==1)&&(((c.Bm.length:Int)==0)&&(hasB c.Ar 1&&(hasB c.Ar 2&&!hasB c.Ar 3)))
  else false
theorem qrU{c:qL}(h:kindB c=true):clkN c.Ay c.Ay.length<=1:=by
  unfold kindB at h;cases h1:(c.Au==1)
  · cases h2:(c.Au==2)
    · cases h3:(c.Au==3)
      · rw[h1,h2,h3] at h;cases h
      · rw[h1,h2,h3] at h
        simp only[cond_true,cond_false,jf,beq_iff_eq] at h;omega
    · rw[h1,h2] at h
      simp only[cond_true,cond_false,jf,beq_iff_eq] at h;omega
  · rw[h1] at h
    simp only[cond_true,jf,beq_iff_eq] at h;omega
theorem qsz{m:Nat}(a:2<=m)(b:m<=5):shlS 1 (W64 ((m:Int)-1))=V ((2 ^ (m-1):Nat):Int)/\shlS 1 (IntKind.wrap .u64 (W64 ((m:Int)-1)))=V ((2 ^ (m-1):Nat):Int):=by
  have:m=2\/m=3\/m=4\/m=5:=by omega
  rcases this with rfl|rfl|rfl|rfl<;>exact⟨by decide,by decide⟩
theorem qsv{c:qL}(b:qnJ c)(k:2<=c.Ay.length)(g:c.Ay.length<=5):Ev (fun n=>qgX n c) (kindB c):=by
  have l:=b.Ay.len;have i:Ev (fun n=>qbs c n 0 0) (((clkN c.Ay c.Ay.length:Nat):Int),(c.Ay.length:Int)):=by
    refine loopF (Lf:=qbs c) (S:=fun j=>((clkN c.Ay j:Nat):Int)) (len:=c.Ay.length) (fun n=>?_) (fun j h X d=>?_)
    · simp only[qbs,qq (je _),cond_false]
    · have m:clkN c.Ay j<=j:=qgM
      simp only[qbs,qp h,cond_true,qw h,jd,wS j,qim (show clkN c.Ay j<9223372036854775807 by omega)];have f:clkN c.Ay (j+1)=clkN c.Ay j+(bif (gt c.Ay j).Bo then 1 else 0):=rfl;rw[f] at d;cases b:(gt c.Ay j).Bo
      · rw[b] at d;exact Ev.ff Z d
      · rw[b] at d;exact Ev.tt Z d
  unfold qgX kindB;refine Ev.bind i ?_;simp only[qe1,qcV,jd,(qsz k g).1];have a:=b.Ar.len;refine Ev.iff (fun _=>?_) (fun _=>Ev.iff (fun _=>?_) (fun _=>Ev.iff (fun _=>?_) (fun _=>.done)))
  · exact Ev.andP fun _=>Ev.andP fun _=>Ev.last (qeL b.Bm.len)
  · exact Ev.andP fun _=>Ev.andP fun _=>Ev.bind (qpA a) (Ev.andP fun _=>Ev.bind (qpA a) (Ev.bind (qpA a) .done))
  · exact Ev.andP fun _=>Ev.andP fun _=>Ev.and (qpA a) fun _=>Ev.and (qpA a) fun _=>Ev.bind (qpA a) .done
def cellB(c:qL):Bool:=
  nameB c.Ba&&(pinsB c.Ay&&((allN (fun j=>arcI c.Ay (gt c.Ar j)&&newArc c.Ar j) c.Ar.length&&decide (c.Ar.length<=8))&&(inI c.Bx 0 100000&&(inI c.Bt 0 100000&&kindB c))))
theorem quR{c:qL}(a:qnJ c):Ev (fun n=>qlf n c) (cellB c):=by
  simp only[qlf,qo7 a.Ba,qdR,jd];unfold cellB;refine Ev.andP fun _=>Ev.and (qts a.Ay) fun f=>?_;obtain⟨⟨d,b⟩,_⟩:=qhx f;exact Ev.and (qtM a.Ay a.Ar d) fun _=>Ev.andP fun _=>Ev.andP fun _=>Ev.last (qsv a d b)
theorem qtx{c:qL}(d:qnJ c):Ev (fun n=>qlu n c) (cellB c):=by
  have p:=d.Ar.len;have r:=d.Bm.len;have e:cellB c=((pinsB c.Ay&&(nameB c.Ba&&(decide (c.Ar.length<=8)&&(inI c.Bx 0 100000&&inI c.Bt 0 100000))))&&(allN (fun j=>arcS c.Ay (gt c.Ar j)&&newArc c.Ar j) c.Ar.length&&kindB c)):=by
    unfold cellB;cases l:kindB c
    · simp
    · cases hp:pinsB c.Ay
      · simp
      · rw[qiD (fun j _=>by rw[qvr hp (qrU l)])]
        cases nameB c.Ba<;>cases allN (fun j=>arcS c.Ay (gt c.Ar j)&&newArc c.Ar j) c.Ar.length<;>cases decide (c.Ar.length<=8)<;>cases inI c.Bx 0 100000<;>cases inI c.Bt 0 100000<;>rfl
  rw[e];unfold qlu;refine Ev.bind (qtR d.Ay) ?_;cases hp:pinsB c.Ay
  · exact .done
  · obtain⟨⟨o,m⟩,_⟩:=qhx hp
    simp only[cond_true,jy,Jh,cond_false];refine Ev.guardB ?_ (fun _=>?_)
    · simp only[qc1,jd,qcb]
      refine Ev.orB (qmx d.Ba) fun _=>?_;rw[show decide ((c.Ar.length:Int) > 8) = !decide (c.Ar.length<=8) by rw[jj];simp;omega,qcb];exact Ev.orBP fun _=>Ev.orBP fun _=>.done
    · have g:∀j,j<c.Ar.length->Ev (fun n=>qd9 c (j:Int) (gt c.Ar j) n 0) (bif newArc c.Ar j then .nxt (j:Int) else .ret false):=by
        intro j a;refine qeo ?_ (fun i hi X b=>Ev.succ ?_)
        · exact Ev.succ (by simp only[qd9,qq (je _),cond_false];exact .done)
        · simp only[qd9,qp hi,cond_true,qw (show i<c.Ar.length by omega),jd,wS i]
          unfold sameArc;cases ((gt c.Ar i).Au==(gt c.Ar j).Au)
          · exact b
          · cases ((gt c.Ar i).Bd==(gt c.Ar j).Bd)
            · exact b
            · cases ((gt c.Ar i).To==(gt c.Ar j).To)
              · exact b
              · exact .done
      have f:Ev (fun n=>qgr c n 0) (bif allN (fun j=>arcS c.Ay (gt c.Ar j)&&newArc c.Ar j) c.Ar.length then .nxt (c.Ar.length:Int) else .ret false):=by
        refine qeo ?_ (fun j a X b=>Ev.succ ?_)
        · exact Ev.succ (by simp only[qgr,qq (je _),cond_false];exact .done)
        · simp only[qgr,qp a,cond_true,qw a,jd,wS j]
          refine Ev.chk (quI d.Ay (qm9 d.Ar a) o) fun _=>Ev.bind (g j a) ?_;cases newArc c.Ar j
          · exact .done
          · exact b
      have h:Ev (fun n=>qgg c n 0) (bif (c.Bm.all fun x=>inI x 0 1) then .nxt (c.Bm.length:Int) else .ret false):=
        qoM (fun n=>by simp only[qgg,qq (je _),cond_false]) (fun j a X b=>by
          simp only[qgg,qp a,cond_true,qaZ a,jd,qc1,wS j,qcb];exact Ev.okP1 fun _=>b)
      refine Ev.bind f ?_;cases hA:allN (fun j=>arcS c.Ay (gt c.Ar j)&&newArc c.Ar j) c.Ar.length
      · exact .done
      · have l:∀j,j<c.Ar.length->1<=(gt c.Ar j).Au/\(gt c.Ar j).Au<=5:=fun j a=>by
          have:=qai.1 hA j a;rw[jf] at this;exact qrC this.1
        simp only[cond_true,jy];refine Ev.bind (qsF d.Ar l) ?_;simp only[(qsz o m).2,jd,
          show idx (vecC (fun k=>kindN c.Ar k c.Ar.length) 6) (1:Int)=V ((kindN c.Ar 1 c.Ar.length:Nat):Int) from qk3 (k:=1) (by omega),
          show idx (vecC (fun k=>kindN c.Ar k c.Ar.length) 6) (2:Int)=V ((kindN c.Ar 2 c.Ar.length:Nat):Int) from qk3 (k:=2) (by omega),
          show idx (vecC (fun k=>kindN c.Ar k c.Ar.length) 6) (3:Int)=V ((kindN c.Ar 3 c.Ar.length:Nat):Int) from qk3 (k:=3) (by omega),qrk,qtF]
        unfold kindB;refine Ev.iff (fun _=>?_) (fun _=>Ev.iff (fun _=>?_) (fun _=>Ev.iff (fun _=>?_) (fun _=>.done)))
        · refine Ev.bind h ?_
          cases (c.Bm.all fun x=>inI x 0 1)
          · exact Ev.now (by simp)
          · exact(Ev.andP (fun _=>.done)).cast (by rw[Bool.and_true])
        · refine(Ev.andP fun _=>Ev.andP fun _=>Ev.andP fun _=>.done).cast ?_
          cases (((clkN c.Ay c.Ay.length:Nat):Int)==1)<;>cases ((c.Bm.length:Int)==0)<;>cases hasB c.Ar ((1:Nat):Int)<;>cases hasB c.Ar ((2:Nat):Int)<;>cases hasB c.Ar ((3:Nat):Int)<;>rfl
        · refine(Ev.andP fun _=>Ev.andP fun _=>Ev.andP fun _=>Ev.andP fun _=>.done).cast ?_
          cases (((clkN c.Ay c.Ay.length:Nat):Int)==1)<;>cases ((c.Bm.length:Int)==0)<;>cases hasB c.Ar ((1:Nat):Int)<;>cases hasB c.Ar ((2:Nat):Int)<;>cases hasB c.Ar ((3:Nat):Int)<;>rfl
def libB(l:qF):Bool:=l.Ap.all cellB&&(decide (l.Ap.length<=8)&&namesB (l.Ap.map qL.Ba))
theorem qr0{l:qF}(h:qhn l):Ev (fun n=>qjk n l) (libB l):=by
  have d:=h.Ap.len;have b:Ev (fun n=>qc6 l n ([]:List ByteArray) 0) (bif allN (fun j=>cellB (gt l.Ap j)) l.Ap.length then .nxt (l.Ap.map qL.Ba,(l.Ap.length:Int)) else .ret false):=by
    refine loopN (Lf:=qc6 l) (S:=fun j=>(l.Ap.take j).map qL.Ba) (fun j=>cellB (gt l.Ap j)) (fun n=>?_) (fun j a i X c=>?_)
    · simp only[qc6,qq (je _),cond_false,jG]
    · simp only[qc6,qp a,cond_true,qw a,jd,ql7 a d,qgL (g:=qL.Ba) a,wS j]
      exact Ev.chk1 (quR (qm9 h.Ap a)) c
  unfold qjk libB;rw[qjo];refine Ev.bind b ?_;cases allN (fun j=>cellB (gt l.Ap j)) l.Ap.length
  · exact .done
  · simp only[cond_true,jy,show decide ((l.Ap.length:Int)<=8)=decide (l.Ap.length<=8) from qlh (k:=8)]
    exact Ev.andP fun _=>Ev.last (qj4 (qnQ h.Ap (fun x f=>f.Ba)))

theorem qub{c:qL}(h:cellB c=true):nameB c.Ba=true:=by
 unfold cellB at h;rw[jf] at h;exact h.1
theorem qjF{c:qL}(h:cellB c=true):pinsB c.Ay=true:=by
 unfold cellB at h;simp only[jf] at h;exact h.2.1
theorem qrg{l:qF}(h:qhn l):Ev (fun n=>qi2 n l) (libB l):=by
 have f:=h.Ap.len;have c:∀j,j<l.Ap.length->Ev (fun n=>qed l (j:Int) n 0) (bif allN (neB (l.Ap.map qL.Ba) j) j then .nxt (j:Int) else .ret false):=by
  intro j a;refine qeo ?_ (fun i hi X d=>Ev.succ ?_)
  .exact Ev.succ (by simp only[qed,qq (je _),cond_false];exact .done)
  .simp only[qed,qp hi,cond_true,qw (show i<l.Ap.length by omega),qw a,jd,qij,wS i];unfold neB;rw[qkF (g:=qL.Ba) (show i<l.Ap.length by omega),qkF (g:=qL.Ba) a];exact Ev.chkP1 (fun _=>d)
 have b:Ev (fun n=>qeg l n 0) (bif allN (fun j=>cellB (gt l.Ap j)&&allN (neB (l.Ap.map qL.Ba) j) j) l.Ap.length then .nxt (l.Ap.length:Int) else .ret false):=by
  refine qeo ?_ (fun j a X d=>Ev.succ ?_)
  .exact Ev.succ (by simp only[qeg,qq (je _),cond_false];exact .done)
  .simp only[qeg,qp a,cond_true,qw a,jd,wS j];refine Ev.chk (qtx (qm9 h.Ap a)) fun _=>Ev.bind (c j a) ?_;cases allN (neB (l.Ap.map qL.Ba) j) j
   .exact .done
   .exact d
 have e:libB l=(allN (fun j=>cellB (gt l.Ap j)&&allN (neB (l.Ap.map qL.Ba) j) j) l.Ap.length&&decide (l.Ap.length<=8)):=by
  unfold libB namesB;rw[qjo,jt,Bool.and_comm (decide (l.Ap.length<=8)),<-Bool.and_assoc,<-qlX]
  congr 1
  refine qiD (fun j a=>?_);rw[qkF (g:=qL.Ba) a];cases hc:cellB (gt l.Ap j)
  .rfl
  .rw[qub hc];rfl
 rw[e];unfold qi2;refine Ev.bind b ?_;cases allN (fun j=>cellB (gt l.Ap j)&&allN (neB (l.Ap.map qL.Ba) j) j) l.Ap.length
 .exact .done
 .refine Ev.now ?_;show V (decide ((l.Ap.length:Int)<=((8:Nat):Int)))=V (true&&decide (l.Ap.length<=8));rw[qlh,jy]
theorem qlP{c c':Nat->Nat}{m:Nat}{x:Int}(b:0<=x)(h:x<m)(d:c x.toNat<9223372036854775807)(f:∀k,k<m->c' k=c k+(bif x==(k:Int) then 1 else 0)) :
  idx (vecC c m) x=V (c x.toNat:Int)/\setS (vecC c m) x (W64 ((c x.toNat:Int)+1))=vecC c' m:=by
 have ex:x=(x.toNat:Int):=qdx b;have e1:=qk3 (c:=c) (m:=m) (k:=x.toNat) (by omega);have a:=qrL (c:=c) (m:=m) (k:=x.toNat) d;rw[<-ex] at e1 a;refine⟨e1,a.trans (qk4 (fun k g=>?_))⟩;rw[f k g]
 congr 2
 rw[jj];simp;omega
def netB(d:qj)(x:Int):Bool:=inI x 0 ((d.Ah.length:Int)-1)
theorem qq2{n:Nat}{d:qj}{x:Int}(a:d.Ah.length<=1048576):qcy n d x=V (netB d x):=by
 simp only[qcy,qiA,jd,qdR,qd7 (show d.Ah.length<=9223372036854775807 by omega)];rfl
theorem qoX{n:Nat}{d:qj}{x:Int}(a:d.Ah.length<=1048576):qaA n x 0 (W64 ((d.Ah.length:Int)-1))=V (netB d x):=by
 rw[qc1,qd7 (show d.Ah.length<=9223372036854775807 by omega)];rfl
def hasNamesB(d:qj):Bool:=(decide (d.Ab.length<=14)&&(decide (d.Ah.length<=30)&&decide (d.Ai.length<=8)))&&(namesB (d.Ab.map qJ.Ba)&&(namesB d.Ah&&namesB (d.Ai.map qaD.Ba)))
theorem qsS{d:qj}(h:qkE d):Ev (fun n=>qfQ n d) (hasNamesB d):=by
 have i:=h.Ab.len;have l:=h.Ai.len;have b:Ev (fun n=>qbz d n ([]:List ByteArray) 0) (d.Ab.map qJ.Ba,(d.Ab.length:Int)):=by
  refine loopF (Lf:=qbz d) (S:=fun j=>(d.Ab.take j).map qJ.Ba) (len:=d.Ab.length) (fun n=>?_) (fun j a X f=>?_)
  .simp only[qbz,qq (je _),cond_false,jG]
  .simpa only[qbz,qp a,cond_true,qw a,jd,ql7 a i,qgL (g:=qJ.Ba) a,wS j] using f
 have c:Ev (fun n=>qbB d n ([]:List ByteArray) 0) (d.Ai.map qaD.Ba,(d.Ai.length:Int)):=by
  refine loopF (Lf:=qbB d) (S:=fun j=>(d.Ai.take j).map qaD.Ba) (len:=d.Ai.length) (fun n=>?_) (fun j a X f=>?_)
  .simp only[qbB,qq (je _),cond_false,jG]
  .simpa only[qbB,qp a,cond_true,qw a,jd,ql7 a l,qgL (g:=qaD.Ba) a,wS j] using f
 unfold qfQ hasNamesB;refine Ev.bind b (Ev.bind c ?_);simp only[jt];rw[show decide ((d.Ab.length:Int)<=14)=decide (d.Ab.length<=14) from qlh (k:=14),show decide ((d.Ah.length:Int)<=30)=decide (d.Ah.length<=30) from qlh (k:=30),show decide ((d.Ai.length:Int)<=8)=decide (d.Ai.length<=8) from qlh (k:=8)];rw[Bool.and_assoc,Bool.and_assoc];exact Ev.andP fun _=>Ev.andP fun _=>Ev.andP fun _=>Ev.and (qj4 (qnQ h.Ab (fun x m=>m.Ba))) fun _=>Ev.and (qj4 h.Ah) fun _=>Ev.last (qj4 (qnQ h.Ai (fun x m=>m.Ba)))
def instB(l:qF)(d:qj)(x:qJ):Bool:=inI x.Bq 0 ((l.Ap.length:Int)-1)&&(((x.Ah.length:Int)==((gt l.Ap x.Bq.toNat).Ay.length:Int))&&x.Ah.all (netB d))
theorem qra{d:qj}{l:qF}{x:qJ}(g:d.Ah.length<=1048576)(h:l.Ap.length<=1048576)(a:x.Ah.length<=1048576):Ev (fun n=>qeI n d l x) (instB l d x):=by
 simp only[qeI,qg8,jd,qdR,qd7 (show l.Ap.length<=9223372036854775807 by omega)];unfold instB;refine Ev.andP fun c=>?_;rw[qaQ] at c;rw[qf4 c.1 (by omega)];simp only[jd];refine Ev.andP fun _=>Ev.bind (b:=x.Ah.any fun y=>!netB d y) ?_ (Ev.now (by rw[qoJ]));unfold qa7;exact Ev.bind (b:=ixL (fun y=>!netB d y) x.Ah) (qfj (fin:=(x.Ah.length:Int)) (Lf:=qU x.Ah d) (pf:=fun n y=>qdZ n y d) (fun y _=>⟨0,fun n _=>by simp only[qdZ,qq2 g,jd]⟩)
   (fun n=>by simp only[qU,qq (je _),cond_false])
   (fun n j y a=>by
    have f:=(List.getElem?_eq_some_iff.1 a).1;simp only[qU,qp f,cond_true,qgC a,jd,wS j])
   (fun n=>by unfold qbo;congr 1;funext o;cases o<;>rfl)) (Ev.now (by rw[qmC]))
def portB(d:qj)(p:qaD):Bool:=inI p.Bs 1 2&&netB d p.Bw
theorem qx6{x:Int}:inI x 1 2=((x==1) || (x==2)):=by
 unfold inI;rw[jj];simp;omega
def lastN(x:qJ):Int:=at0 x.Ah (x.Ah.length-1)
theorem qte{x:qJ}(a:1<=x.Ah.length)(b:x.Ah.length<=1048576):idx x.Ah (W64 ((x.Ah.length:Int)-1))=V (lastN x):=by
 rw[qd7 (by omega),show((x.Ah.length:Int)-1)=((x.Ah.length-1:Nat):Int) by omega,qaw (by omega)];rfl
theorem qvd{d:qj}{x:qJ}(a:1<=x.Ah.length)(h:x.Ah.all (netB d)=true):0<=lastN x/\lastN x<d.Ah.length:=by
 rw[qho (d:=0),qai] at h;have:=h (x.Ah.length-1) (by omega);unfold netB at this;rw[qaQ] at this;unfold lastN at0;omega
theorem qqH{l:qF}{d:qj}{x:qJ}(a:libB l=true)(h:instB l d x=true):1<=x.Ah.length/\0<=lastN x/\lastN x<d.Ah.length:=by
 unfold instB at h;simp only[jf,qaQ,beq_iff_eq] at h;obtain⟨g,i,f⟩:=h;unfold libB at a;simp only[jf] at a;have c:=a.1;rw[qjo,qai] at c;have:=qhx (qjF (c x.Bq.toNat (by omega)));have b:1<=x.Ah.length:=by omega
 exact⟨b,qvd b f⟩
def drvI(d:qj)(k j:Nat):Nat:=cntP (fun i=>lastN (gt d.Ab i)==(k:Int)) j
def drvP(d:qj)(k j:Nat):Nat:=cntP (fun i=>((gt d.Ai i).Bs==1)&&((gt d.Ai i).Bw==(k:Int))) j
def drvB(d:qj):Bool:=allN (fun k=>((drvI d k d.Ab.length+drvP d k d.Ai.length:Nat):Int)==1) d.Ah.length
def designB(l:qF)(d:qj):Bool:=(libB l&&hasNamesB d)&&(d.Ab.all (instB l d)&&(d.Ai.all (portB d)&&drvB d))
theorem qpG{d:qj}{k j:Nat}:drvI d k (j+1)=drvI d k j+(bif lastN (gt d.Ab j)==(k:Int) then 1 else 0):=rfl
theorem qnL{d:qj}{k j:Nat}:drvP d k (j+1)=drvP d k j+(bif ((gt d.Ai j).Bs==1)&&((gt d.Ai j).Bw==(k:Int)) then 1 else 0):=rfl
theorem qsO{l:qF}{d:qj}(h:qhn l)(g:qkE d):Ev (fun n=>qjN n l d) (designB l d):=by
 have I:=g.Ab.len;have J:=g.Ai.len;have i:=g.Ah.len;have v:=h.Ap.len;unfold qjN designB;refine Ev.guardB (Ev.or (qr0 h) fun _=>Ev.neg (qsS g)) fun z=>?_;rw[jf] at z;rw[qnM (m:=d.Ah.length) (by omega)];simp only[jd];have t:Ev (fun n=>qdE l d n (vecC (fun _=>0) d.Ah.length) 0) (bif allN (fun j=>instB l d (gt d.Ab j)) d.Ab.length then .nxt (vecC (fun k=>drvI d k d.Ab.length) d.Ah.length,(d.Ab.length:Int)) else .ret false):=by
  refine loopN (Lf:=qdE l d) (S:=fun j=>vecC (fun k=>drvI d k j) d.Ah.length) (fun j=>instB l d (gt d.Ab j)) (fun n=>?_) (fun j a K X f=>?_)
  .simp only[qdE,qq (je _),cond_false]
  .simp only[qdE,qp a,cond_true,qw a,jd,wS j];have p:=(qm9 g.Ab a).Ah.len;refine Ev.chk1 (qra i v p) fun hi=>?_;obtain⟨r,B,C⟩:=qqH z.1 hi;have L:drvI d (lastN (gt d.Ab j)).toNat j<=j:=qgM;obtain⟨e1,s⟩:=qlP (c:=fun k=>drvI d k j) (c':=fun k=>drvI d k (j+1)) B C (by show drvI _ _ _<_;omega) (fun k _=>qpG);simp only[qte r p,jd,e1,s];exact f hi
 have u:Ev (fun n=>qcR d n (vecC (fun k=>drvI d k d.Ab.length) d.Ah.length) 0) (bif allN (fun j=>portB d (gt d.Ai j)) d.Ai.length then .nxt (vecC (fun k=>drvI d k d.Ab.length+drvP d k d.Ai.length) d.Ah.length,(d.Ai.length:Int)) else .ret false):=by
  refine loopN (Lf:=qcR d) (S:=fun j=>vecC (fun k=>drvI d k d.Ab.length+drvP d k j) d.Ah.length) (fun j=>portB d (gt d.Ai j)) (fun n=>?_) (fun j a K X f=>?_)
  .simp only[qcR,qq (je _),cond_false]
  .simp only[qcR,qp a,cond_true,qw a,jd,qq2 i,bne,wS j];refine Ev.chkT1 ?_ fun hi=>?_
   .unfold portB;rw[qx6];cases ((gt d.Ai j).Bs==1)<;>cases ((gt d.Ai j).Bs==2)<;>exact .done
   .have f:=f hi;unfold portB netB at hi;simp only[jf,qaQ] at hi;have D:drvI d (gt d.Ai j).Bw.toNat d.Ab.length<=d.Ab.length:=qgM;have F:drvP d (gt d.Ai j).Bw.toNat j<=j:=qgM;cases r:((gt d.Ai j).Bs==1)
    .have:vecC (fun k=>drvI d k d.Ab.length+drvP d k (j+1)) d.Ah.length=vecC (fun k=>drvI d k d.Ab.length+drvP d k j) d.Ah.length:=by
      refine qk4 (fun k _=>?_);rw[qnL,r];rfl
     rw[this] at f;exact f
    .obtain⟨e1,s⟩:=qlP (c:=fun k=>drvI d k d.Ab.length+drvP d k j) (c':=fun k=>drvI d k d.Ab.length+drvP d k (j+1)) (x:=(gt d.Ai j).Bw) (m:=d.Ah.length) hi.2.1 (by omega) (by show drvI _ _ _+drvP _ _ _<_;omega) (fun k _=>by rw[qnL,r,jy];omega);simp only[cond_true,jd,e1,s];exact f
 rw[qjo,qjo];refine Ev.bind t ?_;cases allN (fun j=>instB l d (gt d.Ab j)) d.Ab.length
 .exact .done
 .refine Ev.bind u ?_;cases allN (fun j=>portB d (gt d.Ai j)) d.Ai.length
  .exact .done
  .simp only[cond_true,jy];unfold qb8;refine Ev.bind (b:=(vecC (fun k=>drvI d k d.Ab.length+drvP d k d.Ai.length) d.Ah.length).any fun x=>!(x==1)) (Ev.bind (b:=ixL (fun x=>!(x==1)) (vecC (fun k=>drvI d k d.Ab.length+drvP d k d.Ai.length) d.Ah.length)) (qfj (fin:=(((vecC (fun k=>drvI d k d.Ab.length+drvP d k d.Ai.length) d.Ah.length).length:Nat):Int)) (Lf:=qat (vecC (fun k=>drvI d k d.Ab.length+drvP d k d.Ai.length) d.Ah.length)) (pf:=fun n y=>qkf n y) (fun y _=>.done)
    (fun n=>by simp only[qat,qq (je _),cond_false])
    (fun n j y A=>by
     have a:=(List.getElem?_eq_some_iff.1 A).1;have:j<d.Ah.length:=by rw[qnz] at a;exact a
     simp only[qat,qp a,cond_true,qgC A,jd,wS j])
    (fun n=>by unfold qcu;congr 1;funext o;cases o<;>rfl)) (Ev.now (by rw[qmC]))) (Ev.now ?_)
   rw[qoJ,qho (d:=0),qnz];unfold drvB
   congr 1
   exact qiD (fun k H=>by
    have:=qth (c:=fun k=>drvI d k d.Ab.length+drvP d k d.Ai.length) H;unfold at0 at this;rw[this])
theorem qsM{l:qF}{d:qj}(h:qhn l)(f:qkE d):Ev (fun n=>qjT n l d) (d.Ab.all (instB l d)&&d.Ai.all (portB d)):=by
 have r:=f.Ab.len;have s:=f.Ai.len;have c:=f.Ah.len;have p:=h.Ap.len;have i:∀x:qJ,x.Ah.length<=1048576->Ev (fun n=>qe4 d x n 0) (bif x.Ah.all (netB d) then .nxt (x.Ah.length:Int) else .ret false):=fun x t=>
  qoM (fun n=>by simp only[qe4,qq (je _),cond_false]) (fun j a X b=>by
   simp only[qe4,qp a,cond_true,qaZ a,jd,qoX c,wS j,qcb];exact Ev.okP1 fun _=>b)
 have g:Ev (fun n=>qfb l d n 0) (bif allN (fun j=>instB l d (gt d.Ab j)) d.Ab.length then .nxt (d.Ab.length:Int) else .ret false):=by
  refine qeo ?_ (fun j a X b=>Ev.succ ?_)
  .exact Ev.succ (by simp only[qfb,qq (je _),cond_false];exact .done)
  .simp only[qfb,qp a,cond_true,qw a,jd,qc1,qd7 (show l.Ap.length<=9223372036854775807 by omega),wS j,bne];have m:=(qm9 f.Ab a).Ah.len;unfold instB;rw[<-Bool.and_assoc];refine Ev.chkT ?_ fun _=>Ev.bind (i _ m) ?_
   .simp only[qcb];refine Ev.orBP fun o=>?_;rw[qaQ] at o;rw[qf4 o.1 (by omega)];exact .done
   .cases (gt d.Ab j).Ah.all (netB d)
    .exact .done
    .exact b
 have k:Ev (fun n=>qe2 d n 0) (bif allN (fun j=>portB d (gt d.Ai j)) d.Ai.length then .nxt (d.Ai.length:Int) else .ret false):=by
  refine qeo ?_ (fun j a X b=>Ev.succ ?_)
  .exact Ev.succ (by simp only[qe2,qq (je _),cond_false];exact .done)
  .simp only[qe2,qp a,cond_true,qw a,jd,qoX c,wS j];simp only[qc1,jd,qcb];unfold portB;exact Ev.okP fun _=>Ev.okP1 fun _=>b
 unfold qjT;rw[qjo,qjo];refine Ev.bind g ?_;cases allN (fun j=>instB l d (gt d.Ab j)) d.Ab.length
 .exact .done
 .refine Ev.bind k ?_;cases allN (fun j=>portB d (gt d.Ai j)) d.Ai.length<;>exact .done
theorem qsk{l:qF}{d:qj}(h:qhn l)(i:qkE d):Ev (fun n=>qjL n l d) (designB l d):=by
 have J:=i.Ab.len;have K:=i.Ai.len;have W:=i.Ah.len;have T:=h.Ap.len;have e:designB l d=((libB l&&(decide (d.Ab.length<=14)&&(decide (d.Ah.length<=30)&&(decide (d.Ai.length<=8)&&(d.Ab.all (instB l d)&&d.Ai.all (portB d))))))&&((namesB (d.Ab.map qJ.Ba)&&(namesB (d.Ai.map qaD.Ba)&&namesB d.Ah))&&drvB d)):=by
  unfold designB hasNamesB;generalize libB l=a1;generalize decide (d.Ab.length<=14)=a2;generalize decide (d.Ah.length<=30)=a3;generalize decide (d.Ai.length<=8)=a4;generalize d.Ab.all (instB l d)=a5;generalize d.Ai.all (portB d)=a6;generalize namesB (d.Ab.map qJ.Ba)=a7;generalize namesB (d.Ai.map qaD.Ba)=a8;generalize namesB d.Ah=a9;generalize drvB d=a10;rw[jj];simp only[jf];constructor
  .rintro⟨⟨f,⟨p,r,u⟩,z,B,A⟩,v,y,o⟩;exact⟨⟨f,p,r,u,v,y⟩,⟨z,A,B⟩,o⟩
  .rintro⟨⟨f,p,r,u,v,y⟩,⟨z,A,B⟩,o⟩;exact⟨⟨f,⟨p,r,u⟩,z,B,A⟩,v,y,o⟩
 rw[e];unfold qjL;refine Ev.guardB ?_ fun P=>?_
 .refine Ev.or (qrg h) fun _=>?_;rw[show decide ((d.Ab.length:Int) > 14) = !decide (d.Ab.length<=14) by rw[jj];simp;omega,show decide ((d.Ah.length:Int) > 30) = !decide (d.Ah.length<=30) by rw[jj];simp;omega,show decide ((d.Ai.length:Int) > 8) = !decide (d.Ai.length<=8) by rw[jj];simp;omega];simp only[qcb];exact Ev.orBP fun _=>Ev.orBP fun _=>Ev.orBP fun _=>Ev.neg (qsM h i)
 .simp only[jf] at P;obtain⟨s,_,_,_,N,O⟩:=P;rw[qjo,qai] at N O;have C:Ev (fun n=>qdS d n ([]:List ByteArray) 0) (d.Ab.map qJ.Ba,(d.Ab.length:Int)):=by
   refine loopF (Lf:=qdS d) (S:=fun j=>(d.Ab.take j).map qJ.Ba) (len:=d.Ab.length) (fun n=>?_) (fun j a X b=>?_)
   .simp only[qdS,qq (je _),cond_false,jG]
   .simpa only[qdS,qp a,cond_true,qw a,jd,ql7 a J,qgL (g:=qJ.Ba) a,wS j] using b
  have D:Ev (fun n=>qdU d n ([]:List ByteArray) 0) (d.Ai.map qaD.Ba,(d.Ai.length:Int)):=by
   refine loopF (Lf:=qdU d) (S:=fun j=>(d.Ai.take j).map qaD.Ba) (len:=d.Ai.length) (fun n=>?_) (fun j a X b=>?_)
   .simp only[qdU,qq (je _),cond_false,jG]
   .simpa only[qdU,qp a,cond_true,qw a,jd,ql7 a K,qgL (g:=qaD.Ba) a,wS j] using b
  have F:Ev (fun n=>qdT d n (vecC (fun _=>0) d.Ah.length) 0) (vecC (fun k=>drvI d k d.Ab.length) d.Ah.length,(d.Ab.length:Int)):=by
   refine loopF (Lf:=qdT d) (S:=fun j=>vecC (fun k=>drvI d k j) d.Ah.length) (len:=d.Ab.length) (fun n=>?_) (fun j a X b=>?_)
   .simp only[qdT,qq (je _),cond_false]
   .have M:=(qm9 i.Ab a).Ah.len;obtain⟨f,p,r⟩:=qqH s (N j a);have Y:drvI d (lastN (gt d.Ab j)).toNat j<=j:=qgM;obtain⟨e1,t⟩:=qlP (c:=fun k=>drvI d k j) (c':=fun k=>drvI d k (j+1)) p r (by show drvI _ _ _<_;omega) (fun k _=>qpG);simpa only[qdT,qp a,cond_true,qw a,jd,wS j,qte f M,e1,t] using b
  have H:Ev (fun n=>qcU d n (vecC (fun k=>drvI d k d.Ab.length) d.Ah.length) 0) (vecC (fun k=>drvI d k d.Ab.length+drvP d k d.Ai.length) d.Ah.length,(d.Ai.length:Int)):=by
   refine loopF (Lf:=qcU d) (S:=fun j=>vecC (fun k=>drvI d k d.Ab.length+drvP d k j) d.Ah.length) (len:=d.Ai.length) (fun n=>?_) (fun j a X b=>?_)
   .simp only[qcU,qq (je _),cond_false]
   .have hi:=O j a;unfold portB netB at hi;simp only[jf,qaQ] at hi;have Q:drvI d (gt d.Ai j).Bw.toNat d.Ab.length<=d.Ab.length:=qgM;have R:drvP d (gt d.Ai j).Bw.toNat j<=j:=qgM;simp only[qcU,qp a,cond_true,qw a,jd,wS j];cases f:((gt d.Ai j).Bs==1)
    .have:vecC (fun k=>drvI d k d.Ab.length+drvP d k (j+1)) d.Ah.length=vecC (fun k=>drvI d k d.Ab.length+drvP d k j) d.Ah.length:=by
      refine qk4 (fun k _=>?_);rw[qnL,f];rfl
     rw[this] at b;exact b
    .obtain⟨e1,t⟩:=qlP (c:=fun k=>drvI d k d.Ab.length+drvP d k j) (c':=fun k=>drvI d k d.Ab.length+drvP d k (j+1)) (x:=(gt d.Ai j).Bw) (m:=d.Ah.length) hi.2.1 (by omega) (by show drvI _ _ _+drvP _ _ _<_;omega) (fun k _=>by rw[qnL,f,jy];omega);simp only[cond_true,jd,e1,t];exact b
  have I:Ev (fun n=>qe7 (vecC (fun _=>0) d.Ah.length) (vecC (fun k=>drvI d k d.Ab.length+drvP d k d.Ai.length) d.Ah.length) n 0) (bif drvB d then .nxt (d.Ah.length:Int) else .ret false):=by
   refine qeo ?_ (fun j a X b=>Ev.succ ?_)
   .exact Ev.succ (by simp only[qe7,qnz,qq (je _),cond_false];exact .done)
   .simp only[qe7,qnz,qp a,cond_true,qk3 a,jd,bne,qcb,wS j];exact Ev.okP1 fun _=>b
  refine Ev.bind C (Ev.bind D ?_);refine Ev.guardB (Ev.or (qm3 (qnQ i.Ab (fun x L=>L.Ba))) fun _=>Ev.or (qm3 (qnQ i.Ai (fun x L=>L.Ba))) fun _=>Ev.neg (qm3 i.Ah)) fun _=>?_;rw[qnM (m:=d.Ah.length) (by omega)];simp only[jd];refine Ev.bind F (Ev.bind H (Ev.bind I ?_));cases drvB d<;>exact .done

theorem qw9{m k:Nat}:decide ((m:Int)<(k:Int)) = !decide (k<=m):=by rw[jj];simp
theorem qxi{m k:Nat}:decide ((m:Int) > (k:Int)) = !decide (m<=k):=by rw[jj];simp
def treeB(w:qah)(j:Nat):Bool:=bif decide (j=0) then(at0 w.Aj j==-1)&&(at0 w.Br j==0) else inI (at0 w.Aj j) 0 ((j:Int)-1)
def wireB(w:qah)(s:Int):Bool:=
 lenB w.Aj 1 8&&(((w.Br.length:Int)==(w.Aj.length:Int))&&(((w.Bl.length:Int)==(w.Aj.length:Int))&&(allN (treeB w) w.Aj.length &&
  ((w.Br.all fun x=>inI x 0 1000)&&((w.Bl.all fun x=>inI x 0 500)&&(((w.Bb.length:Int)==s)&&(w.Bb.all fun x=>inI x 0 ((w.Aj.length:Int)-1))))))))
theorem quy{w:qah}(i:w.Aj.length<=1048576)(h:((w.Br.length:Int)==(w.Aj.length:Int))=true):Ev (fun n=>qhS n w) (allN (treeB w) w.Aj.length):=by
 rw[beq_iff_eq] at h;have g:Ev (fun n=>qbu w n 0) (bif allN (treeB w) w.Aj.length then .nxt (w.Aj.length:Int) else .ret false):=by
  refine qeo ?_ (fun j b X a=>Ev.succ ?_)
  .exact Ev.succ (by simp only[qbu,qq (je _),cond_false];exact .done)
  .simp only[qbu,qp b,cond_true,qaw b,jd,qdR,wS j,bne,qcb];unfold treeB;by_cases f:j=0
   .subst f;rw[show idx w.Br (0:Int)=V (at0 w.Br 0) from qaw (j:=0) (by omega)];simp only[jd];refine Ev.tt (by simp) (Ev.okP fun _=>Ev.okP1 fun _=>Ev.ff (by simp) a)
   .have e1:decide (j=0)=false:=by simp;omega
    have c:((j:Int)==0)=false:=by simp;omega
    have d:decide ((j:Int) > 0)=true:=by simp;omega
    rw[e1,c,d,qd7 (show j<=9223372036854775807 by omega)];simp only[cond_false,cond_true];exact Ev.okP1 fun _=>a
 unfold qhS;refine Ev.bind g ?_;cases allN (treeB w) w.Aj.length<;>exact .done
theorem qu2{w:qah}{s:Int}(h:qoV w):Ev (fun n=>qlm n w s) (wireB w s):=by
 have a:=h.Aj.len;simp only[qlm,qbH,jd,qdR,qd7 (show w.Aj.length<=9223372036854775807 by omega)];unfold wireB;rw[show inI (w.Aj.length:Int) 1 8=lenB w.Aj 1 8 from qr3 (lo:=1) (hi:=8)];exact Ev.andP fun _=>Ev.andP fun b=>Ev.andP fun _=>Ev.and (quy a b) fun _=>Ev.and (qeL h.Br.len) fun _=>Ev.and (qeL h.Bl.len) fun _=>Ev.andP fun _=>Ev.last (qeL h.Bb.len)
theorem qtt{w:qah}{s:Int}(h:qoV w):Ev (fun n=>qle n w s) (wireB w s):=by
 have r:=h.Aj.len;have o:=h.Bb.len;have e:wireB w s=((decide (1<=w.Aj.length)&&(decide (w.Aj.length<=8)&&(((w.Br.length:Int)==(w.Aj.length:Int))&&(((w.Bl.length:Int)==(w.Aj.length:Int))&&((w.Bb.length:Int)==s)))))&&(allN (fun j=>(inI (at0 w.Bl j) 0 500&&inI (at0 w.Br j) 0 1000)&&treeB w j) w.Aj.length&&(w.Bb.all fun x=>inI x 0 ((w.Aj.length:Int)-1)))):=by
  unfold wireB lenB;cases h1:((w.Br.length:Int)==(w.Aj.length:Int))
  .simp
  .cases h2:((w.Bl.length:Int)==(w.Aj.length:Int))
   .simp
   .rw[beq_iff_eq] at h1 h2;rw[qlX,qlX];rw[qho (p:=fun x=>inI x 0 1000) (d:=0),qho (p:=fun x=>inI x 0 500) (d:=0),show w.Br.length=w.Aj.length by omega,show w.Bl.length=w.Aj.length by omega];show _=(_&&((allN (fun j=>inI (w.Bl.getD j 0) 0 500) _&&allN (fun j=>inI (w.Br.getD j 0) 0 1000) _&&_)&&_));generalize allN (fun j=>inI (w.Bl.getD j 0) 0 500) w.Aj.length=a1;generalize allN (fun j=>inI (w.Br.getD j 0) 0 1000) w.Aj.length=a2;generalize allN (fun j=>treeB w j) w.Aj.length=a3;generalize ((w.Bb.length:Int)==s)=a4;generalize decide (1<=w.Aj.length)=a5;generalize decide (w.Aj.length<=8)=a6;generalize (w.Bb.all fun x=>inI x 0 ((w.Aj.length:Int)-1))=a7;cases a1<;>cases a2<;>cases a3<;>cases a4<;>cases a5<;>cases a6<;>rfl
 rw[e];unfold qle;refine Ev.guardB ?_ fun m=>?_
 .rw[show decide ((w.Aj.length:Int)<1) = !decide (1<=w.Aj.length) from qw9 (k:=1),show decide ((w.Aj.length:Int) > 8) = !decide (w.Aj.length<=8) from qxi (k:=8)];simp only[bne,qcb];exact Ev.orBP fun _=>Ev.orBP fun _=>Ev.orBP fun _=>Ev.orBP fun _=>.done
 .simp only[jf,beq_iff_eq] at m;have c:Ev (fun n=>qc4 w n 0) (bif allN (fun j=>(inI (at0 w.Bl j) 0 500&&inI (at0 w.Br j) 0 1000)&&treeB w j) w.Aj.length then .nxt (w.Aj.length:Int) else .ret false):=by
   refine qeo ?_ (fun j a X b=>Ev.succ ?_)
   .exact Ev.succ (by simp only[qc4,qq (je _),cond_false];exact .done)
   .simp only[qc4,qp a,cond_true,qaw a,qaw (show j<w.Bl.length by omega),qaw (show j<w.Br.length by omega),jd,qc1,wS j,bne,qcb];refine Ev.chkT (Ev.orBP fun _=>.done) fun _=>?_;unfold treeB;by_cases l:j=0
    .subst l;refine Ev.tt (by simp) (Ev.okP fun _=>Ev.okP1 fun _=>Ev.ff (by simp) b)
    .have e1:decide (j=0)=false:=by simp;omega
     have g:((j:Int)==0)=false:=by simp;omega
     have i:decide ((j:Int) > 0)=true:=by simp;omega
     rw[e1,g,i,qd7 (show j<=9223372036854775807 by omega)];simp only[cond_false,cond_true];exact Ev.okP1 fun _=>b
  have f:Ev (fun n=>qgy w n 0) (bif (w.Bb.all fun x=>inI x 0 ((w.Aj.length:Int)-1)) then .nxt (w.Bb.length:Int) else .ret false):=
   qoM (fun n=>by simp only[qgy,qq (je _),cond_false]) (fun j a X b=>by
    simp only[qgy,qp a,cond_true,qaZ a,jd,qc1,qd7 (show w.Aj.length<=9223372036854775807 by omega),wS j,qcb];exact Ev.okP1 fun _=>b)
  refine Ev.bind c ?_;cases allN (fun j=>(inI (at0 w.Bl j) 0 500&&inI (at0 w.Br j) 0 1000)&&treeB w j) w.Aj.length
  .exact .done
  .refine Ev.bind f ?_;cases (w.Bb.all fun x=>inI x 0 ((w.Aj.length:Int)-1))<;>exact .done
instance:Inhabited Tplace:=⟨⟨0,0,0,false⟩⟩
instance:Inhabited Tl05Place:=⟨⟨0,0,0,false⟩⟩
def toSp(p:Tplace):Tl05Place:=⟨p.instance_,p.pin,p.net,p.drives⟩
def plX(i:Nat)(x:qJ)(j:Nat):List Tplace:=(List.range j).map fun(k:Nat)=>⟨(i:Int),(k:Int),at0 x.Ah k,decide (k+1=x.Ah.length)⟩
def plI(d:qj)(j:Nat):List Tplace:=(List.range j).flatMap fun(i:Nat)=>plX i (gt d.Ab i) (gt d.Ab i).Ah.length
def plP(d:qj)(j:Nat):List Tplace:=(List.range j).map fun(i:Nat)=>⟨-1,(i:Int),(gt d.Ai i).Bw,(gt d.Ai i).Bs==1⟩
def places(d:qj):List Tplace:=plI d d.Ab.length++plP d d.Ai.length
theorem qsR{i:Nat}{x:qJ}{j:Nat}:plX i x (j+1)=plX i x j++[⟨(i:Int),(j:Int),at0 x.Ah j,decide (j+1=x.Ah.length)⟩]:=by
 unfold plX;rw[List.range_succ,jZ];rfl
theorem qm1{d:qj}{j:Nat}:plI d (j+1)=plI d j++plX j (gt d.Ab j) (gt d.Ab j).Ah.length:=by
 unfold plI;rw[List.range_succ,List.flatMap_append];simp
theorem qsY{d:qj}{j:Nat}:plP d (j+1)=plP d j++[⟨-1,(j:Int),(gt d.Ai j).Bw,(gt d.Ai j).Bs==1⟩]:=by
 unfold plP;rw[List.range_succ,jZ];rfl
theorem qqc{i:Nat}{x:qJ}{j:Nat}:(plX i x j).length=j:=by simp[plX]
theorem qqi{d:qj}{j:Nat}:(plP d j).length=j:=by simp[plP]
structure smallD(d:qj):Prop where
 ni:d.Ab.length<=14
 nn:d.Ah.length<=30
 np:d.Ai.length<=8
 nx:∀i,i<d.Ab.length->2<=(gt d.Ab i).Ah.length/\(gt d.Ab i).Ah.length<=5
theorem qZ{l:qF}{d:qj}(h:designB l d=true):smallD d:=by
 unfold designB hasNamesB libB at h;simp only[jf,decide_eq_true_eq] at h;obtain⟨⟨⟨b,_⟩,⟨c,f,g⟩,_⟩,a,_⟩:=h;refine⟨c,f,g,fun i hi=>?_⟩;rw[qjo,qai] at a b;have:=a i hi;unfold instB at this;simp only[jf,qaQ,beq_iff_eq] at this;have k:=qhx (qjF (b (gt d.Ab i).Bq.toNat (by omega)));omega
theorem qoK{d:qj}(h:smallD d){j:Nat}(a:j<=d.Ab.length):(plI d j).length<=5*j:=by
 induction j with
 |zero=>exact je _
 |succ j ih=>
  rw[qm1,jg,qqc];have:=ih (by omega);have:=h.nx j (by omega);omega
theorem qaW{d:qj}(h:smallD d):(places d).length<=78:=by
 unfold places;rw[jg,qqi];have:=qoK h (je _);have:=h.ni;have:=h.np;omega
theorem qnG{d:qj}(h:smallD d):Ev (fun n=>qcJ n d) (places d):=by
 have l:=h.ni;have m:=h.np;have f:∀i,i<d.Ab.length->∀pre:List Tplace,pre.length<=100->Ev (fun n=>qb3 (i:Int) (gt d.Ab i) n pre 0) (pre++plX i (gt d.Ab i) (gt d.Ab i).Ah.length,((gt d.Ab i).Ah.length:Int)):=by
  intro i hi pre p;have o:=h.nx i hi;have:=loopF (Lf:=qb3 (i:Int) (gt d.Ab i)) (S:=fun j=>pre++plX i (gt d.Ab i) j) (len:=(gt d.Ab i).Ah.length) (fin:=(pre++plX i (gt d.Ab i) (gt d.Ab i).Ah.length,((gt d.Ab i).Ah.length:Int))) (fun n=>by
    simp only[qb3,qq (je _),cond_false])
   (fun j a X b=>by
    have k:(pre++plX i (gt d.Ab i) j).length+[(⟨(i:Int),(j:Int),at0 (gt d.Ab i).Ah j,decide (j+1=(gt d.Ab i).Ah.length)⟩:Tplace)].length<=2147483648:=by
     rw[jg,qqc];simp;omega
    simp only[qb3,qp a,cond_true,qaw a,jd,lastE a (show(gt d.Ab i).Ah.length<=1048576 by omega),qcA k,jv,<-qsR,wS j];exact b)
  simpa [plX] using this
 have c:Ev (fun n=>qb2 d n ([]:List Tplace) 0) (plI d d.Ab.length,(d.Ab.length:Int)):=by
  refine loopF (Lf:=qb2 d) (S:=fun j=>plI d j) (len:=d.Ab.length) (fun n=>?_) (fun j a X b=>?_)
  .simp only[qb2,qq (je _),cond_false]
  .simp only[qb2,qp a,cond_true,qw a,jd,wS j];refine Ev.bind (f j a _ (by have:=qoK h (Nat.le_of_lt a);omega)) ?_;rw[<-qm1];exact b
 have g:Ev (fun n=>qb1 d n (plI d d.Ab.length) 0) (places d,(d.Ai.length:Int)):=by
  have:=loopF (Lf:=qb1 d) (S:=fun j=>plI d d.Ab.length++plP d j) (len:=d.Ai.length) (fin:=(places d,(d.Ai.length:Int))) (fun n=>by
    simp only[qb1,qq (je _),cond_false];rfl)
   (fun j a X b=>by
    have k:(plI d d.Ab.length++plP d j).length+[(⟨-1,(j:Int),(gt d.Ai j).Bw,(gt d.Ai j).Bs==1⟩:Tplace)].length<=2147483648:=by
     rw[jg,qqi];have:=qoK h (je _);simp;omega
    simp only[qb1,qp a,cond_true,qw a,jd,qcA k,jv,<-qsY,wS j];exact b)
  simpa [plP] using this
 unfold qcJ;exact Ev.bind c (Ev.bind g .done)
theorem qhB{d:qj}(h:smallD d):Ev (fun n=>qcc n d) ((places d).map toSp):=by
 have l:=h.ni;have m:=h.np;have f:∀i,i<d.Ab.length->∀pre:List Tplace,pre.length<=100->Ev (fun n=>qc7 (i:Int) (gt d.Ab i) n (pre.map toSp) 0) ((pre++plX i (gt d.Ab i) (gt d.Ab i).Ah.length).map toSp,((gt d.Ab i).Ah.length:Int)):=by
  intro i hi pre p;have o:=h.nx i hi;have:=loopF (Lf:=qc7 (i:Int) (gt d.Ab i)) (S:=fun j=>(pre++plX i (gt d.Ab i) j).map toSp) (len:=(gt d.Ab i).Ah.length) (fin:=((pre++plX i (gt d.Ab i) (gt d.Ab i).Ah.length).map toSp,((gt d.Ab i).Ah.length:Int))) (fun n=>by
    simp only[qc7,qq (je _),cond_false])
   (fun j a X b=>by
    have k:((pre++plX i (gt d.Ab i) j).map toSp).length+[(⟨(i:Int),(j:Int),at0 (gt d.Ab i).Ah j,decide (j+1=(gt d.Ab i).Ah.length)⟩:Tl05Place)].length<=2147483648:=by
     rw[jt,jg,qqc];simp;omega
    simp only[qc7,qp a,cond_true,qaw a,jd,lastE a (show(gt d.Ab i).Ah.length<=1048576 by omega),qcA k,wS j];rw[qsR,<-jv,jZ] at b;exact b)
  simpa [plX] using this
 have c:Ev (fun n=>qdb d n ([]:List Tl05Place) 0) ((plI d d.Ab.length).map toSp,(d.Ab.length:Int)):=by
  refine loopF (Lf:=qdb d) (S:=fun j=>(plI d j).map toSp) (len:=d.Ab.length) (fun n=>?_) (fun j a X b=>?_)
  .simp only[qdb,qq (je _),cond_false]
  .simp only[qdb,qp a,cond_true,qw a,jd,wS j];refine Ev.bind (f j a _ (by have:=qoK h (Nat.le_of_lt a);omega)) ?_;rw[<-qm1];exact b
 have g:Ev (fun n=>qda d n ((plI d d.Ab.length).map toSp) 0) ((places d).map toSp,(d.Ai.length:Int)):=by
  have:=loopF (Lf:=qda d) (S:=fun j=>(plI d d.Ab.length++plP d j).map toSp) (len:=d.Ai.length) (fin:=((places d).map toSp,(d.Ai.length:Int))) (fun n=>by
    simp only[qda,qq (je _),cond_false];rfl)
   (fun j a X b=>by
    have k:((plI d d.Ab.length++plP d j).map toSp).length+[(⟨-1,(j:Int),(gt d.Ai j).Bw,(gt d.Ai j).Bs==1⟩:Tl05Place)].length<=2147483648:=by
     rw[jt,jg,qqi];have:=qoK h (je _);simp;omega
    simp only[qda,qp a,cond_true,qw a,jd,qcA k,wS j];rw[qsY,<-jv,jZ] at b;exact b)
  simpa [plP] using this
 unfold qcc;exact Ev.bind c (Ev.bind g .done)
def snkQ(d:qj)(k:Int)(i:Nat):Bool:=((gt (places d) i).net==k)&&!(gt (places d) i).drives
def sinksL(d:qj)(k:Int)(j:Nat):List Int:=((List.range j).filter (snkQ d k)).map fun(i:Nat)=>(i:Int)
def snkN(d:qj)(k:Int):Nat:=cntP (snkQ d k) (places d).length
theorem qj2{d:qj}{k:Int}{j:Nat}:sinksL d k (j+1)=sinksL d k j++(bif snkQ d k j then[(j:Int)] else[]):=by
 unfold sinksL;rw[List.range_succ,List.filter_append,jZ]
 congr 1
 cases h:snkQ d k j<;>simp[h]
theorem qjw{d:qj}{k:Int}{j:Nat}:(sinksL d k j).length=cntP (snkQ d k) j:=by
 induction j with
 |zero=>rfl
 |succ j ih=>
  rw[qj2,jg,ih];show _=cntP (snkQ d k) j+_
  congr 1
  cases snkQ d k j<;>rfl
theorem qn5{α β:Type}[Inhabited α][Inhabited β]{xs:List α}{g:α->β}{j:Nat}(h:j<xs.length):gt (xs.map g) j=g (gt xs j):=by
 rw[qeV (by simpa using h),qeV h];simp
theorem qls{d:qj}{k:Int}(h:smallD d):Ev (fun n=>qf5 n d k) (sinksL d k (places d).length):=by
 have l:=qaW h;have g:Ev (fun n=>qcT k ((places d).map toSp) n ([]:List Int) 0) (sinksL d k (places d).length,((places d).length:Int)):=by
  refine loopF (Lf:=qcT k ((places d).map toSp)) (S:=fun j=>sinksL d k j) (len:=(places d).length) (fun n=>?_) (fun j f X a=>?_)
  .simp only[qcT,jt,qq (je _),cond_false]
  .have c:j<((places d).map toSp).length:=by simpa using f
   have i:(sinksL d k j).length+[(j:Int)].length<=2147483648:=by
    rw[qjw];have:cntP (snkQ d k) j<=j:=qgM;simp;omega
   simp only[qcT,qp c,cond_true,qw c,qn5 f,jd,wS j];rw[show ∀p:Tplace,(toSp p).net=p.net from fun _=>rfl,show ∀p:Tplace,(toSp p).drives=p.drives from fun _=>rfl];refine Ev.bind (b:=snkQ d k j) (Ev.andP fun _=>.done) ?_;rw[qj2] at a;cases hq:snkQ d k j
   .rw[hq] at a;simp only[cond_false,jY] at a⊢;exact a
   .rw[hq] at a;simp only[cond_true,qcA i,jd] at a⊢;exact a
 unfold qf5;exact Ev.bind (qhB h) (Ev.bind g .done)
theorem qmy{l:qF}{d:qj}(h:designB l d=true){i:Nat}(hi:i<(places d).length):0<=(gt (places d) i).net/\(gt (places d) i).net<d.Ah.length:=by
 unfold designB at h;simp only[jf] at h;obtain⟨_,f,g,_⟩:=h;rw[qjo,qai] at f g;have a:gt (places d) i∈places d:=by rw[qeV hi];exact jo hi
 generalize gt (places d) i=p at a;unfold places at a;rcases List.mem_append.1 a with a|a
 .unfold plI at a;obtain⟨i,hi,a⟩:=List.mem_flatMap.1 a;unfold plX at a;obtain⟨k,m,rfl⟩:=List.mem_map.1 a;have:=f i (List.mem_range.1 hi);unfold instB at this;simp only[jf] at this;have b:=this.2.2;rw[qho (d:=0),qai] at b;have c:=b k (List.mem_range.1 m);unfold netB at c;rw[qaQ] at c;show 0<=at0 _ _/\at0 _ _<_;unfold at0;omega
 .unfold plP at a;obtain⟨i,hi,rfl⟩:=List.mem_map.1 a;have:=g i (List.mem_range.1 hi);unfold portB netB at this;simp only[jf,qaQ] at this;show 0<=(gt d.Ai i).Bw/\(gt d.Ai i).Bw<_;omega
def blockB(b:qd):Bool:=(designB b.Am b.Aa&&((b.Ac.length:Int)==(b.Aa.Ah.length:Int)))&&allN (fun j=>wireB (gt b.Ac j) (snkN b.Aa (j:Int))) b.Ac.length
theorem qjx{b:qd}(h:qg1 b):Ev (fun n=>qeQ n b) (blockB b):=by
 have r:=h.Ac.len;unfold qeQ blockB;refine Ev.guardB (Ev.or (qsO h.Am h.Aa) fun _=>.done) fun l=>?_;rw[jf,beq_iff_eq] at l;obtain⟨o,y⟩:=l;have i:=qZ o;have u:=qaW i;have v:=i.nn;rw[qnM (m:=b.Ac.length) (by omega)];simp only[jd];have f:Ev (fun n=>qdu (places b.Aa) n (vecC (fun _=>0) b.Ac.length) 0) (vecC (fun k=>snkN b.Aa (k:Int)) b.Ac.length,((places b.Aa).length:Int)):=by
  refine loopF (Lf:=qdu (places b.Aa)) (S:=fun j=>vecC (fun k=>cntP (snkQ b.Aa (k:Int)) j) b.Ac.length) (len:=(places b.Aa).length) (fun n=>?_) (fun j a X d=>?_)
  .simp only[qdu,qq (je _),cond_false];rfl
  .simp only[qdu,qp a,cond_true,qw a,jd,wS j];obtain⟨s,n1⟩:=qmy o a;cases h1:(gt (places b.Aa) j).drives
   .have t:cntP (snkQ b.Aa (((gt (places b.Aa) j).net.toNat:Nat):Int)) j<=j:=qgM;obtain⟨e1,p⟩:=qlP (c:=fun k=>cntP (snkQ b.Aa (k:Int)) j) (c':=fun k=>cntP (snkQ b.Aa (k:Int)) (j+1)) (x:=(gt (places b.Aa) j).net) (m:=b.Ac.length) s (by omega) (by show cntP _ _<_;omega) (fun k _=>by
     show cntP _ j+(bif snkQ b.Aa (k:Int) j then 1 else 0)=_;unfold snkQ;rw[h1,Bool.not_false,Bool.and_true])
    simp only[Bool.not_false,cond_true,jd,e1,p];exact d
   .have:vecC (fun k=>cntP (snkQ b.Aa (k:Int)) (j+1)) b.Ac.length=vecC (fun k=>cntP (snkQ b.Aa (k:Int)) j) b.Ac.length:=by
     refine qk4 (fun k _=>?_);show cntP _ j+(bif snkQ b.Aa (k:Int) j then 1 else 0)=_;unfold snkQ;rw[h1,Jh,Bool.and_false];rfl
    rw[this] at d;exact d
 have g:Ev (fun n=>qfH b (vecC (fun k=>snkN b.Aa (k:Int)) b.Ac.length) n 0) (bif allN (fun j=>wireB (gt b.Ac j) (snkN b.Aa (j:Int))) b.Ac.length then .nxt (b.Ac.length:Int) else .ret false):=by
  refine qeo ?_ (fun j a X d=>Ev.succ ?_)
  .exact Ev.succ (by simp only[qfH,qq (je _),cond_false];exact .done)
  .simp only[qfH,qp a,cond_true,qw a,qk3 a,jd,wS j];exact Ev.chk1 (qu2 (qm9 h.Ac a)) fun _=>d
 refine Ev.bind (qnG i) (Ev.bind f (Ev.bind g ?_));cases allN (fun j=>wireB (gt b.Ac j) (snkN b.Aa (j:Int))) b.Ac.length<;>exact .done
theorem qf0{b:qd}(h:qg1 b):Ev (fun n=>qco n b) (blockB b):=by
 have i:=h.Ac.len;unfold qco blockB;refine Ev.guardB (Ev.or (qsk h.Am h.Aa) fun _=>.done) fun c=>?_;rw[jf] at c;have g:=qZ c.1;have d:Ev (fun n=>qfI b n 0) (bif allN (fun j=>wireB (gt b.Ac j) (snkN b.Aa (j:Int))) b.Ac.length then .nxt (b.Ac.length:Int) else .ret false):=by
  refine qeo ?_ (fun j a X f=>Ev.succ ?_)
  .exact Ev.succ (by simp only[qfI,qq (je _),cond_false];exact .done)
  .simp only[qfI,qp a,cond_true,qw a,jd,wS j];refine Ev.bind (qls g) ?_;rw[qjw];exact Ev.chk1 (qtt (qm9 h.Ac a)) fun _=>f
 refine Ev.bind d ?_;cases allN (fun j=>wireB (gt b.Ac j) (snkN b.Aa (j:Int))) b.Ac.length<;>exact .done

def off(d:qj)(i:Nat):Nat:=(plI d i).length
def place1(d:qj)(i k:Nat):Tplace:=⟨(i:Int),(k:Int),at0 (gt d.Ab i).Ah k,decide (k+1=(gt d.Ab i).Ah.length)⟩
def place2(d:qj)(i:Nat):Tplace:=⟨-1,(i:Int),(gt d.Ai i).Bw,(gt d.Ai i).Bs==1⟩
theorem qkN{d:qj}{i:Nat}:off d (i+1)=off d i+(gt d.Ab i).Ah.length:=by
 unfold off;rw[qm1,jg,qqc]
theorem qtN{d:qj}{i j:Nat}(h:i<=j):off d i<=off d j:=by
 induction j with
 |zero=>
  obtain rfl:i=0:=by omega
  exact je _
 |succ j ih=>
  rcases Nat.lt_or_eq_of_le h with h|rfl
  .rw[qkN];have:=ih (by omega);omega
  .exact je _
theorem qhq{d:qj}:(places d).length=off d d.Ab.length+d.Ai.length:=by
 unfold places off;rw[jg,qqi]
theorem qxP{d:qj}{n i k:Nat}(hi:i<n)(c:k<(gt d.Ab i).Ah.length):off d i+k<off d n/\gt (plI d n) (off d i+k)=place1 d i k:=by
 induction n with
 |zero=>omega
 |succ n ih=>
  rw[qm1,ql6];rcases Nat.lt_succ_iff_lt_or_eq.1 hi with h|rfl
  .obtain⟨a,b⟩:=ih h;refine⟨by rw[qkN];omega,?_⟩;rw[if_pos (show off d i+k<(plI d n).length from a),b]
  .refine⟨by rw[qkN];omega,?_⟩;rw[if_neg (by unfold off;omega),show off d i+k-(plI d i).length=k by unfold off;omega];exact qqp c
theorem qkC{d:qj}{i k:Nat}(hi:i<d.Ab.length)(c:k<(gt d.Ab i).Ah.length):off d i+k<(places d).length/\gt (places d) (off d i+k)=place1 d i k:=by
 obtain⟨a,b⟩:=qxP hi c;refine⟨by rw[qhq];omega,?_⟩;unfold places;rw[ql6,if_pos (show off d i+k<(plI d d.Ab.length).length from a),b]
theorem qrN{d:qj}{i:Nat}(hi:i<d.Ai.length):off d d.Ab.length+i<(places d).length/\gt (places d) (off d d.Ab.length+i)=place2 d i:=by
 refine⟨by rw[qhq];omega,?_⟩;unfold places;rw[ql6,if_neg (by unfold off;omega),show off d d.Ab.length+i-(plI d d.Ab.length).length=i by unfold off;omega];exact qqp hi
theorem quJ{d:qj}{n j:Nat}(a:j<off d n):∃i k,i<n/\k<(gt d.Ab i).Ah.length/\j=off d i+k:=by
 induction n with
 |zero=>exact absurd a (Nat.not_lt_zero _)
 |succ n ih=>
  by_cases h:j<off d n
  .obtain⟨i,k,f,b,c⟩:=ih h;exact⟨i,k,by omega,b,c⟩
  .rw[qkN] at a;exact⟨n,j-off d n,by omega,by omega,by omega⟩
theorem qln{d:qj}{j:Nat}(c:j<(places d).length) :
  (∃i k,i<d.Ab.length/\k<(gt d.Ab i).Ah.length/\j=off d i+k/\gt (places d) j=place1 d i k) \/
  (∃i,i<d.Ai.length/\j=off d d.Ab.length+i/\gt (places d) j=place2 d i):=by
 rw[qhq] at c;by_cases h:j<off d d.Ab.length
 .obtain⟨i,k,a,b,rfl⟩:=quJ h;exact .inl ⟨i,k,a,b,rfl,(qkC a b).2⟩
 .refine .inr ⟨j-off d d.Ab.length,by omega,by omega,?_⟩;have:=(qrN (d:=d) (i:=j-off d d.Ab.length) (by omega)).2;rwa [show off d d.Ab.length+(j-off d d.Ab.length)=j by omega] at this
def drvQ(d:qj)(k:Int)(j:Nat):Bool:=((gt (places d) j).net==k)&&(gt (places d) j).drives
theorem qsX{q:Nat->Bool}{m n:Nat}:cntP q (m+n)=cntP q m+cntP (fun j=>q (m+j)) n:=by
 induction n with
 |zero=>rfl
 |succ n ih=>
  show cntP q (m+n)+(bif q (m+n) then 1 else 0)=cntP q m+(cntP (fun j=>q (m+j)) n+(bif q (m+n) then 1 else 0));rw[ih];omega
theorem quO{q:Nat->Bool}{n:Nat}{b:Bool}(h:1<=n)(a:∀j,j+1<n->q j=false)(c:q (n-1)=b):cntP q n=bif b then 1 else 0:=by
 obtain⟨m,rfl⟩:∃m,n=m+1:=⟨n-1,by omega⟩;show cntP q m+(bif q m then 1 else 0)=_;rw[qnF.2 (fun j d=>a j (by omega)),show m=m+1-1 by omega,c,Jf]
theorem qtS{d:qj}{k:Nat}(b:smallD d):cntP (drvQ d (k:Int)) (places d).length=drvI d k d.Ab.length+drvP d k d.Ai.length:=by
 rw[qhq,qsX]
 congr 1
 .have:∀n,n<=d.Ab.length->cntP (drvQ d (k:Int)) (off d n)=drvI d k n:=by
   intro n
   induction n with
   |zero=>intro _;rfl
   |succ n ih=>
    intro f;rw[qkN,qsX,ih (by omega),qpG]
    congr 1
    have c:=(b.nx n (by omega)).1;refine quO (by omega) (fun j a=>?_) ?_
    .show drvQ d _ (off d n+j)=false;unfold drvQ;rw[(qkC (by omega) (by omega)).2];unfold place1;simp;omega
    .show drvQ d _ (off d n+_)=_;unfold drvQ;rw[(qkC (by omega) (by omega)).2];unfold place1 lastN;simp;omega
  exact this _ (je _)
 .refine qqC (fun j a=>?_);show drvQ d _ (off d _+j)=_;unfold drvQ;rw[(qrN a).2];unfold place2;exact Bool.and_comm _ _
theorem qut{l:qF}{d:qj}(h:designB l d=true){k:Nat}(a:k<d.Ah.length):cntP (drvQ d (k:Int)) (places d).length=1:=by
 rw[qtS (qZ h)];unfold designB drvB at h;simp only[jf] at h;have:=qai.1 h.2.2.2 k a;rw[beq_iff_eq] at this;omega
theorem qtc{l:qF}{d:qj}(h:designB l d=true){i j:Nat}(hi:i<(places d).length)(f:j<(places d).length)(c:(gt (places d) i).net=(gt (places d) j).net)(a:(gt (places d) i).drives=true)(b:(gt (places d) j).drives=true):i=j:=by
 obtain⟨g,n1⟩:=qmy h hi;have e:=qdx g;have:=qut h (k:=(gt (places d) i).net.toNat) (by omega);refine qsD (Nat.le_of_eq this) hi f ?_ ?_
 .unfold drvQ;rw[<-e,a];simp
 .unfold drvQ;rw[<-e,b,c];simp
theorem qxV{l:qF}{d:qj}(h:designB l d=true){k:Int}(c:0<=k)(g:k<d.Ah.length):∃j,j<(places d).length/\(gt (places d) j).net=k/\(gt (places d) j).drives=true:=by
 have e:=qdx c;have:=qut h (k:=k.toNat) (by omega);have b:decide (0<cntP (drvQ d ((k.toNat:Nat):Int)) (places d).length)=true:=by rw[this];rfl
 rw[qsE,jA,qmu] at b;obtain⟨j,f,a⟩:=b;rw[Bool.not_eq_false',<-e] at a;unfold drvQ at a;simp only[jf,beq_iff_eq] at a;exact⟨j,f,a.1,a.2⟩
def cellAt(b:qd)(i:Int):qL:=gt b.Am.Ap (gt b.Aa.Ab i.toNat).Bq.toNat
theorem qhO{l:qF}{d:qj}(h:designB l d=true){i:Nat}(hi:i<d.Ab.length) :
  (0<=(gt d.Ab i).Bq/\(gt d.Ab i).Bq<l.Ap.length)/\(gt d.Ab i).Ah.length=(gt l.Ap (gt d.Ab i).Bq.toNat).Ay.length/\cellB (gt l.Ap (gt d.Ab i).Bq.toNat)=true:=by
 unfold designB libB at h;simp only[jf] at h;obtain⟨⟨⟨b,_⟩,_⟩,a,_⟩:=h;rw[qjo,qai] at a b;have:=a i hi;unfold instB at this;simp only[jf,qaQ,beq_iff_eq] at this;exact⟨⟨this.1.1,by omega⟩,by omega,b _ (by omega)⟩
theorem qnv{c:qL}(h:cellB c=true){j:Nat}(f:j<c.Ar.length):(1<=(gt c.Ar j).Au/\(gt c.Ar j).Au<=5)/\(0<=(gt c.Ar j).Bd/\(gt c.Ar j).Bd<(c.Ay.length:Int)-1)/\(0<=(gt c.Ar j).To/\(gt c.Ar j).To<=(c.Ay.length:Int)-1)/\arcS c.Ay (gt c.Ar j)=true:=by
 unfold cellB at h;simp only[jf] at h;obtain⟨_,i,⟨d,_⟩,_,_,g⟩:=h;have:=qai.1 d j f;rw[jf,qvr i (qrU g)] at this;have b:=this.1;refine⟨qrC b,?_⟩;have a:=b;unfold arcS at a;simp only[jf,qaQ] at a;refine⟨⟨a.1.1.1,by omega⟩,a.1.2,b⟩
theorem qoe{c:qL}(h:cellB c=true):c.Ar.length<=8:=by
 unfold cellB at h;simp only[jf,decide_eq_true_eq] at h;exact h.2.2.1.2
theorem qao{b:qd}(h:blockB b=true):designB b.Am b.Aa=true:=by
 unfold blockB at h;simp only[jf] at h;exact h.1.1

theorem quS{d:qj}{k:Int}{n i:Nat}(hi:i<(sinksL d k n).length):∃y:Nat,y<n/\idx (sinksL d k n) (i:Int)=V (y:Int)/\snkQ d k y=true:=by
 rw[qaZ hi];have a:(sinksL d k n)[i]∈sinksL d k n:=jo hi;generalize (sinksL d k n)[i]=z at a;unfold sinksL at a;obtain⟨y,f,rfl⟩:=List.mem_map.1 a;obtain⟨b,c⟩:=List.mem_filter.1 f;exact⟨y,List.mem_range.1 b,rfl,c⟩
theorem qq4{d:qj}{k:Int}(h:smallD d):Ev (fun n=>qha n d k) (sinksL d k (places d).length):=by
 have g:=qaW h;have c:Ev (fun n=>qbg k (places d) n ([]:List Int) 0) (sinksL d k (places d).length,((places d).length:Int)):=by
  refine loopF (Lf:=qbg k (places d)) (S:=fun j=>sinksL d k j) (len:=(places d).length) (fun n=>?_) (fun j b X a=>?_)
  .simp only[qbg,qq (je _),cond_false]
  .have f:(sinksL d k j).length+[(j:Int)].length<=2147483648:=by
    rw[qjw];have:cntP (snkQ d k) j<=j:=qgM;simp;omega
   simp only[qbg,qp b,cond_true,qw b,jd,wS j];rw[qj2] at a;unfold snkQ at a;cases h1:((gt (places d) j).net==k)
   .rw[h1] at a;simp only[Bool.false_and,cond_false,jY] at a⊢;exact a
   .cases h2:(gt (places d) j).drives
    .rw[h1,h2] at a;simp only[Bool.not_false,Bool.and_self,cond_true,qcA f,jd] at a⊢;exact a
    .rw[h1,h2] at a;simp only[Jh,Bool.and_false,cond_false,jY,cond_true] at a⊢;exact a
 unfold qha;exact Ev.bind (qnG h) (Ev.bind c .done)
structure wireOk(b:qd)(i:Nat):Prop where
 lo:1<=(gt b.Ac i).Aj.length
 hi:(gt b.Ac i).Aj.length<=8
 res:(gt b.Ac i).Br.length=(gt b.Ac i).Aj.length
 cap:(gt b.Ac i).Bl.length=(gt b.Ac i).Aj.length
 par:∀j,0<j->j<(gt b.Ac i).Aj.length->0<=at0 (gt b.Ac i).Aj j/\at0 (gt b.Ac i).Aj j<j
 snk:(gt b.Ac i).Bb.length=(sinksL b.Aa (i:Int) (places b.Aa).length).length
 sin:∀j,j<(gt b.Ac i).Bb.length->0<=at0 (gt b.Ac i).Bb j/\at0 (gt b.Ac i).Bb j<(gt b.Ac i).Aj.length
theorem qbL{b:qd}(h:blockB b=true){i:Nat}(hi:i<b.Ac.length):wireOk b i:=by
 unfold blockB at h;rw[jf,qai] at h;have:=h.2 i hi;unfold wireB lenB at this;simp only[jf,decide_eq_true_eq,beq_iff_eq] at this;obtain⟨⟨f,g⟩,n,o,k,_,_,l,c⟩:=this;refine⟨f,g,by omega,by omega,fun j m a=>?_,?_,fun j a=>?_⟩
 .have:=qai.1 k j a;unfold treeB at this;rw[show decide (j=0)=false by simp;omega] at this;simp only[cond_false,qaQ] at this;omega
 .rw[qjw];unfold snkN at l;omega
 .rw[qho (d:=0),qai] at c;have:=c j a;rw[qaQ] at this;unfold at0;omega
theorem qf6{b:qd}(h:blockB b=true):b.Ac.length=b.Aa.Ah.length:=by
 unfold blockB at h;simp only[jf,beq_iff_eq] at h;omega

instance:Inhabited qv:=⟨⟨0,0,0,0⟩⟩
instance:Inhabited qX:=⟨⟨0,0⟩⟩
theorem qko{α:Type}{m:Nat}{z:α}(h:m<=2147483648):mkS (m:Int) z=V (List.replicate m z):=by
 unfold mkS big;rw[if_pos ⟨by omega,by omega⟩,jq]
theorem qrQ{α:Type}[Inhabited α]{xs:List α}{a k:Nat}{y:α}(h:k≠a):gt (xs.set a y) k=gt xs k:=by
 unfold gt;rw[jx,List.getElem?_set_ne (by omega),<-jx]
theorem qpR{α:Type}[Inhabited α]{xs:List α}{a:Nat}{y:α}(h:a<xs.length):gt (xs.set a y) a=y:=by
 rw[qeV (by rw[List.length_set];exact h),List.getElem_set_self]

def CodeOk(code:List (IntK .u8)):Prop:=code.length<=1048576/\∀x,x∈code->rng8 x
structure SrcI(code:List (IntK .u8))(a s:Int):Prop where
 a0:0<=a
 a1:a<=(code.length:Int)
 s0:0<=s
 s1:s<=2147483646
theorem tm31{x:Int}(h:0<=x):0<=x.tmod 2147483647/\x.tmod 2147483647<=2147483646:=by
 have a:=Int.tmod_nonneg 2147483647 h;have b:=Int.tmod_lt_of_pos x (show(0:Int)<2147483647 by decide);omega
theorem qot{x k:Int}(a:0<k):remS x k=V (x.tmod k):=by unfold remS;rw[if_neg (by omega)]
theorem qaX(x:Int):okI (W64 x):=by
 unfold okI W64;rw[Go.IntWalk.i64_left];unfold Go.RowKit.wrap64;omega
theorem qas{x:Int}(a:-4611686018427387904<=x)(b:x<=4611686018427387904):okI x:=by unfold okI;omega
theorem qtp{code:List (IntK .u8)}(g:CodeOk code):∃s,Ev (fun n=>qmB n code) (V ⟨code,0,s⟩)/\SrcI code 0 s:=by
 have c:∀k j i,j+k=code.length->0<=i->i<=2147483646->EvQ (fun n=>qfA code n i (j:Int)) (fun o=>0<=o.1/\o.1<=2147483646):=by
  intro k
  induction k with
  |zero=>
   intro j i p f b;refine EvQ.succ ?_;simp only[qfA,qq (show code.length<=j by omega),cond_false,jd];exact EvQ.done ⟨f,b⟩
  |succ k ih=>
   intro j i p f b;have a:j<code.length:=by omega
   have t:=g.1;have r:=g.2 _ (jo a);unfold rng8 at r;refine EvQ.succ ?_;simp only[qfA,qp a,cond_true,jd,qaZ a,wS j];refine EvQ.bif (fun _=>?_) (fun _=>EvQ.done ⟨f,b⟩);have e1:W64 (i*31)=i*31:=qP (by omega) (by omega);have h:W64 code[j].val=code[j].val:=qP (by omega) (by omega);have l:W64 (i*31+code[j].val)=i*31+code[j].val:=qP (by omega) (by omega);rw[e1,h,l];have d:=tm31 (show 0<=i*31+code[j].val by omega);exact ih (j+1) _ (by omega) d.1 d.2
 obtain⟨⟨s,j⟩,b,d,m⟩:=c code.length 0 12345 (by omega) (by decide) (by decide);exact⟨s,Ev.bind b .done,⟨jU _,by omega,d,m⟩⟩
theorem qaq{code:List (IntK .u8)}{a s:Int}(k:Int)(l:CodeOk code)(h:SrcI code a s) :
  EvQ (fun n=>qr n ⟨code,a,s⟩ k) (fun o=>((0<=o.1/\(1<=k->o.1<k))/\(k<=1->o.1=0))/\SrcI code o.2.1 o.2.2):=by
 obtain⟨a0,a1,s0,s1⟩:=h;have z:=l.1;unfold qr;refine EvQ.bif (fun g=>EvQ.done ⟨⟨⟨jU _,fun h=>by omega⟩,fun _=>rfl⟩,⟨a0,a1,s0,s1⟩⟩) (fun g=>?_);have g:1<k:=by have:=of_decide_eq_false g;omega
 refine EvQ.bif (fun i=>?_) (fun _=>?_)
 .have i:a<(code.length:Int):=of_decide_eq_true i;obtain⟨j,rfl⟩:∃j:Nat,a=(j:Int):=⟨a.toNat,by omega⟩;have c:j<code.length:=by omega
  have m:=l.2 _ (jo c);unfold rng8 at m;have p:W64 code[j].val=code[j].val:=qP (by omega) (by omega);have t:W64 ((j:Int)+1)=((j+1:Nat):Int):=qim (by omega);refine EvQ.bindN (qaZ c) ?_;rw[p,t];refine EvQ.bif (fun u=>?_) (fun u=>?_)
  .refine EvQ.bindN (qot (by omega)) (EvQ.done ⟨⟨⟨Int.tmod_nonneg _ m.1,fun _=>Int.tmod_lt_of_pos _ (by omega)⟩,fun h=>by omega⟩,⟨by show(0:Int)<=((j+1:Nat):Int);omega,by show((j+1:Nat):Int)<=_;omega,s0,s1⟩⟩)
  .have d:W64 (s*48271)=s*48271:=qP (by omega) (by omega);have f:W64 (s*48271+code[j].val)=s*48271+code[j].val:=qP (by omega) (by omega);have r:W64 (s*48271+code[j].val+1)=s*48271+code[j].val+1:=qP (by omega) (by omega);rw[d,f,r];have b:=tm31 (show 0<=s*48271+code[j].val+1 by omega);exact EvQ.bindN (qot (by omega)) (EvQ.done ⟨⟨⟨Int.tmod_nonneg _ b.1,fun _=>Int.tmod_lt_of_pos _ (by omega)⟩,fun h=>by omega⟩,⟨by show(0:Int)<=((j+1:Nat):Int);omega,by show((j+1:Nat):Int)<=_;omega,b.1,b.2⟩⟩)
 .have d:W64 (s*48271)=s*48271:=qP (by omega) (by omega);have f:W64 (s*48271+11)=s*48271+11:=qP (by omega) (by omega);rw[d,f];have b:=tm31 (show 0<=s*48271+11 by omega);have v:0<=((s*48271+11).tmod 2147483647).tdiv 7:=Int.tdiv_nonneg b.1 (by decide);have y:((s*48271+11).tmod 2147483647).tdiv 7<=2147483646:=by
   rw[jD b.1];omega
  rw[qP (x:=((s*48271+11).tmod 2147483647).tdiv 7) (by omega) (by omega)];exact EvQ.bindN (qot (by omega)) (EvQ.done ⟨⟨⟨Int.tmod_nonneg _ v,fun _=>Int.tmod_lt_of_pos _ (by omega)⟩,fun h=>by omega⟩,⟨a0,a1,b.1,b.2⟩⟩)
theorem qbM{α:Type}{ok:α->Prop}{xs:List α}{y:α}(h:∀x,x∈xs->ok x)(b:ok y):∀x,x∈xs++[y]->ok x:=by
 intro x a;rcases List.mem_append.1 a with a|a
 .exact h x a
 .obtain rfl:=List.mem_singleton.1 a;exact b
theorem qcm{α:Type}{xs:List α}{y:α}(h:xs.length<=1048576):appS xs [y]=V (xs++[y]):=qcA (by simp;omega)
section
variable{code:List (IntK .u8)}{a s:Int}
theorem qwA{step:Int}(A:1<=step)(N:step<=1000)(i:CodeOk code)(h:SrcI code a s) :
  EvQ (fun n=>qgk n ⟨code,a,s⟩ step) (fun o=>(1<=o.1.length/\o.1.length<=3/\∀x,x∈o.1->okI x)/\SrcI code o.2.1 o.2.2):=by
 have d:∀(r:Nat) (x:List Int) (f g c:Int),SrcI code f g->x.length+r<=3->(∀y,y∈x->okI y)->okI c ->
   EvQ (fun n=>qde ⟨code,a,s⟩ step n x f g c (r:Int)) (fun o=>(o.1.length=x.length+r/\∀y,y∈o.1->okI y)/\SrcI code o.2.1 o.2.2.1):=by
  intro r
  induction r with
  |zero=>
   intro x f g c b B p hi;refine EvQ.succ ?_;simp only[qde];exact EvQ.ff Z (EvQ.done ⟨⟨rfl,p⟩,b⟩)
  |succ r ih=>
   intro x f g c b B p hi;refine EvQ.succ ?_;simp only[qde];refine EvQ.tt (by simp) (EvQ.bindN (qcm (by omega)) (EvQ.bind (qaq step i b) ?_));rintro⟨H,t,u⟩ ⟨_,l⟩;have e:W64 (((r+1:Nat):Int)-1)=(r:Int):=by rw[qP (by omega) (by omega)];omega
   dsimp only;rw[e];exact(ih (x++[c]) t u _ l (by rw[jg,ji];omega) (qbM p hi) (qaX _)).mono (fun o k=>⟨⟨by rw[k.1.1,jg,ji];omega,k.1.2⟩,k.2⟩)
 unfold qgk;refine EvQ.bind (qaq step i h) ?_;rintro⟨D,O,P⟩ ⟨⟨⟨K,p1⟩,_⟩,b⟩;refine EvQ.bind (qaq 3 i b) ?_;rintro⟨v,I,J⟩ ⟨⟨⟨L,z⟩,_⟩,b⟩;dsimp only at K p1 L z b⊢;have T:=z (by decide);have S:=p1 A;obtain⟨m,C⟩:∃m:Nat,1+v=((m+1:Nat):Int):=⟨v.toNat,by omega⟩;rw[wO (1+v),C];refine EvQ.bind (d (m+1) [] I J D b (by simp;omega) (fun _ h=>by cases h) (qas (by omega) (by omega))) ?_;rintro⟨W,Q,R,c,F⟩ ⟨⟨r1,M⟩,b⟩;exact EvQ.done ⟨⟨by simp only at r1;simp at r1;dsimp only;omega,by simp only at r1;simp at r1;dsimp only;omega,M⟩,b⟩
theorem qwe{c:Prop}[Decidable c]{x y:Int}(a:okI x)(b:okI y):okI (if c then x else y):=by split<;>assumption
theorem qus{base:Int}(k:CodeOk code)(h:SrcI code a s) :
  EvQ (fun n=>qjc n ⟨code,a,s⟩ base) (fun o=>qi1 o.1/\SrcI code o.2.1 o.2.2):=by
 unfold qjc;refine EvQ.bind (qwA (by decide) (by decide) k h) ?_;rintro⟨r1,e,i2⟩ ⟨⟨l1,l2,r⟩,c⟩;refine EvQ.bind (qwA (by decide) (by decide) k c) ?_;rintro⟨f,Q,S⟩ ⟨⟨T,t,u⟩,c⟩;dsimp only at l1 l2 r T t u c⊢;have Y:r1.length*f.length<=3*3:=Nat.mul_le_mul l2 t;have l:∀(d j:Nat) (x:List Int) (m p:Int),SrcI code m p->j+d=r1.length*f.length->x.length=j->(∀y,y∈x->okI y) ->
   EvQ (fun n=>qet ⟨code,a,s⟩ base r1 f n x m p (j:Int)) (fun o=>(o.1.length<=9/\∀y,y∈o.1->okI y)/\SrcI code o.2.1 o.2.2.1):=by
  intro d
  induction d with
  |zero=>
   intro j x m p c B D g;refine EvQ.succ ?_;simp only[qet,qp9 (show r1.length<=1048576 by omega) (show f.length<=1048576 by omega)];have z:x.length<=9:=by omega
   exact EvQ.ff (qq (by omega)) (EvQ.done ⟨⟨z,g⟩,c⟩)
  |succ d ih=>
   intro j x m p c B D g;refine EvQ.succ ?_;simp only[qet,qp9 (show r1.length<=1048576 by omega) (show f.length<=1048576 by omega)];refine EvQ.tt (qp (by omega)) (EvQ.bind (qaq 10 k c) ?_);rintro⟨i8,i9,F⟩ ⟨⟨⟨W,X⟩,_⟩,c⟩;dsimp only at W X c⊢;refine EvQ.bindN (b:=((j % f.length:Nat):Int)) (by rw[qot (by omega),Int.ofNat_tmod]) ?_;refine EvQ.bind (R:=fun o:Int×Int×Int=>SrcI code o.1 o.2.1/\okI o.2.2) ?_ ?_
   .refine EvQ.bif (fun i=>?_) (fun _=>EvQ.done ⟨c,qaX _⟩);have C:1<=j:=by
     rcases Nat.eq_zero_or_pos j with rfl|h2
     .simp at i
     .exact h2
    have e1:W64 ((j:Int)-1)=((j-1:Nat):Int):=by rw[qP (by omega) (by omega)];omega
    rw[e1];refine EvQ.bindN (qaZ (show j-1<x.length by omega)) (EvQ.bind (qaq 20 k c) ?_);rintro⟨N,O,P⟩ ⟨_,c⟩;exact EvQ.done ⟨c,qwe (qaX _) (qaX _)⟩
   .rintro⟨H,I,J⟩ ⟨c,hi⟩;dsimp only at c hi⊢;rw[wS j];refine EvQ.bif (fun i=>?_) (fun _=>?_)
    .have A:f.length<=j:=by have:=of_decide_eq_true i;omega
     have e1:W64 ((j:Int)-(f.length:Int))=((j-f.length:Nat):Int):=by rw[qP (by omega) (by omega)];omega
     rw[e1];refine EvQ.bindN (qaZ (show j-f.length<x.length by omega)) (EvQ.bind (qaq 20 k c) ?_);rintro⟨K,L,M⟩ ⟨_,c⟩;refine EvQ.bindN (qcm (by omega)) ?_;exact ih (j+1) _ _ _ c (by omega) (by rw[jg,ji];omega) (qbM g (qwe (qaX _) hi))
    .refine EvQ.bindN (qcm (by omega)) ?_;exact ih (j+1) _ _ _ c (by omega) (by rw[jg,ji];omega) (qbM g hi)
 refine EvQ.bind (l (r1.length*f.length) 0 [] Q S c (by omega) Z (fun _ h=>by cases h)) ?_;rintro⟨x1,i5,i6,i7⟩ ⟨⟨n1,v⟩,c⟩;dsimp only at n1 v c;exact EvQ.done ⟨⟨⟨by dsimp only;omega,r⟩,⟨by dsimp only;omega,u⟩,⟨by dsimp only;omega,v⟩⟩,c⟩
theorem qqX{base:Int}(d:CodeOk code)(h:SrcI code a s) :
  EvQ (fun n=>qdN n ⟨code,a,s⟩ base) (fun o=>okL qi1 o.1/\SrcI code o.2.1 o.2.2):=by
 unfold qdN;refine EvQ.bind (qus d h) ?_;rintro⟨r1,i,k⟩ ⟨f,b⟩;refine EvQ.bind (qus d b) ?_;rintro⟨p,l,m⟩ ⟨g,b⟩;refine EvQ.done ⟨⟨by simp,fun x c=>?_⟩,b⟩;rcases List.mem_cons.1 c with rfl|c
 .exact f
 .obtain rfl:=List.mem_singleton.1 c;exact g
theorem qsW{kind f t sense:Int}(i:okI kind)(g:okI f)(k:okI t)(d:okI sense)(c:CodeOk code)(h:SrcI code a s) :
  EvQ (fun n=>qdn n ⟨code,a,s⟩ kind f t sense) (fun o=>qmo o.1/\SrcI code o.2.1 o.2.2):=by
 unfold qdn;refine EvQ.bif (fun _=>?_) (fun _=>?_)
 .refine EvQ.bind (qaq 10 c h) ?_;rintro⟨y,z,A⟩ ⟨_,b⟩;refine EvQ.bind (qqX c b) ?_;rintro⟨r1,B,C⟩ ⟨l,b⟩;exact EvQ.done ⟨⟨i,g,k,qas (x:=0) (by decide) (by decide),l,⟨jW _,fun _ h=>by cases h⟩⟩,b⟩
 .refine EvQ.bind (qaq 20 c h) ?_;rintro⟨D,F,H⟩ ⟨_,b⟩;refine EvQ.bind (qqX c b) ?_;rintro⟨J,I,r⟩ ⟨m,b⟩;refine EvQ.bind (qqX c b) ?_;rintro⟨K,u,v⟩ ⟨p,b⟩;exact EvQ.done ⟨⟨i,g,k,d,m,p⟩,b⟩
end

section
variable{code:List (IntK .u8)}{a s:Int}
theorem qw2{q:Nat}(h:q<=8):W64 (2*(q:Int))=((q*2:Nat):Int):=by rw[qP (by omega) (by omega)];omega
theorem Ev.add{α:Type}{f:Nat->Option α}{r:α}(k:Nat)(h:∀m,f (m+k)=V r):Ev f r:=
 ⟨k,fun n a=>by obtain⟨m,rfl⟩:∃m,n=m+k:=⟨n-k,by omega⟩;exact h m⟩
def SenseOk(k:Nat)(a:List Int):Prop:=∀(b:ByteArray) (ps:List qaB) (i j:Int) (p:Nat),p<k->EvQ (fun n=>qlL n ⟨b,1,ps,[],a,i,j⟩ (p:Int)) okI
theorem qqG{k:Nat}{J:ByteArray}{c:List Int}(Q:k<=3)(hl:c.length=2 ^ k)(D:SenseOk k c)(B:okS J)(F:∀x,x∈c->okI x)(z:CodeOk code)(h:SrcI code a s) :
  EvQ (fun n=>qfM n ⟨code,a,s⟩ J c) (fun o=>qnJ o.1/\SrcI code o.2.1 o.2.2):=by
 have R:(2:Nat) ^ k<=8:=by
  have:(2:Nat) ^ k<=2 ^ 3:=Nat.pow_le_pow_right (by decide) Q;simpa using this
 have v:∀(d j:Nat) (x:List qaB) (i l:Int),SrcI code i l->j+d=k->x.length=j->(∀y,y∈x->qmm y) ->
   EvQ (fun n=>qfz ⟨code,a,s⟩ c n x i l ((2 ^ j:Nat):Int)) (fun o=>(o.1.length=k/\∀y,y∈o.1->qmm y)/\SrcI code o.2.1 o.2.2.1):=by
  intro d
  induction d with
  |zero=>
   intro j x i l f A u g;refine EvQ.succ ?_;simp only[qfz];have:j=k:=by omega
   subst this;exact EvQ.ff (qq (by omega)) (EvQ.done ⟨⟨u,g⟩,f⟩)
  |succ d ih=>
   intro j x i l f A u g;refine EvQ.succ ?_;simp only[qfz];have S:(2:Nat) ^ j<2 ^ k:=Nat.pow_lt_pow_right (by decide) (by omega);refine EvQ.tt (qp (by omega)) ?_;have t:j<4:=by omega
   refine EvQ.bindN (b:=([(⟨#[97]⟩:ByteArray),(⟨#[98]⟩:ByteArray),(⟨#[99]⟩:ByteArray),(⟨#[100]⟩:ByteArray)]:List ByteArray)[j]'(by simpa using t)) (by rw[u];exact qaZ (by simpa using t)) (EvQ.bind (qaq 9 z f) ?_);rintro⟨T,W,X⟩ ⟨_,f⟩;refine EvQ.bindN (qcm (by omega)) ?_;have e:W64 (2*((2 ^ j:Nat):Int))=((2 ^ (j+1):Nat):Int):=by
    rw[Nat.pow_succ];exact qw2 (by omega)
   dsimp only;rw[e];refine ih (j+1) _ _ _ f (by omega) (by rw[jg,ji];omega) (qbM g ⟨?_,qas (x:=1) (by decide) (by decide),qaX _,G⟩);rcases j with _|_|_|_|j
   .show(1:Nat)<=1048576;decide
   .show(1:Nat)<=1048576;decide
   .show(1:Nat)<=1048576;decide
   .show(1:Nat)<=1048576;decide
   .omega
 unfold qfM;refine EvQ.bind (qaq 50 z h) ?_;rintro⟨L,i2,i3⟩ ⟨⟨⟨p0,p1⟩,_⟩,f⟩;refine EvQ.bind (qaq 80 z f) ?_;rintro⟨M,i5,i6⟩ ⟨⟨⟨q0,N⟩,_⟩,f⟩;dsimp only at p0 p1 q0 N;have p2:=p1 (by decide);have q2:=N (by decide);refine EvQ.bind (v k 0 [] i5 i6 f (by omega) Z (fun _ h=>by cases h)) ?_;rintro⟨K,i7,i8,i9⟩ ⟨⟨H,m⟩,f⟩;dsimp only at H m f⊢;refine EvQ.bindN (qcm (by omega)) ?_;have r:∀(d j:Nat) (x:List qaF) (i l:Int),SrcI code i l->j+d=k->x.length<=j->(∀y,y∈x->qmo y) ->
   EvQ (fun n=>qey ⟨code,a,s⟩ J c L M K (K++[(⟨(⟨#[121]⟩:ByteArray),2,0,false⟩:qaB)]) n x i l (j:Int)) (fun o=>(o.1.length<=k/\∀y,y∈o.1->qmo y)/\SrcI code o.2.1 o.2.2.1):=by
  intro d
  induction d with
  |zero=>
   intro j x i l f A u g;refine EvQ.succ ?_;simp only[qey];have P:x.length<=k:=by omega
   exact EvQ.ff (qq (by omega)) (EvQ.done ⟨⟨P,g⟩,f⟩)
  |succ d ih=>
   intro j x i l f A u g;refine EvQ.succ ?_;simp only[qey,wS j];refine EvQ.tt (qp (by omega)) (EvQ.bind (D _ _ _ _ j (by omega)) (fun r1 C=>?_));refine EvQ.bif (fun _=>?_) (fun _=>ih (j+1) x i l f (by omega) (by omega) g);refine EvQ.bind (qsW (qas (by decide) (by decide)) (qas (by omega) (by omega)) (qas (by omega) (by omega)) C z f) ?_;rintro⟨r2,a5,a6⟩ ⟨O,f⟩;refine EvQ.bindN (qcm (by omega)) ?_;exact ih (j+1) _ _ _ f (by omega) (by rw[jg,ji];omega) (qbM g O)
 refine EvQ.bind (r k 0 [] i7 i8 f (by omega) (jW _) (fun _ h=>by cases h)) ?_;rintro⟨x4,Y,a3,a4⟩ ⟨⟨I,p⟩,f⟩;dsimp only at I p f;refine EvQ.done ⟨⟨B,qas (x:=1) (by decide) (by decide),⟨?_,?_⟩,⟨?_,p⟩,⟨?_,F⟩,qas (x:=L) (by omega) (by omega),qas (x:=M) (by omega) (by omega)⟩,f⟩
 .show(K++_).length<=_;rw[jg,ji];omega
 .exact qbM m ⟨by show(1:Nat)<=1048576;decide,qas (x:=2) (by decide) (by decide),qas (x:=0) (by decide) (by decide),G⟩
 .show x4.length<=_;omega
 .show c.length<=_;omega
theorem qni{xs:List Int}(h:xs.all (fun x=>decide (-1000<=x)&&decide (x<=1000))=true):∀x,x∈xs->okI x:=by
 intro x a;have:=List.all_eq_true.1 h x a;simp only[jf,decide_eq_true_eq] at this;exact qas (by omega) (by omega)
theorem qtk{u:ByteArray}{kind edge:Int}(d:okS u)(m:okI kind)(B:okI edge)(c:CodeOk code)(h:SrcI code a s) :
  EvQ (fun n=>qeX n ⟨code,a,s⟩ u kind edge) (fun o=>qnJ o.1/\SrcI code o.2.1 o.2.2):=by
 have z:∀x:Int,-1000<=x->x<=1000->okI x:=fun x i k=>qas (by omega) (by omega);unfold qeX;refine EvQ.bind (qaq 50 c h) ?_;rintro⟨r,T,W⟩ ⟨⟨⟨P,p1⟩,_⟩,b⟩;refine EvQ.bind (qaq 80 c b) ?_;rintro⟨t,X,Y⟩ ⟨⟨⟨Q,v⟩,_⟩,b⟩;dsimp only at P p1 Q v;have p2:=p1 (by decide);have q2:=v (by decide);refine EvQ.bind (qaq 9 c b) ?_;rintro⟨O,e,i9⟩ ⟨_,b⟩;refine EvQ.bind (qaq 9 c b) ?_;rintro⟨g,C,D⟩ ⟨_,b⟩;refine EvQ.bind (qsW B (z _ (by decide) (by decide)) (z _ (by decide) (by decide)) (z _ (by decide) (by decide)) c b) ?_;rintro⟨r1,F,H⟩ ⟨i,b⟩;refine EvQ.bind (qsW (z _ (by decide) (by decide)) (z _ (by decide) (by decide)) (z _ (by decide) (by decide)) (z _ (by decide) (by decide)) c b) ?_;rintro⟨R,I,J⟩ ⟨k,b⟩;refine EvQ.bind (qsW (z _ (by decide) (by decide)) (z _ (by decide) (by decide)) (z _ (by decide) (by decide)) (z _ (by decide) (by decide)) c b) ?_;rintro⟨S,K,L⟩ ⟨y,b⟩;dsimp only at i k y b⊢;have l:∀x,x∈[r1,R,S]->qmo x:=by
  intro x f;simp only[jK,jz,or_false] at f;rcases f with rfl|rfl|rfl<;>assumption
 have p:∀x,x∈[(⟨(⟨#[100]⟩:ByteArray),1,W64 (1+O),false⟩:qaB),(⟨(⟨#[99,107]⟩:ByteArray),1,W64 (1+g),true⟩:qaB),(⟨(⟨#[113]⟩:ByteArray),2,0,false⟩:qaB)]->qmm x:=by
  intro x f;simp only[jK,jz,or_false] at f;rcases f with rfl|rfl|rfl
  .exact⟨by show(1:Nat)<=1048576;decide,z 1 (by decide) (by decide),qaX _,G⟩
  .exact⟨by show(2:Nat)<=1048576;decide,z 1 (by decide) (by decide),qaX _,G⟩
  .exact⟨by show(1:Nat)<=1048576;decide,z 2 (by decide) (by decide),z 0 (by decide) (by decide),G⟩
 refine EvQ.bif (fun _=>?_) (fun _=>?_)
 .refine EvQ.bind (qsW (z _ (by decide) (by decide)) (z _ (by decide) (by decide)) (z _ (by decide) (by decide)) (z _ (by decide) (by decide)) c b) ?_;rintro⟨r4,M,N⟩ ⟨A,b⟩;refine EvQ.bindN (qcm (by simp)) ?_;exact EvQ.done ⟨⟨d,m,⟨by simp,p⟩,⟨by simp,qbM l A⟩,⟨jW _,fun _ h=>by cases h⟩,z r (by omega) (by omega),z t (by omega) (by omega)⟩,b⟩
 .exact EvQ.done ⟨⟨d,m,⟨by simp,p⟩,⟨by simp,l⟩,⟨jW _,fun _ h=>by cases h⟩,z r (by omega) (by omega),z t (by omega) (by omega)⟩,b⟩
theorem sense1a:SenseOk 1 [1,0]:=by
 intro b ps i j p a;obtain rfl:p=0:=by omega
 exact⟨_,Ev.add 4 (fun m=>rfl),qas (by decide) (by decide)⟩
theorem sense1b:SenseOk 1 [0,1]:=by
 intro b ps i j p a;obtain rfl:p=0:=by omega
 exact⟨_,Ev.add 4 (fun m=>rfl),qas (by decide) (by decide)⟩
theorem sense2a:SenseOk 2 [1,1,1,0]:=by
 intro b ps i j p a;rcases p with _|_|p
 .exact⟨_,Ev.add 8 (fun m=>rfl),qas (by decide) (by decide)⟩
 .exact⟨_,Ev.add 8 (fun m=>rfl),qas (by decide) (by decide)⟩
 .omega
theorem sense2b:SenseOk 2 [0,1,1,0]:=by
 intro b ps i j p a;rcases p with _|_|p
 .exact⟨_,Ev.add 8 (fun m=>rfl),qas (by decide) (by decide)⟩
 .exact⟨_,Ev.add 8 (fun m=>rfl),qas (by decide) (by decide)⟩
 .omega
theorem sense3:SenseOk 3 [0,1,0,1,0,0,1,1]:=by
 intro b ps i j p a;rcases p with _|_|_|p
 .exact⟨_,Ev.add 12 (fun m=>rfl),qas (by decide) (by decide)⟩
 .exact⟨_,Ev.add 12 (fun m=>rfl),qas (by decide) (by decide)⟩
 .exact⟨_,Ev.add 12 (fun m=>rfl),qas (by decide) (by decide)⟩
 .omega
theorem qyu(c:CodeOk code)(h:SrcI code a s):EvQ (fun n=>qkp n ⟨code,a,s⟩) (fun o=>qhn o.1/\SrcI code o.2.1 o.2.2):=by
 have z:∀x:Int,-1000<=x->x<=1000->okI x:=fun x f g=>qas (by omega) (by omega);unfold qkp;refine EvQ.bind (qqG (k:=1) (by decide) Z sense1a (by show(3:Nat)<=1048576;decide) (qni Z) c h) ?_;rintro⟨r1,F,H⟩ ⟨f,b⟩;refine EvQ.bind (qqG (k:=1) (by decide) Z sense1b (by show(3:Nat)<=1048576;decide) (qni Z) c b) ?_;rintro⟨P,I,J⟩ ⟨g,b⟩;refine EvQ.bind (qqG (k:=2) (by decide) Z sense2a (by show(4:Nat)<=1048576;decide) (qni Z) c b) ?_;rintro⟨Q,K,L⟩ ⟨v,b⟩;refine EvQ.bind (qqG (k:=2) (by decide) Z sense2b (by show(3:Nat)<=1048576;decide) (qni Z) c b) ?_;rintro⟨R,M,N⟩ ⟨y,b⟩;refine EvQ.bind (qqG (k:=3) (by decide) Z sense3 (by show(3:Nat)<=1048576;decide) (qni Z) c b) ?_;rintro⟨S,O,i⟩ ⟨A,b⟩;refine EvQ.bind (qtk (by show(4:Nat)<=1048576;decide) (z _ (by decide) (by decide)) (z _ (by decide) (by decide)) c b) ?_;rintro⟨T,l,m⟩ ⟨B,b⟩;refine EvQ.bind (qtk (by show(5:Nat)<=1048576;decide) (z _ (by decide) (by decide)) (z _ (by decide) (by decide)) c b) ?_;rintro⟨W,p,r⟩ ⟨C,b⟩;refine EvQ.bind (qtk (by show(5:Nat)<=1048576;decide) (z _ (by decide) (by decide)) (z _ (by decide) (by decide)) c b) ?_;rintro⟨X,t,u⟩ ⟨D,b⟩;refine EvQ.done ⟨⟨⟨by simp,fun x d=>?_⟩⟩,b⟩;simp only[jK,jz,or_false] at d;rcases d with rfl|rfl|rfl|rfl|rfl|rfl|rfl|rfl<;>assumption
end

section
variable{code:List (IntK .u8)}{a s:Int}
theorem qnH(b:IntK .u8):(strOf [b]).size=1:=rfl
theorem qsa{x y:ByteArray}(h:x.size+y.size<=1048576):catB x y=V (x++y):=by
 unfold catB;rw[if_pos];have:IntKind.i64.max=9223372036854775807:=rfl;omega
theorem qwC:∀(d:Nat) (k:Int),d<=15->0<=k->k<((10 ^ (d+1):Nat):Int)->EvQ (fun n=>qbV n k) (fun z=>z.size<=d+1):=by
 intro d
 induction d with
 |zero=>
  intro k f b c;refine EvQ.succ ?_;simp only[qbV];refine EvQ.ff (by simp;omega) (EvQ.tt (by simp;omega) (EvQ.done ?_));rw[qnH];exact je _
 |succ d ih=>
  intro k f b c;refine EvQ.succ ?_;simp only[qbV];refine EvQ.ff (by simp;omega) (EvQ.bif (fun _=>EvQ.done (by rw[qnH];omega)) (fun h=>?_));have l:(10:Nat) ^ (d+1+1)<=10 ^ 17:=Nat.pow_le_pow_right (by decide) (by omega);have i:k<=9223372036854775807:=by
   have:(10:Nat) ^ 17<=9223372036854775807:=by decide
   omega
  have e:k.tdiv 10=k / 10:=jD b;have e1:W64 (k.tdiv 10)=k / 10:=by rw[e];exact qP (by omega) (by omega)
  rw[e1];have a:k / 10<((10 ^ (d+1):Nat):Int):=by rw[Nat.pow_succ] at c;omega
  refine EvQ.bind (ih (k / 10) (by omega) (by omega) a) (fun m g=>?_);refine EvQ.bindN (qsa (by rw[qnH];omega)) (EvQ.done ?_);rw[ByteArray.size_append,qnH];omega
theorem quj{k:Nat}(h:k<=1000):EvQ (fun n=>qbV n (k:Int)) (fun z=>z.size<=4):=qwC 3 k (by decide) (by omega) (by omega)
theorem qxm{y:Int}(a:0<=y)(b:y<=7):∃p:Nat,idx ([2,2,3,3,4,3,3,3]:List Int) y=V (p:Int)/\2<=p/\p<=4:=by
 have:y=0\/y=1\/y=2\/y=3\/y=4\/y=5\/y=6\/y=7:=by omega
 rcases this with rfl|rfl|rfl|rfl|rfl|rfl|rfl|rfl
 .exact⟨2,rfl,by decide,by decide⟩
 .exact⟨2,rfl,by decide,by decide⟩
 .exact⟨3,rfl,by decide,by decide⟩
 .exact⟨3,rfl,by decide,by decide⟩
 .exact⟨4,rfl,by decide,by decide⟩
 .exact⟨3,rfl,by decide,by decide⟩
 .exact⟨3,rfl,by decide,by decide⟩
 .exact⟨3,rfl,by decide,by decide⟩
theorem qwW{y:Int}(a:0<=y)(b:y<12):∃p:Int,idx ([0,1,2,2,3,4,5,5,5,6,7,1]:List Int) y=V p/\0<=p/\p<=7:=by
 have:y=0\/y=1\/y=2\/y=3\/y=4\/y=5\/y=6\/y=7\/y=8\/y=9\/y=10\/y=11:=by omega
 rcases this with rfl|rfl|rfl|rfl|rfl|rfl|rfl|rfl|rfl|rfl|rfl|rfl<;>exact⟨_,rfl,by decide,by decide⟩
theorem qnE{α:Type}{xs:List α}(h:xs.length<=1048576):appS ([]:List α) xs=V xs:=by
 have:=qcA (xs:=([]:List α)) (ys:=xs) (by simp;omega);rwa [List.nil_append] at this
theorem qxX{l:List ByteArray}{m:Int}{p:Nat}(k:idx ([2,2,3,3,4,3,3,3]:List Int) m=V (p:Int))(H:2<=p)(I:p<=4)(u:l.length<=100)(i:CodeOk code) :
  ∀(d j:Nat) (x:List Int) (f g:Int),SrcI code f g->j+d+1=p->x.length=j->(∀y,y∈x->okI y) ->
   EvQ (fun n=>qes ⟨code,a,s⟩ l m n x f g (j:Int)) (fun o=>(o.1.length+1=p/\∀y,y∈o.1->okI y)/\SrcI code o.2.1 o.2.2.1):=by
 have h:W64 ((p:Int)-1)=((p-1:Nat):Int):=by rw[qP (by omega) (by omega)];omega
 intro d
 induction d with
 |zero=>
  intro j x f g c r t b;refine EvQ.succ ?_;simp only[qes];refine EvQ.bindN k ?_;rw[h];exact EvQ.ff (qq (by omega)) (EvQ.done ⟨⟨by dsimp only;omega,b⟩,c⟩)
 |succ d ih=>
  intro j x f g c r t b;refine EvQ.succ ?_;simp only[qes];refine EvQ.bindN k ?_;rw[h];refine EvQ.tt (qp (by omega)) (EvQ.bind (qaq _ i c) ?_);rintro⟨v,z,A⟩ ⟨_,c⟩;refine EvQ.bind (qaq 3 i c) ?_;rintro⟨B,C,D⟩ ⟨_,c⟩;refine EvQ.bind (R:=okI) (EvQ.bif (fun _=>EvQ.done (qaX _)) (fun _=>EvQ.done (qaX _))) (fun F hi=>?_);refine EvQ.bind (R:=fun _=>True) (EvQ.bif (fun _=>EvQ.done trivial) (fun _=>EvQ.done trivial)) (fun b3 _=>?_);rw[wS j];refine EvQ.bif (fun _=>?_) (fun _=>?_)
  .exact EvQ.bindN (qnE (by omega)) (EvQ.bindN (qcm (by omega)) (ih (j+1) _ _ _ c (by omega) (by rw[jg,ji];omega) (qbM b (qas (by decide) (by decide)))))
  .exact EvQ.bindN (qnE (by omega)) (EvQ.bindN (qcm (by omega)) (ih (j+1) _ _ _ c (by omega) (by rw[jg,ji];omega) (qbM b hi)))
structure InsI(x:qJ):Prop where
 ok:qpM x
 l2:2<=x.Ah.length
 l5:x.Ah.length<=5
theorem qwX(B:CodeOk code):∀(r:Nat) (f:List ByteArray) (d:List qJ) (i l:Int),SrcI code i l->d.length+r<=14->f.length=d.length+3->(∀y,y∈f->okS y)->(∀y,y∈d->InsI y) ->
  EvQ (fun n=>qfE ⟨code,a,s⟩ n f d i l (r:Int)) (fun o=>(o.1.length=o.2.1.length+3/\o.2.1.length=d.length+r/\(∀y,y∈o.1->okS y)/\∀y,y∈o.2.1->InsI y)/\SrcI code o.2.2.1 o.2.2.2.1):=by
 intro r
 induction r with
 |zero=>
  intro f d i l b I g m t;refine EvQ.succ ?_;simp only[qfE];exact EvQ.ff Z (EvQ.done ⟨⟨g,rfl,m,t⟩,b⟩)
 |succ r ih=>
  intro f d i l b I g m t;refine EvQ.succ ?_;simp only[qfE];refine EvQ.tt (by simp) (EvQ.bind (qaq 12 B b) ?_);rintro⟨W,P,Q⟩ ⟨⟨⟨C,D⟩,_⟩,b⟩;dsimp only at C D b⊢;obtain⟨T,v,z,A⟩:=qwW C (D (by decide));obtain⟨p,J,R,S⟩:=qxm z A;refine EvQ.bindN v (EvQ.bind (quj (show d.length<=1000 by omega)) (fun r1 K=>?_));have F:(⟨#[117]⟩:ByteArray).size=1:=rfl;have H:(⟨#[110]⟩:ByteArray).size=1:=rfl;refine EvQ.bindN (qsa (by rw[F];omega)) (EvQ.bind (qxX J R S (by omega) B (p-1) 0 [] P Q b (by omega) Z (fun _ h=>by cases h)) ?_);rintro⟨Y,M,N,O⟩ ⟨⟨u,c⟩,b⟩;dsimp only at u c b⊢;refine EvQ.bindN (qnE (by omega)) (EvQ.bindN (qcm (by omega)) (EvQ.bind (quj (show f.length<=1000 by omega)) (fun X L=>?_)));refine EvQ.bindN (qsa (by rw[H];omega)) (EvQ.bindN (qcm (by omega)) (EvQ.bindN (qcm (by omega)) ?_));have e:W64 (((r+1:Nat):Int)-1)=(r:Int):=by rw[qP (by omega) (by omega)];omega
  rw[e];refine(ih _ _ _ _ b (by rw[jg,ji];omega) (by rw[jg,jg,ji,ji];omega) (qbM m (by show(_++_:ByteArray).size<=_;rw[ByteArray.size_append,H];omega))
   (qbM t ⟨⟨by show(_++_:ByteArray).size<=_;rw[ByteArray.size_append,F];omega,qas (x:=T) (by omega) (by omega),⟨by show(_++_:List Int).length<=_;rw[jg,ji];omega,qbM c (qas (by omega) (by omega))⟩⟩,by show _<=(_++_:List Int).length;rw[jg,ji];omega,by show(_++_:List Int).length<=_;rw[jg,ji];omega⟩)).mono (fun o k=>⟨⟨k.1.1,by rw[k.1.2.1,jg,ji];omega,k.1.2.2⟩,k.2⟩)
theorem qiq{α:Type}{ok:α->Prop}{xs:List α}{j:Int}{y:α}(h:∀x,x∈xs->ok x)(b:ok y):∀x,x∈setS xs j y->ok x:=by
 intro x a;unfold setS at a;rcases List.mem_or_eq_of_mem_set a with a|rfl
 .exact h x a
 .exact b
theorem qyw{wild:Bool}{p:List ByteArray}{h:List qJ}(J:h.length<=14)(u:p.length<=100)(m:CodeOk code):∀(d j:Nat) (x:List qJ) (i l:Int),SrcI code i l->j+d=h.length->x.length=h.length->(∀y,y∈x->InsI y) ->
  EvQ (fun n=>qer ⟨code,a,s⟩ wild p h n x i l (j:Int)) (fun o=>(o.1.length=h.length/\∀y,y∈o.1->InsI y)/\SrcI code o.2.1 o.2.2.1):=by
 intro d
 induction d with
 |zero=>
  intro j x i l c t k f;refine EvQ.succ ?_;simp only[qer];exact EvQ.ff (qq (by omega)) (EvQ.done ⟨⟨k,f⟩,c⟩)
 |succ d ih=>
  intro j x i l c t k f;have g:j<x.length:=by omega
  refine EvQ.succ ?_;simp only[qer,wS j];refine EvQ.tt (qp (by omega)) (EvQ.bind (R:=fun o:Int×Int×Bool=>SrcI code o.1 o.2.1) (EvQ.bind (qaq 4 m c) ?_) ?_)
  .rintro⟨D,F,H⟩ ⟨_,c⟩;refine EvQ.bif (fun _=>?_) (fun _=>EvQ.done c);refine EvQ.bindN (qaZ g) (EvQ.bif (fun _=>EvQ.done c) (fun _=>EvQ.bindN (qaZ g) (EvQ.bif (fun _=>EvQ.done c) (fun _=>EvQ.done c))))
  .rintro⟨v,z,I⟩ c;dsimp only at c⊢;refine EvQ.bif (fun _=>?_) (fun _=>ih (j+1) x _ _ c (by omega) k f);refine EvQ.bindN (qaZ g) (EvQ.bind (qaq _ m c) ?_);rintro⟨A,B,C⟩ ⟨_,c⟩;have hi:=f _ (jo g);have r:0<x[j].Ah.length:=by have:=hi.l2;omega
   refine EvQ.bindN (b:=x[j].Ah[0]) (qaZ (j:=0) r) ?_;refine ih (j+1) _ _ _ c (by omega) (by rw[qaY];exact k) (qiq f ⟨⟨hi.ok.Ba,hi.ok.Bq,⟨by show(setS _ _ _).length<=_;rw[qaY];exact hi.ok.Ah.1,qiq hi.ok.Ah.2 (qaX _)⟩⟩,by show _<=(setS _ _ _).length;rw[qaY];exact hi.l2,by show(setS _ _ _).length<=_;rw[qaY];exact hi.l5⟩)
structure DesI(d:qj):Prop where
 ok:qkE d
 sm:smallD d
 n1:1<=d.Ah.length
 p1:1<=d.Ai.length
theorem qvA{most:Int}{wild:Bool}(K:2<=most)(J:most<=14)(g:CodeOk code)(h:SrcI code a s) :
  EvQ (fun n=>qkn n ⟨code,a,s⟩ most wild) (fun o=>DesI o.1/\SrcI code o.2.1 o.2.2):=by
 have z:∀x:Int,-1000<=x->x<=1000->okI x:=fun x F K=>qas (by omega) (by omega);unfold qkn;refine EvQ.bindN (qnE (by simp)) (EvQ.bind (qaq _ g h) ?_);rintro⟨u,O,S⟩ ⟨⟨⟨q0,C⟩,_⟩,b⟩;have I:W64 (most-1)=most-1:=qP (by omega) (by omega);rw[I] at C;dsimp only at q0 C b⊢;have q2:=C (by omega);obtain⟨m,M⟩:∃m:Nat,2+u=(m:Int):=⟨(2+u).toNat,by omega⟩;rw[wO (2+u),M];have r:∀y,y∈[(⟨#[110,99,107]⟩:ByteArray),(⟨#[110,97]⟩:ByteArray),(⟨#[110,98]⟩:ByteArray)]->okS y:=by
  intro y f;simp only[jK,jz,or_false] at f;rcases f with rfl|rfl|rfl
  .show(3:Nat)<=1048576;decide
  .show(2:Nat)<=1048576;decide
  .show(2:Nat)<=1048576;decide
 refine EvQ.bind (qwX g m _ [] O S b (by simp;omega) Z r (fun _ h=>by cases h)) ?_;rintro⟨p,D,i4,i5,i6⟩ ⟨⟨A,B,H,hi⟩,b⟩;dsimp only at A B H hi b⊢;have B:D.length=m:=by simpa using B
 refine EvQ.bind (qyw (wild:=wild) (by omega) (by omega) g D.length 0 D i4 i5 b (by omega) Z hi) ?_;rintro⟨c,P,Q,R⟩ ⟨⟨v,d⟩,b⟩;dsimp only at v d b⊢;have N:∀y,y∈[(⟨(⟨#[99,107]⟩:ByteArray),1,0⟩:qaD),(⟨(⟨#[97]⟩:ByteArray),1,1⟩:qaD),(⟨(⟨#[98]⟩:ByteArray),1,2⟩:qaD)]->qsg y:=by
  intro y f;simp only[jK,jz,or_false] at f;rcases f with rfl|rfl|rfl
  .exact⟨by show(2:Nat)<=1048576;decide,z _ (by decide) (by decide),z _ (by decide) (by decide)⟩
  .exact⟨by show(1:Nat)<=1048576;decide,z _ (by decide) (by decide),z _ (by decide) (by decide)⟩
  .exact⟨by show(1:Nat)<=1048576;decide,z _ (by decide) (by decide),z _ (by decide) (by decide)⟩
 refine EvQ.bindN (qnE (by simp)) (EvQ.bindN (qcm (by simp)) (EvQ.bind (qaq 2 g b) ?_));have l:=qbM (y:=(⟨(⟨#[121]⟩:ByteArray),2,W64 ((p.length:Int)-1)⟩:qaD)) N ⟨by show(1:Nat)<=1048576;decide,z 2 (by decide) (by decide),qaX _⟩;have fin:∀{ps:List qaD},1<=ps.length->ps.length<=8->(∀y,y∈ps->qsg y)->DesI ⟨c,p,ps⟩:=fun {ps} F L t=>by
  refine⟨⟨⟨by show c.length<=_;omega,fun y f=>(d y f).ok⟩,⟨by show p.length<=_;omega,H⟩,⟨by show ps.length<=_;omega,t⟩⟩,⟨by show c.length<=_;omega,by show p.length<=_;omega,L,fun i hi=>?_⟩,by show 1<=p.length;omega,F⟩;have k:i<c.length:=hi;have:=d _ (jo k);show 2<=(gt c i).Ah.length/\(gt c i).Ah.length<=5;rw[qeV k];exact⟨this.l2,this.l5⟩
 rintro⟨T,W,X⟩ ⟨_,b⟩;refine EvQ.bif (fun _=>?_) (fun _=>EvQ.done ⟨fin (by simp) (by simp) l,b⟩);refine EvQ.bind (qaq _ g b) ?_;rintro⟨Y,e,a3⟩ ⟨_,b⟩;exact EvQ.bindN (qcm (by simp)) (EvQ.done ⟨fin (by simp) (by simp) (qbM l ⟨by show(1:Nat)<=1048576;decide,z 2 (by decide) (by decide),qaX _⟩),b⟩)
end

section
variable{code:List (IntK .u8)}{a s:Int}
structure WirI(x:qah):Prop where
 ok:qoV x
 p1:1<=x.Aj.length/\x.Aj.length<=100
 r1:1<=x.Br.length
 c1:1<=x.Bl.length
 s1:x.Bb.length<=100
theorem qqa{xs:List Int}(h:xs.length<=1048576):Ev (fun n=>qeO n xs) xs:=by
 unfold qeO;exact Ev.bindN (qnE h) .done
theorem qwT(t:CodeOk code):∀(r:Nat) (d f g:List Int) (h m:Int),SrcI code h m->r<=10->(1<=d.length/\d.length+r<=50)->(1<=f.length/\f.length+r<=50)->(1<=g.length/\g.length+r<=50) ->
  (∀y,y∈d->okI y)->(∀y,y∈f->okI y)->(∀y,y∈g->okI y) ->
  EvQ (fun n=>qdg ⟨code,a,s⟩ n d f g h m (r:Int)) (fun o=>(((1<=o.1.length/\o.1.length<=50)/\∀y,y∈o.1->okI y)/\((1<=o.2.1.length/\o.2.1.length<=50)/\∀y,y∈o.2.1->okI y)/\(1<=o.2.2.1.length/\o.2.2.1.length<=50)/\∀y,y∈o.2.2.1->okI y)/\SrcI code o.2.2.2.1 o.2.2.2.2.1):=by
 intro r
 induction r with
 |zero=>
  intro d f g h m c D l1 l2 u i l p;refine EvQ.succ ?_;simp only[qdg];exact EvQ.ff Z (EvQ.done ⟨⟨⟨⟨l1.1,by dsimp only;omega⟩,i⟩,⟨⟨l2.1,by dsimp only;omega⟩,l⟩,⟨u.1,by dsimp only;omega⟩,p⟩,c⟩)
 |succ r ih=>
  intro d f g h m c D l1 l2 u i l p;have e:W64 (((r+1:Nat):Int)-1)=(r:Int):=by rw[qP (by omega) (by omega)];omega
  have b:∀{x:Int} {k:Int},0<=x->x<k->k<=1000->okI x:=fun P i l=>qas (by omega) (by omega);refine EvQ.succ ?_;simp only[qdg,e];refine EvQ.tt (by simp) (EvQ.bindE (qqa (by omega)) (EvQ.bind (qaq _ t c) ?_));rintro⟨F,H,I⟩ ⟨⟨⟨v,p1⟩,_⟩,c⟩;refine EvQ.bindN (qcm (by omega)) (EvQ.bindE (qqa (by omega)) (EvQ.bind (qaq _ t c) ?_));rintro⟨J,K,L⟩ ⟨⟨⟨z,A⟩,_⟩,c⟩;refine EvQ.bindN (qcm (by omega)) (EvQ.bindE (qqa (by omega)) (EvQ.bind (qaq _ t c) ?_));rintro⟨M,N,O⟩ ⟨⟨⟨B,C⟩,_⟩,c⟩;dsimp only at v p1 z A B C c;refine EvQ.bindN (qcm (by omega)) ?_;exact ih _ _ _ _ _ c (by omega) (by rw[jg,ji];omega) (by rw[jg,ji];omega) (by rw[jg,ji];omega)
   (qbM i (b B (C (by decide)) (by decide))) (qbM l (b z (A (by decide)) (by decide))) (qbM p (b v (p1 (by omega)) (by omega)))
theorem qxn{r1:qah}{i:List Int}(l:CodeOk code)(z:r1.Bb.length<=100)(v:1<=i.length/\i.length<=50):∀(d j:Nat) (x:List Int) (f g:Int),SrcI code f g->j+d=r1.Bb.length->x.length=r1.Bb.length->(∀y,y∈x->okI y) ->
  EvQ (fun n=>qdh ⟨code,a,s⟩ r1 i n x f g (j:Int)) (fun o=>(o.1.length=r1.Bb.length/\∀y,y∈o.1->okI y)/\SrcI code o.2.1 o.2.2.1):=by
 intro d
 induction d with
 |zero=>
  intro j x f g c m h b;refine EvQ.succ ?_;simp only[qdh];exact EvQ.ff (qq (by omega)) (EvQ.done ⟨⟨h,b⟩,c⟩)
 |succ d ih=>
  intro j x f g c m h b;refine EvQ.succ ?_;simp only[qdh,wS j];refine EvQ.tt (qp (by omega)) (EvQ.bind (qaq _ l c) ?_);rintro⟨p,r,t⟩ ⟨⟨⟨u,k⟩,_⟩,c⟩;dsimp only at u k c⊢;have A:=k (by omega);exact EvQ.bindN (qaZ (show j<x.length by omega)) (ih (j+1) _ _ _ c (by omega) (by rw[qaY];exact h) (qiq b (qas (by omega) (by omega))))
theorem qyk{m:Nat}(R:m<=100)(c:CodeOk code)(h:SrcI code a s):EvQ (fun n=>qhX n ⟨code,a,s⟩ (m:Int)) (fun o=>WirI o.1/\SrcI code o.2.1 o.2.2):=by
 have z:∀x:Int,-1000<=x->x<=1000->okI x:=fun x f g=>qas (by omega) (by omega);unfold qhX;refine EvQ.bind (qaq 6 c h) ?_;rintro⟨d,S,T⟩ ⟨⟨⟨N,p1⟩,_⟩,b⟩;dsimp only at N p1 b⊢;have X:=p1 (by decide);have C:Ev (fun n=>qjn n (m:Int) d) (⟨[-1],[0],[d],List.replicate m 0⟩:qah):=by
  unfold qjn;exact Ev.bindN (qko (by omega)) .done
 refine EvQ.bindE C (EvQ.bind (qaq 4 c b) ?_);rintro⟨t,J,K⟩ ⟨⟨⟨O,v⟩,_⟩,b⟩;dsimp only at O v b⊢;have Y:=v (by decide);obtain⟨r,rfl⟩:∃r:Nat,t=(r:Int):=⟨t.toNat,by omega⟩;have one:∀{x:Int},okI x->∀y,y∈[x]->okI y:=fun D y i=>by obtain rfl:=List.mem_singleton.1 i;exact D
 refine EvQ.bind (qwT c r [d] [0] [-1] J K b (by omega) (by simp;omega) (by simp;omega) (by simp;omega) (one (z _ (by omega) (by omega))) (one (z _ (by decide) (by decide))) (one (z _ (by decide) (by decide)))) ?_;rintro⟨P,Q,A,L,M,W⟩ ⟨⟨⟨l1,f⟩,⟨l2,g⟩,k,p⟩,b⟩;dsimp only at l1 f l2 g k p b⊢;refine EvQ.bind (qxn (r1:=⟨[-1],[0],[d],List.replicate m 0⟩) c (by simp;omega) k m 0 (List.replicate m 0) L M b (by simp) Z (fun y i=>by obtain⟨_,rfl⟩:=List.mem_replicate.1 i;exact z _ (by decide) (by decide))) ?_;rintro⟨l,F,H,I⟩ ⟨⟨u,B⟩,b⟩;have u:l.length=m:=by simpa using u
 exact EvQ.done ⟨⟨⟨⟨by show A.length<=_;omega,p⟩,⟨by show Q.length<=_;omega,g⟩,⟨by show P.length<=_;omega,f⟩,⟨by show l.length<=_;omega,B⟩⟩,⟨k.1,by show A.length<=_;omega⟩,l2.1,l1.1,by show l.length<=_;omega⟩,b⟩
structure BlkI(b:qd):Prop where
 lib:qhn b.Am
 des:DesI b.Aa
 wl:b.Ac.length=b.Aa.Ah.length
 wi:∀y,y∈b.Ac->WirI y
theorem BlkI.ok{b:qd}(h:BlkI b):qg1 b:=⟨h.lib,h.des.ok,⟨by rw[h.wl];exact h.des.ok.Ah.1,fun y a=>(h.wi y a).ok⟩⟩
theorem qnO{most:Int}{wild:Bool}(u:2<=most)(m:most<=14)(p:CodeOk code)(h:SrcI code a s) :
  EvQ (fun n=>qeN n ⟨code,a,s⟩ most wild) (fun o=>BlkI o.1/\SrcI code o.2.1 o.2.2):=by
 unfold qeN;refine EvQ.bind (qyu p h) ?_;rintro⟨r1,I,J⟩ ⟨r,b⟩;refine EvQ.bind (qvA u m p b) ?_;rintro⟨c,F,H⟩ ⟨g,b⟩;dsimp only at r g b⊢;have A:=g.sm.nn;have B:=qaW g.sm;have i:∀(d j:Nat) (x:List qah) (k l:Int),SrcI code k l->j+d=c.Ah.length->x.length=j->(∀y,y∈x->WirI y) ->
   EvQ (fun n=>qfK ⟨code,a,s⟩ c n x k l (j:Int)) (fun o=>(o.1.length=c.Ah.length/\∀y,y∈o.1->WirI y)/\SrcI code o.2.1 o.2.2.1):=by
  intro d
  induction d with
  |zero=>
   intro j x k l b z D f;refine EvQ.succ ?_;simp only[qfK];exact EvQ.ff (qq (by omega)) (EvQ.done ⟨⟨by dsimp only;omega,f⟩,b⟩)
  |succ d ih=>
   intro j x k l b z D f;refine EvQ.succ ?_;simp only[qfK,wS j];have C:(sinksL c (j:Int) (places c).length).length<=78:=by
    have:(sinksL c (j:Int) (places c).length).length<=(places c).length:=by
     unfold sinksL;rw[jt];refine jR (List.length_filter_le _ _) ?_;rw[List.length_range];exact je _
    omega
   refine EvQ.tt (qp (by omega)) (EvQ.bindE (qls g.sm) (EvQ.bind (qyk (by omega) p b) ?_));rintro⟨P,N,O⟩ ⟨v,b⟩;exact EvQ.bindN (qcm (by omega)) (ih (j+1) _ _ _ b (by omega) (by rw[jg,ji];omega) (qbM f v))
 refine EvQ.bind (i c.Ah.length 0 [] F H b (by omega) Z (fun _ h=>by cases h)) ?_;rintro⟨Q,K,L,M⟩ ⟨⟨l1,t⟩,b⟩;exact EvQ.done ⟨⟨r,g,l1,t⟩,b⟩
structure BlkO(b:qd):Prop where
 ok:qg1 b
 sm:smallD b.Aa
theorem qtG(g:CodeOk code)(h:SrcI code a s):EvQ (fun n=>qiv n ⟨code,a,s⟩) (fun o=>BlkO o.1/\SrcI code o.2.1 o.2.2):=by
 unfold qiv;refine EvQ.bind (qaq 3 g h) ?_;rintro⟨X,Y,i3⟩ ⟨_,d⟩;refine EvQ.bind (qnO (by decide) (by decide) g d) ?_;rintro⟨r1,i4,i5⟩ ⟨b,d⟩;dsimp only at b d⊢;have D:1<=r1.Ac.length:=by rw[b.wl];exact b.des.n1
 have F:r1.Ac.length<=30:=by rw[b.wl];exact b.des.sm.nn
 refine EvQ.bind (qaq _ g d) ?_;rintro⟨p,i7,i8⟩ ⟨⟨⟨O,r⟩,_⟩,d⟩;dsimp only at O r d⊢;have q2:=r (by omega);obtain⟨k,rfl⟩:∃k:Nat,p=(k:Int):=⟨p.toNat,by omega⟩;have i:k<r1.Ac.length:=by omega
 have c:=b.wi _ (jo i);have W:∀{y:qah},qoV y->BlkO ⟨r1.Am,r1.Aa,setS r1.Ac (k:Int) y⟩:=fun {y} h=>⟨⟨b.lib,b.des.ok,⟨by show(setS _ _ _).length<=_;rw[qaY];omega,qiq (fun y c=>(b.wi y c).ok) h⟩⟩,b.des.sm⟩;have z:∀x:Int,-1000<=x->x<=1000->okI x:=fun x Q R=>qas (by omega) (by omega);have S:=c.p1;have T:=c.r1;have u:=c.c1;have B:=c.s1;refine EvQ.bind (qaq 20 g d) ?_;rintro⟨i9,H,I⟩ ⟨_,d⟩;dsimp only at d⊢;refine EvQ.bif (fun _=>?_) (fun _=>EvQ.bif (fun _=>?_) (fun _=>EvQ.bif (fun _=>?_) (fun _=>EvQ.bif (fun _=>?_) (fun _=>EvQ.bif (fun _=>?_) (fun _=>EvQ.bif (fun _=>?_) (fun _=>EvQ.done ⟨⟨b.ok,b.des.sm⟩,d⟩))))))
 .have e:subS r1.Ac 1 (r1.Ac.length:Int)=V (r1.Ac.drop 1):=by
   unfold subS;rw[if_pos (by omega)];simp
  refine EvQ.bindN e (EvQ.done ⟨⟨⟨b.lib,b.des.ok,⟨by show(r1.Ac.drop 1).length<=_;rw[List.length_drop];omega,fun y c=>(b.wi y (List.mem_of_mem_drop c)).ok⟩⟩,b.des.sm⟩,d⟩)
 .refine EvQ.bindN (qaZ i) (EvQ.bindE (qqa (by omega)) (EvQ.bindN (qcm (by omega)) (EvQ.done ⟨W ⟨c.ok.Aj,c.ok.Br,c.ok.Bl,⟨by show(_++_:List Int).length<=_;rw[jg,ji];omega,qbM c.ok.Bb.2 (z _ (by decide) (by decide))⟩⟩,d⟩)))
 .refine EvQ.bindN (qaZ i) (EvQ.bindN (qaZ (j:=0) (show 0<r1.Ac[k].Br.length by omega)) (EvQ.done ⟨W ⟨c.ok.Aj,⟨by show(setS _ _ _).length<=_;rw[qaY];exact c.ok.Br.1,qiq c.ok.Br.2 (z _ (by decide) (by decide))⟩,c.ok.Bl,c.ok.Bb⟩,d⟩))
 .refine EvQ.bindN (qaZ i) (EvQ.bind (qaq 3 g d) ?_);rintro⟨f,J,K⟩ ⟨⟨⟨P,t⟩,_⟩,d⟩;dsimp only at P t d⊢;have t2:=t (by decide);have:f=0\/f=1\/f=2:=by omega
  have C:∃v:Int,idx ([(-1),500,501]:List Int) f=V v/\okI v:=by
   rcases this with rfl|rfl|rfl
   .exact⟨_,rfl,z _ (by decide) (by decide)⟩
   .exact⟨_,rfl,z _ (by decide) (by decide)⟩
   .exact⟨_,rfl,z _ (by decide) (by decide)⟩
  obtain⟨v,l,m⟩:=C;exact EvQ.bindN l (EvQ.bindN (qaZ (j:=0) (show 0<r1.Ac[k].Bl.length by omega)) (EvQ.done ⟨W ⟨c.ok.Aj,c.ok.Br,⟨by show(setS _ _ _).length<=_;rw[qaY];exact c.ok.Bl.1,qiq c.ok.Bl.2 m⟩,c.ok.Bb⟩,d⟩))
 .refine EvQ.bindN (qaZ i) (EvQ.bind (qaq 5 g d) ?_);rintro⟨L,M,N⟩ ⟨_,d⟩;have e:W64 ((r1.Ac[k].Aj.length:Int)-1)=((r1.Ac[k].Aj.length-1:Nat):Int):=by rw[qP (by omega) (by omega)];omega
  dsimp only;rw[e];exact EvQ.bindN (qaZ (show r1.Ac[k].Aj.length-1<r1.Ac[k].Aj.length by omega)) (EvQ.done ⟨W ⟨⟨by show(setS _ _ _).length<=_;rw[qaY];exact c.ok.Aj.1,qiq c.ok.Aj.2 (qaX _)⟩,c.ok.Br,c.ok.Bl,c.ok.Bb⟩,d⟩)
 .have A:=b.des.p1;refine EvQ.bindN (qaZ (j:=0) (show 0<r1.Aa.Ai.length by omega)) (EvQ.done ⟨⟨⟨b.lib,⟨b.des.ok.Ab,b.des.ok.Ah,⟨by show(setS _ _ _).length<=_;rw[qaY];exact b.des.ok.Ai.1,qiq b.des.ok.Ai.2 ⟨(b.des.ok.Ai.2 _ (jo _)).Ba,z 3 (by decide) (by decide),(b.des.ok.Ai.2 _ (jo _)).Bw⟩⟩⟩,b.ok.Ac⟩,⟨b.des.sm.ni,b.des.sm.nn,by show(setS _ _ _).length<=_;rw[qaY];exact b.des.sm.np,b.des.sm.nx⟩⟩,d⟩)
end
end Go.Fw
