/- By a program of mine (gen.py): for each function a plain function and the proof that the code computes it. -/
import Derived.Test.YtbmbbkjleheokaaGreatDoorQ6
import Derived.Test.YtbmbbkjleheokaaGreatDoorQ4
import Derived.Test.YtbmbbkjleheokaaGreatDoorQ1
import Derived.Test.YtbmbbkjleheokaaGreatDoorQ5
open Option renaming bind_some->jd, some->V, none->U
open Bool renaming and_eq_true->je, eq_iff_iff->jm, true_and->jB, not_eq_true'->jG, not_true->Jj
open Nat renaming le_refl->jf, zero_le->Jd, le_trans->Jh, zero_add->Ji
open List renaming length_append->jg, length_singleton->jh, getElem_mem->jn, getElem?_eq_getElem->jo, length_map->jr, append_assoc->ju, not_mem_nil->jy, getD_eq_getElem?_getD->jD, mem_cons->jL, take_length->jN, map_append->jY, length_take->jZ, getElem_of_mem->Jb, append_nil->Je
open Int renaming toNat_natCast->jp, le_refl->jC, tdiv_eq_ediv_of_nonneg->jF

namespace Go.Fw
open Go Go.Proofs Go.Proofs.Tryz
open Go.RowKit (Below)
open Ch renaming own->oW,box->oX,grp->oG
open GoT renaming v->oV
open Go.Value renaming slice->oS
set_option maxRecDepth 100000
set_option maxHeartbeats 6400000
variable{n:Nat}{w:World}{cs1 cs2 cs3 cs4 cs5 cs6 cs7 cs8 cs9:List Value}
def qie(n:Nat)(a_0:Tl01Source):Option (qe×Int×Int):=(ql n (⟨a_0.code,a_0.at_,a_0.seed⟩:Tl01Source) 3).bind fun(s,t,u)=>(qeD n (⟨a_0.code,t,u⟩:Tl01Source) 6 (s==0)).bind fun(r1,v,x)=>(ql n (⟨a_0.code,v,x⟩:Tl01Source) (r1.Af.length:Int)).bind fun(c,y,i8)=>(ql n (⟨a_0.code,y,i8⟩:Tl01Source) 20).bind fun(f,a,b)=>bif (f==0) then(subS r1.Af 1 (r1.Af.length:Int)).bind fun A=>V ((⟨(⟨r1.Aq.As⟩:qw),(⟨r1.Aa.Ab,r1.Aa.Ak,r1.Aa.Aj⟩:qh),A⟩:qe),a,b) else bif (f==1) then(idx r1.Af c).bind fun i=>(qeF n i.Bk).bind fun z=>(appS z ([0]:List Int)).bind fun B=>V ((⟨r1.Aq,r1.Aa,(setS r1.Af c (⟨i.Am,i.Bu,i.Bq,B⟩:qan))⟩:qe),a,b) else bif (f==2) then(idx r1.Af c).bind fun g=>(idx g.Bu 0).bind fun _=>V ((⟨r1.Aq,r1.Aa,(setS r1.Af c (⟨g.Am,(setS g.Bu 0 1),g.Bq,g.Bk⟩:qan))⟩:qe),a,b) else bif (f==3) then(idx r1.Af c).bind fun h=>(ql n (⟨a_0.code,a,b⟩:Tl01Source) 3).bind fun(k,l,m)=>(idx ([(-1),500,501]:List Int) k).bind fun C=>(idx h.Bq 0).bind fun _=>V ((⟨r1.Aq,r1.Aa,(setS r1.Af c (⟨h.Am,h.Bu,(setS h.Bq 0 C),h.Bk⟩:qan))⟩:qe),l,m) else bif (f==4) then(idx r1.Af c).bind fun d=>(ql n (⟨a_0.code,a,b⟩:Tl01Source) 5).bind fun(p,i16,r)=>(idx d.Am (W64 ((d.Am.length:Int)-1))).bind fun _=>V ((⟨r1.Aq,r1.Aa,(setS r1.Af c (⟨(setS d.Am (W64 ((d.Am.length:Int)-1)) (W64 (p-1))),d.Bu,d.Bq,d.Bk⟩:qan))⟩:qe),i16,r) else bif (f==5) then(idx r1.Aa.Aj 0).bind fun D=>V ((⟨r1.Aq,(⟨r1.Aa.Ab,r1.Aa.Ak,(setS r1.Aa.Aj 0 ({ D with Bv:=3 }))⟩:qh),r1.Af⟩:qe),a,b) else V (r1,a,b)
theorem qnx{n w0 w F}{a_0:Tl01Source}{A p1 M}(h0:SH w0 w (xb A a_0 p1 M a_0.at_ a_0.seed::F))(ha1:GoT.R w (Fr w0 F) a_0 (qR a_0 p1 M)){r:(qe×Int×Int)}(hF:qie n a_0=V r):RetW prog 118 [vp A] w (fun us w'=>∃S1 cs1,us=[oV qe cs1]/\SH w0 w' (oG (fun _=>False) S1 [fct (r.1:qe) cs1]::xb A a_0 p1 M r.2.1 r.2.2::F)):=by
 have h:=SH.frm1 h0 ha1;refine qbf func118 Z (m:=90) Z Z (zSR (qj qa h Z Z Z fun w1 D h=>X0 5 Z ?_));replace h:=h.p [1,0,2] Z;obtain⟨⟨i1,i2,i3⟩,hr1,hF⟩:=qc hF;refine nxC h ((qd (h.frG 2 0 1 Z Z Z)).1) hr1 Z Z Z fun _ h=>zp1 Z ?_;obtain⟨⟨r1,i4,i5⟩,hr2,hF⟩:=qc hF;refine qaQ (cB 119 Z) (qeQ (s:=(⟨a_0.code,i2,i3⟩:Tl01Source)) (most:=6) (wild:=(i1==0)) h ⟨[oS p1 a_0.code.length M],[vi i2,vi i3],rfl,⟨_,_,rfl,(qd (h.frG 2 0 1 Z Z Z)).1⟩,⟨[vi i2],[vi i3],rfl,rfl,rfl⟩⟩ hr2) Z Z Z Z ?_;rintro _ _ ⟨S2,_,rfl,h⟩;obtain⟨o,l,f,k3,c,a,d,b,k,i,rfl,-,-,-,-,-⟩:=qO (h.own 0 Z);replace h:SH _ _ [oW S2 (r1:qe) (qG r1 o f c d k l k3 a b i),xb A a_0 p1 M i4 i5,oX D [oS U 0 0,oS U 0 0,oS U 0 0,oS U 0 0,oS U 0 0] 34,xf w0 w F a_0 p1 M]:=h;refine qj qa h Z Z Z fun _ N h=>zs 0 h Z fun _ h=>X1 7 0 h Z ?_;replace h:=h.p [2,0,1,3,4] Z;obtain⟨⟨C,_,_⟩,hr3,hF⟩:=qc hF;refine nxC h ((qd (h.frG 4 0 1 Z Z Z)).1) hr3 Z Z Z fun _ h=>X0 6 Z ?_;obtain⟨⟨_,i10,i11⟩,hr4,hF⟩:=qc hF;refine nxC h ((qd (h.frG 4 0 1 Z Z Z)).1) hr4 Z Z Z fun _ h=>X0 7 Z (qk Z hF ?_ ?_)<;>intro hF
 ·refine X1 3 1 h Z ?_;obtain⟨x1,hx1,hF⟩:=qc hF;obtain⟨p7,k7,hp1,hk1,hl1,g1⟩:=qs2 (qcG (h.own 2 Z)).2.2.2.2.1 hx1;refine r_v (qqg qa Z Z Z (qs4 g1 (qcG (h.own 2 Z)).2.2.2.2.2) hp1 hk1 hl1 Z Z Z Z) Z (zp1 Z (zs 1 h Z fun _ h=>X1 5 1 h Z (zs 3 h Z fun _ h=>qbb ?_)));have hk2:=h;replace h:=h.frzI 2 Z;replace h:=h.grpAdd 2 Z (x:=((⟨(⟨r1.Aq.As⟩:qw),(⟨r1.Aa.Ab,r1.Aa.Ak,r1.Aa.Aj⟩:qh),x1⟩:qe):qe)) (⟨[oS o r1.Aq.As.length l],[oS f r1.Aa.Ab.length k3,oS c r1.Aa.Ak.length a,oS d r1.Aa.Aj.length b,oS p7 x1.length k7],rfl,⟨_,_,rfl,(qcG (h.grpS 2 0 Z Z)).1.1⟩,⟨[oS f r1.Aa.Ab.length k3,oS c r1.Aa.Ak.length a,oS d r1.Aa.Aj.length b],[oS p7 x1.length k7],rfl,⟨[oS f r1.Aa.Ab.length k3],[oS c r1.Aa.Ak.length a,oS d r1.Aa.Aj.length b],rfl,⟨_,_,rfl,(qcG (h.grpS 2 0 Z Z)).2.1.1⟩,⟨[oS c r1.Aa.Ak.length a],[oS d r1.Aa.Aj.length b],rfl,⟨_,_,rfl,(qcG (h.grpS 2 0 Z Z)).2.2.1.1⟩,⟨_,_,rfl,(qcG (h.grpS 2 0 Z Z)).2.2.2.1.1⟩⟩⟩,⟨_,_,rfl,(qs0 (qcG (h.grpS 2 0 Z Z)).2.2.2.2.1 hx1 hp1 hk1)⟩⟩⟩);replace h:=h.grpKeep [0] 2 Z;obtain rfl:=qb hF;replace h:=h.p [2,0,4] Z;exact qaM qa [oV qe [oS o r1.Aq.As.length l,oS f r1.Aa.Ab.length k3,oS c r1.Aa.Ak.length a,oS d r1.Aa.Aj.length b,oS p7 x1.length k7]] ⟨⟨_,_,_,rfl,rfl,hk2.box 3 Z,rfl⟩,G⟩ ⟨_,_,rfl,SH.unfr 1 1 h0 h Z Z⟩
 refine X0 5 Z (qk Z hF ?_ ?_)<;>intro hF
 ·replace h:=h.p [2,0,1,3,4] Z;obtain⟨S3,S4,_,h⟩:=qh3 h;obtain⟨g,hy1,hF⟩:=qc hF;have H:=qbB hy1;obtain⟨_,S7,_,h⟩:=h.take hy1;obtain⟨p8,k8,p9,k9,a3,Y,p11,k11,rfl,-,-,-,-⟩:=qbR (h.own 0 Z);obtain⟨S8,S9,S10,S11,h⟩:=qjH h;refine rA [14] [4,8] h Z fun _ h=>M2 63 [0,1,2,3,4,5] 1 1 (h.p [4,8] Z) Z ?_;obtain⟨_,hp2,-,-,hl3⟩:=h.holeAt 4 Z;obtain⟨q1,hq1⟩:∃q,q=0+(C).toNat*GoT.k qan:=⟨_,rfl⟩;refine Ax 6 127 hp2 hq1 ⟨H.1,qD H.2.1 hl3⟩ (h.p [4,8] Z) Z (M0 255 [7] (h.p [4,8] Z) Z (Aw 8 511 (fun w' hw=>qcg qa (qin hw 0 Z hp2 hq1) (j:=3) Z Z Z) (h.p [4,8] Z) Z ?_));obtain⟨r2,hr5,hF⟩:=qc hF;obtain⟨x2,I,hF⟩:=qc hF;refine qkk (fun e w'=>∃S22 p22 k19,e=[(2,vp D),(3,vp N)]/\SH w0 w' [oW S22 (x2:List Int) [oS p22 x2.length k19],oW S10 (g.Bq:List Int) [oS a3 g.Bq.length Y],oW S9 (g.Bu:List Int) [oS p9 g.Bu.length k9],oW S8 (g.Am:List Int) [oS p8 g.Am.length k8],Ch.hole S7 (r1.Af:List qan) k r1.Af.length i (C).toNat [oS p8 g.Am.length k8,oS p9 g.Bu.length k9,oS a3 g.Bq.length Y,oS p22 x2.length k19],oW S4 (r1.Aa:qh) (qaw r1.Aa f c d k3 a b),oW S3 (r1.Aq:qw) [oS o r1.Aq.As.length l],xb A a_0 p1 M i10 i11,oX N (qG r1 o f c d k l k3 a b i) 34,oX D [oS U 0 0,oS U 0 0,oS U 0 0,oS U 0 0,oS U 0 0] 34,xf w0 w F a_0 p1 M]) 0 (bits 15 32767) ?_ ?_
  ·intro K;refine At 9 10 1023 1535 Z ?_ ?_
   ·refine qj7 r2 h (cB 183 Z) (qfx (h.own 0 Z) hr5) Z Z Z Z fun w20 S19 p19 k17 h=>Ag (h.p [5,9] Z) (Ao 10 2047 Z (qq qa [.const (vi (0))] _ ([0]:List Int) h Z Z Z Z Z Z Z Z Z ⟨rfl,G⟩ Z fun w21 p20 S20 h=>Ag (h.p [6,10] Z) (Ao 11 4095 Z ?_)));obtain⟨g4,I⟩:=qE I;refine qaB qa 1 h Z (h.sl 0 Z).1 (h.sl 0 Z).2 Z Z Z Z Z Z Z Z Z g4 I Z fun w22 p21 k18 S21 h=>Ag (h.p [6,10] Z) (Ao 12 8191 Z ?_);obtain⟨b4,Q,-,-,hl9⟩:=h.holeAt 6 Z;obtain⟨q4,R⟩:∃q,q=0+(C).toNat*GoT.k qan:=⟨_,rfl⟩;refine zx Q R ⟨H.1,qD H.2.1 hl9⟩ Z (G0 16383 [13] (h.p [6,10] Z) Z (Ao 14 32767 Z (qqn qa 6 3 h Z Q R Z Z Z Z Z Z fun w23 h=>qbg (fun hs=>absurd (hs 14 (by decide)) (by decide)) ?_)));replace h:=h.p [1,3,4,5,6,7,8,9,10,11,12] Z;exact aK K ⟨_,_,_,rfl,h⟩ Z
   refine qq qa [.const (vi (0))] _ ([0]:List Int) h Z Z Z Z Z Z Z Z Z ⟨rfl,G⟩ Z fun w20 p19 S19 h=>Ag (h.p [5,9] Z) (Ao 9 2047 Z (qj7 r2 h (cB 183 Z) (qfx (h.own 1 Z) hr5) Z Z Z Z fun w21 S20 p20 k17 h=>Ag (h.p [6,10] Z) (Ao 11 4095 Z ?_)));obtain⟨g4,I⟩:=qE I;refine qaB qa 0 h Z (h.sl 1 Z).1 (h.sl 1 Z).2 Z Z Z Z Z Z Z Z Z g4 I Z fun w22 p21 k18 S21 h=>Ag (h.p [6,10] Z) (Ao 12 8191 Z ?_);obtain⟨b4,Q,-,-,hl9⟩:=h.holeAt 6 Z;obtain⟨q4,R⟩:∃q,q=0+(C).toNat*GoT.k qan:=⟨_,rfl⟩;refine zx Q R ⟨H.1,qD H.2.1 hl9⟩ Z (G0 16383 [13] (h.p [6,10] Z) Z (Ao 14 32767 Z (qqn qa 6 3 h Z Q R Z Z Z Z Z Z fun w23 h=>?_)));replace h:SH _ _ [oW S21 (x2:List Int) [oS p21 x2.length k18],oW S19 (([0]:List Int):List Int) [oS p19 1 1],oW S11 (g.Bk:List Int) [oS p11 g.Bk.length k11],oW S10 (g.Bq:List Int) [oS a3 g.Bq.length Y],oW S9 (g.Bu:List Int) [oS p9 g.Bu.length k9],oW S8 (g.Am:List Int) [oS p8 g.Am.length k8],Ch.hole S7 (r1.Af:List qan) k r1.Af.length i (C).toNat [oS p8 g.Am.length k8,oS p9 g.Bu.length k9,oS a3 g.Bq.length Y,oS p21 x2.length k18],oW S4 (r1.Aa:qh) (qaw r1.Aa f c d k3 a b),oW S3 (r1.Aq:qw) [oS o r1.Aq.As.length l],xb A a_0 p1 M i10 i11,oX N (qG r1 o f c d k l k3 a b i) 34,oX D [oS U 0 0,oS U 0 0,oS U 0 0,oS U 0 0,oS U 0 0] 34,xf w0 w F a_0 p1 M]:=h;refine qbg (fun hs=>absurd (hs 14 (by decide)) (by decide)) ?_;replace h:=h.p [0,3,4,5,6,7,8,9,10,11,12] Z;exact aK K ⟨_,_,_,rfl,h⟩ Z
  rintro _ _ ⟨S22,p22,k19,rfl,h⟩;refine Ad (X1 4 8 h Z (zs 9 h Z fun _ h=>qbb ?_));have hk3:=h;obtain⟨_,h⟩:=h.gather [4,5,6,7,8,9,10] (qlv (⟨g.Am,g.Bu,g.Bq,x2⟩:qan) h (qL 3 h Z) (qL 2 h Z) (qL 1 h Z) (qL 0 h Z) (by rfl) (by rfl) (by rfl)) Z;replace h:=h.put;obtain⟨_,h⟩:=qoN (S:=_) h;replace h:=h.frzI 2 Z;replace h:=h.frzI 1 Z;replace h:=h.frzI 0 Z;replace h:=h.p [2,1,0,3,4,5,6] Z;replace h:=SH.merge h;replace h:=SH.merge h;replace h:=h.grpAdd 0 Z (x:=((⟨r1.Aq,r1.Aa,(setS r1.Af C (⟨g.Am,g.Bu,g.Bq,x2⟩:qan))⟩:qe):qe)) (⟨[oS o r1.Aq.As.length l],[oS f r1.Aa.Ab.length k3,oS c r1.Aa.Ak.length a,oS d r1.Aa.Aj.length b,oS k r1.Af.length i],rfl,⟨_,_,rfl,(qiV (h.grpS 0 0 Z Z)).1⟩,⟨[oS f r1.Aa.Ab.length k3,oS c r1.Aa.Ak.length a,oS d r1.Aa.Aj.length b],[oS k r1.Af.length i],rfl,⟨[oS f r1.Aa.Ab.length k3],[oS c r1.Aa.Ak.length a,oS d r1.Aa.Aj.length b],rfl,⟨_,_,rfl,(qdt (h.grpS 0 1 Z Z)).1.1⟩,⟨[oS c r1.Aa.Ak.length a],[oS d r1.Aa.Aj.length b],rfl,⟨_,_,rfl,(qdt (h.grpS 0 1 Z Z)).2.1.1⟩,⟨_,_,rfl,(qdt (h.grpS 0 1 Z Z)).2.2.1⟩⟩⟩,(h.grpS 0 2 Z Z)⟩⟩);replace h:=h.grpKeep [0] 0 Z;obtain rfl:=qb hF;replace h:=h.p [0,1,4] Z;exact qaM qa [oV qe (qG r1 o f c d k l k3 a b i)] ⟨⟨_,_,_,rfl,rfl,hk3.box 9 Z,rfl⟩,G⟩ ⟨_,_,rfl,SH.unfr 1 1 h0 h Z Z⟩
 refine X0 5 Z (qk Z hF ?_ ?_)<;>intro hF
 ·refine X1 4 1 h Z ?_;replace h:=h.p [2,0,1,3,4] Z;obtain⟨_,_,_,h⟩:=qh3 h;obtain⟨y2,hy2,hF⟩:=qc hF;have he2:=qbB hy2;obtain⟨_,_,_,h⟩:=h.take hy2;obtain⟨_,_,_,_,_,_,_,_,rfl,-,-,-,-⟩:=qbR (h.own 0 Z);obtain⟨_,_,_,_,h⟩:=qjH h;obtain⟨_,hp6,-,-,hl11⟩:=h.holeAt 4 Z;obtain⟨q5,hq5⟩:∃q,q=0+(C).toNat*GoT.k qan:=⟨_,rfl⟩;refine zx hp6 hq5 ⟨he2.1,qD he2.2.1 hl11⟩ Z (zp1 Z (zc 1 (qin h 4 Z hp6 hq5) Z ?_));obtain⟨_,hy3,hF,he3,_,_,_,_,hp7,hq6,rfl,hc5⟩:=(h.sl 2 Z).1.ix hF;refine zx hp7 hq6 ⟨he3.1,qD he3.2.1 (h.sl 2 Z).2⟩ Z (qaV qa 2 0 1 h Z hy3 hp7 hq6 Z hc5 Z Z Z Z Z Z Z fun _ h=>X1 5 8 h Z (zs 9 h Z fun _ h=>qbb ?_));have hk4:=h;obtain⟨_,h⟩:=h.gather [4,5,6,7,8,9,10] (qlv (⟨y2.Am,(setS y2.Bu 0 1),y2.Bq,y2.Bk⟩:qan) h (qL 3 h Z) (qL 2 h Z) (qL 1 h Z) (qL 0 h Z) (by rfl) (by rfl) (by rfl)) Z;replace h:=h.put;obtain⟨_,h⟩:=qoN (S:=_) h;replace h:=h.frzI 2 Z;replace h:=h.frzI 1 Z;replace h:=h.frzI 0 Z;replace h:=h.p [2,1,0,3,4,5,6] Z;replace h:=SH.merge h;replace h:=SH.merge h;replace h:=h.grpAdd 0 Z (x:=((⟨r1.Aq,r1.Aa,(setS r1.Af C (⟨y2.Am,(setS y2.Bu 0 1),y2.Bq,y2.Bk⟩:qan))⟩:qe):qe)) (⟨[oS o r1.Aq.As.length l],[oS f r1.Aa.Ab.length k3,oS c r1.Aa.Ak.length a,oS d r1.Aa.Aj.length b,oS k r1.Af.length i],rfl,⟨_,_,rfl,(qiV (h.grpS 0 0 Z Z)).1⟩,⟨[oS f r1.Aa.Ab.length k3,oS c r1.Aa.Ak.length a,oS d r1.Aa.Aj.length b],[oS k r1.Af.length i],rfl,⟨[oS f r1.Aa.Ab.length k3],[oS c r1.Aa.Ak.length a,oS d r1.Aa.Aj.length b],rfl,⟨_,_,rfl,(qdt (h.grpS 0 1 Z Z)).1.1⟩,⟨[oS c r1.Aa.Ak.length a],[oS d r1.Aa.Aj.length b],rfl,⟨_,_,rfl,(qdt (h.grpS 0 1 Z Z)).2.1.1⟩,⟨_,_,rfl,(qdt (h.grpS 0 1 Z Z)).2.2.1⟩⟩⟩,(h.grpS 0 2 Z Z)⟩⟩);replace h:=h.grpKeep [0] 0 Z;obtain rfl:=qb hF;replace h:=h.p [0,1,4] Z;exact qaM qa [oV qe (qG r1 o f c d k l k3 a b i)] ⟨⟨_,_,_,rfl,rfl,hk4.box 9 Z,rfl⟩,G⟩ ⟨_,_,rfl,SH.unfr 1 1 h0 h Z Z⟩
 refine X0 5 Z (qk Z hF ?_ ?_)<;>intro hF
 ·replace h:=h.p [2,0,1,3,4] Z;obtain⟨S36,S37,_,h⟩:=qh3 h;obtain⟨p,hy4,hF⟩:=qc hF;have he4:=qbB hy4;obtain⟨_,S40,_,h⟩:=h.take hy4;obtain⟨p27,k24,p28,k25,p29,k26,p30,k27,rfl,-,-,-,-⟩:=qbR (h.own 0 Z);obtain⟨S41,S42,S43,S44,h⟩:=qjH h;refine rA [] [4,8] h Z fun _ h=>M1 7 [0,1,2] 1 (h.p [4,8] Z) Z ?_;obtain⟨_,hp8,-,-,hl13⟩:=h.holeAt 4 Z;obtain⟨q7,hq7⟩:∃q,q=0+(C).toNat*GoT.k qan:=⟨_,rfl⟩;refine Ax 3 15 hp8 hq7 ⟨he4.1,qD he4.2.1 hl13⟩ (h.p [4,8] Z) Z (M0 31 [4] (h.p [4,8] Z) Z (Aw 5 63 (fun w' hw=>qcg qa (qin hw 0 Z hp8 hq7) (j:=2) Z Z Z) (h.p [4,8] Z) Z ?_));refine M0 191 [7] (h.p [4,8] Z) Z ?_;obtain⟨⟨_,i13,i14⟩,hr9,hF⟩:=qc hF;obtain⟨y5,J,hF⟩:=qc hF;obtain⟨_,L,hF⟩:=qc hF;refine qkk (fun e w'=>e=[(2,vp D),(3,vp N)]/\SH w0 w' [xb A a_0 p1 M i13 i14,oW S44 (p.Bk:List Int) [oS p30 p.Bk.length k27],oW S43 ((setS p.Bq 0 y5):List Int) [oS p29 p.Bq.length k26],oW S42 (p.Bu:List Int) [oS p28 p.Bu.length k25],oW S41 (p.Am:List Int) [oS p27 p.Am.length k24],Ch.hole S40 (r1.Af:List qan) k r1.Af.length i (C).toNat [oS p27 p.Am.length k24,oS p28 p.Bu.length k25,oS p29 p.Bq.length k26,oS p30 p.Bk.length k27],oW S37 (r1.Aa:qh) (qaw r1.Aa f c d k3 a b),oW S36 (r1.Aq:qw) [oS o r1.Aq.As.length l],oX N (qG r1 o f c d k l k3 a b i) 34,oX D [oS U 0 0,oS U 0 0,oS U 0 0,oS U 0 0,oS U 0 0] 34,xf w0 w F a_0 p1 M]) 0 (bits 13 8191) ?_ ?_
  ·intro K;refine At 6 8 255 447 Z ?_ ?_
   ·refine qq qa [.const (vi (-1)),.const (vi (500)),.const (vi (501))] _ ([(-1),500,501]:List Int) h Z Z Z Z Z Z Z Z Z ⟨rfl,rfl,rfl,G⟩ Z fun w36 p33 S47 h=>Ag (h.p [5,9] Z) (Ao 8 511 Z ?_);replace h:=h.p [8,0,1,2,3,4,5,6,7,9,10,11] Z;refine nxC h ((qd (h.frG 11 0 1 Z Z Z)).1) hr9 Z Z Z fun w37 h=>Ag (h.p [6,9] Z) ?_;have P:=qbB J;obtain⟨b12,o_7,q12,cs11,u,y,-,T,hc11⟩:=(h.sl 1 Z).1.at J;obtain rfl:=T;refine Ax 9 1023 u y ⟨P.1,qD P.2.1 (h.sl 1 Z).2⟩ (h.p [6,9] Z) Z (Ao 10 2047 Z (r_v (qcg qa (qK (w1:=w) (S1:=fun _=>False) h 1 Z J u y Z) (j:=0) Z Z Z) Z (Ag (h.p [6,9] Z) ?_)));have t:=qbB L;obtain⟨b13,o_8,q13,cs12,v,z,-,W,O⟩:=(h.sl 3 Z).1.at L;obtain rfl:=W;refine Ax 11 4095 v z ⟨t.1,qD t.2.1 (h.sl 3 Z).2⟩ (h.p [6,9] Z) Z (Ao 12 8191 Z (qaV qa 3 0 y5 h Z L v z Z O Z Z Z Z Z Z Z fun w38 h=>Ag (h.p [6,9] Z) ?_));replace h:=h.p [0,2,3,4,5,6,7,8,9,10,11] Z;exact aK K ⟨rfl,h⟩ Z
   replace h:=h.p [7,0,1,2,3,4,5,6,8,9,10] Z;refine nxC h ((qd (h.frG 10 0 1 Z Z Z)).1) hr9 Z Z Z fun w36 h=>Ag (h.p [5,8] Z) (Ao 6 511 Z (qq qa [.const (vi (-1)),.const (vi (500)),.const (vi (501))] _ ([(-1),500,501]:List Int) h Z Z Z Z Z Z Z Z Z ⟨rfl,rfl,rfl,G⟩ Z fun w37 p33 S47 h=>Ag (h.p [6,9] Z) ?_));have P:=qbB J;obtain⟨b12,o_7,q12,cs11,u,y,-,T,hc11⟩:=(h.sl 0 Z).1.at J;obtain rfl:=T;refine Ax 9 1023 u y ⟨P.1,qD P.2.1 (h.sl 0 Z).2⟩ (h.p [6,9] Z) Z (Ao 10 2047 Z (r_v (qcg qa (qK (w1:=w) (S1:=fun _=>False) h 0 Z J u y Z) (j:=0) Z Z Z) Z (Ag (h.p [6,9] Z) ?_)));have t:=qbB L;obtain⟨b13,o_8,q13,cs12,v,z,-,W,O⟩:=(h.sl 3 Z).1.at L;obtain rfl:=W;refine Ax 11 4095 v z ⟨t.1,qD t.2.1 (h.sl 3 Z).2⟩ (h.p [6,9] Z) Z (Ao 12 8191 Z (qaV qa 3 0 y5 h Z L v z Z O Z Z Z Z Z Z Z fun w38 h=>Ag (h.p [6,9] Z) ?_));replace h:=h.p [1,2,3,4,5,6,7,8,9,10,11] Z;exact aK K ⟨rfl,h⟩ Z
  rintro _ _ ⟨rfl,h⟩;refine Ad (X1 4 8 h Z (zs 9 h Z fun _ h=>qbb ?_));have hk5:=h;obtain⟨_,h⟩:=h.gather [0,5,6,7,8,9,10] (qlv (⟨p.Am,p.Bu,(setS p.Bq 0 y5),p.Bk⟩:qan) h (qL 4 h Z) (qL 3 h Z) (qL 2 h Z) (qL 1 h Z) (by rfl) (by rfl) (by rfl)) Z;replace h:=h.p [0,2,1,3,4,5,6,7] Z;replace h:=h.put;obtain⟨_,h⟩:=qoN (S:=_) h;replace h:=h.frzI 3 Z;replace h:=h.frzI 2 Z;replace h:=h.frzI 0 Z;replace h:=h.p [3,2,0,1,4,5,6] Z;replace h:=SH.merge h;replace h:=SH.merge h;replace h:=h.grpAdd 0 Z (x:=((⟨r1.Aq,r1.Aa,(setS r1.Af C (⟨p.Am,p.Bu,(setS p.Bq 0 y5),p.Bk⟩:qan))⟩:qe):qe)) (⟨[oS o r1.Aq.As.length l],[oS f r1.Aa.Ab.length k3,oS c r1.Aa.Ak.length a,oS d r1.Aa.Aj.length b,oS k r1.Af.length i],rfl,⟨_,_,rfl,(qiV (h.grpS 0 0 Z Z)).1⟩,⟨[oS f r1.Aa.Ab.length k3,oS c r1.Aa.Ak.length a,oS d r1.Aa.Aj.length b],[oS k r1.Af.length i],rfl,⟨[oS f r1.Aa.Ab.length k3],[oS c r1.Aa.Ak.length a,oS d r1.Aa.Aj.length b],rfl,⟨_,_,rfl,(qdt (h.grpS 0 1 Z Z)).1.1⟩,⟨[oS c r1.Aa.Ak.length a],[oS d r1.Aa.Aj.length b],rfl,⟨_,_,rfl,(qdt (h.grpS 0 1 Z Z)).2.1.1⟩,⟨_,_,rfl,(qdt (h.grpS 0 1 Z Z)).2.2.1⟩⟩⟩,(h.grpS 0 2 Z Z)⟩⟩);replace h:=h.grpKeep [0] 0 Z;obtain rfl:=qb hF;replace h:=h.p [0,1,4] Z;exact qaM qa [oV qe (qG r1 o f c d k l k3 a b i)] ⟨⟨_,_,_,rfl,rfl,hk5.box 9 Z,rfl⟩,G⟩ ⟨_,_,rfl,SH.unfr 1 1 h0 h Z Z⟩
 refine X0 5 Z (qk Z hF ?_ ?_)<;>intro hF
 ·replace h:=h.p [2,0,1,3,4] Z;obtain⟨_,_,_,h⟩:=qh3 h;obtain⟨X,hy7,hF⟩:=qc hF;have B:=qbB hy7;obtain⟨_,_,_,h⟩:=h.take hy7;obtain⟨_,_,_,_,_,_,_,_,rfl,-,-,-,-⟩:=qbR (h.own 0 Z);obtain⟨_,_,_,_,h⟩:=qjH h;refine rA [] [4,8] h Z fun _ h=>M1 7 [0,1,2] 1 (h.p [4,8] Z) Z ?_;obtain⟨_,hp15,-,-,hl15⟩:=h.holeAt 4 Z;obtain⟨q14,hq14⟩:∃q,q=0+(C).toNat*GoT.k qan:=⟨_,rfl⟩;refine Ax 3 15 hp15 hq14 ⟨B.1,qD B.2.1 hl15⟩ (h.p [4,8] Z) Z (M0 31 [4] (h.p [4,8] Z) Z (Aw 5 63 (fun w' hw=>qcg qa (qin hw 0 Z hp15 hq14) (j:=0) Z Z Z) (h.p [4,8] Z) Z ?_));refine M1 511 [6,7,8] 1 (h.p [4,8] Z) Z ?_;obtain⟨_,hp16,-,-,hl17⟩:=h.holeAt 4 Z;obtain⟨q15,hq15⟩:∃q,q=0+(C).toNat*GoT.k qan:=⟨_,rfl⟩;refine Ax 9 1023 hp16 hq15 ⟨B.1,qD B.2.1 hl17⟩ (h.p [4,8] Z) Z (M0 2047 [10] (h.p [4,8] Z) Z (Aw 11 4095 (fun w' hw=>qcg qa (qin hw 0 Z hp16 hq15) (j:=0) Z Z Z) (h.p [4,8] Z) Z ?_));refine M0 32767 [12,13,14] (h.p [4,8] Z) Z (Ao 15 65535 Z ?_);replace h:=h.p [7,0,1,2,3,4,5,6,8,9,10] Z;obtain⟨⟨i15,_,_⟩,hr16,hF⟩:=qc hF;refine nxC h ((qd (h.frG 10 0 1 Z Z Z)).1) hr16 Z Z Z fun _ h=>G0 131071 [16] (h.p [5,8] Z) Z ?_;obtain⟨_,hy8,hF,he12,_,_,_,_,hp17,hq16,rfl,hc14⟩:=(h.sl 4 Z).1.ix hF;refine Ax 17 262143 hp17 hq16 ⟨he12.1,qD he12.2.1 (h.sl 4 Z).2⟩ (h.p [5,8] Z) Z (Ao 18 524287 Z (qaV qa 4 0 (W64 (i15-1)) h Z hy8 hp17 hq16 Z hc14 Z Z Z Z Z Z Z fun _ h=>Ag (h.p [5,8] Z) (Ad (X1 4 8 h Z (zs 9 h Z fun _ h=>qbb ?_)))));have hk6:=h;obtain⟨_,h⟩:=h.gather [0,5,6,7,8,9,10] (qlv (⟨(setS X.Am (W64 ((X.Am.length:Int)-1)) (W64 (i15-1))),X.Bu,X.Bq,X.Bk⟩:qan) h (qL 4 h Z) (qL 3 h Z) (qL 2 h Z) (qL 1 h Z) (by rfl) (by rfl) (by rfl)) Z;replace h:=h.p [0,2,1,3,4,5,6,7] Z;replace h:=h.put;obtain⟨_,h⟩:=qoN (S:=_) h;replace h:=h.frzI 3 Z;replace h:=h.frzI 2 Z;replace h:=h.frzI 0 Z;replace h:=h.p [3,2,0,1,4,5,6] Z;replace h:=SH.merge h;replace h:=SH.merge h;replace h:=h.grpAdd 0 Z (x:=((⟨r1.Aq,r1.Aa,(setS r1.Af C (⟨(setS X.Am (W64 ((X.Am.length:Int)-1)) (W64 (i15-1))),X.Bu,X.Bq,X.Bk⟩:qan))⟩:qe):qe)) (⟨[oS o r1.Aq.As.length l],[oS f r1.Aa.Ab.length k3,oS c r1.Aa.Ak.length a,oS d r1.Aa.Aj.length b,oS k r1.Af.length i],rfl,⟨_,_,rfl,(qiV (h.grpS 0 0 Z Z)).1⟩,⟨[oS f r1.Aa.Ab.length k3,oS c r1.Aa.Ak.length a,oS d r1.Aa.Aj.length b],[oS k r1.Af.length i],rfl,⟨[oS f r1.Aa.Ab.length k3],[oS c r1.Aa.Ak.length a,oS d r1.Aa.Aj.length b],rfl,⟨_,_,rfl,(qdt (h.grpS 0 1 Z Z)).1.1⟩,⟨[oS c r1.Aa.Ak.length a],[oS d r1.Aa.Aj.length b],rfl,⟨_,_,rfl,(qdt (h.grpS 0 1 Z Z)).2.1.1⟩,⟨_,_,rfl,(qdt (h.grpS 0 1 Z Z)).2.2.1⟩⟩⟩,(h.grpS 0 2 Z Z)⟩⟩);replace h:=h.grpKeep [0] 0 Z;obtain rfl:=qb hF;replace h:=h.p [0,1,4] Z;exact qaM qa [oV qe (qG r1 o f c d k l k3 a b i)] ⟨⟨_,_,_,rfl,rfl,hk6.box 9 Z,rfl⟩,G⟩ ⟨_,_,rfl,SH.unfr 1 1 h0 h Z Z⟩
 refine X0 5 Z (qk Z hF ?_ ?_)<;>intro hF
 ·refine X1 4 1 h Z ?_;replace h:=h.p [2,0,1,3,4] Z;obtain⟨_,_,_,h⟩:=qh3 h;replace h:=h.p [1,0,2,3,4,5,6] Z;obtain⟨_,_,_,h⟩:=qqQ h;obtain⟨y9,hy9,hF,he13,_,_,_,_,hp18,hq17,hr18,hc16⟩:=(h.sl 0 Z).1.ix hF;obtain rfl:=qe4 hr18;refine zx hp18 hq17 ⟨he13.1,qD he13.2.1 (h.sl 0 Z).2⟩ Z (zp1 Z (qaV qa 0 1 ({ y9 with Bv:=3 }:qaD) h Z hy9 hp18 hq17 (qji y9) hc16 Z Z Z (qji ({ y9 with Bv:=3 })) Z Z Z fun _ h=>X1 5 6 h Z (zs 7 h Z fun _ h=>qbb ?_)));have hk7:=h;replace h:=h.frzI 4 Z;replace h:=h.frzI 2 Z;replace h:=h.frzI 1 Z;replace h:=h.frzI 0 Z;replace h:=h.frzI 3 Z;replace h:=h.p [4,2,0,1,3,5,6,7,8] Z;replace h:=SH.merge h;replace h:=h.p [0,2,1,3,4,5,6,7] Z;replace h:=SH.merge h;replace h:=SH.merge h;replace h:=SH.merge h;replace h:=h.grpAdd 0 Z (x:=((⟨r1.Aq,(⟨r1.Aa.Ab,r1.Aa.Ak,(setS r1.Aa.Aj 0 ({ y9 with Bv:=3 }))⟩:qh),r1.Af⟩:qe):qe)) (⟨[oS o r1.Aq.As.length l],[oS f r1.Aa.Ab.length k3,oS c r1.Aa.Ak.length a,oS d r1.Aa.Aj.length b,oS k r1.Af.length i],rfl,⟨_,_,rfl,(qiV (h.grpS 0 0 Z Z)).1⟩,⟨[oS f r1.Aa.Ab.length k3,oS c r1.Aa.Ak.length a,oS d r1.Aa.Aj.length b],[oS k r1.Af.length i],rfl,⟨[oS f r1.Aa.Ab.length k3],[oS c r1.Aa.Ak.length a,oS d r1.Aa.Aj.length b],rfl,(h.grpS 0 1 Z Z),⟨[oS c r1.Aa.Ak.length a],[oS d r1.Aa.Aj.length b],rfl,(h.grpS 0 2 Z Z),(h.grpS 0 3 Z Z)⟩⟩,(h.grpS 0 4 Z Z)⟩⟩);replace h:=h.grpKeep [0] 0 Z;obtain rfl:=qb hF;replace h:=h.p [0,1,4] Z;exact qaM qa [oV qe (qG r1 o f c d k l k3 a b i)] ⟨⟨_,_,_,rfl,rfl,hk7.box 7 Z,rfl⟩,G⟩ ⟨_,_,rfl,SH.unfr 1 1 h0 h Z Z⟩
 refine X1 5 1 h Z (zs 3 h Z fun _ h=>qbb ?_);have hk8:=h;replace h:=h.frzI 2 Z;replace h:=h.grpAdd 2 Z (x:=(r1:qe)) (h.grpS 2 0 Z Z);replace h:=h.grpKeep [0] 2 Z;obtain rfl:=qb hF;replace h:=h.p [2,0,4] Z;exact qaM qa [oV qe (qG r1 o f c d k l k3 a b i)] ⟨⟨_,_,_,rfl,rfl,hk8.box 3 Z,rfl⟩,G⟩ ⟨_,_,rfl,SH.unfr 1 1 h0 h Z Z⟩
def qgV(n:Nat)(s:Tl01Source):Option (qe×Int×Int):=(ql n (⟨s.code,s.at_,s.seed⟩:Tl01Source) 12).bind fun(c,a,b)=>bif (c==0) then(qie n (⟨s.code,a,b⟩:Tl01Source)).bind fun(r1,i,k)=>V (r1,i,k) else bif (c==1) then bif (c==1) then(qeD n (⟨s.code,a,b⟩:Tl01Source) 6 true).bind fun(r,l,m)=>V (r,l,m) else(qeD n (⟨s.code,a,b⟩:Tl01Source) 6 false).bind fun(t,i8,p)=>V (t,i8,p) else bif (c==2) then(qeD n (⟨s.code,a,b⟩:Tl01Source) 6 true).bind fun(u,d,f)=>V (u,d,f) else(qeD n (⟨s.code,a,b⟩:Tl01Source) 6 false).bind fun(v,g,h)=>V (v,g,h)
theorem qmC{n g w F}{s:Tl01Source}{b p1 a}(i:SH g w (xb b s p1 a s.at_ s.seed::F))(ha1:GoT.R w (Fr g F) s (qR s p1 a)){r:(qe×Int×Int)}(hF:qgV n s=V r):RetW prog 49 [vp b] w (fun us w'=>∃S1 cs1,us=[oV qe cs1]/\SH g w' (oG (fun _=>False) S1 [fct (r.1:qe) cs1]::xb b s p1 a r.2.1 r.2.2::F)):=by
 have h:=SH.frm1 i ha1;refine qbf func49 Z (m:=16) Z Z (zSR (qj qa h Z Z Z fun _ f h=>X0 5 Z ?_));replace h:=h.p [1,0,2] Z;obtain⟨⟨_,c,d⟩,hr1,hF⟩:=qc hF;refine nxC h ((qd (h.frG 2 0 1 Z Z Z)).1) hr1 Z Z Z fun _ h=>X0 7 Z (qk Z hF ?_ ?_)<;>intro hF
 ·refine X0 3 Z ?_;obtain⟨⟨r1,i4,i5⟩,hr2,hF⟩:=qc hF;refine qaQ (cB 118 Z) (qnx (a_0:=(⟨s.code,c,d⟩:Tl01Source)) h ⟨[oS p1 s.code.length a],[vi c,vi d],rfl,⟨_,_,rfl,(qd (h.frG 2 0 1 Z Z Z)).1⟩,⟨[vi c],[vi d],rfl,rfl,rfl⟩⟩ hr2) Z Z Z Z ?_;rintro _ _ ⟨S2,_,rfl,h⟩;have hr3:=h.grpS 0 0 Z Z;obtain⟨p2,k2,p3,k3,p4,k4,p5,k5,p6,k6,rfl,_,_,_,_,_⟩:=qO hr3;replace h:SH _ _ [oG (fun _=>False) S2 [fct (r1:qe) (qG r1 p2 p3 p4 p5 p6 k2 k3 k4 k5 k6)],xb b s p1 a i4 i5,oX f [oS U 0 0,oS U 0 0,oS U 0 0,oS U 0 0,oS U 0 0] 34,xf g w F s p1 a]:=h;refine zs 2 h Z fun _ h=>qbb ?_;have hk1:=h;replace h:=h.grpAdd 0 Z (x:=(r1:qe)) (h.grpS 0 0 Z Z);replace h:=h.grpKeep [0] 0 Z;obtain rfl:=qb hF;replace h:=h.p [0,1,3] Z;exact qaM qa [oV qe (qG r1 p2 p3 p4 p5 p6 k2 k3 k4 k5 k6)] ⟨⟨_,_,_,rfl,rfl,hk1.box 2 Z,rfl⟩,G⟩ ⟨_,_,rfl,SH.unfr 1 1 i h Z Z⟩
 refine X0 6 Z (qk Z hF ?_ ?_)<;>intro hF
 ·refine qfg (qk Z hF ?_ ?_)<;>intro hF
  ·refine X0 3 Z ?_;obtain⟨⟨r2,i6,i7⟩,hr5,hF⟩:=qc hF;refine qaQ (cB 119 Z) (qeQ (s:=(⟨s.code,c,d⟩:Tl01Source)) (most:=6) (wild:=true) h ⟨[oS p1 s.code.length a],[vi c,vi d],rfl,⟨_,_,rfl,(qd (h.frG 2 0 1 Z Z Z)).1⟩,⟨[vi c],[vi d],rfl,rfl,rfl⟩⟩ hr5) Z Z Z Z ?_;rintro _ _ ⟨S3,_,rfl,h⟩;obtain⟨p7,k7,p8,k8,p9,k9,L,k,M,l,rfl,-,-,-,-,-⟩:=qO (h.own 0 Z);replace h:SH _ _ [oW S3 (r2:qe) (qG r2 p7 p8 p9 L M k7 k8 k9 k l),xb b s p1 a i6 i7,oX f [oS U 0 0,oS U 0 0,oS U 0 0,oS U 0 0,oS U 0 0] 34,xf g w F s p1 a]:=h;refine zs 2 h Z fun _ h=>qbb ?_;have hk2:=h;replace h:=h.frzI 0 Z;replace h:=h.grpAdd 0 Z (x:=(r2:qe)) (h.grpS 0 0 Z Z);replace h:=h.grpKeep [0] 0 Z;obtain rfl:=qb hF;replace h:=h.p [0,1,3] Z;exact qaM qa [oV qe (qG r2 p7 p8 p9 L M k7 k8 k9 k l)] ⟨⟨_,_,_,rfl,rfl,hk2.box 2 Z,rfl⟩,G⟩ ⟨_,_,rfl,SH.unfr 1 1 i h Z Z⟩
  refine X0 5 Z ?_;obtain⟨⟨r3,i8,i9⟩,hr6,hF⟩:=qc hF;refine qaQ (cB 119 Z) (qeQ (s:=(⟨s.code,c,d⟩:Tl01Source)) (most:=6) (wild:=false) h ⟨[oS p1 s.code.length a],[vi c,vi d],rfl,⟨_,_,rfl,(qd (h.frG 2 0 1 Z Z Z)).1⟩,⟨[vi c],[vi d],rfl,rfl,rfl⟩⟩ hr6) Z Z Z Z ?_;rintro _ _ ⟨S4,_,rfl,h⟩;obtain⟨N,o,O,p,P,t,Q,u,R,v,rfl,-,-,-,-,-⟩:=qO (h.own 0 Z);replace h:SH _ _ [oW S4 (r3:qe) (qG r3 N O P Q R o p t u v),xb b s p1 a i8 i9,oX f [oS U 0 0,oS U 0 0,oS U 0 0,oS U 0 0,oS U 0 0] 34,xf g w F s p1 a]:=h;refine zs 2 h Z fun _ h=>qbb ?_;have hk3:=h;replace h:=h.frzI 0 Z;replace h:=h.grpAdd 0 Z (x:=(r3:qe)) (h.grpS 0 0 Z Z);replace h:=h.grpKeep [0] 0 Z;obtain rfl:=qb hF;replace h:=h.p [0,1,3] Z;exact qaM qa [oV qe (qG r3 N O P Q R o p t u v)] ⟨⟨_,_,_,rfl,rfl,hk3.box 2 Z,rfl⟩,G⟩ ⟨_,_,rfl,SH.unfr 1 1 i h Z Z⟩
 refine X0 4 Z (qk Z hF ?_ ?_)<;>intro hF
 ·refine X0 3 Z ?_;obtain⟨⟨r4,i10,i11⟩,hr7,hF⟩:=qc hF;refine qaQ (cB 119 Z) (qeQ (s:=(⟨s.code,c,d⟩:Tl01Source)) (most:=6) (wild:=true) h ⟨[oS p1 s.code.length a],[vi c,vi d],rfl,⟨_,_,rfl,(qd (h.frG 2 0 1 Z Z Z)).1⟩,⟨[vi c],[vi d],rfl,rfl,rfl⟩⟩ hr7) Z Z Z Z ?_;rintro _ _ ⟨S5,_,rfl,h⟩;obtain⟨S,y,T,z,W,A,X,B,Y,C,rfl,-,-,-,-,-⟩:=qO (h.own 0 Z);replace h:SH _ _ [oW S5 (r4:qe) (qG r4 S T W X Y y z A B C),xb b s p1 a i10 i11,oX f [oS U 0 0,oS U 0 0,oS U 0 0,oS U 0 0,oS U 0 0] 34,xf g w F s p1 a]:=h;refine zs 2 h Z fun _ h=>qbb ?_;have hk4:=h;replace h:=h.frzI 0 Z;replace h:=h.grpAdd 0 Z (x:=(r4:qe)) (h.grpS 0 0 Z Z);replace h:=h.grpKeep [0] 0 Z;obtain rfl:=qb hF;replace h:=h.p [0,1,3] Z;exact qaM qa [oV qe (qG r4 S T W X Y y z A B C)] ⟨⟨_,_,_,rfl,rfl,hk4.box 2 Z,rfl⟩,G⟩ ⟨_,_,rfl,SH.unfr 1 1 i h Z Z⟩
 refine X0 5 Z ?_;obtain⟨⟨r5,i12,i13⟩,hr8,hF⟩:=qc hF;refine qaQ (cB 119 Z) (qeQ (s:=(⟨s.code,c,d⟩:Tl01Source)) (most:=6) (wild:=false) h ⟨[oS p1 s.code.length a],[vi c,vi d],rfl,⟨_,_,rfl,(qd (h.frG 2 0 1 Z Z Z)).1⟩,⟨[vi c],[vi d],rfl,rfl,rfl⟩⟩ hr8) Z Z Z Z ?_;rintro _ _ ⟨S6,_,rfl,h⟩;obtain⟨e,D,a3,H,a4,I,a5,J,a6,K,rfl,-,-,-,-,-⟩:=qO (h.own 0 Z);replace h:SH _ _ [oW S6 (r5:qe) (qG r5 e a3 a4 a5 a6 D H I J K),xb b s p1 a i12 i13,oX f [oS U 0 0,oS U 0 0,oS U 0 0,oS U 0 0,oS U 0 0] 34,xf g w F s p1 a]:=h;refine zs 2 h Z fun _ h=>qbb ?_;have hk5:=h;replace h:=h.frzI 0 Z;replace h:=h.grpAdd 0 Z (x:=(r5:qe)) (h.grpS 0 0 Z Z);replace h:=h.grpKeep [0] 0 Z;obtain rfl:=qb hF;replace h:=h.p [0,1,3] Z;exact qaM qa [oV qe (qG r5 e a3 a4 a5 a6 D H I J K)] ⟨⟨_,_,_,rfl,rfl,hk5.box 2 Z,rfl⟩,G⟩ ⟨_,_,rfl,SH.unfr 1 1 i h Z Z⟩
def qcw(s:Tl01Source)(r1:(List qt))(g:Int):Nat->(List Int)->Int->Int->Int->Option ((List Int)×Int×Int×Int)|0,_,_,_,_=>U|n+1,i,h,b,a=>bif decide (a<(r1.length:Int)) then(appS i ([a]:List Int)).bind fun k=>(ql n (⟨s.code,h,b⟩:Tl01Source) (W64 (1+g))).bind fun(c,d,f)=>qcw s r1 g n k d f (W64 (a+(W64 (1+c)))) else V (i,h,b,a)
def qgt(n:Nat)(s:Tl01Source)(b:qe):Option ((List Int)×Int×Int):=((qdW n b).bind fun A=>bif (!A) then V (s.at_,s.seed,true) else(ql n (⟨s.code,s.at_,s.seed⟩:Tl01Source) 3).bind fun(i,k,l)=>V (k,l,decide (i > 0))).bind fun(m,p,b1)=>bif b1 then V (([]:List Int),m,p) else(qdZ n b).bind fun r1=>(ql n (⟨s.code,m,p⟩:Tl01Source) 8).bind fun(r,u,v)=>(ql n (⟨s.code,u,v⟩:Tl01Source) (W64 (1+r))).bind fun(x,y,i8)=>(qcw s r1 r n ([]:List Int) y i8 x).bind fun(t,z,c,_)=>(ql n (⟨s.code,z,c⟩:Tl01Source) 12).bind fun(d,i16,a)=>bif (d==0) then(ql n (⟨s.code,i16,a⟩:Tl01Source) 2).bind fun(f,g,h)=>(appS t ([W64 ((r1.length:Int)*f)]:List Int)).bind fun B=>V (B,g,h) else V (t,i16,a)
theorem qmb{n c w F}{s:Tl01Source}{a p1 f}{b:qe}{cs1}(x:SH c w (xb a s p1 f s.at_ s.seed::F))(D:GoT.R w (Fr c F) s (qR s p1 f))(v:GoT.R w (Fr c F) b cs1){r:((List Int)×Int×Int)}(hF:qgt n s b=V r):RetW prog 52 [vp a,oV qe cs1] w (fun us w'=>∃S1 cs2,us=[oV (List Int) cs2]/\SH c w' (oW S1 (r.1:(List Int)) cs2::xb a s p1 f r.2.1 r.2.2::F)):=by
 have h:=SH.frm1 x D;have N:=v;obtain⟨p2,T,p3,k3,p4,W,p5,X,p6,Y,rfl,_,_,_,_,_⟩:=qO v;replace h:=h.grpAdd 1 Z N;replace h:SH _ _ [xb a s p1 f s.at_ s.seed,oG (old c) (FS F) [fct (b:qe) (qG b p2 p3 p4 p5 p6 T k3 W X Y),fct (s:Tl01Source) (qR s p1 f),same c w F]]:=h;refine qbf func52 Z (m:=52) Z Z (zSR (qC h Z Z fun _ o h=>X0 4 Z (qq qa [] _ ([]:List Int) h Z Z Z Z Z Z Z Z Z trivial Z fun _ p7 S2 h=>X0 4 Z ?_)));obtain⟨B,u,_,hF,p⟩:=bindE hF;refine qay (fun e w'=>∃O Q b1,B (O,Q,b1)=V r/\e=[(0,vp a),(3,vp o),(5,oS p7 0 0),(17,.bool b1)]/\SH c w' [oW S2 (([]:List Int):List Int) [oS p7 0 0],oX o (qG b p2 p3 p4 p5 p6 T k3 W X Y) 34,xb a s p1 f O Q,oG (old c) (FS F) [fct (b:qe) (qG b p2 p3 p4 p5 p6 T k3 W X Y),fct (s:Tl01Source) (qR s p1 f),same c w F]]) ?_ ?_
 ·refine X1 2 1 h Z (zcB h hF (qfo (h.grp 3 0 Z Z)) Z fun _ _ h hF=>zp2 Z (qg (t:=13) hF Z ?_ ?_))<;>intro hF
  ·refine X0 5 Z ?_;obtain rfl:=qb hF;exact rG ⟨_,_,_,p,rfl,h⟩ Z
  refine X0 3 Z ?_;replace h:=h.p [2,0,1,3] Z;obtain⟨⟨_,_,_⟩,M,hF⟩:=qc hF;refine nxC h ((qd (h.frG 3 1 1 Z Z Z)).1) M Z Z Z fun _ h=>X0 4 Z ?_;replace h:=h.p [1,2,0,3] Z;obtain rfl:=qb hF;exact rG ⟨_,_,_,p,rfl,h⟩ Z
 rintro _ _ ⟨O,Q,b1,hF,rfl,h⟩;subst u;refine qk Z hF ?_ ?_<;>intro hF
 ·refine X0 5 Z ?_;obtain rfl:=qb hF;replace h:=h.p [0,2,3] Z;exact qaM qa [oV (List Int) [oS p7 0 0]] ⟨rfl,G⟩ ⟨_,_,rfl,SH.unfr 1 2 x h Z Z⟩
 refine X1 4 1 h Z (zcL h hF (qdS (h.grp 3 0 Z Z)) Z fun r1 _ _ _ _ h hF=>X0 6 Z ?_);replace h:=h.p [3,0,1,2,4] Z;obtain⟨⟨i3,_,_⟩,H,hF⟩:=qc hF;refine nxC h ((qd (h.frG 4 1 1 Z Z Z)).1) H Z Z Z fun _ h=>X0 8 Z ?_;obtain⟨⟨_,_,_⟩,I,hF⟩:=qc hF;refine nxC h ((qd (h.frG 4 1 1 Z Z Z)).1) I Z Z Z fun _ h=>X0 2 Z ?_;replace h:=h.grpKeep [1,2] 4 Z;obtain⟨o3,hF,C⟩:=qc hF;refine qm ?_;replace h:=h.p [0,2,4] Z;refine rL (fun m e w'=>∃S4 z l y A R k d,qcw s r1 i3 m A R k d=V o3/\e=[(0,vp a),(5,oS z l y),(6,vi (r1.length:Int)),(7,vi (W64 (1+i3))),(8,vi d)]/\SH c w' [xb a s p1 f R k,oW S4 (A:List Int) [oS z l y],xf c w F s p1 f]) n ⟨_,_,_,_,_,_,_,_,hF,rfl,h⟩ Z ?_;rintro m1 _ _ ⟨S4,z,l,y,A,R,k,d,hF,rfl,h⟩;obtain rfl:=(h.sl 1 Z).2;rcases m1 with _|m1
 ·cases hF
 refine X0 7 Z (qk Z hF ?_ ?_)<;>intro hF
 ·refine X0 6 Z (qq qa [.tmp 38] _ ([d]:List Int) h Z Z Z Z Z Z Z Z Z ⟨rfl,G⟩ Z fun _ _ _ h=>?_);obtain⟨_,g,hF⟩:=qc hF;obtain⟨g1,g⟩:=qE g;refine qaB qa 2 h Z (h.sl 0 Z).1 (h.sl 0 Z).2 Z Z Z Z Z Z Z Z Z g1 g Z fun _ _ _ _ h=>X0 7 Z ?_;replace h:=h.p [1,0,2,3] Z;obtain⟨⟨_,_,_⟩,J,hF⟩:=qc hF;refine nxC h ((qd (h.frG 3 0 1 Z Z Z)).1) J Z Z Z fun _ h=>X0 4 Z ?_;replace h:=h.p [0,2,3] Z;exact rK ⟨_,_,_,_,_,_,_,_,hF,rfl,h⟩ Z
 refine qv Z ?_;obtain rfl:=qb hF;replace hF:=C;refine X0 4 Z ?_;obtain⟨⟨_,_,_⟩,K,hF⟩:=qc hF;refine nxC h ((qd (h.frG 2 0 1 Z Z Z)).1) K Z Z Z fun _ h=>X0 2 Z (qk Z hF ?_ ?_)<;>intro hF
 ·refine X0 4 Z ?_;obtain⟨⟨P,_,_⟩,L,hF⟩:=qc hF;refine nxC h ((qd (h.frG 2 0 1 Z Z Z)).1) L Z Z Z fun _ h=>zp1 Z (qq qa [.tmp 48] _ ([W64 ((r1.length:Int)*P)]:List Int) h Z Z Z Z Z Z Z Z Z ⟨rfl,G⟩ Z fun _ _ _ h=>?_);obtain⟨x3,i,hF⟩:=qc hF;obtain⟨g2,i⟩:=qE i;refine qaB qa 2 h Z (h.sl 0 Z).1 (h.sl 0 Z).2 Z Z Z Z Z Z Z Z Z g2 i Z fun _ a3 S _ h=>X0 7 Z ?_;obtain rfl:=qb hF;replace h:=h.p [2,1,3] Z;exact qaM qa [oV (List Int) [oS a3 x3.length S]] ⟨rfl,G⟩ ⟨_,_,rfl,SH.unfr 1 1 x h Z Z⟩
 refine X0 6 Z ?_;obtain rfl:=qb hF;replace h:=h.p [1,0,2] Z;exact qaM qa [oV (List Int) [oS z A.length y]] ⟨rfl,G⟩ ⟨_,_,rfl,SH.unfr 1 1 x h Z Z⟩
def qgH(n:Nat)(s:Tl01Source):Option (qu×Int×Int):=(ql n (⟨s.code,s.at_,s.seed⟩:Tl01Source) 3).bind fun(y,z,A)=>(idx ([(⟨#[115,108,111,119]⟩:ByteArray),(⟨#[102,97,115,116]⟩:ByteArray),(⟨#[116,121,112]⟩:ByteArray)]:List ByteArray) y).bind fun h=>(ql n (⟨s.code,z,A⟩:Tl01Source) 20).bind fun(c,B,C)=>(ql n (⟨s.code,B,C⟩:Tl01Source) 20).bind fun(g,i8,D)=>(ql n (⟨s.code,i8,D⟩:Tl01Source) 60).bind fun(d,i,k)=>(ql n (⟨s.code,i,k⟩:Tl01Source) 40).bind fun(f,l,m)=>(ql n (⟨s.code,l,m⟩:Tl01Source) 30).bind fun(i16,a,b)=>bif (i16==0) then V ((⟨h,W64 (800+(W64 (10*c))),W64 ((W64 (800+(W64 (10*c))))-1),W64 (900+(W64 (10*g))),W64 ((W64 (900+(W64 (10*g))))+(W64 (9*f)))⟩:qu),a,b) else bif (i16==1) then(ql n (⟨s.code,a,b⟩:Tl01Source) 3).bind fun(p,r,t)=>(idx ([99,100,(-1)]:List Int) p).bind fun F=>V ((⟨h,W64 (800+(W64 (10*c))),W64 ((W64 (800+(W64 (10*c))))+(W64 (7*d))),F,W64 ((W64 (900+(W64 (10*g))))+(W64 (9*f)))⟩:qu),r,t) else bif (i16==2) then(ql n (⟨s.code,a,b⟩:Tl01Source) 2).bind fun(u,v,x)=>V ((⟨h,W64 (800+(W64 (10*c))),W64 ((W64 (800+(W64 (10*c))))+(W64 (7*d))),W64 (900+(W64 (10*g))),W64 (5000+u)⟩:qu),v,x) else bif (i16==3) then V ((⟨(⟨#[]⟩:ByteArray),W64 (800+(W64 (10*c))),W64 ((W64 (800+(W64 (10*c))))+(W64 (7*d))),W64 (900+(W64 (10*g))),W64 ((W64 (900+(W64 (10*g))))+(W64 (9*f)))⟩:qu),a,b) else V ((⟨h,W64 (800+(W64 (10*c))),W64 ((W64 (800+(W64 (10*c))))+(W64 (7*d))),W64 (900+(W64 (10*g))),W64 ((W64 (900+(W64 (10*g))))+(W64 (9*f)))⟩:qu),a,b)
theorem qmf{n l w F}{s:Tl01Source}{b p1 p}(h0:SH l w (xb b s p1 p s.at_ s.seed::F))(ha1:GoT.R w (Fr l F) s (qR s p1 p)){r:(qu×Int×Int)}(hF:qgH n s=V r):RetW prog 53 [vp b] w (fun us w'=>us=[oV qu (qaN r.1)]/\SH l w' (xb b s p1 p r.2.1 r.2.2::F)):=by
 have h:=SH.frm1 h0 ha1;refine qbf func53 Z (m:=58) Z Z (zSR (qj qa h Z Z Z fun w1 c h=>zNS ?_));obtain⟨⟨i1,i2,i3⟩,S,hF⟩:=qc hF;obtain⟨R,a,hF⟩:=qc hF;obtain⟨⟨v,i5,i6⟩,o,hF⟩:=qc hF;obtain⟨⟨B,i8,i9⟩,k,hF⟩:=qc hF;refine qay (fun e w'=>∃C,e=[(0,vp b),(2,vp c),(3,vp C)]/\SH l w' [oX C [.string R,vi (W64 (800+(W64 (10*v)))),vi 0,vi (W64 (900+(W64 (10*B)))),vi 0] 36,xb b s p1 p i8 i9,oX c [.string ByteArray.empty,vi 0,vi 0,vi 0,vi 0] 36,xf l w F s p1 p]) ?_ ?_
 ·refine qw0 [15] (fun w'=>SH l w' []) Z 16 Z (bits 16 0) (by kernel_rfl) fun _ hb=>?_;replace h:=h.ext hb;clear hb;refine qot (fun e w'=>∃D,e=[(0,vp b),(2,vp c),(3,vp D),(17,.agg #[.string R,vi (W64 (800+(W64 (10*v)))),vi 0,vi (W64 (900+(W64 (10*B)))),vi 0])]/\SH l w' [oX D [.string ByteArray.empty,vi 0,vi 0,vi 0,vi 0] 36,xb b s p1 p i8 i9,oX c [.string ByteArray.empty,vi 0,vi 0,vi 0,vi 0] 36,xf l w F s p1 p]) 1 (bits 16 32767) ?_ fun KM1=>?_
  ·rintro _ _ ⟨D,rfl,h⟩;exact Ao 15 65535 Z (zs 0 h Z fun _ h=>qbg (fun hs=>absurd (hs 15 (by decide)) (by decide)) (Ad (rG ⟨_,rfl,h⟩ Z)))
  refine qot (fun e w'=>e=[(0,vp b),(2,vp c),(17,.agg #[.string R,vi (W64 (800+(W64 (10*v)))),vi 0,vi (W64 (900+(W64 (10*B)))),vi 0])]/\SH l w' [xb b s p1 p i8 i9,oX c [.string ByteArray.empty,vi 0,vi 0,vi 0,vi 0] 36,xf l w F s p1 p]) 2 (bits 16 16383) ?_ fun KM2=>?_
  ·rintro _ _ ⟨rfl,h⟩;exact Ao 14 32767 Z (qj qa h Z Z Z fun _ _ h=>Ag (h.p [] Z) (qnM [(0,_),(2,_),(3,_),(17,_)] ⟨rfl,rfl,rfl,rfl,G⟩ (KM1 _ _ ⟨_,rfl,h⟩)))
  refine qot (fun e w'=>∃H,e=[(0,vp b),(2,vp c),(3,vp H),(8,.string R),(12,vi (W64 (800+(W64 (10*v))))),(13,vp b)]/\SH l w' [oX H [.string ByteArray.empty,vi 0,vi 0,vi 0,vi 0] 36,xb b s p1 p i5 i6,oX c [.string ByteArray.empty,vi 0,vi 0,vi 0,vi 0] 36,xf l w F s p1 p]) 5 (bits 16 17407) ?_ fun KM3=>?_
  ·rintro _ _ ⟨H,rfl,h⟩;refine Ao 10 18431 Z ?_;replace h:=h.p [1,0,2,3] Z;refine nxC h ((qd (h.frG 3 0 1 Z Z Z)).1) k Z Z Z fun _ h=>G0 24575 [11,12] (h.p [] Z) Z (Aw 13 32767 (fun w' hw=>qA qa [0,1,3] [.tmp 8,.tmp 12,.tmp 16] Z Z Z Z Z Z Z Z) (h.p [] Z) Z ?_);replace h:=h.p [1,0,2,3] Z;exact aK KM1 ⟨_,rfl,h⟩ Z
  refine qot (fun e w'=>∃I,e=[(0,vp b),(2,vp c),(3,vp I),(6,vi i1),(12,vi (W64 (800+(W64 (10*v))))),(16,vi (W64 (900+(W64 (10*B)))))]/\SH l w' [oX I [.string ByteArray.empty,vi 0,vi 0,vi 0,vi 0] 36,xb b s p1 p i8 i9,oX c [.string ByteArray.empty,vi 0,vi 0,vi 0,vi 0] 36,xf l w F s p1 p]) 5 (bits 16 24550) ?_ fun KM4=>?_
  ·rintro _ _ ⟨I,rfl,h⟩;refine Ao 0 24551 Z (qq qa [.const (.string (⟨#[115,108,111,119]⟩:ByteArray)),.const (.string (⟨#[102,97,115,116]⟩:ByteArray)),.const (.string (⟨#[116,121,112]⟩:ByteArray))] _ ([(⟨#[115,108,111,119]⟩:ByteArray),(⟨#[102,97,115,116]⟩:ByteArray),(⟨#[116,121,112]⟩:ByteArray)]:List ByteArray) h Z Z Z Z Z Z Z Z Z ⟨rfl,rfl,rfl,G⟩ Z fun _ _ _ h=>Ag (h.p [] Z) ?_);have X:=qbB a;obtain⟨_,o_17,_,_,b4,b5,-,hr20,_⟩:=(h.sl 0 Z).1.at a;obtain rfl:=hr20;refine Ax 3 24559 b4 b5 ⟨X.1,qD X.2.1 (h.sl 0 Z).2⟩ (h.p [] Z) Z (Ao 4 24575 Z (r_v (qcg qa (qK (w1:=w) (S1:=fun _=>False) h 0 Z a b4 b5 Z) (j:=0) Z Z Z) Z (Ag (h.p [] Z) (Aw 13 32767 (fun w' hw=>qA qa [0,1,3] [.tmp 8,.tmp 12,.tmp 16] Z Z Z Z Z Z Z Z) (h.p [] Z) Z ?_))));replace h:=h.p [1,2,3,4] Z;exact aK KM1 ⟨_,rfl,h⟩ Z
  refine qot (fun e w'=>e=[(0,vp b),(2,vp c),(8,.string R),(12,vi (W64 (800+(W64 (10*v))))),(13,vp b)]/\SH l w' [xb b s p1 p i5 i6,oX c [.string ByteArray.empty,vi 0,vi 0,vi 0,vi 0] 36,xf l w F s p1 p]) 6 (bits 16 1023) ?_ fun KM5=>?_
  ·rintro _ _ ⟨rfl,h⟩;refine At 10 14 2047 17407 Z ?_ ?_
   ·refine nxC h ((qd (h.frG 2 0 1 Z Z Z)).1) k Z Z Z fun _ h=>G0 8191 [11,12] (h.p [] Z) Z (Aw 13 16383 (fun w' hw=>qA qa [0,1,3] [.tmp 8,.tmp 12,.tmp 16] Z Z Z Z Z Z Z Z) (h.p [] Z) Z ?_);exact aK KM2 ⟨rfl,h⟩ Z
   exact qj qa h Z Z Z fun _ _ h=>Ag (h.p [] Z) (qnM [(0,_),(2,_),(3,_),(8,_),(12,_),(13,_)] ⟨rfl,rfl,rfl,rfl,rfl,rfl,G⟩ (KM3 _ _ ⟨_,rfl,h⟩))
  refine qot (fun e w'=>∃J,e=[(0,vp b),(2,vp c),(3,vp J),(8,.string R),(9,vp b),(13,vp b)]/\SH l w' [oX J [.string ByteArray.empty,vi 0,vi 0,vi 0,vi 0] 36,xb b s p1 p i2 i3,oX c [.string ByteArray.empty,vi 0,vi 0,vi 0,vi 0] 36,xf l w F s p1 p]) 8 (bits 16 16959) ?_ fun KM6=>?_
  ·rintro _ _ ⟨J,rfl,h⟩;refine Ao 6 17023 Z ?_;replace h:=h.p [1,0,2,3] Z;refine nxC h ((qd (h.frG 3 0 1 Z Z Z)).1) o Z Z Z fun _ h=>G0 17407 [7,8] (h.p [] Z) Z ?_;replace h:=h.p [1,0,2,3] Z;exact aK KM3 ⟨_,rfl,h⟩ Z
  refine qot (fun e w'=>∃K,e=[(0,vp b),(2,vp c),(3,vp K),(6,vi i1),(12,vi (W64 (800+(W64 (10*v))))),(13,vp b)]/\SH l w' [oX K [.string ByteArray.empty,vi 0,vi 0,vi 0,vi 0] 36,xb b s p1 p i5 i6,oX c [.string ByteArray.empty,vi 0,vi 0,vi 0,vi 0] 36,xf l w F s p1 p]) 8 (bits 16 17382) ?_ fun KM7=>?_
  ·rintro _ _ ⟨K,rfl,h⟩;refine At 0 10 17383 18406 Z ?_ ?_
   ·refine qq qa [.const (.string (⟨#[115,108,111,119]⟩:ByteArray)),.const (.string (⟨#[102,97,115,116]⟩:ByteArray)),.const (.string (⟨#[116,121,112]⟩:ByteArray))] _ ([(⟨#[115,108,111,119]⟩:ByteArray),(⟨#[102,97,115,116]⟩:ByteArray),(⟨#[116,121,112]⟩:ByteArray)]:List ByteArray) h Z Z Z Z Z Z Z Z Z ⟨rfl,rfl,rfl,G⟩ Z fun _ _ _ h=>Ag (h.p [] Z) ?_;have Y:=qbB a;obtain⟨_,o_18,_,_,N,P,-,hr21,_⟩:=(h.sl 0 Z).1.at a;obtain rfl:=hr21;refine Ax 3 17391 N P ⟨Y.1,qD Y.2.1 (h.sl 0 Z).2⟩ (h.p [] Z) Z (At 4 10 17407 18415 Z ?_ ?_)
    ·refine r_v (qcg qa (qK (w1:=w) (S1:=fun _=>False) h 0 Z a N P Z) (j:=0) Z Z Z) Z (Ag (h.p [] Z) ?_);replace h:=h.p [1,2,3,4] Z;exact aK KM3 ⟨_,rfl,h⟩ Z
    replace h:=h.p [2,0,1,3,4] Z;refine nxC h ((qd (h.frG 4 0 1 Z Z Z)).1) k Z Z Z fun _ h=>G0 24559 [11,12] (h.p [] Z) Z (Ao 4 24575 Z (r_v (qcg qa (qK (w1:=w) (S1:=fun _=>False) h 1 Z a N P Z) (j:=0) Z Z Z) Z (Ag (h.p [] Z) (Aw 13 32767 (fun w' hw=>qA qa [0,1,3] [.tmp 8,.tmp 12,.tmp 16] Z Z Z Z Z Z Z Z) (h.p [] Z) Z ?_))));replace h:=h.p [2,0,3,4] Z;exact aK KM1 ⟨_,rfl,h⟩ Z
   replace h:=h.p [1,0,2,3] Z;refine nxC h ((qd (h.frG 3 0 1 Z Z Z)).1) k Z Z Z fun _ h=>G0 24550 [11,12] (h.p [] Z) Z ?_;replace h:=h.p [1,0,2,3] Z;exact aK KM4 ⟨_,rfl,h⟩ Z
  refine qot (fun e w'=>∃L S18 b6,e=[(0,vp b),(2,vp c),(3,vp L),(4,oS b6 3 3),(5,vp b),(9,vp b),(13,vp b)]/\SH l w' [oX L [.string ByteArray.empty,vi 0,vi 0,vi 0,vi 0] 36,oW S18 (([(⟨#[115,108,111,119]⟩:ByteArray),(⟨#[102,97,115,116]⟩:ByteArray),(⟨#[116,121,112]⟩:ByteArray)]:List ByteArray):List ByteArray) [oS b6 3 3],oX c [.string ByteArray.empty,vi 0,vi 0,vi 0,vi 0] 36,xb b s p1 p s.at_ s.seed,xf l w F s p1 p]) 11 (bits 16 16931) ?_ fun KM8=>?_
  ·rintro _ _ ⟨L,S18,b6,rfl,h⟩;refine Ao 2 16935 Z ?_;replace h:=h.p [3,0,1,2,4] Z;refine nxC h ((qd (h.frG 4 0 1 Z Z Z)).1) S Z Z Z fun _ h=>Ag (h.p [] Z) ?_;have a3:=qbB a;obtain⟨_,o_19,_,_,x,z,-,hr22,_⟩:=(h.sl 2 Z).1.at a;obtain rfl:=hr22;refine Ax 3 16943 x z ⟨a3.1,qD a3.2.1 (h.sl 2 Z).2⟩ (h.p [] Z) Z (At 4 6 16959 17007 Z ?_ ?_)
   ·refine r_v (qcg qa (qK (w1:=w) (S1:=fun _=>False) h 2 Z a x z Z) (j:=0) Z Z Z) Z (Ag (h.p [] Z) ?_);replace h:=h.p [1,0,3,4] Z;exact aK KM6 ⟨_,rfl,h⟩ Z
   refine nxC h ((qd (h.frG 4 0 1 Z Z Z)).1) o Z Z Z fun _ h=>G0 17391 [7,8] (h.p [] Z) Z (At 4 10 17407 18415 Z ?_ ?_)
   ·refine r_v (qcg qa (qK (w1:=w) (S1:=fun _=>False) h 2 Z a x z Z) (j:=0) Z Z Z) Z (Ag (h.p [] Z) ?_);replace h:=h.p [1,0,3,4] Z;exact aK KM3 ⟨_,rfl,h⟩ Z
   refine nxC h ((qd (h.frG 4 0 1 Z Z Z)).1) k Z Z Z fun _ h=>G0 24559 [11,12] (h.p [] Z) Z (Ao 4 24575 Z (r_v (qcg qa (qK (w1:=w) (S1:=fun _=>False) h 2 Z a x z Z) (j:=0) Z Z Z) Z (Ag (h.p [] Z) (Aw 13 32767 (fun w' hw=>qA qa [0,1,3] [.tmp 8,.tmp 12,.tmp 16] Z Z Z Z Z Z Z Z) (h.p [] Z) Z ?_))));replace h:=h.p [1,0,3,4] Z;exact aK KM1 ⟨_,rfl,h⟩ Z
  refine qot (fun e w'=>∃M,e=[(0,vp b),(2,vp c),(3,vp M),(6,vi i1),(9,vp b),(13,vp b)]/\SH l w' [oX M [.string ByteArray.empty,vi 0,vi 0,vi 0,vi 0] 36,xb b s p1 p i2 i3,oX c [.string ByteArray.empty,vi 0,vi 0,vi 0,vi 0] 36,xf l w F s p1 p]) 11 (bits 16 16934) ?_ fun KM9=>?_
  ·rintro _ _ ⟨M,rfl,h⟩;refine At 0 6 16935 16998 Z ?_ ?_
   ·refine qq qa [.const (.string (⟨#[115,108,111,119]⟩:ByteArray)),.const (.string (⟨#[102,97,115,116]⟩:ByteArray)),.const (.string (⟨#[116,121,112]⟩:ByteArray))] _ ([(⟨#[115,108,111,119]⟩:ByteArray),(⟨#[102,97,115,116]⟩:ByteArray),(⟨#[116,121,112]⟩:ByteArray)]:List ByteArray) h Z Z Z Z Z Z Z Z Z ⟨rfl,rfl,rfl,G⟩ Z fun _ _ _ h=>Ag (h.p [] Z) ?_;have a4:=qbB a;obtain⟨_,o_20,_,_,y,A,-,hr23,_⟩:=(h.sl 0 Z).1.at a;obtain rfl:=hr23;refine Ax 3 16943 y A ⟨a4.1,qD a4.2.1 (h.sl 0 Z).2⟩ (h.p [] Z) Z (At 4 6 16959 17007 Z ?_ ?_)
    ·refine r_v (qcg qa (qK (w1:=w) (S1:=fun _=>False) h 0 Z a y A Z) (j:=0) Z Z Z) Z (Ag (h.p [] Z) ?_);replace h:=h.p [1,2,3,4] Z;exact aK KM6 ⟨_,rfl,h⟩ Z
    replace h:=h.p [2,0,1,3,4] Z;refine nxC h ((qd (h.frG 4 0 1 Z Z Z)).1) o Z Z Z fun _ h=>G0 17391 [7,8] (h.p [] Z) Z (At 4 10 17407 18415 Z ?_ ?_)
    ·refine r_v (qcg qa (qK (w1:=w) (S1:=fun _=>False) h 1 Z a y A Z) (j:=0) Z Z Z) Z (Ag (h.p [] Z) ?_);replace h:=h.p [2,0,3,4] Z;exact aK KM3 ⟨_,rfl,h⟩ Z
    refine nxC h ((qd (h.frG 4 0 1 Z Z Z)).1) k Z Z Z fun _ h=>G0 24559 [11,12] (h.p [] Z) Z (Ao 4 24575 Z (r_v (qcg qa (qK (w1:=w) (S1:=fun _=>False) h 1 Z a y A Z) (j:=0) Z Z Z) Z (Ag (h.p [] Z) (Aw 13 32767 (fun w' hw=>qA qa [0,1,3] [.tmp 8,.tmp 12,.tmp 16] Z Z Z Z Z Z Z Z) (h.p [] Z) Z ?_))));replace h:=h.p [2,0,3,4] Z;exact aK KM1 ⟨_,rfl,h⟩ Z
   replace h:=h.p [1,0,2,3] Z;refine nxC h ((qd (h.frG 3 0 1 Z Z Z)).1) o Z Z Z fun _ h=>G0 17382 [7,8] (h.p [] Z) Z ?_;replace h:=h.p [1,0,2,3] Z;exact aK KM7 ⟨_,rfl,h⟩ Z
  refine M0 546 [1,5,9] (h.p [] Z) Z (qhI 0 2 14 Z Z Z (bits 16 547) (bits 16 550) (bits 16 16930) (by kernel_rfl) (by kernel_rfl) (by kernel_rfl)  (by kernel_rfl) ?_ ?_ ?_)
  ·refine qq qa [.const (.string (⟨#[115,108,111,119]⟩:ByteArray)),.const (.string (⟨#[102,97,115,116]⟩:ByteArray)),.const (.string (⟨#[116,121,112]⟩:ByteArray))] _ ([(⟨#[115,108,111,119]⟩:ByteArray),(⟨#[102,97,115,116]⟩:ByteArray),(⟨#[116,121,112]⟩:ByteArray)]:List ByteArray) h Z Z Z Z Z Z Z Z Z ⟨rfl,rfl,rfl,G⟩ Z fun _ _ _ h=>Ag (h.p [] Z) (At 2 14 551 16931 Z ?_ ?_)
   ·replace h:=h.p [2,0,1,3] Z;refine nxC h ((qd (h.frG 3 0 1 Z Z Z)).1) S Z Z Z fun _ h=>Ag (h.p [] Z) ?_;have a5:=qbB a;obtain⟨_,o_21,_,_,d,g,-,hr24,_⟩:=(h.sl 1 Z).1.at a;obtain rfl:=hr24;refine Ax 3 559 d g ⟨a5.1,qD a5.2.1 (h.sl 1 Z).2⟩ (h.p [] Z) Z (qhI 4 6 14 Z Z Z (bits 16 575) (bits 16 623) (bits 16 16943) (by kernel_rfl) (by kernel_rfl) (by kernel_rfl)  (by kernel_rfl) ?_ ?_ ?_)
    ·refine r_v (qcg qa (qK (w1:=w) (S1:=fun _=>False) h 1 Z a d g Z) (j:=0) Z Z Z) Z (Ag (h.p [] Z) (At 6 14 639 16959 Z ?_ ?_))
     ·refine nxC h ((qd (h.frG 3 0 1 Z Z Z)).1) o Z Z Z fun _ h=>G0 1023 [7,8] (h.p [] Z) Z ?_;replace h:=h.p [0,2,3] Z;exact aK KM5 ⟨rfl,h⟩ Z
     refine qj qa h Z Z Z fun _ _ h=>Ag (h.p [] Z) ?_;replace h:=h.p [0,1,3,4] Z;exact aK KM6 ⟨_,rfl,h⟩ Z
    ·refine nxC h ((qd (h.frG 3 0 1 Z Z Z)).1) o Z Z Z fun _ h=>G0 1007 [7,8] (h.p [] Z) Z (qhI 4 10 14 Z Z Z (bits 16 1023) (bits 16 2031) (bits 16 17391) (by kernel_rfl) (by kernel_rfl) (by kernel_rfl)  (by kernel_rfl) ?_ ?_ ?_)
     ·refine r_v (qcg qa (qK (w1:=w) (S1:=fun _=>False) h 1 Z a d g Z) (j:=0) Z Z Z) Z (Ag (h.p [] Z) ?_);replace h:=h.p [0,2,3] Z;exact aK KM5 ⟨rfl,h⟩ Z
     ·refine nxC h ((qd (h.frG 3 0 1 Z Z Z)).1) k Z Z Z fun _ h=>G0 8175 [11,12] (h.p [] Z) Z (At 4 14 8191 24559 Z ?_ ?_)
      ·refine r_v (qcg qa (qK (w1:=w) (S1:=fun _=>False) h 1 Z a d g Z) (j:=0) Z Z Z) Z (Ag (h.p [] Z) (Aw 13 16383 (fun w' hw=>qA qa [0,1,3] [.tmp 8,.tmp 12,.tmp 16] Z Z Z Z Z Z Z Z) (h.p [] Z) Z ?_));replace h:=h.p [0,2,3] Z;exact aK KM2 ⟨rfl,h⟩ Z
      refine qj qa h Z Z Z fun _ _ h=>Ag (h.p [] Z) (Ao 4 24575 Z (r_v (qcg qa (qK (w1:=w) (S1:=fun _=>False) h 2 Z a d g Z) (j:=0) Z Z Z) Z (Ag (h.p [] Z) (Aw 13 32767 (fun w' hw=>qA qa [0,1,3] [.tmp 8,.tmp 12,.tmp 16] Z Z Z Z Z Z Z Z) (h.p [] Z) Z ?_))));replace h:=h.p [0,1,3,4] Z;exact aK KM1 ⟨_,rfl,h⟩ Z
     refine qj qa h Z Z Z fun _ _ h=>Ag (h.p [] Z) (At 4 10 17407 18415 Z ?_ ?_)
     ·refine r_v (qcg qa (qK (w1:=w) (S1:=fun _=>False) h 2 Z a d g Z) (j:=0) Z Z Z) Z (Ag (h.p [] Z) ?_);replace h:=h.p [0,1,3,4] Z;exact aK KM3 ⟨_,rfl,h⟩ Z
     replace h:=h.p [1,0,2,3,4] Z;refine nxC h ((qd (h.frG 4 0 1 Z Z Z)).1) k Z Z Z fun _ h=>G0 24559 [11,12] (h.p [] Z) Z (Ao 4 24575 Z (r_v (qcg qa (qK (w1:=w) (S1:=fun _=>False) h 2 Z a d g Z) (j:=0) Z Z Z) Z (Ag (h.p [] Z) (Aw 13 32767 (fun w' hw=>qA qa [0,1,3] [.tmp 8,.tmp 12,.tmp 16] Z Z Z Z Z Z Z Z) (h.p [] Z) Z ?_))));replace h:=h.p [1,0,3,4] Z;exact aK KM1 ⟨_,rfl,h⟩ Z
    refine qj qa h Z Z Z fun _ _ h=>Ag (h.p [] Z) (At 4 6 16959 17007 Z ?_ ?_)
    ·refine r_v (qcg qa (qK (w1:=w) (S1:=fun _=>False) h 2 Z a d g Z) (j:=0) Z Z Z) Z (Ag (h.p [] Z) ?_);replace h:=h.p [0,1,3,4] Z;exact aK KM6 ⟨_,rfl,h⟩ Z
    replace h:=h.p [1,0,2,3,4] Z;refine nxC h ((qd (h.frG 4 0 1 Z Z Z)).1) o Z Z Z fun _ h=>G0 17391 [7,8] (h.p [] Z) Z (At 4 10 17407 18415 Z ?_ ?_)
    ·refine r_v (qcg qa (qK (w1:=w) (S1:=fun _=>False) h 2 Z a d g Z) (j:=0) Z Z Z) Z (Ag (h.p [] Z) ?_);replace h:=h.p [1,0,3,4] Z;exact aK KM3 ⟨_,rfl,h⟩ Z
    refine nxC h ((qd (h.frG 4 0 1 Z Z Z)).1) k Z Z Z fun _ h=>G0 24559 [11,12] (h.p [] Z) Z (Ao 4 24575 Z (r_v (qcg qa (qK (w1:=w) (S1:=fun _=>False) h 2 Z a d g Z) (j:=0) Z Z Z) Z (Ag (h.p [] Z) (Aw 13 32767 (fun w' hw=>qA qa [0,1,3] [.tmp 8,.tmp 12,.tmp 16] Z Z Z Z Z Z Z Z) (h.p [] Z) Z ?_))));replace h:=h.p [1,0,3,4] Z;exact aK KM1 ⟨_,rfl,h⟩ Z
   exact qj qa h Z Z Z fun _ _ h=>Ag (h.p [] Z) (qnM [(0,_),(2,_),(3,_),(4,_),(5,_),(9,_),(13,_)] ⟨rfl,rfl,rfl,rfl,rfl,rfl,rfl,G⟩ (KM8 _ _ ⟨_,_,_,rfl,h⟩))
  ·replace h:=h.p [1,0,2] Z;refine nxC h ((qd (h.frG 2 0 1 Z Z Z)).1) S Z Z Z fun _ h=>Ag (h.p [] Z) (qhI 0 6 14 Z Z Z (bits 16 551) (bits 16 614) (bits 16 16934) (by kernel_rfl) (by kernel_rfl) (by kernel_rfl)  (by kernel_rfl) ?_ ?_ ?_)
   ·refine qq qa [.const (.string (⟨#[115,108,111,119]⟩:ByteArray)),.const (.string (⟨#[102,97,115,116]⟩:ByteArray)),.const (.string (⟨#[116,121,112]⟩:ByteArray))] _ ([(⟨#[115,108,111,119]⟩:ByteArray),(⟨#[102,97,115,116]⟩:ByteArray),(⟨#[116,121,112]⟩:ByteArray)]:List ByteArray) h Z Z Z Z Z Z Z Z Z ⟨rfl,rfl,rfl,G⟩ Z fun _ _ _ h=>Ag (h.p [] Z) ?_;have a6:=qbB a;obtain⟨_,o_22,_,_,f,i,-,hr25,_⟩:=(h.sl 0 Z).1.at a;obtain rfl:=hr25;refine Ax 3 559 f i ⟨a6.1,qD a6.2.1 (h.sl 0 Z).2⟩ (h.p [] Z) Z (qhI 4 6 14 Z Z Z (bits 16 575) (bits 16 623) (bits 16 16943) (by kernel_rfl) (by kernel_rfl) (by kernel_rfl)  (by kernel_rfl) ?_ ?_ ?_)
    ·refine r_v (qcg qa (qK (w1:=w) (S1:=fun _=>False) h 0 Z a f i Z) (j:=0) Z Z Z) Z (Ag (h.p [] Z) (At 6 14 639 16959 Z ?_ ?_))
     ·replace h:=h.p [1,0,2,3] Z;refine nxC h ((qd (h.frG 3 0 1 Z Z Z)).1) o Z Z Z fun _ h=>G0 1023 [7,8] (h.p [] Z) Z ?_;replace h:=h.p [0,2,3] Z;exact aK KM5 ⟨rfl,h⟩ Z
     refine qj qa h Z Z Z fun _ _ h=>Ag (h.p [] Z) ?_;replace h:=h.p [0,2,3,4] Z;exact aK KM6 ⟨_,rfl,h⟩ Z
    ·replace h:=h.p [1,0,2,3] Z;refine nxC h ((qd (h.frG 3 0 1 Z Z Z)).1) o Z Z Z fun _ h=>G0 1007 [7,8] (h.p [] Z) Z (qhI 4 10 14 Z Z Z (bits 16 1023) (bits 16 2031) (bits 16 17391) (by kernel_rfl) (by kernel_rfl) (by kernel_rfl)  (by kernel_rfl) ?_ ?_ ?_)
     ·refine r_v (qcg qa (qK (w1:=w) (S1:=fun _=>False) h 1 Z a f i Z) (j:=0) Z Z Z) Z (Ag (h.p [] Z) ?_);replace h:=h.p [0,2,3] Z;exact aK KM5 ⟨rfl,h⟩ Z
     ·refine nxC h ((qd (h.frG 3 0 1 Z Z Z)).1) k Z Z Z fun _ h=>G0 8175 [11,12] (h.p [] Z) Z (At 4 14 8191 24559 Z ?_ ?_)
      ·refine r_v (qcg qa (qK (w1:=w) (S1:=fun _=>False) h 1 Z a f i Z) (j:=0) Z Z Z) Z (Ag (h.p [] Z) (Aw 13 16383 (fun w' hw=>qA qa [0,1,3] [.tmp 8,.tmp 12,.tmp 16] Z Z Z Z Z Z Z Z) (h.p [] Z) Z ?_));replace h:=h.p [0,2,3] Z;exact aK KM2 ⟨rfl,h⟩ Z
      refine qj qa h Z Z Z fun _ _ h=>Ag (h.p [] Z) (Ao 4 24575 Z (r_v (qcg qa (qK (w1:=w) (S1:=fun _=>False) h 2 Z a f i Z) (j:=0) Z Z Z) Z (Ag (h.p [] Z) (Aw 13 32767 (fun w' hw=>qA qa [0,1,3] [.tmp 8,.tmp 12,.tmp 16] Z Z Z Z Z Z Z Z) (h.p [] Z) Z ?_))));replace h:=h.p [0,1,3,4] Z;exact aK KM1 ⟨_,rfl,h⟩ Z
     refine qj qa h Z Z Z fun _ _ h=>Ag (h.p [] Z) (At 4 10 17407 18415 Z ?_ ?_)
     ·refine r_v (qcg qa (qK (w1:=w) (S1:=fun _=>False) h 2 Z a f i Z) (j:=0) Z Z Z) Z (Ag (h.p [] Z) ?_);replace h:=h.p [0,1,3,4] Z;exact aK KM3 ⟨_,rfl,h⟩ Z
     replace h:=h.p [1,0,2,3,4] Z;refine nxC h ((qd (h.frG 4 0 1 Z Z Z)).1) k Z Z Z fun _ h=>G0 24559 [11,12] (h.p [] Z) Z (Ao 4 24575 Z (r_v (qcg qa (qK (w1:=w) (S1:=fun _=>False) h 2 Z a f i Z) (j:=0) Z Z Z) Z (Ag (h.p [] Z) (Aw 13 32767 (fun w' hw=>qA qa [0,1,3] [.tmp 8,.tmp 12,.tmp 16] Z Z Z Z Z Z Z Z) (h.p [] Z) Z ?_))));replace h:=h.p [1,0,3,4] Z;exact aK KM1 ⟨_,rfl,h⟩ Z
    refine qj qa h Z Z Z fun _ _ h=>Ag (h.p [] Z) (At 4 6 16959 17007 Z ?_ ?_)
    ·refine r_v (qcg qa (qK (w1:=w) (S1:=fun _=>False) h 1 Z a f i Z) (j:=0) Z Z Z) Z (Ag (h.p [] Z) ?_);replace h:=h.p [0,2,3,4] Z;exact aK KM6 ⟨_,rfl,h⟩ Z
    replace h:=h.p [2,0,1,3,4] Z;refine nxC h ((qd (h.frG 4 0 1 Z Z Z)).1) o Z Z Z fun _ h=>G0 17391 [7,8] (h.p [] Z) Z (At 4 10 17407 18415 Z ?_ ?_)
    ·refine r_v (qcg qa (qK (w1:=w) (S1:=fun _=>False) h 2 Z a f i Z) (j:=0) Z Z Z) Z (Ag (h.p [] Z) ?_);replace h:=h.p [1,0,3,4] Z;exact aK KM3 ⟨_,rfl,h⟩ Z
    refine nxC h ((qd (h.frG 4 0 1 Z Z Z)).1) k Z Z Z fun _ h=>G0 24559 [11,12] (h.p [] Z) Z (Ao 4 24575 Z (r_v (qcg qa (qK (w1:=w) (S1:=fun _=>False) h 2 Z a f i Z) (j:=0) Z Z Z) Z (Ag (h.p [] Z) (Aw 13 32767 (fun w' hw=>qA qa [0,1,3] [.tmp 8,.tmp 12,.tmp 16] Z Z Z Z Z Z Z Z) (h.p [] Z) Z ?_))));replace h:=h.p [1,0,3,4] Z;exact aK KM1 ⟨_,rfl,h⟩ Z
   ·refine nxC h ((qd (h.frG 2 0 1 Z Z Z)).1) o Z Z Z fun _ h=>G0 998 [7,8] (h.p [] Z) Z (qhI 0 10 14 Z Z Z (bits 16 999) (bits 16 2022) (bits 16 17382) (by kernel_rfl) (by kernel_rfl) (by kernel_rfl)  (by kernel_rfl) ?_ ?_ ?_)
    ·refine qq qa [.const (.string (⟨#[115,108,111,119]⟩:ByteArray)),.const (.string (⟨#[102,97,115,116]⟩:ByteArray)),.const (.string (⟨#[116,121,112]⟩:ByteArray))] _ ([(⟨#[115,108,111,119]⟩:ByteArray),(⟨#[102,97,115,116]⟩:ByteArray),(⟨#[116,121,112]⟩:ByteArray)]:List ByteArray) h Z Z Z Z Z Z Z Z Z ⟨rfl,rfl,rfl,G⟩ Z fun _ _ _ h=>Ag (h.p [] Z) ?_;have a7:=qbB a;obtain⟨_,o_23,_,_,t,u,-,hr26,_⟩:=(h.sl 0 Z).1.at a;obtain rfl:=hr26;refine Ax 3 1007 t u ⟨a7.1,qD a7.2.1 (h.sl 0 Z).2⟩ (h.p [] Z) Z (qhI 4 10 14 Z Z Z (bits 16 1023) (bits 16 2031) (bits 16 17391) (by kernel_rfl) (by kernel_rfl) (by kernel_rfl)  (by kernel_rfl) ?_ ?_ ?_)
     ·refine r_v (qcg qa (qK (w1:=w) (S1:=fun _=>False) h 0 Z a t u Z) (j:=0) Z Z Z) Z (Ag (h.p [] Z) ?_);replace h:=h.p [1,2,3] Z;exact aK KM5 ⟨rfl,h⟩ Z
     ·replace h:=h.p [1,0,2,3] Z;refine nxC h ((qd (h.frG 3 0 1 Z Z Z)).1) k Z Z Z fun _ h=>G0 8175 [11,12] (h.p [] Z) Z (At 4 14 8191 24559 Z ?_ ?_)
      ·refine r_v (qcg qa (qK (w1:=w) (S1:=fun _=>False) h 1 Z a t u Z) (j:=0) Z Z Z) Z (Ag (h.p [] Z) (Aw 13 16383 (fun w' hw=>qA qa [0,1,3] [.tmp 8,.tmp 12,.tmp 16] Z Z Z Z Z Z Z Z) (h.p [] Z) Z ?_));replace h:=h.p [0,2,3] Z;exact aK KM2 ⟨rfl,h⟩ Z
      refine qj qa h Z Z Z fun _ _ h=>Ag (h.p [] Z) (Ao 4 24575 Z (r_v (qcg qa (qK (w1:=w) (S1:=fun _=>False) h 2 Z a t u Z) (j:=0) Z Z Z) Z (Ag (h.p [] Z) (Aw 13 32767 (fun w' hw=>qA qa [0,1,3] [.tmp 8,.tmp 12,.tmp 16] Z Z Z Z Z Z Z Z) (h.p [] Z) Z ?_))));replace h:=h.p [0,1,3,4] Z;exact aK KM1 ⟨_,rfl,h⟩ Z
     refine qj qa h Z Z Z fun _ _ h=>Ag (h.p [] Z) (At 4 10 17407 18415 Z ?_ ?_)
     ·refine r_v (qcg qa (qK (w1:=w) (S1:=fun _=>False) h 1 Z a t u Z) (j:=0) Z Z Z) Z (Ag (h.p [] Z) ?_);replace h:=h.p [0,2,3,4] Z;exact aK KM3 ⟨_,rfl,h⟩ Z
     replace h:=h.p [2,0,1,3,4] Z;refine nxC h ((qd (h.frG 4 0 1 Z Z Z)).1) k Z Z Z fun _ h=>G0 24559 [11,12] (h.p [] Z) Z (Ao 4 24575 Z (r_v (qcg qa (qK (w1:=w) (S1:=fun _=>False) h 2 Z a t u Z) (j:=0) Z Z Z) Z (Ag (h.p [] Z) (Aw 13 32767 (fun w' hw=>qA qa [0,1,3] [.tmp 8,.tmp 12,.tmp 16] Z Z Z Z Z Z Z Z) (h.p [] Z) Z ?_))));replace h:=h.p [1,0,3,4] Z;exact aK KM1 ⟨_,rfl,h⟩ Z
    ·refine nxC h ((qd (h.frG 2 0 1 Z Z Z)).1) k Z Z Z fun _ h=>G0 8166 [11,12] (h.p [] Z) Z (At 0 14 8167 24550 Z ?_ ?_)
     ·refine qq qa [.const (.string (⟨#[115,108,111,119]⟩:ByteArray)),.const (.string (⟨#[102,97,115,116]⟩:ByteArray)),.const (.string (⟨#[116,121,112]⟩:ByteArray))] _ ([(⟨#[115,108,111,119]⟩:ByteArray),(⟨#[102,97,115,116]⟩:ByteArray),(⟨#[116,121,112]⟩:ByteArray)]:List ByteArray) h Z Z Z Z Z Z Z Z Z ⟨rfl,rfl,rfl,G⟩ Z fun _ _ _ h=>Ag (h.p [] Z) ?_;have a8:=qbB a;obtain⟨_,o_24,_,_,O,Q,-,hr27,_⟩:=(h.sl 0 Z).1.at a;obtain rfl:=hr27;refine Ax 3 8175 O Q ⟨a8.1,qD a8.2.1 (h.sl 0 Z).2⟩ (h.p [] Z) Z (At 4 14 8191 24559 Z ?_ ?_)
      ·refine r_v (qcg qa (qK (w1:=w) (S1:=fun _=>False) h 0 Z a O Q Z) (j:=0) Z Z Z) Z (Ag (h.p [] Z) (Aw 13 16383 (fun w' hw=>qA qa [0,1,3] [.tmp 8,.tmp 12,.tmp 16] Z Z Z Z Z Z Z Z) (h.p [] Z) Z ?_));replace h:=h.p [1,2,3] Z;exact aK KM2 ⟨rfl,h⟩ Z
      refine qj qa h Z Z Z fun _ _ h=>Ag (h.p [] Z) (Ao 4 24575 Z (r_v (qcg qa (qK (w1:=w) (S1:=fun _=>False) h 1 Z a O Q Z) (j:=0) Z Z Z) Z (Ag (h.p [] Z) (Aw 13 32767 (fun w' hw=>qA qa [0,1,3] [.tmp 8,.tmp 12,.tmp 16] Z Z Z Z Z Z Z Z) (h.p [] Z) Z ?_))));replace h:=h.p [0,2,3,4] Z;exact aK KM1 ⟨_,rfl,h⟩ Z
     exact qj qa h Z Z Z fun _ _ h=>Ag (h.p [] Z) (qnM [(0,_),(2,_),(3,_),(6,_),(12,_),(16,_)] ⟨rfl,rfl,rfl,rfl,rfl,rfl,G⟩ (KM4 _ _ ⟨_,rfl,h⟩))
    exact qj qa h Z Z Z fun _ _ h=>Ag (h.p [] Z) (qnM [(0,_),(2,_),(3,_),(6,_),(12,_),(13,_)] ⟨rfl,rfl,rfl,rfl,rfl,rfl,G⟩ (KM7 _ _ ⟨_,rfl,h⟩))
   exact qj qa h Z Z Z fun _ _ h=>Ag (h.p [] Z) (qnM [(0,_),(2,_),(3,_),(6,_),(9,_),(13,_)] ⟨rfl,rfl,rfl,rfl,rfl,rfl,G⟩ (KM9 _ _ ⟨_,rfl,h⟩))
  refine qj qa h Z Z Z fun _ _ h=>Ag (h.p [] Z) (At 0 2 16931 16934 Z ?_ ?_)
  ·refine qq qa [.const (.string (⟨#[115,108,111,119]⟩:ByteArray)),.const (.string (⟨#[102,97,115,116]⟩:ByteArray)),.const (.string (⟨#[116,121,112]⟩:ByteArray))] _ ([(⟨#[115,108,111,119]⟩:ByteArray),(⟨#[102,97,115,116]⟩:ByteArray),(⟨#[116,121,112]⟩:ByteArray)]:List ByteArray) h Z Z Z Z Z Z Z Z Z ⟨rfl,rfl,rfl,G⟩ Z fun _ _ _ h=>Ag (h.p [] Z) ?_;replace h:=h.p [1,0,2,3,4] Z;exact aK KM8 ⟨_,_,_,rfl,h⟩ Z
  replace h:=h.p [2,0,1,3] Z;refine nxC h ((qd (h.frG 3 0 1 Z Z Z)).1) S Z Z Z fun _ h=>Ag (h.p [] Z) ?_;replace h:=h.p [1,0,2,3] Z;exact aK KM9 ⟨_,rfl,h⟩ Z
 rintro _ _ ⟨C,rfl,h⟩;refine qcn (rA [7] [0] h Z fun _ h=>M1 7 [0,1,2] 0 (h.p [0] Z) Z (Ao 3 15 Z ?_));replace h:=h.p [1,0,2,3] Z;obtain⟨⟨T,_,_⟩,hr28,hF⟩:=qc hF;refine nxC h ((qd (h.frG 3 0 1 Z Z Z)).1) hr28 Z Z Z fun _ h=>G0 127 [4,5,6] (h.p [1] Z) Z (Ao 7 255 Z (zs 1 h Z fun _ h=>qbg (fun hs=>absurd (hs 7 (by decide)) (by decide)) (Ad (qcn (rA [7] [1] h Z fun _ h=>M1 7 [0,1,2] 0 (h.p [1] Z) Z (Ao 3 15 Z ?_))))));obtain⟨⟨W,_,_⟩,hr29,hF⟩:=qc hF;refine nxC h ((qd (h.frG 3 0 1 Z Z Z)).1) hr29 Z Z Z fun _ h=>G0 127 [4,5,6] (h.p [1] Z) Z (Ao 7 255 Z (zs 1 h Z fun _ h=>qbg (fun hs=>absurd (hs 7 (by decide)) (by decide)) (Ad (X0 4 Z ?_))));obtain⟨⟨_,_,_⟩,hr30,hF⟩:=qc hF;refine nxC h ((qd (h.frG 3 0 1 Z Z Z)).1) hr30 Z Z Z fun _ h=>X0 7 Z (qk Z hF ?_ ?_)<;>intro hF
 ·refine X1 5 1 h Z (zs 1 h Z fun _ h=>X1 5 1 h Z (zs 2 h Z fun _ h=>qbb ?_));have hk1:=h;obtain rfl:=qb hF;replace h:=h.p [0,3] Z;exact qaM qa [oV qu [.string R,vi (W64 (800+(W64 (10*v)))),vi (W64 ((W64 (800+(W64 (10*v))))-1)),vi (W64 (900+(W64 (10*B)))),vi (W64 ((W64 (900+(W64 (10*B))))+(W64 (9*W))))]] ⟨⟨_,_,_,rfl,rfl,hk1.box 2 Z,rfl⟩,G⟩ ⟨rfl,SH.unfr 1 1 h0 h Z Z⟩
 refine X0 5 Z (qk Z hF ?_ ?_)<;>intro hF
 ·refine qkJ (qq qa [.const (vi (99)),.const (vi (100)),.const (vi (-1))] _ ([99,100,(-1)]:List Int) h Z Z Z Z Z Z Z Z Z ⟨rfl,rfl,rfl,G⟩ Z fun _ _ _ h=>zp1 Z ?_);replace h:=h.p [1,0,2,3,4] Z;obtain⟨⟨_,_,_⟩,hr31,hF⟩:=qc hF;refine nxC h ((qd (h.frG 4 0 1 Z Z Z)).1) hr31 Z Z Z fun _ h=>?_;obtain⟨y2,_,hF,a9,_,_,_,_,hp25,hq25,rfl,hc27⟩:=(h.sl 1 Z).1.ix hF;refine zx hp25 hq25 ⟨a9.1,qD a9.2.1 (h.sl 1 Z).2⟩ Z (zc 0 hc27 Z (zp1 Z (zs 2 h Z fun _ h=>X1 5 2 h Z (zs 3 h Z fun _ h=>qbb ?_))));have hk2:=h;obtain rfl:=qb hF;replace h:=h.p [0,4] Z;exact qaM qa [oV qu [.string R,vi (W64 (800+(W64 (10*v)))),vi (W64 ((W64 (800+(W64 (10*v))))+(W64 (7*T)))),vi y2,vi (W64 ((W64 (900+(W64 (10*B))))+(W64 (9*W))))]] ⟨⟨_,_,_,rfl,rfl,hk2.box 3 Z,rfl⟩,G⟩ ⟨rfl,SH.unfr 1 1 h0 h Z Z⟩
 refine X0 5 Z (qk Z hF ?_ ?_)<;>intro hF
 ·refine X0 2 Z ?_;obtain⟨⟨i22,_,_⟩,hr33,hF⟩:=qc hF;refine nxC h ((qd (h.frG 3 0 1 Z Z Z)).1) hr33 Z Z Z fun _ h=>zp2 Z (zs 1 h Z fun _ h=>X1 5 1 h Z (zs 2 h Z fun _ h=>qbb ?_));have hk3:=h;obtain rfl:=qb hF;replace h:=h.p [0,3] Z;exact qaM qa [oV qu [.string R,vi (W64 (800+(W64 (10*v)))),vi (W64 ((W64 (800+(W64 (10*v))))+(W64 (7*T)))),vi (W64 (900+(W64 (10*B)))),vi (W64 (5000+i22))]] ⟨⟨_,_,_,rfl,rfl,hk3.box 2 Z,rfl⟩,G⟩ ⟨rfl,SH.unfr 1 1 h0 h Z Z⟩
 refine X0 5 Z (qk Z hF ?_ ?_)<;>intro hF
 ·refine X0 2 Z (zs 1 h Z fun _ h=>X1 5 1 h Z (zs 2 h Z fun _ h=>qbb ?_));have hk4:=h;obtain rfl:=qb hF;replace h:=h.p [0,3] Z;exact qaM qa [oV qu [.string (⟨#[]⟩:ByteArray),vi (W64 (800+(W64 (10*v)))),vi (W64 ((W64 (800+(W64 (10*v))))+(W64 (7*T)))),vi (W64 (900+(W64 (10*B)))),vi (W64 ((W64 (900+(W64 (10*B))))+(W64 (9*W))))]] ⟨⟨_,_,_,rfl,rfl,hk4.box 2 Z,rfl⟩,G⟩ ⟨rfl,SH.unfr 1 1 h0 h Z Z⟩
 refine X1 5 1 h Z (zs 2 h Z fun _ h=>qbb ?_);have hk5:=h;obtain rfl:=qb hF;replace h:=h.p [0,3] Z;exact qaM qa [oV qu [.string R,vi (W64 (800+(W64 (10*v)))),vi (W64 ((W64 (800+(W64 (10*v))))+(W64 (7*T)))),vi (W64 (900+(W64 (10*B)))),vi (W64 ((W64 (900+(W64 (10*B))))+(W64 (9*W))))]] ⟨⟨_,_,_,rfl,rfl,hk5.box 2 Z,rfl⟩,G⟩ ⟨rfl,SH.unfr 1 1 h0 h Z Z⟩
def qdV(links:(List qt))(live:(List Bool))(m:Bool):Nat->(List Bool)->Bool->Int->Option ((List Bool)×Bool×Int)|0,_,_,_=>U|n+1,b,b3,a=>bif decide (a<(links.length:Int)) then(idx links a).bind fun d=>(idx links a).bind fun f=>(bif (!m) then V (f.To,d.Bl) else V (d.Bl,f.To)).bind fun(h,c)=>((idx live a).bind fun i=>bif i then(idx b h).bind fun k=>bif k then(idx b c).bind fun l=>V (!l) else V false else V false).bind fun g=>bif g then(idx b c).bind fun _=>qdV links live m n (setS b c true) true (W64 (a+1)) else qdV links live m n b b3 (W64 (a+1)) else V (b,b3,a)
def qeO(links:(List qt))(live:(List Bool))(c:Bool):Nat->(List Bool)->Bool->Option ((List Bool)×Bool)|0,_,_=>U|n+1,a,b2=>bif b2 then(qdV links live c n a false 0).bind fun(b,b3,_)=>qeO links live c n b b3 else V (a,b2)
def qh5(n:Nat)(d:Int)(links:(List qt))(live:(List Bool))(node:Int)(c:Bool):Option (List Bool):=(mkS d (false:Bool)).bind fun a=>(idx a node).bind fun _=>(qeO links live c n (setS a node true) true).bind fun(b,_)=>V b
theorem qlq{a_n}{links:(List qt)}{live:(List Bool)}{node forward}(N:Ro w links cs1)(O:Ro w live cs2){r:(List Bool)}(F:qh5 n a_n links live node forward=V r):RetV prog 260 [vi a_n,oV (List qt) cs1,oV (List Bool) cs2,vi node,.bool forward] w r:=by
 obtain⟨p1,C,rfl,s1⟩:=N;obtain⟨H,D,rfl,s2⟩:=O;refine zV 63 func260 Z fun h=>X0 7 Z ?_;obtain⟨a,d,F⟩:=qc F;obtain⟨g1,g2,d⟩:=qas d;refine qaL qa Bool h Z Z Z Z Z Z Z Z Z g1 g2 d Z fun _ S1 b h=>X0 6 Z ?_;obtain⟨_,c2,F,l,_,_,_,_,u,x,rfl,P⟩:=(h.sl 0 Z).1.ix F;refine zx u x ⟨l.1,qD l.2.1 (h.sl 0 Z).2⟩ Z (qaV qa 0 0 true h Z c2 u x Z P Z Z Z Z Z Z Z fun _ h=>X0 6 Z ?_);obtain⟨o1,F,L⟩:=qc F;refine qm (rL (fun m e w'=>∃x2 b2,qeO links live forward m x2 b2=V o1/\e=[(1,oS p1 links.length C),(2,oS H live.length D),(4,.bool forward),(11,oS b a.length a.length),(12,.bool b2)]/\SH w w' [oW S1 (x2:List Bool) [oS b a.length a.length]]) n ⟨_,_,F,rfl,h⟩ Z ?_);rintro m1 _ _ ⟨x2,b2,F,rfl,h⟩;rcases m1 with _|m1
 ·cases F
 refine X0 5 Z (qk Z F ?_ ?_)<;>intro F
 ·refine X0 10 Z ?_;obtain⟨o2,F,M⟩:=qc F;refine qm (rL (fun m e w'=>∃A b3 z,qdV links live forward m A b3 z=V o2/\e=[(1,oS p1 links.length C),(2,oS H live.length D),(4,.bool forward),(11,oS b a.length a.length),(12,.bool b3),(13,vi z)]/\SH w w' [oW S1 (A:List Bool) [oS b a.length a.length]]) m1 ⟨_,_,_,F,rfl,h⟩ Z ?_);rintro m2 _ _ ⟨A,b3,z,F,rfl,h⟩;rcases m2 with _|m2
  ·cases F
  refine X0 8 Z (qk Z F ?_ ?_)<;>intro F
  ·refine X0 4 Z (rD (zd2 Z ?_));obtain⟨_,_,F,X,_,_,_,_,a4,a9,b9,Q⟩:=s1.ix F;obtain rfl:=qac b9;refine zdxe a4 a9 X Z (zd1 Z (zdc 0 (Q.below h.below) Z (zd2 Z ?_)));obtain⟨_,_,F,Y,_,_,_,_,a5,b4,c0,R⟩:=s1.ix F;obtain rfl:=qac c0;refine zdxe a5 b4 Y Z (zd1 Z (zdc 1 (R.below h.below) Z (zd2 Z (dN h fun _ h=>X0 6 Z ?_))));obtain⟨J,i,_,F,f⟩:=bindE F;refine qay (fun e w'=>∃i2 B,J (i2,B)=V o2/\e=[(1,oS p1 links.length C),(2,oS H live.length D),(4,.bool forward),(11,oS b a.length a.length),(12,.bool b3),(13,vi z),(14,vi i2),(15,vi B)]/\SH w w' [oW S1 (A:List Bool) [oS b a.length a.length]]) ?_ ?_
   ·refine qk Z F ?_ ?_<;>intro F
    ·refine X0 6 Z ?_;obtain rfl:=qb F;exact rG ⟨_,_,f,rfl,h⟩ Z
    refine qfg ?_;obtain rfl:=qb F;exact rG ⟨_,_,f,rfl,h⟩ Z
   rintro _ _ ⟨i2,B,F,rfl,h⟩;subst i;refine qcn ?_;obtain⟨I,g,_,F,c⟩:=bindE F;refine qay (fun e w'=>∃K,I K=V o2/\e=[(1,oS p1 links.length C),(2,oS H live.length D),(4,.bool forward),(11,oS b a.length a.length),(12,.bool b3),(13,vi z),(15,vi B),(58,.bool K)]/\SH w w' [oW S1 (A:List Bool) [oS b a.length a.length]]) ?_ ?_
   ·refine X0 3 Z ?_;obtain⟨_,_,F,a3,_,_,_,_,a6,b5,rfl,T⟩:=s2.ix F;refine zxe a6 b5 a3 Z (zc 0 (T.below h.below) Z (zp1 Z (qg (t:=46) F Z ?_ ?_)))<;>intro F
    ·refine X0 5 Z ?_;obtain⟨_,_,F,p,_,_,_,_,a7,b7,rfl,W⟩:=(h.sl 0 Z).1.ix F;refine zx a7 b7 ⟨p.1,qD p.2.1 (h.sl 0 Z).2⟩ Z (X0 1 Z (zc 0 W Z (zp2 Z (qg (t:=52) F Z ?_ ?_))))<;>intro F
     ·refine X0 5 Z ?_;obtain⟨_,_,F,s,_,_,_,_,a8,b8,rfl,k⟩:=(h.sl 0 Z).1.ix F;refine zx a8 b8 ⟨s.1,qD s.2.1 (h.sl 0 Z).2⟩ Z (X0 1 Z (zc 0 k Z (X0 4 Z ?_)));obtain rfl:=qb F;exact rG ⟨_,c,rfl,h⟩ Z
     refine X0 7 Z ?_;obtain rfl:=qb F;exact rG ⟨_,c,rfl,h⟩ Z
    refine X0 13 Z ?_;obtain rfl:=qb F;exact rG ⟨_,c,rfl,h⟩ Z
   rintro _ _ ⟨K,F,rfl,h⟩;subst g;refine qk Z F ?_ ?_<;>intro F
   ·refine X0 4 Z ?_;obtain⟨_,c3,F,o,_,_,_,_,v,y,rfl,S⟩:=(h.sl 0 Z).1.ix F;exact zx v y ⟨o.1,qD o.2.1 (h.sl 0 Z).2⟩ Z (qaV qa 0 0 true h Z c3 v y Z S Z Z Z Z Z Z Z fun _ h=>X0 10 Z (rK ⟨_,_,_,F,rfl,h⟩ Z))
   exact X0 7 Z (rK ⟨_,_,_,F,rfl,h⟩ Z)
  refine qv Z ?_;obtain rfl:=qb F;replace F:=M;exact qvl (rK ⟨_,_,F,rfl,h⟩ Z)
 refine qv Z ?_;obtain rfl:=qb F;replace F:=L;refine X0 5 Z ?_;obtain rfl:=qb F;exact rO 0 h Z ⟨rfl,G⟩
def qdw(links:(List qt))(live:(List Bool))(v:Int):Nat->Int->Option (Flow Bool Int)|0,_=>U|n+1,a=>bif decide (a<(links.length:Int)) then(idx live a).bind fun b=>bif b then(idx links a).bind fun c=>bif (c.Bl==v) then(idx links a).bind fun d=>bif (d.To==v) then V (.ret true) else qdw links live v n (W64 (a+1)) else qdw links live v n (W64 (a+1)) else qdw links live v n (W64 (a+1)) else V (.nxt a)
def qkb(n:Nat)(links:(List qt))(live:(List Bool))(v:Int):Option Bool:=(qdw links live v n 0).bind fun|.ret r=>V r|.nxt _=>V false
theorem qpy{links:(List qt)}{live:(List Bool)}{v}(b:Ro w links cs1)(c:Ro w live cs2){r:Bool}(F:qkb n links live v=V r):RetV prog 261 [oV (List qt) cs1,oV (List Bool) cs2,vi v] w r:=by
 obtain⟨p1,D,rfl,s1⟩:=b;obtain⟨I,H,rfl,s2⟩:=c;refine zV 36 func261 Z fun h=>X0 9 Z ?_;obtain⟨o1,F,a⟩:=qc F;refine qm (rL (fun m e w'=>∃B,qdw links live v m B=V o1/\e=[(0,oS p1 links.length D),(1,oS I live.length H),(2,vi v),(7,vi B)]/\SH w w' []) n ⟨_,F,rfl,h⟩ Z ?_);rintro C _ _ ⟨B,F,rfl,h⟩;rcases C with _|C
 ·cases F
 refine X0 8 Z (qk Z F ?_ ?_)<;>intro F
 ·refine X0 7 Z ?_;obtain⟨_,_,F,i,_,_,_,_,o,u,rfl,d⟩:=s2.ix F;refine zxe o u i Z (zc 0 (d.below h.below) Z (zp1 Z (qg (t:=18) F Z ?_ ?_)))<;>intro F
  ·refine X0 5 Z ?_;obtain⟨_,_,F,k,_,_,_,_,p,x,z,f⟩:=s1.ix F;obtain rfl:=qac z;refine zxe p x k Z (X0 3 Z (zc 0 (f.below h.below) Z (X0 6 Z (qg (t:=27) F Z ?_ ?_))))<;>intro F
   ·refine X0 5 Z ?_;obtain⟨_,_,F,l,_,_,_,_,s,y,A,g⟩:=s1.ix F;obtain rfl:=qac A;refine zxe s y l Z (X0 3 Z (zc 1 (g.below h.below) Z (X0 6 Z (qk Z F ?_ ?_))))<;>intro F
    ·refine X0 4 Z ?_;obtain rfl:=qb F;replace F:=a;exact rb h F Z
    exact X0 7 Z (rK ⟨_,F,rfl,h⟩ Z)
   exact X0 9 Z (qbe Z Z (X0 7 Z (rK ⟨_,F,rfl,h⟩ Z)))
  exact X0 18 Z (qbe Z Z (X0 7 Z (rK ⟨_,F,rfl,h⟩ Z)))
 refine qv Z ?_;obtain rfl:=qb F;replace F:=a;exact X0 4 Z (rb h F Z)
def qdN(a_0:Int)(r1:(List Bool))(c:(List Bool)):Nat->(List Int)->(List Bool)->Int->Option ((List Int)×(List Bool)×Int)|0,_,_,_=>U|n+1,d,b,a=>bif decide (a<a_0) then((idx r1 a).bind fun g=>bif g then(idx c a).bind fun h=>V h else V false).bind fun b2=>bif b2 then(appS d ([a]:List Int)).bind fun f=>(idx b a).bind fun _=>qdN a_0 r1 c n f (setS b a true) (W64 (a+1)) else qdN a_0 r1 c n d b (W64 (a+1)) else V (d,b,a)
def qcT(a_0:Int)(a_1:(List qt))(a_2:(List Bool)):Nat->(List Bool)->(List (List Int))->Int->Option ((List Bool)×(List (List Int))×Int)|0,_,_,_=>U|n+1,b,c,a=>bif decide (a<a_0) then(idx b a).bind fun l=>bif l then qcT a_0 a_1 a_2 n b c (W64 (a+1)) else(qh5 n a_0 a_1 a_2 a true).bind fun r1=>(qh5 n a_0 a_1 a_2 a false).bind fun h=>(qdN a_0 r1 h n ([]:List Int) b 0).bind fun(d,f,_)=>(bif decide ((d.length:Int) > 1) then V true else(qkb n a_1 a_2 a).bind fun i=>V i).bind fun g=>bif g then(appS c ([d]:List (List Int))).bind fun k=>qcT a_0 a_1 a_2 n f k (W64 (a+1)) else qcT a_0 a_1 a_2 n f c (W64 (a+1)) else V (b,c,a)
def qjt(n:Nat)(a_0:Int)(a_1:(List qt))(a_2:(List Bool)):Option (List (List Int)):=(mkS a_0 (false:Bool)).bind fun a=>(qcT a_0 a_1 a_2 n a ([]:List (List Int)) 0).bind fun(_,b,_)=>V b
theorem qoU{a_0}{a_1:(List qt)}{a_2:(List Bool)}(ha1:Ro w a_1 cs1)(ha2:Ro w a_2 cs2){r:(List (List Int))}(F:qjt n a_0 a_1 a_2=V r):RetV prog 216 [vi a_0,oV (List qt) cs1,oV (List Bool) cs2] w r:=by
 obtain⟨p1,O,rfl,s1⟩:=ha1;obtain⟨S,P,rfl,s2⟩:=ha2;refine zV 73 func216 Z fun h=>X0 6 Z (qeU qa [] _ ([]:List (List Int)) [] h Z Z Z Z Z Z Z Z Z qhM Z Z fun _ _ _ h=>X0 5 Z ?_);obtain⟨a,g,F⟩:=qc F;obtain⟨g1,g2,g⟩:=qas g;refine qaL qa Bool h Z Z Z Z Z Z Z Z Z g1 g2 g Z fun _ S2 f h=>X0 7 Z ?_;obtain⟨o1,F,hK1⟩:=qc F;refine qm (rL (fun m e w'=>∃(x2:(List Bool)) (x:Nat->Prop) (d:Option Addr) (o:Nat) (k3:Nat) (b:(List (List Int))) (v:Int),qcT a_0 a_1 a_2 m x2 b v=V o1/\e=[(0,vi a_0),(1,oS p1 a_1.length O),(2,oS S a_2.length P),(7,oS d o k3),(8,oS f a.length a.length),(9,vi v)]/\SH w w' [oW S2 (x2:List Bool) [oS f a.length a.length],oW x (b:List (List Int)) [oS d o k3]]) n ⟨_,_,_,_,_,_,_,F,rfl,h⟩ Z ?_);rintro m1 _ _ ⟨x2,x,d,o,k3,b,v,F,rfl,h⟩;obtain rfl:=(h.sl 1 Z).2;rcases m1 with _|m1
 ·cases F
 refine X0 7 Z (qk Z F ?_ ?_)<;>intro F
 ·refine X0 8 Z ?_;obtain⟨_,_,F,C,_,_,_,_,hp1,hq1,rfl,hc2⟩:=(h.sl 0 Z).1.ix F;refine zx hp1 hq1 ⟨C.1,qD C.2.1 (h.sl 0 Z).2⟩ Z (zc 0 hc2 Z (qbb (qk Z F ?_ ?_)))<;>intro F
  ·exact qv Z (X0 5 Z (rK ⟨_,_,_,_,_,_,_,F,rfl,h⟩ Z))
  refine X0 7 Z (zcL h F (qlq ⟨_,_,rfl,(h.oldS s1)⟩ ⟨_,_,rfl,(h.oldS s2)⟩) Z fun r1 _ S4 T Q h F=>zp4 Z (zcL h F (qlq ⟨_,_,rfl,(h.oldS s1)⟩ ⟨_,_,rfl,(h.oldS s2)⟩) Z fun u _ S5 W R h F=>X0 5 Z (qq qa [] _ ([]:List Int) h Z Z Z Z Z Z Z Z Z trivial Z fun _ _ _ h=>X0 7 Z ?_)));obtain⟨o2,F,hK2⟩:=qc F;refine qm (rL (fun m e w'=>∃N s p l c M L,qdN a_0 r1 u m c M L=V o2/\e=[(0,vi a_0),(1,oS p1 a_1.length O),(2,oS S a_2.length P),(7,oS d b.length k3),(8,oS f a.length a.length),(9,vi v),(10,oS T r1.length Q),(11,oS W u.length R),(12,oS s p l),(13,vi L)]/\SH w w' [oW N (c:List Int) [oS s p l],oW S5 (u:List Bool) [oS W u.length R],oW S4 (r1:List Bool) [oS T r1.length Q],oW S2 (M:List Bool) [oS f a.length a.length],oW x (b:List (List Int)) [oS d b.length k3]]) m1 ⟨_,_,_,_,_,_,_,F,rfl,h⟩ Z ?_);rintro m2 _ _ ⟨N,s,p,l,c,M,L,F,rfl,h⟩;obtain rfl:=(h.sl 0 Z).2;rcases m2 with _|m2
  ·cases F
  refine X0 7 Z (qk Z F ?_ ?_)<;>intro F
  ·refine X0 4 Z ?_;obtain⟨X,A,_,F,y⟩:=bindE F;refine qay (fun e w'=>∃b2,X b2=V o2/\e=[(0,vi a_0),(1,oS p1 a_1.length O),(2,oS S a_2.length P),(7,oS d b.length k3),(8,oS f a.length a.length),(9,vi v),(10,oS T r1.length Q),(11,oS W u.length R),(12,oS s c.length l),(13,vi L),(51,.bool b2)]/\SH w w' [oW N (c:List Int) [oS s c.length l],oW S5 (u:List Bool) [oS W u.length R],oW S4 (r1:List Bool) [oS T r1.length Q],oW S2 (M:List Bool) [oS f a.length a.length],oW x (b:List (List Int)) [oS d b.length k3]]) ?_ ?_
   ·refine X0 3 Z ?_;obtain⟨_,_,F,H,_,_,_,_,hp3,hq3,rfl,hc7⟩:=(h.sl 2 Z).1.ix F;refine zx hp3 hq3 ⟨H.1,qD H.2.1 (h.sl 2 Z).2⟩ Z (zc 0 hc7 Z (zp1 Z (qg (t:=46) F Z ?_ ?_)))<;>intro F
    ·refine X0 5 Z ?_;obtain⟨_,_,F,I,_,_,_,_,hp4,hq4,rfl,hc8⟩:=(h.sl 1 Z).1.ix F;refine zx hp4 hq4 ⟨I.1,qD I.2.1 (h.sl 1 Z).2⟩ Z (X0 1 Z (zc 0 hc8 Z (X0 2 Z ?_)));obtain rfl:=qb F;exact rG ⟨_,y,rfl,h⟩ Z
    refine X0 6 Z ?_;obtain rfl:=qb F;exact rG ⟨_,y,rfl,h⟩ Z
   rintro _ _ ⟨b2,F,rfl,h⟩;subst A;refine qk Z F ?_ ?_<;>intro F
   ·refine X0 4 Z (qq qa [.tmp 53] _ ([L]:List Int) h Z Z Z Z Z Z Z Z Z ⟨rfl,G⟩ Z fun _ _ _ h=>?_);obtain⟨_,i,F⟩:=qc F;obtain⟨g3,i⟩:=qE i;refine qaB qa 1 h Z (h.sl 0 Z).1 (h.sl 0 Z).2 Z Z Z Z Z Z Z Z Z g3 i Z fun _ _ _ _ h=>X0 5 Z ?_;obtain⟨_,hy2,F,D,_,_,_,_,J,K,rfl,hc6⟩:=(h.sl 4 Z).1.ix F;refine zx J K ⟨D.1,qD D.2.1 (h.sl 4 Z).2⟩ Z (qaV qa 4 0 true h Z hy2 J K Z hc6 Z Z Z Z Z Z Z fun _ h=>X0 7 Z ?_);replace h:=h.p [1,2,3,4,5] Z;exact rK ⟨_,_,_,_,_,_,_,F,rfl,h⟩ Z
   exact X0 7 Z (rK ⟨_,_,_,_,_,_,_,F,rfl,h⟩ Z)
  refine qv Z ?_;obtain rfl:=qb F;replace F:=hK2;refine qcn ?_;obtain⟨Y,B,_,F,z⟩:=bindE F;refine qay (fun e w'=>∃b6,Y b6=V o1/\e=[(0,vi a_0),(1,oS p1 a_1.length O),(2,oS S a_2.length P),(7,oS d b.length k3),(8,oS f a.length a.length),(9,vi v),(12,oS s c.length l),(67,.bool b6)]/\SH w w' [oW N (c:List Int) [oS s c.length l],oW S2 (M:List Bool) [oS f a.length a.length],oW x (b:List (List Int)) [oS d b.length k3]]) ?_ ?_
  ·refine X0 5 Z (qg (t:=62) F Z ?_ ?_)<;>intro F
   ·refine X0 6 Z ?_;replace h:=h.p [0,3,4] Z;obtain rfl:=qb F;exact rG ⟨_,z,rfl,h⟩ Z
   refine X0 7 Z (zcB h F (qpy ⟨_,_,rfl,(h.oldS s1)⟩ ⟨_,_,rfl,(h.oldS s2)⟩) Z fun _ _ h F=>X0 2 Z ?_);replace h:=h.p [0,3,4] Z;obtain rfl:=qb F;exact rG ⟨_,z,rfl,h⟩ Z
  rintro _ _ ⟨b6,F,rfl,h⟩;subst B;refine qk Z F ?_ ?_<;>intro F
  ·refine X0 3 Z (qeU qa [.tmp 69] _ ([c]:List (List Int)) [1,2] h Z Z Z Z Z Z Z Z Z (qc9 (qL 0 h Z) qhM Z) Z Z fun _ _ _ h=>?_);obtain⟨_,k,F⟩:=qc F;obtain⟨g4,k⟩:=qE k;replace h:=h.p [0,2,1] Z;refine qnp qa h Z Z Z Z Z Z Z Z Z g4 k Z fun _ _ _ _ h=>X0 8 Z ?_;replace h:=h.p [1,0] Z;exact rK ⟨_,_,_,_,_,_,_,F,rfl,h⟩ Z
  refine X0 7 Z ?_;replace h:=h.p [1,2] Z;exact rK ⟨_,_,_,_,_,_,_,F,rfl,h⟩ Z
 refine qv Z ?_;obtain rfl:=qb F;replace F:=hK1;refine X0 5 Z ?_;obtain rfl:=qb F;exact rO 1 h Z ⟨rfl,G⟩
def qdU(b:(List Bool))(c:(List Bool)):Nat->(List Int)->Int->Option ((List Int)×Int)|0,_,_=>U|n+1,d,a=>bif decide (a<(b.length:Int)) then(idx c a).bind fun g=>bif (!g) then(appS d ([a]:List Int)).bind fun f=>qdU b c n f (W64 (a+1)) else qdU b c n d (W64 (a+1)) else V (d,a)
def qbw(r1:(List qt))(c:(List Bool))(b:(List (List Int))):Nat->Int->Int->Option (Int×Int)|0,_,_=>U|n+1,d,a=>bif decide (a<(r1.length:Int)) then(idx c a).bind fun h=>bif h then(idx r1 a).bind fun i=>bif (i.Be==1) then(idx b 0).bind fun k=>(idx r1 a).bind fun l=>(qiB n k l.Bl).bind fun f=>bif f then(idx b 0).bind fun m=>(idx r1 a).bind fun o=>(qiB n m o.To).bind fun g=>bif g then qbw r1 c b n a (W64 (a+1)) else qbw r1 c b n d (W64 (a+1)) else qbw r1 c b n d (W64 (a+1)) else qbw r1 c b n d (W64 (a+1)) else qbw r1 c b n d (W64 (a+1)) else V (d,a)
def qgg(r1:(List qt))(c:Int):Nat->(List Bool)->Option (List Bool)|0,_=>U|n+1,a=>(qjt n c r1 a).bind fun d=>bif ((d.length:Int)==0) then V a else(qbw r1 a d n (-1) 0).bind fun(b,_)=>(idx a b).bind fun _=>qgg r1 c n (setS a b false)
def qjw(n:Nat)(a_0:qe):Option (List Int):=(qdZ n a_0).bind fun r1=>(qgn n r1 ([]:List Int)).bind fun a=>(qcz n a_0).bind fun b=>(qgg r1 b n a).bind fun c=>(qdU a c n ([]:List Int) 0).bind fun(d,_)=>V d
theorem qo4{a_0:qe}(b:Ro w a_0 cs1){r:(List Int)}(F:qjw n a_0=V r):RetV prog 155 [oV qe cs1] w r:=by
 obtain⟨_,_,_,_,_,_,_,_,_,_,rfl,_,_,_,_,_⟩:=qO b;refine zV 86 func155 Z fun h=>zSR (qC h Z Z fun _ _ h=>X1 5 0 h Z (zcL h F (qdS (h.old b)) Z fun r1 _ S1 R Q h F=>X0 5 Z (qq qa [] _ ([]:List Int) h Z Z Z Z Z Z Z Z Z trivial Z fun _ _ _ h=>zcL h F (qfr (h.own 1 Z) (h.own 0 Z)) Z fun g _ T l k h F=>X1 5 3 h Z (zcI h F (qeW (h.old b)) Z fun r3 _ h F=>X0 3 Z ?_))));obtain⟨o1,F,W⟩:=qc F;refine qm ?_;replace h:=h.p [0,2] Z;refine rL (fun m e w'=>∃i,qgg r1 r3 m i=V o1/\e=[(3,oS R r1.length Q),(4,oS l g.length k),(5,vi r3)]/\SH w w' [oW T (i:List Bool) [oS l g.length k],oW S1 (r1:List qt) [oS R r1.length Q]]) n ⟨_,F,rfl,h⟩ Z ?_;rintro m1 _ _ ⟨i,F,rfl,h⟩;rcases m1 with _|m1
 ·cases F
 refine X0 6 Z (zcL h F (qoU (h.own 1 Z) (h.own 0 Z)) Z fun S _ S4 p9 k8 h F=>X0 9 Z (qk Z F ?_ ?_))<;>intro F
 ·refine qv Z ?_;obtain rfl:=qb F;replace F:=W;refine zSR (qq qa [] _ ([]:List Int) h Z Z Z Z Z Z Z Z Z trivial Z fun _ _ _ h=>X0 7 Z ?_);obtain⟨o2,F,X⟩:=qc F;refine qm ?_;replace h:=h.p [0,2] Z;refine rL (fun m e w'=>∃S6 f d k9 x2 P,qdU g i m x2 P=V o2/\e=[(4,oS l g.length k),(9,oS f d k9),(10,vi P)]/\SH w w' [oW S6 (x2:List Int) [oS f d k9],oW T (i:List Bool) [oS l g.length k]]) n ⟨_,_,_,_,_,_,F,rfl,h⟩ Z ?_;rintro m2 _ _ ⟨S6,f,d,k9,x2,P,F,rfl,h⟩;obtain rfl:=(h.sl 0 Z).2;rcases m2 with _|m2
  ·cases F
  refine X0 8 Z (qk Z F ?_ ?_)<;>intro F
  ·refine X0 7 Z ?_;obtain⟨_,_,F,u,_,_,_,_,a8,b9,rfl,a3⟩:=(h.sl 1 Z).1.ix F;refine zx a8 b9 ⟨u.1,qD u.2.1 (h.sl 1 Z).2⟩ Z (zc 0 a3 Z (X0 2 Z (qk Z F ?_ ?_)))<;>intro F
   ·refine X0 3 Z (qq qa [.tmp 82] _ ([P]:List Int) h Z Z Z Z Z Z Z Z Z ⟨rfl,G⟩ Z fun _ _ _ h=>?_);obtain⟨_,c,F⟩:=qc F;obtain⟨g1,c⟩:=qE c;refine qaB qa 1 h Z (h.sl 0 Z).1 (h.sl 0 Z).2 Z Z Z Z Z Z Z Z Z g1 c Z fun _ _ _ _ h=>X0 8 Z ?_;replace h:=h.p [1,2] Z;exact rK ⟨_,_,_,_,_,_,F,rfl,h⟩ Z
   exact X0 7 Z (rK ⟨_,_,_,_,_,_,F,rfl,h⟩ Z)
  refine qv Z ?_;obtain rfl:=qb F;replace F:=X;refine X0 5 Z ?_;obtain rfl:=qb F;exact rO 0 h Z ⟨rfl,G⟩
 refine X0 10 Z ?_;obtain⟨o3,F,Y⟩:=qc F;refine qm (rL (fun m e w'=>∃i2 i3,qbw r1 i S m i2 i3=V o3/\e=[(3,oS R r1.length Q),(4,oS l g.length k),(5,vi r3),(6,oS p9 S.length k8),(7,vi i2),(8,vi i3)]/\SH w w' [oW S4 (S:List (List Int)) [oS p9 S.length k8],oW T (i:List Bool) [oS l g.length k],oW S1 (r1:List qt) [oS R r1.length Q]]) m1 ⟨_,_,F,rfl,h⟩ Z ?_);rintro m3 _ _ ⟨i2,i3,F,rfl,h⟩;rcases m3 with _|m3
 ·cases F
 refine X0 8 Z (qk Z F ?_ ?_)<;>intro F
 ·refine X0 4 Z (rD (zd2 Z ?_));obtain⟨_,_,F,v,_,_,_,_,a9,c0,rfl,a4⟩:=(h.sl 1 Z).1.ix F;refine zdx a9 c0 ⟨v.1,qD v.2.1 (h.sl 1 Z).2⟩ Z (zdc 0 a4 Z (zd1 Z (qaC (t:=35) F Z ?_ ?_)))<;>intro F
  ·refine Y0 5 Z ?_;obtain⟨_,_,F,x,_,_,_,_,b4,c2,c7,a5⟩:=(h.sl 2 Z).1.ix F;obtain rfl:=qac c7;refine zdx b4 c2 ⟨x.1,qD x.2.1 (h.sl 2 Z).2⟩ Z (Y0 3 Z (zdc 2 a5 Z (Y0 4 Z (qaC (t:=43) F Z ?_ ?_))))<;>intro F
   ·refine Y0 3 Z ?_;obtain⟨_,O,F⟩:=qc F;have y:=qbB O;replace h:=h.lrn0 0 Z;obtain⟨_,o_4,_,_,b5,c3,-,N,a6⟩:=(qmr (h.lrnO 0 Z)).1.at O;have c8:=N;obtain⟨_,_,rfl,_⟩:=N;replace h:=h.lrnAdd 0 Z c8;refine zdx b5 c3 ⟨y.1,qD y.2.1 (qmr (h.lrnO 0 Z)).2⟩ Z (Y0 1 Z (zdc 0 a6 Z (Y0 5 Z ?_)));obtain⟨_,_,F,z,_,_,_,_,b6,c4,I,a7⟩:=(h.sl 2 Z).1.ix F;obtain rfl:=qac I;refine zdx b6 c4 ⟨z.1,qD z.2.1 (h.sl 2 Z).2⟩ Z (Y0 3 Z (zdc 0 a7 Z (Y0 1 Z ?_)));obtain⟨r5,J,F⟩:=qc F;refine qbK r5 (vsB _) (cB 90 Z) (fun _ hb=>qkQ (GoT.mono ((h.ext hb).lrnS 0 0 Z Z) ((h.ext hb).lrnB 0 Z)) J) Z Z Z Z (zd2 Z (qaC (t:=54) F Z ?_ ?_))<;>intro F
    ·refine Y0 3 Z ?_;obtain⟨_,_,F,A,_,_,_,_,b7,c5,a,o⟩:=(qmr (h.lrnO 0 Z)).1.ix F;have K:=a;obtain⟨_,_,rfl,_⟩:=a;replace h:=h.lrnAdd 0 Z K;refine zdx b7 c5 ⟨A.1,qD A.2.1 (qmr (h.lrnO 0 Z)).2⟩ Z (Y0 1 Z (zdc 0 o Z (Y0 5 Z ?_)));obtain⟨_,_,F,B,_,_,_,_,b8,c6,L,p⟩:=(h.sl 2 Z).1.ix F;obtain rfl:=qac L;refine zdx b8 c6 ⟨B.1,qD B.2.1 (h.sl 2 Z).2⟩ Z (Y0 3 Z (zdc 1 p Z (Y0 1 Z ?_)));obtain⟨r6,M,F⟩:=qc F;refine qbK r6 (vsB _) (cB 90 Z) (fun _ hb=>qkQ (GoT.mono ((h.ext hb).lrnS 0 0 Z Z) ((h.ext hb).lrnB 0 Z)) M) Z Z Z Z (zd1 Z (dN h fun _ h=>qk Z F ?_ ?_))<;>intro F
     ·refine X0 10 Z ?_;replace h:=h.unlrn 0 Z;exact rK ⟨_,_,F,rfl,h⟩ Z
     refine X0 7 Z ?_;replace h:=h.unlrn 0 Z;exact rK ⟨_,_,F,rfl,h⟩ Z
    refine Y0 10 Z (dN h fun _ h=>qbe Z Z (X0 7 Z ?_));replace h:=h.unlrn 0 Z;exact rK ⟨_,_,F,rfl,h⟩ Z
   exact Y0 21 Z (dN h fun _ h=>qbe Z Z (X0 7 Z (rK ⟨_,_,F,rfl,h⟩ Z)))
  exact Y0 29 Z (dN h fun _ h=>qbe Z Z (X0 7 Z (rK ⟨_,_,F,rfl,h⟩ Z)))
 refine qv Z ?_;obtain rfl:=qb F;replace F:=Y;refine X0 3 Z ?_;obtain⟨_,c9,F,C,_,_,_,_,D,H,rfl,s⟩:=(h.sl 1 Z).1.ix F;refine zx D H ⟨C.1,qD C.2.1 (h.sl 1 Z).2⟩ Z (qaV qa 1 0 false h Z c9 D H Z s Z Z Z Z Z Z Z fun _ h=>zNE ?_);replace h:=h.p [1,2] Z;exact rK ⟨_,F,rfl,h⟩ Z

def qbQ(a_0:Tl01Source)(A:Int)(b1:Bool):Nat->(List qi)->Int->Int->Int->Option ((List qi)×Int×Int×Int)|0,_,_,_,_=>U|n+1,D,B,C,d=>bif decide (d<2) then(bif b1 then(ql n (⟨a_0.code,B,C⟩:Tl01Source) 8).bind fun(s,b,c)=>bif decide (s > 0) then V (b,c,true) else(ql n (⟨a_0.code,b,c⟩:Tl01Source) 24).bind fun(t,u,v)=>V (u,v,(t==0)) else(ql n (⟨a_0.code,B,C⟩:Tl01Source) 24).bind fun(x,y,z)=>V (y,z,(x==0))).bind fun(F,i8,b2)=>bif b2 then(ql n (⟨a_0.code,F,i8⟩:Tl01Source) 200).bind fun(H,f,g)=>(ql n (⟨a_0.code,f,g⟩:Tl01Source) 30).bind fun(a,h,i)=>(ql n (⟨a_0.code,h,i⟩:Tl01Source) 40).bind fun(k,i16,l)=>(ql n (⟨a_0.code,i16,l⟩:Tl01Source) 12).bind fun(m,p,r)=>(appS D ([(⟨W64 ((W64 (2*A))+d),(⟨W64 (H-50),W64 ((W64 (H-50))+k)⟩:qf),(⟨a,W64 (a+m)⟩:qf)⟩:qi)]:List qi)).bind fun I=>qbQ a_0 A b1 n I p r (W64 (d+1)) else qbQ a_0 A b1 n D F i8 (W64 (d+1)) else V (D,B,C,d)
def qck(a_0:Tl01Source)(b:(List Tl05Place)):Nat->(List qi)->Int->Int->Int->Option ((List qi)×Int×Int×Int)|0,_,_,_,_=>U|n+1,f,c,d,a=>bif decide (a<(b.length:Int)) then((idx b a).bind fun k=>bif decide (k.instance_<0) then(idx b a).bind fun l=>V l.drives else V false).bind fun b1=>(qbQ a_0 a b1 n f c d 0).bind fun(i,g,h,_)=>qck a_0 b n i g h (W64 (a+1)) else V (f,c,d,a)
def qey(n:Nat)(a_0:Tl01Source)(a_1:qe):Option ((List qi)×Int×Int):=(qdW n a_1).bind fun r1=>bif (!r1) then V (([]:List qi),a_0.at_,a_0.seed) else(qce n (⟨a_1.Aa.Ab,a_1.Aa.Ak,a_1.Aa.Aj⟩:qh)).bind fun p=>(qck a_0 p n ([]:List qi) a_0.at_ a_0.seed 0).bind fun(b,h,i,_)=>bif decide ((b.length:Int) > 0) then(ql n (⟨a_0.code,h,i⟩:Tl01Source) (b.length:Int)).bind fun(a,g,i32)=>(ql n (⟨a_0.code,g,i32⟩:Tl01Source) 30).bind fun(f,c,d)=>bif (f==0) then(idx b 0).bind fun r=>(idx b a).bind fun s=>V ((setS b a ({ s with Bm:=r.Bm })),c,d) else bif (f==1) then(idx b a).bind fun t=>(idx b a).bind fun k=>V ((setS b a ({ k with Ah:={ k.Ah with Ar:=W64 (t.Ah.Bd+1) } })),c,d) else bif (f==2) then(idx b a).bind fun l=>V ((setS b a ({ l with Ba:={ l.Ba with Ar:=(-1) } })),c,d) else bif (f==3) then(idx b a).bind fun m=>V ((setS b a ({ m with Ah:={ m.Ah with Bd:=1000000000 } })),c,d) else V (b,c,d) else V (b,h,i)
theorem qiD{n b w F}{a_0:Tl01Source}{a p1 c}{a_1:qe}{cs1}(p:SH b w (xb a a_0 p1 c a_0.at_ a_0.seed::F))(ha1:GoT.R w (Fr b F) a_0 (qR a_0 p1 c))(I:GoT.R w (Fr b F) a_1 cs1){r:((List qi)×Int×Int)}(hF:qey n a_0 a_1=V r):RetW prog 156 [vp a,oV qe cs1] w (fun us w'=>∃S1 cs2,us=[oV (List qi) cs2]/\SH b w' (oW S1 (r.1:(List qi)) cs2::xb a a_0 p1 c r.2.1 r.2.2::F)):=by
 have h:=SH.frm1 p ha1;have hz1:=I;obtain⟨p2,k2,p3,k3,p4,k4,p5,k5,p6,k6,rfl,_,_,_,_,_⟩:=qO I;replace h:=h.grpAdd 1 Z hz1;replace h:SH _ _ [xb a a_0 p1 c a_0.at_ a_0.seed,oG (old b) (FS F) [fct (a_1:qe) (qG a_1 p2 p3 p4 p5 p6 k2 k3 k4 k5 k6),fct (a_0:Tl01Source) (qR a_0 p1 c),same b w F]]:=h;refine qbf func156 Z (m:=128) Z Z (zSR (qC h Z Z fun _ _ h=>X0 4 Z (qq qa [] _ ([]:List qi) h Z Z Z Z Z Z Z Z Z trivial Z fun _ p7 _ h=>X1 6 1 h Z (zcB h hF (qfo (h.grp 3 0 Z Z)) Z fun _ _ h hF=>X0 2 Z (qk Z hF ?_ ?_)))))<;>intro hF
 ·refine X0 5 Z ?_;obtain rfl:=qb hF;replace h:=h.p [0,2,3] Z;exact qaM qa [oV (List qi) [oS p7 0 0]] ⟨rfl,G⟩ ⟨_,_,rfl,SH.unfr 1 2 p h Z Z⟩
 refine X1 5 1 h Z (zcL h hF (qb4 ⟨[oS p3 a_1.Aa.Ab.length k3],[oS p4 a_1.Aa.Ak.length k4,oS p5 a_1.Aa.Aj.length k5],rfl,⟨_,_,rfl,(qcG (h.grp 3 0 Z Z)).2.1.1⟩,⟨[oS p4 a_1.Aa.Ak.length k4],[oS p5 a_1.Aa.Aj.length k5],rfl,⟨_,_,rfl,(qcG (h.grp 3 0 Z Z)).2.2.1.1⟩,⟨_,_,rfl,(qcG (h.grp 3 0 Z Z)).2.2.2.1.1⟩⟩⟩) Z fun d _ S3 u s h hF=>X0 7 Z ?_);replace h:=h.grpKeep [1,2] 4 Z;obtain⟨o1,hF,hK1⟩:=qc hF;refine qm ?_;replace h:=h.p [0,1,3,4] Z;refine rL (fun m e w'=>∃S4 k y g f i1 i2 o,qck a_0 d m f i1 i2 o=V o1/\e=[(0,vp a),(5,oS k y g),(6,oS u d.length s),(7,vi o)]/\SH b w' [oW S3 (d:List Tl05Place) [oS u d.length s],oW S4 (f:List qi) [oS k y g],xb a a_0 p1 c i1 i2,xf b w F a_0 p1 c]) n ⟨_,_,_,_,_,_,_,_,hF,rfl,h⟩ Z ?_;rintro m1 _ _ ⟨S4,k,y,g,f,i1,i2,o,hF,rfl,h⟩;obtain rfl:=(h.sl 1 Z).2;rcases m1 with _|m1
 ·cases hF
 refine X0 8 Z (qk Z hF ?_ ?_)<;>intro hF
 ·refine X0 4 Z ?_;obtain⟨KF2,H,_,hF,C⟩:=bindE hF;refine qay (fun e w'=>∃b1,KF2 b1=V o1/\e=[(0,vp a),(5,oS k f.length g),(6,oS u d.length s),(7,vi o),(8,.bool b1)]/\SH b w' [oW S3 (d:List Tl05Place) [oS u d.length s],oW S4 (f:List qi) [oS k f.length g],xb a a_0 p1 c i1 i2,xf b w F a_0 p1 c]) ?_ ?_
  ·refine X0 3 Z ?_;obtain⟨_,_,hF,O,_,_,_,_,hp1,hq1,b4,hc5⟩:=(h.sl 0 Z).1.ix hF;obtain rfl:=qby b4;refine zx hp1 hq1 ⟨O.1,qD O.2.1 (h.sl 0 Z).2⟩ Z (zp1 Z (zc 0 hc5 Z (zp2 Z (qg (t:=33) hF Z ?_ ?_))))<;>intro hF
   ·refine X0 5 Z ?_;obtain⟨_,_,hF,P,_,_,_,_,hp2,hq2,b5,hc6⟩:=(h.sl 0 Z).1.ix hF;obtain rfl:=qby b5;refine zx hp2 hq2 ⟨P.1,qD P.2.1 (h.sl 0 Z).2⟩ Z (X0 3 Z (zc 3 hc6 Z (X0 3 Z ?_)));obtain rfl:=qb hF;exact rG ⟨_,C,rfl,h⟩ Z
   refine X0 8 Z ?_;obtain rfl:=qb hF;exact rG ⟨_,C,rfl,h⟩ Z
  rintro _ _ ⟨b1,hF,rfl,h⟩;subst H;refine X0 4 Z ?_;obtain⟨o2,hF,hK2⟩:=qc hF;refine qm (rL (fun m e w'=>∃S5 i z k9 B i4 i5 A,qbQ a_0 o b1 m B i4 i5 A=V o2/\e=[(0,vp a),(5,oS i z k9),(6,oS u d.length s),(7,vi o),(8,.bool b1),(9,vi A)]/\SH b w' [oW S3 (d:List Tl05Place) [oS u d.length s],oW S5 (B:List qi) [oS i z k9],xb a a_0 p1 c i4 i5,xf b w F a_0 p1 c]) m1 ⟨_,_,_,_,_,_,_,_,hF,rfl,h⟩ Z ?_);rintro m2 _ _ ⟨S5,i,z,k9,B,i4,i5,A,hF,rfl,h⟩;obtain rfl:=(h.sl 1 Z).2;rcases m2 with _|m2
  ·cases hF
  refine X0 6 Z (qk Z hF ?_ ?_)<;>intro hF
  ·refine X0 4 Z ?_;obtain⟨KF1,D,_,hF,v⟩:=bindE hF;refine qay (fun e w'=>∃i7 i8 b2,KF1 (i7,i8,b2)=V o2/\e=[(0,vp a),(5,oS i B.length k9),(6,oS u d.length s),(7,vi o),(8,.bool b1),(9,vi A),(54,.bool b2)]/\SH b w' [xb a a_0 p1 c i7 i8,oW S3 (d:List Tl05Place) [oS u d.length s],oW S5 (B:List qi) [oS i B.length k9],xf b w F a_0 p1 c]) ?_ ?_
   ·refine X0 3 Z (qg (t:=45) hF Z ?_ ?_)<;>intro hF
    ·refine X0 3 Z ?_;replace h:=h.p [2,0,1,3] Z;obtain⟨⟨_,_,_⟩,hr7,hF⟩:=qc hF;refine nxC h ((qd (h.frG 3 0 1 Z Z Z)).1) hr7 Z Z Z fun _ h=>X0 4 Z (qg (t:=50) hF Z ?_ ?_)<;>intro hF
     ·refine X0 5 Z ?_;obtain rfl:=qb hF;exact rG ⟨_,_,_,v,rfl,h⟩ Z
     refine X0 3 Z ?_;obtain⟨⟨_,_,_⟩,hr8,hF⟩:=qc hF;refine nxC h ((qd (h.frG 3 0 1 Z Z Z)).1) hr8 Z Z Z fun _ h=>X0 4 Z ?_;obtain rfl:=qb hF;exact rG ⟨_,_,_,v,rfl,h⟩ Z
    refine X0 8 Z ?_;replace h:=h.p [2,0,1,3] Z;obtain⟨⟨_,_,_⟩,hr9,hF⟩:=qc hF;refine nxC h ((qd (h.frG 3 0 1 Z Z Z)).1) hr9 Z Z Z fun _ h=>X0 4 Z ?_;obtain rfl:=qb hF;exact rG ⟨_,_,_,v,rfl,h⟩ Z
   rintro _ _ ⟨i7,i8,b2,hF,rfl,h⟩;subst D;refine qk Z hF ?_ ?_<;>intro hF
   ·refine X0 3 Z ?_;obtain⟨⟨i9,_,_⟩,hr3,hF⟩:=qc hF;refine nxC h ((qd (h.frG 3 0 1 Z Z Z)).1) hr3 Z Z Z fun _ h=>zp2 Z ?_;obtain⟨⟨l,_,_⟩,hr4,hF⟩:=qc hF;refine nxC h ((qd (h.frG 3 0 1 Z Z Z)).1) hr4 Z Z Z fun _ h=>X0 12 Z ?_;obtain⟨⟨c5,_,_⟩,hr5,hF⟩:=qc hF;refine nxC h ((qd (h.frG 3 0 1 Z Z Z)).1) hr5 Z Z Z fun _ h=>zp1 Z (r_v (qA qa [0,1] [.tmp 65,.tmp 69] Z Z Z Z Z Z Z Z) Z (zp3 Z ?_));obtain⟨⟨c6,_,_⟩,hr6,hF⟩:=qc hF;refine nxC h ((qd (h.frG 3 0 1 Z Z Z)).1) hr6 Z Z Z fun _ h=>zp1 Z (r_v (qA qa [0,1] [.tmp 71,.tmp 75] Z Z Z Z Z Z Z Z) Z (r_v (qA qa [0,1,2] [.tmp 64,.tmp 70,.tmp 76] Z Z Z Z Z Z Z Z) Z (qq qa [.tmp 77] _ ([(⟨W64 ((W64 (2*o))+A),(⟨W64 (i9-50),W64 ((W64 (i9-50))+c5)⟩:qf),(⟨l,W64 (l+c6)⟩:qf)⟩:qi)]:List qi) h Z Z Z Z Z Z Z Z Z ⟨(qbM (⟨W64 ((W64 (2*o))+A),(⟨W64 (i9-50),W64 ((W64 (i9-50))+c5)⟩:qf),(⟨l,W64 (l+c6)⟩:qf)⟩:qi)),G⟩ Z fun _ _ _ h=>?_)));obtain⟨_,x,hF⟩:=qc hF;obtain⟨g1,x⟩:=qE x;refine qaB qa 3 h Z (h.sl 0 Z).1 (h.sl 0 Z).2 Z Z Z Z Z Z Z Z Z g1 x Z fun _ _ _ _ h=>X0 8 Z ?_;replace h:=h.p [2,3,1,4] Z;exact rK ⟨_,_,_,_,_,_,_,_,hF,rfl,h⟩ Z
   refine X0 7 Z ?_;replace h:=h.p [1,2,0,3] Z;exact rK ⟨_,_,_,_,_,_,_,_,hF,rfl,h⟩ Z
  refine qv Z ?_;obtain rfl:=qb hF;replace hF:=hK2;exact X0 6 Z (rK ⟨_,_,_,_,_,_,_,_,hF,rfl,h⟩ Z)
 refine qv Z ?_;obtain rfl:=qb hF;replace hF:=hK1;refine X0 7 Z (qk Z hF ?_ ?_)<;>intro hF
 ·refine X0 5 Z ?_;replace h:=h.p [2,0,1,3] Z;obtain⟨⟨_,_,_⟩,b6,hF⟩:=qc hF;refine nxC h ((qd (h.frG 3 0 1 Z Z Z)).1) b6 Z Z Z fun _ h=>X0 5 Z ?_;obtain⟨⟨_,_,_⟩,b7,hF⟩:=qc hF;refine nxC h ((qd (h.frG 3 0 1 Z Z Z)).1) b7 Z Z Z fun _ h=>X0 7 Z (qk Z hF ?_ ?_)<;>intro hF
  ·refine X0 4 Z ?_;obtain⟨y3,_,hF,Q,_,_,_,_,hp3,hq3,b8,hc9⟩:=(h.sl 2 Z).1.ix hF;obtain rfl:=qT b8;refine zx hp3 hq3 ⟨Q.1,qD Q.2.1 (h.sl 2 Z).2⟩ Z (zp1 Z (zc 0 hc9 Z ?_));obtain⟨y4,hy4,hF,R,_,_,_,_,Y,a6,b9,J⟩:=(h.sl 2 Z).1.ix hF;obtain rfl:=qT b9;refine zx Y a6 ⟨R.1,qD R.2.1 (h.sl 2 Z).2⟩ Z (zp1 Z (qaV qa 2 0 ({ y4 with Bm:=y3.Bm }:qi) h Z hy4 Y a6 (qbM y4) J Z Z Z (qbM ({ y4 with Bm:=y3.Bm })) Z Z Z fun _ h=>X0 7 Z ?_));obtain rfl:=qb hF;replace h:=h.p [2,0,3] Z;exact qaM qa [oV (List qi) [oS k f.length g]] ⟨rfl,G⟩ ⟨_,_,rfl,SH.unfr 1 1 p h Z Z⟩
  refine X0 5 Z (qk Z hF ?_ ?_)<;>intro hF
  ·refine X0 5 Z ?_;obtain⟨y5,_,hF,S,_,_,_,_,hp5,hq5,c0,K⟩:=(h.sl 2 Z).1.ix hF;obtain rfl:=qT c0;refine zx hp5 hq5 ⟨S.1,qD S.2.1 (h.sl 2 Z).2⟩ Z (zp2 Z (zc 2 K Z (zp1 Z ?_)));obtain⟨y6,hy6,hF,T,_,_,_,_,a3,a7,c2,L⟩:=(h.sl 2 Z).1.ix hF;obtain rfl:=qT c2;refine zx a3 a7 ⟨T.1,qD T.2.1 (h.sl 2 Z).2⟩ Z (zp2 Z (qaV qa 2 1 ({ y6 with Ah:={ y6.Ah with Ar:=W64 (y5.Ah.Bd+1) } }:qi) h Z hy6 a3 a7 (qbM y6) L Z Z Z (qbM ({ y6 with Ah:={ y6.Ah with Ar:=W64 (y5.Ah.Bd+1) } })) Z Z Z fun _ h=>X0 7 Z ?_));obtain rfl:=qb hF;replace h:=h.p [2,0,3] Z;exact qaM qa [oV (List qi) [oS k f.length g]] ⟨rfl,G⟩ ⟨_,_,rfl,SH.unfr 1 1 p h Z Z⟩
  refine X0 5 Z (qk Z hF ?_ ?_)<;>intro hF
  ·refine X0 3 Z ?_;obtain⟨y7,hy7,hF,W,_,_,_,_,a4,a8,c3,M⟩:=(h.sl 2 Z).1.ix hF;obtain rfl:=qT c3;refine zx a4 a8 ⟨W.1,qD W.2.1 (h.sl 2 Z).2⟩ Z (zp2 Z (qaV qa 2 3 ({ y7 with Ba:={ y7.Ba with Ar:=(-1) } }:qi) h Z hy7 a4 a8 (qbM y7) M Z Z Z (qbM ({ y7 with Ba:={ y7.Ba with Ar:=(-1) } })) Z Z Z fun _ h=>X0 7 Z ?_));obtain rfl:=qb hF;replace h:=h.p [2,0,3] Z;exact qaM qa [oV (List qi) [oS k f.length g]] ⟨rfl,G⟩ ⟨_,_,rfl,SH.unfr 1 1 p h Z Z⟩
  refine X0 5 Z (qk Z hF ?_ ?_)<;>intro hF
  ·refine X0 3 Z ?_;obtain⟨y8,hy8,hF,X,_,_,_,_,a5,a9,c4,N⟩:=(h.sl 2 Z).1.ix hF;obtain rfl:=qT c4;refine zx a5 a9 ⟨X.1,qD X.2.1 (h.sl 2 Z).2⟩ Z (zp2 Z (qaV qa 2 2 ({ y8 with Ah:={ y8.Ah with Bd:=1000000000 } }:qi) h Z hy8 a5 a9 (qbM y8) N Z Z Z (qbM ({ y8 with Ah:={ y8.Ah with Bd:=1000000000 } })) Z Z Z fun _ h=>X0 7 Z ?_));obtain rfl:=qb hF;replace h:=h.p [2,0,3] Z;exact qaM qa [oV (List qi) [oS k f.length g]] ⟨rfl,G⟩ ⟨_,_,rfl,SH.unfr 1 1 p h Z Z⟩
  refine X0 7 Z ?_;obtain rfl:=qb hF;replace h:=h.p [2,0,3] Z;exact qaM qa [oV (List qi) [oS k f.length g]] ⟨rfl,G⟩ ⟨_,_,rfl,SH.unfr 1 1 p h Z Z⟩
 refine X0 6 Z ?_;obtain rfl:=qb hF;replace h:=h.p [1,2,3] Z;exact qaM qa [oV (List qi) [oS k f.length g]] ⟨rfl,G⟩ ⟨_,_,rfl,SH.unfr 1 1 p h Z Z⟩
def qhN(n:Nat)(s:Tl01Source):Option (qe×qu×(List Int)×(List qi)×Int×Int):=(qgV n (⟨s.code,s.at_,s.seed⟩:Tl01Source)).bind fun(r1,y,z)=>(qgH n (⟨s.code,y,z⟩:Tl01Source)).bind fun(v,A,B)=>(ql n (⟨s.code,A,B⟩:Tl01Source) 3).bind fun(C,t,u)=>(bif (C==0) then(qeD n (⟨s.code,t,u⟩:Tl01Source) 5 true).bind fun(K,p,r)=>V (K,p,r) else V (r1,t,u)).bind fun(c,i8,D)=>(qgt n (⟨s.code,i8,D⟩:Tl01Source) c).bind fun(x,a,b)=>((qdW n c).bind fun J=>bif J then bif ((x.length:Int)==0) then(ql n (⟨s.code,a,b⟩:Tl01Source) 6).bind fun(k,l,m)=>V (l,m,decide (k > 0)) else V (a,b,false) else V (a,b,false)).bind fun(d,f,b1)=>bif b1 then(qjw n c).bind fun F=>(qey n (⟨s.code,d,f⟩:Tl01Source) c).bind fun(H,g,h)=>V (c,v,F,H,g,h) else(qey n (⟨s.code,d,f⟩:Tl01Source) c).bind fun(I,i16,i)=>V (c,v,x,I,i16,i)
theorem qnb{n K w F}{s:Tl01Source}{g p1 k}(h0:SH K w (xb g s p1 k s.at_ s.seed::F))(ha1:GoT.R w (Fr K F) s (qR s p1 k)){r:(qe×qu×(List Int)×(List qi)×Int×Int)}(hF:qhN n s=V r):RetW prog 77 [vp g] w (fun us w'=>∃S1 cs1 S2 cs2 S3 cs3,us=[oV qe cs1,oV qu (qaN r.2.1),oV (List Int) cs2,oV (List qi) cs3]/\SH K w' (oG (fun _=>False) S1 [fct (r.1:qe) cs1]::oG (fun _=>False) S2 [fct (r.2.2.1:(List Int)) cs2]::oG (fun _=>False) S3 [fct (r.2.2.2.1:(List qi)) cs3]::xb g s p1 k r.2.2.2.2.1 r.2.2.2.2.2::F)):=by
 have h:=SH.frm1 h0 ha1;refine qbf func77 Z (m:=41) Z Z (zSR (qj qa h Z Z Z fun _ l h=>qj qa h Z Z Z fun _ o h=>X0 6 Z ?_));replace h:=h.p [2,0,1,3] Z;obtain⟨⟨r1,i1,i2⟩,hr1,hF⟩:=qc hF;refine qaQ (cB 49 Z) (qmC (s:=(⟨s.code,s.at_,s.seed⟩:Tl01Source)) h ⟨[oS p1 s.code.length k],[vi s.at_,vi s.seed],rfl,⟨_,_,rfl,(qd (h.frG 3 0 1 Z Z Z)).1⟩,⟨[vi s.at_],[vi s.seed],rfl,rfl,rfl⟩⟩ hr1) Z Z Z Z ?_;rintro _ _ ⟨S4,_,rfl,h⟩;have hr2:=h.grpS 0 0 Z Z;obtain⟨p2,k2,p3,k3,p4,k4,p5,k5,p6,k6,rfl,_,_,_,_,_⟩:=qO hr2;replace h:SH _ _ [oG (fun _=>False) S4 [fct (r1:qe) (qG r1 p2 p3 p4 p5 p6 k2 k3 k4 k5 k6)],xb g s p1 k i1 i2,oX o [.string ByteArray.empty,vi 0,vi 0,vi 0,vi 0] 36,oX l [oS U 0 0,oS U 0 0,oS U 0 0,oS U 0 0,oS U 0 0] 34,xf K w F s p1 k]:=h;refine qj qa h Z Z Z fun _ v h=>zs 0 h Z fun _ h=>X0 4 Z ?_;replace h:=h.p [2,0,1,3,4,5] Z;obtain⟨⟨M,_,_⟩,hr4,hF⟩:=qc hF;refine qaQ (cB 53 Z) (qmf (s:=(⟨s.code,i1,i2⟩:Tl01Source)) h ⟨[oS p1 s.code.length k],[vi i1,vi i2],rfl,⟨_,_,rfl,(qd (h.frG 5 0 1 Z Z Z)).1⟩,⟨[vi i1],[vi i2],rfl,rfl,rfl⟩⟩ hr4) Z Z Z Z ?_;rintro _ _ ⟨rfl,h⟩;dsimp only at h;refine qj qa h Z Z Z fun _ y h=>zs 0 h Z fun _ h=>X0 5 Z ?_;replace h:=h.p [1,0,2,3,4,5,6] Z;obtain⟨⟨_,i6,i7⟩,hr5,hF⟩:=qc hF;refine nxC h ((qd (h.frG 6 0 1 Z Z Z)).1) hr5 Z Z Z fun _ h=>X0 2 Z ?_;obtain⟨KF2,S,_,hF,Q⟩:=bindE hF;refine qay (fun e w'=>∃O i H A I B J C d a f c i8 P,KF2 (i,i8,P)=V r/\e=[(0,vp g),(2,vp l),(3,vp o),(6,vp v),(7,vp y)]/\SH K w' [oG (fun _=>False) O [fct (i:qe) (qG i H I J d f A B C a c)],xb g s p1 k i8 P,oX y (qaN M) 36,oX v (qG i H I J d f A B C a c) 34,oX o [.string ByteArray.empty,vi 0,vi 0,vi 0,vi 0] 36,oX l [oS U 0 0,oS U 0 0,oS U 0 0,oS U 0 0,oS U 0 0] 34,xf K w F s p1 k]) ?_ ?_
 ·refine qk Z hF ?_ ?_<;>intro hF
  ·refine X0 2 Z ?_;obtain⟨⟨r9,i21,i22⟩,Y,hF⟩:=qc hF;refine qaQ (cB 119 Z) (qeQ (s:=(⟨s.code,i6,i7⟩:Tl01Source)) (most:=5) (wild:=true) h ⟨[oS p1 s.code.length k],[vi i6,vi i7],rfl,⟨_,_,rfl,(qd (h.frG 6 0 1 Z Z Z)).1⟩,⟨[vi i6],[vi i7],rfl,rfl,rfl⟩⟩ Y) Z Z Z Z ?_;rintro _ _ ⟨S10,_,rfl,h⟩;obtain⟨p16,k16,p17,k17,p18,k18,p19,k19,p20,k20,rfl,-,-,-,-,-⟩:=qO (h.own 0 Z);replace h:=h.frzI 0 Z;replace h:SH _ _ [oG (fun _=>False) S10 [fct (r9:qe) (qG r9 p16 p17 p18 p19 p20 k16 k17 k18 k19 k20)],xb g s p1 k i21 i22,oX y (qaN M) 36,oX v (qG r1 p2 p3 p4 p5 p6 k2 k3 k4 k5 k6) 34,oG (fun _=>False) S4 [fct (r1:qe) (qG r1 p2 p3 p4 p5 p6 k2 k3 k4 k5 k6)],oX o [.string ByteArray.empty,vi 0,vi 0,vi 0,vi 0] 36,oX l [oS U 0 0,oS U 0 0,oS U 0 0,oS U 0 0,oS U 0 0] 34,xf K w F s p1 k]:=h;refine zs 3 h Z fun _ h=>qbb ?_;replace h:=h.p [0,1,2,3,5,6,7] Z;obtain rfl:=qb hF;exact rG ⟨_,_,_,_,_,_,_,_,_,_,_,_,_,_,Q,rfl,h⟩ Z
  refine qfg ?_;replace h:=h.p [3,0,1,2,4,5,6] Z;obtain rfl:=qb hF;exact rG ⟨_,_,_,_,_,_,_,_,_,_,_,_,_,_,Q,rfl,h⟩ Z
 rintro _ _ ⟨O,i,H,A,I,B,J,C,d,a,f,c,i8,P,hF,rfl,h⟩;subst S;refine X1 4 3 h Z ?_;replace h:=h.p [1,0,2,3,4,5,6] Z;obtain⟨⟨L,i10,i11⟩,hr6,hF⟩:=qc hF;refine qaQ (cB 52 Z) (qmb (s:=(⟨s.code,i8,P⟩:Tl01Source)) (b:=i) h ⟨[oS p1 s.code.length k],[vi i8,vi P],rfl,⟨_,_,rfl,(qd (h.frG 6 0 1 Z Z Z)).1⟩,⟨[vi i8],[vi P],rfl,rfl,rfl⟩⟩ (h.frG 1 0 1 Z Z Z) hr6) Z Z Z Z ?_;rintro _ _ ⟨S6,_,rfl,h⟩;obtain⟨D,z,rfl,-⟩:=h.own 0 Z;replace h:SH _ _ [oW S6 (L:List Int) [oS D L.length z],xb g s p1 k i10 i11,oG (fun _=>False) O [fct (i:qe) (qG i H I J d f A B C a c)],oX y (qaN M) 36,oX v (qG i H I J d f A B C a c) 34,oX o [.string ByteArray.empty,vi 0,vi 0,vi 0,vi 0] 36,oX l [oS U 0 0,oS U 0 0,oS U 0 0,oS U 0 0,oS U 0 0] 34,xf K w F s p1 k]:=h;refine X0 4 Z ?_;obtain⟨KF1,R,_,hF,N⟩:=bindE hF;refine qay (fun e w'=>∃p u b1,KF1 (p,u,b1)=V r/\e=[(0,vp g),(2,vp l),(3,vp o),(6,vp v),(7,vp y),(8,oS D L.length z),(32,.bool b1)]/\SH K w' [xb g s p1 k p u,oW S6 (L:List Int) [oS D L.length z],oG (fun _=>False) O [fct (i:qe) (qG i H I J d f A B C a c)],oX y (qaN M) 36,oX v (qG i H I J d f A B C a c) 34,oX o [.string ByteArray.empty,vi 0,vi 0,vi 0,vi 0] 36,oX l [oS U 0 0,oS U 0 0,oS U 0 0,oS U 0 0,oS U 0 0] 34,xf K w F s p1 k]) ?_ ?_
 ·refine X1 2 4 h Z (zcB h hF (qfo (h.grp 2 0 Z Z)) Z fun _ _ h hF=>zp1 Z (qg (t:=23) hF Z ?_ ?_))<;>intro hF
  ·refine X0 8 Z (qg (t:=28) hF Z ?_ ?_)<;>intro hF
   ·refine X0 3 Z ?_;replace h:=h.p [1,0,2,3,4,5,6,7] Z;obtain⟨⟨_,_,_⟩,X,hF⟩:=qc hF;refine nxC h ((qd (h.frG 7 0 1 Z Z Z)).1) X Z Z Z fun _ h=>X0 4 Z ?_;obtain rfl:=qb hF;exact rG ⟨_,_,_,N,rfl,h⟩ Z
   refine X0 5 Z ?_;replace h:=h.p [1,0,2,3,4,5,6,7] Z;obtain rfl:=qb hF;exact rG ⟨_,_,_,N,rfl,h⟩ Z
  refine X0 10 Z ?_;replace h:=h.p [1,0,2,3,4,5,6,7] Z;obtain rfl:=qb hF;exact rG ⟨_,_,_,N,rfl,h⟩ Z
 rintro _ _ ⟨p,u,b1,hF,rfl,h⟩;subst R;refine qk Z hF ?_ ?_<;>intro hF
 ·refine X1 2 4 h Z (zcL h hF (qo4 (h.grp 2 0 Z Z)) Z fun r5 _ S7 a6 a3 h hF=>X0 3 Z (rA [] [4,5] h Z fun _ h=>M3 31 [0,1,2,3,4] 1 0 1 (h.p [4,5] Z) Z (Ao 5 63 Z ?_)));replace h:=h.p [1,0,2,3,4,5,6,7,8] Z;obtain⟨⟨r6,i14,i15⟩,hr8,hF⟩:=qc hF;refine qaQ (cB 156 Z) (qiD (a_0:=(⟨s.code,p,u⟩:Tl01Source)) (a_1:=i) h ⟨[oS p1 s.code.length k],[vi p,vi u],rfl,⟨_,_,rfl,(qd (h.frG 8 0 1 Z Z Z)).1⟩,⟨[vi p],[vi u],rfl,rfl,rfl⟩⟩ (h.frG 3 0 1 Z Z Z) hr8) Z Z Z Z ?_;rintro _ _ ⟨S8,_,rfl,h⟩;obtain⟨a7,a4,rfl,-⟩:=h.own 0 Z;replace h:SH _ _ [oW S8 (r6:List qi) [oS a7 r6.length a4],xb g s p1 k i14 i15,oW S7 (r5:List Int) [oS a6 r5.length a3],oW S6 (L:List Int) [oS D L.length z],oG (fun _=>False) O [fct (i:qe) (qG i H I J d f A B C a c)],oX y (qaN M) 36,oX v (qG i H I J d f A B C a c) 34,oX o [.string ByteArray.empty,vi 0,vi 0,vi 0,vi 0] 36,oX l [oS U 0 0,oS U 0 0,oS U 0 0,oS U 0 0,oS U 0 0] 34,xf K w F s p1 k]:=h;refine Ag (h.p [5,6] Z) (Ao 6 127 Z (zs 8 h Z fun _ h=>Ag (h.p [5,6] Z) (Ao 7 255 Z (zs 7 h Z fun _ h=>G0 1023 [8,9] (h.p [5,6] Z) Z (Ad ?_)))));have T:=h;replace h:=h.grpAdd 4 Z (x:=(i:qe)) (h.grpS 4 0 Z Z);replace h:=h.grpKeep [0] 4 Z;replace h:=h.frzI 2 Z;replace h:=h.grpAdd 2 Z (x:=(r5:(List Int))) (h.grpS 2 0 Z Z);replace h:=h.grpKeep [0] 2 Z;replace h:=h.frzI 0 Z;replace h:=h.grpAdd 0 Z (x:=(r6:(List qi))) (h.grpS 0 0 Z Z);replace h:=h.grpKeep [0] 0 Z;obtain rfl:=qb hF;replace h:=h.p [4,2,0,1,9] Z;exact qaM qa [oV qe (qG i H I J d f A B C a c),oV qu (qaN M),oV (List Int) [oS a6 r5.length a3],oV (List qi) [oS a7 r6.length a4]] ⟨⟨_,_,_,rfl,rfl,T.box 8 Z,rfl⟩,⟨_,_,_,rfl,rfl,T.box 7 Z,rfl⟩,rfl,rfl,G⟩ ⟨_,_,_,_,_,_,rfl,SH.unfr 1 1 h0 h Z Z⟩
 refine zKS (rA [] [3,4] h Z fun _ h=>M3 31 [0,1,2,3,4] 1 0 1 (h.p [3,4] Z) Z (Ao 5 63 Z ?_));obtain⟨⟨r7,i16,i17⟩,hr9,hF⟩:=qc hF;refine qaQ (cB 156 Z) (qiD (a_0:=(⟨s.code,p,u⟩:Tl01Source)) (a_1:=i) h ⟨[oS p1 s.code.length k],[vi p,vi u],rfl,⟨_,_,rfl,(qd (h.frG 7 0 1 Z Z Z)).1⟩,⟨[vi p],[vi u],rfl,rfl,rfl⟩⟩ (h.frG 2 0 1 Z Z Z) hr9) Z Z Z Z ?_;rintro _ _ ⟨S9,_,rfl,h⟩;obtain⟨a8,a5,rfl,-⟩:=h.own 0 Z;replace h:SH _ _ [oW S9 (r7:List qi) [oS a8 r7.length a5],xb g s p1 k i16 i17,oW S6 (L:List Int) [oS D L.length z],oG (fun _=>False) O [fct (i:qe) (qG i H I J d f A B C a c)],oX y (qaN M) 36,oX v (qG i H I J d f A B C a c) 34,oX o [.string ByteArray.empty,vi 0,vi 0,vi 0,vi 0] 36,oX l [oS U 0 0,oS U 0 0,oS U 0 0,oS U 0 0,oS U 0 0] 34,xf K w F s p1 k]:=h;refine Ag (h.p [4,5] Z) (Ao 6 127 Z (zs 7 h Z fun _ h=>Ag (h.p [4,5] Z) (Ao 7 255 Z (zs 6 h Z fun _ h=>G0 1023 [8,9] (h.p [4,5] Z) Z (Ad ?_)))));have W:=h;replace h:=h.grpAdd 3 Z (x:=(i:qe)) (h.grpS 3 0 Z Z);replace h:=h.grpKeep [0] 3 Z;replace h:=h.frzI 2 Z;replace h:=h.grpAdd 2 Z (x:=(L:(List Int))) (h.grpS 2 0 Z Z);replace h:=h.grpKeep [0] 2 Z;replace h:=h.frzI 0 Z;replace h:=h.grpAdd 0 Z (x:=(r7:(List qi))) (h.grpS 0 0 Z Z);replace h:=h.grpKeep [0] 0 Z;obtain rfl:=qb hF;replace h:=h.p [3,2,0,1,8] Z;exact qaM qa [oV qe (qG i H I J d f A B C a c),oV qu (qaN M),oV (List Int) [oS D L.length z],oV (List qi) [oS a8 r7.length a5]] ⟨⟨_,_,_,rfl,rfl,W.box 7 Z,rfl⟩,⟨_,_,_,rfl,rfl,W.box 6 Z,rfl⟩,rfl,rfl,G⟩ ⟨_,_,_,_,_,_,rfl,SH.unfr 1 1 h0 h Z Z⟩
def qig(n:Nat)(s:Tl01Source):Option (qax×Int×Int):=(qhN n (⟨s.code,s.at_,s.seed⟩:Tl01Source)).bind fun(r1,a,d,f,b,c)=>V ((⟨(⟨(⟨r1.Aq.As⟩:qw),(⟨r1.Aa.Ab,r1.Aa.Ak,r1.Aa.Aj⟩:qh),r1.Af⟩:qe),(⟨a.Bi,a.Ay,a.Bb,a.Au,a.Bc⟩:qu),d,f⟩:qax),b,c)
theorem qnF{n C w F}{s:Tl01Source}{b p1 l}(N:SH C w (xb b s p1 l s.at_ s.seed::F))(H:GoT.R w (Fr C F) s (qR s p1 l)){r:(qax×Int×Int)}(S:qig n s=V r):RetW prog 83 [vp b] w (fun T w'=>∃S1 cs1,T=[oV qax cs1]/\SH C w' (oG (fun _=>False) S1 [fct (r.1:qax) cs1]::xb b s p1 l r.2.1 r.2.2::F)):=by
 have h:=SH.frm1 N H;refine qbf func83 Z (m:=19) Z Z (zSR (qj qa h Z Z Z fun _ D h=>X0 4 Z ?_));replace h:=h.p [1,0,2] Z;obtain⟨⟨r1,a,i,k,Q,R⟩,J,S⟩:=qc S;refine qaQ (cB 77 Z) (qnb (s:=(⟨s.code,s.at_,s.seed⟩:Tl01Source)) h ⟨[oS p1 s.code.length l],[vi s.at_,vi s.seed],rfl,⟨_,_,rfl,(qd (h.frG 2 0 1 Z Z Z)).1⟩,⟨[vi s.at_],[vi s.seed],rfl,rfl,rfl⟩⟩ J) Z Z Z Z ?_;rintro _ _ ⟨S2,_,O,_,P,_,rfl,h⟩;have K:=h.grpS 0 0 Z Z;obtain⟨B,A,o,k3,f,c,g,d,v,p,rfl,_,_,_,_,_⟩:=qO K;have L:=h.grpS 1 0 Z Z;obtain⟨y,t,rfl,_⟩:=L;have M:=h.grpS 2 0 Z Z;obtain⟨z,u,rfl,_⟩:=M;replace h:SH _ _ [oG (fun _=>False) S2 [fct (r1:qe) (qG r1 B o f g v A k3 c d p)],oG (fun _=>False) O [fct (i:(List Int)) [oS y i.length t]],oG (fun _=>False) P [fct (k:(List qi)) [oS z k.length u]],xb b s p1 l Q R,oX D [oS U 0 0,oS U 0 0,oS U 0 0,oS U 0 0,oS U 0 0,.string ByteArray.empty,vi 0,vi 0,vi 0,vi 0,oS U 0 0,oS U 0 0] 62,xf C w F s p1 l]:=h;refine zp5 Z (qj qa h Z Z Z fun _ _ h=>qj qa h Z Z Z fun _ _ h=>zs 1 h Z fun _ h=>zs 0 h Z fun _ h=>X2 9 1 0 h Z (r_v (qA qa [0,1,2,3] [.tmp 14,.tmp 15,.tmp 16,.tmp 17] Z Z Z Z Z Z Z Z) Z (zs 6 h Z fun _ h=>qbb ?_)));have I:=h;replace h:=h.p [2,3,0,1,4,5,6,7] Z;replace h:=SH.merge h;replace h:=h.p [0,3,1,2,4,5,6] Z;replace h:=SH.merge h;replace h:=h.grpAdd 0 Z (x:=((⟨(⟨(⟨r1.Aq.As⟩:qw),(⟨r1.Aa.Ab,r1.Aa.Ak,r1.Aa.Aj⟩:qh),r1.Af⟩:qe),(⟨a.Bi,a.Ay,a.Bb,a.Au,a.Bc⟩:qu),i,k⟩:qax):qax)) (⟨[oS B r1.Aq.As.length A,oS o r1.Aa.Ab.length k3,oS f r1.Aa.Ak.length c,oS g r1.Aa.Aj.length d,oS v r1.Af.length p],[.string a.Bi,vi a.Ay,vi a.Bb,vi a.Au,vi a.Bc,oS y i.length t,oS z k.length u],rfl,⟨[oS B r1.Aq.As.length A],[oS o r1.Aa.Ab.length k3,oS f r1.Aa.Ak.length c,oS g r1.Aa.Aj.length d,oS v r1.Af.length p],rfl,⟨_,_,rfl,(qcG (h.grpS 0 0 Z Z)).1.1⟩,⟨[oS o r1.Aa.Ab.length k3,oS f r1.Aa.Ak.length c,oS g r1.Aa.Aj.length d],[oS v r1.Af.length p],rfl,⟨[oS o r1.Aa.Ab.length k3],[oS f r1.Aa.Ak.length c,oS g r1.Aa.Aj.length d],rfl,⟨_,_,rfl,(qcG (h.grpS 0 0 Z Z)).2.1.1⟩,⟨[oS f r1.Aa.Ak.length c],[oS g r1.Aa.Aj.length d],rfl,⟨_,_,rfl,(qcG (h.grpS 0 0 Z Z)).2.2.1.1⟩,⟨_,_,rfl,(qcG (h.grpS 0 0 Z Z)).2.2.2.1.1⟩⟩⟩,⟨_,_,rfl,(qcG (h.grpS 0 0 Z Z)).2.2.2.2.1⟩⟩⟩,⟨[.string a.Bi,vi a.Ay,vi a.Bb,vi a.Au,vi a.Bc],[oS y i.length t,oS z k.length u],rfl,⟨[.string a.Bi],[vi a.Ay,vi a.Bb,vi a.Au,vi a.Bc],rfl,rfl,⟨[vi a.Ay],[vi a.Bb,vi a.Au,vi a.Bc],rfl,rfl,⟨[vi a.Bb],[vi a.Au,vi a.Bc],rfl,rfl,⟨[vi a.Au],[vi a.Bc],rfl,rfl,rfl⟩⟩⟩⟩,⟨[oS y i.length t],[oS z k.length u],rfl,(h.grpS 0 1 Z Z),(h.grpS 0 2 Z Z)⟩⟩⟩);replace h:=h.grpKeep [0] 0 Z;obtain rfl:=qb S;replace h:=h.p [0,3,5] Z;exact qaM qa [oV qax [oS B r1.Aq.As.length A,oS o r1.Aa.Ab.length k3,oS f r1.Aa.Ak.length c,oS g r1.Aa.Aj.length d,oS v r1.Af.length p,.string a.Bi,vi a.Ay,vi a.Bb,vi a.Au,vi a.Bc,oS y i.length t,oS z k.length u]] ⟨⟨_,_,_,rfl,rfl,I.box 6 Z,rfl⟩,G⟩ ⟨_,_,rfl,SH.unfr 1 1 N h Z Z⟩
def qj1:Nat->Option Unit|0=>U|_+1=>U
def qj2(a:Int):Nat->Option Unit|0=>U|n+1=>bif decide (a > 0) then(qj1 n).bind fun _=>U else V ()
def qco(g:(List Bool))(d:(List qt))(b:Int):Nat->(List Int)->Int->Option ((List Int)×Int)|0,_,_=>U|n+1,c,a=>bif decide (a<(d.length:Int)) then((idx g a).bind fun i=>bif i then(idx d a).bind fun k=>V (k.Bl==b) else V false).bind fun h=>bif h then(appS c ([a]:List Int)).bind fun f=>qco g d b n f (W64 (a+1)) else qco g d b n c (W64 (a+1)) else V (c,a)
def qdj(a_0:Tl01Source)(p:(List Bool))(l:(List qt)):Nat->(List Int)->Int->Int->Int->Int->Option ((List Int)×Int×Int)|0,_,_,_,_,_=>U|n+1,m,a,b,f,d=>bif decide (d > 0) then(qco p l f n ([]:List Int) 0).bind fun(c,_)=>bif ((c.length:Int)==0) then V (m,a,b) else(ql n (⟨a_0.code,a,b⟩:Tl01Source) (c.length:Int)).bind fun(g,h,i)=>(idx c g).bind fun r=>(appS m ([r]:List Int)).bind fun k=>(idx l r).bind fun s=>qdj a_0 p l n k h i s.To (W64 (d-1)) else V (m,a,b)
def qhK(n:Nat)(a_0:Tl01Source)(a_1:qax):Option (Int×(List Int)×Int×Int):=(qb6 n a_1).bind fun|(U,K)=>((bif (K != 0) then V true else V ((a_1.Ap.length:Int)==0)).bind fun b1=>bif b1 then(ql n (⟨a_0.code,a_0.at_,a_0.seed⟩:Tl01Source) 8).bind fun(L,M,N)=>V (L,([]:List Int),M,N) else(ql n (⟨a_0.code,a_0.at_,a_0.seed⟩:Tl01Source) (a_1.Ap.length:Int)).bind fun(O,P,Q)=>(idx a_1.Ap O).bind fun Y=>(ql n (⟨a_0.code,P,Q⟩:Tl01Source) 9).bind fun(i8,R,g)=>(qj2 i8 n).bind fun _=>(ql n (⟨a_0.code,R,g⟩:Tl01Source) 16).bind fun(c,d,f)=>bif (c==0) then U else bif (c==1) then(qcz n (⟨(⟨a_1.Ac.Aq.As⟩:qw),(⟨a_1.Ac.Aa.Ab,a_1.Ac.Aa.Ak,a_1.Ac.Aa.Aj⟩:qh),a_1.Ac.Af⟩:qe)).bind fun S=>(ql n (⟨a_0.code,d,f⟩:Tl01Source) S).bind fun(h,i,i16)=>V (h,([]:List Int),i,i16) else V (Y.Bm,([]:List Int),d,f))|(V (⟨_,J,W,⟨_,_,_⟩⟩),_)=>((V ()).bind fun _=>bif ((a_1.Ap.length:Int)==0) then(ql n (⟨a_0.code,a_0.at_,a_0.seed⟩:Tl01Source) 8).bind fun(k,l,m)=>V (k,([]:List Int),l,m) else(ql n (⟨a_0.code,a_0.at_,a_0.seed⟩:Tl01Source) (a_1.Ap.length:Int)).bind fun(p,r,s)=>(idx a_1.Ap p).bind fun I=>(ql n (⟨a_0.code,r,s⟩:Tl01Source) 9).bind fun(t,u,v)=>(qdj a_0 W J n ([]:List Int) u v I.Bm t).bind fun(H,x,y)=>(ql n (⟨a_0.code,x,y⟩:Tl01Source) 16).bind fun(i32,a,b)=>bif (i32==0) then(ql n (⟨a_0.code,a,b⟩:Tl01Source) (W64 ((J.length:Int)+2))).bind fun(z,A,B)=>(appS H ([W64 (z-1)]:List Int)).bind fun X=>V (I.Bm,X,A,B) else bif (i32==1) then(qcz n (⟨(⟨a_1.Ac.Aq.As⟩:qw),(⟨a_1.Ac.Aa.Ab,a_1.Ac.Aa.Ak,a_1.Ac.Aa.Aj⟩:qh),a_1.Ac.Af⟩:qe)).bind fun T=>(ql n (⟨a_0.code,a,b⟩:Tl01Source) T).bind fun(C,D,F)=>V (C,H,D,F) else V (I.Bm,H,a,b))
theorem qmR{n i w F}{a_0:Tl01Source}{a p1 z}{a_1:qax}{cs1}(h0:SH i w (xb a a_0 p1 z a_0.at_ a_0.seed::F))(ha1:GoT.R w (Fr i F) a_0 (qR a_0 p1 z))(ha2:GoT.R w (Fr i F) a_1 cs1){r:(Int×(List Int)×Int×Int)}(hF:qhK n a_0 a_1=V r):RetW prog 175 [vp a,oV qax cs1] w (fun us w'=>∃S1 cs2,us=[vi r.1,oV (List Int) cs2]/\SH i w' (oW S1 (r.2.1:(List Int)) cs2::xb a a_0 p1 z r.2.2.1 r.2.2.2::F)):=by
 have h:=SH.frm1 h0 ha1;have hz1:=ha2;obtain⟨s,p,k,k3,f,c,g,d,o,l,x,u,y,v,rfl,_,_,_,_,_,_,_⟩:=qbV ha2;replace h:=h.grpAdd 1 Z hz1;replace h:SH _ _ [xb a a_0 p1 z a_0.at_ a_0.seed,oG (old i) (FS F) [fct (a_1:qax) (qbn a_1 s k f g o x y p k3 c d l u v),fct (a_0:Tl01Source) (qR a_0 p1 z),same i w F]]:=h;refine qbf func175 Z (m:=129) Z Z (zSR (qC h Z Z fun _ b h=>X1 6 0 h Z ?_));obtain⟨_,hr1,hF⟩:=qc hF;refine qrX (cB 95 Z) (qoL (h.grp 2 0 Z Z) hr1) Z Z Z Z ?_;rintro _ _ _ hs1 (⟨_,rfl,rfl,rfl⟩|⟨S5,H,ln1,k9,P,S6,I,ln2,A,Q,S7,J,ln3,B,R,M,S8,K,ln4,C,N,S9,L,ln5,D,O,rfl,rfl,rfl⟩)
 ·replace h:SH _ _ [oX b (qbn a_1 s k f g o x y p k3 c d l u v) 62,xb a a_0 p1 z a_0.at_ a_0.seed,oG (old i) (FS F) [fct (a_1:qax) (qbn a_1 s k f g o x y p k3 c d l u v),fct (a_0:Tl01Source) (qR a_0 p1 z),same i w F]]:=SH.appendN h hs1 (show NoD [] from trivial);refine X0 8 Z ?_;obtain⟨KF1,hKF1,_,hF,hK3⟩:=bindE hF;refine qay (fun e w'=>∃b1,KF1 b1=V r/\e=[(0,vp a),(3,vp b),(6,.pointer U),(27,.bool b1)]/\SH i w' [oX b (qbn a_1 s k f g o x y p k3 c d l u v) 62,xb a a_0 p1 z a_0.at_ a_0.seed,oG (old i) (FS F) [fct (a_1:qax) (qbn a_1 s k f g o x y p k3 c d l u v),fct (a_0:Tl01Source) (qR a_0 p1 z),same i w F]]) ?_ ?_
  ·refine X0 4 Z (qg (t:=22) hF Z ?_ ?_)<;>intro hF
   ·refine X0 6 Z ?_;obtain rfl:=qb hF;exact rG ⟨_,hK3,rfl,h⟩ Z
   refine X1 10 0 h Z ?_;obtain rfl:=qb hF;exact rG ⟨_,hK3,rfl,h⟩ Z
  rintro _ _ ⟨b1,hF,rfl,h⟩;subst hKF1;refine qk Z hF ?_ ?_<;>intro hF
  ·refine X0 3 Z ?_;replace h:=h.p [1,0,2] Z;obtain⟨⟨i2,_,_⟩,hr2,hF⟩:=qc hF;refine nxC h ((qd (h.frG 2 1 1 Z Z Z)).1) hr2 Z Z Z fun _ h=>qq qa [] _ ([]:List Int) h Z Z Z Z Z Z Z Z Z trivial Z fun _ p9 _ h=>X0 3 Z ?_;obtain rfl:=qb hF;replace h:=h.p [0,1,3] Z;exact qaM qa [vi i2,oV (List Int) [oS p9 0 0]] ⟨rfl,rfl,G⟩ ⟨_,_,rfl,SH.unfr 1 2 h0 h Z Z⟩
  refine zKS (rA [] [0] h Z fun _ h=>M2 63 [0,1,2,3,4,5] 0 0 (h.p [0] Z) Z (Ao 6 127 Z ?_));replace h:=h.p [1,0,2] Z;obtain⟨⟨_,_,_⟩,hr3,hF⟩:=qc hF;refine nxC h ((qd (h.frG 2 1 1 Z Z Z)).1) hr3 Z Z Z fun _ h=>Ag (h.p [1] Z) ?_;obtain⟨y1,_,hF,he1,_,_,_,_,hp1,hq1,hr4,hc2⟩:=(qbN (h.grp 2 0 Z Z)).2.2.2.2.2.2.1.ix hF;obtain rfl:=qT hr4;refine Ax 7 255 hp1 hq1 ⟨he1.1,qD he1.2.1 (qbN (h.grp 2 0 Z Z)).2.2.2.2.2.2.2⟩ (h.p [1] Z) Z (M0 511 [8] (h.p [1] Z) Z (Ao 9 1023 Z (zc 0 hc2 Z (G0 2047 [10] (h.p [1] Z) Z (Ad (X0 7 Z (qq qa [] _ ([]:List Int) h Z Z Z Z Z Z Z Z Z trivial Z fun _ X S3 h=>X0 6 Z ?_)))))));replace h:=h.p [1,0,2,3] Z;obtain⟨⟨i8,i9,i10⟩,hr5,hF⟩:=qc hF;refine nxC h ((qd (h.frG 3 1 1 Z Z Z)).1) hr5 Z Z Z fun _ h=>X0 2 Z ?_;obtain⟨o4,hF,hK1⟩:=qc hF;refine qm (rL (fun m e w'=>qj2 i8 m=V o4/\e=[(0,vp a),(3,vp b),(6,.pointer U),(8,vi y1.Bm),(9,vi y1.Bm),(10,oS X 0 0),(11,vi i8)]/\SH i w' [xb a a_0 p1 z i9 i10,oW S3 (([]:List Int):List Int) [oS X 0 0],oX b (qbn a_1 s k f g o x y p k3 c d l u v) 62,oG (old i) (FS F) [fct (a_1:qax) (qbn a_1 s k f g o x y p k3 c d l u v),fct (a_0:Tl01Source) (qR a_0 p1 z),same i w F]]) n ⟨hF,rfl,h⟩ Z ?_);rintro m1 _ _ ⟨hF,rfl,h⟩;rcases m1 with _|m1
  ·cases hF
  refine X0 6 Z (qk Z hF ?_ ?_)<;>intro hF
  ·refine zKSBSR (qq qa [] _ ([]:List Int) h Z Z Z Z Z Z Z Z Z trivial Z fun _ p11 S4 h=>X0 7 Z ?_);obtain⟨o5,hF,_⟩:=qc hF;refine qm (rL (fun m e w'=>qj1 m=V o5/\e=[(0,vp a),(3,vp b),(6,.pointer U),(8,vi y1.Bm),(9,vi y1.Bm),(10,oS X 0 0),(11,vi i8),(12,oS p11 0 0),(13,vi 0)]/\SH i w' [oW S4 (([]:List Int):List Int) [oS p11 0 0],xb a a_0 p1 z i9 i10,oW S3 (([]:List Int):List Int) [oS X 0 0],oX b (qbn a_1 s k f g o x y p k3 c d l u v) 62,oG (old i) (FS F) [fct (a_1:qax) (qbn a_1 s k f g o x y p k3 c d l u v),fct (a_0:Tl01Source) (qR a_0 p1 z),same i w F]]) m1 ⟨hF,rfl,h⟩ Z ?_);rintro m2 _ _ ⟨hF,rfl,h⟩;rcases m2 with _|m2
   ·cases hF
   refine X0 5 Z ?_;cases hF
  refine qv Z ?_;obtain rfl:=qb hF;replace hF:=hK1;refine X0 4 Z ?_;obtain⟨⟨_,_,_⟩,hr6,hF⟩:=qc hF;refine nxC h ((qd (h.frG 3 1 1 Z Z Z)).1) hr6 Z Z Z fun _ h=>X0 7 Z (qk Z hF ?_ ?_)<;>intro hF
  ·refine X0 4 Z ?_;cases hF
  refine X0 5 Z (qk Z hF ?_ ?_)<;>intro hF
  ·refine X1 4 2 h Z (zcI h hF (qeW ⟨[oS s a_1.Ac.Aq.As.length p],[oS k a_1.Ac.Aa.Ab.length k3,oS f a_1.Ac.Aa.Ak.length c,oS g a_1.Ac.Aa.Aj.length d,oS o a_1.Ac.Af.length l],rfl,⟨_,_,rfl,(qbN (h.grp 3 0 Z Z)).1.1⟩,⟨[oS k a_1.Ac.Aa.Ab.length k3,oS f a_1.Ac.Aa.Ak.length c,oS g a_1.Ac.Aa.Aj.length d],[oS o a_1.Ac.Af.length l],rfl,⟨[oS k a_1.Ac.Aa.Ab.length k3],[oS f a_1.Ac.Aa.Ak.length c,oS g a_1.Ac.Aa.Aj.length d],rfl,⟨_,_,rfl,(qbN (h.grp 3 0 Z Z)).2.1.1⟩,⟨[oS f a_1.Ac.Aa.Ak.length c],[oS g a_1.Ac.Aa.Aj.length d],rfl,⟨_,_,rfl,(qbN (h.grp 3 0 Z Z)).2.2.1.1⟩,⟨_,_,rfl,(qbN (h.grp 3 0 Z Z)).2.2.2.1.1⟩⟩⟩,⟨_,_,rfl,(qbN (h.grp 3 0 Z Z)).2.2.2.2.1.1⟩⟩⟩) Z fun _ _ h hF=>?_);obtain⟨⟨i14,_,_⟩,hr8,hF⟩:=qc hF;refine nxC h ((qd (h.frG 3 1 1 Z Z Z)).1) hr8 Z Z Z fun _ h=>X0 10 Z ?_;obtain rfl:=qb hF;replace h:=h.p [1,0,3] Z;exact qaM qa [vi i14,oV (List Int) [oS X 0 0]] ⟨rfl,rfl,G⟩ ⟨_,_,rfl,SH.unfr 1 2 h0 h Z Z⟩
  refine X0 9 Z ?_;obtain rfl:=qb hF;replace h:=h.p [1,0,3] Z;exact qaM qa [vi y1.Bm,oV (List Int) [oS X 0 0]] ⟨rfl,rfl,G⟩ ⟨_,_,rfl,SH.unfr 1 2 h0 h Z Z⟩
 replace h:SH _ _ [oW S5 (P:List qf) [oS H ln1 k9],oW S6 (Q:List qf) [oS I ln2 A],oW S7 (R:List Bool) [oS J ln3 B],oX M [oS s a_1.Ac.Aq.As.length p,oS k a_1.Ac.Aa.Ab.length k3,oS f a_1.Ac.Aa.Ak.length c,oS g a_1.Ac.Aa.Aj.length d,oS o a_1.Ac.Af.length l,.string a_1.Ai.Bi,vi a_1.Ai.Ay,vi a_1.Ai.Bb,vi a_1.Ai.Au,vi a_1.Ai.Bc,oS x a_1.Bh.length u,oS y a_1.Ap.length v,oS L ln5 D,oS K ln4 C,oS J ln3 B,oS I ln2 A,oS H ln1 k9] 243,oW S8 (N:List Bool) [oS K ln4 C],oW S9 (O:List qt) [oS L ln5 D],oX b (qbn a_1 s k f g o x y p k3 c d l u v) 62,xb a a_0 p1 z a_0.at_ a_0.seed,oG (old i) (FS F) [fct (a_1:qax) (qbn a_1 s k f g o x y p k3 c d l u v),fct (a_0:Tl01Source) (qR a_0 p1 z),same i w F]]:=SH.appendN h hs1 ⟨fun _ h=>h,⟨fun _ h=>h,⟨fun _ h=>h,⟨fun _ h=>h,⟨fun _ h=>h,⟨fun _ h=>h,G⟩⟩⟩⟩⟩⟩;obtain rfl:=(h.sl 0 Z).2;obtain rfl:=(h.sl 1 Z).2;obtain rfl:=(h.sl 2 Z).2;obtain rfl:=(h.sl 4 Z).2;obtain rfl:=(h.sl 5 Z).2;refine X0 8 Z ?_;obtain⟨KF4,hKF4,_,hF,hK7⟩:=bindE hF;refine qay (fun e w'=>KF4 ()=V r/\e=[(0,vp a),(3,vp b),(6,vp M),(27,.bool ((a_1.Ap.length:Int)==0))]/\SH i w' [oW S5 (P:List qf) [oS H P.length k9],oW S6 (Q:List qf) [oS I Q.length A],oW S7 (R:List Bool) [oS J R.length B],oX M [oS s a_1.Ac.Aq.As.length p,oS k a_1.Ac.Aa.Ab.length k3,oS f a_1.Ac.Aa.Ak.length c,oS g a_1.Ac.Aa.Aj.length d,oS o a_1.Ac.Af.length l,.string a_1.Ai.Bi,vi a_1.Ai.Ay,vi a_1.Ai.Bb,vi a_1.Ai.Au,vi a_1.Ai.Bc,oS x a_1.Bh.length u,oS y a_1.Ap.length v,oS L O.length D,oS K N.length C,oS J R.length B,oS I Q.length A,oS H P.length k9] 243,oW S8 (N:List Bool) [oS K N.length C],oW S9 (O:List qt) [oS L O.length D],oX b (qbn a_1 s k f g o x y p k3 c d l u v) 62,xb a a_0 p1 z a_0.at_ a_0.seed,oG (old i) (FS F) [fct (a_1:qax) (qbn a_1 s k f g o x y p k3 c d l u v),fct (a_0:Tl01Source) (qR a_0 p1 z),same i w F]]) ?_ ?_
 ·refine X1 14 6 h Z ?_;obtain rfl:=qb hF;exact rG ⟨hK7,rfl,h⟩ Z
 rintro _ _ ⟨hF,rfl,h⟩;subst hKF4;refine qk Z hF ?_ ?_<;>intro hF
 ·refine X0 3 Z ?_;replace h:=h.p [7,0,1,2,3,4,5,6,8] Z;obtain⟨⟨i17,_,_⟩,hr9,hF⟩:=qc hF;refine nxC h ((qd (h.frG 8 1 1 Z Z Z)).1) hr9 Z Z Z fun _ h=>qq qa [] _ ([]:List Int) h Z Z Z Z Z Z Z Z Z trivial Z fun _ p17 _ h=>X0 3 Z ?_;obtain rfl:=qb hF;replace h:=h.p [0,1,9] Z;exact qaM qa [vi i17,oV (List Int) [oS p17 0 0]] ⟨rfl,rfl,G⟩ ⟨_,_,rfl,SH.unfr 1 2 h0 h Z Z⟩
 refine zKS (rA [] [6] h Z fun _ h=>M2 63 [0,1,2,3,4,5] 0 0 (h.p [6] Z) Z (Ao 6 127 Z ?_));replace h:=h.p [7,0,1,2,3,4,5,6,8] Z;obtain⟨⟨_,_,_⟩,hr10,hF⟩:=qc hF;refine nxC h ((qd (h.frG 8 1 1 Z Z Z)).1) hr10 Z Z Z fun _ h=>Ag (h.p [7] Z) ?_;obtain⟨y2,_,hF,he2,_,_,_,_,hp2,hq2,hr11,hc7⟩:=(qbN (h.grp 8 0 Z Z)).2.2.2.2.2.2.1.ix hF;obtain rfl:=qT hr11;refine Ax 7 255 hp2 hq2 ⟨he2.1,qD he2.2.1 (qbN (h.grp 8 0 Z Z)).2.2.2.2.2.2.2⟩ (h.p [7] Z) Z (M0 511 [8] (h.p [7] Z) Z (Ao 9 1023 Z (zc 0 hc7 Z (G0 2047 [10] (h.p [7] Z) Z (Ad (X0 7 Z (qq qa [] _ ([]:List Int) h Z Z Z Z Z Z Z Z Z trivial Z fun _ _ _ h=>X0 6 Z ?_)))))));replace h:=h.p [1,0,2,3,4,5,6,7,8,9] Z;obtain⟨⟨_,_,_⟩,hr12,hF⟩:=qc hF;refine nxC h ((qd (h.frG 9 1 1 Z Z Z)).1) hr12 Z Z Z fun _ h=>X0 2 Z ?_;obtain⟨KF2,hKF2,o15,hF,hK4⟩:=bindE hF;refine qay (fun e w'=>∃S13 p20 ln7 k15 x7 i30 i31,KF2 (x7,i30,i31)=V r/\e=[(0,vp a),(3,vp b),(6,vp M),(8,vi y2.Bm),(10,oS p20 ln7 k15)]/\SH i w' [xb a a_0 p1 z i30 i31,oW S13 (x7:List Int) [oS p20 ln7 k15],oW S5 (P:List qf) [oS H P.length k9],oW S6 (Q:List qf) [oS I Q.length A],oW S7 (R:List Bool) [oS J R.length B],oX M [oS s a_1.Ac.Aq.As.length p,oS k a_1.Ac.Aa.Ab.length k3,oS f a_1.Ac.Aa.Ak.length c,oS g a_1.Ac.Aa.Aj.length d,oS o a_1.Ac.Af.length l,.string a_1.Ai.Bi,vi a_1.Ai.Ay,vi a_1.Ai.Bb,vi a_1.Ai.Au,vi a_1.Ai.Bc,oS x a_1.Bh.length u,oS y a_1.Ap.length v,oS L O.length D,oS K N.length C,oS J R.length B,oS I Q.length A,oS H P.length k9] 243,oW S8 (N:List Bool) [oS K N.length C],oW S9 (O:List qt) [oS L O.length D],oX b (qbn a_1 s k f g o x y p k3 c d l u v) 62,oG (old i) (FS F) [fct (a_1:qax) (qbn a_1 s k f g o x y p k3 c d l u v),fct (a_0:Tl01Source) (qR a_0 p1 z),same i w F]]) ?_ ?_
 ·refine qm (rL (fun m e w'=>∃S16 T ln8 S x9 i41 i42 W i44,qdj a_0 N O m x9 i41 i42 W i44=V o15/\e=[(0,vp a),(3,vp b),(6,vp M),(8,vi y2.Bm),(9,vi W),(10,oS T ln8 S),(11,vi i44)]/\SH i w' [xb a a_0 p1 z i41 i42,oW S16 (x9:List Int) [oS T ln8 S],oW S5 (P:List qf) [oS H P.length k9],oW S6 (Q:List qf) [oS I Q.length A],oW S7 (R:List Bool) [oS J R.length B],oX M [oS s a_1.Ac.Aq.As.length p,oS k a_1.Ac.Aa.Ab.length k3,oS f a_1.Ac.Aa.Ak.length c,oS g a_1.Ac.Aa.Aj.length d,oS o a_1.Ac.Af.length l,.string a_1.Ai.Bi,vi a_1.Ai.Ay,vi a_1.Ai.Bb,vi a_1.Ai.Au,vi a_1.Ai.Bc,oS x a_1.Bh.length u,oS y a_1.Ap.length v,oS L O.length D,oS K N.length C,oS J R.length B,oS I Q.length A,oS H P.length k9] 243,oW S8 (N:List Bool) [oS K N.length C],oW S9 (O:List qt) [oS L O.length D],oX b (qbn a_1 s k f g o x y p k3 c d l u v) 62,oG (old i) (FS F) [fct (a_1:qax) (qbn a_1 s k f g o x y p k3 c d l u v),fct (a_0:Tl01Source) (qR a_0 p1 z),same i w F]]) n ⟨_,_,_,_,_,_,_,_,_,hF,rfl,h⟩ Z ?_);rintro m3 _ _ ⟨S16,T,ln8,S,x9,i41,i42,W,i44,hF,rfl,h⟩;obtain rfl:=(h.sl 1 Z).2;rcases m3 with _|m3
  ·cases hF
  refine X0 6 Z (qk Z hF ?_ ?_)<;>intro hF
  ·refine zKSBSR (qq qa [] _ ([]:List Int) h Z Z Z Z Z Z Z Z Z trivial Z fun _ _ _ h=>X0 7 Z ?_);obtain⟨o16,hF,hK5⟩:=qc hF;refine qm (rL (fun m e w'=>∃S18 p25 ln9 k18 Y i45,qco N O W m Y i45=V o16/\e=[(0,vp a),(3,vp b),(6,vp M),(8,vi y2.Bm),(9,vi W),(10,oS T x9.length S),(11,vi i44),(12,oS p25 ln9 k18),(13,vi i45)]/\SH i w' [oW S18 (Y:List Int) [oS p25 ln9 k18],xb a a_0 p1 z i41 i42,oW S16 (x9:List Int) [oS T x9.length S],oW S5 (P:List qf) [oS H P.length k9],oW S6 (Q:List qf) [oS I Q.length A],oW S7 (R:List Bool) [oS J R.length B],oX M [oS s a_1.Ac.Aq.As.length p,oS k a_1.Ac.Aa.Ab.length k3,oS f a_1.Ac.Aa.Ak.length c,oS g a_1.Ac.Aa.Aj.length d,oS o a_1.Ac.Af.length l,.string a_1.Ai.Bi,vi a_1.Ai.Ay,vi a_1.Ai.Bb,vi a_1.Ai.Au,vi a_1.Ai.Bc,oS x a_1.Bh.length u,oS y a_1.Ap.length v,oS L O.length D,oS K N.length C,oS J R.length B,oS I Q.length A,oS H P.length k9] 243,oW S8 (N:List Bool) [oS K N.length C],oW S9 (O:List qt) [oS L O.length D],oX b (qbn a_1 s k f g o x y p k3 c d l u v) 62,oG (old i) (FS F) [fct (a_1:qax) (qbn a_1 s k f g o x y p k3 c d l u v),fct (a_0:Tl01Source) (qR a_0 p1 z),same i w F]]) m3 ⟨_,_,_,_,_,_,hF,rfl,h⟩ Z ?_);rintro m4 _ _ ⟨S18,p25,ln9,k18,Y,i45,hF,rfl,h⟩;obtain rfl:=(h.sl 0 Z).2;rcases m4 with _|m4
   ·cases hF
   refine X1 11 6 h Z (qk Z hF ?_ ?_)<;>intro hF
   ·refine X0 4 Z ?_;obtain⟨KF3,hKF3,_,hF,hK6⟩:=bindE hF;refine qay (fun e w'=>∃b4,KF3 b4=V o16/\e=[(0,vp a),(3,vp b),(6,vp M),(8,vi y2.Bm),(9,vi W),(10,oS T x9.length S),(11,vi i44),(12,oS p25 Y.length k18),(13,vi i45),(77,.bool b4)]/\SH i w' [oW S18 (Y:List Int) [oS p25 Y.length k18],xb a a_0 p1 z i41 i42,oW S16 (x9:List Int) [oS T x9.length S],oW S5 (P:List qf) [oS H P.length k9],oW S6 (Q:List qf) [oS I Q.length A],oW S7 (R:List Bool) [oS J R.length B],oX M [oS s a_1.Ac.Aq.As.length p,oS k a_1.Ac.Aa.Ab.length k3,oS f a_1.Ac.Aa.Ak.length c,oS g a_1.Ac.Aa.Aj.length d,oS o a_1.Ac.Af.length l,.string a_1.Ai.Bi,vi a_1.Ai.Ay,vi a_1.Ai.Bb,vi a_1.Ai.Au,vi a_1.Ai.Bc,oS x a_1.Bh.length u,oS y a_1.Ap.length v,oS L O.length D,oS K N.length C,oS J R.length B,oS I Q.length A,oS H P.length k9] 243,oW S8 (N:List Bool) [oS K N.length C],oW S9 (O:List qt) [oS L O.length D],oX b (qbn a_1 s k f g o x y p k3 c d l u v) 62,oG (old i) (FS F) [fct (a_1:qax) (qbn a_1 s k f g o x y p k3 c d l u v),fct (a_0:Tl01Source) (qR a_0 p1 z),same i w F]]) ?_ ?_
    ·refine X1 6 6 h Z ?_;obtain⟨_,_,hF,he3,_,_,_,_,hp3,hq3,rfl,hc13⟩:=(h.sl 7 Z).1.ix hF;refine zx hp3 hq3 ⟨he3.1,qD he3.2.1 (h.sl 7 Z).2⟩ Z (zc 0 hc13 Z (zp1 Z (qg (t:=66) hF Z ?_ ?_)))<;>intro hF
     ·refine X1 11 6 h Z ?_;obtain⟨_,_,hF,he4,_,_,_,_,hp4,hq4,hr18,hc14⟩:=(h.sl 8 Z).1.ix hF;obtain rfl:=qac hr18;refine zx hp4 hq4 ⟨he4.1,qD he4.2.1 (h.sl 8 Z).2⟩ Z (X0 3 Z (zc 0 hc14 Z (X0 6 Z ?_)));obtain rfl:=qb hF;exact rG ⟨_,hK6,rfl,h⟩ Z
     refine X0 12 Z ?_;obtain rfl:=qb hF;exact rG ⟨_,hK6,rfl,h⟩ Z
    rintro _ _ ⟨b4,hF,rfl,h⟩;subst hKF3;refine qk Z hF ?_ ?_<;>intro hF
    ·refine X0 3 Z (qq qa [.tmp 79] _ ([i45]:List Int) h Z Z Z Z Z Z Z Z Z ⟨rfl,G⟩ Z fun _ _ _ h=>?_);obtain⟨_,hx2,hF⟩:=qc hF;obtain⟨g2,hx2⟩:=qE hx2;refine qaB qa 1 h Z (h.sl 0 Z).1 (h.sl 0 Z).2 Z Z Z Z Z Z Z Z Z g2 hx2 Z fun _ _ _ _ h=>X0 8 Z ?_;replace h:=h.p [1,2,3,4,5,6,7,8,9,10,11] Z;exact rK ⟨_,_,_,_,_,_,hF,rfl,h⟩ Z
    exact X0 7 Z (rK ⟨_,_,_,_,_,_,hF,rfl,h⟩ Z)
   refine qv Z ?_;obtain rfl:=qb hF;replace hF:=hK5;refine X0 7 Z (qk Z hF ?_ ?_)<;>intro hF
   ·refine qv Z ?_;replace h:=h.p [1,2,3,4,5,6,7,8,9,10] Z;obtain rfl:=qb hF;exact rG ⟨_,_,_,_,_,_,_,hK4,rfl,h⟩ Z
   refine X0 7 Z ?_;replace h:=h.p [1,0,2,3,4,5,6,7,8,9,10] Z;obtain⟨⟨_,_,_⟩,hr19,hF⟩:=qc hF;refine nxC h ((qd (h.frG 10 1 1 Z Z Z)).1) hr19 Z Z Z fun _ h=>?_;obtain⟨y5,_,hF,he5,_,_,_,_,hp5,hq5,rfl,hc16⟩:=(h.sl 1 Z).1.ix hF;refine zx hp5 hq5 ⟨he5.1,qD he5.2.1 (h.sl 1 Z).2⟩ Z (zc 0 hc16 Z (X0 6 Z (qq qa [.tmp 93] _ ([y5]:List Int) h Z Z Z Z Z Z Z Z Z ⟨rfl,G⟩ Z fun _ _ _ h=>?_)));obtain⟨_,hx3,hF⟩:=qc hF;obtain⟨g3,hx3⟩:=qE hx3;refine qaB qa 3 h Z (h.sl 0 Z).1 (h.sl 0 Z).2 Z Z Z Z Z Z Z Z Z g3 hx3 Z fun _ _ _ _ h=>X1 8 7 h Z ?_;obtain⟨_,_,hF,he6,_,_,_,_,hp6,hq6,hr21,hc17⟩:=(h.sl 9 Z).1.ix hF;obtain rfl:=qac hr21;refine zx hp6 hq6 ⟨he6.1,qD he6.2.1 (h.sl 9 Z).2⟩ Z (zp1 Z (zc 1 hc17 Z (X0 8 Z ?_)));replace h:=h.p [1,3,4,5,6,7,8,9,10,11] Z;exact rK ⟨_,_,_,_,_,_,_,_,_,hF,rfl,h⟩ Z
  refine qv Z ?_;obtain rfl:=qb hF;exact rG ⟨_,_,_,_,_,_,_,hK4,rfl,h⟩ Z
 rintro _ _ ⟨S13,p20,ln7,k15,x7,i30,i31,hF,rfl,h⟩;subst hKF2;obtain rfl:=(h.sl 1 Z).2;refine X0 4 Z ?_;obtain⟨⟨_,_,_⟩,hr13,hF⟩:=qc hF;refine nxC h ((qd (h.frG 9 1 1 Z Z Z)).1) hr13 Z Z Z fun _ h=>X0 7 Z (qk Z hF ?_ ?_)<;>intro hF
 ·refine X1 9 5 h Z ?_;obtain⟨⟨i35,_,_⟩,hr14,hF⟩:=qc hF;refine nxC h ((qd (h.frG 9 1 1 Z Z Z)).1) hr14 Z Z Z fun _ h=>zp1 Z (qq qa [.tmp 117] _ ([W64 (i35-1)]:List Int) h Z Z Z Z Z Z Z Z Z ⟨rfl,G⟩ Z fun _ _ _ h=>?_);obtain⟨x8,hx1,hF⟩:=qc hF;obtain⟨g1,hx1⟩:=qE hx1;refine qaB qa 2 h Z (h.sl 0 Z).1 (h.sl 0 Z).2 Z Z Z Z Z Z Z Z Z g1 hx1 Z fun _ p22 k16 _ h=>X0 10 Z ?_;obtain rfl:=qb hF;replace h:=h.p [2,1,10] Z;exact qaM qa [vi y2.Bm,oV (List Int) [oS p22 x8.length k16]] ⟨rfl,rfl,G⟩ ⟨_,_,rfl,SH.unfr 1 2 h0 h Z Z⟩
 refine X0 5 Z (qk Z hF ?_ ?_)<;>intro hF
 ·refine X1 4 8 h Z (zcI h hF (qeW ⟨[oS s a_1.Ac.Aq.As.length p],[oS k a_1.Ac.Aa.Ab.length k3,oS f a_1.Ac.Aa.Ak.length c,oS g a_1.Ac.Aa.Aj.length d,oS o a_1.Ac.Af.length l],rfl,⟨_,_,rfl,(qbN (h.grp 9 0 Z Z)).1.1⟩,⟨[oS k a_1.Ac.Aa.Ab.length k3,oS f a_1.Ac.Aa.Ak.length c,oS g a_1.Ac.Aa.Aj.length d],[oS o a_1.Ac.Af.length l],rfl,⟨[oS k a_1.Ac.Aa.Ab.length k3],[oS f a_1.Ac.Aa.Ak.length c,oS g a_1.Ac.Aa.Aj.length d],rfl,⟨_,_,rfl,(qbN (h.grp 9 0 Z Z)).2.1.1⟩,⟨[oS f a_1.Ac.Aa.Ak.length c],[oS g a_1.Ac.Aa.Aj.length d],rfl,⟨_,_,rfl,(qbN (h.grp 9 0 Z Z)).2.2.1.1⟩,⟨_,_,rfl,(qbN (h.grp 9 0 Z Z)).2.2.2.1.1⟩⟩⟩,⟨_,_,rfl,(qbN (h.grp 9 0 Z Z)).2.2.2.2.1.1⟩⟩⟩) Z fun _ _ h hF=>?_);obtain⟨⟨i38,_,_⟩,hr16,hF⟩:=qc hF;refine nxC h ((qd (h.frG 9 1 1 Z Z Z)).1) hr16 Z Z Z fun _ h=>X0 10 Z ?_;obtain rfl:=qb hF;replace h:=h.p [1,0,9] Z;exact qaM qa [vi i38,oV (List Int) [oS p20 x7.length k15]] ⟨rfl,rfl,G⟩ ⟨_,_,rfl,SH.unfr 1 2 h0 h Z Z⟩
 refine X0 9 Z ?_;obtain rfl:=qb hF;replace h:=h.p [1,0,9] Z;exact qaM qa [vi y2.Bm,oV (List Int) [oS p20 x7.length k15]] ⟨rfl,rfl,G⟩ ⟨_,_,rfl,SH.unfr 1 2 h0 h Z Z⟩
def qfu(code:(List (IntK .u8))):Nat->Int->Int->Option (Int×Int)|0,_,_=>U|n+1,b,a=>(bif decide (a<(code.length:Int)) then V (decide (a<64)) else V false).bind fun b1=>bif b1 then(idx code a).bind fun c=>qfu code n ((W64 ((W64 (b*31))+(W64 c.val))).tmod 2147483647) (W64 (a+1)) else V (b,a)
def qkj(n:Nat)(code:(List (IntK .u8))):Option (Option Tl01Source):=(qfu code n 12345 0).bind fun(a,_)=>V (V (⟨code,0,a⟩:Tl01Source))
theorem qlJ{n w}{code:(List (IntK .u8))}{cs1}(p:Ro w code cs1){r:(Option Tl01Source)}(F:qkj n code=V r):RetZ prog 48 [oV (List (IntK .u8)) cs1] w (fun A L=>∃b g,r=(V (⟨code,0,g⟩:Tl01Source))/\A=[oV (Option Tl01Source) [vp b]]/\L=[oX b (cs1++[vi 0,vi g]) 191]):=by
 obtain⟨p1,k,rfl,s1⟩:=p;refine qpj func48 Z (m:=34) Z Z (fun h=>?_);refine X0 7 Z (r_v (qA qa [0,2] [.tmp 5,.const (vi (12345))] Z Z Z Z Z Z Z Z) Z (qC h Z Z fun _ a h=>X0 7 Z ?_));obtain⟨o1,F,o⟩:=qc F;refine qm (rL (fun m e w'=>∃f i,qfu code m f i=V o1/\e=[(0,oS p1 code.length k),(3,vp a),(4,vi i)]/\SH w w' [oX a [oS p1 code.length k,vi 0,vi f] 191]) n ⟨_,_,F,rfl,h⟩ Z ?_);rintro y _ _ ⟨f,i,F,rfl,h⟩;rcases y with _|y
 ·cases F
 refine zSS ?_;obtain⟨l,d,_,F,c⟩:=bindE F;refine qay (fun e w'=>∃b1,l b1=V o1/\e=[(0,oS p1 code.length k),(3,vp a),(4,vi i),(15,.bool b1)]/\SH w w' [oX a [oS p1 code.length k,vi 0,vi f] 191]) ?_ ?_
 ·refine X0 6 Z (qg (t:=12) F Z ?_ ?_)<;>intro F
  ·refine X0 6 Z ?_;obtain rfl:=qb F;exact rG ⟨_,c,rfl,h⟩ Z
  refine X0 4 Z ?_;obtain rfl:=qb F;exact rG ⟨_,c,rfl,h⟩ Z
 rintro _ _ ⟨b1,F,rfl,h⟩;subst d;refine qk Z F ?_ ?_<;>intro F
 ·refine zKSB (rA [15] [0] h Z fun _ h=>M1 255 [0,1,2,3,4,5,6,7] 0 (h.p [0] Z) Z ?_);obtain⟨_,_,F,u,_,_,_,_,v,x,rfl,s⟩:=s1.ix F;exact Ae 8 511 v x u (h.p [0] Z) Z (Al 9 1023 0 s (h.p [0] Z) Z (M0 8191 [10,11,12] (h.p [0] Z) Z (Ao 13 16383 Z (zp1 Z (G0 32767 [14] (h.p [0] Z) Z (Ao 15 65535 Z (zs 0 h Z fun _ h=>qbg (fun z=>absurd (z 15 (by decide)) (by decide)) (Ad (X0 6 Z (rK ⟨_,_,F,rfl,h⟩ Z))))))))))
 refine qv Z ?_;obtain rfl:=qb F;replace F:=o;refine X0 5 Z ?_;obtain rfl:=qb F;exact qs8 qa [oV (Option Tl01Source) [vp a]] h ⟨rfl,G⟩ ⟨a,f,rfl,rfl,rfl⟩
def qgY(n:Nat)(code:(List (IntK .u8))):Option (qax×Int×(List Int)):=(qkj n code).bind fun o=>match o with|some (⟨_,_,b⟩)=>((qig n (⟨code,0,b⟩:Tl01Source)).bind fun(a,c,d)=>(qhK n (⟨code,c,d⟩:Tl01Source) a).bind fun(f,g,_,_)=>V (a,f,g))|_=>U
theorem qmU{A}(hA:∀b,A b->old w b){code:(List (IntK .u8))}(H:GoT.R w A code cs1){r:(qax×Int×(List Int))}(F:qgY n code=V r):RetG prog 171 [oV (List (IntK .u8)) cs1] w A r:=by
 obtain⟨p1,P,rfl,s1⟩:=H;have e:=Rg.start hA;refine qcP func171 Z (m:=22) Z Z (fun h=>?_);refine zSR (qj qa h Z Z Z fun _ c h=>X0 6 Z ?_);obtain⟨_,J,F⟩:=qc F;refine qrX (cB 48 Z) (qlJ ⟨_,_,rfl,(h.oldS (s1.mono e.old))⟩ J) Z Z Z Z ?_;rintro _ _ _ N ⟨d,S,rfl,rfl,rfl⟩;replace h:SH _ _ [oX d [oS p1 code.length P,vi 0,vi S] 191,oX c [oS U 0 0,oS U 0 0,oS U 0 0,oS U 0 0,oS U 0 0,.string ByteArray.empty,vi 0,vi 0,vi 0,vi 0,oS U 0 0,oS U 0 0] 62]:=SH.appendN h N ⟨fun _ h=>h,G⟩;refine X0 5 Z ?_;obtain⟨⟨a,T,W⟩,K,F⟩:=qc F;refine qaQ (cB 83 Z) (qnF (s:=(⟨code,0,S⟩:Tl01Source)) h (qm0 _ (h.frOldS (s1.mono e.old))) K) Z Z Z Z ?_;rintro _ _ ⟨S1,_,rfl,h⟩;have L:=h.grpS 0 0 Z Z;obtain⟨t,g,u,k3,v,i,x,k,y,l,z,o,B,p,rfl,_,_,_,_,_,_,_⟩:=qbV L;replace h:SH _ _ [oG (fun _=>False) S1 [fct (a:qax) (qbn a t u v x y z B g k3 i k l o p)],oX d [oS p1 code.length P,vi T,vi W] 191,oX c [oS U 0 0,oS U 0 0,oS U 0 0,oS U 0 0,oS U 0 0,.string ByteArray.empty,vi 0,vi 0,vi 0,vi 0,oS U 0 0,oS U 0 0] 62]:=h;refine qj qa h Z Z Z fun _ D h=>zs 0 h Z fun _ h=>X1 5 0 h Z ?_;replace h:=h.p [2,0,1,3] Z;obtain⟨⟨C,f,X,Y⟩,M,F⟩:=qc F;refine qaQ (cB 175 Z) (qmR (a_0:=(⟨code,T,W⟩:Tl01Source)) (a_1:=a) h (qm0 _ (h.frOldS (s1.mono e.old))) (h.frG 2 0 1 Z Z Z) M) Z Z Z Z ?_;rintro _ _ ⟨S2,_,rfl,h⟩;obtain⟨R,Q,rfl,-⟩:=h.own 0 Z;replace h:SH _ _ [oW S2 (f:List Int) [oS R f.length Q],oX d [oS p1 code.length P,vi X,vi Y] 191,oX D (qbn a t u v x y z B g k3 i k l o p) 62,oG (fun _=>False) S1 [fct (a:qax) (qbn a t u v x y z B g k3 i k l o p)],oX c [oS U 0 0,oS U 0 0,oS U 0 0,oS U 0 0,oS U 0 0,.string ByteArray.empty,vi 0,vi 0,vi 0,vi 0,oS U 0 0,oS U 0 0] 62]:=h;refine X1 11 2 h Z (zs 4 h Z fun _ h=>X0 3 Z ?_);obtain rfl:=qb F;have O:GoRs.Rs (ρ:=(qax×Int×(List Int))) h.wc (reg A w h.wc) (a,C,f) [oV qax (qbn a t u v x y z B g k3 i k l o p),oV Int [vi C],oV (List Int) [oS R f.length Q]]:=⟨_,_,rfl,(e.outR h (GoT.mono (Rg.grpR 3 0 h Z Z) (fun _ hb=>hb.elim (fun h=>h.elim) .inr))),⟨_,_,rfl,rfl,⟨_,rfl,(e.outR h (Rg.ownR 0 h Z))⟩⟩⟩;have I:=h;replace h:=h.p [0,1,2,4] Z;exact qdA qa (ρ:=(qax×Int×(List Int))) (r:=(a,C,f)) [oV qax (qbn a t u v x y z B g k3 i k l o p),oV Int [vi C],oV (List Int) [oS R f.length Q]] h ⟨⟨_,_,_,rfl,rfl,I.box 4 Z,rfl⟩,rfl,rfl,G⟩ O

def qhJ(n:Nat)(code:(List (IntK .u8))):Option (qax×Int×(List Int)×Int):=(qgY n code).bind fun(h,i,k)=>(appS ([(⟨5⟩:IntK .u8)]:List (IntK .u8)) code).bind fun a=>(qkj n a).bind fun o=>match o with|some (⟨_,_,b⟩)=>((ql n (⟨a,0,b⟩:Tl01Source) 2).bind fun(c,d,f)=>(ql n (⟨a,d,f⟩:Tl01Source) 20).bind fun(g,_,_)=>V (h,i,k,W64 (c+(W64 (g.tdiv 19)))))|_=>U
theorem qnG{A}(hA:∀b,A b->old w b){code:(List (IntK .u8))}(R:GoT.R w A code cs1){r:(qax×Int×(List Int)×Int)}(F:qhJ n code=V r):RetG prog 91 [oV (List (IntK .u8)) cs1] w A r:=by
 obtain⟨_,_,rfl,s1⟩:=R;have hg:=Rg.start hA;refine qcP func91 Z (m:=29) Z Z (fun h=>?_);refine zSR (qj qa h Z Z Z fun _ O h=>X0 7 Z ?_);obtain⟨⟨d,s,g⟩,T,F⟩:=qc F;refine qlX (d,s,g) hg h (cB 171 Z) (qmU (hg.atB h) ⟨_,_,rfl,(hg.inBS h s1)⟩ T) Z Z Z Z fun _ _ S1 h a4=>?_;obtain⟨_,_,rfl,l,a5⟩:=qbJ a4;have W:=l;obtain⟨H,x,I,k3,J,y,K,z,L,B,M,C,N,D,rfl,_,_,_,_,_,_,_⟩:=qbV l;replace h:=h.grpAdd 0 Z W;obtain⟨_,_,rfl,o,a6⟩:=qbJ a5;have hr5:=o;obtain rfl:=o;obtain⟨_,rfl,p⟩:=qe1 a6;have X:=p;obtain⟨p9,k9,rfl,_⟩:=p;replace h:=h.grpAdd 0 Z X;refine zp4 Z (qj qa h Z Z Z fun _ P h=>zs 0 h Z fun _ h=>X0 5 Z (qq qa [.const (.int .u8 (5))] _ ([(⟨5⟩:IntK .u8)]:List (IntK .u8)) h Z Z Z Z Z Z Z Z Z ⟨rfl,G⟩ Z fun _ _ _ h=>zp1 Z ?_));obtain⟨i,f,F⟩:=qc F;obtain⟨g1,f⟩:=qE f;refine qaB qa 0 h Z (h.oldS (s1.mono hg.old)) Z Z Z Z Z Z Z Z Z Z g1 f Z fun _ c a S3 h=>?_;obtain⟨_,Y,F⟩:=qc F;refine qrX (cB 48 Z) (qlJ (h.own 0 Z) Y) Z Z Z Z ?_;rintro _ _ _ a3 ⟨Q,t,rfl,rfl,rfl⟩;replace h:SH _ _ [oX Q [oS c i.length a,vi 0,vi t] 191,oW S3 (i:List (IntK .u8)) [oS c i.length a],oX P (qbn d H I J K L M N x k3 y z B C D) 62,oG A S1 [fct (g:(List Int)) [oS p9 g.length k9],fct (d:qax) (qbn d H I J K L M N x k3 y z B C D)],oX O [oS U 0 0,oS U 0 0,oS U 0 0,oS U 0 0,oS U 0 0,.string ByteArray.empty,vi 0,vi 0,vi 0,vi 0,oS U 0 0,oS U 0 0] 62]:=SH.appendN h a3 ⟨fun _ h=>h,G⟩;refine X0 3 Z (rA [] [2] h Z fun _ h=>M1 47 [0,1,2,3,5] 0 (h.p [2] Z) Z (Ao 4 63 Z ?_));obtain⟨⟨u,i3,i4⟩,e,F⟩:=qc F;refine qaQ (cB 50 Z) (qje (a_0:=(⟨i,0,t⟩:Tl01Source)) (a_1:=2) h ⟨[oS c i.length a],[vi 0,vi t],rfl,(h.frO 1 1 Z Z),⟨[vi 0],[vi t],rfl,rfl,rfl⟩⟩ e) Z Z Z Z ?_;rintro _ _ ⟨rfl,h⟩;dsimp only at h;refine Ag (h.p [2] Z) (Ao 6 127 Z ?_);obtain⟨⟨v,_,_⟩,k,F⟩:=qc F;refine qaQ (cB 50 Z) (qje (a_0:=(⟨i,i3,i4⟩:Tl01Source)) (a_1:=20) h ⟨[oS c i.length a],[vi i3,vi i4],rfl,(h.frO 1 1 Z Z),⟨[vi i3],[vi i4],rfl,rfl,rfl⟩⟩ k) Z Z Z Z ?_;rintro _ _ ⟨rfl,h⟩;dsimp only at h;refine G0 511 [7,8] (h.p [2] Z) Z (Ao 9 1023 Z (zs 4 h Z fun _ h=>G0 8191 [10,11,12] (h.p [2] Z) Z (Ad ?_)));obtain rfl:=qb F;have a7:GoRs.Rs (ρ:=(qax×Int×(List Int)×Int)) h.wc (reg A w h.wc) (d,s,g,W64 (u+(W64 (v.tdiv 19)))) [oV qax (qbn d H I J K L M N x k3 y z B C D),oV Int [vi s],oV (List Int) [oS p9 g.length k9],oV Int [vi (W64 (u+(W64 (v.tdiv 19))))]]:=⟨_,_,rfl,(hg.outR h (Rg.grpR 3 1 h Z Z)),⟨_,_,rfl,rfl,⟨_,_,rfl,(hg.outR h (Rg.grpR 3 0 h Z Z)),⟨_,rfl,rfl⟩⟩⟩⟩;have S:=h;replace h:=h.p [0,1,2,4] Z;exact qdA qa (ρ:=(qax×Int×(List Int)×Int)) (r:=(d,s,g,W64 (u+(W64 (v.tdiv 19))))) [oV qax (qbn d H I J K L M N x k3 y z B C D),oV Int [vi s],oV (List Int) [oS p9 g.length k9],oV Int [vi (W64 (u+(W64 (v.tdiv 19))))]] h ⟨⟨_,_,_,rfl,rfl,S.box 4 Z,rfl⟩,rfl,rfl,rfl,G⟩ a7
def qbY(n:Nat)(code:(List (IntK .u8))):Option (qax×Int×(List Int)×Int):=(qhJ n code).bind fun(a,b,c,d)=>V (a,b,c,d)
theorem qdb{A}(e:∀b,A b->old w b){code:(List (IntK .u8))}(o:GoT.R w A code cs1){r:(qax×Int×(List Int)×Int)}(F:qbY n code=V r):RetG prog 41 [oV (List (IntK .u8)) cs1] w A r:=by
 obtain⟨_,_,rfl,s1⟩:=o;have Y:=Rg.start e;refine qcP func41 Z (m:=12) Z Z (fun h=>?_);refine zSR (qj qa h Z Z Z fun _ _ h=>X0 7 Z ?_);obtain⟨⟨g,i,k,l⟩,s,F⟩:=qc F;refine qlX (g,i,k,l) Y h (cB 91 Z) (qnG (Y.atB h) ⟨_,_,rfl,(Y.inBS h s1)⟩ s) Z Z Z Z fun _ _ _ h v=>?_;obtain⟨_,_,rfl,a,x⟩:=qbJ v;have t:=a;obtain⟨M,C,N,k3,O,D,P,H,Q,I,R,J,S,K,rfl,_,_,_,_,_,_,_⟩:=qbV a;replace h:=h.grpAdd 0 Z t;obtain⟨_,_,rfl,c,y⟩:=qbJ x;have W:=c;obtain rfl:=c;obtain⟨_,_,rfl,d,z⟩:=qbJ y;have u:=d;obtain⟨T,L,rfl,_⟩:=d;replace h:=h.grpAdd 0 Z u;obtain⟨_,rfl,f⟩:=qe1 z;have X:=f;obtain rfl:=f;refine zp4 Z (zs 1 h Z fun _ h=>X0 4 Z ?_);obtain rfl:=qb F;have B:GoRs.Rs (ρ:=(qax×Int×(List Int)×Int)) h.wc (reg A w h.wc) (g,i,k,l) [oV qax (qbn g M N O P Q R S C k3 D H I J K),oV Int [vi i],oV (List Int) [oS T k.length L],oV Int [vi l]]:=⟨_,_,rfl,(Y.outR h (Rg.grpR 0 1 h Z Z)),⟨_,_,rfl,rfl,⟨_,_,rfl,(Y.outR h (Rg.grpR 0 0 h Z Z)),⟨_,rfl,rfl⟩⟩⟩⟩;have p:=h;replace h:=h.p [1] Z;exact qdA qa (ρ:=(qax×Int×(List Int)×Int)) (r:=(g,i,k,l)) [oV qax (qbn g M N O P Q R S C k3 D H I J K),oV Int [vi i],oV (List Int) [oS T k.length L],oV Int [vi l]] h ⟨⟨_,_,_,rfl,rfl,p.box 1 Z,rfl⟩,rfl,rfl,rfl,G⟩ B
end Go.Fw


namespace Go.Fw
open Go
structure ql4(x:qaA):Prop where
 Bi:okS x.Bi
 Bv:okI x.Bv
 Bq:okI x.Bq
 Br:okT x.Br
structure qhm(x:qI):Prop where
 Bn:(okL okI) x.Bn
 Bj:(okL okI) x.Bj
 Bf:(okL okI) x.Bf
structure qll(x:qat):Prop where
 Be:okI x.Be
 Bl:okI x.Bl
 To:okI x.To
 Bp:okI x.Bp
 Bo:(okL qhm) x.Bo
 Ba:(okL qhm) x.Ba
structure qnj(x:qF):Prop where
 Bi:okS x.Bi
 Be:okI x.Be
 Bg:(okL ql4) x.Bg
 Av:(okL qll) x.Av
 Bs:(okL okI) x.Bs
 Ca:okI x.Ca
 Bw:okI x.Bw
structure qhe(x:qw):Prop where
 As:(okL qnj) x.As
structure qpk(x:qH):Prop where
 Bi:okS x.Bi
 Bt:okI x.Bt
 Ak:(okL okI) x.Ak
structure qrA(x:qaD):Prop where
 Bi:okS x.Bi
 Bv:okI x.Bv
 Bz:okI x.Bz
structure qkr(x:qh):Prop where
 Ab:(okL qpk) x.Ab
 Ak:(okL okS) x.Ak
 Aj:(okL qrA) x.Aj
structure qou(x:qan):Prop where
 Am:(okL okI) x.Am
 Bu:(okL okI) x.Bu
 Bq:(okL okI) x.Bq
 Bk:(okL okI) x.Bk
structure qjO(x:qe):Prop where
 Aq:qhe x.Aq
 Aa:qkr x.Aa
 Af:(okL qou) x.Af
structure qpc(x:qu):Prop where
 Bi:okS x.Bi
 Ay:okI x.Ay
 Bb:okI x.Bb
 Au:okI x.Au
 Bc:okI x.Bc
structure qpW(x:qf):Prop where
 Ar:okI x.Ar
 Bd:okI x.Bd
structure qhw(x:qi):Prop where
 Bm:okI x.Bm
 Ah:qpW x.Ah
 Ba:qpW x.Ba
structure qjb(x:qax):Prop where
 Ac:qjO x.Ac
 Ai:qpc x.Ai
 Bh:(okL okI) x.Bh
 Ap:(okL qhw) x.Ap
structure qxK(x:qwW):Prop where
 Cf:okI x.Cf
 Cb:(okL okI) x.Cb
 Ah:okI x.Ah
structure qxy(x:qx):Prop where
 Az:(okL okT) x.Az
 Ah:(okL qpW) x.Ah
 Ba:(okL qpW) x.Ba
structure qvu(x:qo0):Prop where
 Cg:okI x.Cg
 Ce:okI x.Ce
structure qr2(x:qjn):Prop where
 Bl:okI x.Bl
 To:okI x.To
 Bo:okI x.Bo
 Cd:okI x.Cd
structure qvz(x:qor):Prop where
 Cc:(okL qvu) x.Cc
 Cb:(okL qr2) x.Cb
end Go.Fw


namespace Go.Fw
open Go
set_option maxRecDepth 100000
theorem qcY{n:Nat}{x lo hi:Int}:qaH n x lo hi=V (inI x lo hi):=by
 simp only[qaH,qm6,qn7];rfl
theorem qdd{n:Nat}{x lo hi:Int}:qaZ n x lo hi=V (inI x lo hi):=by
 simp only[qaZ,qm6,qn7];rfl
def bt(s:ByteArray)(j:Nat):Nat:=(s.data.toList.getD j 0).toNat
theorem quR{s:ByteArray}{j:Nat}(h:j<s.size):atS s (j:Int)=V (bt s j:Int):=by
 have a:j<s.data.size:=h;have b:j<s.data.toList.length:=by simpa using a
 unfold atS;rw[if_pos (by omega),jp];have:s[j]?=V (s.data.toList.getD j 0):=by
  rw[getElem?_pos s j h,jD,jo b]
  rfl
 rw[this]
 rfl
def letB(b:Nat):Bool:=decide (97<=b)&&decide (b<=122)
def digB(b:Nat):Bool:=decide (48<=b)&&decide (b<=57)
def chB(s:ByteArray)(j:Nat):Bool:=letB (bt s j) || digB (bt s j)&&decide (0<j)
def nameB(s:ByteArray):Bool:=(decide (1<=s.size)&&decide (s.size<=8))&&allN (chB s) s.size
theorem ql7{s:ByteArray}(h:okS s):Ev (fun n=>qgG n s) (nameB s):=by
 unfold okS at h;have d:Ev (fun n=>qes s n 0) (bif allN (chB s) s.size then .nxt (s.size:Int) else .ret false):=by
  refine qeG ?_ (fun j a X f=>?_)
  ·exact Ev.succ (by simp only[qes,qp (jf _),cond_false];exact .done)
  ·refine Ev.succ ?_;simp only[qes,qn a,cond_true,quR a,jd,qm6,qn7,wS j];have e1:(decide ((bt s j:Int)>=97)&&decide ((bt s j:Int)<=122))=letB (bt s j):=by unfold letB;rw[jm];simp;omega
   have b:(decide ((bt s j:Int)>=48)&&decide ((bt s j:Int)<=57))=digB (bt s j):=by unfold digB;rw[jm];simp;omega
   have c:decide ((j:Int) > 0)=decide (0<j):=by rw[jm];simp
   rw[e1,b,c];unfold chB;cases letB (bt s j)<;>cases digB (bt s j)<;>cases decide (0<j)<;>first|exact f|exact .done
 unfold qgG;refine Ev.cast (r:=bif allN (chB s) s.size then(decide (1<=s.size)&&decide (s.size<=8)) else false) (Ev.bindB d (fun _=>?_) (fun _=>.done)) ?_
 ·simp only[qm6,qn7];exact Ev.now (by congr 1;rw[jm];simp;omega)
 ·unfold nameB;cases allN (chB s) s.size<;>simp
def cutset:List UInt8:=[97,98,99,100,101,102,103,104,105,106,107,108,109,110,111,112,113,114,115,116,117,118,119,120,121,122,48,49,50,51,52,53,54,55,56,57]
theorem qqu(b:UInt8):cutset.contains b=(letB b.toNat || digB b.toNat):=by
 have a:(List.range 256).all (fun m=>cutset.contains (UInt8.ofNat m)==(letB (UInt8.ofNat m).toNat || digB (UInt8.ofNat m).toNat))=true:=by kernel_rfl
 have h:=List.all_eq_true.1 a b.toNat (List.mem_range.2 b.toNat_lt);rw[beq_iff_eq] at h;simpa using h
def letters:List UInt8:=[97,98,99,100,101,102,103,104,105,106,107,108,109,110,111,112,113,114,115,116,117,118,119,120,121,122]
theorem qtf(m:Nat)(b:m<256):decide ((Lib.indexByte letters m.toUInt8)>=0)=letB m:=by
 have a:(List.range 256).all (fun m=>decide ((Lib.indexByte letters m.toUInt8)>=0)==letB m)=true:=by kernel_rfl
 have h:=List.all_eq_true.1 a m (List.mem_range.2 b);rwa [beq_iff_eq] at h
theorem qqR{α:Type}{p:α->Bool}{l:List α}:l.dropWhile p=[]↔∀x,x∈l->p x=true:=by
 induction l with
 |nil=>simp
 |cons y l ih=>
  rw[List.dropWhile_cons];by_cases h:p y=true
  ·rw[if_pos h,ih];simp[h]
  ·rw[if_neg h];simp[h]
theorem qqK{α:Type}{p:α->Bool}{l:List α}(h:∀x,x∈l.dropWhile p->p x=true):∀x,x∈l->p x=true:=by
 induction l with
 |nil=>simp
 |cons y l ih=>
  rw[List.dropWhile_cons] at h;by_cases b:p y=true
  ·rw[if_pos b] at h;intro x a;rcases List.mem_cons.1 a with rfl|a
   ·exact b
   ·exact ih h x a
  ·rw[if_neg b] at h;exact h
theorem qvx{l cs:List UInt8}:Lib.trimS l cs=[]↔∀x,x∈l->cs.contains x=true:=by
 unfold Lib.trimS Lib.trimRightS Lib.trimLeftS;rw[qqR];constructor
 ·intro h x a;exact qqK (p:=(cs.contains ·)) (l:=l.reverse) (fun y b=>h y (List.mem_reverse.2 b)) x (List.mem_reverse.2 a)
 ·intro h x a;exact h x (List.mem_reverse.1 ((List.dropWhile_suffix _).subset (List.mem_reverse.1 a)))
theorem qh4{a b:ByteArray}:(a.toList==b.toList)=decide (a=b):=by
 rw[jm,beq_iff_eq,decide_eq_true_iff];constructor
 ·intro h;exact ByteArray.ext (by have:=congrArg List.toArray h;simpa [ByteArray.toList_eq] using this)
 ·rintro rfl;rfl

theorem qwS{s:ByteArray}{j:Nat}(h:j<s.data.toList.length):bt s j=(s.data.toList[j]).toNat:=by
 unfold bt;rw[jD,jo h];rfl
theorem qxD{s:ByteArray}{j:Nat}:bt s j<256:=UInt8.toNat_lt _
theorem qpb{n:Nat}{s:ByteArray}(h:okS s):qiE n s=V (nameB s):=by
 unfold okS at h;have z:s.data.toList.length=s.size:=by simp
 simp only[qiE,qdd,jd];cases hI:inI (s.size:Int) 1 8 with
 |false=>
  have k:(decide (1<=s.size)&&decide (s.size<=8))=false:=by rw[quD] at hI;rw[Bool.and_eq_false_iff,decide_eq_false_iff_not,decide_eq_false_iff_not];omega
  simp[nameB,k]
 |true=>
  have k:1<=s.size/\s.size<=8:=by rw[qa9] at hI;omega
  have t:qiO n s (⟨#[97,98,99,100,101,102,103,104,105,106,107,108,109,110,111,112,113,114,115,116,117,118,119,120,121,122,48,49,50,51,52,53,54,55,56,57]⟩:ByteArray)=V ⟨(Lib.trimS s.data.toList cutset).toArray⟩:=by
   unfold qiO;rw[if_pos ⟨by omega,by decide,by decide⟩]
   rfl
  rw[t];simp only[cond_true,jd];have p:(((⟨(Lib.trimS s.data.toList cutset).toArray⟩:ByteArray).toList==(⟨#[]⟩:ByteArray).toList))=allN (fun j=>letB (bt s j) || digB (bt s j)) s.size:=by
   rw[qh4,jm,decide_eq_true_iff,qah];have:((⟨(Lib.trimS s.data.toList cutset).toArray⟩:ByteArray)=⟨#[]⟩)↔Lib.trimS s.data.toList cutset=[]:=by
    constructor
    ·intro i;have:=congrArg (fun x:ByteArray=>x.data.toList) i;simpa using this
    ·intro i;rw[i]
   rw[this,qvx];constructor
   ·intro m j a;have c:j<s.data.toList.length:=by omega
    have:=m _ (jn c);rw[qqu,<-qwS c] at this;exact this
   ·intro m x u;obtain⟨j,a,rfl⟩:=Jb u;have:=m j (by omega);rw[qqu,<-qwS a];exact this
  rw[p];have o:atS s 0=V (bt s 0:Int):=quR (j:=0) (by omega);have g:decide (Lib.indexByte letters (bt s 0:Int).toNat.toUInt8>=0)=letB (bt s 0):=by
   rw[jp];exact qtf _ qxD
  have r:∀b:Bool,(bif b then(atS s 0).bind fun y=>(qgW n (⟨#[97,98,99,100,101,102,103,104,105,106,107,108,109,110,111,112,113,114,115,116,117,118,119,120,121,122]⟩:ByteArray) (⟨y⟩:IntK .u8)).bind fun v=>V (decide (v>=0)) else V false)=V (b&&letB (bt s 0)):=by
   intro b;cases b with
   |false=>rfl
   |true=>
    rw[o];simp only[cond_true,jd,qgW,jB];exact congrArg V g
  rw[r]
  congr 1
  have l:(decide (1<=s.size)&&decide (s.size<=8))=true:=by simp[k]
  unfold nameB;rw[l,jB,jm,je,qah,qah];simp only[chB,Bool.or_eq_true,je,decide_eq_true_eq];constructor
  ·rintro⟨d,f⟩ j a;rcases Nat.eq_zero_or_pos j with rfl|hp
   ·exact .inl f
   ·exact(d j a).imp id (fun h=>⟨h,hp⟩)
  ·intro d;refine⟨fun j a=>(d j a).imp id (fun h=>h.1),?_⟩;rcases d 0 (by omega) with f|f
   ·exact f
   ·omega
def strAt(xs:List ByteArray)(j:Nat):ByteArray:=xs.getD j ByteArray.empty
theorem qol{xs:List ByteArray}{j:Nat}(h:j<xs.length):strAt xs j=xs[j]:=by simp[strAt,h]
theorem qpP{xs:List ByteArray}{j:Nat}(h:j<xs.length):idx xs (j:Int)=V (strAt xs j):=by rw[qa1 h,qol h]
def neB(xs:List ByteArray)(j i:Nat):Bool:=!decide (strAt xs i=strAt xs j)
def namesB(xs:List ByteArray):Bool:=allN (fun j=>nameB (strAt xs j)&&allN (neB xs j) j) xs.length
theorem qng{xs:List ByteArray}(h:okL okS xs):Ev (fun n=>qgO n xs) (namesB xs):=by
 have f:=h.len;have c:∀j,j<xs.length->Ev (fun n=>qe0 xs (j:Int) n 0) (bif allN (neB xs j) j then .nxt (j:Int) else .ret false):=by
  intro j a;refine qeG ?_ (fun i hi X d=>Ev.succ ?_)
  ·exact Ev.succ (by simp only[qe0,qp (jf _),cond_false];exact .done)
  ·simp only[qe0,qn hi,cond_true,qpP (show i<xs.length by omega),qpP a,jd,qh4,wS i];unfold neB;cases decide (strAt xs i=strAt xs j)
   ·exact d
   ·exact .done
 have b:Ev (fun n=>qeY xs n 0) (bif namesB xs then .nxt (xs.length:Int) else .ret false):=by
  refine qeG ?_ (fun j a X d=>Ev.succ ?_)
  ·exact Ev.succ (by simp only[qeY,qp (jf _),cond_false];exact .done)
  ·simp only[qeY,qn a,cond_true,qpP a,jd,wS j];refine Ev.bind (ql7 (by rw[qol a];exact h.at a)) ?_;cases nameB (strAt xs j)
   ·exact .done
   ·refine Ev.ff Z (Ev.bind (c j a) ?_);cases allN (neB xs j) j
    ·exact .done
    ·exact d
 unfold qgO;refine Ev.bind b ?_;cases namesB xs<;>exact .done
theorem qst{xs:List ByteArray}{v:ByteArray}(c:xs.length<=1048576):Ev (fun n=>qf1 n xs v) (ixL (fun x=>decide (v=x)) xs):=
 qge (fin:=(xs.length:Int)) (Lf:=qcm xs v) (pf:=fun _ x=>V (decide (v=x))) (fun _ _=>.done)
  (fun n=>by simp only[qcm,qp (jf _),cond_false])
  (fun n j x a=>by
   have b:=(List.getElem?_eq_some_iff.1 a).1;simp only[qcm,qn b,cond_true,qhk a,jd,qh4,wS j])
  (fun n=>by unfold qf1;congr 1;funext o;cases o<;>rfl)
theorem qpX{xs:List ByteArray}{v:ByteArray}(a:xs.length<=1048576):Ev (fun n=>qeB n xs v) (xs.any fun x=>decide (v=x)):=by
 unfold qeB;exact Ev.bind (qst a) (Ev.now (by rw[qmN]))
theorem qjC{xs:List ByteArray}(h:okL okS xs):Ev (fun n=>qeJ n xs) (namesB xs):=by
 have g:=h.len;have b:Ev (fun n=>qeR xs n 0) (bif namesB xs then .nxt (xs.length:Int) else .ret false):=by
  refine qeG ?_ (fun j a X c=>Ev.succ ?_)
  ·exact Ev.succ (by simp only[qeR,qp (jf _),cond_false];exact .done)
  ·have f:subS xs 0 (j:Int)=V (xs.take j):=by
    unfold subS;rw[if_pos ⟨by omega,by omega,by omega⟩];simp
   simp only[qeR,qn a,cond_true,qpP a,jd,f,qpb (show okS (strAt xs j) by rw[qol a];exact h.at a),wS j];cases nameB (strAt xs j)
   ·exact .done
   ·refine Ev.ff Z (Ev.bind (qpX (by simp;omega)) ?_);have:((xs.take j).any fun x=>decide (strAt xs j=x)) = !allN (neB xs j) j:=by
     rw[qsU (d:=ByteArray.empty)]
     congr 1
     rw[jZ,Nat.min_eq_left (by omega)];refine qis (fun i hi=>?_);unfold neB strAt
     congr 1
     have:(xs.take j).getD i ByteArray.empty=xs.getD i ByteArray.empty:=by simp[jD,hi]
     rw[this];exact decide_eq_decide.2 eq_comm
    rw[this];cases allN (neB xs j) j
    ·exact .done
    ·exact c
 unfold qeJ;refine Ev.bind b ?_;cases namesB xs<;>exact .done

theorem qqU{n:Nat}{x lo hi:Int}:qhs n x lo hi=V (!inI x lo hi):=by simp only[qhs,qdd,jd]
theorem qeH{xs:List Int}{lo hi:Int}(d:xs.length<=1048576):Ev (fun n=>qcb n xs lo hi) (xs.all fun x=>inI x lo hi):=by
 have b:Ev (fun n=>qa8 n xs lo hi) (ixL (fun x=>!inI x lo hi) xs):=
  qge (fin:=(xs.length:Int)) (Lf:=qap xs lo hi) (pf:=fun _ x=>V (!inI x lo hi)) (fun _ _=>.done)
   (fun n=>by simp only[qap,qp (jf _),cond_false])
   (fun n j x a=>by
    have c:=(List.getElem?_eq_some_iff.1 a).1;simp only[qap,qn c,cond_true,qhk a,jd,qqU,wS j])
   (fun n=>by unfold qa8;congr 1;funext o;cases o<;>rfl)
 unfold qcb qbP;refine Ev.bind (Ev.bind b (Ev.now Z)) (Ev.now ?_);rw[qmN,qov]
def stepB(xs:List Int)(j:Nat):Bool:=decide (j=0) || decide (at0 xs (j-1)<at0 xs j)
def incB(xs:List Int):Bool:=allN (stepB xs) xs.length
theorem qml{xs:List Int}(m:xs.length<=1048576):Ev (fun n=>qfP n xs) (incB xs):=by
 have g:Ev (fun n=>qbO xs n 1) (bif incB xs then .nxt (max 1 xs.length:Int) else .ret false):=by
  by_cases b:xs.length=0
  ·have k:incB xs=true:=by unfold incB;rw[b];rfl
   rw[k];refine Ev.succ ?_;have:decide ((1:Int)<(xs.length:Int))=false:=by rw[b];decide
   simp only[qbO,this,cond_false];exact Ev.now (by rw[b];rfl)
  ·have:=qtX (Lf:=qbO xs) (len:=xs.length) (i0:=1) (f:=stepB xs) (bad:=false) (fin:=.nxt (max 1 xs.length:Int)) (by omega)
    (Ev.succ (by
     simp only[qbO,qp (jf _),cond_false];exact Ev.now (by congr 2;omega)))
    (fun j l a X i=>Ev.succ (by
     simp only[qbO,qn a,cond_true,wS j,show(j:Int)-1=((j-1:Nat):Int) by omega,qN (show -9223372036854775808<=((j-1:Nat):Int) by omega) (by omega),qai (show j-1<xs.length by omega),qai a,jd];unfold stepB;by_cases c:at0 xs (j-1)<at0 xs j
     ·have e1:decide (at0 xs (j-1)>=at0 xs j)=false:=by simp;omega
      rw[e1];simp only[c,decide_true,Bool.or_true,cond_true,cond_false];exact i
     ·have e1:decide (at0 xs (j-1)>=at0 xs j)=true:=by simp;omega
      have d:decide (j=0)=false:=by simp;omega
      rw[e1,d];simp only[c,decide_false,Bool.or_self,cond_true,cond_false];exact .done))
   have e:allN (fun j=>stepB xs (1+j)) (xs.length-1)=incB xs:=by
    unfold incB;rw[jm,qah,qah];constructor
    ·intro h j a;cases j with
     |zero=>rfl
     |succ j=>have:=h j (by omega);rwa [Nat.add_comm] at this
    ·intro h j a;exact h (1+j) (by omega)
   rw[e] at this;exact this
 unfold qfP;refine Ev.bind g ?_;cases incB xs<;>exact .done
def lenB{α:Type}(xs:List α)(lo hi:Nat):Bool:=decide (lo<=xs.length)&&decide (xs.length<=hi)
theorem qr7{α:Type}{xs:List α}{lo hi:Nat}:inI (xs.length:Int) (lo:Int) (hi:Int)=lenB xs lo hi:=by
 unfold inI lenB;rw[jm];simp
def axisB(xs:List Int):Bool:=lenB xs 1 4&&((xs.all fun x=>inI x 0 100000)&&incB xs)
theorem qrt{xs:List Int}(a:xs.length<=1048576):Ev (fun n=>qjL n xs) (axisB xs):=by
 simp only[qjL,qbI,jd,qdd,show inI (xs.length:Int) 1 4=lenB xs 1 4 from qr7 (lo:=1) (hi:=4)];unfold axisB;cases lenB xs 1 4
 ·exact .done
 ·refine Ev.tt Z (Ev.bind (qeH a) ?_);cases (xs.all fun x=>inI x 0 100000)
  ·exact .done
  ·exact Ev.tt Z (Ev.bind (qml a) .done)
theorem qqF{xs:List Int}(k:xs.length<=1048576):Ev (fun n=>qi2 n xs) (axisB xs):=by
 have i:Ev (fun n=>qeo xs n 0) (bif allN (fun j=>inI (at0 xs j) 0 100000&&stepB xs j) xs.length then .nxt (xs.length:Int) else .ret false):=by
  refine qeG ?_ (fun j c X a=>Ev.succ ?_)
  ·exact Ev.succ (by simp only[qeo,qp (jf _),cond_false];exact .done)
  ·simp only[qeo,qn c,cond_true,qai c,jd,qcY,wS j];cases inI (at0 xs j) 0 100000
   ·exact .done
   ·simp only[Jj,cond_false,jB];unfold stepB;by_cases h:j=0
    ·subst h;exact Ev.ff (by decide) a
    ·simp only[show(j:Int)-1=((j-1:Nat):Int) by omega,qN (show -9223372036854775808<=((j-1:Nat):Int) by omega) (by omega),qai (show j-1<xs.length by omega),jd];have f:decide (j=0)=false:=by simp;omega
     have g:decide ((j:Int) > 0)=true:=by simp;omega
     rw[f,g];simp only[cond_true,Bool.false_or];by_cases b:at0 xs (j-1)<at0 xs j
     ·have e1:decide (at0 xs (j-1)>=at0 xs j)=false:=by simp;omega
      rw[e1];simp only[b,decide_true,cond_true,cond_false];exact a
     ·have e1:decide (at0 xs (j-1)>=at0 xs j)=true:=by simp;omega
      rw[e1];simp only[b,decide_false,cond_true,cond_false];exact .done
 have e:axisB xs=(allN (fun j=>inI (at0 xs j) 0 100000&&stepB xs j) xs.length&&lenB xs 1 4):=by
  unfold axisB incB;rw[qls,qg9 (d:=0),Bool.and_comm]
  rfl
 rw[e];unfold qi2;refine Ev.bind i ?_;cases allN (fun j=>inI (at0 xs j) 0 100000&&stepB xs j) xs.length
 ·exact .done
 ·simp only[cond_true,qm6,qn7,jB];exact Ev.now (by congr 1;unfold lenB;rw[jm];simp;omega)
def tableB(t:qI):Bool:=axisB t.Bn&&(axisB t.Bj&&(decide (t.Bf.length=t.Bn.length*t.Bj.length)&&(t.Bf.all fun x=>inI x (-1000000) 1000000)))
theorem qpR{a b:Nat}(c:a<=1048576)(d:b<=1048576):W64 ((a:Int)*(b:Int))=((a*b:Nat):Int):=by
 have h:a*b<=1048576*1048576:=Nat.mul_le_mul c d;have e:(a:Int)*(b:Int)=((a*b:Nat):Int):=by simp
 rw[e];exact qN (by omega) (by omega)
theorem qth{t:qI}(h:qhm t):Ev (fun n=>qkf n t) (tableB t):=by
 unfold qkf tableB;refine Ev.bind (qrt h.Bn.len) ?_;cases axisB t.Bn
 ·exact .done
 ·refine Ev.tt Z (Ev.bind (qrt h.Bj.len) ?_);cases axisB t.Bj
  ·exact .done
  ·rw[qpR h.Bn.len h.Bj.len];have e:(((t.Bf.length:Nat):Int)==((t.Bn.length*t.Bj.length:Nat):Int))=decide (t.Bf.length=t.Bn.length*t.Bj.length):=by rw[jm];simp;omega
   rw[e];cases decide (t.Bf.length=t.Bn.length*t.Bj.length)
   ·exact .done
   ·exact Ev.tt Z (Ev.tt Z (Ev.bind (qeH h.Bf.len) .done))
theorem qpr{t:qI}(h:qhm t):Ev (fun n=>qi8 n t) (tableB t):=by
 have f:=h.Bf.len;have c:Ev (fun n=>qfv t n 0) (bif (t.Bf.all fun x=>inI x (-1000000) 1000000) then .nxt (t.Bf.length:Int) else .ret false):=
  qkL (fun n=>by simp only[qfv,qp (jf _),cond_false]) (fun j a X d=>by
   simp only[qfv,qn a,cond_true,qa1 a,jd,qcY,wS j];cases inI t.Bf[j] (-1000000) 1000000
   ·exact .done
   ·exact d)
 unfold qi8 tableB;refine Ev.bind (b:=!(axisB t.Bn&&(axisB t.Bj&&decide (t.Bf.length=t.Bn.length*t.Bj.length)))) ?_ ?_
 ·refine Ev.bind (qqF h.Bn.len) ?_;cases axisB t.Bn
  ·exact .done
  ·refine Ev.ff Z (Ev.bind (qqF h.Bj.len) ?_);cases axisB t.Bj
   ·exact .done
   ·refine Ev.ff Z (Ev.now ?_);rw[qpR h.Bn.len h.Bj.len]
    congr 1
    rw[jm];simp;omega
 ·cases axisB t.Bn
  ·exact .done
  ·cases axisB t.Bj
   ·exact .done
   ·cases decide (t.Bf.length=t.Bn.length*t.Bj.length)
    ·exact .done
    ·refine Ev.ff Z (Ev.bind c ?_);cases (t.Bf.all fun x=>inI x (-1000000) 1000000)<;>exact .done

instance:Inhabited qaA:=⟨⟨ByteArray.empty,0,0,false⟩⟩
instance:Inhabited qI:=⟨⟨[],[],[]⟩⟩
instance:Inhabited qat:=⟨⟨0,0,0,0,[],[]⟩⟩
instance:Inhabited qF:=⟨⟨ByteArray.empty,0,[],[],[],0,0⟩⟩
instance:Inhabited qH:=⟨⟨ByteArray.empty,0,[]⟩⟩
instance:Inhabited qaD:=⟨⟨ByteArray.empty,0,0⟩⟩
instance:Inhabited qan:=⟨⟨[],[],[],[]⟩⟩
theorem lastE{j m:Nat}(h:j<m)(a:m<=1048576):((j:Int)==W64 ((m:Int)-1))=decide (j+1=m):=by
 rcases qwP h with h|h
 ·exact h
 ·omega
theorem qkm{α:Type}[Inhabited α]{xs:List α}{g:α->ByteArray}{j:Nat}(h:j<xs.length):strAt (xs.map g) j=g (gt xs j):=by
 rw[qol (by simpa using h),qd6 h];simp
theorem qnk{α:Type}{xs:List α}{g:α->ByteArray}{ok:α->Prop}(h:okL ok xs)(a:∀x,ok x->okS (g x)):okL okS (xs.map g):=
 ⟨by rw[jr];exact h.1,fun y c=>by
  obtain⟨x,b,rfl⟩:=List.mem_map.1 c;exact a x (h.2 x b)⟩
theorem qlS{α β:Type}{xs:List α}{g:α->β}{j:Nat}(h:j<xs.length)(a:xs.length<=1048576){y:β}:appS ((xs.take j).map g) [y]=V ((xs.take j).map g++[y]):=
 qcE (by simp;omega)
def pinB(ps:List qaA)(j:Nat):Bool:=
 bif decide (j+1=ps.length) then((gt ps j).Bv==2)&&(((gt ps j).Bq==0)&&!(gt ps j).Br) else((gt ps j).Bv==1)&&inI (gt ps j).Bq 0 500
def pinsB(ps:List qaA):Bool:=allN (pinB ps) ps.length&&(lenB ps 2 5&&namesB (ps.map qaA.Bi))
def clkN(ps:List qaA)(j:Nat):Nat:=cntP (fun i=>(gt ps i).Br) j
theorem qta{ps:List qaA}(h:okL ql4 ps):Ev (fun n=>qj9 n ps) (pinsB ps):=by
 have i:=h.len;have l:Ev (fun n=>qdq ps n ([]:List ByteArray) 0) (bif allN (pinB ps) ps.length then .nxt (ps.map qaA.Bi,(ps.length:Int)) else .ret false):=by
  refine loopN (Lf:=qdq ps) (S:=fun j=>(ps.take j).map qaA.Bi) (pinB ps) (fun n=>?_) (fun j a o X f=>?_)
  ·simp only[qdq,qp (jf _),cond_false,jN]
  ·simp only[qdq,qn a,cond_true,qz a,jd,qlS a i,qgE (g:=qaA.Bi) a,lastE a i,bne,qdD,qdd,wS j];generalize hc:pinB ps j=c at f⊢;unfold pinB at hc;cases hd:decide (j+1=ps.length)
   ·rw[hd] at hc;simp only[cond_false] at hc⊢;subst hc;exact Ev.okP (fun b=>Ev.okP1 (fun d=>f (by rw[b,d];rfl)))
   ·rw[hd] at hc;simp only[cond_true] at hc⊢;subst hc;refine Ev.okP (fun b=>Ev.okP (fun d=>Ev.chkP1 (fun k=>f (by rw[b,d,k];rfl))))
 unfold qj9 pinsB;refine Ev.bind l ?_;cases allN (pinB ps) ps.length
 ·exact .done
 ·simp only[cond_true,qcK,qdd,jd,show inI (ps.length:Int) 2 5=lenB ps 2 5 from qr7 (lo:=2) (hi:=5),jB];exact Ev.andP (fun _=>Ev.last (qjC (qnk h (fun x m=>m.Bi))))
def pinS(ps:List qaA)(j:Nat):Bool:=allN (neB (ps.map qaA.Bi) j) j&&((nameB (gt ps j).Bi&&inI (gt ps j).Bq 0 500)&&(bif decide (j+1=ps.length) then((gt ps j).Bv==2)&&(((gt ps j).Bq==0)&&!(gt ps j).Br) else((gt ps j).Bv==1)))
theorem qwL{ps:List qaA}:(lenB ps 2 5&&allN (pinS ps) ps.length)=pinsB ps:=by
 have e:namesB (ps.map qaA.Bi)=allN (fun j=>nameB (gt ps j).Bi&&allN (neB (ps.map qaA.Bi) j) j) ps.length:=by
  unfold namesB;rw[jr];exact qis (fun j a=>by rw[qkm a])
 unfold pinsB;rw[e,<-Bool.and_assoc,Bool.and_comm (allN (pinB ps) ps.length),Bool.and_assoc,<-qls]
 congr 1
 refine qis (fun j a=>?_);unfold pinS pinB;cases hd:decide (j+1=ps.length)
 ·simp only[cond_false];cases allN (neB (ps.map qaA.Bi) j) j<;>cases nameB (gt ps j).Bi<;>cases inI (gt ps j).Bq 0 500<;>cases ((gt ps j).Bv==1)<;>rfl
 ·simp only[cond_true];cases hcap:((gt ps j).Bq==0)
  ·simp
  ·have:inI (gt ps j).Bq 0 500=true:=by rw[beq_iff_eq] at hcap;rw[hcap];rfl
   rw[this];cases allN (neB (ps.map qaA.Bi) j) j<;>cases nameB (gt ps j).Bi<;>cases ((gt ps j).Bv==2)<;>cases (gt ps j).Br<;>rfl
theorem qtb{c:qF}(h:okL ql4 c.Bg):Ev (fun n=>qkd n c) (bif pinsB c.Bg then(((clkN c.Bg c.Bg.length:Nat):Int),true) else(0,false)):=by
 have s:=h.len;have l:∀j,j<c.Bg.length->Ev (fun n=>qfy c (j:Int) (gt c.Bg j) n 0) (bif allN (neB (c.Bg.map qaA.Bi) j) j then .nxt (j:Int) else .ret (0,false)):=by
  intro j b;refine qeG ?_ (fun i hi X a=>Ev.succ ?_)
  ·exact Ev.succ (by simp only[qfy,qp (jf _),cond_false];exact .done)
  ·simp only[qfy,qn hi,cond_true,qz (show i<c.Bg.length by omega),jd,qh4,wS i];unfold neB;rw[qkm (g:=qaA.Bi) (show i<c.Bg.length by omega),qkm (g:=qaA.Bi) b];exact Ev.chkP1 (fun _=>a)
 have k:Ev (fun n=>qdm c n 0 0) (bif allN (pinS c.Bg) c.Bg.length then .nxt (((clkN c.Bg c.Bg.length:Nat):Int),(c.Bg.length:Int)) else .ret (0,false)):=by
  refine loopN (Lf:=qdm c) (S:=fun j=>((clkN c.Bg j:Nat):Int)) (pinS c.Bg) (fun n=>?_) (fun j b u X a=>?_)
  ·simp only[qdm,qp (jf _),cond_false]
  ·have t:clkN c.Bg j<=j:=qgw;have d:((j:Int)==W64 ((c.Bg.length:Int)-1))=decide (j+1=c.Bg.length):=lastE b s;have f:decide ((j:Int)<W64 ((c.Bg.length:Int)-1)) = !decide (j+1=c.Bg.length):=by
    rw[qN (by omega) (by omega),jm];simp;omega
   simp only[qdm,qn b,cond_true,qz b,jd,wS j,qhZ (show clkN c.Bg j<9223372036854775807 by omega),d,f,qcY];unfold pinS;refine Ev.bind (l j b) ?_;cases ha:allN (neB (c.Bg.map qaA.Bi) j) j
   ·exact .done
   ·simp only[cond_true,jB];refine Ev.chkT ?_ (fun o=>?_)
    ·exact Ev.or (ql7 (qmZ h b).Bi) (fun _=>.done)
    ·refine Ev.chkT1 ?_ (fun r=>?_)
     ·cases decide (j+1=c.Bg.length)
      ·exact .done
      ·simp only[cond_true,Jj,cond_false,bne,qdD];cases ((gt c.Bg j).Bv==2)<;>cases ((gt c.Bg j).Bq==0)<;>cases (gt c.Bg j).Br<;>exact .done
     ·have a:=a (by unfold pinS;rw[ha,o,r];rfl);have m:clkN c.Bg (j+1)=clkN c.Bg j+(bif (gt c.Bg j).Br then 1 else 0):=rfl;rw[m] at a;cases hc:(gt c.Bg j).Br
      ·rw[hc] at a;exact Ev.ff Z a
      ·rw[hc] at a;exact Ev.tt Z a
 rw[<-qwL];unfold qkd;refine Ev.guard ?_ (fun o=>?_)
 ·unfold lenB;have e1:decide ((c.Bg.length:Int)<2) = !decide (2<=c.Bg.length):=by rw[jm];simp;omega
  have p:decide ((c.Bg.length:Int) > 5) = !decide (c.Bg.length<=5):=by rw[jm];simp;omega
  rw[e1,p];cases decide (2<=c.Bg.length)<;>cases decide (c.Bg.length<=5)<;>exact .done
 ·refine Ev.bind k ?_;cases allN (pinS c.Bg) c.Bg.length<;>exact .done
def mnL(xs:List Int):Int:=(xs.drop 1).foldl (fun m y=>if y<m then y else m) (at0 xs 0)
def mxL(xs:List Int):Int:=(xs.drop 1).foldl (fun m y=>if y > m then y else m) (at0 xs 0)
theorem qqH{t:qI}(h:tableB t=true):1<=t.Bf.length:=by
 unfold tableB axisB lenB at h;simp only[je,decide_eq_true_eq] at h;obtain⟨⟨⟨a,_⟩,_⟩,⟨⟨b,_⟩,_⟩,c,_⟩:=h;rw[c];exact Nat.mul_pos a b
theorem qwG{xs:List Int}(b:1<=xs.length)(f:xs.length<=1048576):Ev (fun n=>qhQ n xs) (mnL xs):=by
 have c:=(qo6 (Lf:=fun n t j=>qde xs n t j) (xs:=xs) (step:=fun(m y:Int)=>if y<m then y else m) (fin:=fun t=>(t,(xs.length:Int))) 1 (at0 xs 0) (fun _ _=>True) b trivial (fun _ _ _ _=>trivial)
  (fun n t=>by simp only[qde,qp (jf _),cond_false])
  (fun j t a _ X d=>by simpa only[qde,qn a,cond_true,qa1 a,jd,wS j] using d)).1
 unfold qhQ;rw[show decide ((xs.length:Int)<1)=false by simp;omega,show idx xs (0:Int)=V (at0 xs 0) from qai (j:=0) (by omega)];simp only[cond_false,jd];exact Ev.bind c .done
theorem qtC{t:qI}(h:qhm t):Ev (fun n=>qhu n t) (bif tableB t then(⟨mnL t.Bf,mxL t.Bf⟩,0) else(⟨0,0⟩,1)):=by
 unfold qhu;refine Ev.chk1 (qpr h) (fun k=>?_);have g:=qqH k;have o:=h.Bf.len;have d:=(qo6 (Lf:=fun n (c:Int×Int) j=>qdf t n c.1 c.2 j) (xs:=t.Bf) (step:=fun(m:Int×Int) y=>(if y<m.1 then y else m.1,if y > m.2 then y else m.2)) (fin:=fun c=>(c.1,c.2,(t.Bf.length:Int))) 1 (at0 t.Bf 0,at0 t.Bf 0) (fun _ _=>True) g trivial (fun _ _ _ _=>trivial)
  (fun n t=>by simp only[qdf,qp (jf _),cond_false])
  (fun j t f _ X i=>by simpa only[qdf,qn f,cond_true,qa1 f,jd,wS j] using i)).1
 have l:∀(ys:List Int) (a b:Int),ys.foldl (fun(m:Int×Int) y=>(if y<m.1 then y else m.1,if y > m.2 then y else m.2)) (a,b)=(ys.foldl (fun m y=>if y<m then y else m) a,ys.foldl (fun m y=>if y > m then y else m) b):=by
  intro ys
  induction ys with
  |nil=>intro a b;rfl
  |cons y ys ih=>intro a b;simp only[List.foldl_cons,ih]
 rw[l] at d;rw[show idx t.Bf (0:Int)=V (at0 t.Bf 0) from qai (j:=0) (by omega)];simp only[jd];exact Ev.bind d .done
def tabB(pos:Bool)(t:qI):Bool:=tableB t&&(!pos || decide (0<=mnL t.Bf))
def tablesB(a:List qI)(pos:Bool):Bool:=decide (a.length=2)&&a.all (tabB pos)
theorem ql1{a:List qI}{pos:Bool}(h:okL qhm a):Ev (fun n=>qgj n a pos) (tablesB a pos):=by
 have g:=h.len;have c:Ev (fun n=>qaP n a pos) (ixL (fun x=>!tabB pos x) a):=
  qge (fin:=(a.length:Int)) (Lf:=qaa a pos) (pf:=fun n x=>qhF n x pos) (fun x b=>by
    unfold qhF tabB;refine Ev.or (qth (h.2 x b)) (fun d=>?_);cases pos
    ·exact .done
    ·refine Ev.tt Z (Ev.bind (qwG (qqH d) (h.2 x b).Bf.len) (Ev.now ?_))
     congr 1
     rw[jm];simp)
   (fun n=>by simp only[qaa,qp (jf _),cond_false])
   (fun n j x b=>by
    have f:=(List.getElem?_eq_some_iff.1 b).1;simp only[qaa,qn f,cond_true,qhk b,jd,wS j])
   (fun n=>by unfold qaP;congr 1;funext o;cases o<;>rfl)
 unfold qgj qbl tablesB;rw[show((a.length:Int)==2)=decide (a.length=2) by rw[jm];simp;omega];refine Ev.andP (fun _=>Ev.bind (Ev.bind c (Ev.now Z)) (Ev.now ?_));rw[qmN,qov]
theorem qiR{a:List qI}{pos:Bool}(h:okL qhm a):Ev (fun n=>qd4 n a pos) (tablesB a pos):=by
 unfold qd4 tablesB;rw[show((a.length:Int) != 2) = !decide (a.length=2) by rw[jm];simp;omega];simp only[qdD];refine Ev.andP (fun b=>?_);have b:a.length=2:=by simpa using b
 have f:Ev (fun n=>qdc a pos n 0) (bif allN (fun j=>tabB pos (gt a j)) a.length then .nxt (2:Int) else .ret false):=by
  refine qeG (len:=a.length) ?_ (fun j d X c=>Ev.succ ?_)
  ·rw[b];exact Ev.succ (by simp only[qdc];exact .done)
  ·simp only[qdc,show decide ((j:Int)<2)=true by simp;omega,cond_true,qz d,jd,wS j];refine Ev.bind (qtC (qmZ h d)) ?_;unfold tabB;cases tableB (gt a j)
   ·exact .done
   ·simp only[cond_true,jB];refine Ev.ff Z ?_;cases pos
    ·exact c
    ·refine Ev.tt Z ?_;rw[show decide (mnL (gt a j).Bf<0) = !decide (0<=mnL (gt a j).Bf) by rw[jm];simp];simp only[qdD];exact Ev.okP1 (fun _=>c)
 rw[qiH];refine Ev.bind f ?_;cases allN (fun j=>tabB pos (gt a j)) a.length<;>exact .done

theorem qd2{α:Type}[Inhabited α]{xs:List α}{x:Int}(a:0<=x)(b:x<xs.length):idx xs x=V (gt xs x.toNat):=by
  have:=qz (xs:=xs) (j:=x.toNat) (by omega);rwa [<-qdP a] at this
theorem qrx{q:Nat->Bool}{m n:Nat}(h:m<=n):cntP q m<=cntP q n:=by
  induction n with
  |zero=>
    obtain rfl:m=0:=by omega
    exact jf _
  |succ n ih=>
    rcases Nat.lt_or_eq_of_le h with h|rfl
    · exact Jh (ih (by omega)) (Nat.le_add_right _ _)
    · exact jf _
theorem qno{m k:Nat}:decide ((m:Int)<=(k:Int))=decide (m<=k):=by rw[jm];simp
theorem qsx{q:Nat->Bool}{n i j:Nat}(hi:i<j)(d:j<n)(a:q i=true)(b:q j=true):2<=cntP q n:=by
  have e1:cntP q (i+1)=cntP q i+1:=by rw[cntP,a];rfl
  have c:cntP q (j+1)=cntP q j+1:=by rw[cntP,b];rfl
  have f:=qrx (q:=q) (show i+1<=j by omega);have g:=qrx (q:=q) (show j+1<=n by omega);omega
theorem qsv{q:Nat->Bool}{n i j:Nat}(d:cntP q n<=1)(hi:i<n)(c:j<n)(a:q i=true)(b:q j=true):i=j:=by
  rcases Nat.lt_trichotomy i j with h|h|h
  · have:=qsx h c a b;omega
  · exact h
  · have:=qsx h hi b a;omega
def clkIx(ps:List qaA):Int:=ixL (fun p=>p.Br) ps
def clkAt(ps:List qaA)(x:Int):Bool:=(gt ps x.toNat).Br
theorem qu7{c:qF}(f:c.Bg.length<=1048576):Ev (fun n=>qid n c) (clkIx c.Bg):=by
  unfold qid;refine Ev.bind (b:=clkIx c.Bg) ?_ .done;exact qge (fin:=(c.Bg.length:Int)) (Lf:=qae c.Bg) (pf:=fun n x=>qiQ n x) (fun _ _=>.done)
    (fun n=>by simp only[qae,qp (jf _),cond_false])
    (fun n j x a=>by
      have d:=(List.getElem?_eq_some_iff.1 a).1;simp only[qae,qn d,cond_true,qhk a,jd,wS j])
    (fun n=>by unfold qbL;congr 1;funext o;cases o<;>rfl)
def arcI(ps:List qaA)(a:qat):Bool:=
  bif (a.Be==4) || (a.Be==5) then
    (a.Bp==0)&&(((a.Ba.length:Int)==0)&&(tablesB a.Bo false&&((a.Bl==clkIx ps)&&(decide (a.Bl>=0)&&(inI a.To 0 (ps.length-2)&&!(a.To==a.Bl))))))
  else
    (tablesB a.Bo true&&(tablesB a.Ba true&&((a.To==(ps.length:Int)-1)&&inI a.Bl 0 (ps.length-2)))) &&
      (bif a.Be==1 then !clkAt ps a.Bl&&inI a.Bp 1 3 else(bif (a.Be==2) || (a.Be==3) then clkAt ps a.Bl&&(a.Bp==0) else false))
def arcS(ps:List qaA)(a:qat):Bool:=
  (inI a.Bl 0 (ps.length-2)&&inI a.To 0 (ps.length-1)) &&
    (bif a.Be==1 then !clkAt ps a.Bl&&((a.To==(ps.length:Int)-1)&&(inI a.Bp 1 3&&(tablesB a.Bo true&&tablesB a.Ba true)))
     else(bif (a.Be==2) || (a.Be==3) then clkAt ps a.Bl&&((a.To==(ps.length:Int)-1)&&((a.Bp==0)&&(tablesB a.Bo true&&tablesB a.Ba true)))
     else(bif (a.Be==4) || (a.Be==5) then clkAt ps a.Bl&&(decide (a.To<(ps.length:Int)-1)&&(!clkAt ps a.To&&((a.Bp==0)&&(tablesB a.Bo false&&((a.Ba.length:Int)==0))))) else false)))
theorem qpv{c d:Bool}:(bif c then V c else V d)=V (c || d):=by cases c<;>rfl
theorem qsE{c d:Bool}:(bif c then V true else V d)=V (c || d):=by cases c<;>rfl
theorem qtE{n:Nat}{k:Int}:qkh n k=V ((k==4) || (k==5)):=by simp only[qkh,qsE]
theorem qvW{c:qF}{a:qat}(h:okL ql4 c.Bg)(b:qll a)(k:2<=c.Bg.length):Ev (fun n=>qic n c a) (arcI c.Bg a):=by
  have i:=h.len;have e1:W64 ((c.Bg.length:Int)-1)=(c.Bg.length:Int)-1:=qfF (by omega);have f:W64 ((c.Bg.length:Int)-1-1)=(c.Bg.length:Int)-2:=by rw[qN (by omega) (by omega)];omega
  simp only[qic,qtE,jd,qg1,qeS,qcK,e1,f,qdd,qpv,bne];unfold arcI;refine Ev.iff (fun _=>Ev.last ?_) (fun _=>Ev.guardB ?_ (fun d=>?_))
  · exact Ev.andP fun _=>Ev.andP fun _=>Ev.and (ql1 b.Bo) fun _=>Ev.bind (qu7 i) (Ev.andP fun _=>Ev.andP fun _=>Ev.andP fun _=>.done)
  · refine Ev.or (ql1 b.Bo) fun _=>Ev.or (ql1 b.Ba) fun _=>?_
    simp only[qdD];exact Ev.orBP fun _=>.done
  · have g:0<=a.Bl/\a.Bl<=(c.Bg.length:Int)-2:=by
      simp only[je,qa9] at d;exact d.2.2.2
    simp only[qd2 g.1 (show a.Bl<(c.Bg.length:Int) by omega),jd];exact Ev.iff (fun _=>Ev.andP fun _=>.done) (fun _=>Ev.iff (fun _=>Ev.andP fun _=>.done) (fun _=>.done))
theorem quk{c:qF}{a:qat}(h:okL ql4 c.Bg)(b:qll a)(k:2<=c.Bg.length):Ev (fun n=>qk2 n c a) (arcS c.Bg a):=by
  have i:=h.len;have e1:W64 ((c.Bg.length:Int)-1)=(c.Bg.length:Int)-1:=qfF (by omega);have g:W64 ((c.Bg.length:Int)-1-1)=(c.Bg.length:Int)-2:=by rw[qN (by omega) (by omega)];omega
  simp only[qk2,jd,e1,g,qcY,qpv];unfold arcS;refine Ev.guardB ?_ (fun d=>?_)
  · simp only[qdD]
    exact Ev.orBP fun _=>.done
  · have f:(0<=a.Bl/\a.Bl<=(c.Bg.length:Int)-2)/\(0<=a.To/\a.To<=(c.Bg.length:Int)-1):=by
      simp only[je,qa9] at d;exact d
    simp only[qd2 f.1.1 (show a.Bl<(c.Bg.length:Int) by omega),qd2 f.2.1 (show a.To<(c.Bg.length:Int) by omega),jd];refine Ev.iff (fun _=>?_) (fun _=>Ev.iff (fun _=>?_) (fun _=>Ev.iff (fun _=>?_) (fun _=>.done)))
    · exact Ev.andP fun _=>Ev.andP fun _=>Ev.andP fun _=>Ev.and (qiR b.Bo) fun _=>Ev.last (qiR b.Ba)
    · exact Ev.andP fun _=>Ev.andP fun _=>Ev.andP fun _=>Ev.and (qiR b.Bo) fun _=>Ev.last (qiR b.Ba)
    · exact Ev.andP fun _=>Ev.andP fun _=>Ev.andP fun _=>Ev.andP fun _=>Ev.and (qiR b.Bo) fun _=>.done
theorem qoS{ps:List qaA}(f:clkN ps ps.length<=1){x:Int}(k:0<=x):clkIx ps=x↔x<ps.length/\clkAt ps x=true:=by
  unfold clkIx ixL;cases hf:ps.findIdx? (fun p=>p.Br) with
  |some j=>
    obtain⟨d,i,_⟩:=List.findIdx?_eq_some_iff_getElem.1 hf;have b:(gt ps j).Br=true:=by rw[qd6 d];exact i
    constructor
    · intro e
      have e:(j:Int)=x:=e;subst e;exact⟨by omega,by unfold clkAt;rw[jp];exact b⟩
    · rintro⟨g,a⟩
      have:=qsv f d (show x.toNat<ps.length by omega) b a;show(j:Int)=x;omega
  |none=>
    have h:=List.findIdx?_eq_none_iff.1 hf;constructor
    · intro e
      have e:(-1:Int)=x:=e;omega
    · rintro⟨g,a⟩
      have c:x.toNat<ps.length:=by omega
      unfold clkAt at a;rw[qd6 c] at a;have:=h _ (jn c);rw[a] at this;exact absurd this (by decide)
theorem qhl{ps:List qaA}(h:pinsB ps=true):(2<=ps.length/\ps.length<=5)/\clkAt ps ((ps.length:Int)-1)=false:=by
  unfold pinsB lenB at h;simp only[je,decide_eq_true_eq] at h;refine⟨h.2.1,?_⟩;have a:=qah.1 h.1 (ps.length-1) (by omega);unfold pinB at a;rw[show decide (ps.length-1+1=ps.length)=true by simp;omega] at a;simp only[cond_true,je,jG] at a;unfold clkAt;rw[show((ps.length:Int)-1).toNat=ps.length-1 by omega];exact a.2.2
theorem qvN{ps:List qaA}{a:qat}(h:pinsB ps=true)(b:clkN ps ps.length<=1):arcI ps a=arcS ps a:=by
  obtain⟨⟨D,z⟩,l⟩:=qhl h;rw[jm];unfold arcI arcS;cases h45:((a.Be==4) || (a.Be==5)) with
  |true=>
    have B:(a.Be==1)=false:=by simp at h45⊢;omega
    have u:((a.Be==2) || (a.Be==3))=false:=by simp at h45⊢;omega
    rw[B,u];simp only[cond_true,cond_false,je,qa9,decide_eq_true_eq,beq_iff_eq,jG,beq_eq_false_iff_ne,ne_eq];constructor
    · rintro⟨t,m,s,p,o,r,A⟩
      obtain⟨C,n⟩:=(qoS b o).1 p.symm;have x:a.Bl≠(ps.length:Int)-1:=by intro e;rw[e,l] at n;cases n
      refine⟨⟨⟨o,by omega⟩,⟨r.1,by omega⟩⟩,n,by omega,?_,t,s,m⟩;cases c:clkAt ps a.To with
      |false=>rfl
      |true=>
        have:=(qoS b r.1).2 ⟨by omega,c⟩;omega
    · rintro⟨⟨p,r⟩,n,y,c,t,s,m⟩
      have:=(qoS b p.1).2 ⟨by omega,n⟩;refine⟨t,m,s,this.symm,p.1,⟨r.1,by omega⟩,?_⟩;intro e;rw[e,n] at c;cases c
  |false=>
    simp only[cond_false,je,qa9,beq_iff_eq];cases (a.Be==1)
    · cases ((a.Be==2) || (a.Be==3))
      · simp
      · simp only[cond_true,cond_false,je,beq_iff_eq]
        constructor
        · rintro⟨⟨b,d,f,g⟩,i,k⟩
          exact⟨⟨g,by omega⟩,i,f,k,b,d⟩
        · rintro⟨⟨g,v⟩,i,f,k,b,d⟩
          exact⟨⟨b,d,f,g⟩,i,k⟩
    · simp only[cond_true,je,qa9,jG,beq_iff_eq]
      constructor
      · rintro⟨⟨b,d,f,g⟩,i,k⟩
        exact⟨⟨g,by omega⟩,i,f,k,b,d⟩
      · rintro⟨⟨g,v⟩,i,f,k,b,d⟩
        exact⟨⟨b,d,f,g⟩,i,k⟩
theorem qrn{ps:List qaA}{a:qat}(h:arcS ps a=true):1<=a.Be/\a.Be<=5:=by
  unfold arcS at h;rw[je] at h;have h:=h.2;cases h1:(a.Be==1)
  · cases h2:((a.Be==2) || (a.Be==3))
    · cases h4:((a.Be==4) || (a.Be==5))
      · rw[h1,h2,h4] at h;cases h
      · simp at h4;omega
    · simp at h2;omega
  · simp at h1;omega
def sameArc(x y:qat):Bool:=(x.Be==y.Be)&&((x.Bl==y.Bl)&&(x.To==y.To))
def newArc(ar:List qat)(j:Nat):Bool:=allN (fun i=>!sameArc (gt ar i) (gt ar j)) j
theorem qtq{c:qF}(h:okL ql4 c.Bg)(d:okL qll c.Av)(m:2<=c.Bg.length):Ev (fun n=>qg0 n c) (allN (fun j=>arcI c.Bg (gt c.Av j)&&newArc c.Av j) c.Av.length&&decide (c.Av.length<=8)):=by
  have l:=d.len;have g:∀(ar:List qat) (y:qat),ar.length<=1048576->Ev (fun n=>qaI n ar y) (ar.any fun x=>sameArc x y):=by
    intro ar y l;unfold qaI;refine Ev.bind (b:=ixL (fun x=>sameArc x y) ar) (qge (fin:=(ar.length:Int)) (Lf:=qX ar y) (pf:=fun n x=>qf0 n x y) (fun x _=>?_)
      (fun n=>by simp only[qX,qp (jf _),cond_false])
      (fun n j x f=>by
        have a:=(List.getElem?_eq_some_iff.1 f).1;simp only[qX,qn a,cond_true,qhk f,jd,wS j])
      (fun n=>by unfold qbq;congr 1;funext o;cases o<;>rfl)) (Ev.now (by rw[qmN]))
    unfold qf0 sameArc;exact Ev.andP fun _=>Ev.andP fun _=>.done
  have i:Ev (fun n=>qcS c n 0) (bif allN (fun j=>arcI c.Bg (gt c.Av j)&&newArc c.Av j) c.Av.length then .nxt (c.Av.length:Int) else .ret false):=by
    refine qeG ?_ (fun j a X k=>Ev.succ ?_)
    · exact Ev.succ (by simp only[qcS,qp (jf _),cond_false];exact .done)
    · simp only[qcS,qn a,cond_true,qz a,jd,qum (Nat.le_of_lt a),wS j]
      refine Ev.chk (qvW h (qmZ d a) m) fun _=>Ev.chkT1 ?_ (fun _=>k);refine(g _ _ (by simp;omega)).cast ?_;rw[qvP (Nat.le_of_lt a)];rfl
  unfold qg0;refine Ev.bind i ?_;cases allN (fun j=>arcI c.Bg (gt c.Av j)&&newArc c.Av j) c.Av.length
  · exact .done
  · refine Ev.now ?_
    show V (decide ((c.Av.length:Int)<=((8:Nat):Int)))=V (true&&decide (c.Av.length<=8));rw[qno,jB]
def hasB(ar:List qat)(k:Int):Bool:=ar.any fun a=>a.Be==k
theorem qoX{c:qF}{k:Int}(f:c.Av.length<=1048576):Ev (fun n=>qdX n c k) (hasB c.Av k):=by
  unfold qdX qbH;exact Ev.last (Ev.bind (b:=ixL (fun x=>x.Be==k) c.Av) (qge (fin:=(c.Av.length:Int)) (Lf:=qal c.Av k) (pf:=fun n x=>qjV n x k) (fun x _=>.done)
      (fun n=>by simp only[qal,qp (jf _),cond_false])
      (fun n j x a=>by
        have d:=(List.getElem?_eq_some_iff.1 a).1;simp only[qal,qn d,cond_true,qhk a,jd,wS j])
      (fun n=>by unfold qbU;congr 1;funext o;cases o<;>rfl)) (Ev.now (by rw[qmN];rfl)))
def kindN(ar:List qat)(k:Nat)(j:Nat):Nat:=cntP (fun i=>(gt ar i).Be==(k:Int)) j
theorem qry{ar:List qat}{k:Nat}:decide (((kindN ar k ar.length:Nat):Int) > 0)=hasB ar k:=by
  rw[show decide (((kindN ar k ar.length:Nat):Int) > 0)=decide (0<kindN ar k ar.length) by simp];unfold kindN hasB;rw[qr9,qtB]
theorem qtt{ar:List qat}{k:Nat}:(((kindN ar k ar.length:Nat):Int)==0) = !hasB ar k:=by
  rw[<-qry,jm];simp
theorem qsB{c:qF}(g:okL qll c.Av)(h:∀j,j<c.Av.length->1<=(gt c.Av j).Be/\(gt c.Av j).Be<=5):Ev (fun n=>qjx n c) (vecC (fun k=>kindN c.Av k c.Av.length) 6):=by
  have o:=g.len;have d:Ev (fun n=>qdL c n (vecC (fun _=>0) 6) 0) (vecC (fun k=>kindN c.Av k c.Av.length) 6,(c.Av.length:Int)):=by
    refine loopF (Lf:=qdL c) (S:=fun j=>vecC (fun k=>kindN c.Av k j) 6) (len:=c.Av.length) (fun n=>?_) (fun j a X f=>?_)
    · simp only[qdL,qp (jf _),cond_false]
    · obtain⟨p,r⟩:=h j a
      have b:(gt c.Av j).Be=(((gt c.Av j).Be.toNat:Nat):Int):=qdP (by omega);have l:kindN c.Av (gt c.Av j).Be.toNat j<=j:=qgw;simp only[qdL,qn a,cond_true,qz a,jd,wS j];rw[b,qkN (show(gt c.Av j).Be.toNat<6 by omega)];simp only[jd];rw[qru (c:=fun k=>kindN c.Av k j) (by show kindN c.Av _ j<_;omega)];have:vecC (fun i=>kindN c.Av i j+(bif decide ((gt c.Av j).Be.toNat=i) then 1 else 0)) 6=vecC (fun k=>kindN c.Av k (j+1)) 6:=by
        refine qkI (fun k _=>?_);show _=kindN c.Av k j+(bif (gt c.Av j).Be==(k:Int) then 1 else 0)
        congr 2
        rw[jm];simp;omega
      rw[this];exact f
  unfold qjx;rw[show mkS 6 (0:Int)=V (vecC (fun _=>0) 6) from qnq (m:=6) (by omega)];simp only[jd];exact Ev.bind d .done
def kindB(c:qF):Bool:=
  bif c.Be==1 then(((clkN c.Bg c.Bg.length:Nat):Int)==0)&&(((c.Bs.length:Int)==((2 ^ (c.Bg.length-1):Nat):Int))&&(c.Bs.all fun x=>inI x 0 1))
  else bif c.Be==2 then(((clkN c.Bg c.Bg.length:Nat):Int)==1)&&(((c.Bs.length:Int)==0)&&(!hasB c.Av 1&&!(hasB c.Av 2==hasB c.Av 3)))
  else bif c.Be==3 then(((clkN c.Bg c.Bg.length:Nat):Int)==1)&&(((c.Bs.length:Int)==0)&&(hasB c.Av 1&&(hasB c.Av 2&&!hasB c.Av 3)))
  else false
theorem qrv{c:qF}(h:kindB c=true):clkN c.Bg c.Bg.length<=1:=by
  unfold kindB at h;cases h1:(c.Be==1)
  · cases h2:(c.Be==2)
    · cases h3:(c.Be==3)
      · rw[h1,h2,h3] at h;cases h
      · rw[h1,h2,h3] at h
        simp only[cond_true,cond_false,je,beq_iff_eq] at h;omega
    · rw[h1,h2] at h
      simp only[cond_true,cond_false,je,beq_iff_eq] at h;omega
  · rw[h1] at h
    simp only[cond_true,je,beq_iff_eq] at h;omega
theorem qsJ{m:Nat}(a:2<=m)(b:m<=5):shlS 1 (W64 ((m:Int)-1))=V ((2 ^ (m-1):Nat):Int)/\shlS 1 (IntKind.wrap .u64 (W64 ((m:Int)-1)))=V ((2 ^ (m-1):Nat):Int):=by
  have:m=2\/m=3\/m=4\/m=5:=by omega
  rcases this with rfl|rfl|rfl|rfl<;>exact⟨by decide,by decide⟩
theorem qse{c:qF}(b:qnj c)(k:2<=c.Bg.length)(g:c.Bg.length<=5):Ev (fun n=>qgy n c) (kindB c):=by
  have l:=b.Bg.len;have i:Ev (fun n=>qbs c n 0 0) (((clkN c.Bg c.Bg.length:Nat):Int),(c.Bg.length:Int)):=by
    refine loopF (Lf:=qbs c) (S:=fun j=>((clkN c.Bg j:Nat):Int)) (len:=c.Bg.length) (fun n=>?_) (fun j h X d=>?_)
    · simp only[qbs,qp (jf _),cond_false]
    · have m:clkN c.Bg j<=j:=qgw
      simp only[qbs,qn h,cond_true,qz h,jd,wS j,qhZ (show clkN c.Bg j<9223372036854775807 by omega)];have f:clkN c.Bg (j+1)=clkN c.Bg j+(bif (gt c.Bg j).Br then 1 else 0):=rfl;rw[f] at d;cases b:(gt c.Bg j).Br
      · rw[b] at d;exact Ev.ff Z d
      · rw[b] at d;exact Ev.tt Z d
  unfold qgy kindB;refine Ev.bind i ?_;simp only[qeS,qcK,jd,(qsJ k g).1];have a:=b.Av.len;refine Ev.iff (fun _=>?_) (fun _=>Ev.iff (fun _=>?_) (fun _=>Ev.iff (fun _=>?_) (fun _=>.done)))
  · exact Ev.andP fun _=>Ev.andP fun _=>Ev.last (qeH b.Bs.len)
  · exact Ev.andP fun _=>Ev.andP fun _=>Ev.bind (qoX a) (Ev.andP fun _=>Ev.bind (qoX a) (Ev.bind (qoX a) .done))
  · exact Ev.andP fun _=>Ev.andP fun _=>Ev.and (qoX a) fun _=>Ev.and (qoX a) fun _=>Ev.bind (qoX a) .done
def cellB(c:qF):Bool:=
  nameB c.Bi&&(pinsB c.Bg&&((allN (fun j=>arcI c.Bg (gt c.Av j)&&newArc c.Av j) c.Av.length&&decide (c.Av.length<=8))&&(inI c.Ca 0 100000&&(inI c.Bw 0 100000&&kindB c))))
theorem quO{c:qF}(a:qnj c):Ev (fun n=>qlg n c) (cellB c):=by
  simp only[qlg,qpb a.Bi,qdd,jd];unfold cellB;refine Ev.andP fun _=>Ev.and (qta a.Bg) fun f=>?_;obtain⟨⟨d,b⟩,_⟩:=qhl f;exact Ev.and (qtq a.Bg a.Av d) fun _=>Ev.andP fun _=>Ev.andP fun _=>Ev.last (qse a d b)
theorem qtc{c:qF}(d:qnj c):Ev (fun n=>qk7 n c) (cellB c):=by
  have p:=d.Av.len;have r:=d.Bs.len;have e:cellB c=((pinsB c.Bg&&(nameB c.Bi&&(decide (c.Av.length<=8)&&(inI c.Ca 0 100000&&inI c.Bw 0 100000))))&&(allN (fun j=>arcS c.Bg (gt c.Av j)&&newArc c.Av j) c.Av.length&&kindB c)):=by
    unfold cellB;cases l:kindB c
    · simp
    · cases hp:pinsB c.Bg
      · simp
      · rw[qis (fun j _=>by rw[qvN hp (qrv l)])]
        cases nameB c.Bi<;>cases allN (fun j=>arcS c.Bg (gt c.Av j)&&newArc c.Av j) c.Av.length<;>cases decide (c.Av.length<=8)<;>cases inI c.Ca 0 100000<;>cases inI c.Bw 0 100000<;>rfl
  rw[e];unfold qk7;refine Ev.bind (qtb d.Bg) ?_;cases hp:pinsB c.Bg
  · exact .done
  · obtain⟨⟨o,m⟩,_⟩:=qhl hp
    simp only[cond_true,jB,Jj,cond_false];refine Ev.guardB ?_ (fun _=>?_)
    · simp only[qcY,jd,qdD]
      refine Ev.orB (ql7 d.Bi) fun _=>?_;rw[show decide ((c.Av.length:Int) > 8) = !decide (c.Av.length<=8) by rw[jm];simp;omega,qdD];exact Ev.orBP fun _=>Ev.orBP fun _=>.done
    · have g:∀j,j<c.Av.length->Ev (fun n=>qd3 c (j:Int) (gt c.Av j) n 0) (bif newArc c.Av j then .nxt (j:Int) else .ret false):=by
        intro j a;refine qeG ?_ (fun i hi X b=>Ev.succ ?_)
        · exact Ev.succ (by simp only[qd3,qp (jf _),cond_false];exact .done)
        · simp only[qd3,qn hi,cond_true,qz (show i<c.Av.length by omega),jd,wS i]
          unfold sameArc;cases ((gt c.Av i).Be==(gt c.Av j).Be)
          · exact b
          · cases ((gt c.Av i).Bl==(gt c.Av j).Bl)
            · exact b
            · cases ((gt c.Av i).To==(gt c.Av j).To)
              · exact b
              · exact .done
      have f:Ev (fun n=>qf2 c n 0) (bif allN (fun j=>arcS c.Bg (gt c.Av j)&&newArc c.Av j) c.Av.length then .nxt (c.Av.length:Int) else .ret false):=by
        refine qeG ?_ (fun j a X b=>Ev.succ ?_)
        · exact Ev.succ (by simp only[qf2,qp (jf _),cond_false];exact .done)
        · simp only[qf2,qn a,cond_true,qz a,jd,wS j]
          refine Ev.chk (quk d.Bg (qmZ d.Av a) o) fun _=>Ev.bind (g j a) ?_;cases newArc c.Av j
          · exact .done
          · exact b
      have h:Ev (fun n=>qgh c n 0) (bif (c.Bs.all fun x=>inI x 0 1) then .nxt (c.Bs.length:Int) else .ret false):=
        qkL (fun n=>by simp only[qgh,qp (jf _),cond_false]) (fun j a X b=>by
          simp only[qgh,qn a,cond_true,qa1 a,jd,qcY,wS j,qdD];exact Ev.okP1 fun _=>b)
      refine Ev.bind f ?_;cases hA:allN (fun j=>arcS c.Bg (gt c.Av j)&&newArc c.Av j) c.Av.length
      · exact .done
      · have l:∀j,j<c.Av.length->1<=(gt c.Av j).Be/\(gt c.Av j).Be<=5:=fun j a=>by
          have:=qah.1 hA j a;rw[je] at this;exact qrn this.1
        simp only[cond_true,jB];refine Ev.bind (qsB d.Av l) ?_;simp only[(qsJ o m).2,jd,
          show idx (vecC (fun k=>kindN c.Av k c.Av.length) 6) (1:Int)=V ((kindN c.Av 1 c.Av.length:Nat):Int) from qkN (k:=1) (by omega),
          show idx (vecC (fun k=>kindN c.Av k c.Av.length) 6) (2:Int)=V ((kindN c.Av 2 c.Av.length:Nat):Int) from qkN (k:=2) (by omega),
          show idx (vecC (fun k=>kindN c.Av k c.Av.length) 6) (3:Int)=V ((kindN c.Av 3 c.Av.length:Nat):Int) from qkN (k:=3) (by omega),qry,qtt]
        unfold kindB;refine Ev.iff (fun _=>?_) (fun _=>Ev.iff (fun _=>?_) (fun _=>Ev.iff (fun _=>?_) (fun _=>.done)))
        · refine Ev.bind h ?_
          cases (c.Bs.all fun x=>inI x 0 1)
          · exact Ev.now (by simp)
          · exact(Ev.andP (fun _=>.done)).cast (by rw[Bool.and_true])
        · refine(Ev.andP fun _=>Ev.andP fun _=>Ev.andP fun _=>.done).cast ?_
          cases (((clkN c.Bg c.Bg.length:Nat):Int)==1)<;>cases ((c.Bs.length:Int)==0)<;>cases hasB c.Av ((1:Nat):Int)<;>cases hasB c.Av ((2:Nat):Int)<;>cases hasB c.Av ((3:Nat):Int)<;>rfl
        · refine(Ev.andP fun _=>Ev.andP fun _=>Ev.andP fun _=>Ev.andP fun _=>.done).cast ?_
          cases (((clkN c.Bg c.Bg.length:Nat):Int)==1)<;>cases ((c.Bs.length:Int)==0)<;>cases hasB c.Av ((1:Nat):Int)<;>cases hasB c.Av ((2:Nat):Int)<;>cases hasB c.Av ((3:Nat):Int)<;>rfl
def libB(l:qw):Bool:=l.As.all cellB&&(decide (l.As.length<=8)&&namesB (l.As.map qF.Bi))
theorem qrT{l:qw}(h:qhe l):Ev (fun n=>qi1 n l) (libB l):=by
  have d:=h.As.len;have b:Ev (fun n=>qc4 l n ([]:List ByteArray) 0) (bif allN (fun j=>cellB (gt l.As j)) l.As.length then .nxt (l.As.map qF.Bi,(l.As.length:Int)) else .ret false):=by
    refine loopN (Lf:=qc4 l) (S:=fun j=>(l.As.take j).map qF.Bi) (fun j=>cellB (gt l.As j)) (fun n=>?_) (fun j a i X c=>?_)
    · simp only[qc4,qp (jf _),cond_false,jN]
    · simp only[qc4,qn a,cond_true,qz a,jd,qlS a d,qgE (g:=qF.Bi) a,wS j]
      exact Ev.chk1 (quO (qmZ h.As a)) c
  unfold qi1 libB;rw[qiH];refine Ev.bind b ?_;cases allN (fun j=>cellB (gt l.As j)) l.As.length
  · exact .done
  · simp only[cond_true,jB,show decide ((l.As.length:Int)<=8)=decide (l.As.length<=8) from qno (k:=8)]
    exact Ev.andP fun _=>Ev.last (qjC (qnk h.As (fun x f=>f.Bi)))

theorem qtA{c:qF}(h:cellB c=true):nameB c.Bi=true:=by
 unfold cellB at h;rw[je] at h;exact h.1
theorem qjl{c:qF}(h:cellB c=true):pinsB c.Bg=true:=by
 unfold cellB at h;simp only[je] at h;exact h.2.1
theorem qqV{l:qw}(h:qhe l):Ev (fun n=>qi0 n l) (libB l):=by
 have f:=h.As.len;have c:∀j,j<l.As.length->Ev (fun n=>qef l (j:Int) n 0) (bif allN (neB (l.As.map qF.Bi) j) j then .nxt (j:Int) else .ret false):=by
  intro j a;refine qeG ?_ (fun i hi X d=>Ev.succ ?_)
  ·exact Ev.succ (by simp only[qef,qp (jf _),cond_false];exact .done)
  ·simp only[qef,qn hi,cond_true,qz (show i<l.As.length by omega),qz a,jd,qh4,wS i];unfold neB;rw[qkm (g:=qF.Bi) (show i<l.As.length by omega),qkm (g:=qF.Bi) a];exact Ev.chkP1 (fun _=>d)
 have b:Ev (fun n=>qd9 l n 0) (bif allN (fun j=>cellB (gt l.As j)&&allN (neB (l.As.map qF.Bi) j) j) l.As.length then .nxt (l.As.length:Int) else .ret false):=by
  refine qeG ?_ (fun j a X d=>Ev.succ ?_)
  ·exact Ev.succ (by simp only[qd9,qp (jf _),cond_false];exact .done)
  ·simp only[qd9,qn a,cond_true,qz a,jd,wS j];refine Ev.chk (qtc (qmZ h.As a)) fun _=>Ev.bind (c j a) ?_;cases allN (neB (l.As.map qF.Bi) j) j
   ·exact .done
   ·exact d
 have e:libB l=(allN (fun j=>cellB (gt l.As j)&&allN (neB (l.As.map qF.Bi) j) j) l.As.length&&decide (l.As.length<=8)):=by
  unfold libB namesB;rw[qiH,jr,Bool.and_comm (decide (l.As.length<=8)),<-Bool.and_assoc,<-qls]
  congr 1
  refine qis (fun j a=>?_);rw[qkm (g:=qF.Bi) a];cases hc:cellB (gt l.As j)
  ·rfl
  ·rw[qtA hc];rfl
 rw[e];unfold qi0;refine Ev.bind b ?_;cases allN (fun j=>cellB (gt l.As j)&&allN (neB (l.As.map qF.Bi) j) j) l.As.length
 ·exact .done
 ·refine Ev.now ?_;show V (decide ((l.As.length:Int)<=((8:Nat):Int)))=V (true&&decide (l.As.length<=8));rw[qno,jB]
theorem qlA{c c':Nat->Nat}{m:Nat}{x:Int}(b:0<=x)(h:x<m)(d:c x.toNat<9223372036854775807)(f:∀k,k<m->c' k=c k+(bif x==(k:Int) then 1 else 0)) :
  idx (vecC c m) x=V (c x.toNat:Int)/\setS (vecC c m) x (W64 ((c x.toNat:Int)+1))=vecC c' m:=by
 have ex:x=(x.toNat:Int):=qdP b;have e1:=qkN (c:=c) (m:=m) (k:=x.toNat) (by omega);have a:=qru (c:=c) (m:=m) (k:=x.toNat) d;rw[<-ex] at e1 a;refine⟨e1,a.trans (qkI (fun k g=>?_))⟩;rw[f k g]
 congr 2
 rw[jm];simp;omega
def netB(d:qh)(x:Int):Bool:=inI x 0 ((d.Ak.length:Int)-1)
theorem qsR{n:Nat}{d:qh}{x:Int}(a:d.Ak.length<=1048576):qee n d x=V (netB d x):=by
 simp only[qee,qim,jd,qdd,qfF (show d.Ak.length<=9223372036854775807 by omega)];rfl
theorem qrc{n:Nat}{d:qh}{x:Int}(a:d.Ak.length<=1048576):qaH n x 0 (W64 ((d.Ak.length:Int)-1))=V (netB d x):=by
 rw[qcY,qfF (show d.Ak.length<=9223372036854775807 by omega)];rfl
def hasNamesB(d:qh):Bool:=(decide (d.Ab.length<=14)&&(decide (d.Ak.length<=30)&&decide (d.Aj.length<=8)))&&(namesB (d.Ab.map qH.Bi)&&(namesB d.Ak&&namesB (d.Aj.map qaD.Bi)))
theorem qsM{d:qh}(h:qkr d):Ev (fun n=>qfO n d) (hasNamesB d):=by
 have i:=h.Ab.len;have l:=h.Aj.len;have b:Ev (fun n=>qbv d n ([]:List ByteArray) 0) (d.Ab.map qH.Bi,(d.Ab.length:Int)):=by
  refine loopF (Lf:=qbv d) (S:=fun j=>(d.Ab.take j).map qH.Bi) (len:=d.Ab.length) (fun n=>?_) (fun j a X f=>?_)
  ·simp only[qbv,qp (jf _),cond_false,jN]
  ·simpa only[qbv,qn a,cond_true,qz a,jd,qlS a i,qgE (g:=qH.Bi) a,wS j] using f
 have c:Ev (fun n=>qbC d n ([]:List ByteArray) 0) (d.Aj.map qaD.Bi,(d.Aj.length:Int)):=by
  refine loopF (Lf:=qbC d) (S:=fun j=>(d.Aj.take j).map qaD.Bi) (len:=d.Aj.length) (fun n=>?_) (fun j a X f=>?_)
  ·simp only[qbC,qp (jf _),cond_false,jN]
  ·simpa only[qbC,qn a,cond_true,qz a,jd,qlS a l,qgE (g:=qaD.Bi) a,wS j] using f
 unfold qfO hasNamesB;refine Ev.bind b (Ev.bind c ?_);simp only[jr];rw[show decide ((d.Ab.length:Int)<=14)=decide (d.Ab.length<=14) from qno (k:=14),show decide ((d.Ak.length:Int)<=30)=decide (d.Ak.length<=30) from qno (k:=30),show decide ((d.Aj.length:Int)<=8)=decide (d.Aj.length<=8) from qno (k:=8)];rw[Bool.and_assoc,Bool.and_assoc];exact Ev.andP fun _=>Ev.andP fun _=>Ev.andP fun _=>Ev.and (qjC (qnk h.Ab (fun x m=>m.Bi))) fun _=>Ev.and (qjC h.Ak) fun _=>Ev.last (qjC (qnk h.Aj (fun x m=>m.Bi)))
def instB(l:qw)(d:qh)(x:qH):Bool:=inI x.Bt 0 ((l.As.length:Int)-1)&&(((x.Ak.length:Int)==((gt l.As x.Bt.toNat).Bg.length:Int))&&x.Ak.all (netB d))
theorem qqM{d:qh}{l:qw}{x:qH}(g:d.Ak.length<=1048576)(h:l.As.length<=1048576)(a:x.Ak.length<=1048576):Ev (fun n=>qeE n d l x) (instB l d x):=by
 simp only[qeE,qgS,jd,qdd,qfF (show l.As.length<=9223372036854775807 by omega)];unfold instB;refine Ev.andP fun c=>?_;rw[qa9] at c;rw[qd2 c.1 (by omega)];simp only[jd];refine Ev.andP fun _=>Ev.bind (b:=x.Ak.any fun y=>!netB d y) ?_ (Ev.now (by rw[qov]));unfold qa2;exact Ev.bind (b:=ixL (fun y=>!netB d y) x.Ak) (qge (fin:=(x.Ak.length:Int)) (Lf:=qV x.Ak d) (pf:=fun n y=>qdY n y d) (fun y _=>⟨0,fun n _=>by simp only[qdY,qsR g,jd]⟩)
   (fun n=>by simp only[qV,qp (jf _),cond_false])
   (fun n j y a=>by
    have f:=(List.getElem?_eq_some_iff.1 a).1;simp only[qV,qn f,cond_true,qhk a,jd,wS j])
   (fun n=>by unfold qbk;congr 1;funext o;cases o<;>rfl)) (Ev.now (by rw[qmN]))
def portB(d:qh)(p:qaD):Bool:=inI p.Bv 1 2&&netB d p.Bz
theorem qxx{x:Int}:inI x 1 2=((x==1) || (x==2)):=by
 unfold inI;rw[jm];simp;omega
def lastN(x:qH):Int:=at0 x.Ak (x.Ak.length-1)
theorem qsu{x:qH}(a:1<=x.Ak.length)(b:x.Ak.length<=1048576):idx x.Ak (W64 ((x.Ak.length:Int)-1))=V (lastN x):=by
 rw[qfF (by omega),show((x.Ak.length:Int)-1)=((x.Ak.length-1:Nat):Int) by omega,qai (by omega)];rfl
theorem que{d:qh}{x:qH}(a:1<=x.Ak.length)(h:x.Ak.all (netB d)=true):0<=lastN x/\lastN x<d.Ak.length:=by
 rw[qg9 (d:=0),qah] at h;have:=h (x.Ak.length-1) (by omega);unfold netB at this;rw[qa9] at this;unfold lastN at0;omega
theorem qqa{l:qw}{d:qh}{x:qH}(a:libB l=true)(h:instB l d x=true):1<=x.Ak.length/\0<=lastN x/\lastN x<d.Ak.length:=by
 unfold instB at h;simp only[je,qa9,beq_iff_eq] at h;obtain⟨g,i,f⟩:=h;unfold libB at a;simp only[je] at a;have c:=a.1;rw[qiH,qah] at c;have:=qhl (qjl (c x.Bt.toNat (by omega)));have b:1<=x.Ak.length:=by omega
 exact⟨b,que b f⟩
def drvI(d:qh)(k j:Nat):Nat:=cntP (fun i=>lastN (gt d.Ab i)==(k:Int)) j
def drvP(d:qh)(k j:Nat):Nat:=cntP (fun i=>((gt d.Aj i).Bv==1)&&((gt d.Aj i).Bz==(k:Int))) j
def drvB(d:qh):Bool:=allN (fun k=>((drvI d k d.Ab.length+drvP d k d.Aj.length:Nat):Int)==1) d.Ak.length
def designB(l:qw)(d:qh):Bool:=(libB l&&hasNamesB d)&&(d.Ab.all (instB l d)&&(d.Aj.all (portB d)&&drvB d))
theorem qoO{d:qh}{k j:Nat}:drvI d k (j+1)=drvI d k j+(bif lastN (gt d.Ab j)==(k:Int) then 1 else 0):=rfl
theorem qnt{d:qh}{k j:Nat}:drvP d k (j+1)=drvP d k j+(bif ((gt d.Aj j).Bv==1)&&((gt d.Aj j).Bz==(k:Int)) then 1 else 0):=rfl
theorem qsg{l:qw}{d:qh}(h:qhe l)(g:qkr d):Ev (fun n=>qjs n l d) (designB l d):=by
 have I:=g.Ab.len;have J:=g.Aj.len;have i:=g.Ak.len;have v:=h.As.len;unfold qjs designB;refine Ev.guardB (Ev.or (qrT h) fun _=>Ev.neg (qsM g)) fun z=>?_;rw[je] at z;rw[qnq (m:=d.Ak.length) (by omega)];simp only[jd];have t:Ev (fun n=>qdJ l d n (vecC (fun _=>0) d.Ak.length) 0) (bif allN (fun j=>instB l d (gt d.Ab j)) d.Ab.length then .nxt (vecC (fun k=>drvI d k d.Ab.length) d.Ak.length,(d.Ab.length:Int)) else .ret false):=by
  refine loopN (Lf:=qdJ l d) (S:=fun j=>vecC (fun k=>drvI d k j) d.Ak.length) (fun j=>instB l d (gt d.Ab j)) (fun n=>?_) (fun j a K X f=>?_)
  ·simp only[qdJ,qp (jf _),cond_false]
  ·simp only[qdJ,qn a,cond_true,qz a,jd,wS j];have p:=(qmZ g.Ab a).Ak.len;refine Ev.chk1 (qqM i v p) fun hi=>?_;obtain⟨r,B,C⟩:=qqa z.1 hi;have L:drvI d (lastN (gt d.Ab j)).toNat j<=j:=qgw;obtain⟨e1,s⟩:=qlA (c:=fun k=>drvI d k j) (c':=fun k=>drvI d k (j+1)) B C (by show drvI _ _ _<_;omega) (fun k _=>qoO);simp only[qsu r p,jd,e1,s];exact f hi
 have u:Ev (fun n=>qcJ d n (vecC (fun k=>drvI d k d.Ab.length) d.Ak.length) 0) (bif allN (fun j=>portB d (gt d.Aj j)) d.Aj.length then .nxt (vecC (fun k=>drvI d k d.Ab.length+drvP d k d.Aj.length) d.Ak.length,(d.Aj.length:Int)) else .ret false):=by
  refine loopN (Lf:=qcJ d) (S:=fun j=>vecC (fun k=>drvI d k d.Ab.length+drvP d k j) d.Ak.length) (fun j=>portB d (gt d.Aj j)) (fun n=>?_) (fun j a K X f=>?_)
  ·simp only[qcJ,qp (jf _),cond_false]
  ·simp only[qcJ,qn a,cond_true,qz a,jd,qsR i,bne,wS j];refine Ev.chkT1 ?_ fun hi=>?_
   ·unfold portB;rw[qxx];cases ((gt d.Aj j).Bv==1)<;>cases ((gt d.Aj j).Bv==2)<;>exact .done
   ·have f:=f hi;unfold portB netB at hi;simp only[je,qa9] at hi;have D:drvI d (gt d.Aj j).Bz.toNat d.Ab.length<=d.Ab.length:=qgw;have F:drvP d (gt d.Aj j).Bz.toNat j<=j:=qgw;cases r:((gt d.Aj j).Bv==1)
    ·have:vecC (fun k=>drvI d k d.Ab.length+drvP d k (j+1)) d.Ak.length=vecC (fun k=>drvI d k d.Ab.length+drvP d k j) d.Ak.length:=by
      refine qkI (fun k _=>?_);rw[qnt,r];rfl
     rw[this] at f;exact f
    ·obtain⟨e1,s⟩:=qlA (c:=fun k=>drvI d k d.Ab.length+drvP d k j) (c':=fun k=>drvI d k d.Ab.length+drvP d k (j+1)) (x:=(gt d.Aj j).Bz) (m:=d.Ak.length) hi.2.1 (by omega) (by show drvI _ _ _+drvP _ _ _<_;omega) (fun k _=>by rw[qnt,r,jB];omega);simp only[cond_true,jd,e1,s];exact f
 rw[qiH,qiH];refine Ev.bind t ?_;cases allN (fun j=>instB l d (gt d.Ab j)) d.Ab.length
 ·exact .done
 ·refine Ev.bind u ?_;cases allN (fun j=>portB d (gt d.Aj j)) d.Aj.length
  ·exact .done
  ·simp only[cond_true,jB];unfold qb7;refine Ev.bind (b:=(vecC (fun k=>drvI d k d.Ab.length+drvP d k d.Aj.length) d.Ak.length).any fun x=>!(x==1)) (Ev.bind (b:=ixL (fun x=>!(x==1)) (vecC (fun k=>drvI d k d.Ab.length+drvP d k d.Aj.length) d.Ak.length)) (qge (fin:=(((vecC (fun k=>drvI d k d.Ab.length+drvP d k d.Aj.length) d.Ak.length).length:Nat):Int)) (Lf:=qau (vecC (fun k=>drvI d k d.Ab.length+drvP d k d.Aj.length) d.Ak.length)) (pf:=fun n y=>qjQ n y) (fun y _=>.done)
    (fun n=>by simp only[qau,qp (jf _),cond_false])
    (fun n j y A=>by
     have a:=(List.getElem?_eq_some_iff.1 A).1;have:j<d.Ak.length:=by rw[qmP] at a;exact a
     simp only[qau,qn a,cond_true,qhk A,jd,wS j])
    (fun n=>by unfold qcr;congr 1;funext o;cases o<;>rfl)) (Ev.now (by rw[qmN]))) (Ev.now ?_)
   rw[qov,qg9 (d:=0),qmP];unfold drvB
   congr 1
   exact qis (fun k H=>by
    have:=qsb (c:=fun k=>drvI d k d.Ab.length+drvP d k d.Aj.length) H;unfold at0 at this;rw[this])
theorem qsZ{l:qw}{d:qh}(h:qhe l)(f:qkr d):Ev (fun n=>qjr n l d) (d.Ab.all (instB l d)&&d.Aj.all (portB d)):=by
 have r:=f.Ab.len;have s:=f.Aj.len;have c:=f.Ak.len;have p:=h.As.len;have i:∀x:qH,x.Ak.length<=1048576->Ev (fun n=>qeL d x n 0) (bif x.Ak.all (netB d) then .nxt (x.Ak.length:Int) else .ret false):=fun x t=>
  qkL (fun n=>by simp only[qeL,qp (jf _),cond_false]) (fun j a X b=>by
   simp only[qeL,qn a,cond_true,qa1 a,jd,qrc c,wS j,qdD];exact Ev.okP1 fun _=>b)
 have g:Ev (fun n=>qeZ l d n 0) (bif allN (fun j=>instB l d (gt d.Ab j)) d.Ab.length then .nxt (d.Ab.length:Int) else .ret false):=by
  refine qeG ?_ (fun j a X b=>Ev.succ ?_)
  ·exact Ev.succ (by simp only[qeZ,qp (jf _),cond_false];exact .done)
  ·simp only[qeZ,qn a,cond_true,qz a,jd,qcY,qfF (show l.As.length<=9223372036854775807 by omega),wS j,bne];have m:=(qmZ f.Ab a).Ak.len;unfold instB;rw[<-Bool.and_assoc];refine Ev.chkT ?_ fun _=>Ev.bind (i _ m) ?_
   ·simp only[qdD];refine Ev.orBP fun o=>?_;rw[qa9] at o;rw[qd2 o.1 (by omega)];exact .done
   ·cases (gt d.Ab j).Ak.all (netB d)
    ·exact .done
    ·exact b
 have k:Ev (fun n=>qeN d n 0) (bif allN (fun j=>portB d (gt d.Aj j)) d.Aj.length then .nxt (d.Aj.length:Int) else .ret false):=by
  refine qeG ?_ (fun j a X b=>Ev.succ ?_)
  ·exact Ev.succ (by simp only[qeN,qp (jf _),cond_false];exact .done)
  ·simp only[qeN,qn a,cond_true,qz a,jd,qrc c,wS j];simp only[qcY,jd,qdD];unfold portB;exact Ev.okP fun _=>Ev.okP1 fun _=>b
 unfold qjr;rw[qiH,qiH];refine Ev.bind g ?_;cases allN (fun j=>instB l d (gt d.Ab j)) d.Ab.length
 ·exact .done
 ·refine Ev.bind k ?_;cases allN (fun j=>portB d (gt d.Aj j)) d.Aj.length<;>exact .done
theorem qrK{l:qw}{d:qh}(h:qhe l)(i:qkr d):Ev (fun n=>qju n l d) (designB l d):=by
 have J:=i.Ab.len;have K:=i.Aj.len;have W:=i.Ak.len;have T:=h.As.len;have e:designB l d=((libB l&&(decide (d.Ab.length<=14)&&(decide (d.Ak.length<=30)&&(decide (d.Aj.length<=8)&&(d.Ab.all (instB l d)&&d.Aj.all (portB d))))))&&((namesB (d.Ab.map qH.Bi)&&(namesB (d.Aj.map qaD.Bi)&&namesB d.Ak))&&drvB d)):=by
  unfold designB hasNamesB;generalize libB l=a1;generalize decide (d.Ab.length<=14)=a2;generalize decide (d.Ak.length<=30)=a3;generalize decide (d.Aj.length<=8)=a4;generalize d.Ab.all (instB l d)=a5;generalize d.Aj.all (portB d)=a6;generalize namesB (d.Ab.map qH.Bi)=a7;generalize namesB (d.Aj.map qaD.Bi)=a8;generalize namesB d.Ak=a9;generalize drvB d=a10;rw[jm];simp only[je];constructor
  ·rintro⟨⟨f,⟨p,r,u⟩,z,B,A⟩,v,y,o⟩;exact⟨⟨f,p,r,u,v,y⟩,⟨z,A,B⟩,o⟩
  ·rintro⟨⟨f,p,r,u,v,y⟩,⟨z,A,B⟩,o⟩;exact⟨⟨f,⟨p,r,u⟩,z,B,A⟩,v,y,o⟩
 rw[e];unfold qju;refine Ev.guardB ?_ fun P=>?_
 ·refine Ev.or (qqV h) fun _=>?_;rw[show decide ((d.Ab.length:Int) > 14) = !decide (d.Ab.length<=14) by rw[jm];simp;omega,show decide ((d.Ak.length:Int) > 30) = !decide (d.Ak.length<=30) by rw[jm];simp;omega,show decide ((d.Aj.length:Int) > 8) = !decide (d.Aj.length<=8) by rw[jm];simp;omega];simp only[qdD];exact Ev.orBP fun _=>Ev.orBP fun _=>Ev.orBP fun _=>Ev.neg (qsZ h i)
 ·simp only[je] at P;obtain⟨s,_,_,_,N,O⟩:=P;rw[qiH,qah] at N O;have C:Ev (fun n=>qdE d n ([]:List ByteArray) 0) (d.Ab.map qH.Bi,(d.Ab.length:Int)):=by
   refine loopF (Lf:=qdE d) (S:=fun j=>(d.Ab.take j).map qH.Bi) (len:=d.Ab.length) (fun n=>?_) (fun j a X b=>?_)
   ·simp only[qdE,qp (jf _),cond_false,jN]
   ·simpa only[qdE,qn a,cond_true,qz a,jd,qlS a J,qgE (g:=qH.Bi) a,wS j] using b
  have D:Ev (fun n=>qdH d n ([]:List ByteArray) 0) (d.Aj.map qaD.Bi,(d.Aj.length:Int)):=by
   refine loopF (Lf:=qdH d) (S:=fun j=>(d.Aj.take j).map qaD.Bi) (len:=d.Aj.length) (fun n=>?_) (fun j a X b=>?_)
   ·simp only[qdH,qp (jf _),cond_false,jN]
   ·simpa only[qdH,qn a,cond_true,qz a,jd,qlS a K,qgE (g:=qaD.Bi) a,wS j] using b
  have F:Ev (fun n=>qdK d n (vecC (fun _=>0) d.Ak.length) 0) (vecC (fun k=>drvI d k d.Ab.length) d.Ak.length,(d.Ab.length:Int)):=by
   refine loopF (Lf:=qdK d) (S:=fun j=>vecC (fun k=>drvI d k j) d.Ak.length) (len:=d.Ab.length) (fun n=>?_) (fun j a X b=>?_)
   ·simp only[qdK,qp (jf _),cond_false]
   ·have M:=(qmZ i.Ab a).Ak.len;obtain⟨f,p,r⟩:=qqa s (N j a);have Y:drvI d (lastN (gt d.Ab j)).toNat j<=j:=qgw;obtain⟨e1,t⟩:=qlA (c:=fun k=>drvI d k j) (c':=fun k=>drvI d k (j+1)) p r (by show drvI _ _ _<_;omega) (fun k _=>qoO);simpa only[qdK,qn a,cond_true,qz a,jd,wS j,qsu f M,e1,t] using b
  have H:Ev (fun n=>qcH d n (vecC (fun k=>drvI d k d.Ab.length) d.Ak.length) 0) (vecC (fun k=>drvI d k d.Ab.length+drvP d k d.Aj.length) d.Ak.length,(d.Aj.length:Int)):=by
   refine loopF (Lf:=qcH d) (S:=fun j=>vecC (fun k=>drvI d k d.Ab.length+drvP d k j) d.Ak.length) (len:=d.Aj.length) (fun n=>?_) (fun j a X b=>?_)
   ·simp only[qcH,qp (jf _),cond_false]
   ·have hi:=O j a;unfold portB netB at hi;simp only[je,qa9] at hi;have Q:drvI d (gt d.Aj j).Bz.toNat d.Ab.length<=d.Ab.length:=qgw;have R:drvP d (gt d.Aj j).Bz.toNat j<=j:=qgw;simp only[qcH,qn a,cond_true,qz a,jd,wS j];cases f:((gt d.Aj j).Bv==1)
    ·have:vecC (fun k=>drvI d k d.Ab.length+drvP d k (j+1)) d.Ak.length=vecC (fun k=>drvI d k d.Ab.length+drvP d k j) d.Ak.length:=by
      refine qkI (fun k _=>?_);rw[qnt,f];rfl
     rw[this] at b;exact b
    ·obtain⟨e1,t⟩:=qlA (c:=fun k=>drvI d k d.Ab.length+drvP d k j) (c':=fun k=>drvI d k d.Ab.length+drvP d k (j+1)) (x:=(gt d.Aj j).Bz) (m:=d.Ak.length) hi.2.1 (by omega) (by show drvI _ _ _+drvP _ _ _<_;omega) (fun k _=>by rw[qnt,f,jB];omega);simp only[cond_true,jd,e1,t];exact b
  have I:Ev (fun n=>qeP (vecC (fun _=>0) d.Ak.length) (vecC (fun k=>drvI d k d.Ab.length+drvP d k d.Aj.length) d.Ak.length) n 0) (bif drvB d then .nxt (d.Ak.length:Int) else .ret false):=by
   refine qeG ?_ (fun j a X b=>Ev.succ ?_)
   ·exact Ev.succ (by simp only[qeP,qmP,qp (jf _),cond_false];exact .done)
   ·simp only[qeP,qmP,qn a,cond_true,qkN a,jd,bne,qdD,wS j];exact Ev.okP1 fun _=>b
  refine Ev.bind C (Ev.bind D ?_);refine Ev.guardB (Ev.or (qng (qnk i.Ab (fun x L=>L.Bi))) fun _=>Ev.or (qng (qnk i.Aj (fun x L=>L.Bi))) fun _=>Ev.neg (qng i.Ak)) fun _=>?_;rw[qnq (m:=d.Ak.length) (by omega)];simp only[jd];refine Ev.bind F (Ev.bind H (Ev.bind I ?_));cases drvB d<;>exact .done

theorem qwb{m k:Nat}:decide ((m:Int)<(k:Int)) = !decide (k<=m):=by rw[jm];simp
theorem qwA{m k:Nat}:decide ((m:Int) > (k:Int)) = !decide (m<=k):=by rw[jm];simp
def treeB(w:qan)(j:Nat):Bool:=bif decide (j=0) then(at0 w.Am j==-1)&&(at0 w.Bu j==0) else inI (at0 w.Am j) 0 ((j:Int)-1)
def wireB(w:qan)(s:Int):Bool:=
 lenB w.Am 1 8&&(((w.Bu.length:Int)==(w.Am.length:Int))&&(((w.Bq.length:Int)==(w.Am.length:Int))&&(allN (treeB w) w.Am.length &&
  ((w.Bu.all fun x=>inI x 0 1000)&&((w.Bq.all fun x=>inI x 0 500)&&(((w.Bk.length:Int)==s)&&(w.Bk.all fun x=>inI x 0 ((w.Am.length:Int)-1))))))))
theorem quu{w:qan}(i:w.Am.length<=1048576)(h:((w.Bu.length:Int)==(w.Am.length:Int))=true):Ev (fun n=>qhq n w) (allN (treeB w) w.Am.length):=by
 rw[beq_iff_eq] at h;have g:Ev (fun n=>qbu w n 0) (bif allN (treeB w) w.Am.length then .nxt (w.Am.length:Int) else .ret false):=by
  refine qeG ?_ (fun j b X a=>Ev.succ ?_)
  ·exact Ev.succ (by simp only[qbu,qp (jf _),cond_false];exact .done)
  ·simp only[qbu,qn b,cond_true,qai b,jd,qdd,wS j,bne,qdD];unfold treeB;by_cases f:j=0
   ·subst f;rw[show idx w.Bu (0:Int)=V (at0 w.Bu 0) from qai (j:=0) (by omega)];simp only[jd];refine Ev.tt (by simp) (Ev.okP fun _=>Ev.okP1 fun _=>Ev.ff (by simp) a)
   ·have e1:decide (j=0)=false:=by simp;omega
    have c:((j:Int)==0)=false:=by simp;omega
    have d:decide ((j:Int) > 0)=true:=by simp;omega
    rw[e1,c,d,qfF (show j<=9223372036854775807 by omega)];simp only[cond_false,cond_true];exact Ev.okP1 fun _=>a
 unfold qhq;refine Ev.bind g ?_;cases allN (treeB w) w.Am.length<;>exact .done
theorem quj{w:qan}{s:Int}(h:qou w):Ev (fun n=>qla n w s) (wireB w s):=by
 have a:=h.Am.len;simp only[qla,qbI,jd,qdd,qfF (show w.Am.length<=9223372036854775807 by omega)];unfold wireB;rw[show inI (w.Am.length:Int) 1 8=lenB w.Am 1 8 from qr7 (lo:=1) (hi:=8)];exact Ev.andP fun _=>Ev.andP fun b=>Ev.andP fun _=>Ev.and (quu a b) fun _=>Ev.and (qeH h.Bu.len) fun _=>Ev.and (qeH h.Bq.len) fun _=>Ev.andP fun _=>Ev.last (qeH h.Bk.len)
theorem qtv{w:qan}{s:Int}(h:qou w):Ev (fun n=>qle n w s) (wireB w s):=by
 have r:=h.Am.len;have o:=h.Bk.len;have e:wireB w s=((decide (1<=w.Am.length)&&(decide (w.Am.length<=8)&&(((w.Bu.length:Int)==(w.Am.length:Int))&&(((w.Bq.length:Int)==(w.Am.length:Int))&&((w.Bk.length:Int)==s)))))&&(allN (fun j=>(inI (at0 w.Bq j) 0 500&&inI (at0 w.Bu j) 0 1000)&&treeB w j) w.Am.length&&(w.Bk.all fun x=>inI x 0 ((w.Am.length:Int)-1)))):=by
  unfold wireB lenB;cases h1:((w.Bu.length:Int)==(w.Am.length:Int))
  ·simp
  ·cases h2:((w.Bq.length:Int)==(w.Am.length:Int))
   ·simp
   ·rw[beq_iff_eq] at h1 h2;rw[qls,qls];rw[qg9 (p:=fun x=>inI x 0 1000) (d:=0),qg9 (p:=fun x=>inI x 0 500) (d:=0),show w.Bu.length=w.Am.length by omega,show w.Bq.length=w.Am.length by omega];show _=(_&&((allN (fun j=>inI (w.Bq.getD j 0) 0 500) _&&allN (fun j=>inI (w.Bu.getD j 0) 0 1000) _&&_)&&_));generalize allN (fun j=>inI (w.Bq.getD j 0) 0 500) w.Am.length=a1;generalize allN (fun j=>inI (w.Bu.getD j 0) 0 1000) w.Am.length=a2;generalize allN (fun j=>treeB w j) w.Am.length=a3;generalize ((w.Bk.length:Int)==s)=a4;generalize decide (1<=w.Am.length)=a5;generalize decide (w.Am.length<=8)=a6;generalize (w.Bk.all fun x=>inI x 0 ((w.Am.length:Int)-1))=a7;cases a1<;>cases a2<;>cases a3<;>cases a4<;>cases a5<;>cases a6<;>rfl
 rw[e];unfold qle;refine Ev.guardB ?_ fun m=>?_
 ·rw[show decide ((w.Am.length:Int)<1) = !decide (1<=w.Am.length) from qwb (k:=1),show decide ((w.Am.length:Int) > 8) = !decide (w.Am.length<=8) from qwA (k:=8)];simp only[bne,qdD];exact Ev.orBP fun _=>Ev.orBP fun _=>Ev.orBP fun _=>Ev.orBP fun _=>.done
 ·simp only[je,beq_iff_eq] at m;have c:Ev (fun n=>qc8 w n 0) (bif allN (fun j=>(inI (at0 w.Bq j) 0 500&&inI (at0 w.Bu j) 0 1000)&&treeB w j) w.Am.length then .nxt (w.Am.length:Int) else .ret false):=by
   refine qeG ?_ (fun j a X b=>Ev.succ ?_)
   ·exact Ev.succ (by simp only[qc8,qp (jf _),cond_false];exact .done)
   ·simp only[qc8,qn a,cond_true,qai a,qai (show j<w.Bq.length by omega),qai (show j<w.Bu.length by omega),jd,qcY,wS j,bne,qdD];refine Ev.chkT (Ev.orBP fun _=>.done) fun _=>?_;unfold treeB;by_cases l:j=0
    ·subst l;refine Ev.tt (by simp) (Ev.okP fun _=>Ev.okP1 fun _=>Ev.ff (by simp) b)
    ·have e1:decide (j=0)=false:=by simp;omega
     have g:((j:Int)==0)=false:=by simp;omega
     have i:decide ((j:Int) > 0)=true:=by simp;omega
     rw[e1,g,i,qfF (show j<=9223372036854775807 by omega)];simp only[cond_false,cond_true];exact Ev.okP1 fun _=>b
  have f:Ev (fun n=>qgd w n 0) (bif (w.Bk.all fun x=>inI x 0 ((w.Am.length:Int)-1)) then .nxt (w.Bk.length:Int) else .ret false):=
   qkL (fun n=>by simp only[qgd,qp (jf _),cond_false]) (fun j a X b=>by
    simp only[qgd,qn a,cond_true,qa1 a,jd,qcY,qfF (show w.Am.length<=9223372036854775807 by omega),wS j,qdD];exact Ev.okP1 fun _=>b)
  refine Ev.bind c ?_;cases allN (fun j=>(inI (at0 w.Bq j) 0 500&&inI (at0 w.Bu j) 0 1000)&&treeB w j) w.Am.length
  ·exact .done
  ·refine Ev.bind f ?_;cases (w.Bk.all fun x=>inI x 0 ((w.Am.length:Int)-1))<;>exact .done
instance:Inhabited Tplace:=⟨⟨0,0,0,false⟩⟩
instance:Inhabited Tl05Place:=⟨⟨0,0,0,false⟩⟩
def toSp(p:Tplace):Tl05Place:=⟨p.instance_,p.pin,p.net,p.drives⟩
def plX(i:Nat)(x:qH)(j:Nat):List Tplace:=(List.range j).map fun(k:Nat)=>⟨(i:Int),(k:Int),at0 x.Ak k,decide (k+1=x.Ak.length)⟩
def plI(d:qh)(j:Nat):List Tplace:=(List.range j).flatMap fun(i:Nat)=>plX i (gt d.Ab i) (gt d.Ab i).Ak.length
def plP(d:qh)(j:Nat):List Tplace:=(List.range j).map fun(i:Nat)=>⟨-1,(i:Int),(gt d.Aj i).Bz,(gt d.Aj i).Bv==1⟩
def places(d:qh):List Tplace:=plI d d.Ab.length++plP d d.Aj.length
theorem qsj{i:Nat}{x:qH}{j:Nat}:plX i x (j+1)=plX i x j++[⟨(i:Int),(j:Int),at0 x.Ak j,decide (j+1=x.Ak.length)⟩]:=by
 unfold plX;rw[List.range_succ,jY];rfl
theorem qmX{d:qh}{j:Nat}:plI d (j+1)=plI d j++plX j (gt d.Ab j) (gt d.Ab j).Ak.length:=by
 unfold plI;rw[List.range_succ,List.flatMap_append];simp
theorem qsi{d:qh}{j:Nat}:plP d (j+1)=plP d j++[⟨-1,(j:Int),(gt d.Aj j).Bz,(gt d.Aj j).Bv==1⟩]:=by
 unfold plP;rw[List.range_succ,jY];rfl
theorem qpO{i:Nat}{x:qH}{j:Nat}:(plX i x j).length=j:=by simp[plX]
theorem qpU{d:qh}{j:Nat}:(plP d j).length=j:=by simp[plP]
structure smallD(d:qh):Prop where
 ni:d.Ab.length<=14
 nn:d.Ak.length<=30
 np:d.Aj.length<=8
 nx:∀i,i<d.Ab.length->2<=(gt d.Ab i).Ak.length/\(gt d.Ab i).Ak.length<=5
theorem qaj{l:qw}{d:qh}(h:designB l d=true):smallD d:=by
 unfold designB hasNamesB libB at h;simp only[je,decide_eq_true_eq] at h;obtain⟨⟨⟨b,_⟩,⟨c,f,g⟩,_⟩,a,_⟩:=h;refine⟨c,f,g,fun i hi=>?_⟩;rw[qiH,qah] at a b;have:=a i hi;unfold instB at this;simp only[je,qa9,beq_iff_eq] at this;have k:=qhl (qjl (b (gt d.Ab i).Bt.toNat (by omega)));omega
theorem qof{d:qh}(h:smallD d){j:Nat}(a:j<=d.Ab.length):(plI d j).length<=5*j:=by
 induction j with
 |zero=>exact jf _
 |succ j ih=>
  rw[qmX,jg,qpO];have:=ih (by omega);have:=h.nx j (by omega);omega
theorem qaU{d:qh}(h:smallD d):(places d).length<=78:=by
 unfold places;rw[jg,qpU];have:=qof h (jf _);have:=h.ni;have:=h.np;omega
theorem qni{d:qh}(h:smallD d):Ev (fun n=>qcF n d) (places d):=by
 have l:=h.ni;have m:=h.np;have f:∀i,i<d.Ab.length->∀pre:List Tplace,pre.length<=100->Ev (fun n=>qb1 (i:Int) (gt d.Ab i) n pre 0) (pre++plX i (gt d.Ab i) (gt d.Ab i).Ak.length,((gt d.Ab i).Ak.length:Int)):=by
  intro i hi pre p;have o:=h.nx i hi;have:=loopF (Lf:=qb1 (i:Int) (gt d.Ab i)) (S:=fun j=>pre++plX i (gt d.Ab i) j) (len:=(gt d.Ab i).Ak.length) (fin:=(pre++plX i (gt d.Ab i) (gt d.Ab i).Ak.length,((gt d.Ab i).Ak.length:Int))) (fun n=>by
    simp only[qb1,qp (jf _),cond_false])
   (fun j a X b=>by
    have k:(pre++plX i (gt d.Ab i) j).length+[(⟨(i:Int),(j:Int),at0 (gt d.Ab i).Ak j,decide (j+1=(gt d.Ab i).Ak.length)⟩:Tplace)].length<=2147483648:=by
     rw[jg,qpO];simp;omega
    simp only[qb1,qn a,cond_true,qai a,jd,lastE a (show(gt d.Ab i).Ak.length<=1048576 by omega),qcE k,ju,<-qsj,wS j];exact b)
  simpa [plX] using this
 have c:Ev (fun n=>qb0 d n ([]:List Tplace) 0) (plI d d.Ab.length,(d.Ab.length:Int)):=by
  refine loopF (Lf:=qb0 d) (S:=fun j=>plI d j) (len:=d.Ab.length) (fun n=>?_) (fun j a X b=>?_)
  ·simp only[qb0,qp (jf _),cond_false]
  ·simp only[qb0,qn a,cond_true,qz a,jd,wS j];refine Ev.bind (f j a _ (by have:=qof h (Nat.le_of_lt a);omega)) ?_;rw[<-qmX];exact b
 have g:Ev (fun n=>qb3 d n (plI d d.Ab.length) 0) (places d,(d.Aj.length:Int)):=by
  have:=loopF (Lf:=qb3 d) (S:=fun j=>plI d d.Ab.length++plP d j) (len:=d.Aj.length) (fin:=(places d,(d.Aj.length:Int))) (fun n=>by
    simp only[qb3,qp (jf _),cond_false];rfl)
   (fun j a X b=>by
    have k:(plI d d.Ab.length++plP d j).length+[(⟨-1,(j:Int),(gt d.Aj j).Bz,(gt d.Aj j).Bv==1⟩:Tplace)].length<=2147483648:=by
     rw[jg,qpU];have:=qof h (jf _);simp;omega
    simp only[qb3,qn a,cond_true,qz a,jd,qcE k,ju,<-qsi,wS j];exact b)
  simpa [plP] using this
 unfold qcF;exact Ev.bind c (Ev.bind g .done)
theorem qgF{d:qh}(h:smallD d):Ev (fun n=>qce n d) ((places d).map toSp):=by
 have l:=h.ni;have m:=h.np;have f:∀i,i<d.Ab.length->∀pre:List Tplace,pre.length<=100->Ev (fun n=>qc5 (i:Int) (gt d.Ab i) n (pre.map toSp) 0) ((pre++plX i (gt d.Ab i) (gt d.Ab i).Ak.length).map toSp,((gt d.Ab i).Ak.length:Int)):=by
  intro i hi pre p;have o:=h.nx i hi;have:=loopF (Lf:=qc5 (i:Int) (gt d.Ab i)) (S:=fun j=>(pre++plX i (gt d.Ab i) j).map toSp) (len:=(gt d.Ab i).Ak.length) (fin:=((pre++plX i (gt d.Ab i) (gt d.Ab i).Ak.length).map toSp,((gt d.Ab i).Ak.length:Int))) (fun n=>by
    simp only[qc5,qp (jf _),cond_false])
   (fun j a X b=>by
    have k:((pre++plX i (gt d.Ab i) j).map toSp).length+[(⟨(i:Int),(j:Int),at0 (gt d.Ab i).Ak j,decide (j+1=(gt d.Ab i).Ak.length)⟩:Tl05Place)].length<=2147483648:=by
     rw[jr,jg,qpO];simp;omega
    simp only[qc5,qn a,cond_true,qai a,jd,lastE a (show(gt d.Ab i).Ak.length<=1048576 by omega),qcE k,wS j];rw[qsj,<-ju,jY] at b;exact b)
  simpa [plX] using this
 have c:Ev (fun n=>qc1 d n ([]:List Tl05Place) 0) ((plI d d.Ab.length).map toSp,(d.Ab.length:Int)):=by
  refine loopF (Lf:=qc1 d) (S:=fun j=>(plI d j).map toSp) (len:=d.Ab.length) (fun n=>?_) (fun j a X b=>?_)
  ·simp only[qc1,qp (jf _),cond_false]
  ·simp only[qc1,qn a,cond_true,qz a,jd,wS j];refine Ev.bind (f j a _ (by have:=qof h (Nat.le_of_lt a);omega)) ?_;rw[<-qmX];exact b
 have g:Ev (fun n=>qc2 d n ((plI d d.Ab.length).map toSp) 0) ((places d).map toSp,(d.Aj.length:Int)):=by
  have:=loopF (Lf:=qc2 d) (S:=fun j=>(plI d d.Ab.length++plP d j).map toSp) (len:=d.Aj.length) (fin:=((places d).map toSp,(d.Aj.length:Int))) (fun n=>by
    simp only[qc2,qp (jf _),cond_false];rfl)
   (fun j a X b=>by
    have k:((plI d d.Ab.length++plP d j).map toSp).length+[(⟨-1,(j:Int),(gt d.Aj j).Bz,(gt d.Aj j).Bv==1⟩:Tl05Place)].length<=2147483648:=by
     rw[jr,jg,qpU];have:=qof h (jf _);simp;omega
    simp only[qc2,qn a,cond_true,qz a,jd,qcE k,wS j];rw[qsi,<-ju,jY] at b;exact b)
  simpa [plP] using this
 unfold qce;exact Ev.bind c (Ev.bind g .done)
def snkQ(d:qh)(k:Int)(i:Nat):Bool:=((gt (places d) i).net==k)&&!(gt (places d) i).drives
def sinksL(d:qh)(k:Int)(j:Nat):List Int:=((List.range j).filter (snkQ d k)).map fun(i:Nat)=>(i:Int)
def snkN(d:qh)(k:Int):Nat:=cntP (snkQ d k) (places d).length
theorem qjK{d:qh}{k:Int}{j:Nat}:sinksL d k (j+1)=sinksL d k j++(bif snkQ d k j then[(j:Int)] else[]):=by
 unfold sinksL;rw[List.range_succ,List.filter_append,jY]
 congr 1
 cases h:snkQ d k j<;>simp[h]
theorem qjo{d:qh}{k:Int}{j:Nat}:(sinksL d k j).length=cntP (snkQ d k) j:=by
 induction j with
 |zero=>rfl
 |succ j ih=>
  rw[qjK,jg,ih];show _=cntP (snkQ d k) j+_
  congr 1
  cases snkQ d k j<;>rfl
theorem qmH{α β:Type}[Inhabited α][Inhabited β]{xs:List α}{g:α->β}{j:Nat}(h:j<xs.length):gt (xs.map g) j=g (gt xs j):=by
 rw[qd6 (by simpa using h),qd6 h];simp
theorem qlb{d:qh}{k:Int}(h:smallD d):Ev (fun n=>qfW n d k) (sinksL d k (places d).length):=by
 have l:=qaU h;have g:Ev (fun n=>qcO k ((places d).map toSp) n ([]:List Int) 0) (sinksL d k (places d).length,((places d).length:Int)):=by
  refine loopF (Lf:=qcO k ((places d).map toSp)) (S:=fun j=>sinksL d k j) (len:=(places d).length) (fun n=>?_) (fun j f X a=>?_)
  ·simp only[qcO,jr,qp (jf _),cond_false]
  ·have c:j<((places d).map toSp).length:=by simpa using f
   have i:(sinksL d k j).length+[(j:Int)].length<=2147483648:=by
    rw[qjo];have:cntP (snkQ d k) j<=j:=qgw;simp;omega
   simp only[qcO,qn c,cond_true,qz c,qmH f,jd,wS j];rw[show ∀p:Tplace,(toSp p).net=p.net from fun _=>rfl,show ∀p:Tplace,(toSp p).drives=p.drives from fun _=>rfl];refine Ev.bind (b:=snkQ d k j) (Ev.andP fun _=>.done) ?_;rw[qjK] at a;cases hq:snkQ d k j
   ·rw[hq] at a;simp only[cond_false,Je] at a⊢;exact a
   ·rw[hq] at a;simp only[cond_true,qcE i,jd] at a⊢;exact a
 unfold qfW;exact Ev.bind (qgF h) (Ev.bind g .done)
theorem qlY{l:qw}{d:qh}(h:designB l d=true){i:Nat}(hi:i<(places d).length):0<=(gt (places d) i).net/\(gt (places d) i).net<d.Ak.length:=by
 unfold designB at h;simp only[je] at h;obtain⟨_,f,g,_⟩:=h;rw[qiH,qah] at f g;have a:gt (places d) i∈places d:=by rw[qd6 hi];exact jn hi
 generalize gt (places d) i=p at a;unfold places at a;rcases List.mem_append.1 a with a|a
 ·unfold plI at a;obtain⟨i,hi,a⟩:=List.mem_flatMap.1 a;unfold plX at a;obtain⟨k,m,rfl⟩:=List.mem_map.1 a;have:=f i (List.mem_range.1 hi);unfold instB at this;simp only[je] at this;have b:=this.2.2;rw[qg9 (d:=0),qah] at b;have c:=b k (List.mem_range.1 m);unfold netB at c;rw[qa9] at c;show 0<=at0 _ _/\at0 _ _<_;unfold at0;omega
 ·unfold plP at a;obtain⟨i,hi,rfl⟩:=List.mem_map.1 a;have:=g i (List.mem_range.1 hi);unfold portB netB at this;simp only[je,qa9] at this;show 0<=(gt d.Aj i).Bz/\(gt d.Aj i).Bz<_;omega
def blockB(b:qe):Bool:=(designB b.Aq b.Aa&&((b.Af.length:Int)==(b.Aa.Ak.length:Int)))&&allN (fun j=>wireB (gt b.Af j) (snkN b.Aa (j:Int))) b.Af.length
theorem qp6{b:qe}(h:qjO b):Ev (fun n=>qhD n b) (blockB b):=by
 have r:=h.Af.len;unfold qhD blockB;refine Ev.guardB (Ev.or (qsg h.Aq h.Aa) fun _=>.done) fun l=>?_;rw[je,beq_iff_eq] at l;obtain⟨o,y⟩:=l;have i:=qaj o;have u:=qaU i;have v:=i.nn;rw[qnq (m:=b.Af.length) (by omega)];simp only[jd];have f:Ev (fun n=>qdp (places b.Aa) n (vecC (fun _=>0) b.Af.length) 0) (vecC (fun k=>snkN b.Aa (k:Int)) b.Af.length,((places b.Aa).length:Int)):=by
  refine loopF (Lf:=qdp (places b.Aa)) (S:=fun j=>vecC (fun k=>cntP (snkQ b.Aa (k:Int)) j) b.Af.length) (len:=(places b.Aa).length) (fun n=>?_) (fun j a X d=>?_)
  ·simp only[qdp,qp (jf _),cond_false];rfl
  ·simp only[qdp,qn a,cond_true,qz a,jd,wS j];obtain⟨s,n1⟩:=qlY o a;cases h1:(gt (places b.Aa) j).drives
   ·have t:cntP (snkQ b.Aa (((gt (places b.Aa) j).net.toNat:Nat):Int)) j<=j:=qgw;obtain⟨e1,p⟩:=qlA (c:=fun k=>cntP (snkQ b.Aa (k:Int)) j) (c':=fun k=>cntP (snkQ b.Aa (k:Int)) (j+1)) (x:=(gt (places b.Aa) j).net) (m:=b.Af.length) s (by omega) (by show cntP _ _<_;omega) (fun k _=>by
     show cntP _ j+(bif snkQ b.Aa (k:Int) j then 1 else 0)=_;unfold snkQ;rw[h1,Bool.not_false,Bool.and_true])
    simp only[Bool.not_false,cond_true,jd,e1,p];exact d
   ·have:vecC (fun k=>cntP (snkQ b.Aa (k:Int)) (j+1)) b.Af.length=vecC (fun k=>cntP (snkQ b.Aa (k:Int)) j) b.Af.length:=by
     refine qkI (fun k _=>?_);show cntP _ j+(bif snkQ b.Aa (k:Int) j then 1 else 0)=_;unfold snkQ;rw[h1,Jj,Bool.and_false];rfl
    rw[this] at d;exact d
 have g:Ev (fun n=>qfp b (vecC (fun k=>snkN b.Aa (k:Int)) b.Af.length) n 0) (bif allN (fun j=>wireB (gt b.Af j) (snkN b.Aa (j:Int))) b.Af.length then .nxt (b.Af.length:Int) else .ret false):=by
  refine qeG ?_ (fun j a X d=>Ev.succ ?_)
  ·exact Ev.succ (by simp only[qfp,qp (jf _),cond_false];exact .done)
  ·simp only[qfp,qn a,cond_true,qz a,qkN a,jd,wS j];exact Ev.chk1 (quj (qmZ h.Af a)) fun _=>d
 refine Ev.bind (qni i) (Ev.bind f (Ev.bind g ?_));cases allN (fun j=>wireB (gt b.Af j) (snkN b.Aa (j:Int))) b.Af.length<;>exact .done
theorem qhf{b:qe}(h:qjO b):Ev (fun n=>qdW n b) (blockB b):=by
 have i:=h.Af.len;unfold qdW blockB;refine Ev.guardB (Ev.or (qrK h.Aq h.Aa) fun _=>.done) fun c=>?_;rw[je] at c;have g:=qaj c.1;have d:Ev (fun n=>qfs b n 0) (bif allN (fun j=>wireB (gt b.Af j) (snkN b.Aa (j:Int))) b.Af.length then .nxt (b.Af.length:Int) else .ret false):=by
  refine qeG ?_ (fun j a X f=>Ev.succ ?_)
  ·exact Ev.succ (by simp only[qfs,qp (jf _),cond_false];exact .done)
  ·simp only[qfs,qn a,cond_true,qz a,jd,wS j];refine Ev.bind (qlb g) ?_;rw[qjo];exact Ev.chk1 (qtv (qmZ h.Af a)) fun _=>f
 refine Ev.bind d ?_;cases allN (fun j=>wireB (gt b.Af j) (snkN b.Aa (j:Int))) b.Af.length<;>exact .done

def off(d:qh)(i:Nat):Nat:=(plI d i).length
def place1(d:qh)(i k:Nat):Tplace:=⟨(i:Int),(k:Int),at0 (gt d.Ab i).Ak k,decide (k+1=(gt d.Ab i).Ak.length)⟩
def place2(d:qh)(i:Nat):Tplace:=⟨-1,(i:Int),(gt d.Aj i).Bz,(gt d.Aj i).Bv==1⟩
theorem qkF{d:qh}{i:Nat}:off d (i+1)=off d i+(gt d.Ab i).Ak.length:=by
 unfold off;rw[qmX,jg,qpO]
theorem qs7{d:qh}{i j:Nat}(h:i<=j):off d i<=off d j:=by
 induction j with
 |zero=>
  obtain rfl:i=0:=by omega
  exact jf _
 |succ j ih=>
  rcases Nat.lt_or_eq_of_le h with h|rfl
  ·rw[qkF];have:=ih (by omega);omega
  ·exact jf _
theorem qhi{d:qh}:(places d).length=off d d.Ab.length+d.Aj.length:=by
 unfold places off;rw[jg,qpU]
theorem qw8{d:qh}{n i k:Nat}(hi:i<n)(c:k<(gt d.Ab i).Ak.length):off d i+k<off d n/\gt (plI d n) (off d i+k)=place1 d i k:=by
 induction n with
 |zero=>omega
 |succ n ih=>
  rw[qmX,qlK];rcases Nat.lt_succ_iff_lt_or_eq.1 hi with h|rfl
  ·obtain⟨a,b⟩:=ih h;refine⟨by rw[qkF];omega,?_⟩;rw[if_pos (show off d i+k<(plI d n).length from a),b]
  ·refine⟨by rw[qkF];omega,?_⟩;rw[if_neg (by unfold off;omega),show off d i+k-(plI d i).length=k by unfold off;omega];exact qp0 c
theorem qku{d:qh}{i k:Nat}(hi:i<d.Ab.length)(c:k<(gt d.Ab i).Ak.length):off d i+k<(places d).length/\gt (places d) (off d i+k)=place1 d i k:=by
 obtain⟨a,b⟩:=qw8 hi c;refine⟨by rw[qhi];omega,?_⟩;unfold places;rw[qlK,if_pos (show off d i+k<(plI d d.Ab.length).length from a),b]
theorem qq8{d:qh}{i:Nat}(hi:i<d.Aj.length):off d d.Ab.length+i<(places d).length/\gt (places d) (off d d.Ab.length+i)=place2 d i:=by
 refine⟨by rw[qhi];omega,?_⟩;unfold places;rw[qlK,if_neg (by unfold off;omega),show off d d.Ab.length+i-(plI d d.Ab.length).length=i by unfold off;omega];exact qp0 hi
theorem qt7{d:qh}{n j:Nat}(a:j<off d n):∃i k,i<n/\k<(gt d.Ab i).Ak.length/\j=off d i+k:=by
 induction n with
 |zero=>exact absurd a (Nat.not_lt_zero _)
 |succ n ih=>
  by_cases h:j<off d n
  ·obtain⟨i,k,f,b,c⟩:=ih h;exact⟨i,k,by omega,b,c⟩
  ·rw[qkF] at a;exact⟨n,j-off d n,by omega,by omega,by omega⟩
theorem qlf{d:qh}{j:Nat}(c:j<(places d).length) :
  (∃i k,i<d.Ab.length/\k<(gt d.Ab i).Ak.length/\j=off d i+k/\gt (places d) j=place1 d i k) \/
  (∃i,i<d.Aj.length/\j=off d d.Ab.length+i/\gt (places d) j=place2 d i):=by
 rw[qhi] at c;by_cases h:j<off d d.Ab.length
 ·obtain⟨i,k,a,b,rfl⟩:=qt7 h;exact .inl ⟨i,k,a,b,rfl,(qku a b).2⟩
 ·refine .inr ⟨j-off d d.Ab.length,by omega,by omega,?_⟩;have:=(qq8 (d:=d) (i:=j-off d d.Ab.length) (by omega)).2;rwa [show off d d.Ab.length+(j-off d d.Ab.length)=j by omega] at this
def drvQ(d:qh)(k:Int)(j:Nat):Bool:=((gt (places d) j).net==k)&&(gt (places d) j).drives
theorem qsk{q:Nat->Bool}{m n:Nat}:cntP q (m+n)=cntP q m+cntP (fun j=>q (m+j)) n:=by
 induction n with
 |zero=>rfl
 |succ n ih=>
  show cntP q (m+n)+(bif q (m+n) then 1 else 0)=cntP q m+(cntP (fun j=>q (m+j)) n+(bif q (m+n) then 1 else 0));rw[ih];omega
theorem qui{q:Nat->Bool}{n:Nat}{b:Bool}(h:1<=n)(a:∀j,j+1<n->q j=false)(c:q (n-1)=b):cntP q n=bif b then 1 else 0:=by
 obtain⟨m,rfl⟩:∃m,n=m+1:=⟨n-1,by omega⟩;show cntP q m+(bif q m then 1 else 0)=_;rw[qnl.2 (fun j d=>a j (by omega)),show m=m+1-1 by omega,c,Ji]
theorem qs3{d:qh}{k:Nat}(b:smallD d):cntP (drvQ d (k:Int)) (places d).length=drvI d k d.Ab.length+drvP d k d.Aj.length:=by
 rw[qhi,qsk]
 congr 1
 ·have:∀n,n<=d.Ab.length->cntP (drvQ d (k:Int)) (off d n)=drvI d k n:=by
   intro n
   induction n with
   |zero=>intro _;rfl
   |succ n ih=>
    intro f;rw[qkF,qsk,ih (by omega),qoO]
    congr 1
    have c:=(b.nx n (by omega)).1;refine qui (by omega) (fun j a=>?_) ?_
    ·show drvQ d _ (off d n+j)=false;unfold drvQ;rw[(qku (by omega) (by omega)).2];unfold place1;simp;omega
    ·show drvQ d _ (off d n+_)=_;unfold drvQ;rw[(qku (by omega) (by omega)).2];unfold place1 lastN;simp;omega
  exact this _ (jf _)
 ·refine qqm (fun j a=>?_);show drvQ d _ (off d _+j)=_;unfold drvQ;rw[(qq8 a).2];unfold place2;exact Bool.and_comm _ _
theorem qtT{l:qw}{d:qh}(h:designB l d=true){k:Nat}(a:k<d.Ak.length):cntP (drvQ d (k:Int)) (places d).length=1:=by
 rw[qs3 (qaj h)];unfold designB drvB at h;simp only[je] at h;have:=qah.1 h.2.2.2 k a;rw[beq_iff_eq] at this;omega
theorem qsc{l:qw}{d:qh}(h:designB l d=true){i j:Nat}(hi:i<(places d).length)(f:j<(places d).length)(c:(gt (places d) i).net=(gt (places d) j).net)(a:(gt (places d) i).drives=true)(b:(gt (places d) j).drives=true):i=j:=by
 obtain⟨g,n1⟩:=qlY h hi;have e:=qdP g;have:=qtT h (k:=(gt (places d) i).net.toNat) (by omega);refine qsv (Nat.le_of_eq this) hi f ?_ ?_
 ·unfold drvQ;rw[<-e,a];simp
 ·unfold drvQ;rw[<-e,b,c];simp
theorem qxd{l:qw}{d:qh}(h:designB l d=true){k:Int}(c:0<=k)(g:k<d.Ak.length):∃j,j<(places d).length/\(gt (places d) j).net=k/\(gt (places d) j).drives=true:=by
 have e:=qdP c;have:=qtT h (k:=k.toNat) (by omega);have b:decide (0<cntP (drvQ d ((k.toNat:Nat):Int)) (places d).length)=true:=by rw[this];rfl
 rw[qr9,jG,qlZ] at b;obtain⟨j,f,a⟩:=b;rw[Bool.not_eq_false',<-e] at a;unfold drvQ at a;simp only[je,beq_iff_eq] at a;exact⟨j,f,a.1,a.2⟩
def cellAt(b:qe)(i:Int):qF:=gt b.Aq.As (gt b.Aa.Ab i.toNat).Bt.toNat
theorem qgP{l:qw}{d:qh}(h:designB l d=true){i:Nat}(hi:i<d.Ab.length) :
  (0<=(gt d.Ab i).Bt/\(gt d.Ab i).Bt<l.As.length)/\(gt d.Ab i).Ak.length=(gt l.As (gt d.Ab i).Bt.toNat).Bg.length/\cellB (gt l.As (gt d.Ab i).Bt.toNat)=true:=by
 unfold designB libB at h;simp only[je] at h;obtain⟨⟨⟨b,_⟩,_⟩,a,_⟩:=h;rw[qiH,qah] at a b;have:=a i hi;unfold instB at this;simp only[je,qa9,beq_iff_eq] at this;exact⟨⟨this.1.1,by omega⟩,by omega,b _ (by omega)⟩
theorem qm3{c:qF}(h:cellB c=true){j:Nat}(f:j<c.Av.length):(1<=(gt c.Av j).Be/\(gt c.Av j).Be<=5)/\(0<=(gt c.Av j).Bl/\(gt c.Av j).Bl<(c.Bg.length:Int)-1)/\(0<=(gt c.Av j).To/\(gt c.Av j).To<=(c.Bg.length:Int)-1)/\arcS c.Bg (gt c.Av j)=true:=by
 unfold cellB at h;simp only[je] at h;obtain⟨_,i,⟨d,_⟩,_,_,g⟩:=h;have:=qah.1 d j f;rw[je,qvN i (qrv g)] at this;have b:=this.1;refine⟨qrn b,?_⟩;have a:=b;unfold arcS at a;simp only[je,qa9] at a;refine⟨⟨a.1.1.1,by omega⟩,a.1.2,b⟩
theorem qnY{c:qF}(h:cellB c=true):c.Av.length<=8:=by
 unfold cellB at h;simp only[je,decide_eq_true_eq] at h;exact h.2.2.1.2
theorem qaz{b:qe}(h:blockB b=true):designB b.Aq b.Aa=true:=by
 unfold blockB at h;simp only[je] at h;exact h.1.1

theorem qur{d:qh}{k:Int}{n i:Nat}(hi:i<(sinksL d k n).length):∃y:Nat,y<n/\idx (sinksL d k n) (i:Int)=V (y:Int)/\snkQ d k y=true:=by
 rw[qa1 hi];have a:(sinksL d k n)[i]∈sinksL d k n:=jn hi;generalize (sinksL d k n)[i]=z at a;unfold sinksL at a;obtain⟨y,f,rfl⟩:=List.mem_map.1 a;obtain⟨b,c⟩:=List.mem_filter.1 f;exact⟨y,List.mem_range.1 b,rfl,c⟩
theorem qqX{d:qh}{k:Int}(h:smallD d):Ev (fun n=>qgU n d k) (sinksL d k (places d).length):=by
 have g:=qaU h;have c:Ev (fun n=>qbh k (places d) n ([]:List Int) 0) (sinksL d k (places d).length,((places d).length:Int)):=by
  refine loopF (Lf:=qbh k (places d)) (S:=fun j=>sinksL d k j) (len:=(places d).length) (fun n=>?_) (fun j b X a=>?_)
  ·simp only[qbh,qp (jf _),cond_false]
  ·have f:(sinksL d k j).length+[(j:Int)].length<=2147483648:=by
    rw[qjo];have:cntP (snkQ d k) j<=j:=qgw;simp;omega
   simp only[qbh,qn b,cond_true,qz b,jd,wS j];rw[qjK] at a;unfold snkQ at a;cases h1:((gt (places d) j).net==k)
   ·rw[h1] at a;simp only[Bool.false_and,cond_false,Je] at a⊢;exact a
   ·cases h2:(gt (places d) j).drives
    ·rw[h1,h2] at a;simp only[Bool.not_false,Bool.and_self,cond_true,qcE f,jd] at a⊢;exact a
    ·rw[h1,h2] at a;simp only[Jj,Bool.and_false,cond_false,Je,cond_true] at a⊢;exact a
 unfold qgU;exact Ev.bind (qni h) (Ev.bind c .done)
structure wireOk(b:qe)(i:Nat):Prop where
 lo:1<=(gt b.Af i).Am.length
 hi:(gt b.Af i).Am.length<=8
 res:(gt b.Af i).Bu.length=(gt b.Af i).Am.length
 cap:(gt b.Af i).Bq.length=(gt b.Af i).Am.length
 par:∀j,0<j->j<(gt b.Af i).Am.length->0<=at0 (gt b.Af i).Am j/\at0 (gt b.Af i).Am j<j
 snk:(gt b.Af i).Bk.length=(sinksL b.Aa (i:Int) (places b.Aa).length).length
 sin:∀j,j<(gt b.Af i).Bk.length->0<=at0 (gt b.Af i).Bk j/\at0 (gt b.Af i).Bk j<(gt b.Af i).Am.length
theorem qbr{b:qe}(h:blockB b=true){i:Nat}(hi:i<b.Af.length):wireOk b i:=by
 unfold blockB at h;rw[je,qah] at h;have:=h.2 i hi;unfold wireB lenB at this;simp only[je,decide_eq_true_eq,beq_iff_eq] at this;obtain⟨⟨f,g⟩,n,o,k,_,_,l,c⟩:=this;refine⟨f,g,by omega,by omega,fun j m a=>?_,?_,fun j a=>?_⟩
 ·have:=qah.1 k j a;unfold treeB at this;rw[show decide (j=0)=false by simp;omega] at this;simp only[cond_false,qa9] at this;omega
 ·rw[qjo];unfold snkN at l;omega
 ·rw[qg9 (d:=0),qah] at c;have:=c j a;rw[qa9] at this;unfold at0;omega
theorem qky{b:qe}(h:blockB b=true):b.Af.length=b.Aa.Ak.length:=by
 unfold blockB at h;simp only[je,beq_iff_eq] at h;omega

instance:Inhabited qt:=⟨⟨0,0,0,0⟩⟩
instance:Inhabited qW:=⟨⟨0,0⟩⟩
theorem qmi{α:Type}{m:Nat}{z:α}(h:m<=2147483648):mkS (m:Int) z=V (List.replicate m z):=by
 unfold mkS big;rw[if_pos ⟨by omega,by omega⟩,jp]
theorem qrk{α:Type}[Inhabited α]{xs:List α}{a k:Nat}{y:α}(h:k≠a):gt (xs.set a y) k=gt xs k:=by
 unfold gt;rw[jD,List.getElem?_set_ne (by omega),<-jD]
theorem qpl{α:Type}[Inhabited α]{xs:List α}{a:Nat}{y:α}(h:a<xs.length):gt (xs.set a y) a=y:=by
 rw[qd6 (by rw[List.length_set];exact h),List.getElem_set_self]

def CodeOk(code:List (IntK .u8)):Prop:=code.length<=1048576/\∀x,x∈code->rng8 x
structure SrcI(code:List (IntK .u8))(a s:Int):Prop where
 a0:0<=a
 a1:a<=(code.length:Int)
 s0:0<=s
 s1:s<=2147483646
theorem tm31{x:Int}(h:0<=x):0<=x.tmod 2147483647/\x.tmod 2147483647<=2147483646:=by
 have a:=Int.tmod_nonneg 2147483647 h;have b:=Int.tmod_lt_of_pos x (show(0:Int)<2147483647 by decide);omega
theorem qox{x k:Int}(a:0<k):remS x k=V (x.tmod k):=by unfold remS;rw[if_neg (by omega)]
theorem qaR(x:Int):okI (W64 x):=by
 unfold okI W64;rw[Go.IntWalk.i64_left];unfold Go.RowKit.wrap64;omega
theorem qaE{x:Int}(a:-4611686018427387904<=x)(b:x<=4611686018427387904):okI x:=by unfold okI;omega
theorem qp9{code:List (IntK .u8)}(g:CodeOk code):∃s,Ev (fun n=>qkj n code) (V ⟨code,0,s⟩)/\SrcI code 0 s:=by
 have c:∀k j i,j+k=code.length->0<=i->i<=2147483646->EvQ (fun n=>qfu code n i (j:Int)) (fun o=>0<=o.1/\o.1<=2147483646):=by
  intro k
  induction k with
  |zero=>
   intro j i p f b;refine EvQ.succ ?_;simp only[qfu,qp (show code.length<=j by omega),cond_false,jd];exact EvQ.done ⟨f,b⟩
  |succ k ih=>
   intro j i p f b;have a:j<code.length:=by omega
   have t:=g.1;have r:=g.2 _ (jn a);unfold rng8 at r;refine EvQ.succ ?_;simp only[qfu,qn a,cond_true,jd,qa1 a,wS j];refine EvQ.bif (fun _=>?_) (fun _=>EvQ.done ⟨f,b⟩);have e1:W64 (i*31)=i*31:=qN (by omega) (by omega);have h:W64 code[j].val=code[j].val:=qN (by omega) (by omega);have l:W64 (i*31+code[j].val)=i*31+code[j].val:=qN (by omega) (by omega);rw[e1,h,l];have d:=tm31 (show 0<=i*31+code[j].val by omega);exact ih (j+1) _ (by omega) d.1 d.2
 obtain⟨⟨s,j⟩,b,d,m⟩:=c code.length 0 12345 (by omega) (by decide) (by decide);exact⟨s,Ev.bind b .done,⟨jC _,by omega,d,m⟩⟩
theorem qam{code:List (IntK .u8)}{a s:Int}(k:Int)(l:CodeOk code)(h:SrcI code a s) :
  EvQ (fun n=>ql n ⟨code,a,s⟩ k) (fun o=>((0<=o.1/\(1<=k->o.1<k))/\(k<=1->o.1=0))/\SrcI code o.2.1 o.2.2):=by
 obtain⟨a0,a1,s0,s1⟩:=h;have z:=l.1;unfold ql;refine EvQ.bif (fun g=>EvQ.done ⟨⟨⟨jC _,fun h=>by omega⟩,fun _=>rfl⟩,⟨a0,a1,s0,s1⟩⟩) (fun g=>?_);have g:1<k:=by have:=of_decide_eq_false g;omega
 refine EvQ.bif (fun i=>?_) (fun _=>?_)
 ·have i:a<(code.length:Int):=of_decide_eq_true i;obtain⟨j,rfl⟩:∃j:Nat,a=(j:Int):=⟨a.toNat,by omega⟩;have c:j<code.length:=by omega
  have m:=l.2 _ (jn c);unfold rng8 at m;have p:W64 code[j].val=code[j].val:=qN (by omega) (by omega);have t:W64 ((j:Int)+1)=((j+1:Nat):Int):=qhZ (by omega);refine EvQ.bindN (qa1 c) ?_;rw[p,t];refine EvQ.bif (fun u=>?_) (fun u=>?_)
  ·refine EvQ.bindN (qox (by omega)) (EvQ.done ⟨⟨⟨Int.tmod_nonneg _ m.1,fun _=>Int.tmod_lt_of_pos _ (by omega)⟩,fun h=>by omega⟩,⟨by show(0:Int)<=((j+1:Nat):Int);omega,by show((j+1:Nat):Int)<=_;omega,s0,s1⟩⟩)
  ·have d:W64 (s*48271)=s*48271:=qN (by omega) (by omega);have f:W64 (s*48271+code[j].val)=s*48271+code[j].val:=qN (by omega) (by omega);have r:W64 (s*48271+code[j].val+1)=s*48271+code[j].val+1:=qN (by omega) (by omega);rw[d,f,r];have b:=tm31 (show 0<=s*48271+code[j].val+1 by omega);exact EvQ.bindN (qox (by omega)) (EvQ.done ⟨⟨⟨Int.tmod_nonneg _ b.1,fun _=>Int.tmod_lt_of_pos _ (by omega)⟩,fun h=>by omega⟩,⟨by show(0:Int)<=((j+1:Nat):Int);omega,by show((j+1:Nat):Int)<=_;omega,b.1,b.2⟩⟩)
 ·have d:W64 (s*48271)=s*48271:=qN (by omega) (by omega);have f:W64 (s*48271+11)=s*48271+11:=qN (by omega) (by omega);rw[d,f];have b:=tm31 (show 0<=s*48271+11 by omega);have v:0<=((s*48271+11).tmod 2147483647).tdiv 7:=Int.tdiv_nonneg b.1 (by decide);have y:((s*48271+11).tmod 2147483647).tdiv 7<=2147483646:=by
   rw[jF b.1];omega
  rw[qN (x:=((s*48271+11).tmod 2147483647).tdiv 7) (by omega) (by omega)];exact EvQ.bindN (qox (by omega)) (EvQ.done ⟨⟨⟨Int.tmod_nonneg _ v,fun _=>Int.tmod_lt_of_pos _ (by omega)⟩,fun h=>by omega⟩,⟨a0,a1,b.1,b.2⟩⟩)
theorem qbA{α:Type}{ok:α->Prop}{xs:List α}{y:α}(h:∀x,x∈xs->ok x)(b:ok y):∀x,x∈xs++[y]->ok x:=by
 intro x a;rcases List.mem_append.1 a with a|a
 ·exact h x a
 ·obtain rfl:=List.mem_singleton.1 a;exact b
theorem qca{α:Type}{xs:List α}{y:α}(h:xs.length<=1048576):appS xs [y]=V (xs++[y]):=qcE (by simp;omega)
section
variable{code:List (IntK .u8)}{a s:Int}
theorem qvn{step:Int}(z:1<=step)(M:step<=1000)(g:CodeOk code)(h:SrcI code a s) :
  EvQ (fun n=>qga n ⟨code,a,s⟩ step) (fun o=>(1<=o.1.length/\o.1.length<=3/\∀x,x∈o.1->okI x)/\SrcI code o.2.1 o.2.2):=by
 have d:∀(r:Nat) (x:List Int) (f s' c:Int),SrcI code f s'->x.length+r<=3->(∀y,y∈x->okI y)->okI c ->
   EvQ (fun n=>qdl ⟨code,a,s⟩ step n x f s' c (r:Int)) (fun o=>(o.1.length=x.length+r/\∀y,y∈o.1->okI y)/\SrcI code o.2.1 o.2.2.1):=by
  intro r
  induction r with
  |zero=>
   intro x f s' c b A l hi;refine EvQ.succ ?_;simp only[qdl];exact EvQ.ff Z (EvQ.done ⟨⟨rfl,l⟩,b⟩)
  |succ r ih=>
   intro x f s' c b A l hi;refine EvQ.succ ?_;simp only[qdl];refine EvQ.tt (by simp) (EvQ.bindN (qca (by omega)) (EvQ.bind (qam step g b) ?_));rintro⟨F,p,t⟩ ⟨_,k⟩;have e:W64 (((r+1:Nat):Int)-1)=(r:Int):=by rw[qN (by omega) (by omega)];omega
   dsimp only;rw[e];exact(ih (x++[c]) p t _ k (by rw[jg,jh];omega) (qbA l hi) (qaR _)).mono (fun o i=>⟨⟨by rw[i.1.1,jg,jh];omega,i.1.2⟩,i.2⟩)
 unfold qga;refine EvQ.bind (qam step g h) ?_;rintro⟨C,N,O⟩ ⟨⟨⟨J,p1⟩,_⟩,b⟩;refine EvQ.bind (qam 3 g b) ?_;rintro⟨u,H,I⟩ ⟨⟨⟨K,v⟩,_⟩,b⟩;dsimp only at J p1 K v b⊢;have S:=v (by decide);have R:=p1 z;obtain⟨m,B⟩:∃m:Nat,1+u=((m+1:Nat):Int):=⟨u.toNat,by omega⟩;rw[wO (1+u),B];refine EvQ.bind (d (m+1) [] H I C b (by simp;omega) (fun _ h=>by cases h) (qaE (by omega) (by omega))) ?_;rintro⟨T,P,Q,c,D⟩ ⟨⟨r1,L⟩,b⟩;exact EvQ.done ⟨⟨by simp only at r1;simp at r1;dsimp only;omega,by simp only at r1;simp at r1;dsimp only;omega,L⟩,b⟩
theorem quT{c:Prop}[Decidable c]{x y:Int}(a:okI x)(b:okI y):okI (if c then x else y):=by split<;>assumption
theorem qtZ{base:Int}(k:CodeOk code)(h:SrcI code a s) :
  EvQ (fun n=>qja n ⟨code,a,s⟩ base) (fun o=>qhm o.1/\SrcI code o.2.1 o.2.2):=by
 unfold qja;refine EvQ.bind (qvn (by decide) (by decide) k h) ?_;rintro⟨r1,Y,e⟩ ⟨⟨l1,l2,p⟩,c⟩;refine EvQ.bind (qvn (by decide) (by decide) k c) ?_;rintro⟨f,P,Q⟩ ⟨⟨S,r,t⟩,c⟩;dsimp only at l1 l2 p S r t c⊢;have X:r1.length*f.length<=3*3:=Nat.mul_le_mul l2 r;have l:∀(d j:Nat) (x:List Int) (m s':Int),SrcI code m s'->j+d=r1.length*f.length->x.length=j->(∀y,y∈x->okI y) ->
   EvQ (fun n=>qem ⟨code,a,s⟩ base r1 f n x m s' (j:Int)) (fun o=>(o.1.length<=9/\∀y,y∈o.1->okI y)/\SrcI code o.2.1 o.2.2.1):=by
  intro d
  induction d with
  |zero=>
   intro j x m s' c A C g;refine EvQ.succ ?_;simp only[qem,qpR (show r1.length<=1048576 by omega) (show f.length<=1048576 by omega)];have v:x.length<=9:=by omega
   exact EvQ.ff (qp (by omega)) (EvQ.done ⟨⟨v,g⟩,c⟩)
  |succ d ih=>
   intro j x m s' c A C g;refine EvQ.succ ?_;simp only[qem,qpR (show r1.length<=1048576 by omega) (show f.length<=1048576 by omega)];refine EvQ.tt (qn (by omega)) (EvQ.bind (qam 10 k c) ?_);rintro⟨i8,i9,D⟩ ⟨⟨⟨T,W⟩,_⟩,c⟩;dsimp only at T W c⊢;refine EvQ.bindN (b:=((j % f.length:Nat):Int)) (by rw[qox (by omega),Int.ofNat_tmod]) ?_;refine EvQ.bind (R:=fun o:Int×Int×Int=>SrcI code o.1 o.2.1/\okI o.2.2) ?_ ?_
   ·refine EvQ.bif (fun i=>?_) (fun _=>EvQ.done ⟨c,qaR _⟩);have B:1<=j:=by
     rcases Nat.eq_zero_or_pos j with rfl|h2
     ·simp at i
     ·exact h2
    have e1:W64 ((j:Int)-1)=((j-1:Nat):Int):=by rw[qN (by omega) (by omega)];omega
    rw[e1];refine EvQ.bindN (qa1 (show j-1<x.length by omega)) (EvQ.bind (qam 20 k c) ?_);rintro⟨M,N,O⟩ ⟨_,c⟩;exact EvQ.done ⟨c,quT (qaR _) (qaR _)⟩
   ·rintro⟨F,H,I⟩ ⟨c,hi⟩;dsimp only at c hi⊢;rw[wS j];refine EvQ.bif (fun i=>?_) (fun _=>?_)
    ·have z:f.length<=j:=by have:=of_decide_eq_true i;omega
     have e1:W64 ((j:Int)-(f.length:Int))=((j-f.length:Nat):Int):=by rw[qN (by omega) (by omega)];omega
     rw[e1];refine EvQ.bindN (qa1 (show j-f.length<x.length by omega)) (EvQ.bind (qam 20 k c) ?_);rintro⟨J,K,L⟩ ⟨_,c⟩;refine EvQ.bindN (qca (by omega)) ?_;exact ih (j+1) _ _ _ c (by omega) (by rw[jg,jh];omega) (qbA g (quT (qaR _) hi))
    ·refine EvQ.bindN (qca (by omega)) ?_;exact ih (j+1) _ _ _ c (by omega) (by rw[jg,jh];omega) (qbA g hi)
 refine EvQ.bind (l (r1.length*f.length) 0 [] P Q c (by omega) Z (fun _ h=>by cases h)) ?_;rintro⟨x1,i5,i6,i7⟩ ⟨⟨n1,u⟩,c⟩;dsimp only at n1 u c;exact EvQ.done ⟨⟨⟨by dsimp only;omega,p⟩,⟨by dsimp only;omega,t⟩,⟨by dsimp only;omega,u⟩⟩,c⟩
theorem qqy{base:Int}(d:CodeOk code)(h:SrcI code a s) :
  EvQ (fun n=>qdQ n ⟨code,a,s⟩ base) (fun o=>okL qhm o.1/\SrcI code o.2.1 o.2.2):=by
 unfold qdQ;refine EvQ.bind (qtZ d h) ?_;rintro⟨r1,i,k⟩ ⟨f,b⟩;refine EvQ.bind (qtZ d b) ?_;rintro⟨p,l,m⟩ ⟨g,b⟩;refine EvQ.done ⟨⟨by simp,fun x c=>?_⟩,b⟩;rcases List.mem_cons.1 c with rfl|c
 ·exact f
 ·obtain rfl:=List.mem_singleton.1 c;exact g
theorem qsH{kind f t sense:Int}(i:okI kind)(g:okI f)(k:okI t)(d:okI sense)(c:CodeOk code)(h:SrcI code a s) :
  EvQ (fun n=>qdx n ⟨code,a,s⟩ kind f t sense) (fun o=>qll o.1/\SrcI code o.2.1 o.2.2):=by
 unfold qdx;refine EvQ.bif (fun _=>?_) (fun _=>?_)
 ·refine EvQ.bind (qam 10 c h) ?_;rintro⟨y,z,A⟩ ⟨_,b⟩;refine EvQ.bind (qqy c b) ?_;rintro⟨r1,B,C⟩ ⟨l,b⟩;exact EvQ.done ⟨⟨i,g,k,qaE (x:=0) (by decide) (by decide),l,⟨Jd _,fun _ h=>by cases h⟩⟩,b⟩
 ·refine EvQ.bind (qam 20 c h) ?_;rintro⟨D,F,H⟩ ⟨_,b⟩;refine EvQ.bind (qqy c b) ?_;rintro⟨J,I,r⟩ ⟨m,b⟩;refine EvQ.bind (qqy c b) ?_;rintro⟨K,u,v⟩ ⟨p,b⟩;exact EvQ.done ⟨⟨i,g,k,d,m,p⟩,b⟩
end

section
variable{code:List (IntK .u8)}{a s:Int}
theorem qwx{q:Nat}(h:q<=8):W64 (2*(q:Int))=((q*2:Nat):Int):=by rw[qN (by omega) (by omega)];omega
theorem Ev.add{α:Type}{f:Nat->Option α}{r:α}(k:Nat)(h:∀m,f (m+k)=V r):Ev f r:=
 ⟨k,fun n a=>by obtain⟨m,rfl⟩:∃m,n=m+k:=⟨n-k,by omega⟩;exact h m⟩
def SenseOk(k:Nat)(a:List Int):Prop:=∀(b:ByteArray) (ps:List qaA) (i j:Int) (p:Nat),p<k->EvQ (fun n=>qlk n ⟨b,1,ps,[],a,i,j⟩ (p:Int)) okI
theorem qp8{k:Nat}{I:ByteArray}{c:List Int}(P:k<=3)(hl:c.length=2 ^ k)(C:SenseOk k c)(A:okS I)(D:∀x,x∈c->okI x)(v:CodeOk code)(h:SrcI code a s) :
  EvQ (fun n=>qfz n ⟨code,a,s⟩ I c) (fun o=>qnj o.1/\SrcI code o.2.1 o.2.2):=by
 have Q:(2:Nat) ^ k<=8:=by
  have:(2:Nat) ^ k<=2 ^ 3:=Nat.pow_le_pow_right (by decide) P;simpa using this
 have u:∀(d j:Nat) (x:List qaA) (i s':Int),SrcI code i s'->j+d=k->x.length=j->(∀y,y∈x->ql4 y) ->
   EvQ (fun n=>qfq ⟨code,a,s⟩ c n x i s' ((2 ^ j:Nat):Int)) (fun o=>(o.1.length=k/\∀y,y∈o.1->ql4 y)/\SrcI code o.2.1 o.2.2.1):=by
  intro d
  induction d with
  |zero=>
   intro j x i s' f z t g;refine EvQ.succ ?_;simp only[qfq];have:j=k:=by omega
   subst this;exact EvQ.ff (qp (by omega)) (EvQ.done ⟨⟨t,g⟩,f⟩)
  |succ d ih=>
   intro j x i s' f z t g;refine EvQ.succ ?_;simp only[qfq];have R:(2:Nat) ^ j<2 ^ k:=Nat.pow_lt_pow_right (by decide) (by omega);refine EvQ.tt (qn (by omega)) ?_;have r:j<4:=by omega
   refine EvQ.bindN (b:=([(⟨#[97]⟩:ByteArray),(⟨#[98]⟩:ByteArray),(⟨#[99]⟩:ByteArray),(⟨#[100]⟩:ByteArray)]:List ByteArray)[j]'(by simpa using r)) (by rw[t];exact qa1 (by simpa using r)) (EvQ.bind (qam 9 v f) ?_);rintro⟨S,T,W⟩ ⟨_,f⟩;refine EvQ.bindN (qca (by omega)) ?_;have e:W64 (2*((2 ^ j:Nat):Int))=((2 ^ (j+1):Nat):Int):=by
    rw[Nat.pow_succ];exact qwx (by omega)
   dsimp only;rw[e];refine ih (j+1) _ _ _ f (by omega) (by rw[jg,jh];omega) (qbA g ⟨?_,qaE (x:=1) (by decide) (by decide),qaR _,G⟩);rcases j with _|_|_|_|j
   ·show(1:Nat)<=1048576;decide
   ·show(1:Nat)<=1048576;decide
   ·show(1:Nat)<=1048576;decide
   ·show(1:Nat)<=1048576;decide
   ·omega
 unfold qfz;refine EvQ.bind (qam 50 v h) ?_;rintro⟨K,i2,i3⟩ ⟨⟨⟨p0,p1⟩,_⟩,f⟩;refine EvQ.bind (qam 80 v f) ?_;rintro⟨L,i5,i6⟩ ⟨⟨⟨q0,M⟩,_⟩,f⟩;dsimp only at p0 p1 q0 M;have p2:=p1 (by decide);have q2:=M (by decide);refine EvQ.bind (u k 0 [] i5 i6 f (by omega) Z (fun _ h=>by cases h)) ?_;rintro⟨J,i7,i8,i9⟩ ⟨⟨F,l⟩,f⟩;dsimp only at F l f⊢;refine EvQ.bindN (qca (by omega)) ?_;have p:∀(d j:Nat) (x:List qat) (i s':Int),SrcI code i s'->j+d=k->x.length<=j->(∀y,y∈x->qll y) ->
   EvQ (fun n=>qej ⟨code,a,s⟩ I c K L J (J++[(⟨(⟨#[121]⟩:ByteArray),2,0,false⟩:qaA)]) n x i s' (j:Int)) (fun o=>(o.1.length<=k/\∀y,y∈o.1->qll y)/\SrcI code o.2.1 o.2.2.1):=by
  intro d
  induction d with
  |zero=>
   intro j x i s' f z t g;refine EvQ.succ ?_;simp only[qej];have O:x.length<=k:=by omega
   exact EvQ.ff (qp (by omega)) (EvQ.done ⟨⟨O,g⟩,f⟩)
  |succ d ih=>
   intro j x i s' f z t g;refine EvQ.succ ?_;simp only[qej,wS j];refine EvQ.tt (qn (by omega)) (EvQ.bind (C _ _ _ _ j (by omega)) (fun r1 B=>?_));refine EvQ.bif (fun _=>?_) (fun _=>ih (j+1) x i s' f (by omega) (by omega) g);refine EvQ.bind (qsH (qaE (by decide) (by decide)) (qaE (by omega) (by omega)) (qaE (by omega) (by omega)) B v f) ?_;rintro⟨r2,a4,a5⟩ ⟨N,f⟩;refine EvQ.bindN (qca (by omega)) ?_;exact ih (j+1) _ _ _ f (by omega) (by rw[jg,jh];omega) (qbA g N)
 refine EvQ.bind (p k 0 [] i7 i8 f (by omega) (Jd _) (fun _ h=>by cases h)) ?_;rintro⟨x4,X,Y,a3⟩ ⟨⟨H,m⟩,f⟩;dsimp only at H m f;refine EvQ.done ⟨⟨A,qaE (x:=1) (by decide) (by decide),⟨?_,?_⟩,⟨?_,m⟩,⟨?_,D⟩,qaE (x:=K) (by omega) (by omega),qaE (x:=L) (by omega) (by omega)⟩,f⟩
 ·show(J++_).length<=_;rw[jg,jh];omega
 ·exact qbA l ⟨by show(1:Nat)<=1048576;decide,qaE (x:=2) (by decide) (by decide),qaE (x:=0) (by decide) (by decide),G⟩
 ·show x4.length<=_;omega
 ·show c.length<=_;omega
theorem qmG{xs:List Int}(h:xs.all (fun x=>decide (-1000<=x)&&decide (x<=1000))=true):∀x,x∈xs->okI x:=by
 intro x a;have:=List.all_eq_true.1 h x a;simp only[je,decide_eq_true_eq] at this;exact qaE (by omega) (by omega)
theorem qtm{u:ByteArray}{kind edge:Int}(d:okS u)(m:okI kind)(B:okI edge)(c:CodeOk code)(h:SrcI code a s) :
  EvQ (fun n=>qeX n ⟨code,a,s⟩ u kind edge) (fun o=>qnj o.1/\SrcI code o.2.1 o.2.2):=by
 have z:∀x:Int,-1000<=x->x<=1000->okI x:=fun x i k=>qaE (by omega) (by omega);unfold qeX;refine EvQ.bind (qam 50 c h) ?_;rintro⟨r,T,W⟩ ⟨⟨⟨P,p1⟩,_⟩,b⟩;refine EvQ.bind (qam 80 c b) ?_;rintro⟨t,X,Y⟩ ⟨⟨⟨Q,v⟩,_⟩,b⟩;dsimp only at P p1 Q v;have p2:=p1 (by decide);have q2:=v (by decide);refine EvQ.bind (qam 9 c b) ?_;rintro⟨O,e,i9⟩ ⟨_,b⟩;refine EvQ.bind (qam 9 c b) ?_;rintro⟨g,C,D⟩ ⟨_,b⟩;refine EvQ.bind (qsH B (z _ (by decide) (by decide)) (z _ (by decide) (by decide)) (z _ (by decide) (by decide)) c b) ?_;rintro⟨r1,F,H⟩ ⟨i,b⟩;refine EvQ.bind (qsH (z _ (by decide) (by decide)) (z _ (by decide) (by decide)) (z _ (by decide) (by decide)) (z _ (by decide) (by decide)) c b) ?_;rintro⟨R,I,J⟩ ⟨k,b⟩;refine EvQ.bind (qsH (z _ (by decide) (by decide)) (z _ (by decide) (by decide)) (z _ (by decide) (by decide)) (z _ (by decide) (by decide)) c b) ?_;rintro⟨S,K,L⟩ ⟨y,b⟩;dsimp only at i k y b⊢;have l:∀x,x∈[r1,R,S]->qll x:=by
  intro x f;simp only[jL,jy,or_false] at f;rcases f with rfl|rfl|rfl<;>assumption
 have p:∀x,x∈[(⟨(⟨#[100]⟩:ByteArray),1,W64 (1+O),false⟩:qaA),(⟨(⟨#[99,107]⟩:ByteArray),1,W64 (1+g),true⟩:qaA),(⟨(⟨#[113]⟩:ByteArray),2,0,false⟩:qaA)]->ql4 x:=by
  intro x f;simp only[jL,jy,or_false] at f;rcases f with rfl|rfl|rfl
  ·exact⟨by show(1:Nat)<=1048576;decide,z 1 (by decide) (by decide),qaR _,G⟩
  ·exact⟨by show(2:Nat)<=1048576;decide,z 1 (by decide) (by decide),qaR _,G⟩
  ·exact⟨by show(1:Nat)<=1048576;decide,z 2 (by decide) (by decide),z 0 (by decide) (by decide),G⟩
 refine EvQ.bif (fun _=>?_) (fun _=>?_)
 ·refine EvQ.bind (qsH (z _ (by decide) (by decide)) (z _ (by decide) (by decide)) (z _ (by decide) (by decide)) (z _ (by decide) (by decide)) c b) ?_;rintro⟨r4,M,N⟩ ⟨A,b⟩;refine EvQ.bindN (qca (by simp)) ?_;exact EvQ.done ⟨⟨d,m,⟨by simp,p⟩,⟨by simp,qbA l A⟩,⟨Jd _,fun _ h=>by cases h⟩,z r (by omega) (by omega),z t (by omega) (by omega)⟩,b⟩
 ·exact EvQ.done ⟨⟨d,m,⟨by simp,p⟩,⟨by simp,l⟩,⟨Jd _,fun _ h=>by cases h⟩,z r (by omega) (by omega),z t (by omega) (by omega)⟩,b⟩
theorem sense1a:SenseOk 1 [1,0]:=by
 intro b ps i j p a;obtain rfl:p=0:=by omega
 exact⟨_,Ev.add 4 (fun m=>rfl),qaE (by decide) (by decide)⟩
theorem sense1b:SenseOk 1 [0,1]:=by
 intro b ps i j p a;obtain rfl:p=0:=by omega
 exact⟨_,Ev.add 4 (fun m=>rfl),qaE (by decide) (by decide)⟩
theorem sense2a:SenseOk 2 [1,1,1,0]:=by
 intro b ps i j p a;rcases p with _|_|p
 ·exact⟨_,Ev.add 8 (fun m=>rfl),qaE (by decide) (by decide)⟩
 ·exact⟨_,Ev.add 8 (fun m=>rfl),qaE (by decide) (by decide)⟩
 ·omega
theorem sense2b:SenseOk 2 [0,1,1,0]:=by
 intro b ps i j p a;rcases p with _|_|p
 ·exact⟨_,Ev.add 8 (fun m=>rfl),qaE (by decide) (by decide)⟩
 ·exact⟨_,Ev.add 8 (fun m=>rfl),qaE (by decide) (by decide)⟩
 ·omega
theorem sense3:SenseOk 3 [0,1,0,1,0,0,1,1]:=by
 intro b ps i j p a;rcases p with _|_|_|p
 ·exact⟨_,Ev.add 12 (fun m=>rfl),qaE (by decide) (by decide)⟩
 ·exact⟨_,Ev.add 12 (fun m=>rfl),qaE (by decide) (by decide)⟩
 ·exact⟨_,Ev.add 12 (fun m=>rfl),qaE (by decide) (by decide)⟩
 ·omega
theorem qxE(c:CodeOk code)(h:SrcI code a s):EvQ (fun n=>qj3 n ⟨code,a,s⟩) (fun o=>qhe o.1/\SrcI code o.2.1 o.2.2):=by
 have z:∀x:Int,-1000<=x->x<=1000->okI x:=fun x f g=>qaE (by omega) (by omega);unfold qj3;refine EvQ.bind (qp8 (k:=1) (by decide) Z sense1a (by show(3:Nat)<=1048576;decide) (qmG Z) c h) ?_;rintro⟨r1,F,H⟩ ⟨f,b⟩;refine EvQ.bind (qp8 (k:=1) (by decide) Z sense1b (by show(3:Nat)<=1048576;decide) (qmG Z) c b) ?_;rintro⟨P,I,J⟩ ⟨g,b⟩;refine EvQ.bind (qp8 (k:=2) (by decide) Z sense2a (by show(4:Nat)<=1048576;decide) (qmG Z) c b) ?_;rintro⟨Q,K,L⟩ ⟨v,b⟩;refine EvQ.bind (qp8 (k:=2) (by decide) Z sense2b (by show(3:Nat)<=1048576;decide) (qmG Z) c b) ?_;rintro⟨R,M,N⟩ ⟨y,b⟩;refine EvQ.bind (qp8 (k:=3) (by decide) Z sense3 (by show(3:Nat)<=1048576;decide) (qmG Z) c b) ?_;rintro⟨S,O,i⟩ ⟨A,b⟩;refine EvQ.bind (qtm (by show(4:Nat)<=1048576;decide) (z _ (by decide) (by decide)) (z _ (by decide) (by decide)) c b) ?_;rintro⟨T,l,m⟩ ⟨B,b⟩;refine EvQ.bind (qtm (by show(5:Nat)<=1048576;decide) (z _ (by decide) (by decide)) (z _ (by decide) (by decide)) c b) ?_;rintro⟨W,p,r⟩ ⟨C,b⟩;refine EvQ.bind (qtm (by show(5:Nat)<=1048576;decide) (z _ (by decide) (by decide)) (z _ (by decide) (by decide)) c b) ?_;rintro⟨X,t,u⟩ ⟨D,b⟩;refine EvQ.done ⟨⟨⟨by simp,fun x d=>?_⟩⟩,b⟩;simp only[jL,jy,or_false] at d;rcases d with rfl|rfl|rfl|rfl|rfl|rfl|rfl|rfl<;>assumption
end

section
variable{code:List (IntK .u8)}{a s:Int}
theorem qnn(b:IntK .u8):(strOf [b]).size=1:=rfl
theorem qrQ{x y:ByteArray}(h:x.size+y.size<=1048576):catB x y=V (x++y):=by
 unfold catB;rw[if_pos];have:IntKind.i64.max=9223372036854775807:=rfl;omega
theorem qvF:∀(d:Nat) (k:Int),d<=15->0<=k->k<((10 ^ (d+1):Nat):Int)->EvQ (fun n=>qbT n k) (fun z=>z.size<=d+1):=by
 intro d
 induction d with
 |zero=>
  intro k f b c;refine EvQ.succ ?_;simp only[qbT];refine EvQ.ff (by simp;omega) (EvQ.tt (by simp;omega) (EvQ.done ?_));rw[qnn];exact jf _
 |succ d ih=>
  intro k f b c;refine EvQ.succ ?_;simp only[qbT];refine EvQ.ff (by simp;omega) (EvQ.bif (fun _=>EvQ.done (by rw[qnn];omega)) (fun h=>?_));have l:(10:Nat) ^ (d+1+1)<=10 ^ 17:=Nat.pow_le_pow_right (by decide) (by omega);have i:k<=9223372036854775807:=by
   have:(10:Nat) ^ 17<=9223372036854775807:=by decide
   omega
  have e:k.tdiv 10=k / 10:=jF b;have e1:W64 (k.tdiv 10)=k / 10:=by rw[e];exact qN (by omega) (by omega)
  rw[e1];have a:k / 10<((10 ^ (d+1):Nat):Int):=by rw[Nat.pow_succ] at c;omega
  refine EvQ.bind (ih (k / 10) (by omega) (by omega) a) (fun m g=>?_);refine EvQ.bindN (qrQ (by rw[qnn];omega)) (EvQ.done ?_);rw[ByteArray.size_append,qnn];omega
theorem qtU{k:Nat}(h:k<=1000):EvQ (fun n=>qbT n (k:Int)) (fun z=>z.size<=4):=qvF 3 k (by decide) (by omega) (by omega)
theorem qwg{y:Int}(a:0<=y)(b:y<=7):∃p:Nat,idx ([2,2,3,3,4,3,3,3]:List Int) y=V (p:Int)/\2<=p/\p<=4:=by
 have:y=0\/y=1\/y=2\/y=3\/y=4\/y=5\/y=6\/y=7:=by omega
 rcases this with rfl|rfl|rfl|rfl|rfl|rfl|rfl|rfl
 ·exact⟨2,rfl,by decide,by decide⟩
 ·exact⟨2,rfl,by decide,by decide⟩
 ·exact⟨3,rfl,by decide,by decide⟩
 ·exact⟨3,rfl,by decide,by decide⟩
 ·exact⟨4,rfl,by decide,by decide⟩
 ·exact⟨3,rfl,by decide,by decide⟩
 ·exact⟨3,rfl,by decide,by decide⟩
 ·exact⟨3,rfl,by decide,by decide⟩
theorem qwn{y:Int}(a:0<=y)(b:y<12):∃p:Int,idx ([0,1,2,2,3,4,5,5,5,6,7,1]:List Int) y=V p/\0<=p/\p<=7:=by
 have:y=0\/y=1\/y=2\/y=3\/y=4\/y=5\/y=6\/y=7\/y=8\/y=9\/y=10\/y=11:=by omega
 rcases this with rfl|rfl|rfl|rfl|rfl|rfl|rfl|rfl|rfl|rfl|rfl|rfl<;>exact⟨_,rfl,by decide,by decide⟩
theorem qnm{α:Type}{xs:List α}(h:xs.length<=1048576):appS ([]:List α) xs=V xs:=by
 have:=qcE (xs:=([]:List α)) (ys:=xs) (by simp;omega);rwa [List.nil_append] at this
theorem qxr{k:List ByteArray}{l:Int}{p:Nat}(i:idx ([2,2,3,3,4,3,3,3]:List Int) l=V (p:Int))(F:2<=p)(H:p<=4)(_:k.length<=100)(h:CodeOk code) :
  ∀(d j:Nat) (x:List Int) (f s':Int),SrcI code f s'->j+d+1=p->x.length=j->(∀y,y∈x->okI y) ->
   EvQ (fun n=>qeq ⟨code,a,s⟩ k l n x f s' (j:Int)) (fun o=>(o.1.length+1=p/\∀y,y∈o.1->okI y)/\SrcI code o.2.1 o.2.2.1):=by
 have g:W64 ((p:Int)-1)=((p-1:Nat):Int):=by rw[qN (by omega) (by omega)];omega
 intro d
 induction d with
 |zero=>
  intro j x f s' c m r b;refine EvQ.succ ?_;simp only[qeq];refine EvQ.bindN i ?_;rw[g];exact EvQ.ff (qp (by omega)) (EvQ.done ⟨⟨by dsimp only;omega,b⟩,c⟩)
 |succ d ih=>
  intro j x f s' c m r b;refine EvQ.succ ?_;simp only[qeq];refine EvQ.bindN i ?_;rw[g];refine EvQ.tt (qn (by omega)) (EvQ.bind (qam _ h c) ?_);rintro⟨u,v,z⟩ ⟨_,c⟩;refine EvQ.bind (qam 3 h c) ?_;rintro⟨A,B,C⟩ ⟨_,c⟩;refine EvQ.bind (R:=okI) (EvQ.bif (fun _=>EvQ.done (qaR _)) (fun _=>EvQ.done (qaR _))) (fun D hi=>?_);refine EvQ.bind (R:=fun _=>True) (EvQ.bif (fun _=>EvQ.done trivial) (fun _=>EvQ.done trivial)) (fun b3 _=>?_);rw[wS j];refine EvQ.bif (fun _=>?_) (fun _=>?_)
  ·exact EvQ.bindN (qnm (by omega)) (EvQ.bindN (qca (by omega)) (ih (j+1) _ _ _ c (by omega) (by rw[jg,jh];omega) (qbA b (qaE (by decide) (by decide)))))
  ·exact EvQ.bindN (qnm (by omega)) (EvQ.bindN (qca (by omega)) (ih (j+1) _ _ _ c (by omega) (by rw[jg,jh];omega) (qbA b hi)))
structure InsI(x:qH):Prop where
 ok:qpk x
 l2:2<=x.Ak.length
 l5:x.Ak.length<=5
theorem qwm(A:CodeOk code):∀(r:Nat) (f:List ByteArray) (d:List qH) (i s':Int),SrcI code i s'->d.length+r<=14->f.length=d.length+3->(∀y,y∈f->okS y)->(∀y,y∈d->InsI y) ->
  EvQ (fun n=>qfl ⟨code,a,s⟩ n f d i s' (r:Int)) (fun o=>(o.1.length=o.2.1.length+3/\o.2.1.length=d.length+r/\(∀y,y∈o.1->okS y)/\∀y,y∈o.2.1->InsI y)/\SrcI code o.2.2.1 o.2.2.2.1):=by
 intro r
 induction r with
 |zero=>
  intro f d i s' b H g l m;refine EvQ.succ ?_;simp only[qfl];exact EvQ.ff Z (EvQ.done ⟨⟨g,rfl,l,m⟩,b⟩)
 |succ r ih=>
  intro f d i s' b H g l m;refine EvQ.succ ?_;simp only[qfl];refine EvQ.tt (by simp) (EvQ.bind (qam 12 A b) ?_);rintro⟨T,O,P⟩ ⟨⟨⟨B,C⟩,_⟩,b⟩;dsimp only at B C b⊢;obtain⟨S,u,v,z⟩:=qwn B (C (by decide));obtain⟨p,I,Q,R⟩:=qwg v z;refine EvQ.bindN u (EvQ.bind (qtU (show d.length<=1000 by omega)) (fun r1 J=>?_));have D:(⟨#[117]⟩:ByteArray).size=1:=rfl;have F:(⟨#[110]⟩:ByteArray).size=1:=rfl;refine EvQ.bindN (qrQ (by rw[D];omega)) (EvQ.bind (qxr I Q R (by omega) A (p-1) 0 [] O P b (by omega) Z (fun _ h=>by cases h)) ?_);rintro⟨X,L,M,N⟩ ⟨⟨t,c⟩,b⟩;dsimp only at t c b⊢;refine EvQ.bindN (qnm (by omega)) (EvQ.bindN (qca (by omega)) (EvQ.bind (qtU (show f.length<=1000 by omega)) (fun W K=>?_)));refine EvQ.bindN (qrQ (by rw[F];omega)) (EvQ.bindN (qca (by omega)) (EvQ.bindN (qca (by omega)) ?_));have e:W64 (((r+1:Nat):Int)-1)=(r:Int):=by rw[qN (by omega) (by omega)];omega
  rw[e];refine(ih _ _ _ _ b (by rw[jg,jh];omega) (by rw[jg,jg,jh,jh];omega) (qbA l (by show(_++_:ByteArray).size<=_;rw[ByteArray.size_append,F];omega))
   (qbA m ⟨⟨by show(_++_:ByteArray).size<=_;rw[ByteArray.size_append,D];omega,qaE (x:=S) (by omega) (by omega),⟨by show(_++_:List Int).length<=_;rw[jg,jh];omega,qbA c (qaE (by omega) (by omega))⟩⟩,by show _<=(_++_:List Int).length;rw[jg,jh];omega,by show(_++_:List Int).length<=_;rw[jg,jh];omega⟩)).mono (fun o k=>⟨⟨k.1.1,by rw[k.1.2.1,jg,jh];omega,k.1.2.2⟩,k.2⟩)
theorem qiL{α:Type}{ok:α->Prop}{xs:List α}{j:Int}{y:α}(h:∀x,x∈xs->ok x)(b:ok y):∀x,x∈setS xs j y->ok x:=by
 intro x a;unfold setS at a;rcases List.mem_or_eq_of_mem_set a with a|rfl
 ·exact h x a
 ·exact b
theorem qxG{wild:Bool}{m:List ByteArray}{h:List qH}(I:h.length<=14)(_:m.length<=100)(l:CodeOk code):∀(d j:Nat) (x:List qH) (i s':Int),SrcI code i s'->j+d=h.length->x.length=h.length->(∀y,y∈x->InsI y) ->
  EvQ (fun n=>qen ⟨code,a,s⟩ wild m h n x i s' (j:Int)) (fun o=>(o.1.length=h.length/\∀y,y∈o.1->InsI y)/\SrcI code o.2.1 o.2.2.1):=by
 intro d
 induction d with
 |zero=>
  intro j x i s' c r k f;refine EvQ.succ ?_;simp only[qen];exact EvQ.ff (qp (by omega)) (EvQ.done ⟨⟨k,f⟩,c⟩)
 |succ d ih=>
  intro j x i s' c r k f;have g:j<x.length:=by omega
  refine EvQ.succ ?_;simp only[qen,wS j];refine EvQ.tt (qn (by omega)) (EvQ.bind (R:=fun o:Int×Int×Bool=>SrcI code o.1 o.2.1) (EvQ.bind (qam 4 l c) ?_) ?_)
  ·rintro⟨C,D,F⟩ ⟨_,c⟩;refine EvQ.bif (fun _=>?_) (fun _=>EvQ.done c);refine EvQ.bindN (qa1 g) (EvQ.bif (fun _=>EvQ.done c) (fun _=>EvQ.bindN (qa1 g) (EvQ.bif (fun _=>EvQ.done c) (fun _=>EvQ.done c))))
  ·rintro⟨u,v,H⟩ c;dsimp only at c⊢;refine EvQ.bif (fun _=>?_) (fun _=>ih (j+1) x _ _ c (by omega) k f);refine EvQ.bindN (qa1 g) (EvQ.bind (qam _ l c) ?_);rintro⟨z,A,B⟩ ⟨_,c⟩;have hi:=f _ (jn g);have p:0<x[j].Ak.length:=by have:=hi.l2;omega
   refine EvQ.bindN (b:=x[j].Ak[0]) (qa1 (j:=0) p) ?_;refine ih (j+1) _ _ _ c (by omega) (by rw[qa7];exact k) (qiL f ⟨⟨hi.ok.Bi,hi.ok.Bt,⟨by show(setS _ _ _).length<=_;rw[qa7];exact hi.ok.Ak.1,qiL hi.ok.Ak.2 (qaR _)⟩⟩,by show _<=(setS _ _ _).length;rw[qa7];exact hi.l2,by show(setS _ _ _).length<=_;rw[qa7];exact hi.l5⟩)
structure DesI(d:qh):Prop where
 ok:qkr d
 sm:smallD d
 n1:1<=d.Ak.length
 p1:1<=d.Aj.length
theorem qvZ{most:Int}{wild:Bool}(K:2<=most)(J:most<=14)(g:CodeOk code)(h:SrcI code a s) :
  EvQ (fun n=>qj6 n ⟨code,a,s⟩ most wild) (fun o=>DesI o.1/\SrcI code o.2.1 o.2.2):=by
 have z:∀x:Int,-1000<=x->x<=1000->okI x:=fun x F K=>qaE (by omega) (by omega);unfold qj6;refine EvQ.bindN (qnm (by simp)) (EvQ.bind (qam _ g h) ?_);rintro⟨u,O,S⟩ ⟨⟨⟨q0,C⟩,_⟩,b⟩;have I:W64 (most-1)=most-1:=qN (by omega) (by omega);rw[I] at C;dsimp only at q0 C b⊢;have q2:=C (by omega);obtain⟨m,M⟩:∃m:Nat,2+u=(m:Int):=⟨(2+u).toNat,by omega⟩;rw[wO (2+u),M];have r:∀y,y∈[(⟨#[110,99,107]⟩:ByteArray),(⟨#[110,97]⟩:ByteArray),(⟨#[110,98]⟩:ByteArray)]->okS y:=by
  intro y f;simp only[jL,jy,or_false] at f;rcases f with rfl|rfl|rfl
  ·show(3:Nat)<=1048576;decide
  ·show(2:Nat)<=1048576;decide
  ·show(2:Nat)<=1048576;decide
 refine EvQ.bind (qwm g m _ [] O S b (by simp;omega) Z r (fun _ h=>by cases h)) ?_;rintro⟨p,D,i4,i5,i6⟩ ⟨⟨A,B,H,hi⟩,b⟩;dsimp only at A B H hi b⊢;have B:D.length=m:=by simpa using B
 refine EvQ.bind (qxG (wild:=wild) (by omega) (by omega) g D.length 0 D i4 i5 b (by omega) Z hi) ?_;rintro⟨c,P,Q,R⟩ ⟨⟨v,d⟩,b⟩;dsimp only at v d b⊢;have N:∀y,y∈[(⟨(⟨#[99,107]⟩:ByteArray),1,0⟩:qaD),(⟨(⟨#[97]⟩:ByteArray),1,1⟩:qaD),(⟨(⟨#[98]⟩:ByteArray),1,2⟩:qaD)]->qrA y:=by
  intro y f;simp only[jL,jy,or_false] at f;rcases f with rfl|rfl|rfl
  ·exact⟨by show(2:Nat)<=1048576;decide,z _ (by decide) (by decide),z _ (by decide) (by decide)⟩
  ·exact⟨by show(1:Nat)<=1048576;decide,z _ (by decide) (by decide),z _ (by decide) (by decide)⟩
  ·exact⟨by show(1:Nat)<=1048576;decide,z _ (by decide) (by decide),z _ (by decide) (by decide)⟩
 refine EvQ.bindN (qnm (by simp)) (EvQ.bindN (qca (by simp)) (EvQ.bind (qam 2 g b) ?_));have l:=qbA (y:=(⟨(⟨#[121]⟩:ByteArray),2,W64 ((p.length:Int)-1)⟩:qaD)) N ⟨by show(1:Nat)<=1048576;decide,z 2 (by decide) (by decide),qaR _⟩;have fin:∀{ps:List qaD},1<=ps.length->ps.length<=8->(∀y,y∈ps->qrA y)->DesI ⟨c,p,ps⟩:=fun {ps} F L t=>by
  refine⟨⟨⟨by show c.length<=_;omega,fun y f=>(d y f).ok⟩,⟨by show p.length<=_;omega,H⟩,⟨by show ps.length<=_;omega,t⟩⟩,⟨by show c.length<=_;omega,by show p.length<=_;omega,L,fun i hi=>?_⟩,by show 1<=p.length;omega,F⟩;have k:i<c.length:=hi;have:=d _ (jn k);show 2<=(gt c i).Ak.length/\(gt c i).Ak.length<=5;rw[qd6 k];exact⟨this.l2,this.l5⟩
 rintro⟨T,W,X⟩ ⟨_,b⟩;refine EvQ.bif (fun _=>?_) (fun _=>EvQ.done ⟨fin (by simp) (by simp) l,b⟩);refine EvQ.bind (qam _ g b) ?_;rintro⟨Y,e,a3⟩ ⟨_,b⟩;exact EvQ.bindN (qca (by simp)) (EvQ.done ⟨fin (by simp) (by simp) (qbA l ⟨by show(1:Nat)<=1048576;decide,z 2 (by decide) (by decide),qaR _⟩),b⟩)
end
end Go.Fw
