/- By a program of mine (gen.py): for each function a plain function and the proof that the code computes it. -/
import Derived.Test.YtbmbbkjleheokaaGreatDoorZ1
import Derived.Test.YtbmbbkjleheokaaGreatDoorA3
import Derived.Test.YtbmbbkjleheokaaGreatDoorFw35
import Derived.Test.YtbmbbkjleheokaaGreatDoorR2
open Option renaming bind_some → jd, some → V, none → U
open Bool renaming and_eq_true → je, eq_iff_iff → jm, true_and → jB, not_eq_true' → jF, not_true → Jg
open Nat renaming le_refl → jf, zero_le → jQ, le_trans → Jd, zero_add → Je
open List renaming length_append → jg, length_singleton → jh, getElem?_eq_getElem → jn, getElem_mem → jo, append_assoc → jt, length_map → jv, getD_eq_getElem?_getD → jw, not_mem_nil → jy, mem_cons → jI, take_length → jJ, length_take → jM, map_append → jW, getElem_of_mem → jY, append_nil → Ja
open Int renaming toNat_natCast → jp, tdiv_eq_ediv_of_nonneg → jE, le_refl → jU

namespace Go.Fw
open Go Go.Proofs Go.Proofs.Tryz
open Go.RowKit (Below)
open Ch renaming own→oW,box→oX,grp→oG
open GoT renaming v→oV
open Go.Value renaming slice→oS
set_option maxRecDepth 100000
set_option maxHeartbeats 6400000
variable {n:Nat}{w:World}{cs1 cs2 cs3 cs4 cs5 cs6 cs7 cs8 cs9:List Value}
def qh2 (n:Nat)(a_0:Tl01Source):Option (qe×Int×Int) :=(ql n (⟨a_0.code,a_0.at_,a_0.seed⟩:Tl01Source) 3).bind fun o=>match o with| (s,t,u) =>(qeD n (⟨a_0.code,t,u⟩:Tl01Source) 6 (s==0)).bind fun o=>match o with| (r1,v,x) =>(ql n (⟨a_0.code,v,x⟩:Tl01Source) (r1.Af.length:Int)).bind fun o=>match o with| (c,y,i8) =>(ql n (⟨a_0.code,y,i8⟩:Tl01Source) 20).bind fun o=>match o with| (f,a,b) =>bif (f==0) then(subS r1.Af 1 (r1.Af.length:Int)).bind fun A =>V ((⟨(⟨r1.Ar.As⟩:qw),(⟨r1.Aa.Ab,r1.Aa.Am,r1.Aa.Ai⟩:qh),A⟩:qe),a,b) else bif (f==1) then(idx r1.Af c).bind fun i =>(qet n i.Bl).bind fun z =>(appS z ([0]:List Int)).bind fun B =>V ((⟨r1.Ar,r1.Aa,(setS r1.Af c (⟨i.Ak,i.Bw,i.Br,B⟩:qam))⟩:qe),a,b) else bif (f==2) then(idx r1.Af c).bind fun g =>(idx g.Bw 0).bind fun _ =>V ((⟨r1.Ar,r1.Aa,(setS r1.Af c (⟨g.Ak,(setS g.Bw 0 1),g.Br,g.Bl⟩:qam))⟩:qe),a,b) else bif (f==3) then(idx r1.Af c).bind fun h =>(ql n (⟨a_0.code,a,b⟩:Tl01Source) 3).bind fun o=>match o with| (k,l,m) =>(idx ([(-1),500,501]:List Int) k).bind fun C =>(idx h.Br 0).bind fun _ =>V ((⟨r1.Ar,r1.Aa,(setS r1.Af c (⟨h.Ak,h.Bw,(setS h.Br 0 C),h.Bl⟩:qam))⟩:qe),l,m) else bif (f==4) then(idx r1.Af c).bind fun d =>(ql n (⟨a_0.code,a,b⟩:Tl01Source) 5).bind fun o=>match o with| (p,i16,r) =>(idx d.Ak (W64 ((d.Ak.length:Int)-1))).bind fun _ =>V ((⟨r1.Ar,r1.Aa,(setS r1.Af c (⟨(setS d.Ak (W64 ((d.Ak.length:Int)-1)) (W64 (p-1))),d.Bw,d.Br,d.Bl⟩:qam))⟩:qe),i16,r) else bif (f==5) then(idx r1.Aa.Ai 0).bind fun D =>V ((⟨r1.Ar,(⟨r1.Aa.Ab,r1.Aa.Am,(setS r1.Aa.Ai 0 ({ D with Bx:=3 }))⟩:qh),r1.Af⟩:qe),a,b) else V (r1,a,b)
theorem qnj {n w0 w F}{a_0:Tl01Source}{B p1 N}(h0:SH w0 w (xb B a_0 p1 N a_0.at_ a_0.seed::F))(ha1:GoT.R w (Fr w0 F) a_0 (qN a_0 p1 N)){r:(qe×Int×Int)}(hF:qh2 n a_0=V r):RetW prog 118 [vp B] w (fun us w'=>∃ S1 cs1,us=[oV qe cs1]∧SH w0 w' (oG (fun _=>False) S1 [fct (r.1:qe) cs1]::xb B a_0 p1 N r.2.1 r.2.2::F)):=by
 have h:=SH.frm1 h0 ha1;refine qbe func118 Z (m:=90) Z Z (zSR (qi qa h Z Z Z fun w1 H h=>X0 5 Z ?_));replace h:=h.p [1,0,2] Z;obtain⟨⟨i1,i2,i3⟩,hr1,hF⟩:=qd hF;refine nxC h ((qc (h.frG 2 0 1 Z Z Z)).1) hr1 Z Z Z fun _ h=>zp1 Z ?_;obtain⟨⟨r1,i4,i5⟩,hr2,hF⟩:=qd hF;refine qaQ (cB 119 Z) (qeM (s:=(⟨a_0.code,i2,i3⟩:Tl01Source)) (most:=6) (wild:=(i1==0)) h ⟨[oS p1 a_0.code.length N],[vi i2,vi i3],rfl,⟨_,_,rfl,(qc (h.frG 2 0 1 Z Z Z)).1⟩,⟨[vi i2],[vi i3],rfl,rfl,rfl⟩⟩ hr2) Z Z Z Z ?_;rintro _ _ ⟨S2,_,rfl,h⟩;obtain⟨p,o,g,f,c,a,d,b,l,k,rfl,-,-,-,-,-⟩:=qP (h.own 0 Z);replace h:SH _ _ [oW S2 (r1:qe) (qH r1 p g c d l o f a b k),xb B a_0 p1 N i4 i5,oX H [oS U 0 0,oS U 0 0,oS U 0 0,oS U 0 0,oS U 0 0] 34,xf w0 w F a_0 p1 N]:=h;refine qi qa h Z Z Z fun _ O h=>zs 0 h Z fun _ h=>X1 7 0 h Z ?_;replace h:=h.p [2,0,1,3,4] Z;obtain⟨⟨D,_,_⟩,hr3,hF⟩:=qd hF;refine nxC h ((qc (h.frG 4 0 1 Z Z Z)).1) hr3 Z Z Z fun _ h=>X0 6 Z ?_;obtain⟨⟨_,i10,i11⟩,hr4,hF⟩:=qd hF;refine nxC h ((qc (h.frG 4 0 1 Z Z Z)).1) hr4 Z Z Z fun _ h=>X0 7 Z (qk Z hF ?_ ?_)<;>intro hF
 ·refine X1 3 1 h Z ?_;obtain⟨x1,hx1,hF⟩:=qd hF;obtain⟨p7,k7,hp1,hk1,hl1,g1⟩:=qnE (qcG (h.own 2 Z)).2.2.2.2.1 hx1;refine r_v (qkt qa Z Z Z (qnM g1 (qcG (h.own 2 Z)).2.2.2.2.2) hp1 hk1 hl1 Z Z Z Z) Z (zp1 Z (zs 1 h Z fun _ h=>X1 5 1 h Z (zs 3 h Z fun _ h=>qa7 ?_)));have hk2:=h;replace h:=h.frzI 2 Z;replace h:=h.grpAdd 2 Z (x:=((⟨(⟨r1.Ar.As⟩:qw),(⟨r1.Aa.Ab,r1.Aa.Am,r1.Aa.Ai⟩:qh),x1⟩:qe):qe)) (⟨[oS p r1.Ar.As.length o],[oS g r1.Aa.Ab.length f,oS c r1.Aa.Am.length a,oS d r1.Aa.Ai.length b,oS p7 x1.length k7],rfl,⟨_,_,rfl,(qcG (h.grpS 2 0 Z Z)).1.1⟩,⟨[oS g r1.Aa.Ab.length f,oS c r1.Aa.Am.length a,oS d r1.Aa.Ai.length b],[oS p7 x1.length k7],rfl,⟨[oS g r1.Aa.Ab.length f],[oS c r1.Aa.Am.length a,oS d r1.Aa.Ai.length b],rfl,⟨_,_,rfl,(qcG (h.grpS 2 0 Z Z)).2.1.1⟩,⟨[oS c r1.Aa.Am.length a],[oS d r1.Aa.Ai.length b],rfl,⟨_,_,rfl,(qcG (h.grpS 2 0 Z Z)).2.2.1.1⟩,⟨_,_,rfl,(qcG (h.grpS 2 0 Z Z)).2.2.2.1.1⟩⟩⟩,⟨_,_,rfl,(qnH (qcG (h.grpS 2 0 Z Z)).2.2.2.2.1 hx1 hp1 hk1)⟩⟩⟩);replace h:=h.grpKeep [0] 2 Z;obtain rfl:=qb hF;replace h:=h.p [2,0,4] Z;exact qaN qa [oV qe [oS p r1.Ar.As.length o,oS g r1.Aa.Ab.length f,oS c r1.Aa.Am.length a,oS d r1.Aa.Ai.length b,oS p7 x1.length k7]] ⟨⟨_,_,_,rfl,rfl,hk2.box 3 Z,rfl⟩,trivial⟩ ⟨_,_,rfl,SH.unfr 1 1 h0 h Z Z⟩
 refine X0 5 Z (qk Z hF ?_ ?_)<;>intro hF
 ·replace h:=h.p [2,0,1,3,4] Z;obtain⟨S3,S4,_,h⟩:=qh0 h;obtain⟨i,hy1,hF⟩:=qd hF;have I:=qbA hy1;obtain⟨_,S7,_,h⟩:=h.take hy1;obtain⟨p8,k8,p9,k9,a4,a3,p11,k11,rfl,-,-,-,-⟩:=qbL (h.own 0 Z);obtain⟨S8,S9,S10,S11,h⟩:=qjC h;refine rA [14] [4,8] h Z fun _ h=>M2 63 [0,1,2,3,4,5] 1 1 (h.p [4,8] Z) Z ?_;obtain⟨_,hp2,-,-,hl3⟩:=h.holeAt 4 Z;obtain⟨q1,hq1⟩:∃ q,q=0+(D).toNat*GoT.k qam:=⟨_,rfl⟩;refine Ax 6 127 hp2 hq1 ⟨I.1,qE I.2.1 hl3⟩ (h.p [4,8] Z) Z (M0 255 [7] (h.p [4,8] Z) Z (Aw 8 511 (fun w' hw=>qcc qa (qia hw 0 Z hp2 hq1) (j:=3) Z Z Z) (h.p [4,8] Z) Z ?_));obtain⟨r2,hr5,hF⟩:=qd hF;obtain⟨x2,J,hF⟩:=qd hF;refine qjX (fun e w'=>∃ S22 p22 k19,e=[(2,vp H),(3,vp O)]∧SH w0 w' [oW S22 (x2:List Int) [oS p22 x2.length k19],oW S10 (i.Br:List Int) [oS a4 i.Br.length a3],oW S9 (i.Bw:List Int) [oS p9 i.Bw.length k9],oW S8 (i.Ak:List Int) [oS p8 i.Ak.length k8],Ch.hole S7 (r1.Af:List qam) l r1.Af.length k (D).toNat [oS p8 i.Ak.length k8,oS p9 i.Bw.length k9,oS a4 i.Br.length a3,oS p22 x2.length k19],oW S4 (r1.Aa:qh) (qaw r1.Aa g c d f a b),oW S3 (r1.Ar:qw) [oS p r1.Ar.As.length o],xb B a_0 p1 N i10 i11,oX O (qH r1 p g c d l o f a b k) 34,oX H [oS U 0 0,oS U 0 0,oS U 0 0,oS U 0 0,oS U 0 0] 34,xf w0 w F a_0 p1 N]) 0 (bits 15 32767) ?_ ?_
  ·intro K;refine At 9 10 1023 1535 Z ?_ ?_
   ·refine qjU r2 h (cB 183 Z) (qfs (h.own 0 Z) hr5) Z Z Z Z fun w20 S19 p19 k17 h=>Ag (h.p [5,9] Z) (Ao 10 2047 Z (qm qa [.const (vi (0))] _ ([0]:List Int) h Z Z Z Z Z Z Z Z Z ⟨rfl,trivial⟩ Z fun w21 p20 S20 h=>Ag (h.p [6,10] Z) (Ao 11 4095 Z ?_)));obtain⟨g4,J⟩:=qC J;refine qaz qa 1 h Z (h.sl 0 Z).1 (h.sl 0 Z).2 Z Z Z Z Z Z Z Z Z g4 J Z fun w22 p21 k18 S21 h=>Ag (h.p [6,10] Z) (Ao 12 8191 Z ?_);obtain⟨b4,R,-,-,hl9⟩:=h.holeAt 6 Z;obtain⟨q4,T⟩:∃ q,q=0+(D).toNat*GoT.k qam:=⟨_,rfl⟩;refine zx R T ⟨I.1,qE I.2.1 hl9⟩ Z (G0 16383 [13] (h.p [6,10] Z) Z (Ao 14 32767 Z (qqf qa 6 3 h Z R T Z Z Z Z Z Z fun w23 h=>qbc (fun hs=>absurd (hs 14 (by decide)) (by decide)) ?_)));replace h:=h.p [1,3,4,5,6,7,8,9,10,11,12] Z;exact aK K ⟨_,_,_,rfl,h⟩ Z
   refine qm qa [.const (vi (0))] _ ([0]:List Int) h Z Z Z Z Z Z Z Z Z ⟨rfl,trivial⟩ Z fun w20 p19 S19 h=>Ag (h.p [5,9] Z) (Ao 9 2047 Z (qjU r2 h (cB 183 Z) (qfs (h.own 1 Z) hr5) Z Z Z Z fun w21 S20 p20 k17 h=>Ag (h.p [6,10] Z) (Ao 11 4095 Z ?_)));obtain⟨g4,J⟩:=qC J;refine qaz qa 0 h Z (h.sl 1 Z).1 (h.sl 1 Z).2 Z Z Z Z Z Z Z Z Z g4 J Z fun w22 p21 k18 S21 h=>Ag (h.p [6,10] Z) (Ao 12 8191 Z ?_);obtain⟨b4,R,-,-,hl9⟩:=h.holeAt 6 Z;obtain⟨q4,T⟩:∃ q,q=0+(D).toNat*GoT.k qam:=⟨_,rfl⟩;refine zx R T ⟨I.1,qE I.2.1 hl9⟩ Z (G0 16383 [13] (h.p [6,10] Z) Z (Ao 14 32767 Z (qqf qa 6 3 h Z R T Z Z Z Z Z Z fun w23 h=>?_)));replace h:SH _ _ [oW S21 (x2:List Int) [oS p21 x2.length k18],oW S19 (([0]:List Int):List Int) [oS p19 1 1],oW S11 (i.Bl:List Int) [oS p11 i.Bl.length k11],oW S10 (i.Br:List Int) [oS a4 i.Br.length a3],oW S9 (i.Bw:List Int) [oS p9 i.Bw.length k9],oW S8 (i.Ak:List Int) [oS p8 i.Ak.length k8],Ch.hole S7 (r1.Af:List qam) l r1.Af.length k (D).toNat [oS p8 i.Ak.length k8,oS p9 i.Bw.length k9,oS a4 i.Br.length a3,oS p21 x2.length k18],oW S4 (r1.Aa:qh) (qaw r1.Aa g c d f a b),oW S3 (r1.Ar:qw) [oS p r1.Ar.As.length o],xb B a_0 p1 N i10 i11,oX O (qH r1 p g c d l o f a b k) 34,oX H [oS U 0 0,oS U 0 0,oS U 0 0,oS U 0 0,oS U 0 0] 34,xf w0 w F a_0 p1 N]:=h;refine qbc (fun hs=>absurd (hs 14 (by decide)) (by decide)) ?_;replace h:=h.p [0,3,4,5,6,7,8,9,10,11,12] Z;exact aK K ⟨_,_,_,rfl,h⟩ Z
  rintro _ _ ⟨S22,p22,k19,rfl,h⟩;refine Ad (X1 4 8 h Z (zs 9 h Z fun _ h=>qa7 ?_));have hk3:=h;obtain⟨_,h⟩:=h.gather [4,5,6,7,8,9,10] (qlz (⟨i.Ak,i.Bw,i.Br,x2⟩:qam) h (qK 3 h Z) (qK 2 h Z) (qK 1 h Z) (qK 0 h Z) (by rfl) (by rfl) (by rfl)) Z;replace h:=h.put;obtain⟨_,h⟩:=qot (S:=_) h;replace h:=h.frzI 2 Z;replace h:=h.frzI 1 Z;replace h:=h.frzI 0 Z;replace h:=h.p [2,1,0,3,4,5,6] Z;replace h:=SH.merge h;replace h:=SH.merge h;replace h:=h.grpAdd 0 Z (x:=((⟨r1.Ar,r1.Aa,(setS r1.Af D (⟨i.Ak,i.Bw,i.Br,x2⟩:qam))⟩:qe):qe)) (⟨[oS p r1.Ar.As.length o],[oS g r1.Aa.Ab.length f,oS c r1.Aa.Am.length a,oS d r1.Aa.Ai.length b,oS l r1.Af.length k],rfl,⟨_,_,rfl,(qit (h.grpS 0 0 Z Z)).1⟩,⟨[oS g r1.Aa.Ab.length f,oS c r1.Aa.Am.length a,oS d r1.Aa.Ai.length b],[oS l r1.Af.length k],rfl,⟨[oS g r1.Aa.Ab.length f],[oS c r1.Aa.Am.length a,oS d r1.Aa.Ai.length b],rfl,⟨_,_,rfl,(qdn (h.grpS 0 1 Z Z)).1.1⟩,⟨[oS c r1.Aa.Am.length a],[oS d r1.Aa.Ai.length b],rfl,⟨_,_,rfl,(qdn (h.grpS 0 1 Z Z)).2.1.1⟩,⟨_,_,rfl,(qdn (h.grpS 0 1 Z Z)).2.2.1⟩⟩⟩,(h.grpS 0 2 Z Z)⟩⟩);replace h:=h.grpKeep [0] 0 Z;obtain rfl:=qb hF;replace h:=h.p [0,1,4] Z;exact qaN qa [oV qe (qH r1 p g c d l o f a b k)] ⟨⟨_,_,_,rfl,rfl,hk3.box 9 Z,rfl⟩,trivial⟩ ⟨_,_,rfl,SH.unfr 1 1 h0 h Z Z⟩
 refine X0 5 Z (qk Z hF ?_ ?_)<;>intro hF
 ·refine X1 4 1 h Z ?_;replace h:=h.p [2,0,1,3,4] Z;obtain⟨_,_,_,h⟩:=qh0 h;obtain⟨y2,hy2,hF⟩:=qd hF;have he2:=qbA hy2;obtain⟨_,_,_,h⟩:=h.take hy2;obtain⟨_,_,_,_,_,_,_,_,rfl,-,-,-,-⟩:=qbL (h.own 0 Z);obtain⟨_,_,_,_,h⟩:=qjC h;obtain⟨_,hp6,-,-,hl11⟩:=h.holeAt 4 Z;obtain⟨q5,hq5⟩:∃ q,q=0+(D).toNat*GoT.k qam:=⟨_,rfl⟩;refine zx hp6 hq5 ⟨he2.1,qE he2.2.1 hl11⟩ Z (zp1 Z (zc 1 (qia h 4 Z hp6 hq5) Z ?_));obtain⟨_,hy3,hF,he3,_,_,_,_,hp7,hq6,rfl,hc5⟩:=(h.sl 2 Z).1.ix hF;refine zx hp7 hq6 ⟨he3.1,qE he3.2.1 (h.sl 2 Z).2⟩ Z (qaU qa 2 0 1 h Z hy3 hp7 hq6 Z hc5 Z Z Z Z Z Z Z fun _ h=>X1 5 8 h Z (zs 9 h Z fun _ h=>qa7 ?_));have hk4:=h;obtain⟨_,h⟩:=h.gather [4,5,6,7,8,9,10] (qlz (⟨y2.Ak,(setS y2.Bw 0 1),y2.Br,y2.Bl⟩:qam) h (qK 3 h Z) (qK 2 h Z) (qK 1 h Z) (qK 0 h Z) (by rfl) (by rfl) (by rfl)) Z;replace h:=h.put;obtain⟨_,h⟩:=qot (S:=_) h;replace h:=h.frzI 2 Z;replace h:=h.frzI 1 Z;replace h:=h.frzI 0 Z;replace h:=h.p [2,1,0,3,4,5,6] Z;replace h:=SH.merge h;replace h:=SH.merge h;replace h:=h.grpAdd 0 Z (x:=((⟨r1.Ar,r1.Aa,(setS r1.Af D (⟨y2.Ak,(setS y2.Bw 0 1),y2.Br,y2.Bl⟩:qam))⟩:qe):qe)) (⟨[oS p r1.Ar.As.length o],[oS g r1.Aa.Ab.length f,oS c r1.Aa.Am.length a,oS d r1.Aa.Ai.length b,oS l r1.Af.length k],rfl,⟨_,_,rfl,(qit (h.grpS 0 0 Z Z)).1⟩,⟨[oS g r1.Aa.Ab.length f,oS c r1.Aa.Am.length a,oS d r1.Aa.Ai.length b],[oS l r1.Af.length k],rfl,⟨[oS g r1.Aa.Ab.length f],[oS c r1.Aa.Am.length a,oS d r1.Aa.Ai.length b],rfl,⟨_,_,rfl,(qdn (h.grpS 0 1 Z Z)).1.1⟩,⟨[oS c r1.Aa.Am.length a],[oS d r1.Aa.Ai.length b],rfl,⟨_,_,rfl,(qdn (h.grpS 0 1 Z Z)).2.1.1⟩,⟨_,_,rfl,(qdn (h.grpS 0 1 Z Z)).2.2.1⟩⟩⟩,(h.grpS 0 2 Z Z)⟩⟩);replace h:=h.grpKeep [0] 0 Z;obtain rfl:=qb hF;replace h:=h.p [0,1,4] Z;exact qaN qa [oV qe (qH r1 p g c d l o f a b k)] ⟨⟨_,_,_,rfl,rfl,hk4.box 9 Z,rfl⟩,trivial⟩ ⟨_,_,rfl,SH.unfr 1 1 h0 h Z Z⟩
 refine X0 5 Z (qk Z hF ?_ ?_)<;>intro hF
 ·replace h:=h.p [2,0,1,3,4] Z;obtain⟨S36,S37,_,h⟩:=qh0 h;obtain⟨t,hy4,hF⟩:=qd hF;have he4:=qbA hy4;obtain⟨_,S40,_,h⟩:=h.take hy4;obtain⟨p27,k24,p28,k25,p29,k26,p30,k27,rfl,-,-,-,-⟩:=qbL (h.own 0 Z);obtain⟨S41,S42,S43,S44,h⟩:=qjC h;refine rA [] [4,8] h Z fun _ h=>M1 7 [0,1,2] 1 (h.p [4,8] Z) Z ?_;obtain⟨_,hp8,-,-,hl13⟩:=h.holeAt 4 Z;obtain⟨q7,hq7⟩:∃ q,q=0+(D).toNat*GoT.k qam:=⟨_,rfl⟩;refine Ax 3 15 hp8 hq7 ⟨he4.1,qE he4.2.1 hl13⟩ (h.p [4,8] Z) Z (M0 31 [4] (h.p [4,8] Z) Z (Aw 5 63 (fun w' hw=>qcc qa (qia hw 0 Z hp8 hq7) (j:=2) Z Z Z) (h.p [4,8] Z) Z ?_));refine M0 191 [7] (h.p [4,8] Z) Z ?_;obtain⟨⟨_,i13,i14⟩,hr9,hF⟩:=qd hF;obtain⟨y5,L,hF⟩:=qd hF;obtain⟨_,M,hF⟩:=qd hF;refine qjX (fun e w'=>e=[(2,vp H),(3,vp O)]∧SH w0 w' [xb B a_0 p1 N i13 i14,oW S44 (t.Bl:List Int) [oS p30 t.Bl.length k27],oW S43 ((setS t.Br 0 y5):List Int) [oS p29 t.Br.length k26],oW S42 (t.Bw:List Int) [oS p28 t.Bw.length k25],oW S41 (t.Ak:List Int) [oS p27 t.Ak.length k24],Ch.hole S40 (r1.Af:List qam) l r1.Af.length k (D).toNat [oS p27 t.Ak.length k24,oS p28 t.Bw.length k25,oS p29 t.Br.length k26,oS p30 t.Bl.length k27],oW S37 (r1.Aa:qh) (qaw r1.Aa g c d f a b),oW S36 (r1.Ar:qw) [oS p r1.Ar.As.length o],oX O (qH r1 p g c d l o f a b k) 34,oX H [oS U 0 0,oS U 0 0,oS U 0 0,oS U 0 0,oS U 0 0] 34,xf w0 w F a_0 p1 N]) 0 (bits 13 8191) ?_ ?_
  ·intro K;refine At 6 8 255 447 Z ?_ ?_
   ·refine qm qa [.const (vi (-1)),.const (vi (500)),.const (vi (501))] _ ([(-1),500,501]:List Int) h Z Z Z Z Z Z Z Z Z ⟨rfl,rfl,rfl,trivial⟩ Z fun w36 p33 S47 h=>Ag (h.p [5,9] Z) (Ao 8 511 Z ?_);replace h:=h.p [8,0,1,2,3,4,5,6,7,9,10,11] Z;refine nxC h ((qc (h.frG 11 0 1 Z Z Z)).1) hr9 Z Z Z fun w37 h=>Ag (h.p [6,9] Z) ?_;have Q:=qbA L;obtain⟨b12,o_7,q12,cs11,v,z,-,W,hc11⟩:=(h.sl 1 Z).1.at L;obtain rfl:=W;refine Ax 9 1023 v z ⟨Q.1,qE Q.2.1 (h.sl 1 Z).2⟩ (h.p [6,9] Z) Z (Ao 10 2047 Z (r_v (qcc qa (qJ (w1:=w) (S1:=fun _=>False) h 1 Z L v z Z) (j:=0) Z Z Z) Z (Ag (h.p [6,9] Z) ?_)));have u:=qbA M;obtain⟨b13,o_8,q13,cs12,y,A,-,X,P⟩:=(h.sl 3 Z).1.at M;obtain rfl:=X;refine Ax 11 4095 y A ⟨u.1,qE u.2.1 (h.sl 3 Z).2⟩ (h.p [6,9] Z) Z (Ao 12 8191 Z (qaU qa 3 0 y5 h Z M y A Z P Z Z Z Z Z Z Z fun w38 h=>Ag (h.p [6,9] Z) ?_));replace h:=h.p [0,2,3,4,5,6,7,8,9,10,11] Z;exact aK K ⟨rfl,h⟩ Z
   replace h:=h.p [7,0,1,2,3,4,5,6,8,9,10] Z;refine nxC h ((qc (h.frG 10 0 1 Z Z Z)).1) hr9 Z Z Z fun w36 h=>Ag (h.p [5,8] Z) (Ao 6 511 Z (qm qa [.const (vi (-1)),.const (vi (500)),.const (vi (501))] _ ([(-1),500,501]:List Int) h Z Z Z Z Z Z Z Z Z ⟨rfl,rfl,rfl,trivial⟩ Z fun w37 p33 S47 h=>Ag (h.p [6,9] Z) ?_));have Q:=qbA L;obtain⟨b12,o_7,q12,cs11,v,z,-,W,hc11⟩:=(h.sl 0 Z).1.at L;obtain rfl:=W;refine Ax 9 1023 v z ⟨Q.1,qE Q.2.1 (h.sl 0 Z).2⟩ (h.p [6,9] Z) Z (Ao 10 2047 Z (r_v (qcc qa (qJ (w1:=w) (S1:=fun _=>False) h 0 Z L v z Z) (j:=0) Z Z Z) Z (Ag (h.p [6,9] Z) ?_)));have u:=qbA M;obtain⟨b13,o_8,q13,cs12,y,A,-,X,P⟩:=(h.sl 3 Z).1.at M;obtain rfl:=X;refine Ax 11 4095 y A ⟨u.1,qE u.2.1 (h.sl 3 Z).2⟩ (h.p [6,9] Z) Z (Ao 12 8191 Z (qaU qa 3 0 y5 h Z M y A Z P Z Z Z Z Z Z Z fun w38 h=>Ag (h.p [6,9] Z) ?_));replace h:=h.p [1,2,3,4,5,6,7,8,9,10,11] Z;exact aK K ⟨rfl,h⟩ Z
  rintro _ _ ⟨rfl,h⟩;refine Ad (X1 4 8 h Z (zs 9 h Z fun _ h=>qa7 ?_));have hk5:=h;obtain⟨_,h⟩:=h.gather [0,5,6,7,8,9,10] (qlz (⟨t.Ak,t.Bw,(setS t.Br 0 y5),t.Bl⟩:qam) h (qK 4 h Z) (qK 3 h Z) (qK 2 h Z) (qK 1 h Z) (by rfl) (by rfl) (by rfl)) Z;replace h:=h.p [0,2,1,3,4,5,6,7] Z;replace h:=h.put;obtain⟨_,h⟩:=qot (S:=_) h;replace h:=h.frzI 3 Z;replace h:=h.frzI 2 Z;replace h:=h.frzI 0 Z;replace h:=h.p [3,2,0,1,4,5,6] Z;replace h:=SH.merge h;replace h:=SH.merge h;replace h:=h.grpAdd 0 Z (x:=((⟨r1.Ar,r1.Aa,(setS r1.Af D (⟨t.Ak,t.Bw,(setS t.Br 0 y5),t.Bl⟩:qam))⟩:qe):qe)) (⟨[oS p r1.Ar.As.length o],[oS g r1.Aa.Ab.length f,oS c r1.Aa.Am.length a,oS d r1.Aa.Ai.length b,oS l r1.Af.length k],rfl,⟨_,_,rfl,(qit (h.grpS 0 0 Z Z)).1⟩,⟨[oS g r1.Aa.Ab.length f,oS c r1.Aa.Am.length a,oS d r1.Aa.Ai.length b],[oS l r1.Af.length k],rfl,⟨[oS g r1.Aa.Ab.length f],[oS c r1.Aa.Am.length a,oS d r1.Aa.Ai.length b],rfl,⟨_,_,rfl,(qdn (h.grpS 0 1 Z Z)).1.1⟩,⟨[oS c r1.Aa.Am.length a],[oS d r1.Aa.Ai.length b],rfl,⟨_,_,rfl,(qdn (h.grpS 0 1 Z Z)).2.1.1⟩,⟨_,_,rfl,(qdn (h.grpS 0 1 Z Z)).2.2.1⟩⟩⟩,(h.grpS 0 2 Z Z)⟩⟩);replace h:=h.grpKeep [0] 0 Z;obtain rfl:=qb hF;replace h:=h.p [0,1,4] Z;exact qaN qa [oV qe (qH r1 p g c d l o f a b k)] ⟨⟨_,_,_,rfl,rfl,hk5.box 9 Z,rfl⟩,trivial⟩ ⟨_,_,rfl,SH.unfr 1 1 h0 h Z Z⟩
 refine X0 5 Z (qk Z hF ?_ ?_)<;>intro hF
 ·replace h:=h.p [2,0,1,3,4] Z;obtain⟨_,_,_,h⟩:=qh0 h;obtain⟨Y,hy7,hF⟩:=qd hF;have C:=qbA hy7;obtain⟨_,_,_,h⟩:=h.take hy7;obtain⟨_,_,_,_,_,_,_,_,rfl,-,-,-,-⟩:=qbL (h.own 0 Z);obtain⟨_,_,_,_,h⟩:=qjC h;refine rA [] [4,8] h Z fun _ h=>M1 7 [0,1,2] 1 (h.p [4,8] Z) Z ?_;obtain⟨_,hp15,-,-,hl15⟩:=h.holeAt 4 Z;obtain⟨q14,hq14⟩:∃ q,q=0+(D).toNat*GoT.k qam:=⟨_,rfl⟩;refine Ax 3 15 hp15 hq14 ⟨C.1,qE C.2.1 hl15⟩ (h.p [4,8] Z) Z (M0 31 [4] (h.p [4,8] Z) Z (Aw 5 63 (fun w' hw=>qcc qa (qia hw 0 Z hp15 hq14) (j:=0) Z Z Z) (h.p [4,8] Z) Z ?_));refine M1 511 [6,7,8] 1 (h.p [4,8] Z) Z ?_;obtain⟨_,hp16,-,-,hl17⟩:=h.holeAt 4 Z;obtain⟨q15,hq15⟩:∃ q,q=0+(D).toNat*GoT.k qam:=⟨_,rfl⟩;refine Ax 9 1023 hp16 hq15 ⟨C.1,qE C.2.1 hl17⟩ (h.p [4,8] Z) Z (M0 2047 [10] (h.p [4,8] Z) Z (Aw 11 4095 (fun w' hw=>qcc qa (qia hw 0 Z hp16 hq15) (j:=0) Z Z Z) (h.p [4,8] Z) Z ?_));refine M0 32767 [12,13,14] (h.p [4,8] Z) Z (Ao 15 65535 Z ?_);replace h:=h.p [7,0,1,2,3,4,5,6,8,9,10] Z;obtain⟨⟨i15,_,_⟩,hr16,hF⟩:=qd hF;refine nxC h ((qc (h.frG 10 0 1 Z Z Z)).1) hr16 Z Z Z fun _ h=>G0 131071 [16] (h.p [5,8] Z) Z ?_;obtain⟨_,hy8,hF,he12,_,_,_,_,hp17,hq16,rfl,hc14⟩:=(h.sl 4 Z).1.ix hF;refine Ax 17 262143 hp17 hq16 ⟨he12.1,qE he12.2.1 (h.sl 4 Z).2⟩ (h.p [5,8] Z) Z (Ao 18 524287 Z (qaU qa 4 0 (W64 (i15-1)) h Z hy8 hp17 hq16 Z hc14 Z Z Z Z Z Z Z fun _ h=>Ag (h.p [5,8] Z) (Ad (X1 4 8 h Z (zs 9 h Z fun _ h=>qa7 ?_)))));have hk6:=h;obtain⟨_,h⟩:=h.gather [0,5,6,7,8,9,10] (qlz (⟨(setS Y.Ak (W64 ((Y.Ak.length:Int)-1)) (W64 (i15-1))),Y.Bw,Y.Br,Y.Bl⟩:qam) h (qK 4 h Z) (qK 3 h Z) (qK 2 h Z) (qK 1 h Z) (by rfl) (by rfl) (by rfl)) Z;replace h:=h.p [0,2,1,3,4,5,6,7] Z;replace h:=h.put;obtain⟨_,h⟩:=qot (S:=_) h;replace h:=h.frzI 3 Z;replace h:=h.frzI 2 Z;replace h:=h.frzI 0 Z;replace h:=h.p [3,2,0,1,4,5,6] Z;replace h:=SH.merge h;replace h:=SH.merge h;replace h:=h.grpAdd 0 Z (x:=((⟨r1.Ar,r1.Aa,(setS r1.Af D (⟨(setS Y.Ak (W64 ((Y.Ak.length:Int)-1)) (W64 (i15-1))),Y.Bw,Y.Br,Y.Bl⟩:qam))⟩:qe):qe)) (⟨[oS p r1.Ar.As.length o],[oS g r1.Aa.Ab.length f,oS c r1.Aa.Am.length a,oS d r1.Aa.Ai.length b,oS l r1.Af.length k],rfl,⟨_,_,rfl,(qit (h.grpS 0 0 Z Z)).1⟩,⟨[oS g r1.Aa.Ab.length f,oS c r1.Aa.Am.length a,oS d r1.Aa.Ai.length b],[oS l r1.Af.length k],rfl,⟨[oS g r1.Aa.Ab.length f],[oS c r1.Aa.Am.length a,oS d r1.Aa.Ai.length b],rfl,⟨_,_,rfl,(qdn (h.grpS 0 1 Z Z)).1.1⟩,⟨[oS c r1.Aa.Am.length a],[oS d r1.Aa.Ai.length b],rfl,⟨_,_,rfl,(qdn (h.grpS 0 1 Z Z)).2.1.1⟩,⟨_,_,rfl,(qdn (h.grpS 0 1 Z Z)).2.2.1⟩⟩⟩,(h.grpS 0 2 Z Z)⟩⟩);replace h:=h.grpKeep [0] 0 Z;obtain rfl:=qb hF;replace h:=h.p [0,1,4] Z;exact qaN qa [oV qe (qH r1 p g c d l o f a b k)] ⟨⟨_,_,_,rfl,rfl,hk6.box 9 Z,rfl⟩,trivial⟩ ⟨_,_,rfl,SH.unfr 1 1 h0 h Z Z⟩
 refine X0 5 Z (qk Z hF ?_ ?_)<;>intro hF
 ·refine X1 4 1 h Z ?_;replace h:=h.p [2,0,1,3,4] Z;obtain⟨_,_,_,h⟩:=qh0 h;replace h:=h.p [1,0,2,3,4,5,6] Z;obtain⟨_,_,_,h⟩:=qqv h;obtain⟨y9,hy9,hF,he13,_,_,_,_,hp18,hq17,hr18,hc16⟩:=(h.sl 0 Z).1.ix hF;obtain rfl:=qe7 hr18;refine zx hp18 hq17 ⟨he13.1,qE he13.2.1 (h.sl 0 Z).2⟩ Z (zp1 Z (qaU qa 0 1 ({ y9 with Bx:=3 }:qaB) h Z hy9 hp18 hq17 (qjc y9) hc16 Z Z Z (qjc ({ y9 with Bx:=3 })) Z Z Z fun _ h=>X1 5 6 h Z (zs 7 h Z fun _ h=>qa7 ?_)));have hk7:=h;replace h:=h.frzI 4 Z;replace h:=h.frzI 2 Z;replace h:=h.frzI 1 Z;replace h:=h.frzI 0 Z;replace h:=h.frzI 3 Z;replace h:=h.p [4,2,0,1,3,5,6,7,8] Z;replace h:=SH.merge h;replace h:=h.p [0,2,1,3,4,5,6,7] Z;replace h:=SH.merge h;replace h:=SH.merge h;replace h:=SH.merge h;replace h:=h.grpAdd 0 Z (x:=((⟨r1.Ar,(⟨r1.Aa.Ab,r1.Aa.Am,(setS r1.Aa.Ai 0 ({ y9 with Bx:=3 }))⟩:qh),r1.Af⟩:qe):qe)) (⟨[oS p r1.Ar.As.length o],[oS g r1.Aa.Ab.length f,oS c r1.Aa.Am.length a,oS d r1.Aa.Ai.length b,oS l r1.Af.length k],rfl,⟨_,_,rfl,(qit (h.grpS 0 0 Z Z)).1⟩,⟨[oS g r1.Aa.Ab.length f,oS c r1.Aa.Am.length a,oS d r1.Aa.Ai.length b],[oS l r1.Af.length k],rfl,⟨[oS g r1.Aa.Ab.length f],[oS c r1.Aa.Am.length a,oS d r1.Aa.Ai.length b],rfl,(h.grpS 0 1 Z Z),⟨[oS c r1.Aa.Am.length a],[oS d r1.Aa.Ai.length b],rfl,(h.grpS 0 2 Z Z),(h.grpS 0 3 Z Z)⟩⟩,(h.grpS 0 4 Z Z)⟩⟩);replace h:=h.grpKeep [0] 0 Z;obtain rfl:=qb hF;replace h:=h.p [0,1,4] Z;exact qaN qa [oV qe (qH r1 p g c d l o f a b k)] ⟨⟨_,_,_,rfl,rfl,hk7.box 7 Z,rfl⟩,trivial⟩ ⟨_,_,rfl,SH.unfr 1 1 h0 h Z Z⟩
 refine X1 5 1 h Z (zs 3 h Z fun _ h=>qa7 ?_);have hk8:=h;replace h:=h.frzI 2 Z;replace h:=h.grpAdd 2 Z (x:=(r1:qe)) (h.grpS 2 0 Z Z);replace h:=h.grpKeep [0] 2 Z;obtain rfl:=qb hF;replace h:=h.p [2,0,4] Z;exact qaN qa [oV qe (qH r1 p g c d l o f a b k)] ⟨⟨_,_,_,rfl,rfl,hk8.box 3 Z,rfl⟩,trivial⟩ ⟨_,_,rfl,SH.unfr 1 1 h0 h Z Z⟩
def qgV (n:Nat)(s:Tl01Source):Option (qe×Int×Int) :=(ql n (⟨s.code,s.at_,s.seed⟩:Tl01Source) 12).bind fun o=>match o with| (c,a,b) =>bif (c==0) then(qh2 n (⟨s.code,a,b⟩:Tl01Source)).bind fun o=>match o with| (r1,i,k) =>V (r1,i,k) else bif (c==1) then bif (c==1) then(qeD n (⟨s.code,a,b⟩:Tl01Source) 6 true).bind fun o=>match o with| (r,l,m) =>V (r,l,m) else(qeD n (⟨s.code,a,b⟩:Tl01Source) 6 false).bind fun o=>match o with| (t,i8,p) =>V (t,i8,p) else bif (c==2) then(qeD n (⟨s.code,a,b⟩:Tl01Source) 6 true).bind fun o=>match o with| (u,d,f) =>V (u,d,f) else(qeD n (⟨s.code,a,b⟩:Tl01Source) 6 false).bind fun o=>match o with| (v,g,h) =>V (v,g,h)
theorem qmi {n g w F}{s:Tl01Source}{b p1 a}(i:SH g w (xb b s p1 a s.at_ s.seed::F))(ha1:GoT.R w (Fr g F) s (qN s p1 a)){r:(qe×Int×Int)}(hF:qgV n s=V r):RetW prog 49 [vp b] w (fun us w'=>∃ S1 cs1,us=[oV qe cs1]∧SH g w' (oG (fun _=>False) S1 [fct (r.1:qe) cs1]::xb b s p1 a r.2.1 r.2.2::F)):=by
 have h:=SH.frm1 i ha1;refine qbe func49 Z (m:=16) Z Z (zSR (qi qa h Z Z Z fun _ f h=>X0 5 Z ?_));replace h:=h.p [1,0,2] Z;obtain⟨⟨_,c,d⟩,hr1,hF⟩:=qd hF;refine nxC h ((qc (h.frG 2 0 1 Z Z Z)).1) hr1 Z Z Z fun _ h=>X0 7 Z (qk Z hF ?_ ?_)<;>intro hF
 ·refine X0 3 Z ?_;obtain⟨⟨r1,i4,i5⟩,hr2,hF⟩:=qd hF;refine qaQ (cB 118 Z) (qnj (a_0:=(⟨s.code,c,d⟩:Tl01Source)) h ⟨[oS p1 s.code.length a],[vi c,vi d],rfl,⟨_,_,rfl,(qc (h.frG 2 0 1 Z Z Z)).1⟩,⟨[vi c],[vi d],rfl,rfl,rfl⟩⟩ hr2) Z Z Z Z ?_;rintro _ _ ⟨S2,_,rfl,h⟩;have hr3:=h.grpS 0 0 Z Z;obtain⟨p2,k2,p3,k3,p4,k4,p5,k5,p6,k6,rfl,_,_,_,_,_⟩:=qP hr3;replace h:SH _ _ [oG (fun _=>False) S2 [fct (r1:qe) (qH r1 p2 p3 p4 p5 p6 k2 k3 k4 k5 k6)],xb b s p1 a i4 i5,oX f [oS U 0 0,oS U 0 0,oS U 0 0,oS U 0 0,oS U 0 0] 34,xf g w F s p1 a]:=h;refine zs 2 h Z fun _ h=>qa7 ?_;have hk1:=h;replace h:=h.grpAdd 0 Z (x:=(r1:qe)) (h.grpS 0 0 Z Z);replace h:=h.grpKeep [0] 0 Z;obtain rfl:=qb hF;replace h:=h.p [0,1,3] Z;exact qaN qa [oV qe (qH r1 p2 p3 p4 p5 p6 k2 k3 k4 k5 k6)] ⟨⟨_,_,_,rfl,rfl,hk1.box 2 Z,rfl⟩,trivial⟩ ⟨_,_,rfl,SH.unfr 1 1 i h Z Z⟩
 refine X0 6 Z (qk Z hF ?_ ?_)<;>intro hF
 ·refine qf2 (qk Z hF ?_ ?_)<;>intro hF
  ·refine X0 3 Z ?_;obtain⟨⟨r2,i6,i7⟩,hr5,hF⟩:=qd hF;refine qaQ (cB 119 Z) (qeM (s:=(⟨s.code,c,d⟩:Tl01Source)) (most:=6) (wild:=true) h ⟨[oS p1 s.code.length a],[vi c,vi d],rfl,⟨_,_,rfl,(qc (h.frG 2 0 1 Z Z Z)).1⟩,⟨[vi c],[vi d],rfl,rfl,rfl⟩⟩ hr5) Z Z Z Z ?_;rintro _ _ ⟨S3,_,rfl,h⟩;obtain⟨p7,k7,p8,k8,p9,k9,L,k,M,l,rfl,-,-,-,-,-⟩:=qP (h.own 0 Z);replace h:SH _ _ [oW S3 (r2:qe) (qH r2 p7 p8 p9 L M k7 k8 k9 k l),xb b s p1 a i6 i7,oX f [oS U 0 0,oS U 0 0,oS U 0 0,oS U 0 0,oS U 0 0] 34,xf g w F s p1 a]:=h;refine zs 2 h Z fun _ h=>qa7 ?_;have hk2:=h;replace h:=h.frzI 0 Z;replace h:=h.grpAdd 0 Z (x:=(r2:qe)) (h.grpS 0 0 Z Z);replace h:=h.grpKeep [0] 0 Z;obtain rfl:=qb hF;replace h:=h.p [0,1,3] Z;exact qaN qa [oV qe (qH r2 p7 p8 p9 L M k7 k8 k9 k l)] ⟨⟨_,_,_,rfl,rfl,hk2.box 2 Z,rfl⟩,trivial⟩ ⟨_,_,rfl,SH.unfr 1 1 i h Z Z⟩
  refine X0 5 Z ?_;obtain⟨⟨r3,i8,i9⟩,hr6,hF⟩:=qd hF;refine qaQ (cB 119 Z) (qeM (s:=(⟨s.code,c,d⟩:Tl01Source)) (most:=6) (wild:=false) h ⟨[oS p1 s.code.length a],[vi c,vi d],rfl,⟨_,_,rfl,(qc (h.frG 2 0 1 Z Z Z)).1⟩,⟨[vi c],[vi d],rfl,rfl,rfl⟩⟩ hr6) Z Z Z Z ?_;rintro _ _ ⟨S4,_,rfl,h⟩;obtain⟨N,o,O,p,P,t,Q,u,R,v,rfl,-,-,-,-,-⟩:=qP (h.own 0 Z);replace h:SH _ _ [oW S4 (r3:qe) (qH r3 N O P Q R o p t u v),xb b s p1 a i8 i9,oX f [oS U 0 0,oS U 0 0,oS U 0 0,oS U 0 0,oS U 0 0] 34,xf g w F s p1 a]:=h;refine zs 2 h Z fun _ h=>qa7 ?_;have hk3:=h;replace h:=h.frzI 0 Z;replace h:=h.grpAdd 0 Z (x:=(r3:qe)) (h.grpS 0 0 Z Z);replace h:=h.grpKeep [0] 0 Z;obtain rfl:=qb hF;replace h:=h.p [0,1,3] Z;exact qaN qa [oV qe (qH r3 N O P Q R o p t u v)] ⟨⟨_,_,_,rfl,rfl,hk3.box 2 Z,rfl⟩,trivial⟩ ⟨_,_,rfl,SH.unfr 1 1 i h Z Z⟩
 refine X0 4 Z (qk Z hF ?_ ?_)<;>intro hF
 ·refine X0 3 Z ?_;obtain⟨⟨r4,i10,i11⟩,hr7,hF⟩:=qd hF;refine qaQ (cB 119 Z) (qeM (s:=(⟨s.code,c,d⟩:Tl01Source)) (most:=6) (wild:=true) h ⟨[oS p1 s.code.length a],[vi c,vi d],rfl,⟨_,_,rfl,(qc (h.frG 2 0 1 Z Z Z)).1⟩,⟨[vi c],[vi d],rfl,rfl,rfl⟩⟩ hr7) Z Z Z Z ?_;rintro _ _ ⟨S5,_,rfl,h⟩;obtain⟨S,y,T,z,W,A,X,B,Y,C,rfl,-,-,-,-,-⟩:=qP (h.own 0 Z);replace h:SH _ _ [oW S5 (r4:qe) (qH r4 S T W X Y y z A B C),xb b s p1 a i10 i11,oX f [oS U 0 0,oS U 0 0,oS U 0 0,oS U 0 0,oS U 0 0] 34,xf g w F s p1 a]:=h;refine zs 2 h Z fun _ h=>qa7 ?_;have hk4:=h;replace h:=h.frzI 0 Z;replace h:=h.grpAdd 0 Z (x:=(r4:qe)) (h.grpS 0 0 Z Z);replace h:=h.grpKeep [0] 0 Z;obtain rfl:=qb hF;replace h:=h.p [0,1,3] Z;exact qaN qa [oV qe (qH r4 S T W X Y y z A B C)] ⟨⟨_,_,_,rfl,rfl,hk4.box 2 Z,rfl⟩,trivial⟩ ⟨_,_,rfl,SH.unfr 1 1 i h Z Z⟩
 refine X0 5 Z ?_;obtain⟨⟨r5,i12,i13⟩,hr8,hF⟩:=qd hF;refine qaQ (cB 119 Z) (qeM (s:=(⟨s.code,c,d⟩:Tl01Source)) (most:=6) (wild:=false) h ⟨[oS p1 s.code.length a],[vi c,vi d],rfl,⟨_,_,rfl,(qc (h.frG 2 0 1 Z Z Z)).1⟩,⟨[vi c],[vi d],rfl,rfl,rfl⟩⟩ hr8) Z Z Z Z ?_;rintro _ _ ⟨S6,_,rfl,h⟩;obtain⟨e,D,a3,H,a4,I,a5,J,a6,K,rfl,-,-,-,-,-⟩:=qP (h.own 0 Z);replace h:SH _ _ [oW S6 (r5:qe) (qH r5 e a3 a4 a5 a6 D H I J K),xb b s p1 a i12 i13,oX f [oS U 0 0,oS U 0 0,oS U 0 0,oS U 0 0,oS U 0 0] 34,xf g w F s p1 a]:=h;refine zs 2 h Z fun _ h=>qa7 ?_;have hk5:=h;replace h:=h.frzI 0 Z;replace h:=h.grpAdd 0 Z (x:=(r5:qe)) (h.grpS 0 0 Z Z);replace h:=h.grpKeep [0] 0 Z;obtain rfl:=qb hF;replace h:=h.p [0,1,3] Z;exact qaN qa [oV qe (qH r5 e a3 a4 a5 a6 D H I J K)] ⟨⟨_,_,_,rfl,rfl,hk5.box 2 Z,rfl⟩,trivial⟩ ⟨_,_,rfl,SH.unfr 1 1 i h Z Z⟩
def qcu (s:Tl01Source)(r1:(List qr))(g:Int):Nat→(List Int)→Int→Int→Int→Option ((List Int)×Int×Int×Int)| 0,_,_,_,_=>U| n+1,i,h,b,a =>bif decide (a<(r1.length:Int)) then(appS i ([a]:List Int)).bind fun k =>(ql n (⟨s.code,h,b⟩:Tl01Source) (W64 (1+g))).bind fun o=>match o with| (c,d,f) =>qcu s r1 g n k d f (W64 (a+(W64 (1+c)))) else V (i,h,b,a)
def qgl (n:Nat)(s:Tl01Source)(b:qe):Option ((List Int)×Int×Int) :=((qeC n b).bind fun A =>bif (!A) then V (s.at_,s.seed,true) else(ql n (⟨s.code,s.at_,s.seed⟩:Tl01Source) 3).bind fun o=>match o with| (i,k,l) =>V (k,l,decide (i > 0))).bind fun o=>match o with| (m,p,b1) =>bif b1 then V (([]:List Int),m,p) else(qdS n b).bind fun r1 =>(ql n (⟨s.code,m,p⟩:Tl01Source) 8).bind fun o=>match o with| (r,u,v) =>(ql n (⟨s.code,u,v⟩:Tl01Source) (W64 (1+r))).bind fun o=>match o with| (x,y,i8) =>(qcu s r1 r n ([]:List Int) y i8 x).bind fun o=>match o with| (t,z,c,_) =>(ql n (⟨s.code,z,c⟩:Tl01Source) 12).bind fun o=>match o with| (d,i16,a) =>bif (d==0) then(ql n (⟨s.code,i16,a⟩:Tl01Source) 2).bind fun o=>match o with| (f,g,h) =>(appS t ([W64 ((r1.length:Int)*f)]:List Int)).bind fun B =>V (B,g,h) else V (t,i16,a)
theorem ql3 {n c w F}{s:Tl01Source}{a p1 f}{b:qe}{cs1}(x:SH c w (xb a s p1 f s.at_ s.seed::F))(D:GoT.R w (Fr c F) s (qN s p1 f))(v:GoT.R w (Fr c F) b cs1){r:((List Int)×Int×Int)}(hF:qgl n s b=V r):RetW prog 52 [vp a,oV qe cs1] w (fun us w'=>∃ S1 cs2,us=[oV (List Int) cs2]∧SH c w' (oW S1 (r.1:(List Int)) cs2::xb a s p1 f r.2.1 r.2.2::F)):=by
 have h:=SH.frm1 x D;have N:=v;obtain⟨p2,T,p3,W,p4,X,p5,Y,p6,k6,rfl,_,_,_,_,_⟩:=qP v;replace h:=h.grpAdd 1 Z N;replace h:SH _ _ [xb a s p1 f s.at_ s.seed,oG (old c) (FS F) [fct (b:qe) (qH b p2 p3 p4 p5 p6 T W X Y k6),fct (s:Tl01Source) (qN s p1 f),same c w F]]:=h;refine qbe func52 Z (m:=52) Z Z (zSR (qB h Z Z fun _ o h=>X0 4 Z (qm qa [] _ ([]:List Int) h Z Z Z Z Z Z Z Z Z trivial Z fun _ p7 S2 h=>X0 4 Z ?_)));obtain⟨B,u,_,hF,p⟩:=bindE hF;refine qaA (fun e w'=>∃ O Q b1,B (O,Q,b1)=V r∧e=[(0,vp a),(3,vp o),(5,oS p7 0 0),(17,.bool b1)]∧SH c w' [oW S2 (([]:List Int):List Int) [oS p7 0 0],oX o (qH b p2 p3 p4 p5 p6 T W X Y k6) 34,xb a s p1 f O Q,oG (old c) (FS F) [fct (b:qe) (qH b p2 p3 p4 p5 p6 T W X Y k6),fct (s:Tl01Source) (qN s p1 f),same c w F]]) ?_ ?_
 ·refine X1 2 1 h Z (zcB h hF (qgD (h.grp 3 0 Z Z)) Z fun _ _ h hF=>zp2 Z (qg (t:=13) hF Z ?_ ?_))<;>intro hF
  ·refine X0 5 Z ?_;obtain rfl:=qb hF;exact rG ⟨_,_,_,p,rfl,h⟩ Z
  refine X0 3 Z ?_;replace h:=h.p [2,0,1,3] Z;obtain⟨⟨_,_,_⟩,M,hF⟩:=qd hF;refine nxC h ((qc (h.frG 3 1 1 Z Z Z)).1) M Z Z Z fun _ h=>X0 4 Z ?_;replace h:=h.p [1,2,0,3] Z;obtain rfl:=qb hF;exact rG ⟨_,_,_,p,rfl,h⟩ Z
 rintro _ _ ⟨O,Q,b1,hF,rfl,h⟩;subst u;refine qk Z hF ?_ ?_<;>intro hF
 ·refine X0 5 Z ?_;obtain rfl:=qb hF;replace h:=h.p [0,2,3] Z;exact qaN qa [oV (List Int) [oS p7 0 0]] ⟨rfl,trivial⟩ ⟨_,_,rfl,SH.unfr 1 2 x h Z Z⟩
 refine X1 4 1 h Z (zcL h hF (qdO (h.grp 3 0 Z Z)) Z fun r1 _ _ _ _ h hF=>X0 6 Z ?_);replace h:=h.p [3,0,1,2,4] Z;obtain⟨⟨i3,_,_⟩,H,hF⟩:=qd hF;refine nxC h ((qc (h.frG 4 1 1 Z Z Z)).1) H Z Z Z fun _ h=>X0 8 Z ?_;obtain⟨⟨_,_,_⟩,I,hF⟩:=qd hF;refine nxC h ((qc (h.frG 4 1 1 Z Z Z)).1) I Z Z Z fun _ h=>X0 2 Z ?_;replace h:=h.grpKeep [1,2] 4 Z;obtain⟨o3,hF,C⟩:=qd hF;refine qn ?_;replace h:=h.p [0,2,4] Z;refine rL (fun m e w'=>∃ S4 z l y A R k d,qcu s r1 i3 m A R k d=V o3∧e=[(0,vp a),(5,oS z l y),(6,vi (r1.length:Int)),(7,vi (W64 (1+i3))),(8,vi d)]∧SH c w' [xb a s p1 f R k,oW S4 (A:List Int) [oS z l y],xf c w F s p1 f]) n ⟨_,_,_,_,_,_,_,_,hF,rfl,h⟩ Z ?_;rintro m1 _ _ ⟨S4,z,l,y,A,R,k,d,hF,rfl,h⟩;obtain rfl:=(h.sl 1 Z).2;rcases m1 with _|m1
 ·cases hF
 refine X0 7 Z (qk Z hF ?_ ?_)<;>intro hF
 ·refine X0 6 Z (qm qa [.tmp 38] _ ([d]:List Int) h Z Z Z Z Z Z Z Z Z ⟨rfl,trivial⟩ Z fun _ _ _ h=>?_);obtain⟨_,g,hF⟩:=qd hF;obtain⟨g1,g⟩:=qC g;refine qaz qa 2 h Z (h.sl 0 Z).1 (h.sl 0 Z).2 Z Z Z Z Z Z Z Z Z g1 g Z fun _ _ _ _ h=>X0 7 Z ?_;replace h:=h.p [1,0,2,3] Z;obtain⟨⟨_,_,_⟩,J,hF⟩:=qd hF;refine nxC h ((qc (h.frG 3 0 1 Z Z Z)).1) J Z Z Z fun _ h=>X0 4 Z ?_;replace h:=h.p [0,2,3] Z;exact rK ⟨_,_,_,_,_,_,_,_,hF,rfl,h⟩ Z
 refine qv Z ?_;obtain rfl:=qb hF;replace hF:=C;refine X0 4 Z ?_;obtain⟨⟨_,_,_⟩,K,hF⟩:=qd hF;refine nxC h ((qc (h.frG 2 0 1 Z Z Z)).1) K Z Z Z fun _ h=>X0 2 Z (qk Z hF ?_ ?_)<;>intro hF
 ·refine X0 4 Z ?_;obtain⟨⟨P,_,_⟩,L,hF⟩:=qd hF;refine nxC h ((qc (h.frG 2 0 1 Z Z Z)).1) L Z Z Z fun _ h=>zp1 Z (qm qa [.tmp 48] _ ([W64 ((r1.length:Int)*P)]:List Int) h Z Z Z Z Z Z Z Z Z ⟨rfl,trivial⟩ Z fun _ _ _ h=>?_);obtain⟨x3,i,hF⟩:=qd hF;obtain⟨g2,i⟩:=qC i;refine qaz qa 2 h Z (h.sl 0 Z).1 (h.sl 0 Z).2 Z Z Z Z Z Z Z Z Z g2 i Z fun _ p13 S _ h=>X0 7 Z ?_;obtain rfl:=qb hF;replace h:=h.p [2,1,3] Z;exact qaN qa [oV (List Int) [oS p13 x3.length S]] ⟨rfl,trivial⟩ ⟨_,_,rfl,SH.unfr 1 1 x h Z Z⟩
 refine X0 6 Z ?_;obtain rfl:=qb hF;replace h:=h.p [1,0,2] Z;exact qaN qa [oV (List Int) [oS z A.length y]] ⟨rfl,trivial⟩ ⟨_,_,rfl,SH.unfr 1 1 x h Z Z⟩
def qgB (n:Nat)(s:Tl01Source):Option (qy×Int×Int) :=(ql n (⟨s.code,s.at_,s.seed⟩:Tl01Source) 3).bind fun o=>match o with| (y,z,A) =>(idx ([(⟨#[115,108,111,119]⟩:ByteArray),(⟨#[102,97,115,116]⟩:ByteArray),(⟨#[116,121,112]⟩:ByteArray)]:List ByteArray) y).bind fun h =>(ql n (⟨s.code,z,A⟩:Tl01Source) 20).bind fun o=>match o with| (c,B,C) =>(ql n (⟨s.code,B,C⟩:Tl01Source) 20).bind fun o=>match o with| (g,i8,D) =>(ql n (⟨s.code,i8,D⟩:Tl01Source) 60).bind fun o=>match o with| (d,i,k) =>(ql n (⟨s.code,i,k⟩:Tl01Source) 40).bind fun o=>match o with| (f,l,m) =>(ql n (⟨s.code,l,m⟩:Tl01Source) 30).bind fun o=>match o with| (i16,a,b) =>bif (i16==0) then V ((⟨h,W64 (800+(W64 (10*c))),W64 ((W64 (800+(W64 (10*c))))-1),W64 (900+(W64 (10*g))),W64 ((W64 (900+(W64 (10*g))))+(W64 (9*f)))⟩:qy),a,b) else bif (i16==1) then(ql n (⟨s.code,a,b⟩:Tl01Source) 3).bind fun o=>match o with| (p,r,t) =>(idx ([99,100,(-1)]:List Int) p).bind fun F =>V ((⟨h,W64 (800+(W64 (10*c))),W64 ((W64 (800+(W64 (10*c))))+(W64 (7*d))),F,W64 ((W64 (900+(W64 (10*g))))+(W64 (9*f)))⟩:qy),r,t) else bif (i16==2) then(ql n (⟨s.code,a,b⟩:Tl01Source) 2).bind fun o=>match o with| (u,v,x) =>V ((⟨h,W64 (800+(W64 (10*c))),W64 ((W64 (800+(W64 (10*c))))+(W64 (7*d))),W64 (900+(W64 (10*g))),W64 (5000+u)⟩:qy),v,x) else bif (i16==3) then V ((⟨(⟨#[]⟩:ByteArray),W64 (800+(W64 (10*c))),W64 ((W64 (800+(W64 (10*c))))+(W64 (7*d))),W64 (900+(W64 (10*g))),W64 ((W64 (900+(W64 (10*g))))+(W64 (9*f)))⟩:qy),a,b) else V ((⟨h,W64 (800+(W64 (10*c))),W64 ((W64 (800+(W64 (10*c))))+(W64 (7*d))),W64 (900+(W64 (10*g))),W64 ((W64 (900+(W64 (10*g))))+(W64 (9*f)))⟩:qy),a,b)
theorem qlY {n l w F}{s:Tl01Source}{b p1 p}(h0:SH l w (xb b s p1 p s.at_ s.seed::F))(ha1:GoT.R w (Fr l F) s (qN s p1 p)){r:(qy×Int×Int)}(hF:qgB n s=V r):RetW prog 53 [vp b] w (fun us w'=>us=[oV qy (qaX r.1)]∧SH l w' (xb b s p1 p r.2.1 r.2.2::F)):=by
 have h:=SH.frm1 h0 ha1;refine qbe func53 Z (m:=58) Z Z (zSR (qi qa h Z Z Z fun w1 c h=>zNS ?_));obtain⟨⟨i1,i2,i3⟩,S,hF⟩:=qd hF;obtain⟨R,a,hF⟩:=qd hF;obtain⟨⟨v,i5,i6⟩,o,hF⟩:=qd hF;obtain⟨⟨B,i8,i9⟩,k,hF⟩:=qd hF;refine qaA (fun e w'=>∃ C,e=[(0,vp b),(2,vp c),(3,vp C)]∧SH l w' [oX C [.string R,vi (W64 (800+(W64 (10*v)))),vi 0,vi (W64 (900+(W64 (10*B)))),vi 0] 36,xb b s p1 p i8 i9,oX c [.string ByteArray.empty,vi 0,vi 0,vi 0,vi 0] 36,xf l w F s p1 p]) ?_ ?_
 ·refine qwA [15] (fun w'=>SH l w' []) Z 16 Z (bits 16 0) (by kernel_rfl) fun _ hb=>?_;replace h:=h.ext hb;clear hb;refine qop (fun e w'=>∃ D,e=[(0,vp b),(2,vp c),(3,vp D),(17,.agg #[.string R,vi (W64 (800+(W64 (10*v)))),vi 0,vi (W64 (900+(W64 (10*B)))),vi 0])]∧SH l w' [oX D [.string ByteArray.empty,vi 0,vi 0,vi 0,vi 0] 36,xb b s p1 p i8 i9,oX c [.string ByteArray.empty,vi 0,vi 0,vi 0,vi 0] 36,xf l w F s p1 p]) 1 (bits 16 32767) ?_ fun KM1=>?_
  ·rintro _ _ ⟨D,rfl,h⟩;exact Ao 15 65535 Z (zs 0 h Z fun _ h=>qbc (fun hs=>absurd (hs 15 (by decide)) (by decide)) (Ad (rG ⟨_,rfl,h⟩ Z)))
  refine qop (fun e w'=>e=[(0,vp b),(2,vp c),(17,.agg #[.string R,vi (W64 (800+(W64 (10*v)))),vi 0,vi (W64 (900+(W64 (10*B)))),vi 0])]∧SH l w' [xb b s p1 p i8 i9,oX c [.string ByteArray.empty,vi 0,vi 0,vi 0,vi 0] 36,xf l w F s p1 p]) 2 (bits 16 16383) ?_ fun KM2=>?_
  ·rintro _ _ ⟨rfl,h⟩;exact Ao 14 32767 Z (qi qa h Z Z Z fun _ _ h=>Ag (h.p [] Z) (qnx [(0,_),(2,_),(3,_),(17,_)] ⟨rfl,rfl,rfl,rfl,trivial⟩ (KM1 _ _ ⟨_,rfl,h⟩)))
  refine qop (fun e w'=>∃ H,e=[(0,vp b),(2,vp c),(3,vp H),(8,.string R),(12,vi (W64 (800+(W64 (10*v))))),(13,vp b)]∧SH l w' [oX H [.string ByteArray.empty,vi 0,vi 0,vi 0,vi 0] 36,xb b s p1 p i5 i6,oX c [.string ByteArray.empty,vi 0,vi 0,vi 0,vi 0] 36,xf l w F s p1 p]) 5 (bits 16 17407) ?_ fun KM3=>?_
  ·rintro _ _ ⟨H,rfl,h⟩;refine Ao 10 18431 Z ?_;replace h:=h.p [1,0,2,3] Z;refine nxC h ((qc (h.frG 3 0 1 Z Z Z)).1) k Z Z Z fun _ h=>G0 24575 [11,12] (h.p [] Z) Z (Aw 13 32767 (fun w' hw=>qA qa [0,1,3] [.tmp 8,.tmp 12,.tmp 16] Z Z Z Z Z Z Z Z) (h.p [] Z) Z ?_);replace h:=h.p [1,0,2,3] Z;exact aK KM1 ⟨_,rfl,h⟩ Z
  refine qop (fun e w'=>∃ I,e=[(0,vp b),(2,vp c),(3,vp I),(6,vi i1),(12,vi (W64 (800+(W64 (10*v))))),(16,vi (W64 (900+(W64 (10*B)))))]∧SH l w' [oX I [.string ByteArray.empty,vi 0,vi 0,vi 0,vi 0] 36,xb b s p1 p i8 i9,oX c [.string ByteArray.empty,vi 0,vi 0,vi 0,vi 0] 36,xf l w F s p1 p]) 5 (bits 16 24550) ?_ fun KM4=>?_
  ·rintro _ _ ⟨I,rfl,h⟩;refine Ao 0 24551 Z (qm qa [.const (.string (⟨#[115,108,111,119]⟩:ByteArray)),.const (.string (⟨#[102,97,115,116]⟩:ByteArray)),.const (.string (⟨#[116,121,112]⟩:ByteArray))] _ ([(⟨#[115,108,111,119]⟩:ByteArray),(⟨#[102,97,115,116]⟩:ByteArray),(⟨#[116,121,112]⟩:ByteArray)]:List ByteArray) h Z Z Z Z Z Z Z Z Z ⟨rfl,rfl,rfl,trivial⟩ Z fun _ _ _ h=>Ag (h.p [] Z) ?_);have X:=qbA a;obtain⟨_,o_17,_,_,b4,b5,-,hr20,_⟩:=(h.sl 0 Z).1.at a;obtain rfl:=hr20;refine Ax 3 24559 b4 b5 ⟨X.1,qE X.2.1 (h.sl 0 Z).2⟩ (h.p [] Z) Z (Ao 4 24575 Z (r_v (qcc qa (qJ (w1:=w) (S1:=fun _=>False) h 0 Z a b4 b5 Z) (j:=0) Z Z Z) Z (Ag (h.p [] Z) (Aw 13 32767 (fun w' hw=>qA qa [0,1,3] [.tmp 8,.tmp 12,.tmp 16] Z Z Z Z Z Z Z Z) (h.p [] Z) Z ?_))));replace h:=h.p [1,2,3,4] Z;exact aK KM1 ⟨_,rfl,h⟩ Z
  refine qop (fun e w'=>e=[(0,vp b),(2,vp c),(8,.string R),(12,vi (W64 (800+(W64 (10*v))))),(13,vp b)]∧SH l w' [xb b s p1 p i5 i6,oX c [.string ByteArray.empty,vi 0,vi 0,vi 0,vi 0] 36,xf l w F s p1 p]) 6 (bits 16 1023) ?_ fun KM5=>?_
  ·rintro _ _ ⟨rfl,h⟩;refine At 10 14 2047 17407 Z ?_ ?_
   ·refine nxC h ((qc (h.frG 2 0 1 Z Z Z)).1) k Z Z Z fun _ h=>G0 8191 [11,12] (h.p [] Z) Z (Aw 13 16383 (fun w' hw=>qA qa [0,1,3] [.tmp 8,.tmp 12,.tmp 16] Z Z Z Z Z Z Z Z) (h.p [] Z) Z ?_);exact aK KM2 ⟨rfl,h⟩ Z
   exact qi qa h Z Z Z fun _ _ h=>Ag (h.p [] Z) (qnx [(0,_),(2,_),(3,_),(8,_),(12,_),(13,_)] ⟨rfl,rfl,rfl,rfl,rfl,rfl,trivial⟩ (KM3 _ _ ⟨_,rfl,h⟩))
  refine qop (fun e w'=>∃ J,e=[(0,vp b),(2,vp c),(3,vp J),(8,.string R),(9,vp b),(13,vp b)]∧SH l w' [oX J [.string ByteArray.empty,vi 0,vi 0,vi 0,vi 0] 36,xb b s p1 p i2 i3,oX c [.string ByteArray.empty,vi 0,vi 0,vi 0,vi 0] 36,xf l w F s p1 p]) 8 (bits 16 16959) ?_ fun KM6=>?_
  ·rintro _ _ ⟨J,rfl,h⟩;refine Ao 6 17023 Z ?_;replace h:=h.p [1,0,2,3] Z;refine nxC h ((qc (h.frG 3 0 1 Z Z Z)).1) o Z Z Z fun _ h=>G0 17407 [7,8] (h.p [] Z) Z ?_;replace h:=h.p [1,0,2,3] Z;exact aK KM3 ⟨_,rfl,h⟩ Z
  refine qop (fun e w'=>∃ K,e=[(0,vp b),(2,vp c),(3,vp K),(6,vi i1),(12,vi (W64 (800+(W64 (10*v))))),(13,vp b)]∧SH l w' [oX K [.string ByteArray.empty,vi 0,vi 0,vi 0,vi 0] 36,xb b s p1 p i5 i6,oX c [.string ByteArray.empty,vi 0,vi 0,vi 0,vi 0] 36,xf l w F s p1 p]) 8 (bits 16 17382) ?_ fun KM7=>?_
  ·rintro _ _ ⟨K,rfl,h⟩;refine At 0 10 17383 18406 Z ?_ ?_
   ·refine qm qa [.const (.string (⟨#[115,108,111,119]⟩:ByteArray)),.const (.string (⟨#[102,97,115,116]⟩:ByteArray)),.const (.string (⟨#[116,121,112]⟩:ByteArray))] _ ([(⟨#[115,108,111,119]⟩:ByteArray),(⟨#[102,97,115,116]⟩:ByteArray),(⟨#[116,121,112]⟩:ByteArray)]:List ByteArray) h Z Z Z Z Z Z Z Z Z ⟨rfl,rfl,rfl,trivial⟩ Z fun _ _ _ h=>Ag (h.p [] Z) ?_;have Y:=qbA a;obtain⟨_,o_18,_,_,N,P,-,hr21,_⟩:=(h.sl 0 Z).1.at a;obtain rfl:=hr21;refine Ax 3 17391 N P ⟨Y.1,qE Y.2.1 (h.sl 0 Z).2⟩ (h.p [] Z) Z (At 4 10 17407 18415 Z ?_ ?_)
    ·refine r_v (qcc qa (qJ (w1:=w) (S1:=fun _=>False) h 0 Z a N P Z) (j:=0) Z Z Z) Z (Ag (h.p [] Z) ?_);replace h:=h.p [1,2,3,4] Z;exact aK KM3 ⟨_,rfl,h⟩ Z
    replace h:=h.p [2,0,1,3,4] Z;refine nxC h ((qc (h.frG 4 0 1 Z Z Z)).1) k Z Z Z fun _ h=>G0 24559 [11,12] (h.p [] Z) Z (Ao 4 24575 Z (r_v (qcc qa (qJ (w1:=w) (S1:=fun _=>False) h 1 Z a N P Z) (j:=0) Z Z Z) Z (Ag (h.p [] Z) (Aw 13 32767 (fun w' hw=>qA qa [0,1,3] [.tmp 8,.tmp 12,.tmp 16] Z Z Z Z Z Z Z Z) (h.p [] Z) Z ?_))));replace h:=h.p [2,0,3,4] Z;exact aK KM1 ⟨_,rfl,h⟩ Z
   replace h:=h.p [1,0,2,3] Z;refine nxC h ((qc (h.frG 3 0 1 Z Z Z)).1) k Z Z Z fun _ h=>G0 24550 [11,12] (h.p [] Z) Z ?_;replace h:=h.p [1,0,2,3] Z;exact aK KM4 ⟨_,rfl,h⟩ Z
  refine qop (fun e w'=>∃ L S18 b6,e=[(0,vp b),(2,vp c),(3,vp L),(4,oS b6 3 3),(5,vp b),(9,vp b),(13,vp b)]∧SH l w' [oX L [.string ByteArray.empty,vi 0,vi 0,vi 0,vi 0] 36,oW S18 (([(⟨#[115,108,111,119]⟩:ByteArray),(⟨#[102,97,115,116]⟩:ByteArray),(⟨#[116,121,112]⟩:ByteArray)]:List ByteArray):List ByteArray) [oS b6 3 3],oX c [.string ByteArray.empty,vi 0,vi 0,vi 0,vi 0] 36,xb b s p1 p s.at_ s.seed,xf l w F s p1 p]) 11 (bits 16 16931) ?_ fun KM8=>?_
  ·rintro _ _ ⟨L,S18,b6,rfl,h⟩;refine Ao 2 16935 Z ?_;replace h:=h.p [3,0,1,2,4] Z;refine nxC h ((qc (h.frG 4 0 1 Z Z Z)).1) S Z Z Z fun _ h=>Ag (h.p [] Z) ?_;have a3:=qbA a;obtain⟨_,o_19,_,_,x,z,-,hr22,_⟩:=(h.sl 2 Z).1.at a;obtain rfl:=hr22;refine Ax 3 16943 x z ⟨a3.1,qE a3.2.1 (h.sl 2 Z).2⟩ (h.p [] Z) Z (At 4 6 16959 17007 Z ?_ ?_)
   ·refine r_v (qcc qa (qJ (w1:=w) (S1:=fun _=>False) h 2 Z a x z Z) (j:=0) Z Z Z) Z (Ag (h.p [] Z) ?_);replace h:=h.p [1,0,3,4] Z;exact aK KM6 ⟨_,rfl,h⟩ Z
   refine nxC h ((qc (h.frG 4 0 1 Z Z Z)).1) o Z Z Z fun _ h=>G0 17391 [7,8] (h.p [] Z) Z (At 4 10 17407 18415 Z ?_ ?_)
   ·refine r_v (qcc qa (qJ (w1:=w) (S1:=fun _=>False) h 2 Z a x z Z) (j:=0) Z Z Z) Z (Ag (h.p [] Z) ?_);replace h:=h.p [1,0,3,4] Z;exact aK KM3 ⟨_,rfl,h⟩ Z
   refine nxC h ((qc (h.frG 4 0 1 Z Z Z)).1) k Z Z Z fun _ h=>G0 24559 [11,12] (h.p [] Z) Z (Ao 4 24575 Z (r_v (qcc qa (qJ (w1:=w) (S1:=fun _=>False) h 2 Z a x z Z) (j:=0) Z Z Z) Z (Ag (h.p [] Z) (Aw 13 32767 (fun w' hw=>qA qa [0,1,3] [.tmp 8,.tmp 12,.tmp 16] Z Z Z Z Z Z Z Z) (h.p [] Z) Z ?_))));replace h:=h.p [1,0,3,4] Z;exact aK KM1 ⟨_,rfl,h⟩ Z
  refine qop (fun e w'=>∃ M,e=[(0,vp b),(2,vp c),(3,vp M),(6,vi i1),(9,vp b),(13,vp b)]∧SH l w' [oX M [.string ByteArray.empty,vi 0,vi 0,vi 0,vi 0] 36,xb b s p1 p i2 i3,oX c [.string ByteArray.empty,vi 0,vi 0,vi 0,vi 0] 36,xf l w F s p1 p]) 11 (bits 16 16934) ?_ fun KM9=>?_
  ·rintro _ _ ⟨M,rfl,h⟩;refine At 0 6 16935 16998 Z ?_ ?_
   ·refine qm qa [.const (.string (⟨#[115,108,111,119]⟩:ByteArray)),.const (.string (⟨#[102,97,115,116]⟩:ByteArray)),.const (.string (⟨#[116,121,112]⟩:ByteArray))] _ ([(⟨#[115,108,111,119]⟩:ByteArray),(⟨#[102,97,115,116]⟩:ByteArray),(⟨#[116,121,112]⟩:ByteArray)]:List ByteArray) h Z Z Z Z Z Z Z Z Z ⟨rfl,rfl,rfl,trivial⟩ Z fun _ _ _ h=>Ag (h.p [] Z) ?_;have a4:=qbA a;obtain⟨_,o_20,_,_,y,A,-,hr23,_⟩:=(h.sl 0 Z).1.at a;obtain rfl:=hr23;refine Ax 3 16943 y A ⟨a4.1,qE a4.2.1 (h.sl 0 Z).2⟩ (h.p [] Z) Z (At 4 6 16959 17007 Z ?_ ?_)
    ·refine r_v (qcc qa (qJ (w1:=w) (S1:=fun _=>False) h 0 Z a y A Z) (j:=0) Z Z Z) Z (Ag (h.p [] Z) ?_);replace h:=h.p [1,2,3,4] Z;exact aK KM6 ⟨_,rfl,h⟩ Z
    replace h:=h.p [2,0,1,3,4] Z;refine nxC h ((qc (h.frG 4 0 1 Z Z Z)).1) o Z Z Z fun _ h=>G0 17391 [7,8] (h.p [] Z) Z (At 4 10 17407 18415 Z ?_ ?_)
    ·refine r_v (qcc qa (qJ (w1:=w) (S1:=fun _=>False) h 1 Z a y A Z) (j:=0) Z Z Z) Z (Ag (h.p [] Z) ?_);replace h:=h.p [2,0,3,4] Z;exact aK KM3 ⟨_,rfl,h⟩ Z
    refine nxC h ((qc (h.frG 4 0 1 Z Z Z)).1) k Z Z Z fun _ h=>G0 24559 [11,12] (h.p [] Z) Z (Ao 4 24575 Z (r_v (qcc qa (qJ (w1:=w) (S1:=fun _=>False) h 1 Z a y A Z) (j:=0) Z Z Z) Z (Ag (h.p [] Z) (Aw 13 32767 (fun w' hw=>qA qa [0,1,3] [.tmp 8,.tmp 12,.tmp 16] Z Z Z Z Z Z Z Z) (h.p [] Z) Z ?_))));replace h:=h.p [2,0,3,4] Z;exact aK KM1 ⟨_,rfl,h⟩ Z
   replace h:=h.p [1,0,2,3] Z;refine nxC h ((qc (h.frG 3 0 1 Z Z Z)).1) o Z Z Z fun _ h=>G0 17382 [7,8] (h.p [] Z) Z ?_;replace h:=h.p [1,0,2,3] Z;exact aK KM7 ⟨_,rfl,h⟩ Z
  refine M0 546 [1,5,9] (h.p [] Z) Z (qhm 0 2 14 Z Z Z (bits 16 547) (bits 16 550) (bits 16 16930) (by kernel_rfl) (by kernel_rfl) (by kernel_rfl)  (by kernel_rfl) ?_ ?_ ?_)
  ·refine qm qa [.const (.string (⟨#[115,108,111,119]⟩:ByteArray)),.const (.string (⟨#[102,97,115,116]⟩:ByteArray)),.const (.string (⟨#[116,121,112]⟩:ByteArray))] _ ([(⟨#[115,108,111,119]⟩:ByteArray),(⟨#[102,97,115,116]⟩:ByteArray),(⟨#[116,121,112]⟩:ByteArray)]:List ByteArray) h Z Z Z Z Z Z Z Z Z ⟨rfl,rfl,rfl,trivial⟩ Z fun _ _ _ h=>Ag (h.p [] Z) (At 2 14 551 16931 Z ?_ ?_)
   ·replace h:=h.p [2,0,1,3] Z;refine nxC h ((qc (h.frG 3 0 1 Z Z Z)).1) S Z Z Z fun _ h=>Ag (h.p [] Z) ?_;have a5:=qbA a;obtain⟨_,o_21,_,_,d,g,-,hr24,_⟩:=(h.sl 1 Z).1.at a;obtain rfl:=hr24;refine Ax 3 559 d g ⟨a5.1,qE a5.2.1 (h.sl 1 Z).2⟩ (h.p [] Z) Z (qhm 4 6 14 Z Z Z (bits 16 575) (bits 16 623) (bits 16 16943) (by kernel_rfl) (by kernel_rfl) (by kernel_rfl)  (by kernel_rfl) ?_ ?_ ?_)
    ·refine r_v (qcc qa (qJ (w1:=w) (S1:=fun _=>False) h 1 Z a d g Z) (j:=0) Z Z Z) Z (Ag (h.p [] Z) (At 6 14 639 16959 Z ?_ ?_))
     ·refine nxC h ((qc (h.frG 3 0 1 Z Z Z)).1) o Z Z Z fun _ h=>G0 1023 [7,8] (h.p [] Z) Z ?_;replace h:=h.p [0,2,3] Z;exact aK KM5 ⟨rfl,h⟩ Z
     refine qi qa h Z Z Z fun _ _ h=>Ag (h.p [] Z) ?_;replace h:=h.p [0,1,3,4] Z;exact aK KM6 ⟨_,rfl,h⟩ Z
    ·refine nxC h ((qc (h.frG 3 0 1 Z Z Z)).1) o Z Z Z fun _ h=>G0 1007 [7,8] (h.p [] Z) Z (qhm 4 10 14 Z Z Z (bits 16 1023) (bits 16 2031) (bits 16 17391) (by kernel_rfl) (by kernel_rfl) (by kernel_rfl)  (by kernel_rfl) ?_ ?_ ?_)
     ·refine r_v (qcc qa (qJ (w1:=w) (S1:=fun _=>False) h 1 Z a d g Z) (j:=0) Z Z Z) Z (Ag (h.p [] Z) ?_);replace h:=h.p [0,2,3] Z;exact aK KM5 ⟨rfl,h⟩ Z
     ·refine nxC h ((qc (h.frG 3 0 1 Z Z Z)).1) k Z Z Z fun _ h=>G0 8175 [11,12] (h.p [] Z) Z (At 4 14 8191 24559 Z ?_ ?_)
      ·refine r_v (qcc qa (qJ (w1:=w) (S1:=fun _=>False) h 1 Z a d g Z) (j:=0) Z Z Z) Z (Ag (h.p [] Z) (Aw 13 16383 (fun w' hw=>qA qa [0,1,3] [.tmp 8,.tmp 12,.tmp 16] Z Z Z Z Z Z Z Z) (h.p [] Z) Z ?_));replace h:=h.p [0,2,3] Z;exact aK KM2 ⟨rfl,h⟩ Z
      refine qi qa h Z Z Z fun _ _ h=>Ag (h.p [] Z) (Ao 4 24575 Z (r_v (qcc qa (qJ (w1:=w) (S1:=fun _=>False) h 2 Z a d g Z) (j:=0) Z Z Z) Z (Ag (h.p [] Z) (Aw 13 32767 (fun w' hw=>qA qa [0,1,3] [.tmp 8,.tmp 12,.tmp 16] Z Z Z Z Z Z Z Z) (h.p [] Z) Z ?_))));replace h:=h.p [0,1,3,4] Z;exact aK KM1 ⟨_,rfl,h⟩ Z
     refine qi qa h Z Z Z fun _ _ h=>Ag (h.p [] Z) (At 4 10 17407 18415 Z ?_ ?_)
     ·refine r_v (qcc qa (qJ (w1:=w) (S1:=fun _=>False) h 2 Z a d g Z) (j:=0) Z Z Z) Z (Ag (h.p [] Z) ?_);replace h:=h.p [0,1,3,4] Z;exact aK KM3 ⟨_,rfl,h⟩ Z
     replace h:=h.p [1,0,2,3,4] Z;refine nxC h ((qc (h.frG 4 0 1 Z Z Z)).1) k Z Z Z fun _ h=>G0 24559 [11,12] (h.p [] Z) Z (Ao 4 24575 Z (r_v (qcc qa (qJ (w1:=w) (S1:=fun _=>False) h 2 Z a d g Z) (j:=0) Z Z Z) Z (Ag (h.p [] Z) (Aw 13 32767 (fun w' hw=>qA qa [0,1,3] [.tmp 8,.tmp 12,.tmp 16] Z Z Z Z Z Z Z Z) (h.p [] Z) Z ?_))));replace h:=h.p [1,0,3,4] Z;exact aK KM1 ⟨_,rfl,h⟩ Z
    refine qi qa h Z Z Z fun _ _ h=>Ag (h.p [] Z) (At 4 6 16959 17007 Z ?_ ?_)
    ·refine r_v (qcc qa (qJ (w1:=w) (S1:=fun _=>False) h 2 Z a d g Z) (j:=0) Z Z Z) Z (Ag (h.p [] Z) ?_);replace h:=h.p [0,1,3,4] Z;exact aK KM6 ⟨_,rfl,h⟩ Z
    replace h:=h.p [1,0,2,3,4] Z;refine nxC h ((qc (h.frG 4 0 1 Z Z Z)).1) o Z Z Z fun _ h=>G0 17391 [7,8] (h.p [] Z) Z (At 4 10 17407 18415 Z ?_ ?_)
    ·refine r_v (qcc qa (qJ (w1:=w) (S1:=fun _=>False) h 2 Z a d g Z) (j:=0) Z Z Z) Z (Ag (h.p [] Z) ?_);replace h:=h.p [1,0,3,4] Z;exact aK KM3 ⟨_,rfl,h⟩ Z
    refine nxC h ((qc (h.frG 4 0 1 Z Z Z)).1) k Z Z Z fun _ h=>G0 24559 [11,12] (h.p [] Z) Z (Ao 4 24575 Z (r_v (qcc qa (qJ (w1:=w) (S1:=fun _=>False) h 2 Z a d g Z) (j:=0) Z Z Z) Z (Ag (h.p [] Z) (Aw 13 32767 (fun w' hw=>qA qa [0,1,3] [.tmp 8,.tmp 12,.tmp 16] Z Z Z Z Z Z Z Z) (h.p [] Z) Z ?_))));replace h:=h.p [1,0,3,4] Z;exact aK KM1 ⟨_,rfl,h⟩ Z
   exact qi qa h Z Z Z fun _ _ h=>Ag (h.p [] Z) (qnx [(0,_),(2,_),(3,_),(4,_),(5,_),(9,_),(13,_)] ⟨rfl,rfl,rfl,rfl,rfl,rfl,rfl,trivial⟩ (KM8 _ _ ⟨_,_,_,rfl,h⟩))
  ·replace h:=h.p [1,0,2] Z;refine nxC h ((qc (h.frG 2 0 1 Z Z Z)).1) S Z Z Z fun _ h=>Ag (h.p [] Z) (qhm 0 6 14 Z Z Z (bits 16 551) (bits 16 614) (bits 16 16934) (by kernel_rfl) (by kernel_rfl) (by kernel_rfl)  (by kernel_rfl) ?_ ?_ ?_)
   ·refine qm qa [.const (.string (⟨#[115,108,111,119]⟩:ByteArray)),.const (.string (⟨#[102,97,115,116]⟩:ByteArray)),.const (.string (⟨#[116,121,112]⟩:ByteArray))] _ ([(⟨#[115,108,111,119]⟩:ByteArray),(⟨#[102,97,115,116]⟩:ByteArray),(⟨#[116,121,112]⟩:ByteArray)]:List ByteArray) h Z Z Z Z Z Z Z Z Z ⟨rfl,rfl,rfl,trivial⟩ Z fun _ _ _ h=>Ag (h.p [] Z) ?_;have a6:=qbA a;obtain⟨_,o_22,_,_,f,i,-,hr25,_⟩:=(h.sl 0 Z).1.at a;obtain rfl:=hr25;refine Ax 3 559 f i ⟨a6.1,qE a6.2.1 (h.sl 0 Z).2⟩ (h.p [] Z) Z (qhm 4 6 14 Z Z Z (bits 16 575) (bits 16 623) (bits 16 16943) (by kernel_rfl) (by kernel_rfl) (by kernel_rfl)  (by kernel_rfl) ?_ ?_ ?_)
    ·refine r_v (qcc qa (qJ (w1:=w) (S1:=fun _=>False) h 0 Z a f i Z) (j:=0) Z Z Z) Z (Ag (h.p [] Z) (At 6 14 639 16959 Z ?_ ?_))
     ·replace h:=h.p [1,0,2,3] Z;refine nxC h ((qc (h.frG 3 0 1 Z Z Z)).1) o Z Z Z fun _ h=>G0 1023 [7,8] (h.p [] Z) Z ?_;replace h:=h.p [0,2,3] Z;exact aK KM5 ⟨rfl,h⟩ Z
     refine qi qa h Z Z Z fun _ _ h=>Ag (h.p [] Z) ?_;replace h:=h.p [0,2,3,4] Z;exact aK KM6 ⟨_,rfl,h⟩ Z
    ·replace h:=h.p [1,0,2,3] Z;refine nxC h ((qc (h.frG 3 0 1 Z Z Z)).1) o Z Z Z fun _ h=>G0 1007 [7,8] (h.p [] Z) Z (qhm 4 10 14 Z Z Z (bits 16 1023) (bits 16 2031) (bits 16 17391) (by kernel_rfl) (by kernel_rfl) (by kernel_rfl)  (by kernel_rfl) ?_ ?_ ?_)
     ·refine r_v (qcc qa (qJ (w1:=w) (S1:=fun _=>False) h 1 Z a f i Z) (j:=0) Z Z Z) Z (Ag (h.p [] Z) ?_);replace h:=h.p [0,2,3] Z;exact aK KM5 ⟨rfl,h⟩ Z
     ·refine nxC h ((qc (h.frG 3 0 1 Z Z Z)).1) k Z Z Z fun _ h=>G0 8175 [11,12] (h.p [] Z) Z (At 4 14 8191 24559 Z ?_ ?_)
      ·refine r_v (qcc qa (qJ (w1:=w) (S1:=fun _=>False) h 1 Z a f i Z) (j:=0) Z Z Z) Z (Ag (h.p [] Z) (Aw 13 16383 (fun w' hw=>qA qa [0,1,3] [.tmp 8,.tmp 12,.tmp 16] Z Z Z Z Z Z Z Z) (h.p [] Z) Z ?_));replace h:=h.p [0,2,3] Z;exact aK KM2 ⟨rfl,h⟩ Z
      refine qi qa h Z Z Z fun _ _ h=>Ag (h.p [] Z) (Ao 4 24575 Z (r_v (qcc qa (qJ (w1:=w) (S1:=fun _=>False) h 2 Z a f i Z) (j:=0) Z Z Z) Z (Ag (h.p [] Z) (Aw 13 32767 (fun w' hw=>qA qa [0,1,3] [.tmp 8,.tmp 12,.tmp 16] Z Z Z Z Z Z Z Z) (h.p [] Z) Z ?_))));replace h:=h.p [0,1,3,4] Z;exact aK KM1 ⟨_,rfl,h⟩ Z
     refine qi qa h Z Z Z fun _ _ h=>Ag (h.p [] Z) (At 4 10 17407 18415 Z ?_ ?_)
     ·refine r_v (qcc qa (qJ (w1:=w) (S1:=fun _=>False) h 2 Z a f i Z) (j:=0) Z Z Z) Z (Ag (h.p [] Z) ?_);replace h:=h.p [0,1,3,4] Z;exact aK KM3 ⟨_,rfl,h⟩ Z
     replace h:=h.p [1,0,2,3,4] Z;refine nxC h ((qc (h.frG 4 0 1 Z Z Z)).1) k Z Z Z fun _ h=>G0 24559 [11,12] (h.p [] Z) Z (Ao 4 24575 Z (r_v (qcc qa (qJ (w1:=w) (S1:=fun _=>False) h 2 Z a f i Z) (j:=0) Z Z Z) Z (Ag (h.p [] Z) (Aw 13 32767 (fun w' hw=>qA qa [0,1,3] [.tmp 8,.tmp 12,.tmp 16] Z Z Z Z Z Z Z Z) (h.p [] Z) Z ?_))));replace h:=h.p [1,0,3,4] Z;exact aK KM1 ⟨_,rfl,h⟩ Z
    refine qi qa h Z Z Z fun _ _ h=>Ag (h.p [] Z) (At 4 6 16959 17007 Z ?_ ?_)
    ·refine r_v (qcc qa (qJ (w1:=w) (S1:=fun _=>False) h 1 Z a f i Z) (j:=0) Z Z Z) Z (Ag (h.p [] Z) ?_);replace h:=h.p [0,2,3,4] Z;exact aK KM6 ⟨_,rfl,h⟩ Z
    replace h:=h.p [2,0,1,3,4] Z;refine nxC h ((qc (h.frG 4 0 1 Z Z Z)).1) o Z Z Z fun _ h=>G0 17391 [7,8] (h.p [] Z) Z (At 4 10 17407 18415 Z ?_ ?_)
    ·refine r_v (qcc qa (qJ (w1:=w) (S1:=fun _=>False) h 2 Z a f i Z) (j:=0) Z Z Z) Z (Ag (h.p [] Z) ?_);replace h:=h.p [1,0,3,4] Z;exact aK KM3 ⟨_,rfl,h⟩ Z
    refine nxC h ((qc (h.frG 4 0 1 Z Z Z)).1) k Z Z Z fun _ h=>G0 24559 [11,12] (h.p [] Z) Z (Ao 4 24575 Z (r_v (qcc qa (qJ (w1:=w) (S1:=fun _=>False) h 2 Z a f i Z) (j:=0) Z Z Z) Z (Ag (h.p [] Z) (Aw 13 32767 (fun w' hw=>qA qa [0,1,3] [.tmp 8,.tmp 12,.tmp 16] Z Z Z Z Z Z Z Z) (h.p [] Z) Z ?_))));replace h:=h.p [1,0,3,4] Z;exact aK KM1 ⟨_,rfl,h⟩ Z
   ·refine nxC h ((qc (h.frG 2 0 1 Z Z Z)).1) o Z Z Z fun _ h=>G0 998 [7,8] (h.p [] Z) Z (qhm 0 10 14 Z Z Z (bits 16 999) (bits 16 2022) (bits 16 17382) (by kernel_rfl) (by kernel_rfl) (by kernel_rfl)  (by kernel_rfl) ?_ ?_ ?_)
    ·refine qm qa [.const (.string (⟨#[115,108,111,119]⟩:ByteArray)),.const (.string (⟨#[102,97,115,116]⟩:ByteArray)),.const (.string (⟨#[116,121,112]⟩:ByteArray))] _ ([(⟨#[115,108,111,119]⟩:ByteArray),(⟨#[102,97,115,116]⟩:ByteArray),(⟨#[116,121,112]⟩:ByteArray)]:List ByteArray) h Z Z Z Z Z Z Z Z Z ⟨rfl,rfl,rfl,trivial⟩ Z fun _ _ _ h=>Ag (h.p [] Z) ?_;have a7:=qbA a;obtain⟨_,o_23,_,_,t,u,-,hr26,_⟩:=(h.sl 0 Z).1.at a;obtain rfl:=hr26;refine Ax 3 1007 t u ⟨a7.1,qE a7.2.1 (h.sl 0 Z).2⟩ (h.p [] Z) Z (qhm 4 10 14 Z Z Z (bits 16 1023) (bits 16 2031) (bits 16 17391) (by kernel_rfl) (by kernel_rfl) (by kernel_rfl)  (by kernel_rfl) ?_ ?_ ?_)
     ·refine r_v (qcc qa (qJ (w1:=w) (S1:=fun _=>False) h 0 Z a t u Z) (j:=0) Z Z Z) Z (Ag (h.p [] Z) ?_);replace h:=h.p [1,2,3] Z;exact aK KM5 ⟨rfl,h⟩ Z
     ·replace h:=h.p [1,0,2,3] Z;refine nxC h ((qc (h.frG 3 0 1 Z Z Z)).1) k Z Z Z fun _ h=>G0 8175 [11,12] (h.p [] Z) Z (At 4 14 8191 24559 Z ?_ ?_)
      ·refine r_v (qcc qa (qJ (w1:=w) (S1:=fun _=>False) h 1 Z a t u Z) (j:=0) Z Z Z) Z (Ag (h.p [] Z) (Aw 13 16383 (fun w' hw=>qA qa [0,1,3] [.tmp 8,.tmp 12,.tmp 16] Z Z Z Z Z Z Z Z) (h.p [] Z) Z ?_));replace h:=h.p [0,2,3] Z;exact aK KM2 ⟨rfl,h⟩ Z
      refine qi qa h Z Z Z fun _ _ h=>Ag (h.p [] Z) (Ao 4 24575 Z (r_v (qcc qa (qJ (w1:=w) (S1:=fun _=>False) h 2 Z a t u Z) (j:=0) Z Z Z) Z (Ag (h.p [] Z) (Aw 13 32767 (fun w' hw=>qA qa [0,1,3] [.tmp 8,.tmp 12,.tmp 16] Z Z Z Z Z Z Z Z) (h.p [] Z) Z ?_))));replace h:=h.p [0,1,3,4] Z;exact aK KM1 ⟨_,rfl,h⟩ Z
     refine qi qa h Z Z Z fun _ _ h=>Ag (h.p [] Z) (At 4 10 17407 18415 Z ?_ ?_)
     ·refine r_v (qcc qa (qJ (w1:=w) (S1:=fun _=>False) h 1 Z a t u Z) (j:=0) Z Z Z) Z (Ag (h.p [] Z) ?_);replace h:=h.p [0,2,3,4] Z;exact aK KM3 ⟨_,rfl,h⟩ Z
     replace h:=h.p [2,0,1,3,4] Z;refine nxC h ((qc (h.frG 4 0 1 Z Z Z)).1) k Z Z Z fun _ h=>G0 24559 [11,12] (h.p [] Z) Z (Ao 4 24575 Z (r_v (qcc qa (qJ (w1:=w) (S1:=fun _=>False) h 2 Z a t u Z) (j:=0) Z Z Z) Z (Ag (h.p [] Z) (Aw 13 32767 (fun w' hw=>qA qa [0,1,3] [.tmp 8,.tmp 12,.tmp 16] Z Z Z Z Z Z Z Z) (h.p [] Z) Z ?_))));replace h:=h.p [1,0,3,4] Z;exact aK KM1 ⟨_,rfl,h⟩ Z
    ·refine nxC h ((qc (h.frG 2 0 1 Z Z Z)).1) k Z Z Z fun _ h=>G0 8166 [11,12] (h.p [] Z) Z (At 0 14 8167 24550 Z ?_ ?_)
     ·refine qm qa [.const (.string (⟨#[115,108,111,119]⟩:ByteArray)),.const (.string (⟨#[102,97,115,116]⟩:ByteArray)),.const (.string (⟨#[116,121,112]⟩:ByteArray))] _ ([(⟨#[115,108,111,119]⟩:ByteArray),(⟨#[102,97,115,116]⟩:ByteArray),(⟨#[116,121,112]⟩:ByteArray)]:List ByteArray) h Z Z Z Z Z Z Z Z Z ⟨rfl,rfl,rfl,trivial⟩ Z fun _ _ _ h=>Ag (h.p [] Z) ?_;have a8:=qbA a;obtain⟨_,o_24,_,_,O,Q,-,hr27,_⟩:=(h.sl 0 Z).1.at a;obtain rfl:=hr27;refine Ax 3 8175 O Q ⟨a8.1,qE a8.2.1 (h.sl 0 Z).2⟩ (h.p [] Z) Z (At 4 14 8191 24559 Z ?_ ?_)
      ·refine r_v (qcc qa (qJ (w1:=w) (S1:=fun _=>False) h 0 Z a O Q Z) (j:=0) Z Z Z) Z (Ag (h.p [] Z) (Aw 13 16383 (fun w' hw=>qA qa [0,1,3] [.tmp 8,.tmp 12,.tmp 16] Z Z Z Z Z Z Z Z) (h.p [] Z) Z ?_));replace h:=h.p [1,2,3] Z;exact aK KM2 ⟨rfl,h⟩ Z
      refine qi qa h Z Z Z fun _ _ h=>Ag (h.p [] Z) (Ao 4 24575 Z (r_v (qcc qa (qJ (w1:=w) (S1:=fun _=>False) h 1 Z a O Q Z) (j:=0) Z Z Z) Z (Ag (h.p [] Z) (Aw 13 32767 (fun w' hw=>qA qa [0,1,3] [.tmp 8,.tmp 12,.tmp 16] Z Z Z Z Z Z Z Z) (h.p [] Z) Z ?_))));replace h:=h.p [0,2,3,4] Z;exact aK KM1 ⟨_,rfl,h⟩ Z
     exact qi qa h Z Z Z fun _ _ h=>Ag (h.p [] Z) (qnx [(0,_),(2,_),(3,_),(6,_),(12,_),(16,_)] ⟨rfl,rfl,rfl,rfl,rfl,rfl,trivial⟩ (KM4 _ _ ⟨_,rfl,h⟩))
    exact qi qa h Z Z Z fun _ _ h=>Ag (h.p [] Z) (qnx [(0,_),(2,_),(3,_),(6,_),(12,_),(13,_)] ⟨rfl,rfl,rfl,rfl,rfl,rfl,trivial⟩ (KM7 _ _ ⟨_,rfl,h⟩))
   exact qi qa h Z Z Z fun _ _ h=>Ag (h.p [] Z) (qnx [(0,_),(2,_),(3,_),(6,_),(9,_),(13,_)] ⟨rfl,rfl,rfl,rfl,rfl,rfl,trivial⟩ (KM9 _ _ ⟨_,rfl,h⟩))
  refine qi qa h Z Z Z fun _ _ h=>Ag (h.p [] Z) (At 0 2 16931 16934 Z ?_ ?_)
  ·refine qm qa [.const (.string (⟨#[115,108,111,119]⟩:ByteArray)),.const (.string (⟨#[102,97,115,116]⟩:ByteArray)),.const (.string (⟨#[116,121,112]⟩:ByteArray))] _ ([(⟨#[115,108,111,119]⟩:ByteArray),(⟨#[102,97,115,116]⟩:ByteArray),(⟨#[116,121,112]⟩:ByteArray)]:List ByteArray) h Z Z Z Z Z Z Z Z Z ⟨rfl,rfl,rfl,trivial⟩ Z fun _ _ _ h=>Ag (h.p [] Z) ?_;replace h:=h.p [1,0,2,3,4] Z;exact aK KM8 ⟨_,_,_,rfl,h⟩ Z
  replace h:=h.p [2,0,1,3] Z;refine nxC h ((qc (h.frG 3 0 1 Z Z Z)).1) S Z Z Z fun _ h=>Ag (h.p [] Z) ?_;replace h:=h.p [1,0,2,3] Z;exact aK KM9 ⟨_,rfl,h⟩ Z
 rintro _ _ ⟨C,rfl,h⟩;refine qcq (rA [7] [0] h Z fun _ h=>M1 7 [0,1,2] 0 (h.p [0] Z) Z (Ao 3 15 Z ?_));replace h:=h.p [1,0,2,3] Z;obtain⟨⟨T,_,_⟩,hr28,hF⟩:=qd hF;refine nxC h ((qc (h.frG 3 0 1 Z Z Z)).1) hr28 Z Z Z fun _ h=>G0 127 [4,5,6] (h.p [1] Z) Z (Ao 7 255 Z (zs 1 h Z fun _ h=>qbc (fun hs=>absurd (hs 7 (by decide)) (by decide)) (Ad (qcq (rA [7] [1] h Z fun _ h=>M1 7 [0,1,2] 0 (h.p [1] Z) Z (Ao 3 15 Z ?_))))));obtain⟨⟨W,_,_⟩,hr29,hF⟩:=qd hF;refine nxC h ((qc (h.frG 3 0 1 Z Z Z)).1) hr29 Z Z Z fun _ h=>G0 127 [4,5,6] (h.p [1] Z) Z (Ao 7 255 Z (zs 1 h Z fun _ h=>qbc (fun hs=>absurd (hs 7 (by decide)) (by decide)) (Ad (X0 4 Z ?_))));obtain⟨⟨_,_,_⟩,hr30,hF⟩:=qd hF;refine nxC h ((qc (h.frG 3 0 1 Z Z Z)).1) hr30 Z Z Z fun _ h=>X0 7 Z (qk Z hF ?_ ?_)<;>intro hF
 ·refine X1 5 1 h Z (zs 1 h Z fun _ h=>X1 5 1 h Z (zs 2 h Z fun _ h=>qa7 ?_));have hk1:=h;obtain rfl:=qb hF;replace h:=h.p [0,3] Z;exact qaN qa [oV qy [.string R,vi (W64 (800+(W64 (10*v)))),vi (W64 ((W64 (800+(W64 (10*v))))-1)),vi (W64 (900+(W64 (10*B)))),vi (W64 ((W64 (900+(W64 (10*B))))+(W64 (9*W))))]] ⟨⟨_,_,_,rfl,rfl,hk1.box 2 Z,rfl⟩,trivial⟩ ⟨rfl,SH.unfr 1 1 h0 h Z Z⟩
 refine X0 5 Z (qk Z hF ?_ ?_)<;>intro hF
 ·refine qkm (qm qa [.const (vi (99)),.const (vi (100)),.const (vi (-1))] _ ([99,100,(-1)]:List Int) h Z Z Z Z Z Z Z Z Z ⟨rfl,rfl,rfl,trivial⟩ Z fun _ _ _ h=>zp1 Z ?_);replace h:=h.p [1,0,2,3,4] Z;obtain⟨⟨_,_,_⟩,hr31,hF⟩:=qd hF;refine nxC h ((qc (h.frG 4 0 1 Z Z Z)).1) hr31 Z Z Z fun _ h=>?_;obtain⟨y2,_,hF,a9,_,_,_,_,hp25,hq25,rfl,hc27⟩:=(h.sl 1 Z).1.ix hF;refine zx hp25 hq25 ⟨a9.1,qE a9.2.1 (h.sl 1 Z).2⟩ Z (zc 0 hc27 Z (zp1 Z (zs 2 h Z fun _ h=>X1 5 2 h Z (zs 3 h Z fun _ h=>qa7 ?_))));have hk2:=h;obtain rfl:=qb hF;replace h:=h.p [0,4] Z;exact qaN qa [oV qy [.string R,vi (W64 (800+(W64 (10*v)))),vi (W64 ((W64 (800+(W64 (10*v))))+(W64 (7*T)))),vi y2,vi (W64 ((W64 (900+(W64 (10*B))))+(W64 (9*W))))]] ⟨⟨_,_,_,rfl,rfl,hk2.box 3 Z,rfl⟩,trivial⟩ ⟨rfl,SH.unfr 1 1 h0 h Z Z⟩
 refine X0 5 Z (qk Z hF ?_ ?_)<;>intro hF
 ·refine X0 2 Z ?_;obtain⟨⟨i22,_,_⟩,hr33,hF⟩:=qd hF;refine nxC h ((qc (h.frG 3 0 1 Z Z Z)).1) hr33 Z Z Z fun _ h=>zp2 Z (zs 1 h Z fun _ h=>X1 5 1 h Z (zs 2 h Z fun _ h=>qa7 ?_));have hk3:=h;obtain rfl:=qb hF;replace h:=h.p [0,3] Z;exact qaN qa [oV qy [.string R,vi (W64 (800+(W64 (10*v)))),vi (W64 ((W64 (800+(W64 (10*v))))+(W64 (7*T)))),vi (W64 (900+(W64 (10*B)))),vi (W64 (5000+i22))]] ⟨⟨_,_,_,rfl,rfl,hk3.box 2 Z,rfl⟩,trivial⟩ ⟨rfl,SH.unfr 1 1 h0 h Z Z⟩
 refine X0 5 Z (qk Z hF ?_ ?_)<;>intro hF
 ·refine X0 2 Z (zs 1 h Z fun _ h=>X1 5 1 h Z (zs 2 h Z fun _ h=>qa7 ?_));have hk4:=h;obtain rfl:=qb hF;replace h:=h.p [0,3] Z;exact qaN qa [oV qy [.string (⟨#[]⟩:ByteArray),vi (W64 (800+(W64 (10*v)))),vi (W64 ((W64 (800+(W64 (10*v))))+(W64 (7*T)))),vi (W64 (900+(W64 (10*B)))),vi (W64 ((W64 (900+(W64 (10*B))))+(W64 (9*W))))]] ⟨⟨_,_,_,rfl,rfl,hk4.box 2 Z,rfl⟩,trivial⟩ ⟨rfl,SH.unfr 1 1 h0 h Z Z⟩
 refine X1 5 1 h Z (zs 2 h Z fun _ h=>qa7 ?_);have hk5:=h;obtain rfl:=qb hF;replace h:=h.p [0,3] Z;exact qaN qa [oV qy [.string R,vi (W64 (800+(W64 (10*v)))),vi (W64 ((W64 (800+(W64 (10*v))))+(W64 (7*T)))),vi (W64 (900+(W64 (10*B)))),vi (W64 ((W64 (900+(W64 (10*B))))+(W64 (9*W))))]] ⟨⟨_,_,_,rfl,rfl,hk5.box 2 Z,rfl⟩,trivial⟩ ⟨rfl,SH.unfr 1 1 h0 h Z Z⟩
def qdM (links:(List qr))(live:(List Bool))(m:Bool):Nat→(List Bool)→Bool→Int→Option ((List Bool)×Bool×Int)| 0,_,_,_=>U| n+1,b,b3,a =>bif decide (a<(links.length:Int)) then(idx links a).bind fun d =>(idx links a).bind fun f =>(bif (!m) then V (f.To,d.Bk) else V (d.Bk,f.To)).bind fun o=>match o with| (h,c) =>((idx live a).bind fun i =>bif i then(idx b h).bind fun k =>bif k then(idx b c).bind fun l =>V (!l) else V false else V false).bind fun g =>bif g then(idx b c).bind fun _ =>qdM links live m n (setS b c true) true (W64 (a+1)) else qdM links live m n b b3 (W64 (a+1)) else V (b,b3,a)
def qeS (links:(List qr))(live:(List Bool))(c:Bool):Nat→(List Bool)→Bool→Option ((List Bool)×Bool)| 0,_,_=>U| n+1,a,b2 =>bif b2 then(qdM links live c n a false 0).bind fun o=>match o with| (b,b3,_) =>qeS links live c n b b3 else V (a,b2)
def qhW (n:Nat)(d:Int)(links:(List qr))(live:(List Bool))(node:Int)(c:Bool):Option (List Bool) :=(mkS d (false:Bool)).bind fun a =>(idx a node).bind fun _ =>(qeS links live c n (setS a node true) true).bind fun o=>match o with| (b,_) =>V b
theorem qle {a_n}{links:(List qr)}{live:(List Bool)}{node forward}(N:Ro w links cs1)(O:Ro w live cs2){r:(List Bool)}(F:qhW n a_n links live node forward=V r):RetV prog 260 [vi a_n,oV (List qr) cs1,oV (List Bool) cs2,vi node,.bool forward] w r:=by
 obtain⟨p1,C,rfl,s1⟩:=N;obtain⟨H,D,rfl,s2⟩:=O;refine zV 63 func260 Z fun h=>X0 7 Z ?_;obtain⟨a,d,F⟩:=qd F;obtain⟨g1,g2,d⟩:=qar d;refine qaM qa Bool h Z Z Z Z Z Z Z Z Z g1 g2 d Z fun _ S1 b h=>X0 6 Z ?_;obtain⟨_,c2,F,l,_,_,_,_,u,x,rfl,P⟩:=(h.sl 0 Z).1.ix F;refine zx u x ⟨l.1,qE l.2.1 (h.sl 0 Z).2⟩ Z (qaU qa 0 0 true h Z c2 u x Z P Z Z Z Z Z Z Z fun _ h=>X0 6 Z ?_);obtain⟨o1,F,L⟩:=qd F;refine qn (rL (fun m e w'=>∃ x2 b2,qeS links live forward m x2 b2=V o1∧e=[(1,oS p1 links.length C),(2,oS H live.length D),(4,.bool forward),(11,oS b a.length a.length),(12,.bool b2)]∧SH w w' [oW S1 (x2:List Bool) [oS b a.length a.length]]) n ⟨_,_,F,rfl,h⟩ Z ?_);rintro m1 _ _ ⟨x2,b2,F,rfl,h⟩;rcases m1 with _|m1
 ·cases F
 refine X0 5 Z (qk Z F ?_ ?_)<;>intro F
 ·refine X0 10 Z ?_;obtain⟨o2,F,M⟩:=qd F;refine qn (rL (fun m e w'=>∃ A b3 z,qdM links live forward m A b3 z=V o2∧e=[(1,oS p1 links.length C),(2,oS H live.length D),(4,.bool forward),(11,oS b a.length a.length),(12,.bool b3),(13,vi z)]∧SH w w' [oW S1 (A:List Bool) [oS b a.length a.length]]) m1 ⟨_,_,_,F,rfl,h⟩ Z ?_);rintro m2 _ _ ⟨A,b3,z,F,rfl,h⟩;rcases m2 with _|m2
  ·cases F
  refine X0 8 Z (qk Z F ?_ ?_)<;>intro F
  ·refine X0 4 Z (rD (zd2 Z ?_));obtain⟨_,_,F,X,_,_,_,_,a4,a9,b9,Q⟩:=s1.ix F;obtain rfl:=qab b9;refine zdxe a4 a9 X Z (zd1 Z (zdc 0 (Q.below h.below) Z (zd2 Z ?_)));obtain⟨_,_,F,Y,_,_,_,_,a5,b4,c0,R⟩:=s1.ix F;obtain rfl:=qab c0;refine zdxe a5 b4 Y Z (zd1 Z (zdc 1 (R.below h.below) Z (zd2 Z (dN h fun _ h=>X0 6 Z ?_))));obtain⟨J,i,_,F,f⟩:=bindE F;refine qaA (fun e w'=>∃ i2 B,J (i2,B)=V o2∧e=[(1,oS p1 links.length C),(2,oS H live.length D),(4,.bool forward),(11,oS b a.length a.length),(12,.bool b3),(13,vi z),(14,vi i2),(15,vi B)]∧SH w w' [oW S1 (A:List Bool) [oS b a.length a.length]]) ?_ ?_
   ·refine qk Z F ?_ ?_<;>intro F
    ·refine X0 6 Z ?_;obtain rfl:=qb F;exact rG ⟨_,_,f,rfl,h⟩ Z
    refine qf2 ?_;obtain rfl:=qb F;exact rG ⟨_,_,f,rfl,h⟩ Z
   rintro _ _ ⟨i2,B,F,rfl,h⟩;subst i;refine qcq ?_;obtain⟨I,g,_,F,c⟩:=bindE F;refine qaA (fun e w'=>∃ K,I K=V o2∧e=[(1,oS p1 links.length C),(2,oS H live.length D),(4,.bool forward),(11,oS b a.length a.length),(12,.bool b3),(13,vi z),(15,vi B),(58,.bool K)]∧SH w w' [oW S1 (A:List Bool) [oS b a.length a.length]]) ?_ ?_
   ·refine X0 3 Z ?_;obtain⟨_,_,F,a3,_,_,_,_,a6,b5,rfl,T⟩:=s2.ix F;refine zxe a6 b5 a3 Z (zc 0 (T.below h.below) Z (zp1 Z (qg (t:=46) F Z ?_ ?_)))<;>intro F
    ·refine X0 5 Z ?_;obtain⟨_,_,F,p,_,_,_,_,a7,b7,rfl,W⟩:=(h.sl 0 Z).1.ix F;refine zx a7 b7 ⟨p.1,qE p.2.1 (h.sl 0 Z).2⟩ Z (X0 1 Z (zc 0 W Z (zp2 Z (qg (t:=52) F Z ?_ ?_))))<;>intro F
     ·refine X0 5 Z ?_;obtain⟨_,_,F,s,_,_,_,_,a8,b8,rfl,k⟩:=(h.sl 0 Z).1.ix F;refine zx a8 b8 ⟨s.1,qE s.2.1 (h.sl 0 Z).2⟩ Z (X0 1 Z (zc 0 k Z (X0 4 Z ?_)));obtain rfl:=qb F;exact rG ⟨_,c,rfl,h⟩ Z
     refine X0 7 Z ?_;obtain rfl:=qb F;exact rG ⟨_,c,rfl,h⟩ Z
    refine X0 13 Z ?_;obtain rfl:=qb F;exact rG ⟨_,c,rfl,h⟩ Z
   rintro _ _ ⟨K,F,rfl,h⟩;subst g;refine qk Z F ?_ ?_<;>intro F
   ·refine X0 4 Z ?_;obtain⟨_,c3,F,o,_,_,_,_,v,y,rfl,S⟩:=(h.sl 0 Z).1.ix F;exact zx v y ⟨o.1,qE o.2.1 (h.sl 0 Z).2⟩ Z (qaU qa 0 0 true h Z c3 v y Z S Z Z Z Z Z Z Z fun _ h=>X0 10 Z (rK ⟨_,_,_,F,rfl,h⟩ Z))
   exact X0 7 Z (rK ⟨_,_,_,F,rfl,h⟩ Z)
  refine qv Z ?_;obtain rfl:=qb F;replace F:=M;exact qvm (rK ⟨_,_,F,rfl,h⟩ Z)
 refine qv Z ?_;obtain rfl:=qb F;replace F:=L;refine X0 5 Z ?_;obtain rfl:=qb F;exact rO 0 h Z ⟨rfl,trivial⟩
def qdi (links:(List qr))(live:(List Bool))(v:Int):Nat→Int→Option (Flow Bool Int)| 0,_=>U| n+1,a =>bif decide (a<(links.length:Int)) then(idx live a).bind fun b =>bif b then(idx links a).bind fun c =>bif (c.Bk==v) then(idx links a).bind fun d =>bif (d.To==v) then V (.ret true) else qdi links live v n (W64 (a+1)) else qdi links live v n (W64 (a+1)) else qdi links live v n (W64 (a+1)) else V (.nxt a)
def qjS (n:Nat)(links:(List qr))(live:(List Bool))(v:Int):Option Bool :=(qdi links live v n 0).bind fun o=>match o with| .ret r=>V r| .nxt _ =>V false
theorem qpi {links:(List qr)}{live:(List Bool)}{v}(b:Ro w links cs1)(c:Ro w live cs2){r:Bool}(F:qjS n links live v=V r):RetV prog 261 [oV (List qr) cs1,oV (List Bool) cs2,vi v] w r:=by
 obtain⟨p1,D,rfl,s1⟩:=b;obtain⟨I,H,rfl,s2⟩:=c;refine zV 36 func261 Z fun h=>X0 9 Z ?_;obtain⟨o1,F,a⟩:=qd F;refine qn (rL (fun m e w'=>∃ B,qdi links live v m B=V o1∧e=[(0,oS p1 links.length D),(1,oS I live.length H),(2,vi v),(7,vi B)]∧SH w w' []) n ⟨_,F,rfl,h⟩ Z ?_);rintro C _ _ ⟨B,F,rfl,h⟩;rcases C with _|C
 ·cases F
 refine X0 8 Z (qk Z F ?_ ?_)<;>intro F
 ·refine X0 7 Z ?_;obtain⟨_,_,F,i,_,_,_,_,o,u,rfl,d⟩:=s2.ix F;refine zxe o u i Z (zc 0 (d.below h.below) Z (zp1 Z (qg (t:=18) F Z ?_ ?_)))<;>intro F
  ·refine X0 5 Z ?_;obtain⟨_,_,F,k,_,_,_,_,p,x,z,f⟩:=s1.ix F;obtain rfl:=qab z;refine zxe p x k Z (X0 3 Z (zc 0 (f.below h.below) Z (X0 6 Z (qg (t:=27) F Z ?_ ?_))))<;>intro F
   ·refine X0 5 Z ?_;obtain⟨_,_,F,l,_,_,_,_,s,y,A,g⟩:=s1.ix F;obtain rfl:=qab A;refine zxe s y l Z (X0 3 Z (zc 1 (g.below h.below) Z (X0 6 Z (qk Z F ?_ ?_))))<;>intro F
    ·refine X0 4 Z ?_;obtain rfl:=qb F;replace F:=a;exact rb h F Z
    exact X0 7 Z (rK ⟨_,F,rfl,h⟩ Z)
   exact X0 9 Z (qbm Z Z (X0 7 Z (rK ⟨_,F,rfl,h⟩ Z)))
  exact X0 18 Z (qbm Z Z (X0 7 Z (rK ⟨_,F,rfl,h⟩ Z)))
 refine qv Z ?_;obtain rfl:=qb F;replace F:=a;exact X0 4 Z (rb h F Z)
def qdB (a_0:Int)(r1:(List Bool))(c:(List Bool)):Nat→(List Int)→(List Bool)→Int→Option ((List Int)×(List Bool)×Int)| 0,_,_,_=>U| n+1,d,b,a =>bif decide (a<a_0) then((idx r1 a).bind fun g =>bif g then(idx c a).bind fun h =>V h else V false).bind fun b2 =>bif b2 then(appS d ([a]:List Int)).bind fun f =>(idx b a).bind fun _ =>qdB a_0 r1 c n f (setS b a true) (W64 (a+1)) else qdB a_0 r1 c n d b (W64 (a+1)) else V (d,b,a)
def qcM (a_0:Int)(a_1:(List qr))(a_2:(List Bool)):Nat→(List Bool)→(List (List Int))→Int→Option ((List Bool)×(List (List Int))×Int)| 0,_,_,_=>U| n+1,b,c,a =>bif decide (a<a_0) then(idx b a).bind fun l =>bif l then qcM a_0 a_1 a_2 n b c (W64 (a+1)) else(qhW n a_0 a_1 a_2 a true).bind fun r1 =>(qhW n a_0 a_1 a_2 a false).bind fun h =>(qdB a_0 r1 h n ([]:List Int) b 0).bind fun o=>match o with| (d,f,_) =>(bif decide ((d.length:Int) > 1) then V true else(qjS n a_1 a_2 a).bind fun i =>V i).bind fun g =>bif g then(appS c ([d]:List (List Int))).bind fun k =>qcM a_0 a_1 a_2 n f k (W64 (a+1)) else qcM a_0 a_1 a_2 n f c (W64 (a+1)) else V (b,c,a)
def qjn (n:Nat)(a_0:Int)(a_1:(List qr))(a_2:(List Bool)):Option (List (List Int)) :=(mkS a_0 (false:Bool)).bind fun a =>(qcM a_0 a_1 a_2 n a ([]:List (List Int)) 0).bind fun o=>match o with| (_,b,_) =>V b
theorem qor {a_0}{a_1:(List qr)}{a_2:(List Bool)}(ha1:Ro w a_1 cs1)(ha2:Ro w a_2 cs2){r:(List (List Int))}(F:qjn n a_0 a_1 a_2=V r):RetV prog 216 [vi a_0,oV (List qr) cs1,oV (List Bool) cs2] w r:=by
 obtain⟨p1,P,rfl,s1⟩:=ha1;obtain⟨T,Q,rfl,s2⟩:=ha2;refine zV 73 func216 Z fun h=>X0 6 Z (qeH qa [] _ ([]:List (List Int)) [] h Z Z Z Z Z Z Z Z Z qhB Z Z fun _ _ _ h=>X0 5 Z ?_);obtain⟨a,i,F⟩:=qd F;obtain⟨g1,g2,i⟩:=qar i;refine qaM qa Bool h Z Z Z Z Z Z Z Z Z g1 g2 i Z fun _ S2 g h=>X0 7 Z ?_;obtain⟨o1,F,hK1⟩:=qd F;refine qn (rL (fun m e w'=>∃(x2:(List Bool)) (y:Nat→Prop) (f:Option Addr) (p:Nat) (d:Nat) (b:(List (List Int))) (x:Int),qcM a_0 a_1 a_2 m x2 b x=V o1∧e=[(0,vi a_0),(1,oS p1 a_1.length P),(2,oS T a_2.length Q),(7,oS f p d),(8,oS g a.length a.length),(9,vi x)]∧SH w w' [oW S2 (x2:List Bool) [oS g a.length a.length],oW y (b:List (List Int)) [oS f p d]]) n ⟨_,_,_,_,_,_,_,F,rfl,h⟩ Z ?_);rintro m1 _ _ ⟨x2,y,f,p,d,b,x,F,rfl,h⟩;obtain rfl:=(h.sl 1 Z).2;rcases m1 with _|m1
 ·cases F
 refine X0 7 Z (qk Z F ?_ ?_)<;>intro F
 ·refine X0 8 Z ?_;obtain⟨_,_,F,D,_,_,_,_,hp1,hq1,rfl,hc2⟩:=(h.sl 0 Z).1.ix F;refine zx hp1 hq1 ⟨D.1,qE D.2.1 (h.sl 0 Z).2⟩ Z (zc 0 hc2 Z (qa7 (qk Z F ?_ ?_)))<;>intro F
  ·exact qv Z (X0 5 Z (rK ⟨_,_,_,_,_,_,_,F,rfl,h⟩ Z))
  refine X0 7 Z (zcL h F (qle ⟨_,_,rfl,(h.oldS s1)⟩ ⟨_,_,rfl,(h.oldS s2)⟩) Z fun r1 _ S4 W R h F=>zp4 Z (zcL h F (qle ⟨_,_,rfl,(h.oldS s1)⟩ ⟨_,_,rfl,(h.oldS s2)⟩) Z fun v _ S5 X S h F=>X0 5 Z (qm qa [] _ ([]:List Int) h Z Z Z Z Z Z Z Z Z trivial Z fun _ _ _ h=>X0 7 Z ?_)));obtain⟨o2,F,hK2⟩:=qd F;refine qn (rL (fun m e w'=>∃ O u s o c N M,qdB a_0 r1 v m c N M=V o2∧e=[(0,vi a_0),(1,oS p1 a_1.length P),(2,oS T a_2.length Q),(7,oS f b.length d),(8,oS g a.length a.length),(9,vi x),(10,oS W r1.length R),(11,oS X v.length S),(12,oS u s o),(13,vi M)]∧SH w w' [oW O (c:List Int) [oS u s o],oW S5 (v:List Bool) [oS X v.length S],oW S4 (r1:List Bool) [oS W r1.length R],oW S2 (N:List Bool) [oS g a.length a.length],oW y (b:List (List Int)) [oS f b.length d]]) m1 ⟨_,_,_,_,_,_,_,F,rfl,h⟩ Z ?_);rintro m2 _ _ ⟨O,u,s,o,c,N,M,F,rfl,h⟩;obtain rfl:=(h.sl 0 Z).2;rcases m2 with _|m2
  ·cases F
  refine X0 7 Z (qk Z F ?_ ?_)<;>intro F
  ·refine X0 4 Z ?_;obtain⟨Y,B,_,F,z⟩:=bindE F;refine qaA (fun e w'=>∃ b2,Y b2=V o2∧e=[(0,vi a_0),(1,oS p1 a_1.length P),(2,oS T a_2.length Q),(7,oS f b.length d),(8,oS g a.length a.length),(9,vi x),(10,oS W r1.length R),(11,oS X v.length S),(12,oS u c.length o),(13,vi M),(51,.bool b2)]∧SH w w' [oW O (c:List Int) [oS u c.length o],oW S5 (v:List Bool) [oS X v.length S],oW S4 (r1:List Bool) [oS W r1.length R],oW S2 (N:List Bool) [oS g a.length a.length],oW y (b:List (List Int)) [oS f b.length d]]) ?_ ?_
   ·refine X0 3 Z ?_;obtain⟨_,_,F,I,_,_,_,_,hp3,hq3,rfl,hc7⟩:=(h.sl 2 Z).1.ix F;refine zx hp3 hq3 ⟨I.1,qE I.2.1 (h.sl 2 Z).2⟩ Z (zc 0 hc7 Z (zp1 Z (qg (t:=46) F Z ?_ ?_)))<;>intro F
    ·refine X0 5 Z ?_;obtain⟨_,_,F,J,_,_,_,_,hp4,hq4,rfl,hc8⟩:=(h.sl 1 Z).1.ix F;refine zx hp4 hq4 ⟨J.1,qE J.2.1 (h.sl 1 Z).2⟩ Z (X0 1 Z (zc 0 hc8 Z (X0 2 Z ?_)));obtain rfl:=qb F;exact rG ⟨_,z,rfl,h⟩ Z
    refine X0 6 Z ?_;obtain rfl:=qb F;exact rG ⟨_,z,rfl,h⟩ Z
   rintro _ _ ⟨b2,F,rfl,h⟩;subst B;refine qk Z F ?_ ?_<;>intro F
   ·refine X0 4 Z (qm qa [.tmp 53] _ ([M]:List Int) h Z Z Z Z Z Z Z Z Z ⟨rfl,trivial⟩ Z fun _ _ _ h=>?_);obtain⟨_,k,F⟩:=qd F;obtain⟨g3,k⟩:=qC k;refine qaz qa 1 h Z (h.sl 0 Z).1 (h.sl 0 Z).2 Z Z Z Z Z Z Z Z Z g3 k Z fun _ _ _ _ h=>X0 5 Z ?_;obtain⟨_,hy2,F,H,_,_,_,_,K,L,rfl,hc6⟩:=(h.sl 4 Z).1.ix F;refine zx K L ⟨H.1,qE H.2.1 (h.sl 4 Z).2⟩ Z (qaU qa 4 0 true h Z hy2 K L Z hc6 Z Z Z Z Z Z Z fun _ h=>X0 7 Z ?_);replace h:=h.p [1,2,3,4,5] Z;exact rK ⟨_,_,_,_,_,_,_,F,rfl,h⟩ Z
   exact X0 7 Z (rK ⟨_,_,_,_,_,_,_,F,rfl,h⟩ Z)
  refine qv Z ?_;obtain rfl:=qb F;replace F:=hK2;refine qcq ?_;obtain⟨a3,C,_,F,A⟩:=bindE F;refine qaA (fun e w'=>∃ b6,a3 b6=V o1∧e=[(0,vi a_0),(1,oS p1 a_1.length P),(2,oS T a_2.length Q),(7,oS f b.length d),(8,oS g a.length a.length),(9,vi x),(12,oS u c.length o),(67,.bool b6)]∧SH w w' [oW O (c:List Int) [oS u c.length o],oW S2 (N:List Bool) [oS g a.length a.length],oW y (b:List (List Int)) [oS f b.length d]]) ?_ ?_
  ·refine X0 5 Z (qg (t:=62) F Z ?_ ?_)<;>intro F
   ·refine X0 6 Z ?_;replace h:=h.p [0,3,4] Z;obtain rfl:=qb F;exact rG ⟨_,A,rfl,h⟩ Z
   refine X0 7 Z (zcB h F (qpi ⟨_,_,rfl,(h.oldS s1)⟩ ⟨_,_,rfl,(h.oldS s2)⟩) Z fun _ _ h F=>X0 2 Z ?_);replace h:=h.p [0,3,4] Z;obtain rfl:=qb F;exact rG ⟨_,A,rfl,h⟩ Z
  rintro _ _ ⟨b6,F,rfl,h⟩;subst C;refine qk Z F ?_ ?_<;>intro F
  ·refine X0 3 Z (qeH qa [.tmp 69] _ ([c]:List (List Int)) [1,2] h Z Z Z Z Z Z Z Z Z (qc1 (qK 0 h Z) qhB Z) Z Z fun _ _ _ h=>?_);obtain⟨_,l,F⟩:=qd F;obtain⟨g4,l⟩:=qC l;replace h:=h.p [0,2,1] Z;refine qm2 qa h Z Z Z Z Z Z Z Z Z g4 l Z fun _ _ _ _ h=>X0 8 Z ?_;replace h:=h.p [1,0] Z;exact rK ⟨_,_,_,_,_,_,_,F,rfl,h⟩ Z
  refine X0 7 Z ?_;replace h:=h.p [1,2] Z;exact rK ⟨_,_,_,_,_,_,_,F,rfl,h⟩ Z
 refine qv Z ?_;obtain rfl:=qb F;replace F:=hK1;refine X0 5 Z ?_;obtain rfl:=qb F;exact rO 1 h Z ⟨rfl,trivial⟩
def qdx (b:(List Bool))(c:(List Bool)):Nat→(List Int)→Int→Option ((List Int)×Int)| 0,_,_=>U| n+1,d,a =>bif decide (a<(b.length:Int)) then(idx c a).bind fun g =>bif (!g) then(appS d ([a]:List Int)).bind fun f =>qdx b c n f (W64 (a+1)) else qdx b c n d (W64 (a+1)) else V (d,a)
def qbE (r1:(List qr))(c:(List Bool))(b:(List (List Int))):Nat→Int→Int→Option (Int×Int)| 0,_,_=>U| n+1,d,a =>bif decide (a<(r1.length:Int)) then(idx c a).bind fun h =>bif h then(idx r1 a).bind fun i =>bif (i.Bf==1) then(idx b 0).bind fun k =>(idx r1 a).bind fun l =>(qin n k l.Bk).bind fun f =>bif f then(idx b 0).bind fun m =>(idx r1 a).bind fun o =>(qin n m o.To).bind fun g =>bif g then qbE r1 c b n a (W64 (a+1)) else qbE r1 c b n d (W64 (a+1)) else qbE r1 c b n d (W64 (a+1)) else qbE r1 c b n d (W64 (a+1)) else qbE r1 c b n d (W64 (a+1)) else V (d,a)
def qgk (r1:(List qr))(c:Int):Nat→(List Bool)→Option (List Bool)| 0,_=>U| n+1,a =>(qjn n c r1 a).bind fun d =>bif ((d.length:Int)==0) then V a else(qbE r1 a d n (-1) 0).bind fun o=>match o with| (b,_) =>(idx a b).bind fun _ =>qgk r1 c n (setS a b false)
def qjl (n:Nat)(a_0:qe):Option (List Int) :=(qdS n a_0).bind fun r1 =>(qgo n r1 ([]:List Int)).bind fun a =>(qcv n a_0).bind fun b =>(qgk r1 b n a).bind fun c =>(qdx a c n ([]:List Int) 0).bind fun o=>match o with| (d,_) =>V d
theorem qoR {a_0:qe}(b:Ro w a_0 cs1){r:(List Int)}(F:qjl n a_0=V r):RetV prog 155 [oV qe cs1] w r:=by
 obtain⟨_,_,_,_,_,_,_,_,_,_,rfl,_,_,_,_,_⟩:=qP b;refine zV 86 func155 Z fun h=>zSR (qB h Z Z fun _ _ h=>X1 5 0 h Z (zcL h F (qdO (h.old b)) Z fun r1 _ S1 R Q h F=>X0 5 Z (qm qa [] _ ([]:List Int) h Z Z Z Z Z Z Z Z Z trivial Z fun _ _ _ h=>zcL h F (qfq (h.own 1 Z) (h.own 0 Z)) Z fun g _ T l k h F=>X1 5 3 h Z (zcI h F (qeR (h.old b)) Z fun r3 _ h F=>X0 3 Z ?_))));obtain⟨o1,F,W⟩:=qd F;refine qn ?_;replace h:=h.p [0,2] Z;refine rL (fun m e w'=>∃ i,qgk r1 r3 m i=V o1∧e=[(3,oS R r1.length Q),(4,oS l g.length k),(5,vi r3)]∧SH w w' [oW T (i:List Bool) [oS l g.length k],oW S1 (r1:List qr) [oS R r1.length Q]]) n ⟨_,F,rfl,h⟩ Z ?_;rintro m1 _ _ ⟨i,F,rfl,h⟩;rcases m1 with _|m1
 ·cases F
 refine X0 6 Z (zcL h F (qor (h.own 1 Z) (h.own 0 Z)) Z fun S _ S4 p9 k8 h F=>X0 9 Z (qk Z F ?_ ?_))<;>intro F
 ·refine qv Z ?_;obtain rfl:=qb F;replace F:=W;refine zSR (qm qa [] _ ([]:List Int) h Z Z Z Z Z Z Z Z Z trivial Z fun _ _ _ h=>X0 7 Z ?_);obtain⟨o2,F,X⟩:=qd F;refine qn ?_;replace h:=h.p [0,2] Z;refine rL (fun m e w'=>∃ S6 f d k9 x2 P,qdx g i m x2 P=V o2∧e=[(4,oS l g.length k),(9,oS f d k9),(10,vi P)]∧SH w w' [oW S6 (x2:List Int) [oS f d k9],oW T (i:List Bool) [oS l g.length k]]) n ⟨_,_,_,_,_,_,F,rfl,h⟩ Z ?_;rintro m2 _ _ ⟨S6,f,d,k9,x2,P,F,rfl,h⟩;obtain rfl:=(h.sl 0 Z).2;rcases m2 with _|m2
  ·cases F
  refine X0 8 Z (qk Z F ?_ ?_)<;>intro F
  ·refine X0 7 Z ?_;obtain⟨_,_,F,u,_,_,_,_,a8,b9,rfl,a3⟩:=(h.sl 1 Z).1.ix F;refine zx a8 b9 ⟨u.1,qE u.2.1 (h.sl 1 Z).2⟩ Z (zc 0 a3 Z (X0 2 Z (qk Z F ?_ ?_)))<;>intro F
   ·refine X0 3 Z (qm qa [.tmp 82] _ ([P]:List Int) h Z Z Z Z Z Z Z Z Z ⟨rfl,trivial⟩ Z fun _ _ _ h=>?_);obtain⟨_,c,F⟩:=qd F;obtain⟨g1,c⟩:=qC c;refine qaz qa 1 h Z (h.sl 0 Z).1 (h.sl 0 Z).2 Z Z Z Z Z Z Z Z Z g1 c Z fun _ _ _ _ h=>X0 8 Z ?_;replace h:=h.p [1,2] Z;exact rK ⟨_,_,_,_,_,_,F,rfl,h⟩ Z
   exact X0 7 Z (rK ⟨_,_,_,_,_,_,F,rfl,h⟩ Z)
  refine qv Z ?_;obtain rfl:=qb F;replace F:=X;refine X0 5 Z ?_;obtain rfl:=qb F;exact rO 0 h Z ⟨rfl,trivial⟩
 refine X0 10 Z ?_;obtain⟨o3,F,Y⟩:=qd F;refine qn (rL (fun m e w'=>∃ i2 i3,qbE r1 i S m i2 i3=V o3∧e=[(3,oS R r1.length Q),(4,oS l g.length k),(5,vi r3),(6,oS p9 S.length k8),(7,vi i2),(8,vi i3)]∧SH w w' [oW S4 (S:List (List Int)) [oS p9 S.length k8],oW T (i:List Bool) [oS l g.length k],oW S1 (r1:List qr) [oS R r1.length Q]]) m1 ⟨_,_,F,rfl,h⟩ Z ?_);rintro m3 _ _ ⟨i2,i3,F,rfl,h⟩;rcases m3 with _|m3
 ·cases F
 refine X0 8 Z (qk Z F ?_ ?_)<;>intro F
 ·refine X0 4 Z (rD (zd2 Z ?_));obtain⟨_,_,F,v,_,_,_,_,a9,c0,rfl,a4⟩:=(h.sl 1 Z).1.ix F;refine zdx a9 c0 ⟨v.1,qE v.2.1 (h.sl 1 Z).2⟩ Z (zdc 0 a4 Z (zd1 Z (qaG (t:=35) F Z ?_ ?_)))<;>intro F
  ·refine Y0 5 Z ?_;obtain⟨_,_,F,x,_,_,_,_,b4,c2,c7,a5⟩:=(h.sl 2 Z).1.ix F;obtain rfl:=qab c7;refine zdx b4 c2 ⟨x.1,qE x.2.1 (h.sl 2 Z).2⟩ Z (Y0 3 Z (zdc 2 a5 Z (Y0 4 Z (qaG (t:=43) F Z ?_ ?_))))<;>intro F
   ·refine Y0 3 Z ?_;obtain⟨_,O,F⟩:=qd F;have y:=qbA O;replace h:=h.lrn0 0 Z;obtain⟨_,o_4,_,_,b5,c3,-,N,a6⟩:=(qlA (h.lrnO 0 Z)).1.at O;have c8:=N;obtain⟨_,_,rfl,_⟩:=N;replace h:=h.lrnAdd 0 Z c8;refine zdx b5 c3 ⟨y.1,qE y.2.1 (qlA (h.lrnO 0 Z)).2⟩ Z (Y0 1 Z (zdc 0 a6 Z (Y0 5 Z ?_)));obtain⟨_,_,F,z,_,_,_,_,b6,c4,I,a7⟩:=(h.sl 2 Z).1.ix F;obtain rfl:=qab I;refine zdx b6 c4 ⟨z.1,qE z.2.1 (h.sl 2 Z).2⟩ Z (Y0 3 Z (zdc 0 a7 Z (Y0 1 Z ?_)));obtain⟨r5,J,F⟩:=qd F;refine qb7 r5 (vsB _) (cB 90 Z) (fun _ hb=>qko (GoT.mono ((h.ext hb).lrnS 0 0 Z Z) ((h.ext hb).lrnB 0 Z)) J) Z Z Z Z (zd2 Z (qaG (t:=54) F Z ?_ ?_))<;>intro F
    ·refine Y0 3 Z ?_;obtain⟨_,_,F,A,_,_,_,_,b7,c5,a,o⟩:=(qlA (h.lrnO 0 Z)).1.ix F;have K:=a;obtain⟨_,_,rfl,_⟩:=a;replace h:=h.lrnAdd 0 Z K;refine zdx b7 c5 ⟨A.1,qE A.2.1 (qlA (h.lrnO 0 Z)).2⟩ Z (Y0 1 Z (zdc 0 o Z (Y0 5 Z ?_)));obtain⟨_,_,F,B,_,_,_,_,b8,c6,L,p⟩:=(h.sl 2 Z).1.ix F;obtain rfl:=qab L;refine zdx b8 c6 ⟨B.1,qE B.2.1 (h.sl 2 Z).2⟩ Z (Y0 3 Z (zdc 1 p Z (Y0 1 Z ?_)));obtain⟨r6,M,F⟩:=qd F;refine qb7 r6 (vsB _) (cB 90 Z) (fun _ hb=>qko (GoT.mono ((h.ext hb).lrnS 0 0 Z Z) ((h.ext hb).lrnB 0 Z)) M) Z Z Z Z (zd1 Z (dN h fun _ h=>qk Z F ?_ ?_))<;>intro F
     ·refine X0 10 Z ?_;replace h:=h.unlrn 0 Z;exact rK ⟨_,_,F,rfl,h⟩ Z
     refine X0 7 Z ?_;replace h:=h.unlrn 0 Z;exact rK ⟨_,_,F,rfl,h⟩ Z
    refine Y0 10 Z (dN h fun _ h=>qbm Z Z (X0 7 Z ?_));replace h:=h.unlrn 0 Z;exact rK ⟨_,_,F,rfl,h⟩ Z
   exact Y0 21 Z (dN h fun _ h=>qbm Z Z (X0 7 Z (rK ⟨_,_,F,rfl,h⟩ Z)))
  exact Y0 29 Z (dN h fun _ h=>qbm Z Z (X0 7 Z (rK ⟨_,_,F,rfl,h⟩ Z)))
 refine qv Z ?_;obtain rfl:=qb F;replace F:=Y;refine X0 3 Z ?_;obtain⟨_,c9,F,C,_,_,_,_,D,H,rfl,s⟩:=(h.sl 1 Z).1.ix F;refine zx D H ⟨C.1,qE C.2.1 (h.sl 1 Z).2⟩ Z (qaU qa 1 0 false h Z c9 D H Z s Z Z Z Z Z Z Z fun _ h=>zNE ?_);replace h:=h.p [1,2] Z;exact rK ⟨_,F,rfl,h⟩ Z

def qbN (a_0:Tl01Source)(A:Int)(b1:Bool):Nat→(List qj)→Int→Int→Int→Option ((List qj)×Int×Int×Int)| 0,_,_,_,_=>U| n+1,D,B,C,d =>bif decide (d<2) then(bif b1 then(ql n (⟨a_0.code,B,C⟩:Tl01Source) 8).bind fun o=>match o with| (s,b,c) =>bif decide (s > 0) then V (b,c,true) else(ql n (⟨a_0.code,b,c⟩:Tl01Source) 24).bind fun o=>match o with| (t,u,v) =>V (u,v,(t==0)) else(ql n (⟨a_0.code,B,C⟩:Tl01Source) 24).bind fun o=>match o with| (x,y,z) =>V (y,z,(x==0))).bind fun o=>match o with| (F,i8,b2) =>bif b2 then(ql n (⟨a_0.code,F,i8⟩:Tl01Source) 200).bind fun o=>match o with| (H,f,g) =>(ql n (⟨a_0.code,f,g⟩:Tl01Source) 30).bind fun o=>match o with| (a,h,i) =>(ql n (⟨a_0.code,h,i⟩:Tl01Source) 40).bind fun o=>match o with| (k,i16,l) =>(ql n (⟨a_0.code,i16,l⟩:Tl01Source) 12).bind fun o=>match o with| (m,p,r) =>(appS D ([(⟨W64 ((W64 (2*A))+d),(⟨W64 (H-50),W64 ((W64 (H-50))+k)⟩:qf),(⟨a,W64 (a+m)⟩:qf)⟩:qj)]:List qj)).bind fun I =>qbN a_0 A b1 n I p r (W64 (d+1)) else qbN a_0 A b1 n D F i8 (W64 (d+1)) else V (D,B,C,d)
def qch (a_0:Tl01Source)(b:(List Tl05Place)):Nat→(List qj)→Int→Int→Int→Option ((List qj)×Int×Int×Int)| 0,_,_,_,_=>U| n+1,f,c,d,a =>bif decide (a<(b.length:Int)) then((idx b a).bind fun k =>bif decide (k.instance_<0) then(idx b a).bind fun l =>V l.drives else V false).bind fun b1 =>(qbN a_0 a b1 n f c d 0).bind fun o=>match o with| (i,g,h,_) =>qch a_0 b n i g h (W64 (a+1)) else V (f,c,d,a)
def qeq (n:Nat)(a_0:Tl01Source)(a_1:qe):Option ((List qj)×Int×Int) :=(qeC n a_1).bind fun r1 =>bif (!r1) then V (([]:List qj),a_0.at_,a_0.seed) else(qca n (⟨a_1.Aa.Ab,a_1.Aa.Am,a_1.Aa.Ai⟩:qh)).bind fun p =>(qch a_0 p n ([]:List qj) a_0.at_ a_0.seed 0).bind fun o=>match o with| (b,h,i,_) =>bif decide ((b.length:Int) > 0) then(ql n (⟨a_0.code,h,i⟩:Tl01Source) (b.length:Int)).bind fun o=>match o with| (a,g,i32) =>(ql n (⟨a_0.code,g,i32⟩:Tl01Source) 30).bind fun o=>match o with| (f,c,d) =>bif (f==0) then(idx b 0).bind fun r =>(idx b a).bind fun s =>V ((setS b a ({ s with Bo:=r.Bo })),c,d) else bif (f==1) then(idx b a).bind fun t =>(idx b a).bind fun k =>V ((setS b a ({ k with Ah:={ k.Ah with Aq:=W64 (t.Ah.Bd+1) } })),c,d) else bif (f==2) then(idx b a).bind fun l =>V ((setS b a ({ l with Bc:={ l.Bc with Aq:=(-1) } })),c,d) else bif (f==3) then(idx b a).bind fun m =>V ((setS b a ({ m with Ah:={ m.Ah with Bd:=1000000000 } })),c,d) else V (b,c,d) else V (b,h,i)
theorem qil {n b w F}{a_0:Tl01Source}{a p1 c}{a_1:qe}{cs1}(p:SH b w (xb a a_0 p1 c a_0.at_ a_0.seed::F))(ha1:GoT.R w (Fr b F) a_0 (qN a_0 p1 c))(I:GoT.R w (Fr b F) a_1 cs1){r:((List qj)×Int×Int)}(hF:qeq n a_0 a_1=V r):RetW prog 156 [vp a,oV qe cs1] w (fun us w'=>∃ S1 cs2,us=[oV (List qj) cs2]∧SH b w' (oW S1 (r.1:(List qj)) cs2::xb a a_0 p1 c r.2.1 r.2.2::F)):=by
 have h:=SH.frm1 p ha1;have hz1:=I;obtain⟨p2,k2,p3,k3,p4,k4,p5,k5,p6,k6,rfl,_,_,_,_,_⟩:=qP I;replace h:=h.grpAdd 1 Z hz1;replace h:SH _ _ [xb a a_0 p1 c a_0.at_ a_0.seed,oG (old b) (FS F) [fct (a_1:qe) (qH a_1 p2 p3 p4 p5 p6 k2 k3 k4 k5 k6),fct (a_0:Tl01Source) (qN a_0 p1 c),same b w F]]:=h;refine qbe func156 Z (m:=128) Z Z (zSR (qB h Z Z fun _ _ h=>X0 4 Z (qm qa [] _ ([]:List qj) h Z Z Z Z Z Z Z Z Z trivial Z fun _ p7 _ h=>X1 6 1 h Z (zcB h hF (qgD (h.grp 3 0 Z Z)) Z fun _ _ h hF=>X0 2 Z (qk Z hF ?_ ?_)))))<;>intro hF
 ·refine X0 5 Z ?_;obtain rfl:=qb hF;replace h:=h.p [0,2,3] Z;exact qaN qa [oV (List qj) [oS p7 0 0]] ⟨rfl,trivial⟩ ⟨_,_,rfl,SH.unfr 1 2 p h Z Z⟩
 refine X1 5 1 h Z (zcL h hF (qb0 ⟨[oS p3 a_1.Aa.Ab.length k3],[oS p4 a_1.Aa.Am.length k4,oS p5 a_1.Aa.Ai.length k5],rfl,⟨_,_,rfl,(qcG (h.grp 3 0 Z Z)).2.1.1⟩,⟨[oS p4 a_1.Aa.Am.length k4],[oS p5 a_1.Aa.Ai.length k5],rfl,⟨_,_,rfl,(qcG (h.grp 3 0 Z Z)).2.2.1.1⟩,⟨_,_,rfl,(qcG (h.grp 3 0 Z Z)).2.2.2.1.1⟩⟩⟩) Z fun d _ S3 u s h hF=>X0 7 Z ?_);replace h:=h.grpKeep [1,2] 4 Z;obtain⟨o1,hF,hK1⟩:=qd hF;refine qn ?_;replace h:=h.p [0,1,3,4] Z;refine rL (fun m e w'=>∃ S4 k y g f i1 i2 o,qch a_0 d m f i1 i2 o=V o1∧e=[(0,vp a),(5,oS k y g),(6,oS u d.length s),(7,vi o)]∧SH b w' [oW S3 (d:List Tl05Place) [oS u d.length s],oW S4 (f:List qj) [oS k y g],xb a a_0 p1 c i1 i2,xf b w F a_0 p1 c]) n ⟨_,_,_,_,_,_,_,_,hF,rfl,h⟩ Z ?_;rintro m1 _ _ ⟨S4,k,y,g,f,i1,i2,o,hF,rfl,h⟩;obtain rfl:=(h.sl 1 Z).2;rcases m1 with _|m1
 ·cases hF
 refine X0 8 Z (qk Z hF ?_ ?_)<;>intro hF
 ·refine X0 4 Z ?_;obtain⟨KF2,H,_,hF,C⟩:=bindE hF;refine qaA (fun e w'=>∃ b1,KF2 b1=V o1∧e=[(0,vp a),(5,oS k f.length g),(6,oS u d.length s),(7,vi o),(8,.bool b1)]∧SH b w' [oW S3 (d:List Tl05Place) [oS u d.length s],oW S4 (f:List qj) [oS k f.length g],xb a a_0 p1 c i1 i2,xf b w F a_0 p1 c]) ?_ ?_
  ·refine X0 3 Z ?_;obtain⟨_,_,hF,O,_,_,_,_,hp1,hq1,b4,hc5⟩:=(h.sl 0 Z).1.ix hF;obtain rfl:=qby b4;refine zx hp1 hq1 ⟨O.1,qE O.2.1 (h.sl 0 Z).2⟩ Z (zp1 Z (zc 0 hc5 Z (zp2 Z (qg (t:=33) hF Z ?_ ?_))))<;>intro hF
   ·refine X0 5 Z ?_;obtain⟨_,_,hF,P,_,_,_,_,hp2,hq2,b5,hc6⟩:=(h.sl 0 Z).1.ix hF;obtain rfl:=qby b5;refine zx hp2 hq2 ⟨P.1,qE P.2.1 (h.sl 0 Z).2⟩ Z (X0 3 Z (zc 3 hc6 Z (X0 3 Z ?_)));obtain rfl:=qb hF;exact rG ⟨_,C,rfl,h⟩ Z
   refine X0 8 Z ?_;obtain rfl:=qb hF;exact rG ⟨_,C,rfl,h⟩ Z
  rintro _ _ ⟨b1,hF,rfl,h⟩;subst H;refine X0 4 Z ?_;obtain⟨o2,hF,hK2⟩:=qd hF;refine qn (rL (fun m e w'=>∃ S5 i z k9 B i4 i5 A,qbN a_0 o b1 m B i4 i5 A=V o2∧e=[(0,vp a),(5,oS i z k9),(6,oS u d.length s),(7,vi o),(8,.bool b1),(9,vi A)]∧SH b w' [oW S3 (d:List Tl05Place) [oS u d.length s],oW S5 (B:List qj) [oS i z k9],xb a a_0 p1 c i4 i5,xf b w F a_0 p1 c]) m1 ⟨_,_,_,_,_,_,_,_,hF,rfl,h⟩ Z ?_);rintro m2 _ _ ⟨S5,i,z,k9,B,i4,i5,A,hF,rfl,h⟩;obtain rfl:=(h.sl 1 Z).2;rcases m2 with _|m2
  ·cases hF
  refine X0 6 Z (qk Z hF ?_ ?_)<;>intro hF
  ·refine X0 4 Z ?_;obtain⟨KF1,D,_,hF,v⟩:=bindE hF;refine qaA (fun e w'=>∃ i7 i8 b2,KF1 (i7,i8,b2)=V o2∧e=[(0,vp a),(5,oS i B.length k9),(6,oS u d.length s),(7,vi o),(8,.bool b1),(9,vi A),(54,.bool b2)]∧SH b w' [xb a a_0 p1 c i7 i8,oW S3 (d:List Tl05Place) [oS u d.length s],oW S5 (B:List qj) [oS i B.length k9],xf b w F a_0 p1 c]) ?_ ?_
   ·refine X0 3 Z (qg (t:=45) hF Z ?_ ?_)<;>intro hF
    ·refine X0 3 Z ?_;replace h:=h.p [2,0,1,3] Z;obtain⟨⟨_,_,_⟩,hr7,hF⟩:=qd hF;refine nxC h ((qc (h.frG 3 0 1 Z Z Z)).1) hr7 Z Z Z fun _ h=>X0 4 Z (qg (t:=50) hF Z ?_ ?_)<;>intro hF
     ·refine X0 5 Z ?_;obtain rfl:=qb hF;exact rG ⟨_,_,_,v,rfl,h⟩ Z
     refine X0 3 Z ?_;obtain⟨⟨_,_,_⟩,hr8,hF⟩:=qd hF;refine nxC h ((qc (h.frG 3 0 1 Z Z Z)).1) hr8 Z Z Z fun _ h=>X0 4 Z ?_;obtain rfl:=qb hF;exact rG ⟨_,_,_,v,rfl,h⟩ Z
    refine X0 8 Z ?_;replace h:=h.p [2,0,1,3] Z;obtain⟨⟨_,_,_⟩,hr9,hF⟩:=qd hF;refine nxC h ((qc (h.frG 3 0 1 Z Z Z)).1) hr9 Z Z Z fun _ h=>X0 4 Z ?_;obtain rfl:=qb hF;exact rG ⟨_,_,_,v,rfl,h⟩ Z
   rintro _ _ ⟨i7,i8,b2,hF,rfl,h⟩;subst D;refine qk Z hF ?_ ?_<;>intro hF
   ·refine X0 3 Z ?_;obtain⟨⟨i9,_,_⟩,hr3,hF⟩:=qd hF;refine nxC h ((qc (h.frG 3 0 1 Z Z Z)).1) hr3 Z Z Z fun _ h=>zp2 Z ?_;obtain⟨⟨l,_,_⟩,hr4,hF⟩:=qd hF;refine nxC h ((qc (h.frG 3 0 1 Z Z Z)).1) hr4 Z Z Z fun _ h=>X0 12 Z ?_;obtain⟨⟨c5,_,_⟩,hr5,hF⟩:=qd hF;refine nxC h ((qc (h.frG 3 0 1 Z Z Z)).1) hr5 Z Z Z fun _ h=>zp1 Z (r_v (qA qa [0,1] [.tmp 65,.tmp 69] Z Z Z Z Z Z Z Z) Z (zp3 Z ?_));obtain⟨⟨c6,_,_⟩,hr6,hF⟩:=qd hF;refine nxC h ((qc (h.frG 3 0 1 Z Z Z)).1) hr6 Z Z Z fun _ h=>zp1 Z (r_v (qA qa [0,1] [.tmp 71,.tmp 75] Z Z Z Z Z Z Z Z) Z (r_v (qA qa [0,1,2] [.tmp 64,.tmp 70,.tmp 76] Z Z Z Z Z Z Z Z) Z (qm qa [.tmp 77] _ ([(⟨W64 ((W64 (2*o))+A),(⟨W64 (i9-50),W64 ((W64 (i9-50))+c5)⟩:qf),(⟨l,W64 (l+c6)⟩:qf)⟩:qj)]:List qj) h Z Z Z Z Z Z Z Z Z ⟨(qbI (⟨W64 ((W64 (2*o))+A),(⟨W64 (i9-50),W64 ((W64 (i9-50))+c5)⟩:qf),(⟨l,W64 (l+c6)⟩:qf)⟩:qj)),trivial⟩ Z fun _ _ _ h=>?_)));obtain⟨_,x,hF⟩:=qd hF;obtain⟨g1,x⟩:=qC x;refine qaz qa 3 h Z (h.sl 0 Z).1 (h.sl 0 Z).2 Z Z Z Z Z Z Z Z Z g1 x Z fun _ _ _ _ h=>X0 8 Z ?_;replace h:=h.p [2,3,1,4] Z;exact rK ⟨_,_,_,_,_,_,_,_,hF,rfl,h⟩ Z
   refine X0 7 Z ?_;replace h:=h.p [1,2,0,3] Z;exact rK ⟨_,_,_,_,_,_,_,_,hF,rfl,h⟩ Z
  refine qv Z ?_;obtain rfl:=qb hF;replace hF:=hK2;exact X0 6 Z (rK ⟨_,_,_,_,_,_,_,_,hF,rfl,h⟩ Z)
 refine qv Z ?_;obtain rfl:=qb hF;replace hF:=hK1;refine X0 7 Z (qk Z hF ?_ ?_)<;>intro hF
 ·refine X0 5 Z ?_;replace h:=h.p [2,0,1,3] Z;obtain⟨⟨_,_,_⟩,b6,hF⟩:=qd hF;refine nxC h ((qc (h.frG 3 0 1 Z Z Z)).1) b6 Z Z Z fun _ h=>X0 5 Z ?_;obtain⟨⟨_,_,_⟩,b7,hF⟩:=qd hF;refine nxC h ((qc (h.frG 3 0 1 Z Z Z)).1) b7 Z Z Z fun _ h=>X0 7 Z (qk Z hF ?_ ?_)<;>intro hF
  ·refine X0 4 Z ?_;obtain⟨y3,_,hF,Q,_,_,_,_,hp3,hq3,b8,hc9⟩:=(h.sl 2 Z).1.ix hF;obtain rfl:=qac b8;refine zx hp3 hq3 ⟨Q.1,qE Q.2.1 (h.sl 2 Z).2⟩ Z (zp1 Z (zc 0 hc9 Z ?_));obtain⟨y4,hy4,hF,R,_,_,_,_,Y,a6,b9,J⟩:=(h.sl 2 Z).1.ix hF;obtain rfl:=qac b9;refine zx Y a6 ⟨R.1,qE R.2.1 (h.sl 2 Z).2⟩ Z (zp1 Z (qaU qa 2 0 ({ y4 with Bo:=y3.Bo }:qj) h Z hy4 Y a6 (qbI y4) J Z Z Z (qbI ({ y4 with Bo:=y3.Bo })) Z Z Z fun _ h=>X0 7 Z ?_));obtain rfl:=qb hF;replace h:=h.p [2,0,3] Z;exact qaN qa [oV (List qj) [oS k f.length g]] ⟨rfl,trivial⟩ ⟨_,_,rfl,SH.unfr 1 1 p h Z Z⟩
  refine X0 5 Z (qk Z hF ?_ ?_)<;>intro hF
  ·refine X0 5 Z ?_;obtain⟨y5,_,hF,S,_,_,_,_,hp5,hq5,c0,K⟩:=(h.sl 2 Z).1.ix hF;obtain rfl:=qac c0;refine zx hp5 hq5 ⟨S.1,qE S.2.1 (h.sl 2 Z).2⟩ Z (zp2 Z (zc 2 K Z (zp1 Z ?_)));obtain⟨y6,hy6,hF,T,_,_,_,_,a3,a7,c2,L⟩:=(h.sl 2 Z).1.ix hF;obtain rfl:=qac c2;refine zx a3 a7 ⟨T.1,qE T.2.1 (h.sl 2 Z).2⟩ Z (zp2 Z (qaU qa 2 1 ({ y6 with Ah:={ y6.Ah with Aq:=W64 (y5.Ah.Bd+1) } }:qj) h Z hy6 a3 a7 (qbI y6) L Z Z Z (qbI ({ y6 with Ah:={ y6.Ah with Aq:=W64 (y5.Ah.Bd+1) } })) Z Z Z fun _ h=>X0 7 Z ?_));obtain rfl:=qb hF;replace h:=h.p [2,0,3] Z;exact qaN qa [oV (List qj) [oS k f.length g]] ⟨rfl,trivial⟩ ⟨_,_,rfl,SH.unfr 1 1 p h Z Z⟩
  refine X0 5 Z (qk Z hF ?_ ?_)<;>intro hF
  ·refine X0 3 Z ?_;obtain⟨y7,hy7,hF,W,_,_,_,_,a4,a8,c3,M⟩:=(h.sl 2 Z).1.ix hF;obtain rfl:=qac c3;refine zx a4 a8 ⟨W.1,qE W.2.1 (h.sl 2 Z).2⟩ Z (zp2 Z (qaU qa 2 3 ({ y7 with Bc:={ y7.Bc with Aq:=(-1) } }:qj) h Z hy7 a4 a8 (qbI y7) M Z Z Z (qbI ({ y7 with Bc:={ y7.Bc with Aq:=(-1) } })) Z Z Z fun _ h=>X0 7 Z ?_));obtain rfl:=qb hF;replace h:=h.p [2,0,3] Z;exact qaN qa [oV (List qj) [oS k f.length g]] ⟨rfl,trivial⟩ ⟨_,_,rfl,SH.unfr 1 1 p h Z Z⟩
  refine X0 5 Z (qk Z hF ?_ ?_)<;>intro hF
  ·refine X0 3 Z ?_;obtain⟨y8,hy8,hF,X,_,_,_,_,a5,a9,c4,N⟩:=(h.sl 2 Z).1.ix hF;obtain rfl:=qac c4;refine zx a5 a9 ⟨X.1,qE X.2.1 (h.sl 2 Z).2⟩ Z (zp2 Z (qaU qa 2 2 ({ y8 with Ah:={ y8.Ah with Bd:=1000000000 } }:qj) h Z hy8 a5 a9 (qbI y8) N Z Z Z (qbI ({ y8 with Ah:={ y8.Ah with Bd:=1000000000 } })) Z Z Z fun _ h=>X0 7 Z ?_));obtain rfl:=qb hF;replace h:=h.p [2,0,3] Z;exact qaN qa [oV (List qj) [oS k f.length g]] ⟨rfl,trivial⟩ ⟨_,_,rfl,SH.unfr 1 1 p h Z Z⟩
  refine X0 7 Z ?_;obtain rfl:=qb hF;replace h:=h.p [2,0,3] Z;exact qaN qa [oV (List qj) [oS k f.length g]] ⟨rfl,trivial⟩ ⟨_,_,rfl,SH.unfr 1 1 p h Z Z⟩
 refine X0 6 Z ?_;obtain rfl:=qb hF;replace h:=h.p [1,2,3] Z;exact qaN qa [oV (List qj) [oS k f.length g]] ⟨rfl,trivial⟩ ⟨_,_,rfl,SH.unfr 1 1 p h Z Z⟩
def qhE (n:Nat)(s:Tl01Source):Option (qe×qy×(List Int)×(List qj)×Int×Int) :=(qgV n (⟨s.code,s.at_,s.seed⟩:Tl01Source)).bind fun o=>match o with| (r1,y,z) =>(qgB n (⟨s.code,y,z⟩:Tl01Source)).bind fun o=>match o with| (v,A,B) =>(ql n (⟨s.code,A,B⟩:Tl01Source) 3).bind fun o=>match o with| (C,t,u) =>(bif (C==0) then(qeD n (⟨s.code,t,u⟩:Tl01Source) 5 true).bind fun o=>match o with| (K,p,r) =>V (K,p,r) else V (r1,t,u)).bind fun o=>match o with| (c,i8,D) =>(qgl n (⟨s.code,i8,D⟩:Tl01Source) c).bind fun o=>match o with| (x,a,b) =>((qeC n c).bind fun J =>bif J then bif ((x.length:Int)==0) then(ql n (⟨s.code,a,b⟩:Tl01Source) 6).bind fun o=>match o with| (k,l,m) =>V (l,m,decide (k > 0)) else V (a,b,false) else V (a,b,false)).bind fun o=>match o with| (d,f,b1) =>bif b1 then(qjl n c).bind fun F =>(qeq n (⟨s.code,d,f⟩:Tl01Source) c).bind fun o=>match o with| (H,g,h) =>V (c,v,F,H,g,h) else(qeq n (⟨s.code,d,f⟩:Tl01Source) c).bind fun o=>match o with| (I,i16,i) =>V (c,v,x,I,i16,i)
theorem qmP {n K w F}{s:Tl01Source}{g p1 k}(h0:SH K w (xb g s p1 k s.at_ s.seed::F))(ha1:GoT.R w (Fr K F) s (qN s p1 k)){r:(qe×qy×(List Int)×(List qj)×Int×Int)}(hF:qhE n s=V r):RetW prog 77 [vp g] w (fun us w'=>∃ S1 cs1 S2 cs2 S3 cs3,us=[oV qe cs1,oV qy (qaX r.2.1),oV (List Int) cs2,oV (List qj) cs3]∧SH K w' (oG (fun _=>False) S1 [fct (r.1:qe) cs1]::oG (fun _=>False) S2 [fct (r.2.2.1:(List Int)) cs2]::oG (fun _=>False) S3 [fct (r.2.2.2.1:(List qj)) cs3]::xb g s p1 k r.2.2.2.2.1 r.2.2.2.2.2::F)):=by
 have h:=SH.frm1 h0 ha1;refine qbe func77 Z (m:=41) Z Z (zSR (qi qa h Z Z Z fun _ l h=>qi qa h Z Z Z fun _ o h=>X0 6 Z ?_));replace h:=h.p [2,0,1,3] Z;obtain⟨⟨r1,i1,i2⟩,hr1,hF⟩:=qd hF;refine qaQ (cB 49 Z) (qmi (s:=(⟨s.code,s.at_,s.seed⟩:Tl01Source)) h ⟨[oS p1 s.code.length k],[vi s.at_,vi s.seed],rfl,⟨_,_,rfl,(qc (h.frG 3 0 1 Z Z Z)).1⟩,⟨[vi s.at_],[vi s.seed],rfl,rfl,rfl⟩⟩ hr1) Z Z Z Z ?_;rintro _ _ ⟨S4,_,rfl,h⟩;have hr2:=h.grpS 0 0 Z Z;obtain⟨p2,k2,p3,k3,p4,k4,p5,k5,p6,k6,rfl,_,_,_,_,_⟩:=qP hr2;replace h:SH _ _ [oG (fun _=>False) S4 [fct (r1:qe) (qH r1 p2 p3 p4 p5 p6 k2 k3 k4 k5 k6)],xb g s p1 k i1 i2,oX o [.string ByteArray.empty,vi 0,vi 0,vi 0,vi 0] 36,oX l [oS U 0 0,oS U 0 0,oS U 0 0,oS U 0 0,oS U 0 0] 34,xf K w F s p1 k]:=h;refine qi qa h Z Z Z fun _ v h=>zs 0 h Z fun _ h=>X0 4 Z ?_;replace h:=h.p [2,0,1,3,4,5] Z;obtain⟨⟨M,_,_⟩,hr4,hF⟩:=qd hF;refine qaQ (cB 53 Z) (qlY (s:=(⟨s.code,i1,i2⟩:Tl01Source)) h ⟨[oS p1 s.code.length k],[vi i1,vi i2],rfl,⟨_,_,rfl,(qc (h.frG 5 0 1 Z Z Z)).1⟩,⟨[vi i1],[vi i2],rfl,rfl,rfl⟩⟩ hr4) Z Z Z Z ?_;rintro _ _ ⟨rfl,h⟩;dsimp only at h;refine qi qa h Z Z Z fun _ y h=>zs 0 h Z fun _ h=>X0 5 Z ?_;replace h:=h.p [1,0,2,3,4,5,6] Z;obtain⟨⟨_,i6,i7⟩,hr5,hF⟩:=qd hF;refine nxC h ((qc (h.frG 6 0 1 Z Z Z)).1) hr5 Z Z Z fun _ h=>X0 2 Z ?_;obtain⟨KF2,S,_,hF,Q⟩:=bindE hF;refine qaA (fun e w'=>∃ O i H A I B J C d a f c i8 P,KF2 (i,i8,P)=V r∧e=[(0,vp g),(2,vp l),(3,vp o),(6,vp v),(7,vp y)]∧SH K w' [oG (fun _=>False) O [fct (i:qe) (qH i H I J d f A B C a c)],xb g s p1 k i8 P,oX y (qaX M) 36,oX v (qH i H I J d f A B C a c) 34,oX o [.string ByteArray.empty,vi 0,vi 0,vi 0,vi 0] 36,oX l [oS U 0 0,oS U 0 0,oS U 0 0,oS U 0 0,oS U 0 0] 34,xf K w F s p1 k]) ?_ ?_
 ·refine qk Z hF ?_ ?_<;>intro hF
  ·refine X0 2 Z ?_;obtain⟨⟨r9,i21,i22⟩,Y,hF⟩:=qd hF;refine qaQ (cB 119 Z) (qeM (s:=(⟨s.code,i6,i7⟩:Tl01Source)) (most:=5) (wild:=true) h ⟨[oS p1 s.code.length k],[vi i6,vi i7],rfl,⟨_,_,rfl,(qc (h.frG 6 0 1 Z Z Z)).1⟩,⟨[vi i6],[vi i7],rfl,rfl,rfl⟩⟩ Y) Z Z Z Z ?_;rintro _ _ ⟨S10,_,rfl,h⟩;obtain⟨p16,k16,p17,k17,p18,k18,p19,k19,p20,k20,rfl,-,-,-,-,-⟩:=qP (h.own 0 Z);replace h:=h.frzI 0 Z;replace h:SH _ _ [oG (fun _=>False) S10 [fct (r9:qe) (qH r9 p16 p17 p18 p19 p20 k16 k17 k18 k19 k20)],xb g s p1 k i21 i22,oX y (qaX M) 36,oX v (qH r1 p2 p3 p4 p5 p6 k2 k3 k4 k5 k6) 34,oG (fun _=>False) S4 [fct (r1:qe) (qH r1 p2 p3 p4 p5 p6 k2 k3 k4 k5 k6)],oX o [.string ByteArray.empty,vi 0,vi 0,vi 0,vi 0] 36,oX l [oS U 0 0,oS U 0 0,oS U 0 0,oS U 0 0,oS U 0 0] 34,xf K w F s p1 k]:=h;refine zs 3 h Z fun _ h=>qa7 ?_;replace h:=h.p [0,1,2,3,5,6,7] Z;obtain rfl:=qb hF;exact rG ⟨_,_,_,_,_,_,_,_,_,_,_,_,_,_,Q,rfl,h⟩ Z
  refine qf2 ?_;replace h:=h.p [3,0,1,2,4,5,6] Z;obtain rfl:=qb hF;exact rG ⟨_,_,_,_,_,_,_,_,_,_,_,_,_,_,Q,rfl,h⟩ Z
 rintro _ _ ⟨O,i,H,A,I,B,J,C,d,a,f,c,i8,P,hF,rfl,h⟩;subst S;refine X1 4 3 h Z ?_;replace h:=h.p [1,0,2,3,4,5,6] Z;obtain⟨⟨L,i10,i11⟩,hr6,hF⟩:=qd hF;refine qaQ (cB 52 Z) (ql3 (s:=(⟨s.code,i8,P⟩:Tl01Source)) (b:=i) h ⟨[oS p1 s.code.length k],[vi i8,vi P],rfl,⟨_,_,rfl,(qc (h.frG 6 0 1 Z Z Z)).1⟩,⟨[vi i8],[vi P],rfl,rfl,rfl⟩⟩ (h.frG 1 0 1 Z Z Z) hr6) Z Z Z Z ?_;rintro _ _ ⟨S6,_,rfl,h⟩;obtain⟨D,z,rfl,-⟩:=h.own 0 Z;replace h:SH _ _ [oW S6 (L:List Int) [oS D L.length z],xb g s p1 k i10 i11,oG (fun _=>False) O [fct (i:qe) (qH i H I J d f A B C a c)],oX y (qaX M) 36,oX v (qH i H I J d f A B C a c) 34,oX o [.string ByteArray.empty,vi 0,vi 0,vi 0,vi 0] 36,oX l [oS U 0 0,oS U 0 0,oS U 0 0,oS U 0 0,oS U 0 0] 34,xf K w F s p1 k]:=h;refine X0 4 Z ?_;obtain⟨KF1,R,_,hF,N⟩:=bindE hF;refine qaA (fun e w'=>∃ p u b1,KF1 (p,u,b1)=V r∧e=[(0,vp g),(2,vp l),(3,vp o),(6,vp v),(7,vp y),(8,oS D L.length z),(32,.bool b1)]∧SH K w' [xb g s p1 k p u,oW S6 (L:List Int) [oS D L.length z],oG (fun _=>False) O [fct (i:qe) (qH i H I J d f A B C a c)],oX y (qaX M) 36,oX v (qH i H I J d f A B C a c) 34,oX o [.string ByteArray.empty,vi 0,vi 0,vi 0,vi 0] 36,oX l [oS U 0 0,oS U 0 0,oS U 0 0,oS U 0 0,oS U 0 0] 34,xf K w F s p1 k]) ?_ ?_
 ·refine X1 2 4 h Z (zcB h hF (qgD (h.grp 2 0 Z Z)) Z fun _ _ h hF=>zp1 Z (qg (t:=23) hF Z ?_ ?_))<;>intro hF
  ·refine X0 8 Z (qg (t:=28) hF Z ?_ ?_)<;>intro hF
   ·refine X0 3 Z ?_;replace h:=h.p [1,0,2,3,4,5,6,7] Z;obtain⟨⟨_,_,_⟩,X,hF⟩:=qd hF;refine nxC h ((qc (h.frG 7 0 1 Z Z Z)).1) X Z Z Z fun _ h=>X0 4 Z ?_;obtain rfl:=qb hF;exact rG ⟨_,_,_,N,rfl,h⟩ Z
   refine X0 5 Z ?_;replace h:=h.p [1,0,2,3,4,5,6,7] Z;obtain rfl:=qb hF;exact rG ⟨_,_,_,N,rfl,h⟩ Z
  refine X0 10 Z ?_;replace h:=h.p [1,0,2,3,4,5,6,7] Z;obtain rfl:=qb hF;exact rG ⟨_,_,_,N,rfl,h⟩ Z
 rintro _ _ ⟨p,u,b1,hF,rfl,h⟩;subst R;refine qk Z hF ?_ ?_<;>intro hF
 ·refine X1 2 4 h Z (zcL h hF (qoR (h.grp 2 0 Z Z)) Z fun r5 _ S7 a6 a3 h hF=>X0 3 Z (rA [] [4,5] h Z fun _ h=>M3 31 [0,1,2,3,4] 1 0 1 (h.p [4,5] Z) Z (Ao 5 63 Z ?_)));replace h:=h.p [1,0,2,3,4,5,6,7,8] Z;obtain⟨⟨r6,i14,i15⟩,hr8,hF⟩:=qd hF;refine qaQ (cB 156 Z) (qil (a_0:=(⟨s.code,p,u⟩:Tl01Source)) (a_1:=i) h ⟨[oS p1 s.code.length k],[vi p,vi u],rfl,⟨_,_,rfl,(qc (h.frG 8 0 1 Z Z Z)).1⟩,⟨[vi p],[vi u],rfl,rfl,rfl⟩⟩ (h.frG 3 0 1 Z Z Z) hr8) Z Z Z Z ?_;rintro _ _ ⟨S8,_,rfl,h⟩;obtain⟨a7,a4,rfl,-⟩:=h.own 0 Z;replace h:SH _ _ [oW S8 (r6:List qj) [oS a7 r6.length a4],xb g s p1 k i14 i15,oW S7 (r5:List Int) [oS a6 r5.length a3],oW S6 (L:List Int) [oS D L.length z],oG (fun _=>False) O [fct (i:qe) (qH i H I J d f A B C a c)],oX y (qaX M) 36,oX v (qH i H I J d f A B C a c) 34,oX o [.string ByteArray.empty,vi 0,vi 0,vi 0,vi 0] 36,oX l [oS U 0 0,oS U 0 0,oS U 0 0,oS U 0 0,oS U 0 0] 34,xf K w F s p1 k]:=h;refine Ag (h.p [5,6] Z) (Ao 6 127 Z (zs 8 h Z fun _ h=>Ag (h.p [5,6] Z) (Ao 7 255 Z (zs 7 h Z fun _ h=>G0 1023 [8,9] (h.p [5,6] Z) Z (Ad ?_)))));have T:=h;replace h:=h.grpAdd 4 Z (x:=(i:qe)) (h.grpS 4 0 Z Z);replace h:=h.grpKeep [0] 4 Z;replace h:=h.frzI 2 Z;replace h:=h.grpAdd 2 Z (x:=(r5:(List Int))) (h.grpS 2 0 Z Z);replace h:=h.grpKeep [0] 2 Z;replace h:=h.frzI 0 Z;replace h:=h.grpAdd 0 Z (x:=(r6:(List qj))) (h.grpS 0 0 Z Z);replace h:=h.grpKeep [0] 0 Z;obtain rfl:=qb hF;replace h:=h.p [4,2,0,1,9] Z;exact qaN qa [oV qe (qH i H I J d f A B C a c),oV qy (qaX M),oV (List Int) [oS a6 r5.length a3],oV (List qj) [oS a7 r6.length a4]] ⟨⟨_,_,_,rfl,rfl,T.box 8 Z,rfl⟩,⟨_,_,_,rfl,rfl,T.box 7 Z,rfl⟩,rfl,rfl,trivial⟩ ⟨_,_,_,_,_,_,rfl,SH.unfr 1 1 h0 h Z Z⟩
 refine zKS (rA [] [3,4] h Z fun _ h=>M3 31 [0,1,2,3,4] 1 0 1 (h.p [3,4] Z) Z (Ao 5 63 Z ?_));obtain⟨⟨r7,i16,i17⟩,hr9,hF⟩:=qd hF;refine qaQ (cB 156 Z) (qil (a_0:=(⟨s.code,p,u⟩:Tl01Source)) (a_1:=i) h ⟨[oS p1 s.code.length k],[vi p,vi u],rfl,⟨_,_,rfl,(qc (h.frG 7 0 1 Z Z Z)).1⟩,⟨[vi p],[vi u],rfl,rfl,rfl⟩⟩ (h.frG 2 0 1 Z Z Z) hr9) Z Z Z Z ?_;rintro _ _ ⟨S9,_,rfl,h⟩;obtain⟨a8,a5,rfl,-⟩:=h.own 0 Z;replace h:SH _ _ [oW S9 (r7:List qj) [oS a8 r7.length a5],xb g s p1 k i16 i17,oW S6 (L:List Int) [oS D L.length z],oG (fun _=>False) O [fct (i:qe) (qH i H I J d f A B C a c)],oX y (qaX M) 36,oX v (qH i H I J d f A B C a c) 34,oX o [.string ByteArray.empty,vi 0,vi 0,vi 0,vi 0] 36,oX l [oS U 0 0,oS U 0 0,oS U 0 0,oS U 0 0,oS U 0 0] 34,xf K w F s p1 k]:=h;refine Ag (h.p [4,5] Z) (Ao 6 127 Z (zs 7 h Z fun _ h=>Ag (h.p [4,5] Z) (Ao 7 255 Z (zs 6 h Z fun _ h=>G0 1023 [8,9] (h.p [4,5] Z) Z (Ad ?_)))));have W:=h;replace h:=h.grpAdd 3 Z (x:=(i:qe)) (h.grpS 3 0 Z Z);replace h:=h.grpKeep [0] 3 Z;replace h:=h.frzI 2 Z;replace h:=h.grpAdd 2 Z (x:=(L:(List Int))) (h.grpS 2 0 Z Z);replace h:=h.grpKeep [0] 2 Z;replace h:=h.frzI 0 Z;replace h:=h.grpAdd 0 Z (x:=(r7:(List qj))) (h.grpS 0 0 Z Z);replace h:=h.grpKeep [0] 0 Z;obtain rfl:=qb hF;replace h:=h.p [3,2,0,1,8] Z;exact qaN qa [oV qe (qH i H I J d f A B C a c),oV qy (qaX M),oV (List Int) [oS D L.length z],oV (List qj) [oS a8 r7.length a5]] ⟨⟨_,_,_,rfl,rfl,W.box 7 Z,rfl⟩,⟨_,_,_,rfl,rfl,W.box 6 Z,rfl⟩,rfl,rfl,trivial⟩ ⟨_,_,_,_,_,_,rfl,SH.unfr 1 1 h0 h Z Z⟩
def qh6 (n:Nat)(s:Tl01Source):Option (qau×Int×Int) :=(qhE n (⟨s.code,s.at_,s.seed⟩:Tl01Source)).bind fun o=>match o with| (r1,a,d,f,b,c) =>V ((⟨(⟨(⟨r1.Ar.As⟩:qw),(⟨r1.Aa.Ab,r1.Aa.Am,r1.Aa.Ai⟩:qh),r1.Af⟩:qe),(⟨a.Bi,a.Av,a.Ba,a.Au,a.Bb⟩:qy),d,f⟩:qau),b,c)
theorem qni {n D w F}{s:Tl01Source}{b p1 l}(O:SH D w (xb b s p1 l s.at_ s.seed::F))(I:GoT.R w (Fr D F) s (qN s p1 l)){r:(qau×Int×Int)}(T:qh6 n s=V r):RetW prog 83 [vp b] w (fun W w'=>∃ S1 cs1,W=[oV qau cs1]∧SH D w' (oG (fun _=>False) S1 [fct (r.1:qau) cs1]::xb b s p1 l r.2.1 r.2.2::F)):=by
 have h:=SH.frm1 O I;refine qbe func83 Z (m:=19) Z Z (zSR (qi qa h Z Z Z fun _ H h=>X0 4 Z ?_));replace h:=h.p [1,0,2] Z;obtain⟨⟨r1,a,i,k,R,S⟩,K,T⟩:=qd T;refine qaQ (cB 77 Z) (qmP (s:=(⟨s.code,s.at_,s.seed⟩:Tl01Source)) h ⟨[oS p1 s.code.length l],[vi s.at_,vi s.seed],rfl,⟨_,_,rfl,(qc (h.frG 2 0 1 Z Z Z)).1⟩,⟨[vi s.at_],[vi s.seed],rfl,rfl,rfl⟩⟩ K) Z Z Z Z ?_;rintro _ _ ⟨S2,_,P,_,Q,_,rfl,h⟩;have L:=h.grpS 0 0 Z Z;obtain⟨C,B,p,o,f,c,g,d,y,t,rfl,_,_,_,_,_⟩:=qP L;have M:=h.grpS 1 0 Z Z;obtain⟨z,u,rfl,_⟩:=M;have N:=h.grpS 2 0 Z Z;obtain⟨A,v,rfl,_⟩:=N;replace h:SH _ _ [oG (fun _=>False) S2 [fct (r1:qe) (qH r1 C p f g y B o c d t)],oG (fun _=>False) P [fct (i:(List Int)) [oS z i.length u]],oG (fun _=>False) Q [fct (k:(List qj)) [oS A k.length v]],xb b s p1 l R S,oX H [oS U 0 0,oS U 0 0,oS U 0 0,oS U 0 0,oS U 0 0,.string ByteArray.empty,vi 0,vi 0,vi 0,vi 0,oS U 0 0,oS U 0 0] 62,xf D w F s p1 l]:=h;refine zp5 Z (qi qa h Z Z Z fun _ _ h=>qi qa h Z Z Z fun _ _ h=>zs 1 h Z fun _ h=>zs 0 h Z fun _ h=>X2 9 1 0 h Z (r_v (qA qa [0,1,2,3] [.tmp 14,.tmp 15,.tmp 16,.tmp 17] Z Z Z Z Z Z Z Z) Z (zs 6 h Z fun _ h=>qa7 ?_)));have J:=h;replace h:=h.p [2,3,0,1,4,5,6,7] Z;replace h:=SH.merge h;replace h:=h.p [0,3,1,2,4,5,6] Z;replace h:=SH.merge h;replace h:=h.grpAdd 0 Z (x:=((⟨(⟨(⟨r1.Ar.As⟩:qw),(⟨r1.Aa.Ab,r1.Aa.Am,r1.Aa.Ai⟩:qh),r1.Af⟩:qe),(⟨a.Bi,a.Av,a.Ba,a.Au,a.Bb⟩:qy),i,k⟩:qau):qau)) (⟨[oS C r1.Ar.As.length B,oS p r1.Aa.Ab.length o,oS f r1.Aa.Am.length c,oS g r1.Aa.Ai.length d,oS y r1.Af.length t],[.string a.Bi,vi a.Av,vi a.Ba,vi a.Au,vi a.Bb,oS z i.length u,oS A k.length v],rfl,⟨[oS C r1.Ar.As.length B],[oS p r1.Aa.Ab.length o,oS f r1.Aa.Am.length c,oS g r1.Aa.Ai.length d,oS y r1.Af.length t],rfl,⟨_,_,rfl,(qcG (h.grpS 0 0 Z Z)).1.1⟩,⟨[oS p r1.Aa.Ab.length o,oS f r1.Aa.Am.length c,oS g r1.Aa.Ai.length d],[oS y r1.Af.length t],rfl,⟨[oS p r1.Aa.Ab.length o],[oS f r1.Aa.Am.length c,oS g r1.Aa.Ai.length d],rfl,⟨_,_,rfl,(qcG (h.grpS 0 0 Z Z)).2.1.1⟩,⟨[oS f r1.Aa.Am.length c],[oS g r1.Aa.Ai.length d],rfl,⟨_,_,rfl,(qcG (h.grpS 0 0 Z Z)).2.2.1.1⟩,⟨_,_,rfl,(qcG (h.grpS 0 0 Z Z)).2.2.2.1.1⟩⟩⟩,⟨_,_,rfl,(qcG (h.grpS 0 0 Z Z)).2.2.2.2.1⟩⟩⟩,⟨[.string a.Bi,vi a.Av,vi a.Ba,vi a.Au,vi a.Bb],[oS z i.length u,oS A k.length v],rfl,⟨[.string a.Bi],[vi a.Av,vi a.Ba,vi a.Au,vi a.Bb],rfl,rfl,⟨[vi a.Av],[vi a.Ba,vi a.Au,vi a.Bb],rfl,rfl,⟨[vi a.Ba],[vi a.Au,vi a.Bb],rfl,rfl,⟨[vi a.Au],[vi a.Bb],rfl,rfl,rfl⟩⟩⟩⟩,⟨[oS z i.length u],[oS A k.length v],rfl,(h.grpS 0 1 Z Z),(h.grpS 0 2 Z Z)⟩⟩⟩);replace h:=h.grpKeep [0] 0 Z;obtain rfl:=qb T;replace h:=h.p [0,3,5] Z;exact qaN qa [oV qau [oS C r1.Ar.As.length B,oS p r1.Aa.Ab.length o,oS f r1.Aa.Am.length c,oS g r1.Aa.Ai.length d,oS y r1.Af.length t,.string a.Bi,vi a.Av,vi a.Ba,vi a.Au,vi a.Bb,oS z i.length u,oS A k.length v]] ⟨⟨_,_,_,rfl,rfl,J.box 6 Z,rfl⟩,trivial⟩ ⟨_,_,rfl,SH.unfr 1 1 O h Z Z⟩
def qjM:Nat→Option Unit| 0=>U| n+1 =>U
def qjK (a:Int):Nat→Option Unit| 0=>U| n+1 =>bif decide (a > 0) then(qjM n).bind fun _ =>U else V ()
def qco (g:(List Bool))(d:(List qr))(b:Int):Nat→(List Int)→Int→Option ((List Int)×Int)| 0,_,_=>U| n+1,c,a =>bif decide (a<(d.length:Int)) then((idx g a).bind fun i =>bif i then(idx d a).bind fun k =>V (k.Bk==b) else V false).bind fun h =>bif h then(appS c ([a]:List Int)).bind fun f =>qco g d b n f (W64 (a+1)) else qco g d b n c (W64 (a+1)) else V (c,a)
def qc9 (a_0:Tl01Source)(p:(List Bool))(l:(List qr)):Nat→(List Int)→Int→Int→Int→Int→Option ((List Int)×Int×Int)| 0,_,_,_,_,_=>U| n+1,m,a,b,f,d =>bif decide (d > 0) then(qco p l f n ([]:List Int) 0).bind fun o=>match o with| (c,_) =>bif ((c.length:Int)==0) then V (m,a,b) else(ql n (⟨a_0.code,a,b⟩:Tl01Source) (c.length:Int)).bind fun o=>match o with| (g,h,i) =>(idx c g).bind fun r =>(appS m ([r]:List Int)).bind fun k =>(idx l r).bind fun s =>qc9 a_0 p l n k h i s.To (W64 (d-1)) else V (m,a,b)
def qf5 (n:Nat)(a_0:Tl01Source)(a_1:qau):Option (Int×(List Int)×Int×Int) :=(qa4 n a_1).bind fun o=>match o with| (U,K) =>((bif (K != 0) then V true else V ((a_1.Ap.length:Int)==0)).bind fun b1 =>bif b1 then(ql n (⟨a_0.code,a_0.at_,a_0.seed⟩:Tl01Source) 8).bind fun o=>match o with| (L,M,N) =>V (L,([]:List Int),M,N) else(ql n (⟨a_0.code,a_0.at_,a_0.seed⟩:Tl01Source) (a_1.Ap.length:Int)).bind fun o=>match o with| (O,P,Q) =>(idx a_1.Ap O).bind fun Y =>(ql n (⟨a_0.code,P,Q⟩:Tl01Source) 9).bind fun o=>match o with| (i8,R,g) =>(qjK i8 n).bind fun _ =>(ql n (⟨a_0.code,R,g⟩:Tl01Source) 16).bind fun o=>match o with| (c,d,f) =>bif (c==0) then U else bif (c==1) then(qcv n (⟨(⟨a_1.Ac.Ar.As⟩:qw),(⟨a_1.Ac.Aa.Ab,a_1.Ac.Aa.Am,a_1.Ac.Aa.Ai⟩:qh),a_1.Ac.Af⟩:qe)).bind fun S =>(ql n (⟨a_0.code,d,f⟩:Tl01Source) S).bind fun o=>match o with| (h,i,i16) =>V (h,([]:List Int),i,i16) else V (Y.Bo,([]:List Int),d,f))| (V (⟨_,J,W,⟨_,_,_⟩⟩),_) =>((V ()).bind fun _ =>bif ((a_1.Ap.length:Int)==0) then(ql n (⟨a_0.code,a_0.at_,a_0.seed⟩:Tl01Source) 8).bind fun o=>match o with| (k,l,m) =>V (k,([]:List Int),l,m) else(ql n (⟨a_0.code,a_0.at_,a_0.seed⟩:Tl01Source) (a_1.Ap.length:Int)).bind fun o=>match o with| (p,r,s) =>(idx a_1.Ap p).bind fun I =>(ql n (⟨a_0.code,r,s⟩:Tl01Source) 9).bind fun o=>match o with| (t,u,v) =>(qc9 a_0 W J n ([]:List Int) u v I.Bo t).bind fun o=>match o with| (H,x,y) =>(ql n (⟨a_0.code,x,y⟩:Tl01Source) 16).bind fun o=>match o with| (i32,a,b) =>bif (i32==0) then(ql n (⟨a_0.code,a,b⟩:Tl01Source) (W64 ((J.length:Int)+2))).bind fun o=>match o with| (z,A,B) =>(appS H ([W64 (z-1)]:List Int)).bind fun X =>V (I.Bo,X,A,B) else bif (i32==1) then(qcv n (⟨(⟨a_1.Ac.Ar.As⟩:qw),(⟨a_1.Ac.Aa.Ab,a_1.Ac.Aa.Am,a_1.Ac.Aa.Ai⟩:qh),a_1.Ac.Af⟩:qe)).bind fun T =>(ql n (⟨a_0.code,a,b⟩:Tl01Source) T).bind fun o=>match o with| (C,D,F) =>V (C,H,D,F) else V (I.Bo,H,a,b))
theorem qjx {n i w F}{a_0:Tl01Source}{a p1 A}{a_1:qau}{cs1}(h0:SH i w (xb a a_0 p1 A a_0.at_ a_0.seed::F))(ha1:GoT.R w (Fr i F) a_0 (qN a_0 p1 A))(ha2:GoT.R w (Fr i F) a_1 cs1){r:(Int×(List Int)×Int×Int)}(hF:qf5 n a_0 a_1=V r):RetW prog 175 [vp a,oV qau cs1] w (fun us w'=>∃ S1 cs2,us=[vi r.1,oV (List Int) cs2]∧SH i w' (oW S1 (r.2.1:(List Int)) cs2::xb a a_0 p1 A r.2.2.1 r.2.2.2::F)):=by
 have h:=SH.frm1 h0 ha1;have hz1:=ha2;obtain⟨u,s,l,k,f,c,g,d,p,o,y,v,z,x,rfl,_,_,_,_,_,_,_⟩:=qbC ha2;replace h:=h.grpAdd 1 Z hz1;replace h:SH _ _ [xb a a_0 p1 A a_0.at_ a_0.seed,oG (old i) (FS F) [fct (a_1:qau) (qbV a_1 u l f g p y z s k c d o v x),fct (a_0:Tl01Source) (qN a_0 p1 A),same i w F]]:=h;refine qbe func175 Z (m:=129) Z Z (zSR (qB h Z Z fun _ b h=>X1 6 0 h Z ?_));obtain⟨_,hr1,hF⟩:=qd hF;refine qtC (cB 95 Z) (qow (h.grp 2 0 Z Z) hr1) Z Z Z Z ?_;rintro _ _ _ hs1 (⟨_,rfl,rfl,rfl⟩|⟨S5,I,ln1,k9,Q,S6,J,ln2,B,R,S7,K,ln3,C,S,N,S8,L,ln4,D,O,S9,M,ln5,H,P,rfl,rfl,rfl⟩)
 ·replace h:SH _ _ [oX b (qbV a_1 u l f g p y z s k c d o v x) 62,xb a a_0 p1 A a_0.at_ a_0.seed,oG (old i) (FS F) [fct (a_1:qau) (qbV a_1 u l f g p y z s k c d o v x),fct (a_0:Tl01Source) (qN a_0 p1 A),same i w F]]:=SH.appendN h hs1 (show NoD [] from trivial);refine X0 8 Z ?_;obtain⟨KF1,hKF1,_,hF,hK3⟩:=bindE hF;refine qaA (fun e w'=>∃ b1,KF1 b1=V r∧e=[(0,vp a),(3,vp b),(6,.pointer U),(27,.bool b1)]∧SH i w' [oX b (qbV a_1 u l f g p y z s k c d o v x) 62,xb a a_0 p1 A a_0.at_ a_0.seed,oG (old i) (FS F) [fct (a_1:qau) (qbV a_1 u l f g p y z s k c d o v x),fct (a_0:Tl01Source) (qN a_0 p1 A),same i w F]]) ?_ ?_
  ·refine X0 4 Z (qg (t:=22) hF Z ?_ ?_)<;>intro hF
   ·refine X0 6 Z ?_;obtain rfl:=qb hF;exact rG ⟨_,hK3,rfl,h⟩ Z
   refine X1 10 0 h Z ?_;obtain rfl:=qb hF;exact rG ⟨_,hK3,rfl,h⟩ Z
  rintro _ _ ⟨b1,hF,rfl,h⟩;subst hKF1;refine qk Z hF ?_ ?_<;>intro hF
  ·refine X0 3 Z ?_;replace h:=h.p [1,0,2] Z;obtain⟨⟨i2,_,_⟩,hr2,hF⟩:=qd hF;refine nxC h ((qc (h.frG 2 1 1 Z Z Z)).1) hr2 Z Z Z fun _ h=>qm qa [] _ ([]:List Int) h Z Z Z Z Z Z Z Z Z trivial Z fun _ p9 _ h=>X0 3 Z ?_;obtain rfl:=qb hF;replace h:=h.p [0,1,3] Z;exact qaN qa [vi i2,oV (List Int) [oS p9 0 0]] ⟨rfl,rfl,trivial⟩ ⟨_,_,rfl,SH.unfr 1 2 h0 h Z Z⟩
  refine zKS (rA [] [0] h Z fun _ h=>M2 63 [0,1,2,3,4,5] 0 0 (h.p [0] Z) Z (Ao 6 127 Z ?_));replace h:=h.p [1,0,2] Z;obtain⟨⟨_,_,_⟩,hr3,hF⟩:=qd hF;refine nxC h ((qc (h.frG 2 1 1 Z Z Z)).1) hr3 Z Z Z fun _ h=>Ag (h.p [1] Z) ?_;obtain⟨y1,_,hF,he1,_,_,_,_,hp1,hq1,hr4,hc2⟩:=(qfM (h.grp 2 0 Z Z)).2.2.2.2.2.2.1.ix hF;obtain rfl:=qac hr4;refine Ax 7 255 hp1 hq1 ⟨he1.1,qE he1.2.1 (qfM (h.grp 2 0 Z Z)).2.2.2.2.2.2.2⟩ (h.p [1] Z) Z (M0 511 [8] (h.p [1] Z) Z (Ao 9 1023 Z (zc 0 hc2 Z (G0 2047 [10] (h.p [1] Z) Z (Ad (X0 7 Z (qm qa [] _ ([]:List Int) h Z Z Z Z Z Z Z Z Z trivial Z fun _ Y S3 h=>X0 6 Z ?_)))))));replace h:=h.p [1,0,2,3] Z;obtain⟨⟨i8,i9,i10⟩,hr5,hF⟩:=qd hF;refine nxC h ((qc (h.frG 3 1 1 Z Z Z)).1) hr5 Z Z Z fun _ h=>X0 2 Z ?_;obtain⟨o4,hF,hK1⟩:=qd hF;refine qn (rL (fun m e w'=>qjK i8 m=V o4∧e=[(0,vp a),(3,vp b),(6,.pointer U),(8,vi y1.Bo),(9,vi y1.Bo),(10,oS Y 0 0),(11,vi i8)]∧SH i w' [xb a a_0 p1 A i9 i10,oW S3 (([]:List Int):List Int) [oS Y 0 0],oX b (qbV a_1 u l f g p y z s k c d o v x) 62,oG (old i) (FS F) [fct (a_1:qau) (qbV a_1 u l f g p y z s k c d o v x),fct (a_0:Tl01Source) (qN a_0 p1 A),same i w F]]) n ⟨hF,rfl,h⟩ Z ?_);rintro m1 _ _ ⟨hF,rfl,h⟩;rcases m1 with _|m1
  ·cases hF
  refine X0 6 Z (qk Z hF ?_ ?_)<;>intro hF
  ·refine zKSBSR (qm qa [] _ ([]:List Int) h Z Z Z Z Z Z Z Z Z trivial Z fun _ p11 S4 h=>X0 7 Z ?_);obtain⟨o5,hF,_⟩:=qd hF;refine qn (rL (fun m e w'=>qjM m=V o5∧e=[(0,vp a),(3,vp b),(6,.pointer U),(8,vi y1.Bo),(9,vi y1.Bo),(10,oS Y 0 0),(11,vi i8),(12,oS p11 0 0),(13,vi 0)]∧SH i w' [oW S4 (([]:List Int):List Int) [oS p11 0 0],xb a a_0 p1 A i9 i10,oW S3 (([]:List Int):List Int) [oS Y 0 0],oX b (qbV a_1 u l f g p y z s k c d o v x) 62,oG (old i) (FS F) [fct (a_1:qau) (qbV a_1 u l f g p y z s k c d o v x),fct (a_0:Tl01Source) (qN a_0 p1 A),same i w F]]) m1 ⟨hF,rfl,h⟩ Z ?_);rintro m2 _ _ ⟨hF,rfl,h⟩;rcases m2 with _|m2
   ·cases hF
   refine X0 5 Z ?_;cases hF
  refine qv Z ?_;obtain rfl:=qb hF;replace hF:=hK1;refine X0 4 Z ?_;obtain⟨⟨_,_,_⟩,hr6,hF⟩:=qd hF;refine nxC h ((qc (h.frG 3 1 1 Z Z Z)).1) hr6 Z Z Z fun _ h=>X0 7 Z (qk Z hF ?_ ?_)<;>intro hF
  ·refine X0 4 Z ?_;cases hF
  refine X0 5 Z (qk Z hF ?_ ?_)<;>intro hF
  ·refine X1 4 2 h Z (zcI h hF (qeR ⟨[oS u a_1.Ac.Ar.As.length s],[oS l a_1.Ac.Aa.Ab.length k,oS f a_1.Ac.Aa.Am.length c,oS g a_1.Ac.Aa.Ai.length d,oS p a_1.Ac.Af.length o],rfl,⟨_,_,rfl,(qfM (h.grp 3 0 Z Z)).1.1⟩,⟨[oS l a_1.Ac.Aa.Ab.length k,oS f a_1.Ac.Aa.Am.length c,oS g a_1.Ac.Aa.Ai.length d],[oS p a_1.Ac.Af.length o],rfl,⟨[oS l a_1.Ac.Aa.Ab.length k],[oS f a_1.Ac.Aa.Am.length c,oS g a_1.Ac.Aa.Ai.length d],rfl,⟨_,_,rfl,(qfM (h.grp 3 0 Z Z)).2.1.1⟩,⟨[oS f a_1.Ac.Aa.Am.length c],[oS g a_1.Ac.Aa.Ai.length d],rfl,⟨_,_,rfl,(qfM (h.grp 3 0 Z Z)).2.2.1.1⟩,⟨_,_,rfl,(qfM (h.grp 3 0 Z Z)).2.2.2.1.1⟩⟩⟩,⟨_,_,rfl,(qfM (h.grp 3 0 Z Z)).2.2.2.2.1.1⟩⟩⟩) Z fun _ _ h hF=>?_);obtain⟨⟨i14,_,_⟩,hr8,hF⟩:=qd hF;refine nxC h ((qc (h.frG 3 1 1 Z Z Z)).1) hr8 Z Z Z fun _ h=>X0 10 Z ?_;obtain rfl:=qb hF;replace h:=h.p [1,0,3] Z;exact qaN qa [vi i14,oV (List Int) [oS Y 0 0]] ⟨rfl,rfl,trivial⟩ ⟨_,_,rfl,SH.unfr 1 2 h0 h Z Z⟩
  refine X0 9 Z ?_;obtain rfl:=qb hF;replace h:=h.p [1,0,3] Z;exact qaN qa [vi y1.Bo,oV (List Int) [oS Y 0 0]] ⟨rfl,rfl,trivial⟩ ⟨_,_,rfl,SH.unfr 1 2 h0 h Z Z⟩
 replace h:SH _ _ [oW S5 (Q:List qf) [oS I ln1 k9],oW S6 (R:List qf) [oS J ln2 B],oW S7 (S:List Bool) [oS K ln3 C],oX N [oS u a_1.Ac.Ar.As.length s,oS l a_1.Ac.Aa.Ab.length k,oS f a_1.Ac.Aa.Am.length c,oS g a_1.Ac.Aa.Ai.length d,oS p a_1.Ac.Af.length o,.string a_1.Aj.Bi,vi a_1.Aj.Av,vi a_1.Aj.Ba,vi a_1.Aj.Au,vi a_1.Aj.Bb,oS y a_1.Bg.length v,oS z a_1.Ap.length x,oS M ln5 H,oS L ln4 D,oS K ln3 C,oS J ln2 B,oS I ln1 k9] 243,oW S8 (O:List Bool) [oS L ln4 D],oW S9 (P:List qr) [oS M ln5 H],oX b (qbV a_1 u l f g p y z s k c d o v x) 62,xb a a_0 p1 A a_0.at_ a_0.seed,oG (old i) (FS F) [fct (a_1:qau) (qbV a_1 u l f g p y z s k c d o v x),fct (a_0:Tl01Source) (qN a_0 p1 A),same i w F]]:=SH.appendN h hs1 ⟨fun _ h=>h,⟨fun _ h=>h,⟨fun _ h=>h,⟨fun _ h=>h,⟨fun _ h=>h,⟨fun _ h=>h,trivial⟩⟩⟩⟩⟩⟩;obtain rfl:=(h.sl 0 Z).2;obtain rfl:=(h.sl 1 Z).2;obtain rfl:=(h.sl 2 Z).2;obtain rfl:=(h.sl 4 Z).2;obtain rfl:=(h.sl 5 Z).2;refine X0 8 Z ?_;obtain⟨KF4,hKF4,_,hF,hK7⟩:=bindE hF;refine qaA (fun e w'=>KF4 ()=V r∧e=[(0,vp a),(3,vp b),(6,vp N),(27,.bool ((a_1.Ap.length:Int)==0))]∧SH i w' [oW S5 (Q:List qf) [oS I Q.length k9],oW S6 (R:List qf) [oS J R.length B],oW S7 (S:List Bool) [oS K S.length C],oX N [oS u a_1.Ac.Ar.As.length s,oS l a_1.Ac.Aa.Ab.length k,oS f a_1.Ac.Aa.Am.length c,oS g a_1.Ac.Aa.Ai.length d,oS p a_1.Ac.Af.length o,.string a_1.Aj.Bi,vi a_1.Aj.Av,vi a_1.Aj.Ba,vi a_1.Aj.Au,vi a_1.Aj.Bb,oS y a_1.Bg.length v,oS z a_1.Ap.length x,oS M P.length H,oS L O.length D,oS K S.length C,oS J R.length B,oS I Q.length k9] 243,oW S8 (O:List Bool) [oS L O.length D],oW S9 (P:List qr) [oS M P.length H],oX b (qbV a_1 u l f g p y z s k c d o v x) 62,xb a a_0 p1 A a_0.at_ a_0.seed,oG (old i) (FS F) [fct (a_1:qau) (qbV a_1 u l f g p y z s k c d o v x),fct (a_0:Tl01Source) (qN a_0 p1 A),same i w F]]) ?_ ?_
 ·refine X1 14 6 h Z ?_;obtain rfl:=qb hF;exact rG ⟨hK7,rfl,h⟩ Z
 rintro _ _ ⟨hF,rfl,h⟩;subst hKF4;refine qk Z hF ?_ ?_<;>intro hF
 ·refine X0 3 Z ?_;replace h:=h.p [7,0,1,2,3,4,5,6,8] Z;obtain⟨⟨i17,_,_⟩,hr9,hF⟩:=qd hF;refine nxC h ((qc (h.frG 8 1 1 Z Z Z)).1) hr9 Z Z Z fun _ h=>qm qa [] _ ([]:List Int) h Z Z Z Z Z Z Z Z Z trivial Z fun _ p17 _ h=>X0 3 Z ?_;obtain rfl:=qb hF;replace h:=h.p [0,1,9] Z;exact qaN qa [vi i17,oV (List Int) [oS p17 0 0]] ⟨rfl,rfl,trivial⟩ ⟨_,_,rfl,SH.unfr 1 2 h0 h Z Z⟩
 refine zKS (rA [] [6] h Z fun _ h=>M2 63 [0,1,2,3,4,5] 0 0 (h.p [6] Z) Z (Ao 6 127 Z ?_));replace h:=h.p [7,0,1,2,3,4,5,6,8] Z;obtain⟨⟨_,_,_⟩,hr10,hF⟩:=qd hF;refine nxC h ((qc (h.frG 8 1 1 Z Z Z)).1) hr10 Z Z Z fun _ h=>Ag (h.p [7] Z) ?_;obtain⟨y2,_,hF,he2,_,_,_,_,hp2,hq2,hr11,hc7⟩:=(qfM (h.grp 8 0 Z Z)).2.2.2.2.2.2.1.ix hF;obtain rfl:=qac hr11;refine Ax 7 255 hp2 hq2 ⟨he2.1,qE he2.2.1 (qfM (h.grp 8 0 Z Z)).2.2.2.2.2.2.2⟩ (h.p [7] Z) Z (M0 511 [8] (h.p [7] Z) Z (Ao 9 1023 Z (zc 0 hc7 Z (G0 2047 [10] (h.p [7] Z) Z (Ad (X0 7 Z (qm qa [] _ ([]:List Int) h Z Z Z Z Z Z Z Z Z trivial Z fun _ _ _ h=>X0 6 Z ?_)))))));replace h:=h.p [1,0,2,3,4,5,6,7,8,9] Z;obtain⟨⟨_,_,_⟩,hr12,hF⟩:=qd hF;refine nxC h ((qc (h.frG 9 1 1 Z Z Z)).1) hr12 Z Z Z fun _ h=>X0 2 Z ?_;obtain⟨KF2,hKF2,o15,hF,hK4⟩:=bindE hF;refine qaA (fun e w'=>∃ S13 p20 ln7 k15 x7 i30 i31,KF2 (x7,i30,i31)=V r∧e=[(0,vp a),(3,vp b),(6,vp N),(8,vi y2.Bo),(10,oS p20 ln7 k15)]∧SH i w' [xb a a_0 p1 A i30 i31,oW S13 (x7:List Int) [oS p20 ln7 k15],oW S5 (Q:List qf) [oS I Q.length k9],oW S6 (R:List qf) [oS J R.length B],oW S7 (S:List Bool) [oS K S.length C],oX N [oS u a_1.Ac.Ar.As.length s,oS l a_1.Ac.Aa.Ab.length k,oS f a_1.Ac.Aa.Am.length c,oS g a_1.Ac.Aa.Ai.length d,oS p a_1.Ac.Af.length o,.string a_1.Aj.Bi,vi a_1.Aj.Av,vi a_1.Aj.Ba,vi a_1.Aj.Au,vi a_1.Aj.Bb,oS y a_1.Bg.length v,oS z a_1.Ap.length x,oS M P.length H,oS L O.length D,oS K S.length C,oS J R.length B,oS I Q.length k9] 243,oW S8 (O:List Bool) [oS L O.length D],oW S9 (P:List qr) [oS M P.length H],oX b (qbV a_1 u l f g p y z s k c d o v x) 62,oG (old i) (FS F) [fct (a_1:qau) (qbV a_1 u l f g p y z s k c d o v x),fct (a_0:Tl01Source) (qN a_0 p1 A),same i w F]]) ?_ ?_
 ·refine qn (rL (fun m e w'=>∃ S16 W ln8 T x9 i41 i42 X i44,qc9 a_0 O P m x9 i41 i42 X i44=V o15∧e=[(0,vp a),(3,vp b),(6,vp N),(8,vi y2.Bo),(9,vi X),(10,oS W ln8 T),(11,vi i44)]∧SH i w' [xb a a_0 p1 A i41 i42,oW S16 (x9:List Int) [oS W ln8 T],oW S5 (Q:List qf) [oS I Q.length k9],oW S6 (R:List qf) [oS J R.length B],oW S7 (S:List Bool) [oS K S.length C],oX N [oS u a_1.Ac.Ar.As.length s,oS l a_1.Ac.Aa.Ab.length k,oS f a_1.Ac.Aa.Am.length c,oS g a_1.Ac.Aa.Ai.length d,oS p a_1.Ac.Af.length o,.string a_1.Aj.Bi,vi a_1.Aj.Av,vi a_1.Aj.Ba,vi a_1.Aj.Au,vi a_1.Aj.Bb,oS y a_1.Bg.length v,oS z a_1.Ap.length x,oS M P.length H,oS L O.length D,oS K S.length C,oS J R.length B,oS I Q.length k9] 243,oW S8 (O:List Bool) [oS L O.length D],oW S9 (P:List qr) [oS M P.length H],oX b (qbV a_1 u l f g p y z s k c d o v x) 62,oG (old i) (FS F) [fct (a_1:qau) (qbV a_1 u l f g p y z s k c d o v x),fct (a_0:Tl01Source) (qN a_0 p1 A),same i w F]]) n ⟨_,_,_,_,_,_,_,_,_,hF,rfl,h⟩ Z ?_);rintro m3 _ _ ⟨S16,W,ln8,T,x9,i41,i42,X,i44,hF,rfl,h⟩;obtain rfl:=(h.sl 1 Z).2;rcases m3 with _|m3
  ·cases hF
  refine X0 6 Z (qk Z hF ?_ ?_)<;>intro hF
  ·refine zKSBSR (qm qa [] _ ([]:List Int) h Z Z Z Z Z Z Z Z Z trivial Z fun _ _ _ h=>X0 7 Z ?_);obtain⟨o16,hF,hK5⟩:=qd hF;refine qn (rL (fun m e w'=>∃ S18 p25 ln9 k18 a3 i45,qco O P X m a3 i45=V o16∧e=[(0,vp a),(3,vp b),(6,vp N),(8,vi y2.Bo),(9,vi X),(10,oS W x9.length T),(11,vi i44),(12,oS p25 ln9 k18),(13,vi i45)]∧SH i w' [oW S18 (a3:List Int) [oS p25 ln9 k18],xb a a_0 p1 A i41 i42,oW S16 (x9:List Int) [oS W x9.length T],oW S5 (Q:List qf) [oS I Q.length k9],oW S6 (R:List qf) [oS J R.length B],oW S7 (S:List Bool) [oS K S.length C],oX N [oS u a_1.Ac.Ar.As.length s,oS l a_1.Ac.Aa.Ab.length k,oS f a_1.Ac.Aa.Am.length c,oS g a_1.Ac.Aa.Ai.length d,oS p a_1.Ac.Af.length o,.string a_1.Aj.Bi,vi a_1.Aj.Av,vi a_1.Aj.Ba,vi a_1.Aj.Au,vi a_1.Aj.Bb,oS y a_1.Bg.length v,oS z a_1.Ap.length x,oS M P.length H,oS L O.length D,oS K S.length C,oS J R.length B,oS I Q.length k9] 243,oW S8 (O:List Bool) [oS L O.length D],oW S9 (P:List qr) [oS M P.length H],oX b (qbV a_1 u l f g p y z s k c d o v x) 62,oG (old i) (FS F) [fct (a_1:qau) (qbV a_1 u l f g p y z s k c d o v x),fct (a_0:Tl01Source) (qN a_0 p1 A),same i w F]]) m3 ⟨_,_,_,_,_,_,hF,rfl,h⟩ Z ?_);rintro m4 _ _ ⟨S18,p25,ln9,k18,a3,i45,hF,rfl,h⟩;obtain rfl:=(h.sl 0 Z).2;rcases m4 with _|m4
   ·cases hF
   refine X1 11 6 h Z (qk Z hF ?_ ?_)<;>intro hF
   ·refine X0 4 Z ?_;obtain⟨KF3,hKF3,_,hF,hK6⟩:=bindE hF;refine qaA (fun e w'=>∃ b4,KF3 b4=V o16∧e=[(0,vp a),(3,vp b),(6,vp N),(8,vi y2.Bo),(9,vi X),(10,oS W x9.length T),(11,vi i44),(12,oS p25 a3.length k18),(13,vi i45),(77,.bool b4)]∧SH i w' [oW S18 (a3:List Int) [oS p25 a3.length k18],xb a a_0 p1 A i41 i42,oW S16 (x9:List Int) [oS W x9.length T],oW S5 (Q:List qf) [oS I Q.length k9],oW S6 (R:List qf) [oS J R.length B],oW S7 (S:List Bool) [oS K S.length C],oX N [oS u a_1.Ac.Ar.As.length s,oS l a_1.Ac.Aa.Ab.length k,oS f a_1.Ac.Aa.Am.length c,oS g a_1.Ac.Aa.Ai.length d,oS p a_1.Ac.Af.length o,.string a_1.Aj.Bi,vi a_1.Aj.Av,vi a_1.Aj.Ba,vi a_1.Aj.Au,vi a_1.Aj.Bb,oS y a_1.Bg.length v,oS z a_1.Ap.length x,oS M P.length H,oS L O.length D,oS K S.length C,oS J R.length B,oS I Q.length k9] 243,oW S8 (O:List Bool) [oS L O.length D],oW S9 (P:List qr) [oS M P.length H],oX b (qbV a_1 u l f g p y z s k c d o v x) 62,oG (old i) (FS F) [fct (a_1:qau) (qbV a_1 u l f g p y z s k c d o v x),fct (a_0:Tl01Source) (qN a_0 p1 A),same i w F]]) ?_ ?_
    ·refine X1 6 6 h Z ?_;obtain⟨_,_,hF,he3,_,_,_,_,hp3,hq3,rfl,hc13⟩:=(h.sl 7 Z).1.ix hF;refine zx hp3 hq3 ⟨he3.1,qE he3.2.1 (h.sl 7 Z).2⟩ Z (zc 0 hc13 Z (zp1 Z (qg (t:=66) hF Z ?_ ?_)))<;>intro hF
     ·refine X1 11 6 h Z ?_;obtain⟨_,_,hF,he4,_,_,_,_,hp4,hq4,hr18,hc14⟩:=(h.sl 8 Z).1.ix hF;obtain rfl:=qab hr18;refine zx hp4 hq4 ⟨he4.1,qE he4.2.1 (h.sl 8 Z).2⟩ Z (X0 3 Z (zc 0 hc14 Z (X0 6 Z ?_)));obtain rfl:=qb hF;exact rG ⟨_,hK6,rfl,h⟩ Z
     refine X0 12 Z ?_;obtain rfl:=qb hF;exact rG ⟨_,hK6,rfl,h⟩ Z
    rintro _ _ ⟨b4,hF,rfl,h⟩;subst hKF3;refine qk Z hF ?_ ?_<;>intro hF
    ·refine X0 3 Z (qm qa [.tmp 79] _ ([i45]:List Int) h Z Z Z Z Z Z Z Z Z ⟨rfl,trivial⟩ Z fun _ _ _ h=>?_);obtain⟨_,hx2,hF⟩:=qd hF;obtain⟨g2,hx2⟩:=qC hx2;refine qaz qa 1 h Z (h.sl 0 Z).1 (h.sl 0 Z).2 Z Z Z Z Z Z Z Z Z g2 hx2 Z fun _ _ _ _ h=>X0 8 Z ?_;replace h:=h.p [1,2,3,4,5,6,7,8,9,10,11] Z;exact rK ⟨_,_,_,_,_,_,hF,rfl,h⟩ Z
    exact X0 7 Z (rK ⟨_,_,_,_,_,_,hF,rfl,h⟩ Z)
   refine qv Z ?_;obtain rfl:=qb hF;replace hF:=hK5;refine X0 7 Z (qk Z hF ?_ ?_)<;>intro hF
   ·refine qv Z ?_;replace h:=h.p [1,2,3,4,5,6,7,8,9,10] Z;obtain rfl:=qb hF;exact rG ⟨_,_,_,_,_,_,_,hK4,rfl,h⟩ Z
   refine X0 7 Z ?_;replace h:=h.p [1,0,2,3,4,5,6,7,8,9,10] Z;obtain⟨⟨_,_,_⟩,hr19,hF⟩:=qd hF;refine nxC h ((qc (h.frG 10 1 1 Z Z Z)).1) hr19 Z Z Z fun _ h=>?_;obtain⟨y5,_,hF,he5,_,_,_,_,hp5,hq5,rfl,hc16⟩:=(h.sl 1 Z).1.ix hF;refine zx hp5 hq5 ⟨he5.1,qE he5.2.1 (h.sl 1 Z).2⟩ Z (zc 0 hc16 Z (X0 6 Z (qm qa [.tmp 93] _ ([y5]:List Int) h Z Z Z Z Z Z Z Z Z ⟨rfl,trivial⟩ Z fun _ _ _ h=>?_)));obtain⟨_,hx3,hF⟩:=qd hF;obtain⟨g3,hx3⟩:=qC hx3;refine qaz qa 3 h Z (h.sl 0 Z).1 (h.sl 0 Z).2 Z Z Z Z Z Z Z Z Z g3 hx3 Z fun _ _ _ _ h=>X1 8 7 h Z ?_;obtain⟨_,_,hF,he6,_,_,_,_,hp6,hq6,hr21,hc17⟩:=(h.sl 9 Z).1.ix hF;obtain rfl:=qab hr21;refine zx hp6 hq6 ⟨he6.1,qE he6.2.1 (h.sl 9 Z).2⟩ Z (zp1 Z (zc 1 hc17 Z (X0 8 Z ?_)));replace h:=h.p [1,3,4,5,6,7,8,9,10,11] Z;exact rK ⟨_,_,_,_,_,_,_,_,_,hF,rfl,h⟩ Z
  refine qv Z ?_;obtain rfl:=qb hF;exact rG ⟨_,_,_,_,_,_,_,hK4,rfl,h⟩ Z
 rintro _ _ ⟨S13,p20,ln7,k15,x7,i30,i31,hF,rfl,h⟩;subst hKF2;obtain rfl:=(h.sl 1 Z).2;refine X0 4 Z ?_;obtain⟨⟨_,_,_⟩,hr13,hF⟩:=qd hF;refine nxC h ((qc (h.frG 9 1 1 Z Z Z)).1) hr13 Z Z Z fun _ h=>X0 7 Z (qk Z hF ?_ ?_)<;>intro hF
 ·refine X1 9 5 h Z ?_;obtain⟨⟨i35,_,_⟩,hr14,hF⟩:=qd hF;refine nxC h ((qc (h.frG 9 1 1 Z Z Z)).1) hr14 Z Z Z fun _ h=>zp1 Z (qm qa [.tmp 117] _ ([W64 (i35-1)]:List Int) h Z Z Z Z Z Z Z Z Z ⟨rfl,trivial⟩ Z fun _ _ _ h=>?_);obtain⟨x8,hx1,hF⟩:=qd hF;obtain⟨g1,hx1⟩:=qC hx1;refine qaz qa 2 h Z (h.sl 0 Z).1 (h.sl 0 Z).2 Z Z Z Z Z Z Z Z Z g1 hx1 Z fun _ p22 k16 _ h=>X0 10 Z ?_;obtain rfl:=qb hF;replace h:=h.p [2,1,10] Z;exact qaN qa [vi y2.Bo,oV (List Int) [oS p22 x8.length k16]] ⟨rfl,rfl,trivial⟩ ⟨_,_,rfl,SH.unfr 1 2 h0 h Z Z⟩
 refine X0 5 Z (qk Z hF ?_ ?_)<;>intro hF
 ·refine X1 4 8 h Z (zcI h hF (qeR ⟨[oS u a_1.Ac.Ar.As.length s],[oS l a_1.Ac.Aa.Ab.length k,oS f a_1.Ac.Aa.Am.length c,oS g a_1.Ac.Aa.Ai.length d,oS p a_1.Ac.Af.length o],rfl,⟨_,_,rfl,(qfM (h.grp 9 0 Z Z)).1.1⟩,⟨[oS l a_1.Ac.Aa.Ab.length k,oS f a_1.Ac.Aa.Am.length c,oS g a_1.Ac.Aa.Ai.length d],[oS p a_1.Ac.Af.length o],rfl,⟨[oS l a_1.Ac.Aa.Ab.length k],[oS f a_1.Ac.Aa.Am.length c,oS g a_1.Ac.Aa.Ai.length d],rfl,⟨_,_,rfl,(qfM (h.grp 9 0 Z Z)).2.1.1⟩,⟨[oS f a_1.Ac.Aa.Am.length c],[oS g a_1.Ac.Aa.Ai.length d],rfl,⟨_,_,rfl,(qfM (h.grp 9 0 Z Z)).2.2.1.1⟩,⟨_,_,rfl,(qfM (h.grp 9 0 Z Z)).2.2.2.1.1⟩⟩⟩,⟨_,_,rfl,(qfM (h.grp 9 0 Z Z)).2.2.2.2.1.1⟩⟩⟩) Z fun _ _ h hF=>?_);obtain⟨⟨i38,_,_⟩,hr16,hF⟩:=qd hF;refine nxC h ((qc (h.frG 9 1 1 Z Z Z)).1) hr16 Z Z Z fun _ h=>X0 10 Z ?_;obtain rfl:=qb hF;replace h:=h.p [1,0,9] Z;exact qaN qa [vi i38,oV (List Int) [oS p20 x7.length k15]] ⟨rfl,rfl,trivial⟩ ⟨_,_,rfl,SH.unfr 1 2 h0 h Z Z⟩
 refine X0 9 Z ?_;obtain rfl:=qb hF;replace h:=h.p [1,0,9] Z;exact qaN qa [vi y2.Bo,oV (List Int) [oS p20 x7.length k15]] ⟨rfl,rfl,trivial⟩ ⟨_,_,rfl,SH.unfr 1 2 h0 h Z Z⟩
def qft (code:(List (IntK .u8))):Nat→Int→Int→Option (Int×Int)| 0,_,_=>U| n+1,b,a =>(bif decide (a<(code.length:Int)) then V (decide (a<64)) else V false).bind fun b1 =>bif b1 then(idx code a).bind fun c =>qft code n ((W64 ((W64 (b*31))+(W64 c.val))).tmod 2147483647) (W64 (a+1)) else V (b,a)
def qlR (n:Nat)(code:(List (IntK .u8))):Option (Option Tl01Source) :=(qft code n 12345 0).bind fun o=>match o with| (a,_) =>V (V (⟨code,0,a⟩:Tl01Source))
theorem qoE {n w}{code:(List (IntK .u8))}{cs1}(p:Ro w code cs1){r:(Option Tl01Source)}(F:qlR n code=V r):RetZ prog 48 [oV (List (IntK .u8)) cs1] w (fun A L=>∃ b g,r=(V (⟨code,0,g⟩:Tl01Source))∧A=[oV (Option Tl01Source) [vp b]]∧L=[oX b (cs1++[vi 0,vi g]) 191]):=by
 obtain⟨p1,k,rfl,s1⟩:=p;refine qpd func48 Z (m:=34) Z Z (fun h=>?_);refine X0 7 Z (r_v (qA qa [0,2] [.tmp 5,.const (vi (12345))] Z Z Z Z Z Z Z Z) Z (qB h Z Z fun _ a h=>X0 7 Z ?_));obtain⟨o1,F,o⟩:=qd F;refine qn (rL (fun m e w'=>∃ f i,qft code m f i=V o1∧e=[(0,oS p1 code.length k),(3,vp a),(4,vi i)]∧SH w w' [oX a [oS p1 code.length k,vi 0,vi f] 191]) n ⟨_,_,F,rfl,h⟩ Z ?_);rintro y _ _ ⟨f,i,F,rfl,h⟩;rcases y with _|y
 ·cases F
 refine zSS ?_;obtain⟨l,d,_,F,c⟩:=bindE F;refine qaA (fun e w'=>∃ b1,l b1=V o1∧e=[(0,oS p1 code.length k),(3,vp a),(4,vi i),(15,.bool b1)]∧SH w w' [oX a [oS p1 code.length k,vi 0,vi f] 191]) ?_ ?_
 ·refine X0 6 Z (qg (t:=12) F Z ?_ ?_)<;>intro F
  ·refine X0 6 Z ?_;obtain rfl:=qb F;exact rG ⟨_,c,rfl,h⟩ Z
  refine X0 4 Z ?_;obtain rfl:=qb F;exact rG ⟨_,c,rfl,h⟩ Z
 rintro _ _ ⟨b1,F,rfl,h⟩;subst d;refine qk Z F ?_ ?_<;>intro F
 ·refine zKSB (rA [15] [0] h Z fun _ h=>M1 255 [0,1,2,3,4,5,6,7] 0 (h.p [0] Z) Z ?_);obtain⟨_,_,F,u,_,_,_,_,v,x,rfl,s⟩:=s1.ix F;exact Ae 8 511 v x u (h.p [0] Z) Z (Al 9 1023 0 s (h.p [0] Z) Z (M0 8191 [10,11,12] (h.p [0] Z) Z (Ao 13 16383 Z (zp1 Z (G0 32767 [14] (h.p [0] Z) Z (Ao 15 65535 Z (zs 0 h Z fun _ h=>qbc (fun z=>absurd (z 15 (by decide)) (by decide)) (Ad (X0 6 Z (rK ⟨_,_,F,rfl,h⟩ Z))))))))))
 refine qv Z ?_;obtain rfl:=qb F;replace F:=o;refine X0 5 Z ?_;obtain rfl:=qb F;exact qsO qa [oV (Option Tl01Source) [vp a]] h ⟨rfl,trivial⟩ ⟨a,f,rfl,rfl,rfl⟩

def qhw (n:Nat)(code:(List (IntK .u8))):Option (qau×qT×qT) :=(qlR n code).bind fun o=>match o with| some (⟨_,_,i⟩) =>((qh6 n (⟨code,0,i⟩:Tl01Source)).bind fun o=>match o with| (a,k,l) =>(qf5 n (⟨code,k,l⟩:Tl01Source) a).bind fun o=>match o with| (h,b,m,p) =>(qf5 n (⟨code,m,p⟩:Tl01Source) a).bind fun o=>match o with| (r,t,i8,s) =>(ql n (⟨code,i8,s⟩:Tl01Source) 3).bind fun o=>match o with| (c,d,f) =>bif (c==0) then(ql n (⟨code,d,f⟩:Tl01Source) (W64 ((b.length:Int)+1))).bind fun o=>match o with| (g,_,_) =>(subS b 0 g).bind fun u =>V (a,(⟨h,b,0⟩:qT),(⟨h,u,0⟩:qT)) else V (a,(⟨h,b,0⟩:qT),(⟨r,t,0⟩:qT)))| _=>U
theorem qnp {A}(hA:∀ b,A b→old w b){code:(List (IntK .u8))}(ha1:GoT.R w A code cs1){r:(qau×qT×qT)}(F:qhw n code=V r):RetG prog 101 [oV (List (IntK .u8)) cs1] w A r:=by
 obtain⟨p1,k1,rfl,s1⟩:=ha1;have hg:=Rg.start hA;refine qcQ func101 Z (m:=50) Z Z (fun h=>?_);refine zSR (qi qa h Z Z Z fun _ l h=>qi qa h Z Z Z fun _ o h=>qi qa h Z Z Z fun _ p h=>X0 4 Z ?_);obtain⟨_,hr1,F⟩:=qd F;refine qtC (cB 48 Z) (qoE ⟨_,_,rfl,(h.oldS (s1.mono hg.old))⟩ hr1) Z Z Z Z ?_;rintro _ _ _ hs1 ⟨t,i1,rfl,rfl,rfl⟩;replace h:SH _ _ [oX t [oS p1 code.length k1,vi 0,vi i1] 191,oX p [vi 0,oS U 0 0,vi 0] 84,oX o [vi 0,oS U 0 0,vi 0] 84,oX l [oS U 0 0,oS U 0 0,oS U 0 0,oS U 0 0,oS U 0 0,.string ByteArray.empty,vi 0,vi 0,vi 0,vi 0,oS U 0 0,oS U 0 0] 62]:=SH.appendN h hs1 ⟨fun _ h=>h,trivial⟩;refine X0 5 Z ?_;obtain⟨⟨a,i2,i3⟩,hr2,F⟩:=qd F;refine qaQ (cB 83 Z) (qni (s:=(⟨code,0,i1⟩:Tl01Source)) h (qg5 _ (h.frOldS (s1.mono hg.old))) hr2) Z Z Z Z ?_;rintro _ _ ⟨S1,_,rfl,h⟩;have hr3:=h.grpS 0 0 Z Z;obtain⟨D,u,H,v,I,x,J,y,K,z,L,B,M,C,rfl,_,_,_,_,_,_,_⟩:=qbC hr3;replace h:SH _ _ [oG (fun _=>False) S1 [fct (a:qau) (qbV a D H I J K L M u v x y z B C)],oX t [oS p1 code.length k1,vi i2,vi i3] 191,oX p [vi 0,oS U 0 0,vi 0] 84,oX o [vi 0,oS U 0 0,vi 0] 84,oX l [oS U 0 0,oS U 0 0,oS U 0 0,oS U 0 0,oS U 0 0,.string ByteArray.empty,vi 0,vi 0,vi 0,vi 0,oS U 0 0,oS U 0 0] 62]:=h;refine qi qa h Z Z Z fun _ Q h=>zs 0 h Z fun _ h=>X1 5 0 h Z ?_;replace h:=h.p [2,0,1,3,4,5] Z;obtain⟨⟨d,c,i5,i6⟩,hr5,F⟩:=qd F;refine qaQ (cB 175 Z) (qjx (a_0:=(⟨code,i2,i3⟩:Tl01Source)) (a_1:=a) h (qg5 _ (h.frOldS (s1.mono hg.old))) (h.frG 2 0 1 Z Z Z) hr5) Z Z Z Z ?_;rintro _ _ ⟨S2,_,rfl,h⟩;obtain⟨k,g,rfl,-⟩:=h.own 0 Z;replace h:SH _ _ [oW S2 (c:List Int) [oS k c.length g],oX t [oS p1 code.length k1,vi i5,vi i6] 191,oX Q (qbV a D H I J K L M u v x y z B C) 62,oG (fun _=>False) S1 [fct (a:qau) (qbV a D H I J K L M u v x y z B C)],oX p [vi 0,oS U 0 0,vi 0] 84,oX o [vi 0,oS U 0 0,vi 0] 84,oX l [oS U 0 0,oS U 0 0,oS U 0 0,oS U 0 0,oS U 0 0,.string ByteArray.empty,vi 0,vi 0,vi 0,vi 0,oS U 0 0,oS U 0 0] 62]:=h;refine X0 10 Z (r_v (qA qa [0,1] [.tmp 23,.tmp 24] Z Z Z Z Z Z Z Z) Z (qi qa h Z Z Z fun _ bb6 h=>zs 0 h Z fun _ h=>X1 5 3 h Z ?_));replace h:=h.p [2,0,1,3,4,5,6,7] Z;obtain⟨⟨W,N,i8,i9⟩,hr6,F⟩:=qd F;refine qaQ (cB 175 Z) (qjx (a_0:=(⟨code,i5,i6⟩:Tl01Source)) (a_1:=a) h (qg5 _ (h.frOldS (s1.mono hg.old))) (h.frG 4 0 1 Z Z Z) hr6) Z Z Z Z ?_;rintro _ _ ⟨S3,_,rfl,h⟩;obtain⟨i,f,rfl,-⟩:=h.own 0 Z;replace h:SH _ _ [oW S3 (N:List Int) [oS i N.length f],oX t [oS p1 code.length k1,vi i8,vi i9] 191,oX bb6 [vi d,oS k c.length g,vi 0] 84,oW S2 (c:List Int) [oS k c.length g],oX Q (qbV a D H I J K L M u v x y z B C) 62,oG (fun _=>False) S1 [fct (a:qau) (qbV a D H I J K L M u v x y z B C)],oX p [vi 0,oS U 0 0,vi 0] 84,oX o [vi 0,oS U 0 0,vi 0] 84,oX l [oS U 0 0,oS U 0 0,oS U 0 0,oS U 0 0,oS U 0 0,.string ByteArray.empty,vi 0,vi 0,vi 0,vi 0,oS U 0 0,oS U 0 0] 62]:=h;refine X0 10 Z (r_v (qA qa [0,1] [.tmp 32,.tmp 33] Z Z Z Z Z Z Z Z) Z (qi qa h Z Z Z fun _ _ h=>zs 0 h Z fun _ h=>X0 5 Z ?_));replace h:=h.p [2,0,1,3,4,5,6,7,8,9] Z;obtain⟨⟨_,i11,i12⟩,hr7,F⟩:=qd F;refine qaQ (cB 50 Z) (qi8 (a_0:=(⟨code,i8,i9⟩:Tl01Source)) (a_1:=3) h (qg5 _ (h.frOldS (s1.mono hg.old))) hr7) Z Z Z Z ?_;rintro _ _ ⟨rfl,h⟩;dsimp only at h;refine X0 2 Z (qk Z F ?_ ?_)<;>intro F
 ·refine X0 7 Z ?_;obtain⟨⟨_,_,_⟩,hr8,F⟩:=qd F;refine qaQ (cB 50 Z) (qi8 (a_0:=(⟨code,i11,i12⟩:Tl01Source)) (a_1:=(W64 ((c.length:Int)+1))) h (qg5 _ (h.frOldS (s1.mono hg.old))) hr8) Z Z Z Z ?_;rintro _ _ ⟨rfl,h⟩;dsimp only at h;obtain⟨e,T,F⟩:=qd F;obtain⟨Y,X,S,R,hl1,g1⟩:=qnE (h.sl 4 Z).1 T;refine r_v (qkt qa Z Z Z (qnM g1 (h.sl 4 Z).2) S R hl1 Z Z Z Z) Z (r_v (qA qa [0,1] [.tmp 38,.tmp 45] Z Z Z Z Z Z Z Z) Z (zs 1 h Z fun _ h=>zNS (rA [] [1,3,5] h Z fun _ h=>M3 7 [0,1,2] 2 1 0 (h.p [1,3,5] Z) Z (Ao 3 15 Z (zs 9 h Z fun _ h=>Ag (h.p [1,3,5] Z) (Ao 4 31 Z (zs 8 h Z fun _ h=>Ag (h.p [1,3,5] Z) (Ao 5 63 Z (zs 7 h Z fun _ h=>Ag (h.p [1,3,5] Z) (Ad ?_))))))))));obtain rfl:=qb F;have hv1:GoRs.Rs (ρ:=(qau×qT×qT)) h.wc (reg A w h.wc) (a,(⟨d,c,0⟩:qT),(⟨d,e,0⟩:qT)) [oV qau (qbV a D H I J K L M u v x y z B C),oV qT [vi d,oS k c.length g,vi 0],oV qT [vi d,oS Y e.length X,vi 0]]:=⟨_,_,rfl,(hg.outR h (GoT.mono (Rg.grpR 6 0 h Z Z) (fun _ hb=>hb.elim (fun h=>h.elim) .inr))),⟨_,_,rfl,(hg.outR h (⟨[vi d],[oS k c.length g,vi 0],rfl,rfl,⟨[oS k c.length g],[vi 0],rfl,(Rg.ownR 4 h Z),rfl⟩⟩)),⟨_,rfl,(hg.outR h (qua (⟨d,e,0⟩:qT) (qnH (qlA (Rg.ownR 4 h Z)).1 T S R)))⟩⟩⟩;have O:=h;replace h:=h.p [0,1,2,3,4,5,7,8,9] Z;exact qcy qa (ρ:=(qau×qT×qT)) (r:=(a,(⟨d,c,0⟩:qT),(⟨d,e,0⟩:qT))) [oV qau (qbV a D H I J K L M u v x y z B C),oV qT [vi d,oS k c.length g,vi 0],oV qT [vi d,oS Y e.length X,vi 0]] h ⟨⟨_,_,_,rfl,rfl,O.box 9 Z,rfl⟩,⟨_,_,_,rfl,rfl,O.box 8 Z,rfl⟩,⟨_,_,_,rfl,rfl,O.box 7 Z,rfl⟩,trivial⟩ hv1
 refine zKS (rA [] [1,3,5] h Z fun _ h=>M3 7 [0,1,2] 2 1 0 (h.p [1,3,5] Z) Z (Ao 3 15 Z (zs 9 h Z fun _ h=>Ag (h.p [1,3,5] Z) (Ao 4 31 Z (zs 8 h Z fun _ h=>Ag (h.p [1,3,5] Z) (Ao 5 63 Z (zs 7 h Z fun _ h=>Ag (h.p [1,3,5] Z) (Ad ?_))))))));obtain rfl:=qb F;have hv2:GoRs.Rs (ρ:=(qau×qT×qT)) h.wc (reg A w h.wc) (a,(⟨d,c,0⟩:qT),(⟨W,N,0⟩:qT)) [oV qau (qbV a D H I J K L M u v x y z B C),oV qT [vi d,oS k c.length g,vi 0],oV qT [vi W,oS i N.length f,vi 0]]:=⟨_,_,rfl,(hg.outR h (GoT.mono (Rg.grpR 6 0 h Z Z) (fun _ hb=>hb.elim (fun h=>h.elim) .inr))),⟨_,_,rfl,(hg.outR h (⟨[vi d],[oS k c.length g,vi 0],rfl,rfl,⟨[oS k c.length g],[vi 0],rfl,(Rg.ownR 4 h Z),rfl⟩⟩)),⟨_,rfl,(hg.outR h (⟨[vi W],[oS i N.length f,vi 0],rfl,rfl,⟨[oS i N.length f],[vi 0],rfl,(Rg.ownR 2 h Z),rfl⟩⟩))⟩⟩⟩;have P:=h;replace h:=h.p [0,1,2,3,4,5,7,8,9] Z;exact qcy qa (ρ:=(qau×qT×qT)) (r:=(a,(⟨d,c,0⟩:qT),(⟨W,N,0⟩:qT))) [oV qau (qbV a D H I J K L M u v x y z B C),oV qT [vi d,oS k c.length g,vi 0],oV qT [vi W,oS i N.length f,vi 0]] h ⟨⟨_,_,_,rfl,rfl,P.box 9 Z,rfl⟩,⟨_,_,_,rfl,rfl,P.box 8 Z,rfl⟩,⟨_,_,_,rfl,rfl,P.box 7 Z,rfl⟩,trivial⟩ hv2
def qa2 (n:Nat)(code:(List (IntK .u8))):Option (qau×qT×qT) :=(qhw n code).bind fun o=>match o with| (a,b,c) =>V (a,b,c)
theorem qb1 {A}(Y:∀ b,A b→old w b){code:(List (IntK .u8))}(p:GoT.R w A code cs1){r:(qau×qT×qT)}(F:qa2 n code=V r):RetG prog 34 [oV (List (IntK .u8)) cs1] w A r:=by
 obtain⟨_,_,rfl,s1⟩:=p;have X:=Rg.start Y;refine qcQ func34 Z (m:=10) Z Z (fun h=>?_);refine zSR (qi qa h Z Z Z fun _ _ h=>qi qa h Z Z Z fun _ _ h=>qi qa h Z Z Z fun _ _ h=>X0 4 Z ?_);obtain⟨⟨k,l,o⟩,s,F⟩:=qd F;refine qm1 (k,l,o) X h (cB 101 Z) (qnp (X.atB h) ⟨_,_,rfl,(X.inBS h s1)⟩ s) Z Z Z Z fun _ _ _ h x=>?_;obtain⟨_,_,rfl,c,y⟩:=qct x;have t:=c;obtain⟨N,C,O,D,P,H,Q,I,R,J,S,K,T,L,rfl,_,_,_,_,_,_,_⟩:=qbC c;replace h:=h.grpAdd 0 Z t;obtain⟨_,_,rfl,d,z⟩:=qct y;have u:=d;obtain⟨W,M,rfl,_⟩:=qav d;replace h:=h.grpAdd 0 Z u;obtain⟨_,rfl,f⟩:=qe1 z;have v:=f;obtain⟨i,g,rfl,_⟩:=qav f;replace h:=h.grpAdd 0 Z v;refine zp3 Z (zs 3 h Z fun _ h=>zs 2 h Z fun _ h=>zs 1 h Z fun _ h=>qa7 ?_);obtain rfl:=qb F;have B:GoRs.Rs (ρ:=(qau×qT×qT)) h.wc (reg A w h.wc) (k,l,o) [oV qau (qbV k N O P Q R S T C D H I J K L),oV qT (qes l W M),oV qT (qes o i g)]:=⟨_,_,rfl,(X.outR h (Rg.grpR 0 2 h Z Z)),⟨_,_,rfl,(X.outR h (Rg.grpR 0 1 h Z Z)),⟨_,rfl,(X.outR h (Rg.grpR 0 0 h Z Z))⟩⟩⟩;have a:=h;replace h:=h.p [1,2,3] Z;exact qcy qa (ρ:=(qau×qT×qT)) (r:=(k,l,o)) [oV qau (qbV k N O P Q R S T C D H I J K L),oV qT (qes l W M),oV qT (qes o i g)] h ⟨⟨_,_,_,rfl,rfl,a.box 3 Z,rfl⟩,⟨_,_,_,rfl,rfl,a.box 2 Z,rfl⟩,⟨_,_,_,rfl,rfl,a.box 1 Z,rfl⟩,trivial⟩ B
end Go.Fw


namespace Go.Fw
open Go
structure qlX (x:qax):Prop where
 Bi:okS x.Bi
 Bx:okI x.Bx
 Br:okI x.Br
 Bt:okT x.Bt
structure qiz (x:qL):Prop where
 Bq:(okL okI) x.Bq
 Bn:(okL okI) x.Bn
 Bj:(okL okI) x.Bj
structure qlS (x:qas):Prop where
 Bf:okI x.Bf
 Bk:okI x.Bk
 To:okI x.To
 Bp:okI x.Bp
 Bu:(okL qiz) x.Bu
 Bc:(okL qiz) x.Bc
structure qmX (x:qF):Prop where
 Bi:okS x.Bi
 Bf:okI x.Bf
 Bh:(okL qlX) x.Bh
 Az:(okL qlS) x.Az
 Bs:(okL okI) x.Bs
 Cc:okI x.Cc
 Bz:okI x.Bz
structure qhd (x:qw):Prop where
 As:(okL qmX) x.As
structure qpf (x:qG):Prop where
 Bi:okS x.Bi
 Bv:okI x.Bv
 Am:(okL okI) x.Am
structure qri (x:qaB):Prop where
 Bi:okS x.Bi
 Bx:okI x.Bx
 Cb:okI x.Cb
structure qj5 (x:qh):Prop where
 Ab:(okL qpf) x.Ab
 Am:(okL okS) x.Am
 Ai:(okL qri) x.Ai
structure qom (x:qam):Prop where
 Ak:(okL okI) x.Ak
 Bw:(okL okI) x.Bw
 Br:(okL okI) x.Br
 Bl:(okL okI) x.Bl
structure qkd (x:qe):Prop where
 Ar:qhd x.Ar
 Aa:qj5 x.Aa
 Af:(okL qom) x.Af
structure qoU (x:qy):Prop where
 Bi:okS x.Bi
 Av:okI x.Av
 Ba:okI x.Ba
 Au:okI x.Au
 Bb:okI x.Bb
structure qpC (x:qf):Prop where
 Aq:okI x.Aq
 Bd:okI x.Bd
structure qhj (x:qj):Prop where
 Bo:okI x.Bo
 Ah:qpC x.Ah
 Bc:qpC x.Bc
structure qku (x:qau):Prop where
 Ac:qkd x.Ac
 Aj:qoU x.Aj
 Bg:(okL okI) x.Bg
 Ap:(okL qhj) x.Ap
structure qm3 (x:qT):Prop where
 Bm:okI x.Bm
 Be:(okL okI) x.Be
 Ah:okI x.Ah
structure qxe (x:qu):Prop where
 Ay:(okL okT) x.Ay
 Ah:(okL qpC) x.Ah
 Bc:(okL qpC) x.Bc
structure quD (x:qoC):Prop where
 Cg:okI x.Cg
 Cf:okI x.Cf
structure qrp (x:qi1):Prop where
 Bk:okI x.Bk
 To:okI x.To
 Bu:okI x.Bu
 Ce:okI x.Ce
structure qvp (x:qon):Prop where
 Cd:(okL quD) x.Cd
 Be:(okL qrp) x.Be
end Go.Fw


namespace Go.Fw
open Go
set_option maxRecDepth 100000
theorem qcY {n:Nat}{x lo hi:Int}:qaI n x lo hi=V (inI x lo hi):=by
 simp only[qaI,qmH,qn9];rfl
theorem qdG {n:Nat}{x lo hi:Int}:qa0 n x lo hi=V (inI x lo hi):=by
 simp only[qa0,qmH,qn9];rfl
def bt (s:ByteArray)(j:Nat):Nat:=(s.data.toList.getD j 0).toNat
theorem qvD {s:ByteArray}{j:Nat}(h:j<s.size):atS s (j:Int)=V (bt s j:Int):=by
 have a:j<s.data.size:=h;have b:j<s.data.toList.length:=by simpa using a
 unfold atS;rw[if_pos (by omega),jp];have:s[j]?=V (s.data.toList.getD j 0):=by
  rw[getElem?_pos s j h,jw,jn b]
  rfl
 rw[this]
 rfl
def letB (b:Nat):Bool:=decide (97≤b)&&decide (b≤122)
def digB (b:Nat):Bool:=decide (48≤b)&&decide (b≤57)
def chB (s:ByteArray)(j:Nat):Bool:=letB (bt s j) || digB (bt s j)&&decide (0<j)
def nameB (s:ByteArray):Bool:=(decide (1≤s.size)&&decide (s.size≤8))&&allN (chB s) s.size
theorem ql2 {s:ByteArray}(h:okS s):Ev (fun n=>qgy n s) (nameB s):=by
 unfold okS at h;have d:Ev (fun n=>qeh s n 0) (bif allN (chB s) s.size then .nxt (s.size:Int) else .ret false):=by
  refine qe3 ?_ (fun j a X f=>?_)
  ·exact Ev.succ (by simp only[qeh,qq (jf _),cond_false];exact .done)
  ·refine Ev.succ ?_;simp only[qeh,qp a,cond_true,qvD a,jd,qmH,qn9,wS j];have e1:(decide ((bt s j:Int) ≥ 97)&&decide ((bt s j:Int)≤122))=letB (bt s j):=by unfold letB;rw[jm];simp;omega
   have b:(decide ((bt s j:Int) ≥ 48)&&decide ((bt s j:Int)≤57))=digB (bt s j):=by unfold digB;rw[jm];simp;omega
   have c:decide ((j:Int) > 0)=decide (0<j):=by rw[jm];simp
   rw[e1,b,c];unfold chB;cases letB (bt s j)<;>cases digB (bt s j)<;>cases decide (0<j)<;>first|exact f|exact .done
 unfold qgy;refine Ev.cast (r:=bif allN (chB s) s.size then(decide (1≤s.size)&&decide (s.size≤8)) else false) (Ev.bindB d (fun _=>?_) (fun _=>.done)) ?_
 ·simp only[qmH,qn9];exact Ev.now (by congr 1;rw[jm];simp;omega)
 ·unfold nameB;cases allN (chB s) s.size<;>simp
def cutset:List UInt8:=[97,98,99,100,101,102,103,104,105,106,107,108,109,110,111,112,113,114,115,116,117,118,119,120,121,122,48,49,50,51,52,53,54,55,56,57]
theorem qp7 (b:UInt8):cutset.contains b=(letB b.toNat || digB b.toNat):=by
 have a:(List.range 256).all (fun m=>cutset.contains (UInt8.ofNat m)==(letB (UInt8.ofNat m).toNat || digB (UInt8.ofNat m).toNat))=true:=by kernel_rfl
 have h:=List.all_eq_true.1 a b.toNat (List.mem_range.2 b.toNat_lt);rw[beq_iff_eq] at h;simpa using h
def letters:List UInt8:=[97,98,99,100,101,102,103,104,105,106,107,108,109,110,111,112,113,114,115,116,117,118,119,120,121,122]
theorem qs5 (m:Nat)(b:m<256):decide ((Lib.indexByte letters m.toUInt8) ≥ 0)=letB m:=by
 have a:(List.range 256).all (fun m=>decide ((Lib.indexByte letters m.toUInt8) ≥ 0)==letB m)=true:=by kernel_rfl
 have h:=List.all_eq_true.1 a m (List.mem_range.2 b);rwa [beq_iff_eq] at h
theorem qqA {α:Type}{p:α→Bool}{l:List α}:l.dropWhile p=[]↔∀ x,x ∈ l→p x=true:=by
 induction l with
 | nil=>simp
 | cons y l ih=>
  rw[List.dropWhile_cons];by_cases h:p y=true
  ·rw[if_pos h,ih];simp[h]
  ·rw[if_neg h];simp[h]
theorem qqF {α:Type}{p:α→Bool}{l:List α}(h:∀ x,x ∈ l.dropWhile p→p x=true):∀ x,x ∈ l→p x=true:=by
 induction l with
 | nil=>simp
 | cons y l ih=>
  rw[List.dropWhile_cons] at h;by_cases b:p y=true
  ·rw[if_pos b] at h;intro x a;rcases List.mem_cons.1 a with rfl|a
   ·exact b
   ·exact ih h x a
  ·rw[if_neg b] at h;exact h
theorem qvB {l cs:List UInt8}:Lib.trimS l cs=[]↔∀ x,x ∈ l→cs.contains x=true:=by
 unfold Lib.trimS Lib.trimRightS Lib.trimLeftS;rw[qqA];constructor
 ·intro h x a;exact qqF (p:=(cs.contains ·)) (l:=l.reverse) (fun y b=>h y (List.mem_reverse.2 b)) x (List.mem_reverse.2 a)
 ·intro h x a;exact h x (List.mem_reverse.1 ((List.dropWhile_suffix _).subset (List.mem_reverse.1 a)))
theorem qhT {a b:ByteArray}:(a.toList==b.toList)=decide (a=b):=by
 rw[jm,beq_iff_eq,decide_eq_true_iff];constructor
 ·intro h;exact ByteArray.ext (by have:=congrArg List.toArray h;simpa [ByteArray.toList_eq] using this)
 ·rintro rfl;rfl

theorem qwG {s:ByteArray}{j:Nat}(h:j<s.data.toList.length):bt s j=(s.data.toList[j]).toNat:=by
 unfold bt;rw[jw,jn h];rfl
theorem qxf {s:ByteArray}{j:Nat}:bt s j<256:=UInt8.toNat_lt _
theorem qoN {n:Nat}{s:ByteArray}(h:okS s):qio n s=V (nameB s):=by
 unfold okS at h;have z:s.data.toList.length=s.size:=by simp
 simp only[qio,qdG,jd];cases hI:inI (s.size:Int) 1 8 with
 | false=>
  have k:(decide (1≤s.size)&&decide (s.size≤8))=false:=by rw[qul] at hI;rw[Bool.and_eq_false_iff,decide_eq_false_iff_not,decide_eq_false_iff_not];omega
  simp[nameB,k]
 | true=>
  have k:1≤s.size∧s.size≤8:=by rw[qbb] at hI;omega
  have t:qiE n s (⟨#[97,98,99,100,101,102,103,104,105,106,107,108,109,110,111,112,113,114,115,116,117,118,119,120,121,122,48,49,50,51,52,53,54,55,56,57]⟩:ByteArray)=V ⟨(Lib.trimS s.data.toList cutset).toArray⟩:=by
   unfold qiE;rw[if_pos ⟨by omega,by decide,by decide⟩]
   rfl
  rw[t];simp only[cond_true,jd];have p:(((⟨(Lib.trimS s.data.toList cutset).toArray⟩:ByteArray).toList==(⟨#[]⟩:ByteArray).toList))=allN (fun j=>letB (bt s j) || digB (bt s j)) s.size:=by
   rw[qhT,jm,decide_eq_true_iff,qah];have:((⟨(Lib.trimS s.data.toList cutset).toArray⟩:ByteArray)=⟨#[]⟩)↔Lib.trimS s.data.toList cutset=[]:=by
    constructor
    ·intro i;have:=congrArg (fun x:ByteArray=>x.data.toList) i;simpa using this
    ·intro i;rw[i]
   rw[this,qvB];constructor
   ·intro m j a;have c:j<s.data.toList.length:=by omega
    have:=m _ (jo c);rw[qp7,←qwG c] at this;exact this
   ·intro m x u;obtain⟨j,a,rfl⟩:=jY u;have:=m j (by omega);rw[qp7,←qwG a];exact this
  rw[p];have o:atS s 0=V (bt s 0:Int):=qvD (j:=0) (by omega);have g:decide (Lib.indexByte letters (bt s 0:Int).toNat.toUInt8 ≥ 0)=letB (bt s 0):=by
   rw[jp];exact qs5 _ qxf
  have r:∀ b:Bool,(bif b then(atS s 0).bind fun y=>(qgP n (⟨#[97,98,99,100,101,102,103,104,105,106,107,108,109,110,111,112,113,114,115,116,117,118,119,120,121,122]⟩:ByteArray) (⟨y⟩:IntK .u8)).bind fun v=>V (decide (v ≥ 0)) else V false)=V (b&&letB (bt s 0)):=by
   intro b;cases b with
   | false=>rfl
   | true=>
    rw[o];simp only[cond_true,jd,qgP,jB];exact congrArg V g
  rw[r]
  congr 1
  have l:(decide (1≤s.size)&&decide (s.size≤8))=true:=by simp[k]
  unfold nameB;rw[l,jB,jm,je,qah,qah];simp only[chB,Bool.or_eq_true,je,decide_eq_true_eq];constructor
  ·rintro⟨d,f⟩ j a;rcases Nat.eq_zero_or_pos j with rfl|hp
   ·exact .inl f
   ·exact(d j a).imp id (fun h=>⟨h,hp⟩)
  ·intro d;refine⟨fun j a=>(d j a).imp id (fun h=>h.1),?_⟩;rcases d 0 (by omega) with f|f
   ·exact f
   ·omega
def strAt (xs:List ByteArray)(j:Nat):ByteArray:=xs.getD j ByteArray.empty
theorem qoo {xs:List ByteArray}{j:Nat}(h:j<xs.length):strAt xs j=xs[j]:=by simp[strAt,h]
theorem qpF {xs:List ByteArray}{j:Nat}(h:j<xs.length):idx xs (j:Int)=V (strAt xs j):=by rw[qaZ h,qoo h]
def neB (xs:List ByteArray)(j i:Nat):Bool:=!decide (strAt xs i=strAt xs j)
def namesB (xs:List ByteArray):Bool:=allN (fun j=>nameB (strAt xs j)&&allN (neB xs j) j) xs.length
theorem qmQ {xs:List ByteArray}(h:okL okS xs):Ev (fun n=>qgK n xs) (namesB xs):=by
 have f:=h.len;have c:∀ j,j<xs.length→Ev (fun n=>qeU xs (j:Int) n 0) (bif allN (neB xs j) j then .nxt (j:Int) else .ret false):=by
  intro j a;refine qe3 ?_ (fun i hi X d=>Ev.succ ?_)
  ·exact Ev.succ (by simp only[qeU,qq (jf _),cond_false];exact .done)
  ·simp only[qeU,qp hi,cond_true,qpF (show i<xs.length by omega),qpF a,jd,qhT,wS i];unfold neB;cases decide (strAt xs i=strAt xs j)
   ·exact d
   ·exact .done
 have b:Ev (fun n=>qeX xs n 0) (bif namesB xs then .nxt (xs.length:Int) else .ret false):=by
  refine qe3 ?_ (fun j a X d=>Ev.succ ?_)
  ·exact Ev.succ (by simp only[qeX,qq (jf _),cond_false];exact .done)
  ·simp only[qeX,qp a,cond_true,qpF a,jd,wS j];refine Ev.bind (ql2 (by rw[qoo a];exact h.at a)) ?_;cases nameB (strAt xs j)
   ·exact .done
   ·refine Ev.ff Z (Ev.bind (c j a) ?_);cases allN (neB xs j) j
    ·exact .done
    ·exact d
 unfold qgK;refine Ev.bind b ?_;cases namesB xs<;>exact .done
theorem qsH {xs:List ByteArray}{v:ByteArray}(c:xs.length≤1048576):Ev (fun n=>qfW n xs v) (ixL (fun x=>decide (v=x)) xs):=
 qgb (fin:=(xs.length:Int)) (Lf:=qcg xs v) (pf:=fun _ x=>V (decide (v=x))) (fun _ _=>.done)
  (fun n=>by simp only[qcg,qq (jf _),cond_false])
  (fun n j x a=>by
   have b:=(List.getElem?_eq_some_iff.1 a).1;simp only[qcg,qp b,cond_true,qg8 a,jd,qhT,wS j])
  (fun n=>by unfold qfW;congr 1;funext o;cases o<;>rfl)
theorem qpW {xs:List ByteArray}{v:ByteArray}(a:xs.length≤1048576):Ev (fun n=>qew n xs v) (xs.any fun x=>decide (v=x)):=by
 unfold qew;exact Ev.bind (qsH a) (Ev.now (by rw[qmB]))
theorem qjD {xs:List ByteArray}(h:okL okS xs):Ev (fun n=>qeG n xs) (namesB xs):=by
 have g:=h.len;have b:Ev (fun n=>qeW xs n 0) (bif namesB xs then .nxt (xs.length:Int) else .ret false):=by
  refine qe3 ?_ (fun j a X c=>Ev.succ ?_)
  ·exact Ev.succ (by simp only[qeW,qq (jf _),cond_false];exact .done)
  ·have f:subS xs 0 (j:Int)=V (xs.take j):=by
    unfold subS;rw[if_pos ⟨by omega,by omega,by omega⟩];simp
   simp only[qeW,qp a,cond_true,qpF a,jd,f,qoN (show okS (strAt xs j) by rw[qoo a];exact h.at a),wS j];cases nameB (strAt xs j)
   ·exact .done
   ·refine Ev.ff Z (Ev.bind (qpW (by simp;omega)) ?_);have:((xs.take j).any fun x=>decide (strAt xs j=x)) = !allN (neB xs j) j:=by
     rw[qsd (d:=ByteArray.empty)]
     congr 1
     rw[jM,Nat.min_eq_left (by omega)];refine qie (fun i hi=>?_);unfold neB strAt
     congr 1
     have:(xs.take j).getD i ByteArray.empty=xs.getD i ByteArray.empty:=by simp[jw,hi]
     rw[this];exact decide_eq_decide.2 eq_comm
    rw[this];cases allN (neB xs j) j
    ·exact .done
    ·exact c
 unfold qeG;refine Ev.bind b ?_;cases namesB xs<;>exact .done

theorem qqC {n:Nat}{x lo hi:Int}:qhv n x lo hi=V (!inI x lo hi):=by simp only[qhv,qdG,jd]
theorem qeu {xs:List Int}{lo hi:Int}(d:xs.length≤1048576):Ev (fun n=>qb6 n xs lo hi) (xs.all fun x=>inI x lo hi):=by
 have b:Ev (fun n=>qa9 n xs lo hi) (ixL (fun x=>!inI x lo hi) xs):=
  qgb (fin:=(xs.length:Int)) (Lf:=qan xs lo hi) (pf:=fun _ x=>V (!inI x lo hi)) (fun _ _=>.done)
   (fun n=>by simp only[qan,qq (jf _),cond_false])
   (fun n j x a=>by
    have c:=(List.getElem?_eq_some_iff.1 a).1;simp only[qan,qp c,cond_true,qg8 a,jd,qqC,wS j])
   (fun n=>by unfold qa9;congr 1;funext o;cases o<;>rfl)
 unfold qb6 qbO;refine Ev.bind (Ev.bind b (Ev.now Z)) (Ev.now ?_);rw[qmB,qn4]
def stepB (xs:List Int)(j:Nat):Bool:=decide (j=0) || decide (at0 xs (j-1)<at0 xs j)
def incB (xs:List Int):Bool:=allN (stepB xs) xs.length
theorem qma {xs:List Int}(m:xs.length≤1048576):Ev (fun n=>qfw n xs) (incB xs):=by
 have g:Ev (fun n=>qbH xs n 1) (bif incB xs then .nxt (max 1 xs.length:Int) else .ret false):=by
  by_cases b:xs.length=0
  ·have k:incB xs=true:=by unfold incB;rw[b];rfl
   rw[k];refine Ev.succ ?_;have:decide ((1:Int)<(xs.length:Int))=false:=by rw[b];decide
   simp only[qbH,this,cond_false];exact Ev.now (by rw[b];rfl)
  ·have:=qtt (Lf:=qbH xs) (len:=xs.length) (i0:=1) (f:=stepB xs) (bad:=false) (fin:=.nxt (max 1 xs.length:Int)) (by omega)
    (Ev.succ (by
     simp only[qbH,qq (jf _),cond_false];exact Ev.now (by congr 2;omega)))
    (fun j l a X i=>Ev.succ (by
     simp only[qbH,qp a,cond_true,wS j,show(j:Int)-1=((j-1:Nat):Int) by omega,qR (show -9223372036854775808≤((j-1:Nat):Int) by omega) (by omega),qao (show j-1<xs.length by omega),qao a,jd];unfold stepB;by_cases c:at0 xs (j-1)<at0 xs j
     ·have e1:decide (at0 xs (j-1) ≥ at0 xs j)=false:=by simp;omega
      rw[e1];simp only[c,decide_true,Bool.or_true,cond_true,cond_false];exact i
     ·have e1:decide (at0 xs (j-1) ≥ at0 xs j)=true:=by simp;omega
      have d:decide (j=0)=false:=by simp;omega
      rw[e1,d];simp only[c,decide_false,Bool.or_self,cond_true,cond_false];exact .done))
   have e:allN (fun j=>stepB xs (1+j)) (xs.length-1)=incB xs:=by
    unfold incB;rw[jm,qah,qah];constructor
    ·intro h j a;cases j with
     | zero=>rfl
     | succ j=>have:=h j (by omega);rwa [Nat.add_comm] at this
    ·intro h j a;exact h (1+j) (by omega)
   rw[e] at this;exact this
 unfold qfw;refine Ev.bind g ?_;cases incB xs<;>exact .done
def lenB {α:Type}(xs:List α)(lo hi:Nat):Bool:=decide (lo≤xs.length)&&decide (xs.length≤hi)
theorem qrF {α:Type}{xs:List α}{lo hi:Nat}:inI (xs.length:Int) (lo:Int) (hi:Int)=lenB xs lo hi:=by
 unfold inI lenB;rw[jm];simp
def axisB (xs:List Int):Bool:=lenB xs 1 4&&((xs.all fun x=>inI x 0 100000)&&incB xs)
theorem qrc {xs:List Int}(a:xs.length≤1048576):Ev (fun n=>qjt n xs) (axisB xs):=by
 simp only[qjt,qbF,jd,qdG,show inI (xs.length:Int) 1 4=lenB xs 1 4 from qrF (lo:=1) (hi:=4)];unfold axisB;cases lenB xs 1 4
 ·exact .done
 ·refine Ev.tt Z (Ev.bind (qeu a) ?_);cases (xs.all fun x=>inI x 0 100000)
  ·exact .done
  ·exact Ev.tt Z (Ev.bind (qma a) .done)
theorem qpT {xs:List Int}(k:xs.length≤1048576):Ev (fun n=>qiK n xs) (axisB xs):=by
 have i:Ev (fun n=>qel xs n 0) (bif allN (fun j=>inI (at0 xs j) 0 100000&&stepB xs j) xs.length then .nxt (xs.length:Int) else .ret false):=by
  refine qe3 ?_ (fun j c X a=>Ev.succ ?_)
  ·exact Ev.succ (by simp only[qel,qq (jf _),cond_false];exact .done)
  ·simp only[qel,qp c,cond_true,qao c,jd,qcY,wS j];cases inI (at0 xs j) 0 100000
   ·exact .done
   ·simp only[Jg,cond_false,jB];unfold stepB;by_cases h:j=0
    ·subst h;exact Ev.ff (by decide) a
    ·simp only[show(j:Int)-1=((j-1:Nat):Int) by omega,qR (show -9223372036854775808≤((j-1:Nat):Int) by omega) (by omega),qao (show j-1<xs.length by omega),jd];have f:decide (j=0)=false:=by simp;omega
     have g:decide ((j:Int) > 0)=true:=by simp;omega
     rw[f,g];simp only[cond_true,Bool.false_or];by_cases b:at0 xs (j-1)<at0 xs j
     ·have e1:decide (at0 xs (j-1) ≥ at0 xs j)=false:=by simp;omega
      rw[e1];simp only[b,decide_true,cond_true,cond_false];exact a
     ·have e1:decide (at0 xs (j-1) ≥ at0 xs j)=true:=by simp;omega
      rw[e1];simp only[b,decide_false,cond_true,cond_false];exact .done
 have e:axisB xs=(allN (fun j=>inI (at0 xs j) 0 100000&&stepB xs j) xs.length&&lenB xs 1 4):=by
  unfold axisB incB;rw[qld,qg2 (d:=0),Bool.and_comm]
  rfl
 rw[e];unfold qiK;refine Ev.bind i ?_;cases allN (fun j=>inI (at0 xs j) 0 100000&&stepB xs j) xs.length
 ·exact .done
 ·simp only[cond_true,qmH,qn9,jB];exact Ev.now (by congr 1;unfold lenB;rw[jm];simp;omega)
def tableB (t:qL):Bool:=axisB t.Bq&&(axisB t.Bn&&(decide (t.Bj.length=t.Bq.length*t.Bn.length)&&(t.Bj.all fun x=>inI x (-1000000) 1000000)))
theorem qpE {a b:Nat}(c:a≤1048576)(d:b≤1048576):W64 ((a:Int)*(b:Int))=((a*b:Nat):Int):=by
 have h:a*b≤1048576*1048576:=Nat.mul_le_mul c d;have e:(a:Int)*(b:Int)=((a*b:Nat):Int):=by simp
 rw[e];exact qR (by omega) (by omega)
theorem qsJ {t:qL}(h:qiz t):Ev (fun n=>qj0 n t) (tableB t):=by
 unfold qj0 tableB;refine Ev.bind (qrc h.Bq.len) ?_;cases axisB t.Bq
 ·exact .done
 ·refine Ev.tt Z (Ev.bind (qrc h.Bn.len) ?_);cases axisB t.Bn
  ·exact .done
  ·rw[qpE h.Bq.len h.Bn.len];have e:(((t.Bj.length:Nat):Int)==((t.Bq.length*t.Bn.length:Nat):Int))=decide (t.Bj.length=t.Bq.length*t.Bn.length):=by rw[jm];simp;omega
   rw[e];cases decide (t.Bj.length=t.Bq.length*t.Bn.length)
   ·exact .done
   ·exact Ev.tt Z (Ev.tt Z (Ev.bind (qeu h.Bj.len) .done))
theorem qsl {t:qL}(h:qiz t):Ev (fun n=>qjP n t) (tableB t):=by
 have f:=h.Bj.len;have c:Ev (fun n=>qfk t n 0) (bif (t.Bj.all fun x=>inI x (-1000000) 1000000) then .nxt (t.Bj.length:Int) else .ret false):=
  qog (fun n=>by simp only[qfk,qq (jf _),cond_false]) (fun j a X d=>by
   simp only[qfk,qp a,cond_true,qaZ a,jd,qcY,wS j];cases inI t.Bj[j] (-1000000) 1000000
   ·exact .done
   ·exact d)
 unfold qjP tableB;refine Ev.bind (b:=!(axisB t.Bq&&(axisB t.Bn&&decide (t.Bj.length=t.Bq.length*t.Bn.length)))) ?_ ?_
 ·refine Ev.bind (qpT h.Bq.len) ?_;cases axisB t.Bq
  ·exact .done
  ·refine Ev.ff Z (Ev.bind (qpT h.Bn.len) ?_);cases axisB t.Bn
   ·exact .done
   ·refine Ev.ff Z (Ev.now ?_);rw[qpE h.Bq.len h.Bn.len]
    congr 1
    rw[jm];simp;omega
 ·cases axisB t.Bq
  ·exact .done
  ·cases axisB t.Bn
   ·exact .done
   ·cases decide (t.Bj.length=t.Bq.length*t.Bn.length)
    ·exact .done
    ·refine Ev.ff Z (Ev.bind c ?_);cases (t.Bj.all fun x=>inI x (-1000000) 1000000)<;>exact .done

instance:Inhabited qax:=⟨⟨ByteArray.empty,0,0,false⟩⟩
instance:Inhabited qL:=⟨⟨[],[],[]⟩⟩
instance:Inhabited qas:=⟨⟨0,0,0,0,[],[]⟩⟩
instance:Inhabited qF:=⟨⟨ByteArray.empty,0,[],[],[],0,0⟩⟩
instance:Inhabited qG:=⟨⟨ByteArray.empty,0,[]⟩⟩
instance:Inhabited qaB:=⟨⟨ByteArray.empty,0,0⟩⟩
instance:Inhabited qam:=⟨⟨[],[],[],[]⟩⟩
theorem lastE {j m:Nat}(h:j<m)(a:m≤1048576):((j:Int)==W64 ((m:Int)-1))=decide (j+1=m):=by
 rcases qwd h with h|h
 ·exact h
 ·omega
theorem qkb {α:Type}[Inhabited α]{xs:List α}{g:α→ByteArray}{j:Nat}(h:j<xs.length):strAt (xs.map g) j=g (gt xs j):=by
 rw[qoo (by simpa using h),qeo h];simp
theorem qm7 {α:Type}{xs:List α}{g:α→ByteArray}{ok:α→Prop}(h:okL ok xs)(a:∀ x,ok x→okS (g x)):okL okS (xs.map g):=
 ⟨by rw[jv];exact h.1,fun y c=>by
  obtain⟨x,b,rfl⟩:=List.mem_map.1 c;exact a x (h.2 x b)⟩
theorem qlf {α β:Type}{xs:List α}{g:α→β}{j:Nat}(h:j<xs.length)(a:xs.length≤1048576){y:β}:appS ((xs.take j).map g) [y]=V ((xs.take j).map g++[y]):=
 qcT (by simp;omega)
def pinB (ps:List qax)(j:Nat):Bool:=
 bif decide (j+1=ps.length) then((gt ps j).Bx==2)&&(((gt ps j).Br==0)&&!(gt ps j).Bt) else((gt ps j).Bx==1)&&inI (gt ps j).Br 0 500
def pinsB (ps:List qax):Bool:=allN (pinB ps) ps.length&&(lenB ps 2 5&&namesB (ps.map qax.Bi))
def clkN (ps:List qax)(j:Nat):Nat:=cntP (fun i=>(gt ps i).Bt) j
theorem qs9 {ps:List qax}(h:okL qlX ps):Ev (fun n=>qjZ n ps) (pinsB ps):=by
 have i:=h.len;have l:Ev (fun n=>qdo ps n ([]:List ByteArray) 0) (bif allN (pinB ps) ps.length then .nxt (ps.map qax.Bi,(ps.length:Int)) else .ret false):=by
  refine loopN (Lf:=qdo ps) (S:=fun j=>(ps.take j).map qax.Bi) (pinB ps) (fun n=>?_) (fun j a o X f=>?_)
  ·simp only[qdo,qq (jf _),cond_false,jJ]
  ·simp only[qdo,qp a,cond_true,qz a,jd,qlf a i,qgw (g:=qax.Bi) a,lastE a i,bne,qdu,qdG,wS j];generalize hc:pinB ps j=c at f ⊢;unfold pinB at hc;cases hd:decide (j+1=ps.length)
   ·rw[hd] at hc;simp only[cond_false] at hc ⊢;subst hc;exact Ev.okP (fun b=>Ev.okP1 (fun d=>f (by rw[b,d];rfl)))
   ·rw[hd] at hc;simp only[cond_true] at hc ⊢;subst hc;refine Ev.okP (fun b=>Ev.okP (fun d=>Ev.chkP1 (fun k=>f (by rw[b,d,k];rfl))))
 unfold qjZ pinsB;refine Ev.bind l ?_;cases allN (pinB ps) ps.length
 ·exact .done
 ·simp only[cond_true,qcI,qdG,jd,show inI (ps.length:Int) 2 5=lenB ps 2 5 from qrF (lo:=2) (hi:=5),jB];exact Ev.andP (fun _=>Ev.last (qjD (qm7 h (fun x m=>m.Bi))))
def pinS (ps:List qax)(j:Nat):Bool:=allN (neB (ps.map qax.Bi) j) j&&((nameB (gt ps j).Bi&&inI (gt ps j).Br 0 500)&&(bif decide (j+1=ps.length) then((gt ps j).Bx==2)&&(((gt ps j).Br==0)&&!(gt ps j).Bt) else((gt ps j).Bx==1)))
theorem qvW {ps:List qax}:(lenB ps 2 5&&allN (pinS ps) ps.length)=pinsB ps:=by
 have e:namesB (ps.map qax.Bi)=allN (fun j=>nameB (gt ps j).Bi&&allN (neB (ps.map qax.Bi) j) j) ps.length:=by
  unfold namesB;rw[jv];exact qie (fun j a=>by rw[qkb a])
 unfold pinsB;rw[e,←Bool.and_assoc,Bool.and_comm (allN (pinB ps) ps.length),Bool.and_assoc,←qld]
 congr 1
 refine qie (fun j a=>?_);unfold pinS pinB;cases hd:decide (j+1=ps.length)
 ·simp only[cond_false];cases allN (neB (ps.map qax.Bi) j) j<;>cases nameB (gt ps j).Bi<;>cases inI (gt ps j).Br 0 500<;>cases ((gt ps j).Bx==1)<;>rfl
 ·simp only[cond_true];cases hcap:((gt ps j).Br==0)
  ·simp
  ·have:inI (gt ps j).Br 0 500=true:=by rw[beq_iff_eq] at hcap;rw[hcap];rfl
   rw[this];cases allN (neB (ps.map qax.Bi) j) j<;>cases nameB (gt ps j).Bi<;>cases ((gt ps j).Bx==2)<;>cases (gt ps j).Bt<;>rfl
theorem qsL {c:qF}(h:okL qlX c.Bh):Ev (fun n=>qjQ n c) (bif pinsB c.Bh then(((clkN c.Bh c.Bh.length:Nat):Int),true) else(0,false)):=by
 have s:=h.len;have l:∀ j,j<c.Bh.length→Ev (fun n=>qfm c (j:Int) (gt c.Bh j) n 0) (bif allN (neB (c.Bh.map qax.Bi) j) j then .nxt (j:Int) else .ret (0,false)):=by
  intro j b;refine qe3 ?_ (fun i hi X a=>Ev.succ ?_)
  ·exact Ev.succ (by simp only[qfm,qq (jf _),cond_false];exact .done)
  ·simp only[qfm,qp hi,cond_true,qz (show i<c.Bh.length by omega),jd,qhT,wS i];unfold neB;rw[qkb (g:=qax.Bi) (show i<c.Bh.length by omega),qkb (g:=qax.Bi) b];exact Ev.chkP1 (fun _=>a)
 have k:Ev (fun n=>qds c n 0 0) (bif allN (pinS c.Bh) c.Bh.length then .nxt (((clkN c.Bh c.Bh.length:Nat):Int),(c.Bh.length:Int)) else .ret (0,false)):=by
  refine loopN (Lf:=qds c) (S:=fun j=>((clkN c.Bh j:Nat):Int)) (pinS c.Bh) (fun n=>?_) (fun j b u X a=>?_)
  ·simp only[qds,qq (jf _),cond_false]
  ·have t:clkN c.Bh j≤j:=qgp;have d:((j:Int)==W64 ((c.Bh.length:Int)-1))=decide (j+1=c.Bh.length):=lastE b s;have f:decide ((j:Int)<W64 ((c.Bh.length:Int)-1)) = !decide (j+1=c.Bh.length):=by
    rw[qR (by omega) (by omega),jm];simp;omega
   simp only[qds,qp b,cond_true,qz b,jd,wS j,qhQ (show clkN c.Bh j<9223372036854775807 by omega),d,f,qcY];unfold pinS;refine Ev.bind (l j b) ?_;cases ha:allN (neB (c.Bh.map qax.Bi) j) j
   ·exact .done
   ·simp only[cond_true,jB];refine Ev.chkT ?_ (fun o=>?_)
    ·exact Ev.or (ql2 (qmt h b).Bi) (fun _=>.done)
    ·refine Ev.chkT1 ?_ (fun r=>?_)
     ·cases decide (j+1=c.Bh.length)
      ·exact .done
      ·simp only[cond_true,Jg,cond_false,bne,qdu];cases ((gt c.Bh j).Bx==2)<;>cases ((gt c.Bh j).Br==0)<;>cases (gt c.Bh j).Bt<;>exact .done
     ·have a:=a (by unfold pinS;rw[ha,o,r];rfl);have m:clkN c.Bh (j+1)=clkN c.Bh j+(bif (gt c.Bh j).Bt then 1 else 0):=rfl;rw[m] at a;cases hc:(gt c.Bh j).Bt
      ·rw[hc] at a;exact Ev.ff Z a
      ·rw[hc] at a;exact Ev.tt Z a
 rw[←qvW];unfold qjQ;refine Ev.guard ?_ (fun o=>?_)
 ·unfold lenB;have e1:decide ((c.Bh.length:Int)<2) = !decide (2≤c.Bh.length):=by rw[jm];simp;omega
  have p:decide ((c.Bh.length:Int) > 5) = !decide (c.Bh.length≤5):=by rw[jm];simp;omega
  rw[e1,p];cases decide (2≤c.Bh.length)<;>cases decide (c.Bh.length≤5)<;>exact .done
 ·refine Ev.bind k ?_;cases allN (pinS c.Bh) c.Bh.length<;>exact .done
def mnL (xs:List Int):Int:=(xs.drop 1).foldl (fun m y=>if y<m then y else m) (at0 xs 0)
def mxL (xs:List Int):Int:=(xs.drop 1).foldl (fun m y=>if y > m then y else m) (at0 xs 0)
theorem qp9 {t:qL}(h:tableB t=true):1≤t.Bj.length:=by
 unfold tableB axisB lenB at h;simp only[je,decide_eq_true_eq] at h;obtain⟨⟨⟨a,_⟩,_⟩,⟨⟨b,_⟩,_⟩,c,_⟩:=h;rw[c];exact Nat.mul_pos a b
theorem qvY {xs:List Int}(b:1≤xs.length)(f:xs.length≤1048576):Ev (fun n=>qhy n xs) (mnL xs):=by
 have c:=(qoD (Lf:=fun n t j=>qdb xs n t j) (xs:=xs) (step:=fun(m y:Int)=>if y<m then y else m) (fin:=fun t=>(t,(xs.length:Int))) 1 (at0 xs 0) (fun _ _=>True) b trivial (fun _ _ _ _=>trivial)
  (fun n t=>by simp only[qdb,qq (jf _),cond_false])
  (fun j t a _ X d=>by simpa only[qdb,qp a,cond_true,qaZ a,jd,wS j] using d)).1
 unfold qhy;rw[show decide ((xs.length:Int)<1)=false by simp;omega,show idx xs (0:Int)=V (at0 xs 0) from qao (j:=0) (by omega)];simp only[cond_false,jd];exact Ev.bind c .done
theorem qsU {t:qL}(h:qiz t):Ev (fun n=>qhs n t) (bif tableB t then(⟨mnL t.Bj,mxL t.Bj⟩,0) else(⟨0,0⟩,1)):=by
 unfold qhs;refine Ev.chk1 (qsl h) (fun k=>?_);have g:=qp9 k;have o:=h.Bj.len;have d:=(qoD (Lf:=fun n (c:Int×Int) j=>qde t n c.1 c.2 j) (xs:=t.Bj) (step:=fun(m:Int×Int) y=>(if y<m.1 then y else m.1,if y > m.2 then y else m.2)) (fin:=fun c=>(c.1,c.2,(t.Bj.length:Int))) 1 (at0 t.Bj 0,at0 t.Bj 0) (fun _ _=>True) g trivial (fun _ _ _ _=>trivial)
  (fun n t=>by simp only[qde,qq (jf _),cond_false])
  (fun j t f _ X i=>by simpa only[qde,qp f,cond_true,qaZ f,jd,wS j] using i)).1
 have l:∀ (ys:List Int) (a b:Int),ys.foldl (fun(m:Int×Int) y=>(if y<m.1 then y else m.1,if y > m.2 then y else m.2)) (a,b)=(ys.foldl (fun m y=>if y<m then y else m) a,ys.foldl (fun m y=>if y > m then y else m) b):=by
  intro ys
  induction ys with
  | nil=>intro a b;rfl
  | cons y ys ih=>intro a b;simp only[List.foldl_cons,ih]
 rw[l] at d;rw[show idx t.Bj (0:Int)=V (at0 t.Bj 0) from qao (j:=0) (by omega)];simp only[jd];exact Ev.bind d .done
def tabB (pos:Bool)(t:qL):Bool:=tableB t&&(!pos || decide (0≤mnL t.Bj))
def tablesB (a:List qL)(pos:Bool):Bool:=decide (a.length=2)&&a.all (tabB pos)
theorem ql4 {a:List qL}{pos:Bool}(h:okL qiz a):Ev (fun n=>qfZ n a pos) (tablesB a pos):=by
 have g:=h.len;have c:Ev (fun n=>qaS n a pos) (ixL (fun x=>!tabB pos x) a):=
  qgb (fin:=(a.length:Int)) (Lf:=qZ a pos) (pf:=fun n x=>qhH n x pos) (fun x b=>by
    unfold qhH tabB;refine Ev.or (qsJ (h.2 x b)) (fun d=>?_);cases pos
    ·exact .done
    ·refine Ev.tt Z (Ev.bind (qvY (qp9 d) (h.2 x b).Bj.len) (Ev.now ?_))
     congr 1
     rw[jm];simp)
   (fun n=>by simp only[qZ,qq (jf _),cond_false])
   (fun n j x b=>by
    have f:=(List.getElem?_eq_some_iff.1 b).1;simp only[qZ,qp f,cond_true,qg8 b,jd,wS j])
   (fun n=>by unfold qaS;congr 1;funext o;cases o<;>rfl)
 unfold qfZ qbd tablesB;rw[show((a.length:Int)==2)=decide (a.length=2) by rw[jm];simp;omega];refine Ev.andP (fun _=>Ev.bind (Ev.bind c (Ev.now Z)) (Ev.now ?_));rw[qmB,qn4]
theorem qix {a:List qL}{pos:Bool}(h:okL qiz a):Ev (fun n=>qdU n a pos) (tablesB a pos):=by
 unfold qdU tablesB;rw[show((a.length:Int) != 2) = !decide (a.length=2) by rw[jm];simp;omega];simp only[qdu];refine Ev.andP (fun b=>?_);have b:a.length=2:=by simpa using b
 have f:Ev (fun n=>qc3 a pos n 0) (bif allN (fun j=>tabB pos (gt a j)) a.length then .nxt (2:Int) else .ret false):=by
  refine qe3 (len:=a.length) ?_ (fun j d X c=>Ev.succ ?_)
  ·rw[b];exact Ev.succ (by simp only[qc3];exact .done)
  ·simp only[qc3,show decide ((j:Int)<2)=true by simp;omega,cond_true,qz d,jd,wS j];refine Ev.bind (qsU (qmt h d)) ?_;unfold tabB;cases tableB (gt a j)
   ·exact .done
   ·simp only[cond_true,jB];refine Ev.ff Z ?_;cases pos
    ·exact c
    ·refine Ev.tt Z ?_;rw[show decide (mnL (gt a j).Bj<0) = !decide (0≤mnL (gt a j).Bj) by rw[jm];simp];simp only[qdu];exact Ev.okP1 (fun _=>c)
 rw[qiU];refine Ev.bind f ?_;cases allN (fun j=>tabB pos (gt a j)) a.length<;>exact .done

theorem qdW {α:Type}[Inhabited α]{xs:List α}{x:Int}(a:0≤x)(b:x<xs.length):idx xs x=V (gt xs x.toNat):=by
  have:=qz (xs:=xs) (j:=x.toNat) (by omega);rwa [←qcE a] at this
theorem qq5 {q:Nat→Bool}{m n:Nat}(h:m≤n):cntP q m≤cntP q n:=by
  induction n with
  | zero=>
    obtain rfl:m=0:=by omega
    exact jf _
  | succ n ih=>
    rcases Nat.lt_or_eq_of_le h with h|rfl
    · exact Jd (ih (by omega)) (Nat.le_add_right _ _)
    · exact jf _
theorem qm6 {m k:Nat}:decide ((m:Int)≤(k:Int))=decide (m≤k):=by rw[jm];simp
theorem qsj {q:Nat→Bool}{n i j:Nat}(hi:i<j)(d:j<n)(a:q i=true)(b:q j=true):2≤cntP q n:=by
  have e1:cntP q (i+1)=cntP q i+1:=by rw[cntP,a];rfl
  have c:cntP q (j+1)=cntP q j+1:=by rw[cntP,b];rfl
  have f:=qq5 (q:=q) (show i+1≤j by omega);have g:=qq5 (q:=q) (show j+1≤n by omega);omega
theorem qsi {q:Nat→Bool}{n i j:Nat}(d:cntP q n≤1)(hi:i<n)(c:j<n)(a:q i=true)(b:q j=true):i=j:=by
  rcases Nat.lt_trichotomy i j with h|h|h
  · have:=qsj h c a b;omega
  · exact h
  · have:=qsj h hi b a;omega
def clkIx (ps:List qax):Int:=ixL (fun p=>p.Bt) ps
def clkAt (ps:List qax)(x:Int):Bool:=(gt ps x.toNat).Bt
theorem qvH {c:qF}(f:c.Bh.length≤1048576):Ev (fun n=>qh4 n c) (clkIx c.Bh):=by
  unfold qh4;refine Ev.bind (b:=clkIx c.Bh) ?_ .done;exact qgb (fin:=(c.Bh.length:Int)) (Lf:=qaf c.Bh) (pf:=fun n x=>qiV n x) (fun _ _=>.done)
    (fun n=>by simp only[qaf,qq (jf _),cond_false])
    (fun n j x a=>by
      have d:=(List.getElem?_eq_some_iff.1 a).1;simp only[qaf,qp d,cond_true,qg8 a,jd,wS j])
    (fun n=>by unfold qbG;congr 1;funext o;cases o<;>rfl)
def arcI (ps:List qax)(a:qas):Bool:=
  bif (a.Bf==4) || (a.Bf==5) then
    (a.Bp==0)&&(((a.Bc.length:Int)==0)&&(tablesB a.Bu false&&((a.Bk==clkIx ps)&&(decide (a.Bk ≥ 0)&&(inI a.To 0 (ps.length-2)&&!(a.To==a.Bk))))))
  else
    (tablesB a.Bu true&&(tablesB a.Bc true&&((a.To==(ps.length:Int)-1)&&inI a.Bk 0 (ps.length-2)))) &&
      (bif a.Bf==1 then !clkAt ps a.Bk&&inI a.Bp 1 3 else(bif (a.Bf==2) || (a.Bf==3) then clkAt ps a.Bk&&(a.Bp==0) else false))
def arcS (ps:List qax)(a:qas):Bool:=
  (inI a.Bk 0 (ps.length-2)&&inI a.To 0 (ps.length-1)) &&
    (bif a.Bf==1 then !clkAt ps a.Bk&&((a.To==(ps.length:Int)-1)&&(inI a.Bp 1 3&&(tablesB a.Bu true&&tablesB a.Bc true)))
     else(bif (a.Bf==2) || (a.Bf==3) then clkAt ps a.Bk&&((a.To==(ps.length:Int)-1)&&((a.Bp==0)&&(tablesB a.Bu true&&tablesB a.Bc true)))
     else(bif (a.Bf==4) || (a.Bf==5) then clkAt ps a.Bk&&(decide (a.To<(ps.length:Int)-1)&&(!clkAt ps a.To&&((a.Bp==0)&&(tablesB a.Bu false&&((a.Bc.length:Int)==0))))) else false)))
theorem qo7 {c d:Bool}:(bif c then V c else V d)=V (c || d):=by cases c<;>rfl
theorem qss {c d:Bool}:(bif c then V true else V d)=V (c || d):=by cases c<;>rfl
theorem qtg {n:Nat}{k:Int}:qjN n k=V ((k==4) || (k==5)):=by simp only[qjN,qss]
theorem qu3 {c:qF}{a:qas}(h:okL qlX c.Bh)(b:qlS a)(k:2≤c.Bh.length):Ev (fun n=>qh7 n c a) (arcI c.Bh a):=by
  have i:=h.len;have e1:W64 ((c.Bh.length:Int)-1)=(c.Bh.length:Int)-1:=qfF (by omega);have f:W64 ((c.Bh.length:Int)-1-1)=(c.Bh.length:Int)-2:=by rw[qR (by omega) (by omega)];omega
  simp only[qh7,qtg,jd,qgQ,qeT,qcI,e1,f,qdG,qo7,bne];unfold arcI;refine Ev.iff (fun _=>Ev.last ?_) (fun _=>Ev.guardB ?_ (fun d=>?_))
  · exact Ev.andP fun _=>Ev.andP fun _=>Ev.and (ql4 b.Bu) fun _=>Ev.bind (qvH i) (Ev.andP fun _=>Ev.andP fun _=>Ev.andP fun _=>.done)
  · refine Ev.or (ql4 b.Bu) fun _=>Ev.or (ql4 b.Bc) fun _=>?_
    simp only[qdu];exact Ev.orBP fun _=>.done
  · have g:0≤a.Bk∧a.Bk≤(c.Bh.length:Int)-2:=by
      simp only[je,qbb] at d;exact d.2.2.2
    simp only[qdW g.1 (show a.Bk<(c.Bh.length:Int) by omega),jd];exact Ev.iff (fun _=>Ev.andP fun _=>.done) (fun _=>Ev.iff (fun _=>Ev.andP fun _=>.done) (fun _=>.done))
theorem qt0 {c:qF}{a:qas}(h:okL qlX c.Bh)(b:qlS a)(k:2≤c.Bh.length):Ev (fun n=>qkX n c a) (arcS c.Bh a):=by
  have i:=h.len;have e1:W64 ((c.Bh.length:Int)-1)=(c.Bh.length:Int)-1:=qfF (by omega);have g:W64 ((c.Bh.length:Int)-1-1)=(c.Bh.length:Int)-2:=by rw[qR (by omega) (by omega)];omega
  simp only[qkX,jd,e1,g,qcY,qo7];unfold arcS;refine Ev.guardB ?_ (fun d=>?_)
  · simp only[qdu]
    exact Ev.orBP fun _=>.done
  · have f:(0≤a.Bk∧a.Bk≤(c.Bh.length:Int)-2)∧(0≤a.To∧a.To≤(c.Bh.length:Int)-1):=by
      simp only[je,qbb] at d;exact d
    simp only[qdW f.1.1 (show a.Bk<(c.Bh.length:Int) by omega),qdW f.2.1 (show a.To<(c.Bh.length:Int) by omega),jd];refine Ev.iff (fun _=>?_) (fun _=>Ev.iff (fun _=>?_) (fun _=>Ev.iff (fun _=>?_) (fun _=>.done)))
    · exact Ev.andP fun _=>Ev.andP fun _=>Ev.andP fun _=>Ev.and (qix b.Bu) fun _=>Ev.last (qix b.Bc)
    · exact Ev.andP fun _=>Ev.andP fun _=>Ev.andP fun _=>Ev.and (qix b.Bu) fun _=>Ev.last (qix b.Bc)
    · exact Ev.andP fun _=>Ev.andP fun _=>Ev.andP fun _=>Ev.andP fun _=>Ev.and (qix b.Bu) fun _=>.done
theorem qoy {ps:List qax}(f:clkN ps ps.length≤1){x:Int}(k:0≤x):clkIx ps=x↔x<ps.length∧clkAt ps x=true:=by
  unfold clkIx ixL;cases hf:ps.findIdx? (fun p=>p.Bt) with
  | some j=>
    obtain⟨d,i,_⟩:=List.findIdx?_eq_some_iff_getElem.1 hf;have b:(gt ps j).Bt=true:=by rw[qeo d];exact i
    constructor
    · intro e
      have e:(j:Int)=x:=e;subst e;exact⟨by omega,by unfold clkAt;rw[jp];exact b⟩
    · rintro⟨g,a⟩
      have:=qsi f d (show x.toNat<ps.length by omega) b a;show(j:Int)=x;omega
  | none=>
    have h:=List.findIdx?_eq_none_iff.1 hf;constructor
    · intro e
      have e:(-1:Int)=x:=e;omega
    · rintro⟨g,a⟩
      have c:x.toNat<ps.length:=by omega
      unfold clkAt at a;rw[qeo c] at a;have:=h _ (jo c);rw[a] at this;exact absurd this (by decide)
theorem qhc {ps:List qax}(h:pinsB ps=true):(2≤ps.length∧ps.length≤5)∧clkAt ps ((ps.length:Int)-1)=false:=by
  unfold pinsB lenB at h;simp only[je,decide_eq_true_eq] at h;refine⟨h.2.1,?_⟩;have a:=qah.1 h.1 (ps.length-1) (by omega);unfold pinB at a;rw[show decide (ps.length-1+1=ps.length)=true by simp;omega] at a;simp only[cond_true,je,jF] at a;unfold clkAt;rw[show((ps.length:Int)-1).toNat=ps.length-1 by omega];exact a.2.2
theorem qvu {ps:List qax}{a:qas}(h:pinsB ps=true)(b:clkN ps ps.length≤1):arcI ps a=arcS ps a:=by
  obtain⟨⟨D,z⟩,l⟩:=qhc h;rw[jm];unfold arcI arcS;cases h45:((a.Bf==4) || (a.Bf==5)) with
  | true=>
    have B:(a.Bf==1)=false:=by simp at h45 ⊢;omega
    have u:((a.Bf==2) || (a.Bf==3))=false:=by simp at h45 ⊢;omega
    rw[B,u];simp only[cond_true,cond_false,je,qbb,decide_eq_true_eq,beq_iff_eq,jF,beq_eq_false_iff_ne,ne_eq];constructor
    · rintro⟨t,m,s,p,o,r,A⟩
      obtain⟨C,n⟩:=(qoy b o).1 p.symm;have x:a.Bk ≠ (ps.length:Int)-1:=by intro e;rw[e,l] at n;cases n
      refine⟨⟨⟨o,by omega⟩,⟨r.1,by omega⟩⟩,n,by omega,?_,t,s,m⟩;cases c:clkAt ps a.To with
      | false=>rfl
      | true=>
        have:=(qoy b r.1).2 ⟨by omega,c⟩;omega
    · rintro⟨⟨p,r⟩,n,y,c,t,s,m⟩
      have:=(qoy b p.1).2 ⟨by omega,n⟩;refine⟨t,m,s,this.symm,p.1,⟨r.1,by omega⟩,?_⟩;intro e;rw[e,n] at c;cases c
  | false=>
    simp only[cond_false,je,qbb,beq_iff_eq];cases (a.Bf==1)
    · cases ((a.Bf==2) || (a.Bf==3))
      · simp
      · simp only[cond_true,cond_false,je,beq_iff_eq]
        constructor
        · rintro⟨⟨b,d,f,g⟩,i,k⟩
          exact⟨⟨g,by omega⟩,i,f,k,b,d⟩
        · rintro⟨⟨g,v⟩,i,f,k,b,d⟩
          exact⟨⟨b,d,f,g⟩,i,k⟩
    · simp only[cond_true,je,qbb,jF,beq_iff_eq]
      constructor
      · rintro⟨⟨b,d,f,g⟩,i,k⟩
        exact⟨⟨g,by omega⟩,i,f,k,b,d⟩
      · rintro⟨⟨g,v⟩,i,f,k,b,d⟩
        exact⟨⟨b,d,f,g⟩,i,k⟩
theorem qqW {ps:List qax}{a:qas}(h:arcS ps a=true):1≤a.Bf∧a.Bf≤5:=by
  unfold arcS at h;rw[je] at h;have h:=h.2;cases h1:(a.Bf==1)
  · cases h2:((a.Bf==2) || (a.Bf==3))
    · cases h4:((a.Bf==4) || (a.Bf==5))
      · rw[h1,h2,h4] at h;cases h
      · simp at h4;omega
    · simp at h2;omega
  · simp at h1;omega
def sameArc (x y:qas):Bool:=(x.Bf==y.Bf)&&((x.Bk==y.Bk)&&(x.To==y.To))
def newArc (ar:List qas)(j:Nat):Bool:=allN (fun i=>!sameArc (gt ar i) (gt ar j)) j
theorem qsP {c:qF}(h:okL qlX c.Bh)(d:okL qlS c.Az)(m:2≤c.Bh.length):Ev (fun n=>qgS n c) (allN (fun j=>arcI c.Bh (gt c.Az j)&&newArc c.Az j) c.Az.length&&decide (c.Az.length≤8)):=by
  have l:=d.len;have g:∀ (ar:List qas) (y:qas),ar.length≤1048576→Ev (fun n=>qaJ n ar y) (ar.any fun x=>sameArc x y):=by
    intro ar y l;unfold qaJ;refine Ev.bind (b:=ixL (fun x=>sameArc x y) ar) (qgb (fin:=(ar.length:Int)) (Lf:=qX ar y) (pf:=fun n x=>qfX n x y) (fun x _=>?_)
      (fun n=>by simp only[qX,qq (jf _),cond_false])
      (fun n j x f=>by
        have a:=(List.getElem?_eq_some_iff.1 f).1;simp only[qX,qp a,cond_true,qg8 f,jd,wS j])
      (fun n=>by unfold qbn;congr 1;funext o;cases o<;>rfl)) (Ev.now (by rw[qmB]))
    unfold qfX sameArc;exact Ev.andP fun _=>Ev.andP fun _=>.done
  have i:Ev (fun n=>qcL c n 0) (bif allN (fun j=>arcI c.Bh (gt c.Az j)&&newArc c.Az j) c.Az.length then .nxt (c.Az.length:Int) else .ret false):=by
    refine qe3 ?_ (fun j a X k=>Ev.succ ?_)
    · exact Ev.succ (by simp only[qcL,qq (jf _),cond_false];exact .done)
    · simp only[qcL,qp a,cond_true,qz a,jd,qm8 (Nat.le_of_lt a),wS j]
      refine Ev.chk (qu3 h (qmt d a) m) fun _=>Ev.chkT1 ?_ (fun _=>k);refine(g _ _ (by simp;omega)).cast ?_;rw[qu7 (Nat.le_of_lt a)];rfl
  unfold qgS;refine Ev.bind i ?_;cases allN (fun j=>arcI c.Bh (gt c.Az j)&&newArc c.Az j) c.Az.length
  · exact .done
  · refine Ev.now ?_
    show V (decide ((c.Az.length:Int)≤((8:Nat):Int)))=V (true&&decide (c.Az.length≤8));rw[qm6,jB]
def hasB (ar:List qas)(k:Int):Bool:=ar.any fun a=>a.Bf==k
theorem qoz {c:qF}{k:Int}(f:c.Az.length≤1048576):Ev (fun n=>qdR n c k) (hasB c.Az k):=by
  unfold qdR qbD;exact Ev.last (Ev.bind (b:=ixL (fun x=>x.Bf==k) c.Az) (qgb (fin:=(c.Az.length:Int)) (Lf:=qaj c.Az k) (pf:=fun n x=>qjI n x k) (fun x _=>.done)
      (fun n=>by simp only[qaj,qq (jf _),cond_false])
      (fun n j x a=>by
        have d:=(List.getElem?_eq_some_iff.1 a).1;simp only[qaj,qp d,cond_true,qg8 a,jd,wS j])
      (fun n=>by unfold qbS;congr 1;funext o;cases o<;>rfl)) (Ev.now (by rw[qmB];rfl)))
def kindN (ar:List qas)(k:Nat)(j:Nat):Nat:=cntP (fun i=>(gt ar i).Bf==(k:Int)) j
theorem qqO {ar:List qas}{k:Nat}:decide (((kindN ar k ar.length:Nat):Int) > 0)=hasB ar k:=by
  rw[show decide (((kindN ar k ar.length:Nat):Int) > 0)=decide (0<kindN ar k ar.length) by simp];unfold kindN hasB;rw[qr3,qtb]
theorem qs3 {ar:List qas}{k:Nat}:(((kindN ar k ar.length:Nat):Int)==0) = !hasB ar k:=by
  rw[←qqO,jm];simp
theorem qr1 {c:qF}(g:okL qlS c.Az)(h:∀ j,j<c.Az.length→1≤(gt c.Az j).Bf∧(gt c.Az j).Bf≤5):Ev (fun n=>qjh n c) (vecC (fun k=>kindN c.Az k c.Az.length) 6):=by
  have o:=g.len;have d:Ev (fun n=>qdI c n (vecC (fun _=>0) 6) 0) (vecC (fun k=>kindN c.Az k c.Az.length) 6,(c.Az.length:Int)):=by
    refine loopF (Lf:=qdI c) (S:=fun j=>vecC (fun k=>kindN c.Az k j) 6) (len:=c.Az.length) (fun n=>?_) (fun j a X f=>?_)
    · simp only[qdI,qq (jf _),cond_false]
    · obtain⟨p,r⟩:=h j a
      have b:(gt c.Az j).Bf=(((gt c.Az j).Bf.toNat:Nat):Int):=qcE (by omega);have l:kindN c.Az (gt c.Az j).Bf.toNat j≤j:=qgp;simp only[qdI,qp a,cond_true,qz a,jd,wS j];rw[b,qkc (show(gt c.Az j).Bf.toNat<6 by omega)];simp only[jd];rw[qqX (c:=fun k=>kindN c.Az k j) (by show kindN c.Az _ j<_;omega)];have:vecC (fun i=>kindN c.Az i j+(bif decide ((gt c.Az j).Bf.toNat=i) then 1 else 0)) 6=vecC (fun k=>kindN c.Az k (j+1)) 6:=by
        refine qkk (fun k _=>?_);show _=kindN c.Az k j+(bif (gt c.Az j).Bf==(k:Int) then 1 else 0)
        congr 2
        rw[jm];simp;omega
      rw[this];exact f
  unfold qjh;rw[show mkS 6 (0:Int)=V (vecC (fun _=>0) 6) from qne (m:=6) (by omega)];simp only[jd];exact Ev.bind d .done
def kindB (c:qF):Bool:=
  bif c.Bf==1 then(((clkN c.Bh c.Bh.length:Nat):Int)==0)&&(((c.Bs.length:Int)==((2 ^ (c.Bh.length-1):Nat):Int))&&(c.Bs.all fun x=>inI x 0 1))
  else bif c.Bf==2 then(((clkN c.Bh c.Bh.length:Nat):Int)==1)&&(((c.Bs.length:Int)==0)&&(!hasB c.Az 1&&!(hasB c.Az 2==hasB c.Az 3)))
  else bif c.Bf==3 then(((clkN c.Bh c.Bh.length:Nat):Int)==1)&&(((c.Bs.length:Int)==0)&&(hasB c.Az 1&&(hasB c.Az 2&&!hasB c.Az 3)))
  else false
theorem qra {c:qF}(h:kindB c=true):clkN c.Bh c.Bh.length≤1:=by
  unfold kindB at h;cases h1:(c.Bf==1)
  · cases h2:(c.Bf==2)
    · cases h3:(c.Bf==3)
      · rw[h1,h2,h3] at h;cases h
      · rw[h1,h2,h3] at h
        simp only[cond_true,cond_false,je,beq_iff_eq] at h;omega
    · rw[h1,h2] at h
      simp only[cond_true,cond_false,je,beq_iff_eq] at h;omega
  · rw[h1] at h
    simp only[cond_true,je,beq_iff_eq] at h;omega
theorem qso {m:Nat}(a:2≤m)(b:m≤5):shlS 1 (W64 ((m:Int)-1))=V ((2 ^ (m-1):Nat):Int)∧shlS 1 (IntKind.wrap .u64 (W64 ((m:Int)-1)))=V ((2 ^ (m-1):Nat):Int):=by
  have:m=2∨m=3∨m=4∨m=5:=by omega
  rcases this with rfl|rfl|rfl|rfl<;>exact⟨by decide,by decide⟩
theorem qsz {c:qF}(b:qmX c)(k:2≤c.Bh.length)(g:c.Bh.length≤5):Ev (fun n=>qgu n c) (kindB c):=by
  have l:=b.Bh.len;have i:Ev (fun n=>qbo c n 0 0) (((clkN c.Bh c.Bh.length:Nat):Int),(c.Bh.length:Int)):=by
    refine loopF (Lf:=qbo c) (S:=fun j=>((clkN c.Bh j:Nat):Int)) (len:=c.Bh.length) (fun n=>?_) (fun j h X d=>?_)
    · simp only[qbo,qq (jf _),cond_false]
    · have m:clkN c.Bh j≤j:=qgp
      simp only[qbo,qp h,cond_true,qz h,jd,wS j,qhQ (show clkN c.Bh j<9223372036854775807 by omega)];have f:clkN c.Bh (j+1)=clkN c.Bh j+(bif (gt c.Bh j).Bt then 1 else 0):=rfl;rw[f] at d;cases b:(gt c.Bh j).Bt
      · rw[b] at d;exact Ev.ff Z d
      · rw[b] at d;exact Ev.tt Z d
  unfold qgu kindB;refine Ev.bind i ?_;simp only[qeT,qcI,jd,(qso k g).1];have a:=b.Az.len;refine Ev.iff (fun _=>?_) (fun _=>Ev.iff (fun _=>?_) (fun _=>Ev.iff (fun _=>?_) (fun _=>.done)))
  · exact Ev.andP fun _=>Ev.andP fun _=>Ev.last (qeu b.Bs.len)
  · exact Ev.andP fun _=>Ev.andP fun _=>Ev.bind (qoz a) (Ev.andP fun _=>Ev.bind (qoz a) (Ev.bind (qoz a) .done))
  · exact Ev.andP fun _=>Ev.andP fun _=>Ev.and (qoz a) fun _=>Ev.and (qoz a) fun _=>Ev.bind (qoz a) .done
def cellB (c:qF):Bool:=
  nameB c.Bi&&(pinsB c.Bh&&((allN (fun j=>arcI c.Bh (gt c.Az j)&&newArc c.Az j) c.Az.length&&decide (c.Az.length≤8))&&(inI c.Cc 0 100000&&(inI c.Bz 0 100000&&kindB c))))
theorem qt4 {c:qF}(a:qmX c):Ev (fun n=>qkR n c) (cellB c):=by
  simp only[qkR,qoN a.Bi,qdG,jd];unfold cellB;refine Ev.andP fun _=>Ev.and (qs9 a.Bh) fun f=>?_;obtain⟨⟨d,b⟩,_⟩:=qhc f;exact Ev.and (qsP a.Bh a.Az d) fun _=>Ev.andP fun _=>Ev.andP fun _=>Ev.last (qsz a d b)
theorem qs0 {c:qF}(d:qmX c):Ev (fun n=>qkI n c) (cellB c):=by
  have p:=d.Az.len;have r:=d.Bs.len;have e:cellB c=((pinsB c.Bh&&(nameB c.Bi&&(decide (c.Az.length≤8)&&(inI c.Cc 0 100000&&inI c.Bz 0 100000))))&&(allN (fun j=>arcS c.Bh (gt c.Az j)&&newArc c.Az j) c.Az.length&&kindB c)):=by
    unfold cellB;cases l:kindB c
    · simp
    · cases hp:pinsB c.Bh
      · simp
      · rw[qie (fun j _=>by rw[qvu hp (qra l)])]
        cases nameB c.Bi<;>cases allN (fun j=>arcS c.Bh (gt c.Az j)&&newArc c.Az j) c.Az.length<;>cases decide (c.Az.length≤8)<;>cases inI c.Cc 0 100000<;>cases inI c.Bz 0 100000<;>rfl
  rw[e];unfold qkI;refine Ev.bind (qsL d.Bh) ?_;cases hp:pinsB c.Bh
  · exact .done
  · obtain⟨⟨o,m⟩,_⟩:=qhc hp
    simp only[cond_true,jB,Jg,cond_false];refine Ev.guardB ?_ (fun _=>?_)
    · simp only[qcY,jd,qdu]
      refine Ev.orB (ql2 d.Bi) fun _=>?_;rw[show decide ((c.Az.length:Int) > 8) = !decide (c.Az.length≤8) by rw[jm];simp;omega,qdu];exact Ev.orBP fun _=>Ev.orBP fun _=>.done
    · have g:∀ j,j<c.Az.length→Ev (fun n=>qdV c (j:Int) (gt c.Az j) n 0) (bif newArc c.Az j then .nxt (j:Int) else .ret false):=by
        intro j a;refine qe3 ?_ (fun i hi X b=>Ev.succ ?_)
        · exact Ev.succ (by simp only[qdV,qq (jf _),cond_false];exact .done)
        · simp only[qdV,qp hi,cond_true,qz (show i<c.Az.length by omega),jd,wS i]
          unfold sameArc;cases ((gt c.Az i).Bf==(gt c.Az j).Bf)
          · exact b
          · cases ((gt c.Az i).Bk==(gt c.Az j).Bk)
            · exact b
            · cases ((gt c.Az i).To==(gt c.Az j).To)
              · exact b
              · exact .done
      have f:Ev (fun n=>qf8 c n 0) (bif allN (fun j=>arcS c.Bh (gt c.Az j)&&newArc c.Az j) c.Az.length then .nxt (c.Az.length:Int) else .ret false):=by
        refine qe3 ?_ (fun j a X b=>Ev.succ ?_)
        · exact Ev.succ (by simp only[qf8,qq (jf _),cond_false];exact .done)
        · simp only[qf8,qp a,cond_true,qz a,jd,wS j]
          refine Ev.chk (qt0 d.Bh (qmt d.Az a) o) fun _=>Ev.bind (g j a) ?_;cases newArc c.Az j
          · exact .done
          · exact b
      have h:Ev (fun n=>qgf c n 0) (bif (c.Bs.all fun x=>inI x 0 1) then .nxt (c.Bs.length:Int) else .ret false):=
        qog (fun n=>by simp only[qgf,qq (jf _),cond_false]) (fun j a X b=>by
          simp only[qgf,qp a,cond_true,qaZ a,jd,qcY,wS j,qdu];exact Ev.okP1 fun _=>b)
      refine Ev.bind f ?_;cases hA:allN (fun j=>arcS c.Bh (gt c.Az j)&&newArc c.Az j) c.Az.length
      · exact .done
      · have l:∀ j,j<c.Az.length→1≤(gt c.Az j).Bf∧(gt c.Az j).Bf≤5:=fun j a=>by
          have:=qah.1 hA j a;rw[je] at this;exact qqW this.1
        simp only[cond_true,jB];refine Ev.bind (qr1 d.Az l) ?_;simp only[(qso o m).2,jd,
          show idx (vecC (fun k=>kindN c.Az k c.Az.length) 6) (1:Int)=V ((kindN c.Az 1 c.Az.length:Nat):Int) from qkc (k:=1) (by omega),
          show idx (vecC (fun k=>kindN c.Az k c.Az.length) 6) (2:Int)=V ((kindN c.Az 2 c.Az.length:Nat):Int) from qkc (k:=2) (by omega),
          show idx (vecC (fun k=>kindN c.Az k c.Az.length) 6) (3:Int)=V ((kindN c.Az 3 c.Az.length:Nat):Int) from qkc (k:=3) (by omega),qqO,qs3]
        unfold kindB;refine Ev.iff (fun _=>?_) (fun _=>Ev.iff (fun _=>?_) (fun _=>Ev.iff (fun _=>?_) (fun _=>.done)))
        · refine Ev.bind h ?_
          cases (c.Bs.all fun x=>inI x 0 1)
          · exact Ev.now (by simp)
          · exact(Ev.andP (fun _=>.done)).cast (by rw[Bool.and_true])
        · refine(Ev.andP fun _=>Ev.andP fun _=>Ev.andP fun _=>.done).cast ?_
          cases (((clkN c.Bh c.Bh.length:Nat):Int)==1)<;>cases ((c.Bs.length:Int)==0)<;>cases hasB c.Az ((1:Nat):Int)<;>cases hasB c.Az ((2:Nat):Int)<;>cases hasB c.Az ((3:Nat):Int)<;>rfl
        · refine(Ev.andP fun _=>Ev.andP fun _=>Ev.andP fun _=>Ev.andP fun _=>.done).cast ?_
          cases (((clkN c.Bh c.Bh.length:Nat):Int)==1)<;>cases ((c.Bs.length:Int)==0)<;>cases hasB c.Az ((1:Nat):Int)<;>cases hasB c.Az ((2:Nat):Int)<;>cases hasB c.Az ((3:Nat):Int)<;>rfl
def libB (l:qw):Bool:=l.As.all cellB&&(decide (l.As.length≤8)&&namesB (l.As.map qF.Bi))
theorem qrJ {l:qw}(h:qhd l):Ev (fun n=>qiJ n l) (libB l):=by
  have d:=h.As.len;have b:Ev (fun n=>qc5 l n ([]:List ByteArray) 0) (bif allN (fun j=>cellB (gt l.As j)) l.As.length then .nxt (l.As.map qF.Bi,(l.As.length:Int)) else .ret false):=by
    refine loopN (Lf:=qc5 l) (S:=fun j=>(l.As.take j).map qF.Bi) (fun j=>cellB (gt l.As j)) (fun n=>?_) (fun j a i X c=>?_)
    · simp only[qc5,qq (jf _),cond_false,jJ]
    · simp only[qc5,qp a,cond_true,qz a,jd,qlf a d,qgw (g:=qF.Bi) a,wS j]
      exact Ev.chk1 (qt4 (qmt h.As a)) c
  unfold qiJ libB;rw[qiU];refine Ev.bind b ?_;cases allN (fun j=>cellB (gt l.As j)) l.As.length
  · exact .done
  · simp only[cond_true,jB,show decide ((l.As.length:Int)≤8)=decide (l.As.length≤8) from qm6 (k:=8)]
    exact Ev.andP fun _=>Ev.last (qjD (qm7 h.As (fun x f=>f.Bi)))

theorem qtm {c:qF}(h:cellB c=true):nameB c.Bi=true:=by
 unfold cellB at h;rw[je] at h;exact h.1
theorem qje {c:qF}(h:cellB c=true):pinsB c.Bh=true:=by
 unfold cellB at h;simp only[je] at h;exact h.2.1
theorem qqy {l:qw}(h:qhd l):Ev (fun n=>qiW n l) (libB l):=by
 have f:=h.As.len;have c:∀ j,j<l.As.length→Ev (fun n=>qd6 l (j:Int) n 0) (bif allN (neB (l.As.map qF.Bi) j) j then .nxt (j:Int) else .ret false):=by
  intro j a;refine qe3 ?_ (fun i hi X d=>Ev.succ ?_)
  ·exact Ev.succ (by simp only[qd6,qq (jf _),cond_false];exact .done)
  ·simp only[qd6,qp hi,cond_true,qz (show i<l.As.length by omega),qz a,jd,qhT,wS i];unfold neB;rw[qkb (g:=qF.Bi) (show i<l.As.length by omega),qkb (g:=qF.Bi) a];exact Ev.chkP1 (fun _=>d)
 have b:Ev (fun n=>qd1 l n 0) (bif allN (fun j=>cellB (gt l.As j)&&allN (neB (l.As.map qF.Bi) j) j) l.As.length then .nxt (l.As.length:Int) else .ret false):=by
  refine qe3 ?_ (fun j a X d=>Ev.succ ?_)
  ·exact Ev.succ (by simp only[qd1,qq (jf _),cond_false];exact .done)
  ·simp only[qd1,qp a,cond_true,qz a,jd,wS j];refine Ev.chk (qs0 (qmt h.As a)) fun _=>Ev.bind (c j a) ?_;cases allN (neB (l.As.map qF.Bi) j) j
   ·exact .done
   ·exact d
 have e:libB l=(allN (fun j=>cellB (gt l.As j)&&allN (neB (l.As.map qF.Bi) j) j) l.As.length&&decide (l.As.length≤8)):=by
  unfold libB namesB;rw[qiU,jv,Bool.and_comm (decide (l.As.length≤8)),←Bool.and_assoc,←qld]
  congr 1
  refine qie (fun j a=>?_);rw[qkb (g:=qF.Bi) a];cases hc:cellB (gt l.As j)
  ·rfl
  ·rw[qtm hc];rfl
 rw[e];unfold qiW;refine Ev.bind b ?_;cases allN (fun j=>cellB (gt l.As j)&&allN (neB (l.As.map qF.Bi) j) j) l.As.length
 ·exact .done
 ·refine Ev.now ?_;show V (decide ((l.As.length:Int)≤((8:Nat):Int)))=V (true&&decide (l.As.length≤8));rw[qm6,jB]
theorem qlb {c c':Nat→Nat}{m:Nat}{x:Int}(b:0≤x)(h:x<m)(d:c x.toNat<9223372036854775807)(f:∀ k,k<m→c' k=c k+(bif x==(k:Int) then 1 else 0)) :
  idx (vecC c m) x=V (c x.toNat:Int)∧setS (vecC c m) x (W64 ((c x.toNat:Int)+1))=vecC c' m:=by
 have ex:x=(x.toNat:Int):=qcE b;have e1:=qkc (c:=c) (m:=m) (k:=x.toNat) (by omega);have a:=qqX (c:=c) (m:=m) (k:=x.toNat) d;rw[←ex] at e1 a;refine⟨e1,a.trans (qkk (fun k g=>?_))⟩;rw[f k g]
 congr 2
 rw[jm];simp;omega
def netB (d:qh)(x:Int):Bool:=inI x 0 ((d.Am.length:Int)-1)
theorem qsA {n:Nat}{d:qh}{x:Int}(a:d.Am.length≤1048576):qd5 n d x=V (netB d x):=by
 simp only[qd5,qif,jd,qdG,qfF (show d.Am.length≤9223372036854775807 by omega)];rfl
theorem qq7 {n:Nat}{d:qh}{x:Int}(a:d.Am.length≤1048576):qaI n x 0 (W64 ((d.Am.length:Int)-1))=V (netB d x):=by
 rw[qcY,qfF (show d.Am.length≤9223372036854775807 by omega)];rfl
def hasNamesB (d:qh):Bool:=(decide (d.Ab.length≤14)&&(decide (d.Am.length≤30)&&decide (d.Ai.length≤8)))&&(namesB (d.Ab.map qG.Bi)&&(namesB d.Am&&namesB (d.Ai.map qaB.Bi)))
theorem qsa {d:qh}(h:qj5 d):Ev (fun n=>qfz n d) (hasNamesB d):=by
 have i:=h.Ab.len;have l:=h.Ai.len;have b:Ev (fun n=>qbs d n ([]:List ByteArray) 0) (d.Ab.map qG.Bi,(d.Ab.length:Int)):=by
  refine loopF (Lf:=qbs d) (S:=fun j=>(d.Ab.take j).map qG.Bi) (len:=d.Ab.length) (fun n=>?_) (fun j a X f=>?_)
  ·simp only[qbs,qq (jf _),cond_false,jJ]
  ·simpa only[qbs,qp a,cond_true,qz a,jd,qlf a i,qgw (g:=qG.Bi) a,wS j] using f
 have c:Ev (fun n=>qbv d n ([]:List ByteArray) 0) (d.Ai.map qaB.Bi,(d.Ai.length:Int)):=by
  refine loopF (Lf:=qbv d) (S:=fun j=>(d.Ai.take j).map qaB.Bi) (len:=d.Ai.length) (fun n=>?_) (fun j a X f=>?_)
  ·simp only[qbv,qq (jf _),cond_false,jJ]
  ·simpa only[qbv,qp a,cond_true,qz a,jd,qlf a l,qgw (g:=qaB.Bi) a,wS j] using f
 unfold qfz hasNamesB;refine Ev.bind b (Ev.bind c ?_);simp only[jv];rw[show decide ((d.Ab.length:Int)≤14)=decide (d.Ab.length≤14) from qm6 (k:=14),show decide ((d.Am.length:Int)≤30)=decide (d.Am.length≤30) from qm6 (k:=30),show decide ((d.Ai.length:Int)≤8)=decide (d.Ai.length≤8) from qm6 (k:=8)];rw[Bool.and_assoc,Bool.and_assoc];exact Ev.andP fun _=>Ev.andP fun _=>Ev.andP fun _=>Ev.and (qjD (qm7 h.Ab (fun x m=>m.Bi))) fun _=>Ev.and (qjD h.Am) fun _=>Ev.last (qjD (qm7 h.Ai (fun x m=>m.Bi)))
def instB (l:qw)(d:qh)(x:qG):Bool:=inI x.Bv 0 ((l.As.length:Int)-1)&&(((x.Am.length:Int)==((gt l.As x.Bv.toNat).Bh.length:Int))&&x.Am.all (netB d))
theorem qqB {d:qh}{l:qw}{x:qG}(g:d.Am.length≤1048576)(h:l.As.length≤1048576)(a:x.Am.length≤1048576):Ev (fun n=>qex n d l x) (instB l d x):=by
 simp only[qex,qgL,jd,qdG,qfF (show l.As.length≤9223372036854775807 by omega)];unfold instB;refine Ev.andP fun c=>?_;rw[qbb] at c;rw[qdW c.1 (by omega)];simp only[jd];refine Ev.andP fun _=>Ev.bind (b:=x.Am.any fun y=>!netB d y) ?_ (Ev.now (by rw[qn4]));unfold qa3;exact Ev.bind (b:=ixL (fun y=>!netB d y) x.Am) (qgb (fin:=(x.Am.length:Int)) (Lf:=qV x.Am d) (pf:=fun n y=>qdQ n y d) (fun y _=>⟨0,fun n _=>by simp only[qdQ,qsA g,jd]⟩)
   (fun n=>by simp only[qV,qq (jf _),cond_false])
   (fun n j y a=>by
    have f:=(List.getElem?_eq_some_iff.1 a).1;simp only[qV,qp f,cond_true,qg8 a,jd,wS j])
   (fun n=>by unfold qbi;congr 1;funext o;cases o<;>rfl)) (Ev.now (by rw[qmB]))
def portB (d:qh)(p:qaB):Bool:=inI p.Bx 1 2&&netB d p.Cb
theorem qwQ {x:Int}:inI x 1 2=((x==1) || (x==2)):=by
 unfold inI;rw[jm];simp;omega
def lastN (x:qG):Int:=at0 x.Am (x.Am.length-1)
theorem qrS {x:qG}(a:1≤x.Am.length)(b:x.Am.length≤1048576):idx x.Am (W64 ((x.Am.length:Int)-1))=V (lastN x):=by
 rw[qfF (by omega),show((x.Am.length:Int)-1)=((x.Am.length-1:Nat):Int) by omega,qao (by omega)];rfl
theorem qtR {d:qh}{x:qG}(a:1≤x.Am.length)(h:x.Am.all (netB d)=true):0≤lastN x∧lastN x<d.Am.length:=by
 rw[qg2 (d:=0),qah] at h;have:=h (x.Am.length-1) (by omega);unfold netB at this;rw[qbb] at this;unfold lastN at0;omega
theorem qpX {l:qw}{d:qh}{x:qG}(a:libB l=true)(h:instB l d x=true):1≤x.Am.length∧0≤lastN x∧lastN x<d.Am.length:=by
 unfold instB at h;simp only[je,qbb,beq_iff_eq] at h;obtain⟨g,i,f⟩:=h;unfold libB at a;simp only[je] at a;have c:=a.1;rw[qiU,qah] at c;have:=qhc (qje (c x.Bv.toNat (by omega)));have b:1≤x.Am.length:=by omega
 exact⟨b,qtR b f⟩
def drvI (d:qh)(k j:Nat):Nat:=cntP (fun i=>lastN (gt d.Ab i)==(k:Int)) j
def drvP (d:qh)(k j:Nat):Nat:=cntP (fun i=>((gt d.Ai i).Bx==1)&&((gt d.Ai i).Cb==(k:Int))) j
def drvB (d:qh):Bool:=allN (fun k=>((drvI d k d.Ab.length+drvP d k d.Ai.length:Nat):Int)==1) d.Am.length
def designB (l:qw)(d:qh):Bool:=(libB l&&hasNamesB d)&&(d.Ab.all (instB l d)&&(d.Ai.all (portB d)&&drvB d))
theorem qoV {d:qh}{k j:Nat}:drvI d k (j+1)=drvI d k j+(bif lastN (gt d.Ab j)==(k:Int) then 1 else 0):=rfl
theorem qm5 {d:qh}{k j:Nat}:drvP d k (j+1)=drvP d k j+(bif ((gt d.Ai j).Bx==1)&&((gt d.Ai j).Cb==(k:Int)) then 1 else 0):=rfl
theorem qsq {l:qw}{d:qh}(h:qhd l)(g:qj5 d):Ev (fun n=>qjj n l d) (designB l d):=by
 have I:=g.Ab.len;have J:=g.Ai.len;have i:=g.Am.len;have v:=h.As.len;unfold qjj designB;refine Ev.guardB (Ev.or (qrJ h) fun _=>Ev.neg (qsa g)) fun z=>?_;rw[je] at z;rw[qne (m:=d.Am.length) (by omega)];simp only[jd];have t:Ev (fun n=>qdE l d n (vecC (fun _=>0) d.Am.length) 0) (bif allN (fun j=>instB l d (gt d.Ab j)) d.Ab.length then .nxt (vecC (fun k=>drvI d k d.Ab.length) d.Am.length,(d.Ab.length:Int)) else .ret false):=by
  refine loopN (Lf:=qdE l d) (S:=fun j=>vecC (fun k=>drvI d k j) d.Am.length) (fun j=>instB l d (gt d.Ab j)) (fun n=>?_) (fun j a K X f=>?_)
  ·simp only[qdE,qq (jf _),cond_false]
  ·simp only[qdE,qp a,cond_true,qz a,jd,wS j];have p:=(qmt g.Ab a).Am.len;refine Ev.chk1 (qqB i v p) fun hi=>?_;obtain⟨r,B,C⟩:=qpX z.1 hi;have L:drvI d (lastN (gt d.Ab j)).toNat j≤j:=qgp;obtain⟨e1,s⟩:=qlb (c:=fun k=>drvI d k j) (c':=fun k=>drvI d k (j+1)) B C (by show drvI _ _ _<_;omega) (fun k _=>qoV);simp only[qrS r p,jd,e1,s];exact f hi
 have u:Ev (fun n=>qcJ d n (vecC (fun k=>drvI d k d.Ab.length) d.Am.length) 0) (bif allN (fun j=>portB d (gt d.Ai j)) d.Ai.length then .nxt (vecC (fun k=>drvI d k d.Ab.length+drvP d k d.Ai.length) d.Am.length,(d.Ai.length:Int)) else .ret false):=by
  refine loopN (Lf:=qcJ d) (S:=fun j=>vecC (fun k=>drvI d k d.Ab.length+drvP d k j) d.Am.length) (fun j=>portB d (gt d.Ai j)) (fun n=>?_) (fun j a K X f=>?_)
  ·simp only[qcJ,qq (jf _),cond_false]
  ·simp only[qcJ,qp a,cond_true,qz a,jd,qsA i,bne,wS j];refine Ev.chkT1 ?_ fun hi=>?_
   ·unfold portB;rw[qwQ];cases ((gt d.Ai j).Bx==1)<;>cases ((gt d.Ai j).Bx==2)<;>exact .done
   ·have f:=f hi;unfold portB netB at hi;simp only[je,qbb] at hi;have D:drvI d (gt d.Ai j).Cb.toNat d.Ab.length≤d.Ab.length:=qgp;have F:drvP d (gt d.Ai j).Cb.toNat j≤j:=qgp;cases r:((gt d.Ai j).Bx==1)
    ·have:vecC (fun k=>drvI d k d.Ab.length+drvP d k (j+1)) d.Am.length=vecC (fun k=>drvI d k d.Ab.length+drvP d k j) d.Am.length:=by
      refine qkk (fun k _=>?_);rw[qm5,r];rfl
     rw[this] at f;exact f
    ·obtain⟨e1,s⟩:=qlb (c:=fun k=>drvI d k d.Ab.length+drvP d k j) (c':=fun k=>drvI d k d.Ab.length+drvP d k (j+1)) (x:=(gt d.Ai j).Cb) (m:=d.Am.length) hi.2.1 (by omega) (by show drvI _ _ _+drvP _ _ _<_;omega) (fun k _=>by rw[qm5,r,jB];omega);simp only[cond_true,jd,e1,s];exact f
 rw[qiU,qiU];refine Ev.bind t ?_;cases allN (fun j=>instB l d (gt d.Ab j)) d.Ab.length
 ·exact .done
 ·refine Ev.bind u ?_;cases allN (fun j=>portB d (gt d.Ai j)) d.Ai.length
  ·exact .done
  ·simp only[cond_true,jB];unfold qb3;refine Ev.bind (b:=(vecC (fun k=>drvI d k d.Ab.length+drvP d k d.Ai.length) d.Am.length).any fun x=>!(x==1)) (Ev.bind (b:=ixL (fun x=>!(x==1)) (vecC (fun k=>drvI d k d.Ab.length+drvP d k d.Ai.length) d.Am.length)) (qgb (fin:=(((vecC (fun k=>drvI d k d.Ab.length+drvP d k d.Ai.length) d.Am.length).length:Nat):Int)) (Lf:=qat (vecC (fun k=>drvI d k d.Ab.length+drvP d k d.Ai.length) d.Am.length)) (pf:=fun n y=>qjJ n y) (fun y _=>.done)
    (fun n=>by simp only[qat,qq (jf _),cond_false])
    (fun n j y A=>by
     have a:=(List.getElem?_eq_some_iff.1 A).1;have:j<d.Am.length:=by rw[qmI] at a;exact a
     simp only[qat,qp a,cond_true,qg8 A,jd,wS j])
    (fun n=>by unfold qcm;congr 1;funext o;cases o<;>rfl)) (Ev.now (by rw[qmB]))) (Ev.now ?_)
   rw[qn4,qg2 (d:=0),qmI];unfold drvB
   congr 1
   exact qie (fun k H=>by
    have:=qr2 (c:=fun k=>drvI d k d.Ab.length+drvP d k d.Ai.length) H;unfold at0 at this;rw[this])
theorem qsb {l:qw}{d:qh}(h:qhd l)(f:qj5 d):Ev (fun n=>qjk n l d) (d.Ab.all (instB l d)&&d.Ai.all (portB d)):=by
 have r:=f.Ab.len;have s:=f.Ai.len;have c:=f.Am.len;have p:=h.As.len;have i:∀ x:qG,x.Am.length≤1048576→Ev (fun n=>qeN d x n 0) (bif x.Am.all (netB d) then .nxt (x.Am.length:Int) else .ret false):=fun x t=>
  qog (fun n=>by simp only[qeN,qq (jf _),cond_false]) (fun j a X b=>by
   simp only[qeN,qp a,cond_true,qaZ a,jd,qq7 c,wS j,qdu];exact Ev.okP1 fun _=>b)
 have g:Ev (fun n=>qeL l d n 0) (bif allN (fun j=>instB l d (gt d.Ab j)) d.Ab.length then .nxt (d.Ab.length:Int) else .ret false):=by
  refine qe3 ?_ (fun j a X b=>Ev.succ ?_)
  ·exact Ev.succ (by simp only[qeL,qq (jf _),cond_false];exact .done)
  ·simp only[qeL,qp a,cond_true,qz a,jd,qcY,qfF (show l.As.length≤9223372036854775807 by omega),wS j,bne];have m:=(qmt f.Ab a).Am.len;unfold instB;rw[←Bool.and_assoc];refine Ev.chkT ?_ fun _=>Ev.bind (i _ m) ?_
   ·simp only[qdu];refine Ev.orBP fun o=>?_;rw[qbb] at o;rw[qdW o.1 (by omega)];exact .done
   ·cases (gt d.Ab j).Am.all (netB d)
    ·exact .done
    ·exact b
 have k:Ev (fun n=>qeI d n 0) (bif allN (fun j=>portB d (gt d.Ai j)) d.Ai.length then .nxt (d.Ai.length:Int) else .ret false):=by
  refine qe3 ?_ (fun j a X b=>Ev.succ ?_)
  ·exact Ev.succ (by simp only[qeI,qq (jf _),cond_false];exact .done)
  ·simp only[qeI,qp a,cond_true,qz a,jd,qq7 c,wS j];simp only[qcY,jd,qdu];unfold portB;exact Ev.okP fun _=>Ev.okP1 fun _=>b
 unfold qjk;rw[qiU,qiU];refine Ev.bind g ?_;cases allN (fun j=>instB l d (gt d.Ab j)) d.Ab.length
 ·exact .done
 ·refine Ev.bind k ?_;cases allN (fun j=>portB d (gt d.Ai j)) d.Ai.length<;>exact .done
theorem qrA {l:qw}{d:qh}(h:qhd l)(i:qj5 d):Ev (fun n=>qjo n l d) (designB l d):=by
 have J:=i.Ab.len;have K:=i.Ai.len;have W:=i.Am.len;have T:=h.As.len;have e:designB l d=((libB l&&(decide (d.Ab.length≤14)&&(decide (d.Am.length≤30)&&(decide (d.Ai.length≤8)&&(d.Ab.all (instB l d)&&d.Ai.all (portB d))))))&&((namesB (d.Ab.map qG.Bi)&&(namesB (d.Ai.map qaB.Bi)&&namesB d.Am))&&drvB d)):=by
  unfold designB hasNamesB;generalize libB l=a1;generalize decide (d.Ab.length≤14)=a2;generalize decide (d.Am.length≤30)=a3;generalize decide (d.Ai.length≤8)=a4;generalize d.Ab.all (instB l d)=a5;generalize d.Ai.all (portB d)=a6;generalize namesB (d.Ab.map qG.Bi)=a7;generalize namesB (d.Ai.map qaB.Bi)=a8;generalize namesB d.Am=a9;generalize drvB d=a10;rw[jm];simp only[je];constructor
  ·rintro⟨⟨f,⟨p,r,u⟩,z,B,A⟩,v,y,o⟩;exact⟨⟨f,p,r,u,v,y⟩,⟨z,A,B⟩,o⟩
  ·rintro⟨⟨f,p,r,u,v,y⟩,⟨z,A,B⟩,o⟩;exact⟨⟨f,⟨p,r,u⟩,z,B,A⟩,v,y,o⟩
 rw[e];unfold qjo;refine Ev.guardB ?_ fun P=>?_
 ·refine Ev.or (qqy h) fun _=>?_;rw[show decide ((d.Ab.length:Int) > 14) = !decide (d.Ab.length≤14) by rw[jm];simp;omega,show decide ((d.Am.length:Int) > 30) = !decide (d.Am.length≤30) by rw[jm];simp;omega,show decide ((d.Ai.length:Int) > 8) = !decide (d.Ai.length≤8) by rw[jm];simp;omega];simp only[qdu];exact Ev.orBP fun _=>Ev.orBP fun _=>Ev.orBP fun _=>Ev.neg (qsb h i)
 ·simp only[je] at P;obtain⟨s,_,_,_,N,O⟩:=P;rw[qiU,qah] at N O;have C:Ev (fun n=>qdC d n ([]:List ByteArray) 0) (d.Ab.map qG.Bi,(d.Ab.length:Int)):=by
   refine loopF (Lf:=qdC d) (S:=fun j=>(d.Ab.take j).map qG.Bi) (len:=d.Ab.length) (fun n=>?_) (fun j a X b=>?_)
   ·simp only[qdC,qq (jf _),cond_false,jJ]
   ·simpa only[qdC,qp a,cond_true,qz a,jd,qlf a J,qgw (g:=qG.Bi) a,wS j] using b
  have D:Ev (fun n=>qdK d n ([]:List ByteArray) 0) (d.Ai.map qaB.Bi,(d.Ai.length:Int)):=by
   refine loopF (Lf:=qdK d) (S:=fun j=>(d.Ai.take j).map qaB.Bi) (len:=d.Ai.length) (fun n=>?_) (fun j a X b=>?_)
   ·simp only[qdK,qq (jf _),cond_false,jJ]
   ·simpa only[qdK,qp a,cond_true,qz a,jd,qlf a K,qgw (g:=qaB.Bi) a,wS j] using b
  have F:Ev (fun n=>qdz d n (vecC (fun _=>0) d.Am.length) 0) (vecC (fun k=>drvI d k d.Ab.length) d.Am.length,(d.Ab.length:Int)):=by
   refine loopF (Lf:=qdz d) (S:=fun j=>vecC (fun k=>drvI d k j) d.Am.length) (len:=d.Ab.length) (fun n=>?_) (fun j a X b=>?_)
   ·simp only[qdz,qq (jf _),cond_false]
   ·have M:=(qmt i.Ab a).Am.len;obtain⟨f,p,r⟩:=qpX s (N j a);have Y:drvI d (lastN (gt d.Ab j)).toNat j≤j:=qgp;obtain⟨e1,t⟩:=qlb (c:=fun k=>drvI d k j) (c':=fun k=>drvI d k (j+1)) p r (by show drvI _ _ _<_;omega) (fun k _=>qoV);simpa only[qdz,qp a,cond_true,qz a,jd,wS j,qrS f M,e1,t] using b
  have H:Ev (fun n=>qcS d n (vecC (fun k=>drvI d k d.Ab.length) d.Am.length) 0) (vecC (fun k=>drvI d k d.Ab.length+drvP d k d.Ai.length) d.Am.length,(d.Ai.length:Int)):=by
   refine loopF (Lf:=qcS d) (S:=fun j=>vecC (fun k=>drvI d k d.Ab.length+drvP d k j) d.Am.length) (len:=d.Ai.length) (fun n=>?_) (fun j a X b=>?_)
   ·simp only[qcS,qq (jf _),cond_false]
   ·have hi:=O j a;unfold portB netB at hi;simp only[je,qbb] at hi;have Q:drvI d (gt d.Ai j).Cb.toNat d.Ab.length≤d.Ab.length:=qgp;have R:drvP d (gt d.Ai j).Cb.toNat j≤j:=qgp;simp only[qcS,qp a,cond_true,qz a,jd,wS j];cases f:((gt d.Ai j).Bx==1)
    ·have:vecC (fun k=>drvI d k d.Ab.length+drvP d k (j+1)) d.Am.length=vecC (fun k=>drvI d k d.Ab.length+drvP d k j) d.Am.length:=by
      refine qkk (fun k _=>?_);rw[qm5,f];rfl
     rw[this] at b;exact b
    ·obtain⟨e1,t⟩:=qlb (c:=fun k=>drvI d k d.Ab.length+drvP d k j) (c':=fun k=>drvI d k d.Ab.length+drvP d k (j+1)) (x:=(gt d.Ai j).Cb) (m:=d.Am.length) hi.2.1 (by omega) (by show drvI _ _ _+drvP _ _ _<_;omega) (fun k _=>by rw[qm5,f,jB];omega);simp only[cond_true,jd,e1,t];exact b
  have I:Ev (fun n=>qeV (vecC (fun _=>0) d.Am.length) (vecC (fun k=>drvI d k d.Ab.length+drvP d k d.Ai.length) d.Am.length) n 0) (bif drvB d then .nxt (d.Am.length:Int) else .ret false):=by
   refine qe3 ?_ (fun j a X b=>Ev.succ ?_)
   ·exact Ev.succ (by simp only[qeV,qmI,qq (jf _),cond_false];exact .done)
   ·simp only[qeV,qmI,qp a,cond_true,qkc a,jd,bne,qdu,wS j];exact Ev.okP1 fun _=>b
  refine Ev.bind C (Ev.bind D ?_);refine Ev.guardB (Ev.or (qmQ (qm7 i.Ab (fun x L=>L.Bi))) fun _=>Ev.or (qmQ (qm7 i.Ai (fun x L=>L.Bi))) fun _=>Ev.neg (qmQ i.Am)) fun _=>?_;rw[qne (m:=d.Am.length) (by omega)];simp only[jd];refine Ev.bind F (Ev.bind H (Ev.bind I ?_));cases drvB d<;>exact .done

theorem qvK {m k:Nat}:decide ((m:Int)<(k:Int)) = !decide (k≤m):=by rw[jm];simp
theorem qvS {m k:Nat}:decide ((m:Int) > (k:Int)) = !decide (m≤k):=by rw[jm];simp
def treeB (w:qam)(j:Nat):Bool:=bif decide (j=0) then(at0 w.Ak j==-1)&&(at0 w.Bw j==0) else inI (at0 w.Ak j) 0 ((j:Int)-1)
def wireB (w:qam)(s:Int):Bool:=
 lenB w.Ak 1 8&&(((w.Bw.length:Int)==(w.Ak.length:Int))&&(((w.Br.length:Int)==(w.Ak.length:Int))&&(allN (treeB w) w.Ak.length &&
  ((w.Bw.all fun x=>inI x 0 1000)&&((w.Br.all fun x=>inI x 0 500)&&(((w.Bl.length:Int)==s)&&(w.Bl.all fun x=>inI x 0 ((w.Ak.length:Int)-1))))))))
theorem qud {w:qam}(i:w.Ak.length≤1048576)(h:((w.Bw.length:Int)==(w.Ak.length:Int))=true):Ev (fun n=>qhr n w) (allN (treeB w) w.Ak.length):=by
 rw[beq_iff_eq] at h;have g:Ev (fun n=>qbp w n 0) (bif allN (treeB w) w.Ak.length then .nxt (w.Ak.length:Int) else .ret false):=by
  refine qe3 ?_ (fun j b X a=>Ev.succ ?_)
  ·exact Ev.succ (by simp only[qbp,qq (jf _),cond_false];exact .done)
  ·simp only[qbp,qp b,cond_true,qao b,jd,qdG,wS j,bne,qdu];unfold treeB;by_cases f:j=0
   ·subst f;rw[show idx w.Bw (0:Int)=V (at0 w.Bw 0) from qao (j:=0) (by omega)];simp only[jd];refine Ev.tt (by simp) (Ev.okP fun _=>Ev.okP1 fun _=>Ev.ff (by simp) a)
   ·have e1:decide (j=0)=false:=by simp;omega
    have c:((j:Int)==0)=false:=by simp;omega
    have d:decide ((j:Int) > 0)=true:=by simp;omega
    rw[e1,c,d,qfF (show j≤9223372036854775807 by omega)];simp only[cond_false,cond_true];exact Ev.okP1 fun _=>a
 unfold qhr;refine Ev.bind g ?_;cases allN (treeB w) w.Ak.length<;>exact .done
theorem qui {w:qam}{s:Int}(h:qom w):Ev (fun n=>qkQ n w s) (wireB w s):=by
 have a:=h.Ak.len;simp only[qkQ,qbF,jd,qdG,qfF (show w.Ak.length≤9223372036854775807 by omega)];unfold wireB;rw[show inI (w.Ak.length:Int) 1 8=lenB w.Ak 1 8 from qrF (lo:=1) (hi:=8)];exact Ev.andP fun _=>Ev.andP fun b=>Ev.andP fun _=>Ev.and (qud a b) fun _=>Ev.and (qeu h.Bw.len) fun _=>Ev.and (qeu h.Br.len) fun _=>Ev.andP fun _=>Ev.last (qeu h.Bl.len)
theorem qsR {w:qam}{s:Int}(h:qom w):Ev (fun n=>qk1 n w s) (wireB w s):=by
 have r:=h.Ak.len;have o:=h.Bl.len;have e:wireB w s=((decide (1≤w.Ak.length)&&(decide (w.Ak.length≤8)&&(((w.Bw.length:Int)==(w.Ak.length:Int))&&(((w.Br.length:Int)==(w.Ak.length:Int))&&((w.Bl.length:Int)==s)))))&&(allN (fun j=>(inI (at0 w.Br j) 0 500&&inI (at0 w.Bw j) 0 1000)&&treeB w j) w.Ak.length&&(w.Bl.all fun x=>inI x 0 ((w.Ak.length:Int)-1)))):=by
  unfold wireB lenB;cases h1:((w.Bw.length:Int)==(w.Ak.length:Int))
  ·simp
  ·cases h2:((w.Br.length:Int)==(w.Ak.length:Int))
   ·simp
   ·rw[beq_iff_eq] at h1 h2;rw[qld,qld];rw[qg2 (p:=fun x=>inI x 0 1000) (d:=0),qg2 (p:=fun x=>inI x 0 500) (d:=0),show w.Bw.length=w.Ak.length by omega,show w.Br.length=w.Ak.length by omega];show _=(_&&((allN (fun j=>inI (w.Br.getD j 0) 0 500) _&&allN (fun j=>inI (w.Bw.getD j 0) 0 1000) _&&_)&&_));generalize allN (fun j=>inI (w.Br.getD j 0) 0 500) w.Ak.length=a1;generalize allN (fun j=>inI (w.Bw.getD j 0) 0 1000) w.Ak.length=a2;generalize allN (fun j=>treeB w j) w.Ak.length=a3;generalize ((w.Bl.length:Int)==s)=a4;generalize decide (1≤w.Ak.length)=a5;generalize decide (w.Ak.length≤8)=a6;generalize (w.Bl.all fun x=>inI x 0 ((w.Ak.length:Int)-1))=a7;cases a1<;>cases a2<;>cases a3<;>cases a4<;>cases a5<;>cases a6<;>rfl
 rw[e];unfold qk1;refine Ev.guardB ?_ fun m=>?_
 ·rw[show decide ((w.Ak.length:Int)<1) = !decide (1≤w.Ak.length) from qvK (k:=1),show decide ((w.Ak.length:Int) > 8) = !decide (w.Ak.length≤8) from qvS (k:=8)];simp only[bne,qdu];exact Ev.orBP fun _=>Ev.orBP fun _=>Ev.orBP fun _=>Ev.orBP fun _=>.done
 ·simp only[je,beq_iff_eq] at m;have c:Ev (fun n=>qc4 w n 0) (bif allN (fun j=>(inI (at0 w.Br j) 0 500&&inI (at0 w.Bw j) 0 1000)&&treeB w j) w.Ak.length then .nxt (w.Ak.length:Int) else .ret false):=by
   refine qe3 ?_ (fun j a X b=>Ev.succ ?_)
   ·exact Ev.succ (by simp only[qc4,qq (jf _),cond_false];exact .done)
   ·simp only[qc4,qp a,cond_true,qao a,qao (show j<w.Br.length by omega),qao (show j<w.Bw.length by omega),jd,qcY,wS j,bne,qdu];refine Ev.chkT (Ev.orBP fun _=>.done) fun _=>?_;unfold treeB;by_cases l:j=0
    ·subst l;refine Ev.tt (by simp) (Ev.okP fun _=>Ev.okP1 fun _=>Ev.ff (by simp) b)
    ·have e1:decide (j=0)=false:=by simp;omega
     have g:((j:Int)==0)=false:=by simp;omega
     have i:decide ((j:Int) > 0)=true:=by simp;omega
     rw[e1,g,i,qfF (show j≤9223372036854775807 by omega)];simp only[cond_false,cond_true];exact Ev.okP1 fun _=>b
  have f:Ev (fun n=>qga w n 0) (bif (w.Bl.all fun x=>inI x 0 ((w.Ak.length:Int)-1)) then .nxt (w.Bl.length:Int) else .ret false):=
   qog (fun n=>by simp only[qga,qq (jf _),cond_false]) (fun j a X b=>by
    simp only[qga,qp a,cond_true,qaZ a,jd,qcY,qfF (show w.Ak.length≤9223372036854775807 by omega),wS j,qdu];exact Ev.okP1 fun _=>b)
  refine Ev.bind c ?_;cases allN (fun j=>(inI (at0 w.Br j) 0 500&&inI (at0 w.Bw j) 0 1000)&&treeB w j) w.Ak.length
  ·exact .done
  ·refine Ev.bind f ?_;cases (w.Bl.all fun x=>inI x 0 ((w.Ak.length:Int)-1))<;>exact .done
instance:Inhabited Tplace:=⟨⟨0,0,0,false⟩⟩
instance:Inhabited Tl05Place:=⟨⟨0,0,0,false⟩⟩
def toSp (p:Tplace):Tl05Place:=⟨p.instance_,p.pin,p.net,p.drives⟩
def plX (i:Nat)(x:qG)(j:Nat):List Tplace:=(List.range j).map fun(k:Nat)=>⟨(i:Int),(k:Int),at0 x.Am k,decide (k+1=x.Am.length)⟩
def plI (d:qh)(j:Nat):List Tplace:=(List.range j).flatMap fun(i:Nat)=>plX i (gt d.Ab i) (gt d.Ab i).Am.length
def plP (d:qh)(j:Nat):List Tplace:=(List.range j).map fun(i:Nat)=>⟨-1,(i:Int),(gt d.Ai i).Cb,(gt d.Ai i).Bx==1⟩
def places (d:qh):List Tplace:=plI d d.Ab.length++plP d d.Ai.length
theorem qrZ {i:Nat}{x:qG}{j:Nat}:plX i x (j+1)=plX i x j++[⟨(i:Int),(j:Int),at0 x.Am j,decide (j+1=x.Am.length)⟩]:=by
 unfold plX;rw[List.range_succ,jW];rfl
theorem qmJ {d:qh}{j:Nat}:plI d (j+1)=plI d j++plX j (gt d.Ab j) (gt d.Ab j).Am.length:=by
 unfold plI;rw[List.range_succ,List.flatMap_append];simp
theorem qsB {d:qh}{j:Nat}:plP d (j+1)=plP d j++[⟨-1,(j:Int),(gt d.Ai j).Cb,(gt d.Ai j).Bx==1⟩]:=by
 unfold plP;rw[List.range_succ,jW];rfl
theorem qpL {i:Nat}{x:qG}{j:Nat}:(plX i x j).length=j:=by simp[plX]
theorem qpJ {d:qh}{j:Nat}:(plP d j).length=j:=by simp[plP]
structure smallD (d:qh):Prop where
 ni:d.Ab.length≤14
 nn:d.Am.length≤30
 np:d.Ai.length≤8
 nx:∀ i,i<d.Ab.length→2≤(gt d.Ab i).Am.length∧(gt d.Ab i).Am.length≤5
theorem qag {l:qw}{d:qh}(h:designB l d=true):smallD d:=by
 unfold designB hasNamesB libB at h;simp only[je,decide_eq_true_eq] at h;obtain⟨⟨⟨b,_⟩,⟨c,f,g⟩,_⟩,a,_⟩:=h;refine⟨c,f,g,fun i hi=>?_⟩;rw[qiU,qah] at a b;have:=a i hi;unfold instB at this;simp only[je,qbb,beq_iff_eq] at this;have k:=qhc (qje (b (gt d.Ab i).Bv.toNat (by omega)));omega
theorem qn1 {d:qh}(h:smallD d){j:Nat}(a:j≤d.Ab.length):(plI d j).length≤5*j:=by
 induction j with
 | zero=>exact jf _
 | succ j ih=>
  rw[qmJ,jg,qpL];have:=ih (by omega);have:=h.nx j (by omega);omega
theorem qaO {d:qh}(h:smallD d):(places d).length≤78:=by
 unfold places;rw[jg,qpJ];have:=qn1 h (jf _);have:=h.ni;have:=h.np;omega
theorem qnb {d:qh}(h:smallD d):Ev (fun n=>qcF n d) (places d):=by
 have l:=h.ni;have m:=h.np;have f:∀ i,i<d.Ab.length→∀ pre:List Tplace,pre.length≤100→Ev (fun n=>qbX (i:Int) (gt d.Ab i) n pre 0) (pre++plX i (gt d.Ab i) (gt d.Ab i).Am.length,((gt d.Ab i).Am.length:Int)):=by
  intro i hi pre p;have o:=h.nx i hi;have:=loopF (Lf:=qbX (i:Int) (gt d.Ab i)) (S:=fun j=>pre++plX i (gt d.Ab i) j) (len:=(gt d.Ab i).Am.length) (fin:=(pre++plX i (gt d.Ab i) (gt d.Ab i).Am.length,((gt d.Ab i).Am.length:Int))) (fun n=>by
    simp only[qbX,qq (jf _),cond_false])
   (fun j a X b=>by
    have k:(pre++plX i (gt d.Ab i) j).length+[(⟨(i:Int),(j:Int),at0 (gt d.Ab i).Am j,decide (j+1=(gt d.Ab i).Am.length)⟩:Tplace)].length≤2147483648:=by
     rw[jg,qpL];simp;omega
    simp only[qbX,qp a,cond_true,qao a,jd,lastE a (show(gt d.Ab i).Am.length≤1048576 by omega),qcT k,jt,←qrZ,wS j];exact b)
  simpa [plX] using this
 have c:Ev (fun n=>qbZ d n ([]:List Tplace) 0) (plI d d.Ab.length,(d.Ab.length:Int)):=by
  refine loopF (Lf:=qbZ d) (S:=fun j=>plI d j) (len:=d.Ab.length) (fun n=>?_) (fun j a X b=>?_)
  ·simp only[qbZ,qq (jf _),cond_false]
  ·simp only[qbZ,qp a,cond_true,qz a,jd,wS j];refine Ev.bind (f j a _ (by have:=qn1 h (Nat.le_of_lt a);omega)) ?_;rw[←qmJ];exact b
 have g:Ev (fun n=>qbY d n (plI d d.Ab.length) 0) (places d,(d.Ai.length:Int)):=by
  have:=loopF (Lf:=qbY d) (S:=fun j=>plI d d.Ab.length++plP d j) (len:=d.Ai.length) (fin:=(places d,(d.Ai.length:Int))) (fun n=>by
    simp only[qbY,qq (jf _),cond_false];rfl)
   (fun j a X b=>by
    have k:(plI d d.Ab.length++plP d j).length+[(⟨-1,(j:Int),(gt d.Ai j).Cb,(gt d.Ai j).Bx==1⟩:Tplace)].length≤2147483648:=by
     rw[jg,qpJ];have:=qn1 h (jf _);simp;omega
    simp only[qbY,qp a,cond_true,qz a,jd,qcT k,jt,←qsB,wS j];exact b)
  simpa [plP] using this
 unfold qcF;exact Ev.bind c (Ev.bind g .done)
theorem qgn {d:qh}(h:smallD d):Ev (fun n=>qca n d) ((places d).map toSp):=by
 have l:=h.ni;have m:=h.np;have f:∀ i,i<d.Ab.length→∀ pre:List Tplace,pre.length≤100→Ev (fun n=>qc0 (i:Int) (gt d.Ab i) n (pre.map toSp) 0) ((pre++plX i (gt d.Ab i) (gt d.Ab i).Am.length).map toSp,((gt d.Ab i).Am.length:Int)):=by
  intro i hi pre p;have o:=h.nx i hi;have:=loopF (Lf:=qc0 (i:Int) (gt d.Ab i)) (S:=fun j=>(pre++plX i (gt d.Ab i) j).map toSp) (len:=(gt d.Ab i).Am.length) (fin:=((pre++plX i (gt d.Ab i) (gt d.Ab i).Am.length).map toSp,((gt d.Ab i).Am.length:Int))) (fun n=>by
    simp only[qc0,qq (jf _),cond_false])
   (fun j a X b=>by
    have k:((pre++plX i (gt d.Ab i) j).map toSp).length+[(⟨(i:Int),(j:Int),at0 (gt d.Ab i).Am j,decide (j+1=(gt d.Ab i).Am.length)⟩:Tl05Place)].length≤2147483648:=by
     rw[jv,jg,qpL];simp;omega
    simp only[qc0,qp a,cond_true,qao a,jd,lastE a (show(gt d.Ab i).Am.length≤1048576 by omega),qcT k,wS j];rw[qrZ,←jt,jW] at b;exact b)
  simpa [plX] using this
 have c:Ev (fun n=>qc8 d n ([]:List Tl05Place) 0) ((plI d d.Ab.length).map toSp,(d.Ab.length:Int)):=by
  refine loopF (Lf:=qc8 d) (S:=fun j=>(plI d j).map toSp) (len:=d.Ab.length) (fun n=>?_) (fun j a X b=>?_)
  ·simp only[qc8,qq (jf _),cond_false]
  ·simp only[qc8,qp a,cond_true,qz a,jd,wS j];refine Ev.bind (f j a _ (by have:=qn1 h (Nat.le_of_lt a);omega)) ?_;rw[←qmJ];exact b
 have g:Ev (fun n=>qc7 d n ((plI d d.Ab.length).map toSp) 0) ((places d).map toSp,(d.Ai.length:Int)):=by
  have:=loopF (Lf:=qc7 d) (S:=fun j=>(plI d d.Ab.length++plP d j).map toSp) (len:=d.Ai.length) (fin:=((places d).map toSp,(d.Ai.length:Int))) (fun n=>by
    simp only[qc7,qq (jf _),cond_false];rfl)
   (fun j a X b=>by
    have k:((plI d d.Ab.length++plP d j).map toSp).length+[(⟨-1,(j:Int),(gt d.Ai j).Cb,(gt d.Ai j).Bx==1⟩:Tl05Place)].length≤2147483648:=by
     rw[jv,jg,qpJ];have:=qn1 h (jf _);simp;omega
    simp only[qc7,qp a,cond_true,qz a,jd,qcT k,wS j];rw[qsB,←jt,jW] at b;exact b)
  simpa [plP] using this
 unfold qca;exact Ev.bind c (Ev.bind g .done)
def snkQ (d:qh)(k:Int)(i:Nat):Bool:=((gt (places d) i).net==k)&&!(gt (places d) i).drives
def sinksL (d:qh)(k:Int)(j:Nat):List Int:=((List.range j).filter (snkQ d k)).map fun(i:Nat)=>(i:Int)
def snkN (d:qh)(k:Int):Nat:=cntP (snkQ d k) (places d).length
theorem qjv {d:qh}{k:Int}{j:Nat}:sinksL d k (j+1)=sinksL d k j++(bif snkQ d k j then[(j:Int)] else[]):=by
 unfold sinksL;rw[List.range_succ,List.filter_append,jW]
 congr 1
 cases h:snkQ d k j<;>simp[h]
theorem qjf {d:qh}{k:Int}{j:Nat}:(sinksL d k j).length=cntP (snkQ d k) j:=by
 induction j with
 | zero=>rfl
 | succ j ih=>
  rw[qjv,jg,ih];show _=cntP (snkQ d k) j+_
  congr 1
  cases snkQ d k j<;>rfl
theorem qnK {α β:Type}[Inhabited α][Inhabited β]{xs:List α}{g:α→β}{j:Nat}(h:j<xs.length):gt (xs.map g) j=g (gt xs j):=by
 rw[qeo (by simpa using h),qeo h];simp
theorem qkJ {d:qh}{k:Int}(h:smallD d):Ev (fun n=>qfP n d k) (sinksL d k (places d).length):=by
 have l:=qaO h;have g:Ev (fun n=>qcH k ((places d).map toSp) n ([]:List Int) 0) (sinksL d k (places d).length,((places d).length:Int)):=by
  refine loopF (Lf:=qcH k ((places d).map toSp)) (S:=fun j=>sinksL d k j) (len:=(places d).length) (fun n=>?_) (fun j f X a=>?_)
  ·simp only[qcH,jv,qq (jf _),cond_false]
  ·have c:j<((places d).map toSp).length:=by simpa using f
   have i:(sinksL d k j).length+[(j:Int)].length≤2147483648:=by
    rw[qjf];have:cntP (snkQ d k) j≤j:=qgp;simp;omega
   simp only[qcH,qp c,cond_true,qz c,qnK f,jd,wS j];rw[show ∀ p:Tplace,(toSp p).net=p.net from fun _=>rfl,show ∀ p:Tplace,(toSp p).drives=p.drives from fun _=>rfl];refine Ev.bind (b:=snkQ d k j) (Ev.andP fun _=>.done) ?_;rw[qjv] at a;cases hq:snkQ d k j
   ·rw[hq] at a;simp only[cond_false,Ja] at a ⊢;exact a
   ·rw[hq] at a;simp only[cond_true,qcT i,jd] at a ⊢;exact a
 unfold qfP;exact Ev.bind (qgn h) (Ev.bind g .done)
theorem qlW {l:qw}{d:qh}(h:designB l d=true){i:Nat}(hi:i<(places d).length):0≤(gt (places d) i).net∧(gt (places d) i).net<d.Am.length:=by
 unfold designB at h;simp only[je] at h;obtain⟨_,f,g,_⟩:=h;rw[qiU,qah] at f g;have a:gt (places d) i ∈ places d:=by rw[qeo hi];exact jo hi
 generalize gt (places d) i=p at a;unfold places at a;rcases List.mem_append.1 a with a|a
 ·unfold plI at a;obtain⟨i,hi,a⟩:=List.mem_flatMap.1 a;unfold plX at a;obtain⟨k,m,rfl⟩:=List.mem_map.1 a;have:=f i (List.mem_range.1 hi);unfold instB at this;simp only[je] at this;have b:=this.2.2;rw[qg2 (d:=0),qah] at b;have c:=b k (List.mem_range.1 m);unfold netB at c;rw[qbb] at c;show 0≤at0 _ _∧at0 _ _<_;unfold at0;omega
 ·unfold plP at a;obtain⟨i,hi,rfl⟩:=List.mem_map.1 a;have:=g i (List.mem_range.1 hi);unfold portB netB at this;simp only[je,qbb] at this;show 0≤(gt d.Ai i).Cb∧(gt d.Ai i).Cb<_;omega
def blockB (b:qe):Bool:=(designB b.Ar b.Aa&&((b.Af.length:Int)==(b.Aa.Am.length:Int)))&&allN (fun j=>wireB (gt b.Af j) (snkN b.Aa (j:Int))) b.Af.length
theorem qsW {b:qe}(h:qkd b):Ev (fun n=>qiQ n b) (blockB b):=by
 have r:=h.Af.len;unfold qiQ blockB;refine Ev.guardB (Ev.or (qsq h.Ar h.Aa) fun _=>.done) fun l=>?_;rw[je,beq_iff_eq] at l;obtain⟨o,y⟩:=l;have i:=qag o;have u:=qaO i;have v:=i.nn;rw[qne (m:=b.Af.length) (by omega)];simp only[jd];have f:Ev (fun n=>qdp (places b.Aa) n (vecC (fun _=>0) b.Af.length) 0) (vecC (fun k=>snkN b.Aa (k:Int)) b.Af.length,((places b.Aa).length:Int)):=by
  refine loopF (Lf:=qdp (places b.Aa)) (S:=fun j=>vecC (fun k=>cntP (snkQ b.Aa (k:Int)) j) b.Af.length) (len:=(places b.Aa).length) (fun n=>?_) (fun j a X d=>?_)
  ·simp only[qdp,qq (jf _),cond_false];rfl
  ·simp only[qdp,qp a,cond_true,qz a,jd,wS j];obtain⟨s,n1⟩:=qlW o a;cases h1:(gt (places b.Aa) j).drives
   ·have t:cntP (snkQ b.Aa (((gt (places b.Aa) j).net.toNat:Nat):Int)) j≤j:=qgp;obtain⟨e1,p⟩:=qlb (c:=fun k=>cntP (snkQ b.Aa (k:Int)) j) (c':=fun k=>cntP (snkQ b.Aa (k:Int)) (j+1)) (x:=(gt (places b.Aa) j).net) (m:=b.Af.length) s (by omega) (by show cntP _ _<_;omega) (fun k _=>by
     show cntP _ j+(bif snkQ b.Aa (k:Int) j then 1 else 0)=_;unfold snkQ;rw[h1,Bool.not_false,Bool.and_true])
    simp only[Bool.not_false,cond_true,jd,e1,p];exact d
   ·have:vecC (fun k=>cntP (snkQ b.Aa (k:Int)) (j+1)) b.Af.length=vecC (fun k=>cntP (snkQ b.Aa (k:Int)) j) b.Af.length:=by
     refine qkk (fun k _=>?_);show cntP _ j+(bif snkQ b.Aa (k:Int) j then 1 else 0)=_;unfold snkQ;rw[h1,Jg,Bool.and_false];rfl
    rw[this] at d;exact d
 have g:Ev (fun n=>qfu b (vecC (fun k=>snkN b.Aa (k:Int)) b.Af.length) n 0) (bif allN (fun j=>wireB (gt b.Af j) (snkN b.Aa (j:Int))) b.Af.length then .nxt (b.Af.length:Int) else .ret false):=by
  refine qe3 ?_ (fun j a X d=>Ev.succ ?_)
  ·exact Ev.succ (by simp only[qfu,qq (jf _),cond_false];exact .done)
  ·simp only[qfu,qp a,cond_true,qz a,qkc a,jd,wS j];exact Ev.chk1 (qui (qmt h.Af a)) fun _=>d
 refine Ev.bind (qnb i) (Ev.bind f (Ev.bind g ?_));cases allN (fun j=>wireB (gt b.Af j) (snkN b.Aa (j:Int))) b.Af.length<;>exact .done
theorem qiq {b:qe}(h:qkd b):Ev (fun n=>qeC n b) (blockB b):=by
 have i:=h.Af.len;unfold qeC blockB;refine Ev.guardB (Ev.or (qrA h.Ar h.Aa) fun _=>.done) fun c=>?_;rw[je] at c;have g:=qag c.1;have d:Ev (fun n=>qfp b n 0) (bif allN (fun j=>wireB (gt b.Af j) (snkN b.Aa (j:Int))) b.Af.length then .nxt (b.Af.length:Int) else .ret false):=by
  refine qe3 ?_ (fun j a X f=>Ev.succ ?_)
  ·exact Ev.succ (by simp only[qfp,qq (jf _),cond_false];exact .done)
  ·simp only[qfp,qp a,cond_true,qz a,jd,wS j];refine Ev.bind (qkJ g) ?_;rw[qjf];exact Ev.chk1 (qsR (qmt h.Af a)) fun _=>f
 refine Ev.bind d ?_;cases allN (fun j=>wireB (gt b.Af j) (snkN b.Aa (j:Int))) b.Af.length<;>exact .done

def off (d:qh)(i:Nat):Nat:=(plI d i).length
def place1 (d:qh)(i k:Nat):Tplace:=⟨(i:Int),(k:Int),at0 (gt d.Ab i).Am k,decide (k+1=(gt d.Ab i).Am.length)⟩
def place2 (d:qh)(i:Nat):Tplace:=⟨-1,(i:Int),(gt d.Ai i).Cb,(gt d.Ai i).Bx==1⟩
theorem qke {d:qh}{i:Nat}:off d (i+1)=off d i+(gt d.Ab i).Am.length:=by
 unfold off;rw[qmJ,jg,qpL]
theorem qtk {d:qh}{i j:Nat}(h:i≤j):off d i≤off d j:=by
 induction j with
 | zero=>
  obtain rfl:i=0:=by omega
  exact jf _
 | succ j ih=>
  rcases Nat.lt_or_eq_of_le h with h|rfl
  ·rw[qke];have:=ih (by omega);omega
  ·exact jf _
theorem qg9 {d:qh}:(places d).length=off d d.Ab.length+d.Ai.length:=by
 unfold places off;rw[jg,qpJ]
theorem qw5 {d:qh}{n i k:Nat}(hi:i<n)(c:k<(gt d.Ab i).Am.length):off d i+k<off d n∧gt (plI d n) (off d i+k)=place1 d i k:=by
 induction n with
 | zero=>omega
 | succ n ih=>
  rw[qmJ,qlx];rcases Nat.lt_succ_iff_lt_or_eq.1 hi with h|rfl
  ·obtain⟨a,b⟩:=ih h;refine⟨by rw[qke];omega,?_⟩;rw[if_pos (show off d i+k<(plI d n).length from a),b]
  ·refine⟨by rw[qke];omega,?_⟩;rw[if_neg (by unfold off;omega),show off d i+k-(plI d i).length=k by unfold off;omega];exact qp8 c
theorem qj6 {d:qh}{i k:Nat}(hi:i<d.Ab.length)(c:k<(gt d.Ab i).Am.length):off d i+k<(places d).length∧gt (places d) (off d i+k)=place1 d i k:=by
 obtain⟨a,b⟩:=qw5 hi c;refine⟨by rw[qg9];omega,?_⟩;unfold places;rw[qlx,if_pos (show off d i+k<(plI d d.Ab.length).length from a),b]
theorem qqP {d:qh}{i:Nat}(hi:i<d.Ai.length):off d d.Ab.length+i<(places d).length∧gt (places d) (off d d.Ab.length+i)=place2 d i:=by
 refine⟨by rw[qg9];omega,?_⟩;unfold places;rw[qlx,if_neg (by unfold off;omega),show off d d.Ab.length+i-(plI d d.Ab.length).length=i by unfold off;omega];exact qp8 hi
theorem qut {d:qh}{n j:Nat}(a:j<off d n):∃ i k,i<n∧k<(gt d.Ab i).Am.length∧j=off d i+k:=by
 induction n with
 | zero=>exact absurd a (Nat.not_lt_zero _)
 | succ n ih=>
  by_cases h:j<off d n
  ·obtain⟨i,k,f,b,c⟩:=ih h;exact⟨i,k,by omega,b,c⟩
  ·rw[qke] at a;exact⟨n,j-off d n,by omega,by omega,by omega⟩
theorem qkM {d:qh}{j:Nat}(c:j<(places d).length) :
  (∃ i k,i<d.Ab.length∧k<(gt d.Ab i).Am.length∧j=off d i+k∧gt (places d) j=place1 d i k) ∨
  (∃ i,i<d.Ai.length∧j=off d d.Ab.length+i∧gt (places d) j=place2 d i):=by
 rw[qg9] at c;by_cases h:j<off d d.Ab.length
 ·obtain⟨i,k,a,b,rfl⟩:=qut h;exact .inl ⟨i,k,a,b,rfl,(qj6 a b).2⟩
 ·refine .inr ⟨j-off d d.Ab.length,by omega,by omega,?_⟩;have:=(qqP (d:=d) (i:=j-off d d.Ab.length) (by omega)).2;rwa [show off d d.Ab.length+(j-off d d.Ab.length)=j by omega] at this
def drvQ (d:qh)(k:Int)(j:Nat):Bool:=((gt (places d) j).net==k)&&(gt (places d) j).drives
theorem qrW {q:Nat→Bool}{m n:Nat}:cntP q (m+n)=cntP q m+cntP (fun j=>q (m+j)) n:=by
 induction n with
 | zero=>rfl
 | succ n ih=>
  show cntP q (m+n)+(bif q (m+n) then 1 else 0)=cntP q m+(cntP (fun j=>q (m+j)) n+(bif q (m+n) then 1 else 0));rw[ih];omega
theorem quj {q:Nat→Bool}{n:Nat}{b:Bool}(h:1≤n)(a:∀ j,j+1<n→q j=false)(c:q (n-1)=b):cntP q n=bif b then 1 else 0:=by
 obtain⟨m,rfl⟩:∃ m,n=m+1:=⟨n-1,by omega⟩;show cntP q m+(bif q m then 1 else 0)=_;rw[qm0.2 (fun j d=>a j (by omega)),show m=m+1-1 by omega,c,Je]
theorem qsI {d:qh}{k:Nat}(b:smallD d):cntP (drvQ d (k:Int)) (places d).length=drvI d k d.Ab.length+drvP d k d.Ai.length:=by
 rw[qg9,qrW]
 congr 1
 ·have:∀ n,n≤d.Ab.length→cntP (drvQ d (k:Int)) (off d n)=drvI d k n:=by
   intro n
   induction n with
   | zero=>intro _;rfl
   | succ n ih=>
    intro f;rw[qke,qrW,ih (by omega),qoV]
    congr 1
    have c:=(b.nx n (by omega)).1;refine quj (by omega) (fun j a=>?_) ?_
    ·show drvQ d _ (off d n+j)=false;unfold drvQ;rw[(qj6 (by omega) (by omega)).2];unfold place1;simp;omega
    ·show drvQ d _ (off d n+_)=_;unfold drvQ;rw[(qj6 (by omega) (by omega)).2];unfold place1 lastN;simp;omega
  exact this _ (jf _)
 ·refine qqa (fun j a=>?_);show drvQ d _ (off d _+j)=_;unfold drvQ;rw[(qqP a).2];unfold place2;exact Bool.and_comm _ _
theorem qtw {l:qw}{d:qh}(h:designB l d=true){k:Nat}(a:k<d.Am.length):cntP (drvQ d (k:Int)) (places d).length=1:=by
 rw[qsI (qag h)];unfold designB drvB at h;simp only[je] at h;have:=qah.1 h.2.2.2 k a;rw[beq_iff_eq] at this;omega
theorem qrP {l:qw}{d:qh}(h:designB l d=true){i j:Nat}(hi:i<(places d).length)(f:j<(places d).length)(c:(gt (places d) i).net=(gt (places d) j).net)(a:(gt (places d) i).drives=true)(b:(gt (places d) j).drives=true):i=j:=by
 obtain⟨g,n1⟩:=qlW h hi;have e:=qcE g;have:=qtw h (k:=(gt (places d) i).net.toNat) (by omega);refine qsi (Nat.le_of_eq this) hi f ?_ ?_
 ·unfold drvQ;rw[←e,a];simp
 ·unfold drvQ;rw[←e,b,c];simp
theorem qw3 {l:qw}{d:qh}(h:designB l d=true){k:Int}(c:0≤k)(g:k<d.Am.length):∃ j,j<(places d).length∧(gt (places d) j).net=k∧(gt (places d) j).drives=true:=by
 have e:=qcE c;have:=qtw h (k:=k.toNat) (by omega);have b:decide (0<cntP (drvQ d ((k.toNat:Nat):Int)) (places d).length)=true:=by rw[this];rfl
 rw[qr3,jF,qlV] at b;obtain⟨j,f,a⟩:=b;rw[Bool.not_eq_false',←e] at a;unfold drvQ at a;simp only[je,beq_iff_eq] at a;exact⟨j,f,a.1,a.2⟩
def cellAt (b:qe)(i:Int):qF:=gt b.Ar.As (gt b.Aa.Ab i.toNat).Bv.toNat
theorem qhq {l:qw}{d:qh}(h:designB l d=true){i:Nat}(hi:i<d.Ab.length) :
  (0≤(gt d.Ab i).Bv∧(gt d.Ab i).Bv<l.As.length)∧(gt d.Ab i).Am.length=(gt l.As (gt d.Ab i).Bv.toNat).Bh.length∧cellB (gt l.As (gt d.Ab i).Bv.toNat)=true:=by
 unfold designB libB at h;simp only[je] at h;obtain⟨⟨⟨b,_⟩,_⟩,a,_⟩:=h;rw[qiU,qah] at a b;have:=a i hi;unfold instB at this;simp only[je,qbb,beq_iff_eq] at this;exact⟨⟨this.1.1,by omega⟩,by omega,b _ (by omega)⟩
theorem qmF {c:qF}(h:cellB c=true){j:Nat}(f:j<c.Az.length):(1≤(gt c.Az j).Bf∧(gt c.Az j).Bf≤5)∧(0≤(gt c.Az j).Bk∧(gt c.Az j).Bk<(c.Bh.length:Int)-1)∧(0≤(gt c.Az j).To∧(gt c.Az j).To≤(c.Bh.length:Int)-1)∧arcS c.Bh (gt c.Az j)=true:=by
 unfold cellB at h;simp only[je] at h;obtain⟨_,i,⟨d,_⟩,_,_,g⟩:=h;have:=qah.1 d j f;rw[je,qvu i (qra g)] at this;have b:=this.1;refine⟨qqW b,?_⟩;have a:=b;unfold arcS at a;simp only[je,qbb] at a;refine⟨⟨a.1.1.1,by omega⟩,a.1.2,b⟩
theorem qnI {c:qF}(h:cellB c=true):c.Az.length≤8:=by
 unfold cellB at h;simp only[je,decide_eq_true_eq] at h;exact h.2.2.1.2
theorem qay {b:qe}(h:blockB b=true):designB b.Ar b.Aa=true:=by
 unfold blockB at h;simp only[je] at h;exact h.1.1

theorem quh {d:qh}{k:Int}{n i:Nat}(hi:i<(sinksL d k n).length):∃ y:Nat,y<n∧idx (sinksL d k n) (i:Int)=V (y:Int)∧snkQ d k y=true:=by
 rw[qaZ hi];have a:(sinksL d k n)[i] ∈ sinksL d k n:=jo hi;generalize (sinksL d k n)[i]=z at a;unfold sinksL at a;obtain⟨y,f,rfl⟩:=List.mem_map.1 a;obtain⟨b,c⟩:=List.mem_filter.1 f;exact⟨y,List.mem_range.1 b,rfl,c⟩
theorem qqG {d:qh}{k:Int}(h:smallD d):Ev (fun n=>qgR n d k) (sinksL d k (places d).length):=by
 have g:=qaO h;have c:Ev (fun n=>qbh k (places d) n ([]:List Int) 0) (sinksL d k (places d).length,((places d).length:Int)):=by
  refine loopF (Lf:=qbh k (places d)) (S:=fun j=>sinksL d k j) (len:=(places d).length) (fun n=>?_) (fun j b X a=>?_)
  ·simp only[qbh,qq (jf _),cond_false]
  ·have f:(sinksL d k j).length+[(j:Int)].length≤2147483648:=by
    rw[qjf];have:cntP (snkQ d k) j≤j:=qgp;simp;omega
   simp only[qbh,qp b,cond_true,qz b,jd,wS j];rw[qjv] at a;unfold snkQ at a;cases h1:((gt (places d) j).net==k)
   ·rw[h1] at a;simp only[Bool.false_and,cond_false,Ja] at a ⊢;exact a
   ·cases h2:(gt (places d) j).drives
    ·rw[h1,h2] at a;simp only[Bool.not_false,Bool.and_self,cond_true,qcT f,jd] at a ⊢;exact a
    ·rw[h1,h2] at a;simp only[Jg,Bool.and_false,cond_false,Ja,cond_true] at a ⊢;exact a
 unfold qgR;exact Ev.bind (qnb h) (Ev.bind c .done)
structure wireOk (b:qe)(i:Nat):Prop where
 lo:1≤(gt b.Af i).Ak.length
 hi:(gt b.Af i).Ak.length≤8
 res:(gt b.Af i).Bw.length=(gt b.Af i).Ak.length
 cap:(gt b.Af i).Br.length=(gt b.Af i).Ak.length
 par:∀ j,0<j→j<(gt b.Af i).Ak.length→0≤at0 (gt b.Af i).Ak j∧at0 (gt b.Af i).Ak j<j
 snk:(gt b.Af i).Bl.length=(sinksL b.Aa (i:Int) (places b.Aa).length).length
 sin:∀ j,j<(gt b.Af i).Bl.length→0≤at0 (gt b.Af i).Bl j∧at0 (gt b.Af i).Bl j<(gt b.Af i).Ak.length
theorem qbK {b:qe}(h:blockB b=true){i:Nat}(hi:i<b.Af.length):wireOk b i:=by
 unfold blockB at h;rw[je,qah] at h;have:=h.2 i hi;unfold wireB lenB at this;simp only[je,decide_eq_true_eq,beq_iff_eq] at this;obtain⟨⟨f,g⟩,n,o,k,_,_,l,c⟩:=this;refine⟨f,g,by omega,by omega,fun j m a=>?_,?_,fun j a=>?_⟩
 ·have:=qah.1 k j a;unfold treeB at this;rw[show decide (j=0)=false by simp;omega] at this;simp only[cond_false,qbb] at this;omega
 ·rw[qjf];unfold snkN at l;omega
 ·rw[qg2 (d:=0),qah] at c;have:=c j a;rw[qbb] at this;unfold at0;omega
theorem qkr {b:qe}(h:blockB b=true):b.Af.length=b.Aa.Am.length:=by
 unfold blockB at h;simp only[je,beq_iff_eq] at h;omega

instance:Inhabited qr:=⟨⟨0,0,0,0⟩⟩
instance:Inhabited qW:=⟨⟨0,0⟩⟩
theorem qlJ {α:Type}{m:Nat}{z:α}(h:m≤2147483648):mkS (m:Int) z=V (List.replicate m z):=by
 unfold mkS big;rw[if_pos ⟨by omega,by omega⟩,jp]
theorem qrb {α:Type}[Inhabited α]{xs:List α}{a k:Nat}{y:α}(h:k ≠ a):gt (xs.set a y) k=gt xs k:=by
 unfold gt;rw[jw,List.getElem?_set_ne (by omega),←jw]
theorem qpc {α:Type}[Inhabited α]{xs:List α}{a:Nat}{y:α}(h:a<xs.length):gt (xs.set a y) a=y:=by
 rw[qeo (by rw[List.length_set];exact h),List.getElem_set_self]

def CodeOk (code:List (IntK .u8)):Prop:=code.length≤1048576∧∀ x,x ∈ code→rng8 x
structure SrcI (code:List (IntK .u8))(a s:Int):Prop where
 a0:0≤a
 a1:a≤(code.length:Int)
 s0:0≤s
 s1:s≤2147483646
theorem tm31 {x:Int}(h:0≤x):0≤x.tmod 2147483647∧x.tmod 2147483647≤2147483646:=by
 have a:=Int.tmod_nonneg 2147483647 h;have b:=Int.tmod_lt_of_pos x (show(0:Int)<2147483647 by decide);omega
theorem qol {x k:Int}(a:0<k):remS x k=V (x.tmod k):=by unfold remS;rw[if_neg (by omega)]
theorem qaW (x:Int):okI (W64 x):=by
 unfold okI W64;rw[Go.IntWalk.i64_left];unfold Go.RowKit.wrap64;omega
theorem qaD {x:Int}(a:-4611686018427387904≤x)(b:x≤4611686018427387904):okI x:=by unfold okI;omega
theorem qsN {code:List (IntK .u8)}(g:CodeOk code):∃ s,Ev (fun n=>qlR n code) (V ⟨code,0,s⟩)∧SrcI code 0 s:=by
 have c:∀ k j i,j+k=code.length→0≤i→i≤2147483646→EvQ (fun n=>qft code n i (j:Int)) (fun o=>0≤o.1∧o.1≤2147483646):=by
  intro k
  induction k with
  | zero=>
   intro j i p f b;refine EvQ.succ ?_;simp only[qft,qq (show code.length≤j by omega),cond_false,jd];exact EvQ.done ⟨f,b⟩
  | succ k ih=>
   intro j i p f b;have a:j<code.length:=by omega
   have t:=g.1;have r:=g.2 _ (jo a);unfold rng8 at r;refine EvQ.succ ?_;simp only[qft,qp a,cond_true,jd,qaZ a,wS j];refine EvQ.bif (fun _=>?_) (fun _=>EvQ.done ⟨f,b⟩);have e1:W64 (i*31)=i*31:=qR (by omega) (by omega);have h:W64 code[j].val=code[j].val:=qR (by omega) (by omega);have l:W64 (i*31+code[j].val)=i*31+code[j].val:=qR (by omega) (by omega);rw[e1,h,l];have d:=tm31 (show 0≤i*31+code[j].val by omega);exact ih (j+1) _ (by omega) d.1 d.2
 obtain⟨⟨s,j⟩,b,d,m⟩:=c code.length 0 12345 (by omega) (by decide) (by decide);exact⟨s,Ev.bind b .done,⟨jU _,by omega,d,m⟩⟩
theorem qal {code:List (IntK .u8)}{a s:Int}(k:Int)(l:CodeOk code)(h:SrcI code a s) :
  EvQ (fun n=>ql n ⟨code,a,s⟩ k) (fun o=>((0≤o.1∧(1≤k→o.1<k))∧(k≤1→o.1=0))∧SrcI code o.2.1 o.2.2):=by
 obtain⟨a0,a1,s0,s1⟩:=h;have z:=l.1;unfold ql;refine EvQ.bif (fun g=>EvQ.done ⟨⟨⟨jU _,fun h=>by omega⟩,fun _=>rfl⟩,⟨a0,a1,s0,s1⟩⟩) (fun g=>?_);have g:1<k:=by have:=of_decide_eq_false g;omega
 refine EvQ.bif (fun i=>?_) (fun _=>?_)
 ·have i:a<(code.length:Int):=of_decide_eq_true i;obtain⟨j,rfl⟩:∃ j:Nat,a=(j:Int):=⟨a.toNat,by omega⟩;have c:j<code.length:=by omega
  have m:=l.2 _ (jo c);unfold rng8 at m;have p:W64 code[j].val=code[j].val:=qR (by omega) (by omega);have t:W64 ((j:Int)+1)=((j+1:Nat):Int):=qhQ (by omega);refine EvQ.bindN (qaZ c) ?_;rw[p,t];refine EvQ.bif (fun u=>?_) (fun u=>?_)
  ·refine EvQ.bindN (qol (by omega)) (EvQ.done ⟨⟨⟨Int.tmod_nonneg _ m.1,fun _=>Int.tmod_lt_of_pos _ (by omega)⟩,fun h=>by omega⟩,⟨by show(0:Int)≤((j+1:Nat):Int);omega,by show((j+1:Nat):Int)≤_;omega,s0,s1⟩⟩)
  ·have d:W64 (s*48271)=s*48271:=qR (by omega) (by omega);have f:W64 (s*48271+code[j].val)=s*48271+code[j].val:=qR (by omega) (by omega);have r:W64 (s*48271+code[j].val+1)=s*48271+code[j].val+1:=qR (by omega) (by omega);rw[d,f,r];have b:=tm31 (show 0≤s*48271+code[j].val+1 by omega);exact EvQ.bindN (qol (by omega)) (EvQ.done ⟨⟨⟨Int.tmod_nonneg _ b.1,fun _=>Int.tmod_lt_of_pos _ (by omega)⟩,fun h=>by omega⟩,⟨by show(0:Int)≤((j+1:Nat):Int);omega,by show((j+1:Nat):Int)≤_;omega,b.1,b.2⟩⟩)
 ·have d:W64 (s*48271)=s*48271:=qR (by omega) (by omega);have f:W64 (s*48271+11)=s*48271+11:=qR (by omega) (by omega);rw[d,f];have b:=tm31 (show 0≤s*48271+11 by omega);have v:0≤((s*48271+11).tmod 2147483647).tdiv 7:=Int.tdiv_nonneg b.1 (by decide);have y:((s*48271+11).tmod 2147483647).tdiv 7≤2147483646:=by
   rw[jE b.1];omega
  rw[qR (x:=((s*48271+11).tmod 2147483647).tdiv 7) (by omega) (by omega)];exact EvQ.bindN (qol (by omega)) (EvQ.done ⟨⟨⟨Int.tmod_nonneg _ v,fun _=>Int.tmod_lt_of_pos _ (by omega)⟩,fun h=>by omega⟩,⟨a0,a1,b.1,b.2⟩⟩)
theorem qbz {α:Type}{ok:α→Prop}{xs:List α}{y:α}(h:∀ x,x ∈ xs→ok x)(b:ok y):∀ x,x ∈ xs++[y]→ok x:=by
 intro x a;rcases List.mem_append.1 a with a|a
 ·exact h x a
 ·obtain rfl:=List.mem_singleton.1 a;exact b
theorem qb5 {α:Type}{xs:List α}{y:α}(h:xs.length≤1048576):appS xs [y]=V (xs++[y]):=qcT (by simp;omega)
section
variable {code:List (IntK .u8)}{a s:Int}
theorem qvv {step:Int}(A:1≤step)(N:step≤1000)(i:CodeOk code)(h:SrcI code a s) :
  EvQ (fun n=>qge n ⟨code,a,s⟩ step) (fun o=>(1≤o.1.length∧o.1.length≤3∧∀ x,x ∈ o.1→okI x)∧SrcI code o.2.1 o.2.2):=by
 have d:∀ (r:Nat) (x:List Int) (f g c:Int),SrcI code f g→x.length+r≤3→(∀ y,y ∈ x→okI y)→okI c →
   EvQ (fun n=>qdd ⟨code,a,s⟩ step n x f g c (r:Int)) (fun o=>(o.1.length=x.length+r∧∀ y,y ∈ o.1→okI y)∧SrcI code o.2.1 o.2.2.1):=by
  intro r
  induction r with
  | zero=>
   intro x f g c b B p hi;refine EvQ.succ ?_;simp only[qdd];exact EvQ.ff Z (EvQ.done ⟨⟨rfl,p⟩,b⟩)
  | succ r ih=>
   intro x f g c b B p hi;refine EvQ.succ ?_;simp only[qdd];refine EvQ.tt (by simp) (EvQ.bindN (qb5 (by omega)) (EvQ.bind (qal step i b) ?_));rintro⟨H,t,u⟩ ⟨_,l⟩;have e:W64 (((r+1:Nat):Int)-1)=(r:Int):=by rw[qR (by omega) (by omega)];omega
   dsimp only;rw[e];exact(ih (x++[c]) t u _ l (by rw[jg,jh];omega) (qbz p hi) (qaW _)).mono (fun o k=>⟨⟨by rw[k.1.1,jg,jh];omega,k.1.2⟩,k.2⟩)
 unfold qge;refine EvQ.bind (qal step i h) ?_;rintro⟨D,O,P⟩ ⟨⟨⟨K,p1⟩,_⟩,b⟩;refine EvQ.bind (qal 3 i b) ?_;rintro⟨v,I,J⟩ ⟨⟨⟨L,z⟩,_⟩,b⟩;dsimp only at K p1 L z b ⊢;have T:=z (by decide);have S:=p1 A;obtain⟨m,C⟩:∃ m:Nat,1+v=((m+1:Nat):Int):=⟨v.toNat,by omega⟩;rw[wO (1+v),C];refine EvQ.bind (d (m+1) [] I J D b (by simp;omega) (fun _ h=>by cases h) (qaD (by omega) (by omega))) ?_;rintro⟨W,Q,R,c,F⟩ ⟨⟨r1,M⟩,b⟩;exact EvQ.done ⟨⟨by simp only at r1;simp at r1;dsimp only;omega,by simp only at r1;simp at r1;dsimp only;omega,M⟩,b⟩
theorem quT {c:Prop}[Decidable c]{x y:Int}(a:okI x)(b:okI y):okI (if c then x else y):=by split<;>assumption
theorem qtp {base:Int}(k:CodeOk code)(h:SrcI code a s) :
  EvQ (fun n=>qiw n ⟨code,a,s⟩ base) (fun o=>qiz o.1∧SrcI code o.2.1 o.2.2):=by
 unfold qiw;refine EvQ.bind (qvv (by decide) (by decide) k h) ?_;rintro⟨r1,e,i2⟩ ⟨⟨l1,l2,r⟩,c⟩;refine EvQ.bind (qvv (by decide) (by decide) k c) ?_;rintro⟨f,Q,S⟩ ⟨⟨T,t,u⟩,c⟩;dsimp only at l1 l2 r T t u c ⊢;have Y:r1.length*f.length≤3*3:=Nat.mul_le_mul l2 t;have l:∀ (d j:Nat) (x:List Int) (m p:Int),SrcI code m p→j+d=r1.length*f.length→x.length=j→(∀ y,y ∈ x→okI y) →
   EvQ (fun n=>qd9 ⟨code,a,s⟩ base r1 f n x m p (j:Int)) (fun o=>(o.1.length≤9∧∀ y,y ∈ o.1→okI y)∧SrcI code o.2.1 o.2.2.1):=by
  intro d
  induction d with
  | zero=>
   intro j x m p c B D g;refine EvQ.succ ?_;simp only[qd9,qpE (show r1.length≤1048576 by omega) (show f.length≤1048576 by omega)];have z:x.length≤9:=by omega
   exact EvQ.ff (qq (by omega)) (EvQ.done ⟨⟨z,g⟩,c⟩)
  | succ d ih=>
   intro j x m p c B D g;refine EvQ.succ ?_;simp only[qd9,qpE (show r1.length≤1048576 by omega) (show f.length≤1048576 by omega)];refine EvQ.tt (qp (by omega)) (EvQ.bind (qal 10 k c) ?_);rintro⟨i8,i9,F⟩ ⟨⟨⟨W,X⟩,_⟩,c⟩;dsimp only at W X c ⊢;refine EvQ.bindN (b:=((j % f.length:Nat):Int)) (by rw[qol (by omega),Int.ofNat_tmod]) ?_;refine EvQ.bind (R:=fun o:Int×Int×Int=>SrcI code o.1 o.2.1∧okI o.2.2) ?_ ?_
   ·refine EvQ.bif (fun i=>?_) (fun _=>EvQ.done ⟨c,qaW _⟩);have C:1≤j:=by
     rcases Nat.eq_zero_or_pos j with rfl|h2
     ·simp at i
     ·exact h2
    have e1:W64 ((j:Int)-1)=((j-1:Nat):Int):=by rw[qR (by omega) (by omega)];omega
    rw[e1];refine EvQ.bindN (qaZ (show j-1<x.length by omega)) (EvQ.bind (qal 20 k c) ?_);rintro⟨N,O,P⟩ ⟨_,c⟩;exact EvQ.done ⟨c,quT (qaW _) (qaW _)⟩
   ·rintro⟨H,I,J⟩ ⟨c,hi⟩;dsimp only at c hi ⊢;rw[wS j];refine EvQ.bif (fun i=>?_) (fun _=>?_)
    ·have A:f.length≤j:=by have:=of_decide_eq_true i;omega
     have e1:W64 ((j:Int)-(f.length:Int))=((j-f.length:Nat):Int):=by rw[qR (by omega) (by omega)];omega
     rw[e1];refine EvQ.bindN (qaZ (show j-f.length<x.length by omega)) (EvQ.bind (qal 20 k c) ?_);rintro⟨K,L,M⟩ ⟨_,c⟩;refine EvQ.bindN (qb5 (by omega)) ?_;exact ih (j+1) _ _ _ c (by omega) (by rw[jg,jh];omega) (qbz g (quT (qaW _) hi))
    ·refine EvQ.bindN (qb5 (by omega)) ?_;exact ih (j+1) _ _ _ c (by omega) (by rw[jg,jh];omega) (qbz g hi)
 refine EvQ.bind (l (r1.length*f.length) 0 [] Q S c (by omega) Z (fun _ h=>by cases h)) ?_;rintro⟨x1,i5,i6,i7⟩ ⟨⟨n1,v⟩,c⟩;dsimp only at n1 v c;exact EvQ.done ⟨⟨⟨by dsimp only;omega,r⟩,⟨by dsimp only;omega,u⟩,⟨by dsimp only;omega,v⟩⟩,c⟩
theorem qqj {base:Int}(d:CodeOk code)(h:SrcI code a s) :
  EvQ (fun n=>qdF n ⟨code,a,s⟩ base) (fun o=>okL qiz o.1∧SrcI code o.2.1 o.2.2):=by
 unfold qdF;refine EvQ.bind (qtp d h) ?_;rintro⟨r1,i,k⟩ ⟨f,b⟩;refine EvQ.bind (qtp d b) ?_;rintro⟨p,l,m⟩ ⟨g,b⟩;refine EvQ.done ⟨⟨by simp,fun x c=>?_⟩,b⟩;rcases List.mem_cons.1 c with rfl|c
 ·exact f
 ·obtain rfl:=List.mem_singleton.1 c;exact g
theorem qrR {kind f t sense:Int}(i:okI kind)(g:okI f)(k:okI t)(d:okI sense)(c:CodeOk code)(h:SrcI code a s) :
  EvQ (fun n=>qdk n ⟨code,a,s⟩ kind f t sense) (fun o=>qlS o.1∧SrcI code o.2.1 o.2.2):=by
 unfold qdk;refine EvQ.bif (fun _=>?_) (fun _=>?_)
 ·refine EvQ.bind (qal 10 c h) ?_;rintro⟨y,z,A⟩ ⟨_,b⟩;refine EvQ.bind (qqj c b) ?_;rintro⟨r1,B,C⟩ ⟨l,b⟩;exact EvQ.done ⟨⟨i,g,k,qaD (x:=0) (by decide) (by decide),l,⟨jQ _,fun _ h=>by cases h⟩⟩,b⟩
 ·refine EvQ.bind (qal 20 c h) ?_;rintro⟨D,F,H⟩ ⟨_,b⟩;refine EvQ.bind (qqj c b) ?_;rintro⟨J,I,r⟩ ⟨m,b⟩;refine EvQ.bind (qqj c b) ?_;rintro⟨K,u,v⟩ ⟨p,b⟩;exact EvQ.done ⟨⟨i,g,k,d,m,p⟩,b⟩
end

section
variable {code:List (IntK .u8)}{a s:Int}
theorem qwm {q:Nat}(h:q≤8):W64 (2*(q:Int))=((q*2:Nat):Int):=by rw[qR (by omega) (by omega)];omega
theorem Ev.add {α:Type}{f:Nat→Option α}{r:α}(k:Nat)(h:∀ m,f (m+k)=V r):Ev f r:=
 ⟨k,fun n a=>by obtain⟨m,rfl⟩:∃ m,n=m+k:=⟨n-k,by omega⟩;exact h m⟩
def SenseOk (k:Nat)(a:List Int):Prop:=∀ (b:ByteArray) (ps:List qax) (i j:Int) (p:Nat),p<k→EvQ (fun n=>qk9 n ⟨b,1,ps,[],a,i,j⟩ (p:Int)) okI
theorem qpM {k:Nat}{J:ByteArray}{c:List Int}(Q:k≤3)(hl:c.length=2 ^ k)(D:SenseOk k c)(B:okS J)(F:∀ x,x ∈ c→okI x)(z:CodeOk code)(h:SrcI code a s) :
  EvQ (fun n=>qfD n ⟨code,a,s⟩ J c) (fun o=>qmX o.1∧SrcI code o.2.1 o.2.2):=by
 have R:(2:Nat) ^ k≤8:=by
  have:(2:Nat) ^ k≤2 ^ 3:=Nat.pow_le_pow_right (by decide) Q;simpa using this
 have v:∀ (d j:Nat) (x:List qax) (i l:Int),SrcI code i l→j+d=k→x.length=j→(∀ y,y ∈ x→qlX y) →
   EvQ (fun n=>qfi ⟨code,a,s⟩ c n x i l ((2 ^ j:Nat):Int)) (fun o=>(o.1.length=k∧∀ y,y ∈ o.1→qlX y)∧SrcI code o.2.1 o.2.2.1):=by
  intro d
  induction d with
  | zero=>
   intro j x i l f A u g;refine EvQ.succ ?_;simp only[qfi];have:j=k:=by omega
   subst this;exact EvQ.ff (qq (by omega)) (EvQ.done ⟨⟨u,g⟩,f⟩)
  | succ d ih=>
   intro j x i l f A u g;refine EvQ.succ ?_;simp only[qfi];have S:(2:Nat) ^ j<2 ^ k:=Nat.pow_lt_pow_right (by decide) (by omega);refine EvQ.tt (qp (by omega)) ?_;have t:j<4:=by omega
   refine EvQ.bindN (b:=([(⟨#[97]⟩:ByteArray),(⟨#[98]⟩:ByteArray),(⟨#[99]⟩:ByteArray),(⟨#[100]⟩:ByteArray)]:List ByteArray)[j]'(by simpa using t)) (by rw[u];exact qaZ (by simpa using t)) (EvQ.bind (qal 9 z f) ?_);rintro⟨T,W,X⟩ ⟨_,f⟩;refine EvQ.bindN (qb5 (by omega)) ?_;have e:W64 (2*((2 ^ j:Nat):Int))=((2 ^ (j+1):Nat):Int):=by
    rw[Nat.pow_succ];exact qwm (by omega)
   dsimp only;rw[e];refine ih (j+1) _ _ _ f (by omega) (by rw[jg,jh];omega) (qbz g ⟨?_,qaD (x:=1) (by decide) (by decide),qaW _,trivial⟩);rcases j with _|_|_|_|j
   ·show(1:Nat)≤1048576;decide
   ·show(1:Nat)≤1048576;decide
   ·show(1:Nat)≤1048576;decide
   ·show(1:Nat)≤1048576;decide
   ·omega
 unfold qfD;refine EvQ.bind (qal 50 z h) ?_;rintro⟨L,i2,i3⟩ ⟨⟨⟨p0,p1⟩,_⟩,f⟩;refine EvQ.bind (qal 80 z f) ?_;rintro⟨M,i5,i6⟩ ⟨⟨⟨q0,N⟩,_⟩,f⟩;dsimp only at p0 p1 q0 N;have p2:=p1 (by decide);have q2:=N (by decide);refine EvQ.bind (v k 0 [] i5 i6 f (by omega) Z (fun _ h=>by cases h)) ?_;rintro⟨K,i7,i8,i9⟩ ⟨⟨H,m⟩,f⟩;dsimp only at H m f ⊢;refine EvQ.bindN (qb5 (by omega)) ?_;have r:∀ (d j:Nat) (x:List qas) (i l:Int),SrcI code i l→j+d=k→x.length≤j→(∀ y,y ∈ x→qlS y) →
   EvQ (fun n=>qeg ⟨code,a,s⟩ J c L M K (K++[(⟨(⟨#[121]⟩:ByteArray),2,0,false⟩:qax)]) n x i l (j:Int)) (fun o=>(o.1.length≤k∧∀ y,y ∈ o.1→qlS y)∧SrcI code o.2.1 o.2.2.1):=by
  intro d
  induction d with
  | zero=>
   intro j x i l f A u g;refine EvQ.succ ?_;simp only[qeg];have P:x.length≤k:=by omega
   exact EvQ.ff (qq (by omega)) (EvQ.done ⟨⟨P,g⟩,f⟩)
  | succ d ih=>
   intro j x i l f A u g;refine EvQ.succ ?_;simp only[qeg,wS j];refine EvQ.tt (qp (by omega)) (EvQ.bind (D _ _ _ _ j (by omega)) (fun r1 C=>?_));refine EvQ.bif (fun _=>?_) (fun _=>ih (j+1) x i l f (by omega) (by omega) g);refine EvQ.bind (qrR (qaD (by decide) (by decide)) (qaD (by omega) (by omega)) (qaD (by omega) (by omega)) C z f) ?_;rintro⟨r2,a5,a6⟩ ⟨O,f⟩;refine EvQ.bindN (qb5 (by omega)) ?_;exact ih (j+1) _ _ _ f (by omega) (by rw[jg,jh];omega) (qbz g O)
 refine EvQ.bind (r k 0 [] i7 i8 f (by omega) (jQ _) (fun _ h=>by cases h)) ?_;rintro⟨x4,Y,a3,a4⟩ ⟨⟨I,p⟩,f⟩;dsimp only at I p f;refine EvQ.done ⟨⟨B,qaD (x:=1) (by decide) (by decide),⟨?_,?_⟩,⟨?_,p⟩,⟨?_,F⟩,qaD (x:=L) (by omega) (by omega),qaD (x:=M) (by omega) (by omega)⟩,f⟩
 ·show(K++_).length≤_;rw[jg,jh];omega
 ·exact qbz m ⟨by show(1:Nat)≤1048576;decide,qaD (x:=2) (by decide) (by decide),qaD (x:=0) (by decide) (by decide),trivial⟩
 ·show x4.length≤_;omega
 ·show c.length≤_;omega
theorem qmT {xs:List Int}(h:xs.all (fun x=>decide (-1000≤x)&&decide (x≤1000))=true):∀ x,x ∈ xs→okI x:=by
 intro x a;have:=List.all_eq_true.1 h x a;simp only[je,decide_eq_true_eq] at this;exact qaD (by omega) (by omega)
theorem qth {u:ByteArray}{kind edge:Int}(d:okS u)(m:okI kind)(B:okI edge)(c:CodeOk code)(h:SrcI code a s) :
  EvQ (fun n=>qeK n ⟨code,a,s⟩ u kind edge) (fun o=>qmX o.1∧SrcI code o.2.1 o.2.2):=by
 have z:∀ x:Int,-1000≤x→x≤1000→okI x:=fun x i k=>qaD (by omega) (by omega);unfold qeK;refine EvQ.bind (qal 50 c h) ?_;rintro⟨r,T,W⟩ ⟨⟨⟨P,p1⟩,_⟩,b⟩;refine EvQ.bind (qal 80 c b) ?_;rintro⟨t,X,Y⟩ ⟨⟨⟨Q,v⟩,_⟩,b⟩;dsimp only at P p1 Q v;have p2:=p1 (by decide);have q2:=v (by decide);refine EvQ.bind (qal 9 c b) ?_;rintro⟨O,e,i9⟩ ⟨_,b⟩;refine EvQ.bind (qal 9 c b) ?_;rintro⟨g,C,D⟩ ⟨_,b⟩;refine EvQ.bind (qrR B (z _ (by decide) (by decide)) (z _ (by decide) (by decide)) (z _ (by decide) (by decide)) c b) ?_;rintro⟨r1,F,H⟩ ⟨i,b⟩;refine EvQ.bind (qrR (z _ (by decide) (by decide)) (z _ (by decide) (by decide)) (z _ (by decide) (by decide)) (z _ (by decide) (by decide)) c b) ?_;rintro⟨R,I,J⟩ ⟨k,b⟩;refine EvQ.bind (qrR (z _ (by decide) (by decide)) (z _ (by decide) (by decide)) (z _ (by decide) (by decide)) (z _ (by decide) (by decide)) c b) ?_;rintro⟨S,K,L⟩ ⟨y,b⟩;dsimp only at i k y b ⊢;have l:∀ x,x ∈ [r1,R,S]→qlS x:=by
  intro x f;simp only[jI,jy,or_false] at f;rcases f with rfl|rfl|rfl<;>assumption
 have p:∀ x,x ∈ [(⟨(⟨#[100]⟩:ByteArray),1,W64 (1+O),false⟩:qax),(⟨(⟨#[99,107]⟩:ByteArray),1,W64 (1+g),true⟩:qax),(⟨(⟨#[113]⟩:ByteArray),2,0,false⟩:qax)]→qlX x:=by
  intro x f;simp only[jI,jy,or_false] at f;rcases f with rfl|rfl|rfl
  ·exact⟨by show(1:Nat)≤1048576;decide,z 1 (by decide) (by decide),qaW _,trivial⟩
  ·exact⟨by show(2:Nat)≤1048576;decide,z 1 (by decide) (by decide),qaW _,trivial⟩
  ·exact⟨by show(1:Nat)≤1048576;decide,z 2 (by decide) (by decide),z 0 (by decide) (by decide),trivial⟩
 refine EvQ.bif (fun _=>?_) (fun _=>?_)
 ·refine EvQ.bind (qrR (z _ (by decide) (by decide)) (z _ (by decide) (by decide)) (z _ (by decide) (by decide)) (z _ (by decide) (by decide)) c b) ?_;rintro⟨r4,M,N⟩ ⟨A,b⟩;refine EvQ.bindN (qb5 (by simp)) ?_;exact EvQ.done ⟨⟨d,m,⟨by simp,p⟩,⟨by simp,qbz l A⟩,⟨jQ _,fun _ h=>by cases h⟩,z r (by omega) (by omega),z t (by omega) (by omega)⟩,b⟩
 ·exact EvQ.done ⟨⟨d,m,⟨by simp,p⟩,⟨by simp,l⟩,⟨jQ _,fun _ h=>by cases h⟩,z r (by omega) (by omega),z t (by omega) (by omega)⟩,b⟩
theorem sense1a:SenseOk 1 [1,0]:=by
 intro b ps i j p a;obtain rfl:p=0:=by omega
 exact⟨_,Ev.add 4 (fun m=>rfl),qaD (by decide) (by decide)⟩
theorem sense1b:SenseOk 1 [0,1]:=by
 intro b ps i j p a;obtain rfl:p=0:=by omega
 exact⟨_,Ev.add 4 (fun m=>rfl),qaD (by decide) (by decide)⟩
theorem sense2a:SenseOk 2 [1,1,1,0]:=by
 intro b ps i j p a;rcases p with _|_|p
 ·exact⟨_,Ev.add 8 (fun m=>rfl),qaD (by decide) (by decide)⟩
 ·exact⟨_,Ev.add 8 (fun m=>rfl),qaD (by decide) (by decide)⟩
 ·omega
theorem sense2b:SenseOk 2 [0,1,1,0]:=by
 intro b ps i j p a;rcases p with _|_|p
 ·exact⟨_,Ev.add 8 (fun m=>rfl),qaD (by decide) (by decide)⟩
 ·exact⟨_,Ev.add 8 (fun m=>rfl),qaD (by decide) (by decide)⟩
 ·omega
theorem sense3:SenseOk 3 [0,1,0,1,0,0,1,1]:=by
 intro b ps i j p a;rcases p with _|_|_|p
 ·exact⟨_,Ev.add 12 (fun m=>rfl),qaD (by decide) (by decide)⟩
 ·exact⟨_,Ev.add 12 (fun m=>rfl),qaD (by decide) (by decide)⟩
 ·exact⟨_,Ev.add 12 (fun m=>rfl),qaD (by decide) (by decide)⟩
 ·omega
theorem qxh (c:CodeOk code)(h:SrcI code a s):EvQ (fun n=>qjR n ⟨code,a,s⟩) (fun o=>qhd o.1∧SrcI code o.2.1 o.2.2):=by
 have z:∀ x:Int,-1000≤x→x≤1000→okI x:=fun x f g=>qaD (by omega) (by omega);unfold qjR;refine EvQ.bind (qpM (k:=1) (by decide) Z sense1a (by show(3:Nat)≤1048576;decide) (qmT Z) c h) ?_;rintro⟨r1,F,H⟩ ⟨f,b⟩;refine EvQ.bind (qpM (k:=1) (by decide) Z sense1b (by show(3:Nat)≤1048576;decide) (qmT Z) c b) ?_;rintro⟨P,I,J⟩ ⟨g,b⟩;refine EvQ.bind (qpM (k:=2) (by decide) Z sense2a (by show(4:Nat)≤1048576;decide) (qmT Z) c b) ?_;rintro⟨Q,K,L⟩ ⟨v,b⟩;refine EvQ.bind (qpM (k:=2) (by decide) Z sense2b (by show(3:Nat)≤1048576;decide) (qmT Z) c b) ?_;rintro⟨R,M,N⟩ ⟨y,b⟩;refine EvQ.bind (qpM (k:=3) (by decide) Z sense3 (by show(3:Nat)≤1048576;decide) (qmT Z) c b) ?_;rintro⟨S,O,i⟩ ⟨A,b⟩;refine EvQ.bind (qth (by show(4:Nat)≤1048576;decide) (z _ (by decide) (by decide)) (z _ (by decide) (by decide)) c b) ?_;rintro⟨T,l,m⟩ ⟨B,b⟩;refine EvQ.bind (qth (by show(5:Nat)≤1048576;decide) (z _ (by decide) (by decide)) (z _ (by decide) (by decide)) c b) ?_;rintro⟨W,p,r⟩ ⟨C,b⟩;refine EvQ.bind (qth (by show(5:Nat)≤1048576;decide) (z _ (by decide) (by decide)) (z _ (by decide) (by decide)) c b) ?_;rintro⟨X,t,u⟩ ⟨D,b⟩;refine EvQ.done ⟨⟨⟨by simp,fun x d=>?_⟩⟩,b⟩;simp only[jI,jy,or_false] at d;rcases d with rfl|rfl|rfl|rfl|rfl|rfl|rfl|rfl<;>assumption
end

section
variable {code:List (IntK .u8)}{a s:Int}
theorem qm4 (b:IntK .u8):(strOf [b]).size=1:=rfl
theorem qrI {x y:ByteArray}(h:x.size+y.size≤1048576):catB x y=V (x++y):=by
 unfold catB;rw[if_pos];have:IntKind.i64.max=9223372036854775807:=rfl;omega
theorem quR:∀ (d:Nat) (k:Int),d≤15→0≤k→k<((10 ^ (d+1):Nat):Int)→EvQ (fun n=>qbT n k) (fun z=>z.size≤d+1):=by
 intro d
 induction d with
 | zero=>
  intro k f b c;refine EvQ.succ ?_;simp only[qbT];refine EvQ.ff (by simp;omega) (EvQ.tt (by simp;omega) (EvQ.done ?_));rw[qm4];exact jf _
 | succ d ih=>
  intro k f b c;refine EvQ.succ ?_;simp only[qbT];refine EvQ.ff (by simp;omega) (EvQ.bif (fun _=>EvQ.done (by rw[qm4];omega)) (fun h=>?_));have l:(10:Nat) ^ (d+1+1)≤10 ^ 17:=Nat.pow_le_pow_right (by decide) (by omega);have i:k≤9223372036854775807:=by
   have:(10:Nat) ^ 17≤9223372036854775807:=by decide
   omega
  have e:k.tdiv 10=k / 10:=jE b;have e1:W64 (k.tdiv 10)=k / 10:=by rw[e];exact qR (by omega) (by omega)
  rw[e1];have a:k / 10<((10 ^ (d+1):Nat):Int):=by rw[Nat.pow_succ] at c;omega
  refine EvQ.bind (ih (k / 10) (by omega) (by omega) a) (fun m g=>?_);refine EvQ.bindN (qrI (by rw[qm4];omega)) (EvQ.done ?_);rw[ByteArray.size_append,qm4];omega
theorem qts {k:Nat}(h:k≤1000):EvQ (fun n=>qbT n (k:Int)) (fun z=>z.size≤4):=quR 3 k (by decide) (by omega) (by omega)
theorem qww {y:Int}(a:0≤y)(b:y≤7):∃ p:Nat,idx ([2,2,3,3,4,3,3,3]:List Int) y=V (p:Int)∧2≤p∧p≤4:=by
 have:y=0∨y=1∨y=2∨y=3∨y=4∨y=5∨y=6∨y=7:=by omega
 rcases this with rfl|rfl|rfl|rfl|rfl|rfl|rfl|rfl
 ·exact⟨2,rfl,by decide,by decide⟩
 ·exact⟨2,rfl,by decide,by decide⟩
 ·exact⟨3,rfl,by decide,by decide⟩
 ·exact⟨3,rfl,by decide,by decide⟩
 ·exact⟨4,rfl,by decide,by decide⟩
 ·exact⟨3,rfl,by decide,by decide⟩
 ·exact⟨3,rfl,by decide,by decide⟩
 ·exact⟨3,rfl,by decide,by decide⟩
theorem qwc {y:Int}(a:0≤y)(b:y<12):∃ p:Int,idx ([0,1,2,2,3,4,5,5,5,6,7,1]:List Int) y=V p∧0≤p∧p≤7:=by
 have:y=0∨y=1∨y=2∨y=3∨y=4∨y=5∨y=6∨y=7∨y=8∨y=9∨y=10∨y=11:=by omega
 rcases this with rfl|rfl|rfl|rfl|rfl|rfl|rfl|rfl|rfl|rfl|rfl|rfl<;>exact⟨_,rfl,by decide,by decide⟩
theorem qkK {α:Type}{xs:List α}(h:xs.length≤1048576):appS ([]:List α) xs=V xs:=by
 have:=qcT (xs:=([]:List α)) (ys:=xs) (by simp;omega);rwa [List.nil_append] at this
theorem qw7 {l:List ByteArray}{m:Int}{p:Nat}(k:idx ([2,2,3,3,4,3,3,3]:List Int) m=V (p:Int))(H:2≤p)(I:p≤4)(u:l.length≤100)(i:CodeOk code) :
  ∀ (d j:Nat) (x:List Int) (f g:Int),SrcI code f g→j+d+1=p→x.length=j→(∀ y,y ∈ x→okI y) →
   EvQ (fun n=>qef ⟨code,a,s⟩ l m n x f g (j:Int)) (fun o=>(o.1.length+1=p∧∀ y,y ∈ o.1→okI y)∧SrcI code o.2.1 o.2.2.1):=by
 have h:W64 ((p:Int)-1)=((p-1:Nat):Int):=by rw[qR (by omega) (by omega)];omega
 intro d
 induction d with
 | zero=>
  intro j x f g c r t b;refine EvQ.succ ?_;simp only[qef];refine EvQ.bindN k ?_;rw[h];exact EvQ.ff (qq (by omega)) (EvQ.done ⟨⟨by dsimp only;omega,b⟩,c⟩)
 | succ d ih=>
  intro j x f g c r t b;refine EvQ.succ ?_;simp only[qef];refine EvQ.bindN k ?_;rw[h];refine EvQ.tt (qp (by omega)) (EvQ.bind (qal _ i c) ?_);rintro⟨v,z,A⟩ ⟨_,c⟩;refine EvQ.bind (qal 3 i c) ?_;rintro⟨B,C,D⟩ ⟨_,c⟩;refine EvQ.bind (R:=okI) (EvQ.bif (fun _=>EvQ.done (qaW _)) (fun _=>EvQ.done (qaW _))) (fun F hi=>?_);refine EvQ.bind (R:=fun _=>True) (EvQ.bif (fun _=>EvQ.done trivial) (fun _=>EvQ.done trivial)) (fun b3 _=>?_);rw[wS j];refine EvQ.bif (fun _=>?_) (fun _=>?_)
  ·exact EvQ.bindN (qkK (by omega)) (EvQ.bindN (qb5 (by omega)) (ih (j+1) _ _ _ c (by omega) (by rw[jg,jh];omega) (qbz b (qaD (by decide) (by decide)))))
  ·exact EvQ.bindN (qkK (by omega)) (EvQ.bindN (qb5 (by omega)) (ih (j+1) _ _ _ c (by omega) (by rw[jg,jh];omega) (qbz b hi)))
structure InsI (x:qG):Prop where
 ok:qpf x
 l2:2≤x.Am.length
 l5:x.Am.length≤5
theorem qvJ (B:CodeOk code):∀ (r:Nat) (f:List ByteArray) (d:List qG) (i l:Int),SrcI code i l→d.length+r≤14→f.length=d.length+3→(∀ y,y ∈ f→okS y)→(∀ y,y ∈ d→InsI y) →
  EvQ (fun n=>qfj ⟨code,a,s⟩ n f d i l (r:Int)) (fun o=>(o.1.length=o.2.1.length+3∧o.2.1.length=d.length+r∧(∀ y,y ∈ o.1→okS y)∧∀ y,y ∈ o.2.1→InsI y)∧SrcI code o.2.2.1 o.2.2.2.1):=by
 intro r
 induction r with
 | zero=>
  intro f d i l b I g m t;refine EvQ.succ ?_;simp only[qfj];exact EvQ.ff Z (EvQ.done ⟨⟨g,rfl,m,t⟩,b⟩)
 | succ r ih=>
  intro f d i l b I g m t;refine EvQ.succ ?_;simp only[qfj];refine EvQ.tt (by simp) (EvQ.bind (qal 12 B b) ?_);rintro⟨W,P,Q⟩ ⟨⟨⟨C,D⟩,_⟩,b⟩;dsimp only at C D b ⊢;obtain⟨T,v,z,A⟩:=qwc C (D (by decide));obtain⟨p,J,R,S⟩:=qww z A;refine EvQ.bindN v (EvQ.bind (qts (show d.length≤1000 by omega)) (fun r1 K=>?_));have F:(⟨#[117]⟩:ByteArray).size=1:=rfl;have H:(⟨#[110]⟩:ByteArray).size=1:=rfl;refine EvQ.bindN (qrI (by rw[F];omega)) (EvQ.bind (qw7 J R S (by omega) B (p-1) 0 [] P Q b (by omega) Z (fun _ h=>by cases h)) ?_);rintro⟨Y,M,N,O⟩ ⟨⟨u,c⟩,b⟩;dsimp only at u c b ⊢;refine EvQ.bindN (qkK (by omega)) (EvQ.bindN (qb5 (by omega)) (EvQ.bind (qts (show f.length≤1000 by omega)) (fun X L=>?_)));refine EvQ.bindN (qrI (by rw[H];omega)) (EvQ.bindN (qb5 (by omega)) (EvQ.bindN (qb5 (by omega)) ?_));have e:W64 (((r+1:Nat):Int)-1)=(r:Int):=by rw[qR (by omega) (by omega)];omega
  rw[e];refine(ih _ _ _ _ b (by rw[jg,jh];omega) (by rw[jg,jg,jh,jh];omega) (qbz m (by show(_++_:ByteArray).size≤_;rw[ByteArray.size_append,H];omega))
   (qbz t ⟨⟨by show(_++_:ByteArray).size≤_;rw[ByteArray.size_append,F];omega,qaD (x:=T) (by omega) (by omega),⟨by show(_++_:List Int).length≤_;rw[jg,jh];omega,qbz c (qaD (by omega) (by omega))⟩⟩,by show _≤(_++_:List Int).length;rw[jg,jh];omega,by show(_++_:List Int).length≤_;rw[jg,jh];omega⟩)).mono (fun o k=>⟨⟨k.1.1,by rw[k.1.2.1,jg,jh];omega,k.1.2.2⟩,k.2⟩)
theorem qiC {α:Type}{ok:α→Prop}{xs:List α}{j:Int}{y:α}(h:∀ x,x ∈ xs→ok x)(b:ok y):∀ x,x ∈ setS xs j y→ok x:=by
 intro x a;unfold setS at a;rcases List.mem_or_eq_of_mem_set a with a|rfl
 ·exact h x a
 ·exact b
theorem qxn {wild:Bool}{p:List ByteArray}{h:List qG}(J:h.length≤14)(u:p.length≤100)(m:CodeOk code):∀ (d j:Nat) (x:List qG) (i l:Int),SrcI code i l→j+d=h.length→x.length=h.length→(∀ y,y ∈ x→InsI y) →
  EvQ (fun n=>qeb ⟨code,a,s⟩ wild p h n x i l (j:Int)) (fun o=>(o.1.length=h.length∧∀ y,y ∈ o.1→InsI y)∧SrcI code o.2.1 o.2.2.1):=by
 intro d
 induction d with
 | zero=>
  intro j x i l c t k f;refine EvQ.succ ?_;simp only[qeb];exact EvQ.ff (qq (by omega)) (EvQ.done ⟨⟨k,f⟩,c⟩)
 | succ d ih=>
  intro j x i l c t k f;have g:j<x.length:=by omega
  refine EvQ.succ ?_;simp only[qeb,wS j];refine EvQ.tt (qp (by omega)) (EvQ.bind (R:=fun o:Int×Int×Bool=>SrcI code o.1 o.2.1) (EvQ.bind (qal 4 m c) ?_) ?_)
  ·rintro⟨D,F,H⟩ ⟨_,c⟩;refine EvQ.bif (fun _=>?_) (fun _=>EvQ.done c);refine EvQ.bindN (qaZ g) (EvQ.bif (fun _=>EvQ.done c) (fun _=>EvQ.bindN (qaZ g) (EvQ.bif (fun _=>EvQ.done c) (fun _=>EvQ.done c))))
  ·rintro⟨v,z,I⟩ c;dsimp only at c ⊢;refine EvQ.bif (fun _=>?_) (fun _=>ih (j+1) x _ _ c (by omega) k f);refine EvQ.bindN (qaZ g) (EvQ.bind (qal _ m c) ?_);rintro⟨A,B,C⟩ ⟨_,c⟩;have hi:=f _ (jo g);have r:0<x[j].Am.length:=by have:=hi.l2;omega
   refine EvQ.bindN (b:=x[j].Am[0]) (qaZ (j:=0) r) ?_;refine ih (j+1) _ _ _ c (by omega) (by rw[qa8];exact k) (qiC f ⟨⟨hi.ok.Bi,hi.ok.Bv,⟨by show(setS _ _ _).length≤_;rw[qa8];exact hi.ok.Am.1,qiC hi.ok.Am.2 (qaW _)⟩⟩,by show _≤(setS _ _ _).length;rw[qa8];exact hi.l2,by show(setS _ _ _).length≤_;rw[qa8];exact hi.l5⟩)
structure DesI (d:qh):Prop where
 ok:qj5 d
 sm:smallD d
 n1:1≤d.Am.length
 p1:1≤d.Ai.length
theorem qvs {most:Int}{wild:Bool}(K:2≤most)(J:most≤14)(g:CodeOk code)(h:SrcI code a s) :
  EvQ (fun n=>qjW n ⟨code,a,s⟩ most wild) (fun o=>DesI o.1∧SrcI code o.2.1 o.2.2):=by
 have z:∀ x:Int,-1000≤x→x≤1000→okI x:=fun x F K=>qaD (by omega) (by omega);unfold qjW;refine EvQ.bindN (qkK (by simp)) (EvQ.bind (qal _ g h) ?_);rintro⟨u,O,S⟩ ⟨⟨⟨q0,C⟩,_⟩,b⟩;have I:W64 (most-1)=most-1:=qR (by omega) (by omega);rw[I] at C;dsimp only at q0 C b ⊢;have q2:=C (by omega);obtain⟨m,M⟩:∃ m:Nat,2+u=(m:Int):=⟨(2+u).toNat,by omega⟩;rw[wO (2+u),M];have r:∀ y,y ∈ [(⟨#[110,99,107]⟩:ByteArray),(⟨#[110,97]⟩:ByteArray),(⟨#[110,98]⟩:ByteArray)]→okS y:=by
  intro y f;simp only[jI,jy,or_false] at f;rcases f with rfl|rfl|rfl
  ·show(3:Nat)≤1048576;decide
  ·show(2:Nat)≤1048576;decide
  ·show(2:Nat)≤1048576;decide
 refine EvQ.bind (qvJ g m _ [] O S b (by simp;omega) Z r (fun _ h=>by cases h)) ?_;rintro⟨p,D,i4,i5,i6⟩ ⟨⟨A,B,H,hi⟩,b⟩;dsimp only at A B H hi b ⊢;have B:D.length=m:=by simpa using B
 refine EvQ.bind (qxn (wild:=wild) (by omega) (by omega) g D.length 0 D i4 i5 b (by omega) Z hi) ?_;rintro⟨c,P,Q,R⟩ ⟨⟨v,d⟩,b⟩;dsimp only at v d b ⊢;have N:∀ y,y ∈ [(⟨(⟨#[99,107]⟩:ByteArray),1,0⟩:qaB),(⟨(⟨#[97]⟩:ByteArray),1,1⟩:qaB),(⟨(⟨#[98]⟩:ByteArray),1,2⟩:qaB)]→qri y:=by
  intro y f;simp only[jI,jy,or_false] at f;rcases f with rfl|rfl|rfl
  ·exact⟨by show(2:Nat)≤1048576;decide,z _ (by decide) (by decide),z _ (by decide) (by decide)⟩
  ·exact⟨by show(1:Nat)≤1048576;decide,z _ (by decide) (by decide),z _ (by decide) (by decide)⟩
  ·exact⟨by show(1:Nat)≤1048576;decide,z _ (by decide) (by decide),z _ (by decide) (by decide)⟩
 refine EvQ.bindN (qkK (by simp)) (EvQ.bindN (qb5 (by simp)) (EvQ.bind (qal 2 g b) ?_));have l:=qbz (y:=(⟨(⟨#[121]⟩:ByteArray),2,W64 ((p.length:Int)-1)⟩:qaB)) N ⟨by show(1:Nat)≤1048576;decide,z 2 (by decide) (by decide),qaW _⟩;have fin:∀ {ps:List qaB},1≤ps.length→ps.length≤8→(∀ y,y ∈ ps→qri y)→DesI ⟨c,p,ps⟩:=fun {ps} F L t=>by
  refine⟨⟨⟨by show c.length≤_;omega,fun y f=>(d y f).ok⟩,⟨by show p.length≤_;omega,H⟩,⟨by show ps.length≤_;omega,t⟩⟩,⟨by show c.length≤_;omega,by show p.length≤_;omega,L,fun i hi=>?_⟩,by show 1≤p.length;omega,F⟩;have k:i<c.length:=hi;have:=d _ (jo k);show 2≤(gt c i).Am.length∧(gt c i).Am.length≤5;rw[qeo k];exact⟨this.l2,this.l5⟩
 rintro⟨T,W,X⟩ ⟨_,b⟩;refine EvQ.bif (fun _=>?_) (fun _=>EvQ.done ⟨fin (by simp) (by simp) l,b⟩);refine EvQ.bind (qal _ g b) ?_;rintro⟨Y,e,a3⟩ ⟨_,b⟩;exact EvQ.bindN (qb5 (by simp)) (EvQ.done ⟨fin (by simp) (by simp) (qbz l ⟨by show(1:Nat)≤1048576;decide,z 2 (by decide) (by decide),qaW _⟩),b⟩)
end
end Go.Fw
