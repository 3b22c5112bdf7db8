/- By a program of mine (gen.py): for each function a plain function and the proof that the code computes it. -/
import Derived.Test.YtpiadipmfbjlbaaGreatDoorSP
import Derived.Test.YtpiadipmfbjlbaaGreatDoorB9
import Derived.Test.YtpiadipmfbjlbaaGreatDoorFw33
open Option renaming bind_some->jd, some->V, none->U
open Nat renaming le_refl->je, mul_le_mul_right->jw, le_trans->Jb, add_zero->Jj
open Bool renaming and_eq_true->jf, true_and->jG, not_eq_true'->jI, not_true->Ji
open List renaming length_append->jg, getElem?_eq_getElem->jh, length_singleton->jj, mem_cons_of_mem->jo, append_assoc->jp, length_map->jq, take_succ_eq_append_getElem->js, getElem_mem->jt, length_take->jv, mem_cons_self->jx, getElem?_append_left->jy, drop_eq_getElem_cons->jz, getElem?_append_right->jB, take_length->jC, getD_eq_getElem?_getD->jF, length_cons->jH, map_append->jK, mem_append_left->jM, length_replicate->jO, map_cons->jT, take_append_drop->jW, mem_append_right->jX, append_nil->Ja, getElem_take->Jd, mem_cons->Je, getElem?_drop->Jf, flatMap_append->Jl, nil_append->Jm, length_drop->Jn, map_map->Jp
open Int renaming toNat_natCast->jr, tdiv_eq_ediv_of_nonneg->jN, le_refl->Jg

namespace Go.Fw
open Go Go.Proofs Go.Proofs.Tryz
open Go.RowKit (Below)
open Ch renaming own->oW,box->oX,grp->oG
open GoT renaming v->oV
open Go.Value renaming slice->oS
set_option maxRecDepth 100000
set_option maxHeartbeats 6400000
variable{n:Nat}{w:World}{cs1 cs2 cs3 cs4 cs5 cs6 cs7 cs8 cs9:List Value}
def qc7(d:(Option Tl20Work))(node:Int):Nat->Int->Option (Flow (qf×Bool) Int)|0,_=>U|n+1,i1=>(d).bind fun a=>bif decide (i1<(a.j.Aq.length:Int)) then(idx a.j.Aq i1).bind fun b=>bif (b.Bs==node) then(idx a.j.Aq i1).bind fun c=>V (.ret (c,true)) else qc7 d node n (W64 (i1+1)) else V (.nxt i1)
def qgf(n:Nat)(a:(Option Tl20Work))(node:Int):Option (qf×Bool):=(qc7 a node n 0).bind fun|.ret r=>V r|.nxt _=>V ((⟨0,(⟨0,0⟩:qe),(⟨0,0⟩:qe)⟩:qf),false)
theorem qjz{I:(Option Tl20Work)}{node}(d:Ro w I cs1){r:(qf×Bool)}(F:qgf n I node=V r):RetV prog 81 [oV (Option Tl20Work) cs1,vi node] w r:=by
 obtain⟨D,rfl,H⟩:=qax d;refine zV 37 func81 Z fun h=>zSR (qp qa h Z Z Z fun _ b h=>X0 7 Z ?_);obtain⟨B,F,c⟩:=qc F;refine qm (rL (fun m e w'=>∃i1,qc7 I node m i1=V B/\e=[(0,.pointer D),(1,vi node),(4,vp b),(6,vi i1)]/\SH w w' [oX b [vi 0,vi 0,vi 0,vi 0,vi 0] 128]) n ⟨_,F,rfl,h⟩ Z ?_);rintro y _ _ ⟨i1,F,rfl,h⟩;rcases y with _|y
 ·cases F
 refine X0 5 Z ?_;obtain⟨_,x,F⟩:=qc F;obtain⟨_,C,_,rfl,-,t,a⟩:=PtR.get H x;obtain⟨_,_,_,_,_,_,_,_,_,_,_,_,_,_,_,_,_,_,_,_,_,_,_,_,rfl,_,_,_,_,_,_,z,_,_,_,_,_⟩:=qki t;refine zp3 Z (zc 11 (a.below h.below) Z (X0 3 Z (qg Z F ?_ ?_)))<;>intro F
 ·refine X0 9 Z (zc 11 (a.below h.below) Z (zp1 Z ?_));obtain⟨_,_,F,i,_,_,_,_,l,p,u,f⟩:=z.ix F;obtain rfl:=qF u;refine zxe l p i Z (zp1 Z (zc 0 (f.below h.below) Z (X0 3 Z (qg Z F ?_ ?_))))<;>intro F
  ·refine X0 6 Z (zc 11 (a.below h.below) Z (zp1 Z ?_));obtain⟨A,_,F,k,_,_,_,_,o,s,v,g⟩:=z.ix F;obtain rfl:=qF v;refine zxe o s k Z (zc 0 (g.below h.below) Z (zs 0 h Z fun _ h=>X0 2 Z ?_));obtain rfl:=qb F;replace F:=c;obtain rfl:=qb F;exact qac qa (ρ:=(qf×Bool)) [oV qf (qgi A),oV Bool [.bool true]] h ⟨⟨_,_,_,rfl,rfl,h.box 0 Z,rfl⟩,rfl,G⟩ (PV.done h (qat h (qz (S:=fun _=>False) (qaF A)) (qah (qz (S:=fun _=>False) Z)) (by rfl)))
  exact X0 7 Z (rK ⟨_,F,rfl,h⟩ Z)
 refine qr Z ?_;obtain rfl:=qb F;replace F:=c;refine zSR (r_v (qV qa [] [] Z Z Z Z Z Z Z Z) Z (zs 0 h Z fun _ h=>X0 2 Z ?_));obtain rfl:=qb F;exact qac qa (ρ:=(qf×Bool)) [oV qf [vi 0,vi 0,vi 0,vi 0,vi 0],oV Bool [.bool false]] h ⟨⟨_,_,_,rfl,rfl,h.box 0 Z,rfl⟩,rfl,G⟩ (PV.done h (qat h (qz (S:=fun _=>False) (qaF (⟨0,(⟨0,0⟩:qe),(⟨0,0⟩:qe)⟩:qf))) (qah (qz (S:=fun _=>False) Z)) (by rfl)))
def qcu(b:Tl20Work)(d:(List Int))(f:Int):Nat->Int->Int->Option (Int×Int)|0,_,_=>U|n+1,c,a=>bif decide (a<(b.links.length:Int)) then((idx b.live a).bind fun i=>bif i then(idx b.links a).bind fun k=>V (k.To==f) else V false).bind fun b3=>bif b3 then(idx b.links a).bind fun h=>(idx d h.Bl).bind fun g=>qcu b d f n (if (W64 (c+g))<1000000 then(W64 (c+g)) else 1000000) (W64 (a+1)) else qcu b d f n c (W64 (a+1)) else V (c,a)
def qed(a:(Option Tl20Work))(d:Tl20Work)(r4:(List Int)):Nat->(List Int)->Int->Option ((List Int)×Int)|0,_,_=>U|n+1,b,i1=>bif decide (i1<(r4.length:Int)) then(idx r4 i1).bind fun c=>(qgf n a c).bind fun(_,h)=>(bif h then V 1 else V 0).bind fun f=>(qcu d b c n f 0).bind fun(g,_)=>(idx b c).bind fun _=>qed a d r4 n (setS b c g) (W64 (i1+1)) else V (b,i1)
def qf7(n:Nat)(b:(Option Tl20Work)):Option (List Int):=(b).bind fun a=>(qbO n (⟨(⟨a.j.Ac.Av.As⟩:qq),(⟨a.j.Ac.Aa.Ab,a.j.Ac.Aa.Am,a.j.Ac.Aa.Aj⟩:qd),a.j.Ac.Ah⟩:qj)).bind fun c=>(mkS c (0:Int)).bind fun x1=>(qbO n (⟨(⟨a.j.Ac.Av.As⟩:qq),(⟨a.j.Ac.Aa.Ab,a.j.Ac.Aa.Am,a.j.Ac.Aa.Aj⟩:qd),a.j.Ac.Ah⟩:qj)).bind fun d=>(qg7 n d a.links a.live).bind fun(r4,_)=>(qed b a r4 n x1 0).bind fun(f,_)=>V f
theorem qmr{g:(Option Tl20Work)}(S:Ro w g cs1){r:(List Int)}(F:qf7 n g=V r):RetV prog 44 [oV (Option Tl20Work) cs1] w r:=by
 obtain⟨_,rfl,s1⟩:=qax S;refine zV 101 func44 Z fun h=>X0 7 Z ?_;obtain⟨y1,c9,F⟩:=qc F;obtain⟨b1,f,_,rfl,-,c1,a⟩:=PtR.get s1 c9;obtain⟨_,_,_,_,_,_,_,_,_,_,_,_,_,_,_,_,_,_,_,_,_,_,_,_,rfl,s2,s3,s4,s5,s6,_,_,s9,K,_,_,_⟩:=qki c1;refine zp3 Z (zc 0 (a.below h.below) Z (zcI h F (qdz (qck _ (h.oldS s2) (h.oldS s3) (h.oldS s4) (h.oldS s5) (h.oldS s6))) Z fun _ _ h F=>?_));obtain⟨x1,i,F⟩:=qc F;obtain⟨g1,g2,i⟩:=qS i;refine qam qa Int h Z Z Z Z Z Z Z Z Z g1 g2 i Z fun _ S1 c h=>X0 3 Z (rA [] [] h Z fun _ h=>M0 15 [0,1,2,3] (h.p [] Z) Z (Al 4 31 0 a (h.p [] Z) Z (M0 479 [6,7,8] (h.p [] Z) Z (Al 9 991 12 a (h.p [] Z) Z (M0 8159 [10,11,12] (h.p [] Z) Z (Al 13 16351 13 a (h.p [] Z) Z (Ao 5 16383 Z (zcI h F (qdz (qck _ (h.oldS s2) (h.oldS s3) (h.oldS s4) (h.oldS s5) (h.oldS s6))) Z fun _ _ h F=>Ag (h.p [] Z) (Ao 14 32767 Z ?_)))))))));obtain⟨⟨r4,r5⟩,c2,F⟩:=qc F;refine qaI (r4,r5) h (cB 80 Z) (qmR ⟨_,_,rfl,(h.oldS s9)⟩ ⟨_,_,rfl,(h.oldS K)⟩ c2) Z Z Z Z fun _ _ _ c6 c3=>?_;obtain⟨L,_,d,b,_,rfl,c7,c4⟩:=c6.consL c3;obtain⟨rfl,h⟩:=c7.lastB c4;refine G0 1048575 [15,16,17,18,19] (h.p [] Z) Z (Ad (X0 5 Z ?_));obtain⟨o1,F,Q⟩:=qc F;refine qm (rL (fun m e w'=>∃k i1,qed g y1 r4 m k i1=V o1/\e=[(0,.pointer (V ⟨b1,f,U⟩)),(3,oS c x1.length x1.length),(4,oS d r4.length b),(6,vi i1)]/\SH w w' [oW L (r4:List Int) [oS d r4.length b],oW S1 (k:List Int) [oS c x1.length x1.length]]) n ⟨_,_,F,rfl,h⟩ Z ?_);rintro m1 _ _ ⟨k,i1,F,rfl,h⟩;rcases m1 with _|m1
 ·cases F
 refine X0 8 Z (qg Z F ?_ ?_)<;>intro F
 ·refine X0 7 Z ?_;obtain⟨N,_,F,v,_,_,_,_,a7,b6,rfl,T⟩:=(h.sl 0 Z).1.ix F;refine zx a7 b6 ⟨v.1,qD v.2.1 (h.sl 0 Z).2⟩ Z (zc 0 T Z (X0 10 Z ?_));obtain⟨⟨r7,r8⟩,c5,F⟩:=qc F;refine qaI (r7,r8) h (cB 81 Z) (qjz (h.old s1) c5) Z Z Z Z fun _ _ _ c8 B=>?_;obtain⟨_,_,_,_,rfl,I,C⟩:=c8.cons B;obtain rfl:=qF (I.sh.own 0 Z);obtain⟨rfl,h⟩:=I.lastB C;refine zp3 Z (qp qa h Z Z Z fun _ _ h=>zs 0 h Z fun _ h=>X0 7 Z ?_);obtain⟨P,s,_,F,o⟩:=bindE F;refine qaV (fun e w'=>∃i2,P i2=V o1/\e=[(0,.pointer (V ⟨b1,f,U⟩)),(3,oS c x1.length x1.length),(4,oS d r4.length b),(6,vi i1),(7,vi N),(8,vi i2)]/\SH w w' [oW L (r4:List Int) [oS d r4.length b],oW S1 (k:List Int) [oS c x1.length x1.length]]) ?_ ?_
  ·refine qg Z F ?_ ?_<;>intro F
   ·refine X0 3 Z ?_;replace h:=h.p [2,3] Z;obtain rfl:=qb F;exact rG ⟨_,o,rfl,h⟩ Z
   refine qcJ ?_;replace h:=h.p [2,3] Z;obtain rfl:=qb F;exact rG ⟨_,o,rfl,h⟩ Z
  rintro _ _ ⟨i2,F,rfl,h⟩;subst s;refine X0 5 Z ?_;obtain⟨o2,F,R⟩:=qc F;refine qm (rL (fun m e w'=>∃J M,qcu y1 k N m J M=V o2/\e=[(0,.pointer (V ⟨b1,f,U⟩)),(3,oS c x1.length x1.length),(4,oS d r4.length b),(6,vi i1),(7,vi N),(8,vi J),(11,vi M)]/\SH w w' [oW L (r4:List Int) [oS d r4.length b],oW S1 (k:List Int) [oS c x1.length x1.length]]) m1 ⟨_,_,F,rfl,h⟩ Z ?_);rintro m2 _ _ ⟨J,M,F,rfl,h⟩;rcases m2 with _|m2
  ·cases F
  refine X0 7 Z (zc 12 (a.below h.below) Z (X0 3 Z (qg Z F ?_ ?_)))<;>intro F
  ·refine X0 4 Z ?_;obtain⟨O,p,_,F,l⟩:=bindE F;refine qaV (fun e w'=>∃b3,O b3=V o2/\e=[(0,.pointer (V ⟨b1,f,U⟩)),(3,oS c x1.length x1.length),(4,oS d r4.length b),(6,vi i1),(7,vi N),(8,vi J),(11,vi M),(81,.bool b3)]/\SH w w' [oW L (r4:List Int) [oS d r4.length b],oW S1 (k:List Int) [oS c x1.length x1.length]]) ?_ ?_
   ·refine X0 4 Z (zc 13 (a.below h.below) Z (zp1 Z ?_));obtain⟨_,_,F,a5,_,_,_,_,b4,b9,rfl,Y⟩:=K.ix F;refine zxe b4 b9 a5 Z (zc 0 (Y.below h.below) Z (zp1 Z (qn (t:=70) F Z ?_ ?_)))<;>intro F
    ·refine X0 7 Z (zc 12 (a.below h.below) Z (X0 3 Z ?_));obtain⟨_,_,F,a6,_,_,_,_,b5,c0,H,a3⟩:=s9.ix F;obtain rfl:=qaq H;refine zxe b5 c0 a6 Z (X0 3 Z (zc 1 (a3.below h.below) Z (X0 6 Z ?_)));obtain rfl:=qb F;exact rG ⟨_,l,rfl,h⟩ Z
    refine X0 12 Z ?_;obtain rfl:=qb F;exact rG ⟨_,l,rfl,h⟩ Z
   rintro _ _ ⟨b3,F,rfl,h⟩;subst p;refine qg Z F ?_ ?_<;>intro F
   ·refine X0 6 Z (zc 12 (a.below h.below) Z (zp1 Z ?_));obtain⟨_,_,F,a4,_,_,_,_,a8,b7,D,W⟩:=s9.ix F;obtain rfl:=qaq D;refine zxe a8 b7 a4 Z (zp1 Z (zc 0 (W.below h.below) Z ?_));obtain⟨_,_,F,x,_,_,_,_,a9,b8,rfl,X⟩:=(h.sl 1 Z).1.ix F;exact zx a9 b8 ⟨x.1,qD x.2.1 (h.sl 1 Z).2⟩ Z (zc 0 X Z (X0 10 Z (rK ⟨_,_,F,rfl,h⟩ Z)))
   exact X0 7 Z (rK ⟨_,_,F,rfl,h⟩ Z)
  refine qr Z ?_;obtain rfl:=qb F;replace F:=R;refine X0 4 Z ?_;obtain⟨_,d0,F,y,_,_,_,_,z,A,rfl,u⟩:=(h.sl 1 Z).1.ix F;exact zx z A ⟨y.1,qD y.2.1 (h.sl 1 Z).2⟩ Z (qav qa 1 0 J h Z d0 z A Z u Z Z Z Z Z Z Z fun _ h=>X0 7 Z (rK ⟨_,_,F,rfl,h⟩ Z))
 refine qr Z ?_;obtain rfl:=qb F;replace F:=Q;refine X0 5 Z ?_;obtain rfl:=qb F;exact rO 1 h Z ⟨rfl,G⟩
def qbH(f:Tgraph)(c:Int)(d:(List Int)):Nat->(List Int)->Int->Option ((List Int)×Int)|0,_,_=>U|n+1,a,b=>bif decide (b<(d.length:Int)) then(idx d b).bind fun i=>(idx a c).bind fun g=>(f.view).bind fun k=>(idx k.links i).bind fun l=>(idx a l.Bl).bind fun h=>(idx a c).bind fun _=>qbH f c d n (setS a c (if 1000000<(W64 (g+h)) then 1000000 else(W64 (g+h)))) (W64 (b+1)) else V (a,b)
def qcg(c:Twork)(f:Tgraph):Nat->(List Int)->Int->Option ((List Int)×Int)|0,_,_=>U|n+1,b,i1=>bif decide (i1<(c.order.length:Int)) then(idx c.order i1).bind fun a=>(qdQ n c.job.Aq a).bind fun(_,r4)=>(bif r4 then(idx b a).bind fun d=>(idx b a).bind fun _=>V (setS b a (W64 (d+1))) else V b).bind fun x3=>(qhb n c.graph a).bind fun g=>(qbH f a g n x3 0).bind fun(h,_)=>qcg c f n h (W64 (i1+1)) else V (b,i1)
def qf2(n:Nat)(a:(Option Twork))(b:Int):Option Int:=(a).bind fun d=>(d.graph).bind fun f=>(qcd n f.view).bind fun g=>(mkS g (0:Int)).bind fun x1=>(qcg d f n x1 0).bind fun(h,_)=>(idx h b).bind fun c=>V c
theorem qnX{l:(Option Twork)}{b}(a7:Ro w l cs1){r:Int}(F:qf2 n l b=V r):RetV prog 47 [oV (Option Twork) cs1,vi b] w r:=by
 obtain⟨_,rfl,s1⟩:=qax a7;refine zV 90 func47 Z fun h=>X0 7 Z ?_;obtain⟨k,d5,F⟩:=qc F;obtain⟨b1,g,_,rfl,-,c8,c⟩:=PtR.get s1 d5;obtain⟨_,_,_,_,_,_,_,_,_,_,_,_,_,_,_,_,_,_,_,_,_,i,f,rfl,s2,_,_,_,_,_,_,s9,_,_,_,s13⟩:=qnA c8;refine zp2 Z (zc 0 (c.below h.below) Z ?_);obtain⟨y2,d6,F⟩:=qc F;obtain⟨_,o_2,_,rfl,-,c9,x⟩:=PtR.get s2 d6;obtain⟨_,_,_,rfl,a3,_⟩:=qeN c9;refine zp2 Z (zc 0 (x.below h.below) Z (zcI h F (qdI (h.old a3)) Z fun _ w1 h F=>?_));obtain⟨x1,d,F⟩:=qc F;obtain⟨g1,g2,d⟩:=qS d;refine qam qa Int h Z Z Z Z Z Z Z Z Z g1 g2 d Z fun _ S1 a h=>X0 8 Z (zc 16 (c.below h.below) Z (X0 3 Z ?_));obtain⟨o1,F,a5⟩:=qc F;refine qm (rL (fun m e w'=>∃x2 i1,qcg k y2 m x2 i1=V o1/\e=[(0,.pointer (V ⟨b1,g,U⟩)),(1,vi b),(5,oS a x1.length x1.length),(24,oS i k.order.length f),(25,vi (k.order.length:Int)),(26,vi i1)]/\SH w w' [oW S1 (x2:List Int) [oS a x1.length x1.length]]) n ⟨_,_,F,rfl,h⟩ Z ?_);rintro m1 _ _ ⟨x2,i1,F,rfl,h⟩;rcases m1 with _|m1
 ·cases F
 refine X0 5 Z (qg Z F ?_ ?_)<;>intro F
 ·refine zKSBSR ?_;obtain⟨y3,_,F,b6,_,_,_,_,b8,c3,rfl,a8⟩:=s13.ix F;refine zxe b8 c3 b6 Z (zc 0 (a8.below h.below) Z (X0 9 Z (zc 12 (c.below h.below) Z (zp1 Z ?_))));obtain⟨⟨r3,r4⟩,d0,F⟩:=qc F;refine qaI (r3,r4) h (cB 83 Z) (qh4 ⟨_,_,rfl,(h.oldS s9)⟩ d0) Z Z Z Z fun _ _ _ d4 d1=>?_;obtain⟨_,_,_,_,rfl,S,d3⟩:=d4.cons d1;obtain rfl:=qF (S.sh.own 0 Z);obtain⟨rfl,h⟩:=S.lastB d3;refine zp3 Z (qp qa h Z Z Z fun _ _ h=>zs 0 h Z fun _ h=>X0 6 Z ?_);obtain⟨a4,p,_,F,o⟩:=bindE F;refine qaV (fun e w'=>∃x3,a4 x3=V o1/\e=[(0,.pointer (V ⟨b1,g,U⟩)),(1,vi b),(5,oS a x1.length x1.length),(7,vi y3),(24,oS i k.order.length f),(25,vi (k.order.length:Int)),(26,vi i1)]/\SH w w' [oW S1 (x3:List Int) [oS a x1.length x1.length]]) ?_ ?_
  ·refine qg Z F ?_ ?_<;>intro F
   ·refine X0 3 Z ?_;obtain⟨y10,_,F,C,_,_,_,_,c1,c6,rfl,t⟩:=(h.sl 2 Z).1.ix F;refine zx c1 c6 ⟨C.1,qD C.2.1 (h.sl 2 Z).2⟩ Z (zc 0 t Z (zp1 Z ?_));obtain⟨_,T,F,D,_,_,_,_,L,P,rfl,u⟩:=(h.sl 2 Z).1.ix F;refine zx L P ⟨D.1,qD D.2.1 (h.sl 2 Z).2⟩ Z (qav qa 2 0 (W64 (y10+1)) h Z T L P Z u Z Z Z Z Z Z Z fun _ h=>qak ?_);replace h:=h.p [2] Z;obtain rfl:=qb F;exact rG ⟨_,o,rfl,h⟩ Z
   refine qcJ ?_;replace h:=h.p [2] Z;obtain rfl:=qb F;exact rG ⟨_,o,rfl,h⟩ Z
  rintro _ _ ⟨x3,F,rfl,h⟩;subst p;refine X0 5 Z (zc 0 (c.below h.below) Z (zp1 Z (zcL h F (qj4 (h.old s2)) Z fun Y _ S6 X W h F=>X0 3 Z ?_)));obtain⟨o2,F,a6⟩:=qc F;refine qm (rL (fun m e w'=>∃x4 i2,qbH y2 y3 Y m x4 i2=V o2/\e=[(0,.pointer (V ⟨b1,g,U⟩)),(1,vi b),(5,oS a x1.length x1.length),(7,vi y3),(24,oS i k.order.length f),(25,vi (k.order.length:Int)),(26,vi i1),(52,oS X Y.length W),(53,vi (Y.length:Int)),(54,vi i2)]/\SH w w' [oW S6 (Y:List Int) [oS X Y.length W],oW S1 (x4:List Int) [oS a x1.length x1.length]]) m1 ⟨_,_,F,rfl,h⟩ Z ?_);rintro m2 _ _ ⟨x4,i2,F,rfl,h⟩;rcases m2 with _|m2
  ·cases F
  refine X0 5 Z (qg Z F ?_ ?_)<;>intro F
  ·refine zKSBSR ?_;obtain⟨_,_,F,y,_,_,_,_,b9,c4,rfl,a9⟩:=(h.sl 0 Z).1.ix F;refine zx b9 c4 ⟨y.1,qD y.2.1 (h.sl 0 Z).2⟩ Z (zc 0 a9 Z (X0 2 Z (rA [26] [1] h Z fun _ h=>M0 15 [0,1,2,3] (h.p [1] Z) Z ?_)));obtain⟨y5,d7,F,z,_,_,_,_,I,M,rfl,_⟩:=(h.sl 1 Z).1.ix F;refine Ax 4 31 I M ⟨z.1,qD z.2.1 (h.sl 1 Z).2⟩ (h.p [1] Z) Z (Aw 5 63 (fun w' hw=>qfS qa (qb2 (w1:=w) (S1:=fun _=>False) hw 0 Z d7 I M Z) (j:=0) Z Z Z) (h.p [1] Z) Z ?_);refine M0 1023 [6,7,8,9] (h.p [1] Z) Z (Al 10 2047 0 c (h.p [1] Z) Z (M0 8191 [11,12] (h.p [1] Z) Z (Al 13 16383 0 x (h.p [1] Z) Z ?_)));obtain⟨_,d8,F⟩:=qc F;obtain⟨_,o_6,_,rfl,-,Q,b4⟩:=PtR.get a3 d8;obtain⟨_,_,_,_,_,_,_,_,_,_,_,_,_,_,_,_,_,_,_,_,rfl,_,_,_,_,_,_,s22,_,_,_⟩:=qb5 Q;refine M0 65535 [14,15] (h.p [1] Z) Z (Al 16 131071 6 b4 (h.p [1] Z) Z (M0 262143 [17] (h.p [1] Z) Z ?_));obtain⟨_,_,F,b7,_,_,_,_,c0,c5,R,b5⟩:=s22.ix F;obtain rfl:=qaq R;refine Ae 18 524287 c0 c5 b7 (h.p [1] Z) Z (M0 1048575 [19] (h.p [1] Z) Z (Al 20 2097151 0 b5 (h.p [1] Z) Z ?_));obtain⟨y8,d9,F,A,_,_,_,_,J,N,rfl,_⟩:=(h.sl 1 Z).1.ix F;refine Ax 21 4194303 J N ⟨A.1,qD A.2.1 (h.sl 1 Z).2⟩ (h.p [1] Z) Z (Aw 22 8388607 (fun w' hw=>qfS qa (qb2 (w1:=w) (S1:=fun _=>False) hw 0 Z d9 J N Z) (j:=0) Z Z Z) (h.p [1] Z) Z ?_);refine M0 33554431 [23,24] (h.p [1] Z) Z ?_;obtain⟨_,e2,F,B,_,_,_,_,K,O,rfl,s⟩:=(h.sl 1 Z).1.ix F;exact Ax 25 67108863 K O ⟨B.1,qD B.2.1 (h.sl 1 Z).2⟩ (h.p [1] Z) Z (Ao 26 134217727 Z (qav qa 1 0 (if 1000000<(W64 (y5+y8)) then 1000000 else(W64 (y5+y8))) h Z e2 K O Z s Z Z Z Z Z Z Z fun _ h=>qaZ (fun hs=>absurd (hs 26 (by decide)) (by decide)) (Ad (X0 5 Z (rK ⟨_,_,F,rfl,h⟩ Z)))))
  refine qr Z ?_;obtain rfl:=qb F;replace F:=a6;refine X0 5 Z ?_;replace h:=h.p [1] Z;exact rK ⟨_,_,F,rfl,h⟩ Z
 refine qr Z ?_;obtain rfl:=qb F;replace F:=a5;refine X0 4 Z ?_;obtain⟨_,_,F,H,_,_,_,_,c2,c7,rfl,v⟩:=(h.sl 0 Z).1.ix F;exact zx c2 c7 ⟨H.1,qD H.2.1 (h.sl 0 Z).2⟩ Z (zc 0 v Z (X0 2 Z (ri h F Z)))
def qjF(_:Nat)(s:qe)(mode:Int):Option Int:=bif (mode==1) then V s.Bh else V s.Au
theorem qn5{s:qe}{mode}(a:Ro w s cs1){r:Int}(F:qjF n s mode=V r):RetV prog 54 [oV qe cs1,vi mode] w r:=by
 obtain rfl:=qt a;refine zV 11 func54 Z fun h=>zSR (qx h Z Z fun _ _ h=>X0 8 Z (qg Z F ?_ ?_))<;>intro F
 ·exact X1 6 0 h Z (ri h F Z)
 exact X1 7 0 h Z (ri h F Z)
def qmK(n:Nat)(g:(Option Tl20Work))(f:Int)(mode:Int):Option Int:=(g).bind fun a=>(idx a.links f).bind fun b=>(idx a.t.Bf b.Bl).bind fun d=>(qhe n (⟨(⟨a.j.Ac.Av.As⟩:qq),(⟨a.j.Ac.Aa.Ab,a.j.Ac.Aa.Am,a.j.Ac.Aa.Aj⟩:qd),a.j.Ac.Ah⟩:qj) (⟨a.j.Af.Bc,a.j.Af.Ap,a.j.Af.Az,a.j.Af.Ak,a.j.Af.Ay⟩:qu) b d).bind fun(c,_)=>(qjF n c mode).bind fun r4=>V r4
theorem qq8{a9:(Option Tl20Work)}{link mode}(O:Ro w a9 cs1){r:Int}(F:qmK n a9 link mode=V r):RetV prog 128 [oV (Option Tl20Work) cs1,vi link,vi mode] w r:=by
 obtain⟨_,rfl,s1⟩:=qax O;refine zV 44 func128 Z fun h=>X0 7 Z ?_;obtain⟨_,a6,F⟩:=qc F;obtain⟨_,a8,_,rfl,-,a3,t⟩:=PtR.get s1 a6;obtain⟨_,_,_,_,_,_,_,_,_,_,_,_,_,_,_,_,_,_,_,_,_,_,_,_,rfl,s2,C,D,H,I,_,_,s9,_,_,_,a7⟩:=qki a3;refine zp2 Z (zc 12 (t.below h.below) Z (zp1 Z ?_));obtain⟨A,_,F,R,_,_,_,_,T,X,a4,P⟩:=s9.ix F;obtain rfl:=qaq a4;refine zxe T X R Z (zc 0 (P.below h.below) Z (qp qa h Z Z Z fun _ N h=>zs 0 h Z fun _ h=>zNS (rA [] [0] h Z fun _ h=>M0 15 [0,1,2,3] (h.p [0] Z) Z (Al 4 31 0 t (h.p [0] Z) Z (M0 511 [5,6,7,8] (h.p [0] Z) Z (Al 9 1023 5 t (h.p [0] Z) Z (M1 32767 [10,11,12,13,14] 0 (h.p [0] Z) Z (Al 15 65535 16 t (h.p [0] Z) Z (M1 262143 [16,17] 0 (h.p [0] Z) Z ?_)))))))));obtain⟨L,_,F,S,_,_,_,_,W,Y,a5,Q⟩:=a7.ix F;obtain rfl:=qt a5;refine Ae 18 524287 W Y S (h.p [0] Z) Z (Al 19 1048575 0 Q (h.p [0] Z) Z ?_);obtain⟨⟨z,B⟩,i,F⟩:=qc F;refine qli (fun e w'=>∃y,e=[(2,vi mode),(8,vp y)]/\SH w w' [oX y (qf3 z) 102,oX N (qke A) 154]) 0 (bits 28 268435455) ?_ ?_
 ·intro K;refine qo9 20 24 25 Z Z Z (bits 28 2097151) (bits 28 17825791) (bits 28 34603007) (by kernel_rfl) (by kernel_rfl) (by kernel_rfl) (by kernel_rfl) ?_ ?_ ?_
  ·refine qaI (z,B) h (cB 181 Z) (qbQ (qck _ (h.oldS s2) (h.oldS C) (h.oldS D) (h.oldS H) (h.oldS I)) (qa8 _) (qbF A) (qA L) i) Z Z Z Z fun J M u d a=>?_;obtain⟨p,s,cs9,v,rfl,c,b⟩:=d.cons a;obtain rfl:=qt (c.sh.own 0 Z);obtain⟨f,rfl,h⟩:=c.last b;obtain rfl:=qt (h.own 0 Z);refine G0 16777215 [21,22,23] (h.p [2] Z) Z (At 24 25 33554431 50331647 Z ?_ ?_)
   ·refine qp qa h Z Z Z fun k x h=>Ag (h.p [3] Z) (Ao 25 67108863 Z (qp qa h Z Z Z fun l g h=>Ag (h.p [4] Z) (Ao 26 134217727 Z (zs 1 h Z fun m h=>Ag (h.p [4] Z) (Ao 27 268435455 Z (zs 0 h Z fun o h=>Ag (h.p [4] Z) ?_))))));replace h:=h.p [1,4] Z;exact aK K ⟨_,rfl,h⟩ Z
   refine qp qa h Z Z Z fun k x h=>Ag (h.p [3] Z) (Ao 24 67108863 Z (qp qa h Z Z Z fun l g h=>Ag (h.p [4] Z) (Ao 26 134217727 Z (zs 0 h Z fun m h=>Ag (h.p [4] Z) (Ao 27 268435455 Z (zs 1 h Z fun o h=>Ag (h.p [4] Z) ?_))))));replace h:=h.p [0,4] Z;exact aK K ⟨_,rfl,h⟩ Z
  ·refine qp qa h Z Z Z fun J x h=>Ag (h.p [1] Z) (At 20 25 18874367 51380223 Z ?_ ?_)
   ·refine qaI (z,B) h (cB 181 Z) (qbQ (qck _ (h.oldS s2) (h.oldS C) (h.oldS D) (h.oldS H) (h.oldS I)) (qa8 _) (qbF A) (qA L) i) Z Z Z Z fun k M u d a=>?_;obtain⟨p,s,cs9,v,rfl,c,b⟩:=d.cons a;obtain rfl:=qt (c.sh.own 0 Z);obtain⟨f,rfl,h⟩:=c.last b;obtain rfl:=qt (h.own 0 Z);refine G0 33554431 [21,22,23] (h.p [3] Z) Z (Ao 25 67108863 Z (qp qa h Z Z Z fun l g h=>Ag (h.p [4] Z) (Ao 26 134217727 Z (zs 3 h Z fun m h=>Ag (h.p [4] Z) (Ao 27 268435455 Z (zs 0 h Z fun o h=>Ag (h.p [4] Z) ?_))))));replace h:=h.p [3,4] Z;exact aK K ⟨_,rfl,h⟩ Z
   refine qp qa h Z Z Z fun k g h=>Ag (h.p [2] Z) (Ao 20 52428799 Z (qaI (z,B) h (cB 181 Z) (qbQ (qck _ (h.oldS s2) (h.oldS C) (h.oldS D) (h.oldS H) (h.oldS I)) (qa8 _) (qbF A) (qA L) i) Z Z Z Z fun l M u d a=>?_));obtain⟨p,s,cs9,v,rfl,c,b⟩:=d.cons a;obtain rfl:=qt (c.sh.own 0 Z);obtain⟨f,rfl,h⟩:=c.last b;obtain rfl:=qt (h.own 0 Z);refine G0 67108863 [21,22,23] (h.p [4] Z) Z (Ao 26 134217727 Z (zs 3 h Z fun m h=>Ag (h.p [4] Z) (Ao 27 268435455 Z (zs 2 h Z fun o h=>Ag (h.p [4] Z) ?_))));replace h:=h.p [3,4] Z;exact aK K ⟨_,rfl,h⟩ Z
  refine qp qa h Z Z Z fun J x h=>Ag (h.p [1] Z) (At 20 24 35651583 51380223 Z ?_ ?_)
  ·refine qaI (z,B) h (cB 181 Z) (qbQ (qck _ (h.oldS s2) (h.oldS C) (h.oldS D) (h.oldS H) (h.oldS I)) (qa8 _) (qbF A) (qA L) i) Z Z Z Z fun k M u d a=>?_;obtain⟨p,s,cs9,v,rfl,c,b⟩:=d.cons a;obtain rfl:=qt (c.sh.own 0 Z);obtain⟨f,rfl,h⟩:=c.last b;obtain rfl:=qt (h.own 0 Z);refine G0 50331647 [21,22,23] (h.p [3] Z) Z (Ao 24 67108863 Z (qp qa h Z Z Z fun l g h=>Ag (h.p [4] Z) (Ao 26 134217727 Z (zs 0 h Z fun m h=>Ag (h.p [4] Z) (Ao 27 268435455 Z (zs 3 h Z fun o h=>Ag (h.p [4] Z) ?_))))));replace h:=h.p [0,4] Z;exact aK K ⟨_,rfl,h⟩ Z
  refine qp qa h Z Z Z fun k g h=>Ag (h.p [2] Z) (Ao 20 52428799 Z (qaI (z,B) h (cB 181 Z) (qbQ (qck _ (h.oldS s2) (h.oldS C) (h.oldS D) (h.oldS H) (h.oldS I)) (qa8 _) (qbF A) (qA L) i) Z Z Z Z fun l M u d a=>?_));obtain⟨p,s,cs9,v,rfl,c,b⟩:=d.cons a;obtain rfl:=qt (c.sh.own 0 Z);obtain⟨f,rfl,h⟩:=c.last b;obtain rfl:=qt (h.own 0 Z);refine G0 67108863 [21,22,23] (h.p [4] Z) Z (Ao 26 134217727 Z (zs 2 h Z fun m h=>Ag (h.p [4] Z) (Ao 27 268435455 Z (zs 3 h Z fun o h=>Ag (h.p [4] Z) ?_))));replace h:=h.p [2,4] Z;exact aK K ⟨_,rfl,h⟩ Z
 rintro _ _ ⟨y,rfl,h⟩;exact Ad (X1 4 0 h Z (zcI h F (qn5 (qA z)) Z fun _ _ h F=>X0 2 Z (ri h F Z)))
def qdw(d:(Option Tl20Work))(list:(List Int))(mode:Int):Nat->Int->Int->Option (Int×Int)|0,_,_=>U|n+1,i1,a=>bif decide (a<(list.length:Int)) then(idx list a).bind fun c=>(qmK n d c mode).bind fun b=>qdw d list mode n (W64 (i1+b)) (W64 (a+1)) else V (i1,a)
def qiD(n:Nat)(b:(Option Tl20Work))(start:Int)(list:(List Int))(mode:Int):Option Int:=(qgf n b start).bind fun(a,_)=>(qjF n (⟨a.Ai.Au,a.Ai.Bh⟩:qe) mode).bind fun r4=>(qdw b list mode n r4 0).bind fun(i1,_)=>V i1
theorem qp0{D:(Option Tl20Work)}{start}{list:(List Int)}{mode}(c:Ro w D cs1)(d:Ro w list cs2){r:Int}(F:qiD n D start list mode=V r):RetV prog 82 [oV (Option Tl20Work) cs1,vi start,oV (List Int) cs2,vi mode] w r:=by
 obtain⟨z,rfl,v⟩:=qax c;obtain⟨A,x,rfl,s2⟩:=d;refine zV 39 func82 Z fun h=>X0 8 Z ?_;obtain⟨⟨B,C⟩,l,F⟩:=qc F;refine qaI (B,C) h (cB 81 Z) (qjz (h.old v) l) Z Z Z Z fun _ _ _ s o=>?_;obtain⟨_,_,_,_,rfl,a,p⟩:=s.cons o;obtain rfl:=qF (a.sh.own 0 Z);obtain⟨rfl,h⟩:=a.lastB p;refine zp3 Z (qp qa h Z Z Z fun _ _ h=>zs 0 h Z fun _ h=>X1 7 0 h Z (zcI h F (qn5 (qA _)) Z fun _ _ h F=>X0 7 Z ?_));obtain⟨y,F,b⟩:=qc F;refine qm ?_;replace h:=h.p [] Z;refine rL (fun m e w'=>∃i1 t,qdw D list mode m i1 t=V y/\e=[(0,.pointer z),(2,oS A list.length x),(3,vi mode),(11,vi i1),(12,vi t)]/\SH w w' []) n ⟨_,_,F,rfl,h⟩ Z ?_;rintro u _ _ ⟨i1,t,F,rfl,h⟩;rcases u with _|u
 ·cases F
 refine X0 8 Z (qg Z F ?_ ?_)<;>intro F
 ·refine X0 8 Z ?_;obtain⟨_,_,F,g,_,_,_,_,i,k,rfl,f⟩:=s2.ix F;exact zxe i k g Z (zc 0 (f.below h.below) Z (zp1 Z (zcI h F (qq8 (h.old v)) Z fun _ _ h F=>X0 9 Z (rK ⟨_,_,F,rfl,h⟩ Z))))
 refine qr Z ?_;obtain rfl:=qb F;replace F:=b;exact X0 5 Z (ri h F Z)
def qee(b:(List Int))(a:Twork):Nat->(List qe)->Int->Int->Int->Option ((List qe)×Int×Int×Int)|0,_,_,_,_=>U|n+1,x1,i1,f,c=>bif decide (c<(b.length:Int)) then(idx b c).bind fun g=>(a.graph).bind fun h=>(h.view).bind fun k=>(idx k.links g).bind fun l=>(idx a.timing.Bf l.Bl).bind fun m=>(qfr n h.view (⟨a.job.Af.Bc,a.job.Af.Ap,a.job.Af.Az,a.job.Af.Ak,a.job.Af.Ay⟩:qu) g m).bind fun(i,_)=>(qhy n (⟨i1,f⟩:qe) i).bind fun d=>(appS x1 ([d]:List qe)).bind fun x3=>qee b a n x3 d.Au d.Bh (W64 (c+1)) else V (x1,i1,f,c)
def qjp(n:Nat)(b:(Option Twork))(c:Int)(d:(List Int)):Option (List qe):=(b).bind fun f=>(qdQ n f.job.Aq c).bind fun(a,_)=>(qee d f n ([(⟨a.Ai.Au,a.Ai.Bh⟩:qe)]:List qe) a.Ai.Au a.Ai.Bh 0).bind fun(x1,_,_,_)=>V x1
theorem qqe{O:(Option Twork)}{P}{i:(List Int)}(ha1:Ro w O cs1)(ha2:Ro w i cs2){r:(List qe)}(F:qjp n O P i=V r):RetV prog 88 [oV (Option Twork) cs1,vi P,oV (List Int) cs2] w r:=by
 obtain⟨_,rfl,s1⟩:=qax ha1;obtain⟨p2,k1,rfl,s2⟩:=ha2;refine zV 82 func88 Z fun h=>X0 7 Z ?_;obtain⟨y1,hy1,F⟩:=qc F;obtain⟨b1,T,_,rfl,-,hr1,v⟩:=PtR.get s1 hy1;obtain⟨_,_,_,_,_,_,_,_,_,_,_,_,_,_,_,_,_,_,_,_,_,_,_,rfl,s3,_,_,_,_,_,_,s10,_,_,s13,_⟩:=qnA hr1;refine zp3 Z (zc 12 (v.below h.below) Z (zp1 Z ?_));obtain⟨⟨W,r3⟩,hr2,F⟩:=qc F;refine qaI (W,r3) h (cB 83 Z) (qh4 ⟨_,_,rfl,(h.oldS s10)⟩ hr2) Z Z Z Z fun _ _ _ hv1 hr3=>?_;obtain⟨_,_,_,_,rfl,S,hr4⟩:=hv1.cons hr3;obtain rfl:=qF (S.sh.own 0 Z);obtain⟨rfl,h⟩:=S.lastB hr4;refine zp3 Z (qp qa h Z Z Z fun _ _ h=>zs 0 h Z fun _ h=>X1 6 0 h Z (qp qa h Z Z Z fun _ J h=>zs 0 h Z fun _ h=>X1 4 0 h Z (qG qa [.tmp 27] _ ([(⟨W.Ai.Au,W.Ai.Bh⟩:qe)]:List qe) h Z Z Z Z Z Z Z Z Z ⟨(qA (⟨W.Ai.Au,W.Ai.Bh⟩:qe)),G⟩ Z fun _ _ _ h=>X0 9 Z ?_)));obtain⟨o1,F,hK1⟩:=qc F;refine qm ?_;replace h:=h.p [0,1] Z;refine rL (fun m e w'=>∃S6 y M x x1 i1 i2 i3,qee i y1 m x1 i1 i2 i3=V o1/\e=[(0,.pointer (V ⟨b1,T,U⟩)),(9,vp J),(10,oS y M x),(29,oS p2 i.length k1),(30,vi (i.length:Int)),(31,vi i3)]/\SH w w' [oW S6 (x1:List qe) [oS y M x],oX J [vi i1,vi i2] 102]) n ⟨_,_,_,_,_,_,_,_,F,rfl,h⟩ Z ?_;rintro m1 _ _ ⟨S6,y,M,x,x1,i1,i2,i3,F,rfl,h⟩;obtain rfl:=(h.sl 0 Z).2;rcases m1 with _|m1
 ·cases F
 refine X0 5 Z (qg Z F ?_ ?_)<;>intro F
 ·refine zKSBSR ?_;obtain⟨_,_,F,he1,_,_,_,_,hp1,hq1,rfl,hc3⟩:=s2.ix F;refine zxe hp1 hq1 he1 Z (zc 0 (hc3.below h.below) Z (X0 3 Z (rA [] [] h Z fun _ h=>M0 7 [0,1,2] (h.p [] Z) Z (Al 3 15 0 v (h.p [] Z) Z ?_))));obtain⟨_,hy3,F⟩:=qc F;obtain⟨_,o_3,_,rfl,-,hr7,Q⟩:=PtR.get s3 hy3;obtain⟨_,_,_,rfl,s,_⟩:=qeN hr7;refine M0 63 [4,5] (h.p [] Z) Z (Al 6 127 0 Q (h.p [] Z) Z (M0 2047 [7,8,9,10] (h.p [] Z) Z (Al 11 4095 6 v (h.p [] Z) Z (M0 131071 [12,13,14,15,16] (h.p [] Z) Z (Al 17 262143 15 v (h.p [] Z) Z (M0 2097151 [18,19,20] (h.p [] Z) Z (Al 21 4194303 0 v (h.p [] Z) Z (M0 16777215 [22,23] (h.p [] Z) Z (Al 24 33554431 0 Q (h.p [] Z) Z ?_)))))))));obtain⟨_,hy4,F⟩:=qc F;obtain⟨_,o_4,_,rfl,-,hr8,hc5⟩:=PtR.get s hy4;obtain⟨_,_,_,_,_,_,_,_,_,_,_,_,_,_,_,_,_,_,_,_,rfl,_,_,_,_,_,_,s23,_,_,_⟩:=qb5 hr8;refine M0 134217727 [25,26] (h.p [] Z) Z (Al 27 268435455 6 hc5 (h.p [] Z) Z (M0 536870911 [28] (h.p [] Z) Z ?_));obtain⟨_,_,F,he2,_,_,_,_,hp2,hq2,hr9,hc6⟩:=s23.ix F;obtain rfl:=qaq hr9;refine Ae 29 1073741823 hp2 hq2 he2 (h.p [] Z) Z (M0 2147483647 [30] (h.p [] Z) Z (Al 31 4294967295 0 hc6 (h.p [] Z) Z ?_));obtain⟨y6,_,F,he3,_,_,_,_,hp3,hq3,R,hc7⟩:=s13.ix F;obtain rfl:=qt R;refine Ae 32 8589934591 hp3 hq3 he3 (h.p [] Z) Z (Al 33 17179869183 0 hc7 (h.p [] Z) Z ?_);obtain⟨⟨N,X⟩,g,F⟩:=qc F;refine qli (fun e w'=>∃u,e=[(0,.pointer (V ⟨b1,T,U⟩)),(10,oS y x1.length x),(13,vp u),(29,oS p2 i.length k1),(30,vi (i.length:Int)),(31,vi i3),(9,vp J)]/\SH w w' [oX u (qf3 N) 102,oW S6 (x1:List qe) [oS y x1.length x],oX J [vi i1,vi i2] 102]) 0 (bits 42 4398046511103) ?_ ?_
  ·intro K;refine qo9 34 38 39 Z Z Z (bits 42 34359738367) (bits 42 292057776127) (bits 42 566935683071) (by kernel_rfl) (by kernel_rfl) (by kernel_rfl) (by kernel_rfl) ?_ ?_ ?_
   ·refine qaI (N,X) h (cB 133 Z) (qbg (h.old s) (qa8 _) (qA y6) g) Z Z Z Z fun Y D o d b=>?_;obtain⟨H,I,k,p,rfl,a,c⟩:=d.cons b;obtain rfl:=qt (a.sh.own 0 Z);obtain⟨l,rfl,h⟩:=a.last c;obtain rfl:=qt (h.own 0 Z);refine G0 274877906943 [35,36,37] (h.p [] Z) Z (At 38 39 549755813887 824633720831 Z ?_ ?_)
    ·refine qp qa h Z Z Z fun z t h=>Ag (h.p [] Z) (Ao 39 1099511627775 Z (qp qa h Z Z Z fun A f h=>Ag (h.p [] Z) (Ao 40 2199023255551 Z (zs 1 h Z fun B h=>Ag (h.p [] Z) (Ao 41 4398046511103 Z (zs 0 h Z fun C h=>Ag (h.p [] Z) ?_))))));replace h:=h.p [1,4,5] Z;exact aK K ⟨_,rfl,h⟩ Z
    refine qp qa h Z Z Z fun z t h=>Ag (h.p [] Z) (Ao 38 1099511627775 Z (qp qa h Z Z Z fun A f h=>Ag (h.p [] Z) (Ao 40 2199023255551 Z (zs 0 h Z fun B h=>Ag (h.p [] Z) (Ao 41 4398046511103 Z (zs 1 h Z fun C h=>Ag (h.p [] Z) ?_))))));replace h:=h.p [0,4,5] Z;exact aK K ⟨_,rfl,h⟩ Z
   ·refine qp qa h Z Z Z fun Y t h=>Ag (h.p [] Z) (At 34 39 309237645311 841813590015 Z ?_ ?_)
    ·refine qaI (N,X) h (cB 133 Z) (qbg (h.old s) (qa8 _) (qA y6) g) Z Z Z Z fun z D o d b=>?_;obtain⟨H,I,k,p,rfl,a,c⟩:=d.cons b;obtain rfl:=qt (a.sh.own 0 Z);obtain⟨l,rfl,h⟩:=a.last c;obtain rfl:=qt (h.own 0 Z);refine G0 549755813887 [35,36,37] (h.p [] Z) Z (Ao 39 1099511627775 Z (qp qa h Z Z Z fun A f h=>Ag (h.p [] Z) (Ao 40 2199023255551 Z (zs 3 h Z fun B h=>Ag (h.p [] Z) (Ao 41 4398046511103 Z (zs 0 h Z fun C h=>Ag (h.p [] Z) ?_))))));replace h:=h.p [3,4,5] Z;exact aK K ⟨_,rfl,h⟩ Z
    refine qp qa h Z Z Z fun z f h=>Ag (h.p [] Z) (Ao 34 858993459199 Z (qaI (N,X) h (cB 133 Z) (qbg (h.old s) (qa8 _) (qA y6) g) Z Z Z Z fun A D o d b=>?_));obtain⟨H,I,k,p,rfl,a,c⟩:=d.cons b;obtain rfl:=qt (a.sh.own 0 Z);obtain⟨l,rfl,h⟩:=a.last c;obtain rfl:=qt (h.own 0 Z);refine G0 1099511627775 [35,36,37] (h.p [] Z) Z (Ao 40 2199023255551 Z (zs 3 h Z fun B h=>Ag (h.p [] Z) (Ao 41 4398046511103 Z (zs 2 h Z fun C h=>Ag (h.p [] Z) ?_))));replace h:=h.p [3,4,5] Z;exact aK K ⟨_,rfl,h⟩ Z
   refine qp qa h Z Z Z fun Y t h=>Ag (h.p [] Z) (At 34 38 584115552255 841813590015 Z ?_ ?_)
   ·refine qaI (N,X) h (cB 133 Z) (qbg (h.old s) (qa8 _) (qA y6) g) Z Z Z Z fun z D o d b=>?_;obtain⟨H,I,k,p,rfl,a,c⟩:=d.cons b;obtain rfl:=qt (a.sh.own 0 Z);obtain⟨l,rfl,h⟩:=a.last c;obtain rfl:=qt (h.own 0 Z);refine G0 824633720831 [35,36,37] (h.p [] Z) Z (Ao 38 1099511627775 Z (qp qa h Z Z Z fun A f h=>Ag (h.p [] Z) (Ao 40 2199023255551 Z (zs 0 h Z fun B h=>Ag (h.p [] Z) (Ao 41 4398046511103 Z (zs 3 h Z fun C h=>Ag (h.p [] Z) ?_))))));replace h:=h.p [0,4,5] Z;exact aK K ⟨_,rfl,h⟩ Z
   refine qp qa h Z Z Z fun z f h=>Ag (h.p [] Z) (Ao 34 858993459199 Z (qaI (N,X) h (cB 133 Z) (qbg (h.old s) (qa8 _) (qA y6) g) Z Z Z Z fun A D o d b=>?_));obtain⟨H,I,k,p,rfl,a,c⟩:=d.cons b;obtain rfl:=qt (a.sh.own 0 Z);obtain⟨l,rfl,h⟩:=a.last c;obtain rfl:=qt (h.own 0 Z);refine G0 1099511627775 [35,36,37] (h.p [] Z) Z (Ao 40 2199023255551 Z (zs 2 h Z fun B h=>Ag (h.p [] Z) (Ao 41 4398046511103 Z (zs 3 h Z fun C h=>Ag (h.p [] Z) ?_))));replace h:=h.p [2,4,5] Z;exact aK K ⟨_,rfl,h⟩ Z
  rintro _ _ ⟨u,rfl,h⟩;refine Ad (X2 4 2 0 h Z (zcO h F (qmd (qA _) (qA N)) Z fun r9 _ _ _ h F=>?_));obtain rfl:=qt (h.own 0 Z);refine zs 3 h Z fun _ h=>X1 4 3 h Z (qG qa [.tmp 77] _ ([r9]:List qe) h Z Z Z Z Z Z Z Z Z ⟨(qA r9),G⟩ Z fun _ _ _ h=>?_);obtain⟨_,L,F⟩:=qc F;obtain⟨g3,L⟩:=qN L;refine qbW qa 3 h Z (h.sl 0 Z).1 (h.sl 0 Z).2 Z Z Z Z Z Z Z Z Z g3 L Z fun _ _ _ _ h=>X0 7 Z ?_;replace h:=h.p [3,4] Z;exact rK ⟨_,_,_,_,_,_,_,_,F,rfl,h⟩ Z
 refine qr Z ?_;obtain rfl:=qb F;replace F:=hK1;refine X0 5 Z ?_;obtain rfl:=qb F;exact rO 0 h Z ⟨rfl,G⟩
def qez(n:Nat)(c:(Option Twork))(start:Int)(links:(List Int)):Option qe:=(qjp n c start links).bind fun a=>(idx a (links.length:Int)).bind fun b=>V b
theorem ql5{m:(Option Twork)}{start}{links:(List Int)}(b:Ro w m cs1)(c:Ro w links cs2){r:qe}(F:qez n m start links=V r):RetV prog 49 [oV (Option Twork) cs1,vi start,oV (List Int) cs2] w r:=by
 obtain⟨_,rfl,l⟩:=qax b;obtain⟨_,_,rfl,s2⟩:=c;refine zV 15 func49 Z fun h=>zSR (qp qa h Z Z Z fun _ _ h=>X0 6 Z (zcL h F (qqe (h.old l) ⟨_,_,rfl,(h.oldS s2)⟩) Z fun _ _ _ _ _ h F=>zp2 Z ?_));obtain⟨k,_,F,a,_,_,_,_,f,g,i,d⟩:=(h.sl 0 Z).1.ix F;obtain rfl:=qt i;refine zx f g ⟨a.1,qD a.2.1 (h.sl 0 Z).2⟩ Z (zc 0 d Z (zs 1 h Z fun _ h=>qak ?_));obtain rfl:=qb F;exact qac qa (ρ:=qe) [oV qe (qf3 k)] h ⟨⟨_,_,_,rfl,rfl,h.box 1 Z,rfl⟩,G⟩ (PV.done h (qah (qz (S:=fun _=>False) (qA k))))
def qnH(_:Nat)(s:qe)(mode:Int):Option Int:=bif (mode==0) then V s.Au else V s.Bh
theorem qrE{s:qe}{mode}(a:Ro w s cs1){r:Int}(F:qnH n s mode=V r):RetV prog 50 [oV qe cs1,vi mode] w r:=by
 obtain rfl:=qt a;refine zV 11 func50 Z fun h=>zSR (qx h Z Z fun _ _ h=>X0 8 Z (qg Z F ?_ ?_))<;>intro F
 ·exact X1 6 0 h Z (ri h F Z)
 exact X1 7 0 h Z (ri h F Z)
def qdW(i1:Int)(r4:(List qh)):Nat->(List qh)->Int->Option ((List qh)×Int)|0,_,_=>U|n+1,x3,a=>bif decide (a<(r4.length:Int)) then(idx r4 a).bind fun f=>(idx r4 a).bind fun g=>(appS ([]:List Int) g.Bd).bind fun b=>(appS b ([i1]:List Int)).bind fun c=>(appS x3 ([(⟨f.Bm,c,0⟩:qh)]:List qh)).bind fun d=>qdW i1 r4 n d (W64 (a+1)) else V (x3,a)
def qbw(l:((Option Tl20Work)->Int->Option (List qh)))(a:(Option Tl20Work))(b:Int):Nat->(List qh)->Int->Option ((List qh)×Int)|0,_,_=>U|n+1,d,i1=>(a).bind fun c=>bif decide (i1<(c.links.length:Int)) then((idx c.live i1).bind fun g=>bif (!g) then V true else(idx c.links i1).bind fun h=>bif (h.To != b) then V true else(idx c.links i1).bind fun i=>(idx c.t.Be i.Bl).bind fun k=>V (!k)).bind fun b2=>bif b2 then qbw l a b n d (W64 (i1+1)) else(idx c.links i1).bind fun f=>(l a f.Bl).bind fun r4=>(qdW i1 r4 n d 0).bind fun(x3,_)=>qbw l a b n x3 (W64 (i1+1)) else V (d,i1)
def qcU:Nat->(Option Tl20Work)->Int->Option (List qh)|0,_,_=>U|n+1,b,a=>(qgf n b a).bind fun(_,c)=>(bif c then(appS ([]:List qh) ([(⟨a,([]:List Int),0⟩:qh)]:List qh)).bind fun f=>V f else V ([]:List qh)).bind fun x1=>(qbw (qcU n) b a n x1 0).bind fun(d,_)=>V d
theorem qsB{n}:∀{w:World} {g:(Option Tl20Work)} {a:Int} {cs1:List Value} (k:Ro w g cs1) {r:(List qh)} (_:qcU n g a=V r),RetV prog 59 [oV (Option Tl20Work) cs1,vi a] w r:=by
 induction n with
 |zero=>intro w g a cs1 k r F;rw[qcU] at F;cases F
 |succ n ih=>
  intro w g a cs1 k r F;obtain⟨rc,hrc⟩:∃rc,rc=qcU n:=⟨_,rfl⟩;rw[<-hrc] at ih;obtain⟨p1,rfl,s1⟩:=qax k;refine zV 108 func59 Z fun h=>?_;unfold qcU at F;rw[<-hrc] at F;refine X0 6 Z (qia qa [] _ ([]:List qh) [] h Z Z Z Z Z Z Z Z Z qlq Z Z fun _ _ _ h=>X0 6 Z ?_);obtain⟨⟨r2,r3⟩,hr1,F⟩:=qc F;refine qaI (r2,r3) h (cB 81 Z) (qjz (h.old s1) hr1) Z Z Z Z fun _ _ _ hv1 hr2=>?_;obtain⟨_,_,_,_,rfl,a8,hr3⟩:=hv1.cons hr2;obtain rfl:=qF (a8.sh.own 0 Z);obtain⟨rfl,h⟩:=a8.lastB hr3;refine zp3 Z (qp qa h Z Z Z fun _ _ h=>zs 0 h Z fun _ h=>X0 7 Z ?_);obtain⟨KF2,K,_,F,I⟩:=bindE F;refine qaV (fun e w'=>∃S6 p3 s k1 x1,KF2 x1=V r/\e=[(0,.pointer p1),(1,vi a),(5,oS p3 s k1)]/\SH w w' [oW S6 (x1:List qh) [oS p3 s k1]]) ?_ ?_
  ·refine qg Z F ?_ ?_<;>intro F
   ·refine X0 3 Z (qG qa [] _ ([]:List Int) h Z Z Z Z Z Z Z Z Z trivial Z fun _ _ _ h=>r_v (qV qa [0,1] [.tmp 20,.tmp 21] Z Z Z Z Z Z Z Z) Z (qia qa [.tmp 22] _ ([(⟨a,([]:List Int),0⟩:qh)]:List qh) [1,2,3] h Z Z Z Z Z Z Z Z Z (qmX (qky (⟨a,([]:List Int),0⟩:qh) h (qz (S:=fun _=>False) Z) (qad 0 h Z) (qz (S:=fun _=>False) Z) (by rfl) (by rfl)) qlq Z) Z Z fun _ _ _ h=>?_));obtain⟨_,l,F⟩:=qc F;obtain⟨g22,l⟩:=qN l;replace h:=h.p [0,3,1,2] Z;refine qo6 qa h Z Z Z Z Z Z Z Z Z g22 l Z fun _ _ _ _ h=>X0 2 Z ?_;replace h:=h.p [0] Z;obtain rfl:=qb F;exact rG ⟨_,_,_,_,_,I,rfl,h⟩ Z
   ·refine qcJ ?_;replace h:=h.p [2] Z;obtain rfl:=qb F;exact rG ⟨_,_,_,_,_,I,rfl,h⟩ Z
  ·rintro _ _ ⟨S6,p3,s,k1,x1,F,rfl,h⟩;subst K;obtain rfl:=(h.sl 0 Z).2;refine X0 5 Z ?_;obtain⟨o1,F,hK1⟩:=qc F;refine qm (rL (fun m e w'=>∃S7 p4 u k2 B i1,qbw rc g a m B i1=V o1/\e=[(0,.pointer p1),(1,vi a),(5,oS p4 u k2),(8,vi i1)]/\SH w w' [oW S7 (B:List qh) [oS p4 u k2]]) n ⟨_,_,_,_,_,_,F,rfl,h⟩ Z ?_);rintro m1 _ _ ⟨S7,p4,u,k2,B,i1,F,rfl,h⟩;obtain rfl:=(h.sl 0 Z).2;rcases m1 with _|m1
   ·cases F
   refine X0 5 Z ?_;obtain⟨_,hy1,F⟩:=qc F;obtain⟨b1,x,_,rfl,-,hr5,f⟩:=PtR.get s1 hy1;obtain⟨_,_,_,_,_,_,_,_,_,_,_,_,_,_,_,_,_,_,_,_,_,_,_,_,rfl,_,_,_,_,_,_,_,s9,s10,s11,_,_⟩:=qki hr5;refine zp2 Z (zc 12 (f.below h.below) Z (X0 3 Z (qg Z F ?_ ?_)))<;>intro F
   ·refine X0 5 Z ?_;obtain⟨KF1,J,_,F,i⟩:=bindE F;refine qaV (fun e w'=>∃b2,KF1 b2=V o1/\e=[(0,.pointer (V ⟨b1,x,U⟩)),(1,vi a),(5,oS p4 B.length k2),(8,vi i1),(71,.bool b2)]/\SH w w' [oW S7 (B:List qh) [oS p4 B.length k2]]) ?_ ?_
    ·refine rD (zd3 Z (zdc 13 (f.below h.below) Z (zd1 Z ?_)));obtain⟨_,_,F,he8,_,_,_,_,hp8,hq8,rfl,N⟩:=s10.ix F;refine zdxe hp8 hq8 he8 Z (zdc 0 (N.below h.below) Z (zd2 Z (qaU (t:=42) F Z ?_ ?_)))<;>intro F
     ·refine Y0 29 Z (dN h fun _ h=>?_);obtain rfl:=qb F;exact rG ⟨_,i,rfl,h⟩ Z
     ·refine Y0 7 Z (zdc 12 (f.below h.below) Z (Y0 3 Z ?_));obtain⟨_,_,F,he9,_,_,_,_,hp9,hq9,a6,O⟩:=s9.ix F;obtain rfl:=qaq a6;refine zdxe hp9 hq9 he9 Z (Y0 3 Z (zdc 1 (O.below h.below) Z (Y0 6 Z (qaU (t:=54) F Z ?_ ?_))))<;>intro F
      ·refine Y0 17 Z (dN h fun _ h=>?_);obtain rfl:=qb F;exact rG ⟨_,i,rfl,h⟩ Z
      ·refine Y0 9 Z (zdc 14 (f.below h.below) Z (Y0 7 Z (zdc 12 (f.below h.below) Z (Y0 3 Z ?_))));obtain⟨_,_,F,R,_,_,_,_,W,Y,a7,P⟩:=s9.ix F;obtain rfl:=qaq a7;refine zdxe W Y R Z (Y0 3 Z (zdc 0 (P.below h.below) Z (Y0 1 Z ?_)));obtain⟨_,_,F,T,_,_,_,_,X,a3,rfl,Q⟩:=s11.ix F;refine zdxe X a3 T Z (Y0 1 Z (zdc 0 (Q.below h.below) Z (Y0 3 Z (dN h fun _ h=>?_))));obtain rfl:=qb F;exact rG ⟨_,i,rfl,h⟩ Z
    ·rintro _ _ ⟨b2,F,rfl,h⟩;subst J;refine qg Z F ?_ ?_<;>intro F
     ·exact qr Z (X0 5 Z (rK ⟨_,_,_,_,_,_,F,rfl,h⟩ Z))
     ·refine X0 7 Z (zc 12 (f.below h.below) Z (zp1 Z ?_));obtain⟨_,_,F,he1,_,_,_,_,hp1,hq1,hr6,hc4⟩:=s9.ix F;obtain rfl:=qaq hr6;refine zxe hp1 hq1 he1 Z (zp1 Z (zc 0 (hc4.below h.below) Z (zcL h F (ih (h.old s1)) Z fun r4 w6 S8 p17 b5 h F=>?_)));obtain⟨s14,h⟩:=h.topinL 0 Z;refine X0 6 Z ?_;obtain⟨o2,F,hK2⟩:=qc F;refine qm (rL (fun m e w'=>∃S9 y v o x3 i2,qdW i1 r4 m x3 i2=V o2/\e=[(0,.pointer (V ⟨b1,x,U⟩)),(1,vi a),(5,oS y v o),(8,vi i1),(9,oS p17 r4.length b5),(10,vi i2)]/\SH w w' [Ch.pin S8 w6,oW S9 (x3:List qh) [oS y v o]]) m1 ⟨_,_,_,_,_,_,F,rfl,h⟩ Z ?_);rintro m2 _ _ ⟨S9,y,v,o,x3,i2,F,rfl,h⟩;obtain rfl:=(h.sl 1 Z).2;rcases m2 with _|m2
      ·cases F
      refine X0 8 Z (qg Z F ?_ ?_)<;>intro F
      ·refine zKSB ?_;obtain⟨D,a9,F⟩:=qc F;obtain⟨_,b4,F⟩:=qc F;obtain⟨_,b,F⟩:=qc F;obtain⟨C,c,F⟩:=qc F;obtain⟨x6,d,F⟩:=qc F;refine qaV (fun e w'=>∃H z p,e=[(0,.pointer (V ⟨b1,x,U⟩)),(1,vi a),(5,oS z x6.length p),(8,vi i1),(9,oS p17 r4.length b5),(10,vi i2)]/\SH w w' [oW H (x6:List qh) [oS z x6.length p],Ch.pin S8 w6]) ?_ ?_
       ·refine rA [] [0] h Z fun _ h=>M0 7 [0,1,2] (h.p [0] Z) Z ?_;have he6:=qa4 a9;obtain⟨_,o_7,_,_,hp6,hq6,hS6,a4,L⟩:=s14.at a9;obtain⟨_,_,rfl,_⟩:=qaN a4;refine Ae 3 15 hp6 hq6 he6 (h.p [0] Z) Z (M0 31 [4] (h.p [0] Z) Z (Aw 5 63 (fun w' hw=>qfS qa (hw.pinC 0 Z hS6 L) (j:=0) Z Z Z) (h.p [0] Z) Z ?_));refine M0 447 [7,8] (h.p [0] Z) Z ?_;have he7:=qa4 b4;obtain⟨_,o_8,_,_,hp7,hq7,hS7,a5,M⟩:=s14.at b4;obtain⟨_,_,rfl,A⟩:=qaN a5;refine Ae 9 959 hp7 hq7 he7 (h.p [0] Z) Z (M0 1983 [10] (h.p [0] Z) Z (Aw 11 4031 (fun w' hw=>qfS qa (hw.pinC 0 Z hS7 M) (j:=1) Z Z Z) (h.p [0] Z) Z ?_));refine M0 12223 [13] (h.p [0] Z) Z (At 6 14 12287 28607 Z ?_ ?_)
        ·refine qG qa [] _ ([]:List Int) h Z Z Z Z Z Z Z Z Z trivial Z fun _ _ _ h=>Ag (h.p [1] Z) (At 12 14 16383 28671 Z ?_ ?_)
         ·obtain⟨g13,b⟩:=qN b;refine qbW qa 0 h Z (h.pinS 1 Z A) Z Z Z Z Z Z Z Z Z Z g13 b Z fun _ _ _ _ h=>Ag (h.p [1] Z) (Ao 14 32767 Z (qG qa [.tmp 101] _ ([i1]:List Int) h Z Z Z Z Z Z Z Z Z ⟨rfl,G⟩ Z fun _ _ _ h=>Ag (h.p [2] Z) (Ao 15 65535 Z ?_)));obtain⟨g14,c⟩:=qN c;refine qbW qa 1 h Z (h.sl 0 Z).1 (h.sl 0 Z).2 Z Z Z Z Z Z Z Z Z g14 c Z fun _ _ _ _ h=>Ag (h.p [2] Z) (Aw 16 131071 (fun w' hw=>qV qa [0,1] [.tmp 93,.tmp 103] Z Z Z Z Z Z Z Z) (h.p [2] Z) Z ?_);refine Ao 17 262143 Z (qia qa [.tmp 104] _ ([(⟨D.Bm,C,0⟩:qh)]:List qh) [0,2,3] h Z Z Z Z Z Z Z Z Z (qmX (qky (⟨D.Bm,C,0⟩:qh) h (qz (S:=fun _=>False) Z) (qad 1 h Z) (qz (S:=fun _=>False) Z) (by rfl) (by rfl)) qlq Z) Z Z fun _ _ _ h=>Ag (h.p [2] Z) (Ao 18 524287 Z ?_));obtain⟨g15,d⟩:=qN d;replace h:=h.p [0,3,1,2] Z;refine qo6 qa h Z Z Z Z Z Z Z Z Z g15 d Z fun _ _ _ _ h=>G0 1048575 [19] (h.p [2] Z) Z (Ad ?_);replace h:=h.p [0,2] Z;exact rG ⟨_,_,_,rfl,h⟩ Z
         ·refine qG qa [.tmp 101] _ ([i1]:List Int) h Z Z Z Z Z Z Z Z Z ⟨rfl,G⟩ Z fun _ _ _ h=>Ag (h.p [2] Z) (Ao 12 32767 Z ?_);obtain⟨g16,b⟩:=qN b;refine qbW qa 1 h Z (h.pinS 2 Z A) Z Z Z Z Z Z Z Z Z Z g16 b Z fun _ _ _ _ h=>Ag (h.p [2] Z) (Ao 15 65535 Z ?_);obtain⟨g17,c⟩:=qN c;refine qbW qa 1 h Z (h.sl 0 Z).1 (h.sl 0 Z).2 Z Z Z Z Z Z Z Z Z g17 c Z fun _ _ _ _ h=>Ag (h.p [2] Z) (Aw 16 131071 (fun w' hw=>qV qa [0,1] [.tmp 93,.tmp 103] Z Z Z Z Z Z Z Z) (h.p [2] Z) Z ?_);refine Ao 17 262143 Z (qia qa [.tmp 104] _ ([(⟨D.Bm,C,0⟩:qh)]:List qh) [0,2,3] h Z Z Z Z Z Z Z Z Z (qmX (qky (⟨D.Bm,C,0⟩:qh) h (qz (S:=fun _=>False) Z) (qad 1 h Z) (qz (S:=fun _=>False) Z) (by rfl) (by rfl)) qlq Z) Z Z fun _ _ _ h=>Ag (h.p [2] Z) (Ao 18 524287 Z ?_));obtain⟨g18,d⟩:=qN d;replace h:=h.p [0,3,1,2] Z;refine qo6 qa h Z Z Z Z Z Z Z Z Z g18 d Z fun _ _ _ _ h=>G0 1048575 [19] (h.p [2] Z) Z (Ad ?_);replace h:=h.p [0,2] Z;exact rG ⟨_,_,_,rfl,h⟩ Z
        ·refine qG qa [.tmp 101] _ ([i1]:List Int) h Z Z Z Z Z Z Z Z Z ⟨rfl,G⟩ Z fun _ _ _ h=>Ag (h.p [1] Z) (Ao 6 28671 Z (qG qa [] _ ([]:List Int) h Z Z Z Z Z Z Z Z Z trivial Z fun _ _ _ h=>Ag (h.p [2] Z) (Ao 12 32767 Z ?_)));obtain⟨g19,b⟩:=qN b;refine qbW qa 0 h Z (h.pinS 2 Z A) Z Z Z Z Z Z Z Z Z Z g19 b Z fun _ _ _ _ h=>Ag (h.p [2] Z) (Ao 15 65535 Z ?_);obtain⟨g20,c⟩:=qN c;refine qbW qa 0 h Z (h.sl 1 Z).1 (h.sl 1 Z).2 Z Z Z Z Z Z Z Z Z g20 c Z fun _ _ _ _ h=>Ag (h.p [2] Z) (Aw 16 131071 (fun w' hw=>qV qa [0,1] [.tmp 93,.tmp 103] Z Z Z Z Z Z Z Z) (h.p [2] Z) Z ?_);refine Ao 17 262143 Z (qia qa [.tmp 104] _ ([(⟨D.Bm,C,0⟩:qh)]:List qh) [1,2,3] h Z Z Z Z Z Z Z Z Z (qmX (qky (⟨D.Bm,C,0⟩:qh) h (qz (S:=fun _=>False) Z) (qad 0 h Z) (qz (S:=fun _=>False) Z) (by rfl) (by rfl)) qlq Z) Z Z fun _ _ _ h=>Ag (h.p [2] Z) (Ao 18 524287 Z ?_));obtain⟨g21,d⟩:=qN d;replace h:=h.p [0,3,1,2] Z;refine qo6 qa h Z Z Z Z Z Z Z Z Z g21 d Z fun _ _ _ _ h=>G0 1048575 [19] (h.p [2] Z) Z (Ad ?_);replace h:=h.p [0,2] Z;exact rG ⟨_,_,_,rfl,h⟩ Z
       ·rintro _ _ ⟨H,z,p,rfl,h⟩;refine X0 6 Z ?_;replace h:=h.p [1,0] Z;exact rK ⟨_,_,_,_,_,_,F,rfl,h⟩ Z
      ·refine qr Z ?_;obtain rfl:=qb F;replace F:=hK2;refine X0 6 Z ?_;replace h:=h.p [1] Z;exact rK ⟨_,_,_,_,_,_,F,rfl,h⟩ Z
   ·refine qr Z ?_;obtain rfl:=qb F;replace F:=hK1;refine X0 5 Z ?_;obtain rfl:=qb F;exact rO 0 h Z ⟨rfl,G⟩
def qdh(p:qh)(q:qh):Nat->Int->Option (Flow Bool Int)|0,_=>U|n+1,i1=>(bif decide (i1<(p.Bd.length:Int)) then V (decide (i1<(q.Bd.length:Int))) else V false).bind fun b1=>bif b1 then(idx p.Bd i1).bind fun a=>(idx q.Bd i1).bind fun b=>bif (a != b) then(idx p.Bd i1).bind fun c=>(idx q.Bd i1).bind fun d=>V (.ret (decide (c<d))) else qdh p q n (W64 (i1+1)) else V (.nxt i1)
def qlg(n:Nat)(p:qh)(q:qh):Option Bool:=bif (p.Bm != q.Bm) then V (decide (p.Bm<q.Bm)) else(qdh p q n 0).bind fun|.ret r=>V r|.nxt _=>V (decide ((p.Bd.length:Int)<(q.Bd.length:Int)))
theorem qr9{p:qh}{q:qh}(i:Ro w p cs1)(k:Ro w q cs2){r:Bool}(F:qlg n p q=V r):RetV prog 149 [oV qh cs1,oV qh cs2] w r:=by
 obtain⟨P,L,rfl,R⟩:=qaN i;obtain⟨Q,M,rfl,s2⟩:=qaN k;refine zV 59 func149 Z fun h=>zSR (qx h Z Z fun _ a h=>qx h Z Z fun _ b h=>X2 11 1 0 h Z (qg Z F ?_ ?_))<;>intro F
 ·exact X2 9 1 0 h Z (rb h F Z)
 refine X0 6 Z ?_;obtain⟨O,F,c⟩:=qc F;refine qm (rL (fun m e w'=>∃i1,qdh p q m i1=V O/\e=[(2,vp a),(3,vp b),(5,vi i1)]/\SH w w' [oX b (qnn q Q M) 41,oX a (qnn p P L) 41]) n ⟨_,F,rfl,h⟩ Z ?_);rintro N _ _ ⟨i1,F,rfl,h⟩;rcases N with _|N
 ·cases F
 refine zSS ?_;obtain⟨g,f,_,F,d⟩:=bindE F;refine qaV (fun e w'=>∃b1,g b1=V O/\e=[(2,vp a),(3,vp b),(5,vi i1),(27,.bool b1)]/\SH w w' [oX b (qnn q Q M) 41,oX a (qnn p P L) 41]) ?_ ?_
 ·refine X1 7 1 h Z (qn (t:=21) F Z ?_ ?_)<;>intro F
  ·refine X1 12 0 h Z ?_;obtain rfl:=qb F;exact rG ⟨_,d,rfl,h⟩ Z
  refine X0 7 Z ?_;obtain rfl:=qb F;exact rG ⟨_,d,rfl,h⟩ Z
 rintro _ _ ⟨b1,F,rfl,h⟩;subst f;refine qg Z F ?_ ?_<;>intro F
 ·refine X0 4 Z (rD (Y1 2 1 h Z ?_));refine zd1 Z ?_;obtain⟨_,_,F,v,_,_,_,_,A,H,rfl,l⟩:=R.ix F;refine zdxe A H v Z (zdc 0 (l.below h.below) Z (Y1 2 0 h Z ?_));refine zd1 Z ?_;obtain⟨_,_,F,x,_,_,_,_,B,I,rfl,o⟩:=s2.ix F;refine zdxe B I x Z (zdc 0 (o.below h.below) Z (zd1 Z (dN h fun _ h=>qg Z F ?_ ?_)))<;>intro F
  ·refine qab (rD (Y1 2 1 h Z ?_));refine zd1 Z ?_;obtain⟨_,_,F,y,_,_,_,_,C,J,rfl,s⟩:=R.ix F;refine zdxe C J y Z (zdc 0 (s.below h.below) Z (Y1 2 0 h Z ?_));refine zd1 Z ?_;obtain⟨_,_,F,z,_,_,_,_,D,K,rfl,u⟩:=s2.ix F;refine zdxe D K z Z (zdc 0 (u.below h.below) Z (zd2 Z (dN h fun _ h=>?_)));obtain rfl:=qb F;replace F:=c;exact rb h F Z
  exact X0 7 Z (rK ⟨_,F,rfl,h⟩ Z)
 refine qr Z ?_;obtain rfl:=qb F;replace F:=c;exact X2 11 1 0 h Z (rb h F Z)
def qjG(n:Nat)(p:qh)(q:qh)(mode:Int):Option Bool:=bif (p.Ai != q.Ai) then V ((decide (p.Ai > q.Ai))==(mode==1)) else(qlg n p q).bind fun a=>V a
theorem qp8{p:qh}{q:qh}{mode}(a:Ro w p cs1)(b:Ro w q cs2){r:Bool}(F:qjG n p q mode=V r):RetV prog 101 [oV qh cs1,oV qh cs2,vi mode] w r:=by
 obtain⟨_,_,rfl,_⟩:=qaN a;obtain⟨_,_,rfl,_⟩:=qaN b;refine zV 23 func101 Z fun h=>zSR (qx h Z Z fun _ _ h=>qx h Z Z fun _ _ h=>X2 11 1 0 h Z (qg Z F ?_ ?_))<;>intro F
 ·exact X2 12 1 0 h Z (rb h F Z)
 exact X2 5 1 0 h Z (zcB h F (qr9 (h.old a) (h.old b)) Z fun _ _ h F=>X0 2 Z (rb h F Z))
def qeg(list:(List qh))(mode:Int)(x1:(List qh))(i1:Int):Nat->Int->Option Int|0,_=>U|n+1,a=>bif decide (a > 0) then(idx list i1).bind fun c=>(idx x1 (W64 (a-1))).bind fun d=>(qjG n c d mode).bind fun b=>bif b then qeg list mode x1 i1 n (W64 (a-1)) else V a else V a
def qef(list:(List qh))(mode:Int):Nat->(List qh)->Int->Option ((List qh)×Int)|0,_,_=>U|n+1,x1,i1=>bif decide (i1<(list.length:Int)) then(qeg list mode x1 i1 n (x1.length:Int)).bind fun a=>(subS x1 0 a).bind fun b=>(appS ([]:List qh) b).bind fun x3=>(idx list i1).bind fun g=>(appS x3 ([g]:List qh)).bind fun c=>(subS x1 a (x1.length:Int)).bind fun d=>(appS c d).bind fun f=>qef list mode n f (W64 (i1+1)) else V (x1,i1)
def qi9(n:Nat)(list:(List qh))(mode:Int):Option (List qh):=(qef list mode n ([]:List qh) 0).bind fun(x1,_)=>V x1
theorem qp5{A}(hA:∀b,A b->old w b){list:(List qh)}{mode}(B:GoT.R w A list cs1){r:(List qh)}(F:qi9 n list mode=V r):RetG prog 61 [oV (List qh) cs1,vi mode] w A r:=by
 obtain⟨p1,k1,rfl,s1⟩:=B;have hg:=Rg.start hA;refine qeL func61 Z (m:=53) Z Z (fun h=>?_);refine X0 6 Z (qia qa [] _ ([]:List qh) [] h Z Z Z Z Z Z Z Z Z qlq Z Z fun _ _ _ h=>X0 7 Z ?_);replace h:=h.toRowA (A:=A) 0 Z;obtain⟨o1,F,z⟩:=qc F;refine qm (rL (fun m e w'=>∃S2 c a x1 i1,qef list mode m x1 i1=V o1/\e=[(0,oS p1 list.length k1),(1,vi mode),(5,oS c x1.length a),(6,vi i1)]/\SH w w' [Ch.rowA w A S2 (x1:List qh) c a]) n ⟨_,_,_,_,_,F,rfl,h⟩ Z ?_);rintro m1 _ _ ⟨S2,c,a,x1,i1,F,rfl,h⟩;rcases m1 with _|m1
 ·cases F
 refine X0 8 Z (qg Z F ?_ ?_)<;>intro F
 ·refine X0 10 Z ?_;obtain⟨y,k,o2,F,i⟩:=bindE F;refine qaV (fun e w'=>∃i3,y i3=V o1/\e=[(0,oS p1 list.length k1),(1,vi mode),(5,oS c x1.length a),(6,vi i1),(7,vi i3)]/\SH w w' [Ch.rowA w A S2 (x1:List qh) c a]) ?_ ?_
  ·refine qm (rL (fun m e w'=>∃i4,qeg list mode x1 i1 m i4=V o2/\e=[(0,oS p1 list.length k1),(1,vi mode),(5,oS c x1.length a),(6,vi i1),(7,vi i4)]/\SH w w' [Ch.rowA w A S2 (x1:List qh) c a]) m1 ⟨_,F,rfl,h⟩ Z ?_);rintro m2 _ _ ⟨i4,F,rfl,h⟩;rcases m2 with _|m2
   ·cases F
   refine zSS (rD (zd3 Z (qaU (t:=20) F Z ?_ ?_)))<;>intro F
   ·refine Y0 5 Z ?_;obtain⟨y2,_,F,J,_,_,_,_,O,R,W,D⟩:=s1.ix F;obtain⟨_,_,rfl,s3⟩:=qaN W;refine zdxe O R J Z (Y0 1 Z (zdc 0 (D.below h.below) Z (Y0 7 Z ?_)));obtain⟨y3,x,F⟩:=qc F;have K:=qa4 x;obtain⟨_,o_3,_,_,P,S,-,X,H⟩:=h.atA 0 Z x;obtain⟨_,_,rfl,s4⟩:=qaN X;refine zdxe P S K Z (Y0 1 Z (zdc 0 H Z (Y0 3 Z ?_)));obtain⟨r1,Y,F⟩:=qc F;refine qbi r1 (vsB _) (cB 101 Z) (fun _ hb=>qp8 (qmQ y2 ((h.ext hb).oldS (s3.mono hg.old))) (qmQ y3 ((h.ext hb).oldS (s4.mono hg.old))) Y) Z Z Z Z (zd1 Z (dN h fun _ h=>qg Z F ?_ ?_))<;>intro F
    ·exact X0 8 Z (rK ⟨_,F,rfl,h⟩ Z)
    refine qr Z ?_;obtain rfl:=qb F;exact rG ⟨_,i,rfl,h⟩ Z
   refine Y0 12 Z (dN h fun _ h=>qch Z Z (qr Z ?_));obtain rfl:=qb F;exact rG ⟨_,i,rfl,h⟩ Z
  rintro _ _ ⟨i3,F,rfl,h⟩;subst k;refine zSR (qia qa [] _ ([]:List qh) [0] h Z Z Z Z Z Z Z Z Z qlq Z Z fun _ _ _ h=>zp2 Z ?_);obtain⟨_,u,F⟩:=qc F;obtain⟨_,_,p,l,L,g1⟩:=qpA (h.rowAR hA 1 Z) u;refine r_v (qlT qa Z Z Z (qpF g1 Z) p l L Z Z Z Z) Z ?_;replace h:=h.toRowA (A:=A) 0 Z;obtain⟨_,d,F⟩:=qc F;obtain⟨g2,d⟩:=qN d;refine qxz qa h u p l Z Z Z Z Z Z Z Z Z Z Z g2 d Z fun _ _ _ _ h=>X0 7 Z ?_;obtain⟨y1,_,F,I,_,_,_,_,N,Q,T,C⟩:=s1.ix F;obtain⟨_,_,rfl,s2⟩:=qaN T;refine zxe N Q I Z (zc 0 (C.below h.below) Z (qyF qa [.tmp 44] _ ([y1]:List qh) h Z Z Z Z Z Z Z Z Z ⟨(qmQ y1 s2),G⟩ Z fun _ _ _ h=>?_));obtain⟨_,f,F⟩:=qc F;obtain⟨g3,f⟩:=qN f;refine qBW qa h Z Z Z Z Z Z Z Z Z Z Z g3 f Z fun _ _ _ _ h=>X0 6 Z ?_;obtain⟨_,v,F⟩:=qc F;obtain⟨_,_,s,o,M,g4⟩:=qpA (h.rowAR hA 1 Z) v;refine r_v (qlT qa Z Z Z (qpF g4 Z) s o M Z Z Z Z) Z ?_;obtain⟨_,g,F⟩:=qc F;obtain⟨g5,g⟩:=qN g;refine qxz qa h v s o Z Z Z Z Z Z Z Z Z Z Z g5 g Z fun _ _ _ _ h=>X0 8 Z ?_;replace h:=h.p [0] Z;exact rK ⟨_,_,_,_,_,F,rfl,h⟩ Z
 refine qr Z ?_;obtain rfl:=qb F;replace F:=z;refine X0 5 Z ?_;obtain rfl:=qb F;have a3:GoRs.Rs (ρ:=(List qh)) h.wc (reg A w h.wc) x1 [oV (List qh) [oS c x1.length a]]:=⟨_,rfl,(hg.outR h (⟨_,_,rfl,(h.rowAR hA 0 Z)⟩))⟩;exact qdM qa (ρ:=(List qh)) (r:=x1) [oV (List qh) [oS c x1.length a]] h ⟨rfl,G⟩ a3

def qaQ(m:(Option Twork))(tail:(List Int))(l:((Option Twork)->Int->(List Int)->(List qh)->Option (List qh)))(a:Twork)(r4:(List Int)):Nat->(List qh)->Int->Option ((List qh)×Int)|0,_,_=>U|n+1,b,i1=>bif decide (i1<(r4.length:Int)) then(idx r4 i1).bind fun c=>(a.graph).bind fun h=>(h.view).bind fun i=>(idx i.links c).bind fun d=>(idx a.timing.Be d.Bl).bind fun k=>bif k then(qdx n tail).bind fun f=>(appS f ([c]:List Int)).bind fun x3=>(l m d.Bl x3 b).bind fun g=>qaQ m tail l a r4 n g (W64 (i1+1)) else qaQ m tail l a r4 n b (W64 (i1+1)) else V (b,i1)
def qaG:Nat->(Option Twork)->Int->(List Int)->(List qh)->Option (List qh)|0,_,_,_,_=>U|n+1,wv,at_,tail,acc=>(wv).bind fun a=>(qdQ n a.job.Aq at_).bind fun(_,b)=>(bif b then(qdx n tail).bind fun c=>(revS c).bind fun f=>(appS acc ([(⟨at_,f,0⟩:qh)]:List qh)).bind fun g=>V g else V acc).bind fun x1=>(qhb n a.graph at_).bind fun r4=>(qaQ wv tail (qaG n) a r4 n x1 0).bind fun(d,_)=>V d
theorem qm8{n}:∀{d w:World} {F:List Ch} {a c b:Nat} {pw:Option Addr} {wv:(Option Twork)} {at_:Int} {tail:(List Int)} {acc:(List qh)} {S1 S2:Nat->Prop} {i x:Option Addr} {g v:Nat} {r:(List qh)} (_:SH d w (oX c [oS x acc.length v] 64::oW S2 (acc:List qh) [oS x acc.length v]::oW S1 (tail:List Int) [oS i tail.length g]::oX a [.pointer pw] 83::oX b [.func (.func 85) #[] #[vp a,vp c,vp b]] 162::F)) (_:PtR d (old d) wv pw) (_:qaG n wv at_ tail acc=V r),RetU prog 85 [vi at_,oS i tail.length g,vp a,vp c,vp b] w (fun w'=>∃S p k,SH d w' (oX c [oS p r.length k] 64::oW S (r:(List qh)) [oS p r.length k]::oW S1 (tail:List Int) [oS i tail.length g]::oX a [.pointer pw] 83::oX b [.func (.func 85) #[] #[vp a,vp c,vp b]] 162::F)):=by
 induction n with
 |zero=>intro d w F a c b pw wv at_ tail acc S1 S2 i x g v r h0 hwk hF;rw[qaG] at hF;cases hF
 |succ n ih=>
  intro d w F a c b pw wv at_ tail acc S1 S2 i x g v r h0 hwk hF;obtain⟨rc,hrc⟩:∃rc,rc=qaG n:=⟨_,rfl⟩;rw[<-hrc] at ih;have h:=SH.frame [oX c [oS x acc.length v] 64,oW S2 (acc:List qh) [oS x acc.length v],oW S1 (tail:List Int) [oS i tail.length g],oX a [.pointer pw] 83,oX b [.func (.func 85) #[] #[vp a,vp c,vp b]] 162] h0;replace h:SH _ _ [oX c [oS x acc.length v] 64,oW S2 (acc:List qh) [oS x acc.length v],oW S1 (tail:List Int) [oS i tail.length g],oX a [.pointer pw] 83,oX b [.func (.func 85) #[] #[vp a,vp c,vp b]] 162,oG (old d) (FS F) [same d w F]]:=h;refine qos func85 Z (m:=76) Z Z ?_;unfold qaG at hF;rw[<-hrc] at hF;refine X1 4 3 h Z ?_;obtain⟨y1,hy1,hF⟩:=qc hF;obtain⟨b1,H,_,rfl,-,hr1,l⟩:=PtR.get hwk hy1;obtain⟨_,_,_,_,_,_,_,_,_,_,_,_,_,_,_,_,_,_,_,_,_,_,_,rfl,s1,_,_,_,_,_,_,s8,s9,_,_,_⟩:=qnA hr1;refine zp3 Z (zc 12 (l.below h.below) Z (zp1 Z ?_));obtain⟨⟨r2,r3⟩,hr2,hF⟩:=qc hF;refine qaI (r2,r3) h (cB 83 Z) (qh4 ⟨_,_,rfl,(h.oldS s8)⟩ hr2) Z Z Z Z fun _ _ _ hv1 hr3=>?_;obtain⟨_,_,_,_,rfl,R,hr4⟩:=hv1.cons hr3;obtain rfl:=qF (R.sh.own 0 Z);obtain⟨rfl,h⟩:=R.lastB hr4;refine zp3 Z (qp qa h Z Z Z fun _ _ h=>zs 0 h Z fun _ h=>X0 6 Z ?_);obtain⟨T,O,_,hF,N⟩:=bindE hF;refine qaV (fun e w'=>∃S7 I C z x1,T x1=V r/\e=[(0,vi at_),(1,oS i tail.length g),(2,vp a),(4,vp b)]/\SH d w' [oW S7 (x1:List qh) [oS I C z],oX c [oS I C z] 64,oW S1 (tail:List Int) [oS i tail.length g],oX a [.pointer (V ⟨b1,H,U⟩)] 83,oX b [.func (.func 85) #[] #[vp a,vp c,vp b]] 162,oG (old d) (FS F) [same d w F]]) ?_ ?_
  ·refine qg Z hF ?_ ?_<;>intro hF
   ·refine X0 3 Z (zcL h hF (qfj (h.own 4 Z)) Z fun _ _ _ _ _ h hF=>X0 5 Z ?_);obtain⟨x4,hx3,hF⟩:=qc hF;refine qmA (cB 87 Z) (qCm Tryz.slices_Reverse_at 0 h Z hx3) Z Z Z Z fun _ h=>X1 5 3 h Z (r_v (qV qa [0,1] [.tmp 29,.tmp 30] Z Z Z Z Z Z Z Z) Z (qia qa [.tmp 31] _ ([(⟨at_,x4,0⟩:qh)]:List qh) [1,2,3,4,5,6,7,8] h Z Z Z Z Z Z Z Z Z (qmX (qky (⟨at_,x4,0⟩:qh) h (qz (S:=fun _=>False) Z) (qad 0 h Z) (qz (S:=fun _=>False) Z) (by rfl) (by rfl)) qlq Z) Z Z fun _ _ _ h=>?_));obtain⟨_,y,hF⟩:=qc hF;obtain⟨g8,y⟩:=qN y;replace h:=h.p [0,4,1,2,3,5,6,7,8] Z;refine qo6 qa h Z Z Z Z Z Z Z Z Z g8 y Z fun _ _ _ _ h=>zs 3 h Z fun _ h=>qak ?_;replace h:=h.p [0,3,4,5,6,7] Z;obtain rfl:=qb hF;exact rG ⟨_,_,_,_,_,N,rfl,h⟩ Z
   ·refine qcJ ?_;replace h:=h.p [3,2,4,5,6,7] Z;obtain rfl:=qb hF;exact rG ⟨_,_,_,_,_,N,rfl,h⟩ Z
  ·rintro _ _ ⟨S7,I,C,z,x1,hF,rfl,h⟩;subst O;obtain rfl:=(h.sl 0 Z).2;refine X1 5 3 h Z (zc 0 (l.below h.below) Z (zp1 Z (zcL h hF (qj4 (h.old s1)) Z fun r4 _ S8 s o h hF=>X0 3 Z ?_)));obtain⟨o1,hF,hK1⟩:=qc hF;refine qm (rL (fun m e w'=>∃S9 J D A x2 i1,qaQ wv tail rc y1 r4 m x2 i1=V o1/\e=[(1,oS i tail.length g),(2,vp a),(4,vp b),(39,oS s r4.length o),(40,vi (r4.length:Int)),(41,vi i1)]/\SH d w' [oW S8 (r4:List Int) [oS s r4.length o],oW S9 (x2:List qh) [oS J D A],oX c [oS J D A] 64,oW S1 (tail:List Int) [oS i tail.length g],oX a [.pointer (V ⟨b1,H,U⟩)] 83,oX b [.func (.func 85) #[] #[vp a,vp c,vp b]] 162,oG (old d) (FS F) [same d w F]]) n ⟨_,_,_,_,_,_,hF,rfl,h⟩ Z ?_);rintro m1 _ _ ⟨S9,J,D,A,x2,i1,hF,rfl,h⟩;obtain rfl:=(h.sl 1 Z).2;rcases m1 with _|m1
   ·cases hF
   refine X0 5 Z (qg Z hF ?_ ?_)<;>intro hF
   ·refine zKSBSR ?_;obtain⟨y2,_,hF,P,_,_,_,_,hp1,hq1,rfl,hc3⟩:=(h.sl 0 Z).1.ix hF;refine zx hp1 hq1 ⟨P.1,qD P.2.1 (h.sl 0 Z).2⟩ Z (zc 0 hc3 Z (X1 7 4 h Z (zc 0 (l.below h.below) Z ?_)));obtain⟨_,hy3,hF⟩:=qc hF;obtain⟨_,o_3,_,rfl,-,hr8,hc4⟩:=PtR.get s1 hy3;obtain⟨_,_,_,rfl,s13,_⟩:=qeN hr8;refine zp2 Z (zc 0 (hc4.below h.below) Z ?_);obtain⟨_,hy4,hF⟩:=qc hF;obtain⟨_,o_4,_,rfl,-,hr9,hc5⟩:=PtR.get s13 hy4;obtain⟨_,_,_,_,_,_,_,_,_,_,_,_,_,_,_,_,_,_,_,_,rfl,_,_,_,_,_,_,s21,_,_,_⟩:=qb5 hr9;refine zp2 Z (zc 6 (hc5.below h.below) Z (zp1 Z ?_));obtain⟨_,_,hF,he2,_,_,_,_,hp2,hq2,Q,hc6⟩:=s21.ix hF;obtain rfl:=qaq Q;refine zxe hp2 hq2 he2 Z (zp1 Z (zc 0 (hc6.below h.below) Z (X1 8 4 h Z (zc 13 (l.below h.below) Z (zp1 Z ?_)))));obtain⟨_,_,hF,he3,_,_,_,_,hp3,hq3,rfl,hc7⟩:=s9.ix hF;refine zxe hp3 hq3 he3 Z (zc 0 (hc7.below h.below) Z (qak (qg Z hF ?_ ?_)))<;>intro hF
    ·refine rA [] [5] h Z fun _ h=>M1 23 [0,1,2,4] 0 (h.p [5] Z) Z ?_;obtain⟨r5,t,hF⟩:=qc hF;obtain⟨_,f,hF⟩:=qc hF;obtain⟨r6,u,hF⟩:=qc hF;refine qli (fun e w'=>∃M L B,e=[(1,oS i tail.length g),(2,vp a),(39,oS s r4.length o),(4,vp b),(40,vi (r4.length:Int)),(41,vi i1)]/\SH d w' [oX c [oS L r6.length B] 64,oW M (r6:List qh) [oS L r6.length B],oX a [.pointer (V ⟨b1,H,U⟩)] 83,oX b [.func (.func 85) #[] #[vp a,vp c,vp b]] 162,oW S8 (r4:List Int) [oS s r4.length o],oW S1 (tail:List Int) [oS i tail.length g],oG (old d) (FS F) [same d w F]]) 0 (bits 8 255) ?_ ?_
     ·intro K;refine At 3 5 31 55 Z ?_ ?_
      ·refine qlc r5 h (cB 86 Z) (qfj (h.own 3 Z) t) Z Z Z Z fun w35 W p58 k50 h=>Ag (h.p [6] Z) (Ao 5 63 Z (qG qa [.tmp 71] _ ([y2]:List Int) h Z Z Z Z Z Z Z Z Z ⟨rfl,G⟩ Z fun w36 p59 X h=>Ag (h.p [7] Z) (Ao 6 127 Z ?_)));obtain⟨g7,f⟩:=qN f;refine qbW qa 1 h Z (h.sl 0 Z).1 (h.sl 0 Z).2 Z Z Z Z Z Z Z Z Z g7 f Z fun w37 p60 k51 Y h=>Ag (h.p [7] Z) (Ao 7 255 Z ?_);replace h:=h.p [4,3,1,6,7,0,2,5,8] Z;refine qmA (cB 85 Z) (ih h hwk u) Z Z Z Z ?_;rintro w38 ⟨a3,p61,k52,h⟩;refine Ag (h.p [4] Z) ?_;replace h:=h.p [0,1,3,4,6,7,8] Z;exact aK K ⟨_,_,_,rfl,h⟩ Z
      ·refine qG qa [.tmp 71] _ ([y2]:List Int) h Z Z Z Z Z Z Z Z Z ⟨rfl,G⟩ Z fun w35 p58 W h=>Ag (h.p [6] Z) (Ao 3 63 Z (qlc r5 h (cB 86 Z) (qfj (h.own 4 Z) t) Z Z Z Z fun w36 X p59 k50 h=>Ag (h.p [7] Z) (Ao 6 127 Z ?_)));obtain⟨g7,f⟩:=qN f;refine qbW qa 0 h Z (h.sl 1 Z).1 (h.sl 1 Z).2 Z Z Z Z Z Z Z Z Z g7 f Z fun w37 p60 k51 Y h=>Ag (h.p [7] Z) (Ao 7 255 Z ?_);replace h:=h.p [4,3,0,6,7,1,2,5,8] Z;refine qmA (cB 85 Z) (ih h hwk u) Z Z Z Z ?_;rintro w38 ⟨a3,p61,k52,h⟩;refine Ag (h.p [4] Z) ?_;replace h:=h.p [0,1,3,4,6,7,8] Z;exact aK K ⟨_,_,_,rfl,h⟩ Z
     ·rintro _ _ ⟨M,L,B,rfl,h⟩;refine Ad (X0 5 Z ?_);replace h:=h.p [4,1,0,5,2,3,6] Z;exact rK ⟨_,_,_,_,_,_,hF,rfl,h⟩ Z
    ·exact X0 6 Z (rK ⟨_,_,_,_,_,_,hF,rfl,h⟩ Z)
   ·refine qr Z ?_;obtain rfl:=qb hF;replace hF:=hK1;obtain rfl:=qb hF;replace h:=h.p [2,1,3,4,5,6] Z;exact qxi qa ⟨_,_,_,SH.unfr 5 0 h0 h Z Z⟩ trivial
def qhm(n:Nat)(b:(Option Twork))(node:Int):Option (List qh):=(qaG n b node ([]:List Int) ([]:List qh)).bind fun a=>V a
theorem qox{d:(Option Twork)}{node}(a:Ro w d cs1){r:(List qh)}(F:qhm n d node=V r):RetV prog 48 [oV (Option Twork) cs1,vi node] w r:=by
 obtain⟨_,rfl,c⟩:=qax a;refine zV 12 func48 Z fun h=>zSR (qx h Z Z fun _ _ h=>X0 4 Z (qp qa h Z Z Z fun _ _ h=>zNSR (qp qa h Z Z Z fun _ _ h=>X0 4 Z (zs 0 h Z fun _ h=>X1 5 0 h Z ?_))));replace h:=h.nil (α:=Int);replace h:=h.nil (α:=qh);replace h:=h.p [3,0,1,4,2] Z;obtain⟨_,b,F⟩:=qc F;refine qmA (cB 85 Z) (qm8 h c b) Z Z Z Z ?_;rintro _ ⟨_,_,_,h⟩;refine X1 6 0 h Z ?_;obtain rfl:=qb F;exact rO 1 h Z ⟨rfl,G⟩
def qnS(n:Nat)(a:qaP)(left:Int):Option Int:=(qla n (⟨(⟨a.Ac.Av.As⟩:qq),(⟨a.Ac.Aa.Ab,a.Ac.Aa.Am,a.Ac.Aa.Aj⟩:qd),a.Ac.Ah⟩:qj) left).bind fun b=>bif decide (b<0) then V (-1) else(qko n (⟨a.Af.Bc,a.Af.Ap,a.Af.Az,a.Af.Ak,a.Af.Ay⟩:qu) b).bind fun c=>bif decide (c<0) then V (-1) else(qcc n a.Bb c).bind fun d=>bif decide (d<0) then V (-1) else(qlQ n a.Aq d).bind fun r4=>bif decide (r4<0) then V (-1) else V r4
theorem qtn{a:qaP}{left}(b:Ro w a cs1){r:Int}(F:qnS n a left=V r):RetV prog 6 [oV qaP cs1,vi left] w r:=by
 obtain⟨_,_,_,_,_,_,_,_,_,_,_,_,_,_,rfl,c,s2,d,f,g,i,k⟩:=qdy b;refine zV 30 func6 Z fun h=>zSR (qx h Z Z fun _ _ h=>X1 7 0 h Z (zcI h F (qrZ (qck _ (h.oldS c) (h.oldS s2) (h.oldS d) (h.oldS f) (h.oldS g))) Z fun _ _ h F=>X0 8 Z (qg Z F ?_ ?_)))<;>intro F
 ·exact X0 4 Z (ri h F Z)
 refine X1 6 0 h Z (zcI h F (qri (qa8 _)) Z fun _ _ h F=>X0 8 Z (qg Z F ?_ ?_))<;>intro F
 ·exact X0 4 Z (ri h F Z)
 refine X1 6 0 h Z (zcI h F (qbN ⟨_,_,rfl,(h.oldS i)⟩) Z fun _ _ h F=>X0 8 Z (qg Z F ?_ ?_))<;>intro F
 ·exact X0 4 Z (ri h F Z)
 refine X1 6 0 h Z (zcI h F (qqF ⟨_,_,rfl,(h.oldS k)⟩) Z fun _ _ h F=>X0 8 Z (qg Z F ?_ ?_))<;>intro F
 ·exact X0 4 Z (ri h F Z)
 exact X0 6 Z (ri h F Z)
def qiY(n:Nat)(a:qaP):Option qaP:=(qlp n (⟨(⟨a.Ac.Av.As⟩:qq),(⟨a.Ac.Aa.Ab,a.Ac.Aa.Am,a.Ac.Aa.Aj⟩:qd),a.Ac.Ah⟩:qj)).bind fun c=>(qkp n (⟨a.Af.Bc,a.Af.Ap,a.Af.Az,a.Af.Ak,a.Af.Ay⟩:qu)).bind fun b=>(qbK n a.Bb).bind fun d=>(qjK n a.Aq).bind fun r4=>V (⟨c,(⟨b.Bc,b.Ap,b.Az,b.Ak,b.Ay⟩:qu),d,r4⟩:qaP)
theorem qkf{a:qaP}(d:Ro w a cs1){r:qaP}(F:qiY n a=V r):RetV prog 8 [oV qaP cs1] w r:=by
 obtain⟨_,_,_,_,_,_,_,_,_,_,_,_,_,_,rfl,A,s2,B,C,D,H,I⟩:=qdy d;refine zV 21 func8 Z fun h=>zSR (qx h Z Z fun _ _ h=>qp qa h Z Z Z fun _ _ h=>zNSR (qp qa h Z Z Z fun _ _ h=>X1 5 2 h Z (zcO h F (qrG (qck _ (h.oldS A) (h.oldS s2) (h.oldS B) (h.oldS C) (h.oldS D))) Z fun c _ _ _ h F=>?_)));obtain⟨y,v,z,x,m,f,o,g,p,i,rfl,-,-,-,-,-⟩:=qaf (h.own 0 Z);refine zp1 Z (zs 1 h Z fun _ h=>X1 5 3 h Z (zcO h F (qqI (qa8 _)) Z fun b _ _ _ h F=>?_));obtain rfl:=qaK (h.own 0 Z);refine zp1 Z (zs 2 h Z fun _ h=>X1 5 4 h Z (zcL h F (qbP ⟨_,_,rfl,(h.oldS H)⟩) Z fun u _ _ s k h F=>zp1 Z (zs 3 h Z fun _ h=>X1 5 5 h Z (zcL h F (qqn ⟨_,_,rfl,(h.oldS I)⟩) Z fun r4 _ _ t l h F=>zp1 Z (zs 4 h Z fun _ h=>X1 4 4 h Z (zs 5 h Z fun _ h=>qak ?_))))));obtain rfl:=qb F;exact qac qa (ρ:=qaP) [oV qaP [oS y c.Av.As.length v,oS z c.Aa.Ab.length x,oS m c.Aa.Am.length f,oS o c.Aa.Aj.length g,oS p c.Ah.length i,.string b.Bc,vi b.Ap,vi b.Az,vi b.Ak,vi b.Ay,oS s u.length k,oS t r4.length l]] h ⟨⟨_,_,_,rfl,rfl,h.box 5 Z,rfl⟩,G⟩ (PV.done h (qah (qAx (⟨c,(⟨b.Bc,b.Ap,b.Az,b.Ak,b.Ay⟩:qu),u,r4⟩:qaP) h (qad 3 h Z) (qz (S:=fun _=>False) (qa8 (⟨b.Bc,b.Ap,b.Az,b.Ak,b.Ay⟩:qu))) (qad 1 h Z) (qad 0 h Z) (by rfl) (by rfl) (by rfl))))
def qnK(n:Nat)(a:qaP)(b:qaP):Option Bool:=(qld n (⟨(⟨a.Ac.Av.As⟩:qq),(⟨a.Ac.Aa.Ab,a.Ac.Aa.Am,a.Ac.Aa.Aj⟩:qd),a.Ac.Ah⟩:qj) (⟨(⟨b.Ac.Av.As⟩:qq),(⟨b.Ac.Aa.Ab,b.Ac.Aa.Am,b.Ac.Aa.Aj⟩:qd),b.Ac.Ah⟩:qj)).bind fun c=>bif (!c) then V false else(qkg n (⟨a.Af.Bc,a.Af.Ap,a.Af.Az,a.Af.Ak,a.Af.Ay⟩:qu) (⟨b.Af.Bc,b.Af.Ap,b.Af.Az,b.Af.Ak,b.Af.Ay⟩:qu)).bind fun d=>bif (!d) then V false else(qbB n a.Bb b.Bb).bind fun f=>bif (!f) then V false else(qjw n a.Aq b.Aq).bind fun r4=>bif (!r4) then V false else V true
theorem qto{a:qaP}{b:qaP}(c:Ro w a cs1)(d:Ro w b cs2){r:Bool}(F:qnK n a b=V r):RetV prog 11 [oV qaP cs1,oV qaP cs2] w r:=by
 obtain⟨_,_,_,_,_,_,_,_,_,_,_,_,_,_,rfl,m,s2,o,p,s,t,u⟩:=qdy c;obtain⟨_,_,_,_,_,_,_,_,_,_,_,_,_,_,rfl,v,x,f,g,i,k,l⟩:=qdy d;refine zV 29 func11 Z fun h=>zSR (qx h Z Z fun _ _ h=>qx h Z Z fun _ _ h=>X2 9 1 0 h Z (zcB h F (qr6 (qck _ (h.oldS m) (h.oldS s2) (h.oldS o) (h.oldS p) (h.oldS s)) (qck _ (h.oldS v) (h.oldS x) (h.oldS f) (h.oldS g) (h.oldS i))) Z fun _ _ h F=>X0 2 Z (qg Z F ?_ ?_)))<;>intro F
 ·exact X0 4 Z (rb h F Z)
 refine X2 8 1 0 h Z (zcB h F (qrk (qa8 _) (qa8 _)) Z fun _ _ h F=>X0 2 Z (qg Z F ?_ ?_))<;>intro F
 ·exact X0 4 Z (rb h F Z)
 refine X2 8 1 0 h Z (zcB h F (qbp ⟨_,_,rfl,(h.oldS t)⟩ ⟨_,_,rfl,(h.oldS k)⟩) Z fun _ _ h F=>X0 2 Z (qg Z F ?_ ?_))<;>intro F
 ·exact X0 4 Z (rb h F Z)
 refine X2 8 1 0 h Z (zcB h F (qqz ⟨_,_,rfl,(h.oldS u)⟩ ⟨_,_,rfl,(h.oldS l)⟩) Z fun _ _ h F=>X0 2 Z (qg Z F ?_ ?_))<;>intro F
 ·exact X0 4 Z (rb h F Z)
 exact X0 5 Z (rb h F Z)
def qku(n:Nat)(a:qh)(b:qh):Option Bool:=bif (a.Bm != b.Bm) then V false else(qbB n a.Bd b.Bd).bind fun c=>bif (!c) then V false else bif (a.Ai != b.Ai) then V false else V true
theorem qsO{a:qh}{b:qh}(c:Ro w a cs1)(d:Ro w b cs2){r:Bool}(F:qku n a b=V r):RetV prog 10 [oV qh cs1,oV qh cs2] w r:=by
 obtain⟨_,_,rfl,f⟩:=qaN c;obtain⟨_,_,rfl,s2⟩:=qaN d;refine zV 21 func10 Z fun h=>zSR (qx h Z Z fun _ _ h=>qx h Z Z fun _ _ h=>X2 11 1 0 h Z (qg Z F ?_ ?_))<;>intro F
 ·exact X0 4 Z (rb h F Z)
 refine X2 8 1 0 h Z (zcB h F (qbp ⟨_,_,rfl,(h.oldS f)⟩ ⟨_,_,rfl,(h.oldS s2)⟩) Z fun _ _ h F=>X0 2 Z (qg Z F ?_ ?_))<;>intro F
 ·exact X0 4 Z (rb h F Z)
 refine X2 10 1 0 h Z (qg Z F ?_ ?_)<;>intro F
 ·exact X0 4 Z (rb h F Z)
 exact X0 5 Z (rb h F Z)
def qg0(a:(List qh))(b:(List qh)):Nat->Int->Option (Flow Bool Int)|0,_=>U|n+1,i1=>bif decide (i1<(a.length:Int)) then(idx a i1).bind fun d=>(idx b i1).bind fun f=>(qku n d f).bind fun c=>bif (!c) then V (.ret false) else qg0 a b n (W64 (i1+1)) else V (.nxt i1)
def qhY(n:Nat)(a:(List qh))(b:(List qh)):Option Bool:=bif ((a.length:Int) != (b.length:Int)) then V false else(qg0 a b n 0).bind fun|.ret r=>V r|.nxt _=>V true
theorem qkV{a:(List qh)}{b:(List qh)}(d:Ro w a cs1)(f:Ro w b cs2){r:Bool}(F:qhY n a b=V r):RetV prog 17 [oV (List qh) cs1,oV (List qh) cs2] w r:=by
 obtain⟨C,z,rfl,I⟩:=d;obtain⟨D,A,rfl,s2⟩:=f;refine zV 27 func17 Z fun h=>X0 13 Z (qg Z F ?_ ?_)<;>intro F
 ·exact X0 4 Z (rb h F Z)
 refine X0 6 Z ?_;obtain⟨B,F,c⟩:=qc F;refine qm (rL (fun m e w'=>∃i1,qg0 a b m i1=V B/\e=[(0,oS C a.length z),(1,oS D b.length A),(5,vi i1)]/\SH w w' []) n ⟨_,F,rfl,h⟩ Z ?_);rintro y _ _ ⟨i1,F,rfl,h⟩;rcases y with _|y
 ·cases F
 refine X0 8 Z (qg Z F ?_ ?_)<;>intro F
 ·refine X0 4 Z (rD (zd2 Z ?_));obtain⟨L,_,F,k,_,_,_,_,o,s,u,g⟩:=I.ix F;obtain⟨_,_,rfl,J⟩:=qaN u;refine zdxe o s k Z (zdc 0 (g.below h.below) Z (zd2 Z ?_));obtain⟨M,_,F,l,_,_,_,_,p,t,v,i⟩:=s2.ix F;obtain⟨_,_,rfl,K⟩:=qaN v;refine zdxe p t l Z (zdc 0 (i.below h.below) Z ?_);obtain⟨H,x,F⟩:=qc F;refine qbi H (vsB _) (cB 10 Z) (fun _ N=>qsO (qmQ L ((h.ext N).oldS J)) (qmQ M ((h.ext N).oldS K)) x) Z Z Z Z (zd1 Z (dN h fun _ h=>qg Z F ?_ ?_))<;>intro F
  ·refine X0 4 Z ?_;obtain rfl:=qb F;replace F:=c;exact rb h F Z
  exact X0 7 Z (rK ⟨_,F,rfl,h⟩ Z)
 refine qr Z ?_;obtain rfl:=qb F;replace F:=c;exact X0 4 Z (rb h F Z)
def qbh(a:(List Int)):Nat->(List Int)->Int->Int->Option ((List Int)×Int×Int)|0,_,_,_=>U|n+1,x1,i1,b=>bif decide (b<(a.length:Int)) then(idx x1 b).bind fun _=>qbh a n (setS x1 b i1) (W64 (i1+1)) (W64 (b+1)) else V (x1,i1,b)
def qaz(n:Nat)(a:(List Int))(k:Int):Option (Int×(List Int)):=(qbh a n a k 0).bind fun(x1,i1,_)=>V (i1,x1)
theorem qaO{n t w F}{a:(List Int)}{k S1 i b g}(h:SH t w (oW S1 (a:List Int) [oS i b g]::F)){r:(Int×(List Int))}(x:qaz n a k=V r):RetN prog 38 [oS i b g,vi k] w (fun w'=>∃Z0:Nat->Prop,SH t w' (oW Z0 (r.2:List Int) [oS i b g]::F)) r.1:=by
 refine qb6 func38 Z (m:=19) Z Z ?_;obtain rfl:=(h.sl 0 Z).2;refine X0 9 Z ?_;obtain⟨v,x,l⟩:=qc x;refine qm (rL (fun m e w'=>∃x1 i1 s,qbh a m x1 i1 s=V v/\e=[(0,oS i a.length g),(1,vi i1),(5,vi s)]/\SH t w' (oW S1 (x1:List Int) [oS i a.length g]::F)) n ⟨_,_,_,x,rfl,h⟩ Z ?_);rintro u _ _ ⟨x1,i1,s,x,rfl,h⟩;rcases u with _|u
 ·cases x
 refine X0 8 Z (qg Z x ?_ ?_)<;>intro x
 ·refine X0 8 Z ?_;obtain⟨_,p,x,c,_,_,_,_,d,f,rfl,o⟩:=(h.sl 0 Z).1.ix x;exact zx d f ⟨c.1,qD c.2.1 (h.sl 0 Z).2⟩ Z (qav qa 0 0 i1 h Z p d f Z o Z Z Z Z Z Z Z fun _ h=>X0 12 Z (rK ⟨_,_,_,x,rfl,h⟩ Z))
 refine qr Z ?_;obtain rfl:=qb x;replace x:=l;refine X0 5 Z ?_;obtain rfl:=qb x;exact qiR qa ⟨_,h⟩ ⟨rfl,G⟩
def qgj:Nat->Int->ByteArray->Option (Int×ByteArray)|0,_,_=>U|n+1,i1,a=>bif decide (i1 > 0) then(catB (strOf ([(⟨IntKind.wrap .u8 (W64 (48+(i1.tmod 10)))⟩:IntK .u8)]:List (IntK .u8))) a).bind fun b=>qgj n (W64 (i1.tdiv 10)) b else V (i1,a)
def qeJ(n:Nat)(k:Int):Option ByteArray:=bif decide (k<=0) then V (⟨#[109,48]⟩:ByteArray) else(qgj n k (⟨#[]⟩:ByteArray)).bind fun(_,a)=>(catB (⟨#[109]⟩:ByteArray) a).bind fun b=>V b
theorem qgq{k}  {r:ByteArray}(F:qeJ n k=V r):RetV prog 170 [vi k] w r:=by
 refine zV 20 func170 Z fun h=>X0 10 Z (qg Z F ?_ ?_)<;>intro F
 ·refine X0 4 Z ?_;obtain rfl:=qb F;exact qac qa (ρ:=ByteArray) [_] h ⟨rfl,G⟩ (qwZ _ _)
 refine X0 6 Z ?_;obtain⟨l,F,c⟩:=qc F;refine qm (rL (fun m e w'=>∃i1 d,qgj m i1 d=V l/\e=[(0,vi i1),(3,.string d)]/\SH w w' []) n ⟨_,_,F,rfl,h⟩ Z ?_);rintro f _ _ ⟨i1,d,F,rfl,h⟩;rcases f with _|f
 ·cases F
 refine X0 6 Z (qg Z F ?_ ?_)<;>intro F
 ·refine X0 8 Z (qG qa [.tmp 11] _ ([(⟨IntKind.wrap .u8 (W64 (48+(i1.tmod 10)))⟩:IntK .u8)]:List (IntK .u8)) h Z Z Z Z Z Z Z Z Z ⟨rfl,G⟩ Z fun _ _ _ h=>r_v (qBd qa (h.sl 0 Z).1 (h.sl 0 Z).2 Z ⟨rfl,rfl⟩ ⟨rfl,rfl⟩ Z Z) Z (zp1 Z ?_));obtain⟨_,a,F⟩:=qc F;obtain⟨g,a⟩:=qtR a;refine r_v (qBF g Z Z) Z ?_;rw[a];refine X0 8 Z ?_;replace h:=h.p [] Z;exact rK ⟨_,_,F,rfl,h⟩ Z
 refine qr Z ?_;obtain rfl:=qb F;replace F:=c;refine X0 3 Z ?_;obtain⟨_,b,F⟩:=qc F;obtain⟨i,b⟩:=qtR b;refine r_v (qBF i Z Z) Z ?_;rw[b];refine X0 2 Z ?_;obtain rfl:=qb F;exact qac qa (ρ:=ByteArray) [_] h ⟨rfl,G⟩ (qwZ _ _)
def qeT(a:(List qan)):Nat->(List qan)->Int->Int->Option ((List qan)×Int×Int)|0,_,_,_=>U|n+1,x1,i1,b=>bif decide (b<(a.length:Int)) then(qeJ n i1).bind fun c=>(idx x1 b).bind fun d=>(idx (setS x1 b ({ d with Bc:=c })) b).bind fun f=>(idx (setS (setS x1 b ({ d with Bc:=c })) b ({ f with Bx:=W64 (i1+1) })) b).bind fun g=>(idx (setS (setS (setS x1 b ({ d with Bc:=c })) b ({ f with Bx:=W64 (i1+1) })) b ({ g with Bu:=W64 ((W64 (i1+1))+1) })) b).bind fun h=>qeT a n (setS (setS (setS (setS x1 b ({ d with Bc:=c })) b ({ f with Bx:=W64 (i1+1) })) b ({ g with Bu:=W64 ((W64 (i1+1))+1) })) b ({ h with Bt:=(((W64 ((W64 ((W64 (i1+1))+1))+1)).tmod 3)==0) })) (W64 ((W64 ((W64 ((W64 (i1+1))+1))+1))+1)) (W64 (b+1)) else V (x1,i1,b)
def qmL(n:Nat)(a:(List qan))(k:Int):Option (Int×(List qan)):=(qeT a n a k 0).bind fun(x1,i1,_)=>V (i1,x1)
theorem qqG{n Q w F}{a:(List qan)}{k S1 y b x}(h:SH Q w (oW S1 (a:List qan) [oS y b x]::F)){r:(Int×(List qan))}(hF:qmL n a k=V r):RetN prog 171 [oS y b x,vi k] w (fun w'=>∃Z0:Nat->Prop,SH Q w' (oW Z0 (r.2:List qan) [oS y b x]::F)) r.1:=by
 refine qb6 func171 Z (m:=44) Z Z ?_;obtain rfl:=(h.sl 0 Z).2;refine X0 9 Z ?_;obtain⟨o1,hF,z⟩:=qc hF;refine qm (rL (fun m e w'=>∃x1 i1 P,qeT a m x1 i1 P=V o1/\e=[(0,oS y a.length x),(1,vi i1),(5,vi P)]/\SH Q w' (oW S1 (x1:List qan) [oS y a.length x]::F)) n ⟨_,_,_,hF,rfl,h⟩ Z ?_);rintro X _ _ ⟨x1,i1,P,hF,rfl,h⟩;rcases X with _|X
 ·cases hF
 refine X0 8 Z (qg Z hF ?_ ?_)<;>intro hF
 ·refine X0 8 Z (zcS h hF qgq Z fun Y _ h hF=>?_);obtain⟨R,L,hF,c,_,_,_,_,i,s,H,A⟩:=(h.sl 0 Z).1.ix hF;obtain rfl:=qa0 H;refine zx i s ⟨c.1,qD c.2.1 (h.sl 0 Z).2⟩ Z (zp1 Z (qav qa 0 0 ({ R with Bc:=Y }:qan) h Z L i s (qew R) A Z Z Z (qew ({ R with Bc:=Y })) Z Z Z fun _ h=>X0 12 Z ?_));obtain⟨S,M,hF,d,_,_,_,_,l,t,I,B⟩:=(h.sl 0 Z).1.ix hF;obtain rfl:=qa0 I;refine zx l t ⟨d.1,qD d.2.1 (h.sl 0 Z).2⟩ Z (zp1 Z (qav qa 0 1 ({ S with Bx:=W64 (i1+1) }:qan) h Z M l t (qew S) B Z Z Z (qew ({ S with Bx:=W64 (i1+1) })) Z Z Z fun _ h=>X0 12 Z ?_));obtain⟨T,N,hF,f,_,_,_,_,o,u,J,C⟩:=(h.sl 0 Z).1.ix hF;obtain rfl:=qa0 J;refine zx o u ⟨f.1,qD f.2.1 (h.sl 0 Z).2⟩ Z (zp1 Z (qav qa 0 2 ({ T with Bu:=W64 ((W64 (i1+1))+1) }:qan) h Z N o u (qew T) C Z Z Z (qew ({ T with Bu:=W64 ((W64 (i1+1))+1) })) Z Z Z fun _ h=>X0 14 Z ?_));obtain⟨W,O,hF,g,_,_,_,_,p,v,K,D⟩:=(h.sl 0 Z).1.ix hF;obtain rfl:=qa0 K;exact zx p v ⟨g.1,qD g.2.1 (h.sl 0 Z).2⟩ Z (zp1 Z (qav qa 0 3 ({ W with Bt:=(((W64 ((W64 ((W64 (i1+1))+1))+1)).tmod 3)==0) }:qan) h Z O p v (qew W) D Z Z Z (qew ({ W with Bt:=(((W64 ((W64 ((W64 (i1+1))+1))+1)).tmod 3)==0) })) Z Z Z fun _ h=>X0 12 Z (rK ⟨_,_,_,hF,rfl,h⟩ Z)))
 refine qr Z ?_;obtain rfl:=qb hF;replace hF:=z;refine X0 5 Z ?_;obtain rfl:=qb hF;exact qiR qa ⟨_,h⟩ ⟨rfl,G⟩
def qdK(a:(List qv)):Nat->(List qv)->Int->Int->Option ((List qv)×Int×Int)|0,_,_,_=>U|n+1,x1,i1,b=>bif decide (b<(a.length:Int)) then(idx x1 b).bind fun c=>(qaz n c.Bo i1).bind fun(d,h)=>(qaz n c.Bk d).bind fun(f,x3)=>(qaz n c.Bj f).bind fun(g,i)=>qdK a n (setS x1 b (⟨h,x3,i⟩:qv)) g (W64 (b+1)) else V (x1,i1,b)
def qiM(n:Nat)(a:(List qv))(k:Int):Option (Int×(List qv)):=(qdK a n a k 0).bind fun(x1,i1,_)=>V (i1,x1)
theorem qk2{n D w F}{a:(List qv)}{k S1 u c t}(h:SH D w (oW S1 (a:List qv) [oS u c t]::F)){r:(Int×(List qv))}(R:qiM n a k=V r):RetN prog 230 [oS u c t,vi k] w (fun w'=>∃Z0:Nat->Prop,SH D w' (oW Z0 (r.2:List qv) [oS u c t]::F)) r.1:=by
 refine qb6 func230 Z (m:=34) Z Z ?_;obtain rfl:=(h.sl 0 Z).2;refine X0 9 Z ?_;obtain⟨I,R,v⟩:=qc R;refine qm (rL (fun m e w'=>∃S2 x1 i1 d,qdK a m x1 i1 d=V I/\e=[(0,oS u a.length t),(1,vi i1),(5,vi d)]/\SH D w' (oW S2 (x1:List qv) [oS u a.length t]::F)) n ⟨_,_,_,_,R,rfl,h⟩ Z ?_);rintro H _ _ ⟨S2,x1,i1,d,R,rfl,h⟩;rcases H with _|H
 ·cases R
 refine X0 8 Z (qg Z R ?_ ?_)<;>intro R
 ·refine X0 7 Z ?_;obtain⟨_,s,R⟩:=qc R;have b:=qa4 s;obtain⟨_,_,_,h⟩:=h.take s;obtain⟨_,_,_,_,_,_,rfl,-,-,-⟩:=qaJ (h.own 0 Z);obtain⟨_,_,_,h⟩:=quT h;obtain⟨_,f,-,-,x⟩:=h.holeAt 3 Z;obtain⟨O,l⟩:∃q,q=0+(d).toNat*GoT.k qv:=⟨_,rfl⟩;refine zx f l ⟨b.1,qD b.2.1 x⟩ Z (zp1 Z (zc 0 (qca h 3 Z f l) Z (zp1 Z ?_)));replace h:=h.pickT 4 [2,0,1,3] Z;obtain⟨⟨J,M⟩,A,R⟩:=qc R;refine qcp J (cB 38 Z) (qaO h A) Z Z Z Z ?_;rintro _ ⟨_,h⟩;refine X0 6 Z ?_;obtain⟨_,g,-,-,y⟩:=h.holeAt 3 Z;obtain⟨P,o⟩:∃q,q=0+(d).toNat*GoT.k qv:=⟨_,rfl⟩;refine zx g o ⟨b.1,qD b.2.1 y⟩ Z (zp1 Z (zc 1 (qca h 3 Z g o) Z (zp1 Z ?_)));replace h:=h.pickT 4 [2,0,1,3] Z;obtain⟨⟨K,x3⟩,B,R⟩:=qc R;refine qcp K (cB 38 Z) (qaO h B) Z Z Z Z ?_;rintro _ ⟨_,h⟩;refine X0 5 Z ?_;obtain⟨_,i,-,-,z⟩:=h.holeAt 3 Z;obtain⟨Q,p⟩:∃q,q=0+(d).toNat*GoT.k qv:=⟨_,rfl⟩;refine zx i p ⟨b.1,qD b.2.1 z⟩ Z (zp1 Z (zc 2 (qca h 3 Z i p) Z (zp1 Z ?_)));replace h:=h.pickT 4 [2,0,1,3] Z;obtain⟨⟨L,N⟩,C,R⟩:=qc R;refine qcp L (cB 38 Z) (qaO h C) Z Z Z Z ?_;rintro _ ⟨_,h⟩;refine X0 8 Z ?_;obtain⟨_,h⟩:=h.gatherT 4 [3] (qug (⟨M,x3,N⟩:qv) h (qad 2 h Z) (qad 1 h Z) (qad 0 h Z) (by rfl) (by rfl)) Z;replace h:=h.put;obtain⟨_,h⟩:=qnT (S:=_) h;exact rK ⟨_,_,_,_,R,rfl,h⟩ Z
 refine qr Z ?_;obtain rfl:=qb R;replace R:=v;refine X0 5 Z ?_;obtain rfl:=qb R;exact qiR qa ⟨_,h⟩ ⟨rfl,G⟩
def qe0(a:(List qI)):Nat->(List qI)->Int->Int->Option ((List qI)×Int×Int)|0,_,_,_=>U|n+1,x1,i1,b=>bif decide (b<(a.length:Int)) then(idx x1 b).bind fun c=>(qiM n c.Bp (W64 ((W64 ((W64 ((W64 (i1+1))+1))+1))+1))).bind fun(d,g)=>(qiM n c.Bf d).bind fun(f,x3)=>qe0 a n (setS x1 b (⟨i1,W64 (i1+1),W64 ((W64 (i1+1))+1),W64 ((W64 ((W64 (i1+1))+1))+1),g,x3⟩:qI)) f (W64 (b+1)) else V (x1,i1,b)
def qmJ(n:Nat)(a:(List qI))(k:Int):Option (Int×(List qI)):=(qe0 a n a k 0).bind fun(x1,i1,_)=>V (i1,x1)
theorem qqm{n T w F}{a:(List qI)}{k S1 i g f}(h:SH T w (oW S1 (a:List qI) [oS i g f]::F)){r:(Int×(List qI))}(hF:qmJ n a k=V r):RetN prog 172 [oS i g f,vi k] w (fun w'=>∃Z0:Nat->Prop,SH T w' (oW Z0 (r.2:List qI) [oS i g f]::F)) r.1:=by
 refine qb6 func172 Z (m:=55) Z Z ?_;obtain rfl:=(h.sl 0 Z).2;refine X0 9 Z ?_;obtain⟨o1,hF,L⟩:=qc hF;refine qm (rL (fun m e w'=>∃S2 x1 i1 d,qe0 a m x1 i1 d=V o1/\e=[(0,oS i a.length f),(1,vi i1),(5,vi d)]/\SH T w' (oW S2 (x1:List qI) [oS i a.length f]::F)) n ⟨_,_,_,_,hF,rfl,h⟩ Z ?_);rintro m1 _ _ ⟨S2,x1,i1,d,hF,rfl,h⟩;rcases m1 with _|m1
 ·cases hF
 refine X0 8 Z (qg Z hF ?_ ?_)<;>intro hF
 ·refine X0 8 Z ?_;obtain⟨c,H,hF⟩:=qc hF;have b:=qa4 H;obtain⟨_,W,_,h⟩:=h.take H;obtain⟨J,I,K,k3,rfl,-,-⟩:=qaj (h.own 0 Z);obtain⟨X,Y,h⟩:=qwC h;obtain⟨_,p,-,-,M⟩:=h.holeAt 2 Z;obtain⟨q1,y⟩:∃q,q=0+(d).toNat*GoT.k qI:=⟨_,rfl⟩;refine zx p y ⟨b.1,qD b.2.1 M⟩ Z (zp1 Z (qfd qa 2 0 h Z p y Z Z Z Z Z Z fun _ h=>?_));replace h:SH _ _ (oW Y (c.Bf:List qv) [oS K c.Bf.length k3]::oW X (c.Bp:List qv) [oS J c.Bp.length I]::Ch.hole W (x1:List qI) i a.length f (d).toNat [vi i1,vi c.Bl,vi c.To,vi c.Br,oS J c.Bp.length I,oS K c.Bf.length k3]::F):=h;refine X0 12 Z ?_;obtain⟨_,s,-,-,N⟩:=h.holeAt 2 Z;obtain⟨q2,z⟩:∃q,q=0+(d).toNat*GoT.k qI:=⟨_,rfl⟩;refine zx s z ⟨b.1,qD b.2.1 N⟩ Z (zp1 Z (qfd qa 2 1 h Z s z Z Z Z Z Z Z fun _ h=>X0 12 Z ?_));obtain⟨_,t,-,-,O⟩:=h.holeAt 2 Z;obtain⟨q3,A⟩:∃q,q=0+(d).toNat*GoT.k qI:=⟨_,rfl⟩;refine zx t A ⟨b.1,qD b.2.1 O⟩ Z (zp1 Z (qfd qa 2 2 h Z t A Z Z Z Z Z Z fun _ h=>X0 12 Z ?_));obtain⟨_,u,-,-,P⟩:=h.holeAt 2 Z;obtain⟨q4,B⟩:∃q,q=0+(d).toNat*GoT.k qI:=⟨_,rfl⟩;refine zx u B ⟨b.1,qD b.2.1 P⟩ Z (zp1 Z (qfd qa 2 3 h Z u B Z Z Z Z Z Z fun _ h=>?_));replace h:SH _ _ (oW Y (c.Bf:List qv) [oS K c.Bf.length k3]::oW X (c.Bp:List qv) [oS J c.Bp.length I]::Ch.hole W (x1:List qI) i a.length f (d).toNat [vi i1,vi (W64 (i1+1)),vi (W64 ((W64 (i1+1))+1)),vi (W64 ((W64 ((W64 (i1+1))+1))+1)),oS J c.Bp.length I,oS K c.Bf.length k3]::F):=h;refine X0 11 Z ?_;obtain⟨_,v,-,-,l⟩:=h.holeAt 2 Z;obtain⟨q5,C⟩:∃q,q=0+(d).toNat*GoT.k qI:=⟨_,rfl⟩;refine zx v C ⟨b.1,qD b.2.1 l⟩ Z (zp1 Z (zc 4 (qca h 2 Z v C) Z (zp1 Z ?_)));replace h:=h.pickT 3 [1,0,2] Z;obtain⟨⟨r1,x2⟩,Q,hF⟩:=qc hF;refine qcp r1 (cB 230 Z) (qk2 h Q) Z Z Z Z ?_;rintro _ ⟨_,h⟩;refine X0 5 Z ?_;obtain⟨_,x,-,-,o⟩:=h.holeAt 2 Z;obtain⟨q6,D⟩:∃q,q=0+(d).toNat*GoT.k qI:=⟨_,rfl⟩;refine zx x D ⟨b.1,qD b.2.1 o⟩ Z (zp1 Z (zc 5 (qca h 2 Z x D) Z (zp1 Z ?_)));replace h:=h.pickT 3 [1,0,2] Z;obtain⟨⟨r2,x3⟩,R,hF⟩:=qc hF;refine qcp r2 (cB 230 Z) (qk2 h R) Z Z Z Z ?_;rintro _ ⟨_,h⟩;refine X0 8 Z ?_;obtain⟨_,h⟩:=h.gatherT 3 [2] (qxV (⟨i1,W64 (i1+1),W64 ((W64 (i1+1))+1),W64 ((W64 ((W64 (i1+1))+1))+1),x2,x3⟩:qI) h (qz (S:=fun _=>False) Z) (qz (S:=fun _=>False) Z) (qz (S:=fun _=>False) Z) (qz (S:=fun _=>False) Z) (qad 1 h Z) (qad 0 h Z) (by rfl) (by rfl) (by rfl) (by rfl) (by rfl)) Z;replace h:=h.put;obtain⟨_,h⟩:=qnT (S:=_) h;exact rK ⟨_,_,_,_,hF,rfl,h⟩ Z
 refine qr Z ?_;obtain rfl:=qb hF;replace hF:=L;refine X0 5 Z ?_;obtain rfl:=qb hF;exact qiR qa ⟨_,h⟩ ⟨rfl,G⟩
def qd5(a:(List qB)):Nat->(List qB)->Int->Int->Option ((List qB)×Int×Int)|0,_,_,_=>U|n+1,x1,i1,b=>bif decide (b<(a.length:Int)) then(qeJ n i1).bind fun d=>(idx x1 b).bind fun c=>(qmL n c.Bg (W64 ((W64 (i1+1))+1))).bind fun(f,h)=>(qmJ n c.Ba f).bind fun(g,x3)=>(qaz n c.Bq g).bind fun(r4,i)=>qd5 a n (setS x1 b (⟨d,W64 (i1+1),h,x3,i,r4,W64 (r4+1)⟩:qB)) (W64 ((W64 (r4+1))+1)) (W64 (b+1)) else V (x1,i1,b)
def qlH(n:Nat)(a:(List qB))(k:Int):Option (Int×(List qB)):=(qd5 a n a k 0).bind fun(x1,i1,_)=>V (i1,x1)
theorem qpU{n w0 w F}{a:(List qB)}{k S1 i g f}(h:SH w0 w (oW S1 (a:List qB) [oS i g f]::F)){r:(Int×(List qB))}(hF:qlH n a k=V r):RetN prog 120 [oS i g f,vi k] w (fun w'=>∃Z0:Nat->Prop,SH w0 w' (oW Z0 (r.2:List qB) [oS i g f]::F)) r.1:=by
 refine qb6 func120 Z (m:=63) Z Z ?_;obtain rfl:=(h.sl 0 Z).2;refine X0 9 Z ?_;obtain⟨o1,hF,R⟩:=qc hF;refine qm (rL (fun m e w'=>∃S2 x1 i1 d,qd5 a m x1 i1 d=V o1/\e=[(0,oS i a.length f),(1,vi i1),(5,vi d)]/\SH w0 w' (oW S2 (x1:List qB) [oS i a.length f]::F)) n ⟨_,_,_,_,hF,rfl,h⟩ Z ?_);rintro m1 _ _ ⟨S2,x1,i1,d,hF,rfl,h⟩;rcases m1 with _|m1
 ·cases hF
 refine X0 8 Z (qg Z hF ?_ ?_)<;>intro hF
 ·refine X0 8 Z (zcS h hF qgq Z fun r1 _ h hF=>?_);obtain⟨c,K,hF⟩:=qc hF;have b:=qa4 K;obtain⟨_,S4,_,h⟩:=h.take K;obtain⟨N,L,O,k3,P,M,rfl,-,-,-⟩:=qag (h.own 0 Z);obtain⟨S5,S6,S7,h⟩:=qvF h;obtain⟨_,s,-,-,T⟩:=h.holeAt 3 Z;obtain⟨q1,A⟩:∃q,q=0+(d).toNat*GoT.k qB:=⟨_,rfl⟩;refine zx s A ⟨b.1,qD b.2.1 T⟩ Z (zp1 Z (qfd qa 3 0 h Z s A Z Z Z Z Z Z fun _ h=>?_));replace h:SH _ _ (oW S7 (c.Bq:List Int) [oS P c.Bq.length M]::oW S6 (c.Ba:List qI) [oS O c.Ba.length k3]::oW S5 (c.Bg:List qan) [oS N c.Bg.length L]::Ch.hole S4 (x1:List qB) i a.length f (d).toNat [.string r1,vi c.Bi,oS N c.Bg.length L,oS O c.Ba.length k3,oS P c.Bq.length M,vi c.Cc,vi c.Bw]::F):=h;refine X0 12 Z ?_;obtain⟨_,t,-,-,W⟩:=h.holeAt 3 Z;obtain⟨q2,B⟩:∃q,q=0+(d).toNat*GoT.k qB:=⟨_,rfl⟩;refine zx t B ⟨b.1,qD b.2.1 W⟩ Z (zp1 Z (qfd qa 3 1 h Z t B Z Z Z Z Z Z fun _ h=>X0 11 Z ?_));obtain⟨_,u,-,-,X⟩:=h.holeAt 3 Z;obtain⟨q3,C⟩:∃q,q=0+(d).toNat*GoT.k qB:=⟨_,rfl⟩;refine zx u C ⟨b.1,qD b.2.1 X⟩ Z (zp1 Z (zc 2 (qca h 3 Z u C) Z (zp1 Z ?_)));replace h:=h.pickT 4 [2,0,1,3] Z;obtain⟨⟨r2,x2⟩,a3,hF⟩:=qc hF;refine qcp r2 (cB 171 Z) (qqG h a3) Z Z Z Z ?_;rintro _ ⟨S8,h⟩;refine X0 6 Z ?_;obtain⟨_,v,-,-,Y⟩:=h.holeAt 3 Z;obtain⟨q4,D⟩:∃q,q=0+(d).toNat*GoT.k qB:=⟨_,rfl⟩;refine zx v D ⟨b.1,qD b.2.1 Y⟩ Z (zp1 Z (zc 3 (qca h 3 Z v D) Z (zp1 Z ?_)));replace h:=h.pickT 4 [2,0,1,3] Z;obtain⟨⟨r3,x3⟩,a4,hF⟩:=qc hF;refine qcp r3 (cB 172 Z) (qqm h a4) Z Z Z Z ?_;rintro _ ⟨S9,h⟩;refine X0 6 Z ?_;obtain⟨_,x,-,-,l⟩:=h.holeAt 3 Z;obtain⟨q5,H⟩:∃q,q=0+(d).toNat*GoT.k qB:=⟨_,rfl⟩;refine zx x H ⟨b.1,qD b.2.1 l⟩ Z (zp1 Z (zc 4 (qca h 3 Z x H) Z (zp1 Z ?_)));replace h:=h.pickT 4 [2,0,1,3] Z;obtain⟨⟨r4,x4⟩,a5,hF⟩:=qc hF;refine qcp r4 (cB 38 Z) (qaO h a5) Z Z Z Z ?_;rintro _ ⟨Q,h⟩;refine X0 7 Z ?_;obtain⟨_,y,-,-,o⟩:=h.holeAt 3 Z;obtain⟨q6,I⟩:∃q,q=0+(d).toNat*GoT.k qB:=⟨_,rfl⟩;refine zx y I ⟨b.1,qD b.2.1 o⟩ Z (zp1 Z (qfd qa 3 5 h Z y I Z Z Z Z Z Z fun _ h=>X0 12 Z ?_));obtain⟨_,z,-,-,p⟩:=h.holeAt 3 Z;obtain⟨q7,J⟩:∃q,q=0+(d).toNat*GoT.k qB:=⟨_,rfl⟩;refine zx z J ⟨b.1,qD b.2.1 p⟩ Z (zp1 Z (qfd qa 3 6 h Z z J Z Z Z Z Z Z fun _ h=>?_));replace h:SH _ _ (oW Q (x4:List Int) [oS P c.Bq.length M]::oW S9 (x3:List qI) [oS O c.Ba.length k3]::oW S8 (x2:List qan) [oS N c.Bg.length L]::Ch.hole S4 (x1:List qB) i a.length f (d).toNat [.string r1,vi (W64 (i1+1)),oS N c.Bg.length L,oS O c.Ba.length k3,oS P c.Bq.length M,vi r4,vi (W64 (r4+1))]::F):=h;refine X0 12 Z ?_;obtain⟨_,h⟩:=h.gatherT 4 [3] (qvD (⟨r1,W64 (i1+1),x2,x3,x4,r4,W64 (r4+1)⟩:qB) h (qz (S:=fun _=>False) Z) (qz (S:=fun _=>False) Z) (qad 2 h Z) (qad 1 h Z) (qad 0 h Z) (qz (S:=fun _=>False) Z) (qz (S:=fun _=>False) Z) (by rfl) (by rfl) (by rfl) (by rfl) (by rfl) (by rfl)) Z;replace h:=h.put;obtain⟨_,h⟩:=qnT (S:=_) h;exact rK ⟨_,_,_,_,hF,rfl,h⟩ Z
 refine qr Z ?_;obtain rfl:=qb hF;replace hF:=R;refine X0 5 Z ?_;obtain rfl:=qb hF;exact qiR qa ⟨_,h⟩ ⟨rfl,G⟩
def qh0(n:Nat)(a:qq)(k:Int):Option (Int×(List qB)):=(qlH n a.As k).bind fun(b,x1)=>V (b,x1)
theorem qo1{n g w F}{a:qq}{k S1 f b d}(h:SH g w (oW S1 (a.As:List qB) [oS f b d]::F)){r:(Int×(List qB))}(l:qh0 n a k=V r):RetN prog 75 [.agg #[oS f b d],vi k] w (fun w'=>∃Z0:Nat->Prop,SH g w' (oW Z0 (r.2:List qB) [oS f b d]::F)) r.1:=by
 refine qb6 func75 Z (m:=10) Z Z ?_;obtain rfl:=(h.sl 0 Z).2;refine zSR (qx h Z Z fun _ _ h=>X1 7 0 h Z ?_);replace h:=h.pickT 2 [1,0] Z;obtain⟨⟨i,_⟩,c,l⟩:=qc l;refine qcp i (cB 120 Z) (qpU h c) Z Z Z Z ?_;rintro _ ⟨_,h⟩;refine X0 7 Z ?_;obtain rfl:=qb l;replace h:=h.pickT 2 [0] Z;exact qiR qa ⟨_,h⟩ ⟨rfl,G⟩
def qcw(a:(List ql)):Nat->(List ql)->Int->Int->Option ((List ql)×Int×Int)|0,_,_,_=>U|n+1,x1,i1,b=>bif decide (b<(a.length:Int)) then(qeJ n i1).bind fun c=>(idx x1 b).bind fun g=>(qaz n g.Am (W64 ((W64 (i1+1))+1))).bind fun(d,f)=>qcw a n (setS x1 b (⟨c,W64 (i1+1),f⟩:ql)) d (W64 (b+1)) else V (x1,i1,b)
def qiS(n:Nat)(a:(List ql))(k:Int):Option (Int×(List ql)):=(qcw a n a k 0).bind fun(x1,i1,_)=>V (i1,x1)
theorem qno{n B w F}{a:(List ql)}{k S1 g d f}(h:SH B w (oW S1 (a:List ql) [oS g d f]::F)){r:(Int×(List ql))}(T:qiS n a k=V r):RetN prog 121 [oS g d f,vi k] w (fun w'=>∃Z0:Nat->Prop,SH B w' (oW Z0 (r.2:List ql) [oS g d f]::F)) r.1:=by
 refine qb6 func121 Z (m:=35) Z Z ?_;obtain rfl:=(h.sl 0 Z).2;refine X0 9 Z ?_;obtain⟨M,T,v⟩:=qc T;refine qm (rL (fun m e w'=>∃S2 x1 i1 c,qcw a m x1 i1 c=V M/\e=[(0,oS g a.length f),(1,vi i1),(5,vi c)]/\SH B w' (oW S2 (x1:List ql) [oS g a.length f]::F)) n ⟨_,_,_,_,T,rfl,h⟩ Z ?_);rintro H _ _ ⟨S2,x1,i1,c,T,rfl,h⟩;rcases H with _|H
 ·cases T
 refine X0 8 Z (qg Z T ?_ ?_)<;>intro T
 ·refine X0 8 Z (zcS h T qgq Z fun J _ h T=>?_);obtain⟨C,u,T⟩:=qc T;have b:=qa4 u;obtain⟨_,K,_,h⟩:=h.take u;obtain⟨I,D,rfl,-⟩:=qT (h.own 0 Z);obtain⟨L,h⟩:=qrQ h;obtain⟨_,i,-,-,x⟩:=h.holeAt 1 Z;obtain⟨P,p⟩:∃q,q=0+(c).toNat*GoT.k ql:=⟨_,rfl⟩;refine zx i p ⟨b.1,qD b.2.1 x⟩ Z (zp1 Z (qfd qa 1 0 h Z i p Z Z Z Z Z Z fun _ h=>X0 12 Z ?_));obtain⟨_,l,-,-,y⟩:=h.holeAt 1 Z;obtain⟨Q,s⟩:∃q,q=0+(c).toNat*GoT.k ql:=⟨_,rfl⟩;refine zx l s ⟨b.1,qD b.2.1 y⟩ Z (zp1 Z (qfd qa 1 1 h Z l s Z Z Z Z Z Z fun _ h=>?_));replace h:SH _ _ (oW L (C.Am:List Int) [oS I C.Am.length D]::Ch.hole K (x1:List ql) g a.length f (c).toNat [.string J,vi (W64 (i1+1)),oS I C.Am.length D]::F):=h;refine X0 10 Z ?_;obtain⟨_,o,-,-,z⟩:=h.holeAt 1 Z;obtain⟨R,t⟩:∃q,q=0+(c).toNat*GoT.k ql:=⟨_,rfl⟩;refine zx o t ⟨b.1,qD b.2.1 z⟩ Z (zp1 Z (zc 2 (qca h 1 Z o t) Z (zp1 Z ?_)));obtain⟨⟨N,O⟩,A,T⟩:=qc T;refine qcp N (cB 38 Z) (qaO h A) Z Z Z Z ?_;rintro _ ⟨_,h⟩;refine X0 8 Z ?_;obtain⟨_,h⟩:=h.gatherT 2 [1] (qqE (⟨J,W64 (i1+1),O⟩:ql) h (qz (S:=fun _=>False) Z) (qz (S:=fun _=>False) Z) (qad 0 h Z) (by rfl) (by rfl)) Z;replace h:=h.put;obtain⟨_,h⟩:=qnT (S:=_) h;exact rK ⟨_,_,_,_,T,rfl,h⟩ Z
 refine qr Z ?_;obtain rfl:=qb T;replace T:=v;refine X0 5 Z ?_;obtain rfl:=qb T;exact qiR qa ⟨_,h⟩ ⟨rfl,G⟩
def qdd(a:(List ByteArray)):Nat->(List ByteArray)->Int->Int->Option ((List ByteArray)×Int×Int)|0,_,_,_=>U|n+1,x1,i1,b=>bif decide (b<(a.length:Int)) then(qeJ n i1).bind fun c=>(idx x1 b).bind fun _=>qdd a n (setS x1 b c) (W64 (i1+1)) (W64 (b+1)) else V (x1,i1,b)
def qj3(n:Nat)(a:(List ByteArray))(k:Int):Option (Int×(List ByteArray)):=(qdd a n a k 0).bind fun(x1,i1,_)=>V (i1,x1)
theorem qo2{n t w F}{a:(List ByteArray)}{k S1 i b g}(h:SH t w (oW S1 (a:List ByteArray) [oS i b g]::F)){r:(Int×(List ByteArray))}(y:qj3 n a k=V r):RetN prog 122 [oS i b g,vi k] w (fun w'=>∃Z0:Nat->Prop,SH t w' (oW Z0 (r.2:List ByteArray) [oS i b g]::F)) r.1:=by
 refine qb6 func122 Z (m:=20) Z Z ?_;obtain rfl:=(h.sl 0 Z).2;refine X0 9 Z ?_;obtain⟨v,y,l⟩:=qc y;refine qm (rL (fun m e w'=>∃x1 i1 s,qdd a m x1 i1 s=V v/\e=[(0,oS i a.length g),(1,vi i1),(5,vi s)]/\SH t w' (oW S1 (x1:List ByteArray) [oS i a.length g]::F)) n ⟨_,_,_,y,rfl,h⟩ Z ?_);rintro u _ _ ⟨x1,i1,s,y,rfl,h⟩;rcases u with _|u
 ·cases y
 refine X0 8 Z (qg Z y ?_ ?_)<;>intro y
 ·refine X0 8 Z (zcS h y qgq Z fun x _ h y=>?_);obtain⟨_,p,y,c,_,_,_,_,d,f,rfl,o⟩:=(h.sl 0 Z).1.ix y;exact zx d f ⟨c.1,qD c.2.1 (h.sl 0 Z).2⟩ Z (qav qa 0 0 x h Z p d f Z o Z Z Z Z Z Z Z fun _ h=>X0 12 Z (rK ⟨_,_,_,y,rfl,h⟩ Z))
 refine qr Z ?_;obtain rfl:=qb y;replace y:=l;refine X0 5 Z ?_;obtain rfl:=qb y;exact qiR qa ⟨_,h⟩ ⟨rfl,G⟩
def qec(a:(List qP)):Nat->(List qP)->Int->Int->Option ((List qP)×Int×Int)|0,_,_,_=>U|n+1,x1,i1,b=>bif decide (b<(a.length:Int)) then(qeJ n i1).bind fun c=>(idx x1 b).bind fun d=>(idx (setS x1 b ({ d with Bc:=c })) b).bind fun f=>(idx (setS (setS x1 b ({ d with Bc:=c })) b ({ f with Bx:=W64 (i1+1) })) b).bind fun g=>qec a n (setS (setS (setS x1 b ({ d with Bc:=c })) b ({ f with Bx:=W64 (i1+1) })) b ({ g with Ca:=W64 ((W64 (i1+1))+1) })) (W64 ((W64 ((W64 (i1+1))+1))+1)) (W64 (b+1)) else V (x1,i1,b)
def qlI(n:Nat)(a:(List qP))(k:Int):Option (Int×(List qP)):=(qec a n a k 0).bind fun(x1,i1,_)=>V (i1,x1)
theorem qpB{n K w F}{a:(List qP)}{k S1 u b t}(h:SH K w (oW S1 (a:List qP) [oS u b t]::F)){r:(Int×(List qP))}(R:qlI n a k=V r):RetN prog 123 [oS u b t,vi k] w (fun w'=>∃Z0:Nat->Prop,SH K w' (oW Z0 (r.2:List qP) [oS u b t]::F)) r.1:=by
 refine qb6 func123 Z (m:=35) Z Z ?_;obtain rfl:=(h.sl 0 Z).2;refine X0 9 Z ?_;obtain⟨Q,R,v⟩:=qc R;refine qm (rL (fun m e w'=>∃x1 i1 J,qec a m x1 i1 J=V Q/\e=[(0,oS u a.length t),(1,vi i1),(5,vi J)]/\SH K w' (oW S1 (x1:List qP) [oS u a.length t]::F)) n ⟨_,_,_,R,rfl,h⟩ Z ?_);rintro O _ _ ⟨x1,i1,J,R,rfl,h⟩;rcases O with _|O
 ·cases R
 refine X0 8 Z (qg Z R ?_ ?_)<;>intro R
 ·refine X0 8 Z (zcS h R qgq Z fun P _ h R=>?_);obtain⟨L,D,R,c,_,_,_,_,g,o,A,x⟩:=(h.sl 0 Z).1.ix R;obtain rfl:=qaW A;refine zx g o ⟨c.1,qD c.2.1 (h.sl 0 Z).2⟩ Z (zp1 Z (qav qa 0 0 ({ L with Bc:=P }:qP) h Z D g o (qeV L) x Z Z Z (qeV ({ L with Bc:=P })) Z Z Z fun _ h=>X0 12 Z ?_));obtain⟨M,H,R,d,_,_,_,_,i,p,B,y⟩:=(h.sl 0 Z).1.ix R;obtain rfl:=qaW B;refine zx i p ⟨d.1,qD d.2.1 (h.sl 0 Z).2⟩ Z (zp1 Z (qav qa 0 1 ({ M with Bx:=W64 (i1+1) }:qP) h Z H i p (qeV M) y Z Z Z (qeV ({ M with Bx:=W64 (i1+1) })) Z Z Z fun _ h=>X0 12 Z ?_));obtain⟨N,I,R,f,_,_,_,_,l,s,C,z⟩:=(h.sl 0 Z).1.ix R;obtain rfl:=qaW C;exact zx l s ⟨f.1,qD f.2.1 (h.sl 0 Z).2⟩ Z (zp1 Z (qav qa 0 2 ({ N with Ca:=W64 ((W64 (i1+1))+1) }:qP) h Z I l s (qeV N) z Z Z Z (qeV ({ N with Ca:=W64 ((W64 (i1+1))+1) })) Z Z Z fun _ h=>X0 12 Z (rK ⟨_,_,_,R,rfl,h⟩ Z)))
 refine qr Z ?_;obtain rfl:=qb R;replace R:=v;refine X0 5 Z ?_;obtain rfl:=qb R;exact qiR qa ⟨_,h⟩ ⟨rfl,G⟩
def qiL(n:Nat)(a:qd)(k:Int):Option (Int×(List ql)×(List ByteArray)×(List qP)):=(qiS n a.Ab k).bind fun(b,x1)=>(qj3 n a.Am b).bind fun(c,f)=>(qlI n a.Aj c).bind fun(d,x3)=>V (d,x1,f,x3)
theorem qpl{n u w F}{a:qd}{k S1 p b l S2 s c o v t d k3}(h:SH u w (oW v (a.Aj:List qP) [oS t d k3]::oW S2 (a.Am:List ByteArray) [oS s c o]::oW S1 (a.Ab:List ql) [oS p b l]::F)){r:(Int×(List ql)×(List ByteArray)×(List qP))}(A:qiL n a k=V r):RetN prog 76 [.agg #[oS p b l,oS s c o,oS t d k3],vi k] w (fun w'=>∃Z0 Z1 Z2:Nat->Prop,SH u w' (oW Z2 (r.2.2.2:List qP) [oS t d k3]::oW Z1 (r.2.2.1:List ByteArray) [oS s c o]::oW Z0 (r.2.1:List ql) [oS p b l]::F)) r.1:=by
 refine qb6 func76 Z (m:=18) Z Z ?_;obtain rfl:=(h.sl 0 Z).2;obtain rfl:=(h.sl 1 Z).2;obtain rfl:=(h.sl 2 Z).2;refine zSR (qx h Z Z fun _ _ h=>X1 7 0 h Z ?_);replace h:=h.pickT 4 [3,0,1,2] Z;obtain⟨⟨x,_⟩,f,A⟩:=qc A;refine qcp x (cB 121 Z) (qno h f) Z Z Z Z ?_;rintro _ ⟨_,h⟩;refine X1 7 1 h Z ?_;replace h:=h.pickT 4 [3,0,1,2] Z;obtain⟨⟨y,_⟩,g,A⟩:=qc A;refine qcp y (cB 122 Z) (qo2 h g) Z Z Z Z ?_;rintro _ ⟨_,h⟩;refine X1 7 2 h Z ?_;replace h:=h.pickT 4 [3,0,1,2] Z;obtain⟨⟨z,_⟩,i,A⟩:=qc A;refine qcp z (cB 123 Z) (qpB h i) Z Z Z Z ?_;rintro _ ⟨_,h⟩;refine X0 7 Z ?_;obtain rfl:=qb A;replace h:=h.pickT 4 [0,1,2] Z;exact qiR qa ⟨_,_,_,h⟩ ⟨rfl,G⟩
def qei(a:(List qE)):Nat->(List qE)->Int->Int->Option ((List qE)×Int×Int)|0,_,_,_=>U|n+1,x1,i1,b=>bif decide (b<(a.length:Int)) then(idx x1 b).bind fun c=>(qaz n c.Ar i1).bind fun(d,h)=>(qaz n c.Bz d).bind fun(f,x3)=>(qaz n c.Bu f).bind fun(g,i)=>(qaz n c.Bn g).bind fun(r4,k)=>qei a n (setS x1 b (⟨h,x3,i,k⟩:qE)) r4 (W64 (b+1)) else V (x1,i1,b)
def qlW(n:Nat)(a:(List qE))(k:Int):Option (Int×(List qE)):=(qei a n a k 0).bind fun(x1,i1,_)=>V (i1,x1)
theorem qpV{n K w F}{a:(List qE)}{k S1 x d v}(h:SH K w (oW S1 (a:List qE) [oS x d v]::F)){r:(Int×(List qE))}(hF:qlW n a k=V r):RetN prog 77 [oS x d v,vi k] w (fun w'=>∃Z0:Nat->Prop,SH K w' (oW Z0 (r.2:List qE) [oS x d v]::F)) r.1:=by
 refine qb6 func77 Z (m:=41) Z Z ?_;obtain rfl:=(h.sl 0 Z).2;refine X0 9 Z ?_;obtain⟨M,hF,y⟩:=qc hF;refine qm (rL (fun m e w'=>∃S2 x1 i1 c,qei a m x1 i1 c=V M/\e=[(0,oS x a.length v),(1,vi i1),(5,vi c)]/\SH K w' (oW S2 (x1:List qE) [oS x a.length v]::F)) n ⟨_,_,_,_,hF,rfl,h⟩ Z ?_);rintro L _ _ ⟨S2,x1,i1,c,hF,rfl,h⟩;rcases L with _|L
 ·cases hF
 refine X0 8 Z (qg Z hF ?_ ?_)<;>intro hF
 ·refine X0 7 Z ?_;obtain⟨_,u,hF⟩:=qc hF;have b:=qa4 u;obtain⟨_,_,_,h⟩:=h.take u;obtain⟨_,_,_,_,_,_,_,_,rfl,-,-,-,-⟩:=qaR (h.own 0 Z);obtain⟨_,_,_,_,h⟩:=qv1 h;obtain⟨_,f,-,-,z⟩:=h.holeAt 4 Z;obtain⟨W,o⟩:∃q,q=0+(c).toNat*GoT.k qE:=⟨_,rfl⟩;refine zx f o ⟨b.1,qD b.2.1 z⟩ Z (zp1 Z (zc 0 (qca h 4 Z f o) Z (zp1 Z ?_)));replace h:=h.pickT 5 [3,0,1,2,4] Z;obtain⟨⟨N,Q⟩,D,hF⟩:=qc hF;refine qcp N (cB 38 Z) (qaO h D) Z Z Z Z ?_;rintro _ ⟨_,h⟩;refine X0 6 Z ?_;obtain⟨_,g,-,-,A⟩:=h.holeAt 4 Z;obtain⟨X,p⟩:∃q,q=0+(c).toNat*GoT.k qE:=⟨_,rfl⟩;refine zx g p ⟨b.1,qD b.2.1 A⟩ Z (zp1 Z (zc 1 (qca h 4 Z g p) Z (zp1 Z ?_)));replace h:=h.pickT 5 [3,0,1,2,4] Z;obtain⟨⟨O,x3⟩,H,hF⟩:=qc hF;refine qcp O (cB 38 Z) (qaO h H) Z Z Z Z ?_;rintro _ ⟨_,h⟩;refine X0 6 Z ?_;obtain⟨_,i,-,-,B⟩:=h.holeAt 4 Z;obtain⟨Y,s⟩:∃q,q=0+(c).toNat*GoT.k qE:=⟨_,rfl⟩;refine zx i s ⟨b.1,qD b.2.1 B⟩ Z (zp1 Z (zc 2 (qca h 4 Z i s) Z (zp1 Z ?_)));replace h:=h.pickT 5 [3,0,1,2,4] Z;obtain⟨⟨P,R⟩,I,hF⟩:=qc hF;refine qcp P (cB 38 Z) (qaO h I) Z Z Z Z ?_;rintro _ ⟨_,h⟩;refine X0 5 Z ?_;obtain⟨_,l,-,-,C⟩:=h.holeAt 4 Z;obtain⟨q4,t⟩:∃q,q=0+(c).toNat*GoT.k qE:=⟨_,rfl⟩;refine zx l t ⟨b.1,qD b.2.1 C⟩ Z (zp1 Z (zc 3 (qca h 4 Z l t) Z (zp1 Z ?_)));replace h:=h.pickT 5 [3,0,1,2,4] Z;obtain⟨⟨r4,T⟩,J,hF⟩:=qc hF;refine qcp r4 (cB 38 Z) (qaO h J) Z Z Z Z ?_;rintro _ ⟨_,h⟩;refine X0 8 Z ?_;obtain⟨_,h⟩:=h.gatherT 5 [4] (qvP (⟨Q,x3,R,T⟩:qE) h (qad 3 h Z) (qad 2 h Z) (qad 1 h Z) (qad 0 h Z) (by rfl) (by rfl) (by rfl)) Z;replace h:=h.put;obtain⟨_,h⟩:=qnT (S:=_) h;exact rK ⟨_,_,_,_,hF,rfl,h⟩ Z
 refine qr Z ?_;obtain rfl:=qb hF;replace hF:=y;refine X0 5 Z ?_;obtain rfl:=qb hF;exact qiR qa ⟨_,h⟩ ⟨rfl,G⟩
def qjt(n:Nat)(a:qj)(k:Int):Option (Int×(List qB)×(List ql)×(List ByteArray)×(List qP)×(List qE)):=(qh0 n (⟨a.Av.As⟩:qq) k).bind fun(b,x1)=>(qiL n (⟨a.Aa.Ab,a.Aa.Am,a.Aa.Aj⟩:qd) b).bind fun(c,f,x3,g)=>(qlW n a.Ah c).bind fun(d,h)=>V (d,x1,f,x3,g,h)
theorem qpI{n B w F}{a:qj}{k S1 v b p S2 x c s C y d k3 D z f t H A g u}(h:SH B w (oW H (a.Ah:List qE) [oS A g u]::oW D (a.Aa.Aj:List qP) [oS z f t]::oW C (a.Aa.Am:List ByteArray) [oS y d k3]::oW S2 (a.Aa.Ab:List ql) [oS x c s]::oW S1 (a.Av.As:List qB) [oS v b p]::F)){r:(Int×(List qB)×(List ql)×(List ByteArray)×(List qP)×(List qE))}(L:qjt n a k=V r):RetN prog 37 [.agg #[oS v b p,oS x c s,oS y d k3,oS z f t,oS A g u],vi k] w (fun w'=>∃Z0 Z1 Z2 Z3 Z4:Nat->Prop,SH B w' (oW Z4 (r.2.2.2.2.2:List qE) [oS A g u]::oW Z3 (r.2.2.2.2.1:List qP) [oS z f t]::oW Z2 (r.2.2.2.1:List ByteArray) [oS y d k3]::oW Z1 (r.2.2.1:List ql) [oS x c s]::oW Z0 (r.2.1:List qB) [oS v b p]::F)) r.1:=by
 refine qb6 func37 Z (m:=18) Z Z ?_;obtain rfl:=(h.sl 0 Z).2;obtain rfl:=(h.sl 1 Z).2;obtain rfl:=(h.sl 2 Z).2;obtain rfl:=(h.sl 3 Z).2;obtain rfl:=(h.sl 4 Z).2;refine zSR (qx h Z Z fun _ _ h=>X1 7 0 h Z ?_);replace h:=h.pickT 6 [5,0,1,2,3,4] Z;obtain⟨⟨I,_⟩,i,L⟩:=qc L;refine qcp I (cB 75 Z) (qo1 h i) Z Z Z Z ?_;rintro _ ⟨_,h⟩;refine X1 7 1 h Z ?_;replace h:=h.pickT 6 [3,4,5,0,1,2] Z;obtain⟨⟨J,_,_,_⟩,l,L⟩:=qc L;refine qcp J (cB 76 Z) (qpl h l) Z Z Z Z ?_;rintro _ ⟨_,_,_,h⟩;refine X1 7 4 h Z ?_;replace h:=h.pickT 6 [5,0,1,2,3,4] Z;obtain⟨⟨K,_⟩,o,L⟩:=qc L;refine qcp K (cB 77 Z) (qpV h o) Z Z Z Z ?_;rintro _ ⟨_,h⟩;refine X0 7 Z ?_;obtain rfl:=qb L;replace h:=h.pickT 6 [0,1,2,3,4] Z;exact qiR qa ⟨_,_,_,_,_,h⟩ ⟨rfl,G⟩
def qdf(a:(List qf)):Nat->(List qf)->Int->Int->Option ((List qf)×Int×Int)|0,_,_,_=>U|n+1,x1,i1,b=>bif decide (b<(a.length:Int)) then(idx x1 b).bind fun f=>(idx (setS x1 b ({ f with Bs:=i1 })) b).bind fun c=>(idx (setS (setS x1 b ({ f with Bs:=i1 })) b ({ c with Ai:={ c.Ai with Au:=W64 (i1+1) } })) b).bind fun d=>(idx (setS (setS (setS x1 b ({ f with Bs:=i1 })) b ({ c with Ai:={ c.Ai with Au:=W64 (i1+1) } })) b ({ d with Ai:={ d.Ai with Bh:=W64 ((W64 (i1+1))+1) } })) b).bind fun g=>(idx (setS (setS (setS (setS x1 b ({ f with Bs:=i1 })) b ({ c with Ai:={ c.Ai with Au:=W64 (i1+1) } })) b ({ d with Ai:={ d.Ai with Bh:=W64 ((W64 (i1+1))+1) } })) b ({ g with Bf:={ g.Bf with Au:=W64 ((W64 ((W64 (i1+1))+1))+1) } })) b).bind fun h=>qdf a n (setS (setS (setS (setS (setS x1 b ({ f with Bs:=i1 })) b ({ c with Ai:={ c.Ai with Au:=W64 (i1+1) } })) b ({ d with Ai:={ d.Ai with Bh:=W64 ((W64 (i1+1))+1) } })) b ({ g with Bf:={ g.Bf with Au:=W64 ((W64 ((W64 (i1+1))+1))+1) } })) b ({ h with Bf:={ h.Bf with Bh:=W64 ((W64 ((W64 ((W64 (i1+1))+1))+1))+1) } })) (W64 ((W64 ((W64 ((W64 ((W64 (i1+1))+1))+1))+1))+1)) (W64 (b+1)) else V (x1,i1,b)
def qjZ(n:Nat)(a:(List qf))(k:Int):Option (Int×(List qf)):=(qdf a n a k 0).bind fun(x1,i1,_)=>V (i1,x1)
theorem qoF{n w0 w F}{a:(List qf)}{k S1 B b A}(h:SH w0 w (oW S1 (a:List qf) [oS B b A]::F)){r:(Int×(List qf))}(hF:qjZ n a k=V r):RetN prog 39 [oS B b A,vi k] w (fun w'=>∃Z0:Nat->Prop,SH w0 w' (oW Z0 (r.2:List qf) [oS B b A]::F)) r.1:=by
 refine qb6 func39 Z (m:=52) Z Z ?_;obtain rfl:=(h.sl 0 Z).2;refine X0 9 Z ?_;obtain⟨o1,hF,J⟩:=qc hF;refine qm (rL (fun m e w'=>∃x1 i1 i2,qdf a m x1 i1 i2=V o1/\e=[(0,oS B a.length A),(1,vi i1),(5,vi i2)]/\SH w0 w' (oW S1 (x1:List qf) [oS B a.length A]::F)) n ⟨_,_,_,hF,rfl,h⟩ Z ?_);rintro m1 _ _ ⟨x1,i1,i2,hF,rfl,h⟩;rcases m1 with _|m1
 ·cases hF
 refine X0 8 Z (qg Z hF ?_ ?_)<;>intro hF
 ·refine X0 8 Z ?_;obtain⟨y1,W,hF,c,_,_,_,_,l,u,P,K⟩:=(h.sl 0 Z).1.ix hF;obtain rfl:=qF P;refine zx l u ⟨c.1,qD c.2.1 (h.sl 0 Z).2⟩ Z (zp1 Z (qav qa 0 0 ({ y1 with Bs:=i1 }:qf) h Z W l u (qaF y1) K Z Z Z (qaF ({ y1 with Bs:=i1 })) Z Z Z fun _ h=>X0 12 Z ?_));obtain⟨C,X,hF,d,_,_,_,_,o,v,Q,L⟩:=(h.sl 0 Z).1.ix hF;obtain rfl:=qF Q;refine zx o v ⟨d.1,qD d.2.1 (h.sl 0 Z).2⟩ Z (zp2 Z (qav qa 0 1 ({ C with Ai:={ C.Ai with Au:=W64 (i1+1) } }:qf) h Z X o v (qaF C) L Z Z Z (qaF ({ C with Ai:={ C.Ai with Au:=W64 (i1+1) } })) Z Z Z fun _ h=>X0 12 Z ?_));obtain⟨D,Y,hF,f,_,_,_,_,p,x,R,M⟩:=(h.sl 0 Z).1.ix hF;obtain rfl:=qF R;refine zx p x ⟨f.1,qD f.2.1 (h.sl 0 Z).2⟩ Z (zp2 Z (qav qa 0 2 ({ D with Ai:={ D.Ai with Bh:=W64 ((W64 (i1+1))+1) } }:qf) h Z Y p x (qaF D) M Z Z Z (qaF ({ D with Ai:={ D.Ai with Bh:=W64 ((W64 (i1+1))+1) } })) Z Z Z fun _ h=>X0 12 Z ?_));obtain⟨H,a3,hF,g,_,_,_,_,s,y,S,N⟩:=(h.sl 0 Z).1.ix hF;obtain rfl:=qF S;refine zx s y ⟨g.1,qD g.2.1 (h.sl 0 Z).2⟩ Z (zp2 Z (qav qa 0 3 ({ H with Bf:={ H.Bf with Au:=W64 ((W64 ((W64 (i1+1))+1))+1) } }:qf) h Z a3 s y (qaF H) N Z Z Z (qaF ({ H with Bf:={ H.Bf with Au:=W64 ((W64 ((W64 (i1+1))+1))+1) } })) Z Z Z fun _ h=>X0 12 Z ?_));obtain⟨I,a4,hF,i,_,_,_,_,t,z,T,O⟩:=(h.sl 0 Z).1.ix hF;obtain rfl:=qF T;exact zx t z ⟨i.1,qD i.2.1 (h.sl 0 Z).2⟩ Z (zp2 Z (qav qa 0 4 ({ I with Bf:={ I.Bf with Bh:=W64 ((W64 ((W64 ((W64 (i1+1))+1))+1))+1) } }:qf) h Z a4 t z (qaF I) O Z Z Z (qaF ({ I with Bf:={ I.Bf with Bh:=W64 ((W64 ((W64 ((W64 (i1+1))+1))+1))+1) } })) Z Z Z fun _ h=>X0 12 Z (rK ⟨_,_,_,hF,rfl,h⟩ Z)))
 refine qr Z ?_;obtain rfl:=qb hF;replace hF:=J;refine X0 5 Z ?_;obtain rfl:=qb hF;exact qiR qa ⟨_,h⟩ ⟨rfl,G⟩
def qk3(n:Nat)(a:qaP)(k:Int):Option (Int×(List qB)×(List ql)×(List ByteArray)×(List qP)×(List qE)×(List Int)×(List qf)):=(qjt n (⟨(⟨a.Ac.Av.As⟩:qq),(⟨a.Ac.Aa.Ab,a.Ac.Aa.Am,a.Ac.Aa.Aj⟩:qd),a.Ac.Ah⟩:qj) k).bind fun(b,x1,f,x3,g,h)=>(qaz n a.Bb b).bind fun(c,i)=>(qjZ n a.Aq c).bind fun(d,l)=>V (d,x1,f,x3,g,h,i,l)
theorem qqR{n K w F}{a:qaP}{k S1 A b t S2 B c u L C d k3 M D f v N H g x O I i y P J l z}(h:SH K w (oW P (a.Aq:List qf) [oS J l z]::oW O (a.Bb:List Int) [oS I i y]::oW N (a.Ac.Ah:List qE) [oS H g x]::oW M (a.Ac.Aa.Aj:List qP) [oS D f v]::oW L (a.Ac.Aa.Am:List ByteArray) [oS C d k3]::oW S2 (a.Ac.Aa.Ab:List ql) [oS B c u]::oW S1 (a.Ac.Av.As:List qB) [oS A b t]::F)){r:(Int×(List qB)×(List ql)×(List ByteArray)×(List qP)×(List qE)×(List Int)×(List qf))}(T:qk3 n a k=V r):RetN prog 12 [.agg #[oS A b t,oS B c u,oS C d k3,oS D f v,oS H g x,.string a.Af.Bc,vi a.Af.Ap,vi a.Af.Az,vi a.Af.Ak,vi a.Af.Ay,oS I i y,oS J l z],vi k] w (fun w'=>∃Z0 Z1 Z2 Z3 Z4 Z5 Z6:Nat->Prop,SH K w' (oW Z6 (r.2.2.2.2.2.2.2:List qf) [oS J l z]::oW Z5 (r.2.2.2.2.2.2.1:List Int) [oS I i y]::oW Z4 (r.2.2.2.2.2.1:List qE) [oS H g x]::oW Z3 (r.2.2.2.2.1:List qP) [oS D f v]::oW Z2 (r.2.2.2.1:List ByteArray) [oS C d k3]::oW Z1 (r.2.2.1:List ql) [oS B c u]::oW Z0 (r.2.1:List qB) [oS A b t]::F)) r.1:=by
 refine qb6 func12 Z (m:=18) Z Z ?_;obtain rfl:=(h.sl 0 Z).2;obtain rfl:=(h.sl 1 Z).2;obtain rfl:=(h.sl 2 Z).2;obtain rfl:=(h.sl 3 Z).2;obtain rfl:=(h.sl 4 Z).2;obtain rfl:=(h.sl 5 Z).2;obtain rfl:=(h.sl 6 Z).2;refine zSR (qx h Z Z fun _ _ h=>X1 7 0 h Z ?_);replace h:=h.pickT 8 [3,4,5,6,7,0,1,2] Z;obtain⟨⟨Q,_,_,_,_,_⟩,o,T⟩:=qc T;refine qcp Q (cB 37 Z) (qpI h o) Z Z Z Z ?_;rintro _ ⟨_,_,_,_,_,h⟩;refine X1 7 5 h Z ?_;replace h:=h.pickT 8 [7,0,1,2,3,4,5,6] Z;obtain⟨⟨R,_⟩,p,T⟩:=qc T;refine qcp R (cB 38 Z) (qaO h p) Z Z Z Z ?_;rintro _ ⟨_,h⟩;refine X1 7 6 h Z ?_;replace h:=h.pickT 8 [7,0,1,2,3,4,5,6] Z;obtain⟨⟨S,_⟩,s,T⟩:=qc T;refine qcp S (cB 39 Z) (qoF h s) Z Z Z Z ?_;rintro _ ⟨_,h⟩;refine X0 7 Z ?_;obtain rfl:=qb T;replace h:=h.pickT 8 [0,1,2,3,4,5,6] Z;exact qiR qa ⟨_,_,_,_,_,_,_,h⟩ ⟨rfl,G⟩
def qea(a:(List qh)):Nat->(List qh)->Int->Int->Option ((List qh)×Int×Int)|0,_,_,_=>U|n+1,x1,i1,b=>bif decide (b<(a.length:Int)) then(idx x1 b).bind fun f=>(qaz n f.Bd (W64 (i1+1))).bind fun(c,d)=>qea a n (setS x1 b (⟨i1,d,c⟩:qh)) (W64 (c+1)) (W64 (b+1)) else V (x1,i1,b)
def qjb(n:Nat)(a:(List qh))(k:Int):Option (Int×(List qh)):=(qea a n a k 0).bind fun(x1,i1,_)=>V (i1,x1)
theorem qpZ{n C w F}{a:(List qh)}{k S1 g d f}(h:SH C w (oW S1 (a:List qh) [oS g d f]::F)){r:(Int×(List qh))}(R:qjb n a k=V r):RetN prog 18 [oS g d f,vi k] w (fun w'=>∃Z0:Nat->Prop,SH C w' (oW Z0 (r.2:List qh) [oS g d f]::F)) r.1:=by
 refine qb6 func18 Z (m:=34) Z Z ?_;obtain rfl:=(h.sl 0 Z).2;refine X0 9 Z ?_;obtain⟨N,R,v⟩:=qc R;refine qm (rL (fun m e w'=>∃S2 x1 i1 c,qea a m x1 i1 c=V N/\e=[(0,oS g a.length f),(1,vi i1),(5,vi c)]/\SH C w' (oW S2 (x1:List qh) [oS g a.length f]::F)) n ⟨_,_,_,_,R,rfl,h⟩ Z ?_);rintro H _ _ ⟨S2,x1,i1,c,R,rfl,h⟩;rcases H with _|H
 ·cases R
 refine X0 8 Z (qg Z R ?_ ?_)<;>intro R
 ·refine X0 8 Z ?_;obtain⟨K,u,R⟩:=qc R;have b:=qa4 u;obtain⟨_,L,_,h⟩:=h.take u;obtain⟨I,D,rfl,-⟩:=qaN (h.own 0 Z);obtain⟨_,h⟩:=qoP h;obtain⟨_,i,-,-,x⟩:=h.holeAt 1 Z;obtain⟨O,p⟩:∃q,q=0+(c).toNat*GoT.k qh:=⟨_,rfl⟩;refine zx i p ⟨b.1,qD b.2.1 x⟩ Z (zp1 Z (qfd qa 1 0 h Z i p Z Z Z Z Z Z fun _ h=>X0 11 Z ?_));obtain⟨_,l,-,-,y⟩:=h.holeAt 1 Z;obtain⟨P,s⟩:∃q,q=0+(c).toNat*GoT.k qh:=⟨_,rfl⟩;refine zx l s ⟨b.1,qD b.2.1 y⟩ Z (zp1 Z (zc 1 (qca h 1 Z l s) Z (zp1 Z ?_)));obtain⟨⟨B,J⟩,A,R⟩:=qc R;refine qcp B (cB 38 Z) (qaO h A) Z Z Z Z ?_;rintro _ ⟨M,h⟩;refine X0 7 Z ?_;obtain⟨_,o,-,-,z⟩:=h.holeAt 1 Z;obtain⟨Q,t⟩:∃q,q=0+(c).toNat*GoT.k qh:=⟨_,rfl⟩;refine zx o t ⟨b.1,qD b.2.1 z⟩ Z (zp1 Z (qfd qa 1 2 h Z o t Z Z Z Z Z Z fun _ h=>?_));replace h:SH _ _ (oW M (J:List Int) [oS I K.Bd.length D]::Ch.hole L (x1:List qh) g a.length f (c).toNat [vi i1,oS I K.Bd.length D,vi B]::F):=h;refine X0 12 Z ?_;obtain⟨_,h⟩:=h.gatherT 2 [1] (qky (⟨i1,J,B⟩:qh) h (qz (S:=fun _=>False) Z) (qad 0 h Z) (qz (S:=fun _=>False) Z) (by rfl) (by rfl)) Z;replace h:=h.put;obtain⟨_,h⟩:=qnT (S:=_) h;exact rK ⟨_,_,_,_,R,rfl,h⟩ Z
 refine qr Z ?_;obtain rfl:=qb R;replace R:=v;refine X0 5 Z ?_;obtain rfl:=qb R;exact qiR qa ⟨_,h⟩ ⟨rfl,G⟩
def qds(a:(List Int)):Nat->Int->Int->Option (Flow Int (Int×Int))|0,_,_=>U|n+1,i1,b=>bif decide (b<(a.length:Int)) then(idx a b).bind fun c=>bif (c != i1) then V (.ret (-1)) else qds a n (W64 (i1+1)) (W64 (b+1)) else V (.nxt (i1,b))
def qiH(n:Nat)(a:(List Int))(k:Int):Option Int:=(qds a n k 0).bind fun|.ret r=>V r|.nxt (i1,_)=>V i1
theorem qpE{a:(List Int)}{k}(c:Ro w a cs1){r:Int}(F:qiH n a k=V r):RetV prog 40 [oV (List Int) cs1,vi k] w r:=by
 obtain⟨t,p,rfl,u⟩:=c;refine zV 21 func40 Z fun h=>X0 9 Z ?_;obtain⟨s,F,b⟩:=qc F;refine qm (rL (fun m e w'=>∃i1 l,qds a m i1 l=V s/\e=[(0,oS t a.length p),(1,vi i1),(5,vi l)]/\SH w w' []) n ⟨_,_,F,rfl,h⟩ Z ?_);rintro o _ _ ⟨i1,l,F,rfl,h⟩;rcases o with _|o
 ·cases F
 refine X0 8 Z (qg Z F ?_ ?_)<;>intro F
 ·refine X0 8 Z ?_;obtain⟨_,_,F,f,_,_,_,_,g,i,rfl,d⟩:=u.ix F;refine zxe g i f Z (zc 0 (d.below h.below) Z (X0 3 Z (qg Z F ?_ ?_)))<;>intro F
  ·refine X0 4 Z ?_;obtain rfl:=qb F;replace F:=b;exact ri h F Z
  exact X0 12 Z (rK ⟨_,_,F,rfl,h⟩ Z)
 refine qr Z ?_;obtain rfl:=qb F;replace F:=b;exact X0 5 Z (ri h F Z)
def qd4(a:(List qh)):Nat->Int->Int->Option (Flow Int (Int×Int))|0,_,_=>U|n+1,i1,b=>bif decide (b<(a.length:Int)) then(idx a b).bind fun d=>bif (d.Bm != i1) then V (.ret (-1)) else(idx a b).bind fun f=>(qiH n f.Bd (W64 (i1+1))).bind fun c=>bif decide (c<0) then V (.ret (-1)) else(idx a b).bind fun g=>bif (g.Ai != c) then V (.ret (-1)) else qd4 a n (W64 (c+1)) (W64 (b+1)) else V (.nxt (i1,b))
def qhw(n:Nat)(a:(List qh))(k:Int):Option Int:=(qd4 a n k 0).bind fun|.ret r=>V r|.nxt (i1,_)=>V i1
theorem qmj{a:(List qh)}{k}(c:Ro w a cs1){r:Int}(F:qhw n a k=V r):RetV prog 19 [oV (List qh) cs1,vi k] w r:=by
 obtain⟨J,H,rfl,C⟩:=c;refine zV 40 func19 Z fun h=>X0 9 Z ?_;obtain⟨I,F,b⟩:=qc F;refine qm (rL (fun m e w'=>∃i1 B,qd4 a m i1 B=V I/\e=[(0,oS J a.length H),(1,vi i1),(5,vi B)]/\SH w w' []) n ⟨_,_,F,rfl,h⟩ Z ?_);rintro D _ _ ⟨i1,B,F,rfl,h⟩;rcases D with _|D
 ·cases F
 refine X0 8 Z (qg Z F ?_ ?_)<;>intro F
 ·refine X0 8 Z ?_;obtain⟨_,_,F,i,_,_,_,_,p,u,y,d⟩:=C.ix F;obtain⟨_,_,rfl,_⟩:=qaN y;refine zxe p u i Z (zp1 Z (zc 0 (d.below h.below) Z (X0 3 Z (qg Z F ?_ ?_))))<;>intro F
  ·refine X0 4 Z ?_;obtain rfl:=qb F;replace F:=b;exact ri h F Z
  refine X0 11 Z ?_;obtain⟨_,_,F,l,_,_,_,_,s,v,z,f⟩:=C.ix F;obtain⟨_,_,rfl,K⟩:=qaN z;refine zxe s v l Z (zp1 Z (zc 1 (f.below h.below) Z (zp1 Z (zcI h F (qpE ⟨_,_,rfl,(h.oldS K)⟩) Z fun _ _ h F=>X0 8 Z (qg Z F ?_ ?_)))))<;>intro F
  ·refine X0 4 Z ?_;obtain rfl:=qb F;replace F:=b;exact ri h F Z
  refine X0 6 Z ?_;obtain⟨_,_,F,o,_,_,_,_,t,x,A,g⟩:=C.ix F;obtain⟨_,_,rfl,_⟩:=qaN A;refine zxe t x o Z (zp1 Z (zc 2 (g.below h.below) Z (X0 3 Z (qg Z F ?_ ?_))))<;>intro F
  ·refine X0 4 Z ?_;obtain rfl:=qb F;replace F:=b;exact ri h F Z
  exact X0 12 Z (rK ⟨_,_,F,rfl,h⟩ Z)
 refine qr Z ?_;obtain rfl:=qb F;replace F:=b;exact X0 5 Z (ri h F Z)
end Go.Fw


namespace Go.Fw
open Go
def qnR(x:qu):Prop:=rngS x.Bc/\rngI x.Ap/\rngI x.Az/\rngI x.Ak/\rngI x.Ay
def qlP(x:qu):Nat:=x.Bc.size
structure qt3(x:qu):Prop where
 Bc:okS x.Bc
 Ap:okI x.Ap
 Az:okI x.Az
 Ak:okI x.Ak
 Ay:okI x.Ay
theorem qvr{x:qu}(h:qnR x)(w:qlP x<=1048576):qt3 x:=⟨(by unfold okS;simp only[qlP] at w;omega),h.2.1,h.2.2.1,h.2.2.2.1,h.2.2.2.2⟩
theorem qyo{a:qu}(_:qlP a<=1048576):Ev (fun n=>qkg n a a) true:=by
 unfold qkg;exact Ev.ff qjC (Ev.ff qaH (Ev.ff qaH (Ev.ff qaH (Ev.ff qaH (.done)))))
def qqp(x:qe):Prop:=rngI x.Au/\rngI x.Bh
structure quG(x:qe):Prop where
 Au:okI x.Au
 Bh:okI x.Bh
theorem quh{x:qe}(h:qqp x):quG x:=⟨h.1,h.2⟩
def qjT(x:qf):Prop:=rngI x.Bs/\qqp x.Ai/\qqp x.Bf
structure qqT(x:qf):Prop where
 Bs:okI x.Bs
 Ai:quG x.Ai
 Bf:quG x.Bf
theorem qvv{x:qf}(h:qjT x):qqT x:=⟨h.1,quh (h.2.1),quh (h.2.2)⟩
def qeX(a:(List qf)):Nat:=a.length
theorem quz{a:(List qf)}(h:(rngL qjT) a)(w:qeX a<=1048576):(okL qqT) a:=
 ⟨by simp only[qeX] at w;omega,fun x b=>qvv (h.2 x b)⟩
def qsb(x:qaP):Prop:=qph x.Ac/\qnR x.Af/\(rngL rngI) x.Bb/\(rngL qjT) x.Aq
def qk1(x:qaP):Nat:=qgJ x.Ac+qlP x.Af+qa3 x.Bb+qeX x.Aq
structure qkW(x:qaP):Prop where
 Ac:qm9 x.Ac
 Af:qt3 x.Af
 Bb:(okL okI) x.Bb
 Aq:(okL qqT) x.Aq
theorem qzZ{x:qaP}(h:qsb x)(w:qk1 x<=1048576):qkW x:=⟨qxm (h.1) (by simp only[qk1] at w;omega),qvr (h.2.1) (by simp only[qk1] at w;omega),qeO (h.2.2.1) (by simp only[qk1] at w;omega),quz (h.2.2.2) (by simp only[qk1] at w;omega)⟩
theorem qxD{a:qe}:Ev (fun n=>qkH n a a) true:=by
 unfold qkH;exact Ev.ff qaH (Ev.ff qaH (.done))
theorem qyu{a:qf}:Ev (fun n=>qis n a a) true:=by
 unfold qis;exact Ev.ff qaH (Ev.bind (qxD (a:=a.Ai)) (Ev.ff Z (Ev.bind (qxD (a:=a.Bf)) (Ev.ff Z (.done)))))
theorem qwB{a:(List qf)}(h:qeX a<=1048576):Ev (fun n=>qjw n a a) true:=by
 have f:a.length<=1048576:=by simp only[qeX] at h;omega
 unfold qjw;exact Ev.ff (by simp) (Ev.bind (b:=.nxt (a.length:Int)) (qjf (eqf:=qis) (fun x c=>qyu)
  (fun n=>by simp only[qfA,qk (je _),cond_false])
  (fun n j x c=>by
   have d:=(List.getElem?_eq_some_iff.1 c).1;simp only[qfA,qi d,cond_true,qao c,jd,wS j])) .done)
theorem qB7{a:qaP}(h:qk1 a<=1048576):Ev (fun n=>qnK n a a) true:=by
 unfold qnK;simp only[qk1] at h;exact Ev.bind (qzP (a:=a.Ac) (by omega)) (Ev.ff Z (Ev.bind (qyo (a:=a.Af) (by omega)) (Ev.ff Z (Ev.bind (qgw (a:=a.Bb) (by omega)) (Ev.ff Z (Ev.bind (qwB (a:=a.Aq) (by omega)) (Ev.ff Z (.done))))))))
def qqS(x:qh):Nat:=qa3 x.Bd
structure qCz(x:qh):Prop where
 Bm:okI x.Bm
 Bd:(okL okI) x.Bd
 Ai:okI x.Ai
theorem qAG{a:qh}(h:qqS a<=1048576):Ev (fun n=>qku n a a) true:=by
 unfold qku;simp only[qqS] at h;exact Ev.ff qaH (Ev.bind (qgw (a:=a.Bd) (by omega)) (Ev.ff Z (Ev.ff qaH (.done))))
def qcG(a:(List qh)):Nat:=a.length+(a.map fun x=>qqS x).sum
theorem qsw{a:(List qh)}(h:qcG a<=1048576):Ev (fun n=>qhY n a a) true:=by
 have f:a.length<=1048576:=by simp only[qcG] at h;omega
 unfold qhY;exact Ev.ff (by simp) (Ev.bind (b:=.nxt (a.length:Int)) (qjf (eqf:=qku) (fun x c=>qAG (by have:=qcI (wt:=fun x:qh=>qqS x) c;simp only[qcG] at h;omega))
  (fun n=>by simp only[qg0,qk (je _),cond_false])
  (fun n j x c=>by
   have d:=(List.getElem?_eq_some_iff.1 c).1;simp only[qg0,qi d,cond_true,qao c,jd,wS j])) .done)
theorem qyk{a:qu}{left:Int}(h:qnR a)(k:0<=left)(l:left<=1048576):Sz (fun n=>qko n a left) (fun r=>r=left-(qlP a:Int)):=by
 unfold qko;obtain⟨b,c,d,f,g⟩:=h;exact Sz.strStep b (by omega) (by omega) fun i m=>Sz.done i (by simp only[qlP];omega)
theorem qxv{a:(List qf)}{left:Int}(h:(rngL qjT) a)(b:0<=left)(c:left<=1048576):Sz (fun n=>qlQ n a left) (fun r=>r=left-(qeX a:Int)):=
 Sz.less b c (by omega) (by have:=h.1;omega) (fun _=>rfl)
theorem qCg{a:qaP}{left:Int}(h:qsb a)(i:0<=left)(k:left<=1048576):Sz (fun n=>qnS n a left) (fun r=>r=left-(qk1 a:Int)):=by
 unfold qnS;obtain⟨b,c,d,f⟩:=h;exact Sz.step (qzC (a:=a.Ac) b (by omega) (by omega)) fun v l p=>Sz.step (qyk (a:=a.Af) c (by omega) (by omega)) fun x m s=>Sz.step (qhd (a:=a.Bb) d (by omega) (by omega)) fun y o t=>Sz.step (qxv (a:=a.Aq) f (by omega) (by omega)) fun z g u=>Sz.done g (by simp only[qk1];omega)
theorem qyP{a:qu}(_:qlP a<=1048576):Ev (fun n=>qkp n a) a:=by
 unfold qkp;exact .done
theorem qxP{a:qe}:Ev (fun n=>qkJ n a) a:=by
 unfold qkJ;exact .done
theorem qy3{a:qf}:Ev (fun n=>qit n a) a:=by
 unfold qit;exact Ev.bind (qxP (a:=a.Ai)) (Ev.bind (qxP (a:=a.Bf)) (.done))
theorem qwR{a:(List qf)}(h:qeX a<=1048576):Ev (fun n=>qjK n a) a:=by
 have i:a.length<=1048576:=by simp only[qeX] at h;omega
 unfold qjK;exact Ev.bindN (qjk (by omega)) (Ev.bind (b:=(a,(a.length:Int))) (qka (cp:=qit) (fun x d=>qy3)
  (fun c n=>by simp only[qfD,qk (je _),cond_false])
  (fun c n j x y d g=>by
   have f:=(List.getElem?_eq_some_iff.1 d).1;simp only[qfD,qi f,cond_true,qao d,qao g,jd,wS j])) .done)
theorem quX{a:qaP}(h:qk1 a<=1048576):Ev (fun n=>qiY n a) a:=by
 unfold qiY;simp only[qk1] at h;exact Ev.bind (qzw (a:=a.Ac) (by omega)) (Ev.bind (qyP (a:=a.Af) (by omega)) (Ev.bind (qg5 (a:=a.Bb) (by omega)) (Ev.bind (qwR (a:=a.Aq) (by omega)) (.done))))
end Go.Fw


namespace Go.Fw
open Go
set_option maxRecDepth 100000
abbrev lkB(b:qj):Nat:=(linksL b).length
abbrev ndB(b:qj):Nat:=2*(places b.Aa).length
abbrev lvJ(b:qj)(br:List Int):List Bool:=lvB br (lkB b)
def grB(b:qj)(br:List Int):Option Tgraph:=V ⟨V (viewV b),lvJ b br⟩
structure TgOk(b:qj)(c:qu)(br:List Int)(xs:List qf)(R:List Nat):Prop where
 bl:blockB b=true
 co:cornerB c=true
 br_:brB br (lkB b)=true
 sr:srcB xs (ndB b)=true
 or_:ordL (linksL b) (lvJ b br) (ndB b) (ndB b) []=V R
theorem TgOk.ord{b:qj}{c:qu}{br:List Int}{xs:List qf}{R:List Nat}(h:TgOk b c br xs R):OrdOk (lkB b) (frL (linksL b)) (toL (linksL b)) (lvL (lvJ b br)) (ndB b) R:=
 qAw (ndB b) [] R (fun a k d e=>by cases a<;>cases e) h.or_
theorem TgOk.len{b:qj}{c:qu}{br:List Int}{xs:List qf}{R:List Nat}(h:TgOk b c br xs R):R.length=ndB b:=by
 have:=qzi (ndB b) [] R h.or_;simpa using this
theorem qk6{x:Int}(h:x≠0):(x != 0)=true:=by simpa using h
theorem qCo{b:qj}{c:qu}{br:List Int}{xs:List qf}(B:qm9 b)(H:okS c.Bc)(a:br.length<=1048576)(m:xs.length<=1048576) :
  (∃code:Int,code≠0/\Ev (fun n=>qjv n b c br xs) ([],code)/\Ev (fun n=>qgh n b c br xs U) (U,[],code)) \/
  ∃R,TgOk b c br xs R/\Ev (fun n=>qjv n b c br xs) (ints R,0)/\Ev (fun n=>qgh n b c br xs U) (grB b br,ints R,0):=by
 have k:=qrq B;have i1:=qxg B;have s2:=quR (c:=c) H;have s:=qwm (c:=c) H;unfold qjv qgh;cases h1:blockB b
 ·rw[h1] at k i1;exact .inl ⟨1,by omega,Ev.bind (b:=true) (Ev.bind k (Ev.tt Z .done)) (Ev.tt Z .done),Ev.bind (b:=true) (Ev.bind i1 (Ev.tt Z .done)) (Ev.tt Z .done)⟩
 cases h2:cornerB c
 ·rw[h1] at k i1;rw[h2] at s2 s;exact .inl ⟨1,by omega,Ev.bind (b:=true) (Ev.bind k (Ev.ff Z (Ev.bind s2 .done))) (Ev.tt Z .done),Ev.bind (b:=true) (Ev.bind i1 (Ev.ff Z (Ev.bind s .done))) (Ev.tt Z .done)⟩
 have C:=qaX (qW (qau h1));have d:=qjU h1;have I:=qfx h1;have i:=qwL (br:=br) B h1 a;have f:=qvZ (v:=viewV b) (br:=br) a d;have y:=qtF (xs:=xs) h1 m;have p:=qtB (v:=viewV b) (xs:=xs) C m;have F:(viewV b).links=linksL b:=rfl;have M:(viewV b).places=places b.Aa:=rfl;rw[F] at f;rw[M] at p;rw[h1] at k i1;rw[h2] at s2 s;have A:Ev (fun n=>(qh5 n b).bind fun g=>bif (!g) then V true else(qiB n c).bind fun h=>V (!h)) false:=Ev.bind k (Ev.ff Z (Ev.bind s2 .done));have u:Ev (fun n=>(qjm n b).bind fun g=>bif (!g) then V true else(qiq n c).bind fun h=>V (!h)) false:=Ev.bind i1 (Ev.ff Z (Ev.bind s .done));have x:=qw5 h1;cases h3:brB br (lkB b)
 ·rw[h3] at i f;exact .inl ⟨2,by omega,Ev.bind A (Ev.ff Z (Ev.bind (b:=true) (Ev.bind i (Ev.tt Z .done)) (Ev.tt Z .done))),
   Ev.bind u (Ev.ff Z (Ev.bind x (Ev.bind (b:=false) (Ev.ff Z .done) (Ev.ff Z (Ev.bind (b:=true) (Ev.bind f (Ev.tt Z .done)) (Ev.tt Z .done))))))⟩
 cases h4:srcB xs (ndB b)
 ·rw[h3] at i f;rw[h4] at y p;exact .inl ⟨2,by omega,Ev.bind A (Ev.ff Z (Ev.bind (b:=true) (Ev.bind i (Ev.ff Z (Ev.bind y .done))) (Ev.tt Z .done))),
   Ev.bind u (Ev.ff Z (Ev.bind x (Ev.bind (b:=false) (Ev.ff Z .done) (Ev.ff Z (Ev.bind (b:=true) (Ev.bind f (Ev.ff Z (Ev.bind p .done))) (Ev.tt Z .done))))))⟩
 have D:=qwK (v:=viewV b) (br:=br) d h3;rw[F] at D;have P:=qnD (ls:=linksL b) (br:=br) d a;have l:(lvJ b br).length=lkB b:=qpb;have z:=qut (lv:=lvJ b br) I l;have t:=qy6 (b:=b) (ps:=places b.Aa) (lo:=pre (load0 b) b.Ah.length) (de:=pre (exactL b) b.Ah.length) (ex:=[]) (lv:=lvJ b br) I l Z;rw[h3] at i f;rw[h4] at y p;have K:Ev (fun n=>(qhV n b br).bind fun r4=>bif (r4 != 0) then V true else(qgT n b xs).bind fun O=>V (!O)) false:=Ev.bind i (Ev.ff Z (Ev.bind y .done));have J:Ev (fun n=>(qe8 n (V (viewV b)) br).bind fun g=>bif (!g) then V true else(qdV n (V (viewV b)) xs).bind fun h=>V (!h)) false:=Ev.bind f (Ev.ff Z (Ev.bind p .done));have L:∀r:List Int×Int,Ev (fun n=>(qg7 n (ndB b:Int) (linksL b) (lvJ b br)).bind fun(g,h)=>bif (!h) then V (([]:List Int),(7:Int)) else V (g,0)) r->Ev (fun n=>qfk n b br) r:=fun r N=>by
  unfold qfk;exact Ev.bind i (Ev.ff Z (Ev.bind (qi2 h1) (Ev.bind (qkD h1) (Ev.bind P N))))
 cases ho:ordL (linksL b) (lvJ b br) (ndB b) (ndB b) [] with
 |none=>
  have e:ordR (linksL b) (lvJ b br) (ndB b)=([],false):=by unfold ordR;rw[ho]
  rw[e] at z t;exact .inl ⟨7,by omega,Ev.bind A (Ev.ff Z (Ev.bind K (Ev.ff Z (Ev.bind (L ([],7) (Ev.bind z (Ev.tt Z .done))) .done)))),
   Ev.bind u (Ev.ff Z (Ev.bind x (Ev.bind (b:=false) (Ev.ff Z .done) (Ev.ff Z (Ev.bind J (Ev.ff Z (Ev.bind D (Ev.bind t (Ev.tt Z .done)))))))))⟩
 |some R=>
  have e:ordR (linksL b) (lvJ b br) (ndB b)=(ints R,true):=by unfold ordR;rw[ho]
  rw[e] at z t;exact .inr ⟨R,⟨h1,h2,h3,h4,ho⟩,Ev.bind A (Ev.ff Z (Ev.bind K (Ev.ff Z (Ev.bind (L (ints R,0) (Ev.bind z (Ev.ff Z .done))) .done)))),
   Ev.bind u (Ev.ff Z (Ev.bind x (Ev.bind (b:=false) (Ev.ff Z .done) (Ev.ff Z (Ev.bind J (Ev.ff Z (Ev.bind D (Ev.bind t (Ev.ff Z .done)))))))))⟩
structure WkOk(j:qaP)(t:qw)(R:List Nat):Prop where
 tg:TgOk j.Ac j.Af j.Bb j.Aq R
 tm:TmOk t (ndB j.Ac)
def wkV(j:qaP)(t:qw)(R:List Nat):Option Twork:=V ⟨grB j.Ac j.Bb,j,t,ints R⟩
theorem qxC{j:qaP}(h:qkW j) :
  (∃code:Int,code≠0/\Ev (fun n=>qd1 n j.Ac j.Af j.Bb j.Aq) (zT,code)/\Ev (fun n=>qkr n j) (U,code)) \/
  ∃t R,WkOk j t R/\Ev (fun n=>qd1 n j.Ac j.Af j.Bb j.Aq) (t,0)/\Ev (fun n=>qkr n j) (wkV j t R,0):=by
 have g:=h.Bb.len;have a:=h.Aq.len;unfold qd1 qkr;rcases qCo h.Ac h.Af.Bc g a with⟨code,hne,hs,hi⟩|⟨R,hg,hs,hi⟩
 ·exact .inl ⟨code,hne,Ev.bind hs (Ev.tt (qk6 hne) .done),Ev.bind hi (Ev.tt (qk6 hne) .done)⟩
 ·have b:=hg.bl;have s:=qjU b;have y:=qnD (ls:=linksL j.Ac) (br:=j.Bb) s g;obtain⟨f,p,r⟩:=qv4 b hg.co;have l:=r [] (.inl Z);rw[qtT] at l;have A:=qaX (qW (qau b));have m:=hg.len;have c:R.length<=1000:=by rw[m];show 2*(places j.Ac.Aa).length<=1000;omega
  have d:∀k,k∈R->k<2*(places j.Ac.Aa).length:=fun k z=>by
   obtain⟨i,hi,rfl⟩:=List.mem_iff_getElem.1 z;exact(hg.ord.at hi).1
  have u:=qAE (lv:=lvJ j.Ac j.Bb) (R:=R) b p qpb (quJ a hg.sr) d c;have v:=qA1 (lv:=lvJ j.Ac j.Bb) (R:=R) b p (fun _ _=>rfl) l qpb (quJ a hg.sr) (fun i hi=>⟨(hg.ord.at hi).1,(hg.ord.at hi).2.1⟩) c;have x:=qB2 (lv:=lvJ j.Ac j.Bb) b p (quJ a hg.sr) R (zTm (2*(places j.Ac.Aa).length));generalize rnO f (linksL j.Ac) (lvJ j.Ac j.Bb) j.Aq R (zTm (2*(places j.Ac.Aa).length))=o at x u v;cases o with
  |none=>exact .inl ⟨3,by omega,Ev.bind hs (Ev.ff Z (Ev.bind (qi2 b) (Ev.bind y (Ev.bind u (Ev.tt Z .done))))),Ev.bind hi (Ev.ff Z (Ev.bind v (Ev.tt Z .done)))⟩
  |some t=>exact .inr ⟨t,R,⟨hg,x t d qxu Z⟩,Ev.bind hs (Ev.ff Z (Ev.bind (qi2 b) (Ev.bind y (Ev.bind u (Ev.ff Z .done))))),Ev.bind hi (Ev.ff Z (Ev.bind v (Ev.ff Z .done)))⟩
end Go.Fw


namespace Go.Fw
open Go Go.Proofs Go.Proofs.Tryz
open Go.RowKit (Below)
open Ch renaming own->oW,box->oX,grp->oG
open GoT renaming v->oV
open Go.Value renaming slice->oS
set_option maxRecDepth 100000
set_option maxHeartbeats 6400000
variable{n:Nat}{w:World}{cs1 cs2 cs3 cs4 cs5 cs6 cs7 cs8 cs9:List Value}
def qdP(n:Nat)(j:qaP):Option ((Option Tl20Work)×Int):=(qd1 n (⟨(⟨j.Ac.Av.As⟩:qq),(⟨j.Ac.Aa.Ab,j.Ac.Aa.Am,j.Ac.Aa.Aj⟩:qd),j.Ac.Ah⟩:qj) (⟨j.Af.Bc,j.Af.Ap,j.Af.Az,j.Af.Ak,j.Af.Ay⟩:qu) j.Bb j.Aq).bind fun(b,a)=>bif (a != 0) then V (U,a) else(qfU n (⟨(⟨j.Ac.Av.As⟩:qq),(⟨j.Ac.Aa.Ab,j.Ac.Aa.Am,j.Ac.Aa.Aj⟩:qd),j.Ac.Ah⟩:qj)).bind fun r4=>(qig n r4 j.Bb).bind fun c=>V ((V (⟨(⟨(⟨(⟨j.Ac.Av.As⟩:qq),(⟨j.Ac.Aa.Ab,j.Ac.Aa.Am,j.Ac.Aa.Aj⟩:qd),j.Ac.Ah⟩:qj),(⟨j.Af.Bc,j.Af.Ap,j.Af.Az,j.Af.Ak,j.Af.Ay⟩:qu),j.Bb,j.Aq⟩:qaP),r4,c,b⟩:Tl20Work)),0)
theorem qq9{n w}{j:qaP}{cs1}(O:Ro w j cs1){r:((Option Tl20Work)×Int)}(F:qdP n j=V r):RetZ prog 78 [oV qaP cs1] w (fun us L=>(∃H,r=(U,H)/\us=[oV (Option Tl20Work) [.pointer U],oV Int [vi H]]/\L=[])\/(∃uS1 K k I N uS6 M l J t B o b f u a C p c g v D s d i x,r=((V (⟨j,x,v,(⟨u,t,N⟩:qw)⟩:Tl20Work)),0)/\us=[oV (Option Tl20Work) [vp a],oV Int [vi 0]]/\L=[oW uS1 (N:List qe) [oS K k I],oW uS6 (t:List qe) [oS M l J],oW B (u:List Bool) [oS o b f],oX a (cs1++[oS s d i,oS p c g,oS o b f,oS M l J,oS K k I]) 114,oW C (v:List Bool) [oS p c g],oW D (x:List qy) [oS s d i]])):=by
 obtain⟨_,_,_,_,_,_,_,_,_,_,_,_,_,_,rfl,s1,s2,s3,s4,s5,s6,s7⟩:=qdy O;refine qrp func78 Z (m:=34) Z Z (fun h=>?_);refine zSR (qx h Z Z fun _ _ h=>X4 13 0 0 0 0 h Z ?_);obtain⟨⟨y,r3⟩,P,F⟩:=qc F;refine qaI (y,r3) h (cB 124 Z) (qng (qck _ (h.oldS s1) (h.oldS s2) (h.oldS s3) (h.oldS s4) (h.oldS s5)) (qa8 _) ⟨_,_,rfl,(h.oldS s6)⟩ ⟨_,_,rfl,(h.oldS s7)⟩ P) Z Z Z Z fun _ _ _ S Q=>?_;obtain⟨_,_,_,_,rfl,A,R⟩:=S.cons Q;obtain⟨p8,k8,p9,k9,Y,T,rfl,-,-,-⟩:=qcY (A.sh.own 0 Z);obtain⟨rfl,h⟩:=A.lastI R;refine zp3 Z (qp qa h Z Z Z fun _ _ h=>zs 0 h Z fun _ h=>X0 8 Z (qg Z F ?_ ?_))<;>intro F
 ·refine X0 6 Z ?_;obtain rfl:=qb F;replace h:=h.p [] Z;exact qpW qa [oV (Option Tl20Work) [.pointer U],oV Int [vi r3]] h ⟨rfl,rfl,G⟩ (.inl ⟨r3,rfl,rfl,rfl⟩)
 refine X1 5 2 h Z (zcL h F (qh2 (qck _ (h.oldS s1) (h.oldS s2) (h.oldS s3) (h.oldS s4) (h.oldS s5))) Z fun r4 _ S5 e W h F=>X0 3 Z (rA [] [1,3] h Z fun _ h=>M3 95 [0,1,2,3,4,6] 1 1 0 (h.p [1,3] Z) Z (Ao 5 127 Z (zcL h F (qiE (h.own 0 Z) ⟨_,_,rfl,(h.oldS s6)⟩) Z fun r5 _ S6 a3 X h F=>Ag (h.p [2,4] Z) (Aw 7 255 (fun w' hw=>qV qa [0,1,2,3] [.tmp 25,.tmp 26,.tmp 30,.tmp 31] Z Z Z Z Z Z Z Z) (h.p [2,4] Z) Z ?_)))));refine Ao 8 511 Z (qx h Z Z fun _ z h=>G0 2047 [9,10] (h.p [3,5] Z) Z (Ad ?_));replace h:=h.p [4,0,1,2,3,5] Z;obtain⟨S7,S8,S9,h⟩:=qhf h;obtain rfl:=qb F;replace h:=h.p [0,1,2,3,4,5] Z;exact qpW qa [oV (Option Tl20Work) [vp z],oV Int [vi 0]] h ⟨rfl,rfl,G⟩ (.inr ⟨S9,Y,y.Bf.length,T,y.Bf,S8,p9,y.Ai.length,k9,y.Ai,S7,p8,y.Be.length,k8,y.Be,z,S6,a3,r5.length,X,r5,S5,e,r4.length,W,r4,rfl,rfl,rfl⟩)
def qeR(n:Nat)(j:qaP)(node:Int):Option ((Option Tl20Work)×Int):=(qdP n j).bind fun|(U,i1)=>(bif (i1 != 0) then V (U,i1) else(qbO n (⟨(⟨j.Ac.Av.As⟩:qq),(⟨j.Ac.Aa.Ab,j.Ac.Aa.Am,j.Ac.Aa.Aj⟩:qd),j.Ac.Ah⟩:qj)).bind fun a=>(qal n node 0 (W64 (a-1))).bind fun b=>bif (!b) then V (U,4) else V (U,0))|(V (⟨_,g,f,⟨x3,d,x1⟩⟩),_)=>((qbO n (⟨(⟨j.Ac.Av.As⟩:qq),(⟨j.Ac.Aa.Ab,j.Ac.Aa.Am,j.Ac.Aa.Aj⟩:qd),j.Ac.Ah⟩:qj)).bind fun r4=>(qal n node 0 (W64 (r4-1))).bind fun c=>bif (!c) then V (U,4) else V ((V (⟨(⟨(⟨(⟨j.Ac.Av.As⟩:qq),(⟨j.Ac.Aa.Ab,j.Ac.Aa.Am,j.Ac.Aa.Aj⟩:qd),j.Ac.Ah⟩:qj),(⟨j.Af.Bc,j.Af.Ap,j.Af.Az,j.Af.Ak,j.Af.Ay⟩:qu),j.Bb,j.Aq⟩:qaP),g,f,(⟨x3,d,x1⟩:qw)⟩:Tl20Work)),0))
theorem qoZ{n w}{j:qaP}{node cs1}(J:Ro w j cs1){r:((Option Tl20Work)×Int)}(F:qeR n j node=V r):RetZ prog 41 [oV qaP cs1,vi node] w (fun us L=>(∃W,r=(U,W)/\us=[oV (Option Tl20Work) [.pointer U],oV Int [vi W]]/\L=[])\/(∃uS1 e k X a4 uS6 a3 l Y t R o b f u a S p c g v T s d i x,r=((V (⟨j,x,v,(⟨u,t,a4⟩:qw)⟩:Tl20Work)),0)/\us=[oV (Option Tl20Work) [vp a],oV Int [vi 0]]/\L=[oW uS1 (a4:List qe) [oS e k X],oW uS6 (t:List qe) [oS a3 l Y],oW R (u:List Bool) [oS o b f],oX a (cs1++[oS s d i,oS p c g,oS o b f,oS a3 l Y,oS e k X]) 114,oW S (v:List Bool) [oS p c g],oW T (x:List qy) [oS s d i]])):=by
 obtain⟨p1,k1,p2,k2,p3,k3,p4,k4,p5,k5,p6,k6,p7,k7,rfl,s1,s2,s3,s4,s5,_,_⟩:=qdy J;refine qrp func41 Z (m:=24) Z Z (fun h=>?_);refine zSR (qx h Z Z fun _ I h=>X1 6 0 h Z ?_);obtain⟨_,a5,F⟩:=qc F;refine qxM (cB 78 Z) (qq9 (h.old J) a5) Z Z Z Z ?_;rintro _ _ _ K (⟨i1,rfl,rfl,rfl⟩|⟨S1,p8,M,k8,x1,S2,p9,N,k9,x2,S3,C,O,z,x3,y,S4,D,P,A,x4,S5,H,Q,B,x5,rfl,rfl,rfl⟩)
 ·replace h:SH _ _ [oX I (qpK j p1 p2 p3 p4 p5 p6 p7 k1 k2 k3 k4 k5 k6 k7) 57]:=SH.appendN h K (show NoD [] from trivial);refine X0 12 Z (qg Z F ?_ ?_)<;>intro F
  ·refine X0 6 Z ?_;obtain rfl:=qb F;replace h:=h.p [] Z;exact qpW qa [oV (Option Tl20Work) [.pointer U],oV Int [vi i1]] h ⟨rfl,rfl,G⟩ (.inl ⟨i1,rfl,rfl,rfl⟩)
  refine X1 7 0 h Z (zcI h F (qdz (qck _ (h.oldS s1) (h.oldS s2) (h.oldS s3) (h.oldS s4) (h.oldS s5))) Z fun _ _ h F=>zp1 Z (zcB h F qaa Z fun _ _ h F=>X0 2 Z (qg Z F ?_ ?_)))<;>intro F
  ·refine X0 5 Z ?_;obtain rfl:=qb F;replace h:=h.p [] Z;exact qpW qa [oV (Option Tl20Work) [.pointer U],oV Int [vi 4]] h ⟨rfl,rfl,G⟩ (.inl ⟨4,rfl,rfl,rfl⟩)
  refine X0 7 Z ?_;obtain rfl:=qb F;replace h:=h.p [] Z;exact qpW qa [oV (Option Tl20Work) [.pointer U],oV Int [vi 0]] h ⟨rfl,rfl,G⟩ (.inl ⟨0,rfl,rfl,rfl⟩)
 replace h:SH _ _ [oW S1 (x1:List qe) [oS p8 M k8],oW S2 (x2:List qe) [oS p9 N k9],oW S3 (x3:List Bool) [oS C O z],oX y [oS p1 j.Ac.Av.As.length k1,oS p2 j.Ac.Aa.Ab.length k2,oS p3 j.Ac.Aa.Am.length k3,oS p4 j.Ac.Aa.Aj.length k4,oS p5 j.Ac.Ah.length k5,.string j.Af.Bc,vi j.Af.Ap,vi j.Af.Az,vi j.Af.Ak,vi j.Af.Ay,oS p6 j.Bb.length k6,oS p7 j.Aq.length k7,oS H Q B,oS D P A,oS C O z,oS p9 N k9,oS p8 M k8] 114,oW S4 (x4:List Bool) [oS D P A],oW S5 (x5:List qy) [oS H Q B],oX I (qpK j p1 p2 p3 p4 p5 p6 p7 k1 k2 k3 k4 k5 k6 k7) 57]:=SH.appendN h K ⟨fun _ h=>h,⟨fun _ h=>h,⟨fun _ h=>h,⟨fun _ h=>h,⟨fun _ h=>h,⟨fun _ h=>h,G⟩⟩⟩⟩⟩⟩;obtain rfl:=(h.sl 0 Z).2;obtain rfl:=(h.sl 1 Z).2;obtain rfl:=(h.sl 2 Z).2;obtain rfl:=(h.sl 4 Z).2;obtain rfl:=(h.sl 5 Z).2;refine X0 12 Z (qch Z Z (X1 7 6 h Z (zcI h F (qdz (qck _ (h.oldS s1) (h.oldS s2) (h.oldS s3) (h.oldS s4) (h.oldS s5))) Z fun _ _ h F=>zp1 Z (zcB h F qaa Z fun _ _ h F=>X0 2 Z (qg Z F ?_ ?_)))))<;>intro F
 ·refine X0 5 Z ?_;obtain rfl:=qb F;replace h:=h.p [] Z;exact qpW qa [oV (Option Tl20Work) [.pointer U],oV Int [vi 4]] h ⟨rfl,rfl,G⟩ (.inl ⟨4,rfl,rfl,rfl⟩)
 refine X0 7 Z ?_;obtain rfl:=qb F;replace h:=h.p [0,1,2,3,4,5] Z;exact qpW qa [oV (Option Tl20Work) [vp y],oV Int [vi 0]] h ⟨rfl,rfl,G⟩ (.inr ⟨S1,p8,x1.length,k8,x1,S2,p9,x2.length,k9,x2,S3,C,x3.length,z,x3,y,S4,D,x4.length,A,x4,S5,H,x5.length,B,x5,rfl,rfl,rfl⟩)
def qhU(_:Nat)(mode:Int):Option Bool:=bif (mode==0) then V true else V (mode==1)
theorem qn6{mode}  {r:Bool}(F:qhU n mode=V r):RetV prog 42 [vi mode] w r:=by
 refine zV 9 func42 Z fun h=>X0 9 Z (qn (t:=5) F Z ?_ ?_)<;>intro F
 ·exact X0 5 Z (rb h F Z)
 exact X0 7 Z (rb h F Z)
def qdL(d:(Option Tl20Work))(mode:Int)(b:(List qh)):Nat->(List qh)->Int->Option ((List qh)×Int)|0,_,_=>U|n+1,x1,i1=>bif decide (i1<(b.length:Int)) then(idx x1 i1).bind fun a=>(qiD n d a.Bm a.Bd mode).bind fun c=>qdL d mode b n (setS x1 i1 (⟨a.Bm,a.Bd,c⟩:qh)) (W64 (i1+1)) else V (x1,i1)
def qgY(n:Nat)(c:(Option Tl20Work))(node:Int)(mode:Int):Option (List qh):=(qcU n c node).bind fun a=>(qdL c mode a n a 0).bind fun(x1,_)=>(qi9 n x1 mode).bind fun b=>V b
theorem qlE{A}(hA:∀b,A b->old w b){a3:(Option Tl20Work)}{node mode}(x:GoT.R w A a3 cs1){r:(List qh)}(F:qgY n a3 node mode=V r):RetG prog 45 [oV (Option Tl20Work) cs1,vi node,vi mode] w A r:=by
 obtain⟨p1,rfl,R⟩:=qax x;have hg:=Rg.start hA;refine qeL func45 Z (m:=38) Z Z (fun h=>?_);refine X0 8 Z (zcL h F (qsB (h.old (GoT.mono R hg.old))) Z fun u _ _ L K h F=>X0 7 Z ?_);obtain⟨o1,F,v⟩:=qc F;refine qm (rL (fun m e w'=>∃S2 x1 i1,qdL a3 mode u m x1 i1=V o1/\e=[(0,.pointer p1),(2,vi mode),(7,oS L u.length K),(8,vi i1)]/\SH w w' [oW S2 (x1:List qh) [oS L u.length K]]) n ⟨_,_,_,F,rfl,h⟩ Z ?_);rintro N _ _ ⟨S2,x1,i1,F,rfl,h⟩;rcases N with _|N
 ·cases F
 refine X0 8 Z (qg Z F ?_ ?_)<;>intro F
 ·refine zKSB ?_;obtain⟨d,s,F⟩:=qc F;have a:=qa4 s;obtain⟨_,T,_,h⟩:=h.take s;obtain⟨O,M,rfl,-⟩:=qaN (h.own 0 Z);obtain⟨W,h⟩:=qoP h;refine rA [17] [1] h Z fun _ h=>M0 31 [0,1,2,3,4] (h.p [1] Z) Z ?_;obtain⟨_,f,-,-,y⟩:=h.holeAt 1 Z;obtain⟨q1,k⟩:∃q,q=0+(i1).toNat*GoT.k qh:=⟨_,rfl⟩;refine Ax 5 63 f k ⟨a.1,qD a.2.1 y⟩ (h.p [1] Z) Z (M0 127 [6] (h.p [1] Z) Z (Aw 7 255 (fun w' hw=>qfS qa (qca hw 0 Z f k) (j:=0) Z Z Z) (h.p [1] Z) Z ?_));refine M0 1023 [8,9] (h.p [1] Z) Z ?_;obtain⟨_,g,-,-,z⟩:=h.holeAt 1 Z;obtain⟨q2,l⟩:∃q,q=0+(i1).toNat*GoT.k qh:=⟨_,rfl⟩;refine Ax 10 2047 g l ⟨a.1,qD a.2.1 z⟩ (h.p [1] Z) Z (M0 4095 [11] (h.p [1] Z) Z (Aw 12 8191 (fun w' hw=>qfS qa (qca hw 0 Z g l) (j:=1) Z Z Z) (h.p [1] Z) Z ?_));refine M0 16383 [13] (h.p [1] Z) Z (Ao 14 32767 Z (zcI h F (qp0 (h.old (GoT.mono R hg.old)) (h.own 0 Z)) Z fun Q _ h F=>Ag (h.p [1] Z) (Ao 15 65535 Z ?_)));obtain⟨_,i,-,-,B⟩:=h.holeAt 1 Z;obtain⟨q3,o⟩:∃q,q=0+(i1).toNat*GoT.k qh:=⟨_,rfl⟩;refine zx i o ⟨a.1,qD a.2.1 B⟩ Z (G0 131071 [16] (h.p [1] Z) Z (Ao 17 262143 Z (qfd qa 1 2 h Z i o Z Z Z Z Z Z fun _ h=>?_)));replace h:SH _ _ [oW W (d.Bd:List Int) [oS O d.Bd.length M],Ch.hole T (x1:List qh) L u.length K (i1).toNat [vi d.Bm,oS O d.Bd.length M,vi Q]]:=h;refine qaZ (fun hs=>absurd (hs 17 (by decide)) (by decide)) (Ad (X0 6 Z ?_));obtain⟨_,h⟩:=h.gather [1] (qky (⟨d.Bm,d.Bd,Q⟩:qh) h (qz (S:=fun _=>False) Z) (qad 0 h Z) (qz (S:=fun _=>False) Z) (by rfl) (by rfl)) Z;replace h:=h.put;obtain⟨_,h⟩:=qnT (S:=_) h;exact rK ⟨_,_,_,F,rfl,h⟩ Z
 refine qr Z ?_;obtain rfl:=qb F;replace F:=v;refine X0 4 Z ?_;obtain⟨t,C,F⟩:=qc F;refine qiK t hg h (cB 61 Z) (qp5 (hg.regOld h) (Rg.ownR 0 h Z) C) Z Z Z Z fun _ _ _ c p J H=>?_;have X:=h.ext p.below;have Y:=h.below.trans (p.below.mono h.below.size);replace h:=J;obtain⟨_,rfl,D⟩:=qj1 H;obtain⟨P,k3,rfl,s3⟩:=D;refine X0 2 Z ?_;obtain rfl:=qb F;have I:GoRs.Rs (ρ:=(List qh)) h.wc (reg A w h.wc) t [oV (List qh) [oS P t.length k3]]:=⟨_,rfl,(c.outR h (⟨_,_,rfl,(c.inS h s3)⟩))⟩;exact qdM qa (ρ:=(List qh)) (r:=t) [oV (List qh) [oS P t.length k3]] (h.unbase c.below (show NoD [] from trivial)) ⟨rfl,G⟩ I
def qmk(n:Nat)(j:qaP)(node:Int)(mode:Int)(count:Int):Option ((List qh)×Int):=(qeR n j node).bind fun|(U,i1)=>(bif (i1 != 0) then V ([],i1) else((qhU n mode).bind fun r4=>bif (!r4) then V true else(qal n count 0 20).bind fun i=>V (!i)).bind fun b1=>bif b1 then V ([],2) else(qf7 n U).bind fun h=>(idx h node).bind fun r=>bif decide (r > 300) then V ([],3) else(qgY n U node mode).bind fun a=>bif decide ((a.length:Int) > count) then(subS a 0 count).bind fun x1=>V (x1,0) else V (a,0))|(V (⟨_,g,f,⟨d,x3,c⟩⟩),_)=>(((qhU n mode).bind fun l=>bif (!l) then V true else(qal n count 0 20).bind fun m=>V (!m)).bind fun b3=>bif b3 then V ([],2) else(qf7 n (V (⟨(⟨(⟨(⟨j.Ac.Av.As⟩:qq),(⟨j.Ac.Aa.Ab,j.Ac.Aa.Am,j.Ac.Aa.Aj⟩:qd),j.Ac.Ah⟩:qj),(⟨j.Af.Bc,j.Af.Ap,j.Af.Az,j.Af.Ak,j.Af.Ay⟩:qu),j.Bb,j.Aq⟩:qaP),g,f,(⟨d,x3,c⟩:qw)⟩:Tl20Work))).bind fun k=>(idx k node).bind fun s=>bif decide (s > 300) then V ([],3) else(qgY n (V (⟨(⟨(⟨(⟨j.Ac.Av.As⟩:qq),(⟨j.Ac.Aa.Ab,j.Ac.Aa.Am,j.Ac.Aa.Aj⟩:qd),j.Ac.Ah⟩:qj),(⟨j.Af.Bc,j.Af.Ap,j.Af.Az,j.Af.Ak,j.Af.Ay⟩:qu),j.Bb,j.Aq⟩:qaP),g,f,(⟨d,x3,c⟩:qw)⟩:Tl20Work)) node mode).bind fun b=>bif decide ((b.length:Int) > count) then(subS b 0 count).bind fun p=>V (p,0) else V (b,0))
theorem qs0{A}(hA:∀b,A b->old w b){j:qaP}{node mode count}(a3:GoT.R w A j cs1){r:((List qh)×Int)}(F:qmk n j node mode count=V r):RetG prog 15 [oV qaP cs1,vi node,vi mode,vi count] w A r:=by
 obtain⟨Q,P,D,C,v,k3,y,u,L,I,M,J,N,K,rfl,s1,s2,s3,s4,s5,s6,s7⟩:=qdy a3;have hg:=Rg.start hA;refine qeL func15 Z (m:=48) Z Z (fun h=>?_);refine zSR (qx h Z Z fun _ S h=>X1 7 0 h Z ?_);obtain⟨_,hr1,F⟩:=qc F;refine qxM (cB 41 Z) (qoZ (h.old (GoT.mono a3 hg.old)) hr1) Z Z Z Z ?_;rintro _ _ _ b7 (⟨i1,rfl,rfl,rfl⟩|⟨S3,d,c6,a,o,S4,f,c7,c,x3,S5,i,c8,g,z,R,S6,l,c9,k,H,S7,s,d0,p,O,rfl,rfl,rfl⟩)
 ·replace h:SH _ _ [oX S (qpK j Q D v y L M N P C k3 u I J K) 57]:=SH.appendN h b7 (show NoD [] from trivial);refine X0 12 Z (qg Z F ?_ ?_)<;>intro F
  ·refine X0 6 Z ?_;obtain rfl:=qb F;have hv1:GoRs.Rs (ρ:=((List qh)×Int)) h.wc (reg A w h.wc) ([],i1) [oV (List qh) [oS U 0 0],oV Int [vi i1]]:=⟨_,_,rfl,(hg.outR h (⟨_,_,rfl,qkm⟩)),⟨_,rfl,rfl⟩⟩;exact qdM qa (ρ:=((List qh)×Int)) (r:=([],i1)) [oV (List qh) [oS U 0 0],oV Int [vi i1]] h ⟨rfl,rfl,G⟩ hv1
  refine zKSS ?_;obtain⟨KF1,X,_,F,T⟩:=bindE F;refine qaV (fun e w'=>∃b1,KF1 b1=V r/\e=[(1,vi node),(2,vi mode),(3,vi count),(10,.pointer U),(29,.bool b1)]/\SH w w' []) ?_ ?_
  ·refine X0 2 Z (zcB h F qn6 Z fun _ _ h F=>zp2 Z (qn (t:=25) F Z ?_ ?_))<;>intro F
   ·refine X0 5 Z ?_;replace h:=h.p [] Z;obtain rfl:=qb F;exact rG ⟨_,T,rfl,h⟩ Z
   refine X0 3 Z (zcB h F qaa Z fun _ _ h F=>X0 4 Z ?_);replace h:=h.p [] Z;obtain rfl:=qb F;exact rG ⟨_,T,rfl,h⟩ Z
  rintro _ _ ⟨b1,F,rfl,h⟩;subst X;refine qg Z F ?_ ?_<;>intro F
  ·refine X0 5 Z ?_;obtain rfl:=qb F;have hv2:GoRs.Rs (ρ:=((List qh)×Int)) h.wc (reg A w h.wc) ([],2) [oV (List qh) [oS U 0 0],oV Int [vi 2]]:=⟨_,_,rfl,(hg.outR h (⟨_,_,rfl,qkm⟩)),⟨_,rfl,rfl⟩⟩;exact qdM qa (ρ:=((List qh)×Int)) (r:=([],2)) [oV (List qh) [oS U 0 0],oV Int [vi 2]] h ⟨rfl,rfl,G⟩ hv2
  refine X0 5 Z (zcL h F (qmr Z) Z fun _ _ _ _ _ h F=>zp1 Z ?_);obtain⟨_,_,F,a4,_,_,_,_,hp1,hq1,rfl,hc3⟩:=(h.sl 0 Z).1.ix F;refine zx hp1 hq1 ⟨a4.1,qD a4.2.1 (h.sl 0 Z).2⟩ Z (zc 0 hc3 Z (X0 2 Z (qg Z F ?_ ?_)))<;>intro F
  ·refine X0 5 Z ?_;obtain rfl:=qb F;have hv3:GoRs.Rs (ρ:=((List qh)×Int)) h.wc (reg A w h.wc) ([],3) [oV (List qh) [oS U 0 0],oV Int [vi 3]]:=⟨_,_,rfl,(hg.outR h (⟨_,_,rfl,qkm⟩)),⟨_,rfl,rfl⟩⟩;exact qdM qa (ρ:=((List qh)×Int)) (r:=([],3)) [oV (List qh) [oS U 0 0],oV Int [vi 3]] h ⟨rfl,rfl,G⟩ hv3
  refine X0 6 Z ?_;obtain⟨r3,hr4,F⟩:=qc F;refine qBl r3 hg h (cB 45 Z) (qlE (hg.atB h) Z hr4) Z Z Z Z fun _ _ _ h hv4=>?_;obtain⟨_,rfl,b6⟩:=qj1 hv4;have hr6:=b6;obtain⟨p9,k9,rfl,_⟩:=b6;replace h:=h.grpAdd 0 Z hr6;refine X0 10 Z (qg Z F ?_ ?_)<;>intro F
  ·refine X0 3 Z ?_;obtain⟨x1,c1,F⟩:=qc F;obtain⟨d1,c3,a8,a6,hl1,g1⟩:=qpA (qii (h.grp 0 0 Z Z)).1 c1;refine r_v (qlT qa Z Z Z (qpF g1 (qii (h.grp 0 0 Z Z)).2) a8 a6 hl1 Z Z Z Z) Z (X0 8 Z ?_);obtain rfl:=qb F;have hv5:GoRs.Rs (ρ:=((List qh)×Int)) h.wc (reg A w h.wc) (x1,0) [oV (List qh) [oS d1 x1.length c3],oV Int [vi 0]]:=⟨_,_,rfl,(hg.outR h (⟨_,_,rfl,(qsG (qii (Rg.grpR 0 0 h Z Z)).1 c1 a8 a6)⟩)),⟨_,rfl,rfl⟩⟩;replace h:=h.p [1] Z;exact qdM qa (ρ:=((List qh)×Int)) (r:=(x1,0)) [oV (List qh) [oS d1 x1.length c3],oV Int [vi 0]] h ⟨rfl,rfl,G⟩ hv5
  refine X0 7 Z ?_;obtain rfl:=qb F;have hv6:GoRs.Rs (ρ:=((List qh)×Int)) h.wc (reg A w h.wc) (r3,0) [oV (List qh) [oS p9 r3.length k9],oV Int [vi 0]]:=⟨_,_,rfl,(hg.outR h (Rg.grpR 0 0 h Z Z)),⟨_,rfl,rfl⟩⟩;replace h:=h.p [1] Z;exact qdM qa (ρ:=((List qh)×Int)) (r:=(r3,0)) [oV (List qh) [oS p9 r3.length k9],oV Int [vi 0]] h ⟨rfl,rfl,G⟩ hv6
 replace h:SH _ _ [oW S3 (o:List qe) [oS d c6 a],oW S4 (x3:List qe) [oS f c7 c],oW S5 (z:List Bool) [oS i c8 g],oX R [oS Q j.Ac.Av.As.length P,oS D j.Ac.Aa.Ab.length C,oS v j.Ac.Aa.Am.length k3,oS y j.Ac.Aa.Aj.length u,oS L j.Ac.Ah.length I,.string j.Af.Bc,vi j.Af.Ap,vi j.Af.Az,vi j.Af.Ak,vi j.Af.Ay,oS M j.Bb.length J,oS N j.Aq.length K,oS s d0 p,oS l c9 k,oS i c8 g,oS f c7 c,oS d c6 a] 114,oW S6 (H:List Bool) [oS l c9 k],oW S7 (O:List qy) [oS s d0 p],oX S (qpK j Q D v y L M N P C k3 u I J K) 57]:=SH.appendN h b7 ⟨fun _ h=>h,⟨fun _ h=>h,⟨fun _ h=>h,⟨fun _ h=>h,⟨fun _ h=>h,⟨fun _ h=>h,G⟩⟩⟩⟩⟩⟩;obtain rfl:=(h.sl 0 Z).2;obtain rfl:=(h.sl 1 Z).2;obtain rfl:=(h.sl 2 Z).2;obtain rfl:=(h.sl 4 Z).2;obtain rfl:=(h.sl 5 Z).2;refine X0 12 Z (qch Z Z (zKSS ?_));obtain⟨KF2,Y,_,F,W⟩:=bindE F;refine qaV (fun e w'=>∃b3,KF2 b3=V r/\e=[(1,vi node),(2,vi mode),(3,vi count),(10,vp R),(29,.bool b3)]/\SH w w' [oW S3 (o:List qe) [oS d o.length a],oW S4 (x3:List qe) [oS f x3.length c],oW S5 (z:List Bool) [oS i z.length g],oX R [oS Q j.Ac.Av.As.length P,oS D j.Ac.Aa.Ab.length C,oS v j.Ac.Aa.Am.length k3,oS y j.Ac.Aa.Aj.length u,oS L j.Ac.Ah.length I,.string j.Af.Bc,vi j.Af.Ap,vi j.Af.Az,vi j.Af.Ak,vi j.Af.Ay,oS M j.Bb.length J,oS N j.Aq.length K,oS s O.length p,oS l H.length k,oS i z.length g,oS f x3.length c,oS d o.length a] 114,oW S6 (H:List Bool) [oS l H.length k],oW S7 (O:List qy) [oS s O.length p]]) ?_ ?_
 ·refine X0 2 Z (zcB h F qn6 Z fun _ _ h F=>zp2 Z (qn (t:=25) F Z ?_ ?_))<;>intro F
  ·refine X0 5 Z ?_;replace h:=h.p [0,1,2,3,4,5] Z;obtain rfl:=qb F;exact rG ⟨_,W,rfl,h⟩ Z
  refine X0 3 Z (zcB h F qaa Z fun _ _ h F=>X0 4 Z ?_);replace h:=h.p [0,1,2,3,4,5] Z;obtain rfl:=qb F;exact rG ⟨_,W,rfl,h⟩ Z
 rintro _ _ ⟨b3,F,rfl,h⟩;subst Y;refine qg Z F ?_ ?_<;>intro F
 ·refine X0 5 Z ?_;obtain rfl:=qb F;have hv7:GoRs.Rs (ρ:=((List qh)×Int)) h.wc (reg A w h.wc) ([],2) [oV (List qh) [oS U 0 0],oV Int [vi 2]]:=⟨_,_,rfl,(hg.outR h (⟨_,_,rfl,qkm⟩)),⟨_,rfl,rfl⟩⟩;exact qdM qa (ρ:=((List qh)×Int)) (r:=([],2)) [oV (List qh) [oS U 0 0],oV Int [vi 2]] h ⟨rfl,rfl,G⟩ hv7
 refine X0 5 Z (zcL h F (qmr (qiu (x:=(⟨(⟨(⟨(⟨j.Ac.Av.As⟩:qq),(⟨j.Ac.Aa.Ab,j.Ac.Aa.Am,j.Ac.Aa.Aj⟩:qd),j.Ac.Ah⟩:qj),(⟨j.Af.Bc,j.Af.Ap,j.Af.Az,j.Af.Ak,j.Af.Ay⟩:qu),j.Bb,j.Aq⟩:qaP),O,H,(⟨z,x3,o⟩:qw)⟩:Tl20Work)) 3 h Z (show GoT.R _ _ ((⟨(⟨(⟨(⟨j.Ac.Av.As⟩:qq),(⟨j.Ac.Aa.Ab,j.Ac.Aa.Am,j.Ac.Aa.Aj⟩:qd),j.Ac.Ah⟩:qj),(⟨j.Af.Bc,j.Af.Ap,j.Af.Az,j.Af.Ak,j.Af.Ay⟩:qu),j.Bb,j.Aq⟩:qaP),O,H,(⟨z,x3,o⟩:qw)⟩:Tl20Work):Tl20Work) _ from⟨[oS Q j.Ac.Av.As.length P,oS D j.Ac.Aa.Ab.length C,oS v j.Ac.Aa.Am.length k3,oS y j.Ac.Aa.Aj.length u,oS L j.Ac.Ah.length I,.string j.Af.Bc,vi j.Af.Ap,vi j.Af.Az,vi j.Af.Ak,vi j.Af.Ay,oS M j.Bb.length J,oS N j.Aq.length K],[oS s O.length p,oS l H.length k,oS i z.length g,oS f x3.length c,oS d o.length a],rfl,⟨[oS Q j.Ac.Av.As.length P,oS D j.Ac.Aa.Ab.length C,oS v j.Ac.Aa.Am.length k3,oS y j.Ac.Aa.Aj.length u,oS L j.Ac.Ah.length I],[.string j.Af.Bc,vi j.Af.Ap,vi j.Af.Az,vi j.Af.Ak,vi j.Af.Ay,oS M j.Bb.length J,oS N j.Aq.length K],rfl,⟨[oS Q j.Ac.Av.As.length P],[oS D j.Ac.Aa.Ab.length C,oS v j.Ac.Aa.Am.length k3,oS y j.Ac.Aa.Aj.length u,oS L j.Ac.Ah.length I],rfl,⟨_,_,rfl,(h.oldS (s1.mono hg.old))⟩,⟨[oS D j.Ac.Aa.Ab.length C,oS v j.Ac.Aa.Am.length k3,oS y j.Ac.Aa.Aj.length u],[oS L j.Ac.Ah.length I],rfl,⟨[oS D j.Ac.Aa.Ab.length C],[oS v j.Ac.Aa.Am.length k3,oS y j.Ac.Aa.Aj.length u],rfl,⟨_,_,rfl,(h.oldS (s2.mono hg.old))⟩,⟨[oS v j.Ac.Aa.Am.length k3],[oS y j.Ac.Aa.Aj.length u],rfl,⟨_,_,rfl,(h.oldS (s3.mono hg.old))⟩,⟨_,_,rfl,(h.oldS (s4.mono hg.old))⟩⟩⟩,⟨_,_,rfl,(h.oldS (s5.mono hg.old))⟩⟩⟩,⟨[.string j.Af.Bc,vi j.Af.Ap,vi j.Af.Az,vi j.Af.Ak,vi j.Af.Ay],[oS M j.Bb.length J,oS N j.Aq.length K],rfl,⟨[.string j.Af.Bc],[vi j.Af.Ap,vi j.Af.Az,vi j.Af.Ak,vi j.Af.Ay],rfl,rfl,⟨[vi j.Af.Ap],[vi j.Af.Az,vi j.Af.Ak,vi j.Af.Ay],rfl,rfl,⟨[vi j.Af.Az],[vi j.Af.Ak,vi j.Af.Ay],rfl,rfl,⟨[vi j.Af.Ak],[vi j.Af.Ay],rfl,rfl,rfl⟩⟩⟩⟩,⟨[oS M j.Bb.length J],[oS N j.Aq.length K],rfl,⟨_,_,rfl,(h.oldS (s6.mono hg.old))⟩,⟨_,_,rfl,(h.oldS (s7.mono hg.old))⟩⟩⟩⟩,⟨[oS s O.length p],[oS l H.length k,oS i z.length g,oS f x3.length c,oS d o.length a],rfl,(h.own 5 Z),⟨[oS l H.length k],[oS i z.length g,oS f x3.length c,oS d o.length a],rfl,(h.own 4 Z),⟨[oS i z.length g],[oS f x3.length c,oS d o.length a],rfl,(h.own 2 Z),⟨[oS f x3.length c],[oS d o.length a],rfl,(h.own 1 Z),(h.own 0 Z)⟩⟩⟩⟩⟩))) Z fun _ _ _ _ _ h F=>zp1 Z ?_);obtain⟨_,_,F,a5,_,_,_,_,hp3,hq2,rfl,hc7⟩:=(h.sl 0 Z).1.ix F;refine zx hp3 hq2 ⟨a5.1,qD a5.2.1 (h.sl 0 Z).2⟩ Z (zc 0 hc7 Z (X0 2 Z (qg Z F ?_ ?_)))<;>intro F
 ·refine X0 5 Z ?_;obtain rfl:=qb F;have hv8:GoRs.Rs (ρ:=((List qh)×Int)) h.wc (reg A w h.wc) ([],3) [oV (List qh) [oS U 0 0],oV Int [vi 3]]:=⟨_,_,rfl,(hg.outR h (⟨_,_,rfl,qkm⟩)),⟨_,rfl,rfl⟩⟩;exact qdM qa (ρ:=((List qh)×Int)) (r:=([],3)) [oV (List qh) [oS U 0 0],oV Int [vi 3]] h ⟨rfl,rfl,G⟩ hv8
 refine X0 6 Z ?_;obtain⟨r7,b4,F⟩:=qc F;refine qiK r7 hg h (cB 45 Z) (qlE (hg.regOld h) (Rg.boxR (x:=(⟨(⟨(⟨(⟨j.Ac.Av.As⟩:qq),(⟨j.Ac.Aa.Ab,j.Ac.Aa.Am,j.Ac.Aa.Aj⟩:qd),j.Ac.Ah⟩:qj),(⟨j.Af.Bc,j.Af.Ap,j.Af.Az,j.Af.Ak,j.Af.Ay⟩:qu),j.Bb,j.Aq⟩:qaP),O,H,(⟨z,x3,o⟩:qw)⟩:Tl20Work)) 4 h Z (show GoT.R _ _ ((⟨(⟨(⟨(⟨j.Ac.Av.As⟩:qq),(⟨j.Ac.Aa.Ab,j.Ac.Aa.Am,j.Ac.Aa.Aj⟩:qd),j.Ac.Ah⟩:qj),(⟨j.Af.Bc,j.Af.Ap,j.Af.Az,j.Af.Ak,j.Af.Ay⟩:qu),j.Bb,j.Aq⟩:qaP),O,H,(⟨z,x3,o⟩:qw)⟩:Tl20Work):Tl20Work) _ from⟨[oS Q j.Ac.Av.As.length P,oS D j.Ac.Aa.Ab.length C,oS v j.Ac.Aa.Am.length k3,oS y j.Ac.Aa.Aj.length u,oS L j.Ac.Ah.length I,.string j.Af.Bc,vi j.Af.Ap,vi j.Af.Az,vi j.Af.Ak,vi j.Af.Ay,oS M j.Bb.length J,oS N j.Aq.length K],[oS s O.length p,oS l H.length k,oS i z.length g,oS f x3.length c,oS d o.length a],rfl,⟨[oS Q j.Ac.Av.As.length P,oS D j.Ac.Aa.Ab.length C,oS v j.Ac.Aa.Am.length k3,oS y j.Ac.Aa.Aj.length u,oS L j.Ac.Ah.length I],[.string j.Af.Bc,vi j.Af.Ap,vi j.Af.Az,vi j.Af.Ak,vi j.Af.Ay,oS M j.Bb.length J,oS N j.Aq.length K],rfl,⟨[oS Q j.Ac.Av.As.length P],[oS D j.Ac.Aa.Ab.length C,oS v j.Ac.Aa.Am.length k3,oS y j.Ac.Aa.Aj.length u,oS L j.Ac.Ah.length I],rfl,⟨_,_,rfl,(hg.inS h s1)⟩,⟨[oS D j.Ac.Aa.Ab.length C,oS v j.Ac.Aa.Am.length k3,oS y j.Ac.Aa.Aj.length u],[oS L j.Ac.Ah.length I],rfl,⟨[oS D j.Ac.Aa.Ab.length C],[oS v j.Ac.Aa.Am.length k3,oS y j.Ac.Aa.Aj.length u],rfl,⟨_,_,rfl,(hg.inS h s2)⟩,⟨[oS v j.Ac.Aa.Am.length k3],[oS y j.Ac.Aa.Aj.length u],rfl,⟨_,_,rfl,(hg.inS h s3)⟩,⟨_,_,rfl,(hg.inS h s4)⟩⟩⟩,⟨_,_,rfl,(hg.inS h s5)⟩⟩⟩,⟨[.string j.Af.Bc,vi j.Af.Ap,vi j.Af.Az,vi j.Af.Ak,vi j.Af.Ay],[oS M j.Bb.length J,oS N j.Aq.length K],rfl,⟨[.string j.Af.Bc],[vi j.Af.Ap,vi j.Af.Az,vi j.Af.Ak,vi j.Af.Ay],rfl,rfl,⟨[vi j.Af.Ap],[vi j.Af.Az,vi j.Af.Ak,vi j.Af.Ay],rfl,rfl,⟨[vi j.Af.Az],[vi j.Af.Ak,vi j.Af.Ay],rfl,rfl,⟨[vi j.Af.Ak],[vi j.Af.Ay],rfl,rfl,rfl⟩⟩⟩⟩,⟨[oS M j.Bb.length J],[oS N j.Aq.length K],rfl,⟨_,_,rfl,(hg.inS h s6)⟩,⟨_,_,rfl,(hg.inS h s7)⟩⟩⟩⟩,⟨[oS s O.length p],[oS l H.length k,oS i z.length g,oS f x3.length c,oS d o.length a],rfl,(Rg.ownR 6 h Z),⟨[oS l H.length k],[oS i z.length g,oS f x3.length c,oS d o.length a],rfl,(Rg.ownR 5 h Z),⟨[oS i z.length g],[oS f x3.length c,oS d o.length a],rfl,(Rg.ownR 3 h Z),⟨[oS f x3.length c],[oS d o.length a],rfl,(Rg.ownR 2 h Z),(Rg.ownR 1 h Z)⟩⟩⟩⟩⟩)) b4) Z Z Z Z fun _ _ _ B b8 hz1 hv9=>?_;have hL1:=h.ext b8.below;have hb1:=h.below.trans (b8.below.mono h.below.size);replace h:=hz1;obtain⟨_,rfl,b5⟩:=qj1 hv9;obtain⟨d3,c4,rfl,s9⟩:=b5;refine X0 10 Z (qg Z F ?_ ?_)<;>intro F
 ·refine X0 3 Z ?_;obtain⟨x7,c2,F⟩:=qc F;obtain⟨d4,c5,a9,a7,hl2,g2⟩:=qpA (h.oldS (s9.mono B.old)) c2;refine r_v (qlT qa Z Z Z (qpF g2 Z) a9 a7 hl2 Z Z Z Z) Z ?_;have s10:=qsG s9 c2 a9 a7;refine X0 8 Z ?_;obtain rfl:=qb F;have b9:GoRs.Rs (ρ:=((List qh)×Int)) h.wc (reg A w h.wc) (x7,0) [oV (List qh) [oS d4 x7.length c5],oV Int [vi 0]]:=⟨_,_,rfl,(B.outR h (⟨_,_,rfl,(B.inS h s10)⟩)),⟨_,rfl,rfl⟩⟩;exact qdM qa (ρ:=((List qh)×Int)) (r:=(x7,0)) [oV (List qh) [oS d4 x7.length c5],oV Int [vi 0]] (h.unbase B.below (show NoD [] from trivial)) ⟨rfl,rfl,G⟩ b9
 refine X0 7 Z ?_;obtain rfl:=qb F;have c0:GoRs.Rs (ρ:=((List qh)×Int)) h.wc (reg A w h.wc) (r7,0) [oV (List qh) [oS d3 r7.length c4],oV Int [vi 0]]:=⟨_,_,rfl,(B.outR h (⟨_,_,rfl,(B.inS h s9)⟩)),⟨_,rfl,rfl⟩⟩;exact qdM qa (ρ:=((List qh)×Int)) (r:=(r7,0)) [oV (List qh) [oS d3 r7.length c4],oV Int [vi 0]] (h.unbase B.below (show NoD [] from trivial)) ⟨rfl,rfl,G⟩ c0
def qjO(_:Nat)(list:(List qh)):Option Int:=V (list.length:Int)
theorem qmI{list:(List qh)}(a:Ro w list cs1){r:Int}(F:qjO n list=V r):RetV prog 52 [oV (List qh) cs1] w r:=by
 obtain⟨_,_,rfl,_⟩:=a;exact zV 5 func52 Z fun h=>X0 10 Z (ri h F Z)
def qgn(a:Int)(b:(Option Twork))(c:(List qh)):Nat->(List qh)->Int->Option ((List qh)×Int)|0,_,_=>U|n+1,x1,i1=>bif decide (i1<(c.length:Int)) then(idx x1 i1).bind fun d=>(qez n b d.Bm d.Bd).bind fun g=>(qnH n g a).bind fun h=>(idx x1 i1).bind fun f=>qgn a b c n (setS x1 i1 (⟨f.Bm,f.Bd,h⟩:qh)) (W64 (i1+1)) else V (x1,i1)
def qkB(n:Nat)(d:qaP)(a:Int)(b:Int)(c:Int):Option ((List qh)×Int):=(qdR n d b ([a]:List Int)).bind fun(f,g)=>bif (g != 0) then V ([],g) else(qaS n c 0 20).bind fun r4=>bif (!r4) then V ([],2) else(qf2 n f a).bind fun l=>bif decide (l > 300) then V ([],3) else(qhm n f a).bind fun h=>(qgn b f h n h 0).bind fun(x1,_)=>(sortP n x1 b).bind fun k=>(qjO n k).bind fun i=>(subS k 0 (if i<c then i else c)).bind fun x3=>V (x3,0)
theorem qoX{l:qaP}{d b f}(o:Ro w l cs1){r:((List qh)×Int)}(F:qkB n l d b f=V r):RetV prog 16 [oV qaP cs1,vi d,vi b,vi f] w r:=by
 obtain⟨_,_,_,_,_,_,_,_,_,_,_,_,_,_,rfl,_,_,_,_,_,_,_⟩:=qdy o;refine zV 68 func16 Z fun h=>zSR (qx h Z Z fun _ _ h=>X1 8 0 h Z (qG qa [.tmp 18] _ ([d]:List Int) h Z Z Z Z Z Z Z Z Z ⟨rfl,G⟩ Z fun _ _ _ h=>?_));have g:Rg (old w) w (old w) w:=.start (fun _ h=>h);obtain⟨⟨r2,r3⟩,Q,F⟩:=qc F;refine qiK (r2,r3) g h (cB 31 Z) (qrP (g.regOld h) (g.inR h o) (Rg.ownR 0 h Z) Q) Z Z Z Z fun w3 _ _ a z a4 X=>?_;have hL1:=h.ext z.below;have hb1:=h.below.trans (z.below.mono h.below.size);replace h:=a4;obtain⟨_,_,rfl,R,Y⟩:=qnl X;obtain⟨p9,rfl,s8⟩:=qax R;obtain⟨_,rfl,T⟩:=qj1 Y;obtain rfl:=T;refine X0 14 Z (qg Z F ?_ ?_)<;>intro F
 ·refine X0 6 Z ?_;replace h:=h.unbase a.below (show NoD [] from trivial);obtain rfl:=qb F;exact qac qa (ρ:=((List qh)×Int)) [oV (List qh) [oS U 0 0],oV Int [vi r3]] h ⟨rfl,rfl,G⟩ (PV.done h (qat h qhh (qah (qz (S:=fun _=>False) Z)) (by rfl)))
 refine X0 3 Z (zcB h F qaE Z fun _ _ h F=>X0 3 Z (qg Z F ?_ ?_))<;>intro F
 ·refine X0 5 Z ?_;replace h:=h.unbase a.below (show NoD [] from trivial);obtain rfl:=qb F;exact qac qa (ρ:=((List qh)×Int)) [oV (List qh) [oS U 0 0],oV Int [vi 2]] h ⟨rfl,rfl,G⟩ (PV.done h (qat h qhh (qah (qz (S:=fun _=>False) Z)) (by rfl)))
 refine X0 4 Z (zcI h F (qnX (h.old (GoT.mono s8 a.old))) Z fun _ _ h F=>X0 3 Z (qg Z F ?_ ?_))<;>intro F
 ·refine X0 5 Z ?_;replace h:=h.unbase a.below (show NoD [] from trivial);obtain rfl:=qb F;exact qac qa (ρ:=((List qh)×Int)) [oV (List qh) [oS U 0 0],oV Int [vi 3]] h ⟨rfl,rfl,G⟩ (PV.done h (qat h qhh (qah (qz (S:=fun _=>False) Z)) (by rfl)))
 refine X0 6 Z (zcL h F (qox (h.old (GoT.mono s8 a.old))) Z fun i _ _ c I h F=>X0 9 Z ?_);obtain⟨o1,F,K⟩:=qc F;refine qm (rL (fun m e w'=>∃S3 x1 i1,qgn b r2 i m x1 i1=V o1/\e=[(2,vi b),(3,vi f),(10,.pointer p9),(12,oS c i.length I),(39,oS c i.length I),(40,vi (i.length:Int)),(41,vi i1)]/\SH w3 w' [oW S3 (x1:List qh) [oS c i.length I]]) n ⟨_,_,_,F,rfl,h⟩ Z ?_);rintro m1 _ _ ⟨S3,x1,i1,F,rfl,h⟩;rcases m1 with _|m1
 ·cases F
 refine X0 5 Z (qg Z F ?_ ?_)<;>intro F
 ·refine X0 6 Z ?_;obtain⟨y1,B,F⟩:=qc F;have p:=qa4 B;replace h:=h.lrn0 0 Z;obtain⟨_,o_1,_,_,O,P,-,y,L⟩:=(qii (h.lrnO 0 Z)).1.at B;have W:=y;obtain⟨a6,k9,rfl,_⟩:=qaN y;replace h:=h.lrnAdd 0 Z W;refine zx O P ⟨p.1,qD p.2.1 (qii (h.lrnO 0 Z)).2⟩ Z (zc 0 L Z (qp qa h Z Z Z fun _ J h=>zp1 Z (zs 0 h Z fun _ h=>X2 9 0 0 h Z (zcO h F (ql5 (h.old (GoT.mono s8 a.old)) ⟨_,_,rfl,(qyY (GoT.mono (h.lrnS 1 0 Z Z) (h.lrnB 1 Z))).1⟩) Z fun r7 _ S4 _ h F=>?_))));obtain rfl:=qt (h.own 0 Z);refine zp1 Z (zcI h F (qrE (h.own 0 Z)) Z fun r8 _ h F=>?_);obtain⟨k,C,F⟩:=qc F;have s:=qa4 C;replace h:=h.unlrn 2 Z;replace h:=h.p [2,0,1] Z;obtain⟨_,S6,_,h⟩:=h.take C;obtain⟨H,D,rfl,-⟩:=qaN (h.own 0 Z);obtain⟨S7,h⟩:=qoP h;obtain⟨_,u,-,-,M⟩:=h.holeAt 1 Z;obtain⟨q2,x⟩:∃q,q=0+(i1).toNat*GoT.k qh:=⟨_,rfl⟩;refine zx u x ⟨s.1,qD s.2.1 M⟩ Z (zp1 Z (qfd qa 1 2 h Z u x Z Z Z Z Z Z fun _ h=>?_));replace h:SH _ _ [oW S7 (k.Bd:List Int) [oS H k.Bd.length D],Ch.hole S6 (x1:List qh) c i.length I (i1).toNat [vi k.Bm,oS H k.Bd.length D,vi r8],oW S4 (r7:qe) (qf3 r7),oX J (qnn y1 a6 k9) 41]:=h;refine X0 6 Z ?_;obtain⟨_,h⟩:=h.gather [1,2,3] (qky (⟨k.Bm,k.Bd,r8⟩:qh) h (qz (S:=fun _=>False) Z) (qad 0 h Z) (qz (S:=fun _=>False) Z) (by rfl) (by rfl)) Z;replace h:=h.put;obtain⟨_,h⟩:=qnT (S:=_) h;replace h:=h.p [0] Z;exact rK ⟨_,_,_,F,rfl,h⟩ Z
 refine qr Z ?_;obtain rfl:=qb F;replace F:=K;refine X0 4 Z ?_;obtain⟨_,a3,F⟩:=qc F;refine qmA (cB 51 Z) (qvJ 0 h Z a3) Z Z Z Z ?_;rintro _ ⟨_,h⟩;refine X0 6 Z (zcI h F (qmI (h.own 0 Z)) Z fun _ _ h F=>zp1 Z ?_);obtain⟨x3,A,F⟩:=qc F;obtain⟨a7,a5,v,t,N,g1⟩:=qpA (h.sl 0 Z).1 A;refine r_v (qlT qa Z Z Z (qpF g1 (h.sl 0 Z).2) v t N Z Z Z Z) Z ?_;replace h:=h.cutS 0 Z A v t;refine X0 3 Z ?_;replace h:=h.unbase a.below ⟨fun _ h=>h,G⟩;obtain rfl:=qb F;exact qac qa (ρ:=((List qh)×Int)) [oV (List qh) [oS a7 x3.length a5],oV Int [vi 0]] h ⟨rfl,rfl,G⟩ (PV.done h (qat h (qad 0 h Z) (qah (qz (S:=fun _=>False) Z)) (by rfl)))
end Go.Fw


namespace Go.Fw
open Go
set_option maxRecDepth 100000
def swV(j:qaP)(t:qw):Option Tl20Work:=V ⟨j,linksL j.Ac,lvJ j.Ac j.Bb,t⟩
theorem qAW{j:qaP}(h:qkW j) :
  (∃code:Int,code≠0/\Ev (fun n=>qdP n j) (U,code)/\∀mode nodes,Ev (fun n=>qdR n j mode nodes) (U,code)) \/
  ∃t R,WkOk j t R/\Ev (fun n=>qdP n j) (swV j t,0)/\∀mode nodes,nodes.length<=1048576->(mode=0\/mode=1) ->
   Ev (fun n=>qdR n j mode nodes) (bif nodes.all (fun x=>inI x 0 ((ndB j.Ac:Int)-1)) then(wkV j t R,0) else(U,4)):=by
 have c:=h.Bb.len;unfold qdP qdR;rcases qxC h with⟨code,hne,hs,hi⟩|⟨t,R,hw,hs,hi⟩
 ·exact .inl ⟨code,hne,Ev.bind hs (Ev.tt (qk6 hne) .done),fun mode nodes=>Ev.bind hi (Ev.tt (qk6 hne) .done)⟩
 ·have a:=hw.tg.bl;have d:=qjU a;have g:=qaX (qW (qau a));have l:=qnD (ls:=linksL j.Ac) (br:=j.Bb) d c;refine .inr ⟨t,R,hw,Ev.bind hs (Ev.ff Z (Ev.bind (qi2 a) (Ev.bind l .done))),fun mode nodes k i=>Ev.bind hi (Ev.ff Z ?_)⟩;have f:=qoG (v:=viewV j.Ac) g;have e1:W64 (((2*(viewV j.Ac).places.length:Nat):Int)-1)=(ndB j.Ac:Int)-1:=by
   show W64 (((2*(places j.Ac.Aa).length:Nat):Int)-1)=_;rw[qK (by omega) (by omega)]
  unfold wkV grB;simp only[jd,f,e1];refine Ev.bind (qeG k) ?_;cases nodes.all fun x=>inI x 0 ((ndB j.Ac:Int)-1)
  ·exact Ev.tt Z .done
  ·refine Ev.ff Z ?_;rcases i with rfl|rfl<;>exact Ev.bind (b:=true) (Ev.now Z) (Ev.ff Z .done)
theorem qnN{j:qaP}{t:qw}{node:Int}(h:j.Aq.length<=1048576):Ev (fun n=>qgf n (swV j t) node) ((srcV (srcO j.Aq node)).2,(srcV (srcO j.Aq node)).1):=by
 have g:Ev (fun n=>qc7 (swV j t) node n 0) (match srcO j.Aq node with|some y=>.ret (y,true)|none=>.nxt (j.Aq.length:Int)):=by
  have c:∀d i,i+d=j.Aq.length->(j.Aq.take i).find? (fun s=>s.Bs==node)=U->Ev (fun n=>qc7 (swV j t) node n (i:Int)) (match srcO j.Aq node with|some y=>.ret (y,true)|none=>.nxt (j.Aq.length:Int)):=by
   intro d
   induction d with
   |zero=>
    intro i hi b;obtain rfl:i=j.Aq.length:=by omega
    rw[jC] at b;unfold srcO;rw[b];refine Ev.succ ?_;simp only[qc7,swV,jd,qk (je _),cond_false];exact .done
   |succ d ih=>
    intro i hi b;have a:i<j.Aq.length:=by omega
    refine Ev.succ ?_;simp only[qc7,swV,jd,qi a,cond_true,qC a,wS i];cases hq:(gt j.Aq i).Bs==node
    ·refine ih (i+1) (by omega) ?_;rw[js a,List.find?_append,b,<-qcT a,List.find?_cons_of_neg (by simp[hq])]
     rfl
    ·have f:j.Aq.drop i=gt j.Aq i::j.Aq.drop (i+1):=by rw[qcT a];exact jz a
     have:srcO j.Aq node=V (gt j.Aq i):=by
      generalize gt j.Aq i=y at hq f;unfold srcO;rw[<-jW i j.Aq,List.find?_append,b,f,List.find?_cons_of_pos (by simpa using hq)]
      rfl
     rw[this];exact .done
  exact c j.Aq.length 0 (by omega) Z
 unfold qgf;refine Ev.bind g ?_;cases srcO j.Aq node<;>exact .done
def atP(ls:List qy)(start:Int)(a:List Int):Nat->Int
 |0=>start
 |j+1=>(gt ls (at0 a j).toNat).To
def okP(ls:List qy)(lv:List Bool)(start:Int)(a:List Int)(j:Nat):Bool:=
 inI (at0 a j) 0 ((ls.length:Int)-1)&&(gt lv (at0 a j).toNat&&((gt ls (at0 a j).toNat).Bl==atP ls start a j))
def pathB(j:qaP)(start:Int)(a:List Int):Bool:=(srcV (srcO j.Aq start)).1&&allN (okP (linksL j.Ac) (lvJ j.Ac j.Bb) start a) a.length
def endB(j:qaP)(start:Int)(a:List Int):Int:=atP (linksL j.Ac) start a a.length
theorem inRange{x:Int}{m:Nat}(h:inI x 0 ((m:Int)-1)=true):0<=x/\x<(m:Int)/\x.toNat<m:=by rw[qbe] at h;omega

section
variable{L:Nat}{fr to:Nat->Int}{lv:Nat->Bool}{n:Nat}{R:List Nat}
theorem OrdOk.ne(h:OrdOk L fr to lv n R){i j:Nat}(a:i<j)(b:j<R.length):R[i]'(by omega)≠R[j]:=fun e=>
 (h.at b).2.1 (by rw[<-e,List.mem_iff_getElem];exact⟨i,by rw[jv];omega,by rw[Jd]⟩)
theorem OrdOk.nodup(h:OrdOk L fr to lv n R):R.Nodup:=by
 unfold List.Nodup;rw[List.pairwise_iff_getElem];exact fun i j _ b a=>h.ne a b
theorem OrdOk.full(h:OrdOk L fr to lv n R)(g:R.length=n){k:Nat}(c:k<n):∃i,∃hi:i<R.length,R[i]=k:=by
 refine Classical.byContradiction fun b=>?_;have f:k∉R:=fun d=>b (List.mem_iff_getElem.1 d);have:=qqd (l:=k::R) (l':=List.range n) (List.nodup_cons.2 ⟨f,h.nodup⟩) (fun x a=>by
  rw[List.mem_range];rcases List.mem_cons.1 a with rfl|a
  ·exact c
  ·obtain⟨i,hi,rfl⟩:=List.mem_iff_getElem.1 a;exact(h.at hi).1)
 rw[jH,List.length_range] at this;omega
theorem OrdOk.later(h:OrdOk L fr to lv n R)(p:R.length=n){x a c:Nat}(s:x<L)(r:lv x=true)(m:fr x=(a:Int))(o:to x=(c:Int))(f:c<n){i:Nat}(hi:i<R.length)(b:R[i]=a):∃j,∃k:j<R.length,i<j/\R[j]=c:=by
 obtain⟨j,k,e⟩:=h.full p f;have l:=(h.at k).2.2;rw[e] at l;have:=qni.1 l x s r o;rw[m,qjx,List.mem_iff_getElem] at this;obtain⟨t,g,d⟩:=this;rw[jv] at g;rw[Jd] at d;refine⟨j,k,?_,e⟩;rcases Nat.lt_trichotomy i t with hh|hh|hh
 ·exact absurd (b.trans d.symm) (h.ne hh (by omega))
 ·omega
 ·exact absurd (d.trans b.symm) (h.ne hh hi)
end

def modeB(m:Int):Bool:=(m==0) || (m==1)
theorem qsK{m:Int}(h:modeB m=true):m=0\/m=1:=by unfold modeB at h;simpa using h
theorem qyC{n:Nat}{m:Int}:qmz n m=V (modeB m):=by
 unfold qmz modeB;cases m==0<;>rfl
theorem qpJ{n:Nat}{m:Int}:qhU n m=V (modeB m):=by
 unfold qhU modeB;cases m==0<;>rfl
theorem qvK{j:qaP}{start:Int}{path:List Int}(a:pathB j start path=true){i:Nat}(hi:i<path.length):∃k:Nat,k<lkB j.Ac/\at0 path i=(k:Int):=by
 unfold pathB at a;rw[jf,qas] at a;have:=a.2 i hi;unfold okP at this;rw[jf] at this;obtain⟨b,_,c⟩:=inRange this.1;exact⟨(at0 path i).toNat,c,qgA b⟩
def ofS(m:Int)(s:qe):Int:=bif m==1 then s.Bh else s.Au
theorem qzr{m:Int}{a b:qe}:W64 (ofS m a+ofS m b)=ofS m (plusS a b):=by
 unfold ofS plusS;cases m==1<;>rfl
theorem qsE{n:Nat}{m:Int}{s:qe}:qjF n s m=V (ofS m s):=by
 unfold qjF ofS;cases m==1<;>rfl
theorem qCp{n:Nat}{m:Int}{s:qe}(h:modeB m=true):qnH n s m=V (ofS m s):=by
 rcases qsK h with rfl|rfl<;>rfl
def arS(f:Nat->qe->qe×qe)(ls:List qy)(t:qw)(a0:qe)(path:List Int):Nat->qe
 |0=>a0
 |i+1=>plusS (arS f ls t a0 path i) (f (at0 path i).toNat (gt t.Bf (frN ls (at0 path i).toNat))).1
section
variable{j:qaP}{t:qw}{R:List Nat}{start:Int}{path:List Int}{f:Nat->qe->qe×qe}
theorem qAM(h:qkW j)(m:WkOk j t R)(u:SpansS j.Ac j.Af f)(y:path.length<=1048576)(r:pathB j start path=true)(mode:Int) :
  Ev (fun n=>qiD n (swV j t) start path mode) (ofS mode (arS f (linksL j.Ac) t (srcV (srcO j.Aq start)).2.Ai path path.length)):=by
 have v:=qfx m.tg.bl;have l:=m.tm;have p:=loopF (Lf:=fun n s i=>qdw (swV j t) path mode n s i) (S:=fun i=>ofS mode (arS f (linksL j.Ac) t (srcV (srcO j.Aq start)).2.Ai path i)) (len:=path.length) (fin:=(ofS mode (arS f (linksL j.Ac) t (srcV (srcO j.Aq start)).2.Ai path path.length),(path.length:Int)))
  (fun n=>by simp only[qdw,qk (je _),cond_false])
  (fun i hi X g=>by
   obtain⟨k,a,d⟩:=qvK r hi;obtain⟨e1,c⟩:=qj2 v a;obtain⟨_,x⟩:=u k _ a (l.sl _ c);have o:arS f (linksL j.Ac) t (srcV (srcO j.Aq start)).2.Ai path (i+1)=plusS (arS f (linksL j.Ac) t (srcV (srcO j.Aq start)).2.Ai path i) (f k (gt t.Bf (frN (linksL j.Ac) k))).1:=by
    show plusS _ _=_;rw[d,jr]
   rw[o,<-qzr] at g;simp only[qdw,qi hi,cond_true,qar hi,jd,d,wS i];refine Ev.bind (b:=ofS mode (f k (gt t.Bf (frN (linksL j.Ac) k))).1) ?_ g;unfold qmK swV;simp only[jd,qC a,e1,qC (show frN (linksL j.Ac) k<t.Bf.length by rw[l.s];exact c)];refine Ev.bind x ?_;simp only[qsE];exact .done)
 unfold qiD;refine Ev.bind (qnN h.Aq.len) ?_;simp only[qsE,jd];exact Ev.bind p .done
theorem qAT(h:qkW j)(p:WkOk j t R)(z:SpansI j.Ac j.Af [] f)(C:path.length<=1048575)(y:pathB j start path=true) :
  Ev (fun n=>qjp n (wkV j t R) start path) (pre (arS f (linksL j.Ac) t (srcV (srcO j.Aq start)).2.Ai path) (path.length+1)):=by
 have A:=qfx p.tg.bl;have o:=p.tm;obtain⟨a0,x⟩:∃a,a=(srcV (srcO j.Aq start)).2.Ai:=⟨_,rfl⟩;have v:=loopF (Lf:=fun n (s:List qe×qe) i=>qee path ⟨grB j.Ac j.Bb,j,t,ints R⟩ n s.1 s.2.Au s.2.Bh i) (S:=fun i=>(pre (arS f (linksL j.Ac) t a0 path) (i+1),arS f (linksL j.Ac) t a0 path i)) (len:=path.length) (fin:=(pre (arS f (linksL j.Ac) t a0 path) (path.length+1),(arS f (linksL j.Ac) t a0 path path.length).Au,(arS f (linksL j.Ac) t a0 path path.length).Bh,(path.length:Int)))
  (fun n=>by simp only[qee,qk (je _),cond_false])
  (fun i hi X g=>by
   obtain⟨k,b,m⟩:=qvK y hi;obtain⟨e1,l⟩:=qj2 A b;obtain⟨_,B⟩:=z k _ b (o.sl _ l);have c:arS f (linksL j.Ac) t a0 path (i+1)=plusS (arS f (linksL j.Ac) t a0 path i) (f k (gt t.Bf (frN (linksL j.Ac) k))).1:=by
    show plusS _ _=_;rw[m,jr]
   have r:(viewV j.Ac).links=linksL j.Ac:=rfl;have d:appS (pre (arS f (linksL j.Ac) t a0 path) (i+1)) [arS f (linksL j.Ac) t a0 path (i+1)]=V (pre (arS f (linksL j.Ac) t a0 path) (i+1+1)):=qsg (by omega);simp only[qee,qi hi,cond_true,qar hi,jd,m,grB,r,qC b,e1,qC (show frN (linksL j.Ac) k<t.Bf.length by rw[o.s];exact l),wS i];refine Ev.bind B ?_;generalize (f k (gt t.Bf (frN (linksL j.Ac) k))).1=q at c;generalize arS f (linksL j.Ac) t a0 path i=u at c;simp only[qhy,jd];rw[c] at d g;unfold plusS at d g;rw[d];exact g)
 unfold qjp;show Ev (fun n=>(qdQ n j.Aq start).bind _) _;refine Ev.bind (qqs h.Aq.len) ?_;subst x;exact Ev.bind v .done
theorem qBu(h:qkW j)(d:WkOk j t R)(b:SpansI j.Ac j.Af [] f)(c:path.length<=1048575)(a:pathB j start path=true) :
  Ev (fun n=>qez n (wkV j t R) start path) (arS f (linksL j.Ac) t (srcV (srcO j.Aq start)).2.Ai path path.length):=by
 unfold qez;refine Ev.bind (qAT h d b c a) ?_;rw[qh8 (by omega)];exact .done
end
section
variable{j:qaP}{t:qw}{R:List Nat}{start mode:Int}{path:List Int}{d:Nat->Int->Int×Int}
end

def mn6(x:Int):Int:=if x<1000000 then x else 1000000
theorem qBY{x:Int}:(if 1000000<x then 1000000 else x)=mn6 x:=by unfold mn6;split<;>split<;>omega
def ctS(ls:List qy)(lv:List Bool)(c:List Int)(node:Int)(a:Int)(j:Nat):Int:=(selN (toQ ls lv node) j).foldl (fun v k=>mn6 (W64 (v+gt c (frN ls k)))) a
theorem qsT{ls:List qy}{lv:List Bool}{c:List Int}{node a:Int}{j:Nat}:ctS ls lv c node a (j+1)=bif toQ ls lv node j then mn6 (W64 (ctS ls lv c node a j+gt c (frN ls j))) else ctS ls lv c node a j:=by
 unfold ctS;rw[qj0,List.foldl_append];cases toQ ls lv node j<;>rfl
theorem qwx{α:Type}{xs:List α}{k:Nat}{u v:α}:setS (setS xs (k:Int) u) (k:Int) v=setS xs (k:Int) v:=by
 unfold setS;rw[List.set_set]
def st0(j:qaP)(node:Int):Int:=bif (srcV (srcO j.Aq node)).1 then 1 else 0
theorem qx7{ls:List qy}{lv:List Bool}{c c':List Int}{node a:Int}:∀j,(∀x,x<j->toQ ls lv node x=true->gt c (frN ls x)=gt c' (frN ls x))->ctS ls lv c node a j=ctS ls lv c' node a j:=by
 intro j
 induction j with
 |zero=>intro _;rfl
 |succ j ih=>
  intro h;rw[qsT,qsT,ih fun x b=>h x (by omega)];cases hq:toQ ls lv node j
  ·rfl
  ·simp only[cond_true];rw[h j (by omega) hq]
theorem qw0{j:qaP}{t:qw}{R:List Nat}(h:qkW j)(Q:WkOk j t R):∃c:List Int,c.length=ndB j.Ac/\(∀k,k<ndB j.Ac->gt c k=ctS (linksL j.Ac) (lvJ j.Ac j.Bb) c (k:Int) (st0 j (k:Int)) (lkB j.Ac)) /\
  ∀node,node<ndB j.Ac->Ev (fun n=>(qf7 n (swV j t)).bind fun r4=>(idx r4 (node:Int)).bind fun y1=>V (y1,(0:Int))) (gt c node,0)/\Ev (fun n=>qf2 n (wkV j t R) (node:Int)) (gt c node):=by
 have h1:=Q.tg.bl;have W:=h.Aq.len;have u:=qfx h1;have hll:=u.len;have J:(lvJ j.Ac j.Bb).length=lkB j.Ac:=qpb;have hpl:=qaX (qW (qau h1));have H:=qkD h1;have A:=qoG (v:=viewV j.Ac) hpl;have epl:(viewV j.Ac).places.length=(places j.Ac.Aa).length:=rfl;rw[epl] at A;have hRl:=Q.tg.len;have B:=qut (lv:=lvJ j.Ac j.Bb) u J;have eo:ordR (linksL j.Ac) (lvJ j.Ac j.Bb) (2*(places j.Ac.Aa).length)=(ints R,true):=by unfold ordR;rw[show ordL (linksL j.Ac) (lvJ j.Ac j.Bb) (2*(places j.Ac.Aa).length) (2*(places j.Ac.Aa).length) []=V R from Q.tg.or_]
 rw[eo] at B;have eM:ndB j.Ac=2*(places j.Ac.Aa).length:=rfl;have f:=Q.tg.ord;generalize hM0:ndB j.Ac=M at hRl eM⊢;rw[hM0] at f;rw[<-eM] at H A B;have hM:M<=156:=by omega
 have a4:∀d i c,i+d=R.length->c.length=M->(∀k,k<M->k∉R.take i->gt c k=0)->(∀k,k<M->k∈R.take i->gt c k=ctS (linksL j.Ac) (lvJ j.Ac j.Bb) c (k:Int) (st0 j (k:Int)) (lkB j.Ac))->∃c':List Int,c'.length=M/\(∀k,k<M->k∈R->gt c' k=ctS (linksL j.Ac) (lvJ j.Ac j.Bb) c' (k:Int) (st0 j (k:Int)) (lkB j.Ac)) /\
   Ev (fun n=>qed (swV j t) ⟨j,linksL j.Ac,lvJ j.Ac j.Bb,t⟩ (ints R) n c (i:Int)) (c',(R.length:Int)) /\
   Ev (fun n=>qcg ⟨grB j.Ac j.Bb,j,t,ints R⟩ ⟨V (viewV j.Ac),lvJ j.Ac j.Bb⟩ n c (i:Int)) (c',(R.length:Int)):=by
  intro d
  induction d with
  |zero=>
   intro i c hi hc _ C;obtain rfl:i=R.length:=by omega
   rw[jC] at C;refine⟨c,hc,C,Ev.succ ?_,Ev.succ ?_⟩
   ·simp only[qed,qbX,qk (je _),cond_false];exact .done
   ·simp only[qcg,qbX,qk (je _),cond_false];exact .done
  |succ d ih=>
   intro i c hi hc hz C;have z:i<R.length:=by omega
   obtain⟨k1,k2,k3⟩:=Q.tg.ord.at z;rw[hM0] at k1;have I:=qmB z;have D:R.take (i+1)=R.take i++[R[i]]:=js z;generalize R[i]=k at k1 k2 k3 I D;have hS:=qnN (j:=j) (t:=t) (node:=(k:Int)) W;have hI:=qqs (xs:=j.Aq) (node:=(k:Int)) W;have a3:=hz k k1 k2;have g:k<c.length:=by omega
   obtain⟨o,L⟩:∃o:Int,o=st0 j (k:Int):=⟨_,rfl⟩;have sL:Ev (fun n=>qcu ⟨j,linksL j.Ac,lvJ j.Ac j.Bb,t⟩ c (k:Int) n o 0) (ctS (linksL j.Ac) (lvJ j.Ac j.Bb) c (k:Int) o (lkB j.Ac),(lkB j.Ac:Int)):=by
    have:=loopF (Lf:=fun n s x=>qcu ⟨j,linksL j.Ac,lvJ j.Ac j.Bb,t⟩ c (k:Int) n s x) (S:=ctS (linksL j.Ac) (lvJ j.Ac j.Bb) c (k:Int) o) (len:=lkB j.Ac) (fin:=(ctS (linksL j.Ac) (lvJ j.Ac j.Bb) c (k:Int) o (lkB j.Ac),(lkB j.Ac:Int)))
     (fun n=>by simp only[qcu,qk (je _),cond_false])
     (fun x m X r=>by
      obtain⟨e1,e2⟩:=qj2 u m;rw[<-eM] at e2;rw[qsT] at r;have F:x<(linksL j.Ac).length:=m;simp only[qcu,qi F,cond_true,qC F,qC (show x<(lvJ j.Ac j.Bb).length by rw[J];exact m),jd,e1,qC (show frN (linksL j.Ac) x<c.length by omega),wS x];unfold toQ lvL toL at r;cases hv:gt (lvJ j.Ac j.Bb) x
      ·rw[hv] at r;exact r
      ·rw[hv] at r;cases ht:(gt (linksL j.Ac) x).To==(k:Int)
       ·rw[ht] at r;exact r
       ·rw[ht] at r;exact r)
    exact this
   have nz:∀x,x∈selN (toQ (linksL j.Ac) (lvJ j.Ac j.Bb) (k:Int)) (lkB j.Ac)->x<lkB j.Ac/\frN (linksL j.Ac) x≠k:=fun x m=>by
    obtain⟨x1,N⟩:=qgm.1 m;unfold toQ at N;rw[jf,beq_iff_eq] at N;have:=qni.1 k3 x x1 N.1 N.2;obtain⟨e1,_⟩:=qj2 u x1;rw[show frL (linksL j.Ac) x=(frN (linksL j.Ac) x:Int) from e1,qjx] at this;exact⟨x1,fun e=>k2 (by rw[<-e];exact this)⟩
   have pL:Ev (fun n=>qbH ⟨V (viewV j.Ac),lvJ j.Ac j.Bb⟩ (k:Int) (ints (selN (toQ (linksL j.Ac) (lvJ j.Ac j.Bb) (k:Int)) (lkB j.Ac))) n (setS c (k:Int) o) 0) (setS c (k:Int) (ctS (linksL j.Ac) (lvJ j.Ac j.Bb) c (k:Int) o (lkB j.Ac)),((ints (selN (toQ (linksL j.Ac) (lvJ j.Ac j.Bb) (k:Int)) (lkB j.Ac))).length:Int)):=by
    have hsl:(selN (toQ (linksL j.Ac) (lvJ j.Ac j.Bb) (k:Int)) (lkB j.Ac)).length<=10000:=Jb qm1 hll;have:=(qt4 (τ:=Int) (xs:=selN (toQ (linksL j.Ac) (lvJ j.Ac j.Bb) (k:Int)) (lkB j.Ac)) (Lf:=fun n v x=>qbH ⟨V (viewV j.Ac),lvJ j.Ac j.Bb⟩ (k:Int) (ints (selN (toQ (linksL j.Ac) (lvJ j.Ac j.Bb) (k:Int)) (lkB j.Ac))) n (setS c (k:Int) v) x)
     (step:=fun v x=>mn6 (W64 (v+gt c (frN (linksL j.Ac) x)))) (fin:=fun v=>(setS c (k:Int) v,((ints (selN (toQ (linksL j.Ac) (lvJ j.Ac j.Bb) (k:Int)) (lkB j.Ac))).length:Int))) o (fun _ _=>True) trivial (fun _ _ _ _=>trivial)
     (fun n v=>by simp only[qbH,qbX,qk (je _),cond_false])
     (fun x v m _ X r=>by
      have T:=qmB m;obtain⟨x1,N⟩:=nz _ (jt m);generalize (selN (toQ (linksL j.Ac) (lvJ j.Ac j.Bb) (k:Int)) (lkB j.Ac))[x]=y at T x1 N r;obtain⟨e1,e2⟩:=qj2 u x1;rw[<-eM] at e2;have ev:(viewV j.Ac).links=linksL j.Ac:=rfl;have i1:idx (setS c (k:Int) v) (k:Int)=V v:=by rw[qC (by rw[qdX];exact g),qk9 g,if_pos Z]
      have i2:idx (setS c (k:Int) v) (frN (linksL j.Ac) y:Int)=V (gt c (frN (linksL j.Ac) y)):=by rw[qC (by rw[qdX];omega),qk9 g,if_neg N]
      simp only[qbH,qbX,qi m,cond_true,T,jd,ev,qC x1,e1,i1,i2,qBY,qwx,wS x];exact r)).1
    exact this
   have a5:∀y,y<M->y∈R.take (i+1)->∀x,x<lkB j.Ac->toQ (linksL j.Ac) (lvJ j.Ac j.Bb) (y:Int) x=true->gt c (frN (linksL j.Ac) x)=gt (setS c (k:Int) (ctS (linksL j.Ac) (lvJ j.Ac j.Bb) c (k:Int) o (lkB j.Ac))) (frN (linksL j.Ac) x):=fun y Y a x m P=>by
    rw[qk9 g,if_neg];rw[D,List.mem_append,List.mem_singleton] at a;rcases a with a|rfl
    ·intro e;obtain⟨p,hp,ep⟩:=List.mem_iff_getElem.1 a;rw[jv] at hp;rw[Jd] at ep;have h0:=(f.at (j:=p) (by omega)).2.2;rw[ep] at h0;unfold toQ at P;rw[jf,beq_iff_eq] at P;have:=qni.1 h0 x m P.1 P.2;obtain⟨e1,_⟩:=qj2 u m;rw[show frL (linksL j.Ac) x=(frN (linksL j.Ac) x:Int) from e1,qjx,e] at this;obtain⟨q,hq',eq⟩:=List.mem_iff_getElem.1 this;rw[jv] at hq';rw[Jd] at eq;exact k2 (List.mem_iff_getElem.2 ⟨q,by rw[jv];omega,by rw[Jd];exact eq⟩)
    ·exact(nz x (qgm.2 ⟨m,P⟩)).2
   have sR:=ih (i+1) (setS c (k:Int) (ctS (linksL j.Ac) (lvJ j.Ac j.Bb) c (k:Int) o (lkB j.Ac))) (by omega) (by rw[qdX];exact hc) (fun y Y K=>by
     rw[D] at K;have hne:y≠k:=fun e=>K (jX _ (List.mem_singleton.2 e));rw[qk9 g,if_neg hne];exact hz y Y fun a=>K (jM _ a)) (fun y Y a=>by
     rw[<-qx7 _ (a5 y Y a),qk9 g];split
     ·next e=>rw[e,L]
     ·next e=>
      rw[D,List.mem_append,List.mem_singleton] at a;rcases a with a|a
      ·exact C y Y a
      ·exact absurd a e)
   obtain⟨c',l',d',s',p'⟩:=sR;have ic:idx c (k:Int)=V 0:=by rw[qC g,a3]
   refine⟨c',l',d',Ev.succ ?_,Ev.succ ?_⟩
   ·simp only[qed,qbX,qi z,cond_true,I,jd,ic,wS i];refine Ev.bind hS (Ev.bind (b:=o) (Ev.now ?_) (Ev.bind sL s'));rw[L];unfold st0;cases (srcV (srcO j.Aq (k:Int))).1<;>rfl
   ·simp only[qcg,qbX,qi z,cond_true,I,jd,ic,wS i];refine Ev.bind hI (Ev.bind (b:=setS c (k:Int) o) (Ev.now ?_) ?_)
    ·rw[L];unfold st0;cases (srcV (srcO j.Aq (k:Int))).1
     ·simp only[cond_false];rw[qpi g a3]
     ·rfl
    ·refine Ev.bind (qzm (b:=j.Ac) (lv:=lvJ j.Ac j.Bb) (ps:=places j.Ac.Aa) (lo:=pre (load0 j.Ac) j.Ac.Ah.length) (de:=pre (exactL j.Ac) j.Ac.Ah.length) (ex:=[]) u J) (Ev.bind pL p')
 have O:mkS (M:Int) (0:Int)=V (List.replicate M 0):=qns (by omega);obtain⟨c',l',d',s',p'⟩:=a4 R.length 0 (List.replicate M 0) (by omega) jO (fun k u _=>by rw[qcT (by rw[jO];exact u)];simp) (fun k _ a=>by rw[List.take_zero] at a;cases a);refine⟨c',l',fun k u=>d' k u ?_,fun node hn=>⟨?_,?_⟩⟩
 ·refine Classical.byContradiction fun a=>?_;have A:R.Nodup:=by
   unfold List.Nodup;rw[List.pairwise_iff_getElem];exact fun i j' _ hj hij e=>(f.at hj).2.1 (by rw[<-e,List.mem_iff_getElem];exact⟨i,by rw[jv];omega,by rw[Jd]⟩)
  have:=qqd (l:=k::R) (l':=List.range M) (List.nodup_cons.2 ⟨a,A⟩) (fun x m=>by
   rw[List.mem_range];rcases List.mem_cons.1 m with rfl|m
   ·exact u
   ·obtain⟨i,hi,rfl⟩:=List.mem_iff_getElem.1 m;exact(f.at hi).1)
  rw[jH,List.length_range] at this;omega
 ·have:Ev (fun n=>qf7 n (swV j t)) c':=by
   unfold qf7;show Ev (fun n=>(qbO n j.Ac).bind _) _;refine Ev.bind H ?_;rw[O];simp only[jd];exact Ev.bind H (Ev.bind B (Ev.bind s' .done))
  refine Ev.bind this ?_;rw[qC (by omega)];exact .done
 ·unfold qf2 wkV grB;simp only[A,jd,O];refine Ev.bind p' ?_;show Ev (fun n=>(idx c' (node:Int)).bind _) _;rw[qC (by omega)];exact .done

instance:Inhabited qh:=⟨⟨0,[],0⟩⟩
theorem qxs{α:Type}{Q:Nat->Prop}{f:Nat->Nat->Option α}{v:Nat->α}:∀m,(∀i,i<m->Q i->Ev (f i) (v i))->∃N,∀n,N<=n->∀i,i<m->Q i->f i n=V (v i)
 |0,_=>⟨0,fun _ _ _ h=>absurd h (Nat.not_lt_zero _)⟩
 |m+1,h=>by
  obtain⟨N,b⟩:=qxs m fun i hi=>h i (by omega);by_cases d:Q m
  ·obtain⟨M,g⟩:=h m (by omega) d;refine⟨max N M,fun n c i hi a=>?_⟩;by_cases e:i=m
   ·subst e;exact g n (by omega)
   ·exact b n (by omega) i (by omega) a
  ·refine⟨N,fun n c i hi a=>?_⟩;by_cases e:i=m
   ·subst e;exact absurd a d
   ·exact b n c i (by omega) a
abbrev selB(j:qaP)(k:Nat):List Nat:=selN (toQ (linksL j.Ac) (lvJ j.Ac j.Bb) (k:Int)) (lkB j.Ac)
def srcP(j:qaP)(k:Nat):List qh:=bif (srcV (srcO j.Aq (k:Int))).1 then[⟨(k:Int),[],0⟩] else[]
def snocP(i:Nat)(p:qh):qh:=⟨p.Bm,p.Bd++[(i:Int)],0⟩
def tailP(tl:List Int)(p:qh):qh:=⟨p.Bm,p.Bd++tl.reverse,0⟩
def legP(t:qw)(f:Nat->List qh)(ls:List qy)(i:Nat):List qh:=bif gt t.Be (frN ls i) then(f (frN ls i)).map (snocP i) else[]
def aP(j:qaP)(t:qw):Nat->Nat->List qh
 |0,_=>[]
 |d+1,k=>srcP j k++(selB j k).flatMap (legP t (aP j t d) (linksL j.Ac))
theorem qp4{α β:Type}{xs:List α}{x:α}{f:α->List β}:(xs++[x]).flatMap f=xs.flatMap f++f x:=by simp
theorem qrJ{α β:Type}{xs:List α}{f:α->List β}(j:Nat):((xs.take j).flatMap f).length<=(xs.flatMap f).length:=by
 have h:xs.flatMap f=(xs.take j).flatMap f++(xs.drop j).flatMap f:=by rw[<-Jl,jW]
 rw[h,jg];omega
theorem quI{β:Type}{q:Nat->Bool}{m:Nat}{f:Nat->List β}{i:Nat}(hi:i<=m):((selN q i).flatMap f).length<=((selN q m).flatMap f).length:=by
 induction m with
 |zero=>
  obtain rfl:i=0:=by omega
  exact je _
 |succ m ih=>
  by_cases e:i=m+1
  ·subst e;exact je _
  ·have:=ih (by omega);rw[qj0,Jl,jg];omega
theorem qs8{j:qaP}{t:qw}:∀d k p,p∈aP j t d k->p.Bd.length+1<=d
 |0,_,p,h=>by simp[aP] at h
 |d+1,k,p,h=>by
  simp only[aP,List.mem_append] at h;rcases h with h|h
  ·unfold srcP at h;cases hs:(srcV (srcO j.Aq (k:Int))).1<;>rw[hs] at h
   ·simp at h
   ·simp at h;subst h;simp
  ·obtain⟨x,_,a⟩:=List.mem_flatMap.1 h;unfold legP at a;cases hr:gt t.Be (frN (linksL j.Ac) x)<;>rw[hr] at a
   ·simp at a
   ·simp only[cond_true] at a;obtain⟨c,b,rfl⟩:=List.mem_map.1 a;have:=qs8 d _ c b;show(c.Bd++[(x:Int)]).length+1<=d+1;rw[jg,jj];omega
theorem qAN{i:Nat}{r4 x3:List qh}(h:r4.length<=1000000)(k:x3.length<=1000000)(d:∀p,p∈r4->p.Bd.length<=1000000):Ev (fun n=>qdW (i:Int) r4 n x3 0) (x3++r4.map (snocP i),(r4.length:Int)):=by
 have:=loopF (Lf:=fun n s x=>qdW (i:Int) r4 n s x) (S:=fun q=>x3++(r4.take q).map (snocP i)) (len:=r4.length) (fin:=(x3++r4.map (snocP i),(r4.length:Int)))
  (fun n=>by simp only[qdW,qk (je _),cond_false,jC])
  (fun q a X c=>by
   have f:gt r4 q∈r4:=by rw[qcT a];exact jt a
   have g:=d _ f;have e0:appS ([]:List Int) (gt r4 q).Bd=V (gt r4 q).Bd:=by rw[qbl (by rw[List.length_nil];omega),Jm]
   have e1:appS (gt r4 q).Bd [(i:Int)]=V ((gt r4 q).Bd++[(i:Int)]):=qbl (by rw[jj];omega);have b:appS (x3++(r4.take q).map (snocP i)) [(⟨(gt r4 q).Bm,(gt r4 q).Bd++[(i:Int)],0⟩:qh)]=V (x3++(r4.take (q+1)).map (snocP i)):=by
    rw[qbl (by rw[jg,jq,jv,jj];omega),js a,jK,<-jp,qcT a]
    rfl
   simp only[qdW,qi a,cond_true,qC a,jd,e0,e1,b,wS q];exact c)
 simpa using this
theorem qAy{j:qaP}{t:qw}{k:Nat}{f:Nat->List qh}{x1:List qh}(J:blockB j.Ac=true)(S:TmOk t (ndB j.Ac))(B:x1.length+((selB j k).flatMap (legP t f (linksL j.Ac))).length<=1000000)(C:∀x,x∈selB j k->(f (frN (linksL j.Ac) x)).length<=1000000/\∀p,p∈f (frN (linksL j.Ac) x)->p.Bd.length<=1000000) :
  ∃N,∀n,N<=n->∀a:Option Tl20Work->Int->Option (List qh),(∀x,x∈selB j k->gt t.Be (frN (linksL j.Ac) x)=true->a (swV j t) (frN (linksL j.Ac) x:Int)=V (f (frN (linksL j.Ac) x))) ->
   qbw a (swV j t) (k:Int) n x1 0=V (x1++(selB j k).flatMap (legP t f (linksL j.Ac)),(lkB j.Ac:Int)):=by
 have D:=qfx J;have O:=D.len;have u:(lvJ j.Ac j.Bb).length=lkB j.Ac:=qpb;obtain⟨q,b⟩:∃q,q=toQ (linksL j.Ac) (lvJ j.Ac j.Bb) (k:Int):=⟨_,rfl⟩;have h:=down (P:=fun i=>∃N,∀n,N<=n->∀a:Option Tl20Work->Int->Option (List qh),(∀x,x∈selB j k->gt t.Be (frN (linksL j.Ac) x)=true->a (swV j t) (frN (linksL j.Ac) x:Int)=V (f (frN (linksL j.Ac) x))) ->
   qbw a (swV j t) (k:Int) n (x1++(selN q i).flatMap (legP t f (linksL j.Ac))) (i:Int)=V (x1++(selN q (lkB j.Ac)).flatMap (legP t f (linksL j.Ac)),(lkB j.Ac:Int))) (lkB j.Ac)
  ⟨1,fun n F a _=>by
   obtain⟨m,rfl⟩:∃m,n=m+1:=⟨n-1,by omega⟩;unfold swV;simp only[qbw,jd,qk (je _),cond_false]⟩
  (fun i hi T=>by
   obtain⟨N,A⟩:=T;obtain⟨e1,H⟩:=qj2 D hi;have s:idx t.Be (frN (linksL j.Ac) i:Int)=V (gt t.Be (frN (linksL j.Ac) i)):=qC (by rw[S.r];exact H);have g:=qj0 (q:=q) (j:=i);have L:=quI (q:=q) (f:=legP t f (linksL j.Ac)) (show i<=lkB j.Ac by omega);have r:i<(linksL j.Ac).length:=hi;have l:(selN q (i+1)).flatMap (legP t f (linksL j.Ac))=(selN q i).flatMap (legP t f (linksL j.Ac))->∀m a,N<=m->(∀x,x∈selB j k->gt t.Be (frN (linksL j.Ac) x)=true->a (swV j t) (frN (linksL j.Ac) x:Int)=V (f (frN (linksL j.Ac) x))) ->
     qbw a (swV j t) (k:Int) m (x1++(selN q i).flatMap (legP t f (linksL j.Ac))) ((i+1:Nat):Int)=V (x1++(selN q (lkB j.Ac)).flatMap (legP t f (linksL j.Ac)),(lkB j.Ac:Int)):=fun e m a Q c=>by
    have:=A m Q a c;rw[e] at this;exact this
   have d:∀m a x,qbw a (swV j t) (k:Int) (m+1) x (i:Int) =
     (bif !(q i&&gt t.Be (frN (linksL j.Ac) i)) then qbw a (swV j t) (k:Int) m x ((i+1:Nat):Int) else
      (a (swV j t) (frN (linksL j.Ac) i:Int)).bind fun r4=>(qdW (i:Int) r4 m x 0).bind fun(x3,_)=>qbw a (swV j t) (k:Int) m x3 ((i+1:Nat):Int)):=fun m a x=>by
    rw[b];unfold toQ lvL toL;unfold swV;simp only[qbw,jd,qi r,cond_true,qC r,qC (show i<(lvJ j.Ac j.Bb).length by rw[u];exact hi),e1,s,wS i];cases gt (lvJ j.Ac j.Bb) i
    ·rfl
    ·simp only[Ji,cond_false,bne,jG];cases (gt (linksL j.Ac) i).To==(k:Int)
     ·rfl
     ·cases gt t.Be (frN (linksL j.Ac) i)<;>rfl
   cases hqi:q i&&gt t.Be (frN (linksL j.Ac) i)
   ·refine⟨N+1,fun n F a c=>?_⟩;obtain⟨m,rfl⟩:∃m,n=m+1:=⟨n-1,by omega⟩;rw[d,hqi];refine l ?_ m a (by omega) c;rw[g,Jl];cases hqq:q i
    ·simp
    ·rw[hqq] at hqi;simp only[jG] at hqi;simp[legP,hqi]
   ·rw[jf] at hqi;have I:(selN q (i+1)).flatMap (legP t f (linksL j.Ac))=(selN q i).flatMap (legP t f (linksL j.Ac))++(f (frN (linksL j.Ac) i)).map (snocP i):=by
     rw[g,hqi.1,Jl];simp[legP,hqi.2]
    have v:(x1++(selN q i).flatMap (legP t f (linksL j.Ac))).length<=1000000:=by
     rw[jg];unfold selB at B;rw[<-b] at B;omega
    obtain⟨M,K⟩:=qAN (i:=i) (r4:=f (frN (linksL j.Ac) i)) (x3:=x1++(selN q i).flatMap (legP t f (linksL j.Ac))) (C i (qgm.2 ⟨hi,by rw[<-b];exact hqi.1⟩)).1 v (C i (qgm.2 ⟨hi,by rw[<-b];exact hqi.1⟩)).2;refine⟨max N M+1,fun n F a c=>?_⟩;obtain⟨m,rfl⟩:∃m,n=m+1:=⟨n-1,by omega⟩;have R:=c i (qgm.2 ⟨hi,by rw[<-b];exact hqi.1⟩) hqi.2;have y:=K m (by omega);have z:=A m (by omega) a c;rw[I,<-jp] at z;simp only at y;rw[d,hqi.1,hqi.2,R];simp only[Bool.and_self,Ji,cond_false,jd];rw[y];exact z)
 rw[b] at h;simpa [selN] using h
def legT(t:qw)(f:Nat->List qh)(ls:List qy)(tl:List Int)(i:Nat):List qh:=bif gt t.Be (frN ls i) then(f (frN ls i)).map (tailP (tl++[(i:Int)])) else[]
theorem qBi{t:qw}{f:Nat->List qh}{ls:List qy}{tl:List Int}{i:Nat}:legT t f ls tl i=(legP t f ls i).map (tailP tl):=by
 unfold legT legP;cases gt t.Be (frN ls i)
 ·rfl
 ·simp only[cond_true,Jp];refine List.map_congr_left fun p _=>?_;simp[tailP,snocP]
theorem qAC{j:qaP}{t:qw}{R:List Nat}{k:Nat}{f:Nat->List qh}{x1:List qh}{tl:List Int}(C:blockB j.Ac=true)(H:TmOk t (ndB j.Ac))(I:tl.length<=1000000) :
  ∃N,∀n,N<=n->∀b:Option Twork->Int->List Int->List qh->Option (List qh),(∀i,∀hi:i<(selB j k).length,gt t.Be (frN (linksL j.Ac) (selB j k)[i])=true->b (wkV j t R) (frN (linksL j.Ac) (selB j k)[i]:Int) (tl++[((selB j k)[i]:Int)]) (x1++((selB j k).take i).flatMap (legT t f (linksL j.Ac) tl))=V (x1++((selB j k).take (i+1)).flatMap (legT t f (linksL j.Ac) tl))) ->
   qaQ (wkV j t R) tl b ⟨grB j.Ac j.Bb,j,t,ints R⟩ (ints (selB j k)) n x1 0=V (x1++(selB j k).flatMap (legT t f (linksL j.Ac) tl),((selB j k).length:Int)):=by
 have v:=qfx C;have s:=v.len;have u:(selB j k).length<=10000:=Jb qm1 s;have a:∀x,x∈selB j k->x<lkB j.Ac:=fun x J=>(qgm.1 J).1;generalize selB j k=sl at u a;have p:=down (P:=fun i=>∃N,∀n,N<=n->∀b:Option Twork->Int->List Int->List qh->Option (List qh),(∀i,∀hi:i<sl.length,gt t.Be (frN (linksL j.Ac) sl[i])=true->b (wkV j t R) (frN (linksL j.Ac) sl[i]:Int) (tl++[(sl[i]:Int)]) (x1++(sl.take i).flatMap (legT t f (linksL j.Ac) tl))=V (x1++(sl.take (i+1)).flatMap (legT t f (linksL j.Ac) tl))) ->
   qaQ (wkV j t R) tl b ⟨grB j.Ac j.Bb,j,t,ints R⟩ (ints sl) n (x1++(sl.take i).flatMap (legT t f (linksL j.Ac) tl)) (i:Int)=V (x1++sl.flatMap (legT t f (linksL j.Ac) tl),(sl.length:Int))) sl.length
  ⟨1,fun n F b _=>by
   obtain⟨m,rfl⟩:∃m,n=m+1:=⟨n-1,by omega⟩;simp only[qaQ,qbX,qk (je _),cond_false,jC]⟩
  (fun i hi K=>by
   obtain⟨N,D⟩:=K;have o:=qmB hi;have d:=a _ (jt hi);have l:sl.take (i+1)=sl.take i++[sl[i]]:=js hi;refine⟨N+1,fun n F b h=>?_⟩;obtain⟨m,rfl⟩:∃m,n=m+1:=⟨n-1,by omega⟩;have c:=D m (by omega) b h;have g:=h i hi;generalize sl[i]=y at o d l g;obtain⟨e1,z⟩:=qj2 v d;have L:(viewV j.Ac).links=linksL j.Ac:=rfl;have r:idx t.Be (frN (linksL j.Ac) y:Int)=V (gt t.Be (frN (linksL j.Ac) y)):=qC (by rw[H.r];exact z);have A:appS tl [(y:Int)]=V (tl++[(y:Int)]):=qbl (by rw[jj];omega);have B:appS ([]:List Int) tl=V tl:=by rw[qbl (by rw[List.length_nil];omega),Jm]
   have i1:idx (viewV j.Ac).links (y:Int)=V (gt (linksL j.Ac) y):=qC d;simp only[qaQ,qbX,qi hi,cond_true,o,jd,grB,i1,e1,r,qdx,B,A,wS i];cases hr:gt t.Be (frN (linksL j.Ac) y)
   ·simp only[cond_false];rw[l,Jl] at c;simp only[List.flatMap_cons,List.flatMap_nil,Ja] at c;unfold legT at c;rw[hr] at c;simp only[cond_false,Ja] at c;exact c
   ·simp only[cond_true];rw[g hr];simp only[jd];exact c)
 simpa using p

section
variable{j:qaP}{t:qw}{R:List Nat}{c:List Int}
theorem qnY(c:WkOk j t R){i:Nat}(hi:i<R.length){x:Nat}(d:x∈selB j R[i]):x<lkB j.Ac/\∃i',∃hi':i'<R.length,i'<i/\R[i']=frN (linksL j.Ac) x:=by
 obtain⟨x1,a⟩:=qgm.1 d;obtain⟨f,g,k3⟩:=c.tg.ord.at hi;unfold toQ at a;rw[jf,beq_iff_eq] at a;have:=qni.1 k3 x x1 a.1 a.2;obtain⟨e1,_⟩:=qj2 (qfx c.tg.bl) x1;rw[show frL (linksL j.Ac) x=(frN (linksL j.Ac) x:Int) from e1,qjx] at this;obtain⟨q,b,eq⟩:=List.mem_iff_getElem.1 this;rw[jv] at b;rw[Jd] at eq;exact⟨x1,q,by omega,by omega,eq⟩
theorem qvz{g:Nat->Int}:∀(l:List Nat) (a:Int),(∀x,x∈l->0<=g x/\g x<=1000000)->0<=a->a<=1000000 ->
  a<=l.foldl (fun v k=>mn6 (W64 (v+g k))) a/\l.foldl (fun v k=>mn6 (W64 (v+g k))) a<=1000000/\(l.foldl (fun v k=>mn6 (W64 (v+g k))) a<=300->l.foldl (fun v k=>mn6 (W64 (v+g k))) a=a+(l.map g).sum)
 | [],a,_,_,h1=>by simpa using h1
 |x::l,a,hg,h0,h1=>by
  obtain⟨n,o⟩:=hg x (jx ..);have c:W64 (a+g x)=a+g x:=qK (by omega) (by omega);have b:a<=mn6 (W64 (a+g x))/\mn6 (W64 (a+g x))<=1000000/\(mn6 (W64 (a+g x))<=300->mn6 (W64 (a+g x))=a+g x):=by
   rw[c];unfold mn6;split<;>refine⟨by omega,by omega,fun _=>by omega⟩
  obtain⟨p,f,i⟩:=qvz l (mn6 (W64 (a+g x))) (fun y d=>hg y (jo _ d)) (by omega) b.2.1;simp only[List.foldl_cons,jT,List.sum_cons];refine⟨by omega,f,fun h=>?_⟩;have e1:=i h;have m:=b.2.2 (by omega);omega
theorem qzE{g:Nat->Int}:∀(l:List Nat),(∀x,x∈l->0<=g x)->0<=(l.map g).sum/\∀x,x∈l->g x<=(l.map g).sum
 | [],_=>⟨by simp,fun x h=>by cases h⟩
 |y::l,hg=>by
  obtain⟨a,b⟩:=qzE l fun x h=>hg x (jo _ h);have:=hg y (jx ..);simp only[jT,List.sum_cons];refine⟨by omega,fun x c=>?_⟩;rcases List.mem_cons.1 c with rfl|c
  ·omega
  ·have:=b x c;omega
theorem qxG{β:Type}{g:Nat->Int}{f:Nat->List β}:∀(l:List Nat),(∀x,x∈l->((f x).length:Int)<=g x)->((l.flatMap f).length:Int)<=(l.map g).sum
 | [],_=>by simp
 |y::l,h=>by
  have a:=qxG l fun x c=>h x (jo _ c);have b:=h y (jx ..);simp only[List.flatMap_cons,jg,jT,List.sum_cons];omega
def CtOk(j:qaP)(c:List Int):Prop:=∀k,k<ndB j.Ac->gt c k=ctS (linksL j.Ac) (lvJ j.Ac j.Bb) c (k:Int) (st0 j (k:Int)) (lkB j.Ac)
theorem qzW{k:Int}:0<=st0 j k/\st0 j k<=1:=by
 unfold st0;cases (srcV (srcO j.Aq k)).1<;>simp
theorem qxF{k:Nat}:((srcP j k).length:Int)=st0 j (k:Int):=by
 unfold st0 srcP;cases (srcV (srcO j.Aq (k:Int))).1<;>simp
theorem qxY(d:WkOk j t R)(f:CtOk j c):∀m i,∀hi:i<R.length,i<m->0<=gt c R[i]/\gt c R[i]<=1000000/\(gt c R[i]<=300->gt c R[i]=st0 j (R[i]:Int)+((selB j R[i]).map fun x=>gt c (frN (linksL j.Ac) x)).sum/\∀x,x∈selB j R[i]->gt c (frN (linksL j.Ac) x)<=300)
 |0,_,_,h=>absurd h (Nat.not_lt_zero _)
 |m+1,i,hi,h=>by
  have s:R[i]<ndB j.Ac:=(d.tg.ord.at hi).1;have l:∀x,x∈selB j R[i]->0<=gt c (frN (linksL j.Ac) x)/\gt c (frN (linksL j.Ac) x)<=1000000:=fun x a=>by
   obtain⟨_,y,b,u,e⟩:=qnY d hi a;have:=qxY d f m y b (by omega);rw[e] at this;exact⟨this.1,this.2.1⟩
  have e:=f R[i] s;have v:=qzW (j:=j) (k:=(R[i]:Int));obtain⟨z,n,o⟩:=qvz (g:=fun x=>gt c (frN (linksL j.Ac) x)) (selB j R[i]) (st0 j (R[i]:Int)) l v.1 (by omega);unfold ctS at e;rw[<-e] at z n o;refine⟨by omega,n,fun r=>?_⟩;have p:=o r;obtain⟨B,A⟩:=qzE (g:=fun x=>gt c (frN (linksL j.Ac) x)) (selB j R[i]) fun x a=>(l x a).1;exact⟨p,fun x a=>by have:=A x a;omega⟩
theorem qu5(m:WkOk j t R)(n:CtOk j c):∀d i,∀hi:i<R.length,i<d->gt c R[i]<=300->((aP j t d R[i]).length:Int)<=gt c R[i]
 |0,_,_,h,_=>absurd h (Nat.not_lt_zero _)
 |d+1,i,hi,h,h3=>by
  obtain⟨e,o⟩:=(qxY m n (i+1) i hi (by omega)).2.2 h3;have:=qxG (g:=fun x=>gt c (frN (linksL j.Ac) x)) (f:=legP t (aP j t d) (linksL j.Ac)) (selB j R[i]) fun x s=>by
   obtain⟨_,p,l,u,r⟩:=qnY m hi s;have a:=qu5 m n d p l (by omega) (by rw[r];exact o x s);have b:=(qxY m n (p+1) p l (by omega)).1;rw[r] at a b;unfold legP;cases gt t.Be (frN (linksL j.Ac) x)
   ·simpa using b
   ·simpa using a
  simp only[aP,jg];have:=qxF (j:=j) (k:=R[i]);omega
theorem qzl(h:qkW j)(u:WkOk j t R)(H:CtOk j c):∀d i,∀hi:i<R.length,i<d->d<=1000->gt c R[i]<=300 ->
  Ev (fun n=>qcU n (swV j t) (R[i]:Int)) (aP j t d R[i]) /\
  ∀tl g,tl.length+i<=1000->g.length+(aP j t d R[i]).length<=1000->Ev (fun n=>qaG n (wkV j t R) (R[i]:Int) tl g) (g++(aP j t d R[i]).map (tailP tl))
 |0,_,_,h,_,_=>absurd h (Nat.not_lt_zero _)
 |d+1,i,hi,hid,hd,h3=>by
  have K:=u.tg.bl;have Y:=qfx K;have T:(lvJ j.Ac j.Bb).length=lkB j.Ac:=qpb;have y:=((qxY u H (i+1) i hi (by omega)).2.2 h3).2;have C:=qu5 u H (d+1) i hi hid h3;have I:∀x,x∈selB j R[i]->∃r,∃m:r<R.length,r<i/\R[r]=frN (linksL j.Ac) x/\(aP j t d (frN (linksL j.Ac) x)).length<=300 /\
    Ev (fun n=>qcU n (swV j t) (frN (linksL j.Ac) x:Int)) (aP j t d (frN (linksL j.Ac) x)) /\
    ∀tl g,tl.length+r<=1000->g.length+(aP j t d (frN (linksL j.Ac) x)).length<=1000->Ev (fun n=>qaG n (wkV j t R) (frN (linksL j.Ac) x:Int) tl g) (g++(aP j t d (frN (linksL j.Ac) x)).map (tailP tl)):=fun x o=>by
   obtain⟨_,r,m,D,e⟩:=qnY u hi o;have a:=qzl h u H d r m (by omega) (by omega) (by rw[e];exact y x o);have b:=qu5 u H d r m (by omega) (by rw[e];exact y x o);have b3:=y x o;rw[e] at a b;exact⟨r,m,D,e,by omega,a⟩
  have J:aP j t (d+1) R[i]=srcP j R[i]++(selB j R[i]).flatMap (legP t (aP j t d) (linksL j.Ac)):=rfl;rw[J,jg] at C;generalize R[i]=k at I C J h3;rw[J];constructor
  ·refine Ev.succ ?_;simp only[qcU];refine Ev.bind (qnN h.Aq.len) (Ev.bind (b:=srcP j k) (Ev.now ?_) ?_)
   ·unfold srcP;cases (srcV (srcO j.Aq (k:Int))).1
    ·rfl
    ·simp only[cond_true];rw[qbl (by simp)]
     rfl
   ·obtain⟨N,O⟩:=qAy (k:=k) (f:=aP j t d) (x1:=srcP j k) K u.tm (by omega) (fun x o=>by
     obtain⟨_,_,_,_,hl,_⟩:=I x o;refine⟨by omega,fun p hp=>?_⟩;have:=qs8 d _ p hp;omega)
    obtain⟨M,L⟩:=qxs (Q:=fun x=>x∈selB j k) (f:=fun x n=>qcU n (swV j t) (frN (linksL j.Ac) x:Int)) (v:=fun x=>aP j t d (frN (linksL j.Ac) x)) (lkB j.Ac) fun x _ o=>by
     obtain⟨_,_,_,_,_,hs,_⟩:=I x o;exact hs
    refine⟨max N M,fun n hn=>?_⟩;show(qbw (qcU n) (swV j t) (k:Int) n (srcP j k) 0).bind _=_;rw[O n (by omega) _ fun x o _=>L n (by omega) x (qgm.1 o).1 o]
    rfl
  ·intro tl g htl A;rw[jg] at A;have z:∀l:List Nat,l.flatMap (legT t (aP j t d) (linksL j.Ac) tl)=(l.flatMap (legP t (aP j t d) (linksL j.Ac))).map (tailP tl):=fun l=>by
    rw[List.map_flatMap];exact congrArg (fun f=>l.flatMap f) (funext fun x=>qBi)
   refine Ev.succ ?_;simp only[qaG];refine Ev.bindN (x:=wkV j t R) (b:=⟨grB j.Ac j.Bb,j,t,ints R⟩) Z ?_;show Ev (fun n=>(qdQ n j.Aq (k:Int)).bind _) _;refine Ev.bind (qqs h.Aq.len) (Ev.bind (b:=g++(srcP j k).map (tailP tl)) ?_ ?_)
   ·have hsl:=qxF (j:=j) (k:=k);have hs1:=qzW (j:=j) (k:=(k:Int));unfold srcP;cases (srcV (srcO j.Aq (k:Int))).1
    ·refine Ev.ff Z (Ev.now ?_);simp
    ·refine Ev.tt Z (Ev.bind (b:=tl) (Ev.now ?_) (Ev.bind (b:=tl.reverse) (Ev.now Z) (Ev.bind (b:=g++[(⟨(k:Int),tl.reverse,0⟩:qh)]) (Ev.now ?_) .done)))
     ·show appS [] tl=V tl;rw[qbl (by simp;omega),Jm]
     ·exact qbl (by rw[jj];omega)
   ·refine Ev.bind (qzm (b:=j.Ac) (lv:=lvJ j.Ac j.Bb) (ps:=places j.Ac.Aa) (lo:=pre (load0 j.Ac) j.Ac.Ah.length) (de:=pre (exactL j.Ac) j.Ac.Ah.length) (ex:=[]) (node:=(k:Int)) Y T) ?_;obtain⟨N,O⟩:=qAC (R:=R) (k:=k) (f:=aP j t d) (x1:=g++(srcP j k).map (tailP tl)) (tl:=tl) K u.tm (by omega);obtain⟨M,L⟩:=qxs (Q:=fun q=>∃s:q<(selB j k).length,gt t.Be (frN (linksL j.Ac) (selB j k)[q])=true)
     (f:=fun q n=>qaG n (wkV j t R) (frN (linksL j.Ac) (gt (selB j k) q):Int) (tl++[((gt (selB j k) q:Nat):Int)]) (g++(srcP j k).map (tailP tl)++((selB j k).take q).flatMap (legT t (aP j t d) (linksL j.Ac) tl)))
     (v:=fun q=>g++(srcP j k).map (tailP tl)++((selB j k).take (q+1)).flatMap (legT t (aP j t d) (linksL j.Ac) tl)) (selB j k).length fun q hq0 ⟨s,W⟩=>by
      have F:(selB j k).take (q+1)=(selB j k).take q++[(selB j k)[q]]:=js s;have B:=qrJ (xs:=selB j k) (f:=legT t (aP j t d) (linksL j.Ac) tl) (q+1);rw[z (selB j k),jq,F,qp4,jg] at B;have hm:=jt s;have e0:=qcT s;obtain⟨r,m,D,e,hl,_,S⟩:=I _ hm;have X:legT t (aP j t d) (linksL j.Ac) tl (selB j k)[q]=(aP j t d (frN (linksL j.Ac) (selB j k)[q])).map (tailP (tl++[((selB j k)[q]:Int)])):=by unfold legT;rw[W];rfl
      rw[X,jq] at B;have:=S (tl++[((selB j k)[q]:Int)]) (g++(srcP j k).map (tailP tl)++((selB j k).take q).flatMap (legT t (aP j t d) (linksL j.Ac) tl)) (by rw[jg,jj];omega) (by rw[jg,jg,jq];omega);rw[F,qp4,X,<-jp,e0];exact this
    refine⟨max N M,fun n hn=>?_⟩;have P:=O n (by omega) (qaG n) fun q s W=>by
     have:=L n (by omega) q s ⟨s,W⟩;rw[qcT s] at this;exact this
    show(qaQ (wkV j t R) tl (qaG n) ⟨grB j.Ac j.Bb,j,t,ints R⟩ (ints (selB j k)) n (g++(srcP j k).map (tailP tl)) 0).bind _=_;rw[P,z,jp,<-jK]
    rfl
theorem qxQ{xs a:List Int}{q:Nat}(h:q<xs.length):at0 (xs++a) q=at0 xs q:=by
 unfold at0;rw[jF,jF,jy h]
theorem qvA{xs:List Int}{y:Int}:at0 (xs++[y]) xs.length=y:=by
 unfold at0;rw[jF,jB (je _),Nat.sub_self]
 rfl
theorem qxO{ls:List qy}{start:Int}{a b:List Int}:∀q,q<=a.length->atP ls start (a++b) q=atP ls start a q
 |0,_=>rfl
 |q+1,h=>by
  show(gt ls (at0 (a++b) q).toNat).To=(gt ls (at0 a q).toNat).To;rw[qxQ (by omega)]
theorem qyw(h:WkOk j t R){k x:Nat}{start:Int}{a:List Int}(c:pathB j start a=true)(f:endB j start a=(frN (linksL j.Ac) x:Int))(i:x∈selB j k) :
  pathB j start (a++[(x:Int)])=true/\endB j start (a++[(x:Int)])=(k:Int):=by
 obtain⟨x1,d⟩:=qgm.1 i;unfold toQ lvL toL at d;rw[jf,beq_iff_eq] at d;obtain⟨e1,_⟩:=qj2 (qfx h.tg.bl) x1;unfold pathB at c⊢;rw[jf,qas] at c;constructor
 ·rw[jf,qas];refine⟨c.1,fun q g=>?_⟩;rw[jg,jj] at g;by_cases b:q<a.length
  ·have:=c.2 q b;unfold okP at this⊢;rw[qxQ b,qxO q (by omega)];exact this
  ·obtain rfl:q=a.length:=by omega
   unfold okP;rw[qvA,qxO _ (je _),jr,d.1,e1];unfold endB at f;rw[f];have:inI (x:Int) 0 (((linksL j.Ac).length:Int)-1)=true:=qbe.2 ⟨by omega,by have:x<(linksL j.Ac).length:=x1;omega⟩;rw[this];simp
 ·unfold endB;rw[jg,jj];show(gt (linksL j.Ac) (at0 (a++[(x:Int)]) a.length).toNat).To=(k:Int);rw[qvA,jr];exact d.2
theorem qxL(i:WkOk j t R):∀d k p,p∈aP j t d k->pathB j p.Bm p.Bd=true/\endB j p.Bm p.Bd=(k:Int)/\p.Ai=0
 |0,_,p,h=>by simp[aP] at h
 |d+1,k,p,h=>by
  simp only[aP,List.mem_append] at h;rcases h with h|h
  ·unfold srcP at h;cases hs:(srcV (srcO j.Aq (k:Int))).1<;>rw[hs] at h
   ·simp at h
   ·simp only[cond_true,List.mem_singleton] at h;subst h;refine⟨?_,rfl,rfl⟩;unfold pathB;rw[hs]
    rfl
  ·obtain⟨x,g,c⟩:=List.mem_flatMap.1 h;unfold legP at c;cases hr:gt t.Be (frN (linksL j.Ac) x)<;>rw[hr] at c
   ·simp at c
   ·simp only[cond_true] at c;obtain⟨l,f,rfl⟩:=List.mem_map.1 c;obtain⟨a,b,_⟩:=qxL i d _ l f;have:=qyw i a b g;exact⟨this.1,this.2,rfl⟩
end
end Go.Fw


namespace Go.Fw
open Go Go.Sort
set_option maxRecDepth 100000
theorem qnc{n:Nat}{x y:Int}:qcv n x y=V (ordI x y):=by
 unfold qcv qgb ordI;simp only[bne_self_eq_false,jd,cond_false];by_cases a:x<y
 ·simp[a]
 ·by_cases b:y<x<;>simp[a,b]
theorem qz9{xs b:List Int}(v:xs.length<=1000000):Ev (fun n=>qd2 n xs b) (cmpLk xs b):=by
 have k:∀d i,i+d=xs.length->i<=b.length->∃o,Ev (fun n=>qaB xs b n (i:Int)) o /\
   match o with|.ret r=>r=cmpLk (xs.drop i) (b.drop i)|.nxt _=>cmpLk (xs.drop i) (b.drop i)=if xs.length<b.length then -1 else 0:=by
  intro d
  induction d with
  |zero=>
   intro i hi u;obtain rfl:i=xs.length:=by omega
   refine⟨.nxt (xs.length:Int),Ev.succ ?_,?_⟩
   ·simp only[qaB,qk (je _),cond_false];exact .done
   ·simp only[List.drop_length];have f:(b.drop xs.length).length=b.length-xs.length:=Jn;cases h:b.drop xs.length with
    |nil=>rw[h] at f;simp at f;rw[if_neg (by omega)];rfl
    |cons a l=>rw[h] at f;simp at f;rw[if_pos (by omega)];rfl
  |succ d ih=>
   intro i hi u;have c:i<xs.length:=by omega
   have ex:xs.drop i=xs[i]::xs.drop (i+1):=jz c;by_cases p:i<b.length
   ·have t:b.drop i=b[i]::b.drop (i+1):=jz p;by_cases m:ordI xs[i] b[i]=0
    ·obtain⟨o,s,g⟩:=ih (i+1) (by omega) (by omega);refine⟨o,Ev.succ ?_,?_⟩
     ·simp only[qaB,qi c,cond_true,qcX c,jd,wS i];refine Ev.ff (decide_eq_false (by omega)) (Ev.bindN (qcX p) (Ev.bind (.now (qnc (n:=0))) (Ev.ff (by rw[m];rfl) s)))
     ·rw[ex,t];simp only[cmpLk,m,if_true];exact g
    ·refine⟨.ret (ordI xs[i] b[i]),Ev.succ ?_,?_⟩
     ·simp only[qaB,qi c,cond_true,qcX c,jd];exact Ev.ff (decide_eq_false (by omega)) (Ev.bindN (qcX p) (Ev.bind (.now (qnc (n:=0))) (Ev.tt (by simpa using m) .done)))
     ·rw[ex,t];simp only[cmpLk,m,if_false]
   ·refine⟨.ret 1,Ev.succ ?_,?_⟩
    ·simp only[qaB,qi c,cond_true,qcX c,jd];exact Ev.tt (decide_eq_true (by omega)) .done
    ·rw[ex,show b.drop i=[] from List.drop_of_length_le (by omega)]
     rfl
 obtain⟨o,s,g⟩:=k xs.length 0 (by omega) (Nat.zero_le _);unfold qd2;refine Ev.bind s ?_;cases o with
 |ret r=>simp only[List.drop_zero] at g;subst g;exact .done
 |nxt i=>
  simp only[List.drop_zero] at g;rw[g];by_cases f:xs.length<b.length
  ·rw[if_pos f];exact Ev.tt (decide_eq_true (by omega)) .done
  ·rw[if_neg f];exact Ev.ff (decide_eq_false (by omega)) .done
theorem qv9{a b:Int}:Ev (fun n=>qj5 n ([a,b]:List Int)) (if a=0 then b else a):=by
 unfold qj5;by_cases c:a=0
 ·by_cases d:b=0
  ·refine Ev.bind (b:=.nxt 2) (Ev.succ ?_) ?_
   ·simp only[qcy];refine Ev.tt Z (Ev.bindN (b:=a) Z (Ev.ff (by simpa using c) (Ev.succ ?_)));simp only[qcy];refine Ev.tt Z (Ev.bindN (b:=b) Z (Ev.ff (by simpa using d) (Ev.succ ?_)));simp only[qcy];exact Ev.ff Z .done
   ·rw[if_pos c,d];exact .done
  ·refine Ev.bind (b:=.ret b) (Ev.succ ?_) ?_
   ·simp only[qcy];refine Ev.tt Z (Ev.bindN (b:=a) Z (Ev.ff (by simpa using c) (Ev.succ ?_)));simp only[qcy];exact Ev.tt Z (Ev.bindN (b:=b) Z (Ev.tt (by simpa using d) .done))
   ·rw[if_pos c];exact .done
 ·refine Ev.bind (b:=.ret a) (Ev.succ ?_) ?_
  ·simp only[qcy];exact Ev.tt Z (Ev.bindN (b:=a) Z (Ev.tt (by simpa using c) .done))
  ·rw[if_neg c];exact .done
def ordR':qh->qh->Int:=lexC (fun p q=>ordI p.Bm q.Bm) fun p q=>cmpLk p.Bd q.Bd
theorem qrK{p q:qh}(a:p.Bd.length<=1000000):Ev (fun n=>qfG n p q) (ordR' p q):=by
 unfold qfG;exact Ev.bind (.now (qnc (n:=0))) (Ev.bind (qz9 a) (Ev.bind qv9 .done))
theorem qpH{n:Nat}{p q:qh}{mode:Int}:qdU n p.Ai q.Ai mode=V (ordA mode p q):=by
 unfold qdU ordA;by_cases h:mode=1
 ·simp only[h,beq_self_eq_true,cond_true,qnc,jd,if_true]
 ·have:(mode==1)=false:=by simpa using h
  simp only[this,cond_false,qnc,jd,h,if_false]
theorem qtq{p q:qh}{mode:Int}(a:p.Bd.length<=1000000):Ev (fun n=>qdC n p q mode) (ordP mode p q):=by
 unfold qdC;exact Ev.bind (.now (qpH (n:=0))) (Ev.bind (qrK a) (Ev.bind qv9 .done))
theorem qxS{α β:Type}{f:α->Nat->Option β}{v:α->β}:∀l:List α,(∀x,x∈l->Ev (f x) (v x))->∃N,∀n,N<=n->∀x,x∈l->f x n=V (v x)
 | [],_=>⟨0,fun _ _ x h=>by cases h⟩
 |y::l,h=>by
  obtain⟨N,c⟩:=qxS l fun x a=>h x (jo _ a);obtain⟨M,b⟩:=h y (jx ..);refine⟨max N M,fun n d x a=>?_⟩;rcases List.mem_cons.1 a with rfl|a
  ·exact b n (by omega)
  ·exact c n (by omega) x a
theorem qwb{α β:Type}{f:α->α->Nat->Option β}{v:α->α->β}{m:List α}:∀l:List α,(∀x,x∈l->∀y,y∈m->Ev (f x y) (v x y))->∃N,∀n,N<=n->∀x,x∈l->∀y,y∈m->f x y n=V (v x y)
 | [],_=>⟨0,fun _ _ x h=>by cases h⟩
 |z::l,h=>by
  obtain⟨N,c⟩:=qwb l fun x a=>h x (jo _ a);obtain⟨M,b⟩:=qxS m (h z (jx ..));refine⟨max N M,fun n d x a=>?_⟩;rcases List.mem_cons.1 a with rfl|a
  ·exact b n (by omega)
  ·exact c n (by omega) x a
def srtP(mode:Int)(xs:List qh):List qh:=xs.mergeSort (leF (ordP mode))
theorem qzp{xs:List qh}{mode:Int}(i:xs.length<=1000000)(c:∀p,p∈xs->p.Bd.length<=1000000):Ev (fun n=>sortP n xs mode) (srtP mode xs):=by
 have b:∀p,p∈(GoT.zero:qh)::xs->p.Bd.length<=1000000:=fun p a=>by
  rcases List.mem_cons.1 a with rfl|a
  ·exact Nat.zero_le _
  ·exact c p a
 obtain⟨N,d⟩:=qwb (f:=fun p q n=>qdC n p q mode) (v:=fun p q=>ordP mode p q) (m:=(GoT.zero:qh)::xs) ((GoT.zero:qh)::xs) fun p a q _=>qtq (b p a);refine⟨N,fun n g=>?_⟩;show sortP n xs mode=_;unfold sortP;rw[if_pos ⟨by omega,fun p a q h=>d n g p a q h⟩]
 rfl
theorem qAS{p q:qh}(z:p.Bd.length<=1000000):Ev (fun n=>qlg n p q) (decide (ordR' p q<0)):=by
 have k:∀d i,i+d=p.Bd.length->i<=q.Bd.length->∃o,Ev (fun n=>qdh p q n (i:Int)) o /\
   match o with|.ret r=>r=decide (cmpLk (p.Bd.drop i) (q.Bd.drop i)<0)|.nxt _=>decide (cmpLk (p.Bd.drop i) (q.Bd.drop i)<0)=decide ((p.Bd.length:Int)<(q.Bd.length:Int)):=by
  intro d
  induction d with
  |zero=>
   intro i hi y;obtain rfl:i=p.Bd.length:=by omega
   refine⟨.nxt (p.Bd.length:Int),Ev.succ ?_,?_⟩
   ·simp only[qdh,qk (je _),cond_false,jd];exact .done
   ·simp only[List.drop_length];have s:(q.Bd.drop p.Bd.length).length=q.Bd.length-p.Bd.length:=Jn;cases h:q.Bd.drop p.Bd.length with
    |nil=>rw[h] at s;simp at s;simp only[cmpLk];simp;omega
    |cons a l=>rw[h] at s;simp at s;simp only[cmpLk];simp;omega
  |succ d ih=>
   intro i hi y;have b:i<p.Bd.length:=by omega
   have ex:p.Bd.drop i=p.Bd[i]::p.Bd.drop (i+1):=jz b;by_cases g:i<q.Bd.length
   ·have x:q.Bd.drop i=q.Bd[i]::q.Bd.drop (i+1):=jz g;by_cases t:p.Bd[i]=q.Bd[i]
    ·obtain⟨o,u,f⟩:=ih (i+1) (by omega) (by omega);have hz:ordI p.Bd[i] q.Bd[i]=0:=by unfold ordI;rw[if_neg (by omega),if_neg (by omega)]
     refine⟨o,Ev.succ ?_,?_⟩
     ·simp only[qdh,qi b,qi g,cond_true,jd,qcX b,qcX g,wS i];exact Ev.ff (by simpa using t) u
     ·rw[ex,x];simp only[cmpLk,hz,if_true];exact f
    ·have hz:ordI p.Bd[i] q.Bd[i]≠0:=fun e=>t (qot e);refine⟨.ret (decide (p.Bd[i]<q.Bd[i])),Ev.succ ?_,?_⟩
     ·simp only[qdh,qi b,qi g,cond_true,jd,qcX b,qcX g];exact Ev.tt (by simpa using t) .done
     ·rw[ex,x];simp only[cmpLk,hz,if_false];unfold ordI;by_cases c:p.Bd[i]<q.Bd[i]
      ·simp[c]
      ·rw[if_neg c];by_cases m:q.Bd[i]<p.Bd[i]
       ·simp[c,m]
       ·simp[c,m]
   ·refine⟨.nxt (i:Int),Ev.succ ?_,?_⟩
    ·simp only[qdh,qi b,cond_true,qk (show q.Bd.length<=i by omega),jd,cond_false];exact .done
    ·rw[ex,show q.Bd.drop i=[] from List.drop_of_length_le (by omega)];simp only[cmpLk];simp;omega
 unfold qlg ordR' lexC;by_cases v:p.Bm=q.Bm
 ·have hz:ordI p.Bm q.Bm=0:=by unfold ordI;rw[if_neg (by omega),if_neg (by omega)]
  obtain⟨o,u,f⟩:=k p.Bd.length 0 (by omega) (Nat.zero_le _);refine Ev.ff (by simpa using v) (Ev.bind u ?_);simp only[hz,if_true];simp only[List.drop_zero] at f;cases o with
  |ret r=>simp only at f;subst f;exact .done
  |nxt i=>simp only at f;rw[f];exact .done
 ·refine Ev.tt (by simpa using v) (.now ?_);have hz:ordI p.Bm q.Bm≠0:=fun e=>v (qot e);simp only[hz,if_false];unfold ordI;by_cases c:p.Bm<q.Bm
  ·simp[c]
  ·rw[if_neg c];by_cases m:q.Bm<p.Bm<;>simp[c,m]
theorem qyX{p q:qh}{mode:Int}(d:modeB mode=true)(f:p.Bd.length<=1000000):Ev (fun n=>qjG n p q mode) (decide (ordP mode p q<0)):=by
 unfold qjG ordP;show Ev _ (decide (lexC (ordA mode) ordR' p q<0));unfold lexC;by_cases b:p.Ai=q.Ai
 ·have hz:ordA mode p q=0:=by unfold ordA ordI;rw[b];simp
  refine Ev.ff (by simpa using b) ?_;simp only[hz,if_true];exact Ev.bind (qAS f) .done
 ·refine Ev.tt (by simpa using b) (.now ?_);have hz:ordA mode p q≠0:=by
   unfold ordA;split
   ·exact fun e=>b (qot e).symm
   ·exact fun e=>b (qot e)
  simp only[hz,if_false];unfold ordA ordI;rcases qsK d with rfl|rfl
  ·by_cases c:p.Ai<q.Ai
   ·have a:¬ q.Ai<p.Ai:=by omega
    simp[c,a]
   ·have a:q.Ai<p.Ai:=by omega
    simp[c,a]
  ·by_cases c:p.Ai<q.Ai
   ·have a:¬ q.Ai<p.Ai:=by omega
    simp[c,a]
   ·have a:q.Ai<p.Ai:=by omega
    simp[a]
def posE(mode:Int)(y:qh)(x:List qh):Nat->Nat
 |0=>0
 |i+1=>if ordP mode y (gt x i)<0 then posE mode y x i else i+1
theorem qu0{mode:Int}{y:qh}{x:List qh}:∀i,posE mode y x i<=i
 |0=>je _
 |i+1=>by
  simp only[posE];split
  ·exact Nat.le_succ_of_le (qu0 i)
  ·exact je _
theorem qte{mode:Int}{y:qh}{x:List qh}:∀i q,posE mode y x i<=q->q<i->ordP mode y (gt x q)<0
 |0,q,_,h=>absurd h (Nat.not_lt_zero _)
 |i+1,q,h1,h2=>by
  simp only[posE] at h1;split at h1
  ·rename_i hh
   by_cases e:q=i
   ·subst e;exact hh
   ·exact qte i q h1 (by omega)
  ·omega
theorem qrt{mode:Int}{y:qh}{x:List qh}:∀i q,posE mode y x i=q+1->¬ ordP mode y (gt x q)<0
 |0,q,h=>by simp[posE] at h
 |i+1,q,h=>by
  simp only[posE] at h;split at h
  ·exact qrt i q h
  ·rename_i hh
   obtain rfl:i=q:=by omega
   exact hh
theorem qxT{list x:List qh}{mode:Int}{i1:Nat}(c:modeB mode=true)(hi:i1<list.length)(b:(gt list i1).Bd.length<=1000000)(d:x.length<=1000000):∀i,i<=x.length->Ev (fun n=>qeg list mode x (i1:Int) n (i:Int)) ((posE mode (gt list i1) x i:Nat):Int)
 |0,_=>by
  refine Ev.succ ?_;simp only[qeg];exact Ev.ff Z .done
 |i+1,h=>by
  have e1:W64 (((i+1:Nat):Int)-1)=(i:Int):=by rw[qK (by omega) (by omega)];omega
  refine Ev.succ ?_;simp only[qeg,e1];refine Ev.tt (decide_eq_true (by omega)) (Ev.bindN (qC hi) (Ev.bindN (qC (show i<x.length by omega)) (Ev.bind (qyX c b) ?_)));simp only[posE];by_cases a:ordP mode (gt list i1) (gt x i)<0
  ·rw[if_pos a];exact Ev.tt (decide_eq_true a) (qxT c hi b d i (by omega))
  ·rw[if_neg a];exact Ev.ff (decide_eq_false a) .done
theorem qsf{mode:Int}{a b:qh}:leF (ordP mode) a b=true↔¬ ordP mode b a<0:=by simp[leF]
theorem qru{mode:Int}{xs:List qh}:(srtP mode xs).Pairwise fun a b=>leF (ordP mode) a b=true:=by
 have f:=(qsI mode).swo;refine List.pairwise_mergeSort ?_ ?_ _
 ·intro a b c g d;simp only[leF,jI] at g d⊢;exact f.ntrans c b a d g
 ·intro a b;cases hh:decide (ordP mode b a<0) with
  |false=>simp[leF,hh]
  |true=>
   have:decide (ordP mode a b<0)=false:=by
    cases d:decide (ordP mode a b<0) with
    |false=>rfl
    |true=>
     have:=f.trans a b a d hh;rw[f.irrefl a] at this;cases this
   simp[leF,this]
theorem qyH{mode:Int}{xs c:List qh}(h:c.Pairwise fun a b=>leF (ordP mode) a b=true)(g:c.Perm xs):c=srtP mode xs:=by
 refine List.Perm.eq_of_pairwise (le:=fun a b=>leF (ordP mode) a b=true) ?_ h qru (g.trans (List.mergeSort_perm _ _).symm);intro a b _ _ d f;rw[qsf] at d f;have:=(qsI mode).anti a b;exact qzH (mode:=mode) (by omega)
theorem qw1{mode:Int}{x:List qh}{y:qh}(g:x.Pairwise fun a b=>leF (ordP mode) a b=true) :
  (x.take (posE mode y x x.length)++[y]++x.drop (posE mode y x x.length)).Pairwise fun a b=>leF (ordP mode) a b=true:=by
 have s:=qsI mode;have i:=qu0 (mode:=mode) (y:=y) (x:=x) x.length;have o:=qte (mode:=mode) (y:=y) (x:=x) x.length;have r:=qrt (mode:=mode) (y:=y) (x:=x) x.length;generalize posE mode y x x.length=p at i o r;have m:∀b,b∈x.drop p->leF (ordP mode) y b=true:=fun b d=>by
  obtain⟨q,k,rfl⟩:=List.mem_iff_getElem.1 d;rw[Jn] at k;rw[List.getElem_drop,qsf];have f:=o (p+q) (by omega) (by omega);rw[qcT (show p+q<x.length by omega)] at f;have:=s.anti y x[p+q];omega
 have l:∀a,a∈x.take p->leF (ordP mode) a y=true:=fun a h=>by
  obtain⟨q,k,rfl⟩:=List.mem_iff_getElem.1 h;rw[jv] at k;rw[Jd,qsf];obtain⟨c,rfl⟩:∃c,p=c+1:=⟨p-1,by omega⟩;have f:=r c Z;rw[qcT (show c<x.length by omega)] at f;by_cases e:q=c
  ·subst e;exact f
  ·have n:=(List.pairwise_iff_getElem.1 g) q c (by omega) (by omega) (by omega);rw[qsf] at n;have:=s.swo.ntrans y x[c] x[q] (decide_eq_false f) (decide_eq_false n);exact of_decide_eq_false this
 rw[jp,List.pairwise_append];refine⟨g.sublist (List.take_sublist ..),?_,fun a h b d=>?_⟩
 ·rw[List.singleton_append,List.pairwise_cons];exact⟨m,g.sublist (List.drop_sublist ..)⟩
 ·rw[List.singleton_append,Je] at d;rcases d with rfl|d
  ·exact l a h
  ·rw[<-jW p x,List.pairwise_append] at g;exact g.2.2 a h b d
theorem qwI{α:Type}{xs:List α}{j:Nat}(h:j<=xs.length):subS xs (j:Int) (xs.length:Int)=V (xs.drop j):=by
 unfold subS;rw[if_pos ⟨by omega,by omega,by omega⟩];simp
theorem qy4{list:List qh}{mode:Int}(z:modeB mode=true)(A:list.length<=1000000)(u:∀p,p∈list->p.Bd.length<=1000000):Ev (fun n=>qi9 n list mode) (srtP mode list):=by
 have e0:srtP mode (list.take 0)=[]:=by rw[List.take_zero];unfold srtP;simp
 have c:∀l:List qh,(srtP mode l).length=l.length:=fun l=>List.length_mergeSort _;have:=loopF (Lf:=fun n s i=>qef list mode n s i) (S:=fun i=>srtP mode (list.take i)) (len:=list.length) (fin:=(srtP mode list,(list.length:Int)))
  (fun n=>by simp only[qef,qk (je _),cond_false,jC])
  (fun i hi X v=>by
   have m:(srtP mode (list.take i)).length=i:=by rw[c,jv];omega
   have h:gt list i∈list:=by rw[qcT hi];exact jt hi
   have g:=qxT (list:=list) (x:=srtP mode (list.take i)) (i1:=i) z hi (u _ h) (by omega) (srtP mode (list.take i)).length (je _);have f:=qu0 (mode:=mode) (y:=gt list i) (x:=srtP mode (list.take i)) (srtP mode (list.take i)).length;have k:=qw1 (mode:=mode) (y:=gt list i) (qru (mode:=mode) (xs:=list.take i));have b:(srtP mode (list.take i)).Perm (list.take i):=List.mergeSort_perm _ _;generalize srtP mode (list.take i)=x at m g f k b;generalize posE mode (gt list i) x x.length=p at g f k;have d:x.take p++[gt list i]++x.drop p=srtP mode (list.take (i+1)):=by
    refine qyH k ?_;rw[js hi,<-qcT hi,jp];refine(List.perm_middle (a:=gt list i) (l₁:=x.take p) (l₂:=x.drop p)).trans ?_;rw[jW];exact(List.Perm.cons _ b).trans (List.perm_append_comm (l₁:=[gt list i]) (l₂:=list.take i))
   have a1:subS x 0 (p:Int)=V (x.take p):=qmU f;have a2:appS ([]:List qh) (x.take p)=V (x.take p):=by rw[qbl (by rw[List.length_nil,jv];omega),Jm]
   have o:appS (x.take p) [gt list i]=V (x.take p++[gt list i]):=qbl (by rw[jv,jj];omega);have r:subS x (p:Int) (x.length:Int)=V (x.drop p):=qwI f;have t:appS (x.take p++[gt list i]) (x.drop p)=V (srtP mode (list.take (i+1))):=by
    rw[<-d];exact qbl (by rw[jg,jv,jj,Jn];omega)
   simp only[qef];refine Ev.tt (qi hi) (Ev.bind g (Ev.bindN a1 (Ev.bindN a2 (Ev.bindN (qC hi) (Ev.bindN o (Ev.bindN r (Ev.bindN t ?_)))))));rw[wS i];exact v)
 rw[e0] at this;unfold qi9;exact Ev.bind this .done
end Go.Fw


namespace Go.Fw
open Go
set_option maxRecDepth 100000
theorem qvQ{j:qaP}{node:Int}(h:qkW j)(mode:Int) :
  (∃code:Int,code≠0/\Ev (fun n=>qeR n j node) (U,code)/\Ev (fun n=>qdR n j mode [node]) (U,code)) \/
  ∃t R,WkOk j t R/\inI node 0 ((ndB j.Ac:Int)-1)=true/\Ev (fun n=>qdP n j) (swV j t,0)/\Ev (fun n=>qeR n j node) (swV j t,0)/\Ev (fun n=>qdR n j mode [node]) (bif modeB mode then(wkV j t R,0) else(U,2)):=by
 have k:([node].all fun x=>inI x 0 ((ndB j.Ac:Int)-1))=inI node 0 ((ndB j.Ac:Int)-1):=by simp
 have p:(∃code:Int,code≠0/\Ev (fun n=>qdP n j) (U,code)/\Ev (fun n=>qdR n j mode [node]) (U,code)) \/
   ∃t R,WkOk j t R/\Ev (fun n=>qdP n j) (swV j t,0)/\Ev (fun n=>qdR n j mode [node]) (bif inI node 0 ((ndB j.Ac:Int)-1) then bif modeB mode then(wkV j t R,0) else(U,2) else(U,4)):=by
  cases hm:modeB mode
  ·have f:=h.Bb.len;unfold qdP qdR;rcases qxC h with⟨code,hne,hs,hi⟩|⟨t,R,hw,hs,hi⟩
   ·exact .inl ⟨code,hne,Ev.bind hs (Ev.tt (qk6 hne) .done),Ev.bind hi (Ev.tt (qk6 hne) .done)⟩
   ·have d:=hw.tg.bl;have g:=qjU d;have b:=qaX (qW (qau d));have r:=qnD (ls:=linksL j.Ac) (br:=j.Bb) g f;refine .inr ⟨t,R,hw,Ev.bind hs (Ev.ff Z (Ev.bind (qi2 d) (Ev.bind r .done))),Ev.bind hi (Ev.ff Z ?_)⟩;have i:=qoG (v:=viewV j.Ac) b;have e1:W64 (((2*(viewV j.Ac).places.length:Nat):Int)-1)=(ndB j.Ac:Int)-1:=by
     show W64 (((2*(places j.Ac.Aa).length:Nat):Int)-1)=_;rw[qK (by omega) (by omega)]
    unfold wkV grB;simp only[jd,i,e1];refine Ev.bind (qeG (by simp)) ?_;rw[k];cases inI node 0 ((ndB j.Ac:Int)-1)
    ·exact Ev.tt Z .done
    ·refine Ev.ff Z ?_;simp only[qyC,hm];exact .done
  ·rcases qAW h with⟨code,hne,hs,hi⟩|⟨t,R,hw,hs,hi⟩
   ·exact .inl ⟨code,hne,hs,hi mode [node]⟩
   ·have l:=hi mode [node] (by simp) (qsK hm);rw[k] at l;exact .inr ⟨t,R,hw,hs,l⟩
 unfold qeR;rcases p with⟨code,hne,hs,hi⟩|⟨t,R,hw,hs,hi⟩
 ·exact .inl ⟨code,hne,Ev.bind hs (Ev.tt (qk6 hne) .done),hi⟩
 ·have b:=qaX (qW (qau hw.tg.bl));have a:=qkD hw.tg.bl;have e1:∀n,qal n node 0 (W64 (((2*(places j.Ac.Aa).length:Nat):Int)-1))=V (inI node 0 ((ndB j.Ac:Int)-1)):=fun n=>by rw[qcA,qK (by omega) (by omega)]
  obtain⟨o,x3,m⟩:=t;have c:Ev (fun n=>qdP n j) (V (⟨j,linksL j.Ac,lvJ j.Ac j.Bb,⟨o,x3,m⟩⟩:Tl20Work),(0:Int)):=hs;cases hr:inI node 0 ((ndB j.Ac:Int)-1)
  ·rw[hr] at hi;refine .inl ⟨4,by decide,Ev.bind c ?_,hi⟩;show Ev (fun n=>(qbO n j.Ac).bind _) _;refine Ev.bind a ?_;simp only[e1,hr];exact .done
  ·rw[hr] at hi;refine .inr ⟨⟨o,x3,m⟩,R,hw,rfl,hs,Ev.bind c ?_,hi⟩;show Ev (fun n=>(qbO n j.Ac).bind _) _;refine Ev.bind a ?_;simp only[e1,hr];exact .done
theorem qzO{α:Type}{f:Nat->Option (List Int)}{k v:Int}{g:Nat->Int->Option α}{a:α}(h:Ev (fun n=>(f n).bind fun r=>(idx r k).bind fun y=>V (y,(0:Int))) (v,0))(l:Ev (fun n=>g n v) a):Ev (fun n=>(f n).bind fun r=>(idx r k).bind (g n)) a:=by
 obtain⟨N,i⟩:=h;obtain⟨M,d⟩:=l;refine⟨max N M,fun n m=>?_⟩;have b:=i n (by omega);have c:=d n (by omega);simp only at b c⊢;cases hf:f n with
 |none=>rw[hf] at b;simp at b
 |some r=>
  rw[hf] at b;simp only[jd] at b⊢;cases hi:idx r k with
  |none=>rw[hi] at b;simp at b
  |some y=>
   rw[hi] at b;simp only[jd,Option.some.injEq,Prod.mk.injEq,and_true] at b;subst b;exact c
def stM{α:Type}(g:α->α)(L:List α)(i:Nat):List α:=(L.take i).map g++L.drop i
theorem qwt{α:Type}{g:α->α}{L:List α}:stM g L 0=L:=by simp[stM]
theorem qvw{α:Type}{g:α->α}{L:List α}:stM g L L.length=L.map g:=by simp[stM]
section
variable{α:Type}[Inhabited α]{g:α->α}{L:List α}{i:Nat}
theorem quL(h:i<L.length):idx (stM g L i) (i:Int)=V (gt L i):=by
 have a:i<(stM g L i).length:=by unfold stM;rw[jg,jq,jv,Jn];omega
 have e:(stM g L i)[i]?=V L[i]:=by
  unfold stM;rw[jB (by rw[jq,jv];omega),jq,jv,Nat.min_eq_left (by omega),Nat.sub_self,Jf,Jj,jh h]
 rw[qcX a,qcT h];exact congrArg V (List.getElem?_eq_some_iff.1 e).2
theorem qx0(h:i<L.length):setS (stM g L i) (i:Int) (g (gt L i))=stM g L (i+1):=by
 have a:((L.take i).map g).length=i:=by rw[jq,jv];omega
 unfold setS stM;rw[jr,js h,jK,jp,List.set_append_right _ _ (by omega),a,Nat.sub_self,jz h,qcT h]
 rfl
end
def setA(A:qh->Int)(p:qh):qh:=⟨p.Bm,p.Bd,A p⟩
theorem qum:∀l:List qh,(∀p,p∈l->p.Bd.length<=1000)->qcG l<=l.length*1001
 | [],_=>by simp[qcG]
 |p::l,h=>by
  have a:=qum l fun q c=>h q (jo _ c);have b:=h p (jx ..);have e:qqS p=p.Bd.length:=rfl;unfold qcG at a⊢;simp only[jH,jT,List.sum_cons];omega
theorem qzc{mode:Int}{l:List qh}{p:qh}:p∈srtP mode l↔p∈l:=(List.mergeSort_perm l _).mem_iff
theorem qAh{mode:Int}{l:List qh}:(srtP mode l).length=l.length:=List.length_mergeSort _
section
variable{j:qaP}{t:qw}{R:List Nat}{c:List Int}
theorem qwA(h:qkW j)(f:WkOk j t R)(r:CtOk j c){node:Nat}(u:node<ndB j.Ac)(o:gt c node<=300) :
  ∃L:List qh,((L.length:Int)<=gt c node)/\(∀p,p∈L->p.Bd.length<=156/\pathB j p.Bm p.Bd=true/\p.Ai=0)/\L=aP j t R.length node /\
   Ev (fun n=>qcU n (swV j t) (node:Int)) L/\Ev (fun n=>qhm n (wkV j t R) (node:Int)) L:=by
 obtain⟨i,hi,l⟩:=f.tg.ord.full f.tg.len u;have v:=qaX (qW (qau f.tg.bl));have x:R.length<=156:=by rw[f.tg.len];show 2*(places j.Ac.Aa).length<=156;omega
 have d:=qzl h f r R.length i hi hi (by omega) (by rw[l];exact o);have g:=qu5 f r R.length i hi hi (by rw[l];exact o);rw[l] at d g;have s:=qxL f R.length node;refine⟨aP j t R.length node,g,fun p k=>?_,rfl,d.1,?_⟩
 ·obtain⟨a,_,b⟩:=s p k;have:=qs8 _ _ p k;exact⟨by omega,a,b⟩
 ·have m:=d.2 [] [] (by rw[List.length_nil];omega) (by rw[List.length_nil];omega);have e:([]:List qh)++(aP j t R.length node).map (tailP [])=aP j t R.length node:=by
   rw[Jm];have:(aP j t R.length node).map (tailP [])=(aP j t R.length node).map id:=List.map_congr_left fun p k=>by
    obtain⟨_,_,b⟩:=s p k;cases p;simp only at b;subst b;simp[tailP]
   rw[this,List.map_id]
  rw[e] at m;unfold qhm;exact Ev.bind m .done
def arA(f:Nat->qe->qe×qe)(j:qaP)(t:qw)(mode:Int)(p:qh):Int:=ofS mode (arS f (linksL j.Ac) t (srcV (srcO j.Aq p.Bm)).2.Ai p.Bd p.Bd.length)
theorem qw7(h:qkW j)(u:WkOk j t R){f:Nat->qe->qe×qe}(k:SpansS j.Ac j.Af f){mode:Int}(l:modeB mode=true){node:Int}{L:List qh}(c:∀p,p∈L->p.Bd.length<=156/\pathB j p.Bm p.Bd=true/\p.Ai=0)(v:L.length<=300)(r:Ev (fun n=>qcU n (swV j t) node) L) :
  Ev (fun n=>qgY n (swV j t) node mode) (srtP mode (L.map (setA (arA f j t mode)))):=by
 have a:=loopF (Lf:=fun n s i=>qdL (swV j t) mode L n s i) (S:=stM (setA (arA f j t mode)) L) (len:=L.length) (fin:=(L.map (setA (arA f j t mode)),(L.length:Int)))
  (fun n=>by simp only[qdL,qk (je _),cond_false,qvw])
  (fun i hi X d=>by
   have b:gt L i∈L:=by rw[qcT hi];exact jt hi
   obtain⟨a1,a2,_⟩:=c _ b;simp only[qdL];refine Ev.tt (qi hi) (Ev.bindN (quL hi) (Ev.bind (qAM h u k (by omega) a2 mode) ?_));rw[wS i];have e:=qx0 (g:=setA (arA f j t mode)) hi;unfold setA arA at e⊢;unfold setA arA at d;rw[e];exact d)
 rw[qwt] at a;unfold qgY;refine Ev.bind r (Ev.bind a (Ev.bind (qy4 l (by rw[jq];omega) fun p m=>?_) .done));obtain⟨q,o,rfl⟩:=List.mem_map.1 m;have:=(c q o).1;show q.Bd.length<=1000000;omega
theorem qyy{node mode count:Int}(h:qkW j):∃R:List qh×Int,Ev (fun n=>qmk n j node mode count) R/\Ev (fun n=>qkB n j node mode count) R/\qcG R.1<=1048576:=by
 unfold qmk qkB;rcases qvQ (node:=node) h mode with⟨code,hne,hs,hi⟩|⟨t,R,hw,hr,ho,hs,hi⟩
 ·exact⟨([],code),Ev.bind hs (Ev.tt (qk6 hne) .done),Ev.bind hi (Ev.tt (qk6 hne) .done),by simp[qcG]⟩
 obtain⟨r0,r1,Q⟩:=inRange hr;obtain⟨f,hf,J⟩:=qv4 hw.tg.bl hw.tg.co;have y:=J [] (.inl Z);rw[qtT] at y;obtain⟨c,cl,Y,F⟩:=qw0 h hw;obtain⟨cs,H⟩:=F node.toNat Q;have B:=qwA h hw Y Q;rw[<-qgA r0] at cs H B;have N:=fun(d:modeB mode=true) L u D hs=>qw7 (node:=node) (L:=L) h hw hf d u D hs;obtain⟨o,x3,m⟩:=t;have l:Ev (fun n=>qeR n j node) (V (⟨j,linksL j.Ac,lvJ j.Ac j.Bb,⟨o,x3,m⟩⟩:Tl20Work),(0:Int)):=hs;cases d:modeB mode
 ·rw[d] at hi;refine⟨([],2),Ev.bind l (Ev.bind (b:=true) ?_ (Ev.tt Z .done)),Ev.bind hi (Ev.tt Z .done),by simp[qcG]⟩;simp only[qpJ,d,jd];exact Ev.tt Z .done
 rw[d] at hi;cases hq:inI count 0 20
 ·refine⟨([],2),Ev.bind l (Ev.bind (b:=true) ?_ (Ev.tt Z .done)),Ev.bind hi (Ev.ff Z ?_),by simp[qcG]⟩
  ·simp only[qpJ,d,jd,qcA,hq];exact Ev.ff Z .done
  ·simp only[qcR,hq,jd];exact Ev.tt Z .done
 have T:Ev (fun n=>(qhU n mode).bind fun r8=>bif (!r8) then V true else(qal n count 0 20).bind fun r9=>V (!r9)) false:=by
  simp only[qpJ,d,jd,qcA,hq];exact Ev.ff Z .done
 obtain⟨q0,q1⟩:=qbe.1 hq;by_cases C:gt c node.toNat > 300
 ·refine⟨([],3),Ev.bind l (Ev.bind T (Ev.ff Z (qzO cs (Ev.tt (decide_eq_true C) .done)))),Ev.bind hi (Ev.ff Z ?_),by simp[qcG]⟩;simp only[qcR,hq,jd];exact Ev.ff Z (Ev.bind H (Ev.tt (decide_eq_true C) .done))
 obtain⟨L,a3,u,_,sA,iA⟩:=B (by omega);have D:L.length<=300:=by omega
 have W:=N d L u D sA;have x:∀p,p∈srtP mode (L.map (setA (arA f j ⟨o,x3,m⟩ mode)))->p.Bd.length<=1000:=fun p v=>by
  rw[qzc] at v;obtain⟨q,r,rfl⟩:=List.mem_map.1 v;have:=(u q r).1;show q.Bd.length<=1000;omega
 have a:=loopF (Lf:=fun n s i=>qgn mode (wkV j ⟨o,x3,m⟩ R) L n s i) (S:=stM (setA (arA f j ⟨o,x3,m⟩ mode)) L) (len:=L.length) (fin:=(L.map (setA (arA f j ⟨o,x3,m⟩ mode)),(L.length:Int)))
  (fun n=>by simp only[qgn,qk (je _),cond_false,qvw])
  (fun i hi X O=>by
   have A:gt L i∈L:=by rw[qcT hi];exact jt hi
   obtain⟨a1,a2,_⟩:=u _ A;simp only[qgn];refine Ev.tt (qi hi) (Ev.bindN (quL hi) (Ev.bind (qBu h hw y (by omega) a2) (Ev.bind (.now (qCp (n:=0) d)) (Ev.bindN (quL hi) ?_))));rw[wS i];have e:=qx0 (g:=setA (arA f j ⟨o,x3,m⟩ mode)) hi;unfold setA arA at e⊢;unfold setA arA at O;rw[e];exact O)
 rw[qwt] at a;have P:=qzp (mode:=mode) (xs:=L.map (setA (arA f j ⟨o,x3,m⟩ mode))) (by rw[jq];omega) fun p v=>by
  obtain⟨q,r,rfl⟩:=List.mem_map.1 v;have:=(u q r).1;show q.Bd.length<=1000000;omega
 have I:(srtP mode (L.map (setA (arA f j ⟨o,x3,m⟩ mode)))).length<=300:=by rw[qAh,jq];exact D
 generalize srtP mode (L.map (setA (arA f j ⟨o,x3,m⟩ mode)))=M at W P x I;obtain⟨k,rfl⟩:∃k:Nat,count=(k:Int):=⟨count.toNat,by omega⟩;refine⟨(M.take k,0),Ev.bind l (Ev.bind T (Ev.ff Z (qzO cs (Ev.ff (decide_eq_false C) (Ev.bind W ?_))))),Ev.bind hi (Ev.ff Z ?_),?_⟩
 ·by_cases z:(M.length:Int) > (k:Int)
  ·exact Ev.tt (decide_eq_true z) (Ev.bindN (qmU (by omega)) .done)
  ·refine Ev.ff (decide_eq_false z) ?_;rw[List.take_of_length_le (by omega)];exact .done
 ·simp only[qcR,hq,jd];refine Ev.ff Z (Ev.bind H (Ev.ff (decide_eq_false C) (Ev.bind iA (Ev.bind a (Ev.bind P (Ev.bindN (b:=(M.length:Int)) Z ?_))))));by_cases z:(M.length:Int)<(k:Int)
  ·rw[if_pos z,qmU (je _),jC,List.take_of_length_le (by omega)];exact .done
  ·rw[if_neg z,qmU (by omega)];exact .done
 ·have K:(M.take k).length<=300:=by rw[jv];omega
  have:=qum (M.take k) fun p v=>x p (List.mem_of_mem_take v);show qcG (M.take k)<=1048576;have:(M.take k).length*1001<=300*1001:=jw _ K;omega
end

def Mk{σ:Type}(F:Nat->Option (Int×σ))(k:Int)(w:Nat):Prop:=∃k' x,Ev F (k',x)/\k<=k'/\k'<=k+16*(w:Int)
theorem qsJ{α:Type}{t:List α}{j:Nat}{y:α}(h:j<t.length):idx (setS t (j:Int) y) (j:Int)=V y:=by
 rw[qcX (by rw[qdX];exact h),qyd h]
theorem qrg{α:Type}{t:List α}{i:Int}{y z:α}:setS (setS t i y) i z=setS t i z:=by
 unfold setS;rw[List.set_set]
theorem qtm{α:Type}{a:List α}{wt:α->Nat}{j:Nat}(h:j<a.length):((a.take (j+1)).map wt).sum=((a.take j).map wt).sum+wt a[j]:=by
 rw[js h,jK,List.sum_append];simp
theorem qwf{α:Type}{a:List α}{wt:α->Nat}{j:Nat}:((a.take j).map wt).sum<=(a.map wt).sum:=by
 conv=>rhs;rw[<-jW j a]
 rw[jK,List.sum_append];exact Nat.le_add_right _ _
theorem qie{α:Type}{a:List α}{wt:α->Nat}{Lf:Nat->List α->Int->Int->Option (List α×Int×Int)}{F:Nat->Option (Int×List α)}{k:Int}(s:0<=k)(u:k+16*((a.length+(a.map wt).sum:Nat):Int)<=1000000000000)
  (d:∀n t k,Lf (n+1) t k (a.length:Int)=V (t,k,(a.length:Int)))
  (c:∀x,x∈a->∀k:Int,0<=k->k+16*((1+wt x:Nat):Int)<=1000000000000->∃y b,k<=b/\b<=k+16*((1+wt x:Nat):Int) /\
   ∀(t:List α) (j:Nat),j<9223372036854775807->j<a.length->j<t.length->t[j]?=V x->∀X,Ev (fun n=>Lf n (setS t (j:Int) y) b ((j+1:Nat):Int)) X->Ev (fun n=>Lf (n+1) t k (j:Int)) X)
  (C:a.length<=1048576)
  (p:∀n,F n=(Lf n a k 0).bind fun(x1,i1,_)=>V (i1,x1)):Mk F k (a.length+(a.map wt).sum):=by
 obtain⟨⟨t,b⟩,⟨_,_,l,g⟩,e⟩:=loopE (τ:=List α×Int) (Lf:=fun n t j=>Lf n t.1 t.2 j) (fin:=fun t=>(t.1,t.2,(a.length:Int)))
  (fun j t=>t.1.length=a.length/\(∀i,j<=i->t.1[i]?=a[i]?)/\k<=t.2/\t.2<=k+16*((j+((a.take j).map wt).sum:Nat):Int)) (len:=a.length)
  (fun n t=>d n t.1 t.2)
  (fun j t f A=>by
   obtain⟨m,h,l,g⟩:=A;have v:=qtm (wt:=wt) f;have z:=qwf (a:=a) (wt:=wt) (j:=j+1);obtain⟨y,b,D,H,B⟩:=c a[j] (jt f) t.2 (by omega) (by omega);refine⟨(setS t.1 (j:Int) y,b),⟨by rw[qdX];exact m,fun i hi=>?_,by show k<=b;omega,?_⟩,fun X r=>?_⟩
   ·show(t.1.set _ _)[i]?=_;rw[List.getElem?_set_ne (by rw[jr];omega)];exact h i (by omega)
   ·show b<=k+_;rw[v];omega
   ·exact B t.1 j (by omega) f (by omega) (by rw[h j (je _),jh f]) X r) 0 (Nat.zero_le _) (a,k) ⟨rfl,fun _ _=>rfl,Jg _,by show k<=k+_;omega⟩
 rw[jC] at g;exact⟨b,t,Ev.congr p (Ev.bind e .done),l,g⟩
theorem qzh{α:Type}{pre a:List α}{j:Nat}{y:α}(c:pre.length=j)(b:j<a.length):setS (pre++a.drop j) (j:Int) y=(pre++[y])++a.drop (j+1):=by
 show(pre++a.drop j).set j y=_;rw[List.set_append,if_neg (by omega),c,Nat.sub_self,jz b,List.set_cons_zero,jp]
 rfl
def marked(k:Int)(m:Nat):List Int:=(List.range m).map fun(i:Nat)=>k+(i:Int)
theorem qxn{a:List Int}{k:Int}(i:0<=k)(l:k<=1000000000000)(m:a.length<=1048576):Ev (fun n=>qaz n a k) (k+(a.length:Int),marked k a.length):=by
 have f:Ev (fun n=>qbh a n a k 0) (marked k a.length,k+(a.length:Int),(a.length:Int)):=by
  have:=loopF (τ:=List Int×Int) (Lf:=fun n t j=>qbh a n t.1 t.2 j) (S:=fun j=>(marked k j++a.drop j,k+(j:Int))) (len:=a.length) (fin:=(marked k a.length,k+(a.length:Int),(a.length:Int))) (fun n=>by
    simp only[qbh,qk (je _),cond_false,List.drop_length,Ja])
   (fun j c X g=>by
    have d:(marked k j).length=j:=by simp[marked]
    have b:j<(marked k j++a.drop j).length:=by rw[jg,d,Jn];omega
    have h:marked k (j+1)=marked k j++[k+(j:Int)]:=by unfold marked;rw[List.range_succ,jK];rfl
    simp only[qbh,qi c,cond_true,qcX b,jd,qzh d c,wS j,qK (show -9223372036854775808<=k+(j:Int)+1 by omega) (by omega)];rw[<-h];rw[show k+(j:Int)+1=k+((j+1:Nat):Int) by omega];exact g)
  simpa [marked] using this
 unfold qaz;exact Ev.bind f .done
theorem qfX{a:List Int}{k:Int}(b:0<=k)(c:k<=1000000000000)(d:qa3 a<=1048576):∃k' x,Ev (fun n=>qaz n a k) (k',x)/\k<=k'/\k'<=k+16*(qa3 a:Int):=
 ⟨_,_,qxn b c d,by omega,by unfold qa3;omega⟩
theorem qxR{a b:ByteArray}(h:a.size+b.size<=1000000):catB a b=V (a++b):=by
 unfold catB;rw[if_pos];show((a.size+b.size:Nat):Int)<=9223372036854775807;omega
theorem qur{x:IntK .u8}:(strOf [x]).size=1:=rfl
theorem qkM{k:Int}(t:k<=1000000000001000):∃s,Ev (fun n=>qeJ n k) s:=by
 have a:∀m:Nat,∀i1:Int,∀z:ByteArray,0<=i1->i1<=9000000000000000000->i1<10 ^ m->z.size+m<=1000->∃o:Int×ByteArray,o.2.size<=1000/\Ev (fun n=>qgj n i1 z) o:=by
  intro m
  induction m with
  |zero=>
   intro i1 z b h f hz;have:i1=0:=by have:(10:Int) ^ 0=1:=rfl;omega
   subst this;exact⟨(0,z),by show z.size<=1000;omega,Ev.succ (Ev.ff (by decide) .done)⟩
  |succ m ih=>
   intro i1 z b h f hz;by_cases p:i1=0
   ·subst p;exact⟨(0,z),by show z.size<=1000;omega,Ev.succ (Ev.ff (by decide) .done)⟩
   ·have l:i1.tdiv 10=i1 / 10:=jN b;have g:(10:Int) ^ (m+1)=10 ^ m*10:=Int.pow_succ _ _;have i:catB (strOf ([(⟨IntKind.wrap .u8 (W64 (48+(i1.tmod 10)))⟩:IntK .u8)])) z=V (strOf ([(⟨IntKind.wrap .u8 (W64 (48+(i1.tmod 10)))⟩:IntK .u8)])++z):=qxR (by rw[qur];omega);obtain⟨o,c,e⟩:=ih (i1 / 10) (strOf ([(⟨IntKind.wrap .u8 (W64 (48+(i1.tmod 10)))⟩:IntK .u8)])++z) (by omega) (by omega) (by omega) (by rw[ByteArray.size_append,qur];omega);refine⟨o,c,Ev.succ ?_⟩;simp only[qgj,show decide (i1 > 0)=true by simp;omega,cond_true,i,jd,l,qK (show -9223372036854775808<=i1 / 10 by omega) (by omega)];exact e
 unfold qeJ;by_cases b:k<=0
 ·exact⟨_,Ev.tt (by simpa using b) .done⟩
 ·obtain⟨⟨u,d⟩,c,e⟩:=a 16 k ⟨#[]⟩ (by omega) (by omega) (by have:(10:Int) ^ 16=10000000000000000:=rfl;omega) (by decide);refine⟨(⟨#[109]⟩:ByteArray)++d,Ev.ff (by simp;omega) (Ev.bind e ?_)⟩;have c:d.size<=1000:=c;show Ev (fun n=>(catB ⟨#[109]⟩ d).bind fun r=>V r) _;rw[qxR (show(⟨#[109]⟩:ByteArray).size+d.size<=1000000 by have:(⟨#[109]⟩:ByteArray).size=1:=rfl;omega)];exact .done
theorem qzq{α:Type}{a:List α}:(a.map (fun _=>0)).sum=0:=by induction a<;>simp_all
theorem qpx{a:(List qv)}{k:Int}(f:0<=k)(b:k+16*(qdq a:Int)<=1000000000000)(c:qdq a<=1048576):Mk (fun n=>qiM n a k) k (qdq a):=by
 refine qie (a:=a) (wt:=(fun x:qv=>qeB x)) f b (Lf:=qdK a) (fun n t k=>by simp only[qdK,qk (je _),cond_false]) (fun x d k f b=>?_) (by simp only[qdq] at c;omega) (fun _=>rfl);have m:=qcI (wt:=(fun x:qv=>qeB x)) d;have g:qeB x=qa3 x.Bo+qa3 x.Bk+qa3 x.Bj:=rfl;have c:a.length+(a.map (fun x:qv=>qeB x)).sum<=1048576:=c;simp only[g] at m b⊢;obtain⟨o,x1,r,z,C⟩:=qfX (a:=x.Bo) (k:=k) (by omega) (by omega) (by omega);obtain⟨p,v,s,A,D⟩:=qfX (a:=x.Bk) (k:=o) (by omega) (by omega) (by omega);obtain⟨k3,x3,u,B,F⟩:=qfX (a:=x.Bj) (k:=p) (by omega) (by omega) (by omega);refine⟨⟨x1,v,x3⟩,k3,by omega,by omega,fun t j i l y d X h=>?_⟩;simp only[qdK,qi l,cond_true,qcB i]
 try simp only[qao d,jd]
 refine Ev.bind r ?_;refine Ev.bind s ?_;refine Ev.bind u ?_;exact h
theorem qv0{a:(List qI)}{k:Int}(f:0<=k)(b:k+16*(qin a:Int)<=1000000000000)(c:qin a<=1048576):Mk (fun n=>qmJ n a k) k (qin a):=by
 refine qie (a:=a) (wt:=(fun x:qI=>qjP x)) f b (Lf:=qe0 a) (fun n t k=>by simp only[qe0,qk (je _),cond_false]) (fun x d k f b=>?_) (by simp only[qin] at c;omega) (fun _=>rfl);have r:=qcI (wt:=(fun x:qI=>qjP x)) d;have l:qjP x=qdq x.Bp+qdq x.Bf:=rfl;have c:a.length+(a.map (fun x:qI=>qjP x)).sum<=1048576:=c;simp only[l] at r b⊢;have e1:W64 (k+1)=k+1:=qK (by omega) (by omega);have g:W64 (k+1+1)=k+1+1:=qK (by omega) (by omega);have h:W64 (k+1+1+1)=k+1+1+1:=qK (by omega) (by omega);have i:W64 (k+1+1+1+1)=k+1+1+1+1:=qK (by omega) (by omega);obtain⟨s,x1,v,B,D⟩:=qpx (a:=x.Bp) (k:=k+1+1+1+1) (by omega) (by omega) (by omega);obtain⟨u,z,y,C,F⟩:=qpx (a:=x.Bf) (k:=s) (by omega) (by omega) (by omega);refine⟨⟨k,k+1,k+1+1,k+1+1+1,x1,z⟩,u,by omega,by omega,fun t j o p A d X m=>?_⟩;simp only[qe0,qi p,cond_true,qcB o]
 try simp only[qao d,jd,e1,g,h,i]
 refine Ev.bind v ?_;refine Ev.bind y ?_;exact m
theorem qvS{a:(List qan)}{k:Int}(g:0<=k)(c:k+16*(qim a:Int)<=1000000000000)(d:qim a<=1048576):Mk (fun n=>qmL n a k) k (qim a):=by
 refine qie (a:=a) (wt:=(fun x:qan=>qlS x)) g c (Lf:=qeT a) (fun n t k=>by simp only[qeT,qk (je _),cond_false]) (fun x f k g c=>?_) (by simp only[qim] at d;omega) (fun _=>rfl);have s:=qcI (wt:=(fun x:qan=>qlS x)) f;have m:qlS x=x.Bc.size:=rfl;have d:a.length+(a.map (fun x:qan=>qlS x)).sum<=1048576:=d;simp only[m] at s c⊢;obtain⟨v,b⟩:=qkM (k:=k) (by omega);have e1:W64 (k+1)=k+1:=qK (by omega) (by omega);have h:W64 (k+1+1)=k+1+1:=qK (by omega) (by omega);have i:W64 (k+1+1+1)=k+1+1+1:=qK (by omega) (by omega);have l:W64 (k+1+1+1+1)=k+1+1+1+1:=qK (by omega) (by omega);refine⟨⟨v,k+1,k+1+1,((k+1+1+1).tmod 3)==0⟩,k+1+1+1+1,by omega,by omega,fun t j p r u f X o=>?_⟩;simp only[qeT,qi r,cond_true,qcB p]
 try simp only[qao f,qsJ u,jd,qrg]
 refine Ev.bind b ?_
 try simp only[e1,h,i,l]
 exact o
theorem quW{a:(List qB)}{k:Int}(h:0<=k)(d:k+16*(qgy a:Int)<=1000000000000)(f:qgy a<=1048576):Mk (fun n=>qlH n a k) k (qgy a):=by
 refine qie (a:=a) (wt:=(fun x:qB=>qgo x)) h d (Lf:=qd5 a) (fun n t k=>by simp only[qd5,qk (je _),cond_false]) (fun x g k h d=>?_) (by simp only[qgy] at f;omega) (fun _=>rfl);have u:=qcI (wt:=(fun x:qB=>qgo x)) g;have o:qgo x=x.Bc.size+qim x.Bg+qin x.Ba+qa3 x.Bq:=rfl;have f:a.length+(a.map (fun x:qB=>qgo x)).sum<=1048576:=f;simp only[o] at u d⊢;obtain⟨B,c⟩:=qkM (k:=k) (by omega);have e1:W64 (k+1)=k+1:=qK (by omega) (by omega);have i:W64 (k+1+1)=k+1+1:=qK (by omega) (by omega);obtain⟨v,C,y,H,K⟩:=qvS (a:=x.Bg) (k:=k+1+1) (by omega) (by omega) (by omega);obtain⟨k3,x3,z,I,L⟩:=qv0 (a:=x.Ba) (k:=v) (by omega) (by omega) (by omega);obtain⟨b,D,A,J,M⟩:=qfX (a:=x.Bq) (k:=k3) (by omega) (by omega) (by omega);have l:W64 (b+1)=b+1:=qK (by omega) (by omega);have m:W64 (b+1+1)=b+1+1:=qK (by omega) (by omega);refine⟨⟨B,k+1,C,x3,D,b,b+1⟩,b+1+1,by omega,by omega,fun t j r s F g X p=>?_⟩;simp only[qd5,qi s,cond_true,qcB r]
 try simp only[qao g,jd]
 refine Ev.bind c ?_
 try simp only[e1,i]
 refine Ev.bind y ?_;refine Ev.bind z ?_;refine Ev.bind A ?_
 try simp only[l,m]
 exact p
theorem qsW{a:qq}{k:Int}(g:0<=k)(b:k+16*(qe3 a:Int)<=1000000000000)(c:qe3 a<=1048576):Mk (fun n=>qh0 n a k) k (qe3 a):=by
 simp only[qe3] at b c⊢;obtain⟨d,x1,f,h,i⟩:=quW (a:=a.As) (k:=k) (by omega) (by omega) (by omega);refine⟨d,x1,?_,by omega,by omega⟩;unfold qh0;exact Ev.bind f (.done)
theorem qqN{a:(List ql)}{k:Int}(g:0<=k)(c:k+16*(qb8 a:Int)<=1000000000000)(d:qb8 a<=1048576):Mk (fun n=>qiS n a k) k (qb8 a):=by
 refine qie (a:=a) (wt:=(fun x:ql=>qbS x)) g c (Lf:=qcw a) (fun n t k=>by simp only[qcw,qk (je _),cond_false]) (fun x f k g c=>?_) (by simp only[qb8] at d;omega) (fun _=>rfl);have p:=qcI (wt:=(fun x:ql=>qbS x)) f;have i:qbS x=x.Bc.size+qa3 x.Am:=rfl;have d:a.length+(a.map (fun x:ql=>qbS x)).sum<=1048576:=d;simp only[i] at p c⊢;obtain⟨u,b⟩:=qkM (k:=k) (by omega);have e1:W64 (k+1)=k+1:=qK (by omega) (by omega);have h:W64 (k+1+1)=k+1+1:=qK (by omega) (by omega);obtain⟨r,v,s,z,A⟩:=qfX (a:=x.Am) (k:=k+1+1) (by omega) (by omega) (by omega);refine⟨⟨u,k+1,v⟩,r,by omega,by omega,fun t j m o y f X l=>?_⟩;simp only[qcw,qi o,cond_true,qcB m]
 try simp only[qao f,jd]
 refine Ev.bind b ?_
 try simp only[e1,h]
 refine Ev.bind s ?_;exact l
theorem qtg{a:(List ByteArray)}{k:Int}(b:0<=k)(c:k+16*(qeS a:Int)<=1000000000000)(l:qeS a<=1048576):Mk (fun n=>qj3 n a k) k (qeS a):=by
 refine qie (a:=a) (wt:=(fun x:ByteArray=>x.size)) b c (Lf:=qdd a) (fun n t k=>by simp only[qdd,qk (je _),cond_false]) (fun x d k b c=>?_) (by simp only[qeS] at l;omega) (fun _=>rfl);obtain⟨s,f⟩:=qkM (k:=k) (by omega);have e1:W64 (k+1)=k+1:=qK (by omega) (by omega);refine⟨s,k+1,by omega,by omega,fun t j h i m d X g=>?_⟩;simp only[qdd,qi i,cond_true,e1,qcB h];refine Ev.bind f ?_
 try simp only[qao d,jd]
 exact g
theorem quQ{a:(List qP)}{k:Int}(g:0<=k)(c:k+16*(qgK a:Int)<=1000000000000)(d:qgK a<=1048576):Mk (fun n=>qlI n a k) k (qgK a):=by
 refine qie (a:=a) (wt:=(fun x:qP=>qiX x)) g c (Lf:=qec a) (fun n t k=>by simp only[qec,qk (je _),cond_false]) (fun x f k g c=>?_) (by simp only[qgK] at d;omega) (fun _=>rfl);have r:=qcI (wt:=(fun x:qP=>qiX x)) f;have l:qiX x=x.Bc.size:=rfl;have d:a.length+(a.map (fun x:qP=>qiX x)).sum<=1048576:=d;simp only[l] at r c⊢;obtain⟨u,b⟩:=qkM (k:=k) (by omega);have e1:W64 (k+1)=k+1:=qK (by omega) (by omega);have h:W64 (k+1+1)=k+1+1:=qK (by omega) (by omega);have i:W64 (k+1+1+1)=k+1+1+1:=qK (by omega) (by omega);refine⟨⟨u,k+1,k+1+1⟩,k+1+1+1,by omega,by omega,fun t j o p s f X m=>?_⟩;simp only[qec,qi p,cond_true,qcB o]
 try simp only[qao f,qsJ s,jd,qrg]
 refine Ev.bind b ?_
 try simp only[e1,h,i]
 exact m
theorem qtw{a:qd}{k:Int}(m:0<=k)(b:k+16*(qe9 a:Int)<=1000000000000)(c:qe9 a<=1048576):Mk (fun n=>qiL n a k) k (qe9 a):=by
 simp only[qe9] at b c⊢;obtain⟨d,x1,g,o,s⟩:=qqN (a:=a.Ab) (k:=k) (by omega) (by omega) (by omega);obtain⟨f,l,h,p,t⟩:=qtg (a:=a.Am) (k:=d) (by omega) (by omega) (by omega);obtain⟨k3,x3,i,r,u⟩:=quQ (a:=a.Aj) (k:=f) (by omega) (by omega) (by omega);refine⟨k3,(x1,l,x3),?_,by omega,by omega⟩;unfold qiL;exact Ev.bind g (Ev.bind h (Ev.bind i (.done)))
theorem qu1{a:(List qE)}{k:Int}(f:0<=k)(b:k+16*(qgF a:Int)<=1000000000000)(c:qgF a<=1048576):Mk (fun n=>qlW n a k) k (qgF a):=by
 refine qie (a:=a) (wt:=(fun x:qE=>qga x)) f b (Lf:=qei a) (fun n t k=>by simp only[qei,qk (je _),cond_false]) (fun x d k f b=>?_) (by simp only[qgF] at c;omega) (fun _=>rfl);have m:=qcI (wt:=(fun x:qE=>qga x)) d;have g:qga x=qa3 x.Ar+qa3 x.Bz+qa3 x.Bu+qa3 x.Bn:=rfl;have c:a.length+(a.map (fun x:qE=>qga x)).sum<=1048576:=c;simp only[g] at m b⊢;obtain⟨o,x1,s,C,I⟩:=qfX (a:=x.Ar) (k:=k) (by omega) (by omega) (by omega);obtain⟨p,z,u,D,J⟩:=qfX (a:=x.Bz) (k:=o) (by omega) (by omega) (by omega);obtain⟨k3,x3,v,F,K⟩:=qfX (a:=x.Bu) (k:=p) (by omega) (by omega) (by omega);obtain⟨r,A,y,H,L⟩:=qfX (a:=x.Bn) (k:=k3) (by omega) (by omega) (by omega);refine⟨⟨x1,z,x3,A⟩,r,by omega,by omega,fun t j i l B d X h=>?_⟩;simp only[qei,qi l,cond_true,qcB i]
 try simp only[qao d,jd]
 refine Ev.bind s ?_;refine Ev.bind u ?_;refine Ev.bind v ?_;refine Ev.bind y ?_;exact h
theorem qu6{a:qj}{k:Int}(p:0<=k)(f:k+16*(qgJ a:Int)<=1000000000000)(g:qgJ a<=1048576):Mk (fun n=>qjt n a k) k (qgJ a):=by
 simp only[qgJ] at f g⊢;obtain⟨h,x1,l,r,u⟩:=qsW (a:=a.Av) (k:=k) (by omega) (by omega) (by omega);obtain⟨i,⟨b,c,d⟩,m,s,v⟩:=qtw (a:=a.Aa) (k:=h) (by omega) (by omega) (by omega);obtain⟨k3,x3,o,t,x⟩:=qu1 (a:=a.Ah) (k:=i) (by omega) (by omega) (by omega);refine⟨k3,(x1,b,c,d,x3),?_,by omega,by omega⟩;unfold qjt;exact Ev.bind l (Ev.bind m (Ev.bind o (.done)))
theorem qs4{a:(List qf)}{k:Int}(c:0<=k)(d:k+16*(qeX a:Int)<=1000000000000)(s:qeX a<=1048576):Mk (fun n=>qjZ n a k) k (qeX a):=by
 rw[show qeX a=a.length+(a.map (fun _:qf=>0)).sum by unfold qeX;rw[qzq,Jj]] at *;refine qie (a:=a) (wt:=(fun _:qf=>0)) c d (Lf:=qdf a) (fun n t k=>by simp only[qdf,qk (je _),cond_false]) (fun x b k c d=>?_) (by omega) (fun _=>rfl);have r:=qcI (wt:=(fun _:qf=>0)) b;have e1:W64 (k+1)=k+1:=qK (by omega) (by omega);have f:W64 (k+1+1)=k+1+1:=qK (by omega) (by omega);have g:W64 (k+1+1+1)=k+1+1+1:=qK (by omega) (by omega);have h:W64 (k+1+1+1+1)=k+1+1+1+1:=qK (by omega) (by omega);have i:W64 (k+1+1+1+1+1)=k+1+1+1+1+1:=qK (by omega) (by omega);refine⟨⟨k,⟨k+1,k+1+1⟩,⟨k+1+1+1,k+1+1+1+1⟩⟩,k+1+1+1+1+1,by omega,by omega,fun t j m o p b X l=>?_⟩;simp only[qdf,qi o,cond_true,qcB m]
 try simp only[qao b,qsJ p,jd,qrg,e1,f,g,h,i]
 exact l
theorem qxd{a:qaP}{k:Int}(t:0<=k)(h:k+16*(qk1 a:Int)<=1000000000000)(i:qk1 a<=1048576):Mk (fun n=>qk3 n a k) k (qk1 a):=by
 simp only[qk1] at h i⊢;obtain⟨l,⟨b,c,d,f,g⟩,o,u,y⟩:=qu6 (a:=a.Ac) (k:=k) (by omega) (by omega) (by omega);obtain⟨m,s,p,v,z⟩:=qfX (a:=a.Bb) (k:=l) (by omega) (by omega) (by omega);obtain⟨k3,x3,r,x,A⟩:=qs4 (a:=a.Aq) (k:=m) (by omega) (by omega) (by omega);refine⟨k3,(b,c,d,f,g,s,x3),?_,by omega,by omega⟩;unfold qk3;exact Ev.bind o (Ev.bind p (Ev.bind r (.done)))
end Go.Fw


namespace Go.Fw
open Go Go.Proofs Go.Proofs.Tryz
open Go.RowKit (Below)
open Ch renaming own->oW,box->oX,grp->oG
open GoT renaming v->oV
open Go.Value renaming slice->oS
set_option maxRecDepth 100000
set_option maxHeartbeats 6400000
variable{n:Nat}{w:World}{cs1 cs2 cs3 cs4 cs5 cs6 cs7 cs8 cs9:List Value}
def qiW(n:Nat)(b:qaP)(c:Int)(d:Int)(f:Int):Option Bool:=(qnS n b 1048576).bind fun B=>bif decide (B<0) then V true else(qiY n b).bind fun C=>(qmk n C c d f).bind fun(r4,x)=>(qiY n b).bind fun a=>(qkB n a c d f).bind fun(y,z)=>((qhY n y r4).bind fun v=>bif (!v) then V true else V (z != x)).bind fun b1=>bif b1 then V false else(qiY n b).bind fun k=>(qnK n a k).bind fun l=>bif (!l) then V false else(qk3 n (⟨(⟨(⟨a.Ac.Av.As⟩:qq),(⟨a.Ac.Aa.Ab,a.Ac.Aa.Am,a.Ac.Aa.Aj⟩:qd),a.Ac.Ah⟩:qj),(⟨a.Af.Bc,a.Af.Ap,a.Af.Az,a.Af.Ak,a.Af.Ay⟩:qu),a.Bb,a.Aq⟩:qaP) 1).bind fun(m,_,_,_,_,_,_,_)=>(bif decide (m<0) then V true else(qhY n y r4).bind fun u=>bif (!u) then V true else V (z != x)).bind fun b2=>bif b2 then V false else(qjb n y 1).bind fun(g,A)=>(qhw n A 1).bind fun h=>bif decide (h<0) then V false else bif (h != g) then V false else(qiY n b).bind fun p=>(qkB n p c d f).bind fun(r,s)=>((qhY n r r4).bind fun t=>bif (!t) then V true else V (s != x)).bind fun b3=>bif b3 then V false else(qhw n A 1).bind fun i=>bif decide (i<0) then V false else bif (i != g) then V false else V true
theorem qod{p:qaP}{l m o}(i:Ro w p cs1){r:Bool}(F:qiW n p l m o=V r):RetV prog 4 [oV qaP cs1,vi l,vi m,vi o] w r:=by
 obtain⟨_,_,_,_,_,_,_,_,_,_,_,_,_,_,rfl,s1,s2,s3,s4,s5,s6,s7⟩:=qdy i;refine zV 111 func4 Z fun h=>zSR (qx h Z Z fun _ R h=>X1 10 0 h Z (zcI h F (qtn (h.old i)) Z fun _ _ h F=>X0 8 Z (qg Z F ?_ ?_)))<;>intro F
 ·exact X0 4 Z (rb h F Z)
 refine X1 4 0 h Z (zcO h F (qkf (h.old i)) Z fun _ _ _ _ h F=>?_);obtain⟨_,_,_,_,_,_,_,_,_,_,_,_,_,_,rfl,-,-,-,-,-,-,-⟩:=qdy (h.own 0 Z);refine zp3 Z ?_;have b:Rg (old w) w (old w) w:=.start (fun _ h=>h);obtain⟨⟨r4,r5⟩,c6,F⟩:=qc F;refine qiK (r4,r5) b h (cB 15 Z) (qs0 (b.regOld h) (Rg.ownR 0 h Z) c6) Z Z Z Z fun w4 _ _ a c d9 d3=>?_;have hL1:=h.ext c.below;have u:=Up.box 1 h c Z;have s15:=Up.S b h c s1;have s16:=Up.S b h c s2;have s17:=Up.S b h c s3;have s18:=Up.S b h c s4;have s19:=Up.S b h c s5;have s20:=Up.S b h c s6;have s21:=Up.S b h c s7;have O:=Up.R b h c i;have ha2:=Up.boxP (x:=p) b 1 h c Z (b.inR h i);have hb1:=h.below.trans (c.below.mono h.below.size);replace h:=d9;obtain⟨_,_,rfl,c7,d4⟩:=qnl d3;obtain⟨b4,a9,rfl,P⟩:=c7;obtain⟨_,rfl,c8⟩:=qj1 d4;obtain rfl:=c8;refine X0 8 Z (zc 0 (u.below h.below) Z (zcO h F (qkf (h.old (GoT.mono O a.old))) Z fun k _ S2 _ h F=>?_));obtain⟨H,v,I,y,J,z,K,A,L,B,M,C,N,D,rfl,-,-,-,-,-,-,-⟩:=qdy (h.own 0 Z);refine qp qa h Z Z Z fun _ S h=>zs 0 h Z fun _ h=>X1 7 0 h Z ?_;obtain⟨⟨g,r9⟩,c9,F⟩:=qc F;refine qaI (g,r9) h (cB 16 Z) (qoX (h.own 1 Z) c9) Z Z Z Z fun _ _ _ d5 d0=>?_;obtain⟨S4,_,f,d,_,rfl,d6,d1⟩:=d5.consL d0;obtain⟨rfl,h⟩:=d6.lastI d1;refine X0 8 Z ?_;obtain⟨b8,a3,_,F,W⟩:=bindE F;refine qaV (fun e w'=>∃b1,b8 b1=V r/\e=[(1,vi l),(2,vi m),(3,vi o),(4,vp R),(10,oS b4 r4.length a9),(11,vi r5),(12,vp S),(13,oS f g.length d),(14,vi r9),(52,.bool b1)]/\SH w4 w' [oW S4 (g:List qh) [oS f g.length d],oX S (qpK k H I J K L M N v y z A B C D) 57,oW S2 (k:qaP) (qpK k H I J K L M N v y z A B C D)]) ?_ ?_
 ·refine X0 3 Z (zcB h F (qkV (h.own 0 Z) ⟨_,_,rfl,(h.oldS (P.mono a.old))⟩) Z fun _ _ h F=>zp2 Z (qn (t:=48) F Z ?_ ?_))<;>intro F
  ·refine X0 5 Z ?_;obtain rfl:=qb F;exact rG ⟨_,W,rfl,h⟩ Z
  refine X0 8 Z ?_;obtain rfl:=qb F;exact rG ⟨_,W,rfl,h⟩ Z
 rintro _ _ ⟨b1,F,rfl,h⟩;subst a3;refine qg Z F ?_ ?_<;>intro F
 ·refine X0 4 Z ?_;replace h:=h.unbase a.below ⟨fun _ h=>h,⟨fun _ h=>h,⟨fun _ h=>h,G⟩⟩⟩;exact rb h F Z
 refine zKSS (rA [] [1] h Z fun _ h=>M1 1 [0] 0 (h.p [1] Z) Z (Al 1 3 0 u (h.p [1] Z) Z (Ao 2 7 Z (zcO h F (qkf (h.old (GoT.mono O a.old))) Z fun _ _ _ _ h F=>?_))));obtain⟨_,_,_,_,_,_,_,_,_,_,_,_,_,_,rfl,-,-,-,-,-,-,-⟩:=qdy (h.own 0 Z);refine Ag (h.p [2] Z) (Ao 3 15 Z (zcB h F (qto (h.own 3 Z) (h.own 0 Z)) Z fun _ _ h F=>G0 31 [4] (h.p [2] Z) Z (Ad (qg Z F ?_ ?_))))<;>intro F
 ·refine X0 4 Z ?_;replace h:=h.unbase a.below ⟨fun _ h=>h,⟨fun _ h=>h,⟨fun _ h=>h,⟨fun _ h=>h,G⟩⟩⟩⟩;exact rb h F Z
 refine X1 9 2 h Z ?_;replace h:=h.p [3,0,1,2] Z;obtain⟨_,_,_,h⟩:=qwk h;replace h:=h.p [2,0,1,3,4,5] Z;obtain⟨_,_,_,h⟩:=qtu h;replace h:=h.p [2,0,1,3,4,5,6,7] Z;obtain⟨_,h⟩:=qs6 h;replace h:=h.p [2,0,1,3,4,5,6,7] Z;obtain⟨_,_,_,h⟩:=qtk h;replace h:=h.p [5,6,4,0,1,2,3,8] Z;obtain⟨⟨e2,x1,x2,x3,x4,x5,x6,x7⟩,a4,F⟩:=qc F;refine qcp e2 (cB 12 Z) (qqR h a4) Z Z Z Z ?_;rintro _ ⟨b9,c0,c1,c2,c3,c4,c5,h⟩;replace h:SH _ _ [oW c5 (x7:List qf) [oS N k.Aq.length D],oW c4 (x6:List Int) [oS M k.Bb.length C],oW c3 (x5:List qE) [oS L k.Ac.Ah.length B],oW c2 (x4:List qP) [oS K k.Ac.Aa.Aj.length A],oW c1 (x3:List ByteArray) [oS J k.Ac.Aa.Am.length z],oW c0 (x2:List ql) [oS I k.Ac.Aa.Ab.length y],oW b9 (x1:List qB) [oS H k.Ac.Av.As.length v],oW S4 (g:List qh) [oS f g.length d]]:=h;refine X0 4 Z ?_;obtain⟨b7,Y,_,F,s⟩:=bindE F;refine qaV (fun e w'=>∃b2,b7 b2=V r/\e=[(1,vi l),(2,vi m),(3,vi o),(4,vp R),(10,oS b4 r4.length a9),(11,vi r5),(13,oS f g.length d),(73,.bool b2)]/\SH w4 w' [oW S4 (g:List qh) [oS f g.length d]]) ?_ ?_
 ·refine X0 4 Z (qn (t:=63) F Z ?_ ?_)<;>intro F
  ·refine X0 11 Z ?_;replace h:=h.p [7] Z;obtain rfl:=qb F;exact rG ⟨_,s,rfl,h⟩ Z
  refine X0 5 Z (zcB h F (qkV (h.own 7 Z) ⟨_,_,rfl,(h.oldS (P.mono a.old))⟩) Z fun _ _ h F=>X0 4 Z (qn (t:=69) F Z ?_ ?_))<;>intro F
  ·refine X0 5 Z ?_;replace h:=h.p [7] Z;obtain rfl:=qb F;exact rG ⟨_,s,rfl,h⟩ Z
  refine X0 8 Z ?_;replace h:=h.p [7] Z;obtain rfl:=qb F;exact rG ⟨_,s,rfl,h⟩ Z
 rintro _ _ ⟨b2,F,rfl,h⟩;subst Y;refine qg Z F ?_ ?_<;>intro F
 ·refine X0 4 Z ?_;replace h:=h.unbase a.below ⟨fun _ h=>h,G⟩;exact rb h F Z
 refine X0 9 Z ?_;obtain⟨⟨b5,x8⟩,a5,F⟩:=qc F;refine qcp b5 (cB 18 Z) (qpZ h a5) Z Z Z Z ?_;rintro _ ⟨Q,h⟩;replace h:SH _ _ [oW Q (x8:List qh) [oS f g.length d]]:=h;refine X0 10 Z (zcI h F (qmj (h.own 0 Z)) Z fun _ _ h F=>X0 8 Z (qg Z F ?_ ?_))<;>intro F
 ·refine X0 4 Z ?_;replace h:=h.unbase a.below ⟨fun _ h=>h,G⟩;exact rb h F Z
 refine X0 8 Z (qg Z F ?_ ?_)<;>intro F
 ·refine X0 4 Z ?_;replace h:=h.unbase a.below ⟨fun _ h=>h,G⟩;exact rb h F Z
 refine zKSR (zc 0 (u.below h.below) Z (zcO h F (qkf (h.old (GoT.mono O a.old))) Z fun _ _ _ _ h F=>?_));obtain⟨_,_,_,_,_,_,_,_,_,_,_,_,_,_,rfl,-,-,-,-,-,-,-⟩:=qdy (h.own 0 Z);refine zp3 Z ?_;obtain⟨⟨e3,e4⟩,a6,F⟩:=qc F;refine qaI (e3,e4) h (cB 16 Z) (qoX (h.own 0 Z) a6) Z Z Z Z fun _ _ _ d7 a7=>?_;obtain⟨_,_,_,_,_,rfl,d8,a8⟩:=d7.consL a7;obtain⟨rfl,h⟩:=d8.lastI a8;refine X0 8 Z ?_;obtain⟨b6,X,_,F,T⟩:=bindE F;refine qaV (fun e w'=>∃b3,b6 b3=V r/\e=[(13,oS f g.length d),(16,vi b5),(102,.bool b3)]/\SH w4 w' [oW Q (x8:List qh) [oS f g.length d]]) ?_ ?_
 ·refine X0 3 Z (zcB h F (qkV (h.own 0 Z) ⟨_,_,rfl,(h.oldS (P.mono a.old))⟩) Z fun _ _ h F=>zp2 Z (qn (t:=98) F Z ?_ ?_))<;>intro F
  ·refine X0 5 Z ?_;replace h:=h.p [2] Z;obtain rfl:=qb F;exact rG ⟨_,T,rfl,h⟩ Z
  refine X0 8 Z ?_;replace h:=h.p [2] Z;obtain rfl:=qb F;exact rG ⟨_,T,rfl,h⟩ Z
 rintro _ _ ⟨b3,F,rfl,h⟩;subst X;refine qg Z F ?_ ?_<;>intro F
 ·refine X0 4 Z ?_;replace h:=h.unbase a.below ⟨fun _ h=>h,G⟩;exact rb h F Z
 refine X0 9 Z (zcI h F (qmj (h.own 0 Z)) Z fun _ _ h F=>X0 8 Z (qg Z F ?_ ?_))<;>intro F
 ·refine X0 4 Z ?_;replace h:=h.unbase a.below ⟨fun _ h=>h,G⟩;exact rb h F Z
 refine X0 8 Z (qg Z F ?_ ?_)<;>intro F
 ·refine X0 4 Z ?_;replace h:=h.unbase a.below ⟨fun _ h=>h,G⟩;exact rb h F Z
 refine X0 5 Z ?_;replace h:=h.unbase a.below ⟨fun _ h=>h,G⟩;exact rb h F Z
end Go.Fw


namespace Go.Fw
open Go
set_option maxRecDepth 100000
theorem qCs{a:List Int}:∀(b done:List Int) (i1:Int),a.length=done.length+b.length->0<=i1->i1+b.length<=4000000000000->a.length<=1048576 ->
  Ev (fun n=>qbh a n (done++b) i1 (done.length:Int)) (done++pre (fun q=>i1+(q:Int)) b.length,i1+(b.length:Int),(a.length:Int))
 | [],done,i1,h,_,_,_=>by
  have e:done.length=a.length:=by simpa using h.symm
  refine Ev.succ ?_;rw[e];simp only[qbh,qk (je _),cond_false];simp[pre];exact .done
 |x::b,done,i1,h,h0,h1,hl=>by
  rw[jH] at h h1;have f:done.length<a.length:=by omega
  have d:idx (done++x::b) (done.length:Int)=V x:=by
   rw[qcX (by rw[jg,jH];omega),List.getElem_append_right (je _)];simp
  have c:setS (done++x::b) (done.length:Int) i1=(done++[i1])++b:=by
   unfold setS;rw[jr,List.set_append_right _ _ (je _),Nat.sub_self];simp
  have k:W64 (i1+1)=i1+1:=qK (by omega) (by omega);have g:=qCs (a:=a) b (done++[i1]) (i1+1) (by rw[jg,jj];omega) (by omega) (by omega) hl;rw[jg,jj] at g;refine Ev.succ ?_;simp only[qbh,qi f,cond_true,d,jd,c,k,qcB (show done.length<9223372036854775807 by omega)];have e1:(done++[i1])++pre (fun q=>i1+1+(q:Int)) b.length=done++pre (fun q=>i1+(q:Int)) (x::b).length:=by
   rw[jp,jH];refine congrArg (done++·) ?_;unfold pre;rw[List.range_succ_eq_map,jT,Jp,List.singleton_append];have l:List.map ((fun q:Nat=>i1+(q:Int)) ∘ Nat.succ) (List.range b.length)=List.map (fun q:Nat=>i1+1+(q:Int)) (List.range b.length):=List.map_congr_left fun q _=>by
    show i1+((q+1:Nat):Int)=i1+1+(q:Int);omega
   rw[l];simp
  have i:i1+1+(b.length:Int)=i1+((x::b).length:Int):=by rw[jH];omega
  rw[<-e1,<-i];exact g
theorem qCn{a:List Int}{k:Int}(b:0<=k)(d:k<=2000000000000)(c:a.length<=1048576):Ev (fun n=>qaz n a k) (k+(a.length:Int),pre (fun q=>k+(q:Int)) a.length):=by
 unfold qaz;exact Ev.bind (qCs a [] k (by simp) b (by omega) c) .done
theorem qCw{m:Nat}{k:Int}(d:0<=k)(f:k<=2000000000000)(g:m<=1048576):Ev (fun n=>qiH n (pre (fun q=>k+(q:Int)) m) k) (k+(m:Int)):=by
 have:=loopF (Lf:=fun n s i=>qds (pre (fun q=>k+(q:Int)) m) n s i) (S:=fun i=>k+(i:Int)) (len:=m) (fin:=.nxt (k+(m:Int),(m:Int)))
  (fun n=>by simp only[qds,qnJ,qk (je _),cond_false])
  (fun i hi X c=>by
   have a:W64 (k+(i:Int)+1)=k+((i+1:Nat):Int):=by rw[qK (by omega) (by omega)];omega
   simp only[qds,qnJ];refine Ev.tt (qi hi) (Ev.bindN (qh8 hi) (Ev.ff (by simp) ?_));rw[a,wS i];exact c)
 unfold qiH;refine Ev.bind (b:=.nxt (k+(m:Int),(m:Int))) ?_ .done;simpa using this
def mkP:List qh->Int->List qh
 | [],_=>[]
 |p::l,k=>⟨k,pre (fun q=>k+1+(q:Int)) p.Bd.length,k+1+(p.Bd.length:Int)⟩::mkP l (k+1+(p.Bd.length:Int)+1)
def endP:List qh->Int->Int
 | [],k=>k
 |p::l,k=>endP l (k+1+(p.Bd.length:Int)+1)
theorem qvc:∀(l:List qh) (k:Int),(mkP l k).length=l.length
 | [],_=>rfl
 |p::l,k=>by simp only[mkP,jH,qvc l]
theorem qwM{p:qh}{l:List qh}:qcG (p::l)=1+p.Bd.length+qcG l:=by
 have e:qqS p=p.Bd.length:=rfl;unfold qcG;simp only[jH,jT,List.sum_cons];omega
theorem qxB:∀(l:List qh) (k:Int),k<=endP l k/\endP l k<=k+2*(qcG l:Int)
 | [],k=>⟨Jg _,by simp[endP,qcG]⟩
 |p::l,k=>by
  have:=qxB l (k+1+(p.Bd.length:Int)+1);simp only[endP,qwM];omega
theorem qCt{a:List qh}(m:a.length<=1048576):∀(b done:List qh) (i1:Int),a.length=done.length+b.length->0<=i1->i1+2*(qcG b:Int)<=2000000000000->qcG b<=1048576 ->
  Ev (fun n=>qea a n (done++b) i1 (done.length:Int)) (done++mkP b i1,endP b i1,(a.length:Int))
 | [],done,i1,h,_,_,_=>by
  have e:done.length=a.length:=by simpa using h.symm
  refine Ev.succ ?_;rw[e];simp only[qea,qk (je _),cond_false];exact .done
 |p::b,done,i1,h,h0,h1,hw=>by
  rw[qwM] at h1 hw;rw[jH] at h;have g:done.length<a.length:=by omega
  have f:idx (done++p::b) (done.length:Int)=V p:=by
   rw[qcX (by rw[jg,jH];omega),List.getElem_append_right (je _)];simp
  have c:∀q,setS (done++p::b) (done.length:Int) q=(done++[q])++b:=fun q=>by
   unfold setS;rw[jr,List.set_append_right _ _ (je _),Nat.sub_self];simp
  have l:W64 (i1+1)=i1+1:=qK (by omega) (by omega);have d:W64 (i1+1+(p.Bd.length:Int)+1)=i1+1+(p.Bd.length:Int)+1:=qK (by omega) (by omega);have i:=qCt m b (done++[(⟨i1,pre (fun q=>i1+1+(q:Int)) p.Bd.length,i1+1+(p.Bd.length:Int)⟩:qh)]) (i1+1+(p.Bd.length:Int)+1) (by rw[jg,jj];omega) (by omega) (by omega) (by omega);rw[jg,jj,jp] at i;refine Ev.succ ?_;simp only[qea,l];refine Ev.tt (qi g) (Ev.bindN f (Ev.bind (qCn (a:=p.Bd) (k:=i1+1) (by omega) (by omega) (by omega)) ?_));simp only[c,d,qcB (show done.length<9223372036854775807 by omega)];simp only[mkP,endP];rw[jp];rw[jp] at i;exact i
theorem qCx{b:List qh}(o:b.length<=1048576):∀(a done:List qh) (i1:Int),b=done++mkP a i1->0<=i1->i1+2*(qcG a:Int)<=2000000000000->qcG a<=1048576 ->
  Ev (fun n=>qd4 b n i1 (done.length:Int)) (.nxt (endP a i1,(b.length:Int)))
 | [],done,i1,h,_,_,_=>by
  have e:done.length=b.length:=by rw[h];simp[mkP]
  refine Ev.succ ?_;rw[e];simp only[qd4,qk (je _),cond_false];exact .done
 |p::a,done,i1,h,h0,h1,hw=>by
  rw[qwM] at h1 hw;have l:b.length=done.length+1+a.length:=by rw[h];simp only[jg,qvc,jH];omega
  have d:done.length<b.length:=by omega
  have c:idx b (done.length:Int)=V (⟨i1,pre (fun q=>i1+1+(q:Int)) p.Bd.length,i1+1+(p.Bd.length:Int)⟩:qh):=by
   rw[qcX d];simp only[h,mkP];rw[List.getElem_append_right (je _)];simp
  have i:W64 (i1+1)=i1+1:=qK (by omega) (by omega);have f:W64 (i1+1+(p.Bd.length:Int)+1)=i1+1+(p.Bd.length:Int)+1:=qK (by omega) (by omega);have g:=qCx o a (done++[(⟨i1,pre (fun q=>i1+1+(q:Int)) p.Bd.length,i1+1+(p.Bd.length:Int)⟩:qh)]) (i1+1+(p.Bd.length:Int)+1) (by rw[h];simp[mkP]) (by omega) (by omega) (by omega);rw[jg,jj] at g;refine Ev.succ ?_;simp only[qd4,i];refine Ev.tt (qi d) (Ev.bindN c (Ev.ff (by simp) (Ev.bindN c (Ev.bind (qCw (m:=p.Bd.length) (k:=i1+1) (by omega) (by omega) (by omega)) (Ev.ff (decide_eq_false (by omega)) (Ev.bindN c (Ev.ff (by simp) ?_)))))));simp only[f,qcB (show done.length<9223372036854775807 by omega)];simp only[endP];exact g
theorem qzD{a:List qh}{k:Int}(d:0<=k)(h:k<=900000000000)(c:qcG a<=1048576):∃z y,Ev (fun n=>qjb n a k) (z,y)/\Ev (fun n=>qhw n y k) z/\(k<=z/\z<=k+16*(qcG a:Int)):=by
 have f:a.length<=1048576:=by unfold qcG at c;omega
 have g:=qxB a k;refine⟨endP a k,mkP a k,?_,?_,g.1,by omega⟩
 ·unfold qjb;exact Ev.bind (qCt f a [] k (by simp) d (by omega) c) .done
 ·unfold qhw;exact Ev.bind (qCx (b:=mkP a k) (by rw[qvc];exact f) a [] k (by simp) d (by omega) c) .done

theorem qqx{j:qaP}{node:Int}{mode:Int}{count:Int}(l:qsb j)(C:rngI node)(D:rngI mode)(F:rngI count):Ev (fun n=>qiW n j node mode count) true:=by
 unfold qiW;obtain⟨I,e1,g⟩:=qCg (a:=j) (left:=1048576) l (by omega) (by omega);refine Ev.bind e1 ?_;rcases g with g|⟨p1,g⟩
 ·exact Ev.tt (by simpa using g) .done
 refine Ev.ff (by simp;omega) ?_;have c:qk1 j<=1048576:=by omega
 have y:=qzZ l c;obtain⟨⟨R0,R1⟩,x,hi,d⟩:=qyy (j:=j) (node:=node) (mode:=mode) (count:=count) y;have d:qcG R0<=1048576:=d;refine Ev.bind (quX c) ?_;refine Ev.bind x ?_;refine Ev.bind (quX c) ?_;refine Ev.bind hi ?_;refine Ev.bind (b:=false) (Ev.bind (qsw d) (Ev.ff Z (Ev.now (by simp)))) (Ev.ff Z ?_);refine Ev.bind (quX c) ?_;refine Ev.bind (qB7 c) (Ev.ff Z ?_);obtain⟨H,⟨m,o,p,r,s,t,u⟩,i,z,A⟩:=qxd (a:=j) (k:=1) (by omega) (by omega) c;refine Ev.bind i ?_;refine Ev.bind (b:=false) (Ev.ff (by simp;omega) (Ev.bind (qsw d) (Ev.ff Z (Ev.now (by simp))))) (Ev.ff Z ?_);obtain⟨J,v,h,f,B⟩:=qzD (a:=R0) (k:=1) (by omega) (by omega) d;refine Ev.bind h ?_;refine Ev.bind f (Ev.ff (by simp;omega) (Ev.ff qaH ?_));refine Ev.bind (quX c) ?_;refine Ev.bind hi ?_;refine Ev.bind (b:=false) (Ev.bind (qsw d) (Ev.ff Z (Ev.now (by simp)))) (Ev.ff Z ?_);refine Ev.bind f (Ev.ff (by simp;omega) (Ev.ff qaH ?_));exact .done
end Go.Fw
