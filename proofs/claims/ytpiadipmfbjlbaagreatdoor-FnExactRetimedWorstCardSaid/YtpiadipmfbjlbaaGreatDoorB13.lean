/- By a program of mine (gen.py): for each function a plain function and the proof that the code computes it. -/
import Derived.Test.YtpiadipmfbjlbaaGreatDoorSP
import Derived.Test.YtpiadipmfbjlbaaGreatDoorB9
import Derived.Test.YtpiadipmfbjlbaaGreatDoorFw32
open Option renaming bind_some->jd, some->V, none->U
open Nat renaming le_refl->je, le_trans->Jb, add_zero->Jj, not_lt_zero->Jn
open Bool renaming and_eq_true->jf, true_and->jG, not_eq_true'->jI, not_true->Ji
open List renaming length_append->jg, getElem?_eq_getElem->jh, length_singleton->jm, mem_cons_of_mem->jo, getElem_mem->jp, append_assoc->jq, take_succ_eq_append_getElem->js, length_map->ju, length_take->jw, mem_cons_self->jx, getElem?_append_left->jy, drop_eq_getElem_cons->jz, getElem?_append_right->jB, getD_eq_getElem?_getD->jD, take_length->jE, length_replicate->jH, mem_append_left->jJ, map_append->jL, mem_append_right->jR, length_cons->jS, append_nil->jU, take_append_drop->jX, map_cons->Ja, getElem_take->Je, mem_cons->Jf, getElem?_drop->Jg, flatMap_append->Jl, nil_append->Jm, length_drop->Jo, map_map->Jq
open Int renaming toNat_natCast->jr, tdiv_eq_ediv_of_nonneg->jN, le_refl->Jd

namespace Go.Fw
open Go Go.Proofs Go.Proofs.Tryz
open Go.RowKit (Below)
open Ch renaming own->oW,box->oX,grp->oG
open GoT renaming v->oV
open Go.Value renaming slice->oS
set_option maxRecDepth 100000
set_option maxHeartbeats 6400000
variable{n:Nat}{w:World}{cs1 cs2 cs3 cs4 cs5 cs6 cs7 cs8 cs9:List Value}
def qdc(d:(Option Tl20Work))(node:Int):Nat->Int->Option (Flow (qf×Bool) Int)|0,_=>U|n+1,i1=>(d).bind fun a=>bif decide (i1<(a.j.Aq.length:Int)) then(idx a.j.Aq i1).bind fun b=>bif (b.Bs==node) then(idx a.j.Aq i1).bind fun c=>V (.ret (c,true)) else qdc d node n (W64 (i1+1)) else V (.nxt i1)
def qgw(n:Nat)(a:(Option Tl20Work))(node:Int):Option (qf×Bool):=(qdc a node n 0).bind fun|.ret r=>V r|.nxt _=>V ((⟨0,(⟨0,0⟩:qe),(⟨0,0⟩:qe)⟩:qf),false)
theorem qju{I:(Option Tl20Work)}{node}(d:Ro w I cs1){r:(qf×Bool)}(F:qgw n I node=V r):RetV prog 81 [oV (Option Tl20Work) cs1,vi node] w r:=by
 obtain⟨D,rfl,H⟩:=qaA d;refine zV 37 func81 Z fun h=>zSR (qq qa h Z Z Z fun _ b h=>X0 7 Z ?_);obtain⟨B,F,c⟩:=qc F;refine qm (rL (fun m e w'=>∃i1,qdc I node m i1=V B/\e=[(0,.pointer D),(1,vi node),(4,vp b),(6,vi i1)]/\SH w w' [oX b [vi 0,vi 0,vi 0,vi 0,vi 0] 128]) n ⟨_,F,rfl,h⟩ Z ?_);rintro y _ _ ⟨i1,F,rfl,h⟩;rcases y with _|y
 ·cases F
 refine X0 5 Z ?_;obtain⟨_,x,F⟩:=qc F;obtain⟨_,C,_,rfl,-,t,a⟩:=PtR.get H x;obtain⟨_,_,_,_,_,_,_,_,_,_,_,_,_,_,_,_,_,_,_,_,_,_,_,_,rfl,_,_,_,_,_,_,z,_,_,_,_,_⟩:=qkl t;refine zp3 Z (zc 11 (a.below h.below) Z (X0 3 Z (qi Z F ?_ ?_)))<;>intro F
 ·refine X0 9 Z (zc 11 (a.below h.below) Z (zp1 Z ?_));obtain⟨_,_,F,i,_,_,_,_,l,p,u,f⟩:=z.ix F;obtain rfl:=qF u;refine zxe l p i Z (zp1 Z (zc 0 (f.below h.below) Z (X0 3 Z (qi Z F ?_ ?_))))<;>intro F
  ·refine X0 6 Z (zc 11 (a.below h.below) Z (zp1 Z ?_));obtain⟨A,_,F,k,_,_,_,_,o,s,v,g⟩:=z.ix F;obtain rfl:=qF v;refine zxe o s k Z (zc 0 (g.below h.below) Z (zs 0 h Z fun _ h=>X0 2 Z ?_));obtain rfl:=qb F;replace F:=c;obtain rfl:=qb F;exact qac qa (ρ:=(qf×Bool)) [oV qf (qgB A),oV Bool [.bool true]] h ⟨⟨_,_,_,rfl,rfl,h.box 0 Z,rfl⟩,rfl,G⟩ (PV.done h (qao h (qv (S:=fun _=>False) (qaG A)) (qae (qv (S:=fun _=>False) Z)) (by rfl)))
  exact X0 7 Z (rK ⟨_,F,rfl,h⟩ Z)
 refine qt Z ?_;obtain rfl:=qb F;replace F:=c;refine zSR (r_v (qH qa [] [] Z Z Z Z Z Z Z Z) Z (zs 0 h Z fun _ h=>X0 2 Z ?_));obtain rfl:=qb F;exact qac qa (ρ:=(qf×Bool)) [oV qf [vi 0,vi 0,vi 0,vi 0,vi 0],oV Bool [.bool false]] h ⟨⟨_,_,_,rfl,rfl,h.box 0 Z,rfl⟩,rfl,G⟩ (PV.done h (qao h (qv (S:=fun _=>False) (qaG (⟨0,(⟨0,0⟩:qe),(⟨0,0⟩:qe)⟩:qf))) (qae (qv (S:=fun _=>False) Z)) (by rfl)))
def qcr(b:Tl20Work)(d:(List Int))(f:Int):Nat->Int->Int->Option (Int×Int)|0,_,_=>U|n+1,c,a=>bif decide (a<(b.links.length:Int)) then((idx b.live a).bind fun i=>bif i then(idx b.links a).bind fun k=>V (k.To==f) else V false).bind fun b3=>bif b3 then(idx b.links a).bind fun h=>(idx d h.Bm).bind fun g=>qcr b d f n (if (W64 (c+g))<1000000 then(W64 (c+g)) else 1000000) (W64 (a+1)) else qcr b d f n c (W64 (a+1)) else V (c,a)
def qea(a:(Option Tl20Work))(d:Tl20Work)(r4:(List Int)):Nat->(List Int)->Int->Option ((List Int)×Int)|0,_,_=>U|n+1,b,i1=>bif decide (i1<(r4.length:Int)) then(idx r4 i1).bind fun c=>(qgw n a c).bind fun(_,h)=>(bif h then V 1 else V 0).bind fun f=>(qcr d b c n f 0).bind fun(g,_)=>(idx b c).bind fun _=>qea a d r4 n (setS b c g) (W64 (i1+1)) else V (b,i1)
def qgf(n:Nat)(b:(Option Tl20Work)):Option (List Int):=(b).bind fun a=>(qbQ n (⟨(⟨a.j.Ac.Au.Ay⟩:qp),(⟨a.j.Ac.Aa.Ab,a.j.Ac.Aa.As,a.j.Ac.Aa.Ak⟩:qd),a.j.Ac.Ai⟩:qh)).bind fun c=>(mkS c (0:Int)).bind fun x1=>(qbQ n (⟨(⟨a.j.Ac.Au.Ay⟩:qp),(⟨a.j.Ac.Aa.Ab,a.j.Ac.Aa.As,a.j.Ac.Aa.Ak⟩:qd),a.j.Ac.Ai⟩:qh)).bind fun d=>(qha n d a.links a.live).bind fun(r4,_)=>(qea b a r4 n x1 0).bind fun(f,_)=>V f
theorem qmy{g:(Option Tl20Work)}(S:Ro w g cs1){r:(List Int)}(F:qgf n g=V r):RetV prog 44 [oV (Option Tl20Work) cs1] w r:=by
 obtain⟨_,rfl,s1⟩:=qaA S;refine zV 101 func44 Z fun h=>X0 7 Z ?_;obtain⟨y1,c9,F⟩:=qc F;obtain⟨b1,f,_,rfl,-,c1,a⟩:=PtR.get s1 c9;obtain⟨_,_,_,_,_,_,_,_,_,_,_,_,_,_,_,_,_,_,_,_,_,_,_,_,rfl,s2,s3,s4,s5,s6,_,_,s9,K,_,_,_⟩:=qkl c1;refine zp3 Z (zc 0 (a.below h.below) Z (zcI h F (qdQ (qdM _ (h.oldS s2) (h.oldS s3) (h.oldS s4) (h.oldS s5) (h.oldS s6))) Z fun _ _ h F=>?_));obtain⟨x1,i,F⟩:=qc F;obtain⟨g1,g2,i⟩:=qU i;refine qam qa Int h Z Z Z Z Z Z Z Z Z g1 g2 i Z fun _ S1 c h=>X0 3 Z (rA [] [] h Z fun _ h=>M0 15 [0,1,2,3] (h.p [] Z) Z (Al 4 31 0 a (h.p [] Z) Z (M0 479 [6,7,8] (h.p [] Z) Z (Al 9 991 12 a (h.p [] Z) Z (M0 8159 [10,11,12] (h.p [] Z) Z (Al 13 16351 13 a (h.p [] Z) Z (Ao 5 16383 Z (zcI h F (qdQ (qdM _ (h.oldS s2) (h.oldS s3) (h.oldS s4) (h.oldS s5) (h.oldS s6))) Z fun _ _ h F=>Ag (h.p [] Z) (Ao 14 32767 Z ?_)))))))));obtain⟨⟨r4,r5⟩,c2,F⟩:=qc F;refine qaS (r4,r5) h (cB 80 Z) (qm3 ⟨_,_,rfl,(h.oldS s9)⟩ ⟨_,_,rfl,(h.oldS K)⟩ c2) Z Z Z Z fun _ _ _ c6 c3=>?_;obtain⟨L,_,d,b,_,rfl,c7,c4⟩:=c6.consL c3;obtain⟨rfl,h⟩:=c7.lastB c4;refine G0 1048575 [15,16,17,18,19] (h.p [] Z) Z (Ad (X0 5 Z ?_));obtain⟨o1,F,Q⟩:=qc F;refine qm (rL (fun m e w'=>∃k i1,qea g y1 r4 m k i1=V o1/\e=[(0,.pointer (V ⟨b1,f,U⟩)),(3,oS c x1.length x1.length),(4,oS d r4.length b),(6,vi i1)]/\SH w w' [oW L (r4:List Int) [oS d r4.length b],oW S1 (k:List Int) [oS c x1.length x1.length]]) n ⟨_,_,F,rfl,h⟩ Z ?_);rintro m1 _ _ ⟨k,i1,F,rfl,h⟩;rcases m1 with _|m1
 ·cases F
 refine X0 8 Z (qi Z F ?_ ?_)<;>intro F
 ·refine X0 7 Z ?_;obtain⟨N,_,F,v,_,_,_,_,a7,b6,rfl,T⟩:=(h.sl 0 Z).1.ix F;refine zx a7 b6 ⟨v.1,qC v.2.1 (h.sl 0 Z).2⟩ Z (zc 0 T Z (X0 10 Z ?_));obtain⟨⟨r7,r8⟩,c5,F⟩:=qc F;refine qaS (r7,r8) h (cB 81 Z) (qju (h.old s1) c5) Z Z Z Z fun _ _ _ c8 B=>?_;obtain⟨_,_,_,_,rfl,I,C⟩:=c8.cons B;obtain rfl:=qF (I.sh.own 0 Z);obtain⟨rfl,h⟩:=I.lastB C;refine zp3 Z (qq qa h Z Z Z fun _ _ h=>zs 0 h Z fun _ h=>X0 7 Z ?_);obtain⟨P,s,_,F,o⟩:=bindE F;refine qa0 (fun e w'=>∃i2,P i2=V o1/\e=[(0,.pointer (V ⟨b1,f,U⟩)),(3,oS c x1.length x1.length),(4,oS d r4.length b),(6,vi i1),(7,vi N),(8,vi i2)]/\SH w w' [oW L (r4:List Int) [oS d r4.length b],oW S1 (k:List Int) [oS c x1.length x1.length]]) ?_ ?_
  ·refine qi Z F ?_ ?_<;>intro F
   ·refine X0 3 Z ?_;replace h:=h.p [2,3] Z;obtain rfl:=qb F;exact rG ⟨_,o,rfl,h⟩ Z
   refine qcI ?_;replace h:=h.p [2,3] Z;obtain rfl:=qb F;exact rG ⟨_,o,rfl,h⟩ Z
  rintro _ _ ⟨i2,F,rfl,h⟩;subst s;refine X0 5 Z ?_;obtain⟨o2,F,R⟩:=qc F;refine qm (rL (fun m e w'=>∃J M,qcr y1 k N m J M=V o2/\e=[(0,.pointer (V ⟨b1,f,U⟩)),(3,oS c x1.length x1.length),(4,oS d r4.length b),(6,vi i1),(7,vi N),(8,vi J),(11,vi M)]/\SH w w' [oW L (r4:List Int) [oS d r4.length b],oW S1 (k:List Int) [oS c x1.length x1.length]]) m1 ⟨_,_,F,rfl,h⟩ Z ?_);rintro m2 _ _ ⟨J,M,F,rfl,h⟩;rcases m2 with _|m2
  ·cases F
  refine X0 7 Z (zc 12 (a.below h.below) Z (X0 3 Z (qi Z F ?_ ?_)))<;>intro F
  ·refine X0 4 Z ?_;obtain⟨O,p,_,F,l⟩:=bindE F;refine qa0 (fun e w'=>∃b3,O b3=V o2/\e=[(0,.pointer (V ⟨b1,f,U⟩)),(3,oS c x1.length x1.length),(4,oS d r4.length b),(6,vi i1),(7,vi N),(8,vi J),(11,vi M),(81,.bool b3)]/\SH w w' [oW L (r4:List Int) [oS d r4.length b],oW S1 (k:List Int) [oS c x1.length x1.length]]) ?_ ?_
   ·refine X0 4 Z (zc 13 (a.below h.below) Z (zp1 Z ?_));obtain⟨_,_,F,a5,_,_,_,_,b4,b9,rfl,Y⟩:=K.ix F;refine zxe b4 b9 a5 Z (zc 0 (Y.below h.below) Z (zp1 Z (qn (t:=70) F Z ?_ ?_)))<;>intro F
    ·refine X0 7 Z (zc 12 (a.below h.below) Z (X0 3 Z ?_));obtain⟨_,_,F,a6,_,_,_,_,b5,c0,H,a3⟩:=s9.ix F;obtain rfl:=qaw H;refine zxe b5 c0 a6 Z (X0 3 Z (zc 1 (a3.below h.below) Z (X0 6 Z ?_)));obtain rfl:=qb F;exact rG ⟨_,l,rfl,h⟩ Z
    refine X0 12 Z ?_;obtain rfl:=qb F;exact rG ⟨_,l,rfl,h⟩ Z
   rintro _ _ ⟨b3,F,rfl,h⟩;subst p;refine qi Z F ?_ ?_<;>intro F
   ·refine X0 6 Z (zc 12 (a.below h.below) Z (zp1 Z ?_));obtain⟨_,_,F,a4,_,_,_,_,a8,b7,D,W⟩:=s9.ix F;obtain rfl:=qaw D;refine zxe a8 b7 a4 Z (zp1 Z (zc 0 (W.below h.below) Z ?_));obtain⟨_,_,F,x,_,_,_,_,a9,b8,rfl,X⟩:=(h.sl 1 Z).1.ix F;exact zx a9 b8 ⟨x.1,qC x.2.1 (h.sl 1 Z).2⟩ Z (zc 0 X Z (X0 10 Z (rK ⟨_,_,F,rfl,h⟩ Z)))
   exact X0 7 Z (rK ⟨_,_,F,rfl,h⟩ Z)
  refine qt Z ?_;obtain rfl:=qb F;replace F:=R;refine X0 4 Z ?_;obtain⟨_,d0,F,y,_,_,_,_,z,A,rfl,u⟩:=(h.sl 1 Z).1.ix F;exact zx z A ⟨y.1,qC y.2.1 (h.sl 1 Z).2⟩ Z (qax qa 1 0 J h Z d0 z A Z u Z Z Z Z Z Z Z fun _ h=>X0 7 Z (rK ⟨_,_,F,rfl,h⟩ Z))
 refine qt Z ?_;obtain rfl:=qb F;replace F:=Q;refine X0 5 Z ?_;obtain rfl:=qb F;exact rO 1 h Z ⟨rfl,G⟩
def qbG(f:Tgraph)(c:Int)(d:(List Int)):Nat->(List Int)->Int->Option ((List Int)×Int)|0,_,_=>U|n+1,a,b=>bif decide (b<(d.length:Int)) then(idx d b).bind fun i=>(idx a c).bind fun g=>(f.view).bind fun k=>(idx k.links i).bind fun l=>(idx a l.Bm).bind fun h=>(idx a c).bind fun _=>qbG f c d n (setS a c (if 1000000<(W64 (g+h)) then 1000000 else(W64 (g+h)))) (W64 (b+1)) else V (a,b)
def qcd(c:Twork)(f:Tgraph):Nat->(List Int)->Int->Option ((List Int)×Int)|0,_,_=>U|n+1,b,i1=>bif decide (i1<(c.order.length:Int)) then(idx c.order i1).bind fun a=>(qdU n c.job.Aq a).bind fun(_,r4)=>(bif r4 then(idx b a).bind fun d=>(idx b a).bind fun _=>V (setS b a (W64 (d+1))) else V b).bind fun x3=>(qhk n c.graph a).bind fun g=>(qbG f a g n x3 0).bind fun(h,_)=>qcd c f n h (W64 (i1+1)) else V (b,i1)
def qf5(n:Nat)(a:(Option Twork))(b:Int):Option Int:=(a).bind fun d=>(d.graph).bind fun f=>(qcb n f.view).bind fun g=>(mkS g (0:Int)).bind fun x1=>(qcd d f n x1 0).bind fun(h,_)=>(idx h b).bind fun c=>V c
theorem qnv{l:(Option Twork)}{b}(a7:Ro w l cs1){r:Int}(F:qf5 n l b=V r):RetV prog 47 [oV (Option Twork) cs1,vi b] w r:=by
 obtain⟨_,rfl,s1⟩:=qaA a7;refine zV 90 func47 Z fun h=>X0 7 Z ?_;obtain⟨k,d5,F⟩:=qc F;obtain⟨b1,g,_,rfl,-,c8,c⟩:=PtR.get s1 d5;obtain⟨_,_,_,_,_,_,_,_,_,_,_,_,_,_,_,_,_,_,_,_,_,i,f,rfl,s2,_,_,_,_,_,_,s9,_,_,_,s13⟩:=qnV c8;refine zp2 Z (zc 0 (c.below h.below) Z ?_);obtain⟨y2,d6,F⟩:=qc F;obtain⟨_,o_2,_,rfl,-,c9,x⟩:=PtR.get s2 d6;obtain⟨_,_,_,rfl,a3,_⟩:=qeG c9;refine zp2 Z (zc 0 (x.below h.below) Z (zcI h F (qdJ (h.old a3)) Z fun _ w1 h F=>?_));obtain⟨x1,d,F⟩:=qc F;obtain⟨g1,g2,d⟩:=qU d;refine qam qa Int h Z Z Z Z Z Z Z Z Z g1 g2 d Z fun _ S1 a h=>X0 8 Z (zc 16 (c.below h.below) Z (X0 3 Z ?_));obtain⟨o1,F,a5⟩:=qc F;refine qm (rL (fun m e w'=>∃x2 i1,qcd k y2 m x2 i1=V o1/\e=[(0,.pointer (V ⟨b1,g,U⟩)),(1,vi b),(5,oS a x1.length x1.length),(24,oS i k.order.length f),(25,vi (k.order.length:Int)),(26,vi i1)]/\SH w w' [oW S1 (x2:List Int) [oS a x1.length x1.length]]) n ⟨_,_,F,rfl,h⟩ Z ?_);rintro m1 _ _ ⟨x2,i1,F,rfl,h⟩;rcases m1 with _|m1
 ·cases F
 refine X0 5 Z (qi Z F ?_ ?_)<;>intro F
 ·refine zKSBSR ?_;obtain⟨y3,_,F,b6,_,_,_,_,b8,c3,rfl,a8⟩:=s13.ix F;refine zxe b8 c3 b6 Z (zc 0 (a8.below h.below) Z (X0 9 Z (zc 12 (c.below h.below) Z (zp1 Z ?_))));obtain⟨⟨r3,r4⟩,d0,F⟩:=qc F;refine qaS (r3,r4) h (cB 83 Z) (qij ⟨_,_,rfl,(h.oldS s9)⟩ d0) Z Z Z Z fun _ _ _ d4 d1=>?_;obtain⟨_,_,_,_,rfl,S,d3⟩:=d4.cons d1;obtain rfl:=qF (S.sh.own 0 Z);obtain⟨rfl,h⟩:=S.lastB d3;refine zp3 Z (qq qa h Z Z Z fun _ _ h=>zs 0 h Z fun _ h=>X0 6 Z ?_);obtain⟨a4,p,_,F,o⟩:=bindE F;refine qa0 (fun e w'=>∃x3,a4 x3=V o1/\e=[(0,.pointer (V ⟨b1,g,U⟩)),(1,vi b),(5,oS a x1.length x1.length),(7,vi y3),(24,oS i k.order.length f),(25,vi (k.order.length:Int)),(26,vi i1)]/\SH w w' [oW S1 (x3:List Int) [oS a x1.length x1.length]]) ?_ ?_
  ·refine qi Z F ?_ ?_<;>intro F
   ·refine X0 3 Z ?_;obtain⟨y10,_,F,C,_,_,_,_,c1,c6,rfl,t⟩:=(h.sl 2 Z).1.ix F;refine zx c1 c6 ⟨C.1,qC C.2.1 (h.sl 2 Z).2⟩ Z (zc 0 t Z (zp1 Z ?_));obtain⟨_,T,F,D,_,_,_,_,L,P,rfl,u⟩:=(h.sl 2 Z).1.ix F;refine zx L P ⟨D.1,qC D.2.1 (h.sl 2 Z).2⟩ Z (qax qa 2 0 (W64 (y10+1)) h Z T L P Z u Z Z Z Z Z Z Z fun _ h=>qan ?_);replace h:=h.p [2] Z;obtain rfl:=qb F;exact rG ⟨_,o,rfl,h⟩ Z
   refine qcI ?_;replace h:=h.p [2] Z;obtain rfl:=qb F;exact rG ⟨_,o,rfl,h⟩ Z
  rintro _ _ ⟨x3,F,rfl,h⟩;subst p;refine X0 5 Z (zc 0 (c.below h.below) Z (zp1 Z (zcL h F (qj6 (h.old s2)) Z fun Y _ S6 X W h F=>X0 3 Z ?_)));obtain⟨o2,F,a6⟩:=qc F;refine qm (rL (fun m e w'=>∃x4 i2,qbG y2 y3 Y m x4 i2=V o2/\e=[(0,.pointer (V ⟨b1,g,U⟩)),(1,vi b),(5,oS a x1.length x1.length),(7,vi y3),(24,oS i k.order.length f),(25,vi (k.order.length:Int)),(26,vi i1),(52,oS X Y.length W),(53,vi (Y.length:Int)),(54,vi i2)]/\SH w w' [oW S6 (Y:List Int) [oS X Y.length W],oW S1 (x4:List Int) [oS a x1.length x1.length]]) m1 ⟨_,_,F,rfl,h⟩ Z ?_);rintro m2 _ _ ⟨x4,i2,F,rfl,h⟩;rcases m2 with _|m2
  ·cases F
  refine X0 5 Z (qi Z F ?_ ?_)<;>intro F
  ·refine zKSBSR ?_;obtain⟨_,_,F,y,_,_,_,_,b9,c4,rfl,a9⟩:=(h.sl 0 Z).1.ix F;refine zx b9 c4 ⟨y.1,qC y.2.1 (h.sl 0 Z).2⟩ Z (zc 0 a9 Z (X0 2 Z (rA [26] [1] h Z fun _ h=>M0 15 [0,1,2,3] (h.p [1] Z) Z ?_)));obtain⟨y5,d7,F,z,_,_,_,_,I,M,rfl,_⟩:=(h.sl 1 Z).1.ix F;refine Ax 4 31 I M ⟨z.1,qC z.2.1 (h.sl 1 Z).2⟩ (h.p [1] Z) Z (Aw 5 63 (fun w' hw=>qf2 qa (qb1 (w1:=w) (S1:=fun _=>False) hw 0 Z d7 I M Z) (j:=0) Z Z Z) (h.p [1] Z) Z ?_);refine M0 1023 [6,7,8,9] (h.p [1] Z) Z (Al 10 2047 0 c (h.p [1] Z) Z (M0 8191 [11,12] (h.p [1] Z) Z (Al 13 16383 0 x (h.p [1] Z) Z ?_)));obtain⟨_,d8,F⟩:=qc F;obtain⟨_,o_6,_,rfl,-,Q,b4⟩:=PtR.get a3 d8;obtain⟨_,_,_,_,_,_,_,_,_,_,_,_,_,_,_,_,_,_,_,_,rfl,_,_,_,_,_,_,s22,_,_,_⟩:=qcn Q;refine M0 65535 [14,15] (h.p [1] Z) Z (Al 16 131071 6 b4 (h.p [1] Z) Z (M0 262143 [17] (h.p [1] Z) Z ?_));obtain⟨_,_,F,b7,_,_,_,_,c0,c5,R,b5⟩:=s22.ix F;obtain rfl:=qaw R;refine Ae 18 524287 c0 c5 b7 (h.p [1] Z) Z (M0 1048575 [19] (h.p [1] Z) Z (Al 20 2097151 0 b5 (h.p [1] Z) Z ?_));obtain⟨y8,d9,F,A,_,_,_,_,J,N,rfl,_⟩:=(h.sl 1 Z).1.ix F;refine Ax 21 4194303 J N ⟨A.1,qC A.2.1 (h.sl 1 Z).2⟩ (h.p [1] Z) Z (Aw 22 8388607 (fun w' hw=>qf2 qa (qb1 (w1:=w) (S1:=fun _=>False) hw 0 Z d9 J N Z) (j:=0) Z Z Z) (h.p [1] Z) Z ?_);refine M0 33554431 [23,24] (h.p [1] Z) Z ?_;obtain⟨_,e2,F,B,_,_,_,_,K,O,rfl,s⟩:=(h.sl 1 Z).1.ix F;exact Ax 25 67108863 K O ⟨B.1,qC B.2.1 (h.sl 1 Z).2⟩ (h.p [1] Z) Z (Ao 26 134217727 Z (qax qa 1 0 (if 1000000<(W64 (y5+y8)) then 1000000 else(W64 (y5+y8))) h Z e2 K O Z s Z Z Z Z Z Z Z fun _ h=>qa6 (fun hs=>absurd (hs 26 (by decide)) (by decide)) (Ad (X0 5 Z (rK ⟨_,_,F,rfl,h⟩ Z)))))
  refine qt Z ?_;obtain rfl:=qb F;replace F:=a6;refine X0 5 Z ?_;replace h:=h.p [1] Z;exact rK ⟨_,_,F,rfl,h⟩ Z
 refine qt Z ?_;obtain rfl:=qb F;replace F:=a5;refine X0 4 Z ?_;obtain⟨_,_,F,H,_,_,_,_,c2,c7,rfl,v⟩:=(h.sl 0 Z).1.ix F;exact zx c2 c7 ⟨H.1,qC H.2.1 (h.sl 0 Z).2⟩ Z (zc 0 v Z (X0 2 Z (ri h F Z)))
def qjk(_:Nat)(s:qe)(mode:Int):Option Int:=bif (mode==1) then V s.Bg else V s.Ba
theorem qoc{s:qe}{mode}(a:Ro w s cs1){r:Int}(F:qjk n s mode=V r):RetV prog 54 [oV qe cs1,vi mode] w r:=by
 obtain rfl:=qB a;refine zV 11 func54 Z fun h=>zSR (qw h Z Z fun _ _ h=>X0 8 Z (qi Z F ?_ ?_))<;>intro F
 ·exact X1 6 0 h Z (ri h F Z)
 exact X1 7 0 h Z (ri h F Z)
def qgy(d:(Option Tl20Work))(b:(List Int))(c:Int):Nat->Int->Int->Int->Option (Int×Int×Int)|0,_,_,_=>U|n+1,i1,g,f=>bif decide (f<(b.length:Int)) then(d).bind fun a=>(idx b f).bind fun l=>(idx a.links l).bind fun h=>(qca n (⟨(⟨a.j.Ac.Au.Ay⟩:qp),(⟨a.j.Ac.Aa.Ab,a.j.Ac.Aa.As,a.j.Ac.Aa.Ak⟩:qd),a.j.Ac.Ai⟩:qh) (⟨a.j.Af.Bd,a.j.Af.Am,a.j.Af.Ar,a.j.Af.Aj,a.j.Af.Ap⟩:qu) h g c).bind fun i=>(qcB n (⟨(⟨a.j.Ac.Au.Ay⟩:qp),(⟨a.j.Ac.Aa.Ab,a.j.Ac.Aa.As,a.j.Ac.Aa.Ak⟩:qd),a.j.Ac.Ai⟩:qh) h g c).bind fun k=>qgy d b c n (W64 (i1+i)) k (W64 (f+1)) else V (i1,g,f)
def qkJ(n:Nat)(b:(Option Tl20Work))(d:Int)(f:(List Int))(a:Int):Option (Int×Int):=(qgw n b d).bind fun(c,_)=>(qjk n (⟨c.Ah.Ba,c.Ah.Bg⟩:qe) a).bind fun r4=>(qjk n (⟨c.Be.Ba,c.Be.Bg⟩:qe) a).bind fun h=>(qgy b f a n r4 h 0).bind fun(i1,g,_)=>V (i1,g)
theorem qjE{d:(Option Tl20Work)}{f}{a:(List Int)}{b}(p:Ro w d cs1)(s:Ro w a cs2){r:(Int×Int)}(F:qkJ n d f a b=V r):RetV prog 60 [oV (Option Tl20Work) cs1,vi f,oV (List Int) cs2,vi b] w r:=by
 obtain⟨p1,rfl,P⟩:=qaA p;obtain⟨p2,k1,rfl,s2⟩:=s;refine zV 73 func60 Z fun h=>X0 9 Z ?_;obtain⟨⟨r2,r3⟩,C,F⟩:=qc F;refine qaS (r2,r3) h (cB 81 Z) (qju (h.old P) C) Z Z Z Z fun _ _ _ K D=>?_;obtain⟨_,_,_,_,rfl,k,H⟩:=K.cons D;obtain rfl:=qF (k.sh.own 0 Z);obtain⟨rfl,h⟩:=k.lastB H;refine zp3 Z (qq qa h Z Z Z fun _ _ h=>zs 0 h Z fun _ h=>X1 7 0 h Z (zcI h F (qoc (qD _)) Z fun _ _ h F=>X1 7 0 h Z (zcI h F (qoc (qD _)) Z fun _ _ h F=>X0 7 Z ?_)));obtain⟨o1,F,o⟩:=qc F;refine qm ?_;replace h:=h.p [] Z;refine rL (fun m e w'=>∃i1 l M,qgy d a b m i1 l M=V o1/\e=[(0,.pointer p1),(2,oS p2 a.length k1),(3,vi b),(12,vi i1),(13,vi l),(14,vi M)]/\SH w w' []) n ⟨_,_,_,F,rfl,h⟩ Z ?_;rintro O _ _ ⟨i1,l,M,F,rfl,h⟩;rcases O with _|O
 ·cases F
 refine X0 8 Z (qi Z F ?_ ?_)<;>intro F
 ·refine X0 4 Z (rA [] [] h Z fun _ h=>M0 1 [0] (h.p [] Z) Z ?_);obtain⟨_,L,F⟩:=qc F;obtain⟨_,o_1,_,rfl,-,I,c⟩:=PtR.get P L;obtain⟨_,_,_,_,_,_,_,_,_,_,_,_,_,_,_,_,_,_,_,_,_,_,_,_,rfl,Q,R,T,W,X,_,_,N,_,_,_,_⟩:=qkl I;refine M0 7 [1,2] (h.p [] Z) Z (Al 3 15 12 c (h.p [] Z) Z (M0 63 [4,5] (h.p [] Z) Z ?_));obtain⟨_,_,F,v,_,_,_,_,y,A,rfl,t⟩:=s2.ix F;refine Ae 6 127 y A v (h.p [] Z) Z (Al 7 255 0 t (h.p [] Z) Z ?_);obtain⟨Y,_,F,x,_,_,_,_,z,B,J,u⟩:=N.ix F;obtain rfl:=qaw J;refine Ae 8 511 z B x (h.p [] Z) Z (Al 9 1023 0 u (h.p [] Z) Z (Ao 10 2047 Z (qq qa h Z Z Z fun _ _ h=>Ag (h.p [] Z) (Ao 11 4095 Z (zs 0 h Z fun _ h=>Ag (h.p [] Z) (Ad (qZ (rD (zd5 Z (zdc 0 (c.below h.below) Z (zd4 Z (zdc 5 (c.below h.below) Z (Y1 1 0 h Z ?_)))))))))))));refine zd2 Z ?_;obtain⟨r6,g,F⟩:=qc F;refine qa5 r6 (vsI _) (cB 99 Z) (fun _ hb=>qcL (qdM _ ((h.ext hb).oldS Q) ((h.ext hb).oldS R) ((h.ext hb).oldS T) ((h.ext hb).oldS W) ((h.ext hb).oldS X)) (qd4 _) (qch Y) g) Z Z Z Z (zd2 Z (dN h fun _ h=>rD (zd4 Z (zdc 0 (c.below h.below) Z (Y1 1 0 h Z ?_)))));refine zd2 Z ?_;obtain⟨r7,i,F⟩:=qc F;refine qa5 r7 (vsI _) (cB 100 Z) (fun _ hb=>qdt (qdM _ ((h.ext hb).oldS Q) ((h.ext hb).oldS R) ((h.ext hb).oldS T) ((h.ext hb).oldS W) ((h.ext hb).oldS X)) (qch Y) i) Z Z Z Z (zd1 Z (dN h fun _ h=>X0 6 Z ?_));replace h:=h.p [] Z;exact rK ⟨_,_,_,F,rfl,h⟩ Z
 refine qt Z ?_;obtain rfl:=qb F;replace F:=o;refine X0 7 Z ?_;obtain rfl:=qb F;exact qac qa (ρ:=(Int×Int)) [oV Int [vi i1],oV Int [vi l]] h ⟨rfl,rfl,G⟩ (PV.done h (qao h (qv (S:=fun _=>False) Z) (qae (qv (S:=fun _=>False) Z)) (by rfl)))
def qk6(_:Nat)(s:qe)(mode:Int):Option Int:=bif (mode==0) then V s.Ba else V s.Bg
theorem qn2{s:qe}{mode}(a:Ro w s cs1){r:Int}(F:qk6 n s mode=V r):RetV prog 50 [oV qe cs1,vi mode] w r:=by
 obtain rfl:=qB a;refine zV 11 func50 Z fun h=>zSR (qw h Z Z fun _ _ h=>X0 8 Z (qi Z F ?_ ?_))<;>intro F
 ·exact X1 6 0 h Z (ri h F Z)
 exact X1 7 0 h Z (ri h F Z)
def qcP(a:(List Int))(b:Int)(c:Twork):Nat->(List Int)->Int->Int->Int->Option ((List Int)×Int×Int×Int)|0,_,_,_,_=>U|n+1,x1,i1,f,d=>bif decide (d<(a.length:Int)) then(idx a d).bind fun h=>(c.graph).bind fun i=>(qbo n i.view (⟨c.job.Af.Bd,c.job.Af.Am,c.job.Af.Ar,c.job.Af.Aj,c.job.Af.Ap⟩:qu) h f b).bind fun g=>(qaQ n i.view h f b).bind fun k=>(appS x1 ([W64 (i1+g)]:List Int)).bind fun l=>qcP a b c n l (W64 (i1+g)) k (W64 (d+1)) else V (x1,i1,f,d)
def qht(n:Nat)(c:(Option Twork))(d:Int)(f:(List Int))(a:Int):Option ((List Int)×Int):=(c).bind fun g=>(qdU n g.job.Aq d).bind fun(b,_)=>(qk6 n (⟨b.Ah.Ba,b.Ah.Bg⟩:qe) a).bind fun r4=>(qk6 n (⟨b.Be.Ba,b.Be.Bg⟩:qe) a).bind fun i=>(qcP f a g n ([r4]:List Int) r4 i 0).bind fun(x1,_,h,_)=>V (x1,h)
theorem qoY{k:(Option Twork)}{l}{a:(List Int)}{b}(x:Ro w k cs1)(y:Ro w a cs2){r:((List Int)×Int)}(F:qht n k l a b=V r):RetV prog 113 [oV (Option Twork) cs1,vi l,oV (List Int) cs2,vi b] w r:=by
 obtain⟨_,rfl,s1⟩:=qaA x;obtain⟨p2,k1,rfl,s2⟩:=y;refine zV 79 func113 Z fun h=>X0 8 Z ?_;obtain⟨y1,O,F⟩:=qc F;obtain⟨b1,R,_,rfl,-,D,c⟩:=PtR.get s1 O;obtain⟨_,_,_,_,_,_,_,_,_,_,_,_,_,_,_,_,_,_,_,_,_,_,_,rfl,s3,_,_,_,_,_,_,T,_,_,_,_⟩:=qnV D;refine zp3 Z (zc 12 (c.below h.below) Z (zp1 Z ?_));obtain⟨⟨r2,r3⟩,H,F⟩:=qc F;refine qaS (r2,r3) h (cB 83 Z) (qij ⟨_,_,rfl,(h.oldS T)⟩ H) Z Z Z Z fun _ _ _ N I=>?_;obtain⟨_,_,_,_,rfl,s,J⟩:=N.cons I;obtain rfl:=qF (s.sh.own 0 Z);obtain⟨rfl,h⟩:=s.lastB J;refine zp3 Z (qq qa h Z Z Z fun _ _ h=>zs 0 h Z fun _ h=>X0 3 Z (rD (Y1 2 0 h Z ?_)));refine zd1 Z ?_;obtain⟨r4,K,F⟩:=qc F;refine qa5 r4 (vsI _) (cB 50 Z) (fun _ hb=>qn2 (qD _) K) Z Z Z Z (Y1 2 0 h Z ?_);refine zd1 Z ?_;obtain⟨r5,L,F⟩:=qc F;refine qa5 r5 (vsI _) (cB 50 Z) (fun _ hb=>qn2 (qD _) L) Z Z Z Z (zd2 Z (dN h fun _ h=>X0 3 Z (qG qa [.tmp 35] _ ([r4]:List Int) h Z Z Z Z Z Z Z Z Z ⟨rfl,G⟩ Z fun _ _ _ h=>X0 9 Z ?_)));obtain⟨o1,F,v⟩:=qc F;refine qm ?_;replace h:=h.p [0] Z;refine rL (fun m e w'=>∃W f i d x1 i1 u Q,qcP a b y1 m x1 i1 u Q=V o1/\e=[(0,.pointer (V ⟨b1,R,U⟩)),(3,vi b),(12,vi i1),(13,vi u),(14,oS f i d),(37,oS p2 a.length k1),(38,vi (a.length:Int)),(39,vi Q)]/\SH w w' [oW W (x1:List Int) [oS f i d]]) n ⟨_,_,_,_,_,_,_,_,F,rfl,h⟩ Z ?_;rintro X _ _ ⟨W,f,i,d,x1,i1,u,Q,F,rfl,h⟩;obtain rfl:=(h.sl 0 Z).2;rcases X with _|X
 ·cases F
 refine X0 5 Z (qi Z F ?_ ?_)<;>intro F
 ·refine zKSBSR ?_;obtain⟨_,_,F,A,_,_,_,_,B,C,rfl,z⟩:=s2.ix F;refine zxe B C A Z (zc 0 (z.below h.below) Z (X0 3 Z (rD (zd4 Z (zdc 0 (c.below h.below) Z ?_)))));obtain⟨_,P,F⟩:=qc F;obtain⟨_,o_3,_,rfl,-,M,o⟩:=PtR.get s3 P;obtain⟨_,_,_,rfl,t,_⟩:=qeG M;refine zd2 Z (zdc 0 (o.below h.below) Z (zd4 Z (zdc 6 (c.below h.below) Z (zd3 Z ?_))));obtain⟨Y,p,F⟩:=qc F;refine qa5 Y (vsI _) (cB 165 Z) (fun _ hb=>qaq ((h.ext hb).old t) (qd4 _) p) Z Z Z Z (zd2 Z (dN h fun _ h=>X0 5 Z (zc 0 (c.below h.below) Z (zp2 Z (zc 0 (o.below h.below) Z (zp3 Z (zcI h F (qfP (h.old t)) Z fun _ _ h F=>X0 5 Z (qG qa [.tmp 73] _ ([W64 (i1+Y)]:List Int) h Z Z Z Z Z Z Z Z Z ⟨rfl,G⟩ Z fun _ _ _ h=>?_))))))));obtain⟨_,g,F⟩:=qc F;obtain⟨g1,g⟩:=qO g;refine qbW qa 1 h Z (h.sl 0 Z).1 (h.sl 0 Z).2 Z Z Z Z Z Z Z Z Z g1 g Z fun _ _ _ _ h=>X0 7 Z ?_;replace h:=h.p [1] Z;exact rK ⟨_,_,_,_,_,_,_,_,F,rfl,h⟩ Z
 refine qt Z ?_;obtain rfl:=qb F;replace F:=v;refine X0 7 Z ?_;obtain rfl:=qb F;exact qac qa (ρ:=((List Int)×Int)) [oV (List Int) [oS f x1.length d],oV Int [vi u]] h ⟨rfl,rfl,G⟩ (PV.done h (qao h (qab 0 h Z) (qae (qv (S:=fun _=>False) Z)) (by rfl)))
def qfT(n:Nat)(c:(Option Twork))(start:Int)(links:(List Int))(mode:Int):Option Int:=(qht n c start links mode).bind fun(a,_)=>(idx a (links.length:Int)).bind fun b=>V b
theorem qm2{u:(Option Twork)}{start}{links:(List Int)}{mode}(b:Ro w u cs1)(c:Ro w links cs2){r:Int}(F:qfT n u start links mode=V r):RetV prog 70 [oV (Option Twork) cs1,vi start,oV (List Int) cs2,vi mode] w r:=by
 obtain⟨_,rfl,t⟩:=qaA b;obtain⟨_,_,rfl,s2⟩:=c;refine zV 24 func70 Z fun h=>X0 10 Z ?_;obtain⟨⟨p,s⟩,i,F⟩:=qc F;refine qaS (p,s) h (cB 113 Z) (qoY (h.old t) ⟨_,_,rfl,(h.oldS s2)⟩ i) Z Z Z Z fun _ _ _ m k=>?_;obtain⟨_,_,_,_,_,rfl,o,l⟩:=m.consL k;obtain⟨rfl,h⟩:=o.lastI l;refine X0 11 Z ?_;obtain⟨_,_,F,a,_,_,_,_,f,g,rfl,d⟩:=(h.sl 0 Z).1.ix F;exact zx f g ⟨a.1,qC a.2.1 (h.sl 0 Z).2⟩ Z (zc 0 d Z (X0 2 Z (ri h F Z)))
def qd3(i1:Int)(r4:(List qg)):Nat->(List qg)->Int->Option ((List qg)×Int)|0,_,_=>U|n+1,x3,a=>bif decide (a<(r4.length:Int)) then(idx r4 a).bind fun f=>(idx r4 a).bind fun g=>(appS ([]:List Int) g.Bf).bind fun b=>(appS b ([i1]:List Int)).bind fun c=>(appS x3 ([(⟨f.Bl,c,0⟩:qg)]:List qg)).bind fun d=>qd3 i1 r4 n d (W64 (a+1)) else V (x3,a)
def qbq(l:((Option Tl20Work)->Int->Option (List qg)))(a:(Option Tl20Work))(b:Int):Nat->(List qg)->Int->Option ((List qg)×Int)|0,_,_=>U|n+1,d,i1=>(a).bind fun c=>bif decide (i1<(c.links.length:Int)) then((idx c.live i1).bind fun g=>bif (!g) then V true else(idx c.links i1).bind fun h=>bif (h.To != b) then V true else(idx c.links i1).bind fun i=>(idx c.t.Bb i.Bm).bind fun k=>V (!k)).bind fun b2=>bif b2 then qbq l a b n d (W64 (i1+1)) else(idx c.links i1).bind fun f=>(l a f.Bm).bind fun r4=>(qd3 i1 r4 n d 0).bind fun(x3,_)=>qbq l a b n x3 (W64 (i1+1)) else V (d,i1)
def qcW:Nat->(Option Tl20Work)->Int->Option (List qg)|0,_,_=>U|n+1,b,a=>(qgw n b a).bind fun(_,c)=>(bif c then(appS ([]:List qg) ([(⟨a,([]:List Int),0⟩:qg)]:List qg)).bind fun f=>V f else V ([]:List qg)).bind fun x1=>(qbq (qcW n) b a n x1 0).bind fun(d,_)=>V d
theorem qon{n}:∀{w:World} {g:(Option Tl20Work)} {a:Int} {cs1:List Value} (k:Ro w g cs1) {r:(List qg)} (_:qcW n g a=V r),RetV prog 59 [oV (Option Tl20Work) cs1,vi a] w r:=by
 induction n with
 |zero=>intro w g a cs1 k r F;rw[qcW] at F;cases F
 |succ n ih=>
  intro w g a cs1 k r F;obtain⟨rc,hrc⟩:∃rc,rc=qcW n:=⟨_,rfl⟩;rw[<-hrc] at ih;obtain⟨p1,rfl,s1⟩:=qaA k;refine zV 108 func59 Z fun h=>?_;unfold qcW at F;rw[<-hrc] at F;refine X0 6 Z (qid qa [] _ ([]:List qg) [] h Z Z Z Z Z Z Z Z Z qlh Z Z fun _ _ _ h=>X0 6 Z ?_);obtain⟨⟨r2,r3⟩,hr1,F⟩:=qc F;refine qaS (r2,r3) h (cB 81 Z) (qju (h.old s1) hr1) Z Z Z Z fun _ _ _ hv1 hr2=>?_;obtain⟨_,_,_,_,rfl,a8,hr3⟩:=hv1.cons hr2;obtain rfl:=qF (a8.sh.own 0 Z);obtain⟨rfl,h⟩:=a8.lastB hr3;refine zp3 Z (qq qa h Z Z Z fun _ _ h=>zs 0 h Z fun _ h=>X0 7 Z ?_);obtain⟨KF2,K,_,F,I⟩:=bindE F;refine qa0 (fun e w'=>∃S6 p3 s k1 x1,KF2 x1=V r/\e=[(0,.pointer p1),(1,vi a),(5,oS p3 s k1)]/\SH w w' [oW S6 (x1:List qg) [oS p3 s k1]]) ?_ ?_
  ·refine qi Z F ?_ ?_<;>intro F
   ·refine X0 3 Z (qG qa [] _ ([]:List Int) h Z Z Z Z Z Z Z Z Z trivial Z fun _ _ _ h=>r_v (qH qa [0,1] [.tmp 20,.tmp 21] Z Z Z Z Z Z Z Z) Z (qid qa [.tmp 22] _ ([(⟨a,([]:List Int),0⟩:qg)]:List qg) [1,2,3] h Z Z Z Z Z Z Z Z Z (qnh (qg2 (⟨a,([]:List Int),0⟩:qg) h (qv (S:=fun _=>False) Z) (qab 0 h Z) (qv (S:=fun _=>False) Z) (by rfl) (by rfl)) qlh Z) Z Z fun _ _ _ h=>?_));obtain⟨_,l,F⟩:=qc F;obtain⟨g22,l⟩:=qO l;replace h:=h.p [0,3,1,2] Z;refine qpf qa h Z Z Z Z Z Z Z Z Z g22 l Z fun _ _ _ _ h=>X0 2 Z ?_;replace h:=h.p [0] Z;obtain rfl:=qb F;exact rG ⟨_,_,_,_,_,I,rfl,h⟩ Z
   ·refine qcI ?_;replace h:=h.p [2] Z;obtain rfl:=qb F;exact rG ⟨_,_,_,_,_,I,rfl,h⟩ Z
  ·rintro _ _ ⟨S6,p3,s,k1,x1,F,rfl,h⟩;subst K;obtain rfl:=(h.sl 0 Z).2;refine X0 5 Z ?_;obtain⟨o1,F,hK1⟩:=qc F;refine qm (rL (fun m e w'=>∃S7 p4 u k2 B i1,qbq rc g a m B i1=V o1/\e=[(0,.pointer p1),(1,vi a),(5,oS p4 u k2),(8,vi i1)]/\SH w w' [oW S7 (B:List qg) [oS p4 u k2]]) n ⟨_,_,_,_,_,_,F,rfl,h⟩ Z ?_);rintro m1 _ _ ⟨S7,p4,u,k2,B,i1,F,rfl,h⟩;obtain rfl:=(h.sl 0 Z).2;rcases m1 with _|m1
   ·cases F
   refine X0 5 Z ?_;obtain⟨_,hy1,F⟩:=qc F;obtain⟨b1,x,_,rfl,-,hr5,f⟩:=PtR.get s1 hy1;obtain⟨_,_,_,_,_,_,_,_,_,_,_,_,_,_,_,_,_,_,_,_,_,_,_,_,rfl,_,_,_,_,_,_,_,s9,s10,s11,_,_⟩:=qkl hr5;refine zp2 Z (zc 12 (f.below h.below) Z (X0 3 Z (qi Z F ?_ ?_)))<;>intro F
   ·refine X0 5 Z ?_;obtain⟨KF1,J,_,F,i⟩:=bindE F;refine qa0 (fun e w'=>∃b2,KF1 b2=V o1/\e=[(0,.pointer (V ⟨b1,x,U⟩)),(1,vi a),(5,oS p4 B.length k2),(8,vi i1),(71,.bool b2)]/\SH w w' [oW S7 (B:List qg) [oS p4 B.length k2]]) ?_ ?_
    ·refine rD (zd3 Z (zdc 13 (f.below h.below) Z (zd1 Z ?_)));obtain⟨_,_,F,he8,_,_,_,_,hp8,hq8,rfl,N⟩:=s10.ix F;refine zdxe hp8 hq8 he8 Z (zdc 0 (N.below h.below) Z (zd2 Z (qaX (t:=42) F Z ?_ ?_)))<;>intro F
     ·refine Y0 29 Z (dN h fun _ h=>?_);obtain rfl:=qb F;exact rG ⟨_,i,rfl,h⟩ Z
     ·refine Y0 7 Z (zdc 12 (f.below h.below) Z (Y0 3 Z ?_));obtain⟨_,_,F,he9,_,_,_,_,hp9,hq9,a6,O⟩:=s9.ix F;obtain rfl:=qaw a6;refine zdxe hp9 hq9 he9 Z (Y0 3 Z (zdc 1 (O.below h.below) Z (Y0 6 Z (qaX (t:=54) F Z ?_ ?_))))<;>intro F
      ·refine Y0 17 Z (dN h fun _ h=>?_);obtain rfl:=qb F;exact rG ⟨_,i,rfl,h⟩ Z
      ·refine Y0 9 Z (zdc 14 (f.below h.below) Z (Y0 7 Z (zdc 12 (f.below h.below) Z (Y0 3 Z ?_))));obtain⟨_,_,F,R,_,_,_,_,W,Y,a7,P⟩:=s9.ix F;obtain rfl:=qaw a7;refine zdxe W Y R Z (Y0 3 Z (zdc 0 (P.below h.below) Z (Y0 1 Z ?_)));obtain⟨_,_,F,T,_,_,_,_,X,a3,rfl,Q⟩:=s11.ix F;refine zdxe X a3 T Z (Y0 1 Z (zdc 0 (Q.below h.below) Z (Y0 3 Z (dN h fun _ h=>?_))));obtain rfl:=qb F;exact rG ⟨_,i,rfl,h⟩ Z
    ·rintro _ _ ⟨b2,F,rfl,h⟩;subst J;refine qi Z F ?_ ?_<;>intro F
     ·exact qt Z (X0 5 Z (rK ⟨_,_,_,_,_,_,F,rfl,h⟩ Z))
     ·refine X0 7 Z (zc 12 (f.below h.below) Z (zp1 Z ?_));obtain⟨_,_,F,he1,_,_,_,_,hp1,hq1,hr6,hc4⟩:=s9.ix F;obtain rfl:=qaw hr6;refine zxe hp1 hq1 he1 Z (zp1 Z (zc 0 (hc4.below h.below) Z (zcL h F (ih (h.old s1)) Z fun r4 w6 S8 p17 b5 h F=>?_)));obtain⟨s14,h⟩:=h.topinL 0 Z;refine X0 6 Z ?_;obtain⟨o2,F,hK2⟩:=qc F;refine qm (rL (fun m e w'=>∃S9 y v o x3 i2,qd3 i1 r4 m x3 i2=V o2/\e=[(0,.pointer (V ⟨b1,x,U⟩)),(1,vi a),(5,oS y v o),(8,vi i1),(9,oS p17 r4.length b5),(10,vi i2)]/\SH w w' [Ch.pin S8 w6,oW S9 (x3:List qg) [oS y v o]]) m1 ⟨_,_,_,_,_,_,F,rfl,h⟩ Z ?_);rintro m2 _ _ ⟨S9,y,v,o,x3,i2,F,rfl,h⟩;obtain rfl:=(h.sl 1 Z).2;rcases m2 with _|m2
      ·cases F
      refine X0 8 Z (qi Z F ?_ ?_)<;>intro F
      ·refine zKSB ?_;obtain⟨D,a9,F⟩:=qc F;obtain⟨_,b4,F⟩:=qc F;obtain⟨_,b,F⟩:=qc F;obtain⟨C,c,F⟩:=qc F;obtain⟨x6,d,F⟩:=qc F;refine qa0 (fun e w'=>∃H z p,e=[(0,.pointer (V ⟨b1,x,U⟩)),(1,vi a),(5,oS z x6.length p),(8,vi i1),(9,oS p17 r4.length b5),(10,vi i2)]/\SH w w' [oW H (x6:List qg) [oS z x6.length p],Ch.pin S8 w6]) ?_ ?_
       ·refine rA [] [0] h Z fun _ h=>M0 7 [0,1,2] (h.p [0] Z) Z ?_;have he6:=qaO a9;obtain⟨_,o_7,_,_,hp6,hq6,hS6,a4,L⟩:=s14.at a9;obtain⟨_,_,rfl,_⟩:=qak a4;refine Ae 3 15 hp6 hq6 he6 (h.p [0] Z) Z (M0 31 [4] (h.p [0] Z) Z (Aw 5 63 (fun w' hw=>qf2 qa (hw.pinC 0 Z hS6 L) (j:=0) Z Z Z) (h.p [0] Z) Z ?_));refine M0 447 [7,8] (h.p [0] Z) Z ?_;have he7:=qaO b4;obtain⟨_,o_8,_,_,hp7,hq7,hS7,a5,M⟩:=s14.at b4;obtain⟨_,_,rfl,A⟩:=qak a5;refine Ae 9 959 hp7 hq7 he7 (h.p [0] Z) Z (M0 1983 [10] (h.p [0] Z) Z (Aw 11 4031 (fun w' hw=>qf2 qa (hw.pinC 0 Z hS7 M) (j:=1) Z Z Z) (h.p [0] Z) Z ?_));refine M0 12223 [13] (h.p [0] Z) Z (At 6 14 12287 28607 Z ?_ ?_)
        ·refine qG qa [] _ ([]:List Int) h Z Z Z Z Z Z Z Z Z trivial Z fun _ _ _ h=>Ag (h.p [1] Z) (At 12 14 16383 28671 Z ?_ ?_)
         ·obtain⟨g13,b⟩:=qO b;refine qbW qa 0 h Z (h.pinS 1 Z A) Z Z Z Z Z Z Z Z Z Z g13 b Z fun _ _ _ _ h=>Ag (h.p [1] Z) (Ao 14 32767 Z (qG qa [.tmp 101] _ ([i1]:List Int) h Z Z Z Z Z Z Z Z Z ⟨rfl,G⟩ Z fun _ _ _ h=>Ag (h.p [2] Z) (Ao 15 65535 Z ?_)));obtain⟨g14,c⟩:=qO c;refine qbW qa 1 h Z (h.sl 0 Z).1 (h.sl 0 Z).2 Z Z Z Z Z Z Z Z Z g14 c Z fun _ _ _ _ h=>Ag (h.p [2] Z) (Aw 16 131071 (fun w' hw=>qH qa [0,1] [.tmp 93,.tmp 103] Z Z Z Z Z Z Z Z) (h.p [2] Z) Z ?_);refine Ao 17 262143 Z (qid qa [.tmp 104] _ ([(⟨D.Bl,C,0⟩:qg)]:List qg) [0,2,3] h Z Z Z Z Z Z Z Z Z (qnh (qg2 (⟨D.Bl,C,0⟩:qg) h (qv (S:=fun _=>False) Z) (qab 1 h Z) (qv (S:=fun _=>False) Z) (by rfl) (by rfl)) qlh Z) Z Z fun _ _ _ h=>Ag (h.p [2] Z) (Ao 18 524287 Z ?_));obtain⟨g15,d⟩:=qO d;replace h:=h.p [0,3,1,2] Z;refine qpf qa h Z Z Z Z Z Z Z Z Z g15 d Z fun _ _ _ _ h=>G0 1048575 [19] (h.p [2] Z) Z (Ad ?_);replace h:=h.p [0,2] Z;exact rG ⟨_,_,_,rfl,h⟩ Z
         ·refine qG qa [.tmp 101] _ ([i1]:List Int) h Z Z Z Z Z Z Z Z Z ⟨rfl,G⟩ Z fun _ _ _ h=>Ag (h.p [2] Z) (Ao 12 32767 Z ?_);obtain⟨g16,b⟩:=qO b;refine qbW qa 1 h Z (h.pinS 2 Z A) Z Z Z Z Z Z Z Z Z Z g16 b Z fun _ _ _ _ h=>Ag (h.p [2] Z) (Ao 15 65535 Z ?_);obtain⟨g17,c⟩:=qO c;refine qbW qa 1 h Z (h.sl 0 Z).1 (h.sl 0 Z).2 Z Z Z Z Z Z Z Z Z g17 c Z fun _ _ _ _ h=>Ag (h.p [2] Z) (Aw 16 131071 (fun w' hw=>qH qa [0,1] [.tmp 93,.tmp 103] Z Z Z Z Z Z Z Z) (h.p [2] Z) Z ?_);refine Ao 17 262143 Z (qid qa [.tmp 104] _ ([(⟨D.Bl,C,0⟩:qg)]:List qg) [0,2,3] h Z Z Z Z Z Z Z Z Z (qnh (qg2 (⟨D.Bl,C,0⟩:qg) h (qv (S:=fun _=>False) Z) (qab 1 h Z) (qv (S:=fun _=>False) Z) (by rfl) (by rfl)) qlh Z) Z Z fun _ _ _ h=>Ag (h.p [2] Z) (Ao 18 524287 Z ?_));obtain⟨g18,d⟩:=qO d;replace h:=h.p [0,3,1,2] Z;refine qpf qa h Z Z Z Z Z Z Z Z Z g18 d Z fun _ _ _ _ h=>G0 1048575 [19] (h.p [2] Z) Z (Ad ?_);replace h:=h.p [0,2] Z;exact rG ⟨_,_,_,rfl,h⟩ Z
        ·refine qG qa [.tmp 101] _ ([i1]:List Int) h Z Z Z Z Z Z Z Z Z ⟨rfl,G⟩ Z fun _ _ _ h=>Ag (h.p [1] Z) (Ao 6 28671 Z (qG qa [] _ ([]:List Int) h Z Z Z Z Z Z Z Z Z trivial Z fun _ _ _ h=>Ag (h.p [2] Z) (Ao 12 32767 Z ?_)));obtain⟨g19,b⟩:=qO b;refine qbW qa 0 h Z (h.pinS 2 Z A) Z Z Z Z Z Z Z Z Z Z g19 b Z fun _ _ _ _ h=>Ag (h.p [2] Z) (Ao 15 65535 Z ?_);obtain⟨g20,c⟩:=qO c;refine qbW qa 0 h Z (h.sl 1 Z).1 (h.sl 1 Z).2 Z Z Z Z Z Z Z Z Z g20 c Z fun _ _ _ _ h=>Ag (h.p [2] Z) (Aw 16 131071 (fun w' hw=>qH qa [0,1] [.tmp 93,.tmp 103] Z Z Z Z Z Z Z Z) (h.p [2] Z) Z ?_);refine Ao 17 262143 Z (qid qa [.tmp 104] _ ([(⟨D.Bl,C,0⟩:qg)]:List qg) [1,2,3] h Z Z Z Z Z Z Z Z Z (qnh (qg2 (⟨D.Bl,C,0⟩:qg) h (qv (S:=fun _=>False) Z) (qab 0 h Z) (qv (S:=fun _=>False) Z) (by rfl) (by rfl)) qlh Z) Z Z fun _ _ _ h=>Ag (h.p [2] Z) (Ao 18 524287 Z ?_));obtain⟨g21,d⟩:=qO d;replace h:=h.p [0,3,1,2] Z;refine qpf qa h Z Z Z Z Z Z Z Z Z g21 d Z fun _ _ _ _ h=>G0 1048575 [19] (h.p [2] Z) Z (Ad ?_);replace h:=h.p [0,2] Z;exact rG ⟨_,_,_,rfl,h⟩ Z
       ·rintro _ _ ⟨H,z,p,rfl,h⟩;refine X0 6 Z ?_;replace h:=h.p [1,0] Z;exact rK ⟨_,_,_,_,_,_,F,rfl,h⟩ Z
      ·refine qt Z ?_;obtain rfl:=qb F;replace F:=hK2;refine X0 6 Z ?_;replace h:=h.p [1] Z;exact rK ⟨_,_,_,_,_,_,F,rfl,h⟩ Z
   ·refine qt Z ?_;obtain rfl:=qb F;replace F:=hK1;refine X0 5 Z ?_;obtain rfl:=qb F;exact rO 0 h Z ⟨rfl,G⟩
def qdl(p:qg)(q:qg):Nat->Int->Option (Flow Bool Int)|0,_=>U|n+1,i1=>(bif decide (i1<(p.Bf.length:Int)) then V (decide (i1<(q.Bf.length:Int))) else V false).bind fun b1=>bif b1 then(idx p.Bf i1).bind fun a=>(idx q.Bf i1).bind fun b=>bif (a != b) then(idx p.Bf i1).bind fun c=>(idx q.Bf i1).bind fun d=>V (.ret (decide (c<d))) else qdl p q n (W64 (i1+1)) else V (.nxt i1)
def qk7(n:Nat)(p:qg)(q:qg):Option Bool:=bif (p.Bl != q.Bl) then V (decide (p.Bl<q.Bl)) else(qdl p q n 0).bind fun|.ret r=>V r|.nxt _=>V (decide ((p.Bf.length:Int)<(q.Bf.length:Int)))
theorem qrW{p:qg}{q:qg}(i:Ro w p cs1)(k:Ro w q cs2){r:Bool}(F:qk7 n p q=V r):RetV prog 149 [oV qg cs1,oV qg cs2] w r:=by
 obtain⟨P,L,rfl,R⟩:=qak i;obtain⟨Q,M,rfl,s2⟩:=qak k;refine zV 59 func149 Z fun h=>zSR (qw h Z Z fun _ a h=>qw h Z Z fun _ b h=>X2 11 1 0 h Z (qi Z F ?_ ?_))<;>intro F
 ·exact X2 9 1 0 h Z (rb h F Z)
 refine X0 6 Z ?_;obtain⟨O,F,c⟩:=qc F;refine qm (rL (fun m e w'=>∃i1,qdl p q m i1=V O/\e=[(2,vp a),(3,vp b),(5,vi i1)]/\SH w w' [oX b (qbK q Q M) 41,oX a (qbK p P L) 41]) n ⟨_,F,rfl,h⟩ Z ?_);rintro N _ _ ⟨i1,F,rfl,h⟩;rcases N with _|N
 ·cases F
 refine zSS ?_;obtain⟨g,f,_,F,d⟩:=bindE F;refine qa0 (fun e w'=>∃b1,g b1=V O/\e=[(2,vp a),(3,vp b),(5,vi i1),(27,.bool b1)]/\SH w w' [oX b (qbK q Q M) 41,oX a (qbK p P L) 41]) ?_ ?_
 ·refine X1 7 1 h Z (qn (t:=21) F Z ?_ ?_)<;>intro F
  ·refine X1 12 0 h Z ?_;obtain rfl:=qb F;exact rG ⟨_,d,rfl,h⟩ Z
  refine X0 7 Z ?_;obtain rfl:=qb F;exact rG ⟨_,d,rfl,h⟩ Z
 rintro _ _ ⟨b1,F,rfl,h⟩;subst f;refine qi Z F ?_ ?_<;>intro F
 ·refine X0 4 Z (rD (Y1 2 1 h Z ?_));refine zd1 Z ?_;obtain⟨_,_,F,v,_,_,_,_,A,H,rfl,l⟩:=R.ix F;refine zdxe A H v Z (zdc 0 (l.below h.below) Z (Y1 2 0 h Z ?_));refine zd1 Z ?_;obtain⟨_,_,F,x,_,_,_,_,B,I,rfl,o⟩:=s2.ix F;refine zdxe B I x Z (zdc 0 (o.below h.below) Z (zd1 Z (dN h fun _ h=>qi Z F ?_ ?_)))<;>intro F
  ·refine qZ (rD (Y1 2 1 h Z ?_));refine zd1 Z ?_;obtain⟨_,_,F,y,_,_,_,_,C,J,rfl,s⟩:=R.ix F;refine zdxe C J y Z (zdc 0 (s.below h.below) Z (Y1 2 0 h Z ?_));refine zd1 Z ?_;obtain⟨_,_,F,z,_,_,_,_,D,K,rfl,u⟩:=s2.ix F;refine zdxe D K z Z (zdc 0 (u.below h.below) Z (zd2 Z (dN h fun _ h=>?_)));obtain rfl:=qb F;replace F:=c;exact rb h F Z
  exact X0 7 Z (rK ⟨_,F,rfl,h⟩ Z)
 refine qt Z ?_;obtain rfl:=qb F;replace F:=c;exact X2 11 1 0 h Z (rb h F Z)
def qjH(n:Nat)(p:qg)(q:qg)(mode:Int):Option Bool:=bif (p.Ah != q.Ah) then V ((decide (p.Ah > q.Ah))==(mode==1)) else(qk7 n p q).bind fun a=>V a
theorem qqd{p:qg}{q:qg}{mode}(a:Ro w p cs1)(b:Ro w q cs2){r:Bool}(F:qjH n p q mode=V r):RetV prog 101 [oV qg cs1,oV qg cs2,vi mode] w r:=by
 obtain⟨_,_,rfl,_⟩:=qak a;obtain⟨_,_,rfl,_⟩:=qak b;refine zV 23 func101 Z fun h=>zSR (qw h Z Z fun _ _ h=>qw h Z Z fun _ _ h=>X2 11 1 0 h Z (qi Z F ?_ ?_))<;>intro F
 ·exact X2 12 1 0 h Z (rb h F Z)
 exact X2 5 1 0 h Z (zcB h F (qrW (h.old a) (h.old b)) Z fun _ _ h F=>X0 2 Z (rb h F Z))
def qd6(list:(List qg))(mode:Int)(x1:(List qg))(i1:Int):Nat->Int->Option Int|0,_=>U|n+1,a=>bif decide (a > 0) then(idx list i1).bind fun c=>(idx x1 (W64 (a-1))).bind fun d=>(qjH n c d mode).bind fun b=>bif b then qd6 list mode x1 i1 n (W64 (a-1)) else V a else V a
def qeb(list:(List qg))(mode:Int):Nat->(List qg)->Int->Option ((List qg)×Int)|0,_,_=>U|n+1,x1,i1=>bif decide (i1<(list.length:Int)) then(qd6 list mode x1 i1 n (x1.length:Int)).bind fun a=>(subS x1 0 a).bind fun b=>(appS ([]:List qg) b).bind fun x3=>(idx list i1).bind fun g=>(appS x3 ([g]:List qg)).bind fun c=>(subS x1 a (x1.length:Int)).bind fun d=>(appS c d).bind fun f=>qeb list mode n f (W64 (i1+1)) else V (x1,i1)
def qhM(n:Nat)(list:(List qg))(mode:Int):Option (List qg):=(qeb list mode n ([]:List qg) 0).bind fun(x1,_)=>V x1
theorem qmt{A}(hA:∀b,A b->old w b){list:(List qg)}{mode}(B:GoT.R w A list cs1){r:(List qg)}(F:qhM n list mode=V r):RetG prog 61 [oV (List qg) cs1,vi mode] w A r:=by
 obtain⟨p1,k1,rfl,s1⟩:=B;have hg:=Rg.start hA;refine qeE func61 Z (m:=53) Z Z (fun h=>?_);refine X0 6 Z (qid qa [] _ ([]:List qg) [] h Z Z Z Z Z Z Z Z Z qlh Z Z fun _ _ _ h=>X0 7 Z ?_);replace h:=h.toRowA (A:=A) 0 Z;obtain⟨o1,F,z⟩:=qc F;refine qm (rL (fun m e w'=>∃S2 c a x1 i1,qeb list mode m x1 i1=V o1/\e=[(0,oS p1 list.length k1),(1,vi mode),(5,oS c x1.length a),(6,vi i1)]/\SH w w' [Ch.rowA w A S2 (x1:List qg) c a]) n ⟨_,_,_,_,_,F,rfl,h⟩ Z ?_);rintro m1 _ _ ⟨S2,c,a,x1,i1,F,rfl,h⟩;rcases m1 with _|m1
 ·cases F
 refine X0 8 Z (qi Z F ?_ ?_)<;>intro F
 ·refine X0 10 Z ?_;obtain⟨y,k,o2,F,i⟩:=bindE F;refine qa0 (fun e w'=>∃i3,y i3=V o1/\e=[(0,oS p1 list.length k1),(1,vi mode),(5,oS c x1.length a),(6,vi i1),(7,vi i3)]/\SH w w' [Ch.rowA w A S2 (x1:List qg) c a]) ?_ ?_
  ·refine qm (rL (fun m e w'=>∃i4,qd6 list mode x1 i1 m i4=V o2/\e=[(0,oS p1 list.length k1),(1,vi mode),(5,oS c x1.length a),(6,vi i1),(7,vi i4)]/\SH w w' [Ch.rowA w A S2 (x1:List qg) c a]) m1 ⟨_,F,rfl,h⟩ Z ?_);rintro m2 _ _ ⟨i4,F,rfl,h⟩;rcases m2 with _|m2
   ·cases F
   refine zSS (rD (zd3 Z (qaX (t:=20) F Z ?_ ?_)))<;>intro F
   ·refine Y0 5 Z ?_;obtain⟨y2,_,F,J,_,_,_,_,O,R,W,D⟩:=s1.ix F;obtain⟨_,_,rfl,s3⟩:=qak W;refine zdxe O R J Z (Y0 1 Z (zdc 0 (D.below h.below) Z (Y0 7 Z ?_)));obtain⟨y3,x,F⟩:=qc F;have K:=qaO x;obtain⟨_,o_3,_,_,P,S,-,X,H⟩:=h.atA 0 Z x;obtain⟨_,_,rfl,s4⟩:=qak X;refine zdxe P S K Z (Y0 1 Z (zdc 0 H Z (Y0 3 Z ?_)));obtain⟨r1,Y,F⟩:=qc F;refine qa5 r1 (vsB _) (cB 101 Z) (fun _ hb=>qqd (qfp y2 ((h.ext hb).oldS (s3.mono hg.old))) (qfp y3 ((h.ext hb).oldS (s4.mono hg.old))) Y) Z Z Z Z (zd1 Z (dN h fun _ h=>qi Z F ?_ ?_))<;>intro F
    ·exact X0 8 Z (rK ⟨_,F,rfl,h⟩ Z)
    refine qt Z ?_;obtain rfl:=qb F;exact rG ⟨_,i,rfl,h⟩ Z
   refine Y0 12 Z (dN h fun _ h=>qcg Z Z (qt Z ?_));obtain rfl:=qb F;exact rG ⟨_,i,rfl,h⟩ Z
  rintro _ _ ⟨i3,F,rfl,h⟩;subst k;refine zSR (qid qa [] _ ([]:List qg) [0] h Z Z Z Z Z Z Z Z Z qlh Z Z fun _ _ _ h=>zp2 Z ?_);obtain⟨_,u,F⟩:=qc F;obtain⟨_,_,p,l,L,g1⟩:=quu (h.rowAR hA 1 Z) u;refine r_v (qqm qa Z Z Z (qu7 g1 Z) p l L Z Z Z Z) Z ?_;replace h:=h.toRowA (A:=A) 0 Z;obtain⟨_,d,F⟩:=qc F;obtain⟨g2,d⟩:=qO d;refine qxZ qa h u p l Z Z Z Z Z Z Z Z Z Z Z g2 d Z fun _ _ _ _ h=>X0 7 Z ?_;obtain⟨y1,_,F,I,_,_,_,_,N,Q,T,C⟩:=s1.ix F;obtain⟨_,_,rfl,s2⟩:=qak T;refine zxe N Q I Z (zc 0 (C.below h.below) Z (qyA qa [.tmp 44] _ ([y1]:List qg) h Z Z Z Z Z Z Z Z Z ⟨(qfp y1 s2),G⟩ Z fun _ _ _ h=>?_));obtain⟨_,f,F⟩:=qc F;obtain⟨g3,f⟩:=qO f;refine qBY qa h Z Z Z Z Z Z Z Z Z Z Z g3 f Z fun _ _ _ _ h=>X0 6 Z ?_;obtain⟨_,v,F⟩:=qc F;obtain⟨_,_,s,o,M,g4⟩:=quu (h.rowAR hA 1 Z) v;refine r_v (qqm qa Z Z Z (qu7 g4 Z) s o M Z Z Z Z) Z ?_;obtain⟨_,g,F⟩:=qc F;obtain⟨g5,g⟩:=qO g;refine qxZ qa h v s o Z Z Z Z Z Z Z Z Z Z Z g5 g Z fun _ _ _ _ h=>X0 8 Z ?_;replace h:=h.p [0] Z;exact rK ⟨_,_,_,_,_,F,rfl,h⟩ Z
 refine qt Z ?_;obtain rfl:=qb F;replace F:=z;refine X0 5 Z ?_;obtain rfl:=qb F;have a3:GoRs.Rs (ρ:=(List qg)) h.wc (reg A w h.wc) x1 [oV (List qg) [oS c x1.length a]]:=⟨_,rfl,(hg.outR h (⟨_,_,rfl,(h.rowAR hA 0 Z)⟩))⟩;exact qdE qa (ρ:=(List qg)) (r:=x1) [oV (List qg) [oS c x1.length a]] h ⟨rfl,G⟩ a3

def qaT(m:(Option Twork))(tail:(List Int))(l:((Option Twork)->Int->(List Int)->(List qg)->Option (List qg)))(a:Twork)(r4:(List Int)):Nat->(List qg)->Int->Option ((List qg)×Int)|0,_,_=>U|n+1,b,i1=>bif decide (i1<(r4.length:Int)) then(idx r4 i1).bind fun c=>(a.graph).bind fun h=>(h.view).bind fun i=>(idx i.links c).bind fun d=>(idx a.timing.Bb d.Bm).bind fun k=>bif k then(qdB n tail).bind fun f=>(appS f ([c]:List Int)).bind fun x3=>(l m d.Bm x3 b).bind fun g=>qaT m tail l a r4 n g (W64 (i1+1)) else qaT m tail l a r4 n b (W64 (i1+1)) else V (b,i1)
def qaH:Nat->(Option Twork)->Int->(List Int)->(List qg)->Option (List qg)|0,_,_,_,_=>U|n+1,wv,at_,tail,acc=>(wv).bind fun a=>(qdU n a.job.Aq at_).bind fun(_,b)=>(bif b then(qdB n tail).bind fun c=>(revS c).bind fun f=>(appS acc ([(⟨at_,f,0⟩:qg)]:List qg)).bind fun g=>V g else V acc).bind fun x1=>(qhk n a.graph at_).bind fun r4=>(qaT wv tail (qaH n) a r4 n x1 0).bind fun(d,_)=>V d
theorem qnf{n}:∀{d w:World} {F:List Ch} {a c b:Nat} {pw:Option Addr} {wv:(Option Twork)} {at_:Int} {tail:(List Int)} {acc:(List qg)} {S1 S2:Nat->Prop} {i x:Option Addr} {g v:Nat} {r:(List qg)} (_:SH d w (oX c [oS x acc.length v] 64::oW S2 (acc:List qg) [oS x acc.length v]::oW S1 (tail:List Int) [oS i tail.length g]::oX a [.pointer pw] 83::oX b [.func (.func 85) #[] #[vp a,vp c,vp b]] 162::F)) (_:PtR d (old d) wv pw) (_:qaH n wv at_ tail acc=V r),RetU prog 85 [vi at_,oS i tail.length g,vp a,vp c,vp b] w (fun w'=>∃S p k,SH d w' (oX c [oS p r.length k] 64::oW S (r:(List qg)) [oS p r.length k]::oW S1 (tail:List Int) [oS i tail.length g]::oX a [.pointer pw] 83::oX b [.func (.func 85) #[] #[vp a,vp c,vp b]] 162::F)):=by
 induction n with
 |zero=>intro d w F a c b pw wv at_ tail acc S1 S2 i x g v r h0 hwk hF;rw[qaH] at hF;cases hF
 |succ n ih=>
  intro d w F a c b pw wv at_ tail acc S1 S2 i x g v r h0 hwk hF;obtain⟨rc,hrc⟩:∃rc,rc=qaH n:=⟨_,rfl⟩;rw[<-hrc] at ih;have h:=SH.frame [oX c [oS x acc.length v] 64,oW S2 (acc:List qg) [oS x acc.length v],oW S1 (tail:List Int) [oS i tail.length g],oX a [.pointer pw] 83,oX b [.func (.func 85) #[] #[vp a,vp c,vp b]] 162] h0;replace h:SH _ _ [oX c [oS x acc.length v] 64,oW S2 (acc:List qg) [oS x acc.length v],oW S1 (tail:List Int) [oS i tail.length g],oX a [.pointer pw] 83,oX b [.func (.func 85) #[] #[vp a,vp c,vp b]] 162,oG (old d) (FS F) [same d w F]]:=h;refine qoS func85 Z (m:=76) Z Z ?_;unfold qaH at hF;rw[<-hrc] at hF;refine X1 4 3 h Z ?_;obtain⟨y1,hy1,hF⟩:=qc hF;obtain⟨b1,H,_,rfl,-,hr1,l⟩:=PtR.get hwk hy1;obtain⟨_,_,_,_,_,_,_,_,_,_,_,_,_,_,_,_,_,_,_,_,_,_,_,rfl,s1,_,_,_,_,_,_,s8,s9,_,_,_⟩:=qnV hr1;refine zp3 Z (zc 12 (l.below h.below) Z (zp1 Z ?_));obtain⟨⟨r2,r3⟩,hr2,hF⟩:=qc hF;refine qaS (r2,r3) h (cB 83 Z) (qij ⟨_,_,rfl,(h.oldS s8)⟩ hr2) Z Z Z Z fun _ _ _ hv1 hr3=>?_;obtain⟨_,_,_,_,rfl,R,hr4⟩:=hv1.cons hr3;obtain rfl:=qF (R.sh.own 0 Z);obtain⟨rfl,h⟩:=R.lastB hr4;refine zp3 Z (qq qa h Z Z Z fun _ _ h=>zs 0 h Z fun _ h=>X0 6 Z ?_);obtain⟨T,O,_,hF,N⟩:=bindE hF;refine qa0 (fun e w'=>∃S7 I C z x1,T x1=V r/\e=[(0,vi at_),(1,oS i tail.length g),(2,vp a),(4,vp b)]/\SH d w' [oW S7 (x1:List qg) [oS I C z],oX c [oS I C z] 64,oW S1 (tail:List Int) [oS i tail.length g],oX a [.pointer (V ⟨b1,H,U⟩)] 83,oX b [.func (.func 85) #[] #[vp a,vp c,vp b]] 162,oG (old d) (FS F) [same d w F]]) ?_ ?_
  ·refine qi Z hF ?_ ?_<;>intro hF
   ·refine X0 3 Z (zcL h hF (qfi (h.own 4 Z)) Z fun _ _ _ _ _ h hF=>X0 5 Z ?_);obtain⟨x4,hx3,hF⟩:=qc hF;refine qmF (cB 87 Z) (qCm Tryz.slices_Reverse_at 0 h Z hx3) Z Z Z Z fun _ h=>X1 5 3 h Z (r_v (qH qa [0,1] [.tmp 29,.tmp 30] Z Z Z Z Z Z Z Z) Z (qid qa [.tmp 31] _ ([(⟨at_,x4,0⟩:qg)]:List qg) [1,2,3,4,5,6,7,8] h Z Z Z Z Z Z Z Z Z (qnh (qg2 (⟨at_,x4,0⟩:qg) h (qv (S:=fun _=>False) Z) (qab 0 h Z) (qv (S:=fun _=>False) Z) (by rfl) (by rfl)) qlh Z) Z Z fun _ _ _ h=>?_));obtain⟨_,y,hF⟩:=qc hF;obtain⟨g8,y⟩:=qO y;replace h:=h.p [0,4,1,2,3,5,6,7,8] Z;refine qpf qa h Z Z Z Z Z Z Z Z Z g8 y Z fun _ _ _ _ h=>zs 3 h Z fun _ h=>qan ?_;replace h:=h.p [0,3,4,5,6,7] Z;obtain rfl:=qb hF;exact rG ⟨_,_,_,_,_,N,rfl,h⟩ Z
   ·refine qcI ?_;replace h:=h.p [3,2,4,5,6,7] Z;obtain rfl:=qb hF;exact rG ⟨_,_,_,_,_,N,rfl,h⟩ Z
  ·rintro _ _ ⟨S7,I,C,z,x1,hF,rfl,h⟩;subst O;obtain rfl:=(h.sl 0 Z).2;refine X1 5 3 h Z (zc 0 (l.below h.below) Z (zp1 Z (zcL h hF (qj6 (h.old s1)) Z fun r4 _ S8 s o h hF=>X0 3 Z ?_)));obtain⟨o1,hF,hK1⟩:=qc hF;refine qm (rL (fun m e w'=>∃S9 J D A x2 i1,qaT wv tail rc y1 r4 m x2 i1=V o1/\e=[(1,oS i tail.length g),(2,vp a),(4,vp b),(39,oS s r4.length o),(40,vi (r4.length:Int)),(41,vi i1)]/\SH d w' [oW S8 (r4:List Int) [oS s r4.length o],oW S9 (x2:List qg) [oS J D A],oX c [oS J D A] 64,oW S1 (tail:List Int) [oS i tail.length g],oX a [.pointer (V ⟨b1,H,U⟩)] 83,oX b [.func (.func 85) #[] #[vp a,vp c,vp b]] 162,oG (old d) (FS F) [same d w F]]) n ⟨_,_,_,_,_,_,hF,rfl,h⟩ Z ?_);rintro m1 _ _ ⟨S9,J,D,A,x2,i1,hF,rfl,h⟩;obtain rfl:=(h.sl 1 Z).2;rcases m1 with _|m1
   ·cases hF
   refine X0 5 Z (qi Z hF ?_ ?_)<;>intro hF
   ·refine zKSBSR ?_;obtain⟨y2,_,hF,P,_,_,_,_,hp1,hq1,rfl,hc3⟩:=(h.sl 0 Z).1.ix hF;refine zx hp1 hq1 ⟨P.1,qC P.2.1 (h.sl 0 Z).2⟩ Z (zc 0 hc3 Z (X1 7 4 h Z (zc 0 (l.below h.below) Z ?_)));obtain⟨_,hy3,hF⟩:=qc hF;obtain⟨_,o_3,_,rfl,-,hr8,hc4⟩:=PtR.get s1 hy3;obtain⟨_,_,_,rfl,s13,_⟩:=qeG hr8;refine zp2 Z (zc 0 (hc4.below h.below) Z ?_);obtain⟨_,hy4,hF⟩:=qc hF;obtain⟨_,o_4,_,rfl,-,hr9,hc5⟩:=PtR.get s13 hy4;obtain⟨_,_,_,_,_,_,_,_,_,_,_,_,_,_,_,_,_,_,_,_,rfl,_,_,_,_,_,_,s21,_,_,_⟩:=qcn hr9;refine zp2 Z (zc 6 (hc5.below h.below) Z (zp1 Z ?_));obtain⟨_,_,hF,he2,_,_,_,_,hp2,hq2,Q,hc6⟩:=s21.ix hF;obtain rfl:=qaw Q;refine zxe hp2 hq2 he2 Z (zp1 Z (zc 0 (hc6.below h.below) Z (X1 8 4 h Z (zc 13 (l.below h.below) Z (zp1 Z ?_)))));obtain⟨_,_,hF,he3,_,_,_,_,hp3,hq3,rfl,hc7⟩:=s9.ix hF;refine zxe hp3 hq3 he3 Z (zc 0 (hc7.below h.below) Z (qan (qi Z hF ?_ ?_)))<;>intro hF
    ·refine rA [] [5] h Z fun _ h=>M1 23 [0,1,2,4] 0 (h.p [5] Z) Z ?_;obtain⟨r5,t,hF⟩:=qc hF;obtain⟨_,f,hF⟩:=qc hF;obtain⟨r6,u,hF⟩:=qc hF;refine qlc (fun e w'=>∃M L B,e=[(1,oS i tail.length g),(2,vp a),(39,oS s r4.length o),(4,vp b),(40,vi (r4.length:Int)),(41,vi i1)]/\SH d w' [oX c [oS L r6.length B] 64,oW M (r6:List qg) [oS L r6.length B],oX a [.pointer (V ⟨b1,H,U⟩)] 83,oX b [.func (.func 85) #[] #[vp a,vp c,vp b]] 162,oW S8 (r4:List Int) [oS s r4.length o],oW S1 (tail:List Int) [oS i tail.length g],oG (old d) (FS F) [same d w F]]) 0 (bits 8 255) ?_ ?_
     ·intro K;refine At 3 5 31 55 Z ?_ ?_
      ·refine qlg r5 h (cB 86 Z) (qfi (h.own 3 Z) t) Z Z Z Z fun w35 W p58 k50 h=>Ag (h.p [6] Z) (Ao 5 63 Z (qG qa [.tmp 71] _ ([y2]:List Int) h Z Z Z Z Z Z Z Z Z ⟨rfl,G⟩ Z fun w36 p59 X h=>Ag (h.p [7] Z) (Ao 6 127 Z ?_)));obtain⟨g7,f⟩:=qO f;refine qbW qa 1 h Z (h.sl 0 Z).1 (h.sl 0 Z).2 Z Z Z Z Z Z Z Z Z g7 f Z fun w37 p60 k51 Y h=>Ag (h.p [7] Z) (Ao 7 255 Z ?_);replace h:=h.p [4,3,1,6,7,0,2,5,8] Z;refine qmF (cB 85 Z) (ih h hwk u) Z Z Z Z ?_;rintro w38 ⟨a3,p61,k52,h⟩;refine Ag (h.p [4] Z) ?_;replace h:=h.p [0,1,3,4,6,7,8] Z;exact aK K ⟨_,_,_,rfl,h⟩ Z
      ·refine qG qa [.tmp 71] _ ([y2]:List Int) h Z Z Z Z Z Z Z Z Z ⟨rfl,G⟩ Z fun w35 p58 W h=>Ag (h.p [6] Z) (Ao 3 63 Z (qlg r5 h (cB 86 Z) (qfi (h.own 4 Z) t) Z Z Z Z fun w36 X p59 k50 h=>Ag (h.p [7] Z) (Ao 6 127 Z ?_)));obtain⟨g7,f⟩:=qO f;refine qbW qa 0 h Z (h.sl 1 Z).1 (h.sl 1 Z).2 Z Z Z Z Z Z Z Z Z g7 f Z fun w37 p60 k51 Y h=>Ag (h.p [7] Z) (Ao 7 255 Z ?_);replace h:=h.p [4,3,0,6,7,1,2,5,8] Z;refine qmF (cB 85 Z) (ih h hwk u) Z Z Z Z ?_;rintro w38 ⟨a3,p61,k52,h⟩;refine Ag (h.p [4] Z) ?_;replace h:=h.p [0,1,3,4,6,7,8] Z;exact aK K ⟨_,_,_,rfl,h⟩ Z
     ·rintro _ _ ⟨M,L,B,rfl,h⟩;refine Ad (X0 5 Z ?_);replace h:=h.p [4,1,0,5,2,3,6] Z;exact rK ⟨_,_,_,_,_,_,hF,rfl,h⟩ Z
    ·exact X0 6 Z (rK ⟨_,_,_,_,_,_,hF,rfl,h⟩ Z)
   ·refine qt Z ?_;obtain rfl:=qb hF;replace hF:=hK1;obtain rfl:=qb hF;replace h:=h.p [2,1,3,4,5,6] Z;exact qw6 qa ⟨_,_,_,SH.unfr 5 0 h0 h Z Z⟩ trivial
def qhq(n:Nat)(b:(Option Twork))(node:Int):Option (List qg):=(qaH n b node ([]:List Int) ([]:List qg)).bind fun a=>V a
theorem qom{d:(Option Twork)}{node}(a:Ro w d cs1){r:(List qg)}(F:qhq n d node=V r):RetV prog 48 [oV (Option Twork) cs1,vi node] w r:=by
 obtain⟨_,rfl,c⟩:=qaA a;refine zV 12 func48 Z fun h=>zSR (qw h Z Z fun _ _ h=>X0 4 Z (qq qa h Z Z Z fun _ _ h=>zNSR (qq qa h Z Z Z fun _ _ h=>X0 4 Z (zs 0 h Z fun _ h=>X1 5 0 h Z ?_))));replace h:=h.nil (α:=Int);replace h:=h.nil (α:=qg);replace h:=h.p [3,0,1,4,2] Z;obtain⟨_,b,F⟩:=qc F;refine qmF (cB 85 Z) (qnf h c b) Z Z Z Z ?_;rintro _ ⟨_,_,_,h⟩;refine X1 6 0 h Z ?_;obtain rfl:=qb F;exact rO 1 h Z ⟨rfl,G⟩
def qnO(n:Nat)(a:qay)(left:Int):Option Int:=(qlv n (⟨(⟨a.Ac.Au.Ay⟩:qp),(⟨a.Ac.Aa.Ab,a.Ac.Aa.As,a.Ac.Aa.Ak⟩:qd),a.Ac.Ai⟩:qh) left).bind fun b=>bif decide (b<0) then V (-1) else(qkm n (⟨a.Af.Bd,a.Af.Am,a.Af.Ar,a.Af.Aj,a.Af.Ap⟩:qu) b).bind fun c=>bif decide (c<0) then V (-1) else(qcc n a.Av c).bind fun d=>bif decide (d<0) then V (-1) else(qma n a.Aq d).bind fun r4=>bif decide (r4<0) then V (-1) else V r4
theorem qtl{a:qay}{left}(b:Ro w a cs1){r:Int}(F:qnO n a left=V r):RetV prog 6 [oV qay cs1,vi left] w r:=by
 obtain⟨_,_,_,_,_,_,_,_,_,_,_,_,_,_,rfl,c,s2,d,f,g,i,k⟩:=qdj b;refine zV 30 func6 Z fun h=>zSR (qw h Z Z fun _ _ h=>X1 7 0 h Z (zcI h F (qrX (qdM _ (h.oldS c) (h.oldS s2) (h.oldS d) (h.oldS f) (h.oldS g))) Z fun _ _ h F=>X0 8 Z (qi Z F ?_ ?_)))<;>intro F
 ·exact X0 4 Z (ri h F Z)
 refine X1 6 0 h Z (zcI h F (qq7 (qd4 _)) Z fun _ _ h F=>X0 8 Z (qi Z F ?_ ?_))<;>intro F
 ·exact X0 4 Z (ri h F Z)
 refine X1 6 0 h Z (zcI h F (qbM ⟨_,_,rfl,(h.oldS i)⟩) Z fun _ _ h F=>X0 8 Z (qi Z F ?_ ?_))<;>intro F
 ·exact X0 4 Z (ri h F Z)
 refine X1 6 0 h Z (zcI h F (qpY ⟨_,_,rfl,(h.oldS k)⟩) Z fun _ _ h F=>X0 8 Z (qi Z F ?_ ?_))<;>intro F
 ·exact X0 4 Z (ri h F Z)
 exact X0 6 Z (ri h F Z)
def qiX(n:Nat)(a:qay):Option qay:=(qly n (⟨(⟨a.Ac.Au.Ay⟩:qp),(⟨a.Ac.Aa.Ab,a.Ac.Aa.As,a.Ac.Aa.Ak⟩:qd),a.Ac.Ai⟩:qh)).bind fun c=>(qke n (⟨a.Af.Bd,a.Af.Am,a.Af.Ar,a.Af.Aj,a.Af.Ap⟩:qu)).bind fun b=>(qbP n a.Av).bind fun d=>(qje n a.Aq).bind fun r4=>V (⟨c,(⟨b.Bd,b.Am,b.Ar,b.Aj,b.Ap⟩:qu),d,r4⟩:qay)
theorem qkr{a:qay}(d:Ro w a cs1){r:qay}(F:qiX n a=V r):RetV prog 8 [oV qay cs1] w r:=by
 obtain⟨_,_,_,_,_,_,_,_,_,_,_,_,_,_,rfl,A,s2,B,C,D,H,I⟩:=qdj d;refine zV 21 func8 Z fun h=>zSR (qw h Z Z fun _ _ h=>qq qa h Z Z Z fun _ _ h=>zNSR (qq qa h Z Z Z fun _ _ h=>X1 5 2 h Z (zcO h F (qrA (qdM _ (h.oldS A) (h.oldS s2) (h.oldS B) (h.oldS C) (h.oldS D))) Z fun c _ _ _ h F=>?_)));obtain⟨y,v,z,x,m,f,o,g,p,i,rfl,-,-,-,-,-⟩:=qaf (h.own 0 Z);refine zp1 Z (zs 1 h Z fun _ h=>X1 5 3 h Z (zcO h F (qre (qd4 _)) Z fun b _ _ _ h F=>?_));obtain rfl:=qaL (h.own 0 Z);refine zp1 Z (zs 2 h Z fun _ h=>X1 5 4 h Z (zcL h F (qbO ⟨_,_,rfl,(h.oldS H)⟩) Z fun u _ _ s k h F=>zp1 Z (zs 3 h Z fun _ h=>X1 5 5 h Z (zcL h F (qp8 ⟨_,_,rfl,(h.oldS I)⟩) Z fun r4 _ _ t l h F=>zp1 Z (zs 4 h Z fun _ h=>X1 4 4 h Z (zs 5 h Z fun _ h=>qan ?_))))));obtain rfl:=qb F;exact qac qa (ρ:=qay) [oV qay [oS y c.Au.Ay.length v,oS z c.Aa.Ab.length x,oS m c.Aa.As.length f,oS o c.Aa.Ak.length g,oS p c.Ai.length i,.string b.Bd,vi b.Am,vi b.Ar,vi b.Aj,vi b.Ap,oS s u.length k,oS t r4.length l]] h ⟨⟨_,_,_,rfl,rfl,h.box 5 Z,rfl⟩,G⟩ (PV.done h (qae (qAC (⟨c,(⟨b.Bd,b.Am,b.Ar,b.Aj,b.Ap⟩:qu),u,r4⟩:qay) h (qab 3 h Z) (qv (S:=fun _=>False) (qd4 (⟨b.Bd,b.Am,b.Ar,b.Aj,b.Ap⟩:qu))) (qab 1 h Z) (qab 0 h Z) (by rfl) (by rfl) (by rfl))))
def qnG(n:Nat)(a:qay)(b:qay):Option Bool:=(qk8 n (⟨(⟨a.Ac.Au.Ay⟩:qp),(⟨a.Ac.Aa.Ab,a.Ac.Aa.As,a.Ac.Aa.Ak⟩:qd),a.Ac.Ai⟩:qh) (⟨(⟨b.Ac.Au.Ay⟩:qp),(⟨b.Ac.Aa.Ab,b.Ac.Aa.As,b.Ac.Aa.Ak⟩:qd),b.Ac.Ai⟩:qh)).bind fun c=>bif (!c) then V false else(qkt n (⟨a.Af.Bd,a.Af.Am,a.Af.Ar,a.Af.Aj,a.Af.Ap⟩:qu) (⟨b.Af.Bd,b.Af.Am,b.Af.Ar,b.Af.Aj,b.Af.Ap⟩:qu)).bind fun d=>bif (!d) then V false else(qbB n a.Av b.Av).bind fun f=>bif (!f) then V false else(qjt n a.Aq b.Aq).bind fun r4=>bif (!r4) then V false else V true
theorem qtr{a:qay}{b:qay}(c:Ro w a cs1)(d:Ro w b cs2){r:Bool}(F:qnG n a b=V r):RetV prog 11 [oV qay cs1,oV qay cs2] w r:=by
 obtain⟨_,_,_,_,_,_,_,_,_,_,_,_,_,_,rfl,m,s2,o,p,s,t,u⟩:=qdj c;obtain⟨_,_,_,_,_,_,_,_,_,_,_,_,_,_,rfl,v,x,f,g,i,k,l⟩:=qdj d;refine zV 29 func11 Z fun h=>zSR (qw h Z Z fun _ _ h=>qw h Z Z fun _ _ h=>X2 9 1 0 h Z (zcB h F (qrI (qdM _ (h.oldS m) (h.oldS s2) (h.oldS o) (h.oldS p) (h.oldS s)) (qdM _ (h.oldS v) (h.oldS x) (h.oldS f) (h.oldS g) (h.oldS i))) Z fun _ _ h F=>X0 2 Z (qi Z F ?_ ?_)))<;>intro F
 ·exact X0 4 Z (rb h F Z)
 refine X2 8 1 0 h Z (zcB h F (qq1 (qd4 _) (qd4 _)) Z fun _ _ h F=>X0 2 Z (qi Z F ?_ ?_))<;>intro F
 ·exact X0 4 Z (rb h F Z)
 refine X2 8 1 0 h Z (zcB h F (qbw ⟨_,_,rfl,(h.oldS t)⟩ ⟨_,_,rfl,(h.oldS k)⟩) Z fun _ _ h F=>X0 2 Z (qi Z F ?_ ?_))<;>intro F
 ·exact X0 4 Z (rb h F Z)
 refine X2 8 1 0 h Z (zcB h F (qqb ⟨_,_,rfl,(h.oldS u)⟩ ⟨_,_,rfl,(h.oldS l)⟩) Z fun _ _ h F=>X0 2 Z (qi Z F ?_ ?_))<;>intro F
 ·exact X0 4 Z (rb h F Z)
 exact X0 5 Z (rb h F Z)
def qi9(n:Nat)(a:qg)(b:qg):Option Bool:=bif (a.Bl != b.Bl) then V false else(qbB n a.Bf b.Bf).bind fun c=>bif (!c) then V false else bif (a.Ah != b.Ah) then V false else V true
theorem ql4{a:qg}{b:qg}(c:Ro w a cs1)(d:Ro w b cs2){r:Bool}(F:qi9 n a b=V r):RetV prog 10 [oV qg cs1,oV qg cs2] w r:=by
 obtain⟨_,_,rfl,f⟩:=qak c;obtain⟨_,_,rfl,s2⟩:=qak d;refine zV 21 func10 Z fun h=>zSR (qw h Z Z fun _ _ h=>qw h Z Z fun _ _ h=>X2 11 1 0 h Z (qi Z F ?_ ?_))<;>intro F
 ·exact X0 4 Z (rb h F Z)
 refine X2 8 1 0 h Z (zcB h F (qbw ⟨_,_,rfl,(h.oldS f)⟩ ⟨_,_,rfl,(h.oldS s2)⟩) Z fun _ _ h F=>X0 2 Z (qi Z F ?_ ?_))<;>intro F
 ·exact X0 4 Z (rb h F Z)
 refine X2 10 1 0 h Z (qi Z F ?_ ?_)<;>intro F
 ·exact X0 4 Z (rb h F Z)
 exact X0 5 Z (rb h F Z)
def qbh(a:(List Int)):Nat->(List Int)->Int->Int->Option ((List Int)×Int×Int)|0,_,_,_=>U|n+1,x1,i1,b=>bif decide (b<(a.length:Int)) then(idx x1 b).bind fun _=>qbh a n (setS x1 b i1) (W64 (i1+1)) (W64 (b+1)) else V (x1,i1,b)
def qaz(n:Nat)(a:(List Int))(k:Int):Option (Int×(List Int)):=(qbh a n a k 0).bind fun(x1,i1,_)=>V (i1,x1)
theorem qaP{n t w F}{a:(List Int)}{k S1 i b g}(h:SH t w (oW S1 (a:List Int) [oS i b g]::F)){r:(Int×(List Int))}(x:qaz n a k=V r):RetN prog 38 [oS i b g,vi k] w (fun w'=>∃Z0:Nat->Prop,SH t w' (oW Z0 (r.2:List Int) [oS i b g]::F)) r.1:=by
 refine qb4 func38 Z (m:=19) Z Z ?_;obtain rfl:=(h.sl 0 Z).2;refine X0 9 Z ?_;obtain⟨v,x,l⟩:=qc x;refine qm (rL (fun m e w'=>∃x1 i1 s,qbh a m x1 i1 s=V v/\e=[(0,oS i a.length g),(1,vi i1),(5,vi s)]/\SH t w' (oW S1 (x1:List Int) [oS i a.length g]::F)) n ⟨_,_,_,x,rfl,h⟩ Z ?_);rintro u _ _ ⟨x1,i1,s,x,rfl,h⟩;rcases u with _|u
 ·cases x
 refine X0 8 Z (qi Z x ?_ ?_)<;>intro x
 ·refine X0 8 Z ?_;obtain⟨_,p,x,c,_,_,_,_,d,f,rfl,o⟩:=(h.sl 0 Z).1.ix x;exact zx d f ⟨c.1,qC c.2.1 (h.sl 0 Z).2⟩ Z (qax qa 0 0 i1 h Z p d f Z o Z Z Z Z Z Z Z fun _ h=>X0 12 Z (rK ⟨_,_,_,x,rfl,h⟩ Z))
 refine qt Z ?_;obtain rfl:=qb x;replace x:=l;refine X0 5 Z ?_;obtain rfl:=qb x;exact qiZ qa ⟨_,h⟩ ⟨rfl,G⟩
def qgu:Nat->Int->ByteArray->Option (Int×ByteArray)|0,_,_=>U|n+1,i1,a=>bif decide (i1 > 0) then(catB (strOf ([(⟨IntKind.wrap .u8 (W64 (48+(i1.tmod 10)))⟩:IntK .u8)]:List (IntK .u8))) a).bind fun b=>qgu n (W64 (i1.tdiv 10)) b else V (i1,a)
def qeF(n:Nat)(k:Int):Option ByteArray:=bif decide (k<=0) then V (⟨#[109,48]⟩:ByteArray) else(qgu n k (⟨#[]⟩:ByteArray)).bind fun(_,a)=>(catB (⟨#[109]⟩:ByteArray) a).bind fun b=>V b
theorem qgp{k}  {r:ByteArray}(F:qeF n k=V r):RetV prog 170 [vi k] w r:=by
 refine zV 20 func170 Z fun h=>X0 10 Z (qi Z F ?_ ?_)<;>intro F
 ·refine X0 4 Z ?_;obtain rfl:=qb F;exact qac qa (ρ:=ByteArray) [_] h ⟨rfl,G⟩ (qwW _ _)
 refine X0 6 Z ?_;obtain⟨l,F,c⟩:=qc F;refine qm (rL (fun m e w'=>∃i1 d,qgu m i1 d=V l/\e=[(0,vi i1),(3,.string d)]/\SH w w' []) n ⟨_,_,F,rfl,h⟩ Z ?_);rintro f _ _ ⟨i1,d,F,rfl,h⟩;rcases f with _|f
 ·cases F
 refine X0 6 Z (qi Z F ?_ ?_)<;>intro F
 ·refine X0 8 Z (qG qa [.tmp 11] _ ([(⟨IntKind.wrap .u8 (W64 (48+(i1.tmod 10)))⟩:IntK .u8)]:List (IntK .u8)) h Z Z Z Z Z Z Z Z Z ⟨rfl,G⟩ Z fun _ _ _ h=>r_v (qAL qa (h.sl 0 Z).1 (h.sl 0 Z).2 Z ⟨rfl,rfl⟩ ⟨rfl,rfl⟩ Z Z) Z (zp1 Z ?_));obtain⟨_,a,F⟩:=qc F;obtain⟨g,a⟩:=quk a;refine r_v (qBD g Z Z) Z ?_;rw[a];refine X0 8 Z ?_;replace h:=h.p [] Z;exact rK ⟨_,_,F,rfl,h⟩ Z
 refine qt Z ?_;obtain rfl:=qb F;replace F:=c;refine X0 3 Z ?_;obtain⟨_,b,F⟩:=qc F;obtain⟨i,b⟩:=quk b;refine r_v (qBD i Z Z) Z ?_;rw[b];refine X0 2 Z ?_;obtain rfl:=qb F;exact qac qa (ρ:=ByteArray) [_] h ⟨rfl,G⟩ (qwW _ _)
def qe2(a:(List qal)):Nat->(List qal)->Int->Int->Option ((List qal)×Int×Int)|0,_,_,_=>U|n+1,x1,i1,b=>bif decide (b<(a.length:Int)) then(qeF n i1).bind fun c=>(idx x1 b).bind fun d=>(idx (setS x1 b ({ d with Bd:=c })) b).bind fun f=>(idx (setS (setS x1 b ({ d with Bd:=c })) b ({ f with Bx:=W64 (i1+1) })) b).bind fun g=>(idx (setS (setS (setS x1 b ({ d with Bd:=c })) b ({ f with Bx:=W64 (i1+1) })) b ({ g with Bu:=W64 ((W64 (i1+1))+1) })) b).bind fun h=>qe2 a n (setS (setS (setS (setS x1 b ({ d with Bd:=c })) b ({ f with Bx:=W64 (i1+1) })) b ({ g with Bu:=W64 ((W64 (i1+1))+1) })) b ({ h with Bt:=(((W64 ((W64 ((W64 (i1+1))+1))+1)).tmod 3)==0) })) (W64 ((W64 ((W64 ((W64 (i1+1))+1))+1))+1)) (W64 (b+1)) else V (x1,i1,b)
def qmL(n:Nat)(a:(List qal))(k:Int):Option (Int×(List qal)):=(qe2 a n a k 0).bind fun(x1,i1,_)=>V (i1,x1)
theorem qp7{n Q w F}{a:(List qal)}{k S1 y b x}(h:SH Q w (oW S1 (a:List qal) [oS y b x]::F)){r:(Int×(List qal))}(hF:qmL n a k=V r):RetN prog 171 [oS y b x,vi k] w (fun w'=>∃Z0:Nat->Prop,SH Q w' (oW Z0 (r.2:List qal) [oS y b x]::F)) r.1:=by
 refine qb4 func171 Z (m:=44) Z Z ?_;obtain rfl:=(h.sl 0 Z).2;refine X0 9 Z ?_;obtain⟨o1,hF,z⟩:=qc hF;refine qm (rL (fun m e w'=>∃x1 i1 P,qe2 a m x1 i1 P=V o1/\e=[(0,oS y a.length x),(1,vi i1),(5,vi P)]/\SH Q w' (oW S1 (x1:List qal) [oS y a.length x]::F)) n ⟨_,_,_,hF,rfl,h⟩ Z ?_);rintro X _ _ ⟨x1,i1,P,hF,rfl,h⟩;rcases X with _|X
 ·cases hF
 refine X0 8 Z (qi Z hF ?_ ?_)<;>intro hF
 ·refine X0 8 Z (zcS h hF qgp Z fun Y _ h hF=>?_);obtain⟨R,L,hF,c,_,_,_,_,i,s,H,A⟩:=(h.sl 0 Z).1.ix hF;obtain rfl:=qa2 H;refine zx i s ⟨c.1,qC c.2.1 (h.sl 0 Z).2⟩ Z (zp1 Z (qax qa 0 0 ({ R with Bd:=Y }:qal) h Z L i s (qes R) A Z Z Z (qes ({ R with Bd:=Y })) Z Z Z fun _ h=>X0 12 Z ?_));obtain⟨S,M,hF,d,_,_,_,_,l,t,I,B⟩:=(h.sl 0 Z).1.ix hF;obtain rfl:=qa2 I;refine zx l t ⟨d.1,qC d.2.1 (h.sl 0 Z).2⟩ Z (zp1 Z (qax qa 0 1 ({ S with Bx:=W64 (i1+1) }:qal) h Z M l t (qes S) B Z Z Z (qes ({ S with Bx:=W64 (i1+1) })) Z Z Z fun _ h=>X0 12 Z ?_));obtain⟨T,N,hF,f,_,_,_,_,o,u,J,C⟩:=(h.sl 0 Z).1.ix hF;obtain rfl:=qa2 J;refine zx o u ⟨f.1,qC f.2.1 (h.sl 0 Z).2⟩ Z (zp1 Z (qax qa 0 2 ({ T with Bu:=W64 ((W64 (i1+1))+1) }:qal) h Z N o u (qes T) C Z Z Z (qes ({ T with Bu:=W64 ((W64 (i1+1))+1) })) Z Z Z fun _ h=>X0 14 Z ?_));obtain⟨W,O,hF,g,_,_,_,_,p,v,K,D⟩:=(h.sl 0 Z).1.ix hF;obtain rfl:=qa2 K;exact zx p v ⟨g.1,qC g.2.1 (h.sl 0 Z).2⟩ Z (zp1 Z (qax qa 0 3 ({ W with Bt:=(((W64 ((W64 ((W64 (i1+1))+1))+1)).tmod 3)==0) }:qal) h Z O p v (qes W) D Z Z Z (qes ({ W with Bt:=(((W64 ((W64 ((W64 (i1+1))+1))+1)).tmod 3)==0) })) Z Z Z fun _ h=>X0 12 Z (rK ⟨_,_,_,hF,rfl,h⟩ Z)))
 refine qt Z ?_;obtain rfl:=qb hF;replace hF:=z;refine X0 5 Z ?_;obtain rfl:=qb hF;exact qiZ qa ⟨_,h⟩ ⟨rfl,G⟩
def qdz(a:(List qy)):Nat->(List qy)->Int->Int->Option ((List qy)×Int×Int)|0,_,_,_=>U|n+1,x1,i1,b=>bif decide (b<(a.length:Int)) then(idx x1 b).bind fun c=>(qaz n c.Bo i1).bind fun(d,h)=>(qaz n c.Bk d).bind fun(f,x3)=>(qaz n c.Bj f).bind fun(g,i)=>qdz a n (setS x1 b (⟨h,x3,i⟩:qy)) g (W64 (b+1)) else V (x1,i1,b)
def qiO(n:Nat)(a:(List qy))(k:Int):Option (Int×(List qy)):=(qdz a n a k 0).bind fun(x1,i1,_)=>V (i1,x1)
theorem qk4{n D w F}{a:(List qy)}{k S1 u c t}(h:SH D w (oW S1 (a:List qy) [oS u c t]::F)){r:(Int×(List qy))}(R:qiO n a k=V r):RetN prog 230 [oS u c t,vi k] w (fun w'=>∃Z0:Nat->Prop,SH D w' (oW Z0 (r.2:List qy) [oS u c t]::F)) r.1:=by
 refine qb4 func230 Z (m:=34) Z Z ?_;obtain rfl:=(h.sl 0 Z).2;refine X0 9 Z ?_;obtain⟨I,R,v⟩:=qc R;refine qm (rL (fun m e w'=>∃S2 x1 i1 d,qdz a m x1 i1 d=V I/\e=[(0,oS u a.length t),(1,vi i1),(5,vi d)]/\SH D w' (oW S2 (x1:List qy) [oS u a.length t]::F)) n ⟨_,_,_,_,R,rfl,h⟩ Z ?_);rintro H _ _ ⟨S2,x1,i1,d,R,rfl,h⟩;rcases H with _|H
 ·cases R
 refine X0 8 Z (qi Z R ?_ ?_)<;>intro R
 ·refine X0 7 Z ?_;obtain⟨_,s,R⟩:=qc R;have b:=qaO s;obtain⟨_,_,_,h⟩:=h.take s;obtain⟨_,_,_,_,_,_,rfl,-,-,-⟩:=qaK (h.own 0 Z);obtain⟨_,_,_,h⟩:=quy h;obtain⟨_,f,-,-,x⟩:=h.holeAt 3 Z;obtain⟨O,l⟩:∃q,q=0+(d).toNat*GoT.k qy:=⟨_,rfl⟩;refine zx f l ⟨b.1,qC b.2.1 x⟩ Z (zp1 Z (zc 0 (qcH h 3 Z f l) Z (zp1 Z ?_)));replace h:=h.pickT 4 [2,0,1,3] Z;obtain⟨⟨J,M⟩,A,R⟩:=qc R;refine qcv J (cB 38 Z) (qaP h A) Z Z Z Z ?_;rintro _ ⟨_,h⟩;refine X0 6 Z ?_;obtain⟨_,g,-,-,y⟩:=h.holeAt 3 Z;obtain⟨P,o⟩:∃q,q=0+(d).toNat*GoT.k qy:=⟨_,rfl⟩;refine zx g o ⟨b.1,qC b.2.1 y⟩ Z (zp1 Z (zc 1 (qcH h 3 Z g o) Z (zp1 Z ?_)));replace h:=h.pickT 4 [2,0,1,3] Z;obtain⟨⟨K,x3⟩,B,R⟩:=qc R;refine qcv K (cB 38 Z) (qaP h B) Z Z Z Z ?_;rintro _ ⟨_,h⟩;refine X0 5 Z ?_;obtain⟨_,i,-,-,z⟩:=h.holeAt 3 Z;obtain⟨Q,p⟩:∃q,q=0+(d).toNat*GoT.k qy:=⟨_,rfl⟩;refine zx i p ⟨b.1,qC b.2.1 z⟩ Z (zp1 Z (zc 2 (qcH h 3 Z i p) Z (zp1 Z ?_)));replace h:=h.pickT 4 [2,0,1,3] Z;obtain⟨⟨L,N⟩,C,R⟩:=qc R;refine qcv L (cB 38 Z) (qaP h C) Z Z Z Z ?_;rintro _ ⟨_,h⟩;refine X0 8 Z ?_;obtain⟨_,h⟩:=h.gatherT 4 [3] (qt0 (⟨M,x3,N⟩:qy) h (qab 2 h Z) (qab 1 h Z) (qab 0 h Z) (by rfl) (by rfl)) Z;replace h:=h.put;obtain⟨_,h⟩:=qnr (S:=_) h;exact rK ⟨_,_,_,_,R,rfl,h⟩ Z
 refine qt Z ?_;obtain rfl:=qb R;replace R:=v;refine X0 5 Z ?_;obtain rfl:=qb R;exact qiZ qa ⟨_,h⟩ ⟨rfl,G⟩
def qeZ(a:(List qJ)):Nat->(List qJ)->Int->Int->Option ((List qJ)×Int×Int)|0,_,_,_=>U|n+1,x1,i1,b=>bif decide (b<(a.length:Int)) then(idx x1 b).bind fun c=>(qiO n c.Bp (W64 ((W64 ((W64 ((W64 (i1+1))+1))+1))+1))).bind fun(d,g)=>(qiO n c.Be d).bind fun(f,x3)=>qeZ a n (setS x1 b (⟨i1,W64 (i1+1),W64 ((W64 (i1+1))+1),W64 ((W64 ((W64 (i1+1))+1))+1),g,x3⟩:qJ)) f (W64 (b+1)) else V (x1,i1,b)
def qmK(n:Nat)(a:(List qJ))(k:Int):Option (Int×(List qJ)):=(qeZ a n a k 0).bind fun(x1,i1,_)=>V (i1,x1)
theorem qpZ{n T w F}{a:(List qJ)}{k S1 i g f}(h:SH T w (oW S1 (a:List qJ) [oS i g f]::F)){r:(Int×(List qJ))}(hF:qmK n a k=V r):RetN prog 172 [oS i g f,vi k] w (fun w'=>∃Z0:Nat->Prop,SH T w' (oW Z0 (r.2:List qJ) [oS i g f]::F)) r.1:=by
 refine qb4 func172 Z (m:=55) Z Z ?_;obtain rfl:=(h.sl 0 Z).2;refine X0 9 Z ?_;obtain⟨o1,hF,L⟩:=qc hF;refine qm (rL (fun m e w'=>∃S2 x1 i1 d,qeZ a m x1 i1 d=V o1/\e=[(0,oS i a.length f),(1,vi i1),(5,vi d)]/\SH T w' (oW S2 (x1:List qJ) [oS i a.length f]::F)) n ⟨_,_,_,_,hF,rfl,h⟩ Z ?_);rintro m1 _ _ ⟨S2,x1,i1,d,hF,rfl,h⟩;rcases m1 with _|m1
 ·cases hF
 refine X0 8 Z (qi Z hF ?_ ?_)<;>intro hF
 ·refine X0 8 Z ?_;obtain⟨c,H,hF⟩:=qc hF;have b:=qaO H;obtain⟨_,W,_,h⟩:=h.take H;obtain⟨J,I,K,k3,rfl,-,-⟩:=qaj (h.own 0 Z);obtain⟨X,Y,h⟩:=qxh h;obtain⟨_,p,-,-,M⟩:=h.holeAt 2 Z;obtain⟨q1,y⟩:∃q,q=0+(d).toNat*GoT.k qJ:=⟨_,rfl⟩;refine zx p y ⟨b.1,qC b.2.1 M⟩ Z (zp1 Z (qfN qa 2 0 h Z p y Z Z Z Z Z Z fun _ h=>?_));replace h:SH _ _ (oW Y (c.Be:List qy) [oS K c.Be.length k3]::oW X (c.Bp:List qy) [oS J c.Bp.length I]::Ch.hole W (x1:List qJ) i a.length f (d).toNat [vi i1,vi c.Bm,vi c.To,vi c.Br,oS J c.Bp.length I,oS K c.Be.length k3]::F):=h;refine X0 12 Z ?_;obtain⟨_,s,-,-,N⟩:=h.holeAt 2 Z;obtain⟨q2,z⟩:∃q,q=0+(d).toNat*GoT.k qJ:=⟨_,rfl⟩;refine zx s z ⟨b.1,qC b.2.1 N⟩ Z (zp1 Z (qfN qa 2 1 h Z s z Z Z Z Z Z Z fun _ h=>X0 12 Z ?_));obtain⟨_,t,-,-,O⟩:=h.holeAt 2 Z;obtain⟨q3,A⟩:∃q,q=0+(d).toNat*GoT.k qJ:=⟨_,rfl⟩;refine zx t A ⟨b.1,qC b.2.1 O⟩ Z (zp1 Z (qfN qa 2 2 h Z t A Z Z Z Z Z Z fun _ h=>X0 12 Z ?_));obtain⟨_,u,-,-,P⟩:=h.holeAt 2 Z;obtain⟨q4,B⟩:∃q,q=0+(d).toNat*GoT.k qJ:=⟨_,rfl⟩;refine zx u B ⟨b.1,qC b.2.1 P⟩ Z (zp1 Z (qfN qa 2 3 h Z u B Z Z Z Z Z Z fun _ h=>?_));replace h:SH _ _ (oW Y (c.Be:List qy) [oS K c.Be.length k3]::oW X (c.Bp:List qy) [oS J c.Bp.length I]::Ch.hole W (x1:List qJ) i a.length f (d).toNat [vi i1,vi (W64 (i1+1)),vi (W64 ((W64 (i1+1))+1)),vi (W64 ((W64 ((W64 (i1+1))+1))+1)),oS J c.Bp.length I,oS K c.Be.length k3]::F):=h;refine X0 11 Z ?_;obtain⟨_,v,-,-,l⟩:=h.holeAt 2 Z;obtain⟨q5,C⟩:∃q,q=0+(d).toNat*GoT.k qJ:=⟨_,rfl⟩;refine zx v C ⟨b.1,qC b.2.1 l⟩ Z (zp1 Z (zc 4 (qcH h 2 Z v C) Z (zp1 Z ?_)));replace h:=h.pickT 3 [1,0,2] Z;obtain⟨⟨r1,x2⟩,Q,hF⟩:=qc hF;refine qcv r1 (cB 230 Z) (qk4 h Q) Z Z Z Z ?_;rintro _ ⟨_,h⟩;refine X0 5 Z ?_;obtain⟨_,x,-,-,o⟩:=h.holeAt 2 Z;obtain⟨q6,D⟩:∃q,q=0+(d).toNat*GoT.k qJ:=⟨_,rfl⟩;refine zx x D ⟨b.1,qC b.2.1 o⟩ Z (zp1 Z (zc 5 (qcH h 2 Z x D) Z (zp1 Z ?_)));replace h:=h.pickT 3 [1,0,2] Z;obtain⟨⟨r2,x3⟩,R,hF⟩:=qc hF;refine qcv r2 (cB 230 Z) (qk4 h R) Z Z Z Z ?_;rintro _ ⟨_,h⟩;refine X0 8 Z ?_;obtain⟨_,h⟩:=h.gatherT 3 [2] (qxT (⟨i1,W64 (i1+1),W64 ((W64 (i1+1))+1),W64 ((W64 ((W64 (i1+1))+1))+1),x2,x3⟩:qJ) h (qv (S:=fun _=>False) Z) (qv (S:=fun _=>False) Z) (qv (S:=fun _=>False) Z) (qv (S:=fun _=>False) Z) (qab 1 h Z) (qab 0 h Z) (by rfl) (by rfl) (by rfl) (by rfl) (by rfl)) Z;replace h:=h.put;obtain⟨_,h⟩:=qnr (S:=_) h;exact rK ⟨_,_,_,_,hF,rfl,h⟩ Z
 refine qt Z ?_;obtain rfl:=qb hF;replace hF:=L;refine X0 5 Z ?_;obtain rfl:=qb hF;exact qiZ qa ⟨_,h⟩ ⟨rfl,G⟩
def qd8(a:(List qz)):Nat->(List qz)->Int->Int->Option ((List qz)×Int×Int)|0,_,_,_=>U|n+1,x1,i1,b=>bif decide (b<(a.length:Int)) then(qeF n i1).bind fun d=>(idx x1 b).bind fun c=>(qmL n c.Bh (W64 ((W64 (i1+1))+1))).bind fun(f,h)=>(qmK n c.Bc f).bind fun(g,x3)=>(qaz n c.Bq g).bind fun(r4,i)=>qd8 a n (setS x1 b (⟨d,W64 (i1+1),h,x3,i,r4,W64 (r4+1)⟩:qz)) (W64 ((W64 (r4+1))+1)) (W64 (b+1)) else V (x1,i1,b)
def qlK(n:Nat)(a:(List qz))(k:Int):Option (Int×(List qz)):=(qd8 a n a k 0).bind fun(x1,i1,_)=>V (i1,x1)
theorem qpA{n w0 w F}{a:(List qz)}{k S1 i g f}(h:SH w0 w (oW S1 (a:List qz) [oS i g f]::F)){r:(Int×(List qz))}(hF:qlK n a k=V r):RetN prog 120 [oS i g f,vi k] w (fun w'=>∃Z0:Nat->Prop,SH w0 w' (oW Z0 (r.2:List qz) [oS i g f]::F)) r.1:=by
 refine qb4 func120 Z (m:=63) Z Z ?_;obtain rfl:=(h.sl 0 Z).2;refine X0 9 Z ?_;obtain⟨o1,hF,R⟩:=qc hF;refine qm (rL (fun m e w'=>∃S2 x1 i1 d,qd8 a m x1 i1 d=V o1/\e=[(0,oS i a.length f),(1,vi i1),(5,vi d)]/\SH w0 w' (oW S2 (x1:List qz) [oS i a.length f]::F)) n ⟨_,_,_,_,hF,rfl,h⟩ Z ?_);rintro m1 _ _ ⟨S2,x1,i1,d,hF,rfl,h⟩;rcases m1 with _|m1
 ·cases hF
 refine X0 8 Z (qi Z hF ?_ ?_)<;>intro hF
 ·refine X0 8 Z (zcS h hF qgp Z fun r1 _ h hF=>?_);obtain⟨c,K,hF⟩:=qc hF;have b:=qaO K;obtain⟨_,S4,_,h⟩:=h.take K;obtain⟨N,L,O,k3,P,M,rfl,-,-,-⟩:=qag (h.own 0 Z);obtain⟨S5,S6,S7,h⟩:=qvM h;obtain⟨_,s,-,-,T⟩:=h.holeAt 3 Z;obtain⟨q1,A⟩:∃q,q=0+(d).toNat*GoT.k qz:=⟨_,rfl⟩;refine zx s A ⟨b.1,qC b.2.1 T⟩ Z (zp1 Z (qfN qa 3 0 h Z s A Z Z Z Z Z Z fun _ h=>?_));replace h:SH _ _ (oW S7 (c.Bq:List Int) [oS P c.Bq.length M]::oW S6 (c.Bc:List qJ) [oS O c.Bc.length k3]::oW S5 (c.Bh:List qal) [oS N c.Bh.length L]::Ch.hole S4 (x1:List qz) i a.length f (d).toNat [.string r1,vi c.Bi,oS N c.Bh.length L,oS O c.Bc.length k3,oS P c.Bq.length M,vi c.Cc,vi c.Bw]::F):=h;refine X0 12 Z ?_;obtain⟨_,t,-,-,W⟩:=h.holeAt 3 Z;obtain⟨q2,B⟩:∃q,q=0+(d).toNat*GoT.k qz:=⟨_,rfl⟩;refine zx t B ⟨b.1,qC b.2.1 W⟩ Z (zp1 Z (qfN qa 3 1 h Z t B Z Z Z Z Z Z fun _ h=>X0 11 Z ?_));obtain⟨_,u,-,-,X⟩:=h.holeAt 3 Z;obtain⟨q3,C⟩:∃q,q=0+(d).toNat*GoT.k qz:=⟨_,rfl⟩;refine zx u C ⟨b.1,qC b.2.1 X⟩ Z (zp1 Z (zc 2 (qcH h 3 Z u C) Z (zp1 Z ?_)));replace h:=h.pickT 4 [2,0,1,3] Z;obtain⟨⟨r2,x2⟩,a3,hF⟩:=qc hF;refine qcv r2 (cB 171 Z) (qp7 h a3) Z Z Z Z ?_;rintro _ ⟨S8,h⟩;refine X0 6 Z ?_;obtain⟨_,v,-,-,Y⟩:=h.holeAt 3 Z;obtain⟨q4,D⟩:∃q,q=0+(d).toNat*GoT.k qz:=⟨_,rfl⟩;refine zx v D ⟨b.1,qC b.2.1 Y⟩ Z (zp1 Z (zc 3 (qcH h 3 Z v D) Z (zp1 Z ?_)));replace h:=h.pickT 4 [2,0,1,3] Z;obtain⟨⟨r3,x3⟩,a4,hF⟩:=qc hF;refine qcv r3 (cB 172 Z) (qpZ h a4) Z Z Z Z ?_;rintro _ ⟨S9,h⟩;refine X0 6 Z ?_;obtain⟨_,x,-,-,l⟩:=h.holeAt 3 Z;obtain⟨q5,H⟩:∃q,q=0+(d).toNat*GoT.k qz:=⟨_,rfl⟩;refine zx x H ⟨b.1,qC b.2.1 l⟩ Z (zp1 Z (zc 4 (qcH h 3 Z x H) Z (zp1 Z ?_)));replace h:=h.pickT 4 [2,0,1,3] Z;obtain⟨⟨r4,x4⟩,a5,hF⟩:=qc hF;refine qcv r4 (cB 38 Z) (qaP h a5) Z Z Z Z ?_;rintro _ ⟨Q,h⟩;refine X0 7 Z ?_;obtain⟨_,y,-,-,o⟩:=h.holeAt 3 Z;obtain⟨q6,I⟩:∃q,q=0+(d).toNat*GoT.k qz:=⟨_,rfl⟩;refine zx y I ⟨b.1,qC b.2.1 o⟩ Z (zp1 Z (qfN qa 3 5 h Z y I Z Z Z Z Z Z fun _ h=>X0 12 Z ?_));obtain⟨_,z,-,-,p⟩:=h.holeAt 3 Z;obtain⟨q7,J⟩:∃q,q=0+(d).toNat*GoT.k qz:=⟨_,rfl⟩;refine zx z J ⟨b.1,qC b.2.1 p⟩ Z (zp1 Z (qfN qa 3 6 h Z z J Z Z Z Z Z Z fun _ h=>?_));replace h:SH _ _ (oW Q (x4:List Int) [oS P c.Bq.length M]::oW S9 (x3:List qJ) [oS O c.Bc.length k3]::oW S8 (x2:List qal) [oS N c.Bh.length L]::Ch.hole S4 (x1:List qz) i a.length f (d).toNat [.string r1,vi (W64 (i1+1)),oS N c.Bh.length L,oS O c.Bc.length k3,oS P c.Bq.length M,vi r4,vi (W64 (r4+1))]::F):=h;refine X0 12 Z ?_;obtain⟨_,h⟩:=h.gatherT 4 [3] (qvR (⟨r1,W64 (i1+1),x2,x3,x4,r4,W64 (r4+1)⟩:qz) h (qv (S:=fun _=>False) Z) (qv (S:=fun _=>False) Z) (qab 2 h Z) (qab 1 h Z) (qab 0 h Z) (qv (S:=fun _=>False) Z) (qv (S:=fun _=>False) Z) (by rfl) (by rfl) (by rfl) (by rfl) (by rfl) (by rfl)) Z;replace h:=h.put;obtain⟨_,h⟩:=qnr (S:=_) h;exact rK ⟨_,_,_,_,hF,rfl,h⟩ Z
 refine qt Z ?_;obtain rfl:=qb hF;replace hF:=R;refine X0 5 Z ?_;obtain rfl:=qb hF;exact qiZ qa ⟨_,h⟩ ⟨rfl,G⟩
def qic(n:Nat)(a:qp)(k:Int):Option (Int×(List qz)):=(qlK n a.Ay k).bind fun(b,x1)=>V (b,x1)
theorem qoU{n g w F}{a:qp}{k S1 f b d}(h:SH g w (oW S1 (a.Ay:List qz) [oS f b d]::F)){r:(Int×(List qz))}(l:qic n a k=V r):RetN prog 75 [.agg #[oS f b d],vi k] w (fun w'=>∃Z0:Nat->Prop,SH g w' (oW Z0 (r.2:List qz) [oS f b d]::F)) r.1:=by
 refine qb4 func75 Z (m:=10) Z Z ?_;obtain rfl:=(h.sl 0 Z).2;refine zSR (qw h Z Z fun _ _ h=>X1 7 0 h Z ?_);replace h:=h.pickT 2 [1,0] Z;obtain⟨⟨i,_⟩,c,l⟩:=qc l;refine qcv i (cB 120 Z) (qpA h c) Z Z Z Z ?_;rintro _ ⟨_,h⟩;refine X0 7 Z ?_;obtain rfl:=qb l;replace h:=h.pickT 2 [0] Z;exact qiZ qa ⟨_,h⟩ ⟨rfl,G⟩
def qcw(a:(List ql)):Nat->(List ql)->Int->Int->Option ((List ql)×Int×Int)|0,_,_,_=>U|n+1,x1,i1,b=>bif decide (b<(a.length:Int)) then(qeF n i1).bind fun c=>(idx x1 b).bind fun g=>(qaz n g.As (W64 ((W64 (i1+1))+1))).bind fun(d,f)=>qcw a n (setS x1 b (⟨c,W64 (i1+1),f⟩:ql)) d (W64 (b+1)) else V (x1,i1,b)
def qi0(n:Nat)(a:(List ql))(k:Int):Option (Int×(List ql)):=(qcw a n a k 0).bind fun(x1,i1,_)=>V (i1,x1)
theorem qnH{n B w F}{a:(List ql)}{k S1 g d f}(h:SH B w (oW S1 (a:List ql) [oS g d f]::F)){r:(Int×(List ql))}(T:qi0 n a k=V r):RetN prog 121 [oS g d f,vi k] w (fun w'=>∃Z0:Nat->Prop,SH B w' (oW Z0 (r.2:List ql) [oS g d f]::F)) r.1:=by
 refine qb4 func121 Z (m:=35) Z Z ?_;obtain rfl:=(h.sl 0 Z).2;refine X0 9 Z ?_;obtain⟨M,T,v⟩:=qc T;refine qm (rL (fun m e w'=>∃S2 x1 i1 c,qcw a m x1 i1 c=V M/\e=[(0,oS g a.length f),(1,vi i1),(5,vi c)]/\SH B w' (oW S2 (x1:List ql) [oS g a.length f]::F)) n ⟨_,_,_,_,T,rfl,h⟩ Z ?_);rintro H _ _ ⟨S2,x1,i1,c,T,rfl,h⟩;rcases H with _|H
 ·cases T
 refine X0 8 Z (qi Z T ?_ ?_)<;>intro T
 ·refine X0 8 Z (zcS h T qgp Z fun J _ h T=>?_);obtain⟨C,u,T⟩:=qc T;have b:=qaO u;obtain⟨_,K,_,h⟩:=h.take u;obtain⟨I,D,rfl,-⟩:=qV (h.own 0 Z);obtain⟨L,h⟩:=qrP h;obtain⟨_,i,-,-,x⟩:=h.holeAt 1 Z;obtain⟨P,p⟩:∃q,q=0+(c).toNat*GoT.k ql:=⟨_,rfl⟩;refine zx i p ⟨b.1,qC b.2.1 x⟩ Z (zp1 Z (qfN qa 1 0 h Z i p Z Z Z Z Z Z fun _ h=>X0 12 Z ?_));obtain⟨_,l,-,-,y⟩:=h.holeAt 1 Z;obtain⟨Q,s⟩:∃q,q=0+(c).toNat*GoT.k ql:=⟨_,rfl⟩;refine zx l s ⟨b.1,qC b.2.1 y⟩ Z (zp1 Z (qfN qa 1 1 h Z l s Z Z Z Z Z Z fun _ h=>?_));replace h:SH _ _ (oW L (C.As:List Int) [oS I C.As.length D]::Ch.hole K (x1:List ql) g a.length f (c).toNat [.string J,vi (W64 (i1+1)),oS I C.As.length D]::F):=h;refine X0 10 Z ?_;obtain⟨_,o,-,-,z⟩:=h.holeAt 1 Z;obtain⟨R,t⟩:∃q,q=0+(c).toNat*GoT.k ql:=⟨_,rfl⟩;refine zx o t ⟨b.1,qC b.2.1 z⟩ Z (zp1 Z (zc 2 (qcH h 1 Z o t) Z (zp1 Z ?_)));obtain⟨⟨N,O⟩,A,T⟩:=qc T;refine qcv N (cB 38 Z) (qaP h A) Z Z Z Z ?_;rintro _ ⟨_,h⟩;refine X0 8 Z ?_;obtain⟨_,h⟩:=h.gatherT 2 [1] (qqD (⟨J,W64 (i1+1),O⟩:ql) h (qv (S:=fun _=>False) Z) (qv (S:=fun _=>False) Z) (qab 0 h Z) (by rfl) (by rfl)) Z;replace h:=h.put;obtain⟨_,h⟩:=qnr (S:=_) h;exact rK ⟨_,_,_,_,T,rfl,h⟩ Z
 refine qt Z ?_;obtain rfl:=qb T;replace T:=v;refine X0 5 Z ?_;obtain rfl:=qb T;exact qiZ qa ⟨_,h⟩ ⟨rfl,G⟩
def qdk(a:(List ByteArray)):Nat->(List ByteArray)->Int->Int->Option ((List ByteArray)×Int×Int)|0,_,_,_=>U|n+1,x1,i1,b=>bif decide (b<(a.length:Int)) then(qeF n i1).bind fun c=>(idx x1 b).bind fun _=>qdk a n (setS x1 b c) (W64 (i1+1)) (W64 (b+1)) else V (x1,i1,b)
def qj2(n:Nat)(a:(List ByteArray))(k:Int):Option (Int×(List ByteArray)):=(qdk a n a k 0).bind fun(x1,i1,_)=>V (i1,x1)
theorem qoZ{n t w F}{a:(List ByteArray)}{k S1 i b g}(h:SH t w (oW S1 (a:List ByteArray) [oS i b g]::F)){r:(Int×(List ByteArray))}(y:qj2 n a k=V r):RetN prog 122 [oS i b g,vi k] w (fun w'=>∃Z0:Nat->Prop,SH t w' (oW Z0 (r.2:List ByteArray) [oS i b g]::F)) r.1:=by
 refine qb4 func122 Z (m:=20) Z Z ?_;obtain rfl:=(h.sl 0 Z).2;refine X0 9 Z ?_;obtain⟨v,y,l⟩:=qc y;refine qm (rL (fun m e w'=>∃x1 i1 s,qdk a m x1 i1 s=V v/\e=[(0,oS i a.length g),(1,vi i1),(5,vi s)]/\SH t w' (oW S1 (x1:List ByteArray) [oS i a.length g]::F)) n ⟨_,_,_,y,rfl,h⟩ Z ?_);rintro u _ _ ⟨x1,i1,s,y,rfl,h⟩;rcases u with _|u
 ·cases y
 refine X0 8 Z (qi Z y ?_ ?_)<;>intro y
 ·refine X0 8 Z (zcS h y qgp Z fun x _ h y=>?_);obtain⟨_,p,y,c,_,_,_,_,d,f,rfl,o⟩:=(h.sl 0 Z).1.ix y;exact zx d f ⟨c.1,qC c.2.1 (h.sl 0 Z).2⟩ Z (qax qa 0 0 x h Z p d f Z o Z Z Z Z Z Z Z fun _ h=>X0 12 Z (rK ⟨_,_,_,y,rfl,h⟩ Z))
 refine qt Z ?_;obtain rfl:=qb y;replace y:=l;refine X0 5 Z ?_;obtain rfl:=qb y;exact qiZ qa ⟨_,h⟩ ⟨rfl,G⟩
def qd5(a:(List qR)):Nat->(List qR)->Int->Int->Option ((List qR)×Int×Int)|0,_,_,_=>U|n+1,x1,i1,b=>bif decide (b<(a.length:Int)) then(qeF n i1).bind fun c=>(idx x1 b).bind fun d=>(idx (setS x1 b ({ d with Bd:=c })) b).bind fun f=>(idx (setS (setS x1 b ({ d with Bd:=c })) b ({ f with Bx:=W64 (i1+1) })) b).bind fun g=>qd5 a n (setS (setS (setS x1 b ({ d with Bd:=c })) b ({ f with Bx:=W64 (i1+1) })) b ({ g with Ca:=W64 ((W64 (i1+1))+1) })) (W64 ((W64 ((W64 (i1+1))+1))+1)) (W64 (b+1)) else V (x1,i1,b)
def qlG(n:Nat)(a:(List qR))(k:Int):Option (Int×(List qR)):=(qd5 a n a k 0).bind fun(x1,i1,_)=>V (i1,x1)
theorem qpz{n K w F}{a:(List qR)}{k S1 u b t}(h:SH K w (oW S1 (a:List qR) [oS u b t]::F)){r:(Int×(List qR))}(R:qlG n a k=V r):RetN prog 123 [oS u b t,vi k] w (fun w'=>∃Z0:Nat->Prop,SH K w' (oW Z0 (r.2:List qR) [oS u b t]::F)) r.1:=by
 refine qb4 func123 Z (m:=35) Z Z ?_;obtain rfl:=(h.sl 0 Z).2;refine X0 9 Z ?_;obtain⟨Q,R,v⟩:=qc R;refine qm (rL (fun m e w'=>∃x1 i1 J,qd5 a m x1 i1 J=V Q/\e=[(0,oS u a.length t),(1,vi i1),(5,vi J)]/\SH K w' (oW S1 (x1:List qR) [oS u a.length t]::F)) n ⟨_,_,_,R,rfl,h⟩ Z ?_);rintro O _ _ ⟨x1,i1,J,R,rfl,h⟩;rcases O with _|O
 ·cases R
 refine X0 8 Z (qi Z R ?_ ?_)<;>intro R
 ·refine X0 8 Z (zcS h R qgp Z fun P _ h R=>?_);obtain⟨L,D,R,c,_,_,_,_,g,o,A,x⟩:=(h.sl 0 Z).1.ix R;obtain rfl:=qaZ A;refine zx g o ⟨c.1,qC c.2.1 (h.sl 0 Z).2⟩ Z (zp1 Z (qax qa 0 0 ({ L with Bd:=P }:qR) h Z D g o (qeN L) x Z Z Z (qeN ({ L with Bd:=P })) Z Z Z fun _ h=>X0 12 Z ?_));obtain⟨M,H,R,d,_,_,_,_,i,p,B,y⟩:=(h.sl 0 Z).1.ix R;obtain rfl:=qaZ B;refine zx i p ⟨d.1,qC d.2.1 (h.sl 0 Z).2⟩ Z (zp1 Z (qax qa 0 1 ({ M with Bx:=W64 (i1+1) }:qR) h Z H i p (qeN M) y Z Z Z (qeN ({ M with Bx:=W64 (i1+1) })) Z Z Z fun _ h=>X0 12 Z ?_));obtain⟨N,I,R,f,_,_,_,_,l,s,C,z⟩:=(h.sl 0 Z).1.ix R;obtain rfl:=qaZ C;exact zx l s ⟨f.1,qC f.2.1 (h.sl 0 Z).2⟩ Z (zp1 Z (qax qa 0 2 ({ N with Ca:=W64 ((W64 (i1+1))+1) }:qR) h Z I l s (qeN N) z Z Z Z (qeN ({ N with Ca:=W64 ((W64 (i1+1))+1) })) Z Z Z fun _ h=>X0 12 Z (rK ⟨_,_,_,R,rfl,h⟩ Z)))
 refine qt Z ?_;obtain rfl:=qb R;replace R:=v;refine X0 5 Z ?_;obtain rfl:=qb R;exact qiZ qa ⟨_,h⟩ ⟨rfl,G⟩
def qiK(n:Nat)(a:qd)(k:Int):Option (Int×(List ql)×(List ByteArray)×(List qR)):=(qi0 n a.Ab k).bind fun(b,x1)=>(qj2 n a.As b).bind fun(c,f)=>(qlG n a.Ak c).bind fun(d,x3)=>V (d,x1,f,x3)
theorem qpv{n u w F}{a:qd}{k S1 p b l S2 s c o v t d k3}(h:SH u w (oW v (a.Ak:List qR) [oS t d k3]::oW S2 (a.As:List ByteArray) [oS s c o]::oW S1 (a.Ab:List ql) [oS p b l]::F)){r:(Int×(List ql)×(List ByteArray)×(List qR))}(A:qiK n a k=V r):RetN prog 76 [.agg #[oS p b l,oS s c o,oS t d k3],vi k] w (fun w'=>∃Z0 Z1 Z2:Nat->Prop,SH u w' (oW Z2 (r.2.2.2:List qR) [oS t d k3]::oW Z1 (r.2.2.1:List ByteArray) [oS s c o]::oW Z0 (r.2.1:List ql) [oS p b l]::F)) r.1:=by
 refine qb4 func76 Z (m:=18) Z Z ?_;obtain rfl:=(h.sl 0 Z).2;obtain rfl:=(h.sl 1 Z).2;obtain rfl:=(h.sl 2 Z).2;refine zSR (qw h Z Z fun _ _ h=>X1 7 0 h Z ?_);replace h:=h.pickT 4 [3,0,1,2] Z;obtain⟨⟨x,_⟩,f,A⟩:=qc A;refine qcv x (cB 121 Z) (qnH h f) Z Z Z Z ?_;rintro _ ⟨_,h⟩;refine X1 7 1 h Z ?_;replace h:=h.pickT 4 [3,0,1,2] Z;obtain⟨⟨y,_⟩,g,A⟩:=qc A;refine qcv y (cB 122 Z) (qoZ h g) Z Z Z Z ?_;rintro _ ⟨_,h⟩;refine X1 7 2 h Z ?_;replace h:=h.pickT 4 [3,0,1,2] Z;obtain⟨⟨z,_⟩,i,A⟩:=qc A;refine qcv z (cB 123 Z) (qpz h i) Z Z Z Z ?_;rintro _ ⟨_,h⟩;refine X0 7 Z ?_;obtain rfl:=qb A;replace h:=h.pickT 4 [0,1,2] Z;exact qiZ qa ⟨_,_,_,h⟩ ⟨rfl,G⟩
def qeg(a:(List qE)):Nat->(List qE)->Int->Int->Option ((List qE)×Int×Int)|0,_,_,_=>U|n+1,x1,i1,b=>bif decide (b<(a.length:Int)) then(idx x1 b).bind fun c=>(qaz n c.Az i1).bind fun(d,h)=>(qaz n c.Bz d).bind fun(f,x3)=>(qaz n c.Bu f).bind fun(g,i)=>(qaz n c.Bn g).bind fun(r4,k)=>qeg a n (setS x1 b (⟨h,x3,i,k⟩:qE)) r4 (W64 (b+1)) else V (x1,i1,b)
def qlU(n:Nat)(a:(List qE))(k:Int):Option (Int×(List qE)):=(qeg a n a k 0).bind fun(x1,i1,_)=>V (i1,x1)
theorem qpQ{n K w F}{a:(List qE)}{k S1 x d v}(h:SH K w (oW S1 (a:List qE) [oS x d v]::F)){r:(Int×(List qE))}(hF:qlU n a k=V r):RetN prog 77 [oS x d v,vi k] w (fun w'=>∃Z0:Nat->Prop,SH K w' (oW Z0 (r.2:List qE) [oS x d v]::F)) r.1:=by
 refine qb4 func77 Z (m:=41) Z Z ?_;obtain rfl:=(h.sl 0 Z).2;refine X0 9 Z ?_;obtain⟨M,hF,y⟩:=qc hF;refine qm (rL (fun m e w'=>∃S2 x1 i1 c,qeg a m x1 i1 c=V M/\e=[(0,oS x a.length v),(1,vi i1),(5,vi c)]/\SH K w' (oW S2 (x1:List qE) [oS x a.length v]::F)) n ⟨_,_,_,_,hF,rfl,h⟩ Z ?_);rintro L _ _ ⟨S2,x1,i1,c,hF,rfl,h⟩;rcases L with _|L
 ·cases hF
 refine X0 8 Z (qi Z hF ?_ ?_)<;>intro hF
 ·refine X0 7 Z ?_;obtain⟨_,u,hF⟩:=qc hF;have b:=qaO u;obtain⟨_,_,_,h⟩:=h.take u;obtain⟨_,_,_,_,_,_,_,_,rfl,-,-,-,-⟩:=qaR (h.own 0 Z);obtain⟨_,_,_,_,h⟩:=qvr h;obtain⟨_,f,-,-,z⟩:=h.holeAt 4 Z;obtain⟨W,o⟩:∃q,q=0+(c).toNat*GoT.k qE:=⟨_,rfl⟩;refine zx f o ⟨b.1,qC b.2.1 z⟩ Z (zp1 Z (zc 0 (qcH h 4 Z f o) Z (zp1 Z ?_)));replace h:=h.pickT 5 [3,0,1,2,4] Z;obtain⟨⟨N,Q⟩,D,hF⟩:=qc hF;refine qcv N (cB 38 Z) (qaP h D) Z Z Z Z ?_;rintro _ ⟨_,h⟩;refine X0 6 Z ?_;obtain⟨_,g,-,-,A⟩:=h.holeAt 4 Z;obtain⟨X,p⟩:∃q,q=0+(c).toNat*GoT.k qE:=⟨_,rfl⟩;refine zx g p ⟨b.1,qC b.2.1 A⟩ Z (zp1 Z (zc 1 (qcH h 4 Z g p) Z (zp1 Z ?_)));replace h:=h.pickT 5 [3,0,1,2,4] Z;obtain⟨⟨O,x3⟩,H,hF⟩:=qc hF;refine qcv O (cB 38 Z) (qaP h H) Z Z Z Z ?_;rintro _ ⟨_,h⟩;refine X0 6 Z ?_;obtain⟨_,i,-,-,B⟩:=h.holeAt 4 Z;obtain⟨Y,s⟩:∃q,q=0+(c).toNat*GoT.k qE:=⟨_,rfl⟩;refine zx i s ⟨b.1,qC b.2.1 B⟩ Z (zp1 Z (zc 2 (qcH h 4 Z i s) Z (zp1 Z ?_)));replace h:=h.pickT 5 [3,0,1,2,4] Z;obtain⟨⟨P,R⟩,I,hF⟩:=qc hF;refine qcv P (cB 38 Z) (qaP h I) Z Z Z Z ?_;rintro _ ⟨_,h⟩;refine X0 5 Z ?_;obtain⟨_,l,-,-,C⟩:=h.holeAt 4 Z;obtain⟨q4,t⟩:∃q,q=0+(c).toNat*GoT.k qE:=⟨_,rfl⟩;refine zx l t ⟨b.1,qC b.2.1 C⟩ Z (zp1 Z (zc 3 (qcH h 4 Z l t) Z (zp1 Z ?_)));replace h:=h.pickT 5 [3,0,1,2,4] Z;obtain⟨⟨r4,T⟩,J,hF⟩:=qc hF;refine qcv r4 (cB 38 Z) (qaP h J) Z Z Z Z ?_;rintro _ ⟨_,h⟩;refine X0 8 Z ?_;obtain⟨_,h⟩:=h.gatherT 5 [4] (qvS (⟨Q,x3,R,T⟩:qE) h (qab 3 h Z) (qab 2 h Z) (qab 1 h Z) (qab 0 h Z) (by rfl) (by rfl) (by rfl)) Z;replace h:=h.put;obtain⟨_,h⟩:=qnr (S:=_) h;exact rK ⟨_,_,_,_,hF,rfl,h⟩ Z
 refine qt Z ?_;obtain rfl:=qb hF;replace hF:=y;refine X0 5 Z ?_;obtain rfl:=qb hF;exact qiZ qa ⟨_,h⟩ ⟨rfl,G⟩
def qjz(n:Nat)(a:qh)(k:Int):Option (Int×(List qz)×(List ql)×(List ByteArray)×(List qR)×(List qE)):=(qic n (⟨a.Au.Ay⟩:qp) k).bind fun(b,x1)=>(qiK n (⟨a.Aa.Ab,a.Aa.As,a.Aa.Ak⟩:qd) b).bind fun(c,f,x3,g)=>(qlU n a.Ai c).bind fun(d,h)=>V (d,x1,f,x3,g,h)
theorem qpG{n B w F}{a:qh}{k S1 v b p S2 x c s C y d k3 D z f t H A g u}(h:SH B w (oW H (a.Ai:List qE) [oS A g u]::oW D (a.Aa.Ak:List qR) [oS z f t]::oW C (a.Aa.As:List ByteArray) [oS y d k3]::oW S2 (a.Aa.Ab:List ql) [oS x c s]::oW S1 (a.Au.Ay:List qz) [oS v b p]::F)){r:(Int×(List qz)×(List ql)×(List ByteArray)×(List qR)×(List qE))}(L:qjz n a k=V r):RetN prog 37 [.agg #[oS v b p,oS x c s,oS y d k3,oS z f t,oS A g u],vi k] w (fun w'=>∃Z0 Z1 Z2 Z3 Z4:Nat->Prop,SH B w' (oW Z4 (r.2.2.2.2.2:List qE) [oS A g u]::oW Z3 (r.2.2.2.2.1:List qR) [oS z f t]::oW Z2 (r.2.2.2.1:List ByteArray) [oS y d k3]::oW Z1 (r.2.2.1:List ql) [oS x c s]::oW Z0 (r.2.1:List qz) [oS v b p]::F)) r.1:=by
 refine qb4 func37 Z (m:=18) Z Z ?_;obtain rfl:=(h.sl 0 Z).2;obtain rfl:=(h.sl 1 Z).2;obtain rfl:=(h.sl 2 Z).2;obtain rfl:=(h.sl 3 Z).2;obtain rfl:=(h.sl 4 Z).2;refine zSR (qw h Z Z fun _ _ h=>X1 7 0 h Z ?_);replace h:=h.pickT 6 [5,0,1,2,3,4] Z;obtain⟨⟨I,_⟩,i,L⟩:=qc L;refine qcv I (cB 75 Z) (qoU h i) Z Z Z Z ?_;rintro _ ⟨_,h⟩;refine X1 7 1 h Z ?_;replace h:=h.pickT 6 [3,4,5,0,1,2] Z;obtain⟨⟨J,_,_,_⟩,l,L⟩:=qc L;refine qcv J (cB 76 Z) (qpv h l) Z Z Z Z ?_;rintro _ ⟨_,_,_,h⟩;refine X1 7 4 h Z ?_;replace h:=h.pickT 6 [5,0,1,2,3,4] Z;obtain⟨⟨K,_⟩,o,L⟩:=qc L;refine qcv K (cB 77 Z) (qpQ h o) Z Z Z Z ?_;rintro _ ⟨_,h⟩;refine X0 7 Z ?_;obtain rfl:=qb L;replace h:=h.pickT 6 [0,1,2,3,4] Z;exact qiZ qa ⟨_,_,_,_,_,h⟩ ⟨rfl,G⟩
def qdf(a:(List qf)):Nat->(List qf)->Int->Int->Option ((List qf)×Int×Int)|0,_,_,_=>U|n+1,x1,i1,b=>bif decide (b<(a.length:Int)) then(idx x1 b).bind fun f=>(idx (setS x1 b ({ f with Bs:=i1 })) b).bind fun c=>(idx (setS (setS x1 b ({ f with Bs:=i1 })) b ({ c with Ah:={ c.Ah with Ba:=W64 (i1+1) } })) b).bind fun d=>(idx (setS (setS (setS x1 b ({ f with Bs:=i1 })) b ({ c with Ah:={ c.Ah with Ba:=W64 (i1+1) } })) b ({ d with Ah:={ d.Ah with Bg:=W64 ((W64 (i1+1))+1) } })) b).bind fun g=>(idx (setS (setS (setS (setS x1 b ({ f with Bs:=i1 })) b ({ c with Ah:={ c.Ah with Ba:=W64 (i1+1) } })) b ({ d with Ah:={ d.Ah with Bg:=W64 ((W64 (i1+1))+1) } })) b ({ g with Be:={ g.Be with Ba:=W64 ((W64 ((W64 (i1+1))+1))+1) } })) b).bind fun h=>qdf a n (setS (setS (setS (setS (setS x1 b ({ f with Bs:=i1 })) b ({ c with Ah:={ c.Ah with Ba:=W64 (i1+1) } })) b ({ d with Ah:={ d.Ah with Bg:=W64 ((W64 (i1+1))+1) } })) b ({ g with Be:={ g.Be with Ba:=W64 ((W64 ((W64 (i1+1))+1))+1) } })) b ({ h with Be:={ h.Be with Bg:=W64 ((W64 ((W64 ((W64 (i1+1))+1))+1))+1) } })) (W64 ((W64 ((W64 ((W64 ((W64 (i1+1))+1))+1))+1))+1)) (W64 (b+1)) else V (x1,i1,b)
def qj7(n:Nat)(a:(List qf))(k:Int):Option (Int×(List qf)):=(qdf a n a k 0).bind fun(x1,i1,_)=>V (i1,x1)
theorem qoV{n w0 w F}{a:(List qf)}{k S1 B b A}(h:SH w0 w (oW S1 (a:List qf) [oS B b A]::F)){r:(Int×(List qf))}(hF:qj7 n a k=V r):RetN prog 39 [oS B b A,vi k] w (fun w'=>∃Z0:Nat->Prop,SH w0 w' (oW Z0 (r.2:List qf) [oS B b A]::F)) r.1:=by
 refine qb4 func39 Z (m:=52) Z Z ?_;obtain rfl:=(h.sl 0 Z).2;refine X0 9 Z ?_;obtain⟨o1,hF,J⟩:=qc hF;refine qm (rL (fun m e w'=>∃x1 i1 i2,qdf a m x1 i1 i2=V o1/\e=[(0,oS B a.length A),(1,vi i1),(5,vi i2)]/\SH w0 w' (oW S1 (x1:List qf) [oS B a.length A]::F)) n ⟨_,_,_,hF,rfl,h⟩ Z ?_);rintro m1 _ _ ⟨x1,i1,i2,hF,rfl,h⟩;rcases m1 with _|m1
 ·cases hF
 refine X0 8 Z (qi Z hF ?_ ?_)<;>intro hF
 ·refine X0 8 Z ?_;obtain⟨y1,W,hF,c,_,_,_,_,l,u,P,K⟩:=(h.sl 0 Z).1.ix hF;obtain rfl:=qF P;refine zx l u ⟨c.1,qC c.2.1 (h.sl 0 Z).2⟩ Z (zp1 Z (qax qa 0 0 ({ y1 with Bs:=i1 }:qf) h Z W l u (qaG y1) K Z Z Z (qaG ({ y1 with Bs:=i1 })) Z Z Z fun _ h=>X0 12 Z ?_));obtain⟨C,X,hF,d,_,_,_,_,o,v,Q,L⟩:=(h.sl 0 Z).1.ix hF;obtain rfl:=qF Q;refine zx o v ⟨d.1,qC d.2.1 (h.sl 0 Z).2⟩ Z (zp2 Z (qax qa 0 1 ({ C with Ah:={ C.Ah with Ba:=W64 (i1+1) } }:qf) h Z X o v (qaG C) L Z Z Z (qaG ({ C with Ah:={ C.Ah with Ba:=W64 (i1+1) } })) Z Z Z fun _ h=>X0 12 Z ?_));obtain⟨D,Y,hF,f,_,_,_,_,p,x,R,M⟩:=(h.sl 0 Z).1.ix hF;obtain rfl:=qF R;refine zx p x ⟨f.1,qC f.2.1 (h.sl 0 Z).2⟩ Z (zp2 Z (qax qa 0 2 ({ D with Ah:={ D.Ah with Bg:=W64 ((W64 (i1+1))+1) } }:qf) h Z Y p x (qaG D) M Z Z Z (qaG ({ D with Ah:={ D.Ah with Bg:=W64 ((W64 (i1+1))+1) } })) Z Z Z fun _ h=>X0 12 Z ?_));obtain⟨H,a3,hF,g,_,_,_,_,s,y,S,N⟩:=(h.sl 0 Z).1.ix hF;obtain rfl:=qF S;refine zx s y ⟨g.1,qC g.2.1 (h.sl 0 Z).2⟩ Z (zp2 Z (qax qa 0 3 ({ H with Be:={ H.Be with Ba:=W64 ((W64 ((W64 (i1+1))+1))+1) } }:qf) h Z a3 s y (qaG H) N Z Z Z (qaG ({ H with Be:={ H.Be with Ba:=W64 ((W64 ((W64 (i1+1))+1))+1) } })) Z Z Z fun _ h=>X0 12 Z ?_));obtain⟨I,a4,hF,i,_,_,_,_,t,z,T,O⟩:=(h.sl 0 Z).1.ix hF;obtain rfl:=qF T;exact zx t z ⟨i.1,qC i.2.1 (h.sl 0 Z).2⟩ Z (zp2 Z (qax qa 0 4 ({ I with Be:={ I.Be with Bg:=W64 ((W64 ((W64 ((W64 (i1+1))+1))+1))+1) } }:qf) h Z a4 t z (qaG I) O Z Z Z (qaG ({ I with Be:={ I.Be with Bg:=W64 ((W64 ((W64 ((W64 (i1+1))+1))+1))+1) } })) Z Z Z fun _ h=>X0 12 Z (rK ⟨_,_,_,hF,rfl,h⟩ Z)))
 refine qt Z ?_;obtain rfl:=qb hF;replace hF:=J;refine X0 5 Z ?_;obtain rfl:=qb hF;exact qiZ qa ⟨_,h⟩ ⟨rfl,G⟩
def qlk(n:Nat)(a:qay)(k:Int):Option (Int×(List qz)×(List ql)×(List ByteArray)×(List qR)×(List qE)×(List Int)×(List qf)):=(qjz n (⟨(⟨a.Ac.Au.Ay⟩:qp),(⟨a.Ac.Aa.Ab,a.Ac.Aa.As,a.Ac.Aa.Ak⟩:qd),a.Ac.Ai⟩:qh) k).bind fun(b,x1,f,x3,g,h)=>(qaz n a.Av b).bind fun(c,i)=>(qj7 n a.Aq c).bind fun(d,l)=>V (d,x1,f,x3,g,h,i,l)
theorem qqF{n K w F}{a:qay}{k S1 A b t S2 B c u L C d k3 M D f v N H g x O I i y P J l z}(h:SH K w (oW P (a.Aq:List qf) [oS J l z]::oW O (a.Av:List Int) [oS I i y]::oW N (a.Ac.Ai:List qE) [oS H g x]::oW M (a.Ac.Aa.Ak:List qR) [oS D f v]::oW L (a.Ac.Aa.As:List ByteArray) [oS C d k3]::oW S2 (a.Ac.Aa.Ab:List ql) [oS B c u]::oW S1 (a.Ac.Au.Ay:List qz) [oS A b t]::F)){r:(Int×(List qz)×(List ql)×(List ByteArray)×(List qR)×(List qE)×(List Int)×(List qf))}(T:qlk n a k=V r):RetN prog 12 [.agg #[oS A b t,oS B c u,oS C d k3,oS D f v,oS H g x,.string a.Af.Bd,vi a.Af.Am,vi a.Af.Ar,vi a.Af.Aj,vi a.Af.Ap,oS I i y,oS J l z],vi k] w (fun w'=>∃Z0 Z1 Z2 Z3 Z4 Z5 Z6:Nat->Prop,SH K w' (oW Z6 (r.2.2.2.2.2.2.2:List qf) [oS J l z]::oW Z5 (r.2.2.2.2.2.2.1:List Int) [oS I i y]::oW Z4 (r.2.2.2.2.2.1:List qE) [oS H g x]::oW Z3 (r.2.2.2.2.1:List qR) [oS D f v]::oW Z2 (r.2.2.2.1:List ByteArray) [oS C d k3]::oW Z1 (r.2.2.1:List ql) [oS B c u]::oW Z0 (r.2.1:List qz) [oS A b t]::F)) r.1:=by
 refine qb4 func12 Z (m:=18) Z Z ?_;obtain rfl:=(h.sl 0 Z).2;obtain rfl:=(h.sl 1 Z).2;obtain rfl:=(h.sl 2 Z).2;obtain rfl:=(h.sl 3 Z).2;obtain rfl:=(h.sl 4 Z).2;obtain rfl:=(h.sl 5 Z).2;obtain rfl:=(h.sl 6 Z).2;refine zSR (qw h Z Z fun _ _ h=>X1 7 0 h Z ?_);replace h:=h.pickT 8 [3,4,5,6,7,0,1,2] Z;obtain⟨⟨Q,_,_,_,_,_⟩,o,T⟩:=qc T;refine qcv Q (cB 37 Z) (qpG h o) Z Z Z Z ?_;rintro _ ⟨_,_,_,_,_,h⟩;refine X1 7 5 h Z ?_;replace h:=h.pickT 8 [7,0,1,2,3,4,5,6] Z;obtain⟨⟨R,_⟩,p,T⟩:=qc T;refine qcv R (cB 38 Z) (qaP h p) Z Z Z Z ?_;rintro _ ⟨_,h⟩;refine X1 7 6 h Z ?_;replace h:=h.pickT 8 [7,0,1,2,3,4,5,6] Z;obtain⟨⟨S,_⟩,s,T⟩:=qc T;refine qcv S (cB 39 Z) (qoV h s) Z Z Z Z ?_;rintro _ ⟨_,h⟩;refine X0 7 Z ?_;obtain rfl:=qb T;replace h:=h.pickT 8 [0,1,2,3,4,5,6] Z;exact qiZ qa ⟨_,_,_,_,_,_,_,h⟩ ⟨rfl,G⟩
def qkh(n:Nat)(a:qg)(k:Int):Option (Int×(List Int)):=(qaz n a.Bf k).bind fun(b,x1)=>V (b,x1)
theorem qql{n g w F}{a:qg}{k S1 f b d}(h:SH g w (oW S1 (a.Bf:List Int) [oS f b d]::F)){r:(Int×(List Int))}(l:qkh n a k=V r):RetN prog 13 [.agg #[vi a.Bl,oS f b d,vi a.Ah],vi k] w (fun w'=>∃Z0:Nat->Prop,SH g w' (oW Z0 (r.2:List Int) [oS f b d]::F)) r.1:=by
 refine qb4 func13 Z (m:=10) Z Z ?_;obtain rfl:=(h.sl 0 Z).2;refine zSR (qw h Z Z fun _ _ h=>X1 7 0 h Z ?_);replace h:=h.pickT 2 [1,0] Z;obtain⟨⟨i,_⟩,c,l⟩:=qc l;refine qcv i (cB 38 Z) (qaP h c) Z Z Z Z ?_;rintro _ ⟨_,h⟩;refine X0 7 Z ?_;obtain rfl:=qb l;replace h:=h.pickT 2 [0] Z;exact qiZ qa ⟨_,h⟩ ⟨rfl,G⟩
def qdI(a:(List Int)):Nat->Int->Int->Option (Flow Int (Int×Int))|0,_,_=>U|n+1,i1,b=>bif decide (b<(a.length:Int)) then(idx a b).bind fun c=>bif (c != i1) then V (.ret (-1)) else qdI a n (W64 (i1+1)) (W64 (b+1)) else V (.nxt (i1,b))
def qiR(n:Nat)(a:(List Int))(k:Int):Option Int:=(qdI a n k 0).bind fun|.ret r=>V r|.nxt (i1,_)=>V i1
theorem qpF{a:(List Int)}{k}(c:Ro w a cs1){r:Int}(F:qiR n a k=V r):RetV prog 40 [oV (List Int) cs1,vi k] w r:=by
 obtain⟨t,p,rfl,u⟩:=c;refine zV 21 func40 Z fun h=>X0 9 Z ?_;obtain⟨s,F,b⟩:=qc F;refine qm (rL (fun m e w'=>∃i1 l,qdI a m i1 l=V s/\e=[(0,oS t a.length p),(1,vi i1),(5,vi l)]/\SH w w' []) n ⟨_,_,F,rfl,h⟩ Z ?_);rintro o _ _ ⟨i1,l,F,rfl,h⟩;rcases o with _|o
 ·cases F
 refine X0 8 Z (qi Z F ?_ ?_)<;>intro F
 ·refine X0 8 Z ?_;obtain⟨_,_,F,f,_,_,_,_,g,i,rfl,d⟩:=u.ix F;refine zxe g i f Z (zc 0 (d.below h.below) Z (X0 3 Z (qi Z F ?_ ?_)))<;>intro F
  ·refine X0 4 Z ?_;obtain rfl:=qb F;replace F:=b;exact ri h F Z
  exact X0 12 Z (rK ⟨_,_,F,rfl,h⟩ Z)
 refine qt Z ?_;obtain rfl:=qb F;replace F:=b;exact X0 5 Z (ri h F Z)
def qiA(n:Nat)(a:qg)(k:Int):Option Int:=(qiR n a.Bf k).bind fun b=>bif decide (b<0) then V (-1) else V b
theorem qmU{a:qg}{k}(b:Ro w a cs1){r:Int}(F:qiA n a k=V r):RetV prog 14 [oV qg cs1,vi k] w r:=by
 obtain⟨_,_,rfl,c⟩:=qak b;refine zV 12 func14 Z fun h=>zSR (qw h Z Z fun _ _ h=>X1 7 0 h Z (zcI h F (qpF ⟨_,_,rfl,(h.oldS c)⟩) Z fun _ _ h F=>X0 8 Z (qi Z F ?_ ?_)))<;>intro F
 ·exact X0 4 Z (ri h F Z)
 exact X0 6 Z (ri h F Z)
end Go.Fw


namespace Go.Fw
open Go
def qnP(x:qu):Prop:=rngS x.Bd/\rngI x.Am/\rngI x.Ar/\rngI x.Aj/\rngI x.Ap
def qlI(x:qu):Nat:=x.Bd.size
structure qt6(x:qu):Prop where
 Bd:okS x.Bd
 Am:okI x.Am
 Ar:okI x.Ar
 Aj:okI x.Aj
 Ap:okI x.Ap
theorem qvx{x:qu}(h:qnP x)(w:qlI x<=1048576):qt6 x:=⟨(by unfold okS;simp only[qlI] at w;omega),h.2.1,h.2.2.1,h.2.2.2.1,h.2.2.2.2⟩
theorem qyw{a:qu}(_:qlI a<=1048576):Ev (fun n=>qkt n a a) true:=by
 unfold qkt;exact Ev.ff qjM (Ev.ff qaJ (Ev.ff qaJ (Ev.ff qaJ (Ev.ff qaJ (.done)))))
def qqt(x:qe):Prop:=rngI x.Ba/\rngI x.Bg
structure quM(x:qe):Prop where
 Ba:okI x.Ba
 Bg:okI x.Bg
theorem qtL{x:qe}(h:qqt x):quM x:=⟨h.1,h.2⟩
def qj9(x:qf):Prop:=rngI x.Bs/\qqt x.Ah/\qqt x.Be
structure qqG(x:qf):Prop where
 Bs:okI x.Bs
 Ah:quM x.Ah
 Be:quM x.Be
theorem qvC{x:qf}(h:qj9 x):qqG x:=⟨h.1,qtL (h.2.1),qtL (h.2.2)⟩
def qeQ(a:(List qf)):Nat:=a.length
theorem quU{a:(List qf)}(h:(rngL qj9) a)(w:qeQ a<=1048576):(okL qqG) a:=
 ⟨by simp only[qeQ] at w;omega,fun x b=>qvC (h.2 x b)⟩
def qr8(x:qay):Prop:=qph x.Ac/\qnP x.Af/\(rngL rngI) x.Av/\(rngL qj9) x.Aq
def qk5(x:qay):Nat:=qgQ x.Ac+qlI x.Af+qa7 x.Av+qeQ x.Aq
structure qjT(x:qay):Prop where
 Ac:qm0 x.Ac
 Af:qt6 x.Af
 Av:(okL okI) x.Av
 Aq:(okL qqG) x.Aq
theorem qzl{x:qay}(h:qr8 x)(w:qk5 x<=1048576):qjT x:=⟨qxk (h.1) (by simp only[qk5] at w;omega),qvx (h.2.1) (by simp only[qk5] at w;omega),qeI (h.2.2.1) (by simp only[qk5] at w;omega),quU (h.2.2.2) (by simp only[qk5] at w;omega)⟩
theorem qxE{a:qe}:Ev (fun n=>qky n a a) true:=by
 unfold qky;exact Ev.ff qaJ (Ev.ff qaJ (.done))
theorem qyl{a:qf}:Ev (fun n=>qis n a a) true:=by
 unfold qis;exact Ev.ff qaJ (Ev.bind (qxE (a:=a.Ah)) (Ev.ff Z (Ev.bind (qxE (a:=a.Be)) (Ev.ff Z (.done)))))
theorem qws{a:(List qf)}(h:qeQ a<=1048576):Ev (fun n=>qjt n a a) true:=by
 have f:a.length<=1048576:=by simp only[qeQ] at h;omega
 unfold qjt;exact Ev.ff (by simp) (Ev.bind (b:=.nxt (a.length:Int)) (qkf (eqf:=qis) (fun x c=>qyl)
  (fun n=>by simp only[qfS,qk (je _),cond_false])
  (fun n j x c=>by
   have d:=(List.getElem?_eq_some_iff.1 c).1;simp only[qfS,qj d,cond_true,qas c,jd,wS j])) .done)
theorem qB9{a:qay}(h:qk5 a<=1048576):Ev (fun n=>qnG n a a) true:=by
 unfold qnG;simp only[qk5] at h;exact Ev.bind (qAp (a:=a.Ac) (by omega)) (Ev.ff Z (Ev.bind (qyw (a:=a.Af) (by omega)) (Ev.ff Z (Ev.bind (qgA (a:=a.Av) (by omega)) (Ev.ff Z (Ev.bind (qws (a:=a.Aq) (by omega)) (Ev.ff Z (.done))))))))
def qpC(x:qg):Nat:=qa7 x.Bf
structure qCw(x:qg):Prop where
 Bl:okI x.Bl
 Bf:(okL okI) x.Bf
 Ah:okI x.Ah
theorem qvf{a:qg}(h:qpC a<=1048576):Ev (fun n=>qi9 n a a) true:=by
 unfold qi9;simp only[qpC] at h;exact Ev.ff qaJ (Ev.bind (qgA (a:=a.Bf) (by omega)) (Ev.ff Z (Ev.ff qaJ (.done))))
theorem qy3{a:qu}{left:Int}(h:qnP a)(k:0<=left)(l:left<=1048576):Sz (fun n=>qkm n a left) (fun r=>r=left-(qlI a:Int)):=by
 unfold qkm;obtain⟨b,c,d,f,g⟩:=h;exact Sz.strStep b (by omega) (by omega) fun i m=>Sz.done i (by simp only[qlI];omega)
theorem qwU{a:(List qf)}{left:Int}(h:(rngL qj9) a)(b:0<=left)(c:left<=1048576):Sz (fun n=>qma n a left) (fun r=>r=left-(qeQ a:Int)):=
 Sz.less b c (by omega) (by have:=h.1;omega) (fun _=>rfl)
theorem qBZ{a:qay}{left:Int}(h:qr8 a)(i:0<=left)(k:left<=1048576):Sz (fun n=>qnO n a left) (fun r=>r=left-(qk5 a:Int)):=by
 unfold qnO;obtain⟨b,c,d,f⟩:=h;exact Sz.step (qzS (a:=a.Ac) b (by omega) (by omega)) fun v l p=>Sz.step (qy3 (a:=a.Af) c (by omega) (by omega)) fun x m s=>Sz.step (qhd (a:=a.Av) d (by omega) (by omega)) fun y o t=>Sz.step (qwU (a:=a.Aq) f (by omega) (by omega)) fun z g u=>Sz.done g (by simp only[qk5];omega)
theorem qyD{a:qu}(_:qlI a<=1048576):Ev (fun n=>qke n a) a:=by
 unfold qke;exact .done
theorem qxG{a:qe}:Ev (fun n=>qkQ n a) a:=by
 unfold qkQ;exact .done
theorem qx4{a:qf}:Ev (fun n=>qiy n a) a:=by
 unfold qiy;exact Ev.bind (qxG (a:=a.Ah)) (Ev.bind (qxG (a:=a.Be)) (.done))
theorem qw9{a:(List qf)}(h:qeQ a<=1048576):Ev (fun n=>qje n a) a:=by
 have i:a.length<=1048576:=by simp only[qeQ] at h;omega
 unfold qje;exact Ev.bindN (qjo (by omega)) (Ev.bind (b:=(a,(a.length:Int))) (qks (cp:=qiy) (fun x d=>qx4)
  (fun c n=>by simp only[qfI,qk (je _),cond_false])
  (fun c n j x y d g=>by
   have f:=(List.getElem?_eq_some_iff.1 d).1;simp only[qfI,qj f,cond_true,qas d,qas g,jd,wS j])) .done)
theorem quB{a:qay}(h:qk5 a<=1048576):Ev (fun n=>qiX n a) a:=by
 unfold qiX;simp only[qk5] at h;exact Ev.bind (qzr (a:=a.Ac) (by omega)) (Ev.bind (qyD (a:=a.Af) (by omega)) (Ev.bind (qhe (a:=a.Av) (by omega)) (Ev.bind (qw9 (a:=a.Aq) (by omega)) (.done))))
end Go.Fw


namespace Go.Fw
open Go
set_option maxRecDepth 100000
abbrev lkB(b:qh):Nat:=(linksL b).length
abbrev ndB(b:qh):Nat:=2*(places b.Aa).length
abbrev lvJ(b:qh)(br:List Int):List Bool:=lvB br (lkB b)
def grB(b:qh)(br:List Int):Option Tgraph:=V ⟨V (viewV b),lvJ b br⟩
structure TgOk(b:qh)(c:qu)(br:List Int)(xs:List qf)(R:List Nat):Prop where
 bl:blockB b=true
 co:cornerB c=true
 br_:brB br (lkB b)=true
 sr:srcB xs (ndB b)=true
 or_:ordL (linksL b) (lvJ b br) (ndB b) (ndB b) []=V R
theorem TgOk.ord{b:qh}{c:qu}{br:List Int}{xs:List qf}{R:List Nat}(h:TgOk b c br xs R):OrdOk (lkB b) (frL (linksL b)) (toL (linksL b)) (lvL (lvJ b br)) (ndB b) R:=
 qBb (ndB b) [] R (fun a k d e=>by cases a<;>cases e) h.or_
theorem TgOk.len{b:qh}{c:qu}{br:List Int}{xs:List qf}{R:List Nat}(h:TgOk b c br xs R):R.length=ndB b:=by
 have:=qzA (ndB b) [] R h.or_;simpa using this
theorem qjm{x:Int}(h:x≠0):(x != 0)=true:=by simpa using h
theorem qBJ{b:qh}{c:qu}{br:List Int}{xs:List qf}(B:qm0 b)(H:okS c.Bd)(a:br.length<=1048576)(m:xs.length<=1048576) :
  (∃code:Int,code≠0/\Ev (fun n=>qhX n b c br xs) ([],code)/\Ev (fun n=>qgv n b c br xs U) (U,[],code)) \/
  ∃R,TgOk b c br xs R/\Ev (fun n=>qhX n b c br xs) (ints R,0)/\Ev (fun n=>qgv n b c br xs U) (grB b br,ints R,0):=by
 have k:=qo3 B;have i1:=qxi B;have s2:=qvc (c:=c) H;have s:=qvP (c:=c) H;unfold qhX qgv;cases h1:blockB b
 ·rw[h1] at k i1;exact .inl ⟨1,by omega,Ev.bind (b:=true) (Ev.bind k (Ev.tt Z .done)) (Ev.tt Z .done),Ev.bind (b:=true) (Ev.bind i1 (Ev.tt Z .done)) (Ev.tt Z .done)⟩
 cases h2:cornerB c
 ·rw[h1] at k i1;rw[h2] at s2 s;exact .inl ⟨1,by omega,Ev.bind (b:=true) (Ev.bind k (Ev.ff Z (Ev.bind s2 .done))) (Ev.tt Z .done),Ev.bind (b:=true) (Ev.bind i1 (Ev.ff Z (Ev.bind s .done))) (Ev.tt Z .done)⟩
 have C:=qaU (qQ (qar h1));have d:=qhU h1;have I:=qgt h1;have i:=qwI (br:=br) B h1 a;have f:=qvE (v:=viewV b) (br:=br) a d;have y:=qto (xs:=xs) h1 m;have p:=qtC (v:=viewV b) (xs:=xs) C m;have F:(viewV b).links=linksL b:=rfl;have M:(viewV b).places=places b.Aa:=rfl;rw[F] at f;rw[M] at p;rw[h1] at k i1;rw[h2] at s2 s;have A:Ev (fun n=>(qim n b).bind fun g=>bif (!g) then V true else(qiE n c).bind fun h=>V (!h)) false:=Ev.bind k (Ev.ff Z (Ev.bind s2 .done));have u:Ev (fun n=>(qjC n b).bind fun g=>bif (!g) then V true else(qiF n c).bind fun h=>V (!h)) false:=Ev.bind i1 (Ev.ff Z (Ev.bind s .done));have x:=qwO h1;cases h3:brB br (lkB b)
 ·rw[h3] at i f;exact .inl ⟨2,by omega,Ev.bind A (Ev.ff Z (Ev.bind (b:=true) (Ev.bind i (Ev.tt Z .done)) (Ev.tt Z .done))),
   Ev.bind u (Ev.ff Z (Ev.bind x (Ev.bind (b:=false) (Ev.ff Z .done) (Ev.ff Z (Ev.bind (b:=true) (Ev.bind f (Ev.tt Z .done)) (Ev.tt Z .done))))))⟩
 cases h4:srcB xs (ndB b)
 ·rw[h3] at i f;rw[h4] at y p;exact .inl ⟨2,by omega,Ev.bind A (Ev.ff Z (Ev.bind (b:=true) (Ev.bind i (Ev.ff Z (Ev.bind y .done))) (Ev.tt Z .done))),
   Ev.bind u (Ev.ff Z (Ev.bind x (Ev.bind (b:=false) (Ev.ff Z .done) (Ev.ff Z (Ev.bind (b:=true) (Ev.bind f (Ev.ff Z (Ev.bind p .done))) (Ev.tt Z .done))))))⟩
 have D:=qw0 (v:=viewV b) (br:=br) d h3;rw[F] at D;have P:=qj3 (ls:=linksL b) (br:=br) d a;have l:(lvJ b br).length=lkB b:=qnS;have z:=qui (lv:=lvJ b br) I l;have t:=qy2 (b:=b) (ps:=places b.Aa) (lo:=pre (load0 b) b.Ai.length) (de:=pre (exactL b) b.Ai.length) (ex:=[]) (lv:=lvJ b br) I l Z;rw[h3] at i f;rw[h4] at y p;have K:Ev (fun n=>(qik n b br).bind fun r4=>bif (r4 != 0) then V true else(qgX n b xs).bind fun O=>V (!O)) false:=Ev.bind i (Ev.ff Z (Ev.bind y .done));have J:Ev (fun n=>(qfc n (V (viewV b)) br).bind fun g=>bif (!g) then V true else(qd1 n (V (viewV b)) xs).bind fun h=>V (!h)) false:=Ev.bind f (Ev.ff Z (Ev.bind p .done));have L:∀r:List Int×Int,Ev (fun n=>(qha n (ndB b:Int) (linksL b) (lvJ b br)).bind fun(g,h)=>bif (!h) then V (([]:List Int),(7:Int)) else V (g,0)) r->Ev (fun n=>qfj n b br) r:=fun r N=>by
  unfold qfj;exact Ev.bind i (Ev.ff Z (Ev.bind (qfO h1) (Ev.bind (qkB h1) (Ev.bind P N))))
 cases ho:ordL (linksL b) (lvJ b br) (ndB b) (ndB b) [] with
 |none=>
  have e:ordR (linksL b) (lvJ b br) (ndB b)=([],false):=by unfold ordR;rw[ho]
  rw[e] at z t;exact .inl ⟨7,by omega,Ev.bind A (Ev.ff Z (Ev.bind K (Ev.ff Z (Ev.bind (L ([],7) (Ev.bind z (Ev.tt Z .done))) .done)))),
   Ev.bind u (Ev.ff Z (Ev.bind x (Ev.bind (b:=false) (Ev.ff Z .done) (Ev.ff Z (Ev.bind J (Ev.ff Z (Ev.bind D (Ev.bind t (Ev.tt Z .done)))))))))⟩
 |some R=>
  have e:ordR (linksL b) (lvJ b br) (ndB b)=(ints R,true):=by unfold ordR;rw[ho]
  rw[e] at z t;exact .inr ⟨R,⟨h1,h2,h3,h4,ho⟩,Ev.bind A (Ev.ff Z (Ev.bind K (Ev.ff Z (Ev.bind (L (ints R,0) (Ev.bind z (Ev.ff Z .done))) .done)))),
   Ev.bind u (Ev.ff Z (Ev.bind x (Ev.bind (b:=false) (Ev.ff Z .done) (Ev.ff Z (Ev.bind J (Ev.ff Z (Ev.bind D (Ev.bind t (Ev.ff Z .done)))))))))⟩
structure WkOk(j:qay)(t:qr)(R:List Nat):Prop where
 tg:TgOk j.Ac j.Af j.Av j.Aq R
 tm:TmOk t (ndB j.Ac)
def wkV(j:qay)(t:qr)(R:List Nat):Option Twork:=V ⟨grB j.Ac j.Av,j,t,ints R⟩
theorem qxF{j:qay}(h:qjT j) :
  (∃code:Int,code≠0/\Ev (fun n=>qaV n j.Ac j.Af j.Av j.Aq) (zT,code)/\Ev (fun n=>qkG n j) (U,code)) \/
  ∃t R,WkOk j t R/\Ev (fun n=>qaV n j.Ac j.Af j.Av j.Aq) (t,0)/\Ev (fun n=>qkG n j) (wkV j t R,0):=by
 have g:=h.Av.len;have a:=h.Aq.len;unfold qaV qkG;rcases qBJ h.Ac h.Af.Bd g a with⟨code,hne,hs,hi⟩|⟨R,hg,hs,hi⟩
 ·exact .inl ⟨code,hne,Ev.bind hs (Ev.tt (qjm hne) .done),Ev.bind hi (Ev.tt (qjm hne) .done)⟩
 ·have b:=hg.bl;have s:=qhU b;have y:=qj3 (ls:=linksL j.Ac) (br:=j.Av) s g;obtain⟨f,p,r⟩:=qvp b hg.co;have l:=r [] (.inl Z);rw[quc] at l;have A:=qaU (qQ (qar b));have m:=hg.len;have c:R.length<=1000:=by rw[m];show 2*(places j.Ac.Aa).length<=1000;omega
  have d:∀k,k∈R->k<2*(places j.Ac.Aa).length:=fun k z=>by
   obtain⟨i,hi,rfl⟩:=List.mem_iff_getElem.1 z;exact(hg.ord.at hi).1
  have u:=qxV (lv:=lvJ j.Ac j.Av) (R:=R) b p qnS (qo9 a hg.sr) d c;have v:=qA2 (lv:=lvJ j.Ac j.Av) (R:=R) b p (fun _ _=>rfl) l qnS (qo9 a hg.sr) (fun i hi=>⟨(hg.ord.at hi).1,(hg.ord.at hi).2.1⟩) c;have x:=qBT (lv:=lvJ j.Ac j.Av) b p (qo9 a hg.sr) R (zTm (2*(places j.Ac.Aa).length));generalize rnO f (linksL j.Ac) (lvJ j.Ac j.Av) j.Aq R (zTm (2*(places j.Ac.Aa).length))=o at x u v;cases o with
  |none=>exact .inl ⟨3,by omega,Ev.bind hs (Ev.ff Z (Ev.bind (qfO b) (Ev.bind y (Ev.bind u (Ev.tt Z .done))))),Ev.bind hi (Ev.ff Z (Ev.bind v (Ev.tt Z .done)))⟩
  |some t=>exact .inr ⟨t,R,⟨hg,x t d qxj Z⟩,Ev.bind hs (Ev.ff Z (Ev.bind (qfO b) (Ev.bind y (Ev.bind u (Ev.ff Z .done))))),Ev.bind hi (Ev.ff Z (Ev.bind v (Ev.ff Z .done)))⟩
end Go.Fw


namespace Go.Fw
open Go Go.Proofs Go.Proofs.Tryz
open Go.RowKit (Below)
open Ch renaming own->oW,box->oX,grp->oG
open GoT renaming v->oV
open Go.Value renaming slice->oS
set_option maxRecDepth 100000
set_option maxHeartbeats 6400000
variable{n:Nat}{w:World}{cs1 cs2 cs3 cs4 cs5 cs6 cs7 cs8 cs9:List Value}
def qcF(n:Nat)(j:qay):Option ((Option Tl20Work)×Int):=(qaV n (⟨(⟨j.Ac.Au.Ay⟩:qp),(⟨j.Ac.Aa.Ab,j.Ac.Aa.As,j.Ac.Aa.Ak⟩:qd),j.Ac.Ai⟩:qh) (⟨j.Af.Bd,j.Af.Am,j.Af.Ar,j.Af.Aj,j.Af.Ap⟩:qu) j.Av j.Aq).bind fun(b,a)=>bif (a != 0) then V (U,a) else(qfY n (⟨(⟨j.Ac.Au.Ay⟩:qp),(⟨j.Ac.Aa.Ab,j.Ac.Aa.As,j.Ac.Aa.Ak⟩:qd),j.Ac.Ai⟩:qh)).bind fun r4=>(qh9 n r4 j.Av).bind fun c=>V ((V (⟨(⟨(⟨(⟨j.Ac.Au.Ay⟩:qp),(⟨j.Ac.Aa.Ab,j.Ac.Aa.As,j.Ac.Aa.Ak⟩:qd),j.Ac.Ai⟩:qh),(⟨j.Af.Bd,j.Af.Am,j.Af.Ar,j.Af.Aj,j.Af.Ap⟩:qu),j.Av,j.Aq⟩:qay),r4,c,b⟩:Tl20Work)),0)
theorem qqR{n w}{j:qay}{cs1}(O:Ro w j cs1){r:((Option Tl20Work)×Int)}(F:qcF n j=V r):RetZ prog 78 [oV qay cs1] w (fun us L=>(∃H,r=(U,H)/\us=[oV (Option Tl20Work) [.pointer U],oV Int [vi H]]/\L=[])\/(∃uS1 K k I N uS6 M l J t B o b f u a C p c g v D s d i x,r=((V (⟨j,x,v,(⟨u,t,N⟩:qr)⟩:Tl20Work)),0)/\us=[oV (Option Tl20Work) [vp a],oV Int [vi 0]]/\L=[oW uS1 (N:List qe) [oS K k I],oW uS6 (t:List qe) [oS M l J],oW B (u:List Bool) [oS o b f],oX a (cs1++[oS s d i,oS p c g,oS o b f,oS M l J,oS K k I]) 114,oW C (v:List Bool) [oS p c g],oW D (x:List qx) [oS s d i]])):=by
 obtain⟨_,_,_,_,_,_,_,_,_,_,_,_,_,_,rfl,s1,s2,s3,s4,s5,s6,s7⟩:=qdj O;refine qrm func78 Z (m:=34) Z Z (fun h=>?_);refine zSR (qw h Z Z fun _ _ h=>X4 13 0 0 0 0 h Z ?_);obtain⟨⟨y,r3⟩,P,F⟩:=qc F;refine qaS (y,r3) h (cB 124 Z) (qmW (qdM _ (h.oldS s1) (h.oldS s2) (h.oldS s3) (h.oldS s4) (h.oldS s5)) (qd4 _) ⟨_,_,rfl,(h.oldS s6)⟩ ⟨_,_,rfl,(h.oldS s7)⟩ P) Z Z Z Z fun _ _ _ S Q=>?_;obtain⟨_,_,_,_,rfl,A,R⟩:=S.cons Q;obtain⟨p8,k8,p9,k9,Y,T,rfl,-,-,-⟩:=qdd (A.sh.own 0 Z);obtain⟨rfl,h⟩:=A.lastI R;refine zp3 Z (qq qa h Z Z Z fun _ _ h=>zs 0 h Z fun _ h=>X0 8 Z (qi Z F ?_ ?_))<;>intro F
 ·refine X0 6 Z ?_;obtain rfl:=qb F;replace h:=h.p [] Z;exact qpH qa [oV (Option Tl20Work) [.pointer U],oV Int [vi r3]] h ⟨rfl,rfl,G⟩ (.inl ⟨r3,rfl,rfl,rfl⟩)
 refine X1 5 2 h Z (zcL h F (qh7 (qdM _ (h.oldS s1) (h.oldS s2) (h.oldS s3) (h.oldS s4) (h.oldS s5))) Z fun r4 _ S5 e W h F=>X0 3 Z (rA [] [1,3] h Z fun _ h=>M3 95 [0,1,2,3,4,6] 1 1 0 (h.p [1,3] Z) Z (Ao 5 127 Z (zcL h F (qiN (h.own 0 Z) ⟨_,_,rfl,(h.oldS s6)⟩) Z fun r5 _ S6 a3 X h F=>Ag (h.p [2,4] Z) (Aw 7 255 (fun w' hw=>qH qa [0,1,2,3] [.tmp 25,.tmp 26,.tmp 30,.tmp 31] Z Z Z Z Z Z Z Z) (h.p [2,4] Z) Z ?_)))));refine Ao 8 511 Z (qw h Z Z fun _ z h=>G0 2047 [9,10] (h.p [3,5] Z) Z (Ad ?_));replace h:=h.p [4,0,1,2,3,5] Z;obtain⟨S7,S8,S9,h⟩:=qhh h;obtain rfl:=qb F;replace h:=h.p [0,1,2,3,4,5] Z;exact qpH qa [oV (Option Tl20Work) [vp z],oV Int [vi 0]] h ⟨rfl,rfl,G⟩ (.inr ⟨S9,Y,y.Be.length,T,y.Be,S8,p9,y.Ah.length,k9,y.Ah,S7,p8,y.Bb.length,k8,y.Bb,z,S6,a3,r5.length,X,r5,S5,e,r4.length,W,r4,rfl,rfl,rfl⟩)
def qe1(n:Nat)(j:qay)(node:Int):Option ((Option Tl20Work)×Int):=(qcF n j).bind fun|(U,i1)=>(bif (i1 != 0) then V (U,i1) else(qbQ n (⟨(⟨j.Ac.Au.Ay⟩:qp),(⟨j.Ac.Aa.Ab,j.Ac.Aa.As,j.Ac.Aa.Ak⟩:qd),j.Ac.Ai⟩:qh)).bind fun a=>(qav n node 0 (W64 (a-1))).bind fun b=>bif (!b) then V (U,4) else V (U,0))|(V (⟨_,g,f,⟨x3,d,x1⟩⟩),_)=>((qbQ n (⟨(⟨j.Ac.Au.Ay⟩:qp),(⟨j.Ac.Aa.Ab,j.Ac.Aa.As,j.Ac.Aa.Ak⟩:qd),j.Ac.Ai⟩:qh)).bind fun r4=>(qav n node 0 (W64 (r4-1))).bind fun c=>bif (!c) then V (U,4) else V ((V (⟨(⟨(⟨(⟨j.Ac.Au.Ay⟩:qp),(⟨j.Ac.Aa.Ab,j.Ac.Aa.As,j.Ac.Aa.Ak⟩:qd),j.Ac.Ai⟩:qh),(⟨j.Af.Bd,j.Af.Am,j.Af.Ar,j.Af.Aj,j.Af.Ap⟩:qu),j.Av,j.Aq⟩:qay),g,f,(⟨x3,d,x1⟩:qr)⟩:Tl20Work)),0))
theorem qox{n w}{j:qay}{node cs1}(J:Ro w j cs1){r:((Option Tl20Work)×Int)}(F:qe1 n j node=V r):RetZ prog 41 [oV qay cs1,vi node] w (fun us L=>(∃W,r=(U,W)/\us=[oV (Option Tl20Work) [.pointer U],oV Int [vi W]]/\L=[])\/(∃uS1 e k X a4 uS6 a3 l Y t R o b f u a S p c g v T s d i x,r=((V (⟨j,x,v,(⟨u,t,a4⟩:qr)⟩:Tl20Work)),0)/\us=[oV (Option Tl20Work) [vp a],oV Int [vi 0]]/\L=[oW uS1 (a4:List qe) [oS e k X],oW uS6 (t:List qe) [oS a3 l Y],oW R (u:List Bool) [oS o b f],oX a (cs1++[oS s d i,oS p c g,oS o b f,oS a3 l Y,oS e k X]) 114,oW S (v:List Bool) [oS p c g],oW T (x:List qx) [oS s d i]])):=by
 obtain⟨p1,k1,p2,k2,p3,k3,p4,k4,p5,k5,p6,k6,p7,k7,rfl,s1,s2,s3,s4,s5,_,_⟩:=qdj J;refine qrm func41 Z (m:=24) Z Z (fun h=>?_);refine zSR (qw h Z Z fun _ I h=>X1 6 0 h Z ?_);obtain⟨_,a5,F⟩:=qc F;refine qxO (cB 78 Z) (qqR (h.old J) a5) Z Z Z Z ?_;rintro _ _ _ K (⟨i1,rfl,rfl,rfl⟩|⟨S1,p8,M,k8,x1,S2,p9,N,k9,x2,S3,C,O,z,x3,y,S4,D,P,A,x4,S5,H,Q,B,x5,rfl,rfl,rfl⟩)
 ·replace h:SH _ _ [oX I (qpI j p1 p2 p3 p4 p5 p6 p7 k1 k2 k3 k4 k5 k6 k7) 57]:=SH.appendN h K (show NoD [] from trivial);refine X0 12 Z (qi Z F ?_ ?_)<;>intro F
  ·refine X0 6 Z ?_;obtain rfl:=qb F;replace h:=h.p [] Z;exact qpH qa [oV (Option Tl20Work) [.pointer U],oV Int [vi i1]] h ⟨rfl,rfl,G⟩ (.inl ⟨i1,rfl,rfl,rfl⟩)
  refine X1 7 0 h Z (zcI h F (qdQ (qdM _ (h.oldS s1) (h.oldS s2) (h.oldS s3) (h.oldS s4) (h.oldS s5))) Z fun _ _ h F=>zp1 Z (zcB h F qah Z fun _ _ h F=>X0 2 Z (qi Z F ?_ ?_)))<;>intro F
  ·refine X0 5 Z ?_;obtain rfl:=qb F;replace h:=h.p [] Z;exact qpH qa [oV (Option Tl20Work) [.pointer U],oV Int [vi 4]] h ⟨rfl,rfl,G⟩ (.inl ⟨4,rfl,rfl,rfl⟩)
  refine X0 7 Z ?_;obtain rfl:=qb F;replace h:=h.p [] Z;exact qpH qa [oV (Option Tl20Work) [.pointer U],oV Int [vi 0]] h ⟨rfl,rfl,G⟩ (.inl ⟨0,rfl,rfl,rfl⟩)
 replace h:SH _ _ [oW S1 (x1:List qe) [oS p8 M k8],oW S2 (x2:List qe) [oS p9 N k9],oW S3 (x3:List Bool) [oS C O z],oX y [oS p1 j.Ac.Au.Ay.length k1,oS p2 j.Ac.Aa.Ab.length k2,oS p3 j.Ac.Aa.As.length k3,oS p4 j.Ac.Aa.Ak.length k4,oS p5 j.Ac.Ai.length k5,.string j.Af.Bd,vi j.Af.Am,vi j.Af.Ar,vi j.Af.Aj,vi j.Af.Ap,oS p6 j.Av.length k6,oS p7 j.Aq.length k7,oS H Q B,oS D P A,oS C O z,oS p9 N k9,oS p8 M k8] 114,oW S4 (x4:List Bool) [oS D P A],oW S5 (x5:List qx) [oS H Q B],oX I (qpI j p1 p2 p3 p4 p5 p6 p7 k1 k2 k3 k4 k5 k6 k7) 57]:=SH.appendN h K ⟨fun _ h=>h,⟨fun _ h=>h,⟨fun _ h=>h,⟨fun _ h=>h,⟨fun _ h=>h,⟨fun _ h=>h,G⟩⟩⟩⟩⟩⟩;obtain rfl:=(h.sl 0 Z).2;obtain rfl:=(h.sl 1 Z).2;obtain rfl:=(h.sl 2 Z).2;obtain rfl:=(h.sl 4 Z).2;obtain rfl:=(h.sl 5 Z).2;refine X0 12 Z (qcg Z Z (X1 7 6 h Z (zcI h F (qdQ (qdM _ (h.oldS s1) (h.oldS s2) (h.oldS s3) (h.oldS s4) (h.oldS s5))) Z fun _ _ h F=>zp1 Z (zcB h F qah Z fun _ _ h F=>X0 2 Z (qi Z F ?_ ?_)))))<;>intro F
 ·refine X0 5 Z ?_;obtain rfl:=qb F;replace h:=h.p [] Z;exact qpH qa [oV (Option Tl20Work) [.pointer U],oV Int [vi 4]] h ⟨rfl,rfl,G⟩ (.inl ⟨4,rfl,rfl,rfl⟩)
 refine X0 7 Z ?_;obtain rfl:=qb F;replace h:=h.p [0,1,2,3,4,5] Z;exact qpH qa [oV (Option Tl20Work) [vp y],oV Int [vi 0]] h ⟨rfl,rfl,G⟩ (.inr ⟨S1,p8,x1.length,k8,x1,S2,p9,x2.length,k9,x2,S3,C,x3.length,z,x3,y,S4,D,x4.length,A,x4,S5,H,x5.length,B,x5,rfl,rfl,rfl⟩)
def qh5(_:Nat)(mode:Int):Option Bool:=bif (mode==0) then V true else V (mode==1)
theorem qn5{mode}  {r:Bool}(F:qh5 n mode=V r):RetV prog 42 [vi mode] w r:=by
 refine zV 9 func42 Z fun h=>X0 9 Z (qn (t:=5) F Z ?_ ?_)<;>intro F
 ·exact X0 5 Z (rb h F Z)
 exact X0 7 Z (rb h F Z)
def qkb(b:Int)(r4:(List qg)):Nat->(List qg)->Int->Option ((List qg)×Int)|0,_,_=>U|n+1,x1,a=>bif decide (a<(r4.length:Int)) then(idx x1 a).bind fun f=>(idx x1 a).bind fun g=>(qkJ n U f.Bl g.Bf b).bind fun(d,_)=>(idx x1 a).bind fun c=>qkb b r4 n (setS x1 a (⟨c.Bl,c.Bf,d⟩:qg)) (W64 (a+1)) else V (x1,a)
def qeP(a:qay)(c:Int)(k:(List qe))(x3:(List qe))(l:(List Bool))(m:(List Bool))(p:(List qx))(d:(List qg)):Nat->(List qg)->Int->Option ((List qg)×Int)|0,_,_=>U|n+1,f,b=>bif decide (b<(d.length:Int)) then(idx f b).bind fun r=>(idx f b).bind fun i=>(qkJ n (V (⟨(⟨(⟨(⟨a.Ac.Au.Ay⟩:qp),(⟨a.Ac.Aa.Ab,a.Ac.Aa.As,a.Ac.Aa.Ak⟩:qd),a.Ac.Ai⟩:qh),(⟨a.Af.Bd,a.Af.Am,a.Af.Ar,a.Af.Aj,a.Af.Ap⟩:qu),a.Av,a.Aq⟩:qay),p,m,(⟨l,x3,k⟩:qr)⟩:Tl20Work)) r.Bl i.Bf c).bind fun(h,_)=>(idx f b).bind fun g=>qeP a c k x3 l m p d n (setS f b (⟨g.Bl,g.Bf,h⟩:qg)) (W64 (b+1)) else V (f,b)
def qg9(n:Nat)(a:qay)(c:Int)(b:Int):Option ((Option Tl20Work)×qg×Int):=(qe1 n a c).bind fun|(U,i1)=>(bif (i1 != 0) then V (U,(⟨0,[],0⟩:qg),i1) else(qh5 n b).bind fun s=>bif (!s) then V (U,(⟨0,[],0⟩:qg),2) else(qgf n U).bind fun t=>(idx t c).bind fun p=>bif decide (p > 300) then V (U,(⟨0,[],0⟩:qg),3) else bif (p==0) then V (U,(⟨0,[],0⟩:qg),5) else(qcW n U c).bind fun r4=>(qkb b r4 n r4 0).bind fun(x1,_)=>(qhM n x1 b).bind fun u=>(idx u 0).bind fun y=>V (U,y,0))|(V (⟨_,i,h,⟨g,x3,f⟩⟩),_)=>((qh5 n b).bind fun v=>bif (!v) then V (U,(⟨0,[],0⟩:qg),2) else(qgf n (V (⟨(⟨(⟨(⟨a.Ac.Au.Ay⟩:qp),(⟨a.Ac.Aa.Ab,a.Ac.Aa.As,a.Ac.Aa.Ak⟩:qd),a.Ac.Ai⟩:qh),(⟨a.Af.Bd,a.Af.Am,a.Af.Ar,a.Af.Aj,a.Af.Ap⟩:qu),a.Av,a.Aq⟩:qay),i,h,(⟨g,x3,f⟩:qr)⟩:Tl20Work))).bind fun k=>(idx k c).bind fun r=>bif decide (r > 300) then V (U,(⟨0,[],0⟩:qg),3) else bif (r==0) then V (U,(⟨0,[],0⟩:qg),5) else(qcW n (V (⟨(⟨(⟨(⟨a.Ac.Au.Ay⟩:qp),(⟨a.Ac.Aa.Ab,a.Ac.Aa.As,a.Ac.Aa.Ak⟩:qd),a.Ac.Ai⟩:qh),(⟨a.Af.Bd,a.Af.Am,a.Af.Ar,a.Af.Aj,a.Af.Ap⟩:qu),a.Av,a.Aq⟩:qay),i,h,(⟨g,x3,f⟩:qr)⟩:Tl20Work)) c).bind fun d=>(qeP a b f x3 g h i d n d 0).bind fun(x,_)=>(qhM n x b).bind fun l=>(idx l 0).bind fun m=>V ((V (⟨(⟨(⟨(⟨a.Ac.Au.Ay⟩:qp),(⟨a.Ac.Aa.Ab,a.Ac.Aa.As,a.Ac.Aa.Ak⟩:qd),a.Ac.Ai⟩:qh),(⟨a.Af.Bd,a.Af.Am,a.Af.Ar,a.Af.Aj,a.Af.Ap⟩:qu),a.Av,a.Aq⟩:qay),i,h,(⟨g,x3,f⟩:qr)⟩:Tl20Work)),m,0))
theorem qq0{A}(hA:∀b,A b->old w b){a:qay}{a_1 W}(ha1:GoT.R w A a cs1){r:((Option Tl20Work)×qg×Int)}(F:qg9 n a a_1 W=V r):RetG prog 26 [oV qay cs1,vi a_1,vi W] w A r:=by
 obtain⟨R,Q,H,D,z,k3,B,y,M,I,N,J,O,L,rfl,s1,s2,s3,s4,s5,s6,s7⟩:=qdj ha1;have hg:=Rg.start hA;refine qeE func26 Z (m:=77) Z Z (fun h=>?_);refine zSR (qw h Z Z fun _ bb1 h=>zp1 Z (qq qa h Z Z Z fun _ P h=>X1 6 1 h Z ?_));obtain⟨_,hr1,F⟩:=qc F;refine qxO (cB 41 Z) (qox (h.old (GoT.mono ha1 hg.old)) hr1) Z Z Z Z ?_;rintro _ _ _ hs1 (⟨i1,rfl,rfl,rfl⟩|⟨b9,f,ln1,c,l,c0,g,ln2,d,x3,c1,k,ln3,i,s,X,c2,p,ln4,o,t,c3,v,ln5,u,C,rfl,rfl,rfl⟩)
 ·replace h:SH _ _ [oX P [vi 0,oS U 0 0,vi 0] 41,oX bb1 (qpI a R H z B M N O Q D k3 y I J L) 57]:=SH.appendN h hs1 (show NoD [] from trivial);refine X0 12 Z (qi Z F ?_ ?_)<;>intro F
  ·refine zSR (r_v (qH qa [] [] Z Z Z Z Z Z Z Z) Z (zp2 Z (zs 0 h Z fun _ h=>X0 2 Z ?_)));obtain rfl:=qb F;have hv1:GoRs.Rs (ρ:=((Option Tl20Work)×qg×Int)) h.wc (reg A w h.wc) (U,(⟨0,[],0⟩:qg),i1) [oV (Option Tl20Work) [.pointer U],oV qg [vi 0,oS U 0 0,vi 0],oV Int [vi i1]]:=⟨_,_,rfl,rfl,⟨_,_,rfl,(hg.outR h (qfp (⟨0,[],0⟩:qg) qiT)),⟨_,rfl,rfl⟩⟩⟩;exact qdE qa (ρ:=((Option Tl20Work)×qg×Int)) (r:=(U,(⟨0,[],0⟩:qg),i1)) [oV (Option Tl20Work) [.pointer U],oV qg [vi 0,oS U 0 0,vi 0],oV Int [vi i1]] h ⟨rfl,⟨_,_,_,rfl,rfl,h.box 0 Z,rfl⟩,rfl,G⟩ hv1
  refine X0 5 Z (zcB h F qn5 Z fun _ _ h F=>X0 2 Z (qi Z F ?_ ?_))<;>intro F
  ·refine zSR (r_v (qH qa [] [] Z Z Z Z Z Z Z Z) Z (zp1 Z (zs 0 h Z fun _ h=>X0 2 Z ?_)));obtain rfl:=qb F;have hv2:GoRs.Rs (ρ:=((Option Tl20Work)×qg×Int)) h.wc (reg A w h.wc) (U,(⟨0,[],0⟩:qg),2) [oV (Option Tl20Work) [.pointer U],oV qg [vi 0,oS U 0 0,vi 0],oV Int [vi 2]]:=⟨_,_,rfl,rfl,⟨_,_,rfl,(hg.outR h (qfp (⟨0,[],0⟩:qg) qiT)),⟨_,rfl,rfl⟩⟩⟩;exact qdE qa (ρ:=((Option Tl20Work)×qg×Int)) (r:=(U,(⟨0,[],0⟩:qg),2)) [oV (Option Tl20Work) [.pointer U],oV qg [vi 0,oS U 0 0,vi 0],oV Int [vi 2]] h ⟨rfl,⟨_,_,_,rfl,rfl,h.box 0 Z,rfl⟩,rfl,G⟩ hv2
  refine X0 4 Z (zcL h F (qmy Z) Z fun _ _ _ _ _ h F=>zp1 Z ?_);obtain⟨_,_,F,he1,_,_,_,_,hp1,hq1,rfl,hc3⟩:=(h.sl 0 Z).1.ix F;refine zx hp1 hq1 ⟨he1.1,qC he1.2.1 (h.sl 0 Z).2⟩ Z (zc 0 hc3 Z (X0 8 Z (qi Z F ?_ ?_)))<;>intro F
  ·refine zSR (r_v (qH qa [] [] Z Z Z Z Z Z Z Z) Z (zp1 Z (zs 1 h Z fun _ h=>X0 2 Z ?_)));obtain rfl:=qb F;have hv3:GoRs.Rs (ρ:=((Option Tl20Work)×qg×Int)) h.wc (reg A w h.wc) (U,(⟨0,[],0⟩:qg),3) [oV (Option Tl20Work) [.pointer U],oV qg [vi 0,oS U 0 0,vi 0],oV Int [vi 3]]:=⟨_,_,rfl,rfl,⟨_,_,rfl,(hg.outR h (qfp (⟨0,[],0⟩:qg) qiT)),⟨_,rfl,rfl⟩⟩⟩;exact qdE qa (ρ:=((Option Tl20Work)×qg×Int)) (r:=(U,(⟨0,[],0⟩:qg),3)) [oV (Option Tl20Work) [.pointer U],oV qg [vi 0,oS U 0 0,vi 0],oV Int [vi 3]] h ⟨rfl,⟨_,_,_,rfl,rfl,h.box 1 Z,rfl⟩,rfl,G⟩ hv3
  refine X0 7 Z (qi Z F ?_ ?_)<;>intro F
  ·refine zSR (r_v (qH qa [] [] Z Z Z Z Z Z Z Z) Z (zp1 Z (zs 1 h Z fun _ h=>X0 2 Z ?_)));obtain rfl:=qb F;have hv4:GoRs.Rs (ρ:=((Option Tl20Work)×qg×Int)) h.wc (reg A w h.wc) (U,(⟨0,[],0⟩:qg),5) [oV (Option Tl20Work) [.pointer U],oV qg [vi 0,oS U 0 0,vi 0],oV Int [vi 5]]:=⟨_,_,rfl,rfl,⟨_,_,rfl,(hg.outR h (qfp (⟨0,[],0⟩:qg) qiT)),⟨_,rfl,rfl⟩⟩⟩;exact qdE qa (ρ:=((Option Tl20Work)×qg×Int)) (r:=(U,(⟨0,[],0⟩:qg),5)) [oV (Option Tl20Work) [.pointer U],oV qg [vi 0,oS U 0 0,vi 0],oV Int [vi 5]] h ⟨rfl,⟨_,_,_,rfl,rfl,h.box 1 Z,rfl⟩,rfl,G⟩ hv4
  refine X0 5 Z (zcL h F (qon Z) Z fun r4 _ _ p9 k9 h F=>X0 7 Z ?_);obtain⟨o1,F,hK1⟩:=qc F;refine qm ?_;replace h:=h.p [0,2] Z;refine rL (fun m e w'=>∃S3 x1 i2,qkb W r4 m x1 i2=V o1/\e=[(2,vi W),(7,vp P),(9,.pointer U),(12,oS p9 r4.length k9),(13,vi i2)]/\SH w w' [oW S3 (x1:List qg) [oS p9 r4.length k9],oX P [vi 0,oS U 0 0,vi 0] 41]) n ⟨_,_,_,F,rfl,h⟩ Z ?_;rintro m1 _ _ ⟨S3,x1,i2,F,rfl,h⟩;rcases m1 with _|m1
  ·cases F
  refine X0 8 Z (qi Z F ?_ ?_)<;>intro F
  ·refine X0 4 Z (rA [] [] h Z fun _ h=>M0 7 [0,1,2] (h.p [] Z) Z ?_);obtain⟨y2,hy2,F⟩:=qc F;have he2:=qaO hy2;replace h:=h.lrn0 0 Z;obtain⟨_,o_2,_,_,hp2,hq2,-,hr6,hc7⟩:=(qe9 (h.lrnO 0 Z)).1.at hy2;have hr7:=hr6;obtain⟨p10,k10,rfl,_⟩:=qak hr6;replace h:=h.lrnAdd 0 Z hr7;refine Ax 3 15 hp2 hq2 ⟨he2.1,qC he2.2.1 (qe9 (h.lrnO 0 Z)).2⟩ (h.p [] Z) Z (M0 223 [4,6,7] (h.p [] Z) Z ?_);obtain⟨y3,_,F,he3,_,_,_,_,hp3,hq3,hr8,hc8⟩:=(qe9 (h.lrnO 0 Z)).1.ix F;have hr9:=hr8;obtain⟨p11,k11,rfl,_⟩:=qak hr8;replace h:=h.lrnAdd 0 Z hr9;refine Ax 8 479 hp3 hq3 ⟨he3.1,qC he3.2.1 (qe9 (h.lrnO 0 Z)).2⟩ (h.p [] Z) Z (M0 3039 [9,11] (h.p [] Z) Z ?_);obtain⟨⟨r6,r7⟩,hr10,F⟩:=qc F;refine qlc (fun e w'=>e=[(12,oS p9 r4.length k9),(13,vi i2),(14,vi r6),(2,vi W),(7,vp P),(9,.pointer U)]/\SH w w' [Ch.lrn S3 (x1:List qg) [oS p9 r4.length k9] [fct (y3:qg) (qbK y3 p11 k11),fct (y2:qg) (qbK y2 p10 k10)],oX P [vi 0,oS U 0 0,vi 0] 41]) 0 (bits 18 262143) ?_ ?_
   ·intro K;refine At 5 10 3071 4063 Z ?_ ?_
    ·refine zc 0 hc7 Z (Ag (h.p [] Z) (Ao 10 4095 Z (zc 1 hc8 Z (Ag (h.p [] Z) (Ao 12 8191 Z (qaS (r6,r7) h (cB 60 Z) (qjE Z ⟨_,_,rfl,(qj5 (GoT.mono (h.lrnS 0 0 Z Z) (h.lrnB 0 Z))).1⟩ hr10) Z Z Z Z fun w25 S31 us14 a8 a4=>?_))))));obtain⟨S32,us15,rfl,a9,a5⟩:=a8.consI a4;obtain⟨rfl,h⟩:=a9.lastI a5;exact G0 262143 [13,14,15,16,17] (h.p [] Z) Z (qrx [(12,_),(13,_),(14,_),(2,_),(7,_),(9,_)] ⟨rfl,rfl,rfl,rfl,rfl,rfl,G⟩ (K _ _ ⟨rfl,h⟩))
    refine zc 1 hc8 Z (Ag (h.p [] Z) (Ao 5 4095 Z (zc 0 hc7 Z (Ag (h.p [] Z) (Ao 12 8191 Z (qaS (r6,r7) h (cB 60 Z) (qjE Z ⟨_,_,rfl,(qj5 (GoT.mono (h.lrnS 0 0 Z Z) (h.lrnB 0 Z))).1⟩ hr10) Z Z Z Z fun w25 S31 us14 a8 a4=>?_))))));obtain⟨S32,us15,rfl,a9,a5⟩:=a8.consI a4;obtain⟨rfl,h⟩:=a9.lastI a5;exact G0 262143 [13,14,15,16,17] (h.p [] Z) Z (qrx [(12,_),(13,_),(14,_),(2,_),(7,_),(9,_)] ⟨rfl,rfl,rfl,rfl,rfl,rfl,G⟩ (K _ _ ⟨rfl,h⟩))
   rintro _ _ ⟨rfl,h⟩;refine Ad (X0 4 Z ?_);obtain⟨y6,hy6,F⟩:=qc F;have he6:=qaO hy6;replace h:=h.unlrn 0 Z;obtain⟨_,_,_,h⟩:=h.take hy6;obtain⟨_,_,rfl,-⟩:=qak (h.own 0 Z);obtain⟨_,h⟩:=qkx h;obtain⟨_,hp6,-,-,hl6⟩:=h.holeAt 1 Z;obtain⟨q6,hq6⟩:∃q,q=0+(i2).toNat*GoT.k qg:=⟨_,rfl⟩;refine zx hp6 hq6 ⟨he6.1,qC he6.2.1 hl6⟩ Z (zp1 Z (qfN qa 1 2 h Z hp6 hq6 Z Z Z Z Z Z fun _ h=>X0 7 Z ?_));obtain⟨_,h⟩:=h.gather [1,2] (qg2 (⟨y6.Bl,y6.Bf,r6⟩:qg) h (qv (S:=fun _=>False) Z) (qab 0 h Z) (qv (S:=fun _=>False) Z) (by rfl) (by rfl)) Z;replace h:=h.put;obtain⟨_,h⟩:=qnr (S:=_) h;exact rK ⟨_,_,_,F,rfl,h⟩ Z
  refine qt Z ?_;obtain rfl:=qb F;replace F:=hK1;refine qZ (rA [] [] h Z fun _ h=>M0 7 [0,1,2] (h.p [] Z) Z (Ao 3 15 Z ?_));obtain⟨r8,hr32,F⟩:=qc F;refine qsu r8 0 hg h Z (cB 61 Z) (qmt (hg.atPo 0 h Z) (h.ownG 0 Z) hr32) Z Z Z Z fun _ _ _ h hv26=>?_;obtain⟨_,rfl,hr33⟩:=qj1 hv26;have hr34:=hr33;obtain⟨_,_,rfl,_⟩:=hr33;replace h:=h.grpAdd 0 Z hr34;refine Ag (h.p [] Z) ?_;obtain⟨y7,_,F,he7,_,_,_,_,hp7,hq7,hr35,hc9⟩:=(qe9 (h.grpS 0 0 Z Z)).1.ix F;have hr36:=hr35;obtain⟨c6,c4,rfl,_⟩:=qak hr35;replace h:=h.grpAdd 0 Z hr36;refine Ax 4 31 hp7 hq7 ⟨he7.1,qC he7.2.1 (qe9 (h.grpS 0 1 Z Z)).2⟩ (h.p [] Z) Z (M0 95 [6] (h.p [] Z) Z (Ao 5 127 Z (zc 0 hc9 Z (Ag (h.p [] Z) (Ao 7 255 Z (zs 1 h Z fun _ h=>G0 511 [8] (h.p [] Z) Z (Ad ?_)))))));obtain rfl:=qb F;have hv27:GoRs.Rs (ρ:=((Option Tl20Work)×qg×Int)) h.wc (reg A w h.wc) (U,y7,0) [oV (Option Tl20Work) [.pointer U],oV qg (qbK y7 c6 c4),oV Int [vi 0]]:=⟨_,_,rfl,rfl,⟨_,_,rfl,(hg.outR h (⟨[vi y7.Bl],[oS c6 y7.Bf.length c4,vi y7.Ah],rfl,rfl,⟨[oS c6 y7.Bf.length c4],[vi y7.Ah],rfl,⟨_,_,rfl,(qj5 (Rg.grpR 0 0 h Z Z)).1⟩,rfl⟩⟩)),⟨_,rfl,rfl⟩⟩⟩;have hk1:=h;replace h:=h.p [1] Z;exact qdE qa (ρ:=((Option Tl20Work)×qg×Int)) (r:=(U,y7,0)) [oV (Option Tl20Work) [.pointer U],oV qg (qbK y7 c6 c4),oV Int [vi 0]] h ⟨rfl,⟨_,_,_,rfl,rfl,hk1.box 1 Z,rfl⟩,rfl,G⟩ hv27
 replace h:SH _ _ [oW b9 (l:List qe) [oS f ln1 c],oW c0 (x3:List qe) [oS g ln2 d],oW c1 (s:List Bool) [oS k ln3 i],oX X [oS R a.Ac.Au.Ay.length Q,oS H a.Ac.Aa.Ab.length D,oS z a.Ac.Aa.As.length k3,oS B a.Ac.Aa.Ak.length y,oS M a.Ac.Ai.length I,.string a.Af.Bd,vi a.Af.Am,vi a.Af.Ar,vi a.Af.Aj,vi a.Af.Ap,oS N a.Av.length J,oS O a.Aq.length L,oS v ln5 u,oS p ln4 o,oS k ln3 i,oS g ln2 d,oS f ln1 c] 114,oW c2 (t:List Bool) [oS p ln4 o],oW c3 (C:List qx) [oS v ln5 u],oX P [vi 0,oS U 0 0,vi 0] 41,oX bb1 (qpI a R H z B M N O Q D k3 y I J L) 57]:=SH.appendN h hs1 ⟨fun _ h=>h,⟨fun _ h=>h,⟨fun _ h=>h,⟨fun _ h=>h,⟨fun _ h=>h,⟨fun _ h=>h,G⟩⟩⟩⟩⟩⟩;obtain rfl:=(h.sl 0 Z).2;obtain rfl:=(h.sl 1 Z).2;obtain rfl:=(h.sl 2 Z).2;obtain rfl:=(h.sl 4 Z).2;obtain rfl:=(h.sl 5 Z).2;refine X0 12 Z (qcg Z Z (X0 5 Z (zcB h F qn5 Z fun _ _ h F=>X0 2 Z (qi Z F ?_ ?_))))<;>intro F
 ·refine zSR (r_v (qH qa [] [] Z Z Z Z Z Z Z Z) Z (zp1 Z (zs 6 h Z fun _ h=>X0 2 Z ?_)));obtain rfl:=qb F;have hv28:GoRs.Rs (ρ:=((Option Tl20Work)×qg×Int)) h.wc (reg A w h.wc) (U,(⟨0,[],0⟩:qg),2) [oV (Option Tl20Work) [.pointer U],oV qg [vi 0,oS U 0 0,vi 0],oV Int [vi 2]]:=⟨_,_,rfl,rfl,⟨_,_,rfl,(hg.outR h (qfp (⟨0,[],0⟩:qg) qiT)),⟨_,rfl,rfl⟩⟩⟩;exact qdE qa (ρ:=((Option Tl20Work)×qg×Int)) (r:=(U,(⟨0,[],0⟩:qg),2)) [oV (Option Tl20Work) [.pointer U],oV qg [vi 0,oS U 0 0,vi 0],oV Int [vi 2]] h ⟨rfl,⟨_,_,_,rfl,rfl,h.box 6 Z,rfl⟩,rfl,G⟩ hv28
 refine X0 4 Z (zcL h F (qmy (qf8 (x:=(⟨(⟨(⟨(⟨a.Ac.Au.Ay⟩:qp),(⟨a.Ac.Aa.Ab,a.Ac.Aa.As,a.Ac.Aa.Ak⟩:qd),a.Ac.Ai⟩:qh),(⟨a.Af.Bd,a.Af.Am,a.Af.Ar,a.Af.Aj,a.Af.Ap⟩:qu),a.Av,a.Aq⟩:qay),C,t,(⟨s,x3,l⟩:qr)⟩:Tl20Work)) 3 h Z (show GoT.R _ _ ((⟨(⟨(⟨(⟨a.Ac.Au.Ay⟩:qp),(⟨a.Ac.Aa.Ab,a.Ac.Aa.As,a.Ac.Aa.Ak⟩:qd),a.Ac.Ai⟩:qh),(⟨a.Af.Bd,a.Af.Am,a.Af.Ar,a.Af.Aj,a.Af.Ap⟩:qu),a.Av,a.Aq⟩:qay),C,t,(⟨s,x3,l⟩:qr)⟩:Tl20Work):Tl20Work) _ from⟨[oS R a.Ac.Au.Ay.length Q,oS H a.Ac.Aa.Ab.length D,oS z a.Ac.Aa.As.length k3,oS B a.Ac.Aa.Ak.length y,oS M a.Ac.Ai.length I,.string a.Af.Bd,vi a.Af.Am,vi a.Af.Ar,vi a.Af.Aj,vi a.Af.Ap,oS N a.Av.length J,oS O a.Aq.length L],[oS v C.length u,oS p t.length o,oS k s.length i,oS g x3.length d,oS f l.length c],rfl,⟨[oS R a.Ac.Au.Ay.length Q,oS H a.Ac.Aa.Ab.length D,oS z a.Ac.Aa.As.length k3,oS B a.Ac.Aa.Ak.length y,oS M a.Ac.Ai.length I],[.string a.Af.Bd,vi a.Af.Am,vi a.Af.Ar,vi a.Af.Aj,vi a.Af.Ap,oS N a.Av.length J,oS O a.Aq.length L],rfl,⟨[oS R a.Ac.Au.Ay.length Q],[oS H a.Ac.Aa.Ab.length D,oS z a.Ac.Aa.As.length k3,oS B a.Ac.Aa.Ak.length y,oS M a.Ac.Ai.length I],rfl,⟨_,_,rfl,(h.oldS (s1.mono hg.old))⟩,⟨[oS H a.Ac.Aa.Ab.length D,oS z a.Ac.Aa.As.length k3,oS B a.Ac.Aa.Ak.length y],[oS M a.Ac.Ai.length I],rfl,⟨[oS H a.Ac.Aa.Ab.length D],[oS z a.Ac.Aa.As.length k3,oS B a.Ac.Aa.Ak.length y],rfl,⟨_,_,rfl,(h.oldS (s2.mono hg.old))⟩,⟨[oS z a.Ac.Aa.As.length k3],[oS B a.Ac.Aa.Ak.length y],rfl,⟨_,_,rfl,(h.oldS (s3.mono hg.old))⟩,⟨_,_,rfl,(h.oldS (s4.mono hg.old))⟩⟩⟩,⟨_,_,rfl,(h.oldS (s5.mono hg.old))⟩⟩⟩,⟨[.string a.Af.Bd,vi a.Af.Am,vi a.Af.Ar,vi a.Af.Aj,vi a.Af.Ap],[oS N a.Av.length J,oS O a.Aq.length L],rfl,⟨[.string a.Af.Bd],[vi a.Af.Am,vi a.Af.Ar,vi a.Af.Aj,vi a.Af.Ap],rfl,rfl,⟨[vi a.Af.Am],[vi a.Af.Ar,vi a.Af.Aj,vi a.Af.Ap],rfl,rfl,⟨[vi a.Af.Ar],[vi a.Af.Aj,vi a.Af.Ap],rfl,rfl,⟨[vi a.Af.Aj],[vi a.Af.Ap],rfl,rfl,rfl⟩⟩⟩⟩,⟨[oS N a.Av.length J],[oS O a.Aq.length L],rfl,⟨_,_,rfl,(h.oldS (s6.mono hg.old))⟩,⟨_,_,rfl,(h.oldS (s7.mono hg.old))⟩⟩⟩⟩,⟨[oS v C.length u],[oS p t.length o,oS k s.length i,oS g x3.length d,oS f l.length c],rfl,(h.own 5 Z),⟨[oS p t.length o],[oS k s.length i,oS g x3.length d,oS f l.length c],rfl,(h.own 4 Z),⟨[oS k s.length i],[oS g x3.length d,oS f l.length c],rfl,(h.own 2 Z),⟨[oS g x3.length d],[oS f l.length c],rfl,(h.own 1 Z),(h.own 0 Z)⟩⟩⟩⟩⟩))) Z fun _ _ _ _ _ h F=>zp1 Z ?_);obtain⟨_,_,F,he8,_,_,_,_,hp8,hq8,rfl,hc11⟩:=(h.sl 0 Z).1.ix F;refine zx hp8 hq8 ⟨he8.1,qC he8.2.1 (h.sl 0 Z).2⟩ Z (zc 0 hc11 Z (X0 8 Z (qi Z F ?_ ?_)))<;>intro F
 ·refine zSR (r_v (qH qa [] [] Z Z Z Z Z Z Z Z) Z (zp1 Z (zs 7 h Z fun _ h=>X0 2 Z ?_)));obtain rfl:=qb F;have hv29:GoRs.Rs (ρ:=((Option Tl20Work)×qg×Int)) h.wc (reg A w h.wc) (U,(⟨0,[],0⟩:qg),3) [oV (Option Tl20Work) [.pointer U],oV qg [vi 0,oS U 0 0,vi 0],oV Int [vi 3]]:=⟨_,_,rfl,rfl,⟨_,_,rfl,(hg.outR h (qfp (⟨0,[],0⟩:qg) qiT)),⟨_,rfl,rfl⟩⟩⟩;exact qdE qa (ρ:=((Option Tl20Work)×qg×Int)) (r:=(U,(⟨0,[],0⟩:qg),3)) [oV (Option Tl20Work) [.pointer U],oV qg [vi 0,oS U 0 0,vi 0],oV Int [vi 3]] h ⟨rfl,⟨_,_,_,rfl,rfl,h.box 7 Z,rfl⟩,rfl,G⟩ hv29
 refine X0 7 Z (qi Z F ?_ ?_)<;>intro F
 ·refine zSR (r_v (qH qa [] [] Z Z Z Z Z Z Z Z) Z (zp1 Z (zs 7 h Z fun _ h=>X0 2 Z ?_)));obtain rfl:=qb F;have hv30:GoRs.Rs (ρ:=((Option Tl20Work)×qg×Int)) h.wc (reg A w h.wc) (U,(⟨0,[],0⟩:qg),5) [oV (Option Tl20Work) [.pointer U],oV qg [vi 0,oS U 0 0,vi 0],oV Int [vi 5]]:=⟨_,_,rfl,rfl,⟨_,_,rfl,(hg.outR h (qfp (⟨0,[],0⟩:qg) qiT)),⟨_,rfl,rfl⟩⟩⟩;exact qdE qa (ρ:=((Option Tl20Work)×qg×Int)) (r:=(U,(⟨0,[],0⟩:qg),5)) [oV (Option Tl20Work) [.pointer U],oV qg [vi 0,oS U 0 0,vi 0],oV Int [vi 5]] h ⟨rfl,⟨_,_,_,rfl,rfl,h.box 7 Z,rfl⟩,rfl,G⟩ hv30
 refine X0 5 Z (zcL h F (qon (qf8 (x:=(⟨(⟨(⟨(⟨a.Ac.Au.Ay⟩:qp),(⟨a.Ac.Aa.Ab,a.Ac.Aa.As,a.Ac.Aa.Ak⟩:qd),a.Ac.Ai⟩:qh),(⟨a.Af.Bd,a.Af.Am,a.Af.Ar,a.Af.Aj,a.Af.Ap⟩:qu),a.Av,a.Aq⟩:qay),C,t,(⟨s,x3,l⟩:qr)⟩:Tl20Work)) 4 h Z (show GoT.R _ _ ((⟨(⟨(⟨(⟨a.Ac.Au.Ay⟩:qp),(⟨a.Ac.Aa.Ab,a.Ac.Aa.As,a.Ac.Aa.Ak⟩:qd),a.Ac.Ai⟩:qh),(⟨a.Af.Bd,a.Af.Am,a.Af.Ar,a.Af.Aj,a.Af.Ap⟩:qu),a.Av,a.Aq⟩:qay),C,t,(⟨s,x3,l⟩:qr)⟩:Tl20Work):Tl20Work) _ from⟨[oS R a.Ac.Au.Ay.length Q,oS H a.Ac.Aa.Ab.length D,oS z a.Ac.Aa.As.length k3,oS B a.Ac.Aa.Ak.length y,oS M a.Ac.Ai.length I,.string a.Af.Bd,vi a.Af.Am,vi a.Af.Ar,vi a.Af.Aj,vi a.Af.Ap,oS N a.Av.length J,oS O a.Aq.length L],[oS v C.length u,oS p t.length o,oS k s.length i,oS g x3.length d,oS f l.length c],rfl,⟨[oS R a.Ac.Au.Ay.length Q,oS H a.Ac.Aa.Ab.length D,oS z a.Ac.Aa.As.length k3,oS B a.Ac.Aa.Ak.length y,oS M a.Ac.Ai.length I],[.string a.Af.Bd,vi a.Af.Am,vi a.Af.Ar,vi a.Af.Aj,vi a.Af.Ap,oS N a.Av.length J,oS O a.Aq.length L],rfl,⟨[oS R a.Ac.Au.Ay.length Q],[oS H a.Ac.Aa.Ab.length D,oS z a.Ac.Aa.As.length k3,oS B a.Ac.Aa.Ak.length y,oS M a.Ac.Ai.length I],rfl,⟨_,_,rfl,(h.oldS (s1.mono hg.old))⟩,⟨[oS H a.Ac.Aa.Ab.length D,oS z a.Ac.Aa.As.length k3,oS B a.Ac.Aa.Ak.length y],[oS M a.Ac.Ai.length I],rfl,⟨[oS H a.Ac.Aa.Ab.length D],[oS z a.Ac.Aa.As.length k3,oS B a.Ac.Aa.Ak.length y],rfl,⟨_,_,rfl,(h.oldS (s2.mono hg.old))⟩,⟨[oS z a.Ac.Aa.As.length k3],[oS B a.Ac.Aa.Ak.length y],rfl,⟨_,_,rfl,(h.oldS (s3.mono hg.old))⟩,⟨_,_,rfl,(h.oldS (s4.mono hg.old))⟩⟩⟩,⟨_,_,rfl,(h.oldS (s5.mono hg.old))⟩⟩⟩,⟨[.string a.Af.Bd,vi a.Af.Am,vi a.Af.Ar,vi a.Af.Aj,vi a.Af.Ap],[oS N a.Av.length J,oS O a.Aq.length L],rfl,⟨[.string a.Af.Bd],[vi a.Af.Am,vi a.Af.Ar,vi a.Af.Aj,vi a.Af.Ap],rfl,rfl,⟨[vi a.Af.Am],[vi a.Af.Ar,vi a.Af.Aj,vi a.Af.Ap],rfl,rfl,⟨[vi a.Af.Ar],[vi a.Af.Aj,vi a.Af.Ap],rfl,rfl,⟨[vi a.Af.Aj],[vi a.Af.Ap],rfl,rfl,rfl⟩⟩⟩⟩,⟨[oS N a.Av.length J],[oS O a.Aq.length L],rfl,⟨_,_,rfl,(h.oldS (s6.mono hg.old))⟩,⟨_,_,rfl,(h.oldS (s7.mono hg.old))⟩⟩⟩⟩,⟨[oS v C.length u],[oS p t.length o,oS k s.length i,oS g x3.length d,oS f l.length c],rfl,(h.own 6 Z),⟨[oS p t.length o],[oS k s.length i,oS g x3.length d,oS f l.length c],rfl,(h.own 5 Z),⟨[oS k s.length i],[oS g x3.length d,oS f l.length c],rfl,(h.own 3 Z),⟨[oS g x3.length d],[oS f l.length c],rfl,(h.own 2 Z),(h.own 1 Z)⟩⟩⟩⟩⟩))) Z fun Y _ _ b7 b6 h F=>X0 7 Z ?_);obtain⟨o2,F,hK2⟩:=qc F;refine qm ?_;replace h:=h.p [0,2,3,4,5,6,7,8] Z;refine rL (fun m e w'=>∃S47 x7 i3,qeP a W l x3 s t C Y m x7 i3=V o2/\e=[(2,vi W),(7,vp P),(9,vp X),(12,oS b7 Y.length b6),(13,vi i3)]/\SH w w' [oW S47 (x7:List qg) [oS b7 Y.length b6],oW b9 (l:List qe) [oS f l.length c],oW c0 (x3:List qe) [oS g x3.length d],oW c1 (s:List Bool) [oS k s.length i],oX X [oS R a.Ac.Au.Ay.length Q,oS H a.Ac.Aa.Ab.length D,oS z a.Ac.Aa.As.length k3,oS B a.Ac.Aa.Ak.length y,oS M a.Ac.Ai.length I,.string a.Af.Bd,vi a.Af.Am,vi a.Af.Ar,vi a.Af.Aj,vi a.Af.Ap,oS N a.Av.length J,oS O a.Aq.length L,oS v C.length u,oS p t.length o,oS k s.length i,oS g x3.length d,oS f l.length c] 114,oW c2 (t:List Bool) [oS p t.length o],oW c3 (C:List qx) [oS v C.length u],oX P [vi 0,oS U 0 0,vi 0] 41]) n ⟨_,_,_,F,rfl,h⟩ Z ?_;rintro m2 _ _ ⟨S47,x7,i3,F,rfl,h⟩;rcases m2 with _|m2
 ·cases F
 refine X0 8 Z (qi Z F ?_ ?_)<;>intro F
 ·refine X0 4 Z (rA [] [] h Z fun _ h=>M0 7 [0,1,2] (h.p [] Z) Z ?_);obtain⟨y9,hy9,F⟩:=qc F;have he9:=qaO hy9;replace h:=h.lrn0 0 Z;obtain⟨_,o_6,_,_,hp9,hq9,-,hr41,hc15⟩:=(qe9 (h.lrnO 0 Z)).1.at hy9;have hr42:=hr41;obtain⟨p24,k24,rfl,_⟩:=qak hr41;replace h:=h.lrnAdd 0 Z hr42;refine Ax 3 15 hp9 hq9 ⟨he9.1,qC he9.2.1 (qe9 (h.lrnO 0 Z)).2⟩ (h.p [] Z) Z (M0 223 [4,6,7] (h.p [] Z) Z ?_);obtain⟨y10,_,F,he10,_,_,_,_,hp10,hq10,hr43,hc16⟩:=(qe9 (h.lrnO 0 Z)).1.ix F;have hr44:=hr43;obtain⟨p25,k25,rfl,_⟩:=qak hr43;replace h:=h.lrnAdd 0 Z hr44;refine Ax 8 479 hp10 hq10 ⟨he10.1,qC he10.2.1 (qe9 (h.lrnO 0 Z)).2⟩ (h.p [] Z) Z (M0 3039 [9,11] (h.p [] Z) Z ?_);obtain⟨⟨b8,r14⟩,hr45,F⟩:=qc F;refine qlc (fun e w'=>e=[(12,oS b7 Y.length b6),(13,vi i3),(14,vi b8),(2,vi W),(7,vp P),(9,vp X)]/\SH w w' [Ch.lrn S47 (x7:List qg) [oS b7 Y.length b6] [fct (y10:qg) (qbK y10 p25 k25),fct (y9:qg) (qbK y9 p24 k24)],oW b9 (l:List qe) [oS f l.length c],oW c0 (x3:List qe) [oS g x3.length d],oW c1 (s:List Bool) [oS k s.length i],oX X [oS R a.Ac.Au.Ay.length Q,oS H a.Ac.Aa.Ab.length D,oS z a.Ac.Aa.As.length k3,oS B a.Ac.Aa.Ak.length y,oS M a.Ac.Ai.length I,.string a.Af.Bd,vi a.Af.Am,vi a.Af.Ar,vi a.Af.Aj,vi a.Af.Ap,oS N a.Av.length J,oS O a.Aq.length L,oS v C.length u,oS p t.length o,oS k s.length i,oS g x3.length d,oS f l.length c] 114,oW c2 (t:List Bool) [oS p t.length o],oW c3 (C:List qx) [oS v C.length u],oX P [vi 0,oS U 0 0,vi 0] 41]) 0 (bits 18 262143) ?_ ?_
  ·intro K;refine At 5 10 3071 4063 Z ?_ ?_
   ·refine zc 0 hc15 Z (Ag (h.p [] Z) (Ao 10 4095 Z (zc 1 hc16 Z (Ag (h.p [] Z) (Ao 12 8191 Z (qaS (b8,r14) h (cB 60 Z) (qjE (qf8 (x:=(⟨(⟨(⟨(⟨a.Ac.Au.Ay⟩:qp),(⟨a.Ac.Aa.Ab,a.Ac.Aa.As,a.Ac.Aa.Ak⟩:qd),a.Ac.Ai⟩:qh),(⟨a.Af.Bd,a.Af.Am,a.Af.Ar,a.Af.Aj,a.Af.Ap⟩:qu),a.Av,a.Aq⟩:qay),C,t,(⟨s,x3,l⟩:qr)⟩:Tl20Work)) 4 h Z (show GoT.R _ _ ((⟨(⟨(⟨(⟨a.Ac.Au.Ay⟩:qp),(⟨a.Ac.Aa.Ab,a.Ac.Aa.As,a.Ac.Aa.Ak⟩:qd),a.Ac.Ai⟩:qh),(⟨a.Af.Bd,a.Af.Am,a.Af.Ar,a.Af.Aj,a.Af.Ap⟩:qu),a.Av,a.Aq⟩:qay),C,t,(⟨s,x3,l⟩:qr)⟩:Tl20Work):Tl20Work) _ from⟨[oS R a.Ac.Au.Ay.length Q,oS H a.Ac.Aa.Ab.length D,oS z a.Ac.Aa.As.length k3,oS B a.Ac.Aa.Ak.length y,oS M a.Ac.Ai.length I,.string a.Af.Bd,vi a.Af.Am,vi a.Af.Ar,vi a.Af.Aj,vi a.Af.Ap,oS N a.Av.length J,oS O a.Aq.length L],[oS v C.length u,oS p t.length o,oS k s.length i,oS g x3.length d,oS f l.length c],rfl,⟨[oS R a.Ac.Au.Ay.length Q,oS H a.Ac.Aa.Ab.length D,oS z a.Ac.Aa.As.length k3,oS B a.Ac.Aa.Ak.length y,oS M a.Ac.Ai.length I],[.string a.Af.Bd,vi a.Af.Am,vi a.Af.Ar,vi a.Af.Aj,vi a.Af.Ap,oS N a.Av.length J,oS O a.Aq.length L],rfl,⟨[oS R a.Ac.Au.Ay.length Q],[oS H a.Ac.Aa.Ab.length D,oS z a.Ac.Aa.As.length k3,oS B a.Ac.Aa.Ak.length y,oS M a.Ac.Ai.length I],rfl,⟨_,_,rfl,(h.oldS (s1.mono hg.old))⟩,⟨[oS H a.Ac.Aa.Ab.length D,oS z a.Ac.Aa.As.length k3,oS B a.Ac.Aa.Ak.length y],[oS M a.Ac.Ai.length I],rfl,⟨[oS H a.Ac.Aa.Ab.length D],[oS z a.Ac.Aa.As.length k3,oS B a.Ac.Aa.Ak.length y],rfl,⟨_,_,rfl,(h.oldS (s2.mono hg.old))⟩,⟨[oS z a.Ac.Aa.As.length k3],[oS B a.Ac.Aa.Ak.length y],rfl,⟨_,_,rfl,(h.oldS (s3.mono hg.old))⟩,⟨_,_,rfl,(h.oldS (s4.mono hg.old))⟩⟩⟩,⟨_,_,rfl,(h.oldS (s5.mono hg.old))⟩⟩⟩,⟨[.string a.Af.Bd,vi a.Af.Am,vi a.Af.Ar,vi a.Af.Aj,vi a.Af.Ap],[oS N a.Av.length J,oS O a.Aq.length L],rfl,⟨[.string a.Af.Bd],[vi a.Af.Am,vi a.Af.Ar,vi a.Af.Aj,vi a.Af.Ap],rfl,rfl,⟨[vi a.Af.Am],[vi a.Af.Ar,vi a.Af.Aj,vi a.Af.Ap],rfl,rfl,⟨[vi a.Af.Ar],[vi a.Af.Aj,vi a.Af.Ap],rfl,rfl,⟨[vi a.Af.Aj],[vi a.Af.Ap],rfl,rfl,rfl⟩⟩⟩⟩,⟨[oS N a.Av.length J],[oS O a.Aq.length L],rfl,⟨_,_,rfl,(h.oldS (s6.mono hg.old))⟩,⟨_,_,rfl,(h.oldS (s7.mono hg.old))⟩⟩⟩⟩,⟨[oS v C.length u],[oS p t.length o,oS k s.length i,oS g x3.length d,oS f l.length c],rfl,(h.own 6 Z),⟨[oS p t.length o],[oS k s.length i,oS g x3.length d,oS f l.length c],rfl,(h.own 5 Z),⟨[oS k s.length i],[oS g x3.length d,oS f l.length c],rfl,(h.own 3 Z),⟨[oS g x3.length d],[oS f l.length c],rfl,(h.own 2 Z),(h.own 1 Z)⟩⟩⟩⟩⟩)) ⟨_,_,rfl,(qj5 (GoT.mono (h.lrnS 0 0 Z Z) (h.lrnB 0 Z))).1⟩ hr45) Z Z Z Z fun w51 S75 us29 b4 a6=>?_))))));obtain⟨S76,us30,rfl,b5,a7⟩:=b4.consI a6;obtain⟨rfl,h⟩:=b5.lastI a7;exact G0 262143 [13,14,15,16,17] (h.p [] Z) Z (qrx [(12,_),(13,_),(14,_),(2,_),(7,_),(9,_)] ⟨rfl,rfl,rfl,rfl,rfl,rfl,G⟩ (K _ _ ⟨rfl,h⟩))
   refine zc 1 hc16 Z (Ag (h.p [] Z) (Ao 5 4095 Z (zc 0 hc15 Z (Ag (h.p [] Z) (Ao 12 8191 Z (qaS (b8,r14) h (cB 60 Z) (qjE (qf8 (x:=(⟨(⟨(⟨(⟨a.Ac.Au.Ay⟩:qp),(⟨a.Ac.Aa.Ab,a.Ac.Aa.As,a.Ac.Aa.Ak⟩:qd),a.Ac.Ai⟩:qh),(⟨a.Af.Bd,a.Af.Am,a.Af.Ar,a.Af.Aj,a.Af.Ap⟩:qu),a.Av,a.Aq⟩:qay),C,t,(⟨s,x3,l⟩:qr)⟩:Tl20Work)) 4 h Z (show GoT.R _ _ ((⟨(⟨(⟨(⟨a.Ac.Au.Ay⟩:qp),(⟨a.Ac.Aa.Ab,a.Ac.Aa.As,a.Ac.Aa.Ak⟩:qd),a.Ac.Ai⟩:qh),(⟨a.Af.Bd,a.Af.Am,a.Af.Ar,a.Af.Aj,a.Af.Ap⟩:qu),a.Av,a.Aq⟩:qay),C,t,(⟨s,x3,l⟩:qr)⟩:Tl20Work):Tl20Work) _ from⟨[oS R a.Ac.Au.Ay.length Q,oS H a.Ac.Aa.Ab.length D,oS z a.Ac.Aa.As.length k3,oS B a.Ac.Aa.Ak.length y,oS M a.Ac.Ai.length I,.string a.Af.Bd,vi a.Af.Am,vi a.Af.Ar,vi a.Af.Aj,vi a.Af.Ap,oS N a.Av.length J,oS O a.Aq.length L],[oS v C.length u,oS p t.length o,oS k s.length i,oS g x3.length d,oS f l.length c],rfl,⟨[oS R a.Ac.Au.Ay.length Q,oS H a.Ac.Aa.Ab.length D,oS z a.Ac.Aa.As.length k3,oS B a.Ac.Aa.Ak.length y,oS M a.Ac.Ai.length I],[.string a.Af.Bd,vi a.Af.Am,vi a.Af.Ar,vi a.Af.Aj,vi a.Af.Ap,oS N a.Av.length J,oS O a.Aq.length L],rfl,⟨[oS R a.Ac.Au.Ay.length Q],[oS H a.Ac.Aa.Ab.length D,oS z a.Ac.Aa.As.length k3,oS B a.Ac.Aa.Ak.length y,oS M a.Ac.Ai.length I],rfl,⟨_,_,rfl,(h.oldS (s1.mono hg.old))⟩,⟨[oS H a.Ac.Aa.Ab.length D,oS z a.Ac.Aa.As.length k3,oS B a.Ac.Aa.Ak.length y],[oS M a.Ac.Ai.length I],rfl,⟨[oS H a.Ac.Aa.Ab.length D],[oS z a.Ac.Aa.As.length k3,oS B a.Ac.Aa.Ak.length y],rfl,⟨_,_,rfl,(h.oldS (s2.mono hg.old))⟩,⟨[oS z a.Ac.Aa.As.length k3],[oS B a.Ac.Aa.Ak.length y],rfl,⟨_,_,rfl,(h.oldS (s3.mono hg.old))⟩,⟨_,_,rfl,(h.oldS (s4.mono hg.old))⟩⟩⟩,⟨_,_,rfl,(h.oldS (s5.mono hg.old))⟩⟩⟩,⟨[.string a.Af.Bd,vi a.Af.Am,vi a.Af.Ar,vi a.Af.Aj,vi a.Af.Ap],[oS N a.Av.length J,oS O a.Aq.length L],rfl,⟨[.string a.Af.Bd],[vi a.Af.Am,vi a.Af.Ar,vi a.Af.Aj,vi a.Af.Ap],rfl,rfl,⟨[vi a.Af.Am],[vi a.Af.Ar,vi a.Af.Aj,vi a.Af.Ap],rfl,rfl,⟨[vi a.Af.Ar],[vi a.Af.Aj,vi a.Af.Ap],rfl,rfl,⟨[vi a.Af.Aj],[vi a.Af.Ap],rfl,rfl,rfl⟩⟩⟩⟩,⟨[oS N a.Av.length J],[oS O a.Aq.length L],rfl,⟨_,_,rfl,(h.oldS (s6.mono hg.old))⟩,⟨_,_,rfl,(h.oldS (s7.mono hg.old))⟩⟩⟩⟩,⟨[oS v C.length u],[oS p t.length o,oS k s.length i,oS g x3.length d,oS f l.length c],rfl,(h.own 6 Z),⟨[oS p t.length o],[oS k s.length i,oS g x3.length d,oS f l.length c],rfl,(h.own 5 Z),⟨[oS k s.length i],[oS g x3.length d,oS f l.length c],rfl,(h.own 3 Z),⟨[oS g x3.length d],[oS f l.length c],rfl,(h.own 2 Z),(h.own 1 Z)⟩⟩⟩⟩⟩)) ⟨_,_,rfl,(qj5 (GoT.mono (h.lrnS 0 0 Z Z) (h.lrnB 0 Z))).1⟩ hr45) Z Z Z Z fun w51 S75 us29 b4 a6=>?_))))));obtain⟨S76,us30,rfl,b5,a7⟩:=b4.consI a6;obtain⟨rfl,h⟩:=b5.lastI a7;exact G0 262143 [13,14,15,16,17] (h.p [] Z) Z (qrx [(12,_),(13,_),(14,_),(2,_),(7,_),(9,_)] ⟨rfl,rfl,rfl,rfl,rfl,rfl,G⟩ (K _ _ ⟨rfl,h⟩))
  rintro _ _ ⟨rfl,h⟩;refine Ad (X0 4 Z ?_);obtain⟨a3,hy13,F⟩:=qc F;have he13:=qaO hy13;replace h:=h.unlrn 0 Z;obtain⟨_,S79,_,h⟩:=h.take hy13;obtain⟨p28,k28,rfl,-⟩:=qak (h.own 0 Z);obtain⟨S80,h⟩:=qkx h;obtain⟨_,hp13,-,-,hl12⟩:=h.holeAt 1 Z;obtain⟨q13,hq13⟩:∃q,q=0+(i3).toNat*GoT.k qg:=⟨_,rfl⟩;refine zx hp13 hq13 ⟨he13.1,qC he13.2.1 hl12⟩ Z (zp1 Z (qfN qa 1 2 h Z hp13 hq13 Z Z Z Z Z Z fun _ h=>?_));replace h:SH _ _ [oW S80 (a3.Bf:List Int) [oS p28 a3.Bf.length k28],Ch.hole S79 (x7:List qg) b7 Y.length b6 (i3).toNat [vi a3.Bl,oS p28 a3.Bf.length k28,vi b8],oW b9 (l:List qe) [oS f l.length c],oW c0 (x3:List qe) [oS g x3.length d],oW c1 (s:List Bool) [oS k s.length i],oX X [oS R a.Ac.Au.Ay.length Q,oS H a.Ac.Aa.Ab.length D,oS z a.Ac.Aa.As.length k3,oS B a.Ac.Aa.Ak.length y,oS M a.Ac.Ai.length I,.string a.Af.Bd,vi a.Af.Am,vi a.Af.Ar,vi a.Af.Aj,vi a.Af.Ap,oS N a.Av.length J,oS O a.Aq.length L,oS v C.length u,oS p t.length o,oS k s.length i,oS g x3.length d,oS f l.length c] 114,oW c2 (t:List Bool) [oS p t.length o],oW c3 (C:List qx) [oS v C.length u],oX P [vi 0,oS U 0 0,vi 0] 41]:=h;refine X0 7 Z ?_;obtain⟨_,h⟩:=h.gather [1,2,3,4,5,6,7,8] (qg2 (⟨a3.Bl,a3.Bf,b8⟩:qg) h (qv (S:=fun _=>False) Z) (qab 0 h Z) (qv (S:=fun _=>False) Z) (by rfl) (by rfl)) Z;replace h:=h.put;obtain⟨_,h⟩:=qnr (S:=_) h;exact rK ⟨_,_,_,F,rfl,h⟩ Z
 refine qt Z ?_;obtain rfl:=qb F;replace F:=hK2;refine qZ (rA [] [] h Z fun _ h=>M0 7 [0,1,2] (h.p [] Z) Z (Ao 3 15 Z ?_));obtain⟨r15,hr67,F⟩:=qc F;refine qsu r15 0 hg h Z (cB 61 Z) (qmt (hg.atPo 0 h Z) (h.ownG 0 Z) hr67) Z Z Z Z fun _ _ _ h hv52=>?_;obtain⟨_,rfl,hr68⟩:=qj1 hv52;have hr69:=hr68;obtain⟨_,_,rfl,_⟩:=hr68;replace h:=h.grpAdd 0 Z hr69;refine Ag (h.p [] Z) ?_;obtain⟨T,_,F,he14,_,_,_,_,hp14,hq14,hr70,hc17⟩:=(qe9 (h.grpS 0 0 Z Z)).1.ix F;have hr71:=hr70;obtain⟨c7,c5,rfl,_⟩:=qak hr70;replace h:=h.grpAdd 0 Z hr71;refine Ax 4 31 hp14 hq14 ⟨he14.1,qC he14.2.1 (qe9 (h.grpS 0 1 Z Z)).2⟩ (h.p [] Z) Z (M0 95 [6] (h.p [] Z) Z (Ao 5 127 Z (zc 0 hc17 Z (Ag (h.p [] Z) (Ao 7 255 Z (zs 7 h Z fun _ h=>G0 511 [8] (h.p [] Z) Z (Ad ?_)))))));obtain rfl:=qb F;have hv53:GoRs.Rs (ρ:=((Option Tl20Work)×qg×Int)) h.wc (reg A w h.wc) ((V (⟨(⟨(⟨(⟨a.Ac.Au.Ay⟩:qp),(⟨a.Ac.Aa.Ab,a.Ac.Aa.As,a.Ac.Aa.Ak⟩:qd),a.Ac.Ai⟩:qh),(⟨a.Af.Bd,a.Af.Am,a.Af.Ar,a.Af.Aj,a.Af.Ap⟩:qu),a.Av,a.Aq⟩:qay),C,t,(⟨s,x3,l⟩:qr)⟩:Tl20Work)),T,0) [oV (Option Tl20Work) [vp X],oV qg (qbK T c7 c5),oV Int [vi 0]]:=⟨_,_,rfl,(hg.outR h (Rg.boxR (x:=(⟨(⟨(⟨(⟨a.Ac.Au.Ay⟩:qp),(⟨a.Ac.Aa.Ab,a.Ac.Aa.As,a.Ac.Aa.Ak⟩:qd),a.Ac.Ai⟩:qh),(⟨a.Af.Bd,a.Af.Am,a.Af.Ar,a.Af.Aj,a.Af.Ap⟩:qu),a.Av,a.Aq⟩:qay),C,t,(⟨s,x3,l⟩:qr)⟩:Tl20Work)) 4 h Z (show GoT.R _ _ ((⟨(⟨(⟨(⟨a.Ac.Au.Ay⟩:qp),(⟨a.Ac.Aa.Ab,a.Ac.Aa.As,a.Ac.Aa.Ak⟩:qd),a.Ac.Ai⟩:qh),(⟨a.Af.Bd,a.Af.Am,a.Af.Ar,a.Af.Aj,a.Af.Ap⟩:qu),a.Av,a.Aq⟩:qay),C,t,(⟨s,x3,l⟩:qr)⟩:Tl20Work):Tl20Work) _ from⟨[oS R a.Ac.Au.Ay.length Q,oS H a.Ac.Aa.Ab.length D,oS z a.Ac.Aa.As.length k3,oS B a.Ac.Aa.Ak.length y,oS M a.Ac.Ai.length I,.string a.Af.Bd,vi a.Af.Am,vi a.Af.Ar,vi a.Af.Aj,vi a.Af.Ap,oS N a.Av.length J,oS O a.Aq.length L],[oS v C.length u,oS p t.length o,oS k s.length i,oS g x3.length d,oS f l.length c],rfl,⟨[oS R a.Ac.Au.Ay.length Q,oS H a.Ac.Aa.Ab.length D,oS z a.Ac.Aa.As.length k3,oS B a.Ac.Aa.Ak.length y,oS M a.Ac.Ai.length I],[.string a.Af.Bd,vi a.Af.Am,vi a.Af.Ar,vi a.Af.Aj,vi a.Af.Ap,oS N a.Av.length J,oS O a.Aq.length L],rfl,⟨[oS R a.Ac.Au.Ay.length Q],[oS H a.Ac.Aa.Ab.length D,oS z a.Ac.Aa.As.length k3,oS B a.Ac.Aa.Ak.length y,oS M a.Ac.Ai.length I],rfl,⟨_,_,rfl,(hg.inS h s1)⟩,⟨[oS H a.Ac.Aa.Ab.length D,oS z a.Ac.Aa.As.length k3,oS B a.Ac.Aa.Ak.length y],[oS M a.Ac.Ai.length I],rfl,⟨[oS H a.Ac.Aa.Ab.length D],[oS z a.Ac.Aa.As.length k3,oS B a.Ac.Aa.Ak.length y],rfl,⟨_,_,rfl,(hg.inS h s2)⟩,⟨[oS z a.Ac.Aa.As.length k3],[oS B a.Ac.Aa.Ak.length y],rfl,⟨_,_,rfl,(hg.inS h s3)⟩,⟨_,_,rfl,(hg.inS h s4)⟩⟩⟩,⟨_,_,rfl,(hg.inS h s5)⟩⟩⟩,⟨[.string a.Af.Bd,vi a.Af.Am,vi a.Af.Ar,vi a.Af.Aj,vi a.Af.Ap],[oS N a.Av.length J,oS O a.Aq.length L],rfl,⟨[.string a.Af.Bd],[vi a.Af.Am,vi a.Af.Ar,vi a.Af.Aj,vi a.Af.Ap],rfl,rfl,⟨[vi a.Af.Am],[vi a.Af.Ar,vi a.Af.Aj,vi a.Af.Ap],rfl,rfl,⟨[vi a.Af.Ar],[vi a.Af.Aj,vi a.Af.Ap],rfl,rfl,⟨[vi a.Af.Aj],[vi a.Af.Ap],rfl,rfl,rfl⟩⟩⟩⟩,⟨[oS N a.Av.length J],[oS O a.Aq.length L],rfl,⟨_,_,rfl,(hg.inS h s6)⟩,⟨_,_,rfl,(hg.inS h s7)⟩⟩⟩⟩,⟨[oS v C.length u],[oS p t.length o,oS k s.length i,oS g x3.length d,oS f l.length c],rfl,(Rg.ownR 6 h Z),⟨[oS p t.length o],[oS k s.length i,oS g x3.length d,oS f l.length c],rfl,(Rg.ownR 5 h Z),⟨[oS k s.length i],[oS g x3.length d,oS f l.length c],rfl,(Rg.ownR 3 h Z),⟨[oS g x3.length d],[oS f l.length c],rfl,(Rg.ownR 2 h Z),(Rg.ownR 1 h Z)⟩⟩⟩⟩⟩))),⟨_,_,rfl,(hg.outR h (⟨[vi T.Bl],[oS c7 T.Bf.length c5,vi T.Ah],rfl,rfl,⟨[oS c7 T.Bf.length c5],[vi T.Ah],rfl,⟨_,_,rfl,(qj5 (Rg.grpR 0 0 h Z Z)).1⟩,rfl⟩⟩)),⟨_,rfl,rfl⟩⟩⟩;have hk2:=h;replace h:=h.p [1,2,3,4,5,6,7] Z;exact qdE qa (ρ:=((Option Tl20Work)×qg×Int)) (r:=((V (⟨(⟨(⟨(⟨a.Ac.Au.Ay⟩:qp),(⟨a.Ac.Aa.Ab,a.Ac.Aa.As,a.Ac.Aa.Ak⟩:qd),a.Ac.Ai⟩:qh),(⟨a.Af.Bd,a.Af.Am,a.Af.Ar,a.Af.Aj,a.Af.Ap⟩:qu),a.Av,a.Aq⟩:qay),C,t,(⟨s,x3,l⟩:qr)⟩:Tl20Work)),T,0)) [oV (Option Tl20Work) [vp X],oV qg (qbK T c7 c5),oV Int [vi 0]] h ⟨rfl,⟨_,_,_,rfl,rfl,hk2.box 7 Z,rfl⟩,rfl,G⟩ hv53
def qhy(n:Nat)(j:qay)(node:Int)(mode:Int):Option (qg×Int):=(qg9 n j node mode).bind fun(_,a,r4)=>V (a,r4)
theorem qo2{A}(B:∀b,A b->old w b){j:qay}{node mode}(a:GoT.R w A j cs1){r:(qg×Int)}(F:qhy n j node mode=V r):RetG prog 7 [oV qay cs1,vi node,vi mode] w A r:=by
 obtain⟨_,_,_,_,_,_,_,_,_,_,_,_,_,_,rfl,_,_,_,_,_,_,_⟩:=qdj a;have z:=Rg.start B;refine qeE func7 Z (m:=21) Z Z (fun h=>?_);refine zSR (qw h Z Z fun _ _ h=>qq qa h Z Z Z fun _ _ h=>X1 7 1 h Z ?_);obtain⟨⟨y,f,r4⟩,i,F⟩:=qc F;refine qBm (y,f,r4) z h (cB 26 Z) (qq0 (z.atB h) (z.inBR h a) i) Z Z Z Z fun _ _ _ h o=>?_;obtain⟨_,_,rfl,k,p⟩:=qlx o;obtain⟨_,rfl,-⟩:=qaA k;obtain⟨_,_,rfl,c,s⟩:=qlx p;have l:=c;obtain⟨v,u,rfl,_⟩:=qak c;replace h:=h.grpAdd 0 Z l;obtain⟨_,rfl,d⟩:=qj1 s;have x:=d;obtain rfl:=d;refine zp4 Z (qq qa h Z Z Z fun _ _ h=>zp1 Z (zs 0 h Z fun _ h=>X1 6 0 h Z (zs 2 h Z fun _ h=>X0 2 Z ?_)));obtain rfl:=qb F;have t:GoRs.Rs (ρ:=(qg×Int)) h.wc (reg A w h.wc) (f,r4) [oV qg (qbK f v u),oV Int [vi r4]]:=⟨_,_,rfl,(z.outR h (Rg.grpR 1 0 h Z Z)),⟨_,rfl,rfl⟩⟩;have g:=h;replace h:=h.p [0,2,3] Z;exact qdE qa (ρ:=(qg×Int)) (r:=(f,r4)) [oV qg (qbK f v u),oV Int [vi r4]] h ⟨⟨_,_,_,rfl,rfl,g.box 2 Z,rfl⟩,rfl,G⟩ t
def qbF(f:(Option Twork))(mode:Int)(a:(List qg)):Nat->(List qg)->Int->Option ((List qg)×Int)|0,_,_=>U|n+1,x1,i1=>bif decide (i1<(a.length:Int)) then(idx x1 i1).bind fun b=>(qfT n f b.Bl b.Bf mode).bind fun d=>(idx x1 i1).bind fun c=>qbF f mode a n (setS x1 i1 (⟨c.Bl,c.Bf,d⟩:qg)) (W64 (i1+1)) else V (x1,i1)
def qc7(n:Nat)(f:(Option Twork))(node:Int)(mode:Int):Option (qg×Int):=(qf5 n f node).bind fun c=>bif decide (c > 300) then V ((⟨0,[],0⟩:qg),3) else(qhq n f node).bind fun a=>bif ((a.length:Int)==0) then V ((⟨0,[],0⟩:qg),5) else(qbF f mode a n a 0).bind fun(x1,_)=>(sortP n x1 mode).bind fun d=>(idx d 0).bind fun b=>V ((⟨b.Bl,b.Bf,b.Ah⟩:qg),0)
theorem qmg{Y:(Option Twork)}{node mode}(x:Ro w Y cs1){r:(qg×Int)}(F:qc7 n Y node mode=V r):RetV prog 32 [oV (Option Twork) cs1,vi node,vi mode] w r:=by
 obtain⟨Q,rfl,K⟩:=qaA x;refine zV 48 func32 Z fun h=>zSR (qq qa h Z Z Z fun _ a h=>X0 7 Z (zcI h F (qnv (h.old K)) Z fun _ _ h F=>X0 2 Z (qi Z F ?_ ?_)))<;>intro F
 ·refine zSR (r_v (qH qa [] [] Z Z Z Z Z Z Z Z) Z (zs 0 h Z fun _ h=>X0 2 Z ?_));obtain rfl:=qb F;exact qac qa (ρ:=(qg×Int)) [oV qg [vi 0,oS U 0 0,vi 0],oV Int [vi 3]] h ⟨⟨_,_,_,rfl,rfl,h.box 0 Z,rfl⟩,rfl,G⟩ (PV.done h (qao h (qg2 (⟨0,[],0⟩:qg) h (qv (S:=fun _=>False) Z) qhl (qv (S:=fun _=>False) Z) (by rfl) (by rfl)) (qae (qv (S:=fun _=>False) Z)) (by rfl)))
 refine X0 5 Z (zcL h F (qom (h.old K)) Z fun t _ _ J I h F=>X0 9 Z (qi Z F ?_ ?_))<;>intro F
 ·refine zSR (r_v (qH qa [] [] Z Z Z Z Z Z Z Z) Z (zs 1 h Z fun _ h=>X0 2 Z ?_));obtain rfl:=qb F;exact qac qa (ρ:=(qg×Int)) [oV qg [vi 0,oS U 0 0,vi 0],oV Int [vi 5]] h ⟨⟨_,_,_,rfl,rfl,h.box 1 Z,rfl⟩,rfl,G⟩ (PV.done h (qao h (qg2 (⟨0,[],0⟩:qg) h (qv (S:=fun _=>False) Z) qhl (qv (S:=fun _=>False) Z) (by rfl) (by rfl)) (qae (qv (S:=fun _=>False) Z)) (by rfl)))
 refine X0 8 Z ?_;obtain⟨O,F,v⟩:=qc F;refine qm (rL (fun m e w'=>∃S2 x1 i1,qbF Y mode t m x1 i1=V O/\e=[(0,.pointer Q),(2,vi mode),(6,vp a),(8,oS J t.length I),(23,oS J t.length I),(24,vi (t.length:Int)),(25,vi i1)]/\SH w w' [oW S2 (x1:List qg) [oS J t.length I],oX a [vi 0,oS U 0 0,vi 0] 41]) n ⟨_,_,_,F,rfl,h⟩ Z ?_);rintro L _ _ ⟨S2,x1,i1,F,rfl,h⟩;rcases L with _|L
 ·cases F
 refine X0 5 Z (qi Z F ?_ ?_)<;>intro F
 ·refine X0 6 Z ?_;obtain⟨_,o,F⟩:=qc F;have b:=qaO o;replace h:=h.lrn0 0 Z;obtain⟨_,P,_,_,B,C,-,l,y⟩:=(qe9 (h.lrnO 0 Z)).1.at o;have D:=l;obtain⟨_,_,rfl,_⟩:=qak l;replace h:=h.lrnAdd 0 Z D;refine zx B C ⟨b.1,qC b.2.1 (qe9 (h.lrnO 0 Z)).2⟩ Z (zc 0 y Z (qq qa h Z Z Z fun _ _ h=>zp1 Z (zs 0 h Z fun _ h=>X2 10 0 0 h Z (zcI h F (qm2 (h.old K) ⟨_,_,rfl,(qj5 (GoT.mono (h.lrnS 1 0 Z Z) (h.lrnB 1 Z))).1⟩) Z fun T _ h F=>?_))));obtain⟨M,p,F⟩:=qc F;have c:=qaO p;replace h:=h.unlrn 1 Z;replace h:=h.p [1,0,2] Z;obtain⟨_,_,_,h⟩:=h.take p;obtain⟨_,_,rfl,-⟩:=qak (h.own 0 Z);obtain⟨_,h⟩:=qkx h;obtain⟨_,f,-,-,z⟩:=h.holeAt 1 Z;obtain⟨W,i⟩:∃q,q=0+(i1).toNat*GoT.k qg:=⟨_,rfl⟩;refine zx f i ⟨c.1,qC c.2.1 z⟩ Z (zp1 Z (qfN qa 1 2 h Z f i Z Z Z Z Z Z fun _ h=>X0 6 Z ?_));obtain⟨_,h⟩:=h.gather [1,2,3] (qg2 (⟨M.Bl,M.Bf,T⟩:qg) h (qv (S:=fun _=>False) Z) (qab 0 h Z) (qv (S:=fun _=>False) Z) (by rfl) (by rfl)) Z;replace h:=h.put;obtain⟨_,h⟩:=qnr (S:=_) h;replace h:=h.p [0,2] Z;exact rK ⟨_,_,_,F,rfl,h⟩ Z
 refine qt Z ?_;obtain rfl:=qb F;replace F:=v;refine X0 4 Z ?_;obtain⟨_,H,F⟩:=qc F;refine qmF (cB 51 Z) (qvz 0 h Z H) Z Z Z Z ?_;rintro _ ⟨_,h⟩;refine X0 4 Z ?_;obtain⟨u,s,F⟩:=qc F;have d:=qaO s;obtain⟨_,_,_,h⟩:=h.take s;obtain⟨R,N,rfl,-⟩:=qak (h.own 0 Z);obtain⟨_,h⟩:=qkx h;obtain⟨_,g,-,-,A⟩:=h.holeAt 1 Z;obtain⟨X,k⟩:∃q,q=0+(0:Int).toNat*GoT.k qg:=⟨_,rfl⟩;refine zx g k ⟨d.1,qC d.2.1 A⟩ Z (zc 0 (qcH h 1 Z g k) Z (zs 2 h Z fun _ h=>X0 2 Z ?_));replace h:=h.p [0,2] Z;obtain rfl:=qb F;exact qac qa (ρ:=(qg×Int)) [oV qg (qbK u R N),oV Int [vi 0]] h ⟨⟨_,_,_,rfl,rfl,h.box 1 Z,rfl⟩,rfl,G⟩ (PV.done h (qao h (qg2 (⟨u.Bl,u.Bf,u.Ah⟩:qg) h (qv (S:=fun _=>False) Z) (qab 0 h Z) (qv (S:=fun _=>False) Z) (by rfl) (by rfl)) (qae (qv (S:=fun _=>False) Z)) (by rfl)))
def qfE(n:Nat)(j:qay)(node:Int)(mode:Int):Option (qg×Int):=(qcD n j mode ([node]:List Int)).bind fun(b,a)=>bif (a != 0) then V ((⟨0,[],0⟩:qg),a) else(qc7 n b node mode).bind fun(c,d)=>V (c,d)
theorem qkT{j:qay}{node mode}(b:Ro w j cs1){r:(qg×Int)}(F:qfE n j node mode=V r):RetV prog 9 [oV qay cs1,vi node,vi mode] w r:=by
 obtain⟨_,_,_,_,_,_,_,_,_,_,_,_,_,_,rfl,_,_,_,_,_,_,_⟩:=qdj b;refine zV 28 func9 Z fun h=>zSR (qw h Z Z fun _ _ h=>qq qa h Z Z Z fun _ _ h=>X1 7 1 h Z (qG qa [.tmp 13] _ ([node]:List Int) h Z Z Z Z Z Z Z Z Z ⟨rfl,G⟩ Z fun _ _ _ h=>?_));have a:Rg (old w) w (old w) w:=.start (fun _ h=>h);obtain⟨⟨A,u⟩,g,F⟩:=qc F;refine qsu (A,u) 0 a h Z (cB 31 Z) (qrC (a.atPo 0 h Z) (a.inPo h b) (h.ownG 0 Z) g) Z Z Z Z fun _ _ _ h o=>?_;obtain⟨_,_,rfl,c,p⟩:=qlx o;have i:=c;obtain⟨_,rfl,_⟩:=qaA c;replace h:=h.grpAdd 0 Z i;obtain⟨_,rfl,d⟩:=qj1 p;have y:=d;obtain rfl:=d;refine X0 12 Z (qi Z F ?_ ?_)<;>intro F
 ·refine zSR (r_v (qH qa [] [] Z Z Z Z Z Z Z Z) Z (zp1 Z (zs 1 h Z fun _ h=>X0 2 Z ?_)));replace h:=h.p [1,2] Z;obtain rfl:=qb F;exact qac qa (ρ:=(qg×Int)) [oV qg [vi 0,oS U 0 0,vi 0],oV Int [vi u]] h ⟨⟨_,_,_,rfl,rfl,h.box 0 Z,rfl⟩,rfl,G⟩ (PV.done h (qao h (qg2 (⟨0,[],0⟩:qg) h (qv (S:=fun _=>False) Z) qhl (qv (S:=fun _=>False) Z) (by rfl) (by rfl)) (qae (qv (S:=fun _=>False) Z)) (by rfl)))
 refine X0 6 Z ?_;obtain⟨⟨v,x⟩,k,F⟩:=qc F;refine qaS (v,x) h (cB 32 Z) (qmg (h.grp 0 0 Z Z) k) Z Z Z Z fun _ _ _ s l=>?_;obtain⟨_,_,_,_,rfl,f,m⟩:=s.cons l;obtain⟨t,z,rfl,-⟩:=qak (f.sh.own 0 Z);obtain⟨rfl,h⟩:=f.lastI m;refine zp2 Z (zs 2 h Z fun _ h=>X0 2 Z ?_);replace h:=h.p [0,2,3] Z;obtain rfl:=qb F;exact qac qa (ρ:=(qg×Int)) [oV qg (qbK v t z),oV Int [vi x]] h ⟨⟨_,_,_,rfl,rfl,h.box 1 Z,rfl⟩,rfl,G⟩ (PV.done h (qao h (qab 0 h Z) (qae (qv (S:=fun _=>False) Z)) (by rfl)))
end Go.Fw


namespace Go.Fw
open Go
set_option maxRecDepth 100000
def swV(j:qay)(t:qr):Option Tl20Work:=V ⟨j,linksL j.Ac,lvJ j.Ac j.Av,t⟩
theorem qBg{j:qay}(h:qjT j) :
  (∃code:Int,code≠0/\Ev (fun n=>qcF n j) (U,code)/\∀mode nodes,Ev (fun n=>qcD n j mode nodes) (U,code)) \/
  ∃t R,WkOk j t R/\Ev (fun n=>qcF n j) (swV j t,0)/\∀mode nodes,nodes.length<=1048576->(mode=0\/mode=1) ->
   Ev (fun n=>qcD n j mode nodes) (bif nodes.all (fun x=>inI x 0 ((ndB j.Ac:Int)-1)) then(wkV j t R,0) else(U,4)):=by
 have c:=h.Av.len;unfold qcF qcD;rcases qxF h with⟨code,hne,hs,hi⟩|⟨t,R,hw,hs,hi⟩
 ·exact .inl ⟨code,hne,Ev.bind hs (Ev.tt (qjm hne) .done),fun mode nodes=>Ev.bind hi (Ev.tt (qjm hne) .done)⟩
 ·have a:=hw.tg.bl;have d:=qhU a;have g:=qaU (qQ (qar a));have l:=qj3 (ls:=linksL j.Ac) (br:=j.Av) d c;refine .inr ⟨t,R,hw,Ev.bind hs (Ev.ff Z (Ev.bind (qfO a) (Ev.bind l .done))),fun mode nodes k i=>Ev.bind hi (Ev.ff Z ?_)⟩;have f:=qoE (v:=viewV j.Ac) g;have e1:W64 (((2*(viewV j.Ac).places.length:Nat):Int)-1)=(ndB j.Ac:Int)-1:=by
   show W64 (((2*(places j.Ac.Aa).length:Nat):Int)-1)=_;rw[qM (by omega) (by omega)]
  unfold wkV grB;simp only[jd,f,e1];refine Ev.bind (qey k) ?_;cases nodes.all fun x=>inI x 0 ((ndB j.Ac:Int)-1)
  ·exact Ev.tt Z .done
  ·refine Ev.ff Z ?_;rcases i with rfl|rfl<;>exact Ev.bind (b:=true) (Ev.now Z) (Ev.ff Z .done)
theorem qnZ{j:qay}{t:qr}{node:Int}(h:j.Aq.length<=1048576):Ev (fun n=>qgw n (swV j t) node) ((srcV (srcO j.Aq node)).2,(srcV (srcO j.Aq node)).1):=by
 have g:Ev (fun n=>qdc (swV j t) node n 0) (match srcO j.Aq node with|some y=>.ret (y,true)|none=>.nxt (j.Aq.length:Int)):=by
  have c:∀d i,i+d=j.Aq.length->(j.Aq.take i).find? (fun s=>s.Bs==node)=U->Ev (fun n=>qdc (swV j t) node n (i:Int)) (match srcO j.Aq node with|some y=>.ret (y,true)|none=>.nxt (j.Aq.length:Int)):=by
   intro d
   induction d with
   |zero=>
    intro i hi b;obtain rfl:i=j.Aq.length:=by omega
    rw[jE] at b;unfold srcO;rw[b];refine Ev.succ ?_;simp only[qdc,swV,jd,qk (je _),cond_false];exact .done
   |succ d ih=>
    intro i hi b;have a:i<j.Aq.length:=by omega
    refine Ev.succ ?_;simp only[qdc,swV,jd,qj a,cond_true,qA a,wS i];cases hq:(gt j.Aq i).Bs==node
    ·refine ih (i+1) (by omega) ?_;rw[js a,List.find?_append,b,<-qcG a,List.find?_cons_of_neg (by simp[hq])]
     rfl
    ·have f:j.Aq.drop i=gt j.Aq i::j.Aq.drop (i+1):=by rw[qcG a];exact jz a
     have:srcO j.Aq node=V (gt j.Aq i):=by
      generalize gt j.Aq i=y at hq f;unfold srcO;rw[<-jX i j.Aq,List.find?_append,b,f,List.find?_cons_of_pos (by simpa using hq)]
      rfl
     rw[this];exact .done
  exact c j.Aq.length 0 (by omega) Z
 unfold qgw;refine Ev.bind g ?_;cases srcO j.Aq node<;>exact .done
def atP(ls:List qx)(start:Int)(path:List Int):Nat->Int
 |0=>start
 |j+1=>(gt ls (at0 path j).toNat).To
def okP(ls:List qx)(lv:List Bool)(start:Int)(path:List Int)(j:Nat):Bool:=
 inI (at0 path j) 0 ((ls.length:Int)-1)&&(gt lv (at0 path j).toNat&&((gt ls (at0 path j).toNat).Bm==atP ls start path j))
def pathB(j:qay)(start:Int)(path:List Int):Bool:=(srcV (srcO j.Aq start)).1&&allN (okP (linksL j.Ac) (lvJ j.Ac j.Av) start path) path.length
def endB(j:qay)(start:Int)(path:List Int):Int:=atP (linksL j.Ac) start path path.length
theorem inRange{x:Int}{m:Nat}(h:inI x 0 ((m:Int)-1)=true):0<=x/\x<(m:Int)/\x.toNat<m:=by rw[qbi] at h;omega

section
variable{L:Nat}{fr to:Nat->Int}{lv:Nat->Bool}{n:Nat}{R:List Nat}
theorem OrdOk.ne(h:OrdOk L fr to lv n R){i j:Nat}(a:i<j)(b:j<R.length):R[i]'(by omega)≠R[j]:=fun e=>
 (h.at b).2.1 (by rw[<-e,List.mem_iff_getElem];exact⟨i,by rw[jw];omega,by rw[Je]⟩)
theorem OrdOk.nodup(h:OrdOk L fr to lv n R):R.Nodup:=by
 unfold List.Nodup;rw[List.pairwise_iff_getElem];exact fun i j _ b a=>h.ne a b
theorem OrdOk.full(h:OrdOk L fr to lv n R)(g:R.length=n){k:Nat}(c:k<n):∃i,∃hi:i<R.length,R[i]=k:=by
 refine Classical.byContradiction fun b=>?_;have f:k∉R:=fun d=>b (List.mem_iff_getElem.1 d);have:=qqB (l:=k::R) (l':=List.range n) (List.nodup_cons.2 ⟨f,h.nodup⟩) (fun x a=>by
  rw[List.mem_range];rcases List.mem_cons.1 a with rfl|a
  ·exact c
  ·obtain⟨i,hi,rfl⟩:=List.mem_iff_getElem.1 a;exact(h.at hi).1)
 rw[jS,List.length_range] at this;omega
theorem OrdOk.later(h:OrdOk L fr to lv n R)(p:R.length=n){x a c:Nat}(s:x<L)(r:lv x=true)(m:fr x=(a:Int))(o:to x=(c:Int))(f:c<n){i:Nat}(hi:i<R.length)(b:R[i]=a):∃j,∃k:j<R.length,i<j/\R[j]=c:=by
 obtain⟨j,k,e⟩:=h.full p f;have l:=(h.at k).2.2;rw[e] at l;have:=ql7.1 l x s r o;rw[m,qiD,List.mem_iff_getElem] at this;obtain⟨t,g,d⟩:=this;rw[jw] at g;rw[Je] at d;refine⟨j,k,?_,e⟩;rcases Nat.lt_trichotomy i t with hh|hh|hh
 ·exact absurd (b.trans d.symm) (h.ne hh (by omega))
 ·omega
 ·exact absurd (d.trans b.symm) (h.ne hh hi)
end

def modeB(m:Int):Bool:=(m==0) || (m==1)
theorem qqc{m:Int}(h:modeB m=true):m=0\/m=1:=by unfold modeB at h;simpa using h
theorem qyL{n:Nat}{m:Int}:qmq n m=V (modeB m):=by
 unfold qmq modeB;cases m==0<;>rfl
theorem qsT{n:Nat}{m:Int}:qh5 n m=V (modeB m):=by
 unfold qh5 modeB;cases m==0<;>rfl
theorem qvZ{j:qay}{start:Int}{path:List Int}(a:pathB j start path=true){i:Nat}(hi:i<path.length):∃k:Nat,k<lkB j.Ac/\at0 path i=(k:Int):=by
 unfold pathB at a;rw[jf,qau] at a;have:=a.2 i hi;unfold okP at this;rw[jf] at this;obtain⟨b,_,c⟩:=inRange this.1;exact⟨(at0 path i).toNat,c,qgS b⟩
def ofS(m:Int)(s:qe):Int:=bif m==1 then s.Bg else s.Ba
theorem qw4{n:Nat}{m:Int}{s:qe}:qjk n s m=V (ofS m s):=by
 unfold qjk ofS;cases m==1<;>rfl
theorem qCs{n:Nat}{m:Int}{s:qe}(h:modeB m=true):qk6 n s m=V (ofS m s):=by
 rcases qqc h with rfl|rfl<;>rfl
section
variable{j:qay}{t:qr}{R:List Nat}{start:Int}{path:List Int}{f:Nat->qe->qe×qe}
end
def OwnOk(b:qh)(c:qu)(mode:Int)(d:Nat->Int->Int×Int):Prop:=∀k sl,k<(linksL b).length->0<=sl->sl<=1000000 ->
 (0<=(d k sl).2/\(d k sl).2<=1000000)/\Ev (fun n=>qca n b c (gt (linksL b) k) sl mode) (d k sl).1/\Ev (fun n=>qbo n (V (viewV b)) c (k:Int) sl mode) (d k sl).1 /\
 Ev (fun n=>qcB n b (gt (linksL b) k) sl mode) (d k sl).2/\Ev (fun n=>qaQ n (V (viewV b)) (k:Int) sl mode) (d k sl).2
theorem qB5{b:qh}{c:qu}(h:blockB b=true)(o:cornerB c=true){mode:Int}(t:modeB mode=true):∃d,OwnOk b c mode d:=by
 have f:∀x:Nat×Int,∃r:Int×Int,x.1<(linksL b).length->0<=x.2->x.2<=1000000 ->
   (0<=r.2/\r.2<=1000000)/\Ev (fun n=>qca n b c (gt (linksL b) x.1) x.2 mode) r.1/\Ev (fun n=>qbo n (V (viewV b)) c (x.1:Int) x.2 mode) r.1 /\
   Ev (fun n=>qcB n b (gt (linksL b) x.1) x.2 mode) r.2/\Ev (fun n=>qaQ n (V (viewV b)) (x.1:Int) x.2 mode) r.2:=by
  rintro⟨k,s⟩;by_cases g:k<(linksL b).length/\0<=s/\s<=1000000
  ·obtain⟨g,m,a⟩:=g;obtain⟨⟨d,v,y⟩,⟨u,z,A,B,C⟩⟩:=qsf (c:=c) [] h o g m a (qqc t);exact⟨(d,u),fun _ _ _=>⟨⟨z,A⟩,v,y,B,C⟩⟩
  ·exact⟨(0,0),fun a i l=>absurd ⟨a,i,l⟩ g⟩
 obtain⟨d,p⟩:=Classical.axiomOfChoice f;exact⟨fun k s=>d (k,s),fun k s a i l=>p (k,s) a i l⟩
def prS(d:Nat->Int->Int×Int)(s0:Int×Int)(path:List Int):Nat->Int×Int
 |0=>s0
 |i+1=>(W64 ((prS d s0 path i).1+(d (at0 path i).toNat (prS d s0 path i).2).1),(d (at0 path i).toNat (prS d s0 path i).2).2)
section
variable{j:qay}{t:qr}{R:List Nat}{start mode:Int}{path:List Int}{d:Nat->Int->Int×Int}
theorem qwf{xs:List qf}(d:SrcOk xs)(_hm:modeB mode=true):0<=ofS mode (srcV (srcO xs start)).2.Be/\ofS mode (srcV (srcO xs start)).2.Be<=1000000:=by
 cases hs:srcO xs start with
 |none=>unfold ofS srcV zSrc zSp;cases mode==1<;>(simp only[cond_true,cond_false];omega)
 |some y=>
  obtain⟨⟨a,b⟩,⟨c,e⟩⟩:=d.sl y (qna hs).2;unfold ofS srcV;cases mode==1<;>(simp only[cond_true,cond_false];omega)
theorem qvk(g:OwnOk j.Ac j.Af mode d){s0:Int×Int}(f:0<=s0.2/\s0.2<=1000000)(l:∀i,i<path.length->∃k:Nat,k<lkB j.Ac/\at0 path i=(k:Int)):∀i,i<=path.length->0<=(prS d s0 path i).2/\(prS d s0 path i).2<=1000000:=by
 intro i
 induction i with
 |zero=>exact fun _=>f
 |succ i ih=>
  intro hi;obtain⟨k,h,c⟩:=l i (by omega);obtain⟨a,b⟩:=ih (by omega);have:=(g k _ h a b).1;show 0<=(d (at0 path i).toNat (prS d s0 path i).2).2/\(d (at0 path i).toNat (prS d s0 path i).2).2<=1000000;rw[c,jr];exact this
def own0(j:qay)(start mode:Int):Int×Int:=(ofS mode (srcV (srcO j.Aq start)).2.Ah,ofS mode (srcV (srcO j.Aq start)).2.Be)
theorem qA6(h:qjT j)(u:WkOk j t R)(r:modeB mode=true)(f:OwnOk j.Ac j.Af mode d)(z:path.length<=1048576)(l:∀i,i<path.length->∃k:Nat,k<lkB j.Ac/\at0 path i=(k:Int)) :
  Ev (fun n=>qkJ n (swV j t) start path mode) (prS d (own0 j start mode) path path.length):=by
 have o:=qwf (start:=start) (qo9 h.Aq.len u.tg.sr) r;have a:=qvk (s0:=own0 j start mode) f o l;have p:=loopF (Lf:=fun n (s:Int×Int) i=>qgy (swV j t) path mode n s.1 s.2 i) (S:=fun i=>prS d (own0 j start mode) path i) (len:=path.length) (fin:=((prS d (own0 j start mode) path path.length).1,(prS d (own0 j start mode) path path.length).2,(path.length:Int)))
  (fun n=>by simp only[qgy,qk (je _),cond_false])
  (fun i hi X c=>by
   obtain⟨k,g,b⟩:=l i hi;obtain⟨s0,y⟩:=a i (by omega);obtain⟨_,v,_,x,_⟩:=f k _ g s0 y;have m:prS d (own0 j start mode) path (i+1)=(W64 ((prS d (own0 j start mode) path i).1+(d k (prS d (own0 j start mode) path i).2).1),(d k (prS d (own0 j start mode) path i).2).2):=by
    show(W64 _,_)=_;rw[b,jr]
   rw[m] at c;simp only[qgy,qj hi,cond_true,qat hi,jd,b,swV,qA g,wS i];exact Ev.bind v (Ev.bind x c))
 unfold qkJ;refine Ev.bind (qnZ h.Aq.len) ?_;simp only[qw4,jd];exact Ev.bind p .done
theorem qwF(h:qjT j)(x:WkOk j t R)(m:modeB mode=true)(l:OwnOk j.Ac j.Af mode d)(B:path.length<=1048575)(o:∀i,i<path.length->∃k:Nat,k<lkB j.Ac/\at0 path i=(k:Int)) :
  Ev (fun n=>qht n (wkV j t R) start path mode) (pre (fun i=>(prS d (own0 j start mode) path i).1) (path.length+1),(prS d (own0 j start mode) path path.length).2):=by
 have r:=qwf (start:=start) (qo9 h.Aq.len x.tg.sr) m;have a:=qvk (s0:=own0 j start mode) l r o;have u:=loopF (Lf:=fun n (s:List Int×Int×Int) i=>qcP path mode ⟨grB j.Ac j.Av,j,t,ints R⟩ n s.1 s.2.1 s.2.2 i) (S:=fun i=>(pre (fun i=>(prS d (own0 j start mode) path i).1) (i+1),prS d (own0 j start mode) path i)) (len:=path.length) (fin:=(pre (fun i=>(prS d (own0 j start mode) path i).1) (path.length+1),(prS d (own0 j start mode) path path.length).1,(prS d (own0 j start mode) path path.length).2,(path.length:Int)))
  (fun n=>by simp only[qcP,qk (je _),cond_false])
  (fun i hi X g=>by
   obtain⟨k,v,c⟩:=o i hi;obtain⟨s0,A⟩:=a i (by omega);obtain⟨_,_,y,_,z⟩:=l k _ v s0 A;have p:prS d (own0 j start mode) path (i+1)=(W64 ((prS d (own0 j start mode) path i).1+(d k (prS d (own0 j start mode) path i).2).1),(d k (prS d (own0 j start mode) path i).2).2):=by
    show(W64 _,_)=_;rw[c,jr]
   have b:appS (pre (fun i=>(prS d (own0 j start mode) path i).1) (i+1)) [(prS d (own0 j start mode) path (i+1)).1]=V (pre (fun i=>(prS d (own0 j start mode) path i).1) (i+1+1)):=qse (f:=fun i=>(prS d (own0 j start mode) path i).1) (by omega);rw[p] at g b;simp only[qcP,qj hi,cond_true,qat hi,jd,c,grB,wS i];refine Ev.bind y (Ev.bind z ?_);rw[b];exact g)
 unfold qht;show Ev (fun n=>(qdU n j.Aq start).bind _) _;refine Ev.bind (qqq h.Aq.len) ?_;simp only[qCs m,jd];exact Ev.bind u .done
theorem qyK(h:qjT j)(l:WkOk j t R)(b:modeB mode=true)(a:OwnOk j.Ac j.Af mode d)(c:path.length<=1048575)(g:∀i,i<path.length->∃k:Nat,k<lkB j.Ac/\at0 path i=(k:Int)) :
  Ev (fun n=>qfT n (wkV j t R) start path mode) (prS d (own0 j start mode) path path.length).1:=by
 unfold qfT;refine Ev.bind (qwF h l b a c g) ?_;simp only[qh0 (f:=fun i=>(prS d (own0 j start mode) path i).1) (show path.length<path.length+1 by omega)];exact .done
end

def mn6(x:Int):Int:=if x<1000000 then x else 1000000
theorem qB0{x:Int}:(if 1000000<x then 1000000 else x)=mn6 x:=by unfold mn6;split<;>split<;>omega
def ctS(ls:List qx)(lv:List Bool)(c:List Int)(node:Int)(a:Int)(j:Nat):Int:=(selN (toQ ls lv node) j).foldl (fun v k=>mn6 (W64 (v+gt c (frN ls k)))) a
theorem qsP{ls:List qx}{lv:List Bool}{c:List Int}{node a:Int}{j:Nat}:ctS ls lv c node a (j+1)=bif toQ ls lv node j then mn6 (W64 (ctS ls lv c node a j+gt c (frN ls j))) else ctS ls lv c node a j:=by
 unfold ctS;rw[qkc,List.foldl_append];cases toQ ls lv node j<;>rfl
theorem qwC{α:Type}{xs:List α}{k:Nat}{u v:α}:setS (setS xs (k:Int) u) (k:Int) v=setS xs (k:Int) v:=by
 unfold setS;rw[List.set_set]
def st0(j:qay)(node:Int):Int:=bif (srcV (srcO j.Aq node)).1 then 1 else 0
theorem qyo{ls:List qx}{lv:List Bool}{c c':List Int}{node a:Int}:∀j,(∀x,x<j->toQ ls lv node x=true->gt c (frN ls x)=gt c' (frN ls x))->ctS ls lv c node a j=ctS ls lv c' node a j:=by
 intro j
 induction j with
 |zero=>intro _;rfl
 |succ j ih=>
  intro h;rw[qsP,qsP,ih fun x b=>h x (by omega)];cases hq:toQ ls lv node j
  ·rfl
  ·simp only[cond_true];rw[h j (by omega) hq]
theorem qxx{j:qay}{t:qr}{R:List Nat}(h:qjT j)(Q:WkOk j t R):∃c:List Int,c.length=ndB j.Ac/\(∀k,k<ndB j.Ac->gt c k=ctS (linksL j.Ac) (lvJ j.Ac j.Av) c (k:Int) (st0 j (k:Int)) (lkB j.Ac)) /\
  ∀node,node<ndB j.Ac->Ev (fun n=>(qgf n (swV j t)).bind fun r4=>(idx r4 (node:Int)).bind fun y1=>V (y1,(0:Int))) (gt c node,0)/\Ev (fun n=>qf5 n (wkV j t R) (node:Int)) (gt c node):=by
 have h1:=Q.tg.bl;have W:=h.Aq.len;have u:=qgt h1;have hll:=u.len;have J:(lvJ j.Ac j.Av).length=lkB j.Ac:=qnS;have hpl:=qaU (qQ (qar h1));have H:=qkB h1;have A:=qoE (v:=viewV j.Ac) hpl;have epl:(viewV j.Ac).places.length=(places j.Ac.Aa).length:=rfl;rw[epl] at A;have hRl:=Q.tg.len;have B:=qui (lv:=lvJ j.Ac j.Av) u J;have eo:ordR (linksL j.Ac) (lvJ j.Ac j.Av) (2*(places j.Ac.Aa).length)=(ints R,true):=by unfold ordR;rw[show ordL (linksL j.Ac) (lvJ j.Ac j.Av) (2*(places j.Ac.Aa).length) (2*(places j.Ac.Aa).length) []=V R from Q.tg.or_]
 rw[eo] at B;have eM:ndB j.Ac=2*(places j.Ac.Aa).length:=rfl;have f:=Q.tg.ord;generalize hM0:ndB j.Ac=M at hRl eM⊢;rw[hM0] at f;rw[<-eM] at H A B;have hM:M<=156:=by omega
 have a4:∀d i c,i+d=R.length->c.length=M->(∀k,k<M->k∉R.take i->gt c k=0)->(∀k,k<M->k∈R.take i->gt c k=ctS (linksL j.Ac) (lvJ j.Ac j.Av) c (k:Int) (st0 j (k:Int)) (lkB j.Ac))->∃c':List Int,c'.length=M/\(∀k,k<M->k∈R->gt c' k=ctS (linksL j.Ac) (lvJ j.Ac j.Av) c' (k:Int) (st0 j (k:Int)) (lkB j.Ac)) /\
   Ev (fun n=>qea (swV j t) ⟨j,linksL j.Ac,lvJ j.Ac j.Av,t⟩ (ints R) n c (i:Int)) (c',(R.length:Int)) /\
   Ev (fun n=>qcd ⟨grB j.Ac j.Av,j,t,ints R⟩ ⟨V (viewV j.Ac),lvJ j.Ac j.Av⟩ n c (i:Int)) (c',(R.length:Int)):=by
  intro d
  induction d with
  |zero=>
   intro i c hi hc _ C;obtain rfl:i=R.length:=by omega
   rw[jE] at C;refine⟨c,hc,C,Ev.succ ?_,Ev.succ ?_⟩
   ·simp only[qea,qbZ,qk (je _),cond_false];exact .done
   ·simp only[qcd,qbZ,qk (je _),cond_false];exact .done
  |succ d ih=>
   intro i c hi hc hz C;have z:i<R.length:=by omega
   obtain⟨k1,k2,k3⟩:=Q.tg.ord.at z;rw[hM0] at k1;have I:=qmH z;have D:R.take (i+1)=R.take i++[R[i]]:=js z;generalize R[i]=k at k1 k2 k3 I D;have hS:=qnZ (j:=j) (t:=t) (node:=(k:Int)) W;have hI:=qqq (xs:=j.Aq) (node:=(k:Int)) W;have a3:=hz k k1 k2;have g:k<c.length:=by omega
   obtain⟨o,L⟩:∃o:Int,o=st0 j (k:Int):=⟨_,rfl⟩;have sL:Ev (fun n=>qcr ⟨j,linksL j.Ac,lvJ j.Ac j.Av,t⟩ c (k:Int) n o 0) (ctS (linksL j.Ac) (lvJ j.Ac j.Av) c (k:Int) o (lkB j.Ac),(lkB j.Ac:Int)):=by
    have:=loopF (Lf:=fun n s x=>qcr ⟨j,linksL j.Ac,lvJ j.Ac j.Av,t⟩ c (k:Int) n s x) (S:=ctS (linksL j.Ac) (lvJ j.Ac j.Av) c (k:Int) o) (len:=lkB j.Ac) (fin:=(ctS (linksL j.Ac) (lvJ j.Ac j.Av) c (k:Int) o (lkB j.Ac),(lkB j.Ac:Int)))
     (fun n=>by simp only[qcr,qk (je _),cond_false])
     (fun x m X r=>by
      obtain⟨e1,e2⟩:=qk3 u m;rw[<-eM] at e2;rw[qsP] at r;have F:x<(linksL j.Ac).length:=m;simp only[qcr,qj F,cond_true,qA F,qA (show x<(lvJ j.Ac j.Av).length by rw[J];exact m),jd,e1,qA (show frN (linksL j.Ac) x<c.length by omega),wS x];unfold toQ lvL toL at r;cases hv:gt (lvJ j.Ac j.Av) x
      ·rw[hv] at r;exact r
      ·rw[hv] at r;cases ht:(gt (linksL j.Ac) x).To==(k:Int)
       ·rw[ht] at r;exact r
       ·rw[ht] at r;exact r)
    exact this
   have nz:∀x,x∈selN (toQ (linksL j.Ac) (lvJ j.Ac j.Av) (k:Int)) (lkB j.Ac)->x<lkB j.Ac/\frN (linksL j.Ac) x≠k:=fun x m=>by
    obtain⟨x1,N⟩:=qfx.1 m;unfold toQ at N;rw[jf,beq_iff_eq] at N;have:=ql7.1 k3 x x1 N.1 N.2;obtain⟨e1,_⟩:=qk3 u x1;rw[show frL (linksL j.Ac) x=(frN (linksL j.Ac) x:Int) from e1,qiD] at this;exact⟨x1,fun e=>k2 (by rw[<-e];exact this)⟩
   have pL:Ev (fun n=>qbG ⟨V (viewV j.Ac),lvJ j.Ac j.Av⟩ (k:Int) (ints (selN (toQ (linksL j.Ac) (lvJ j.Ac j.Av) (k:Int)) (lkB j.Ac))) n (setS c (k:Int) o) 0) (setS c (k:Int) (ctS (linksL j.Ac) (lvJ j.Ac j.Av) c (k:Int) o (lkB j.Ac)),((ints (selN (toQ (linksL j.Ac) (lvJ j.Ac j.Av) (k:Int)) (lkB j.Ac))).length:Int)):=by
    have hsl:(selN (toQ (linksL j.Ac) (lvJ j.Ac j.Av) (k:Int)) (lkB j.Ac)).length<=10000:=Jb qnn hll;have:=(qt1 (τ:=Int) (xs:=selN (toQ (linksL j.Ac) (lvJ j.Ac j.Av) (k:Int)) (lkB j.Ac)) (Lf:=fun n v x=>qbG ⟨V (viewV j.Ac),lvJ j.Ac j.Av⟩ (k:Int) (ints (selN (toQ (linksL j.Ac) (lvJ j.Ac j.Av) (k:Int)) (lkB j.Ac))) n (setS c (k:Int) v) x)
     (step:=fun v x=>mn6 (W64 (v+gt c (frN (linksL j.Ac) x)))) (fin:=fun v=>(setS c (k:Int) v,((ints (selN (toQ (linksL j.Ac) (lvJ j.Ac j.Av) (k:Int)) (lkB j.Ac))).length:Int))) o (fun _ _=>True) trivial (fun _ _ _ _=>trivial)
     (fun n v=>by simp only[qbG,qbZ,qk (je _),cond_false])
     (fun x v m _ X r=>by
      have T:=qmH m;obtain⟨x1,N⟩:=nz _ (jp m);generalize (selN (toQ (linksL j.Ac) (lvJ j.Ac j.Av) (k:Int)) (lkB j.Ac))[x]=y at T x1 N r;obtain⟨e1,e2⟩:=qk3 u x1;rw[<-eM] at e2;have ev:(viewV j.Ac).links=linksL j.Ac:=rfl;have i1:idx (setS c (k:Int) v) (k:Int)=V v:=by rw[qA (by rw[qcK];exact g),qiP g,if_pos Z]
      have i2:idx (setS c (k:Int) v) (frN (linksL j.Ac) y:Int)=V (gt c (frN (linksL j.Ac) y)):=by rw[qA (by rw[qcK];omega),qiP g,if_neg N]
      simp only[qbG,qbZ,qj m,cond_true,T,jd,ev,qA x1,e1,i1,i2,qB0,qwC,wS x];exact r)).1
    exact this
   have a5:∀y,y<M->y∈R.take (i+1)->∀x,x<lkB j.Ac->toQ (linksL j.Ac) (lvJ j.Ac j.Av) (y:Int) x=true->gt c (frN (linksL j.Ac) x)=gt (setS c (k:Int) (ctS (linksL j.Ac) (lvJ j.Ac j.Av) c (k:Int) o (lkB j.Ac))) (frN (linksL j.Ac) x):=fun y Y a x m P=>by
    rw[qiP g,if_neg];rw[D,List.mem_append,List.mem_singleton] at a;rcases a with a|rfl
    ·intro e;obtain⟨p,hp,ep⟩:=List.mem_iff_getElem.1 a;rw[jw] at hp;rw[Je] at ep;have h0:=(f.at (j:=p) (by omega)).2.2;rw[ep] at h0;unfold toQ at P;rw[jf,beq_iff_eq] at P;have:=ql7.1 h0 x m P.1 P.2;obtain⟨e1,_⟩:=qk3 u m;rw[show frL (linksL j.Ac) x=(frN (linksL j.Ac) x:Int) from e1,qiD,e] at this;obtain⟨q,hq',eq⟩:=List.mem_iff_getElem.1 this;rw[jw] at hq';rw[Je] at eq;exact k2 (List.mem_iff_getElem.2 ⟨q,by rw[jw];omega,by rw[Je];exact eq⟩)
    ·exact(nz x (qfx.2 ⟨m,P⟩)).2
   have sR:=ih (i+1) (setS c (k:Int) (ctS (linksL j.Ac) (lvJ j.Ac j.Av) c (k:Int) o (lkB j.Ac))) (by omega) (by rw[qcK];exact hc) (fun y Y K=>by
     rw[D] at K;have hne:y≠k:=fun e=>K (jR _ (List.mem_singleton.2 e));rw[qiP g,if_neg hne];exact hz y Y fun a=>K (jJ _ a)) (fun y Y a=>by
     rw[<-qyo _ (a5 y Y a),qiP g];split
     ·next e=>rw[e,L]
     ·next e=>
      rw[D,List.mem_append,List.mem_singleton] at a;rcases a with a|a
      ·exact C y Y a
      ·exact absurd a e)
   obtain⟨c',l',d',s',p'⟩:=sR;have ic:idx c (k:Int)=V 0:=by rw[qA g,a3]
   refine⟨c',l',d',Ev.succ ?_,Ev.succ ?_⟩
   ·simp only[qea,qbZ,qj z,cond_true,I,jd,ic,wS i];refine Ev.bind hS (Ev.bind (b:=o) (Ev.now ?_) (Ev.bind sL s'));rw[L];unfold st0;cases (srcV (srcO j.Aq (k:Int))).1<;>rfl
   ·simp only[qcd,qbZ,qj z,cond_true,I,jd,ic,wS i];refine Ev.bind hI (Ev.bind (b:=setS c (k:Int) o) (Ev.now ?_) ?_)
    ·rw[L];unfold st0;cases (srcV (srcO j.Aq (k:Int))).1
     ·simp only[cond_false];rw[qpb g a3]
     ·rfl
    ·refine Ev.bind (qzP (b:=j.Ac) (lv:=lvJ j.Ac j.Av) (ps:=places j.Ac.Aa) (lo:=pre (load0 j.Ac) j.Ac.Ai.length) (de:=pre (exactL j.Ac) j.Ac.Ai.length) (ex:=[]) u J) (Ev.bind pL p')
 have O:mkS (M:Int) (0:Int)=V (List.replicate M 0):=qns (by omega);obtain⟨c',l',d',s',p'⟩:=a4 R.length 0 (List.replicate M 0) (by omega) jH (fun k u _=>by rw[qcG (by rw[jH];exact u)];simp) (fun k _ a=>by rw[List.take_zero] at a;cases a);refine⟨c',l',fun k u=>d' k u ?_,fun node hn=>⟨?_,?_⟩⟩
 ·refine Classical.byContradiction fun a=>?_;have A:R.Nodup:=by
   unfold List.Nodup;rw[List.pairwise_iff_getElem];exact fun i j' _ hj hij e=>(f.at hj).2.1 (by rw[<-e,List.mem_iff_getElem];exact⟨i,by rw[jw];omega,by rw[Je]⟩)
  have:=qqB (l:=k::R) (l':=List.range M) (List.nodup_cons.2 ⟨a,A⟩) (fun x m=>by
   rw[List.mem_range];rcases List.mem_cons.1 m with rfl|m
   ·exact u
   ·obtain⟨i,hi,rfl⟩:=List.mem_iff_getElem.1 m;exact(f.at hi).1)
  rw[jS,List.length_range] at this;omega
 ·have:Ev (fun n=>qgf n (swV j t)) c':=by
   unfold qgf;show Ev (fun n=>(qbQ n j.Ac).bind _) _;refine Ev.bind H ?_;rw[O];simp only[jd];exact Ev.bind H (Ev.bind B (Ev.bind s' .done))
  refine Ev.bind this ?_;rw[qA (by omega)];exact .done
 ·unfold qf5 wkV grB;simp only[A,jd,O];refine Ev.bind p' ?_;show Ev (fun n=>(idx c' (node:Int)).bind _) _;rw[qA (by omega)];exact .done

instance:Inhabited qg:=⟨⟨0,[],0⟩⟩
theorem qxw{α:Type}{Q:Nat->Prop}{f:Nat->Nat->Option α}{v:Nat->α}:∀m,(∀i,i<m->Q i->Ev (f i) (v i))->∃N,∀n,N<=n->∀i,i<m->Q i->f i n=V (v i)
 |0,_=>⟨0,fun _ _ _ h=>absurd h (Jn _)⟩
 |m+1,h=>by
  obtain⟨N,b⟩:=qxw m fun i hi=>h i (by omega);by_cases d:Q m
  ·obtain⟨M,g⟩:=h m (by omega) d;refine⟨max N M,fun n c i hi a=>?_⟩;by_cases e:i=m
   ·subst e;exact g n (by omega)
   ·exact b n (by omega) i (by omega) a
  ·refine⟨N,fun n c i hi a=>?_⟩;by_cases e:i=m
   ·subst e;exact absurd a d
   ·exact b n c i (by omega) a
abbrev selB(j:qay)(k:Nat):List Nat:=selN (toQ (linksL j.Ac) (lvJ j.Ac j.Av) (k:Int)) (lkB j.Ac)
def srcP(j:qay)(k:Nat):List qg:=bif (srcV (srcO j.Aq (k:Int))).1 then[⟨(k:Int),[],0⟩] else[]
def snocP(i:Nat)(p:qg):qg:=⟨p.Bl,p.Bf++[(i:Int)],0⟩
def tailP(tl:List Int)(p:qg):qg:=⟨p.Bl,p.Bf++tl.reverse,0⟩
def legP(t:qr)(f:Nat->List qg)(ls:List qx)(i:Nat):List qg:=bif gt t.Bb (frN ls i) then(f (frN ls i)).map (snocP i) else[]
def aP(j:qay)(t:qr):Nat->Nat->List qg
 |0,_=>[]
 |d+1,k=>srcP j k++(selB j k).flatMap (legP t (aP j t d) (linksL j.Ac))
theorem qqw{α β:Type}{xs:List α}{x:α}{f:α->List β}:(xs++[x]).flatMap f=xs.flatMap f++f x:=by simp
theorem qr4{α β:Type}{xs:List α}{f:α->List β}(j:Nat):((xs.take j).flatMap f).length<=(xs.flatMap f).length:=by
 have h:xs.flatMap f=(xs.take j).flatMap f++(xs.drop j).flatMap f:=by rw[<-Jl,jX]
 rw[h,jg];omega
theorem quZ{β:Type}{q:Nat->Bool}{m:Nat}{f:Nat->List β}{i:Nat}(hi:i<=m):((selN q i).flatMap f).length<=((selN q m).flatMap f).length:=by
 induction m with
 |zero=>
  obtain rfl:i=0:=by omega
  exact je _
 |succ m ih=>
  by_cases e:i=m+1
  ·subst e;exact je _
  ·have:=ih (by omega);rw[qkc,Jl,jg];omega
theorem qsD{j:qay}{t:qr}:∀d k p,p∈aP j t d k->p.Bf.length+1<=d
 |0,_,p,h=>by simp[aP] at h
 |d+1,k,p,h=>by
  simp only[aP,List.mem_append] at h;rcases h with h|h
  ·unfold srcP at h;cases hs:(srcV (srcO j.Aq (k:Int))).1<;>rw[hs] at h
   ·simp at h
   ·simp at h;subst h;simp
  ·obtain⟨x,_,a⟩:=List.mem_flatMap.1 h;unfold legP at a;cases hr:gt t.Bb (frN (linksL j.Ac) x)<;>rw[hr] at a
   ·simp at a
   ·simp only[cond_true] at a;obtain⟨c,b,rfl⟩:=List.mem_map.1 a;have:=qsD d _ c b;show(c.Bf++[(x:Int)]).length+1<=d+1;rw[jg,jm];omega
theorem qBl{i:Nat}{r4 x3:List qg}(h:r4.length<=1000000)(k:x3.length<=1000000)(d:∀p,p∈r4->p.Bf.length<=1000000):Ev (fun n=>qd3 (i:Int) r4 n x3 0) (x3++r4.map (snocP i),(r4.length:Int)):=by
 have:=loopF (Lf:=fun n s x=>qd3 (i:Int) r4 n s x) (S:=fun q=>x3++(r4.take q).map (snocP i)) (len:=r4.length) (fin:=(x3++r4.map (snocP i),(r4.length:Int)))
  (fun n=>by simp only[qd3,qk (je _),cond_false,jE])
  (fun q a X c=>by
   have f:gt r4 q∈r4:=by rw[qcG a];exact jp a
   have g:=d _ f;have e0:appS ([]:List Int) (gt r4 q).Bf=V (gt r4 q).Bf:=by rw[qbn (by rw[List.length_nil];omega),Jm]
   have e1:appS (gt r4 q).Bf [(i:Int)]=V ((gt r4 q).Bf++[(i:Int)]):=qbn (by rw[jm];omega);have b:appS (x3++(r4.take q).map (snocP i)) [(⟨(gt r4 q).Bl,(gt r4 q).Bf++[(i:Int)],0⟩:qg)]=V (x3++(r4.take (q+1)).map (snocP i)):=by
    rw[qbn (by rw[jg,ju,jw,jm];omega),js a,jL,<-jq,qcG a]
    rfl
   simp only[qd3,qj a,cond_true,qA a,jd,e0,e1,b,wS q];exact c)
 simpa using this
theorem qAW{j:qay}{t:qr}{k:Nat}{f:Nat->List qg}{x1:List qg}(J:blockB j.Ac=true)(S:TmOk t (ndB j.Ac))(B:x1.length+((selB j k).flatMap (legP t f (linksL j.Ac))).length<=1000000)(C:∀x,x∈selB j k->(f (frN (linksL j.Ac) x)).length<=1000000/\∀p,p∈f (frN (linksL j.Ac) x)->p.Bf.length<=1000000) :
  ∃N,∀n,N<=n->∀a:Option Tl20Work->Int->Option (List qg),(∀x,x∈selB j k->gt t.Bb (frN (linksL j.Ac) x)=true->a (swV j t) (frN (linksL j.Ac) x:Int)=V (f (frN (linksL j.Ac) x))) ->
   qbq a (swV j t) (k:Int) n x1 0=V (x1++(selB j k).flatMap (legP t f (linksL j.Ac)),(lkB j.Ac:Int)):=by
 have D:=qgt J;have O:=D.len;have u:(lvJ j.Ac j.Av).length=lkB j.Ac:=qnS;obtain⟨q,b⟩:∃q,q=toQ (linksL j.Ac) (lvJ j.Ac j.Av) (k:Int):=⟨_,rfl⟩;have h:=down (P:=fun i=>∃N,∀n,N<=n->∀a:Option Tl20Work->Int->Option (List qg),(∀x,x∈selB j k->gt t.Bb (frN (linksL j.Ac) x)=true->a (swV j t) (frN (linksL j.Ac) x:Int)=V (f (frN (linksL j.Ac) x))) ->
   qbq a (swV j t) (k:Int) n (x1++(selN q i).flatMap (legP t f (linksL j.Ac))) (i:Int)=V (x1++(selN q (lkB j.Ac)).flatMap (legP t f (linksL j.Ac)),(lkB j.Ac:Int))) (lkB j.Ac)
  ⟨1,fun n F a _=>by
   obtain⟨m,rfl⟩:∃m,n=m+1:=⟨n-1,by omega⟩;unfold swV;simp only[qbq,jd,qk (je _),cond_false]⟩
  (fun i hi T=>by
   obtain⟨N,A⟩:=T;obtain⟨e1,H⟩:=qk3 D hi;have s:idx t.Bb (frN (linksL j.Ac) i:Int)=V (gt t.Bb (frN (linksL j.Ac) i)):=qA (by rw[S.r];exact H);have g:=qkc (q:=q) (j:=i);have L:=quZ (q:=q) (f:=legP t f (linksL j.Ac)) (show i<=lkB j.Ac by omega);have r:i<(linksL j.Ac).length:=hi;have l:(selN q (i+1)).flatMap (legP t f (linksL j.Ac))=(selN q i).flatMap (legP t f (linksL j.Ac))->∀m a,N<=m->(∀x,x∈selB j k->gt t.Bb (frN (linksL j.Ac) x)=true->a (swV j t) (frN (linksL j.Ac) x:Int)=V (f (frN (linksL j.Ac) x))) ->
     qbq a (swV j t) (k:Int) m (x1++(selN q i).flatMap (legP t f (linksL j.Ac))) ((i+1:Nat):Int)=V (x1++(selN q (lkB j.Ac)).flatMap (legP t f (linksL j.Ac)),(lkB j.Ac:Int)):=fun e m a Q c=>by
    have:=A m Q a c;rw[e] at this;exact this
   have d:∀m a x,qbq a (swV j t) (k:Int) (m+1) x (i:Int) =
     (bif !(q i&&gt t.Bb (frN (linksL j.Ac) i)) then qbq a (swV j t) (k:Int) m x ((i+1:Nat):Int) else
      (a (swV j t) (frN (linksL j.Ac) i:Int)).bind fun r4=>(qd3 (i:Int) r4 m x 0).bind fun(x3,_)=>qbq a (swV j t) (k:Int) m x3 ((i+1:Nat):Int)):=fun m a x=>by
    rw[b];unfold toQ lvL toL;unfold swV;simp only[qbq,jd,qj r,cond_true,qA r,qA (show i<(lvJ j.Ac j.Av).length by rw[u];exact hi),e1,s,wS i];cases gt (lvJ j.Ac j.Av) i
    ·rfl
    ·simp only[Ji,cond_false,bne,jG];cases (gt (linksL j.Ac) i).To==(k:Int)
     ·rfl
     ·cases gt t.Bb (frN (linksL j.Ac) i)<;>rfl
   cases hqi:q i&&gt t.Bb (frN (linksL j.Ac) i)
   ·refine⟨N+1,fun n F a c=>?_⟩;obtain⟨m,rfl⟩:∃m,n=m+1:=⟨n-1,by omega⟩;rw[d,hqi];refine l ?_ m a (by omega) c;rw[g,Jl];cases hqq:q i
    ·simp
    ·rw[hqq] at hqi;simp only[jG] at hqi;simp[legP,hqi]
   ·rw[jf] at hqi;have I:(selN q (i+1)).flatMap (legP t f (linksL j.Ac))=(selN q i).flatMap (legP t f (linksL j.Ac))++(f (frN (linksL j.Ac) i)).map (snocP i):=by
     rw[g,hqi.1,Jl];simp[legP,hqi.2]
    have v:(x1++(selN q i).flatMap (legP t f (linksL j.Ac))).length<=1000000:=by
     rw[jg];unfold selB at B;rw[<-b] at B;omega
    obtain⟨M,K⟩:=qBl (i:=i) (r4:=f (frN (linksL j.Ac) i)) (x3:=x1++(selN q i).flatMap (legP t f (linksL j.Ac))) (C i (qfx.2 ⟨hi,by rw[<-b];exact hqi.1⟩)).1 v (C i (qfx.2 ⟨hi,by rw[<-b];exact hqi.1⟩)).2;refine⟨max N M+1,fun n F a c=>?_⟩;obtain⟨m,rfl⟩:∃m,n=m+1:=⟨n-1,by omega⟩;have R:=c i (qfx.2 ⟨hi,by rw[<-b];exact hqi.1⟩) hqi.2;have y:=K m (by omega);have z:=A m (by omega) a c;rw[I,<-jq] at z;simp only at y;rw[d,hqi.1,hqi.2,R];simp only[Bool.and_self,Ji,cond_false,jd];rw[y];exact z)
 rw[b] at h;simpa [selN] using h
def legT(t:qr)(f:Nat->List qg)(ls:List qx)(tl:List Int)(i:Nat):List qg:=bif gt t.Bb (frN ls i) then(f (frN ls i)).map (tailP (tl++[(i:Int)])) else[]
theorem qAV{t:qr}{f:Nat->List qg}{ls:List qx}{tl:List Int}{i:Nat}:legT t f ls tl i=(legP t f ls i).map (tailP tl):=by
 unfold legT legP;cases gt t.Bb (frN ls i)
 ·rfl
 ·simp only[cond_true,Jq];refine List.map_congr_left fun p _=>?_;simp[tailP,snocP]
theorem qBn{j:qay}{t:qr}{R:List Nat}{k:Nat}{f:Nat->List qg}{x1:List qg}{tl:List Int}(C:blockB j.Ac=true)(H:TmOk t (ndB j.Ac))(I:tl.length<=1000000) :
  ∃N,∀n,N<=n->∀b:Option Twork->Int->List Int->List qg->Option (List qg),(∀i,∀hi:i<(selB j k).length,gt t.Bb (frN (linksL j.Ac) (selB j k)[i])=true->b (wkV j t R) (frN (linksL j.Ac) (selB j k)[i]:Int) (tl++[((selB j k)[i]:Int)]) (x1++((selB j k).take i).flatMap (legT t f (linksL j.Ac) tl))=V (x1++((selB j k).take (i+1)).flatMap (legT t f (linksL j.Ac) tl))) ->
   qaT (wkV j t R) tl b ⟨grB j.Ac j.Av,j,t,ints R⟩ (ints (selB j k)) n x1 0=V (x1++(selB j k).flatMap (legT t f (linksL j.Ac) tl),((selB j k).length:Int)):=by
 have v:=qgt C;have s:=v.len;have u:(selB j k).length<=10000:=Jb qnn s;have a:∀x,x∈selB j k->x<lkB j.Ac:=fun x J=>(qfx.1 J).1;generalize selB j k=sl at u a;have p:=down (P:=fun i=>∃N,∀n,N<=n->∀b:Option Twork->Int->List Int->List qg->Option (List qg),(∀i,∀hi:i<sl.length,gt t.Bb (frN (linksL j.Ac) sl[i])=true->b (wkV j t R) (frN (linksL j.Ac) sl[i]:Int) (tl++[(sl[i]:Int)]) (x1++(sl.take i).flatMap (legT t f (linksL j.Ac) tl))=V (x1++(sl.take (i+1)).flatMap (legT t f (linksL j.Ac) tl))) ->
   qaT (wkV j t R) tl b ⟨grB j.Ac j.Av,j,t,ints R⟩ (ints sl) n (x1++(sl.take i).flatMap (legT t f (linksL j.Ac) tl)) (i:Int)=V (x1++sl.flatMap (legT t f (linksL j.Ac) tl),(sl.length:Int))) sl.length
  ⟨1,fun n F b _=>by
   obtain⟨m,rfl⟩:∃m,n=m+1:=⟨n-1,by omega⟩;simp only[qaT,qbZ,qk (je _),cond_false,jE]⟩
  (fun i hi K=>by
   obtain⟨N,D⟩:=K;have o:=qmH hi;have d:=a _ (jp hi);have l:sl.take (i+1)=sl.take i++[sl[i]]:=js hi;refine⟨N+1,fun n F b h=>?_⟩;obtain⟨m,rfl⟩:∃m,n=m+1:=⟨n-1,by omega⟩;have c:=D m (by omega) b h;have g:=h i hi;generalize sl[i]=y at o d l g;obtain⟨e1,z⟩:=qk3 v d;have L:(viewV j.Ac).links=linksL j.Ac:=rfl;have r:idx t.Bb (frN (linksL j.Ac) y:Int)=V (gt t.Bb (frN (linksL j.Ac) y)):=qA (by rw[H.r];exact z);have A:appS tl [(y:Int)]=V (tl++[(y:Int)]):=qbn (by rw[jm];omega);have B:appS ([]:List Int) tl=V tl:=by rw[qbn (by rw[List.length_nil];omega),Jm]
   have i1:idx (viewV j.Ac).links (y:Int)=V (gt (linksL j.Ac) y):=qA d;simp only[qaT,qbZ,qj hi,cond_true,o,jd,grB,i1,e1,r,qdB,B,A,wS i];cases hr:gt t.Bb (frN (linksL j.Ac) y)
   ·simp only[cond_false];rw[l,Jl] at c;simp only[List.flatMap_cons,List.flatMap_nil,jU] at c;unfold legT at c;rw[hr] at c;simp only[cond_false,jU] at c;exact c
   ·simp only[cond_true];rw[g hr];simp only[jd];exact c)
 simpa using p

section
variable{j:qay}{t:qr}{R:List Nat}{c:List Int}
theorem qjL(c:WkOk j t R){i:Nat}(hi:i<R.length){x:Nat}(d:x∈selB j R[i]):x<lkB j.Ac/\∃i',∃hi':i'<R.length,i'<i/\R[i']=frN (linksL j.Ac) x:=by
 obtain⟨x1,a⟩:=qfx.1 d;obtain⟨f,g,k3⟩:=c.tg.ord.at hi;unfold toQ at a;rw[jf,beq_iff_eq] at a;have:=ql7.1 k3 x x1 a.1 a.2;obtain⟨e1,_⟩:=qk3 (qgt c.tg.bl) x1;rw[show frL (linksL j.Ac) x=(frN (linksL j.Ac) x:Int) from e1,qiD] at this;obtain⟨q,b,eq⟩:=List.mem_iff_getElem.1 this;rw[jw] at b;rw[Je] at eq;exact⟨x1,q,by omega,by omega,eq⟩
theorem qwq{g:Nat->Int}:∀(l:List Nat) (a:Int),(∀x,x∈l->0<=g x/\g x<=1000000)->0<=a->a<=1000000 ->
  a<=l.foldl (fun v k=>mn6 (W64 (v+g k))) a/\l.foldl (fun v k=>mn6 (W64 (v+g k))) a<=1000000/\(l.foldl (fun v k=>mn6 (W64 (v+g k))) a<=300->l.foldl (fun v k=>mn6 (W64 (v+g k))) a=a+(l.map g).sum)
 | [],a,_,_,h1=>by simpa using h1
 |x::l,a,hg,h0,h1=>by
  obtain⟨n,o⟩:=hg x (jx ..);have c:W64 (a+g x)=a+g x:=qM (by omega) (by omega);have b:a<=mn6 (W64 (a+g x))/\mn6 (W64 (a+g x))<=1000000/\(mn6 (W64 (a+g x))<=300->mn6 (W64 (a+g x))=a+g x):=by
   rw[c];unfold mn6;split<;>refine⟨by omega,by omega,fun _=>by omega⟩
  obtain⟨p,f,i⟩:=qwq l (mn6 (W64 (a+g x))) (fun y d=>hg y (jo _ d)) (by omega) b.2.1;simp only[List.foldl_cons,Ja,List.sum_cons];refine⟨by omega,f,fun h=>?_⟩;have e1:=i h;have m:=b.2.2 (by omega);omega
theorem qAj{g:Nat->Int}:∀(l:List Nat),(∀x,x∈l->0<=g x)->0<=(l.map g).sum/\∀x,x∈l->g x<=(l.map g).sum
 | [],_=>⟨by simp,fun x h=>by cases h⟩
 |y::l,hg=>by
  obtain⟨a,b⟩:=qAj l fun x h=>hg x (jo _ h);have:=hg y (jx ..);simp only[Ja,List.sum_cons];refine⟨by omega,fun x c=>?_⟩;rcases List.mem_cons.1 c with rfl|c
  ·omega
  ·have:=b x c;omega
theorem qx0{β:Type}{g:Nat->Int}{f:Nat->List β}:∀(l:List Nat),(∀x,x∈l->((f x).length:Int)<=g x)->((l.flatMap f).length:Int)<=(l.map g).sum
 | [],_=>by simp
 |y::l,h=>by
  have a:=qx0 l fun x c=>h x (jo _ c);have b:=h y (jx ..);simp only[List.flatMap_cons,jg,Ja,List.sum_cons];omega
theorem qxA{β:Type}{g:Nat->Int}{f:Nat->List β}:∀(l:List Nat),(∀x,x∈l->((f x).length:Int)=g x)->((l.flatMap f).length:Int)=(l.map g).sum
 | [],_=>by simp
 |y::l,h=>by
  have a:=qxA l fun x c=>h x (jo _ c);have b:=h y (jx ..);simp only[List.flatMap_cons,jg,Ja,List.sum_cons];omega
def CtOk(j:qay)(c:List Int):Prop:=∀k,k<ndB j.Ac->gt c k=ctS (linksL j.Ac) (lvJ j.Ac j.Av) c (k:Int) (st0 j (k:Int)) (lkB j.Ac)
theorem qzo{k:Int}:0<=st0 j k/\st0 j k<=1:=by
 unfold st0;cases (srcV (srcO j.Aq k)).1<;>simp
theorem quG{k:Nat}:((srcP j k).length:Int)=st0 j (k:Int):=by
 unfold st0 srcP;cases (srcV (srcO j.Aq (k:Int))).1<;>simp
theorem qvn(d:WkOk j t R)(f:CtOk j c):∀m i,∀hi:i<R.length,i<m->0<=gt c R[i]/\gt c R[i]<=1000000/\(gt c R[i]<=300->gt c R[i]=st0 j (R[i]:Int)+((selB j R[i]).map fun x=>gt c (frN (linksL j.Ac) x)).sum/\∀x,x∈selB j R[i]->gt c (frN (linksL j.Ac) x)<=300)
 |0,_,_,h=>absurd h (Jn _)
 |m+1,i,hi,h=>by
  have s:R[i]<ndB j.Ac:=(d.tg.ord.at hi).1;have l:∀x,x∈selB j R[i]->0<=gt c (frN (linksL j.Ac) x)/\gt c (frN (linksL j.Ac) x)<=1000000:=fun x a=>by
   obtain⟨_,y,b,u,e⟩:=qjL d hi a;have:=qvn d f m y b (by omega);rw[e] at this;exact⟨this.1,this.2.1⟩
  have e:=f R[i] s;have v:=qzo (j:=j) (k:=(R[i]:Int));obtain⟨z,n,o⟩:=qwq (g:=fun x=>gt c (frN (linksL j.Ac) x)) (selB j R[i]) (st0 j (R[i]:Int)) l v.1 (by omega);unfold ctS at e;rw[<-e] at z n o;refine⟨by omega,n,fun r=>?_⟩;have p:=o r;obtain⟨s0,A⟩:=qAj (g:=fun x=>gt c (frN (linksL j.Ac) x)) (selB j R[i]) fun x a=>(l x a).1;exact⟨p,fun x a=>by have:=A x a;omega⟩
theorem quC(m:WkOk j t R)(n:CtOk j c):∀d i,∀hi:i<R.length,i<d->gt c R[i]<=300->((aP j t d R[i]).length:Int)<=gt c R[i]
 |0,_,_,h,_=>absurd h (Jn _)
 |d+1,i,hi,h,h3=>by
  obtain⟨e,o⟩:=(qvn m n (i+1) i hi (by omega)).2.2 h3;have:=qx0 (g:=fun x=>gt c (frN (linksL j.Ac) x)) (f:=legP t (aP j t d) (linksL j.Ac)) (selB j R[i]) fun x s=>by
   obtain⟨_,p,l,u,r⟩:=qjL m hi s;have a:=quC m n d p l (by omega) (by rw[r];exact o x s);have b:=(qvn m n (p+1) p l (by omega)).1;rw[r] at a b;unfold legP;cases gt t.Bb (frN (linksL j.Ac) x)
   ·simpa using b
   ·simpa using a
  simp only[aP,jg];have:=quG (j:=j) (k:=R[i]);omega
theorem qzU(h:qjT j)(u:WkOk j t R)(H:CtOk j c):∀d i,∀hi:i<R.length,i<d->d<=1000->gt c R[i]<=300 ->
  Ev (fun n=>qcW n (swV j t) (R[i]:Int)) (aP j t d R[i]) /\
  ∀tl g,tl.length+i<=1000->g.length+(aP j t d R[i]).length<=1000->Ev (fun n=>qaH n (wkV j t R) (R[i]:Int) tl g) (g++(aP j t d R[i]).map (tailP tl))
 |0,_,_,h,_,_=>absurd h (Jn _)
 |d+1,i,hi,hid,hd,h3=>by
  have K:=u.tg.bl;have Y:=qgt K;have T:(lvJ j.Ac j.Av).length=lkB j.Ac:=qnS;have y:=((qvn u H (i+1) i hi (by omega)).2.2 h3).2;have C:=quC u H (d+1) i hi hid h3;have I:∀x,x∈selB j R[i]->∃r,∃m:r<R.length,r<i/\R[r]=frN (linksL j.Ac) x/\(aP j t d (frN (linksL j.Ac) x)).length<=300 /\
    Ev (fun n=>qcW n (swV j t) (frN (linksL j.Ac) x:Int)) (aP j t d (frN (linksL j.Ac) x)) /\
    ∀tl g,tl.length+r<=1000->g.length+(aP j t d (frN (linksL j.Ac) x)).length<=1000->Ev (fun n=>qaH n (wkV j t R) (frN (linksL j.Ac) x:Int) tl g) (g++(aP j t d (frN (linksL j.Ac) x)).map (tailP tl)):=fun x o=>by
   obtain⟨_,r,m,D,e⟩:=qjL u hi o;have a:=qzU h u H d r m (by omega) (by omega) (by rw[e];exact y x o);have b:=quC u H d r m (by omega) (by rw[e];exact y x o);have b3:=y x o;rw[e] at a b;exact⟨r,m,D,e,by omega,a⟩
  have J:aP j t (d+1) R[i]=srcP j R[i]++(selB j R[i]).flatMap (legP t (aP j t d) (linksL j.Ac)):=rfl;rw[J,jg] at C;generalize R[i]=k at I C J h3;rw[J];constructor
  ·refine Ev.succ ?_;simp only[qcW];refine Ev.bind (qnZ h.Aq.len) (Ev.bind (b:=srcP j k) (Ev.now ?_) ?_)
   ·unfold srcP;cases (srcV (srcO j.Aq (k:Int))).1
    ·rfl
    ·simp only[cond_true];rw[qbn (by simp)]
     rfl
   ·obtain⟨N,O⟩:=qAW (k:=k) (f:=aP j t d) (x1:=srcP j k) K u.tm (by omega) (fun x o=>by
     obtain⟨_,_,_,_,hl,_⟩:=I x o;refine⟨by omega,fun p hp=>?_⟩;have:=qsD d _ p hp;omega)
    obtain⟨M,L⟩:=qxw (Q:=fun x=>x∈selB j k) (f:=fun x n=>qcW n (swV j t) (frN (linksL j.Ac) x:Int)) (v:=fun x=>aP j t d (frN (linksL j.Ac) x)) (lkB j.Ac) fun x _ o=>by
     obtain⟨_,_,_,_,_,hs,_⟩:=I x o;exact hs
    refine⟨max N M,fun n hn=>?_⟩;show(qbq (qcW n) (swV j t) (k:Int) n (srcP j k) 0).bind _=_;rw[O n (by omega) _ fun x o _=>L n (by omega) x (qfx.1 o).1 o]
    rfl
  ·intro tl g htl A;rw[jg] at A;have z:∀l:List Nat,l.flatMap (legT t (aP j t d) (linksL j.Ac) tl)=(l.flatMap (legP t (aP j t d) (linksL j.Ac))).map (tailP tl):=fun l=>by
    rw[List.map_flatMap];exact congrArg (fun f=>l.flatMap f) (funext fun x=>qAV)
   refine Ev.succ ?_;simp only[qaH];refine Ev.bindN (x:=wkV j t R) (b:=⟨grB j.Ac j.Av,j,t,ints R⟩) Z ?_;show Ev (fun n=>(qdU n j.Aq (k:Int)).bind _) _;refine Ev.bind (qqq h.Aq.len) (Ev.bind (b:=g++(srcP j k).map (tailP tl)) ?_ ?_)
   ·have hsl:=quG (j:=j) (k:=k);have hs1:=qzo (j:=j) (k:=(k:Int));unfold srcP;cases (srcV (srcO j.Aq (k:Int))).1
    ·refine Ev.ff Z (Ev.now ?_);simp
    ·refine Ev.tt Z (Ev.bind (b:=tl) (Ev.now ?_) (Ev.bind (b:=tl.reverse) (Ev.now Z) (Ev.bind (b:=g++[(⟨(k:Int),tl.reverse,0⟩:qg)]) (Ev.now ?_) .done)))
     ·show appS [] tl=V tl;rw[qbn (by simp;omega),Jm]
     ·exact qbn (by rw[jm];omega)
   ·refine Ev.bind (qzP (b:=j.Ac) (lv:=lvJ j.Ac j.Av) (ps:=places j.Ac.Aa) (lo:=pre (load0 j.Ac) j.Ac.Ai.length) (de:=pre (exactL j.Ac) j.Ac.Ai.length) (ex:=[]) (node:=(k:Int)) Y T) ?_;obtain⟨N,O⟩:=qBn (R:=R) (k:=k) (f:=aP j t d) (x1:=g++(srcP j k).map (tailP tl)) (tl:=tl) K u.tm (by omega);obtain⟨M,L⟩:=qxw (Q:=fun q=>∃s:q<(selB j k).length,gt t.Bb (frN (linksL j.Ac) (selB j k)[q])=true)
     (f:=fun q n=>qaH n (wkV j t R) (frN (linksL j.Ac) (gt (selB j k) q):Int) (tl++[((gt (selB j k) q:Nat):Int)]) (g++(srcP j k).map (tailP tl)++((selB j k).take q).flatMap (legT t (aP j t d) (linksL j.Ac) tl)))
     (v:=fun q=>g++(srcP j k).map (tailP tl)++((selB j k).take (q+1)).flatMap (legT t (aP j t d) (linksL j.Ac) tl)) (selB j k).length fun q hq0 ⟨s,W⟩=>by
      have F:(selB j k).take (q+1)=(selB j k).take q++[(selB j k)[q]]:=js s;have B:=qr4 (xs:=selB j k) (f:=legT t (aP j t d) (linksL j.Ac) tl) (q+1);rw[z (selB j k),ju,F,qqw,jg] at B;have hm:=jp s;have e0:=qcG s;obtain⟨r,m,D,e,hl,_,S⟩:=I _ hm;have X:legT t (aP j t d) (linksL j.Ac) tl (selB j k)[q]=(aP j t d (frN (linksL j.Ac) (selB j k)[q])).map (tailP (tl++[((selB j k)[q]:Int)])):=by unfold legT;rw[W];rfl
      rw[X,ju] at B;have:=S (tl++[((selB j k)[q]:Int)]) (g++(srcP j k).map (tailP tl)++((selB j k).take q).flatMap (legT t (aP j t d) (linksL j.Ac) tl)) (by rw[jg,jm];omega) (by rw[jg,jg,ju];omega);rw[F,qqw,X,<-jq,e0];exact this
    refine⟨max N M,fun n hn=>?_⟩;have P:=O n (by omega) (qaH n) fun q s W=>by
     have:=L n (by omega) q s ⟨s,W⟩;rw[qcG s] at this;exact this
    show(qaT (wkV j t R) tl (qaH n) ⟨grB j.Ac j.Av,j,t,ints R⟩ (ints (selB j k)) n (g++(srcP j k).map (tailP tl)) 0).bind _=_;rw[P,z,jq,<-jL]
    rfl
theorem qxU{xs a:List Int}{q:Nat}(h:q<xs.length):at0 (xs++a) q=at0 xs q:=by
 unfold at0;rw[jD,jD,jy h]
theorem qwp{xs:List Int}{y:Int}:at0 (xs++[y]) xs.length=y:=by
 unfold at0;rw[jD,jB (je _),Nat.sub_self]
 rfl
theorem qxN{ls:List qx}{start:Int}{path a:List Int}:∀q,q<=path.length->atP ls start (path++a) q=atP ls start path q
 |0,_=>rfl
 |q+1,h=>by
  show(gt ls (at0 (path++a) q).toNat).To=(gt ls (at0 path q).toNat).To;rw[qxU (by omega)]
theorem qyn(g:WkOk j t R){k x:Nat}{start:Int}{path:List Int}(b:pathB j start path=true)(d:endB j start path=(frN (linksL j.Ac) x:Int))(h:x∈selB j k) :
  pathB j start (path++[(x:Int)])=true/\endB j start (path++[(x:Int)])=(k:Int):=by
 obtain⟨x1,c⟩:=qfx.1 h;unfold toQ lvL toL at c;rw[jf,beq_iff_eq] at c;obtain⟨e1,_⟩:=qk3 (qgt g.tg.bl) x1;unfold pathB at b⊢;rw[jf,qau] at b;constructor
 ·rw[jf,qau];refine⟨b.1,fun q f=>?_⟩;rw[jg,jm] at f;by_cases a:q<path.length
  ·have:=b.2 q a;unfold okP at this⊢;rw[qxU a,qxN q (by omega)];exact this
  ·obtain rfl:q=path.length:=by omega
   unfold okP;rw[qwp,qxN _ (je _),jr,c.1,e1];unfold endB at d;rw[d];have:inI (x:Int) 0 (((linksL j.Ac).length:Int)-1)=true:=qbi.2 ⟨by omega,by have:x<(linksL j.Ac).length:=x1;omega⟩;rw[this];simp
 ·unfold endB;rw[jg,jm];show(gt (linksL j.Ac) (at0 (path++[(x:Int)]) path.length).toNat).To=(k:Int);rw[qwp,jr];exact c.2
theorem qxQ(i:WkOk j t R):∀d k p,p∈aP j t d k->pathB j p.Bl p.Bf=true/\endB j p.Bl p.Bf=(k:Int)/\p.Ah=0
 |0,_,p,h=>by simp[aP] at h
 |d+1,k,p,h=>by
  simp only[aP,List.mem_append] at h;rcases h with h|h
  ·unfold srcP at h;cases hs:(srcV (srcO j.Aq (k:Int))).1<;>rw[hs] at h
   ·simp at h
   ·simp only[cond_true,List.mem_singleton] at h;subst h;refine⟨?_,rfl,rfl⟩;unfold pathB;rw[hs]
    rfl
  ·obtain⟨x,g,c⟩:=List.mem_flatMap.1 h;unfold legP at c;cases hr:gt t.Bb (frN (linksL j.Ac) x)<;>rw[hr] at c
   ·simp at c
   ·simp only[cond_true] at c;obtain⟨l,f,rfl⟩:=List.mem_map.1 c;obtain⟨a,b,_⟩:=qxQ i d _ l f;have:=qyn i a b g;exact⟨this.1,this.2,rfl⟩
end
end Go.Fw


namespace Go.Fw
open Go Go.Sort
set_option maxRecDepth 100000
theorem qnm{n:Nat}{x y:Int}:qcp n x y=V (ordI x y):=by
 unfold qcp qgr ordI;simp only[bne_self_eq_false,jd,cond_false];by_cases a:x<y
 ·simp[a]
 ·by_cases b:y<x<;>simp[a,b]
theorem qzF{xs b:List Int}(v:xs.length<=1000000):Ev (fun n=>qdX n xs b) (cmpLk xs b):=by
 have k:∀d i,i+d=xs.length->i<=b.length->∃o,Ev (fun n=>qaD xs b n (i:Int)) o /\
   match o with|.ret r=>r=cmpLk (xs.drop i) (b.drop i)|.nxt _=>cmpLk (xs.drop i) (b.drop i)=if xs.length<b.length then -1 else 0:=by
  intro d
  induction d with
  |zero=>
   intro i hi u;obtain rfl:i=xs.length:=by omega
   refine⟨.nxt (xs.length:Int),Ev.succ ?_,?_⟩
   ·simp only[qaD,qk (je _),cond_false];exact .done
   ·simp only[List.drop_length];have f:(b.drop xs.length).length=b.length-xs.length:=Jo;cases h:b.drop xs.length with
    |nil=>rw[h] at f;simp at f;rw[if_neg (by omega)];rfl
    |cons a l=>rw[h] at f;simp at f;rw[if_pos (by omega)];rfl
  |succ d ih=>
   intro i hi u;have c:i<xs.length:=by omega
   have ex:xs.drop i=xs[i]::xs.drop (i+1):=jz c;by_cases p:i<b.length
   ·have t:b.drop i=b[i]::b.drop (i+1):=jz p;by_cases m:ordI xs[i] b[i]=0
    ·obtain⟨o,s,g⟩:=ih (i+1) (by omega) (by omega);refine⟨o,Ev.succ ?_,?_⟩
     ·simp only[qaD,qj c,cond_true,qdA c,jd,wS i];refine Ev.ff (decide_eq_false (by omega)) (Ev.bindN (qdA p) (Ev.bind (.now (qnm (n:=0))) (Ev.ff (by rw[m];rfl) s)))
     ·rw[ex,t];simp only[cmpLk,m,if_true];exact g
    ·refine⟨.ret (ordI xs[i] b[i]),Ev.succ ?_,?_⟩
     ·simp only[qaD,qj c,cond_true,qdA c,jd];exact Ev.ff (decide_eq_false (by omega)) (Ev.bindN (qdA p) (Ev.bind (.now (qnm (n:=0))) (Ev.tt (by simpa using m) .done)))
     ·rw[ex,t];simp only[cmpLk,m,if_false]
   ·refine⟨.ret 1,Ev.succ ?_,?_⟩
    ·simp only[qaD,qj c,cond_true,qdA c,jd];exact Ev.tt (decide_eq_true (by omega)) .done
    ·rw[ex,show b.drop i=[] from List.drop_of_length_le (by omega)]
     rfl
 obtain⟨o,s,g⟩:=k xs.length 0 (by omega) (Nat.zero_le _);unfold qdX;refine Ev.bind s ?_;cases o with
 |ret r=>simp only[List.drop_zero] at g;subst g;exact .done
 |nxt i=>
  simp only[List.drop_zero] at g;rw[g];by_cases f:xs.length<b.length
  ·rw[if_pos f];exact Ev.tt (decide_eq_true (by omega)) .done
  ·rw[if_neg f];exact Ev.ff (decide_eq_false (by omega)) .done
theorem qvN{a b:Int}:Ev (fun n=>qjV n ([a,b]:List Int)) (if a=0 then b else a):=by
 unfold qjV;by_cases c:a=0
 ·by_cases d:b=0
  ·refine Ev.bind (b:=.nxt 2) (Ev.succ ?_) ?_
   ·simp only[qcx];refine Ev.tt Z (Ev.bindN (b:=a) Z (Ev.ff (by simpa using c) (Ev.succ ?_)));simp only[qcx];refine Ev.tt Z (Ev.bindN (b:=b) Z (Ev.ff (by simpa using d) (Ev.succ ?_)));simp only[qcx];exact Ev.ff Z .done
   ·rw[if_pos c,d];exact .done
  ·refine Ev.bind (b:=.ret b) (Ev.succ ?_) ?_
   ·simp only[qcx];refine Ev.tt Z (Ev.bindN (b:=a) Z (Ev.ff (by simpa using c) (Ev.succ ?_)));simp only[qcx];exact Ev.tt Z (Ev.bindN (b:=b) Z (Ev.tt (by simpa using d) .done))
   ·rw[if_pos c];exact .done
 ·refine Ev.bind (b:=.ret a) (Ev.succ ?_) ?_
  ·simp only[qcx];exact Ev.tt Z (Ev.bindN (b:=a) Z (Ev.tt (by simpa using c) .done))
  ·rw[if_neg c];exact .done
def ordR':qg->qg->Int:=lexC (fun p q=>ordI p.Bl q.Bl) fun p q=>cmpLk p.Bf q.Bf
theorem qr6{p q:qg}(a:p.Bf.length<=1000000):Ev (fun n=>qfR n p q) (ordR' p q):=by
 unfold qfR;exact Ev.bind (.now (qnm (n:=0))) (Ev.bind (qzF a) (Ev.bind qvN .done))
theorem qpO{n:Nat}{p q:qg}{mode:Int}:qdV n p.Ah q.Ah mode=V (ordA mode p q):=by
 unfold qdV ordA;by_cases h:mode=1
 ·simp only[h,beq_self_eq_true,cond_true,qnm,jd,if_true]
 ·have:(mode==1)=false:=by simpa using h
  simp only[this,cond_false,qnm,jd,h,if_false]
theorem qtx{p q:qg}{mode:Int}(a:p.Bf.length<=1000000):Ev (fun n=>qdF n p q mode) (ordP mode p q):=by
 unfold qdF;exact Ev.bind (.now (qpO (n:=0))) (Ev.bind (qr6 a) (Ev.bind qvN .done))
theorem qxB{α β:Type}{f:α->Nat->Option β}{v:α->β}:∀l:List α,(∀x,x∈l->Ev (f x) (v x))->∃N,∀n,N<=n->∀x,x∈l->f x n=V (v x)
 | [],_=>⟨0,fun _ _ x h=>by cases h⟩
 |y::l,h=>by
  obtain⟨N,c⟩:=qxB l fun x a=>h x (jo _ a);obtain⟨M,b⟩:=h y (jx ..);refine⟨max N M,fun n d x a=>?_⟩;rcases List.mem_cons.1 a with rfl|a
  ·exact b n (by omega)
  ·exact c n (by omega) x a
theorem qvY{α β:Type}{f:α->α->Nat->Option β}{v:α->α->β}{m:List α}:∀l:List α,(∀x,x∈l->∀y,y∈m->Ev (f x y) (v x y))->∃N,∀n,N<=n->∀x,x∈l->∀y,y∈m->f x y n=V (v x y)
 | [],_=>⟨0,fun _ _ x h=>by cases h⟩
 |z::l,h=>by
  obtain⟨N,c⟩:=qvY l fun x a=>h x (jo _ a);obtain⟨M,b⟩:=qxB m (h z (jx ..));refine⟨max N M,fun n d x a=>?_⟩;rcases List.mem_cons.1 a with rfl|a
  ·exact b n (by omega)
  ·exact c n (by omega) x a
def srtP(mode:Int)(xs:List qg):List qg:=xs.mergeSort (leF (ordP mode))
theorem qzc{xs:List qg}{mode:Int}(i:xs.length<=1000000)(c:∀p,p∈xs->p.Bf.length<=1000000):Ev (fun n=>sortP n xs mode) (srtP mode xs):=by
 have b:∀p,p∈(GoT.zero:qg)::xs->p.Bf.length<=1000000:=fun p a=>by
  rcases List.mem_cons.1 a with rfl|a
  ·exact Nat.zero_le _
  ·exact c p a
 obtain⟨N,d⟩:=qvY (f:=fun p q n=>qdF n p q mode) (v:=fun p q=>ordP mode p q) (m:=(GoT.zero:qg)::xs) ((GoT.zero:qg)::xs) fun p a q _=>qtx (b p a);refine⟨N,fun n g=>?_⟩;show sortP n xs mode=_;unfold sortP;rw[if_pos ⟨by omega,fun p a q h=>d n g p a q h⟩]
 rfl
theorem qAP{p q:qg}(z:p.Bf.length<=1000000):Ev (fun n=>qk7 n p q) (decide (ordR' p q<0)):=by
 have k:∀d i,i+d=p.Bf.length->i<=q.Bf.length->∃o,Ev (fun n=>qdl p q n (i:Int)) o /\
   match o with|.ret r=>r=decide (cmpLk (p.Bf.drop i) (q.Bf.drop i)<0)|.nxt _=>decide (cmpLk (p.Bf.drop i) (q.Bf.drop i)<0)=decide ((p.Bf.length:Int)<(q.Bf.length:Int)):=by
  intro d
  induction d with
  |zero=>
   intro i hi y;obtain rfl:i=p.Bf.length:=by omega
   refine⟨.nxt (p.Bf.length:Int),Ev.succ ?_,?_⟩
   ·simp only[qdl,qk (je _),cond_false,jd];exact .done
   ·simp only[List.drop_length];have s:(q.Bf.drop p.Bf.length).length=q.Bf.length-p.Bf.length:=Jo;cases h:q.Bf.drop p.Bf.length with
    |nil=>rw[h] at s;simp at s;simp only[cmpLk];simp;omega
    |cons a l=>rw[h] at s;simp at s;simp only[cmpLk];simp;omega
  |succ d ih=>
   intro i hi y;have b:i<p.Bf.length:=by omega
   have ex:p.Bf.drop i=p.Bf[i]::p.Bf.drop (i+1):=jz b;by_cases g:i<q.Bf.length
   ·have x:q.Bf.drop i=q.Bf[i]::q.Bf.drop (i+1):=jz g;by_cases t:p.Bf[i]=q.Bf[i]
    ·obtain⟨o,u,f⟩:=ih (i+1) (by omega) (by omega);have hz:ordI p.Bf[i] q.Bf[i]=0:=by unfold ordI;rw[if_neg (by omega),if_neg (by omega)]
     refine⟨o,Ev.succ ?_,?_⟩
     ·simp only[qdl,qj b,qj g,cond_true,jd,qdA b,qdA g,wS i];exact Ev.ff (by simpa using t) u
     ·rw[ex,x];simp only[cmpLk,hz,if_true];exact f
    ·have hz:ordI p.Bf[i] q.Bf[i]≠0:=fun e=>t (qoQ e);refine⟨.ret (decide (p.Bf[i]<q.Bf[i])),Ev.succ ?_,?_⟩
     ·simp only[qdl,qj b,qj g,cond_true,jd,qdA b,qdA g];exact Ev.tt (by simpa using t) .done
     ·rw[ex,x];simp only[cmpLk,hz,if_false];unfold ordI;by_cases c:p.Bf[i]<q.Bf[i]
      ·simp[c]
      ·rw[if_neg c];by_cases m:q.Bf[i]<p.Bf[i]
       ·simp[c,m]
       ·simp[c,m]
   ·refine⟨.nxt (i:Int),Ev.succ ?_,?_⟩
    ·simp only[qdl,qj b,cond_true,qk (show q.Bf.length<=i by omega),jd,cond_false];exact .done
    ·rw[ex,show q.Bf.drop i=[] from List.drop_of_length_le (by omega)];simp only[cmpLk];simp;omega
 unfold qk7 ordR' lexC;by_cases v:p.Bl=q.Bl
 ·have hz:ordI p.Bl q.Bl=0:=by unfold ordI;rw[if_neg (by omega),if_neg (by omega)]
  obtain⟨o,u,f⟩:=k p.Bf.length 0 (by omega) (Nat.zero_le _);refine Ev.ff (by simpa using v) (Ev.bind u ?_);simp only[hz,if_true];simp only[List.drop_zero] at f;cases o with
  |ret r=>simp only at f;subst f;exact .done
  |nxt i=>simp only at f;rw[f];exact .done
 ·refine Ev.tt (by simpa using v) (.now ?_);have hz:ordI p.Bl q.Bl≠0:=fun e=>v (qoQ e);simp only[hz,if_false];unfold ordI;by_cases c:p.Bl<q.Bl
  ·simp[c]
  ·rw[if_neg c];by_cases m:q.Bl<p.Bl<;>simp[c,m]
theorem qyv{p q:qg}{mode:Int}(d:modeB mode=true)(f:p.Bf.length<=1000000):Ev (fun n=>qjH n p q mode) (decide (ordP mode p q<0)):=by
 unfold qjH ordP;show Ev _ (decide (lexC (ordA mode) ordR' p q<0));unfold lexC;by_cases b:p.Ah=q.Ah
 ·have hz:ordA mode p q=0:=by unfold ordA ordI;rw[b];simp
  refine Ev.ff (by simpa using b) ?_;simp only[hz,if_true];exact Ev.bind (qAP f) .done
 ·refine Ev.tt (by simpa using b) (.now ?_);have hz:ordA mode p q≠0:=by
   unfold ordA;split
   ·exact fun e=>b (qoQ e).symm
   ·exact fun e=>b (qoQ e)
  simp only[hz,if_false];unfold ordA ordI;rcases qqc d with rfl|rfl
  ·by_cases c:p.Ah<q.Ah
   ·have a:¬ q.Ah<p.Ah:=by omega
    simp[c,a]
   ·have a:q.Ah<p.Ah:=by omega
    simp[c,a]
  ·by_cases c:p.Ah<q.Ah
   ·have a:¬ q.Ah<p.Ah:=by omega
    simp[c,a]
   ·have a:q.Ah<p.Ah:=by omega
    simp[a]
def posE(mode:Int)(y:qg)(x:List qg):Nat->Nat
 |0=>0
 |i+1=>if ordP mode y (gt x i)<0 then posE mode y x i else i+1
theorem qu3{mode:Int}{y:qg}{x:List qg}:∀i,posE mode y x i<=i
 |0=>je _
 |i+1=>by
  simp only[posE];split
  ·exact Nat.le_succ_of_le (qu3 i)
  ·exact je _
theorem qtc{mode:Int}{y:qg}{x:List qg}:∀i q,posE mode y x i<=q->q<i->ordP mode y (gt x q)<0
 |0,q,_,h=>absurd h (Jn _)
 |i+1,q,h1,h2=>by
  simp only[posE] at h1;split at h1
  ·rename_i hh
   by_cases e:q=i
   ·subst e;exact hh
   ·exact qtc i q h1 (by omega)
  ·omega
theorem qrq{mode:Int}{y:qg}{x:List qg}:∀i q,posE mode y x i=q+1->¬ ordP mode y (gt x q)<0
 |0,q,h=>by simp[posE] at h
 |i+1,q,h=>by
  simp only[posE] at h;split at h
  ·exact qrq i q h
  ·rename_i hh
   obtain rfl:i=q:=by omega
   exact hh
theorem qxC{list x:List qg}{mode:Int}{i1:Nat}(c:modeB mode=true)(hi:i1<list.length)(b:(gt list i1).Bf.length<=1000000)(d:x.length<=1000000):∀i,i<=x.length->Ev (fun n=>qd6 list mode x (i1:Int) n (i:Int)) ((posE mode (gt list i1) x i:Nat):Int)
 |0,_=>by
  refine Ev.succ ?_;simp only[qd6];exact Ev.ff Z .done
 |i+1,h=>by
  have e1:W64 (((i+1:Nat):Int)-1)=(i:Int):=by rw[qM (by omega) (by omega)];omega
  refine Ev.succ ?_;simp only[qd6,e1];refine Ev.tt (decide_eq_true (by omega)) (Ev.bindN (qA hi) (Ev.bindN (qA (show i<x.length by omega)) (Ev.bind (qyv c b) ?_)));simp only[posE];by_cases a:ordP mode (gt list i1) (gt x i)<0
  ·rw[if_pos a];exact Ev.tt (decide_eq_true a) (qxC c hi b d i (by omega))
  ·rw[if_neg a];exact Ev.ff (decide_eq_false a) .done
theorem qsc{mode:Int}{a b:qg}:leF (ordP mode) a b=true↔¬ ordP mode b a<0:=by simp[leF]
theorem qrl{mode:Int}{xs:List qg}:(srtP mode xs).Pairwise fun a b=>leF (ordP mode) a b=true:=by
 have f:=(qs2 mode).swo;refine List.pairwise_mergeSort ?_ ?_ _
 ·intro a b c g d;simp only[leF,jI] at g d⊢;exact f.ntrans c b a d g
 ·intro a b;cases hh:decide (ordP mode b a<0) with
  |false=>simp[leF,hh]
  |true=>
   have:decide (ordP mode a b<0)=false:=by
    cases d:decide (ordP mode a b<0) with
    |false=>rfl
    |true=>
     have:=f.trans a b a d hh;rw[f.irrefl a] at this;cases this
   simp[leF,this]
theorem qyP{mode:Int}{xs c:List qg}(h:c.Pairwise fun a b=>leF (ordP mode) a b=true)(g:c.Perm xs):c=srtP mode xs:=by
 refine List.Perm.eq_of_pairwise (le:=fun a b=>leF (ordP mode) a b=true) ?_ h qrl (g.trans (List.mergeSort_perm _ _).symm);intro a b _ _ d f;rw[qsc] at d f;have:=(qs2 mode).anti a b;exact qzM (mode:=mode) (by omega)
theorem qwz{mode:Int}{x:List qg}{y:qg}(g:x.Pairwise fun a b=>leF (ordP mode) a b=true) :
  (x.take (posE mode y x x.length)++[y]++x.drop (posE mode y x x.length)).Pairwise fun a b=>leF (ordP mode) a b=true:=by
 have s:=qs2 mode;have i:=qu3 (mode:=mode) (y:=y) (x:=x) x.length;have o:=qtc (mode:=mode) (y:=y) (x:=x) x.length;have r:=qrq (mode:=mode) (y:=y) (x:=x) x.length;generalize posE mode y x x.length=p at i o r;have m:∀b,b∈x.drop p->leF (ordP mode) y b=true:=fun b d=>by
  obtain⟨q,k,rfl⟩:=List.mem_iff_getElem.1 d;rw[Jo] at k;rw[List.getElem_drop,qsc];have f:=o (p+q) (by omega) (by omega);rw[qcG (show p+q<x.length by omega)] at f;have:=s.anti y x[p+q];omega
 have l:∀a,a∈x.take p->leF (ordP mode) a y=true:=fun a h=>by
  obtain⟨q,k,rfl⟩:=List.mem_iff_getElem.1 h;rw[jw] at k;rw[Je,qsc];obtain⟨c,rfl⟩:∃c,p=c+1:=⟨p-1,by omega⟩;have f:=r c Z;rw[qcG (show c<x.length by omega)] at f;by_cases e:q=c
  ·subst e;exact f
  ·have n:=(List.pairwise_iff_getElem.1 g) q c (by omega) (by omega) (by omega);rw[qsc] at n;have:=s.swo.ntrans y x[c] x[q] (decide_eq_false f) (decide_eq_false n);exact of_decide_eq_false this
 rw[jq,List.pairwise_append];refine⟨g.sublist (List.take_sublist ..),?_,fun a h b d=>?_⟩
 ·rw[List.singleton_append,List.pairwise_cons];exact⟨m,g.sublist (List.drop_sublist ..)⟩
 ·rw[List.singleton_append,Jf] at d;rcases d with rfl|d
  ·exact l a h
  ·rw[<-jX p x,List.pairwise_append] at g;exact g.2.2 a h b d
theorem qwv{α:Type}{xs:List α}{j:Nat}(h:j<=xs.length):subS xs (j:Int) (xs.length:Int)=V (xs.drop j):=by
 unfold subS;rw[if_pos ⟨by omega,by omega,by omega⟩];simp
theorem qya{list:List qg}{mode:Int}(z:modeB mode=true)(A:list.length<=1000000)(u:∀p,p∈list->p.Bf.length<=1000000):Ev (fun n=>qhM n list mode) (srtP mode list):=by
 have e0:srtP mode (list.take 0)=[]:=by rw[List.take_zero];unfold srtP;simp
 have c:∀l:List qg,(srtP mode l).length=l.length:=fun l=>List.length_mergeSort _;have:=loopF (Lf:=fun n s i=>qeb list mode n s i) (S:=fun i=>srtP mode (list.take i)) (len:=list.length) (fin:=(srtP mode list,(list.length:Int)))
  (fun n=>by simp only[qeb,qk (je _),cond_false,jE])
  (fun i hi X v=>by
   have m:(srtP mode (list.take i)).length=i:=by rw[c,jw];omega
   have h:gt list i∈list:=by rw[qcG hi];exact jp hi
   have g:=qxC (list:=list) (x:=srtP mode (list.take i)) (i1:=i) z hi (u _ h) (by omega) (srtP mode (list.take i)).length (je _);have f:=qu3 (mode:=mode) (y:=gt list i) (x:=srtP mode (list.take i)) (srtP mode (list.take i)).length;have k:=qwz (mode:=mode) (y:=gt list i) (qrl (mode:=mode) (xs:=list.take i));have b:(srtP mode (list.take i)).Perm (list.take i):=List.mergeSort_perm _ _;generalize srtP mode (list.take i)=x at m g f k b;generalize posE mode (gt list i) x x.length=p at g f k;have d:x.take p++[gt list i]++x.drop p=srtP mode (list.take (i+1)):=by
    refine qyP k ?_;rw[js hi,<-qcG hi,jq];refine(List.perm_middle (a:=gt list i) (l₁:=x.take p) (l₂:=x.drop p)).trans ?_;rw[jX];exact(List.Perm.cons _ b).trans (List.perm_append_comm (l₁:=[gt list i]) (l₂:=list.take i))
   have a1:subS x 0 (p:Int)=V (x.take p):=qtJ f;have a2:appS ([]:List qg) (x.take p)=V (x.take p):=by rw[qbn (by rw[List.length_nil,jw];omega),Jm]
   have o:appS (x.take p) [gt list i]=V (x.take p++[gt list i]):=qbn (by rw[jw,jm];omega);have r:subS x (p:Int) (x.length:Int)=V (x.drop p):=qwv f;have t:appS (x.take p++[gt list i]) (x.drop p)=V (srtP mode (list.take (i+1))):=by
    rw[<-d];exact qbn (by rw[jg,jw,jm,Jo];omega)
   simp only[qeb];refine Ev.tt (qj hi) (Ev.bind g (Ev.bindN a1 (Ev.bindN a2 (Ev.bindN (qA hi) (Ev.bindN o (Ev.bindN r (Ev.bindN t ?_)))))));rw[wS i];exact v)
 rw[e0] at this;unfold qhM;exact Ev.bind this .done
end Go.Fw


namespace Go.Fw
open Go
set_option maxRecDepth 100000
theorem qwo{j:qay}{node:Int}(h:qjT j)(mode:Int) :
  (∃code:Int,code≠0/\Ev (fun n=>qe1 n j node) (U,code)/\Ev (fun n=>qcD n j mode [node]) (U,code)) \/
  ∃t R,WkOk j t R/\inI node 0 ((ndB j.Ac:Int)-1)=true/\Ev (fun n=>qcF n j) (swV j t,0)/\Ev (fun n=>qe1 n j node) (swV j t,0)/\Ev (fun n=>qcD n j mode [node]) (bif modeB mode then(wkV j t R,0) else(U,2)):=by
 have k:([node].all fun x=>inI x 0 ((ndB j.Ac:Int)-1))=inI node 0 ((ndB j.Ac:Int)-1):=by simp
 have p:(∃code:Int,code≠0/\Ev (fun n=>qcF n j) (U,code)/\Ev (fun n=>qcD n j mode [node]) (U,code)) \/
   ∃t R,WkOk j t R/\Ev (fun n=>qcF n j) (swV j t,0)/\Ev (fun n=>qcD n j mode [node]) (bif inI node 0 ((ndB j.Ac:Int)-1) then bif modeB mode then(wkV j t R,0) else(U,2) else(U,4)):=by
  cases hm:modeB mode
  ·have f:=h.Av.len;unfold qcF qcD;rcases qxF h with⟨code,hne,hs,hi⟩|⟨t,R,hw,hs,hi⟩
   ·exact .inl ⟨code,hne,Ev.bind hs (Ev.tt (qjm hne) .done),Ev.bind hi (Ev.tt (qjm hne) .done)⟩
   ·have d:=hw.tg.bl;have g:=qhU d;have b:=qaU (qQ (qar d));have r:=qj3 (ls:=linksL j.Ac) (br:=j.Av) g f;refine .inr ⟨t,R,hw,Ev.bind hs (Ev.ff Z (Ev.bind (qfO d) (Ev.bind r .done))),Ev.bind hi (Ev.ff Z ?_)⟩;have i:=qoE (v:=viewV j.Ac) b;have e1:W64 (((2*(viewV j.Ac).places.length:Nat):Int)-1)=(ndB j.Ac:Int)-1:=by
     show W64 (((2*(places j.Ac.Aa).length:Nat):Int)-1)=_;rw[qM (by omega) (by omega)]
    unfold wkV grB;simp only[jd,i,e1];refine Ev.bind (qey (by simp)) ?_;rw[k];cases inI node 0 ((ndB j.Ac:Int)-1)
    ·exact Ev.tt Z .done
    ·refine Ev.ff Z ?_;simp only[qyL,hm];exact .done
  ·rcases qBg h with⟨code,hne,hs,hi⟩|⟨t,R,hw,hs,hi⟩
   ·exact .inl ⟨code,hne,hs,hi mode [node]⟩
   ·have l:=hi mode [node] (by simp) (qqc hm);rw[k] at l;exact .inr ⟨t,R,hw,hs,l⟩
 unfold qe1;rcases p with⟨code,hne,hs,hi⟩|⟨t,R,hw,hs,hi⟩
 ·exact .inl ⟨code,hne,Ev.bind hs (Ev.tt (qjm hne) .done),hi⟩
 ·have b:=qaU (qQ (qar hw.tg.bl));have a:=qkB hw.tg.bl;have e1:∀n,qav n node 0 (W64 (((2*(places j.Ac.Aa).length:Nat):Int)-1))=V (inI node 0 ((ndB j.Ac:Int)-1)):=fun n=>by rw[qdb,qM (by omega) (by omega)]
  obtain⟨o,x3,m⟩:=t;have c:Ev (fun n=>qcF n j) (V (⟨j,linksL j.Ac,lvJ j.Ac j.Av,⟨o,x3,m⟩⟩:Tl20Work),(0:Int)):=hs;cases hr:inI node 0 ((ndB j.Ac:Int)-1)
  ·rw[hr] at hi;refine .inl ⟨4,by decide,Ev.bind c ?_,hi⟩;show Ev (fun n=>(qbQ n j.Ac).bind _) _;refine Ev.bind a ?_;simp only[e1,hr];exact .done
  ·rw[hr] at hi;refine .inr ⟨⟨o,x3,m⟩,R,hw,rfl,hs,Ev.bind c ?_,hi⟩;show Ev (fun n=>(qbQ n j.Ac).bind _) _;refine Ev.bind a ?_;simp only[e1,hr];exact .done
theorem qw1{α:Type}{f:Nat->Option (List Int)}{k v:Int}{g:Nat->Int->Option α}{a:α}(h:Ev (fun n=>(f n).bind fun r=>(idx r k).bind fun y=>V (y,(0:Int))) (v,0))(l:Ev (fun n=>g n v) a):Ev (fun n=>(f n).bind fun r=>(idx r k).bind (g n)) a:=by
 obtain⟨N,i⟩:=h;obtain⟨M,d⟩:=l;refine⟨max N M,fun n m=>?_⟩;have b:=i n (by omega);have c:=d n (by omega);simp only at b c⊢;cases hf:f n with
 |none=>rw[hf] at b;simp at b
 |some r=>
  rw[hf] at b;simp only[jd] at b⊢;cases hi:idx r k with
  |none=>rw[hi] at b;simp at b
  |some y=>
   rw[hi] at b;simp only[jd,Option.some.injEq,Prod.mk.injEq,and_true] at b;subst b;exact c
def stM{α:Type}(g:α->α)(L:List α)(i:Nat):List α:=(L.take i).map g++L.drop i
theorem qz9{α:Type}{g:α->α}{L:List α}:stM g L 0=L:=by simp[stM]
theorem qvD{α:Type}{g:α->α}{L:List α}:stM g L L.length=L.map g:=by simp[stM]
section
variable{α:Type}[Inhabited α]{g:α->α}{L:List α}{i:Nat}
theorem qp3(h:i<L.length):idx (stM g L i) (i:Int)=V (gt L i):=by
 have a:i<(stM g L i).length:=by unfold stM;rw[jg,ju,jw,Jo];omega
 have e:(stM g L i)[i]?=V L[i]:=by
  unfold stM;rw[jB (by rw[ju,jw];omega),ju,jw,Nat.min_eq_left (by omega),Nat.sub_self,Jg,Jj,jh h]
 rw[qdA a,qcG h];exact congrArg V (List.getElem?_eq_some_iff.1 e).2
theorem qxy(h:i<L.length):setS (stM g L i) (i:Int) (g (gt L i))=stM g L (i+1):=by
 have a:((L.take i).map g).length=i:=by rw[ju,jw];omega
 unfold setS stM;rw[jr,js h,jL,jq,List.set_append_right _ _ (by omega),a,Nat.sub_self,jz h,qcG h]
 rfl
end
def setA(A:qg->Int)(p:qg):qg:=⟨p.Bl,p.Bf,A p⟩
theorem qz5{mode:Int}{l:List qg}{p:qg}:p∈srtP mode l↔p∈l:=(List.mergeSort_perm l _).mem_iff
theorem qAh{mode:Int}{l:List qg}:(srtP mode l).length=l.length:=List.length_mergeSort _
section
variable{j:qay}{t:qr}{R:List Nat}{c:List Int}
theorem qwM(h:qjT j)(f:WkOk j t R)(r:CtOk j c){node:Nat}(u:node<ndB j.Ac)(o:gt c node<=300) :
  ∃L:List qg,((L.length:Int)<=gt c node)/\(∀p,p∈L->p.Bf.length<=156/\pathB j p.Bl p.Bf=true/\p.Ah=0)/\L=aP j t R.length node /\
   Ev (fun n=>qcW n (swV j t) (node:Int)) L/\Ev (fun n=>qhq n (wkV j t R) (node:Int)) L:=by
 obtain⟨i,hi,l⟩:=f.tg.ord.full f.tg.len u;have v:=qaU (qQ (qar f.tg.bl));have x:R.length<=156:=by rw[f.tg.len];show 2*(places j.Ac.Aa).length<=156;omega
 have d:=qzU h f r R.length i hi hi (by omega) (by rw[l];exact o);have g:=quC f r R.length i hi hi (by rw[l];exact o);rw[l] at d g;have s:=qxQ f R.length node;refine⟨aP j t R.length node,g,fun p k=>?_,rfl,d.1,?_⟩
 ·obtain⟨a,_,b⟩:=s p k;have:=qsD _ _ p k;exact⟨by omega,a,b⟩
 ·have m:=d.2 [] [] (by rw[List.length_nil];omega) (by rw[List.length_nil];omega);have e:([]:List qg)++(aP j t R.length node).map (tailP [])=aP j t R.length node:=by
   rw[Jm];have:(aP j t R.length node).map (tailP [])=(aP j t R.length node).map id:=List.map_congr_left fun p k=>by
    obtain⟨_,_,b⟩:=s p k;cases p;simp only at b;subst b;simp[tailP]
   rw[this,List.map_id]
  rw[e] at m;unfold qhq;exact Ev.bind m .done
end

structure InS(x y:qe):Prop where
 e:y.Ba<=x.Ba
 l:x.Bg<=y.Bg
theorem InS.refl{x:qe}:InS x x:=⟨Jd _,Jd _⟩
theorem InS.trans{x y z:qe}(h:InS x y)(a:InS y z):InS x z:=⟨Int.le_trans a.e h.e,Int.le_trans h.l a.l⟩
theorem InS.hullL{x y:qe}:InS x (hullS x y):=by
 constructor
 ·show(if y.Ba<x.Ba then y.Ba else x.Ba)<=x.Ba;split<;>omega
 ·show x.Bg<=(if y.Bg > x.Bg then y.Bg else x.Bg);split<;>omega
theorem InS.hullR{x y:qe}:InS y (hullS x y):=by
 constructor
 ·show(if y.Ba<x.Ba then y.Ba else x.Ba)<=y.Ba;split<;>omega
 ·show y.Bg<=(if y.Bg > x.Bg then y.Bg else x.Bg);split<;>omega
section
variable{f:Nat->qe->qe×qe}{ls:List qx}{lv:List Bool}{xs:List qf}{M:Nat}
theorem qyH{t a:qr}{node:Int}{s0:Bool×qf}:∀j,(∀x,x<j->toQ ls lv node x=true->gt t.Bb (frN ls x)=gt a.Bb (frN ls x)/\gt t.Ah (frN ls x)=gt a.Ah (frN ls x)/\gt t.Be (frN ls x)=gt a.Be (frN ls x)) ->
  ndS f ls lv t node s0 j=ndS f ls lv a node s0 j:=by
 intro j
 induction j with
 |zero=>intro _;rfl
 |succ j ih=>
  intro h;unfold ndS;rw[ih fun x g=>h x (by omega)];cases hq:toQ ls lv node j
  ·rfl
  ·obtain⟨b,c,d⟩:=h j (by omega) hq;simp only[cond_true];unfold stepS;rw[b,c,d]
structure TmEq(f:Nat->qe->qe×qe)(ls:List qx)(lv:List Bool)(xs:List qf)(t:qr)(k:Nat):Prop where
 r:gt t.Bb k=(ndS f ls lv t (k:Int) (srcV (srcO xs (k:Int))) ls.length).1
 a:gt t.Bb k=true->gt t.Ah k=(ndS f ls lv t (k:Int) (srcV (srcO xs (k:Int))) ls.length).2.Ah
 s:gt t.Bb k=true->gt t.Be k=(ndS f ls lv t (k:Int) (srcV (srcO xs (k:Int))) ls.length).2.Be
 b:gt t.Bb k=true->spanB (gt t.Ah k)=true
theorem qBW(h:LkOk ls M):∀(R d:List Nat) (t D:qr),OrdOk ls.length (frL ls) (toL ls) (lvL lv) M (d++R)->(t.Bb.length=M/\t.Ah.length=M/\t.Be.length=M)->Bare t M d->(∀k,k∈d->TmEq f ls lv xs t k) ->
  rnO f ls lv xs R t=V D->∀k,k∈d++R->TmEq f ls lv xs D k:=by
 intro R
 induction R with
 |nil=>
  intro d t D _ _ _ L e k T;obtain rfl:=Option.some.inj e;rw[jU] at T;exact L k T
 |cons k R ih=>
  intro d t D I Y S L e;obtain⟨z,v,A⟩:=Y;have assoc:d++k::R=(d++[k])++R:=by simp
  obtain⟨O,kn,k0⟩:=I d k R Z;have Q:∀y,y∈d++[k]->∀x,x<ls.length->toQ ls lv (y:Int) x=true->frN ls x∈d:=by
   intro y b x N C;unfold toQ at C;rw[jf,beq_iff_eq] at C;have fin:∀l a,OrdOk ls.length (frL ls) (toL ls) (lvL lv) M (l++y::a)->frN ls x∈l:=fun l a H=>by
    have:=ql7.1 (H l y a Z).2.2 x N C.1 C.2;rw[show frL ls x=(frN ls x:Int) from(qk3 h N).1,qiD] at this;exact this
   rcases List.mem_append.1 b with b|b
   ·obtain⟨a,c,rfl⟩:=List.append_of_mem b;have:frN ls x∈a:=fin a (c++k::R) (by simpa using I);exact jJ _ this
   ·obtain rfl:=List.mem_singleton.1 b;exact fin d R I
  have J:∀y,y∈d->y≠k:=fun y b e=>kn (e ▸ b);rw[assoc];unfold rnO at e;have n:∀{u:qr},(∀y,y≠k->gt u.Bb y=gt t.Bb y/\gt u.Ah y=gt t.Ah y/\gt u.Be y=gt t.Be y)->Bare u M (d++[k]):=fun hu y b W=>by
   obtain⟨u1,u2,u3⟩:=hu y (fun e=>W (jR _ (List.mem_singleton.2 e)));rw[u1,u2,u3];exact S y b fun hm=>W (jJ _ hm)
  cases h1:(ndS f ls lv t (k:Int) (srcV (srcO xs (k:Int))) ls.length).1
  ·rw[h1] at e;refine ih (d++[k]) t D (by rw[<-assoc];exact I) ⟨z,v,A⟩ (n fun y _=>⟨rfl,rfl,rfl⟩) (fun y b=>?_) e;rcases List.mem_append.1 b with b|b
   ·exact L y b
   ·obtain rfl:=List.mem_singleton.1 b;have X:=(S y O kn).1;have P:gt t.Bb y≠true:=by rw[X];decide
    exact⟨by rw[X,h1],fun e=>absurd e P,fun e=>absurd e P,fun e=>absurd e P⟩
  ·rw[h1] at e;cases H:spanB (ndS f ls lv t (k:Int) (srcV (srcO xs (k:Int))) ls.length).2.Ah
   ·rw[H] at e;cases e
   ·rw[H] at e;have g:∀y,gt (setT t k (ndS f ls lv t (k:Int) (srcV (srcO xs (k:Int))) ls.length)).Bb y=(if y=k then true else gt t.Bb y)/\gt (setT t k (ndS f ls lv t (k:Int) (srcV (srcO xs (k:Int))) ls.length)).Ah y=(if y=k then(ndS f ls lv t (k:Int) (srcV (srcO xs (k:Int))) ls.length).2.Ah else gt t.Ah y) /\
      gt (setT t k (ndS f ls lv t (k:Int) (srcV (srcO xs (k:Int))) ls.length)).Be y=(if y=k then(ndS f ls lv t (k:Int) (srcV (srcO xs (k:Int))) ls.length).2.Be else gt t.Be y):=fun y=>by
     refine⟨?_,?_,?_⟩
     ·show gt (setS _ _ _) y=_;rw[qiP (by rw[z];exact O),h1]
     ·show gt (setS _ _ _) y=_;rw[qiP (by rw[v];exact O)]
     ·show gt (setS _ _ _) y=_;rw[qiP (by rw[A];exact O)]
    have m:∀y,y≠k->gt (setT t k (ndS f ls lv t (k:Int) (srcV (srcO xs (k:Int))) ls.length)).Bb y=gt t.Bb y/\gt (setT t k (ndS f ls lv t (k:Int) (srcV (srcO xs (k:Int))) ls.length)).Ah y=gt t.Ah y/\gt (setT t k (ndS f ls lv t (k:Int) (srcV (srcO xs (k:Int))) ls.length)).Be y=gt t.Be y:=fun y b=>by
     obtain⟨p,F,K⟩:=g y;rw[if_neg b] at p F K;exact⟨p,F,K⟩
    have len:(setT t k (ndS f ls lv t (k:Int) (srcV (srcO xs (k:Int))) ls.length)).Bb.length=M/\(setT t k (ndS f ls lv t (k:Int) (srcV (srcO xs (k:Int))) ls.length)).Ah.length=M/\(setT t k (ndS f ls lv t (k:Int) (srcV (srcO xs (k:Int))) ls.length)).Be.length=M:=
     ⟨by show(setS _ _ _).length=_;rw[qcK];exact z,by show(setS _ _ _).length=_;rw[qcK];exact v,by show(setS _ _ _).length=_;rw[qcK];exact A⟩
    obtain⟨r,i,s⟩:=g k;rw[if_pos Z] at r i s;have o:∀y,y∈d++[k]->ndS f ls lv (setT t k (ndS f ls lv t (k:Int) (srcV (srcO xs (k:Int))) ls.length)) (y:Int) (srcV (srcO xs (y:Int))) ls.length=ndS f ls lv t (y:Int) (srcV (srcO xs (y:Int))) ls.length:=fun y b=>
     qyH _ fun x N C=>m _ (J _ (Q y b x N C))
    generalize setT t k (ndS f ls lv t (k:Int) (srcV (srcO xs (k:Int))) ls.length)=u at e m r i s len o;refine ih (d++[k]) u D (by rw[<-assoc];exact I) len (n m) (fun y b=>?_) e;have B:=o y b;rcases List.mem_append.1 b with b|b
    ·obtain⟨p,F,K⟩:=m y (J y b);have b:=L y b;exact⟨by rw[B,p];exact b.r,fun e=>by rw[B,F];exact b.a (by rw[<-p];exact e),fun e=>by rw[B,K];exact b.s (by rw[<-p];exact e),fun e=>by rw[F];exact b.b (by rw[<-p];exact e)⟩
    ·obtain rfl:=List.mem_singleton.1 b;exact⟨by rw[B,r,h1],fun _=>by rw[B,i],fun _=>by rw[B,s],fun _=>by rw[i];exact H⟩
theorem qAI{t:qr}{node:Int}{s0:Bool×qf}(c:s0.1=true):∀j,(ndS f ls lv t node s0 j).1=true/\InS s0.2.Ah (ndS f ls lv t node s0 j).2.Ah/\InS s0.2.Be (ndS f ls lv t node s0 j).2.Be:=by
 intro j
 induction j with
 |zero=>exact⟨c,.refl,.refl⟩
 |succ j ih=>
  obtain⟨i1,a,b⟩:=ih;unfold ndS;cases toQ ls lv node j
  ·exact⟨i1,a,b⟩
  ·simp only[cond_true];unfold stepS;cases gt t.Bb (frN ls j)
   ·exact⟨i1,a,b⟩
   ·simp only[cond_true];unfold joinS;rw[i1];exact⟨rfl,a.trans .hullL,b.trans .hullL⟩
theorem qz0{t:qr}{node:Int}{s0:Bool×qf}{x:Nat}(c:toQ ls lv node x=true)(d:gt t.Bb (frN ls x)=true):∀j,x<j->(ndS f ls lv t node s0 j).1=true /\
  InS (plusS (gt t.Ah (frN ls x)) (f x (gt t.Be (frN ls x))).1) (ndS f ls lv t node s0 j).2.Ah/\InS (f x (gt t.Be (frN ls x))).2 (ndS f ls lv t node s0 j).2.Be:=by
 intro j
 induction j with
 |zero=>intro g;omega
 |succ j ih=>
  intro g;unfold ndS;by_cases e:x=j
  ·subst e;rw[c];simp only[cond_true];unfold stepS;rw[d];simp only[cond_true];unfold joinS;cases (ndS f ls lv t node s0 x).1
   ·exact⟨rfl,.refl,.refl⟩
   ·exact⟨rfl,.hullR,.hullR⟩
  ·obtain⟨i1,a,b⟩:=ih (by omega);cases toQ ls lv node j
   ·exact⟨i1,a,b⟩
   ·simp only[cond_true];unfold stepS;cases gt t.Bb (frN ls j)
    ·exact⟨i1,a,b⟩
    ·simp only[cond_true];unfold joinS;rw[i1];exact⟨rfl,a.trans .hullL,b.trans .hullL⟩
end
structure JobT(j:qay)(t:qr)(f:Nat->qe->qe×qe):Prop where
 ss:SpansS j.Ac j.Af f
 si:SpansI j.Ac j.Af [] f
 eq:∀k,k<ndB j.Ac->TmEq f (linksL j.Ac) (lvJ j.Ac j.Av) j.Aq t k
 pt:Ev (fun n=>qaV n j.Ac j.Af j.Av j.Aq) (t,0)
theorem qCv{j:qay}{t:qr}(h:qjT j)(D:Ev (fun n=>qcF n j) (swV j t,0)):∃f,JobT j t f:=by
 have l:=h.Av.len;have u:=h.Aq.len;have F:∀{g:qr} {a:Int},Ev (fun n=>qaV n j.Ac j.Af j.Av j.Aq) (g,a)->a=0/\g=t:=by
  intro g a m;unfold qcF at D;by_cases d:a=0
  ·subst d;refine⟨rfl,?_⟩;cases hbk:blockB j.Ac
   ·exfalso;unfold qaV qhX at m;have J:=qo3 h.Ac;rw[hbk] at J;have:=m.uniq (Ev.bind (b:=([],1)) (Ev.bind (b:=true) (Ev.bind J (Ev.tt Z .done)) (Ev.tt Z .done)) (Ev.tt Z .done));cases this
   ·have x:=qj3 (ls:=linksL j.Ac) (br:=j.Av) (qhU hbk) l;have:=D.uniq (Ev.bind m (Ev.ff Z (Ev.bind (qfO hbk) (Ev.bind x .done))));unfold swV at this;injection this with c _;injection c with c;injection c with _ _ _ c;exact c.symm
  ·have:=D.uniq (Ev.bind m (Ev.tt (qjm d) .done));unfold swV at this;cases this
 have I:∃o,((∃f g ,o=(g,(0:Int))/\SpansS j.Ac j.Af f/\SpansI j.Ac j.Af [] f/\∀k,k<ndB j.Ac->TmEq f (linksL j.Ac) (lvJ j.Ac j.Av) j.Aq g k)\/o.2≠0)/\Ev (fun n=>qaV n j.Ac j.Af j.Av j.Aq) o:=by
  unfold qaV;rcases qBJ h.Ac h.Af.Bd l u with⟨a,d,hc,_⟩|⟨R,hg,hc,_⟩
  ·exact⟨(zT,a),.inr d,Ev.bind hc (Ev.tt (qjm d) .done)⟩
  ·have c:=hg.bl;have C:=qhU c;have B:=qgt c;have x:=qj3 (ls:=linksL j.Ac) (br:=j.Av) C l;obtain⟨f,K,A⟩:=qvp c hg.co;have r:=A [] (.inl Z);rw[quc] at r;have O:=qaU (qQ (qar c));have p:=hg.len;have y:R.length<=1000:=by rw[p];show 2*(places j.Ac.Aa).length<=1000;omega
   have z:∀k,k∈R->k<2*(places j.Ac.Aa).length:=fun k s=>by
    obtain⟨i,hi,rfl⟩:=List.mem_iff_getElem.1 s;exact(hg.ord.at hi).1
   have v:=qxV (lv:=lvJ j.Ac j.Av) (R:=R) c K qnS (qo9 u hg.sr) z y;have H:=qBW (f:=f) (lv:=lvJ j.Ac j.Av) (xs:=j.Aq) B R [] (zTm (2*(places j.Ac.Aa).length));generalize rnO f (linksL j.Ac) (lvJ j.Ac j.Av) j.Aq R (zTm (2*(places j.Ac.Aa).length))=o at H v;cases o with
   |none=>exact⟨(zT,3),.inr (by decide),Ev.bind hc (Ev.ff Z (Ev.bind (qfO c) (Ev.bind x (Ev.bind v (Ev.tt Z .done)))))⟩
   |some g=>
    refine⟨(g,0),.inl ⟨f,g,rfl,K,r,fun k s=>?_⟩,Ev.bind hc (Ev.ff Z (Ev.bind (qfO c) (Ev.bind x (Ev.bind v (Ev.ff Z .done)))))⟩;obtain⟨i,hi,e⟩:=hg.ord.full p s;exact H g hg.ord ⟨jH,jH,jH⟩ qvh (fun k s=>by cases s) rfl k (by rw[<-e];exact jp hi)
 obtain⟨o,N,m⟩:=I;obtain⟨H,v⟩:=o;obtain⟨L,M⟩:=F m;subst L;subst M;rcases N with⟨f,g,e,c,h2,h3⟩|d
 ·injection e with e _;subst e;exact⟨f,c,h2,h3,m⟩
 ·exact absurd Z d

section
variable{j:qay}{t:qr}{R:List Nat}{c:List Int}{f:Nat->qe->qe×qe}
theorem qua{g:Nat->Int}:∀l:List Nat,(∀x,x∈l->g x=0)->l.foldl (fun v k=>mn6 (W64 (v+g k))) 0=0
  | [],_=>rfl
  |x::l,h=>by
    rw[List.foldl_cons,h x (jx ..)];exact qua l fun y a=>h y (jo _ a)
theorem unreached(k:WkOk j t R)(l:JobT j t f)(n:CtOk j c):∀m i,∀hi:i<R.length,i<m->gt t.Bb R[i]=false->gt c R[i]=0
  |0,_,_,h,_=>absurd h (Jn _)
  |m+1,i,hi,hm,hr=>by
    have o:R[i]<ndB j.Ac:=(k.tg.ord.at hi).1;have e:=n R[i] o;have a:=(l.eq R[i] o).r;rw[hr] at a;have s:(srcV (srcO j.Aq (R[i]:Int))).1=false:=by
      cases hs:(srcV (srcO j.Aq (R[i]:Int))).1 with
      |false=>rfl
      |true=>
        have:=(qAI (f:=f) (ls:=linksL j.Ac) (lv:=lvJ j.Ac j.Av) (t:=t) (node:=(R[i]:Int)) hs (linksL j.Ac).length).1;rw[this] at a;cases a
    have b:∀x,x∈selB j R[i]->gt c (frN (linksL j.Ac) x)=0:=fun x b=>by
      obtain⟨x1,v,d,u,r⟩:=qjL k hi b;have p:gt t.Bb (frN (linksL j.Ac) x)=false:=by
        cases hs:gt t.Bb (frN (linksL j.Ac) x) with
        |false=>rfl
        |true=>
          have:=(qz0 (f:=f) (ls:=linksL j.Ac) (lv:=lvJ j.Ac j.Av) (t:=t) (node:=(R[i]:Int)) (s0:=srcV (srcO j.Aq (R[i]:Int))) (qfx.1 b).2 hs (linksL j.Ac).length x1).1;rw[this] at a;cases a
      rw[<-r] at p⊢;exact unreached k l n m v d (by omega) p
    rw[e];unfold ctS st0;rw[s];exact qua (g:=fun x=>gt c (frN (linksL j.Ac) x)) _ b
theorem qBL(m:WkOk j t R)(s:JobT j t f)(n:CtOk j c):∀d i,∀hi:i<R.length,i<d->gt c R[i]<=300->((aP j t d R[i]).length:Int)=gt c R[i]
  |0,_,_,h,_=>absurd h (Jn _)
  |d+1,i,hi,h,h3=>by
    obtain⟨e,o⟩:=(qvn m n (i+1) i hi (by omega)).2.2 h3;have:=qxA (g:=fun x=>gt c (frN (linksL j.Ac) x)) (f:=legP t (aP j t d) (linksL j.Ac)) (selB j R[i]) fun x u=>by
      obtain⟨_,p,l,v,r⟩:=qjL m hi u;have a:=qBL m s n d p l (by omega) (by rw[r];exact o x u);have b:=unreached m s n (p+1) p l (by omega);rw[r] at a b;unfold legP;cases hr:gt t.Bb (frN (linksL j.Ac) x)
      · have:=b hr
        simpa using this.symm
      · simpa using a
    simp only[aP,jg];have:=quG (j:=j) (k:=R[i]);omega
def zP:qg:=⟨0,[],0⟩
def owA(d:Nat->Int->Int×Int)(j:qay)(mode:Int)(p:qg):Int:=(prS d (own0 j p.Bl mode) p.Bf p.Bf.length).1
theorem qzu{node mode:Int}(h:qjT j) :
    (∃code:Int,code≠0/\Ev (fun n=>qg9 n j node mode) (U,zP,code)/\Ev (fun n=>qcD n j mode [node]) (U,code)) \/
    ∃t R,WkOk j t R/\modeB mode=true/\inI node 0 ((ndB j.Ac:Int)-1)=true/\Ev (fun n=>qcD n j mode [node]) (wkV j t R,0) /\
      ((∃code:Int,code≠0/\Ev (fun n=>qg9 n j node mode) (U,zP,code)/\Ev (fun n=>qc7 n (wkV j t R) node mode) (zP,code)) \/
       ∃P:qg,P.Bf.length<=156/\Ev (fun n=>qg9 n j node mode) (swV j t,P,0)/\Ev (fun n=>qc7 n (wkV j t R) node mode) (P,0)):=by
  unfold qg9 qc7;rcases qwo (node:=node) h mode with⟨code,hne,hs,hi⟩|⟨t,R,hw,hr,ho,hs,hi⟩
  · exact .inl ⟨code,hne,Ev.bind hs (Ev.tt (qjm hne) .done),hi⟩
  obtain⟨r0,r1,r2⟩:=inRange hr;obtain⟨f,hT⟩:=qCv h ho;obtain⟨c,cl,cc,O⟩:=qxx h hw;obtain⟨cs,I⟩:=O node.toNat r2;have F:=qwM h hw cc r2;have D:gt c node.toNat<=300->((aP j t R.length node.toNat).length:Int)=gt c node.toNat:=by
    obtain⟨i,hi,ei⟩:=hw.tg.ord.full hw.tg.len r2;have:=qBL hw hT cc R.length i hi hi;rw[ei] at this;exact this
  rw[<-qgS r0] at cs I F;have H:=fun(m:modeB mode=true) d (J:OwnOk j.Ac j.Af mode d) (p:qg) (hb:pathB j p.Bl p.Bf=true) (hl:p.Bf.length<=156)=>
    And.intro (qA6 h hw m J (start:=p.Bl) (path:=p.Bf) (by omega) fun i hi=>qvZ hb hi) (qyK h hw m J (start:=p.Bl) (path:=p.Bf) (by omega) fun i hi=>qvZ hb hi)
  obtain⟨N,x3,K⟩:=t;have r:Ev (fun n=>qe1 n j node) (V (⟨j,linksL j.Ac,lvJ j.Ac j.Av,⟨N,x3,K⟩⟩:Tl20Work),(0:Int)):=hs;cases m:modeB mode
  · rw[m] at hi
    refine .inl ⟨2,by decide,Ev.bind r ?_,hi⟩;simp only[qsT,m,jd];exact Ev.tt Z .done
  rw[m] at hi;refine .inr ⟨⟨N,x3,K⟩,R,hw,rfl,hr,hi,?_⟩;have sM:∀{α:Type} {g:Nat->Option α} {z a:α},Ev g a->Ev (fun n=>(qh5 n mode).bind fun r9=>bif (!r9) then V z else g n) a:=fun hg=>by
    simp only[qsT,m,jd];exact Ev.ff Z hg
  by_cases x:gt c node.toNat > 300
  · exact .inl ⟨3,by decide,Ev.bind r (sM (qw1 cs (Ev.tt (decide_eq_true x) .done))),Ev.bind I (Ev.tt (decide_eq_true x) .done)⟩
  obtain⟨L,hLc,Q,eL,sA,iA⟩:=F (by omega);have T:=D (by omega);rw[<-eL] at T;by_cases hz:gt c node.toNat=0
  · have C:L.length=0:=by omega
    exact .inl ⟨5,by decide,Ev.bind r (sM (qw1 cs (Ev.ff (decide_eq_false x) (Ev.tt (by simpa using hz) .done)))),Ev.bind I (Ev.ff (decide_eq_false x) (Ev.bind iA (Ev.tt (by rw[C];rfl) .done)))⟩
  have hl:L.length<=300:=by omega
  have C:0<L.length:=by omega
  obtain⟨d,J⟩:=qB5 hw.tg.bl hw.tg.co m;have own:=H m d J;have l:=loopF (Lf:=fun n s i=>qeP j mode K x3 N (lvJ j.Ac j.Av) (linksL j.Ac) L n s i) (S:=stM (setA (owA d j mode)) L) (len:=L.length) (fin:=(L.map (setA (owA d j mode)),(L.length:Int)))
    (fun n=>by simp only[qeP,qk (je _),cond_false,qvD])
    (fun i hi X B=>by
      have b:gt L i∈L:=by rw[qcG hi];exact jp hi
      obtain⟨a1,a2,_⟩:=Q _ b;simp only[qeP];refine Ev.tt (qj hi) (Ev.bindN (qp3 hi) (Ev.bindN (qp3 hi) (Ev.bind (own _ a2 a1).1 (Ev.bindN (qp3 hi) ?_))));rw[wS i];have e:=qxy (g:=setA (owA d j mode)) hi;unfold setA owA at e⊢;unfold setA owA at B;rw[e];exact B)
  have k:=loopF (Lf:=fun n s i=>qbF (wkV j ⟨N,x3,K⟩ R) mode L n s i) (S:=stM (setA (owA d j mode)) L) (len:=L.length) (fin:=(L.map (setA (owA d j mode)),(L.length:Int)))
    (fun n=>by simp only[qbF,qk (je _),cond_false,qvD])
    (fun i hi X B=>by
      have b:gt L i∈L:=by rw[qcG hi];exact jp hi
      obtain⟨a1,a2,_⟩:=Q _ b;simp only[qbF];refine Ev.tt (qj hi) (Ev.bindN (qp3 hi) (Ev.bind (own _ a2 a1).2 (Ev.bindN (qp3 hi) ?_)));rw[wS i];have e:=qxy (g:=setA (owA d j mode)) hi;unfold setA owA at e⊢;unfold setA owA at B;rw[e];exact B)
  rw[qz9] at l k;have u:∀p,p∈L.map (setA (owA d j mode))->p.Bf.length<=156:=fun p v=>by
    obtain⟨q,Y,rfl⟩:=List.mem_map.1 v;exact(Q q Y).1
  have hnl:(L.map (setA (owA d j mode))).length=L.length:=ju _;have sS:=qya (list:=L.map (setA (owA d j mode))) m (by omega) fun p v=>by have:=u p v;omega
  have iS:=qzc (mode:=mode) (xs:=L.map (setA (owA d j mode))) (by omega) fun p v=>by have:=u p v;omega
  have o:0<(srtP mode (L.map (setA (owA d j mode)))).length:=by rw[qAh];omega
  have A:∀p,p∈srtP mode (L.map (setA (owA d j mode)))->p.Bf.length<=156:=fun p v=>u p (qz5.1 v);generalize srtP mode (L.map (setA (owA d j mode)))=M at sS iS o A;have W:gt M 0∈M:=by rw[qcG o];exact jp o
  have y:idx M (0:Int)=V (gt M 0):=qA o;refine .inr ⟨gt M 0,A _ W,Ev.bind r (sM (qw1 cs (Ev.ff (decide_eq_false x) (Ev.ff (by simpa using hz) (Ev.bind sA (Ev.bind l (Ev.bind sS (Ev.bindN y .done)))))))),Ev.bind I (Ev.ff (decide_eq_false x) (Ev.bind iA (Ev.ff ?_ (Ev.bind k (Ev.bind iS (Ev.bindN y .done))))))⟩;have:(L.length:Int)≠0:=by omega
  simpa using this
theorem qrK{node mode:Int}(h:qjT j):∃R:qg×Int,Ev (fun n=>qhy n j node mode) R/\Ev (fun n=>qfE n j node mode) R/\qpC R.1<=1048576:=by
  unfold qhy qfE;rcases qzu (node:=node) (mode:=mode) h with⟨code,hne,hs,hi⟩|⟨t,R,hw,hm,hr,hi,⟨code,hne,hs,hx⟩|⟨P,hP,hs,hx⟩⟩
  · exact⟨(zP,code),Ev.bind hs .done,Ev.bind hi (Ev.tt (qjm hne) .done),by show(0:Nat)<=1048576;decide⟩
  · exact⟨(zP,code),Ev.bind hs .done,Ev.bind hi (Ev.ff Z (Ev.bind hx .done)),by show(0:Nat)<=1048576;decide⟩
  · exact⟨(P,0),Ev.bind hs .done,Ev.bind hi (Ev.ff Z (Ev.bind hx .done)),by show P.Bf.length<=1048576;omega⟩
end

def Mk{σ:Type}(F:Nat->Option (Int×σ))(k:Int)(w:Nat):Prop:=∃k' x,Ev F (k',x)/\k<=k'/\k'<=k+16*(w:Int)
theorem qsQ{α:Type}{t:List α}{j:Nat}{y:α}(h:j<t.length):idx (setS t (j:Int) y) (j:Int)=V y:=by
 rw[qdA (by rw[qcK];exact h),qyq h]
theorem qqY{α:Type}{t:List α}{i:Int}{y z:α}:setS (setS t i y) i z=setS t i z:=by
 unfold setS;rw[List.set_set]
theorem qti{α:Type}{a:List α}{wt:α->Nat}{j:Nat}(h:j<a.length):((a.take (j+1)).map wt).sum=((a.take j).map wt).sum+wt a[j]:=by
 rw[js h,jL,List.sum_append];simp
theorem qvL{α:Type}{a:List α}{wt:α->Nat}{j:Nat}:((a.take j).map wt).sum<=(a.map wt).sum:=by
 conv=>rhs;rw[<-jX j a]
 rw[jL,List.sum_append];exact Nat.le_add_right _ _
theorem qig{α:Type}{a:List α}{wt:α->Nat}{Lf:Nat->List α->Int->Int->Option (List α×Int×Int)}{F:Nat->Option (Int×List α)}{k:Int}(s:0<=k)(u:k+16*((a.length+(a.map wt).sum:Nat):Int)<=1000000000000)
  (d:∀n t k,Lf (n+1) t k (a.length:Int)=V (t,k,(a.length:Int)))
  (c:∀x,x∈a->∀k:Int,0<=k->k+16*((1+wt x:Nat):Int)<=1000000000000->∃y b,k<=b/\b<=k+16*((1+wt x:Nat):Int) /\
   ∀(t:List α) (j:Nat),j<9223372036854775807->j<a.length->j<t.length->t[j]?=V x->∀X,Ev (fun n=>Lf n (setS t (j:Int) y) b ((j+1:Nat):Int)) X->Ev (fun n=>Lf (n+1) t k (j:Int)) X)
  (C:a.length<=1048576)
  (p:∀n,F n=(Lf n a k 0).bind fun(x1,i1,_)=>V (i1,x1)):Mk F k (a.length+(a.map wt).sum):=by
 obtain⟨⟨t,b⟩,⟨_,_,l,g⟩,e⟩:=loopE (τ:=List α×Int) (Lf:=fun n t j=>Lf n t.1 t.2 j) (fin:=fun t=>(t.1,t.2,(a.length:Int)))
  (fun j t=>t.1.length=a.length/\(∀i,j<=i->t.1[i]?=a[i]?)/\k<=t.2/\t.2<=k+16*((j+((a.take j).map wt).sum:Nat):Int)) (len:=a.length)
  (fun n t=>d n t.1 t.2)
  (fun j t f A=>by
   obtain⟨m,h,l,g⟩:=A;have v:=qti (wt:=wt) f;have z:=qvL (a:=a) (wt:=wt) (j:=j+1);obtain⟨y,b,D,H,B⟩:=c a[j] (jp f) t.2 (by omega) (by omega);refine⟨(setS t.1 (j:Int) y,b),⟨by rw[qcK];exact m,fun i hi=>?_,by show k<=b;omega,?_⟩,fun X r=>?_⟩
   ·show(t.1.set _ _)[i]?=_;rw[List.getElem?_set_ne (by rw[jr];omega)];exact h i (by omega)
   ·show b<=k+_;rw[v];omega
   ·exact B t.1 j (by omega) f (by omega) (by rw[h j (je _),jh f]) X r) 0 (Nat.zero_le _) (a,k) ⟨rfl,fun _ _=>rfl,Jd _,by show k<=k+_;omega⟩
 rw[jE] at g;exact⟨b,t,Ev.congr p (Ev.bind e .done),l,g⟩
theorem qzH{α:Type}{pre a:List α}{j:Nat}{y:α}(c:pre.length=j)(b:j<a.length):setS (pre++a.drop j) (j:Int) y=(pre++[y])++a.drop (j+1):=by
 show(pre++a.drop j).set j y=_;rw[List.set_append,if_neg (by omega),c,Nat.sub_self,jz b,List.set_cons_zero,jq]
 rfl
def marked(k:Int)(m:Nat):List Int:=(List.range m).map fun(i:Nat)=>k+(i:Int)
theorem qxq{a:List Int}{k:Int}(i:0<=k)(l:k<=1000000000000)(m:a.length<=1048576):Ev (fun n=>qaz n a k) (k+(a.length:Int),marked k a.length):=by
 have f:Ev (fun n=>qbh a n a k 0) (marked k a.length,k+(a.length:Int),(a.length:Int)):=by
  have:=loopF (τ:=List Int×Int) (Lf:=fun n t j=>qbh a n t.1 t.2 j) (S:=fun j=>(marked k j++a.drop j,k+(j:Int))) (len:=a.length) (fin:=(marked k a.length,k+(a.length:Int),(a.length:Int))) (fun n=>by
    simp only[qbh,qk (je _),cond_false,List.drop_length,jU])
   (fun j c X g=>by
    have d:(marked k j).length=j:=by simp[marked]
    have b:j<(marked k j++a.drop j).length:=by rw[jg,d,Jo];omega
    have h:marked k (j+1)=marked k j++[k+(j:Int)]:=by unfold marked;rw[List.range_succ,jL];rfl
    simp only[qbh,qj c,cond_true,qdA b,jd,qzH d c,wS j,qM (show -9223372036854775808<=k+(j:Int)+1 by omega) (by omega)];rw[<-h];rw[show k+(j:Int)+1=k+((j+1:Nat):Int) by omega];exact g)
  simpa [marked] using this
 unfold qaz;exact Ev.bind f .done
theorem qfZ{a:List Int}{k:Int}(b:0<=k)(c:k<=1000000000000)(d:qa7 a<=1048576):∃k' x,Ev (fun n=>qaz n a k) (k',x)/\k<=k'/\k'<=k+16*(qa7 a:Int):=
 ⟨_,_,qxq b c d,by omega,by unfold qa7;omega⟩
theorem qxK{a b:ByteArray}(h:a.size+b.size<=1000000):catB a b=V (a++b):=by
 unfold catB;rw[if_pos];show((a.size+b.size:Nat):Int)<=9223372036854775807;omega
theorem qt4{x:IntK .u8}:(strOf [x]).size=1:=rfl
theorem qkH{k:Int}(t:k<=1000000000001000):∃s,Ev (fun n=>qeF n k) s:=by
 have a:∀m:Nat,∀i1:Int,∀z:ByteArray,0<=i1->i1<=9000000000000000000->i1<10 ^ m->z.size+m<=1000->∃o:Int×ByteArray,o.2.size<=1000/\Ev (fun n=>qgu n i1 z) o:=by
  intro m
  induction m with
  |zero=>
   intro i1 z b h f hz;have:i1=0:=by have:(10:Int) ^ 0=1:=rfl;omega
   subst this;exact⟨(0,z),by show z.size<=1000;omega,Ev.succ (Ev.ff (by decide) .done)⟩
  |succ m ih=>
   intro i1 z b h f hz;by_cases p:i1=0
   ·subst p;exact⟨(0,z),by show z.size<=1000;omega,Ev.succ (Ev.ff (by decide) .done)⟩
   ·have l:i1.tdiv 10=i1 / 10:=jN b;have g:(10:Int) ^ (m+1)=10 ^ m*10:=Int.pow_succ _ _;have i:catB (strOf ([(⟨IntKind.wrap .u8 (W64 (48+(i1.tmod 10)))⟩:IntK .u8)])) z=V (strOf ([(⟨IntKind.wrap .u8 (W64 (48+(i1.tmod 10)))⟩:IntK .u8)])++z):=qxK (by rw[qt4];omega);obtain⟨o,c,e⟩:=ih (i1 / 10) (strOf ([(⟨IntKind.wrap .u8 (W64 (48+(i1.tmod 10)))⟩:IntK .u8)])++z) (by omega) (by omega) (by omega) (by rw[ByteArray.size_append,qt4];omega);refine⟨o,c,Ev.succ ?_⟩;simp only[qgu,show decide (i1 > 0)=true by simp;omega,cond_true,i,jd,l,qM (show -9223372036854775808<=i1 / 10 by omega) (by omega)];exact e
 unfold qeF;by_cases b:k<=0
 ·exact⟨_,Ev.tt (by simpa using b) .done⟩
 ·obtain⟨⟨u,d⟩,c,e⟩:=a 16 k ⟨#[]⟩ (by omega) (by omega) (by have:(10:Int) ^ 16=10000000000000000:=rfl;omega) (by decide);refine⟨(⟨#[109]⟩:ByteArray)++d,Ev.ff (by simp;omega) (Ev.bind e ?_)⟩;have c:d.size<=1000:=c;show Ev (fun n=>(catB ⟨#[109]⟩ d).bind fun r=>V r) _;rw[qxK (show(⟨#[109]⟩:ByteArray).size+d.size<=1000000 by have:(⟨#[109]⟩:ByteArray).size=1:=rfl;omega)];exact .done
theorem qzG{α:Type}{a:List α}:(a.map (fun _=>0)).sum=0:=by induction a<;>simp_all
theorem qpy{a:(List qy)}{k:Int}(f:0<=k)(b:k+16*(qdw a:Int)<=1000000000000)(c:qdw a<=1048576):Mk (fun n=>qiO n a k) k (qdw a):=by
 refine qig (a:=a) (wt:=(fun x:qy=>qex x)) f b (Lf:=qdz a) (fun n t k=>by simp only[qdz,qk (je _),cond_false]) (fun x d k f b=>?_) (by simp only[qdw] at c;omega) (fun _=>rfl);have m:=qcY (wt:=(fun x:qy=>qex x)) d;have g:qex x=qa7 x.Bo+qa7 x.Bk+qa7 x.Bj:=rfl;have c:a.length+(a.map (fun x:qy=>qex x)).sum<=1048576:=c;simp only[g] at m b⊢;obtain⟨o,x1,r,z,C⟩:=qfZ (a:=x.Bo) (k:=k) (by omega) (by omega) (by omega);obtain⟨p,v,s,A,D⟩:=qfZ (a:=x.Bk) (k:=o) (by omega) (by omega) (by omega);obtain⟨k3,x3,u,B,F⟩:=qfZ (a:=x.Bj) (k:=p) (by omega) (by omega) (by omega);refine⟨⟨x1,v,x3⟩,k3,by omega,by omega,fun t j i l y d X h=>?_⟩;simp only[qdz,qj l,cond_true,qc4 i]
 try simp only[qas d,jd]
 refine Ev.bind r ?_;refine Ev.bind s ?_;refine Ev.bind u ?_;exact h
theorem qwn{a:(List qJ)}{k:Int}(f:0<=k)(b:k+16*(qin a:Int)<=1000000000000)(c:qin a<=1048576):Mk (fun n=>qmK n a k) k (qin a):=by
 refine qig (a:=a) (wt:=(fun x:qJ=>qjS x)) f b (Lf:=qeZ a) (fun n t k=>by simp only[qeZ,qk (je _),cond_false]) (fun x d k f b=>?_) (by simp only[qin] at c;omega) (fun _=>rfl);have r:=qcY (wt:=(fun x:qJ=>qjS x)) d;have l:qjS x=qdw x.Bp+qdw x.Be:=rfl;have c:a.length+(a.map (fun x:qJ=>qjS x)).sum<=1048576:=c;simp only[l] at r b⊢;have e1:W64 (k+1)=k+1:=qM (by omega) (by omega);have g:W64 (k+1+1)=k+1+1:=qM (by omega) (by omega);have h:W64 (k+1+1+1)=k+1+1+1:=qM (by omega) (by omega);have i:W64 (k+1+1+1+1)=k+1+1+1+1:=qM (by omega) (by omega);obtain⟨s,x1,v,B,D⟩:=qpy (a:=x.Bp) (k:=k+1+1+1+1) (by omega) (by omega) (by omega);obtain⟨u,z,y,C,F⟩:=qpy (a:=x.Be) (k:=s) (by omega) (by omega) (by omega);refine⟨⟨k,k+1,k+1+1,k+1+1+1,x1,z⟩,u,by omega,by omega,fun t j o p A d X m=>?_⟩;simp only[qeZ,qj p,cond_true,qc4 o]
 try simp only[qas d,jd,e1,g,h,i]
 refine Ev.bind v ?_;refine Ev.bind y ?_;exact m
theorem qvy{a:(List qal)}{k:Int}(g:0<=k)(c:k+16*(qiq a:Int)<=1000000000000)(d:qiq a<=1048576):Mk (fun n=>qmL n a k) k (qiq a):=by
 refine qig (a:=a) (wt:=(fun x:qal=>qlS x)) g c (Lf:=qe2 a) (fun n t k=>by simp only[qe2,qk (je _),cond_false]) (fun x f k g c=>?_) (by simp only[qiq] at d;omega) (fun _=>rfl);have s:=qcY (wt:=(fun x:qal=>qlS x)) f;have m:qlS x=x.Bd.size:=rfl;have d:a.length+(a.map (fun x:qal=>qlS x)).sum<=1048576:=d;simp only[m] at s c⊢;obtain⟨v,b⟩:=qkH (k:=k) (by omega);have e1:W64 (k+1)=k+1:=qM (by omega) (by omega);have h:W64 (k+1+1)=k+1+1:=qM (by omega) (by omega);have i:W64 (k+1+1+1)=k+1+1+1:=qM (by omega) (by omega);have l:W64 (k+1+1+1+1)=k+1+1+1+1:=qM (by omega) (by omega);refine⟨⟨v,k+1,k+1+1,((k+1+1+1).tmod 3)==0⟩,k+1+1+1+1,by omega,by omega,fun t j p r u f X o=>?_⟩;simp only[qe2,qj r,cond_true,qc4 p]
 try simp only[qas f,qsQ u,jd,qqY]
 refine Ev.bind b ?_
 try simp only[e1,h,i,l]
 exact o
theorem quR{a:(List qz)}{k:Int}(h:0<=k)(d:k+16*(qgR a:Int)<=1000000000000)(f:qgR a<=1048576):Mk (fun n=>qlK n a k) k (qgR a):=by
 refine qig (a:=a) (wt:=(fun x:qz=>qgj x)) h d (Lf:=qd8 a) (fun n t k=>by simp only[qd8,qk (je _),cond_false]) (fun x g k h d=>?_) (by simp only[qgR] at f;omega) (fun _=>rfl);have u:=qcY (wt:=(fun x:qz=>qgj x)) g;have o:qgj x=x.Bd.size+qiq x.Bh+qin x.Bc+qa7 x.Bq:=rfl;have f:a.length+(a.map (fun x:qz=>qgj x)).sum<=1048576:=f;simp only[o] at u d⊢;obtain⟨B,c⟩:=qkH (k:=k) (by omega);have e1:W64 (k+1)=k+1:=qM (by omega) (by omega);have i:W64 (k+1+1)=k+1+1:=qM (by omega) (by omega);obtain⟨v,C,y,H,K⟩:=qvy (a:=x.Bh) (k:=k+1+1) (by omega) (by omega) (by omega);obtain⟨k3,x3,z,I,L⟩:=qwn (a:=x.Bc) (k:=v) (by omega) (by omega) (by omega);obtain⟨b,D,A,J,M⟩:=qfZ (a:=x.Bq) (k:=k3) (by omega) (by omega) (by omega);have l:W64 (b+1)=b+1:=qM (by omega) (by omega);have m:W64 (b+1+1)=b+1+1:=qM (by omega) (by omega);refine⟨⟨B,k+1,C,x3,D,b,b+1⟩,b+1+1,by omega,by omega,fun t j r s F g X p=>?_⟩;simp only[qd8,qj s,cond_true,qc4 r]
 try simp only[qas g,jd]
 refine Ev.bind c ?_
 try simp only[e1,i]
 refine Ev.bind y ?_;refine Ev.bind z ?_;refine Ev.bind A ?_
 try simp only[l,m]
 exact p
theorem qs4{a:qp}{k:Int}(g:0<=k)(b:k+16*(qeR a:Int)<=1000000000000)(c:qeR a<=1048576):Mk (fun n=>qic n a k) k (qeR a):=by
 simp only[qeR] at b c⊢;obtain⟨d,x1,f,h,i⟩:=quR (a:=a.Ay) (k:=k) (by omega) (by omega) (by omega);refine⟨d,x1,?_,by omega,by omega⟩;unfold qic;exact Ev.bind f (.done)
theorem qrj{a:(List ql)}{k:Int}(g:0<=k)(c:k+16*(qb3 a:Int)<=1000000000000)(d:qb3 a<=1048576):Mk (fun n=>qi0 n a k) k (qb3 a):=by
 refine qig (a:=a) (wt:=(fun x:ql=>qbR x)) g c (Lf:=qcw a) (fun n t k=>by simp only[qcw,qk (je _),cond_false]) (fun x f k g c=>?_) (by simp only[qb3] at d;omega) (fun _=>rfl);have p:=qcY (wt:=(fun x:ql=>qbR x)) f;have i:qbR x=x.Bd.size+qa7 x.As:=rfl;have d:a.length+(a.map (fun x:ql=>qbR x)).sum<=1048576:=d;simp only[i] at p c⊢;obtain⟨u,b⟩:=qkH (k:=k) (by omega);have e1:W64 (k+1)=k+1:=qM (by omega) (by omega);have h:W64 (k+1+1)=k+1+1:=qM (by omega) (by omega);obtain⟨r,v,s,z,A⟩:=qfZ (a:=x.As) (k:=k+1+1) (by omega) (by omega) (by omega);refine⟨⟨u,k+1,v⟩,r,by omega,by omega,fun t j m o y f X l=>?_⟩;simp only[qcw,qj o,cond_true,qc4 m]
 try simp only[qas f,jd]
 refine Ev.bind b ?_
 try simp only[e1,h]
 refine Ev.bind s ?_;exact l
theorem qsY{a:(List ByteArray)}{k:Int}(b:0<=k)(c:k+16*(qeM a:Int)<=1000000000000)(l:qeM a<=1048576):Mk (fun n=>qj2 n a k) k (qeM a):=by
 refine qig (a:=a) (wt:=(fun x:ByteArray=>x.size)) b c (Lf:=qdk a) (fun n t k=>by simp only[qdk,qk (je _),cond_false]) (fun x d k b c=>?_) (by simp only[qeM] at l;omega) (fun _=>rfl);obtain⟨s,f⟩:=qkH (k:=k) (by omega);have e1:W64 (k+1)=k+1:=qM (by omega) (by omega);refine⟨s,k+1,by omega,by omega,fun t j h i m d X g=>?_⟩;simp only[qdk,qj i,cond_true,e1,qc4 h];refine Ev.bind f ?_
 try simp only[qas d,jd]
 exact g
theorem quK{a:(List qR)}{k:Int}(g:0<=k)(c:k+16*(qgE a:Int)<=1000000000000)(d:qgE a<=1048576):Mk (fun n=>qlG n a k) k (qgE a):=by
 refine qig (a:=a) (wt:=(fun x:qR=>qi4 x)) g c (Lf:=qd5 a) (fun n t k=>by simp only[qd5,qk (je _),cond_false]) (fun x f k g c=>?_) (by simp only[qgE] at d;omega) (fun _=>rfl);have r:=qcY (wt:=(fun x:qR=>qi4 x)) f;have l:qi4 x=x.Bd.size:=rfl;have d:a.length+(a.map (fun x:qR=>qi4 x)).sum<=1048576:=d;simp only[l] at r c⊢;obtain⟨u,b⟩:=qkH (k:=k) (by omega);have e1:W64 (k+1)=k+1:=qM (by omega) (by omega);have h:W64 (k+1+1)=k+1+1:=qM (by omega) (by omega);have i:W64 (k+1+1+1)=k+1+1+1:=qM (by omega) (by omega);refine⟨⟨u,k+1,k+1+1⟩,k+1+1+1,by omega,by omega,fun t j o p s f X m=>?_⟩;simp only[qd5,qj p,cond_true,qc4 o]
 try simp only[qas f,qsQ s,jd,qqY]
 refine Ev.bind b ?_
 try simp only[e1,h,i]
 exact m
theorem qtm{a:qd}{k:Int}(m:0<=k)(b:k+16*(qfd a:Int)<=1000000000000)(c:qfd a<=1048576):Mk (fun n=>qiK n a k) k (qfd a):=by
 simp only[qfd] at b c⊢;obtain⟨d,x1,g,o,s⟩:=qrj (a:=a.Ab) (k:=k) (by omega) (by omega) (by omega);obtain⟨f,l,h,p,t⟩:=qsY (a:=a.As) (k:=d) (by omega) (by omega) (by omega);obtain⟨k3,x3,i,r,u⟩:=quK (a:=a.Ak) (k:=f) (by omega) (by omega) (by omega);refine⟨k3,(x1,l,x3),?_,by omega,by omega⟩;unfold qiK;exact Ev.bind g (Ev.bind h (Ev.bind i (.done)))
theorem quw{a:(List qE)}{k:Int}(f:0<=k)(b:k+16*(qgM a:Int)<=1000000000000)(c:qgM a<=1048576):Mk (fun n=>qlU n a k) k (qgM a):=by
 refine qig (a:=a) (wt:=(fun x:qE=>qf7 x)) f b (Lf:=qeg a) (fun n t k=>by simp only[qeg,qk (je _),cond_false]) (fun x d k f b=>?_) (by simp only[qgM] at c;omega) (fun _=>rfl);have m:=qcY (wt:=(fun x:qE=>qf7 x)) d;have g:qf7 x=qa7 x.Az+qa7 x.Bz+qa7 x.Bu+qa7 x.Bn:=rfl;have c:a.length+(a.map (fun x:qE=>qf7 x)).sum<=1048576:=c;simp only[g] at m b⊢;obtain⟨o,x1,s,C,I⟩:=qfZ (a:=x.Az) (k:=k) (by omega) (by omega) (by omega);obtain⟨p,z,u,D,J⟩:=qfZ (a:=x.Bz) (k:=o) (by omega) (by omega) (by omega);obtain⟨k3,x3,v,F,K⟩:=qfZ (a:=x.Bu) (k:=p) (by omega) (by omega) (by omega);obtain⟨r,A,y,H,L⟩:=qfZ (a:=x.Bn) (k:=k3) (by omega) (by omega) (by omega);refine⟨⟨x1,z,x3,A⟩,r,by omega,by omega,fun t j i l B d X h=>?_⟩;simp only[qeg,qj l,cond_true,qc4 i]
 try simp only[qas d,jd]
 refine Ev.bind s ?_;refine Ev.bind u ?_;refine Ev.bind v ?_;refine Ev.bind y ?_;exact h
theorem qu0{a:qh}{k:Int}(p:0<=k)(f:k+16*(qgQ a:Int)<=1000000000000)(g:qgQ a<=1048576):Mk (fun n=>qjz n a k) k (qgQ a):=by
 simp only[qgQ] at f g⊢;obtain⟨h,x1,l,r,u⟩:=qs4 (a:=a.Au) (k:=k) (by omega) (by omega) (by omega);obtain⟨i,⟨b,c,d⟩,m,s,v⟩:=qtm (a:=a.Aa) (k:=h) (by omega) (by omega) (by omega);obtain⟨k3,x3,o,t,x⟩:=quw (a:=a.Ai) (k:=i) (by omega) (by omega) (by omega);refine⟨k3,(x1,b,c,d,x3),?_,by omega,by omega⟩;unfold qjz;exact Ev.bind l (Ev.bind m (Ev.bind o (.done)))
theorem qsr{a:(List qf)}{k:Int}(c:0<=k)(d:k+16*(qeQ a:Int)<=1000000000000)(s:qeQ a<=1048576):Mk (fun n=>qj7 n a k) k (qeQ a):=by
 rw[show qeQ a=a.length+(a.map (fun _:qf=>0)).sum by unfold qeQ;rw[qzG,Jj]] at *;refine qig (a:=a) (wt:=(fun _:qf=>0)) c d (Lf:=qdf a) (fun n t k=>by simp only[qdf,qk (je _),cond_false]) (fun x b k c d=>?_) (by omega) (fun _=>rfl);have r:=qcY (wt:=(fun _:qf=>0)) b;have e1:W64 (k+1)=k+1:=qM (by omega) (by omega);have f:W64 (k+1+1)=k+1+1:=qM (by omega) (by omega);have g:W64 (k+1+1+1)=k+1+1+1:=qM (by omega) (by omega);have h:W64 (k+1+1+1+1)=k+1+1+1+1:=qM (by omega) (by omega);have i:W64 (k+1+1+1+1+1)=k+1+1+1+1+1:=qM (by omega) (by omega);refine⟨⟨k,⟨k+1,k+1+1⟩,⟨k+1+1+1,k+1+1+1+1⟩⟩,k+1+1+1+1+1,by omega,by omega,fun t j m o p b X l=>?_⟩;simp only[qdf,qj o,cond_true,qc4 m]
 try simp only[qas b,qsQ p,jd,qqY,e1,f,g,h,i]
 exact l
theorem qwy{a:qay}{k:Int}(t:0<=k)(h:k+16*(qk5 a:Int)<=1000000000000)(i:qk5 a<=1048576):Mk (fun n=>qlk n a k) k (qk5 a):=by
 simp only[qk5] at h i⊢;obtain⟨l,⟨b,c,d,f,g⟩,o,u,y⟩:=qu0 (a:=a.Ac) (k:=k) (by omega) (by omega) (by omega);obtain⟨m,s,p,v,z⟩:=qfZ (a:=a.Av) (k:=l) (by omega) (by omega) (by omega);obtain⟨k3,x3,r,x,A⟩:=qsr (a:=a.Aq) (k:=m) (by omega) (by omega) (by omega);refine⟨k3,(b,c,d,f,g,s,x3),?_,by omega,by omega⟩;unfold qlk;exact Ev.bind o (Ev.bind p (Ev.bind r (.done)))
end Go.Fw
