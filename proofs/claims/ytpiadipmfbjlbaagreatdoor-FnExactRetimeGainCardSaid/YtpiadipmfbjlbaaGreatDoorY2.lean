/- By a program of mine (gen.py): for each function a plain function and the proof that the code computes it. -/
import Derived.Test.YtpiadipmfbjlbaaGreatDoorSP
import Derived.Test.YtpiadipmfbjlbaaGreatDoorB9
import Derived.Test.YtpiadipmfbjlbaaGreatDoorFw34
open Option renaming bind_some->jd, some->V, none->U
open Nat renaming le_refl->je, le_trans->jX, not_lt_zero->Jk, add_zero->Jo
open Bool renaming and_eq_true->jf, true_and->jG, not_eq_true'->jI, not_true->Jg
open List renaming length_append->jg, getElem?_eq_getElem->jh, mem_cons_of_mem->jn, length_singleton->jo, getElem_mem->jp, append_assoc->jq, take_succ_eq_append_getElem->js, length_map->ju, length_take->jw, mem_cons_self->jx, getElem?_append_left->jy, getElem?_append_right->jA, drop_eq_getElem_cons->jB, getD_eq_getElem?_getD->jC, take_length->jE, length_replicate->jH, mem_append_left->jJ, mem_append_right->jP, map_append->jQ, append_nil->jW, getElem_take->jZ, take_append_drop->Ja, map_cons->Jb, mem_cons->Jc, getElem?_drop->Jd, flatMap_append->Ji, nil_append->Jj, length_cons->Jm
open Int renaming toNat_natCast->jr, le_refl->Je

namespace Go.Fw
open Go Go.Proofs Go.Proofs.Tryz
open Go.RowKit (Below)
open Ch renaming own->oW,box->oX,grp->oG
open GoT renaming v->oV
open Go.Value renaming slice->oS
set_option maxRecDepth 100000
set_option maxHeartbeats 6400000
variable{n:Nat}{w:World}{cs1 cs2 cs3 cs4 cs5 cs6 cs7 cs8 cs9:List Value}
def qcR(d:(Option Tl20Work))(node:Int):Nat->Int->Option (Flow (qh×Bool) Int)|0,_=>U|n+1,i1=>(d).bind fun a=>bif decide (i1<(a.j.Ap.length:Int)) then(idx a.j.Ap i1).bind fun b=>bif (b.Bq==node) then(idx a.j.Ap i1).bind fun c=>V (.ret (c,true)) else qcR d node n (W64 (i1+1)) else V (.nxt i1)
def qfz(n:Nat)(a:(Option Tl20Work))(node:Int):Option (qh×Bool):=(qcR a node n 0).bind fun|.ret r=>V r|.nxt _=>V ((⟨0,(⟨0,0⟩:qe),(⟨0,0⟩:qe)⟩:qh),false)
theorem qiZ{I:(Option Tl20Work)}{node}(d:Ro w I cs1){r:(qh×Bool)}(F:qfz n I node=V r):RetV prog 81 [oV (Option Tl20Work) cs1,vi node] w r:=by
 obtain⟨D,rfl,H⟩:=qau d;refine zV 37 func81 Z fun h=>zSR (qp qa h Z Z Z fun _ b h=>X0 7 Z ?_);obtain⟨B,F,c⟩:=qc F;refine qm (rL (fun m e w'=>∃i1,qcR I node m i1=V B/\e=[(0,.pointer D),(1,vi node),(4,vp b),(6,vi i1)]/\SH w w' [oX b [vi 0,vi 0,vi 0,vi 0,vi 0] 128]) n ⟨_,F,rfl,h⟩ Z ?_);rintro y _ _ ⟨i1,F,rfl,h⟩;rcases y with _|y
 ·cases F
 refine X0 5 Z ?_;obtain⟨_,x,F⟩:=qc F;obtain⟨_,C,_,rfl,-,t,a⟩:=PtR.get H x;obtain⟨_,_,_,_,_,_,_,_,_,_,_,_,_,_,_,_,_,_,_,_,_,_,_,_,rfl,_,_,_,_,_,_,z,_,_,_,_,_⟩:=qhX t;refine zp3 Z (zc 11 (a.below h.below) Z (X0 3 Z (qg Z F ?_ ?_)))<;>intro F
 ·refine X0 9 Z (zc 11 (a.below h.below) Z (zp1 Z ?_));obtain⟨_,_,F,i,_,_,_,_,l,p,u,f⟩:=z.ix F;obtain rfl:=qJ u;refine zxe l p i Z (zp1 Z (zc 0 (f.below h.below) Z (X0 3 Z (qg Z F ?_ ?_))))<;>intro F
  ·refine X0 6 Z (zc 11 (a.below h.below) Z (zp1 Z ?_));obtain⟨A,_,F,k,_,_,_,_,o,s,v,g⟩:=z.ix F;obtain rfl:=qJ v;refine zxe o s k Z (zc 0 (g.below h.below) Z (zs 0 h Z fun _ h=>X0 2 Z ?_));obtain rfl:=qb F;replace F:=c;obtain rfl:=qb F;exact qU qa (ρ:=(qh×Bool)) [oV qh (qfK A),oV Bool [.bool true]] h ⟨⟨_,_,_,rfl,rfl,h.box 0 Z,rfl⟩,rfl,G⟩ (PV.done h (qae h (qw (S:=fun _=>False) (qcg A)) (qaa (qw (S:=fun _=>False) Z)) (by rfl)))
  exact X0 7 Z (rK ⟨_,F,rfl,h⟩ Z)
 refine qu Z ?_;obtain rfl:=qb F;replace F:=c;refine zSR (r_v (qG qa [] [] Z Z Z Z Z Z Z Z) Z (zs 0 h Z fun _ h=>X0 2 Z ?_));obtain rfl:=qb F;exact qU qa (ρ:=(qh×Bool)) [oV qh [vi 0,vi 0,vi 0,vi 0,vi 0],oV Bool [.bool false]] h ⟨⟨_,_,_,rfl,rfl,h.box 0 Z,rfl⟩,rfl,G⟩ (PV.done h (qae h (qw (S:=fun _=>False) (qcg (⟨0,(⟨0,0⟩:qe),(⟨0,0⟩:qe)⟩:qh))) (qaa (qw (S:=fun _=>False) Z)) (by rfl)))
def qcm(b:Tl20Work)(d:(List Int))(f:Int):Nat->Int->Int->Option (Int×Int)|0,_,_=>U|n+1,c,a=>bif decide (a<(b.links.length:Int)) then((idx b.live a).bind fun i=>bif i then(idx b.links a).bind fun k=>V (k.To==f) else V false).bind fun b3=>bif b3 then(idx b.links a).bind fun h=>(idx d h.Bl).bind fun g=>qcm b d f n (if (W64 (c+g))<1000000 then(W64 (c+g)) else 1000000) (W64 (a+1)) else qcm b d f n c (W64 (a+1)) else V (c,a)
def qdP(a:(Option Tl20Work))(d:Tl20Work)(r4:(List Int)):Nat->(List Int)->Int->Option ((List Int)×Int)|0,_,_=>U|n+1,b,i1=>bif decide (i1<(r4.length:Int)) then(idx r4 i1).bind fun c=>(qfz n a c).bind fun(_,h)=>(bif h then V 1 else V 0).bind fun f=>(qcm d b c n f 0).bind fun(g,_)=>(idx b c).bind fun _=>qdP a d r4 n (setS b c g) (W64 (i1+1)) else V (b,i1)
def qfU(n:Nat)(b:(Option Tl20Work)):Option (List Int):=(b).bind fun a=>(qbI n (⟨(⟨a.j.Ac.Au.Ay⟩:qn),(⟨a.j.Ac.Aa.Ab,a.j.Ac.Aa.As,a.j.Ac.Aa.Ak⟩:qd),a.j.Ac.Ah⟩:qf)).bind fun c=>(mkS c (0:Int)).bind fun x1=>(qbI n (⟨(⟨a.j.Ac.Au.Ay⟩:qn),(⟨a.j.Ac.Aa.Ab,a.j.Ac.Aa.As,a.j.Ac.Aa.Ak⟩:qd),a.j.Ac.Ah⟩:qf)).bind fun d=>(qgz n d a.links a.live).bind fun(r4,_)=>(qdP b a r4 n x1 0).bind fun(f,_)=>V f
theorem qlA{g:(Option Tl20Work)}(S:Ro w g cs1){r:(List Int)}(F:qfU n g=V r):RetV prog 44 [oV (Option Tl20Work) cs1] w r:=by
 obtain⟨_,rfl,s1⟩:=qau S;refine zV 101 func44 Z fun h=>X0 7 Z ?_;obtain⟨y1,c9,F⟩:=qc F;obtain⟨b1,f,_,rfl,-,c1,a⟩:=PtR.get s1 c9;obtain⟨_,_,_,_,_,_,_,_,_,_,_,_,_,_,_,_,_,_,_,_,_,_,_,_,rfl,s2,s3,s4,s5,s6,_,_,s9,K,_,_,_⟩:=qhX c1;refine zp3 Z (zc 0 (a.below h.below) Z (zcI h F (qds (qdq _ (h.oldS s2) (h.oldS s3) (h.oldS s4) (h.oldS s5) (h.oldS s6))) Z fun _ _ h F=>?_));obtain⟨x1,i,F⟩:=qc F;obtain⟨g1,g2,i⟩:=qQ i;refine qai qa Int h Z Z Z Z Z Z Z Z Z g1 g2 i Z fun _ S1 c h=>X0 3 Z (rA [] [] h Z fun _ h=>M0 15 [0,1,2,3] (h.p [] Z) Z (Al 4 31 0 a (h.p [] Z) Z (M0 479 [6,7,8] (h.p [] Z) Z (Al 9 991 12 a (h.p [] Z) Z (M0 8159 [10,11,12] (h.p [] Z) Z (Al 13 16351 13 a (h.p [] Z) Z (Ao 5 16383 Z (zcI h F (qds (qdq _ (h.oldS s2) (h.oldS s3) (h.oldS s4) (h.oldS s5) (h.oldS s6))) Z fun _ _ h F=>Ag (h.p [] Z) (Ao 14 32767 Z ?_)))))))));obtain⟨⟨r4,r5⟩,c2,F⟩:=qc F;refine qaM (r4,r5) h (cB 80 Z) (qms ⟨_,_,rfl,(h.oldS s9)⟩ ⟨_,_,rfl,(h.oldS K)⟩ c2) Z Z Z Z fun _ _ _ c6 c3=>?_;obtain⟨L,_,d,b,_,rfl,c7,c4⟩:=c6.consL c3;obtain⟨rfl,h⟩:=c7.lastB c4;refine G0 1048575 [15,16,17,18,19] (h.p [] Z) Z (Ad (X0 5 Z ?_));obtain⟨o1,F,Q⟩:=qc F;refine qm (rL (fun m e w'=>∃k i1,qdP g y1 r4 m k i1=V o1/\e=[(0,.pointer (V ⟨b1,f,U⟩)),(3,oS c x1.length x1.length),(4,oS d r4.length b),(6,vi i1)]/\SH w w' [oW L (r4:List Int) [oS d r4.length b],oW S1 (k:List Int) [oS c x1.length x1.length]]) n ⟨_,_,F,rfl,h⟩ Z ?_);rintro m1 _ _ ⟨k,i1,F,rfl,h⟩;rcases m1 with _|m1
 ·cases F
 refine X0 8 Z (qg Z F ?_ ?_)<;>intro F
 ·refine X0 7 Z ?_;obtain⟨N,_,F,v,_,_,_,_,a7,b6,rfl,T⟩:=(h.sl 0 Z).1.ix F;refine zx a7 b6 ⟨v.1,qD v.2.1 (h.sl 0 Z).2⟩ Z (zc 0 T Z (X0 10 Z ?_));obtain⟨⟨r7,r8⟩,c5,F⟩:=qc F;refine qaM (r7,r8) h (cB 81 Z) (qiZ (h.old s1) c5) Z Z Z Z fun _ _ _ c8 B=>?_;obtain⟨_,_,_,_,rfl,I,C⟩:=c8.cons B;obtain rfl:=qJ (I.sh.own 0 Z);obtain⟨rfl,h⟩:=I.lastB C;refine zp3 Z (qp qa h Z Z Z fun _ _ h=>zs 0 h Z fun _ h=>X0 7 Z ?_);obtain⟨P,s,_,F,o⟩:=bindE F;refine qa1 (fun e w'=>∃i2,P i2=V o1/\e=[(0,.pointer (V ⟨b1,f,U⟩)),(3,oS c x1.length x1.length),(4,oS d r4.length b),(6,vi i1),(7,vi N),(8,vi i2)]/\SH w w' [oW L (r4:List Int) [oS d r4.length b],oW S1 (k:List Int) [oS c x1.length x1.length]]) ?_ ?_
  ·refine qg Z F ?_ ?_<;>intro F
   ·refine X0 3 Z ?_;replace h:=h.p [2,3] Z;obtain rfl:=qb F;exact rG ⟨_,o,rfl,h⟩ Z
   refine qcx ?_;replace h:=h.p [2,3] Z;obtain rfl:=qb F;exact rG ⟨_,o,rfl,h⟩ Z
  rintro _ _ ⟨i2,F,rfl,h⟩;subst s;refine X0 5 Z ?_;obtain⟨o2,F,R⟩:=qc F;refine qm (rL (fun m e w'=>∃J M,qcm y1 k N m J M=V o2/\e=[(0,.pointer (V ⟨b1,f,U⟩)),(3,oS c x1.length x1.length),(4,oS d r4.length b),(6,vi i1),(7,vi N),(8,vi J),(11,vi M)]/\SH w w' [oW L (r4:List Int) [oS d r4.length b],oW S1 (k:List Int) [oS c x1.length x1.length]]) m1 ⟨_,_,F,rfl,h⟩ Z ?_);rintro m2 _ _ ⟨J,M,F,rfl,h⟩;rcases m2 with _|m2
  ·cases F
  refine X0 7 Z (zc 12 (a.below h.below) Z (X0 3 Z (qg Z F ?_ ?_)))<;>intro F
  ·refine X0 4 Z ?_;obtain⟨O,p,_,F,l⟩:=bindE F;refine qa1 (fun e w'=>∃b3,O b3=V o2/\e=[(0,.pointer (V ⟨b1,f,U⟩)),(3,oS c x1.length x1.length),(4,oS d r4.length b),(6,vi i1),(7,vi N),(8,vi J),(11,vi M),(81,.bool b3)]/\SH w w' [oW L (r4:List Int) [oS d r4.length b],oW S1 (k:List Int) [oS c x1.length x1.length]]) ?_ ?_
   ·refine X0 4 Z (zc 13 (a.below h.below) Z (zp1 Z ?_));obtain⟨_,_,F,a5,_,_,_,_,b4,b9,rfl,Y⟩:=K.ix F;refine zxe b4 b9 a5 Z (zc 0 (Y.below h.below) Z (zp1 Z (qk (t:=70) F Z ?_ ?_)))<;>intro F
    ·refine X0 7 Z (zc 12 (a.below h.below) Z (X0 3 Z ?_));obtain⟨_,_,F,a6,_,_,_,_,b5,c0,H,a3⟩:=s9.ix F;obtain rfl:=qar H;refine zxe b5 c0 a6 Z (X0 3 Z (zc 1 (a3.below h.below) Z (X0 6 Z ?_)));obtain rfl:=qb F;exact rG ⟨_,l,rfl,h⟩ Z
    refine X0 12 Z ?_;obtain rfl:=qb F;exact rG ⟨_,l,rfl,h⟩ Z
   rintro _ _ ⟨b3,F,rfl,h⟩;subst p;refine qg Z F ?_ ?_<;>intro F
   ·refine X0 6 Z (zc 12 (a.below h.below) Z (zp1 Z ?_));obtain⟨_,_,F,a4,_,_,_,_,a8,b7,D,W⟩:=s9.ix F;obtain rfl:=qar D;refine zxe a8 b7 a4 Z (zp1 Z (zc 0 (W.below h.below) Z ?_));obtain⟨_,_,F,x,_,_,_,_,a9,b8,rfl,X⟩:=(h.sl 1 Z).1.ix F;exact zx a9 b8 ⟨x.1,qD x.2.1 (h.sl 1 Z).2⟩ Z (zc 0 X Z (X0 10 Z (rK ⟨_,_,F,rfl,h⟩ Z)))
   exact X0 7 Z (rK ⟨_,_,F,rfl,h⟩ Z)
  refine qu Z ?_;obtain rfl:=qb F;replace F:=R;refine X0 4 Z ?_;obtain⟨_,d0,F,y,_,_,_,_,z,A,rfl,u⟩:=(h.sl 1 Z).1.ix F;exact zx z A ⟨y.1,qD y.2.1 (h.sl 1 Z).2⟩ Z (qbg qa 1 0 J h Z d0 z A Z u Z Z Z Z Z Z Z fun _ h=>X0 7 Z (rK ⟨_,_,F,rfl,h⟩ Z))
 refine qu Z ?_;obtain rfl:=qb F;replace F:=Q;refine X0 5 Z ?_;obtain rfl:=qb F;exact rO 1 h Z ⟨rfl,G⟩
def qbz(f:Tgraph)(c:Int)(d:(List Int)):Nat->(List Int)->Int->Option ((List Int)×Int)|0,_,_=>U|n+1,a,b=>bif decide (b<(d.length:Int)) then(idx d b).bind fun i=>(idx a c).bind fun g=>(f.view).bind fun k=>(idx k.links i).bind fun l=>(idx a l.Bl).bind fun h=>(idx a c).bind fun _=>qbz f c d n (setS a c (if 1000000<(W64 (g+h)) then 1000000 else(W64 (g+h)))) (W64 (b+1)) else V (a,b)
def qb5(c:Twork)(f:Tgraph):Nat->(List Int)->Int->Option ((List Int)×Int)|0,_,_=>U|n+1,b,i1=>bif decide (i1<(c.order.length:Int)) then(idx c.order i1).bind fun a=>(qdz n c.job.Ap a).bind fun(_,r4)=>(bif r4 then(idx b a).bind fun d=>(idx b a).bind fun _=>V (setS b a (W64 (d+1))) else V b).bind fun x3=>(qgJ n c.graph a).bind fun g=>(qbz f a g n x3 0).bind fun(h,_)=>qb5 c f n h (W64 (i1+1)) else V (b,i1)
def qfy(n:Nat)(a:(Option Twork))(b:Int):Option Int:=(a).bind fun d=>(d.graph).bind fun f=>(qb3 n f.view).bind fun g=>(mkS g (0:Int)).bind fun x1=>(qb5 d f n x1 0).bind fun(h,_)=>(idx h b).bind fun c=>V c
theorem qmW{l:(Option Twork)}{b}(a7:Ro w l cs1){r:Int}(F:qfy n l b=V r):RetV prog 47 [oV (Option Twork) cs1,vi b] w r:=by
 obtain⟨_,rfl,s1⟩:=qau a7;refine zV 90 func47 Z fun h=>X0 7 Z ?_;obtain⟨k,d5,F⟩:=qc F;obtain⟨b1,g,_,rfl,-,c8,c⟩:=PtR.get s1 d5;obtain⟨_,_,_,_,_,_,_,_,_,_,_,_,_,_,_,_,_,_,_,_,_,i,f,rfl,s2,_,_,_,_,_,_,s9,_,_,_,s13⟩:=qlf c8;refine zp2 Z (zc 0 (c.below h.below) Z ?_);obtain⟨y2,d6,F⟩:=qc F;obtain⟨_,o_2,_,rfl,-,c9,x⟩:=PtR.get s2 d6;obtain⟨_,_,_,rfl,a3,_⟩:=qek c9;refine zp2 Z (zc 0 (x.below h.below) Z (zcI h F (qdl (h.old a3)) Z fun _ w1 h F=>?_));obtain⟨x1,d,F⟩:=qc F;obtain⟨g1,g2,d⟩:=qQ d;refine qai qa Int h Z Z Z Z Z Z Z Z Z g1 g2 d Z fun _ S1 a h=>X0 8 Z (zc 16 (c.below h.below) Z (X0 3 Z ?_));obtain⟨o1,F,a5⟩:=qc F;refine qm (rL (fun m e w'=>∃x2 i1,qb5 k y2 m x2 i1=V o1/\e=[(0,.pointer (V ⟨b1,g,U⟩)),(1,vi b),(5,oS a x1.length x1.length),(24,oS i k.order.length f),(25,vi (k.order.length:Int)),(26,vi i1)]/\SH w w' [oW S1 (x2:List Int) [oS a x1.length x1.length]]) n ⟨_,_,F,rfl,h⟩ Z ?_);rintro m1 _ _ ⟨x2,i1,F,rfl,h⟩;rcases m1 with _|m1
 ·cases F
 refine X0 5 Z (qg Z F ?_ ?_)<;>intro F
 ·refine zKSBSR ?_;obtain⟨y3,_,F,b6,_,_,_,_,b8,c3,rfl,a8⟩:=s13.ix F;refine zxe b8 c3 b6 Z (zc 0 (a8.below h.below) Z (X0 9 Z (zc 12 (c.below h.below) Z (zp1 Z ?_))));obtain⟨⟨r3,r4⟩,d0,F⟩:=qc F;refine qaM (r3,r4) h (cB 83 Z) (qhr ⟨_,_,rfl,(h.oldS s9)⟩ d0) Z Z Z Z fun _ _ _ d4 d1=>?_;obtain⟨_,_,_,_,rfl,S,d3⟩:=d4.cons d1;obtain rfl:=qJ (S.sh.own 0 Z);obtain⟨rfl,h⟩:=S.lastB d3;refine zp3 Z (qp qa h Z Z Z fun _ _ h=>zs 0 h Z fun _ h=>X0 6 Z ?_);obtain⟨a4,p,_,F,o⟩:=bindE F;refine qa1 (fun e w'=>∃x3,a4 x3=V o1/\e=[(0,.pointer (V ⟨b1,g,U⟩)),(1,vi b),(5,oS a x1.length x1.length),(7,vi y3),(24,oS i k.order.length f),(25,vi (k.order.length:Int)),(26,vi i1)]/\SH w w' [oW S1 (x3:List Int) [oS a x1.length x1.length]]) ?_ ?_
  ·refine qg Z F ?_ ?_<;>intro F
   ·refine X0 3 Z ?_;obtain⟨y10,_,F,C,_,_,_,_,c1,c6,rfl,t⟩:=(h.sl 2 Z).1.ix F;refine zx c1 c6 ⟨C.1,qD C.2.1 (h.sl 2 Z).2⟩ Z (zc 0 t Z (zp1 Z ?_));obtain⟨_,T,F,D,_,_,_,_,L,P,rfl,u⟩:=(h.sl 2 Z).1.ix F;refine zx L P ⟨D.1,qD D.2.1 (h.sl 2 Z).2⟩ Z (qbg qa 2 0 (W64 (y10+1)) h Z T L P Z u Z Z Z Z Z Z Z fun _ h=>qaj ?_);replace h:=h.p [2] Z;obtain rfl:=qb F;exact rG ⟨_,o,rfl,h⟩ Z
   refine qcx ?_;replace h:=h.p [2] Z;obtain rfl:=qb F;exact rG ⟨_,o,rfl,h⟩ Z
  rintro _ _ ⟨x3,F,rfl,h⟩;subst p;refine X0 5 Z (zc 0 (c.below h.below) Z (zp1 Z (zcL h F (qjs (h.old s2)) Z fun Y _ S6 X W h F=>X0 3 Z ?_)));obtain⟨o2,F,a6⟩:=qc F;refine qm (rL (fun m e w'=>∃x4 i2,qbz y2 y3 Y m x4 i2=V o2/\e=[(0,.pointer (V ⟨b1,g,U⟩)),(1,vi b),(5,oS a x1.length x1.length),(7,vi y3),(24,oS i k.order.length f),(25,vi (k.order.length:Int)),(26,vi i1),(52,oS X Y.length W),(53,vi (Y.length:Int)),(54,vi i2)]/\SH w w' [oW S6 (Y:List Int) [oS X Y.length W],oW S1 (x4:List Int) [oS a x1.length x1.length]]) m1 ⟨_,_,F,rfl,h⟩ Z ?_);rintro m2 _ _ ⟨x4,i2,F,rfl,h⟩;rcases m2 with _|m2
  ·cases F
  refine X0 5 Z (qg Z F ?_ ?_)<;>intro F
  ·refine zKSBSR ?_;obtain⟨_,_,F,y,_,_,_,_,b9,c4,rfl,a9⟩:=(h.sl 0 Z).1.ix F;refine zx b9 c4 ⟨y.1,qD y.2.1 (h.sl 0 Z).2⟩ Z (zc 0 a9 Z (X0 2 Z (rA [26] [1] h Z fun _ h=>M0 15 [0,1,2,3] (h.p [1] Z) Z ?_)));obtain⟨y5,d7,F,z,_,_,_,_,I,M,rfl,_⟩:=(h.sl 1 Z).1.ix F;refine Ax 4 31 I M ⟨z.1,qD z.2.1 (h.sl 1 Z).2⟩ (h.p [1] Z) Z (Aw 5 63 (fun w' hw=>qfv qa (qbU (w1:=w) (S1:=fun _=>False) hw 0 Z d7 I M Z) (j:=0) Z Z Z) (h.p [1] Z) Z ?_);refine M0 1023 [6,7,8,9] (h.p [1] Z) Z (Al 10 2047 0 c (h.p [1] Z) Z (M0 8191 [11,12] (h.p [1] Z) Z (Al 13 16383 0 x (h.p [1] Z) Z ?_)));obtain⟨_,d8,F⟩:=qc F;obtain⟨_,o_6,_,rfl,-,Q,b4⟩:=PtR.get a3 d8;obtain⟨_,_,_,_,_,_,_,_,_,_,_,_,_,_,_,_,_,_,_,_,rfl,_,_,_,_,_,_,s22,_,_,_⟩:=qcf Q;refine M0 65535 [14,15] (h.p [1] Z) Z (Al 16 131071 6 b4 (h.p [1] Z) Z (M0 262143 [17] (h.p [1] Z) Z ?_));obtain⟨_,_,F,b7,_,_,_,_,c0,c5,R,b5⟩:=s22.ix F;obtain rfl:=qar R;refine Ae 18 524287 c0 c5 b7 (h.p [1] Z) Z (M0 1048575 [19] (h.p [1] Z) Z (Al 20 2097151 0 b5 (h.p [1] Z) Z ?_));obtain⟨y8,d9,F,A,_,_,_,_,J,N,rfl,_⟩:=(h.sl 1 Z).1.ix F;refine Ax 21 4194303 J N ⟨A.1,qD A.2.1 (h.sl 1 Z).2⟩ (h.p [1] Z) Z (Aw 22 8388607 (fun w' hw=>qfv qa (qbU (w1:=w) (S1:=fun _=>False) hw 0 Z d9 J N Z) (j:=0) Z Z Z) (h.p [1] Z) Z ?_);refine M0 33554431 [23,24] (h.p [1] Z) Z ?_;obtain⟨_,e2,F,B,_,_,_,_,K,O,rfl,s⟩:=(h.sl 1 Z).1.ix F;exact Ax 25 67108863 K O ⟨B.1,qD B.2.1 (h.sl 1 Z).2⟩ (h.p [1] Z) Z (Ao 26 134217727 Z (qbg qa 1 0 (if 1000000<(W64 (y5+y8)) then 1000000 else(W64 (y5+y8))) h Z e2 K O Z s Z Z Z Z Z Z Z fun _ h=>qaX (fun hs=>absurd (hs 26 (by decide)) (by decide)) (Ad (X0 5 Z (rK ⟨_,_,F,rfl,h⟩ Z)))))
  refine qu Z ?_;obtain rfl:=qb F;replace F:=a6;refine X0 5 Z ?_;replace h:=h.p [1] Z;exact rK ⟨_,_,F,rfl,h⟩ Z
 refine qu Z ?_;obtain rfl:=qb F;replace F:=a5;refine X0 4 Z ?_;obtain⟨_,_,F,H,_,_,_,_,c2,c7,rfl,v⟩:=(h.sl 0 Z).1.ix F;exact zx c2 c7 ⟨H.1,qD H.2.1 (h.sl 0 Z).2⟩ Z (zc 0 v Z (X0 2 Z (ri h F Z)))
def qhG(_:Nat)(s:qe)(mode:Int):Option Int:=bif (mode==1) then V s.Bf else V s.Az
theorem qko{s:qe}{mode}(a:Ro w s cs1){r:Int}(F:qhG n s mode=V r):RetV prog 54 [oV qe cs1,vi mode] w r:=by
 obtain rfl:=qA a;refine zV 11 func54 Z fun h=>zSR (qx h Z Z fun _ _ h=>X0 8 Z (qg Z F ?_ ?_))<;>intro F
 ·exact X1 6 0 h Z (ri h F Z)
 exact X1 7 0 h Z (ri h F Z)
def qfB(d:(Option Tl20Work))(b:(List Int))(c:Int):Nat->Int->Int->Int->Option (Int×Int×Int)|0,_,_,_=>U|n+1,i1,g,f=>bif decide (f<(b.length:Int)) then(d).bind fun a=>(idx b f).bind fun l=>(idx a.links l).bind fun h=>(qb1 n (⟨(⟨a.j.Ac.Au.Ay⟩:qn),(⟨a.j.Ac.Aa.Ab,a.j.Ac.Aa.As,a.j.Ac.Aa.Ak⟩:qd),a.j.Ac.Ah⟩:qf) (⟨a.j.Af.Bd,a.j.Af.Am,a.j.Af.Ar,a.j.Af.Aj,a.j.Af.Aq⟩:qr) h g c).bind fun i=>(qcr n (⟨(⟨a.j.Ac.Au.Ay⟩:qn),(⟨a.j.Ac.Aa.Ab,a.j.Ac.Aa.As,a.j.Ac.Aa.Ak⟩:qd),a.j.Ac.Ah⟩:qf) h g c).bind fun k=>qfB d b c n (W64 (i1+i)) k (W64 (f+1)) else V (i1,g,f)
def qj0(n:Nat)(b:(Option Tl20Work))(d:Int)(f:(List Int))(a:Int):Option (Int×Int):=(qfz n b d).bind fun(c,_)=>(qhG n (⟨c.Ai.Az,c.Ai.Bf⟩:qe) a).bind fun r4=>(qhG n (⟨c.Be.Az,c.Be.Bf⟩:qe) a).bind fun h=>(qfB b f a n r4 h 0).bind fun(i1,g,_)=>V (i1,g)
theorem qiX{d:(Option Tl20Work)}{f}{a:(List Int)}{b}(p:Ro w d cs1)(s:Ro w a cs2){r:(Int×Int)}(F:qj0 n d f a b=V r):RetV prog 60 [oV (Option Tl20Work) cs1,vi f,oV (List Int) cs2,vi b] w r:=by
 obtain⟨p1,rfl,P⟩:=qau p;obtain⟨p2,k1,rfl,s2⟩:=s;refine zV 73 func60 Z fun h=>X0 9 Z ?_;obtain⟨⟨r2,r3⟩,C,F⟩:=qc F;refine qaM (r2,r3) h (cB 81 Z) (qiZ (h.old P) C) Z Z Z Z fun _ _ _ K D=>?_;obtain⟨_,_,_,_,rfl,k,H⟩:=K.cons D;obtain rfl:=qJ (k.sh.own 0 Z);obtain⟨rfl,h⟩:=k.lastB H;refine zp3 Z (qp qa h Z Z Z fun _ _ h=>zs 0 h Z fun _ h=>X1 7 0 h Z (zcI h F (qko (qB _)) Z fun _ _ h F=>X1 7 0 h Z (zcI h F (qko (qB _)) Z fun _ _ h F=>X0 7 Z ?_)));obtain⟨o1,F,o⟩:=qc F;refine qm ?_;replace h:=h.p [] Z;refine rL (fun m e w'=>∃i1 l M,qfB d a b m i1 l M=V o1/\e=[(0,.pointer p1),(2,oS p2 a.length k1),(3,vi b),(12,vi i1),(13,vi l),(14,vi M)]/\SH w w' []) n ⟨_,_,_,F,rfl,h⟩ Z ?_;rintro O _ _ ⟨i1,l,M,F,rfl,h⟩;rcases O with _|O
 ·cases F
 refine X0 8 Z (qg Z F ?_ ?_)<;>intro F
 ·refine X0 4 Z (rA [] [] h Z fun _ h=>M0 1 [0] (h.p [] Z) Z ?_);obtain⟨_,L,F⟩:=qc F;obtain⟨_,o_1,_,rfl,-,I,c⟩:=PtR.get P L;obtain⟨_,_,_,_,_,_,_,_,_,_,_,_,_,_,_,_,_,_,_,_,_,_,_,_,rfl,Q,R,T,W,X,_,_,N,_,_,_,_⟩:=qhX I;refine M0 7 [1,2] (h.p [] Z) Z (Al 3 15 12 c (h.p [] Z) Z (M0 63 [4,5] (h.p [] Z) Z ?_));obtain⟨_,_,F,v,_,_,_,_,y,A,rfl,t⟩:=s2.ix F;refine Ae 6 127 y A v (h.p [] Z) Z (Al 7 255 0 t (h.p [] Z) Z ?_);obtain⟨Y,_,F,x,_,_,_,_,z,B,J,u⟩:=N.ix F;obtain rfl:=qar J;refine Ae 8 511 z B x (h.p [] Z) Z (Al 9 1023 0 u (h.p [] Z) Z (Ao 10 2047 Z (qp qa h Z Z Z fun _ _ h=>Ag (h.p [] Z) (Ao 11 4095 Z (zs 0 h Z fun _ h=>Ag (h.p [] Z) (Ad (qW (rD (zd5 Z (zdc 0 (c.below h.below) Z (zd4 Z (zdc 5 (c.below h.below) Z (Y1 1 0 h Z ?_)))))))))))));refine zd2 Z ?_;obtain⟨r6,g,F⟩:=qc F;refine qaK r6 (vsI _) (cB 99 Z) (fun _ hb=>qcz (qdq _ ((h.ext hb).oldS Q) ((h.ext hb).oldS R) ((h.ext hb).oldS T) ((h.ext hb).oldS W) ((h.ext hb).oldS X)) (qdE _) (qb6 Y) g) Z Z Z Z (zd2 Z (dN h fun _ h=>rD (zd4 Z (zdc 0 (c.below h.below) Z (Y1 1 0 h Z ?_)))));refine zd2 Z ?_;obtain⟨r7,i,F⟩:=qc F;refine qaK r7 (vsI _) (cB 100 Z) (fun _ hb=>qdb (qdq _ ((h.ext hb).oldS Q) ((h.ext hb).oldS R) ((h.ext hb).oldS T) ((h.ext hb).oldS W) ((h.ext hb).oldS X)) (qb6 Y) i) Z Z Z Z (zd1 Z (dN h fun _ h=>X0 6 Z ?_));replace h:=h.p [] Z;exact rK ⟨_,_,_,F,rfl,h⟩ Z
 refine qu Z ?_;obtain rfl:=qb F;replace F:=o;refine X0 7 Z ?_;obtain rfl:=qb F;exact qU qa (ρ:=(Int×Int)) [oV Int [vi i1],oV Int [vi l]] h ⟨rfl,rfl,G⟩ (PV.done h (qae h (qw (S:=fun _=>False) Z) (qaa (qw (S:=fun _=>False) Z)) (by rfl)))
def qi4(_:Nat)(s:qe)(mode:Int):Option Int:=bif (mode==0) then V s.Az else V s.Bf
theorem qkp{s:qe}{mode}(a:Ro w s cs1){r:Int}(F:qi4 n s mode=V r):RetV prog 50 [oV qe cs1,vi mode] w r:=by
 obtain rfl:=qA a;refine zV 11 func50 Z fun h=>zSR (qx h Z Z fun _ _ h=>X0 8 Z (qg Z F ?_ ?_))<;>intro F
 ·exact X1 6 0 h Z (ri h F Z)
 exact X1 7 0 h Z (ri h F Z)
def qcA(a:(List Int))(b:Int)(c:Twork):Nat->(List Int)->Int->Int->Int->Option ((List Int)×Int×Int×Int)|0,_,_,_,_=>U|n+1,x1,i1,f,d=>bif decide (d<(a.length:Int)) then(idx a d).bind fun h=>(c.graph).bind fun i=>(qbh n i.view (⟨c.job.Af.Bd,c.job.Af.Am,c.job.Af.Ar,c.job.Af.Aj,c.job.Af.Aq⟩:qr) h f b).bind fun g=>(qaL n i.view h f b).bind fun k=>(appS x1 ([W64 (i1+g)]:List Int)).bind fun l=>qcA a b c n l (W64 (i1+g)) k (W64 (d+1)) else V (x1,i1,f,d)
def qgO(n:Nat)(c:(Option Twork))(d:Int)(f:(List Int))(a:Int):Option ((List Int)×Int):=(c).bind fun g=>(qdz n g.job.Ap d).bind fun(b,_)=>(qi4 n (⟨b.Ai.Az,b.Ai.Bf⟩:qe) a).bind fun r4=>(qi4 n (⟨b.Be.Az,b.Be.Bf⟩:qe) a).bind fun i=>(qcA f a g n ([r4]:List Int) r4 i 0).bind fun(x1,_,h,_)=>V (x1,h)
theorem qnT{k:(Option Twork)}{l}{a:(List Int)}{b}(x:Ro w k cs1)(y:Ro w a cs2){r:((List Int)×Int)}(F:qgO n k l a b=V r):RetV prog 113 [oV (Option Twork) cs1,vi l,oV (List Int) cs2,vi b] w r:=by
 obtain⟨_,rfl,s1⟩:=qau x;obtain⟨p2,k1,rfl,s2⟩:=y;refine zV 79 func113 Z fun h=>X0 8 Z ?_;obtain⟨y1,O,F⟩:=qc F;obtain⟨b1,R,_,rfl,-,D,c⟩:=PtR.get s1 O;obtain⟨_,_,_,_,_,_,_,_,_,_,_,_,_,_,_,_,_,_,_,_,_,_,_,rfl,s3,_,_,_,_,_,_,T,_,_,_,_⟩:=qlf D;refine zp3 Z (zc 12 (c.below h.below) Z (zp1 Z ?_));obtain⟨⟨r2,r3⟩,H,F⟩:=qc F;refine qaM (r2,r3) h (cB 83 Z) (qhr ⟨_,_,rfl,(h.oldS T)⟩ H) Z Z Z Z fun _ _ _ N I=>?_;obtain⟨_,_,_,_,rfl,s,J⟩:=N.cons I;obtain rfl:=qJ (s.sh.own 0 Z);obtain⟨rfl,h⟩:=s.lastB J;refine zp3 Z (qp qa h Z Z Z fun _ _ h=>zs 0 h Z fun _ h=>X0 3 Z (rD (Y1 2 0 h Z ?_)));refine zd1 Z ?_;obtain⟨r4,K,F⟩:=qc F;refine qaK r4 (vsI _) (cB 50 Z) (fun _ hb=>qkp (qB _) K) Z Z Z Z (Y1 2 0 h Z ?_);refine zd1 Z ?_;obtain⟨r5,L,F⟩:=qc F;refine qaK r5 (vsI _) (cB 50 Z) (fun _ hb=>qkp (qB _) L) Z Z Z Z (zd2 Z (dN h fun _ h=>X0 3 Z (qE qa [.tmp 35] _ ([r4]:List Int) h Z Z Z Z Z Z Z Z Z ⟨rfl,G⟩ Z fun _ _ _ h=>X0 9 Z ?_)));obtain⟨o1,F,v⟩:=qc F;refine qm ?_;replace h:=h.p [0] Z;refine rL (fun m e w'=>∃W f i d x1 i1 u Q,qcA a b y1 m x1 i1 u Q=V o1/\e=[(0,.pointer (V ⟨b1,R,U⟩)),(3,vi b),(12,vi i1),(13,vi u),(14,oS f i d),(37,oS p2 a.length k1),(38,vi (a.length:Int)),(39,vi Q)]/\SH w w' [oW W (x1:List Int) [oS f i d]]) n ⟨_,_,_,_,_,_,_,_,F,rfl,h⟩ Z ?_;rintro X _ _ ⟨W,f,i,d,x1,i1,u,Q,F,rfl,h⟩;obtain rfl:=(h.sl 0 Z).2;rcases X with _|X
 ·cases F
 refine X0 5 Z (qg Z F ?_ ?_)<;>intro F
 ·refine zKSBSR ?_;obtain⟨_,_,F,A,_,_,_,_,B,C,rfl,z⟩:=s2.ix F;refine zxe B C A Z (zc 0 (z.below h.below) Z (X0 3 Z (rD (zd4 Z (zdc 0 (c.below h.below) Z ?_)))));obtain⟨_,P,F⟩:=qc F;obtain⟨_,o_3,_,rfl,-,M,o⟩:=PtR.get s3 P;obtain⟨_,_,_,rfl,t,_⟩:=qek M;refine zd2 Z (zdc 0 (o.below h.below) Z (zd4 Z (zdc 6 (c.below h.below) Z (zd3 Z ?_))));obtain⟨Y,p,F⟩:=qc F;refine qaK Y (vsI _) (cB 165 Z) (fun _ hb=>qal ((h.ext hb).old t) (qdE _) p) Z Z Z Z (zd2 Z (dN h fun _ h=>X0 5 Z (zc 0 (c.below h.below) Z (zp2 Z (zc 0 (o.below h.below) Z (zp3 Z (zcI h F (qff (h.old t)) Z fun _ _ h F=>X0 5 Z (qE qa [.tmp 73] _ ([W64 (i1+Y)]:List Int) h Z Z Z Z Z Z Z Z Z ⟨rfl,G⟩ Z fun _ _ _ h=>?_))))))));obtain⟨_,g,F⟩:=qc F;obtain⟨g1,g⟩:=qM g;refine qbM qa 1 h Z (h.sl 0 Z).1 (h.sl 0 Z).2 Z Z Z Z Z Z Z Z Z g1 g Z fun _ _ _ _ h=>X0 7 Z ?_;replace h:=h.p [1] Z;exact rK ⟨_,_,_,_,_,_,_,_,F,rfl,h⟩ Z
 refine qu Z ?_;obtain rfl:=qb F;replace F:=v;refine X0 7 Z ?_;obtain rfl:=qb F;exact qU qa (ρ:=((List Int)×Int)) [oV (List Int) [oS f x1.length d],oV Int [vi u]] h ⟨rfl,rfl,G⟩ (PV.done h (qae h (qao 0 h Z) (qaa (qw (S:=fun _=>False) Z)) (by rfl)))
def qfn(n:Nat)(c:(Option Twork))(start:Int)(links:(List Int))(mode:Int):Option Int:=(qgO n c start links mode).bind fun(a,_)=>(idx a (links.length:Int)).bind fun b=>V b
theorem qmA{u:(Option Twork)}{start}{links:(List Int)}{mode}(b:Ro w u cs1)(c:Ro w links cs2){r:Int}(F:qfn n u start links mode=V r):RetV prog 70 [oV (Option Twork) cs1,vi start,oV (List Int) cs2,vi mode] w r:=by
 obtain⟨_,rfl,t⟩:=qau b;obtain⟨_,_,rfl,s2⟩:=c;refine zV 24 func70 Z fun h=>X0 10 Z ?_;obtain⟨⟨p,s⟩,i,F⟩:=qc F;refine qaM (p,s) h (cB 113 Z) (qnT (h.old t) ⟨_,_,rfl,(h.oldS s2)⟩ i) Z Z Z Z fun _ _ _ m k=>?_;obtain⟨_,_,_,_,_,rfl,o,l⟩:=m.consL k;obtain⟨rfl,h⟩:=o.lastI l;refine X0 11 Z ?_;obtain⟨_,_,F,a,_,_,_,_,f,g,rfl,d⟩:=(h.sl 0 Z).1.ix F;exact zx f g ⟨a.1,qD a.2.1 (h.sl 0 Z).2⟩ Z (zc 0 d Z (X0 2 Z (ri h F Z)))
def qdB(i1:Int)(r4:(List qi)):Nat->(List qi)->Int->Option ((List qi)×Int)|0,_,_=>U|n+1,x3,a=>bif decide (a<(r4.length:Int)) then(idx r4 a).bind fun f=>(idx r4 a).bind fun g=>(appS ([]:List Int) g.Bg).bind fun b=>(appS b ([i1]:List Int)).bind fun c=>(appS x3 ([(⟨f.Bm,c,0⟩:qi)]:List qi)).bind fun d=>qdB i1 r4 n d (W64 (a+1)) else V (x3,a)
def qbq(l:((Option Tl20Work)->Int->Option (List qi)))(a:(Option Tl20Work))(b:Int):Nat->(List qi)->Int->Option ((List qi)×Int)|0,_,_=>U|n+1,d,i1=>(a).bind fun c=>bif decide (i1<(c.links.length:Int)) then((idx c.live i1).bind fun g=>bif (!g) then V true else(idx c.links i1).bind fun h=>bif (h.To != b) then V true else(idx c.links i1).bind fun i=>(idx c.t.Bb i.Bl).bind fun k=>V (!k)).bind fun b2=>bif b2 then qbq l a b n d (W64 (i1+1)) else(idx c.links i1).bind fun f=>(l a f.Bl).bind fun r4=>(qdB i1 r4 n d 0).bind fun(x3,_)=>qbq l a b n x3 (W64 (i1+1)) else V (d,i1)
def qcF:Nat->(Option Tl20Work)->Int->Option (List qi)|0,_,_=>U|n+1,b,a=>(qfz n b a).bind fun(_,c)=>(bif c then(appS ([]:List qi) ([(⟨a,([]:List Int),0⟩:qi)]:List qi)).bind fun f=>V f else V ([]:List qi)).bind fun x1=>(qbq (qcF n) b a n x1 0).bind fun(d,_)=>V d
theorem qog{n}:∀{w:World} {g:(Option Tl20Work)} {a:Int} {cs1:List Value} (k:Ro w g cs1) {r:(List qi)} (_:qcF n g a=V r),RetV prog 59 [oV (Option Tl20Work) cs1,vi a] w r:=by
 induction n with
 |zero=>intro w g a cs1 k r F;rw[qcF] at F;cases F
 |succ n ih=>
  intro w g a cs1 k r F;obtain⟨rc,hrc⟩:∃rc,rc=qcF n:=⟨_,rfl⟩;rw[<-hrc] at ih;obtain⟨p1,rfl,s1⟩:=qau k;refine zV 108 func59 Z fun h=>?_;unfold qcF at F;rw[<-hrc] at F;refine X0 6 Z (qho qa [] _ ([]:List qi) [] h Z Z Z Z Z Z Z Z Z qkz Z Z fun _ _ _ h=>X0 6 Z ?_);obtain⟨⟨r2,r3⟩,hr1,F⟩:=qc F;refine qaM (r2,r3) h (cB 81 Z) (qiZ (h.old s1) hr1) Z Z Z Z fun _ _ _ hv1 hr2=>?_;obtain⟨_,_,_,_,rfl,a8,hr3⟩:=hv1.cons hr2;obtain rfl:=qJ (a8.sh.own 0 Z);obtain⟨rfl,h⟩:=a8.lastB hr3;refine zp3 Z (qp qa h Z Z Z fun _ _ h=>zs 0 h Z fun _ h=>X0 7 Z ?_);obtain⟨KF2,K,_,F,I⟩:=bindE F;refine qa1 (fun e w'=>∃S6 p3 s k1 x1,KF2 x1=V r/\e=[(0,.pointer p1),(1,vi a),(5,oS p3 s k1)]/\SH w w' [oW S6 (x1:List qi) [oS p3 s k1]]) ?_ ?_
  ·refine qg Z F ?_ ?_<;>intro F
   ·refine X0 3 Z (qE qa [] _ ([]:List Int) h Z Z Z Z Z Z Z Z Z trivial Z fun _ _ _ h=>r_v (qG qa [0,1] [.tmp 20,.tmp 21] Z Z Z Z Z Z Z Z) Z (qho qa [.tmp 22] _ ([(⟨a,([]:List Int),0⟩:qi)]:List qi) [1,2,3] h Z Z Z Z Z Z Z Z Z (qmn (qhi (⟨a,([]:List Int),0⟩:qi) h (qw (S:=fun _=>False) Z) (qao 0 h Z) (qw (S:=fun _=>False) Z) (by rfl) (by rfl)) qkz Z) Z Z fun _ _ _ h=>?_));obtain⟨_,l,F⟩:=qc F;obtain⟨g22,l⟩:=qM l;replace h:=h.p [0,3,1,2] Z;refine qon qa h Z Z Z Z Z Z Z Z Z g22 l Z fun _ _ _ _ h=>X0 2 Z ?_;replace h:=h.p [0] Z;obtain rfl:=qb F;exact rG ⟨_,_,_,_,_,I,rfl,h⟩ Z
   ·refine qcx ?_;replace h:=h.p [2] Z;obtain rfl:=qb F;exact rG ⟨_,_,_,_,_,I,rfl,h⟩ Z
  ·rintro _ _ ⟨S6,p3,s,k1,x1,F,rfl,h⟩;subst K;obtain rfl:=(h.sl 0 Z).2;refine X0 5 Z ?_;obtain⟨o1,F,hK1⟩:=qc F;refine qm (rL (fun m e w'=>∃S7 p4 u k2 B i1,qbq rc g a m B i1=V o1/\e=[(0,.pointer p1),(1,vi a),(5,oS p4 u k2),(8,vi i1)]/\SH w w' [oW S7 (B:List qi) [oS p4 u k2]]) n ⟨_,_,_,_,_,_,F,rfl,h⟩ Z ?_);rintro m1 _ _ ⟨S7,p4,u,k2,B,i1,F,rfl,h⟩;obtain rfl:=(h.sl 0 Z).2;rcases m1 with _|m1
   ·cases F
   refine X0 5 Z ?_;obtain⟨_,hy1,F⟩:=qc F;obtain⟨b1,x,_,rfl,-,hr5,f⟩:=PtR.get s1 hy1;obtain⟨_,_,_,_,_,_,_,_,_,_,_,_,_,_,_,_,_,_,_,_,_,_,_,_,rfl,_,_,_,_,_,_,_,s9,s10,s11,_,_⟩:=qhX hr5;refine zp2 Z (zc 12 (f.below h.below) Z (X0 3 Z (qg Z F ?_ ?_)))<;>intro F
   ·refine X0 5 Z ?_;obtain⟨KF1,J,_,F,i⟩:=bindE F;refine qa1 (fun e w'=>∃b2,KF1 b2=V o1/\e=[(0,.pointer (V ⟨b1,x,U⟩)),(1,vi a),(5,oS p4 B.length k2),(8,vi i1),(71,.bool b2)]/\SH w w' [oW S7 (B:List qi) [oS p4 B.length k2]]) ?_ ?_
    ·refine rD (zd3 Z (zdc 13 (f.below h.below) Z (zd1 Z ?_)));obtain⟨_,_,F,he8,_,_,_,_,hp8,hq8,rfl,N⟩:=s10.ix F;refine zdxe hp8 hq8 he8 Z (zdc 0 (N.below h.below) Z (zd2 Z (qaR (t:=42) F Z ?_ ?_)))<;>intro F
     ·refine Y0 29 Z (dN h fun _ h=>?_);obtain rfl:=qb F;exact rG ⟨_,i,rfl,h⟩ Z
     ·refine Y0 7 Z (zdc 12 (f.below h.below) Z (Y0 3 Z ?_));obtain⟨_,_,F,he9,_,_,_,_,hp9,hq9,a6,O⟩:=s9.ix F;obtain rfl:=qar a6;refine zdxe hp9 hq9 he9 Z (Y0 3 Z (zdc 1 (O.below h.below) Z (Y0 6 Z (qaR (t:=54) F Z ?_ ?_))))<;>intro F
      ·refine Y0 17 Z (dN h fun _ h=>?_);obtain rfl:=qb F;exact rG ⟨_,i,rfl,h⟩ Z
      ·refine Y0 9 Z (zdc 14 (f.below h.below) Z (Y0 7 Z (zdc 12 (f.below h.below) Z (Y0 3 Z ?_))));obtain⟨_,_,F,R,_,_,_,_,W,Y,a7,P⟩:=s9.ix F;obtain rfl:=qar a7;refine zdxe W Y R Z (Y0 3 Z (zdc 0 (P.below h.below) Z (Y0 1 Z ?_)));obtain⟨_,_,F,T,_,_,_,_,X,a3,rfl,Q⟩:=s11.ix F;refine zdxe X a3 T Z (Y0 1 Z (zdc 0 (Q.below h.below) Z (Y0 3 Z (dN h fun _ h=>?_))));obtain rfl:=qb F;exact rG ⟨_,i,rfl,h⟩ Z
    ·rintro _ _ ⟨b2,F,rfl,h⟩;subst J;refine qg Z F ?_ ?_<;>intro F
     ·exact qu Z (X0 5 Z (rK ⟨_,_,_,_,_,_,F,rfl,h⟩ Z))
     ·refine X0 7 Z (zc 12 (f.below h.below) Z (zp1 Z ?_));obtain⟨_,_,F,he1,_,_,_,_,hp1,hq1,hr6,hc4⟩:=s9.ix F;obtain rfl:=qar hr6;refine zxe hp1 hq1 he1 Z (zp1 Z (zc 0 (hc4.below h.below) Z (zcL h F (ih (h.old s1)) Z fun r4 w6 S8 p17 b5 h F=>?_)));obtain⟨s14,h⟩:=h.topinL 0 Z;refine X0 6 Z ?_;obtain⟨o2,F,hK2⟩:=qc F;refine qm (rL (fun m e w'=>∃S9 y v o x3 i2,qdB i1 r4 m x3 i2=V o2/\e=[(0,.pointer (V ⟨b1,x,U⟩)),(1,vi a),(5,oS y v o),(8,vi i1),(9,oS p17 r4.length b5),(10,vi i2)]/\SH w w' [Ch.pin S8 w6,oW S9 (x3:List qi) [oS y v o]]) m1 ⟨_,_,_,_,_,_,F,rfl,h⟩ Z ?_);rintro m2 _ _ ⟨S9,y,v,o,x3,i2,F,rfl,h⟩;obtain rfl:=(h.sl 1 Z).2;rcases m2 with _|m2
      ·cases F
      refine X0 8 Z (qg Z F ?_ ?_)<;>intro F
      ·refine zKSB ?_;obtain⟨D,a9,F⟩:=qc F;obtain⟨_,b4,F⟩:=qc F;obtain⟨_,b,F⟩:=qc F;obtain⟨C,c,F⟩:=qc F;obtain⟨x6,d,F⟩:=qc F;refine qa1 (fun e w'=>∃H z p,e=[(0,.pointer (V ⟨b1,x,U⟩)),(1,vi a),(5,oS z x6.length p),(8,vi i1),(9,oS p17 r4.length b5),(10,vi i2)]/\SH w w' [oW H (x6:List qi) [oS z x6.length p],Ch.pin S8 w6]) ?_ ?_
       ·refine rA [] [0] h Z fun _ h=>M0 7 [0,1,2] (h.p [0] Z) Z ?_;have he6:=qba a9;obtain⟨_,o_7,_,_,hp6,hq6,hS6,a4,L⟩:=s14.at a9;obtain⟨_,_,rfl,_⟩:=qaC a4;refine Ae 3 15 hp6 hq6 he6 (h.p [0] Z) Z (M0 31 [4] (h.p [0] Z) Z (Aw 5 63 (fun w' hw=>qfv qa (hw.pinC 0 Z hS6 L) (j:=0) Z Z Z) (h.p [0] Z) Z ?_));refine M0 447 [7,8] (h.p [0] Z) Z ?_;have he7:=qba b4;obtain⟨_,o_8,_,_,hp7,hq7,hS7,a5,M⟩:=s14.at b4;obtain⟨_,_,rfl,A⟩:=qaC a5;refine Ae 9 959 hp7 hq7 he7 (h.p [0] Z) Z (M0 1983 [10] (h.p [0] Z) Z (Aw 11 4031 (fun w' hw=>qfv qa (hw.pinC 0 Z hS7 M) (j:=1) Z Z Z) (h.p [0] Z) Z ?_));refine M0 12223 [13] (h.p [0] Z) Z (At 6 14 12287 28607 Z ?_ ?_)
        ·refine qE qa [] _ ([]:List Int) h Z Z Z Z Z Z Z Z Z trivial Z fun _ _ _ h=>Ag (h.p [1] Z) (At 12 14 16383 28671 Z ?_ ?_)
         ·obtain⟨g13,b⟩:=qM b;refine qbM qa 0 h Z (h.pinS 1 Z A) Z Z Z Z Z Z Z Z Z Z g13 b Z fun _ _ _ _ h=>Ag (h.p [1] Z) (Ao 14 32767 Z (qE qa [.tmp 101] _ ([i1]:List Int) h Z Z Z Z Z Z Z Z Z ⟨rfl,G⟩ Z fun _ _ _ h=>Ag (h.p [2] Z) (Ao 15 65535 Z ?_)));obtain⟨g14,c⟩:=qM c;refine qbM qa 1 h Z (h.sl 0 Z).1 (h.sl 0 Z).2 Z Z Z Z Z Z Z Z Z g14 c Z fun _ _ _ _ h=>Ag (h.p [2] Z) (Aw 16 131071 (fun w' hw=>qG qa [0,1] [.tmp 93,.tmp 103] Z Z Z Z Z Z Z Z) (h.p [2] Z) Z ?_);refine Ao 17 262143 Z (qho qa [.tmp 104] _ ([(⟨D.Bm,C,0⟩:qi)]:List qi) [0,2,3] h Z Z Z Z Z Z Z Z Z (qmn (qhi (⟨D.Bm,C,0⟩:qi) h (qw (S:=fun _=>False) Z) (qao 1 h Z) (qw (S:=fun _=>False) Z) (by rfl) (by rfl)) qkz Z) Z Z fun _ _ _ h=>Ag (h.p [2] Z) (Ao 18 524287 Z ?_));obtain⟨g15,d⟩:=qM d;replace h:=h.p [0,3,1,2] Z;refine qon qa h Z Z Z Z Z Z Z Z Z g15 d Z fun _ _ _ _ h=>G0 1048575 [19] (h.p [2] Z) Z (Ad ?_);replace h:=h.p [0,2] Z;exact rG ⟨_,_,_,rfl,h⟩ Z
         ·refine qE qa [.tmp 101] _ ([i1]:List Int) h Z Z Z Z Z Z Z Z Z ⟨rfl,G⟩ Z fun _ _ _ h=>Ag (h.p [2] Z) (Ao 12 32767 Z ?_);obtain⟨g16,b⟩:=qM b;refine qbM qa 1 h Z (h.pinS 2 Z A) Z Z Z Z Z Z Z Z Z Z g16 b Z fun _ _ _ _ h=>Ag (h.p [2] Z) (Ao 15 65535 Z ?_);obtain⟨g17,c⟩:=qM c;refine qbM qa 1 h Z (h.sl 0 Z).1 (h.sl 0 Z).2 Z Z Z Z Z Z Z Z Z g17 c Z fun _ _ _ _ h=>Ag (h.p [2] Z) (Aw 16 131071 (fun w' hw=>qG qa [0,1] [.tmp 93,.tmp 103] Z Z Z Z Z Z Z Z) (h.p [2] Z) Z ?_);refine Ao 17 262143 Z (qho qa [.tmp 104] _ ([(⟨D.Bm,C,0⟩:qi)]:List qi) [0,2,3] h Z Z Z Z Z Z Z Z Z (qmn (qhi (⟨D.Bm,C,0⟩:qi) h (qw (S:=fun _=>False) Z) (qao 1 h Z) (qw (S:=fun _=>False) Z) (by rfl) (by rfl)) qkz Z) Z Z fun _ _ _ h=>Ag (h.p [2] Z) (Ao 18 524287 Z ?_));obtain⟨g18,d⟩:=qM d;replace h:=h.p [0,3,1,2] Z;refine qon qa h Z Z Z Z Z Z Z Z Z g18 d Z fun _ _ _ _ h=>G0 1048575 [19] (h.p [2] Z) Z (Ad ?_);replace h:=h.p [0,2] Z;exact rG ⟨_,_,_,rfl,h⟩ Z
        ·refine qE qa [.tmp 101] _ ([i1]:List Int) h Z Z Z Z Z Z Z Z Z ⟨rfl,G⟩ Z fun _ _ _ h=>Ag (h.p [1] Z) (Ao 6 28671 Z (qE qa [] _ ([]:List Int) h Z Z Z Z Z Z Z Z Z trivial Z fun _ _ _ h=>Ag (h.p [2] Z) (Ao 12 32767 Z ?_)));obtain⟨g19,b⟩:=qM b;refine qbM qa 0 h Z (h.pinS 2 Z A) Z Z Z Z Z Z Z Z Z Z g19 b Z fun _ _ _ _ h=>Ag (h.p [2] Z) (Ao 15 65535 Z ?_);obtain⟨g20,c⟩:=qM c;refine qbM qa 0 h Z (h.sl 1 Z).1 (h.sl 1 Z).2 Z Z Z Z Z Z Z Z Z g20 c Z fun _ _ _ _ h=>Ag (h.p [2] Z) (Aw 16 131071 (fun w' hw=>qG qa [0,1] [.tmp 93,.tmp 103] Z Z Z Z Z Z Z Z) (h.p [2] Z) Z ?_);refine Ao 17 262143 Z (qho qa [.tmp 104] _ ([(⟨D.Bm,C,0⟩:qi)]:List qi) [1,2,3] h Z Z Z Z Z Z Z Z Z (qmn (qhi (⟨D.Bm,C,0⟩:qi) h (qw (S:=fun _=>False) Z) (qao 0 h Z) (qw (S:=fun _=>False) Z) (by rfl) (by rfl)) qkz Z) Z Z fun _ _ _ h=>Ag (h.p [2] Z) (Ao 18 524287 Z ?_));obtain⟨g21,d⟩:=qM d;replace h:=h.p [0,3,1,2] Z;refine qon qa h Z Z Z Z Z Z Z Z Z g21 d Z fun _ _ _ _ h=>G0 1048575 [19] (h.p [2] Z) Z (Ad ?_);replace h:=h.p [0,2] Z;exact rG ⟨_,_,_,rfl,h⟩ Z
       ·rintro _ _ ⟨H,z,p,rfl,h⟩;refine X0 6 Z ?_;replace h:=h.p [1,0] Z;exact rK ⟨_,_,_,_,_,_,F,rfl,h⟩ Z
      ·refine qu Z ?_;obtain rfl:=qb F;replace F:=hK2;refine X0 6 Z ?_;replace h:=h.p [1] Z;exact rK ⟨_,_,_,_,_,_,F,rfl,h⟩ Z
   ·refine qu Z ?_;obtain rfl:=qb F;replace F:=hK1;refine X0 5 Z ?_;obtain rfl:=qb F;exact rO 0 h Z ⟨rfl,G⟩
def qda(p:qi)(q:qi):Nat->Int->Option (Flow Bool Int)|0,_=>U|n+1,i1=>(bif decide (i1<(p.Bg.length:Int)) then V (decide (i1<(q.Bg.length:Int))) else V false).bind fun b1=>bif b1 then(idx p.Bg i1).bind fun a=>(idx q.Bg i1).bind fun b=>bif (a != b) then(idx p.Bg i1).bind fun c=>(idx q.Bg i1).bind fun d=>V (.ret (decide (c<d))) else qda p q n (W64 (i1+1)) else V (.nxt i1)
def qkQ(n:Nat)(p:qi)(q:qi):Option Bool:=bif (p.Bm != q.Bm) then V (decide (p.Bm<q.Bm)) else(qda p q n 0).bind fun|.ret r=>V r|.nxt _=>V (decide ((p.Bg.length:Int)<(q.Bg.length:Int)))
theorem qqS{p:qi}{q:qi}(i:Ro w p cs1)(k:Ro w q cs2){r:Bool}(F:qkQ n p q=V r):RetV prog 149 [oV qi cs1,oV qi cs2] w r:=by
 obtain⟨P,L,rfl,R⟩:=qaC i;obtain⟨Q,M,rfl,s2⟩:=qaC k;refine zV 59 func149 Z fun h=>zSR (qx h Z Z fun _ a h=>qx h Z Z fun _ b h=>X2 11 1 0 h Z (qg Z F ?_ ?_))<;>intro F
 ·exact X2 9 1 0 h Z (rb h F Z)
 refine X0 6 Z ?_;obtain⟨O,F,c⟩:=qc F;refine qm (rL (fun m e w'=>∃i1,qda p q m i1=V O/\e=[(2,vp a),(3,vp b),(5,vi i1)]/\SH w w' [oX b (qf3 q Q M) 41,oX a (qf3 p P L) 41]) n ⟨_,F,rfl,h⟩ Z ?_);rintro N _ _ ⟨i1,F,rfl,h⟩;rcases N with _|N
 ·cases F
 refine zSS ?_;obtain⟨g,f,_,F,d⟩:=bindE F;refine qa1 (fun e w'=>∃b1,g b1=V O/\e=[(2,vp a),(3,vp b),(5,vi i1),(27,.bool b1)]/\SH w w' [oX b (qf3 q Q M) 41,oX a (qf3 p P L) 41]) ?_ ?_
 ·refine X1 7 1 h Z (qk (t:=21) F Z ?_ ?_)<;>intro F
  ·refine X1 12 0 h Z ?_;obtain rfl:=qb F;exact rG ⟨_,d,rfl,h⟩ Z
  refine X0 7 Z ?_;obtain rfl:=qb F;exact rG ⟨_,d,rfl,h⟩ Z
 rintro _ _ ⟨b1,F,rfl,h⟩;subst f;refine qg Z F ?_ ?_<;>intro F
 ·refine X0 4 Z (rD (Y1 2 1 h Z ?_));refine zd1 Z ?_;obtain⟨_,_,F,v,_,_,_,_,A,H,rfl,l⟩:=R.ix F;refine zdxe A H v Z (zdc 0 (l.below h.below) Z (Y1 2 0 h Z ?_));refine zd1 Z ?_;obtain⟨_,_,F,x,_,_,_,_,B,I,rfl,o⟩:=s2.ix F;refine zdxe B I x Z (zdc 0 (o.below h.below) Z (zd1 Z (dN h fun _ h=>qg Z F ?_ ?_)))<;>intro F
  ·refine qW (rD (Y1 2 1 h Z ?_));refine zd1 Z ?_;obtain⟨_,_,F,y,_,_,_,_,C,J,rfl,s⟩:=R.ix F;refine zdxe C J y Z (zdc 0 (s.below h.below) Z (Y1 2 0 h Z ?_));refine zd1 Z ?_;obtain⟨_,_,F,z,_,_,_,_,D,K,rfl,u⟩:=s2.ix F;refine zdxe D K z Z (zdc 0 (u.below h.below) Z (zd2 Z (dN h fun _ h=>?_)));obtain rfl:=qb F;replace F:=c;exact rb h F Z
  exact X0 7 Z (rK ⟨_,F,rfl,h⟩ Z)
 refine qu Z ?_;obtain rfl:=qb F;replace F:=c;exact X2 11 1 0 h Z (rb h F Z)
def qiP(n:Nat)(p:qi)(q:qi)(mode:Int):Option Bool:=bif (p.Ai != q.Ai) then V ((decide (p.Ai > q.Ai))==(mode==1)) else(qkQ n p q).bind fun a=>V a
theorem qpu{p:qi}{q:qi}{mode}(a:Ro w p cs1)(b:Ro w q cs2){r:Bool}(F:qiP n p q mode=V r):RetV prog 101 [oV qi cs1,oV qi cs2,vi mode] w r:=by
 obtain⟨_,_,rfl,_⟩:=qaC a;obtain⟨_,_,rfl,_⟩:=qaC b;refine zV 23 func101 Z fun h=>zSR (qx h Z Z fun _ _ h=>qx h Z Z fun _ _ h=>X2 11 1 0 h Z (qg Z F ?_ ?_))<;>intro F
 ·exact X2 12 1 0 h Z (rb h F Z)
 exact X2 5 1 0 h Z (zcB h F (qqS (h.old a) (h.old b)) Z fun _ _ h F=>X0 2 Z (rb h F Z))
def qdU(list:(List qi))(mode:Int)(x1:(List qi))(i1:Int):Nat->Int->Option Int|0,_=>U|n+1,a=>bif decide (a > 0) then(idx list i1).bind fun c=>(idx x1 (W64 (a-1))).bind fun d=>(qiP n c d mode).bind fun b=>bif b then qdU list mode x1 i1 n (W64 (a-1)) else V a else V a
def qdT(list:(List qi))(mode:Int):Nat->(List qi)->Int->Option ((List qi)×Int)|0,_,_=>U|n+1,x1,i1=>bif decide (i1<(list.length:Int)) then(qdU list mode x1 i1 n (x1.length:Int)).bind fun a=>(subS x1 0 a).bind fun b=>(appS ([]:List qi) b).bind fun x3=>(idx list i1).bind fun g=>(appS x3 ([g]:List qi)).bind fun c=>(subS x1 a (x1.length:Int)).bind fun d=>(appS c d).bind fun f=>qdT list mode n f (W64 (i1+1)) else V (x1,i1)
def qhl(n:Nat)(list:(List qi))(mode:Int):Option (List qi):=(qdT list mode n ([]:List qi) 0).bind fun(x1,_)=>V x1
theorem qlH{A}(hA:∀b,A b->old w b){list:(List qi)}{mode}(B:GoT.R w A list cs1){r:(List qi)}(F:qhl n list mode=V r):RetG prog 61 [oV (List qi) cs1,vi mode] w A r:=by
 obtain⟨p1,k1,rfl,s1⟩:=B;have hg:=Rg.start hA;refine qe3 func61 Z (m:=53) Z Z (fun h=>?_);refine X0 6 Z (qho qa [] _ ([]:List qi) [] h Z Z Z Z Z Z Z Z Z qkz Z Z fun _ _ _ h=>X0 7 Z ?_);replace h:=h.toRowA (A:=A) 0 Z;obtain⟨o1,F,z⟩:=qc F;refine qm (rL (fun m e w'=>∃S2 c a x1 i1,qdT list mode m x1 i1=V o1/\e=[(0,oS p1 list.length k1),(1,vi mode),(5,oS c x1.length a),(6,vi i1)]/\SH w w' [Ch.rowA w A S2 (x1:List qi) c a]) n ⟨_,_,_,_,_,F,rfl,h⟩ Z ?_);rintro m1 _ _ ⟨S2,c,a,x1,i1,F,rfl,h⟩;rcases m1 with _|m1
 ·cases F
 refine X0 8 Z (qg Z F ?_ ?_)<;>intro F
 ·refine X0 10 Z ?_;obtain⟨y,k,o2,F,i⟩:=bindE F;refine qa1 (fun e w'=>∃i3,y i3=V o1/\e=[(0,oS p1 list.length k1),(1,vi mode),(5,oS c x1.length a),(6,vi i1),(7,vi i3)]/\SH w w' [Ch.rowA w A S2 (x1:List qi) c a]) ?_ ?_
  ·refine qm (rL (fun m e w'=>∃i4,qdU list mode x1 i1 m i4=V o2/\e=[(0,oS p1 list.length k1),(1,vi mode),(5,oS c x1.length a),(6,vi i1),(7,vi i4)]/\SH w w' [Ch.rowA w A S2 (x1:List qi) c a]) m1 ⟨_,F,rfl,h⟩ Z ?_);rintro m2 _ _ ⟨i4,F,rfl,h⟩;rcases m2 with _|m2
   ·cases F
   refine zSS (rD (zd3 Z (qaR (t:=20) F Z ?_ ?_)))<;>intro F
   ·refine Y0 5 Z ?_;obtain⟨y2,_,F,J,_,_,_,_,O,R,W,D⟩:=s1.ix F;obtain⟨_,_,rfl,s3⟩:=qaC W;refine zdxe O R J Z (Y0 1 Z (zdc 0 (D.below h.below) Z (Y0 7 Z ?_)));obtain⟨y3,x,F⟩:=qc F;have K:=qba x;obtain⟨_,o_3,_,_,P,S,-,X,H⟩:=h.atA 0 Z x;obtain⟨_,_,rfl,s4⟩:=qaC X;refine zdxe P S K Z (Y0 1 Z (zdc 0 H Z (Y0 3 Z ?_)));obtain⟨r1,Y,F⟩:=qc F;refine qaK r1 (vsB _) (cB 101 Z) (fun _ hb=>qpu (qgA y2 ((h.ext hb).oldS (s3.mono hg.old))) (qgA y3 ((h.ext hb).oldS (s4.mono hg.old))) Y) Z Z Z Z (zd1 Z (dN h fun _ h=>qg Z F ?_ ?_))<;>intro F
    ·exact X0 8 Z (rK ⟨_,F,rfl,h⟩ Z)
    refine qu Z ?_;obtain rfl:=qb F;exact rG ⟨_,i,rfl,h⟩ Z
   refine Y0 12 Z (dN h fun _ h=>qb8 Z Z (qu Z ?_));obtain rfl:=qb F;exact rG ⟨_,i,rfl,h⟩ Z
  rintro _ _ ⟨i3,F,rfl,h⟩;subst k;refine zSR (qho qa [] _ ([]:List qi) [0] h Z Z Z Z Z Z Z Z Z qkz Z Z fun _ _ _ h=>zp2 Z ?_);obtain⟨_,u,F⟩:=qc F;obtain⟨_,_,p,l,L,g1⟩:=qtO (h.rowAR hA 1 Z) u;refine r_v (qo9 qa Z Z Z (qtC g1 Z) p l L Z Z Z Z) Z ?_;replace h:=h.toRowA (A:=A) 0 Z;obtain⟨_,d,F⟩:=qc F;obtain⟨g2,d⟩:=qM d;refine qwf qa h u p l Z Z Z Z Z Z Z Z Z Z Z g2 d Z fun _ _ _ _ h=>X0 7 Z ?_;obtain⟨y1,_,F,I,_,_,_,_,N,Q,T,C⟩:=s1.ix F;obtain⟨_,_,rfl,s2⟩:=qaC T;refine zxe N Q I Z (zc 0 (C.below h.below) Z (qxk qa [.tmp 44] _ ([y1]:List qi) h Z Z Z Z Z Z Z Z Z ⟨(qgA y1 s2),G⟩ Z fun _ _ _ h=>?_));obtain⟨_,f,F⟩:=qc F;obtain⟨g3,f⟩:=qM f;refine qAu qa h Z Z Z Z Z Z Z Z Z Z Z g3 f Z fun _ _ _ _ h=>X0 6 Z ?_;obtain⟨_,v,F⟩:=qc F;obtain⟨_,_,s,o,M,g4⟩:=qtO (h.rowAR hA 1 Z) v;refine r_v (qo9 qa Z Z Z (qtC g4 Z) s o M Z Z Z Z) Z ?_;obtain⟨_,g,F⟩:=qc F;obtain⟨g5,g⟩:=qM g;refine qwf qa h v s o Z Z Z Z Z Z Z Z Z Z Z g5 g Z fun _ _ _ _ h=>X0 8 Z ?_;replace h:=h.p [0] Z;exact rK ⟨_,_,_,_,_,F,rfl,h⟩ Z
 refine qu Z ?_;obtain rfl:=qb F;replace F:=z;refine X0 5 Z ?_;obtain rfl:=qb F;have a3:GoRs.Rs (ρ:=(List qi)) h.wc (reg A w h.wc) x1 [oV (List qi) [oS c x1.length a]]:=⟨_,rfl,(hg.outR h (⟨_,_,rfl,(h.rowAR hA 0 Z)⟩))⟩;exact qdN qa (ρ:=(List qi)) (r:=x1) [oV (List qi) [oS c x1.length a]] h ⟨rfl,G⟩ a3

def qaO(m:(Option Twork))(tail:(List Int))(l:((Option Twork)->Int->(List Int)->(List qi)->Option (List qi)))(a:Twork)(r4:(List Int)):Nat->(List qi)->Int->Option ((List qi)×Int)|0,_,_=>U|n+1,b,i1=>bif decide (i1<(r4.length:Int)) then(idx r4 i1).bind fun c=>(a.graph).bind fun h=>(h.view).bind fun i=>(idx i.links c).bind fun d=>(idx a.timing.Bb d.Bl).bind fun k=>bif k then(qdp n tail).bind fun f=>(appS f ([c]:List Int)).bind fun x3=>(l m d.Bl x3 b).bind fun g=>qaO m tail l a r4 n g (W64 (i1+1)) else qaO m tail l a r4 n b (W64 (i1+1)) else V (b,i1)
def qaD:Nat->(Option Twork)->Int->(List Int)->(List qi)->Option (List qi)|0,_,_,_,_=>U|n+1,wv,at_,tail,acc=>(wv).bind fun a=>(qdz n a.job.Ap at_).bind fun(_,b)=>(bif b then(qdp n tail).bind fun c=>(revS c).bind fun f=>(appS acc ([(⟨at_,f,0⟩:qi)]:List qi)).bind fun g=>V g else V acc).bind fun x1=>(qgJ n a.graph at_).bind fun r4=>(qaO wv tail (qaD n) a r4 n x1 0).bind fun(d,_)=>V d
theorem qmu{n}:∀{d w:World} {F:List Ch} {a c b:Nat} {pw:Option Addr} {wv:(Option Twork)} {at_:Int} {tail:(List Int)} {acc:(List qi)} {S1 S2:Nat->Prop} {i x:Option Addr} {g v:Nat} {r:(List qi)} (_:SH d w (oX c [oS x acc.length v] 64::oW S2 (acc:List qi) [oS x acc.length v]::oW S1 (tail:List Int) [oS i tail.length g]::oX a [.pointer pw] 83::oX b [.func (.func 85) #[] #[vp a,vp c,vp b]] 162::F)) (_:PtR d (old d) wv pw) (_:qaD n wv at_ tail acc=V r),RetU prog 85 [vi at_,oS i tail.length g,vp a,vp c,vp b] w (fun w'=>∃S p k,SH d w' (oX c [oS p r.length k] 64::oW S (r:(List qi)) [oS p r.length k]::oW S1 (tail:List Int) [oS i tail.length g]::oX a [.pointer pw] 83::oX b [.func (.func 85) #[] #[vp a,vp c,vp b]] 162::F)):=by
 induction n with
 |zero=>intro d w F a c b pw wv at_ tail acc S1 S2 i x g v r h0 hwk hF;rw[qaD] at hF;cases hF
 |succ n ih=>
  intro d w F a c b pw wv at_ tail acc S1 S2 i x g v r h0 hwk hF;obtain⟨rc,hrc⟩:∃rc,rc=qaD n:=⟨_,rfl⟩;rw[<-hrc] at ih;have h:=SH.frame [oX c [oS x acc.length v] 64,oW S2 (acc:List qi) [oS x acc.length v],oW S1 (tail:List Int) [oS i tail.length g],oX a [.pointer pw] 83,oX b [.func (.func 85) #[] #[vp a,vp c,vp b]] 162] h0;replace h:SH _ _ [oX c [oS x acc.length v] 64,oW S2 (acc:List qi) [oS x acc.length v],oW S1 (tail:List Int) [oS i tail.length g],oX a [.pointer pw] 83,oX b [.func (.func 85) #[] #[vp a,vp c,vp b]] 162,oG (old d) (FS F) [same d w F]]:=h;refine qn1 func85 Z (m:=76) Z Z ?_;unfold qaD at hF;rw[<-hrc] at hF;refine X1 4 3 h Z ?_;obtain⟨y1,hy1,hF⟩:=qc hF;obtain⟨b1,H,_,rfl,-,hr1,l⟩:=PtR.get hwk hy1;obtain⟨_,_,_,_,_,_,_,_,_,_,_,_,_,_,_,_,_,_,_,_,_,_,_,rfl,s1,_,_,_,_,_,_,s8,s9,_,_,_⟩:=qlf hr1;refine zp3 Z (zc 12 (l.below h.below) Z (zp1 Z ?_));obtain⟨⟨r2,r3⟩,hr2,hF⟩:=qc hF;refine qaM (r2,r3) h (cB 83 Z) (qhr ⟨_,_,rfl,(h.oldS s8)⟩ hr2) Z Z Z Z fun _ _ _ hv1 hr3=>?_;obtain⟨_,_,_,_,rfl,R,hr4⟩:=hv1.cons hr3;obtain rfl:=qJ (R.sh.own 0 Z);obtain⟨rfl,h⟩:=R.lastB hr4;refine zp3 Z (qp qa h Z Z Z fun _ _ h=>zs 0 h Z fun _ h=>X0 6 Z ?_);obtain⟨T,O,_,hF,N⟩:=bindE hF;refine qa1 (fun e w'=>∃S7 I C z x1,T x1=V r/\e=[(0,vi at_),(1,oS i tail.length g),(2,vp a),(4,vp b)]/\SH d w' [oW S7 (x1:List qi) [oS I C z],oX c [oS I C z] 64,oW S1 (tail:List Int) [oS i tail.length g],oX a [.pointer (V ⟨b1,H,U⟩)] 83,oX b [.func (.func 85) #[] #[vp a,vp c,vp b]] 162,oG (old d) (FS F) [same d w F]]) ?_ ?_
  ·refine qg Z hF ?_ ?_<;>intro hF
   ·refine X0 3 Z (zcL h hF (qeO (h.own 4 Z)) Z fun _ _ _ _ _ h hF=>X0 5 Z ?_);obtain⟨x4,hx3,hF⟩:=qc hF;refine qlY (cB 87 Z) (qAS Tryz.slices_Reverse_at 0 h Z hx3) Z Z Z Z fun _ h=>X1 5 3 h Z (r_v (qG qa [0,1] [.tmp 29,.tmp 30] Z Z Z Z Z Z Z Z) Z (qho qa [.tmp 31] _ ([(⟨at_,x4,0⟩:qi)]:List qi) [1,2,3,4,5,6,7,8] h Z Z Z Z Z Z Z Z Z (qmn (qhi (⟨at_,x4,0⟩:qi) h (qw (S:=fun _=>False) Z) (qao 0 h Z) (qw (S:=fun _=>False) Z) (by rfl) (by rfl)) qkz Z) Z Z fun _ _ _ h=>?_));obtain⟨_,y,hF⟩:=qc hF;obtain⟨g8,y⟩:=qM y;replace h:=h.p [0,4,1,2,3,5,6,7,8] Z;refine qon qa h Z Z Z Z Z Z Z Z Z g8 y Z fun _ _ _ _ h=>zs 3 h Z fun _ h=>qaj ?_;replace h:=h.p [0,3,4,5,6,7] Z;obtain rfl:=qb hF;exact rG ⟨_,_,_,_,_,N,rfl,h⟩ Z
   ·refine qcx ?_;replace h:=h.p [3,2,4,5,6,7] Z;obtain rfl:=qb hF;exact rG ⟨_,_,_,_,_,N,rfl,h⟩ Z
  ·rintro _ _ ⟨S7,I,C,z,x1,hF,rfl,h⟩;subst O;obtain rfl:=(h.sl 0 Z).2;refine X1 5 3 h Z (zc 0 (l.below h.below) Z (zp1 Z (zcL h hF (qjs (h.old s1)) Z fun r4 _ S8 s o h hF=>X0 3 Z ?_)));obtain⟨o1,hF,hK1⟩:=qc hF;refine qm (rL (fun m e w'=>∃S9 J D A x2 i1,qaO wv tail rc y1 r4 m x2 i1=V o1/\e=[(1,oS i tail.length g),(2,vp a),(4,vp b),(39,oS s r4.length o),(40,vi (r4.length:Int)),(41,vi i1)]/\SH d w' [oW S8 (r4:List Int) [oS s r4.length o],oW S9 (x2:List qi) [oS J D A],oX c [oS J D A] 64,oW S1 (tail:List Int) [oS i tail.length g],oX a [.pointer (V ⟨b1,H,U⟩)] 83,oX b [.func (.func 85) #[] #[vp a,vp c,vp b]] 162,oG (old d) (FS F) [same d w F]]) n ⟨_,_,_,_,_,_,hF,rfl,h⟩ Z ?_);rintro m1 _ _ ⟨S9,J,D,A,x2,i1,hF,rfl,h⟩;obtain rfl:=(h.sl 1 Z).2;rcases m1 with _|m1
   ·cases hF
   refine X0 5 Z (qg Z hF ?_ ?_)<;>intro hF
   ·refine zKSBSR ?_;obtain⟨y2,_,hF,P,_,_,_,_,hp1,hq1,rfl,hc3⟩:=(h.sl 0 Z).1.ix hF;refine zx hp1 hq1 ⟨P.1,qD P.2.1 (h.sl 0 Z).2⟩ Z (zc 0 hc3 Z (X1 7 4 h Z (zc 0 (l.below h.below) Z ?_)));obtain⟨_,hy3,hF⟩:=qc hF;obtain⟨_,o_3,_,rfl,-,hr8,hc4⟩:=PtR.get s1 hy3;obtain⟨_,_,_,rfl,s13,_⟩:=qek hr8;refine zp2 Z (zc 0 (hc4.below h.below) Z ?_);obtain⟨_,hy4,hF⟩:=qc hF;obtain⟨_,o_4,_,rfl,-,hr9,hc5⟩:=PtR.get s13 hy4;obtain⟨_,_,_,_,_,_,_,_,_,_,_,_,_,_,_,_,_,_,_,_,rfl,_,_,_,_,_,_,s21,_,_,_⟩:=qcf hr9;refine zp2 Z (zc 6 (hc5.below h.below) Z (zp1 Z ?_));obtain⟨_,_,hF,he2,_,_,_,_,hp2,hq2,Q,hc6⟩:=s21.ix hF;obtain rfl:=qar Q;refine zxe hp2 hq2 he2 Z (zp1 Z (zc 0 (hc6.below h.below) Z (X1 8 4 h Z (zc 13 (l.below h.below) Z (zp1 Z ?_)))));obtain⟨_,_,hF,he3,_,_,_,_,hp3,hq3,rfl,hc7⟩:=s9.ix hF;refine zxe hp3 hq3 he3 Z (zc 0 (hc7.below h.below) Z (qaj (qg Z hF ?_ ?_)))<;>intro hF
    ·refine rA [] [5] h Z fun _ h=>M1 23 [0,1,2,4] 0 (h.p [5] Z) Z ?_;obtain⟨r5,t,hF⟩:=qc hF;obtain⟨_,f,hF⟩:=qc hF;obtain⟨r6,u,hF⟩:=qc hF;refine qkD (fun e w'=>∃M L B,e=[(1,oS i tail.length g),(2,vp a),(39,oS s r4.length o),(4,vp b),(40,vi (r4.length:Int)),(41,vi i1)]/\SH d w' [oX c [oS L r6.length B] 64,oW M (r6:List qi) [oS L r6.length B],oX a [.pointer (V ⟨b1,H,U⟩)] 83,oX b [.func (.func 85) #[] #[vp a,vp c,vp b]] 162,oW S8 (r4:List Int) [oS s r4.length o],oW S1 (tail:List Int) [oS i tail.length g],oG (old d) (FS F) [same d w F]]) 0 (bits 8 255) ?_ ?_
     ·intro K;refine At 3 5 31 55 Z ?_ ?_
      ·refine qkP r5 h (cB 86 Z) (qeO (h.own 3 Z) t) Z Z Z Z fun w35 W p58 k50 h=>Ag (h.p [6] Z) (Ao 5 63 Z (qE qa [.tmp 71] _ ([y2]:List Int) h Z Z Z Z Z Z Z Z Z ⟨rfl,G⟩ Z fun w36 p59 X h=>Ag (h.p [7] Z) (Ao 6 127 Z ?_)));obtain⟨g7,f⟩:=qM f;refine qbM qa 1 h Z (h.sl 0 Z).1 (h.sl 0 Z).2 Z Z Z Z Z Z Z Z Z g7 f Z fun w37 p60 k51 Y h=>Ag (h.p [7] Z) (Ao 7 255 Z ?_);replace h:=h.p [4,3,1,6,7,0,2,5,8] Z;refine qlY (cB 85 Z) (ih h hwk u) Z Z Z Z ?_;rintro w38 ⟨a3,p61,k52,h⟩;refine Ag (h.p [4] Z) ?_;replace h:=h.p [0,1,3,4,6,7,8] Z;exact aK K ⟨_,_,_,rfl,h⟩ Z
      ·refine qE qa [.tmp 71] _ ([y2]:List Int) h Z Z Z Z Z Z Z Z Z ⟨rfl,G⟩ Z fun w35 p58 W h=>Ag (h.p [6] Z) (Ao 3 63 Z (qkP r5 h (cB 86 Z) (qeO (h.own 4 Z) t) Z Z Z Z fun w36 X p59 k50 h=>Ag (h.p [7] Z) (Ao 6 127 Z ?_)));obtain⟨g7,f⟩:=qM f;refine qbM qa 0 h Z (h.sl 1 Z).1 (h.sl 1 Z).2 Z Z Z Z Z Z Z Z Z g7 f Z fun w37 p60 k51 Y h=>Ag (h.p [7] Z) (Ao 7 255 Z ?_);replace h:=h.p [4,3,0,6,7,1,2,5,8] Z;refine qlY (cB 85 Z) (ih h hwk u) Z Z Z Z ?_;rintro w38 ⟨a3,p61,k52,h⟩;refine Ag (h.p [4] Z) ?_;replace h:=h.p [0,1,3,4,6,7,8] Z;exact aK K ⟨_,_,_,rfl,h⟩ Z
     ·rintro _ _ ⟨M,L,B,rfl,h⟩;refine Ad (X0 5 Z ?_);replace h:=h.p [4,1,0,5,2,3,6] Z;exact rK ⟨_,_,_,_,_,_,hF,rfl,h⟩ Z
    ·exact X0 6 Z (rK ⟨_,_,_,_,_,_,hF,rfl,h⟩ Z)
   ·refine qu Z ?_;obtain rfl:=qb hF;replace hF:=hK1;obtain rfl:=qb hF;replace h:=h.p [2,1,3,4,5,6] Z;exact qvK qa ⟨_,_,_,SH.unfr 5 0 h0 h Z Z⟩ trivial
def qgQ(n:Nat)(b:(Option Twork))(node:Int):Option (List qi):=(qaD n b node ([]:List Int) ([]:List qi)).bind fun a=>V a
theorem qof{d:(Option Twork)}{node}(a:Ro w d cs1){r:(List qi)}(F:qgQ n d node=V r):RetV prog 48 [oV (Option Twork) cs1,vi node] w r:=by
 obtain⟨_,rfl,c⟩:=qau a;refine zV 12 func48 Z fun h=>zSR (qx h Z Z fun _ _ h=>X0 4 Z (qp qa h Z Z Z fun _ _ h=>zNSR (qp qa h Z Z Z fun _ _ h=>X0 4 Z (zs 0 h Z fun _ h=>X1 5 0 h Z ?_))));replace h:=h.nil (α:=Int);replace h:=h.nil (α:=qi);replace h:=h.p [3,0,1,4,2] Z;obtain⟨_,b,F⟩:=qc F;refine qlY (cB 85 Z) (qmu h c b) Z Z Z Z ?_;rintro _ ⟨_,_,_,h⟩;refine X1 6 0 h Z ?_;obtain rfl:=qb F;exact rO 1 h Z ⟨rfl,G⟩
def qm3(n:Nat)(a:qaB)(left:Int):Option Int:=(qky n (⟨(⟨a.Ac.Au.Ay⟩:qn),(⟨a.Ac.Aa.Ab,a.Ac.Aa.As,a.Ac.Aa.Ak⟩:qd),a.Ac.Ah⟩:qf) left).bind fun b=>bif decide (b<0) then V (-1) else(qjM n (⟨a.Af.Bd,a.Af.Am,a.Af.Ar,a.Af.Aj,a.Af.Aq⟩:qr) b).bind fun c=>bif decide (c<0) then V (-1) else(qb2 n a.Av c).bind fun d=>bif decide (d<0) then V (-1) else(qlc n a.Ap d).bind fun r4=>bif decide (r4<0) then V (-1) else V r4
theorem qsd{a:qaB}{left}(b:Ro w a cs1){r:Int}(F:qm3 n a left=V r):RetV prog 6 [oV qaB cs1,vi left] w r:=by
 obtain⟨_,_,_,_,_,_,_,_,_,_,_,_,_,_,rfl,c,s2,d,f,g,i,k⟩:=qdh b;refine zV 30 func6 Z fun h=>zSR (qx h Z Z fun _ _ h=>X1 7 0 h Z (zcI h F (qqG (qdq _ (h.oldS c) (h.oldS s2) (h.oldS d) (h.oldS f) (h.oldS g))) Z fun _ _ h F=>X0 8 Z (qg Z F ?_ ?_)))<;>intro F
 ·exact X0 4 Z (ri h F Z)
 refine X1 6 0 h Z (zcI h F (qp7 (qdE _)) Z fun _ _ h F=>X0 8 Z (qg Z F ?_ ?_))<;>intro F
 ·exact X0 4 Z (ri h F Z)
 refine X1 6 0 h Z (zcI h F (qbG ⟨_,_,rfl,(h.oldS i)⟩) Z fun _ _ h F=>X0 8 Z (qg Z F ?_ ?_))<;>intro F
 ·exact X0 4 Z (ri h F Z)
 refine X1 6 0 h Z (zcI h F (qpt ⟨_,_,rfl,(h.oldS k)⟩) Z fun _ _ h F=>X0 8 Z (qg Z F ?_ ?_))<;>intro F
 ·exact X0 4 Z (ri h F Z)
 exact X0 6 Z (ri h F Z)
def qjj(n:Nat)(a:qaB):Option qaB:=(qkM n (⟨(⟨a.Ac.Au.Ay⟩:qn),(⟨a.Ac.Aa.Ab,a.Ac.Aa.As,a.Ac.Aa.Ak⟩:qd),a.Ac.Ah⟩:qf)).bind fun c=>(qjH n (⟨a.Af.Bd,a.Af.Am,a.Af.Ar,a.Af.Aj,a.Af.Aq⟩:qr)).bind fun b=>(qbD n a.Av).bind fun d=>(qiN n a.Ap).bind fun r4=>V (⟨c,(⟨b.Bd,b.Am,b.Ar,b.Aj,b.Aq⟩:qr),d,r4⟩:qaB)
theorem qmb{a:qaB}(d:Ro w a cs1){r:qaB}(F:qjj n a=V r):RetV prog 8 [oV qaB cs1] w r:=by
 obtain⟨_,_,_,_,_,_,_,_,_,_,_,_,_,_,rfl,A,s2,B,C,D,H,I⟩:=qdh d;refine zV 21 func8 Z fun h=>zSR (qx h Z Z fun _ _ h=>qp qa h Z Z Z fun _ _ h=>zNSR (qp qa h Z Z Z fun _ _ h=>X1 5 2 h Z (zcO h F (qqC (qdq _ (h.oldS A) (h.oldS s2) (h.oldS B) (h.oldS C) (h.oldS D))) Z fun c _ _ _ h F=>?_)));obtain⟨y,v,z,x,m,f,o,g,p,i,rfl,-,-,-,-,-⟩:=qac (h.own 0 Z);refine zp1 Z (zs 1 h Z fun _ h=>X1 5 3 h Z (zcO h F (qqj (qdE _)) Z fun b _ _ _ h F=>?_));obtain rfl:=qaG (h.own 0 Z);refine zp1 Z (zs 2 h Z fun _ h=>X1 5 4 h Z (zcL h F (qbH ⟨_,_,rfl,(h.oldS H)⟩) Z fun u _ _ s k h F=>zp1 Z (zs 3 h Z fun _ h=>X1 5 5 h Z (zcL h F (qpE ⟨_,_,rfl,(h.oldS I)⟩) Z fun r4 _ _ t l h F=>zp1 Z (zs 4 h Z fun _ h=>X1 4 4 h Z (zs 5 h Z fun _ h=>qaj ?_))))));obtain rfl:=qb F;exact qU qa (ρ:=qaB) [oV qaB [oS y c.Au.Ay.length v,oS z c.Aa.Ab.length x,oS m c.Aa.As.length f,oS o c.Aa.Ak.length g,oS p c.Ah.length i,.string b.Bd,vi b.Am,vi b.Ar,vi b.Aj,vi b.Aq,oS s u.length k,oS t r4.length l]] h ⟨⟨_,_,_,rfl,rfl,h.box 5 Z,rfl⟩,G⟩ (PV.done h (qaa (qzN (⟨c,(⟨b.Bd,b.Am,b.Ar,b.Aj,b.Aq⟩:qr),u,r4⟩:qaB) h (qao 3 h Z) (qw (S:=fun _=>False) (qdE (⟨b.Bd,b.Am,b.Ar,b.Aj,b.Aq⟩:qr))) (qao 1 h Z) (qao 0 h Z) (by rfl) (by rfl) (by rfl))))
def qnd(n:Nat)(a:qaB)(b:qaB):Option Bool:=(qkF n (⟨(⟨a.Ac.Au.Ay⟩:qn),(⟨a.Ac.Aa.Ab,a.Ac.Aa.As,a.Ac.Aa.Ak⟩:qd),a.Ac.Ah⟩:qf) (⟨(⟨b.Ac.Au.Ay⟩:qn),(⟨b.Ac.Aa.Ab,b.Ac.Aa.As,b.Ac.Aa.Ak⟩:qd),b.Ac.Ah⟩:qf)).bind fun c=>bif (!c) then V false else(qjE n (⟨a.Af.Bd,a.Af.Am,a.Af.Ar,a.Af.Aj,a.Af.Aq⟩:qr) (⟨b.Af.Bd,b.Af.Am,b.Af.Ar,b.Af.Aj,b.Af.Aq⟩:qr)).bind fun d=>bif (!d) then V false else(qbJ n a.Av b.Av).bind fun f=>bif (!f) then V false else(qi6 n a.Ap b.Ap).bind fun r4=>bif (!r4) then V false else V true
theorem qsi{a:qaB}{b:qaB}(c:Ro w a cs1)(d:Ro w b cs2){r:Bool}(F:qnd n a b=V r):RetV prog 11 [oV qaB cs1,oV qaB cs2] w r:=by
 obtain⟨_,_,_,_,_,_,_,_,_,_,_,_,_,_,rfl,m,s2,o,p,s,t,u⟩:=qdh c;obtain⟨_,_,_,_,_,_,_,_,_,_,_,_,_,_,rfl,v,x,f,g,i,k,l⟩:=qdh d;refine zV 29 func11 Z fun h=>zSR (qx h Z Z fun _ _ h=>qx h Z Z fun _ _ h=>X2 9 1 0 h Z (zcB h F (qqY (qdq _ (h.oldS m) (h.oldS s2) (h.oldS o) (h.oldS p) (h.oldS s)) (qdq _ (h.oldS v) (h.oldS x) (h.oldS f) (h.oldS g) (h.oldS i))) Z fun _ _ h F=>X0 2 Z (qg Z F ?_ ?_)))<;>intro F
 ·exact X0 4 Z (rb h F Z)
 refine X2 8 1 0 h Z (zcB h F (qpR (qdE _) (qdE _)) Z fun _ _ h F=>X0 2 Z (qg Z F ?_ ?_))<;>intro F
 ·exact X0 4 Z (rb h F Z)
 refine X2 8 1 0 h Z (zcB h F (qbE ⟨_,_,rfl,(h.oldS t)⟩ ⟨_,_,rfl,(h.oldS k)⟩) Z fun _ _ h F=>X0 2 Z (qg Z F ?_ ?_))<;>intro F
 ·exact X0 4 Z (rb h F Z)
 refine X2 8 1 0 h Z (zcB h F (qpv ⟨_,_,rfl,(h.oldS u)⟩ ⟨_,_,rfl,(h.oldS l)⟩) Z fun _ _ h F=>X0 2 Z (qg Z F ?_ ?_))<;>intro F
 ·exact X0 4 Z (rb h F Z)
 exact X0 5 Z (rb h F Z)
end Go.Fw


namespace Go.Fw
open Go
def qmY(x:qr):Prop:=rngS x.Bd/\rngI x.Am/\rngI x.Ar/\rngI x.Aj/\rngI x.Aq
def qli(x:qr):Nat:=x.Bd.size
structure qsV(x:qr):Prop where
 Bd:okS x.Bd
 Am:okI x.Am
 Ar:okI x.Ar
 Aj:okI x.Aj
 Aq:okI x.Aq
theorem quC{x:qr}(h:qmY x)(w:qli x<=1048576):qsV x:=⟨(by unfold okS;simp only[qli] at w;omega),h.2.1,h.2.2.1,h.2.2.2.1,h.2.2.2.2⟩
theorem qwV{a:qr}(_:qli a<=1048576):Ev (fun n=>qjE n a a) true:=by
 unfold qjE;exact Ev.ff qiS (Ev.ff qa4 (Ev.ff qa4 (Ev.ff qa4 (Ev.ff qa4 (.done)))))
def qpI(x:qe):Prop:=rngI x.Az/\rngI x.Bf
structure qtp(x:qe):Prop where
 Az:okI x.Az
 Bf:okI x.Bf
theorem qsL{x:qe}(h:qpI x):qtp x:=⟨h.1,h.2⟩
def qjk(x:qh):Prop:=rngI x.Bq/\qpI x.Ai/\qpI x.Be
structure qqd(x:qh):Prop where
 Bq:okI x.Bq
 Ai:qtp x.Ai
 Be:qtp x.Be
theorem qua{x:qh}(h:qjk x):qqd x:=⟨h.1,qsL (h.2.1),qsL (h.2.2)⟩
def qiq(a:(List qh)):Nat:=a.length
theorem qtj{a:(List qh)}(h:(rngL qjk) a)(w:qiq a<=1048576):(okL qqd) a:=
 ⟨by simp only[qiq] at w;omega,fun x b=>qua (h.2 x b)⟩
def qrg(x:qaB):Prop:=qos x.Ac/\qmY x.Af/\(rngL rngI) x.Av/\(rngL qjk) x.Ap
def qnj(x:qaB):Nat:=qiH x.Ac+qli x.Af+qdG x.Av+qiq x.Ap
structure qjl(x:qaB):Prop where
 Ac:qmh x.Ac
 Af:qsV x.Af
 Av:(okL okI) x.Av
 Ap:(okL qqd) x.Ap
theorem qyP{x:qaB}(h:qrg x)(w:qnj x<=1048576):qjl x:=⟨qv3 (h.1) (by simp only[qnj] at w;omega),quC (h.2.1) (by simp only[qnj] at w;omega),qem (h.2.2.1) (by simp only[qnj] at w;omega),qtj (h.2.2.2) (by simp only[qnj] at w;omega)⟩
theorem qws{a:qe}:Ev (fun n=>qkf n a a) true:=by
 unfold qkf;exact Ev.ff qa4 (Ev.ff qa4 (.done))
theorem qwG{a:qh}:Ev (fun n=>qh4 n a a) true:=by
 unfold qh4;exact Ev.ff qa4 (Ev.bind (qws (a:=a.Ai)) (Ev.ff Z (Ev.bind (qws (a:=a.Be)) (Ev.ff Z (.done)))))
theorem qu9{a:(List qh)}(h:qiq a<=1048576):Ev (fun n=>qi6 n a a) true:=by
 have f:a.length<=1048576:=by simp only[qiq] at h;omega
 unfold qi6;exact Ev.ff (by simp) (Ev.bind (b:=.nxt (a.length:Int)) (qjI (eqf:=qh4) (fun x c=>qwG)
  (fun n=>by simp only[qe7,ql (je _),cond_false])
  (fun n j x c=>by
   have d:=(List.getElem?_eq_some_iff.1 c).1;simp only[qe7,qj d,cond_true,qaE c,jd,wS j])) .done)
theorem qAk{a:qaB}(h:qnj a<=1048576):Ev (fun n=>qnd n a a) true:=by
 unfold qnd;simp only[qnj] at h;exact Ev.bind (qyb (a:=a.Ac) (by omega)) (Ev.ff Z (Ev.bind (qwV (a:=a.Af) (by omega)) (Ev.ff Z (Ev.bind (qgy (a:=a.Av) (by omega)) (Ev.ff Z (Ev.bind (qu9 (a:=a.Ap) (by omega)) (Ev.ff Z (.done))))))))
structure qAZ(x:qi):Prop where
 Bm:okI x.Bm
 Bg:(okL okI) x.Bg
 Ai:okI x.Ai
theorem qwS{a:qr}{left:Int}(h:qmY a)(k:0<=left)(l:left<=1048576):Sz (fun n=>qjM n a left) (fun r=>r=left-(qli a:Int)):=by
 unfold qjM;obtain⟨b,c,d,f,g⟩:=h;exact Sz.strStep b (by omega) (by omega) fun i m=>Sz.done i (by simp only[qli];omega)
theorem qvF{a:(List qh)}{left:Int}(h:(rngL qjk) a)(b:0<=left)(c:left<=1048576):Sz (fun n=>qlc n a left) (fun r=>r=left-(qiq a:Int)):=
 Sz.less b c (by omega) (by have:=h.1;omega) (fun _=>rfl)
theorem qAC{a:qaB}{left:Int}(h:qrg a)(i:0<=left)(k:left<=1048576):Sz (fun n=>qm3 n a left) (fun r=>r=left-(qnj a:Int)):=by
 unfold qm3;obtain⟨b,c,d,f⟩:=h;exact Sz.step (qyh (a:=a.Ac) b (by omega) (by omega)) fun v l p=>Sz.step (qwS (a:=a.Af) c (by omega) (by omega)) fun x m s=>Sz.step (qgI (a:=a.Av) d (by omega) (by omega)) fun y o t=>Sz.step (qvF (a:=a.Ap) f (by omega) (by omega)) fun z g u=>Sz.done g (by simp only[qnj];omega)
theorem qxu{a:qr}(_:qli a<=1048576):Ev (fun n=>qjH n a) a:=by
 unfold qjH;exact .done
theorem qwu{a:qe}:Ev (fun n=>qj1 n a) a:=by
 unfold qj1;exact .done
theorem qwQ{a:qh}:Ev (fun n=>qhQ n a) a:=by
 unfold qhQ;exact Ev.bind (qwu (a:=a.Ai)) (Ev.bind (qwu (a:=a.Be)) (.done))
theorem qvk{a:(List qh)}(h:qiq a<=1048576):Ev (fun n=>qiN n a) a:=by
 have i:a.length<=1048576:=by simp only[qiq] at h;omega
 unfold qiN;exact Ev.bindN (qi8 (by omega)) (Ev.bind (b:=(a,(a.length:Int))) (qjG (cp:=qhQ) (fun x d=>qwQ)
  (fun c n=>by simp only[qe9,ql (je _),cond_false])
  (fun c n j x y d g=>by
   have f:=(List.getElem?_eq_some_iff.1 d).1;simp only[qe9,qj f,cond_true,qaE d,qaE g,jd,wS j])) .done)
theorem qu6{a:qaB}(h:qnj a<=1048576):Ev (fun n=>qjj n a) a:=by
 unfold qjj;simp only[qnj] at h;exact Ev.bind (qyE (a:=a.Ac) (by omega)) (Ev.bind (qxu (a:=a.Af) (by omega)) (Ev.bind (qgD (a:=a.Av) (by omega)) (Ev.bind (qvk (a:=a.Ap) (by omega)) (.done))))
end Go.Fw


namespace Go.Fw
open Go
set_option maxRecDepth 100000
abbrev lkB(b:qf):Nat:=(linksL b).length
abbrev ndB(b:qf):Nat:=2*(places b.Aa).length
abbrev lvJ(b:qf)(br:List Int):List Bool:=lvB br (lkB b)
def grB(b:qf)(br:List Int):Option Tgraph:=V ⟨V (viewV b),lvJ b br⟩
structure TgOk(b:qf)(c:qr)(br:List Int)(xs:List qh)(R:List Nat):Prop where
 bl:blockB b=true
 co:cornerB c=true
 br_:brB br (lkB b)=true
 sr:srcB xs (ndB b)=true
 or_:ordL (linksL b) (lvJ b br) (ndB b) (ndB b) []=V R
theorem TgOk.ord{b:qf}{c:qr}{br:List Int}{xs:List qh}{R:List Nat}(h:TgOk b c br xs R):OrdOk (lkB b) (frL (linksL b)) (toL (linksL b)) (lvL (lvJ b br)) (ndB b) R:=
 qy3 (ndB b) [] R (fun a k d e=>by cases a<;>cases e) h.or_
theorem TgOk.len{b:qf}{c:qr}{br:List Int}{xs:List qh}{R:List Nat}(h:TgOk b c br xs R):R.length=ndB b:=by
 have:=qyd (ndB b) [] R h.or_;simpa using this
theorem qgU{x:Int}(h:x≠0):(x != 0)=true:=by simpa using h
theorem qz6{b:qf}{c:qr}{br:List Int}{xs:List qh}(B:qmh b)(H:okS c.Bd)(a:br.length<=1048576)(m:xs.length<=1048576) :
  (∃code:Int,code≠0/\Ev (fun n=>qhu n b c br xs) ([],code)/\Ev (fun n=>qfG n b c br xs U) (U,[],code)) \/
  ∃R,TgOk b c br xs R/\Ev (fun n=>qhu n b c br xs) (ints R,0)/\Ev (fun n=>qfG n b c br xs U) (grB b br,ints R,0):=by
 have k:=qoi B;have i1:=qvN B;have s2:=qtl (c:=c) H;have s:=quW (c:=c) H;unfold qhu qfG;cases h1:blockB b
 ·rw[h1] at k i1;exact .inl ⟨1,by omega,Ev.bind (b:=true) (Ev.bind k (Ev.tt Z .done)) (Ev.tt Z .done),Ev.bind (b:=true) (Ev.bind i1 (Ev.tt Z .done)) (Ev.tt Z .done)⟩
 cases h2:cornerB c
 ·rw[h1] at k i1;rw[h2] at s2 s;exact .inl ⟨1,by omega,Ev.bind (b:=true) (Ev.bind k (Ev.ff Z (Ev.bind s2 .done))) (Ev.tt Z .done),Ev.bind (b:=true) (Ev.bind i1 (Ev.ff Z (Ev.bind s .done))) (Ev.tt Z .done)⟩
 have C:=qaN (qN (qam h1));have d:=qhc h1;have I:=qfN h1;have i:=qvD (br:=br) B h1 a;have f:=quR (v:=viewV b) (br:=br) a d;have y:=qsl (xs:=xs) h1 m;have p:=qsn (v:=viewV b) (xs:=xs) C m;have F:(viewV b).links=linksL b:=rfl;have M:(viewV b).places=places b.Aa:=rfl;rw[F] at f;rw[M] at p;rw[h1] at k i1;rw[h2] at s2 s;have A:Ev (fun n=>(qhx n b).bind fun g=>bif (!g) then V true else(qhR n c).bind fun h=>V (!h)) false:=Ev.bind k (Ev.ff Z (Ev.bind s2 .done));have u:Ev (fun n=>(qi7 n b).bind fun g=>bif (!g) then V true else(qh1 n c).bind fun h=>V (!h)) false:=Ev.bind i1 (Ev.ff Z (Ev.bind s .done));have x:=qvr h1;cases h3:brB br (lkB b)
 ·rw[h3] at i f;exact .inl ⟨2,by omega,Ev.bind A (Ev.ff Z (Ev.bind (b:=true) (Ev.bind i (Ev.tt Z .done)) (Ev.tt Z .done))),
   Ev.bind u (Ev.ff Z (Ev.bind x (Ev.bind (b:=false) (Ev.ff Z .done) (Ev.ff Z (Ev.bind (b:=true) (Ev.bind f (Ev.tt Z .done)) (Ev.tt Z .done))))))⟩
 cases h4:srcB xs (ndB b)
 ·rw[h3] at i f;rw[h4] at y p;exact .inl ⟨2,by omega,Ev.bind A (Ev.ff Z (Ev.bind (b:=true) (Ev.bind i (Ev.ff Z (Ev.bind y .done))) (Ev.tt Z .done))),
   Ev.bind u (Ev.ff Z (Ev.bind x (Ev.bind (b:=false) (Ev.ff Z .done) (Ev.ff Z (Ev.bind (b:=true) (Ev.bind f (Ev.ff Z (Ev.bind p .done))) (Ev.tt Z .done))))))⟩
 have D:=qvP (v:=viewV b) (br:=br) d h3;rw[F] at D;have P:=qjB (ls:=linksL b) (br:=br) d a;have l:(lvJ b br).length=lkB b:=qmO;have z:=qs1 (lv:=lvJ b br) I l;have t:=qwI (b:=b) (ps:=places b.Aa) (lo:=pre (load0 b) b.Ah.length) (de:=pre (exactL b) b.Ah.length) (ex:=[]) (lv:=lvJ b br) I l Z;rw[h3] at i f;rw[h4] at y p;have K:Ev (fun n=>(qhn n b br).bind fun r4=>bif (r4 != 0) then V true else(qgs n b xs).bind fun O=>V (!O)) false:=Ev.bind i (Ev.ff Z (Ev.bind y .done));have J:Ev (fun n=>(qeJ n (V (viewV b)) br).bind fun g=>bif (!g) then V true else(qdD n (V (viewV b)) xs).bind fun h=>V (!h)) false:=Ev.bind f (Ev.ff Z (Ev.bind p .done));have L:∀r:List Int×Int,Ev (fun n=>(qgz n (ndB b:Int) (linksL b) (lvJ b br)).bind fun(g,h)=>bif (!h) then V (([]:List Int),(7:Int)) else V (g,0)) r->Ev (fun n=>qeN n b br) r:=fun r N=>by
  unfold qeN;exact Ev.bind i (Ev.ff Z (Ev.bind (qfj h1) (Ev.bind (qjT h1) (Ev.bind P N))))
 cases ho:ordL (linksL b) (lvJ b br) (ndB b) (ndB b) [] with
 |none=>
  have e:ordR (linksL b) (lvJ b br) (ndB b)=([],false):=by unfold ordR;rw[ho]
  rw[e] at z t;exact .inl ⟨7,by omega,Ev.bind A (Ev.ff Z (Ev.bind K (Ev.ff Z (Ev.bind (L ([],7) (Ev.bind z (Ev.tt Z .done))) .done)))),
   Ev.bind u (Ev.ff Z (Ev.bind x (Ev.bind (b:=false) (Ev.ff Z .done) (Ev.ff Z (Ev.bind J (Ev.ff Z (Ev.bind D (Ev.bind t (Ev.tt Z .done)))))))))⟩
 |some R=>
  have e:ordR (linksL b) (lvJ b br) (ndB b)=(ints R,true):=by unfold ordR;rw[ho]
  rw[e] at z t;exact .inr ⟨R,⟨h1,h2,h3,h4,ho⟩,Ev.bind A (Ev.ff Z (Ev.bind K (Ev.ff Z (Ev.bind (L (ints R,0) (Ev.bind z (Ev.ff Z .done))) .done)))),
   Ev.bind u (Ev.ff Z (Ev.bind x (Ev.bind (b:=false) (Ev.ff Z .done) (Ev.ff Z (Ev.bind J (Ev.ff Z (Ev.bind D (Ev.bind t (Ev.ff Z .done)))))))))⟩
structure WkOk(j:qaB)(t:qq)(R:List Nat):Prop where
 tg:TgOk j.Ac j.Af j.Av j.Ap R
 tm:TmOk t (ndB j.Ac)
def wkV(j:qaB)(t:qq)(R:List Nat):Option Twork:=V ⟨grB j.Ac j.Av,j,t,ints R⟩
theorem qwy{j:qaB}(h:qjl j) :
  (∃code:Int,code≠0/\Ev (fun n=>qaP n j.Ac j.Af j.Av j.Ap) (zT,code)/\Ev (fun n=>qj4 n j) (U,code)) \/
  ∃t R,WkOk j t R/\Ev (fun n=>qaP n j.Ac j.Af j.Av j.Ap) (t,0)/\Ev (fun n=>qj4 n j) (wkV j t R,0):=by
 have g:=h.Av.len;have a:=h.Ap.len;unfold qaP qj4;rcases qz6 h.Ac h.Af.Bd g a with⟨code,hne,hs,hi⟩|⟨R,hg,hs,hi⟩
 ·exact .inl ⟨code,hne,Ev.bind hs (Ev.tt (qgU hne) .done),Ev.bind hi (Ev.tt (qgU hne) .done)⟩
 ·have b:=hg.bl;have s:=qhc b;have y:=qjB (ls:=linksL j.Ac) (br:=j.Av) s g;obtain⟨f,p,r⟩:=qu1 b hg.co;have l:=r [] (.inl Z);rw[qsB] at l;have A:=qaN (qN (qam b));have m:=hg.len;have c:R.length<=1000:=by rw[m];show 2*(places j.Ac.Aa).length<=1000;omega
  have d:∀k,k∈R->k<2*(places j.Ac.Aa).length:=fun k z=>by
   obtain⟨i,hi,rfl⟩:=List.mem_iff_getElem.1 z;exact(hg.ord.at hi).1
  have u:=qwi (lv:=lvJ j.Ac j.Av) (R:=R) b p qmO (qok a hg.sr) d c;have v:=qzd (lv:=lvJ j.Ac j.Av) (R:=R) b p (fun _ _=>rfl) l qmO (qok a hg.sr) (fun i hi=>⟨(hg.ord.at hi).1,(hg.ord.at hi).2.1⟩) c;have x:=qAD (lv:=lvJ j.Ac j.Av) b p (qok a hg.sr) R (zTm (2*(places j.Ac.Aa).length));generalize rnO f (linksL j.Ac) (lvJ j.Ac j.Av) j.Ap R (zTm (2*(places j.Ac.Aa).length))=o at x u v;cases o with
  |none=>exact .inl ⟨3,by omega,Ev.bind hs (Ev.ff Z (Ev.bind (qfj b) (Ev.bind y (Ev.bind u (Ev.tt Z .done))))),Ev.bind hi (Ev.ff Z (Ev.bind v (Ev.tt Z .done)))⟩
  |some t=>exact .inr ⟨t,R,⟨hg,x t d qvI Z⟩,Ev.bind hs (Ev.ff Z (Ev.bind (qfj b) (Ev.bind y (Ev.bind u (Ev.ff Z .done))))),Ev.bind hi (Ev.ff Z (Ev.bind v (Ev.ff Z .done)))⟩
end Go.Fw


namespace Go.Fw
open Go Go.Proofs Go.Proofs.Tryz
open Go.RowKit (Below)
open Ch renaming own->oW,box->oX,grp->oG
open GoT renaming v->oV
open Go.Value renaming slice->oS
set_option maxRecDepth 100000
set_option maxHeartbeats 6400000
variable{n:Nat}{w:World}{cs1 cs2 cs3 cs4 cs5 cs6 cs7 cs8 cs9:List Value}
def qcu(n:Nat)(j:qaB):Option ((Option Tl20Work)×Int):=(qaP n (⟨(⟨j.Ac.Au.Ay⟩:qn),(⟨j.Ac.Aa.Ab,j.Ac.Aa.As,j.Ac.Aa.Ak⟩:qd),j.Ac.Ah⟩:qf) (⟨j.Af.Bd,j.Af.Am,j.Af.Ar,j.Af.Aj,j.Af.Aq⟩:qr) j.Av j.Ap).bind fun(b,a)=>bif (a != 0) then V (U,a) else(qfp n (⟨(⟨j.Ac.Au.Ay⟩:qn),(⟨j.Ac.Aa.Ab,j.Ac.Aa.As,j.Ac.Aa.Ak⟩:qd),j.Ac.Ah⟩:qf)).bind fun r4=>(qhF n r4 j.Av).bind fun c=>V ((V (⟨(⟨(⟨(⟨j.Ac.Au.Ay⟩:qn),(⟨j.Ac.Aa.Ab,j.Ac.Aa.As,j.Ac.Aa.Ak⟩:qd),j.Ac.Ah⟩:qf),(⟨j.Af.Bd,j.Af.Am,j.Af.Ar,j.Af.Aj,j.Af.Aq⟩:qr),j.Av,j.Ap⟩:qaB),r4,c,b⟩:Tl20Work)),0)
theorem qpW{n w}{j:qaB}{cs1}(O:Ro w j cs1){r:((Option Tl20Work)×Int)}(F:qcu n j=V r):RetZ prog 78 [oV qaB cs1] w (fun us L=>(∃H,r=(U,H)/\us=[oV (Option Tl20Work) [.pointer U],oV Int [vi H]]/\L=[])\/(∃uS1 K k I N uS6 M l J t B o b f u a C p c g v D s d i x,r=((V (⟨j,x,v,(⟨u,t,N⟩:qq)⟩:Tl20Work)),0)/\us=[oV (Option Tl20Work) [vp a],oV Int [vi 0]]/\L=[oW uS1 (N:List qe) [oS K k I],oW uS6 (t:List qe) [oS M l J],oW B (u:List Bool) [oS o b f],oX a (cs1++[oS s d i,oS p c g,oS o b f,oS M l J,oS K k I]) 114,oW C (v:List Bool) [oS p c g],oW D (x:List qv) [oS s d i]])):=by
 obtain⟨_,_,_,_,_,_,_,_,_,_,_,_,_,_,rfl,s1,s2,s3,s4,s5,s6,s7⟩:=qdh O;refine qqw func78 Z (m:=34) Z Z (fun h=>?_);refine zSR (qx h Z Z fun _ _ h=>X4 13 0 0 0 0 h Z ?_);obtain⟨⟨y,r3⟩,P,F⟩:=qc F;refine qaM (y,r3) h (cB 124 Z) (qmr (qdq _ (h.oldS s1) (h.oldS s2) (h.oldS s3) (h.oldS s4) (h.oldS s5)) (qdE _) ⟨_,_,rfl,(h.oldS s6)⟩ ⟨_,_,rfl,(h.oldS s7)⟩ P) Z Z Z Z fun _ _ _ S Q=>?_;obtain⟨_,_,_,_,rfl,A,R⟩:=S.cons Q;obtain⟨p8,k8,p9,k9,Y,T,rfl,-,-,-⟩:=qcS (A.sh.own 0 Z);obtain⟨rfl,h⟩:=A.lastI R;refine zp3 Z (qp qa h Z Z Z fun _ _ h=>zs 0 h Z fun _ h=>X0 8 Z (qg Z F ?_ ?_))<;>intro F
 ·refine X0 6 Z ?_;obtain rfl:=qb F;replace h:=h.p [] Z;exact qoY qa [oV (Option Tl20Work) [.pointer U],oV Int [vi r3]] h ⟨rfl,rfl,G⟩ (.inl ⟨r3,rfl,rfl,rfl⟩)
 refine X1 5 2 h Z (zcL h F (qhp (qdq _ (h.oldS s1) (h.oldS s2) (h.oldS s3) (h.oldS s4) (h.oldS s5))) Z fun r4 _ S5 e W h F=>X0 3 Z (rA [] [1,3] h Z fun _ h=>M3 95 [0,1,2,3,4,6] 1 1 0 (h.p [1,3] Z) Z (Ao 5 127 Z (zcL h F (qh6 (h.own 0 Z) ⟨_,_,rfl,(h.oldS s6)⟩) Z fun r5 _ S6 a3 X h F=>Ag (h.p [2,4] Z) (Aw 7 255 (fun w' hw=>qG qa [0,1,2,3] [.tmp 25,.tmp 26,.tmp 30,.tmp 31] Z Z Z Z Z Z Z Z) (h.p [2,4] Z) Z ?_)))));refine Ao 8 511 Z (qx h Z Z fun _ z h=>G0 2047 [9,10] (h.p [3,5] Z) Z (Ad ?_));replace h:=h.p [4,0,1,2,3,5] Z;obtain⟨S7,S8,S9,h⟩:=qgC h;obtain rfl:=qb F;replace h:=h.p [0,1,2,3,4,5] Z;exact qoY qa [oV (Option Tl20Work) [vp z],oV Int [vi 0]] h ⟨rfl,rfl,G⟩ (.inr ⟨S9,Y,y.Be.length,T,y.Be,S8,p9,y.Ai.length,k9,y.Ai,S7,p8,y.Bb.length,k8,y.Bb,z,S6,a3,r5.length,X,r5,S5,e,r4.length,W,r4,rfl,rfl,rfl⟩)
def qew(n:Nat)(j:qaB)(node:Int):Option ((Option Tl20Work)×Int):=(qcu n j).bind fun|(U,i1)=>(bif (i1 != 0) then V (U,i1) else(qbI n (⟨(⟨j.Ac.Au.Ay⟩:qn),(⟨j.Ac.Aa.Ab,j.Ac.Aa.As,j.Ac.Aa.Ak⟩:qd),j.Ac.Ah⟩:qf)).bind fun a=>(qaq n node 0 (W64 (a-1))).bind fun b=>bif (!b) then V (U,4) else V (U,0))|(V (⟨_,g,f,⟨x3,d,x1⟩⟩),_)=>((qbI n (⟨(⟨j.Ac.Au.Ay⟩:qn),(⟨j.Ac.Aa.Ab,j.Ac.Aa.As,j.Ac.Aa.Ak⟩:qd),j.Ac.Ah⟩:qf)).bind fun r4=>(qaq n node 0 (W64 (r4-1))).bind fun c=>bif (!c) then V (U,4) else V ((V (⟨(⟨(⟨(⟨j.Ac.Au.Ay⟩:qn),(⟨j.Ac.Aa.Ab,j.Ac.Aa.As,j.Ac.Aa.Ak⟩:qd),j.Ac.Ah⟩:qf),(⟨j.Af.Bd,j.Af.Am,j.Af.Ar,j.Af.Aj,j.Af.Aq⟩:qr),j.Av,j.Ap⟩:qaB),g,f,(⟨x3,d,x1⟩:qq)⟩:Tl20Work)),0))
theorem qnz{n w}{j:qaB}{node cs1}(J:Ro w j cs1){r:((Option Tl20Work)×Int)}(F:qew n j node=V r):RetZ prog 41 [oV qaB cs1,vi node] w (fun us L=>(∃W,r=(U,W)/\us=[oV (Option Tl20Work) [.pointer U],oV Int [vi W]]/\L=[])\/(∃uS1 e k X a4 uS6 a3 l Y t R o b f u a S p c g v T s d i x,r=((V (⟨j,x,v,(⟨u,t,a4⟩:qq)⟩:Tl20Work)),0)/\us=[oV (Option Tl20Work) [vp a],oV Int [vi 0]]/\L=[oW uS1 (a4:List qe) [oS e k X],oW uS6 (t:List qe) [oS a3 l Y],oW R (u:List Bool) [oS o b f],oX a (cs1++[oS s d i,oS p c g,oS o b f,oS a3 l Y,oS e k X]) 114,oW S (v:List Bool) [oS p c g],oW T (x:List qv) [oS s d i]])):=by
 obtain⟨p1,k1,p2,k2,p3,k3,p4,k4,p5,k5,p6,k6,p7,k7,rfl,s1,s2,s3,s4,s5,_,_⟩:=qdh J;refine qqw func41 Z (m:=24) Z Z (fun h=>?_);refine zSR (qx h Z Z fun _ I h=>X1 6 0 h Z ?_);obtain⟨_,a5,F⟩:=qc F;refine qwm (cB 78 Z) (qpW (h.old J) a5) Z Z Z Z ?_;rintro _ _ _ K (⟨i1,rfl,rfl,rfl⟩|⟨S1,p8,M,k8,x1,S2,p9,N,k9,x2,S3,C,O,z,x3,y,S4,D,P,A,x4,S5,H,Q,B,x5,rfl,rfl,rfl⟩)
 ·replace h:SH _ _ [oX I (qnK j p1 p2 p3 p4 p5 p6 p7 k1 k2 k3 k4 k5 k6 k7) 57]:=SH.appendN h K (show NoD [] from trivial);refine X0 12 Z (qg Z F ?_ ?_)<;>intro F
  ·refine X0 6 Z ?_;obtain rfl:=qb F;replace h:=h.p [] Z;exact qoY qa [oV (Option Tl20Work) [.pointer U],oV Int [vi i1]] h ⟨rfl,rfl,G⟩ (.inl ⟨i1,rfl,rfl,rfl⟩)
  refine X1 7 0 h Z (zcI h F (qds (qdq _ (h.oldS s1) (h.oldS s2) (h.oldS s3) (h.oldS s4) (h.oldS s5))) Z fun _ _ h F=>zp1 Z (zcB h F qad Z fun _ _ h F=>X0 2 Z (qg Z F ?_ ?_)))<;>intro F
  ·refine X0 5 Z ?_;obtain rfl:=qb F;replace h:=h.p [] Z;exact qoY qa [oV (Option Tl20Work) [.pointer U],oV Int [vi 4]] h ⟨rfl,rfl,G⟩ (.inl ⟨4,rfl,rfl,rfl⟩)
  refine X0 7 Z ?_;obtain rfl:=qb F;replace h:=h.p [] Z;exact qoY qa [oV (Option Tl20Work) [.pointer U],oV Int [vi 0]] h ⟨rfl,rfl,G⟩ (.inl ⟨0,rfl,rfl,rfl⟩)
 replace h:SH _ _ [oW S1 (x1:List qe) [oS p8 M k8],oW S2 (x2:List qe) [oS p9 N k9],oW S3 (x3:List Bool) [oS C O z],oX y [oS p1 j.Ac.Au.Ay.length k1,oS p2 j.Ac.Aa.Ab.length k2,oS p3 j.Ac.Aa.As.length k3,oS p4 j.Ac.Aa.Ak.length k4,oS p5 j.Ac.Ah.length k5,.string j.Af.Bd,vi j.Af.Am,vi j.Af.Ar,vi j.Af.Aj,vi j.Af.Aq,oS p6 j.Av.length k6,oS p7 j.Ap.length k7,oS H Q B,oS D P A,oS C O z,oS p9 N k9,oS p8 M k8] 114,oW S4 (x4:List Bool) [oS D P A],oW S5 (x5:List qv) [oS H Q B],oX I (qnK j p1 p2 p3 p4 p5 p6 p7 k1 k2 k3 k4 k5 k6 k7) 57]:=SH.appendN h K ⟨fun _ h=>h,⟨fun _ h=>h,⟨fun _ h=>h,⟨fun _ h=>h,⟨fun _ h=>h,⟨fun _ h=>h,G⟩⟩⟩⟩⟩⟩;obtain rfl:=(h.sl 0 Z).2;obtain rfl:=(h.sl 1 Z).2;obtain rfl:=(h.sl 2 Z).2;obtain rfl:=(h.sl 4 Z).2;obtain rfl:=(h.sl 5 Z).2;refine X0 12 Z (qb8 Z Z (X1 7 6 h Z (zcI h F (qds (qdq _ (h.oldS s1) (h.oldS s2) (h.oldS s3) (h.oldS s4) (h.oldS s5))) Z fun _ _ h F=>zp1 Z (zcB h F qad Z fun _ _ h F=>X0 2 Z (qg Z F ?_ ?_)))))<;>intro F
 ·refine X0 5 Z ?_;obtain rfl:=qb F;replace h:=h.p [] Z;exact qoY qa [oV (Option Tl20Work) [.pointer U],oV Int [vi 4]] h ⟨rfl,rfl,G⟩ (.inl ⟨4,rfl,rfl,rfl⟩)
 refine X0 7 Z ?_;obtain rfl:=qb F;replace h:=h.p [0,1,2,3,4,5] Z;exact qoY qa [oV (Option Tl20Work) [vp y],oV Int [vi 0]] h ⟨rfl,rfl,G⟩ (.inr ⟨S1,p8,x1.length,k8,x1,S2,p9,x2.length,k9,x2,S3,C,x3.length,z,x3,y,S4,D,x4.length,A,x4,S5,H,x5.length,B,x5,rfl,rfl,rfl⟩)
def qhw(_:Nat)(mode:Int):Option Bool:=bif (mode==0) then V true else V (mode==1)
theorem qno{mode}  {r:Bool}(F:qhw n mode=V r):RetV prog 42 [vi mode] w r:=by
 refine zV 9 func42 Z fun h=>X0 9 Z (qk (t:=5) F Z ?_ ?_)<;>intro F
 ·exact X0 5 Z (rb h F Z)
 exact X0 7 Z (rb h F Z)
def qju(b:Int)(r4:(List qi)):Nat->(List qi)->Int->Option ((List qi)×Int)|0,_,_=>U|n+1,x1,a=>bif decide (a<(r4.length:Int)) then(idx x1 a).bind fun f=>(idx x1 a).bind fun g=>(qj0 n U f.Bm g.Bg b).bind fun(d,_)=>(idx x1 a).bind fun c=>qju b r4 n (setS x1 a (⟨c.Bm,c.Bg,d⟩:qi)) (W64 (a+1)) else V (x1,a)
def qep(a:qaB)(c:Int)(k:(List qe))(x3:(List qe))(l:(List Bool))(m:(List Bool))(p:(List qv))(d:(List qi)):Nat->(List qi)->Int->Option ((List qi)×Int)|0,_,_=>U|n+1,f,b=>bif decide (b<(d.length:Int)) then(idx f b).bind fun r=>(idx f b).bind fun i=>(qj0 n (V (⟨(⟨(⟨(⟨a.Ac.Au.Ay⟩:qn),(⟨a.Ac.Aa.Ab,a.Ac.Aa.As,a.Ac.Aa.Ak⟩:qd),a.Ac.Ah⟩:qf),(⟨a.Af.Bd,a.Af.Am,a.Af.Ar,a.Af.Aj,a.Af.Aq⟩:qr),a.Av,a.Ap⟩:qaB),p,m,(⟨l,x3,k⟩:qq)⟩:Tl20Work)) r.Bm i.Bg c).bind fun(h,_)=>(idx f b).bind fun g=>qep a c k x3 l m p d n (setS f b (⟨g.Bm,g.Bg,h⟩:qi)) (W64 (b+1)) else V (f,b)
def qgF(n:Nat)(a:qaB)(c:Int)(b:Int):Option ((Option Tl20Work)×qi×Int):=(qew n a c).bind fun|(U,i1)=>(bif (i1 != 0) then V (U,(⟨0,[],0⟩:qi),i1) else(qhw n b).bind fun s=>bif (!s) then V (U,(⟨0,[],0⟩:qi),2) else(qfU n U).bind fun t=>(idx t c).bind fun p=>bif decide (p > 300) then V (U,(⟨0,[],0⟩:qi),3) else bif (p==0) then V (U,(⟨0,[],0⟩:qi),5) else(qcF n U c).bind fun r4=>(qju b r4 n r4 0).bind fun(x1,_)=>(qhl n x1 b).bind fun u=>(idx u 0).bind fun y=>V (U,y,0))|(V (⟨_,i,h,⟨g,x3,f⟩⟩),_)=>((qhw n b).bind fun v=>bif (!v) then V (U,(⟨0,[],0⟩:qi),2) else(qfU n (V (⟨(⟨(⟨(⟨a.Ac.Au.Ay⟩:qn),(⟨a.Ac.Aa.Ab,a.Ac.Aa.As,a.Ac.Aa.Ak⟩:qd),a.Ac.Ah⟩:qf),(⟨a.Af.Bd,a.Af.Am,a.Af.Ar,a.Af.Aj,a.Af.Aq⟩:qr),a.Av,a.Ap⟩:qaB),i,h,(⟨g,x3,f⟩:qq)⟩:Tl20Work))).bind fun k=>(idx k c).bind fun r=>bif decide (r > 300) then V (U,(⟨0,[],0⟩:qi),3) else bif (r==0) then V (U,(⟨0,[],0⟩:qi),5) else(qcF n (V (⟨(⟨(⟨(⟨a.Ac.Au.Ay⟩:qn),(⟨a.Ac.Aa.Ab,a.Ac.Aa.As,a.Ac.Aa.Ak⟩:qd),a.Ac.Ah⟩:qf),(⟨a.Af.Bd,a.Af.Am,a.Af.Ar,a.Af.Aj,a.Af.Aq⟩:qr),a.Av,a.Ap⟩:qaB),i,h,(⟨g,x3,f⟩:qq)⟩:Tl20Work)) c).bind fun d=>(qep a b f x3 g h i d n d 0).bind fun(x,_)=>(qhl n x b).bind fun l=>(idx l 0).bind fun m=>V ((V (⟨(⟨(⟨(⟨a.Ac.Au.Ay⟩:qn),(⟨a.Ac.Aa.Ab,a.Ac.Aa.As,a.Ac.Aa.Ak⟩:qd),a.Ac.Ah⟩:qf),(⟨a.Af.Bd,a.Af.Am,a.Af.Ar,a.Af.Aj,a.Af.Aq⟩:qr),a.Av,a.Ap⟩:qaB),i,h,(⟨g,x3,f⟩:qq)⟩:Tl20Work)),m,0))
theorem qpK{A}(hA:∀b,A b->old w b){a:qaB}{a_1 W}(ha1:GoT.R w A a cs1){r:((Option Tl20Work)×qi×Int)}(F:qgF n a a_1 W=V r):RetG prog 26 [oV qaB cs1,vi a_1,vi W] w A r:=by
 obtain⟨R,Q,H,D,z,k3,B,y,M,I,N,J,O,L,rfl,s1,s2,s3,s4,s5,s6,s7⟩:=qdh ha1;have hg:=Rg.start hA;refine qe3 func26 Z (m:=77) Z Z (fun h=>?_);refine zSR (qx h Z Z fun _ bb1 h=>zp1 Z (qp qa h Z Z Z fun _ P h=>X1 6 1 h Z ?_));obtain⟨_,hr1,F⟩:=qc F;refine qwm (cB 41 Z) (qnz (h.old (GoT.mono ha1 hg.old)) hr1) Z Z Z Z ?_;rintro _ _ _ hs1 (⟨i1,rfl,rfl,rfl⟩|⟨b9,f,ln1,c,l,c0,g,ln2,d,x3,c1,k,ln3,i,s,X,c2,p,ln4,o,t,c3,v,ln5,u,C,rfl,rfl,rfl⟩)
 ·replace h:SH _ _ [oX P [vi 0,oS U 0 0,vi 0] 41,oX bb1 (qnK a R H z B M N O Q D k3 y I J L) 57]:=SH.appendN h hs1 (show NoD [] from trivial);refine X0 12 Z (qg Z F ?_ ?_)<;>intro F
  ·refine zSR (r_v (qG qa [] [] Z Z Z Z Z Z Z Z) Z (zp2 Z (zs 0 h Z fun _ h=>X0 2 Z ?_)));obtain rfl:=qb F;have hv1:GoRs.Rs (ρ:=((Option Tl20Work)×qi×Int)) h.wc (reg A w h.wc) (U,(⟨0,[],0⟩:qi),i1) [oV (Option Tl20Work) [.pointer U],oV qi [vi 0,oS U 0 0,vi 0],oV Int [vi i1]]:=⟨_,_,rfl,rfl,⟨_,_,rfl,(hg.outR h (qgA (⟨0,[],0⟩:qi) qig)),⟨_,rfl,rfl⟩⟩⟩;exact qdN qa (ρ:=((Option Tl20Work)×qi×Int)) (r:=(U,(⟨0,[],0⟩:qi),i1)) [oV (Option Tl20Work) [.pointer U],oV qi [vi 0,oS U 0 0,vi 0],oV Int [vi i1]] h ⟨rfl,⟨_,_,_,rfl,rfl,h.box 0 Z,rfl⟩,rfl,G⟩ hv1
  refine X0 5 Z (zcB h F qno Z fun _ _ h F=>X0 2 Z (qg Z F ?_ ?_))<;>intro F
  ·refine zSR (r_v (qG qa [] [] Z Z Z Z Z Z Z Z) Z (zp1 Z (zs 0 h Z fun _ h=>X0 2 Z ?_)));obtain rfl:=qb F;have hv2:GoRs.Rs (ρ:=((Option Tl20Work)×qi×Int)) h.wc (reg A w h.wc) (U,(⟨0,[],0⟩:qi),2) [oV (Option Tl20Work) [.pointer U],oV qi [vi 0,oS U 0 0,vi 0],oV Int [vi 2]]:=⟨_,_,rfl,rfl,⟨_,_,rfl,(hg.outR h (qgA (⟨0,[],0⟩:qi) qig)),⟨_,rfl,rfl⟩⟩⟩;exact qdN qa (ρ:=((Option Tl20Work)×qi×Int)) (r:=(U,(⟨0,[],0⟩:qi),2)) [oV (Option Tl20Work) [.pointer U],oV qi [vi 0,oS U 0 0,vi 0],oV Int [vi 2]] h ⟨rfl,⟨_,_,_,rfl,rfl,h.box 0 Z,rfl⟩,rfl,G⟩ hv2
  refine X0 4 Z (zcL h F (qlA Z) Z fun _ _ _ _ _ h F=>zp1 Z ?_);obtain⟨_,_,F,he1,_,_,_,_,hp1,hq1,rfl,hc3⟩:=(h.sl 0 Z).1.ix F;refine zx hp1 hq1 ⟨he1.1,qD he1.2.1 (h.sl 0 Z).2⟩ Z (zc 0 hc3 Z (X0 8 Z (qg Z F ?_ ?_)))<;>intro F
  ·refine zSR (r_v (qG qa [] [] Z Z Z Z Z Z Z Z) Z (zp1 Z (zs 1 h Z fun _ h=>X0 2 Z ?_)));obtain rfl:=qb F;have hv3:GoRs.Rs (ρ:=((Option Tl20Work)×qi×Int)) h.wc (reg A w h.wc) (U,(⟨0,[],0⟩:qi),3) [oV (Option Tl20Work) [.pointer U],oV qi [vi 0,oS U 0 0,vi 0],oV Int [vi 3]]:=⟨_,_,rfl,rfl,⟨_,_,rfl,(hg.outR h (qgA (⟨0,[],0⟩:qi) qig)),⟨_,rfl,rfl⟩⟩⟩;exact qdN qa (ρ:=((Option Tl20Work)×qi×Int)) (r:=(U,(⟨0,[],0⟩:qi),3)) [oV (Option Tl20Work) [.pointer U],oV qi [vi 0,oS U 0 0,vi 0],oV Int [vi 3]] h ⟨rfl,⟨_,_,_,rfl,rfl,h.box 1 Z,rfl⟩,rfl,G⟩ hv3
  refine X0 7 Z (qg Z F ?_ ?_)<;>intro F
  ·refine zSR (r_v (qG qa [] [] Z Z Z Z Z Z Z Z) Z (zp1 Z (zs 1 h Z fun _ h=>X0 2 Z ?_)));obtain rfl:=qb F;have hv4:GoRs.Rs (ρ:=((Option Tl20Work)×qi×Int)) h.wc (reg A w h.wc) (U,(⟨0,[],0⟩:qi),5) [oV (Option Tl20Work) [.pointer U],oV qi [vi 0,oS U 0 0,vi 0],oV Int [vi 5]]:=⟨_,_,rfl,rfl,⟨_,_,rfl,(hg.outR h (qgA (⟨0,[],0⟩:qi) qig)),⟨_,rfl,rfl⟩⟩⟩;exact qdN qa (ρ:=((Option Tl20Work)×qi×Int)) (r:=(U,(⟨0,[],0⟩:qi),5)) [oV (Option Tl20Work) [.pointer U],oV qi [vi 0,oS U 0 0,vi 0],oV Int [vi 5]] h ⟨rfl,⟨_,_,_,rfl,rfl,h.box 1 Z,rfl⟩,rfl,G⟩ hv4
  refine X0 5 Z (zcL h F (qog Z) Z fun r4 _ _ p9 k9 h F=>X0 7 Z ?_);obtain⟨o1,F,hK1⟩:=qc F;refine qm ?_;replace h:=h.p [0,2] Z;refine rL (fun m e w'=>∃S3 x1 i2,qju W r4 m x1 i2=V o1/\e=[(2,vi W),(7,vp P),(9,.pointer U),(12,oS p9 r4.length k9),(13,vi i2)]/\SH w w' [oW S3 (x1:List qi) [oS p9 r4.length k9],oX P [vi 0,oS U 0 0,vi 0] 41]) n ⟨_,_,_,F,rfl,h⟩ Z ?_;rintro m1 _ _ ⟨S3,x1,i2,F,rfl,h⟩;rcases m1 with _|m1
  ·cases F
  refine X0 8 Z (qg Z F ?_ ?_)<;>intro F
  ·refine X0 4 Z (rA [] [] h Z fun _ h=>M0 7 [0,1,2] (h.p [] Z) Z ?_);obtain⟨y2,hy2,F⟩:=qc F;have he2:=qba hy2;replace h:=h.lrn0 0 Z;obtain⟨_,o_2,_,_,hp2,hq2,-,hr6,hc7⟩:=(qeB (h.lrnO 0 Z)).1.at hy2;have hr7:=hr6;obtain⟨p10,k10,rfl,_⟩:=qaC hr6;replace h:=h.lrnAdd 0 Z hr7;refine Ax 3 15 hp2 hq2 ⟨he2.1,qD he2.2.1 (qeB (h.lrnO 0 Z)).2⟩ (h.p [] Z) Z (M0 223 [4,6,7] (h.p [] Z) Z ?_);obtain⟨y3,_,F,he3,_,_,_,_,hp3,hq3,hr8,hc8⟩:=(qeB (h.lrnO 0 Z)).1.ix F;have hr9:=hr8;obtain⟨p11,k11,rfl,_⟩:=qaC hr8;replace h:=h.lrnAdd 0 Z hr9;refine Ax 8 479 hp3 hq3 ⟨he3.1,qD he3.2.1 (qeB (h.lrnO 0 Z)).2⟩ (h.p [] Z) Z (M0 3039 [9,11] (h.p [] Z) Z ?_);obtain⟨⟨r6,r7⟩,hr10,F⟩:=qc F;refine qkD (fun e w'=>e=[(12,oS p9 r4.length k9),(13,vi i2),(14,vi r6),(2,vi W),(7,vp P),(9,.pointer U)]/\SH w w' [Ch.lrn S3 (x1:List qi) [oS p9 r4.length k9] [fct (y3:qi) (qf3 y3 p11 k11),fct (y2:qi) (qf3 y2 p10 k10)],oX P [vi 0,oS U 0 0,vi 0] 41]) 0 (bits 18 262143) ?_ ?_
   ·intro K;refine At 5 10 3071 4063 Z ?_ ?_
    ·refine zc 0 hc7 Z (Ag (h.p [] Z) (Ao 10 4095 Z (zc 1 hc8 Z (Ag (h.p [] Z) (Ao 12 8191 Z (qaM (r6,r7) h (cB 60 Z) (qiX Z ⟨_,_,rfl,(qjv (GoT.mono (h.lrnS 0 0 Z Z) (h.lrnB 0 Z))).1⟩ hr10) Z Z Z Z fun w25 S31 us14 a8 a4=>?_))))));obtain⟨S32,us15,rfl,a9,a5⟩:=a8.consI a4;obtain⟨rfl,h⟩:=a9.lastI a5;exact G0 262143 [13,14,15,16,17] (h.p [] Z) Z (qqo [(12,_),(13,_),(14,_),(2,_),(7,_),(9,_)] ⟨rfl,rfl,rfl,rfl,rfl,rfl,G⟩ (K _ _ ⟨rfl,h⟩))
    refine zc 1 hc8 Z (Ag (h.p [] Z) (Ao 5 4095 Z (zc 0 hc7 Z (Ag (h.p [] Z) (Ao 12 8191 Z (qaM (r6,r7) h (cB 60 Z) (qiX Z ⟨_,_,rfl,(qjv (GoT.mono (h.lrnS 0 0 Z Z) (h.lrnB 0 Z))).1⟩ hr10) Z Z Z Z fun w25 S31 us14 a8 a4=>?_))))));obtain⟨S32,us15,rfl,a9,a5⟩:=a8.consI a4;obtain⟨rfl,h⟩:=a9.lastI a5;exact G0 262143 [13,14,15,16,17] (h.p [] Z) Z (qqo [(12,_),(13,_),(14,_),(2,_),(7,_),(9,_)] ⟨rfl,rfl,rfl,rfl,rfl,rfl,G⟩ (K _ _ ⟨rfl,h⟩))
   rintro _ _ ⟨rfl,h⟩;refine Ad (X0 4 Z ?_);obtain⟨y6,hy6,F⟩:=qc F;have he6:=qba hy6;replace h:=h.unlrn 0 Z;obtain⟨_,_,_,h⟩:=h.take hy6;obtain⟨_,_,rfl,-⟩:=qaC (h.own 0 Z);obtain⟨_,h⟩:=qlT h;obtain⟨_,hp6,-,-,hl6⟩:=h.holeAt 1 Z;obtain⟨q6,hq6⟩:∃q,q=0+(i2).toNat*GoT.k qi:=⟨_,rfl⟩;refine zx hp6 hq6 ⟨he6.1,qD he6.2.1 hl6⟩ Z (zp1 Z (qpn qa 1 2 h Z hp6 hq6 Z Z Z Z Z Z fun _ h=>X0 7 Z ?_));obtain⟨_,h⟩:=h.gather [1,2] (qhi (⟨y6.Bm,y6.Bg,r6⟩:qi) h (qw (S:=fun _=>False) Z) (qao 0 h Z) (qw (S:=fun _=>False) Z) (by rfl) (by rfl)) Z;replace h:=h.put;obtain⟨_,h⟩:=qtY (S:=_) h;exact rK ⟨_,_,_,F,rfl,h⟩ Z
  refine qu Z ?_;obtain rfl:=qb F;replace F:=hK1;refine qW (rA [] [] h Z fun _ h=>M0 7 [0,1,2] (h.p [] Z) Z (Ao 3 15 Z ?_));obtain⟨r8,hr32,F⟩:=qc F;refine quO r8 0 hg h Z (cB 61 Z) (qlH (hg.atPo 0 h Z) (h.ownG 0 Z) hr32) Z Z Z Z fun _ _ _ h hv26=>?_;obtain⟨_,rfl,hr33⟩:=qkk hv26;have hr34:=hr33;obtain⟨_,_,rfl,_⟩:=hr33;replace h:=h.grpAdd 0 Z hr34;refine Ag (h.p [] Z) ?_;obtain⟨y7,_,F,he7,_,_,_,_,hp7,hq7,hr35,hc9⟩:=(qeB (h.grpS 0 0 Z Z)).1.ix F;have hr36:=hr35;obtain⟨c6,c4,rfl,_⟩:=qaC hr35;replace h:=h.grpAdd 0 Z hr36;refine Ax 4 31 hp7 hq7 ⟨he7.1,qD he7.2.1 (qeB (h.grpS 0 1 Z Z)).2⟩ (h.p [] Z) Z (M0 95 [6] (h.p [] Z) Z (Ao 5 127 Z (zc 0 hc9 Z (Ag (h.p [] Z) (Ao 7 255 Z (zs 1 h Z fun _ h=>G0 511 [8] (h.p [] Z) Z (Ad ?_)))))));obtain rfl:=qb F;have hv27:GoRs.Rs (ρ:=((Option Tl20Work)×qi×Int)) h.wc (reg A w h.wc) (U,y7,0) [oV (Option Tl20Work) [.pointer U],oV qi (qf3 y7 c6 c4),oV Int [vi 0]]:=⟨_,_,rfl,rfl,⟨_,_,rfl,(hg.outR h (⟨[vi y7.Bm],[oS c6 y7.Bg.length c4,vi y7.Ai],rfl,rfl,⟨[oS c6 y7.Bg.length c4],[vi y7.Ai],rfl,⟨_,_,rfl,(qjv (Rg.grpR 0 0 h Z Z)).1⟩,rfl⟩⟩)),⟨_,rfl,rfl⟩⟩⟩;have hk1:=h;replace h:=h.p [1] Z;exact qdN qa (ρ:=((Option Tl20Work)×qi×Int)) (r:=(U,y7,0)) [oV (Option Tl20Work) [.pointer U],oV qi (qf3 y7 c6 c4),oV Int [vi 0]] h ⟨rfl,⟨_,_,_,rfl,rfl,hk1.box 1 Z,rfl⟩,rfl,G⟩ hv27
 replace h:SH _ _ [oW b9 (l:List qe) [oS f ln1 c],oW c0 (x3:List qe) [oS g ln2 d],oW c1 (s:List Bool) [oS k ln3 i],oX X [oS R a.Ac.Au.Ay.length Q,oS H a.Ac.Aa.Ab.length D,oS z a.Ac.Aa.As.length k3,oS B a.Ac.Aa.Ak.length y,oS M a.Ac.Ah.length I,.string a.Af.Bd,vi a.Af.Am,vi a.Af.Ar,vi a.Af.Aj,vi a.Af.Aq,oS N a.Av.length J,oS O a.Ap.length L,oS v ln5 u,oS p ln4 o,oS k ln3 i,oS g ln2 d,oS f ln1 c] 114,oW c2 (t:List Bool) [oS p ln4 o],oW c3 (C:List qv) [oS v ln5 u],oX P [vi 0,oS U 0 0,vi 0] 41,oX bb1 (qnK a R H z B M N O Q D k3 y I J L) 57]:=SH.appendN h hs1 ⟨fun _ h=>h,⟨fun _ h=>h,⟨fun _ h=>h,⟨fun _ h=>h,⟨fun _ h=>h,⟨fun _ h=>h,G⟩⟩⟩⟩⟩⟩;obtain rfl:=(h.sl 0 Z).2;obtain rfl:=(h.sl 1 Z).2;obtain rfl:=(h.sl 2 Z).2;obtain rfl:=(h.sl 4 Z).2;obtain rfl:=(h.sl 5 Z).2;refine X0 12 Z (qb8 Z Z (X0 5 Z (zcB h F qno Z fun _ _ h F=>X0 2 Z (qg Z F ?_ ?_))))<;>intro F
 ·refine zSR (r_v (qG qa [] [] Z Z Z Z Z Z Z Z) Z (zp1 Z (zs 6 h Z fun _ h=>X0 2 Z ?_)));obtain rfl:=qb F;have hv28:GoRs.Rs (ρ:=((Option Tl20Work)×qi×Int)) h.wc (reg A w h.wc) (U,(⟨0,[],0⟩:qi),2) [oV (Option Tl20Work) [.pointer U],oV qi [vi 0,oS U 0 0,vi 0],oV Int [vi 2]]:=⟨_,_,rfl,rfl,⟨_,_,rfl,(hg.outR h (qgA (⟨0,[],0⟩:qi) qig)),⟨_,rfl,rfl⟩⟩⟩;exact qdN qa (ρ:=((Option Tl20Work)×qi×Int)) (r:=(U,(⟨0,[],0⟩:qi),2)) [oV (Option Tl20Work) [.pointer U],oV qi [vi 0,oS U 0 0,vi 0],oV Int [vi 2]] h ⟨rfl,⟨_,_,_,rfl,rfl,h.box 6 Z,rfl⟩,rfl,G⟩ hv28
 refine X0 4 Z (zcL h F (qlA (qfV (x:=(⟨(⟨(⟨(⟨a.Ac.Au.Ay⟩:qn),(⟨a.Ac.Aa.Ab,a.Ac.Aa.As,a.Ac.Aa.Ak⟩:qd),a.Ac.Ah⟩:qf),(⟨a.Af.Bd,a.Af.Am,a.Af.Ar,a.Af.Aj,a.Af.Aq⟩:qr),a.Av,a.Ap⟩:qaB),C,t,(⟨s,x3,l⟩:qq)⟩:Tl20Work)) 3 h Z (show GoT.R _ _ ((⟨(⟨(⟨(⟨a.Ac.Au.Ay⟩:qn),(⟨a.Ac.Aa.Ab,a.Ac.Aa.As,a.Ac.Aa.Ak⟩:qd),a.Ac.Ah⟩:qf),(⟨a.Af.Bd,a.Af.Am,a.Af.Ar,a.Af.Aj,a.Af.Aq⟩:qr),a.Av,a.Ap⟩:qaB),C,t,(⟨s,x3,l⟩:qq)⟩:Tl20Work):Tl20Work) _ from⟨[oS R a.Ac.Au.Ay.length Q,oS H a.Ac.Aa.Ab.length D,oS z a.Ac.Aa.As.length k3,oS B a.Ac.Aa.Ak.length y,oS M a.Ac.Ah.length I,.string a.Af.Bd,vi a.Af.Am,vi a.Af.Ar,vi a.Af.Aj,vi a.Af.Aq,oS N a.Av.length J,oS O a.Ap.length L],[oS v C.length u,oS p t.length o,oS k s.length i,oS g x3.length d,oS f l.length c],rfl,⟨[oS R a.Ac.Au.Ay.length Q,oS H a.Ac.Aa.Ab.length D,oS z a.Ac.Aa.As.length k3,oS B a.Ac.Aa.Ak.length y,oS M a.Ac.Ah.length I],[.string a.Af.Bd,vi a.Af.Am,vi a.Af.Ar,vi a.Af.Aj,vi a.Af.Aq,oS N a.Av.length J,oS O a.Ap.length L],rfl,⟨[oS R a.Ac.Au.Ay.length Q],[oS H a.Ac.Aa.Ab.length D,oS z a.Ac.Aa.As.length k3,oS B a.Ac.Aa.Ak.length y,oS M a.Ac.Ah.length I],rfl,⟨_,_,rfl,(h.oldS (s1.mono hg.old))⟩,⟨[oS H a.Ac.Aa.Ab.length D,oS z a.Ac.Aa.As.length k3,oS B a.Ac.Aa.Ak.length y],[oS M a.Ac.Ah.length I],rfl,⟨[oS H a.Ac.Aa.Ab.length D],[oS z a.Ac.Aa.As.length k3,oS B a.Ac.Aa.Ak.length y],rfl,⟨_,_,rfl,(h.oldS (s2.mono hg.old))⟩,⟨[oS z a.Ac.Aa.As.length k3],[oS B a.Ac.Aa.Ak.length y],rfl,⟨_,_,rfl,(h.oldS (s3.mono hg.old))⟩,⟨_,_,rfl,(h.oldS (s4.mono hg.old))⟩⟩⟩,⟨_,_,rfl,(h.oldS (s5.mono hg.old))⟩⟩⟩,⟨[.string a.Af.Bd,vi a.Af.Am,vi a.Af.Ar,vi a.Af.Aj,vi a.Af.Aq],[oS N a.Av.length J,oS O a.Ap.length L],rfl,⟨[.string a.Af.Bd],[vi a.Af.Am,vi a.Af.Ar,vi a.Af.Aj,vi a.Af.Aq],rfl,rfl,⟨[vi a.Af.Am],[vi a.Af.Ar,vi a.Af.Aj,vi a.Af.Aq],rfl,rfl,⟨[vi a.Af.Ar],[vi a.Af.Aj,vi a.Af.Aq],rfl,rfl,⟨[vi a.Af.Aj],[vi a.Af.Aq],rfl,rfl,rfl⟩⟩⟩⟩,⟨[oS N a.Av.length J],[oS O a.Ap.length L],rfl,⟨_,_,rfl,(h.oldS (s6.mono hg.old))⟩,⟨_,_,rfl,(h.oldS (s7.mono hg.old))⟩⟩⟩⟩,⟨[oS v C.length u],[oS p t.length o,oS k s.length i,oS g x3.length d,oS f l.length c],rfl,(h.own 5 Z),⟨[oS p t.length o],[oS k s.length i,oS g x3.length d,oS f l.length c],rfl,(h.own 4 Z),⟨[oS k s.length i],[oS g x3.length d,oS f l.length c],rfl,(h.own 2 Z),⟨[oS g x3.length d],[oS f l.length c],rfl,(h.own 1 Z),(h.own 0 Z)⟩⟩⟩⟩⟩))) Z fun _ _ _ _ _ h F=>zp1 Z ?_);obtain⟨_,_,F,he8,_,_,_,_,hp8,hq8,rfl,hc11⟩:=(h.sl 0 Z).1.ix F;refine zx hp8 hq8 ⟨he8.1,qD he8.2.1 (h.sl 0 Z).2⟩ Z (zc 0 hc11 Z (X0 8 Z (qg Z F ?_ ?_)))<;>intro F
 ·refine zSR (r_v (qG qa [] [] Z Z Z Z Z Z Z Z) Z (zp1 Z (zs 7 h Z fun _ h=>X0 2 Z ?_)));obtain rfl:=qb F;have hv29:GoRs.Rs (ρ:=((Option Tl20Work)×qi×Int)) h.wc (reg A w h.wc) (U,(⟨0,[],0⟩:qi),3) [oV (Option Tl20Work) [.pointer U],oV qi [vi 0,oS U 0 0,vi 0],oV Int [vi 3]]:=⟨_,_,rfl,rfl,⟨_,_,rfl,(hg.outR h (qgA (⟨0,[],0⟩:qi) qig)),⟨_,rfl,rfl⟩⟩⟩;exact qdN qa (ρ:=((Option Tl20Work)×qi×Int)) (r:=(U,(⟨0,[],0⟩:qi),3)) [oV (Option Tl20Work) [.pointer U],oV qi [vi 0,oS U 0 0,vi 0],oV Int [vi 3]] h ⟨rfl,⟨_,_,_,rfl,rfl,h.box 7 Z,rfl⟩,rfl,G⟩ hv29
 refine X0 7 Z (qg Z F ?_ ?_)<;>intro F
 ·refine zSR (r_v (qG qa [] [] Z Z Z Z Z Z Z Z) Z (zp1 Z (zs 7 h Z fun _ h=>X0 2 Z ?_)));obtain rfl:=qb F;have hv30:GoRs.Rs (ρ:=((Option Tl20Work)×qi×Int)) h.wc (reg A w h.wc) (U,(⟨0,[],0⟩:qi),5) [oV (Option Tl20Work) [.pointer U],oV qi [vi 0,oS U 0 0,vi 0],oV Int [vi 5]]:=⟨_,_,rfl,rfl,⟨_,_,rfl,(hg.outR h (qgA (⟨0,[],0⟩:qi) qig)),⟨_,rfl,rfl⟩⟩⟩;exact qdN qa (ρ:=((Option Tl20Work)×qi×Int)) (r:=(U,(⟨0,[],0⟩:qi),5)) [oV (Option Tl20Work) [.pointer U],oV qi [vi 0,oS U 0 0,vi 0],oV Int [vi 5]] h ⟨rfl,⟨_,_,_,rfl,rfl,h.box 7 Z,rfl⟩,rfl,G⟩ hv30
 refine X0 5 Z (zcL h F (qog (qfV (x:=(⟨(⟨(⟨(⟨a.Ac.Au.Ay⟩:qn),(⟨a.Ac.Aa.Ab,a.Ac.Aa.As,a.Ac.Aa.Ak⟩:qd),a.Ac.Ah⟩:qf),(⟨a.Af.Bd,a.Af.Am,a.Af.Ar,a.Af.Aj,a.Af.Aq⟩:qr),a.Av,a.Ap⟩:qaB),C,t,(⟨s,x3,l⟩:qq)⟩:Tl20Work)) 4 h Z (show GoT.R _ _ ((⟨(⟨(⟨(⟨a.Ac.Au.Ay⟩:qn),(⟨a.Ac.Aa.Ab,a.Ac.Aa.As,a.Ac.Aa.Ak⟩:qd),a.Ac.Ah⟩:qf),(⟨a.Af.Bd,a.Af.Am,a.Af.Ar,a.Af.Aj,a.Af.Aq⟩:qr),a.Av,a.Ap⟩:qaB),C,t,(⟨s,x3,l⟩:qq)⟩:Tl20Work):Tl20Work) _ from⟨[oS R a.Ac.Au.Ay.length Q,oS H a.Ac.Aa.Ab.length D,oS z a.Ac.Aa.As.length k3,oS B a.Ac.Aa.Ak.length y,oS M a.Ac.Ah.length I,.string a.Af.Bd,vi a.Af.Am,vi a.Af.Ar,vi a.Af.Aj,vi a.Af.Aq,oS N a.Av.length J,oS O a.Ap.length L],[oS v C.length u,oS p t.length o,oS k s.length i,oS g x3.length d,oS f l.length c],rfl,⟨[oS R a.Ac.Au.Ay.length Q,oS H a.Ac.Aa.Ab.length D,oS z a.Ac.Aa.As.length k3,oS B a.Ac.Aa.Ak.length y,oS M a.Ac.Ah.length I],[.string a.Af.Bd,vi a.Af.Am,vi a.Af.Ar,vi a.Af.Aj,vi a.Af.Aq,oS N a.Av.length J,oS O a.Ap.length L],rfl,⟨[oS R a.Ac.Au.Ay.length Q],[oS H a.Ac.Aa.Ab.length D,oS z a.Ac.Aa.As.length k3,oS B a.Ac.Aa.Ak.length y,oS M a.Ac.Ah.length I],rfl,⟨_,_,rfl,(h.oldS (s1.mono hg.old))⟩,⟨[oS H a.Ac.Aa.Ab.length D,oS z a.Ac.Aa.As.length k3,oS B a.Ac.Aa.Ak.length y],[oS M a.Ac.Ah.length I],rfl,⟨[oS H a.Ac.Aa.Ab.length D],[oS z a.Ac.Aa.As.length k3,oS B a.Ac.Aa.Ak.length y],rfl,⟨_,_,rfl,(h.oldS (s2.mono hg.old))⟩,⟨[oS z a.Ac.Aa.As.length k3],[oS B a.Ac.Aa.Ak.length y],rfl,⟨_,_,rfl,(h.oldS (s3.mono hg.old))⟩,⟨_,_,rfl,(h.oldS (s4.mono hg.old))⟩⟩⟩,⟨_,_,rfl,(h.oldS (s5.mono hg.old))⟩⟩⟩,⟨[.string a.Af.Bd,vi a.Af.Am,vi a.Af.Ar,vi a.Af.Aj,vi a.Af.Aq],[oS N a.Av.length J,oS O a.Ap.length L],rfl,⟨[.string a.Af.Bd],[vi a.Af.Am,vi a.Af.Ar,vi a.Af.Aj,vi a.Af.Aq],rfl,rfl,⟨[vi a.Af.Am],[vi a.Af.Ar,vi a.Af.Aj,vi a.Af.Aq],rfl,rfl,⟨[vi a.Af.Ar],[vi a.Af.Aj,vi a.Af.Aq],rfl,rfl,⟨[vi a.Af.Aj],[vi a.Af.Aq],rfl,rfl,rfl⟩⟩⟩⟩,⟨[oS N a.Av.length J],[oS O a.Ap.length L],rfl,⟨_,_,rfl,(h.oldS (s6.mono hg.old))⟩,⟨_,_,rfl,(h.oldS (s7.mono hg.old))⟩⟩⟩⟩,⟨[oS v C.length u],[oS p t.length o,oS k s.length i,oS g x3.length d,oS f l.length c],rfl,(h.own 6 Z),⟨[oS p t.length o],[oS k s.length i,oS g x3.length d,oS f l.length c],rfl,(h.own 5 Z),⟨[oS k s.length i],[oS g x3.length d,oS f l.length c],rfl,(h.own 3 Z),⟨[oS g x3.length d],[oS f l.length c],rfl,(h.own 2 Z),(h.own 1 Z)⟩⟩⟩⟩⟩))) Z fun Y _ _ b7 b6 h F=>X0 7 Z ?_);obtain⟨o2,F,hK2⟩:=qc F;refine qm ?_;replace h:=h.p [0,2,3,4,5,6,7,8] Z;refine rL (fun m e w'=>∃S47 x7 i3,qep a W l x3 s t C Y m x7 i3=V o2/\e=[(2,vi W),(7,vp P),(9,vp X),(12,oS b7 Y.length b6),(13,vi i3)]/\SH w w' [oW S47 (x7:List qi) [oS b7 Y.length b6],oW b9 (l:List qe) [oS f l.length c],oW c0 (x3:List qe) [oS g x3.length d],oW c1 (s:List Bool) [oS k s.length i],oX X [oS R a.Ac.Au.Ay.length Q,oS H a.Ac.Aa.Ab.length D,oS z a.Ac.Aa.As.length k3,oS B a.Ac.Aa.Ak.length y,oS M a.Ac.Ah.length I,.string a.Af.Bd,vi a.Af.Am,vi a.Af.Ar,vi a.Af.Aj,vi a.Af.Aq,oS N a.Av.length J,oS O a.Ap.length L,oS v C.length u,oS p t.length o,oS k s.length i,oS g x3.length d,oS f l.length c] 114,oW c2 (t:List Bool) [oS p t.length o],oW c3 (C:List qv) [oS v C.length u],oX P [vi 0,oS U 0 0,vi 0] 41]) n ⟨_,_,_,F,rfl,h⟩ Z ?_;rintro m2 _ _ ⟨S47,x7,i3,F,rfl,h⟩;rcases m2 with _|m2
 ·cases F
 refine X0 8 Z (qg Z F ?_ ?_)<;>intro F
 ·refine X0 4 Z (rA [] [] h Z fun _ h=>M0 7 [0,1,2] (h.p [] Z) Z ?_);obtain⟨y9,hy9,F⟩:=qc F;have he9:=qba hy9;replace h:=h.lrn0 0 Z;obtain⟨_,o_6,_,_,hp9,hq9,-,hr41,hc15⟩:=(qeB (h.lrnO 0 Z)).1.at hy9;have hr42:=hr41;obtain⟨p24,k24,rfl,_⟩:=qaC hr41;replace h:=h.lrnAdd 0 Z hr42;refine Ax 3 15 hp9 hq9 ⟨he9.1,qD he9.2.1 (qeB (h.lrnO 0 Z)).2⟩ (h.p [] Z) Z (M0 223 [4,6,7] (h.p [] Z) Z ?_);obtain⟨y10,_,F,he10,_,_,_,_,hp10,hq10,hr43,hc16⟩:=(qeB (h.lrnO 0 Z)).1.ix F;have hr44:=hr43;obtain⟨p25,k25,rfl,_⟩:=qaC hr43;replace h:=h.lrnAdd 0 Z hr44;refine Ax 8 479 hp10 hq10 ⟨he10.1,qD he10.2.1 (qeB (h.lrnO 0 Z)).2⟩ (h.p [] Z) Z (M0 3039 [9,11] (h.p [] Z) Z ?_);obtain⟨⟨b8,r14⟩,hr45,F⟩:=qc F;refine qkD (fun e w'=>e=[(12,oS b7 Y.length b6),(13,vi i3),(14,vi b8),(2,vi W),(7,vp P),(9,vp X)]/\SH w w' [Ch.lrn S47 (x7:List qi) [oS b7 Y.length b6] [fct (y10:qi) (qf3 y10 p25 k25),fct (y9:qi) (qf3 y9 p24 k24)],oW b9 (l:List qe) [oS f l.length c],oW c0 (x3:List qe) [oS g x3.length d],oW c1 (s:List Bool) [oS k s.length i],oX X [oS R a.Ac.Au.Ay.length Q,oS H a.Ac.Aa.Ab.length D,oS z a.Ac.Aa.As.length k3,oS B a.Ac.Aa.Ak.length y,oS M a.Ac.Ah.length I,.string a.Af.Bd,vi a.Af.Am,vi a.Af.Ar,vi a.Af.Aj,vi a.Af.Aq,oS N a.Av.length J,oS O a.Ap.length L,oS v C.length u,oS p t.length o,oS k s.length i,oS g x3.length d,oS f l.length c] 114,oW c2 (t:List Bool) [oS p t.length o],oW c3 (C:List qv) [oS v C.length u],oX P [vi 0,oS U 0 0,vi 0] 41]) 0 (bits 18 262143) ?_ ?_
  ·intro K;refine At 5 10 3071 4063 Z ?_ ?_
   ·refine zc 0 hc15 Z (Ag (h.p [] Z) (Ao 10 4095 Z (zc 1 hc16 Z (Ag (h.p [] Z) (Ao 12 8191 Z (qaM (b8,r14) h (cB 60 Z) (qiX (qfV (x:=(⟨(⟨(⟨(⟨a.Ac.Au.Ay⟩:qn),(⟨a.Ac.Aa.Ab,a.Ac.Aa.As,a.Ac.Aa.Ak⟩:qd),a.Ac.Ah⟩:qf),(⟨a.Af.Bd,a.Af.Am,a.Af.Ar,a.Af.Aj,a.Af.Aq⟩:qr),a.Av,a.Ap⟩:qaB),C,t,(⟨s,x3,l⟩:qq)⟩:Tl20Work)) 4 h Z (show GoT.R _ _ ((⟨(⟨(⟨(⟨a.Ac.Au.Ay⟩:qn),(⟨a.Ac.Aa.Ab,a.Ac.Aa.As,a.Ac.Aa.Ak⟩:qd),a.Ac.Ah⟩:qf),(⟨a.Af.Bd,a.Af.Am,a.Af.Ar,a.Af.Aj,a.Af.Aq⟩:qr),a.Av,a.Ap⟩:qaB),C,t,(⟨s,x3,l⟩:qq)⟩:Tl20Work):Tl20Work) _ from⟨[oS R a.Ac.Au.Ay.length Q,oS H a.Ac.Aa.Ab.length D,oS z a.Ac.Aa.As.length k3,oS B a.Ac.Aa.Ak.length y,oS M a.Ac.Ah.length I,.string a.Af.Bd,vi a.Af.Am,vi a.Af.Ar,vi a.Af.Aj,vi a.Af.Aq,oS N a.Av.length J,oS O a.Ap.length L],[oS v C.length u,oS p t.length o,oS k s.length i,oS g x3.length d,oS f l.length c],rfl,⟨[oS R a.Ac.Au.Ay.length Q,oS H a.Ac.Aa.Ab.length D,oS z a.Ac.Aa.As.length k3,oS B a.Ac.Aa.Ak.length y,oS M a.Ac.Ah.length I],[.string a.Af.Bd,vi a.Af.Am,vi a.Af.Ar,vi a.Af.Aj,vi a.Af.Aq,oS N a.Av.length J,oS O a.Ap.length L],rfl,⟨[oS R a.Ac.Au.Ay.length Q],[oS H a.Ac.Aa.Ab.length D,oS z a.Ac.Aa.As.length k3,oS B a.Ac.Aa.Ak.length y,oS M a.Ac.Ah.length I],rfl,⟨_,_,rfl,(h.oldS (s1.mono hg.old))⟩,⟨[oS H a.Ac.Aa.Ab.length D,oS z a.Ac.Aa.As.length k3,oS B a.Ac.Aa.Ak.length y],[oS M a.Ac.Ah.length I],rfl,⟨[oS H a.Ac.Aa.Ab.length D],[oS z a.Ac.Aa.As.length k3,oS B a.Ac.Aa.Ak.length y],rfl,⟨_,_,rfl,(h.oldS (s2.mono hg.old))⟩,⟨[oS z a.Ac.Aa.As.length k3],[oS B a.Ac.Aa.Ak.length y],rfl,⟨_,_,rfl,(h.oldS (s3.mono hg.old))⟩,⟨_,_,rfl,(h.oldS (s4.mono hg.old))⟩⟩⟩,⟨_,_,rfl,(h.oldS (s5.mono hg.old))⟩⟩⟩,⟨[.string a.Af.Bd,vi a.Af.Am,vi a.Af.Ar,vi a.Af.Aj,vi a.Af.Aq],[oS N a.Av.length J,oS O a.Ap.length L],rfl,⟨[.string a.Af.Bd],[vi a.Af.Am,vi a.Af.Ar,vi a.Af.Aj,vi a.Af.Aq],rfl,rfl,⟨[vi a.Af.Am],[vi a.Af.Ar,vi a.Af.Aj,vi a.Af.Aq],rfl,rfl,⟨[vi a.Af.Ar],[vi a.Af.Aj,vi a.Af.Aq],rfl,rfl,⟨[vi a.Af.Aj],[vi a.Af.Aq],rfl,rfl,rfl⟩⟩⟩⟩,⟨[oS N a.Av.length J],[oS O a.Ap.length L],rfl,⟨_,_,rfl,(h.oldS (s6.mono hg.old))⟩,⟨_,_,rfl,(h.oldS (s7.mono hg.old))⟩⟩⟩⟩,⟨[oS v C.length u],[oS p t.length o,oS k s.length i,oS g x3.length d,oS f l.length c],rfl,(h.own 6 Z),⟨[oS p t.length o],[oS k s.length i,oS g x3.length d,oS f l.length c],rfl,(h.own 5 Z),⟨[oS k s.length i],[oS g x3.length d,oS f l.length c],rfl,(h.own 3 Z),⟨[oS g x3.length d],[oS f l.length c],rfl,(h.own 2 Z),(h.own 1 Z)⟩⟩⟩⟩⟩)) ⟨_,_,rfl,(qjv (GoT.mono (h.lrnS 0 0 Z Z) (h.lrnB 0 Z))).1⟩ hr45) Z Z Z Z fun w51 S75 us29 b4 a6=>?_))))));obtain⟨S76,us30,rfl,b5,a7⟩:=b4.consI a6;obtain⟨rfl,h⟩:=b5.lastI a7;exact G0 262143 [13,14,15,16,17] (h.p [] Z) Z (qqo [(12,_),(13,_),(14,_),(2,_),(7,_),(9,_)] ⟨rfl,rfl,rfl,rfl,rfl,rfl,G⟩ (K _ _ ⟨rfl,h⟩))
   refine zc 1 hc16 Z (Ag (h.p [] Z) (Ao 5 4095 Z (zc 0 hc15 Z (Ag (h.p [] Z) (Ao 12 8191 Z (qaM (b8,r14) h (cB 60 Z) (qiX (qfV (x:=(⟨(⟨(⟨(⟨a.Ac.Au.Ay⟩:qn),(⟨a.Ac.Aa.Ab,a.Ac.Aa.As,a.Ac.Aa.Ak⟩:qd),a.Ac.Ah⟩:qf),(⟨a.Af.Bd,a.Af.Am,a.Af.Ar,a.Af.Aj,a.Af.Aq⟩:qr),a.Av,a.Ap⟩:qaB),C,t,(⟨s,x3,l⟩:qq)⟩:Tl20Work)) 4 h Z (show GoT.R _ _ ((⟨(⟨(⟨(⟨a.Ac.Au.Ay⟩:qn),(⟨a.Ac.Aa.Ab,a.Ac.Aa.As,a.Ac.Aa.Ak⟩:qd),a.Ac.Ah⟩:qf),(⟨a.Af.Bd,a.Af.Am,a.Af.Ar,a.Af.Aj,a.Af.Aq⟩:qr),a.Av,a.Ap⟩:qaB),C,t,(⟨s,x3,l⟩:qq)⟩:Tl20Work):Tl20Work) _ from⟨[oS R a.Ac.Au.Ay.length Q,oS H a.Ac.Aa.Ab.length D,oS z a.Ac.Aa.As.length k3,oS B a.Ac.Aa.Ak.length y,oS M a.Ac.Ah.length I,.string a.Af.Bd,vi a.Af.Am,vi a.Af.Ar,vi a.Af.Aj,vi a.Af.Aq,oS N a.Av.length J,oS O a.Ap.length L],[oS v C.length u,oS p t.length o,oS k s.length i,oS g x3.length d,oS f l.length c],rfl,⟨[oS R a.Ac.Au.Ay.length Q,oS H a.Ac.Aa.Ab.length D,oS z a.Ac.Aa.As.length k3,oS B a.Ac.Aa.Ak.length y,oS M a.Ac.Ah.length I],[.string a.Af.Bd,vi a.Af.Am,vi a.Af.Ar,vi a.Af.Aj,vi a.Af.Aq,oS N a.Av.length J,oS O a.Ap.length L],rfl,⟨[oS R a.Ac.Au.Ay.length Q],[oS H a.Ac.Aa.Ab.length D,oS z a.Ac.Aa.As.length k3,oS B a.Ac.Aa.Ak.length y,oS M a.Ac.Ah.length I],rfl,⟨_,_,rfl,(h.oldS (s1.mono hg.old))⟩,⟨[oS H a.Ac.Aa.Ab.length D,oS z a.Ac.Aa.As.length k3,oS B a.Ac.Aa.Ak.length y],[oS M a.Ac.Ah.length I],rfl,⟨[oS H a.Ac.Aa.Ab.length D],[oS z a.Ac.Aa.As.length k3,oS B a.Ac.Aa.Ak.length y],rfl,⟨_,_,rfl,(h.oldS (s2.mono hg.old))⟩,⟨[oS z a.Ac.Aa.As.length k3],[oS B a.Ac.Aa.Ak.length y],rfl,⟨_,_,rfl,(h.oldS (s3.mono hg.old))⟩,⟨_,_,rfl,(h.oldS (s4.mono hg.old))⟩⟩⟩,⟨_,_,rfl,(h.oldS (s5.mono hg.old))⟩⟩⟩,⟨[.string a.Af.Bd,vi a.Af.Am,vi a.Af.Ar,vi a.Af.Aj,vi a.Af.Aq],[oS N a.Av.length J,oS O a.Ap.length L],rfl,⟨[.string a.Af.Bd],[vi a.Af.Am,vi a.Af.Ar,vi a.Af.Aj,vi a.Af.Aq],rfl,rfl,⟨[vi a.Af.Am],[vi a.Af.Ar,vi a.Af.Aj,vi a.Af.Aq],rfl,rfl,⟨[vi a.Af.Ar],[vi a.Af.Aj,vi a.Af.Aq],rfl,rfl,⟨[vi a.Af.Aj],[vi a.Af.Aq],rfl,rfl,rfl⟩⟩⟩⟩,⟨[oS N a.Av.length J],[oS O a.Ap.length L],rfl,⟨_,_,rfl,(h.oldS (s6.mono hg.old))⟩,⟨_,_,rfl,(h.oldS (s7.mono hg.old))⟩⟩⟩⟩,⟨[oS v C.length u],[oS p t.length o,oS k s.length i,oS g x3.length d,oS f l.length c],rfl,(h.own 6 Z),⟨[oS p t.length o],[oS k s.length i,oS g x3.length d,oS f l.length c],rfl,(h.own 5 Z),⟨[oS k s.length i],[oS g x3.length d,oS f l.length c],rfl,(h.own 3 Z),⟨[oS g x3.length d],[oS f l.length c],rfl,(h.own 2 Z),(h.own 1 Z)⟩⟩⟩⟩⟩)) ⟨_,_,rfl,(qjv (GoT.mono (h.lrnS 0 0 Z Z) (h.lrnB 0 Z))).1⟩ hr45) Z Z Z Z fun w51 S75 us29 b4 a6=>?_))))));obtain⟨S76,us30,rfl,b5,a7⟩:=b4.consI a6;obtain⟨rfl,h⟩:=b5.lastI a7;exact G0 262143 [13,14,15,16,17] (h.p [] Z) Z (qqo [(12,_),(13,_),(14,_),(2,_),(7,_),(9,_)] ⟨rfl,rfl,rfl,rfl,rfl,rfl,G⟩ (K _ _ ⟨rfl,h⟩))
  rintro _ _ ⟨rfl,h⟩;refine Ad (X0 4 Z ?_);obtain⟨a3,hy13,F⟩:=qc F;have he13:=qba hy13;replace h:=h.unlrn 0 Z;obtain⟨_,S79,_,h⟩:=h.take hy13;obtain⟨p28,k28,rfl,-⟩:=qaC (h.own 0 Z);obtain⟨S80,h⟩:=qlT h;obtain⟨_,hp13,-,-,hl12⟩:=h.holeAt 1 Z;obtain⟨q13,hq13⟩:∃q,q=0+(i3).toNat*GoT.k qi:=⟨_,rfl⟩;refine zx hp13 hq13 ⟨he13.1,qD he13.2.1 hl12⟩ Z (zp1 Z (qpn qa 1 2 h Z hp13 hq13 Z Z Z Z Z Z fun _ h=>?_));replace h:SH _ _ [oW S80 (a3.Bg:List Int) [oS p28 a3.Bg.length k28],Ch.hole S79 (x7:List qi) b7 Y.length b6 (i3).toNat [vi a3.Bm,oS p28 a3.Bg.length k28,vi b8],oW b9 (l:List qe) [oS f l.length c],oW c0 (x3:List qe) [oS g x3.length d],oW c1 (s:List Bool) [oS k s.length i],oX X [oS R a.Ac.Au.Ay.length Q,oS H a.Ac.Aa.Ab.length D,oS z a.Ac.Aa.As.length k3,oS B a.Ac.Aa.Ak.length y,oS M a.Ac.Ah.length I,.string a.Af.Bd,vi a.Af.Am,vi a.Af.Ar,vi a.Af.Aj,vi a.Af.Aq,oS N a.Av.length J,oS O a.Ap.length L,oS v C.length u,oS p t.length o,oS k s.length i,oS g x3.length d,oS f l.length c] 114,oW c2 (t:List Bool) [oS p t.length o],oW c3 (C:List qv) [oS v C.length u],oX P [vi 0,oS U 0 0,vi 0] 41]:=h;refine X0 7 Z ?_;obtain⟨_,h⟩:=h.gather [1,2,3,4,5,6,7,8] (qhi (⟨a3.Bm,a3.Bg,b8⟩:qi) h (qw (S:=fun _=>False) Z) (qao 0 h Z) (qw (S:=fun _=>False) Z) (by rfl) (by rfl)) Z;replace h:=h.put;obtain⟨_,h⟩:=qtY (S:=_) h;exact rK ⟨_,_,_,F,rfl,h⟩ Z
 refine qu Z ?_;obtain rfl:=qb F;replace F:=hK2;refine qW (rA [] [] h Z fun _ h=>M0 7 [0,1,2] (h.p [] Z) Z (Ao 3 15 Z ?_));obtain⟨r15,hr67,F⟩:=qc F;refine quO r15 0 hg h Z (cB 61 Z) (qlH (hg.atPo 0 h Z) (h.ownG 0 Z) hr67) Z Z Z Z fun _ _ _ h hv52=>?_;obtain⟨_,rfl,hr68⟩:=qkk hv52;have hr69:=hr68;obtain⟨_,_,rfl,_⟩:=hr68;replace h:=h.grpAdd 0 Z hr69;refine Ag (h.p [] Z) ?_;obtain⟨T,_,F,he14,_,_,_,_,hp14,hq14,hr70,hc17⟩:=(qeB (h.grpS 0 0 Z Z)).1.ix F;have hr71:=hr70;obtain⟨c7,c5,rfl,_⟩:=qaC hr70;replace h:=h.grpAdd 0 Z hr71;refine Ax 4 31 hp14 hq14 ⟨he14.1,qD he14.2.1 (qeB (h.grpS 0 1 Z Z)).2⟩ (h.p [] Z) Z (M0 95 [6] (h.p [] Z) Z (Ao 5 127 Z (zc 0 hc17 Z (Ag (h.p [] Z) (Ao 7 255 Z (zs 7 h Z fun _ h=>G0 511 [8] (h.p [] Z) Z (Ad ?_)))))));obtain rfl:=qb F;have hv53:GoRs.Rs (ρ:=((Option Tl20Work)×qi×Int)) h.wc (reg A w h.wc) ((V (⟨(⟨(⟨(⟨a.Ac.Au.Ay⟩:qn),(⟨a.Ac.Aa.Ab,a.Ac.Aa.As,a.Ac.Aa.Ak⟩:qd),a.Ac.Ah⟩:qf),(⟨a.Af.Bd,a.Af.Am,a.Af.Ar,a.Af.Aj,a.Af.Aq⟩:qr),a.Av,a.Ap⟩:qaB),C,t,(⟨s,x3,l⟩:qq)⟩:Tl20Work)),T,0) [oV (Option Tl20Work) [vp X],oV qi (qf3 T c7 c5),oV Int [vi 0]]:=⟨_,_,rfl,(hg.outR h (Rg.boxR (x:=(⟨(⟨(⟨(⟨a.Ac.Au.Ay⟩:qn),(⟨a.Ac.Aa.Ab,a.Ac.Aa.As,a.Ac.Aa.Ak⟩:qd),a.Ac.Ah⟩:qf),(⟨a.Af.Bd,a.Af.Am,a.Af.Ar,a.Af.Aj,a.Af.Aq⟩:qr),a.Av,a.Ap⟩:qaB),C,t,(⟨s,x3,l⟩:qq)⟩:Tl20Work)) 4 h Z (show GoT.R _ _ ((⟨(⟨(⟨(⟨a.Ac.Au.Ay⟩:qn),(⟨a.Ac.Aa.Ab,a.Ac.Aa.As,a.Ac.Aa.Ak⟩:qd),a.Ac.Ah⟩:qf),(⟨a.Af.Bd,a.Af.Am,a.Af.Ar,a.Af.Aj,a.Af.Aq⟩:qr),a.Av,a.Ap⟩:qaB),C,t,(⟨s,x3,l⟩:qq)⟩:Tl20Work):Tl20Work) _ from⟨[oS R a.Ac.Au.Ay.length Q,oS H a.Ac.Aa.Ab.length D,oS z a.Ac.Aa.As.length k3,oS B a.Ac.Aa.Ak.length y,oS M a.Ac.Ah.length I,.string a.Af.Bd,vi a.Af.Am,vi a.Af.Ar,vi a.Af.Aj,vi a.Af.Aq,oS N a.Av.length J,oS O a.Ap.length L],[oS v C.length u,oS p t.length o,oS k s.length i,oS g x3.length d,oS f l.length c],rfl,⟨[oS R a.Ac.Au.Ay.length Q,oS H a.Ac.Aa.Ab.length D,oS z a.Ac.Aa.As.length k3,oS B a.Ac.Aa.Ak.length y,oS M a.Ac.Ah.length I],[.string a.Af.Bd,vi a.Af.Am,vi a.Af.Ar,vi a.Af.Aj,vi a.Af.Aq,oS N a.Av.length J,oS O a.Ap.length L],rfl,⟨[oS R a.Ac.Au.Ay.length Q],[oS H a.Ac.Aa.Ab.length D,oS z a.Ac.Aa.As.length k3,oS B a.Ac.Aa.Ak.length y,oS M a.Ac.Ah.length I],rfl,⟨_,_,rfl,(hg.inS h s1)⟩,⟨[oS H a.Ac.Aa.Ab.length D,oS z a.Ac.Aa.As.length k3,oS B a.Ac.Aa.Ak.length y],[oS M a.Ac.Ah.length I],rfl,⟨[oS H a.Ac.Aa.Ab.length D],[oS z a.Ac.Aa.As.length k3,oS B a.Ac.Aa.Ak.length y],rfl,⟨_,_,rfl,(hg.inS h s2)⟩,⟨[oS z a.Ac.Aa.As.length k3],[oS B a.Ac.Aa.Ak.length y],rfl,⟨_,_,rfl,(hg.inS h s3)⟩,⟨_,_,rfl,(hg.inS h s4)⟩⟩⟩,⟨_,_,rfl,(hg.inS h s5)⟩⟩⟩,⟨[.string a.Af.Bd,vi a.Af.Am,vi a.Af.Ar,vi a.Af.Aj,vi a.Af.Aq],[oS N a.Av.length J,oS O a.Ap.length L],rfl,⟨[.string a.Af.Bd],[vi a.Af.Am,vi a.Af.Ar,vi a.Af.Aj,vi a.Af.Aq],rfl,rfl,⟨[vi a.Af.Am],[vi a.Af.Ar,vi a.Af.Aj,vi a.Af.Aq],rfl,rfl,⟨[vi a.Af.Ar],[vi a.Af.Aj,vi a.Af.Aq],rfl,rfl,⟨[vi a.Af.Aj],[vi a.Af.Aq],rfl,rfl,rfl⟩⟩⟩⟩,⟨[oS N a.Av.length J],[oS O a.Ap.length L],rfl,⟨_,_,rfl,(hg.inS h s6)⟩,⟨_,_,rfl,(hg.inS h s7)⟩⟩⟩⟩,⟨[oS v C.length u],[oS p t.length o,oS k s.length i,oS g x3.length d,oS f l.length c],rfl,(Rg.ownR 6 h Z),⟨[oS p t.length o],[oS k s.length i,oS g x3.length d,oS f l.length c],rfl,(Rg.ownR 5 h Z),⟨[oS k s.length i],[oS g x3.length d,oS f l.length c],rfl,(Rg.ownR 3 h Z),⟨[oS g x3.length d],[oS f l.length c],rfl,(Rg.ownR 2 h Z),(Rg.ownR 1 h Z)⟩⟩⟩⟩⟩))),⟨_,_,rfl,(hg.outR h (⟨[vi T.Bm],[oS c7 T.Bg.length c5,vi T.Ai],rfl,rfl,⟨[oS c7 T.Bg.length c5],[vi T.Ai],rfl,⟨_,_,rfl,(qjv (Rg.grpR 0 0 h Z Z)).1⟩,rfl⟩⟩)),⟨_,rfl,rfl⟩⟩⟩;have hk2:=h;replace h:=h.p [1,2,3,4,5,6,7] Z;exact qdN qa (ρ:=((Option Tl20Work)×qi×Int)) (r:=((V (⟨(⟨(⟨(⟨a.Ac.Au.Ay⟩:qn),(⟨a.Ac.Aa.Ab,a.Ac.Aa.As,a.Ac.Aa.Ak⟩:qd),a.Ac.Ah⟩:qf),(⟨a.Af.Bd,a.Af.Am,a.Af.Ar,a.Af.Aj,a.Af.Aq⟩:qr),a.Av,a.Ap⟩:qaB),C,t,(⟨s,x3,l⟩:qq)⟩:Tl20Work)),T,0)) [oV (Option Tl20Work) [vp X],oV qi (qf3 T c7 c5),oV Int [vi 0]] h ⟨rfl,⟨_,_,_,rfl,rfl,hk2.box 7 Z,rfl⟩,rfl,G⟩ hv53
def qby(f:(Option Twork))(mode:Int)(a:(List qi)):Nat->(List qi)->Int->Option ((List qi)×Int)|0,_,_=>U|n+1,x1,i1=>bif decide (i1<(a.length:Int)) then(idx x1 i1).bind fun b=>(qfn n f b.Bm b.Bg mode).bind fun d=>(idx x1 i1).bind fun c=>qby f mode a n (setS x1 i1 (⟨c.Bm,c.Bg,d⟩:qi)) (W64 (i1+1)) else V (x1,i1)
def qcW(n:Nat)(f:(Option Twork))(node:Int)(mode:Int):Option (qi×Int):=(qfy n f node).bind fun c=>bif decide (c > 300) then V ((⟨0,[],0⟩:qi),3) else(qgQ n f node).bind fun a=>bif ((a.length:Int)==0) then V ((⟨0,[],0⟩:qi),5) else(qby f mode a n a 0).bind fun(x1,_)=>(sortP n x1 mode).bind fun d=>(idx d 0).bind fun b=>V ((⟨b.Bm,b.Bg,b.Ai⟩:qi),0)
theorem qlu{Y:(Option Twork)}{node mode}(x:Ro w Y cs1){r:(qi×Int)}(F:qcW n Y node mode=V r):RetV prog 32 [oV (Option Twork) cs1,vi node,vi mode] w r:=by
 obtain⟨Q,rfl,K⟩:=qau x;refine zV 48 func32 Z fun h=>zSR (qp qa h Z Z Z fun _ a h=>X0 7 Z (zcI h F (qmW (h.old K)) Z fun _ _ h F=>X0 2 Z (qg Z F ?_ ?_)))<;>intro F
 ·refine zSR (r_v (qG qa [] [] Z Z Z Z Z Z Z Z) Z (zs 0 h Z fun _ h=>X0 2 Z ?_));obtain rfl:=qb F;exact qU qa (ρ:=(qi×Int)) [oV qi [vi 0,oS U 0 0,vi 0],oV Int [vi 3]] h ⟨⟨_,_,_,rfl,rfl,h.box 0 Z,rfl⟩,rfl,G⟩ (PV.done h (qae h (qhi (⟨0,[],0⟩:qi) h (qw (S:=fun _=>False) Z) qhe (qw (S:=fun _=>False) Z) (by rfl) (by rfl)) (qaa (qw (S:=fun _=>False) Z)) (by rfl)))
 refine X0 5 Z (zcL h F (qof (h.old K)) Z fun t _ _ J I h F=>X0 9 Z (qg Z F ?_ ?_))<;>intro F
 ·refine zSR (r_v (qG qa [] [] Z Z Z Z Z Z Z Z) Z (zs 1 h Z fun _ h=>X0 2 Z ?_));obtain rfl:=qb F;exact qU qa (ρ:=(qi×Int)) [oV qi [vi 0,oS U 0 0,vi 0],oV Int [vi 5]] h ⟨⟨_,_,_,rfl,rfl,h.box 1 Z,rfl⟩,rfl,G⟩ (PV.done h (qae h (qhi (⟨0,[],0⟩:qi) h (qw (S:=fun _=>False) Z) qhe (qw (S:=fun _=>False) Z) (by rfl) (by rfl)) (qaa (qw (S:=fun _=>False) Z)) (by rfl)))
 refine X0 8 Z ?_;obtain⟨O,F,v⟩:=qc F;refine qm (rL (fun m e w'=>∃S2 x1 i1,qby Y mode t m x1 i1=V O/\e=[(0,.pointer Q),(2,vi mode),(6,vp a),(8,oS J t.length I),(23,oS J t.length I),(24,vi (t.length:Int)),(25,vi i1)]/\SH w w' [oW S2 (x1:List qi) [oS J t.length I],oX a [vi 0,oS U 0 0,vi 0] 41]) n ⟨_,_,_,F,rfl,h⟩ Z ?_);rintro L _ _ ⟨S2,x1,i1,F,rfl,h⟩;rcases L with _|L
 ·cases F
 refine X0 5 Z (qg Z F ?_ ?_)<;>intro F
 ·refine X0 6 Z ?_;obtain⟨_,o,F⟩:=qc F;have b:=qba o;replace h:=h.lrn0 0 Z;obtain⟨_,P,_,_,B,C,-,l,y⟩:=(qeB (h.lrnO 0 Z)).1.at o;have D:=l;obtain⟨_,_,rfl,_⟩:=qaC l;replace h:=h.lrnAdd 0 Z D;refine zx B C ⟨b.1,qD b.2.1 (qeB (h.lrnO 0 Z)).2⟩ Z (zc 0 y Z (qp qa h Z Z Z fun _ _ h=>zp1 Z (zs 0 h Z fun _ h=>X2 10 0 0 h Z (zcI h F (qmA (h.old K) ⟨_,_,rfl,(qjv (GoT.mono (h.lrnS 1 0 Z Z) (h.lrnB 1 Z))).1⟩) Z fun T _ h F=>?_))));obtain⟨M,p,F⟩:=qc F;have c:=qba p;replace h:=h.unlrn 1 Z;replace h:=h.p [1,0,2] Z;obtain⟨_,_,_,h⟩:=h.take p;obtain⟨_,_,rfl,-⟩:=qaC (h.own 0 Z);obtain⟨_,h⟩:=qlT h;obtain⟨_,f,-,-,z⟩:=h.holeAt 1 Z;obtain⟨W,i⟩:∃q,q=0+(i1).toNat*GoT.k qi:=⟨_,rfl⟩;refine zx f i ⟨c.1,qD c.2.1 z⟩ Z (zp1 Z (qpn qa 1 2 h Z f i Z Z Z Z Z Z fun _ h=>X0 6 Z ?_));obtain⟨_,h⟩:=h.gather [1,2,3] (qhi (⟨M.Bm,M.Bg,T⟩:qi) h (qw (S:=fun _=>False) Z) (qao 0 h Z) (qw (S:=fun _=>False) Z) (by rfl) (by rfl)) Z;replace h:=h.put;obtain⟨_,h⟩:=qtY (S:=_) h;replace h:=h.p [0,2] Z;exact rK ⟨_,_,_,F,rfl,h⟩ Z
 refine qu Z ?_;obtain rfl:=qb F;replace F:=v;refine X0 4 Z ?_;obtain⟨_,H,F⟩:=qc F;refine qlY (cB 51 Z) (quj 0 h Z H) Z Z Z Z ?_;rintro _ ⟨_,h⟩;refine X0 4 Z ?_;obtain⟨u,s,F⟩:=qc F;have d:=qba s;obtain⟨_,_,_,h⟩:=h.take s;obtain⟨R,N,rfl,-⟩:=qaC (h.own 0 Z);obtain⟨_,h⟩:=qlT h;obtain⟨_,g,-,-,A⟩:=h.holeAt 1 Z;obtain⟨X,k⟩:∃q,q=0+(0:Int).toNat*GoT.k qi:=⟨_,rfl⟩;refine zx g k ⟨d.1,qD d.2.1 A⟩ Z (zc 0 (qrq h 1 Z g k) Z (zs 2 h Z fun _ h=>X0 2 Z ?_));replace h:=h.p [0,2] Z;obtain rfl:=qb F;exact qU qa (ρ:=(qi×Int)) [oV qi (qf3 u R N),oV Int [vi 0]] h ⟨⟨_,_,_,rfl,rfl,h.box 1 Z,rfl⟩,rfl,G⟩ (PV.done h (qae h (qhi (⟨u.Bm,u.Bg,u.Ai⟩:qi) h (qw (S:=fun _=>False) Z) (qao 0 h Z) (qw (S:=fun _=>False) Z) (by rfl) (by rfl)) (qaa (qw (S:=fun _=>False) Z)) (by rfl)))
def qkJ(_:Nat)(graph:Int)(own:Int)(mode:Int):Option Int:=bif (mode==1) then V (W64 (graph-own)) else V (W64 (own-graph))
theorem qqP{graph own mode}  {r:Int}(F:qkJ n graph own mode=V r):RetV prog 53 [vi graph,vi own,vi mode] w r:=by
 refine zV 15 func53 Z fun h=>X0 10 Z (qg Z F ?_ ?_)<;>intro F
 ·exact X0 7 Z (ri h F Z)
 exact X0 8 Z (ri h F Z)
def qif(n:Nat)(j:qaB)(node:Int)(mode:Int):Option (Int×Int):=(qgF n j node mode).bind fun(a,b,r4)=>bif (r4 != 0) then V (0,r4) else(a).bind fun f=>(idx f.t.Ai node).bind fun g=>(qhG n g mode).bind fun c=>(qkJ n c b.Ai mode).bind fun d=>V (d,0)
theorem qoS{j:qaB}{node mode}(b:Ro w j cs1){r:(Int×Int)}(F:qif n j node mode=V r):RetV prog 20 [oV qaB cs1,vi node,vi mode] w r:=by
 obtain⟨_,_,_,_,_,_,_,_,_,_,_,_,_,_,rfl,_,_,_,_,_,_,_⟩:=qdh b;refine zV 36 func20 Z fun h=>zSR (qx h Z Z fun _ _ h=>X1 8 0 h Z ?_);have a:Rg (old w) w (old w) w:=.start (fun _ h=>h);obtain⟨⟨M,N,r4⟩,o,F⟩:=qc F;refine qjJ (M,N,r4) a h (cB 26 Z) (qpK (a.regOld h) (a.inR h b) o) Z Z Z Z fun _ _ _ c f C y=>?_;have I:=h.ext f.below;have K:=h.below.trans (f.below.mono h.below.size);replace h:=C;obtain⟨_,_,rfl,p,z⟩:=qlB y;obtain⟨_,rfl,P⟩:=qau p;obtain⟨_,_,rfl,d,A⟩:=qlB z;have J:=d;obtain⟨_,_,rfl,_⟩:=qaC d;obtain⟨_,rfl,s⟩:=qkk A;obtain rfl:=s;refine zp4 Z (qp qa h Z Z Z fun _ _ h=>zp1 Z (zs 0 h Z fun _ h=>X0 8 Z (qg Z F ?_ ?_)))<;>intro F
 ·refine X0 6 Z ?_;replace h:=h.unbase c.below ⟨fun _ h=>h,G⟩;obtain rfl:=qb F;exact qU qa (ρ:=(Int×Int)) [oV Int [vi 0],oV Int [vi r4]] h ⟨rfl,rfl,G⟩ (PV.done h (qae h (qw (S:=fun _=>False) Z) (qaa (qw (S:=fun _=>False) Z)) (by rfl)))
 refine zKS (rD (zd1 Z ?_));obtain⟨_,B,F⟩:=qc F;obtain⟨_,L,_,rfl,-,t,g⟩:=PtR.get P B;obtain⟨_,_,_,_,_,_,_,_,_,_,_,_,_,_,_,_,_,_,_,_,_,_,_,_,rfl,_,_,_,_,_,_,_,_,_,_,D,_⟩:=qhX t;refine zd3 Z (zdc 15 (g.below h.below) Z (zd1 Z ?_));obtain⟨Q,_,F,k,_,_,_,_,l,m,u,i⟩:=D.ix F;obtain rfl:=qA u;refine zdxe l m k Z (zdc 0 (i.below h.below) Z (zd1 Z ?_));obtain⟨O,v,F⟩:=qc F;refine qaK O (vsI _) (cB 54 Z) (fun _ R=>qko (qB Q) v) Z Z Z Z (Y1 2 0 h Z ?_);refine zd1 Z ?_;obtain⟨H,x,F⟩:=qc F;refine qaK H (vsI _) (cB 53 Z) (fun _ R=>qqP  x) Z Z Z Z (zd2 Z (dN h fun _ h=>?_));replace h:=h.unbase c.below ⟨fun _ h=>h,G⟩;obtain rfl:=qb F;exact qU qa (ρ:=(Int×Int)) [oV Int [vi H],oV Int [vi 0]] h ⟨rfl,rfl,G⟩ (PV.done h (qae h (qw (S:=fun _=>False) Z) (qaa (qw (S:=fun _=>False) Z)) (by rfl)))
def qiB(_:Nat)(graph:Int)(own:Int)(mode:Int):Option Int:=bif (mode==1) then V (W64 (graph-own)) else V (W64 (own-graph))
theorem qpH{graph own mode}  {r:Int}(F:qiB n graph own mode=V r):RetV prog 55 [vi graph,vi own,vi mode] w r:=by
 refine zV 15 func55 Z fun h=>X0 10 Z (qg Z F ?_ ?_)<;>intro F
 ·exact X0 7 Z (ri h F Z)
 exact X0 8 Z (ri h F Z)
def qib(n:Nat)(j:qaB)(node:Int)(mode:Int):Option (Int×Int):=(qct n j mode ([node]:List Int)).bind fun(a,b)=>bif (b != 0) then V (0,b) else(qcW n a node mode).bind fun(d,c)=>bif (c != 0) then V (0,c) else(a).bind fun h=>(idx h.timing.Ai node).bind fun i=>(qi4 n i mode).bind fun f=>(qiB n f d.Ai mode).bind fun g=>V (g,0)
theorem qo0{j:qaB}{node mode}(c:Ro w j cs1){r:(Int×Int)}(F:qib n j node mode=V r):RetV prog 21 [oV qaB cs1,vi node,vi mode] w r:=by
 obtain⟨_,_,_,_,_,_,_,_,_,_,_,_,_,_,rfl,_,_,_,_,_,_,_⟩:=qdh c;refine zV 46 func21 Z fun h=>zSR (qx h Z Z fun _ _ h=>X1 8 0 h Z (qE qa [.tmp 14] _ ([node]:List Int) h Z Z Z Z Z Z Z Z Z ⟨rfl,G⟩ Z fun _ _ _ h=>?_));have b:Rg (old w) w (old w) w:=.start (fun _ h=>h);obtain⟨⟨R,K⟩,s,F⟩:=qc F;refine qjJ (R,K) b h (cB 31 Z) (qqB (b.regOld h) (b.inR h c) (Rg.ownR 0 h Z) s) Z Z Z Z fun _ _ _ a g I B=>?_;have O:=h.ext g.below;have P:=h.below.trans (g.below.mono h.below.size);replace h:=I;obtain⟨_,_,rfl,t,C⟩:=qlB B;obtain⟨_,rfl,N⟩:=qau t;obtain⟨_,rfl,u⟩:=qkk C;obtain rfl:=u;refine X0 12 Z (qg Z F ?_ ?_)<;>intro F
 ·refine X0 6 Z ?_;replace h:=h.unbase a.below (show NoD [] from trivial);obtain rfl:=qb F;exact qU qa (ρ:=(Int×Int)) [oV Int [vi 0],oV Int [vi K]] h ⟨rfl,rfl,G⟩ (PV.done h (qae h (qw (S:=fun _=>False) Z) (qaa (qw (S:=fun _=>False) Z)) (by rfl)))
 refine X0 6 Z ?_;obtain⟨⟨T,L⟩,v,F⟩:=qc F;refine qaM (T,L) h (cB 32 Z) (qlu (h.old (GoT.mono N a.old)) v) Z Z Z Z fun _ _ _ D x=>?_;obtain⟨_,_,_,_,rfl,i,y⟩:=D.cons x;obtain⟨_,_,rfl,-⟩:=qaC (i.sh.own 0 Z);obtain⟨rfl,h⟩:=i.lastI y;refine zp3 Z (qp qa h Z Z Z fun _ _ h=>zs 0 h Z fun _ h=>X0 8 Z (qg Z F ?_ ?_))<;>intro F
 ·refine X0 6 Z ?_;replace h:=h.unbase a.below ⟨fun _ h=>h,⟨fun _ h=>h,G⟩⟩;obtain rfl:=qb F;exact qU qa (ρ:=(Int×Int)) [oV Int [vi 0],oV Int [vi L]] h ⟨rfl,rfl,G⟩ (PV.done h (qae h (qw (S:=fun _=>False) Z) (qaa (qw (S:=fun _=>False) Z)) (by rfl)))
 refine zKS (rD (zd1 Z ?_));obtain⟨_,H,F⟩:=qc F;obtain⟨_,Q,_,rfl,-,z,k⟩:=PtR.get N H;obtain⟨_,_,_,_,_,_,_,_,_,_,_,_,_,_,_,_,_,_,_,_,_,_,_,rfl,_,_,_,_,_,_,_,_,_,J,_,_⟩:=qlf z;refine zd3 Z (zdc 14 (k.below h.below) Z (zd1 Z ?_));obtain⟨X,_,F,m,_,_,_,_,o,p,A,l⟩:=J.ix F;obtain rfl:=qA A;refine zdxe o p m Z (zdc 0 (l.below h.below) Z (zd1 Z ?_));obtain⟨W,d,F⟩:=qc F;refine qaK W (vsI _) (cB 50 Z) (fun _ Y=>qkp (qB X) d) Z Z Z Z (Y1 2 0 h Z ?_);refine zd1 Z ?_;obtain⟨M,f,F⟩:=qc F;refine qaK M (vsI _) (cB 55 Z) (fun _ Y=>qpH  f) Z Z Z Z (zd2 Z (dN h fun _ h=>?_));replace h:=h.unbase a.below ⟨fun _ h=>h,⟨fun _ h=>h,G⟩⟩;obtain rfl:=qb F;exact qU qa (ρ:=(Int×Int)) [oV Int [vi M],oV Int [vi 0]] h ⟨rfl,rfl,G⟩ (PV.done h (qae h (qw (S:=fun _=>False) Z) (qaa (qw (S:=fun _=>False) Z)) (by rfl)))
end Go.Fw


namespace Go.Fw
open Go
set_option maxRecDepth 100000
def swV(j:qaB)(t:qq):Option Tl20Work:=V ⟨j,linksL j.Ac,lvJ j.Ac j.Av,t⟩
theorem qzn{j:qaB}(h:qjl j) :
  (∃code:Int,code≠0/\Ev (fun n=>qcu n j) (U,code)/\∀mode nodes,Ev (fun n=>qct n j mode nodes) (U,code)) \/
  ∃t R,WkOk j t R/\Ev (fun n=>qcu n j) (swV j t,0)/\∀mode nodes,nodes.length<=1048576->(mode=0\/mode=1) ->
   Ev (fun n=>qct n j mode nodes) (bif nodes.all (fun x=>inI x 0 ((ndB j.Ac:Int)-1)) then(wkV j t R,0) else(U,4)):=by
 have c:=h.Av.len;unfold qcu qct;rcases qwy h with⟨code,hne,hs,hi⟩|⟨t,R,hw,hs,hi⟩
 ·exact .inl ⟨code,hne,Ev.bind hs (Ev.tt (qgU hne) .done),fun mode nodes=>Ev.bind hi (Ev.tt (qgU hne) .done)⟩
 ·have a:=hw.tg.bl;have d:=qhc a;have g:=qaN (qN (qam a));have l:=qjB (ls:=linksL j.Ac) (br:=j.Av) d c;refine .inr ⟨t,R,hw,Ev.bind hs (Ev.ff Z (Ev.bind (qfj a) (Ev.bind l .done))),fun mode nodes k i=>Ev.bind hi (Ev.ff Z ?_)⟩;have f:=qnP (v:=viewV j.Ac) g;have e1:W64 (((2*(viewV j.Ac).places.length:Nat):Int)-1)=(ndB j.Ac:Int)-1:=by
   show W64 (((2*(places j.Ac.Aa).length:Nat):Int)-1)=_;rw[qaw (by omega) (by omega)]
  unfold wkV grB;simp only[jd,f,e1];refine Ev.bind (qef k) ?_;cases nodes.all fun x=>inI x 0 ((ndB j.Ac:Int)-1)
  ·exact Ev.tt Z .done
  ·refine Ev.ff Z ?_;rcases i with rfl|rfl<;>exact Ev.bind (b:=true) (Ev.now Z) (Ev.ff Z .done)
theorem qmT{j:qaB}{t:qq}{node:Int}(h:j.Ap.length<=1048576):Ev (fun n=>qfz n (swV j t) node) ((srcV (srcO j.Ap node)).2,(srcV (srcO j.Ap node)).1):=by
 have g:Ev (fun n=>qcR (swV j t) node n 0) (match srcO j.Ap node with|some y=>.ret (y,true)|none=>.nxt (j.Ap.length:Int)):=by
  have c:∀d i,i+d=j.Ap.length->(j.Ap.take i).find? (fun s=>s.Bq==node)=U->Ev (fun n=>qcR (swV j t) node n (i:Int)) (match srcO j.Ap node with|some y=>.ret (y,true)|none=>.nxt (j.Ap.length:Int)):=by
   intro d
   induction d with
   |zero=>
    intro i hi b;obtain rfl:i=j.Ap.length:=by omega
    rw[jE] at b;unfold srcO;rw[b];refine Ev.succ ?_;simp only[qcR,swV,jd,ql (je _),cond_false];exact .done
   |succ d ih=>
    intro i hi b;have a:i<j.Ap.length:=by omega
    refine Ev.succ ?_;simp only[qcR,swV,jd,qj a,cond_true,qz a,wS i];cases hq:(gt j.Ap i).Bq==node
    ·refine ih (i+1) (by omega) ?_;rw[js a,List.find?_append,b,<-qcw a,List.find?_cons_of_neg (by simp[hq])]
     rfl
    ·have f:j.Ap.drop i=gt j.Ap i::j.Ap.drop (i+1):=by rw[qcw a];exact jB a
     have:srcO j.Ap node=V (gt j.Ap i):=by
      generalize gt j.Ap i=y at hq f;unfold srcO;rw[<-Ja i j.Ap,List.find?_append,b,f,List.find?_cons_of_pos (by simpa using hq)]
      rfl
     rw[this];exact .done
  exact c j.Ap.length 0 (by omega) Z
 unfold qfz;refine Ev.bind g ?_;cases srcO j.Ap node<;>exact .done
def atP(ls:List qv)(start:Int)(path:List Int):Nat->Int
 |0=>start
 |j+1=>(gt ls (at0 path j).toNat).To
def okP(ls:List qv)(lv:List Bool)(start:Int)(path:List Int)(j:Nat):Bool:=
 inI (at0 path j) 0 ((ls.length:Int)-1)&&(gt lv (at0 path j).toNat&&((gt ls (at0 path j).toNat).Bl==atP ls start path j))
def pathB(j:qaB)(start:Int)(path:List Int):Bool:=(srcV (srcO j.Ap start)).1&&allN (okP (linksL j.Ac) (lvJ j.Ac j.Av) start path) path.length
def endB(j:qaB)(start:Int)(path:List Int):Int:=atP (linksL j.Ac) start path path.length
theorem inRange{x:Int}{m:Nat}(h:inI x 0 ((m:Int)-1)=true):0<=x/\x<(m:Int)/\x.toNat<m:=by rw[qa9] at h;omega

section
variable{L:Nat}{fr to:Nat->Int}{lv:Nat->Bool}{n:Nat}{R:List Nat}
theorem OrdOk.ne(h:OrdOk L fr to lv n R){i j:Nat}(a:i<j)(b:j<R.length):R[i]'(by omega)≠R[j]:=fun e=>
 (h.at b).2.1 (by rw[<-e,List.mem_iff_getElem];exact⟨i,by rw[jw];omega,by rw[jZ]⟩)
theorem OrdOk.nodup(h:OrdOk L fr to lv n R):R.Nodup:=by
 unfold List.Nodup;rw[List.pairwise_iff_getElem];exact fun i j _ b a=>h.ne a b
theorem OrdOk.full(h:OrdOk L fr to lv n R)(g:R.length=n){k:Nat}(c:k<n):∃i,∃hi:i<R.length,R[i]=k:=by
 refine Classical.byContradiction fun b=>?_;have f:k∉R:=fun d=>b (List.mem_iff_getElem.1 d);have:=qpl (l:=k::R) (l':=List.range n) (List.nodup_cons.2 ⟨f,h.nodup⟩) (fun x a=>by
  rw[List.mem_range];rcases List.mem_cons.1 a with rfl|a
  ·exact c
  ·obtain⟨i,hi,rfl⟩:=List.mem_iff_getElem.1 a;exact(h.at hi).1)
 rw[Jm,List.length_range] at this;omega
theorem OrdOk.later(h:OrdOk L fr to lv n R)(p:R.length=n){x a c:Nat}(s:x<L)(r:lv x=true)(m:fr x=(a:Int))(o:to x=(c:Int))(f:c<n){i:Nat}(hi:i<R.length)(b:R[i]=a):∃j,∃k:j<R.length,i<j/\R[j]=c:=by
 obtain⟨j,k,e⟩:=h.full p f;have l:=(h.at k).2.2;rw[e] at l;have:=qlg.1 l x s r o;rw[m,qhV,List.mem_iff_getElem] at this;obtain⟨t,g,d⟩:=this;rw[jw] at g;rw[jZ] at d;refine⟨j,k,?_,e⟩;rcases Nat.lt_trichotomy i t with hh|hh|hh
 ·exact absurd (b.trans d.symm) (h.ne hh (by omega))
 ·omega
 ·exact absurd (d.trans b.symm) (h.ne hh hi)
end

def modeB(m:Int):Bool:=(m==0) || (m==1)
theorem qpJ{m:Int}(h:modeB m=true):m=0\/m=1:=by unfold modeB at h;simpa using h
theorem qwE{n:Nat}{m:Int}:qlC n m=V (modeB m):=by
 unfold qlC modeB;cases m==0<;>rfl
theorem qrp{n:Nat}{m:Int}:qhw n m=V (modeB m):=by
 unfold qhw modeB;cases m==0<;>rfl
theorem quh{j:qaB}{start:Int}{path:List Int}(a:pathB j start path=true){i:Nat}(hi:i<path.length):∃k:Nat,k<lkB j.Ac/\at0 path i=(k:Int):=by
 unfold pathB at a;rw[jf,qap] at a;have:=a.2 i hi;unfold okP at this;rw[jf] at this;obtain⟨b,_,c⟩:=inRange this.1;exact⟨(at0 path i).toNat,c,qfM b⟩
def ofS(m:Int)(s:qe):Int:=bif m==1 then s.Bf else s.Az
theorem qrM{n:Nat}{m:Int}{s:qe}:qhG n s m=V (ofS m s):=by
 unfold qhG ofS;cases m==1<;>rfl
theorem qAf{n:Nat}{m:Int}{s:qe}(h:modeB m=true):qi4 n s m=V (ofS m s):=by
 rcases qpJ h with rfl|rfl<;>rfl
section
variable{j:qaB}{t:qq}{R:List Nat}{start:Int}{path:List Int}{f:Nat->qe->qe×qe}
end
def OwnOk(b:qf)(c:qr)(mode:Int)(d:Nat->Int->Int×Int):Prop:=∀k sl,k<(linksL b).length->0<=sl->sl<=1000000 ->
 (0<=(d k sl).2/\(d k sl).2<=1000000)/\Ev (fun n=>qb1 n b c (gt (linksL b) k) sl mode) (d k sl).1/\Ev (fun n=>qbh n (V (viewV b)) c (k:Int) sl mode) (d k sl).1 /\
 Ev (fun n=>qcr n b (gt (linksL b) k) sl mode) (d k sl).2/\Ev (fun n=>qaL n (V (viewV b)) (k:Int) sl mode) (d k sl).2
theorem qAs{b:qf}{c:qr}(h:blockB b=true)(o:cornerB c=true){mode:Int}(t:modeB mode=true):∃d,OwnOk b c mode d:=by
 have f:∀x:Nat×Int,∃r:Int×Int,x.1<(linksL b).length->0<=x.2->x.2<=1000000 ->
   (0<=r.2/\r.2<=1000000)/\Ev (fun n=>qb1 n b c (gt (linksL b) x.1) x.2 mode) r.1/\Ev (fun n=>qbh n (V (viewV b)) c (x.1:Int) x.2 mode) r.1 /\
   Ev (fun n=>qcr n b (gt (linksL b) x.1) x.2 mode) r.2/\Ev (fun n=>qaL n (V (viewV b)) (x.1:Int) x.2 mode) r.2:=by
  rintro⟨k,s⟩;by_cases g:k<(linksL b).length/\0<=s/\s<=1000000
  ·obtain⟨g,m,a⟩:=g;obtain⟨⟨d,v,y⟩,⟨u,z,A,B,C⟩⟩:=qq6 (c:=c) [] h o g m a (qpJ t);exact⟨(d,u),fun _ _ _=>⟨⟨z,A⟩,v,y,B,C⟩⟩
  ·exact⟨(0,0),fun a i l=>absurd ⟨a,i,l⟩ g⟩
 obtain⟨d,p⟩:=Classical.axiomOfChoice f;exact⟨fun k s=>d (k,s),fun k s a i l=>p (k,s) a i l⟩
def prS(d:Nat->Int->Int×Int)(s0:Int×Int)(path:List Int):Nat->Int×Int
 |0=>s0
 |i+1=>(W64 ((prS d s0 path i).1+(d (at0 path i).toNat (prS d s0 path i).2).1),(d (at0 path i).toNat (prS d s0 path i).2).2)
section
variable{j:qaB}{t:qq}{R:List Nat}{start mode:Int}{path:List Int}{d:Nat->Int->Int×Int}
theorem quA{xs:List qh}(d:SrcOk xs)(_hm:modeB mode=true):0<=ofS mode (srcV (srcO xs start)).2.Be/\ofS mode (srcV (srcO xs start)).2.Be<=1000000:=by
 cases hs:srcO xs start with
 |none=>unfold ofS srcV zSrc zSp;cases mode==1<;>(simp only[cond_true,cond_false];omega)
 |some y=>
  obtain⟨⟨a,b⟩,⟨c,e⟩⟩:=d.sl y (qmE hs).2;unfold ofS srcV;cases mode==1<;>(simp only[cond_true,cond_false];omega)
theorem qum(g:OwnOk j.Ac j.Af mode d){s0:Int×Int}(f:0<=s0.2/\s0.2<=1000000)(l:∀i,i<path.length->∃k:Nat,k<lkB j.Ac/\at0 path i=(k:Int)):∀i,i<=path.length->0<=(prS d s0 path i).2/\(prS d s0 path i).2<=1000000:=by
 intro i
 induction i with
 |zero=>exact fun _=>f
 |succ i ih=>
  intro hi;obtain⟨k,h,c⟩:=l i (by omega);obtain⟨a,b⟩:=ih (by omega);have:=(g k _ h a b).1;show 0<=(d (at0 path i).toNat (prS d s0 path i).2).2/\(d (at0 path i).toNat (prS d s0 path i).2).2<=1000000;rw[c,jr];exact this
def own0(j:qaB)(start mode:Int):Int×Int:=(ofS mode (srcV (srcO j.Ap start)).2.Ai,ofS mode (srcV (srcO j.Ap start)).2.Be)
theorem qzK(h:qjl j)(u:WkOk j t R)(r:modeB mode=true)(f:OwnOk j.Ac j.Af mode d)(z:path.length<=1048576)(l:∀i,i<path.length->∃k:Nat,k<lkB j.Ac/\at0 path i=(k:Int)) :
  Ev (fun n=>qj0 n (swV j t) start path mode) (prS d (own0 j start mode) path path.length):=by
 have o:=quA (start:=start) (qok h.Ap.len u.tg.sr) r;have a:=qum (s0:=own0 j start mode) f o l;have p:=loopF (Lf:=fun n (s:Int×Int) i=>qfB (swV j t) path mode n s.1 s.2 i) (S:=fun i=>prS d (own0 j start mode) path i) (len:=path.length) (fin:=((prS d (own0 j start mode) path path.length).1,(prS d (own0 j start mode) path path.length).2,(path.length:Int)))
  (fun n=>by simp only[qfB,ql (je _),cond_false])
  (fun i hi X c=>by
   obtain⟨k,g,b⟩:=l i hi;obtain⟨s0,y⟩:=a i (by omega);obtain⟨_,v,_,x,_⟩:=f k _ g s0 y;have m:prS d (own0 j start mode) path (i+1)=(W64 ((prS d (own0 j start mode) path i).1+(d k (prS d (own0 j start mode) path i).2).1),(d k (prS d (own0 j start mode) path i).2).2):=by
    show(W64 _,_)=_;rw[b,jr]
   rw[m] at c;simp only[qfB,qj hi,cond_true,qan hi,jd,b,swV,qz g,wS i];exact Ev.bind v (Ev.bind x c))
 unfold qj0;refine Ev.bind (qmT h.Ap.len) ?_;simp only[qrM,jd];exact Ev.bind p .done
theorem qvH(h:qjl j)(x:WkOk j t R)(m:modeB mode=true)(l:OwnOk j.Ac j.Af mode d)(B:path.length<=1048575)(o:∀i,i<path.length->∃k:Nat,k<lkB j.Ac/\at0 path i=(k:Int)) :
  Ev (fun n=>qgO n (wkV j t R) start path mode) (pre (fun i=>(prS d (own0 j start mode) path i).1) (path.length+1),(prS d (own0 j start mode) path path.length).2):=by
 have r:=quA (start:=start) (qok h.Ap.len x.tg.sr) m;have a:=qum (s0:=own0 j start mode) l r o;have u:=loopF (Lf:=fun n (s:List Int×Int×Int) i=>qcA path mode ⟨grB j.Ac j.Av,j,t,ints R⟩ n s.1 s.2.1 s.2.2 i) (S:=fun i=>(pre (fun i=>(prS d (own0 j start mode) path i).1) (i+1),prS d (own0 j start mode) path i)) (len:=path.length) (fin:=(pre (fun i=>(prS d (own0 j start mode) path i).1) (path.length+1),(prS d (own0 j start mode) path path.length).1,(prS d (own0 j start mode) path path.length).2,(path.length:Int)))
  (fun n=>by simp only[qcA,ql (je _),cond_false])
  (fun i hi X g=>by
   obtain⟨k,v,c⟩:=o i hi;obtain⟨s0,A⟩:=a i (by omega);obtain⟨_,_,y,_,z⟩:=l k _ v s0 A;have p:prS d (own0 j start mode) path (i+1)=(W64 ((prS d (own0 j start mode) path i).1+(d k (prS d (own0 j start mode) path i).2).1),(d k (prS d (own0 j start mode) path i).2).2):=by
    show(W64 _,_)=_;rw[c,jr]
   have b:appS (pre (fun i=>(prS d (own0 j start mode) path i).1) (i+1)) [(prS d (own0 j start mode) path (i+1)).1]=V (pre (fun i=>(prS d (own0 j start mode) path i).1) (i+1+1)):=qq9 (f:=fun i=>(prS d (own0 j start mode) path i).1) (by omega);rw[p] at g b;simp only[qcA,qj hi,cond_true,qan hi,jd,c,grB,wS i];refine Ev.bind y (Ev.bind z ?_);rw[b];exact g)
 unfold qgO;show Ev (fun n=>(qdz n j.Ap start).bind _) _;refine Ev.bind (qo8 h.Ap.len) ?_;simp only[qAf m,jd];exact Ev.bind u .done
theorem qxw(h:qjl j)(l:WkOk j t R)(b:modeB mode=true)(a:OwnOk j.Ac j.Af mode d)(c:path.length<=1048575)(g:∀i,i<path.length->∃k:Nat,k<lkB j.Ac/\at0 path i=(k:Int)) :
  Ev (fun n=>qfn n (wkV j t R) start path mode) (prS d (own0 j start mode) path path.length).1:=by
 unfold qfn;refine Ev.bind (qvH h l b a c g) ?_;simp only[qid (f:=fun i=>(prS d (own0 j start mode) path i).1) (show path.length<path.length+1 by omega)];exact .done
end

def mn6(x:Int):Int:=if x<1000000 then x else 1000000
theorem qAL{x:Int}:(if 1000000<x then 1000000 else x)=mn6 x:=by unfold mn6;split<;>split<;>omega
def ctS(ls:List qv)(lv:List Bool)(c:List Int)(node:Int)(a:Int)(j:Nat):Int:=(selN (toQ ls lv node) j).foldl (fun v k=>mn6 (W64 (v+gt c (frN ls k)))) a
theorem qrN{ls:List qv}{lv:List Bool}{c:List Int}{node a:Int}{j:Nat}:ctS ls lv c node a (j+1)=bif toQ ls lv node j then mn6 (W64 (ctS ls lv c node a j+gt c (frN ls j))) else ctS ls lv c node a j:=by
 unfold ctS;rw[qjz,List.foldl_append];cases toQ ls lv node j<;>rfl
theorem qvi{α:Type}{xs:List α}{k:Nat}{u v:α}:setS (setS xs (k:Int) u) (k:Int) v=setS xs (k:Int) v:=by
 unfold setS;rw[List.set_set]
def st0(j:qaB)(node:Int):Int:=bif (srcV (srcO j.Ap node)).1 then 1 else 0
theorem qwU{ls:List qv}{lv:List Bool}{c c':List Int}{node a:Int}:∀j,(∀x,x<j->toQ ls lv node x=true->gt c (frN ls x)=gt c' (frN ls x))->ctS ls lv c node a j=ctS ls lv c' node a j:=by
 intro j
 induction j with
 |zero=>intro _;rfl
 |succ j ih=>
  intro h;rw[qrN,qrN,ih fun x b=>h x (by omega)];cases hq:toQ ls lv node j
  ·rfl
  ·simp only[cond_true];rw[h j (by omega) hq]
theorem qv2{j:qaB}{t:qq}{R:List Nat}(h:qjl j)(Q:WkOk j t R):∃c:List Int,c.length=ndB j.Ac/\(∀k,k<ndB j.Ac->gt c k=ctS (linksL j.Ac) (lvJ j.Ac j.Av) c (k:Int) (st0 j (k:Int)) (lkB j.Ac)) /\
  ∀node,node<ndB j.Ac->Ev (fun n=>(qfU n (swV j t)).bind fun r4=>(idx r4 (node:Int)).bind fun y1=>V (y1,(0:Int))) (gt c node,0)/\Ev (fun n=>qfy n (wkV j t R) (node:Int)) (gt c node):=by
 have h1:=Q.tg.bl;have W:=h.Ap.len;have u:=qfN h1;have hll:=u.len;have J:(lvJ j.Ac j.Av).length=lkB j.Ac:=qmO;have hpl:=qaN (qN (qam h1));have H:=qjT h1;have A:=qnP (v:=viewV j.Ac) hpl;have epl:(viewV j.Ac).places.length=(places j.Ac.Aa).length:=rfl;rw[epl] at A;have hRl:=Q.tg.len;have B:=qs1 (lv:=lvJ j.Ac j.Av) u J;have eo:ordR (linksL j.Ac) (lvJ j.Ac j.Av) (2*(places j.Ac.Aa).length)=(ints R,true):=by unfold ordR;rw[show ordL (linksL j.Ac) (lvJ j.Ac j.Av) (2*(places j.Ac.Aa).length) (2*(places j.Ac.Aa).length) []=V R from Q.tg.or_]
 rw[eo] at B;have eM:ndB j.Ac=2*(places j.Ac.Aa).length:=rfl;have f:=Q.tg.ord;generalize hM0:ndB j.Ac=M at hRl eM⊢;rw[hM0] at f;rw[<-eM] at H A B;have hM:M<=156:=by omega
 have a4:∀d i c,i+d=R.length->c.length=M->(∀k,k<M->k∉R.take i->gt c k=0)->(∀k,k<M->k∈R.take i->gt c k=ctS (linksL j.Ac) (lvJ j.Ac j.Av) c (k:Int) (st0 j (k:Int)) (lkB j.Ac))->∃c':List Int,c'.length=M/\(∀k,k<M->k∈R->gt c' k=ctS (linksL j.Ac) (lvJ j.Ac j.Av) c' (k:Int) (st0 j (k:Int)) (lkB j.Ac)) /\
   Ev (fun n=>qdP (swV j t) ⟨j,linksL j.Ac,lvJ j.Ac j.Av,t⟩ (ints R) n c (i:Int)) (c',(R.length:Int)) /\
   Ev (fun n=>qb5 ⟨grB j.Ac j.Av,j,t,ints R⟩ ⟨V (viewV j.Ac),lvJ j.Ac j.Av⟩ n c (i:Int)) (c',(R.length:Int)):=by
  intro d
  induction d with
  |zero=>
   intro i c hi hc _ C;obtain rfl:i=R.length:=by omega
   rw[jE] at C;refine⟨c,hc,C,Ev.succ ?_,Ev.succ ?_⟩
   ·simp only[qdP,qbQ,ql (je _),cond_false];exact .done
   ·simp only[qb5,qbQ,ql (je _),cond_false];exact .done
  |succ d ih=>
   intro i c hi hc hz C;have z:i<R.length:=by omega
   obtain⟨k1,k2,k3⟩:=Q.tg.ord.at z;rw[hM0] at k1;have I:=qlX z;have D:R.take (i+1)=R.take i++[R[i]]:=js z;generalize R[i]=k at k1 k2 k3 I D;have hS:=qmT (j:=j) (t:=t) (node:=(k:Int)) W;have hI:=qo8 (xs:=j.Ap) (node:=(k:Int)) W;have a3:=hz k k1 k2;have g:k<c.length:=by omega
   obtain⟨o,L⟩:∃o:Int,o=st0 j (k:Int):=⟨_,rfl⟩;have sL:Ev (fun n=>qcm ⟨j,linksL j.Ac,lvJ j.Ac j.Av,t⟩ c (k:Int) n o 0) (ctS (linksL j.Ac) (lvJ j.Ac j.Av) c (k:Int) o (lkB j.Ac),(lkB j.Ac:Int)):=by
    have:=loopF (Lf:=fun n s x=>qcm ⟨j,linksL j.Ac,lvJ j.Ac j.Av,t⟩ c (k:Int) n s x) (S:=ctS (linksL j.Ac) (lvJ j.Ac j.Av) c (k:Int) o) (len:=lkB j.Ac) (fin:=(ctS (linksL j.Ac) (lvJ j.Ac j.Av) c (k:Int) o (lkB j.Ac),(lkB j.Ac:Int)))
     (fun n=>by simp only[qcm,ql (je _),cond_false])
     (fun x m X r=>by
      obtain⟨e1,e2⟩:=qkq u m;rw[<-eM] at e2;rw[qrN] at r;have F:x<(linksL j.Ac).length:=m;simp only[qcm,qj F,cond_true,qz F,qz (show x<(lvJ j.Ac j.Av).length by rw[J];exact m),jd,e1,qz (show frN (linksL j.Ac) x<c.length by omega),wS x];unfold toQ lvL toL at r;cases hv:gt (lvJ j.Ac j.Av) x
      ·rw[hv] at r;exact r
      ·rw[hv] at r;cases ht:(gt (linksL j.Ac) x).To==(k:Int)
       ·rw[ht] at r;exact r
       ·rw[ht] at r;exact r)
    exact this
   have nz:∀x,x∈selN (toQ (linksL j.Ac) (lvJ j.Ac j.Av) (k:Int)) (lkB j.Ac)->x<lkB j.Ac/\frN (linksL j.Ac) x≠k:=fun x m=>by
    obtain⟨x1,N⟩:=qfk.1 m;unfold toQ at N;rw[jf,beq_iff_eq] at N;have:=qlg.1 k3 x x1 N.1 N.2;obtain⟨e1,_⟩:=qkq u x1;rw[show frL (linksL j.Ac) x=(frN (linksL j.Ac) x:Int) from e1,qhV] at this;exact⟨x1,fun e=>k2 (by rw[<-e];exact this)⟩
   have pL:Ev (fun n=>qbz ⟨V (viewV j.Ac),lvJ j.Ac j.Av⟩ (k:Int) (ints (selN (toQ (linksL j.Ac) (lvJ j.Ac j.Av) (k:Int)) (lkB j.Ac))) n (setS c (k:Int) o) 0) (setS c (k:Int) (ctS (linksL j.Ac) (lvJ j.Ac j.Av) c (k:Int) o (lkB j.Ac)),((ints (selN (toQ (linksL j.Ac) (lvJ j.Ac j.Av) (k:Int)) (lkB j.Ac))).length:Int)):=by
    have hsl:(selN (toQ (linksL j.Ac) (lvJ j.Ac j.Av) (k:Int)) (lkB j.Ac)).length<=10000:=jX qmB hll;have:=(qsK (τ:=Int) (xs:=selN (toQ (linksL j.Ac) (lvJ j.Ac j.Av) (k:Int)) (lkB j.Ac)) (Lf:=fun n v x=>qbz ⟨V (viewV j.Ac),lvJ j.Ac j.Av⟩ (k:Int) (ints (selN (toQ (linksL j.Ac) (lvJ j.Ac j.Av) (k:Int)) (lkB j.Ac))) n (setS c (k:Int) v) x)
     (step:=fun v x=>mn6 (W64 (v+gt c (frN (linksL j.Ac) x)))) (fin:=fun v=>(setS c (k:Int) v,((ints (selN (toQ (linksL j.Ac) (lvJ j.Ac j.Av) (k:Int)) (lkB j.Ac))).length:Int))) o (fun _ _=>True) trivial (fun _ _ _ _=>trivial)
     (fun n v=>by simp only[qbz,qbQ,ql (je _),cond_false])
     (fun x v m _ X r=>by
      have T:=qlX m;obtain⟨x1,N⟩:=nz _ (jp m);generalize (selN (toQ (linksL j.Ac) (lvJ j.Ac j.Av) (k:Int)) (lkB j.Ac))[x]=y at T x1 N r;obtain⟨e1,e2⟩:=qkq u x1;rw[<-eM] at e2;have ev:(viewV j.Ac).links=linksL j.Ac:=rfl;have i1:idx (setS c (k:Int) v) (k:Int)=V v:=by rw[qz (by rw[qdM];exact g),qh8 g,if_pos Z]
      have i2:idx (setS c (k:Int) v) (frN (linksL j.Ac) y:Int)=V (gt c (frN (linksL j.Ac) y)):=by rw[qz (by rw[qdM];omega),qh8 g,if_neg N]
      simp only[qbz,qbQ,qj m,cond_true,T,jd,ev,qz x1,e1,i1,i2,qAL,qvi,wS x];exact r)).1
    exact this
   have a5:∀y,y<M->y∈R.take (i+1)->∀x,x<lkB j.Ac->toQ (linksL j.Ac) (lvJ j.Ac j.Av) (y:Int) x=true->gt c (frN (linksL j.Ac) x)=gt (setS c (k:Int) (ctS (linksL j.Ac) (lvJ j.Ac j.Av) c (k:Int) o (lkB j.Ac))) (frN (linksL j.Ac) x):=fun y Y a x m P=>by
    rw[qh8 g,if_neg];rw[D,List.mem_append,List.mem_singleton] at a;rcases a with a|rfl
    ·intro e;obtain⟨p,hp,ep⟩:=List.mem_iff_getElem.1 a;rw[jw] at hp;rw[jZ] at ep;have h0:=(f.at (j:=p) (by omega)).2.2;rw[ep] at h0;unfold toQ at P;rw[jf,beq_iff_eq] at P;have:=qlg.1 h0 x m P.1 P.2;obtain⟨e1,_⟩:=qkq u m;rw[show frL (linksL j.Ac) x=(frN (linksL j.Ac) x:Int) from e1,qhV,e] at this;obtain⟨q,hq',eq⟩:=List.mem_iff_getElem.1 this;rw[jw] at hq';rw[jZ] at eq;exact k2 (List.mem_iff_getElem.2 ⟨q,by rw[jw];omega,by rw[jZ];exact eq⟩)
    ·exact(nz x (qfk.2 ⟨m,P⟩)).2
   have sR:=ih (i+1) (setS c (k:Int) (ctS (linksL j.Ac) (lvJ j.Ac j.Av) c (k:Int) o (lkB j.Ac))) (by omega) (by rw[qdM];exact hc) (fun y Y K=>by
     rw[D] at K;have hne:y≠k:=fun e=>K (jP _ (List.mem_singleton.2 e));rw[qh8 g,if_neg hne];exact hz y Y fun a=>K (jJ _ a)) (fun y Y a=>by
     rw[<-qwU _ (a5 y Y a),qh8 g];split
     ·next e=>rw[e,L]
     ·next e=>
      rw[D,List.mem_append,List.mem_singleton] at a;rcases a with a|a
      ·exact C y Y a
      ·exact absurd a e)
   obtain⟨c',l',d',s',p'⟩:=sR;have ic:idx c (k:Int)=V 0:=by rw[qz g,a3]
   refine⟨c',l',d',Ev.succ ?_,Ev.succ ?_⟩
   ·simp only[qdP,qbQ,qj z,cond_true,I,jd,ic,wS i];refine Ev.bind hS (Ev.bind (b:=o) (Ev.now ?_) (Ev.bind sL s'));rw[L];unfold st0;cases (srcV (srcO j.Ap (k:Int))).1<;>rfl
   ·simp only[qb5,qbQ,qj z,cond_true,I,jd,ic,wS i];refine Ev.bind hI (Ev.bind (b:=setS c (k:Int) o) (Ev.now ?_) ?_)
    ·rw[L];unfold st0;cases (srcV (srcO j.Ap (k:Int))).1
     ·simp only[cond_false];rw[qoq g a3]
     ·rfl
    ·refine Ev.bind (qxO (b:=j.Ac) (lv:=lvJ j.Ac j.Av) (ps:=places j.Ac.Aa) (lo:=pre (load0 j.Ac) j.Ac.Ah.length) (de:=pre (exactL j.Ac) j.Ac.Ah.length) (ex:=[]) u J) (Ev.bind pL p')
 have O:mkS (M:Int) (0:Int)=V (List.replicate M 0):=qmN (by omega);obtain⟨c',l',d',s',p'⟩:=a4 R.length 0 (List.replicate M 0) (by omega) jH (fun k u _=>by rw[qcw (by rw[jH];exact u)];simp) (fun k _ a=>by rw[List.take_zero] at a;cases a);refine⟨c',l',fun k u=>d' k u ?_,fun node hn=>⟨?_,?_⟩⟩
 ·refine Classical.byContradiction fun a=>?_;have A:R.Nodup:=by
   unfold List.Nodup;rw[List.pairwise_iff_getElem];exact fun i j' _ hj hij e=>(f.at hj).2.1 (by rw[<-e,List.mem_iff_getElem];exact⟨i,by rw[jw];omega,by rw[jZ]⟩)
  have:=qpl (l:=k::R) (l':=List.range M) (List.nodup_cons.2 ⟨a,A⟩) (fun x m=>by
   rw[List.mem_range];rcases List.mem_cons.1 m with rfl|m
   ·exact u
   ·obtain⟨i,hi,rfl⟩:=List.mem_iff_getElem.1 m;exact(f.at hi).1)
  rw[Jm,List.length_range] at this;omega
 ·have:Ev (fun n=>qfU n (swV j t)) c':=by
   unfold qfU;show Ev (fun n=>(qbI n j.Ac).bind _) _;refine Ev.bind H ?_;rw[O];simp only[jd];exact Ev.bind H (Ev.bind B (Ev.bind s' .done))
  refine Ev.bind this ?_;rw[qz (by omega)];exact .done
 ·unfold qfy wkV grB;simp only[A,jd,O];refine Ev.bind p' ?_;show Ev (fun n=>(idx c' (node:Int)).bind _) _;rw[qz (by omega)];exact .done

instance:Inhabited qi:=⟨⟨0,[],0⟩⟩
theorem qvE{α:Type}{Q:Nat->Prop}{f:Nat->Nat->Option α}{v:Nat->α}:∀m,(∀i,i<m->Q i->Ev (f i) (v i))->∃N,∀n,N<=n->∀i,i<m->Q i->f i n=V (v i)
 |0,_=>⟨0,fun _ _ _ h=>absurd h (Jk _)⟩
 |m+1,h=>by
  obtain⟨N,b⟩:=qvE m fun i hi=>h i (by omega);by_cases d:Q m
  ·obtain⟨M,g⟩:=h m (by omega) d;refine⟨max N M,fun n c i hi a=>?_⟩;by_cases e:i=m
   ·subst e;exact g n (by omega)
   ·exact b n (by omega) i (by omega) a
  ·refine⟨N,fun n c i hi a=>?_⟩;by_cases e:i=m
   ·subst e;exact absurd a d
   ·exact b n c i (by omega) a
abbrev selB(j:qaB)(k:Nat):List Nat:=selN (toQ (linksL j.Ac) (lvJ j.Ac j.Av) (k:Int)) (lkB j.Ac)
def srcP(j:qaB)(k:Nat):List qi:=bif (srcV (srcO j.Ap (k:Int))).1 then[⟨(k:Int),[],0⟩] else[]
def snocP(i:Nat)(p:qi):qi:=⟨p.Bm,p.Bg++[(i:Int)],0⟩
def tailP(tl:List Int)(p:qi):qi:=⟨p.Bm,p.Bg++tl.reverse,0⟩
def legP(t:qq)(f:Nat->List qi)(ls:List qv)(i:Nat):List qi:=bif gt t.Bb (frN ls i) then(f (frN ls i)).map (snocP i) else[]
def aP(j:qaB)(t:qq):Nat->Nat->List qi
 |0,_=>[]
 |d+1,k=>srcP j k++(selB j k).flatMap (legP t (aP j t d) (linksL j.Ac))
theorem qpw{α β:Type}{xs:List α}{x:α}{f:α->List β}:(xs++[x]).flatMap f=xs.flatMap f++f x:=by simp
theorem qq2{α β:Type}{xs:List α}{f:α->List β}(j:Nat):((xs.take j).flatMap f).length<=(xs.flatMap f).length:=by
 have h:xs.flatMap f=(xs.take j).flatMap f++(xs.drop j).flatMap f:=by rw[<-Ji,Ja]
 rw[h,jg];omega
theorem qtq{β:Type}{q:Nat->Bool}{m:Nat}{f:Nat->List β}{i:Nat}(hi:i<=m):((selN q i).flatMap f).length<=((selN q m).flatMap f).length:=by
 induction m with
 |zero=>
  obtain rfl:i=0:=by omega
  exact je _
 |succ m ih=>
  by_cases e:i=m+1
  ·subst e;exact je _
  ·have:=ih (by omega);rw[qjz,Ji,jg];omega
theorem qrX{j:qaB}{t:qq}:∀d k p,p∈aP j t d k->p.Bg.length+1<=d
 |0,_,p,h=>by simp[aP] at h
 |d+1,k,p,h=>by
  simp only[aP,List.mem_append] at h;rcases h with h|h
  ·unfold srcP at h;cases hs:(srcV (srcO j.Ap (k:Int))).1<;>rw[hs] at h
   ·simp at h
   ·simp at h;subst h;simp
  ·obtain⟨x,_,a⟩:=List.mem_flatMap.1 h;unfold legP at a;cases hr:gt t.Bb (frN (linksL j.Ac) x)<;>rw[hr] at a
   ·simp at a
   ·simp only[cond_true] at a;obtain⟨c,b,rfl⟩:=List.mem_map.1 a;have:=qrX d _ c b;show(c.Bg++[(x:Int)]).length+1<=d+1;rw[jg,jo];omega
theorem qzv{i:Nat}{r4 x3:List qi}(h:r4.length<=1000000)(k:x3.length<=1000000)(d:∀p,p∈r4->p.Bg.length<=1000000):Ev (fun n=>qdB (i:Int) r4 n x3 0) (x3++r4.map (snocP i),(r4.length:Int)):=by
 have:=loopF (Lf:=fun n s x=>qdB (i:Int) r4 n s x) (S:=fun q=>x3++(r4.take q).map (snocP i)) (len:=r4.length) (fin:=(x3++r4.map (snocP i),(r4.length:Int)))
  (fun n=>by simp only[qdB,ql (je _),cond_false,jE])
  (fun q a X c=>by
   have f:gt r4 q∈r4:=by rw[qcw a];exact jp a
   have g:=d _ f;have e0:appS ([]:List Int) (gt r4 q).Bg=V (gt r4 q).Bg:=by rw[qbd (by rw[List.length_nil];omega),Jj]
   have e1:appS (gt r4 q).Bg [(i:Int)]=V ((gt r4 q).Bg++[(i:Int)]):=qbd (by rw[jo];omega);have b:appS (x3++(r4.take q).map (snocP i)) [(⟨(gt r4 q).Bm,(gt r4 q).Bg++[(i:Int)],0⟩:qi)]=V (x3++(r4.take (q+1)).map (snocP i)):=by
    rw[qbd (by rw[jg,ju,jw,jo];omega),js a,jQ,<-jq,qcw a]
    rfl
   simp only[qdB,qj a,cond_true,qz a,jd,e0,e1,b,wS q];exact c)
 simpa using this
theorem qzi{j:qaB}{t:qq}{k:Nat}{f:Nat->List qi}{x1:List qi}(J:blockB j.Ac=true)(S:TmOk t (ndB j.Ac))(B:x1.length+((selB j k).flatMap (legP t f (linksL j.Ac))).length<=1000000)(C:∀x,x∈selB j k->(f (frN (linksL j.Ac) x)).length<=1000000/\∀p,p∈f (frN (linksL j.Ac) x)->p.Bg.length<=1000000) :
  ∃N,∀n,N<=n->∀a:Option Tl20Work->Int->Option (List qi),(∀x,x∈selB j k->gt t.Bb (frN (linksL j.Ac) x)=true->a (swV j t) (frN (linksL j.Ac) x:Int)=V (f (frN (linksL j.Ac) x))) ->
   qbq a (swV j t) (k:Int) n x1 0=V (x1++(selB j k).flatMap (legP t f (linksL j.Ac)),(lkB j.Ac:Int)):=by
 have D:=qfN J;have O:=D.len;have u:(lvJ j.Ac j.Av).length=lkB j.Ac:=qmO;obtain⟨q,b⟩:∃q,q=toQ (linksL j.Ac) (lvJ j.Ac j.Av) (k:Int):=⟨_,rfl⟩;have h:=down (P:=fun i=>∃N,∀n,N<=n->∀a:Option Tl20Work->Int->Option (List qi),(∀x,x∈selB j k->gt t.Bb (frN (linksL j.Ac) x)=true->a (swV j t) (frN (linksL j.Ac) x:Int)=V (f (frN (linksL j.Ac) x))) ->
   qbq a (swV j t) (k:Int) n (x1++(selN q i).flatMap (legP t f (linksL j.Ac))) (i:Int)=V (x1++(selN q (lkB j.Ac)).flatMap (legP t f (linksL j.Ac)),(lkB j.Ac:Int))) (lkB j.Ac)
  ⟨1,fun n F a _=>by
   obtain⟨m,rfl⟩:∃m,n=m+1:=⟨n-1,by omega⟩;unfold swV;simp only[qbq,jd,ql (je _),cond_false]⟩
  (fun i hi T=>by
   obtain⟨N,A⟩:=T;obtain⟨e1,H⟩:=qkq D hi;have s:idx t.Bb (frN (linksL j.Ac) i:Int)=V (gt t.Bb (frN (linksL j.Ac) i)):=qz (by rw[S.r];exact H);have g:=qjz (q:=q) (j:=i);have L:=qtq (q:=q) (f:=legP t f (linksL j.Ac)) (show i<=lkB j.Ac by omega);have r:i<(linksL j.Ac).length:=hi;have l:(selN q (i+1)).flatMap (legP t f (linksL j.Ac))=(selN q i).flatMap (legP t f (linksL j.Ac))->∀m a,N<=m->(∀x,x∈selB j k->gt t.Bb (frN (linksL j.Ac) x)=true->a (swV j t) (frN (linksL j.Ac) x:Int)=V (f (frN (linksL j.Ac) x))) ->
     qbq a (swV j t) (k:Int) m (x1++(selN q i).flatMap (legP t f (linksL j.Ac))) ((i+1:Nat):Int)=V (x1++(selN q (lkB j.Ac)).flatMap (legP t f (linksL j.Ac)),(lkB j.Ac:Int)):=fun e m a Q c=>by
    have:=A m Q a c;rw[e] at this;exact this
   have d:∀m a x,qbq a (swV j t) (k:Int) (m+1) x (i:Int) =
     (bif !(q i&&gt t.Bb (frN (linksL j.Ac) i)) then qbq a (swV j t) (k:Int) m x ((i+1:Nat):Int) else
      (a (swV j t) (frN (linksL j.Ac) i:Int)).bind fun r4=>(qdB (i:Int) r4 m x 0).bind fun(x3,_)=>qbq a (swV j t) (k:Int) m x3 ((i+1:Nat):Int)):=fun m a x=>by
    rw[b];unfold toQ lvL toL;unfold swV;simp only[qbq,jd,qj r,cond_true,qz r,qz (show i<(lvJ j.Ac j.Av).length by rw[u];exact hi),e1,s,wS i];cases gt (lvJ j.Ac j.Av) i
    ·rfl
    ·simp only[Jg,cond_false,bne,jG];cases (gt (linksL j.Ac) i).To==(k:Int)
     ·rfl
     ·cases gt t.Bb (frN (linksL j.Ac) i)<;>rfl
   cases hqi:q i&&gt t.Bb (frN (linksL j.Ac) i)
   ·refine⟨N+1,fun n F a c=>?_⟩;obtain⟨m,rfl⟩:∃m,n=m+1:=⟨n-1,by omega⟩;rw[d,hqi];refine l ?_ m a (by omega) c;rw[g,Ji];cases hqq:q i
    ·simp
    ·rw[hqq] at hqi;simp only[jG] at hqi;simp[legP,hqi]
   ·rw[jf] at hqi;have I:(selN q (i+1)).flatMap (legP t f (linksL j.Ac))=(selN q i).flatMap (legP t f (linksL j.Ac))++(f (frN (linksL j.Ac) i)).map (snocP i):=by
     rw[g,hqi.1,Ji];simp[legP,hqi.2]
    have v:(x1++(selN q i).flatMap (legP t f (linksL j.Ac))).length<=1000000:=by
     rw[jg];unfold selB at B;rw[<-b] at B;omega
    obtain⟨M,K⟩:=qzv (i:=i) (r4:=f (frN (linksL j.Ac) i)) (x3:=x1++(selN q i).flatMap (legP t f (linksL j.Ac))) (C i (qfk.2 ⟨hi,by rw[<-b];exact hqi.1⟩)).1 v (C i (qfk.2 ⟨hi,by rw[<-b];exact hqi.1⟩)).2;refine⟨max N M+1,fun n F a c=>?_⟩;obtain⟨m,rfl⟩:∃m,n=m+1:=⟨n-1,by omega⟩;have R:=c i (qfk.2 ⟨hi,by rw[<-b];exact hqi.1⟩) hqi.2;have y:=K m (by omega);have z:=A m (by omega) a c;rw[I,<-jq] at z;simp only at y;rw[d,hqi.1,hqi.2,R];simp only[Bool.and_self,Jg,cond_false,jd];rw[y];exact z)
 rw[b] at h;simpa [selN] using h
def legT(t:qq)(f:Nat->List qi)(ls:List qv)(tl:List Int)(i:Nat):List qi:=bif gt t.Bb (frN ls i) then(f (frN ls i)).map (tailP (tl++[(i:Int)])) else[]
theorem qzP{t:qq}{f:Nat->List qi}{ls:List qv}{tl:List Int}{i:Nat}:legT t f ls tl i=(legP t f ls i).map (tailP tl):=by
 unfold legT legP;cases gt t.Bb (frN ls i)
 ·rfl
 ·simp only[cond_true,List.map_map];refine List.map_congr_left fun p _=>?_;simp[tailP,snocP]
theorem qzL{j:qaB}{t:qq}{R:List Nat}{k:Nat}{f:Nat->List qi}{x1:List qi}{tl:List Int}(C:blockB j.Ac=true)(H:TmOk t (ndB j.Ac))(I:tl.length<=1000000) :
  ∃N,∀n,N<=n->∀b:Option Twork->Int->List Int->List qi->Option (List qi),(∀i,∀hi:i<(selB j k).length,gt t.Bb (frN (linksL j.Ac) (selB j k)[i])=true->b (wkV j t R) (frN (linksL j.Ac) (selB j k)[i]:Int) (tl++[((selB j k)[i]:Int)]) (x1++((selB j k).take i).flatMap (legT t f (linksL j.Ac) tl))=V (x1++((selB j k).take (i+1)).flatMap (legT t f (linksL j.Ac) tl))) ->
   qaO (wkV j t R) tl b ⟨grB j.Ac j.Av,j,t,ints R⟩ (ints (selB j k)) n x1 0=V (x1++(selB j k).flatMap (legT t f (linksL j.Ac) tl),((selB j k).length:Int)):=by
 have v:=qfN C;have s:=v.len;have u:(selB j k).length<=10000:=jX qmB s;have a:∀x,x∈selB j k->x<lkB j.Ac:=fun x J=>(qfk.1 J).1;generalize selB j k=sl at u a;have p:=down (P:=fun i=>∃N,∀n,N<=n->∀b:Option Twork->Int->List Int->List qi->Option (List qi),(∀i,∀hi:i<sl.length,gt t.Bb (frN (linksL j.Ac) sl[i])=true->b (wkV j t R) (frN (linksL j.Ac) sl[i]:Int) (tl++[(sl[i]:Int)]) (x1++(sl.take i).flatMap (legT t f (linksL j.Ac) tl))=V (x1++(sl.take (i+1)).flatMap (legT t f (linksL j.Ac) tl))) ->
   qaO (wkV j t R) tl b ⟨grB j.Ac j.Av,j,t,ints R⟩ (ints sl) n (x1++(sl.take i).flatMap (legT t f (linksL j.Ac) tl)) (i:Int)=V (x1++sl.flatMap (legT t f (linksL j.Ac) tl),(sl.length:Int))) sl.length
  ⟨1,fun n F b _=>by
   obtain⟨m,rfl⟩:∃m,n=m+1:=⟨n-1,by omega⟩;simp only[qaO,qbQ,ql (je _),cond_false,jE]⟩
  (fun i hi K=>by
   obtain⟨N,D⟩:=K;have o:=qlX hi;have d:=a _ (jp hi);have l:sl.take (i+1)=sl.take i++[sl[i]]:=js hi;refine⟨N+1,fun n F b h=>?_⟩;obtain⟨m,rfl⟩:∃m,n=m+1:=⟨n-1,by omega⟩;have c:=D m (by omega) b h;have g:=h i hi;generalize sl[i]=y at o d l g;obtain⟨e1,z⟩:=qkq v d;have L:(viewV j.Ac).links=linksL j.Ac:=rfl;have r:idx t.Bb (frN (linksL j.Ac) y:Int)=V (gt t.Bb (frN (linksL j.Ac) y)):=qz (by rw[H.r];exact z);have A:appS tl [(y:Int)]=V (tl++[(y:Int)]):=qbd (by rw[jo];omega);have B:appS ([]:List Int) tl=V tl:=by rw[qbd (by rw[List.length_nil];omega),Jj]
   have i1:idx (viewV j.Ac).links (y:Int)=V (gt (linksL j.Ac) y):=qz d;simp only[qaO,qbQ,qj hi,cond_true,o,jd,grB,i1,e1,r,qdp,B,A,wS i];cases hr:gt t.Bb (frN (linksL j.Ac) y)
   ·simp only[cond_false];rw[l,Ji] at c;simp only[List.flatMap_cons,List.flatMap_nil,jW] at c;unfold legT at c;rw[hr] at c;simp only[cond_false,jW] at c;exact c
   ·simp only[cond_true];rw[g hr];simp only[jd];exact c)
 simpa using p

section
variable{j:qaB}{t:qq}{R:List Nat}{c:List Int}
theorem qiF(c:WkOk j t R){i:Nat}(hi:i<R.length){x:Nat}(d:x∈selB j R[i]):x<lkB j.Ac/\∃i',∃hi':i'<R.length,i'<i/\R[i']=frN (linksL j.Ac) x:=by
 obtain⟨x1,a⟩:=qfk.1 d;obtain⟨f,g,k3⟩:=c.tg.ord.at hi;unfold toQ at a;rw[jf,beq_iff_eq] at a;have:=qlg.1 k3 x x1 a.1 a.2;obtain⟨e1,_⟩:=qkq (qfN c.tg.bl) x1;rw[show frL (linksL j.Ac) x=(frN (linksL j.Ac) x:Int) from e1,qhV] at this;obtain⟨q,b,eq⟩:=List.mem_iff_getElem.1 this;rw[jw] at b;rw[jZ] at eq;exact⟨x1,q,by omega,by omega,eq⟩
theorem qu2{g:Nat->Int}:∀(l:List Nat) (a:Int),(∀x,x∈l->0<=g x/\g x<=1000000)->0<=a->a<=1000000 ->
  a<=l.foldl (fun v k=>mn6 (W64 (v+g k))) a/\l.foldl (fun v k=>mn6 (W64 (v+g k))) a<=1000000/\(l.foldl (fun v k=>mn6 (W64 (v+g k))) a<=300->l.foldl (fun v k=>mn6 (W64 (v+g k))) a=a+(l.map g).sum)
 | [],a,_,_,h1=>by simpa using h1
 |x::l,a,hg,h0,h1=>by
  obtain⟨n,o⟩:=hg x (jx ..);have c:W64 (a+g x)=a+g x:=qaw (by omega) (by omega);have b:a<=mn6 (W64 (a+g x))/\mn6 (W64 (a+g x))<=1000000/\(mn6 (W64 (a+g x))<=300->mn6 (W64 (a+g x))=a+g x):=by
   rw[c];unfold mn6;split<;>refine⟨by omega,by omega,fun _=>by omega⟩
  obtain⟨p,f,i⟩:=qu2 l (mn6 (W64 (a+g x))) (fun y d=>hg y (jn _ d)) (by omega) b.2.1;simp only[List.foldl_cons,Jb,List.sum_cons];refine⟨by omega,f,fun h=>?_⟩;have e1:=i h;have m:=b.2.2 (by omega);omega
theorem qyr{g:Nat->Int}:∀(l:List Nat),(∀x,x∈l->0<=g x)->0<=(l.map g).sum/\∀x,x∈l->g x<=(l.map g).sum
 | [],_=>⟨by simp,fun x h=>by cases h⟩
 |y::l,hg=>by
  obtain⟨a,b⟩:=qyr l fun x h=>hg x (jn _ h);have:=hg y (jx ..);simp only[Jb,List.sum_cons];refine⟨by omega,fun x c=>?_⟩;rcases List.mem_cons.1 c with rfl|c
  ·omega
  ·have:=b x c;omega
theorem qwo{β:Type}{g:Nat->Int}{f:Nat->List β}:∀(l:List Nat),(∀x,x∈l->((f x).length:Int)<=g x)->((l.flatMap f).length:Int)<=(l.map g).sum
 | [],_=>by simp
 |y::l,h=>by
  have a:=qwo l fun x c=>h x (jn _ c);have b:=h y (jx ..);simp only[List.flatMap_cons,jg,Jb,List.sum_cons];omega
theorem qwn{β:Type}{g:Nat->Int}{f:Nat->List β}:∀(l:List Nat),(∀x,x∈l->((f x).length:Int)=g x)->((l.flatMap f).length:Int)=(l.map g).sum
 | [],_=>by simp
 |y::l,h=>by
  have a:=qwn l fun x c=>h x (jn _ c);have b:=h y (jx ..);simp only[List.flatMap_cons,jg,Jb,List.sum_cons];omega
def CtOk(j:qaB)(c:List Int):Prop:=∀k,k<ndB j.Ac->gt c k=ctS (linksL j.Ac) (lvJ j.Ac j.Av) c (k:Int) (st0 j (k:Int)) (lkB j.Ac)
theorem qy0{k:Int}:0<=st0 j k/\st0 j k<=1:=by
 unfold st0;cases (srcV (srcO j.Ap k)).1<;>simp
theorem qtU{k:Nat}:((srcP j k).length:Int)=st0 j (k:Int):=by
 unfold st0 srcP;cases (srcV (srcO j.Ap (k:Int))).1<;>simp
theorem qt1(d:WkOk j t R)(f:CtOk j c):∀m i,∀hi:i<R.length,i<m->0<=gt c R[i]/\gt c R[i]<=1000000/\(gt c R[i]<=300->gt c R[i]=st0 j (R[i]:Int)+((selB j R[i]).map fun x=>gt c (frN (linksL j.Ac) x)).sum/\∀x,x∈selB j R[i]->gt c (frN (linksL j.Ac) x)<=300)
 |0,_,_,h=>absurd h (Jk _)
 |m+1,i,hi,h=>by
  have s:R[i]<ndB j.Ac:=(d.tg.ord.at hi).1;have l:∀x,x∈selB j R[i]->0<=gt c (frN (linksL j.Ac) x)/\gt c (frN (linksL j.Ac) x)<=1000000:=fun x a=>by
   obtain⟨_,y,b,u,e⟩:=qiF d hi a;have:=qt1 d f m y b (by omega);rw[e] at this;exact⟨this.1,this.2.1⟩
  have e:=f R[i] s;have v:=qy0 (j:=j) (k:=(R[i]:Int));obtain⟨z,n,o⟩:=qu2 (g:=fun x=>gt c (frN (linksL j.Ac) x)) (selB j R[i]) (st0 j (R[i]:Int)) l v.1 (by omega);unfold ctS at e;rw[<-e] at z n o;refine⟨by omega,n,fun r=>?_⟩;have p:=o r;obtain⟨s0,A⟩:=qyr (g:=fun x=>gt c (frN (linksL j.Ac) x)) (selB j R[i]) fun x a=>(l x a).1;exact⟨p,fun x a=>by have:=A x a;omega⟩
theorem qtB(m:WkOk j t R)(n:CtOk j c):∀d i,∀hi:i<R.length,i<d->gt c R[i]<=300->((aP j t d R[i]).length:Int)<=gt c R[i]
 |0,_,_,h,_=>absurd h (Jk _)
 |d+1,i,hi,h,h3=>by
  obtain⟨e,o⟩:=(qt1 m n (i+1) i hi (by omega)).2.2 h3;have:=qwo (g:=fun x=>gt c (frN (linksL j.Ac) x)) (f:=legP t (aP j t d) (linksL j.Ac)) (selB j R[i]) fun x s=>by
   obtain⟨_,p,l,u,r⟩:=qiF m hi s;have a:=qtB m n d p l (by omega) (by rw[r];exact o x s);have b:=(qt1 m n (p+1) p l (by omega)).1;rw[r] at a b;unfold legP;cases gt t.Bb (frN (linksL j.Ac) x)
   ·simpa using b
   ·simpa using a
  simp only[aP,jg];have:=qtU (j:=j) (k:=R[i]);omega
theorem qx9(h:qjl j)(u:WkOk j t R)(H:CtOk j c):∀d i,∀hi:i<R.length,i<d->d<=1000->gt c R[i]<=300 ->
  Ev (fun n=>qcF n (swV j t) (R[i]:Int)) (aP j t d R[i]) /\
  ∀tl g,tl.length+i<=1000->g.length+(aP j t d R[i]).length<=1000->Ev (fun n=>qaD n (wkV j t R) (R[i]:Int) tl g) (g++(aP j t d R[i]).map (tailP tl))
 |0,_,_,h,_,_=>absurd h (Jk _)
 |d+1,i,hi,hid,hd,h3=>by
  have K:=u.tg.bl;have Y:=qfN K;have T:(lvJ j.Ac j.Av).length=lkB j.Ac:=qmO;have y:=((qt1 u H (i+1) i hi (by omega)).2.2 h3).2;have C:=qtB u H (d+1) i hi hid h3;have I:∀x,x∈selB j R[i]->∃r,∃m:r<R.length,r<i/\R[r]=frN (linksL j.Ac) x/\(aP j t d (frN (linksL j.Ac) x)).length<=300 /\
    Ev (fun n=>qcF n (swV j t) (frN (linksL j.Ac) x:Int)) (aP j t d (frN (linksL j.Ac) x)) /\
    ∀tl g,tl.length+r<=1000->g.length+(aP j t d (frN (linksL j.Ac) x)).length<=1000->Ev (fun n=>qaD n (wkV j t R) (frN (linksL j.Ac) x:Int) tl g) (g++(aP j t d (frN (linksL j.Ac) x)).map (tailP tl)):=fun x o=>by
   obtain⟨_,r,m,D,e⟩:=qiF u hi o;have a:=qx9 h u H d r m (by omega) (by omega) (by rw[e];exact y x o);have b:=qtB u H d r m (by omega) (by rw[e];exact y x o);have b3:=y x o;rw[e] at a b;exact⟨r,m,D,e,by omega,a⟩
  have J:aP j t (d+1) R[i]=srcP j R[i]++(selB j R[i]).flatMap (legP t (aP j t d) (linksL j.Ac)):=rfl;rw[J,jg] at C;generalize R[i]=k at I C J h3;rw[J];constructor
  ·refine Ev.succ ?_;simp only[qcF];refine Ev.bind (qmT h.Ap.len) (Ev.bind (b:=srcP j k) (Ev.now ?_) ?_)
   ·unfold srcP;cases (srcV (srcO j.Ap (k:Int))).1
    ·rfl
    ·simp only[cond_true];rw[qbd (by simp)]
     rfl
   ·obtain⟨N,O⟩:=qzi (k:=k) (f:=aP j t d) (x1:=srcP j k) K u.tm (by omega) (fun x o=>by
     obtain⟨_,_,_,_,hl,_⟩:=I x o;refine⟨by omega,fun p hp=>?_⟩;have:=qrX d _ p hp;omega)
    obtain⟨M,L⟩:=qvE (Q:=fun x=>x∈selB j k) (f:=fun x n=>qcF n (swV j t) (frN (linksL j.Ac) x:Int)) (v:=fun x=>aP j t d (frN (linksL j.Ac) x)) (lkB j.Ac) fun x _ o=>by
     obtain⟨_,_,_,_,_,hs,_⟩:=I x o;exact hs
    refine⟨max N M,fun n hn=>?_⟩;show(qbq (qcF n) (swV j t) (k:Int) n (srcP j k) 0).bind _=_;rw[O n (by omega) _ fun x o _=>L n (by omega) x (qfk.1 o).1 o]
    rfl
  ·intro tl g htl A;rw[jg] at A;have z:∀l:List Nat,l.flatMap (legT t (aP j t d) (linksL j.Ac) tl)=(l.flatMap (legP t (aP j t d) (linksL j.Ac))).map (tailP tl):=fun l=>by
    rw[List.map_flatMap];exact congrArg (fun f=>l.flatMap f) (funext fun x=>qzP)
   refine Ev.succ ?_;simp only[qaD];refine Ev.bindN (x:=wkV j t R) (b:=⟨grB j.Ac j.Av,j,t,ints R⟩) Z ?_;show Ev (fun n=>(qdz n j.Ap (k:Int)).bind _) _;refine Ev.bind (qo8 h.Ap.len) (Ev.bind (b:=g++(srcP j k).map (tailP tl)) ?_ ?_)
   ·have hsl:=qtU (j:=j) (k:=k);have hs1:=qy0 (j:=j) (k:=(k:Int));unfold srcP;cases (srcV (srcO j.Ap (k:Int))).1
    ·refine Ev.ff Z (Ev.now ?_);simp
    ·refine Ev.tt Z (Ev.bind (b:=tl) (Ev.now ?_) (Ev.bind (b:=tl.reverse) (Ev.now Z) (Ev.bind (b:=g++[(⟨(k:Int),tl.reverse,0⟩:qi)]) (Ev.now ?_) .done)))
     ·show appS [] tl=V tl;rw[qbd (by simp;omega),Jj]
     ·exact qbd (by rw[jo];omega)
   ·refine Ev.bind (qxO (b:=j.Ac) (lv:=lvJ j.Ac j.Av) (ps:=places j.Ac.Aa) (lo:=pre (load0 j.Ac) j.Ac.Ah.length) (de:=pre (exactL j.Ac) j.Ac.Ah.length) (ex:=[]) (node:=(k:Int)) Y T) ?_;obtain⟨N,O⟩:=qzL (R:=R) (k:=k) (f:=aP j t d) (x1:=g++(srcP j k).map (tailP tl)) (tl:=tl) K u.tm (by omega);obtain⟨M,L⟩:=qvE (Q:=fun q=>∃s:q<(selB j k).length,gt t.Bb (frN (linksL j.Ac) (selB j k)[q])=true)
     (f:=fun q n=>qaD n (wkV j t R) (frN (linksL j.Ac) (gt (selB j k) q):Int) (tl++[((gt (selB j k) q:Nat):Int)]) (g++(srcP j k).map (tailP tl)++((selB j k).take q).flatMap (legT t (aP j t d) (linksL j.Ac) tl)))
     (v:=fun q=>g++(srcP j k).map (tailP tl)++((selB j k).take (q+1)).flatMap (legT t (aP j t d) (linksL j.Ac) tl)) (selB j k).length fun q hq0 ⟨s,W⟩=>by
      have F:(selB j k).take (q+1)=(selB j k).take q++[(selB j k)[q]]:=js s;have B:=qq2 (xs:=selB j k) (f:=legT t (aP j t d) (linksL j.Ac) tl) (q+1);rw[z (selB j k),ju,F,qpw,jg] at B;have hm:=jp s;have e0:=qcw s;obtain⟨r,m,D,e,hl,_,S⟩:=I _ hm;have X:legT t (aP j t d) (linksL j.Ac) tl (selB j k)[q]=(aP j t d (frN (linksL j.Ac) (selB j k)[q])).map (tailP (tl++[((selB j k)[q]:Int)])):=by unfold legT;rw[W];rfl
      rw[X,ju] at B;have:=S (tl++[((selB j k)[q]:Int)]) (g++(srcP j k).map (tailP tl)++((selB j k).take q).flatMap (legT t (aP j t d) (linksL j.Ac) tl)) (by rw[jg,jo];omega) (by rw[jg,jg,ju];omega);rw[F,qpw,X,<-jq,e0];exact this
    refine⟨max N M,fun n hn=>?_⟩;have P:=O n (by omega) (qaD n) fun q s W=>by
     have:=L n (by omega) q s ⟨s,W⟩;rw[qcw s] at this;exact this
    show(qaO (wkV j t R) tl (qaD n) ⟨grB j.Ac j.Av,j,t,ints R⟩ (ints (selB j k)) n (g++(srcP j k).map (tailP tl)) 0).bind _=_;rw[P,z,jq,<-jQ]
    rfl
theorem qww{xs a:List Int}{q:Nat}(h:q<xs.length):at0 (xs++a) q=at0 xs q:=by
 unfold at0;rw[jC,jC,jy h]
theorem quu{xs:List Int}{y:Int}:at0 (xs++[y]) xs.length=y:=by
 unfold at0;rw[jC,jA (je _),Nat.sub_self]
 rfl
theorem qwt{ls:List qv}{start:Int}{path a:List Int}:∀q,q<=path.length->atP ls start (path++a) q=atP ls start path q
 |0,_=>rfl
 |q+1,h=>by
  show(gt ls (at0 (path++a) q).toNat).To=(gt ls (at0 path q).toNat).To;rw[qww (by omega)]
theorem qwR(g:WkOk j t R){k x:Nat}{start:Int}{path:List Int}(b:pathB j start path=true)(d:endB j start path=(frN (linksL j.Ac) x:Int))(h:x∈selB j k) :
  pathB j start (path++[(x:Int)])=true/\endB j start (path++[(x:Int)])=(k:Int):=by
 obtain⟨x1,c⟩:=qfk.1 h;unfold toQ lvL toL at c;rw[jf,beq_iff_eq] at c;obtain⟨e1,_⟩:=qkq (qfN g.tg.bl) x1;unfold pathB at b⊢;rw[jf,qap] at b;constructor
 ·rw[jf,qap];refine⟨b.1,fun q f=>?_⟩;rw[jg,jo] at f;by_cases a:q<path.length
  ·have:=b.2 q a;unfold okP at this⊢;rw[qww a,qwt q (by omega)];exact this
  ·obtain rfl:q=path.length:=by omega
   unfold okP;rw[quu,qwt _ (je _),jr,c.1,e1];unfold endB at d;rw[d];have:inI (x:Int) 0 (((linksL j.Ac).length:Int)-1)=true:=qa9.2 ⟨by omega,by have:x<(linksL j.Ac).length:=x1;omega⟩;rw[this];simp
 ·unfold endB;rw[jg,jo];show(gt (linksL j.Ac) (at0 (path++[(x:Int)]) path.length).toNat).To=(k:Int);rw[quu,jr];exact c.2
theorem qwv(i:WkOk j t R):∀d k p,p∈aP j t d k->pathB j p.Bm p.Bg=true/\endB j p.Bm p.Bg=(k:Int)/\p.Ai=0
 |0,_,p,h=>by simp[aP] at h
 |d+1,k,p,h=>by
  simp only[aP,List.mem_append] at h;rcases h with h|h
  ·unfold srcP at h;cases hs:(srcV (srcO j.Ap (k:Int))).1<;>rw[hs] at h
   ·simp at h
   ·simp only[cond_true,List.mem_singleton] at h;subst h;refine⟨?_,rfl,rfl⟩;unfold pathB;rw[hs]
    rfl
  ·obtain⟨x,g,c⟩:=List.mem_flatMap.1 h;unfold legP at c;cases hr:gt t.Bb (frN (linksL j.Ac) x)<;>rw[hr] at c
   ·simp at c
   ·simp only[cond_true] at c;obtain⟨l,f,rfl⟩:=List.mem_map.1 c;obtain⟨a,b,_⟩:=qwv i d _ l f;have:=qwR i a b g;exact⟨this.1,this.2,rfl⟩
end
end Go.Fw


namespace Go.Fw
open Go Go.Sort
set_option maxRecDepth 100000
theorem qmy{n:Nat}{x y:Int}:qci n x y=V (ordI x y):=by
 unfold qci qfI ordI;simp only[bne_self_eq_false,jd,cond_false];by_cases a:x<y
 ·simp[a]
 ·by_cases b:y<x<;>simp[a,b]
theorem qyg{xs b:List Int}(v:xs.length<=1000000):Ev (fun n=>qdL n xs b) (cmpLk xs b):=by
 have k:∀d i,i+d=xs.length->i<=b.length->∃o,Ev (fun n=>qax xs b n (i:Int)) o /\
   match o with|.ret r=>r=cmpLk (xs.drop i) (b.drop i)|.nxt _=>cmpLk (xs.drop i) (b.drop i)=if xs.length<b.length then -1 else 0:=by
  intro d
  induction d with
  |zero=>
   intro i hi u;obtain rfl:i=xs.length:=by omega
   refine⟨.nxt (xs.length:Int),Ev.succ ?_,?_⟩
   ·simp only[qax,ql (je _),cond_false];exact .done
   ·simp only[List.drop_length];have f:(b.drop xs.length).length=b.length-xs.length:=List.length_drop;cases h:b.drop xs.length with
    |nil=>rw[h] at f;simp at f;rw[if_neg (by omega)];rfl
    |cons a l=>rw[h] at f;simp at f;rw[if_pos (by omega)];rfl
  |succ d ih=>
   intro i hi u;have c:i<xs.length:=by omega
   have ex:xs.drop i=xs[i]::xs.drop (i+1):=jB c;by_cases p:i<b.length
   ·have t:b.drop i=b[i]::b.drop (i+1):=jB p;by_cases m:ordI xs[i] b[i]=0
    ·obtain⟨o,s,g⟩:=ih (i+1) (by omega) (by omega);refine⟨o,Ev.succ ?_,?_⟩
     ·simp only[qax,qj c,cond_true,qee c,jd,wS i];refine Ev.ff (decide_eq_false (by omega)) (Ev.bindN (qee p) (Ev.bind (.now (qmy (n:=0))) (Ev.ff (by rw[m];rfl) s)))
     ·rw[ex,t];simp only[cmpLk,m,if_true];exact g
    ·refine⟨.ret (ordI xs[i] b[i]),Ev.succ ?_,?_⟩
     ·simp only[qax,qj c,cond_true,qee c,jd];exact Ev.ff (decide_eq_false (by omega)) (Ev.bindN (qee p) (Ev.bind (.now (qmy (n:=0))) (Ev.tt (by simpa using m) .done)))
     ·rw[ex,t];simp only[cmpLk,m,if_false]
   ·refine⟨.ret 1,Ev.succ ?_,?_⟩
    ·simp only[qax,qj c,cond_true,qee c,jd];exact Ev.tt (decide_eq_true (by omega)) .done
    ·rw[ex,show b.drop i=[] from List.drop_of_length_le (by omega)]
     rfl
 obtain⟨o,s,g⟩:=k xs.length 0 (by omega) (Nat.zero_le _);unfold qdL;refine Ev.bind s ?_;cases o with
 |ret r=>simp only[List.drop_zero] at g;subst g;exact .done
 |nxt i=>
  simp only[List.drop_zero] at g;rw[g];by_cases f:xs.length<b.length
  ·rw[if_pos f];exact Ev.tt (decide_eq_true (by omega)) .done
  ·rw[if_neg f];exact Ev.ff (decide_eq_false (by omega)) .done
theorem quE{a b:Int}:Ev (fun n=>qjo n ([a,b]:List Int)) (if a=0 then b else a):=by
 unfold qjo;by_cases c:a=0
 ·by_cases d:b=0
  ·refine Ev.bind (b:=.nxt 2) (Ev.succ ?_) ?_
   ·simp only[qco];refine Ev.tt Z (Ev.bindN (b:=a) Z (Ev.ff (by simpa using c) (Ev.succ ?_)));simp only[qco];refine Ev.tt Z (Ev.bindN (b:=b) Z (Ev.ff (by simpa using d) (Ev.succ ?_)));simp only[qco];exact Ev.ff Z .done
   ·rw[if_pos c,d];exact .done
  ·refine Ev.bind (b:=.ret b) (Ev.succ ?_) ?_
   ·simp only[qco];refine Ev.tt Z (Ev.bindN (b:=a) Z (Ev.ff (by simpa using c) (Ev.succ ?_)));simp only[qco];exact Ev.tt Z (Ev.bindN (b:=b) Z (Ev.tt (by simpa using d) .done))
   ·rw[if_pos c];exact .done
 ·refine Ev.bind (b:=.ret a) (Ev.succ ?_) ?_
  ·simp only[qco];exact Ev.tt Z (Ev.bindN (b:=a) Z (Ev.tt (by simpa using c) .done))
  ·rw[if_neg c];exact .done
def ordR':qi->qi->Int:=lexC (fun p q=>ordI p.Bm q.Bm) fun p q=>cmpLk p.Bg q.Bg
theorem qq5{p q:qi}(a:p.Bg.length<=1000000):Ev (fun n=>qfi n p q) (ordR' p q):=by
 unfold qfi;exact Ev.bind (.now (qmy (n:=0))) (Ev.bind (qyg a) (Ev.bind quE .done))
theorem qoR{n:Nat}{p q:qi}{mode:Int}:qdJ n p.Ai q.Ai mode=V (ordA mode p q):=by
 unfold qdJ ordA;by_cases h:mode=1
 ·simp only[h,beq_self_eq_true,cond_true,qmy,jd,if_true]
 ·have:(mode==1)=false:=by simpa using h
  simp only[this,cond_false,qmy,jd,h,if_false]
theorem qr8{p q:qi}{mode:Int}(a:p.Bg.length<=1000000):Ev (fun n=>qdm n p q mode) (ordP mode p q):=by
 unfold qdm;exact Ev.bind (.now (qoR (n:=0))) (Ev.bind (qq5 a) (Ev.bind quE .done))
theorem qwl{α β:Type}{f:α->Nat->Option β}{v:α->β}:∀l:List α,(∀x,x∈l->Ev (f x) (v x))->∃N,∀n,N<=n->∀x,x∈l->f x n=V (v x)
 | [],_=>⟨0,fun _ _ x h=>by cases h⟩
 |y::l,h=>by
  obtain⟨N,c⟩:=qwl l fun x a=>h x (jn _ a);obtain⟨M,b⟩:=h y (jx ..);refine⟨max N M,fun n d x a=>?_⟩;rcases List.mem_cons.1 a with rfl|a
  ·exact b n (by omega)
  ·exact c n (by omega) x a
theorem quB{α β:Type}{f:α->α->Nat->Option β}{v:α->α->β}{m:List α}:∀l:List α,(∀x,x∈l->∀y,y∈m->Ev (f x y) (v x y))->∃N,∀n,N<=n->∀x,x∈l->∀y,y∈m->f x y n=V (v x y)
 | [],_=>⟨0,fun _ _ x h=>by cases h⟩
 |z::l,h=>by
  obtain⟨N,c⟩:=quB l fun x a=>h x (jn _ a);obtain⟨M,b⟩:=qwl m (h z (jx ..));refine⟨max N M,fun n d x a=>?_⟩;rcases List.mem_cons.1 a with rfl|a
  ·exact b n (by omega)
  ·exact c n (by omega) x a
def srtP(mode:Int)(xs:List qi):List qi:=xs.mergeSort (leF (ordP mode))
theorem qya{xs:List qi}{mode:Int}(i:xs.length<=1000000)(c:∀p,p∈xs->p.Bg.length<=1000000):Ev (fun n=>sortP n xs mode) (srtP mode xs):=by
 have b:∀p,p∈(GoT.zero:qi)::xs->p.Bg.length<=1000000:=fun p a=>by
  rcases List.mem_cons.1 a with rfl|a
  ·exact Nat.zero_le _
  ·exact c p a
 obtain⟨N,d⟩:=quB (f:=fun p q n=>qdm n p q mode) (v:=fun p q=>ordP mode p q) (m:=(GoT.zero:qi)::xs) ((GoT.zero:qi)::xs) fun p a q _=>qr8 (b p a);refine⟨N,fun n g=>?_⟩;show sortP n xs mode=_;unfold sortP;rw[if_pos ⟨by omega,fun p a q h=>d n g p a q h⟩]
 rfl
theorem qza{p q:qi}(z:p.Bg.length<=1000000):Ev (fun n=>qkQ n p q) (decide (ordR' p q<0)):=by
 have k:∀d i,i+d=p.Bg.length->i<=q.Bg.length->∃o,Ev (fun n=>qda p q n (i:Int)) o /\
   match o with|.ret r=>r=decide (cmpLk (p.Bg.drop i) (q.Bg.drop i)<0)|.nxt _=>decide (cmpLk (p.Bg.drop i) (q.Bg.drop i)<0)=decide ((p.Bg.length:Int)<(q.Bg.length:Int)):=by
  intro d
  induction d with
  |zero=>
   intro i hi y;obtain rfl:i=p.Bg.length:=by omega
   refine⟨.nxt (p.Bg.length:Int),Ev.succ ?_,?_⟩
   ·simp only[qda,ql (je _),cond_false,jd];exact .done
   ·simp only[List.drop_length];have s:(q.Bg.drop p.Bg.length).length=q.Bg.length-p.Bg.length:=List.length_drop;cases h:q.Bg.drop p.Bg.length with
    |nil=>rw[h] at s;simp at s;simp only[cmpLk];simp;omega
    |cons a l=>rw[h] at s;simp at s;simp only[cmpLk];simp;omega
  |succ d ih=>
   intro i hi y;have b:i<p.Bg.length:=by omega
   have ex:p.Bg.drop i=p.Bg[i]::p.Bg.drop (i+1):=jB b;by_cases g:i<q.Bg.length
   ·have x:q.Bg.drop i=q.Bg[i]::q.Bg.drop (i+1):=jB g;by_cases t:p.Bg[i]=q.Bg[i]
    ·obtain⟨o,u,f⟩:=ih (i+1) (by omega) (by omega);have hz:ordI p.Bg[i] q.Bg[i]=0:=by unfold ordI;rw[if_neg (by omega),if_neg (by omega)]
     refine⟨o,Ev.succ ?_,?_⟩
     ·simp only[qda,qj b,qj g,cond_true,jd,qee b,qee g,wS i];exact Ev.ff (by simpa using t) u
     ·rw[ex,x];simp only[cmpLk,hz,if_true];exact f
    ·have hz:ordI p.Bg[i] q.Bg[i]≠0:=fun e=>t (qnZ e);refine⟨.ret (decide (p.Bg[i]<q.Bg[i])),Ev.succ ?_,?_⟩
     ·simp only[qda,qj b,qj g,cond_true,jd,qee b,qee g];exact Ev.tt (by simpa using t) .done
     ·rw[ex,x];simp only[cmpLk,hz,if_false];unfold ordI;by_cases c:p.Bg[i]<q.Bg[i]
      ·simp[c]
      ·rw[if_neg c];by_cases m:q.Bg[i]<p.Bg[i]
       ·simp[c,m]
       ·simp[c,m]
   ·refine⟨.nxt (i:Int),Ev.succ ?_,?_⟩
    ·simp only[qda,qj b,cond_true,ql (show q.Bg.length<=i by omega),jd,cond_false];exact .done
    ·rw[ex,show q.Bg.drop i=[] from List.drop_of_length_le (by omega)];simp only[cmpLk];simp;omega
 unfold qkQ ordR' lexC;by_cases v:p.Bm=q.Bm
 ·have hz:ordI p.Bm q.Bm=0:=by unfold ordI;rw[if_neg (by omega),if_neg (by omega)]
  obtain⟨o,u,f⟩:=k p.Bg.length 0 (by omega) (Nat.zero_le _);refine Ev.ff (by simpa using v) (Ev.bind u ?_);simp only[hz,if_true];simp only[List.drop_zero] at f;cases o with
  |ret r=>simp only at f;subst f;exact .done
  |nxt i=>simp only at f;rw[f];exact .done
 ·refine Ev.tt (by simpa using v) (.now ?_);have hz:ordI p.Bm q.Bm≠0:=fun e=>v (qnZ e);simp only[hz,if_false];unfold ordI;by_cases c:p.Bm<q.Bm
  ·simp[c]
  ·rw[if_neg c];by_cases m:q.Bm<p.Bm<;>simp[c,m]
theorem qxr{p q:qi}{mode:Int}(d:modeB mode=true)(f:p.Bg.length<=1000000):Ev (fun n=>qiP n p q mode) (decide (ordP mode p q<0)):=by
 unfold qiP ordP;show Ev _ (decide (lexC (ordA mode) ordR' p q<0));unfold lexC;by_cases b:p.Ai=q.Ai
 ·have hz:ordA mode p q=0:=by unfold ordA ordI;rw[b];simp
  refine Ev.ff (by simpa using b) ?_;simp only[hz,if_true];exact Ev.bind (qza f) .done
 ·refine Ev.tt (by simpa using b) (.now ?_);have hz:ordA mode p q≠0:=by
   unfold ordA;split
   ·exact fun e=>b (qnZ e).symm
   ·exact fun e=>b (qnZ e)
  simp only[hz,if_false];unfold ordA ordI;rcases qpJ d with rfl|rfl
  ·by_cases c:p.Ai<q.Ai
   ·have a:¬ q.Ai<p.Ai:=by omega
    simp[c,a]
   ·have a:q.Ai<p.Ai:=by omega
    simp[c,a]
  ·by_cases c:p.Ai<q.Ai
   ·have a:¬ q.Ai<p.Ai:=by omega
    simp[c,a]
   ·have a:q.Ai<p.Ai:=by omega
    simp[a]
def posE(mode:Int)(y:qi)(x:List qi):Nat->Nat
 |0=>0
 |i+1=>if ordP mode y (gt x i)<0 then posE mode y x i else i+1
theorem qtF{mode:Int}{y:qi}{x:List qi}:∀i,posE mode y x i<=i
 |0=>je _
 |i+1=>by
  simp only[posE];split
  ·exact Nat.le_succ_of_le (qtF i)
  ·exact je _
theorem qrw{mode:Int}{y:qi}{x:List qi}:∀i q,posE mode y x i<=q->q<i->ordP mode y (gt x q)<0
 |0,q,_,h=>absurd h (Jk _)
 |i+1,q,h1,h2=>by
  simp only[posE] at h1;split at h1
  ·rename_i hh
   by_cases e:q=i
   ·subst e;exact hh
   ·exact qrw i q h1 (by omega)
  ·omega
theorem qqx{mode:Int}{y:qi}{x:List qi}:∀i q,posE mode y x i=q+1->¬ ordP mode y (gt x q)<0
 |0,q,h=>by simp[posE] at h
 |i+1,q,h=>by
  simp only[posE] at h;split at h
  ·exact qqx i q h
  ·rename_i hh
   obtain rfl:i=q:=by omega
   exact hh
theorem qwg{list x:List qi}{mode:Int}{i1:Nat}(c:modeB mode=true)(hi:i1<list.length)(b:(gt list i1).Bg.length<=1000000)(d:x.length<=1000000):∀i,i<=x.length->Ev (fun n=>qdU list mode x (i1:Int) n (i:Int)) ((posE mode (gt list i1) x i:Nat):Int)
 |0,_=>by
  refine Ev.succ ?_;simp only[qdU];exact Ev.ff Z .done
 |i+1,h=>by
  have e1:W64 (((i+1:Nat):Int)-1)=(i:Int):=by rw[qaw (by omega) (by omega)];omega
  refine Ev.succ ?_;simp only[qdU,e1];refine Ev.tt (decide_eq_true (by omega)) (Ev.bindN (qz hi) (Ev.bindN (qz (show i<x.length by omega)) (Ev.bind (qxr c b) ?_)));simp only[posE];by_cases a:ordP mode (gt list i1) (gt x i)<0
  ·rw[if_pos a];exact Ev.tt (decide_eq_true a) (qwg c hi b d i (by omega))
  ·rw[if_neg a];exact Ev.ff (decide_eq_false a) .done
theorem qrb{mode:Int}{a b:qi}:leF (ordP mode) a b=true↔¬ ordP mode b a<0:=by simp[leF]
theorem qqs{mode:Int}{xs:List qi}:(srtP mode xs).Pairwise fun a b=>leF (ordP mode) a b=true:=by
 have f:=(qrr mode).swo;refine List.pairwise_mergeSort ?_ ?_ _
 ·intro a b c g d;simp only[leF,jI] at g d⊢;exact f.ntrans c b a d g
 ·intro a b;cases hh:decide (ordP mode b a<0) with
  |false=>simp[leF,hh]
  |true=>
   have:decide (ordP mode a b<0)=false:=by
    cases d:decide (ordP mode a b<0) with
    |false=>rfl
    |true=>
     have:=f.trans a b a d hh;rw[f.irrefl a] at this;cases this
   simp[leF,this]
theorem qxi{mode:Int}{xs c:List qi}(h:c.Pairwise fun a b=>leF (ordP mode) a b=true)(g:c.Perm xs):c=srtP mode xs:=by
 refine List.Perm.eq_of_pairwise (le:=fun a b=>leF (ordP mode) a b=true) ?_ h qqs (g.trans (List.mergeSort_perm _ _).symm);intro a b _ _ d f;rw[qrb] at d f;have:=(qrr mode).anti a b;exact qyL (mode:=mode) (by omega)
theorem qvo{mode:Int}{x:List qi}{y:qi}(g:x.Pairwise fun a b=>leF (ordP mode) a b=true) :
  (x.take (posE mode y x x.length)++[y]++x.drop (posE mode y x x.length)).Pairwise fun a b=>leF (ordP mode) a b=true:=by
 have s:=qrr mode;have i:=qtF (mode:=mode) (y:=y) (x:=x) x.length;have o:=qrw (mode:=mode) (y:=y) (x:=x) x.length;have r:=qqx (mode:=mode) (y:=y) (x:=x) x.length;generalize posE mode y x x.length=p at i o r;have m:∀b,b∈x.drop p->leF (ordP mode) y b=true:=fun b d=>by
  obtain⟨q,k,rfl⟩:=List.mem_iff_getElem.1 d;rw[List.length_drop] at k;rw[List.getElem_drop,qrb];have f:=o (p+q) (by omega) (by omega);rw[qcw (show p+q<x.length by omega)] at f;have:=s.anti y x[p+q];omega
 have l:∀a,a∈x.take p->leF (ordP mode) a y=true:=fun a h=>by
  obtain⟨q,k,rfl⟩:=List.mem_iff_getElem.1 h;rw[jw] at k;rw[jZ,qrb];obtain⟨c,rfl⟩:∃c,p=c+1:=⟨p-1,by omega⟩;have f:=r c Z;rw[qcw (show c<x.length by omega)] at f;by_cases e:q=c
  ·subst e;exact f
  ·have n:=(List.pairwise_iff_getElem.1 g) q c (by omega) (by omega) (by omega);rw[qrb] at n;have:=s.swo.ntrans y x[c] x[q] (decide_eq_false f) (decide_eq_false n);exact of_decide_eq_false this
 rw[jq,List.pairwise_append];refine⟨g.sublist (List.take_sublist ..),?_,fun a h b d=>?_⟩
 ·rw[List.singleton_append,List.pairwise_cons];exact⟨m,g.sublist (List.drop_sublist ..)⟩
 ·rw[List.singleton_append,Jc] at d;rcases d with rfl|d
  ·exact l a h
  ·rw[<-Ja p x,List.pairwise_append] at g;exact g.2.2 a h b d
theorem qvJ{α:Type}{xs:List α}{j:Nat}(h:j<=xs.length):subS xs (j:Int) (xs.length:Int)=V (xs.drop j):=by
 unfold subS;rw[if_pos ⟨by omega,by omega,by omega⟩];simp
theorem qwY{list:List qi}{mode:Int}(z:modeB mode=true)(A:list.length<=1000000)(u:∀p,p∈list->p.Bg.length<=1000000):Ev (fun n=>qhl n list mode) (srtP mode list):=by
 have e0:srtP mode (list.take 0)=[]:=by rw[List.take_zero];unfold srtP;simp
 have c:∀l:List qi,(srtP mode l).length=l.length:=fun l=>List.length_mergeSort _;have:=loopF (Lf:=fun n s i=>qdT list mode n s i) (S:=fun i=>srtP mode (list.take i)) (len:=list.length) (fin:=(srtP mode list,(list.length:Int)))
  (fun n=>by simp only[qdT,ql (je _),cond_false,jE])
  (fun i hi X v=>by
   have m:(srtP mode (list.take i)).length=i:=by rw[c,jw];omega
   have h:gt list i∈list:=by rw[qcw hi];exact jp hi
   have g:=qwg (list:=list) (x:=srtP mode (list.take i)) (i1:=i) z hi (u _ h) (by omega) (srtP mode (list.take i)).length (je _);have f:=qtF (mode:=mode) (y:=gt list i) (x:=srtP mode (list.take i)) (srtP mode (list.take i)).length;have k:=qvo (mode:=mode) (y:=gt list i) (qqs (mode:=mode) (xs:=list.take i));have b:(srtP mode (list.take i)).Perm (list.take i):=List.mergeSort_perm _ _;generalize srtP mode (list.take i)=x at m g f k b;generalize posE mode (gt list i) x x.length=p at g f k;have d:x.take p++[gt list i]++x.drop p=srtP mode (list.take (i+1)):=by
    refine qxi k ?_;rw[js hi,<-qcw hi,jq];refine(List.perm_middle (a:=gt list i) (l₁:=x.take p) (l₂:=x.drop p)).trans ?_;rw[Ja];exact(List.Perm.cons _ b).trans (List.perm_append_comm (l₁:=[gt list i]) (l₂:=list.take i))
   have a1:subS x 0 (p:Int)=V (x.take p):=qs6 f;have a2:appS ([]:List qi) (x.take p)=V (x.take p):=by rw[qbd (by rw[List.length_nil,jw];omega),Jj]
   have o:appS (x.take p) [gt list i]=V (x.take p++[gt list i]):=qbd (by rw[jw,jo];omega);have r:subS x (p:Int) (x.length:Int)=V (x.drop p):=qvJ f;have t:appS (x.take p++[gt list i]) (x.drop p)=V (srtP mode (list.take (i+1))):=by
    rw[<-d];exact qbd (by rw[jg,jw,jo,List.length_drop];omega)
   simp only[qdT];refine Ev.tt (qj hi) (Ev.bind g (Ev.bindN a1 (Ev.bindN a2 (Ev.bindN (qz hi) (Ev.bindN o (Ev.bindN r (Ev.bindN t ?_)))))));rw[wS i];exact v)
 rw[e0] at this;unfold qhl;exact Ev.bind this .done
end Go.Fw


namespace Go.Fw
open Go
set_option maxRecDepth 100000
theorem qug{j:qaB}{node:Int}(h:qjl j)(mode:Int) :
  (∃code:Int,code≠0/\Ev (fun n=>qew n j node) (U,code)/\Ev (fun n=>qct n j mode [node]) (U,code)) \/
  ∃t R,WkOk j t R/\inI node 0 ((ndB j.Ac:Int)-1)=true/\Ev (fun n=>qcu n j) (swV j t,0)/\Ev (fun n=>qew n j node) (swV j t,0)/\Ev (fun n=>qct n j mode [node]) (bif modeB mode then(wkV j t R,0) else(U,2)):=by
 have k:([node].all fun x=>inI x 0 ((ndB j.Ac:Int)-1))=inI node 0 ((ndB j.Ac:Int)-1):=by simp
 have p:(∃code:Int,code≠0/\Ev (fun n=>qcu n j) (U,code)/\Ev (fun n=>qct n j mode [node]) (U,code)) \/
   ∃t R,WkOk j t R/\Ev (fun n=>qcu n j) (swV j t,0)/\Ev (fun n=>qct n j mode [node]) (bif inI node 0 ((ndB j.Ac:Int)-1) then bif modeB mode then(wkV j t R,0) else(U,2) else(U,4)):=by
  cases hm:modeB mode
  ·have f:=h.Av.len;unfold qcu qct;rcases qwy h with⟨code,hne,hs,hi⟩|⟨t,R,hw,hs,hi⟩
   ·exact .inl ⟨code,hne,Ev.bind hs (Ev.tt (qgU hne) .done),Ev.bind hi (Ev.tt (qgU hne) .done)⟩
   ·have d:=hw.tg.bl;have g:=qhc d;have b:=qaN (qN (qam d));have r:=qjB (ls:=linksL j.Ac) (br:=j.Av) g f;refine .inr ⟨t,R,hw,Ev.bind hs (Ev.ff Z (Ev.bind (qfj d) (Ev.bind r .done))),Ev.bind hi (Ev.ff Z ?_)⟩;have i:=qnP (v:=viewV j.Ac) b;have e1:W64 (((2*(viewV j.Ac).places.length:Nat):Int)-1)=(ndB j.Ac:Int)-1:=by
     show W64 (((2*(places j.Ac.Aa).length:Nat):Int)-1)=_;rw[qaw (by omega) (by omega)]
    unfold wkV grB;simp only[jd,i,e1];refine Ev.bind (qef (by simp)) ?_;rw[k];cases inI node 0 ((ndB j.Ac:Int)-1)
    ·exact Ev.tt Z .done
    ·refine Ev.ff Z ?_;simp only[qwE,hm];exact .done
  ·rcases qzn h with⟨code,hne,hs,hi⟩|⟨t,R,hw,hs,hi⟩
   ·exact .inl ⟨code,hne,hs,hi mode [node]⟩
   ·have l:=hi mode [node] (by simp) (qpJ hm);rw[k] at l;exact .inr ⟨t,R,hw,hs,l⟩
 unfold qew;rcases p with⟨code,hne,hs,hi⟩|⟨t,R,hw,hs,hi⟩
 ·exact .inl ⟨code,hne,Ev.bind hs (Ev.tt (qgU hne) .done),hi⟩
 ·have b:=qaN (qN (qam hw.tg.bl));have a:=qjT hw.tg.bl;have e1:∀n,qaq n node 0 (W64 (((2*(places j.Ac.Aa).length:Nat):Int)-1))=V (inI node 0 ((ndB j.Ac:Int)-1)):=fun n=>by rw[qcZ,qaw (by omega) (by omega)]
  obtain⟨o,x3,m⟩:=t;have c:Ev (fun n=>qcu n j) (V (⟨j,linksL j.Ac,lvJ j.Ac j.Av,⟨o,x3,m⟩⟩:Tl20Work),(0:Int)):=hs;cases hr:inI node 0 ((ndB j.Ac:Int)-1)
  ·rw[hr] at hi;refine .inl ⟨4,by decide,Ev.bind c ?_,hi⟩;show Ev (fun n=>(qbI n j.Ac).bind _) _;refine Ev.bind a ?_;simp only[e1,hr];exact .done
  ·rw[hr] at hi;refine .inr ⟨⟨o,x3,m⟩,R,hw,rfl,hs,Ev.bind c ?_,hi⟩;show Ev (fun n=>(qbI n j.Ac).bind _) _;refine Ev.bind a ?_;simp only[e1,hr];exact .done
theorem qvT{α:Type}{f:Nat->Option (List Int)}{k v:Int}{g:Nat->Int->Option α}{a:α}(h:Ev (fun n=>(f n).bind fun r=>(idx r k).bind fun y=>V (y,(0:Int))) (v,0))(l:Ev (fun n=>g n v) a):Ev (fun n=>(f n).bind fun r=>(idx r k).bind (g n)) a:=by
 obtain⟨N,i⟩:=h;obtain⟨M,d⟩:=l;refine⟨max N M,fun n m=>?_⟩;have b:=i n (by omega);have c:=d n (by omega);simp only at b c⊢;cases hf:f n with
 |none=>rw[hf] at b;simp at b
 |some r=>
  rw[hf] at b;simp only[jd] at b⊢;cases hi:idx r k with
  |none=>rw[hi] at b;simp at b
  |some y=>
   rw[hi] at b;simp only[jd,Option.some.injEq,Prod.mk.injEq,and_true] at b;subst b;exact c
def stM{α:Type}(g:α->α)(L:List α)(i:Nat):List α:=(L.take i).map g++L.drop i
theorem qxN{α:Type}{g:α->α}{L:List α}:stM g L 0=L:=by simp[stM]
theorem quV{α:Type}{g:α->α}{L:List α}:stM g L L.length=L.map g:=by simp[stM]
section
variable{α:Type}[Inhabited α]{g:α->α}{L:List α}{i:Nat}
theorem qpf(h:i<L.length):idx (stM g L i) (i:Int)=V (gt L i):=by
 have a:i<(stM g L i).length:=by unfold stM;rw[jg,ju,jw,List.length_drop];omega
 have e:(stM g L i)[i]?=V L[i]:=by
  unfold stM;rw[jA (by rw[ju,jw];omega),ju,jw,Nat.min_eq_left (by omega),Nat.sub_self,Jd,Jo,jh h]
 rw[qee a,qcw h];exact congrArg V (List.getElem?_eq_some_iff.1 e).2
theorem qwb(h:i<L.length):setS (stM g L i) (i:Int) (g (gt L i))=stM g L (i+1):=by
 have a:((L.take i).map g).length=i:=by rw[ju,jw];omega
 unfold setS stM;rw[jr,js h,jQ,jq,List.set_append_right _ _ (by omega),a,Nat.sub_self,jB h,qcw h]
 rfl
end
def setA(A:qi->Int)(p:qi):qi:=⟨p.Bm,p.Bg,A p⟩
theorem qx5{mode:Int}{l:List qi}{p:qi}:p∈srtP mode l↔p∈l:=(List.mergeSort_perm l _).mem_iff
theorem qyX{mode:Int}{l:List qi}:(srtP mode l).length=l.length:=List.length_mergeSort _
section
variable{j:qaB}{t:qq}{R:List Nat}{c:List Int}
theorem qvw(h:qjl j)(f:WkOk j t R)(r:CtOk j c){node:Nat}(u:node<ndB j.Ac)(o:gt c node<=300) :
  ∃L:List qi,((L.length:Int)<=gt c node)/\(∀p,p∈L->p.Bg.length<=156/\pathB j p.Bm p.Bg=true/\p.Ai=0)/\L=aP j t R.length node /\
   Ev (fun n=>qcF n (swV j t) (node:Int)) L/\Ev (fun n=>qgQ n (wkV j t R) (node:Int)) L:=by
 obtain⟨i,hi,l⟩:=f.tg.ord.full f.tg.len u;have v:=qaN (qN (qam f.tg.bl));have x:R.length<=156:=by rw[f.tg.len];show 2*(places j.Ac.Aa).length<=156;omega
 have d:=qx9 h f r R.length i hi hi (by omega) (by rw[l];exact o);have g:=qtB f r R.length i hi hi (by rw[l];exact o);rw[l] at d g;have s:=qwv f R.length node;refine⟨aP j t R.length node,g,fun p k=>?_,rfl,d.1,?_⟩
 ·obtain⟨a,_,b⟩:=s p k;have:=qrX _ _ p k;exact⟨by omega,a,b⟩
 ·have m:=d.2 [] [] (by rw[List.length_nil];omega) (by rw[List.length_nil];omega);have e:([]:List qi)++(aP j t R.length node).map (tailP [])=aP j t R.length node:=by
   rw[Jj];have:(aP j t R.length node).map (tailP [])=(aP j t R.length node).map id:=List.map_congr_left fun p k=>by
    obtain⟨_,_,b⟩:=s p k;cases p;simp only at b;subst b;simp[tailP]
   rw[this,List.map_id]
  rw[e] at m;unfold qgQ;exact Ev.bind m .done
end

structure InS(x y:qe):Prop where
 e:y.Az<=x.Az
 l:x.Bf<=y.Bf
theorem InS.refl{x:qe}:InS x x:=⟨Je _,Je _⟩
theorem InS.trans{x y z:qe}(h:InS x y)(a:InS y z):InS x z:=⟨Int.le_trans a.e h.e,Int.le_trans h.l a.l⟩
theorem InS.hullL{x y:qe}:InS x (hullS x y):=by
 constructor
 ·show(if y.Az<x.Az then y.Az else x.Az)<=x.Az;split<;>omega
 ·show x.Bf<=(if y.Bf > x.Bf then y.Bf else x.Bf);split<;>omega
theorem InS.hullR{x y:qe}:InS y (hullS x y):=by
 constructor
 ·show(if y.Az<x.Az then y.Az else x.Az)<=y.Az;split<;>omega
 ·show y.Bf<=(if y.Bf > x.Bf then y.Bf else x.Bf);split<;>omega
section
variable{f:Nat->qe->qe×qe}{ls:List qv}{lv:List Bool}{xs:List qh}{M:Nat}
theorem qxv{t a:qq}{node:Int}{s0:Bool×qh}:∀j,(∀x,x<j->toQ ls lv node x=true->gt t.Bb (frN ls x)=gt a.Bb (frN ls x)/\gt t.Ai (frN ls x)=gt a.Ai (frN ls x)/\gt t.Be (frN ls x)=gt a.Be (frN ls x)) ->
  ndS f ls lv t node s0 j=ndS f ls lv a node s0 j:=by
 intro j
 induction j with
 |zero=>intro _;rfl
 |succ j ih=>
  intro h;unfold ndS;rw[ih fun x g=>h x (by omega)];cases hq:toQ ls lv node j
  ·rfl
  ·obtain⟨b,c,d⟩:=h j (by omega) hq;simp only[cond_true];unfold stepS;rw[b,c,d]
structure TmEq(f:Nat->qe->qe×qe)(ls:List qv)(lv:List Bool)(xs:List qh)(t:qq)(k:Nat):Prop where
 r:gt t.Bb k=(ndS f ls lv t (k:Int) (srcV (srcO xs (k:Int))) ls.length).1
 a:gt t.Bb k=true->gt t.Ai k=(ndS f ls lv t (k:Int) (srcV (srcO xs (k:Int))) ls.length).2.Ai
 s:gt t.Bb k=true->gt t.Be k=(ndS f ls lv t (k:Int) (srcV (srcO xs (k:Int))) ls.length).2.Be
 b:gt t.Bb k=true->spanB (gt t.Ai k)=true
theorem qAI(h:LkOk ls M):∀(R d:List Nat) (t D:qq),OrdOk ls.length (frL ls) (toL ls) (lvL lv) M (d++R)->(t.Bb.length=M/\t.Ai.length=M/\t.Be.length=M)->Bare t M d->(∀k,k∈d->TmEq f ls lv xs t k) ->
  rnO f ls lv xs R t=V D->∀k,k∈d++R->TmEq f ls lv xs D k:=by
 intro R
 induction R with
 |nil=>
  intro d t D _ _ _ L e k T;obtain rfl:=Option.some.inj e;rw[jW] at T;exact L k T
 |cons k R ih=>
  intro d t D I Y S L e;obtain⟨z,v,A⟩:=Y;have assoc:d++k::R=(d++[k])++R:=by simp
  obtain⟨O,kn,k0⟩:=I d k R Z;have Q:∀y,y∈d++[k]->∀x,x<ls.length->toQ ls lv (y:Int) x=true->frN ls x∈d:=by
   intro y b x N C;unfold toQ at C;rw[jf,beq_iff_eq] at C;have fin:∀l a,OrdOk ls.length (frL ls) (toL ls) (lvL lv) M (l++y::a)->frN ls x∈l:=fun l a H=>by
    have:=qlg.1 (H l y a Z).2.2 x N C.1 C.2;rw[show frL ls x=(frN ls x:Int) from(qkq h N).1,qhV] at this;exact this
   rcases List.mem_append.1 b with b|b
   ·obtain⟨a,c,rfl⟩:=List.append_of_mem b;have:frN ls x∈a:=fin a (c++k::R) (by simpa using I);exact jJ _ this
   ·obtain rfl:=List.mem_singleton.1 b;exact fin d R I
  have J:∀y,y∈d->y≠k:=fun y b e=>kn (e ▸ b);rw[assoc];unfold rnO at e;have n:∀{u:qq},(∀y,y≠k->gt u.Bb y=gt t.Bb y/\gt u.Ai y=gt t.Ai y/\gt u.Be y=gt t.Be y)->Bare u M (d++[k]):=fun hu y b W=>by
   obtain⟨u1,u2,u3⟩:=hu y (fun e=>W (jP _ (List.mem_singleton.2 e)));rw[u1,u2,u3];exact S y b fun hm=>W (jJ _ hm)
  cases h1:(ndS f ls lv t (k:Int) (srcV (srcO xs (k:Int))) ls.length).1
  ·rw[h1] at e;refine ih (d++[k]) t D (by rw[<-assoc];exact I) ⟨z,v,A⟩ (n fun y _=>⟨rfl,rfl,rfl⟩) (fun y b=>?_) e;rcases List.mem_append.1 b with b|b
   ·exact L y b
   ·obtain rfl:=List.mem_singleton.1 b;have X:=(S y O kn).1;have P:gt t.Bb y≠true:=by rw[X];decide
    exact⟨by rw[X,h1],fun e=>absurd e P,fun e=>absurd e P,fun e=>absurd e P⟩
  ·rw[h1] at e;cases H:spanB (ndS f ls lv t (k:Int) (srcV (srcO xs (k:Int))) ls.length).2.Ai
   ·rw[H] at e;cases e
   ·rw[H] at e;have g:∀y,gt (setT t k (ndS f ls lv t (k:Int) (srcV (srcO xs (k:Int))) ls.length)).Bb y=(if y=k then true else gt t.Bb y)/\gt (setT t k (ndS f ls lv t (k:Int) (srcV (srcO xs (k:Int))) ls.length)).Ai y=(if y=k then(ndS f ls lv t (k:Int) (srcV (srcO xs (k:Int))) ls.length).2.Ai else gt t.Ai y) /\
      gt (setT t k (ndS f ls lv t (k:Int) (srcV (srcO xs (k:Int))) ls.length)).Be y=(if y=k then(ndS f ls lv t (k:Int) (srcV (srcO xs (k:Int))) ls.length).2.Be else gt t.Be y):=fun y=>by
     refine⟨?_,?_,?_⟩
     ·show gt (setS _ _ _) y=_;rw[qh8 (by rw[z];exact O),h1]
     ·show gt (setS _ _ _) y=_;rw[qh8 (by rw[v];exact O)]
     ·show gt (setS _ _ _) y=_;rw[qh8 (by rw[A];exact O)]
    have m:∀y,y≠k->gt (setT t k (ndS f ls lv t (k:Int) (srcV (srcO xs (k:Int))) ls.length)).Bb y=gt t.Bb y/\gt (setT t k (ndS f ls lv t (k:Int) (srcV (srcO xs (k:Int))) ls.length)).Ai y=gt t.Ai y/\gt (setT t k (ndS f ls lv t (k:Int) (srcV (srcO xs (k:Int))) ls.length)).Be y=gt t.Be y:=fun y b=>by
     obtain⟨p,F,K⟩:=g y;rw[if_neg b] at p F K;exact⟨p,F,K⟩
    have len:(setT t k (ndS f ls lv t (k:Int) (srcV (srcO xs (k:Int))) ls.length)).Bb.length=M/\(setT t k (ndS f ls lv t (k:Int) (srcV (srcO xs (k:Int))) ls.length)).Ai.length=M/\(setT t k (ndS f ls lv t (k:Int) (srcV (srcO xs (k:Int))) ls.length)).Be.length=M:=
     ⟨by show(setS _ _ _).length=_;rw[qdM];exact z,by show(setS _ _ _).length=_;rw[qdM];exact v,by show(setS _ _ _).length=_;rw[qdM];exact A⟩
    obtain⟨r,i,s⟩:=g k;rw[if_pos Z] at r i s;have o:∀y,y∈d++[k]->ndS f ls lv (setT t k (ndS f ls lv t (k:Int) (srcV (srcO xs (k:Int))) ls.length)) (y:Int) (srcV (srcO xs (y:Int))) ls.length=ndS f ls lv t (y:Int) (srcV (srcO xs (y:Int))) ls.length:=fun y b=>
     qxv _ fun x N C=>m _ (J _ (Q y b x N C))
    generalize setT t k (ndS f ls lv t (k:Int) (srcV (srcO xs (k:Int))) ls.length)=u at e m r i s len o;refine ih (d++[k]) u D (by rw[<-assoc];exact I) len (n m) (fun y b=>?_) e;have B:=o y b;rcases List.mem_append.1 b with b|b
    ·obtain⟨p,F,K⟩:=m y (J y b);have b:=L y b;exact⟨by rw[B,p];exact b.r,fun e=>by rw[B,F];exact b.a (by rw[<-p];exact e),fun e=>by rw[B,K];exact b.s (by rw[<-p];exact e),fun e=>by rw[F];exact b.b (by rw[<-p];exact e)⟩
    ·obtain rfl:=List.mem_singleton.1 b;exact⟨by rw[B,r,h1],fun _=>by rw[B,i],fun _=>by rw[B,s],fun _=>by rw[i];exact H⟩
theorem qzb{t:qq}{node:Int}{s0:Bool×qh}(c:s0.1=true):∀j,(ndS f ls lv t node s0 j).1=true/\InS s0.2.Ai (ndS f ls lv t node s0 j).2.Ai/\InS s0.2.Be (ndS f ls lv t node s0 j).2.Be:=by
 intro j
 induction j with
 |zero=>exact⟨c,.refl,.refl⟩
 |succ j ih=>
  obtain⟨i1,a,b⟩:=ih;unfold ndS;cases toQ ls lv node j
  ·exact⟨i1,a,b⟩
  ·simp only[cond_true];unfold stepS;cases gt t.Bb (frN ls j)
   ·exact⟨i1,a,b⟩
   ·simp only[cond_true];unfold joinS;rw[i1];exact⟨rfl,a.trans .hullL,b.trans .hullL⟩
theorem qxH{t:qq}{node:Int}{s0:Bool×qh}{x:Nat}(c:toQ ls lv node x=true)(d:gt t.Bb (frN ls x)=true):∀j,x<j->(ndS f ls lv t node s0 j).1=true /\
  InS (plusS (gt t.Ai (frN ls x)) (f x (gt t.Be (frN ls x))).1) (ndS f ls lv t node s0 j).2.Ai/\InS (f x (gt t.Be (frN ls x))).2 (ndS f ls lv t node s0 j).2.Be:=by
 intro j
 induction j with
 |zero=>intro g;omega
 |succ j ih=>
  intro g;unfold ndS;by_cases e:x=j
  ·subst e;rw[c];simp only[cond_true];unfold stepS;rw[d];simp only[cond_true];unfold joinS;cases (ndS f ls lv t node s0 x).1
   ·exact⟨rfl,.refl,.refl⟩
   ·exact⟨rfl,.hullR,.hullR⟩
  ·obtain⟨i1,a,b⟩:=ih (by omega);cases toQ ls lv node j
   ·exact⟨i1,a,b⟩
   ·simp only[cond_true];unfold stepS;cases gt t.Bb (frN ls j)
    ·exact⟨i1,a,b⟩
    ·simp only[cond_true];unfold joinS;rw[i1];exact⟨rfl,a.trans .hullL,b.trans .hullL⟩
end
structure JobT(j:qaB)(t:qq)(f:Nat->qe->qe×qe):Prop where
 ss:SpansS j.Ac j.Af f
 si:SpansI j.Ac j.Af [] f
 eq:∀k,k<ndB j.Ac->TmEq f (linksL j.Ac) (lvJ j.Ac j.Av) j.Ap t k
 pt:Ev (fun n=>qaP n j.Ac j.Af j.Av j.Ap) (t,0)
theorem qAR{j:qaB}{t:qq}(h:qjl j)(D:Ev (fun n=>qcu n j) (swV j t,0)):∃f,JobT j t f:=by
 have l:=h.Av.len;have u:=h.Ap.len;have F:∀{g:qq} {a:Int},Ev (fun n=>qaP n j.Ac j.Af j.Av j.Ap) (g,a)->a=0/\g=t:=by
  intro g a m;unfold qcu at D;by_cases d:a=0
  ·subst d;refine⟨rfl,?_⟩;cases hbk:blockB j.Ac
   ·exfalso;unfold qaP qhu at m;have J:=qoi h.Ac;rw[hbk] at J;have:=m.uniq (Ev.bind (b:=([],1)) (Ev.bind (b:=true) (Ev.bind J (Ev.tt Z .done)) (Ev.tt Z .done)) (Ev.tt Z .done));cases this
   ·have x:=qjB (ls:=linksL j.Ac) (br:=j.Av) (qhc hbk) l;have:=D.uniq (Ev.bind m (Ev.ff Z (Ev.bind (qfj hbk) (Ev.bind x .done))));unfold swV at this;injection this with c _;injection c with c;injection c with _ _ _ c;exact c.symm
  ·have:=D.uniq (Ev.bind m (Ev.tt (qgU d) .done));unfold swV at this;cases this
 have I:∃o,((∃f g ,o=(g,(0:Int))/\SpansS j.Ac j.Af f/\SpansI j.Ac j.Af [] f/\∀k,k<ndB j.Ac->TmEq f (linksL j.Ac) (lvJ j.Ac j.Av) j.Ap g k)\/o.2≠0)/\Ev (fun n=>qaP n j.Ac j.Af j.Av j.Ap) o:=by
  unfold qaP;rcases qz6 h.Ac h.Af.Bd l u with⟨a,d,hc,_⟩|⟨R,hg,hc,_⟩
  ·exact⟨(zT,a),.inr d,Ev.bind hc (Ev.tt (qgU d) .done)⟩
  ·have c:=hg.bl;have C:=qhc c;have B:=qfN c;have x:=qjB (ls:=linksL j.Ac) (br:=j.Av) C l;obtain⟨f,K,A⟩:=qu1 c hg.co;have r:=A [] (.inl Z);rw[qsB] at r;have O:=qaN (qN (qam c));have p:=hg.len;have y:R.length<=1000:=by rw[p];show 2*(places j.Ac.Aa).length<=1000;omega
   have z:∀k,k∈R->k<2*(places j.Ac.Aa).length:=fun k s=>by
    obtain⟨i,hi,rfl⟩:=List.mem_iff_getElem.1 s;exact(hg.ord.at hi).1
   have v:=qwi (lv:=lvJ j.Ac j.Av) (R:=R) c K qmO (qok u hg.sr) z y;have H:=qAI (f:=f) (lv:=lvJ j.Ac j.Av) (xs:=j.Ap) B R [] (zTm (2*(places j.Ac.Aa).length));generalize rnO f (linksL j.Ac) (lvJ j.Ac j.Av) j.Ap R (zTm (2*(places j.Ac.Aa).length))=o at H v;cases o with
   |none=>exact⟨(zT,3),.inr (by decide),Ev.bind hc (Ev.ff Z (Ev.bind (qfj c) (Ev.bind x (Ev.bind v (Ev.tt Z .done)))))⟩
   |some g=>
    refine⟨(g,0),.inl ⟨f,g,rfl,K,r,fun k s=>?_⟩,Ev.bind hc (Ev.ff Z (Ev.bind (qfj c) (Ev.bind x (Ev.bind v (Ev.ff Z .done)))))⟩;obtain⟨i,hi,e⟩:=hg.ord.full p s;exact H g hg.ord ⟨jH,jH,jH⟩ quI (fun k s=>by cases s) rfl k (by rw[<-e];exact jp hi)
 obtain⟨o,N,m⟩:=I;obtain⟨H,v⟩:=o;obtain⟨L,M⟩:=F m;subst L;subst M;rcases N with⟨f,g,e,c,h2,h3⟩|d
 ·injection e with e _;subst e;exact⟨f,c,h2,h3,m⟩
 ·exact absurd Z d

section
variable{j:qaB}{t:qq}{R:List Nat}{c:List Int}{f:Nat->qe->qe×qe}
theorem qsI{g:Nat->Int}:∀l:List Nat,(∀x,x∈l->g x=0)->l.foldl (fun v k=>mn6 (W64 (v+g k))) 0=0
  | [],_=>rfl
  |x::l,h=>by
    rw[List.foldl_cons,h x (jx ..)];exact qsI l fun y a=>h y (jn _ a)
theorem unreached(k:WkOk j t R)(l:JobT j t f)(n:CtOk j c):∀m i,∀hi:i<R.length,i<m->gt t.Bb R[i]=false->gt c R[i]=0
  |0,_,_,h,_=>absurd h (Jk _)
  |m+1,i,hi,hm,hr=>by
    have o:R[i]<ndB j.Ac:=(k.tg.ord.at hi).1;have e:=n R[i] o;have a:=(l.eq R[i] o).r;rw[hr] at a;have s:(srcV (srcO j.Ap (R[i]:Int))).1=false:=by
      cases hs:(srcV (srcO j.Ap (R[i]:Int))).1 with
      |false=>rfl
      |true=>
        have:=(qzb (f:=f) (ls:=linksL j.Ac) (lv:=lvJ j.Ac j.Av) (t:=t) (node:=(R[i]:Int)) hs (linksL j.Ac).length).1;rw[this] at a;cases a
    have b:∀x,x∈selB j R[i]->gt c (frN (linksL j.Ac) x)=0:=fun x b=>by
      obtain⟨x1,v,d,u,r⟩:=qiF k hi b;have p:gt t.Bb (frN (linksL j.Ac) x)=false:=by
        cases hs:gt t.Bb (frN (linksL j.Ac) x) with
        |false=>rfl
        |true=>
          have:=(qxH (f:=f) (ls:=linksL j.Ac) (lv:=lvJ j.Ac j.Av) (t:=t) (node:=(R[i]:Int)) (s0:=srcV (srcO j.Ap (R[i]:Int))) (qfk.1 b).2 hs (linksL j.Ac).length x1).1;rw[this] at a;cases a
      rw[<-r] at p⊢;exact unreached k l n m v d (by omega) p
    rw[e];unfold ctS st0;rw[s];exact qsI (g:=fun x=>gt c (frN (linksL j.Ac) x)) _ b
theorem qAe(m:WkOk j t R)(s:JobT j t f)(n:CtOk j c):∀d i,∀hi:i<R.length,i<d->gt c R[i]<=300->((aP j t d R[i]).length:Int)=gt c R[i]
  |0,_,_,h,_=>absurd h (Jk _)
  |d+1,i,hi,h,h3=>by
    obtain⟨e,o⟩:=(qt1 m n (i+1) i hi (by omega)).2.2 h3;have:=qwn (g:=fun x=>gt c (frN (linksL j.Ac) x)) (f:=legP t (aP j t d) (linksL j.Ac)) (selB j R[i]) fun x u=>by
      obtain⟨_,p,l,v,r⟩:=qiF m hi u;have a:=qAe m s n d p l (by omega) (by rw[r];exact o x u);have b:=unreached m s n (p+1) p l (by omega);rw[r] at a b;unfold legP;cases hr:gt t.Bb (frN (linksL j.Ac) x)
      · have:=b hr
        simpa using this.symm
      · simpa using a
    simp only[aP,jg];have:=qtU (j:=j) (k:=R[i]);omega
def zP:qi:=⟨0,[],0⟩
def owA(d:Nat->Int->Int×Int)(j:qaB)(mode:Int)(p:qi):Int:=(prS d (own0 j p.Bm mode) p.Bg p.Bg.length).1
theorem qxU{node mode:Int}(h:qjl j) :
    (∃code:Int,code≠0/\Ev (fun n=>qgF n j node mode) (U,zP,code)/\Ev (fun n=>qct n j mode [node]) (U,code)) \/
    ∃t R,WkOk j t R/\modeB mode=true/\inI node 0 ((ndB j.Ac:Int)-1)=true/\Ev (fun n=>qct n j mode [node]) (wkV j t R,0) /\
      ((∃code:Int,code≠0/\Ev (fun n=>qgF n j node mode) (U,zP,code)/\Ev (fun n=>qcW n (wkV j t R) node mode) (zP,code)) \/
       ∃P:qi,P.Bg.length<=156/\Ev (fun n=>qgF n j node mode) (swV j t,P,0)/\Ev (fun n=>qcW n (wkV j t R) node mode) (P,0)):=by
  unfold qgF qcW;rcases qug (node:=node) h mode with⟨code,hne,hs,hi⟩|⟨t,R,hw,hr,ho,hs,hi⟩
  · exact .inl ⟨code,hne,Ev.bind hs (Ev.tt (qgU hne) .done),hi⟩
  obtain⟨r0,r1,r2⟩:=inRange hr;obtain⟨f,hT⟩:=qAR h ho;obtain⟨c,cl,cc,O⟩:=qv2 h hw;obtain⟨cs,I⟩:=O node.toNat r2;have F:=qvw h hw cc r2;have D:gt c node.toNat<=300->((aP j t R.length node.toNat).length:Int)=gt c node.toNat:=by
    obtain⟨i,hi,ei⟩:=hw.tg.ord.full hw.tg.len r2;have:=qAe hw hT cc R.length i hi hi;rw[ei] at this;exact this
  rw[<-qfM r0] at cs I F;have H:=fun(m:modeB mode=true) d (J:OwnOk j.Ac j.Af mode d) (p:qi) (hb:pathB j p.Bm p.Bg=true) (hl:p.Bg.length<=156)=>
    And.intro (qzK h hw m J (start:=p.Bm) (path:=p.Bg) (by omega) fun i hi=>quh hb hi) (qxw h hw m J (start:=p.Bm) (path:=p.Bg) (by omega) fun i hi=>quh hb hi)
  obtain⟨N,x3,K⟩:=t;have r:Ev (fun n=>qew n j node) (V (⟨j,linksL j.Ac,lvJ j.Ac j.Av,⟨N,x3,K⟩⟩:Tl20Work),(0:Int)):=hs;cases m:modeB mode
  · rw[m] at hi
    refine .inl ⟨2,by decide,Ev.bind r ?_,hi⟩;simp only[qrp,m,jd];exact Ev.tt Z .done
  rw[m] at hi;refine .inr ⟨⟨N,x3,K⟩,R,hw,rfl,hr,hi,?_⟩;have sM:∀{α:Type} {g:Nat->Option α} {z a:α},Ev g a->Ev (fun n=>(qhw n mode).bind fun r9=>bif (!r9) then V z else g n) a:=fun hg=>by
    simp only[qrp,m,jd];exact Ev.ff Z hg
  by_cases x:gt c node.toNat > 300
  · exact .inl ⟨3,by decide,Ev.bind r (sM (qvT cs (Ev.tt (decide_eq_true x) .done))),Ev.bind I (Ev.tt (decide_eq_true x) .done)⟩
  obtain⟨L,hLc,Q,eL,sA,iA⟩:=F (by omega);have T:=D (by omega);rw[<-eL] at T;by_cases hz:gt c node.toNat=0
  · have C:L.length=0:=by omega
    exact .inl ⟨5,by decide,Ev.bind r (sM (qvT cs (Ev.ff (decide_eq_false x) (Ev.tt (by simpa using hz) .done)))),Ev.bind I (Ev.ff (decide_eq_false x) (Ev.bind iA (Ev.tt (by rw[C];rfl) .done)))⟩
  have hl:L.length<=300:=by omega
  have C:0<L.length:=by omega
  obtain⟨d,J⟩:=qAs hw.tg.bl hw.tg.co m;have own:=H m d J;have l:=loopF (Lf:=fun n s i=>qep j mode K x3 N (lvJ j.Ac j.Av) (linksL j.Ac) L n s i) (S:=stM (setA (owA d j mode)) L) (len:=L.length) (fin:=(L.map (setA (owA d j mode)),(L.length:Int)))
    (fun n=>by simp only[qep,ql (je _),cond_false,quV])
    (fun i hi X B=>by
      have b:gt L i∈L:=by rw[qcw hi];exact jp hi
      obtain⟨a1,a2,_⟩:=Q _ b;simp only[qep];refine Ev.tt (qj hi) (Ev.bindN (qpf hi) (Ev.bindN (qpf hi) (Ev.bind (own _ a2 a1).1 (Ev.bindN (qpf hi) ?_))));rw[wS i];have e:=qwb (g:=setA (owA d j mode)) hi;unfold setA owA at e⊢;unfold setA owA at B;rw[e];exact B)
  have k:=loopF (Lf:=fun n s i=>qby (wkV j ⟨N,x3,K⟩ R) mode L n s i) (S:=stM (setA (owA d j mode)) L) (len:=L.length) (fin:=(L.map (setA (owA d j mode)),(L.length:Int)))
    (fun n=>by simp only[qby,ql (je _),cond_false,quV])
    (fun i hi X B=>by
      have b:gt L i∈L:=by rw[qcw hi];exact jp hi
      obtain⟨a1,a2,_⟩:=Q _ b;simp only[qby];refine Ev.tt (qj hi) (Ev.bindN (qpf hi) (Ev.bind (own _ a2 a1).2 (Ev.bindN (qpf hi) ?_)));rw[wS i];have e:=qwb (g:=setA (owA d j mode)) hi;unfold setA owA at e⊢;unfold setA owA at B;rw[e];exact B)
  rw[qxN] at l k;have u:∀p,p∈L.map (setA (owA d j mode))->p.Bg.length<=156:=fun p v=>by
    obtain⟨q,Y,rfl⟩:=List.mem_map.1 v;exact(Q q Y).1
  have hnl:(L.map (setA (owA d j mode))).length=L.length:=ju _;have sS:=qwY (list:=L.map (setA (owA d j mode))) m (by omega) fun p v=>by have:=u p v;omega
  have iS:=qya (mode:=mode) (xs:=L.map (setA (owA d j mode))) (by omega) fun p v=>by have:=u p v;omega
  have o:0<(srtP mode (L.map (setA (owA d j mode)))).length:=by rw[qyX];omega
  have A:∀p,p∈srtP mode (L.map (setA (owA d j mode)))->p.Bg.length<=156:=fun p v=>u p (qx5.1 v);generalize srtP mode (L.map (setA (owA d j mode)))=M at sS iS o A;have W:gt M 0∈M:=by rw[qcw o];exact jp o
  have y:idx M (0:Int)=V (gt M 0):=qz o;refine .inr ⟨gt M 0,A _ W,Ev.bind r (sM (qvT cs (Ev.ff (decide_eq_false x) (Ev.ff (by simpa using hz) (Ev.bind sA (Ev.bind l (Ev.bind sS (Ev.bindN y .done)))))))),Ev.bind I (Ev.ff (decide_eq_false x) (Ev.bind iA (Ev.ff ?_ (Ev.bind k (Ev.bind iS (Ev.bindN y .done))))))⟩;have:(L.length:Int)≠0:=by omega
  simpa using this
theorem qwc{n:Nat}{a b mode:Int}:qiB n a b mode=V (bif mode==1 then W64 (a-b) else W64 (b-a))/\qkJ n a b mode=V (bif mode==1 then W64 (a-b) else W64 (b-a)):=by
  unfold qiB qkJ;cases mode==1<;>exact⟨rfl,rfl⟩
theorem qr7{node mode:Int}(h:qjl j):∃R:Int×Int,Ev (fun n=>qif n j node mode) R/\Ev (fun n=>qib n j node mode) R:=by
  unfold qif qib;rcases qxU (node:=node) (mode:=mode) h with⟨code,hne,hs,hi⟩|⟨t,R,hw,hm,hr,hi,⟨code,hne,hs,hx⟩|⟨P,hP,hs,hx⟩⟩
  · exact⟨(0,code),Ev.bind hs (Ev.tt (qgU hne) .done),Ev.bind hi (Ev.tt (qgU hne) .done)⟩
  · exact⟨(0,code),Ev.bind hs (Ev.tt (qgU hne) .done),Ev.bind hi (Ev.ff Z (Ev.bind hx (Ev.tt (qgU hne) .done)))⟩
  · obtain⟨b,d,c⟩:=inRange hr
    have a:idx t.Ai node=V (gt t.Ai node.toNat):=by
      have:=qz (xs:=t.Ai) (j:=node.toNat) (by rw[hw.tm.a];exact c);rwa [<-qfM b] at this
    refine⟨(bif mode==1 then W64 (ofS mode (gt t.Ai node.toNat)-P.Ai) else W64 (P.Ai-ofS mode (gt t.Ai node.toNat)),0),Ev.bind hs (Ev.ff Z ?_),Ev.bind hi (Ev.ff Z (Ev.bind hx (Ev.ff Z ?_)))⟩
    · unfold swV
      simp only[jd,a,qrM,qwc.2];exact .done
    · unfold wkV
      simp only[jd,a,qAf hm,qwc.1];exact .done
end

end Go.Fw


namespace Go.Fw
open Go Go.Proofs Go.Proofs.Tryz
open Go.RowKit (Below)
open Ch renaming own->oW,box->oX,grp->oG
open GoT renaming v->oV
open Go.Value renaming slice->oS
set_option maxRecDepth 100000
set_option maxHeartbeats 6400000
variable{n:Nat}{w:World}{cs1 cs2 cs3 cs4 cs5 cs6 cs7 cs8 cs9:List Value}
def qgf(n:Nat)(m:qaB)(l:Int)(k:Int):Option Bool:=(qm3 n m 1048576).bind fun d=>bif decide (d<0) then V true else(qjj n m).bind fun f=>(qif n f l k).bind fun(r4,g)=>(qjj n m).bind fun c=>(qib n c l k).bind fun(h,i)=>(bif (h != r4) then V true else V (i != g)).bind fun b1=>bif b1 then V false else(qjj n m).bind fun a=>(qnd n c a).bind fun b=>bif (!b) then V false else V true
theorem qly{aJ:qaB}{aNode aMode}(a:Ro w aJ cs1){r:Bool}(F:qgf n aJ aNode aMode=V r):RetV prog 5 [oV qaB cs1,vi aNode,vi aMode] w r:=by
 obtain⟨p1,R,p2,S,p3,k3,p4,T,p5,W,p6,X,p7,Y,rfl,_,_,_,_,_,_,_⟩:=qdh a;refine zV 48 func5 Z fun h=>zSR (qx h Z Z fun _ b h=>X1 10 0 h Z (zcI h F (qsd (h.old a)) Z fun _ _ h F=>X0 8 Z (qg Z F ?_ ?_)))<;>intro F
 ·exact X0 4 Z (rb h F Z)
 refine X1 4 0 h Z (zcO h F (qmb (h.old a)) Z fun _ _ _ _ h F=>?_);obtain⟨_,_,_,_,_,_,_,_,_,_,_,_,_,_,rfl,-,-,-,-,-,-,-⟩:=qdh (h.own 0 Z);refine zp2 Z ?_;obtain⟨⟨r4,r5⟩,D,F⟩:=qc F;refine qaM (r4,r5) h (cB 20 Z) (qoS (h.own 0 Z) D) Z Z Z Z fun _ _ _ L H=>?_;obtain⟨_,_,rfl,M,I⟩:=L.consI H;obtain⟨rfl,h⟩:=M.lastI I;refine X1 9 1 h Z (zcO h F (qmb (h.old a)) Z fun P _ Q _ h F=>?_);obtain⟨u,i,v,k,x,l,y,m,z,o,A,p,B,s,rfl,-,-,-,-,-,-,-⟩:=qdh (h.own 0 Z);refine qp qa h Z Z Z fun _ c h=>zs 0 h Z fun _ h=>X1 6 0 h Z ?_;obtain⟨⟨r8,r9⟩,J,F⟩:=qc F;refine qaM (r8,r9) h (cB 21 Z) (qo0 (h.own 1 Z) J) Z Z Z Z fun _ _ _ N K=>?_;obtain⟨_,_,rfl,O,g⟩:=N.consI K;obtain⟨rfl,h⟩:=O.lastI g;refine X0 8 Z ?_;obtain⟨C,f,_,F,d⟩:=bindE F;refine qa1 (fun e w'=>∃b1,C b1=V r/\e=[(3,vp b),(10,vp c),(42,.bool b1)]/\SH w w' [oX c (qnK P u v x y z A B i k l m o p s) 57,oW Q (P:qaB) (qnK P u v x y z A B i k l m o p s),oX b (qnK aJ p1 p2 p3 p4 p5 p6 p7 R S k3 T W X Y) 38]) ?_ ?_
 ·refine X0 5 Z (qk (t:=38) F Z ?_ ?_)<;>intro F
  ·refine X0 5 Z ?_;replace h:=h.p [0,1,3] Z;obtain rfl:=qb F;exact rG ⟨_,d,rfl,h⟩ Z
  refine X0 8 Z ?_;replace h:=h.p [0,1,3] Z;obtain rfl:=qb F;exact rG ⟨_,d,rfl,h⟩ Z
 rintro _ _ ⟨b1,F,rfl,h⟩;subst f;refine qg Z F ?_ ?_<;>intro F
 ·exact X0 4 Z (rb h F Z)
 refine zKSS (rA [] [0,2] h Z fun _ h=>M2 3 [0,1] 0 1 (h.p [0,2] Z) Z (Ao 2 7 Z (zcO h F (qmb (h.old a)) Z fun _ _ _ _ h F=>?_)));obtain⟨_,_,_,_,_,_,_,_,_,_,_,_,_,_,rfl,-,-,-,-,-,-,-⟩:=qdh (h.own 0 Z);refine Ag (h.p [1,3] Z) (Ao 3 15 Z (zcB h F (qsi (h.own 2 Z) (h.own 0 Z)) Z fun _ _ h F=>G0 31 [4] (h.p [1,3] Z) Z (Ad (qg Z F ?_ ?_))))<;>intro F
 ·exact X0 4 Z (rb h F Z)
 exact X0 5 Z (rb h F Z)
end Go.Fw


namespace Go.Fw
open Go
set_option maxRecDepth 100000

theorem qny{j:qaB}{node:Int}{mode:Int}(f:qrg j)(i:rngI node)(k:rngI mode):Ev (fun n=>qgf n j node mode) true:=by
 unfold qgf;obtain⟨l,e1,d⟩:=qAC (a:=j) (left:=1048576) f (by omega) (by omega);refine Ev.bind e1 ?_;rcases d with d|⟨p1,d⟩
 ·exact Ev.tt (by simpa using d) .done
 refine Ev.ff (by simp;omega) ?_;have c:qnj j<=1048576:=by omega
 have h:=qyP f c;obtain⟨⟨R0,R1⟩,g,hi⟩:=qr7 (j:=j) (node:=node) (mode:=mode) h;refine Ev.bind (qu6 c) ?_;refine Ev.bind g ?_;refine Ev.bind (qu6 c) ?_;refine Ev.bind hi ?_;refine Ev.bind (b:=false) (Ev.ff (by simp) (Ev.now (by simp))) (Ev.ff Z ?_);refine Ev.bind (qu6 c) ?_;refine Ev.bind (qAk c) (Ev.ff Z ?_);exact .done
end Go.Fw
