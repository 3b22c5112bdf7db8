/- By a program of mine (gen.py): for each function a plain function and the proof that the code computes it. -/
import Derived.Test.YtpiadipmfbjlbaaGreatDoorB13
open Option renaming bind_some->jd, some->V
open Nat renaming le_refl->je
open List renaming length_append->jg, length_singleton->jm, append_assoc->jq, length_cons->jS, map_cons->Ja, map_map->Jq
open Int renaming toNat_natCast->jr

namespace Go.Fw
open Go Go.Proofs Go.Proofs.Tryz
open Go.RowKit (Below)
open Ch renaming own->oW,box->oX,grp->oG
open GoT renaming v->oV
open Go.Value renaming slice->oS
set_option maxRecDepth 100000
set_option maxHeartbeats 6400000
variable{n:Nat}{w:World}{cs1 cs2 cs3 cs4 cs5 cs6 cs7 cs8 cs9:List Value}
def qf0(n:Nat)(b:qay)(d:Int)(f:Int):Option Bool:=(qnO n b 1048576).bind fun A=>bif decide (A<0) then V true else(qiX n b).bind fun B=>(qhy n B d f).bind fun(r4,x)=>(qiX n b).bind fun a=>(qfE n a d f).bind fun(c,y)=>((qi9 n c r4).bind fun v=>bif (!v) then V true else V (y != x)).bind fun b1=>bif b1 then V false else(qiX n b).bind fun k=>(qnG n a k).bind fun l=>bif (!l) then V false else(qlk n (⟨(⟨(⟨a.Ac.Au.Ay⟩:qp),(⟨a.Ac.Aa.Ab,a.Ac.Aa.As,a.Ac.Aa.Ak⟩:qd),a.Ac.Ai⟩:qh),(⟨a.Af.Bd,a.Af.Am,a.Af.Ar,a.Af.Aj,a.Af.Ap⟩:qu),a.Av,a.Aq⟩:qay) 1).bind fun(m,_,_,_,_,_,_,_)=>(bif decide (m<0) then V true else(qi9 n c (⟨r4.Bl,r4.Bf,r4.Ah⟩:qg)).bind fun u=>bif (!u) then V true else V (y != x)).bind fun b2=>bif b2 then V false else(qkh n (⟨c.Bl,c.Bf,c.Ah⟩:qg) 1).bind fun(g,z)=>(qiA n (⟨c.Bl,z,c.Ah⟩:qg) 1).bind fun h=>bif decide (h<0) then V false else bif (h != g) then V false else(qiX n b).bind fun p=>(qfE n p d f).bind fun(r,s)=>((qi9 n r (⟨r4.Bl,r4.Bf,r4.Ah⟩:qg)).bind fun t=>bif (!t) then V true else V (s != x)).bind fun b3=>bif b3 then V false else(qiA n (⟨c.Bl,z,c.Ah⟩:qg) 1).bind fun i=>bif decide (i<0) then V false else bif (i != g) then V false else V true
theorem qla{v:qay}{o p}(l:Ro w v cs1){r:Bool}(F:qf0 n v o p=V r):RetV prog 3 [oV qay cs1,vi o,vi p] w r:=by
 obtain⟨_,_,_,_,_,_,_,_,_,_,_,_,_,_,rfl,s1,s2,s3,s4,s5,s6,s7⟩:=qdj l;refine zV 106 func3 Z fun h=>zSR (qw h Z Z fun _ T h=>X1 10 0 h Z (zcI h F (qtl (h.old l)) Z fun _ _ h F=>X0 8 Z (qi Z F ?_ ?_)))<;>intro F
 ·exact X0 4 Z (rb h F Z)
 refine X1 4 0 h Z (zcO h F (qkr (h.old l)) Z fun _ _ _ _ h F=>?_);obtain⟨_,_,_,_,_,_,_,_,_,_,_,_,_,_,rfl,-,-,-,-,-,-,-⟩:=qdj (h.own 0 Z);refine zp2 Z ?_;have f:Rg (old w) w (old w) w:=.start (fun _ h=>h);obtain⟨⟨r4,r5⟩,hr3,F⟩:=qc F;refine qlb (r4,r5) f h (cB 7 Z) (qo2 (f.regOld h) (Rg.ownR 0 h Z) hr3) Z Z Z Z fun w4 _ _ a g hz1 hv1=>?_;have hL1:=h.ext g.below;have z:=Up.box 1 h g Z;have s15:=Up.S f h g s1;have s16:=Up.S f h g s2;have s17:=Up.S f h g s3;have s18:=Up.S f h g s4;have s19:=Up.S f h g s5;have s20:=Up.S f h g s6;have s21:=Up.S f h g s7;have R:=Up.R f h g l;have ha2:=Up.boxP (x:=v) f 1 h g Z (f.inR h l);have hb1:=h.below.trans (g.below.mono h.below.size);replace h:=hz1;obtain⟨_,_,rfl,b5,hv2⟩:=qlx hv1;have ha3:=b5;obtain⟨u,s,rfl,b9⟩:=qak b5;obtain⟨_,rfl,hr5⟩:=qj1 hv2;obtain rfl:=hr5;refine zp3 Z (qq qa h Z Z Z fun _ k h=>zs 0 h Z fun _ h=>X0 4 Z (zc 0 (z.below h.below) Z (zcO h F (qkr (h.old (GoT.mono R a.old))) Z fun m _ S2 _ h F=>?_)));obtain⟨K,A,L,B,M,C,N,D,O,H,P,I,Q,J,rfl,-,-,-,-,-,-,-⟩:=qdj (h.own 0 Z);refine qq qa h Z Z Z fun _ W h=>zs 0 h Z fun _ h=>X1 6 0 h Z ?_;obtain⟨⟨d,r9⟩,hr7,F⟩:=qc F;refine qaS (d,r9) h (cB 9 Z) (qkT (h.own 1 Z) hr7) Z Z Z Z fun _ _ _ hv3 hr8=>?_;obtain⟨S4,_,_,_,rfl,b6,hr9⟩:=hv3.cons hr8;obtain⟨c,b,rfl,-⟩:=qak (b6.sh.own 0 Z);obtain⟨rfl,h⟩:=b6.lastI hr9;refine zp3 Z (qq qa h Z Z Z fun _ i h=>zs 0 h Z fun _ h=>X0 4 Z ?_);obtain⟨KF3,a5,_,F,Y⟩:=bindE F;refine qa0 (fun e w'=>∃b1,KF3 b1=V r/\e=[(1,vi o),(2,vi p),(3,vp T),(8,vp k),(9,vi r5),(10,vp W),(11,vp i),(12,vi r9),(48,.bool b1)]/\SH w4 w' [oX i (qbK d c b) 41,oW S4 (d:qg) (qbK d c b),oX W (qpI m K L M N O P Q A B C D H I J) 57,oW S2 (m:qay) (qpI m K L M N O P Q A B C D H I J),oX k (qbK r4 u s) 41]) ?_ ?_
 ·refine X2 3 0 4 h Z (zcB h F (ql4 (h.own 1 Z) (h.old (GoT.mono ha3 a.old))) Z fun _ _ h F=>zp2 Z (qn (t:=44) F Z ?_ ?_))<;>intro F
  ·refine X0 5 Z ?_;obtain rfl:=qb F;exact rG ⟨_,Y,rfl,h⟩ Z
  refine X0 8 Z ?_;obtain rfl:=qb F;exact rG ⟨_,Y,rfl,h⟩ Z
 rintro _ _ ⟨b1,F,rfl,h⟩;subst a5;refine qi Z F ?_ ?_<;>intro F
 ·refine X0 4 Z ?_;replace h:=h.unbase a.below ⟨fun _ h=>h,⟨fun _ h=>h,⟨fun _ h=>h,⟨fun _ h=>h,⟨fun _ h=>h,G⟩⟩⟩⟩⟩;exact rb h F Z
 refine zKSS (rA [] [2] h Z fun _ h=>M1 1 [0] 0 (h.p [2] Z) Z (Al 1 3 0 z (h.p [2] Z) Z (Ao 2 7 Z (zcO h F (qkr (h.old (GoT.mono R a.old))) Z fun _ _ _ _ h F=>?_))));obtain⟨_,_,_,_,_,_,_,_,_,_,_,_,_,_,rfl,-,-,-,-,-,-,-⟩:=qdj (h.own 0 Z);refine Ag (h.p [3] Z) (Ao 3 15 Z (zcB h F (qtr (h.own 4 Z) (h.own 0 Z)) Z fun _ _ h F=>G0 31 [4] (h.p [3] Z) Z (Ad (qi Z F ?_ ?_))))<;>intro F
 ·refine X0 4 Z ?_;replace h:=h.unbase a.below ⟨fun _ h=>h,⟨fun _ h=>h,⟨fun _ h=>h,⟨fun _ h=>h,⟨fun _ h=>h,⟨fun _ h=>h,G⟩⟩⟩⟩⟩⟩;exact rb h F Z
 refine X1 9 3 h Z ?_;replace h:=h.p [4,0,1,2,3,5] Z;obtain⟨_,_,_,h⟩:=qvK h;replace h:=h.p [2,0,1,3,4,5,6,7] Z;obtain⟨_,_,_,h⟩:=qtf h;replace h:=h.p [2,0,1,3,4,5,6,7,8,9] Z;obtain⟨_,h⟩:=qsz h;replace h:=h.p [2,0,1,3,4,5,6,7,8,9] Z;obtain⟨_,_,_,h⟩:=qtA h;replace h:=h.p [5,6,4,0,1,2,3,8,9,11] Z;obtain⟨⟨r12,x1,x2,x3,x4,x5,x6,x7⟩,a6,F⟩:=qc F;refine qcv r12 (cB 12 Z) (qqF h a6) Z Z Z Z ?_;rintro _ ⟨S18,S19,S20,S21,S22,S23,S24,h⟩;replace h:SH _ _ [oW S24 (x7:List qf) [oS Q m.Aq.length J],oW S23 (x6:List Int) [oS P m.Av.length I],oW S22 (x5:List qE) [oS O m.Ac.Ai.length H],oW S21 (x4:List qR) [oS N m.Ac.Aa.Ak.length D],oW S20 (x3:List ByteArray) [oS M m.Ac.Aa.As.length C],oW S19 (x2:List ql) [oS L m.Ac.Aa.Ab.length B],oW S18 (x1:List qz) [oS K m.Ac.Au.Ay.length A],oX i (qbK d c b) 41,oW S4 (d:qg) (qbK d c b),oX k (qbK r4 u s) 41]:=h;refine X0 4 Z ?_;obtain⟨KF2,a4,_,F,y⟩:=bindE F;refine qa0 (fun e w'=>∃b2,KF2 b2=V r/\e=[(1,vi o),(2,vi p),(3,vp T),(8,vp k),(9,vi r5),(11,vp i),(69,.bool b2)]/\SH w4 w' [oX i (qbK d c b) 41,oW S4 (d:qg) (qbK d c b),oX k (qbK r4 u s) 41]) ?_ ?_
 ·refine X0 4 Z (qn (t:=59) F Z ?_ ?_)<;>intro F
  ·refine X0 11 Z ?_;replace h:=h.p [7,8,9] Z;obtain rfl:=qb F;exact rG ⟨_,y,rfl,h⟩ Z
  refine X2 5 7 9 h Z (zcB h F (ql4 (h.own 8 Z) (qfp _ (h.oldS (b9.mono a.old)))) Z fun _ _ h F=>X0 4 Z (qn (t:=65) F Z ?_ ?_))<;>intro F
  ·refine X0 5 Z ?_;replace h:=h.p [7,8,9] Z;obtain rfl:=qb F;exact rG ⟨_,y,rfl,h⟩ Z
  refine X0 8 Z ?_;replace h:=h.p [7,8,9] Z;obtain rfl:=qb F;exact rG ⟨_,y,rfl,h⟩ Z
 rintro _ _ ⟨b2,F,rfl,h⟩;subst a4;refine qi Z F ?_ ?_<;>intro F
 ·refine X0 4 Z ?_;replace h:=h.unbase a.below ⟨fun _ h=>h,⟨fun _ h=>h,⟨fun _ h=>h,G⟩⟩⟩;exact rb h F Z
 refine X1 9 0 h Z ?_;replace h:=h.p [1,0,2] Z;obtain⟨_,h⟩:=qkx h;obtain⟨⟨b8,x8⟩,a7,F⟩:=qc F;refine qcv b8 (cB 13 Z) (qql h a7) Z Z Z Z ?_;rintro _ ⟨S,h⟩;replace h:SH _ _ [oW S (x8:List Int) [oS c d.Bf.length b],oX i (qbK d c b) 41,oX k (qbK r4 u s) 41]:=h;refine X1 10 1 h Z (zcI h F (qmU (show GoT.R _ _ ((⟨d.Bl,x8,d.Ah⟩:qg):qg) _ from⟨[vi d.Bl],[oS c d.Bf.length b,vi d.Ah],rfl,rfl,⟨[oS c d.Bf.length b],[vi d.Ah],rfl,(h.own 0 Z),rfl⟩⟩)) Z fun _ _ h F=>X0 8 Z (qi Z F ?_ ?_))<;>intro F
 ·refine X0 4 Z ?_;replace h:=h.unbase a.below ⟨fun _ h=>h,⟨fun _ h=>h,⟨fun _ h=>h,G⟩⟩⟩;exact rb h F Z
 refine X0 8 Z (qi Z F ?_ ?_)<;>intro F
 ·refine X0 4 Z ?_;replace h:=h.unbase a.below ⟨fun _ h=>h,⟨fun _ h=>h,⟨fun _ h=>h,G⟩⟩⟩;exact rb h F Z
 refine zKSR (zc 0 (z.below h.below) Z (zcO h F (qkr (h.old (GoT.mono R a.old))) Z fun _ _ _ _ h F=>?_));obtain⟨_,_,_,_,_,_,_,_,_,_,_,_,_,_,rfl,-,-,-,-,-,-,-⟩:=qdj (h.own 0 Z);refine zp2 Z ?_;obtain⟨⟨r17,r18⟩,a8,F⟩:=qc F;refine qaS (r17,r18) h (cB 9 Z) (qkT (h.own 0 Z) a8) Z Z Z Z fun _ _ _ hv6 a9=>?_;obtain⟨_,_,_,_,rfl,b7,b4⟩:=hv6.cons a9;obtain⟨_,_,rfl,-⟩:=qak (b7.sh.own 0 Z);obtain⟨rfl,h⟩:=b7.lastI b4;refine zp3 Z (qq qa h Z Z Z fun _ _ h=>zs 0 h Z fun _ h=>X0 4 Z ?_);obtain⟨KF1,a3,_,F,X⟩:=bindE F;refine qa0 (fun e w'=>∃b3,KF1 b3=V r/\e=[(11,vp i),(14,vi b8),(97,.bool b3)]/\SH w4 w' [oW S (x8:List Int) [oS c d.Bf.length b],oX i (qbK d c b) 41]) ?_ ?_
 ·refine X2 3 0 5 h Z (zcB h F (ql4 (h.own 1 Z) (qfp _ (h.oldS (b9.mono a.old)))) Z fun _ _ h F=>zp2 Z (qn (t:=93) F Z ?_ ?_))<;>intro F
  ·refine X0 5 Z ?_;replace h:=h.p [3,4] Z;obtain rfl:=qb F;exact rG ⟨_,X,rfl,h⟩ Z
  refine X0 8 Z ?_;replace h:=h.p [3,4] Z;obtain rfl:=qb F;exact rG ⟨_,X,rfl,h⟩ Z
 rintro _ _ ⟨b3,F,rfl,h⟩;subst a3;refine qi Z F ?_ ?_<;>intro F
 ·refine X0 4 Z ?_;replace h:=h.unbase a.below ⟨fun _ h=>h,⟨fun _ h=>h,G⟩⟩;exact rb h F Z
 refine X1 9 1 h Z (zcI h F (qmU (show GoT.R _ _ ((⟨d.Bl,x8,d.Ah⟩:qg):qg) _ from⟨[vi d.Bl],[oS c d.Bf.length b,vi d.Ah],rfl,rfl,⟨[oS c d.Bf.length b],[vi d.Ah],rfl,(h.own 0 Z),rfl⟩⟩)) Z fun _ _ h F=>X0 8 Z (qi Z F ?_ ?_))<;>intro F
 ·refine X0 4 Z ?_;replace h:=h.unbase a.below ⟨fun _ h=>h,⟨fun _ h=>h,G⟩⟩;exact rb h F Z
 refine X0 8 Z (qi Z F ?_ ?_)<;>intro F
 ·refine X0 4 Z ?_;replace h:=h.unbase a.below ⟨fun _ h=>h,⟨fun _ h=>h,G⟩⟩;exact rb h F Z
 refine X0 5 Z ?_;replace h:=h.unbase a.below ⟨fun _ h=>h,⟨fun _ h=>h,G⟩⟩;exact rb h F Z
end Go.Fw


namespace Go.Fw
open Go
set_option maxRecDepth 100000
theorem qCu{a:List Int}:∀(b done:List Int) (i1:Int),a.length=done.length+b.length->0<=i1->i1+b.length<=4000000000000->a.length<=1048576 ->
  Ev (fun n=>qbh a n (done++b) i1 (done.length:Int)) (done++pre (fun q=>i1+(q:Int)) b.length,i1+(b.length:Int),(a.length:Int))
 | [],done,i1,h,_,_,_=>by
  have e:done.length=a.length:=by simpa using h.symm
  refine Ev.succ ?_;rw[e];simp only[qbh,qk (je _),cond_false];simp[pre];exact .done
 |x::b,done,i1,h,h0,h1,hl=>by
  rw[jS] at h h1;have f:done.length<a.length:=by omega
  have d:idx (done++x::b) (done.length:Int)=V x:=by
   rw[qdA (by rw[jg,jS];omega),List.getElem_append_right (je _)];simp
  have c:setS (done++x::b) (done.length:Int) i1=(done++[i1])++b:=by
   unfold setS;rw[jr,List.set_append_right _ _ (je _),Nat.sub_self];simp
  have k:W64 (i1+1)=i1+1:=qM (by omega) (by omega);have g:=qCu (a:=a) b (done++[i1]) (i1+1) (by rw[jg,jm];omega) (by omega) (by omega) hl;rw[jg,jm] at g;refine Ev.succ ?_;simp only[qbh,qj f,cond_true,d,jd,c,k,qc4 (show done.length<9223372036854775807 by omega)];have e1:(done++[i1])++pre (fun q=>i1+1+(q:Int)) b.length=done++pre (fun q=>i1+(q:Int)) (x::b).length:=by
   rw[jq,jS];refine congrArg (done++·) ?_;unfold pre;rw[List.range_succ_eq_map,Ja,Jq,List.singleton_append];have l:List.map ((fun q:Nat=>i1+(q:Int)) ∘ Nat.succ) (List.range b.length)=List.map (fun q:Nat=>i1+1+(q:Int)) (List.range b.length):=List.map_congr_left fun q _=>by
    show i1+((q+1:Nat):Int)=i1+1+(q:Int);omega
   rw[l];simp
  have i:i1+1+(b.length:Int)=i1+((x::b).length:Int):=by rw[jS];omega
  rw[<-e1,<-i];exact g
theorem qCn{a:List Int}{k:Int}(b:0<=k)(d:k<=2000000000000)(c:a.length<=1048576):Ev (fun n=>qaz n a k) (k+(a.length:Int),pre (fun q=>k+(q:Int)) a.length):=by
 unfold qaz;exact Ev.bind (qCu a [] k (by simp) b (by omega) c) .done
theorem qCq{m:Nat}{k:Int}(d:0<=k)(f:k<=2000000000000)(g:m<=1048576):Ev (fun n=>qiR n (pre (fun q=>k+(q:Int)) m) k) (k+(m:Int)):=by
 have:=loopF (Lf:=fun n s i=>qdI (pre (fun q=>k+(q:Int)) m) n s i) (S:=fun i=>k+(i:Int)) (len:=m) (fin:=.nxt (k+(m:Int),(m:Int)))
  (fun n=>by simp only[qdI,qnC,qk (je _),cond_false])
  (fun i hi X c=>by
   have a:W64 (k+(i:Int)+1)=k+((i+1:Nat):Int):=by rw[qM (by omega) (by omega)];omega
   simp only[qdI,qnC];refine Ev.tt (qj hi) (Ev.bindN (qh0 hi) (Ev.ff (by simp) ?_));rw[a,wS i];exact c)
 unfold qiR;refine Ev.bind (b:=.nxt (k+(m:Int),(m:Int))) ?_ .done;simpa using this
theorem qAO{a:qg}{k:Int}(b:0<=k)(g:k<=900000000000)(d:qpC a<=1048576):∃z y,Ev (fun n=>qkh n a k) (z,y)/\Ev (fun n=>qiA n (⟨a.Bl,y,a.Ah⟩:qg) k) z/\(k<=z/\z<=k+16*(qpC a:Int)):=by
 have c:a.Bf.length<=1048576:=d;have f:qpC a=a.Bf.length:=rfl;refine⟨k+(a.Bf.length:Int),pre (fun q=>k+(q:Int)) a.Bf.length,?_,?_,by omega,by omega⟩
 ·unfold qkh;exact Ev.bind (qCn b (by omega) c) .done
 ·unfold qiA;exact Ev.bind (qCq b (by omega) c) (Ev.ff (by simp;omega) .done)

theorem qm8{j:qay}{node:Int}{mode:Int}(l:qr8 j)(C:rngI node)(D:rngI mode):Ev (fun n=>qf0 n j node mode) true:=by
 unfold qf0;obtain⟨H,e1,g⟩:=qBZ (a:=j) (left:=1048576) l (by omega) (by omega);refine Ev.bind e1 ?_;rcases g with g|⟨p1,g⟩
 ·exact Ev.tt (by simpa using g) .done
 refine Ev.ff (by simp;omega) ?_;have c:qk5 j<=1048576:=by omega
 have y:=qzl l c;obtain⟨⟨R0,R1⟩,x,hi,d⟩:=qrK (j:=j) (node:=node) (mode:=mode) y;have d:qpC R0<=1048576:=d;refine Ev.bind (quB c) ?_;refine Ev.bind x ?_;refine Ev.bind (quB c) ?_;refine Ev.bind hi ?_;refine Ev.bind (b:=false) (Ev.bind (qvf d) (Ev.ff Z (Ev.now (by simp)))) (Ev.ff Z ?_);refine Ev.bind (quB c) ?_;refine Ev.bind (qB9 c) (Ev.ff Z ?_);obtain⟨F,⟨m,o,p,r,s,t,u⟩,i,z,A⟩:=qwy (a:=j) (k:=1) (by omega) (by omega) c;refine Ev.bind i ?_;refine Ev.bind (b:=false) (Ev.ff (by simp;omega) (Ev.bind (qvf d) (Ev.ff Z (Ev.now (by simp))))) (Ev.ff Z ?_);obtain⟨I,v,h,f,B⟩:=qAO (a:=R0) (k:=1) (by omega) (by omega) d;refine Ev.bind h ?_;refine Ev.bind f (Ev.ff (by simp;omega) (Ev.ff qaJ ?_));refine Ev.bind (quB c) ?_;refine Ev.bind hi ?_;refine Ev.bind (b:=false) (Ev.bind (qvf d) (Ev.ff Z (Ev.now (by simp)))) (Ev.ff Z ?_);refine Ev.bind f (Ev.ff (by simp;omega) (Ev.ff qaJ ?_));exact .done
end Go.Fw
