/- Plain laws: in a monotone block the delays and the slews of the links grow with the slew. -/
import Derived.Test.YtbmbbkjleheokaaGreatDoorQ8
import Derived.Test.YtbmbbkjleheokaaGreatDoorQ7
open Option renaming bind_some->jd, some->V, none->U
open Bool renaming and_eq_true->je
open Nat renaming le_refl->jf, succ_mul->jK, zero_add->Ji
open List renaming length_map->jr, drop_eq_getElem_cons->jJ, all_eq_true->jM
open Int renaming toNat_natCast->jp, mul_le_mul_of_nonneg_right->jx, le_refl->jC, mul_nonneg->jP, mul_le_mul_of_nonneg_left->jR, mul_assoc->jV, le_trans->Ja, add_zero->Jf

namespace Go.Fw
open Go
set_option maxRecDepth 100000
theorem qtx{a b f c mode:Int}(g:0<b)(d:0<c)(m:0<=a)(k:0<=f)(h:a*c<=f*b)(p:mode=0\/mode=1):divI a b mode<=divI f c mode:=by
 rw[qka m g,qka k d];have e:=Int.mul_ediv_add_emod a b;have r:=Int.mul_ediv_add_emod f c;have n:=Int.emod_nonneg a (show b≠0 by omega);have t:=Int.emod_nonneg f (show c≠0 by omega);have l':=Int.emod_lt_of_pos f d;have l:∀q:Int,f<=q*c->a<=q*b:=fun q i=>by
  refine Int.le_of_mul_le_mul_right (show a*c<=q*b*c from ?_) d;refine Ja h (Ja (jx i (Int.le_of_lt g)) ?_);rw[Int.mul_right_comm];exact jC _
 rcases p with rfl|rfl
 ·rw[if_neg (by omega),if_neg (by omega)];refine Int.le_ediv_of_mul_le d (Int.le_of_mul_le_mul_right (show a / b*c*b<=f*b from ?_) g);refine Ja ?_ h;rw[Int.mul_right_comm];exact jx (by rw[Int.mul_comm];omega) (Int.le_of_lt d)
 ·have fin:∀q:Int,a<=q*b->(if (1:Int)=1/\a % b > 0 then a / b+1 else a / b)<=q:=fun q i=>by
   have o:a / b<=q:=Int.ediv_le_of_le_mul g i;split
   ·rename_i hc
    refine Int.lt_of_not_ge fun s=>?_;have:q=a / b:=by omega
    rw[this,Int.mul_comm] at i;omega
   ·exact o
  refine fin _ (l _ ?_);split
  ·rw[Int.add_mul,Int.one_mul,Int.mul_comm (f / c)];omega
  ·rw[Int.mul_comm (f / c)];omega
theorem qsf{m:List Int}(h:AxOk m){g:Nat->Int}(s:∀i,i+1<m.length->g i<=g (i+1)){i f:Nat}{a b c l k c':Int}(W:Wt m i a b)(A:WAt m i a b c)(W':Wt m f l k)(A':WAt m f l k c')(H:c<=c') :
  (a*g i+b*g (i+1))*(l+k)<=(l*g f+k*g (f+1))*(a+b):=by
 have z:∀d i,i+d<m.length->g i<=g (i+d):=by
  intro d
  induction d with
  |zero=>intro i _;exact jC _
  |succ d ih=>intro i hi;exact Ja (ih i (by omega)) (s (i+d) (by omega))
 have n:∀x y,x<=y->y<m.length->g x<=g y:=fun x y D F=>by
  have:=z (y-x) x (by omega);rwa [show x+(y-x)=y by omega] at this
 have a0:=W.a0;have b0:=W.b0;have t:=W'.a0;have r:=W'.b0;have lo:(l+k)*g f<=l*g f+k*g (f+1):=by
  rw[Int.add_mul];refine Int.add_le_add_left ?_ _;rcases Int.lt_or_le 0 k with o|o
  ·exact jR (n _ _ (by omega) (W'.nx o)) r
  ·rw[show k=0 by omega];omega
 have p:i<f\/(i=f/\b=0)->(a*g i+b*g (i+1))*(l+k)<=(l*g f+k*g (f+1))*(a+b):=fun hi=>by
  have up:a*g i+b*g (i+1)<=(a+b)*g f:=by
   rw[Int.add_mul];refine Int.add_le_add (jR (n _ _ (by omega) W'.il) (by omega)) ?_;rcases Int.lt_or_le 0 b with o|o
   ·exact jR (n _ _ (by omega) W'.il) b0
   ·rw[show b=0 by omega];omega
  refine Ja (jx up (by omega)) ?_;refine Ja ?_ (jx lo (by omega));rw[jV,Int.mul_comm (a+b),Int.mul_comm (l+k)];exact jC _
 rcases Nat.lt_trichotomy i f with hi|hi|hi
 ·exact p (.inl hi)
 ·subst hi;rcases A with⟨A,_⟩|⟨A,A1,A2⟩
  ·exact p (.inr ⟨rfl,A⟩)
  rcases A' with⟨B,B1⟩|⟨B,B1,B2⟩
  ·exfalso;omega
  have C:0<=g (i+1)-g i:=by have:=s i (W.nx A);omega
  have e:l+k=a+b:=by omega
  rw[e];refine jx ?_ (by omega);obtain⟨u,J⟩:∃u,u=c'-c:=⟨_,rfl⟩;have e1:l=a-u:=by omega
  have v:k=b+u:=by omega
  have o:=jP (show 0<=u by omega) C;rw[e1,v,Int.sub_mul,Int.add_mul];rw[Int.mul_sub] at o;omega
 ·exfalso;have I:=h.inc i f hi W.il;have c1:at0 m i<=c:=by rcases A with⟨_,A⟩|⟨A,_,A2⟩<;>omega
  rcases A' with⟨B,B1⟩|⟨B,B1,B2⟩
  ·omega
  ·have:at0 m (f+1)<=at0 m i:=by
    by_cases e:f+1=i
    ·rw[e];exact jC _
    ·have:=h.inc i (f+1) (by omega) W.il;omega
   omega
theorem qtk{a:List Int}{x y:Int}(h:x<=y):clampV a x<=clampV a y:=by
 unfold clampV;generalize at0 a (a.length-1)=q;generalize at0 a 0=p
 repeat' split
 all_goals omega
theorem qrs{t:qI}(h:TbOk t/\∀k,0<=at0 t.Bf k)(f:monB t=true){s s' ld mode:Int}(z:s<=s')(y:mode=0\/mode=1) :
  ∃r r':Int,0<=r/\r<=r'/\r'<=1000000/\Ev (fun n=>qda n t s ld mode) r/\Ev (fun n=>qda n t s' ld mode) r':=by
 obtain⟨h,d⟩:=h;obtain⟨i,a,b,W,A,p⟩:=qkD h.s s;obtain⟨H,D,F,W',A',C⟩:=qkD h.s s';obtain⟨j,a2,b2,W2,_,m⟩:=qkD h.l ld;obtain⟨D0,_,_,_,_,S0,l⟩:=qrM h W W2 p m;obtain⟨D0',S1',_,_,_,S0',c⟩:=qrM h W' W2 C m;refine⟨_,_,(qi3 (mode:=mode) (M:=(sumS t i j a b a2 b2)) D0 (S0 d) ?_).1,qtx D0 D0' (S0 d) (S0' d) ?_ y,(qi3 (mode:=mode) D0' (S0' d) S1').2,(l mode).1,(c mode).1⟩
 ·have:=jx (show 1<=(a+b)*(a2+b2) by omega) (S0 d);omega
 ·have u:=W2.a0;have g:=W2.b0;have step:∀i j,i+1<t.Bn.length->j<t.Bj.length->tv t i j<=tv t (i+1) j:=fun i j hi x=>by
   unfold monB at f;rw[je,qah] at f;have B:=qvA h hi x;have:=f.2 _ B.1;unfold monS at this;simp only[je,Bool.or_eq_true,decide_eq_true_eq] at this;have e:(i+1)*t.Bj.length+j-t.Bj.length=i*t.Bj.length+j:=by rw[jK];omega
   have o:¬ (i+1)*t.Bj.length+j<t.Bj.length:=by rw[jK];omega
   rw[e] at this;exact this.2.resolve_left o
  have v:∀i,i+1<t.Bn.length->rowS t j a2 b2 i<=rowS t j a2 b2 (i+1):=fun i hi=>by
   refine Int.add_le_add (jR (step i j hi W2.il) (by omega)) ?_;rcases Int.lt_or_le 0 b2 with hp|hp
   ·exact jR (step i (j+1) hi (W2.nx hp)) g
   ·rw[show b2=0 by omega];omega
  have:=qsf h.s v W A W' A' (qtk z);have:=jx this (show 0<=a2+b2 by omega);rw[jV,jV] at this;exact this
theorem quL{y d v c mode:Int}(h:y<=d)(r:IsRoot y v)(f:IsRoot d c):(if mode=1/\v*v<y then v+1 else v)<=(if mode=1/\c*c<d then c+1 else c):=by
 have i:v<=c:=by
  refine Int.le_of_not_gt fun g=>?_;have:=qrb (a:=c+1) (b:=v) (by have:=f.pos;omega) (by omega);have:=r.lo;have:=f.hi;omega
 split
 ·rename_i hc
  by_cases e:v=c
  ·rw[if_pos ⟨hc.1,by rw[<-e];omega⟩];omega
  ·split<;>omega
 ·split<;>omega
theorem qrg{b:qe}{c:qu}(h:blockB b=true)(hc:cornerB c=true)(I:mblockB b=true){k:Nat}(hk:k<(linksL b).length){s s' mode D D' S S':Int}(s0:0<=s)(ss:s<=s')(s1:s'<=1000000)(o:mode=0\/mode=1)
  (e1:Ev (fun n=>qY n b c (gt (linksL b) k) s mode) D) (C:Ev (fun n=>qY n b c (gt (linksL b) k) s' mode) D') (F:Ev (fun n=>qa4 n b (gt (linksL b) k) s mode) S) (H:Ev (fun n=>qa4 n b (gt (linksL b) k) s' mode) S'):D<=D'/\S<=S':=by
 obtain⟨d,_⟩:=qfS h (qfh hk);generalize gt (linksL b) k=x at d e1 C F H;rcases d with⟨i,j,m,net,a,d⟩|⟨j,net,q,d⟩
 ·obtain⟨f,f0,R,sF,_⟩:=qlD hc (kind:=x.Be) (mode:=mode);have B:m<(gt (cellAt b (i:Int)).Av a).Bo.length:=by rw[d.d2];exact d.ml
  have K:m<(gt (cellAt b (i:Int)).Av a).Ba.length:=by rw[d.s2];exact d.ml
  have g:monsB (gt (cellAt b (i:Int)).Av a).Bo=true/\monsB (gt (cellAt b (i:Int)).Av a).Ba=true:=by
   unfold mblockB at I;rw[je,jM] at I;obtain⟨⟨c0,c1⟩,_,_⟩:=qgP (qaz h) d.il;have:=I.2 _ (qfh (show(gt b.Aa.Ab i).Bt.toNat<b.Aq.As.length by omega));rw[jM] at this;have:=this _ (qfh d.al);unfold marcB at this;rw[Bool.or_eq_true,je] at this;exact this.resolve_left fun t=>by
    have t:(!decide ((gt (cellAt b (i:Int)).Av a).Be<=3))=true:=t;rw[decide_eq_true d.k3] at t;cases t
  unfold monsB at g;rw[jM,jM] at g;obtain⟨r,r',y,rr,r1,T,W⟩:=qrs (ld:=load0 b net) (d.dt _ (qfh B)) (g.1 _ (qfh B)) ss o;obtain⟨u,u',u0,uu,u1,X,Y⟩:=qrs (ld:=load0 b net) (d.st _ (qfh K)) (g.2 _ (qfh K)) ss o;have l:(x.Be==1)=true:=by rw[d.kind];rfl
  have M:∀{s r:Int},0<=r->r<=1000000->Ev (fun n=>qda n (gt (gt (cellAt b (i:Int)).Av a).Bo m) s (load0 b net) mode) r->Ev (fun n=>qY n b c x s mode) (divI (r*f) 1000 mode):=fun y r1 rs=>by
   obtain⟨c1,_⟩:=qiY (mode:=mode) y (by omega) (show 0<=f by omega) R;unfold qY;refine Ev.tt l (Ev.bind (qjj h d) ?_);simp only[d.mod,qz B,jd,sF];exact Ev.bind rs (Ev.bind ⟨0,fun n _=>c1 n⟩ .done)
  have p:∀{s u:Int},Ev (fun n=>qda n (gt (gt (cellAt b (i:Int)).Av a).Ba m) s (load0 b net) mode) u->Ev (fun n=>qa4 n b x s mode) u:=fun L=>by
   unfold qa4;refine Ev.tt l (Ev.bind (qjj h d) ?_);simp only[d.mod,qz K,jd];exact Ev.bind L .done
  rw[e1.uniq (M y (by omega) T),C.uniq (M (by omega) r1 W),F.uniq (p X),H.uniq (p Y)];exact⟨qpd (by omega) (jP y (by omega)) (jx rr (by omega)) o,uu⟩
 ·have hw:=qbr h d.nl;have J:=hw.sin q d.kl;have hdl:=qk9 h d.nl;obtain⟨x0,x1⟩:=qkH h d.nl d.kl;have O:gt (exactL b net) q=gt (delaysL b net) (at0 (gt b.Af net).Bk q).toNat:=by
   unfold exactL;rw[qd6 (by rw[jr];exact d.kl),List.getElem_map,qjR d.kl]
  have l:(x.Be==1)=false:=by rw[d.kind];rfl
  have N:∀{s s':Int} n,qY n b c x s mode=qY n b c x s' mode:=fun n=>by
   unfold qY;rw[l];rfl
  have p:∀{s:Int},0<=s->s<=1000000->∃v,IsRoot (4*(250000*(s*s)+gt (exactL b net) q*gt (exactL b net) q)) v /\
    ∃u:Int,u=divI (if mode=1/\v*v<4*(250000*(s*s)+gt (exactL b net) q*gt (exactL b net) q) then v+1 else v) 1000 mode/\Ev (fun n=>qa4 n b x s mode) (if u<1000000 then u else 1000000):=fun {s} s0 s1=>by
   obtain⟨u,u0,⟨v,A,_,e⟩,L,_⟩:=qqY s0 s1 x0 x1 o;refine⟨v,A,u,e,?_⟩;unfold qa4 qkg;refine Ev.ff l (Ev.bind (qkn h d) ?_);simp only[d.ix,qz d.nl,jd,qai d.kl];refine Ev.bind (b:=u) (Ev.bind (qmj h d.nl) ?_) .done;rw[qd2 J.1 (show at0 (gt b.Af net).Bk q<((delaysL b net).length:Int) by omega)];simp only[jd];rw[<-O];exact L
  refine⟨?_,?_⟩
  ·have:D=D':=e1.uniq (by simpa only[N (s:=s) (s':=s')] using C);omega
  ·obtain⟨v,A,u,P,v3⟩:=p s0 (by omega);obtain⟨w,w1,z,Q,w3⟩:=p (s:=s') (by omega) s1;rw[F.uniq v3,H.uniq w3];have hy:=qrb s0 ss;have hv:=A.pos;have:=quL (mode:=mode) (show 4*(250000*(s*s)+gt (exactL b net) q*gt (exactL b net) q)<=4*(250000*(s'*s')+gt (exactL b net) q*gt (exactL b net) q) by omega) A w1;have:=qpd (b:=1000) (by omega) (by split<;>omega) this o;rw[<-P,<-Q] at this;split<;>split<;>omega
end Go.Fw


namespace Go.Fw
open Go Go.Proofs Go.Proofs.Tryz
open Go.RowKit (Below)
open Ch renaming own->oW,box->oX,grp->oG
open GoT renaming v->oV
open Go.Value renaming slice->oS
set_option maxRecDepth 100000
set_option maxHeartbeats 6400000
variable{n:Nat}{w:World}{cs1 cs2 cs3 cs4 cs5 cs6 cs7 cs8 cs9:List Value}
def qqq(_:Nat)(code:(List (IntK .u8))):Option Bool:=V (decide ((code.length:Int) > 4096))
theorem qsn{code:(List (IntK .u8))}(a:Ro w code cs1){r:Bool}(F:qqq n code=V r):RetV prog 9 [oV (List (IntK .u8)) cs1] w r:=by
 obtain⟨_,_,rfl,_⟩:=a;exact zV 6 func9 Z fun h=>X0 11 Z (rb h F Z)

def qf8(l:Int)(m:Int)(a:qax)(c:Int)(d:(List Int))(b:Int):Nat->Int->Option (Flow Bool Int)|0,_=>U|n+1,g=>bif decide (g<(a.Ap.length:Int)) then(idx a.Ap g).bind fun f=>bif (f.Bm != c) then qf8 l m a c d b n (W64 (g+1)) else(bif (b==1) then V (f.Ah.Bd,f.Ba.Bd) else V (f.Ah.Ar,f.Ba.Ar)).bind fun(p,r)=>(qgI n (⟨(⟨a.Ac.Aq.As⟩:qw),(⟨a.Ac.Aa.Ab,a.Ac.Aa.Ak,a.Ac.Aa.Aj⟩:qh),a.Ac.Af⟩:qe) (⟨a.Ai.Bi,a.Ai.Ay,a.Ai.Bb,a.Ai.Au,a.Ai.Bc⟩:qu) d r b).bind fun(h,i,k)=>bif (k==0) then bif ((W64 (p+h))==l) then V (.ret (i==m)) else V (.ret false) else V (.ret false) else V (.nxt g)
def qli(n:Nat)(a_0:(List (IntK .u8))):Option Bool:=(qqq n a_0).bind fun r1=>bif r1 then V true else(qbY n a_0).bind fun(L,M,N,O)=>(qfj n L M N O).bind fun(p,J,c)=>(qbY n a_0).bind fun(d,f,g,h)=>bif (c != 0) then(qh9 n d f g h).bind fun(_,_,s)=>(bif (c==s) then bif (p==0) then V (J==0) else V false else V false).bind fun b1=>V b1 else(qgB n d f g h).bind fun(i,t)=>(qbY n a_0).bind fun(u,v,x,y)=>(qhO n u v x y).bind fun(k,z)=>(qbY n a_0).bind fun(A,B,C,D)=>(qfZ n A B C D).bind fun(l,F)=>(qbY n a_0).bind fun(a,H,b,m)=>(bif (t != 0) then V true else bif (z != 0) then V true else bif (F != 0) then V true else bif ((l.length:Int) != (W64 ((b.length:Int)+1))) then V true else(idx l (b.length:Int)).bind fun P=>V (P != p)).bind fun b2=>bif b2 then V false else(bif (m==0) then V (W64 (0-(W64 (k-p)))) else V (W64 (k-p))).bind fun K=>(bif (i != K) then V true else bif decide (i<0) then(qfB n (⟨(⟨a.Ac.Aq.As⟩:qw),(⟨a.Ac.Aa.Ab,a.Ac.Aa.Ak,a.Ac.Aa.Aj⟩:qh),a.Ac.Af⟩:qe)).bind fun I=>V I else V false).bind fun b3=>bif b3 then V false else(qf8 p J a H b m n 0).bind fun|.ret r=>V r|.nxt _=>V false
theorem qoK{a_0:(List (IntK .u8))}(ha1:Ro w a_0 cs1){r:Bool}(F:qli n a_0=V r):RetV prog 8 [oV (List (IntK .u8)) cs1] w r:=by
 obtain⟨_,_,rfl,s1⟩:=ha1;refine zV 221 func8 Z fun h=>X0 8 Z (zcB h F (qsn ⟨_,_,rfl,(h.oldS s1)⟩) Z fun _ _ h F=>qbb (qk Z F ?_ ?_))<;>intro F
 ·exact X0 4 Z (rb h F Z)
 refine X0 4 Z ?_;have l:Rg (old w) w (old w) w:=.start (fun _ h=>h);obtain⟨⟨r3,r4,r5,r6⟩,hr2,F⟩:=qc F;refine qlX (r3,r4,r5,r6) l h (cB 41 Z) (qdb (l.atB h) ⟨_,_,rfl,(l.inBS h s1)⟩ hr2) Z Z Z Z fun _ _ _ h hv1=>?_;obtain⟨_,_,rfl,hr3,hv2⟩:=qbJ hv1;have hr4:=hr3;obtain⟨_,_,_,_,_,_,_,_,_,_,_,_,_,_,rfl,_,_,_,_,_,_,_⟩:=qbV hr3;replace h:=h.grpAdd 0 Z hr4;obtain⟨_,_,rfl,hr5,hv3⟩:=qbJ hv2;have hr6:=hr5;obtain rfl:=hr5;obtain⟨_,_,rfl,hr7,hv4⟩:=qbJ hv3;have hr8:=hr7;obtain⟨_,_,rfl,_⟩:=hr7;replace h:=h.grpAdd 0 Z hr8;obtain⟨_,rfl,hr9⟩:=qe1 hv4;have hr10:=hr9;obtain rfl:=hr9;refine zp5 Z (qj qa h Z Z Z fun _ v h=>zs 0 h Z fun _ h=>X1 10 0 h Z ?_);obtain⟨⟨r8,r9,r10⟩,hr11,F⟩:=qc F;refine qaG (r8,r9,r10) h (cB 42 Z) (qn0 (h.grp 1 1 Z Z) (h.grp 1 0 Z Z) hr11) Z Z Z Z fun _ _ _ hv5 hr12=>?_;obtain⟨_,_,rfl,hv6,hr13⟩:=hv5.consI hr12;obtain⟨_,_,rfl,hv7,hr14⟩:=hv6.consI hr13;obtain⟨rfl,h⟩:=hv7.lastI hr14;refine X0 11 Z ?_;obtain⟨⟨r12,r13,r14,r15⟩,hr16,F⟩:=qc F;refine qlX (r12,r13,r14,r15) l h (cB 41 Z) (qdb (l.atB h) ⟨_,_,rfl,(l.inBS h s1)⟩ hr16) Z Z Z Z fun _ _ _ h hv9=>?_;obtain⟨_,_,rfl,L,hv10⟩:=qbJ hv9;have hr18:=L;obtain⟨_,_,_,_,_,_,_,_,_,_,_,_,_,_,rfl,_,_,_,_,_,_,_⟩:=qbV L;replace h:=h.grpAdd 0 Z hr18;obtain⟨_,_,rfl,M,hv11⟩:=qbJ hv10;have hr20:=M;obtain rfl:=M;obtain⟨_,_,rfl,N,hv12⟩:=qbJ hv11;have hr22:=N;obtain⟨_,_,rfl,_⟩:=N;replace h:=h.grpAdd 0 Z hr22;obtain⟨_,rfl,O⟩:=qe1 hv12;have hr24:=O;obtain rfl:=O;refine zp5 Z (zs 1 h Z fun _ h=>X0 10 Z (qk Z F ?_ ?_))<;>intro F
 ·refine X1 6 1 h Z ?_;obtain⟨⟨r17,r18,r19⟩,hr25,F⟩:=qc F;refine qaG (r17,r18,r19) h (cB 43 Z) (qnX (h.grp 0 1 Z Z) (h.grp 0 0 Z Z) hr25) Z Z Z Z fun _ _ _ hv13 hr26=>?_;obtain⟨_,_,rfl,hv14,hr27⟩:=hv13.consI hr26;obtain⟨_,_,rfl,hv15,hr28⟩:=hv14.consI hr27;obtain⟨rfl,h⟩:=hv15.lastI hr28;refine X0 9 Z ?_;obtain⟨KF1,hKF1,_,F,a7⟩:=bindE F;refine qay (fun e w'=>∃b1,KF1 b1=V r/\e=[(2,.bool b1)]/\SH w w' []) ?_ ?_
  ·refine X0 5 Z (qg (t:=66) F Z ?_ ?_)<;>intro F
   ·refine X0 6 Z (qg (t:=70) F Z ?_ ?_)<;>intro F
    ·refine X0 7 Z ?_;replace h:=h.grpKeep [1] 0 Z;replace h:=h.p [0,1] Z;replace h:=h.p [] Z;obtain rfl:=qb F;exact rG ⟨_,a7,rfl,h⟩ Z
    refine X0 5 Z ?_;replace h:=h.grpKeep [1] 0 Z;replace h:=h.p [0,1] Z;replace h:=h.p [] Z;obtain rfl:=qb F;exact rG ⟨_,a7,rfl,h⟩ Z
   refine X0 9 Z ?_;replace h:=h.grpKeep [1] 0 Z;replace h:=h.p [0,1] Z;replace h:=h.p [] Z;obtain rfl:=qb F;exact rG ⟨_,a7,rfl,h⟩ Z
  rintro _ _ ⟨b1,F,rfl,h⟩;subst hKF1;exact rb h F Z
 refine X1 7 1 h Z ?_;obtain⟨⟨a9,r22⟩,hr30,F⟩:=qc F;refine qaG (a9,r22) h (cB 44 Z) (qmB (h.grp 0 1 Z Z) (h.grp 0 0 Z Z) hr30) Z Z Z Z fun _ _ _ hv17 hr31=>?_;obtain⟨_,_,rfl,hv18,hr32⟩:=hv17.consI hr31;obtain⟨rfl,h⟩:=hv18.lastI hr32;refine X0 9 Z ?_;obtain⟨⟨r24,r25,r26,r27⟩,hr34,F⟩:=qc F;refine qlX (r24,r25,r26,r27) l h (cB 41 Z) (qdb (l.atB h) ⟨_,_,rfl,(l.inBS h s1)⟩ hr34) Z Z Z Z fun _ _ _ h hv20=>?_;obtain⟨_,_,rfl,P,hv21⟩:=qbJ hv20;have hr36:=P;obtain⟨_,_,_,_,_,_,_,_,_,_,_,_,_,_,rfl,_,_,_,_,_,_,_⟩:=qbV P;replace h:=h.grpAdd 0 Z hr36;obtain⟨_,_,rfl,Q,hv22⟩:=qbJ hv21;have hr38:=Q;obtain rfl:=Q;obtain⟨_,_,rfl,R,hv23⟩:=qbJ hv22;have hr40:=R;obtain⟨_,_,rfl,_⟩:=R;replace h:=h.grpAdd 0 Z hr40;obtain⟨_,rfl,S⟩:=qe1 hv23;have hr42:=S;obtain rfl:=S;refine zp5 Z (zs 2 h Z fun _ h=>X1 10 2 h Z ?_);obtain⟨⟨r29,r30⟩,hr43,F⟩:=qc F;refine qaG (r29,r30) h (cB 28 Z) (qnE (h.grp 0 1 Z Z) (h.grp 0 0 Z Z) hr43) Z Z Z Z fun _ _ _ hv24 hr44=>?_;obtain⟨_,_,rfl,hv25,hr45⟩:=hv24.consI hr44;obtain⟨rfl,h⟩:=hv25.lastI hr45;refine X0 9 Z ?_;obtain⟨⟨r32,r33,r34,r35⟩,hr47,F⟩:=qc F;refine qlX (r32,r33,r34,r35) l h (cB 41 Z) (qdb (l.atB h) ⟨_,_,rfl,(l.inBS h s1)⟩ hr47) Z Z Z Z fun _ _ _ h hv27=>?_;obtain⟨_,_,rfl,T,hv28⟩:=qbJ hv27;have hr49:=T;obtain⟨_,_,_,_,_,_,_,_,_,_,_,_,_,_,rfl,_,_,_,_,_,_,_⟩:=qbV T;replace h:=h.grpAdd 0 Z hr49;obtain⟨_,_,rfl,W,hv29⟩:=qbJ hv28;have hr51:=W;obtain rfl:=W;obtain⟨_,_,rfl,X,hv30⟩:=qbJ hv29;have hr53:=X;obtain⟨_,_,rfl,_⟩:=X;replace h:=h.grpAdd 0 Z hr53;obtain⟨_,rfl,Y⟩:=qe1 hv30;have hr55:=Y;obtain rfl:=Y;refine zp5 Z (zs 3 h Z fun _ h=>X1 10 3 h Z ?_);obtain⟨⟨r37,r38⟩,hr56,F⟩:=qc F;refine qaG (r37,r38) h (cB 45 Z) (ql9 (h.grp 0 1 Z Z) (h.grp 0 0 Z Z) hr56) Z Z Z Z fun _ _ _ hv31 hr57=>?_;obtain⟨_,_,_,_,_,rfl,hv32,hr58⟩:=hv31.consL hr57;obtain⟨rfl,h⟩:=hv32.lastI hr58;refine X0 9 Z ?_;obtain⟨⟨a,H,g,D⟩,hr60,F⟩:=qc F;refine qlX (a,H,g,D) l h (cB 41 Z) (qdb (l.atB h) ⟨_,_,rfl,(l.inBS h s1)⟩ hr60) Z Z Z Z fun _ _ I h hv34=>?_;obtain⟨_,_,rfl,a3,hv35⟩:=qbJ hv34;have hr62:=a3;obtain⟨u,s,k,i,d,b,f,c,p,o,A,x,B,y,rfl,_,_,_,_,_,_,_⟩:=qbV a3;replace h:=h.grpAdd 0 Z hr62;obtain⟨_,_,rfl,a4,hv36⟩:=qbJ hv35;have hr64:=a4;obtain rfl:=a4;obtain⟨_,_,rfl,a5,hv37⟩:=qbJ hv36;have hr66:=a5;obtain⟨C,z,rfl,_⟩:=a5;replace h:=h.grpAdd 0 Z hr66;obtain⟨_,rfl,a6⟩:=qe1 hv37;have hr68:=a6;obtain rfl:=a6;refine zp5 Z (zs 5 h Z fun _ h=>X0 6 Z ?_);obtain⟨KF5,hKF5,_,F,J⟩:=bindE F;refine qay (fun e w'=>∃b2,KF5 b2=V r/\e=[(3,vp v),(4,vi H),(5,oS C g.length z),(6,vi D),(7,vi r8),(8,vi r9),(13,vi a9),(15,vi r29),(145,.bool b2)]/\SH w w' [oG (old w) I [fct (g:(List Int)) [oS C g.length z],fct (a:qax) (qbn a u k d f p A B s i b c o x y)],oX v (qbn a u k d f p A B s i b c o x y) 62]) ?_ ?_
 ·refine X0 4 Z (qg (t:=121) F Z ?_ ?_)<;>intro F
  ·refine X0 25 Z ?_;replace h:=h.p [0,1,3,4,5,6] Z;replace h:=h.p [0,1,3,4,5] Z;replace h:=h.p [0,1,3,4] Z;replace h:=h.p [0,1,2] Z;replace h:=h.p [0,2] Z;obtain rfl:=qb F;exact rG ⟨_,J,rfl,h⟩ Z
  refine X0 6 Z (qg (t:=125) F Z ?_ ?_)<;>intro F
  ·refine X0 21 Z ?_;replace h:=h.p [0,1,3,4,5,6] Z;replace h:=h.p [0,1,3,4,5] Z;replace h:=h.p [0,1,3,4] Z;replace h:=h.p [0,1,2] Z;replace h:=h.p [0,2] Z;obtain rfl:=qb F;exact rG ⟨_,J,rfl,h⟩ Z
  refine X0 6 Z (qg (t:=129) F Z ?_ ?_)<;>intro F
  ·refine X0 17 Z ?_;replace h:=h.p [0,1,3,4,5,6] Z;replace h:=h.p [0,1,3,4,5] Z;replace h:=h.p [0,1,3,4] Z;replace h:=h.p [0,1,2] Z;replace h:=h.p [0,2] Z;obtain rfl:=qb F;exact rG ⟨_,J,rfl,h⟩ Z
  refine X0 14 Z (qg (t:=137) F Z ?_ ?_)<;>intro F
  ·refine X0 9 Z ?_;replace h:=h.p [0,1,3,4,5,6] Z;replace h:=h.p [0,1,3,4,5] Z;replace h:=h.p [0,1,3,4] Z;replace h:=h.p [0,1,2] Z;replace h:=h.p [0,2] Z;obtain rfl:=qb F;exact rG ⟨_,J,rfl,h⟩ Z
  refine X0 7 Z ?_;obtain⟨_,_,F,he2,_,_,_,_,hp2,hq2,rfl,hc10⟩:=(h.sl 1 Z).1.ix F;refine zx hp2 hq2 ⟨he2.1,qD he2.2.1 (h.sl 1 Z).2⟩ Z (X0 1 Z (zc 0 hc10 Z (X0 6 Z ?_)));replace h:=h.p [0,1,3,4,5,6] Z;replace h:=h.p [0,1,3,4,5] Z;replace h:=h.p [0,1,3,4] Z;replace h:=h.p [0,1,2] Z;replace h:=h.p [0,2] Z;obtain rfl:=qb F;exact rG ⟨_,J,rfl,h⟩ Z
 rintro _ _ ⟨b2,F,rfl,h⟩;subst hKF5;refine qk Z F ?_ ?_<;>intro F
 ·refine X0 4 Z ?_;replace h:=h.p [1] Z;exact rb h F Z
 refine X0 14 Z ?_;obtain⟨KF4,hKF4,_,F,hK5⟩:=bindE F;refine qay (fun e w'=>∃i1,KF4 i1=V r/\e=[(3,vp v),(4,vi H),(5,oS C g.length z),(6,vi D),(7,vi r8),(8,vi r9),(13,vi a9),(19,vi i1)]/\SH w w' [oG (old w) I [fct (g:(List Int)) [oS C g.length z],fct (a:qax) (qbn a u k d f p A B s i b c o x y)],oX v (qbn a u k d f p A B s i b c o x y) 62]) ?_ ?_
 ·refine qk Z F ?_ ?_<;>intro F
  ·refine X0 5 Z ?_;obtain rfl:=qb F;exact rG ⟨_,hK5,rfl,h⟩ Z
  refine qfg ?_;obtain rfl:=qb F;exact rG ⟨_,hK5,rfl,h⟩ Z
 rintro _ _ ⟨i1,F,rfl,h⟩;subst hKF4;refine zSS ?_;obtain⟨KF3,hKF3,_,F,a8⟩:=bindE F;refine qay (fun e w'=>∃b3,KF3 b3=V r/\e=[(3,vp v),(4,vi H),(5,oS C g.length z),(6,vi D),(7,vi r8),(8,vi r9),(164,.bool b3)]/\SH w w' [oG (old w) I [fct (g:(List Int)) [oS C g.length z],fct (a:qax) (qbn a u k d f p A B s i b c o x y)],oX v (qbn a u k d f p A B s i b c o x y) 62]) ?_ ?_
 ·refine X0 5 Z (qg (t:=156) F Z ?_ ?_)<;>intro F
  ·refine X0 9 Z ?_;obtain rfl:=qb F;exact rG ⟨_,a8,rfl,h⟩ Z
  refine X0 6 Z (qg (t:=159) F Z ?_ ?_)<;>intro F
  ·refine X1 5 1 h Z (zcB h F (qlT ⟨[oS u a.Ac.Aq.As.length s],[oS k a.Ac.Aa.Ab.length i,oS d a.Ac.Aa.Ak.length b,oS f a.Ac.Aa.Aj.length c,oS p a.Ac.Af.length o],rfl,⟨_,_,rfl,(qbN (h.grp 0 1 Z Z)).1.1⟩,⟨[oS k a.Ac.Aa.Ab.length i,oS d a.Ac.Aa.Ak.length b,oS f a.Ac.Aa.Aj.length c],[oS p a.Ac.Af.length o],rfl,⟨[oS k a.Ac.Aa.Ab.length i],[oS d a.Ac.Aa.Ak.length b,oS f a.Ac.Aa.Aj.length c],rfl,⟨_,_,rfl,(qbN (h.grp 0 1 Z Z)).2.1.1⟩,⟨[oS d a.Ac.Aa.Ak.length b],[oS f a.Ac.Aa.Aj.length c],rfl,⟨_,_,rfl,(qbN (h.grp 0 1 Z Z)).2.2.1.1⟩,⟨_,_,rfl,(qbN (h.grp 0 1 Z Z)).2.2.2.1.1⟩⟩⟩,⟨_,_,rfl,(qbN (h.grp 0 1 Z Z)).2.2.2.2.1.1⟩⟩⟩) Z fun _ _ h F=>X0 4 Z ?_);obtain rfl:=qb F;exact rG ⟨_,a8,rfl,h⟩ Z
  refine X0 7 Z ?_;obtain rfl:=qb F;exact rG ⟨_,a8,rfl,h⟩ Z
 rintro _ _ ⟨b3,F,rfl,h⟩;subst hKF3;refine qk Z F ?_ ?_<;>intro F
 ·refine X0 4 Z ?_;replace h:=h.p [1] Z;exact rb h F Z
 refine X0 6 Z ?_;obtain⟨o2,F,K⟩:=qc F;refine qm (rL (fun m e w'=>∃i2,qf8 r8 r9 a H g D m i2=V o2/\e=[(3,vp v),(4,vi H),(5,oS C g.length z),(6,vi D),(7,vi r8),(8,vi r9),(20,vi i2)]/\SH w w' [oG (old w) I [fct (g:(List Int)) [oS C g.length z],fct (a:qax) (qbn a u k d f p A B s i b c o x y)],oX v (qbn a u k d f p A B s i b c o x y) 62]) n ⟨_,F,rfl,h⟩ Z ?_);rintro m1 _ _ ⟨i2,F,rfl,h⟩;rcases m1 with _|m1
 ·cases F
 refine X1 9 1 h Z (qk Z F ?_ ?_)<;>intro F
 ·refine X1 8 1 h Z ?_;obtain⟨_,_,F,he1,_,_,_,_,hp1,hq1,hr69,hc6⟩:=(qbN (h.grp 0 1 Z Z)).2.2.2.2.2.2.1.ix F;obtain rfl:=qT hr69;refine zx hp1 hq1 ⟨he1.1,qD he1.2.1 (qbN (h.grp 0 1 Z Z)).2.2.2.2.2.2.2⟩ Z (zc 0 hc6 Z (qj qa h Z Z Z fun _ _ h=>zs 0 h Z fun _ h=>X1 9 0 h Z (qk Z F ?_ ?_)))<;>intro F
  ·refine qv Z (X0 5 Z ?_);replace h:=h.p [1,2] Z;exact rK ⟨_,F,rfl,h⟩ Z
  refine X2 21 0 0 h Z ?_;obtain⟨KF2,hKF2,_,F,hK3⟩:=bindE F;refine qay (fun e w'=>∃i3 i4,KF2 (i3,i4)=V o2/\e=[(3,vp v),(5,oS C g.length z),(6,vi D),(7,vi r8),(8,vi r9),(22,vi i3),(23,vi i4)]/\SH w w' [oG (old w) I [fct (g:(List Int)) [oS C g.length z],fct (a:qax) (qbn a u k d f p A B s i b c o x y)],oX v (qbn a u k d f p A B s i b c o x y) 62]) ?_ ?_
  ·refine qk Z F ?_ ?_<;>intro F
   ·refine X2 13 0 0 h Z ?_;replace h:=h.p [1,2] Z;obtain rfl:=qb F;exact rG ⟨_,_,hK3,rfl,h⟩ Z
   refine qfg ?_;replace h:=h.p [1,2] Z;obtain rfl:=qb F;exact rG ⟨_,_,hK3,rfl,h⟩ Z
  rintro _ _ ⟨i3,i4,F,rfl,h⟩;subst hKF2;refine X2 9 1 1 h Z ?_;obtain⟨⟨r45,r46,r47⟩,hr70,F⟩:=qc F;refine qaG (r45,r46,r47) h (cB 47 Z) (qn3 ⟨[oS u a.Ac.Aq.As.length s],[oS k a.Ac.Aa.Ab.length i,oS d a.Ac.Aa.Ak.length b,oS f a.Ac.Aa.Aj.length c,oS p a.Ac.Af.length o],rfl,⟨_,_,rfl,(qbN (h.grp 0 1 Z Z)).1.1⟩,⟨[oS k a.Ac.Aa.Ab.length i,oS d a.Ac.Aa.Ak.length b,oS f a.Ac.Aa.Aj.length c],[oS p a.Ac.Af.length o],rfl,⟨[oS k a.Ac.Aa.Ab.length i],[oS d a.Ac.Aa.Ak.length b,oS f a.Ac.Aa.Aj.length c],rfl,⟨_,_,rfl,(qbN (h.grp 0 1 Z Z)).2.1.1⟩,⟨[oS d a.Ac.Aa.Ak.length b],[oS f a.Ac.Aa.Aj.length c],rfl,⟨_,_,rfl,(qbN (h.grp 0 1 Z Z)).2.2.1.1⟩,⟨_,_,rfl,(qbN (h.grp 0 1 Z Z)).2.2.2.1.1⟩⟩⟩,⟨_,_,rfl,(qbN (h.grp 0 1 Z Z)).2.2.2.2.1.1⟩⟩⟩ (qdv _) (h.grp 0 0 Z Z) hr70) Z Z Z Z fun _ _ _ hv38 hr71=>?_;obtain⟨_,_,rfl,hv39,hr72⟩:=hv38.consI hr71;obtain⟨_,_,rfl,hv40,hr73⟩:=hv39.consI hr72;obtain⟨rfl,h⟩:=hv40.lastI hr73;refine X0 13 Z (qg (t:=209) F Z ?_ ?_)<;>intro F
  ·refine X0 12 Z (qg (t:=216) F Z ?_ ?_)<;>intro F
   ·refine X0 9 Z ?_;replace h:=h.p [1] Z;obtain rfl:=qb F;replace F:=K;exact rb h F Z
   refine X0 6 Z ?_;replace h:=h.p [1] Z;obtain rfl:=qb F;replace F:=K;exact rb h F Z
  refine X0 13 Z ?_;replace h:=h.p [1] Z;obtain rfl:=qb F;replace F:=K;exact rb h F Z
 refine qv Z ?_;obtain rfl:=qb F;replace F:=K;refine X0 4 Z ?_;replace h:=h.p [1] Z;exact rb h F Z
end Go.Fw


namespace Go.Fw
open Go
set_option maxRecDepth 100000
structure Bnd(mode x:Int)(s:qf):Prop where
 e:mode=0->s.Ar<=x
 l:mode=1->x<=s.Bd
theorem Bnd.trans{mode x:Int}{s s':qf}(h:Bnd mode x s)(hi:InS s s'):Bnd mode x s':=⟨fun m=>Ja hi.e (h.e m),fun m=>Ja (h.l m) hi.l⟩
theorem qu4{b:qe}{c:qu}{f:Nat->qf->qf×qf}{d:Nat->Int->Int×Int}{mode:Int}(h:blockB b=true)(g:cornerB c=true)(u:mblockB b=true)(K:SpansS b c f)(P:modeB mode=true)(J:OwnOk b c mode d)
  {k:Nat} (a:k<(linksL b).length) {i:qf} (y:slR i) {x:Int} (F:0<=x) (H:x<=1000000) (v:Bnd mode x i):Bnd mode (d k x).1 (f k i).1/\Bnd mode (d k x).2 (f k i).2:=by
 have t:=(K k i a y).2;obtain⟨⟨e0,e1⟩,⟨l0,l1⟩⟩:=y;obtain⟨⟨l,p1,_⟩,⟨n,_,_,C,_⟩⟩:=qia h g a e0 e1 (mode:=0) (.inl Z);obtain⟨⟨d2,L,_⟩,⟨r,_,_,N,_⟩⟩:=qia h g a e0 e1 (mode:=1) (.inr Z);obtain⟨⟨p,M,_⟩,⟨s,_,_,O,_⟩⟩:=qia h g a l0 l1 (mode:=0) (.inl Z);obtain⟨⟨m,z,_⟩,⟨o,_,_,D,_⟩⟩:=qia h g a l0 l1 (mode:=1) (.inr Z);have I:f k i=(⟨if p<l then p else l,if m > d2 then m else d2⟩,⟨if s<n then s else n,if o > r then o else r⟩):=by
  refine t.uniq ?_;unfold qeK;exact Ev.bind p1 (Ev.bind L (Ev.bind C (Ev.bind N (Ev.bind M (Ev.bind z (Ev.bind O (Ev.bind D .done)))))))
 rw[I];obtain⟨_,A,_,B,_⟩:=J k x a F H;have lo:mode=0->l<=(d k x).1/\n<=(d k x).2:=fun e=>by
  subst e;exact qrg h g u a e0 (v.e Z) H (.inl Z) p1 A C B
 have hi:mode=1->(d k x).1<=m/\(d k x).2<=o:=fun e=>by
  subst e;exact qrg h g u a F (v.l Z) l1 (.inr Z) A z B D
 refine⟨⟨fun e=>?_,fun e=>?_⟩,⟨fun e=>?_,fun e=>?_⟩⟩
 ·have:=lo e;show(if p<l then p else l)<=_;split<;>omega
 ·have:=hi e;show _<=(if m > d2 then m else d2);split<;>omega
 ·have:=lo e;show(if s<n then s else n)<=_;split<;>omega
 ·have:=hi e;show _<=(if o > r then o else r);split<;>omega
section
variable{j:qax}{t:qx}{R:List Nat}{f:Nat->qf->qf×qf}{d:Nat->Int->Int×Int}{start mode:Int}{path:List Int}
theorem qtR(h:blockB j.Ac=true)(n:cornerB j.Ai=true)(c:OwnOk j.Ac j.Ai mode d){s:Int}(s0:0<=s)(s1:s<=1000000)(o:path.length<=200)(g:∀i,i<path.length->∃k:Nat,k<lkB j.Ac/\at0 path i=(k:Int)) :
  ∀i,i<=path.length->∃x u:Int,0<=x/\x<=(i:Int)*5000000/\∀a:Int,-1000000000<=a->a<=1000000000->prS d (a,s) path i=(a+x,u):=by
 intro i
 induction i with
 |zero=>exact fun _=>⟨0,s,by omega,by omega,fun a _ _=>by rw[Jf];rfl⟩
 |succ i ih=>
  intro hi;obtain⟨x,u,p,r,l⟩:=ih (by omega);obtain⟨k,f,m⟩:=g i (by omega);have b:=qoy (s0:=(0,s)) c ⟨s0,s1⟩ g i (by omega);rw[l 0 (by omega) (by omega)] at b;obtain⟨D,⟨D0,D1⟩,De⟩:=qsF h n f (sl:=u) (mode:=mode);have e:=(c k u f b.1 b.2).2.1.uniq De;refine⟨x+D,(d k u).2,by omega,by omega,fun a a0 a1=>?_⟩;show(W64 ((prS d (a,s) path i).1+(d (at0 path i).toNat (prS d (a,s) path i).2).1),(d (at0 path i).toNat (prS d (a,s) path i).2).2)=_;rw[l a a0 a1,m,jp];show(W64 (a+x+(d k u).1),(d k u).2)=_;rw[e,qN (by omega) (by omega),Int.add_assoc]
theorem qu1(a:WkOk j t R)(b:JobT j t f)(c:pathB j start path=true):-1000000000<=(own0 j start mode).1/\(own0 j start mode).1<=1000000000:=by
 obtain⟨k,h,e,y,d,g,_⟩:=qos a b c;have:=qsr a.tg.sr g;rw[qkt] at this;unfold own0 ofS;rw[d];show -1000000000<=(bif mode==1 then y.Ah.Bd else y.Ah.Ar)/\(bif mode==1 then y.Ah.Bd else y.Ah.Ar)<=1000000000;cases mode==1<;>simp only[cond_true,cond_false]<;>omega
theorem qwI(h:qjb j)(b:WkOk j t R)(o:JobT j t f)(hM:mblockB j.Ac=true)(O:modeB mode=true)(C:OwnOk j.Ac j.Ai mode d)(B:pathB j start path=true)(hl:path.length<=200)(P:∀i,i<path.length->∃k:Nat,k<lkB j.Ac/\at0 path i=(k:Int)) :
  ∀i,i<=path.length->∃k:Nat,k<ndB j.Ac/\atP (linksL j.Ac) start path i=(k:Int)/\gt t.Az k=true/\Bnd mode (prS d (own0 j start mode) path i).2 (gt t.Ba k)/\Bnd mode (prS d (own0 j start mode) path i).1 (arS f (linksL j.Ac) t (srcV (srcO j.Ap start)).2.Ah path i):=by
 have p:=qqw (start:=start) (ql0 h.Ap.len b.tg.sr) O;have r:=qu1 (mode:=mode) b o B;have K:=qoy (s0:=own0 j start mode) C p P;have L:=qtR b.tg.bl b.tg.co C p.1 p.2 hl P;have I:=qu8 b o B;intro i
 induction i with
 |zero=>
  intro _;obtain⟨k,F,e,y,ho,hy,_,n,A,hS⟩:=qos b o B;refine⟨k,F,e,n,Bnd.trans ?_ (show InS y.Ba (gt t.Ba k) from hS),?_⟩
  ·show Bnd mode (ofS mode (srcV (srcO j.Ap start)).2.Ba) y.Ba;rw[ho];exact⟨fun m=>by subst m;exact jC _,fun m=>by subst m;exact jC _⟩
  ·show Bnd mode (ofS mode (srcV (srcO j.Ap start)).2.Ah) (srcV (srcO j.Ap start)).2.Ah;exact⟨fun m=>by subst m;exact jC _,fun m=>by subst m;exact jC _⟩
 |succ i ih=>
  intro hi;obtain⟨k,F,e,n,b1,b2⟩:=ih (by omega);obtain⟨l,a,c,g,el,hv,v,M,han,s,ea,X⟩:=qqs b B (show i<path.length by omega);have H:k=a:=by omega
  subst H;obtain⟨c1,_,W⟩:=qtQ b o g hv v M s n;have z:=b.tm.sl k F;obtain⟨g0,g1,g2⟩:=qsK b.tg.bl b.tg.co o.ss g z;obtain⟨S,T⟩:=K i (by omega);obtain⟨r1,r2⟩:=qu4 b.tg.bl b.tg.co hM o.ss O C g z S T b1;obtain⟨Q,hk',e',A⟩:=I i (by omega);have J:Q=k:=by omega
  subst J;have hB:=(o.eq Q F).b n;rw[qkt] at hB;obtain⟨x,u,x0,x1,N⟩:=L i (by omega);have N:=N _ r.1 r.2;have hD:=qsF b.tg.bl b.tg.co g (sl:=(prS d (own0 j start mode) path i).2) (mode:=mode);obtain⟨D,⟨D0,D1⟩,De⟩:=hD;have eD:=(C l _ g S T).2.1.uniq De;have Y:(prS d (own0 j start mode) path i).1=(own0 j start mode).1+x:=congrArg Prod.fst N;refine⟨c,s,X,c1,?_,?_⟩
  ·refine Bnd.trans ?_ W;show Bnd mode (d (at0 path i).toNat (prS d (own0 j start mode) path i).2).2 _;rw[el,jp];exact r2
  ·show Bnd mode (W64 ((prS d (own0 j start mode) path i).1+(d (at0 path i).toNat (prS d (own0 j start mode) path i).2).1)) (plusS (arS f (linksL j.Ac) t (srcV (srcO j.Ap start)).2.Ah path i) (f (at0 path i).toNat (gt t.Ba (frN (linksL j.Ac) (at0 path i).toNat))).1);rw[el,jp,v];have h1:=A.i.e;have h2:=A.i.l;have h3:=A.o;rw[qN (x:=(prS d (own0 j start mode) path i).1+(d l (prS d (own0 j start mode) path i).2).1) (by omega) (by omega)];constructor
   ·intro m;show W64 (_+_)<=_;have:=b2.e m;have:=r1.e m;rw[qN (by omega) (by omega)];omega
   ·intro m;show _<=W64 (_+_);have:=b2.l m;have:=r1.l m;rw[qN (by omega) (by omega)];omega
theorem qvv(h:qjb j)(y:WkOk j t R)(D:modeB mode=true)(r:OwnOk j.Ac j.Ai mode d){s:Int}(s0:0<=s)(s1:s<=1000000)(c:pathB j start path=true)(K:path.length<=100)(u:∀i,i<path.length->∃k:Nat,k<lkB j.Ac/\at0 path i=(k:Int)) :
  Ev (fun n=>qgI n j.Ac j.Ai path s mode) ((prS d (0,s) path path.length).1,(prS d (0,s) path path.length).2,0):=by
 have a:=y.tg.bl;have m:=qp6 h.Ac;rw[a] at m;have o:=qpt h.Ai.Bi;rw[y.tg.co] at o;have g:=qoy (s0:=(0,s)) r ⟨s0,s1⟩ u;have B:=qq3 (v:=viewV j.Ac) (path:=path) (qdR a) (by omega);have f:allN (linkB (linksL j.Ac) path) path.length=true:=by
  unfold pathB at c;rw[je,qah] at c;rw[qah];intro i hi;have:=c.2 i hi;unfold okP at this;unfold linkB;simp only[je,Bool.or_eq_true,decide_eq_true_eq,beq_iff_eq] at this⊢;refine⟨this.1,?_⟩;cases i with
  |zero=>exact .inl Z
  |succ i=>exact .inr this.2.2.symm
 have A:=loopF (Lf:=fun n (x:Int×Int) i=>qdG (V (viewV j.Ac)) j.Ai path mode n x.2 x.1 i) (S:=fun i=>prS d (0,s) path i) (len:=path.length) (fin:=((prS d (0,s) path path.length).2,(prS d (0,s) path path.length).1,(path.length:Int)))
  (fun n=>by simp only[qdG,qp (jf _),cond_false])
  (fun i hi X p=>by
   obtain⟨k,C,l⟩:=u i hi;obtain⟨I,J⟩:=g i (by omega);obtain⟨_,_,F,_,H⟩:=r k _ C I J;have z:prS d (0,s) path (i+1)=(W64 ((prS d (0,s) path i).1+(d k (prS d (0,s) path i).2).1),(d k (prS d (0,s) path i).2).2):=by
    show(W64 _,_)=_;rw[l,jp]
   rw[z] at p;simp only[qdG,qn hi,cond_true,qai hi,jd,l,wS i];exact Ev.bind F (Ev.bind H p))
 unfold qgI;refine Ev.bind (b:=false) (Ev.bind m (Ev.ff Z (Ev.bind o .done))) (Ev.ff Z (Ev.bind (qqr a) (Ev.ff (decide_eq_false (by omega)) (Ev.bind B ?_))));rw[show allN (linkB (viewV j.Ac).links path) path.length=true from f];refine Ev.ff Z (Ev.bind (b:=false) (Ev.bind (b:=true) ?_ (Ev.ff Z (Ev.bind ⟨0,fun n _=>qq7⟩ ?_))) (Ev.ff Z ?_))
 ·unfold qiv;simp only[qdd,jd];rw[show inI s 0 1000000=true from qa9.2 ⟨s0,s1⟩];exact .done
 ·rw[D];exact .done
 ·unfold qjS;exact Ev.bind (Ev.bind A .done) .done
theorem qwE(h:qjb j)(a:path.length<=1048576) :
  (∃code:Int,code≠0/\Ev (fun n=>qh9 n j start path mode) (0,0,code)/\Ev (fun n=>qbo n j mode start path) (U,code)) \/
  ∃t R f,WkOk j t R/\JobT j t f/\modeB mode=true/\pathB j start path=true/\Ev (fun n=>qbo n j mode start path) (wkV j t R,0):=by
 rcases qtl (start:=start) (mode:=mode) h a with⟨code,hne,hs,hi⟩|⟨t,R,hw,hm,hb,hs,hi⟩
 ·refine .inl ⟨code,hne,?_,hi⟩;unfold qh9;exact Ev.bind hs (Ev.tt (qih hne) .done)
 ·rcases qpw (start:=start) h a mode with⟨code,hne,_,hi'⟩|⟨t',R',hw',hs',hi'⟩
  ·have:=hi.uniq hi';unfold wkV at this;cases this
  ·rw[hm,hb] at hi';obtain⟨f,b⟩:=qxF h hs';exact .inr ⟨t',R',f,hw',b,hm,hb,hi'⟩
end
section
variable{code:List (IntK .u8)}
theorem qrG(hk:rngL rng8 code):Ev (fun n=>qli n code) true:=by
 unfold qli qqq;refine Ev.bindN Z (Ev.bif (fun _=>.done) (fun hl=>?_));have hl:code.length<=4096:=by have:=of_decide_eq_false hl;omega
 obtain⟨⟨j,start,path,mode⟩,F,hj,_,L,_,z⟩:=qug (code:=code) ⟨by omega,hk.2⟩ (by omega);dsimp only at hj L z;have h:=hj.ok;have hp:=L.len;refine Ev.bind F ?_;dsimp only;rcases qwE (start:=start) (mode:=mode) h hp with⟨c,hne,hs,hi⟩|⟨t,R,f,hw,hT,hm,hb,hi⟩
 ·have Q:Ev (fun n=>qfj n j start path mode) (0,0,c):=by
   unfold qfj;exact Ev.bind hi (Ev.tt (qih hne) .done)
  refine Ev.bind Q (Ev.bind F (Ev.tt (qih hne) (Ev.bind hs (Ev.bind (b:=true) (Ev.tt (by simp) (Ev.tt Z .done)) .done))))
 ·have Y:=hw.tg.bl;obtain⟨d,g⟩:=qw2 Y hw.tg.co hm;have N:∀i,i<path.length->∃k:Nat,k<lkB j.Ac/\at0 path i=(k:Int):=fun i hi=>qsP hb hi;have r:=qqw (start:=start) (ql0 h.Ap.len hw.tg.sr) hm;have M:=qqI (start:=start) h hw hm g (by omega) N;have o:=qu1 (mode:=mode) hw hT hb;obtain⟨x,u,x0,x1,P⟩:=qtR Y hw.tg.co g r.1 r.2 (by omega) N path.length (jf _);have v:=qvv h hw hm g r.1 r.2 hb z N;rw[P 0 (by omega) (by omega)] at v;have P:=P _ o.1 o.2;have K:=qus (start:=start) h hw hm g (by omega) N;have C:=qwl h hw hT.si (by omega) hb;have H:=qu8 hw hT hb path.length (jf _);have B:=fun O=>qwI h hw hT O hm g hb (by omega) N path.length (jf _);have D:prS d (own0 j start mode) path path.length=((own0 j start mode).1+x,u):=P;have Q:Ev (fun n=>qfj n j start path mode) ((own0 j start mode).1+x,u,0):=by
   unfold qfj;refine Ev.bind hi (Ev.ff Z (Ev.bind M ?_));dsimp only;refine Ev.bindN (qgp (by omega)) ?_;rw[D];exact .done
  have hA:Ev (fun n=>qhO n j start path mode) (ofS mode (arS f (linksL j.Ac) t (srcV (srcO j.Ap start)).2.Ah path path.length),0):=by
   unfold qhO;refine Ev.bind hi (Ev.ff Z (Ev.bind C ?_));simp only[qvq hm];exact .done
  have hF:Ev (fun n=>qfZ n j start path mode) (pre (fun i=>(prS d (own0 j start mode) path i).1) (path.length+1),0):=by
   unfold qfZ;exact Ev.bind hi (Ev.ff Z (Ev.bind M .done))
  have S:idx (pre (fun i=>(prS d (own0 j start mode) path i).1) (path.length+1)) (path.length:Int)=V ((own0 j start mode).1+x):=by
   rw[qgp (by omega),D]
  rw[D] at K B;generalize arS f (linksL j.Ac) t (srcV (srcO j.Ap start)).2.Ah path path.length=A at hA C H B;have X:Ev (fun n=>qgB n j start path mode) (bif mode==1 then W64 (ofS mode A-((own0 j start mode).1+x)) else W64 ((own0 j start mode).1+x-ofS mode A),0):=by
   unfold qgB qkE;refine Ev.bind hi (Ev.ff Z (Ev.bind C ?_));simp only[qvq hm,jd];refine Ev.bind K ?_;dsimp only;cases mode==1<;>exact .done
  obtain⟨k,T,ek,m⟩:=H;have hB:=(hT.eq k T).b m.r;rw[qkt] at hB;have i1:=m.i.e;have i2:=m.i.l;have i3:=m.o;have I:(pre (fun i=>(prS d (own0 j start mode) path i).1) (path.length+1)).length=path.length+1:=qkc;have hAr:-1000000000<=ofS mode A/\ofS mode A<=1000000000:=by
   unfold ofS;cases mode==1<;>simp only[cond_true,cond_false]<;>omega
  refine Ev.bind Q (Ev.bind F (Ev.ff Z (Ev.bind X (Ev.bind F (Ev.bind hA (Ev.bind F (Ev.bind hF (Ev.bind F ?_))))))));refine Ev.bind (b:=false) (Ev.ff Z (Ev.ff Z (Ev.ff Z (Ev.ff ?_ (Ev.bindN S (Ev.now (by simp))))))) (Ev.ff Z ?_)
  ·dsimp only;rw[I,qN (by omega) (by omega)];simp
  refine Ev.bind (b:=bif mode==1 then W64 (ofS mode A-((own0 j start mode).1+x)) else W64 ((own0 j start mode).1+x-ofS mode A)) ?_ ?_
  ·rcases qlG hm with rfl|rfl
   ·refine Ev.tt Z (Ev.now ?_);show V (W64 (0-W64 (ofS 0 A-((own0 j start 0).1+x))))=V (W64 ((own0 j start 0).1+x-ofS 0 A));rw[qN (x:=ofS 0 A-((own0 j start 0).1+x)) (by omega) (by omega)]
    congr 2
    omega
   ·exact Ev.ff Z .done
  refine Ev.bind (b:=false) (Ev.ff (by simp) (Ev.bif (fun a=>?_) fun _=>.done)) (Ev.ff Z ?_)
  ·have J:=qnH h.Ac;cases O:mblockB j.Ac
   ·rw[O] at J;exact Ev.bind J .done
   ·exfalso;obtain⟨_,_,_,_,_,b2⟩:=B O;have a:=of_decide_eq_true a;rcases qlG hm with rfl|rfl
    ·have:=b2.e Z;have a:W64 ((own0 j start 0).1+x-A.Ar)<0:=a;dsimp only at this;rw[qN (by omega) (by omega)] at a;omega
    ·have:=b2.l Z;have a:W64 (A.Bd-((own0 j start 1).1+x))<0:=a;dsimp only at this;rw[qN (by omega) (by omega)] at a;omega
  obtain⟨_,_,_,y,W,hy,hyn,_⟩:=qos hw hT hb;have hsr:=h.Ap.len;have hL:∀d i,i+d=j.Ap.length->(j.Ap.drop i).find? (fun s=>s.Bm==start)=V y->Ev (fun n=>qf8 ((own0 j start mode).1+x) u j start path mode n (i:Int)) (.ret true):=by
   intro d
   induction d with
   |zero=>intro i hi l;rw[List.drop_of_length_le (by omega)] at l;cases l
   |succ d ih=>
    intro i hi l;have p:i<j.Ap.length:=by omega
    rw[jJ p,List.find?_cons] at l;refine Ev.succ ?_;simp only[qf8,wS i];refine Ev.tt (qn p) (Ev.bindN (qz p) ?_);rw[qd6 p];cases hq:(j.Ap[i].Bm==start)
    ·rw[hq] at l;refine Ev.tt (by simp[bne,hq]) (ih (i+1) (by omega) l)
    ·rw[hq] at l;obtain l:=Option.some.inj l;refine Ev.ff (by simp[bne,hq]) ?_;rw[l];have eo:own0 j start mode=(ofS mode y.Ah,ofS mode y.Ba):=by unfold own0;rw[W];rfl
     have v:Ev (fun n=>qgI n j.Ac j.Ai path (ofS mode y.Ba) mode) (0+x,u,0):=by
      have e:ofS mode (srcV (srcO j.Ap start)).2.Ba=ofS mode y.Ba:=by rw[W];rfl
      rw[<-e];exact v
     refine Ev.bind (b:=(ofS mode y.Ah,ofS mode y.Ba)) ?_ (Ev.bind v (Ev.tt Z (Ev.tt ?_ (Ev.now ?_))))
     ·unfold ofS;rcases qlG hm with rfl|rfl<;>exact .done
     ·rw[eo] at o⊢;dsimp only at o⊢;rw[qN (by omega) (by omega),Int.zero_add];simp
     ·simp
  exact Ev.bind (hL _ 0 (Ji _) W) .done
end
end Go.Fw
