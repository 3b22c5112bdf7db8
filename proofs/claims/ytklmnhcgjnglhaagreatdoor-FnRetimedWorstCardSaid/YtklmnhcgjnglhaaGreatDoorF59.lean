/- Plain laws: monotone blocks (row 10). -/
import Derived.Test.YtklmnhcgjnglhaaGreatDoorW3
import Derived.Test.YtklmnhcgjnglhaaGreatDoorCX
import Derived.Test.YtklmnhcgjnglhaaGreatDoorVA
import Derived.Test.YtklmnhcgjnglhaaGreatDoorDK
open Option renaming bind_some->jd, some->V, none->U
open Bool renaming and_eq_true->je, true->An, false->Cd, cond_true->Ci, cond_false->Cj
open Nat renaming le_refl->jf, succ_mul->jP
open List renaming getElem_mem->jm, length_map->jo, length_take->jy, all_eq_true->jR
open Int renaming toNat_natCast->jq, mul_le_mul_of_nonneg_right->jG, le_refl->jL, mul_nonneg->jS, mul_le_mul_of_nonneg_left->jU, mul_assoc->Jc, le_trans->Jh, add_zero->Jk
open Go.Fw.Ev renaming bind->Ck, succ->Cm, ff->Cp, tt->Cq, now->Cx, bindN->Cy

namespace Go.Fw
open Go
set_option maxRecDepth 100000
def qaC(m:Nat)(v:List Int)(i:Nat):Bool:=(decide (i % m=0) || decide (bm v (i-1)<=bm v i))&&(decide (i<m) || decide (bm v (i-m)<=bm v i))
def YE(t:qU):Bool:=tM t&&bG (qaC t.Bj.length t.Bg) t.Bg.length
theorem qa0{i m:Nat}(h:0<m):HD (i:Int) (m:Int)=V ((i % m:Nat):Int):=by
 unfold HD;rw[if_neg (by omega),Int.ofNat_tmod]
theorem VV{t:qU}(h:tM t=An):0<t.Bj.length:=by
 unfold tM ug zF at h;simp only[je,decide_eq_true_eq] at h;exact h.2.1.1.1
theorem QA{t:qU}(h:rn t):Ev (λn=>tz n t) (YE t):=by
 have p:=h.Bg.len;have l:=h.Bj.len;unfold tz YE;refine Ck (MQ h) ?_;cases ht:tM t
 .exact Cq Z .done
 have m:=VV ht;have k:Ev (λn=>cw t n 0) (bif bG (qaC t.Bj.length t.Bg) t.Bg.length then .nxt (t.Bg.length:Int) else .ret Cd):=by
  refine ll (Cm (by simp only[cw,qr (jf _),Cj];exact .done)) (λj g X f=>Cm ?_);have e0:qG t.Bg (j:Int)=V (bm t.Bg j):=aM g;have e1:1<=j->qG t.Bg (qj ((j:Int)-1))=V (bm t.Bg (j-1)):=λa=>by
   rw[qX (by omega) (by omega),show(j:Int)-1=((j-1:Nat):Int) by omega];exact aM (by omega)
  have i:t.Bj.length<=j->qG t.Bg (qj ((j:Int)-(t.Bj.length:Int)))=V (bm t.Bg (j-t.Bj.length)):=λa=>by
   rw[qX (by omega) (by omega),show(j:Int)-(t.Bj.length:Int)=((j-t.Bj.length:Nat):Int) by omega];exact aM (by omega)
  simp only[cw,qp g,Ci,qa0 m,jd,e0,wS j];have tl:Ev (λn=>bif decide ((j:Int)>=(t.Bj.length:Int)) then(qG t.Bg (qj ((j:Int)-(t.Bj.length:Int)))).bind λo=>bif decide (o > bm t.Bg j) then V (.ret Cd) else cw t n ((j+1:Nat):Int) else cw t n ((j+1:Nat):Int))
    (bif (decide (j<t.Bj.length) || decide (bm t.Bg (j-t.Bj.length)<=bm t.Bg j)) then X else .ret Cd):=by
   by_cases c:j<t.Bj.length
   .rw[decide_eq_true c];exact Cp (by simp;omega) f
   .refine Cq (by simp;omega) (Cy (i (by omega)) ?_);rw[decide_eq_false c];by_cases b:bm t.Bg (j-t.Bj.length)<=bm t.Bg j
    .rw[decide_eq_true b];exact Cp (by simp;omega) f
    .rw[decide_eq_false b];exact Cq (by simp;omega) .done
  unfold qaC;by_cases a:j % t.Bj.length=0
  .rw[decide_eq_true a];exact Cp (by rw[a];rfl) tl
  .rw[decide_eq_false a];have d:1<=j:=by
    rcases Nat.eq_zero_or_pos j with rfl|h2
    .simp at a
    .exact h2
   refine Cq (by simp;omega) (Cy (e1 d) ?_);by_cases b:bm t.Bg (j-1)<=bm t.Bg j
   .rw[decide_eq_true b];exact Cp (by simp;omega) tl
   .rw[decide_eq_false b];exact Cq (by simp;omega) .done
 refine Cp Z (Ck k ?_);cases bG (qaC t.Bj.length t.Bg) t.Bg.length<;>exact .done
def IE(a:List qU):Bool:=a.all YE
theorem DM{a:List qU}(h:wh rn a):Ev (λn=>oB n a) (IE a):=by
 have f:=h.len;have c:Ev (λn=>gU a n 0) (bif a.all YE then .nxt (a.length:Int) else .ret Cd):=
  xB (λn=>by simp only[gU,qr (jf _),Cj]) (λj b X d=>by
   simp only[gU,qp b,Ci,bZ b,jd,wS j];refine Ck (QA (h.2 _ (jm b))) ?_;cases YE a[j]
   .exact Cq Z .done
   .exact Cp Z d)
 unfold oB IE;refine Ck c ?_;cases a.all YE<;>exact .done
def PP(a:bo):Bool:=!decide (a.Bf<=3) || (IE a.Bq&&IE a.Ba)
def AY(b:qf):Bool:=aL b&&b.Aq.As.all λc=>c.Av.all PP
theorem qa4{c:qQ}(h:wh yY c.Av):Ev (λn=>dy c n 0) (bif c.Av.all PP then .nxt (c.Av.length:Int) else .ret Cd):=by
 have f:=h.len;refine xB (λn=>by simp only[dy,qr (jf _),Cj]) (λj a X b=>?_);simp only[dy,qp a,Ci,bZ a,jd,wS j];have d:=h.2 _ (jm a);unfold PP;cases decide (c.Av[j].Bf<=3)
 .exact Cp Z b
 .refine Cq Z (Ck (DM d.Bq) ?_);cases IE c.Av[j].Bq
  .exact Cq Z .done
  .refine Cp Z (Ck (DM d.Ba) ?_);cases IE c.Av[j].Ba
   .exact Cq Z .done
   .exact Cp Z b
theorem FX{b:qf}(a:wj b):Ev (λn=>nw n b) (AY b):=by
 have h:=a.Aq.As.len;have f:Ev (λn=>eO b n 0) (bif b.Aq.As.all (λc=>c.Av.all PP) then .nxt (b.Aq.As.length:Int) else .ret Cd):=by
  refine xB (λn=>by simp only[eO,qr (jf _),Cj]) (λj d X g=>?_);simp only[eO,qp d,Ci,bZ d,jd,wS j];refine Ck (qa4 (a.Aq.As.2 _ (jm d)).Av) ?_;cases b.Aq.As[j].Av.all PP
  .exact .done
  .exact g
 unfold nw AY;refine Ck (rE a) ?_;cases aL b
 .exact Cq Z .done
 .refine Cp Z (Ck f ?_);cases b.Aq.As.all (λc=>c.Av.all PP)<;>exact .done

theorem C1{a b f c mode:Int}(g:0<b)(d:0<c)(m:0<=a)(k:0<=f)(h:a*c<=f*b)(p:mode=0\/mode=1):iz a b mode<=iz f c mode:=by
 rw[wP m g,wP k d];have e:=Int.mul_ediv_add_emod a b;have r:=Int.mul_ediv_add_emod f c;have n:=Int.emod_nonneg a (show b≠0 by omega);have t:=Int.emod_nonneg f (show c≠0 by omega);have l':=Int.emod_lt_of_pos f d;have l:∀q:Int,f<=q*c->a<=q*b:=λq i=>by
  refine Int.le_of_mul_le_mul_right (show a*c<=q*b*c from ?_) d;refine Jh h (Jh (jG i (Int.le_of_lt g)) ?_);rw[Int.mul_right_comm];exact jL _
 rcases p with rfl|rfl
 .rw[if_neg (by omega),if_neg (by omega)];refine Int.le_ediv_of_mul_le d (Int.le_of_mul_le_mul_right (show a / b*c*b<=f*b from ?_) g);refine Jh ?_ h;rw[Int.mul_right_comm];exact jG (by rw[Int.mul_comm];omega) (Int.le_of_lt d)
 .have fin:∀q:Int,a<=q*b->(if (1:Int)=1/\a % b > 0 then a / b+1 else a / b)<=q:=λq i=>by
   have o:a / b<=q:=Int.ediv_le_of_le_mul g i;split
   .rename_i hc
    refine Int.lt_of_not_ge λs=>?_;have:q=a / b:=by omega
    rw[this,Int.mul_comm] at i;omega
   .exact o
  refine fin _ (l _ ?_);split
  .rw[Int.add_mul,Int.one_mul,Int.mul_comm (f / c)];omega
  .rw[Int.mul_comm (f / c)];omega
theorem XS{m:List Int}(h:N9 m){g:Nat->Int}(s:∀i,i+1<m.length->g i<=g (i+1)){i f:Nat}{a b c l k c':Int}(W:Wt m i a b)(A:qeL m i a b c)(W':Wt m f l k)(A':qeL m f l k c')(H:c<=c') :
  (a*g i+b*g (i+1))*(l+k)<=(l*g f+k*g (f+1))*(a+b):=by
 have z:∀d i,i+d<m.length->g i<=g (i+d):=by
  intro d
  induction d with
  |zero=>intro i _;exact jL _
  |succ d ih=>intro i hi;exact Jh (ih i (by omega)) (s (i+d) (by omega))
 have n:∀x y,x<=y->y<m.length->g x<=g y:=λx y D F=>by
  have:=z (y-x) x (by omega);rwa [show x+(y-x)=y by omega] at this
 have a0:=W.a0;have b0:=W.b0;have t:=W'.a0;have r:=W'.b0;have lo:(l+k)*g f<=l*g f+k*g (f+1):=by
  rw[Int.add_mul];refine Int.add_le_add_left ?_ _;rcases Int.lt_or_le 0 k with o|o
  .exact jU (n _ _ (by omega) (W'.nx o)) r
  .rw[show k=0 by omega];omega
 have p:i<f\/(i=f/\b=0)->(a*g i+b*g (i+1))*(l+k)<=(l*g f+k*g (f+1))*(a+b):=λhi=>by
  have up:a*g i+b*g (i+1)<=(a+b)*g f:=by
   rw[Int.add_mul];refine Int.add_le_add (jU (n _ _ (by omega) W'.il) (by omega)) ?_;rcases Int.lt_or_le 0 b with o|o
   .exact jU (n _ _ (by omega) W'.il) b0
   .rw[show b=0 by omega];omega
  refine Jh (jG up (by omega)) ?_;refine Jh ?_ (jG lo (by omega));rw[Jc,Int.mul_comm (a+b),Int.mul_comm (l+k)];exact jL _
 rcases Nat.lt_trichotomy i f with hi|hi|hi
 .exact p (.inl hi)
 .subst hi;rcases A with⟨A,_⟩|⟨A,A1,A2⟩
  .exact p (.inr ⟨Z,A⟩)
  rcases A' with⟨B,B1⟩|⟨B,B1,B2⟩
  .exfalso;omega
  have C:0<=g (i+1)-g i:=by have:=s i (W.nx A);omega
  have e:l+k=a+b:=by omega
  rw[e];refine jG ?_ (by omega);obtain⟨u,J⟩:∃u,u=c'-c:=⟨_,Z⟩;have e1:l=a-u:=by omega
  have v:k=b+u:=by omega
  have o:=jS (show 0<=u by omega) C;rw[e1,v,Int.sub_mul,Int.add_mul];rw[Int.mul_sub] at o;omega
 .exfalso;have I:=h.inc i f hi W.il;have c1:bm m i<=c:=by rcases A with⟨_,A⟩|⟨A,_,A2⟩<;>omega
  rcases A' with⟨B,B1⟩|⟨B,B1,B2⟩
  .omega
  .have:bm m (f+1)<=bm m i:=by
    by_cases e:f+1=i
    .rw[e];exact jL _
    .have:=h.inc i (f+1) (by omega) W.il;omega
   omega
theorem B7{a:List Int}{x y:Int}(h:x<=y):KO a x<=KO a y:=by
 unfold KO;generalize bm a (a.length-1)=q;generalize bm a 0=p
 repeat' split
 all_goals omega
theorem SP{t:qU}(h:FL t/\∀k,0<=bm t.Bg k)(f:YE t=An){s s' ld mode:Int}(z:s<=s')(y:mode=0\/mode=1) :
  ∃r r':Int,0<=r/\r<=r'/\r'<=1000000/\Ev (λn=>gF n t s ld mode) r/\Ev (λn=>gF n t s' ld mode) r':=by
 obtain⟨h,d⟩:=h;obtain⟨i,a,b,W,A,p⟩:=xZ h.s s;obtain⟨H,D,F,W',A',C⟩:=xZ h.s s';obtain⟨j,a2,b2,W2,_,m⟩:=xZ h.l ld;obtain⟨D0,_,_,_,_,S0,l⟩:=UV h W W2 p m;obtain⟨D0',S1',_,_,_,S0',c⟩:=UV h W' W2 C m;refine⟨_,_,(uh (mode:=mode) (M:=(xW t i j a b a2 b2)) D0 (S0 d) ?_).1,C1 D0 D0' (S0 d) (S0' d) ?_ y,(uh (mode:=mode) D0' (S0' d) S1').2,(l mode).1,(c mode).1⟩
 .have:=jG (show 1<=(a+b)*(a2+b2) by omega) (S0 d);omega
 .have u:=W2.a0;have g:=W2.b0;have step:∀i j,i+1<t.Bp.length->j<t.Bj.length->tv t i j<=tv t (i+1) j:=λi j hi x=>by
   unfold YE at f;rw[je,aA] at f;have B:=qav h hi x;have:=f.2 _ B.1;unfold qaC at this;simp only[je,Bool.or_eq_true,decide_eq_true_eq] at this;have e:(i+1)*t.Bj.length+j-t.Bj.length=i*t.Bj.length+j:=by rw[jP];omega
   have o:¬ (i+1)*t.Bj.length+j<t.Bj.length:=by rw[jP];omega
   rw[e] at this;exact this.2.resolve_left o
  have v:∀i,i+1<t.Bp.length->rowS t j a2 b2 i<=rowS t j a2 b2 (i+1):=λi hi=>by
   refine Int.add_le_add (jU (step i j hi W2.il) (by omega)) ?_;rcases Int.lt_or_le 0 b2 with hp|hp
   .exact jU (step i (j+1) hi (W2.nx hp)) g
   .rw[show b2=0 by omega];omega
  have:=XS h.s v W A W' A' (B7 z);have:=jG this (show 0<=a2+b2 by omega);rw[Jc,Jc] at this;exact this
theorem U2{y d v c mode:Int}(h:y<=d)(r:sE y v)(f:sE d c):(if mode=1/\v*v<y then v+1 else v)<=(if mode=1/\c*c<d then c+1 else c):=by
 have i:v<=c:=by
  refine Int.le_of_not_gt λg=>?_;have:=TJ (a:=c+1) (b:=v) (by have:=f.pos;omega) (by omega);have:=r.lo;have:=f.hi;omega
 split
 .rename_i hc
  by_cases e:v=c
  .rw[if_pos ⟨hc.1,by rw[<-e];omega⟩];omega
  .split<;>omega
 .split<;>omega
theorem SO{b:qf}{c:qH}(h:aL b=An)(hc:ke c=An)(I:AY b=An){k:Nat}(hk:k<(qd b).length){s s' mode D D' S S':Int}(s0:0<=s)(ss:s<=s')(s1:s'<=1000000)(o:mode=0\/mode=1)
  (e1:Ev (λn=>aI n b c (gt (qd b) k) s mode) D) (C:Ev (λn=>aI n b c (gt (qd b) k) s' mode) D') (F:Ev (λn=>cP n b (gt (qd b) k) s mode) S) (H:Ev (λn=>cP n b (gt (qd b) k) s' mode) S'):D<=D'/\S<=S':=by
 obtain⟨d,_⟩:=nF h (mz hk);generalize gt (qd b) k=x at d e1 C F H;rcases d with⟨i,j,m,net,a,d⟩|⟨j,net,q,d⟩
 .obtain⟨f,f0,R,sF,_⟩:=zm hc (kind:=x.Bf) (mode:=mode);have B:m<(gt (bW b (i:Int)).Av a).Bq.length:=by rw[d.d2];exact d.ml
  have K:m<(gt (bW b (i:Int)).Av a).Ba.length:=by rw[d.s2];exact d.ml
  have g:IE (gt (bW b (i:Int)).Av a).Bq=An/\IE (gt (bW b (i:Int)).Av a).Ba=An:=by
   unfold AY at I;rw[je,jR] at I;obtain⟨⟨c0,c1⟩,_,_⟩:=pu (aO h) d.il;have:=I.2 _ (mz (show(gt b.Aa.Ab i).Bv.toNat<b.Aq.As.length by omega));rw[jR] at this;have:=this _ (mz d.al);unfold PP at this;rw[Bool.or_eq_true,je] at this;exact this.resolve_left λt=>by
    have t:(!decide ((gt (bW b (i:Int)).Av a).Bf<=3))=An:=t;rw[decide_eq_true d.k3] at t;cases t
  unfold IE at g;rw[jR,jR] at g;obtain⟨r,r',y,rr,r1,T,W⟩:=SP (ld:=sY b net) (d.dt _ (mz B)) (g.1 _ (mz B)) ss o;obtain⟨u,u',u0,uu,u1,X,Y⟩:=SP (ld:=sY b net) (d.st _ (mz K)) (g.2 _ (mz K)) ss o;have l:(x.Bf==1)=An:=by rw[d.kind];rfl
  have M:∀{s r:Int},0<=r->r<=1000000->Ev (λn=>gF n (gt (gt (bW b (i:Int)).Av a).Bq m) s (sY b net) mode) r->Ev (λn=>aI n b c x s mode) (iz (r*f) 1000 mode):=λy r1 rs=>by
   obtain⟨c1,_⟩:=uJ (mode:=mode) y (by omega) (show 0<=f by omega) R;unfold aI;refine Cq l (Ck (vq h d) ?_);simp only[d.mod,qz B,jd,sF];exact Ck rs (Ck ⟨0,λn _=>c1 n⟩ .done)
  have p:∀{s u:Int},Ev (λn=>gF n (gt (gt (bW b (i:Int)).Av a).Ba m) s (sY b net) mode) u->Ev (λn=>cP n b x s mode) u:=λL=>by
   unfold cP;refine Cq l (Ck (vq h d) ?_);simp only[d.mod,qz K,jd];exact Ck L .done
  rw[e1.uniq (M y (by omega) T),C.uniq (M (by omega) r1 W),F.uniq (p X),H.uniq (p Y)];exact⟨KR (by omega) (jS y (by omega)) (jG rr (by omega)) o,uu⟩
 .have hw:=cW h d.nl;have J:=hw.sin q d.kl;have hdl:=yk h d.nl;obtain⟨x0,x1⟩:=xG h d.nl d.kl;have O:gt (bA b net) q=gt (dV b net) (bm (gt b.Ah net).Bl q).toNat:=by
   unfold bA;rw[fd (by rw[jo];exact d.kl),List.getElem_map,wy d.kl]
  have l:(x.Bf==1)=Cd:=by rw[d.kind];rfl
  have N:∀{s s':Int} n,aI n b c x s mode=aI n b c x s' mode:=λn=>by
   unfold aI;rw[l];rfl
  have p:∀{s:Int},0<=s->s<=1000000->∃v,sE (4*(250000*(s*s)+gt (bA b net) q*gt (bA b net) q)) v /\
    ∃u:Int,u=iz (if mode=1/\v*v<4*(250000*(s*s)+gt (bA b net) q*gt (bA b net) q) then v+1 else v) 1000 mode/\Ev (λn=>cP n b x s mode) (if u<1000000 then u else 1000000):=λ{s} s0 s1=>by
   obtain⟨u,u0,⟨v,A,_,e⟩,L,_⟩:=TS s0 s1 x0 x1 o;refine⟨v,A,u,e,?_⟩;unfold cP xj;refine Cp l (Ck (xp h d) ?_);simp only[d.ix,qz d.nl,jd,aM d.kl];refine Ck (b:=u) (Ck (AS h d.nl) ?_) .done;rw[kJ J.1 (show bm (gt b.Ah net).Bl q<((dV b net).length:Int) by omega)];simp only[jd];rw[<-O];exact L
  refine⟨?_,?_⟩
  .have:D=D':=e1.uniq (by simpa only[N (s:=s) (s':=s')] using C);omega
  .obtain⟨v,A,u,P,v3⟩:=p s0 (by omega);obtain⟨w,w1,z,Q,w3⟩:=p (s:=s') (by omega) s1;rw[F.uniq v3,H.uniq w3];have hy:=TJ s0 ss;have hv:=A.pos;have:=U2 (mode:=mode) (show 4*(250000*(s*s)+gt (bA b net) q*gt (bA b net) q)<=4*(250000*(s'*s')+gt (bA b net) q*gt (bA b net) q) by omega) A w1;have:=KR (b:=1000) (by omega) (by split<;>omega) this o;rw[<-P,<-Q] at this;split<;>split<;>omega

structure G9(mode x:Int)(s:qg):Prop where
 e:mode=0->s.Ar<=x
 l:mode=1->x<=s.Bc
theorem G9.trans{mode x:Int}{s s':qg}(h:G9 mode x s)(hi:NU s s'):G9 mode x s':=⟨λm=>Jh hi.e (h.e m),λm=>Jh (h.l m) hi.l⟩
theorem qa9{b:qf}{c:qH}{f:Nat->qg->qg×qg}{d:Nat->Int->Int×Int}{mode:Int}(h:aL b=An)(g:ke c=An)(u:AY b=An)(J:xA b c f)(O:mu mode=An)(I:GG b c mode d)
  {k:Nat} (a:k<(qd b).length) {i:qg} (y:QC i) {x:Int} (F:0<=x) (x1:x<=1000000) (v:G9 mode x i):G9 mode (d k x).1 (f k i).1/\G9 mode (d k x).2 (f k i).2:=by
 have t:=(J k i a y).2;obtain⟨⟨e0,e1⟩,⟨l0,l1⟩⟩:=y;obtain⟨⟨l,p1,_⟩,⟨n,_,_,C,_⟩⟩:=tx h g a e0 e1 (mode:=0) (.inl Z);obtain⟨⟨d2,K,_⟩,⟨r,_,_,M,_⟩⟩:=tx h g a e0 e1 (mode:=1) (.inr Z);obtain⟨⟨p,L,_⟩,⟨s,_,_,N,_⟩⟩:=tx h g a l0 l1 (mode:=0) (.inl Z);obtain⟨⟨m,z,_⟩,⟨o,_,_,D,_⟩⟩:=tx h g a l0 l1 (mode:=1) (.inr Z);have H:f k i=(⟨if p<l then p else l,if m > d2 then m else d2⟩,⟨if s<n then s else n,if o > r then o else r⟩):=by
  refine t.uniq ?_;unfold lA;exact Ck p1 (Ck K (Ck C (Ck M (Ck L (Ck z (Ck N (Ck D .done)))))))
 rw[H];obtain⟨_,A,_,B,_⟩:=I k x a F x1;have lo:mode=0->l<=(d k x).1/\n<=(d k x).2:=λe=>by
  subst e;exact SO h g u a e0 (v.e Z) x1 (.inl Z) p1 A C B
 have hi:mode=1->(d k x).1<=m/\(d k x).2<=o:=λe=>by
  subst e;exact SO h g u a F (v.l Z) l1 (.inr Z) A z B D
 refine⟨⟨λe=>?_,λe=>?_⟩,⟨λe=>?_,λe=>?_⟩⟩
 .have:=lo e;show(if p<l then p else l)<=_;split<;>omega
 .have:=hi e;show _<=(if m > d2 then m else d2);split<;>omega
 .have:=lo e;show(if s<n then s else n)<=_;split<;>omega
 .have:=hi e;show _<=(if o > r then o else r);split<;>omega
section
variable{j:aZ}{t:qu}{R:List Nat}{f:Nat->qg->qg×qg}{d:Nat->Int->Int×Int}{start mode:Int}{path:List Int}
theorem L7(h:aL j.Ac=An)(n:ke j.Aj=An)(c:GG j.Ac j.Aj mode d){s:Int}(s0:0<=s)(s1:s<=1000000)(o:path.length<=200)(g:∀i,i<path.length->∃k:Nat,k<yg j.Ac/\bm path i=(k:Int)) :
  ∀i,i<=path.length->∃x u:Int,0<=x/\x<=(i:Int)*5000000/\∀a:Int,-1000000000<=a->a<=1000000000->yA d (a,s) path i=(a+x,u):=by
 intro i
 induction i with
 |zero=>exact λ_=>⟨0,s,by omega,by omega,λa _ _=>by rw[Jk];rfl⟩
 |succ i ih=>
  intro hi;obtain⟨x,u,p,x1,l⟩:=ih (by omega);obtain⟨k,f,m⟩:=g i (by omega);have b:=PX (s0:=(0,s)) c ⟨s0,s1⟩ g i (by omega);rw[l 0 (by omega) (by omega)] at b;obtain⟨D,⟨D0,D1⟩,De⟩:=YC h n f (sl:=u) (mode:=mode);have e:=(c k u f b.1 b.2).2.1.uniq De;refine⟨x+D,(d k u).2,by omega,by omega,λa a0 a1=>?_⟩;show(qj ((yA d (a,s) path i).1+(d (bm path i).toNat (yA d (a,s) path i).2).1),(d (bm path i).toNat (yA d (a,s) path i).2).2)=_;rw[l a a0 a1,m,jq];show(qj (a+x+(d k u).1),(d k u).2)=_;rw[e,qX (by omega) (by omega),Int.add_assoc]
theorem qaL(a:pW j t R)(b:MU j t f)(c:ma j start path=An):-1000000000<=(nI j start mode).1/\(nI j start mode).1<=1000000000:=by
 obtain⟨k,h,e,y,d,g,_⟩:=QJ a b c;have:=ZG a.tg.sr g;rw[xv] at this;unfold nI CM;rw[d];show -1000000000<=(bif mode==1 then y.Af.Bc else y.Af.Ar)/\(bif mode==1 then y.Af.Bc else y.Af.Ar)<=1000000000;cases mode==1<;>simp only[Ci,Cj]<;>omega
theorem qcd(h:nH j)(b:pW j t R)(o:MU j t f)(hM:AY j.Ac=An)(O:mu mode=An)(C:GG j.Ac j.Aj mode d)(B:ma j start path=An)(hl:path.length<=200)(P:∀i,i<path.length->∃k:Nat,k<yg j.Ac/\bm path i=(k:Int)) :
  ∀i,i<=path.length->∃k:Nat,k<vH j.Ac/\UD (qd j.Ac) start path i=(k:Int)/\gt t.Au k=An/\G9 mode (yA d (nI j start mode) path i).2 (gt t.Ba k)/\G9 mode (yA d (nI j start mode) path i).1 (GH f (qd j.Ac) t (bc (aE j.Am start)).2.Af path i):=by
 have p:=KD (start:=start) (yM h.Am.len b.tg.sr) O;have r:=qaL (mode:=mode) b o B;have K:=PX (s0:=nI j start mode) C p P;have L:=L7 b.tg.bl b.tg.co C p.1 p.2 hl P;have I:=X9 b o B;intro i
 induction i with
 |zero=>
  intro _;obtain⟨k,F,e,y,ho,hy,_,n,A,hS⟩:=QJ b o B;refine⟨k,F,e,n,G9.trans ?_ (show NU y.Ba (gt t.Ba k) from hS),?_⟩
  .show G9 mode (CM mode (bc (aE j.Am start)).2.Ba) y.Ba;rw[ho];exact⟨λm=>by subst m;exact jL _,λm=>by subst m;exact jL _⟩
  .show G9 mode (CM mode (bc (aE j.Am start)).2.Af) (bc (aE j.Am start)).2.Af;exact⟨λm=>by subst m;exact jL _,λm=>by subst m;exact jL _⟩
 |succ i ih=>
  intro hi;obtain⟨k,F,e,n,b1,b2⟩:=ih (by omega);obtain⟨l,a,c,g,el,hv,v,M,han,s,ea,X⟩:=PT b B (show i<path.length by omega);have H:k=a:=by omega
  subst H;obtain⟨c1,_,W⟩:=K9 b o g hv v M s n;have z:=b.tm.sl k F;obtain⟨g0,g1,g2⟩:=ZE b.tg.bl b.tg.co o.ss g z;obtain⟨S,T⟩:=K i (by omega);obtain⟨r1,r2⟩:=qa9 b.tg.bl b.tg.co hM o.ss O C g z S T b1;obtain⟨Q,hk',e',A⟩:=I i (by omega);have J:Q=k:=by omega
  subst J;have hB:=(o.eq Q F).b n;rw[xv] at hB;obtain⟨x,u,x0,x1,N⟩:=L i (by omega);have N:=N _ r.1 r.2;have hD:=YC b.tg.bl b.tg.co g (sl:=(yA d (nI j start mode) path i).2) (mode:=mode);obtain⟨D,⟨D0,D1⟩,De⟩:=hD;have eD:=(C l _ g S T).2.1.uniq De;have Y:(yA d (nI j start mode) path i).1=(nI j start mode).1+x:=congrArg Prod.fst N;refine⟨c,s,X,c1,?_,?_⟩
  .refine G9.trans ?_ W;show G9 mode (d (bm path i).toNat (yA d (nI j start mode) path i).2).2 _;rw[el,jq];exact r2
  .show G9 mode (qj ((yA d (nI j start mode) path i).1+(d (bm path i).toNat (yA d (nI j start mode) path i).2).1)) (uF (GH f (qd j.Ac) t (bc (aE j.Am start)).2.Af path i) (f (bm path i).toNat (gt t.Ba (ip (qd j.Ac) (bm path i).toNat))).1);rw[el,jq,v];have h1:=A.i.e;have h2:=A.i.l;have h3:=A.o;rw[qX (x:=(yA d (nI j start mode) path i).1+(d l (yA d (nI j start mode) path i).2).1) (by omega) (by omega)];constructor
   .intro m;show qj (_+_)<=_;have:=b2.e m;have:=r1.e m;rw[qX (by omega) (by omega)];omega
   .intro m;show _<=qj (_+_);have:=b2.l m;have:=r1.l m;rw[qX (by omega) (by omega)];omega
end
end Go.Fw


namespace Go.Fw
open Go Go.Proofs Go.Proofs.Tryz
open Go.RowKit (Below)
open Ch renaming own->oW,box->oX,grp->oG
open qm renaming v->oV
open Go.Value renaming slice->oS
set_option maxRecDepth 100000
set_option maxHeartbeats 6400000
variable{n:Nat}{w:World}{cs1 cs2 cs3 cs4 cs5 cs6 cs7 cs8 cs9:List Value}
def PJ(_:Nat)(code:List (gW .u8)):Option Bool:=V (decide ((code.length:Int) > 4096))
theorem YB{code:List (gW .u8)}(a:Ro w code cs1){r:Bool}(F:PJ n code=V r):qN prog 5 [gv code cs1] w r:=by
 obtain⟨_,_,rfl,_⟩:=a;exact zV 6 func5 Z λh=>X0 11 Z (rb h F Z)
def cm(Ce:List (gW .u8))(a:Int)(b:List qw):Nat->aZ->Int->Int->Option (eE Bool (aZ×Int×Int))|0,_,_,_=>U|n+1,h,k,f=>bif decide (f<(b.length:Int)) then(qG b f).bind λl=>(qG b f).bind λm=>(pj n h l.Bn m.Bk k).bind λ(g,_,i)=>(bU n Ce).bind λ(d,_,c)=>bif (i != 0) then V (.ret Cd) else bif (c==1) then bif decide (g > a) then V (.ret Cd) else bif (c==0) then bif decide (g<a) then V (.ret Cd) else cm Ce a b n d c (qj (f+1)) else cm Ce a b n d c (qj (f+1)) else bif (c==0) then bif decide (g<a) then V (.ret Cd) else cm Ce a b n d c (qj (f+1)) else cm Ce a b n d c (qj (f+1)) else V (.nxt (h,k,f))
def sK(n:Nat)(Ce:List (gW .u8)):Option Bool:=(PJ n Ce).bind λr1=>bif r1 then V An else(bU n Ce).bind λ|(J,K,L)=>(fF n J K L).bind λ|(b,I)=>(bU n Ce).bind λ(c,h,d)=>bif (I != 0) then(kE n c h d).bind λ(_,i)=>(bif (I==i) then V ((b.Bk.length:Int)==0) else V Cd).bind λb1=>V b1 else(pj n c b.Bn b.Bk d).bind λ(f,_,k)=>(bU n Ce).bind λ(l,_,_)=>(um n l b.Bn b.Bk).bind λ(m,p)=>(bU n Ce).bind λ(s,t,u)=>(yo n s t u 6).bind λ(g,v)=>(bU n Ce).bind λ(x,y,z)=>(tp n x y z).bind λ|(A,B)=>(bU n Ce).bind λ|(C,D,F)=>(bif (k != 0) then V An else bif (p != 0) then V An else bif (v != 0) then V An else bif (B != 0) then V An else bif (f != b.Af) then V An else bif (m != D) then V An else V ((g.length:Int)==0)).bind λb2=>bif b2 then V Cd else(cm Ce f g n C F 0).bind λ|.ret r=>V r|.nxt (a,_,_)=>bif decide (A>=0) then V An else(nw n (⟨(⟨a.Ac.Aq.As⟩:qD),(⟨a.Ac.Aa.Ab,a.Ac.Aa.Ap,a.Ac.Aa.Ai⟩:qk),a.Ac.Ah⟩:qf)).bind λH=>V (!H)
theorem AU{Ce:List (gW .u8)}(ha1:Ro w Ce cs1){r:Bool}(F:sK n Ce=V r):qN prog 4 [gv Ce cs1] w r:=by
 obtain⟨p1,k1,rfl,s1⟩:=ha1;refine zV 207 func4 Z λh=>X0 8 Z (dI h F (YB ⟨_,_,Z,(h.oldS s1)⟩) Z λ_ _ h F=>ae (qn Z F ?_ ?_))<;>intro F
 .exact X0 4 Z (rb h F Z)
 refine X0 4 Z ?_;have a:Rg (old w) w (old w) w:=.start (λ_ h=>h);obtain⟨⟨r3,r4,r5⟩,hr2,F⟩:=qc F;refine vI (r3,r4,r5) a h (cB 13 Z) (cT (a.atB h) ⟨_,_,Z,(a.inBS h s1)⟩ hr2) Z Z Z Z λ_ _ _ h hv1=>?_;obtain⟨_,_,rfl,f4,hv2⟩:=dP hv1;have hr4:=f4;obtain⟨_,_,_,_,_,_,_,_,_,_,_,_,_,_,rfl,_,_,_,_,_,_,_⟩:=cF f4;have h:=h.grpAdd 0 Z hr4;obtain⟨_,_,rfl,g4,hv3⟩:=dP hv2;have hr6:=g4;obtain rfl:=g4;obtain⟨_,rfl,h3⟩:=kQ hv3;have hr8:=h3;obtain rfl:=h3;refine qbq Z (qi qa h Z Z Z λ_ z h=>zs 0 h Z λ_ h=>X1 8 0 h Z ?_);obtain⟨⟨r7,r8⟩,hr9,F⟩:=qc F;refine bB (r7,r8) h (cB 14 Z) (DD (h.grp 1 0 Z Z) hr9) Z Z Z Z λ_ _ _ hv4 e3=>?_;obtain⟨_,_,_,_,rfl,l7,e4⟩:=hv4.cons e3;obtain⟨_,_,rfl,-⟩:=eX (l7.sh.own 0 Z);obtain⟨rfl,h⟩:=l7.lastI e4;refine CK Z (qi qa h Z Z Z λ_ _ h=>zs 0 h Z λ_ h=>X0 5 Z ?_);obtain⟨⟨r10,r11,r12⟩,e5,F⟩:=qc F;refine vI (r10,r11,r12) a h (cB 13 Z) (cT (a.atB h) ⟨_,_,Z,(a.inBS h s1)⟩ e5) Z Z Z Z λ_ _ _ h hv7=>?_;obtain⟨_,_,rfl,a3,hv8⟩:=dP hv7;have e6:=a3;obtain⟨_,_,_,_,_,_,_,_,_,_,_,_,_,_,rfl,_,_,_,_,_,_,_⟩:=cF a3;have h:=h.grpAdd 0 Z e6;obtain⟨_,_,rfl,a4,hv9⟩:=dP hv8;have hr17:=a4;obtain rfl:=a4;obtain⟨_,rfl,a5⟩:=kQ hv9;have hr19:=a5;obtain rfl:=a5;refine qbq Z (zs 3 h Z λ_ h=>X0 9 Z (qn Z F ?_ ?_))<;>intro F
 .refine X1 5 3 h Z ?_;obtain⟨⟨r14,r15⟩,e7,F⟩:=qc F;refine pO (r14,r15) a h (cB 15 Z) (EF (a.regOld h) (Rg.grpR 0 0 h Z Z) e7) Z Z Z Z λw10 _ _ hg2 M hz1 h5=>?_;have hL1:=h.ext M.below;have hc3:=Up.box 1 h M Z;have s17:=Up.own 2 h M Z;have s18:=(vv s17).1;have ha2:=Up.boxP (x:=r7) a 1 h M Z (Rg.ownR 2 h Z);have hb1:=h.below.trans (M.below.mono h.below.size);have h:=hz1;obtain⟨_,_,rfl,a6,h6⟩:=dP h5;have ha3:=a6;obtain⟨_,_,rfl,_⟩:=eX a6;obtain⟨_,rfl,e8⟩:=kQ h6;obtain rfl:=e8;refine CK Z (qi qa h Z Z Z λ_ _ h=>zs 0 h Z λ_ h=>X0 3 Z ?_);obtain⟨KF1,d5,_,F,d4⟩:=bindE F;refine bw (λe w'=>∃b1,KF1 b1=V r/\e=[(2,.bool b1)]/\SH w10 w' []) ?_ ?_
  .refine X0 5 Z (qh (t:=56) F Z ?_ ?_)<;>intro F
   .refine X0 3 Z (bL 1 hc3 h Z (X0 7 Z ?_));have h:=h.p [] Z;exact rH F d4 h Z
   refine X0 7 Z ?_;have h:=h.p [] Z;exact rH F d4 h Z
  rintro _ _ ⟨b1,F,rfl,h⟩;subst d5;have h:=h.unbase hg2.below (show HN [] from trivial);exact rb h F Z
 refine X3 9 3 1 1 h Z ?_;obtain⟨⟨W,r18,r19⟩,e9,F⟩:=qc F;refine bB (W,r18,r19) h (cB 16 Z) (tG (h.grp 0 0 Z Z) ⟨_,_,Z,(vv (h.own 2 Z)).1⟩ e9) Z Z Z Z λ_ _ _ h7 f0=>?_;obtain⟨_,_,rfl,h8,f1⟩:=h7.consI f0;obtain⟨_,_,rfl,h9,f2⟩:=h8.consI f1;obtain⟨rfl,h⟩:=h9.lastI f2;refine X0 11 Z ?_;obtain⟨⟨r21,r22,r23⟩,f3,F⟩:=qc F;refine vI (r21,r22,r23) a h (cB 13 Z) (cT (a.atB h) ⟨_,_,Z,(a.inBS h s1)⟩ f3) Z Z Z Z λ_ _ _ h i3=>?_;obtain⟨_,_,rfl,a7,i4⟩:=dP i3;have f5:=a7;obtain⟨_,_,_,_,_,_,_,_,_,_,_,_,_,_,rfl,_,_,_,_,_,_,_⟩:=cF a7;have h:=h.grpAdd 0 Z f5;obtain⟨_,_,rfl,a8,i5⟩:=dP i4;have hr32:=a8;obtain rfl:=a8;obtain⟨_,rfl,a9⟩:=kQ i5;have hr34:=a9;obtain rfl:=a9;refine qbq Z (zs 4 h Z λ_ h=>X3 10 4 2 2 h Z ?_);obtain⟨⟨r25,r26⟩,f6,F⟩:=qc F;refine bB (r25,r26) h (cB 12 Z) (HY (h.grp 0 0 Z Z) ⟨_,_,Z,(vv (h.own 3 Z)).1⟩ f6) Z Z Z Z λ_ _ _ i6 f7=>?_;obtain⟨_,_,rfl,i7,f8⟩:=i6.consI f7;obtain⟨rfl,h⟩:=i7.lastI f8;refine X0 9 Z ?_;obtain⟨⟨r28,r29,r30⟩,f9,F⟩:=qc F;refine vI (r28,r29,r30) a h (cB 13 Z) (cT (a.atB h) ⟨_,_,Z,(a.inBS h s1)⟩ f9) Z Z Z Z λ_ _ _ h i8=>?_;obtain⟨_,_,rfl,b4,i9⟩:=dP i8;have g0:=b4;obtain⟨_,_,_,_,_,_,_,_,_,_,_,_,_,_,rfl,_,_,_,_,_,_,_⟩:=cF b4;have h:=h.grpAdd 0 Z g0;obtain⟨_,_,rfl,b5,k0⟩:=dP i9;have hr43:=b5;obtain rfl:=b5;obtain⟨_,rfl,b6⟩:=kQ k0;have hr45:=b6;obtain rfl:=b6;refine qbq Z (zs 5 h Z λ_ h=>X1 8 5 h Z ?_);obtain⟨⟨c,r33⟩,g1,F⟩:=qc F;refine bB (c,r33) h (cB 7 Z) (PC (h.grp 0 0 Z Z) g1) Z Z Z Z λ_ _ _ k2 g2=>?_;obtain⟨c7,_,C,A,_,rfl,k4,g3⟩:=k2.consL g2;obtain⟨rfl,h⟩:=k4.lastI g3;refine X0 9 Z ?_;obtain⟨⟨r35,r36,r37⟩,g5,F⟩:=qc F;refine vI (r35,r36,r37) a h (cB 13 Z) (cT (a.atB h) ⟨_,_,Z,(a.inBS h s1)⟩ g5) Z Z Z Z λ_ _ _ h k5=>?_;obtain⟨_,_,rfl,b7,k6⟩:=dP k5;have g6:=b7;obtain⟨_,_,_,_,_,_,_,_,_,_,_,_,_,_,rfl,_,_,_,_,_,_,_⟩:=cF b7;have h:=h.grpAdd 0 Z g6;obtain⟨_,_,rfl,b8,k7⟩:=dP k6;have hr54:=b8;obtain rfl:=b8;obtain⟨_,rfl,b9⟩:=kQ k7;have hr56:=b9;obtain rfl:=b9;refine qbq Z (zs 7 h Z λ_ h=>X1 8 7 h Z ?_);obtain⟨⟨X,r40⟩,g7,F⟩:=qc F;refine bB (X,r40) h (cB 17 Z) (GX (h.grp 0 0 Z Z) g7) Z Z Z Z λ_ _ _ k8 g8=>?_;obtain⟨_,_,rfl,k9,g9⟩:=k8.consI g8;obtain⟨rfl,h⟩:=k9.lastI g9;refine X0 9 Z ?_;obtain⟨⟨Y,r43,n8⟩,h0,F⟩:=qc F;refine vI (Y,r43,n8) a h (cB 13 Z) (cT (a.atB h) ⟨_,_,Z,(a.inBS h s1)⟩ h0) Z Z Z Z λ_ _ S24 h l3=>?_;obtain⟨_,_,rfl,c0,l4⟩:=dP l3;have h1:=c0;obtain⟨n0,m3,n2,m4,n3,m5,n4,m6,n5,m7,n6,m8,n7,m9,rfl,_,_,_,_,_,_,_⟩:=cF c0;have h:=h.grpAdd 0 Z h1;obtain⟨_,_,rfl,c2,l6⟩:=dP l4;have hr65:=c2;obtain rfl:=c2;obtain⟨_,rfl,c3⟩:=kQ l6;have hr67:=c3;obtain rfl:=c3;refine qbq Z (zs 8 h Z λ_ h=>X0 5 Z ?_);obtain⟨KF2,d6,_,F,o⟩:=bindE F;refine bw (λe w'=>∃b2,KF2 b2=V r/\e=[(0,oL p1 Ce k1),(3,vp z),(5,vi n8),(10,vi W),(15,oL C c A),(17,vi X),(149,.bool b2)]/\SH w w' [oG (old w) S24 [vk (Y:aZ) (iy Y n0 n2 n3 n4 n5 n6 n7 m3 m4 m5 m6 m7 m8 m9)],oW c7 (c:List qw) [oL C c A],oX z (iy Y n0 n2 n3 n4 n5 n6 n7 m3 m4 m5 m6 m7 m8 m9) 40]) ?_ ?_
 .refine X0 4 Z (qh (t:=122) F Z ?_ ?_)<;>intro F
  .refine X0 28 Z ?_;have h:=h.p [0,2,3,4,5,6,7,8,9] Z;have h:=h.p [0,1,3,4,5,6,7,8] Z;have h:=h.p [0,1,3,4,5,6,7] Z;have h:=h.p [0,1,3,4,5,6] Z;have h:=h.p [0,1,2,3,4] Z;have h:=h.p [0,1,4] Z;exact rH F o h Z
  refine X0 6 Z (qh (t:=126) F Z ?_ ?_)<;>intro F
  .refine X0 24 Z ?_;have h:=h.p [0,2,3,4,5,6,7,8,9] Z;have h:=h.p [0,1,3,4,5,6,7,8] Z;have h:=h.p [0,1,3,4,5,6,7] Z;have h:=h.p [0,1,3,4,5,6] Z;have h:=h.p [0,1,2,3,4] Z;have h:=h.p [0,1,4] Z;exact rH F o h Z
  refine X0 6 Z (qh (t:=130) F Z ?_ ?_)<;>intro F
  .refine X0 20 Z ?_;have h:=h.p [0,2,3,4,5,6,7,8,9] Z;have h:=h.p [0,1,3,4,5,6,7,8] Z;have h:=h.p [0,1,3,4,5,6,7] Z;have h:=h.p [0,1,3,4,5,6] Z;have h:=h.p [0,1,2,3,4] Z;have h:=h.p [0,1,4] Z;exact rH F o h Z
  refine X0 6 Z (qh (t:=134) F Z ?_ ?_)<;>intro F
  .refine X0 16 Z ?_;have h:=h.p [0,2,3,4,5,6,7,8,9] Z;have h:=h.p [0,1,3,4,5,6,7,8] Z;have h:=h.p [0,1,3,4,5,6,7] Z;have h:=h.p [0,1,3,4,5,6] Z;have h:=h.p [0,1,2,3,4] Z;have h:=h.p [0,1,4] Z;exact rH F o h Z
  refine X1 10 6 h Z (qh (t:=140) F Z ?_ ?_)<;>intro F
  .refine X0 10 Z ?_;have h:=h.p [0,2,3,4,5,6,7,8,9] Z;have h:=h.p [0,1,3,4,5,6,7,8] Z;have h:=h.p [0,1,3,4,5,6,7] Z;have h:=h.p [0,1,3,4,5,6] Z;have h:=h.p [0,1,2,3,4] Z;have h:=h.p [0,1,4] Z;exact rH F o h Z
  refine X0 8 Z (qh (t:=145) F Z ?_ ?_)<;>intro F
  .refine X0 5 Z ?_;have h:=h.p [0,2,3,4,5,6,7,8,9] Z;have h:=h.p [0,1,3,4,5,6,7,8] Z;have h:=h.p [0,1,3,4,5,6,7] Z;have h:=h.p [0,1,3,4,5,6] Z;have h:=h.p [0,1,2,3,4] Z;have h:=h.p [0,1,4] Z;exact rH F o h Z
  refine X0 8 Z ?_;have h:=h.p [0,2,3,4,5,6,7,8,9] Z;have h:=h.p [0,1,3,4,5,6,7,8] Z;have h:=h.p [0,1,3,4,5,6,7] Z;have h:=h.p [0,1,3,4,5,6] Z;have h:=h.p [0,1,2,3,4] Z;have h:=h.p [0,1,4] Z;exact rH F o h Z
 rintro _ _ ⟨b2,F,rfl,h⟩;subst d6;refine qn Z F ?_ ?_<;>intro F
 .refine X0 4 Z ?_;have h:=h.p [1,2] Z;have h:=h.unbase a.below ⟨λ_ h=>h,⟨λ_ h=>h,G⟩⟩;exact rb h F Z
 refine X0 6 Z ?_;obtain⟨o2,F,H⟩:=qc F;refine qq (rL (λm e w'=>∃c8 b D B l k g d i f y v S Q T R i1 i2,cm Ce W c m b i1 i2=V o2/\e=[(0,oL p1 Ce k1),(3,vp z),(5,vi i1),(10,vi W),(15,oL C c A),(17,vi X),(19,vi i2)]/\SH w w' [oG (old w) c8 [vk (b:aZ) (iy b D l g i y S T B k d f v Q R)],oW c7 (c:List qw) [oL C c A],oX z (iy b D l g i y S T B k d f v Q R) 40]) n ⟨_,_,_,_,_,_,_,_,_,_,_,_,_,_,_,_,_,_,F,Z,h⟩ Z ?_);rintro m1 _ _ ⟨c8,b,D,B,l,k,g,d,i,f,y,v,S,Q,T,R,i1,i2,F,rfl,h⟩;rcases m1 with _|m1
 .cases F
 refine X0 8 Z (qn Z F ?_ ?_)<;>intro F
 .refine X0 4 Z (rA [] [2] h Z λ_ h=>M1 7 [0,1,2] 0 (h.p [2] Z) Z ?_);obtain⟨y1,m2,F⟩:=qc F;have d9:=bJ m2;have h:=h.lrn0 1 Z;obtain⟨_,o_1,_,_,hp1,hq1,-,c4,d7⟩:=(tV (h.lrnO 1 Z)).1.at m2;have h2:=c4;obtain⟨p54,k54,rfl,_⟩:=eX c4;have h:=h.lrnAdd 1 Z h2;refine Ax 3 15 hp1 hq1 ⟨d9.1,qE d9.2.1 (tV (h.lrnO 1 Z)).2⟩ (h.p [2] Z) Z (M0 223 [4,6,7] (h.p [2] Z) Z ?_);obtain⟨y2,_,F,e2,_,_,_,_,hp2,hq2,c5,d8⟩:=(tV (h.lrnO 1 Z)).1.ix F;have h4:=c5;obtain⟨p55,k55,rfl,_⟩:=eX c5;have h:=h.lrnAdd 1 Z h4;refine Ax 8 479 hp2 hq2 ⟨e2.1,qE e2.2.1 (tV (h.lrnO 1 Z)).2⟩ (h.p [2] Z) Z (M0 3039 [9,11] (h.p [2] Z) Z ?_);obtain⟨⟨d1,n9,d3⟩,c6,F⟩:=qc F;refine uc (λe w'=>e=[(0,oL p1 Ce k1),(10,vi W),(15,oL C c A),(17,vi X),(19,vi i2),(20,vi d1),(22,vi d3),(3,vp z)]/\SH w w' [oG (old w) c8 [vk (b:aZ) (iy b D l g i y S T B k d f v Q R)],Ch.lrn c7 (c:List qw) [oL C c A] [vk (y2:qw) (wL y2 p55 k55),vk (y1:qw) (wL y1 p54 k54)],oX z (iy b D l g i y S T B k d f v Q R) 40]) 0 (bits 20 1048575) ?_ ?_
  .intro K;refine At 5 10 3071 4063 Z ?_ ?_
   .refine zc 0 d7 Z (Ag (h.p [2] Z) (Ao 10 4095 Z (zc 1 d8 Z (Ag (h.p [2] Z) (Ao 12 8191 Z (bB (d1,n9,d3) h (cB 16 Z) (tG (h.grp 0 0 Z Z) ⟨_,_,Z,(vv (qm.mono (h.lrnS 1 0 Z Z) (h.lrnB 1 Z))).1⟩ c6) Z Z Z Z λw42 S51 o0 N p=>?_))))));obtain⟨S52,o3,rfl,O,s⟩:=N.consI p;obtain⟨S53,o4,rfl,P,u⟩:=O.consI s;obtain⟨rfl,h⟩:=P.lastI u;exact G0 1048575 [13,14,15,16,17,18,19] (h.p [2] Z) Z (BK [(0,_),(10,_),(15,_),(17,_),(19,_),(20,_),(22,_),(3,_)] ⟨Z,Z,Z,Z,Z,Z,Z,Z,G⟩ (K _ _ ⟨Z,h⟩))
   refine zc 1 d8 Z (Ag (h.p [2] Z) (Ao 5 4095 Z (zc 0 d7 Z (Ag (h.p [2] Z) (Ao 12 8191 Z (bB (d1,n9,d3) h (cB 16 Z) (tG (h.grp 0 0 Z Z) ⟨_,_,Z,(vv (qm.mono (h.lrnS 1 0 Z Z) (h.lrnB 1 Z))).1⟩ c6) Z Z Z Z λw42 S51 o0 N p=>?_))))));obtain⟨S52,o3,rfl,O,s⟩:=N.consI p;obtain⟨S53,o4,rfl,P,u⟩:=O.consI s;obtain⟨rfl,h⟩:=P.lastI u;exact G0 1048575 [13,14,15,16,17,18,19] (h.p [2] Z) Z (BK [(0,_),(10,_),(15,_),(17,_),(19,_),(20,_),(22,_),(3,_)] ⟨Z,Z,Z,Z,Z,Z,Z,Z,G⟩ (K _ _ ⟨Z,h⟩))
  rintro _ _ ⟨rfl,h⟩;refine Ad (X0 3 Z ?_);obtain⟨⟨r58,r59,r60⟩,c9,F⟩:=qc F;refine vI (r58,r59,r60) a h (cB 13 Z) (cT (a.atB h) ⟨_,_,Z,(a.inBS h s1)⟩ c9) Z Z Z Z λ_ _ _ h l8=>?_;obtain⟨_,_,rfl,I,l9⟩:=dP l8;have d0:=I;obtain⟨_,_,_,_,_,_,_,_,_,_,_,_,_,_,rfl,_,_,_,_,_,_,_⟩:=cF I;have h:=h.grpAdd 0 Z d0;obtain⟨_,_,rfl,J,m0⟩:=dP l9;have hr119:=J;obtain rfl:=J;obtain⟨_,rfl,L⟩:=kQ m0;have hr121:=L;obtain rfl:=L;refine qbq Z (zs 3 h Z λ_ h=>X0 8 Z (qh (t:=181) F Z ?_ ?_))<;>intro F
  .refine X0 18 Z (dO Z Z (X0 4 Z ?_));have h:=h.p [2,3] Z;have h:=h.unbase a.below ⟨λ_ h=>h,⟨λ_ h=>h,G⟩⟩;cases qe F;exact rb h H Z
  refine X0 6 Z (qh (t:=184) F Z ?_ ?_)<;>intro F
  .refine X0 10 Z (qh (t:=190) F Z ?_ ?_)<;>intro F
   .refine X0 9 Z (dO Z Z (X0 4 Z ?_));have h:=h.p [2,3] Z;have h:=h.unbase a.below ⟨λ_ h=>h,⟨λ_ h=>h,G⟩⟩;cases qe F;exact rb h H Z
   refine X0 6 Z (qh (t:=193) F Z ?_ ?_)<;>intro F
   .refine X0 10 Z (qn Z F ?_ ?_)<;>intro F
    .refine X0 4 Z ?_;have h:=h.p [2,3] Z;have h:=h.unbase a.below ⟨λ_ h=>h,⟨λ_ h=>h,G⟩⟩;cases qe F;exact rb h H Z
    refine X0 7 Z ?_;have h:=h.p [0,2,3] Z;have h:=h.unlrn 1 Z;exact rK ⟨_,_,_,_,_,_,_,_,_,_,_,_,_,_,_,_,_,_,F,Z,h⟩ Z
   refine X0 7 Z (bQ Z Z (X0 7 Z ?_));have h:=h.p [0,2,3] Z;have h:=h.unlrn 1 Z;exact rK ⟨_,_,_,_,_,_,_,_,_,_,_,_,_,_,_,_,_,_,F,Z,h⟩ Z
  refine X0 13 Z (qh (t:=193) F Z ?_ ?_)<;>intro F
  .refine X0 10 Z (qn Z F ?_ ?_)<;>intro F
   .refine X0 4 Z ?_;have h:=h.p [2,3] Z;have h:=h.unbase a.below ⟨λ_ h=>h,⟨λ_ h=>h,G⟩⟩;cases qe F;exact rb h H Z
   refine X0 7 Z ?_;have h:=h.p [0,2,3] Z;have h:=h.unlrn 1 Z;exact rK ⟨_,_,_,_,_,_,_,_,_,_,_,_,_,_,_,_,_,_,F,Z,h⟩ Z
  refine X0 7 Z (bQ Z Z (X0 7 Z ?_));have h:=h.p [0,2,3] Z;have h:=h.unlrn 1 Z;exact rK ⟨_,_,_,_,_,_,_,_,_,_,_,_,_,_,_,_,_,_,F,Z,h⟩ Z
 refine qy Z ?_;cases qe F;have F:=H;refine X0 5 Z (qh (t:=201) F Z ?_ ?_)<;>intro F
 .refine X0 7 Z ?_;have h:=h.p [1,2] Z;have h:=h.unbase a.below ⟨λ_ h=>h,⟨λ_ h=>h,G⟩⟩;exact rb h F Z
 refine X1 5 2 h Z (dI h F (zQ (show qm.R _ _ (b.Ac:qf) _ from⟨[oL D b.Ac.Aq.As B],[oL l b.Ac.Aa.Ab k,oL g b.Ac.Aa.Ap d,oL i b.Ac.Aa.Ai f,oL y b.Ac.Ah v],Z,⟨_,_,Z,(mb (h.grp 0 0 Z Z)).1.1⟩,⟨[oL l b.Ac.Aa.Ab k,oL g b.Ac.Aa.Ap d,oL i b.Ac.Aa.Ai f],[oL y b.Ac.Ah v],Z,⟨[oL l b.Ac.Aa.Ab k],[oL g b.Ac.Aa.Ap d,oL i b.Ac.Aa.Ai f],Z,⟨_,_,Z,(mb (h.grp 0 0 Z Z)).2.1.1⟩,⟨[oL g b.Ac.Aa.Ap d],[oL i b.Ac.Aa.Ai f],Z,⟨_,_,Z,(mb (h.grp 0 0 Z Z)).2.2.1.1⟩,⟨_,_,Z,(mb (h.grp 0 0 Z Z)).2.2.2.1.1⟩⟩⟩,⟨_,_,Z,(mb (h.grp 0 0 Z Z)).2.2.2.2.1.1⟩⟩⟩)) Z λ_ _ h F=>X0 5 Z ?_);have h:=h.p [1,2] Z;have h:=h.unbase a.below ⟨λ_ h=>h,⟨λ_ h=>h,G⟩⟩;exact rb h F Z
end Go.Fw


namespace Go.Fw
open Go
set_option maxRecDepth 100000
section
variable{code:List (gW .u8)}
theorem qch{n:Nat}{a b mode:Int}:ux n a b mode=V (bif mode==1 then qj (a-b) else qj (b-a)):=by
 unfold ux;cases mode==1<;>rfl
theorem HB(hk:qco YX code):Ev (λn=>sK n code) An:=by
 unfold sK PJ;refine Cy Z (Ev.bif (λ_=>.done) (λhl=>?_));have hl:code.length<=4096:=by have:=of_decide_eq_false hl;omega
 obtain⟨⟨j,node,mode⟩,l,hj⟩:=qbH (code:=code) ⟨by omega,hk.2⟩ (by omega);dsimp only at hj;have h:=hj.ok;refine Ck l ?_;dsimp only;rcases V2 (node:=node) (mode:=mode) h with⟨k,hne,hs,hi⟩|⟨t,R,hw,hm,hr,hi,⟨k,hne,hs,hx⟩|⟨f,c,d,N,hpos,hdd,h0,hx⟩⟩
 .have W:Ev (λn=>fF n j node mode) (zP,k):=by unfold fF;exact Ck hi (Cq (oF hne) .done)
  have hS:Ev (λn=>kE n j node mode) (zP,k):=by unfold kE;exact Ck hs .done
  exact Ck W (Ck l (Cq (oF hne) (Ck hS (Ck (b:=An) (Cq (by simp) (Cx (by simp[zP]))) .done))))
 .have W:Ev (λn=>fF n j node mode) (zP,k):=by unfold fF;exact Ck hi (Cp Z (Ck hx .done))
  have hS:Ev (λn=>kE n j node mode) (zP,k):=by unfold kE;exact Ck hs .done
  exact Ck W (Ck l (Cq (oF hne) (Ck hS (Ck (b:=An) (Cq (by simp) (Cx (by simp[zP]))) .done))))
 have H:=N.nd;have hlen:=N.len;obtain⟨p,hp,ep⟩:=UX h0;have g:=λq (z:q∈aP j t R.length node.toNat)=>TL hm (List.mem_map_of_mem (f:=lf (HC d j mode)) z);generalize gt (ua mode ((aP j t R.length node.toNat).map (lf (HC d j mode)))) 0=P at hx ep g;subst ep;obtain⟨y,he,K⟩:=N.isPath hp;have Y:Ev (λn=>fF n j node mode) (lf (HC d j mode) p,0):=by
  unfold fF;exact Ck hi (Cp Z (Ck hx .done))
 have I:=L5 h N hm hdd y K;have hE:=qbK h N y K;rw[he] at hE;have X:=O2 h N hm (count:=6) (by decide);have hsl:(ua mode ((aP j t R.length node.toNat).map (lf (KI f j t mode)))).length=(aP j t R.length node.toNat).length:=by rw[PK,jo]
 have m:=λq (z:q<(ua mode ((aP j t R.length node.toNat).map (lf (KI f j t mode)))).length)=>UX (A:=KI f j t mode) z;generalize ua mode ((aP j t R.length node.toNat).map (lf (KI f j t mode)))=S at X hsl m;have htk:(S.take (6:Int).toNat).length=min 6 S.length:=jy;have D:∀q,q<(S.take (6:Int).toNat).length->gt (S.take (6:Int).toNat) q=gt S q:=λq z=>K3 (by have:(6:Int).toNat=6:=rfl;omega);have hfew:=N.few;have hSl:S.length<=300:=by omega
 generalize S.take (6:Int).toNat=T at X htk D;have B:0<T.length:=by omega
 have ia:qG t.Af node=V (gt t.Af node.toNat):=by
  have:=qz (xs:=t.Af) (j:=node.toNat) (by rw[N.w.tm.a];exact H.2);rwa [<-N.arr] at this
 have hG:Ev (λn=>tp n j node mode) (bif mode==1 then qj (CM mode (gt t.Af node.toNat)-HC d j mode p) else qj (HC d j mode p-CM mode (gt t.Af node.toNat)),0):=by
  unfold tp;refine Ck hi (Cp Z (Ck hx (Cp Z ?_)));unfold ya;simp only[jd,ia,qaH hm,qch];exact .done
 refine Ck Y (Ck l (Cp Z (Ck I (Ck l (Ck hE (Ck l (Ck X (Ck l (Ck hG (Ck l ?_))))))))));dsimp only;have hT1:((T.length:Int)==0)=Cd:=by simp;intro e;rw[e] at B;cases B
 refine Ck (b:=Cd) (Cp Z (Cp Z (Cp Z (Cp Z (Cp (by unfold lf HC;simp) (Cp (by simp) (Cx (by rw[hT1])))))))) (Cp Z ?_);have O:∀e q,q+e=T.length->Ev (λn=>cm code (yA d (nI j (lf (HC d j mode) p).Bn mode) (lf (HC d j mode) p).Bk (lf (HC d j mode) p).Bk.length).1 T n j mode (q:Int)) (.nxt (j,mode,(T.length:Int))):=by
  intro e
  induction e with
  |zero=>
   intro q z;obtain rfl:q=T.length:=by omega
   refine Cm ?_;simp only[cm,qr (jf _),Cj];exact .done
  |succ e ih=>
   intro q z;have s:q<T.length:=by omega
   obtain⟨o,J,Q⟩:=m q (by omega);obtain⟨hb',he',L⟩:=N.isPath J;have eq:gt T q=lf (KI f j t mode) o:=(D q s).trans Q;have e1:(gt T q).Bn=o.Bn:=by rw[eq];rfl
   have e2:(gt T q).Bk=o.Bk:=by rw[eq];rfl
   have r:=L5 h N hm hdd hb' L;have iT:qG T (q:Int)=V (gt T q):=qz s;have hh:=g o J;have ea:(lf (HC d j mode) o).Af=(yA d (nI j o.Bn mode) o.Bk o.Bk.length).1:=rfl;have eb:(lf (HC d j mode) p).Af=(yA d (nI j (lf (HC d j mode) p).Bn mode) (lf (HC d j mode) p).Bk (lf (HC d j mode) p).Bk.length).1:=rfl;rw[ea,eb] at hh;refine Cm ?_;simp only[cm,wS q];refine Cq (qp s) (Cy iT (Cy iT ?_));rw[e1,e2];refine Ck r (Ck l (Cp Z ?_));rcases uE hm with rfl|rfl
   .have:=hh.1 Z;exact Cp Z (Cq Z (Cp (decide_eq_false (by omega)) (ih (q+1) (by omega))))
   .have:=hh.2 Z;exact Cq Z (Cp (decide_eq_false (by omega)) (Cp Z (ih (q+1) (by omega))))
 refine Ck (O T.length 0 (by omega)) ?_;dsimp only;refine Ev.bif (λ_=>.done) (λa=>?_);have F:=FX h.Ac;cases hM:AY j.Ac
 .rw[hM] at F;exact Ck F .done
 .exfalso;obtain⟨x,u,x0,x1,v⟩:=L7 N.w.tg.bl N.w.tg.co hdd (KD (start:=p.Bn) (yM h.Am.len N.w.tg.sr) hm).1 (KD (start:=p.Bn) (yM h.Am.len N.w.tg.sr) hm).2 (by omega) (λi hi=>DV y hi) p.Bk.length (jf _);have C:=qaL (mode:=mode) N.w N.T y;have v:=v _ C.1 C.2;have M:yA d (nI j p.Bn mode) p.Bk p.Bk.length=((nI j p.Bn mode).1+x,u):=v;have hbn:=qcd h N.w N.T hM hm hdd y (by omega) (λi hi=>DV y hi) p.Bk.length (jf _);obtain⟨hin,hrc⟩:=X7 N.w N.T hp;obtain⟨_,_,_,_,_,b2⟩:=hbn;have b3:=b2.trans hin;have hB:=(N.T.eq _ H.2).b hrc;rw[xv] at hB;have a:=of_decide_eq_false a;have eo:HC d j mode p=(nI j p.Bn mode).1+x:=by unfold HC;rw[M]
  rw[M] at b3;rw[eo] at a;rcases uE hm with rfl|rfl
  .have:=b3.e Z;have a:¬ qj ((nI j p.Bn 0).1+x-(gt t.Af node.toNat).Ar)>=0:=a;dsimp only at this;rw[qX (by omega) (by omega)] at a;omega
  .have:=b3.l Z;have a:¬ qj ((gt t.Af node.toNat).Bc-((nI j p.Bn 1).1+x))>=0:=a;dsimp only at this;rw[qX (by omega) (by omega)] at a;omega
end
end Go.Fw
