/- Plain laws: coupled timing and settled lists, with what stands behind them (rows 53, 56). -/
import Derived.Test.YtfkmekkhnmifiaaGreatDoorFE
import Derived.Test.YtfkmekkhnmifiaaGreatDoorDR4
open Option renaming bind_some->jd, some->V, none->U
open Nat renaming le_refl->je, le_trans->jR, zero_le->jW
open Bool renaming and_eq_true->jf, eq_iff_iff->jj
open List renaming length_append->jg, length_singleton->ji, getElem_mem->jo, getD_eq_getElem?_getD->jx, all_eq_true->jF, take_length->jG
open Int renaming le_refl->jU

namespace Go.Fw
open Go
set_option maxRecDepth 100000
theorem qvR{τ ρ ε σ1 σ2:Type}{m:Nat}(F:m<=1000){Ls:Nat->List Int->Int->Option (Flow ρ σ1)}{Li:Nat->ε->List Int->Int->Option (Flow ρ σ2)}{lim:ρ}{fin:τ->List Int->Int->ρ}(J:(Nat->Bool)->Prop)(nx:(Nat->Bool)->Option (τ×(Nat->Bool)))
  (z:∀q t a,J q->nx q=V (t,a)->J fun k=>q k || a k)
  (l:∀q r X,(nx q=U->X=lim)->(∀t a,nx q=V (t,a)->(selN (fun k=>q k || a k) m).length=(selN q m).length->X=fin t (ints (selN q m)) r) ->
   (∀t a,nx q=V (t,a)->(selN (fun k=>q k || a k) m).length≠(selN q m).length->Ev (fun n=>Ls n (ints (selN (fun k=>q k || a k) m)) (W64 (r+1))) (.ret X))->Ev (fun n=>Ls (n+1) (ints (selN q m)) r) (.ret X))
  (i:∀e q r X,(nx q=U->X=lim)->(∀t a,nx q=V (t,a)->(selN (fun k=>q k || a k) m).length=(selN q m).length->X=fin t (ints (selN q m)) r) ->
   (∀t a,nx q=V (t,a)->(selN (fun k=>q k || a k) m).length≠(selN q m).length->∀e',Ev (fun n=>Li n e' (ints (selN (fun k=>q k || a k) m)) (W64 (r+1))) (.ret X))->Ev (fun n=>Li (n+1) e (ints (selN q m)) r) (.ret X)) :
  ∀d q r,m-(selN q m).length=d->J q->(1<=r/\r<=((selN q m).length:Int)+1)->∃X,((X=lim/\∃q',J q'/\nx q'=U)\/∃q' t a r',J q'/\nx q'=V (t,a)/\(selN (fun k=>q' k || a k) m).length=(selN q' m).length/\(1<=r'/\r'<=((selN q' m).length:Int)+1)/\X=fin t (ints (selN q' m)) r') /\
   Ev (fun n=>Ls n (ints (selN q m)) r) (.ret X)/\∀e,Ev (fun n=>Li n e (ints (selN q m)) r) (.ret X):=by
 intro d
 induction d using Nat.strongRecOn with
 |ind d ih=>
  intro q r D v A;cases hn:nx q with
  |none=>exact⟨lim,.inl ⟨rfl,q,v,hn⟩,Ev.succ (l q r _ (fun _=>rfl) (fun t a h=>by rw[hn] at h;cases h) (fun t a h=>by rw[hn] at h;cases h)),fun e=>Ev.succ (i e q r _ (fun _=>rfl) (fun t a h=>by rw[hn] at h;cases h) (fun t a h=>by rw[hn] at h;cases h))⟩
  |some p=>
   obtain⟨t,a⟩:=p;by_cases g:(selN (fun k=>q k || a k) m).length=(selN q m).length
   .refine⟨fin t (ints (selN q m)) r,.inr ⟨q,t,a,r,v,hn,g,A,rfl⟩,Ev.succ (l q r _ (fun h=>by rw[hn] at h;cases h) (fun f c h _=>?_) (fun f c h b=>?_)),fun e=>Ev.succ (i e q r _ (fun h=>by rw[hn] at h;cases h) (fun f c h _=>?_) (fun f c h b=>?_))⟩ <;>
     (rw[hn] at h;obtain⟨rfl,rfl⟩:=Prod.mk.inj (Option.some.inj h))
    .rfl
    .exact absurd g b
    .rfl
    .exact absurd g b
   .have B:=qrA (q:=q) (a:=a) (m:=m);have C:(selN (fun k=>q k || a k) m).length<=m:=qgv;have y:W64 (r+1)=r+1:=qP (by omega) (by omega);obtain⟨X,o,s,u⟩:=ih _ (by omega) (fun k=>q k || a k) (r+1) Z (z q t a v hn) (by omega);refine⟨X,o,Ev.succ (l q r _ (fun h=>by rw[hn] at h;cases h) (fun f c h x=>?_) (fun f c h b=>?_)),fun e=>Ev.succ (i e q r _ (fun h=>by rw[hn] at h;cases h) (fun f c h x=>?_) (fun f c h b=>?_))⟩ <;>
     (rw[hn] at h;obtain⟨rfl,rfl⟩:=Prod.mk.inj (Option.some.inj h))
    .exact absurd x g
    .rw[y];exact s
    .exact absurd x g
    .rw[y];exact u
def exq(b:qd)(ks:List qm)(q:Nat->Bool):List Int:=exS ks b.Aa.Ah.length (ints (selN q ks.length)) (ints (selN q ks.length)).length
def coupO(b:qd)(br:List Int)(xs:List qg)(R:List Nat)(f:Nat->qf->qf×qf)(ex:List Int):Option qi:=rnO (wideF b ex f) (linksL b) (lvJ b br) xs R (zTm (2*(places b.Aa).length))
section
variable{b:qd}{c:qz}{br:List Int}{xs:List qg}{ks:List qm}{R:List Nat}{f:Nat->qf->qf×qf}{q r:Nat->Bool}{used ex:List Int}{t:qi}
theorem qqe:(exq b ks q).length=b.Aa.Ah.length:=qov
theorem qxg(c:cplsB b ks=true)(h:∀k,k<ks.length->q k=true->r k=true)(j:Nat):0<=gt (exq b ks q) j/\gt (exq b ks q) j<=gt (exq b ks r) j/\gt (exq b ks r) j<=1000000000:=by
 have d:=(qi5 c).1;have m:∀p:Nat->Bool,j<b.Aa.Ah.length->gt (exq b ks p) j=sumE ks j (selN p ks.length):=fun p g=>by
  have i:∀u,u∈selN p ks.length->u<ks.length:=fun u f=>(qcd.1 f).1;have a:(selN p ks.length).length<=20:=jR qgv d;have:=qwV c i a (selN p ks.length).length (je _) j g;rw[jG] at this;unfold exq;rw[qbE];exact this
 by_cases g:j<b.Aa.Ah.length
 .rw[m q g,m r g];have n:=qqu (j:=j) c (l:=selN q ks.length) fun u f=>(qcd.1 f).1;have o:=qqu (j:=j) c (l:=selN r ks.length) fun u f=>(qcd.1 f).1;have s:=qu0 (j:=j) c h;have a:(selN r ks.length).length<=20:=jR qgv d;omega
 .have z:∀p:Nat->Bool,gt (exq b ks p) j=0:=fun p=>by
   have i:=qqe (b:=b) (ks:=ks) (q:=p);unfold gt;rw[jx,List.getElem?_eq_none (by omega)];rfl
  rw[z q,z r];omega
theorem qud(a:cplsB b ks=true):allN (fun j=>inI (gt (exq b ks q) j) 0 1000000000) (exq b ks q).length=true:=by
 rw[qai];intro j _;rw[qaQ];have:=qxg (b:=b) (q:=q) a (fun _ _ h=>h) j;omega
theorem qvl(a:srcB xs (ndB b)=true):∀x,x∈xs->spanB x.Af=true:=fun x c=>by
 unfold srcB at a;rw[qai] at a;obtain⟨i,hi,rfl⟩:=List.mem_iff_getElem.1 c;have:=a i hi;rw[<-qeV hi];simp only[jf] at this;exact this.2.2.1
theorem qyj(a:TgOk b c br xs R):∀k,k∈R->k<2*(places b.Aa).length:=fun k d=>by
 obtain⟨i,hi,rfl⟩:=List.mem_iff_getElem.1 d;exact(a.ord.at hi).1
theorem qqS(k:Nat)(s:qf):(wideF b ex f k s).2=(f k s).2:=by
 unfold wideF;cases decide (0<ex.length)&&((gt (linksL b) k).Au==2)<;>rfl
theorem qt4(d:TgOk b c br xs R)(i:SpansS b c f)(n:xs.length<=1048576)(m:cplsB b ks=true)(e:coupO b br xs R f (exq b ks q)=V t) :
  ∃l,rnO f (linksL b) (lvJ b br) xs R (zTm (2*(places b.Aa).length))=V l/\Wd l t (2*(places b.Aa).length):=by
 have h:=d.bl;have y:=qf6 h;have g:=qqh n d.sr;have a:=qyj d;have v:(exq b ks q).length=b.Ac.length:=by rw[qqe];omega
 have p:coupO b br xs R f (exq b ks q)=rnO (fE f (exQ b (exq b ks q))) (linksL b) (lvJ b br) xs R (zTm (2*(places b.Aa).length)):=
  qrK (lv:=lvJ b br) h i (fun k s=>qqS k s) (qwL h d.co i v) g R _ a qog
 rw[p] at e;obtain⟨l,e1,u⟩:=qvQ (lv:=lvJ b br) (e1:=fun _=>0) h d.co i (fun k=>by have:=qw8 (b:=b) (k:=k) (qud (b:=b) (q:=q) m);exact⟨jU _,this.1,this.2⟩) g (qvl d.sr) R _ _ _ a Wd.start e;have r:∀k s,k<(linksL b).length->slR s->fE f (fun _=>0) k s=f k s:=fun k s m x=>by
  obtain⟨z,A,B⟩:=qqE h d.co i m x;show(wideS 0 (f k s).1,(f k s).2)=f k s;rw[qrl z A B]
 have o:=qrK (lv:=lvJ b br) (f1:=fE f (fun _=>0)) h i (fun _ _=>rfl) r g R _ a qog;rw[e1] at o;exact⟨l,o.symm,u⟩
theorem qvX(a:TgOk b c br xs R)(o:br.length<=1048576)(u:xs.length<=1048576)(p:SpansS b c f)(r:∀e:List Int,e.length=0\/e.length=b.Ac.length->SpansI b c e (wideF b e f))(h:ex.length=b.Ac.length) :
  (∀t,coupO b br xs R f ex=V t->TmOk t (ndB b))/\Ev (fun n=>qhm n b c br xs ex (ints R)) (runR (coupO b br xs R f ex))/\Ev (fun n=>qbi n (V ⟨V (viewE b ex),lvJ b br⟩) c xs (ints R)) (runR (coupO b br xs R f ex)):=by
 have l:=a.bl;have v:=qaW (qZ (qao l));have m:=a.len;have g:R.length<=1000:=by rw[m];show 2*(places b.Aa).length<=1000;omega
 have d:=qqh u a.sr;exact⟨fun t x=>qxs l p (fun k s=>qqS k s) d R (zTm (2*(places b.Aa).length)) t (qyj a) qog x,
  qxw (R:=R) l p h o d (qyj a) g,qsq (lv:=lvJ b br) (R:=R) l p (fun k s=>qqS k s) (r ex (.inr h)) qlw d (fun i hi=>⟨(a.ord.at hi).1,(a.ord.at hi).2.1⟩) g⟩
theorem qur(h:TgOk b c br xs R)(d:br.length<=1048576)(l:xs.length<=1048576)(a:b.Aa.Ah.length<=1048576)(i:cplsB b ks=true)(m:SpansS b c f)(g:∀e:List Int,e.length=0\/e.length=b.Ac.length->SpansI b c e (wideF b e f))(q:Nat->Bool) :
  (∀t,coupO b br xs R f (exq b ks q)=V t->TmOk t (ndB b))/\Ev (fun n=>qgx n b ks (ints (selN q ks.length))) (exq b ks q)/\Ev (fun n=>qcv n b ks (ints (selN q ks.length))) (exq b ks q) /\
   Ev (fun n=>qhm n b c br xs (exq b ks q) (ints R)) (runR (coupO b br xs R f (exq b ks q)))/\Ev (fun n=>qbi n (V ⟨V (viewE b (exq b ks q)),lvJ b br⟩) c xs (ints R)) (runR (coupO b br xs R f (exq b ks q))):=by
 have k:=(qi5 i).1;have p:=qf6 h.bl;have o:=qlO (q:=q) k;obtain⟨o1,o2,r⟩:=qvX (ex:=exq b ks q) h d l m g (by rw[qqe];omega);exact⟨o1,qqo (used:=ints (selN q ks.length)) i a (by omega) qoH,qm4 (used:=ints (selN q ks.length)) h.bl i a (by omega) qoH,o2,r⟩
theorem qtD(g:qg1 b)(l:okS c.Ba)(p:br.length<=1048576)(s:xs.length<=1048576)(t:ks.length<=1048576) :
  (∃code:Int,(code != 0)=true/\Ev (fun n=>qgS n b c br xs ks) ([],code)/\Ev (fun n=>qbR n b c br xs ks []) (U,[],code)) \/
  (cplsB b ks=true/\∃R,TgOk b c br xs R/\Ev (fun n=>qc2 n b c br xs) (ints R,0)/\Ev (fun n=>qa4 n b c br xs U) (grB b br,ints R,0)):=by
 have i:b.Aa.Ah.length<=1048576:=g.Aa.Ah.len;have s1:=qf0 g;have d:=qjx g;have s2:=qi4 (c:=c) l;have k:=qjU (c:=c) l;have o:=qkh (b:=b) i t;have m:=qiy (b:=b) i t;have x:=qyt (br:=br) (xs:=xs) g l p s;unfold qbR qgS;cases h0:blockB b&&cornerB c
 .have h:=qx5 (br:=br) (xs:=xs) g l h0;rcases x with⟨code,hne,hs,hi⟩|⟨R,hg,_⟩
  .have e:code=1:=congrArg Prod.snd (hs.uniq h);subst e;refine .inl ⟨1,rfl,Ev.bind (b:=true) ?_ (Ev.tt Z .done),Ev.bind (b:=false) ?_ (Ev.ff Z (Ev.bind hi .done))⟩
   .cases a:blockB b
    .rw[a] at s1;exact Ev.bind s1 (Ev.tt Z .done)
    .rw[a] at s1 h0;have f:cornerB c=false:=h0;rw[f] at s2;exact Ev.bind s1 (Ev.ff Z (Ev.bind s2 .done))
   .cases a:blockB b
    .rw[a] at d;exact Ev.bind d (Ev.ff Z .done)
    .rw[a] at d h0;have f:cornerB c=false:=h0;rw[f] at k;exact Ev.bind d (Ev.tt Z (Ev.bind k (Ev.ff Z .done)))
  .rw[hg.bl,hg.co] at h0;cases h0
 .rw[jf] at h0;obtain⟨a,f⟩:=h0;rw[a] at s1 d;rw[f] at s2 k;have v:Ev (fun n=>(qco n b).bind fun r1=>bif (!r1) then V true else(qdY n c).bind fun z=>V (!z)) false:=Ev.bind s1 (Ev.ff Z (Ev.bind s2 .done));cases h3:cplsB b ks
  .rw[h3] at o m;exact .inl ⟨2,rfl,Ev.bind v (Ev.ff Z (Ev.bind o (Ev.tt Z .done))),Ev.bind (b:=true) (Ev.bind d (Ev.tt Z (Ev.bind k (Ev.tt Z (Ev.bind m (Ev.tt Z .done)))))) (Ev.tt Z .done)⟩
  rw[h3] at o m;rcases x with⟨code,hne,hs,hi⟩|⟨R,hg,hs,hi⟩
  .have r:=(qi5 h3).1;have u:=qnC (ks:=ks) (used:=[]) r (by simp);have y:brB [] ks.length=true:=rfl;rw[y] at u;exact .inl ⟨code,qwN hne,Ev.bind v (Ev.ff Z (Ev.bind o (Ev.ff Z (Ev.bind hs .done)))),Ev.bind (b:=false) (Ev.bind d (Ev.tt Z (Ev.bind k (Ev.tt Z (Ev.bind m (Ev.ff Z (Ev.bind u .done))))))) (Ev.ff Z (Ev.bind hi .done))⟩
  .exact .inr ⟨rfl,R,hg,hs,hi⟩
theorem qtl(d:qg1 b)(g:okS c.Ba)(i:ks.length<=1048576)(f:cplsB b ks=true)(h:TgOk b c br xs R)(s:Ev (fun n=>qc2 n b c br xs) (ints R,0))(hi:Ev (fun n=>qa4 n b c br xs U) (grB b br,ints R,0)) :
  Ev (fun n=>qgS n b c br xs ks) (ints R,0)/\Ev (fun n=>qbR n b c br xs ks []) (grB b br,ints R,0):=by
 have a:b.Aa.Ah.length<=1048576:=d.Aa.Ah.len;have s1:=qf0 d;have k:=qjx d;have s2:=qi4 (c:=c) g;have l:=qjU (c:=c) g;have p:=qkh (b:=b) a i;have m:=qiy (b:=b) a i;rw[h.bl] at s1 k;rw[h.co] at s2 l;rw[f] at p m;have o:=qnC (ks:=ks) (used:=[]) (qi5 f).1 (by simp);have r:brB [] ks.length=true:=rfl;rw[r] at o;unfold qbR qgS;exact⟨Ev.bind (b:=false) (Ev.bind s1 (Ev.ff Z (Ev.bind s2 .done))) (Ev.ff Z (Ev.bind p (Ev.ff Z (Ev.bind s .done)))),Ev.bind (b:=false) (Ev.bind k (Ev.tt Z (Ev.bind l (Ev.tt Z (Ev.bind m (Ev.ff Z (Ev.bind o .done))))))) (Ev.ff Z (Ev.bind hi .done))⟩
theorem qwq(K:br.length<=1048576)(P:xs.length<=1048576)(M:b.Aa.Ah.length<=1048576)(H:cplsB b ks=true)(hg:TgOk b c br xs R)(hs:Ev (fun n=>qgS n b c br xs ks) (ints R,0))(hi:Ev (fun n=>qbR n b c br xs ks []) (grB b br,ints R,0))
  (hf:SpansS b c f) (L:∀e:List Int,e.length=0\/e.length=b.Ac.length->SpansI b c e (wideF b e f)) (J:(Nat->Bool)->Prop) (I:J fun _=>false) (hJ:∀q t,J q->coupO b br xs R f (exq b ks q)=V t->J fun k=>q k || actQ b t ks k) :
  ∃X:qi×List Int×Int×Int,((X=(zT,[],0,3)/\∃q,J q/\coupO b br xs R f (exq b ks q)=U) \/
   ∃q t r,J q/\coupO b br xs R f (exq b ks q)=V t/\(selN (fun k=>q k || actQ b t ks k) ks.length).length=(selN q ks.length).length/\(1<=r/\r<=(ks.length:Int)+1)/\X=(t,ints (selN q ks.length),r,0)) /\
   Ev (fun n=>qdJ n b c br xs ks) X/\Ev (fun n=>qdL n b c br xs ks) X:=by
 have Y:=qur hg K P M H hf L;have W:=hg.bl;have o:=(qi5 H).1;have hk:ks.length<=1048576:=by omega
 have mg:∀(q a:Nat->Bool),selN (fun k=>hasI (ints (selN q ks.length)) (k:Int) || hasI (ints (selN a ks.length)) (k:Int)) ks.length=selN (fun k=>q k || a k) ks.length:=fun q a=>qtz fun k B=>by rw[qoP B,qoP B]
 have i:∀(u v:List Nat),(((ints u).length:Int)==((ints v).length:Int))=decide (u.length=v.length):=fun u v=>by rw[qbE,qbE,jj,beq_iff_eq,decide_eq_true_iff];omega
 have eU:∀(q a:Nat->Bool),compI (sortI (ints (selN q ks.length)++ints (selN a ks.length)))=ints (selN (fun k=>q k || a k) ks.length):=fun q a=>qt6;have F:∀q t a,((coupO b br xs R f (exq b ks q)).map fun t=>(t,actQ b t ks))=V (t,a)->coupO b br xs R f (exq b ks q)=V t/\a=actQ b t ks:=fun q t a h=>by
  cases g:coupO b br xs R f (exq b ks q) with
  |none=>rw[g] at h;cases h
  |some t'=>rw[g] at h;obtain⟨rfl,rfl⟩:=Prod.mk.inj (Option.some.inj h);exact⟨rfl,rfl⟩
 obtain⟨X,hX,C,z⟩:=qvR (m:=ks.length) (by omega) (ε:=List Int) (lim:=((zT,[],0,3):qi×(List Int)×Int×Int))
  (Ls:=fun n u r=>qdB b c br xs ks (ints R) n u r)
  (Li:=fun n e u r=>qdC b c xs ks (ints R) (lvJ b br) (pre (exactL b) b.Ac.length) (pre (load0 b) b.Ac.length) (linksL b) (places b.Aa) n e u r)
  (fin:=fun t u r=>(t,u,r,0)) J (fun q=>(coupO b br xs R f (exq b ks q)).map fun t=>(t,actQ b t ks))
  (fun q t a A h=>by
   obtain⟨g,rfl⟩:=F q t a h;exact hJ q t A g)
  (fun q r X Q S T=>by
   obtain⟨O,sE,_,o2,_⟩:=Y q;simp only[qdB];refine Ev.bind sE (Ev.bind o2 ?_);cases g:coupO b br xs R f (exq b ks q) with
   |none=>
    rw[Q (by rw[g];rfl)];exact Ev.tt Z .done
   |some t=>
    have x:=O t g;have y:(ints (selN (actQ b t ks) ks.length)).length<=1048576:=by rw[qbE];exact jR qgv hk
    have D:(ints (selN q ks.length)).length<=1048576:=by have:=qlO (q:=q) o;omega
    have sM:=qs1 (m:=ks.length) (a:=ints (selN q ks.length)) (d:=ints (selN (actQ b t ks) ks.length)) hk D y;rw[mg] at sM;refine Ev.ff Z (Ev.bind (qqN W ⟨x.r,x.a⟩ H) (Ev.bind sM ?_));have p:=S t (actQ b t ks) (by rw[g];rfl);have s:=T t (actQ b t ks) (by rw[g];rfl);rw[i];by_cases l:(selN (fun k=>q k || actQ b t ks k) ks.length).length=(selN q ks.length).length
    .rw[p l];exact Ev.tt (by simpa using l) .done
    .exact Ev.ff (by simpa using l) (s l))
  (fun e q r X Q S T=>by
   obtain⟨O,_,iE,_,o3⟩:=Y q;simp only[qdC];refine Ev.bind iE (Ev.bind o3 ?_);cases g:coupO b br xs R f (exq b ks q) with
   |none=>
    rw[Q (by rw[g];rfl)];exact Ev.tt Z .done
   |some t=>
    have x:=O t g;have D:=qlO (q:=q) o;have y:=qlO (q:=actQ b t ks) o;refine Ev.ff Z (Ev.bind (qrq (exq b ks q) W ⟨x.r,x.a⟩ H) (Ev.bind (qvi (a:=ints (selN q ks.length)) (d:=ints (selN (actQ b t ks) ks.length)) (by omega)) ?_));have N:sortS (ints (selN q ks.length)++ints (selN (actQ b t ks) ks.length))=V (sortI (ints (selN q ks.length)++ints (selN (actQ b t ks) ks.length))):=by
     unfold sortS;rw[if_pos (by rw[jg];omega)]
    refine Ev.bindN N (Ev.bindN Z ?_);rw[eU];have p:=S t (actQ b t ks) (by rw[g];rfl);have s:=T t (actQ b t ks) (by rw[g];rfl);rw[i];by_cases l:(selN (fun k=>q k || actQ b t ks k) ks.length).length=(selN q ks.length).length
    .rw[p l];exact Ev.tt (by simpa using l) .done
    .exact Ev.ff (by simpa using l) (s l (exq b ks q)))
  _ (fun _=>false) 1 Z I (by omega)
 have e0:ints (selN (fun _=>false) ks.length)=[]:=by unfold selN ints;simp
 rw[e0] at C z;refine⟨X,?_,?_,?_⟩
 .rcases hX with⟨h,q,A,hn⟩|⟨q,t,a,r,A,hn,hl,hr,e⟩
  .refine .inl ⟨h,q,A,?_⟩;cases g:coupO b br xs R f (exq b ks q) with
   |none=>rfl
   |some t=>rw[g] at hn;cases hn
  .obtain⟨g,rfl⟩:=F q t a hn;have:=qgv (q:=q) (j:=ks.length);exact .inr ⟨q,t,r,A,g,hl,⟨hr.1,by omega⟩,e⟩
 .unfold qdJ;exact Ev.bind hs (Ev.ff Z (Ev.bind C .done))
 .unfold qdL;refine Ev.bind hi ?_;unfold grB viewV viewE;dsimp only;exact Ev.bind (z []) .done
theorem qsQ(v:qg1 b)(K:okS c.Ba)(y:br.length<=1048576)(C:xs.length<=1048576)(g:used.length<=1048576)(k:cplsB b ks=true)(s:brB used ks.length=true)(A:TgOk b c br xs R)(L:Ev (fun n=>qc2 n b c br xs) (ints R,0))(hi:Ev (fun n=>qa4 n b c br xs U) (grB b br,ints R,0))
  (hf:SpansS b c f) (z:∀e:List Int,e.length=0\/e.length=b.Ac.length->SpansI b c e (wideF b e f)) {X:Bool×Int} (x0:coupO b br xs R f (exS ks b.Aa.Ah.length used used.length)=U->X=(false,3)) (x1:∀t,coupO b br xs R f (exS ks b.Aa.Ah.length used used.length)=V t->X=((ints (selN (actQ b t ks) ks.length)).all fun x=>hasI used x,0)) :
  Ev (fun n=>qnp n b c br xs ks used) X/\Ev (fun n=>qhJ n b c br xs ks used) X:=by
 have h:b.Aa.Ah.length<=1048576:=v.Aa.Ah.len;have l:=A.bl;have B:=(qi5 k).1;have p:ks.length<=1048576:=by omega
 have s1:=qf0 v;have M:=qjx v;have s2:=qi4 (c:=c) K;have N:=qjU (c:=c) K;have S:=qkh (b:=b) h p;have O:=qiy (b:=b) h p;have T:=qrB (br:=used) (m:=ks.length) g (by omega);have P:=qnC (ks:=ks) B g;rw[l] at s1 M;rw[A.co] at s2 N;rw[k] at S O;rw[s] at T P;have hwl:=qf6 l;unfold qnp qhJ qbR;have W:Ev (fun n=>(qco n b).bind fun r1=>bif (!r1) then V true else(qdY n c).bind fun F=>V (!F)) false:=Ev.bind s1 (Ev.ff Z (Ev.bind s2 .done));have Y:Ev (fun n=>(qeb n b ks).bind fun H=>bif (!H) then V true else(qgm n used (ks.length:Int)).bind fun I=>V (!I)) false:=Ev.bind S (Ev.ff Z (Ev.bind T .done));have Q:Ev (fun n=>(qeQ n b).bind fun r1=>bif r1 then(qeU n c).bind fun F=>bif F then(qb9 n b ks).bind fun H=>bif (!H) then V true else(qiK n ks used).bind fun I=>V (!I) else V false else V false) false:=
  Ev.bind M (Ev.tt Z (Ev.bind N (Ev.tt Z (Ev.bind O (Ev.ff Z (Ev.bind P .done))))))
 have J:=qqo k h g s;have D:=qm4 l k h g s;have i:(exS ks b.Aa.Ah.length used used.length).length=b.Ac.length:=by rw[qov];omega
 generalize exS ks b.Aa.Ah.length used used.length=ex at J D i x0 x1;obtain⟨o1,o2,u⟩:=qvX (ex:=ex) A y C hf z i;cases ho:coupO b br xs R f ex with
 |none=>
  rw[ho] at o2 u;obtain rfl:=x0 ho;refine⟨Ev.bind W (Ev.ff Z (Ev.bind Y (Ev.ff Z (Ev.bind L (Ev.ff Z (Ev.bind J (Ev.bind o2 (Ev.tt Z .done)))))))),Ev.bind (b:=(grB b br,ints R,0)) (Ev.bind Q (Ev.ff Z (Ev.bind hi .done))) ?_⟩;unfold grB viewV viewE;dsimp only;exact Ev.bind D (Ev.bind u (Ev.tt Z .done))
 |some t=>
  have r:=o1 t ho;rw[ho] at o2 u;obtain rfl:=x1 t ho;have o:(ints (selN (actQ b t ks) ks.length)).length<=1048576:=by rw[qbE];exact jR qgv p
  have sM:=qs1 (m:=ks.length) (a:=used) (d:=ints (selN (actQ b t ks) ks.length)) p g o;have iS:=qt9 (xs:=ints (selN (actQ b t ks) ks.length)) (used:=used) o g;refine⟨Ev.bind W (Ev.ff Z (Ev.bind Y (Ev.ff Z (Ev.bind L (Ev.ff Z (Ev.bind J (Ev.bind o2 (Ev.ff Z (Ev.bind (qqN l ⟨r.r,r.a⟩ k) (Ev.bind sM (Ev.now ?_))))))))))),Ev.bind (b:=(grB b br,ints R,0)) (Ev.bind Q (Ev.ff Z (Ev.bind hi .done))) ?_⟩
  .rw[quH s]
  .unfold grB viewV viewE;dsimp only;refine Ev.bind D (Ev.bind u (Ev.ff Z (Ev.bind (qrq ex l ⟨r.r,r.a⟩ k) (Ev.bind iS (Ev.now ?_)))));rw[Bool.not_not]
theorem qvB{q a:Nat->Bool}:∀{m:Nat},(selN (fun k=>q k || a k) m).length=(selN q m).length->∀k,k<m->a k=true->q k=true:=by
 intro m
 induction m with
 |zero=>intro _ k c;omega
 |succ m ih=>
  intro h k c b;rw[qhL,qhL,jg,jg] at h;have f:=qrA (q:=q) (a:=a) (m:=m);have d:(bif q m then[m] else[]).length<=(bif q m || a m then[m] else[]).length:=by cases q m<;>cases a m<;>simp
  by_cases e:k=m
  .subst e;cases hq:q k with
   |true=>rfl
   |false=>rw[hq,b] at h;simp at h;omega
  .exact ih (by omega) k (by omega) b
theorem qxq{q a:Nat->Bool}{m:Nat}:((ints (selN a m)).all fun x=>hasI (ints (selN q m)) x)=true↔∀k,k<m->a k=true->q k=true:=by
 rw[jF];constructor
 .intro h k b i;have:=h (k:Int) (qhN.2 ⟨k,qcd.2 ⟨b,i⟩,rfl⟩);rwa [qoP b] at this
 .intro h x l;obtain⟨k,b,f⟩:=qhN.1 l;obtain⟨d,g⟩:=qcd.1 b;have c:x=(k:Int):=f.symm;rw[c,qoP d];exact h k d g
theorem qtg(l:qg1 b)(s:okS c.Ba)(g:br.length<=1048576)(a:xs.length<=1048576)(z:ks.length<=1048576) :
  ∃X:qi×List Int×Int×Int,Ev (fun n=>qdJ n b c br xs ks) X/\Ev (fun n=>qdL n b c br xs ks) X/\((X.1.Aq.length<=156/\X.1.Af.length<=156/\X.1.Av.length<=156)/\X.2.1.length<=20/\∀x,x∈X.2.1->0<=x/\x<=20) /\
   (X.2.2.2=0->∃(ex:List Int) (u:qi) (M:Nat),M<=1000/\ex.length<=1048576/\Ev (fun n=>qhJ n b c br xs ks X.2.1) (true,0)/\Ev (fun n=>qjS n b ks X.2.1) (ex,0)/\Ev (fun n=>qdA n b c br xs ex) (X.1,0)/\Ev (fun n=>qd6 n b c br xs) (u,0)/\Wd u X.1 M/\1<=X.2.2.1/\X.2.2.1<=(ks.length:Int)+1/\ks.length<=20):=by
 have h:b.Aa.Ah.length<=1048576:=l.Aa.Ah.len;have F:∀code:Int,((((zT,[],0,code):qi×(List Int)×Int×Int).1.Aq.length<=156/\((zT,[],0,code):qi×(List Int)×Int×Int).1.Af.length<=156/\((zT,[],0,code):qi×(List Int)×Int×Int).1.Av.length<=156)/\((zT,[],0,code):qi×(List Int)×Int×Int).2.1.length<=20/\∀x,x∈((zT,[],0,code):qi×(List Int)×Int×Int).2.1->0<=x/\x<=20):=fun _=>⟨⟨jW _,jW _,jW _⟩,jW _,fun x D=>by cases D⟩;rcases qtD (br:=br) (xs:=xs) (ks:=ks) l s g a z with⟨code,hne,hs,hi⟩|⟨h3,R,hg,hs,ht⟩
 .refine⟨(zT,[],0,code),?_,?_,F code,fun e=>by rw[show code=0 from e] at hne;cases hne⟩
  .unfold qdJ;exact Ev.bind hs (Ev.tt hne .done)
  .unfold qdL;exact Ev.bind hi (Ev.tt hne .done)
 .obtain⟨f,m,d⟩:=qv8 hg.bl hg.co;obtain⟨O,N⟩:=qtl l s z h3 hg hs ht;have i:=(qi5 h3).1;obtain⟨X,Q,B,y⟩:=qwq (f:=f) g a h h3 hg O N m d (fun _=>True) trivial (fun _ _ _ _=>trivial);refine⟨X,B,y,?_⟩;rcases Q with⟨rfl,_⟩|⟨q,t,r,_,ho,hl,hr,rfl⟩
  .exact⟨F 3,fun e=>by cases e⟩
  .have a3:=qf6 hg.bl;have T:=qaW (qZ (qao hg.bl));have v:=(qur hg g a h h3 m d q).1 t ho;have W:=v.r;have S:=v.a;have Y:=v.s;have eM:ndB b=2*(places b.Aa).length:=rfl;have C:=qlO (q:=q) i;have o:(exq b ks q).length=b.Ac.length:=by rw[qqe];omega
   obtain⟨u,J,P⟩:=qt4 (f:=f) hg m a h3 ho;have p:=(qsQ (f:=f) (X:=(true,0)) l s g a (used:=ints (selN q ks.length)) (by omega) h3 qoH hg hs ht m d (fun e=>by
     have:coupO b br xs R f (exq b ks q)=U:=e;rw[ho] at this;cases this) (fun t' e=>by
     have:coupO b br xs R f (exq b ks q)=V t':=e;rw[ho] at this;obtain rfl:=Option.some.inj this;rw[qxq.2 (qvB hl)])).2
   refine⟨⟨⟨by show t.Aq.length<=156;omega,by show t.Af.length<=156;omega,by show t.Av.length<=156;omega⟩,C,fun x D=>?_⟩,fun _=>⟨exq b ks q,u,2*(places b.Aa).length,by omega,by omega,p,?_,qyi l s (by omega) a hg m (d _ (.inr o)) o (qud h3) ho ht,qvq a hg m (d [] (.inl Z)) J ht,P,hr.1,hr.2,i⟩⟩
   .obtain⟨k,A,K⟩:=qhN.1 D;have:=(qcd.1 A).1;have L:x=(k:Int):=K.symm;omega
   .have i0:=qjx l;have H:=qiy (b:=b) h z;have I:=qnC (ks:=ks) (used:=ints (selN q ks.length)) i (by omega);rw[hg.bl] at i0;rw[h3] at H;rw[qoH] at I;unfold qjS;exact Ev.bind i0 (Ev.ff Z (Ev.bind (b:=false) (Ev.bind H (Ev.ff Z (Ev.bind I .done))) (Ev.ff Z (Ev.bind (qm4 hg.bl h3 h (show(ints (selN q ks.length)).length<=1048576 by omega) qoH) .done))))
end

section
variable{code:List (IntK .u8)}{a s:Int}
theorem qwR{b:qd}{m:Int}(F:b.Aa.Ah.length<=1048576)(hi:okI m)(l:CodeOk code):∀(d j:Nat) (x:List qm) (f i:Int),SrcI code f i->j+d=b.Aa.Ah.length->(x.length<=20/\∀y,y∈x->qfO y) ->
  EvQ (fun n=>qeu ⟨code,a,s⟩ b m n x f i (j:Int)) (fun o=>(o.1.length<=20/\∀y,y∈o.1->qfO y)/\SrcI code o.2.1 o.2.2.1):=by
 intro d
 induction d with
 |zero=>
  intro j x f i c r g;refine EvQ.succ ?_;simp only[qeu];exact EvQ.ff (qq (by omega)) (EvQ.done ⟨g,c⟩)
 |succ d ih=>
  intro j x f i c r g;refine EvQ.succ ?_;simp only[qeu,wS j];refine EvQ.tt (qp (by omega)) (EvQ.bind (R:=fun o:Int×Int×Bool=>SrcI code o.1 o.2.1/\(o.2.2=true->x.length<20)) (EvQ.bind (qaq _ l c) ?_) ?_)
  .rintro⟨z,A,B⟩ ⟨_,c⟩;dsimp only at c⊢;refine EvQ.bif (fun _=>EvQ.done ⟨c,fun h=>?_⟩) (fun _=>EvQ.done ⟨c,fun h=>by cases h⟩);have:(x.length:Int)<20:=by simpa using h
   omega
  .rintro⟨H,I,b1⟩ ⟨c,k⟩;dsimp only at c k⊢;refine EvQ.bif (fun p=>?_) (fun _=>ih (j+1) _ _ _ c (by omega) g);have t:=k p;refine EvQ.bind (qaq _ l c) ?_;rintro⟨J,u,v⟩ ⟨⟨⟨C,D⟩,_⟩,c⟩;dsimp only at C D c⊢;exact EvQ.bindN (qcm (by omega)) (ih (j+1) _ _ _ c (by omega) ⟨by rw[jg,ji];omega,qbM g.2 ⟨hi,qas (x:=(j:Int)) (by omega) (by omega),qaX _⟩⟩)
theorem qwO{b:qd}(k:b.Aa.Ah.length<=1048576)(l:CodeOk code):∀(d j:Nat) (x:List qm) (c g:Int),SrcI code c g->j+d=b.Aa.Ah.length->(x.length<=20/\∀y,y∈x->qfO y) ->
  EvQ (fun n=>qfJ ⟨code,a,s⟩ b n x c g (j:Int)) (fun o=>(o.1.length<=20/\∀y,y∈o.1->qfO y)/\SrcI code o.2.1 o.2.2.1):=by
 intro d
 induction d with
 |zero=>
  intro j x c g f m h;refine EvQ.succ ?_;simp only[qfJ];exact EvQ.ff (qq (by omega)) (EvQ.done ⟨h,f⟩)
 |succ d ih=>
  intro j x c g f m h;refine EvQ.succ ?_;simp only[qfJ,wS j];refine EvQ.tt (qp (by omega)) (EvQ.bind (qwR k (qas (x:=(j:Int)) (by omega) (by omega)) l d (j+1) x c g f (by omega) h) ?_);rintro⟨u,p,r,t⟩ ⟨i,f⟩;exact ih (j+1) _ _ _ f (by omega) i
theorem qva{b:qd}(A:b.Aa.Ah.length<=1048576)(m:CodeOk code)(h:SrcI code a s):EvQ (fun n=>qku n ⟨code,a,s⟩ b) (fun o=>(o.1.length<=21/\okL qfO o.1)/\SrcI code o.2.1 o.2.2):=by
 unfold qku;refine EvQ.bind (qwO A m b.Aa.Ah.length 0 [] a s h (by omega) ⟨jW _,fun _ h=>by cases h⟩) ?_;rintro⟨l,Q,R,S⟩ ⟨⟨B,g⟩,c⟩;dsimp only at B g c⊢;have nl:okI (b.Aa.Ah.length:Int):=qas (x:=(b.Aa.Ah.length:Int)) (by omega) (by omega);refine EvQ.bif (fun C=>?_) (fun _=>EvQ.done ⟨⟨by dsimp only;omega,by dsimp only;omega,g⟩,c⟩);have p:0<l.length:=by
  have:(l.length:Int) > 0:=by simpa using C
  omega
 refine EvQ.bind (qaq _ m c) ?_;rintro⟨i,F,H⟩ ⟨⟨⟨O,u⟩,_⟩,c⟩;dsimp only at O u c⊢;have T:=u (by omega);obtain⟨k,rfl⟩:∃k:Nat,i=(k:Int):=⟨i.toNat,by omega⟩;have f:k<l.length:=by omega
 have d:=g _ (jo f);have W:∀{y:qm},qfO y->(setS l (k:Int) y).length<=21/\okL qfO (setS l (k:Int) y):=fun {y} h=>⟨by rw[qaY];omega,by rw[qaY];omega,qiq g h⟩;refine EvQ.bind (qaq _ m c) ?_;rintro⟨I,J,K⟩ ⟨_,c⟩;dsimp only at c⊢;refine EvQ.bif (fun _=>EvQ.bindN (qaZ f) (EvQ.bindN (qaZ f) (EvQ.done ⟨W ⟨d.A,d.A,d.Bp⟩,c⟩))) (fun _=>EvQ.bif (fun _=>EvQ.bind (qaq _ m c) ?_) (fun _=>EvQ.bif (fun _=>EvQ.bindN (qaZ f) (EvQ.bindN (qcm (by omega)) (EvQ.done ⟨⟨by dsimp only;rw[jg,ji];omega,by dsimp only;rw[jg,ji];omega,qbM g d⟩,c⟩))) (fun _=>EvQ.bif (fun _=>EvQ.bindN (qaZ f) (EvQ.done ⟨W ⟨d.A,nl,d.Bp⟩,c⟩)) (fun _=>EvQ.done ⟨⟨by dsimp only;omega,by dsimp only;omega,g⟩,c⟩))));rintro⟨L,M,N⟩ ⟨⟨⟨r,t⟩,_⟩,c⟩;dsimp only at r t c⊢;obtain⟨v,e,D⟩:=qss (P:=okI) (x:=0) (y:=10000) (z:=10001) r (t (by decide)) (qlC (by decide) (by decide)) (qlC (by decide) (by decide)) (qlC (by decide) (by decide));exact EvQ.bindN e (EvQ.bindN (qaZ f) (EvQ.done ⟨W ⟨d.A,d.B,D⟩,c⟩))
theorem qwd(d:CodeOk code)(h:SrcI code a s):EvQ (fun n=>qhR n ⟨code,a,s⟩) (fun o=>(CasI o.1 o.2.1 o.2.2.1 o.2.2.2.1/\o.2.2.2.2.1.length<=21/\okL qfO o.2.2.2.2.1)/\SrcI code o.2.2.2.2.2.1 o.2.2.2.2.2.2):=by
 unfold qhR;refine EvQ.bind (qwg d h) ?_;rintro⟨r1,m,p,r,g,i⟩ ⟨c,b⟩;dsimp only at c b⊢;refine EvQ.bind (qva c.bl.ok.Aa.Ah.len d b) ?_;rintro⟨t,k,l⟩ ⟨f,b⟩;exact EvQ.done ⟨⟨c,f⟩,b⟩
theorem qtO(a:CodeOk code):EvQ (fun n=>qeJ n code) (fun o=>CasI o.1 o.2.1 o.2.2.1 o.2.2.2.1/\o.2.2.2.2.length<=21/\okL qfO o.2.2.2.2):=by
 obtain⟨s,b,c⟩:=qtp a;unfold qeJ;refine EvQ.bindE b (EvQ.bind (qwd a c) ?_);rintro⟨g,i,k,l,m,d,f⟩ ⟨h,_⟩;exact EvQ.done h
end
end Go.Fw


namespace Go.Fw
open Go Go.Proofs Go.Proofs.Tryz
open Go.RowKit (Below)
open Ch renaming own->oW,box->oX,grp->oG
open GoT renaming v->oV
open Go.Value renaming slice->oS
set_option maxRecDepth 100000
set_option maxHeartbeats 6400000
variable{n:Nat}{w:World}{cs1 cs2 cs3 cs4 cs5 cs6 cs7 cs8 cs9:List Value}
def qqL(_:Nat)(code:(List (IntK .u8))):Option Bool:=V (decide ((code.length:Int) > 4096))
theorem qst{code:(List (IntK .u8))}(a:Ro w code cs1){r:Bool}(F:qqL n code=V r):RetV prog 6 [gv code cs1] w r:=by
 obtain⟨_,_,rfl,_⟩:=a;exact zV 6 func6 Z fun h=>X0 11 Z (rb h F Z)
def qkM(n:Nat)(a_0:(List (IntK .u8))):Option Bool:=(qqL n a_0).bind fun r1=>bif r1 then V true else(qeJ n a_0).bind fun(c,f,g,h,i)=>(qdL n c f g h i).bind fun|(F,a,b,d)=>(qdJ n c f g h i).bind fun(k,l,m,p)=>(bif (d != p) then V true else(qjl n F k).bind fun C=>bif (!C) then V true else(qjI n a l).bind fun D=>bif (!D) then V true else V (b != m)).bind fun b1=>bif b1 then V false else bif (d != 0) then V true else(qhJ n c f g h i a).bind fun(r,s)=>(qjS n c i a).bind fun(t,u)=>(qdA n c f g h t).bind fun(v,x)=>(qd6 n c f g h).bind fun(y,z)=>bif ((W64 ((W64 ((W64 (s+u))+x))+z))==0) then bif r then(qjl n F v).bind fun A=>bif A then(qjJ n y F).bind fun B=>bif B then bif decide (b>=1) then V (decide (b<=(W64 ((i.length:Int)+1)))) else V false else V false else V false else V false else V false
theorem qoE{a_0:(List (IntK .u8))}(ha1:Ro w a_0 cs1){r:Bool}(F:qkM n a_0=V r):RetV prog 5 [gv a_0 cs1] w r:=by
 obtain⟨_,_,rfl,s1⟩:=ha1;refine zV 144 func5 Z fun h=>X0 8 Z (zcB h F (qst ⟨_,_,rfl,(h.oldS s1)⟩) Z fun _ _ h F=>qbe (qk Z F ?_ ?_))<;>intro F
 .exact X0 4 Z (rb h F Z)
 refine X0 4 Z ?_;have i:Rg (old w) w (old w) w:=.start (fun _ h=>h);obtain⟨⟨r3,k,r5,r6,r7⟩,hr2,F⟩:=qc F;refine qw3 (r3,k,r5,r6,r7) i h (cB 17 Z) (qk6 (i.atB h) ⟨_,_,rfl,(i.inBS h s1)⟩ hr2) Z Z Z Z fun _ _ S1 h hv1=>?_;obtain⟨_,_,rfl,N,hv2⟩:=qk9 hv1;have hr4:=N;obtain⟨p2,k2,p3,k3,p4,k4,p5,k5,p6,k6,rfl,_,_,_,_,_⟩:=qB N;have h:=h.grpAdd 0 Z hr4;obtain⟨_,_,rfl,Y,hv3⟩:=qk9 hv2;have hr6:=Y;obtain rfl:=qaC Y;obtain⟨_,_,rfl,a3,hv4⟩:=qk9 hv3;have hr8:=a3;obtain⟨p7,k7,rfl,_⟩:=a3;have h:=h.grpAdd 0 Z hr8;obtain⟨_,_,rfl,a4,hv5⟩:=qk9 hv4;have s:=a4;obtain⟨p8,k8,rfl,_⟩:=a4;have h:=h.grpAdd 0 Z s;obtain⟨_,rfl,c⟩:=qnf hv5;have u:=c;obtain⟨p9,k9,rfl,_⟩:=c;have h:=h.grpAdd 0 Z u;refine X0 6 Z (qh qa h Z Z Z fun _ l h=>qh qa h Z Z Z fun _ m h=>zs 1 h Z fun _ h=>zs 0 h Z fun _ h=>X2 11 1 0 h Z ?_);obtain⟨⟨r9,b,c8,c9⟩,v,F⟩:=qc F;refine qaV (r9,b,c8,c9) h (cB 15 Z) (qmZ (h.grp 2 3 Z Z) (qiT k) (h.grp 2 2 Z Z) (h.grp 2 1 Z Z) (h.grp 2 0 Z Z) v) Z Z Z Z fun _ _ _ hv6 x=>?_;obtain⟨S3,_,_,_,rfl,b8,y⟩:=hv6.cons x;obtain⟨c4,b9,c5,c0,c6,c2,rfl,-,-,-⟩:=qaj (b8.sh.own 0 Z);obtain⟨S5,_,c7,c3,_,rfl,hv8,z⟩:=b8.consL y;obtain⟨_,_,rfl,hv9,A⟩:=hv8.consI z;obtain⟨rfl,h⟩:=hv9.lastI A;refine zp5 Z (qh qa h Z Z Z fun _ o h=>zs 0 h Z fun _ h=>X2 11 4 3 h Z ?_);obtain⟨⟨r14,r15,r16,r17⟩,B,F⟩:=qc F;refine qaV (r14,r15,r16,r17) h (cB 18 Z) (qmV (h.grp 5 3 Z Z) (qiT k) (h.grp 5 2 Z Z) (h.grp 5 1 Z Z) (h.grp 5 0 Z Z) B) Z Z Z Z fun _ _ _ a5 C=>?_;obtain⟨_,_,_,_,rfl,d,D⟩:=a5.cons C;obtain⟨_,_,_,_,_,_,rfl,-,-,-⟩:=qaj (d.sh.own 0 Z);obtain⟨_,_,_,_,_,rfl,a6,H⟩:=d.consL D;obtain⟨_,_,rfl,a7,I⟩:=a6.consI H;obtain⟨rfl,h⟩:=a7.lastI I;refine zp5 Z (qh qa h Z Z Z fun _ _ h=>zs 0 h Z fun _ h=>X0 6 Z ?_);obtain⟨KF1,p,_,F,a⟩:=bindE F;refine qau (fun e w'=>∃b1,KF1 b1=V r/\e=[(3,vp l),(4,vp m),(5,oS p7 r5.length k7),(6,oS p8 r6.length k8),(7,oS p9 r7.length k9),(8,vp o),(9,oS c7 b.length c3),(10,vi c8),(11,vi c9),(75,.bool b1)]/\SH w w' [oX o (qag r9 c4 c5 c6 b9 c0 c2) 58,oW S5 (b:List Int) [oS c7 b.length c3],oW S3 (r9:qi) (qag r9 c4 c5 c6 b9 c0 c2),oX m (qR k) 36,oX l (qu r3 p2 p3 p4 p5 p6 k2 k3 k4 k5 k6) 34,oG (old w) S1 [fct (r7:(List qm)) [oS p9 r7.length k9],fct (r6:(List qg)) [oS p8 r6.length k8],fct (r5:(List Int)) [oS p7 r5.length k7],fct (r3:qd) (qu r3 p2 p3 p4 p5 p6 k2 k3 k4 k5 k6)]]) ?_ ?_
 .refine X0 5 Z (qe (t:=59) F Z ?_ ?_)<;>intro F
  .refine X0 17 Z ?_;have h:=h.p [3,4,5,6,7,8] Z;cases qb F;exact rG ⟨_,a,rfl,h⟩ Z
  refine X2 5 3 0 h Z (zcB h F (qmM (h.own 5 Z) (h.own 2 Z)) Z fun _ _ h F=>X0 4 Z (qe (t:=65) F Z ?_ ?_))<;>intro F
  .refine X0 11 Z ?_;have h:=h.p [3,4,5,6,7,8] Z;cases qb F;exact rG ⟨_,a,rfl,h⟩ Z
  refine X0 5 Z (zcB h F (qpx (h.own 4 Z) (h.own 1 Z)) Z fun _ _ h F=>X0 4 Z (qe (t:=71) F Z ?_ ?_))<;>intro F
  .refine X0 5 Z ?_;have h:=h.p [3,4,5,6,7,8] Z;cases qb F;exact rG ⟨_,a,rfl,h⟩ Z
  refine X0 8 Z ?_;have h:=h.p [3,4,5,6,7,8] Z;cases qb F;exact rG ⟨_,a,rfl,h⟩ Z
 rintro _ _ ⟨b1,F,rfl,h⟩;subst p;refine qk Z F ?_ ?_<;>intro F
 .refine X0 4 Z ?_;have h:=h.p [0,1,2,3,4] Z;exact rb h F Z
 refine X0 7 Z (qk Z F ?_ ?_)<;>intro F
 .refine X0 4 Z ?_;have h:=h.p [0,1,2,3,4] Z;exact rb h F Z
 refine X2 9 4 3 h Z ?_;obtain⟨⟨r19,r20⟩,J,F⟩:=qc F;refine qaV (r19,r20) h (cB 13 Z) (qom (h.grp 5 3 Z Z) (qiT k) (h.grp 5 2 Z Z) (h.grp 5 1 Z Z) (h.grp 5 0 Z Z) (h.own 1 Z) J) Z Z Z Z fun _ _ _ a8 K=>?_;obtain⟨_,_,rfl,a9,L⟩:=a8.consB K;obtain⟨rfl,h⟩:=a9.lastI L;refine X1 11 4 h Z ?_;obtain⟨⟨r22,r23⟩,M,F⟩:=qc F;refine qaV (r22,r23) h (cB 21 Z) (qo5 (h.grp 5 3 Z Z) (h.grp 5 0 Z Z) (h.own 1 Z) M) Z Z Z Z fun _ _ _ b4 O=>?_;obtain⟨_,_,_,_,_,rfl,b5,P⟩:=b4.consL O;obtain⟨rfl,h⟩:=b5.lastI P;refine X2 13 5 4 h Z ?_;obtain⟨⟨r25,r26⟩,Q,F⟩:=qc F;refine qaV (r25,r26) h (cB 22 Z) (qlD (h.grp 6 3 Z Z) (qiT k) (h.grp 6 2 Z Z) (h.grp 6 1 Z Z) (h.own 0 Z) Q) Z Z Z Z fun _ _ _ b6 R=>?_;obtain⟨_,_,_,_,rfl,f,S⟩:=b6.cons R;obtain⟨_,_,_,_,_,_,rfl,-,-,-⟩:=qaj (f.sh.own 0 Z);obtain⟨rfl,h⟩:=f.lastI S;refine zp3 Z (qh qa h Z Z Z fun _ _ h=>zs 0 h Z fun _ h=>X2 8 7 6 h Z ?_);obtain⟨⟨r28,r29⟩,T,F⟩:=qc F;refine qaV (r28,r29) h (cB 23 Z) (ql3 (h.grp 8 3 Z Z) (qiT k) (h.grp 8 2 Z Z) (h.grp 8 1 Z Z) T) Z Z Z Z fun _ _ _ b7 W=>?_;obtain⟨_,_,_,_,rfl,g,X⟩:=b7.cons W;obtain⟨_,_,_,_,_,_,rfl,-,-,-⟩:=qaj (g.sh.own 0 Z);obtain⟨rfl,h⟩:=g.lastI X;refine zp3 Z (qh qa h Z Z Z fun _ _ h=>zs 0 h Z fun _ h=>X0 13 Z (qe (t:=120) F Z ?_ ?_))<;>intro F
 .refine X0 4 Z (qe (t:=123) F Z ?_ ?_)<;>intro F
  .refine X2 5 5 2 h Z (zcB h F (qmM (h.own 7 Z) (h.own 3 Z)) Z fun _ _ h F=>zp2 Z (qe (t:=128) F Z ?_ ?_))<;>intro F
   .refine X2 5 0 5 h Z (zcB h F (qpH (h.own 1 Z) (h.own 7 Z)) Z fun _ _ h F=>zp2 Z (qe (t:=133) F Z ?_ ?_))<;>intro F
    .refine X0 6 Z (qe (t:=137) F Z ?_ ?_)<;>intro F
     .refine X0 13 Z ?_;have h:=h.p [0,1,2,3,4,5,6,7,8,9] Z;exact rb h F Z
     refine X0 8 Z ?_;have h:=h.p [0,1,2,3,4,5,6,7,8,9] Z;exact rb h F Z
    refine X0 12 Z ?_;have h:=h.p [0,1,2,3,4,5,6,7,8,9] Z;exact rb h F Z
   refine X0 17 Z ?_;have h:=h.p [0,1,2,3,4,5,6,7,8,9] Z;exact rb h F Z
  refine X0 22 Z ?_;have h:=h.p [0,1,2,3,4,5,6,7,8,9] Z;exact rb h F Z
 refine X0 25 Z ?_;have h:=h.p [0,1,2,3,4,5,6,7,8,9] Z;exact rb h F Z
end Go.Fw


namespace Go.Fw
open Go
set_option maxRecDepth 100000
theorem qwQ{a:List Int}(d:a.length<=1048576):Ev (fun n=>qjI n a a) true:=by
 unfold qjI;refine Ev.ff (by simp) (Ev.bind (b:=.nxt (a.length:Int)) ?_ .done);refine loopF (τ:=Unit) (Lf:=fun n _ i=>qeZ a a n i) (S:=fun _=>()) (len:=a.length) (fun n=>by simp only[qeZ,qq (je _),cond_false]) (fun i hi X c=>?_);simp only[qeZ,qp hi,cond_true,qaZ hi,jd,wS i];exact Ev.ff (by simp) c
theorem qrd{code:List (IntK .u8)}(B:rngL rng8 code):Ev (fun n=>qkM n code) true:=by
 unfold qkM qqL;refine Ev.bindN Z (Ev.bif (fun _=>.done) (fun k=>?_));have k:code.length<=4096:=by have:=of_decide_eq_false k;omega
 obtain⟨⟨b,c,br,xs,ks⟩,A,a,f,d⟩:=qtO (code:=code) ⟨by omega,B.2⟩;dsimp only at a f d;obtain⟨⟨t,u,r,m⟩,C,hi,⟨⟨l1,l2,D⟩,F,_⟩,l⟩:=qtg (br:=br) (xs:=xs) (ks:=ks) a.bl.ok a.co.Ba a.br_.len a.sr.len d.len;dsimp only at l1 l2 D F l;have h:=qtE (t:=t) (by omega) (by omega) (by omega);refine Ev.bind A (Ev.bind hi (Ev.bind C (Ev.bind (b:=false) (Ev.ff (by simp) (Ev.bind h (Ev.ff Z (Ev.bind (qwQ (by omega)) (Ev.ff Z (Ev.now (by simp))))))) (Ev.ff Z (Ev.bif (fun _=>.done) (fun g=>?_))))));have g:m=0:=by simpa using g
 obtain⟨ex,I,M,y,_,p,s,v,x,z,H,r1,i⟩:=l g;have o:W64 ((ks.length:Int)+1)=(ks.length:Int)+1:=qP (by omega) (by omega);refine Ev.bind p (Ev.bind s (Ev.bind v (Ev.bind x (Ev.tt Z (Ev.tt Z (Ev.bind h (Ev.tt Z (Ev.bind (qu9 y z) (Ev.tt Z (Ev.tt (decide_eq_true H) (Ev.now ?_)))))))))));rw[o];exact congrArg V (decide_eq_true r1)
end Go.Fw
