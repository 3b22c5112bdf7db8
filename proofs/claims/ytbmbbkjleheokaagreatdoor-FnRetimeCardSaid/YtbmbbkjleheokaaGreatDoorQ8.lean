/- Plain laws of the draws: wires, blocks. -/
import Derived.Test.YtbmbbkjleheokaaGreatDoorQ7
import Derived.Test.YtbmbbkjleheokaaGreatDoorQ1
import Derived.Test.YtbmbbkjleheokaaGreatDoorQ5
import Derived.Test.YtbmbbkjleheokaaGreatDoorQ2
import Derived.Test.YtbmbbkjleheokaaGreatDoorQ6
open Option renaming bind_some->jd, some->V, none->U
open Bool renaming and_eq_true->je, eq_iff_iff->jm, true_and->jB, not_eq_true'->jG, not_true->Jj
open Nat renaming le_refl->jf, mul_le_mul_right->js, zero_le->Jd, le_trans->Jh
open List renaming length_append->jg, length_singleton->jh, getElem_mem->jn, getElem?_eq_getElem->jo, length_map->jr, mem_cons_of_mem->jt, append_assoc->ju, mem_cons_self->jw, not_mem_nil->jy, take_succ_eq_append_getElem->jz, getD_eq_getElem?_getD->jD, mem_append_left->jE, length_replicate->jH, drop_eq_getElem_cons->jJ, mem_cons->jL, all_eq_true->jM, take_length->jN, mem_append_right->jW, map_append->jY, length_take->jZ, append_nil->Je, ext_getElem->Jg
open Int renaming toNat_natCast->jp, le_refl->jC, tdiv_eq_ediv_of_nonneg->jF, mul_nonneg->jP, mul_le_mul_of_nonneg_left->jR, mul_assoc->jV, mul_le_mul->jX, le_trans->Ja, add_zero->Jf

namespace Go.Fw
open Go
set_option maxRecDepth 100000
section
variable{code:List (IntK .u8)}{a s:Int}
structure WirI(x:qan):Prop where
 ok:qou x
 p1:1<=x.Am.length/\x.Am.length<=100
 r1:1<=x.Bu.length
 c1:1<=x.Bq.length
 s1:x.Bk.length<=100
theorem qpT{xs:List Int}(h:xs.length<=1048576):Ev (fun n=>qeF n xs) xs:=by
 unfold qeF;exact Ev.bindN (qnm h) .done
theorem qwJ(p:CodeOk code):∀(r:Nat) (d f g:List Int) (h s':Int),SrcI code h s'->r<=10->(1<=d.length/\d.length+r<=50)->(1<=f.length/\f.length+r<=50)->(1<=g.length/\g.length+r<=50) ->
  (∀y,y∈d->okI y)->(∀y,y∈f->okI y)->(∀y,y∈g->okI y) ->
  EvQ (fun n=>qdi ⟨code,a,s⟩ n d f g h s' (r:Int)) (fun o=>(((1<=o.1.length/\o.1.length<=50)/\∀y,y∈o.1->okI y)/\((1<=o.2.1.length/\o.2.1.length<=50)/\∀y,y∈o.2.1->okI y)/\(1<=o.2.2.1.length/\o.2.2.1.length<=50)/\∀y,y∈o.2.2.1->okI y)/\SrcI code o.2.2.2.1 o.2.2.2.2.1):=by
 intro r
 induction r with
 |zero=>
  intro d f g h s' c C l1 l2 t i l m;refine EvQ.succ ?_;simp only[qdi];exact EvQ.ff Z (EvQ.done ⟨⟨⟨⟨l1.1,by dsimp only;omega⟩,i⟩,⟨⟨l2.1,by dsimp only;omega⟩,l⟩,⟨t.1,by dsimp only;omega⟩,m⟩,c⟩)
 |succ r ih=>
  intro d f g h s' c C l1 l2 t i l m;have e:W64 (((r+1:Nat):Int)-1)=(r:Int):=by rw[qN (by omega) (by omega)];omega
  have b:∀{x:Int} {k:Int},0<=x->x<k->k<=1000->okI x:=fun O i l=>qaE (by omega) (by omega);refine EvQ.succ ?_;simp only[qdi,e];refine EvQ.tt (by simp) (EvQ.bindE (qpT (by omega)) (EvQ.bind (qam _ p c) ?_));rintro⟨D,F,H⟩ ⟨⟨⟨u,p1⟩,_⟩,c⟩;refine EvQ.bindN (qca (by omega)) (EvQ.bindE (qpT (by omega)) (EvQ.bind (qam _ p c) ?_));rintro⟨I,J,K⟩ ⟨⟨⟨v,z⟩,_⟩,c⟩;refine EvQ.bindN (qca (by omega)) (EvQ.bindE (qpT (by omega)) (EvQ.bind (qam _ p c) ?_));rintro⟨L,M,N⟩ ⟨⟨⟨A,B⟩,_⟩,c⟩;dsimp only at u p1 v z A B c;refine EvQ.bindN (qca (by omega)) ?_;exact ih _ _ _ _ _ c (by omega) (by rw[jg,jh];omega) (by rw[jg,jh];omega) (by rw[jg,jh];omega)
   (qbA i (b A (B (by decide)) (by decide))) (qbA l (b v (z (by decide)) (by decide))) (qbA m (b u (p1 (by omega)) (by omega)))
theorem qwc{r1:qan}{h:List Int}(k:CodeOk code)(v:r1.Bk.length<=100)(u:1<=h.length/\h.length<=50):∀(d j:Nat) (x:List Int) (f s':Int),SrcI code f s'->j+d=r1.Bk.length->x.length=r1.Bk.length->(∀y,y∈x->okI y) ->
  EvQ (fun n=>qdk ⟨code,a,s⟩ r1 h n x f s' (j:Int)) (fun o=>(o.1.length=r1.Bk.length/\∀y,y∈o.1->okI y)/\SrcI code o.2.1 o.2.2.1):=by
 intro d
 induction d with
 |zero=>
  intro j x f s' c l g b;refine EvQ.succ ?_;simp only[qdk];exact EvQ.ff (qp (by omega)) (EvQ.done ⟨⟨g,b⟩,c⟩)
 |succ d ih=>
  intro j x f s' c l g b;refine EvQ.succ ?_;simp only[qdk,wS j];refine EvQ.tt (qn (by omega)) (EvQ.bind (qam _ k c) ?_);rintro⟨m,p,r⟩ ⟨⟨⟨t,i⟩,_⟩,c⟩;dsimp only at t i c⊢;have z:=i (by omega);exact EvQ.bindN (qa1 (show j<x.length by omega)) (ih (j+1) _ _ _ c (by omega) (by rw[qa7];exact g) (qiL b (qaE (by omega) (by omega))))
theorem qxi{m:Nat}(R:m<=100)(c:CodeOk code)(h:SrcI code a s):EvQ (fun n=>qhz n ⟨code,a,s⟩ (m:Int)) (fun o=>WirI o.1/\SrcI code o.2.1 o.2.2):=by
 have z:∀x:Int,-1000<=x->x<=1000->okI x:=fun x f g=>qaE (by omega) (by omega);unfold qhz;refine EvQ.bind (qam 6 c h) ?_;rintro⟨d,S,T⟩ ⟨⟨⟨N,p1⟩,_⟩,b⟩;dsimp only at N p1 b⊢;have X:=p1 (by decide);have C:Ev (fun n=>qiU n (m:Int) d) (⟨[-1],[0],[d],List.replicate m 0⟩:qan):=by
  unfold qiU;exact Ev.bindN (qmi (by omega)) .done
 refine EvQ.bindE C (EvQ.bind (qam 4 c b) ?_);rintro⟨t,J,K⟩ ⟨⟨⟨O,v⟩,_⟩,b⟩;dsimp only at O v b⊢;have Y:=v (by decide);obtain⟨r,rfl⟩:∃r:Nat,t=(r:Int):=⟨t.toNat,by omega⟩;have one:∀{x:Int},okI x->∀y,y∈[x]->okI y:=fun D y i=>by obtain rfl:=List.mem_singleton.1 i;exact D
 refine EvQ.bind (qwJ c r [d] [0] [-1] J K b (by omega) (by simp;omega) (by simp;omega) (by simp;omega) (one (z _ (by omega) (by omega))) (one (z _ (by decide) (by decide))) (one (z _ (by decide) (by decide)))) ?_;rintro⟨P,Q,A,L,M,W⟩ ⟨⟨⟨l1,f⟩,⟨l2,g⟩,k,p⟩,b⟩;dsimp only at l1 f l2 g k p b⊢;refine EvQ.bind (qwc (r1:=⟨[-1],[0],[d],List.replicate m 0⟩) c (by simp;omega) k m 0 (List.replicate m 0) L M b (by simp) Z (fun y i=>by obtain⟨_,rfl⟩:=List.mem_replicate.1 i;exact z _ (by decide) (by decide))) ?_;rintro⟨l,F,H,I⟩ ⟨⟨u,B⟩,b⟩;have u:l.length=m:=by simpa using u
 exact EvQ.done ⟨⟨⟨⟨by show A.length<=_;omega,p⟩,⟨by show Q.length<=_;omega,g⟩,⟨by show P.length<=_;omega,f⟩,⟨by show l.length<=_;omega,B⟩⟩,⟨k.1,by show A.length<=_;omega⟩,l2.1,l1.1,by show l.length<=_;omega⟩,b⟩
structure BlkI(b:qe):Prop where
 lib:qhe b.Aq
 des:DesI b.Aa
 wl:b.Af.length=b.Aa.Ak.length
 wi:∀y,y∈b.Af->WirI y
theorem BlkI.ok{b:qe}(h:BlkI b):qjO b:=⟨h.lib,h.des.ok,⟨by rw[h.wl];exact h.des.ok.Ak.1,fun y a=>(h.wi y a).ok⟩⟩
theorem qnr{most:Int}{wild:Bool}(t:2<=most)(l:most<=14)(m:CodeOk code)(h:SrcI code a s) :
  EvQ (fun n=>qeD n ⟨code,a,s⟩ most wild) (fun o=>BlkI o.1/\SrcI code o.2.1 o.2.2):=by
 unfold qeD;refine EvQ.bind (qxE m h) ?_;rintro⟨r1,H,I⟩ ⟨p,b⟩;refine EvQ.bind (qvZ t l m b) ?_;rintro⟨c,D,F⟩ ⟨g,b⟩;dsimp only at p g b⊢;have z:=g.sm.nn;have A:=qaU g.sm;have i:∀(d j:Nat) (x:List qan) (k s':Int),SrcI code k s'->j+d=c.Ak.length->x.length=j->(∀y,y∈x->WirI y) ->
   EvQ (fun n=>qfw ⟨code,a,s⟩ c n x k s' (j:Int)) (fun o=>(o.1.length=c.Ak.length/\∀y,y∈o.1->WirI y)/\SrcI code o.2.1 o.2.2.1):=by
  intro d
  induction d with
  |zero=>
   intro j x k s' b v C f;refine EvQ.succ ?_;simp only[qfw];exact EvQ.ff (qp (by omega)) (EvQ.done ⟨⟨by dsimp only;omega,f⟩,b⟩)
  |succ d ih=>
   intro j x k s' b v C f;refine EvQ.succ ?_;simp only[qfw,wS j];have B:(sinksL c (j:Int) (places c).length).length<=78:=by
    have:(sinksL c (j:Int) (places c).length).length<=(places c).length:=by
     unfold sinksL;rw[jr];refine Jh (List.length_filter_le _ _) ?_;rw[List.length_range];exact jf _
    omega
   refine EvQ.tt (qn (by omega)) (EvQ.bindE (qlb g.sm) (EvQ.bind (qxi (by omega) m b) ?_));rintro⟨O,M,N⟩ ⟨u,b⟩;exact EvQ.bindN (qca (by omega)) (ih (j+1) _ _ _ b (by omega) (by rw[jg,jh];omega) (qbA f u))
 refine EvQ.bind (i c.Ak.length 0 [] D F b (by omega) Z (fun _ h=>by cases h)) ?_;rintro⟨P,J,K,L⟩ ⟨⟨l1,r⟩,b⟩;exact EvQ.done ⟨⟨p,g,l1,r⟩,b⟩
structure BlkO(b:qe):Prop where
 ok:qjO b
 sm:smallD b.Aa
theorem qtF(g:CodeOk code)(h:SrcI code a s):EvQ (fun n=>qie n ⟨code,a,s⟩) (fun o=>BlkO o.1/\SrcI code o.2.1 o.2.2):=by
 unfold qie;refine EvQ.bind (qam 3 g h) ?_;rintro⟨X,Y,i3⟩ ⟨_,d⟩;refine EvQ.bind (qnr (by decide) (by decide) g d) ?_;rintro⟨r1,i4,i5⟩ ⟨b,d⟩;dsimp only at b d⊢;have D:1<=r1.Af.length:=by rw[b.wl];exact b.des.n1
 have F:r1.Af.length<=30:=by rw[b.wl];exact b.des.sm.nn
 refine EvQ.bind (qam _ g d) ?_;rintro⟨p,i7,i8⟩ ⟨⟨⟨O,r⟩,_⟩,d⟩;dsimp only at O r d⊢;have q2:=r (by omega);obtain⟨k,rfl⟩:∃k:Nat,p=(k:Int):=⟨p.toNat,by omega⟩;have i:k<r1.Af.length:=by omega
 have c:=b.wi _ (jn i);have W:∀{y:qan},qou y->BlkO ⟨r1.Aq,r1.Aa,setS r1.Af (k:Int) y⟩:=fun {y} h=>⟨⟨b.lib,b.des.ok,⟨by show(setS _ _ _).length<=_;rw[qa7];omega,qiL (fun y c=>(b.wi y c).ok) h⟩⟩,b.des.sm⟩;have z:∀x:Int,-1000<=x->x<=1000->okI x:=fun x Q R=>qaE (by omega) (by omega);have S:=c.p1;have T:=c.r1;have u:=c.c1;have B:=c.s1;refine EvQ.bind (qam 20 g d) ?_;rintro⟨i9,H,I⟩ ⟨_,d⟩;dsimp only at d⊢;refine EvQ.bif (fun _=>?_) (fun _=>EvQ.bif (fun _=>?_) (fun _=>EvQ.bif (fun _=>?_) (fun _=>EvQ.bif (fun _=>?_) (fun _=>EvQ.bif (fun _=>?_) (fun _=>EvQ.bif (fun _=>?_) (fun _=>EvQ.done ⟨⟨b.ok,b.des.sm⟩,d⟩))))))
 ·have e:subS r1.Af 1 (r1.Af.length:Int)=V (r1.Af.drop 1):=by
   unfold subS;rw[if_pos (by omega)];simp
  refine EvQ.bindN e (EvQ.done ⟨⟨⟨b.lib,b.des.ok,⟨by show(r1.Af.drop 1).length<=_;rw[List.length_drop];omega,fun y c=>(b.wi y (List.mem_of_mem_drop c)).ok⟩⟩,b.des.sm⟩,d⟩)
 ·refine EvQ.bindN (qa1 i) (EvQ.bindE (qpT (by omega)) (EvQ.bindN (qca (by omega)) (EvQ.done ⟨W ⟨c.ok.Am,c.ok.Bu,c.ok.Bq,⟨by show(_++_:List Int).length<=_;rw[jg,jh];omega,qbA c.ok.Bk.2 (z _ (by decide) (by decide))⟩⟩,d⟩)))
 ·refine EvQ.bindN (qa1 i) (EvQ.bindN (qa1 (j:=0) (show 0<r1.Af[k].Bu.length by omega)) (EvQ.done ⟨W ⟨c.ok.Am,⟨by show(setS _ _ _).length<=_;rw[qa7];exact c.ok.Bu.1,qiL c.ok.Bu.2 (z _ (by decide) (by decide))⟩,c.ok.Bq,c.ok.Bk⟩,d⟩))
 ·refine EvQ.bindN (qa1 i) (EvQ.bind (qam 3 g d) ?_);rintro⟨f,J,K⟩ ⟨⟨⟨P,t⟩,_⟩,d⟩;dsimp only at P t d⊢;have t2:=t (by decide);have:f=0\/f=1\/f=2:=by omega
  have C:∃v:Int,idx ([(-1),500,501]:List Int) f=V v/\okI v:=by
   rcases this with rfl|rfl|rfl
   ·exact⟨_,rfl,z _ (by decide) (by decide)⟩
   ·exact⟨_,rfl,z _ (by decide) (by decide)⟩
   ·exact⟨_,rfl,z _ (by decide) (by decide)⟩
  obtain⟨v,l,m⟩:=C;exact EvQ.bindN l (EvQ.bindN (qa1 (j:=0) (show 0<r1.Af[k].Bq.length by omega)) (EvQ.done ⟨W ⟨c.ok.Am,c.ok.Bu,⟨by show(setS _ _ _).length<=_;rw[qa7];exact c.ok.Bq.1,qiL c.ok.Bq.2 m⟩,c.ok.Bk⟩,d⟩))
 ·refine EvQ.bindN (qa1 i) (EvQ.bind (qam 5 g d) ?_);rintro⟨L,M,N⟩ ⟨_,d⟩;have e:W64 ((r1.Af[k].Am.length:Int)-1)=((r1.Af[k].Am.length-1:Nat):Int):=by rw[qN (by omega) (by omega)];omega
  dsimp only;rw[e];exact EvQ.bindN (qa1 (show r1.Af[k].Am.length-1<r1.Af[k].Am.length by omega)) (EvQ.done ⟨W ⟨⟨by show(setS _ _ _).length<=_;rw[qa7];exact c.ok.Am.1,qiL c.ok.Am.2 (qaR _)⟩,c.ok.Bu,c.ok.Bq,c.ok.Bk⟩,d⟩)
 ·have A:=b.des.p1;refine EvQ.bindN (qa1 (j:=0) (show 0<r1.Aa.Aj.length by omega)) (EvQ.done ⟨⟨⟨b.lib,⟨b.des.ok.Ab,b.des.ok.Ak,⟨by show(setS _ _ _).length<=_;rw[qa7];exact b.des.ok.Aj.1,qiL b.des.ok.Aj.2 ⟨(b.des.ok.Aj.2 _ (jn _)).Bi,z 3 (by decide) (by decide),(b.des.ok.Aj.2 _ (jn _)).Bz⟩⟩⟩,b.ok.Af⟩,⟨b.des.sm.ni,b.des.sm.nn,by show(setS _ _ _).length<=_;rw[qa7];exact b.des.sm.np,b.des.sm.nx⟩⟩,d⟩)
end

def sumZ(f:Nat->Int):Nat->Int
 |0=>0
 |n+1=>sumZ f n+f n
theorem qtp{f g:Nat->Int}{n:Nat}(h:∀u,u<n->f u=g u):sumZ f n=sumZ g n:=by
 induction n with
 |zero=>rfl
 |succ n ih=>unfold sumZ;rw[ih (fun u a=>h u (by omega)),h n (by omega)]
theorem qsW{f g:Nat->Int}{a n:Nat}(d:a<n)(h:∀u,u<n->u≠a->f u=g u):sumZ f n=sumZ g n+(f a-g a):=by
 induction n with
 |zero=>omega
 |succ n ih=>
  unfold sumZ;by_cases b:a=n
  ·subst b;rw[qtp (fun u c=>h u (by omega) (by omega))];omega
  ·rw[ih (by omega) (fun u c=>h u (by omega)),h n (by omega) (by omega)];omega
theorem qv6{f:Nat->Int}{n:Nat}(h:∀u,u<n->0<=f u):0<=sumZ f n:=by
 induction n with
 |zero=>exact jC _
 |succ n ih=>unfold sumZ;have:=ih (fun u a=>h u (by omega));have:=h n (by omega);omega
theorem qr4{f:Nat->Int}{a n:Nat}(h:∀u,u<n->0<=f u)(d:a<n):f a<=sumZ f n:=by
 induction n with
 |zero=>omega
 |succ n ih=>
  unfold sumZ;by_cases b:a=n
  ·subst b;have:=qv6 (fun u (c:u<a)=>h u (by omega));omega
  ·have:=ih (fun u c=>h u (by omega)) (by omega);have:=h n (by omega);omega
theorem qwN{f:Nat->Int}{n:Nat}{c:Int}(h:∀u,u<n->f u<=c):sumZ f n<=n*c:=by
 induction n with
 |zero=>simp[sumZ]
 |succ n ih=>
  unfold sumZ;have:=ih (fun u a=>h u (by omega));have:=h n (by omega);rw[Int.natCast_succ,Int.add_mul];omega
def pinCap(b:qe)(p:Tplace):Int:=bif decide (p.instance_<0) then 0 else(gt (cellAt b p.instance_).Bg p.pin.toNat).Bq
def capJ(b:qe)(j:Nat):Int:=pinCap b (gt (places b.Aa) j)
theorem qvX{b:qe}(h:blockB b=true){j:Nat}(d:j<(places b.Aa).length){n:Nat}:qgX n b.Aa b.Aq (gt (places b.Aa) j)=V (capJ b j):=by
 have c:=qaz h;unfold capJ pinCap;rcases qlf d with⟨i,k,hi,hk,_,e⟩|⟨i,hi,_,e⟩
 ·rw[e];obtain⟨⟨a,c1⟩,f,_⟩:=qgP c hi;unfold place1 cellAt;simp only[qgX,show decide ((i:Int)<0)=false by simp,cond_false,qz hi,jd,qd2 a c1,jp,qz (show k<(gt b.Aq.As (gt b.Aa.Ab i).Bt.toNat).Bg.length by omega)]
 ·rw[e];rfl
theorem qvr{b:qe}(h:blockB b=true){j:Nat}(f:j<(places b.Aa).length):0<=capJ b j/\capJ b j<=500:=by
 have d:=qaz h;unfold capJ pinCap;rcases qlf f with⟨i,k,hi,hk,_,e⟩|⟨i,hi,_,e⟩
 ·rw[e];obtain⟨⟨g,c1⟩,l,c⟩:=qgP d hi;unfold place1 cellAt;simp only[show decide ((i:Int)<0)=false by simp,cond_false,jp];have a:=qjl c;unfold pinsB at a;rw[je,qah] at a;have:=a.1 k (by omega);unfold pinB at this;cases hl:decide (k+1=(gt b.Aq.As (gt b.Aa.Ab i).Bt.toNat).Bg.length)
  ·rw[hl] at this;simp only[cond_false,je,qa9] at this;exact this.2
  ·rw[hl] at this;simp only[cond_true,je,beq_iff_eq] at this;omega
 ·rw[e];exact⟨jC _,show(0:Int)<=500 by omega⟩
def skL(b:qe)(i:Nat):List Int:=sinksL b.Aa (i:Int) (places b.Aa).length
def addSink(b:qe)(w:qan)(sk:List Int)(t:List Int)(j:Nat):List Int:=setS t (at0 w.Bk j) (W64 (gt t (at0 w.Bk j).toNat+capJ b (at0 sk j).toNat))
def ldA(b:qe)(w:qan)(sk:List Int):Nat->List Int
 |0=>w.Bq
 |j+1=>addSink b w sk (ldA b w sk j) j
def addUp(w:qan)(t:List Int)(j:Nat):List Int:=setS t (at0 w.Am j) (W64 (gt t (at0 w.Am j).toNat+gt t j))
def ldB(w:qan):Nat->List Int->List Int
 |0,t=>t
 |j+1,t=>ldB w j (addUp w t (j+1))
def loadsL(b:qe)(i:Nat):List Int:=ldB (gt b.Af i) ((gt b.Af i).Am.length-1) (ldA b (gt b.Af i) (skL b i) (skL b i).length)
theorem qoe{b:qe}{w:qan}{sk:List Int}{j:Nat}:(ldA b w sk j).length=w.Bq.length:=by
 induction j with
 |zero=>rfl
 |succ j ih=>unfold ldA addSink;rw[qa7,ih]
theorem qwH{w:qan}{j:Nat}{t:List Int}:(ldB w j t).length=t.length:=by
 induction j generalizing t with
 |zero=>rfl
 |succ j ih=>unfold ldB addUp;rw[ih,qa7]
theorem ql2{b:qe}(h:blockB b=true){i:Nat}(hi:i<b.Af.length):(loadsL b i).length=(gt b.Af i).Am.length:=by
 unfold loadsL;rw[qwH,qoe,(qbr h hi).cap]
theorem qhv{b:qe}(h:blockB b=true){i:Nat}:(skL b i).length<=78:=by
 have a:=qaU (qaj (qaz h));unfold skL;rw[qjo];have:cntP (snkQ b.Aa (i:Int)) (places b.Aa).length<=(places b.Aa).length:=qgw;omega
theorem qn2{b:qe}{i j:Nat}(a:j<(skL b i).length):∃y:Nat,y<(places b.Aa).length/\at0 (skL b i) j=(y:Int)/\snkQ b.Aa (i:Int) y=true:=by
 obtain⟨y,c,d,f⟩:=qur a;exact⟨y,c,by have:=d;rw[show(sinksL b.Aa (i:Int) (places b.Aa).length)=skL b i from rfl,qai a] at this;exact Option.some.inj this,f⟩
theorem qon{b:qe}(h:blockB b=true){i:Nat}(hi:i<b.Af.length):Ev (fun n=>qd5 n b (i:Int)) (loadsL b i):=by
 have c:=qbr h hi;have m:=qaj (qaz h);have u:=c.lo;have r:=c.hi;have d:=c.cap;have x:=qhv h (i:=i);have e1:Ev (fun n=>qbD b (gt b.Af i) (places b.Aa) (skL b i) n (gt b.Af i).Bq 0) (ldA b (gt b.Af i) (skL b i) (skL b i).length,((skL b i).length:Int)):=by
  refine loopF (Lf:=qbD b (gt b.Af i) (places b.Aa) (skL b i)) (S:=ldA b (gt b.Af i) (skL b i)) (len:=(skL b i).length) (fun n=>?_) (fun j a X l=>?_)
  ·simp only[qbD,qp (jf _),cond_false]
  ·obtain⟨y,o,k,_⟩:=qn2 a;have f:j<(gt b.Af i).Bk.length:=by rw[c.snk];exact a
   have g:=c.sin j f;have s:=qoe (b:=b) (w:=gt b.Af i) (sk:=skL b i) (j:=j);simp only[qbD,qn a,cond_true,qai a,k,jd,qai f,qd2 g.1 (show at0 (gt b.Af i).Bk j<((ldA b (gt b.Af i) (skL b i) j).length:Int) by omega),qz o,qvX h o,wS j];have:ldA b (gt b.Af i) (skL b i) (j+1)=setS (ldA b (gt b.Af i) (skL b i) j) (at0 (gt b.Af i).Bk j) (W64 (gt (ldA b (gt b.Af i) (skL b i) j) (at0 (gt b.Af i).Bk j).toNat+capJ b y)):=by
    show addSink _ _ _ _ _=_;unfold addSink;rw[k,jp]
   rw[this] at l;exact l
 have p:∀j t,t.length=(gt b.Af i).Am.length->j<(gt b.Af i).Am.length->Ev (fun n=>qbE (gt b.Af i) n t (j:Int)) (ldB (gt b.Af i) j t,0):=by
  intro j
  induction j with
  |zero=>
   intro t _ _;refine Ev.succ ?_;show Ev (fun n=>qbE (gt b.Af i) (n+1) t 0) _;unfold qbE;exact Ev.ff Z .done
  |succ j ih=>
   intro t z a;have v:=c.par (j+1) (by omega) a;refine Ev.succ ?_;simp only[qbE,show decide (((j+1:Nat):Int) > 0)=true from decide_eq_true (by omega),cond_true,qai a,jd,qd2 v.1 (show at0 (gt b.Af i).Am (j+1)<(t.length:Int) by omega),qz (show j+1<t.length by omega),show((j+1:Nat):Int)-1=(j:Int) by omega,qN (show -9223372036854775808<=(j:Int) by omega) (by omega)];exact ih _ (by rw[qa7];exact z) (by omega)
 unfold qd5 qip;rw[qz hi];simp only[jd,qcE (show([]:List Int).length+(gt b.Af i).Bq.length<=2147483648 by simp;omega),List.nil_append];refine Ev.bind (qni m) (Ev.bind (qqX m) (Ev.bind e1 ?_));rw[qfF (show(gt b.Af i).Bq.length<=9223372036854775807 by omega),show((gt b.Af i).Bq.length:Int)-1=(((gt b.Af i).Am.length-1:Nat):Int) by omega];exact Ev.bind (p _ _ (by rw[qoe];exact d) (by omega)) .done
structure LdOk(t:List Int)(L:Nat)(S:Int):Prop where
 len:t.length=L
 nn:∀k,k<L->0<=gt t k
 sum:sumZ (gt t) L<=S
theorem qme{t:List Int}{a:Nat}{y:Int}{k:Nat}(b:a<t.length):gt (setS t (a:Int) y) k=if k=a then y else gt t k:=by
 unfold setS;rw[jp];by_cases h:k=a
 ·subst h;rw[if_pos Z,qpl b]
 ·rw[if_neg h,qrk h]
theorem qxb{b:qe}(h:blockB b=true){i:Nat}(hi:i<b.Af.length)(m:∀k,k<(gt b.Af i).Bq.length->0<=gt (gt b.Af i).Bq k/\gt (gt b.Af i).Bq k<=500) :
  ∀j,j<=(skL b i).length->LdOk (ldA b (gt b.Af i) (skL b i) j) (gt b.Af i).Am.length (4000+500*j):=by
 have p:=qbr h hi;have z:=p.hi;have l:=p.cap;have A:=qhv h (i:=i);intro j
 induction j with
 |zero=>
  intro _;refine⟨l,fun k t=>(m k (by omega)).1,?_⟩;have:=qwN (f:=gt (gt b.Af i).Bq) (n:=(gt b.Af i).Am.length) (c:=500) (fun u H=>(m u (by omega)).2);show sumZ (gt (gt b.Af i).Bq) _<=_;omega
 |succ j ih=>
  intro D;obtain⟨l1,n1,s1⟩:=ih (by omega);obtain⟨y,B,v,_⟩:=qn2 (show j<(skL b i).length by omega);have C:=qvr h B;have o:=p.sin j (by rw[p.snk];exact(show j<(skL b i).length by omega));obtain⟨a,s⟩:∃a:Nat,at0 (gt b.Af i).Bk j=(a:Int):=⟨_,qdP o.1⟩;rw[s] at o;have d:a<(gt b.Af i).Am.length:=by omega
  have x:=qr4 n1 d;have F:=n1 a d;have e:ldA b (gt b.Af i) (skL b i) (j+1)=setS (ldA b (gt b.Af i) (skL b i) j) (a:Int) (gt (ldA b (gt b.Af i) (skL b i) j) a+capJ b y):=by
   show addSink _ _ _ _ _=_;unfold addSink;rw[v,s,jp,jp,qN (by omega) (by omega)]
  rw[e];refine⟨by rw[qa7];exact l1,fun k t=>?_,?_⟩
  ·rw[qme (by omega)];split
   ·omega
   ·exact n1 k t
  ·rw[qsW (g:=gt (ldA b (gt b.Af i) (skL b i) j)) d (fun u _ r=>by rw[qme (by omega),if_neg r]),qme (by omega),if_pos Z];omega
theorem qxo{b:qe}(h:blockB b=true){i:Nat}(hi:i<b.Af.length){S:Int}(A:S<=1000000000):∀j t,j<(gt b.Af i).Am.length->t.length=(gt b.Af i).Am.length->(∀k,k<t.length->0<=gt t k/\gt t k<=S)->sumZ (gt t) (j+1)<=S ->
  ∀k,k<t.length->0<=gt (ldB (gt b.Af i) j t) k/\gt (ldB (gt b.Af i) j t) k<=S:=by
 have x:=qbr h hi;intro j
 induction j with
 |zero=>intro t _ _ c _;exact c
 |succ j ih=>
  intro t s v c r;have p:=x.par (j+1) (by omega) s;obtain⟨a,o⟩:∃a:Nat,at0 (gt b.Af i).Am (j+1)=(a:Int):=⟨_,qdP p.1⟩;rw[o] at p;have y:=c a (by omega);have z:=c (j+1) (by omega);have e:addUp (gt b.Af i) t (j+1)=setS t (a:Int) (gt t a+gt t (j+1)):=by
   unfold addUp;rw[o,jp,qN (by omega) (by omega)]
  have n:sumZ (gt (setS t (a:Int) (gt t a+gt t (j+1)))) (j+1)<=S:=by
   rw[qsW (g:=gt t) (a:=a) (by omega) (fun u _ l=>by rw[qme (by omega),if_neg l]),qme (by omega),if_pos Z];have:sumZ (gt t) (j+1+1)=sumZ (gt t) (j+1)+gt t (j+1):=rfl;omega
  unfold ldB;rw[e];have:=ih (setS t (a:Int) (gt t a+gt t (j+1))) (by omega) (by rw[qa7];exact v) (fun k f=>by
   rw[qa7] at f;have m:∀u,u<j+1->0<=gt (setS t (a:Int) (gt t a+gt t (j+1))) u:=fun u B=>by
    rw[qme (by omega)];split
    ·omega
    ·exact(c u (by omega)).1
   have d:=qr4 m (show a<j+1 by omega);rw[qme (by omega)] at d⊢;rw[if_pos Z] at d;split
   ·omega
   ·exact c k f) n
  rw[qa7] at this;exact this
theorem qpn{b:qe}(h:blockB b=true){i:Nat}(hi:i<b.Af.length):(∀k,k<(gt b.Af i).Bq.length->0<=gt (gt b.Af i).Bq k/\gt (gt b.Af i).Bq k<=500)/\(∀k,k<(gt b.Af i).Bu.length->0<=at0 (gt b.Af i).Bu k/\at0 (gt b.Af i).Bu k<=1000):=by
 unfold blockB at h;rw[je,qah] at h;have:=h.2 i hi;unfold wireB lenB at this;simp only[je,decide_eq_true_eq,beq_iff_eq] at this;obtain⟨_,_,_,_,f,c,_⟩:=this;rw[qg9 (d:=0),qah] at f c;exact⟨fun k a=>by have:=c k a;rw[qa9] at this;exact this,fun k a=>by have:=f k a;rw[qa9] at this;exact this⟩
theorem qti{b:qe}(h:blockB b=true){i:Nat}(hi:i<b.Af.length){k:Nat}(c:k<(gt b.Af i).Am.length):0<=gt (loadsL b i) k/\gt (loadsL b i) k<=43000:=by
 have g:=qbr h hi;have d:=g.lo;have f:=qhv h (i:=i);obtain⟨l1,n1,s1⟩:=qxb h hi (qpn h hi).1 (skL b i).length (jf _);have:=qxo h hi (S:=43000) (by omega) ((gt b.Af i).Am.length-1) (ldA b (gt b.Af i) (skL b i) (skL b i).length) (by omega) l1 (fun k c=>by
  have a:=n1 k (by omega);have l:=qr4 n1 (show k<(gt b.Af i).Am.length by omega);exact⟨a,by omega⟩) (by rw[show(gt b.Af i).Am.length-1+1=(gt b.Af i).Am.length by omega];omega) k (by omega)
 exact this
def dlL(w:qan)(ld:List Int):Nat->List Int
 |0=>[0]
 |k+1=>dlL w ld k++[W64 (gt (dlL w ld k) (at0 w.Am (k+1)).toNat+W64 (at0 w.Bu (k+1)*gt ld (k+1)))]
theorem qoz{w:qan}{ld:List Int}{k:Nat}:(dlL w ld k).length=k+1:=by
 induction k with
 |zero=>rfl
 |succ k ih=>unfold dlL;rw[jg,ih];rfl
def delaysL(b:qe)(i:Nat):List Int:=dlL (gt b.Af i) (loadsL b i) ((gt b.Af i).Am.length-1)
def exactL(b:qe)(i:Nat):List Int:=(gt b.Af i).Bk.map fun s=>gt (delaysL b i) s.toNat
theorem qk9{b:qe}(h:blockB b=true){i:Nat}(hi:i<b.Af.length):(delaysL b i).length=(gt b.Af i).Am.length:=by
 unfold delaysL;rw[qoz];have:=(qbr h hi).lo;omega
theorem qv9{w:qan}{ld:List Int}{k m:Nat}(b:k+1<m)(c:at0 w.Am (k+1)<((k+1:Nat):Int))(_:0<=at0 w.Am (k+1)) :
  setS (dlL w ld k++List.replicate (m-(k+1)) 0) ((k+1:Nat):Int) (W64 (gt (dlL w ld k++List.replicate (m-(k+1)) 0) (at0 w.Am (k+1)).toNat+W64 (at0 w.Bu (k+1)*gt ld (k+1))))=dlL w ld (k+1)++List.replicate (m-(k+1+1)) 0:=by
 have a:=qoz (w:=w) (ld:=ld) (k:=k);have e1:gt (dlL w ld k++List.replicate (m-(k+1)) 0) (at0 w.Am (k+1)).toNat=gt (dlL w ld k) (at0 w.Am (k+1)).toNat:=by
  rw[qlK,if_pos (by omega)]
 rw[e1];unfold setS;rw[jp,List.set_append,if_neg (by omega),a,Nat.sub_self,show m-(k+1)=(m-(k+1+1))+1 by omega,List.replicate_succ,List.set_cons_zero];show _=(dlL w ld k++[_])++_;rw[ju]
 rfl
theorem qqP{b:qe}(h:blockB b=true){i:Nat}(hi:i<b.Af.length):Ev (fun n=>qfc n b (i:Int)) (delaysL b i):=by
 have f:=qbr h hi;have s:=f.lo;have p:=f.hi;have o:=f.res;have l1:=ql2 h hi;have l:mkS ((loadsL b i).length:Int) (0:Int)=V (List.replicate (loadsL b i).length 0):=qwO (by omega);have c:∀d k,k+1+d=(gt b.Af i).Am.length->Ev (fun n=>qbW (gt b.Af i) (loadsL b i) (List.replicate (loadsL b i).length 0) n (dlL (gt b.Af i) (loadsL b i) k++List.replicate ((gt b.Af i).Am.length-(k+1)) 0) ((k+1:Nat):Int)) (delaysL b i,((loadsL b i).length:Int)):=by
  intro d
  induction d with
  |zero=>
   intro k g;refine Ev.succ ?_;simp only[qbW,jH,qp (show(loadsL b i).length<=k+1 by omega),cond_false];refine Ev.now ?_;rw[show(gt b.Af i).Am.length-(k+1)=0 by omega,List.replicate_zero,Je,l1,<-g];unfold delaysL;rw[<-g]
   rfl
  |succ d ih=>
   intro k g;have m:=f.par (k+1) (by omega) (by omega);have a:=qoz (w:=gt b.Af i) (ld:=loadsL b i) (k:=k);have r:(dlL (gt b.Af i) (loadsL b i) k++List.replicate ((gt b.Af i).Am.length-(k+1)) 0).length=(gt b.Af i).Am.length:=by rw[jg,jH,a];omega
   refine Ev.succ ?_;simp only[qbW,jH,qn (show k+1<(loadsL b i).length by omega),cond_true,qai (show k+1<(gt b.Af i).Am.length by omega),jd,qd2 m.1 (show at0 (gt b.Af i).Am (k+1)<((dlL (gt b.Af i) (loadsL b i) k++List.replicate ((gt b.Af i).Am.length-(k+1)) 0).length:Int) by omega),
    qai (show k+1<(gt b.Af i).Bu.length by omega),qz (show k+1<(loadsL b i).length by omega),qz (show k+1<(dlL (gt b.Af i) (loadsL b i) k++List.replicate ((gt b.Af i).Am.length-(k+1)) 0).length by omega),qhZ (show k+1<9223372036854775807 by omega)]
   rw[qv9 (by omega) m.2 m.1];exact ih (k+1) (by omega)
 unfold qfc;rw[qz hi];simp only[jd];refine Ev.bind (qon h hi) ?_;rw[l];simp only[jd];have:=c ((gt b.Af i).Am.length-1) 0 (by omega);have e0:dlL (gt b.Af i) (loadsL b i) 0++List.replicate ((gt b.Af i).Am.length-(0+1)) 0=List.replicate (loadsL b i).length 0:=by
  rw[l1];show[(0:Int)]++_=_;rw[show(gt b.Af i).Am.length=((gt b.Af i).Am.length-(0+1))+1 by omega,List.replicate_succ]
  rfl
 rw[e0] at this;exact Ev.bind this .done
theorem qp4{b:qe}(h:blockB b=true){i:Nat}(hi:i<b.Af.length):Ev (fun n=>qeC n b (i:Int)) (exactL b i):=by
 have d:=qbr h hi;have l:(gt b.Af i).Bk.length<=78:=by rw[d.snk];exact qhv h
 have k:=qk9 h hi;have f:Ev (fun n=>qba (delaysL b i) (gt b.Af i) n ([]:List Int) 0) (exactL b i,((gt b.Af i).Bk.length:Int)):=by
  refine loopF (Lf:=qba (delaysL b i) (gt b.Af i)) (S:=fun j=>((gt b.Af i).Bk.take j).map fun s=>gt (delaysL b i) s.toNat) (len:=(gt b.Af i).Bk.length) (fun n=>?_) (fun j a X g=>?_)
  ·simp only[qba,qp (jf _),cond_false,jN];rfl
  ·have c:=d.sin j a;simp only[qba,qn a,cond_true,qai a,jd,qd2 c.1 (show at0 (gt b.Af i).Bk j<((delaysL b i).length:Int) by omega),wS j];rw[qcE (by rw[jr,jZ,jh];omega)];have:((gt b.Af i).Bk.take j).map (fun s=>gt (delaysL b i) s.toNat)++[gt (delaysL b i) (at0 (gt b.Af i).Bk j).toNat]=((gt b.Af i).Bk.take (j+1)).map fun s=>gt (delaysL b i) s.toNat:=by
    rw[jz a,jY,qjR a];rfl
   rw[this];exact g
 unfold qeC;refine Ev.bind (qqP h hi) ?_;rw[qz hi];simp only[jd];exact Ev.bind f .done
theorem qsA{b:qe}(h:blockB b=true){i:Nat}(hi:i<b.Af.length):∀k,k<(gt b.Af i).Am.length->∀m,m<=k->0<=gt (dlL (gt b.Af i) (loadsL b i) k) m/\gt (dlL (gt b.Af i) (loadsL b i) k) m<=43000000*k:=by
 have l:=qbr h hi;have t:=l.hi;have r:=l.res;intro k
 induction k with
 |zero=>
  intro _ m u;have f:m=0:=by omega
  subst f;exact⟨jC _,jC _⟩
 |succ k ih=>
  intro o m u;have c:=qoz (w:=gt b.Af i) (ld:=loadsL b i) (k:=k);unfold dlL;rw[qlK];split
  ·have:=ih (by omega) m (by omega);omega
  ·have g:m=k+1:=by omega
   subst g;rw[c,Nat.sub_self];show 0<=W64 _/\W64 _<=_;have p:=l.par (k+1) (by omega) o;obtain⟨a,s⟩:∃a:Nat,at0 (gt b.Af i).Am (k+1)=(a:Int):=⟨_,qdP p.1⟩;rw[s] at p⊢;rw[jp];have v:=ih (by omega) a (by omega);have n:=(qpn h hi).2 (k+1) (by omega);have d:=qti h hi o;have x:at0 (gt b.Af i).Bu (k+1)*gt (loadsL b i) (k+1)<=1000*43000:=jX n.2 d.2 d.1 (by omega);have y:0<=at0 (gt b.Af i).Bu (k+1)*gt (loadsL b i) (k+1):=jP n.1 d.1;rw[wO (at0 (gt b.Af i).Bu (k+1)*gt (loadsL b i) (k+1)),qN (by omega) (by omega)];omega
theorem qkH{b:qe}(h:blockB b=true){i:Nat}(hi:i<b.Af.length){j:Nat}(a:j<(gt b.Af i).Bk.length):0<=gt (exactL b i) j/\gt (exactL b i) j<=344000000:=by
 have c:=qbr h hi;have d:=c.hi;have f:=c.sin j a;have e:gt (exactL b i) j=gt (delaysL b i) (at0 (gt b.Af i).Bk j).toNat:=by
  unfold exactL;rw[qd6 (by rw[jr];exact a),List.getElem_map,qjR a]
 rw[e];have:=qsA h hi ((gt b.Af i).Am.length-1) (by omega) (at0 (gt b.Af i).Bk j).toNat (by omega);show 0<=gt (dlL _ _ _) _/\gt (dlL _ _ _) _<=_;omega

def pre{α:Type}(f:Nat->α)(j:Nat):List α:=(List.range j).map f
theorem qkc{α:Type}{f:Nat->α}{j:Nat}:(pre f j).length=j:=by simp[pre]
theorem qvD{α:Type}{f:Nat->α}{j:Nat}:pre f j++[f j]=pre f (j+1):=by unfold pre;rw[List.range_succ,jY];rfl
theorem qn9{α:Type}{f:Nat->α}{j:Nat}(h:j<=1048576):appS (pre f j) [f j]=V (pre f (j+1)):=by
 rw[qcE (by rw[qkc,jh];omega),qvD]
theorem qvy{α:Type}[Inhabited α]{f:Nat->α}{n j:Nat}(h:j<n):gt (pre f n) j=f j:=qp0 h
theorem qgp{α:Type}[Inhabited α]{f:Nat->α}{n j:Nat}(h:j<n):idx (pre f n) (j:Int)=V (f j):=by rw[qz (by rw[qkc];exact h),qvy h]
theorem qho{α:Type}{f g:Nat->α}{n:Nat}(h:∀k,k<n->f k=g k):pre f n=pre g n:=List.map_congr_left fun k a=>h k (List.mem_range.1 a)
theorem qoq{α:Type}{f:Nat->α}{n k:Nat}{v:α}:setS (pre f n) (k:Int) v=pre (fun i=>if i=k then v else f i) n:=by
 unfold setS pre;rw[jp];refine Jg (by simp) fun i a b=>?_;rw[List.getElem_set];by_cases h:k=i
 ·subst h;simp
 ·rw[if_neg h];simp[show ¬ i=k from fun e=>h e.symm]
def fm{α:Type}(f:Nat->List α)(j:Nat):List α:=(List.range j).flatMap f
theorem qke{α:Type}{f:Nat->List α}{j:Nat}:fm f (j+1)=fm f j++f j:=by unfold fm;rw[List.range_succ,List.flatMap_append];simp
theorem qoW{α:Type}{f:Nat->List α}{j c:Nat}(h:∀i,i<j->(f i).length<=c):(fm f j).length<=c*j:=by
 induction j with
 |zero=>exact jf _
 |succ j ih=>rw[qke,jg];have:=ih (fun i hi=>h i (by omega));have:=h j (by omega);rw[Nat.mul_succ];omega
def transL(a:qat):List qW:=
 bif (a.Be==2) then[⟨0,0⟩,⟨0,1⟩] else bif (a.Be==3) then[⟨1,0⟩,⟨1,1⟩] else bif (a.Be != 1) then[] else
 bif (a.Bp==1) then[⟨0,0⟩,⟨1,1⟩] else bif (a.Bp==2) then[⟨0,1⟩,⟨1,0⟩] else[⟨0,0⟩,⟨0,1⟩,⟨1,0⟩,⟨1,1⟩]
theorem quN{a:qat}{n:Nat}:qfL n a=V (transL a):=by
 unfold qfL transL;cases (a.Be==2)
 ·cases (a.Be==3)
  ·cases (a.Be != 1)
   ·cases (a.Bp==1)
    ·cases (a.Bp==2)<;>rfl
    ·rfl
   ·rfl
  ·rfl
 ·rfl
theorem qp3{a:qat}:(transL a).length<=4:=by
 unfold transL;cases (a.Be==2)
 ·cases (a.Be==3)
  ·cases (a.Be != 1)
   ·cases (a.Bp==1)
    ·cases (a.Bp==2)<;>simp
    ·simp
   ·simp
  ·simp
 ·simp
def b01(x:Int):Prop:=x=0\/x=1
theorem qq5{a:qat}{t:qW}(h:t∈transL a):b01 t.e0/\b01 t.e1:=by
 have b:∀t∈[(⟨0,0⟩:qW),⟨0,1⟩,⟨1,0⟩,⟨1,1⟩],b01 t.e0/\b01 t.e1:=by
  intro t c;simp only[jL,jy,or_false] at c;rcases c with rfl|rfl|rfl|rfl<;>simp[b01]
 refine b t ?_;unfold transL at h;revert h;cases (a.Be==2)
 ·cases (a.Be==3)
  ·cases (a.Be != 1)
   ·cases (a.Bp==1)
    ·cases (a.Bp==2)
     ·exact fun h=>h
     ·intro h;simp at h;rcases h with rfl|rfl<;>simp
    ·intro h;simp at h;rcases h with rfl|rfl<;>simp
   ·intro h;simp at h
  ·intro h;simp at h;rcases h with rfl|rfl<;>simp
 ·intro h;simp at h;rcases h with rfl|rfl<;>simp
def al1(first:Int)(k:Nat)(a:qat)(t:qW):qt:=⟨2*(first+a.Bl)+t.e0,2*(first+a.To)+t.e1,1,(k:Int)⟩
def arcLs(first:Int)(k:Nat)(a:qat):List qt:=(transL a).map (al1 first k a)
def cellLs(c:qF)(first:Int)(j:Nat):List qt:=fm (fun k=>arcLs first k (gt c.Av k)) j
def instLs(b:qe)(j:Nat):List qt:=fm (fun i=>cellLs (cellAt b (i:Int)) (off b.Aa i:Int) (cellAt b (i:Int)).Av.length) j
theorem qoT{first:Int}{k:Nat}{a:qat}:(arcLs first k a).length<=4:=by unfold arcLs;rw[jr];exact qp3
theorem qrC{b:qe}(h:blockB b=true){i:Nat}(hi:i<b.Aa.Ab.length):Ev (fun n=>qfQ n b (gt b.Aa.Ab i) (off b.Aa i:Int)) (cellLs (cellAt b (i:Int)) (off b.Aa i:Int) (cellAt b (i:Int)).Av.length):=by
 have u:=qaz h;have D:=qaj u;obtain⟨⟨z,c1⟩,r,g⟩:=qgP u hi;have B:=qnY g;have s:=(qhl (qjl g)).1;have v:off b.Aa i<=78:=by
  have:=qaU D;rw[qhi] at this;have:=qs7 (d:=b.Aa) (show i<=b.Aa.Ab.length by omega);omega
 show Ev _ (cellLs (gt b.Aq.As (gt b.Aa.Ab i).Bt.toNat) (off b.Aa i:Int) (gt b.Aq.As (gt b.Aa.Ab i).Bt.toNat).Av.length);generalize hc:gt b.Aq.As (gt b.Aa.Ab i).Bt.toNat=c at r g B s⊢;have A:Ev (fun n=>qbG (off b.Aa i:Int) c n ([]:List qt) 0) (cellLs c (off b.Aa i:Int) c.Av.length,(c.Av.length:Int)):=by
  refine loopF (Lf:=qbG (off b.Aa i:Int) c) (S:=cellLs c (off b.Aa i:Int)) (len:=c.Av.length) (fun n=>?_) (fun j p X o=>?_)
  ·simp only[qbG,qp (jf _),cond_false]
  ·have H:=qm3 g p;have C:(cellLs c (off b.Aa i:Int) j).length<=4*j:=qoW fun _ _=>qoT;simp only[qbG,qn p,cond_true,qz p,jd,quN,wS j];have m:Ev (fun n=>qbF (off b.Aa i:Int) (j:Int) (gt c.Av j) (transL (gt c.Av j)) n (cellLs c (off b.Aa i:Int) j) 0) (cellLs c (off b.Aa i:Int) (j+1),((transL (gt c.Av j)).length:Int)):=by
    have F:=qp3 (a:=gt c.Av j);have:=loopF (Lf:=qbF (off b.Aa i:Int) (j:Int) (gt c.Av j) (transL (gt c.Av j))) (S:=fun k=>cellLs c (off b.Aa i:Int) j++((transL (gt c.Av j)).take k).map (al1 (off b.Aa i:Int) j (gt c.Av j))) (len:=(transL (gt c.Av j)).length) (fin:=(cellLs c (off b.Aa i:Int) (j+1),((transL (gt c.Av j)).length:Int))) (fun n=>by
      simp only[qbF,qp (jf _),cond_false,jN];show V (cellLs c _ j++arcLs _ j _,_)=V (fm _ (j+1),_);rw[qke];rfl)
     (fun k f X o=>by
      have y:=qq5 (a:=gt c.Av j) (t:=gt (transL (gt c.Av j)) k) (by rw[qd6 f];exact jn f);have e0:W64 (W64 (2*W64 ((off b.Aa i:Int)+(gt c.Av j).Bl))+(gt (transL (gt c.Av j)) k).e0)=2*((off b.Aa i:Int)+(gt c.Av j).Bl)+(gt (transL (gt c.Av j)) k).e0:=by
       rcases y.1 with e|e<;>rw[e,wO ((off b.Aa i:Int)+(gt c.Av j).Bl),qN (x:=2*((off b.Aa i:Int)+(gt c.Av j).Bl)) (by omega) (by omega),qN (by omega) (by omega)]
      have e1:W64 (W64 (2*W64 ((off b.Aa i:Int)+(gt c.Av j).To))+(gt (transL (gt c.Av j)) k).e1)=2*((off b.Aa i:Int)+(gt c.Av j).To)+(gt (transL (gt c.Av j)) k).e1:=by
       rcases y.2 with e|e<;>rw[e,wO ((off b.Aa i:Int)+(gt c.Av j).To),qN (x:=2*((off b.Aa i:Int)+(gt c.Av j).To)) (by omega) (by omega),qN (by omega) (by omega)]
      simp only[qbF,qn f,cond_true,qz f,jd,e0,e1,wS k];rw[qcE (by rw[jg,jr,jZ,jh];omega),ju];have:((transL (gt c.Av j)).take k).map (al1 (off b.Aa i:Int) j (gt c.Av j))++[al1 (off b.Aa i:Int) j (gt c.Av j) (gt (transL (gt c.Av j)) k)]=((transL (gt c.Av j)).take (k+1)).map (al1 (off b.Aa i:Int) j (gt c.Av j)):=qgE f;have l:((transL (gt c.Av j)).take k).map (al1 (off b.Aa i:Int) j (gt c.Av j))++[(⟨2*((off b.Aa i:Int)+(gt c.Av j).Bl)+(gt (transL (gt c.Av j)) k).e0,2*((off b.Aa i:Int)+(gt c.Av j).To)+(gt (transL (gt c.Av j)) k).e1,1,(j:Int)⟩:qt)]=((transL (gt c.Av j)).take (k+1)).map (al1 (off b.Aa i:Int) j (gt c.Av j)):=this;rw[l];exact o)
    simpa using this
   exact Ev.bind m o
 unfold qfQ;rw[qd2 z c1,hc];simp only[jd];exact Ev.bind A .done
def dvN(d:qh)(k:Nat):Nat:=((List.range (places d).length).find? fun j=>drvQ d (k:Int) j).getD 0
theorem qiJ{l:qw}{d:qh}(h:designB l d=true){k:Nat}(f:k<d.Ak.length):dvN d k<(places d).length/\drvQ d (k:Int) (dvN d k)=true:=by
 obtain⟨j,b,c,a⟩:=qxd h (k:=(k:Int)) (by omega) (by omega);unfold dvN;cases hf:(List.range (places d).length).find? fun j=>drvQ d (k:Int) j with
 |none=>
  have:=List.find?_eq_none.1 hf j (List.mem_range.2 b);exact absurd (by unfold drvQ;rw[c,a];simp) this
 |some i=>exact⟨List.mem_range.1 (List.mem_of_find?_eq_some hf),by have:=List.find?_some hf;exact this⟩
theorem qmL{d:qh}{k:Int}{j:Nat}:drvQ d k j=true↔(gt (places d) j).net=k/\(gt (places d) j).drives=true:=by unfold drvQ;simp
theorem qu0{l:qw}{d:qh}(h:designB l d=true){k:Nat}(m:k<d.Ak.length){j:Nat}(i:j<(places d).length)(n:(gt (places d) j).net=(k:Int))(g:(gt (places d) j).drives=true):dvN d k=j:=by
 obtain⟨a,b⟩:=qiJ h m;obtain⟨c,f⟩:=qmL.1 b;exact qsc h a i (by rw[c,n]) f g
def wl1(a:Nat)(s:Int)(k:Nat):List qt:=[⟨2*(a:Int),2*s,2,(k:Int)⟩,⟨2*(a:Int)+1,2*s+1,2,(k:Int)⟩]
def wlN(b:qe)(i j:Nat):List qt:=fm (fun k=>wl1 (dvN b.Aa i) (at0 (skL b i) k) k) j
def wireLs(b:qe)(j:Nat):List qt:=fm (fun i=>wlN b i (skL b i).length) j
def linksL(b:qe):List qt:=instLs b b.Aa.Ab.length++wireLs b b.Af.length
def load0(b:qe)(i:Nat):Int:=gt (loadsL b i) 0
def viewE(b:qe)(ex:List Int):Tview:=⟨b,places b.Aa,linksL b,pre (load0 b) b.Af.length,pre (exactL b) b.Af.length,ex⟩
def viewV(b:qe):Tview:=viewE b []
theorem qjk{b:qe}(h:blockB b=true){j:Nat}(d:j<=b.Aa.Ab.length):(instLs b j).length<=32*j:=by
 refine qoW fun i hi=>?_;obtain⟨_,_,a⟩:=qgP (qaz h) (show i<b.Aa.Ab.length by omega);have c:=qnY a;have:(cellLs (cellAt b (i:Int)) (off b.Aa i:Int) (cellAt b (i:Int)).Av.length).length<=4*(cellAt b (i:Int)).Av.length:=qoW fun _ _=>qoT;have e:(cellAt b (i:Int)).Av.length<=8:=c;omega
theorem qr5{b:qe}{i j:Nat}:(wlN b i j).length<=2*j:=qoW fun _ _=>jf _
theorem qnU{b:qe}(h:blockB b=true){j:Nat}:(wireLs b j).length<=156*j:=by
 refine qoW fun i _=>?_;have:=qr5 (b:=b) (i:=i) (j:=(skL b i).length);have:=qhv h (i:=i);omega
theorem qdR{b:qe}(h:blockB b=true):(linksL b).length<=10000:=by
 have a:=qaj (qaz h);have c:=a.ni;have d:=a.nn;have f:=qky h;have g:=qjk h (jf _);have i:=qnU h (j:=b.Af.length);unfold linksL;rw[jg];omega
theorem qqr{b:qe}(h:blockB b=true):Ev (fun n=>qiF n b) (V (viewV b)):=by
 have r:=qaz h;have z:=qaj r;have R:=qaU z;have Y:=z.ni;have a3:=z.nn;have hwl:=qky h;have e1:Ev (fun n=>qer b n ([]:List qt) 0 0) (instLs b b.Aa.Ab.length,(off b.Aa b.Aa.Ab.length:Int),(b.Aa.Ab.length:Int)):=by
  have:=loopF (τ:=List qt×Int) (Lf:=fun n t j=>qer b n t.1 t.2 j) (S:=fun j=>(instLs b j,(off b.Aa j:Int))) (len:=b.Aa.Ab.length) (fin:=(instLs b b.Aa.Ab.length,(off b.Aa b.Aa.Ab.length:Int),(b.Aa.Ab.length:Int))) (fun n=>by simp only[qer,qp (jf _),cond_false])
   (fun j a X m=>by
    have F:=qjk h (show j<=b.Aa.Ab.length by omega);have M:=qjk h (show j+1<=b.Aa.Ab.length by omega);have N:=qkF (d:=b.Aa) (i:=j);have a4:off b.Aa (j+1)<=78:=by
     rw[qhi] at R;have:=qs7 (d:=b.Aa) (show j+1<=b.Aa.Ab.length by omega);omega
    simp only[qer,qn a,cond_true,qz a,jd,qbI,wS j];refine Ev.bind (qrC h a) ?_;have e:instLs b j++cellLs (cellAt b (j:Int)) (off b.Aa j:Int) (cellAt b (j:Int)).Av.length=instLs b (j+1):=qke.symm;rw[qcE (by rw[<-jg,e];omega),e,qN (by omega) (by omega),show(off b.Aa j:Int)+((gt b.Aa.Ab j).Ak.length:Int)=((off b.Aa (j+1):Nat):Int) by omega];exact m)
  exact this
 have I:mkS (b.Af.length:Int) (0:Int)=V (vecI (fun _=>0) b.Af.length):=qrw (by omega);have J:mkS (b.Af.length:Int) ([]:List Int)=V (pre (fun _=>[]) b.Af.length):=by
  rw[qmi (by omega)]
  congr 1
  refine Jg (by simp[pre]) fun i u h2=>?_;simp[pre]
 have P:Ev (fun n=>qdr (places b.Aa) n (pre (fun _=>[]) b.Af.length) (vecI (fun _=>0) b.Af.length) 0) (pre (fun i=>skL b i) b.Af.length,vecI (fun k=>(dvN b.Aa k:Int)) b.Af.length,((places b.Aa).length:Int)):=by
  have v:∀k,k<b.Af.length->dvN b.Aa k<(places b.Aa).length:=fun k o=>(qiJ r (by omega)).1;have:=loopF (τ:=List (List Int)×List Int) (Lf:=fun n t j=>qdr (places b.Aa) n t.1 t.2 j) (S:=fun j=>(pre (fun i=>sinksL b.Aa (i:Int) j) b.Af.length,vecI (fun k=>if dvN b.Aa k<j then(dvN b.Aa k:Int) else 0) b.Af.length)) (len:=(places b.Aa).length)
   (fin:=(pre (fun i=>skL b i) b.Af.length,vecI (fun k=>(dvN b.Aa k:Int)) b.Af.length,((places b.Aa).length:Int))) (fun n=>by
    simp only[qdr,qp (jf _),cond_false];rw[qfU (g:=fun k=>(dvN b.Aa k:Int)) (fun k o=>if_pos (v k o))]
    rfl)
   (fun j a X m=>by
    obtain⟨n0,n1⟩:=qlY r a;obtain⟨l,p⟩:∃l:Nat,(gt (places b.Aa) j).net=(l:Int):=⟨_,qdP n0⟩;have x:l<b.Af.length:=by omega
    simp only[qdr,qn a,cond_true,qz a,jd,p,wS j,qnc x,qgp (f:=fun i=>sinksL b.Aa (i:Int) j) x];cases hdr:(gt (places b.Aa) j).drives
    ·have A:pre (fun i=>sinksL b.Aa (i:Int) (j+1)) b.Af.length=setS (pre (fun i=>sinksL b.Aa (i:Int) j) b.Af.length) (l:Int) (sinksL b.Aa (l:Int) j++[(j:Int)]):=by
      rw[qoq];refine qho fun k o=>?_;rw[qjK];unfold snkQ;rw[p,hdr];by_cases c:k=l
      ·subst c;rw[if_pos Z];simp
      ·rw[if_neg c,show(((l:Int)==(k:Int))&&!false)=false by simp;omega];simp
     have B:vecI (fun k=>if dvN b.Aa k<j+1 then(dvN b.Aa k:Int) else 0) b.Af.length=vecI (fun k=>if dvN b.Aa k<j then(dvN b.Aa k:Int) else 0) b.Af.length:=by
      refine qfU fun k o=>?_;have K:dvN b.Aa k≠j:=fun e=>by
       have:=(qmL.1 (qiJ r (k:=k) (by omega)).2).2;rw[e,hdr] at this;cases this
      by_cases u:dvN b.Aa k<j
      ·rw[if_pos u,if_pos (by omega)]
      ·rw[if_neg u,if_neg (by omega)]
     rw[A,B] at m;simp only[cond_false];have a7:(sinksL b.Aa (l:Int) j).length<=j:=by rw[qjo];exact qgw
     rw[qcE (by rw[jh];omega)];exact m
    ·have A:pre (fun i=>sinksL b.Aa (i:Int) (j+1)) b.Af.length=pre (fun i=>sinksL b.Aa (i:Int) j) b.Af.length:=by
      refine qho fun k o=>?_;rw[qjK];unfold snkQ;rw[hdr];simp
     have H:=qu0 r (show l<b.Aa.Ak.length by omega) a p hdr;have B:vecI (fun k=>if dvN b.Aa k<j+1 then(dvN b.Aa k:Int) else 0) b.Af.length=setS (vecI (fun k=>if dvN b.Aa k<j then(dvN b.Aa k:Int) else 0) b.Af.length) (l:Int) (j:Int):=by
      rw[qqo];refine qfU fun k o=>?_;by_cases c:k=l
      ·subst c;rw[if_pos Z,H,if_pos (by omega)]
      ·rw[if_neg c];have K:dvN b.Aa k≠j:=fun e=>by
        have:=(qmL.1 (qiJ r (k:=k) (by omega)).2).1;rw[e,p] at this;omega
       by_cases u:dvN b.Aa k<j
       ·rw[if_pos u,if_pos (by omega)]
       ·rw[if_neg u,if_neg (by omega)]
     rw[A,B] at m;exact m)
  simpa [sinksL,pre,vecI] using this
 have D:∀(i k:Nat) (s:Int) (t:List qt),i<b.Af.length->0<=s->s<=78->t.length<=1000000->Ev (fun n=>qek (vecI (fun k=>(dvN b.Aa k:Int)) b.Af.length) (i:Int) (k:Int) s n t 0) (t++wl1 (dvN b.Aa i) s k,2):=by
  intro i k s t hi a5 a6 ht;have v:=(qiJ r (k:=i) (by omega)).1;have L:idx (vecI (fun k=>(dvN b.Aa k:Int)) b.Af.length) (i:Int)=V (dvN b.Aa i:Int):=qnc hi;refine Ev.succ ?_;simp only[qek,L,jd];refine Ev.tt Z ?_;rw[wO (2*(dvN b.Aa i:Int)),wO (2*s),wO (2*(dvN b.Aa i:Int)+0),wO (2*s+0),qcE (by rw[jh];omega)];simp only[jd];refine Ev.succ ?_;simp only[qek,L,jd];refine Ev.tt Z ?_;rw[show W64 (0+1)=1 from rfl,wO (2*(dvN b.Aa i:Int)),wO (2*s),wO (2*(dvN b.Aa i:Int)+1),wO (2*s+1),qcE (by rw[jg,jh,jh];omega)];simp only[jd];refine Ev.succ ?_;simp only[qek];refine Ev.ff Z (Ev.now ?_);unfold wl1;rw[ju,Jf,Jf]
  rfl
 have C:∀(i:Nat) (t:List qt),i<b.Af.length->t.length<=900000->Ev (fun n=>qet (vecI (fun k=>(dvN b.Aa k:Int)) b.Af.length) (i:Int) (skL b i) n t 0) (t++wlN b i (skL b i).length,((skL b i).length:Int)):=by
  intro i t hi ht;have a8:=qhv h (i:=i);have:=loopF (Lf:=qet (vecI (fun k=>(dvN b.Aa k:Int)) b.Af.length) (i:Int) (skL b i)) (S:=fun k=>t++wlN b i k) (len:=(skL b i).length) (fin:=(t++wlN b i (skL b i).length,((skL b i).length:Int))) (fun n=>by simp only[qet,qp (jf _),cond_false])
   (fun k o X m=>by
    obtain⟨y,L,ey,_⟩:=qn2 o;have hwn:=qr5 (b:=b) (i:=i) (j:=k);simp only[qet,qn o,cond_true,qai o,jd,wS k];refine Ev.bind (D i k (at0 (skL b i) k) (t++wlN b i k) hi (by omega) (by omega) (by rw[jg];omega)) ?_;rw[ju,show wlN b i k++wl1 (dvN b.Aa i) (at0 (skL b i) k) k=wlN b i (k+1) from qke.symm];exact m)
  simpa [wlN,fm] using this
 have Q:Ev (fun n=>qep b (pre (fun i=>skL b i) b.Af.length) (vecI (fun k=>(dvN b.Aa k:Int)) b.Af.length) n ([]:List (List Int)) ([]:List Int) (instLs b b.Aa.Ab.length) 0) (pre (exactL b) b.Af.length,pre (load0 b) b.Af.length,linksL b,(b.Af.length:Int)):=by
  have F:=qjk h (jf _);have:=loopF (τ:=List (List Int)×List Int×List qt) (Lf:=fun n t j=>qep b (pre (fun i=>skL b i) b.Af.length) (vecI (fun k=>(dvN b.Aa k:Int)) b.Af.length) n t.1 t.2.1 t.2.2 j) (S:=fun j=>(pre (exactL b) j,pre (load0 b) j,instLs b b.Aa.Ab.length++wireLs b j)) (len:=b.Af.length)
   (fin:=(pre (exactL b) b.Af.length,pre (load0 b) b.Af.length,linksL b,(b.Af.length:Int))) (fun n=>by simp only[qep,qp (jf _),cond_false];rfl)
   (fun j a X m=>by
    have hw:=qbr h a;have W:=hw.lo;have T:=ql2 h a;have O:=qnU h (j:=j);simp only[qep,qn a,cond_true,wS j];refine Ev.bind (qon h a) ?_;rw[show idx (loadsL b j) (0:Int)=V (load0 b j) from qz (j:=0) (by omega)];simp only[jd];rw[qn9 (by omega)];simp only[jd];refine Ev.bind (qp4 h a) ?_;rw[qn9 (by omega),qgp (f:=fun i=>skL b i) a];simp only[jd];refine Ev.bind (C j _ a (by rw[jg];omega)) ?_;rw[ju,show wireLs b j++wlN b j (skL b j).length=wireLs b (j+1) from qke.symm];exact m)
  simpa [wireLs,fm,pre] using this
 unfold qiF;refine Ev.bind (qni z) (Ev.bind e1 ?_);rw[I,J];simp only[jd];exact Ev.bind P (Ev.bind Q .done)

structure LkOk(ls:List qt)(M:Nat):Prop where
 len:ls.length<=10000
 nodes:M<=156
 fr0:∀x,x<ls.length->0<=(gt ls x).Bl
 fr1:∀x,x<ls.length->(gt ls x).Bl<(M:Int)
 to0:∀x,x<ls.length->0<=(gt ls x).To
 to1:∀x,x<ls.length->(gt ls x).To<(M:Int)
def frL(ls:List qt)(x:Nat):Int:=(gt ls x).Bl
def toL(ls:List qt)(x:Nat):Int:=(gt ls x).To
def lvL(lv:List Bool)(x:Nat):Bool:=gt lv x
abbrev inL(ls:List qt)(lv:List Bool)(j:Nat)(R:List Nat)(k:Nat):Nat:=inN j (frL ls) (toL ls) (lvL lv) R k
abbrev nxtL(ls:List qt)(lv:List Bool)(M:Nat)(R:List Nat):Option Nat:=nxtN ls.length (frL ls) (toL ls) (lvL lv) M R
abbrev ordL(ls:List qt)(lv:List Bool)(M m:Nat)(R:List Nat):Option (List Nat):=ordN ls.length (frL ls) (toL ls) (lvL lv) M m R
def ordR(ls:List qt)(lv:List Bool)(M:Nat):List Int×Bool:=match ordL ls lv M M [] with|some R=>(ints R,true)|none=>([],false)
theorem quF{ls:List qt}{lv:List Bool}{M m:Nat}{R:List Nat}(h:nxtL ls lv M R=U):ordL ls lv M (m+1) R=U:=by
 show(match nxtL ls lv M R with|none=>U|some k=>ordL ls lv M m (R++[k]))=U;rw[h]
theorem quM{ls:List qt}{lv:List Bool}{M m k:Nat}{R:List Nat}(h:nxtL ls lv M R=V k):ordL ls lv M (m+1) R=ordL ls lv M m (R++[k]):=by
 show(match nxtL ls lv M R with|none=>U|some k=>ordL ls lv M m (R++[k]))=_;rw[h]
theorem qlU{M:Nat}{v:Bool}(h:M<=2147483648):mkS (M:Int) v=V (pre (fun _=>v) M):=by
 rw[qmi h]
 congr 1
 refine Jg (by simp[pre]) fun i a b=>?_;simp[pre]
theorem qxv{L:Nat}{fr to:Nat->Int}{lv:Nat->Bool}{R:List Nat}{k:Nat}:inN L fr to lv R k<=L:=qgw
theorem qsl{L:Nat}{fr to:Nat->Int}{lv:Nat->Bool}{R:List Nat}{k:Nat}:inN (L+1) fr to lv R k=inN L fr to lv R k+(bif lv L&&(to L==(k:Int)&&!decide (fr L∈ints R)) then 1 else 0):=rfl
def ledB(ls:List qt)(lv:List Bool)(j:Nat)(R:List Nat)(M:Nat):List Bool:=pre (fun k=>!decide (inL ls lv j R k=0)) M
def inB(R:List Nat)(M:Nat):List Bool:=pre (fun k=>decide (k∈R)) M
theorem qv3{ls:List qt}{lv:List Bool}{M:Nat}(h:LkOk ls M)(A:lv.length=ls.length){R:List Nat} :
  Ev (fun n=>qcI ls lv (inB R M) n (pre (fun _=>false) M) 0) (ledB ls lv ls.length R M,(ls.length:Int)):=by
 have x:=h.len;refine loopF (Lf:=qcI ls lv (inB R M)) (S:=fun j=>ledB ls lv j R M) (len:=ls.length) (fun n=>?_) (fun j l X i=>?_)
 ·simp only[qcI,qp (jf _),cond_false]
 ·obtain⟨a,u⟩:∃a:Nat,(gt ls j).Bl=(a:Int):=⟨_,qdP (h.fr0 j l)⟩;obtain⟨c,v⟩:∃c:Nat,(gt ls j).To=(c:Int):=⟨_,qdP (h.to0 j l)⟩;have p:a<M:=by have:=h.fr1 j l;omega
  have r:c<M:=by have:=h.to1 j l;omega
  have s:frL ls j=(a:Int):=u;have o:toL ls j=(c:Int):=v;have b:decide (frL ls j∈ints R)=decide (a∈R):=by rw[s];exact decide_eq_decide.2 qjF
  have y:idx (inB R M) (a:Int)=V (decide (a∈R)):=qgp (f:=fun k=>decide (k∈R)) p;have z:idx (ledB ls lv j R M) (c:Int)=V (!decide (inL ls lv j R c=0)):=qgp (f:=fun k=>!decide (inL ls lv j R k=0)) r;have t:(lvL lv j&&!decide (a∈R))=true->ledB ls lv (j+1) R M=setS (ledB ls lv j R M) (c:Int) true:=by
   intro g;unfold ledB;rw[qoq];refine qho fun k _=>?_;show(!decide (inN (j+1) _ _ _ R k=0))=_;rw[qsl,o,b];by_cases m:k=c
   ·subst m;rw[if_pos Z];simp only[je] at g;simp[g.1,g.2]
   ·rw[if_neg m,show((c:Int)==(k:Int))=false by simp;omega];simp
  have d:(lvL lv j&&!decide (a∈R))=false->ledB ls lv (j+1) R M=ledB ls lv j R M:=by
   intro g;unfold ledB;refine qho fun k _=>?_;show(!decide (inN (j+1) _ _ _ R k=0))=_;rw[qsl,o,b,show(lvL lv j&&(((c:Int)==(k:Int))&&!decide (a∈R)))=false by
    cases h1:lvL lv j
    ·rfl
    ·rw[h1] at g;simp only[jB] at g;rw[g];simp]
   simp
  simp only[qcI,qn l,cond_true,qz (show j<lv.length by omega),qz l,jd,u,v,y,z,wS j];cases h1:gt lv j
  ·simp only[cond_false,jd];have:=d (by unfold lvL;rw[h1];rfl);rw[this] at i;exact i
  ·simp only[cond_true,jd];cases h2:decide (a∈R)
   ·simp only[Bool.not_false,cond_true];have:=t (by unfold lvL;rw[h1,h2];rfl);rw[this] at i;exact i
   ·simp only[Jj,cond_false];have:=d (by unfold lvL;rw[h1,h2];rfl);rw[this] at i;exact i
theorem qvC{ls:List qt}{lv:List Bool}{M:Nat}(h:LkOk ls M){R:List Nat} :
  Ev (fun n=>qci (M:Int) (inB R M) (ledB ls lv ls.length R M) n 0) (match nxtL ls lv M R with|some k=>(k:Int)|none=>(M:Int)):=by
 have u:=h.nodes;have b:∀d j,j+d=M->(∀i,i<j->freeN ls.length (frL ls) (toL ls) (lvL lv) R i=false) ->
   Ev (fun n=>qci (M:Int) (inB R M) (ledB ls lv ls.length R M) n (j:Int)) (match nxtL ls lv M R with|some k=>(k:Int)|none=>(M:Int)):=by
  intro d
  induction d with
  |zero=>
   intro j p c;have l:nxtL ls lv M R=U:=by
    show(List.range M).find? _=U;rw[List.find?_eq_none];intro x r;rw[List.mem_range] at r;rw[c x (by omega)];simp
   rw[l];refine Ev.succ ?_;simp only[qci,qp (show M<=j by omega),cond_false];rw[show j=M by omega];exact .done
  |succ d ih=>
   intro j p c;have a:j<M:=by omega
   have s:idx (inB R M) (j:Int)=V (decide (j∈R)):=qgp (f:=fun k=>decide (k∈R)) a;have t:idx (ledB ls lv ls.length R M) (j:Int)=V (!decide (inL ls lv ls.length R j=0)):=qgp (f:=fun k=>!decide (inL ls lv ls.length R k=0)) a;refine Ev.succ ?_;simp only[qci,qn a,cond_true,s,t,jd,wS j];have m:freeN ls.length (frL ls) (toL ls) (lvL lv) R j=false->Ev (fun n=>qci (M:Int) (inB R M) (ledB ls lv ls.length R M) n ((j+1:Nat):Int)) (match nxtL ls lv M R with|some k=>(k:Int)|none=>(M:Int)):=fun o=>
    ih (j+1) (by omega) fun i hi=>by
     by_cases g:i=j
     ·rw[g];exact o
     ·exact c i (by omega)
   cases h1:decide (j∈R)
   ·simp only[cond_false];cases h2:decide (inL ls lv ls.length R j=0)
    ·simp only[Bool.not_false,cond_true];exact m (by unfold freeN;rw[h1];show(!false&&decide (inL ls lv ls.length R j=0))=false;rw[h2];rfl)
    ·simp only[Jj,cond_false];have:nxtL ls lv M R=V j:=by
      show(List.range M).find? _=V j;rw[List.find?_range_eq_some];refine⟨?_,List.mem_range.2 a,fun i hi=>by rw[c i hi];rfl⟩;unfold freeN;rw[h1];show(!false&&decide (inL ls lv ls.length R j=0))=true;rw[h2];rfl
     rw[this];exact .done
   ·simp only[cond_true];exact m (by unfold freeN;rw[h1];rfl)
 exact b M 0 (by omega) (fun i hi=>absurd hi (by omega))
theorem quw{ls:List qt}{lv:List Bool}{M:Nat}(h:LkOk ls M)(g:lv.length=ls.length):Ev (fun n=>qhY n (M:Int) ls lv) (ordR ls lv M):=by
 have o:=h.nodes;have b:∀m R,R.length+m=M->Ev (fun n=>qeV (M:Int) ls lv n (inB R M) (ints R))
   (match ordL ls lv M m R with|some R'=>.nxt (inB R' M,ints R')|none=>.ret ([],false)):=by
  intro m
  induction m with
  |zero=>
   intro R c;refine Ev.succ ?_;simp only[qeV,qc6,qp (show M<=R.length by omega),cond_false];exact .done
  |succ m ih=>
   intro R c;refine Ev.succ ?_;simp only[qeV,qc6,qn (show R.length<M by omega),cond_true,qlU (v:=false) (show M<=2147483648 by omega),jd];refine Ev.bind (qv3 h g) (Ev.bind (qvC h) ?_);show Ev _ (match (match nxtL ls lv M R with|none=>U|some k=>ordL ls lv M m (R++[k])) with|some R'=>_|none=>_);cases hn:nxtL ls lv M R with
   |none=>
    simp only[beq_self_eq_true,cond_true];exact .done
   |some k=>
    obtain⟨d,_,_⟩:=qoP hn;have l:idx (inB R M) (k:Int)=V (decide (k∈R)):=qgp (f:=fun k=>decide (k∈R)) d;have e1:setS (inB R M) (k:Int) true=inB (R++[k]) M:=by
     unfold inB;rw[qoq];refine qho fun i _=>?_;by_cases a:i=k
     ·subst a;simp
     ·simp[a]
    simp only[show((k:Int)==(M:Int))=false by simp;omega,cond_false,l,jd];rw[qcE (by rw[qc6,jh];omega),e1,<-qks];exact ih (R++[k]) (by rw[jg,jh];omega)
 have e0:pre (fun _=>false) M=inB [] M:=qho fun k _=>by simp
 unfold qhY;rw[qlU (v:=false) (show M<=2147483648 by omega)];simp only[jd];rw[e0];refine Ev.bind (b M [] (by simp)) ?_;unfold ordR;cases ordL ls lv M M []<;>exact .done
def grV(ls:List qt)(lv:List Bool)(ps:List Tplace)(b:qe)(lo:List Int)(de:List (List Int))(ex:List Int):Option Tgraph:=V ⟨V ⟨b,ps,ls,lo,de,ex⟩,lv⟩
theorem qrL{xs:List Int}(c:xs.length<=1000000):Ev (fun n=>qhy n xs 0) (ixL (fun y=>(0:Int)==y) xs):=
 qge (fin:=(xs.length:Int)) (Lf:=qdh xs 0) (pf:=fun _ y=>V ((0:Int)==y)) (fun _ _=>.done)
  (fun n=>by simp only[qdh,qp (jf _),cond_false])
  (fun n j x a=>by
   have b:=(List.getElem?_eq_some_iff.1 a).1;simp only[qdh,qn b,cond_true,qhk a,jd,wS j])
  (fun n=>by unfold qhy;congr 1;funext o;cases o<;>rfl)
theorem qwF{f:Nat->Int}{M:Nat}{p:Int->Bool}:ixL p (vecI f M)=match (List.range M).find? (fun k=>p (f k)) with|some k=>(k:Int)|none=>-1:=by
 cases hf:(List.range M).find? (fun k=>p (f k)) with
 |none=>
  have a:(vecI f M).findIdx? p=U:=by
   rw[List.findIdx?_eq_none_iff];intro x g;obtain⟨k,d,rfl⟩:=List.mem_map.1 g;have:=List.find?_eq_none.1 hf k d;simpa using this
  unfold ixL;rw[a]
 |some k=>
  obtain⟨a,b,c⟩:=List.find?_range_eq_some.1 hf;rw[List.mem_range] at b;have:=qrj (p:=p) (xs:=vecI f M) (j:=k) (by rw[qlw];exact b) (by simpa [vecI] using a) (fun i hi=>by
   have:=c i hi;simpa [vecI] using this)
  rw[this]
section
variable{ls:List qt}{lv:List Bool}{M:Nat}{ps:List Tplace}{b:qe}{lo:List Int}{de:List (List Int)}{ex:List Int}
theorem qrZ(h:LkOk ls M)(k:lv.length=ls.length):Ev (fun n=>qbt n (grV ls lv ps b lo de ex)) (ints (selN (lvL lv) ls.length)):=by
 have g:=h.len;have f:Ev (fun n=>qQ ⟨V ⟨b,ps,ls,lo,de,ex⟩,lv⟩ ⟨b,ps,ls,lo,de,ex⟩ n ([]:List Int) 0) (ints (selN (lvL lv) ls.length),(ls.length:Int)):=by
  refine qpg (q:=lvL lv) (Lf:=qQ ⟨V ⟨b,ps,ls,lo,de,ex⟩,lv⟩ ⟨b,ps,ls,lo,de,ex⟩) (len:=ls.length) (by omega) (Ev.succ ?_) (fun j a t i X c d=>?_)
  ·simp only[qQ,qp (jf _),cond_false];exact .done
  ·simp only[qQ,qn a,cond_true,qz a,qz (show j<lv.length by omega),jd,qik,i,wS j];cases hq:gt lv j
   ·simp only[cond_false];exact d hq
   ·simp only[cond_true];exact c hq
 unfold qbt grV;simp only[jd];exact Ev.bind f .done
theorem qwz(h:LkOk ls M)(k:lv.length=ls.length){v:Int}:Ev (fun n=>qif n (grV ls lv ps b lo de ex) v) (ints (selN (fun x=>lvL lv x&&(frL ls x==v)) ls.length)):=by
 have g:=h.len;have f:Ev (fun n=>qS v ⟨V ⟨b,ps,ls,lo,de,ex⟩,lv⟩ ⟨b,ps,ls,lo,de,ex⟩ n ([]:List Int) 0) (ints (selN (fun x=>lvL lv x&&(frL ls x==v)) ls.length),(ls.length:Int)):=by
  refine qpg (q:=fun x=>lvL lv x&&(frL ls x==v)) (Lf:=qS v ⟨V ⟨b,ps,ls,lo,de,ex⟩,lv⟩ ⟨b,ps,ls,lo,de,ex⟩) (len:=ls.length) (by omega) (Ev.succ ?_) (fun j d t i X c a=>?_)
  ·simp only[qS,qp (jf _),cond_false];exact .done
  ·simp only[qS,qn d,cond_true,qz d,qz (show j<lv.length by omega),jd,qi6,i,wS j];unfold lvL frL at c a;cases hq:gt lv j
   ·simp only[cond_false];exact a (by rw[hq];rfl)
   ·simp only[cond_true];cases hw:(gt ls j).Bl==v
    ·simp only[cond_false];exact a (by rw[hq,hw];rfl)
    ·simp only[cond_true];exact c (by rw[hq,hw];rfl)
 unfold qif qcx grV;simp only[jd];exact Ev.bind (Ev.bind f .done) .done
theorem qvh{q:Nat->Bool}{m:Nat}{p:Nat->Bool}:(selN q m).countP p=cntP (fun x=>q x&&p x) m:=by
 induction m with
 |zero=>rfl
 |succ m ih=>
  rw[qlE,List.countP_append,ih];show _=cntP (fun x=>q x&&p x) m+(bif (q m&&p m) then 1 else 0);cases q m
  ·rfl
  ·cases hp:p m<;>simp[hp]
def cntT(ls:List qt)(S:List Nat)(k:Nat):Nat:=S.countP (fun x=>toL ls x==(k:Int))
theorem qt0{S:List Nat}{k:Nat}:cntT ls S k<=S.length:=List.countP_le_length
theorem quB{S:List Nat}{j k:Nat}(a:j<S.length):cntT ls (S.take (j+1)) k=cntT ls (S.take j) k+(if toL ls S[j]=(k:Int) then 1 else 0):=by
 unfold cntT;rw[jz a,List.countP_append];by_cases h:toL ls S[j]=(k:Int)<;>simp[h]
theorem bumpV{f:Nat->Int}{c:Nat}{S:List Nat}{j:Nat}{d v:Int}(g:j<S.length)(b:toL ls S[j]=(c:Int))(h:v=f c+d*(cntT ls (S.take j) c:Int)+d) :
  setS (vecI (fun k=>f k+d*(cntT ls (S.take j) k:Int)) M) (c:Int) v=vecI (fun k=>f k+d*(cntT ls (S.take (j+1)) k:Int)) M:=by
 rw[qqo];refine qfU fun k _=>?_;rw[quB g,b];by_cases a:k=c
 ·subst a;rw[if_pos Z,if_pos Z,h];rw[Int.natCast_add,Int.mul_add];omega
 ·rw[if_neg a,if_neg (by omega)];simp
theorem qxe(h:LkOk ls M){S:List Nat}(p:∀x,x∈S->x<ls.length)(s:S.length<=10000) :
  Ev (fun n=>qcp ⟨V ⟨b,ps,ls,lo,de,ex⟩,lv⟩ (ints S) n (vecI (fun _=>0) M) 0) (vecI (fun k=>(cntT ls S k:Int)) M,(S.length:Int)):=by
 have:=loopF (Lf:=qcp ⟨V ⟨b,ps,ls,lo,de,ex⟩,lv⟩ (ints S)) (S:=fun j=>vecI (fun k=>0+1*(cntT ls (S.take j) k:Int)) M) (len:=S.length) (fin:=(vecI (fun k=>(cntT ls S k:Int)) M,(S.length:Int))) (fun n=>by
   simp only[qcp,qc6,qp (jf _),cond_false,jN];rw[qfU (f:=fun k=>0+1*(cntT ls S k:Int)) (g:=fun k=>(cntT ls S k:Int)) (fun k _=>by omega)])
  (fun j a X r=>by
   have m:=p S[j] (jn a);obtain⟨c,o⟩:∃c:Nat,(gt ls S[j]).To=(c:Int):=⟨_,qdP (h.to0 _ m)⟩;have i:c<M:=by have:=h.to1 _ m;omega
   have l:=qt0 (ls:=ls) (S:=S.take j) (k:=c);rw[jZ] at l;simp only[qcp,qc6,qn a,cond_true,qn8 a,jd,qz m,o,qnc i,wS j];rw[qN (by omega) (by omega),bumpV (d:=1) a o (by omega)];exact r)
 rw[qfU (f:=fun k=>0+1*(cntT ls (S.take 0) k:Int)) (g:=fun _=>0) (fun k _=>by unfold cntT;simp)] at this;exact this
theorem qu9(h:LkOk ls M){S:List Nat}{f:Nat->Int}(p:∀x,x∈S->x<ls.length)(u:S.length<=10000)(s:∀k,k<M->-1<=f k/\f k<=10000) :
  Ev (fun n=>qct ⟨V ⟨b,ps,ls,lo,de,ex⟩,lv⟩ (ints S) n (vecI f M) 0) (vecI (fun k=>f k-(cntT ls S k:Int)) M,(S.length:Int)):=by
 have:=loopF (Lf:=qct ⟨V ⟨b,ps,ls,lo,de,ex⟩,lv⟩ (ints S)) (S:=fun j=>vecI (fun k=>f k+(-1)*(cntT ls (S.take j) k:Int)) M) (len:=S.length) (fin:=(vecI (fun k=>f k-(cntT ls S k:Int)) M,(S.length:Int))) (fun n=>by
   simp only[qct,qc6,qp (jf _),cond_false,jN];rw[qfU (f:=fun k=>f k+(-1)*(cntT ls S k:Int)) (g:=fun k=>f k-(cntT ls S k:Int)) (fun k _=>by omega)])
  (fun j i X r=>by
   have m:=p S[j] (jn i);obtain⟨c,o⟩:∃c:Nat,(gt ls S[j]).To=(c:Int):=⟨_,qdP (h.to0 _ m)⟩;have a:c<M:=by have:=h.to1 _ m;omega
   have l:=qt0 (ls:=ls) (S:=S.take j) (k:=c);rw[jZ] at l;have t:=s c a;simp only[qct,qc6,qn i,cond_true,qn8 i,jd,qz m,o,qnc a,wS j];rw[qN (by omega) (by omega),bumpV (d:=-1) i o (by omega)];exact r)
 rw[qfU (f:=fun k=>f k+(-1)*(cntT ls (S.take 0) k:Int)) (g:=f) (fun k _=>by unfold cntT;simp)] at this;exact this
def openV(ls:List qt)(lv:List Bool)(R:List Nat)(k:Nat):Int:=if k∈R then -1 else(inL ls lv ls.length R k:Int)
theorem quJ{R:List Nat}:ixL (fun y=>(0:Int)==y) (vecI (openV ls lv R) M)=match nxtL ls lv M R with|some k=>(k:Int)|none=>-1:=by
 rw[qwF];have:(fun k=>((0:Int)==openV ls lv R k))=freeN ls.length (frL ls) (toL ls) (lvL lv) R:=by
  funext k
  unfold openV freeN;by_cases a:k∈R
  ·rw[if_pos a];simp[a]
  ·rw[if_neg a];simp only[a,decide_false,Bool.not_false,jB];by_cases b:inL ls lv ls.length R k=0
   ·simp[b]
   ·rw[show((0:Int)==((inL ls lv ls.length R k:Nat):Int))=false from beq_eq_false_iff_ne.2 (by omega)];simpa using b
 rw[this]
 rfl
theorem qt4(h:LkOk ls M)(t:lv.length=ls.length)(F:M=2*ps.length):Ev (fun n=>qhn n (grV ls lv ps b lo de ex)) (ordR ls lv M):=by
 have H:=h.nodes;have C:=h.len;have g:∀m R,R.length+m=M->Closed ls.length (frL ls) (toL ls) (lvL lv) R->∃y:List Int×List Int×Int,Ev (fun n=>qcq (grV ls lv ps b lo de ex) ⟨V ⟨b,ps,ls,lo,de,ex⟩,lv⟩ (vecI (fun _=>0) M) n (ints R) (vecI (openV ls lv R) M) (R.length:Int))
   (match ordL ls lv M m R with|some R'=>.nxt (ints R',y.2.1,y.2.2)|none=>.ret ([],false)):=by
  intro m
  induction m with
  |zero=>
   intro R A _;refine⟨(ints R,vecI (openV ls lv R) M,(R.length:Int)),Ev.succ ?_⟩;simp only[qcq,qlw,qp (show M<=R.length by omega),cond_false];exact .done
  |succ m ih=>
   intro R A s;have c:=qrL (xs:=vecI (openV ls lv R) M) (by rw[qlw];omega);rw[quJ] at c;cases hn:nxtL ls lv M R with
   |none=>
    rw[hn] at c;rw[quF hn];refine⟨([],[],0),Ev.succ ?_⟩;simp only[qcq,qlw,qn (show R.length<M by omega),cond_true];exact Ev.bind c (Ev.tt (by decide) .done)
   |some k=>
    rw[hn] at c;rw[quM hn];obtain⟨B,d,r⟩:=qoP hn;obtain⟨y,o⟩:=ih (R++[k]) (by rw[jg,jh];omega) (s.snoc r);refine⟨y,Ev.succ ?_⟩;simp only[qcq,qlw,qn (show R.length<M by omega),cond_true];refine Ev.bind c (Ev.ff (by simp) ?_);rw[qnc B,qcE (by rw[qc6,jh];omega),qqo,<-qks];simp only[jd];refine Ev.bind (qwz h t) ?_;have D:=qlI (q:=fun x=>lvL lv x&&(frL ls x==(k:Int))) (j:=ls.length);refine Ev.bind (qu9 h (fun x p=>(qlp.1 p).1) (by omega) (fun i hi=>?_)) ?_
    ·split
     ·omega
     ·unfold openV;have:inL ls lv ls.length R i<=ls.length:=qxv;split<;>omega
    ·have u:vecI (fun i=>(if i=k then -1 else openV ls lv R i)-(cntT ls (selN (fun x=>lvL lv x&&(frL ls x==(k:Int))) ls.length) i:Int)) M=vecI (openV ls lv (R++[k])) M:=by
      refine qfU fun i _=>?_;have v:cntT ls (selN (fun x=>lvL lv x&&(frL ls x==(k:Int))) ls.length) i=lkN ls.length (frL ls) (toL ls) (lvL lv) k i:=qvh;rw[v];unfold openV;by_cases a:i∈R++[k]
      ·rw[if_pos a,s.no_back d r a];rcases List.mem_append.1 a with l|l
       ·split
        ·rfl
        ·rfl
       ·rw[if_pos (List.mem_singleton.1 l)];rfl
      ·have l:i∉R:=fun e=>a (jE _ e);have z:i≠k:=fun e=>a (jW _ (List.mem_singleton.2 e));rw[if_neg a,if_neg z,if_neg l];have:=qvE (L:=ls.length) (fr:=frL ls) (to:=toL ls) (lv:=lvL lv) (R:=R) (i:=k) (k:=i) d;show(inN _ _ _ _ R i:Int)-_=(inN _ _ _ _ (R++[k]) i:Int);omega
     rw[u,qhZ (show R.length<9223372036854775807 by omega)];rw[jg,jh] at o;exact o
 have f:=qxe (b:=b) (ps:=ps) (lo:=lo) (de:=de) (ex:=ex) (lv:=lv) h (S:=selN (lvL lv) ls.length) (fun x p=>(qlp.1 p).1) (by have:=qlI (q:=lvL lv) (j:=ls.length);omega);have e0:vecI (fun k=>(cntT ls (selN (lvL lv) ls.length) k:Int)) M=vecI (openV ls lv []) M:=by
  refine qfU fun k _=>?_;unfold openV;rw[if_neg (by simp)]
  congr 1
  show List.countP _ _=inN _ _ _ _ [] k;rw[qvh];unfold inN;exact qqm fun x _=>by simp[ints]
 rw[e0] at f;obtain⟨y,o⟩:=g M [] (by simp) Closed.nil;unfold qhn;show Ev (fun n=>(V _).bind _) _;simp only[jd,qcC,qeA];rw[qN (by omega) (by omega),show 2*(ps.length:Int)=(M:Int) by omega,qrw (by omega)];simp only[jd];refine Ev.bind (qrZ h t) (Ev.bind f (Ev.bind o ?_));unfold ordR;cases ordL ls lv M M []<;>exact .done
end

theorem qrN{n m:Nat}{a b mode:Int}:qfI n a b mode=qcM m a b mode:=by
 unfold qfI qcM;cases quoS a b with
 |none=>rfl
 |some y1=>
  cases remS a b with
  |none=>rfl
  |some y2=>
   simp only[jd];generalize decide (y2<0)=p;generalize decide (y2 > 0)=q;generalize (mode==0)=m0;generalize (mode==1)=m1;cases p<;>cases q<;>cases m0<;>cases m1<;>rfl
theorem qvk{a b:Int}(f:0<b):-(if a<0 then -a else a)<=a.tdiv b/\a.tdiv b<=(if a<0 then -a else a):=by
 by_cases h:a<0
 ·rw[if_pos h];have e:a.tdiv b=-((-a).tdiv b):=by rw[Int.neg_tdiv,Int.neg_neg]
  rw[e,jF (show 0<=-a by omega)];have c:=Int.ediv_nonneg (show 0<=-a by omega) (show 0<=b by omega);have d:=Int.ediv_le_self (a:=-a) b (by omega);omega
 ·rw[if_neg h,jF (by omega)];have c:=Int.ediv_nonneg (show 0<=a by omega) (show 0<=b by omega);have d:=Int.ediv_le_self (a:=a) b (by omega);omega
theorem qkM{n:Nat}{a b mode:Int}(d:0<b)(g:-9000000000000000000<=a)(h:a<=9000000000000000000):qcM n a b mode=V (divI a b mode):=by
 have c:=qvk (a:=a) d;have i:-9000000000000000000<=a.tdiv b/\a.tdiv b<=9000000000000000000:=by
  revert c;split<;>intro c<;>omega
 unfold qcM quoS remS divI;rw[if_neg (by omega),if_neg (by omega)];have f:IntKind.i64.wrap (a.tdiv b)=a.tdiv b:=qN (by omega) (by omega);simp only[f,jd];rw[wO (a.tdiv b-1),wO (a.tdiv b+1)];generalize decide (a.tmod b<0)=p;generalize decide (a.tmod b > 0)=q;generalize (mode==0)=m0;generalize (mode==1)=m1;cases p<;>cases q<;>cases m0<;>cases m1<;>rfl
theorem qi3{a b mode M:Int}(d:0<b)(c:0<=a)(h:a<=b*M):0<=divI a b mode/\divI a b mode<=M:=by
 rw[qka c d];have e:=Int.emod_add_mul_ediv a b;have k:=Int.emod_nonneg a (show b≠0 by omega);have g:=Int.ediv_nonneg c (show 0<=b by omega);have i:a / b<=M:=Int.ediv_le_of_le_mul d (by rw[Int.mul_comm];exact h);split
 ·rename_i hc
  refine⟨by omega,?_⟩;have:a / b<M:=by
   refine Int.lt_of_not_ge fun l=>?_;have f:a / b=M:=by omega
   rw[f] at e;omega
  omega
 ·exact⟨g,i⟩
structure AxOk(ax:List Int):Prop where
 lo:1<=ax.length
 hi:ax.length<=4
 at_:∀j,j<ax.length->0<=at0 ax j/\at0 ax j<=100000
 inc:∀j i,i<j->j<ax.length->at0 ax i<at0 ax j
theorem qsd{b:List Int}(h:axisB b=true):AxOk b:=by
 unfold axisB lenB incB at h;simp only[je,decide_eq_true_eq] at h;obtain⟨⟨m,n⟩,k,l⟩:=h;rw[qg9 (d:=0),qah] at k;rw[qah] at l;refine⟨m,n,fun j f=>by have:=k j f;rw[qa9] at this;exact this,fun j=>?_⟩
 induction j with
 |zero=>intro i hi _;omega
 |succ j ih=>
  intro i hi f;have a:=l (j+1) f;unfold stepB at a;simp only[Bool.or_eq_true,decide_eq_true_eq,Nat.add_sub_cancel] at a;have g:at0 b j<at0 b (j+1):=by
   rcases a with a|a
   ·omega
   ·exact a
  by_cases c:i=j
  ·rw[c];exact g
  ·have:=ih i (by omega) (by omega);omega
theorem least{P:Nat->Prop}:∀m,P m->∃p,p<=m/\P p/\∀k,k<p->¬ P k:=by
 intro m
 induction m using Nat.strongRecOn with
 |ind m ih=>
  intro f;by_cases h:∃k,k<m/\P k
  ·obtain⟨k,a,b⟩:=h;obtain⟨p,g,c,d⟩:=ih k a b;exact⟨p,by omega,c,d⟩
  ·exact⟨m,jf _,f,fun k a b=>h ⟨k,a,b⟩⟩
structure Wt(ax:List Int)(i:Nat)(a b:Int):Prop where
 il:i<ax.length
 a0:0<a
 a1:a<=100000
 b0:0<=b
 b1:b<=100000
 nx:0<b->i+1<ax.length
 one:b=0->a=1
def wtL(i:Nat)(a b:Int):List Tweight:=if b=0 then[⟨(i:Int),1⟩] else[⟨(i:Int),a⟩,⟨((i+1:Nat):Int),b⟩]
def clampV(a:List Int)(x:Int):Int:=if at0 a (a.length-1)<(if at0 a 0 > x then at0 a 0 else x) then at0 a (a.length-1) else(if at0 a 0 > x then at0 a 0 else x)
theorem qv4{m:Nat}(h:m<=8):shrS .u64 (IntKind.wrap .u64 (W64 (m:Int))) 1=V ((m / 2:Nat):Int):=by
 rcases (by omega:m=0\/m=1\/m=2\/m=3\/m=4\/m=5\/m=6\/m=7\/m=8) with e|e|e|e|e|e|e|e|e<;>rw[e]<;>rfl
theorem qt6{a:List Int}(h:AxOk a){c:Int}{p:Nat}(s:p<a.length)(z:c<=at0 a p)(t:∀k,k<p->at0 a k<c) :
  Ev (fun n=>qdB n a c) ((p:Int),(at0 a p==c)):=by
 have y:=h.hi;have b:∀d i j,j-i<=d->i<=p->p<=j->j<=a.length->Ev (fun n=>qaF a c n (i:Int) (j:Int)) ((p:Int),(p:Int)):=by
  intro d
  induction d with
  |zero=>
   intro i j u hi m o;refine Ev.succ ?_;simp only[qaF,qp (show j<=i by omega),cond_false];rw[show i=p by omega,show j=p by omega];exact .done
  |succ d ih=>
   intro i j u hi m o;refine Ev.succ ?_;by_cases g:i<j
   ·have r:(i+j) / 2<a.length:=by omega
    simp only[qaF,qn g,cond_true,<-Int.natCast_add,qv4 (show i+j<=8 by omega),jd,qN (x:=(((i+j) / 2:Nat):Int)) (by omega) (by omega),qai r,qkA,qib,bne_self_eq_false,cond_false,qhZ (show(i+j) / 2<9223372036854775807 by omega)];by_cases f:at0 a ((i+j) / 2)<c
    ·refine Ev.tt (by simpa using f) (ih _ _ (by omega) ?_ m o);refine Nat.lt_of_not_le fun l=>?_;by_cases v:p=(i+j) / 2
     ·rw[<-v] at f;omega
     ·have:=h.inc ((i+j) / 2) p (by omega) r;omega
    ·refine Ev.ff (by simpa using f) (ih _ _ (by omega) hi ?_ (by omega));refine Nat.le_of_not_lt fun l=>f (t _ l)
   ·simp only[qaF,qp (show j<=i by omega),cond_false];rw[show i=p by omega,show j=p by omega];exact .done
 unfold qdB;refine Ev.bind (b a.length 0 a.length (by omega) (by omega) (by omega) (jf _)) ?_;simp only[qn s,cond_true,qai s,jd,qgr,bne_self_eq_false,cond_false];cases at0 a p==c<;>exact .done
def WAt(d:List Int)(i:Nat)(a b c:Int):Prop:=(b=0/\at0 d i=c)\/(0<b/\a=at0 d (i+1)-c/\b=c-at0 d i)
theorem qkD{f:List Int}(h:AxOk f)(x:Int):∃i a b,Wt f i a b/\WAt f i a b (clampV f x)/\Ev (fun n=>qdz n f x) ((i:Int),a,b)/\Ev (fun n=>qfD n f x) (wtL i a b,a+b):=by
 have M:=h.lo;have I:=h.hi;have L:at0 f 0<=at0 f (f.length-1):=by
  by_cases D:f.length-1=0
  ·rw[D];exact jC _
  ·have:=h.inc (f.length-1) 0 (by omega) (by omega);omega
 obtain⟨c,v⟩:∃c,c=clampV f x:=⟨_,rfl⟩;have y:at0 f 0<=c/\c<=at0 f (f.length-1):=by
  rw[v];unfold clampV;split<;>split at *<;>omega
 obtain⟨p,Q,s,z⟩:=least (P:=fun k=>c<=at0 f k) (f.length-1) y.2;have o:p<f.length:=by omega
 have t:∀k,k<p->at0 f k<c:=fun k K=>by have:=z k K;omega
 have C:=qt6 h o s t;have l:(if at0 f (f.length-1)<(if at0 f 0 > x then at0 f 0 else x) then at0 f (f.length-1) else(if at0 f 0 > x then at0 f 0 else x))=c:=v.symm;have g:W64 ((f.length:Int)-1)=((f.length-1:Nat):Int):=by rw[qfF (by omega)];omega
 have T:=h.at_ p o;have m:∀(R:Int×Int×Int),Ev (fun n=>qbS f x (at0 f 0) (at0 f (f.length-1)) n (p:Int)) (.ret R)->Ev (fun n=>qdz n f x) R:=by
  intro R F;have u:∀d j,j=p+d->j<f.length->Ev (fun n=>qbS f x (at0 f 0) (at0 f (f.length-1)) n (j:Int)) (.ret R):=by
   intro d
   induction d with
   |zero=>intro j J _;rw[show j=p by omega];exact F
   |succ d ih=>
    intro j J B;have H:=h.inc j p (by omega) B;refine Ev.succ ?_;simp only[qbS,show decide ((j:Int)>=0)=true from decide_eq_true (by omega),cond_true,qai B,jd,l];refine Ev.ff (beq_eq_false_iff_ne.2 (by omega)) (Ev.ff (decide_eq_false (by omega)) ?_);rw[show(j:Int)-1=((j-1:Nat):Int) by omega,qN (by omega) (by omega)];exact ih (j-1) (by omega) (by omega)
  unfold qdz;rw[show(0:Int)=((0:Nat):Int) from rfl,qai (show 0<f.length by omega),g,qai (show f.length-1<f.length by omega)];simp only[jd];exact Ev.bind (u (f.length-1-p) (f.length-1) (by omega) (by omega)) .done
 by_cases r:at0 f p=c
 ·refine⟨p,1,0,⟨o,by omega,by omega,by omega,by omega,fun h=>absurd h (by omega),fun _=>rfl⟩,v ▸ .inl ⟨rfl,r⟩,m _ (Ev.succ ?_),?_⟩
  ·simp only[qbS,show decide ((p:Int)>=0)=true from decide_eq_true (by omega),cond_true,qai o,jd,l];exact Ev.tt (beq_iff_eq.2 r.symm) .done
  ·unfold qfD;rw[show(0:Int)=((0:Nat):Int) from rfl,qai (show 0<f.length by omega),g,qai (show f.length-1<f.length by omega)];simp only[jd,l];exact Ev.bind C (Ev.tt (beq_iff_eq.2 r) (Ev.now Z))
 ·have O:0<p:=by
   refine Nat.pos_of_ne_zero fun e=>r ?_;rw[e] at s⊢;omega
  have N:=t (p-1) (by omega);have S:=h.at_ (p-1) (by omega);have A:((p:Int)-1)=((p-1:Nat):Int):=by omega
  refine⟨p-1,at0 f p-c,c-at0 f (p-1),⟨by omega,by omega,by omega,by omega,by omega,fun _=>by omega,fun h=>absurd h (by omega)⟩,v ▸ .inr ⟨by omega,by rw[show p-1+1=p by omega],rfl⟩,m _ (Ev.succ ?_),?_⟩
  ·simp only[qbS,show decide ((p:Int)>=0)=true from decide_eq_true (by omega),cond_true,qai o,jd,l];refine Ev.ff (beq_eq_false_iff_ne.2 (by omega)) (Ev.ff (decide_eq_false (by omega)) ?_);rw[A,qN (x:=((p-1:Nat):Int)) (by omega) (by omega)];refine Ev.succ ?_;simp only[qbS,show decide (((p-1:Nat):Int)>=0)=true from decide_eq_true (by omega),cond_true,qai (show p-1<f.length by omega),jd,l];refine Ev.ff (beq_eq_false_iff_ne.2 (by omega)) (Ev.tt (decide_eq_true (by omega)) ?_);rw[qhZ (show p-1<9223372036854775807 by omega),show p-1+1=p by omega,qai o];simp only[jd];rw[wO (at0 f p-c),wO (c-at0 f (p-1))];exact .done
  ·unfold qfD;rw[show(0:Int)=((0:Nat):Int) from rfl,qai (show 0<f.length by omega),g,qai (show f.length-1<f.length by omega)];simp only[jd,l];refine Ev.bind C (Ev.ff (beq_eq_false_iff_ne.2 r) ?_);rw[qai o,A,qN (x:=((p-1:Nat):Int)) (by omega) (by omega),qai (show p-1<f.length by omega)];simp only[jd];rw[wO (at0 f p-c),wO (c-at0 f (p-1)),wO (at0 f p-at0 f (p-1))];refine Ev.now ?_;unfold wtL;rw[if_neg (by omega),show p-1+1=p by omega]
   congr 2
   omega

structure TbOk(t:qI):Prop where
 s:AxOk t.Bn
 l:AxOk t.Bj
 n:t.Bf.length=t.Bn.length*t.Bj.length
 v:∀k,-1000000<=at0 t.Bf k/\at0 t.Bf k<=1000000
theorem qt1{xs:List Int}{k:Nat}(h:¬ k<xs.length):at0 xs k=0:=by simp[at0,jD,List.getElem?_eq_none (show xs.length<=k by omega)]
theorem qun{t:qI}(h:tableB t=true):TbOk t:=by
 unfold tableB at h;simp only[je,decide_eq_true_eq] at h;obtain⟨c,f,g,a⟩:=h;rw[qg9 (d:=0),qah] at a;refine⟨qsd c,qsd f,g,fun k=>?_⟩;by_cases b:k<t.Bf.length
 ·have:=a k b;rw[qa9] at this;exact this
 ·rw[qt1 b];omega
def tv(t:qI)(i j:Nat):Int:=at0 t.Bf (i*t.Bj.length+j)
theorem mulA{x y Y:Int}(a:0<=x)(c:-Y<=y)(d:y<=Y):-(x*Y)<=x*y/\x*y<=x*Y:=by
 have f:=jR d a;have b:=jR c a;rw[Int.mul_neg] at b;exact⟨b,f⟩
theorem mulT{w q v:Int}(d:0<=w)(w1:w<=100000)(b:0<=q)(c:q<=100000)(h:-1000000<=v)(i:v<=1000000):(0<=w*q/\w*q<=10000000000)/\(-10000000000000000<=w*q*v/\w*q*v<=10000000000000000):=by
 have a:=jP d b;have f:w*q<=100000*100000:=jX w1 c b (by omega);have g:=mulA (x:=w*q) (y:=v) (Y:=1000000) a (by omega) (by omega);refine⟨⟨a,by omega⟩,?_,?_⟩<;>omega
theorem qvA{t:qI}{i j:Nat}(h:TbOk t)(hi:i<t.Bn.length)(f:j<t.Bj.length):i*t.Bj.length+j<t.Bf.length/\t.Bf.length<=16:=by
 have a:=h.s.hi;have b:=h.l.hi;have c:(i+1)*t.Bj.length<=t.Bn.length*t.Bj.length:=js _ hi;have d:t.Bn.length*t.Bj.length<=4*4:=Nat.mul_le_mul a b;rw[h.n];rw[Nat.add_mul] at c;omega
theorem sTerm{t:qI}(h:TbOk t){i j c k:Nat}{a1 b1 a2 b2 w q s:Int}(I:c<2)(J:k<2)(B:w=if c=1 then b1 else a1)(f:q=if k=0 then a2 else b2)
  (F:0<=w) (w1:w<=100000) (C:0<=q) (D:q<=100000) (hi:0<w->i+c<t.Bn.length) (z:0<q->j+k<t.Bj.length) (s0:-1000000000000000000<=s) (s1:s<=1000000000000000000) (n:Nat) :
  qcA t (i:Int) a1 b1 (j:Int) a2 b2 (c:Int) (n+1) s (k:Int)=qcA t (i:Int) a1 b1 (j:Int) a2 b2 (c:Int) n (s+w*q*tv t (i+c) (j+k)) ((k+1:Nat):Int):=by
 have l:=h.v ((i+c)*t.Bj.length+(j+k));obtain⟨⟨M,N⟩,O,P⟩:=mulT F w1 C D l.1 l.2;have o:(bif ((c:Int)==1) then V b1 else V a1)=V w:=by
  rw[B];by_cases a:c=1
  ·rw[if_pos a,a];rfl
  ·rw[if_neg a,show((c:Int)==1)=false from beq_eq_false_iff_ne.2 (by omega)];rfl
 have p:(bif ((k:Int)==0) then V (W64 (w*a2)) else V (W64 (w*b2)))=V (w*q):=by
  have m:W64 (w*q)=w*q:=qN (by omega) (by omega);by_cases a:k=0
  ·rw[if_pos a] at f;rw[a,<-f,m];rfl
  ·rw[if_neg a] at f;rw[show((k:Int)==0)=false from beq_eq_false_iff_ne.2 (by omega),<-f,m];rfl
 rw[qcA];simp only[show decide ((k:Int)<2)=true from decide_eq_true (by omega),cond_true,o,p,jd,wS k];by_cases d:w*q > 0
 ·have b:0<w:=by
   by_cases e:w=0
   ·rw[e,Int.zero_mul] at d;omega
   ·omega
  have g:0<q:=by
   by_cases e:q=0
   ·rw[e,Int.mul_zero] at d;omega
   ·omega
  obtain⟨H,Q⟩:=qvA h (hi b) (z g);have K:=h.l.hi;have L:=h.s.hi;have y:=hi b;have A:((i+c:Nat):Int)*(t.Bj.length:Int)=(((i+c)*t.Bj.length:Nat):Int):=(Int.natCast_mul _ _).symm;have u:W64 (W64 (W64 (W64 ((i:Int)+(c:Int))*(t.Bj.length:Int))+(j:Int))+(k:Int))=(((i+c)*t.Bj.length+(j+k):Nat):Int):=by
   rw[wO ((i:Int)+(c:Int)),<-Int.natCast_add,A,qN (x:=(((i+c)*t.Bj.length:Nat):Int)) (by omega) (by omega),<-Int.natCast_add,qN (x:=(((i+c)*t.Bj.length+j:Nat):Int)) (by omega) (by omega),<-Int.natCast_add,qN (by omega) (by omega),Nat.add_assoc]
  rw[show decide (w*q > 0)=true from decide_eq_true d,u,qai H];simp only[cond_true,jd];have r:W64 (s+W64 (w*q*at0 t.Bf ((i+c)*t.Bj.length+(j+k))))=s+w*q*tv t (i+c) (j+k):=by
   unfold tv;rw[qN (x:=w*q*at0 t.Bf ((i+c)*t.Bj.length+(j+k))) (by omega) (by omega),qN (by omega) (by omega)]
  rw[r]
 ·have v:w*q=0:=by omega
  rw[show decide (w*q > 0)=false from decide_eq_false d,v,Int.zero_mul,Jf]
  rfl
def rowS(t:qI)(j:Nat)(a2 b2:Int)(i:Nat):Int:=a2*tv t i j+b2*tv t i (j+1)
theorem qmd{t:qI}(h:TbOk t){i j:Nat}:-1000000<=tv t i j/\tv t i j<=1000000:=h.v _
theorem qrU{t:qI}(h:TbOk t){i j:Nat}{a2 b2:Int}(a0:0<=a2)(b0:0<=b2):-((a2+b2)*1000000)<=rowS t j a2 b2 i/\rowS t j a2 b2 i<=(a2+b2)*1000000:=by
 have a:=mulA (x:=a2) (y:=tv t i j) (Y:=1000000) a0 (qmd h).1 (qmd h).2;have b:=mulA (x:=b2) (y:=tv t i (j+1)) (Y:=1000000) b0 (qmd h).1 (qmd h).2;unfold rowS;omega
theorem sRow{t:qI}(h:TbOk t){i j c:Nat}{a1 b1 a2 b2 w s:Int}(d:c<2)(f:w=if c=1 then b1 else a1)(b:0<=w)(w1:w<=100000)(hi:0<w->i+c<t.Bn.length)(a:Wt t.Bj j a2 b2)
  (s0:-100000000000000000<=s) (s1:s<=100000000000000000):Ev (fun n=>qcA t (i:Int) a1 b1 (j:Int) a2 b2 (c:Int) n s 0) (s+w*rowS t j a2 b2 (i+c),2):=by
 have l:=a.a0;have g:=a.b0;have m:=(mulT b w1 (show 0<=a2 by omega) a.a1 (qmd h (i:=i+c) (j:=j)).1 (qmd h).2).2;refine Ev.step (fun n=>sTerm h d (k:=0) (w:=w) (q:=a2) (by omega) f Z b w1 (by omega) a.a1 hi (fun _=>a.il) (by omega) (by omega) n) ?_;refine Ev.step (fun n=>sTerm h d (k:=1) (w:=w) (q:=b2) (by omega) f Z b w1 g a.b1 hi a.nx (by show _<=s+w*a2*tv t (i+c) (j+0);rw[Nat.add_zero];omega) (by show s+w*a2*tv t (i+c) (j+0)<=_;rw[Nat.add_zero];omega) n) ?_;refine Ev.succ ?_;simp only[qcA,show decide (((1+1:Nat):Int)<2)=false from rfl,cond_false];refine Ev.now ?_;unfold rowS;rw[Int.mul_add,<-jV,<-jV,Int.add_assoc,Nat.add_zero]
 rfl
theorem iTerm{t:qI}(h:TbOk t){a:List Tweight}{i j k:Nat}{w q s:Int}(m:k<a.length)(A:a.length<=2)(p:idx a (k:Int)=V ⟨(j:Int),q⟩)(c:0<=w)(w1:w<=100000)(r:0<=q)(u:q<=100000)
  (hi:i<t.Bn.length) (l:j<t.Bj.length) (s0:-1000000000000000000<=s) (s1:s<=1000000000000000000) (n:Nat) :
  qbm t a ⟨(i:Int),w⟩ (n+1) s (k:Int)=qbm t a ⟨(i:Int),w⟩ n (s+w*q*tv t i j) ((k+1:Nat):Int):=by
 have b:=qmd h (i:=i) (j:=j);obtain⟨_,C,D⟩:=mulT c w1 r u b.1 b.2;have F:=mulA (x:=w) (y:=tv t i j) (Y:=1000000) c b.1 b.2;obtain⟨v,H⟩:=qvA h hi l;have z:=h.l.hi;have B:=h.s.hi;have o:(i:Int)*(t.Bj.length:Int)=((i*t.Bj.length:Nat):Int):=(Int.natCast_mul _ _).symm;rw[qbm];simp only[qn m,cond_true,p,jd,wS k,o];rw[qN (x:=((i*t.Bj.length:Nat):Int)) (by omega) (by omega),<-Int.natCast_add,qN (x:=((i*t.Bj.length+j:Nat):Int)) (by omega) (by omega),qai v];simp only[jd];have d:W64 (s+W64 (W64 (at0 t.Bf (i*t.Bj.length+j)*w)*q))=s+w*q*tv t i j:=by
  have f:at0 t.Bf (i*t.Bj.length+j)*w=w*tv t i j:=Int.mul_comm _ _;have g:w*tv t i j*q=w*q*tv t i j:=by rw[jV,Int.mul_comm (tv t i j) q,<-jV]
  rw[f,wO (w*tv t i j),g,wO (w*q*tv t i j),qN (by omega) (by omega)]
 rw[d]
theorem iRow{t:qI}(h:TbOk t){i j:Nat}{a2 b2 w s:Int}(b:0<=w)(w1:w<=100000)(hi:i<t.Bn.length)(a:Wt t.Bj j a2 b2)
  (s0:-100000000000000000<=s) (s1:s<=100000000000000000):Ev (fun n=>qbm t (wtL j a2 b2) ⟨(i:Int),w⟩ n s 0) (s+w*rowS t j a2 b2 i,((wtL j a2 b2).length:Int)):=by
 have l:=a.a0;have g:=a.b0;have m:=(mulT b w1 (show 0<=a2 by omega) a.a1 (qmd h (i:=i) (j:=j)).1 (qmd h).2).2;by_cases c:b2=0
 ·have f:=a.one c;subst c f;have d:wtL j 1 0=[⟨(j:Int),1⟩]:=if_pos Z;rw[d];refine Ev.step (fun n=>iTerm h (k:=0) (q:=1) (by simp) (by simp) Z b w1 (by omega) (by omega) hi a.il (by omega) (by omega) n) (Ev.succ ?_);simp only[qbm];refine Ev.ff Z (Ev.now ?_);unfold rowS;rw[Int.mul_one,Int.one_mul,Int.zero_mul,Jf]
  rfl
 ·have d:wtL j a2 b2=[⟨(j:Int),a2⟩,⟨((j+1:Nat):Int),b2⟩]:=if_neg c;rw[d];refine Ev.step (fun n=>iTerm h (k:=0) (q:=a2) (by simp) (by simp) Z b w1 (by omega) a.a1 hi a.il (by omega) (by omega) n) ?_;refine Ev.step (fun n=>iTerm h (k:=1) (j:=j+1) (q:=b2) (by simp) (by simp) Z b w1 g a.b1 hi (a.nx (by omega)) (by omega) (by omega) n) (Ev.succ ?_);simp only[qbm];refine Ev.ff Z (Ev.now ?_);unfold rowS;rw[Int.mul_add,<-jV,<-jV,Int.add_assoc]
  rfl
def sumS(t:qI)(i j:Nat)(a1 b1 a2 b2:Int):Int:=a1*rowS t j a2 b2 i+b1*rowS t j a2 b2 (i+1)
theorem rowT{t:qI}(h:TbOk t){i j:Nat}{w a2 b2:Int}(f:0<=w)(w1:w<=100000)(a:Wt t.Bj j a2 b2):-20000000000000000<=w*rowS t j a2 b2 i/\w*rowS t j a2 b2 i<=20000000000000000:=by
 have l:=a.a0;have c:=a.b0;have b:=a.a1;have d:=a.b1;have g:=qrU h (i:=i) (j:=j) (a2:=a2) (b2:=b2) (by omega) c;have k:=mulA (x:=w) (y:=rowS t j a2 b2 i) (Y:=200000000000) f (by omega) (by omega);omega
theorem qrM{t:qI}(h:TbOk t){sl ld:Int}{i j:Nat}{a1 b1 a2 b2:Int}(W1:Wt t.Bn i a1 b1)(W2:Wt t.Bj j a2 b2)
  (p:Ev (fun n=>qdz n t.Bn sl) ((i:Int),a1,b1)/\Ev (fun n=>qfD n t.Bn sl) (wtL i a1 b1,a1+b1)) (D:Ev (fun n=>qdz n t.Bj ld) ((j:Int),a2,b2)/\Ev (fun n=>qfD n t.Bj ld) (wtL j a2 b2,a2+b2)) :
  0<(a1+b1)*(a2+b2)/\sumS t i j a1 b1 a2 b2<=(a1+b1)*(a2+b2)*1000000/\-((a1+b1)*(a2+b2)*1000000)<=sumS t i j a1 b1 a2 b2/\-9000000000000000000<=sumS t i j a1 b1 a2 b2/\sumS t i j a1 b1 a2 b2<=9000000000000000000/\((∀k,0<=at0 t.Bf k)->0<=sumS t i j a1 b1 a2 b2) /\
  ∀mode,Ev (fun n=>qda n t sl ld mode) (divI (sumS t i j a1 b1 a2 b2) ((a1+b1)*(a2+b2)) mode)/\Ev (fun n=>qc7 n t sl ld mode) (divI (sumS t i j a1 b1 a2 b2) ((a1+b1)*(a2+b2)) mode):=by
 obtain⟨p1,H⟩:=p;obtain⟨F,I⟩:=D;have B:=W1.a0;have a:=W1.b0;have C:=W2.a0;have b:=W2.b0;have d:=W1.a1;have f:=W1.b1;have J:=W2.a1;have K:=W2.b1;have r1:=rowT h (i:=i) (w:=a1) (by omega) d W2;have M:=rowT h (i:=i+1) (w:=b1) a f W2;have v:=qrU h (i:=i) (j:=j) (a2:=a2) (b2:=b2) (by omega) b;have z:=qrU h (i:=i+1) (j:=j) (a2:=a2) (b2:=b2) (by omega) b;have N:=mulA (x:=a1) (y:=rowS t j a2 b2 i) (Y:=(a2+b2)*1000000) (by omega) v.1 v.2;have O:=mulA (x:=b1) (y:=rowS t j a2 b2 (i+1)) (Y:=(a2+b2)*1000000) a z.1 z.2;have L:a1*((a2+b2)*1000000)+b1*((a2+b2)*1000000)=(a1+b1)*(a2+b2)*1000000:=by rw[<-Int.add_mul,jV]
 have D0:0<(a1+b1)*(a2+b2):=Int.mul_pos (by omega) (by omega);have D1:(a1+b1)*(a2+b2)<=200000*200000:=jX (by omega) (by omega) (by omega) (by omega);refine⟨D0,by unfold sumS;omega,by unfold sumS;omega,by unfold sumS;omega,by unfold sumS;omega,fun u=>?_,fun mode=>⟨?_,?_⟩⟩
 ·have s:∀i,0<=rowS t j a2 b2 i:=fun i=>Int.add_nonneg (jP (by omega) (u _)) (jP b (u _));exact Int.add_nonneg (jP (by omega) (s _)) (jP a (s _))
 ·have l:Ev (fun n=>qeh t (i:Int) a1 b1 (j:Int) a2 b2 n 0 0) (sumS t i j a1 b1 a2 b2,2):=by
   refine Ev.succ ?_;simp only[qeh];refine Ev.tt Z (Ev.bind (sRow h (c:=0) (w:=a1) (by omega) Z (by omega) d (fun _=>W1.il) W2 (by omega) (by omega)) ?_);refine Ev.succ ?_;simp only[qeh];refine Ev.tt Z (Ev.bind (sRow h (c:=1) (w:=b1) (by omega) Z a f W1.nx W2 (by rw[Nat.add_zero];omega) (by rw[Nat.add_zero];omega)) ?_);refine Ev.succ ?_;simp only[qeh];refine Ev.ff Z (Ev.now ?_);unfold sumS;rw[Int.zero_add,Nat.add_zero]
   rfl
  unfold qda;refine Ev.bind p1 (Ev.bind F (Ev.bind l ?_));show Ev (fun n=>(qcM n (sumS t i j a1 b1 a2 b2) (W64 (W64 (a1+b1)*W64 (a2+b2))) mode).bind fun r=>V r) _;rw[wO (a1+b1),wO (a2+b2),wO ((a1+b1)*(a2+b2))];exact Ev.bind ⟨0,fun n _=>qkM D0 (by unfold sumS;omega) (by unfold sumS;omega)⟩ .done
 ·have l:Ev (fun n=>qbj t (wtL i a1 b1) (wtL j a2 b2) n 0 0) (sumS t i j a1 b1 a2 b2,((wtL i a1 b1).length:Int)):=by
   by_cases g:b1=0
   ·have A:=W1.one g;subst g A;have o:wtL i 1 0=[⟨(i:Int),1⟩]:=if_pos Z;rw[o];refine Ev.succ ?_;simp only[qbj];refine Ev.tt Z (Ev.bind (Ev.now Z) (Ev.bind (iRow h (i:=i) (w:=1) (by omega) (by omega) W1.il W2 (by omega) (by omega)) (Ev.succ ?_)));simp only[qbj];refine Ev.ff Z (Ev.now ?_);unfold sumS;rw[Int.zero_add,Int.zero_mul,Jf]
    rfl
   ·have o:wtL i a1 b1=[⟨(i:Int),a1⟩,⟨((i+1:Nat):Int),b1⟩]:=if_neg g;rw[o];refine Ev.succ ?_;simp only[qbj];refine Ev.tt Z (Ev.bind (Ev.now Z) (Ev.bind (iRow h (i:=i) (w:=a1) (by omega) d W1.il W2 (by omega) (by omega)) (Ev.succ ?_)));simp only[qbj];refine Ev.tt Z (Ev.bind (Ev.now Z) (Ev.bind (iRow h (i:=i+1) (w:=b1) a f (W1.nx (by omega)) W2 (by omega) (by omega)) (Ev.succ ?_)));simp only[qbj];refine Ev.ff Z (Ev.now ?_);unfold sumS;rw[Int.zero_add]
    rfl
  unfold qc7;refine Ev.bind H (Ev.bind I (Ev.bind l ?_));show Ev (fun n=>(qfI n (sumS t i j a1 b1 a2 b2) (W64 ((a1+b1)*(a2+b2))) mode).bind fun r=>V r) _;rw[wO ((a1+b1)*(a2+b2))];exact Ev.bind ⟨0,fun n _=>(qrN (m:=0)).trans (qkM D0 (by unfold sumS;omega) (by unfold sumS;omega))⟩ .done
theorem qtN{t:qI}(h:TbOk t)(sl ld:Int):∃S D:Int,0<D/\S<=D*1000000/\-(D*1000000)<=S/\-9000000000000000000<=S/\S<=9000000000000000000/\((∀k,0<=at0 t.Bf k)->0<=S) /\
  ∀mode,Ev (fun n=>qda n t sl ld mode) (divI S D mode)/\Ev (fun n=>qc7 n t sl ld mode) (divI S D mode):=by
 obtain⟨i,a1,b1,W1,_,p⟩:=qkD h.s sl;obtain⟨j,a2,b2,W2,_,a⟩:=qkD h.l ld;exact⟨_,_,qrM h W1 W2 p a⟩

theorem quK{b:qe}(h:blockB b=true){j:Nat}(d:j<(places b.Aa).length){n:Nat}:qk6 n b.Aq b.Aa (toSp (gt (places b.Aa) j))=V (capJ b j):=by
 have c:=qaz h;unfold capJ pinCap;rcases qlf d with⟨i,k,hi,hk,_,e⟩|⟨i,hi,_,e⟩
 ·rw[e];obtain⟨⟨a,c1⟩,f,_⟩:=qgP c hi;unfold place1 cellAt toSp;simp only[qk6,show decide ((i:Int)<0)=false by simp,cond_false,qz hi,jd,qd2 a c1,jp,qz (show k<(gt b.Aq.As (gt b.Aa.Ab i).Bt.toNat).Bg.length by omega)]
 ·rw[e];rfl
theorem qpo{b:qe}(h:blockB b=true){i:Nat}(hi:i<b.Af.length):Ev (fun n=>qhW n b (i:Int)) (loadsL b i):=by
 have c:=qbr h hi;have p:=qaj (qaz h);have x:=c.lo;have u:=c.hi;have d:=c.cap;have z:=qhv h (i:=i);have e1:Ev (fun n=>qdI b (gt b.Af i) ((places b.Aa).map toSp) (skL b i) n (gt b.Af i).Bq 0) (ldA b (gt b.Af i) (skL b i) (skL b i).length,((skL b i).length:Int)):=by
  refine loopF (Lf:=qdI b (gt b.Af i) ((places b.Aa).map toSp) (skL b i)) (S:=ldA b (gt b.Af i) (skL b i)) (len:=(skL b i).length) (fun n=>?_) (fun j a X o=>?_)
  ·simp only[qdI,qp (jf _),cond_false]
  ·obtain⟨y,l,m,_⟩:=qn2 a;have f:j<(gt b.Af i).Bk.length:=by rw[c.snk];exact a
   have k:=c.sin j f;have v:=qoe (b:=b) (w:=gt b.Af i) (sk:=skL b i) (j:=j);have g:idx ((places b.Aa).map toSp) (y:Int)=V (toSp (gt (places b.Aa) y)):=by
    refine qhk ?_;rw[List.getElem?_map,jo l,qd6 l];rfl
   have s:=fun n=>quK h l (n:=n);simp only[qdI,qn a,cond_true,qai a,m,jd,qai f,qd2 k.1 (show at0 (gt b.Af i).Bk j<((ldA b (gt b.Af i) (skL b i) j).length:Int) by omega),g,s,wS j];have:ldA b (gt b.Af i) (skL b i) (j+1)=setS (ldA b (gt b.Af i) (skL b i) j) (at0 (gt b.Af i).Bk j) (W64 (gt (ldA b (gt b.Af i) (skL b i) j) (at0 (gt b.Af i).Bk j).toNat+capJ b y)):=by
    show addSink _ _ _ _ _=_;unfold addSink;rw[m,jp]
   rw[this] at o;exact o
 have r:∀j t,t.length=(gt b.Af i).Am.length->j<(gt b.Af i).Am.length->Ev (fun n=>qdT (gt b.Af i) n t (j:Int)) (ldB (gt b.Af i) j t,0):=by
  intro j
  induction j with
  |zero=>
   intro t _ _;refine Ev.succ ?_;show Ev (fun n=>qdT (gt b.Af i) (n+1) t 0) _;unfold qdT;exact Ev.ff Z .done
  |succ j ih=>
   intro t A a;have g:=c.par (j+1) (by omega) a;refine Ev.succ ?_;simp only[qdT,show decide (((j+1:Nat):Int) > 0)=true from decide_eq_true (by omega),cond_true,qai a,jd,qd2 g.1 (show at0 (gt b.Af i).Am (j+1)<(t.length:Int) by omega),qz (show j+1<t.length by omega),show((j+1:Nat):Int)-1=(j:Int) by omega,qN (show -9223372036854775808<=(j:Int) by omega) (by omega)];exact ih _ (by rw[qa7];exact A) (by omega)
 unfold qhW qeF;rw[qz hi];simp only[jd,qcE (show([]:List Int).length+(gt b.Af i).Bq.length<=2147483648 by simp;omega),List.nil_append];refine Ev.bind (qgF p) (Ev.bind (qlb p) (Ev.bind e1 ?_));rw[qfF (show(gt b.Af i).Bq.length<=9223372036854775807 by omega),show((gt b.Af i).Bq.length:Int)-1=(((gt b.Af i).Am.length-1:Nat):Int) by omega];exact Ev.bind (r _ _ (by rw[qoe];exact d) (by omega)) .done
theorem qmj{b:qe}(h:blockB b=true){i:Nat}(hi:i<b.Af.length):Ev (fun n=>qg8 n b (i:Int)) (delaysL b i):=by
 have f:=qbr h hi;have o:=f.lo;have m:=f.hi;have l:=f.res;have l1:=ql2 h hi;have c:∀d k,k+1+d=(gt b.Af i).Am.length->Ev (fun n=>qea (gt b.Af i) (loadsL b i) n (dlL (gt b.Af i) (loadsL b i) k) ((k+1:Nat):Int)) (delaysL b i,((loadsL b i).length:Int)):=by
  intro d
  induction d with
  |zero=>
   intro k g;refine Ev.succ ?_;simp only[qea,qp (show(loadsL b i).length<=k+1 by omega),cond_false];refine Ev.now ?_;rw[l1,<-g];unfold delaysL;rw[<-g]
   rfl
  |succ d ih=>
   intro k g;have p:=f.par (k+1) (by omega) (by omega);have a:=qoz (w:=gt b.Af i) (ld:=loadsL b i) (k:=k);refine Ev.succ ?_;simp only[qea,qn (show k+1<(loadsL b i).length by omega),cond_true,qai (show k+1<(gt b.Af i).Am.length by omega),jd,qd2 p.1 (show at0 (gt b.Af i).Am (k+1)<((dlL (gt b.Af i) (loadsL b i) k).length:Int) by omega),
    qai (show k+1<(gt b.Af i).Bu.length by omega),qz (show k+1<(loadsL b i).length by omega),qhZ (show k+1<9223372036854775807 by omega)]
   rw[qcE (by rw[a,jh];omega)];exact ih (k+1) (by omega)
 unfold qg8;rw[qz hi];simp only[jd];refine Ev.bind (qpo h hi) ?_;exact Ev.bind (c ((gt b.Af i).Am.length-1) 0 (by omega)) .done
theorem qhG{b:qe}(h:blockB b=true){i:Nat}(hi:i<b.Af.length){mode:Int}:Ev (fun n=>qgA n b (i:Int) mode) ((exactL b i).map fun x=>divI x 1000 mode):=by
 have k:=qbr h hi;have r:(gt b.Af i).Bk.length<=78:=by rw[k.snk];exact qhv h
 have p:=qk9 h hi;have l:Ev (fun n=>qb2 b (i:Int) mode (delaysL b i) n ([]:List Int) 0) ((exactL b i).map (fun x=>divI x 1000 mode),((gt b.Af i).Bk.length:Int)):=by
  refine loopF (Lf:=qb2 b (i:Int) mode (delaysL b i)) (S:=fun j=>(((gt b.Af i).Bk.take j).map fun s=>gt (delaysL b i) s.toNat).map fun x=>divI x 1000 mode) (len:=(gt b.Af i).Bk.length) (fun n=>?_) (fun j c X o=>?_)
  ·simp only[qb2,qz hi,jd,qp (jf _),cond_false,jN];rfl
  ·have g:=k.sin j c;have f:=qkH h hi c;have m:gt (exactL b i) j=gt (delaysL b i) (at0 (gt b.Af i).Bk j).toNat:=by
    unfold exactL;rw[qd6 (by rw[jr];exact c),List.getElem_map,qjR c]
   rw[m] at f;have d:=fun n=>qkM (n:=n) (a:=gt (delaysL b i) (at0 (gt b.Af i).Bk j).toNat) (b:=1000) (mode:=mode) (by omega) (by omega) (by omega);simp only[qb2,qz hi,jd,qn c,cond_true,qai c,qd2 g.1 (show at0 (gt b.Af i).Bk j<((delaysL b i).length:Int) by omega),d,wS j];rw[qcE (by rw[jr,jr,jZ,jh];omega)];have:(((gt b.Af i).Bk.take j).map (fun s=>gt (delaysL b i) s.toNat)).map (fun x=>divI x 1000 mode)++[divI (gt (delaysL b i) (at0 (gt b.Af i).Bk j).toNat) 1000 mode]=(((gt b.Af i).Bk.take (j+1)).map fun s=>gt (delaysL b i) s.toNat).map fun x=>divI x 1000 mode:=by
    rw[jz c,jY,jY,qjR c];rfl
   rw[this];exact o
 unfold qgA;exact Ev.bind (qmj h hi) (Ev.bind l .done)

instance:Inhabited qi:=⟨⟨0,⟨0,0⟩,⟨0,0⟩⟩⟩
instance:Inhabited qf:=⟨⟨0,0⟩⟩
def cornerB(c:qu):Bool:=(inI c.Ay 100 5000&&(inI c.Bb 100 5000&&(inI c.Au 100 5000&&inI c.Bc 100 5000)))&&(nameB c.Bi&&(decide (c.Ay<=c.Bb)&&decide (c.Au<=c.Bc)))
theorem qrY{c:qu}(h:okS c.Bi):Ev (fun n=>qh6 n c) (cornerB c):=by
 have a:Ev (fun n=>qcl c n 0) (bif inI c.Ay 100 5000&&(inI c.Bb 100 5000&&(inI c.Au 100 5000&&inI c.Bc 100 5000)) then .nxt 4 else .ret false):=by
  refine Ev.succ ?_;simp only[qcl,qcY,show idx ([c.Ay,c.Bb,c.Au,c.Bc]:List Int) 0=V c.Ay from rfl,jd];refine Ev.tt Z ?_;cases inI c.Ay 100 5000
  ·exact .done
  refine Ev.ff Z (Ev.succ ?_);simp only[qcl,qcY,show W64 (0+1)=1 from rfl,show idx ([c.Ay,c.Bb,c.Au,c.Bc]:List Int) 1=V c.Bb from rfl,jd];refine Ev.tt Z ?_;cases inI c.Bb 100 5000
  ·exact .done
  refine Ev.ff Z (Ev.succ ?_);simp only[qcl,qcY,show W64 (1+1)=2 from rfl,show idx ([c.Ay,c.Bb,c.Au,c.Bc]:List Int) 2=V c.Au from rfl,jd];refine Ev.tt Z ?_;cases inI c.Au 100 5000
  ·exact .done
  refine Ev.ff Z (Ev.succ ?_);simp only[qcl,qcY,show W64 (2+1)=3 from rfl,show idx ([c.Ay,c.Bb,c.Au,c.Bc]:List Int) 3=V c.Bc from rfl,jd];refine Ev.tt Z ?_;cases inI c.Bc 100 5000
  ·exact .done
  refine Ev.ff Z (Ev.succ ?_);simp only[qcl];exact Ev.ff Z .done
 unfold qh6 cornerB;refine Ev.bind a ?_;cases inI c.Ay 100 5000&&(inI c.Bb 100 5000&&(inI c.Au 100 5000&&inI c.Bc 100 5000))
 ·exact .done
 ·refine Ev.bind (ql7 h) ?_;cases nameB c.Bi
  ·exact .done
  ·cases decide (c.Ay<=c.Bb)<;>exact .done
theorem qqN{n:Nat}{a b:Int}:qgJ n a b=V (decide (a>=100)&&(decide (a<=b)&&decide (b<=5000))):=by
 unfold qgJ;cases decide (a>=100)
 ·rfl
 ·cases decide (a<=b)<;>rfl
theorem qpt{c:qu}(h:okS c.Bi):Ev (fun n=>qgR n c) (cornerB c):=by
 have e:cornerB c=(nameB c.Bi&&((decide (c.Ay>=100)&&(decide (c.Ay<=c.Bb)&&decide (c.Bb<=5000)))&&(decide (c.Au>=100)&&(decide (c.Au<=c.Bc)&&decide (c.Bc<=5000))))):=by
  unfold cornerB;rw[jm];simp only[je,qa9,decide_eq_true_eq];constructor
  ·rintro⟨⟨b,d,f,g⟩,a,i,k⟩;refine⟨a,⟨?_,?_,?_⟩,?_,?_,?_⟩<;>omega
  ·rintro⟨a,⟨b,d,f⟩,g,i,k⟩;refine⟨⟨⟨?_,?_⟩,⟨?_,?_⟩,⟨?_,?_⟩,?_,?_⟩,a,?_,?_⟩<;>omega
 rw[e];unfold qgR;simp only[qpb h,qqN,jd];cases nameB c.Bi
 ·exact .done
 ·cases decide (c.Ay>=100)&&(decide (c.Ay<=c.Bb)&&decide (c.Bb<=5000))<;>exact .done
def spanB(s:qf):Bool:=inI s.Ar (-1000000000) 1000000000&&(inI s.Bd (-1000000000) 1000000000&&decide (s.Ar<=s.Bd))
def slewB(s:qf):Bool:=decide (s.Ar>=0)&&(decide (s.Ar<=s.Bd)&&decide (s.Bd<=1000000))
theorem qqB{n:Nat}{s:qf}:qiC n s=V (spanB s):=by
 unfold qiC spanB;simp only[qcY,jd];cases inI s.Ar (-1000000000) 1000000000
 ·rfl
 ·cases inI s.Bd (-1000000000) 1000000000<;>rfl
theorem qpe{n:Nat}{s:qf}:qhg n s=V (spanB s):=by
 unfold qhg qk3 spanB;simp only[qdd,jd];cases inI s.Ar (-1000000000) 1000000000
 ·rfl
 ·cases inI s.Bd (-1000000000) 1000000000<;>rfl
theorem qsw{n:Nat}{s:qf}:qh1 n s=V (slewB s):=by
 unfold qh1 slewB;cases decide (s.Ar>=0)
 ·rfl
 ·cases decide (s.Ar<=s.Bd)<;>rfl
theorem qso{n:Nat}{s:qf}:qhV n s=V (slewB s):=by
 have e:slewB s=(spanB s&&(inI s.Ar 0 1000000&&inI s.Bd 0 1000000)):=by
  unfold slewB spanB;rw[jm];simp only[je,qa9,decide_eq_true_eq];constructor
  ·rintro⟨a,b,c⟩;refine⟨⟨⟨?_,?_⟩,⟨?_,?_⟩,?_⟩,⟨?_,?_⟩,?_,?_⟩<;>omega
  ·rintro⟨⟨a,b,c⟩,d,f⟩;refine⟨?_,?_,?_⟩<;>omega
 rw[e];unfold qhV qiv;simp only[qpe,qdd,jd];cases spanB s
 ·rfl
 ·cases inI s.Ar 0 1000000<;>rfl

theorem qrz{b:qe}{k:Int}(h:blockB b=true){j:Nat}(c:j<(places b.Aa).length)(l:(gt (places b.Aa) j).net=k)(d:(gt (places b.Aa) j).drives=true):Ev (fun n=>qiS n b.Aa k) (j:Int):=by
 have g:=qaz h;have p:=qaj g;have t:=qaU p;have e:ixL (fun q:Tl05Place=>(q.net==k)&&q.drives) ((places b.Aa).map toSp)=(j:Int):=by
  refine qvY (by simpa using c) ?_ (fun i hi m=>?_)
  ·rw[qmH c];show(((gt (places b.Aa) j).net==k)&&(gt (places b.Aa) j).drives)=true;rw[l,d];simp
  ·have f:i<(places b.Aa).length:=by simpa using hi
   rw[qmH f] at m;have a:(((gt (places b.Aa) i).net==k)&&(gt (places b.Aa) i).drives)=true:=m;simp only[je,beq_iff_eq] at a;exact qsc g f c (by rw[a.1,l]) a.2 d
 unfold qiS;refine Ev.bind (qgF p) ?_;rw[<-e];exact qge (fin:=(((places b.Aa).map toSp).length:Int)) (Lf:=qc3 k ((places b.Aa).map toSp)) (xs:=(places b.Aa).map toSp) (pf:=fun _ (q:Tl05Place)=>V ((q.net==k)&&q.drives)) (fun _ _=>.done)
  (fun n=>by simp only[qc3,qp (jf _),cond_false])
  (fun n j x r=>by
   have c:=(List.getElem?_eq_some_iff.1 r).1;have s:j<(places b.Aa).length:=by simpa using c
   simp only[qc3,qn c,cond_true,qhk r,jd,wS j];cases (x.net==k)<;>cases x.drives<;>rfl)
  (fun n=>by congr 1;funext o;cases o<;>rfl)
theorem qp2{b:qe}{i k:Nat}(h:blockB b=true)(hi:i<b.Aa.Ab.length)(s:k<(gt b.Aa.Ab i).Ak.length):Ev (fun n=>qi4 n b.Aa (i:Int) (k:Int)) ((off b.Aa i+k:Nat):Int):=by
 have p:=qaz h;have f:=qaj p;have u:=qaU f;obtain⟨c,l⟩:=qku hi s;have e:ixL (fun q:Tl05Place=>(q.instance_==(i:Int))&&(q.pin==(k:Int))) ((places b.Aa).map toSp)=((off b.Aa i+k:Nat):Int):=by
  refine qvY (by simpa using c) ?_ (fun m t a=>?_)
  ·rw[qmH c,l];unfold place1 toSp;simp
  ·have d:m<(places b.Aa).length:=by simpa using t
   rw[qmH d] at a;rcases qlf d with⟨i',k',hi',hk',em,e'⟩|⟨i',hi',em,e'⟩
   ·rw[e'] at a;unfold place1 toSp at a;simp only[je,beq_iff_eq] at a;obtain rfl:i'=i:=by omega
    obtain rfl:k'=k:=by omega
    exact em
   ·rw[e'] at a;unfold place2 toSp at a;simp only[je,beq_iff_eq] at a;omega
 unfold qi4;refine Ev.bind (qgF f) ?_;rw[<-e];exact qge (fin:=(((places b.Aa).map toSp).length:Int)) (Lf:=qel (i:Int) (k:Int) ((places b.Aa).map toSp)) (xs:=(places b.Aa).map toSp) (pf:=fun _ (q:Tl05Place)=>V ((q.instance_==(i:Int))&&(q.pin==(k:Int)))) (fun _ _=>.done)
  (fun n=>by simp only[qel,qp (jf _),cond_false])
  (fun n j x g=>by
   have c:=(List.getElem?_eq_some_iff.1 g).1;have r:j<(places b.Aa).length:=by simpa using c
   simp only[qel,qn c,cond_true,qhk g,jd,wS j];cases (x.instance_==(i:Int))<;>cases (x.pin==(k:Int))<;>rfl)
  (fun n=>by congr 1;funext o;cases o<;>rfl)
theorem qrD{n:Nat}{xs:List qt}{f t a c k i:Int}(o:xs.length<=1000000)(l:0<=f)(m:f<=1000000)(p:0<=t)(r:t<=1000000)(b:b01 a)(g:b01 c):qfN n xs f t a c k i=V (xs++[⟨2*f+a,2*t+c,k,i⟩]):=by
 have d:0<=a/\a<=1:=by rcases b with e|e<;>omega
 have h:0<=c/\c<=1:=by rcases g with e|e<;>omega
 unfold qfN;rw[wO (2*f),wO (2*t),wO (2*f+a),wO (2*t+c),qcE (by rw[jh];omega)]
 rfl
def fitB(a:qat)(i j:Int):Bool:=bif a.Be==1 then(bif a.Bp==3 then true else(a.Bp==1)==(i==j)) else bif a.Be==2 then i==0 else bif a.Be==3 then i==1 else false
def pcL(a:qat)(f t k i j:Int):List qt:=bif fitB a i j then[⟨2*f+i,2*t+j,1,k⟩] else[]
theorem arcStep{arc:qat}{xs:List qt}{f t k i j:Int}{X:List qt×Int}(l:xs.length<=1000000)(c:0<=f)(d:f<=1000000)(m:0<=t)(o:t<=1000000)(hi:b01 i)(b:b01 j)
  (h:Ev (fun n=>qbi arc f t k i n (xs++pcL arc f t k i j) (j+1)) X):Ev (fun n=>qbi arc f t k i n xs j) X:=by
 have a:0<=j/\j<=1:=by rcases b with e|e<;>omega
 have g:=fun n=>qrD (n:=n) (k:=1) (i:=k) l c d m o hi b;refine Ev.succ ?_;simp only[qbi,g,jd,wO (j+1)];refine Ev.tt (decide_eq_true a.2) ?_;unfold pcL fitB at h;cases h1:arc.Be==1
 ·cases h2:arc.Be==2
  ·cases h3:arc.Be==3
   ·rw[h1,h2,h3] at h;simpa using h
   ·rw[h1,h2,h3] at h;cases h4:i==1
    ·rw[h4] at h;simpa using h
    ·rw[h4] at h;simpa using h
  ·rw[h1,h2] at h;cases h4:i==0
   ·rw[h4] at h;simpa using h
   ·rw[h4] at h;simpa using h
 ·rw[h1] at h;cases h2:arc.Bp==3
  ·rw[h2] at h;cases h4:(arc.Bp==1)==(i==j)
   ·rw[h4] at h;simpa [h4] using h
   ·rw[h4] at h;simpa [h4] using h
  ·rw[h2] at h;simpa using h
theorem qxm{arc:qat}{xs:List qt}{f t k:Int}(u:xs.length<=900000)(c:0<=f)(d:f<=1000000)(g:0<=t)(h:t<=1000000) :
  Ev (fun n=>qk0 n xs arc f t k) (xs++pcL arc f t k 0 0++pcL arc f t k 0 1++pcL arc f t k 1 0++pcL arc f t k 1 1):=by
 have a:∀i j,(pcL arc f t k i j).length<=1:=fun i j=>by unfold pcL;cases fitB arc i j<;>simp
 have l:=a 0 0;have m:=a 0 1;have o:=a 1 0;have p:=a 1 1;have b:∀(i:Int) (ys:List qt),b01 i->ys.length<=900010->Ev (fun n=>qbi arc f t k i n ys 0) (ys++pcL arc f t k i 0++pcL arc f t k i 1,2):=by
  intro i ys hi v;have s:=a i 0;refine arcStep (by omega) c d g h hi (.inl Z) (arcStep (j:=0+1) (by rw[jg];omega) c d g h hi (.inr Z) (Ev.succ ?_));simp only[qbi];exact Ev.ff Z .done
 have r:Ev (fun n=>qe6 arc f t k n xs 0) (xs++pcL arc f t k 0 0++pcL arc f t k 0 1++pcL arc f t k 1 0++pcL arc f t k 1 1,2):=by
  refine Ev.succ ?_;simp only[qe6];refine Ev.tt Z (Ev.bind (b 0 xs (.inl Z) (by omega)) ?_);refine Ev.succ ?_;simp only[qe6];refine Ev.tt Z (Ev.bind (b 1 _ (.inr Z) (by simp only[jg];omega)) ?_);refine Ev.succ ?_;simp only[qe6];exact Ev.ff Z .done
 unfold qk0;exact Ev.bind r .done
theorem qud{ps:List qaA}{a:qat}(h:arcS ps a=true)(c:a.Be<=3)(b:1<=a.Be):(a.Be=1/\(a.Bp=1\/a.Bp=2\/a.Bp=3))\/a.Be=2\/a.Be=3:=by
 rcases (by omega:a.Be=1\/a.Be=2\/a.Be=3) with e|e|e
 ·refine .inl ⟨e,?_⟩;unfold arcS at h;rw[e] at h;simp only[beq_self_eq_true,cond_true,je,qa9] at h;have:=h.2.2.2.1;omega
 ·exact .inr (.inl e)
 ·exact .inr (.inr e)
theorem qvV{ps:List qaA}{a:qat}{first:Int}{k:Nat}(h:arcS ps a=true)(c:a.Be<=3)(b:1<=a.Be) :
  pcL a (first+a.Bl) (first+a.To) (k:Int) 0 0++pcL a (first+a.Bl) (first+a.To) (k:Int) 0 1++pcL a (first+a.Bl) (first+a.To) (k:Int) 1 0++pcL a (first+a.Bl) (first+a.To) (k:Int) 1 1=arcLs first k a:=by
 unfold arcLs transL pcL fitB;rcases qud h c b with⟨e,e2|e2|e2⟩|e|e
 ·rw[e,e2];rfl
 ·rw[e,e2];rfl
 ·rw[e,e2];rfl
 ·rw[e];rfl
 ·rw[e];rfl
theorem qpq{a:qat}{first:Int}{k:Nat}(h:3<a.Be):arcLs first k a=[]:=by
 unfold arcLs transL;rw[show(a.Be==2)=false from beq_eq_false_iff_ne.2 (by omega),show(a.Be==3)=false from beq_eq_false_iff_ne.2 (by omega),show(a.Be != 1)=true from bne_iff_ne.2 (by omega)]
 rfl
theorem qd8{b:qe}(h:blockB b=true):Ev (fun n=>qdZ n b) (linksL b):=by
 have v:=qaz h;have z:=qaj v;have hl:=qaU z;have hni:=z.ni;have hnn:=z.nn;have J:=qky h;have p:(⟨b.Aa.Ab,b.Aa.Ak,b.Aa.Aj⟩:qh)=b.Aa:=rfl;have e1:Ev (fun n=>qdF b n ([]:List qt) 0) (instLs b b.Aa.Ab.length,(b.Aa.Ab.length:Int)):=by
  refine loopF (Lf:=qdF b) (S:=instLs b) (len:=b.Aa.Ab.length) (fun n=>?_) (fun j m X g=>?_)
  ·simp only[qdF,qp (jf _),cond_false]
  ·obtain⟨⟨Q,c1⟩,r,l⟩:=qgP v m;have M:=qnY l;have s:=(qhl (qjl l)).1;have H:=qjk h (show j<=b.Aa.Ab.length by omega);have O:=qkF (d:=b.Aa) (i:=j);have hof:off b.Aa (j+1)<=78:=by
    rw[qhi] at hl;have:=qs7 (d:=b.Aa) (show j+1<=b.Aa.Ab.length by omega);omega
   have F:cellAt b (j:Int)=gt b.Aq.As (gt b.Aa.Ab j).Bt.toNat:=rfl;simp only[qdF,qn m,cond_true,qz m,qd2 Q c1,jd,wS j];have C:Ev (fun n=>qcL b (j:Int) (cellAt b (j:Int)) n (instLs b j) 0) (instLs b (j+1),((cellAt b (j:Int)).Av.length:Int)):=by
    rw[show instLs b (j+1)=instLs b j++cellLs (cellAt b (j:Int)) (off b.Aa j:Int) (cellAt b (j:Int)).Av.length from qke];rw[<-F] at l r M s;generalize cellAt b (j:Int)=c at l r M s⊢;have:=loopF (Lf:=qcL b (j:Int) c) (S:=fun k=>instLs b j++cellLs c (off b.Aa j:Int) k) (len:=c.Av.length) (fin:=(instLs b j++cellLs c (off b.Aa j:Int) c.Av.length,(c.Av.length:Int))) (fun n=>by simp only[qcL,qp (jf _),cond_false])
     (fun k o X g=>by
      obtain⟨⟨k1,k5⟩,N,I,Y⟩:=qm3 l o;have e:(cellLs c (off b.Aa j:Int) k).length<=4*k:=qoW fun _ _=>qoT;have A:cellLs c (off b.Aa j:Int) (k+1)=cellLs c (off b.Aa j:Int) k++arcLs (off b.Aa j:Int) k (gt c.Av k):=qke;rw[A] at g;simp only[qcL,qn o,cond_true,qz o,jd,wS k,p];by_cases B:(gt c.Av k).Be<=3
      ·refine Ev.tt (decide_eq_true B) ?_;have K:=qp2 h m (k:=(gt c.Av k).Bl.toNat) (by omega);have L:=qp2 h m (k:=(gt c.Av k).To.toNat) (by omega);rw[<-qdP N.1] at K;rw[<-qdP I.1] at L;refine Ev.bind K (Ev.bind L (Ev.bind (qxm (by rw[jg];omega) (by omega) (by omega) (by omega) (by omega)) ?_));have u:∀x:Int,0<=x->((off b.Aa j+x.toNat:Nat):Int)=(off b.Aa j:Int)+x:=fun x hx=>by omega
       rw[u _ N.1,u _ I.1,ju,ju,ju,<-ju (pcL _ _ _ _ _ _),<-ju (pcL _ _ _ _ _ _++_),qvV Y B k1,ju];exact g
      ·refine Ev.ff (decide_eq_false B) ?_;rw[qpq (by omega),Je] at g;exact g)
    simpa [cellLs,fm] using this
   exact Ev.bind C g
 have D:∀(i:Nat) (t:List qt),i<b.Af.length->t.length<=900000->Ev (fun n=>qdO (dvN b.Aa i:Int) (skL b i) n t 0) (t++wlN b i (skL b i).length,((skL b i).length:Int)):=by
  intro i t hi I;have hsm:=qhv h (i:=i);have a3:=(qiJ v (k:=i) (by omega)).1;have:=loopF (Lf:=qdO (dvN b.Aa i:Int) (skL b i)) (S:=fun k=>t++wlN b i k) (len:=(skL b i).length) (fin:=(t++wlN b i (skL b i).length,((skL b i).length:Int))) (fun n=>by simp only[qdO,qp (jf _),cond_false])
   (fun k o X g=>by
    obtain⟨y,hy,ey,_⟩:=qn2 o;have hwn:=qr5 (b:=b) (i:=i) (j:=k);have p1:=fun n=>qrD (n:=n) (xs:=t++wlN b i k) (f:=(dvN b.Aa i:Int)) (t:=at0 (skL b i) k) (a:=0) (c:=0) (k:=2) (i:=(k:Int)) (by rw[jg];omega) (by omega) (by omega) (by omega) (by omega) (.inl Z) (.inl Z);have p2:=fun n=>qrD (n:=n) (xs:=t++wlN b i k++[⟨2*(dvN b.Aa i:Int)+0,2*at0 (skL b i) k+0,2,(k:Int)⟩]) (f:=(dvN b.Aa i:Int)) (t:=at0 (skL b i) k) (a:=1) (c:=1) (k:=2) (i:=(k:Int)) (by rw[jg,jg,jh];omega) (by omega) (by omega) (by omega) (by omega) (.inr Z) (.inr Z);simp only[qdO,qn o,cond_true,qai o,jd,p1,p2,wS k];have A:wlN b i (k+1)=wlN b i k++wl1 (dvN b.Aa i) (at0 (skL b i) k) k:=qke;rw[A] at g;rw[Jf,Jf,ju,ju];exact g)
  simpa [wlN,fm] using this
 have u:Ev (fun n=>qdM b n (instLs b b.Aa.Ab.length) 0) (linksL b,(b.Aa.Ak.length:Int)):=by
  have H:=qjk h (jf _);have:=loopF (Lf:=qdM b) (S:=fun j=>instLs b b.Aa.Ab.length++wireLs b j) (len:=b.Aa.Ak.length) (fin:=(linksL b,(b.Aa.Ak.length:Int))) (fun n=>by
    simp only[qdM,qp (jf _),cond_false];rw[<-J];rfl)
   (fun j m X g=>by
    have P:=qnU h (j:=j);obtain⟨R,d2⟩:=qiJ v m;obtain⟨T,W⟩:=qmL.1 d2;simp only[qdM,qn m,cond_true,wS j,p];refine Ev.bind (qrz h R T W) (Ev.bind (qlb z) (Ev.bind (D j _ (by omega) (by rw[jg];omega)) ?_));rw[ju,show wireLs b j++wlN b j (skL b j).length=wireLs b (j+1) from qke.symm];exact g)
  simpa [wireLs,fm] using this
 unfold qdZ;exact Ev.bind e1 (Ev.bind u .done)
def lvB(br:List Int)(m:Nat):List Bool:=pre (fun k=>!br.any fun y=>y==(k:Int)) m
theorem qjz{br:List Int}{m:Nat}:(lvB br m).length=m:=qkc
theorem qo3{br:List Int}{x:Int}(d:br.length<=1048576):Ev (fun n=>qiB n br x) (br.any fun y=>y==x):=by
 have b:Ev (fun n=>qe8 br x n 0) (bif br.any (fun y=>y==x) then .ret true else .nxt (br.length:Int)):=by
  have:=qeG (Lf:=qe8 br x) (len:=br.length) (f:=fun j=>!(gt br j==x)) (bad:=true) (fin:=.nxt (br.length:Int)) (Ev.succ (by simp only[qe8,qp (jf _),cond_false];exact .done))
   (fun j a X c=>Ev.succ (by
    simp only[qe8,qn a,cond_true,qz a,jd,wS j];cases gt br j==x
    ·exact c
    ·exact .done))
  rw[qtB];refine this.cast ?_;cases allN (fun j=>!(gt br j==x)) br.length<;>rfl
 unfold qiB;refine Ev.bind b ?_;cases br.any (fun y=>y==x)<;>exact .done
theorem qiq{ls:List qt}{br:List Int}(g:ls.length<=10000)(a:br.length<=1048576):Ev (fun n=>qgn n ls br) (lvB br ls.length):=by
 have b:Ev (fun n=>qeu ls br n ([]:List Bool) 0) (lvB br ls.length,(ls.length:Int)):=by
  refine loopF (Lf:=qeu ls br) (S:=fun j=>lvB br j) (len:=ls.length) (fun n=>?_) (fun j d X c=>?_)
  ·simp only[qeu,qp (jf _),cond_false]
  ·simp only[qeu,qn d,cond_true,wS j];refine Ev.bind (qo3 a) ?_;have e:appS (lvB br j) [!br.any fun y=>y==(j:Int)]=V (lvB br (j+1)):=qn9 (f:=fun k:Nat=>!br.any fun y=>y==(k:Int)) (by omega);rw[e];exact c
 unfold qgn;exact Ev.bind b .done
def brB(br:List Int)(m:Nat):Bool:=(br.all fun x=>inI x 0 ((m:Int)-1))&&incB br
theorem qtu{v:Tview}{br:List Int}(A:v.links.length<=10000)(h:brB br v.links.length=true):Ev (fun n=>qgZ n (V v) br) (V ⟨V v,lvB br v.links.length⟩):=by
 unfold brB at h;rw[je,qiH,qah] at h;have u:mkS (v.links.length:Int) false=V (pre (fun _=>false) v.links.length):=qlU (by omega);generalize hM:v.links.length=M at A h u⊢;have m:∀j i,i<j->j<br.length->gt br i<gt br j:=by
  intro j
  induction j with
  |zero=>intro i hi _;omega
  |succ j ih=>
   intro i hi b;have c:=h.2;unfold incB at c;rw[qah] at c;have c:=c (j+1) b;unfold stepB at c;simp only[Bool.or_eq_true,decide_eq_true_eq,Nat.add_sub_cancel] at c;have s:gt br j<gt br (j+1):=by
    rcases c with c|c
    ·omega
    ·exact c
   by_cases r:i=j
   ·rw[r];exact s
   ·have:=ih i (by omega) (by omega);omega
 have o:∀j,j<br.length->(j:Int)<=gt br j:=by
  intro j
  induction j with
  |zero=>
   intro b;have:=h.1 0 b;rw[qa9] at this;omega
  |succ j ih=>
   intro b;have:=ih (by omega);have:=m (j+1) j (by omega) b;omega
 have C:br.length<=M:=by
  by_cases D:br.length=0
  ·omega
  ·have F:=o (br.length-1) (by omega);have B:=h.1 (br.length-1) (by omega);rw[qa9] at B;omega
 have e1:Ev (fun n=>qcd (pre (fun _=>false) M) n (pre (fun _=>false) M) 0) (pre (fun _=>true) M,(M:Int)):=by
  have:=loopF (Lf:=qcd (pre (fun _=>false) M)) (S:=fun j=>pre (fun k=>decide (k<j)) M) (len:=M) (fin:=(pre (fun _=>true) M,(M:Int))) (fun n=>by
    simp only[qcd,qkc,qp (jf _),cond_false];rw[qho (g:=fun _=>true) fun k d=>decide_eq_true d])
   (fun j b X l=>by
    simp only[qcd,qkc,qn b,cond_true,qgp (f:=fun k=>decide (k<j)) b,jd,qoq,wS j];have:pre (fun k=>decide (k<j+1)) M=pre (fun k=>if k=j then true else decide (k<j)) M:=qho fun k _=>by
     by_cases d:k=j
     ·rw[if_pos d,d];simp
     ·rw[if_neg d,decide_eq_decide];omega
    rw[this] at l;exact l)
  simpa using this
 have z:Ev (fun n=>qcf br n (pre (fun _=>true) M) 0) (lvB br M,(br.length:Int)):=by
  have:=loopF (Lf:=qcf br) (S:=fun j=>pre (fun k=>!(br.take j).any fun y=>y==(k:Int)) M) (len:=br.length) (fin:=(lvB br M,(br.length:Int))) (fun n=>by
    simp only[qcf,qp (jf _),cond_false,jN];rfl)
   (fun j b X l=>by
    have x:=h.1 j b;rw[qa9] at x;obtain⟨a,t⟩:∃a:Nat,gt br j=(a:Int):=⟨_,qdP x.1⟩;have p:a<M:=by omega
    simp only[qcf,qn b,cond_true,qz b,t,qgp (f:=fun k=>!(br.take j).any fun y=>y==(k:Int)) p,jd,qoq,wS j];have:pre (fun k=>!(br.take (j+1)).any fun y=>y==(k:Int)) M=pre (fun k=>if k=a then false else !(br.take j).any fun y=>y==(k:Int)) M:=qho fun k _=>by
     rw[jz b,List.any_append,<-qd6 b,t];by_cases d:k=a
     ·rw[if_pos d,d];simp
     ·rw[if_neg d];have:((a:Int)==(k:Int))=false:=by simp;omega
      simp[this]
    rw[this] at l;exact l)
  simpa using this
 unfold qgZ;simp only[jd,hM,u];exact Ev.bind e1 (Ev.bind z .done)
theorem quI{br:List Int}{m:Nat}(h:br.length<=1048576)(i:m<=10000):Ev (fun n=>qiT n br (m:Int)) (brB br m):=by
 have g:Ev (fun n=>qcu br (m:Int) n 0) (bif allN (fun j=>inI (gt br j) 0 ((m:Int)-1)&&stepB br j) br.length then .nxt (br.length:Int) else .ret false):=by
  refine qeG (Lf:=qcu br (m:Int)) (len:=br.length) (Ev.succ (by simp only[qcu,qp (jf _),cond_false];exact .done)) (fun j d X c=>Ev.succ ?_);simp only[qcu,qn d,cond_true,qz d,jd,qcY,wS j,wO ((m:Int)-1)];cases h1:inI (gt br j) 0 ((m:Int)-1)
  ·exact .done
  ·refine Ev.ff Z ?_;by_cases b:j=0
   ·subst b;exact Ev.ff Z c
   ·refine Ev.tt (decide_eq_true (by omega)) ?_;rw[show(j:Int)-1=((j-1:Nat):Int) by omega,qN (by omega) (by omega),qz (show j-1<br.length by omega)];simp only[jd];have f:stepB br j=decide (gt br (j-1)<gt br j):=by
     unfold stepB;rw[decide_eq_false b,Bool.false_or]
     rfl
    rw[f];by_cases a:gt br (j-1)<gt br j
    ·rw[decide_eq_true a];exact Ev.ff (decide_eq_false (by omega)) c
    ·rw[decide_eq_false a];exact Ev.tt (decide_eq_true (by omega)) .done
 unfold qiT;refine Ev.bind g ?_;unfold brB incB;rw[qiH,<-qls];cases allN (fun j=>inI (gt br j) 0 ((m:Int)-1)&&stepB br j) br.length<;>exact .done
theorem qsT{v:Tview}{br:List Int}(a:br.length<=1048576)(b:v.links.length<=10000):Ev (fun n=>qe2 n (V v) br) (brB br v.links.length):=by
 unfold qe2 qdC brB;simp only[jd,wO ((v.links.length:Int)-1)];exact Ev.and (qeH a) fun _=>Ev.last (qml a)
theorem qts{b:qe}{br:List Int}(a:qjO b)(h:blockB b=true)(c:br.length<=1048576):Ev (fun n=>qhL n b br) (bif brB br (linksL b).length then 0 else 2):=by
 unfold qhL;refine Ev.bind (qhf a) (Ev.ff (by rw[h];rfl) (Ev.bind (qd8 h) (Ev.bind (quI c (qdR h)) ?_)));cases brB br (linksL b).length<;>exact .done

theorem qne{α:Type}{f:Nat->List α}{n:Nat}{x:α}(h:x∈fm f n):∃j,j<n/\x∈f j:=by
 unfold fm at h;obtain⟨j,a,b⟩:=List.mem_flatMap.1 h;exact⟨j,List.mem_range.1 a,b⟩
theorem qt2{x:Int}{j:Nat}{t:Int}(b:b01 t)(d:j<=100000)(e:x=2*(j:Int)+t):W64 (x.tdiv 2)=(j:Int)/\x.tmod 2=t:=by
 have c:0<=t/\t<=1:=by rcases b with e|e<;>omega
 have a:0<=x:=by omega
 rw[jF a,Int.tmod_eq_emod_of_nonneg a,qN (by omega) (by omega)];omega
structure CLk(b:qe)(x:qt)(i j m net a:Nat):Prop where
 kind:x.Be=1
 il:i<b.Aa.Ab.length
 jl:j<(places b.Aa).length
 inst:(gt (places b.Aa) j).instance_=(i:Int)
 net_:(gt (places b.Aa) j).net=(net:Int)
 nl:net<b.Af.length
 half:W64 (x.To.tdiv 2)=(j:Int)
 mod:x.To.tmod 2=(m:Int)
 ml:m<2
 ix:x.Bx=(a:Int)
 al:a<(cellAt b (i:Int)).Av.length
 d2:(gt (cellAt b (i:Int)).Av a).Bo.length=2
 s2:(gt (cellAt b (i:Int)).Av a).Ba.length=2
 dt:∀t,t∈(gt (cellAt b (i:Int)).Av a).Bo->TbOk t/\∀k,0<=at0 t.Bf k
 st:∀t,t∈(gt (cellAt b (i:Int)).Av a).Ba->TbOk t/\∀k,0<=at0 t.Bf k
 k3:(gt (cellAt b (i:Int)).Av a).Be<=3
structure WLk(b:qe)(x:qt)(j net k:Nat):Prop where
 kind:x.Be=2
 jl:j<(places b.Aa).length
 net_:(gt (places b.Aa) j).net=(net:Int)
 nl:net<b.Af.length
 half:W64 (x.To.tdiv 2)=(j:Int)
 ix:x.Bx=(k:Int)
 kl:k<(gt b.Af net).Bk.length
theorem qxn{xs:List Int}(h:0<=mnL xs)(k:Nat):0<=at0 xs k:=by
 have b:∀(ys:List Int) (a:Int),(ys.foldl (fun(m y:Int)=>if y<m then y else m) a<=a)/\∀y,y∈ys->ys.foldl (fun(m y:Int)=>if y<m then y else m) a<=y:=by
  intro ys
  induction ys with
  |nil=>intro a;exact⟨jC _,fun y g=>by cases g⟩
  |cons z ys ih=>
   intro a;rw[List.foldl_cons];obtain⟨i,l⟩:=ih (if z<a then z else a);refine⟨?_,fun y g=>?_⟩
   ·split at i<;>split<;>omega
   ·rcases List.mem_cons.1 g with e|e
    ·subst e;split at i<;>split<;>omega
    ·exact l y e
 by_cases d:k<xs.length
 ·have f:xs[k]∈xs.drop 1\/k=0:=by
   by_cases c:k=0
   ·exact .inr c
   ·refine .inl ?_;have:xs[k]=(xs.drop 1)[k-1]'(by rw[List.length_drop];omega):=by
     rw[List.getElem_drop]
     congr 1;omega
    rw[this];exact jn _
  rw[qjR d];unfold mnL at h;rcases f with f|c
  ·exact Ja h ((b _ _).2 _ f)
  ·subst c;have:=(b (xs.drop 1) (at0 xs 0)).1;rw[<-qjR d];exact Ja h this
 ·rw[qt1 d];exact jC _
theorem qp7{a:List qI}(h:tablesB a true=true):a.length=2/\∀t,t∈a->TbOk t/\∀k,0<=at0 t.Bf k:=by
 unfold tablesB at h;rw[je,decide_eq_true_eq,jM] at h;refine⟨h.1,fun t b=>?_⟩;have:=h.2 t b;unfold tabB at this;simp only[Jj,Bool.false_or,je,decide_eq_true_eq] at this;exact⟨qun this.1,qxn this.2⟩
theorem qs1{ps:List qaA}{a:qat}(h:arcS ps a=true)(c:a.Be<=3)(b:1<=a.Be):a.To=(ps.length:Int)-1/\tablesB a.Bo true=true/\tablesB a.Ba true=true:=by
 unfold arcS at h;rcases (by omega:a.Be=1\/a.Be=2\/a.Be=3) with e|e|e
 ·rw[e] at h;simp only[beq_self_eq_true,cond_true,je,beq_iff_eq] at h;exact⟨h.2.2.1,h.2.2.2.2⟩
 ·rw[e] at h;simp only[show((2:Int)==1)=false from rfl,cond_false,beq_self_eq_true,Bool.true_or,cond_true,je,beq_iff_eq] at h;exact⟨h.2.2.1,h.2.2.2.2⟩
 ·rw[e] at h;simp only[show((3:Int)==1)=false from rfl,cond_false,beq_self_eq_true,Bool.or_true,cond_true,je,beq_iff_eq] at h;exact⟨h.2.2.1,h.2.2.2.2⟩
theorem qsO{a:qat}{t:qW}(h:t∈transL a):1<=a.Be/\a.Be<=3:=by
 refine⟨?_,?_⟩<;>refine Int.le_of_not_gt fun b=>?_
 ·have:arcLs 0 0 a=[]:=by
   unfold arcLs transL;rw[show(a.Be==2)=false from beq_eq_false_iff_ne.2 (by omega),show(a.Be==3)=false from beq_eq_false_iff_ne.2 (by omega),show(a.Be != 1)=true from bne_iff_ne.2 (by omega)]
   rfl
  unfold arcLs at this;rw[List.map_eq_nil_iff] at this;rw[this] at h;cases h
 ·have:arcLs 0 0 a=[]:=qpq b;unfold arcLs at this;rw[List.map_eq_nil_iff] at this;rw[this] at h;cases h
theorem qfS{b:qe}(h:blockB b=true){x:qt}(c:x∈linksL b):((∃i j m net a,CLk b x i j m net a)\/∃j net k,WLk b x j net k)/\(0<=x.Bl/\x.Bl<2*((places b.Aa).length:Int))/\(0<=x.To/\x.To<2*((places b.Aa).length:Int)):=by
 have l:=qaz h;have P:=qaj l;have hl:=qaU P;have S:=qky h;unfold linksL at c;rcases List.mem_append.1 c with c|c
 ·obtain⟨i,hi,c⟩:=qne c;obtain⟨a,B,c⟩:=qne c;unfold arcLs at c;obtain⟨t,g,rfl⟩:=List.mem_map.1 c;obtain⟨⟨c0,c1⟩,u,f⟩:=qgP l hi;have r:cellAt b (i:Int)=gt b.Aq.As (gt b.Aa.Ab i).Bt.toNat:=rfl;rw[<-r] at u f;obtain⟨⟨k1,k5⟩,hf,Q,L⟩:=qm3 f B;obtain⟨K,A⟩:=qsO g;obtain⟨X,o⟩:=qq5 g;obtain⟨F,Y,tS⟩:=qs1 L A K;obtain⟨d2,dt⟩:=qp7 Y;obtain⟨s2,st⟩:=qp7 tS;have O:=(qhl (qjl f)).1;have n:(cellAt b (i:Int)).Bg.length-1<(gt b.Aa.Ab i).Ak.length:=by omega
  obtain⟨C,H⟩:=qku hi n;obtain⟨W,n1⟩:=qlY l C;have e1:(al1 (off b.Aa i:Int) a (gt (cellAt b (i:Int)).Av a) t).To=2*((off b.Aa i+((cellAt b (i:Int)).Bg.length-1):Nat):Int)+t.e1:=by
   show 2*((off b.Aa i:Int)+(gt (cellAt b (i:Int)).Av a).To)+t.e1=_;rw[F];omega
  obtain⟨s,D⟩:=qt2 o (by omega) e1;obtain⟨m,I⟩:∃m:Nat,t.e1=(m:Int):=⟨t.e1.toNat,by rcases o with e|e<;>omega⟩;have N:off b.Aa i+(gt (cellAt b (i:Int)).Av a).Bl.toNat<(places b.Aa).length:=(qku hi (k:=(gt (cellAt b (i:Int)).Av a).Bl.toNat) (by omega)).1;have p:(al1 (off b.Aa i:Int) a (gt (cellAt b (i:Int)).Av a) t).Bl=2*((off b.Aa i:Int)+(gt (cellAt b (i:Int)).Av a).Bl)+t.e0:=rfl;refine⟨.inl ⟨i,_,m,(gt (places b.Aa) (off b.Aa i+((cellAt b (i:Int)).Bg.length-1))).net.toNat,a,⟨rfl,hi,C,by rw[H];rfl,qdP W,by omega,s,by rw[D,I],by rcases o with e|e<;>omega,rfl,B,d2,s2,dt,st,A⟩⟩,?_,?_⟩
  ·rw[p];rcases X with e|e<;>rw[e]<;>omega
  ·rw[e1];rcases o with e|e<;>rw[e]<;>omega
 ·obtain⟨i,hi,c⟩:=qne c;obtain⟨k,n,c⟩:=qne c;obtain⟨y,T,J,v⟩:=qn2 n;have M:=(qiJ l (k:=i) (by omega)).1;have R:=qbr h hi;have z:(gt (places b.Aa) y).net=(i:Int):=by
   unfold snkQ at v;simp only[je,beq_iff_eq] at v;exact v.1
  have d:∀t:Int,b01 t->x=⟨2*(dvN b.Aa i:Int)+t,2*at0 (skL b i) k+t,2,(k:Int)⟩->((∃i j m net a,CLk b x i j m net a)\/∃j net k,WLk b x j net k)/\(0<=x.Bl/\x.Bl<2*((places b.Aa).length:Int))/\(0<=x.To/\x.To<2*((places b.Aa).length:Int)):=by
   intro t g e;have e1:x.To=2*(y:Int)+t:=by rw[e,J]
   have p:x.Bl=2*(dvN b.Aa i:Int)+t:=by rw[e]
   obtain⟨s,D⟩:=qt2 g (by omega) e1;refine⟨.inr ⟨y,i,k,⟨by rw[e],T,z,hi,s,by rw[e],by rw[R.snk];exact n⟩⟩,?_,?_⟩
   ·rw[p];rcases g with e|e<;>rw[e]<;>omega
   ·rw[e1];rcases g with e|e<;>rw[e]<;>omega
  unfold wl1 at c;simp only[jL,jy,or_false] at c;rcases c with c|c
  ·exact d 0 (.inl Z) (by rw[c,Jf,Jf])
  ·exact d 1 (.inr Z) c
theorem qfh{α:Type}[Inhabited α]{xs:List α}{k:Nat}(h:k<xs.length):gt xs k∈xs:=by rw[qd6 h];exact jn h
theorem qhB{b:qe}(h:blockB b=true):LkOk (linksL b) (2*(places b.Aa).length) where
 len:=qdR h
 nodes:=by have:=qaU (qaj (qaz h));omega
 fr0:=fun x a=>(qfS h (qfh a)).2.1.1
 fr1:=fun x a=>by have:=(qfS h (qfh a)).2.1.2;omega
 to0:=fun x a=>(qfS h (qfh a)).2.2.1
 to1:=fun x a=>by have:=(qfS h (qfh a)).2.2.2;omega
theorem qlD{c:qu}(h:cornerB c=true){kind mode:Int}:∃f:Int,100<=f/\f<=5000/\(∀n,qd0 n c kind mode=V f)/\∀n,qe3 n c kind mode=V f:=by
 unfold cornerB at h;simp only[je,qa9,decide_eq_true_eq] at h;obtain⟨⟨a,b,d,g⟩,_⟩:=h;unfold qd0 qe3;cases kind==1
 ·cases mode==0
  ·exact⟨_,g.1,g.2,fun _=>rfl,fun _=>rfl⟩
  ·exact⟨_,d.1,d.2,fun _=>rfl,fun _=>rfl⟩
 ·cases mode==0
  ·exact⟨_,b.1,b.2,fun _=>rfl,fun _=>rfl⟩
  ·exact⟨_,a.1,a.2,fun _=>rfl,fun _=>rfl⟩
theorem qiY{p f mode:Int}(h:0<=p)(p1:p<=400000000000)(c:0<=f)(g:f<=5000):(∀n,qcM n (W64 (p*f)) 1000 mode=V (divI (p*f) 1000 mode))/\∀n,qkB n p f mode=V (divI (p*f) 1000 mode):=by
 have i:=jP h c;have k:p*f<=400000000000*5000:=jX p1 g c (by omega);have e:W64 (p*f)=p*f:=qN (by omega) (by omega);have d:=fun n=>qkM (n:=n) (a:=p*f) (b:=1000) (mode:=mode) (by omega) (by omega) (by omega);refine⟨fun n=>by rw[e];exact d n,fun n=>?_⟩;unfold qkB;rw[e,qrN (m:=0),d 0]
 rfl
theorem qvf{l h H:Int}(c:0<=l)(d:l<h)(f:h<=H)(g:H<=3000000000):W64 (W64 (W64 (l+h)+1) |>.tdiv 2)=(l+h+1) / 2/\W64 ((l+h+1) / 2*((l+h+1) / 2))=(l+h+1) / 2*((l+h+1) / 2)/\W64 ((l+h+1) / 2-1)=(l+h+1) / 2-1:=by
 have a:0<=(l+h+1) / 2/\(l+h+1) / 2<=3000000000:=by omega
 have i:(l+h+1) / 2*((l+h+1) / 2)<=3000000000*3000000000:=jX a.2 a.2 a.1 (by omega);have b:=jP a.1 a.1;rw[wO (l+h),wO (l+h+1),jF (by omega),wO ((l+h+1) / 2),wO ((l+h+1) / 2-1)];exact⟨rfl,qN (by omega) (by omega),rfl⟩
theorem qv2{y mode:Int}(k:0<=y)(r:y<=4000000000000000000):∃v,IsRoot y v/\v<=2000000000/\Ev (fun n=>qiZ n y mode) (if mode=1/\v*v<y then v+1 else v):=by
 obtain⟨v,r1,f,p⟩:=qre (Lf:=fun n l h=>qei y n l h) (fin:=fun l=>(l,l)) (x:=y) (H:=2000000000) k (by omega) (by omega)
  (fun n l _ _=>by simp only[qei,show decide (l<l)=false from decide_eq_false (Int.lt_irrefl l),cond_false])
  (fun n l h a b m=>by
   obtain⟨e1,g,i⟩:=qvf a b m (by omega);simp only[qei,decide_eq_true b,cond_true,e1,g,i])
 refine⟨v,r1,f,?_⟩;unfold qiZ;refine Ev.bind p ?_;have d:=r1.pos;have s:v*v<=2000000000*2000000000:=jX f f d (by omega);have o:=jP d d;simp only[wO (v*v),wO (v+1)];by_cases c:mode=1
 ·refine Ev.tt (by simpa using c) ?_;by_cases a:v*v<y
  ·rw[if_pos ⟨c,a⟩];exact Ev.tt (decide_eq_true a) .done
  ·rw[if_neg fun h=>a h.2];exact Ev.ff (decide_eq_false a) .done
 ·rw[if_neg fun h=>c h.1];exact Ev.ff (by simpa using c) .done
theorem qvj{y:Int}(d:0<=y)(m:y<=4000000000000000000):∃v,IsRoot y v/\v<=3000000000/\Ev (fun n=>qnh n y) v:=by
 obtain⟨v,r1,i,k⟩:=qre (Lf:=fun n l h=>qgz y n l h) (fin:=fun l=>(l,l)) (x:=y) (H:=3000000000) d (by omega) (by omega)
  (fun n l _ _=>by simp only[qgz,show decide (l<l)=false from decide_eq_false (Int.lt_irrefl l),cond_false])
  (fun n l h g a f=>by
   obtain⟨e1,b,c⟩:=qvf g a f (by omega);simp only[qgz,decide_eq_true a,cond_true,e1,b,c])
 refine⟨v,r1,i,?_⟩;unfold qnh;exact Ev.bind k .done
theorem qqY{sl d mode:Int}(s0:0<=sl)(s1:sl<=1000000)(g:0<=d)(l:d<=344000000)(o:mode=0\/mode=1):∃r:Int,0<=r/\(∃v,IsRoot (4*(250000*(sl*sl)+d*d)) v/\v<=2000000000/\r=divI (if mode=1/\v*v<4*(250000*(sl*sl)+d*d) then v+1 else v) 1000 mode) /\
  Ev (fun n=>(qiZ n (W64 (W64 (W64 (1000000*sl)*sl)+W64 (W64 (4*d)*d))) mode).bind fun z=>(qcM n z 1000 mode).bind fun A=>V A) r/\Ev (fun n=>qjy n sl d mode) r:=by
 have I:=jP s0 s0;have J:sl*sl<=1000000*1000000:=jX s1 s1 s0 (by omega);have K:=jP g g;have L:d*d<=344000000*344000000:=jX l l g (by omega);have e1:W64 (W64 (W64 (1000000*sl)*sl)+W64 (W64 (4*d)*d))=4*(250000*(sl*sl)+d*d):=by
  rw[wO (1000000*sl),wO (4*d),jV 1000000,jV 4,wO (1000000*(sl*sl)),wO (4*(d*d)),qN (by omega) (by omega)];omega
 have s:W64 (W64 (W64 (W64 (500*sl)*500)*sl)+W64 (d*d))=250000*(sl*sl)+d*d:=by
  rw[wO (500*sl),wO (500*sl*500),show 500*sl*500*sl=250000*(sl*sl) by rw[<-jV];congr 1;omega,wO (250000*(sl*sl)),wO (d*d),qN (by omega) (by omega)]
 obtain⟨v,k,B,C⟩:=qv2 (mode:=mode) (y:=4*(250000*(sl*sl)+d*d)) (by omega) (by omega);obtain⟨w,w1,p,D⟩:=qvj (y:=250000*(sl*sl)+d*d) (by omega) (by omega);have x:=qtD w1 k o;have H:=k.pos;have f:=w1.pos;have a:0<=(if mode=1/\v*v<4*(250000*(sl*sl)+d*d) then v+1 else v)/\(if mode=1/\v*v<4*(250000*(sl*sl)+d*d) then v+1 else v)<=1000*3000000:=by split<;>omega
 refine⟨_,(qi3 (b:=1000) (mode:=mode) (M:=3000000) (by omega) a.1 a.2).1,⟨v,k,B,rfl⟩,?_,?_⟩
 ·rw[e1];exact Ev.bind C (Ev.bind ⟨0,fun n _=>qkM (by omega) (by omega) (by omega)⟩ .done)
 ·rw[x];unfold qjy;rw[s];refine Ev.bind D ?_;have F:w*w<=3000000000*3000000000:=jX p p f (by omega);have u:=jP f f;have t:(fun n=>qfI n w 500 mode)=fun _=>V (divI w 500 mode):=by
   funext n
   rw[qrN (m:=0),qkM (by omega) (by omega) (by omega)]
  have i:=congrFun t;simp only[wO (w*w),jF f,wO (w / 500),wO (w / 500+1),i,jd];rcases o with rfl|rfl
  ·rw[if_neg (by omega)];exact .done
  ·by_cases c:w*w<250000*(sl*sl)+d*d
   ·rw[if_pos ⟨rfl,c⟩,decide_eq_true c];exact .done
   ·rw[if_neg fun h=>c h.2,decide_eq_false c];exact .done
theorem qqb{t:qI}(h:TbOk t/\∀k,0<=at0 t.Bf k)(sl ld mode:Int):∃r:Int,0<=r/\r<=1000000/\Ev (fun n=>qda n t sl ld mode) r/\Ev (fun n=>qc7 n t sl ld mode) r:=by
 obtain⟨S,D,D0,S1,_,_,_,S0,a⟩:=qtN h.1 sl ld;obtain⟨b,r1⟩:=qi3 (mode:=mode) D0 (S0 h.2) S1;exact⟨_,b,r1,a mode⟩
theorem qs6{b:qe}{ex:List Int}{x:qt}{j net:Nat}(jl:j<(places b.Aa).length)(c:(gt (places b.Aa) j).net=(net:Int))(a:W64 (x.To.tdiv 2)=(j:Int))(n:Nat):qft n (V (viewE b ex)) x=V (net:Int):=by
 unfold qft;show(idx (places b.Aa) (W64 (x.To.tdiv 2))).bind _=_;rw[a,qz jl];exact congrArg V c
theorem quW{b:qe}{ex:List Int}(h:blockB b=true){x:qt}{i j m net a:Nat}(c:CLk b x i j m net a)(n:Nat):qgL n (V (viewE b ex)) x=V (gt (cellAt b (i:Int)).Av a):=by
 obtain⟨⟨d,c1⟩,_,_⟩:=qgP (qaz h) c.il;unfold qgL;show(idx (places b.Aa) (W64 (x.To.tdiv 2))).bind (fun f=>(idx b.Aa.Ab f.instance_).bind fun g=>(idx b.Aq.As g.Bt).bind fun k=>(idx k.Av x.Bx).bind fun l=>V l)=_;rw[c.half,qz c.jl,jd,c.inst,qz c.il,jd,qd2 d c1,jd,c.ix];show(idx (cellAt b (i:Int)).Av (a:Int)).bind _=_;rw[qz c.al];rfl
theorem qjj{b:qe}(h:blockB b=true){x:qt}{i j m net a:Nat}(c:CLk b x i j m net a):Ev (fun n=>qjE n b x) (gt (cellAt b (i:Int)).Av a,load0 b net):=by
 have d:=qaz h;have s:=qaj d;obtain⟨⟨f,c1⟩,_,_⟩:=qgP d c.il;have r:idx ((places b.Aa).map toSp) (j:Int)=V (toSp (gt (places b.Aa) j)):=by
  refine qhk ?_;rw[List.getElem?_map,jo c.jl,qd6 c.jl];rfl
 have o:=ql2 h c.nl;have p:=(qbr h c.nl).lo;have g:(toSp (gt (places b.Aa) j)).instance_=(i:Int):=c.inst;have k:(toSp (gt (places b.Aa) j)).net=(net:Int):=c.net_;have l:idx (gt b.Aq.As (gt b.Aa.Ab i).Bt.toNat).Av (a:Int)=V (gt (cellAt b (i:Int)).Av a):=qz c.al;unfold qjE;refine Ev.bind (qgF s) ?_;simp only[c.half,r,jd,g,k,qz c.il,qd2 f c1,c.ix,l];refine Ev.bind (qpo h c.nl) ?_;rw[show idx (loadsL b net) (0:Int)=V (load0 b net) from qz (j:=0) (by omega)];exact .done
theorem qkn{b:qe}(h:blockB b=true){x:qt}{j net k:Nat}(a:WLk b x j net k):Ev (fun n=>qjM n b x) (net:Int):=by
 have f:=qaj (qaz h);have d:idx ((places b.Aa).map toSp) (j:Int)=V (toSp (gt (places b.Aa) j)):=by
  refine qhk ?_;rw[List.getElem?_map,jo a.jl,qd6 a.jl];rfl
 have c:(toSp (gt (places b.Aa) j)).net=(net:Int):=a.net_;unfold qjM;refine Ev.bind (qgF f) ?_;simp only[a.half,d,jd,c];exact .done
theorem qpQ{b:qe}{c:qu}(ex:List Int)(h:blockB b=true)(L:cornerB c=true){k:Nat}(N:k<(linksL b).length){sl mode:Int}(s0:0<=sl)(s1:sl<=1000000)(X:mode=0\/mode=1) :
  (∃D:Int,Ev (fun n=>qY n b c (gt (linksL b) k) sl mode) D/\Ev (fun n=>qbc n (V (viewE b ex)) c (k:Int) sl mode) D) /\
  ∃S:Int,0<=S/\S<=1000000/\Ev (fun n=>qa4 n b (gt (linksL b) k) sl mode) S/\Ev (fun n=>qaO n (V (viewE b ex)) (k:Int) sl mode) S:=by
 have t:idx (viewE b ex).links (k:Int)=V (gt (linksL b) k):=qz N;obtain⟨d,_⟩:=qfS h (qfh N);generalize gt (linksL b) k=x at d t;rcases d with⟨i,j,m,net,a,d⟩|⟨j,net,q,d⟩
 ·have l:=qs6 (ex:=ex) d.jl d.net_ d.half;have o:=quW (ex:=ex) h d;have s:idx (viewE b ex).loads (net:Int)=V (load0 b net):=qgp (f:=load0 b) d.nl;obtain⟨f,T,A,H,F⟩:=qlD L (kind:=x.Be) (mode:=mode);have z:m<(gt (cellAt b (i:Int)).Av a).Bo.length:=by rw[d.d2];exact d.ml
  have I:m<(gt (cellAt b (i:Int)).Av a).Ba.length:=by rw[d.s2];exact d.ml
  obtain⟨r,r0,r1,rs,ri⟩:=qqb (d.dt _ (qfh z)) sl (load0 b net) mode;obtain⟨u,O,u1,K,J⟩:=qqb (d.st _ (qfh I)) sl (load0 b net) mode;obtain⟨c1,y⟩:=qiY (mode:=mode) r0 (by omega) (show 0<=f by omega) A;have g:(x.Be==1)=true:=by rw[d.kind];rfl
  refine⟨⟨divI (r*f) 1000 mode,?_,?_⟩,⟨u,O,u1,?_,?_⟩⟩
  ·unfold qY;refine Ev.tt g (Ev.bind (qjj h d) ?_);simp only[d.mod,qz z,jd,H];exact Ev.bind rs (Ev.bind ⟨0,fun n _=>c1 n⟩ .done)
  ·unfold qbc;simp only[jd,t,l,s,o,d.mod,qz z,F];exact Ev.tt g (Ev.bind ri (Ev.bind ⟨0,fun n _=>y n⟩ .done))
  ·unfold qa4;refine Ev.tt g (Ev.bind (qjj h d) ?_);simp only[d.mod,qz I,jd];exact Ev.bind K .done
  ·unfold qaO;simp only[jd,t,l,s,o,d.mod,qz I];refine Ev.tt g (Ev.bind J (Ev.now ?_));rw[if_neg (by omega)]
 ·have l:=qs6 (ex:=ex) d.jl d.net_ d.half;have p:idx (viewE b ex).delays (net:Int)=V (exactL b net):=qgp (f:=exactL b) d.nl;have B:(exactL b net).length=(gt b.Af net).Bk.length:=by unfold exactL;rw[jr]
  have v:q<(exactL b net).length:=by rw[B];exact d.kl
  obtain⟨P,x1⟩:=qkH h d.nl d.kl;obtain⟨f,T,A,H,F⟩:=qlD L (kind:=x.Be) (mode:=mode);have Q:=fun n=>qkM (n:=n) (a:=gt (exactL b net) q) (b:=1000) (mode:=mode) (by omega) (by omega) (by omega);obtain⟨e,p1⟩:=qi3 (a:=gt (exactL b net) q) (b:=1000) (mode:=mode) (M:=344000) (by omega) P (by omega);obtain⟨c1,y⟩:=qiY (mode:=mode) e (by omega) (show 0<=f by omega) A;have g:(x.Be==1)=false:=by rw[d.kind];rfl
  have hi:idx ((exactL b net).map fun x=>divI x 1000 mode) (q:Int)=V (divI (gt (exactL b net) q) 1000 mode):=by
   rw[qz (by rw[jr];exact v),qmH v]
  obtain⟨u,O,_,K,J⟩:=qqY s0 s1 P x1 X;refine⟨⟨divI (divI (gt (exactL b net) q) 1000 mode*f) 1000 mode,?_,?_⟩,⟨if u<1000000 then u else 1000000,by split<;>omega,by split<;>omega,?_,?_⟩⟩
  ·unfold qY;refine Ev.ff g (Ev.bind (qkn h d) (Ev.bind (qhG h d.nl) ?_));simp only[d.ix,hi,jd,H];exact Ev.bind ⟨0,fun n _=>c1 n⟩ .done
  ·unfold qbc;simp only[jd,t,l,p,d.ix,qz v,F];refine Ev.ff g (Ev.bind (b:=divI (gt (exactL b net) q) 1000 mode) ⟨0,fun n _=>(qrN (m:=0)).trans (Q 0)⟩ (Ev.bind ⟨0,fun n _=>y n⟩ .done))
  ·have Y:=qbr h d.nl;have C:=Y.sin q d.kl;have W:=qk9 h d.nl;have R:gt (exactL b net) q=gt (delaysL b net) (at0 (gt b.Af net).Bk q).toNat:=by
    unfold exactL;rw[qd6 (by rw[jr];exact d.kl),List.getElem_map,qjR d.kl]
   unfold qa4 qkg;refine Ev.ff g (Ev.bind (qkn h d) ?_);simp only[d.ix,qz d.nl,jd,qai d.kl];refine Ev.bind (b:=u) (Ev.bind (qmj h d.nl) ?_) .done;rw[qd2 C.1 (show at0 (gt b.Af net).Bk q<((delaysL b net).length:Int) by omega)];simp only[jd];rw[<-R];exact K
  ·unfold qaO;simp only[jd,t,l,p,d.ix,qz v];refine Ev.ff g (Ev.bind J (Ev.now ?_))
   congr 1
   split<;>split<;>omega
theorem qia{b:qe}{c:qu}(h:blockB b=true)(g:cornerB c=true){k:Nat}(i:k<(linksL b).length){sl mode:Int}(s0:0<=sl)(s1:sl<=1000000)(l:mode=0\/mode=1) :
  (∃D:Int,Ev (fun n=>qY n b c (gt (linksL b) k) sl mode) D/\∀ex,Ev (fun n=>qbc n (V (viewE b ex)) c (k:Int) sl mode) D) /\
  ∃S:Int,0<=S/\S<=1000000/\Ev (fun n=>qa4 n b (gt (linksL b) k) sl mode) S/\∀ex,Ev (fun n=>qaO n (V (viewE b ex)) (k:Int) sl mode) S:=by
 obtain⟨⟨D,m,_⟩,⟨S,a,c',d,_⟩⟩:=qpQ [] h g i s0 s1 l;refine⟨⟨D,m,fun ex=>?_⟩,⟨S,a,c',d,fun ex=>?_⟩⟩
 ·obtain⟨⟨D',e1,f⟩,_⟩:=qpQ ex h g i s0 s1 l;rw[m.uniq e1];exact f
 ·obtain⟨_,⟨S',_,_,e1,f⟩⟩:=qpQ ex h g i s0 s1 l;rw[d.uniq e1];exact f

def slR(s:qf):Prop:=(0<=s.Ar/\s.Ar<=1000000)/\(0<=s.Bd/\s.Bd<=1000000)
def SpansS(b:qe)(c:qu)(f:Nat->qf->qf×qf):Prop:=∀k s,k<(linksL b).length->slR s->slR (f k s).2/\Ev (fun n=>qeK n b c (gt (linksL b) k) s) (f k s)
def SpansI(b:qe)(c:qu)(ex:List Int)(f:Nat->qf->qf×qf):Prop:=∀k s,k<(linksL b).length->slR s->slR (f k s).2/\Ev (fun n=>qfk n (V (viewE b ex)) c (k:Int) s) (f k s)
def exK(b:qe)(ex:List Int)(k:Nat):Int:=bif (gt (linksL b) k).Be==2 then gt ex (gt (places b.Aa) ((gt (linksL b) k).To / 2).toNat).net.toNat else 0
def wideS(e:Int)(s:qf):qf:=⟨W64 (s.Ar-e),W64 (s.Bd+e)⟩
def wideF(b:qe)(ex:List Int)(f:Nat->qf->qf×qf)(k:Nat)(s:qf):qf×qf:=bif decide (0<ex.length)&&((gt (linksL b) k).Be==2) then(wideS (exK b ex k) (f k s).1,(f k s).2) else f k s
theorem qsI{b:qe}{c:qu}(h:blockB b=true)(D:cornerB c=true):∃f,SpansS b c f/\∀ex:List Int,ex.length=0\/ex.length=b.Af.length->SpansI b c ex (wideF b ex f):=by
 have C:∀x:Nat×qf,∃r:qf×qf,x.1<(linksL b).length->slR x.2->slR r.2/\Ev (fun n=>qeK n b c (gt (linksL b) x.1) x.2) r/\∀ex:List Int,ex.length=0\/ex.length=b.Af.length->Ev (fun n=>qfk n (V (viewE b ex)) c (x.1:Int) x.2) (wideF b ex (fun _ _=>r) x.1 x.2):=by
  rintro⟨k,s⟩;by_cases d:k<(linksL b).length/\slR s
  ·obtain⟨d,⟨e0,e1⟩,⟨l0,l1⟩⟩:=d;obtain⟨⟨l,p1,Y⟩,⟨t,a1,b1,v1,w1⟩⟩:=qia h D d e0 e1 (mode:=0) (.inl Z);obtain⟨⟨d2,T,e⟩,⟨u,a2,b2,v2,w2⟩⟩:=qia h D d e0 e1 (mode:=1) (.inr Z);obtain⟨⟨o,W,q3⟩,⟨v,a3,b3,v3,w3⟩⟩:=qia h D d l0 l1 (mode:=0) (.inl Z);obtain⟨⟨p,X,q4⟩,⟨y,a4,b4,v4,w4⟩⟩:=qia h D d l0 l1 (mode:=1) (.inr Z);refine⟨(⟨if o<l then o else l,if p > d2 then p else d2⟩,⟨if v<t then v else t,if y > u then y else u⟩),fun _ _=>⟨⟨?_,?_⟩,?_,fun ex B=>?_⟩⟩
   ·show 0<=(if v<t then v else t)/\(if v<t then v else t)<=1000000;split<;>omega
   ·show 0<=(if y > u then y else u)/\(if y > u then y else u)<=1000000;split<;>omega
   ·unfold qeK;exact Ev.bind p1 (Ev.bind T (Ev.bind v1 (Ev.bind v2 (Ev.bind W (Ev.bind X (Ev.bind v3 (Ev.bind v4 .done)))))))
   ·unfold qfk;refine Ev.bind (Y ex) (Ev.bind (q3 ex) (Ev.bind (e ex) (Ev.bind (q4 ex) ?_)));have S:idx (viewE b ex).links (k:Int)=V (gt (linksL b) k):=qz d;have g:(viewE b ex).extras=ex:=rfl;simp only[jd,S,g];unfold wideF;have fin:∀r:Int×Int,Ev (fun n=>(qaO n (V (viewE b ex)) (k:Int) s.Ar 0).bind fun J=>(qaO n (V (viewE b ex)) (k:Int) s.Bd 0).bind fun K=>(qaO n (V (viewE b ex)) (k:Int) s.Ar 1).bind fun L=>(qaO n (V (viewE b ex)) (k:Int) s.Bd 1).bind fun M=>
      V ((⟨r.1,r.2⟩:qf),(⟨if K<J then K else J,if M > L then M else L⟩:qf))) ((⟨r.1,r.2⟩:qf),(⟨if v<t then v else t,if y > u then y else u⟩:qf)):=fun r=>Ev.bind (w1 ex) (Ev.bind (w3 ex) (Ev.bind (w2 ex) (Ev.bind (w4 ex) .done)))
    rw[show decide ((ex.length:Int) > 0)=decide (0<ex.length) by rw[decide_eq_decide];omega];cases hl:decide (0<ex.length)
    ·exact Ev.bind (b:=false) (Ev.now Z) (Ev.bind (b:=(if o<l then o else l,if p > d2 then p else d2)) (Ev.now Z) (fin _))
    ·cases hkd:(gt (linksL b) k).Be==2
     ·exact Ev.bind (b:=false) (Ev.now Z) (Ev.bind (b:=(if o<l then o else l,if p > d2 then p else d2)) (Ev.now Z) (fin _))
     ·obtain⟨H,_⟩:=qfS h (qfh d);rcases H with⟨i,j,m,net,a,g⟩|⟨j,net,q,g⟩
      ·rw[g.kind] at hkd;cases hkd
      ·have Q:=qs6 (ex:=ex) g.jl g.net_ g.half;have I:net<ex.length:=by
        have:=of_decide_eq_true hl;have:=g.nl;omega
       have P:=(qfS h (qfh d)).2.2;have R:=qaU (qaj (qaz h));have O:((gt (linksL b) k).To / 2).toNat=j:=by
        have:=g.half;rw[jF P.1,qN (by omega) (by omega)] at this;omega
       have N:exK b ex k=gt ex net:=by
        unfold exK;rw[hkd,O,g.net_,jp]
        rfl
       refine Ev.bind (b:=true) (Ev.now Z) (Ev.bind (b:=(W64 ((if o<l then o else l)-gt ex net),W64 ((if p > d2 then p else d2)+gt ex net))) ?_ ?_)
       ·simp only[Q,jd,qz I];exact .done
       ·rw[N];exact fin _
  ·exact⟨(s,s),fun z A=>absurd ⟨z,A⟩ d⟩
 obtain⟨f,F⟩:=Classical.axiomOfChoice C;exact⟨fun k s=>f (k,s),fun k s z A=>⟨(F (k,s) z A).1,(F (k,s) z A).2.1⟩,fun ex B k s z A=>⟨by
  have:=(F (k,s) z A).1;unfold wideF;cases decide (0<ex.length)&&((gt (linksL b) k).Be==2)<;>exact this,(F (k,s) z A).2.2 ex B⟩⟩
theorem qrm{b:qe}{f:Nat->qf->qf×qf}:wideF b [] f=f:=rfl
def zSp:qf:=⟨0,0⟩
def zSrc:qi:=⟨0,zSp,zSp⟩
def hullS(s t:qf):qf:=⟨if t.Ar<s.Ar then t.Ar else s.Ar,if t.Bd > s.Bd then t.Bd else s.Bd⟩
theorem qq1{s t:qf}:(⟨if s.Ar<t.Ar then s.Ar else t.Ar,if s.Bd > t.Bd then s.Bd else t.Bd⟩:qf)=hullS s t:=by
 unfold hullS
 congr 1
 ·split<;>split<;>omega
 ·split<;>split<;>omega
def plusS(s t:qf):qf:=⟨W64 (s.Ar+t.Ar),W64 (s.Bd+t.Bd)⟩
def joinS(node:Int)(s:Bool×qi)(ar sl:qf):Bool×qi:=bif s.1 then(true,⟨node,hullS s.2.Ah ar,hullS s.2.Ba sl⟩) else(true,⟨node,ar,sl⟩)
def frN(ls:List qt)(k:Nat):Nat:=(gt ls k).Bl.toNat
def stepS(f:Nat->qf->qf×qf)(ls:List qt)(t:qx)(node:Int)(s:Bool×qi)(k:Nat):Bool×qi:=
 bif gt t.Az (frN ls k) then joinS node s (plusS (gt t.Ah (frN ls k)) (f k (gt t.Ba (frN ls k))).1) (f k (gt t.Ba (frN ls k))).2 else s
def toQ(ls:List qt)(lv:List Bool)(node:Int)(k:Nat):Bool:=lvL lv k&&(toL ls k==node)
def srcO(xs:List qi)(node:Int):Option qi:=xs.find? fun s=>s.Bm==node
def srcV(o:Option qi):Bool×qi:=match o with|some y=>(true,y)|none=>(false,zSrc)
def ndS(f:Nat->qf->qf×qf)(ls:List qt)(lv:List Bool)(t:qx)(node:Int)(s0:Bool×qi):Nat->Bool×qi
 |0=>s0
 |k+1=>bif toQ ls lv node k then stepS f ls t node (ndS f ls lv t node s0 k) k else ndS f ls lv t node s0 k
theorem qu2{f:Nat->qf->qf×qf}{ls:List qt}{lv:List Bool}{t:qx}{node:Int}{s0:Bool×qi}{j:Nat}:(selN (toQ ls lv node) j).foldl (stepS f ls t node) s0=ndS f ls lv t node s0 j:=by
 induction j with
 |zero=>rfl
 |succ j ih=>
  rw[qlE,List.foldl_append,ih];show _=bif toQ ls lv node j then stepS f ls t node (ndS f ls lv t node s0 j) j else ndS f ls lv t node s0 j;cases toQ ls lv node j<;>rfl
structure TmOk(t:qx)(M:Nat):Prop where
 r:t.Az.length=M
 a:t.Ah.length=M
 s:t.Ba.length=M
 sl:∀k,k<M->slR (gt t.Ba k)
structure SrcOk(xs:List qi):Prop where
 len:xs.length<=1048576
 inc:∀j i,i<j->j<xs.length->(gt xs i).Bm<(gt xs j).Bm
 sl:∀x,x∈xs->slR x.Ba
theorem qoc{xs:List qi}{node:Int}(g:xs.length<=1048576):Ev (fun n=>qcW n xs node) ((srcV (srcO xs node)).2,(srcV (srcO xs node)).1):=by
 have c:Ev (fun n=>qaT n xs node) (ixL (fun s=>s.Bm==node) xs):=
  qge (fin:=(xs.length:Int)) (Lf:=qab xs node) (xs:=xs) (pf:=fun n x=>qjX n x node) (fun _ _=>.done)
   (fun n=>by simp only[qab,qp (jf _),cond_false])
   (fun n j x b=>by
    have a:=(List.getElem?_eq_some_iff.1 b).1;simp only[qab,qn a,cond_true,qhk b,jd,wS j])
   (fun n=>by unfold qaT;congr 1;funext o;cases o<;>rfl)
 unfold qcW;refine Ev.bind c ?_;unfold ixL srcO;cases hf:xs.findIdx? (fun s=>s.Bm==node) with
 |none=>
  have:xs.find? (fun s=>s.Bm==node)=U:=by
   rw[List.find?_eq_none];intro x b;have:=List.findIdx?_eq_none_iff.1 hf x b;simpa using this
  rw[this];exact Ev.ff Z .done
 |some j=>
  obtain⟨a,f,d⟩:=List.findIdx?_eq_some_iff_getElem.1 hf;have:xs.find? (fun s=>s.Bm==node)=V xs[j]:=by
   rw[List.find?_eq_some_iff_getElem];exact⟨f,j,a,rfl,fun i hi=>by have:=d i hi;simpa using this⟩
  rw[this];refine Ev.tt (show decide ((j:Int)>=0)=true from decide_eq_true (by omega)) ?_;show Ev (fun n=>(idx xs (j:Int)).bind _) _;rw[qa1 a];exact .done
theorem qkl{xs:List qi}{node:Int}{y:qi}(h:srcO xs node=V y):y.Bm=node/\y∈xs:=by
 have a:=List.find?_some h;exact⟨by simpa using a,List.mem_of_find?_eq_some h⟩
theorem qwC{xs:List qi}{node:Int}(h:SrcOk xs) :
  Ev (fun n=>qdy xs node n 0 0 0 0 0 false 0) ((srcV (srcO xs node)).2.Bm,(srcV (srcO xs node)).2.Ah.Ar,(srcV (srcO xs node)).2.Ah.Bd,(srcV (srcO xs node)).2.Ba.Ar,(srcV (srcO xs node)).2.Ba.Bd,(srcV (srcO xs node)).1,(xs.length:Int)):=by
 have g:=h.len;have:=loopF (τ:=Bool×qi) (Lf:=fun n s j=>qdy xs node n s.2.Bm s.2.Ah.Ar s.2.Ah.Bd s.2.Ba.Ar s.2.Ba.Bd s.1 j) (S:=fun j=>srcV (srcO (xs.take j) node)) (len:=xs.length)
  (fin:=((srcV (srcO xs node)).2.Bm,(srcV (srcO xs node)).2.Ah.Ar,(srcV (srcO xs node)).2.Ah.Bd,(srcV (srcO xs node)).2.Ba.Ar,(srcV (srcO xs node)).2.Ba.Bd,(srcV (srcO xs node)).1,(xs.length:Int)))
  (fun n=>by simp only[qdy,qp (jf _),cond_false,jN])
  (fun j a X c=>by
   simp only[qdy,qn a,cond_true,qz a,jd,wS j];have e:srcO (xs.take (j+1)) node=(srcO (xs.take j) node).or (bif (gt xs j).Bm==node then V (gt xs j) else U):=by
    unfold srcO;rw[jz a,List.find?_append,<-qd6 a]
    congr 1
   cases hq:(gt xs j).Bm==node
   ·rw[hq] at e;have e:srcO (xs.take (j+1)) node=srcO (xs.take j) node:=by rw[e];cases srcO (xs.take j) node<;>rfl
    rw[e] at c;exact c
   ·rw[hq] at e;have d:srcO (xs.take j) node=U:=by
     unfold srcO;rw[List.find?_eq_none];intro x f b;obtain⟨i,hi,rfl⟩:=List.mem_iff_getElem.1 f;rw[jZ] at hi;rw[List.getElem_take,<-qd6 (by omega)] at b;have:=h.inc j i (by omega) a;simp only[beq_iff_eq] at hq b;omega
    have e:srcO (xs.take (j+1)) node=V (gt xs j):=by rw[e,d];rfl
    rw[e] at c;exact c)
 exact this
theorem qnW{ls:List qt}{M:Nat}(h:LkOk ls M){k:Nat}(a:k<ls.length):(gt ls k).Bl=(frN ls k:Int)/\frN ls k<M:=by
 have b:=h.fr0 k a;have c:=h.fr1 k a;unfold frN;omega
section
variable{b:qe}{c:qu}{ex:List Int}{f:Nat->qf->qf×qf}{lv:List Bool}{t:qx}{xs:List qi}{node:Int}
theorem qvm(h:blockB b=true)(o:SpansS b c f)(u:lv.length=(linksL b).length)(i:TmOk t (2*(places b.Aa).length))(r:SrcOk xs) :
  Ev (fun n=>qiI n b c (linksL b) lv xs t node) (ndS f (linksL b) lv t node (srcV (srcO xs node)) (linksL b).length):=by
 have k:=qhB h;have p:=k.len;have m:=loopF (τ:=Bool×qi) (Lf:=fun n s j=>qds b c (linksL b) lv t node n s.2.Bm s.2.Ah.Ar s.2.Ah.Bd s.2.Ba.Ar s.2.Ba.Bd s.1 j) (S:=fun j=>ndS f (linksL b) lv t node (srcV (srcO xs node)) j) (len:=(linksL b).length)
  (fin:=(fun s:Bool×qi=>(s.2.Bm,s.2.Ah.Ar,s.2.Ah.Bd,s.2.Ba.Ar,s.2.Ba.Bd,s.1,((linksL b).length:Int))) (ndS f (linksL b) lv t node (srcV (srcO xs node)) (linksL b).length))
  (fun n=>by simp only[qds,qp (jf _),cond_false])
  (fun j g X a=>by
   obtain⟨e1,d⟩:=qnW k g;have l:ndS f (linksL b) lv t node (srcV (srcO xs node)) (j+1)=bif toQ (linksL b) lv node j then stepS f (linksL b) t node (ndS f (linksL b) lv t node (srcV (srcO xs node)) j) j else ndS f (linksL b) lv t node (srcV (srcO xs node)) j:=rfl;rw[l] at a;generalize ndS f (linksL b) lv t node (srcV (srcO xs node)) j=s at a⊢;simp only[qds,qn g,cond_true,qz g,qz (show j<lv.length by omega),jd,e1,qz (show frN (linksL b) j<t.Az.length by rw[i.r];exact d),qz (show frN (linksL b) j<t.Ah.length by rw[i.a];exact d),qz (show frN (linksL b) j<t.Ba.length by rw[i.s];exact d),wS j];unfold toQ lvL toL at a;cases h1:gt lv j
   ·rw[h1] at a;exact a
   rw[h1,jB] at a;cases h2:(gt (linksL b) j).To==node
   ·rw[h2] at a;simp only[bne,h2];exact a
   rw[h2] at a;simp only[bne,h2];unfold stepS at a;cases h3:gt t.Az (frN (linksL b) j)
   ·rw[h3] at a;exact a
   rw[h3] at a;simp only[cond_true] at a;obtain⟨_,s1⟩:=o j _ g (i.sl _ d);refine Ev.bind (b:=false) (Ev.now Z) (Ev.ff Z (Ev.bind s1 ?_));generalize f j (gt t.Ba (frN (linksL b) j))=q at a⊢;unfold joinS at a;cases h4:s.1
   ·rw[h4] at a;exact a
   ·rw[h4] at a;simp only[qj4,jd,cond_true];have a1:=qq1 (s:=s.2.Ah) (t:=plusS (gt t.Ah (frN (linksL b) j)) q.1);have a2:=qq1 (s:=s.2.Ba) (t:=q.2);simp only[cond_true] at a;rw[<-a1,<-a2] at a;exact a)
 unfold qiI;exact Ev.bind (qwC r) (Ev.bind m .done)
theorem qxB{ls:List qt}{M:Nat}{ps:List Tplace}{lo:List Int}{de:List (List Int)}{ex:List Int}(h:LkOk ls M)(k:lv.length=ls.length):Ev (fun n=>qjq n (grV ls lv ps b lo de ex) node) (ints (selN (toQ ls lv node) ls.length)):=by
 have g:=h.len;have f:Ev (fun n=>qU node ⟨V ⟨b,ps,ls,lo,de,ex⟩,lv⟩ ⟨b,ps,ls,lo,de,ex⟩ n ([]:List Int) 0) (ints (selN (toQ ls lv node) ls.length),(ls.length:Int)):=by
  refine qpg (q:=toQ ls lv node) (Lf:=qU node ⟨V ⟨b,ps,ls,lo,de,ex⟩,lv⟩ ⟨b,ps,ls,lo,de,ex⟩) (len:=ls.length) (by omega) (Ev.succ ?_) (fun j d t i X c a=>?_)
  ·simp only[qU,qp (jf _),cond_false];exact .done
  ·simp only[qU,qn d,cond_true,qz d,qz (show j<lv.length by omega),jd,qjY,i,wS j];unfold toQ lvL toL at c a;cases hq:gt lv j
   ·simp only[cond_false];exact a (by rw[hq];rfl)
   ·simp only[cond_true];cases hw:(gt ls j).To==node
    ·simp only[cond_false];exact a (by rw[hq,hw];rfl)
    ·simp only[cond_true];exact c (by rw[hq,hw];rfl)
 unfold qjq qcV grV;simp only[jd];exact Ev.bind (Ev.bind f .done) .done
def fixS(node:Int)(s:Bool×qi):Bool×qi:=bif s.1 then s else(false,⟨node,zSp,zSp⟩)
theorem qvJ(h:blockB b=true)(H:SpansI b c ex f)(J:lv.length=(linksL b).length)(u:TmOk t (2*(places b.Aa).length))(N:xs.length<=1048576) :
  Ev (fun n=>qd1 n (V ⟨V (viewE b ex),lv⟩) c xs t node) (ndS f (linksL b) lv t node (srcV (srcO xs node)) (linksL b).length):=by
 have x:=qhB h;have I:=x.len;have C:=qlI (q:=toQ (linksL b) lv node) (j:=(linksL b).length);have K:∀j,(ndS f (linksL b) lv t node (srcV (srcO xs node)) j).1=true->(ndS f (linksL b) lv t node (srcV (srcO xs node)) j).2.Bm=node:=by
  intro j
  induction j with
  |zero=>
   show(srcV (srcO xs node)).1=true->(srcV (srcO xs node)).2.Bm=node;cases d:srcO xs node with
   |none=>intro e;cases e
   |some y=>exact fun _=>(qkl d).1
  |succ j ih=>
   unfold ndS;cases toQ (linksL b) lv node j
   ·exact ih
   ·simp only[cond_true];unfold stepS;cases gt t.Az (frN (linksL b) j)
    ·exact ih
    ·simp only[cond_true];unfold joinS;cases (ndS f (linksL b) lv t node (srcV (srcO xs node)) j).1<;>exact fun _=>rfl
 have O:∀j,(ndS f (linksL b) lv t node (srcV (srcO xs node)) j).1=false->(ndS f (linksL b) lv t node (srcV (srcO xs node)) j).2=zSrc:=by
  intro j
  induction j with
  |zero=>
   show(srcV (srcO xs node)).1=false->(srcV (srcO xs node)).2=zSrc;cases srcO xs node with
   |none=>exact fun _=>rfl
   |some y=>intro e;cases e
  |succ j ih=>
   unfold ndS;cases toQ (linksL b) lv node j
   ·exact ih
   ·simp only[cond_true];unfold stepS;cases gt t.Az (frN (linksL b) j)
    ·exact ih
    ·simp only[cond_true];unfold joinS;cases (ndS f (linksL b) lv t node (srcV (srcO xs node)) j).1<;>(intro e;cases e)
 have D:∀(l:List Nat) (s:Bool×qi),(∀k,k∈l->toQ (linksL b) lv node k=true)->l.foldl (fun s k=>fixS node (stepS f (linksL b) t node s k)) (fixS node s)=fixS node (l.foldl (stepS f (linksL b) t node) s):=by
  intro l
  induction l with
  |nil=>intro s _;rfl
  |cons k l ih=>
   intro s L;have e:fixS node (stepS f (linksL b) t node (fixS node s) k)=fixS node (stepS f (linksL b) t node s k):=by
    unfold stepS;obtain⟨s1,s2⟩:=s;cases gt t.Az (frN (linksL b) k)<;>cases s1<;>rfl
   rw[List.foldl_cons,List.foldl_cons,e];exact ih _ fun P g=>L P (jt _ g)
 have B:=(qub (τ:=Bool×qi) (xs:=selN (toQ (linksL b) lv node) (linksL b).length) (Lf:=fun n s j=>qbx (V ⟨V (viewE b ex),lv⟩) c t (ints (selN (toQ (linksL b) lv node) (linksL b).length)) n s.1 s.2.Bm s.2.Ah.Ar s.2.Ah.Bd s.2.Ba.Ar s.2.Ba.Bd j)
  (step:=fun s k=>fixS node (stepS f (linksL b) t node s k)) (fin:=fun s=>(s.1,s.2.Bm,s.2.Ah.Ar,s.2.Ah.Bd,s.2.Ba.Ar,s.2.Ba.Bd,((ints (selN (toQ (linksL b) lv node) (linksL b).length)).length:Int))) (fixS node (srcV (srcO xs node))) (fun _ s=>s=fixS node s/\s.2.Bm=node) (by
   constructor
   ·unfold fixS;cases d:(srcV (srcO xs node)).1
    ·rfl
    ·simp only[d,cond_true]
   ·unfold fixS;cases d:srcO xs node with
    |none=>rfl
    |some y=>exact(qkl d).1)
  (fun j s p d=>by
   obtain⟨Q,F⟩:=d;have A:(stepS f (linksL b) t node s (selN (toQ (linksL b) lv node) (linksL b).length)[j]).2.Bm=node:=by
    unfold stepS;cases gt t.Az (frN (linksL b) (selN (toQ (linksL b) lv node) (linksL b).length)[j])
    ·exact F
    ·unfold joinS;cases s.1<;>rfl
   constructor
   ·unfold fixS;cases d:(stepS f (linksL b) t node s (selN (toQ (linksL b) lv node) (linksL b).length)[j]).1
    ·rfl
    ·simp only[d,cond_true]
   ·unfold fixS;cases d:(stepS f (linksL b) t node s (selN (toQ (linksL b) lv node) (linksL b).length)[j]).1
    ·rfl
    ·exact A)
  (fun n s=>by simp only[qbx,qc6,qp (jf _),cond_false])
  (fun j s p d X a=>by
   obtain⟨v,i⟩:=d;have hi:=qn8 p;have r:(selN (toQ (linksL b) lv node) (linksL b).length)[j]<(linksL b).length:=(qlp.1 (jn p)).1;generalize (selN (toQ (linksL b) lv node) (linksL b).length)[j]=k at hi r a;obtain⟨e1,m⟩:=qnW x r;have M:idx (viewE b ex).links (k:Int)=V (gt (linksL b) k):=qz r;simp only[qbx,qc6,qn p,cond_true,hi,M,jd,e1,qz (show frN (linksL b) k<t.Az.length by rw[u.r];exact m),qz (show frN (linksL b) k<t.Ah.length by rw[u.a];exact m),qz (show frN (linksL b) k<t.Ba.length by rw[u.s];exact m),wS j];unfold stepS at a;cases h3:gt t.Az (frN (linksL b) k)
   ·rw[h3] at a;simp only[cond_false] at a;rw[<-v] at a;exact a
   rw[h3] at a;simp only[cond_true] at a⊢;obtain⟨_,s1⟩:=H k _ r (u.sl _ m);refine Ev.bind s1 ?_;generalize f k (gt t.Ba (frN (linksL b) k))=q at a⊢;simp only[qhd,jd];unfold joinS at a;unfold qgm;cases h4:s.1
   ·rw[h4] at a;simp only[Bool.not_false,cond_true,jd];unfold fixS at a;simp only[cond_false,cond_true] at a;rw[i];exact a
   ·rw[h4] at a;simp only[Jj,cond_false,qiG,jd];unfold fixS at a;simp only[cond_true] at a;rw[i];exact a)).1
 rw[D _ _ (fun k g=>(qlp.1 g).2),qu2] at B;unfold qd1;refine Ev.bind (qoc N) ?_;have e0:(bif (srcV (srcO xs node)).1 then(qgm 0 ⟨node,⟨0,0⟩,⟨0,0⟩⟩ false ⟨(srcV (srcO xs node)).2.Ah.Ar,(srcV (srcO xs node)).2.Ah.Bd⟩ ⟨(srcV (srcO xs node)).2.Ba.Ar,(srcV (srcO xs node)).2.Ba.Bd⟩).bind (fun(x9,x10)=>V (x10,x9.Bm,x9.Ah.Ar,x9.Ah.Bd,x9.Ba.Ar,x9.Ba.Bd)) else V (false,node,(0:Int),(0:Int),(0:Int),(0:Int))) =
   V ((fixS node (srcV (srcO xs node))).1,(fixS node (srcV (srcO xs node))).2.Bm,(fixS node (srcV (srcO xs node))).2.Ah.Ar,(fixS node (srcV (srcO xs node))).2.Ah.Bd,(fixS node (srcV (srcO xs node))).2.Ba.Ar,(fixS node (srcV (srcO xs node))).2.Ba.Bd):=by
  cases d:srcO xs node with
  |none=>rfl
  |some y=>
   have:=(qkl d).1;unfold fixS srcV;simp only[cond_true,this]
   rfl
 refine Ev.bindN e0 (Ev.bind (qxB (ps:=places b.Aa) (lo:=pre (load0 b) b.Af.length) (de:=pre (exactL b) b.Af.length) (ex:=ex) x J) (Ev.bind B ?_));have z:=O (linksL b).length;generalize ndS f (linksL b) lv t node (srcV (srcO xs node)) (linksL b).length=s at z⊢;unfold fixS;obtain⟨s1,s2⟩:=s;cases s1
 ·have:=z Z;simp only at this;subst this;exact .done
 ·exact .done
end

theorem qld{b:qe}(h:blockB b=true):Ev (fun n=>qcz n b) ((2*(places b.Aa).length:Nat):Int):=by
 have a:=qaj (qaz h);have c:=qaU a;unfold qcz;refine Ev.bind (b:=(places b.Aa).map toSp) (qgF a) (Ev.now ?_);rw[jr,qN (by omega) (by omega)]
 rfl
theorem qow{v:Tview}(a:v.places.length<=78)(n:Nat):qcC n (V v)=V ((2*v.places.length:Nat):Int):=by
 unfold qcC qeA;simp only[jd];rw[qN (by omega) (by omega)]
 rfl
def stepN(xs:List qi)(j:Nat):Bool:=decide (j=0) || decide ((gt xs (j-1)).Bm<(gt xs j).Bm)
def srcB(xs:List qi)(M:Nat):Bool:=allN (fun j=>inI (gt xs j).Bm 0 ((M:Int)-1)&&(stepN xs j&&(spanB (gt xs j).Ah&&slewB (gt xs j).Ba))) xs.length
theorem qqG{xs:List qi}{j:Nat}(h:j≠0):stepN xs j=decide ((gt xs (j-1)).Bm<(gt xs j).Bm):=by unfold stepN;rw[decide_eq_false h,Bool.false_or]
theorem qqS{b:qe}{xs:List qi}(h:blockB b=true)(m:xs.length<=1048576):Ev (fun n=>qgK n b xs) (srcB xs (2*(places b.Aa).length)):=by
 have k:=qaU (qaj (qaz h));have e:=qld h;obtain⟨M,g⟩:∃M,M=2*(places b.Aa).length:=⟨_,rfl⟩;rw[<-g] at e⊢;have l:M<=156:=by omega
 have i:Ev (fun n=>qcc xs (M:Int) n 0) (bif srcB xs M then .nxt (xs.length:Int) else .ret false):=by
  refine qeG (Lf:=qcc xs (M:Int)) (len:=xs.length) (Ev.succ (by simp only[qcc,qp (jf _),cond_false];exact .done)) (fun j f X d=>Ev.succ ?_);simp only[qcc,qn f,cond_true,qz f,jd,qcY,qqB,qsw,wS j,wO ((M:Int)-1)];cases inI (gt xs j).Bm 0 ((M:Int)-1)
  ·exact .done
  refine Ev.ff Z ?_;by_cases c:j=0
  ·subst c;refine Ev.ff Z ?_;show Ev _ (bif (stepN xs 0&&_) then X else _);rw[show stepN xs 0=true from rfl];show Ev (fun n=>bif !spanB (gt xs 0).Ah then _ else bif !slewB (gt xs 0).Ba then _ else _) _;cases spanB (gt xs 0).Ah
   ·exact .done
   ·cases slewB (gt xs 0).Ba
    ·exact .done
    ·exact d
  ·refine Ev.tt (decide_eq_true (by omega)) ?_;rw[show(j:Int)-1=((j-1:Nat):Int) by omega,qN (by omega) (by omega),qz (show j-1<xs.length by omega),qqG c];simp only[jd];by_cases a:(gt xs (j-1)).Bm<(gt xs j).Bm
   ·rw[decide_eq_true a];refine Ev.ff (decide_eq_false (by omega)) ?_;show Ev (fun n=>bif !spanB (gt xs j).Ah then _ else bif !slewB (gt xs j).Ba then _ else _) _;cases spanB (gt xs j).Ah
    ·exact .done
    ·cases slewB (gt xs j).Ba
     ·exact .done
     ·exact d
   ·rw[decide_eq_false a];exact Ev.tt (decide_eq_true (by omega)) .done
 unfold qgK;refine Ev.bind e (Ev.bind i ?_);cases srcB xs M<;>exact .done
theorem qqO{v:Tview}{xs:List qi}(h:v.places.length<=78)(k:xs.length<=1048576):Ev (fun n=>qd7 n (V v) xs) (srcB xs (2*v.places.length)):=by
 have e:=qow h;obtain⟨M,f⟩:∃M,M=2*v.places.length:=⟨_,rfl⟩;rw[<-f] at e⊢;have i:M<=156:=by omega
 have g:Ev (fun n=>qa5 (V v) xs n 0) (bif srcB xs M then .nxt (xs.length:Int) else .ret false):=by
  refine qeG (Lf:=qa5 (V v) xs) (len:=xs.length) (Ev.succ (by simp only[qa5,qp (jf _),cond_false];exact .done)) (fun j d X c=>Ev.succ ?_);simp only[qa5,qn d,cond_true,qz d,jd,qjp,e,qdd,qpe,qso,wS j,wO ((M:Int)-1)];cases inI (gt xs j).Bm 0 ((M:Int)-1)
  ·exact .done
  refine Ev.ff Z ?_;show Ev (fun n=>bif !spanB (gt xs j).Ah then _ else bif !slewB (gt xs j).Ba then _ else _) _;rw[jB,Bool.and_comm];cases spanB (gt xs j).Ah
  ·exact .done
  ·cases slewB (gt xs j).Ba
   ·exact .done
   ·refine Ev.ff Z (Ev.ff Z ?_);rw[jB,jB];by_cases b:j=0
    ·subst b;exact Ev.ff Z c
    ·refine Ev.tt (decide_eq_true (by omega)) ?_;rw[show(j:Int)-1=((j-1:Nat):Int) by omega,qN (by omega) (by omega),qz (show j-1<xs.length by omega),qqG b];simp only[jd];by_cases a:(gt xs (j-1)).Bm<(gt xs j).Bm
     ·rw[decide_eq_true a];exact Ev.ff (decide_eq_false (by omega)) c
     ·rw[decide_eq_false a];exact Ev.tt (decide_eq_true (by omega)) .done
 unfold qd7;refine Ev.bind g ?_;cases srcB xs M<;>exact .done
theorem ql0{xs:List qi}{M:Nat}(f:xs.length<=1048576)(h:srcB xs M=true):SrcOk xs:=by
 unfold srcB at h;rw[qah] at h;refine⟨f,fun j=>?_,fun x g=>?_⟩
 ·induction j with
  |zero=>intro i hi _;omega
  |succ j ih=>
   intro i hi d;have a:=h (j+1) d;rw[qqG (by omega)] at a;simp only[je,decide_eq_true_eq,Nat.add_sub_cancel] at a;have c:=a.2.1;by_cases b:i=j
   ·rw[b];exact c
   ·have:=ih i (by omega) (by omega);omega
 ·obtain⟨i,hi,rfl⟩:=List.mem_iff_getElem.1 g;have a:=h i hi;rw[<-qd6 hi];simp only[je] at a;have:=a.2.2.2;unfold slewB at this;simp only[je,decide_eq_true_eq] at this;exact⟨⟨this.1,by omega⟩,by omega,this.2.2⟩
section
variable{L:Nat}{fr to:Nat->Int}{lv:Nat->Bool}{n:Nat}
def OrdOk(L:Nat)(fr to:Nat->Int)(lv:Nat->Bool)(n:Nat)(R:List Nat):Prop:=∀l1 k l2,R=l1++k::l2->k<n/\k∉l1/\inN L fr to lv l1 k=0
theorem OrdOk.snoc{R:List Nat}{k:Nat}(h:OrdOk L fr to lv n R)(d:nxtN L fr to lv n R=V k):OrdOk L fr to lv n (R++[k]):=by
 intro l1 a l2 e;rcases List.eq_nil_or_concat l2 with rfl|⟨l2',z,rfl⟩
 ·obtain⟨rfl,c⟩:=List.append_inj' e Z;obtain rfl:k=a:=by simpa using c
  exact qoP d
 ·have b:R++[k]=(l1++a::l2')++[z]:=by rw[e];simp
  obtain⟨e1,_⟩:=List.append_inj' b Z;exact h l1 a l2' e1
theorem qwk:∀m R R',OrdOk L fr to lv n R->ordN L fr to lv n m R=V R'->OrdOk L fr to lv n R':=by
 intro m
 induction m with
 |zero=>intro R R' h e;obtain rfl:=Option.some.inj e;exact h
 |succ m ih=>
  intro R R' h e;unfold ordN at e;cases hn:nxtN L fr to lv n R with
  |none=>rw[hn] at e;cases e
  |some k=>
   rw[hn] at e;exact ih _ _ (h.snoc hn) e
theorem OrdOk.at{R:List Nat}(h:OrdOk L fr to lv n R){j:Nat}(a:j<R.length):R[j]<n/\R[j]∉R.take j/\inN L fr to lv (R.take j) R[j]=0:=by
 refine h (R.take j) R[j] (R.drop (j+1)) ?_;rw[<-jJ a,List.take_append_drop]
end
theorem qpi{α:Type}[Inhabited α]{xs:List α}{k:Nat}{v:α}(a:k<xs.length)(h:gt xs k=v):setS xs (k:Int) v=xs:=by
 unfold setS;rw[jp,<-h,qd6 a];exact List.set_getElem_self a
theorem qhE{α:Type}[Inhabited α]{xs:List α}{a k:Nat}{y:α}(b:a<xs.length):gt (setS xs (a:Int) y) k=if k=a then y else gt xs k:=by
 unfold setS;rw[jp];by_cases h:k=a
 ·subst h;rw[if_pos Z,qpl b]
 ·rw[if_neg h,qrk h]
def setT(t:qx)(k:Nat)(s:Bool×qi):qx:=⟨setS t.Az (k:Int) s.1,setS t.Ah (k:Int) s.2.Ah,setS t.Ba (k:Int) s.2.Ba⟩
theorem qrH{t:qx}{M k:Nat}{s:Bool×qi}(h:TmOk t M)(c:k<M)(d:slR s.2.Ba):TmOk (setT t k s) M where
 r:=by show(setS _ _ _).length=_;rw[qa7];exact h.r
 a:=by show(setS _ _ _).length=_;rw[qa7];exact h.a
 s:=by show(setS _ _ _).length=_;rw[qa7];exact h.s
 sl:=fun j b=>by
  show slR (gt (setS _ _ _) j);rw[qhE (by rw[h.s];exact c)];split
  ·exact d
  ·exact h.sl j b
def Bare(t:qx)(M:Nat)(l:List Nat):Prop:=∀k,k<M->k∉l->gt t.Az k=false/\gt t.Ah k=zSp/\gt t.Ba k=zSp
def zT:qx:=⟨[],[],[]⟩
theorem qvc:slR zSp:=by unfold slR zSp;exact⟨⟨jC _,by show(0:Int)<=_;omega⟩,jC _,by show(0:Int)<=_;omega⟩
theorem qwQ{s t:qf}(a:slR s)(b:slR t):slR (hullS s t):=by
 obtain⟨⟨a1,a2⟩,c,d⟩:=a;obtain⟨⟨b1,b2⟩,b3,f⟩:=b;refine⟨⟨?_,?_⟩,?_,?_⟩
 ·show(0:Int)<=(if t.Ar<s.Ar then t.Ar else s.Ar);split<;>assumption
 ·show(if t.Ar<s.Ar then t.Ar else s.Ar)<=1000000;split<;>assumption
 ·show(0:Int)<=(if t.Bd > s.Bd then t.Bd else s.Bd);split<;>assumption
 ·show(if t.Bd > s.Bd then t.Bd else s.Bd)<=1000000;split<;>assumption
section
variable{b:qe}{c:qu}{ex:List Int}{f g:Nat->qf->qf×qf}{lv:List Bool}{t:qx}{xs:List qi}{node:Int}
theorem qqZ(h:blockB b=true)(m:SpansS b c g)(i:∀k s,(f k s).2=(g k s).2)(n:TmOk t (2*(places b.Aa).length))(o:SrcOk xs):∀j,j<=(linksL b).length->slR (ndS f (linksL b) lv t node (srcV (srcO xs node)) j).2.Ba:=by
 intro j
 induction j with
 |zero=>
  intro _;show slR (srcV (srcO xs node)).2.Ba;cases hs:srcO xs node with
  |none=>exact qvc
  |some y=>exact o.sl y (qkl hs).2
 |succ j a=>
  intro p;have a:=a (by omega);obtain⟨_,l⟩:=qnW (qhB h) (show j<(linksL b).length by omega);have d:=(m j _ (show j<(linksL b).length by omega) (n.sl _ l)).1;rw[<-i] at d;show slR (bif toQ (linksL b) lv node j then stepS f (linksL b) t node (ndS f (linksL b) lv t node (srcV (srcO xs node)) j) j else ndS f (linksL b) lv t node (srcV (srcO xs node)) j).2.Ba;cases toQ (linksL b) lv node j
  ·exact a
  ·simp only[cond_true];unfold stepS;cases gt t.Az (frN (linksL b) j)
   ·exact a
   ·simp only[cond_true];unfold joinS;cases (ndS f (linksL b) lv t node (srcV (srcO xs node)) j).1
    ·exact d
    ·exact qwQ a d
theorem qsm(h:blockB b=true)(a:SpansS b c f)(d:TmOk t (2*(places b.Aa).length))(g:SrcOk xs):∀j,j<=(linksL b).length->slR (ndS f (linksL b) lv t node (srcV (srcO xs node)) j).2.Ba:=qqZ h a (fun _ _=>rfl) d g
theorem qwi:∀j,(ndS f (linksL b) lv t node (srcV (srcO xs node)) j).1=false->(ndS f (linksL b) lv t node (srcV (srcO xs node)) j).2=zSrc:=by
 intro j
 induction j with
 |zero=>
  show(srcV (srcO xs node)).1=false->(srcV (srcO xs node)).2=zSrc;cases srcO xs node with
  |none=>exact fun _=>rfl
  |some y=>intro e;cases e
 |succ j ih=>
  unfold ndS;cases toQ (linksL b) lv node j
  ·exact ih
  ·simp only[cond_true];unfold stepS;cases gt t.Az (frN (linksL b) j)
   ·exact ih
   ·simp only[cond_true];unfold joinS;cases (ndS f (linksL b) lv t node (srcV (srcO xs node)) j).1<;>(intro e;cases e)
def runR(o:Option qx):qx×Bool:=match o with|some t=>(t,true)|none=>(zT,false)
def rnO(f:Nat->qf->qf×qf)(ls:List qt)(lv:List Bool)(xs:List qi):List Nat->qx->Option qx
 | [],t=>V t
 |k::R,t=>bif (ndS f ls lv t (k:Int) (srcV (srcO xs (k:Int))) ls.length).1 then bif spanB (ndS f ls lv t (k:Int) (srcV (srcO xs (k:Int))) ls.length).2.Ah then rnO f ls lv xs R (setT t k (ndS f ls lv t (k:Int) (srcV (srcO xs (k:Int))) ls.length)) else U else rnO f ls lv xs R t
def zTm(M:Nat):qx:=⟨List.replicate M false,List.replicate M zSp,List.replicate M zSp⟩
theorem qpY{α:Type}[Inhabited α]{v:α}{M k:Nat}(a:k<M):gt (List.replicate M v) k=v:=by rw[qd6 (by rw[jH];exact a)];simp
theorem qpZ{M:Nat}:TmOk (zTm M) M:=⟨jH,jH,jH,fun k a=>by
 show slR (gt (List.replicate M zSp) k);rw[qpY a];exact qvc⟩
theorem qsp{M:Nat}{l:List Nat}:Bare (zTm M) M l:=fun _ a _=>⟨qpY a,qpY a,qpY a⟩
theorem qw5(h:blockB b=true)(m:SpansS b c f)(n:SrcOk xs):∀(R:List Nat) (t d:qx),(∀k,k∈R->k<2*(places b.Aa).length)->TmOk t (2*(places b.Aa).length)->rnO f (linksL b) lv xs R t=V d->TmOk d (2*(places b.Aa).length):=by
 intro R
 induction R with
 |nil=>intro t d _ a e;obtain rfl:=Option.some.inj e;exact a
 |cons k R ih=>
  intro t d g a e;have l:=qsm (node:=(k:Int)) (lv:=lv) h m a n (linksL b).length (jf _);unfold rnO at e;cases h1:(ndS f (linksL b) lv t (k:Int) (srcV (srcO xs (k:Int))) (linksL b).length).1
  ·rw[h1] at e;exact ih _ _ (fun i hi=>g i (jt _ hi)) a e
  ·rw[h1] at e;cases h2:spanB (ndS f (linksL b) lv t (k:Int) (srcV (srcO xs (k:Int))) (linksL b).length).2.Ah
   ·rw[h2] at e;cases e
   ·rw[h2] at e;exact ih _ _ (fun i hi=>g i (jt _ hi)) (qrH a (g k (jw ..)) l) e
def runL(o:Option qx)(m:Nat):Flow (qx×Bool) (List qf×List qf×List Bool×Int):=match o with|some t'=>.nxt (t'.Ba,t'.Ah,t'.Az,(m:Int))|none=>.ret (zT,false)
theorem qtM(h:blockB b=true)(A:SpansS b c f)(H:lv.length=(linksL b).length)(B:SrcOk xs){R:List Nat}(C:∀k,k∈R->k<2*(places b.Aa).length)(D:R.length<=1000) :
  Ev (fun n=>qk5 n b c (linksL b) lv xs (ints R)) (runR (rnO f (linksL b) lv xs R (zTm (2*(places b.Aa).length)))):=by
 have I:=qaU (qaj (qaz h));have m:=qld h;obtain⟨M,u⟩:∃M,M=2*(places b.Aa).length:=⟨_,rfl⟩;have L:M<=156:=by omega
 have r:∀d j t,j+d=R.length->TmOk t M->Ev (fun n=>qcy b c (linksL b) lv xs (ints R) n t.Ba t.Ah t.Az (j:Int)) (runL (rnO f (linksL b) lv xs (R.drop j) t) R.length):=by
  intro d
  induction d with
  |zero=>
   intro j t F g;obtain rfl:j=R.length:=by omega
   rw[List.drop_length];refine Ev.succ ?_;simp only[qcy,qc6,qp (jf _),cond_false];exact .done
  |succ d ih=>
   intro j t F g;have a:j<R.length:=by omega
   have l:=C _ (jn a);have hi:=qn8 a;have z:R.drop j=R[j]::R.drop (j+1):=jJ a;generalize R[j]=k at l hi z;rw[<-u] at l;have v:=qvm (node:=(k:Int)) h A H (by rw[<-u];exact g) B;have p:=qsm (node:=(k:Int)) (lv:=lv) h A (by rw[<-u];exact g) B (linksL b).length (jf _);have K:idx t.Az (k:Int)=V (gt t.Az k):=qz (by rw[g.r];exact l);have J:idx t.Ah (k:Int)=V (gt t.Ah k):=qz (by rw[g.a];exact l);have is:idx t.Ba (k:Int)=V (gt t.Ba k):=qz (by rw[g.s];exact l);have i:∀n,qcy b c (linksL b) lv xs (ints R) (n+1) t.Ba t.Ah t.Az (j:Int)=(qiI n b c (linksL b) lv xs t (k:Int)).bind fun(r4,r5)=>bif (!r4) then qcy b c (linksL b) lv xs (ints R) n t.Ba t.Ah t.Az ((j+1:Nat):Int) else bif (!spanB r5.Ah) then V (.ret (zT,false)) else
     qcy b c (linksL b) lv xs (ints R) n (setS t.Ba (k:Int) r5.Ba) (setS t.Ah (k:Int) r5.Ah) (setS t.Az (k:Int) true) ((j+1:Nat):Int):=fun n=>by
    simp only[qcy,qc6,qn a,cond_true,hi,jd,qqB,K,J,is,wS j]
    rfl
   rw[z];unfold rnO;generalize ndS f (linksL b) lv t (k:Int) (srcV (srcO xs (k:Int))) (linksL b).length=s at v p⊢;obtain⟨s1,s2⟩:=s;cases s1
   ·exact Ev.step i (Ev.bind v (ih (j+1) t (by omega) g))
   ·cases hsp:spanB s2.Ah
    ·refine Ev.step i (Ev.bind v ?_);simp only[hsp];exact .done
    ·refine Ev.step i (Ev.bind v ?_);simp only[hsp];exact ih (j+1) (setT t k (true,s2)) (by omega) (qrH g l p)
 have x:mkS (M:Int) false=V (List.replicate M false):=qmi (by omega);have y:mkS (M:Int) (⟨0,0⟩:qf)=V (List.replicate M zSp):=qmi (by omega);have o2:=r R.length 0 (zTm M) (by omega) qpZ;rw[List.drop_zero] at o2;rw[<-u] at m⊢;unfold qk5 qln;refine Ev.bind m ?_;simp only[x,y,jd];refine Ev.bind o2 ?_;cases rnO f (linksL b) lv xs R (zTm M)<;>exact .done
theorem qwf(h:blockB b=true)(hg:SpansS b c g)(H:∀k s,(f k s).2=(g k s).2)(hf:SpansI b c ex f)(hl:lv.length=(linksL b).length)(P:SrcOk xs){R:List Nat}(Y:∀j,∀O:j<R.length,R[j]<2*(places b.Aa).length/\R[j]∉R.take j)(a3:R.length<=1000) :
  Ev (fun n=>qfE n (V ⟨V (viewE b ex),lv⟩) c xs (ints R)) (runR (rnO f (linksL b) lv xs R (zTm (2*(places b.Aa).length)))):=by
 have L:=qaU (qaj (qaz h));have r:=qow (v:=viewE b ex) L;have D:(viewE b ex).places.length=(places b.Aa).length:=rfl;rw[D] at r;obtain⟨M,B⟩:∃M,M=2*(places b.Aa).length:=⟨_,rfl⟩;have hM:M<=156:=by omega
 have A:∀d j t,j+d=R.length->TmOk t M->Bare t M (R.take j)->Ev (fun n=>qa6 (V ⟨V (viewE b ex),lv⟩) c xs (ints R) n t.Ba t.Ah t.Az (j:Int)) (runL (rnO f (linksL b) lv xs (R.drop j) t) R.length):=by
  intro d
  induction d with
  |zero=>
   intro j t O a _;obtain rfl:j=R.length:=by omega
   rw[List.drop_length];refine Ev.succ ?_;simp only[qa6,qc6,qp (jf _),cond_false];exact .done
  |succ d ih=>
   intro j t O a F;have m:j<R.length:=by omega
   obtain⟨l,S⟩:=Y j m;have hi:=qn8 m;have x:R.take (j+1)=R.take j++[R[j]]:=jz m;have N:R.drop j=R[j]::R.drop (j+1):=jJ m;generalize R[j]=k at l S hi x N;rw[<-B] at l;have C:=qvJ (node:=(k:Int)) h hf hl (by rw[<-B];exact a) P.len;have z:=qqZ (node:=(k:Int)) (lv:=lv) h hg H (by rw[<-B];exact a) P (linksL b).length (jf _);have Q:=qwi (f:=f) (b:=b) (lv:=lv) (t:=t) (xs:=xs) (node:=(k:Int)) (linksL b).length;obtain⟨b1,b2,b3⟩:=F k l S;have ir:idx t.Az (k:Int)=V (gt t.Az k):=qz (by rw[a.r];exact l);have ia:idx t.Ah (k:Int)=V (gt t.Ah k):=qz (by rw[a.a];exact l);have is:idx t.Ba (k:Int)=V (gt t.Ba k):=qz (by rw[a.s];exact l);have y:∀n,qa6 (V ⟨V (viewE b ex),lv⟩) c xs (ints R) (n+1) t.Ba t.Ah t.Az (j:Int)=(qd1 n (V ⟨V (viewE b ex),lv⟩) c xs t (k:Int)).bind fun(r3,r4)=>(bif r3 then V (!spanB r4.Ah) else V false).bind fun b3=>bif b3 then V (.ret (zT,false)) else
     qa6 (V ⟨V (viewE b ex),lv⟩) c xs (ints R) n (setS t.Ba (k:Int) r4.Ba) (setS t.Ah (k:Int) r4.Ah) (setS t.Az (k:Int) r3) ((j+1:Nat):Int):=fun n=>by
    simp only[qa6,qc6,qn m,cond_true,hi,jd,qpe,ir,ia,is,wS j]
    rfl
   rw[N];unfold rnO;generalize ndS f (linksL b) lv t (k:Int) (srcV (srcO xs (k:Int))) (linksL b).length=s at C z Q⊢;obtain⟨s1,s2⟩:=s;cases s1
   ·have:=Q Z;simp only at this;subst this;have e1:setS t.Ba (k:Int) zSrc.Ba=t.Ba:=qpi (by rw[a.s];exact l) b3;have W:setS t.Ah (k:Int) zSrc.Ah=t.Ah:=qpi (by rw[a.a];exact l) b2;have X:setS t.Az (k:Int) false=t.Az:=qpi (by rw[a.r];exact l) b1;refine Ev.step y (Ev.bind C ?_);simp only[cond_false,jd,e1,W,X];exact ih (j+1) t (by omega) a (fun i hi p=>F i hi (fun I=>p (by rw[x];exact jE _ I)))
   ·cases hsp:spanB s2.Ah
    ·refine Ev.step y (Ev.bind C ?_);simp only[hsp];exact .done
    ·refine Ev.step y (Ev.bind C ?_);simp only[hsp];refine ih (j+1) (setT t k (true,s2)) (by omega) (qrH a l z) (fun i hi p=>?_);rw[x] at p;have u:i≠k:=fun e=>p (jW _ (List.mem_singleton.2 e));have:=F i hi (fun I=>p (jE _ I));refine⟨?_,?_,?_⟩
     ·show gt (setS _ _ _) i=_;rw[qhE (by rw[a.r];exact l),if_neg u];exact this.1
     ·show gt (setS _ _ _) i=_;rw[qhE (by rw[a.a];exact l),if_neg u];exact this.2.1
     ·show gt (setS _ _ _) i=_;rw[qhE (by rw[a.s];exact l),if_neg u];exact this.2.2
 have J:mkS (M:Int) false=V (List.replicate M false):=qmi (by omega);have K:mkS (M:Int) (⟨0,0⟩:qf)=V (List.replicate M zSp):=qmi (by omega);have T:=A R.length 0 (zTm M) (by omega) qpZ qsp;rw[List.drop_zero] at T;rw[<-B] at r⊢;unfold qfE qhS;simp only[jd,r,J,K];refine Ev.bind T ?_;cases rnO f (linksL b) lv xs R (zTm M)<;>exact .done
end

abbrev lkB(b:qe):Nat:=(linksL b).length
abbrev ndB(b:qe):Nat:=2*(places b.Aa).length
abbrev lvJ(b:qe)(br:List Int):List Bool:=lvB br (lkB b)
def grB(b:qe)(br:List Int):Option Tgraph:=V ⟨V (viewV b),lvJ b br⟩
structure TgOk(b:qe)(c:qu)(br:List Int)(xs:List qi)(R:List Nat):Prop where
 bl:blockB b=true
 co:cornerB c=true
 br_:brB br (lkB b)=true
 sr:srcB xs (ndB b)=true
 or_:ordL (linksL b) (lvJ b br) (ndB b) (ndB b) []=V R
theorem TgOk.ord{b:qe}{c:qu}{br:List Int}{xs:List qi}{R:List Nat}(h:TgOk b c br xs R):OrdOk (lkB b) (frL (linksL b)) (toL (linksL b)) (lvL (lvJ b br)) (ndB b) R:=
 qwk (ndB b) [] R (fun l1 k l2 e=>by cases l1<;>cases e) h.or_
theorem TgOk.len{b:qe}{c:qu}{br:List Int}{xs:List qi}{R:List Nat}(h:TgOk b c br xs R):R.length=ndB b:=by
 have:=qvg (ndB b) [] R h.or_;simpa using this
theorem qih{x:Int}(h:x≠0):(x != 0)=true:=by simpa using h
theorem qwT{b:qe}{c:qu}{br:List Int}{xs:List qi}(B:qjO b)(H:okS c.Bi)(a:br.length<=1048576)(m:xs.length<=1048576) :
  (∃code:Int,code≠0/\Ev (fun n=>qhP n b c br xs) ([],code)/\Ev (fun n=>qgk n b c br xs U) (U,[],code)) \/
  ∃R,TgOk b c br xs R/\Ev (fun n=>qhP n b c br xs) (ints R,0)/\Ev (fun n=>qgk n b c br xs U) (grB b br,ints R,0):=by
 have s1:=qhf B;have k:=qp6 B;have s2:=qrY (c:=c) H;have s:=qpt (c:=c) H;unfold qhP qgk;cases h1:blockB b
 ·rw[h1] at s1 k;exact .inl ⟨1,by omega,Ev.bind (b:=true) (Ev.bind s1 (Ev.tt Z .done)) (Ev.tt Z .done),Ev.bind (b:=true) (Ev.bind k (Ev.tt Z .done)) (Ev.tt Z .done)⟩
 cases h2:cornerB c
 ·rw[h1] at s1 k;rw[h2] at s2 s;exact .inl ⟨1,by omega,Ev.bind (b:=true) (Ev.bind s1 (Ev.ff Z (Ev.bind s2 .done))) (Ev.tt Z .done),Ev.bind (b:=true) (Ev.bind k (Ev.ff Z (Ev.bind s .done))) (Ev.tt Z .done)⟩
 have C:=qaU (qaj (qaz h1));have d:=qdR h1;have I:=qhB h1;have i:=qts (br:=br) B h1 a;have f:=qsT (v:=viewV b) (br:=br) a d;have y:=qqS (xs:=xs) h1 m;have p:=qqO (v:=viewV b) (xs:=xs) C m;have F:(viewV b).links=linksL b:=rfl;have M:(viewV b).places=places b.Aa:=rfl;rw[F] at f;rw[M] at p;rw[h1] at s1 k;rw[h2] at s2 s;have A:Ev (fun n=>(qdW n b).bind fun g=>bif (!g) then V true else(qh6 n c).bind fun h=>V (!h)) false:=Ev.bind s1 (Ev.ff Z (Ev.bind s2 .done));have u:Ev (fun n=>(qhD n b).bind fun g=>bif (!g) then V true else(qgR n c).bind fun h=>V (!h)) false:=Ev.bind k (Ev.ff Z (Ev.bind s .done));have x:=qqr h1;cases h3:brB br (lkB b)
 ·rw[h3] at i f;exact .inl ⟨2,by omega,Ev.bind A (Ev.ff Z (Ev.bind (b:=true) (Ev.bind i (Ev.tt Z .done)) (Ev.tt Z .done))),
   Ev.bind u (Ev.ff Z (Ev.bind x (Ev.bind (b:=false) (Ev.ff Z .done) (Ev.ff Z (Ev.bind (b:=true) (Ev.bind f (Ev.tt Z .done)) (Ev.tt Z .done))))))⟩
 cases h4:srcB xs (ndB b)
 ·rw[h3] at i f;rw[h4] at y p;exact .inl ⟨2,by omega,Ev.bind A (Ev.ff Z (Ev.bind (b:=true) (Ev.bind i (Ev.ff Z (Ev.bind y .done))) (Ev.tt Z .done))),
   Ev.bind u (Ev.ff Z (Ev.bind x (Ev.bind (b:=false) (Ev.ff Z .done) (Ev.ff Z (Ev.bind (b:=true) (Ev.bind f (Ev.ff Z (Ev.bind p .done))) (Ev.tt Z .done))))))⟩
 have D:=qtu (v:=viewV b) (br:=br) d h3;rw[F] at D;have Q:=qiq (ls:=linksL b) (br:=br) d a;have l:(lvJ b br).length=lkB b:=qjz;have z:=quw (lv:=lvJ b br) I l;have t:=qt4 (b:=b) (ps:=places b.Aa) (lo:=pre (load0 b) b.Af.length) (de:=pre (exactL b) b.Af.length) (ex:=[]) (lv:=lvJ b br) I l Z;rw[h3] at i f;rw[h4] at y p;have K:Ev (fun n=>(qhL n b br).bind fun O=>bif (O != 0) then V true else(qgK n b xs).bind fun P=>V (!P)) false:=Ev.bind i (Ev.ff Z (Ev.bind y .done));have J:Ev (fun n=>(qe2 n (V (viewV b)) br).bind fun g=>bif (!g) then V true else(qd7 n (V (viewV b)) xs).bind fun h=>V (!h)) false:=Ev.bind f (Ev.ff Z (Ev.bind p .done));have L:∀r:List Int×Int,Ev (fun n=>(qhY n (ndB b:Int) (linksL b) (lvJ b br)).bind fun(g,h)=>bif (!h) then V (([]:List Int),(7:Int)) else V (g,0)) r->Ev (fun n=>qfd n b br) r:=fun r N=>by
  unfold qfd;exact Ev.bind i (Ev.ff Z (Ev.bind (qd8 h1) (Ev.bind (qld h1) (Ev.bind Q N))))
 cases ho:ordL (linksL b) (lvJ b br) (ndB b) (ndB b) [] with
 |none=>
  have e:ordR (linksL b) (lvJ b br) (ndB b)=([],false):=by unfold ordR;rw[ho]
  rw[e] at z t;exact .inl ⟨7,by omega,Ev.bind A (Ev.ff Z (Ev.bind K (Ev.ff Z (Ev.bind (L ([],7) (Ev.bind z (Ev.tt Z .done))) .done)))),
   Ev.bind u (Ev.ff Z (Ev.bind x (Ev.bind (b:=false) (Ev.ff Z .done) (Ev.ff Z (Ev.bind J (Ev.ff Z (Ev.bind D (Ev.bind t (Ev.tt Z .done)))))))))⟩
 |some R=>
  have e:ordR (linksL b) (lvJ b br) (ndB b)=(ints R,true):=by unfold ordR;rw[ho]
  rw[e] at z t;exact .inr ⟨R,⟨h1,h2,h3,h4,ho⟩,Ev.bind A (Ev.ff Z (Ev.bind K (Ev.ff Z (Ev.bind (L (ints R,0) (Ev.bind z (Ev.ff Z .done))) .done)))),
   Ev.bind u (Ev.ff Z (Ev.bind x (Ev.bind (b:=false) (Ev.ff Z .done) (Ev.ff Z (Ev.bind J (Ev.ff Z (Ev.bind D (Ev.bind t (Ev.ff Z .done)))))))))⟩
structure WkOk(j:qax)(t:qx)(R:List Nat):Prop where
 tg:TgOk j.Ac j.Ai j.Bh j.Ap R
 tm:TmOk t (ndB j.Ac)
def wkV(j:qax)(t:qx)(R:List Nat):Option Twork:=V ⟨grB j.Ac j.Bh,j,t,ints R⟩
theorem qtI{j:qax}(h:qjb j) :
  (∃code:Int,code≠0/\Ev (fun n=>qa0 n j.Ac j.Ai j.Bh j.Ap) (zT,code)/\Ev (fun n=>qjJ n j) (U,code)) \/
  ∃t R,WkOk j t R/\Ev (fun n=>qa0 n j.Ac j.Ai j.Bh j.Ap) (t,0)/\Ev (fun n=>qjJ n j) (wkV j t R,0):=by
 have g:=h.Bh.len;have a:=h.Ap.len;unfold qa0 qjJ;rcases qwT h.Ac h.Ai.Bi g a with⟨code,hne,hs,hi⟩|⟨R,hg,hs,hi⟩
 ·exact .inl ⟨code,hne,Ev.bind hs (Ev.tt (qih hne) .done),Ev.bind hi (Ev.tt (qih hne) .done)⟩
 ·have b:=hg.bl;have s:=qdR b;have v:=qiq (ls:=linksL j.Ac) (br:=j.Bh) s g;obtain⟨f,p,r⟩:=qsI b hg.co;have l:=r [] (.inl Z);rw[qrm] at l;have y:=qaU (qaj (qaz b));have m:=hg.len;have c:R.length<=1000:=by rw[m];show 2*(places j.Ac.Aa).length<=1000;omega
  have d:∀k,k∈R->k<2*(places j.Ac.Aa).length:=fun k x=>by
   obtain⟨i,hi,rfl⟩:=List.mem_iff_getElem.1 x;exact(hg.ord.at hi).1
  have o2:=qtM (lv:=lvJ j.Ac j.Bh) (R:=R) b p qjz (ql0 a hg.sr) d c;have u:=qwf (lv:=lvJ j.Ac j.Bh) (R:=R) b p (fun _ _=>rfl) l qjz (ql0 a hg.sr) (fun i hi=>⟨(hg.ord.at hi).1,(hg.ord.at hi).2.1⟩) c;have o1:=qw5 (lv:=lvJ j.Ac j.Bh) b p (ql0 a hg.sr) R (zTm (2*(places j.Ac.Aa).length));generalize rnO f (linksL j.Ac) (lvJ j.Ac j.Bh) j.Ap R (zTm (2*(places j.Ac.Aa).length))=o at o1 o2 u;cases o with
  |none=>exact .inl ⟨3,by omega,Ev.bind hs (Ev.ff Z (Ev.bind (qd8 b) (Ev.bind v (Ev.bind o2 (Ev.tt Z .done))))),Ev.bind hi (Ev.ff Z (Ev.bind u (Ev.tt Z .done)))⟩
  |some t=>exact .inr ⟨t,R,⟨hg,o1 t d qpZ Z⟩,Ev.bind hs (Ev.ff Z (Ev.bind (qd8 b) (Ev.bind v (Ev.bind o2 (Ev.ff Z .done))))),Ev.bind hi (Ev.ff Z (Ev.bind u (Ev.ff Z .done)))⟩

def sdL(ls:List qt)(fw:Bool)(k:Nat):Int:=bif fw then frL ls k else toL ls k
def tdL(ls:List qt)(fw:Bool)(k:Nat):Int:=bif fw then toL ls k else frL ls k
structure ReachI(ls:List qt)(lv:List Bool)(M:Nat)(fw:Bool)(v:Nat)(x:List Bool):Prop where
 len:x.length=M
 self:gt x v=true
 wit:∀j,j<M->gt x j=true->j=v\/∃k a:Nat,k<ls.length/\gt lv k=true/\sdL ls fw k=(a:Int)/\a<M/\gt x a=true/\tdL ls fw k=(j:Int)
def ShutI(ls:List qt)(lv:List Bool)(fw:Bool)(x:List Bool)(k:Nat):Prop:=gt lv k=true->∀a b:Nat,sdL ls fw k=(a:Int)->tdL ls fw k=(b:Int)->gt x a=true->gt x b=true
theorem qt3{x:List Bool}:x.countP id<=x.length:=List.countP_le_length
theorem qua{x:List Bool}{c:Nat}(a:c<x.length)(h:gt x c=false):(setS x (c:Int) true).countP id=x.countP id+1:=by
 have e:setS x (c:Int) true=x.set c true:=by unfold setS;rw[jp]
 rw[e];have:x[c]=false:=by rw[<-qd6 a];exact h
 clear e h
 induction x generalizing c with
 |nil=>cases a
 |cons y x ih=>
  cases c with
  |zero=>
   have d:y=false:=this;subst d;simp
  |succ c=>
   have b:c<x.length:=by simpa using a
   have:=ih b (by simpa using this);rw[List.set_cons_succ,List.countP_cons,List.countP_cons,this];omega
section
variable{ls:List qt}{lv:List Bool}{M:Nat}
theorem quS(h:LkOk ls M){k:Nat}(c:k<ls.length)(fw:Bool):∃a b:Nat,sdL ls fw k=(a:Int)/\tdL ls fw k=(b:Int)/\a<M/\b<M:=by
 have d:=h.fr0 k c;have g:=h.fr1 k c;have f:=h.to0 k c;have i:=h.to1 k c;cases fw
 ·exact⟨(gt ls k).To.toNat,(gt ls k).Bl.toNat,qdP f,qdP d,by omega,by omega⟩
 ·exact⟨(gt ls k).Bl.toNat,(gt ls k).To.toNat,qdP d,qdP f,by omega,by omega⟩
theorem qw9(h:LkOk ls M)(S:lv.length=ls.length){fw:Bool}{v:Nat}:∀(d k:Nat) (x:List Bool) (b:Bool),k+d=ls.length->ReachI ls lv M fw v x->(b=false->∀j,j<k->ShutI ls lv fw x j) ->
  EvQ (fun n=>qdV ls lv fw n x b (k:Int)) (fun o=>ReachI ls lv M fw v o.1/\(o.2.1=false->∀j,j<ls.length->ShutI ls lv fw o.1 j)/\x.countP id<=o.1.countP id/\(o.2.1=true->b=true\/x.countP id<o.1.countP id)):=by
 have Q:=h.len;intro d
 induction d with
 |zero=>
  intro k x b P g s;refine EvQ.succ ?_;simp only[qdV];refine EvQ.ff (qp (by omega)) (EvQ.done ⟨g,fun e j u=>s e j (by omega),jf _,fun e=>.inl e⟩)
 |succ d ih=>
  intro k x b P g s;have f:k<ls.length:=by omega
  obtain⟨p,q,z,C,I,R⟩:=quS h f fw;refine EvQ.succ ?_;simp only[qdV,wS k];refine EvQ.tt (qn f) (EvQ.bindN (qz f) (EvQ.bindN (qz f) (EvQ.bindN (b:=((p:Int),(q:Int))) (by rw[<-z,<-C];cases fw<;>rfl) ?_)));have B:p<x.length:=by rw[g.len];exact I
  have c:q<x.length:=by rw[g.len];exact R
  refine EvQ.bindN (b:=gt lv k&&(gt x p&&!gt x q)) (by rw[qz (show k<lv.length by omega),qz B,qz c];simp only[jd];cases gt lv k<;>cases gt x p<;>rfl) ?_;refine EvQ.bif (fun i=>?_) (fun i=>?_)
  ·simp only[je,jG] at i;obtain⟨c1,r,F⟩:=i;have A:p≠q:=fun e=>by rw[e,F] at r;cases r
   have H:=qua c F;refine EvQ.bindN (qz c) ((ih (k+1) (setS x (q:Int) true) true (by omega) ⟨by rw[qa7];exact g.len,?_,fun j u l=>?_⟩ (fun e=>by cases e)).mono fun o m=>⟨m.1,m.2.1,by have:=m.2.2.1;omega,fun _=>.inr (by have:=m.2.2.1;omega)⟩)
   ·rw[qhE c];split
    ·rfl
    ·exact g.self
   ·by_cases e:j=q
    ·exact .inr ⟨k,p,f,c1,z,I,by rw[qhE c,if_neg A];exact r,by rw[C,e]⟩
    ·rw[qhE c,if_neg e] at l;rcases g.wit j u l with e2|⟨k',a,w1,w2,w3,w4,w5,w6⟩
     ·exact .inl e2
     ·exact .inr ⟨k',a,w1,w2,w3,w4,by rw[qhE c];split;rfl;exact w5,w6⟩
  ·refine ih (k+1) x b (by omega) g (fun e j u=>?_);by_cases N:j=k
   ·subst N;intro y a J O t D;rw[z] at O;rw[C] at t;have K:p=a:=by omega
    have L:q=J:=by omega
    subst K;subst L;rw[y,D] at i;simpa using i
   ·exact s e j (by omega)
theorem qtL(h:LkOk ls M)(t:lv.length=ls.length){fw:Bool}{v:Nat}(y:v<M):EvQ (fun n=>qh5 n (M:Int) ls lv (v:Int) fw) (fun x=>ReachI ls lv M fw v x/\∀j,j<ls.length->ShutI ls lv fw x j):=by
 have A:=h.nodes;have f:∀(d:Nat) (x:List Bool),M<x.countP id+d->ReachI ls lv M fw v x->EvQ (fun n=>qeO ls lv fw n x true) (fun o=>ReachI ls lv M fw v o.1/\∀j,j<ls.length->ShutI ls lv fw o.1 j):=by
  intro d
  induction d with
  |zero=>
   intro x s l;have:=qt3 (x:=x);rw[l.len] at this;omega
  |succ d ih=>
   intro x s l;refine EvQ.succ ?_;simp only[qeO,cond_true];refine EvQ.bind (qw9 h t ls.length 0 x false (by omega) l (fun _ j k=>absurd k (Nat.not_lt_zero _))) ?_;rintro⟨z,b3,i⟩ ⟨g,m,r,p⟩;dsimp only at g m r p⊢;cases b3
   ·refine EvQ.succ ?_;simp only[qeO,cond_false];exact EvQ.done ⟨g,m Z⟩
   ·rcases p rfl with e|e
    ·cases e
    ·exact ih z (by omega) g
 unfold qh5;have a:v<(pre (fun _=>false) M).length:=by rw[qkc];exact y
 refine EvQ.bindN (qlU (by omega)) (EvQ.bindN (qz a) (EvQ.bind (f (M+1) _ (by omega) ⟨by rw[qa7,qkc],by rw[qhE a,if_pos Z],fun j k c=>?_⟩) ?_))
 ·refine .inl ?_;refine Classical.byContradiction fun e=>?_;rw[qhE a,if_neg e,qvy k] at c;cases c
 ·rintro⟨x,b⟩ u;exact EvQ.done u
def SelfL(ls:List qt)(lv:List Bool)(v:Nat):Prop:=∃k,k<ls.length/\gt lv k=true/\frL ls k=(v:Int)/\toL ls k=(v:Int)
structure LoopI(ls:List qt)(lv:List Bool)(M:Nat)(l:List Int):Prop where
 ex:∃(v:Nat) (there back:List Bool),v<M/\(ReachI ls lv M true v there/\∀j,j<ls.length->ShutI ls lv true there j)/\(ReachI ls lv M false v back/\∀j,j<ls.length->ShutI ls lv false back j) /\
  l=ints (selN (fun w=>gt there w&&gt back w) M)/\(1<l.length\/SelfL ls lv v)
theorem qxj(h:LkOk ls M)(p:lv.length=ls.length){v:Nat}:EvQ (fun n=>qkb n ls lv (v:Int)) (fun r=>r=true->SelfL ls lv v):=by
 have l:=h.len;have b:∀d k,k+d=ls.length->EvQ (fun n=>qdw ls lv (v:Int) n (k:Int)) (fun o=>∀r,o=.ret r->SelfL ls lv v):=by
  intro d
  induction d with
  |zero=>
   intro k i;refine EvQ.succ ?_;simp only[qdw];exact EvQ.ff (qp (by omega)) (EvQ.done fun r m=>by cases m)
  |succ d ih=>
   intro k i;have a:k<ls.length:=by omega
   refine EvQ.succ ?_;simp only[qdw,wS k];refine EvQ.tt (qn a) (EvQ.bindN (qz (show k<lv.length by omega)) (EvQ.bif (fun c=>EvQ.bindN (qz a) (EvQ.bif (fun f=>EvQ.bindN (qz a) (EvQ.bif (fun g=>EvQ.done fun _ _=>⟨k,a,c,beq_iff_eq.1 f,beq_iff_eq.1 g⟩) (fun _=>ih (k+1) (by omega)))) (fun _=>ih (k+1) (by omega)))) (fun _=>ih (k+1) (by omega))))
 unfold qkb;refine EvQ.bind (b ls.length 0 (by omega)) ?_;rintro(r|x) ho
 ·exact EvQ.done fun _=>ho r Z
 ·exact EvQ.done fun e=>by cases e
theorem qwr(h:LkOk ls M)(t:lv.length=ls.length):EvQ (fun n=>qjt n (M:Int) ls lv) (fun o=>∀l,l∈o->LoopI ls lv M l):=by
 have L:=h.nodes;have k:∀{a back:List Bool},a.length=M->back.length=M->∀d j p f,j+d=M->p=ints (selN (fun w=>gt a w&&gt back w) j)->f.length=M ->
   EvQ (fun n=>qdN (M:Int) a back n p f (j:Int)) (fun o=>o.1=ints (selN (fun w=>gt a w&&gt back w) M)/\o.2.1.length=M):=by
  intro a back z y d
  induction d with
  |zero=>
   intro j p f D s x;obtain rfl:j=M:=by omega
   refine EvQ.succ ?_;simp only[qdN];exact EvQ.ff (qp (jf _)) (EvQ.done ⟨s,x⟩)
  |succ d ih=>
   intro j p f D s x;refine EvQ.succ ?_;simp only[qdN,wS j];refine EvQ.tt (qn (by omega)) (EvQ.bindN (b:=gt a j&&gt back j) (by rw[qz (show j<a.length by omega),qz (show j<back.length by omega)];simp only[jd];cases gt a j<;>rfl) ?_);have e:=qlE (q:=fun w=>gt a w&&gt back w) (j:=j);have J:(selN (fun w=>gt a w&&gt back w) j).length<=j:=qlI;refine EvQ.bif (fun g=>?_) (fun g=>?_)
   ·refine EvQ.bindN (qca (by rw[s,qc6];omega)) (EvQ.bindN (qz (show j<f.length by omega)) (ih (j+1) _ _ (by omega) ?_ (by rw[qa7];exact x)));rw[e,g,cond_true,s];unfold ints;rw[jY];rfl
   ·refine ih (j+1) _ _ (by omega) ?_ x;rw[e,g,cond_false,Je,s]
 have v:∀d j m c,j+d=M->m.length=M->c.length<=j->(∀l,l∈c->LoopI ls lv M l) ->
   EvQ (fun n=>qcT (M:Int) ls lv n m c (j:Int)) (fun o=>∀l,l∈o.2.1->LoopI ls lv M l):=by
  intro d
  induction d with
  |zero=>
   intro j m c D B F u;refine EvQ.succ ?_;simp only[qcT];exact EvQ.ff (qp (by omega)) (EvQ.done u)
  |succ d ih=>
   intro j m c D B F u;refine EvQ.succ ?_;simp only[qcT,wS j];refine EvQ.tt (qn (by omega)) (EvQ.bindN (qz (show j<m.length by omega)) (EvQ.bif (fun _=>ih (j+1) m c (by omega) B (by omega) u) (fun _=>?_)));refine EvQ.bind (qtL h t (fw:=true) (show j<M by omega)) (fun a z=>?_);refine EvQ.bind (qtL h t (fw:=false) (show j<M by omega)) (fun back y=>?_);refine EvQ.bind (k z.1.len y.1.len M 0 [] m (by omega) Z B) ?_;rintro⟨p,f,i⟩ ⟨A,l5⟩;dsimp only at A l5⊢;refine EvQ.bind (R:=fun r=>r=true->LoopI ls lv M p) (EvQ.bif (fun g=>EvQ.done fun _=>⟨j,a,back,by omega,z,y,A,.inl (by have:=of_decide_eq_true g;omega)⟩) (fun _=>EvQ.bind (qxj h t) (fun r I=>EvQ.done fun e=>⟨j,a,back,by omega,z,y,A,.inr (I e)⟩))) (fun K C=>?_);refine EvQ.bif (fun g=>?_) (fun _=>ih (j+1) f c (by omega) l5 (by omega) u);exact EvQ.bindN (qca (by omega)) (ih (j+1) f _ (by omega) l5 (by rw[jg,jh];omega) (qbA u (C g)))
 unfold qjt;refine EvQ.bindN (qlU (by omega)) (EvQ.bind (v M 0 (pre (fun _=>false) M) [] (by omega) qkc (jf _) (fun _ t=>by cases t)) ?_);rintro⟨_,c,_⟩ H;exact EvQ.done H
theorem quA(_:LkOk ls M)(A:∀k k',k<ls.length->k'<ls.length->(gt ls k).Be≠1->(gt ls k').Be≠1->toL ls k≠frL ls k'){l:List Int}(L:LoopI ls lv M l) :
  ∃k,k<ls.length/\gt lv k=true/\(gt ls k).Be=1/\frL ls k∈l/\toL ls k∈l:=by
 obtain⟨v,c,back,N,⟨z,D⟩,⟨x,C⟩,e,m⟩:=L.ex;have mem:∀w:Nat,w<M->gt c w=true->gt back w=true->(w:Int)∈l:=fun w H I J=>by
  rw[e,qjF,qlp];exact⟨H,by rw[I,J];rfl⟩
 rcases m with m|⟨k,k1,k2,k3,k4⟩
 · -- another node of the loop
  obtain⟨w,f,g⟩:∃w,w∈selN (fun w=>gt c w&&gt back w) M/\w≠v:=by
   have i:(selN (fun w=>gt c w&&gt back w) M).Nodup:=List.nodup_range.filter _;have d:1<(selN (fun w=>gt c w&&gt back w) M).length:=by rw[e,qc6] at m;exact m
   generalize selN (fun w=>gt c w&&gt back w) M=S at i d
   match S,i,d with
   |a::b::S,i,_=>
    by_cases t:a=v
    ·refine⟨b,by simp,fun F=>?_⟩;rw[List.nodup_cons] at i;exact i.1 (by rw[t,<-F];simp)
    ·exact⟨a,by simp,t⟩
  rw[qlp,je] at f;obtain⟨n,p,o⟩:=f;rcases z.wit w n p with e1|⟨k1,a1,p1,p2,p3,p4,p5,p6⟩
  ·exact absurd e1 g
  rcases x.wit w n o with e1|⟨k2,a2,q1,q2,q3,q4,q5,q6⟩
  ·exact absurd e1 g
  have u:frL ls k1=(a1:Int):=p3;have s:toL ls k1=(w:Int):=p6;have r:frL ls k2=(w:Int):=q6;have B:toL ls k2=(a2:Int):=q3;by_cases K1:(gt ls k1).Be=1
  ·exact⟨k1,p1,p2,K1,by rw[u];exact mem a1 p4 p5 (C k1 p1 p2 w a1 s u o),by rw[s];exact mem w n p o⟩
  ·by_cases K2:(gt ls k2).Be=1
   ·exact⟨k2,q1,q2,K2,by rw[r];exact mem w n p o,by rw[B];exact mem a2 q4 (D k2 q1 q2 w a2 r B p) q5⟩
   ·exact absurd (s.trans r.symm) (A k1 k2 p1 q1 K1 K2)
 ·have y:=mem v N z.self x.self;refine⟨k,k1,k2,?_,by rw[k3];exact y,by rw[k4];exact y⟩;exact Classical.byContradiction fun K=>A k k k1 k1 K K (k4.trans k3.symm)
theorem qtO{xs:List Int}{x:Int}(h:x∈xs):(xs.any fun y=>y==x)=true:=List.any_eq_true.2 ⟨x,h,by simp⟩
theorem qwa(h:LkOk ls M)(P:∀k k',k<ls.length->k'<ls.length->(gt ls k).Be≠1->(gt ls k').Be≠1->toL ls k≠frL ls k'):∀(d:Nat) (lv:List Bool),lv.length=ls.length->lv.countP id<d ->
  EvQ (fun n=>qgg ls (M:Int) n lv) (fun o=>o.length=ls.length):=by
 have O:=h.len;have S:=h.nodes;intro d
 induction d with
 |zero=>intro lv _ R;omega
 |succ d ih=>
  intro lv A T;refine EvQ.succ ?_;simp only[qgg];refine EvQ.bind (qwr h A) (fun p C=>?_);refine EvQ.bif (fun _=>EvQ.done A) (fun l=>?_);cases p with
  |nil=>simp at l
  |cons l0 p=>
   have D:=C l0 (by simp);have g:l0.length<=1048576:=by
    obtain⟨_,_,_,_,_,_,e,_⟩:=D.ex;rw[e,qc6];exact Jh qlI (by omega)
   obtain⟨s,Q,F,H,I,J⟩:=quA h P D;have i0:idx (l0::p) 0=V l0:=rfl;have m:∀d j c,j+d=ls.length->((∃k:Nat,c=(k:Int)/\k<ls.length/\gt lv k=true)\/j<=s) ->
     EvQ (fun n=>qbw ls lv (l0::p) n c (j:Int)) (fun o=>∃k:Nat,o.1=(k:Int)/\k<ls.length/\gt lv k=true):=by
    intro d
    induction d with
    |zero=>
     intro j c N hi;refine EvQ.succ ?_;simp only[qbw];refine EvQ.ff (qp (by omega)) (EvQ.done ?_);rcases hi with hi|hi
     ·exact hi
     ·omega
    |succ d ih2=>
     intro j c N hi;have a:j<ls.length:=by omega
     have nx:∀{i},((∃k:Nat,i=(k:Int)/\k<ls.length/\gt lv k=true)\/j+1<=s)->EvQ (fun n=>qbw ls lv (l0::p) n i ((j+1:Nat):Int)) (fun o=>∃k:Nat,o.1=(k:Int)/\k<ls.length/\gt lv k=true):=fun L=>ih2 (j+1) _ (by omega) L;have skip:j≠s->(∃k:Nat,c=(k:Int)/\k<ls.length/\gt lv k=true)\/j+1<=s:=fun l=>by
      rcases hi with hi|hi
      ·exact .inl hi
      ·exact .inr (by omega)
     refine EvQ.succ ?_;simp only[qbw,wS j];refine EvQ.tt (qn a) (EvQ.bindN (qz (show j<lv.length by omega)) (EvQ.bif (fun c1=>EvQ.bindN (qz a) (EvQ.bif (fun t=>EvQ.bindN i0 (EvQ.bindN (qz a) (EvQ.bindE (qo3 g) (EvQ.bif (fun u=>EvQ.bindN i0 (EvQ.bindN (qz a) (EvQ.bindE (qo3 g) (EvQ.bif (fun v=>nx (.inl ⟨j,rfl,a,c1⟩)) (fun v=>nx (skip fun e=>?_)))))) (fun u=>nx (skip fun e=>?_)))))) (fun t=>nx (skip fun e=>?_)))) (fun c1=>nx (skip fun e=>?_))))
     ·subst e;have:=qtO J;unfold toL at this;rw[this] at v;cases v
     ·subst e;have:=qtO I;unfold frL at this;rw[this] at u;cases u
     ·subst e;rw[H] at t;cases t
     ·subst e;rw[F] at c1;cases c1
   refine EvQ.bind (m ls.length 0 (-1) (by omega) (.inr (Jd _))) ?_;rintro⟨c,W⟩ ⟨k,rfl,f,B⟩;have b:k<lv.length:=by omega
   refine EvQ.bindN (qz b) (ih _ (by rw[qa7];exact A) ?_);have e:setS lv (k:Int) false=lv.set k false:=by unfold setS;rw[jp]
   rw[e];have z:lv[k]=true:=by rw[<-qd6 b];exact B
   have x:∀(xs:List Bool) (k:Nat) (f:k<xs.length),xs[k]=true->(xs.set k false).countP id+1=xs.countP id:=by
    intro xs
    induction xs with
    |nil=>intro k f;cases f
    |cons y xs ih3=>
     intro k f r;cases k with
     |zero=>
      have r:y=true:=r;subst r;simp
     |succ k=>
      have K:k<xs.length:=by simpa using f
      have:=ih3 k K (by simpa using r);rw[List.set_cons_succ,List.countP_cons,List.countP_cons];omega
   have:=x lv k b z;omega
end
theorem qq6{b:qe}(h:blockB b=true){x:qt}(c:x∈linksL b)(p:x.Be≠1) :
  ∃(m s:Nat) (t:Int),b01 t/\x.Bl=2*(m:Int)+t/\x.To=2*(s:Int)+t/\(gt (places b.Aa) m).drives=true/\(gt (places b.Aa) s).drives=false:=by
 have o:=qaz h;have r:=qky h;unfold linksL at c;rcases List.mem_append.1 c with c|c
 ·obtain⟨i,hi,c⟩:=qne c;obtain⟨a,u,c⟩:=qne c;unfold arcLs at c;obtain⟨t,v,rfl⟩:=List.mem_map.1 c;exact absurd Z p
 ·obtain⟨i,hi,c⟩:=qne c;obtain⟨k,f,c⟩:=qne c;obtain⟨y,z,n,g⟩:=qn2 f;have d:=(qiJ o (k:=i) (by omega)).2;unfold wl1 at c;simp only[jL,jy,or_false] at c;have l:=(qmL.1 d).2;have d2:(gt (places b.Aa) y).drives=false:=by
   unfold snkQ at g;simp only[je,jG] at g;exact g.2
  rcases c with c|c
  ·exact⟨_,y,0,.inl Z,by rw[c,Jf],by rw[c,Jf,n],l,d2⟩
  ·exact⟨_,y,1,.inr Z,by rw[c],by rw[c,n],l,d2⟩
theorem qty{b:qe}(h:blockB b=true):∀k a,k<(linksL b).length->a<(linksL b).length->(gt (linksL b) k).Be≠1->(gt (linksL b) a).Be≠1->toL (linksL b) k≠frL (linksL b) a:=by
 intro k a o f m n e;obtain⟨v,s,t,p,y,A,u,d2⟩:=qq6 h (qfh o) m;obtain⟨d,s',z,g,l,r,c,i⟩:=qq6 h (qfh f) n;have x:(gt (linksL b) k).To=(gt (linksL b) a).Bl:=e;have:s=d:=by rcases p with e|e<;>rcases g with e2|e2<;>omega
 rw[this,c] at d2;cases d2
theorem qvO{b:qe}(h:blockB b=true):EvQ (fun n=>qjw n b) (fun o=>okL okI o):=by
 have m:=qhB h;have l:=m.len;have k:=qld h;unfold qjw;refine EvQ.bindE (qd8 h) (EvQ.bindE (qiq l (by simp)) (EvQ.bindE k (EvQ.bind (qwa m (qty h) _ _ qjz (Nat.lt_succ_self _)) (fun p t=>?_))));have c:∀d j a,j+d=(linksL b).length->a.length<=j->(∀y,y∈a->okI y)->EvQ (fun n=>qdU (lvB [] (linksL b).length) p n a (j:Int)) (fun o=>o.1.length<=10000/\∀y,y∈o.1->okI y):=by
  intro d
  induction d with
  |zero=>
   intro j a s g f;refine EvQ.succ ?_;simp only[qdU,qjz];exact EvQ.ff (qp (by omega)) (EvQ.done ⟨by dsimp only;omega,f⟩)
  |succ d ih=>
   intro j a s g f;refine EvQ.succ ?_;simp only[qdU,qjz,wS j];refine EvQ.tt (qn (by omega)) (EvQ.bindN (qz (show j<p.length by omega)) (EvQ.bif (fun _=>?_) (fun _=>ih (j+1) a (by omega) (by omega) f)));exact EvQ.bindN (qca (by omega)) (ih (j+1) _ (by omega) (by rw[jg,jh];omega) (qbA f (qaE (by omega) (by omega))))
 refine EvQ.bind (c (linksL b).length 0 [] (by omega) (jf _) (fun _ u=>by cases u)) ?_;rintro⟨a,i⟩ ⟨r,g⟩;exact EvQ.done ⟨by dsimp only at r⊢;omega,g⟩

def swV(j:qax)(t:qx):Option Tl20Work:=V ⟨j,linksL j.Ac,lvJ j.Ac j.Bh,t⟩
theorem qtG{j:qax}(h:qjb j) :
  (∃code:Int,code≠0/\Ev (fun n=>qb6 n j) (U,code)/\∀mode nodes,Ev (fun n=>qht n j mode nodes) (U,code)) \/
  ∃t R,WkOk j t R/\Ev (fun n=>qb6 n j) (swV j t,0)/\∀mode nodes,nodes.length<=1048576->(mode=0\/mode=1) ->
   Ev (fun n=>qht n j mode nodes) (bif nodes.all (fun x=>inI x 0 ((ndB j.Ac:Int)-1)) then(wkV j t R,0) else(U,4)):=by
 have c:=h.Bh.len;unfold qb6 qht;rcases qtI h with⟨code,hne,hs,hi⟩|⟨t,R,hw,hs,hi⟩
 ·exact .inl ⟨code,hne,Ev.bind hs (Ev.tt (qih hne) .done),fun mode nodes=>Ev.bind hi (Ev.tt (qih hne) .done)⟩
 ·have a:=hw.tg.bl;have d:=qdR a;have g:=qaU (qaj (qaz a));have l:=qiq (ls:=linksL j.Ac) (br:=j.Bh) d c;refine .inr ⟨t,R,hw,Ev.bind hs (Ev.ff Z (Ev.bind (qd8 a) (Ev.bind l .done))),fun mode nodes k i=>Ev.bind hi (Ev.ff Z ?_)⟩;have f:=qow (v:=viewV j.Ac) g;have e1:W64 (((2*(viewV j.Ac).places.length:Nat):Int)-1)=(ndB j.Ac:Int)-1:=by
   show W64 (((2*(places j.Ac.Aa).length:Nat):Int)-1)=_;rw[qN (by omega) (by omega)]
  unfold wkV grB;simp only[jd,f,e1];refine Ev.bind (qeH k) ?_;cases nodes.all fun x=>inI x 0 ((ndB j.Ac:Int)-1)
  ·exact Ev.tt Z .done
  ·refine Ev.ff Z ?_;rcases i with rfl|rfl<;>exact Ev.bind (b:=true) (Ev.now Z) (Ev.ff Z .done)
theorem qrI{j:qax}{t:qx}{node:Int}(h:j.Ap.length<=1048576):Ev (fun n=>qhj n (swV j t) node) ((srcV (srcO j.Ap node)).2,(srcV (srcO j.Ap node)).1):=by
 have g:Ev (fun n=>qc0 (swV j t) node n 0) (match srcO j.Ap node with|some y=>.ret (y,true)|none=>.nxt (j.Ap.length:Int)):=by
  have c:∀d i,i+d=j.Ap.length->(j.Ap.take i).find? (fun s=>s.Bm==node)=U->Ev (fun n=>qc0 (swV j t) node n (i:Int)) (match srcO j.Ap node with|some y=>.ret (y,true)|none=>.nxt (j.Ap.length:Int)):=by
   intro d
   induction d with
   |zero=>
    intro i hi b;obtain rfl:i=j.Ap.length:=by omega
    rw[jN] at b;unfold srcO;rw[b];refine Ev.succ ?_;simp only[qc0,swV,jd,qp (jf _),cond_false];exact .done
   |succ d ih=>
    intro i hi b;have a:i<j.Ap.length:=by omega
    refine Ev.succ ?_;simp only[qc0,swV,jd,qn a,cond_true,qz a,wS i];cases hq:(gt j.Ap i).Bm==node
    ·refine ih (i+1) (by omega) ?_;rw[jz a,List.find?_append,b,<-qd6 a,List.find?_cons_of_neg (by simp[hq])]
     rfl
    ·have f:j.Ap.drop i=gt j.Ap i::j.Ap.drop (i+1):=by rw[qd6 a];exact jJ a
     have:srcO j.Ap node=V (gt j.Ap i):=by
      generalize gt j.Ap i=y at hq f;unfold srcO;rw[<-List.take_append_drop i j.Ap,List.find?_append,b,f,List.find?_cons_of_pos (by simpa using hq)]
      rfl
     rw[this];exact .done
  exact c j.Ap.length 0 (by omega) Z
 unfold qhj;refine Ev.bind g ?_;cases srcO j.Ap node<;>exact .done
def atP(ls:List qt)(start:Int)(path:List Int):Nat->Int
 |0=>start
 |j+1=>(gt ls (at0 path j).toNat).To
def okP(ls:List qt)(lv:List Bool)(start:Int)(path:List Int)(j:Nat):Bool:=
 inI (at0 path j) 0 ((ls.length:Int)-1)&&(gt lv (at0 path j).toNat&&((gt ls (at0 path j).toNat).Bl==atP ls start path j))
def pathB(j:qax)(start:Int)(path:List Int):Bool:=(srcV (srcO j.Ap start)).1&&allN (okP (linksL j.Ac) (lvJ j.Ac j.Bh) start path) path.length
def endB(j:qax)(start:Int)(path:List Int):Int:=atP (linksL j.Ac) start path path.length
theorem inRange{x:Int}{m:Nat}(h:inI x 0 ((m:Int)-1)=true):0<=x/\x<(m:Int)/\x.toNat<m:=by rw[qa9] at h;omega
theorem quq{j:qax}{t:qx}{start:Int}{path:List Int}(k:blockB j.Ac=true)(l:j.Ap.length<=1048576)(o:path.length<=1048576):∃e:Int,Ev (fun n=>qk1 n (swV j t) start path) (e,pathB j start path)/\(pathB j start path=true->e=endB j start path):=by
 have m:=qdR k;have f:(lvJ j.Ac j.Bh).length=lkB j.Ac:=qjz;have a:=qrI (j:=j) (t:=t) (node:=start) l;unfold qk1 pathB;cases hs:(srcV (srcO j.Ap start)).1
 ·rw[hs] at a;refine⟨start,Ev.bind a (Ev.bind (b:=.nxt (start,0)) (Ev.succ ?_) .done),fun e=>by cases e⟩;unfold qe7;cases decide ((0:Int)<(path.length:Int))<;>exact .done
 ·rw[hs] at a;have d:=loopN (Lf:=fun n i x=>qe7 (swV j t) path true n i x) (S:=atP (linksL j.Ac) start path) (p:=okP (linksL j.Ac) (lvJ j.Ac j.Bh) start path) (len:=path.length) (bad:=((0:Int),false)) (fin:=(endB j start path,(path.length:Int)))
   (fun n=>by simp only[qe7,qp (jf _),cond_false,jd];rfl)
   (fun i hi _ X c=>by
    have h:W64 (((linksL j.Ac).length:Int)-1)=((linksL j.Ac).length:Int)-1:=qN (by omega) (by omega);simp only[qe7,qn hi,cond_true,jd,qai hi,swV,qcY,h,wS i];unfold okP at c⊢;cases hr:inI (at0 path i) 0 (((linksL j.Ac).length:Int)-1)
    ·exact Ev.bind (b:=true) (Ev.tt Z .done) (Ev.tt Z .done)
    ·obtain⟨g,r1,r⟩:=inRange hr;rw[hr] at c;simp only[qd2 g r1,qd2 g (show at0 path i<((lvJ j.Ac j.Bh).length:Int) by rw[f];exact r1),jd];cases hv:gt (lvJ j.Ac j.Bh) (at0 path i).toNat
     ·exact Ev.bind (b:=true) (Ev.ff Z (Ev.tt Z .done)) (Ev.tt Z .done)
     ·rw[hv] at c;cases hf:(gt (linksL j.Ac) (at0 path i).toNat).Bl==atP (linksL j.Ac) start path i
      ·exact Ev.bind (b:=true) (Ev.ff Z (Ev.ff Z (Ev.now (by simp only[bne,hf];rfl)))) (Ev.tt Z .done)
      ·rw[hf] at c;exact Ev.bind (b:=false) (Ev.ff Z (Ev.ff Z (Ev.now (by simp only[bne,hf];rfl)))) (Ev.ff Z (c Z)))
  cases hb:allN (okP (linksL j.Ac) (lvJ j.Ac j.Bh) start path) path.length
  ·rw[hb] at d;exact⟨0,Ev.bind a (Ev.bind d .done),fun e=>by cases e⟩
  ·rw[hb] at d;exact⟨endB j start path,Ev.bind a (Ev.bind d .done),fun _=>rfl⟩
def linkB(ls:List qt)(path:List Int)(j:Nat):Bool:=inI (at0 path j) 0 ((ls.length:Int)-1)&&(decide (j=0) || (gt ls (at0 path (j-1)).toNat).To==(gt ls (at0 path j).toNat).Bl)
theorem qq3{v:Tview}{path:List Int}(h:v.links.length<=10000)(o:path.length<=1048576):Ev (fun n=>qgc n (V v) path) (allN (linkB v.links path) path.length):=by
 have g:=loopN (τ:=Unit) (Lf:=fun n _ x=>qcs (V v) path n x) (S:=fun _=>()) (p:=linkB v.links path) (len:=path.length) (bad:=false) (fin:=(path.length:Int))
  (fun n=>by simp only[qcs,qp (jf _),cond_false])
  (fun i hi b X a=>by
   have f:W64 ((v.links.length:Int)-1)=(v.links.length:Int)-1:=qN (by omega) (by omega);simp only[qcs,qn hi,cond_true,jd,qai hi,qjf,qdC,qdd,f,wS i];unfold linkB at a⊢;cases hr:inI (at0 path i) 0 ((v.links.length:Int)-1)
   ·exact .done
   ·obtain⟨m,r1,r⟩:=inRange hr;rw[hr] at a;refine Ev.ff Z ?_;by_cases d:i=0
    ·subst d;exact Ev.ff Z (a Z)
    ·refine Ev.tt (decide_eq_true (by omega)) ?_;have c:=b (i-1) (by omega);unfold linkB at c;rw[je] at c;obtain⟨k,l,_⟩:=inRange c.1;rw[show(i:Int)-1=((i-1:Nat):Int) by omega,qN (by omega) (by omega)];simp only[qai (show i-1<path.length by omega),jd,qd2 k l,qd2 m r1,bne];rw[decide_eq_false d] at a⊢;cases he:(gt v.links (at0 path (i-1)).toNat).To==(gt v.links (at0 path i).toNat).Bl
     ·exact .done
     ·rw[he] at a;exact a Z)
 unfold qgc;refine Ev.bind g ?_;cases allN (linkB v.links path) path.length<;>exact .done
theorem qs5{j:qax}{t:qx}{R:List Nat}{path:List Int}(h:path.length<=1048576)(d:∀x,x∈path->0<=x/\x<(lkB j.Ac:Int)):Ev (fun n=>qad n path (wkV j t R)) (!path.all fun x=>gt (lvJ j.Ac j.Bh) x.toNat):=by
 have b:(lvJ j.Ac j.Bh).length=lkB j.Ac:=qjz;have c:Ev (fun n=>qaW n path (wkV j t R)) (ixL (fun x=>!gt (lvJ j.Ac j.Bh) x.toNat) path):=
  qge (fin:=(path.length:Int)) (Lf:=qaf path (wkV j t R)) (xs:=path) (pf:=fun n x=>qfJ n x (wkV j t R)) (fun x a=>by
    obtain⟨f,g⟩:=d x a;unfold qfJ wkV grB;simp only[jd,qd2 f (show x<((lvJ j.Ac j.Bh).length:Int) by rw[b];exact g)];exact .done)
   (fun n=>by simp only[qaf,qp (jf _),cond_false])
   (fun n i x a=>by
    have hi:=(List.getElem?_eq_some_iff.1 a).1;simp only[qaf,qn hi,cond_true,qhk a,jd,wS i])
   (fun n=>by unfold qaW;congr 1;funext o;cases o<;>rfl)
 unfold qad;refine Ev.bind c (Ev.now ?_);rw[qmN,<-qov,Bool.not_not]
theorem qsL{j:qax}{t:qx}{R:List Nat}{start:Int}{path:List Int}(B:blockB j.Ac=true)(F:j.Ap.length<=1048576)(z:path.length<=1048576):Ev (fun n=>qgu n (wkV j t R) start path) (pathB j start path):=by
 have l:=qdR B;have C:=qoc (xs:=j.Ap) (node:=start) F;have d:=qq3 (v:=viewV j.Ac) (path:=path) l z;have A:(viewV j.Ac).links=linksL j.Ac:=rfl;rw[A] at d;have fr:path.length≠0->allN (linkB (linksL j.Ac) path) path.length=true->∃k:Nat,k<lkB j.Ac/\at0 path 0=(k:Int):=fun c a=>by
  rw[qah] at a;have:=a 0 (by omega);unfold linkB at this;rw[je] at this;obtain⟨g,r,H⟩:=inRange this.1;exact⟨(at0 path 0).toNat,H,qdP g⟩
 have m:allN (linkB (linksL j.Ac) path) path.length=true->∀x,x∈path->0<=x/\x<(lkB j.Ac:Int):=fun a x o=>by
  obtain⟨i,hi,rfl⟩:=List.mem_iff_getElem.1 o;rw[qah] at a;have:=a i hi;unfold linkB at this;rw[je] at this;obtain⟨g,r,_⟩:=inRange this.1;rw[qjR hi] at g r;exact⟨g,r⟩
 have p:allN (okP (linksL j.Ac) (lvJ j.Ac j.Bh) start path) path.length=(allN (linkB (linksL j.Ac) path) path.length&&(bif decide (path.length=0) then true else((gt (linksL j.Ac) (at0 path 0).toNat).Bl==start)&&path.all fun x=>gt (lvJ j.Ac j.Bh) x.toNat)):=by
  rw[jm,je,qah,qah];unfold okP linkB;simp only[je,Bool.or_eq_true,decide_eq_true_eq,beq_iff_eq];constructor
  ·intro f;refine⟨fun i hi=>⟨(f i hi).1,?_⟩,?_⟩
   ·cases i with
    |zero=>exact .inl Z
    |succ i=>exact .inr (f (i+1) hi).2.2.symm
   ·by_cases c:path.length=0
    ·rw[decide_eq_true c];rfl
    ·rw[decide_eq_false c];simp only[cond_false,je,beq_iff_eq,jM];refine⟨(f 0 (by omega)).2.2,fun x o=>?_⟩;obtain⟨i,hi,rfl⟩:=List.mem_iff_getElem.1 o;rw[<-qjR hi];exact(f i hi).2.1
  ·rintro⟨y,a⟩ i hi;rw[decide_eq_false (by omega)] at a;simp only[cond_false,je,beq_iff_eq,jM] at a;refine⟨(y i hi).1,by rw[qjR hi];exact a.2 _ (jn hi),?_⟩;cases i with
   |zero=>exact a.1
   |succ i=>
    rcases (y (i+1) hi).2 with e|e
    ·omega
    ·exact e.symm
 unfold qgu pathB;rw[p];show Ev (fun n=>(qcW n j.Ap start).bind _) _;refine Ev.bind C ?_;cases hs:(srcV (srcO j.Ap start)).1
 ·exact Ev.bind (b:=true) (Ev.tt Z .done) (Ev.tt Z .done)
 ·cases a:allN (linkB (linksL j.Ac) path) path.length
  ·rw[a] at d;exact Ev.bind (b:=true) (Ev.ff Z (Ev.bindN Z (Ev.bind d .done))) (Ev.tt Z .done)
  ·have u:=qs5 (j:=j) (t:=t) (R:=R) z (m a);have h:=fr;rw[a] at d;refine Ev.bind (b:=false) (Ev.ff Z (Ev.bindN Z (Ev.bind d .done))) (Ev.ff Z ?_);by_cases c:path.length=0
   ·rw[decide_eq_true c];refine Ev.ff (decide_eq_false (by omega)) (Ev.bind u (Ev.now ?_));rw[List.length_eq_zero_iff.1 c]
    rfl
   ·rw[decide_eq_false c];obtain⟨k,D,s⟩:=h c a;refine Ev.tt (decide_eq_true (by omega)) ?_;show Ev (fun n=>(idx path 0).bind fun J=>(idx (linksL j.Ac) J).bind fun K=>bif (K.Bl != start) then V false else(qad n path (wkV j t R)).bind fun I=>V (!I)) _;rw[show idx path (0:Int)=V (k:Int) by rw[show(0:Int)=((0:Nat):Int) from rfl,qai (by omega),s]];simp only[jd,qz D,bne];rw[s,jp];cases (gt (linksL j.Ac) k).Bl==start
    ·exact .done
    ·refine Ev.ff Z (Ev.bind u (Ev.now ?_));rw[Bool.not_not]
     rfl
theorem qsy{j:qax}{start:Int}{path:List Int}(h:qjb j)(c:path.length<=1048576){mode:Int}(b:mode=0\/mode=1) :
  (∃code:Int,code≠0/\Ev (fun n=>qb6 n j) (U,code)/\Ev (fun n=>qbo n j mode start path) (U,code)) \/
  ∃t R,WkOk j t R/\Ev (fun n=>qb6 n j) (swV j t,0)/\Ev (fun n=>qbo n j mode start path) (bif pathB j start path then(wkV j t R,0) else(U,5)):=by
 unfold qbo;rcases qtG h with⟨code,hne,hs,hi⟩|⟨t,R,hw,hs,hi⟩
 ·exact .inl ⟨code,hne,hs,Ev.bind (hi mode []) (Ev.ff (by simpa using hne) .done)⟩
 ·have a:=qsL (t:=t) (R:=R) (start:=start) hw.tg.bl h.Ap.len c;refine .inr ⟨t,R,hw,hs,Ev.bind (hi mode [] (Jd _) b) (Ev.tt Z (Ev.bind a ?_))⟩;cases pathB j start path<;>exact .done

section
variable{code:List (IntK .u8)}{a s:Int}
theorem qtK{α:Type}{P:α->Prop}{x y z:α}{i:Int}(d:0<=i)(f:i<3)(a:P x)(b:P y)(c:P z):∃v,idx [x,y,z] i=V v/\P v:=by
 have:i=0\/i=1\/i=2:=by omega
 rcases this with rfl|rfl|rfl
 ·exact⟨x,rfl,a⟩
 ·exact⟨y,rfl,b⟩
 ·exact⟨z,rfl,c⟩
theorem qoC{x y:Int}(h:(x==y)=false):x≠y:=by simpa using h
theorem qjW{x:Int}(a:-2000000000<=x)(b:x<=2000000000):okI x:=qaE (by omega) (by omega)
theorem qve(c:CodeOk code)(h:SrcI code a s):EvQ (fun n=>qgH n ⟨code,a,s⟩) (fun o=>qpc o.1/\SrcI code o.2.1 o.2.2):=by
 unfold qgH;refine EvQ.bind (qam 3 c h) ?_;rintro⟨M,N,O⟩ ⟨⟨⟨k,p1⟩,_⟩,b⟩;dsimp only at k p1 b⊢;obtain⟨Y,f,d⟩:=qtK (P:=okS) (x:=(⟨#[115,108,111,119]⟩:ByteArray)) (y:=(⟨#[102,97,115,116]⟩:ByteArray)) (z:=(⟨#[116,121,112]⟩:ByteArray)) k (p1 (by decide)) (by show(4:Nat)<=1048576;decide) (by show(4:Nat)<=1048576;decide) (by show(3:Nat)<=1048576;decide);refine EvQ.bindN f (EvQ.bind (qam 20 c b) ?_);rintro⟨Q,R,S⟩ ⟨_,b⟩;refine EvQ.bind (qam 20 c b) ?_;rintro⟨T,W,X⟩ ⟨_,b⟩;refine EvQ.bind (qam 60 c b) ?_;rintro⟨p,r,t⟩ ⟨_,b⟩;refine EvQ.bind (qam 40 c b) ?_;rintro⟨u,v,A⟩ ⟨_,b⟩;refine EvQ.bind (qam 30 c b) ?_;rintro⟨B,C,D⟩ ⟨_,b⟩;dsimp only at b⊢;refine EvQ.bif (fun _=>EvQ.done ⟨⟨d,qaR _,qaR _,qaR _,qaR _⟩,b⟩) (fun _=>EvQ.bif (fun _=>EvQ.bind (qam 3 c b) ?_) (fun _=>EvQ.bif (fun _=>EvQ.bind (qam 2 c b) ?_) (fun _=>EvQ.bif (fun _=>EvQ.done ⟨⟨by show(0:Nat)<=1048576;decide,qaR _,qaR _,qaR _,qaR _⟩,b⟩) (fun _=>EvQ.done ⟨⟨d,qaR _,qaR _,qaR _,qaR _⟩,b⟩))))
 ·rintro⟨F,H,I⟩ ⟨⟨⟨l,m⟩,_⟩,b⟩;dsimp only at l m b⊢;obtain⟨e,g,i⟩:=qtK (P:=okI) (x:=(99:Int)) (y:=100) (z:=-1) l (m (by decide)) (qjW (by decide) (by decide)) (qjW (by decide) (by decide)) (qjW (by decide) (by decide));exact EvQ.bindN g (EvQ.done ⟨⟨d,qaR _,qaR _,i,qaR _⟩,b⟩)
 ·rintro⟨J,K,L⟩ ⟨_,b⟩;exact EvQ.done ⟨⟨d,qaR _,qaR _,qaR _,qaR _⟩,b⟩
theorem qsS(d:CodeOk code)(h:SrcI code a s):EvQ (fun n=>qgV n ⟨code,a,s⟩) (fun o=>BlkO o.1/\SrcI code o.2.1 o.2.2):=by
 unfold qgV;refine EvQ.bind (qam 12 d h) ?_;rintro⟨k,l,m⟩ ⟨_,b⟩;dsimp only at b⊢;refine EvQ.bif (fun _=>EvQ.bind (qtF d b) ?_) (fun _=>EvQ.bif (fun _=>EvQ.bif (fun _=>EvQ.bind (qnr (by decide) (by decide) d b) ?_) (fun _=>EvQ.bind (qnr (by decide) (by decide) d b) ?_)) (fun _=>EvQ.bif (fun _=>EvQ.bind (qnr (by decide) (by decide) d b) ?_) (fun _=>EvQ.bind (qnr (by decide) (by decide) d b) ?_)))
 ·rintro⟨r,f,g⟩ i;exact EvQ.done i
 ·rintro⟨r,f,g⟩ ⟨c,b⟩;exact EvQ.done ⟨⟨c.ok,c.des.sm⟩,b⟩
 ·rintro⟨r,f,g⟩ ⟨c,b⟩;exact EvQ.done ⟨⟨c.ok,c.des.sm⟩,b⟩
 ·rintro⟨r,f,g⟩ ⟨c,b⟩;exact EvQ.done ⟨⟨c.ok,c.des.sm⟩,b⟩
 ·rintro⟨r,f,g⟩ ⟨c,b⟩;exact EvQ.done ⟨⟨c.ok,c.des.sm⟩,b⟩
theorem qvw{b:qe}(C:BlkO b)(k:CodeOk code)(h:SrcI code a s):EvQ (fun n=>qgt n ⟨code,a,s⟩ b) (fun o=>okL okI o.1/\SrcI code o.2.1 o.2.2):=by
 unfold qgt;refine EvQ.bind (R:=fun o:Int×Int×Bool=>SrcI code o.1 o.2.1/\(o.2.2=false->blockB b=true)) (EvQ.bindE (qhf C.ok) (EvQ.bif (fun _=>EvQ.done ⟨h,fun e=>by cases e⟩) (fun g=>EvQ.bind (qam 3 k h) ?_))) ?_
 ·rintro⟨W,X,Y⟩ ⟨_,c⟩;exact EvQ.done ⟨c,fun _=>by simpa using g⟩
 rintro⟨i1,i2,b1⟩ ⟨c,g⟩;dsimp only at c g⊢;refine EvQ.bif (fun _=>EvQ.done ⟨⟨Jd _,fun _ h=>by cases h⟩,c⟩) (fun t=>?_);have g:=g t;have H:=qdR g;refine EvQ.bindE (qd8 g) (EvQ.bind (qam 8 k c) ?_);rintro⟨u,i4,i5⟩ ⟨⟨⟨p0,p1⟩,_⟩,c⟩;dsimp only at p0 p1 c⊢;have p2:=p1 (by decide);have v:W64 (1+u)=1+u:=qN (by omega) (by omega);rw[v];refine EvQ.bind (qam _ k c) ?_;rintro⟨z,i7,i8⟩ ⟨⟨⟨q0,A⟩,_⟩,c⟩;dsimp only at q0 A c⊢;have q2:=A (by omega);obtain⟨j,rfl⟩:∃j:Nat,z=(j:Int):=⟨z.toNat,by omega⟩;have m:∀(d j:Nat) (x:List Int) (p s':Int),SrcI code p s'->(linksL b).length<=j+d->x.length<=j->j<=(linksL b).length+8->(∀y,y∈x->okI y) ->
   EvQ (fun n=>qcw ⟨code,a,s⟩ (linksL b) u n x p s' (j:Int)) (fun o=>(o.1.length<=20000/\∀y,y∈o.1->okI y)/\SrcI code o.2.1 o.2.2.1):=by
  intro d
  induction d with
  |zero=>
   intro j x p s' c D I F f;refine EvQ.succ ?_;simp only[qcw];exact EvQ.ff (qp (by omega)) (EvQ.done ⟨⟨by dsimp only;omega,f⟩,c⟩)
  |succ d ih=>
   intro j x p s' c D I F f;refine EvQ.succ ?_;simp only[qcw,v];refine EvQ.bif (fun l=>?_) (fun _=>EvQ.done ⟨⟨by dsimp only;omega,f⟩,c⟩);have l:j<(linksL b).length:=by have:=of_decide_eq_true l;omega
   refine EvQ.bindN (qca (by omega)) (EvQ.bind (qam _ k c) ?_);rintro⟨i,L,M⟩ ⟨⟨⟨t0,B⟩,_⟩,c⟩;dsimp only at t0 B c⊢;have t2:=B (by omega);have e1:W64 ((j:Int)+W64 (1+i))=((j+(1+i.toNat):Nat):Int):=by rw[wO (1+i),qN (by omega) (by omega)];omega
   rw[e1];exact ih _ _ _ _ c (by omega) (by rw[jg,jh];omega) (by omega) (qbA f (qjW (by omega) (by omega)))
 refine EvQ.bind (m (linksL b).length j [] i7 i8 c (by omega) (Jd _) (by omega) (fun _ h=>by cases h)) ?_;rintro⟨x1,i9,J,K⟩ ⟨⟨l1,r⟩,c⟩;dsimp only at l1 r c⊢;refine EvQ.bind (qam 12 k c) ?_;rintro⟨N,O,P⟩ ⟨_,c⟩;dsimp only at c⊢;refine EvQ.bif (fun _=>EvQ.bind (qam 2 k c) ?_) (fun _=>EvQ.done ⟨⟨by dsimp only;omega,r⟩,c⟩);rintro⟨Q,S,T⟩ ⟨_,c⟩;exact EvQ.bindN (qca (by omega)) (EvQ.done ⟨⟨by show(_++_:List Int).length<=_;rw[jg,jh];omega,qbA r (qaR _)⟩,c⟩)
theorem qrd{b:qe}(A:BlkO b)(m:CodeOk code)(h:SrcI code a s):EvQ (fun n=>qey n ⟨code,a,s⟩ b) (fun o=>okL qhw o.1/\SrcI code o.2.1 o.2.2):=by
 have N:=qaU A.sm;have two:∀{H:Int} {b1:Bool} (d j:Nat) (x:List qi) (l s':Int),SrcI code l s'->j+d=2->x.length+d<=1000->(∀y,y∈x->qhw y) ->
   EvQ (fun n=>qbQ ⟨code,a,s⟩ H b1 n x l s' (j:Int)) (fun o=>(o.1.length<=x.length+d/\∀y,y∈o.1->qhw y)/\SrcI code o.2.1 o.2.2.1):=by
  intro H b1 d
  induction d with
  |zero=>
   intro j x l s' c B D f;obtain rfl:j=2:=by omega
   refine EvQ.succ ?_;simp only[qbQ];exact EvQ.ff Z (EvQ.done ⟨⟨jf _,f⟩,c⟩)
  |succ d ih=>
   intro j x l s' c B D f;refine EvQ.succ ?_;simp only[qbQ,wS j];refine EvQ.tt (decide_eq_true (by omega)) (EvQ.bind (R:=fun o:Int×Int×Bool=>SrcI code o.1 o.2.1) (EvQ.bif (fun _=>EvQ.bind (qam 8 m c) ?_) (fun _=>EvQ.bind (qam 24 m c) ?_)) ?_)
   ·rintro⟨a5,a6,a7⟩ ⟨_,c⟩;refine EvQ.bif (fun _=>EvQ.done c) (fun _=>EvQ.bind (qam 24 m c) ?_);rintro⟨a8,a9,b4⟩ ⟨_,c⟩;exact EvQ.done c
   ·rintro⟨b5,b6,b7⟩ ⟨_,c⟩;exact EvQ.done c
   rintro⟨i7,i8,b2⟩ c;dsimp only at c⊢;refine EvQ.bif (fun _=>EvQ.bind (qam 200 m c) ?_) (fun _=>(ih (j+1) x i7 i8 c (by omega) (by omega) f).mono fun o r=>⟨⟨by have:=r.1.1;omega,r.1.2⟩,r.2⟩);rintro⟨i9,O,P⟩ ⟨_,c⟩;refine EvQ.bind (qam 30 m c) ?_;rintro⟨F,Q,S⟩ ⟨⟨⟨t0,K⟩,_⟩,c⟩;refine EvQ.bind (qam 40 m c) ?_;rintro⟨T,X,Y⟩ ⟨_,c⟩;refine EvQ.bind (qam 12 m c) ?_;rintro⟨e,a3,a4⟩ ⟨_,c⟩;dsimp only at t0 K c⊢;have t2:=K (by decide);refine EvQ.bindN (qca (by omega)) ((ih (j+1) _ _ _ c (by omega) (by rw[jg,jh];omega) (qbA f ⟨qaR _,⟨qaR _,qaR _⟩,⟨qjW (x:=F) (by omega) (by omega),qaR _⟩⟩)).mono fun o r=>⟨⟨by have:=r.1.1;rw[jg,jh] at this;omega,r.1.2⟩,r.2⟩)
 unfold qey;refine EvQ.bindE (qhf A.ok) (EvQ.bif (fun _=>EvQ.done ⟨⟨Jd _,fun _ h=>by cases h⟩,h⟩) (fun _=>EvQ.bindE (qgF A.sm) ?_));have C:((places b.Aa).map toSp).length=(places b.Aa).length:=jr ..;generalize (places b.Aa).map toSp=ps at C⊢;have z:∀(d j:Nat) (x:List qi) (l s':Int),SrcI code l s'->j+d=ps.length->x.length<=2*j->(∀y,y∈x->qhw y) ->
   EvQ (fun n=>qck ⟨code,a,s⟩ ps n x l s' (j:Int)) (fun o=>(o.1.length<=156/\∀y,y∈o.1->qhw y)/\SrcI code o.2.1 o.2.2.1):=by
  intro d
  induction d with
  |zero=>
   intro j x l s' c B D f;refine EvQ.succ ?_;simp only[qck];exact EvQ.ff (qp (by omega)) (EvQ.done ⟨⟨by dsimp only;omega,f⟩,c⟩)
  |succ d ih=>
   intro j x l s' c B D f;have p:j<ps.length:=by omega
   refine EvQ.succ ?_;simp only[qck,wS j];refine EvQ.tt (qn p) (EvQ.bind (R:=fun _=>True) (EvQ.bindN (qa1 p) (EvQ.bif (fun _=>EvQ.bindN (qa1 p) (EvQ.done trivial)) (fun _=>EvQ.done trivial))) (fun b1 _=>?_));refine EvQ.bind (two 2 0 x l s' c Z (by omega) f) ?_;rintro⟨x2,i4,i5,i6⟩ ⟨⟨l2,M⟩,c⟩;exact ih (j+1) x2 i4 i5 c (by omega) (by dsimp only at l2;omega) M
 refine EvQ.bind (z ps.length 0 [] a s h (by omega) (jf _) (fun _ h=>by cases h)) ?_;rintro⟨I,i1,i2,H⟩ ⟨⟨l1,t⟩,c⟩;dsimp only at l1 t c⊢;refine EvQ.bif (fun g=>?_) (fun _=>EvQ.done ⟨⟨by dsimp only;omega,t⟩,c⟩);have g:0<I.length:=by have:=of_decide_eq_true g;omega
 refine EvQ.bind (qam _ m c) ?_;rintro⟨v,b8,b9⟩ ⟨⟨⟨q0,J⟩,_⟩,c⟩;dsimp only at q0 J c⊢;have q2:=J (by omega);obtain⟨k,rfl⟩:∃k:Nat,v=(k:Int):=⟨v.toNat,by omega⟩;have u:k<I.length:=by omega
 have i:=t _ (jn u);have L:=t _ (jn g);have W:∀{y:qi},qhw y->okL qhw (setS I (k:Int) y):=fun {y} h=>⟨by rw[qa7];omega,qiL t h⟩;refine EvQ.bind (qam 30 m c) ?_;rintro⟨c0,c2,c3⟩ ⟨_,c⟩;dsimp only at c⊢;refine EvQ.bif (fun _=>EvQ.bindN (qa1 (j:=0) g) (EvQ.bindN (qa1 u) (EvQ.done ⟨W ⟨L.Bm,i.Ah,i.Ba⟩,c⟩))) (fun _=>EvQ.bif (fun _=>EvQ.bindN (qa1 u) (EvQ.bindN (qa1 u) (EvQ.done ⟨W ⟨i.Bm,⟨qaR _,i.Ah.Bd⟩,i.Ba⟩,c⟩))) (fun _=>EvQ.bif (fun _=>EvQ.bindN (qa1 u) (EvQ.done ⟨W ⟨i.Bm,i.Ah,⟨qjW (x:=-1) (by decide) (by decide),i.Ba.Bd⟩⟩,c⟩)) (fun _=>EvQ.bif (fun _=>EvQ.bindN (qa1 u) (EvQ.done ⟨W ⟨i.Bm,⟨i.Ah.Ar,qjW (x:=1000000000) (by decide) (by decide)⟩,i.Ba⟩,c⟩)) (fun _=>EvQ.done ⟨⟨by dsimp only;omega,t⟩,c⟩))))
structure CasI(b:qe)(c:qu)(br:List Int)(xs:List qi):Prop where
 bl:BlkO b
 co:qpc c
 br_:okL okI br
 sr:okL qhw xs
theorem qv1(d:CodeOk code)(h:SrcI code a s):EvQ (fun n=>qhN n ⟨code,a,s⟩) (fun o=>CasI o.1 o.2.1 o.2.2.1 o.2.2.2.1/\SrcI code o.2.2.2.2.1 o.2.2.2.2.2):=by
 unfold qhN;refine EvQ.bind (qsS d h) ?_;rintro⟨r1,J,K⟩ ⟨c,b⟩;refine EvQ.bind (qve d b) ?_;rintro⟨T,L,M⟩ ⟨f,b⟩;refine EvQ.bind (qam 3 d b) ?_;rintro⟨N,O,P⟩ ⟨_,b⟩;dsimp only at c f b⊢;refine EvQ.bind (R:=fun o:qe×Int×Int=>BlkO o.1/\SrcI code o.2.1 o.2.2) (EvQ.bif (fun _=>EvQ.bind (qnr (by decide) (by decide) d b) ?_) (fun _=>EvQ.done ⟨c,b⟩)) ?_
 ·rintro⟨r9,F,H⟩ ⟨c,b⟩;exact EvQ.done ⟨⟨c.ok,c.des.sm⟩,b⟩
 rintro⟨I,Q,S⟩ ⟨c,b⟩;dsimp only at c b⊢;refine EvQ.bind (qvw c d b) ?_;rintro⟨W,r,t⟩ ⟨g,b⟩;dsimp only at g b⊢;refine EvQ.bind (R:=fun o:Int×Int×Bool=>SrcI code o.1 o.2.1/\(o.2.2=true->blockB I=true)) (EvQ.bindE (qhf c.ok) (EvQ.bif (fun i=>EvQ.bif (fun _=>EvQ.bind (qam 6 d b) ?_) (fun _=>EvQ.done ⟨b,fun e=>by cases e⟩)) (fun _=>EvQ.done ⟨b,fun e=>by cases e⟩))) ?_
 ·rintro⟨B,C,D⟩ ⟨_,b⟩;exact EvQ.done ⟨b,fun _=>i⟩
 rintro⟨u,v,b1⟩ ⟨b,i⟩;dsimp only at b i⊢;refine EvQ.bif (fun k=>EvQ.bind (qvO (i k)) (fun X l=>EvQ.bind (qrd c d b) ?_)) (fun _=>EvQ.bind (qrd c d b) ?_)
 ·rintro⟨Y,x,y⟩ ⟨m,b⟩;exact EvQ.done ⟨⟨c,f,l,m⟩,b⟩
 ·rintro⟨r7,z,A⟩ ⟨p,b⟩;exact EvQ.done ⟨⟨c,f,g,p⟩,b⟩
structure JobI(j:qax):Prop where
 ok:qjb j
 sm:smallD j.Ac.Aa
theorem qxH(c:CodeOk code)(h:SrcI code a s):EvQ (fun n=>qig n ⟨code,a,s⟩) (fun o=>JobI o.1/\SrcI code o.2.1 o.2.2):=by
 unfold qig;refine EvQ.bind (qv1 c h) ?_;rintro⟨r1,i,k,l,f,g⟩ ⟨b,d⟩;exact EvQ.done ⟨⟨⟨b.bl.ok,b.co,b.br_,b.sr⟩,b.bl.sm⟩,d⟩
theorem qu3{b:qe}(h:smallD b.Aa):Ev (fun n=>qcz n b) ((2*(places b.Aa).length:Nat):Int):=by
 have a:=qaU h;unfold qcz;refine Ev.bind (b:=(places b.Aa).map toSp) (qgF h) (Ev.now ?_);rw[jr,qN (by omega) (by omega)]
 rfl
theorem qw4{j:qax}(C:JobI j)(v:CodeOk code)(h:SrcI code a s):EvQ (fun n=>qhK n ⟨code,a,s⟩ j) (fun o=>(okI o.1/\o.2.1.length<=100/\∀y,y∈o.2.1->okI y)/\SrcI code o.2.2.1 o.2.2.2):=by
 have O:=qu3 C.sm;have hpl:=qaU C.sm;have hsl:=C.ok.Ap.len;have nil:∀y,y∈([]:List Int)->okI y:=fun _ h=>by cases h
 unfold qhK;rcases qtG C.ok with⟨code',g,hs',_⟩|⟨t,R,hw,hs',_⟩
 ·refine EvQ.bindE hs' (EvQ.bind (R:=fun b=>b=true) (EvQ.tt (by simpa using g) (EvQ.done Z)) (fun b1 N=>EvQ.tt N (EvQ.bind (qam 8 v h) ?_)));rintro⟨W,i3,i4⟩ ⟨⟨⟨z,u⟩,_⟩,c⟩;dsimp only at z u c;have q2:=u (by decide);exact EvQ.done ⟨⟨qjW (x:=W) (by omega) (by omega),Jd _,nil⟩,c⟩
 ·obtain⟨z1,z2,z3⟩:=t;unfold swV at hs';have L:=hw.tg.bl;have Q:=qdR L;have hk:=qhB L;have D:(lvJ j.Ac j.Bh).length=(linksL j.Ac).length:=qjz;refine EvQ.bindE hs' (EvQ.bindN Z (EvQ.bif (fun _=>EvQ.bind (qam 8 v h) ?_) (fun g=>EvQ.bind (qam _ v h) ?_)))
  ·rintro⟨W,i3,i4⟩ ⟨⟨⟨z,u⟩,_⟩,c⟩;dsimp only at z u c;have q2:=u (by decide);exact EvQ.done ⟨⟨qjW (x:=W) (by omega) (by omega),Jd _,nil⟩,c⟩
  have g:0<j.Ap.length:=by
   have:=qoC g;omega
  rintro⟨F,i21,i22⟩ ⟨⟨⟨z,u⟩,_⟩,c⟩;dsimp only at z u c⊢;have q2:=u (by omega);obtain⟨k,rfl⟩:∃k:Nat,F=(k:Int):=⟨F.toNat,by omega⟩;have l:k<j.Ap.length:=by omega
  have hy:=C.ok.Ap.2 _ (jn l);refine EvQ.bindN (qa1 l) (EvQ.bind (qam 9 v c) ?_);rintro⟨H,X,Y⟩ ⟨⟨⟨t0,t1⟩,_⟩,c⟩;dsimp only at t0 t1 c⊢;have t2:=t1 (by decide);obtain⟨r,rfl⟩:∃r:Nat,H=(r:Int):=⟨H.toNat,by omega⟩;generalize linksL j.Ac=ls at Q hk D hs'⊢;generalize lvJ j.Ac j.Bh=lv at D hs'⊢;have next:∀{i:Int} (d k:Nat) (x:List Int),k+d=ls.length->x.length<=k->(∀y,y∈x->0<=y/\y<(ls.length:Int)) ->
    EvQ (fun n=>qco lv ls i n x (k:Int)) (fun o=>o.1.length<=10000/\∀y,y∈o.1->0<=y/\y<(ls.length:Int)):=by
   intro i d
   induction d with
   |zero=>
    intro k x P S f;refine EvQ.succ ?_;simp only[qco];exact EvQ.ff (qp (by omega)) (EvQ.done ⟨by dsimp only;omega,f⟩)
   |succ d ih=>
    intro k x P S f;have l:k<ls.length:=by omega
    refine EvQ.succ ?_;simp only[qco,wS k];refine EvQ.tt (qn l) (EvQ.bind (R:=fun _=>True) (EvQ.bindN (qa1 (show k<lv.length by omega)) (EvQ.bif (fun _=>EvQ.bindN (qa1 l) (EvQ.done trivial)) (fun _=>EvQ.done trivial))) (fun b4 _=>EvQ.bif (fun _=>EvQ.bindN (qca (by omega)) (ih (k+1) _ (by omega) (by rw[jg,jh];omega) (qbA f (by omega)))) (fun _=>ih (k+1) x (by omega) (by omega) f)))
  have J:∀(r:Nat) (x:List Int) (K s' i:Int),SrcI code K s'->r<=9->x.length+r<=99->(∀y,y∈x->okI y) ->
    EvQ (fun n=>qdj ⟨code,a,s⟩ lv ls n x K s' i (r:Int)) (fun o=>(o.1.length<=99/\∀y,y∈o.1->okI y)/\SrcI code o.2.1 o.2.2):=by
   intro r
   induction r with
   |zero=>
    intro x K s' i c hr S f;refine EvQ.succ ?_;simp only[qdj];exact EvQ.ff Z (EvQ.done ⟨⟨by dsimp only;omega,f⟩,c⟩)
   |succ r ih=>
    intro x K s' i c hr S f;have e:W64 (((r+1:Nat):Int)-1)=(r:Int):=by rw[qN (by omega) (by omega)];omega
    refine EvQ.succ ?_;simp only[qdj,e];refine EvQ.tt (decide_eq_true (by omega)) (EvQ.bind (next ls.length 0 [] (by omega) (jf _) (fun _ h=>by cases h)) ?_);rintro⟨A,i45⟩ ⟨a4,B⟩;dsimp only at a4 B⊢;refine EvQ.bif (fun _=>EvQ.done ⟨⟨by dsimp only;omega,f⟩,c⟩) (fun g=>EvQ.bind (qam _ v c) ?_);have g:0<A.length:=by
     have:=qoC g;omega
    rintro⟨I,i47,i48⟩ ⟨⟨⟨z,u⟩,_⟩,c⟩;dsimp only at z u c⊢;have q2:=u (by omega);obtain⟨m,rfl⟩:∃m:Nat,I=(m:Int):=⟨I.toNat,by omega⟩;have hm:m<A.length:=by omega
    have T:=B _ (jn hm);refine EvQ.bindN (qa1 hm) (EvQ.bindN (qca (by omega)) ?_);generalize A[m]=y5 at T⊢;obtain⟨p,rfl⟩:∃p:Nat,y5=(p:Int):=⟨y5.toNat,by omega⟩;exact EvQ.bindN (qa1 (show p<ls.length by omega)) (ih _ _ _ _ c (by omega) (by rw[jg,jh];omega) (qbA f (qjW (by omega) (by omega))))
  refine EvQ.bind (J r [] X Y _ c (by omega) (by simp;omega) nil) ?_;rintro⟨x7,i30,i31⟩ ⟨⟨l7,M⟩,c⟩;dsimp only at l7 M c⊢;refine EvQ.bind (qam 16 v c) ?_;rintro⟨i32,i33,i34⟩ ⟨_,c⟩;dsimp only at c⊢;refine EvQ.bif (fun _=>EvQ.bind (qam _ v c) ?_) (fun _=>EvQ.bif (fun _=>EvQ.bindE O (EvQ.bind (qam _ v c) ?_)) (fun _=>EvQ.done ⟨⟨hy.Bm,by dsimp only;omega,M⟩,c⟩))
  ·rintro⟨i35,i36,i37⟩ ⟨_,c⟩;exact EvQ.bindN (qca (by omega)) (EvQ.done ⟨⟨hy.Bm,by show(_++_:List Int).length<=_;rw[jg,jh];omega,qbA M (qaR _)⟩,c⟩)
  ·rintro⟨a3,i39,i40⟩ ⟨⟨⟨u0,u1⟩,u2⟩,c⟩;dsimp only at u0 u1 u2 c;refine EvQ.done ⟨⟨?_,by dsimp only;omega,M⟩,c⟩;show okI a3;by_cases L:(1:Int)<=((2*(places j.Ac.Aa).length:Nat):Int)
   ·have:=u1 L;exact qjW (by omega) (by omega)
   ·have:=u2 (by omega);exact qjW (by omega) (by omega)
end

section
variable{code:List (IntK .u8)}
theorem quh{x:Int}(b:0<=x)(c:x<=255)(d:CodeOk code)(f:code.length+1<=1048576):CodeOk ([(⟨x⟩:IntK .u8)]++code):=
 ⟨by rw[jg,jh];omega,fun y a=>by
  rcases List.mem_append.1 a with a|a
  ·obtain rfl:=List.mem_singleton.1 a;exact⟨b,c⟩
  ·exact d.2 y a⟩
theorem qvG(a:CodeOk code):EvQ (fun n=>qgY n code) (fun o=>JobI o.1/\okI o.2.1/\okL okI o.2.2/\o.2.2.length<=100):=by
 obtain⟨s,f,b⟩:=qp9 a;unfold qgY;refine EvQ.bindE f (EvQ.bind (qxH a b) ?_);rintro⟨j,h,i⟩ ⟨c,b⟩;refine EvQ.bind (qw4 c a b) ?_;rintro⟨k,p,l,m⟩ ⟨⟨hi,d,g⟩,_⟩;exact EvQ.done ⟨c,hi,⟨by dsimp only at d⊢;omega,g⟩,d⟩
theorem qv8(d:CodeOk code)(h:code.length+1<=1048576):EvQ (fun n=>qhJ n code) (fun o=>JobI o.1/\okI o.2.1/\okL okI o.2.2.1/\okI o.2.2.2/\o.2.2.1.length<=100):=by
 unfold qhJ;refine EvQ.bind (qvG d) ?_;rintro⟨j,k,u⟩ ⟨g,hi,i,b⟩;have a:=quh (x:=5) (by decide) (by decide) d h;refine EvQ.bindN (qcE (by rw[jh];omega)) ?_;obtain⟨s,f,c⟩:=qp9 a;refine EvQ.bindE f (EvQ.bind (qam 2 a c) ?_);rintro⟨l,m,k⟩ ⟨_,c⟩;refine EvQ.bind (qam 20 a c) ?_;rintro⟨p,r,t⟩ _;exact EvQ.done ⟨g,hi,i,qaR _,b⟩
theorem qug(a:CodeOk code)(b:code.length+1<=1048576):EvQ (fun n=>qbY n code) (fun o=>JobI o.1/\okI o.2.1/\okL okI o.2.2.1/\okI o.2.2.2/\o.2.2.1.length<=100):=by
 unfold qbY;refine EvQ.bind (qv8 a b) ?_;rintro⟨j,i,r,m⟩ h;exact EvQ.done h
end

section
variable{L:Nat}{fr to:Nat->Int}{lv:Nat->Bool}{n:Nat}{R:List Nat}
theorem OrdOk.ne(h:OrdOk L fr to lv n R){i j:Nat}(a:i<j)(b:j<R.length):R[i]'(by omega)≠R[j]:=fun e=>
 (h.at b).2.1 (by rw[<-e,List.mem_iff_getElem];exact⟨i,by rw[jZ];omega,by rw[List.getElem_take]⟩)
theorem OrdOk.nodup(h:OrdOk L fr to lv n R):R.Nodup:=by
 unfold List.Nodup;rw[List.pairwise_iff_getElem];exact fun i j _ b a=>h.ne a b
theorem OrdOk.full(h:OrdOk L fr to lv n R)(g:R.length=n){k:Nat}(c:k<n):∃i,∃hi:i<R.length,R[i]=k:=by
 refine Classical.byContradiction fun b=>?_;have f:k∉R:=fun d=>b (List.mem_iff_getElem.1 d);have:=qp1 (l:=k::R) (l':=List.range n) (List.nodup_cons.2 ⟨f,h.nodup⟩) (fun x a=>by
  rw[List.mem_range];rcases List.mem_cons.1 a with rfl|a
  ·exact c
  ·obtain⟨i,hi,rfl⟩:=List.mem_iff_getElem.1 a;exact(h.at hi).1)
 rw[List.length_cons,List.length_range] at this;omega
theorem OrdOk.later(h:OrdOk L fr to lv n R)(p:R.length=n){x a c:Nat}(s:x<L)(r:lv x=true)(m:fr x=(a:Int))(o:to x=(c:Int))(f:c<n){i:Nat}(hi:i<R.length)(b:R[i]=a):∃j,∃k:j<R.length,i<j/\R[j]=c:=by
 obtain⟨j,k,e⟩:=h.full p f;have l:=(h.at k).2.2;rw[e] at l;have:=qom.1 l x s r o;rw[m,qjF,List.mem_iff_getElem] at this;obtain⟨t,g,d⟩:=this;rw[jZ] at g;rw[List.getElem_take] at d;refine⟨j,k,?_,e⟩;rcases Nat.lt_trichotomy i t with hh|hh|hh
 ·exact absurd (b.trans d.symm) (h.ne hh (by omega))
 ·omega
 ·exact absurd (d.trans b.symm) (h.ne hh hi)
end

def modeB(m:Int):Bool:=(m==0) || (m==1)
theorem qlG{m:Int}(h:modeB m=true):m=0\/m=1:=by unfold modeB at h;simpa using h
theorem qvd{m:Int}(h:modeB m=false):(m==0)=false/\(m==1)=false:=by unfold modeB at h;simpa using h
theorem qq7{n:Nat}{m:Int}:qjB n m=V (modeB m):=by
 unfold qjB modeB;cases m==0<;>rfl
theorem qnP{n:Nat}{m:Int}:qj8 n m=V (modeB m):=by
 unfold qj8 modeB;cases m==0<;>rfl
theorem qpw{j:qax}{start:Int}{path:List Int}(h:qjb j)(i:path.length<=1048576)(mode:Int) :
  (∃code:Int,code≠0/\Ev (fun n=>qb6 n j) (U,code)/\Ev (fun n=>qbo n j mode start path) (U,code)) \/
  ∃t R,WkOk j t R/\Ev (fun n=>qb6 n j) (swV j t,0)/\Ev (fun n=>qbo n j mode start path) (bif modeB mode then bif pathB j start path then(wkV j t R,0) else(U,5) else(U,2)):=by
 cases hm:modeB mode
 ·obtain⟨l,m⟩:=qvd hm;have c:=h.Bh.len;unfold qb6 qbo qht;rcases qtI h with⟨code,hne,hs,hi⟩|⟨t,R,hw,hs,hi⟩
  ·exact .inl ⟨code,hne,Ev.bind hs (Ev.tt (qih hne) .done),Ev.bind (b:=(U,code)) (Ev.bind hi (Ev.tt (qih hne) .done)) (Ev.ff (by simpa using hne) .done)⟩
  ·have a:=hw.tg.bl;have d:=qdR a;have g:=qaU (qaj (qaz a));have k:=qiq (ls:=linksL j.Ac) (br:=j.Bh) d c;refine .inr ⟨t,R,hw,Ev.bind hs (Ev.ff Z (Ev.bind (qd8 a) (Ev.bind k .done))),Ev.bind (b:=(U,2)) (Ev.bind hi (Ev.ff Z ?_)) .done⟩;have f:=qow (v:=viewV j.Ac) g;unfold wkV grB;simp only[jd,f];refine Ev.bind (qeH (Jd _)) (Ev.ff Z ?_);simp only[qq7,hm];exact .done
 ·exact qsy h i (qlG hm)
theorem qsP{j:qax}{start:Int}{path:List Int}(a:pathB j start path=true){i:Nat}(hi:i<path.length):∃k:Nat,k<lkB j.Ac/\at0 path i=(k:Int):=by
 unfold pathB at a;rw[je,qah] at a;have:=a.2 i hi;unfold okP at this;rw[je] at this;obtain⟨b,_,c⟩:=inRange this.1;exact⟨(at0 path i).toNat,c,qdP b⟩
def ofS(m:Int)(s:qf):Int:=bif m==1 then s.Bd else s.Ar
theorem qvq{n:Nat}{m:Int}{s:qf}(h:modeB m=true):qhp n s m=V (ofS m s):=by
 rcases qlG h with rfl|rfl<;>rfl
def arS(f:Nat->qf->qf×qf)(ls:List qt)(t:qx)(a0:qf)(path:List Int):Nat->qf
 |0=>a0
 |i+1=>plusS (arS f ls t a0 path i) (f (at0 path i).toNat (gt t.Ba (frN ls (at0 path i).toNat))).1
section
variable{j:qax}{t:qx}{R:List Nat}{start:Int}{path:List Int}{f:Nat->qf->qf×qf}
theorem qww(h:qjb j)(p:WkOk j t R)(z:SpansI j.Ac j.Ai [] f)(B:path.length<=1048575)(y:pathB j start path=true) :
  Ev (fun n=>qiP n (wkV j t R) start path) (pre (arS f (linksL j.Ac) t (srcV (srcO j.Ap start)).2.Ah path) (path.length+1)):=by
 have A:=qhB p.tg.bl;have o:=p.tm;obtain⟨a0,x⟩:∃a,a=(srcV (srcO j.Ap start)).2.Ah:=⟨_,rfl⟩;have v:=loopF (Lf:=fun n (s:List qf×qf) i=>qed path ⟨grB j.Ac j.Bh,j,t,ints R⟩ n s.1 s.2.Ar s.2.Bd i) (S:=fun i=>(pre (arS f (linksL j.Ac) t a0 path) (i+1),arS f (linksL j.Ac) t a0 path i)) (len:=path.length) (fin:=(pre (arS f (linksL j.Ac) t a0 path) (path.length+1),(arS f (linksL j.Ac) t a0 path path.length).Ar,(arS f (linksL j.Ac) t a0 path path.length).Bd,(path.length:Int)))
  (fun n=>by simp only[qed,qp (jf _),cond_false])
  (fun i hi X g=>by
   obtain⟨k,b,m⟩:=qsP y hi;obtain⟨e1,l⟩:=qnW A b;obtain⟨_,s1⟩:=z k _ b (o.sl _ l);have c:arS f (linksL j.Ac) t a0 path (i+1)=plusS (arS f (linksL j.Ac) t a0 path i) (f k (gt t.Ba (frN (linksL j.Ac) k))).1:=by
    show plusS _ _=_;rw[m,jp]
   have r:(viewV j.Ac).links=linksL j.Ac:=rfl;have d:appS (pre (arS f (linksL j.Ac) t a0 path) (i+1)) [arS f (linksL j.Ac) t a0 path (i+1)]=V (pre (arS f (linksL j.Ac) t a0 path) (i+1+1)):=qn9 (by omega);simp only[qed,qn hi,cond_true,qai hi,jd,m,grB,r,qz b,e1,qz (show frN (linksL j.Ac) k<t.Ba.length by rw[o.s];exact l),wS i];refine Ev.bind s1 ?_;generalize (f k (gt t.Ba (frN (linksL j.Ac) k))).1=q at c;generalize arS f (linksL j.Ac) t a0 path i=u at c;simp only[qhd,jd];rw[c] at d g;unfold plusS at d g;rw[d];exact g)
 unfold qiP;show Ev (fun n=>(qcW n j.Ap start).bind _) _;refine Ev.bind (qoc h.Ap.len) ?_;subst x;exact Ev.bind v .done
theorem qwl(h:qjb j)(d:WkOk j t R)(b:SpansI j.Ac j.Ai [] f)(c:path.length<=1048575)(a:pathB j start path=true) :
  Ev (fun n=>qcZ n (wkV j t R) start path) (arS f (linksL j.Ac) t (srcV (srcO j.Ap start)).2.Ah path path.length):=by
 unfold qcZ;refine Ev.bind (qww h d b c a) ?_;rw[qgp (by omega)];exact .done
end
def OwnOk(b:qe)(c:qu)(mode:Int)(d:Nat->Int->Int×Int):Prop:=∀k sl,k<(linksL b).length->0<=sl->sl<=1000000 ->
 (0<=(d k sl).2/\(d k sl).2<=1000000)/\Ev (fun n=>qY n b c (gt (linksL b) k) sl mode) (d k sl).1/\Ev (fun n=>qbc n (V (viewV b)) c (k:Int) sl mode) (d k sl).1 /\
 Ev (fun n=>qa4 n b (gt (linksL b) k) sl mode) (d k sl).2/\Ev (fun n=>qaO n (V (viewV b)) (k:Int) sl mode) (d k sl).2
theorem qw2{b:qe}{c:qu}(h:blockB b=true)(o:cornerB c=true){mode:Int}(t:modeB mode=true):∃d,OwnOk b c mode d:=by
 have f:∀x:Nat×Int,∃r:Int×Int,x.1<(linksL b).length->0<=x.2->x.2<=1000000 ->
   (0<=r.2/\r.2<=1000000)/\Ev (fun n=>qY n b c (gt (linksL b) x.1) x.2 mode) r.1/\Ev (fun n=>qbc n (V (viewV b)) c (x.1:Int) x.2 mode) r.1 /\
   Ev (fun n=>qa4 n b (gt (linksL b) x.1) x.2 mode) r.2/\Ev (fun n=>qaO n (V (viewV b)) (x.1:Int) x.2 mode) r.2:=by
  rintro⟨k,s⟩;by_cases g:k<(linksL b).length/\0<=s/\s<=1000000
  ·obtain⟨g,m,a⟩:=g;obtain⟨⟨d,p1,v⟩,⟨u,y,z,A,B⟩⟩:=qpQ (c:=c) [] h o g m a (qlG t);exact⟨(d,u),fun _ _ _=>⟨⟨y,z⟩,p1,v,A,B⟩⟩
  ·exact⟨(0,0),fun a i l=>absurd ⟨a,i,l⟩ g⟩
 obtain⟨d,p⟩:=Classical.axiomOfChoice f;exact⟨fun k s=>d (k,s),fun k s a i l=>p (k,s) a i l⟩
def prS(d:Nat->Int->Int×Int)(s0:Int×Int)(path:List Int):Nat->Int×Int
 |0=>s0
 |i+1=>(W64 ((prS d s0 path i).1+(d (at0 path i).toNat (prS d s0 path i).2).1),(d (at0 path i).toNat (prS d s0 path i).2).2)
section
variable{j:qax}{t:qx}{R:List Nat}{start mode:Int}{path:List Int}{d:Nat->Int->Int×Int}
theorem qqw{xs:List qi}(d:SrcOk xs)(f:modeB mode=true):0<=ofS mode (srcV (srcO xs start)).2.Ba/\ofS mode (srcV (srcO xs start)).2.Ba<=1000000:=by
 cases hs:srcO xs start with
 |none=>unfold ofS srcV zSrc zSp;cases mode==1<;>(simp only[cond_true,cond_false];omega)
 |some y=>
  obtain⟨⟨a,b⟩,⟨c,e⟩⟩:=d.sl y (qkl hs).2;unfold ofS srcV;cases mode==1<;>(simp only[cond_true,cond_false];omega)
theorem qoy(g:OwnOk j.Ac j.Ai mode d){s0:Int×Int}(f:0<=s0.2/\s0.2<=1000000)(l:∀i,i<path.length->∃k:Nat,k<lkB j.Ac/\at0 path i=(k:Int)):∀i,i<=path.length->0<=(prS d s0 path i).2/\(prS d s0 path i).2<=1000000:=by
 intro i
 induction i with
 |zero=>exact fun _=>f
 |succ i ih=>
  intro hi;obtain⟨k,h,c⟩:=l i (by omega);obtain⟨a,b⟩:=ih (by omega);have:=(g k _ h a b).1;show 0<=(d (at0 path i).toNat (prS d s0 path i).2).2/\(d (at0 path i).toNat (prS d s0 path i).2).2<=1000000;rw[c,jp];exact this
def own0(j:qax)(start mode:Int):Int×Int:=(ofS mode (srcV (srcO j.Ap start)).2.Ah,ofS mode (srcV (srcO j.Ap start)).2.Ba)
theorem qqI(h:qjb j)(x:WkOk j t R)(m:modeB mode=true)(l:OwnOk j.Ac j.Ai mode d)(A:path.length<=1048575)(o:∀i,i<path.length->∃k:Nat,k<lkB j.Ac/\at0 path i=(k:Int)) :
  Ev (fun n=>qeb n (wkV j t R) start path mode) (pre (fun i=>(prS d (own0 j start mode) path i).1) (path.length+1),(prS d (own0 j start mode) path path.length).2):=by
 have r:=qqw (start:=start) (ql0 h.Ap.len x.tg.sr) m;have a:=qoy (s0:=own0 j start mode) l r o;have u:=loopF (Lf:=fun n (s:List Int×Int×Int) i=>qcR path mode ⟨grB j.Ac j.Bh,j,t,ints R⟩ n s.1 s.2.1 s.2.2 i) (S:=fun i=>(pre (fun i=>(prS d (own0 j start mode) path i).1) (i+1),prS d (own0 j start mode) path i)) (len:=path.length) (fin:=(pre (fun i=>(prS d (own0 j start mode) path i).1) (path.length+1),(prS d (own0 j start mode) path path.length).1,(prS d (own0 j start mode) path path.length).2,(path.length:Int)))
  (fun n=>by simp only[qcR,qp (jf _),cond_false])
  (fun i hi X g=>by
   obtain⟨k,v,c⟩:=o i hi;obtain⟨s0,s1⟩:=a i (by omega);obtain⟨_,_,y,_,z⟩:=l k _ v s0 s1;have p:prS d (own0 j start mode) path (i+1)=(W64 ((prS d (own0 j start mode) path i).1+(d k (prS d (own0 j start mode) path i).2).1),(d k (prS d (own0 j start mode) path i).2).2):=by
    show(W64 _,_)=_;rw[c,jp]
   have b:appS (pre (fun i=>(prS d (own0 j start mode) path i).1) (i+1)) [(prS d (own0 j start mode) path (i+1)).1]=V (pre (fun i=>(prS d (own0 j start mode) path i).1) (i+1+1)):=qn9 (f:=fun i=>(prS d (own0 j start mode) path i).1) (by omega);rw[p] at g b;simp only[qcR,qn hi,cond_true,qai hi,jd,c,wkV,grB,wS i];refine Ev.bind y (Ev.bind z ?_);rw[b];exact g)
 unfold qeb;show Ev (fun n=>(qcW n j.Ap start).bind _) _;refine Ev.bind (qoc h.Ap.len) ?_;simp only[qvq m,jd];exact Ev.bind u .done
theorem qus(h:qjb j)(l:WkOk j t R)(b:modeB mode=true)(a:OwnOk j.Ac j.Ai mode d)(c:path.length<=1048575)(g:∀i,i<path.length->∃k:Nat,k<lkB j.Ac/\at0 path i=(k:Int)) :
  Ev (fun n=>qfH n (wkV j t R) start path mode) (prS d (own0 j start mode) path path.length).1:=by
 unfold qfH;refine Ev.bind (qqI h l b a c g) ?_;simp only[qgp (f:=fun i=>(prS d (own0 j start mode) path i).1) (show path.length<path.length+1 by omega)];exact .done
end
theorem qtl{j:qax}{start mode:Int}{path:List Int}(h:qjb j)(b:path.length<=1048576) :
  (∃code:Int,code≠0/\Ev (fun n=>qiK n j start path mode) (U,code)/\Ev (fun n=>qbo n j mode start path) (U,code)) \/
  ∃t R,WkOk j t R/\modeB mode=true/\pathB j start path=true/\Ev (fun n=>qiK n j start path mode) (swV j t,0)/\Ev (fun n=>qbo n j mode start path) (wkV j t R,0):=by
 unfold qiK;rcases qpw (start:=start) h b mode with⟨code,hne,hs,hi⟩|⟨t,R,hw,hs,hi⟩
 ·exact .inl ⟨code,hne,Ev.bind hs (Ev.tt (qih hne) .done),hi⟩
 ·cases hm:modeB mode
  ·rw[hm] at hi;refine .inl ⟨2,by omega,Ev.bind hs (Ev.ff Z ?_),hi⟩;simp only[qnP,hm];exact .done
  ·rw[hm] at hi;obtain⟨e,a,_⟩:=quq (j:=j) (t:=t) (start:=start) hw.tg.bl h.Ap.len b;cases hb:pathB j start path
   ·rw[hb] at hi a;refine .inl ⟨5,by omega,Ev.bind hs (Ev.ff Z ?_),hi⟩;simp only[qnP,hm,jd];exact Ev.ff Z (Ev.bind a .done)
   ·rw[hb] at hi a;refine .inr ⟨t,R,hw,rfl,rfl,Ev.bind hs (Ev.ff Z ?_),hi⟩;simp only[qnP,hm,jd];exact Ev.ff Z (Ev.bind a .done)

theorem qkp{p f mode:Int}(d:0<=p)(p1:p<=1000000)(a:0<=f)(b:f<=5000):0<=divI (p*f) 1000 mode/\divI (p*f) 1000 mode<=5000000:=by
 have c:0<=p*f:=jP d a;have g:p*f<=1000000*5000:=jX p1 b a (by omega);exact qi3 (by omega) c (by omega)
theorem qsF{b:qe}{c:qu}(h:blockB b=true)(t:cornerB c=true){k:Nat}(B:k<(linksL b).length){sl mode:Int}:∃D:Int,(0<=D/\D<=5000000)/\Ev (fun n=>qY n b c (gt (linksL b) k) sl mode) D:=by
 obtain⟨d,_⟩:=qfS h (qfh B);generalize gt (linksL b) k=x at d;rcases d with⟨i,j,m,net,a,d⟩|⟨j,net,q,d⟩
 ·obtain⟨f,A,l,p,C⟩:=qlD t (kind:=x.Be) (mode:=mode);have s:m<(gt (cellAt b (i:Int)).Av a).Bo.length:=by rw[d.d2];exact d.ml
  obtain⟨r,y,r1,F,ri⟩:=qqb (d.dt _ (qfh s)) sl (load0 b net) mode;obtain⟨c1,z⟩:=qiY (mode:=mode) y (by omega) (show 0<=f by omega) l;have g:(x.Be==1)=true:=by rw[d.kind];rfl
  refine⟨divI (r*f) 1000 mode,qkp y r1 (by omega) l,?_⟩;unfold qY;refine Ev.tt g (Ev.bind (qjj h d) ?_);simp only[d.mod,qz s,jd,p];exact Ev.bind F (Ev.bind ⟨0,fun n _=>c1 n⟩ .done)
 ·have o:(exactL b net).length=(gt b.Af net).Bk.length:=by unfold exactL;rw[jr]
  have u:q<(exactL b net).length:=by rw[o];exact d.kl
  obtain⟨H,I⟩:=qkH h d.nl d.kl;obtain⟨f,A,l,p,C⟩:=qlD t (kind:=x.Be) (mode:=mode);obtain⟨v,p1⟩:=qi3 (a:=gt (exactL b net) q) (b:=1000) (mode:=mode) (M:=344000) (by omega) H (by omega);obtain⟨c1,z⟩:=qiY (mode:=mode) v (by omega) (show 0<=f by omega) l;have g:(x.Be==1)=false:=by rw[d.kind];rfl
  have hi:idx ((exactL b net).map fun x=>divI x 1000 mode) (q:Int)=V (divI (gt (exactL b net) q) 1000 mode):=by
   rw[qz (by rw[jr];exact u),qmH u]
  refine⟨divI (divI (gt (exactL b net) q) 1000 mode*f) 1000 mode,qkp v (by omega) (by omega) l,?_⟩;unfold qY;refine Ev.ff g (Ev.bind (qkn h d) (Ev.bind (qhG h d.nl) ?_));simp only[d.ix,hi,jd,p];exact Ev.bind ⟨0,fun n _=>c1 n⟩ .done
theorem qoI{a b:Int}(d:0<b)(c:0<=a):divI a b 0<=divI a b 1:=by
 rw[qka c d,qka c d];rw[if_neg (by omega)];split<;>omega
theorem qpd{a c b mode:Int}(d:0<b)(g:0<=a)(h:a<=c)(m:mode=0\/mode=1):divI a b mode<=divI c b mode:=by
 rw[qka g d,qka (by omega) d];have l:a / b<=c / b:=Int.ediv_le_ediv d h;rcases m with rfl|rfl
 ·rw[if_neg (by omega),if_neg (by omega)];exact l
 ·by_cases i:a % b > 0
  ·rw[if_pos ⟨rfl,i⟩];by_cases k:c % b > 0
   ·rw[if_pos ⟨rfl,k⟩];omega
   ·rw[if_neg (by omega)];have e1:=Int.mul_ediv_add_emod a b;have f:=Int.mul_ediv_add_emod c b;have n1:=Int.emod_nonneg c (show b≠0 by omega);have z:c % b=0:=by omega
    refine Classical.byContradiction fun n=>?_;have:c / b=a / b:=by omega
    rw[this] at f;omega
  ·rw[if_neg (by omega)];split<;>omega
theorem qtn{c:qu}(h:cornerB c=true){kind:Int}:∃f g:Int,(100<=f/\f<=g/\g<=5000)/\(∀n,qd0 n c kind 0=V f)/\∀n,qd0 n c kind 1=V g:=by
 unfold cornerB at h;simp only[je,qa9,decide_eq_true_eq] at h;obtain⟨⟨d,i,k,l⟩,_,a,b⟩:=h;unfold qd0;cases kind==1
 ·exact⟨c.Au,c.Bc,⟨by omega,b,by omega⟩,fun _=>rfl,fun _=>rfl⟩
 ·exact⟨c.Ay,c.Bb,⟨by omega,a,by omega⟩,fun _=>rfl,fun _=>rfl⟩
theorem qqe{b:qe}{c:qu}(h:blockB b=true)(R:cornerB c=true){k:Nat}(T:k<(linksL b).length){sl:Int}:∃D E:Int,(0<=D/\D<=E/\E<=5000000)/\Ev (fun n=>qY n b c (gt (linksL b) k) sl 0) D/\Ev (fun n=>qY n b c (gt (linksL b) k) sl 1) E:=by
 obtain⟨d,_⟩:=qfS h (qfh T);generalize gt (linksL b) k=x at d;obtain⟨f,g,⟨Y,O,s⟩,I,J⟩:=qtn R (kind:=x.Be);have H:∀{p q:Int},0<=p->p<=q->q<=1000000->divI (p*f) 1000 0<=divI (q*g) 1000 1:=fun {p q} r X e=>by
  have Q:p*f<=q*g:=jX X O (by omega) (by omega);have P:0<=p*f:=jP r (by omega);exact Ja (qpd (by omega) P Q (.inl Z)) (qoI (by omega) (by omega))
 rcases d with⟨i,j,m,net,a,d⟩|⟨j,net,q,d⟩
 ·have u:m<(gt (cellAt b (i:Int)).Av a).Bo.length:=by rw[d.d2];exact d.ml
  obtain⟨W,A⟩:=d.dt _ (qfh u);obtain⟨S,D,D0,S1,_,_,_,S0,o⟩:=qtN W sl (load0 b net);obtain⟨B,r1⟩:=qi3 (mode:=0) D0 (S0 A) S1;obtain⟨K,L⟩:=qi3 (mode:=1) D0 (S0 A) S1;have z:=qoI (a:=S) D0 (S0 A);obtain⟨c1,_⟩:=qiY (mode:=0) B (by omega) (show 0<=f by omega) (by omega);obtain⟨t,_⟩:=qiY (mode:=1) K (by omega) (show 0<=g by omega) s;have l:(x.Be==1)=true:=by rw[d.kind];rfl
  refine⟨divI (divI S D 0*f) 1000 0,divI (divI S D 1*g) 1000 1,⟨(qkp B r1 (by omega) (by omega)).1,H B z L,(qkp K L (by omega) s).2⟩,?_,?_⟩
  ·unfold qY;refine Ev.tt l (Ev.bind (qjj h d) ?_);simp only[d.mod,qz u,jd,I];exact Ev.bind (o 0).1 (Ev.bind ⟨0,fun n _=>c1 n⟩ .done)
  ·unfold qY;refine Ev.tt l (Ev.bind (qjj h d) ?_);simp only[d.mod,qz u,jd,J];exact Ev.bind (o 1).1 (Ev.bind ⟨0,fun n _=>t n⟩ .done)
 ·have v:(exactL b net).length=(gt b.Af net).Bk.length:=by unfold exactL;rw[jr]
  have F:q<(exactL b net).length:=by rw[v];exact d.kl
  obtain⟨C,x1⟩:=qkH h d.nl d.kl;obtain⟨r,p1⟩:=qi3 (a:=gt (exactL b net) q) (b:=1000) (mode:=0) (M:=344000) (by omega) C (by omega);obtain⟨N,v1⟩:=qi3 (a:=gt (exactL b net) q) (b:=1000) (mode:=1) (M:=344000) (by omega) C (by omega);have y:=qoI (a:=gt (exactL b net) q) (b:=1000) (by omega) C;obtain⟨c1,_⟩:=qiY (mode:=0) r (by omega) (show 0<=f by omega) (by omega);obtain⟨t,_⟩:=qiY (mode:=1) N (by omega) (show 0<=g by omega) s;have l:(x.Be==1)=false:=by rw[d.kind];rfl
  have hi:∀mode:Int,idx ((exactL b net).map fun x=>divI x 1000 mode) (q:Int)=V (divI (gt (exactL b net) q) 1000 mode):=fun mode=>by
   rw[qz (by rw[jr];exact F),qmH F]
  refine⟨divI (divI (gt (exactL b net) q) 1000 0*f) 1000 0,divI (divI (gt (exactL b net) q) 1000 1*g) 1000 1,⟨(qkp r (by omega) (by omega) (by omega)).1,H r y (by omega),(qkp N (by omega) (by omega) s).2⟩,?_,?_⟩
  ·unfold qY;refine Ev.ff l (Ev.bind (qkn h d) (Ev.bind (qhG h d.nl) ?_));simp only[d.ix,hi,jd,I];exact Ev.bind ⟨0,fun n _=>c1 n⟩ .done
  ·unfold qY;refine Ev.ff l (Ev.bind (qkn h d) (Ev.bind (qhG h d.nl) ?_));simp only[d.ix,hi,jd,J];exact Ev.bind ⟨0,fun n _=>t n⟩ .done
theorem qsK{b:qe}{c:qu}{f:Nat->qf->qf×qf}(h:blockB b=true)(l:cornerB c=true)(v:SpansS b c f){k:Nat}(a:k<(linksL b).length){s:qf}(o:slR s) :
  0<=(f k s).1.Ar/\(f k s).1.Ar<=(f k s).1.Bd/\(f k s).1.Bd<=5000000:=by
 have m:=(v k s a o).2;obtain⟨⟨e0,e1⟩,⟨l0,l1⟩⟩:=o;obtain⟨d,d2,⟨a1,a2,F⟩,p1,x⟩:=qqe h l a (sl:=s.Ar);obtain⟨g,i,⟨b1,b2,b3⟩,y,z⟩:=qqe h l a (sl:=s.Bd);obtain⟨_,⟨p,_,_,A,_⟩⟩:=qia h l a e0 e1 (mode:=0) (.inl Z);obtain⟨_,⟨r,_,_,B,_⟩⟩:=qia h l a e0 e1 (mode:=1) (.inr Z);obtain⟨_,⟨t,_,_,C,_⟩⟩:=qia h l a l0 l1 (mode:=0) (.inl Z);obtain⟨_,⟨u,_,_,D,_⟩⟩:=qia h l a l0 l1 (mode:=1) (.inr Z);have e:Ev (fun n=>qeK n b c (gt (linksL b) k) s) (⟨if g<d then g else d,if i > d2 then i else d2⟩,⟨if t<p then t else p,if u > r then u else r⟩):=by
  unfold qeK;exact Ev.bind p1 (Ev.bind x (Ev.bind A (Ev.bind B (Ev.bind y (Ev.bind z (Ev.bind C (Ev.bind D .done)))))))
 rw[m.uniq e];refine⟨?_,?_,?_⟩
 ·show 0<=(if g<d then g else d);split<;>omega
 ·show(if g<d then g else d)<=(if i > d2 then i else d2);split<;>split<;>omega
 ·show(if i > d2 then i else d2)<=5000000;split<;>omega

structure Nest(x y:qf):Prop where
 e0:-5000000000<=y.Ar
 e1:y.Ar<=x.Ar
 el:x.Ar<=x.Bd
 l1:x.Bd<=y.Bd
 l0:y.Bd<=5000000000
theorem qkt{s:qf}:spanB s=true↔(-1000000000<=s.Ar/\s.Ar<=s.Bd/\s.Bd<=1000000000):=by
 unfold spanB;simp only[je,qa9,decide_eq_true_eq];omega
theorem Nest.refl{x:qf}(h:spanB x=true):Nest x x:=by
 rw[qkt] at h;exact⟨by omega,by omega,by omega,by omega,by omega⟩
structure NdR(s1 s2:Bool×qi):Prop where
 r:s1.1=s2.1
 sl:s1.2.Ba=s2.2.Ba
 ar:s1.1=true->Nest s1.2.Ah s2.2.Ah
structure Wd(t1 t2:qx)(M:Nat):Prop where
 o1:TmOk t1 M
 o2:TmOk t2 M
 r:∀k,k<M->gt t1.Az k=gt t2.Az k
 sl:∀k,k<M->gt t1.Ba k=gt t2.Ba k
 ar:∀k,k<M->gt t1.Az k=true->spanB (gt t1.Ah k)=true/\spanB (gt t2.Ah k)=true/\Nest (gt t1.Ah k) (gt t2.Ah k)
section
variable{b:qe}{c:qu}{f:Nat->qf->qf×qf}{e1 e2:Nat->Int}{lv:List Bool}{xs:List qi}{t1 t2:qx}
theorem Wd.start{M:Nat}:Wd (zTm M) (zTm M) M:=⟨qpZ,qpZ,fun _ _=>rfl,fun _ _=>rfl,fun k b a=>by
 have:gt (zTm M).Az k=false:=qpY b;rw[this] at a;cases a⟩
end

structure InS(x y:qf):Prop where
 e:y.Ar<=x.Ar
 l:x.Bd<=y.Bd
theorem InS.refl{x:qf}:InS x x:=⟨jC _,jC _⟩
theorem InS.trans{x y z:qf}(h:InS x y)(a:InS y z):InS x z:=⟨Ja a.e h.e,Ja h.l a.l⟩
theorem InS.hullL{x y:qf}:InS x (hullS x y):=by
 constructor
 ·show(if y.Ar<x.Ar then y.Ar else x.Ar)<=x.Ar;split<;>omega
 ·show x.Bd<=(if y.Bd > x.Bd then y.Bd else x.Bd);split<;>omega
theorem InS.hullR{x y:qf}:InS y (hullS x y):=by
 constructor
 ·show(if y.Ar<x.Ar then y.Ar else x.Ar)<=y.Ar;split<;>omega
 ·show y.Bd<=(if y.Bd > x.Bd then y.Bd else x.Bd);split<;>omega
section
variable{f:Nat->qf->qf×qf}{ls:List qt}{lv:List Bool}{xs:List qi}{M:Nat}
theorem quP{t a:qx}{node:Int}{s0:Bool×qi}:∀j,(∀x,x<j->toQ ls lv node x=true->gt t.Az (frN ls x)=gt a.Az (frN ls x)/\gt t.Ah (frN ls x)=gt a.Ah (frN ls x)/\gt t.Ba (frN ls x)=gt a.Ba (frN ls x)) ->
  ndS f ls lv t node s0 j=ndS f ls lv a node s0 j:=by
 intro j
 induction j with
 |zero=>intro _;rfl
 |succ j ih=>
  intro h;unfold ndS;rw[ih fun x g=>h x (by omega)];cases hq:toQ ls lv node j
  ·rfl
  ·obtain⟨b,c,d⟩:=h j (by omega) hq;simp only[cond_true];unfold stepS;rw[b,c,d]
structure TmEq(f:Nat->qf->qf×qf)(ls:List qt)(lv:List Bool)(xs:List qi)(t:qx)(k:Nat):Prop where
 r:gt t.Az k=(ndS f ls lv t (k:Int) (srcV (srcO xs (k:Int))) ls.length).1
 a:gt t.Az k=true->gt t.Ah k=(ndS f ls lv t (k:Int) (srcV (srcO xs (k:Int))) ls.length).2.Ah
 s:gt t.Az k=true->gt t.Ba k=(ndS f ls lv t (k:Int) (srcV (srcO xs (k:Int))) ls.length).2.Ba
 b:gt t.Az k=true->spanB (gt t.Ah k)=true
theorem qxu(h:LkOk ls M):∀(R l1:List Nat) (t C:qx),OrdOk ls.length (frL ls) (toL ls) (lvL lv) M (l1++R)->(t.Az.length=M/\t.Ah.length=M/\t.Ba.length=M)->Bare t M l1->(∀k,k∈l1->TmEq f ls lv xs t k) ->
  rnO f ls lv xs R t=V C->∀k,k∈l1++R->TmEq f ls lv xs C k:=by
 intro R
 induction R with
 |nil=>
  intro l1 t C _ _ _ K e k S;obtain rfl:=Option.some.inj e;rw[Je] at S;exact K k S
 |cons k R ih=>
  intro l1 t C H X Q K e;obtain⟨v,s,z⟩:=X;have assoc:l1++k::R=(l1++[k])++R:=by simp
  obtain⟨N,kn,k0⟩:=H l1 k R Z;have P:∀y,y∈l1++[k]->∀x,x<ls.length->toQ ls lv (y:Int) x=true->frN ls x∈l1:=by
   intro y b x L B;unfold toQ at B;rw[je,beq_iff_eq] at B;have fin:∀l a,OrdOk ls.length (frL ls) (toL ls) (lvL lv) M (l++y::a)->frN ls x∈l:=fun l a F=>by
    have:=qom.1 (F l y a Z).2.2 x L B.1 B.2;rw[show frL ls x=(frN ls x:Int) from(qnW h L).1,qjF] at this;exact this
   rcases List.mem_append.1 b with b|b
   ·obtain⟨a,c,rfl⟩:=List.append_of_mem b;have:frN ls x∈a:=fin a (c++k::R) (by simpa using H);exact jE _ this
   ·obtain rfl:=List.mem_singleton.1 b;exact fin l1 R H
  have I:∀y,y∈l1->y≠k:=fun y b e=>kn (e ▸ b);rw[assoc];unfold rnO at e;have m:∀{u:qx},(∀y,y≠k->gt u.Az y=gt t.Az y/\gt u.Ah y=gt t.Ah y/\gt u.Ba y=gt t.Ba y)->Bare u M (l1++[k]):=fun hu y b T=>by
   obtain⟨u1,u2,u3⟩:=hu y (fun e=>T (jW _ (List.mem_singleton.2 e)));rw[u1,u2,u3];exact Q y b fun Y=>T (jE _ Y)
  cases h1:(ndS f ls lv t (k:Int) (srcV (srcO xs (k:Int))) ls.length).1
  ·rw[h1] at e;refine ih (l1++[k]) t C (by rw[<-assoc];exact H) ⟨v,s,z⟩ (m fun y _=>⟨rfl,rfl,rfl⟩) (fun y b=>?_) e;rcases List.mem_append.1 b with b|b
   ·exact K y b
   ·obtain rfl:=List.mem_singleton.1 b;have W:=(Q y N kn).1;have O:gt t.Az y≠true:=by rw[W];decide
    exact⟨by rw[W,h1],fun e=>absurd e O,fun e=>absurd e O,fun e=>absurd e O⟩
  ·rw[h1] at e;cases F:spanB (ndS f ls lv t (k:Int) (srcV (srcO xs (k:Int))) ls.length).2.Ah
   ·rw[F] at e;cases e
   ·rw[F] at e;have g:∀y,gt (setT t k (ndS f ls lv t (k:Int) (srcV (srcO xs (k:Int))) ls.length)).Az y=(if y=k then true else gt t.Az y)/\gt (setT t k (ndS f ls lv t (k:Int) (srcV (srcO xs (k:Int))) ls.length)).Ah y=(if y=k then(ndS f ls lv t (k:Int) (srcV (srcO xs (k:Int))) ls.length).2.Ah else gt t.Ah y) /\
      gt (setT t k (ndS f ls lv t (k:Int) (srcV (srcO xs (k:Int))) ls.length)).Ba y=(if y=k then(ndS f ls lv t (k:Int) (srcV (srcO xs (k:Int))) ls.length).2.Ba else gt t.Ba y):=fun y=>by
     refine⟨?_,?_,?_⟩
     ·show gt (setS _ _ _) y=_;rw[qhE (by rw[v];exact N),h1]
     ·show gt (setS _ _ _) y=_;rw[qhE (by rw[s];exact N)]
     ·show gt (setS _ _ _) y=_;rw[qhE (by rw[z];exact N)]
    have i:∀y,y≠k->gt (setT t k (ndS f ls lv t (k:Int) (srcV (srcO xs (k:Int))) ls.length)).Az y=gt t.Az y/\gt (setT t k (ndS f ls lv t (k:Int) (srcV (srcO xs (k:Int))) ls.length)).Ah y=gt t.Ah y/\gt (setT t k (ndS f ls lv t (k:Int) (srcV (srcO xs (k:Int))) ls.length)).Ba y=gt t.Ba y:=fun y b=>by
     obtain⟨o,D,J⟩:=g y;rw[if_neg b] at o D J;exact⟨o,D,J⟩
    have len:(setT t k (ndS f ls lv t (k:Int) (srcV (srcO xs (k:Int))) ls.length)).Az.length=M/\(setT t k (ndS f ls lv t (k:Int) (srcV (srcO xs (k:Int))) ls.length)).Ah.length=M/\(setT t k (ndS f ls lv t (k:Int) (srcV (srcO xs (k:Int))) ls.length)).Ba.length=M:=
     ⟨by show(setS _ _ _).length=_;rw[qa7];exact v,by show(setS _ _ _).length=_;rw[qa7];exact s,by show(setS _ _ _).length=_;rw[qa7];exact z⟩
    obtain⟨p,d,r⟩:=g k;rw[if_pos Z] at p d r;have n:∀y,y∈l1++[k]->ndS f ls lv (setT t k (ndS f ls lv t (k:Int) (srcV (srcO xs (k:Int))) ls.length)) (y:Int) (srcV (srcO xs (y:Int))) ls.length=ndS f ls lv t (y:Int) (srcV (srcO xs (y:Int))) ls.length:=fun y b=>
     quP _ fun x L B=>i _ (I _ (P y b x L B))
    generalize setT t k (ndS f ls lv t (k:Int) (srcV (srcO xs (k:Int))) ls.length)=u at e i p d r len n;refine ih (l1++[k]) u C (by rw[<-assoc];exact H) len (m i) (fun y b=>?_) e;have A:=n y b;rcases List.mem_append.1 b with b|b
    ·obtain⟨o,D,J⟩:=i y (I y b);have b:=K y b;exact⟨by rw[A,o];exact b.r,fun e=>by rw[A,D];exact b.a (by rw[<-o];exact e),fun e=>by rw[A,J];exact b.s (by rw[<-o];exact e),fun e=>by rw[D];exact b.b (by rw[<-o];exact e)⟩
    ·obtain rfl:=List.mem_singleton.1 b;exact⟨by rw[A,p,h1],fun _=>by rw[A,d],fun _=>by rw[A,r],fun _=>by rw[d];exact F⟩
theorem qwj{t:qx}{node:Int}{s0:Bool×qi}(d:s0.1=true):∀j,(ndS f ls lv t node s0 j).1=true/\InS s0.2.Ah (ndS f ls lv t node s0 j).2.Ah/\InS s0.2.Ba (ndS f ls lv t node s0 j).2.Ba:=by
 intro j
 induction j with
 |zero=>exact⟨d,.refl,.refl⟩
 |succ j ih=>
  obtain⟨a,b,c⟩:=ih;unfold ndS;cases toQ ls lv node j
  ·exact⟨a,b,c⟩
  ·simp only[cond_true];unfold stepS;cases gt t.Az (frN ls j)
   ·exact⟨a,b,c⟩
   ·simp only[cond_true];unfold joinS;rw[a];exact⟨rfl,b.trans .hullL,c.trans .hullL⟩
theorem qvb{t:qx}{node:Int}{s0:Bool×qi}{x:Nat}(d:toQ ls lv node x=true)(g:gt t.Az (frN ls x)=true):∀j,x<j->(ndS f ls lv t node s0 j).1=true /\
  InS (plusS (gt t.Ah (frN ls x)) (f x (gt t.Ba (frN ls x))).1) (ndS f ls lv t node s0 j).2.Ah/\InS (f x (gt t.Ba (frN ls x))).2 (ndS f ls lv t node s0 j).2.Ba:=by
 intro j
 induction j with
 |zero=>intro h;omega
 |succ j ih=>
  intro h;unfold ndS;by_cases e:x=j
  ·subst e;rw[d];simp only[cond_true];unfold stepS;rw[g];simp only[cond_true];unfold joinS;cases (ndS f ls lv t node s0 x).1
   ·exact⟨rfl,.refl,.refl⟩
   ·exact⟨rfl,.hullR,.hullR⟩
  ·obtain⟨a,b,c⟩:=ih (by omega);cases toQ ls lv node j
   ·exact⟨a,b,c⟩
   ·simp only[cond_true];unfold stepS;cases gt t.Az (frN ls j)
    ·exact⟨a,b,c⟩
    ·simp only[cond_true];unfold joinS;rw[a];exact⟨rfl,b.trans .hullL,c.trans .hullL⟩
end
structure JobT(j:qax)(t:qx)(f:Nat->qf->qf×qf):Prop where
 ss:SpansS j.Ac j.Ai f
 si:SpansI j.Ac j.Ai [] f
 eq:∀k,k<ndB j.Ac->TmEq f (linksL j.Ac) (lvJ j.Ac j.Bh) j.Ap t k
 pt:Ev (fun n=>qa0 n j.Ac j.Ai j.Bh j.Ap) (t,0)
theorem qxF{j:qax}{t:qx}(h:qjb j)(B:Ev (fun n=>qb6 n j) (swV j t,0)):∃f,JobT j t f:=by
 have g:=h.Bh.len;have s:=h.Ap.len;have C:∀{d:qx} {code:Int},Ev (fun n=>qa0 n j.Ac j.Ai j.Bh j.Ap) (d,code)->code=0/\d=t:=by
  intro d code l;unfold qb6 at B;by_cases c:code=0
  ·subst c;refine⟨rfl,?_⟩;cases hbk:blockB j.Ac
   ·exfalso;unfold qa0 qhP at l;have F:=qhf h.Ac;rw[hbk] at F;have:=l.uniq (Ev.bind (b:=([],1)) (Ev.bind (b:=true) (Ev.bind F (Ev.tt Z .done)) (Ev.tt Z .done)) (Ev.tt Z .done));cases this
   ·have u:=qiq (ls:=linksL j.Ac) (br:=j.Bh) (qdR hbk) g;have:=B.uniq (Ev.bind l (Ev.ff Z (Ev.bind (qd8 hbk) (Ev.bind u .done))));unfold swV at this;injection this with a _;injection a with a;injection a with _ _ _ a;exact a.symm
  ·have:=B.uniq (Ev.bind l (Ev.tt (qih c) .done));unfold swV at this;cases this
 have D:∃o,((∃f d ,o=(d,(0:Int))/\SpansS j.Ac j.Ai f/\SpansI j.Ac j.Ai [] f/\∀k,k<ndB j.Ac->TmEq f (linksL j.Ac) (lvJ j.Ac j.Bh) j.Ap d k)\/o.2≠0)/\Ev (fun n=>qa0 n j.Ac j.Ai j.Bh j.Ap) o:=by
  unfold qa0;rcases qwT h.Ac h.Ai.Bi g s with⟨code,c,hc,_⟩|⟨R,hg,hc,_⟩
  ·exact⟨(zT,code),.inr c,Ev.bind hc (Ev.tt (qih c) .done)⟩
  ·have a:=hg.bl;have A:=qdR a;have z:=qhB a;have u:=qiq (ls:=linksL j.Ac) (br:=j.Bh) A g;obtain⟨f,H,y⟩:=qsI a hg.co;have p:=y [] (.inl Z);rw[qrm] at p;have L:=qaU (qaj (qaz a));have m:=hg.len;have v:R.length<=1000:=by rw[m];show 2*(places j.Ac.Aa).length<=1000;omega
   have x:∀k,k∈R->k<2*(places j.Ac.Aa).length:=fun k r=>by
    obtain⟨i,hi,rfl⟩:=List.mem_iff_getElem.1 r;exact(hg.ord.at hi).1
   have o2:=qtM (lv:=lvJ j.Ac j.Bh) (R:=R) a H qjz (ql0 s hg.sr) x v;have o1:=qxu (f:=f) (lv:=lvJ j.Ac j.Bh) (xs:=j.Ap) z R [] (zTm (2*(places j.Ac.Aa).length));generalize rnO f (linksL j.Ac) (lvJ j.Ac j.Bh) j.Ap R (zTm (2*(places j.Ac.Aa).length))=o at o1 o2;cases o with
   |none=>exact⟨(zT,3),.inr (by decide),Ev.bind hc (Ev.ff Z (Ev.bind (qd8 a) (Ev.bind u (Ev.bind o2 (Ev.tt Z .done)))))⟩
   |some d=>
    refine⟨(d,0),.inl ⟨f,d,rfl,H,p,fun k r=>?_⟩,Ev.bind hc (Ev.ff Z (Ev.bind (qd8 a) (Ev.bind u (Ev.bind o2 (Ev.ff Z .done)))))⟩;obtain⟨i,hi,e⟩:=hg.ord.full m r;exact o1 d hg.ord ⟨jH,jH,jH⟩ qsp (fun k r=>by cases r) rfl k (by rw[<-e];exact jn hi)
 obtain⟨o,K,l⟩:=D;obtain⟨o1,o2⟩:=o;obtain⟨I,J⟩:=C l;subst I;subst J;rcases K with⟨f,d,e,a,h2,h3⟩|c
 ·injection e with e _;subst e;exact⟨f,a,h2,h3,l⟩
 ·exact absurd Z c
structure ArI(t:qx)(a:qf)(k:Nat):Prop where
 r:gt t.Az k=true
 i:InS a (gt t.Ah k)
 o:a.Ar<=a.Bd
section
variable{j:qax}{t:qx}{R:List Nat}{f:Nat->qf->qf×qf}{start:Int}{path:List Int}
theorem qsr{xs:List qi}{M:Nat}(h:srcB xs M=true){x:qi}(a:x∈xs):spanB x.Ah=true:=by
 unfold srcB at h;rw[qah] at h;obtain⟨i,hi,rfl⟩:=List.mem_iff_getElem.1 a;have:=h i hi;rw[<-qd6 hi];simp only[je] at this;exact this.2.2.1
theorem qqs(n:WkOk j t R)(f:pathB j start path=true){i:Nat}(hi:i<path.length):∃k a c:Nat,k<lkB j.Ac/\at0 path i=(k:Int)/\gt (lvJ j.Ac j.Bh) k=true/\frN (linksL j.Ac) k=a/\(gt (linksL j.Ac) k).To=(c:Int)/\a<ndB j.Ac/\c<ndB j.Ac/\atP (linksL j.Ac) start path i=(a:Int)/\atP (linksL j.Ac) start path (i+1)=(c:Int):=by
 have d:=qhB n.tg.bl;unfold pathB at f;rw[je,qah] at f;have:=f.2 i hi;unfold okP at this;simp only[je,beq_iff_eq] at this;obtain⟨l,m,h⟩:=this;obtain⟨o,r1,b⟩:=inRange l;have p:=d.fr0 _ b;have r:=d.fr1 _ b;have g:=d.to0 _ b;have s:=d.to1 _ b;refine⟨(at0 path i).toNat,frN (linksL j.Ac) (at0 path i).toNat,(gt (linksL j.Ac) (at0 path i).toNat).To.toNat,b,qdP o,m,rfl,qdP g,?_,?_,?_,qdP g⟩
 ·exact(qnW d b).2
 ·show _<2*(places j.Ac.Aa).length;omega
 ·rw[<-h];exact(qnW d b).1
theorem qos(r:WkOk j t R)(n:JobT j t f)(c:pathB j start path=true):∃k:Nat,k<ndB j.Ac/\start=(k:Int)/\∃y:qi,srcO j.Ap start=V y/\y∈j.Ap/\y.Bm=start/\gt t.Az k=true/\InS y.Ah (gt t.Ah k)/\InS y.Ba (gt t.Ba k):=by
 unfold pathB at c;rw[je] at c;cases ho:srcO j.Ap start with
 |none=>rw[ho] at c;exact absurd c.1 (by decide)
 |some y=>
  obtain⟨h,g⟩:=qkl ho;have o:inI y.Bm 0 ((ndB j.Ac:Int)-1)=true:=by
   have b:=r.tg.sr;unfold srcB at b;rw[qah] at b;obtain⟨i,hi,e⟩:=List.mem_iff_getElem.1 g;have:=b i hi;rw[qd6 hi,e,je] at this;exact this.1
  obtain⟨s,r1,l⟩:=inRange o;have e:start=(y.Bm.toNat:Int):=by rw[<-h];exact qdP s
  have d:=n.eq _ l;have p:=qwj (f:=f) (ls:=linksL j.Ac) (lv:=lvJ j.Ac j.Bh) (t:=t) (node:=(y.Bm.toNat:Int)) (s0:=srcV (srcO j.Ap (y.Bm.toNat:Int))) (by rw[<-e,ho];rfl) (linksL j.Ac).length;obtain⟨s1,s2,m⟩:=p;have a:gt t.Az y.Bm.toNat=true:=d.r.trans s1;rw[<-d.a a,<-e,ho] at s2;rw[<-d.s a,<-e,ho] at m;exact⟨_,l,e,y,rfl,g,h,a,s2,m⟩
theorem qtQ(_:WkOk j t R)(m:JobT j t f){k a c:Nat}(o:k<lkB j.Ac)(r:gt (lvJ j.Ac j.Bh) k=true)(d:frN (linksL j.Ac) k=a)(n:(gt (linksL j.Ac) k).To=(c:Int))(g:c<ndB j.Ac)(p:gt t.Az a=true) :
  gt t.Az c=true/\InS (plusS (gt t.Ah a) (f k (gt t.Ba a)).1) (gt t.Ah c)/\InS (f k (gt t.Ba a)).2 (gt t.Ba c):=by
 have h:=m.eq c g;have l:toQ (linksL j.Ac) (lvJ j.Ac j.Bh) (c:Int) k=true:=by
  unfold toQ lvL toL;rw[r,n];simp
 obtain⟨s1,s2,i⟩:=qvb (f:=f) (s0:=srcV (srcO j.Ap (c:Int))) l (by rw[d];exact p) (linksL j.Ac).length o;have b:gt t.Az c=true:=h.r.trans s1;rw[<-h.a b,d] at s2;rw[<-h.s b,d] at i;exact⟨b,s2,i⟩
theorem qu8(g:WkOk j t R)(m:JobT j t f)(s:pathB j start path=true):∀i,i<=path.length->∃k:Nat,k<ndB j.Ac/\atP (linksL j.Ac) start path i=(k:Int)/\ArI t (arS f (linksL j.Ac) t (srcV (srcO j.Ap start)).2.Ah path i) k:=by
 intro i
 induction i with
 |zero=>
  intro _;obtain⟨k,n,e,y,v,H,_,I,b,_⟩:=qos g m s;refine⟨k,n,e,I,?_,?_⟩
  ·rw[v];exact b
  ·rw[v];have:=qsr g.tg.sr H;rw[qkt] at this;exact this.2.1
 |succ i ih=>
  intro hi;obtain⟨k,n,e,b⟩:=ih (by omega);obtain⟨l,a,c,u,el,J,d,r,F,h,M,z⟩:=qqs g s (show i<path.length by omega);have o:k=a:=by omega
  subst o;obtain⟨c1,x,_⟩:=qtQ g m u J d r h b.r;have p:=g.tm.sl k n;obtain⟨K,L,d2⟩:=qsK g.tg.bl g.tg.co m.ss u p;have D:=(m.eq k n).b b.r;rw[qkt] at D;refine⟨c,h,z,c1,?_,?_⟩
  ·refine InS.trans ?_ x;show InS (plusS (arS f (linksL j.Ac) t (srcV (srcO j.Ap start)).2.Ah path i) (f (at0 path i).toNat (gt t.Ba (frN (linksL j.Ac) (at0 path i).toNat))).1) _;rw[el,jp,d];have A:=b.i.e;have B:=b.i.l;have C:=b.o;constructor
   ·show W64 ((gt t.Ah k).Ar+(f l (gt t.Ba k)).1.Ar)<=W64 ((arS f (linksL j.Ac) t (srcV (srcO j.Ap start)).2.Ah path i).Ar+(f l (gt t.Ba k)).1.Ar);rw[qN (by omega) (by omega),qN (by omega) (by omega)];omega
   ·show W64 ((arS f (linksL j.Ac) t (srcV (srcO j.Ap start)).2.Ah path i).Bd+(f l (gt t.Ba k)).1.Bd)<=W64 ((gt t.Ah k).Bd+(f l (gt t.Ba k)).1.Bd);rw[qN (by omega) (by omega),qN (by omega) (by omega)];omega
  ·show(plusS (arS f (linksL j.Ac) t (srcV (srcO j.Ap start)).2.Ah path i) (f (at0 path i).toNat (gt t.Ba (frN (linksL j.Ac) (at0 path i).toNat))).1).Ar<=(plusS (arS f (linksL j.Ac) t (srcV (srcO j.Ap start)).2.Ah path i) (f (at0 path i).toNat (gt t.Ba (frN (linksL j.Ac) (at0 path i).toNat))).1).Bd;rw[el,jp,d];have A:=b.i.e;have B:=b.i.l;have C:=b.o;show W64 (_+_)<=W64 (_+_);rw[qN (by omega) (by omega),qN (by omega) (by omega)];omega
end
section
variable{j:qax}{t:qx}{R:List Nat}{start mode:Int}{path:List Int}
end
section
variable{j:qax}{t:qx}{start:Int}{path:List Int}{m:Nat}
end

def monS(m:Nat)(v:List Int)(i:Nat):Bool:=(decide (i % m=0) || decide (at0 v (i-1)<=at0 v i))&&(decide (i<m) || decide (at0 v (i-m)<=at0 v i))
def monB(t:qI):Bool:=tableB t&&allN (monS t.Bj.length t.Bf) t.Bf.length
theorem quU{i m:Nat}(h:0<m):remS (i:Int) (m:Int)=V ((i % m:Nat):Int):=by
 unfold remS;rw[if_neg (by omega),Int.ofNat_tmod]
theorem qrO{t:qI}(h:tableB t=true):0<t.Bj.length:=by
 unfold tableB axisB lenB at h;simp only[je,decide_eq_true_eq] at h;exact h.2.1.1.1
theorem qqh{t:qI}(h:qhm t):Ev (fun n=>qij n t) (monB t):=by
 have r:=h.Bf.len;have m:=h.Bj.len;unfold qij monB;refine Ev.bind (qpr h) ?_;cases ht:tableB t
 ·exact Ev.tt Z .done
 have o:=qrO ht;have l:Ev (fun n=>qa3 t n 0) (bif allN (monS t.Bj.length t.Bf) t.Bf.length then .nxt (t.Bf.length:Int) else .ret false):=by
  refine qeG (Ev.succ (by simp only[qa3,qp (jf _),cond_false];exact .done)) (fun j g X f=>Ev.succ ?_);have e0:idx t.Bf (j:Int)=V (at0 t.Bf j):=qai g;have e1:1<=j->idx t.Bf (W64 ((j:Int)-1))=V (at0 t.Bf (j-1)):=fun a=>by
   rw[qN (by omega) (by omega),show(j:Int)-1=((j-1:Nat):Int) by omega];exact qai (by omega)
  have k:t.Bj.length<=j->idx t.Bf (W64 ((j:Int)-(t.Bj.length:Int)))=V (at0 t.Bf (j-t.Bj.length)):=fun a=>by
   rw[qN (by omega) (by omega),show(j:Int)-(t.Bj.length:Int)=((j-t.Bj.length:Nat):Int) by omega];exact qai (by omega)
  simp only[qa3,qn g,cond_true,quU o,jd,e0,wS j];have i:Ev (fun n=>bif decide ((j:Int)>=(t.Bj.length:Int)) then(idx t.Bf (W64 ((j:Int)-(t.Bj.length:Int)))).bind fun p=>bif decide (p > at0 t.Bf j) then V (.ret false) else qa3 t n ((j+1:Nat):Int) else qa3 t n ((j+1:Nat):Int))
    (bif (decide (j<t.Bj.length) || decide (at0 t.Bf (j-t.Bj.length)<=at0 t.Bf j)) then X else .ret false):=by
   by_cases c:j<t.Bj.length
   ·rw[decide_eq_true c];exact Ev.ff (by simp;omega) f
   ·refine Ev.tt (by simp;omega) (Ev.bindN (k (by omega)) ?_);rw[decide_eq_false c];by_cases b:at0 t.Bf (j-t.Bj.length)<=at0 t.Bf j
    ·rw[decide_eq_true b];exact Ev.ff (by simp;omega) f
    ·rw[decide_eq_false b];exact Ev.tt (by simp;omega) .done
  unfold monS;by_cases a:j % t.Bj.length=0
  ·rw[decide_eq_true a];exact Ev.ff (by rw[a];rfl) i
  ·rw[decide_eq_false a];have d:1<=j:=by
    rcases Nat.eq_zero_or_pos j with rfl|h2
    ·simp at a
    ·exact h2
   refine Ev.tt (by simp;omega) (Ev.bindN (e1 d) ?_);by_cases b:at0 t.Bf (j-1)<=at0 t.Bf j
   ·rw[decide_eq_true b];exact Ev.ff (by simp;omega) i
   ·rw[decide_eq_false b];exact Ev.tt (by simp;omega) .done
 refine Ev.ff Z (Ev.bind l ?_);cases allN (monS t.Bj.length t.Bf) t.Bf.length<;>exact .done
def monsB(a:List qI):Bool:=a.all monB
theorem qm9{a:List qI}(h:okL qhm a):Ev (fun n=>qgb n a) (monsB a):=by
 have f:=h.len;have c:Ev (fun n=>qdg a n 0) (bif a.all monB then .nxt (a.length:Int) else .ret false):=
  qkL (fun n=>by simp only[qdg,qp (jf _),cond_false]) (fun j b X d=>by
   simp only[qdg,qn b,cond_true,qa1 b,jd,wS j];refine Ev.bind (qqh (h.2 _ (jn b))) ?_;cases monB a[j]
   ·exact Ev.tt Z .done
   ·exact Ev.ff Z d)
 unfold qgb monsB;refine Ev.bind c ?_;cases a.all monB<;>exact .done
def marcB(a:qat):Bool:=!decide (a.Be<=3) || (monsB a.Bo&&monsB a.Ba)
def mblockB(b:qe):Bool:=blockB b&&b.Aq.As.all fun c=>c.Av.all marcB
theorem qvU{c:qF}(h:okL qll c.Av):Ev (fun n=>qbz c n 0) (bif c.Av.all marcB then .nxt (c.Av.length:Int) else .ret false):=by
 have f:=h.len;refine qkL (fun n=>by simp only[qbz,qp (jf _),cond_false]) (fun j a X b=>?_);simp only[qbz,qn a,cond_true,qa1 a,jd,wS j];have d:=h.2 _ (jn a);unfold marcB;cases decide (c.Av[j].Be<=3)
 ·exact Ev.ff Z b
 ·refine Ev.tt Z (Ev.bind (qm9 d.Bo) ?_);cases monsB c.Av[j].Bo
  ·exact Ev.tt Z .done
  ·refine Ev.ff Z (Ev.bind (qm9 d.Ba) ?_);cases monsB c.Av[j].Ba
   ·exact Ev.tt Z .done
   ·exact Ev.ff Z b
theorem qnH{b:qe}(a:qjO b):Ev (fun n=>qfB n b) (mblockB b):=by
 have h:=a.Aq.As.len;have f:Ev (fun n=>qb9 b n 0) (bif b.Aq.As.all (fun c=>c.Av.all marcB) then .nxt (b.Aq.As.length:Int) else .ret false):=by
  refine qkL (fun n=>by simp only[qb9,qp (jf _),cond_false]) (fun j d X g=>?_);simp only[qb9,qn d,cond_true,qa1 d,jd,wS j];refine Ev.bind (qvU (a.Aq.As.2 _ (jn d)).Av) ?_;cases b.Aq.As[j].Av.all marcB
  ·exact .done
  ·exact g
 unfold qfB mblockB;refine Ev.bind (qhf a) ?_;cases blockB b
 ·exact Ev.tt Z .done
 ·refine Ev.ff Z (Ev.bind f ?_);cases b.Aq.As.all (fun c=>c.Av.all marcB)<;>exact .done
end Go.Fw
