/- Plain laws: loads and delays of the wires of a valid block. -/
import Derived.Test.YtfkmekkhnmifiaaGreatDoorDR4
import Derived.Test.YtfkmekkhnmifiaaGreatDoorFw36
import Derived.Test.YtfkmekkhnmifiaaGreatDoorR3
import Derived.Test.YtfkmekkhnmifiaaGreatDoorZ1
import Derived.Test.YtfkmekkhnmifiaaGreatDoorA3
open Option renaming bind_some->jd, some->V, none->U
open Nat renaming le_refl->je, mul_le_mul_right->ju, le_trans->jR, zero_le->jW
open Bool renaming and_eq_true->jf, eq_iff_iff->jj, true_and->jy, not_eq_true'->jA, not_true->Jh, false_or->Jj
open List renaming length_append->jg, length_singleton->ji, getElem?_eq_getElem->jn, getElem_mem->jo, mem_cons_of_mem->jp, mem_cons_self->js, length_map->jt, append_assoc->jv, getD_eq_getElem?_getD->jx, not_mem_nil->jz, take_succ_eq_append_getElem->jC, all_eq_true->jF, take_length->jG, length_replicate->jH, mem_cons->jK, length_take->jM, mem_append_left->jP, drop_eq_getElem_cons->jV, append_nil->jY, map_append->jZ, length_cons->Ja, mem_append_right->Jc, ext_getElem->Jg
open Int renaming toNat_natCast->jq, tdiv_eq_ediv_of_nonneg->jD, mul_nonneg->jT, le_refl->jU, mul_le_mul->jX, add_zero->Jd, mul_assoc->Je

namespace Go.Fw
open Go
set_option maxRecDepth 100000
def sumZ(f:Nat->Int):Nat->Int
 |0=>0
 |n+1=>sumZ f n+f n
theorem qua{f g:Nat->Int}{n:Nat}(h:∀u,u<n->f u=g u):sumZ f n=sumZ g n:=by
 induction n with
 |zero=>rfl
 |succ n ih=>unfold sumZ;rw[ih (fun u a=>h u (by omega)),h n (by omega)]
theorem qsx{f g:Nat->Int}{a n:Nat}(d:a<n)(h:∀u,u<n->u≠a->f u=g u):sumZ f n=sumZ g n+(f a-g a):=by
 induction n with
 |zero=>omega
 |succ n ih=>
  unfold sumZ;by_cases b:a=n
  .subst b;rw[qua (fun u c=>h u (by omega) (by omega))];omega
  .rw[ih (by omega) (fun u c=>h u (by omega)),h n (by omega) (by omega)];omega
theorem qxd{f:Nat->Int}{n:Nat}(h:∀u,u<n->0<=f u):0<=sumZ f n:=by
 induction n with
 |zero=>exact jU _
 |succ n ih=>unfold sumZ;have:=ih (fun u a=>h u (by omega));have:=h n (by omega);omega
theorem qsj{f:Nat->Int}{a n:Nat}(h:∀u,u<n->0<=f u)(d:a<n):f a<=sumZ f n:=by
 induction n with
 |zero=>omega
 |succ n ih=>
  unfold sumZ;by_cases b:a=n
  .subst b;have:=qxd (fun u (c:u<a)=>h u (by omega));omega
  .have:=ih (fun u c=>h u (by omega)) (by omega);have:=h n (by omega);omega
theorem qxz{f:Nat->Int}{n:Nat}{c:Int}(h:∀u,u<n->f u<=c):sumZ f n<=n*c:=by
 induction n with
 |zero=>simp[sumZ]
 |succ n ih=>
  unfold sumZ;have:=ih (fun u a=>h u (by omega));have:=h n (by omega);rw[Int.natCast_succ,Int.add_mul];omega
def pinCap(b:qd)(p:Tplace):Int:=bif decide (p.instance_<0) then 0 else(gt (cellAt b p.instance_).Ay p.pin.toNat).Bl
def capJ(b:qd)(j:Nat):Int:=pinCap b (gt (places b.Aa) j)
theorem qv0{b:qd}(h:blockB b=true){j:Nat}(d:j<(places b.Aa).length){n:Nat}:qhg n b.Aa b.Am (gt (places b.Aa) j)=V (capJ b j):=by
 have c:=qao h;unfold capJ pinCap;rcases qln d with⟨i,k,hi,hk,_,e⟩|⟨i,hi,_,e⟩
 .rw[e];obtain⟨⟨a,c1⟩,f,_⟩:=qhO c hi;unfold place1 cellAt;simp only[qhg,show decide ((i:Int)<0)=false by simp,cond_false,qw hi,jd,qf4 a c1,jq,qw (show k<(gt b.Am.Ap (gt b.Aa.Ab i).Bq.toNat).Ay.length by omega)]
 .rw[e];rfl
theorem qvK{b:qd}(h:blockB b=true){j:Nat}(f:j<(places b.Aa).length):0<=capJ b j/\capJ b j<=500:=by
 have d:=qao h;unfold capJ pinCap;rcases qln f with⟨i,k,hi,hk,_,e⟩|⟨i,hi,_,e⟩
 .rw[e];obtain⟨⟨g,c1⟩,l,c⟩:=qhO d hi;unfold place1 cellAt;simp only[show decide ((i:Int)<0)=false by simp,cond_false,jq];have a:=qjF c;unfold pinsB at a;rw[jf,qai] at a;have:=a.1 k (by omega);unfold pinB at this;cases hl:decide (k+1=(gt b.Am.Ap (gt b.Aa.Ab i).Bq.toNat).Ay.length)
  .rw[hl] at this;simp only[cond_false,jf,qaQ] at this;exact this.2
  .rw[hl] at this;simp only[cond_true,jf,beq_iff_eq] at this;omega
 .rw[e];exact⟨jU _,show(0:Int)<=500 by omega⟩
def skL(b:qd)(i:Nat):List Int:=sinksL b.Aa (i:Int) (places b.Aa).length
def addSink(b:qd)(w:qah)(sk:List Int)(t:List Int)(j:Nat):List Int:=setS t (at0 w.Bb j) (W64 (gt t (at0 w.Bb j).toNat+capJ b (at0 sk j).toNat))
def ldA(b:qd)(w:qah)(sk:List Int):Nat->List Int
 |0=>w.Bl
 |j+1=>addSink b w sk (ldA b w sk j) j
def addUp(w:qah)(t:List Int)(j:Nat):List Int:=setS t (at0 w.Aj j) (W64 (gt t (at0 w.Aj j).toNat+gt t j))
def ldB(w:qah):Nat->List Int->List Int
 |0,t=>t
 |j+1,t=>ldB w j (addUp w t (j+1))
def loadsL(b:qd)(i:Nat):List Int:=ldB (gt b.Ac i) ((gt b.Ac i).Aj.length-1) (ldA b (gt b.Ac i) (skL b i) (skL b i).length)
theorem qoU{b:qd}{w:qah}{sk:List Int}{j:Nat}:(ldA b w sk j).length=w.Bl.length:=by
 induction j with
 |zero=>rfl
 |succ j ih=>unfold ldA addSink;rw[qaY,ih]
theorem qwM{w:qah}{j:Nat}{t:List Int}:(ldB w j t).length=t.length:=by
 induction j generalizing t with
 |zero=>rfl
 |succ j ih=>unfold ldB addUp;rw[ih,qaY]
theorem qmE{b:qd}(h:blockB b=true){i:Nat}(hi:i<b.Ac.length):(loadsL b i).length=(gt b.Ac i).Aj.length:=by
 unfold loadsL;rw[qwM,qoU,(qbL h hi).cap]
theorem qhK{b:qd}(h:blockB b=true){i:Nat}:(skL b i).length<=78:=by
 have a:=qaW (qZ (qao h));unfold skL;rw[qjw];have:cntP (snkQ b.Aa (i:Int)) (places b.Aa).length<=(places b.Aa).length:=qgM;omega
theorem qoh{b:qd}{i j:Nat}(a:j<(skL b i).length):∃y:Nat,y<(places b.Aa).length/\at0 (skL b i) j=(y:Int)/\snkQ b.Aa (i:Int) y=true:=by
 obtain⟨y,c,d,f⟩:=quS a;exact⟨y,c,by have:=d;rw[show(sinksL b.Aa (i:Int) (places b.Aa).length)=skL b i from rfl,qaw a] at this;exact Option.some.inj this,f⟩
theorem qox{b:qd}(h:blockB b=true){i:Nat}(hi:i<b.Ac.length):Ev (fun n=>qd1 n b (i:Int)) (loadsL b i):=by
 have c:=qbL h hi;have m:=qZ (qao h);have u:=c.lo;have r:=c.hi;have d:=c.cap;have x:=qhK h (i:=i);have e1:Ev (fun n=>qbw b (gt b.Ac i) (places b.Aa) (skL b i) n (gt b.Ac i).Bl 0) (ldA b (gt b.Ac i) (skL b i) (skL b i).length,((skL b i).length:Int)):=by
  refine loopF (Lf:=qbw b (gt b.Ac i) (places b.Aa) (skL b i)) (S:=ldA b (gt b.Ac i) (skL b i)) (len:=(skL b i).length) (fun n=>?_) (fun j a X l=>?_)
  .simp only[qbw,qq (je _),cond_false]
  .obtain⟨y,o,k,_⟩:=qoh a;have f:j<(gt b.Ac i).Bb.length:=by rw[c.snk];exact a
   have g:=c.sin j f;have s:=qoU (b:=b) (w:=gt b.Ac i) (sk:=skL b i) (j:=j);simp only[qbw,qp a,cond_true,qaw a,k,jd,qaw f,qf4 g.1 (show at0 (gt b.Ac i).Bb j<((ldA b (gt b.Ac i) (skL b i) j).length:Int) by omega),qw o,qv0 h o,wS j];have:ldA b (gt b.Ac i) (skL b i) (j+1)=setS (ldA b (gt b.Ac i) (skL b i) j) (at0 (gt b.Ac i).Bb j) (W64 (gt (ldA b (gt b.Ac i) (skL b i) j) (at0 (gt b.Ac i).Bb j).toNat+capJ b y)):=by
    show addSink _ _ _ _ _=_;unfold addSink;rw[k,jq]
   rw[this] at l;exact l
 have p:∀j t,t.length=(gt b.Ac i).Aj.length->j<(gt b.Ac i).Aj.length->Ev (fun n=>qby (gt b.Ac i) n t (j:Int)) (ldB (gt b.Ac i) j t,0):=by
  intro j
  induction j with
  |zero=>
   intro t _ _;refine Ev.succ ?_;show Ev (fun n=>qby (gt b.Ac i) (n+1) t 0) _;unfold qby;exact Ev.ff Z .done
  |succ j ih=>
   intro t z a;have v:=c.par (j+1) (by omega) a;refine Ev.succ ?_;simp only[qby,show decide (((j+1:Nat):Int) > 0)=true from decide_eq_true (by omega),cond_true,qaw a,jd,qf4 v.1 (show at0 (gt b.Ac i).Aj (j+1)<(t.length:Int) by omega),qw (show j+1<t.length by omega),show((j+1:Nat):Int)-1=(j:Int) by omega,qP (show -9223372036854775808<=(j:Int) by omega) (by omega)];exact ih _ (by rw[qaY];exact z) (by omega)
 unfold qd1 qiB;rw[qw hi];simp only[jd,qcA (show([]:List Int).length+(gt b.Ac i).Bl.length<=2147483648 by simp;omega),List.nil_append];refine Ev.bind (qnG m) (Ev.bind (qq4 m) (Ev.bind e1 ?_));rw[qd7 (show(gt b.Ac i).Bl.length<=9223372036854775807 by omega),show((gt b.Ac i).Bl.length:Int)-1=(((gt b.Ac i).Aj.length-1:Nat):Int) by omega];exact Ev.bind (p _ _ (by rw[qoU];exact d) (by omega)) .done
structure LdOk(t:List Int)(L:Nat)(S:Int):Prop where
 len:t.length=L
 nn:∀k,k<L->0<=gt t k
 sum:sumZ (gt t) L<=S
theorem qmv{t:List Int}{a:Nat}{y:Int}{k:Nat}(b:a<t.length):gt (setS t (a:Int) y) k=if k=a then y else gt t k:=by
 unfold setS;rw[jq];by_cases h:k=a
 .subst h;rw[if_pos Z,qpR b]
 .rw[if_neg h,qrQ h]
theorem qxQ{b:qd}(h:blockB b=true){i:Nat}(hi:i<b.Ac.length)(m:∀k,k<(gt b.Ac i).Bl.length->0<=gt (gt b.Ac i).Bl k/\gt (gt b.Ac i).Bl k<=500) :
  ∀j,j<=(skL b i).length->LdOk (ldA b (gt b.Ac i) (skL b i) j) (gt b.Ac i).Aj.length (4000+500*j):=by
 have p:=qbL h hi;have z:=p.hi;have l:=p.cap;have A:=qhK h (i:=i);intro j
 induction j with
 |zero=>
  intro _;refine⟨l,fun k t=>(m k (by omega)).1,?_⟩;have:=qxz (f:=gt (gt b.Ac i).Bl) (n:=(gt b.Ac i).Aj.length) (c:=500) (fun u H=>(m u (by omega)).2);show sumZ (gt (gt b.Ac i).Bl) _<=_;omega
 |succ j ih=>
  intro D;obtain⟨l1,n1,s1⟩:=ih (by omega);obtain⟨y,B,v,_⟩:=qoh (show j<(skL b i).length by omega);have C:=qvK h B;have o:=p.sin j (by rw[p.snk];exact(show j<(skL b i).length by omega));obtain⟨a,s⟩:∃a:Nat,at0 (gt b.Ac i).Bb j=(a:Int):=⟨_,qdx o.1⟩;rw[s] at o;have d:a<(gt b.Ac i).Aj.length:=by omega
  have x:=qsj n1 d;have F:=n1 a d;have e:ldA b (gt b.Ac i) (skL b i) (j+1)=setS (ldA b (gt b.Ac i) (skL b i) j) (a:Int) (gt (ldA b (gt b.Ac i) (skL b i) j) a+capJ b y):=by
   show addSink _ _ _ _ _=_;unfold addSink;rw[v,s,jq,jq,qP (by omega) (by omega)]
  rw[e];refine⟨by rw[qaY];exact l1,fun k t=>?_,?_⟩
  .rw[qmv (by omega)];split
   .omega
   .exact n1 k t
  .rw[qsx (g:=gt (ldA b (gt b.Ac i) (skL b i) j)) d (fun u _ r=>by rw[qmv (by omega),if_neg r]),qmv (by omega),if_pos Z];omega
theorem qxR{b:qd}(h:blockB b=true){i:Nat}(hi:i<b.Ac.length){S:Int}(A:S<=1000000000):∀j t,j<(gt b.Ac i).Aj.length->t.length=(gt b.Ac i).Aj.length->(∀k,k<t.length->0<=gt t k/\gt t k<=S)->sumZ (gt t) (j+1)<=S ->
  ∀k,k<t.length->0<=gt (ldB (gt b.Ac i) j t) k/\gt (ldB (gt b.Ac i) j t) k<=S:=by
 have x:=qbL h hi;intro j
 induction j with
 |zero=>intro t _ _ c _;exact c
 |succ j ih=>
  intro t s v c r;have p:=x.par (j+1) (by omega) s;obtain⟨a,o⟩:∃a:Nat,at0 (gt b.Ac i).Aj (j+1)=(a:Int):=⟨_,qdx p.1⟩;rw[o] at p;have y:=c a (by omega);have z:=c (j+1) (by omega);have e:addUp (gt b.Ac i) t (j+1)=setS t (a:Int) (gt t a+gt t (j+1)):=by
   unfold addUp;rw[o,jq,qP (by omega) (by omega)]
  have n:sumZ (gt (setS t (a:Int) (gt t a+gt t (j+1)))) (j+1)<=S:=by
   rw[qsx (g:=gt t) (a:=a) (by omega) (fun u _ l=>by rw[qmv (by omega),if_neg l]),qmv (by omega),if_pos Z];have:sumZ (gt t) (j+1+1)=sumZ (gt t) (j+1)+gt t (j+1):=rfl;omega
  unfold ldB;rw[e];have:=ih (setS t (a:Int) (gt t a+gt t (j+1))) (by omega) (by rw[qaY];exact v) (fun k f=>by
   rw[qaY] at f;have m:∀u,u<j+1->0<=gt (setS t (a:Int) (gt t a+gt t (j+1))) u:=fun u B=>by
    rw[qmv (by omega)];split
    .omega
    .exact(c u (by omega)).1
   have d:=qsj m (show a<j+1 by omega);rw[qmv (by omega)] at d⊢;rw[if_pos Z] at d;split
   .omega
   .exact c k f) n
  rw[qaY] at this;exact this
theorem qpL{b:qd}(h:blockB b=true){i:Nat}(hi:i<b.Ac.length):(∀k,k<(gt b.Ac i).Bl.length->0<=gt (gt b.Ac i).Bl k/\gt (gt b.Ac i).Bl k<=500)/\(∀k,k<(gt b.Ac i).Br.length->0<=at0 (gt b.Ac i).Br k/\at0 (gt b.Ac i).Br k<=1000):=by
 unfold blockB at h;rw[jf,qai] at h;have:=h.2 i hi;unfold wireB lenB at this;simp only[jf,decide_eq_true_eq,beq_iff_eq] at this;obtain⟨_,_,_,_,f,c,_⟩:=this;rw[qho (d:=0),qai] at f c;exact⟨fun k a=>by have:=c k a;rw[qaQ] at this;exact this,fun k a=>by have:=f k a;rw[qaQ] at this;exact this⟩
theorem qtU{b:qd}(h:blockB b=true){i:Nat}(hi:i<b.Ac.length){k:Nat}(c:k<(gt b.Ac i).Aj.length):0<=gt (loadsL b i) k/\gt (loadsL b i) k<=43000:=by
 have g:=qbL h hi;have d:=g.lo;have f:=qhK h (i:=i);obtain⟨l1,n1,s1⟩:=qxQ h hi (qpL h hi).1 (skL b i).length (je _);have:=qxR h hi (S:=43000) (by omega) ((gt b.Ac i).Aj.length-1) (ldA b (gt b.Ac i) (skL b i) (skL b i).length) (by omega) l1 (fun k c=>by
  have a:=n1 k (by omega);have l:=qsj n1 (show k<(gt b.Ac i).Aj.length by omega);exact⟨a,by omega⟩) (by rw[show(gt b.Ac i).Aj.length-1+1=(gt b.Ac i).Aj.length by omega];omega) k (by omega)
 exact this
def dlL(w:qah)(ld:List Int):Nat->List Int
 |0=>[0]
 |k+1=>dlL w ld k++[W64 (gt (dlL w ld k) (at0 w.Aj (k+1)).toNat+W64 (at0 w.Br (k+1)*gt ld (k+1)))]
theorem qoO{w:qah}{ld:List Int}{k:Nat}:(dlL w ld k).length=k+1:=by
 induction k with
 |zero=>rfl
 |succ k ih=>unfold dlL;rw[jg,ih];rfl
def delaysL(b:qd)(i:Nat):List Int:=dlL (gt b.Ac i) (loadsL b i) ((gt b.Ac i).Aj.length-1)
def exactL(b:qd)(i:Nat):List Int:=(gt b.Ac i).Bb.map fun s=>gt (delaysL b i) s.toNat
theorem qng{b:qd}(h:blockB b=true){i:Nat}(hi:i<b.Ac.length):(delaysL b i).length=(gt b.Ac i).Aj.length:=by
 unfold delaysL;rw[qoO];have:=(qbL h hi).lo;omega
theorem qw1{w:qah}{ld:List Int}{k m:Nat}(b:k+1<m)(c:at0 w.Aj (k+1)<((k+1:Nat):Int))(_:0<=at0 w.Aj (k+1)) :
  setS (dlL w ld k++List.replicate (m-(k+1)) 0) ((k+1:Nat):Int) (W64 (gt (dlL w ld k++List.replicate (m-(k+1)) 0) (at0 w.Aj (k+1)).toNat+W64 (at0 w.Br (k+1)*gt ld (k+1))))=dlL w ld (k+1)++List.replicate (m-(k+1+1)) 0:=by
 have a:=qoO (w:=w) (ld:=ld) (k:=k);have e1:gt (dlL w ld k++List.replicate (m-(k+1)) 0) (at0 w.Aj (k+1)).toNat=gt (dlL w ld k) (at0 w.Aj (k+1)).toNat:=by
  rw[ql6,if_pos (by omega)]
 rw[e1];unfold setS;rw[jq,List.set_append,if_neg (by omega),a,Nat.sub_self,show m-(k+1)=(m-(k+1+1))+1 by omega,List.replicate_succ,List.set_cons_zero];show _=(dlL w ld k++[_])++_;rw[jv]
 rfl
theorem qq9{b:qd}(h:blockB b=true){i:Nat}(hi:i<b.Ac.length):Ev (fun n=>qfq n b (i:Int)) (delaysL b i):=by
 have f:=qbL h hi;have s:=f.lo;have p:=f.hi;have o:=f.res;have l1:=qmE h hi;have l:mkS ((loadsL b i).length:Int) (0:Int)=V (List.replicate (loadsL b i).length 0):=qw7 (by omega);have c:∀d k,k+1+d=(gt b.Ac i).Aj.length->Ev (fun n=>qbZ (gt b.Ac i) (loadsL b i) (List.replicate (loadsL b i).length 0) n (dlL (gt b.Ac i) (loadsL b i) k++List.replicate ((gt b.Ac i).Aj.length-(k+1)) 0) ((k+1:Nat):Int)) (delaysL b i,((loadsL b i).length:Int)):=by
  intro d
  induction d with
  |zero=>
   intro k g;refine Ev.succ ?_;simp only[qbZ,jH,qq (show(loadsL b i).length<=k+1 by omega),cond_false];refine Ev.now ?_;rw[show(gt b.Ac i).Aj.length-(k+1)=0 by omega,List.replicate_zero,jY,l1,<-g];unfold delaysL;rw[<-g]
   rfl
  |succ d ih=>
   intro k g;have m:=f.par (k+1) (by omega) (by omega);have a:=qoO (w:=gt b.Ac i) (ld:=loadsL b i) (k:=k);have r:(dlL (gt b.Ac i) (loadsL b i) k++List.replicate ((gt b.Ac i).Aj.length-(k+1)) 0).length=(gt b.Ac i).Aj.length:=by rw[jg,jH,a];omega
   refine Ev.succ ?_;simp only[qbZ,jH,qp (show k+1<(loadsL b i).length by omega),cond_true,qaw (show k+1<(gt b.Ac i).Aj.length by omega),jd,qf4 m.1 (show at0 (gt b.Ac i).Aj (k+1)<((dlL (gt b.Ac i) (loadsL b i) k++List.replicate ((gt b.Ac i).Aj.length-(k+1)) 0).length:Int) by omega),
    qaw (show k+1<(gt b.Ac i).Br.length by omega),qw (show k+1<(loadsL b i).length by omega),qw (show k+1<(dlL (gt b.Ac i) (loadsL b i) k++List.replicate ((gt b.Ac i).Aj.length-(k+1)) 0).length by omega),qim (show k+1<9223372036854775807 by omega)]
   rw[qw1 (by omega) m.2 m.1];exact ih (k+1) (by omega)
 unfold qfq;rw[qw hi];simp only[jd];refine Ev.bind (qox h hi) ?_;rw[l];simp only[jd];have:=c ((gt b.Ac i).Aj.length-1) 0 (by omega);have e0:dlL (gt b.Ac i) (loadsL b i) 0++List.replicate ((gt b.Ac i).Aj.length-(0+1)) 0=List.replicate (loadsL b i).length 0:=by
  rw[l1];show[(0:Int)]++_=_;rw[show(gt b.Ac i).Aj.length=((gt b.Ac i).Aj.length-(0+1))+1 by omega,List.replicate_succ]
  rfl
 rw[e0] at this;exact Ev.bind this .done
theorem qqF{b:qd}(h:blockB b=true){i:Nat}(hi:i<b.Ac.length):Ev (fun n=>qeG n b (i:Int)) (exactL b i):=by
 have d:=qbL h hi;have l:(gt b.Ac i).Bb.length<=78:=by rw[d.snk];exact qhK h
 have k:=qng h hi;have f:Ev (fun n=>qbd (delaysL b i) (gt b.Ac i) n ([]:List Int) 0) (exactL b i,((gt b.Ac i).Bb.length:Int)):=by
  refine loopF (Lf:=qbd (delaysL b i) (gt b.Ac i)) (S:=fun j=>((gt b.Ac i).Bb.take j).map fun s=>gt (delaysL b i) s.toNat) (len:=(gt b.Ac i).Bb.length) (fun n=>?_) (fun j a X g=>?_)
  .simp only[qbd,qq (je _),cond_false,jG];rfl
  .have c:=d.sin j a;simp only[qbd,qp a,cond_true,qaw a,jd,qf4 c.1 (show at0 (gt b.Ac i).Bb j<((delaysL b i).length:Int) by omega),wS j];rw[qcA (by rw[jt,jM,ji];omega)];have:((gt b.Ac i).Bb.take j).map (fun s=>gt (delaysL b i) s.toNat)++[gt (delaysL b i) (at0 (gt b.Ac i).Bb j).toNat]=((gt b.Ac i).Bb.take (j+1)).map fun s=>gt (delaysL b i) s.toNat:=by
    rw[jC a,jZ,qiE a];rfl
   rw[this];exact g
 unfold qeG;refine Ev.bind (qq9 h hi) ?_;rw[qw hi];simp only[jd];exact Ev.bind f .done
theorem qsU{b:qd}(h:blockB b=true){i:Nat}(hi:i<b.Ac.length):∀k,k<(gt b.Ac i).Aj.length->∀m,m<=k->0<=gt (dlL (gt b.Ac i) (loadsL b i) k) m/\gt (dlL (gt b.Ac i) (loadsL b i) k) m<=43000000*k:=by
 have l:=qbL h hi;have t:=l.hi;have r:=l.res;intro k
 induction k with
 |zero=>
  intro _ m u;have f:m=0:=by omega
  subst f;exact⟨jU _,jU _⟩
 |succ k ih=>
  intro o m u;have c:=qoO (w:=gt b.Ac i) (ld:=loadsL b i) (k:=k);unfold dlL;rw[ql6];split
  .have:=ih (by omega) m (by omega);omega
  .have g:m=k+1:=by omega
   subst g;rw[c,Nat.sub_self];show 0<=W64 _/\W64 _<=_;have p:=l.par (k+1) (by omega) o;obtain⟨a,s⟩:∃a:Nat,at0 (gt b.Ac i).Aj (k+1)=(a:Int):=⟨_,qdx p.1⟩;rw[s] at p⊢;rw[jq];have v:=ih (by omega) a (by omega);have n:=(qpL h hi).2 (k+1) (by omega);have d:=qtU h hi o;have x:at0 (gt b.Ac i).Br (k+1)*gt (loadsL b i) (k+1)<=1000*43000:=jX n.2 d.2 d.1 (by omega);have y:0<=at0 (gt b.Ac i).Br (k+1)*gt (loadsL b i) (k+1):=jT n.1 d.1;rw[wO (at0 (gt b.Ac i).Br (k+1)*gt (loadsL b i) (k+1)),qP (by omega) (by omega)];omega
theorem qof{b:qd}(h:blockB b=true){i:Nat}(hi:i<b.Ac.length){j:Nat}(a:j<(gt b.Ac i).Bb.length):0<=gt (exactL b i) j/\gt (exactL b i) j<=344000000:=by
 have c:=qbL h hi;have d:=c.hi;have f:=c.sin j a;have e:gt (exactL b i) j=gt (delaysL b i) (at0 (gt b.Ac i).Bb j).toNat:=by
  unfold exactL;rw[qeV (by rw[jt];exact a),List.getElem_map,qiE a]
 rw[e];have:=qsU h hi ((gt b.Ac i).Aj.length-1) (by omega) (at0 (gt b.Ac i).Bb j).toNat (by omega);show 0<=gt (dlL _ _ _) _/\gt (dlL _ _ _) _<=_;omega

def pre{α:Type}(f:Nat->α)(j:Nat):List α:=(List.range j).map f
theorem qla{α:Type}{f:Nat->α}{j:Nat}:(pre f j).length=j:=by simp[pre]
theorem qvC{α:Type}{f:Nat->α}{j:Nat}:pre f j++[f j]=pre f (j+1):=by unfold pre;rw[List.range_succ,jZ];rfl
theorem qso{α:Type}{f:Nat->α}{j:Nat}(h:j<=1048576):appS (pre f j) [f j]=V (pre f (j+1)):=by
 rw[qcA (by rw[qla,ji];omega),qvC]
theorem qvS{α:Type}[Inhabited α]{f:Nat->α}{n j:Nat}(h:j<n):gt (pre f n) j=f j:=qqp h
theorem qja{α:Type}[Inhabited α]{f:Nat->α}{n j:Nat}(h:j<n):idx (pre f n) (j:Int)=V (f j):=by rw[qw (by rw[qla];exact h),qvS h]
theorem qh3{α:Type}{f g:Nat->α}{n:Nat}(h:∀k,k<n->f k=g k):pre f n=pre g n:=List.map_congr_left fun k a=>h k (List.mem_range.1 a)
theorem qoT{α:Type}{f:Nat->α}{n k:Nat}{v:α}:setS (pre f n) (k:Int) v=pre (fun i=>if i=k then v else f i) n:=by
 unfold setS pre;rw[jq];refine Jg (by simp) fun i a b=>?_;rw[List.getElem_set];by_cases h:k=i
 .subst h;simp
 .rw[if_neg h];simp[show ¬ i=k from fun e=>h e.symm]
def fm{α:Type}(f:Nat->List α)(j:Nat):List α:=(List.range j).flatMap f
theorem qkt{α:Type}{f:Nat->List α}{j:Nat}:fm f (j+1)=fm f j++f j:=by unfold fm;rw[List.range_succ,List.flatMap_append];simp
theorem qpw{α:Type}{f:Nat->List α}{j c:Nat}(h:∀i,i<j->(f i).length<=c):(fm f j).length<=c*j:=by
 induction j with
 |zero=>exact je _
 |succ j ih=>rw[qkt,jg];have:=ih (fun i hi=>h i (by omega));have:=h j (by omega);rw[Nat.mul_succ];omega
def transL(a:qaF):List qX:=
 bif (a.Au==2) then[⟨0,0⟩,⟨0,1⟩] else bif (a.Au==3) then[⟨1,0⟩,⟨1,1⟩] else bif (a.Au != 1) then[] else
 bif (a.Bk==1) then[⟨0,0⟩,⟨1,1⟩] else bif (a.Bk==2) then[⟨0,1⟩,⟨1,0⟩] else[⟨0,0⟩,⟨0,1⟩,⟨1,0⟩,⟨1,1⟩]
theorem quU{a:qaF}{n:Nat}:qfY n a=V (transL a):=by
 unfold qfY transL;cases (a.Au==2)
 .cases (a.Au==3)
  .cases (a.Au != 1)
   .cases (a.Bk==1)
    .cases (a.Bk==2)<;>rfl
    .rfl
   .rfl
  .rfl
 .rfl
theorem qqQ{a:qaF}:(transL a).length<=4:=by
 unfold transL;cases (a.Au==2)
 .cases (a.Au==3)
  .cases (a.Au != 1)
   .cases (a.Bk==1)
    .cases (a.Bk==2)<;>simp
    .simp
   .simp
  .simp
 .simp
def b01(x:Int):Prop:=x=0\/x=1
theorem qrJ{a:qaF}{t:qX}(h:t∈transL a):b01 t.e0/\b01 t.e1:=by
 have b:∀t∈[(⟨0,0⟩:qX),⟨0,1⟩,⟨1,0⟩,⟨1,1⟩],b01 t.e0/\b01 t.e1:=by
  intro t c;simp only[jK,jz,or_false] at c;rcases c with rfl|rfl|rfl|rfl<;>simp[b01]
 refine b t ?_;unfold transL at h;revert h;cases (a.Au==2)
 .cases (a.Au==3)
  .cases (a.Au != 1)
   .cases (a.Bk==1)
    .cases (a.Bk==2)
     .exact fun h=>h
     .intro h;simp at h;rcases h with rfl|rfl<;>simp
    .intro h;simp at h;rcases h with rfl|rfl<;>simp
   .intro h;simp at h
  .intro h;simp at h;rcases h with rfl|rfl<;>simp
 .intro h;simp at h;rcases h with rfl|rfl<;>simp
def al1(first:Int)(k:Nat)(a:qaF)(t:qX):qv:=⟨2*(first+a.Bd)+t.e0,2*(first+a.To)+t.e1,1,(k:Int)⟩
def arcLs(first:Int)(k:Nat)(a:qaF):List qv:=(transL a).map (al1 first k a)
def cellLs(c:qL)(first:Int)(j:Nat):List qv:=fm (fun k=>arcLs first k (gt c.Ar k)) j
def instLs(b:qd)(j:Nat):List qv:=fm (fun i=>cellLs (cellAt b (i:Int)) (off b.Aa i:Int) (cellAt b (i:Int)).Ar.length) j
theorem qpu{first:Int}{k:Nat}{a:qaF}:(arcLs first k a).length<=4:=by unfold arcLs;rw[jt];exact qqQ
theorem qr4{b:qd}(h:blockB b=true){i:Nat}(hi:i<b.Aa.Ab.length):Ev (fun n=>qfL n b (gt b.Aa.Ab i) (off b.Aa i:Int)) (cellLs (cellAt b (i:Int)) (off b.Aa i:Int) (cellAt b (i:Int)).Ar.length):=by
 have u:=qao h;have D:=qZ u;obtain⟨⟨z,c1⟩,r,g⟩:=qhO u hi;have B:=qoe g;have s:=(qhx (qjF g)).1;have v:off b.Aa i<=78:=by
  have:=qaW D;rw[qhq] at this;have:=qtN (d:=b.Aa) (show i<=b.Aa.Ab.length by omega);omega
 show Ev _ (cellLs (gt b.Am.Ap (gt b.Aa.Ab i).Bq.toNat) (off b.Aa i:Int) (gt b.Am.Ap (gt b.Aa.Ab i).Bq.toNat).Ar.length);generalize hc:gt b.Am.Ap (gt b.Aa.Ab i).Bq.toNat=c at r g B s⊢;have A:Ev (fun n=>qbv (off b.Aa i:Int) c n ([]:List qv) 0) (cellLs c (off b.Aa i:Int) c.Ar.length,(c.Ar.length:Int)):=by
  refine loopF (Lf:=qbv (off b.Aa i:Int) c) (S:=cellLs c (off b.Aa i:Int)) (len:=c.Ar.length) (fun n=>?_) (fun j p X o=>?_)
  .simp only[qbv,qq (je _),cond_false]
  .have H:=qnv g p;have C:(cellLs c (off b.Aa i:Int) j).length<=4*j:=qpw fun _ _=>qpu;simp only[qbv,qp p,cond_true,qw p,jd,quU,wS j];have m:Ev (fun n=>qbC (off b.Aa i:Int) (j:Int) (gt c.Ar j) (transL (gt c.Ar j)) n (cellLs c (off b.Aa i:Int) j) 0) (cellLs c (off b.Aa i:Int) (j+1),((transL (gt c.Ar j)).length:Int)):=by
    have F:=qqQ (a:=gt c.Ar j);have:=loopF (Lf:=qbC (off b.Aa i:Int) (j:Int) (gt c.Ar j) (transL (gt c.Ar j))) (S:=fun k=>cellLs c (off b.Aa i:Int) j++((transL (gt c.Ar j)).take k).map (al1 (off b.Aa i:Int) j (gt c.Ar j))) (len:=(transL (gt c.Ar j)).length) (fin:=(cellLs c (off b.Aa i:Int) (j+1),((transL (gt c.Ar j)).length:Int))) (fun n=>by
      simp only[qbC,qq (je _),cond_false,jG];show V (cellLs c _ j++arcLs _ j _,_)=V (fm _ (j+1),_);rw[qkt];rfl)
     (fun k f X o=>by
      have y:=qrJ (a:=gt c.Ar j) (t:=gt (transL (gt c.Ar j)) k) (by rw[qeV f];exact jo f);have e0:W64 (W64 (2*W64 ((off b.Aa i:Int)+(gt c.Ar j).Bd))+(gt (transL (gt c.Ar j)) k).e0)=2*((off b.Aa i:Int)+(gt c.Ar j).Bd)+(gt (transL (gt c.Ar j)) k).e0:=by
       rcases y.1 with e|e<;>rw[e,wO ((off b.Aa i:Int)+(gt c.Ar j).Bd),qP (x:=2*((off b.Aa i:Int)+(gt c.Ar j).Bd)) (by omega) (by omega),qP (by omega) (by omega)]
      have e1:W64 (W64 (2*W64 ((off b.Aa i:Int)+(gt c.Ar j).To))+(gt (transL (gt c.Ar j)) k).e1)=2*((off b.Aa i:Int)+(gt c.Ar j).To)+(gt (transL (gt c.Ar j)) k).e1:=by
       rcases y.2 with e|e<;>rw[e,wO ((off b.Aa i:Int)+(gt c.Ar j).To),qP (x:=2*((off b.Aa i:Int)+(gt c.Ar j).To)) (by omega) (by omega),qP (by omega) (by omega)]
      simp only[qbC,qp f,cond_true,qw f,jd,e0,e1,wS k];rw[qcA (by rw[jg,jt,jM,ji];omega),jv];have:((transL (gt c.Ar j)).take k).map (al1 (off b.Aa i:Int) j (gt c.Ar j))++[al1 (off b.Aa i:Int) j (gt c.Ar j) (gt (transL (gt c.Ar j)) k)]=((transL (gt c.Ar j)).take (k+1)).map (al1 (off b.Aa i:Int) j (gt c.Ar j)):=qgL f;have l:((transL (gt c.Ar j)).take k).map (al1 (off b.Aa i:Int) j (gt c.Ar j))++[(⟨2*((off b.Aa i:Int)+(gt c.Ar j).Bd)+(gt (transL (gt c.Ar j)) k).e0,2*((off b.Aa i:Int)+(gt c.Ar j).To)+(gt (transL (gt c.Ar j)) k).e1,1,(j:Int)⟩:qv)]=((transL (gt c.Ar j)).take (k+1)).map (al1 (off b.Aa i:Int) j (gt c.Ar j)):=this;rw[l];exact o)
    simpa using this
   exact Ev.bind m o
 unfold qfL;rw[qf4 z c1,hc];simp only[jd];exact Ev.bind A .done
def dvN(d:qj)(k:Nat):Nat:=((List.range (places d).length).find? fun j=>drvQ d (k:Int) j).getD 0
theorem qih{l:qF}{d:qj}(h:designB l d=true){k:Nat}(f:k<d.Ah.length):dvN d k<(places d).length/\drvQ d (k:Int) (dvN d k)=true:=by
 obtain⟨j,b,c,a⟩:=qxV h (k:=(k:Int)) (by omega) (by omega);unfold dvN;cases hf:(List.range (places d).length).find? fun j=>drvQ d (k:Int) j with
 |none=>
  have:=List.find?_eq_none.1 hf j (List.mem_range.2 b);exact absurd (by unfold drvQ;rw[c,a];simp) this
 |some i=>exact⟨List.mem_range.1 (List.mem_of_find?_eq_some hf),by have:=List.find?_some hf;exact this⟩
theorem qme{d:qj}{k:Int}{j:Nat}:drvQ d k j=true↔(gt (places d) j).net=k/\(gt (places d) j).drives=true:=by unfold drvQ;simp
theorem qtf{l:qF}{d:qj}(h:designB l d=true){k:Nat}(m:k<d.Ah.length){j:Nat}(i:j<(places d).length)(n:(gt (places d) j).net=(k:Int))(g:(gt (places d) j).drives=true):dvN d k=j:=by
 obtain⟨a,b⟩:=qih h m;obtain⟨c,f⟩:=qme.1 b;exact qtc h a i (by rw[c,n]) f g
def wl1(a:Nat)(s:Int)(k:Nat):List qv:=[⟨2*(a:Int),2*s,2,(k:Int)⟩,⟨2*(a:Int)+1,2*s+1,2,(k:Int)⟩]
def wlN(b:qd)(i j:Nat):List qv:=fm (fun k=>wl1 (dvN b.Aa i) (at0 (skL b i) k) k) j
def wireLs(b:qd)(j:Nat):List qv:=fm (fun i=>wlN b i (skL b i).length) j
def linksL(b:qd):List qv:=instLs b b.Aa.Ab.length++wireLs b b.Ac.length
def load0(b:qd)(i:Nat):Int:=gt (loadsL b i) 0
def viewE(b:qd)(ex:List Int):Tview:=⟨b,places b.Aa,linksL b,pre (load0 b) b.Ac.length,pre (exactL b) b.Ac.length,ex⟩
def viewV(b:qd):Tview:=viewE b []
theorem qjC{b:qd}(h:blockB b=true){j:Nat}(d:j<=b.Aa.Ab.length):(instLs b j).length<=32*j:=by
 refine qpw fun i hi=>?_;obtain⟨_,_,a⟩:=qhO (qao h) (show i<b.Aa.Ab.length by omega);have c:=qoe a;have:(cellLs (cellAt b (i:Int)) (off b.Aa i:Int) (cellAt b (i:Int)).Ar.length).length<=4*(cellAt b (i:Int)).Ar.length:=qpw fun _ _=>qpu;have e:(cellAt b (i:Int)).Ar.length<=8:=c;omega
theorem qrY{b:qd}{i j:Nat}:(wlN b i j).length<=2*j:=qpw fun _ _=>je _
theorem qn9{b:qd}(h:blockB b=true){j:Nat}:(wireLs b j).length<=156*j:=by
 refine qpw fun i _=>?_;have:=qrY (b:=b) (i:=i) (j:=(skL b i).length);have:=qhK h (i:=i);omega
theorem qkV{b:qd}(h:blockB b=true):(linksL b).length<=10000:=by
 have a:=qZ (qao h);have c:=a.ni;have d:=a.nn;have f:=qf6 h;have g:=qjC h (je _);have i:=qn9 h (j:=b.Ac.length);unfold linksL;rw[jg];omega
theorem qtn{b:qd}(h:blockB b=true):Ev (fun n=>qi6 n b) (V (viewV b)):=by
 have r:=qao h;have z:=qZ r;have R:=qaW z;have Y:=z.ni;have a3:=z.nn;have hwl:=qf6 h;have e1:Ev (fun n=>qdv b n ([]:List qv) 0 0) (instLs b b.Aa.Ab.length,(off b.Aa b.Aa.Ab.length:Int),(b.Aa.Ab.length:Int)):=by
  have:=loopF (τ:=List qv×Int) (Lf:=fun n t j=>qdv b n t.1 t.2 j) (S:=fun j=>(instLs b j,(off b.Aa j:Int))) (len:=b.Aa.Ab.length) (fin:=(instLs b b.Aa.Ab.length,(off b.Aa b.Aa.Ab.length:Int),(b.Aa.Ab.length:Int))) (fun n=>by simp only[qdv,qq (je _),cond_false])
   (fun j a X m=>by
    have F:=qjC h (show j<=b.Aa.Ab.length by omega);have M:=qjC h (show j+1<=b.Aa.Ab.length by omega);have N:=qkN (d:=b.Aa) (i:=j);have a4:off b.Aa (j+1)<=78:=by
     rw[qhq] at R;have:=qtN (d:=b.Aa) (show j+1<=b.Aa.Ab.length by omega);omega
    simp only[qdv,qp a,cond_true,qw a,jd,qbH,wS j];refine Ev.bind (qr4 h a) ?_;have e:instLs b j++cellLs (cellAt b (j:Int)) (off b.Aa j:Int) (cellAt b (j:Int)).Ar.length=instLs b (j+1):=qkt.symm;rw[qcA (by rw[<-jg,e];omega),e,qP (by omega) (by omega),show(off b.Aa j:Int)+((gt b.Aa.Ab j).Ah.length:Int)=((off b.Aa (j+1):Nat):Int) by omega];exact m)
  exact this
 have I:mkS (b.Ac.length:Int) (0:Int)=V (vecI (fun _=>0) b.Ac.length):=qry (by omega);have J:mkS (b.Ac.length:Int) ([]:List Int)=V (pre (fun _=>[]) b.Ac.length):=by
  rw[qko (by omega)]
  congr 1
  refine Jg (by simp[pre]) fun i u h2=>?_;simp[pre]
 have P:Ev (fun n=>qcF (places b.Aa) n (pre (fun _=>[]) b.Ac.length) (vecI (fun _=>0) b.Ac.length) 0) (pre (fun i=>skL b i) b.Ac.length,vecI (fun k=>(dvN b.Aa k:Int)) b.Ac.length,((places b.Aa).length:Int)):=by
  have v:∀k,k<b.Ac.length->dvN b.Aa k<(places b.Aa).length:=fun k o=>(qih r (by omega)).1;have:=loopF (τ:=List (List Int)×List Int) (Lf:=fun n t j=>qcF (places b.Aa) n t.1 t.2 j) (S:=fun j=>(pre (fun i=>sinksL b.Aa (i:Int) j) b.Ac.length,vecI (fun k=>if dvN b.Aa k<j then(dvN b.Aa k:Int) else 0) b.Ac.length)) (len:=(places b.Aa).length)
   (fin:=(pre (fun i=>skL b i) b.Ac.length,vecI (fun k=>(dvN b.Aa k:Int)) b.Ac.length,((places b.Aa).length:Int))) (fun n=>by
    simp only[qcF,qq (je _),cond_false];rw[qf2 (g:=fun k=>(dvN b.Aa k:Int)) (fun k o=>if_pos (v k o))]
    rfl)
   (fun j a X m=>by
    obtain⟨n0,n1⟩:=qmy r a;obtain⟨l,p⟩:∃l:Nat,(gt (places b.Aa) j).net=(l:Int):=⟨_,qdx n0⟩;have x:l<b.Ac.length:=by omega
    simp only[qcF,qp a,cond_true,qw a,jd,p,wS j,qnl x,qja (f:=fun i=>sinksL b.Aa (i:Int) j) x];cases hdr:(gt (places b.Aa) j).drives
    .have A:pre (fun i=>sinksL b.Aa (i:Int) (j+1)) b.Ac.length=setS (pre (fun i=>sinksL b.Aa (i:Int) j) b.Ac.length) (l:Int) (sinksL b.Aa (l:Int) j++[(j:Int)]):=by
      rw[qoT];refine qh3 fun k o=>?_;rw[qj2];unfold snkQ;rw[p,hdr];by_cases c:k=l
      .subst c;rw[if_pos Z];simp
      .rw[if_neg c,show(((l:Int)==(k:Int))&&!false)=false by simp;omega];simp
     have B:vecI (fun k=>if dvN b.Aa k<j+1 then(dvN b.Aa k:Int) else 0) b.Ac.length=vecI (fun k=>if dvN b.Aa k<j then(dvN b.Aa k:Int) else 0) b.Ac.length:=by
      refine qf2 fun k o=>?_;have K:dvN b.Aa k≠j:=fun e=>by
       have:=(qme.1 (qih r (k:=k) (by omega)).2).2;rw[e,hdr] at this;cases this
      by_cases u:dvN b.Aa k<j
      .rw[if_pos u,if_pos (by omega)]
      .rw[if_neg u,if_neg (by omega)]
     rw[A,B] at m;simp only[cond_false];have a7:(sinksL b.Aa (l:Int) j).length<=j:=by rw[qjw];exact qgM
     rw[qcA (by rw[ji];omega)];exact m
    .have A:pre (fun i=>sinksL b.Aa (i:Int) (j+1)) b.Ac.length=pre (fun i=>sinksL b.Aa (i:Int) j) b.Ac.length:=by
      refine qh3 fun k o=>?_;rw[qj2];unfold snkQ;rw[hdr];simp
     have H:=qtf r (show l<b.Aa.Ah.length by omega) a p hdr;have B:vecI (fun k=>if dvN b.Aa k<j+1 then(dvN b.Aa k:Int) else 0) b.Ac.length=setS (vecI (fun k=>if dvN b.Aa k<j then(dvN b.Aa k:Int) else 0) b.Ac.length) (l:Int) (j:Int):=by
      rw[qqy];refine qf2 fun k o=>?_;by_cases c:k=l
      .subst c;rw[if_pos Z,H,if_pos (by omega)]
      .rw[if_neg c];have K:dvN b.Aa k≠j:=fun e=>by
        have:=(qme.1 (qih r (k:=k) (by omega)).2).1;rw[e,p] at this;omega
       by_cases u:dvN b.Aa k<j
       .rw[if_pos u,if_pos (by omega)]
       .rw[if_neg u,if_neg (by omega)]
     rw[A,B] at m;exact m)
  simpa [sinksL,pre,vecI] using this
 have D:∀(i k:Nat) (s:Int) (t:List qv),i<b.Ac.length->0<=s->s<=78->t.length<=1000000->Ev (fun n=>qds (vecI (fun k=>(dvN b.Aa k:Int)) b.Ac.length) (i:Int) (k:Int) s n t 0) (t++wl1 (dvN b.Aa i) s k,2):=by
  intro i k s t hi a5 a6 ht;have v:=(qih r (k:=i) (by omega)).1;have L:idx (vecI (fun k=>(dvN b.Aa k:Int)) b.Ac.length) (i:Int)=V (dvN b.Aa i:Int):=qnl hi;refine Ev.succ ?_;simp only[qds,L,jd];refine Ev.tt Z ?_;rw[wO (2*(dvN b.Aa i:Int)),wO (2*s),wO (2*(dvN b.Aa i:Int)+0),wO (2*s+0),qcA (by rw[ji];omega)];simp only[jd];refine Ev.succ ?_;simp only[qds,L,jd];refine Ev.tt Z ?_;rw[show W64 (0+1)=1 from rfl,wO (2*(dvN b.Aa i:Int)),wO (2*s),wO (2*(dvN b.Aa i:Int)+1),wO (2*s+1),qcA (by rw[jg,ji,ji];omega)];simp only[jd];refine Ev.succ ?_;simp only[qds];refine Ev.ff Z (Ev.now ?_);unfold wl1;rw[jv,Jd,Jd]
  rfl
 have C:∀(i:Nat) (t:List qv),i<b.Ac.length->t.length<=900000->Ev (fun n=>qdl (vecI (fun k=>(dvN b.Aa k:Int)) b.Ac.length) (i:Int) (skL b i) n t 0) (t++wlN b i (skL b i).length,((skL b i).length:Int)):=by
  intro i t hi ht;have a8:=qhK h (i:=i);have:=loopF (Lf:=qdl (vecI (fun k=>(dvN b.Aa k:Int)) b.Ac.length) (i:Int) (skL b i)) (S:=fun k=>t++wlN b i k) (len:=(skL b i).length) (fin:=(t++wlN b i (skL b i).length,((skL b i).length:Int))) (fun n=>by simp only[qdl,qq (je _),cond_false])
   (fun k o X m=>by
    obtain⟨y,L,ey,_⟩:=qoh o;have hwn:=qrY (b:=b) (i:=i) (j:=k);simp only[qdl,qp o,cond_true,qaw o,jd,wS k];refine Ev.bind (D i k (at0 (skL b i) k) (t++wlN b i k) hi (by omega) (by omega) (by rw[jg];omega)) ?_;rw[jv,show wlN b i k++wl1 (dvN b.Aa i) (at0 (skL b i) k) k=wlN b i (k+1) from qkt.symm];exact m)
  simpa [wlN,fm] using this
 have Q:Ev (fun n=>qdw b (pre (fun i=>skL b i) b.Ac.length) (vecI (fun k=>(dvN b.Aa k:Int)) b.Ac.length) n ([]:List (List Int)) ([]:List Int) (instLs b b.Aa.Ab.length) 0) (pre (exactL b) b.Ac.length,pre (load0 b) b.Ac.length,linksL b,(b.Ac.length:Int)):=by
  have F:=qjC h (je _);have:=loopF (τ:=List (List Int)×List Int×List qv) (Lf:=fun n t j=>qdw b (pre (fun i=>skL b i) b.Ac.length) (vecI (fun k=>(dvN b.Aa k:Int)) b.Ac.length) n t.1 t.2.1 t.2.2 j) (S:=fun j=>(pre (exactL b) j,pre (load0 b) j,instLs b b.Aa.Ab.length++wireLs b j)) (len:=b.Ac.length)
   (fin:=(pre (exactL b) b.Ac.length,pre (load0 b) b.Ac.length,linksL b,(b.Ac.length:Int))) (fun n=>by simp only[qdw,qq (je _),cond_false];rfl)
   (fun j a X m=>by
    have hw:=qbL h a;have W:=hw.lo;have T:=qmE h a;have O:=qn9 h (j:=j);simp only[qdw,qp a,cond_true,wS j];refine Ev.bind (qox h a) ?_;rw[show idx (loadsL b j) (0:Int)=V (load0 b j) from qw (j:=0) (by omega)];simp only[jd];rw[qso (by omega)];simp only[jd];refine Ev.bind (qqF h a) ?_;rw[qso (by omega),qja (f:=fun i=>skL b i) a];simp only[jd];refine Ev.bind (C j _ a (by rw[jg];omega)) ?_;rw[jv,show wireLs b j++wlN b j (skL b j).length=wireLs b (j+1) from qkt.symm];exact m)
  simpa [wireLs,fm,pre] using this
 unfold qi6;refine Ev.bind (qnG z) (Ev.bind e1 ?_);rw[I,J];simp only[jd];exact Ev.bind P (Ev.bind Q .done)

structure LkOk(ls:List qv)(M:Nat):Prop where
 len:ls.length<=10000
 nodes:M<=156
 fr0:∀x,x<ls.length->0<=(gt ls x).Bd
 fr1:∀x,x<ls.length->(gt ls x).Bd<(M:Int)
 to0:∀x,x<ls.length->0<=(gt ls x).To
 to1:∀x,x<ls.length->(gt ls x).To<(M:Int)
def frL(ls:List qv)(x:Nat):Int:=(gt ls x).Bd
def toL(ls:List qv)(x:Nat):Int:=(gt ls x).To
def lvL(lv:List Bool)(x:Nat):Bool:=gt lv x
abbrev inL(ls:List qv)(lv:List Bool)(j:Nat)(R:List Nat)(k:Nat):Nat:=inN j (frL ls) (toL ls) (lvL lv) R k
abbrev nxtL(ls:List qv)(lv:List Bool)(M:Nat)(R:List Nat):Option Nat:=nxtN ls.length (frL ls) (toL ls) (lvL lv) M R
abbrev ordL(ls:List qv)(lv:List Bool)(M m:Nat)(R:List Nat):Option (List Nat):=ordN ls.length (frL ls) (toL ls) (lvL lv) M m R
def ordR(ls:List qv)(lv:List Bool)(M:Nat):List Int×Bool:=match ordL ls lv M M [] with|some R=>(ints R,true)|none=>([],false)
theorem qve{ls:List qv}{lv:List Bool}{M m:Nat}{R:List Nat}(h:nxtL ls lv M R=U):ordL ls lv M (m+1) R=U:=by
 show(match nxtL ls lv M R with|none=>U|some k=>ordL ls lv M m (R++[k]))=U;rw[h]
theorem quz{ls:List qv}{lv:List Bool}{M m k:Nat}{R:List Nat}(h:nxtL ls lv M R=V k):ordL ls lv M (m+1) R=ordL ls lv M m (R++[k]):=by
 show(match nxtL ls lv M R with|none=>U|some k=>ordL ls lv M m (R++[k]))=_;rw[h]
theorem qmf{M:Nat}{v:Bool}(h:M<=2147483648):mkS (M:Int) v=V (pre (fun _=>v) M):=by
 rw[qko h]
 congr 1
 refine Jg (by simp[pre]) fun i a b=>?_;simp[pre]
theorem qyh{L:Nat}{fr to:Nat->Int}{lv:Nat->Bool}{R:List Nat}{k:Nat}:inN L fr to lv R k<=L:=qgM
theorem qsy{L:Nat}{fr to:Nat->Int}{lv:Nat->Bool}{R:List Nat}{k:Nat}:inN (L+1) fr to lv R k=inN L fr to lv R k+(bif lv L&&(to L==(k:Int)&&!decide (fr L∈ints R)) then 1 else 0):=rfl
def ledB(ls:List qv)(lv:List Bool)(j:Nat)(R:List Nat)(M:Nat):List Bool:=pre (fun k=>!decide (inL ls lv j R k=0)) M
def inB(R:List Nat)(M:Nat):List Bool:=pre (fun k=>decide (k∈R)) M
theorem qxl{ls:List qv}{lv:List Bool}{M:Nat}(h:LkOk ls M)(A:lv.length=ls.length){R:List Nat} :
  Ev (fun n=>qcM ls lv (inB R M) n (pre (fun _=>false) M) 0) (ledB ls lv ls.length R M,(ls.length:Int)):=by
 have x:=h.len;refine loopF (Lf:=qcM ls lv (inB R M)) (S:=fun j=>ledB ls lv j R M) (len:=ls.length) (fun n=>?_) (fun j l X i=>?_)
 .simp only[qcM,qq (je _),cond_false]
 .obtain⟨a,u⟩:∃a:Nat,(gt ls j).Bd=(a:Int):=⟨_,qdx (h.fr0 j l)⟩;obtain⟨c,v⟩:∃c:Nat,(gt ls j).To=(c:Int):=⟨_,qdx (h.to0 j l)⟩;have p:a<M:=by have:=h.fr1 j l;omega
  have r:c<M:=by have:=h.to1 j l;omega
  have s:frL ls j=(a:Int):=u;have o:toL ls j=(c:Int):=v;have b:decide (frL ls j∈ints R)=decide (a∈R):=by rw[s];exact decide_eq_decide.2 qlW
  have y:idx (inB R M) (a:Int)=V (decide (a∈R)):=qja (f:=fun k=>decide (k∈R)) p;have z:idx (ledB ls lv j R M) (c:Int)=V (!decide (inL ls lv j R c=0)):=qja (f:=fun k=>!decide (inL ls lv j R k=0)) r;have t:(lvL lv j&&!decide (a∈R))=true->ledB ls lv (j+1) R M=setS (ledB ls lv j R M) (c:Int) true:=by
   intro g;unfold ledB;rw[qoT];refine qh3 fun k _=>?_;show(!decide (inN (j+1) _ _ _ R k=0))=_;rw[qsy,o,b];by_cases m:k=c
   .subst m;rw[if_pos Z];simp only[jf] at g;simp[g.1,g.2]
   .rw[if_neg m,show((c:Int)==(k:Int))=false by simp;omega];simp
  have d:(lvL lv j&&!decide (a∈R))=false->ledB ls lv (j+1) R M=ledB ls lv j R M:=by
   intro g;unfold ledB;refine qh3 fun k _=>?_;show(!decide (inN (j+1) _ _ _ R k=0))=_;rw[qsy,o,b,show(lvL lv j&&(((c:Int)==(k:Int))&&!decide (a∈R)))=false by
    cases h1:lvL lv j
    .rfl
    .rw[h1] at g;simp only[jy] at g;rw[g];simp]
   simp
  simp only[qcM,qp l,cond_true,qw (show j<lv.length by omega),qw l,jd,u,v,y,z,wS j];cases h1:gt lv j
  .simp only[cond_false,jd];have:=d (by unfold lvL;rw[h1];rfl);rw[this] at i;exact i
  .simp only[cond_true,jd];cases h2:decide (a∈R)
   .simp only[Bool.not_false,cond_true];have:=t (by unfold lvL;rw[h1,h2];rfl);rw[this] at i;exact i
   .simp only[Jh,cond_false];have:=d (by unfold lvL;rw[h1,h2];rfl);rw[this] at i;exact i
theorem qwu{ls:List qv}{lv:List Bool}{M:Nat}(h:LkOk ls M){R:List Nat} :
  Ev (fun n=>qcl (M:Int) (inB R M) (ledB ls lv ls.length R M) n 0) (match nxtL ls lv M R with|some k=>(k:Int)|none=>(M:Int)):=by
 have u:=h.nodes;have b:∀d j,j+d=M->(∀i,i<j->freeN ls.length (frL ls) (toL ls) (lvL lv) R i=false) ->
   Ev (fun n=>qcl (M:Int) (inB R M) (ledB ls lv ls.length R M) n (j:Int)) (match nxtL ls lv M R with|some k=>(k:Int)|none=>(M:Int)):=by
  intro d
  induction d with
  |zero=>
   intro j p c;have l:nxtL ls lv M R=U:=by
    show(List.range M).find? _=U;rw[List.find?_eq_none];intro x r;rw[List.mem_range] at r;rw[c x (by omega)];simp
   rw[l];refine Ev.succ ?_;simp only[qcl,qq (show M<=j by omega),cond_false];rw[show j=M by omega];exact .done
  |succ d ih=>
   intro j p c;have a:j<M:=by omega
   have s:idx (inB R M) (j:Int)=V (decide (j∈R)):=qja (f:=fun k=>decide (k∈R)) a;have t:idx (ledB ls lv ls.length R M) (j:Int)=V (!decide (inL ls lv ls.length R j=0)):=qja (f:=fun k=>!decide (inL ls lv ls.length R k=0)) a;refine Ev.succ ?_;simp only[qcl,qp a,cond_true,s,t,jd,wS j];have m:freeN ls.length (frL ls) (toL ls) (lvL lv) R j=false->Ev (fun n=>qcl (M:Int) (inB R M) (ledB ls lv ls.length R M) n ((j+1:Nat):Int)) (match nxtL ls lv M R with|some k=>(k:Int)|none=>(M:Int)):=fun o=>
    ih (j+1) (by omega) fun i hi=>by
     by_cases g:i=j
     .rw[g];exact o
     .exact c i (by omega)
   cases h1:decide (j∈R)
   .simp only[cond_false];cases h2:decide (inL ls lv ls.length R j=0)
    .simp only[Bool.not_false,cond_true];exact m (by unfold freeN;rw[h1];show(!false&&decide (inL ls lv ls.length R j=0))=false;rw[h2];rfl)
    .simp only[Jh,cond_false];have:nxtL ls lv M R=V j:=by
      show(List.range M).find? _=V j;rw[List.find?_range_eq_some];refine⟨?_,List.mem_range.2 a,fun i hi=>by rw[c i hi];rfl⟩;unfold freeN;rw[h1];show(!false&&decide (inL ls lv ls.length R j=0))=true;rw[h2];rfl
     rw[this];exact .done
   .simp only[cond_true];exact m (by unfold freeN;rw[h1];rfl)
 exact b M 0 (by omega) (fun i hi=>absurd hi (by omega))
theorem qu4{ls:List qv}{lv:List Bool}{M:Nat}(h:LkOk ls M)(g:lv.length=ls.length):Ev (fun n=>qin n (M:Int) ls lv) (ordR ls lv M):=by
 have o:=h.nodes;have b:∀m R,R.length+m=M->Ev (fun n=>qe8 (M:Int) ls lv n (inB R M) (ints R))
   (match ordL ls lv M m R with|some R'=>.nxt (inB R' M,ints R')|none=>.ret ([],false)):=by
  intro m
  induction m with
  |zero=>
   intro R c;refine Ev.succ ?_;simp only[qe8,qbE,qq (show M<=R.length by omega),cond_false];exact .done
  |succ m ih=>
   intro R c;refine Ev.succ ?_;simp only[qe8,qbE,qp (show R.length<M by omega),cond_true,qmf (v:=false) (show M<=2147483648 by omega),jd];refine Ev.bind (qxl h g) (Ev.bind (qwu h) ?_);show Ev _ (match (match nxtL ls lv M R with|none=>U|some k=>ordL ls lv M m (R++[k])) with|some R'=>_|none=>_);cases hn:nxtL ls lv M R with
   |none=>
    simp only[beq_self_eq_true,cond_true];exact .done
   |some k=>
    obtain⟨d,_,_⟩:=qo6 hn;have l:idx (inB R M) (k:Int)=V (decide (k∈R)):=qja (f:=fun k=>decide (k∈R)) d;have e1:setS (inB R M) (k:Int) true=inB (R++[k]) M:=by
     unfold inB;rw[qoT];refine qh3 fun i _=>?_;by_cases a:i=k
     .subst a;simp
     .simp[a]
    simp only[show((k:Int)==(M:Int))=false by simp;omega,cond_false,l,jd];rw[qcA (by rw[qbE,ji];omega),e1,<-qkH];exact ih (R++[k]) (by rw[jg,ji];omega)
 have e0:pre (fun _=>false) M=inB [] M:=qh3 fun k _=>by simp
 unfold qin;rw[qmf (v:=false) (show M<=2147483648 by omega)];simp only[jd];rw[e0];refine Ev.bind (b M [] (by simp)) ?_;unfold ordR;cases ordL ls lv M M []<;>exact .done
def grV(ls:List qv)(lv:List Bool)(ps:List Tplace)(b:qd)(lo:List Int)(de:List (List Int))(ex:List Int):Option Tgraph:=V ⟨V ⟨b,ps,ls,lo,de,ex⟩,lv⟩
theorem qrX{xs:List Int}(c:xs.length<=1000000):Ev (fun n=>qh2 n xs 0) (ixL (fun y=>(0:Int)==y) xs):=
 qfj (fin:=(xs.length:Int)) (Lf:=qdf xs 0) (pf:=fun _ y=>V ((0:Int)==y)) (fun _ _=>.done)
  (fun n=>by simp only[qdf,qq (je _),cond_false])
  (fun n j x a=>by
   have b:=(List.getElem?_eq_some_iff.1 a).1;simp only[qdf,qp b,cond_true,qgC a,jd,wS j])
  (fun n=>by unfold qh2;congr 1;funext o;cases o<;>rfl)
theorem qwK{f:Nat->Int}{M:Nat}{p:Int->Bool}:ixL p (vecI f M)=match (List.range M).find? (fun k=>p (f k)) with|some k=>(k:Int)|none=>-1:=by
 cases hf:(List.range M).find? (fun k=>p (f k)) with
 |none=>
  have a:(vecI f M).findIdx? p=U:=by
   rw[List.findIdx?_eq_none_iff];intro x g;obtain⟨k,d,rfl⟩:=List.mem_map.1 g;have:=List.find?_eq_none.1 hf k d;simpa using this
  unfold ixL;rw[a]
 |some k=>
  obtain⟨a,b,c⟩:=List.find?_range_eq_some.1 hf;rw[List.mem_range] at b;have:=qrv (p:=p) (xs:=vecI f M) (j:=k) (by rw[ql1];exact b) (by simpa [vecI] using a) (fun i hi=>by
   have:=c i hi;simpa [vecI] using this)
  rw[this]
section
variable{ls:List qv}{lv:List Bool}{M:Nat}{ps:List Tplace}{b:qd}{lo:List Int}{de:List (List Int)}{ex:List Int}
theorem qr8(h:LkOk ls M)(k:lv.length=ls.length):Ev (fun n=>qbt n (grV ls lv ps b lo de ex)) (ints (selN (lvL lv) ls.length)):=by
 have g:=h.len;have f:Ev (fun n=>qO ⟨V ⟨b,ps,ls,lo,de,ex⟩,lv⟩ ⟨b,ps,ls,lo,de,ex⟩ n ([]:List Int) 0) (ints (selN (lvL lv) ls.length),(ls.length:Int)):=by
  refine qkG (q:=lvL lv) (Lf:=qO ⟨V ⟨b,ps,ls,lo,de,ex⟩,lv⟩ ⟨b,ps,ls,lo,de,ex⟩) (len:=ls.length) (by omega) (Ev.succ ?_) (fun j a t i X c d=>?_)
  .simp only[qO,qq (je _),cond_false];exact .done
  .simp only[qO,qp a,cond_true,qw a,qw (show j<lv.length by omega),jd,qiF,i,wS j];cases hq:gt lv j
   .simp only[cond_false];exact d hq
   .simp only[cond_true];exact c hq
 unfold qbt grV;simp only[jd];exact Ev.bind f .done
theorem qxt(h:LkOk ls M)(k:lv.length=ls.length){v:Int}:Ev (fun n=>qix n (grV ls lv ps b lo de ex) v) (ints (selN (fun x=>lvL lv x&&(frL ls x==v)) ls.length)):=by
 have g:=h.len;have f:Ev (fun n=>qQ v ⟨V ⟨b,ps,ls,lo,de,ex⟩,lv⟩ ⟨b,ps,ls,lo,de,ex⟩ n ([]:List Int) 0) (ints (selN (fun x=>lvL lv x&&(frL ls x==v)) ls.length),(ls.length:Int)):=by
  refine qkG (q:=fun x=>lvL lv x&&(frL ls x==v)) (Lf:=qQ v ⟨V ⟨b,ps,ls,lo,de,ex⟩,lv⟩ ⟨b,ps,ls,lo,de,ex⟩) (len:=ls.length) (by omega) (Ev.succ ?_) (fun j d t i X c a=>?_)
  .simp only[qQ,qq (je _),cond_false];exact .done
  .simp only[qQ,qp d,cond_true,qw d,qw (show j<lv.length by omega),jd,qiY,i,wS j];unfold lvL frL at c a;cases hq:gt lv j
   .simp only[cond_false];exact a (by rw[hq];rfl)
   .simp only[cond_true];cases hw:(gt ls j).Bd==v
    .simp only[cond_false];exact a (by rw[hq,hw];rfl)
    .simp only[cond_true];exact c (by rw[hq,hw];rfl)
 unfold qix qcE grV;simp only[jd];exact Ev.bind (Ev.bind f .done) .done
theorem qwf{q:Nat->Bool}{m:Nat}{p:Nat->Bool}:(selN q m).countP p=cntP (fun x=>q x&&p x) m:=by
 induction m with
 |zero=>rfl
 |succ m ih=>
  rw[qhL,List.countP_append,ih];show _=cntP (fun x=>q x&&p x) m+(bif (q m&&p m) then 1 else 0);cases q m
  .rfl
  .cases hp:p m<;>simp[hp]
def cntT(ls:List qv)(S:List Nat)(k:Nat):Nat:=S.countP (fun x=>toL ls x==(k:Int))
theorem qug{S:List Nat}{k:Nat}:cntT ls S k<=S.length:=List.countP_le_length
theorem quY{S:List Nat}{j k:Nat}(a:j<S.length):cntT ls (S.take (j+1)) k=cntT ls (S.take j) k+(if toL ls S[j]=(k:Int) then 1 else 0):=by
 unfold cntT;rw[jC a,List.countP_append];by_cases h:toL ls S[j]=(k:Int)<;>simp[h]
theorem bumpV{f:Nat->Int}{c:Nat}{S:List Nat}{j:Nat}{d v:Int}(g:j<S.length)(b:toL ls S[j]=(c:Int))(h:v=f c+d*(cntT ls (S.take j) c:Int)+d) :
  setS (vecI (fun k=>f k+d*(cntT ls (S.take j) k:Int)) M) (c:Int) v=vecI (fun k=>f k+d*(cntT ls (S.take (j+1)) k:Int)) M:=by
 rw[qqy];refine qf2 fun k _=>?_;rw[quY g,b];by_cases a:k=c
 .subst a;rw[if_pos Z,if_pos Z,h];rw[Int.natCast_add,Int.mul_add];omega
 .rw[if_neg a,if_neg (by omega)];simp
theorem qyc(h:LkOk ls M){S:List Nat}(p:∀x,x∈S->x<ls.length)(s:S.length<=10000) :
  Ev (fun n=>qcp ⟨V ⟨b,ps,ls,lo,de,ex⟩,lv⟩ (ints S) n (vecI (fun _=>0) M) 0) (vecI (fun k=>(cntT ls S k:Int)) M,(S.length:Int)):=by
 have:=loopF (Lf:=qcp ⟨V ⟨b,ps,ls,lo,de,ex⟩,lv⟩ (ints S)) (S:=fun j=>vecI (fun k=>0+1*(cntT ls (S.take j) k:Int)) M) (len:=S.length) (fin:=(vecI (fun k=>(cntT ls S k:Int)) M,(S.length:Int))) (fun n=>by
   simp only[qcp,qbE,qq (je _),cond_false,jG];rw[qf2 (f:=fun k=>0+1*(cntT ls S k:Int)) (g:=fun k=>(cntT ls S k:Int)) (fun k _=>by omega)])
  (fun j a X r=>by
   have m:=p S[j] (jo a);obtain⟨c,o⟩:∃c:Nat,(gt ls S[j]).To=(c:Int):=⟨_,qdx (h.to0 _ m)⟩;have i:c<M:=by have:=h.to1 _ m;omega
   have l:=qug (ls:=ls) (S:=S.take j) (k:=c);rw[jM] at l;simp only[qcp,qbE,qp a,cond_true,qoS a,jd,qw m,o,qnl i,wS j];rw[qP (by omega) (by omega),bumpV (d:=1) a o (by omega)];exact r)
 rw[qf2 (f:=fun k=>0+1*(cntT ls (S.take 0) k:Int)) (g:=fun _=>0) (fun k _=>by unfold cntT;simp)] at this;exact this
theorem qv2(h:LkOk ls M){S:List Nat}{f:Nat->Int}(p:∀x,x∈S->x<ls.length)(u:S.length<=10000)(s:∀k,k<M->-1<=f k/\f k<=10000) :
  Ev (fun n=>qcr ⟨V ⟨b,ps,ls,lo,de,ex⟩,lv⟩ (ints S) n (vecI f M) 0) (vecI (fun k=>f k-(cntT ls S k:Int)) M,(S.length:Int)):=by
 have:=loopF (Lf:=qcr ⟨V ⟨b,ps,ls,lo,de,ex⟩,lv⟩ (ints S)) (S:=fun j=>vecI (fun k=>f k+(-1)*(cntT ls (S.take j) k:Int)) M) (len:=S.length) (fin:=(vecI (fun k=>f k-(cntT ls S k:Int)) M,(S.length:Int))) (fun n=>by
   simp only[qcr,qbE,qq (je _),cond_false,jG];rw[qf2 (f:=fun k=>f k+(-1)*(cntT ls S k:Int)) (g:=fun k=>f k-(cntT ls S k:Int)) (fun k _=>by omega)])
  (fun j i X r=>by
   have m:=p S[j] (jo i);obtain⟨c,o⟩:∃c:Nat,(gt ls S[j]).To=(c:Int):=⟨_,qdx (h.to0 _ m)⟩;have a:c<M:=by have:=h.to1 _ m;omega
   have l:=qug (ls:=ls) (S:=S.take j) (k:=c);rw[jM] at l;have t:=s c a;simp only[qcr,qbE,qp i,cond_true,qoS i,jd,qw m,o,qnl a,wS j];rw[qP (by omega) (by omega),bumpV (d:=-1) i o (by omega)];exact r)
 rw[qf2 (f:=fun k=>f k+(-1)*(cntT ls (S.take 0) k:Int)) (g:=f) (fun k _=>by unfold cntT;simp)] at this;exact this
def openV(ls:List qv)(lv:List Bool)(R:List Nat)(k:Nat):Int:=if k∈R then -1 else(inL ls lv ls.length R k:Int)
theorem qu8{R:List Nat}:ixL (fun y=>(0:Int)==y) (vecI (openV ls lv R) M)=match nxtL ls lv M R with|some k=>(k:Int)|none=>-1:=by
 rw[qwK];have:(fun k=>((0:Int)==openV ls lv R k))=freeN ls.length (frL ls) (toL ls) (lvL lv) R:=by
  funext k
  unfold openV freeN;by_cases a:k∈R
  .rw[if_pos a];simp[a]
  .rw[if_neg a];simp only[a,decide_false,Bool.not_false,jy];by_cases b:inL ls lv ls.length R k=0
   .simp[b]
   .rw[show((0:Int)==((inL ls lv ls.length R k:Nat):Int))=false from beq_eq_false_iff_ne.2 (by omega)];simpa using b
 rw[this]
 rfl
theorem quZ(h:LkOk ls M)(t:lv.length=ls.length)(F:M=2*ps.length):Ev (fun n=>qh4 n (grV ls lv ps b lo de ex)) (ordR ls lv M):=by
 have H:=h.nodes;have C:=h.len;have g:∀m R,R.length+m=M->Closed ls.length (frL ls) (toL ls) (lvL lv) R->∃y:List Int×List Int×Int,Ev (fun n=>qcq (grV ls lv ps b lo de ex) ⟨V ⟨b,ps,ls,lo,de,ex⟩,lv⟩ (vecI (fun _=>0) M) n (ints R) (vecI (openV ls lv R) M) (R.length:Int))
   (match ordL ls lv M m R with|some R'=>.nxt (ints R',y.2.1,y.2.2)|none=>.ret ([],false)):=by
  intro m
  induction m with
  |zero=>
   intro R A _;refine⟨(ints R,vecI (openV ls lv R) M,(R.length:Int)),Ev.succ ?_⟩;simp only[qcq,ql1,qq (show M<=R.length by omega),cond_false];exact .done
  |succ m ih=>
   intro R A s;have c:=qrX (xs:=vecI (openV ls lv R) M) (by rw[ql1];omega);rw[qu8] at c;cases hn:nxtL ls lv M R with
   |none=>
    rw[hn] at c;rw[qve hn];refine⟨([],[],0),Ev.succ ?_⟩;simp only[qcq,ql1,qp (show R.length<M by omega),cond_true];exact Ev.bind c (Ev.tt (by decide) .done)
   |some k=>
    rw[hn] at c;rw[quz hn];obtain⟨B,d,r⟩:=qo6 hn;obtain⟨y,o⟩:=ih (R++[k]) (by rw[jg,ji];omega) (s.snoc r);refine⟨y,Ev.succ ?_⟩;simp only[qcq,ql1,qp (show R.length<M by omega),cond_true];refine Ev.bind c (Ev.ff (by simp) ?_);rw[qnl B,qcA (by rw[qbE,ji];omega),qqy,<-qkH];simp only[jd];refine Ev.bind (qxt h t) ?_;have D:=qgv (q:=fun x=>lvL lv x&&(frL ls x==(k:Int))) (j:=ls.length);refine Ev.bind (qv2 h (fun x p=>(qcd.1 p).1) (by omega) (fun i hi=>?_)) ?_
    .split
     .omega
     .unfold openV;have:inL ls lv ls.length R i<=ls.length:=qyh;split<;>omega
    .have u:vecI (fun i=>(if i=k then -1 else openV ls lv R i)-(cntT ls (selN (fun x=>lvL lv x&&(frL ls x==(k:Int))) ls.length) i:Int)) M=vecI (openV ls lv (R++[k])) M:=by
      refine qf2 fun i _=>?_;have v:cntT ls (selN (fun x=>lvL lv x&&(frL ls x==(k:Int))) ls.length) i=lkN ls.length (frL ls) (toL ls) (lvL lv) k i:=qwf;rw[v];unfold openV;by_cases a:i∈R++[k]
      .rw[if_pos a,s.no_back d r a];rcases List.mem_append.1 a with l|l
       .split
        .rfl
        .rfl
       .rw[if_pos (List.mem_singleton.1 l)];rfl
      .have l:i∉R:=fun e=>a (jP _ e);have z:i≠k:=fun e=>a (Jc _ (List.mem_singleton.2 e));rw[if_neg a,if_neg z,if_neg l];have:=qvx (L:=ls.length) (fr:=frL ls) (to:=toL ls) (lv:=lvL lv) (R:=R) (i:=k) (k:=i) d;show(inN _ _ _ _ R i:Int)-_=(inN _ _ _ _ (R++[k]) i:Int);omega
     rw[u,qim (show R.length<9223372036854775807 by omega)];rw[jg,ji] at o;exact o
 have f:=qyc (b:=b) (ps:=ps) (lo:=lo) (de:=de) (ex:=ex) (lv:=lv) h (S:=selN (lvL lv) ls.length) (fun x p=>(qcd.1 p).1) (by have:=qgv (q:=lvL lv) (j:=ls.length);omega);have e0:vecI (fun k=>(cntT ls (selN (lvL lv) ls.length) k:Int)) M=vecI (openV ls lv []) M:=by
  refine qf2 fun k _=>?_;unfold openV;rw[if_neg (by simp)]
  congr 1
  show List.countP _ _=inN _ _ _ _ [] k;rw[qwf];unfold inN;exact qqC fun x _=>by simp[ints]
 rw[e0] at f;obtain⟨y,o⟩:=g M [] (by simp) Closed.nil;unfold qh4;show Ev (fun n=>(V _).bind _) _;simp only[jd,qdp,qeH];rw[qP (by omega) (by omega),show 2*(ps.length:Int)=(M:Int) by omega,qry (by omega)];simp only[jd];refine Ev.bind (qr8 h t) (Ev.bind f (Ev.bind o ?_));unfold ordR;cases ordL ls lv M M []<;>exact .done
end

theorem qr7{n m:Nat}{a b mode:Int}:qfV n a b mode=qcO m a b mode:=by
 unfold qfV qcO;cases quoS a b with
 |none=>rfl
 |some y1=>
  cases remS a b with
  |none=>rfl
  |some y2=>
   simp only[jd];generalize decide (y2<0)=p;generalize decide (y2 > 0)=q;generalize (mode==0)=m0;generalize (mode==1)=m1;cases p<;>cases q<;>cases m0<;>cases m1<;>rfl
theorem qvN{a b:Int}(f:0<b):-(if a<0 then -a else a)<=a.tdiv b/\a.tdiv b<=(if a<0 then -a else a):=by
 by_cases h:a<0
 .rw[if_pos h];have e:a.tdiv b=-((-a).tdiv b):=by rw[Int.neg_tdiv,Int.neg_neg]
  rw[e,jD (show 0<=-a by omega)];have c:=Int.ediv_nonneg (show 0<=-a by omega) (show 0<=b by omega);have d:=Int.ediv_le_self (a:=-a) b (by omega);omega
 .rw[if_neg h,jD (by omega)];have c:=Int.ediv_nonneg (show 0<=a by omega) (show 0<=b by omega);have d:=Int.ediv_le_self (a:=a) b (by omega);omega
theorem qkO{n:Nat}{a b mode:Int}(d:0<b)(g:-9000000000000000000<=a)(h:a<=9000000000000000000):qcO n a b mode=V (divI a b mode):=by
 have c:=qvN (a:=a) d;have i:-9000000000000000000<=a.tdiv b/\a.tdiv b<=9000000000000000000:=by
  revert c;split<;>intro c<;>omega
 unfold qcO quoS remS divI;rw[if_neg (by omega),if_neg (by omega)];have f:IntKind.i64.wrap (a.tdiv b)=a.tdiv b:=qP (by omega) (by omega);simp only[f,jd];rw[wO (a.tdiv b-1),wO (a.tdiv b+1)];generalize decide (a.tmod b<0)=p;generalize decide (a.tmod b > 0)=q;generalize (mode==0)=m0;generalize (mode==1)=m1;cases p<;>cases q<;>cases m0<;>cases m1<;>rfl
theorem qlt{a b mode M:Int}(d:0<b)(c:0<=a)(h:a<=b*M):0<=divI a b mode/\divI a b mode<=M:=by
 rw[qmr c d];have e:=Int.emod_add_mul_ediv a b;have k:=Int.emod_nonneg a (show b≠0 by omega);have g:=Int.ediv_nonneg c (show 0<=b by omega);have i:a / b<=M:=Int.ediv_le_of_le_mul d (by rw[Int.mul_comm];exact h);split
 .rename_i hc
  refine⟨by omega,?_⟩;have:a / b<M:=by
   refine Int.lt_of_not_ge fun l=>?_;have f:a / b=M:=by omega
   rw[f] at e;omega
  omega
 .exact⟨g,i⟩
structure AxOk(ax:List Int):Prop where
 lo:1<=ax.length
 hi:ax.length<=4
 at_:∀j,j<ax.length->0<=at0 ax j/\at0 ax j<=100000
 inc:∀j i,i<j->j<ax.length->at0 ax i<at0 ax j
theorem qs0{b:List Int}(h:axisB b=true):AxOk b:=by
 unfold axisB lenB incB at h;simp only[jf,decide_eq_true_eq] at h;obtain⟨⟨m,n⟩,k,l⟩:=h;rw[qho (d:=0),qai] at k;rw[qai] at l;refine⟨m,n,fun j f=>by have:=k j f;rw[qaQ] at this;exact this,fun j=>?_⟩
 induction j with
 |zero=>intro i hi _;omega
 |succ j ih=>
  intro i hi f;have a:=l (j+1) f;unfold stepB at a;simp only[Bool.or_eq_true,decide_eq_true_eq,Nat.add_sub_cancel] at a;have g:at0 b j<at0 b (j+1):=by
   rcases a with a|a
   .omega
   .exact a
  by_cases c:i=j
  .rw[c];exact g
  .have:=ih i (by omega) (by omega);omega
theorem least{P:Nat->Prop}:∀m,P m->∃p,p<=m/\P p/\∀k,k<p->¬ P k:=by
 intro m
 induction m using Nat.strongRecOn with
 |ind m ih=>
  intro f;by_cases h:∃k,k<m/\P k
  .obtain⟨k,a,b⟩:=h;obtain⟨p,g,c,d⟩:=ih k a b;exact⟨p,by omega,c,d⟩
  .exact⟨m,je _,f,fun k a b=>h ⟨k,a,b⟩⟩
structure Wt(ax:List Int)(i:Nat)(a b:Int):Prop where
 il:i<ax.length
 a0:0<a
 a1:a<=100000
 b0:0<=b
 b1:b<=100000
 nx:0<b->i+1<ax.length
 one:b=0->a=1
def wtL(i:Nat)(a b:Int):List Tweight:=if b=0 then[⟨(i:Int),1⟩] else[⟨(i:Int),a⟩,⟨((i+1:Nat):Int),b⟩]
def clampV(a:List Int)(x:Int):Int:=if at0 a (a.length-1)<(if at0 a 0 > x then at0 a 0 else x) then at0 a (a.length-1) else(if at0 a 0 > x then at0 a 0 else x)
theorem qxr{m:Nat}(h:m<=8):shrS .u64 (IntKind.wrap .u64 (W64 (m:Int))) 1=V ((m / 2:Nat):Int):=by
 rcases (by omega:m=0\/m=1\/m=2\/m=3\/m=4\/m=5\/m=6\/m=7\/m=8) with e|e|e|e|e|e|e|e|e<;>rw[e]<;>rfl
theorem quF{a:List Int}(h:AxOk a){c:Int}{p:Nat}(s:p<a.length)(z:c<=at0 a p)(t:∀k,k<p->at0 a k<c) :
  Ev (fun n=>qdy n a c) ((p:Int),(at0 a p==c)):=by
 have y:=h.hi;have b:∀d i j,j-i<=d->i<=p->p<=j->j<=a.length->Ev (fun n=>qaL a c n (i:Int) (j:Int)) ((p:Int),(p:Int)):=by
  intro d
  induction d with
  |zero=>
   intro i j u hi m o;refine Ev.succ ?_;simp only[qaL,qq (show j<=i by omega),cond_false];rw[show i=p by omega,show j=p by omega];exact .done
  |succ d ih=>
   intro i j u hi m o;refine Ev.succ ?_;by_cases g:i<j
   .have r:(i+j) / 2<a.length:=by omega
    simp only[qaL,qp g,cond_true,<-Int.natCast_add,qxr (show i+j<=8 by omega),jd,qP (x:=(((i+j) / 2:Nat):Int)) (by omega) (by omega),qaw r,qkZ,qez,bne_self_eq_false,cond_false,qim (show(i+j) / 2<9223372036854775807 by omega)];by_cases f:at0 a ((i+j) / 2)<c
    .refine Ev.tt (by simpa using f) (ih _ _ (by omega) ?_ m o);refine Nat.lt_of_not_le fun l=>?_;by_cases v:p=(i+j) / 2
     .rw[<-v] at f;omega
     .have:=h.inc ((i+j) / 2) p (by omega) r;omega
    .refine Ev.ff (by simpa using f) (ih _ _ (by omega) hi ?_ (by omega));refine Nat.le_of_not_lt fun l=>f (t _ l)
   .simp only[qaL,qq (show j<=i by omega),cond_false];rw[show i=p by omega,show j=p by omega];exact .done
 unfold qdy;refine Ev.bind (b a.length 0 a.length (by omega) (by omega) (by omega) (je _)) ?_;simp only[qp s,cond_true,qaw s,jd,qgK,bne_self_eq_false,cond_false];cases at0 a p==c<;>exact .done
def WAt(d:List Int)(i:Nat)(a b c:Int):Prop:=(b=0/\at0 d i=c)\/(0<b/\a=at0 d (i+1)-c/\b=c-at0 d i)
theorem qqt{f:List Int}(h:AxOk f)(x:Int):∃i a b,Wt f i a b/\WAt f i a b (clampV f x)/\Ev (fun n=>qdt n f x) ((i:Int),a,b)/\Ev (fun n=>qfS n f x) (wtL i a b,a+b):=by
 have M:=h.lo;have I:=h.hi;have L:at0 f 0<=at0 f (f.length-1):=by
  by_cases D:f.length-1=0
  .rw[D];exact jU _
  .have:=h.inc (f.length-1) 0 (by omega) (by omega);omega
 obtain⟨c,v⟩:∃c,c=clampV f x:=⟨_,rfl⟩;have y:at0 f 0<=c/\c<=at0 f (f.length-1):=by
  rw[v];unfold clampV;split<;>split at *<;>omega
 obtain⟨p,Q,s,z⟩:=least (P:=fun k=>c<=at0 f k) (f.length-1) y.2;have o:p<f.length:=by omega
 have t:∀k,k<p->at0 f k<c:=fun k K=>by have:=z k K;omega
 have C:=quF h o s t;have l:(if at0 f (f.length-1)<(if at0 f 0 > x then at0 f 0 else x) then at0 f (f.length-1) else(if at0 f 0 > x then at0 f 0 else x))=c:=v.symm;have g:W64 ((f.length:Int)-1)=((f.length-1:Nat):Int):=by rw[qd7 (by omega)];omega
 have T:=h.at_ p o;have m:∀(R:Int×Int×Int),Ev (fun n=>qbT f x (at0 f 0) (at0 f (f.length-1)) n (p:Int)) (.ret R)->Ev (fun n=>qdt n f x) R:=by
  intro R F;have u:∀d j,j=p+d->j<f.length->Ev (fun n=>qbT f x (at0 f 0) (at0 f (f.length-1)) n (j:Int)) (.ret R):=by
   intro d
   induction d with
   |zero=>intro j J _;rw[show j=p by omega];exact F
   |succ d ih=>
    intro j J B;have H:=h.inc j p (by omega) B;refine Ev.succ ?_;simp only[qbT,show decide ((j:Int)>=0)=true from decide_eq_true (by omega),cond_true,qaw B,jd,l];refine Ev.ff (beq_eq_false_iff_ne.2 (by omega)) (Ev.ff (decide_eq_false (by omega)) ?_);rw[show(j:Int)-1=((j-1:Nat):Int) by omega,qP (by omega) (by omega)];exact ih (j-1) (by omega) (by omega)
  unfold qdt;rw[show(0:Int)=((0:Nat):Int) from rfl,qaw (show 0<f.length by omega),g,qaw (show f.length-1<f.length by omega)];simp only[jd];exact Ev.bind (u (f.length-1-p) (f.length-1) (by omega) (by omega)) .done
 by_cases r:at0 f p=c
 .refine⟨p,1,0,⟨o,by omega,by omega,by omega,by omega,fun h=>absurd h (by omega),fun _=>rfl⟩,v ▸ .inl ⟨rfl,r⟩,m _ (Ev.succ ?_),?_⟩
  .simp only[qbT,show decide ((p:Int)>=0)=true from decide_eq_true (by omega),cond_true,qaw o,jd,l];exact Ev.tt (beq_iff_eq.2 r.symm) .done
  .unfold qfS;rw[show(0:Int)=((0:Nat):Int) from rfl,qaw (show 0<f.length by omega),g,qaw (show f.length-1<f.length by omega)];simp only[jd,l];exact Ev.bind C (Ev.tt (beq_iff_eq.2 r) (Ev.now Z))
 .have O:0<p:=by
   refine Nat.pos_of_ne_zero fun e=>r ?_;rw[e] at s⊢;omega
  have N:=t (p-1) (by omega);have S:=h.at_ (p-1) (by omega);have A:((p:Int)-1)=((p-1:Nat):Int):=by omega
  refine⟨p-1,at0 f p-c,c-at0 f (p-1),⟨by omega,by omega,by omega,by omega,by omega,fun _=>by omega,fun h=>absurd h (by omega)⟩,v ▸ .inr ⟨by omega,by rw[show p-1+1=p by omega],rfl⟩,m _ (Ev.succ ?_),?_⟩
  .simp only[qbT,show decide ((p:Int)>=0)=true from decide_eq_true (by omega),cond_true,qaw o,jd,l];refine Ev.ff (beq_eq_false_iff_ne.2 (by omega)) (Ev.ff (decide_eq_false (by omega)) ?_);rw[A,qP (x:=((p-1:Nat):Int)) (by omega) (by omega)];refine Ev.succ ?_;simp only[qbT,show decide (((p-1:Nat):Int)>=0)=true from decide_eq_true (by omega),cond_true,qaw (show p-1<f.length by omega),jd,l];refine Ev.ff (beq_eq_false_iff_ne.2 (by omega)) (Ev.tt (decide_eq_true (by omega)) ?_);rw[qim (show p-1<9223372036854775807 by omega),show p-1+1=p by omega,qaw o];simp only[jd];rw[wO (at0 f p-c),wO (c-at0 f (p-1))];exact .done
  .unfold qfS;rw[show(0:Int)=((0:Nat):Int) from rfl,qaw (show 0<f.length by omega),g,qaw (show f.length-1<f.length by omega)];simp only[jd,l];refine Ev.bind C (Ev.ff (beq_eq_false_iff_ne.2 r) ?_);rw[qaw o,A,qP (x:=((p-1:Nat):Int)) (by omega) (by omega),qaw (show p-1<f.length by omega)];simp only[jd];rw[wO (at0 f p-c),wO (c-at0 f (p-1)),wO (at0 f p-at0 f (p-1))];refine Ev.now ?_;unfold wtL;rw[if_neg (by omega),show p-1+1=p by omega]
   congr 2
   omega

structure TbOk(t:qS):Prop where
 s:AxOk t.Bj
 l:AxOk t.Be
 n:t.Az.length=t.Bj.length*t.Be.length
 v:∀k,-1000000<=at0 t.Az k/\at0 t.Az k<=1000000
theorem quq{xs:List Int}{k:Nat}(h:¬ k<xs.length):at0 xs k=0:=by simp[at0,jx,List.getElem?_eq_none (show xs.length<=k by omega)]
theorem quG{t:qS}(h:tableB t=true):TbOk t:=by
 unfold tableB at h;simp only[jf,decide_eq_true_eq] at h;obtain⟨c,f,g,a⟩:=h;rw[qho (d:=0),qai] at a;refine⟨qs0 c,qs0 f,g,fun k=>?_⟩;by_cases b:k<t.Az.length
 .have:=a k b;rw[qaQ] at this;exact this
 .rw[quq b];omega
def tv(t:qS)(i j:Nat):Int:=at0 t.Az (i*t.Be.length+j)
theorem mulA{x y Y:Int}(a:0<=x)(c:-Y<=y)(d:y<=Y):-(x*Y)<=x*y/\x*y<=x*Y:=by
 have f:=Int.mul_le_mul_of_nonneg_left d a;have b:=Int.mul_le_mul_of_nonneg_left c a;rw[Int.mul_neg] at b;exact⟨b,f⟩
theorem mulT{w q v:Int}(d:0<=w)(w1:w<=100000)(b:0<=q)(c:q<=100000)(h:-1000000<=v)(i:v<=1000000):(0<=w*q/\w*q<=10000000000)/\(-10000000000000000<=w*q*v/\w*q*v<=10000000000000000):=by
 have a:=jT d b;have f:w*q<=100000*100000:=jX w1 c b (by omega);have g:=mulA (x:=w*q) (y:=v) (Y:=1000000) a (by omega) (by omega);refine⟨⟨a,by omega⟩,?_,?_⟩<;>omega
theorem qxI{t:qS}{i j:Nat}(h:TbOk t)(hi:i<t.Bj.length)(f:j<t.Be.length):i*t.Be.length+j<t.Az.length/\t.Az.length<=16:=by
 have a:=h.s.hi;have b:=h.l.hi;have c:(i+1)*t.Be.length<=t.Bj.length*t.Be.length:=ju _ hi;have d:t.Bj.length*t.Be.length<=4*4:=Nat.mul_le_mul a b;rw[h.n];rw[Nat.add_mul] at c;omega
theorem sTerm{t:qS}(h:TbOk t){i j c k:Nat}{a1 b1 a2 b2 w q s:Int}(I:c<2)(J:k<2)(B:w=if c=1 then b1 else a1)(f:q=if k=0 then a2 else b2)
  (F:0<=w) (w1:w<=100000) (C:0<=q) (D:q<=100000) (hi:0<w->i+c<t.Bj.length) (z:0<q->j+k<t.Be.length) (s0:-1000000000000000000<=s) (s1:s<=1000000000000000000) (n:Nat) :
  qcH t (i:Int) a1 b1 (j:Int) a2 b2 (c:Int) (n+1) s (k:Int)=qcH t (i:Int) a1 b1 (j:Int) a2 b2 (c:Int) n (s+w*q*tv t (i+c) (j+k)) ((k+1:Nat):Int):=by
 have l:=h.v ((i+c)*t.Be.length+(j+k));obtain⟨⟨M,N⟩,O,P⟩:=mulT F w1 C D l.1 l.2;have o:(bif ((c:Int)==1) then V b1 else V a1)=V w:=by
  rw[B];by_cases a:c=1
  .rw[if_pos a,a];rfl
  .rw[if_neg a,show((c:Int)==1)=false from beq_eq_false_iff_ne.2 (by omega)];rfl
 have p:(bif ((k:Int)==0) then V (W64 (w*a2)) else V (W64 (w*b2)))=V (w*q):=by
  have m:W64 (w*q)=w*q:=qP (by omega) (by omega);by_cases a:k=0
  .rw[if_pos a] at f;rw[a,<-f,m];rfl
  .rw[if_neg a] at f;rw[show((k:Int)==0)=false from beq_eq_false_iff_ne.2 (by omega),<-f,m];rfl
 rw[qcH];simp only[show decide ((k:Int)<2)=true from decide_eq_true (by omega),cond_true,o,p,jd,wS k];by_cases d:w*q > 0
 .have b:0<w:=by
   by_cases e:w=0
   .rw[e,Int.zero_mul] at d;omega
   .omega
  have g:0<q:=by
   by_cases e:q=0
   .rw[e,Int.mul_zero] at d;omega
   .omega
  obtain⟨H,Q⟩:=qxI h (hi b) (z g);have K:=h.l.hi;have L:=h.s.hi;have y:=hi b;have A:((i+c:Nat):Int)*(t.Be.length:Int)=(((i+c)*t.Be.length:Nat):Int):=(Int.natCast_mul _ _).symm;have u:W64 (W64 (W64 (W64 ((i:Int)+(c:Int))*(t.Be.length:Int))+(j:Int))+(k:Int))=(((i+c)*t.Be.length+(j+k):Nat):Int):=by
   rw[wO ((i:Int)+(c:Int)),<-Int.natCast_add,A,qP (x:=(((i+c)*t.Be.length:Nat):Int)) (by omega) (by omega),<-Int.natCast_add,qP (x:=(((i+c)*t.Be.length+j:Nat):Int)) (by omega) (by omega),<-Int.natCast_add,qP (by omega) (by omega),Nat.add_assoc]
  rw[show decide (w*q > 0)=true from decide_eq_true d,u,qaw H];simp only[cond_true,jd];have r:W64 (s+W64 (w*q*at0 t.Az ((i+c)*t.Be.length+(j+k))))=s+w*q*tv t (i+c) (j+k):=by
   unfold tv;rw[qP (x:=w*q*at0 t.Az ((i+c)*t.Be.length+(j+k))) (by omega) (by omega),qP (by omega) (by omega)]
  rw[r]
 .have v:w*q=0:=by omega
  rw[show decide (w*q > 0)=false from decide_eq_false d,v,Int.zero_mul,Jd]
  rfl
def rowS(t:qS)(j:Nat)(a2 b2:Int)(i:Nat):Int:=a2*tv t i j+b2*tv t i (j+1)
theorem qmh{t:qS}(h:TbOk t){i j:Nat}:-1000000<=tv t i j/\tv t i j<=1000000:=h.v _
theorem qrZ{t:qS}(h:TbOk t){i j:Nat}{a2 b2:Int}(a0:0<=a2)(b0:0<=b2):-((a2+b2)*1000000)<=rowS t j a2 b2 i/\rowS t j a2 b2 i<=(a2+b2)*1000000:=by
 have a:=mulA (x:=a2) (y:=tv t i j) (Y:=1000000) a0 (qmh h).1 (qmh h).2;have b:=mulA (x:=b2) (y:=tv t i (j+1)) (Y:=1000000) b0 (qmh h).1 (qmh h).2;unfold rowS;omega
theorem sRow{t:qS}(h:TbOk t){i j c:Nat}{a1 b1 a2 b2 w s:Int}(d:c<2)(f:w=if c=1 then b1 else a1)(b:0<=w)(w1:w<=100000)(hi:0<w->i+c<t.Bj.length)(a:Wt t.Be j a2 b2)
  (s0:-100000000000000000<=s) (s1:s<=100000000000000000):Ev (fun n=>qcH t (i:Int) a1 b1 (j:Int) a2 b2 (c:Int) n s 0) (s+w*rowS t j a2 b2 (i+c),2):=by
 have l:=a.a0;have g:=a.b0;have m:=(mulT b w1 (show 0<=a2 by omega) a.a1 (qmh h (i:=i+c) (j:=j)).1 (qmh h).2).2;refine Ev.step (fun n=>sTerm h d (k:=0) (w:=w) (q:=a2) (by omega) f Z b w1 (by omega) a.a1 hi (fun _=>a.il) (by omega) (by omega) n) ?_;refine Ev.step (fun n=>sTerm h d (k:=1) (w:=w) (q:=b2) (by omega) f Z b w1 g a.b1 hi a.nx (by show _<=s+w*a2*tv t (i+c) (j+0);rw[Nat.add_zero];omega) (by show s+w*a2*tv t (i+c) (j+0)<=_;rw[Nat.add_zero];omega) n) ?_;refine Ev.succ ?_;simp only[qcH,show decide (((1+1:Nat):Int)<2)=false from rfl,cond_false];refine Ev.now ?_;unfold rowS;rw[Int.mul_add,<-Je,<-Je,Int.add_assoc,Nat.add_zero]
 rfl
theorem iTerm{t:qS}(h:TbOk t){a:List Tweight}{i j k:Nat}{w q s:Int}(m:k<a.length)(A:a.length<=2)(p:idx a (k:Int)=V ⟨(j:Int),q⟩)(c:0<=w)(w1:w<=100000)(r:0<=q)(u:q<=100000)
  (hi:i<t.Bj.length) (l:j<t.Be.length) (s0:-1000000000000000000<=s) (s1:s<=1000000000000000000) (n:Nat) :
  qbm t a ⟨(i:Int),w⟩ (n+1) s (k:Int)=qbm t a ⟨(i:Int),w⟩ n (s+w*q*tv t i j) ((k+1:Nat):Int):=by
 have b:=qmh h (i:=i) (j:=j);obtain⟨_,C,D⟩:=mulT c w1 r u b.1 b.2;have F:=mulA (x:=w) (y:=tv t i j) (Y:=1000000) c b.1 b.2;obtain⟨v,H⟩:=qxI h hi l;have z:=h.l.hi;have B:=h.s.hi;have o:(i:Int)*(t.Be.length:Int)=((i*t.Be.length:Nat):Int):=(Int.natCast_mul _ _).symm;rw[qbm];simp only[qp m,cond_true,p,jd,wS k,o];rw[qP (x:=((i*t.Be.length:Nat):Int)) (by omega) (by omega),<-Int.natCast_add,qP (x:=((i*t.Be.length+j:Nat):Int)) (by omega) (by omega),qaw v];simp only[jd];have d:W64 (s+W64 (W64 (at0 t.Az (i*t.Be.length+j)*w)*q))=s+w*q*tv t i j:=by
  have f:at0 t.Az (i*t.Be.length+j)*w=w*tv t i j:=Int.mul_comm _ _;have g:w*tv t i j*q=w*q*tv t i j:=by rw[Je,Int.mul_comm (tv t i j) q,<-Je]
  rw[f,wO (w*tv t i j),g,wO (w*q*tv t i j),qP (by omega) (by omega)]
 rw[d]
theorem iRow{t:qS}(h:TbOk t){i j:Nat}{a2 b2 w s:Int}(b:0<=w)(w1:w<=100000)(hi:i<t.Bj.length)(a:Wt t.Be j a2 b2)
  (s0:-100000000000000000<=s) (s1:s<=100000000000000000):Ev (fun n=>qbm t (wtL j a2 b2) ⟨(i:Int),w⟩ n s 0) (s+w*rowS t j a2 b2 i,((wtL j a2 b2).length:Int)):=by
 have l:=a.a0;have g:=a.b0;have m:=(mulT b w1 (show 0<=a2 by omega) a.a1 (qmh h (i:=i) (j:=j)).1 (qmh h).2).2;by_cases c:b2=0
 .have f:=a.one c;subst c f;have d:wtL j 1 0=[⟨(j:Int),1⟩]:=if_pos Z;rw[d];refine Ev.step (fun n=>iTerm h (k:=0) (q:=1) (by simp) (by simp) Z b w1 (by omega) (by omega) hi a.il (by omega) (by omega) n) (Ev.succ ?_);simp only[qbm];refine Ev.ff Z (Ev.now ?_);unfold rowS;rw[Int.mul_one,Int.one_mul,Int.zero_mul,Jd]
  rfl
 .have d:wtL j a2 b2=[⟨(j:Int),a2⟩,⟨((j+1:Nat):Int),b2⟩]:=if_neg c;rw[d];refine Ev.step (fun n=>iTerm h (k:=0) (q:=a2) (by simp) (by simp) Z b w1 (by omega) a.a1 hi a.il (by omega) (by omega) n) ?_;refine Ev.step (fun n=>iTerm h (k:=1) (j:=j+1) (q:=b2) (by simp) (by simp) Z b w1 g a.b1 hi (a.nx (by omega)) (by omega) (by omega) n) (Ev.succ ?_);simp only[qbm];refine Ev.ff Z (Ev.now ?_);unfold rowS;rw[Int.mul_add,<-Je,<-Je,Int.add_assoc]
  rfl
def sumS(t:qS)(i j:Nat)(a1 b1 a2 b2:Int):Int:=a1*rowS t j a2 b2 i+b1*rowS t j a2 b2 (i+1)
theorem rowT{t:qS}(h:TbOk t){i j:Nat}{w a2 b2:Int}(f:0<=w)(w1:w<=100000)(a:Wt t.Be j a2 b2):-20000000000000000<=w*rowS t j a2 b2 i/\w*rowS t j a2 b2 i<=20000000000000000:=by
 have l:=a.a0;have c:=a.b0;have b:=a.a1;have d:=a.b1;have g:=qrZ h (i:=i) (j:=j) (a2:=a2) (b2:=b2) (by omega) c;have k:=mulA (x:=w) (y:=rowS t j a2 b2 i) (Y:=200000000000) f (by omega) (by omega);omega
theorem qxa{t:qS}(h:TbOk t){sl ld:Int}{i j:Nat}{a1 b1 a2 b2:Int}(W1:Wt t.Bj i a1 b1)(W2:Wt t.Be j a2 b2)
  (p:Ev (fun n=>qdt n t.Bj sl) ((i:Int),a1,b1)/\Ev (fun n=>qfS n t.Bj sl) (wtL i a1 b1,a1+b1)) (D:Ev (fun n=>qdt n t.Be ld) ((j:Int),a2,b2)/\Ev (fun n=>qfS n t.Be ld) (wtL j a2 b2,a2+b2)) :
  0<(a1+b1)*(a2+b2)/\sumS t i j a1 b1 a2 b2<=(a1+b1)*(a2+b2)*1000000/\-((a1+b1)*(a2+b2)*1000000)<=sumS t i j a1 b1 a2 b2/\-9000000000000000000<=sumS t i j a1 b1 a2 b2/\sumS t i j a1 b1 a2 b2<=9000000000000000000/\((∀k,0<=at0 t.Az k)->0<=sumS t i j a1 b1 a2 b2) /\
  ∀mode,Ev (fun n=>qgF n t sl ld mode) (divI (sumS t i j a1 b1 a2 b2) ((a1+b1)*(a2+b2)) mode)/\Ev (fun n=>qc3 n t sl ld mode) (divI (sumS t i j a1 b1 a2 b2) ((a1+b1)*(a2+b2)) mode):=by
 obtain⟨p1,H⟩:=p;obtain⟨F,I⟩:=D;have B:=W1.a0;have a:=W1.b0;have C:=W2.a0;have b:=W2.b0;have d:=W1.a1;have f:=W1.b1;have J:=W2.a1;have K:=W2.b1;have r1:=rowT h (i:=i) (w:=a1) (by omega) d W2;have M:=rowT h (i:=i+1) (w:=b1) a f W2;have v:=qrZ h (i:=i) (j:=j) (a2:=a2) (b2:=b2) (by omega) b;have z:=qrZ h (i:=i+1) (j:=j) (a2:=a2) (b2:=b2) (by omega) b;have N:=mulA (x:=a1) (y:=rowS t j a2 b2 i) (Y:=(a2+b2)*1000000) (by omega) v.1 v.2;have O:=mulA (x:=b1) (y:=rowS t j a2 b2 (i+1)) (Y:=(a2+b2)*1000000) a z.1 z.2;have L:a1*((a2+b2)*1000000)+b1*((a2+b2)*1000000)=(a1+b1)*(a2+b2)*1000000:=by rw[<-Int.add_mul,Je]
 have D0:0<(a1+b1)*(a2+b2):=Int.mul_pos (by omega) (by omega);have D1:(a1+b1)*(a2+b2)<=200000*200000:=jX (by omega) (by omega) (by omega) (by omega);refine⟨D0,by unfold sumS;omega,by unfold sumS;omega,by unfold sumS;omega,by unfold sumS;omega,fun u=>?_,fun mode=>⟨?_,?_⟩⟩
 .have s:∀i,0<=rowS t j a2 b2 i:=fun i=>Int.add_nonneg (jT (by omega) (u _)) (jT b (u _));exact Int.add_nonneg (jT (by omega) (s _)) (jT a (s _))
 .have l:Ev (fun n=>qev t (i:Int) a1 b1 (j:Int) a2 b2 n 0 0) (sumS t i j a1 b1 a2 b2,2):=by
   refine Ev.succ ?_;simp only[qev];refine Ev.tt Z (Ev.bind (sRow h (c:=0) (w:=a1) (by omega) Z (by omega) d (fun _=>W1.il) W2 (by omega) (by omega)) ?_);refine Ev.succ ?_;simp only[qev];refine Ev.tt Z (Ev.bind (sRow h (c:=1) (w:=b1) (by omega) Z a f W1.nx W2 (by rw[Nat.add_zero];omega) (by rw[Nat.add_zero];omega)) ?_);refine Ev.succ ?_;simp only[qev];refine Ev.ff Z (Ev.now ?_);unfold sumS;rw[Int.zero_add,Nat.add_zero]
   rfl
  unfold qgF;refine Ev.bind p1 (Ev.bind F (Ev.bind l ?_));show Ev (fun n=>(qcO n (sumS t i j a1 b1 a2 b2) (W64 (W64 (a1+b1)*W64 (a2+b2))) mode).bind fun r=>V r) _;rw[wO (a1+b1),wO (a2+b2),wO ((a1+b1)*(a2+b2))];exact Ev.bind ⟨0,fun n _=>qkO D0 (by unfold sumS;omega) (by unfold sumS;omega)⟩ .done
 .have l:Ev (fun n=>qbf t (wtL i a1 b1) (wtL j a2 b2) n 0 0) (sumS t i j a1 b1 a2 b2,((wtL i a1 b1).length:Int)):=by
   by_cases g:b1=0
   .have A:=W1.one g;subst g A;have o:wtL i 1 0=[⟨(i:Int),1⟩]:=if_pos Z;rw[o];refine Ev.succ ?_;simp only[qbf];refine Ev.tt Z (Ev.bind (Ev.now Z) (Ev.bind (iRow h (i:=i) (w:=1) (by omega) (by omega) W1.il W2 (by omega) (by omega)) (Ev.succ ?_)));simp only[qbf];refine Ev.ff Z (Ev.now ?_);unfold sumS;rw[Int.zero_add,Int.zero_mul,Jd]
    rfl
   .have o:wtL i a1 b1=[⟨(i:Int),a1⟩,⟨((i+1:Nat):Int),b1⟩]:=if_neg g;rw[o];refine Ev.succ ?_;simp only[qbf];refine Ev.tt Z (Ev.bind (Ev.now Z) (Ev.bind (iRow h (i:=i) (w:=a1) (by omega) d W1.il W2 (by omega) (by omega)) (Ev.succ ?_)));simp only[qbf];refine Ev.tt Z (Ev.bind (Ev.now Z) (Ev.bind (iRow h (i:=i+1) (w:=b1) a f (W1.nx (by omega)) W2 (by omega) (by omega)) (Ev.succ ?_)));simp only[qbf];refine Ev.ff Z (Ev.now ?_);unfold sumS;rw[Int.zero_add]
    rfl
  unfold qc3;refine Ev.bind H (Ev.bind I (Ev.bind l ?_));show Ev (fun n=>(qfV n (sumS t i j a1 b1 a2 b2) (W64 ((a1+b1)*(a2+b2))) mode).bind fun r=>V r) _;rw[wO ((a1+b1)*(a2+b2))];exact Ev.bind ⟨0,fun n _=>(qr7 (m:=0)).trans (qkO D0 (by unfold sumS;omega) (by unfold sumS;omega))⟩ .done
theorem qui{t:qS}(h:TbOk t)(sl ld:Int):∃S D:Int,0<D/\S<=D*1000000/\-(D*1000000)<=S/\-9000000000000000000<=S/\S<=9000000000000000000/\((∀k,0<=at0 t.Az k)->0<=S) /\
  ∀mode,Ev (fun n=>qgF n t sl ld mode) (divI S D mode)/\Ev (fun n=>qc3 n t sl ld mode) (divI S D mode):=by
 obtain⟨i,a1,b1,W1,_,p⟩:=qqt h.s sl;obtain⟨j,a2,b2,W2,_,a⟩:=qqt h.l ld;exact⟨_,_,qxa h W1 W2 p a⟩

theorem quD{b:qd}(h:blockB b=true){j:Nat}(d:j<(places b.Aa).length){n:Nat}:qli n b.Am b.Aa (toSp (gt (places b.Aa) j))=V (capJ b j):=by
 have c:=qao h;unfold capJ pinCap;rcases qln d with⟨i,k,hi,hk,_,e⟩|⟨i,hi,_,e⟩
 .rw[e];obtain⟨⟨a,c1⟩,f,_⟩:=qhO c hi;unfold place1 cellAt toSp;simp only[qli,show decide ((i:Int)<0)=false by simp,cond_false,qw hi,jd,qf4 a c1,jq,qw (show k<(gt b.Am.Ap (gt b.Aa.Ab i).Bq.toNat).Ay.length by omega)]
 .rw[e];rfl
theorem qpK{b:qd}(h:blockB b=true){i:Nat}(hi:i<b.Ac.length):Ev (fun n=>qid n b (i:Int)) (loadsL b i):=by
 have c:=qbL h hi;have p:=qZ (qao h);have x:=c.lo;have u:=c.hi;have d:=c.cap;have z:=qhK h (i:=i);have e1:Ev (fun n=>qdV b (gt b.Ac i) ((places b.Aa).map toSp) (skL b i) n (gt b.Ac i).Bl 0) (ldA b (gt b.Ac i) (skL b i) (skL b i).length,((skL b i).length:Int)):=by
  refine loopF (Lf:=qdV b (gt b.Ac i) ((places b.Aa).map toSp) (skL b i)) (S:=ldA b (gt b.Ac i) (skL b i)) (len:=(skL b i).length) (fun n=>?_) (fun j a X o=>?_)
  .simp only[qdV,qq (je _),cond_false]
  .obtain⟨y,l,m,_⟩:=qoh a;have f:j<(gt b.Ac i).Bb.length:=by rw[c.snk];exact a
   have k:=c.sin j f;have v:=qoU (b:=b) (w:=gt b.Ac i) (sk:=skL b i) (j:=j);have g:idx ((places b.Aa).map toSp) (y:Int)=V (toSp (gt (places b.Aa) y)):=by
    refine qgC ?_;rw[List.getElem?_map,jn l,qeV l];rfl
   have s:=fun n=>quD h l (n:=n);simp only[qdV,qp a,cond_true,qaw a,m,jd,qaw f,qf4 k.1 (show at0 (gt b.Ac i).Bb j<((ldA b (gt b.Ac i) (skL b i) j).length:Int) by omega),g,s,wS j];have:ldA b (gt b.Ac i) (skL b i) (j+1)=setS (ldA b (gt b.Ac i) (skL b i) j) (at0 (gt b.Ac i).Bb j) (W64 (gt (ldA b (gt b.Ac i) (skL b i) j) (at0 (gt b.Ac i).Bb j).toNat+capJ b y)):=by
    show addSink _ _ _ _ _=_;unfold addSink;rw[m,jq]
   rw[this] at o;exact o
 have r:∀j t,t.length=(gt b.Ac i).Aj.length->j<(gt b.Ac i).Aj.length->Ev (fun n=>qdO (gt b.Ac i) n t (j:Int)) (ldB (gt b.Ac i) j t,0):=by
  intro j
  induction j with
  |zero=>
   intro t _ _;refine Ev.succ ?_;show Ev (fun n=>qdO (gt b.Ac i) (n+1) t 0) _;unfold qdO;exact Ev.ff Z .done
  |succ j ih=>
   intro t A a;have g:=c.par (j+1) (by omega) a;refine Ev.succ ?_;simp only[qdO,show decide (((j+1:Nat):Int) > 0)=true from decide_eq_true (by omega),cond_true,qaw a,jd,qf4 g.1 (show at0 (gt b.Ac i).Aj (j+1)<(t.length:Int) by omega),qw (show j+1<t.length by omega),show((j+1:Nat):Int)-1=(j:Int) by omega,qP (show -9223372036854775808<=(j:Int) by omega) (by omega)];exact ih _ (by rw[qaY];exact A) (by omega)
 unfold qid qeO;rw[qw hi];simp only[jd,qcA (show([]:List Int).length+(gt b.Ac i).Bl.length<=2147483648 by simp;omega),List.nil_append];refine Ev.bind (qhB p) (Ev.bind (qls p) (Ev.bind e1 ?_));rw[qd7 (show(gt b.Ac i).Bl.length<=9223372036854775807 by omega),show((gt b.Ac i).Bl.length:Int)-1=(((gt b.Ac i).Aj.length-1:Nat):Int) by omega];exact Ev.bind (r _ _ (by rw[qoU];exact d) (by omega)) .done
theorem qop{b:qd}(h:blockB b=true){i:Nat}(hi:i<b.Ac.length):Ev (fun n=>qhE n b (i:Int)) (delaysL b i):=by
 have f:=qbL h hi;have o:=f.lo;have m:=f.hi;have l:=f.res;have l1:=qmE h hi;have c:∀d k,k+1+d=(gt b.Ac i).Aj.length->Ev (fun n=>qel (gt b.Ac i) (loadsL b i) n (dlL (gt b.Ac i) (loadsL b i) k) ((k+1:Nat):Int)) (delaysL b i,((loadsL b i).length:Int)):=by
  intro d
  induction d with
  |zero=>
   intro k g;refine Ev.succ ?_;simp only[qel,qq (show(loadsL b i).length<=k+1 by omega),cond_false];refine Ev.now ?_;rw[l1,<-g];unfold delaysL;rw[<-g]
   rfl
  |succ d ih=>
   intro k g;have p:=f.par (k+1) (by omega) (by omega);have a:=qoO (w:=gt b.Ac i) (ld:=loadsL b i) (k:=k);refine Ev.succ ?_;simp only[qel,qp (show k+1<(loadsL b i).length by omega),cond_true,qaw (show k+1<(gt b.Ac i).Aj.length by omega),jd,qf4 p.1 (show at0 (gt b.Ac i).Aj (k+1)<((dlL (gt b.Ac i) (loadsL b i) k).length:Int) by omega),
    qaw (show k+1<(gt b.Ac i).Br.length by omega),qw (show k+1<(loadsL b i).length by omega),qim (show k+1<9223372036854775807 by omega)]
   rw[qcA (by rw[a,ji];omega)];exact ih (k+1) (by omega)
 unfold qhE;rw[qw hi];simp only[jd];refine Ev.bind (qpK h hi) ?_;exact Ev.bind (c ((gt b.Ac i).Aj.length-1) 0 (by omega)) .done
theorem qjE{b:qd}(h:blockB b=true){i:Nat}(hi:i<b.Ac.length){mode:Int}:Ev (fun n=>qgB n b (i:Int) mode) ((exactL b i).map fun x=>divI x 1000 mode):=by
 have k:=qbL h hi;have r:(gt b.Ac i).Bb.length<=78:=by rw[k.snk];exact qhK h
 have p:=qng h hi;have l:Ev (fun n=>qb4 b (i:Int) mode (delaysL b i) n ([]:List Int) 0) ((exactL b i).map (fun x=>divI x 1000 mode),((gt b.Ac i).Bb.length:Int)):=by
  refine loopF (Lf:=qb4 b (i:Int) mode (delaysL b i)) (S:=fun j=>(((gt b.Ac i).Bb.take j).map fun s=>gt (delaysL b i) s.toNat).map fun x=>divI x 1000 mode) (len:=(gt b.Ac i).Bb.length) (fun n=>?_) (fun j c X o=>?_)
  .simp only[qb4,qw hi,jd,qq (je _),cond_false,jG];rfl
  .have g:=k.sin j c;have f:=qof h hi c;have m:gt (exactL b i) j=gt (delaysL b i) (at0 (gt b.Ac i).Bb j).toNat:=by
    unfold exactL;rw[qeV (by rw[jt];exact c),List.getElem_map,qiE c]
   rw[m] at f;have d:=fun n=>qkO (n:=n) (a:=gt (delaysL b i) (at0 (gt b.Ac i).Bb j).toNat) (b:=1000) (mode:=mode) (by omega) (by omega) (by omega);simp only[qb4,qw hi,jd,qp c,cond_true,qaw c,qf4 g.1 (show at0 (gt b.Ac i).Bb j<((delaysL b i).length:Int) by omega),d,wS j];rw[qcA (by rw[jt,jt,jM,ji];omega)];have:(((gt b.Ac i).Bb.take j).map (fun s=>gt (delaysL b i) s.toNat)).map (fun x=>divI x 1000 mode)++[divI (gt (delaysL b i) (at0 (gt b.Ac i).Bb j).toNat) 1000 mode]=(((gt b.Ac i).Bb.take (j+1)).map fun s=>gt (delaysL b i) s.toNat).map fun x=>divI x 1000 mode:=by
    rw[jC c,jZ,jZ,qiE c];rfl
   rw[this];exact o
 unfold qgB;exact Ev.bind (qop h hi) (Ev.bind l .done)

instance:Inhabited qg:=⟨⟨0,⟨0,0⟩,⟨0,0⟩⟩⟩
instance:Inhabited qf:=⟨⟨0,0⟩⟩
def cornerB(c:qz):Bool:=(inI c.Bc 100 5000&&(inI c.Bg 100 5000&&(inI c.Bf 100 5000&&inI c.Bh 100 5000)))&&(nameB c.Ba&&(decide (c.Bc<=c.Bg)&&decide (c.Bf<=c.Bh)))
theorem qi4{c:qz}(h:okS c.Ba):Ev (fun n=>qdY n c) (cornerB c):=by
 have a:Ev (fun n=>qci c n 0) (bif inI c.Bc 100 5000&&(inI c.Bg 100 5000&&(inI c.Bf 100 5000&&inI c.Bh 100 5000)) then .nxt 4 else .ret false):=by
  refine Ev.succ ?_;simp only[qci,qc1,show idx ([c.Bc,c.Bg,c.Bf,c.Bh]:List Int) 0=V c.Bc from rfl,jd];refine Ev.tt Z ?_;cases inI c.Bc 100 5000
  .exact .done
  refine Ev.ff Z (Ev.succ ?_);simp only[qci,qc1,show W64 (0+1)=1 from rfl,show idx ([c.Bc,c.Bg,c.Bf,c.Bh]:List Int) 1=V c.Bg from rfl,jd];refine Ev.tt Z ?_;cases inI c.Bg 100 5000
  .exact .done
  refine Ev.ff Z (Ev.succ ?_);simp only[qci,qc1,show W64 (1+1)=2 from rfl,show idx ([c.Bc,c.Bg,c.Bf,c.Bh]:List Int) 2=V c.Bf from rfl,jd];refine Ev.tt Z ?_;cases inI c.Bf 100 5000
  .exact .done
  refine Ev.ff Z (Ev.succ ?_);simp only[qci,qc1,show W64 (2+1)=3 from rfl,show idx ([c.Bc,c.Bg,c.Bf,c.Bh]:List Int) 3=V c.Bh from rfl,jd];refine Ev.tt Z ?_;cases inI c.Bh 100 5000
  .exact .done
  refine Ev.ff Z (Ev.succ ?_);simp only[qci];exact Ev.ff Z .done
 unfold qdY cornerB;refine Ev.bind a ?_;cases inI c.Bc 100 5000&&(inI c.Bg 100 5000&&(inI c.Bf 100 5000&&inI c.Bh 100 5000))
 .exact .done
 .refine Ev.bind (qmx h) ?_;cases nameB c.Ba
  .exact .done
  .cases decide (c.Bc<=c.Bg)<;>exact .done
theorem qrj{n:Nat}{a b:Int}:qg2 n a b=V (decide (a>=100)&&(decide (a<=b)&&decide (b<=5000))):=by
 unfold qg2;cases decide (a>=100)
 .rfl
 .cases decide (a<=b)<;>rfl
theorem qjU{c:qz}(h:okS c.Ba):Ev (fun n=>qeU n c) (cornerB c):=by
 have e:cornerB c=(nameB c.Ba&&((decide (c.Bc>=100)&&(decide (c.Bc<=c.Bg)&&decide (c.Bg<=5000)))&&(decide (c.Bf>=100)&&(decide (c.Bf<=c.Bh)&&decide (c.Bh<=5000))))):=by
  unfold cornerB;rw[jj];simp only[jf,qaQ,decide_eq_true_eq];constructor
  .rintro⟨⟨b,d,f,g⟩,a,i,k⟩;refine⟨a,⟨?_,?_,?_⟩,?_,?_,?_⟩<;>omega
  .rintro⟨a,⟨b,d,f⟩,g,i,k⟩;refine⟨⟨⟨?_,?_⟩,⟨?_,?_⟩,⟨?_,?_⟩,?_,?_⟩,a,?_,?_⟩<;>omega
 rw[e];unfold qeU;simp only[qo7 h,qrj,jd];cases nameB c.Ba
 .exact .done
 .cases decide (c.Bc>=100)&&(decide (c.Bc<=c.Bg)&&decide (c.Bg<=5000))<;>exact .done
def spanB(s:qf):Bool:=inI s.Ak (-1000000000) 1000000000&&(inI s.As (-1000000000) 1000000000&&decide (s.Ak<=s.As))
def slewB(s:qf):Bool:=decide (s.Ak>=0)&&(decide (s.Ak<=s.As)&&decide (s.As<=1000000))
theorem qqD{n:Nat}{s:qf}:qiR n s=V (spanB s):=by
 unfold qiR spanB;simp only[qc1,jd];cases inI s.Ak (-1000000000) 1000000000
 .rfl
 .cases inI s.As (-1000000000) 1000000000<;>rfl
theorem qpt{n:Nat}{s:qf}:qhH n s=V (spanB s):=by
 unfold qhH qlA spanB;simp only[qdR,jd];cases inI s.Ak (-1000000000) 1000000000
 .rfl
 .cases inI s.As (-1000000000) 1000000000<;>rfl
theorem qsB{n:Nat}{s:qf}:qie n s=V (slewB s):=by
 unfold qie slewB;cases decide (s.Ak>=0)
 .rfl
 .cases decide (s.Ak<=s.As)<;>rfl
theorem qsw{n:Nat}{s:qf}:qir n s=V (slewB s):=by
 have e:slewB s=(spanB s&&(inI s.Ak 0 1000000&&inI s.As 0 1000000)):=by
  unfold slewB spanB;rw[jj];simp only[jf,qaQ,decide_eq_true_eq];constructor
  .rintro⟨a,b,c⟩;refine⟨⟨⟨?_,?_⟩,⟨?_,?_⟩,?_⟩,⟨?_,?_⟩,?_,?_⟩<;>omega
  .rintro⟨⟨a,b,c⟩,d,f⟩;refine⟨?_,?_,?_⟩<;>omega
 rw[e];unfold qir qll;simp only[qpt,qdR,jd];cases spanB s
 .rfl
 .cases inI s.Ak 0 1000000<;>rfl

theorem qoB{b:qd}{k:Int}(h:blockB b=true){j:Nat}(c:j<(places b.Aa).length)(l:(gt (places b.Aa) j).net=k)(d:(gt (places b.Aa) j).drives=true):Ev (fun n=>qhC n b.Aa k) (j:Int):=by
 have g:=qao h;have p:=qZ g;have t:=qaW p;have e:ixL (fun q:Tl05Place=>(q.net==k)&&q.drives) ((places b.Aa).map toSp)=(j:Int):=by
  refine qty (by simpa using c) ?_ (fun i hi m=>?_)
  .rw[qn5 c];show(((gt (places b.Aa) j).net==k)&&(gt (places b.Aa) j).drives)=true;rw[l,d];simp
  .have f:i<(places b.Aa).length:=by simpa using hi
   rw[qn5 f] at m;have a:(((gt (places b.Aa) i).net==k)&&(gt (places b.Aa) i).drives)=true:=m;simp only[jf,beq_iff_eq] at a;exact qtc g f c (by rw[a.1,l]) a.2 d
 unfold qhC;refine Ev.bind (qhB p) ?_;rw[<-e];exact qfj (fin:=(((places b.Aa).map toSp).length:Int)) (Lf:=qc5 k ((places b.Aa).map toSp)) (xs:=(places b.Aa).map toSp) (pf:=fun _ (q:Tl05Place)=>V ((q.net==k)&&q.drives)) (fun _ _=>.done)
  (fun n=>by simp only[qc5,qq (je _),cond_false])
  (fun n j x r=>by
   have c:=(List.getElem?_eq_some_iff.1 r).1;have s:j<(places b.Aa).length:=by simpa using c
   simp only[qc5,qp c,cond_true,qgC r,jd,wS j];cases (x.net==k)<;>cases x.drives<;>rfl)
  (fun n=>by congr 1;funext o;cases o<;>rfl)
theorem qql{b:qd}{i k:Nat}(h:blockB b=true)(hi:i<b.Aa.Ab.length)(s:k<(gt b.Aa.Ab i).Ah.length):Ev (fun n=>qjh n b.Aa (i:Int) (k:Int)) ((off b.Aa i+k:Nat):Int):=by
 have p:=qao h;have f:=qZ p;have u:=qaW f;obtain⟨c,l⟩:=qkC hi s;have e:ixL (fun q:Tl05Place=>(q.instance_==(i:Int))&&(q.pin==(k:Int))) ((places b.Aa).map toSp)=((off b.Aa i+k:Nat):Int):=by
  refine qty (by simpa using c) ?_ (fun m t a=>?_)
  .rw[qn5 c,l];unfold place1 toSp;simp
  .have d:m<(places b.Aa).length:=by simpa using t
   rw[qn5 d] at a;rcases qln d with⟨i',k',hi',hk',em,e'⟩|⟨i',hi',em,e'⟩
   .rw[e'] at a;unfold place1 toSp at a;simp only[jf,beq_iff_eq] at a;obtain rfl:i'=i:=by omega
    obtain rfl:k'=k:=by omega
    exact em
   .rw[e'] at a;unfold place2 toSp at a;simp only[jf,beq_iff_eq] at a;omega
 unfold qjh;refine Ev.bind (qhB f) ?_;rw[<-e];exact qfj (fin:=(((places b.Aa).map toSp).length:Int)) (Lf:=qex (i:Int) (k:Int) ((places b.Aa).map toSp)) (xs:=(places b.Aa).map toSp) (pf:=fun _ (q:Tl05Place)=>V ((q.instance_==(i:Int))&&(q.pin==(k:Int)))) (fun _ _=>.done)
  (fun n=>by simp only[qex,qq (je _),cond_false])
  (fun n j x g=>by
   have c:=(List.getElem?_eq_some_iff.1 g).1;have r:j<(places b.Aa).length:=by simpa using c
   simp only[qex,qp c,cond_true,qgC g,jd,wS j];cases (x.instance_==(i:Int))<;>cases (x.pin==(k:Int))<;>rfl)
  (fun n=>by congr 1;funext o;cases o<;>rfl)
theorem qsm{n:Nat}{xs:List qv}{f t a c k i:Int}(m:xs.length<=1000000)(l:0<=f)(f1:f<=1000000)(o:0<=t)(p:t<=1000000)(b:b01 a)(g:b01 c):qfR n xs f t a c k i=V (xs++[⟨2*f+a,2*t+c,k,i⟩]):=by
 have d:0<=a/\a<=1:=by rcases b with e|e<;>omega
 have h:0<=c/\c<=1:=by rcases g with e|e<;>omega
 unfold qfR;rw[wO (2*f),wO (2*t),wO (2*f+a),wO (2*t+c),qcA (by rw[ji];omega)]
 rfl
def fitB(a:qaF)(i j:Int):Bool:=bif a.Au==1 then(bif a.Bk==3 then true else(a.Bk==1)==(i==j)) else bif a.Au==2 then i==0 else bif a.Au==3 then i==1 else false
def pcL(a:qaF)(f t k i j:Int):List qv:=bif fitB a i j then[⟨2*f+i,2*t+j,1,k⟩] else[]
theorem arcStep{arc:qaF}{xs:List qv}{f t k i j:Int}{X:List qv×Int}(g:xs.length<=1000000)(c:0<=f)(f1:f<=1000000)(l:0<=t)(m:t<=1000000)(hi:b01 i)(b:b01 j)
  (h:Ev (fun n=>qbl arc f t k i n (xs++pcL arc f t k i j) (j+1)) X):Ev (fun n=>qbl arc f t k i n xs j) X:=by
 have a:0<=j/\j<=1:=by rcases b with e|e<;>omega
 have d:=fun n=>qsm (n:=n) (k:=1) (i:=k) g c f1 l m hi b;refine Ev.succ ?_;simp only[qbl,d,jd,wO (j+1)];refine Ev.tt (decide_eq_true a.2) ?_;unfold pcL fitB at h;cases h1:arc.Au==1
 .cases h2:arc.Au==2
  .cases h3:arc.Au==3
   .rw[h1,h2,h3] at h;simpa using h
   .rw[h1,h2,h3] at h;cases h4:i==1
    .rw[h4] at h;simpa using h
    .rw[h4] at h;simpa using h
  .rw[h1,h2] at h;cases h4:i==0
   .rw[h4] at h;simpa using h
   .rw[h4] at h;simpa using h
 .rw[h1] at h;cases h2:arc.Bk==3
  .rw[h2] at h;cases h4:(arc.Bk==1)==(i==j)
   .rw[h4] at h;simpa [h4] using h
   .rw[h4] at h;simpa [h4] using h
  .rw[h2] at h;simpa using h
theorem qx2{arc:qaF}{xs:List qv}{f t k:Int}(s:xs.length<=900000)(c:0<=f)(f1:f<=1000000)(d:0<=t)(g:t<=1000000) :
  Ev (fun n=>qlx n xs arc f t k) (xs++pcL arc f t k 0 0++pcL arc f t k 0 1++pcL arc f t k 1 0++pcL arc f t k 1 1):=by
 have a:∀i j,(pcL arc f t k i j).length<=1:=fun i j=>by unfold pcL;cases fitB arc i j<;>simp
 have h:=a 0 0;have l:=a 0 1;have m:=a 1 0;have o:=a 1 1;have b:∀(i:Int) (ys:List qv),b01 i->ys.length<=900010->Ev (fun n=>qbl arc f t k i n ys 0) (ys++pcL arc f t k i 0++pcL arc f t k i 1,2):=by
  intro i ys hi u;have r:=a i 0;refine arcStep (by omega) c f1 d g hi (.inl Z) (arcStep (j:=0+1) (by rw[jg];omega) c f1 d g hi (.inr Z) (Ev.succ ?_));simp only[qbl];exact Ev.ff Z .done
 have p:Ev (fun n=>qfg arc f t k n xs 0) (xs++pcL arc f t k 0 0++pcL arc f t k 0 1++pcL arc f t k 1 0++pcL arc f t k 1 1,2):=by
  refine Ev.succ ?_;simp only[qfg];refine Ev.tt Z (Ev.bind (b 0 xs (.inl Z) (by omega)) ?_);refine Ev.succ ?_;simp only[qfg];refine Ev.tt Z (Ev.bind (b 1 _ (.inr Z) (by simp only[jg];omega)) ?_);refine Ev.succ ?_;simp only[qfg];exact Ev.ff Z .done
 unfold qlx;exact Ev.bind p .done
theorem quN{ps:List qaB}{a:qaF}(h:arcS ps a=true)(c:a.Au<=3)(b:1<=a.Au):(a.Au=1/\(a.Bk=1\/a.Bk=2\/a.Bk=3))\/a.Au=2\/a.Au=3:=by
 rcases (by omega:a.Au=1\/a.Au=2\/a.Au=3) with e|e|e
 .refine .inl ⟨e,?_⟩;unfold arcS at h;rw[e] at h;simp only[beq_self_eq_true,cond_true,jf,qaQ] at h;have:=h.2.2.2.1;omega
 .exact .inr (.inl e)
 .exact .inr (.inr e)
theorem qvH{ps:List qaB}{a:qaF}{first:Int}{k:Nat}(h:arcS ps a=true)(c:a.Au<=3)(b:1<=a.Au) :
  pcL a (first+a.Bd) (first+a.To) (k:Int) 0 0++pcL a (first+a.Bd) (first+a.To) (k:Int) 0 1++pcL a (first+a.Bd) (first+a.To) (k:Int) 1 0++pcL a (first+a.Bd) (first+a.To) (k:Int) 1 1=arcLs first k a:=by
 unfold arcLs transL pcL fitB;rcases quN h c b with⟨e,e2|e2|e2⟩|e|e
 .rw[e,e2];rfl
 .rw[e,e2];rfl
 .rw[e,e2];rfl
 .rw[e];rfl
 .rw[e];rfl
theorem qpO{a:qaF}{first:Int}{k:Nat}(h:3<a.Au):arcLs first k a=[]:=by
 unfold arcLs transL;rw[show(a.Au==2)=false from beq_eq_false_iff_ne.2 (by omega),show(a.Au==3)=false from beq_eq_false_iff_ne.2 (by omega),show(a.Au != 1)=true from bne_iff_ne.2 (by omega)]
 rfl
theorem qj7{b:qd}(h:blockB b=true):Ev (fun n=>qeT n b) (linksL b):=by
 have v:=qao h;have z:=qZ v;have hl:=qaW z;have hni:=z.ni;have hnn:=z.nn;have J:=qf6 h;have p:(⟨b.Aa.Ab,b.Aa.Ah,b.Aa.Ai⟩:qj)=b.Aa:=rfl;have e1:Ev (fun n=>qdG b n ([]:List qv) 0) (instLs b b.Aa.Ab.length,(b.Aa.Ab.length:Int)):=by
  refine loopF (Lf:=qdG b) (S:=instLs b) (len:=b.Aa.Ab.length) (fun n=>?_) (fun j m X g=>?_)
  .simp only[qdG,qq (je _),cond_false]
  .obtain⟨⟨P,c1⟩,r,l⟩:=qhO v m;have L:=qoe l;have s:=(qhx (qjF l)).1;have H:=qjC h (show j<=b.Aa.Ab.length by omega);have N:=qkN (d:=b.Aa) (i:=j);have hof:off b.Aa (j+1)<=78:=by
    rw[qhq] at hl;have:=qtN (d:=b.Aa) (show j+1<=b.Aa.Ab.length by omega);omega
   have F:cellAt b (j:Int)=gt b.Am.Ap (gt b.Aa.Ab j).Bq.toNat:=rfl;simp only[qdG,qp m,cond_true,qw m,qf4 P c1,jd,wS j];have C:Ev (fun n=>qcP b (j:Int) (cellAt b (j:Int)) n (instLs b j) 0) (instLs b (j+1),((cellAt b (j:Int)).Ar.length:Int)):=by
    rw[show instLs b (j+1)=instLs b j++cellLs (cellAt b (j:Int)) (off b.Aa j:Int) (cellAt b (j:Int)).Ar.length from qkt];rw[<-F] at l r L s;generalize cellAt b (j:Int)=c at l r L s⊢;have:=loopF (Lf:=qcP b (j:Int) c) (S:=fun k=>instLs b j++cellLs c (off b.Aa j:Int) k) (len:=c.Ar.length) (fin:=(instLs b j++cellLs c (off b.Aa j:Int) c.Ar.length,(c.Ar.length:Int))) (fun n=>by simp only[qcP,qq (je _),cond_false])
     (fun k o X g=>by
      obtain⟨⟨k1,k5⟩,M,I,W⟩:=qnv l o;have Y:(cellLs c (off b.Aa j:Int) k).length<=4*k:=qpw fun _ _=>qpu;have A:cellLs c (off b.Aa j:Int) (k+1)=cellLs c (off b.Aa j:Int) k++arcLs (off b.Aa j:Int) k (gt c.Ar k):=qkt;rw[A] at g;simp only[qcP,qp o,cond_true,qw o,jd,wS k,p];by_cases B:(gt c.Ar k).Au<=3
      .refine Ev.tt (decide_eq_true B) ?_;have f1:=qql h m (k:=(gt c.Ar k).Bd.toNat) (by omega);have K:=qql h m (k:=(gt c.Ar k).To.toNat) (by omega);rw[<-qdx M.1] at f1;rw[<-qdx I.1] at K;refine Ev.bind f1 (Ev.bind K (Ev.bind (qx2 (by rw[jg];omega) (by omega) (by omega) (by omega) (by omega)) ?_));have u:∀x:Int,0<=x->((off b.Aa j+x.toNat:Nat):Int)=(off b.Aa j:Int)+x:=fun x hx=>by omega
       rw[u _ M.1,u _ I.1,jv,jv,jv,<-jv (pcL _ _ _ _ _ _),<-jv (pcL _ _ _ _ _ _++_),qvH W B k1,jv];exact g
      .refine Ev.ff (decide_eq_false B) ?_;rw[qpO (by omega),jY] at g;exact g)
    simpa [cellLs,fm] using this
   exact Ev.bind C g
 have D:∀(i:Nat) (t:List qv),i<b.Ac.length->t.length<=900000->Ev (fun n=>qdH (dvN b.Aa i:Int) (skL b i) n t 0) (t++wlN b i (skL b i).length,((skL b i).length:Int)):=by
  intro i t hi I;have hsm:=qhK h (i:=i);have e:=(qih v (k:=i) (by omega)).1;have:=loopF (Lf:=qdH (dvN b.Aa i:Int) (skL b i)) (S:=fun k=>t++wlN b i k) (len:=(skL b i).length) (fin:=(t++wlN b i (skL b i).length,((skL b i).length:Int))) (fun n=>by simp only[qdH,qq (je _),cond_false])
   (fun k o X g=>by
    obtain⟨y,hy,ey,_⟩:=qoh o;have hwn:=qrY (b:=b) (i:=i) (j:=k);have p1:=fun n=>qsm (n:=n) (xs:=t++wlN b i k) (f:=(dvN b.Aa i:Int)) (t:=at0 (skL b i) k) (a:=0) (c:=0) (k:=2) (i:=(k:Int)) (by rw[jg];omega) (by omega) (by omega) (by omega) (by omega) (.inl Z) (.inl Z);have p2:=fun n=>qsm (n:=n) (xs:=t++wlN b i k++[⟨2*(dvN b.Aa i:Int)+0,2*at0 (skL b i) k+0,2,(k:Int)⟩]) (f:=(dvN b.Aa i:Int)) (t:=at0 (skL b i) k) (a:=1) (c:=1) (k:=2) (i:=(k:Int)) (by rw[jg,jg,ji];omega) (by omega) (by omega) (by omega) (by omega) (.inr Z) (.inr Z);simp only[qdH,qp o,cond_true,qaw o,jd,p1,p2,wS k];have A:wlN b i (k+1)=wlN b i k++wl1 (dvN b.Aa i) (at0 (skL b i) k) k:=qkt;rw[A] at g;rw[Jd,Jd,jv,jv];exact g)
  simpa [wlN,fm] using this
 have u:Ev (fun n=>qdF b n (instLs b b.Aa.Ab.length) 0) (linksL b,(b.Aa.Ah.length:Int)):=by
  have H:=qjC h (je _);have:=loopF (Lf:=qdF b) (S:=fun j=>instLs b b.Aa.Ab.length++wireLs b j) (len:=b.Aa.Ah.length) (fin:=(linksL b,(b.Aa.Ah.length:Int))) (fun n=>by
    simp only[qdF,qq (je _),cond_false];rw[<-J];rfl)
   (fun j m X g=>by
    have O:=qn9 h (j:=j);obtain⟨Q,d2⟩:=qih v m;obtain⟨R,T⟩:=qme.1 d2;simp only[qdF,qp m,cond_true,wS j,p];refine Ev.bind (qoB h Q R T) (Ev.bind (qls z) (Ev.bind (D j _ (by omega) (by rw[jg];omega)) ?_));rw[jv,show wireLs b j++wlN b j (skL b j).length=wireLs b (j+1) from qkt.symm];exact g)
  simpa [wireLs,fm] using this
 unfold qeT;exact Ev.bind e1 (Ev.bind u .done)
def lvB(br:List Int)(m:Nat):List Bool:=pre (fun k=>!br.any fun y=>y==(k:Int)) m
theorem qlw{br:List Int}{m:Nat}:(lvB br m).length=m:=qla
theorem qma{br:List Int}{x:Int}(d:br.length<=1048576):Ev (fun n=>qgz n br x) (br.any fun y=>y==x):=by
 have b:Ev (fun n=>qfm br x n 0) (bif br.any (fun y=>y==x) then .ret true else .nxt (br.length:Int)):=by
  have:=qeo (Lf:=qfm br x) (len:=br.length) (f:=fun j=>!(gt br j==x)) (bad:=true) (fin:=.nxt (br.length:Int)) (Ev.succ (by simp only[qfm,qq (je _),cond_false];exact .done))
   (fun j a X c=>Ev.succ (by
    simp only[qfm,qp a,cond_true,qw a,jd,wS j];cases gt br j==x
    .exact c
    .exact .done))
  rw[qtB];refine this.cast ?_;cases allN (fun j=>!(gt br j==x)) br.length<;>rfl
 unfold qgz;refine Ev.bind b ?_;cases br.any (fun y=>y==x)<;>exact .done
theorem qod{ls:List qv}{br:List Int}(g:ls.length<=10000)(a:br.length<=1048576):Ev (fun n=>qh1 n ls br) (lvB br ls.length):=by
 have b:Ev (fun n=>qeA ls br n ([]:List Bool) 0) (lvB br ls.length,(ls.length:Int)):=by
  refine loopF (Lf:=qeA ls br) (S:=fun j=>lvB br j) (len:=ls.length) (fun n=>?_) (fun j d X c=>?_)
  .simp only[qeA,qq (je _),cond_false]
  .simp only[qeA,qp d,cond_true,wS j];refine Ev.bind (qma a) ?_;have e:appS (lvB br j) [!br.any fun y=>y==(j:Int)]=V (lvB br (j+1)):=qso (f:=fun k:Nat=>!br.any fun y=>y==(k:Int)) (by omega);rw[e];exact c
 unfold qh1;exact Ev.bind b .done
def brB(br:List Int)(m:Nat):Bool:=(br.all fun x=>inI x 0 ((m:Int)-1))&&incB br
theorem qtJ{v:Tview}{br:List Int}(A:v.links.length<=10000)(h:brB br v.links.length=true):Ev (fun n=>qfZ n (V v) br) (V ⟨V v,lvB br v.links.length⟩):=by
 unfold brB at h;rw[jf,qjo,qai] at h;have u:mkS (v.links.length:Int) false=V (pre (fun _=>false) v.links.length):=qmf (by omega);generalize hM:v.links.length=M at A h u⊢;have m:∀j i,i<j->j<br.length->gt br i<gt br j:=by
  intro j
  induction j with
  |zero=>intro i hi _;omega
  |succ j ih=>
   intro i hi b;have c:=h.2;unfold incB at c;rw[qai] at c;have c:=c (j+1) b;unfold stepB at c;simp only[Bool.or_eq_true,decide_eq_true_eq,Nat.add_sub_cancel] at c;have s:gt br j<gt br (j+1):=by
    rcases c with c|c
    .omega
    .exact c
   by_cases r:i=j
   .rw[r];exact s
   .have:=ih i (by omega) (by omega);omega
 have o:∀j,j<br.length->(j:Int)<=gt br j:=by
  intro j
  induction j with
  |zero=>
   intro b;have:=h.1 0 b;rw[qaQ] at this;omega
  |succ j ih=>
   intro b;have:=ih (by omega);have:=m (j+1) j (by omega) b;omega
 have C:br.length<=M:=by
  by_cases D:br.length=0
  .omega
  .have F:=o (br.length-1) (by omega);have B:=h.1 (br.length-1) (by omega);rw[qaQ] at B;omega
 have e1:Ev (fun n=>qbN (pre (fun _=>false) M) n (pre (fun _=>false) M) 0) (pre (fun _=>true) M,(M:Int)):=by
  have:=loopF (Lf:=qbN (pre (fun _=>false) M)) (S:=fun j=>pre (fun k=>decide (k<j)) M) (len:=M) (fin:=(pre (fun _=>true) M,(M:Int))) (fun n=>by
    simp only[qbN,qla,qq (je _),cond_false];rw[qh3 (g:=fun _=>true) fun k d=>decide_eq_true d])
   (fun j b X l=>by
    simp only[qbN,qla,qp b,cond_true,qja (f:=fun k=>decide (k<j)) b,jd,qoT,wS j];have:pre (fun k=>decide (k<j+1)) M=pre (fun k=>if k=j then true else decide (k<j)) M:=qh3 fun k _=>by
     by_cases d:k=j
     .rw[if_pos d,d];simp
     .rw[if_neg d,decide_eq_decide];omega
    rw[this] at l;exact l)
  simpa using this
 have z:Ev (fun n=>qbJ br n (pre (fun _=>true) M) 0) (lvB br M,(br.length:Int)):=by
  have:=loopF (Lf:=qbJ br) (S:=fun j=>pre (fun k=>!(br.take j).any fun y=>y==(k:Int)) M) (len:=br.length) (fin:=(lvB br M,(br.length:Int))) (fun n=>by
    simp only[qbJ,qq (je _),cond_false,jG];rfl)
   (fun j b X l=>by
    have x:=h.1 j b;rw[qaQ] at x;obtain⟨a,t⟩:∃a:Nat,gt br j=(a:Int):=⟨_,qdx x.1⟩;have p:a<M:=by omega
    simp only[qbJ,qp b,cond_true,qw b,t,qja (f:=fun k=>!(br.take j).any fun y=>y==(k:Int)) p,jd,qoT,wS j];have:pre (fun k=>!(br.take (j+1)).any fun y=>y==(k:Int)) M=pre (fun k=>if k=a then false else !(br.take j).any fun y=>y==(k:Int)) M:=qh3 fun k _=>by
     rw[jC b,List.any_append,<-qeV b,t];by_cases d:k=a
     .rw[if_pos d,d];simp
     .rw[if_neg d];have:((a:Int)==(k:Int))=false:=by simp;omega
      simp[this]
    rw[this] at l;exact l)
  simpa using this
 unfold qfZ;simp only[jd,hM,u];exact Ev.bind e1 (Ev.bind z .done)
theorem qrB{br:List Int}{m:Nat}(h:br.length<=1048576)(i:m<=10000):Ev (fun n=>qgm n br (m:Int)) (brB br m):=by
 have g:Ev (fun n=>qcx br (m:Int) n 0) (bif allN (fun j=>inI (gt br j) 0 ((m:Int)-1)&&stepB br j) br.length then .nxt (br.length:Int) else .ret false):=by
  refine qeo (Lf:=qcx br (m:Int)) (len:=br.length) (Ev.succ (by simp only[qcx,qq (je _),cond_false];exact .done)) (fun j d X c=>Ev.succ ?_);simp only[qcx,qp d,cond_true,qw d,jd,qc1,wS j,wO ((m:Int)-1)];cases h1:inI (gt br j) 0 ((m:Int)-1)
  .exact .done
  .refine Ev.ff Z ?_;by_cases b:j=0
   .subst b;exact Ev.ff Z c
   .refine Ev.tt (decide_eq_true (by omega)) ?_;rw[show(j:Int)-1=((j-1:Nat):Int) by omega,qP (by omega) (by omega),qw (show j-1<br.length by omega)];simp only[jd];have f:stepB br j=decide (gt br (j-1)<gt br j):=by
     unfold stepB;rw[decide_eq_false b,Jj]
     rfl
    rw[f];by_cases a:gt br (j-1)<gt br j
    .rw[decide_eq_true a];exact Ev.ff (decide_eq_false (by omega)) c
    .rw[decide_eq_false a];exact Ev.tt (decide_eq_true (by omega)) .done
 unfold qgm;refine Ev.bind g ?_;unfold brB incB;rw[qjo,<-qlX];cases allN (fun j=>inI (gt br j) 0 ((m:Int)-1)&&stepB br j) br.length<;>exact .done
theorem qsI{v:Tview}{br:List Int}(a:br.length<=1048576)(b:v.links.length<=10000):Ev (fun n=>qfc n (V v) br) (brB br v.links.length):=by
 unfold qfc qg9 brB;simp only[jd,wO ((v.links.length:Int)-1)];exact Ev.and (qeL a) fun _=>Ev.last (qj8 a)
theorem qtr{b:qd}{br:List Int}(a:qg1 b)(h:blockB b=true)(c:br.length<=1048576):Ev (fun n=>qhM n b br) (bif brB br (linksL b).length then 0 else 2):=by
 unfold qhM;refine Ev.bind (qf0 a) (Ev.ff (by rw[h];rfl) (Ev.bind (qj7 h) (Ev.bind (qrB c (qkV h)) ?_)));cases brB br (linksL b).length<;>exact .done

theorem qnb{α:Type}{f:Nat->List α}{n:Nat}{x:α}(h:x∈fm f n):∃j,j<n/\x∈f j:=by
 unfold fm at h;obtain⟨j,a,b⟩:=List.mem_flatMap.1 h;exact⟨j,List.mem_range.1 a,b⟩
theorem qup{x:Int}{j:Nat}{t:Int}(b:b01 t)(d:j<=100000)(e:x=2*(j:Int)+t):W64 (x.tdiv 2)=(j:Int)/\x.tmod 2=t:=by
 have c:0<=t/\t<=1:=by rcases b with e|e<;>omega
 have a:0<=x:=by omega
 rw[jD a,Int.tmod_eq_emod_of_nonneg a,qP (by omega) (by omega)];omega
structure CLk(b:qd)(x:qv)(i j m net a:Nat):Prop where
 kind:x.Au=1
 il:i<b.Aa.Ab.length
 jl:j<(places b.Aa).length
 inst:(gt (places b.Aa) j).instance_=(i:Int)
 net_:(gt (places b.Aa) j).net=(net:Int)
 nl:net<b.Ac.length
 half:W64 (x.To.tdiv 2)=(j:Int)
 mod:x.To.tmod 2=(m:Int)
 ml:m<2
 ix:x.Bv=(a:Int)
 al:a<(cellAt b (i:Int)).Ar.length
 d2:(gt (cellAt b (i:Int)).Ar a).Bn.length=2
 s2:(gt (cellAt b (i:Int)).Ar a).Av.length=2
 dt:∀t,t∈(gt (cellAt b (i:Int)).Ar a).Bn->TbOk t/\∀k,0<=at0 t.Az k
 st:∀t,t∈(gt (cellAt b (i:Int)).Ar a).Av->TbOk t/\∀k,0<=at0 t.Az k
 k3:(gt (cellAt b (i:Int)).Ar a).Au<=3
structure WLk(b:qd)(x:qv)(j net k:Nat):Prop where
 kind:x.Au=2
 jl:j<(places b.Aa).length
 net_:(gt (places b.Aa) j).net=(net:Int)
 nl:net<b.Ac.length
 half:W64 (x.To.tdiv 2)=(j:Int)
 ix:x.Bv=(k:Int)
 kl:k<(gt b.Ac net).Bb.length
theorem qyd{xs:List Int}(h:0<=mnL xs)(k:Nat):0<=at0 xs k:=by
 have b:∀(ys:List Int) (a:Int),(ys.foldl (fun(m y:Int)=>if y<m then y else m) a<=a)/\∀y,y∈ys->ys.foldl (fun(m y:Int)=>if y<m then y else m) a<=y:=by
  intro ys
  induction ys with
  |nil=>intro a;exact⟨jU _,fun y g=>by cases g⟩
  |cons z ys ih=>
   intro a;rw[List.foldl_cons];obtain⟨i,l⟩:=ih (if z<a then z else a);refine⟨?_,fun y g=>?_⟩
   .split at i<;>split<;>omega
   .rcases List.mem_cons.1 g with e|e
    .subst e;split at i<;>split<;>omega
    .exact l y e
 by_cases d:k<xs.length
 .have f:xs[k]∈xs.drop 1\/k=0:=by
   by_cases c:k=0
   .exact .inr c
   .refine .inl ?_;have:xs[k]=(xs.drop 1)[k-1]'(by rw[List.length_drop];omega):=by
     rw[List.getElem_drop]
     congr 1;omega
    rw[this];exact jo _
  rw[qiE d];unfold mnL at h;rcases f with f|c
  .exact Int.le_trans h ((b _ _).2 _ f)
  .subst c;have:=(b (xs.drop 1) (at0 xs 0)).1;rw[<-qiE d];exact Int.le_trans h this
 .rw[quq d];exact jU _
theorem qqT{a:List qS}(h:tablesB a true=true):a.length=2/\∀t,t∈a->TbOk t/\∀k,0<=at0 t.Az k:=by
 unfold tablesB at h;rw[jf,decide_eq_true_eq,jF] at h;refine⟨h.1,fun t b=>?_⟩;have:=h.2 t b;unfold tabB at this;simp only[Jh,Jj,jf,decide_eq_true_eq] at this;exact⟨quG this.1,qyd this.2⟩
theorem qt1{ps:List qaB}{a:qaF}(h:arcS ps a=true)(c:a.Au<=3)(b:1<=a.Au):a.To=(ps.length:Int)-1/\tablesB a.Bn true=true/\tablesB a.Av true=true:=by
 unfold arcS at h;rcases (by omega:a.Au=1\/a.Au=2\/a.Au=3) with e|e|e
 .rw[e] at h;simp only[beq_self_eq_true,cond_true,jf,beq_iff_eq] at h;exact⟨h.2.2.1,h.2.2.2.2⟩
 .rw[e] at h;simp only[show((2:Int)==1)=false from rfl,cond_false,beq_self_eq_true,Bool.true_or,cond_true,jf,beq_iff_eq] at h;exact⟨h.2.2.1,h.2.2.2.2⟩
 .rw[e] at h;simp only[show((3:Int)==1)=false from rfl,cond_false,beq_self_eq_true,Bool.or_true,cond_true,jf,beq_iff_eq] at h;exact⟨h.2.2.1,h.2.2.2.2⟩
theorem qsP{a:qaF}{t:qX}(h:t∈transL a):1<=a.Au/\a.Au<=3:=by
 refine⟨?_,?_⟩<;>refine Int.le_of_not_gt fun b=>?_
 .have:arcLs 0 0 a=[]:=by
   unfold arcLs transL;rw[show(a.Au==2)=false from beq_eq_false_iff_ne.2 (by omega),show(a.Au==3)=false from beq_eq_false_iff_ne.2 (by omega),show(a.Au != 1)=true from bne_iff_ne.2 (by omega)]
   rfl
  unfold arcLs at this;rw[List.map_eq_nil_iff] at this;rw[this] at h;cases h
 .have:arcLs 0 0 a=[]:=qpO b;unfold arcLs at this;rw[List.map_eq_nil_iff] at this;rw[this] at h;cases h
theorem qfe{b:qd}(h:blockB b=true){x:qv}(c:x∈linksL b):((∃i j m net a,CLk b x i j m net a)\/∃j net k,WLk b x j net k)/\(0<=x.Bd/\x.Bd<2*((places b.Aa).length:Int))/\(0<=x.To/\x.To<2*((places b.Aa).length:Int)):=by
 have l:=qao h;have P:=qZ l;have hl:=qaW P;have S:=qf6 h;unfold linksL at c;rcases List.mem_append.1 c with c|c
 .obtain⟨i,hi,c⟩:=qnb c;obtain⟨a,B,c⟩:=qnb c;unfold arcLs at c;obtain⟨t,g,rfl⟩:=List.mem_map.1 c;obtain⟨⟨c0,c1⟩,u,f⟩:=qhO l hi;have r:cellAt b (i:Int)=gt b.Am.Ap (gt b.Aa.Ab i).Bq.toNat:=rfl;rw[<-r] at u f;obtain⟨⟨k1,k5⟩,hf,Q,L⟩:=qnv f B;obtain⟨K,A⟩:=qsP g;obtain⟨X,o⟩:=qrJ g;obtain⟨F,Y,tS⟩:=qt1 L A K;obtain⟨d2,dt⟩:=qqT Y;obtain⟨s2,st⟩:=qqT tS;have O:=(qhx (qjF f)).1;have n:(cellAt b (i:Int)).Ay.length-1<(gt b.Aa.Ab i).Ah.length:=by omega
  obtain⟨C,H⟩:=qkC hi n;obtain⟨W,n1⟩:=qmy l C;have e1:(al1 (off b.Aa i:Int) a (gt (cellAt b (i:Int)).Ar a) t).To=2*((off b.Aa i+((cellAt b (i:Int)).Ay.length-1):Nat):Int)+t.e1:=by
   show 2*((off b.Aa i:Int)+(gt (cellAt b (i:Int)).Ar a).To)+t.e1=_;rw[F];omega
  obtain⟨s,D⟩:=qup o (by omega) e1;obtain⟨m,I⟩:∃m:Nat,t.e1=(m:Int):=⟨t.e1.toNat,by rcases o with e|e<;>omega⟩;have N:off b.Aa i+(gt (cellAt b (i:Int)).Ar a).Bd.toNat<(places b.Aa).length:=(qkC hi (k:=(gt (cellAt b (i:Int)).Ar a).Bd.toNat) (by omega)).1;have p:(al1 (off b.Aa i:Int) a (gt (cellAt b (i:Int)).Ar a) t).Bd=2*((off b.Aa i:Int)+(gt (cellAt b (i:Int)).Ar a).Bd)+t.e0:=rfl;refine⟨.inl ⟨i,_,m,(gt (places b.Aa) (off b.Aa i+((cellAt b (i:Int)).Ay.length-1))).net.toNat,a,⟨rfl,hi,C,by rw[H];rfl,qdx W,by omega,s,by rw[D,I],by rcases o with e|e<;>omega,rfl,B,d2,s2,dt,st,A⟩⟩,?_,?_⟩
  .rw[p];rcases X with e|e<;>rw[e]<;>omega
  .rw[e1];rcases o with e|e<;>rw[e]<;>omega
 .obtain⟨i,hi,c⟩:=qnb c;obtain⟨k,n,c⟩:=qnb c;obtain⟨y,T,J,v⟩:=qoh n;have M:=(qih l (k:=i) (by omega)).1;have R:=qbL h hi;have z:(gt (places b.Aa) y).net=(i:Int):=by
   unfold snkQ at v;simp only[jf,beq_iff_eq] at v;exact v.1
  have d:∀t:Int,b01 t->x=⟨2*(dvN b.Aa i:Int)+t,2*at0 (skL b i) k+t,2,(k:Int)⟩->((∃i j m net a,CLk b x i j m net a)\/∃j net k,WLk b x j net k)/\(0<=x.Bd/\x.Bd<2*((places b.Aa).length:Int))/\(0<=x.To/\x.To<2*((places b.Aa).length:Int)):=by
   intro t g e;have e1:x.To=2*(y:Int)+t:=by rw[e,J]
   have p:x.Bd=2*(dvN b.Aa i:Int)+t:=by rw[e]
   obtain⟨s,D⟩:=qup g (by omega) e1;refine⟨.inr ⟨y,i,k,⟨by rw[e],T,z,hi,s,by rw[e],by rw[R.snk];exact n⟩⟩,?_,?_⟩
   .rw[p];rcases g with e|e<;>rw[e]<;>omega
   .rw[e1];rcases g with e|e<;>rw[e]<;>omega
  unfold wl1 at c;simp only[jK,jz,or_false] at c;rcases c with c|c
  .exact d 0 (.inl Z) (by rw[c,Jd,Jd])
  .exact d 1 (.inr Z) c
theorem qia{α:Type}[Inhabited α]{xs:List α}{k:Nat}(h:k<xs.length):gt xs k∈xs:=by rw[qeV h];exact jo h
theorem qkI{b:qd}(h:blockB b=true):LkOk (linksL b) (2*(places b.Aa).length) where
 len:=qkV h
 nodes:=by have:=qaW (qZ (qao h));omega
 fr0:=fun x a=>(qfe h (qia a)).2.1.1
 fr1:=fun x a=>by have:=(qfe h (qia a)).2.1.2;omega
 to0:=fun x a=>(qfe h (qia a)).2.2.1
 to1:=fun x a=>by have:=(qfe h (qia a)).2.2.2;omega
theorem qrF{c:qz}(h:cornerB c=true){kind mode:Int}:∃f:Int,100<=f/\f<=5000/\(∀n,qd4 n c kind mode=V f)/\∀n,qfi n c kind mode=V f:=by
 unfold cornerB at h;simp only[jf,qaQ,decide_eq_true_eq] at h;obtain⟨⟨a,b,d,g⟩,_⟩:=h;unfold qd4 qfi;cases kind==1
 .cases mode==0
  .exact⟨_,g.1,g.2,fun _=>rfl,fun _=>rfl⟩
  .exact⟨_,d.1,d.2,fun _=>rfl,fun _=>rfl⟩
 .cases mode==0
  .exact⟨_,b.1,b.2,fun _=>rfl,fun _=>rfl⟩
  .exact⟨_,a.1,a.2,fun _=>rfl,fun _=>rfl⟩
theorem qmb{p f mode:Int}(g:0<=p)(p1:p<=400000000000)(c:0<=f)(f1:f<=5000):(∀n,qcO n (W64 (p*f)) 1000 mode=V (divI (p*f) 1000 mode))/\∀n,qkY n p f mode=V (divI (p*f) 1000 mode):=by
 have h:=jT g c;have i:p*f<=400000000000*5000:=jX p1 f1 c (by omega);have e:W64 (p*f)=p*f:=qP (by omega) (by omega);have d:=fun n=>qkO (n:=n) (a:=p*f) (b:=1000) (mode:=mode) (by omega) (by omega) (by omega);refine⟨fun n=>by rw[e];exact d n,fun n=>?_⟩;unfold qkY;rw[e,qr7 (m:=0),d 0]
 rfl
theorem qvI{l h H:Int}(c:0<=l)(d:l<h)(f:h<=H)(g:H<=3000000000):W64 (W64 (W64 (l+h)+1) |>.tdiv 2)=(l+h+1) / 2/\W64 ((l+h+1) / 2*((l+h+1) / 2))=(l+h+1) / 2*((l+h+1) / 2)/\W64 ((l+h+1) / 2-1)=(l+h+1) / 2-1:=by
 have a:0<=(l+h+1) / 2/\(l+h+1) / 2<=3000000000:=by omega
 have i:(l+h+1) / 2*((l+h+1) / 2)<=3000000000*3000000000:=jX a.2 a.2 a.1 (by omega);have b:=jT a.1 a.1;rw[wO (l+h),wO (l+h+1),jD (by omega),wO ((l+h+1) / 2),wO ((l+h+1) / 2-1)];exact⟨rfl,qP (by omega) (by omega),rfl⟩
theorem qvD{y mode:Int}(k:0<=y)(r:y<=4000000000000000000):∃v,IsRoot y v/\v<=2000000000/\Ev (fun n=>qi9 n y mode) (if mode=1/\v*v<y then v+1 else v):=by
 obtain⟨v,r1,f,p⟩:=qrn (Lf:=fun n l h=>qeq y n l h) (fin:=fun l=>(l,l)) (x:=y) (H:=2000000000) k (by omega) (by omega)
  (fun n l _ _=>by simp only[qeq,show decide (l<l)=false from decide_eq_false (Int.lt_irrefl l),cond_false])
  (fun n l h a b m=>by
   obtain⟨e1,g,i⟩:=qvI a b m (by omega);simp only[qeq,decide_eq_true b,cond_true,e1,g,i])
 refine⟨v,r1,f,?_⟩;unfold qi9;refine Ev.bind p ?_;have d:=r1.pos;have s:v*v<=2000000000*2000000000:=jX f f d (by omega);have o:=jT d d;simp only[wO (v*v),wO (v+1)];by_cases c:mode=1
 .refine Ev.tt (by simpa using c) ?_;by_cases a:v*v<y
  .rw[if_pos ⟨c,a⟩];exact Ev.tt (decide_eq_true a) .done
  .rw[if_neg fun h=>a h.2];exact Ev.ff (decide_eq_false a) .done
 .rw[if_neg fun h=>c h.1];exact Ev.ff (by simpa using c) .done
theorem qvG{y:Int}(d:0<=y)(m:y<=4000000000000000000):∃v,IsRoot y v/\v<=3000000000/\Ev (fun n=>qnI n y) v:=by
 obtain⟨v,r1,i,k⟩:=qrn (Lf:=fun n l h=>qgU y n l h) (fin:=fun l=>(l,l)) (x:=y) (H:=3000000000) d (by omega) (by omega)
  (fun n l _ _=>by simp only[qgU,show decide (l<l)=false from decide_eq_false (Int.lt_irrefl l),cond_false])
  (fun n l h g a f=>by
   obtain⟨e1,b,c⟩:=qvI g a f (by omega);simp only[qgU,decide_eq_true a,cond_true,e1,b,c])
 refine⟨v,r1,i,?_⟩;unfold qnI;exact Ev.bind k .done
theorem qvp{sl d mode:Int}(s0:0<=sl)(s1:sl<=1000000)(g:0<=d)(l:d<=344000000)(o:mode=0\/mode=1):∃r:Int,0<=r/\(∃v,IsRoot (4*(250000*(sl*sl)+d*d)) v/\v<=2000000000/\r=divI (if mode=1/\v*v<4*(250000*(sl*sl)+d*d) then v+1 else v) 1000 mode) /\
  Ev (fun n=>(qi9 n (W64 (W64 (W64 (1000000*sl)*sl)+W64 (W64 (4*d)*d))) mode).bind fun z=>(qcO n z 1000 mode).bind fun A=>V A) r/\Ev (fun n=>qjG n sl d mode) r:=by
 have I:=jT s0 s0;have J:sl*sl<=1000000*1000000:=jX s1 s1 s0 (by omega);have K:=jT g g;have L:d*d<=344000000*344000000:=jX l l g (by omega);have e1:W64 (W64 (W64 (1000000*sl)*sl)+W64 (W64 (4*d)*d))=4*(250000*(sl*sl)+d*d):=by
  rw[wO (1000000*sl),wO (4*d),Je 1000000,Je 4,wO (1000000*(sl*sl)),wO (4*(d*d)),qP (by omega) (by omega)];omega
 have s:W64 (W64 (W64 (W64 (500*sl)*500)*sl)+W64 (d*d))=250000*(sl*sl)+d*d:=by
  rw[wO (500*sl),wO (500*sl*500),show 500*sl*500*sl=250000*(sl*sl) by rw[<-Je];congr 1;omega,wO (250000*(sl*sl)),wO (d*d),qP (by omega) (by omega)]
 obtain⟨v,k,B,C⟩:=qvD (mode:=mode) (y:=4*(250000*(sl*sl)+d*d)) (by omega) (by omega);obtain⟨w,w1,p,D⟩:=qvG (y:=250000*(sl*sl)+d*d) (by omega) (by omega);have x:=qt3 w1 k o;have H:=k.pos;have f:=w1.pos;have a:0<=(if mode=1/\v*v<4*(250000*(sl*sl)+d*d) then v+1 else v)/\(if mode=1/\v*v<4*(250000*(sl*sl)+d*d) then v+1 else v)<=1000*3000000:=by split<;>omega
 refine⟨_,(qlt (b:=1000) (mode:=mode) (M:=3000000) (by omega) a.1 a.2).1,⟨v,k,B,rfl⟩,?_,?_⟩
 .rw[e1];exact Ev.bind C (Ev.bind ⟨0,fun n _=>qkO (by omega) (by omega) (by omega)⟩ .done)
 .rw[x];unfold qjG;rw[s];refine Ev.bind D ?_;have F:w*w<=3000000000*3000000000:=jX p p f (by omega);have u:=jT f f;have t:(fun n=>qfV n w 500 mode)=fun _=>V (divI w 500 mode):=by
   funext n
   rw[qr7 (m:=0),qkO (by omega) (by omega) (by omega)]
  have i:=congrFun t;simp only[wO (w*w),jD f,wO (w / 500),wO (w / 500+1),i,jd];rcases o with rfl|rfl
  .rw[if_neg (by omega)];exact .done
  .by_cases c:w*w<250000*(sl*sl)+d*d
   .rw[if_pos ⟨rfl,c⟩,decide_eq_true c];exact .done
   .rw[if_neg fun h=>c h.2,decide_eq_false c];exact .done
theorem qsJ{t:qS}(h:TbOk t/\∀k,0<=at0 t.Az k)(sl ld mode:Int):∃r:Int,0<=r/\r<=1000000/\Ev (fun n=>qgF n t sl ld mode) r/\Ev (fun n=>qc3 n t sl ld mode) r:=by
 obtain⟨S,D,D0,S1,_,_,_,S0,a⟩:=qui h.1 sl ld;obtain⟨b,r1⟩:=qlt (mode:=mode) D0 (S0 h.2) S1;exact⟨_,b,r1,a mode⟩
theorem qtY{b:qd}{ex:List Int}{x:qv}{j net:Nat}(jl:j<(places b.Aa).length)(c:(gt (places b.Aa) j).net=(net:Int))(a:W64 (x.To.tdiv 2)=(j:Int))(n:Nat):qfB n (V (viewE b ex)) x=V (net:Int):=by
 unfold qfB;show(idx (places b.Aa) (W64 (x.To.tdiv 2))).bind _=_;rw[a,qw jl];exact congrArg V c
theorem qvL{b:qd}{ex:List Int}(h:blockB b=true){x:qv}{i j m net a:Nat}(c:CLk b x i j m net a)(n:Nat):qg4 n (V (viewE b ex)) x=V (gt (cellAt b (i:Int)).Ar a):=by
 obtain⟨⟨d,c1⟩,_,_⟩:=qhO (qao h) c.il;unfold qg4;show(idx (places b.Aa) (W64 (x.To.tdiv 2))).bind (fun f=>(idx b.Aa.Ab f.instance_).bind fun g=>(idx b.Am.Ap g.Bq).bind fun k=>(idx k.Ar x.Bv).bind fun l=>V l)=_;rw[c.half,qw c.jl,jd,c.inst,qw c.il,jd,qf4 d c1,jd,c.ix];show(idx (cellAt b (i:Int)).Ar (a:Int)).bind _=_;rw[qw c.al];rfl
theorem qnP{b:qd}(h:blockB b=true){x:qv}{i j m net a:Nat}(c:CLk b x i j m net a):Ev (fun n=>qjX n b x) (gt (cellAt b (i:Int)).Ar a,load0 b net):=by
 have d:=qao h;have s:=qZ d;obtain⟨⟨f,c1⟩,_,_⟩:=qhO d c.il;have r:idx ((places b.Aa).map toSp) (j:Int)=V (toSp (gt (places b.Aa) j)):=by
  refine qgC ?_;rw[List.getElem?_map,jn c.jl,qeV c.jl];rfl
 have o:=qmE h c.nl;have p:=(qbL h c.nl).lo;have g:(toSp (gt (places b.Aa) j)).instance_=(i:Int):=c.inst;have k:(toSp (gt (places b.Aa) j)).net=(net:Int):=c.net_;have l:idx (gt b.Am.Ap (gt b.Aa.Ab i).Bq.toNat).Ar (a:Int)=V (gt (cellAt b (i:Int)).Ar a):=qw c.al;unfold qjX;refine Ev.bind (qhB s) ?_;simp only[c.half,r,jd,g,k,qw c.il,qf4 f c1,c.ix,l];refine Ev.bind (qpK h c.nl) ?_;rw[show idx (loadsL b net) (0:Int)=V (load0 b net) from qw (j:=0) (by omega)];exact .done
theorem qlT{b:qd}(h:blockB b=true){x:qv}{j net k:Nat}(a:WLk b x j net k):Ev (fun n=>qhz n b x) (net:Int):=by
 have f:=qZ (qao h);have d:idx ((places b.Aa).map toSp) (j:Int)=V (toSp (gt (places b.Aa) j)):=by
  refine qgC ?_;rw[List.getElem?_map,jn a.jl,qeV a.jl];rfl
 have c:(toSp (gt (places b.Aa) j)).net=(net:Int):=a.net_;unfold qhz;refine Ev.bind (qhB f) ?_;simp only[a.half,d,jd,c];exact .done
theorem qrW{b:qd}{c:qz}(ex:List Int)(h:blockB b=true)(K:cornerB c=true){k:Nat}(L:k<(linksL b).length){sl mode:Int}(s0:0<=sl)(s1:sl<=1000000)(W:mode=0\/mode=1) :
  (∃D:Int,Ev (fun n=>qbq n b c (gt (linksL b) k) sl mode) D/\Ev (fun n=>qcG n (V (viewE b ex)) c (k:Int) sl mode) D) /\
  ∃S:Int,0<=S/\S<=1000000/\Ev (fun n=>qeK n b (gt (linksL b) k) sl mode) S/\Ev (fun n=>qbF n (V (viewE b ex)) (k:Int) sl mode) S:=by
 have t:idx (viewE b ex).links (k:Int)=V (gt (linksL b) k):=qw L;obtain⟨d,_⟩:=qfe h (qia L);generalize gt (linksL b) k=x at d t;rcases d with⟨i,j,m,net,a,d⟩|⟨j,net,q,d⟩
 .have l:=qtY (ex:=ex) d.jl d.net_ d.half;have o:=qvL (ex:=ex) h d;have s:idx (viewE b ex).loads (net:Int)=V (load0 b net):=qja (f:=load0 b) d.nl;obtain⟨f,R,f1,F,C⟩:=qrF K (kind:=x.Au) (mode:=mode);have z:m<(gt (cellAt b (i:Int)).Ar a).Bn.length:=by rw[d.d2];exact d.ml
  have H:m<(gt (cellAt b (i:Int)).Ar a).Av.length:=by rw[d.s2];exact d.ml
  obtain⟨r,e,r1,rs,ri⟩:=qsJ (d.dt _ (qia z)) sl (load0 b net) mode;obtain⟨u,N,u1,J,I⟩:=qsJ (d.st _ (qia H)) sl (load0 b net) mode;obtain⟨c1,y⟩:=qmb (mode:=mode) e (by omega) (show 0<=f by omega) f1;have g:(x.Au==1)=true:=by rw[d.kind];rfl
  refine⟨⟨divI (r*f) 1000 mode,?_,?_⟩,⟨u,N,u1,?_,?_⟩⟩
  .unfold qbq;refine Ev.tt g (Ev.bind (qnP h d) ?_);simp only[d.mod,qw z,jd,F];exact Ev.bind rs (Ev.bind ⟨0,fun n _=>c1 n⟩ .done)
  .unfold qcG;simp only[jd,t,l,s,o,d.mod,qw z,C];exact Ev.tt g (Ev.bind ri (Ev.bind ⟨0,fun n _=>y n⟩ .done))
  .unfold qeK;refine Ev.tt g (Ev.bind (qnP h d) ?_);simp only[d.mod,qw H,jd];exact Ev.bind J .done
  .unfold qbF;simp only[jd,t,l,s,o,d.mod,qw H];refine Ev.tt g (Ev.bind I (Ev.now ?_));rw[if_neg (by omega)]
 .have l:=qtY (ex:=ex) d.jl d.net_ d.half;have p:idx (viewE b ex).delays (net:Int)=V (exactL b net):=qja (f:=exactL b) d.nl;have A:(exactL b net).length=(gt b.Ac net).Bb.length:=by unfold exactL;rw[jt]
  have v:q<(exactL b net).length:=by rw[A];exact d.kl
  obtain⟨O,x1⟩:=qof h d.nl d.kl;obtain⟨f,R,f1,F,C⟩:=qrF K (kind:=x.Au) (mode:=mode);have P:=fun n=>qkO (n:=n) (a:=gt (exactL b net) q) (b:=1000) (mode:=mode) (by omega) (by omega) (by omega);obtain⟨Y,p1⟩:=qlt (a:=gt (exactL b net) q) (b:=1000) (mode:=mode) (M:=344000) (by omega) O (by omega);obtain⟨c1,y⟩:=qmb (mode:=mode) Y (by omega) (show 0<=f by omega) f1;have g:(x.Au==1)=false:=by rw[d.kind];rfl
  have hi:idx ((exactL b net).map fun x=>divI x 1000 mode) (q:Int)=V (divI (gt (exactL b net) q) 1000 mode):=by
   rw[qw (by rw[jt];exact v),qn5 v]
  obtain⟨u,N,_,J,I⟩:=qvp s0 s1 O x1 W;refine⟨⟨divI (divI (gt (exactL b net) q) 1000 mode*f) 1000 mode,?_,?_⟩,⟨if u<1000000 then u else 1000000,by split<;>omega,by split<;>omega,?_,?_⟩⟩
  .unfold qbq;refine Ev.ff g (Ev.bind (qlT h d) (Ev.bind (qjE h d.nl) ?_));simp only[d.ix,hi,jd,F];exact Ev.bind ⟨0,fun n _=>c1 n⟩ .done
  .unfold qcG;simp only[jd,t,l,p,d.ix,qw v,C];refine Ev.ff g (Ev.bind (b:=divI (gt (exactL b net) q) 1000 mode) ⟨0,fun n _=>(qr7 (m:=0)).trans (P 0)⟩ (Ev.bind ⟨0,fun n _=>y n⟩ .done))
  .have X:=qbL h d.nl;have B:=X.sin q d.kl;have T:=qng h d.nl;have Q:gt (exactL b net) q=gt (delaysL b net) (at0 (gt b.Ac net).Bb q).toNat:=by
    unfold exactL;rw[qeV (by rw[jt];exact d.kl),List.getElem_map,qiE d.kl]
   unfold qeK qmt;refine Ev.ff g (Ev.bind (qlT h d) ?_);simp only[d.ix,qw d.nl,jd,qaw d.kl];refine Ev.bind (b:=u) (Ev.bind (qop h d.nl) ?_) .done;rw[qf4 B.1 (show at0 (gt b.Ac net).Bb q<((delaysL b net).length:Int) by omega)];simp only[jd];rw[<-Q];exact J
  .unfold qbF;simp only[jd,t,l,p,d.ix,qw v];refine Ev.ff g (Ev.bind I (Ev.now ?_))
   congr 1
   split<;>split<;>omega
theorem qlg{b:qd}{c:qz}(h:blockB b=true)(g:cornerB c=true){k:Nat}(i:k<(linksL b).length){sl mode:Int}(s0:0<=sl)(s1:sl<=1000000)(l:mode=0\/mode=1) :
  (∃D:Int,Ev (fun n=>qbq n b c (gt (linksL b) k) sl mode) D/\∀ex,Ev (fun n=>qcG n (V (viewE b ex)) c (k:Int) sl mode) D) /\
  ∃S:Int,0<=S/\S<=1000000/\Ev (fun n=>qeK n b (gt (linksL b) k) sl mode) S/\∀ex,Ev (fun n=>qbF n (V (viewE b ex)) (k:Int) sl mode) S:=by
 obtain⟨⟨D,m,_⟩,⟨S,a,c',d,_⟩⟩:=qrW [] h g i s0 s1 l;refine⟨⟨D,m,fun ex=>?_⟩,⟨S,a,c',d,fun ex=>?_⟩⟩
 .obtain⟨⟨D',e1,f⟩,_⟩:=qrW ex h g i s0 s1 l;rw[m.uniq e1];exact f
 .obtain⟨_,⟨S',_,_,e1,f⟩⟩:=qrW ex h g i s0 s1 l;rw[d.uniq e1];exact f

def slR(s:qf):Prop:=(0<=s.Ak/\s.Ak<=1000000)/\(0<=s.As/\s.As<=1000000)
def SpansS(b:qd)(c:qz)(f:Nat->qf->qf×qf):Prop:=∀k s,k<(linksL b).length->slR s->slR (f k s).2/\Ev (fun n=>qf7 n b c (gt (linksL b) k) s) (f k s)
def SpansI(b:qd)(c:qz)(ex:List Int)(f:Nat->qf->qf×qf):Prop:=∀k s,k<(linksL b).length->slR s->slR (f k s).2/\Ev (fun n=>qg3 n (V (viewE b ex)) c (k:Int) s) (f k s)
def exK(b:qd)(ex:List Int)(k:Nat):Int:=bif (gt (linksL b) k).Au==2 then gt ex (gt (places b.Aa) ((gt (linksL b) k).To / 2).toNat).net.toNat else 0
def wideS(e:Int)(s:qf):qf:=⟨W64 (s.Ak-e),W64 (s.As+e)⟩
def wideF(b:qd)(ex:List Int)(f:Nat->qf->qf×qf)(k:Nat)(s:qf):qf×qf:=bif decide (0<ex.length)&&((gt (linksL b) k).Au==2) then(wideS (exK b ex k) (f k s).1,(f k s).2) else f k s
theorem qv8{b:qd}{c:qz}(h:blockB b=true)(D:cornerB c=true):∃f,SpansS b c f/\∀ex:List Int,ex.length=0\/ex.length=b.Ac.length->SpansI b c ex (wideF b ex f):=by
 have C:∀x:Nat×qf,∃r:qf×qf,x.1<(linksL b).length->slR x.2->slR r.2/\Ev (fun n=>qf7 n b c (gt (linksL b) x.1) x.2) r/\∀ex:List Int,ex.length=0\/ex.length=b.Ac.length->Ev (fun n=>qg3 n (V (viewE b ex)) c (x.1:Int) x.2) (wideF b ex (fun _ _=>r) x.1 x.2):=by
  rintro⟨k,s⟩;by_cases d:k<(linksL b).length/\slR s
  .obtain⟨d,⟨e0,e1⟩,⟨l0,l1⟩⟩:=d;obtain⟨⟨l,p1,Y⟩,⟨t,a1,b1,v1,w1⟩⟩:=qlg h D d e0 e1 (mode:=0) (.inl Z);obtain⟨⟨d2,T,e⟩,⟨u,a2,b2,v2,w2⟩⟩:=qlg h D d e0 e1 (mode:=1) (.inr Z);obtain⟨⟨o,W,q3⟩,⟨v,a3,b3,v3,w3⟩⟩:=qlg h D d l0 l1 (mode:=0) (.inl Z);obtain⟨⟨p,X,q4⟩,⟨y,a4,b4,v4,w4⟩⟩:=qlg h D d l0 l1 (mode:=1) (.inr Z);refine⟨(⟨if o<l then o else l,if p > d2 then p else d2⟩,⟨if v<t then v else t,if y > u then y else u⟩),fun _ _=>⟨⟨?_,?_⟩,?_,fun ex B=>?_⟩⟩
   .show 0<=(if v<t then v else t)/\(if v<t then v else t)<=1000000;split<;>omega
   .show 0<=(if y > u then y else u)/\(if y > u then y else u)<=1000000;split<;>omega
   .unfold qf7;exact Ev.bind p1 (Ev.bind T (Ev.bind v1 (Ev.bind v2 (Ev.bind W (Ev.bind X (Ev.bind v3 (Ev.bind v4 .done)))))))
   .unfold qg3;refine Ev.bind (Y ex) (Ev.bind (q3 ex) (Ev.bind (e ex) (Ev.bind (q4 ex) ?_)));have S:idx (viewE b ex).links (k:Int)=V (gt (linksL b) k):=qw d;have g:(viewE b ex).extras=ex:=rfl;simp only[jd,S,g];unfold wideF;have fin:∀r:Int×Int,Ev (fun n=>(qbF n (V (viewE b ex)) (k:Int) s.Ak 0).bind fun J=>(qbF n (V (viewE b ex)) (k:Int) s.As 0).bind fun K=>(qbF n (V (viewE b ex)) (k:Int) s.Ak 1).bind fun L=>(qbF n (V (viewE b ex)) (k:Int) s.As 1).bind fun M=>
      V ((⟨r.1,r.2⟩:qf),(⟨if K<J then K else J,if M > L then M else L⟩:qf))) ((⟨r.1,r.2⟩:qf),(⟨if v<t then v else t,if y > u then y else u⟩:qf)):=fun r=>Ev.bind (w1 ex) (Ev.bind (w3 ex) (Ev.bind (w2 ex) (Ev.bind (w4 ex) .done)))
    rw[show decide ((ex.length:Int) > 0)=decide (0<ex.length) by rw[decide_eq_decide];omega];cases hl:decide (0<ex.length)
    .exact Ev.bind (b:=false) (Ev.now Z) (Ev.bind (b:=(if o<l then o else l,if p > d2 then p else d2)) (Ev.now Z) (fin _))
    .cases hkd:(gt (linksL b) k).Au==2
     .exact Ev.bind (b:=false) (Ev.now Z) (Ev.bind (b:=(if o<l then o else l,if p > d2 then p else d2)) (Ev.now Z) (fin _))
     .obtain⟨H,_⟩:=qfe h (qia d);rcases H with⟨i,j,m,net,a,g⟩|⟨j,net,q,g⟩
      .rw[g.kind] at hkd;cases hkd
      .have Q:=qtY (ex:=ex) g.jl g.net_ g.half;have I:net<ex.length:=by
        have:=of_decide_eq_true hl;have:=g.nl;omega
       have P:=(qfe h (qia d)).2.2;have R:=qaW (qZ (qao h));have O:((gt (linksL b) k).To / 2).toNat=j:=by
        have:=g.half;rw[jD P.1,qP (by omega) (by omega)] at this;omega
       have N:exK b ex k=gt ex net:=by
        unfold exK;rw[hkd,O,g.net_,jq]
        rfl
       refine Ev.bind (b:=true) (Ev.now Z) (Ev.bind (b:=(W64 ((if o<l then o else l)-gt ex net),W64 ((if p > d2 then p else d2)+gt ex net))) ?_ ?_)
       .simp only[Q,jd,qw I];exact .done
       .rw[N];exact fin _
  .exact⟨(s,s),fun z A=>absurd ⟨z,A⟩ d⟩
 obtain⟨f,F⟩:=Classical.axiomOfChoice C;exact⟨fun k s=>f (k,s),fun k s z A=>⟨(F (k,s) z A).1,(F (k,s) z A).2.1⟩,fun ex B k s z A=>⟨by
  have:=(F (k,s) z A).1;unfold wideF;cases decide (0<ex.length)&&((gt (linksL b) k).Au==2)<;>exact this,(F (k,s) z A).2.2 ex B⟩⟩
def zSp:qf:=⟨0,0⟩
def zSrc:qg:=⟨0,zSp,zSp⟩
def hullS(s t:qf):qf:=⟨if t.Ak<s.Ak then t.Ak else s.Ak,if t.As > s.As then t.As else s.As⟩
theorem qrw{s t:qf}:(⟨if s.Ak<t.Ak then s.Ak else t.Ak,if s.As > t.As then s.As else t.As⟩:qf)=hullS s t:=by
 unfold hullS
 congr 1
 .split<;>split<;>omega
 .split<;>split<;>omega
def plusS(s t:qf):qf:=⟨W64 (s.Ak+t.Ak),W64 (s.As+t.As)⟩
def joinS(node:Int)(s:Bool×qg)(ar sl:qf):Bool×qg:=bif s.1 then(true,⟨node,hullS s.2.Af ar,hullS s.2.Av sl⟩) else(true,⟨node,ar,sl⟩)
def frN(ls:List qv)(k:Nat):Nat:=(gt ls k).Bd.toNat
def stepS(f:Nat->qf->qf×qf)(ls:List qv)(t:qi)(node:Int)(s:Bool×qg)(k:Nat):Bool×qg:=
 bif gt t.Aq (frN ls k) then joinS node s (plusS (gt t.Af (frN ls k)) (f k (gt t.Av (frN ls k))).1) (f k (gt t.Av (frN ls k))).2 else s
def toQ(ls:List qv)(lv:List Bool)(node:Int)(k:Nat):Bool:=lvL lv k&&(toL ls k==node)
def srcO(xs:List qg)(node:Int):Option qg:=xs.find? fun s=>s.Bi==node
def srcV(o:Option qg):Bool×qg:=match o with|some y=>(true,y)|none=>(false,zSrc)
def ndS(f:Nat->qf->qf×qf)(ls:List qv)(lv:List Bool)(t:qi)(node:Int)(s0:Bool×qg):Nat->Bool×qg
 |0=>s0
 |k+1=>bif toQ ls lv node k then stepS f ls t node (ndS f ls lv t node s0 k) k else ndS f ls lv t node s0 k
theorem qwl{f:Nat->qf->qf×qf}{ls:List qv}{lv:List Bool}{t:qi}{node:Int}{s0:Bool×qg}{j:Nat}:(selN (toQ ls lv node) j).foldl (stepS f ls t node) s0=ndS f ls lv t node s0 j:=by
 induction j with
 |zero=>rfl
 |succ j ih=>
  rw[qhL,List.foldl_append,ih];show _=bif toQ ls lv node j then stepS f ls t node (ndS f ls lv t node s0 j) j else ndS f ls lv t node s0 j;cases toQ ls lv node j<;>rfl
structure TmOk(t:qi)(M:Nat):Prop where
 r:t.Aq.length=M
 a:t.Af.length=M
 s:t.Av.length=M
 sl:∀k,k<M->slR (gt t.Av k)
structure SrcOk(xs:List qg):Prop where
 len:xs.length<=1048576
 inc:∀j i,i<j->j<xs.length->(gt xs i).Bi<(gt xs j).Bi
 sl:∀x,x∈xs->slR x.Av
theorem qwh{xs:List qg}{node:Int}(g:xs.length<=1048576):Ev (fun n=>qjM n xs node) ((srcV (srcO xs node)).2,(srcV (srcO xs node)).1):=by
 have c:Ev (fun n=>qaT n xs node) (ixL (fun s=>s.Bi==node) xs):=
  qfj (fin:=(xs.length:Int)) (Lf:=qab xs node) (xs:=xs) (pf:=fun n x=>qkg n x node) (fun _ _=>.done)
   (fun n=>by simp only[qab,qq (je _),cond_false])
   (fun n j x b=>by
    have a:=(List.getElem?_eq_some_iff.1 b).1;simp only[qab,qp a,cond_true,qgC b,jd,wS j])
   (fun n=>by unfold qaT;congr 1;funext o;cases o<;>rfl)
 unfold qjM;refine Ev.bind c ?_;unfold ixL srcO;cases hf:xs.findIdx? (fun s=>s.Bi==node) with
 |none=>
  have:xs.find? (fun s=>s.Bi==node)=U:=by
   rw[List.find?_eq_none];intro x b;have:=List.findIdx?_eq_none_iff.1 hf x b;simpa using this
  rw[this];exact Ev.ff Z .done
 |some j=>
  obtain⟨a,f,d⟩:=List.findIdx?_eq_some_iff_getElem.1 hf;have:xs.find? (fun s=>s.Bi==node)=V xs[j]:=by
   rw[List.find?_eq_some_iff_getElem];exact⟨f,j,a,rfl,fun i hi=>by have:=d i hi;simpa using this⟩
  rw[this];refine Ev.tt (show decide ((j:Int)>=0)=true from decide_eq_true (by omega)) ?_;show Ev (fun n=>(idx xs (j:Int)).bind _) _;rw[qaZ a];exact .done
theorem ql4{xs:List qg}{node:Int}{y:qg}(h:srcO xs node=V y):y.Bi=node/\y∈xs:=by
 have a:=List.find?_some h;exact⟨by simpa using a,List.mem_of_find?_eq_some h⟩
theorem qw4{xs:List qg}{node:Int}(h:SrcOk xs) :
  Ev (fun n=>qdq xs node n 0 0 0 0 0 false 0) ((srcV (srcO xs node)).2.Bi,(srcV (srcO xs node)).2.Af.Ak,(srcV (srcO xs node)).2.Af.As,(srcV (srcO xs node)).2.Av.Ak,(srcV (srcO xs node)).2.Av.As,(srcV (srcO xs node)).1,(xs.length:Int)):=by
 have g:=h.len;have:=loopF (τ:=Bool×qg) (Lf:=fun n s j=>qdq xs node n s.2.Bi s.2.Af.Ak s.2.Af.As s.2.Av.Ak s.2.Av.As s.1 j) (S:=fun j=>srcV (srcO (xs.take j) node)) (len:=xs.length)
  (fin:=((srcV (srcO xs node)).2.Bi,(srcV (srcO xs node)).2.Af.Ak,(srcV (srcO xs node)).2.Af.As,(srcV (srcO xs node)).2.Av.Ak,(srcV (srcO xs node)).2.Av.As,(srcV (srcO xs node)).1,(xs.length:Int)))
  (fun n=>by simp only[qdq,qq (je _),cond_false,jG])
  (fun j a X c=>by
   simp only[qdq,qp a,cond_true,qw a,jd,wS j];have e:srcO (xs.take (j+1)) node=(srcO (xs.take j) node).or (bif (gt xs j).Bi==node then V (gt xs j) else U):=by
    unfold srcO;rw[jC a,List.find?_append,<-qeV a]
    congr 1
   cases hq:(gt xs j).Bi==node
   .rw[hq] at e;have e:srcO (xs.take (j+1)) node=srcO (xs.take j) node:=by rw[e];cases srcO (xs.take j) node<;>rfl
    rw[e] at c;exact c
   .rw[hq] at e;have d:srcO (xs.take j) node=U:=by
     unfold srcO;rw[List.find?_eq_none];intro x f b;obtain⟨i,hi,rfl⟩:=List.mem_iff_getElem.1 f;rw[jM] at hi;rw[List.getElem_take,<-qeV (by omega)] at b;have:=h.inc j i (by omega) a;simp only[beq_iff_eq] at hq b;omega
    have e:srcO (xs.take (j+1)) node=V (gt xs j):=by rw[e,d];rfl
    rw[e] at c;exact c)
 exact this
theorem qsc{ls:List qv}{M:Nat}(h:LkOk ls M){k:Nat}(a:k<ls.length):(gt ls k).Bd=(frN ls k:Int)/\frN ls k<M:=by
 have b:=h.fr0 k a;have c:=h.fr1 k a;unfold frN;omega
section
variable{b:qd}{c:qz}{ex:List Int}{f:Nat->qf->qf×qf}{lv:List Bool}{t:qi}{xs:List qg}{node:Int}
theorem qyo{ls:List qv}{M:Nat}{ps:List Tplace}{lo:List Int}{de:List (List Int)}{ex:List Int}(h:LkOk ls M)(k:lv.length=ls.length):Ev (fun n=>qjP n (grV ls lv ps b lo de ex) node) (ints (selN (toQ ls lv node) ls.length)):=by
 have g:=h.len;have f:Ev (fun n=>qT node ⟨V ⟨b,ps,ls,lo,de,ex⟩,lv⟩ ⟨b,ps,ls,lo,de,ex⟩ n ([]:List Int) 0) (ints (selN (toQ ls lv node) ls.length),(ls.length:Int)):=by
  refine qkG (q:=toQ ls lv node) (Lf:=qT node ⟨V ⟨b,ps,ls,lo,de,ex⟩,lv⟩ ⟨b,ps,ls,lo,de,ex⟩) (len:=ls.length) (by omega) (Ev.succ ?_) (fun j d t i X c a=>?_)
  .simp only[qT,qq (je _),cond_false];exact .done
  .simp only[qT,qp d,cond_true,qw d,qw (show j<lv.length by omega),jd,qkc,i,wS j];unfold toQ lvL toL at c a;cases hq:gt lv j
   .simp only[cond_false];exact a (by rw[hq];rfl)
   .simp only[cond_true];cases hw:(gt ls j).To==node
    .simp only[cond_false];exact a (by rw[hq,hw];rfl)
    .simp only[cond_true];exact c (by rw[hq,hw];rfl)
 unfold qjP qcX grV;simp only[jd];exact Ev.bind (Ev.bind f .done) .done
def fixS(node:Int)(s:Bool×qg):Bool×qg:=bif s.1 then s else(false,⟨node,zSp,zSp⟩)
theorem qvu(h:blockB b=true)(H:SpansI b c ex f)(J:lv.length=(linksL b).length)(u:TmOk t (2*(places b.Aa).length))(N:xs.length<=1048576) :
  Ev (fun n=>qd0 n (V ⟨V (viewE b ex),lv⟩) c xs t node) (ndS f (linksL b) lv t node (srcV (srcO xs node)) (linksL b).length):=by
 have x:=qkI h;have I:=x.len;have C:=qgv (q:=toQ (linksL b) lv node) (j:=(linksL b).length);have K:∀j,(ndS f (linksL b) lv t node (srcV (srcO xs node)) j).1=true->(ndS f (linksL b) lv t node (srcV (srcO xs node)) j).2.Bi=node:=by
  intro j
  induction j with
  |zero=>
   show(srcV (srcO xs node)).1=true->(srcV (srcO xs node)).2.Bi=node;cases d:srcO xs node with
   |none=>intro e;cases e
   |some y=>exact fun _=>(ql4 d).1
  |succ j ih=>
   unfold ndS;cases toQ (linksL b) lv node j
   .exact ih
   .simp only[cond_true];unfold stepS;cases gt t.Aq (frN (linksL b) j)
    .exact ih
    .simp only[cond_true];unfold joinS;cases (ndS f (linksL b) lv t node (srcV (srcO xs node)) j).1<;>exact fun _=>rfl
 have O:∀j,(ndS f (linksL b) lv t node (srcV (srcO xs node)) j).1=false->(ndS f (linksL b) lv t node (srcV (srcO xs node)) j).2=zSrc:=by
  intro j
  induction j with
  |zero=>
   show(srcV (srcO xs node)).1=false->(srcV (srcO xs node)).2=zSrc;cases srcO xs node with
   |none=>exact fun _=>rfl
   |some y=>intro e;cases e
  |succ j ih=>
   unfold ndS;cases toQ (linksL b) lv node j
   .exact ih
   .simp only[cond_true];unfold stepS;cases gt t.Aq (frN (linksL b) j)
    .exact ih
    .simp only[cond_true];unfold joinS;cases (ndS f (linksL b) lv t node (srcV (srcO xs node)) j).1<;>(intro e;cases e)
 have D:∀(l:List Nat) (s:Bool×qg),(∀k,k∈l->toQ (linksL b) lv node k=true)->l.foldl (fun s k=>fixS node (stepS f (linksL b) t node s k)) (fixS node s)=fixS node (l.foldl (stepS f (linksL b) t node) s):=by
  intro l
  induction l with
  |nil=>intro s _;rfl
  |cons k l ih=>
   intro s L;have e:fixS node (stepS f (linksL b) t node (fixS node s) k)=fixS node (stepS f (linksL b) t node s k):=by
    unfold stepS;obtain⟨s1,s2⟩:=s;cases gt t.Aq (frN (linksL b) k)<;>cases s1<;>rfl
   rw[List.foldl_cons,List.foldl_cons,e];exact ih _ fun P g=>L P (jp _ g)
 have B:=(qvo (τ:=Bool×qg) (xs:=selN (toQ (linksL b) lv node) (linksL b).length) (Lf:=fun n s j=>qbG (V ⟨V (viewE b ex),lv⟩) c t (ints (selN (toQ (linksL b) lv node) (linksL b).length)) n s.1 s.2.Bi s.2.Af.Ak s.2.Af.As s.2.Av.Ak s.2.Av.As j)
  (step:=fun s k=>fixS node (stepS f (linksL b) t node s k)) (fin:=fun s=>(s.1,s.2.Bi,s.2.Af.Ak,s.2.Af.As,s.2.Av.Ak,s.2.Av.As,((ints (selN (toQ (linksL b) lv node) (linksL b).length)).length:Int))) (fixS node (srcV (srcO xs node))) (fun _ s=>s=fixS node s/\s.2.Bi=node) (by
   constructor
   .unfold fixS;cases d:(srcV (srcO xs node)).1
    .rfl
    .simp only[d,cond_true]
   .unfold fixS;cases d:srcO xs node with
    |none=>rfl
    |some y=>exact(ql4 d).1)
  (fun j s p d=>by
   obtain⟨Q,F⟩:=d;have A:(stepS f (linksL b) t node s (selN (toQ (linksL b) lv node) (linksL b).length)[j]).2.Bi=node:=by
    unfold stepS;cases gt t.Aq (frN (linksL b) (selN (toQ (linksL b) lv node) (linksL b).length)[j])
    .exact F
    .unfold joinS;cases s.1<;>rfl
   constructor
   .unfold fixS;cases d:(stepS f (linksL b) t node s (selN (toQ (linksL b) lv node) (linksL b).length)[j]).1
    .rfl
    .simp only[d,cond_true]
   .unfold fixS;cases d:(stepS f (linksL b) t node s (selN (toQ (linksL b) lv node) (linksL b).length)[j]).1
    .rfl
    .exact A)
  (fun n s=>by simp only[qbG,qbE,qq (je _),cond_false])
  (fun j s p d X a=>by
   obtain⟨v,i⟩:=d;have hi:=qoS p;have r:(selN (toQ (linksL b) lv node) (linksL b).length)[j]<(linksL b).length:=(qcd.1 (jo p)).1;generalize (selN (toQ (linksL b) lv node) (linksL b).length)[j]=k at hi r a;obtain⟨e1,m⟩:=qsc x r;have M:idx (viewE b ex).links (k:Int)=V (gt (linksL b) k):=qw r;simp only[qbG,qbE,qp p,cond_true,hi,M,jd,e1,qw (show frN (linksL b) k<t.Aq.length by rw[u.r];exact m),qw (show frN (linksL b) k<t.Af.length by rw[u.a];exact m),qw (show frN (linksL b) k<t.Av.length by rw[u.s];exact m),wS j];unfold stepS at a;cases h3:gt t.Aq (frN (linksL b) k)
   .rw[h3] at a;simp only[cond_false] at a;rw[<-v] at a;exact a
   rw[h3] at a;simp only[cond_true] at a⊢;obtain⟨_,s1⟩:=H k _ r (u.sl _ m);refine Ev.bind s1 ?_;generalize f k (gt t.Av (frN (linksL b) k))=q at a⊢;simp only[qk0,jd];unfold joinS at a;unfold qdM;cases h4:s.1
   .rw[h4] at a;simp only[Bool.not_false,cond_true,jd];unfold fixS at a;simp only[cond_false,cond_true] at a;rw[i];exact a
   .rw[h4] at a;simp only[Jh,cond_false,qhl,jd];unfold fixS at a;simp only[cond_true] at a;rw[i];exact a)).1
 rw[D _ _ (fun k g=>(qcd.1 g).2),qwl] at B;unfold qd0;refine Ev.bind (qwh N) ?_;have e0:(bif (srcV (srcO xs node)).1 then(qdM 0 ⟨node,⟨0,0⟩,⟨0,0⟩⟩ false ⟨(srcV (srcO xs node)).2.Af.Ak,(srcV (srcO xs node)).2.Af.As⟩ ⟨(srcV (srcO xs node)).2.Av.Ak,(srcV (srcO xs node)).2.Av.As⟩).bind (fun(x9,x10)=>V (x10,x9.Bi,x9.Af.Ak,x9.Af.As,x9.Av.Ak,x9.Av.As)) else V (false,node,(0:Int),(0:Int),(0:Int),(0:Int))) =
   V ((fixS node (srcV (srcO xs node))).1,(fixS node (srcV (srcO xs node))).2.Bi,(fixS node (srcV (srcO xs node))).2.Af.Ak,(fixS node (srcV (srcO xs node))).2.Af.As,(fixS node (srcV (srcO xs node))).2.Av.Ak,(fixS node (srcV (srcO xs node))).2.Av.As):=by
  cases d:srcO xs node with
  |none=>rfl
  |some y=>
   have:=(ql4 d).1;unfold fixS srcV;simp only[cond_true,this]
   rfl
 refine Ev.bindN e0 (Ev.bind (qyo (ps:=places b.Aa) (lo:=pre (load0 b) b.Ac.length) (de:=pre (exactL b) b.Ac.length) (ex:=ex) x J) (Ev.bind B ?_));have z:=O (linksL b).length;generalize ndS f (linksL b) lv t node (srcV (srcO xs node)) (linksL b).length=s at z⊢;unfold fixS;obtain⟨s1,s2⟩:=s;cases s1
 .have:=z Z;simp only at this;subst this;exact .done
 .exact .done
end

theorem qlc{b:qd}(h:blockB b=true):Ev (fun n=>qf9 n b) ((2*(places b.Aa).length:Nat):Int):=by
 have a:=qZ (qao h);have c:=qaW a;unfold qf9;refine Ev.bind (b:=(places b.Aa).map toSp) (qhB a) (Ev.now ?_);rw[jt,qP (by omega) (by omega)]
 rfl
theorem qsV{v:Tview}(a:v.places.length<=78)(n:Nat):qdp n (V v)=V ((2*v.places.length:Nat):Int):=by
 unfold qdp qeH;simp only[jd];rw[qP (by omega) (by omega)]
 rfl
def stepN(xs:List qg)(j:Nat):Bool:=decide (j=0) || decide ((gt xs (j-1)).Bi<(gt xs j).Bi)
def srcB(xs:List qg)(M:Nat):Bool:=allN (fun j=>inI (gt xs j).Bi 0 ((M:Int)-1)&&(stepN xs j&&(spanB (gt xs j).Af&&slewB (gt xs j).Av))) xs.length
theorem qqj{xs:List qg}{j:Nat}(h:j≠0):stepN xs j=decide ((gt xs (j-1)).Bi<(gt xs j).Bi):=by unfold stepN;rw[decide_eq_false h,Jj]
theorem qrf{b:qd}{xs:List qg}(h:blockB b=true)(m:xs.length<=1048576):Ev (fun n=>qgZ n b xs) (srcB xs (2*(places b.Aa).length)):=by
 have k:=qaW (qZ (qao h));have e:=qlc h;obtain⟨M,g⟩:∃M,M=2*(places b.Aa).length:=⟨_,rfl⟩;rw[<-g] at e⊢;have l:M<=156:=by omega
 have i:Ev (fun n=>qcf xs (M:Int) n 0) (bif srcB xs M then .nxt (xs.length:Int) else .ret false):=by
  refine qeo (Lf:=qcf xs (M:Int)) (len:=xs.length) (Ev.succ (by simp only[qcf,qq (je _),cond_false];exact .done)) (fun j f X d=>Ev.succ ?_);simp only[qcf,qp f,cond_true,qw f,jd,qc1,qqD,qsB,wS j,wO ((M:Int)-1)];cases inI (gt xs j).Bi 0 ((M:Int)-1)
  .exact .done
  refine Ev.ff Z ?_;by_cases c:j=0
  .subst c;refine Ev.ff Z ?_;show Ev _ (bif (stepN xs 0&&_) then X else _);rw[show stepN xs 0=true from rfl];show Ev (fun n=>bif !spanB (gt xs 0).Af then _ else bif !slewB (gt xs 0).Av then _ else _) _;cases spanB (gt xs 0).Af
   .exact .done
   .cases slewB (gt xs 0).Av
    .exact .done
    .exact d
  .refine Ev.tt (decide_eq_true (by omega)) ?_;rw[show(j:Int)-1=((j-1:Nat):Int) by omega,qP (by omega) (by omega),qw (show j-1<xs.length by omega),qqj c];simp only[jd];by_cases a:(gt xs (j-1)).Bi<(gt xs j).Bi
   .rw[decide_eq_true a];refine Ev.ff (decide_eq_false (by omega)) ?_;show Ev (fun n=>bif !spanB (gt xs j).Af then _ else bif !slewB (gt xs j).Av then _ else _) _;cases spanB (gt xs j).Af
    .exact .done
    .cases slewB (gt xs j).Av
     .exact .done
     .exact d
   .rw[decide_eq_false a];exact Ev.tt (decide_eq_true (by omega)) .done
 unfold qgZ;refine Ev.bind e (Ev.bind i ?_);cases srcB xs M<;>exact .done
theorem qq3{v:Tview}{xs:List qg}(h:v.places.length<=78)(k:xs.length<=1048576):Ev (fun n=>qd2 n (V v) xs) (srcB xs (2*v.places.length)):=by
 have e:=qsV h;obtain⟨M,f⟩:∃M,M=2*v.places.length:=⟨_,rfl⟩;rw[<-f] at e⊢;have i:M<=156:=by omega
 have g:Ev (fun n=>qa8 (V v) xs n 0) (bif srcB xs M then .nxt (xs.length:Int) else .ret false):=by
  refine qeo (Lf:=qa8 (V v) xs) (len:=xs.length) (Ev.succ (by simp only[qa8,qq (je _),cond_false];exact .done)) (fun j d X c=>Ev.succ ?_);simp only[qa8,qp d,cond_true,qw d,jd,qjy,e,qdR,qpt,qsw,wS j,wO ((M:Int)-1)];cases inI (gt xs j).Bi 0 ((M:Int)-1)
  .exact .done
  refine Ev.ff Z ?_;show Ev (fun n=>bif !spanB (gt xs j).Af then _ else bif !slewB (gt xs j).Av then _ else _) _;rw[jy,Bool.and_comm];cases spanB (gt xs j).Af
  .exact .done
  .cases slewB (gt xs j).Av
   .exact .done
   .refine Ev.ff Z (Ev.ff Z ?_);rw[jy,jy];by_cases b:j=0
    .subst b;exact Ev.ff Z c
    .refine Ev.tt (decide_eq_true (by omega)) ?_;rw[show(j:Int)-1=((j-1:Nat):Int) by omega,qP (by omega) (by omega),qw (show j-1<xs.length by omega),qqj b];simp only[jd];by_cases a:(gt xs (j-1)).Bi<(gt xs j).Bi
     .rw[decide_eq_true a];exact Ev.ff (decide_eq_false (by omega)) c
     .rw[decide_eq_false a];exact Ev.tt (decide_eq_true (by omega)) .done
 unfold qd2;refine Ev.bind g ?_;cases srcB xs M<;>exact .done
theorem qqh{xs:List qg}{M:Nat}(f:xs.length<=1048576)(h:srcB xs M=true):SrcOk xs:=by
 unfold srcB at h;rw[qai] at h;refine⟨f,fun j=>?_,fun x g=>?_⟩
 .induction j with
  |zero=>intro i hi _;omega
  |succ j ih=>
   intro i hi d;have a:=h (j+1) d;rw[qqj (by omega)] at a;simp only[jf,decide_eq_true_eq,Nat.add_sub_cancel] at a;have c:=a.2.1;by_cases b:i=j
   .rw[b];exact c
   .have:=ih i (by omega) (by omega);omega
 .obtain⟨i,hi,rfl⟩:=List.mem_iff_getElem.1 g;have a:=h i hi;rw[<-qeV hi];simp only[jf] at a;have:=a.2.2.2;unfold slewB at this;simp only[jf,decide_eq_true_eq] at this;exact⟨⟨this.1,by omega⟩,by omega,this.2.2⟩
section
variable{L:Nat}{fr to:Nat->Int}{lv:Nat->Bool}{n:Nat}
def OrdOk(L:Nat)(fr to:Nat->Int)(lv:Nat->Bool)(n:Nat)(R:List Nat):Prop:=∀l1 k l2,R=l1++k::l2->k<n/\k∉l1/\inN L fr to lv l1 k=0
theorem OrdOk.snoc{R:List Nat}{k:Nat}(h:OrdOk L fr to lv n R)(d:nxtN L fr to lv n R=V k):OrdOk L fr to lv n (R++[k]):=by
 intro l1 a l2 e;rcases List.eq_nil_or_concat l2 with rfl|⟨l2',z,rfl⟩
 .obtain⟨rfl,c⟩:=List.append_inj' e Z;obtain rfl:k=a:=by simpa using c
  exact qo6 d
 .have b:R++[k]=(l1++a::l2')++[z]:=by rw[e];simp
  obtain⟨e1,_⟩:=List.append_inj' b Z;exact h l1 a l2' e1
theorem qwE:∀m R R',OrdOk L fr to lv n R->ordN L fr to lv n m R=V R'->OrdOk L fr to lv n R':=by
 intro m
 induction m with
 |zero=>intro R R' h e;obtain rfl:=Option.some.inj e;exact h
 |succ m ih=>
  intro R R' h e;unfold ordN at e;cases hn:nxtN L fr to lv n R with
  |none=>rw[hn] at e;cases e
  |some k=>
   rw[hn] at e;exact ih _ _ (h.snoc hn) e
theorem OrdOk.at{R:List Nat}(h:OrdOk L fr to lv n R){j:Nat}(a:j<R.length):R[j]<n/\R[j]∉R.take j/\inN L fr to lv (R.take j) R[j]=0:=by
 refine h (R.take j) R[j] (R.drop (j+1)) ?_;rw[<-jV a,List.take_append_drop]
end
theorem qo2{α:Type}[Inhabited α]{xs:List α}{k:Nat}{v:α}(a:k<xs.length)(h:gt xs k=v):setS xs (k:Int) v=xs:=by
 unfold setS;rw[jq,<-h,qeV a];exact List.set_getElem_self a
theorem qef{α:Type}[Inhabited α]{xs:List α}{a k:Nat}{y:α}(b:a<xs.length):gt (setS xs (a:Int) y) k=if k=a then y else gt xs k:=by
 unfold setS;rw[jq];by_cases h:k=a
 .subst h;rw[if_pos Z,qpR b]
 .rw[if_neg h,qrQ h]
def setT(t:qi)(k:Nat)(s:Bool×qg):qi:=⟨setS t.Aq (k:Int) s.1,setS t.Af (k:Int) s.2.Af,setS t.Av (k:Int) s.2.Av⟩
theorem qnN{t:qi}{M k:Nat}{s:Bool×qg}(h:TmOk t M)(c:k<M)(d:slR s.2.Av):TmOk (setT t k s) M where
 r:=by show(setS _ _ _).length=_;rw[qaY];exact h.r
 a:=by show(setS _ _ _).length=_;rw[qaY];exact h.a
 s:=by show(setS _ _ _).length=_;rw[qaY];exact h.s
 sl:=fun j b=>by
  show slR (gt (setS _ _ _) j);rw[qef (by rw[h.s];exact c)];split
  .exact d
  .exact h.sl j b
def Bare(t:qi)(M:Nat)(l:List Nat):Prop:=∀k,k<M->k∉l->gt t.Aq k=false/\gt t.Af k=zSp/\gt t.Av k=zSp
def zT:qi:=⟨[],[],[]⟩
theorem qvT:slR zSp:=by unfold slR zSp;exact⟨⟨jU _,by show(0:Int)<=_;omega⟩,jU _,by show(0:Int)<=_;omega⟩
theorem qxb{s t:qf}(a:slR s)(b:slR t):slR (hullS s t):=by
 obtain⟨⟨a1,a2⟩,c,d⟩:=a;obtain⟨⟨b1,b2⟩,b3,f⟩:=b;refine⟨⟨?_,?_⟩,?_,?_⟩
 .show(0:Int)<=(if t.Ak<s.Ak then t.Ak else s.Ak);split<;>assumption
 .show(if t.Ak<s.Ak then t.Ak else s.Ak)<=1000000;split<;>assumption
 .show(0:Int)<=(if t.As > s.As then t.As else s.As);split<;>assumption
 .show(if t.As > s.As then t.As else s.As)<=1000000;split<;>assumption
section
variable{b:qd}{c:qz}{ex:List Int}{f g:Nat->qf->qf×qf}{lv:List Bool}{t:qi}{xs:List qg}{node:Int}
theorem qkJ(h:blockB b=true)(m:SpansS b c g)(i:∀k s,(f k s).2=(g k s).2)(n:TmOk t (2*(places b.Aa).length))(o:SrcOk xs):∀j,j<=(linksL b).length->slR (ndS f (linksL b) lv t node (srcV (srcO xs node)) j).2.Av:=by
 intro j
 induction j with
 |zero=>
  intro _;show slR (srcV (srcO xs node)).2.Av;cases hs:srcO xs node with
  |none=>exact qvT
  |some y=>exact o.sl y (ql4 hs).2
 |succ j a=>
  intro p;have a:=a (by omega);obtain⟨_,l⟩:=qsc (qkI h) (show j<(linksL b).length by omega);have d:=(m j _ (show j<(linksL b).length by omega) (n.sl _ l)).1;rw[<-i] at d;show slR (bif toQ (linksL b) lv node j then stepS f (linksL b) t node (ndS f (linksL b) lv t node (srcV (srcO xs node)) j) j else ndS f (linksL b) lv t node (srcV (srcO xs node)) j).2.Av;cases toQ (linksL b) lv node j
  .exact a
  .simp only[cond_true];unfold stepS;cases gt t.Aq (frN (linksL b) j)
   .exact a
   .simp only[cond_true];unfold joinS;cases (ndS f (linksL b) lv t node (srcV (srcO xs node)) j).1
    .exact d
    .exact qxb a d
theorem qwP:∀j,(ndS f (linksL b) lv t node (srcV (srcO xs node)) j).1=false->(ndS f (linksL b) lv t node (srcV (srcO xs node)) j).2=zSrc:=by
 intro j
 induction j with
 |zero=>
  show(srcV (srcO xs node)).1=false->(srcV (srcO xs node)).2=zSrc;cases srcO xs node with
  |none=>exact fun _=>rfl
  |some y=>intro e;cases e
 |succ j ih=>
  unfold ndS;cases toQ (linksL b) lv node j
  .exact ih
  .simp only[cond_true];unfold stepS;cases gt t.Aq (frN (linksL b) j)
   .exact ih
   .simp only[cond_true];unfold joinS;cases (ndS f (linksL b) lv t node (srcV (srcO xs node)) j).1<;>(intro e;cases e)
def runR(o:Option qi):qi×Bool:=match o with|some t=>(t,true)|none=>(zT,false)
def rnO(f:Nat->qf->qf×qf)(ls:List qv)(lv:List Bool)(xs:List qg):List Nat->qi->Option qi
 | [],t=>V t
 |k::R,t=>bif (ndS f ls lv t (k:Int) (srcV (srcO xs (k:Int))) ls.length).1 then bif spanB (ndS f ls lv t (k:Int) (srcV (srcO xs (k:Int))) ls.length).2.Af then rnO f ls lv xs R (setT t k (ndS f ls lv t (k:Int) (srcV (srcO xs (k:Int))) ls.length)) else U else rnO f ls lv xs R t
def zTm(M:Nat):qi:=⟨List.replicate M false,List.replicate M zSp,List.replicate M zSp⟩
theorem qq0{α:Type}[Inhabited α]{v:α}{M k:Nat}(a:k<M):gt (List.replicate M v) k=v:=by rw[qeV (by rw[jH];exact a)];simp
theorem qog{M:Nat}:TmOk (zTm M) M:=⟨jH,jH,jH,fun k a=>by
 show slR (gt (List.replicate M zSp) k);rw[qq0 a];exact qvT⟩
theorem qvw{M:Nat}{l:List Nat}:Bare (zTm M) M l:=fun _ a _=>⟨qq0 a,qq0 a,qq0 a⟩
def runL(o:Option qi)(m:Nat):Flow (qi×Bool) (List qf×List qf×List Bool×Int):=match o with|some t'=>.nxt (t'.Av,t'.Af,t'.Aq,(m:Int))|none=>.ret (zT,false)
theorem qsq(h:blockB b=true)(hg:SpansS b c g)(H:∀k s,(f k s).2=(g k s).2)(hf:SpansI b c ex f)(hl:lv.length=(linksL b).length)(P:SrcOk xs){R:List Nat}(Y:∀j,∀O:j<R.length,R[j]<2*(places b.Aa).length/\R[j]∉R.take j)(a3:R.length<=1000) :
  Ev (fun n=>qbi n (V ⟨V (viewE b ex),lv⟩) c xs (ints R)) (runR (rnO f (linksL b) lv xs R (zTm (2*(places b.Aa).length)))):=by
 have L:=qaW (qZ (qao h));have r:=qsV (v:=viewE b ex) L;have D:(viewE b ex).places.length=(places b.Aa).length:=rfl;rw[D] at r;obtain⟨M,B⟩:∃M,M=2*(places b.Aa).length:=⟨_,rfl⟩;have hM:M<=156:=by omega
 have A:∀d j t,j+d=R.length->TmOk t M->Bare t M (R.take j)->Ev (fun n=>qa9 (V ⟨V (viewE b ex),lv⟩) c xs (ints R) n t.Av t.Af t.Aq (j:Int)) (runL (rnO f (linksL b) lv xs (R.drop j) t) R.length):=by
  intro d
  induction d with
  |zero=>
   intro j t O a _;obtain rfl:j=R.length:=by omega
   rw[List.drop_length];refine Ev.succ ?_;simp only[qa9,qbE,qq (je _),cond_false];exact .done
  |succ d ih=>
   intro j t O a F;have m:j<R.length:=by omega
   obtain⟨l,S⟩:=Y j m;have hi:=qoS m;have x:R.take (j+1)=R.take j++[R[j]]:=jC m;have N:R.drop j=R[j]::R.drop (j+1):=jV m;generalize R[j]=k at l S hi x N;rw[<-B] at l;have C:=qvu (node:=(k:Int)) h hf hl (by rw[<-B];exact a) P.len;have z:=qkJ (node:=(k:Int)) (lv:=lv) h hg H (by rw[<-B];exact a) P (linksL b).length (je _);have Q:=qwP (f:=f) (b:=b) (lv:=lv) (t:=t) (xs:=xs) (node:=(k:Int)) (linksL b).length;obtain⟨b1,b2,b3⟩:=F k l S;have ir:idx t.Aq (k:Int)=V (gt t.Aq k):=qw (by rw[a.r];exact l);have ia:idx t.Af (k:Int)=V (gt t.Af k):=qw (by rw[a.a];exact l);have is:idx t.Av (k:Int)=V (gt t.Av k):=qw (by rw[a.s];exact l);have y:∀n,qa9 (V ⟨V (viewE b ex),lv⟩) c xs (ints R) (n+1) t.Av t.Af t.Aq (j:Int)=(qd0 n (V ⟨V (viewE b ex),lv⟩) c xs t (k:Int)).bind fun(r3,r4)=>(bif r3 then V (!spanB r4.Af) else V false).bind fun b3=>bif b3 then V (.ret (zT,false)) else
     qa9 (V ⟨V (viewE b ex),lv⟩) c xs (ints R) n (setS t.Av (k:Int) r4.Av) (setS t.Af (k:Int) r4.Af) (setS t.Aq (k:Int) r3) ((j+1:Nat):Int):=fun n=>by
    simp only[qa9,qbE,qp m,cond_true,hi,jd,qpt,ir,ia,is,wS j]
    rfl
   rw[N];unfold rnO;generalize ndS f (linksL b) lv t (k:Int) (srcV (srcO xs (k:Int))) (linksL b).length=s at C z Q⊢;obtain⟨s1,s2⟩:=s;cases s1
   .have:=Q Z;simp only at this;subst this;have e1:setS t.Av (k:Int) zSrc.Av=t.Av:=qo2 (by rw[a.s];exact l) b3;have W:setS t.Af (k:Int) zSrc.Af=t.Af:=qo2 (by rw[a.a];exact l) b2;have X:setS t.Aq (k:Int) false=t.Aq:=qo2 (by rw[a.r];exact l) b1;refine Ev.step y (Ev.bind C ?_);simp only[cond_false,jd,e1,W,X];exact ih (j+1) t (by omega) a (fun i hi p=>F i hi (fun I=>p (by rw[x];exact jP _ I)))
   .cases hsp:spanB s2.Af
    .refine Ev.step y (Ev.bind C ?_);simp only[hsp];exact .done
    .refine Ev.step y (Ev.bind C ?_);simp only[hsp];refine ih (j+1) (setT t k (true,s2)) (by omega) (qnN a l z) (fun i hi p=>?_);rw[x] at p;have u:i≠k:=fun e=>p (Jc _ (List.mem_singleton.2 e));have:=F i hi (fun I=>p (jP _ I));refine⟨?_,?_,?_⟩
     .show gt (setS _ _ _) i=_;rw[qef (by rw[a.r];exact l),if_neg u];exact this.1
     .show gt (setS _ _ _) i=_;rw[qef (by rw[a.a];exact l),if_neg u];exact this.2.1
     .show gt (setS _ _ _) i=_;rw[qef (by rw[a.s];exact l),if_neg u];exact this.2.2
 have J:mkS (M:Int) false=V (List.replicate M false):=qko (by omega);have K:mkS (M:Int) (⟨0,0⟩:qf)=V (List.replicate M zSp):=qko (by omega);have T:=A R.length 0 (zTm M) (by omega) qog qvw;rw[List.drop_zero] at T;rw[<-B] at r⊢;unfold qbi qh9;simp only[jd,r,J,K];refine Ev.bind T ?_;cases rnO f (linksL b) lv xs R (zTm M)<;>exact .done
end

abbrev lkB(b:qd):Nat:=(linksL b).length
abbrev ndB(b:qd):Nat:=2*(places b.Aa).length
abbrev lvJ(b:qd)(br:List Int):List Bool:=lvB br (lkB b)
def grB(b:qd)(br:List Int):Option Tgraph:=V ⟨V (viewV b),lvJ b br⟩
structure TgOk(b:qd)(c:qz)(br:List Int)(xs:List qg)(R:List Nat):Prop where
 bl:blockB b=true
 co:cornerB c=true
 br_:brB br (lkB b)=true
 sr:srcB xs (ndB b)=true
 or_:ordL (linksL b) (lvJ b br) (ndB b) (ndB b) []=V R
theorem TgOk.ord{b:qd}{c:qz}{br:List Int}{xs:List qg}{R:List Nat}(h:TgOk b c br xs R):OrdOk (lkB b) (frL (linksL b)) (toL (linksL b)) (lvL (lvJ b br)) (ndB b) R:=
 qwE (ndB b) [] R (fun l1 k l2 e=>by cases l1<;>cases e) h.or_
theorem TgOk.len{b:qd}{c:qz}{br:List Int}{xs:List qg}{R:List Nat}(h:TgOk b c br xs R):R.length=ndB b:=by
 have:=qvM (ndB b) [] R h.or_;simpa using this
theorem qwN{x:Int}(h:x≠0):(x != 0)=true:=by simpa using h
theorem qyt{b:qd}{c:qz}{br:List Int}{xs:List qg}(B:qg1 b)(H:okS c.Ba)(a:br.length<=1048576)(m:xs.length<=1048576) :
  (∃code:Int,code≠0/\Ev (fun n=>qc2 n b c br xs) ([],code)/\Ev (fun n=>qa4 n b c br xs U) (U,[],code)) \/
  ∃R,TgOk b c br xs R/\Ev (fun n=>qc2 n b c br xs) (ints R,0)/\Ev (fun n=>qa4 n b c br xs U) (grB b br,ints R,0):=by
 have s1:=qf0 B;have k:=qjx B;have s2:=qi4 (c:=c) H;have s:=qjU (c:=c) H;unfold qc2 qa4;cases h1:blockB b
 .rw[h1] at s1 k;exact .inl ⟨1,by omega,Ev.bind (b:=true) (Ev.bind s1 (Ev.tt Z .done)) (Ev.tt Z .done),Ev.bind (b:=true) (Ev.bind k (Ev.tt Z .done)) (Ev.tt Z .done)⟩
 cases h2:cornerB c
 .rw[h1] at s1 k;rw[h2] at s2 s;exact .inl ⟨1,by omega,Ev.bind (b:=true) (Ev.bind s1 (Ev.ff Z (Ev.bind s2 .done))) (Ev.tt Z .done),Ev.bind (b:=true) (Ev.bind k (Ev.ff Z (Ev.bind s .done))) (Ev.tt Z .done)⟩
 have C:=qaW (qZ (qao h1));have d:=qkV h1;have I:=qkI h1;have i:=qtr (br:=br) B h1 a;have f:=qsI (v:=viewV b) (br:=br) a d;have y:=qrf (xs:=xs) h1 m;have p:=qq3 (v:=viewV b) (xs:=xs) C m;have F:(viewV b).links=linksL b:=rfl;have M:(viewV b).places=places b.Aa:=rfl;rw[F] at f;rw[M] at p;rw[h1] at s1 k;rw[h2] at s2 s;have A:Ev (fun n=>(qco n b).bind fun g=>bif (!g) then V true else(qdY n c).bind fun h=>V (!h)) false:=Ev.bind s1 (Ev.ff Z (Ev.bind s2 .done));have u:Ev (fun n=>(qeQ n b).bind fun g=>bif (!g) then V true else(qeU n c).bind fun h=>V (!h)) false:=Ev.bind k (Ev.ff Z (Ev.bind s .done));have x:=qtn h1;cases h3:brB br (lkB b)
 .rw[h3] at i f;exact .inl ⟨2,by omega,Ev.bind A (Ev.ff Z (Ev.bind (b:=true) (Ev.bind i (Ev.tt Z .done)) (Ev.tt Z .done))),
   Ev.bind u (Ev.ff Z (Ev.bind x (Ev.bind (b:=false) (Ev.ff Z .done) (Ev.ff Z (Ev.bind (b:=true) (Ev.bind f (Ev.tt Z .done)) (Ev.tt Z .done))))))⟩
 cases h4:srcB xs (ndB b)
 .rw[h3] at i f;rw[h4] at y p;exact .inl ⟨2,by omega,Ev.bind A (Ev.ff Z (Ev.bind (b:=true) (Ev.bind i (Ev.ff Z (Ev.bind y .done))) (Ev.tt Z .done))),
   Ev.bind u (Ev.ff Z (Ev.bind x (Ev.bind (b:=false) (Ev.ff Z .done) (Ev.ff Z (Ev.bind (b:=true) (Ev.bind f (Ev.ff Z (Ev.bind p .done))) (Ev.tt Z .done))))))⟩
 have D:=qtJ (v:=viewV b) (br:=br) d h3;rw[F] at D;have Q:=qod (ls:=linksL b) (br:=br) d a;have l:(lvJ b br).length=lkB b:=qlw;have z:=qu4 (lv:=lvJ b br) I l;have t:=quZ (b:=b) (ps:=places b.Aa) (lo:=pre (load0 b) b.Ac.length) (de:=pre (exactL b) b.Ac.length) (ex:=[]) (lv:=lvJ b br) I l Z;rw[h3] at i f;rw[h4] at y p;have K:Ev (fun n=>(qhM n b br).bind fun O=>bif (O != 0) then V true else(qgZ n b xs).bind fun P=>V (!P)) false:=Ev.bind i (Ev.ff Z (Ev.bind y .done));have J:Ev (fun n=>(qfc n (V (viewV b)) br).bind fun g=>bif (!g) then V true else(qd2 n (V (viewV b)) xs).bind fun h=>V (!h)) false:=Ev.bind f (Ev.ff Z (Ev.bind p .done));have L:∀r:List Int×Int,Ev (fun n=>(qin n (ndB b:Int) (linksL b) (lvJ b br)).bind fun(g,h)=>bif (!h) then V (([]:List Int),(7:Int)) else V (g,0)) r->Ev (fun n=>qfp n b br) r:=fun r N=>by
  unfold qfp;exact Ev.bind i (Ev.ff Z (Ev.bind (qj7 h1) (Ev.bind (qlc h1) (Ev.bind Q N))))
 cases ho:ordL (linksL b) (lvJ b br) (ndB b) (ndB b) [] with
 |none=>
  have e:ordR (linksL b) (lvJ b br) (ndB b)=([],false):=by unfold ordR;rw[ho]
  rw[e] at z t;exact .inl ⟨7,by omega,Ev.bind A (Ev.ff Z (Ev.bind K (Ev.ff Z (Ev.bind (L ([],7) (Ev.bind z (Ev.tt Z .done))) .done)))),
   Ev.bind u (Ev.ff Z (Ev.bind x (Ev.bind (b:=false) (Ev.ff Z .done) (Ev.ff Z (Ev.bind J (Ev.ff Z (Ev.bind D (Ev.bind t (Ev.tt Z .done)))))))))⟩
 |some R=>
  have e:ordR (linksL b) (lvJ b br) (ndB b)=(ints R,true):=by unfold ordR;rw[ho]
  rw[e] at z t;exact .inr ⟨R,⟨h1,h2,h3,h4,ho⟩,Ev.bind A (Ev.ff Z (Ev.bind K (Ev.ff Z (Ev.bind (L (ints R,0) (Ev.bind z (Ev.ff Z .done))) .done)))),
   Ev.bind u (Ev.ff Z (Ev.bind x (Ev.bind (b:=false) (Ev.ff Z .done) (Ev.ff Z (Ev.bind J (Ev.ff Z (Ev.bind D (Ev.bind t (Ev.ff Z .done)))))))))⟩

def sdL(ls:List qv)(fw:Bool)(k:Nat):Int:=bif fw then frL ls k else toL ls k
def tdL(ls:List qv)(fw:Bool)(k:Nat):Int:=bif fw then toL ls k else frL ls k
structure ReachI(ls:List qv)(lv:List Bool)(M:Nat)(fw:Bool)(v:Nat)(x:List Bool):Prop where
 len:x.length=M
 self:gt x v=true
 wit:∀j,j<M->gt x j=true->j=v\/∃k a:Nat,k<ls.length/\gt lv k=true/\sdL ls fw k=(a:Int)/\a<M/\gt x a=true/\tdL ls fw k=(j:Int)
def ShutI(ls:List qv)(lv:List Bool)(fw:Bool)(x:List Bool)(k:Nat):Prop:=gt lv k=true->∀a b:Nat,sdL ls fw k=(a:Int)->tdL ls fw k=(b:Int)->gt x a=true->gt x b=true
theorem quT{x:List Bool}:x.countP id<=x.length:=List.countP_le_length
theorem quL{x:List Bool}{c:Nat}(a:c<x.length)(h:gt x c=false):(setS x (c:Int) true).countP id=x.countP id+1:=by
 have e:setS x (c:Int) true=x.set c true:=by unfold setS;rw[jq]
 rw[e];have:x[c]=false:=by rw[<-qeV a];exact h
 clear e h
 induction x generalizing c with
 |nil=>cases a
 |cons y x ih=>
  cases c with
  |zero=>
   have d:y=false:=this;subst d;simp
  |succ c=>
   have b:c<x.length:=by simpa using a
   have:=ih b (by simpa using this);rw[List.set_cons_succ,List.countP_cons,List.countP_cons,this];omega
section
variable{ls:List qv}{lv:List Bool}{M:Nat}
theorem qwp(h:LkOk ls M){k:Nat}(c:k<ls.length)(fw:Bool):∃a b:Nat,sdL ls fw k=(a:Int)/\tdL ls fw k=(b:Int)/\a<M/\b<M:=by
 have d:=h.fr0 k c;have f1:=h.fr1 k c;have f:=h.to0 k c;have g:=h.to1 k c;cases fw
 .exact⟨(gt ls k).To.toNat,(gt ls k).Bd.toNat,qdx f,qdx d,by omega,by omega⟩
 .exact⟨(gt ls k).Bd.toNat,(gt ls k).To.toNat,qdx d,qdx f,by omega,by omega⟩
theorem qxO(h:LkOk ls M)(S:lv.length=ls.length){fw:Bool}{v:Nat}:∀(d k:Nat) (x:List Bool) (b:Bool),k+d=ls.length->ReachI ls lv M fw v x->(b=false->∀j,j<k->ShutI ls lv fw x j) ->
  EvQ (fun n=>qdI ls lv fw n x b (k:Int)) (fun o=>ReachI ls lv M fw v o.1/\(o.2.1=false->∀j,j<ls.length->ShutI ls lv fw o.1 j)/\x.countP id<=o.1.countP id/\(o.2.1=true->b=true\/x.countP id<o.1.countP id)):=by
 have Q:=h.len;intro d
 induction d with
 |zero=>
  intro k x b P g s;refine EvQ.succ ?_;simp only[qdI];refine EvQ.ff (qq (by omega)) (EvQ.done ⟨g,fun e j u=>s e j (by omega),je _,fun e=>.inl e⟩)
 |succ d ih=>
  intro k x b P g s;have f:k<ls.length:=by omega
  obtain⟨p,q,z,C,I,R⟩:=qwp h f fw;refine EvQ.succ ?_;simp only[qdI,wS k];refine EvQ.tt (qp f) (EvQ.bindN (qw f) (EvQ.bindN (qw f) (EvQ.bindN (b:=((p:Int),(q:Int))) (by rw[<-z,<-C];cases fw<;>rfl) ?_)));have B:p<x.length:=by rw[g.len];exact I
  have c:q<x.length:=by rw[g.len];exact R
  refine EvQ.bindN (b:=gt lv k&&(gt x p&&!gt x q)) (by rw[qw (show k<lv.length by omega),qw B,qw c];simp only[jd];cases gt lv k<;>cases gt x p<;>rfl) ?_;refine EvQ.bif (fun i=>?_) (fun i=>?_)
  .simp only[jf,jA] at i;obtain⟨c1,r,F⟩:=i;have A:p≠q:=fun e=>by rw[e,F] at r;cases r
   have H:=quL c F;refine EvQ.bindN (qw c) ((ih (k+1) (setS x (q:Int) true) true (by omega) ⟨by rw[qaY];exact g.len,?_,fun j u l=>?_⟩ (fun e=>by cases e)).mono fun o m=>⟨m.1,m.2.1,by have:=m.2.2.1;omega,fun _=>.inr (by have:=m.2.2.1;omega)⟩)
   .rw[qef c];split
    .rfl
    .exact g.self
   .by_cases e:j=q
    .exact .inr ⟨k,p,f,c1,z,I,by rw[qef c,if_neg A];exact r,by rw[C,e]⟩
    .rw[qef c,if_neg e] at l;rcases g.wit j u l with e2|⟨k',a,w1,w2,w3,w4,w5,w6⟩
     .exact .inl e2
     .exact .inr ⟨k',a,w1,w2,w3,w4,by rw[qef c];split;rfl;exact w5,w6⟩
  .refine ih (k+1) x b (by omega) g (fun e j u=>?_);by_cases N:j=k
   .subst N;intro y a J O t D;rw[z] at O;rw[C] at t;have K:p=a:=by omega
    have L:q=J:=by omega
    subst K;subst L;rw[y,D] at i;simpa using i
   .exact s e j (by omega)
theorem quv(h:LkOk ls M)(t:lv.length=ls.length){fw:Bool}{v:Nat}(y:v<M):EvQ (fun n=>qic n (M:Int) ls lv (v:Int) fw) (fun x=>ReachI ls lv M fw v x/\∀j,j<ls.length->ShutI ls lv fw x j):=by
 have A:=h.nodes;have f:∀(d:Nat) (x:List Bool),M<x.countP id+d->ReachI ls lv M fw v x->EvQ (fun n=>qe6 ls lv fw n x true) (fun o=>ReachI ls lv M fw v o.1/\∀j,j<ls.length->ShutI ls lv fw o.1 j):=by
  intro d
  induction d with
  |zero=>
   intro x s l;have:=quT (x:=x);rw[l.len] at this;omega
  |succ d ih=>
   intro x s l;refine EvQ.succ ?_;simp only[qe6,cond_true];refine EvQ.bind (qxO h t ls.length 0 x false (by omega) l (fun _ j k=>absurd k (Nat.not_lt_zero _))) ?_;rintro⟨z,b3,i⟩ ⟨g,m,r,p⟩;dsimp only at g m r p⊢;cases b3
   .refine EvQ.succ ?_;simp only[qe6,cond_false];exact EvQ.done ⟨g,m Z⟩
   .rcases p rfl with e|e
    .cases e
    .exact ih z (by omega) g
 unfold qic;have a:v<(pre (fun _=>false) M).length:=by rw[qla];exact y
 refine EvQ.bindN (qmf (by omega)) (EvQ.bindN (qw a) (EvQ.bind (f (M+1) _ (by omega) ⟨by rw[qaY,qla],by rw[qef a,if_pos Z],fun j k c=>?_⟩) ?_))
 .refine .inl ?_;refine Classical.byContradiction fun e=>?_;rw[qef a,if_neg e,qvS k] at c;cases c
 .rintro⟨x,b⟩ u;exact EvQ.done u
def SelfL(ls:List qv)(lv:List Bool)(v:Nat):Prop:=∃k,k<ls.length/\gt lv k=true/\frL ls k=(v:Int)/\toL ls k=(v:Int)
structure LoopI(ls:List qv)(lv:List Bool)(M:Nat)(l:List Int):Prop where
 ex:∃(v:Nat) (there back:List Bool),v<M/\(ReachI ls lv M true v there/\∀j,j<ls.length->ShutI ls lv true there j)/\(ReachI ls lv M false v back/\∀j,j<ls.length->ShutI ls lv false back j) /\
  l=ints (selN (fun w=>gt there w&&gt back w) M)/\(1<l.length\/SelfL ls lv v)
theorem qyb(h:LkOk ls M)(p:lv.length=ls.length){v:Nat}:EvQ (fun n=>qkA n ls lv (v:Int)) (fun r=>r=true->SelfL ls lv v):=by
 have l:=h.len;have b:∀d k,k+d=ls.length->EvQ (fun n=>qdo ls lv (v:Int) n (k:Int)) (fun o=>∀r,o=.ret r->SelfL ls lv v):=by
  intro d
  induction d with
  |zero=>
   intro k i;refine EvQ.succ ?_;simp only[qdo];exact EvQ.ff (qq (by omega)) (EvQ.done fun r m=>by cases m)
  |succ d ih=>
   intro k i;have a:k<ls.length:=by omega
   refine EvQ.succ ?_;simp only[qdo,wS k];refine EvQ.tt (qp a) (EvQ.bindN (qw (show k<lv.length by omega)) (EvQ.bif (fun c=>EvQ.bindN (qw a) (EvQ.bif (fun f=>EvQ.bindN (qw a) (EvQ.bif (fun g=>EvQ.done fun _ _=>⟨k,a,c,beq_iff_eq.1 f,beq_iff_eq.1 g⟩) (fun _=>ih (k+1) (by omega)))) (fun _=>ih (k+1) (by omega)))) (fun _=>ih (k+1) (by omega))))
 unfold qkA;refine EvQ.bind (b ls.length 0 (by omega)) ?_;rintro(r|x) ho
 .exact EvQ.done fun _=>ho r Z
 .exact EvQ.done fun e=>by cases e
theorem qwY(h:LkOk ls M)(t:lv.length=ls.length):EvQ (fun n=>qjR n (M:Int) ls lv) (fun o=>∀l,l∈o->LoopI ls lv M l):=by
 have L:=h.nodes;have k:∀{a back:List Bool},a.length=M->back.length=M->∀d j p f,j+d=M->p=ints (selN (fun w=>gt a w&&gt back w) j)->f.length=M ->
   EvQ (fun n=>qdK (M:Int) a back n p f (j:Int)) (fun o=>o.1=ints (selN (fun w=>gt a w&&gt back w) M)/\o.2.1.length=M):=by
  intro a back z y d
  induction d with
  |zero=>
   intro j p f D s x;obtain rfl:j=M:=by omega
   refine EvQ.succ ?_;simp only[qdK];exact EvQ.ff (qq (je _)) (EvQ.done ⟨s,x⟩)
  |succ d ih=>
   intro j p f D s x;refine EvQ.succ ?_;simp only[qdK,wS j];refine EvQ.tt (qp (by omega)) (EvQ.bindN (b:=gt a j&&gt back j) (by rw[qw (show j<a.length by omega),qw (show j<back.length by omega)];simp only[jd];cases gt a j<;>rfl) ?_);have e:=qhL (q:=fun w=>gt a w&&gt back w) (j:=j);have J:(selN (fun w=>gt a w&&gt back w) j).length<=j:=qgv;refine EvQ.bif (fun g=>?_) (fun g=>?_)
   .refine EvQ.bindN (qcm (by rw[s,qbE];omega)) (EvQ.bindN (qw (show j<f.length by omega)) (ih (j+1) _ _ (by omega) ?_ (by rw[qaY];exact x)));rw[e,g,cond_true,s];unfold ints;rw[jZ];rfl
   .refine ih (j+1) _ _ (by omega) ?_ x;rw[e,g,cond_false,jY,s]
 have v:∀d j m c,j+d=M->m.length=M->c.length<=j->(∀l,l∈c->LoopI ls lv M l) ->
   EvQ (fun n=>qcL (M:Int) ls lv n m c (j:Int)) (fun o=>∀l,l∈o.2.1->LoopI ls lv M l):=by
  intro d
  induction d with
  |zero=>
   intro j m c D B F u;refine EvQ.succ ?_;simp only[qcL];exact EvQ.ff (qq (by omega)) (EvQ.done u)
  |succ d ih=>
   intro j m c D B F u;refine EvQ.succ ?_;simp only[qcL,wS j];refine EvQ.tt (qp (by omega)) (EvQ.bindN (qw (show j<m.length by omega)) (EvQ.bif (fun _=>ih (j+1) m c (by omega) B (by omega) u) (fun _=>?_)));refine EvQ.bind (quv h t (fw:=true) (show j<M by omega)) (fun a z=>?_);refine EvQ.bind (quv h t (fw:=false) (show j<M by omega)) (fun back y=>?_);refine EvQ.bind (k z.1.len y.1.len M 0 [] m (by omega) Z B) ?_;rintro⟨p,f,i⟩ ⟨A,l5⟩;dsimp only at A l5⊢;refine EvQ.bind (R:=fun r=>r=true->LoopI ls lv M p) (EvQ.bif (fun g=>EvQ.done fun _=>⟨j,a,back,by omega,z,y,A,.inl (by have:=of_decide_eq_true g;omega)⟩) (fun _=>EvQ.bind (qyb h t) (fun r I=>EvQ.done fun e=>⟨j,a,back,by omega,z,y,A,.inr (I e)⟩))) (fun K C=>?_);refine EvQ.bif (fun g=>?_) (fun _=>ih (j+1) f c (by omega) l5 (by omega) u);exact EvQ.bindN (qcm (by omega)) (ih (j+1) f _ (by omega) l5 (by rw[jg,ji];omega) (qbM u (C g)))
 unfold qjR;refine EvQ.bindN (qmf (by omega)) (EvQ.bind (v M 0 (pre (fun _=>false) M) [] (by omega) qla (je _) (fun _ t=>by cases t)) ?_);rintro⟨_,c,_⟩ H;exact EvQ.done H
theorem qvg(h:LkOk ls M)(z:∀k k',k<ls.length->k'<ls.length->(gt ls k).Au≠1->(gt ls k').Au≠1->toL ls k≠frL ls k'){l:List Int}(J:LoopI ls lv M l) :
  ∃k,k<ls.length/\gt lv k=true/\(gt ls k).Au=1/\frL ls k∈l/\toL ls k∈l:=by
 obtain⟨v,c,back,L,⟨y,C⟩,⟨u,B⟩,e,m⟩:=J.ex;have mem:∀w:Nat,w<M->gt c w=true->gt back w=true->(w:Int)∈l:=fun w F H I=>by
  rw[e,qlW,qcd];exact⟨F,by rw[H,I];rfl⟩
 rcases m with m|⟨k,k1,k2,k3,k4⟩
 . -- another node of the loop
  obtain⟨w,f,g⟩:∃w,w∈selN (fun w=>gt c w&&gt back w) M/\w≠v:=by
   have i:(selN (fun w=>gt c w&&gt back w) M).Nodup:=List.nodup_range.filter _;have d:1<(selN (fun w=>gt c w&&gt back w) M).length:=by rw[e,qbE] at m;exact m
   generalize selN (fun w=>gt c w&&gt back w) M=S at i d
   match S,i,d with
   |a::b::S,i,_=>
    by_cases t:a=v
    .refine⟨b,by simp,fun D=>?_⟩;rw[List.nodup_cons] at i;exact i.1 (by rw[t,<-D];simp)
    .exact⟨a,by simp,t⟩
  rw[qcd,jf] at f;obtain⟨n,p,o⟩:=f;rcases y.wit w n p with e1|⟨k1,a1,p1,p2,p3,p4,p5,p6⟩
  .exact absurd e1 g
  rcases u.wit w n o with e1|⟨k2,a2,q1,q2,q3,q4,q5,q6⟩
  .exact absurd e1 g
  have f1:frL ls k1=(a1:Int):=p3;have s:toL ls k1=(w:Int):=p6;have r:frL ls k2=(w:Int):=q6;have A:toL ls k2=(a2:Int):=q3;by_cases K1:(gt ls k1).Au=1
  .exact⟨k1,p1,p2,K1,by rw[f1];exact mem a1 p4 p5 (B k1 p1 p2 w a1 s f1 o),by rw[s];exact mem w n p o⟩
  .by_cases K2:(gt ls k2).Au=1
   .exact⟨k2,q1,q2,K2,by rw[r];exact mem w n p o,by rw[A];exact mem a2 q4 (C k2 q1 q2 w a2 r A p) q5⟩
   .exact absurd (s.trans r.symm) (z k1 k2 p1 q1 K1 K2)
 .have x:=mem v L y.self u.self;refine⟨k,k1,k2,?_,by rw[k3];exact x,by rw[k4];exact x⟩;exact Classical.byContradiction fun K=>z k k k1 k1 K K (k4.trans k3.symm)
theorem quk{xs:List Int}{x:Int}(h:x∈xs):(xs.any fun y=>y==x)=true:=List.any_eq_true.2 ⟨x,h,by simp⟩
theorem qwJ(h:LkOk ls M)(P:∀k k',k<ls.length->k'<ls.length->(gt ls k).Au≠1->(gt ls k').Au≠1->toL ls k≠frL ls k'):∀(d:Nat) (lv:List Bool),lv.length=ls.length->lv.countP id<d ->
  EvQ (fun n=>qgp ls (M:Int) n lv) (fun o=>o.length=ls.length):=by
 have O:=h.len;have S:=h.nodes;intro d
 induction d with
 |zero=>intro lv _ R;omega
 |succ d ih=>
  intro lv A T;refine EvQ.succ ?_;simp only[qgp];refine EvQ.bind (qwY h A) (fun p C=>?_);refine EvQ.bif (fun _=>EvQ.done A) (fun l=>?_);cases p with
  |nil=>simp at l
  |cons l0 p=>
   have D:=C l0 (by simp);have g:l0.length<=1048576:=by
    obtain⟨_,_,_,_,_,_,e,_⟩:=D.ex;rw[e,qbE];exact jR qgv (by omega)
   obtain⟨s,Q,F,H,I,J⟩:=qvg h P D;have i0:idx (l0::p) 0=V l0:=rfl;have m:∀d j c,j+d=ls.length->((∃k:Nat,c=(k:Int)/\k<ls.length/\gt lv k=true)\/j<=s) ->
     EvQ (fun n=>qbx ls lv (l0::p) n c (j:Int)) (fun o=>∃k:Nat,o.1=(k:Int)/\k<ls.length/\gt lv k=true):=by
    intro d
    induction d with
    |zero=>
     intro j c N hi;refine EvQ.succ ?_;simp only[qbx];refine EvQ.ff (qq (by omega)) (EvQ.done ?_);rcases hi with hi|hi
     .exact hi
     .omega
    |succ d ih2=>
     intro j c N hi;have a:j<ls.length:=by omega
     have nx:∀{i},((∃k:Nat,i=(k:Int)/\k<ls.length/\gt lv k=true)\/j+1<=s)->EvQ (fun n=>qbx ls lv (l0::p) n i ((j+1:Nat):Int)) (fun o=>∃k:Nat,o.1=(k:Int)/\k<ls.length/\gt lv k=true):=fun L=>ih2 (j+1) _ (by omega) L;have skip:j≠s->(∃k:Nat,c=(k:Int)/\k<ls.length/\gt lv k=true)\/j+1<=s:=fun l=>by
      rcases hi with hi|hi
      .exact .inl hi
      .exact .inr (by omega)
     refine EvQ.succ ?_;simp only[qbx,wS j];refine EvQ.tt (qp a) (EvQ.bindN (qw (show j<lv.length by omega)) (EvQ.bif (fun c1=>EvQ.bindN (qw a) (EvQ.bif (fun t=>EvQ.bindN i0 (EvQ.bindN (qw a) (EvQ.bindE (qma g) (EvQ.bif (fun u=>EvQ.bindN i0 (EvQ.bindN (qw a) (EvQ.bindE (qma g) (EvQ.bif (fun v=>nx (.inl ⟨j,rfl,a,c1⟩)) (fun v=>nx (skip fun e=>?_)))))) (fun u=>nx (skip fun e=>?_)))))) (fun t=>nx (skip fun e=>?_)))) (fun c1=>nx (skip fun e=>?_))))
     .subst e;have:=quk J;unfold toL at this;rw[this] at v;cases v
     .subst e;have:=quk I;unfold frL at this;rw[this] at u;cases u
     .subst e;rw[H] at t;cases t
     .subst e;rw[F] at c1;cases c1
   refine EvQ.bind (m ls.length 0 (-1) (by omega) (.inr (jW _))) ?_;rintro⟨c,W⟩ ⟨k,rfl,f,B⟩;have b:k<lv.length:=by omega
   refine EvQ.bindN (qw b) (ih _ (by rw[qaY];exact A) ?_);have e:setS lv (k:Int) false=lv.set k false:=by unfold setS;rw[jq]
   rw[e];have z:lv[k]=true:=by rw[<-qeV b];exact B
   have x:∀(xs:List Bool) (k:Nat) (f:k<xs.length),xs[k]=true->(xs.set k false).countP id+1=xs.countP id:=by
    intro xs
    induction xs with
    |nil=>intro k f;cases f
    |cons y xs ih3=>
     intro k f r;cases k with
     |zero=>
      have r:y=true:=r;subst r;simp
     |succ k=>
      have K:k<xs.length:=by simpa using f
      have:=ih3 k K (by simpa using r);rw[List.set_cons_succ,List.countP_cons,List.countP_cons];omega
   have:=x lv k b z;omega
end
theorem qrs{b:qd}(h:blockB b=true){x:qv}(c:x∈linksL b)(p:x.Au≠1) :
  ∃(m s:Nat) (t:Int),b01 t/\x.Bd=2*(m:Int)+t/\x.To=2*(s:Int)+t/\(gt (places b.Aa) m).drives=true/\(gt (places b.Aa) s).drives=false:=by
 have o:=qao h;have r:=qf6 h;unfold linksL at c;rcases List.mem_append.1 c with c|c
 .obtain⟨i,hi,c⟩:=qnb c;obtain⟨a,u,c⟩:=qnb c;unfold arcLs at c;obtain⟨t,v,rfl⟩:=List.mem_map.1 c;exact absurd Z p
 .obtain⟨i,hi,c⟩:=qnb c;obtain⟨k,f,c⟩:=qnb c;obtain⟨y,z,n,g⟩:=qoh f;have d:=(qih o (k:=i) (by omega)).2;unfold wl1 at c;simp only[jK,jz,or_false] at c;have l:=(qme.1 d).2;have d2:(gt (places b.Aa) y).drives=false:=by
   unfold snkQ at g;simp only[jf,jA] at g;exact g.2
  rcases c with c|c
  .exact⟨_,y,0,.inl Z,by rw[c,Jd],by rw[c,Jd,n],l,d2⟩
  .exact⟨_,y,1,.inr Z,by rw[c],by rw[c,n],l,d2⟩
theorem qtP{b:qd}(h:blockB b=true):∀k a,k<(linksL b).length->a<(linksL b).length->(gt (linksL b) k).Au≠1->(gt (linksL b) a).Au≠1->toL (linksL b) k≠frL (linksL b) a:=by
 intro k a o f m n e;obtain⟨v,s,t,p,f1,A,u,d2⟩:=qrs h (qia o) m;obtain⟨d,y,z,g,l,r,c,i⟩:=qrs h (qia f) n;have x:(gt (linksL b) k).To=(gt (linksL b) a).Bd:=e;have:s=d:=by rcases p with e|e<;>rcases g with e2|e2<;>omega
 rw[this,c] at d2;cases d2
theorem qwt{b:qd}(h:blockB b=true):EvQ (fun n=>qjH n b) (fun o=>okL okI o):=by
 have m:=qkI h;have l:=m.len;have k:=qlc h;unfold qjH;refine EvQ.bindE (qj7 h) (EvQ.bindE (qod l (by simp)) (EvQ.bindE k (EvQ.bind (qwJ m (qtP h) _ _ qlw (Nat.lt_succ_self _)) (fun p t=>?_))));have c:∀d j a,j+d=(linksL b).length->a.length<=j->(∀y,y∈a->okI y)->EvQ (fun n=>qdQ (lvB [] (linksL b).length) p n a (j:Int)) (fun o=>o.1.length<=10000/\∀y,y∈o.1->okI y):=by
  intro d
  induction d with
  |zero=>
   intro j a s g f;refine EvQ.succ ?_;simp only[qdQ,qlw];exact EvQ.ff (qq (by omega)) (EvQ.done ⟨by dsimp only;omega,f⟩)
  |succ d ih=>
   intro j a s g f;refine EvQ.succ ?_;simp only[qdQ,qlw,wS j];refine EvQ.tt (qp (by omega)) (EvQ.bindN (qw (show j<p.length by omega)) (EvQ.bif (fun _=>?_) (fun _=>ih (j+1) a (by omega) (by omega) f)));exact EvQ.bindN (qcm (by omega)) (ih (j+1) _ (by omega) (by rw[jg,ji];omega) (qbM f (qas (by omega) (by omega))))
 refine EvQ.bind (c (linksL b).length 0 [] (by omega) (je _) (fun _ u=>by cases u)) ?_;rintro⟨a,i⟩ ⟨r,g⟩;exact EvQ.done ⟨by dsimp only at r⊢;omega,g⟩

section
variable{code:List (IntK .u8)}{a s:Int}
theorem qss{α:Type}{P:α->Prop}{x y z:α}{i:Int}(d:0<=i)(f:i<3)(a:P x)(b:P y)(c:P z):∃v,idx [x,y,z] i=V v/\P v:=by
 have:i=0\/i=1\/i=2:=by omega
 rcases this with rfl|rfl|rfl
 .exact⟨x,rfl,a⟩
 .exact⟨y,rfl,b⟩
 .exact⟨z,rfl,c⟩
theorem qlC{x:Int}(a:-2000000000<=x)(b:x<=2000000000):okI x:=qas (by omega) (by omega)
theorem qvt(c:CodeOk code)(h:SrcI code a s):EvQ (fun n=>qgE n ⟨code,a,s⟩) (fun o=>qrR o.1/\SrcI code o.2.1 o.2.2):=by
 unfold qgE;refine EvQ.bind (qaq 3 c h) ?_;rintro⟨M,N,O⟩ ⟨⟨⟨k,p1⟩,_⟩,b⟩;dsimp only at k p1 b⊢;obtain⟨Y,f,d⟩:=qss (P:=okS) (x:=(⟨#[115,108,111,119]⟩:ByteArray)) (y:=(⟨#[102,97,115,116]⟩:ByteArray)) (z:=(⟨#[116,121,112]⟩:ByteArray)) k (p1 (by decide)) (by show(4:Nat)<=1048576;decide) (by show(4:Nat)<=1048576;decide) (by show(3:Nat)<=1048576;decide);refine EvQ.bindN f (EvQ.bind (qaq 20 c b) ?_);rintro⟨Q,R,S⟩ ⟨_,b⟩;refine EvQ.bind (qaq 20 c b) ?_;rintro⟨T,W,X⟩ ⟨_,b⟩;refine EvQ.bind (qaq 60 c b) ?_;rintro⟨p,r,t⟩ ⟨_,b⟩;refine EvQ.bind (qaq 40 c b) ?_;rintro⟨u,v,A⟩ ⟨_,b⟩;refine EvQ.bind (qaq 30 c b) ?_;rintro⟨B,C,D⟩ ⟨_,b⟩;dsimp only at b⊢;refine EvQ.bif (fun _=>EvQ.done ⟨⟨d,qaX _,qaX _,qaX _,qaX _⟩,b⟩) (fun _=>EvQ.bif (fun _=>EvQ.bind (qaq 3 c b) ?_) (fun _=>EvQ.bif (fun _=>EvQ.bind (qaq 2 c b) ?_) (fun _=>EvQ.bif (fun _=>EvQ.done ⟨⟨by show(0:Nat)<=1048576;decide,qaX _,qaX _,qaX _,qaX _⟩,b⟩) (fun _=>EvQ.done ⟨⟨d,qaX _,qaX _,qaX _,qaX _⟩,b⟩))))
 .rintro⟨F,H,I⟩ ⟨⟨⟨l,m⟩,_⟩,b⟩;dsimp only at l m b⊢;obtain⟨e,g,i⟩:=qss (P:=okI) (x:=(99:Int)) (y:=100) (z:=-1) l (m (by decide)) (qlC (by decide) (by decide)) (qlC (by decide) (by decide)) (qlC (by decide) (by decide));exact EvQ.bindN g (EvQ.done ⟨⟨d,qaX _,qaX _,i,qaX _⟩,b⟩)
 .rintro⟨J,K,L⟩ ⟨_,b⟩;exact EvQ.done ⟨⟨d,qaX _,qaX _,qaX _,qaX _⟩,b⟩
theorem qsL(d:CodeOk code)(h:SrcI code a s):EvQ (fun n=>qhf n ⟨code,a,s⟩) (fun o=>BlkO o.1/\SrcI code o.2.1 o.2.2):=by
 unfold qhf;refine EvQ.bind (qaq 12 d h) ?_;rintro⟨k,l,m⟩ ⟨_,b⟩;dsimp only at b⊢;refine EvQ.bif (fun _=>EvQ.bind (qtG d b) ?_) (fun _=>EvQ.bif (fun _=>EvQ.bif (fun _=>EvQ.bind (qnO (by decide) (by decide) d b) ?_) (fun _=>EvQ.bind (qnO (by decide) (by decide) d b) ?_)) (fun _=>EvQ.bif (fun _=>EvQ.bind (qnO (by decide) (by decide) d b) ?_) (fun _=>EvQ.bind (qnO (by decide) (by decide) d b) ?_)))
 .rintro⟨r,f,g⟩ i;exact EvQ.done i
 .rintro⟨r,f,g⟩ ⟨c,b⟩;exact EvQ.done ⟨⟨c.ok,c.des.sm⟩,b⟩
 .rintro⟨r,f,g⟩ ⟨c,b⟩;exact EvQ.done ⟨⟨c.ok,c.des.sm⟩,b⟩
 .rintro⟨r,f,g⟩ ⟨c,b⟩;exact EvQ.done ⟨⟨c.ok,c.des.sm⟩,b⟩
 .rintro⟨r,f,g⟩ ⟨c,b⟩;exact EvQ.done ⟨⟨c.ok,c.des.sm⟩,b⟩
theorem qwn{b:qd}(D:BlkO b)(k:CodeOk code)(h:SrcI code a s):EvQ (fun n=>qgT n ⟨code,a,s⟩ b) (fun o=>okL okI o.1/\SrcI code o.2.1 o.2.2):=by
 unfold qgT;refine EvQ.bind (R:=fun o:Int×Int×Bool=>SrcI code o.1 o.2.1/\(o.2.2=false->blockB b=true)) (EvQ.bindE (qf0 D.ok) (EvQ.bif (fun _=>EvQ.done ⟨h,fun e=>by cases e⟩) (fun g=>EvQ.bind (qaq 3 k h) ?_))) ?_
 .rintro⟨X,Y,a3⟩ ⟨_,c⟩;exact EvQ.done ⟨c,fun _=>by simpa using g⟩
 rintro⟨i1,i2,b1⟩ ⟨c,g⟩;dsimp only at c g⊢;refine EvQ.bif (fun _=>EvQ.done ⟨⟨jW _,fun _ h=>by cases h⟩,c⟩) (fun u=>?_);have g:=g u;have I:=qkV g;refine EvQ.bindE (qj7 g) (EvQ.bind (qaq 8 k c) ?_);rintro⟨v,i4,i5⟩ ⟨⟨⟨p0,p1⟩,_⟩,c⟩;dsimp only at p0 p1 c⊢;have p2:=p1 (by decide);have z:W64 (1+v)=1+v:=qP (by omega) (by omega);rw[z];refine EvQ.bind (qaq _ k c) ?_;rintro⟨A,i7,i8⟩ ⟨⟨⟨q0,B⟩,_⟩,c⟩;dsimp only at q0 B c⊢;have q2:=B (by omega);obtain⟨j,rfl⟩:∃j:Nat,A=(j:Int):=⟨A.toNat,by omega⟩;have m:∀(d j:Nat) (x:List Int) (p r:Int),SrcI code p r->(linksL b).length<=j+d->x.length<=j->j<=(linksL b).length+8->(∀y,y∈x->okI y) ->
   EvQ (fun n=>qcC ⟨code,a,s⟩ (linksL b) v n x p r (j:Int)) (fun o=>(o.1.length<=20000/\∀y,y∈o.1->okI y)/\SrcI code o.2.1 o.2.2.1):=by
  intro d
  induction d with
  |zero=>
   intro j x p r c F J H f;refine EvQ.succ ?_;simp only[qcC];exact EvQ.ff (qq (by omega)) (EvQ.done ⟨⟨by dsimp only;omega,f⟩,c⟩)
  |succ d ih=>
   intro j x p r c F J H f;refine EvQ.succ ?_;simp only[qcC,z];refine EvQ.bif (fun l=>?_) (fun _=>EvQ.done ⟨⟨by dsimp only;omega,f⟩,c⟩);have l:j<(linksL b).length:=by have:=of_decide_eq_true l;omega
   refine EvQ.bindN (qcm (by omega)) (EvQ.bind (qaq _ k c) ?_);rintro⟨i,M,N⟩ ⟨⟨⟨t0,C⟩,_⟩,c⟩;dsimp only at t0 C c⊢;have t2:=C (by omega);have e1:W64 ((j:Int)+W64 (1+i))=((j+(1+i.toNat):Nat):Int):=by rw[wO (1+i),qP (by omega) (by omega)];omega
   rw[e1];exact ih _ _ _ _ c (by omega) (by rw[jg,ji];omega) (by omega) (qbM f (qlC (by omega) (by omega)))
 refine EvQ.bind (m (linksL b).length j [] i7 i8 c (by omega) (jW _) (by omega) (fun _ h=>by cases h)) ?_;rintro⟨x1,i9,K,L⟩ ⟨⟨l1,t⟩,c⟩;dsimp only at l1 t c⊢;refine EvQ.bind (qaq 12 k c) ?_;rintro⟨O,P,Q⟩ ⟨_,c⟩;dsimp only at c⊢;refine EvQ.bif (fun _=>EvQ.bind (qaq 2 k c) ?_) (fun _=>EvQ.done ⟨⟨by dsimp only;omega,t⟩,c⟩);rintro⟨S,T,W⟩ ⟨_,c⟩;exact EvQ.bindN (qcm (by omega)) (EvQ.done ⟨⟨by show(_++_:List Int).length<=_;rw[jg,ji];omega,qbM t (qaX _)⟩,c⟩)
theorem qrz{b:qd}(B:BlkO b)(p:CodeOk code)(h:SrcI code a s):EvQ (fun n=>qeF n ⟨code,a,s⟩ b) (fun o=>okL qiN o.1/\SrcI code o.2.1 o.2.2):=by
 have O:=qaW B.sm;have two:∀{I:Int} {b1:Bool} (d j:Nat) (x:List qg) (l m:Int),SrcI code l m->j+d=2->x.length+d<=1000->(∀y,y∈x->qiN y) ->
   EvQ (fun n=>qbS ⟨code,a,s⟩ I b1 n x l m (j:Int)) (fun o=>(o.1.length<=x.length+d/\∀y,y∈o.1->qiN y)/\SrcI code o.2.1 o.2.2.1):=by
  intro I b1 d
  induction d with
  |zero=>
   intro j x l m c C F f;obtain rfl:j=2:=by omega
   refine EvQ.succ ?_;simp only[qbS];exact EvQ.ff Z (EvQ.done ⟨⟨je _,f⟩,c⟩)
  |succ d ih=>
   intro j x l m c C F f;refine EvQ.succ ?_;simp only[qbS,wS j];refine EvQ.tt (decide_eq_true (by omega)) (EvQ.bind (R:=fun o:Int×Int×Bool=>SrcI code o.1 o.2.1) (EvQ.bif (fun _=>EvQ.bind (qaq 8 p c) ?_) (fun _=>EvQ.bind (qaq 24 p c) ?_)) ?_)
   .rintro⟨a6,a7,a8⟩ ⟨_,c⟩;refine EvQ.bif (fun _=>EvQ.done c) (fun _=>EvQ.bind (qaq 24 p c) ?_);rintro⟨a9,b4,b5⟩ ⟨_,c⟩;exact EvQ.done c
   .rintro⟨b6,b7,b8⟩ ⟨_,c⟩;exact EvQ.done c
   rintro⟨i7,i8,b2⟩ c;dsimp only at c⊢;refine EvQ.bif (fun _=>EvQ.bind (qaq 200 p c) ?_) (fun _=>(ih (j+1) x i7 i8 c (by omega) (by omega) f).mono fun o t=>⟨⟨by have:=t.1.1;omega,t.1.2⟩,t.2⟩);rintro⟨i9,P,Q⟩ ⟨_,c⟩;refine EvQ.bind (qaq 30 p c) ?_;rintro⟨H,S,T⟩ ⟨⟨⟨t0,L⟩,_⟩,c⟩;refine EvQ.bind (qaq 40 p c) ?_;rintro⟨X,Y,e⟩ ⟨_,c⟩;refine EvQ.bind (qaq 12 p c) ?_;rintro⟨a3,a4,a5⟩ ⟨_,c⟩;dsimp only at t0 L c⊢;have t2:=L (by decide);refine EvQ.bindN (qcm (by omega)) ((ih (j+1) _ _ _ c (by omega) (by rw[jg,ji];omega) (qbM f ⟨qaX _,⟨qaX _,qaX _⟩,⟨qlC (x:=H) (by omega) (by omega),qaX _⟩⟩)).mono fun o t=>⟨⟨by have:=t.1.1;rw[jg,ji] at this;omega,t.1.2⟩,t.2⟩)
 unfold qeF;refine EvQ.bindE (qf0 B.ok) (EvQ.bif (fun _=>EvQ.done ⟨⟨jW _,fun _ h=>by cases h⟩,h⟩) (fun _=>EvQ.bindE (qhB B.sm) ?_));have D:((places b.Aa).map toSp).length=(places b.Aa).length:=jt ..;generalize (places b.Aa).map toSp=ps at D⊢;have A:∀(d j:Nat) (x:List qg) (l m:Int),SrcI code l m->j+d=ps.length->x.length<=2*j->(∀y,y∈x->qiN y) ->
   EvQ (fun n=>qch ⟨code,a,s⟩ ps n x l m (j:Int)) (fun o=>(o.1.length<=156/\∀y,y∈o.1->qiN y)/\SrcI code o.2.1 o.2.2.1):=by
  intro d
  induction d with
  |zero=>
   intro j x l m c C F f;refine EvQ.succ ?_;simp only[qch];exact EvQ.ff (qq (by omega)) (EvQ.done ⟨⟨by dsimp only;omega,f⟩,c⟩)
  |succ d ih=>
   intro j x l m c C F f;have r:j<ps.length:=by omega
   refine EvQ.succ ?_;simp only[qch,wS j];refine EvQ.tt (qp r) (EvQ.bind (R:=fun _=>True) (EvQ.bindN (qaZ r) (EvQ.bif (fun _=>EvQ.bindN (qaZ r) (EvQ.done trivial)) (fun _=>EvQ.done trivial))) (fun b1 _=>?_));refine EvQ.bind (two 2 0 x l m c Z (by omega) f) ?_;rintro⟨x2,i4,i5,i6⟩ ⟨⟨l2,N⟩,c⟩;exact ih (j+1) x2 i4 i5 c (by omega) (by dsimp only at l2;omega) N
 refine EvQ.bind (A ps.length 0 [] a s h (by omega) (je _) (fun _ h=>by cases h)) ?_;rintro⟨J,i1,i2,I⟩ ⟨⟨l1,u⟩,c⟩;dsimp only at l1 u c⊢;refine EvQ.bif (fun g=>?_) (fun _=>EvQ.done ⟨⟨by dsimp only;omega,u⟩,c⟩);have g:0<J.length:=by have:=of_decide_eq_true g;omega
 refine EvQ.bind (qaq _ p c) ?_;rintro⟨z,b9,c0⟩ ⟨⟨⟨q0,K⟩,_⟩,c⟩;dsimp only at q0 K c⊢;have q2:=K (by omega);obtain⟨k,rfl⟩:∃k:Nat,z=(k:Int):=⟨z.toNat,by omega⟩;have v:k<J.length:=by omega
 have i:=u _ (jo v);have M:=u _ (jo g);have W:∀{y:qg},qiN y->okL qiN (setS J (k:Int) y):=fun {y} h=>⟨by rw[qaY];omega,qiq u h⟩;refine EvQ.bind (qaq 30 p c) ?_;rintro⟨c2,c3,c4⟩ ⟨_,c⟩;dsimp only at c⊢;refine EvQ.bif (fun _=>EvQ.bindN (qaZ (j:=0) g) (EvQ.bindN (qaZ v) (EvQ.done ⟨W ⟨M.Bi,i.Af,i.Av⟩,c⟩))) (fun _=>EvQ.bif (fun _=>EvQ.bindN (qaZ v) (EvQ.bindN (qaZ v) (EvQ.done ⟨W ⟨i.Bi,⟨qaX _,i.Af.As⟩,i.Av⟩,c⟩))) (fun _=>EvQ.bif (fun _=>EvQ.bindN (qaZ v) (EvQ.done ⟨W ⟨i.Bi,i.Af,⟨qlC (x:=-1) (by decide) (by decide),i.Av.As⟩⟩,c⟩)) (fun _=>EvQ.bif (fun _=>EvQ.bindN (qaZ v) (EvQ.done ⟨W ⟨i.Bi,⟨i.Af.Ak,qlC (x:=1000000000) (by decide) (by decide)⟩,i.Av⟩,c⟩)) (fun _=>EvQ.done ⟨⟨by dsimp only;omega,u⟩,c⟩))))
structure CasI(b:qd)(c:qz)(br:List Int)(xs:List qg):Prop where
 bl:BlkO b
 co:qrR c
 br_:okL okI br
 sr:okL qiN xs
theorem qwg(d:CodeOk code)(h:SrcI code a s):EvQ (fun n=>qhQ n ⟨code,a,s⟩) (fun o=>CasI o.1 o.2.1 o.2.2.1 o.2.2.2.1/\SrcI code o.2.2.2.2.1 o.2.2.2.2.2):=by
 unfold qhQ;refine EvQ.bind (qsL d h) ?_;rintro⟨r1,J,K⟩ ⟨c,b⟩;refine EvQ.bind (qvt d b) ?_;rintro⟨T,L,M⟩ ⟨f,b⟩;refine EvQ.bind (qaq 3 d b) ?_;rintro⟨N,O,P⟩ ⟨_,b⟩;dsimp only at c f b⊢;refine EvQ.bind (R:=fun o:qd×Int×Int=>BlkO o.1/\SrcI code o.2.1 o.2.2) (EvQ.bif (fun _=>EvQ.bind (qnO (by decide) (by decide) d b) ?_) (fun _=>EvQ.done ⟨c,b⟩)) ?_
 .rintro⟨r9,F,H⟩ ⟨c,b⟩;exact EvQ.done ⟨⟨c.ok,c.des.sm⟩,b⟩
 rintro⟨I,Q,S⟩ ⟨c,b⟩;dsimp only at c b⊢;refine EvQ.bind (qwn c d b) ?_;rintro⟨W,r,t⟩ ⟨g,b⟩;dsimp only at g b⊢;refine EvQ.bind (R:=fun o:Int×Int×Bool=>SrcI code o.1 o.2.1/\(o.2.2=true->blockB I=true)) (EvQ.bindE (qf0 c.ok) (EvQ.bif (fun i=>EvQ.bif (fun _=>EvQ.bind (qaq 6 d b) ?_) (fun _=>EvQ.done ⟨b,fun e=>by cases e⟩)) (fun _=>EvQ.done ⟨b,fun e=>by cases e⟩))) ?_
 .rintro⟨B,C,D⟩ ⟨_,b⟩;exact EvQ.done ⟨b,fun _=>i⟩
 rintro⟨u,v,b1⟩ ⟨b,i⟩;dsimp only at b i⊢;refine EvQ.bif (fun k=>EvQ.bind (qwt (i k)) (fun X l=>EvQ.bind (qrz c d b) ?_)) (fun _=>EvQ.bind (qrz c d b) ?_)
 .rintro⟨Y,x,y⟩ ⟨m,b⟩;exact EvQ.done ⟨⟨c,f,l,m⟩,b⟩
 .rintro⟨r7,z,A⟩ ⟨p,b⟩;exact EvQ.done ⟨⟨c,f,g,p⟩,b⟩
end

theorem qnD{p f mode:Int}(c:0<=p)(p1:p<=1000000)(a:0<=f)(f1:f<=5000):0<=divI (p*f) 1000 mode/\divI (p*f) 1000 mode<=5000000:=by
 have b:0<=p*f:=jT c a;have d:p*f<=1000000*5000:=jX p1 f1 a (by omega);exact qlt (by omega) b (by omega)
theorem qo4{a b:Int}(d:0<b)(c:0<=a):divI a b 0<=divI a b 1:=by
 rw[qmr c d,qmr c d];rw[if_neg (by omega)];split<;>omega
theorem quP{a c b mode:Int}(d:0<b)(g:0<=a)(h:a<=c)(m:mode=0\/mode=1):divI a b mode<=divI c b mode:=by
 rw[qmr g d,qmr (by omega) d];have l:a / b<=c / b:=Int.ediv_le_ediv d h;rcases m with rfl|rfl
 .rw[if_neg (by omega),if_neg (by omega)];exact l
 .by_cases i:a % b > 0
  .rw[if_pos ⟨rfl,i⟩];by_cases k:c % b > 0
   .rw[if_pos ⟨rfl,k⟩];omega
   .rw[if_neg (by omega)];have e1:=Int.mul_ediv_add_emod a b;have f:=Int.mul_ediv_add_emod c b;have n1:=Int.emod_nonneg c (show b≠0 by omega);have z:c % b=0:=by omega
    refine Classical.byContradiction fun n=>?_;have:c / b=a / b:=by omega
    rw[this] at f;omega
  .rw[if_neg (by omega)];split<;>omega
theorem qtH{c:qz}(h:cornerB c=true){kind:Int}:∃f g:Int,(100<=f/\f<=g/\g<=5000)/\(∀n,qd4 n c kind 0=V f)/\∀n,qd4 n c kind 1=V g:=by
 unfold cornerB at h;simp only[jf,qaQ,decide_eq_true_eq] at h;obtain⟨⟨d,i,k,l⟩,_,a,b⟩:=h;unfold qd4;cases kind==1
 .exact⟨c.Bf,c.Bh,⟨by omega,b,by omega⟩,fun _=>rfl,fun _=>rfl⟩
 .exact⟨c.Bc,c.Bg,⟨by omega,a,by omega⟩,fun _=>rfl,fun _=>rfl⟩
theorem qqm{b:qd}{c:qz}(h:blockB b=true)(Q:cornerB c=true){k:Nat}(R:k<(linksL b).length){sl:Int}:∃D E:Int,(0<=D/\D<=E/\E<=5000000)/\Ev (fun n=>qbq n b c (gt (linksL b) k) sl 0) D/\Ev (fun n=>qbq n b c (gt (linksL b) k) sl 1) E:=by
 obtain⟨d,_⟩:=qfe h (qia R);generalize gt (linksL b) k=x at d;obtain⟨f,g,⟨X,f1,s⟩,I,J⟩:=qtH Q (kind:=x.Au);have H:∀{p q:Int},0<=p->p<=q->q<=1000000->divI (p*f) 1000 0<=divI (q*g) 1000 1:=fun {p q} r W Y=>by
  have P:p*f<=q*g:=jX W f1 (by omega) (by omega);have O:0<=p*f:=jT r (by omega);exact Int.le_trans (quP (by omega) O P (.inl Z)) (qo4 (by omega) (by omega))
 rcases d with⟨i,j,m,net,a,d⟩|⟨j,net,q,d⟩
 .have u:m<(gt (cellAt b (i:Int)).Ar a).Bn.length:=by rw[d.d2];exact d.ml
  obtain⟨T,A⟩:=d.dt _ (qia u);obtain⟨S,D,D0,S1,_,_,_,S0,o⟩:=qui T sl (load0 b net);obtain⟨B,r1⟩:=qlt (mode:=0) D0 (S0 A) S1;obtain⟨K,L⟩:=qlt (mode:=1) D0 (S0 A) S1;have z:=qo4 (a:=S) D0 (S0 A);obtain⟨c1,_⟩:=qmb (mode:=0) B (by omega) (show 0<=f by omega) (by omega);obtain⟨t,_⟩:=qmb (mode:=1) K (by omega) (show 0<=g by omega) s;have l:(x.Au==1)=true:=by rw[d.kind];rfl
  refine⟨divI (divI S D 0*f) 1000 0,divI (divI S D 1*g) 1000 1,⟨(qnD B r1 (by omega) (by omega)).1,H B z L,(qnD K L (by omega) s).2⟩,?_,?_⟩
  .unfold qbq;refine Ev.tt l (Ev.bind (qnP h d) ?_);simp only[d.mod,qw u,jd,I];exact Ev.bind (o 0).1 (Ev.bind ⟨0,fun n _=>c1 n⟩ .done)
  .unfold qbq;refine Ev.tt l (Ev.bind (qnP h d) ?_);simp only[d.mod,qw u,jd,J];exact Ev.bind (o 1).1 (Ev.bind ⟨0,fun n _=>t n⟩ .done)
 .have v:(exactL b net).length=(gt b.Ac net).Bb.length:=by unfold exactL;rw[jt]
  have F:q<(exactL b net).length:=by rw[v];exact d.kl
  obtain⟨C,x1⟩:=qof h d.nl d.kl;obtain⟨r,p1⟩:=qlt (a:=gt (exactL b net) q) (b:=1000) (mode:=0) (M:=344000) (by omega) C (by omega);obtain⟨N,e⟩:=qlt (a:=gt (exactL b net) q) (b:=1000) (mode:=1) (M:=344000) (by omega) C (by omega);have y:=qo4 (a:=gt (exactL b net) q) (b:=1000) (by omega) C;obtain⟨c1,_⟩:=qmb (mode:=0) r (by omega) (show 0<=f by omega) (by omega);obtain⟨t,_⟩:=qmb (mode:=1) N (by omega) (show 0<=g by omega) s;have l:(x.Au==1)=false:=by rw[d.kind];rfl
  have hi:∀mode:Int,idx ((exactL b net).map fun x=>divI x 1000 mode) (q:Int)=V (divI (gt (exactL b net) q) 1000 mode):=fun mode=>by
   rw[qw (by rw[jt];exact F),qn5 F]
  refine⟨divI (divI (gt (exactL b net) q) 1000 0*f) 1000 0,divI (divI (gt (exactL b net) q) 1000 1*g) 1000 1,⟨(qnD r (by omega) (by omega) (by omega)).1,H r y (by omega),(qnD N (by omega) (by omega) s).2⟩,?_,?_⟩
  .unfold qbq;refine Ev.ff l (Ev.bind (qlT h d) (Ev.bind (qjE h d.nl) ?_));simp only[d.ix,hi,jd,I];exact Ev.bind ⟨0,fun n _=>c1 n⟩ .done
  .unfold qbq;refine Ev.ff l (Ev.bind (qlT h d) (Ev.bind (qjE h d.nl) ?_));simp only[d.ix,hi,jd,J];exact Ev.bind ⟨0,fun n _=>t n⟩ .done
theorem qqE{b:qd}{c:qz}{f:Nat->qf->qf×qf}(h:blockB b=true)(l:cornerB c=true)(v:SpansS b c f){k:Nat}(a:k<(linksL b).length){s:qf}(o:slR s) :
  0<=(f k s).1.Ak/\(f k s).1.Ak<=(f k s).1.As/\(f k s).1.As<=5000000:=by
 have m:=(v k s a o).2;obtain⟨⟨e0,e1⟩,⟨l0,l1⟩⟩:=o;obtain⟨d,d2,⟨a1,a2,F⟩,p1,x⟩:=qqm h l a (sl:=s.Ak);obtain⟨g,i,⟨b1,b2,b3⟩,y,z⟩:=qqm h l a (sl:=s.As);obtain⟨_,⟨p,_,_,A,_⟩⟩:=qlg h l a e0 e1 (mode:=0) (.inl Z);obtain⟨_,⟨r,_,_,B,_⟩⟩:=qlg h l a e0 e1 (mode:=1) (.inr Z);obtain⟨_,⟨t,_,_,C,_⟩⟩:=qlg h l a l0 l1 (mode:=0) (.inl Z);obtain⟨_,⟨u,_,_,D,_⟩⟩:=qlg h l a l0 l1 (mode:=1) (.inr Z);have e:Ev (fun n=>qf7 n b c (gt (linksL b) k) s) (⟨if g<d then g else d,if i > d2 then i else d2⟩,⟨if t<p then t else p,if u > r then u else r⟩):=by
  unfold qf7;exact Ev.bind p1 (Ev.bind x (Ev.bind A (Ev.bind B (Ev.bind y (Ev.bind z (Ev.bind C (Ev.bind D .done)))))))
 rw[m.uniq e];refine⟨?_,?_,?_⟩
 .show 0<=(if g<d then g else d);split<;>omega
 .show(if g<d then g else d)<=(if i > d2 then i else d2);split<;>split<;>omega
 .show(if i > d2 then i else d2)<=5000000;split<;>omega

def fE(f:Nat->qf->qf×qf)(e:Nat->Int)(k:Nat)(s:qf):qf×qf:=(wideS (e k) (f k s).1,(f k s).2)
structure Nest(x y:qf):Prop where
 e0:-5000000000<=y.Ak
 e1:y.Ak<=x.Ak
 el:x.Ak<=x.As
 l1:x.As<=y.As
 l0:y.As<=5000000000
theorem Nest.hull{x y a b:qf}(h:Nest x y)(c:Nest a b):Nest (hullS x a) (hullS y b):=by
 obtain⟨a0,a1,a2,d,f⟩:=h;obtain⟨b0,b1,b2,b3,g⟩:=c;constructor
 .show -5000000000<=(if b.Ak<y.Ak then b.Ak else y.Ak);split<;>omega
 .show(if b.Ak<y.Ak then b.Ak else y.Ak)<=(if a.Ak<x.Ak then a.Ak else x.Ak);split<;>split<;>omega
 .show(if a.Ak<x.Ak then a.Ak else x.Ak)<=(if a.As > x.As then a.As else x.As);split<;>split<;>omega
 .show(if a.As > x.As then a.As else x.As)<=(if b.As > y.As then b.As else y.As);split<;>split<;>omega
 .show(if b.As > y.As then b.As else y.As)<=5000000000;split<;>omega
theorem qpm{s:qf}:spanB s=true↔(-1000000000<=s.Ak/\s.Ak<=s.As/\s.As<=1000000000):=by
 unfold spanB;simp only[jf,qaQ,decide_eq_true_eq];omega
theorem Nest.refl{x:qf}(h:spanB x=true):Nest x x:=by
 rw[qpm] at h;exact⟨by omega,by omega,by omega,by omega,by omega⟩
theorem Nest.plus{x y d:qf}{e1 e2:Int}(h:Nest x y)(a:spanB x=true)(b:spanB y=true)(g:0<=d.Ak)(i:d.Ak<=d.As)(d2:d.As<=5000000)(e0:0<=e1)(l:e1<=e2)(k:e2<=1000000000) :
  Nest (plusS x (wideS e1 d)) (plusS y (wideS e2 d)):=by
 rw[qpm] at a b;obtain⟨_,a1,_,f,_⟩:=h;have w1:plusS x (wideS e1 d)=⟨x.Ak+(d.Ak-e1),x.As+(d.As+e1)⟩:=by
  unfold plusS wideS;simp only;rw[wO (d.Ak-e1),wO (d.As+e1),qP (by omega) (by omega),qP (by omega) (by omega)]
 have c:plusS y (wideS e2 d)=⟨y.Ak+(d.Ak-e2),y.As+(d.As+e2)⟩:=by
  unfold plusS wideS;simp only;rw[wO (d.Ak-e2),wO (d.As+e2),qP (by omega) (by omega),qP (by omega) (by omega)]
 rw[w1,c];exact⟨by show -5000000000<=y.Ak+(d.Ak-e2);omega,by show y.Ak+(d.Ak-e2)<=x.Ak+(d.Ak-e1);omega,by show x.Ak+(d.Ak-e1)<=x.As+(d.As+e1);omega,by show x.As+(d.As+e1)<=y.As+(d.As+e2);omega,by show y.As+(d.As+e2)<=5000000000;omega⟩
structure NdR(s1 s2:Bool×qg):Prop where
 r:s1.1=s2.1
 sl:s1.2.Av=s2.2.Av
 ar:s1.1=true->Nest s1.2.Af s2.2.Af
structure Wd(t1 t2:qi)(M:Nat):Prop where
 o1:TmOk t1 M
 o2:TmOk t2 M
 r:∀k,k<M->gt t1.Aq k=gt t2.Aq k
 sl:∀k,k<M->gt t1.Av k=gt t2.Av k
 ar:∀k,k<M->gt t1.Aq k=true->spanB (gt t1.Af k)=true/\spanB (gt t2.Af k)=true/\Nest (gt t1.Af k) (gt t2.Af k)
section
variable{b:qd}{c:qz}{f:Nat->qf->qf×qf}{e1 e2:Nat->Int}{lv:List Bool}{xs:List qg}{t1 t2:qi}
theorem qt2(h:blockB b=true)(o:cornerB c=true)(r:SpansS b c f)(p:∀k,0<=e1 k/\e1 k<=e2 k/\e2 k<=1000000000)(i:Wd t1 t2 (2*(places b.Aa).length)){node:Int}{s1 s2:Bool×qg}(g:NdR s1 s2){k:Nat}(l:k<(linksL b).length) :
  NdR (stepS (fE f e1) (linksL b) t1 node s1 k) (stepS (fE f e2) (linksL b) t2 node s2 k):=by
 have a:frN (linksL b) k<2*(places b.Aa).length:=by
  have:=(qfe h (qia l)).2.1;unfold frN;omega
 unfold stepS;rw[<-i.r _ a,<-i.sl _ a];cases hr:gt t1.Aq (frN (linksL b) k)
 .exact g
 .obtain⟨a1,a2,n⟩:=i.ar _ a hr;obtain⟨s,t,u⟩:=qqE h o r l (i.o1.sl _ a);obtain⟨v,x,y⟩:=p k;have m:=n.plus (d:=(f k (gt t1.Av (frN (linksL b) k))).1) a1 a2 s t u v x y;show NdR (joinS node s1 (plusS _ (wideS (e1 k) _)) (f k (gt t1.Av (frN (linksL b) k))).2) (joinS node s2 (plusS _ (wideS (e2 k) _)) (f k (gt t1.Av (frN (linksL b) k))).2);unfold joinS;rw[<-g.r];cases h1:s1.1
  .exact⟨rfl,rfl,fun _=>m⟩
  .exact⟨rfl,by show hullS s1.2.Av _=hullS s2.2.Av _;rw[g.sl],fun _=>(g.ar h1).hull m⟩
theorem qvJ(h:blockB b=true)(a:cornerB c=true)(g:SpansS b c f)(d:∀k,0<=e1 k/\e1 k<=e2 k/\e2 k<=1000000000)(l:Wd t1 t2 (2*(places b.Aa).length)){node:Int}{s:Bool×qg}(i:NdR s s) :
  ∀j,j<=(linksL b).length->NdR (ndS (fE f e1) (linksL b) lv t1 node s j) (ndS (fE f e2) (linksL b) lv t2 node s j):=by
 intro j
 induction j with
 |zero=>intro _;exact i
 |succ j ih=>
  intro m;show NdR (bif toQ (linksL b) lv node j then _ else _) (bif toQ (linksL b) lv node j then _ else _);cases toQ (linksL b) lv node j
  .exact ih (by omega)
  .exact qt2 h a g d l (ih (by omega)) (by omega)
theorem qvQ(h:blockB b=true)(D:cornerB c=true)(v:SpansS b c f)(F:∀k,0<=e1 k/\e1 k<=e2 k/\e2 k<=1000000000)(C:SrcOk xs)(A:∀x,x∈xs->spanB x.Af=true) :
  ∀(R:List Nat) (t1 t2 l:qi),(∀k,k∈R->k<2*(places b.Aa).length)->Wd t1 t2 (2*(places b.Aa).length)->rnO (fE f e2) (linksL b) lv xs R t2=V l ->
   ∃t1',rnO (fE f e1) (linksL b) lv xs R t1=V t1'/\Wd t1' l (2*(places b.Aa).length):=by
 intro R
 induction R with
 |nil=>intro t1 t2 l _ a e;obtain rfl:=Option.some.inj e;exact⟨t1,rfl,a⟩
 |cons k R ih=>
  intro t1 t2 l u a e;have g:=u k (js ..);have z:NdR (srcV (srcO xs (k:Int))) (srcV (srcO xs (k:Int))):=⟨rfl,rfl,fun t=>by
   cases ho:srcO xs (k:Int) with
   |none=>rw[ho] at t;cases t
   |some y=>exact Nest.refl (A y (ql4 ho).2)⟩
  have m:=qvJ (lv:=lv) (node:=(k:Int)) h D v F a z (linksL b).length (je _);have r:=qkJ (f:=fE f e1) (lv:=lv) (node:=(k:Int)) h v (fun _ _=>rfl) a.o1 C (linksL b).length (je _);have s:=qkJ (f:=fE f e2) (lv:=lv) (node:=(k:Int)) h v (fun _ _=>rfl) a.o2 C (linksL b).length (je _);unfold rnO at e⊢;generalize ndS (fE f e1) (linksL b) lv t1 (k:Int) (srcV (srcO xs (k:Int))) (linksL b).length=s1 at m r⊢;generalize ndS (fE f e2) (linksL b) lv t2 (k:Int) (srcV (srcO xs (k:Int))) (linksL b).length=s2 at m s e;rw[m.r];cases h1:s2.1
  .rw[h1] at e;exact ih _ _ _ (fun i hi=>u i (jp _ hi)) a e
  .rw[h1] at e;have p:=m.ar (by rw[m.r];exact h1);cases h2:spanB s2.2.Af
   .rw[h2] at e;cases e
   .rw[h2] at e;have B:spanB s1.2.Af=true:=by
     rw[qpm] at h2⊢;obtain⟨_,a1,a2,H,_⟩:=p;omega
    rw[B];refine ih _ _ _ (fun i hi=>u i (jp _ hi)) ⟨qnN a.o1 g r,qnN a.o2 g s,fun j o=>?_,fun j o=>?_,fun j o t=>?_⟩ e
    .show gt (setS _ _ _) j=gt (setS _ _ _) j;rw[qef (by rw[a.o1.r];exact g),qef (by rw[a.o2.r];exact g)];split
     .exact m.r
     .exact a.r j o
    .show gt (setS _ _ _) j=gt (setS _ _ _) j;rw[qef (by rw[a.o1.s];exact g),qef (by rw[a.o2.s];exact g)];split
     .exact m.sl
     .exact a.sl j o
    .have n:gt (setS t1.Aq (k:Int) s1.1) j=true:=t;rw[qef (by rw[a.o1.r];exact g)] at n;show spanB (gt (setS _ _ _) j)=true/\spanB (gt (setS _ _ _) j)=true/\Nest (gt (setS _ _ _) j) (gt (setS _ _ _) j);rw[qef (by rw[a.o1.a];exact g),qef (by rw[a.o2.a];exact g)];by_cases d:j=k
     .rw[if_pos d,if_pos d];exact⟨B,h2,p⟩
     .rw[if_neg d,if_neg d];rw[if_neg d] at n;exact a.ar j o n
theorem Wd.start{M:Nat}:Wd (zTm M) (zTm M) M:=⟨qog,qog,fun _ _=>rfl,fun _ _=>rfl,fun k b a=>by
 have:gt (zTm M).Aq k=false:=qq0 b;rw[this] at a;cases a⟩
end

theorem qtw(x:Int):W64 x=(x+9223372036854775808) % 18446744073709551616-9223372036854775808:=by
 unfold W64;rw[Go.IntWalk.i64_left];unfold RowKit.wrap64
 rfl
theorem qtm{a d e:Int}:W64 (W64 (a+d)-e)=W64 (a+W64 (d-e)):=by
 simp only[qtw];omega
theorem qvh{a d e:Int}:W64 (W64 (a+d)+e)=W64 (a+W64 (d+e)):=by
 simp only[qtw];omega
theorem qro{x:Int}:W64 (W64 x)=W64 x:=by
 simp only[qtw];omega
section
variable{b:qd}{c:qz}{ex:List Int}{f:Nat->qf->qf×qf}{lv:List Bool}{t:qi}{xs:List qg}{node:Int}
theorem qxp{xs:List qg}{node:Int}(h:SrcOk xs) :
  Ev (fun n=>qem xs node n 0 0 0 0 0 false 0) ((srcV (srcO xs node)).2.Bi,(srcV (srcO xs node)).2.Af.Ak,(srcV (srcO xs node)).2.Af.As,(srcV (srcO xs node)).2.Av.Ak,(srcV (srcO xs node)).2.Av.As,(srcV (srcO xs node)).1,(xs.length:Int)):=by
 have e:∀n i1 i2 i3 i4 i5 b1 i6,qem xs node n i1 i2 i3 i4 i5 b1 i6=qdq xs node n i1 i2 i3 i4 i5 b1 i6:=by
  intro n
  induction n with
  |zero=>intros;rfl
  |succ n ih=>intros;simp only[qem,qdq,ih]
 simp only[e];exact qw4 h
theorem qvz(h:blockB b=true)(r:ex.length=b.Ac.length){k:Nat}(s:k<(linksL b).length){q:qf×qf}(v:q=f k (gt t.Av (frN (linksL b) k)))(a:qf) :
  ∃e:Int,Ev (fun n=>bif ((gt (linksL b) k).Au==2) then(qhz n b (gt (linksL b) k)).bind fun x=>(idx ex x).bind fun l=>V l else V 0) e /\
   (⟨W64 (W64 (a.Ak+q.1.Ak)-e),W64 (W64 (a.As+q.1.As)+e)⟩:qf)=plusS a (wideF b ex f k (gt t.Av (frN (linksL b) k))).1/\q.2=(wideF b ex f k (gt t.Av (frN (linksL b) k))).2:=by
 subst v;obtain⟨d,_,p⟩:=qfe h (qia s);unfold wideF exK;rcases d with⟨i,j,m,net,y,hx⟩|⟨j,net,y,hx⟩
 .have c:((gt (linksL b) k).Au==2)=false:=by rw[hx.kind];rfl
  rw[c,Bool.and_false];refine⟨0,.done,?_,rfl⟩;unfold plusS;simp only[Int.sub_zero,Jd,cond_false];rw[qro,qro]
 .have c:((gt (linksL b) k).Au==2)=true:=by rw[hx.kind];rfl
  have g:net<ex.length:=by have:=hx.nl;omega
  have u:=qaW (qZ (qao h));have o:((gt (linksL b) k).To / 2).toNat=j:=by
   have:=hx.half;rw[jD p.1,qP (by omega) (by omega)] at this;omega
  rw[c,decide_eq_true (show 0<ex.length by omega),Bool.and_true,o,hx.net_,jq];refine⟨gt ex net,Ev.bind (qlT h hx) ?_,?_,rfl⟩
  .rw[qw g];exact .done
  .simp only[cond_true];unfold plusS wideS;rw[qtm,qvh]
theorem qvF(h:blockB b=true)(y:SpansS b c f)(l:ex.length=b.Ac.length)(C:lv.length=(linksL b).length)(k:TmOk t (2*(places b.Aa).length))(A:SrcOk xs) :
  Ev (fun n=>qi8 n b c (linksL b) lv xs ex t node) (ndS (wideF b ex f) (linksL b) lv t node (srcV (srcO xs node)) (linksL b).length):=by
 have o:=qkI h;have z:=o.len;obtain⟨g,m⟩:∃g,g=wideF b ex f:=⟨_,rfl⟩;have x:=loopF (τ:=Bool×qg) (Lf:=fun n s j=>qdm b c (linksL b) lv ex t node n s.2.Bi s.2.Af.Ak s.2.Af.As s.2.Av.Ak s.2.Av.As s.1 j) (S:=fun j=>ndS g (linksL b) lv t node (srcV (srcO xs node)) j) (len:=(linksL b).length)
  (fin:=(fun s:Bool×qg=>(s.2.Bi,s.2.Af.Ak,s.2.Af.As,s.2.Av.Ak,s.2.Av.As,s.1,((linksL b).length:Int))) (ndS g (linksL b) lv t node (srcV (srcO xs node)) (linksL b).length))
  (fun n=>by simp only[qdm,qq (je _),cond_false])
  (fun j d X a=>by
   obtain⟨e1,i⟩:=qsc o d;have v:ndS g (linksL b) lv t node (srcV (srcO xs node)) (j+1)=bif toQ (linksL b) lv node j then stepS g (linksL b) t node (ndS g (linksL b) lv t node (srcV (srcO xs node)) j) j else ndS g (linksL b) lv t node (srcV (srcO xs node)) j:=rfl;rw[v] at a;generalize ndS g (linksL b) lv t node (srcV (srcO xs node)) j=s at a⊢;simp only[qdm,qp d,cond_true,qw d,qw (show j<lv.length by omega),jd,e1,qw (show frN (linksL b) j<t.Aq.length by rw[k.r];exact i),qw (show frN (linksL b) j<t.Af.length by rw[k.a];exact i),qw (show frN (linksL b) j<t.Av.length by rw[k.s];exact i),wS j];unfold toQ lvL toL at a;cases h1:gt lv j
   .rw[h1] at a;exact a
   rw[h1,jy] at a;cases h2:(gt (linksL b) j).To==node
   .rw[h2] at a;simp only[bne,h2];exact a
   rw[h2] at a;simp only[bne,h2];unfold stepS at a;cases h3:gt t.Aq (frN (linksL b) j)
   .rw[h3] at a;exact a
   rw[h3] at a;simp only[cond_true] at a;obtain⟨_,s1⟩:=y j _ d (k.sl _ i);obtain⟨q,p⟩:∃q,q=f j (gt t.Av (frN (linksL b) j)):=⟨_,rfl⟩;obtain⟨e,B,r,u⟩:=qvz h l d p (gt t.Af (frN (linksL b) j));rw[<-p] at s1;rw[<-m] at r u;rw[<-r,<-u] at a;refine Ev.bind (b:=false) (Ev.now Z) (Ev.ff Z (Ev.bind s1 (Ev.bind B ?_)));unfold joinS at a;cases h4:s.1
   .rw[h4] at a;exact a
   .rw[h4] at a;simp only[qi7,jd,cond_true];have a1:=qrw (s:=s.2.Af) (t:=(⟨W64 (W64 ((gt t.Af (frN (linksL b) j)).Ak+q.1.Ak)-e),W64 (W64 ((gt t.Af (frN (linksL b) j)).As+q.1.As)+e)⟩:qf));have a2:=qrw (s:=s.2.Av) (t:=q.2);simp only[cond_true] at a;rw[<-a1,<-a2] at a;exact a)
 rw[<-m];unfold qi8;exact Ev.bind (qxp A) (Ev.bind x .done)
theorem qxw{br:List Int}(h:blockB b=true)(F:SpansS b c f)(y:ex.length=b.Ac.length)(x:br.length<=1048576)(H:SrcOk xs){R:List Nat}(I:∀k,k∈R->k<2*(places b.Aa).length)(J:R.length<=1000) :
  Ev (fun n=>qhm n b c br xs ex (ints R)) (runR (rnO (wideF b ex f) (linksL b) (lvJ b br) xs R (zTm (2*(places b.Aa).length)))):=by
 have N:=qaW (qZ (qao h));have m:=qlc h;have z:=qkV h;have Q:=qod (ls:=linksL b) (br:=br) z x;have L:(lvJ b br).length=(linksL b).length:=qlw;have C:∀k s,(wideF b ex f k s).2=(f k s).2:=fun k s=>by
  unfold wideF;cases decide (0<ex.length)&&((gt (linksL b) k).Au==2)<;>rfl
 obtain⟨M,u⟩:∃M,M=2*(places b.Aa).length:=⟨_,rfl⟩;have S:M<=156:=by omega
 have r:∀d j t,j+d=R.length->TmOk t M->Ev (fun n=>qcD b c xs ex (ints R) (linksL b) (lvJ b br) n t.Av t.Af t.Aq (j:Int)) (runL (rnO (wideF b ex f) (linksL b) (lvJ b br) xs (R.drop j) t) R.length):=by
  intro d
  induction d with
  |zero=>
   intro j t K g;obtain rfl:j=R.length:=by omega
   rw[List.drop_length];refine Ev.succ ?_;simp only[qcD,qbE,qq (je _),cond_false];exact .done
  |succ d ih=>
   intro j t K g;have a:j<R.length:=by omega
   have l:=I _ (jo a);have hi:=qoS a;have D:R.drop j=R[j]::R.drop (j+1):=jV a;generalize R[j]=k at l hi D;rw[<-u] at l;have v:=qvF (node:=(k:Int)) h F y L (by rw[<-u];exact g) H;have p:=qkJ (node:=(k:Int)) (lv:=lvJ b br) h F C (by rw[<-u];exact g) H (linksL b).length (je _);have P:idx t.Aq (k:Int)=V (gt t.Aq k):=qw (by rw[g.r];exact l);have O:idx t.Af (k:Int)=V (gt t.Af k):=qw (by rw[g.a];exact l);have is:idx t.Av (k:Int)=V (gt t.Av k):=qw (by rw[g.s];exact l);have i:∀n,qcD b c xs ex (ints R) (linksL b) (lvJ b br) (n+1) t.Av t.Af t.Aq (j:Int)=(qi8 n b c (linksL b) (lvJ b br) xs ex t (k:Int)).bind fun(r4,r5)=>bif (!r4) then qcD b c xs ex (ints R) (linksL b) (lvJ b br) n t.Av t.Af t.Aq ((j+1:Nat):Int) else bif (!spanB r5.Af) then V (.ret (zT,false)) else
     qcD b c xs ex (ints R) (linksL b) (lvJ b br) n (setS t.Av (k:Int) r5.Av) (setS t.Af (k:Int) r5.Af) (setS t.Aq (k:Int) true) ((j+1:Nat):Int):=fun n=>by
    simp only[qcD,qbE,qp a,cond_true,hi,jd,qqD,P,O,is,wS j]
    rfl
   rw[D];unfold rnO;generalize ndS (wideF b ex f) (linksL b) (lvJ b br) t (k:Int) (srcV (srcO xs (k:Int))) (linksL b).length=s at v p⊢;obtain⟨s1,s2⟩:=s;cases s1
   .exact Ev.step i (Ev.bind v (ih (j+1) t (by omega) g))
   .cases hsp:spanB s2.Af
    .refine Ev.step i (Ev.bind v ?_);simp only[hsp];exact .done
    .refine Ev.step i (Ev.bind v ?_);simp only[hsp];exact ih (j+1) (setT t k (true,s2)) (by omega) (qnN g l p)
 have A:mkS (M:Int) false=V (List.replicate M false):=qko (by omega);have B:mkS (M:Int) (⟨0,0⟩:qf)=V (List.replicate M zSp):=qko (by omega);have o2:=r R.length 0 (zTm M) (by omega) qog;rw[List.drop_zero] at o2;rw[<-u] at m⊢;unfold qhm qlJ;refine Ev.bind (qj7 h) (Ev.bind Q (Ev.bind m ?_));simp only[A,B,jd];refine Ev.bind o2 ?_;cases rnO (wideF b ex f) (linksL b) (lvJ b br) xs R (zTm M)<;>exact .done
end

instance:Inhabited qm:=⟨⟨0,0,0⟩⟩
def cplB(b:qd)(y:qm):Bool:=netB b.Aa y.A&&(netB b.Aa y.B&&(decide (y.A<y.B)&&inI y.Bp 1 10000))
def ltC(x y:qm):Bool:=decide (x.A<y.A) || ((x.A==y.A)&&decide (x.B<y.B))
def cplsB(b:qd)(ks:List qm):Bool:=allN (fun j=>cplB b (gt ks j)&&(decide (j=0) || ltC (gt ks (j-1)) (gt ks j))) ks.length&&decide (ks.length<=20)
def cmp3(x y:Int):Int:=if x<y then -1 else if x > y then 1 else 0
theorem qxK{n:Nat}{x y:Int}:qfP n x y=V (cmp3 x y):=by
 simp only[qfP,qez,bne_self_eq_false,jd,cond_false];unfold cmp3;by_cases a:x<y
 .simp[a]
 .by_cases b:x > y
  .simp[a,b]
  .simp[a,b]
theorem or3{x y:Int}{n:Nat}:qib [x,y] (n+3) 0=bif x != 0 then V (.ret x) else bif y != 0 then V (.ret y) else V (.nxt 2):=rfl
theorem qyn{x y:Int}:Ev (fun n=>qmg n [x,y]) (if x=0 then y else x):=by
 unfold qmg;refine Ev.bind (b:=bif x != 0 then .ret x else bif y != 0 then .ret y else .nxt 2) (Ev.succ (Ev.succ (Ev.succ ?_))) ?_
 .refine⟨0,fun n _=>?_⟩;show qib [x,y] (n+3) 0=_;rw[or3];cases (x != 0)<;>cases (y != 0)<;>rfl
 .by_cases a:x=0
  .subst a;by_cases c:y=0
   .subst c;exact .done
   .have:(y != 0)=true:=by simpa using c
    rw[this];exact .done
  .have:(x != 0)=true:=by simpa using a
   rw[this,if_neg a];exact .done
theorem qxS{x y:qm}:decide ((if cmp3 x.A y.A=0 then cmp3 x.B y.B else cmp3 x.A y.A)>=0) = !ltC x y:=by
 unfold cmp3 ltC;by_cases b:x.A<y.A
 .simp[b]
 .by_cases d:x.A > y.A
  .have:¬ x.A=y.A:=by omega
   simp[b,d,this]
  .have:x.A=y.A:=by omega
   rw[this];by_cases a:x.B<y.B
   .simp[a]
   .by_cases c:x.B > y.B
    .simp[a,c]
    .simp[a,c]
theorem qiy{b:qd}{ks:List qm}(k:b.Aa.Ah.length<=1048576)(l:ks.length<=1048576):Ev (fun n=>qb9 n b ks) (cplsB b ks):=by
 have i:Ev (fun n=>qa6 b ks n 0) (bif allN (fun j=>cplB b (gt ks j)&&(decide (j=0) || ltC (gt ks (j-1)) (gt ks j))) ks.length then .nxt (ks.length:Int) else .ret false):=by
  refine qeo ?_ (fun j c X a=>Ev.succ ?_)
  .exact Ev.succ (by simp only[qa6,qq (je _),cond_false];exact .done)
  .simp only[qa6,qp c,cond_true,qw c,jd,wS j,qq2 (d:=⟨b.Aa.Ab,b.Aa.Ah,b.Aa.Ai⟩) k,qdR,qxK,qcb];refine Ev.chkT ?_ fun _=>?_
   .unfold cplB;refine Ev.orBP fun _=>Ev.orBP fun _=>?_;rw[show decide ((gt ks j).A>=(gt ks j).B) = !decide ((gt ks j).A<(gt ks j).B) by rw[jj];simp,qcb];exact Ev.orBP fun _=>.done
   .by_cases h:j=0
    .subst h;exact Ev.ff (by decide) a
    .have f:decide (j=0)=false:=by simp;omega
     have g:decide ((j:Int) > 0)=true:=by simp;omega
     rw[f,g,qd7 (show j<=9223372036854775807 by omega),show(j:Int)-1=((j-1:Nat):Int) by omega,qw (show j-1<ks.length by omega)];simp only[cond_true,jd,Jj];refine Ev.bind qyn ?_;rw[qxS];simp only[qcb];exact Ev.okP1 fun _=>a
 unfold qb9 cplsB;refine Ev.bind i ?_;cases allN (fun j=>cplB b (gt ks j)&&(decide (j=0) || ltC (gt ks (j-1)) (gt ks j))) ks.length
 .exact .done
 .refine Ev.now ?_;show V (decide ((ks.length:Int)<=((20:Nat):Int)))=V (true&&decide (ks.length<=20));rw[qlh,jy]
theorem qkh{b:qd}{ks:List qm}(p:b.Aa.Ah.length<=1048576)(r:ks.length<=1048576):Ev (fun n=>qeb n b ks) (cplsB b ks):=by
 have o:Ev (fun n=>qbK b ks n 0) (bif allN (fun j=>cplB b (gt ks j)&&(decide (j=0) || ltC (gt ks (j-1)) (gt ks j))) ks.length then .nxt (ks.length:Int) else .ret false):=by
  refine qeo ?_ (fun j g X f=>Ev.succ ?_)
  .exact Ev.succ (by simp only[qbK,qq (je _),cond_false];exact .done)
  .simp only[qbK,qp g,cond_true,qw g,jd,wS j,qoX p,qc1,qd7 (show b.Aa.Ah.length<=9223372036854775807 by omega)];rw[show inI (gt ks j).A 0 ((b.Aa.Ah.length:Int)-1)=netB b.Aa (gt ks j).A from rfl];refine Ev.chkT ?_ fun _=>?_
   .unfold cplB;simp only[qcb];refine Ev.orBP fun l=>?_;have m:0<=(gt ks j).A/\(gt ks j).A<=(b.Aa.Ah.length:Int)-1:=qaQ.1 l;rw[qP (show -9223372036854775808<=(gt ks j).A+1 by omega) (by omega)];rw[<-Bool.and_assoc];have e:inI (gt ks j).B ((gt ks j).A+1) ((b.Aa.Ah.length:Int)-1)=(netB b.Aa (gt ks j).B&&decide ((gt ks j).A<(gt ks j).B)):=by
     unfold netB inI;rw[jj];simp;omega
    rw[e];exact Ev.orBP fun _=>.done
   .by_cases k:j=0
    .subst k;exact Ev.ff (by decide) f
    .have h:decide (j=0)=false:=by simp;omega
     have i:decide ((j:Int) > 0)=true:=by simp;omega
     rw[h,i,qd7 (show j<=9223372036854775807 by omega),show(j:Int)-1=((j-1:Nat):Int) by omega,qw (show j-1<ks.length by omega)];simp only[cond_true,jd,Jj];unfold ltC;by_cases d:(gt ks (j-1)).A > (gt ks j).A
     .have a:¬ (gt ks (j-1)).A<(gt ks j).A:=by omega
      have c:¬ (gt ks (j-1)).A=(gt ks j).A:=by omega
      simp only[d,a,c,decide_true,decide_false,cond_true,Jj,beq_eq_false_iff_ne.2 c,Bool.false_and,cond_false];exact .done
     .by_cases c:(gt ks (j-1)).A=(gt ks j).A
      .have a:¬ (gt ks (j-1)).A<(gt ks j).A:=by omega
       simp only[d,a,decide_false,cond_false,Jj,beq_iff_eq.2 c,cond_true,jy];rw[show decide ((gt ks (j-1)).B>=(gt ks j).B) = !decide ((gt ks (j-1)).B<(gt ks j).B) by rw[jj];simp];simp only[qcb];exact Ev.okP1 fun _=>f
      .have a:(gt ks (j-1)).A<(gt ks j).A:=by omega
       simp only[d,a,decide_false,decide_true,cond_false,beq_eq_false_iff_ne.2 c,Bool.true_or,cond_true];exact f
 unfold qeb cplsB;refine Ev.bind o ?_;cases allN (fun j=>cplB b (gt ks j)&&(decide (j=0) || ltC (gt ks (j-1)) (gt ks j))) ks.length
 .exact .done
 .refine Ev.now ?_;show V (decide ((ks.length:Int)<=((20:Nat):Int)))=V (true&&decide (ks.length<=20));rw[qlh,jy]

def TmL(t:qi)(M:Nat):Prop:=t.Aq.length=M/\t.Af.length=M
def winO(t:qi)(m:Nat):qf×Bool:=
 bif gt t.Aq m then bif gt t.Aq (m+1) then(hullS (gt t.Af m) (gt t.Af (m+1)),true) else(gt t.Af m,true) else bif gt t.Aq (m+1) then(gt t.Af (m+1),true) else(zSp,false)
def winB(b:qd)(t:qi)(net:Int):qf×Bool:=winO t (2*dvN b.Aa net.toNat)
section
variable{b:qd}{t:qi}{net:Int}
theorem qwz(h:blockB b=true)(a:netB b.Aa net=true):∃k:Nat,net=(k:Int)/\k<b.Aa.Ah.length/\dvN b.Aa k<(places b.Aa).length/\(places b.Aa).length<=78/\(gt (places b.Aa) (dvN b.Aa k)).net=net/\(gt (places b.Aa) (dvN b.Aa k)).drives=true:=by
 unfold netB at a;rw[qaQ] at a;have c:net.toNat<b.Aa.Ah.length:=by omega
 obtain⟨d,f⟩:=qih (qao h) c;obtain⟨g,i⟩:=qme.1 f;exact⟨net.toNat,qdx a.1,c,d,qaW (qZ (qao h)),by rw[g];exact(qdx a.1).symm,i⟩
theorem qqK(h:blockB b=true)(l:TmL t (ndB b))(g:netB b.Aa net=true):Ev (fun n=>qhr n b t net) (winB b t net):=by
 obtain⟨k,rfl,p,a,i,d,f⟩:=qwz h g;obtain⟨r,s⟩:=l;have o:ndB b=2*(places b.Aa).length:=rfl;unfold qhr winB;rw[jq];refine Ev.bind (qoB h a d f) ?_;generalize dvN b.Aa k=m at a;have e1:W64 (2*(m:Int))=((2*m:Nat):Int):=by rw[qP (by omega) (by omega)];omega
 have c:W64 (((2*m:Nat):Int)+1)=((2*m+1:Nat):Int):=by rw[qP (by omega) (by omega)];omega
 simp only[e1,c,qw (show 2*m<t.Aq.length by omega),qw (show 2*m+1<t.Aq.length by omega),qw (show 2*m<t.Af.length by omega),qw (show 2*m+1<t.Af.length by omega),jd];unfold winO;cases gt t.Aq (2*m)<;>cases gt t.Aq (2*m+1)<;>exact .done
theorem qu7{m:Nat}(b:m+1<t.Aq.length)(c:m+1<t.Af.length):Ev (fun n=>qlp n t [(m:Int),((m+1:Nat):Int)]) (winO t m):=by
 have d:decide ((0:Int)<(([(m:Int),((m+1:Nat):Int)]:List Int).length:Int))=true:=rfl;have d2:decide ((1:Int)<(([(m:Int),((m+1:Nat):Int)]:List Int).length:Int))=true:=rfl;have a:decide ((2:Int)<(([(m:Int),((m+1:Nat):Int)]:List Int).length:Int))=false:=rfl;have g:idx [(m:Int),((m+1:Nat):Int)] 0=V (m:Int):=rfl;have h:idx [(m:Int),((m+1:Nat):Int)] 1=V ((m+1:Nat):Int):=rfl;have w1:W64 (0+1)=1:=rfl;have f:W64 (1+1)=2:=rfl;unfold qlp winO;cases r1:gt t.Aq m<;>cases r2:gt t.Aq (m+1)<;>refine⟨3,fun n i=>?_⟩<;>obtain⟨n,rfl⟩:∃k,n=k+3:=⟨n-3,by omega⟩ <;>
  simp only[qhD,d,d2,a,g,h,w1,f,cond_true,cond_false,jd,qw (show m<t.Aq.length by omega),qw b,qw (show m<t.Af.length by omega),qw c,r1,r2,qdM,qhl,Jh,Bool.not_false]<;>rfl
theorem qrS(ex:List Int)(h:blockB b=true)(y:TmL t (ndB b))(u:netB b.Aa net=true):Ev (fun n=>qgw n (V (viewE b ex)) t net) (winB b t net):=by
 obtain⟨k,rfl,s,c,v,g,l⟩:=qwz h u;obtain⟨A,B⟩:=y;have z:ndB b=2*(places b.Aa).length:=rfl;have e:ixL (fun q:Tplace=>(q.net==(k:Int))&&q.drives) (places b.Aa)=(dvN b.Aa k:Int):=by
  refine qty c (by rw[g,l];simp) (fun i hi a=>?_);simp only[jf,beq_iff_eq] at a;exact(qtf (qao h) s hi a.1 a.2).symm
 have p:Ev (fun n=>qap n (places b.Aa) (k:Int)) (dvN b.Aa k:Int):=by
  rw[<-e];exact qfj (fin:=((places b.Aa).length:Int)) (Lf:=qV (places b.Aa) (k:Int)) (xs:=places b.Aa) (pf:=fun n x=>qgP n x (k:Int)) (fun x _=>by
    unfold qgP;cases x.net==(k:Int)<;>exact .done)
   (fun n=>by simp only[qV,qq (je _),cond_false])
   (fun n j x d=>by
    have r:=(List.getElem?_eq_some_iff.1 d).1;simp only[qV,qp r,cond_true,qgC d,jd,wS j])
   (fun n=>by unfold qap;congr 1;funext o;cases o<;>rfl)
 unfold qgw winB;rw[jq];show Ev (fun n=>(qap n (places b.Aa) (k:Int)).bind _) _;refine Ev.bind p ?_;generalize dvN b.Aa k=m at c;have e1:W64 (2*(m:Int))=((2*m:Nat):Int):=by rw[qP (by omega) (by omega)];omega
 have f:W64 (((2*m:Nat):Int)+1)=((2*m+1:Nat):Int):=by rw[qP (by omega) (by omega)];omega
 simp only[e1,f];exact Ev.bind (qu7 (t:=t) (m:=2*m) (by omega) (by omega)) .done
end
def actQ(b:qd)(t:qi)(ks:List qm)(k:Nat):Bool:=
 (winB b t (gt ks k).A).2&&((winB b t (gt ks k).B).2&&(decide ((winB b t (gt ks k).A).1.Ak<=(winB b t (gt ks k).B).1.As)&&decide ((winB b t (gt ks k).B).1.Ak<=(winB b t (gt ks k).A).1.As)))
theorem qi5{b:qd}{ks:List qm}(h:cplsB b ks=true):ks.length<=20/\∀k,k<ks.length->netB b.Aa (gt ks k).A=true/\netB b.Aa (gt ks k).B=true/\(gt ks k).A<(gt ks k).B:=by
 unfold cplsB at h;rw[jf,qai,decide_eq_true_eq] at h;refine⟨h.2,fun k a=>?_⟩;have:=h.1 k a;unfold cplB at this;simp only[jf,decide_eq_true_eq] at this;exact⟨this.1.1,this.1.2.1,this.1.2.2.1⟩
section
variable{b:qd}{t:qi}{ks:List qm}
theorem qqN(h:blockB b=true)(f:TmL t (ndB b))(i:cplsB b ks=true):Ev (fun n=>qhu n b t ks) (ints (selN (actQ b t ks) ks.length)):=by
 obtain⟨p,k⟩:=qi5 i;have g:Ev (fun n=>qcw b t ks n ([]:List Int) 0) (ints (selN (actQ b t ks) ks.length),(ks.length:Int)):=by
  refine qkG (q:=actQ b t ks) (Lf:=qcw b t ks) (len:=ks.length) (by omega) (Ev.succ ?_) (fun j d s l X c a=>?_)
  .simp only[qcw,qq (je _),cond_false];exact .done
  .obtain⟨m,o,_⟩:=k j d;simp only[qcw,qp d,cond_true,qw d,jd,l,wS j];refine Ev.bind (qqK h f m) (Ev.bind (qqK h f o) ?_);unfold actQ at c a;generalize winB b t (gt ks j).A=u at c a⊢;generalize winB b t (gt ks j).B=v at c a⊢;cases q1:u.2
   .exact Ev.bind (b:=false) (Ev.now Z) (Ev.ff Z (a (by rw[q1];rfl)))
   cases q2:v.2
   .exact Ev.bind (b:=false) (Ev.now Z) (Ev.ff Z (a (by rw[q1,q2];rfl)))
   cases q3:decide (u.1.Ak<=v.1.As)
   .exact Ev.bind (b:=false) (Ev.now Z) (Ev.ff Z (a (by rw[q1,q2,q3];rfl)))
   cases q4:decide (v.1.Ak<=u.1.As)
   .exact Ev.bind (b:=false) (Ev.now Z) (Ev.ff Z (a (by rw[q1,q2,q3,q4];rfl)))
   .exact Ev.bind (b:=true) (Ev.now Z) (Ev.tt Z (c (by rw[q1,q2,q3,q4];rfl)))
 unfold qhu;exact Ev.bind g .done
theorem qrq(ex:List Int)(h:blockB b=true)(f:TmL t (ndB b))(i:cplsB b ks=true):Ev (fun n=>qgn n (V (viewE b ex)) t ks) (ints (selN (actQ b t ks) ks.length)):=by
 obtain⟨p,k⟩:=qi5 i;have g:Ev (fun n=>qba (V (viewE b ex)) t ks n ([]:List Int) 0) (ints (selN (actQ b t ks) ks.length),(ks.length:Int)):=by
  refine qkG (q:=actQ b t ks) (Lf:=qba (V (viewE b ex)) t ks) (len:=ks.length) (by omega) (Ev.succ ?_) (fun j d s l X c a=>?_)
  .simp only[qba,qq (je _),cond_false];exact .done
  .obtain⟨m,o,_⟩:=k j d;simp only[qba,qp d,cond_true,qw d,jd,l,wS j];refine Ev.bind (qrS ex h f m) (Ev.bind (qrS ex h f o) ?_);unfold actQ at c a;generalize winB b t (gt ks j).A=u at c a⊢;generalize winB b t (gt ks j).B=v at c a⊢;unfold qiH;cases q1:u.2
   .exact Ev.ff Z (a (by rw[q1];rfl))
   cases q2:v.2
   .exact Ev.tt Z (Ev.ff Z (a (by rw[q1,q2];rfl)))
   cases q3:decide (u.1.Ak<=v.1.As)
   .exact Ev.tt Z (Ev.tt Z (Ev.bind (b:=false) (Ev.now Z) (Ev.ff Z (a (by rw[q1,q2,q3];rfl)))))
   cases q4:decide (v.1.Ak<=u.1.As)
   .exact Ev.tt Z (Ev.tt Z (Ev.bind (b:=false) (Ev.now Z) (Ev.ff Z (a (by rw[q1,q2,q3,q4];rfl)))))
   .exact Ev.tt Z (Ev.tt Z (Ev.bind (b:=true) (Ev.now Z) (Ev.tt Z (c (by rw[q1,q2,q3,q4];rfl)))))
 unfold qgn;exact Ev.bind g .done
end
def addE(s:List Int)(x:qm):List Int:=setS (setS s x.A (W64 (gt s x.A.toNat+x.Bp))) x.B (W64 (gt s x.B.toNat+x.Bp))
def exS(ks:List qm)(m:Nat)(used:List Int):Nat->List Int
 |0=>List.replicate m 0
 |j+1=>addE (exS ks m used j) (gt ks (at0 used j).toNat)
theorem qov{ks:List qm}{m:Nat}{used:List Int}{j:Nat}:(exS ks m used j).length=m:=by
 induction j with
 |zero=>exact jH
 |succ j ih=>show(setS (setS _ _ _) _ _).length=m;rw[qaY,qaY];exact ih
theorem inRange0{x:Int}{m:Nat}(h:inI x 0 ((m:Int)-1)=true):0<=x/\x<(m:Int)/\x.toNat<m:=by rw[qaQ] at h;omega
theorem qr5{br:List Int}{m:Nat}(h:brB br m=true){i:Nat}(hi:i<br.length):∃k:Nat,k<m/\at0 br i=(k:Int):=by
 unfold brB at h;rw[jf,jF] at h;have:=h.1 _ (jo hi);obtain⟨a,r1,b⟩:=inRange0 this;exact⟨br[i].toNat,b,by rw[qiE hi];exact qdx a⟩
section
variable{b:qd}{ks:List qm}{used:List Int}
theorem quh(l:cplsB b ks=true)(n:brB used ks.length=true){i:Nat}(hi:i<used.length){s:List Int}(o:s.length=b.Aa.Ah.length):∃k:Nat,k<ks.length/\at0 used i=(k:Int)/\idx s (gt ks k).A=V (gt s (gt ks k).A.toNat) /\
  ∀v,idx (setS s (gt ks k).A v) (gt ks k).B=V (gt s (gt ks k).B.toNat):=by
 obtain⟨k,d,h⟩:=qr5 n hi;obtain⟨a,c,m⟩:=(qi5 l).2 k d;unfold netB at a c;rw[qaQ] at a c;refine⟨k,d,h,qf4 a.1 (by omega),fun v=>?_⟩;have f:=qdx a.1;have g:=qdx c.1;rw[f,g,qw (by rw[qaY];omega),qef (by omega),if_neg (by omega),jq]
theorem qqo(h:cplsB b ks=true)(m:b.Aa.Ah.length<=1048576)(p:used.length<=1048576)(o:brB used ks.length=true):Ev (fun n=>qgx n b ks used) (exS ks b.Aa.Ah.length used used.length):=by
 have g:=loopF (Lf:=fun n s i=>qeh ks used n s i) (S:=exS ks b.Aa.Ah.length used) (len:=used.length) (fin:=(exS ks b.Aa.Ah.length used used.length,(used.length:Int)))
  (fun n=>by simp only[qeh,qq (je _),cond_false])
  (fun i hi X a=>by
   obtain⟨k,l,d,e1,c⟩:=quh h o hi (qov (ks:=ks) (used:=used) (j:=i));have f:exS ks b.Aa.Ah.length used (i+1)=addE (exS ks b.Aa.Ah.length used i) (gt ks k):=by
    show addE _ _=_;rw[d,jq]
   rw[f] at a;generalize exS ks b.Aa.Ah.length used i=s at e1 c a⊢;simp only[qeh,qp hi,cond_true,qaw hi,jd,d,qw l,e1,c,wS i];exact a)
 unfold qgx;simp only[qko (show b.Aa.Ah.length<=2147483648 by omega),jd];exact Ev.bind g .done
theorem qm4(h:blockB b=true)(l:cplsB b ks=true)(o:b.Aa.Ah.length<=1048576)(r:used.length<=1048576)(p:brB used ks.length=true):Ev (fun n=>qcv n b ks used) (exS ks b.Aa.Ah.length used used.length):=by
 have g:=loopF (Lf:=fun n s i=>qcg ks used n s i) (S:=exS ks b.Aa.Ah.length used) (len:=used.length) (fin:=(exS ks b.Aa.Ah.length used used.length,(used.length:Int)))
  (fun n=>by simp only[qcg,qq (je _),cond_false])
  (fun i hi X a=>by
   obtain⟨k,m,d,e1,c⟩:=quh l p hi (qov (ks:=ks) (used:=used) (j:=i));have f:exS ks b.Aa.Ah.length used (i+1)=addE (exS ks b.Aa.Ah.length used i) (gt ks k):=by
    show addE _ _=_;rw[d,jq]
   rw[f] at a;generalize exS ks b.Aa.Ah.length used i=s at e1 c a⊢;simp only[qcg,qp hi,cond_true,qaw hi,jd,d,qw m,e1,c,wS i];exact a)
 have t:=qf6 h;unfold qcv;rw[show b.Ac.length=b.Aa.Ah.length by omega];simp only[qko (show b.Aa.Ah.length<=2147483648 by omega),jd];exact Ev.bind g .done
theorem qnC(b:ks.length<=20)(a:used.length<=1048576):Ev (fun n=>qiK n ks used) (brB used ks.length):=by
 unfold qiK brB;have e1:W64 ((ks.length:Int)-1)=(ks.length:Int)-1:=qP (by omega) (by omega);simp only[qfu,jd,e1];refine Ev.bind (qeL a) ?_;cases used.all fun x=>inI x 0 ((ks.length:Int)-1)
 .exact Ev.ff Z .done
 .exact Ev.tt Z (Ev.bind (qj8 a) .done)
end

def hasI(xs:List Int)(y:Int):Bool:=xs.any fun x=>x==y
theorem qsH{xs:List Int}{y:Int}(d:xs.length<=1048576):Ev (fun n=>qfr n xs y) (hasI xs y):=by
 unfold qfr;refine Ev.bind (b:=ixL (fun x=>y==x) xs) (qfj (fin:=(xs.length:Int)) (Lf:=qcB xs y) (pf:=fun _ x=>V (y==x)) (fun _ _=>.done)
  (fun n=>by simp only[qcB,qq (je _),cond_false])
  (fun n j x a=>by
   have c:=(List.getElem?_eq_some_iff.1 a).1;simp only[qcB,qp c,cond_true,qgC a,jd,wS j])
  (fun n=>by unfold qiz;congr 1;funext o;cases o<;>rfl)) (Ev.now ?_)
 rw[qmC];unfold hasI
 congr 2
 funext x
 rw[jj,beq_iff_eq,beq_iff_eq];exact eq_comm
theorem qx5{b:qd}{c:qz}{br:List Int}{xs:List qg}(d:qg1 b)(f:okS c.Ba)(h:(blockB b&&cornerB c)=false):Ev (fun n=>qc2 n b c br xs) ([],1):=by
 have s1:=qf0 d;have s2:=qi4 (c:=c) f;unfold qc2;cases h1:blockB b
 .rw[h1] at s1;exact Ev.bind (b:=true) (Ev.bind s1 (Ev.tt Z .done)) (Ev.tt Z .done)
 .rw[h1] at s1 h;have a:cornerB c=false:=h;rw[a] at s2;exact Ev.bind (b:=true) (Ev.bind s1 (Ev.ff Z (Ev.bind s2 .done))) (Ev.tt Z .done)
theorem qxs{b:qd}{c:qz}{f g:Nat->qf->qf×qf}{lv:List Bool}{xs:List qg}(h:blockB b=true)(o:SpansS b c g)(m:∀k s,(f k s).2=(g k s).2)(p:SrcOk xs):∀(R:List Nat) (t d:qi),(∀k,k∈R->k<2*(places b.Aa).length)->TmOk t (2*(places b.Aa).length)->rnO f (linksL b) lv xs R t=V d->TmOk d (2*(places b.Aa).length):=by
 intro R
 induction R with
 |nil=>intro t d _ a e;obtain rfl:=Option.some.inj e;exact a
 |cons k R ih=>
  intro t d l a e;have n:=qkJ (node:=(k:Int)) (lv:=lv) h o m a p (linksL b).length (je _);unfold rnO at e;cases h1:(ndS f (linksL b) lv t (k:Int) (srcV (srcO xs (k:Int))) (linksL b).length).1
  .rw[h1] at e;exact ih _ _ (fun i hi=>l i (jp _ hi)) a e
  .rw[h1] at e;cases h2:spanB (ndS f (linksL b) lv t (k:Int) (srcV (srcO xs (k:Int))) (linksL b).length).2.Af
   .rw[h2] at e;cases e
   .rw[h2] at e;exact ih _ _ (fun i hi=>l i (jp _ hi)) (qnN a (l k (js ..)) n) e
section
variable{b:qd}{c:qz}{br:List Int}{xs:List qg}{ex:List Int}
end
theorem qs1{m:Nat}{a d:List Int}(p:m<=1048576)(i:a.length<=1048576)(l:d.length<=1048576):Ev (fun n=>qig n (m:Int) a d) (ints (selN (fun k=>hasI a (k:Int) || hasI d (k:Int)) m)):=by
 have h:Ev (fun n=>qcN (m:Int) a d n ([]:List Int) 0) (ints (selN (fun k=>hasI a (k:Int) || hasI d (k:Int)) m),(m:Int)):=by
  refine qkG (q:=fun k=>hasI a (k:Int) || hasI d (k:Int)) (Lf:=qcN (m:Int) a d) (len:=m) p (Ev.succ ?_) (fun j o s r X f g=>?_)
  .simp only[qcN,qq (je _),cond_false];exact .done
  .simp only[qcN,qp o,cond_true,jd,r,wS j];have e1:=qma (x:=(j:Int)) i;have c:=qma (x:=(j:Int)) l;unfold hasI at f g;cases q1:a.any fun y=>y==(j:Int)
   .rw[q1] at e1;cases q2:d.any fun y=>y==(j:Int)
    .rw[q2] at c;exact Ev.bind (b:=false) (Ev.bind e1 (Ev.ff Z (Ev.bind c .done))) (Ev.ff Z (g (by rw[q1,q2];rfl)))
    .rw[q2] at c;exact Ev.bind (b:=true) (Ev.bind e1 (Ev.ff Z (Ev.bind c .done))) (Ev.tt Z (f (by rw[q1,q2];rfl)))
   .rw[q1] at e1;exact Ev.bind (b:=true) (Ev.bind e1 (Ev.tt Z .done)) (Ev.tt Z (f (by rw[q1];rfl)))
 unfold qig;exact Ev.bind h .done
theorem qqs{q:Nat->Bool}{m:Nat}:(selN q m).Nodup:=by
 unfold selN;exact(List.nodup_range).filter _
theorem qwG{xs:List Int}(h:incB xs=true){i j:Nat}(a:i<j)(b:j<xs.length):at0 xs i<at0 xs j:=by
 unfold incB at h;rw[qai] at h
 induction j with
 |zero=>omega
 |succ j ih=>
  have c:at0 xs j<at0 xs (j+1):=by
   have:=h (j+1) b;unfold stepB at this;simpa using this
  rcases Nat.lt_or_ge i j with hl|hg
  .have:=ih hl (by omega);omega
  .obtain rfl:i=j:=by omega
   exact c
theorem qvV{used:List Int}{m:Nat}(h:brB used m=true):used.length=(selN (fun k=>hasI used (k:Int)) m).length:=by
 have g:=h;unfold brB at g;rw[jf] at g;have s:(used.map Int.toNat).Nodup:=by
  unfold List.Nodup;rw[List.pairwise_iff_getElem];intro i j hi d l;rw[jt] at hi d;obtain⟨a,_,b⟩:=qr5 h hi;obtain⟨c,_,f⟩:=qr5 h d;have:=qwG g.2 l d;rw[b,f] at this;rw[qiE hi] at b;rw[qiE d] at f;rw[List.getElem_map,List.getElem_map,b,f];omega
 refine Nat.le_antisymm ?_ ?_
 .have:=qoq s (l':=selN (fun k=>hasI used (k:Int)) m) (fun k n=>by
   obtain⟨x,p,rfl⟩:=List.mem_map.1 n;obtain⟨i,hi,rfl⟩:=List.mem_iff_getElem.1 p;obtain⟨a,r,b⟩:=qr5 h hi;rw[qiE hi] at b;refine qcd.2 ⟨by rw[b];exact r,?_⟩;unfold hasI;rw[List.any_eq_true];exact⟨_,jo hi,by rw[b];simp⟩)
  rwa [jt] at this
 .have:=qoq (qqs (q:=fun k=>hasI used (k:Int)) (m:=m)) (l':=used.map Int.toNat) (fun k n=>by
   obtain⟨_,o⟩:=qcd.1 n;unfold hasI at o;rw[List.any_eq_true] at o;obtain⟨x,p,e⟩:=o;rw[beq_iff_eq] at e;exact List.mem_map.2 ⟨x,p,by rw[e];rfl⟩)
  rwa [jt] at this
theorem quH{used:List Int}{m:Nat}{q:Nat->Bool}(h:brB used m=true):(((ints (selN (fun k=>hasI used (k:Int) || hasI (ints (selN q m)) (k:Int)) m)).length:Int)==(used.length:Int))=(ints (selN q m)).all fun x=>hasI used x:=by
 rw[qbE,qvV h,jj,beq_iff_eq,jF];constructor
 .intro e x b;refine Classical.byContradiction fun g=>?_;obtain⟨k,a,rfl⟩:∃k:Nat,k∈selN q m/\x=(k:Int):=by
   unfold ints at b;obtain⟨k,a,e⟩:=List.mem_map.1 b;exact⟨k,a,e.symm⟩
  have c:=(qcd.1 a).1;have d:hasI used (k:Int)=false:=by simpa using g
  have:=qoq (l:=k::selN (fun k=>hasI used (k:Int)) m) (l':=selN (fun k=>hasI used (k:Int) || hasI (ints (selN q m)) (k:Int)) m) (List.nodup_cons.2 ⟨fun n=>(by rw[(qcd.1 n).2] at d;cases d),qqs⟩) (fun i hi=>by
   rcases List.mem_cons.1 hi with rfl|hi
   .refine qcd.2 ⟨c,?_⟩;unfold hasI;rw[Bool.or_eq_true];refine .inr (List.any_eq_true.2 ⟨_,b,by simp⟩)
   .obtain⟨o,p⟩:=qcd.1 hi;exact qcd.2 ⟨o,by rw[p];rfl⟩)
  rw[Ja] at this;omega
 .intro f;have:∀k,k<m->(hasI used (k:Int) || hasI (ints (selN q m)) (k:Int))=hasI used (k:Int):=fun k _=>by
   cases h1:hasI used (k:Int)
   .cases h2:hasI (ints (selN q m)) (k:Int)
    .rfl
    .unfold hasI at h2;rw[List.any_eq_true] at h2;obtain⟨x,b,e⟩:=h2;rw[beq_iff_eq] at e;subst e;rw[f _ b] at h1;cases h1
   .rfl
  have:selN (fun k=>hasI used (k:Int) || hasI (ints (selN q m)) (k:Int)) m=selN (fun k=>hasI used (k:Int)) m:=by
   unfold selN;exact List.filter_congr fun k a=>this k (List.mem_range.1 a)
  rw[this]
theorem qt9{xs used:List Int}(a:xs.length<=1048576)(c:used.length<=1048576):Ev (fun n=>qa0 n xs used) (!xs.all fun x=>hasI used x):=by
 have b:Ev (fun n=>qbb n xs used) (ixL (fun x=>!hasI used x) xs):=
  qfj (fin:=(xs.length:Int)) (Lf:=qal xs used) (xs:=xs) (pf:=fun n x=>qhY n x used) (fun x _=>by
    unfold qhY;exact Ev.bind (qsH c) .done)
   (fun n=>by simp only[qal,qq (je _),cond_false])
   (fun n i x a=>by
    have hi:=(List.getElem?_eq_some_iff.1 a).1;simp only[qal,qp hi,cond_true,qgC a,jd,wS i])
   (fun n=>by unfold qbb;congr 1;funext o;cases o<;>rfl)
 unfold qa0;refine Ev.bind b (Ev.now ?_);rw[qmC,<-qoJ,Bool.not_not]

theorem sub00{α:Type}(xs:List α):subS xs 0 ((0:Nat):Int)=V []:=by
 unfold subS;rw[if_pos (by omega)];simp
theorem qvU{k:Int}(a:0<=k)(d:k<=1048576):Ev (fun n=>qfo n k) []:=by
 unfold qfo;have e:W64 (k-W64 (0-((0:Nat):Int)))=k:=by
  have e1:W64 (0-((0:Nat):Int))=0:=rfl;rw[e1,Int.sub_zero];exact qP (by omega) (by omega)
 refine Ev.bind (b:=()) (Ev.ff (by simp;omega) .done) ?_;rw[e];refine Ev.bif (fun f=>?_) (fun _=>.done);have c:mkS k (0:Int)=V (List.replicate k.toNat 0):=by unfold mkS;rw[if_pos ⟨a,by unfold big;omega⟩]
 exact Ev.bindN c (Ev.bindN (sub00 _) .done)
theorem qvi{a d:List Int}(h:a.length+d.length<=1048576):Ev (fun n=>qgd n [a,d]) (a++d):=by
 have g:Ev (fun n=>qc0 [a,d] n 0 0) (((a.length+d.length:Nat):Int),2):=by
  have c:W64 (0+(a.length:Int))=(a.length:Int):=by rw[Int.zero_add];exact qP (by omega) (by omega)
  have f:W64 ((a.length:Int)+(d.length:Int))=((a.length+d.length:Nat):Int):=by rw[qP (by omega) (by omega)];omega
  refine Ev.succ (Ev.succ (Ev.succ ?_));simp only[qc0];refine Ev.tt Z (Ev.bindN (b:=a) Z ?_);rw[c];refine Ev.ff (by simp) (Ev.tt Z (Ev.bindN (b:=d) Z ?_));rw[f];exact Ev.ff (by simp;omega) (Ev.ff Z .done)
 have i:Ev (fun n=>qcZ [a,d] n [] 0) (a++d,2):=by
  refine Ev.succ (Ev.succ (Ev.succ ?_));simp only[qcZ];refine Ev.tt Z (Ev.bindN (b:=a) Z (Ev.bindN (b:=a) ?_ (Ev.tt Z (Ev.bindN (b:=d) Z (Ev.bindN (b:=a++d) ?_ (Ev.ff Z .done))))))
  .have:=qcA (xs:=([]:List Int)) (ys:=a) (by simp;omega);rwa [List.nil_append] at this
  .exact qcA (by omega)
 unfold qgd;exact Ev.bind g (Ev.bind (qvU (by omega) (by omega)) (Ev.bind i .done))
theorem qoP{q:Nat->Bool}{m k:Nat}(h:k<m):hasI (ints (selN q m)) (k:Int)=q k:=by
 unfold hasI;rw[jj,List.any_eq_true];constructor
 .rintro⟨x,d,e⟩;rw[beq_iff_eq] at e;subst e;obtain⟨j,b,f⟩:=qhN.1 d;obtain⟨_,a⟩:=qcd.1 b;have:j=k:=by omega
  subst this;exact a
 .intro c;exact⟨(k:Int),qhN.2 ⟨k,qcd.2 ⟨h,c⟩,rfl⟩,by simp⟩
theorem qtz{q r:Nat->Bool}{m:Nat}(h:∀k,k<m->q k=r k):selN q m=selN r m:=by
 unfold selN;exact List.filter_congr fun k a=>h k (List.mem_range.1 a)
theorem qoH{q:Nat->Bool}{m:Nat}:brB (ints (selN q m)) m=true:=by
 unfold brB;rw[jf,jF];refine⟨fun x c=>?_,?_⟩
 .obtain⟨j,a,d⟩:=qhN.1 c;have:=(qcd.1 a).1;rw[qaQ];omega
 .unfold incB;rw[qai];intro j a;unfold stepB;rcases Nat.eq_zero_or_pos j with rfl|h0
  .rfl
  .have b:=List.pairwise_iff_getElem.1 (qpJ (q:=q) (m:=m)) (j-1) j (by omega) a (by omega);rw[qiE a,qiE (show j-1<(ints (selN q m)).length by omega)];simp only[Bool.or_eq_true,decide_eq_true_eq];exact .inr b
theorem qlO{q:Nat->Bool}{m:Nat}(h:m<=20):(ints (selN q m)).length<=20:=by
 rw[qbE];exact jR qgv h
section
variable{b:qd}{c:qz}{br:List Int}{xs:List qg}{ks:List qm}{R:List Nat}
end

section
variable{b:qd}{ks:List qm}{t1 t2:qi}
end
def cE(ks:List qm)(j u:Nat):Int:=(if (gt ks u).A=(j:Int) then(gt ks u).Bp else 0)+(if (gt ks u).B=(j:Int) then(gt ks u).Bp else 0)
def sumE(ks:List qm)(j:Nat)(l:List Nat):Int:=(l.map (cE ks j)).sum
theorem qrP{b:qd}{ks:List qm}(h:cplsB b ks=true){k:Nat}(a:k<ks.length):0<=(gt ks k).Bp/\(gt ks k).Bp<=10000:=by
 unfold cplsB at h;rw[jf,qai] at h;have:=h.1 k a;unfold cplB at this;simp only[jf,qaQ,decide_eq_true_eq] at this;omega
theorem qww{b:qd}{ks:List qm}(h:cplsB b ks=true){k j:Nat}(a:k<ks.length):0<=cE ks j k/\cE ks j k<=20000:=by
 have:=qrP h a;unfold cE;split<;>split<;>omega
theorem qnK{ks:List qm}{j u:Nat}{l:List Nat}:sumE ks j (l++[u])=sumE ks j l+cE ks j u:=by unfold sumE;simp
theorem qqu{b:qd}{ks:List qm}(h:cplsB b ks=true){j:Nat}:∀{l:List Nat},(∀u,u∈l->u<ks.length)->0<=sumE ks j l/\sumE ks j l<=20000*(l.length:Int):=by
 intro l
 induction l with
 |nil=>intro _;unfold sumE;simp
 |cons u l ih=>
  intro a;have d:=ih (fun v c=>a v (jp _ c));have f:=qww (j:=j) h (a u (js ..));have e:sumE ks j (u::l)=cE ks j u+sumE ks j l:=rfl;rw[e,Ja];omega
theorem qwV{b:qd}{ks:List qm}(h:cplsB b ks=true){l:List Nat}(o:∀u,u∈l->u<ks.length)(I:l.length<=20):∀i,i<=l.length->∀j,j<b.Aa.Ah.length->gt (exS ks b.Aa.Ah.length (ints l) i) j=sumE ks j (l.take i):=by
 intro i
 induction i with
 |zero=>
  intro _ j n;show gt (List.replicate _ 0) j=0;rw[qeV (by rw[jH];exact n)];simp
 |succ i ih=>
  intro hi j n;have c:i<l.length:=by omega
  obtain⟨p,r,H⟩:=(qi5 h).2 l[i] (o _ (jo c));have L:=qrP h (o _ (jo c));unfold netB at p r;rw[qaQ] at p r;have D:at0 (ints l) i=(l[i]:Int):=by
   rw[qiE (by rw[qbE];exact c)];unfold ints;simp
  have F:l.take (i+1)=l.take i++[l[i]]:=jC c;have g:∀u,u∈l.take i->u<ks.length:=fun u K=>o u (List.mem_of_mem_take K);have x:∀k,0<=sumE ks k (l.take i)/\sumE ks k (l.take i)<=20000*20:=fun k=>by
   have:=qqu (j:=k) h g;have J:(l.take i).length<=20:=by rw[jM];omega
   omega
  rw[F,qnK];show gt (addE (exS ks b.Aa.Ah.length (ints l) i) (gt ks (at0 (ints l) i).toNat)) j=_;rw[D,jq];have f:=qov (ks:=ks) (m:=b.Aa.Ah.length) (used:=ints l) (j:=i);have y:=ih (by omega) (gt ks l[i]).A.toNat (by omega);have z:=ih (by omega) (gt ks l[i]).B.toNat (by omega);have A:=ih (by omega) j n;generalize exS ks b.Aa.Ah.length (ints l) i=s at f y z A⊢;have rA:=x (gt ks l[i]).A.toNat;have rB:=x (gt ks l[i]).B.toNat;unfold addE cE;rw[y,z,wO (sumE ks (gt ks l[i]).A.toNat (l.take i)+(gt ks l[i]).Bp),wO (sumE ks (gt ks l[i]).B.toNat (l.take i)+(gt ks l[i]).Bp)];have B:=qdx p.1;have C:=qdx r.1;generalize (gt ks l[i]).A.toNat=a at *;generalize (gt ks l[i]).B.toNat=d at *;rw[B,C,qef (by rw[qaY];omega),qef (by omega),A];by_cases t:j=d
  .subst t;rw[if_pos Z,if_neg (show ¬ ((a:Int)=(j:Int)) by omega),if_pos Z];omega
  .rw[if_neg t,if_neg (show ¬ ((d:Int)=(j:Int)) by omega)];by_cases v:j=a
   .subst v;rw[if_pos Z,if_pos Z];omega
   .rw[if_neg v,if_neg (show ¬ ((a:Int)=(j:Int)) by omega)];omega
theorem qu0{b:qd}{ks:List qm}(h:cplsB b ks=true){q r:Nat->Bool}(c:∀k,k<ks.length->q k=true->r k=true){j:Nat}:sumE ks j (selN q ks.length)<=sumE ks j (selN r ks.length):=by
 have a:∀m,m<=ks.length->sumE ks j (selN q m)<=sumE ks j (selN r m):=by
  intro m
  induction m with
  |zero=>intro _;exact jU _
  |succ m ih=>
   intro g;have d:=ih (by omega);have f:=qww (j:=j) h (show m<ks.length by omega);rw[qhL,qhL];cases hq:q m
   .cases hr:r m
    .simpa using d
    .simp only[cond_false,cond_true,jY];rw[qnK];omega
   .rw[c m (by omega) hq];simp only[cond_true];rw[qnK,qnK];omega
 exact a _ (je _)

section
variable{b:qd}{c:qz}{br:List Int}{xs:List qg}{ex:List Int}{g f1 f2:Nat->qf->qf×qf}{lv:List Bool}{t:qi}
theorem qtq(c:blockB b=true)(d:TmOk t (2*(places b.Aa).length))(a:∀k s,k<(linksL b).length->slR s->f1 k s=f2 k s){node:Int}{s0:Bool×qg}:∀j,j<=(linksL b).length->ndS f1 (linksL b) lv t node s0 j=ndS f2 (linksL b) lv t node s0 j:=by
 intro j
 induction j with
 |zero=>intro _;rfl
 |succ j ih=>
  intro f;unfold ndS;rw[ih (by omega)];cases toQ (linksL b) lv node j
  .rfl
  .simp only[cond_true];unfold stepS;rw[a j _ (by omega) (d.sl _ (qsc (qkI c) (show j<(linksL b).length by omega)).2)]
theorem qrK(l:blockB b=true)(n:SpansS b c g)(m:∀k s,(f1 k s).2=(g k s).2)(d:∀k s,k<(linksL b).length->slR s->f1 k s=f2 k s)(o:SrcOk xs) :
  ∀(R:List Nat) (t:qi),(∀k,k∈R->k<2*(places b.Aa).length)->TmOk t (2*(places b.Aa).length)->rnO f1 (linksL b) lv xs R t=rnO f2 (linksL b) lv xs R t:=by
 intro R
 induction R with
 |nil=>intro t _ _;rfl
 |cons k R ih=>
  intro t f a;have e:=qtq (lv:=lv) (node:=(k:Int)) (s0:=srcV (srcO xs (k:Int))) l a d (linksL b).length (je _);have h:=qkJ (node:=(k:Int)) (lv:=lv) l n m a o (linksL b).length (je _);unfold rnO;rw[<-e,ih _ (fun i hi=>f i (jp _ hi)) a,ih _ (fun i hi=>f i (jp _ hi)) (qnN a (f k (js ..)) h)]
theorem qrl{s:qf}(a:0<=s.Ak)(b:s.Ak<=s.As)(c:s.As<=5000000):wideS 0 s=s:=by
 unfold wideS;rw[Int.sub_zero,Jd,qP (by omega) (by omega),qP (by omega) (by omega)]
def exQ(b:qd)(ex:List Int)(k:Nat):Int:=bif (gt (linksL b) k).Au==2 then exK b ex k else 0
theorem qwL(d:blockB b=true)(l:cornerB c=true)(n:SpansS b c g)(h:ex.length=b.Ac.length):∀k s,k<(linksL b).length->slR s->wideF b ex g k s=fE g (exQ b ex) k s:=by
 intro k s f p;obtain⟨r,t,u⟩:=qqE d l n f p;unfold wideF fE exQ;cases hkd:(gt (linksL b) k).Au==2
 .rw[Bool.and_false];simp only[cond_false];rw[qrl r t u]
 .have o:decide (0<ex.length)=true:=by
   obtain⟨a,_⟩:=qfe d (qia f);rcases a with⟨i,j,m,net,y,hx⟩|⟨j,net,y,hx⟩
   .rw[hx.kind] at hkd;cases hkd
   .have:=hx.nl;exact decide_eq_true (by omega)
  rw[o,Bool.and_true]
  rfl
theorem qw8{k:Nat}(h:allN (fun j=>inI (gt ex j) 0 1000000000) ex.length=true):0<=exQ b ex k/\exQ b ex k<=1000000000:=by
 have all:∀i,0<=gt ex i/\gt ex i<=1000000000:=fun i=>by
  by_cases hi:i<ex.length
  .rw[qai] at h;have:=h i hi;rw[qaQ] at this;exact this
  .have:gt ex i=0:=by unfold gt;rw[jx,List.getElem?_eq_none (by omega)];rfl
   rw[this];omega
 unfold exQ exK;cases (gt (linksL b) k).Au==2
 .exact⟨jU _,by show(0:Int)<=_;omega⟩
 .exact all _
theorem qyi{R:List Nat}(p:qg1 b)(r:okS c.Ba)(l:ex.length<=1048576)(v:xs.length<=1048576)(a:TgOk b c br xs R)(H:SpansS b c g)(o:SpansI b c ex (wideF b ex g))(m:ex.length=b.Ac.length)(y:allN (fun j=>inI (gt ex j) 0 1000000000) ex.length=true)
  (e:rnO (wideF b ex g) (linksL b) (lvJ b br) xs R (zTm (2*(places b.Aa).length))=V t) (hi:Ev (fun n=>qa4 n b c br xs U) (grB b br,ints R,0)):Ev (fun n=>qdA n b c br xs ex) (t,0):=by
 have d:=a.bl;have A:=qjx p;have B:=qjU (c:=c) r;rw[d] at A;rw[a.co] at B;have I:=qaW (qZ (qao d));have h:=a.len;have f:R.length<=1000:=by rw[h];show 2*(places b.Aa).length<=1000;omega
 have u:∀k s,(wideF b ex g k s).2=(g k s).2:=fun k s=>by
  unfold wideF;cases decide (0<ex.length)&&((gt (linksL b) k).Au==2)<;>rfl
 have C:=qsq (lv:=lvJ b br) (R:=R) d H u o qlw (qqh v a.sr) (fun i hi=>⟨(a.ord.at hi).1,(a.ord.at hi).2.1⟩) f;rw[e] at C;have z:=qeL (xs:=ex) (lo:=0) (hi:=1000000000) l;have D:(ex.all fun x=>inI x 0 1000000000)=true:=by
  rw[qai] at y;rw[jF];intro x J;obtain⟨i,hi,rfl⟩:=List.mem_iff_getElem.1 J;rw[<-qeV hi];exact y i hi
 rw[D] at z;have F:((ex.length:Int) != (b.Ac.length:Int))=false:=by rw[m];simp
 unfold qdA;refine Ev.bind (b:=false) (Ev.bind A (Ev.tt Z (Ev.bind B (Ev.tt Z (Ev.ff F (Ev.bind z .done)))))) (Ev.ff Z (Ev.bind hi ?_));unfold grB viewV viewE;dsimp only;exact Ev.bind C (Ev.ff Z .done)
theorem qvq{R:List Nat}(k:xs.length<=1048576)(a:TgOk b c br xs R)(o:SpansS b c g)(h:SpansI b c [] (wideF b [] g))
  (e:rnO g (linksL b) (lvJ b br) xs R (zTm (2*(places b.Aa).length))=V t) (hi:Ev (fun n=>qa4 n b c br xs U) (grB b br,ints R,0)):Ev (fun n=>qd6 n b c br xs) (t,0):=by
 have l:=a.bl;have p:=qaW (qZ (qao l));have f:=a.len;have d:R.length<=1000:=by rw[f];show 2*(places b.Aa).length<=1000;omega
 have m:=qsq (lv:=lvJ b br) (R:=R) l o (fun _ _=>rfl) h qlw (qqh k a.sr) (fun i hi=>⟨(a.ord.at hi).1,(a.ord.at hi).2.1⟩) d;rw[e] at m;unfold qd6;exact Ev.bind hi (Ev.ff Z (Ev.bind m (Ev.ff Z .done)))
end
theorem qqx{xs ys:List qf}(d:xs.length<=1048576)(c:xs=ys):Ev (fun n=>qhv n xs ys) true:=by
 subst c;have a:Ev (fun n=>qc8 xs xs n 0) (.nxt (xs.length:Int)):=by
  refine qt8 (τ:=Unit) (st:=fun _=>()) (Lf:=fun n _ i=>qc8 xs xs n i) (len:=xs.length) (Ev.succ ?_) (fun i hi X b=>Ev.succ ?_)
  .simp only[qc8];exact Ev.ff (qq (je _)) .done
  .simp only[qc8,wS i];exact Ev.tt (qp hi) (Ev.bindN (qaZ hi) (Ev.bindN (qaZ hi) (Ev.ff (by simp) b)))
 unfold qhv;exact Ev.ff (by simp) (Ev.bind a .done)
theorem qtE{t:qi}(f:t.Aq.length<=1048576)(c:t.Af.length<=1048576)(d:t.Av.length<=1048576):Ev (fun n=>qjl n t t) true:=by
 have a:Ev (fun n=>qeC t t n 0) (.nxt (t.Aq.length:Int)):=by
  refine qt8 (τ:=Unit) (st:=fun _=>()) (Lf:=fun n _ i=>qeC t t n i) (len:=t.Aq.length) (Ev.succ ?_) (fun i hi X b=>Ev.succ ?_)
  .simp only[qeC];exact Ev.ff (qq (je _)) .done
  .simp only[qeC,wS i];exact Ev.tt (qp hi) (Ev.bindN (qaZ hi) (Ev.bindN (qaZ hi) (Ev.ff (by simp) b)))
 unfold qjl;exact Ev.ff (by simp) (Ev.bind a (Ev.bind (qqx c Z) (Ev.tt Z (Ev.bind (qqx d Z) .done))))
theorem qu9{d f:qi}{M:Nat}(s:M<=1000)(a:Wd d f M):Ev (fun n=>qjJ n d f) true:=by
 have g:=a.o1.r;have m:=a.o1.a;have o:=a.o2.r;have p:=a.o2.a;have r:Ev (fun n=>qcK d f n 0) (.nxt (M:Int)):=by
  refine qt8 (τ:=Unit) (st:=fun _=>()) (Lf:=fun n _ i=>qcK d f n i) (len:=M) (Ev.succ ?_) (fun i hi X h=>Ev.succ ?_)
  .simp only[qcK,g];exact Ev.ff (qq (je _)) .done
  .simp only[qcK,g,wS i];refine Ev.tt (qp hi) (Ev.bindN (qw (by omega)) (Ev.bif (fun l=>?_) (fun _=>h)));obtain⟨_,_,k⟩:=a.ar i hi l;have c:=a.r i hi;rw[l] at c;have n1:=k.e1;have t:=k.l1;refine Ev.bindN (qw (by omega)) (Ev.ff (by rw[<-c];rfl) (Ev.bindN (qw (by omega)) (Ev.bindN (qw (by omega)) (Ev.ff (decide_eq_false (by omega)) (Ev.bindN (qw (by omega)) (Ev.bindN (qw (by omega)) (Ev.ff (decide_eq_false (by omega)) h)))))))
 unfold qjJ;refine Ev.bind (b:=false) ?_ (Ev.ff Z (Ev.bind r .done));rw[g,m,o,p];exact Ev.ff (by simp) (Ev.ff (by simp) (Ev.now (by simp)))
end Go.Fw
