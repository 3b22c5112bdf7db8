/- Plain laws: spans of links, the values of a node, the run over all nodes. -/
import Derived.Test.YtfkmekkhnmifiaaGreatDoorW9
import Derived.Test.YtfkmekkhnmifiaaGreatDoorZ3
import Derived.Test.YtfkmekkhnmifiaaGreatDoorA3
open Option renaming bind_some->jd, some->V, none->U
open Nat renaming le_refl->je, zero_le->Jh
open Bool renaming and_eq_true->jf, eq_iff_iff->jj, not_eq_true'->jC, true_and->jF, not_true->jV
open List renaming length_append->jg, length_singleton->ji, getElem?_eq_getElem->jk, getElem_mem->jo, length_map->jp, mem_cons_of_mem->jr, mem_cons_self->jx, getD_eq_getElem?_getD->jy, length_cons->jA, take_succ_eq_append_getElem->jD, map_append->jJ, take_length->jK, mem_append_left->jM, length_replicate->jP, drop_eq_getElem_cons->jR, length_nil->jU, mem_append_right->jZ, ext_getElem->Jb, getElem?_map->Jd, length_take->Je
open Int renaming toNat_natCast->ju, tdiv_eq_ediv_of_nonneg->jB, mul_nonneg->jS, le_refl->jT, mul_le_mul->Ja

namespace Go.Fw
open Go
set_option maxRecDepth 100000
def slR(s:qk):Prop:=(0<=s.Aq/\s.Aq<=1000000)/\(0<=s.Av/\s.Av<=1000000)
def SpansS(b:qe)(c:qC)(f:Nat->qk->qk×qk):Prop:=∀k s,k<(linksL b).length->slR s->slR (f k s).2/\Ev (fun n=>qhg n b c (gt (linksL b) k) s) (f k s)
def SpansI(b:qe)(c:qC)(ex:List Int)(f:Nat->qk->qk×qk):Prop:=∀k s,k<(linksL b).length->slR s->slR (f k s).2/\Ev (fun n=>qgf n (V (viewE b ex)) c (k:Int) s) (f k s)
def exK(b:qe)(ex:List Int)(k:Nat):Int:=bif (gt (linksL b) k).Ar==2 then gt ex (gt (places b.Aa) ((gt (linksL b) k).To / 2).toNat).net.toNat else 0
def wideS(e:Int)(s:qk):qk:=⟨W64 (s.Aq-e),W64 (s.Av+e)⟩
def wideF(b:qe)(ex:List Int)(f:Nat->qk->qk×qk)(k:Nat)(s:qk):qk×qk:=bif decide (0<ex.length)&&((gt (linksL b) k).Ar==2) then(wideS (exK b ex k) (f k s).1,(f k s).2) else f k s
theorem qra{b:qe}{c:qC}(h:blockB b=true)(D:cornerB c=true):∃f,SpansS b c f/\∀ex:List Int,ex.length=0\/ex.length=b.Ac.length->SpansI b c ex (wideF b ex f):=by
 have C:∀x:Nat×qk,∃r:qk×qk,x.1<(linksL b).length->slR x.2->slR r.2/\Ev (fun n=>qhg n b c (gt (linksL b) x.1) x.2) r/\∀ex:List Int,ex.length=0\/ex.length=b.Ac.length->Ev (fun n=>qgf n (V (viewE b ex)) c (x.1:Int) x.2) (wideF b ex (fun _ _=>r) x.1 x.2):=by
  rintro⟨k,s⟩;by_cases d:k<(linksL b).length/\slR s
  ·obtain⟨d,⟨e0,e1⟩,⟨J,K⟩⟩:=d;obtain⟨⟨l,p1,q1⟩,⟨t,a1,b1,v1,w1⟩⟩:=qmQ h D d e0 e1 (mode:=0) (.inl Z);obtain⟨⟨d2,X,q2⟩,⟨u,a2,b2,v2,w2⟩⟩:=qmQ h D d e0 e1 (mode:=1) (.inr Z);obtain⟨⟨o,Y,q3⟩,⟨v,a3,b3,v3,w3⟩⟩:=qmQ h D d J K (mode:=0) (.inl Z);obtain⟨⟨p,e,q4⟩,⟨y,a4,b4,v4,w4⟩⟩:=qmQ h D d J K (mode:=1) (.inr Z);refine⟨(⟨if o<l then o else l,if p > d2 then p else d2⟩,⟨if v<t then v else t,if y > u then y else u⟩),fun _ _=>⟨⟨?_,?_⟩,?_,fun ex B=>?_⟩⟩
   ·show 0<=(if v<t then v else t)/\(if v<t then v else t)<=1000000;split<;>omega
   ·show 0<=(if y > u then y else u)/\(if y > u then y else u)<=1000000;split<;>omega
   ·unfold qhg;exact Ev.bind p1 (Ev.bind X (Ev.bind v1 (Ev.bind v2 (Ev.bind Y (Ev.bind e (Ev.bind v3 (Ev.bind v4 .done)))))))
   ·unfold qgf;refine Ev.bind (q1 ex) (Ev.bind (q3 ex) (Ev.bind (q2 ex) (Ev.bind (q4 ex) ?_)));have W:idx (viewE b ex).links (k:Int)=V (gt (linksL b) k):=qD d;have g:(viewE b ex).extras=ex:=rfl;simp only[jd,W,g];unfold wideF;have fin:∀r:Int×Int,Ev (fun n=>(qbz n (V (viewE b ex)) (k:Int) s.Aq 0).bind fun L=>(qbz n (V (viewE b ex)) (k:Int) s.Av 0).bind fun M=>(qbz n (V (viewE b ex)) (k:Int) s.Aq 1).bind fun N=>(qbz n (V (viewE b ex)) (k:Int) s.Av 1).bind fun O=>
      V ((⟨r.1,r.2⟩:qk),(⟨if M<L then M else L,if O > N then O else N⟩:qk))) ((⟨r.1,r.2⟩:qk),(⟨if v<t then v else t,if y > u then y else u⟩:qk)):=fun r=>Ev.bind (w1 ex) (Ev.bind (w3 ex) (Ev.bind (w2 ex) (Ev.bind (w4 ex) .done)))
    rw[show decide ((ex.length:Int) > 0)=decide (0<ex.length) by rw[decide_eq_decide];omega];cases hl:decide (0<ex.length)
    ·exact Ev.bind (b:=false) (Ev.now Z) (Ev.bind (b:=(if o<l then o else l,if p > d2 then p else d2)) (Ev.now Z) (fin _))
    ·cases hkd:(gt (linksL b) k).Ar==2
     ·exact Ev.bind (b:=false) (Ev.now Z) (Ev.bind (b:=(if o<l then o else l,if p > d2 then p else d2)) (Ev.now Z) (fin _))
     ·obtain⟨H,_⟩:=qf3 h (qiQ d);rcases H with⟨i,j,m,net,a,g⟩|⟨j,net,q,g⟩
      ·rw[g.kind] at hkd;cases hkd
      ·have S:=qrl (ex:=ex) g.jl g.net_ g.half;have I:net<ex.length:=by
        have:=of_decide_eq_true hl;have:=g.nl;omega
       have R:=(qf3 h (qiQ d)).2.2;have T:=qaY (qY (qao h));have Q:((gt (linksL b) k).To / 2).toNat=j:=by
        have:=g.half;rw[jB R.1,qT (by omega) (by omega)] at this;omega
       have P:exK b ex k=gt ex net:=by
        unfold exK;rw[hkd,Q,g.net_,ju]
        rfl
       refine Ev.bind (b:=true) (Ev.now Z) (Ev.bind (b:=(W64 ((if o<l then o else l)-gt ex net),W64 ((if p > d2 then p else d2)+gt ex net))) ?_ ?_)
       ·simp only[S,jd,qD I];exact .done
       ·rw[P];exact fin _
  ·exact⟨(s,s),fun z A=>absurd ⟨z,A⟩ d⟩
 obtain⟨f,F⟩:=Classical.axiomOfChoice C;exact⟨fun k s=>f (k,s),fun k s z A=>⟨(F (k,s) z A).1,(F (k,s) z A).2.1⟩,fun ex B k s z A=>⟨by
  have:=(F (k,s) z A).1;unfold wideF;cases decide (0<ex.length)&&((gt (linksL b) k).Ar==2)<;>exact this,(F (k,s) z A).2.2 ex B⟩⟩
def zSp:qk:=⟨0,0⟩
def zSrc:qx:=⟨0,zSp,zSp⟩
def hullS(s t:qk):qk:=⟨if t.Aq<s.Aq then t.Aq else s.Aq,if t.Av > s.Av then t.Av else s.Av⟩
theorem qpl{s t:qk}:(⟨if s.Aq<t.Aq then s.Aq else t.Aq,if s.Av > t.Av then s.Av else t.Av⟩:qk)=hullS s t:=by
 unfold hullS
 congr 1
 ·split<;>split<;>omega
 ·split<;>split<;>omega
def plusS(s t:qk):qk:=⟨W64 (s.Aq+t.Aq),W64 (s.Av+t.Av)⟩
def joinS(node:Int)(s:Bool×qx)(a sl:qk):Bool×qx:=bif s.1 then(true,⟨node,hullS s.2.Am a,hullS s.2.Ay sl⟩) else(true,⟨node,a,sl⟩)
def frN(ls:List qu)(k:Nat):Nat:=(gt ls k).Bb.toNat
def stepS(f:Nat->qk->qk×qk)(ls:List qu)(t:qF)(node:Int)(s:Bool×qx)(k:Nat):Bool×qx:=
 bif gt t.Au (frN ls k) then joinS node s (plusS (gt t.Am (frN ls k)) (f k (gt t.Ay (frN ls k))).1) (f k (gt t.Ay (frN ls k))).2 else s
def toQ(ls:List qu)(lv:List Bool)(node:Int)(k:Nat):Bool:=lvL lv k&&(toL ls k==node)
def srcO(xs:List qx)(node:Int):Option qx:=xs.find? fun s=>s.Bs==node
def srcV(o:Option qx):Bool×qx:=match o with|some y=>(true,y)|none=>(false,zSrc)
def ndS(f:Nat->qk->qk×qk)(ls:List qu)(lv:List Bool)(t:qF)(node:Int)(s0:Bool×qx):Nat->Bool×qx
 |0=>s0
 |k+1=>bif toQ ls lv node k then stepS f ls t node (ndS f ls lv t node s0 k) k else ndS f ls lv t node s0 k
theorem qtv{f:Nat->qk->qk×qk}{ls:List qu}{lv:List Bool}{t:qF}{node:Int}{s0:Bool×qx}{j:Nat}:(selN (toQ ls lv node) j).foldl (stepS f ls t node) s0=ndS f ls lv t node s0 j:=by
 induction j with
 |zero=>rfl
 |succ j ih=>
  rw[qhI,List.foldl_append,ih];show _=bif toQ ls lv node j then stepS f ls t node (ndS f ls lv t node s0 j) j else ndS f ls lv t node s0 j;cases toQ ls lv node j<;>rfl
structure TmOk(t:qF)(M:Nat):Prop where
 r:t.Au.length=M
 a:t.Am.length=M
 s:t.Ay.length=M
 sl:∀k,k<M->slR (gt t.Ay k)
structure SrcOk(xs:List qx):Prop where
 len:xs.length<=1048576
 inc:∀j i,i<j->j<xs.length->(gt xs i).Bs<(gt xs j).Bs
 sl:∀x,x∈xs->slR x.Ay
theorem qtj{xs:List qx}{node:Int}(g:xs.length<=1048576):Ev (fun n=>qin n xs node) ((srcV (srcO xs node)).2,(srcV (srcO xs node)).1):=by
 have c:Ev (fun n=>qaN n xs node) (ixL (fun s=>s.Bs==node) xs):=
  qfK (fin:=(xs.length:Int)) (Lf:=qae xs node) (xs:=xs) (pf:=fun n x=>qiP n x node) (fun _ _=>.done)
   (fun n=>by simp only[qae,qn (je _),cond_false])
   (fun n j x b=>by
    have a:=(List.getElem?_eq_some_iff.1 b).1;simp only[qae,ql a,cond_true,qfL b,jd,wS j])
   (fun n=>by unfold qaN;congr 1;funext o;cases o<;>rfl)
 unfold qin;refine Ev.bind c ?_;unfold ixL srcO;cases hf:xs.findIdx? (fun s=>s.Bs==node) with
 |none=>
  have:xs.find? (fun s=>s.Bs==node)=U:=by
   rw[List.find?_eq_none];intro x b;have:=List.findIdx?_eq_none_iff.1 hf x b;simpa using this
  rw[this];exact Ev.ff Z .done
 |some j=>
  obtain⟨a,f,d⟩:=List.findIdx?_eq_some_iff_getElem.1 hf;have:xs.find? (fun s=>s.Bs==node)=V xs[j]:=by
   rw[List.find?_eq_some_iff_getElem];exact⟨f,j,a,rfl,fun i hi=>by have:=d i hi;simpa using this⟩
  rw[this];refine Ev.tt (show decide ((j:Int)>=0)=true from decide_eq_true (by omega)) ?_;show Ev (fun n=>(idx xs (j:Int)).bind _) _;rw[qbC a];exact .done
theorem qlZ{xs:List qx}{node:Int}{y:qx}(h:srcO xs node=V y):y.Bs=node/\y∈xs:=by
 have a:=List.find?_some h;exact⟨by simpa using a,List.mem_of_find?_eq_some h⟩
theorem quQ{xs:List qx}{node:Int}(h:SrcOk xs) :
  Ev (fun n=>qdh xs node n 0 0 0 0 0 false 0) ((srcV (srcO xs node)).2.Bs,(srcV (srcO xs node)).2.Am.Aq,(srcV (srcO xs node)).2.Am.Av,(srcV (srcO xs node)).2.Ay.Aq,(srcV (srcO xs node)).2.Ay.Av,(srcV (srcO xs node)).1,(xs.length:Int)):=by
 have g:=h.len;have:=loopF (τ:=Bool×qx) (Lf:=fun n s j=>qdh xs node n s.2.Bs s.2.Am.Aq s.2.Am.Av s.2.Ay.Aq s.2.Ay.Av s.1 j) (S:=fun j=>srcV (srcO (xs.take j) node)) (len:=xs.length)
  (fin:=((srcV (srcO xs node)).2.Bs,(srcV (srcO xs node)).2.Am.Aq,(srcV (srcO xs node)).2.Am.Av,(srcV (srcO xs node)).2.Ay.Aq,(srcV (srcO xs node)).2.Ay.Av,(srcV (srcO xs node)).1,(xs.length:Int)))
  (fun n=>by simp only[qdh,qn (je _),cond_false,jK])
  (fun j a X c=>by
   simp only[qdh,ql a,cond_true,qD a,jd,wS j];have e:srcO (xs.take (j+1)) node=(srcO (xs.take j) node).or (bif (gt xs j).Bs==node then V (gt xs j) else U):=by
    unfold srcO;rw[jD a,List.find?_append,<-qdA a]
    congr 1
   cases hq:(gt xs j).Bs==node
   ·rw[hq] at e;have e:srcO (xs.take (j+1)) node=srcO (xs.take j) node:=by rw[e];cases srcO (xs.take j) node<;>rfl
    rw[e] at c;exact c
   ·rw[hq] at e;have d:srcO (xs.take j) node=U:=by
     unfold srcO;rw[List.find?_eq_none];intro x f b;obtain⟨i,hi,rfl⟩:=List.mem_iff_getElem.1 f;rw[Je] at hi;rw[List.getElem_take,<-qdA (by omega)] at b;have:=h.inc j i (by omega) a;simp only[beq_iff_eq] at hq b;omega
    have e:srcO (xs.take (j+1)) node=V (gt xs j):=by rw[e,d];rfl
    rw[e] at c;exact c)
 exact this
theorem qrB{ls:List qu}{M:Nat}(h:LkOk ls M){k:Nat}(a:k<ls.length):(gt ls k).Bb=(frN ls k:Int)/\frN ls k<M:=by
 have b:=h.fr0 k a;have c:=h.fr1 k a;unfold frN;omega
section
variable{b:qe}{c:qC}{ex:List Int}{f:Nat->qk->qk×qk}{lv:List Bool}{t:qF}{xs:List qx}{node:Int}
theorem qtr(h:blockB b=true)(o:SpansS b c f)(u:lv.length=(linksL b).length)(i:TmOk t (2*(places b.Aa).length))(r:SrcOk xs) :
  Ev (fun n=>qhQ n b c (linksL b) lv xs t node) (ndS f (linksL b) lv t node (srcV (srcO xs node)) (linksL b).length):=by
 have k:=qj5 h;have p:=k.len;have m:=loopF (τ:=Bool×qx) (Lf:=fun n s j=>qdg b c (linksL b) lv t node n s.2.Bs s.2.Am.Aq s.2.Am.Av s.2.Ay.Aq s.2.Ay.Av s.1 j) (S:=fun j=>ndS f (linksL b) lv t node (srcV (srcO xs node)) j) (len:=(linksL b).length)
  (fin:=(fun s:Bool×qx=>(s.2.Bs,s.2.Am.Aq,s.2.Am.Av,s.2.Ay.Aq,s.2.Ay.Av,s.1,((linksL b).length:Int))) (ndS f (linksL b) lv t node (srcV (srcO xs node)) (linksL b).length))
  (fun n=>by simp only[qdg,qn (je _),cond_false])
  (fun j g X a=>by
   obtain⟨e1,d⟩:=qrB k g;have l:ndS f (linksL b) lv t node (srcV (srcO xs node)) (j+1)=bif toQ (linksL b) lv node j then stepS f (linksL b) t node (ndS f (linksL b) lv t node (srcV (srcO xs node)) j) j else ndS f (linksL b) lv t node (srcV (srcO xs node)) j:=rfl;rw[l] at a;generalize ndS f (linksL b) lv t node (srcV (srcO xs node)) j=s at a⊢;simp only[qdg,ql g,cond_true,qD g,qD (show j<lv.length by omega),jd,e1,qD (show frN (linksL b) j<t.Au.length by rw[i.r];exact d),qD (show frN (linksL b) j<t.Am.length by rw[i.a];exact d),qD (show frN (linksL b) j<t.Ay.length by rw[i.s];exact d),wS j];unfold toQ lvL toL at a;cases h1:gt lv j
   ·rw[h1] at a;exact a
   rw[h1,jF] at a;cases h2:(gt (linksL b) j).To==node
   ·rw[h2] at a;simp only[bne,h2];exact a
   rw[h2] at a;simp only[bne,h2];unfold stepS at a;cases h3:gt t.Au (frN (linksL b) j)
   ·rw[h3] at a;exact a
   rw[h3] at a;simp only[cond_true] at a;obtain⟨_,s1⟩:=o j _ g (i.sl _ d);refine Ev.bind (b:=false) (Ev.now Z) (Ev.ff Z (Ev.bind s1 ?_));generalize f j (gt t.Ay (frN (linksL b) j))=q at a⊢;unfold joinS at a;cases h4:s.1
   ·rw[h4] at a;exact a
   ·rw[h4] at a;simp only[qi2,jd,cond_true];have a1:=qpl (s:=s.2.Am) (t:=plusS (gt t.Am (frN (linksL b) j)) q.1);have a2:=qpl (s:=s.2.Ay) (t:=q.2);simp only[cond_true] at a;rw[<-a1,<-a2] at a;exact a)
 unfold qhQ;exact Ev.bind (quQ r) (Ev.bind m .done)
theorem qvW{ls:List qu}{M:Nat}{ps:List Tplace}{lo:List Int}{de:List (List Int)}{ex:List Int}(h:LkOk ls M)(k:lv.length=ls.length):Ev (fun n=>qio n (grV ls lv ps b lo de ex) node) (ints (selN (toQ ls lv node) ls.length)):=by
 have g:=h.len;have f:Ev (fun n=>qZ node ⟨V ⟨b,ps,ls,lo,de,ex⟩,lv⟩ ⟨b,ps,ls,lo,de,ex⟩ n ([]:List Int) 0) (ints (selN (toQ ls lv node) ls.length),(ls.length:Int)):=by
  refine qnw (q:=toQ ls lv node) (Lf:=qZ node ⟨V ⟨b,ps,ls,lo,de,ex⟩,lv⟩ ⟨b,ps,ls,lo,de,ex⟩) (len:=ls.length) (by omega) (Ev.succ ?_) (fun j d t i X c a=>?_)
  ·simp only[qZ,qn (je _),cond_false];exact .done
  ·simp only[qZ,ql d,cond_true,qD d,qD (show j<lv.length by omega),jd,qiM,i,wS j];unfold toQ lvL toL at c a;cases hq:gt lv j
   ·simp only[cond_false];exact a (by rw[hq];rfl)
   ·simp only[cond_true];cases hw:(gt ls j).To==node
    ·simp only[cond_false];exact a (by rw[hq,hw];rfl)
    ·simp only[cond_true];exact c (by rw[hq,hw];rfl)
 unfold qio qcS grV;simp only[jd];exact Ev.bind (Ev.bind f .done) .done
def fixS(node:Int)(s:Bool×qx):Bool×qx:=bif s.1 then s else(false,⟨node,zSp,zSp⟩)
theorem qs3(h:blockB b=true)(H:SpansI b c ex f)(J:lv.length=(linksL b).length)(u:TmOk t (2*(places b.Aa).length))(N:xs.length<=1048576) :
  Ev (fun n=>qdI n (V ⟨V (viewE b ex),lv⟩) c xs t node) (ndS f (linksL b) lv t node (srcV (srcO xs node)) (linksL b).length):=by
 have x:=qj5 h;have I:=x.len;have C:=qje (q:=toQ (linksL b) lv node) (j:=(linksL b).length);have K:∀j,(ndS f (linksL b) lv t node (srcV (srcO xs node)) j).1=true->(ndS f (linksL b) lv t node (srcV (srcO xs node)) j).2.Bs=node:=by
  intro j
  induction j with
  |zero=>
   show(srcV (srcO xs node)).1=true->(srcV (srcO xs node)).2.Bs=node;cases d:srcO xs node with
   |none=>intro e;cases e
   |some y=>exact fun _=>(qlZ d).1
  |succ j ih=>
   unfold ndS;cases toQ (linksL b) lv node j
   ·exact ih
   ·simp only[cond_true];unfold stepS;cases gt t.Au (frN (linksL b) j)
    ·exact ih
    ·simp only[cond_true];unfold joinS;cases (ndS f (linksL b) lv t node (srcV (srcO xs node)) j).1<;>exact fun _=>rfl
 have O:∀j,(ndS f (linksL b) lv t node (srcV (srcO xs node)) j).1=false->(ndS f (linksL b) lv t node (srcV (srcO xs node)) j).2=zSrc:=by
  intro j
  induction j with
  |zero=>
   show(srcV (srcO xs node)).1=false->(srcV (srcO xs node)).2=zSrc;cases srcO xs node with
   |none=>exact fun _=>rfl
   |some y=>intro e;cases e
  |succ j ih=>
   unfold ndS;cases toQ (linksL b) lv node j
   ·exact ih
   ·simp only[cond_true];unfold stepS;cases gt t.Au (frN (linksL b) j)
    ·exact ih
    ·simp only[cond_true];unfold joinS;cases (ndS f (linksL b) lv t node (srcV (srcO xs node)) j).1<;>(intro e;cases e)
 have D:∀(l:List Nat) (s:Bool×qx),(∀k,k∈l->toQ (linksL b) lv node k=true)->l.foldl (fun s k=>fixS node (stepS f (linksL b) t node s k)) (fixS node s)=fixS node (l.foldl (stepS f (linksL b) t node) s):=by
  intro l
  induction l with
  |nil=>intro s _;rfl
  |cons k l ih=>
   intro s L;have e:fixS node (stepS f (linksL b) t node (fixS node s) k)=fixS node (stepS f (linksL b) t node s k):=by
    unfold stepS;obtain⟨s1,s2⟩:=s;cases gt t.Au (frN (linksL b) k)<;>cases s1<;>rfl
   rw[List.foldl_cons,List.foldl_cons,e];exact ih _ fun P g=>L P (jr _ g)
 have B:=(qsC (τ:=Bool×qx) (xs:=selN (toQ (linksL b) lv node) (linksL b).length) (Lf:=fun n s j=>qbt (V ⟨V (viewE b ex),lv⟩) c t (ints (selN (toQ (linksL b) lv node) (linksL b).length)) n s.1 s.2.Bs s.2.Am.Aq s.2.Am.Av s.2.Ay.Aq s.2.Ay.Av j)
  (step:=fun s k=>fixS node (stepS f (linksL b) t node s k)) (fin:=fun s=>(s.1,s.2.Bs,s.2.Am.Aq,s.2.Am.Av,s.2.Ay.Aq,s.2.Ay.Av,((ints (selN (toQ (linksL b) lv node) (linksL b).length)).length:Int))) (fixS node (srcV (srcO xs node))) (fun _ s=>s=fixS node s/\s.2.Bs=node) (by
   constructor
   ·unfold fixS;cases d:(srcV (srcO xs node)).1
    ·rfl
    ·simp only[d,cond_true]
   ·unfold fixS;cases d:srcO xs node with
    |none=>rfl
    |some y=>exact(qlZ d).1)
  (fun j s p d=>by
   obtain⟨Q,F⟩:=d;have A:(stepS f (linksL b) t node s (selN (toQ (linksL b) lv node) (linksL b).length)[j]).2.Bs=node:=by
    unfold stepS;cases gt t.Au (frN (linksL b) (selN (toQ (linksL b) lv node) (linksL b).length)[j])
    ·exact F
    ·unfold joinS;cases s.1<;>rfl
   constructor
   ·unfold fixS;cases d:(stepS f (linksL b) t node s (selN (toQ (linksL b) lv node) (linksL b).length)[j]).1
    ·rfl
    ·simp only[d,cond_true]
   ·unfold fixS;cases d:(stepS f (linksL b) t node s (selN (toQ (linksL b) lv node) (linksL b).length)[j]).1
    ·rfl
    ·exact A)
  (fun n s=>by simp only[qbt,qcQ,qn (je _),cond_false])
  (fun j s p d X a=>by
   obtain⟨v,i⟩:=d;have hi:=ql0 p;have r:(selN (toQ (linksL b) lv node) (linksL b).length)[j]<(linksL b).length:=(qls.1 (jo p)).1;generalize (selN (toQ (linksL b) lv node) (linksL b).length)[j]=k at hi r a;obtain⟨e1,m⟩:=qrB x r;have M:idx (viewE b ex).links (k:Int)=V (gt (linksL b) k):=qD r;simp only[qbt,qcQ,ql p,cond_true,hi,M,jd,e1,qD (show frN (linksL b) k<t.Au.length by rw[u.r];exact m),qD (show frN (linksL b) k<t.Am.length by rw[u.a];exact m),qD (show frN (linksL b) k<t.Ay.length by rw[u.s];exact m),wS j];unfold stepS at a;cases h3:gt t.Au (frN (linksL b) k)
   ·rw[h3] at a;simp only[cond_false] at a;rw[<-v] at a;exact a
   rw[h3] at a;simp only[cond_true] at a⊢;obtain⟨_,s1⟩:=H k _ r (u.sl _ m);refine Ev.bind s1 ?_;generalize f k (gt t.Ay (frN (linksL b) k))=q at a⊢;simp only[qjd,jd];unfold joinS at a;unfold qds;cases h4:s.1
   ·rw[h4] at a;simp only[Bool.not_false,cond_true,jd];unfold fixS at a;simp only[cond_false,cond_true] at a;rw[i];exact a
   ·rw[h4] at a;simp only[jV,cond_false,qgM,jd];unfold fixS at a;simp only[cond_true] at a;rw[i];exact a)).1
 rw[D _ _ (fun k g=>(qls.1 g).2),qtv] at B;unfold qdI;refine Ev.bind (qtj N) ?_;have e0:(bif (srcV (srcO xs node)).1 then(qds 0 ⟨node,⟨0,0⟩,⟨0,0⟩⟩ false ⟨(srcV (srcO xs node)).2.Am.Aq,(srcV (srcO xs node)).2.Am.Av⟩ ⟨(srcV (srcO xs node)).2.Ay.Aq,(srcV (srcO xs node)).2.Ay.Av⟩).bind (fun(x9,x10)=>V (x10,x9.Bs,x9.Am.Aq,x9.Am.Av,x9.Ay.Aq,x9.Ay.Av)) else V (false,node,(0:Int),(0:Int),(0:Int),(0:Int))) =
   V ((fixS node (srcV (srcO xs node))).1,(fixS node (srcV (srcO xs node))).2.Bs,(fixS node (srcV (srcO xs node))).2.Am.Aq,(fixS node (srcV (srcO xs node))).2.Am.Av,(fixS node (srcV (srcO xs node))).2.Ay.Aq,(fixS node (srcV (srcO xs node))).2.Ay.Av):=by
  cases d:srcO xs node with
  |none=>rfl
  |some y=>
   have:=(qlZ d).1;unfold fixS srcV;simp only[cond_true,this]
   rfl
 refine Ev.bindN e0 (Ev.bind (qvW (ps:=places b.Aa) (lo:=pre (load0 b) b.Ac.length) (de:=pre (exactL b) b.Ac.length) (ex:=ex) x J) (Ev.bind B ?_));have z:=O (linksL b).length;generalize ndS f (linksL b) lv t node (srcV (srcO xs node)) (linksL b).length=s at z⊢;unfold fixS;obtain⟨s1,s2⟩:=s;cases s1
 ·have:=z Z;simp only at this;subst this;exact .done
 ·exact .done
end

theorem qnN{b:qe}(h:blockB b=true):Ev (fun n=>qhb n b) ((2*(places b.Aa).length:Nat):Int):=by
 have a:=qY (qao h);have c:=qaY a;unfold qhb;refine Ev.bind (b:=(places b.Aa).map toSp) (qf1 a) (Ev.now ?_);rw[jp,qT (by omega) (by omega)]
 rfl
theorem qtA{v:Tview}(a:v.places.length<=78)(n:Nat):qeR n (V v)=V ((2*v.places.length:Nat):Int):=by
 unfold qeR qej;simp only[jd];rw[qT (by omega) (by omega)]
 rfl
def stepN(xs:List qx)(j:Nat):Bool:=decide (j=0) || decide ((gt xs (j-1)).Bs<(gt xs j).Bs)
def srcB(xs:List qx)(M:Nat):Bool:=allN (fun j=>inI (gt xs j).Bs 0 ((M:Int)-1)&&(stepN xs j&&(spanB (gt xs j).Am&&slewB (gt xs j).Ay))) xs.length
section
variable{L:Nat}{fr to:Nat->Int}{lv:Nat->Bool}{n:Nat}
def OrdOk(L:Nat)(fr to:Nat->Int)(lv:Nat->Bool)(n:Nat)(R:List Nat):Prop:=∀l1 k l2,R=l1++k::l2->k<n/\k∉l1/\inN L fr to lv l1 k=0
theorem OrdOk.snoc{R:List Nat}{k:Nat}(h:OrdOk L fr to lv n R)(f:nxtN L fr to lv n R=V k):OrdOk L fr to lv n (R++[k]):=by
 intro b a l2 e;rcases List.eq_nil_or_concat l2 with rfl|⟨l2',z,rfl⟩
 ·obtain⟨rfl,d⟩:=List.append_inj' e Z;obtain rfl:k=a:=by simpa using d
  exact qnc f
 ·have c:R++[k]=(b++a::l2')++[z]:=by rw[e];simp
  obtain⟨e1,_⟩:=List.append_inj' c Z;exact h b a l2' e1
theorem qrW:∀m R R',OrdOk L fr to lv n R->ordN L fr to lv n m R=V R'->OrdOk L fr to lv n R':=by
 intro m
 induction m with
 |zero=>intro R R' h e;obtain rfl:=Option.some.inj e;exact h
 |succ m ih=>
  intro R R' h e;unfold ordN at e;cases hn:nxtN L fr to lv n R with
  |none=>rw[hn] at e;cases e
  |some k=>
   rw[hn] at e;exact ih _ _ (h.snoc hn) e
theorem OrdOk.at{R:List Nat}(h:OrdOk L fr to lv n R){j:Nat}(a:j<R.length):R[j]<n/\R[j]∉R.take j/\inN L fr to lv (R.take j) R[j]=0:=by
 refine h (R.take j) R[j] (R.drop (j+1)) ?_;rw[<-jR a,List.take_append_drop]
end
theorem qnh{α:Type}[Inhabited α]{xs:List α}{k:Nat}{v:α}(a:k<xs.length)(h:gt xs k=v):setS xs (k:Int) v=xs:=by
 unfold setS;rw[ju,<-h,qdA a];exact List.set_getElem_self a
theorem qkP{α:Type}[Inhabited α]{xs:List α}{a k:Nat}{y:α}(b:a<xs.length):gt (setS xs (a:Int) y) k=if k=a then y else gt xs k:=by
 unfold setS;rw[ju];by_cases h:k=a
 ·subst h;rw[if_pos Z,qnO b]
 ·rw[if_neg h,qpm h]
def setT(t:qF)(k:Nat)(s:Bool×qx):qF:=⟨setS t.Au (k:Int) s.1,setS t.Am (k:Int) s.2.Am,setS t.Ay (k:Int) s.2.Ay⟩
theorem qpY{t:qF}{M k:Nat}{s:Bool×qx}(h:TmOk t M)(c:k<M)(d:slR s.2.Ay):TmOk (setT t k s) M where
 r:=by show(setS _ _ _).length=_;rw[qaL];exact h.r
 a:=by show(setS _ _ _).length=_;rw[qaL];exact h.a
 s:=by show(setS _ _ _).length=_;rw[qaL];exact h.s
 sl:=fun j b=>by
  show slR (gt (setS _ _ _) j);rw[qkP (by rw[h.s];exact c)];split
  ·exact d
  ·exact h.sl j b
def Bare(t:qF)(M:Nat)(l:List Nat):Prop:=∀k,k<M->k∉l->gt t.Au k=false/\gt t.Am k=zSp/\gt t.Ay k=zSp
def zT:qF:=⟨[],[],[]⟩
theorem qrN:slR zSp:=by unfold slR zSp;exact⟨⟨jT _,by show(0:Int)<=_;omega⟩,jT _,by show(0:Int)<=_;omega⟩
theorem qu3{s t:qk}(a:slR s)(b:slR t):slR (hullS s t):=by
 obtain⟨⟨a1,a2⟩,c,d⟩:=a;obtain⟨⟨b1,b2⟩,b3,f⟩:=b;refine⟨⟨?_,?_⟩,?_,?_⟩
 ·show(0:Int)<=(if t.Aq<s.Aq then t.Aq else s.Aq);split<;>assumption
 ·show(if t.Aq<s.Aq then t.Aq else s.Aq)<=1000000;split<;>assumption
 ·show(0:Int)<=(if t.Av > s.Av then t.Av else s.Av);split<;>assumption
 ·show(if t.Av > s.Av then t.Av else s.Av)<=1000000;split<;>assumption
section
variable{b:qe}{c:qC}{ex:List Int}{f g:Nat->qk->qk×qk}{lv:List Bool}{t:qF}{xs:List qx}{node:Int}
theorem qpj(h:blockB b=true)(m:SpansS b c g)(i:∀k s,(f k s).2=(g k s).2)(n:TmOk t (2*(places b.Aa).length))(o:SrcOk xs):∀j,j<=(linksL b).length->slR (ndS f (linksL b) lv t node (srcV (srcO xs node)) j).2.Ay:=by
 intro j
 induction j with
 |zero=>
  intro _;show slR (srcV (srcO xs node)).2.Ay;cases hs:srcO xs node with
  |none=>exact qrN
  |some y=>exact o.sl y (qlZ hs).2
 |succ j a=>
  intro p;have a:=a (by omega);obtain⟨_,l⟩:=qrB (qj5 h) (show j<(linksL b).length by omega);have d:=(m j _ (show j<(linksL b).length by omega) (n.sl _ l)).1;rw[<-i] at d;show slR (bif toQ (linksL b) lv node j then stepS f (linksL b) t node (ndS f (linksL b) lv t node (srcV (srcO xs node)) j) j else ndS f (linksL b) lv t node (srcV (srcO xs node)) j).2.Ay;cases toQ (linksL b) lv node j
  ·exact a
  ·simp only[cond_true];unfold stepS;cases gt t.Au (frN (linksL b) j)
   ·exact a
   ·simp only[cond_true];unfold joinS;cases (ndS f (linksL b) lv t node (srcV (srcO xs node)) j).1
    ·exact d
    ·exact qu3 a d
theorem qqY(h:blockB b=true)(a:SpansS b c f)(d:TmOk t (2*(places b.Aa).length))(g:SrcOk xs):∀j,j<=(linksL b).length->slR (ndS f (linksL b) lv t node (srcV (srcO xs node)) j).2.Ay:=qpj h a (fun _ _=>rfl) d g
theorem quI:∀j,(ndS f (linksL b) lv t node (srcV (srcO xs node)) j).1=false->(ndS f (linksL b) lv t node (srcV (srcO xs node)) j).2=zSrc:=by
 intro j
 induction j with
 |zero=>
  show(srcV (srcO xs node)).1=false->(srcV (srcO xs node)).2=zSrc;cases srcO xs node with
  |none=>exact fun _=>rfl
  |some y=>intro e;cases e
 |succ j ih=>
  unfold ndS;cases toQ (linksL b) lv node j
  ·exact ih
  ·simp only[cond_true];unfold stepS;cases gt t.Au (frN (linksL b) j)
   ·exact ih
   ·simp only[cond_true];unfold joinS;cases (ndS f (linksL b) lv t node (srcV (srcO xs node)) j).1<;>(intro e;cases e)
def runR(o:Option qF):qF×Bool:=match o with|some t=>(t,true)|none=>(zT,false)
def rnO(f:Nat->qk->qk×qk)(ls:List qu)(lv:List Bool)(xs:List qx):List Nat->qF->Option qF
 | [],t=>V t
 |k::R,t=>bif (ndS f ls lv t (k:Int) (srcV (srcO xs (k:Int))) ls.length).1 then bif spanB (ndS f ls lv t (k:Int) (srcV (srcO xs (k:Int))) ls.length).2.Am then rnO f ls lv xs R (setT t k (ndS f ls lv t (k:Int) (srcV (srcO xs (k:Int))) ls.length)) else U else rnO f ls lv xs R t
def zTm(M:Nat):qF:=⟨List.replicate M false,List.replicate M zSp,List.replicate M zSp⟩
theorem qoO{α:Type}[Inhabited α]{v:α}{M k:Nat}(a:k<M):gt (List.replicate M v) k=v:=by rw[qdA (by rw[jP];exact a)];simp
theorem qoJ{M:Nat}:TmOk (zTm M) M:=⟨jP,jP,jP,fun k a=>by
 show slR (gt (List.replicate M zSp) k);rw[qoO a];exact qrN⟩
theorem qtD{M:Nat}{l:List Nat}:Bare (zTm M) M l:=fun _ a _=>⟨qoO a,qoO a,qoO a⟩
theorem qvt(h:blockB b=true)(m:SpansS b c f)(n:SrcOk xs):∀(R:List Nat) (t d:qF),(∀k,k∈R->k<2*(places b.Aa).length)->TmOk t (2*(places b.Aa).length)->rnO f (linksL b) lv xs R t=V d->TmOk d (2*(places b.Aa).length):=by
 intro R
 induction R with
 |nil=>intro t d _ a e;obtain rfl:=Option.some.inj e;exact a
 |cons k R ih=>
  intro t d g a e;have l:=qqY (node:=(k:Int)) (lv:=lv) h m a n (linksL b).length (je _);unfold rnO at e;cases h1:(ndS f (linksL b) lv t (k:Int) (srcV (srcO xs (k:Int))) (linksL b).length).1
  ·rw[h1] at e;exact ih _ _ (fun i hi=>g i (jr _ hi)) a e
  ·rw[h1] at e;cases h2:spanB (ndS f (linksL b) lv t (k:Int) (srcV (srcO xs (k:Int))) (linksL b).length).2.Am
   ·rw[h2] at e;cases e
   ·rw[h2] at e;exact ih _ _ (fun i hi=>g i (jr _ hi)) (qpY a (g k (jx ..)) l) e
def runL(o:Option qF)(m:Nat):Flow (qF×Bool) (List qk×List qk×List Bool×Int):=match o with|some t'=>.nxt (t'.Ay,t'.Am,t'.Au,(m:Int))|none=>.ret (zT,false)
theorem quX(h:blockB b=true)(A:SpansS b c f)(I:lv.length=(linksL b).length)(B:SrcOk xs){R:List Nat}(D:∀k,k∈R->k<2*(places b.Aa).length)(F:R.length<=1000) :
  Ev (fun n=>qiy n b c (linksL b) lv xs (ints R)) (runR (rnO f (linksL b) lv xs R (zTm (2*(places b.Aa).length)))):=by
 have J:=qaY (qY (qao h));have m:=qnN h;obtain⟨M,u⟩:∃M,M=2*(places b.Aa).length:=⟨_,rfl⟩;have N:M<=156:=by omega
 have r:∀d j t,j+d=R.length->TmOk t M->Ev (fun n=>qcw b c (linksL b) lv xs (ints R) n t.Ay t.Am t.Au (j:Int)) (runL (rnO f (linksL b) lv xs (R.drop j) t) R.length):=by
  intro d
  induction d with
  |zero=>
   intro j t H g;obtain rfl:j=R.length:=by omega
   rw[List.drop_length];refine Ev.succ ?_;simp only[qcw,qcQ,qn (je _),cond_false];exact .done
  |succ d ih=>
   intro j t H g;have a:j<R.length:=by omega
   have l:=D _ (jo a);have hi:=ql0 a;have z:R.drop j=R[j]::R.drop (j+1):=jR a;generalize R[j]=k at l hi z;rw[<-u] at l;have v:=qtr (node:=(k:Int)) h A I (by rw[<-u];exact g) B;have p:=qqY (node:=(k:Int)) (lv:=lv) h A (by rw[<-u];exact g) B (linksL b).length (je _);have L:idx t.Au (k:Int)=V (gt t.Au k):=qD (by rw[g.r];exact l);have K:idx t.Am (k:Int)=V (gt t.Am k):=qD (by rw[g.a];exact l);have is:idx t.Ay (k:Int)=V (gt t.Ay k):=qD (by rw[g.s];exact l);have i:∀n,qcw b c (linksL b) lv xs (ints R) (n+1) t.Ay t.Am t.Au (j:Int)=(qhQ n b c (linksL b) lv xs t (k:Int)).bind fun(r4,r5)=>bif (!r4) then qcw b c (linksL b) lv xs (ints R) n t.Ay t.Am t.Au ((j+1:Nat):Int) else bif (!spanB r5.Am) then V (.ret (zT,false)) else
     qcw b c (linksL b) lv xs (ints R) n (setS t.Ay (k:Int) r5.Ay) (setS t.Am (k:Int) r5.Am) (setS t.Au (k:Int) true) ((j+1:Nat):Int):=fun n=>by
    simp only[qcw,qcQ,ql a,cond_true,hi,jd,qrO,L,K,is,wS j]
    rfl
   rw[z];unfold rnO;generalize ndS f (linksL b) lv t (k:Int) (srcV (srcO xs (k:Int))) (linksL b).length=s at v p⊢;obtain⟨s1,s2⟩:=s;cases s1
   ·exact Ev.step i (Ev.bind v (ih (j+1) t (by omega) g))
   ·cases hsp:spanB s2.Am
    ·refine Ev.step i (Ev.bind v ?_);simp only[hsp];exact .done
    ·refine Ev.step i (Ev.bind v ?_);simp only[hsp];exact ih (j+1) (setT t k (true,s2)) (by omega) (qpY g l p)
 have x:mkS (M:Int) false=V (List.replicate M false):=qko (by omega);have y:mkS (M:Int) (⟨0,0⟩:qk)=V (List.replicate M zSp):=qko (by omega);have C:=r R.length 0 (zTm M) (by omega) qoJ;rw[List.drop_zero] at C;rw[<-u] at m⊢;unfold qiy qjX;refine Ev.bind m ?_;simp only[x,y,jd];refine Ev.bind C ?_;cases rnO f (linksL b) lv xs R (zTm M)<;>exact .done
theorem quR(h:blockB b=true)(hg:SpansS b c g)(H:∀k s,(f k s).2=(g k s).2)(hf:SpansI b c ex f)(hl:lv.length=(linksL b).length)(P:SrcOk xs){R:List Nat}(Y:∀j,∀O:j<R.length,R[j]<2*(places b.Aa).length/\R[j]∉R.take j)(a3:R.length<=1000) :
  Ev (fun n=>qdF n (V ⟨V (viewE b ex),lv⟩) c xs (ints R)) (runR (rnO f (linksL b) lv xs R (zTm (2*(places b.Aa).length)))):=by
 have L:=qaY (qY (qao h));have r:=qtA (v:=viewE b ex) L;have D:(viewE b ex).places.length=(places b.Aa).length:=rfl;rw[D] at r;obtain⟨M,B⟩:∃M,M=2*(places b.Aa).length:=⟨_,rfl⟩;have hM:M<=156:=by omega
 have A:∀d j t,j+d=R.length->TmOk t M->Bare t M (R.take j)->Ev (fun n=>qa1 (V ⟨V (viewE b ex),lv⟩) c xs (ints R) n t.Ay t.Am t.Au (j:Int)) (runL (rnO f (linksL b) lv xs (R.drop j) t) R.length):=by
  intro d
  induction d with
  |zero=>
   intro j t O a _;obtain rfl:j=R.length:=by omega
   rw[List.drop_length];refine Ev.succ ?_;simp only[qa1,qcQ,qn (je _),cond_false];exact .done
  |succ d ih=>
   intro j t O a F;have m:j<R.length:=by omega
   obtain⟨l,S⟩:=Y j m;have hi:=ql0 m;have x:R.take (j+1)=R.take j++[R[j]]:=jD m;have N:R.drop j=R[j]::R.drop (j+1):=jR m;generalize R[j]=k at l S hi x N;rw[<-B] at l;have C:=qs3 (node:=(k:Int)) h hf hl (by rw[<-B];exact a) P.len;have z:=qpj (node:=(k:Int)) (lv:=lv) h hg H (by rw[<-B];exact a) P (linksL b).length (je _);have Q:=quI (f:=f) (b:=b) (lv:=lv) (t:=t) (xs:=xs) (node:=(k:Int)) (linksL b).length;obtain⟨b1,b2,b3⟩:=F k l S;have ir:idx t.Au (k:Int)=V (gt t.Au k):=qD (by rw[a.r];exact l);have ia:idx t.Am (k:Int)=V (gt t.Am k):=qD (by rw[a.a];exact l);have is:idx t.Ay (k:Int)=V (gt t.Ay k):=qD (by rw[a.s];exact l);have y:∀n,qa1 (V ⟨V (viewE b ex),lv⟩) c xs (ints R) (n+1) t.Ay t.Am t.Au (j:Int)=(qdI n (V ⟨V (viewE b ex),lv⟩) c xs t (k:Int)).bind fun(r3,r4)=>(bif r3 then V (!spanB r4.Am) else V false).bind fun b3=>bif b3 then V (.ret (zT,false)) else
     qa1 (V ⟨V (viewE b ex),lv⟩) c xs (ints R) n (setS t.Ay (k:Int) r4.Ay) (setS t.Am (k:Int) r4.Am) (setS t.Au (k:Int) r3) ((j+1:Nat):Int):=fun n=>by
    simp only[qa1,qcQ,ql m,cond_true,hi,jd,qsF,ir,ia,is,wS j]
    rfl
   rw[N];unfold rnO;generalize ndS f (linksL b) lv t (k:Int) (srcV (srcO xs (k:Int))) (linksL b).length=s at C z Q⊢;obtain⟨s1,s2⟩:=s;cases s1
   ·have:=Q Z;simp only at this;subst this;have e1:setS t.Ay (k:Int) zSrc.Ay=t.Ay:=qnh (by rw[a.s];exact l) b3;have W:setS t.Am (k:Int) zSrc.Am=t.Am:=qnh (by rw[a.a];exact l) b2;have X:setS t.Au (k:Int) false=t.Au:=qnh (by rw[a.r];exact l) b1;refine Ev.step y (Ev.bind C ?_);simp only[cond_false,jd,e1,W,X];exact ih (j+1) t (by omega) a (fun i hi p=>F i hi (fun I=>p (by rw[x];exact jM _ I)))
   ·cases hsp:spanB s2.Am
    ·refine Ev.step y (Ev.bind C ?_);simp only[hsp];exact .done
    ·refine Ev.step y (Ev.bind C ?_);simp only[hsp];refine ih (j+1) (setT t k (true,s2)) (by omega) (qpY a l z) (fun i hi p=>?_);rw[x] at p;have u:i≠k:=fun e=>p (jZ _ (List.mem_singleton.2 e));have:=F i hi (fun I=>p (jM _ I));refine⟨?_,?_,?_⟩
     ·show gt (setS _ _ _) i=_;rw[qkP (by rw[a.r];exact l),if_neg u];exact this.1
     ·show gt (setS _ _ _) i=_;rw[qkP (by rw[a.a];exact l),if_neg u];exact this.2.1
     ·show gt (setS _ _ _) i=_;rw[qkP (by rw[a.s];exact l),if_neg u];exact this.2.2
 have J:mkS (M:Int) false=V (List.replicate M false):=qko (by omega);have K:mkS (M:Int) (⟨0,0⟩:qk)=V (List.replicate M zSp):=qko (by omega);have T:=A R.length 0 (zTm M) (by omega) qoJ qtD;rw[List.drop_zero] at T;rw[<-B] at r⊢;unfold qdF qg8;simp only[jd,r,J,K];refine Ev.bind T ?_;cases rnO f (linksL b) lv xs R (zTm M)<;>exact .done
end

abbrev lkB(b:qe):Nat:=(linksL b).length
abbrev ndB(b:qe):Nat:=2*(places b.Aa).length
abbrev lvJ(b:qe)(br:List Int):List Bool:=lvB br (lkB b)
structure TgOk(b:qe)(c:qC)(br:List Int)(xs:List qx)(R:List Nat):Prop where
 bl:blockB b=true
 co:cornerB c=true
 br_:brB br (lkB b)=true
 sr:srcB xs (ndB b)=true
 or_:ordL (linksL b) (lvJ b br) (ndB b) (ndB b) []=V R
theorem TgOk.len{b:qe}{c:qC}{br:List Int}{xs:List qx}{R:List Nat}(h:TgOk b c br xs R):R.length=ndB b:=by
 have:=qoU (ndB b) [] R h.or_;simpa using this

section
variable{code:List (IntK .u8)}{a s:Int}
theorem qrZ{α:Type}{P:α->Prop}{x y z:α}{i:Int}(d:0<=i)(f:i<3)(a:P x)(b:P y)(c:P z):∃v,idx [x,y,z] i=V v/\P v:=by
 have:i=0\/i=1\/i=2:=by omega
 rcases this with rfl|rfl|rfl
 ·exact⟨x,rfl,a⟩
 ·exact⟨y,rfl,b⟩
 ·exact⟨z,rfl,c⟩
theorem qoi{x:Int}(a:-2000000000<=x)(b:x<=2000000000):okI x:=qaG (by omega) (by omega)
theorem qtE(c:CodeOk code)(h:SrcI code a s):EvQ (fun n=>qfY n ⟨code,a,s⟩) (fun o=>qpE o.1/\SrcI code o.2.1 o.2.2):=by
 unfold qfY;refine EvQ.bind (qaJ 3 c h) ?_;rintro⟨M,N,O⟩ ⟨⟨⟨k,p1⟩,_⟩,b⟩;dsimp only at k p1 b⊢;obtain⟨Y,f,d⟩:=qrZ (P:=okS) (x:=(⟨#[115,108,111,119]⟩:ByteArray)) (y:=(⟨#[102,97,115,116]⟩:ByteArray)) (z:=(⟨#[116,121,112]⟩:ByteArray)) k (p1 (by decide)) (by show(4:Nat)<=1048576;decide) (by show(4:Nat)<=1048576;decide) (by show(3:Nat)<=1048576;decide);refine EvQ.bindN f (EvQ.bind (qaJ 20 c b) ?_);rintro⟨Q,R,S⟩ ⟨_,b⟩;refine EvQ.bind (qaJ 20 c b) ?_;rintro⟨T,W,X⟩ ⟨_,b⟩;refine EvQ.bind (qaJ 60 c b) ?_;rintro⟨p,r,t⟩ ⟨_,b⟩;refine EvQ.bind (qaJ 40 c b) ?_;rintro⟨u,v,A⟩ ⟨_,b⟩;refine EvQ.bind (qaJ 30 c b) ?_;rintro⟨B,C,D⟩ ⟨_,b⟩;dsimp only at b⊢;refine EvQ.bif (fun _=>EvQ.done ⟨⟨d,qbh _,qbh _,qbh _,qbh _⟩,b⟩) (fun _=>EvQ.bif (fun _=>EvQ.bind (qaJ 3 c b) ?_) (fun _=>EvQ.bif (fun _=>EvQ.bind (qaJ 2 c b) ?_) (fun _=>EvQ.bif (fun _=>EvQ.done ⟨⟨by show(0:Nat)<=1048576;decide,qbh _,qbh _,qbh _,qbh _⟩,b⟩) (fun _=>EvQ.done ⟨⟨d,qbh _,qbh _,qbh _,qbh _⟩,b⟩))))
 ·rintro⟨F,H,I⟩ ⟨⟨⟨l,m⟩,_⟩,b⟩;dsimp only at l m b⊢;obtain⟨e,g,i⟩:=qrZ (P:=okI) (x:=(99:Int)) (y:=100) (z:=-1) l (m (by decide)) (qoi (by decide) (by decide)) (qoi (by decide) (by decide)) (qoi (by decide) (by decide));exact EvQ.bindN g (EvQ.done ⟨⟨d,qbh _,qbh _,i,qbh _⟩,b⟩)
 ·rintro⟨J,K,L⟩ ⟨_,b⟩;exact EvQ.done ⟨⟨d,qbh _,qbh _,qbh _,qbh _⟩,b⟩
theorem qqA(d:CodeOk code)(h:SrcI code a s):EvQ (fun n=>qgx n ⟨code,a,s⟩) (fun o=>BlkO o.1/\SrcI code o.2.1 o.2.2):=by
 unfold qgx;refine EvQ.bind (qaJ 12 d h) ?_;rintro⟨k,l,m⟩ ⟨_,b⟩;dsimp only at b⊢;refine EvQ.bif (fun _=>EvQ.bind (qrM d b) ?_) (fun _=>EvQ.bif (fun _=>EvQ.bif (fun _=>EvQ.bind (qmO (by decide) (by decide) d b) ?_) (fun _=>EvQ.bind (qmO (by decide) (by decide) d b) ?_)) (fun _=>EvQ.bif (fun _=>EvQ.bind (qmO (by decide) (by decide) d b) ?_) (fun _=>EvQ.bind (qmO (by decide) (by decide) d b) ?_)))
 ·rintro⟨r,f,g⟩ i;exact EvQ.done i
 ·rintro⟨r,f,g⟩ ⟨c,b⟩;exact EvQ.done ⟨⟨c.ok,c.des.sm⟩,b⟩
 ·rintro⟨r,f,g⟩ ⟨c,b⟩;exact EvQ.done ⟨⟨c.ok,c.des.sm⟩,b⟩
 ·rintro⟨r,f,g⟩ ⟨c,b⟩;exact EvQ.done ⟨⟨c.ok,c.des.sm⟩,b⟩
 ·rintro⟨r,f,g⟩ ⟨c,b⟩;exact EvQ.done ⟨⟨c.ok,c.des.sm⟩,b⟩
theorem qtn{b:qe}(D:BlkO b)(k:CodeOk code)(h:SrcI code a s):EvQ (fun n=>qf6 n ⟨code,a,s⟩ b) (fun o=>okL okI o.1/\SrcI code o.2.1 o.2.2):=by
 unfold qf6;refine EvQ.bind (R:=fun o:Int×Int×Bool=>SrcI code o.1 o.2.1/\(o.2.2=false->blockB b=true)) (EvQ.bindE (qjI D.ok) (EvQ.bif (fun _=>EvQ.done ⟨h,fun e=>by cases e⟩) (fun g=>EvQ.bind (qaJ 3 k h) ?_))) ?_
 ·rintro⟨X,Y,a3⟩ ⟨_,c⟩;exact EvQ.done ⟨c,fun _=>by simpa using g⟩
 rintro⟨i1,i2,b1⟩ ⟨c,g⟩;dsimp only at c g⊢;refine EvQ.bif (fun _=>EvQ.done ⟨⟨Jh _,fun _ h=>by cases h⟩,c⟩) (fun u=>?_);have g:=g u;have I:=qkp g;refine EvQ.bindE (qlj g) (EvQ.bind (qaJ 8 k c) ?_);rintro⟨v,i4,i5⟩ ⟨⟨⟨p0,p1⟩,_⟩,c⟩;dsimp only at p0 p1 c⊢;have p2:=p1 (by decide);have z:W64 (1+v)=1+v:=qT (by omega) (by omega);rw[z];refine EvQ.bind (qaJ _ k c) ?_;rintro⟨A,i7,i8⟩ ⟨⟨⟨q0,B⟩,_⟩,c⟩;dsimp only at q0 B c⊢;have q2:=B (by omega);obtain⟨j,rfl⟩:∃j:Nat,A=(j:Int):=⟨A.toNat,by omega⟩;have m:∀(d j:Nat) (x:List Int) (p r:Int),SrcI code p r->(linksL b).length<=j+d->x.length<=j->j<=(linksL b).length+8->(∀y,y∈x->okI y) ->
   EvQ (fun n=>qcn ⟨code,a,s⟩ (linksL b) v n x p r (j:Int)) (fun o=>(o.1.length<=20000/\∀y,y∈o.1->okI y)/\SrcI code o.2.1 o.2.2.1):=by
  intro d
  induction d with
  |zero=>
   intro j x p r c F J H f;refine EvQ.succ ?_;simp only[qcn];exact EvQ.ff (qn (by omega)) (EvQ.done ⟨⟨by dsimp only;omega,f⟩,c⟩)
  |succ d ih=>
   intro j x p r c F J H f;refine EvQ.succ ?_;simp only[qcn,z];refine EvQ.bif (fun l=>?_) (fun _=>EvQ.done ⟨⟨by dsimp only;omega,f⟩,c⟩);have l:j<(linksL b).length:=by have:=of_decide_eq_true l;omega
   refine EvQ.bindN (qdD (by omega)) (EvQ.bind (qaJ _ k c) ?_);rintro⟨i,M,N⟩ ⟨⟨⟨t0,C⟩,_⟩,c⟩;dsimp only at t0 C c⊢;have t2:=C (by omega);have e1:W64 ((j:Int)+W64 (1+i))=((j+(1+i.toNat):Nat):Int):=by rw[wO (1+i),qT (by omega) (by omega)];omega
   rw[e1];exact ih _ _ _ _ c (by omega) (by rw[jg,ji];omega) (by omega) (qcg f (qoi (by omega) (by omega)))
 refine EvQ.bind (m (linksL b).length j [] i7 i8 c (by omega) (Jh _) (by omega) (fun _ h=>by cases h)) ?_;rintro⟨x1,i9,K,L⟩ ⟨⟨l1,t⟩,c⟩;dsimp only at l1 t c⊢;refine EvQ.bind (qaJ 12 k c) ?_;rintro⟨O,P,Q⟩ ⟨_,c⟩;dsimp only at c⊢;refine EvQ.bif (fun _=>EvQ.bind (qaJ 2 k c) ?_) (fun _=>EvQ.done ⟨⟨by dsimp only;omega,t⟩,c⟩);rintro⟨S,T,W⟩ ⟨_,c⟩;exact EvQ.bindN (qdD (by omega)) (EvQ.done ⟨⟨by show(_++_:List Int).length<=_;rw[jg,ji];omega,qcg t (qbh _)⟩,c⟩)
end

def winO(t:qF)(m:Nat):qk×Bool:=
 bif gt t.Au m then bif gt t.Au (m+1) then(hullS (gt t.Am m) (gt t.Am (m+1)),true) else(gt t.Am m,true) else bif gt t.Au (m+1) then(gt t.Am (m+1),true) else(zSp,false)
section
variable{b:qe}{t:qF}{net:Int}
theorem qsl{m:Nat}(b:m+1<t.Au.length)(c:m+1<t.Am.length):Ev (fun n=>qjT n t [(m:Int),((m+1:Nat):Int)]) (winO t m):=by
 have d:decide ((0:Int)<(([(m:Int),((m+1:Nat):Int)]:List Int).length:Int))=true:=rfl;have d2:decide ((1:Int)<(([(m:Int),((m+1:Nat):Int)]:List Int).length:Int))=true:=rfl;have a:decide ((2:Int)<(([(m:Int),((m+1:Nat):Int)]:List Int).length:Int))=false:=rfl;have g:idx [(m:Int),((m+1:Nat):Int)] 0=V (m:Int):=rfl;have h:idx [(m:Int),((m+1:Nat):Int)] 1=V ((m+1:Nat):Int):=rfl;have w1:W64 (0+1)=1:=rfl;have f:W64 (1+1)=2:=rfl;unfold qjT winO;cases r1:gt t.Au m<;>cases r2:gt t.Au (m+1)<;>refine⟨3,fun n i=>?_⟩<;>obtain⟨n,rfl⟩:∃k,n=k+3:=⟨n-3,by omega⟩ <;>
  simp only[qgQ,d,d2,a,g,h,w1,f,cond_true,cond_false,jd,qD (show m<t.Au.length by omega),qD b,qD (show m<t.Am.length by omega),qD c,r1,r2,qds,qgM,jV,Bool.not_false]<;>rfl
end
section
variable{b:qe}{t:qF}
end
section
variable{b:qe}{used:List Int}
end

def lchQ(b:qe)(i:Nat):Bool:=(cellAt b (i:Int)).Ar==3
def lchL(b:qe)(j:Nat):List Nat:=selN (lchQ b) j
def cmbN(c:qA):Nat:=(ixL (fun a:qak=>a.Ar==1) c.Ap).toNat
theorem qvx{α:Type}[Inhabited α]{p:α->Bool}:∀{xs:List α},xs.any p=true->∃k:Nat,ixL p xs=(k:Int)/\k<xs.length/\p (gt xs k)=true/\∀j,j<k->p (gt xs j)=false:=by
 intro xs h;unfold ixL;cases hf:xs.findIdx? p with
 |none=>
  rw[List.findIdx?_eq_none_iff] at hf;obtain⟨x,f,a⟩:=List.any_eq_true.1 h;rw[hf x f] at a;cases a
 |some k=>
  rw[List.findIdx?_eq_some_iff_getElem] at hf;obtain⟨b,a,d⟩:=hf;refine⟨k,rfl,b,by rw[qdA b];exact a,fun j c=>?_⟩;rw[qdA (by omega)];simpa using d j c
theorem qoz{c:qA}(h:cellB c=true)(m:(c.Ar==3)=true):ixL (fun a:qak=>a.Ar==1) c.Ap=(cmbN c:Int)/\cmbN c<c.Ap.length/\(gt c.Ap (cmbN c)).Ar=1/\∀j,j<cmbN c->((gt c.Ap j).Ar==1)=false:=by
 have l:hasB c.Ap 1=true:=by
  have g:c.Ar=3:=by simpa using m
  unfold cellB at h;simp only[jf] at h;obtain⟨_,_,_,_,_,h⟩:=h;unfold kindB at h;rw[g] at h;have b:((3:Int)==1)=false:=rfl;have d:((3:Int)==2)=false:=rfl;have f:((3:Int)==3)=true:=rfl;rw[b,d,f] at h;simp only[cond_true,cond_false,jf] at h;exact h.2.2.1
 obtain⟨k,b,d,f,i⟩:=qvx (p:=fun a:qak=>a.Ar==1) l;have e:cmbN c=k:=by unfold cmbN;rw[b];rfl
 rw[e];exact⟨b,d,by simpa using f,i⟩
def siteL(b:qe)(i:Nat):TlatchSite:=⟨(i:Int),(off b.Aa i:Int),(cmbN (cellAt b (i:Int)):Int)⟩
def pinN(b:qe)(i:Nat):Nat:=(gt (cellAt b (i:Int)).Ap (cmbN (cellAt b (i:Int)))).Bb.toNat
theorem qkB{b:qe}(h:blockB b=true){i:Nat}(hi:i<b.Aa.Ab.length) :
  ∃c:cellB (cellAt b (i:Int))=true,(0<=(gt b.Aa.Ab i).Bn/\(gt b.Aa.Ab i).Bn<b.Ah.Aj.length)/\gt b.Ah.Aj (gt b.Aa.Ab i).Bn.toNat=cellAt b (i:Int)/\(gt b.Aa.Ab i).Ai.length=(cellAt b (i:Int)).As.length /\
   (cellAt b (i:Int)).Ap.length<=8/\(gt b.Aa.Ab i).Ai.length<=5:=by
 obtain⟨c,d,a⟩:=qgo (qao h) hi;have f:=(qfo (qgO a)).1;exact⟨a,c,rfl,d,qie a,by omega⟩
theorem qsj{xs:List qak}(d:xs.length<=1048576):Ev (fun n=>qaD n xs) (ixL (fun a:qak=>a.Ar==1) xs):=
 qfK (fin:=(xs.length:Int)) (Lf:=qU xs) (xs:=xs) (pf:=fun n x=>qfB n x) (fun x _=>.done)
  (fun n=>by simp only[qU,qn (je _),cond_false])
  (fun n j x b=>by
   have c:=(List.getElem?_eq_some_iff.1 b).1;simp only[qU,ql c,cond_true,qfL b,jd,wS j])
  (fun n=>by unfold qaD;congr 1;funext o;cases o<;>rfl)
theorem qpA{b:qe}(h:blockB b=true){i:Nat}(hi:i<=b.Aa.Ab.length):off b.Aa i<=78:=by
 have:=qaY (qY (qao h));rw[qfR] at this;have:=qpR (d:=b.Aa) hi;omega
theorem qmr{b:qe}(h:blockB b=true):b.Aa.Ab.length<=14:=by
 have:=qY (qao h);exact this.1
theorem ql9{b:qe}(h:blockB b=true):Ev (fun n=>qeO n b) ((lchL b b.Aa.Ab.length).map (siteL b)):=by
 have g:=qmr h;unfold qeO;have f:=loopF (Lf:=fun n (s:List TlatchSite×Int) i=>qbg b n s.1 s.2 i) (S:=fun j=>((lchL b j).map (siteL b),(off b.Aa j:Int))) (len:=b.Aa.Ab.length) (fin:=((lchL b b.Aa.Ab.length).map (siteL b),(off b.Aa b.Aa.Ab.length:Int),(b.Aa.Ab.length:Int)))
  (fun n=>by simp only[qbg,qn (je _),cond_false])
  (fun j c X a=>by
   obtain⟨p,⟨l,c1⟩,m,v,u,r⟩:=qkB h c;have x:=qpA h (show j<=b.Aa.Ab.length by omega);have o:W64 ((off b.Aa j:Int)+((gt b.Aa.Ab j).Ai.length:Int))=(off b.Aa (j+1):Int):=by
    rw[qix,qT (by omega) (by omega)];omega
   have k:(lchL b j).length<=j:=qje;simp only[qbg,ql c,cond_true,qD c,jd,qdV l c1,m,wS j,qaO,o];cases hk:(cellAt b (j:Int)).Ar==3
   ·have e:lchL b (j+1)=lchL b j:=by unfold lchL;rw[qhI];unfold lchQ;rw[hk];simp
    rw[e] at a;exact a
   ·have e:lchL b (j+1)=lchL b j++[j]:=by unfold lchL;rw[qhI];unfold lchQ;rw[hk];rfl
    rw[e,jJ] at a;obtain⟨t,_⟩:=qoz p hk;have d:=qsj (xs:=(cellAt b (j:Int)).Ap) (by omega);rw[t] at d;exact Ev.bind d (Ev.bindN (qbP (by rw[jp];simp only[jA,jU];omega)) a))
 have e0:off b.Aa 0=0:=rfl;simp only[e0] at f;exact Ev.bind f .done
theorem qui{c:qA}(h:cellB c=true)(p:(c.Ar==3)=true):Ev (fun n=>qb1 c n (-1) 0) ((gt c.Ap (cmbN c)).Bb,(c.Ap.length:Int)):=by
 obtain⟨_,f,k,l⟩:=qoz h p;have r:=qie h;have t:=(qhE h f).2.1.1;have o:=loopF (Lf:=fun n (s:Int) i=>qb1 c n s i) (S:=fun j=>if cmbN c<j then(gt c.Ap (cmbN c)).Bb else -1) (len:=c.Ap.length) (fin:=((gt c.Ap (cmbN c)).Bb,(c.Ap.length:Int)))
  (fun n=>by simp only[qb1,qn (je _),cond_false,if_pos f])
  (fun j g X a=>by
   simp only[qb1,ql g,cond_true,qD g,jd,wS j];by_cases d:cmbN c<j
   ·rw[if_pos (show cmbN c<j+1 by omega)] at a;rw[if_pos d];have e:decide ((gt c.Ap (cmbN c)).Bb<0)=false:=by simp;omega
    rw[e];exact a
   ·rw[if_neg d];have e:decide ((-1:Int)<0)=true:=rfl;rw[e];by_cases m:j=cmbN c
    ·subst m;rw[if_pos (show cmbN c<cmbN c+1 by omega)] at a;have b:((gt c.Ap (cmbN c)).Ar==1)=true:=by simp[k]
     simp only[cond_true,b,jd];exact a
    ·rw[if_neg (show ¬ cmbN c<j+1 by omega)] at a;have b:=l j (by omega);simp only[cond_true,cond_false,b,jd];exact a)
 simpa using o
theorem qqt{b:qe}(h:blockB b=true):Ev (fun n=>qhn n b) (ints (lchL b b.Aa.Ab.length),(lchL b b.Aa.Ab.length).map fun i=>(pinN b i:Int)):=by
 have g:=qmr h;unfold qhn;have r:=loopF (Lf:=fun n (s:List Int×List Int) i=>qcE b n s.1 s.2 i) (S:=fun j=>((lchL b j).map (fun i=>(pinN b i:Int)),ints (lchL b j))) (len:=b.Aa.Ab.length) (fin:=((lchL b b.Aa.Ab.length).map (fun i=>(pinN b i:Int)),ints (lchL b b.Aa.Ab.length),(b.Aa.Ab.length:Int)))
  (fun n=>by simp only[qcE,qn (je _),cond_false])
  (fun j f X a=>by
   obtain⟨d,⟨l,c1⟩,m,x,u,t⟩:=qkB h f;have k:(lchL b j).length<=j:=qje;simp only[qcE,ql f,cond_true,qD f,jd,qdV l c1,m,wS j];cases hk:(cellAt b (j:Int)).Ar==3
   ·have e:lchL b (j+1)=lchL b j:=by unfold lchL;rw[qhI];unfold lchQ;rw[hk];simp
    rw[e] at a;have c:((cellAt b (j:Int)).Ar != 3)=true:=by unfold bne;rw[hk];rfl
    rw[c];exact a
   ·have e:lchL b (j+1)=lchL b j++[j]:=by unfold lchL;rw[qhI];unfold lchQ;rw[hk];rfl
    rw[e,jJ,qil] at a;have c:((cellAt b (j:Int)).Ar != 3)=false:=by unfold bne;rw[hk];rfl
    rw[c];obtain⟨_,p,_⟩:=qoz d hk;have v:=(qhE d p).2.1.1;have o:(gt (cellAt b (j:Int)).Ap (cmbN (cellAt b (j:Int)))).Bb=(pinN b j:Int):=by unfold pinN;omega
    refine Ev.ff Z (Ev.bind (qui d hk) ?_);rw[o];refine Ev.bindN (qbP (by rw[qcQ];simp only[jA,jU];omega)) (Ev.bindN (qbP (by rw[jp];simp only[jA,jU];omega)) a))
 exact Ev.bind r .done

def insO(b:qe)(k:Nat):Int:=(gt (places b.Aa) (W64 ((gt (linksL b) k).To.tdiv 2)).toNat).instance_
def ltQ(b:qe)(k:Nat):Bool:=((gt (linksL b) k).Ar==1)&&((cellAt b (insO b k)).Ar==3)
def lvM(b:qe)(lv:List Bool):List Bool:=pre (fun k=>gt lv k&&!ltQ b k) (lkB b)
theorem qmT{b:qe}(h:blockB b=true){k:Nat}(d:k<lkB b) :
  (∃i j,(gt (linksL b) k).Ar=1/\i<b.Aa.Ab.length/\j<(places b.Aa).length/\(gt (places b.Aa) j).instance_=(i:Int)/\W64 ((gt (linksL b) k).To.tdiv 2)=(j:Int)/\insO b k=(i:Int))\/(gt (linksL b) k).Ar=2:=by
 obtain⟨c,_⟩:=qf3 h (qiQ (show k<(linksL b).length from d));rcases c with⟨i,j,m,net,a,c⟩|⟨j,net,q,c⟩
 ·refine .inl ⟨i,j,c.kind,c.il,c.jl,c.inst,c.half,?_⟩;unfold insO;rw[c.half];exact c.inst
 ·exact .inr c.kind
theorem qu8{b:qe}{j:Nat}(a:j<(places b.Aa).length):idx ((places b.Aa).map toSp) (j:Int)=V (toSp (gt (places b.Aa) j)):=by
 refine qfL ?_;rw[Jd,jk a,qdA a];rfl
theorem qgS{b:qe}(h:blockB b=true):lkB b<=10000:=qkp h
theorem qnu{b:qe}(h:blockB b=true){i:Nat}(hi:i<b.Aa.Ab.length)(n:Nat):qc2 n b (i:Int)=V (cellAt b (i:Int)):=by
 obtain⟨_,⟨a,c1⟩,c,_⟩:=qkB h hi;unfold qc2;rw[qD hi,jd,qdV a c1,c];rfl
theorem qpS{b:qe}{ex:List Int}(h:blockB b=true){k:Nat}(a:k<lkB b)(n:Nat):qeb n (V (viewE b ex)) (gt (linksL b) k)=V (ltQ b k):=by
 unfold qeb ltQ;rcases qmT h a with⟨i,j,e1,hi,hj,e2,e3,e4⟩|e1
 ·have e:((gt (linksL b) k).Ar==1)=true:=by simp[e1]
  rw[e,e4];show(idx (places b.Aa) (W64 ((gt (linksL b) k).To.tdiv 2))).bind _=_;rw[e3,qD hj,jd,e2];show(qc2 n b (i:Int)).bind _=_;rw[qnu h hi];rfl
 ·have e:((gt (linksL b) k).Ar==1)=false:=by simp[e1]
  rw[e];rfl
def lvS(b:qe)(lv:List Bool)(j k:Nat):Bool:=gt lv k&&!(decide (k<j)&&ltQ b k)
theorem qq6{b:qe}{lv:List Bool}{j M:Nat}{v:Bool}(a:v=(gt lv j&&!ltQ b j)):setS (pre (lvS b lv j) M) (j:Int) v=pre (lvS b lv (j+1)) M:=by
 rw[qlP];refine qe1 fun k c=>?_;unfold lvS;by_cases h:k=j
 ·subst h;rw[if_pos Z,a];simp
 ·rw[if_neg h];have:decide (k<j+1)=decide (k<j):=by rw[jj];simp;omega
  rw[this]
theorem qtb{b:qe}{lv:List Bool}{j M:Nat}(a:j<M):gt (pre (lvS b lv j) M) j=gt lv j:=by
 rw[qrq a];unfold lvS;simp
theorem qtt{b:qe}{lv:List Bool}{j M:Nat}(h:ltQ b j=false):pre (lvS b lv (j+1)) M=pre (lvS b lv j) M:=by
 refine qe1 fun k a=>?_;unfold lvS;by_cases e:k=j
 ·subst e;rw[h];simp
 ·have:decide (k<j+1)=decide (k<j):=by rw[jj];simp;omega
  rw[this]
theorem qrR{b:qe}{lv:List Bool}:pre (lvS b lv (lkB b)) (lkB b)=lvM b lv:=qe1 fun k a=>by unfold lvS;simp[a]
theorem qpi{b:qe}{lv:List Bool}(c:lv.length=lkB b):pre (lvS b lv 0) (lkB b)=lv:=by
 refine Jb (by rw[qhm,c]) fun k d a=>?_;rw[<-qdA d,<-qdA a,qrq (by rw[<-c];exact a)];unfold lvS;simp
theorem qq3{b:qe}{lv:List Bool}(h:blockB b=true)(f:lv.length=lkB b):Ev (fun n=>qbm b (pre (exactL b) b.Ac.length) (pre (load0 b) b.Ac.length) (linksL b) (places b.Aa) n lv 0) (lvM b lv,(lkB b:Int)):=by
 have k:=qgS h;have d:=loopF (Lf:=fun n s i=>qbm b (pre (exactL b) b.Ac.length) (pre (load0 b) b.Ac.length) (linksL b) (places b.Aa) n s i) (S:=fun j=>pre (lvS b lv j) (lkB b)) (len:=lkB b) (fin:=(lvM b lv,(lkB b:Int)))
  (fun n=>by simp only[qbm,qn (je _),cond_false,qrR])
  (fun j c X a=>by
   have e1:idx (pre (lvS b lv j) (lkB b)) (j:Int)=V (gt lv j):=by rw[qD (by rw[qhm];exact c),qtb c]
   simp only[qbm,ql c,cond_true,qD c,jd,e1,wS j];rw[<-qq6 (v:=gt lv j&&!ltQ b j) Z] at a;have g:Ev (fun n=>qeb n (V (viewE b [])) (gt (linksL b) j)) (ltQ b j):=⟨0,fun n _=>qpS (ex:=[]) h c n⟩;cases hv:gt lv j
   ·rw[hv] at a;exact a
   ·rw[hv] at a;exact Ev.tt Z (Ev.bind g a))
 rw[qpi f] at d;exact d
theorem qtM{b:qe}{br:List Int}(h:blockB b=true)(f:br.length<=1048576):Ev (fun n=>qi7 n b (linksL b) br) (lvM b (lvJ b br)):=by
 have r:=qgS h;have p:=qY (qao h);unfold qi7;refine Ev.bind (qrf r f) (Ev.bind (qf1 p) ?_);have k:=loopF (Lf:=fun n s i=>qdi b (linksL b) ((places b.Aa).map toSp) n s i) (S:=fun j=>pre (lvS b (lvJ b br) j) (lkB b)) (len:=lkB b) (fin:=(lvM b (lvJ b br),(lkB b:Int)))
  (fun n=>by simp only[qdi,qn (je _),cond_false,qrR])
  (fun j d X c=>by
   have e1:idx (pre (lvS b (lvJ b br) j) (lkB b)) (j:Int)=V (gt (lvJ b br) j):=by rw[qD (by rw[qhm];exact d),qtb d]
   simp only[qdi,ql d,cond_true,qD d,jd,e1,wS j];rcases qmT h d with⟨i,q,k1,hi,hq,k2,k3,k4⟩|k1
   ·have e:((gt (linksL b) j).Ar != 1)=false:=by simp[k1]
    obtain⟨_,⟨l,c1⟩,o,_⟩:=qkB h hi;have g:(toSp (gt (places b.Aa) q)).instance_=(i:Int):=k2;have a:ltQ b j=((cellAt b (i:Int)).Ar==3):=by unfold ltQ;rw[k4];simp[k1]
    rw[<-qq6 (v:=gt (lvJ b br) j&&!ltQ b j) Z] at c;simp only[e,cond_false,k3,qu8 hq,jd,g,qD hi,qdV l c1,o];cases hv:gt (lvJ b br) j
    ·rw[hv] at c;exact c
    ·rw[hv,a] at c;have m:((cellAt b (i:Int)).Ar != 3) = !((cellAt b (i:Int)).Ar==3):=rfl;simp only[cond_true,jd,m];exact c
   ·have e:((gt (linksL b) j).Ar != 1)=true:=by simp[k1]
    have a:ltQ b j=false:=by unfold ltQ;simp[k1]
    rw[qtt a] at c;rw[e];exact c)
 rw[qpi qp2] at k;exact Ev.bind k .done
def maxB(x y:Int):Int:=if y > x then y else x
def thrN(q:Nat->Bool)(d:Nat->Int):Nat->Int
 |0=>0
 |j+1=>bif q j then maxB (thrN q d j) (d j) else thrN q d j
def thrQ(b:qe)(i:Nat)(k:Nat):Bool:=((gt (linksL b) k).Ar==1)&&((insO b k==(i:Int))&&((gt (linksL b) k).Bv==(cmbN (cellAt b (i:Int)):Int)))
def DelS(b:qe)(c:qC)(d:Nat->Int):Prop:=∀k,k<lkB b->Ev (fun n=>qbf n b c (gt (linksL b) k) 0 1) (d k)/\∀ex,Ev (fun n=>qbp n (V (viewE b ex)) c (k:Int) 0 1) (d k)
theorem qtH{b:qe}{c:qC}(h:blockB b=true)(l:cornerB c=true):∃d,DelS b c d:=by
 have:∀k,∃D:Int,k<lkB b->Ev (fun n=>qbf n b c (gt (linksL b) k) 0 1) D/\∀ex,Ev (fun n=>qbp n (V (viewE b ex)) c (k:Int) 0 1) D:=fun k=>by
  by_cases f:k<lkB b
  ·obtain⟨⟨D,g,i⟩,_⟩:=qmQ (sl:=0) (mode:=1) h l f (jT _) (by omega) (.inr Z);exact⟨D,fun _=>⟨g,i⟩⟩
  ·exact⟨0,fun a=>absurd a f⟩
 obtain⟨d,m⟩:=Classical.axiomOfChoice this;exact⟨d,m⟩
section
variable{b:qe}{c:qC}{d:Nat->Int}{i:Nat}
theorem qsr{a:qA}(h:cellB a=true)(k:(a.Ar==3)=true):Ev (fun n=>qcG a n 0) (cmbN a:Int):=by
 obtain⟨_,b,c,d⟩:=qoz h k;have l:=qie h;have:=loopF (Lf:=fun n (_:Unit) i=>qcG a n i) (S:=fun _=>()) (len:=cmbN a) (fin:=(cmbN a:Int))
  (fun n=>by
   have e:((gt a.Ap (cmbN a)).Ar != 1)=false:=by simp[c]
   simp only[qcG,qD b,jd,e,cond_false])
  (fun j g X f=>by
   have e:((gt a.Ap j).Ar != 1)=true:=by have:=d j g;simpa using this
   simp only[qcG,qD (show j<a.Ap.length by omega),jd,e,cond_true,wS j];exact f)
 exact this
theorem qqF(h:blockB b=true)(v:DelS b c d)(hi:i<b.Aa.Ab.length)(x:lchQ b i=true):Ev (fun n=>qhq n b c (linksL b) (i:Int)) (thrN (thrQ b i) d (lkB b)):=by
 have y:=qgS h;have p:=qY (qao h);obtain⟨l,⟨r,c1⟩,t,_⟩:=qkB h hi;unfold qhq;refine Ev.bind (qf1 p) ?_;rw[qD hi];refine Ev.bindN Z ?_;rw[qdV r c1,t];refine Ev.bindN Z (Ev.bind (qsr l x) ?_);have u:=loopF (Lf:=fun n s k=>qcF b c (linksL b) (i:Int) ((places b.Aa).map toSp) (cmbN (cellAt b (i:Int)):Int) n s k) (S:=fun j=>thrN (thrQ b i) d j) (len:=lkB b) (fin:=(thrN (thrQ b i) d (lkB b),(lkB b:Int)))
  (fun n=>by simp only[qcF,qn (je _),cond_false])
  (fun j g X a=>by
   simp only[qcF,ql g,cond_true,qD g,jd,wS j];rcases qmT h g with⟨m,q,k1,hm,hq,k2,k3,k4⟩|k1
   ·have e:((gt (linksL b) j).Ar==1)=true:=by simp[k1]
    have o:(toSp (gt (places b.Aa) q)).instance_=(m:Int):=k2;simp only[e,cond_true,k3,qu8 hq,jd,o];cases e1:((m:Int)==(i:Int))
    ·have f:thrQ b i j=false:=by unfold thrQ;rw[k4,e1];simp
     have:thrN (thrQ b i) d (j+1)=thrN (thrQ b i) d j:=by rw[thrN,f];rfl
     rw[this] at a;exact a
    ·cases e2:((gt (linksL b) j).Bv==(cmbN (cellAt b (i:Int)):Int))
     ·have f:thrQ b i j=false:=by unfold thrQ;rw[e2];simp
      have:thrN (thrQ b i) d (j+1)=thrN (thrQ b i) d j:=by rw[thrN,f];rfl
      rw[this] at a;exact a
     ·have f:thrQ b i j=true:=by unfold thrQ;rw[k4,e1,e2,e];rfl
      have:thrN (thrQ b i) d (j+1)=maxB (thrN (thrQ b i) d j) (d j):=by rw[thrN,f];rfl
      rw[this] at a;exact Ev.bindN (b:=true) Z (Ev.bind (v j g).1 a)
   ·have e:((gt (linksL b) j).Ar==1)=false:=by simp[k1]
    have f:thrQ b i j=false:=by unfold thrQ;rw[e];rfl
    have:thrN (thrQ b i) d (j+1)=thrN (thrQ b i) d j:=by rw[thrN,f];rfl
    rw[this] at a;rw[e];exact a)
 exact Ev.bind u .done
theorem qrg{ex:List Int}(h:blockB b=true)(p:DelS b c d)(hi:i<b.Aa.Ab.length):Ev (fun n=>qgy n (V (viewE b ex)) c (siteL b i)) (thrN (thrQ b i) d (lkB b)):=by
 have r:=qgS h;unfold qgy;refine Ev.bindN Z ?_;have o:=loopF (Lf:=fun n s k=>qb2 (V (viewE b ex)) c (siteL b i) (viewE b ex) n s k) (S:=fun j=>thrN (thrQ b i) d j) (len:=lkB b) (fin:=(thrN (thrQ b i) d (lkB b),(lkB b:Int)))
  (fun n=>by
   have e:decide ((lkB b:Int)<((viewE b ex).links.length:Int))=false:=qn (je _);simp only[qb2,e,cond_false])
  (fun j g X a=>by
   have e0:decide ((j:Int)<((viewE b ex).links.length:Int))=true:=ql g;have e1:idx (viewE b ex).links (j:Int)=V (gt (linksL b) j):=qD g;simp only[qb2,e0,e1,cond_true,jd,wS j];rcases qmT h g with⟨m,q,k1,hm,hq,k2,k3,k4⟩|k1
   ·have e:((gt (linksL b) j).Ar==1)=true:=by simp[k1]
    have l:idx (viewE b ex).places (q:Int)=V (gt (places b.Aa) q):=qD hq;simp only[e,cond_true,k3,l,jd,k2,siteL];cases e2:((gt (linksL b) j).Bv==(cmbN (cellAt b (i:Int)):Int))
    ·have f:thrQ b i j=false:=by unfold thrQ;rw[e2];simp
     have:thrN (thrQ b i) d (j+1)=thrN (thrQ b i) d j:=by rw[thrN,f];rfl
     rw[this] at a;exact a
    ·cases e3:((m:Int)==(i:Int))
     ·have f:thrQ b i j=false:=by unfold thrQ;rw[k4,e3];simp
      have:thrN (thrQ b i) d (j+1)=thrN (thrQ b i) d j:=by rw[thrN,f];rfl
      rw[this] at a;exact a
     ·have f:thrQ b i j=true:=by unfold thrQ;rw[k4,e3,e2,e];rfl
      have:thrN (thrQ b i) d (j+1)=maxB (thrN (thrQ b i) d j) (d j):=by rw[thrN,f];rfl
      rw[this] at a;exact Ev.bindN (b:=true) Z (Ev.bind ((p j g).2 ex) a)
   ·have e:((gt (linksL b) j).Ar==1)=false:=by simp[k1]
    have f:thrQ b i j=false:=by unfold thrQ;rw[e];rfl
    have:thrN (thrQ b i) d (j+1)=thrN (thrQ b i) d j:=by rw[thrN,f];rfl
    rw[this] at a;rw[e];exact a)
 exact Ev.bind o .done
end
def lnkV(t:qF)(m:Nat):Int:=bif (winO t m).2 then maxB (winO t m).1.Av 0 else -1
theorem qth{b:qe}(h:blockB b=true){i:Nat}(hi:i<b.Aa.Ab.length)(f:lchQ b i=true):cmbN (cellAt b (i:Int))<(cellAt b (i:Int)).Ap.length/\(gt (cellAt b (i:Int)).Ap (cmbN (cellAt b (i:Int)))).Bb=(pinN b i:Int)/\pinN b i<(gt b.Aa.Ab i).Ai.length/\off b.Aa i+pinN b i<(places b.Aa).length:=by
 obtain⟨c,_,_,l,_⟩:=qkB h hi;obtain⟨_,a,_⟩:=qoz c f;obtain⟨_,⟨g,k⟩,_⟩:=qhE c a;have e:(gt (cellAt b (i:Int)).Ap (cmbN (cellAt b (i:Int)))).Bb=(pinN b i:Int):=by unfold pinN;omega
 have d:pinN b i<(gt b.Aa.Ab i).Ai.length:=by omega
 exact⟨a,e,d,(qhF hi d).1⟩
theorem qtR{b:qe}{t:qF}(h:blockB b=true)(u:t.Au.length=ndB b)(v:t.Am.length=ndB b){i:Nat}(hi:i<b.Aa.Ab.length)(o:lchQ b i=true) :
  Ev (fun n=>qiZ n b t (i:Int) (pinN b i:Int)) (lnkV t (2*(off b.Aa i+pinN b i))):=by
 obtain⟨_,_,p,a⟩:=qth h hi o;have c:=qaY (qY (qao h));have s:ndB b=2*(places b.Aa).length:=rfl;unfold qiZ;refine Ev.bind (qkz h hi p) ?_;generalize off b.Aa i+pinN b i=m at a;have e1:W64 (2*(m:Int))=((2*m:Nat):Int):=by rw[qT (by omega) (by omega)];omega
 have g:W64 (((2*m:Nat):Int)+0)=((2*m:Nat):Int):=by rw[qT (by omega) (by omega)];omega
 have l:W64 (((2*m:Nat):Int)+1)=((2*m+1:Nat):Int):=by rw[qT (by omega) (by omega)];omega
 have d:decide ((0:Int)<2)=true:=rfl;have f:decide ((1:Int)<2)=true:=rfl;have d2:decide ((2:Int)<2)=false:=rfl;have w1:W64 (0+1)=1:=rfl;have r:W64 (1+1)=2:=rfl;unfold lnkV winO;cases r1:gt t.Au (2*m)<;>cases r2:gt t.Au (2*m+1)<;>refine⟨3,fun n x=>?_⟩<;>obtain⟨n,rfl⟩:∃k,n=k+3:=⟨n-3,by omega⟩ <;>
  simp only[qgi,d,f,d2,e1,g,l,w1,r,cond_true,cond_false,jd,qD (show 2*m<t.Au.length by omega),qD (show 2*m+1<t.Au.length by omega),qD (show 2*m<t.Am.length by omega),qD (show 2*m+1<t.Am.length by omega),r1,r2,Option.some.injEq,maxB,hullS]
 all_goals (repeat' split)
 all_goals omega

instance:Inhabited TlatchSite:=⟨⟨0,0,0⟩⟩
section
variable{b:qe}{c:qC}{d:Nat->Int}{F:Nat->qk->qk×qk}{R:List Nat}{LV:List Bool}{period a_open close:Int}{t:qF}
def glN(b:qe)(k:Nat):Nat:=gt (lchL b b.Aa.Ab.length) k
def lcN(b:qe):Nat:=(lchL b b.Aa.Ab.length).length
theorem qpJ{k:Nat}(a:k<lcN b):glN b k<b.Aa.Ab.length/\lchQ b (glN b k)=true:=by
 have:glN b k∈lchL b b.Aa.Ab.length:=by unfold glN;rw[qdA a];exact jo a
 exact qls.1 this
theorem qmP(h:blockB b=true):lcN b<=14:=by
 have:=qmr h;have:lcN b<=b.Aa.Ab.length:=qje;omega
theorem qq1{k:Nat}(a:k<lcN b):idx ((lchL b b.Aa.Ab.length).map (siteL b)) (k:Int)=V (siteL b (glN b k)):=by
 refine qfL ?_;rw[Jd,jk (show k<(lchL b b.Aa.Ab.length).length from a)];unfold glN;rw[qdA a];rfl
theorem qn8{k:Nat}(a:k<lcN b):idx (ints (lchL b b.Aa.Ab.length)) (k:Int)=V (glN b k:Int):=by
 rw[ql0 (show k<(lchL b b.Aa.Ab.length).length from a)];unfold glN;rw[qdA a];rfl
theorem qud{k:Nat}(a:k<lcN b):idx ((lchL b b.Aa.Ab.length).map fun i=>(pinN b i:Int)) (k:Int)=V (pinN b (glN b k):Int):=by
 refine qfL ?_;rw[Jd,jk (show k<(lchL b b.Aa.Ab.length).length from a)];unfold glN;rw[qdA a];rfl
def outN(b:qe)(i:Nat):Nat:=off b.Aa i+((gt b.Aa.Ab i).Ai.length-1)
def src2(o:Nat):List qx:=[⟨((2*o:Nat):Int),⟨0,0⟩,⟨0,0⟩⟩,⟨((2*o+1:Nat):Int),⟨0,0⟩,⟨0,0⟩⟩]
theorem qpM{o:Nat}:SrcOk (src2 o) where
 len:=by simp[src2]
 inc j i hij hj:=by
  have c:j<2:=by simpa [src2] using hj
  have b:j=1:=by omega
  have a:i=0:=by omega
  subst b a;show((2*o:Nat):Int)<((2*o+1:Nat):Int);omega
 sl x hx:=by
  have:x.Ay=⟨0,0⟩:=by
   rcases List.mem_cons.1 hx with rfl|hx
   ·rfl
   ·rcases List.mem_cons.1 hx with rfl|hx
    ·rfl
    ·cases hx
  rw[this];exact qrN
def ltT(b:qe)(F:Nat->qk->qk×qk)(LV:List Bool)(R:List Nat)(f:Nat):Option qF:=rnO F (linksL b) LV (src2 (outN b (glN b f))) R (zTm (ndB b))
def mN(b:qe)(k:Nat):Nat:=2*(off b.Aa (glN b k)+pinN b (glN b k))
def rcQ(b:qe)(t:qF)(k:Nat):Bool:=(winO t (mN b k)).2
def vlN(b:qe)(d:Nat->Int)(f:Nat)(t:qF)(k:Nat):Int:=W64 (lnkV t (mN b k)+thrN (thrQ b (glN b f)) d (lkB b))
def bdQ(b:qe)(d:Nat->Int)(f:Nat)(t:qF)(k:Nat):Bool:=decide (vlN b d f t k > 100000)
def mkL(b:qe)(d:Nat->Int)(period:Int)(f:Nat)(t:qF)(k:Nat):qB:=⟨(f:Int),(k:Int),vlN b d f t k,period⟩
def rowI(b:qe)(d:Nat->Int)(period:Int)(f:Nat)(t:qF):Option (List qB):=innI (rcQ b t) (bdQ b d f t) (mkL b d period f t) (lcN b) 0 []
def rowO(b:qe)(d:Nat->Int)(F:Nat->qk->qk×qk)(LV:List Bool)(R:List Nat)(period:Int)(f:Nat):Option (List qB):=(ltT b F LV R f).bind fun t=>rowI b d period f t
def rowCap(b:qe)(d:Nat->Int)(F:Nat->qk->qk×qk)(LV:List Bool)(R:List Nat)(period:Int)(f:Nat)(a:List qB):Option (List qB):=(ltT b F LV R f).bind fun t=>innS 60 (rcQ b t) (bdQ b d f t) (mkL b d period f t) (lcN b) 0 a
theorem qsY{f:Nat}{a:List qB}(c:a.length<=60):rowCap b d F LV R period f a=capL 60 ((rowO b d F LV R period f).map (a++·)):=by
 unfold rowCap rowO;cases ltT b F LV R f with
 |none=>rfl
 |some t=>exact qux (lcN b) 0 a c
theorem qtp{ε:Type}{c b:Nat->Bool}{mk:Nat->ε}:∀m j a l,innI c b mk m j a=V l->l.length<=a.length+m:=by
 intro m
 induction m with
 |zero=>intro j a l h;obtain rfl:=Option.some.inj h;omega
 |succ m ih=>
  intro j a l h;unfold innI at h;cases h1:c j
  ·rw[h1] at h;have:=ih _ _ _ h;omega
  ·rw[h1] at h;cases h2:b j
   ·rw[h2] at h;have:=ih _ _ _ h;rw[jg] at this;simp only[jA,jU] at this;omega
   ·rw[h2] at h;cases h
theorem qtX{ε:Type}{cap:Nat}{o:Option (List ε)}{l:List ε}(h:capL cap o=V l):l.length<=cap:=by
 cases o with
 |none=>cases h
 |some x=>
  have:(if x.length<=cap then V x else U)=V l:=h;split at this
  ·rename_i hx;obtain rfl:=Option.some.inj this;exact hx
  ·cases this
structure LsOk(b:qe)(c:qC)(d:Nat->Int)(F:Nat->qk->qk×qk)(LV:List Bool)(R:List Nat):Prop where
 bl:blockB b=true
 dl:DelS b c d
 fs:SpansS b c F
 fi:SpansI b c [] F
 lv:LV.length=lkB b
 rb:∀k,k∈R->k<ndB b
 rn:∀j,∀hj:j<R.length,R[j]<ndB b/\R[j]∉R.take j
 rl:R.length<=1000
theorem qt1(h:blockB b=true){i:Nat}(hi:i<b.Aa.Ab.length):outN b i<(places b.Aa).length/\(cellAt b (i:Int)).As.length=(gt b.Aa.Ab i).Ai.length/\1<=(gt b.Aa.Ab i).Ai.length/\(gt b.Aa.Ab i).Ai.length<=5:=by
 obtain⟨c,_,_,f,_,a⟩:=qkB h hi;have g:=(qfo (qgO c)).1.1;have:=(qhF (d:=b.Aa) hi (show(gt b.Aa.Ab i).Ai.length-1<(gt b.Aa.Ab i).Ai.length by omega)).1;exact⟨this,f.symm,by omega,a⟩
theorem qu9(H:LsOk b c d F LV R){f:Nat}(e:ltT b F LV R f=V t):TmOk t (ndB b):=qvt H.bl H.fs qpM R (zTm (ndB b)) t H.rb qoJ e
theorem quT(H:LsOk b c d F LV R)(f:Nat):Ev (fun n=>qiy n b c (linksL b) LV (src2 (outN b (glN b f))) (ints R)) (runR (ltT b F LV R f)):=quX H.bl H.fs H.lv qpM H.rb H.rl
theorem qun(H:LsOk b c d F LV R)(f:Nat):Ev (fun n=>qdF n (V ⟨V (viewV b),LV⟩) c (src2 (outN b (glN b f))) (ints R)) (runR (ltT b F LV R f)):=quR H.bl H.fs (fun _ _=>rfl) H.fi H.lv qpM H.rn H.rl
theorem quP(H:LsOk b c d F LV R){f:Nat}(L:f<lcN b)(e:ltT b F LV R f=V t) :
  Ev (fun n=>qaV c ((lchL b b.Aa.Ab.length).map (siteL b)) (f:Int) period (siteL b (glN b f)) (⟨V (viewV b),LV⟩:Tgraph) (viewV b) t n ([]:List qB) 0) (flowO (([]:List qB),false) (fun l=>(l,(lcN b:Int))) (rowI b d period f t)):=by
 have h:=H.bl;have z:=qu9 H e;have N:=qmP h;have y:=qaY (qY (qao h));have T:ndB b=2*(places b.Aa).length:=rfl;have p:((lchL b b.Aa.Ab.length).map (siteL b)).length=lcN b:=by rw[jp];rfl
 obtain⟨u,M⟩:=qpJ L;refine quH (Lf:=fun n s i=>qaV c ((lchL b b.Aa.Ab.length).map (siteL b)) (f:Int) period (siteL b (glN b f)) (⟨V (viewV b),LV⟩:Tgraph) (viewV b) t n s i) (St:=fun _ a=>a) (len:=lcN b) (fun n a=>?_) (fun k a v Y X D I J=>?_) (lcN b) 0 [] (by omega) (by simp)
 ·simp only[qaV,p,qn (je _),cond_false]
 ·obtain⟨hi,P⟩:=qpJ v;obtain⟨r,B,hp,O⟩:=qth h hi P;have W:mN b k=2*(off b.Aa (glN b k)+pinN b (glN b k)):=rfl;have w1:W64 (2*W64 ((off b.Aa (glN b k):Int)+(pinN b (glN b k):Int)))=(mN b k:Int):=by
   rw[qT (x:=(off b.Aa (glN b k):Int)+(pinN b (glN b k):Int)) (by omega) (by omega),qT (by omega) (by omega)];omega
  have S:W64 ((mN b k:Int)+1)=((mN b k+1:Nat):Int):=by rw[qT (by omega) (by omega)];omega
  have K:=qsl (t:=t) (m:=mN b k) (by rw[z.r];omega) (by rw[z.a];omega);have o:=qnu h hi;simp only[qaV,p,ql v,cond_true,qq1 v,jd,wS k];refine Ev.bindN (o 0) ?_;refine Ev.bindN (qD r) ?_;simp only[siteL,B,w1,S];refine Ev.bind K ?_;have g:rcQ b t k=(winO t (mN b k)).2:=rfl;generalize hw:winO t (mN b k)=wv at g;obtain⟨A,Q⟩:=wv;simp only at g;cases hr:Q
  ·rw[hr] at g;exact Ev.tt Z (D g)
  ·rw[hr] at g;refine Ev.ff Z (Ev.bind (qrg h H.dl u) ?_);have C:W64 ((if (0:Int) > A.Av then 0 else A.Av)+thrN (thrQ b (glN b f)) d (lkB b))=vlN b d f t k:=by
    unfold vlN lnkV;rw[hw,hr];rfl
   simp only[C];cases hb:bdQ b d f t k
   ·refine Ev.ff hb (Ev.bindN (qbP (by simp only[jA,jU];omega)) ?_);exact J g hb
   ·rw[I g hb];exact Ev.tt hb .done
theorem qsu(H:LsOk b c d F LV R){f:Nat}(g:f<lcN b) :
  Ev (fun n=>qeM n (V ⟨V (viewV b),LV⟩) c (ints R) ((lchL b b.Aa.Ab.length).map (siteL b)) (f:Int) period) (match rowO b d F LV R period f with|none=>([],false)|some l=>(l,true)):=by
 have h:=H.bl;obtain⟨a,v⟩:=qpJ g;obtain⟨C,k,z,A⟩:=qt1 h a;have i:=qaY (qY (qao h));have m:=qpA h (show glN b f<=b.Aa.Ab.length by omega);unfold qeM;refine Ev.bindN (qq1 g) (Ev.bindN Z (Ev.bindN Z (Ev.bindN (qnu h a 0) ?_)));have u:∀n,qce n (cellAt b (glN b f:Int))=V (((gt b.Aa.Ab (glN b f)).Ai.length-1:Nat):Int):=fun n=>by
  unfold qce qb8;rw[jd,k,qT (by omega) (by omega)]
  congr 1
  omega
 have e1:W64 (2*W64 ((siteL b (glN b f)).first+(((gt b.Aa.Ab (glN b f)).Ai.length-1:Nat):Int)))=((2*outN b (glN b f):Nat):Int):=by
  have s:(siteL b (glN b f)).first=(off b.Aa (glN b f):Int):=rfl;have B:outN b (glN b f)=off b.Aa (glN b f)+((gt b.Aa.Ab (glN b f)).Ai.length-1):=rfl;rw[s,qT (x:=(off b.Aa (glN b f):Int)+(((gt b.Aa.Ab (glN b f)).Ai.length-1:Nat):Int)) (by omega) (by omega),qT (by omega) (by omega)];omega
 have p:W64 (((2*outN b (glN b f):Nat):Int)+1)=((2*outN b (glN b f)+1:Nat):Int):=by rw[qT (by omega) (by omega)];omega
 refine Ev.bindN (u 0) ?_;simp only[e1,p];refine Ev.bind (qun H f) ?_;unfold rowO;cases e:ltT b F LV R f with
 |none=>exact Ev.tt Z .done
 |some t=>
  refine Ev.ff Z (Ev.bind (quP (period:=period) H g e) ?_);have y:∀o:Option (List qB),Ev (fun _:Nat=>match flowO (([]:List qB),false) (fun l=>(l,(lcN b:Int))) o with|.ret r=>V r|.nxt (x1,_)=>V (x1,true)) (match o with|none=>([],false)|some l=>(l,true)):=fun o=>by cases o<;>exact .done
  exact y (rowI b d period f t)
def lts(a_open close:Int)(i:Nat):List qbs:=pre (fun _=>⟨a_open,close⟩) i
theorem qqh(H:LsOk b c d F LV R) :
  Ev (fun n=>qbW b c a_open close period (pre (exactL b) b.Ac.length) (pre (load0 b) b.Ac.length) (linksL b) (places b.Aa) ((lchL b b.Aa.Ab.length).map (siteL b)) LV (ints R) n ([]:List qB) ([]:List qbs) 0)
   (flowO ((⟨[],[]⟩:qg),(3:Int)) (fun l=>(l,lts a_open close (lcN b),(lcN b:Int))) (outI (rowO b d F LV R period) (lcN b) 0 [])):=by
 have h:=H.bl;have u:=qmP h;have g:((lchL b b.Aa.Ab.length).map (siteL b)).length=lcN b:=by rw[jp];rfl
 have o:∀i l,rowO b d F LV R period i=V l->l.length<=14:=fun i l e=>by
  unfold rowO at e;cases e2:ltT b F LV R i with
  |none=>rw[e2] at e;cases e
  |some t=>
   rw[e2] at e;have:=qtp (lcN b) 0 [] l e;simp only[jU] at this;omega
 refine qul (Lf:=fun n (s:List qB×List qbs) i=>qbW b c a_open close period (pre (exactL b) b.Ac.length) (pre (load0 b) b.Ac.length) (linksL b) (places b.Aa) ((lchL b b.Aa.Ab.length).map (siteL b)) LV (ints R) n s.1 s.2 i) (St:=fun i a=>(a,lts a_open close i)) (len:=lcN b) (c:=14) o (fun n a=>?_) (fun i a hi v X p r=>?_) (lcN b) 0 [] (by omega) (by simp)
 ·simp only[qbW,g,qn (je _),cond_false]
 ·have m:=qsu (period:=period) H hi;simp only[qbW,g,ql hi,cond_true,wS i];refine Ev.bind m ?_;cases e:rowO b d F LV R period i with
  |none=>rw[p e];exact Ev.tt Z .done
  |some l=>
   have:=o i l e;have k:a.length+l.length<=2147483648:=by omega
   exact Ev.ff Z (Ev.bindN (qmS (f:=fun _=>(⟨a_open,close⟩:qbs)) (by omega)) (Ev.bindN (qbP k) (r l e)))
theorem maxB0{z:Int}:decide (maxB z 0<0)=false:=by
 unfold maxB;by_cases a:(0:Int) > z
 ·rw[if_pos a];rfl
 ·rw[if_neg a];simpa using a
theorem qt8{m:Nat}:decide (lnkV t m<0) = !(winO t m).2:=by
 unfold lnkV;cases (winO t m).2
 ·rfl
 ·exact maxB0
theorem quw(H:LsOk b c d F LV R){f:Nat}(v:f<lcN b)(e:ltT b F LV R f=V t){g:List qB}(J:g.length<=60) :
  Ev (fun n=>qbl b c period (ints (lchL b b.Aa.Ab.length)) ((lchL b b.Aa.Ab.length).map fun i=>(pinN b i:Int)) (linksL b) (f:Int) t n g 0) (flowO ((⟨[],[]⟩:qg),(3:Int)) (fun l=>(l,(lcN b:Int))) (innS 60 (rcQ b t) (bdQ b d f t) (mkL b d period f t) (lcN b) 0 g)):=by
 have h:=H.bl;have u:=qu9 H e;have I:=qmP h;have m:(ints (lchL b b.Aa.Ab.length)).length=lcN b:=qcQ;obtain⟨p,r⟩:=qpJ v;refine quq (Lf:=fun n s i=>qbl b c period (ints (lchL b b.Aa.Ab.length)) ((lchL b b.Aa.Ab.length).map fun i=>(pinN b i:Int)) (linksL b) (f:Int) t n s i) (St:=fun _ g=>g) (len:=lcN b) (fun n a=>?_) (fun k a o L X B C D=>?_) (lcN b) 0 g (by omega) J
 ·simp only[qbl,m,qn (je _),cond_false]
 ·obtain⟨hi,K⟩:=qpJ o;simp only[qbl,m,ql o,cond_true,qn8 o,qud o,qn8 v,jd,wS k];refine Ev.bind (qtR h u.r u.a hi K) ?_;have z:decide (lnkV t (2*(off b.Aa (glN b k)+pinN b (glN b k)))<0) = !rcQ b t k:=qt8;rw[z];cases hr:rcQ b t k
  ·exact Ev.tt Z (B hr)
  ·refine Ev.ff Z (Ev.bind (qqF h H.dl p r) ?_);have A:W64 (lnkV t (2*(off b.Aa (glN b k)+pinN b (glN b k)))+thrN (thrQ b (glN b f)) d (lkB b))=vlN b d f t k:=rfl;simp only[A];have y:((a.length:Int)==60)=(a.length==60):=by rw[jj];simp;omega
   have x:Ev (fun _:Nat=>bif decide (vlN b d f t k > 100000) then V true else V ((a.length:Int)==60)) (bdQ b d f t k || (a.length==60)):=by
    show Ev (fun _=>bif bdQ b d f t k then V true else V ((a.length:Int)==60)) _;rw[y];cases bdQ b d f t k<;>exact .done
   refine Ev.bind x ?_;cases hb:bdQ b d f t k || (a.length==60)
   ·refine Ev.ff Z (Ev.bindN (qbP (by simp only[jA,jU];omega)) ?_);exact D hr hb
   ·rw[C hr hb];exact Ev.tt Z .done
theorem quM(H:LsOk b c d F LV R) :
  Ev (fun n=>qbT b c a_open close period (ints (lchL b b.Aa.Ab.length)) ((lchL b b.Aa.Ab.length).map fun i=>(pinN b i:Int)) (linksL b) LV (ints R) n ([]:List qB) ([]:List qbs) 0)
   (flowO ((⟨[],[]⟩:qg),(3:Int)) (fun l=>(l,lts a_open close (lcN b),(lcN b:Int))) (outS (rowCap b d F LV R period) (lcN b) 0 [])):=by
 have h:=H.bl;have I:=qmP h;have r:(ints (lchL b b.Aa.Ab.length)).length=lcN b:=qcQ;have x:=qaY (qY (qao h));have y:∀i a o,rowCap b d F LV R period i a=V o->a.length<=60->o.length<=60:=fun i a o e g=>by
  rw[qsY g] at e;exact qtX e
 have k:=quB (Lf:=fun n (s:List qB×List qbs) i=>qbT b c a_open close period (ints (lchL b b.Aa.Ab.length)) ((lchL b b.Aa.Ab.length).map fun i=>(pinN b i:Int)) (linksL b) LV (ints R) n s.1 s.2 i) (St:=fun i a=>(a,lts a_open close i)) (cap:=60)
  (row:=fun i a=>if a.length<=60 then rowCap b d F LV R period i a else U) (len:=lcN b) (bad:=((⟨[],[]⟩:qg),(3:Int))) (fin:=fun l=>(l,lts a_open close (lcN b),(lcN b:Int)))
  (fun i a o e=>by
   by_cases g:a.length<=60
   ·rw[if_pos g] at e;exact y i a o e g
   ·rw[if_neg g] at e;cases e)
  (fun n a=>by simp only[qbT,r,qn (je _),cond_false])
  (fun i a hi g X u v=>by
   obtain⟨p,D⟩:=qpJ hi;obtain⟨L,M,J,K⟩:=qt1 h p;have C:outN b (glN b i)=off b.Aa (glN b i)+((gt b.Aa.Ab (glN b i)).Ai.length-1):=rfl;rw[if_pos g] at u v;simp only[qbT,r,ql hi,cond_true,wS i];refine Ev.bindN (qmS (f:=fun _=>(⟨a_open,close⟩:qbs)) (by omega)) (Ev.bindN (qn8 hi) (Ev.bindN (qD p) (Ev.bindN (qn8 hi) ?_)));have e0:W64 (((gt b.Aa.Ab (glN b i)).Ai.length:Int)-1)=(((gt b.Aa.Ab (glN b i)).Ai.length-1:Nat):Int):=by rw[qT (by omega) (by omega)];omega
   rw[e0];refine Ev.bind (qkz h p (by omega)) ?_;rw[<-C];have e1:W64 (2*(outN b (glN b i):Int))=((2*outN b (glN b i):Nat):Int):=by rw[qT (by omega) (by omega)];omega
   have z:W64 (((2*outN b (glN b i):Nat):Int)+1)=((2*outN b (glN b i)+1:Nat):Int):=by rw[qT (by omega) (by omega)];omega
   simp only[e1,z];refine Ev.bind (quT H i) ?_;cases e:ltT b F LV R i with
   |none=>
    have:rowCap b d F LV R period i a=U:=by unfold rowCap;rw[e];rfl
    rw[u this];exact Ev.tt Z .done
   |some t=>
    refine Ev.ff Z (Ev.bind (quw (period:=period) H hi e g) ?_);have B:rowCap b d F LV R period i a=innS 60 (rcQ b t) (bdQ b d i t) (mkL b d period i t) (lcN b) 0 a:=by unfold rowCap;rw[e];rfl
    rw[B] at u v;cases e3:innS 60 (rcQ b t) (bdQ b d i t) (mkL b d period i t) (lcN b) 0 a with
    |none=>rw[u e3];exact .done
    |some o=>exact v o e3)
  (lcN b) 0 [] (by omega) (by simp)
 have A:∀m i (a:List qB),a.length<=60->outS (fun i a=>if a.length<=60 then rowCap b d F LV R period i a else U) m i a=outS (rowCap b d F LV R period) m i a:=by
  intro m
  induction m with
  |zero=>intros;rfl
  |succ m ih=>
   intro i a g;unfold outS;simp only[if_pos g];cases e:rowCap b d F LV R period i a with
   |none=>rfl
   |some o=>exact ih (i+1) o (y i a o e g)
 rw[A _ _ _ (by simp)] at k;exact k
end

section
variable{b:qe}{c:qC}{br:List Int}{a_open close period:Int}
def prdB(a_open close period:Int):Bool:=inI a_open 0 100000&&(inI close a_open 100000&&inI period 0 100000)
theorem qvK:prdB a_open close period=(!decide (a_open<0)&&(!decide (a_open > close)&&(!decide (close > 100000)&&inI period 0 100000))):=by
 unfold prdB;rw[jj];simp only[jf,qbd,jC,decide_eq_false_iff_not];constructor
 ·rintro⟨b,c,a⟩;exact⟨by omega,by omega,by omega,a⟩
 ·rintro⟨b,c,a,d⟩;exact⟨by omega,by omega,d⟩
theorem quY(d:qiw b)(c:blockB b=true)(a:br.length<=1048576) :
  Ev (fun n=>(qhT n b br).bind fun f=>bif (f != 0) then V true else
  (qag n a_open 0 100000).bind fun g=>bif (!g) then V true else
  (qag n close a_open 100000).bind fun h=>bif (!h) then V true else
  (qag n period 0 100000).bind fun i=>V (!i)) (!(brB br (lkB b)&&prdB a_open close period)):=by
 refine Ev.bind (qrc d c a) ?_;have e:(linksL b).length=lkB b:=rfl;rw[e];unfold prdB;simp only[qcI,jd];cases brB br (lkB b)
 ·exact Ev.tt Z .done
 ·refine Ev.ff Z ?_;cases inI a_open 0 100000
  ·exact .done
  ·cases inI close a_open 100000<;>exact .done
theorem qp7(d:blockB b=true)(c:br.length<=1048576) :
  Ev (fun n=>(qeH n (V (viewV b)) br).bind fun f=>bif (!f) then V true else bif decide (a_open<0) then V true else bif decide (a_open > close) then V true else bif decide (close > 100000) then V true else(qaK n period 0 100000).bind fun g=>V (!g)) (!(brB br (lkB b)&&prdB a_open close period)):=by
 have a:=qqp (v:=viewV b) (br:=br) c (qgS d);have e:(viewV b).links.length=lkB b:=rfl;rw[e] at a;refine Ev.bind a ?_;rw[qvK];simp only[qdP,jd];cases brB br (lkB b)
 ·exact .done
 ·cases decide (a_open<0)
  ·cases decide (a_open > close)
   ·cases decide (close > 100000)<;>exact .done
   ·exact .done
  ·exact .done
theorem qnn(S:qiw b)(Y:okS c.Ba)(t:br.length<=1048576) :
  ∃R:qg×Int,(R.1.Bd.length<=14/\R.1.Bl.length<=60)/\Ev (fun n=>qf4 n b c br a_open close period) R/\Ev (fun n=>qap n b c br a_open close period) R:=by
 have s1:=qjI S;have i1:=qoS S;have s2:=qp8 (c:=c) Y;have i2:=qnH (c:=c) Y;have A:∀code:Int,(((⟨[],[]⟩,code):qg×Int).1.Bd.length<=14/\((⟨[],[]⟩,code):qg×Int).1.Bl.length<=60):=fun _=>⟨Jh _,Jh _⟩;have o:Ev (fun n=>(qfd n b).bind fun r1=>bif (!r1) then V true else(qhh n c).bind fun W=>V (!W)) (!(blockB b&&cornerB c)):=by
  refine Ev.bind s1 ?_;cases blockB b
  ·exact .done
  ·exact Ev.ff Z (Ev.bind s2 .done)
 have m:Ev (fun n=>(qg0 n b).bind fun r1=>bif (!r1) then V true else(qgm n c).bind fun W=>V (!W)) (!(blockB b&&cornerB c)):=by
  refine Ev.bind i1 ?_;cases blockB b
  ·exact .done
  ·exact Ev.ff Z (Ev.bind i2 .done)
 unfold qf4 qap;cases h0:blockB b&&cornerB c
 ·rw[h0] at o m;exact⟨(⟨[],[]⟩,1),A 1,Ev.bind o (Ev.tt Z .done),Ev.bind m (Ev.tt Z .done)⟩
 rw[h0] at o m;rw[jf] at h0;obtain⟨a,X⟩:=h0;have s:=quY (a_open:=a_open) (close:=close) (period:=period) S a t;have r:=qp7 (a_open:=a_open) (close:=close) (period:=period) a t;have C:=qol a;cases y:brB br (lkB b)&&prdB a_open close period
 ·rw[y] at s r;exact⟨(⟨[],[]⟩,2),A 2,Ev.bind o (Ev.ff Z (Ev.bind s (Ev.tt Z .done))),Ev.bind m (Ev.ff Z (Ev.bind C (Ev.bind r (Ev.tt Z .done))))⟩
 rw[y] at s r;rw[jf] at y;obtain⟨y,_⟩:=y;have hs:=qgS a;have L:=qqt a;have J:=ql9 a;have f:((ints (lchL b b.Aa.Ab.length)).length:Int)=(lcN b:Int):=by rw[qcQ];rfl
 have g:(((lchL b b.Aa.Ab.length).map (siteL b)).length:Int)=(lcN b:Int):=by rw[jp];rfl
 rcases Bool.eq_false_or_eq_true (decide ((lcN b:Int) > 12)) with h4|h4
 ·exact⟨(⟨[],[]⟩,3),A 3,Ev.bind o (Ev.ff Z (Ev.bind s (Ev.ff Z (Ev.bind L (Ev.tt (by rw[f];exact h4) .done))))),
   Ev.bind m (Ev.ff Z (Ev.bind C (Ev.bind r (Ev.ff Z (Ev.bind J (Ev.tt (by rw[g];exact h4) .done))))))⟩
 have gO:=qoA (v:=viewV b) (br:=br) hs y;have P:=qtM (br:=br) a t;have M:=qq3 (lv:=lvJ b br) a qp2;have x:(lvM b (lvJ b br)).length=lkB b:=qhm;have I:=qj5 a;have D:=qsn (ls:=linksL b) (lv:=lvM b (lvJ b br)) I x;have B:=qpn (ls:=linksL b) (lv:=lvM b (lvJ b br)) (ps:=places b.Aa) (b:=b) (lo:=pre (load0 b) b.Ac.length) (de:=pre (exactL b) b.Ac.length) (ex:=[]) I x Z;have N:=qnN a;have O:=qlj a;cases z:ordL (linksL b) (lvM b (lvJ b br)) (ndB b) (ndB b) [] with
 |none=>
  have e:ordR (linksL b) (lvM b (lvJ b br)) (2*(places b.Aa).length)=([],false):=by unfold ordR;rw[z]
  rw[e] at D B;exact⟨(⟨[],[]⟩,7),A 7,Ev.bind o (Ev.ff Z (Ev.bind s (Ev.ff Z (Ev.bind L (Ev.ff (by rw[f];exact h4) (Ev.bind O (Ev.bind P (Ev.bind N (Ev.bind D (Ev.tt Z .done)))))))))),
   Ev.bind m (Ev.ff Z (Ev.bind C (Ev.bind r (Ev.ff Z (Ev.bind J (Ev.ff (by rw[g];exact h4) (Ev.bind gO (Ev.bind M (Ev.bind B (Ev.tt Z .done))))))))))⟩
 |some R=>
  have e:ordR (linksL b) (lvM b (lvJ b br)) (2*(places b.Aa).length)=(ints R,true):=by unfold ordR;rw[z]
  rw[e] at D B;have h:OrdOk (lkB b) (frL (linksL b)) (toL (linksL b)) (lvL (lvM b (lvJ b br))) (ndB b) R:=qrW (ndB b) [] R (fun l1 k l2 e=>by cases l1<;>cases e) z;have hRl:R.length=ndB b:=by have:=qoU (ndB b) [] R z;simpa using this
  have hpl:=qaY (qY (qao a));have eM:ndB b=2*(places b.Aa).length:=rfl;obtain⟨d,hd⟩:=qtH a X;obtain⟨F,hF,Q⟩:=qra a X;have H:LsOk b c d F (lvM b (lvJ b br)) R:=
   { bl:=a,dl:=hd,fs:=hF,fi:=Q [] (.inl Z),lv:=x,rb:=fun k hk=>(by obtain⟨i,hi,rfl⟩:=List.mem_iff_getElem.1 hk;exact(h.at hi).1),rn:=fun j hj=>⟨(h.at hj).1,(h.at hj).2.1⟩,rl:=by omega }
  have p:=quM (a_open:=a_open) (close:=close) (period:=period) H;have K:=qqh (a_open:=a_open) (close:=close) (period:=period) H;rw[qur (cap:=60) (row:=rowO b d F (lvM b (lvJ b br)) R period) (fun i out z=>qsY z) _ _ _ (by simp)] at p;have hlc:lcN b<=12:=by have:=of_decide_eq_false h4;omega
  have hlt:(lts a_open close (lcN b)).length=lcN b:=qhm;cases hq:outI (rowO b d F (lvM b (lvJ b br)) R period) (lcN b) 0 [] with
  |none=>
   rw[hq] at p K;exact⟨(⟨[],[]⟩,3),A 3,Ev.bind o (Ev.ff Z (Ev.bind s (Ev.ff Z (Ev.bind L (Ev.ff (by rw[f];exact h4) (Ev.bind O (Ev.bind P (Ev.bind N (Ev.bind D (Ev.ff Z (Ev.bind p .done))))))))))),Ev.bind m (Ev.ff Z (Ev.bind C (Ev.bind r (Ev.ff Z (Ev.bind J (Ev.ff (by rw[g];exact h4) (Ev.bind gO (Ev.bind M (Ev.bind B (Ev.ff Z (Ev.bind K .done)))))))))))⟩
  |some l=>
   rw[hq] at p K;have ec:capL 60 (V l)=if l.length<=60 then V l else U:=rfl;rw[ec] at p;by_cases T:l.length<=60
   ·rw[if_pos T] at p;have u:decide ((l.length:Int) > 60)=false:=by simp;omega
    exact⟨(⟨lts a_open close (lcN b),l⟩,0),⟨by show(lts a_open close (lcN b)).length<=14;omega,T⟩,Ev.bind o (Ev.ff Z (Ev.bind s (Ev.ff Z (Ev.bind L (Ev.ff (by rw[f];exact h4) (Ev.bind O (Ev.bind P (Ev.bind N (Ev.bind D (Ev.ff Z (Ev.bind p .done))))))))))),Ev.bind m (Ev.ff Z (Ev.bind C (Ev.bind r (Ev.ff Z (Ev.bind J (Ev.ff (by rw[g];exact h4) (Ev.bind gO (Ev.bind M (Ev.bind B (Ev.ff Z (Ev.bind K (Ev.ff u .done))))))))))))⟩
   ·rw[if_neg T] at p;have u:decide ((l.length:Int) > 60)=true:=by simp;omega
    exact⟨(⟨[],[]⟩,3),A 3,Ev.bind o (Ev.ff Z (Ev.bind s (Ev.ff Z (Ev.bind L (Ev.ff (by rw[f];exact h4) (Ev.bind O (Ev.bind P (Ev.bind N (Ev.bind D (Ev.ff Z (Ev.bind p .done))))))))))),Ev.bind m (Ev.ff Z (Ev.bind C (Ev.bind r (Ev.ff Z (Ev.bind J (Ev.ff (by rw[g];exact h4) (Ev.bind gO (Ev.bind M (Ev.bind B (Ev.ff Z (Ev.bind K (Ev.tt u .done))))))))))))⟩
end

theorem qpp{p f mode:Int}(d:0<=p)(p1:p<=1000000)(a:0<=f)(b:f<=5000):0<=divI (p*f) 1000 mode/\divI (p*f) 1000 mode<=5000000:=by
 have c:0<=p*f:=jS d a;have g:p*f<=1000000*5000:=Ja p1 b a (by omega);exact qmY (by omega) c (by omega)
theorem qs6{b:qe}{c:qC}(h:blockB b=true)(s:cornerB c=true){k:Nat}(A:k<(linksL b).length){sl mode:Int}:∃D:Int,(0<=D/\D<=5000000)/\Ev (fun n=>qbf n b c (gt (linksL b) k) sl mode) D:=by
 obtain⟨d,_⟩:=qf3 h (qiQ A);generalize gt (linksL b) k=x at d;rcases d with⟨i,j,m,net,a,d⟩|⟨j,net,q,d⟩
 ·obtain⟨f,z,l,p,B⟩:=qlQ s (kind:=x.Ar) (mode:=mode);have dl:m<(gt (cellAt b (i:Int)).Ap a).Bi.length:=by rw[d.d2];exact d.ml
  obtain⟨r,v,r1,C,ri⟩:=qoj (d.dt _ (qiQ dl)) sl (load0 b net) mode;obtain⟨c1,y⟩:=qmI (mode:=mode) v (by omega) (show 0<=f by omega) l;have g:(x.Ar==1)=true:=by rw[d.kind];rfl
  refine⟨divI (r*f) 1000 mode,qpp v r1 (by omega) l,?_⟩;unfold qbf;refine Ev.tt g (Ev.bind (qm3 h d) ?_);simp only[d.mod,qD dl,jd,p];exact Ev.bind C (Ev.bind ⟨0,fun n _=>c1 n⟩ .done)
 ·have o:(exactL b net).length=(gt b.Ac net).Bc.length:=by unfold exactL;rw[jp]
  have t:q<(exactL b net).length:=by rw[o];exact d.kl
  obtain⟨F,H⟩:=qme h d.nl d.kl;obtain⟨f,z,l,p,B⟩:=qlQ s (kind:=x.Ar) (mode:=mode);obtain⟨u,p1⟩:=qmY (a:=gt (exactL b net) q) (b:=1000) (mode:=mode) (M:=344000) (by omega) F (by omega);obtain⟨c1,y⟩:=qmI (mode:=mode) u (by omega) (show 0<=f by omega) l;have g:(x.Ar==1)=false:=by rw[d.kind];rfl
  have hi:idx ((exactL b net).map fun x=>divI x 1000 mode) (q:Int)=V (divI (gt (exactL b net) q) 1000 mode):=by
   rw[qD (by rw[jp];exact t),qmf t]
  refine⟨divI (divI (gt (exactL b net) q) 1000 mode*f) 1000 mode,qpp u (by omega) (by omega) l,?_⟩;unfold qbf;refine Ev.ff g (Ev.bind (qm1 h d) (Ev.bind (qki h d.nl) ?_));simp only[d.ix,hi,jd,p];exact Ev.bind ⟨0,fun n _=>c1 n⟩ .done
end Go.Fw


namespace Go.Fw
open Go Go.Proofs Go.Proofs.Tryz
open Go.RowKit (Below)
open Ch renaming own->oW,box->oX,grp->oG
open GoT renaming v->oV
open Go.Value renaming slice->oS
set_option maxRecDepth 100000
set_option maxHeartbeats 6400000
variable{n:Nat}{w:World}{cs1 cs2 cs3 cs4 cs5 cs6 cs7 cs8 cs9:List Value}
def qom(_:Nat)(code:(List (IntK .u8))):Option Bool:=V (decide ((code.length:Int) > 4096))
theorem qqR{code:(List (IntK .u8))}(a:Ro w code cs1){r:Bool}(F:qom n code=V r):RetV prog 6 [oV (List (IntK .u8)) cs1] w r:=by
 obtain⟨_,_,rfl,_⟩:=a;exact zV 6 func6 Z fun h=>X0 11 Z (rb h F Z)
def qcb(g:Int)(a:qg)(c:qg):Nat->Int->Option (Flow Bool Int)|0,_=>U|n+1,b=>bif decide (b<(a.Bl.length:Int)) then(idx a.Bl b).bind fun d=>(idx c.Bl b).bind fun f=>bif (d.Bu != g) then V (.ret false) else bif (f.Bu != 0) then V (.ret false) else bif (d.Bb != f.Bb) then V (.ret false) else bif (d.To != f.To) then V (.ret false) else bif (d.Bi != f.Bi) then V (.ret false) else qcb g a c n (W64 (b+1)) else V (.nxt b)
def qg7(n:Nat)(a_0:(List (IntK .u8))):Option Bool:=(qom n a_0).bind fun r1=>bif r1 then V true else(qem n a_0).bind fun(k,l,m,p,s,t)=>(qap n k l m p s t).bind fun(a,b)=>(qf4 n k l m p s t).bind fun(c,f)=>(bif (b != f) then V true else bif ((a.Bd.length:Int) != (c.Bd.length:Int)) then V true else V ((a.Bl.length:Int) != (c.Bl.length:Int))).bind fun b1=>bif b1 then V false else bif (b != 0) then V true else((qf7 n a).bind fun h=>bif (!h) then V true else(qgb n a).bind fun i=>V (!i)).bind fun b2=>bif b2 then V false else(qap n k l m p s 0).bind fun(d,g)=>(bif (g != 0) then V true else V ((d.Bl.length:Int) != (a.Bl.length:Int))).bind fun b3=>bif b3 then V false else(qcb t a d n 0).bind fun|.ret r=>V r|.nxt _=>V true
theorem ctL{S:Nat->Prop}{xs:List qB}{p:Option Addr}{k b o q:Nat}{i:Int}{y:qB}(H:SlR w S xs p k)(m:idx xs i=V y)(c:p=V ⟨b,o,U⟩)(h:q=o+i.toNat*GoT.k qB):CellsAt w b q (qay y):=by
 obtain⟨n,r,s,cs,d,f,-,l,g⟩:=H.at m;obtain rfl:=qgh l;rw[d] at c;injection c with c;injection c with e1 a;subst e1 a f h;exact g
theorem qkq{a_0:(List (IntK .u8))}(ha1:Ro w a_0 cs1){r:Bool}(F:qg7 n a_0=V r):RetV prog 3 [oV (List (IntK .u8)) cs1] w r:=by
 obtain⟨_,_,rfl,s1⟩:=ha1;refine zV 147 func3 Z fun h=>X0 8 Z (zcB h F (qqR ⟨_,_,rfl,(h.oldS s1)⟩) Z fun _ _ h F=>qbe (qq Z F ?_ ?_))<;>intro F
 ·exact X0 4 Z (rb h F Z)
 refine X0 4 Z ?_;have c5:Rg (old w) w (old w) w:=.start (fun _ h=>h);obtain⟨⟨r3,r4,r5,r6,r7,H⟩,hr2,F⟩:=qd F;refine qrU (r3,r4,r5,r6,r7,H) c5 h (cB 7 Z) (qjx (c5.atB h) ⟨_,_,rfl,(c5.inBS h s1)⟩ hr2) Z Z Z Z fun _ _ S1 h hv1=>?_;obtain⟨_,_,rfl,hr3,hv2⟩:=qku hv1;have hr4:=hr3;obtain⟨p2,k2,p3,k3,p4,k4,p5,k5,p6,k6,rfl,_,_,_,_,_⟩:=qX hr3;replace h:=h.grpAdd 0 Z hr4;obtain⟨_,_,rfl,hr5,hv3⟩:=qku hv2;have hr6:=hr5;obtain rfl:=qaZ hr5;obtain⟨_,_,rfl,hr7,hv4⟩:=qku hv3;have hr8:=hr7;obtain⟨p7,k7,rfl,_⟩:=hr7;replace h:=h.grpAdd 0 Z hr8;obtain⟨_,_,rfl,hr9,hv5⟩:=qku hv4;have hr10:=hr9;obtain rfl:=hr9;obtain⟨_,_,rfl,b7,hv6⟩:=qku hv5;have hr12:=b7;obtain rfl:=b7;obtain⟨_,rfl,c0⟩:=qlF hv6;have hr14:=c0;obtain rfl:=c0;refine X0 7 Z (qi qa h Z Z Z fun _ b5 h=>qi qa h Z Z Z fun _ b6 h=>zs 1 h Z fun _ h=>zs 0 h Z fun _ h=>X2 13 1 0 h Z ?_);obtain⟨⟨i,r11⟩,hr15,F⟩:=qd F;refine qb6 (i,r11) h (cB 8 Z) (qia (h.grp 2 1 Z Z) (qjE r4) (h.grp 2 0 Z Z) hr15) Z Z Z Z fun _ _ _ hv7 hr16=>?_;obtain⟨I,_,_,_,rfl,hv8,hr17⟩:=hv7.cons hr16;obtain⟨A,y,B,z,rfl,-,-⟩:=qdL (hv8.sh.own 0 Z);obtain⟨rfl,h⟩:=hv8.lastI hr17;refine zp3 Z (qi qa h Z Z Z fun _ l h=>zs 0 h Z fun _ h=>X2 10 3 2 h Z ?_);obtain⟨⟨r13,r14⟩,hr19,F⟩:=qd F;refine qb6 (r13,r14) h (cB 9 Z) (qk6 (h.grp 4 1 Z Z) (qjE r4) (h.grp 4 0 Z Z) hr19) Z Z Z Z fun _ _ _ hv10 hr20=>?_;obtain⟨_,_,_,_,rfl,c2,hr21⟩:=hv10.cons hr20;obtain⟨_,_,_,_,rfl,-,-⟩:=qdL (c2.sh.own 0 Z);obtain⟨rfl,h⟩:=c2.lastI hr21;refine zp3 Z (qi qa h Z Z Z fun _ _ h=>zs 0 h Z fun _ h=>X0 4 Z ?_);obtain⟨KF3,hKF3,_,F,c4⟩:=bindE F;refine qaP (fun e w'=>∃b1,KF3 b1=V r/\e=[(3,vp b5),(4,vp b6),(5,oS p7 r5.length k7),(6,vi r6),(7,vi r7),(8,vi H),(9,vp l),(10,vi r11),(69,.bool b1)]/\SH w w' [oX l (qm i A B y z) 43,oW I (i:qg) (qm i A B y z),oX b6 (qan r4) 36,oX b5 (qG r3 p2 p3 p4 p5 p6 k2 k3 k4 k5 k6) 34,oG (old w) S1 [fct (r5:(List Int)) [oS p7 r5.length k7],fct (r3:qe) (qG r3 p2 p3 p4 p5 p6 k2 k3 k4 k5 k6)]]) ?_ ?_
 ·refine X0 5 Z (qj (t:=52) F Z ?_ ?_)<;>intro F
  ·refine X0 18 Z ?_;replace h:=h.p [2,3,4,5,6] Z;obtain rfl:=qb F;exact rG ⟨_,c4,rfl,h⟩ Z
  refine X2 16 2 0 h Z (qj (t:=61) F Z ?_ ?_)<;>intro F
  ·refine X0 9 Z ?_;replace h:=h.p [2,3,4,5,6] Z;obtain rfl:=qb F;exact rG ⟨_,c4,rfl,h⟩ Z
  refine X2 16 2 0 h Z ?_;replace h:=h.p [2,3,4,5,6] Z;obtain rfl:=qb F;exact rG ⟨_,c4,rfl,h⟩ Z
 rintro _ _ ⟨b1,F,rfl,h⟩;subst hKF3;refine qq Z F ?_ ?_<;>intro F
 ·refine X0 4 Z ?_;replace h:=h.p [0,1,2,3] Z;exact rb h F Z
 refine X0 7 Z (qq Z F ?_ ?_)<;>intro F
 ·refine X0 4 Z ?_;replace h:=h.p [0,1,2,3] Z;exact rb h F Z
 refine zKSS ?_;obtain⟨KF2,hKF2,_,F,hK3⟩:=bindE F;refine qaP (fun e w'=>∃b2,KF2 b2=V r/\e=[(3,vp b5),(4,vp b6),(5,oS p7 r5.length k7),(6,vi r6),(7,vi r7),(8,vi H),(9,vp l),(79,.bool b2)]/\SH w w' [oX l (qm i A B y z) 43,oW I (i:qg) (qm i A B y z),oX b6 (qan r4) 36,oX b5 (qG r3 p2 p3 p4 p5 p6 k2 k3 k4 k5 k6) 34,oG (old w) S1 [fct (r5:(List Int)) [oS p7 r5.length k7],fct (r3:qe) (qG r3 p2 p3 p4 p5 p6 k2 k3 k4 k5 k6)]]) ?_ ?_
 ·refine X1 2 0 h Z (zcB h F (qk0 (h.own 1 Z)) Z fun _ _ h F=>zp2 Z (qj (t:=75) F Z ?_ ?_))<;>intro F
  ·refine X0 5 Z ?_;obtain rfl:=qb F;exact rG ⟨_,hK3,rfl,h⟩ Z
  refine X1 3 0 h Z (zcB h F (qk8 (h.own 1 Z)) Z fun _ _ h F=>X0 4 Z ?_);obtain rfl:=qb F;exact rG ⟨_,hK3,rfl,h⟩ Z
 rintro _ _ ⟨b2,F,rfl,h⟩;subst hKF2;refine qq Z F ?_ ?_<;>intro F
 ·refine X0 4 Z ?_;replace h:=h.p [0,1,2,3] Z;exact rb h F Z
 refine X2 8 3 2 h Z ?_;obtain⟨⟨k,r17⟩,hr23,F⟩:=qd F;refine qb6 (k,r17) h (cB 8 Z) (qia (h.grp 4 1 Z Z) (qjE r4) (h.grp 4 0 Z Z) hr23) Z Z Z Z fun _ _ _ hv13 hr24=>?_;obtain⟨D,_,_,_,rfl,c3,hr25⟩:=hv13.cons hr24;obtain⟨u,p,v,s,rfl,-,-⟩:=qdL (c3.sh.own 0 Z);obtain⟨rfl,h⟩:=c3.lastI hr25;refine zp3 Z (qi qa h Z Z Z fun _ o h=>zs 0 h Z fun _ h=>X0 4 Z ?_);obtain⟨KF1,hKF1,_,F,hK2⟩:=bindE F;refine qaP (fun e w'=>∃b3,KF1 b3=V r/\e=[(8,vi H),(9,vp l),(13,vp o),(99,.bool b3)]/\SH w w' [oX o (qm k u v p s) 43,oW D (k:qg) (qm k u v p s),oX l (qm i A B y z) 43,oW I (i:qg) (qm i A B y z)]) ?_ ?_
 ·refine X0 4 Z (qj (t:=91) F Z ?_ ?_)<;>intro F
  ·refine X0 9 Z ?_;replace h:=h.grpKeep [1] 6 Z;replace h:=h.p [0,1,2,3] Z;obtain rfl:=qb F;exact rG ⟨_,hK2,rfl,h⟩ Z
  refine X2 16 0 2 h Z ?_;replace h:=h.grpKeep [1] 6 Z;replace h:=h.p [0,1,2,3] Z;obtain rfl:=qb F;exact rG ⟨_,hK2,rfl,h⟩ Z
 rintro _ _ ⟨b3,F,rfl,h⟩;subst hKF1;refine qq Z F ?_ ?_<;>intro F
 ·exact X0 4 Z (rb h F Z)
 refine X0 6 Z ?_;obtain⟨o1,F,L⟩:=qd F;refine qp (rL (fun m e w'=>∃J,qcb H i k m J=V o1/\e=[(8,vi H),(9,vp l),(13,vp o),(15,vi J)]/\SH w w' [oX o (qm k u v p s) 43,oW D (k:qg) (qm k u v p s),oX l (qm i A B y z) 43,oW I (i:qg) (qm i A B y z)]) n ⟨_,F,rfl,h⟩ Z ?_);rintro m1 _ _ ⟨J,F,rfl,h⟩;rcases m1 with _|m1
 ·cases F
 refine X1 9 2 h Z (qq Z F ?_ ?_)<;>intro F
 ·refine X0 4 Z ?_;obtain⟨C,d,F⟩:=qd F;obtain⟨x,a,F⟩:=qd F;refine qaP (fun e w'=>∃P Q,e=[(8,vi H),(9,vp l),(13,vp o),(15,vi J),(16,vp Q),(17,vp P)]/\SH w w' [oX P (qay x) 48,oX Q (qay C) 48,oX o (qm k u v p s) 43,oW D (k:qg) (qm k u v p s),oX l (qm i A B y z) 43,oW I (i:qg) (qm i A B y z)]) ?_ ?_
  ·refine rA [] [0,2] h Z fun _ h=>M1 7 [0,1,2] 1 (h.p [0,2] Z) Z ?_;have he5:=qa2 d;obtain⟨N,o_5,O,_,f,g,-,hr31,_⟩:=(qc (h.own 3 Z)).2.1.at d;obtain rfl:=qgh hr31;refine Ax 3 15 f g ⟨he5.1,qK he5.2.1 (qc (h.own 3 Z)).2.2⟩ (h.p [0,2] Z) Z (M1 239 [5,6,7] 0 (h.p [0,2] Z) Z ?_);have he6:=qa2 a;obtain⟨K,o_6,M,_,b,c,-,hr32,_⟩:=(qc (h.own 1 Z)).2.1.at a;obtain rfl:=qgh hr32;refine Ax 8 495 b c ⟨he6.1,qK he6.2.1 (qc (h.own 1 Z)).2.2⟩ (h.p [0,2] Z) Z (qhZ (fun e w'=>∃R S,e=[(8,vi H),(9,vp l),(13,vp o),(15,vi J),(16,vp S),(17,vp R),(116,.agg #[vi x.Bb,vi x.To,vi x.Bi,vi x.Bu])]/\SH w w' [oX R [vi 0,vi 0,vi 0,vi 0] 48,oX S (qay C) 48,oX o (qm k u v p s) 43,oW D (k:qg) (qm k u v p s),oX l (qm i A B y z) 43,oW I (i:qg) (qm i A B y z)]) 1 (bits 14 8191) ?_ fun KM1=>?_)
   ·rintro _ _ ⟨R,S,rfl,h⟩;exact Ao 13 16383 Z (zs 0 h Z fun _ h=>Ag (h.p [2,4] Z) (Ad (rG ⟨_,_,rfl,h⟩ Z)))
   refine qhZ (fun e w'=>∃T W,e=[(8,vi H),(9,vp l),(13,vp o),(15,vi J),(16,vp W),(17,vp T),(111,.agg #[vi C.Bb,vi C.To,vi C.Bi,vi C.Bu]),(116,.agg #[vi x.Bb,vi x.To,vi x.Bi,vi x.Bu])]/\SH w w' [oX T [vi 0,vi 0,vi 0,vi 0] 48,oX W [vi 0,vi 0,vi 0,vi 0] 48,oX o (qm k u v p s) 43,oW D (k:qg) (qm k u v p s),oX l (qm i A B y z) 43,oW I (i:qg) (qm i A B y z)]) 2 (bits 14 4095) ?_ fun KM2=>?_
   ·rintro _ _ ⟨T,W,rfl,h⟩;exact Ao 12 8191 Z (zs 1 h Z fun _ h=>Ag (h.p [2,4] Z) (qdM [(8,_),(9,_),(13,_),(15,_),(16,_),(17,_),(116,_)] ⟨rfl,rfl,rfl,rfl,rfl,rfl,rfl,G⟩ (KM1 _ _ ⟨_,_,rfl,h⟩)))
   refine qhZ (fun e w'=>∃X,e=[(8,vi H),(9,vp l),(13,vp o),(15,vi J),(17,vp X),(111,.agg #[vi C.Bb,vi C.To,vi C.Bi,vi C.Bu]),(116,.agg #[vi x.Bb,vi x.To,vi x.Bi,vi x.Bu])]/\SH w w' [oX X [vi 0,vi 0,vi 0,vi 0] 48,oX o (qm k u v p s) 43,oW D (k:qg) (qm k u v p s),oX l (qm i A B y z) 43,oW I (i:qg) (qm i A B y z)]) 3 (bits 14 3071) ?_ fun KM4=>?_
   ·rintro _ _ ⟨X,rfl,h⟩;refine Ao 10 4095 Z (qi qa h Z Z Z fun _ _ h=>Ag (h.p [2,4] Z) ?_);replace h:=h.p [1,0,2,3,4,5] Z;exact aK KM2 ⟨_,_,rfl,h⟩ Z
   refine qhZ (fun e w'=>∃Y a3,e=[(8,vi H),(9,vp l),(13,vp o),(15,vi J),(16,vp a3),(17,vp Y),(111,.agg #[vi C.Bb,vi C.To,vi C.Bi,vi C.Bu]),(115,.pointer (V ⟨K,M,U⟩))]/\SH w w' [oX Y [vi 0,vi 0,vi 0,vi 0] 48,oX a3 [vi 0,vi 0,vi 0,vi 0] 48,oX o (qm k u v p s) 43,oW D (k:qg) (qm k u v p s),oX l (qm i A B y z) 43,oW I (i:qg) (qm i A B y z)]) 3 (bits 14 3583) ?_ fun KM5=>?_
   ·rintro _ _ ⟨Y,a3,rfl,h⟩;refine At 9 12 4095 7679 Z ?_ ?_
    ·exact zc 0 (show CellsAt _ K M (qay x) from by first|exact ctL (qc (h.own 0 Z)).2.1 a b c|exact ctL (qc (h.own 1 Z)).2.1 a b c|exact ctL (qc (h.own 2 Z)).2.1 a b c|exact ctL (qc (h.own 3 Z)).2.1 a b c|exact ctL (qc (h.own 4 Z)).2.1 a b c|exact ctL (qc (h.own 5 Z)).2.1 a b c) Z (Ag (h.p [2,4] Z) (qdM [(8,_),(9,_),(13,_),(15,_),(16,_),(17,_),(111,_),(116,_)] ⟨rfl,rfl,rfl,rfl,rfl,rfl,rfl,rfl,G⟩ (KM2 _ _ ⟨_,_,rfl,h⟩)))
    exact zs 1 h Z fun _ h=>Ag (h.p [2,4] Z) (Ao 9 8191 Z (zc 0 (show CellsAt _ K M (qay x) from by first|exact ctL (qc (h.own 0 Z)).2.1 a b c|exact ctL (qc (h.own 1 Z)).2.1 a b c|exact ctL (qc (h.own 2 Z)).2.1 a b c|exact ctL (qc (h.own 3 Z)).2.1 a b c|exact ctL (qc (h.own 4 Z)).2.1 a b c|exact ctL (qc (h.own 5 Z)).2.1 a b c) Z (Ag (h.p [2,4] Z) (qdM [(8,_),(9,_),(13,_),(15,_),(16,_),(17,_),(116,_)] ⟨rfl,rfl,rfl,rfl,rfl,rfl,rfl,G⟩ (KM1 _ _ ⟨_,_,rfl,h⟩)))))
   refine qhZ (fun e w'=>∃a4 a5,e=[(8,vi H),(9,vp l),(13,vp o),(15,vi J),(16,vp a5),(17,vp a4),(110,.pointer (V ⟨N,O,U⟩)),(116,.agg #[vi x.Bb,vi x.To,vi x.Bi,vi x.Bu])]/\SH w w' [oX a4 [vi 0,vi 0,vi 0,vi 0] 48,oX a5 [vi 0,vi 0,vi 0,vi 0] 48,oX o (qm k u v p s) 43,oW D (k:qg) (qm k u v p s),oX l (qm i A B y z) 43,oW I (i:qg) (qm i A B y z)]) 3 (bits 14 4079) ?_ fun KM6=>?_
   ·rintro _ _ ⟨a4,a5,rfl,h⟩;exact Ao 4 4095 Z (zc 0 (show CellsAt _ N O (qay C) from by first|exact ctL (qc (h.own 0 Z)).2.1 d f g|exact ctL (qc (h.own 1 Z)).2.1 d f g|exact ctL (qc (h.own 2 Z)).2.1 d f g|exact ctL (qc (h.own 3 Z)).2.1 d f g|exact ctL (qc (h.own 4 Z)).2.1 d f g|exact ctL (qc (h.own 5 Z)).2.1 d f g) Z (Ag (h.p [2,4] Z) (qdM [(8,_),(9,_),(13,_),(15,_),(16,_),(17,_),(111,_),(116,_)] ⟨rfl,rfl,rfl,rfl,rfl,rfl,rfl,rfl,G⟩ (KM2 _ _ ⟨_,_,rfl,h⟩))))
   refine qhZ (fun e w'=>e=[(8,vi H),(9,vp l),(13,vp o),(15,vi J),(111,.agg #[vi C.Bb,vi C.To,vi C.Bi,vi C.Bu]),(116,.agg #[vi x.Bb,vi x.To,vi x.Bi,vi x.Bu])]/\SH w w' [oX o (qm k u v p s) 43,oW D (k:qg) (qm k u v p s),oX l (qm i A B y z) 43,oW I (i:qg) (qm i A B y z)]) 4 (bits 14 1023) ?_ fun KM7=>?_
   ·rintro _ _ ⟨rfl,h⟩;refine At 10 11 2047 3071 Z ?_ ?_
    ·exact qi qa h Z Z Z fun _ _ h=>Ag (h.p [1,3] Z) (Ao 11 4095 Z (qi qa h Z Z Z fun _ _ h=>Ag (h.p [2,4] Z) (qdM [(8,_),(9,_),(13,_),(15,_),(16,_),(17,_),(111,_),(116,_)] ⟨rfl,rfl,rfl,rfl,rfl,rfl,rfl,rfl,G⟩ (KM2 _ _ ⟨_,_,rfl,h⟩))))
    exact qi qa h Z Z Z fun _ _ h=>Ag (h.p [1,3] Z) (qdM [(8,_),(9,_),(13,_),(15,_),(17,_),(111,_),(116,_)] ⟨rfl,rfl,rfl,rfl,rfl,rfl,rfl,G⟩ (KM4 _ _ ⟨_,rfl,h⟩))
   refine qhZ (fun e w'=>∃a6,e=[(8,vi H),(9,vp l),(13,vp o),(15,vi J),(16,vp a6),(111,.agg #[vi C.Bb,vi C.To,vi C.Bi,vi C.Bu]),(115,.pointer (V ⟨K,M,U⟩))]/\SH w w' [oX a6 [vi 0,vi 0,vi 0,vi 0] 48,oX o (qm k u v p s) 43,oW D (k:qg) (qm k u v p s),oX l (qm i A B y z) 43,oW I (i:qg) (qm i A B y z)]) 4 (bits 14 1535) ?_ fun KM8=>?_
   ·rintro _ _ ⟨a6,rfl,h⟩;refine At 9 11 2047 3583 Z ?_ ?_
    ·exact zc 0 (show CellsAt _ K M (qay x) from by first|exact ctL (qc (h.own 0 Z)).2.1 a b c|exact ctL (qc (h.own 1 Z)).2.1 a b c|exact ctL (qc (h.own 2 Z)).2.1 a b c|exact ctL (qc (h.own 3 Z)).2.1 a b c|exact ctL (qc (h.own 4 Z)).2.1 a b c|exact ctL (qc (h.own 5 Z)).2.1 a b c) Z (Ag (h.p [1,3] Z) (Ao 11 4095 Z (qi qa h Z Z Z fun _ _ h=>Ag (h.p [2,4] Z) (qdM [(8,_),(9,_),(13,_),(15,_),(16,_),(17,_),(111,_),(116,_)] ⟨rfl,rfl,rfl,rfl,rfl,rfl,rfl,rfl,G⟩ (KM2 _ _ ⟨_,_,rfl,h⟩)))))
    exact qi qa h Z Z Z fun _ _ h=>Ag (h.p [2,4] Z) (qdM [(8,_),(9,_),(13,_),(15,_),(16,_),(17,_),(111,_),(115,_)] ⟨rfl,rfl,rfl,rfl,rfl,rfl,rfl,rfl,G⟩ (KM5 _ _ ⟨_,_,rfl,h⟩))
   refine qhZ (fun e w'=>∃a7,e=[(8,vi H),(9,vp l),(13,vp o),(15,vi J),(16,vp a7),(110,.pointer (V ⟨N,O,U⟩)),(116,.agg #[vi x.Bb,vi x.To,vi x.Bi,vi x.Bu])]/\SH w w' [oX a7 [vi 0,vi 0,vi 0,vi 0] 48,oX o (qm k u v p s) 43,oW D (k:qg) (qm k u v p s),oX l (qm i A B y z) 43,oW I (i:qg) (qm i A B y z)]) 4 (bits 14 2031) ?_ fun KM10=>?_
   ·rintro _ _ ⟨a7,rfl,h⟩;refine At 4 11 2047 4079 Z ?_ ?_
    ·exact zc 0 (show CellsAt _ N O (qay C) from by first|exact ctL (qc (h.own 0 Z)).2.1 d f g|exact ctL (qc (h.own 1 Z)).2.1 d f g|exact ctL (qc (h.own 2 Z)).2.1 d f g|exact ctL (qc (h.own 3 Z)).2.1 d f g|exact ctL (qc (h.own 4 Z)).2.1 d f g|exact ctL (qc (h.own 5 Z)).2.1 d f g) Z (Ag (h.p [1,3] Z) (Ao 11 4095 Z (qi qa h Z Z Z fun _ _ h=>Ag (h.p [2,4] Z) (qdM [(8,_),(9,_),(13,_),(15,_),(16,_),(17,_),(111,_),(116,_)] ⟨rfl,rfl,rfl,rfl,rfl,rfl,rfl,rfl,G⟩ (KM2 _ _ ⟨_,_,rfl,h⟩)))))
    exact qi qa h Z Z Z fun _ _ h=>Ag (h.p [2,4] Z) (qdM [(8,_),(9,_),(13,_),(15,_),(16,_),(17,_),(110,_),(116,_)] ⟨rfl,rfl,rfl,rfl,rfl,rfl,rfl,rfl,G⟩ (KM6 _ _ ⟨_,_,rfl,h⟩))
   refine qhZ (fun e w'=>∃a8,e=[(8,vi H),(9,vp l),(13,vp o),(15,vi J),(17,vp a8),(110,.pointer (V ⟨N,O,U⟩)),(116,.agg #[vi x.Bb,vi x.To,vi x.Bi,vi x.Bu])]/\SH w w' [oX a8 [vi 0,vi 0,vi 0,vi 0] 48,oX o (qm k u v p s) 43,oW D (k:qg) (qm k u v p s),oX l (qm i A B y z) 43,oW I (i:qg) (qm i A B y z)]) 4 (bits 14 3055) ?_ fun KM11=>?_
   ·rintro _ _ ⟨a8,rfl,h⟩;refine At 4 10 3071 4079 Z ?_ ?_
    ·exact zc 0 (show CellsAt _ N O (qay C) from by first|exact ctL (qc (h.own 0 Z)).2.1 d f g|exact ctL (qc (h.own 1 Z)).2.1 d f g|exact ctL (qc (h.own 2 Z)).2.1 d f g|exact ctL (qc (h.own 3 Z)).2.1 d f g|exact ctL (qc (h.own 4 Z)).2.1 d f g|exact ctL (qc (h.own 5 Z)).2.1 d f g) Z (Ag (h.p [1,3] Z) (qdM [(8,_),(9,_),(13,_),(15,_),(17,_),(111,_),(116,_)] ⟨rfl,rfl,rfl,rfl,rfl,rfl,rfl,G⟩ (KM4 _ _ ⟨_,rfl,h⟩)))
    refine qi qa h Z Z Z fun _ _ h=>Ag (h.p [2,4] Z) ?_;replace h:=h.p [1,0,2,3,4,5] Z;exact aK KM6 ⟨_,_,rfl,h⟩ Z
   refine qhZ (fun e w'=>∃a9 b4,e=[(8,vi H),(9,vp l),(13,vp o),(15,vi J),(16,vp b4),(17,vp a9),(110,.pointer (V ⟨N,O,U⟩)),(115,.pointer (V ⟨K,M,U⟩))]/\SH w w' [oX a9 [vi 0,vi 0,vi 0,vi 0] 48,oX b4 [vi 0,vi 0,vi 0,vi 0] 48,oX o (qm k u v p s) 43,oW D (k:qg) (qm k u v p s),oX l (qm i A B y z) 43,oW I (i:qg) (qm i A B y z)]) 4 (bits 14 3567) ?_ fun KM12=>?_
   ·rintro _ _ ⟨a9,b4,rfl,h⟩;refine At 4 9 3583 4079 Z ?_ ?_
    ·exact zc 0 (show CellsAt _ N O (qay C) from by first|exact ctL (qc (h.own 0 Z)).2.1 d f g|exact ctL (qc (h.own 1 Z)).2.1 d f g|exact ctL (qc (h.own 2 Z)).2.1 d f g|exact ctL (qc (h.own 3 Z)).2.1 d f g|exact ctL (qc (h.own 4 Z)).2.1 d f g|exact ctL (qc (h.own 5 Z)).2.1 d f g) Z (Ag (h.p [2,4] Z) (qdM [(8,_),(9,_),(13,_),(15,_),(16,_),(17,_),(111,_),(115,_)] ⟨rfl,rfl,rfl,rfl,rfl,rfl,rfl,rfl,G⟩ (KM5 _ _ ⟨_,_,rfl,h⟩)))
    exact zc 0 (show CellsAt _ K M (qay x) from by first|exact ctL (qc (h.own 0 Z)).2.1 a b c|exact ctL (qc (h.own 1 Z)).2.1 a b c|exact ctL (qc (h.own 2 Z)).2.1 a b c|exact ctL (qc (h.own 3 Z)).2.1 a b c|exact ctL (qc (h.own 4 Z)).2.1 a b c|exact ctL (qc (h.own 5 Z)).2.1 a b c) Z (Ag (h.p [2,4] Z) (qdM [(8,_),(9,_),(13,_),(15,_),(16,_),(17,_),(110,_),(116,_)] ⟨rfl,rfl,rfl,rfl,rfl,rfl,rfl,rfl,G⟩ (KM6 _ _ ⟨_,_,rfl,h⟩)))
   refine qvn 4 9 10 11 Z Z Z Z (bits 14 511) (bits 14 1007) (bits 14 1519) (bits 14 2543) (by kernel_rfl) (by kernel_rfl) (by kernel_rfl) (by kernel_rfl)  (by kernel_rfl) ?_ ?_ ?_ ?_
   ·refine zc 0 (show CellsAt _ N O (qay C) from by first|exact ctL (qc (h.own 0 Z)).2.1 d f g|exact ctL (qc (h.own 1 Z)).2.1 d f g|exact ctL (qc (h.own 2 Z)).2.1 d f g|exact ctL (qc (h.own 3 Z)).2.1 d f g|exact ctL (qc (h.own 4 Z)).2.1 d f g|exact ctL (qc (h.own 5 Z)).2.1 d f g) Z (Ag (h.p [0,2] Z) (qfu 9 10 11 Z Z Z (bits 14 1023) (bits 14 1535) (bits 14 2559) (by kernel_rfl) (by kernel_rfl) (by kernel_rfl)  (by kernel_rfl) ?_ ?_ ?_))
    ·exact zc 0 (show CellsAt _ K M (qay x) from by first|exact ctL (qc (h.own 0 Z)).2.1 a b c|exact ctL (qc (h.own 1 Z)).2.1 a b c|exact ctL (qc (h.own 2 Z)).2.1 a b c|exact ctL (qc (h.own 3 Z)).2.1 a b c|exact ctL (qc (h.own 4 Z)).2.1 a b c|exact ctL (qc (h.own 5 Z)).2.1 a b c) Z (Ag (h.p [0,2] Z) (qdM [(8,_),(9,_),(13,_),(15,_),(111,_),(116,_)] ⟨rfl,rfl,rfl,rfl,rfl,rfl,G⟩ (KM7 _ _ ⟨rfl,h⟩)))
    ·exact qi qa h Z Z Z fun _ _ h=>Ag (h.p [1,3] Z) (qdM [(8,_),(9,_),(13,_),(15,_),(16,_),(111,_),(115,_)] ⟨rfl,rfl,rfl,rfl,rfl,rfl,rfl,G⟩ (KM8 _ _ ⟨_,rfl,h⟩))
    refine qi qa h Z Z Z fun _ _ h=>Ag (h.p [1,3] Z) (At 9 10 3071 3583 Z ?_ ?_)
    ·exact zc 0 (show CellsAt _ K M (qay x) from by first|exact ctL (qc (h.own 0 Z)).2.1 a b c|exact ctL (qc (h.own 1 Z)).2.1 a b c|exact ctL (qc (h.own 2 Z)).2.1 a b c|exact ctL (qc (h.own 3 Z)).2.1 a b c|exact ctL (qc (h.own 4 Z)).2.1 a b c|exact ctL (qc (h.own 5 Z)).2.1 a b c) Z (Ag (h.p [1,3] Z) (qdM [(8,_),(9,_),(13,_),(15,_),(17,_),(111,_),(116,_)] ⟨rfl,rfl,rfl,rfl,rfl,rfl,rfl,G⟩ (KM4 _ _ ⟨_,rfl,h⟩)))
    refine qi qa h Z Z Z fun _ _ h=>Ag (h.p [2,4] Z) ?_;replace h:=h.p [1,0,2,3,4,5] Z;exact aK KM5 ⟨_,_,rfl,h⟩ Z
   ·refine zc 0 (show CellsAt _ K M (qay x) from by first|exact ctL (qc (h.own 0 Z)).2.1 a b c|exact ctL (qc (h.own 1 Z)).2.1 a b c|exact ctL (qc (h.own 2 Z)).2.1 a b c|exact ctL (qc (h.own 3 Z)).2.1 a b c|exact ctL (qc (h.own 4 Z)).2.1 a b c|exact ctL (qc (h.own 5 Z)).2.1 a b c) Z (Ag (h.p [0,2] Z) (qfu 4 10 11 Z Z Z (bits 14 1023) (bits 14 2031) (bits 14 3055) (by kernel_rfl) (by kernel_rfl) (by kernel_rfl)  (by kernel_rfl) ?_ ?_ ?_))
    ·exact zc 0 (show CellsAt _ N O (qay C) from by first|exact ctL (qc (h.own 0 Z)).2.1 d f g|exact ctL (qc (h.own 1 Z)).2.1 d f g|exact ctL (qc (h.own 2 Z)).2.1 d f g|exact ctL (qc (h.own 3 Z)).2.1 d f g|exact ctL (qc (h.own 4 Z)).2.1 d f g|exact ctL (qc (h.own 5 Z)).2.1 d f g) Z (Ag (h.p [0,2] Z) (qdM [(8,_),(9,_),(13,_),(15,_),(111,_),(116,_)] ⟨rfl,rfl,rfl,rfl,rfl,rfl,G⟩ (KM7 _ _ ⟨rfl,h⟩)))
    ·exact qi qa h Z Z Z fun _ _ h=>Ag (h.p [1,3] Z) (qdM [(8,_),(9,_),(13,_),(15,_),(16,_),(110,_),(116,_)] ⟨rfl,rfl,rfl,rfl,rfl,rfl,rfl,G⟩ (KM10 _ _ ⟨_,rfl,h⟩))
    exact qi qa h Z Z Z fun _ _ h=>Ag (h.p [1,3] Z) (qdM [(8,_),(9,_),(13,_),(15,_),(17,_),(110,_),(116,_)] ⟨rfl,rfl,rfl,rfl,rfl,rfl,rfl,G⟩ (KM11 _ _ ⟨_,rfl,h⟩))
   ·refine qi qa h Z Z Z fun _ _ h=>Ag (h.p [1,3] Z) (qfu 4 9 11 Z Z Z (bits 14 1535) (bits 14 2031) (bits 14 3567) (by kernel_rfl) (by kernel_rfl) (by kernel_rfl)  (by kernel_rfl) ?_ ?_ ?_)
    ·exact zc 0 (show CellsAt _ N O (qay C) from by first|exact ctL (qc (h.own 0 Z)).2.1 d f g|exact ctL (qc (h.own 1 Z)).2.1 d f g|exact ctL (qc (h.own 2 Z)).2.1 d f g|exact ctL (qc (h.own 3 Z)).2.1 d f g|exact ctL (qc (h.own 4 Z)).2.1 d f g|exact ctL (qc (h.own 5 Z)).2.1 d f g) Z (Ag (h.p [1,3] Z) (qdM [(8,_),(9,_),(13,_),(15,_),(16,_),(111,_),(115,_)] ⟨rfl,rfl,rfl,rfl,rfl,rfl,rfl,G⟩ (KM8 _ _ ⟨_,rfl,h⟩)))
    ·exact zc 0 (show CellsAt _ K M (qay x) from by first|exact ctL (qc (h.own 0 Z)).2.1 a b c|exact ctL (qc (h.own 1 Z)).2.1 a b c|exact ctL (qc (h.own 2 Z)).2.1 a b c|exact ctL (qc (h.own 3 Z)).2.1 a b c|exact ctL (qc (h.own 4 Z)).2.1 a b c|exact ctL (qc (h.own 5 Z)).2.1 a b c) Z (Ag (h.p [1,3] Z) (qdM [(8,_),(9,_),(13,_),(15,_),(16,_),(110,_),(116,_)] ⟨rfl,rfl,rfl,rfl,rfl,rfl,rfl,G⟩ (KM10 _ _ ⟨_,rfl,h⟩)))
    exact qi qa h Z Z Z fun _ _ h=>Ag (h.p [2,4] Z) (qdM [(8,_),(9,_),(13,_),(15,_),(16,_),(17,_),(110,_),(115,_)] ⟨rfl,rfl,rfl,rfl,rfl,rfl,rfl,rfl,G⟩ (KM12 _ _ ⟨_,_,rfl,h⟩))
   refine qi qa h Z Z Z fun _ _ h=>Ag (h.p [1,3] Z) (qfu 4 9 10 Z Z Z (bits 14 2559) (bits 14 3055) (bits 14 3567) (by kernel_rfl) (by kernel_rfl) (by kernel_rfl)  (by kernel_rfl) ?_ ?_ ?_)
   ·refine zc 0 (show CellsAt _ N O (qay C) from by first|exact ctL (qc (h.own 0 Z)).2.1 d f g|exact ctL (qc (h.own 1 Z)).2.1 d f g|exact ctL (qc (h.own 2 Z)).2.1 d f g|exact ctL (qc (h.own 3 Z)).2.1 d f g|exact ctL (qc (h.own 4 Z)).2.1 d f g|exact ctL (qc (h.own 5 Z)).2.1 d f g) Z (Ag (h.p [1,3] Z) (At 9 10 3071 3583 Z ?_ ?_))
    ·exact zc 0 (show CellsAt _ K M (qay x) from by first|exact ctL (qc (h.own 0 Z)).2.1 a b c|exact ctL (qc (h.own 1 Z)).2.1 a b c|exact ctL (qc (h.own 2 Z)).2.1 a b c|exact ctL (qc (h.own 3 Z)).2.1 a b c|exact ctL (qc (h.own 4 Z)).2.1 a b c|exact ctL (qc (h.own 5 Z)).2.1 a b c) Z (Ag (h.p [1,3] Z) (qdM [(8,_),(9,_),(13,_),(15,_),(17,_),(111,_),(116,_)] ⟨rfl,rfl,rfl,rfl,rfl,rfl,rfl,G⟩ (KM4 _ _ ⟨_,rfl,h⟩)))
    refine qi qa h Z Z Z fun _ _ h=>Ag (h.p [2,4] Z) ?_;replace h:=h.p [1,0,2,3,4,5] Z;exact aK KM5 ⟨_,_,rfl,h⟩ Z
   ·exact zc 0 (show CellsAt _ K M (qay x) from by first|exact ctL (qc (h.own 0 Z)).2.1 a b c|exact ctL (qc (h.own 1 Z)).2.1 a b c|exact ctL (qc (h.own 2 Z)).2.1 a b c|exact ctL (qc (h.own 3 Z)).2.1 a b c|exact ctL (qc (h.own 4 Z)).2.1 a b c|exact ctL (qc (h.own 5 Z)).2.1 a b c) Z (Ag (h.p [1,3] Z) (qdM [(8,_),(9,_),(13,_),(15,_),(17,_),(110,_),(116,_)] ⟨rfl,rfl,rfl,rfl,rfl,rfl,rfl,G⟩ (KM11 _ _ ⟨_,rfl,h⟩)))
   refine qi qa h Z Z Z fun _ _ h=>Ag (h.p [2,4] Z) ?_;replace h:=h.p [1,0,2,3,4,5] Z;exact aK KM12 ⟨_,_,rfl,h⟩ Z
  rintro _ _ ⟨P,Q,rfl,h⟩;refine X1 7 1 h Z (qj (t:=121) F Z ?_ ?_)<;>intro F
  ·refine X0 26 Z (qbZ Z Z (X0 4 Z ?_));obtain rfl:=qb F;replace F:=L;exact rb h F Z
  refine X1 8 0 h Z (qj (t:=126) F Z ?_ ?_)<;>intro F
  ·refine X0 21 Z (qbZ Z Z (X0 4 Z ?_));obtain rfl:=qb F;replace F:=L;exact rb h F Z
  refine X2 12 1 0 h Z (qj (t:=133) F Z ?_ ?_)<;>intro F
  ·refine X0 14 Z (qbZ Z Z (X0 4 Z ?_));obtain rfl:=qb F;replace F:=L;exact rb h F Z
  refine X2 12 1 0 h Z (qj (t:=140) F Z ?_ ?_)<;>intro F
  ·refine X0 7 Z (qbZ Z Z (X0 4 Z ?_));obtain rfl:=qb F;replace F:=L;exact rb h F Z
  refine X2 12 1 0 h Z (qq Z F ?_ ?_)<;>intro F
  ·refine X0 4 Z ?_;obtain rfl:=qb F;replace F:=L;exact rb h F Z
  refine X0 7 Z ?_;replace h:=h.p [2,3,4,5] Z;exact rK ⟨_,F,rfl,h⟩ Z
 refine qw Z ?_;obtain rfl:=qb F;replace F:=L;exact X0 4 Z (rb h F Z)
end Go.Fw


namespace Go.Fw
open Go
set_option maxRecDepth 100000
def InsS(d:qh)(x:List qz):Prop:=(x.length=d.Ab.length/\∀i,i<d.Ab.length->(gt x i).Ai=(gt d.Ab i).Ai)/\∀y,y∈x->qlI y
theorem InsS.ok{b:qe}{x:List qz}(a:InsS b.Aa x)(h:BlkO b):BlkO ⟨⟨b.Ah.Aj⟩,⟨x,b.Aa.Ai,b.Aa.Af⟩,b.Ac⟩:=
  ⟨⟨h.ok.Ah,⟨⟨by show x.length<=_;rw[a.1.1];exact h.ok.Aa.Ab.1,a.2⟩,h.ok.Aa.Ai,h.ok.Aa.Af⟩,h.ok.Ac⟩,
   ⟨by show x.length<=_;rw[a.1.1];exact h.sm.ni,h.sm.nn,h.sm.np,fun i hi=>by
      have hi:i<x.length:=hi;show 2<=(gt x i).Ai.length/\(gt x i).Ai.length<=5;rw[a.1.2 i (by rw[<-a.1.1];exact hi)];exact h.sm.nx i (by rw[<-a.1.1];exact hi)⟩⟩
theorem qvS{b:qe}(g:BlkO b):∀(d j:Nat) (x:List qz),j+d=b.Aa.Ab.length->InsS b.Aa x->EvQ (fun n=>qa5 b n x (j:Int)) (fun o=>InsS b.Aa o.1):=by
  have k:=g.sm.ni;intro d
  induction d with
  |zero=>
    intro j x h c;refine EvQ.succ ?_;simp only[qa5];exact EvQ.ff (qn (by omega)) (EvQ.done c)
  |succ d ih=>
    intro j x h c;have a:j<x.length:=by have:=c.1.1;omega
    refine EvQ.succ ?_;simp only[qa5,wS j];refine EvQ.tt (ql (by omega)) (EvQ.bindN (qbC a) (EvQ.bind (R:=fun _=>True) (EvQ.bif (fun _=>EvQ.done trivial) (fun _=>EvQ.done trivial)) (fun b3 _=>EvQ.bif (fun _=>EvQ.bindN (qbC a) (ih (j+1) _ (by omega) ?_)) (fun _=>ih (j+1) x (by omega) c))));have f:=c.2 _ (jo a);refine⟨⟨by rw[qaL];exact c.1.1,fun i hi=>?_⟩,qhL c.2 ⟨f.Ba,qoi (x:=7) (by decide) (by decide),f.Ai⟩⟩;rw[qkP a];split
    · rename_i e;subst e;rw[<-c.1.2 i hi,qdA a]
    · exact c.1.2 i hi
section
variable{code:List (IntK .u8)}
theorem qs4(b:CodeOk code):EvQ (fun n=>qem n code) (fun o=>BlkO o.1/\qpE o.2.1/\okL okI o.2.2.1):=by
  obtain⟨s,i,a⟩:=qrL b;unfold qem;refine EvQ.bindE i ?_;dsimp only;refine EvQ.bind (qqA b a) ?_;rintro⟨f,T,W⟩ ⟨c,a⟩;dsimp only at c a⊢;refine EvQ.bind (R:=fun o:Int×Int×Bool=>SrcI code o.1 o.2.1) (EvQ.bind (qaJ 2 b a) ?_) ?_
  · rintro⟨P,Q,S⟩ ⟨_,a⟩
    exact EvQ.bif (fun _=>EvQ.bindE (qjI c.ok) (EvQ.done a)) (fun _=>EvQ.done a)
  rintro⟨X,Y,b1⟩ a;dsimp only at a⊢;refine EvQ.bind (R:=fun x=>InsS f.Aa x) (EvQ.bif (fun _=>EvQ.bind (qvS c f.Aa.Ab.length 0 f.Aa.Ab (by omega) ⟨⟨rfl,fun _ _=>rfl⟩,c.ok.Aa.Ab.2⟩) (fun o k=>EvQ.done k)) (fun _=>EvQ.done ⟨⟨rfl,fun _ _=>rfl⟩,c.ok.Aa.Ab.2⟩)) ?_;intro x1 l;have d:=l.ok c;refine EvQ.bind (qtn d b a) ?_;rintro⟨r3,e,i7⟩ ⟨g,a⟩;dsimp only at g a⊢;refine EvQ.bind (qaJ 50 b a) ?_;rintro⟨i8,i9,m⟩ ⟨_,a⟩;refine EvQ.bind (qaJ 50 b a) ?_;rintro⟨p,r,t⟩ ⟨_,a⟩;refine EvQ.bind (qaJ 24 b a) ?_;rintro⟨u,v,y⟩ ⟨_,a⟩;refine EvQ.bind (qaJ 24 b a) ?_;rintro⟨z,A,B⟩ ⟨_,a⟩;dsimp only at a⊢;refine EvQ.bind (R:=fun o:Int×Int×Int=>SrcI code o.1 o.2.1) (EvQ.bif (fun _=>EvQ.bind (qaJ 2 b a) ?_) (fun _=>EvQ.done a)) ?_
  · rintro⟨M,N,O⟩ ⟨_,a⟩
    exact EvQ.done a
  rintro⟨C,D,F⟩ a;dsimp only at a⊢;refine EvQ.bind (qtE b a) ?_;rintro⟨r4,H,I⟩ ⟨h,a⟩;dsimp only at h a⊢;refine EvQ.bind (qaJ 50 b a) ?_;rintro⟨J,K,L⟩ ⟨_,a⟩;exact EvQ.done ⟨d,h,g⟩
end
theorem quJ{f:Nat->qk->qk×qk}{ls:List qu}{lv:List Bool}{xs:List qx}{M:Nat}:∀(R:List Nat) (t c:qF),(∀k,k∈R->k<M)->(t.Au.length=M/\t.Am.length=M)->(∀k,gt t.Au k=true->spanB (gt t.Am k)=true)->rnO f ls lv xs R t=V c->∀k,gt c.Au k=true->spanB (gt c.Am k)=true:=by
  intro R
  induction R with
  |nil=>intro t c _ _ d e;obtain rfl:=Option.some.inj e;exact d
  |cons k R ih=>
    intro t c g b d e;have a:=fun i hi=>g i (jr k hi);unfold rnO at e;cases h1:(ndS f ls lv t (k:Int) (srcV (srcO xs (k:Int))) ls.length).1
    · rw[h1] at e
      exact ih _ _ a b d e
    · rw[h1] at e
      cases h2:spanB (ndS f ls lv t (k:Int) (srcV (srcO xs (k:Int))) ls.length).2.Am
      · rw[h2] at e;cases e
      · rw[h2] at e
        have l:=g k (jx ..);refine ih _ _ a ⟨by show(setS _ _ _).length=_;rw[qaL];exact b.1,by show(setS _ _ _).length=_;rw[qaL];exact b.2⟩ (fun i hi=>?_) e;have hi:gt (setS t.Au (k:Int) _) i=true:=hi;show spanB (gt (setS t.Am (k:Int) _) i)=true;rw[qkP (by rw[b.1];exact l)] at hi;rw[qkP (by rw[b.2];exact l)];by_cases h:i=k
        · rw[if_pos h];exact h2
        · rw[if_neg h] at hi⊢;exact d i hi
theorem qlV{s:qk}(h:spanB s=true):s.Av<=1000000000:=by
  unfold spanB at h;simp only[jf,qbd] at h;omega
theorem qt9{t:qF}(h:∀k,gt t.Au k=true->spanB (gt t.Am k)=true){m:Nat}(c:(winO t m).2=true):0<=lnkV t m/\lnkV t m<=1000000000:=by
  unfold lnkV;rw[c];show 0<=maxB (winO t m).1.Av 0/\maxB (winO t m).1.Av 0<=1000000000;have:(winO t m).1.Av<=1000000000:=by
    unfold winO at c⊢;cases h1:gt t.Au m<;>cases h2:gt t.Au (m+1)
    · rw[h1,h2] at c;cases c
    · exact qlV (h _ h2)
    · exact qlV (h _ h1)
    · have a:=qlV (h _ h1)
      have b:=qlV (h _ h2);show(hullS (gt t.Am m) (gt t.Am (m+1))).Av<=1000000000;unfold hullS;dsimp only;split<;>omega
  unfold maxB;split<;>omega
theorem qtQ{q:Nat->Bool}{d:Nat->Int}:∀j,(∀k,k<j->d k<=5000000)->0<=thrN q d j/\thrN q d j<=5000000:=by
  intro j
  induction j with
  |zero=>intro _;exact⟨jT _,by show(0:Int)<=5000000;decide⟩
  |succ j ih=>
    intro h;have a:=ih fun k c=>h k (by omega);have b:=h j (by omega);unfold thrN;cases q j
    · exact a
    · show 0<=maxB (thrN q d j) (d j)/\maxB (thrN q d j) (d j)<=5000000
      unfold maxB;split<;>omega
section
variable{ε:Type}{P:ε->Prop}{g:ε->ε}
theorem qtd{f bad:Nat->Bool}{mk:Nat->ε}:∀(m j:Nat) (a l:List ε),(∀k,j<=k->k<j+m->f k=true->bad k=false->P (mk k))->(∀x,x∈a->P x)->innI f bad mk m j a=V l->∀x,x∈l->P x:=by
  intro m
  induction m with
  |zero=>intro j a l _ c e;obtain rfl:=Option.some.inj e;exact c
  |succ m ih=>
    intro j a l d c e;unfold innI at e;cases h1:f j
    · rw[h1] at e;exact ih _ _ _ (fun k b g=>d k (by omega) (by omega)) c e
    · rw[h1] at e
      cases b:bad j
      · rw[b] at e;exact ih _ _ _ (fun k b g=>d k (by omega) (by omega)) (qcg c (d j (je _) (by omega) h1 b)) e
      · rw[b] at e;cases e
theorem qtu{row:Nat->Option (List ε)}:∀(m j:Nat) (a l:List ε),(∀k,j<=k->k<j+m->∀r,row k=V r->∀x,x∈r->P x)->(∀x,x∈a->P x)->outI row m j a=V l->∀x,x∈l->P x:=by
  intro m
  induction m with
  |zero=>intro j a l _ c e;obtain rfl:=Option.some.inj e;exact c
  |succ m ih=>
    intro j a l d c e;unfold outI at e;cases h1:row j with
    |none=>rw[h1] at e;cases e
    |some r=>
      rw[h1] at e;refine ih _ _ _ (fun k f g=>d k (by omega) (by omega)) (fun x b=>?_) e;rcases List.mem_append.1 b with b|b
      · exact c x b
      · exact d j (je _) (by omega) r h1 x b
theorem qtI{c bad:Nat->Bool}{mk b:Nat->ε}(h:∀k,b k=g (mk k)):∀(m j:Nat) (a:List ε),innI c bad b m j (a.map g)=(innI c bad mk m j a).map (List.map g):=by
  intro m
  induction m with
  |zero=>intro j a;rfl
  |succ m ih=>
    intro j a;unfold innI;cases c j
    · exact ih _ _
    · cases bad j
      · have:=ih (j+1) (a++[mk j])
        rw[jJ,List.map_singleton,<-h] at this;exact this
      · rfl
theorem qsZ{row b:Nat->Option (List ε)}(h:∀k,b k=(row k).map (List.map g)):∀(m j:Nat) (a:List ε),outI b m j (a.map g)=(outI row m j a).map (List.map g):=by
  intro m
  induction m with
  |zero=>intro j a;rfl
  |succ m ih=>
    intro j a;unfold outI;rw[h j];cases row j with
    |none=>rfl
    |some r=>
      have:=ih (j+1) (a++r);rw[jJ] at this;exact this
end
def noSh(x:qB):qB:=⟨x.Bb,x.To,x.Bi,0⟩
structure LnkI(m:Nat)(period:Int)(x:qB):Prop where
  f:0<=x.Bb/\x.Bb<=(m:Int)-1
  t:0<=x.To/\x.To<=(m:Int)-1
  d:0<=x.Bi/\x.Bi<=100000
  s:x.Bu=period
section
variable{b:qe}{c:qC}{br:List Int}{a_open close period:Int}
theorem qvj{d:Nat->Int}{F:Nat->qk->qk×qk}{LV:List Bool}{R:List Nat}{f:Nat}:rowO b d F LV R 0 f=(rowO b d F LV R period f).map (List.map noSh):=by
  unfold rowO;cases ltT b F LV R f with
  |none=>rfl
  |some t=>exact qtI (g:=noSh) (mk:=mkL b d period f t) (fun _=>rfl) (lcN b) 0 []
theorem qmH(hb:qiw b)(hc:okS c.Ba)(O:br.length<=1048576){sy:qg}(hv:Ev (fun n=>qap n b c br a_open close period) (sy,0)) :
    prdB a_open close period=true/\lcN b<=12/\sy.Bd=lts a_open close (lcN b)/\sy.Bl.length<=60/\(∀x,x∈sy.Bl->LnkI (lcN b) period x)/\Ev (fun n=>qap n b c br a_open close 0) (⟨lts a_open close (lcN b),sy.Bl.map noSh⟩,0):=by
  have i1:=qoS hb;have i2:=qnH (c:=c) hc;have u:Ev (fun n=>(qg0 n b).bind fun r1=>bif (!r1) then V true else(qgm n c).bind fun r2=>V (!r2)) (!(blockB b&&cornerB c)):=by
    refine Ev.bind i1 ?_;cases blockB b
    · exact .done
    · exact Ev.ff Z (Ev.bind i2 .done)
  have N:∀{k:Int},k≠0->Ev (fun n=>qap n b c br a_open close period) (⟨[],[]⟩,k)->False:=fun {k} p h=>by
    have e:=hv.uniq h;injection e with e1 e2;exact p e2.symm
  cases h0:blockB b&&cornerB c
  · rw[h0] at u
    refine(N (k:=1) (by decide) ?_).elim;unfold qap;exact Ev.bind u (Ev.tt Z .done)
  rw[h0] at u;rw[jf] at h0;obtain⟨m,X⟩:=h0;have A:=qp7 (a_open:=a_open) (close:=close) (period:=period) m O;have K:=qol m;cases B:brB br (lkB b)&&prdB a_open close period
  · rw[B] at A
    refine(N (k:=2) (by decide) ?_).elim;unfold qap;exact Ev.bind u (Ev.ff Z (Ev.bind K (Ev.bind A (Ev.tt Z .done))))
  rw[B] at A;rw[jf] at B;obtain⟨B,o⟩:=B;have Y:prdB a_open close 0=true:=by
    unfold prdB at o⊢;simp only[jf] at o⊢;exact⟨o.1,o.2.1,by decide⟩
  have iZ:=qp7 (br:=br) (a_open:=a_open) (close:=close) (period:=0) m O;rw[B,Y] at iZ;have hs:=qgS m;have L:=ql9 m;have a:(((lchL b b.Aa.Ab.length).map (siteL b)).length:Int)=(lcN b:Int):=by rw[jp];rfl
  rcases Bool.eq_false_or_eq_true (decide ((lcN b:Int) > 12)) with h4|h4
  · refine(N (k:=3) (by decide) ?_).elim
    unfold qap;exact Ev.bind u (Ev.ff Z (Ev.bind K (Ev.bind A (Ev.ff Z (Ev.bind L (Ev.tt (by rw[a];exact h4) .done))))))
  have gO:=qoA (v:=viewV b) (br:=br) hs B;have W:=qq3 (lv:=lvJ b br) m qp2;have Q:(lvM b (lvJ b br)).length=lkB b:=qhm;have a7:=qj5 m;have I:=qpn (ls:=linksL b) (lv:=lvM b (lvJ b br)) (ps:=places b.Aa) (b:=b) (lo:=pre (load0 b) b.Ac.length) (de:=pre (exactL b) b.Ac.length) (ex:=[]) a7 Q Z;cases ho:ordL (linksL b) (lvM b (lvJ b br)) (ndB b) (ndB b) [] with
  |none=>
    have e:ordR (linksL b) (lvM b (lvJ b br)) (2*(places b.Aa).length)=([],false):=by unfold ordR;rw[ho]
    rw[e] at I;refine(N (k:=7) (by decide) ?_).elim;unfold qap;exact Ev.bind u (Ev.ff Z (Ev.bind K (Ev.bind A (Ev.ff Z (Ev.bind L (Ev.ff (by rw[a];exact h4) (Ev.bind gO (Ev.bind W (Ev.bind I (Ev.tt Z .done))))))))))
  |some R=>
    have e:ordR (linksL b) (lvM b (lvJ b br)) (2*(places b.Aa).length)=(ints R,true):=by unfold ordR;rw[ho]
    rw[e] at I;have s:OrdOk (lkB b) (frL (linksL b)) (toL (linksL b)) (lvL (lvM b (lvJ b br))) (ndB b) R:=qrW (ndB b) [] R (fun l1 k l2 e=>by cases l1<;>cases e) ho;have hRl:R.length=ndB b:=by have:=qoU (ndB b) [] R ho;simpa using this
    have hpl:=qaY (qY (qao m));have eM:ndB b=2*(places b.Aa).length:=rfl;obtain⟨d,hd⟩:=qtH m X;obtain⟨F,hF,a3⟩:=qra m X;have H:LsOk b c d F (lvM b (lvJ b br)) R:=
      { bl:=m,dl:=hd,fs:=hF,fi:=a3 [] (.inl Z),lv:=Q,rb:=fun k p=>(by obtain⟨i,hi,rfl⟩:=List.mem_iff_getElem.1 p;exact(s.at hi).1),rn:=fun j hj=>⟨(s.at hj).1,(s.at hj).2.1⟩,rl:=by omega }
    have T:=qqh (a_open:=a_open) (close:=close) (period:=period) H;have J:=qqh (a_open:=a_open) (close:=close) (period:=0) H;have C:=qsZ (g:=noSh) (row:=rowO b d F (lvM b (lvJ b br)) R period) (fun k=>qvj (period:=period) (f:=k)) (lcN b) 0 [];have C:outI (rowO b d F (lvM b (lvJ b br)) R 0) (lcN b) 0 []=(outI (rowO b d F (lvM b (lvJ b br)) R period) (lcN b) 0 []).map (List.map noSh):=C;rw[C] at J;have a6:lcN b<=12:=by have:=of_decide_eq_false h4;omega
    cases hq:outI (rowO b d F (lvM b (lvJ b br)) R period) (lcN b) 0 [] with
    |none=>
      rw[hq] at T;refine(N (k:=3) (by decide) ?_).elim;unfold qap;exact Ev.bind u (Ev.ff Z (Ev.bind K (Ev.bind A (Ev.ff Z (Ev.bind L (Ev.ff (by rw[a];exact h4) (Ev.bind gO (Ev.bind W (Ev.bind I (Ev.ff Z (Ev.bind T .done)))))))))))
    |some l=>
      rw[hq] at T J;by_cases hl:l.length<=60
      · have z:decide ((l.length:Int) > 60)=false:=by simp;omega
        have a4:decide (((l.map noSh).length:Int) > 60)=false:=by rw[jp];exact z
        have hu:(sy,(0:Int))=(⟨lts a_open close (lcN b),l⟩,0):=hv.uniq (by
          unfold qap;exact Ev.bind u (Ev.ff Z (Ev.bind K (Ev.bind A (Ev.ff Z (Ev.bind L (Ev.ff (by rw[a];exact h4) (Ev.bind gO (Ev.bind W (Ev.bind I (Ev.ff Z (Ev.bind T (Ev.ff z .done)))))))))))))
        obtain⟨rfl,-⟩:=Prod.mk.inj hu;refine⟨o,a6,rfl,hl,?_,?_⟩
        · refine qtu (P:=LnkI (lcN b) period) (lcN b) 0 [] l (fun f _ hf r S=>?_) (fun _ h=>by cases h) hq
          unfold rowO at S;cases ht:ltT b F (lvM b (lvJ b br)) R f with
          |none=>rw[ht] at S;cases S
          |some t=>
            rw[ht] at S;have hT:∀k,gt t.Au k=true->spanB (gt t.Am k)=true:=quJ (M:=ndB b) R (zTm (ndB b)) t H.rb ⟨qoJ.r,qoJ.a⟩ (fun k p=>by
              by_cases a5:k<ndB b
              · have:gt (List.replicate (ndB b) false) k=true:=p
                rw[qoO a5] at this;cases this
              · have:gt (List.replicate (ndB b) false) k=true:=p
                unfold gt at this;rw[jy,List.getElem?_eq_none (by rw[jP];omega)] at this;cases this) ht
            refine qtd (P:=LnkI (lcN b) period) (lcN b) 0 [] r (fun k _ p a8 y=>?_) (fun _ h=>by cases h) S;obtain⟨w0,w1⟩:=qt9 hT a8;obtain⟨t0,t1⟩:=qtQ (q:=thrQ b (glN b f)) (d:=d) (lkB b) (fun k p=>by
              obtain⟨D,⟨_,hD⟩,hE⟩:=qs6 (sl:=0) (mode:=1) m X (show k<(linksL b).length from p);rw[(hd k p).1.uniq hE];exact hD)
            have ev:vlN b d f t k=lnkV t (mN b k)+thrN (thrQ b (glN b f)) d (lkB b):=by unfold vlN;exact qT (by omega) (by omega)
            have y:decide (vlN b d f t k > 100000)=false:=y;have y:=of_decide_eq_false y;have hf:f<lcN b:=by omega
            have p:k<lcN b:=by omega
            exact⟨by show 0<=(f:Int)/\(f:Int)<=_;omega,by show 0<=(k:Int)/\(k:Int)<=_;omega,by show 0<=vlN b d f t k/\vlN b d f t k<=_;omega,rfl⟩
        · unfold qap
          exact Ev.bind u (Ev.ff Z (Ev.bind K (Ev.bind iZ (Ev.ff Z (Ev.bind L (Ev.ff (by rw[a];exact h4) (Ev.bind gO (Ev.bind W (Ev.bind I (Ev.ff Z (Ev.bind J (Ev.ff a4 .done))))))))))))
      · have z:decide ((l.length:Int) > 60)=true:=by simp;omega
        refine(N (k:=3) (by decide) ?_).elim;unfold qap;exact Ev.bind u (Ev.ff Z (Ev.bind K (Ev.bind A (Ev.ff Z (Ev.bind L (Ev.ff (by rw[a];exact h4) (Ev.bind gO (Ev.bind W (Ev.bind I (Ev.ff Z (Ev.bind T (Ev.tt z .done))))))))))))
end
theorem qsS{sy:qg}{period:Int}(h:0<=period/\period<=100000)(y:sy.Bd.length<=12)(r:∀x,x∈sy.Bd->0<=x.Cb/\x.Cb<=x.Ca/\x.Ca<=100000)(z:sy.Bl.length<=60)(s:∀x,x∈sy.Bl->LnkI sy.Bd.length period x) :
    Ev (fun n=>qgb n sy) true/\Ev (fun n=>qf7 n sy) true:=by
  have e:W64 ((sy.Bd.length:Int)-1)=(sy.Bd.length:Int)-1:=qT (by omega) (by omega);have c:∀{x lo hi:Int},lo<=x->x<=hi->inI x lo hi=true:=fun a b=>qbd.2 ⟨a,b⟩;have e1:decide ((sy.Bd.length:Int)<=12)=true:=decide_eq_true (by omega);have p:decide ((sy.Bl.length:Int)<=60)=true:=decide_eq_true (by omega);constructor
  · unfold qgb
    refine Ev.bind (b:=.nxt (sy.Bd.length:Int)) (loopF (Lf:=fun n (_:Unit) i=>qco sy n i) (fun _=>()) (len:=sy.Bd.length) (fun n=>?_) (fun j f X g=>?_)) ?_
    · simp only[qco,qn (je _),cond_false]
    · obtain⟨o,k,l⟩:=r _ (jo f)
      simp only[qco,ql f,cond_true,qbC f,jd,qcI,c o (Int.le_trans k l),c k l,wS j,jV,cond_false];exact g
    refine Ev.bind (b:=.nxt (sy.Bl.length:Int)) (loopF (Lf:=fun n (_:Unit) i=>qcq sy n i) (fun _=>()) (len:=sy.Bl.length) (fun n=>?_) (fun j f X g=>?_)) ?_
    · simp only[qcq,qn (je _),cond_false]
    · have d:=s _ (jo f)
      have m:=d.s;simp only[qcq,ql f,cond_true,qbC f,jd,qcI,e,c d.f.1 d.f.2,c d.t.1 d.t.2,c d.d.1 d.d.2,m,c h.1 h.2,wS j,jV,cond_false];exact g
    exact Ev.tt e1 (Ev.now (by rw[p]))
  · have v:∀n,qfT n sy.Bd=V (sy.Bd.length:Int):=fun _=>rfl
    unfold qf7;refine Ev.bind (b:=.nxt (sy.Bd.length:Int)) (loopF (Lf:=fun n (_:Unit) i=>qcr sy n i) (fun _=>()) (len:=sy.Bd.length) (fun n=>?_) (fun j f X g=>?_)) ?_
    · simp only[qcr,qn (je _),cond_false]
    · obtain⟨o,k,l⟩:=r _ (jo f)
      have t:decide (sy.Bd[j].Cb<0)=false:=by simpa using o
      have d2:decide (sy.Bd[j].Cb > sy.Bd[j].Ca)=false:=by simpa using k
      have u:decide (sy.Bd[j].Ca > 100000)=false:=by simpa using l
      simp only[qcr,ql f,cond_true,qbC f,jd,t,d2,u,wS j,cond_false];exact g
    refine Ev.bindN (v 0) (Ev.bind (b:=.nxt (sy.Bl.length:Int)) (loopF (Lf:=fun n (_:Unit) i=>qcp sy (sy.Bd.length:Int) n i) (fun _=>()) (len:=sy.Bl.length) (fun n=>?_) (fun j f X g=>?_)) ?_)
    · simp only[qcp,qn (je _),cond_false]
    · have d:=s _ (jo f)
      have m:=d.s;simp only[qcp,ql f,cond_true,qbC f,jd,qdP,e,c d.f.1 d.f.2,c d.t.1 d.t.2,c d.d.1 d.d.2,m,c h.1 h.2,wS j,jV,cond_false];exact g
    exact Ev.tt e1 (Ev.now (by rw[p]))
section
variable{code:List (IntK .u8)}
theorem qmq(y:rngL rng8 code):Ev (fun n=>qg7 n code) true:=by
  unfold qg7 qom;refine Ev.bindN Z (Ev.bif (fun _=>.done) (fun s=>?_));have s:code.length<=4096:=by have:=of_decide_eq_false s;omega
  obtain⟨⟨b,c,br,a_open,close,period⟩,v,h,l,a⟩:=qs4 (code:=code) ⟨by omega,y.2⟩;dsimp only at h l a;refine Ev.bind v ?_;dsimp only;obtain⟨⟨sy,k⟩,⟨r1,J⟩,C,hi⟩:=qnn (a_open:=a_open) (close:=close) (period:=period) h.ok l.Ba a.1;dsimp only at r1 J;refine Ev.bind hi (Ev.bind C ?_);dsimp only;refine Ev.bind (b:=false) (Ev.ff (by simp) (Ev.ff (by simp) (Ev.now (by simp)))) (Ev.ff Z (Ev.bif (fun _=>.done) (fun g=>?_)));have g:k=0:=by simpa using g
  subst g;obtain⟨B,z,e1,t,r,m⟩:=qmH h.ok l.Ba a.1 hi;have d:=B;unfold prdB at d;simp only[jf,qbd] at d;obtain⟨⟨p1,M⟩,⟨F,H⟩,I⟩:=d;have o:sy.Bd.length=lcN b:=by rw[e1];exact qhm
  obtain⟨K,L⟩:=qsS (sy:=sy) I (by omega) (fun x p=>by
    rw[e1] at p;unfold lts pre at p;obtain⟨i,_,rfl⟩:=List.mem_map.1 p;exact⟨p1,F,H⟩) t (by rw[o];exact r)
  refine Ev.bind (b:=false) (Ev.bind L (Ev.ff Z (Ev.bind K .done))) (Ev.ff Z (Ev.bind m ?_));dsimp only;refine Ev.bind (b:=false) (Ev.ff (by simp) (Ev.now (by simp))) (Ev.ff Z ?_);refine Ev.bind (b:=.nxt (sy.Bl.length:Int)) (loopF (Lf:=fun n (_:Unit) i=>qcb period sy ⟨lts a_open close (lcN b),sy.Bl.map noSh⟩ n i) (fun _=>()) (len:=sy.Bl.length) (fun n=>?_) (fun j f X D=>?_)) .done
  · simp only[qcb,qn (je _),cond_false]
  · have u:=(r _ (jo f)).s
    have A:idx (sy.Bl.map noSh) (j:Int)=V (noSh sy.Bl[j]):=by rw[qbC (by rw[jp];exact f),List.getElem_map]
    simp only[qcb,ql f,cond_true,qbC f,A,jd,u,noSh,bne_self_eq_false,wS j,cond_false];exact D
end
end Go.Fw
