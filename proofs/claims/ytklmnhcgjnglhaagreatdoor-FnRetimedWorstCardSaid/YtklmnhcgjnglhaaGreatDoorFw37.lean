/- The prover's own layer over the model: typed readings of memory, a small separation list, and a run with a stack of code that is left. -/
import Derived.WalkKit
import Derived.KernelRfl
import Derived.OrdersHeld
import Derived.Deep.Quiet
import Derived.ProofKit
import Derived.ReadAgain
import Derived.IntWalk
import Derived.Laws.BytesString
open Option renaming some->V, none->U
open Bool renaming and_eq_true->je, eq_iff_iff->jp, not_eq_true'->jC, true->An, false->Cd, cond_true->Ci, cond_false->Cj
open Nat renaming le_refl->jf, le_of_ble_eq_true->js, mul_le_mul_right->jt, lt_of_lt_of_le->jx, succ_mul->jP, zero_le->jW, le_trans->Ja, zero_add->Jg, not_lt_zero->Jm, add_zero->Jp
open List renaming length_append->jg, length_singleton->jh, getElem?_eq_getElem->jj, getElem_mem->jm, length_map->jo, mem_cons_of_mem->jr, mem_cons_self->ju, append_assoc->jv, take_succ_eq_append_getElem->jw, length_take->jy, getD_eq_getElem?_getD->jz, getElem?_append_left->jA, mem_of_getElem?->jB, getElem?_append_right->jD, drop_eq_getElem_cons->jF, length_replicate->jJ, getElem?_take->jK, mem_append_left->jM, all_eq_true->jR, eq_nil_of_length_eq_zero->jT, getElem?_toArray->jV, map_append->jY, append_nil->Jb, size_toArray->Jd, getElem?_drop->Je, getElem_of_mem->Ji, map_cons->Jj, length_cons->Jn, ext_getElem->Jo
open Go.Result renaming andThen_ok->ji
open Go.Sem renaming run_bind->jk, run_pure->jn
open Int renaming toNat_natCast->jq, mul_le_mul_of_nonneg_right->jG, le_refl->jL, tdiv_eq_ediv_of_nonneg->jO, mul_assoc->Jc, mul_le_mul->Jf, le_trans->Jh
open Array renaming getElem?_append_left->jE

namespace Go.Fw
theorem Z.{u} {α:Sort u} {a:α}:a=a:=rfl
theorem G:True:=trivial
open Go
abbrev vp(b:Nat):Value:=.pointer (V ⟨b,0,U⟩)
abbrev vi(x:Int):Value:=.int .i64 x
abbrev oL{α:Type}(p:Option Addr)(l:List α)(k:Nat):Value:=.slice p l.length k
theorem z8{α0 α1 α2 α3 α4 α5 α6 α7:Type}{a0:α0}{a1:α1}{a2:α2}{a:α3}{b:α4}{c:α5}{d:α6}{f:α7}:a0=a0/\a1=a1/\a2=a2/\a=a/\b=b/\c=c/\d=d/\f=f:=⟨rfl,rfl,rfl,rfl,rfl,rfl,rfl,rfl⟩
theorem z9{α0 α1 α2 α3 α4 α5 α6 α7 α8:Type}{a0:α0}{a1:α1}{a2:α2}{a:α3}{b:α4}{c:α5}{d:α6}{f:α7}{g:α8}:a0=a0/\a1=a1/\a2=a2/\a=a/\b=b/\c=c/\d=d/\f=f/\g=g:=⟨rfl,rfl,rfl,rfl,rfl,rfl,rfl,rfl,rfl⟩
class qm (α:Type) where
  k:Nat
  agg:Bool
  zero:α
  zc:List Value
  R:World->(Nat->Prop)->α->List Value->Prop
  O:World->(Nat->Prop)->α->List Value->Prop
  kpos:0<k
  noagg:agg=Cd->k=1
  len:∀{w S x cs},R w S x cs->cs.length=k
  one:∀{w S x cs},R w S x cs->∀c∈cs,c.oneCell'=An
  loc:∀{w w' S x cs},R w S x cs->(∀b,S b->w'.heap[b]?=w.heap[b]?)->R w' S x cs
  mono:∀{w S S' x cs},R w S x cs->(∀b,S b->S' b)->R w S' x cs
  toR:∀{w S x cs},O w S x cs->R w S x cs
  locO:∀{w w' S x cs},O w S x cs->(∀b,S b->w'.heap[b]?=w.heap[b]?)->O w' S x cs
  monoO:∀{w S S' x cs},O w S x cs->(∀b,S b->S' b)->O w S' x cs
  zO:∀w S,O w S zero zc
def qeR(agg:Bool)(cs:List Value):Value:=
  match agg with
  |true=>.agg cs.toArray
  |false=>cs.headD undef
abbrev qm.v(α:Type)[qm α](cs:List Value):Value:=qeR (qm.agg α) cs
abbrev gv{α:Type}[qm α](_:α)(cs:List Value):Value:=qm.v α cs
instance qV:qm Int where
  k:=1
  agg:=Cd
  zero:=0
  zc:=[.int .i64 0]
  R _ _ x cs:=cs=[.int .i64 x]
  O _ _ x cs:=cs=[.int .i64 x]
  kpos:=by decide
  noagg _:=rfl
  len h:=by subst h;rfl
  one h:=by subst h;simp[Value.oneCell']
  loc h _:=h
  mono h _:=h
  toR h:=h
  locO h _:=h
  monoO h _:=h
  zO _ _:=rfl
instance uA:qm Bool where
  k:=1
  agg:=Cd
  zero:=Cd
  zc:=[.bool Cd]
  R _ _ x cs:=cs=[.bool x]
  O _ _ x cs:=cs=[.bool x]
  kpos:=by decide
  noagg _:=rfl
  len h:=by subst h;rfl
  one h:=by subst h;simp[Value.oneCell']
  loc h _:=h
  mono h _:=h
  toR h:=h
  locO h _:=h
  monoO h _:=h
  zO _ _:=rfl
instance wX:qm ByteArray where
  k:=1
  agg:=Cd
  zero:=ByteArray.empty
  zc:=[.string ByteArray.empty]
  R _ _ x cs:=cs=[.string x]
  O _ _ x cs:=cs=[.string x]
  kpos:=by decide
  noagg _:=rfl
  len h:=by subst h;rfl
  one h:=by subst h;simp[Value.oneCell']
  loc h _:=h
  mono h _:=h
  toR h:=h
  locO h _:=h
  monoO h _:=h
  zO _ _:=rfl
class eQ (α:Type) [qm α]:Prop where
  fl:∀{w w':World} {S S':Nat->Prop} {x:α} {cs:List Value},qm.R w S x cs->qm.O w' S' x cs
  det:∀{w w':World} {S S':Nat->Prop} {x:α} {cs cs':List Value},qm.R w S x cs->qm.R w' S' x cs'->cs=cs'
instance:eQ Int:=⟨λh=>h,λh h'=>Eq.trans h (Eq.symm h')⟩
instance:eQ Bool:=⟨λh=>h,λh h'=>Eq.trans h (Eq.symm h')⟩
instance:eQ ByteArray:=⟨λh=>h,λh h'=>Eq.trans h (Eq.symm h')⟩
section
variable{α:Type}[qm α]
def dG(w:World)(S:Nat->Prop)(xs:List α)(p:Option Addr)(c:Nat):Prop:=
  xs.length<=c/\c<=maxLen /\
  (((p=U\/c=0)/\xs=[]) \/
   ∃b o cur T fr,p=V ⟨b,o,U⟩/\S b/\w.heap[b]?=V (.cells cur T fr)/\o+c*qm.k α<=cur.size /\
     ∀i x,xs[i]?=V x->∃cs,qm.R w S x cs/\∀j v,cs[j]?=V v->cur[o+i*qm.k α+j]?=V v)
def WM(w:World)(S:Nat->Prop)(xs:List α)(p:Option Addr)(c:Nat):Prop:=
  xs.length<=c/\c<=maxLen /\
  ((p=U/\xs=[]/\c=0) \/
   ∃b cur T,∃F:Nat->Nat->Prop,p=V ⟨b,0,U⟩/\S b/\w.heap[b]?=V (.cells cur T (0,0))/\cur.size=c*qm.k α /\
     (∀i a,F i a->S a/\a≠b)/\(∀i j a,i≠j->F i a->¬ F j a) /\
     ∀i x,xs[i]?=V x->∃cs,qm.O w (F i) x cs/\∀j v,cs[j]?=V v->cur[i*qm.k α+j]?=V v)
theorem dG.loc{w w':World}{S:Nat->Prop}{xs:List α}{p c}(h:dG w S xs p c)(d:∀b,S b->w'.heap[b]?=w.heap[b]?):dG w' S xs p c:=by
  obtain⟨f,g,a⟩:=h;refine⟨f,g,?_⟩;rcases a with a|⟨b,o,cur,T,fr,rfl,hb,hg,hc,hx⟩
  · exact .inl a
  · refine .inr ⟨b,o,cur,T,fr,rfl,hb,by rw[d b hb];exact hg,hc,λi x hi=>?_⟩
    obtain⟨cs,l,k⟩:=hx i x hi;exact⟨cs,qm.loc l d,k⟩
theorem dG.mono{w:World}{S S':Nat->Prop}{xs:List α}{p c}(h:dG w S xs p c)(d:∀b,S b->S' b):dG w S' xs p c:=by
  obtain⟨f,g,a⟩:=h;refine⟨f,g,?_⟩;rcases a with a|⟨b,o,cur,T,fr,rfl,hb,hg,hc,hx⟩
  · exact .inl a
  · refine .inr ⟨b,o,cur,T,fr,rfl,d b hb,hg,hc,λi x hi=>?_⟩
    obtain⟨cs,l,k⟩:=hx i x hi;exact⟨cs,qm.mono l d,k⟩
theorem WM.toR{w:World}{S:Nat->Prop}{xs:List α}{p c}(h:WM w S xs p c):dG w S xs p c:=by
  obtain⟨f,g,d⟩:=h;refine⟨f,g,?_⟩;rcases d with⟨d,h4,_⟩|⟨b,cur,T,F,rfl,hb,hg,hc,hF,hd,hx⟩
  · exact .inl ⟨.inl d,h4⟩
  · refine .inr ⟨b,0,cur,T,(0,0),rfl,hb,hg,by omega,λi x hi=>?_⟩
    obtain⟨cs,m,l⟩:=hx i x hi;exact⟨cs,qm.mono (qm.toR m) (λa k=>(hF i a k).1),by simpa using l⟩
theorem WM.loc{w w':World}{S:Nat->Prop}{xs:List α}{p c}(h:WM w S xs p c)(f:∀b,S b->w'.heap[b]?=w.heap[b]?):WM w' S xs p c:=by
  obtain⟨g,k,d⟩:=h;refine⟨g,k,?_⟩;rcases d with d|⟨b,cur,T,F,rfl,hb,hg,hc,hF,hd,hx⟩
  · exact .inl d
  · refine .inr ⟨b,cur,T,F,rfl,hb,by rw[f b hb];exact hg,hc,hF,hd,λi x hi=>?_⟩
    obtain⟨cs,n,m⟩:=hx i x hi;exact⟨cs,qm.locO n (λa l=>f a (hF i a l).1),m⟩
theorem WM.mono{w:World}{S S':Nat->Prop}{xs:List α}{p c}(h:WM w S xs p c)(g:∀b,S b->S' b):WM w S' xs p c:=by
  obtain⟨k,l,d⟩:=h;refine⟨k,l,?_⟩;rcases d with d|⟨b,cur,T,F,rfl,hb,hg,hc,hF,hd,hx⟩
  · exact .inl d
  · exact .inr ⟨b,cur,T,F,rfl,g b hb,hg,hc,λi a f=>⟨g a (hF i a f).1,(hF i a f).2⟩,hd,hx⟩
end
instance bD{α:Type}[qm α]:qm (List α) where
  k:=1
  agg:=Cd
  zero:=[]
  zc:=[.slice U 0 0]
  R w S xs cs:=∃p c,cs=[.slice p xs.length c]/\dG w S xs p c
  O w S xs cs:=∃p c,cs=[.slice p xs.length c]/\WM w S xs p c
  kpos:=by decide
  noagg _:=rfl
  len h:=by obtain⟨p,c,rfl,_⟩:=h;rfl
  one h:=by obtain⟨p,c,rfl,_⟩:=h;simp[Value.oneCell']
  loc h hs:=by obtain⟨p,c,rfl,h⟩:=h;exact⟨p,c,rfl,h.loc hs⟩
  mono h hs:=by obtain⟨p,c,rfl,h⟩:=h;exact⟨p,c,rfl,h.mono hs⟩
  toR h:=by obtain⟨p,c,rfl,h⟩:=h;exact⟨p,c,rfl,h.toR⟩
  locO h hs:=by obtain⟨p,c,rfl,h⟩:=h;exact⟨p,c,rfl,h.loc hs⟩
  monoO h hs:=by obtain⟨p,c,rfl,h⟩:=h;exact⟨p,c,rfl,h.mono hs⟩
  zO w S:=⟨U,0,rfl,by simp,by simp,.inl ⟨rfl,rfl,rfl⟩⟩
instance K6{α:Type}[qm α]:qm (Option α) where
  k:=1
  agg:=Cd
  zero:=U
  zc:=[.pointer U]
  R w S p cs:=match p with
    |none=>cs=[.pointer U]
    |some x=>∃b o cur T fr ds,cs=[.pointer (V ⟨b,o,U⟩)]/\S b/\w.heap[b]?=V (.cells cur T fr)/\qm.R w S x ds/\∀j v,ds[j]?=V v->cur[o+j]?=V v
  O w S p cs:=match p with
    |none=>cs=[.pointer U]
    |some x=>∃b cur T,∃S':Nat->Prop,cs=[.pointer (V ⟨b,0,U⟩)]/\S b/\w.heap[b]?=V (.cells (List.toArray cur) T (0,0))/\qm.O w S' x cur/\∀a,S' a->S a/\a≠b
  kpos:=by decide
  noagg _:=rfl
  len {w S p cs} h:=by
    cases p with
    |none=>subst h;rfl
    |some x=>obtain⟨b,o,cur,T,fr,ds,rfl,_⟩:=h;rfl
  one {w S p cs} h:=by
    cases p with
    |none=>subst h;simp[Value.oneCell']
    |some x=>obtain⟨b,o,cur,T,fr,ds,rfl,_⟩:=h;simp[Value.oneCell']
  loc {w w' S p cs} h hs:=by
    cases p with
    |none=>exact h
    |some x=>
      obtain⟨b,o,cur,T,fr,ds,rfl,hb,hg,hr,hj⟩:=h
      exact⟨b,o,cur,T,fr,ds,rfl,hb,by rw[hs b hb];exact hg,qm.loc hr hs,hj⟩
  mono {w S S' p cs} h hs:=by
    cases p with
    |none=>exact h
    |some x=>
      obtain⟨b,o,cur,T,fr,ds,rfl,hb,hg,hr,hj⟩:=h
      exact⟨b,o,cur,T,fr,ds,rfl,hs b hb,hg,qm.mono hr hs,hj⟩
  toR {w S p cs} h:=by
    cases p with
    |none=>exact h
    |some x=>
      obtain⟨b,cur,T,S',rfl,hb,hg,hr,hj⟩:=h
      exact⟨b,0,cur.toArray,T,(0,0),cur,rfl,hb,hg,qm.mono (qm.toR hr) (λa ha=>(hj a ha).1),by simp⟩
  locO {w w' S p cs} h hs:=by
    cases p with
    |none=>exact h
    |some x=>
      obtain⟨b,cur,T,S',rfl,hb,hg,hr,hj⟩:=h
      exact⟨b,cur,T,S',rfl,hb,by rw[hs b hb];exact hg,qm.locO hr (λa ha=>hs a (hj a ha).1),hj⟩
  monoO {w S S' p cs} h hs:=by
    cases p with
    |none=>exact h
    |some x=>
      obtain⟨b,cur,T,S',rfl,hb,hg,hr,hj⟩:=h
      exact⟨b,cur,T,S',rfl,hs b hb,hg,hr,λa ha=>⟨hs a (hj a ha).1,(hj a ha).2⟩⟩
  zO _ _:=rfl
structure Ch where
  S:Nat->Prop
  D:Nat->Prop
  P:World->Prop
  loc:∀w w',(∀b,S b->w'.heap[b]?=w.heap[b]?)->(∀b,D b->w'.heap[b]?=w.heap[b]?)->P w->P w'
def Ch.box(b:Nat)(cs:List Value)(T:TypeId):Ch where
  S a:=a=b
  D _:=False
  P w:=w.heap[b]?=V (.cells cs.toArray T (0,0))
  loc w w' h _ hp:=by rw[h b rfl];exact hp
def Ch.own{α:Type}[qm α](S:Nat->Prop)(x:α)(cs:List Value):Ch where
  S:=S
  D _:=False
  P w:=qm.O w S x cs
  loc _ _ h _ hp:=qm.locO hp h
def old(w:World)(b:Nat):Prop:=b<w.heap.size
def mT(w w':World)(b:Nat):Prop:=w.heap.size<=b/\b<w'.heap.size
open Go.RowKit (Below)
structure SH(w0 w:World)(L:List Ch):Prop where
  below:Below w0.heap.size w0 w
  holds:∀c∈L,c.P w/\∀b,c.S b->mT w0 w b
  elder:∀c∈L,∀b,c.D b->b<w0.heap.size
  apart:L.Pairwise λc d=>∀b,c.S b->¬ d.S b
theorem SH.start(w:World):SH w w []:=⟨Below.refl _ _,by simp,by simp,.nil⟩
section
variable{w0 w w':World}{L:List Ch}
theorem SH.mem{c:Ch}{i:Nat}(h:SH w0 w L)(hi:L[i]?=V c):c.P w/\∀b,c.S b->mT w0 w b:=
  h.holds c (jB hi)
theorem SH.ext(h:SH w0 w L)(d:Below w.heap.size w w'):SH w0 w' L:=by
  refine⟨h.below.trans (d.mono h.below.size),λc g=>?_,h.elder,h.apart⟩;obtain⟨i,f⟩:=h.holds c g;refine⟨c.loc w w' (λb a=>d.block b (f b a).2) (λb k=>d.block b (jx (h.elder c g b k) h.below.size)) i,λb a=>⟨(f b a).1,?_⟩⟩;have:=(f b a).2;have:=d.size;omega
theorem SH.add{c:Ch}(h:SH w0 w L)(n:Below w.heap.size w w')(o:c.P w')(g:∀b,c.S b->mT w w' b)(m:∀b,c.D b->b<w0.heap.size):SH w0 w' (c::L):=by
  have l:=h.ext n;refine⟨l.below,λd a=>?_,λd a=>?_,?_⟩
  · rcases List.mem_cons.1 a with rfl|a
    · refine⟨o,λb f=>⟨?_,(g b f).2⟩⟩
      have:=(g b f).1;have:=h.below.size;omega
    · exact l.holds d a
  · rcases List.mem_cons.1 a with rfl|a
    · exact m
    · exact h.elder d a
  · refine List.pairwise_cons.2 ⟨λd a b i k=>?_,h.apart⟩
    have p:=(g b i).1;have r:=((h.holds d a).2 b k).2;omega
theorem SH.alloc(h:SH w0 w L)(cs:List Value)(T:TypeId):SH w0 (w.alloc (.cells cs.toArray T)) (Ch.box w.heap.size cs T::L):=by
  refine h.add ((Below.refl _ _).alloc (jf _) _) ?_ ?_ (λ_ c=>c.elim)
  · exact heap_alloc_new w _
  · intro b a
    have:b=w.heap.size:=a;subst this;exact⟨jf _,by simp⟩
theorem SH.upd{c c':Ch}{i:Nat}(h:SH w0 w L)(hi:L[i]?=V c)(W:w'.os=w.os)(A:w'.tape=w.tape)(N:w'.output=w.output)(o:w.heap.size<=w'.heap.size)
    (S:∀b,b<w.heap.size->¬ c.S b->w'.heap[b]?=w.heap[b]?) (hp:c'.P w') (Q:∀b,c'.S b->c.S b\/mT w w' b) (Y:∀b,c'.D b->b<w0.heap.size):SH w0 w' (L.set i c'):=by
  obtain⟨a3,t⟩:=h.mem hi;have l:∀(j:Nat) (d:Ch),L[j]?=V d->j≠i->∀b,d.S b->¬ c.S b:=by
    intro j d K z b g H;have O:=List.pairwise_iff_getElem.1 h.apart;obtain⟨J,I⟩:=List.getElem?_eq_some_iff.1 hi;obtain⟨M,f⟩:=List.getElem?_eq_some_iff.1 K;rcases Nat.lt_or_gt_of_ne z with s|s
    · have:=O j i M J s
      rw[I,f] at this;exact this b g H
    · have:=O i j J M s
      rw[I,f] at this;exact this b H g
  refine⟨⟨W.trans h.below.os,A.trans h.below.tape,N.trans h.below.output,Ja h.below.size o,λk X=>?_⟩,?_,?_,?_⟩
  · rw[S k (jx X h.below.size) (λy=>by have:=(t k y).1;omega)]
    exact h.below.block k X
  · intro d T
    obtain⟨j,K,f⟩:=Ji T;have v:j<L.length:=by simpa using K
    rw[List.getElem_set] at f;split at f
    · subst f
      refine⟨hp,λb u=>?_⟩;rcases Q b u with m|m
      · exact⟨(t b m).1,jx (t b m).2 o⟩
      · exact⟨Ja h.below.size m.1,m.2⟩
    · rename_i z
      have r:L[j]?=V d:=by rw[jj v,f]
      obtain⟨m,P⟩:=h.mem r;refine⟨d.loc w w' (λb g=>S b (P b g).2 (l j d r (Ne.symm z) b g)) (λb g=>?_) m,λb g=>⟨(P b g).1,jx (P b g).2 o⟩⟩;have s:=h.elder d (jB r) b g;exact S b (jx s h.below.size) (λy=>by have:=(t b y).1;omega)
  · intro d T
    obtain⟨j,K,f⟩:=Ji T;have v:j<L.length:=by simpa using K
    rw[List.getElem_set] at f;split at f
    · subst f;exact Y
    · exact h.elder d (f ▸ jm v)
  · rw[List.pairwise_iff_getElem]
    intro a b e u R x p n;have B:a<L.length:=by simpa using e
    have D:b<L.length:=by simpa using u
    rw[List.getElem_set] at p n;split at p
    · rename_i hai
      split at n
      · omega
      · have F:L[b]?=V L[b]:=jj D
        rcases Q x p with m|m
        · exact l b _ F (by omega) x n m
        · have:=((h.mem F).2 x n).2
          have:=m.1;omega
    · rename_i hai
      have C:L[a]?=V L[a]:=jj B;split at n
      · rename_i hbi
        rcases Q x n with m|m
        · exact l a _ C (by omega) x p m
        · have:=((h.mem C).2 x p).2
          have:=m.1;omega
      · exact List.pairwise_iff_getElem.1 h.apart a b B D R x p n
theorem SH.sub{M:List Ch}(h:SH w0 w L)(b:M.Sublist L):SH w0 w M:=
  ⟨h.below,λc a=>h.holds c (b.subset a),λc a=>h.elder c (b.subset a),h.apart.sublist b⟩
theorem SH.old{α:Type}[qm α]{x:α}{cs:List Value}(h:SH w0 w L)(c:qm.R w0 (old w0) x cs):qm.R w (Fw.old w) x cs:=
  qm.mono (qm.loc c (λb a=>h.below.block b a)) (λ_ a=>jx a h.below.size)
theorem SH.own{α:Type}[qm α]{x:α}{cs:List Value}{S:Nat->Prop}(i:Nat)(h:SH w0 w L)(hi:L[i]?=V (Ch.own S x cs)):qm.R w (Fw.old w) x cs:=
  qm.mono (qm.toR (h.mem hi).1) (λb a=>((h.mem hi).2 b a).2)
def IM(L:List Ch):List Nat->List Ch
  | []=>[]
  |i::is=>match L[i]? with
    |some c=>c::IM L is
    |none=>IM L is
def LF:List Nat->Bool
  | []=>An
  |i::is=>is.all (λj=>!(Nat.beq i j))&&LF is
theorem tT{c:Ch}:∀{is:List Nat},c∈IM L is->∃i∈is,L[i]?=V c
  | [],h=>by cases h
  |i::is,h=>by
    simp only[IM] at h;split at h
    · rename_i d hd
      rcases List.mem_cons.1 h with rfl|h
      · exact⟨i,by simp,hd⟩
      · obtain⟨j,b,a⟩:=tT h;exact⟨j,by simp[b],a⟩
    · obtain⟨j,b,a⟩:=tT h;exact⟨j,by simp[b],a⟩
theorem SH.p(is:List Nat)(h:SH w0 w L)(p:LF is=An):SH w0 w (IM L is):=by
  refine⟨h.below,λc a=>?_,λc a=>?_,?_⟩
  · obtain⟨i,_,hi⟩:=tT a;exact h.mem hi
  · obtain⟨i,_,hi⟩:=tT a;exact h.elder c (jB hi)
  · induction is with
    |nil=>exact .nil
    |cons i is m=>
      simp only[LF,je,jR,jC] at p;have m:=m p.2;simp only[IM];split
      · rename_i c a
        refine List.pairwise_cons.2 ⟨λd s b f g=>?_,m⟩;obtain⟨j,t,o⟩:=tT s;have r:i≠j:=by
          intro n;have:=p.1 j t;rw[n,Nat.beq_refl] at this;cases this
        obtain⟨k,rfl⟩:=List.getElem?_eq_some_iff.1 a;obtain⟨l,rfl⟩:=List.getElem?_eq_some_iff.1 o;rcases Nat.lt_or_gt_of_ne r with hlt|hlt
        · exact List.pairwise_iff_getElem.1 h.apart i j k l hlt b f g
        · exact List.pairwise_iff_getElem.1 h.apart j i l k hlt b g f
      · exact m
end
end Go.Fw


namespace Go.Fw
open Go
abbrev fL:=List (Nat×Value)
def fL.get:fL->Nat->Option Value
 | [],_=>U
 |p::e,j=>match Nat.beq p.1 j with
  |true=>V p.2
  |false=>fL.get e j
theorem KK{a b:Nat}(h:Nat.beq a b=An):a=b:=Nat.eq_of_beq_eq_true h
theorem Y7(a:Nat):Nat.beq a a=An:=Nat.beq_refl a
def gq(e:fL):Operand->Option Value
 |.tmp t=>e.get t
 |.const v=>V v
 |.func f=>V (.func (.func f) #[] #[])
 |.global g=>V (.pointer (V ⟨g,0,U⟩))
structure gp(n:Nat)(e:fL)(a:Act):Prop where
 defers:a.defers=[]
 size:a.tmps.size=n
 at_:∀i v,e.get i=V v->a.tmps[i]?=V v
theorem gp.eval{n:Nat}{e:fL}{a:Act}(h:gp n e a){x:Operand}{v:Value}(b:gq e x=V v):a.eval x=v:=by
 cases x with
 |tmp t=>
  have:=h.at_ t v b;simp[Act.eval,Array.getD_eq_getD_getElem?,this]
 |const c=>simpa [gq,Act.eval] using b
 |global g=>simpa [gq,Act.eval] using b
 |func f=>simpa [gq,Act.eval] using b
theorem gp.put{n:Nat}{e:fL}{a:Act}(h:gp n e a){d:Nat}(g:Nat.blt d n=An)(v:Value):gp n ((d,v)::e) (a.put (V d) v):=by
 have f:d<n:=by simpa [Nat.blt_eq] using g
 refine⟨h.defers,by simp[Act.put,h.size],λi u hi=>?_⟩;simp only[fL.get] at hi;simp only[Act.put,Array.getElem?_setIfInBounds];by_cases b:d=i
 .subst b;have c:Nat.beq d d=An:=Y7 d;rw[c] at hi;simp only[Option.some.injEq] at hi;subst hi;simp[h.size,f]
 .have c:Nat.beq d i=Cd:=by
   cases hc:Nat.beq d i with
   |false=>rfl
   |true=>exact absurd (KK hc) b
  rw[c] at hi;rw[if_neg b];exact h.at_ i u hi
theorem gp.skip{n:Nat}{e:fL}{a:Act}(h:gp n e a)(v:Value):gp n e (a.put U v):=h
def HK(e:fL):fL->Prop
 | []=>True
 |p::l=>e.get p.1=V p.2/\HK e l
theorem gp.sub{n:Nat}{e e':fL}{a:Act}(h:gp n e a)(b:HK e e'):gp n e' a:=by
 refine⟨h.defers,h.size,?_⟩
 induction e' with
 |nil=>intro i v hi;cases hi
 |cons p l ih=>
  intro i v hi;simp only[fL.get] at hi;cases hb:Nat.beq p.1 i with
  |true=>
   rw[hb] at hi;simp only[Option.some.injEq] at hi;subst hi;have:p.1=i:=KK hb;subst this;exact h.at_ _ _ b.1
  |false=>
   rw[hb] at hi;exact ih b.2 i v hi
inductive It where
 |code (c:Code)
 |ops (all:Array Oper) (rest:List Oper)
 |blk (id:Nat)
 |goal (J:Act->World->Prop)
def post(P:Program)(Q:Exit->Act->World->Prop):List It->Exit->Act->World->Prop
 | []=>Q
 |.code c::k=>Exit.then (λa w=>c.wp P (post P Q k) a w) (post P Q k)
 |.ops all l::k=>Exit.then (λa w=>wpList P all (post P Q k) l a w) (post P Q k)
 |.blk id::k=>Exit.inBlock id (post P Q k)
 |.goal J::k=>Exit.then J (post P Q k)
def bx(P:Program)(n:Nat)(Q:Exit->Act->World->Prop)(k:List It)(e:fL)(w:World):Prop:=
 ∀a,gp n e a->post P Q k .normal a w
section
variable{P:Program}{n:Nat}{Q:Exit->Act->World->Prop}{k:List It}{e e':fL}{w w':World}
theorem qaY(e':fL)(c:HK e e')(h:bx P n Q k e' w):bx P n Q k e w:=λa b=>h a (b.sub c)
theorem aD{x y:Code}(h:bx P n Q (.code x::.code y::k) e w):bx P n Q (.code (.seq x y)::k) e w:=
 λa b=>wp_seq (h a b)
theorem eZ(h:bx P n Q k e w):bx P n Q (.code .skip::k) e w:=
 λa b=>wp_skip (h a b)
theorem qq{id:Nat}{c:Code}(h:bx P n Q (.code c::.blk id::k) e w):bx P n Q (.code (.block id c)::k) e w:=
 λa b=>wp_block (h a b)
theorem YV{id:Nat}(h:bx P n Q k e w):bx P n Q (.blk id::k) e w:=λa b=>h a b
def YU(id:Nat):List It->Option (List It)
 | []=>U
 |.blk i::k=>match Nat.beq id i with
  |true=>V k
  |false=>YU id k
 |_::k=>YU id k
theorem T6{id:Nat}{k d:List It}(b:YU id k=V d){a:Act}{w:World}(h:post P Q d .normal a w):post P Q k (.exit id) a w:=by
 induction k with
 |nil=>cases b
 |cons x k ih=>
  cases x with
  |blk i=>
   simp only[YU] at b;simp only[post,Exit.inBlock];cases hb:Nat.beq id i with
   |true=>
    rw[hb] at b;simp only[Option.some.injEq] at b;subst b;rw[if_pos (KK hb)];exact h
   |false=>
    rw[hb] at b;rw[if_neg (λf=>by rw[f,Y7 i] at hb;cases hb)];exact ih b
  |code c=>exact ih b
  |ops all l=>exact ih b
  |goal J=>exact ih b
theorem qy{id:Nat}{b:List It}(d:YU id k=V b)(h:bx P n Q b e w):bx P n Q (.code (.exit id)::k) e w:=
 λa c=>wp_exit (T6 d (h a c))
theorem qaS{k:List It}{a:Act}{w:World}(h:Q .ret a w):post P Q k .ret a w:=by
 induction k with
 |nil=>exact h
 |cons x k ih=>cases x<;>exact ih
theorem TB(h:∀a,gp n e a->Q .ret a w):bx P n Q (.code .ret::k) e w:=
 λa b=>wp_ret (qaS (h a b))
theorem qeq(h:∀a,gp n e a->Q .normal a w):bx P n Q [] e w:=h
theorem ah{id:Nat}{ops:List Oper}(h:bx P n Q (.ops ops.toArray ops::k) e w):bx P n Q (.code (.region id ops.toArray Cd)::k) e w:=by
 intro a b;have:=h a b;refine wp_region ?_;have c:=wpOps_eq_wpList (P:=P) (ops:=ops.toArray) (Q:=post P Q k) ops 0 (by simp);rw[show List.range ops.toArray.size=List.range' 0 ops.length from by simp[List.range_eq_range']];rw[c];exact this
theorem ae{all:Array Oper}(h:bx P n Q k e w):bx P n Q (.ops all []::k) e w:=λa b=>h a b
theorem vw{c:Operand}{x y:Code}{b:Bool}(f:gq e c=V (.bool b))(i:b=An->bx P n Q (.code x::k) e w)(g:b=Cd->bx P n Q (.code y::k) e w) :
  bx P n Q (.code (.cond c x y)::k) e w:=
 λa d=>wp_cond_split (d.eval f) (λh=>i h a d) (λh=>g h a d)
theorem dO{c:Operand}{x y:Code}{b:Bool}(g:gq e c=V (.bool b))(f:b=An)(h:bx P n Q (.code x::k) e w) :
  bx P n Q (.code (.cond c x y)::k) e w:=
 λa d=>wp_cond_true (by rw[d.eval g,f]) (h a d)
theorem bQ{c:Operand}{x y:Code}{b:Bool}(g:gq e c=V (.bool b))(f:b=Cd)(h:bx P n Q (.code y::k) e w) :
  bx P n Q (.code (.cond c x y)::k) e w:=
 λa d=>wp_cond_false (by rw[d.eval g,f]) (h a d)
open Classical in
theorem G7{c:Code}{a:Act}(Inv:Nat->Act->World->Prop)(m:Nat)(s:Inv m a w)
  (i:∀m a w,Inv m a w->c.wp P (Exit.then (λo w'=>∃b,b<m/\Inv b o w') Q) a w):(Code.loop c).wp P Q a w:=by
 have d:∀a w,(∃m,Inv m a w)->∃m,Inv m a w/\∀b,Inv b a w->m<=b:=by
  intro a w ⟨m,v⟩
  induction m using Nat.strongRecOn with
  |_ m ih=>
   by_cases h:∃b,b<m/\Inv b a w
   .obtain⟨b,t,u⟩:=h;exact ih b t u
   .exact⟨m,v,λb f=>Nat.le_of_not_lt λg=>h ⟨b,g,f⟩⟩
 refine wp_loop (λa w=>∃m,Inv m a w) (λa w=>if h:∃m,Inv m a w then Classical.choose (d a w h) else 0) ⟨m,s⟩ ?_;intro a w r;have x:=Classical.choose_spec (d a w r);refine wp_mono (i _ a w x.1) ?_;intro ex o w' k;cases ex with
 |normal=>
  obtain⟨b,g,f⟩:=k;refine⟨⟨b,f⟩,?_⟩;have n:∃m,Inv m o w':=⟨b,f⟩;have p:=Classical.choose_spec (d o w' n);rw[dif_pos n,dif_pos r];exact Nat.lt_of_le_of_lt (p.2 b f) g
 |exit id=>exact k
 |goto l=>exact k
 |ret=>exact k
 |panic c=>exact k
 |outgrown=>exact k
def qbr(n:Nat)(Inv:Nat->fL->World->Prop)(m:Nat)(a:Act)(w:World):Prop:=∃m' e,m'<m/\gp n e a/\Inv m' e w
theorem E7{b:Code}(Inv:Nat->fL->World->Prop)(m:Nat)(h:Inv m e w)
  (d:∀m e w,Inv m e w->bx P n Q (.code b::.goal (qbr n Inv m)::k) e w):bx P n Q (.code (.loop b)::k) e w:=by
 intro a g;refine G7 (λm a w=>∃e,gp n e a/\Inv m e w) m ⟨e,g,h⟩ ?_;rintro m a w ⟨e,g,r⟩;refine wp_mono (d m e w r a g) ?_;intro ex t w' f;cases ex with
 |normal=>obtain⟨s,e',i,o,p⟩:=f;exact⟨s,i,e',o,p⟩
 |exit id=>exact f
 |goto l=>exact f
 |ret=>exact f
 |panic c=>exact f
 |outgrown=>exact f
theorem E5{Inv:Nat->fL->World->Prop}{m:Nat}(a:Nat)(e':fL)(c:a<m)(d:HK e e')(h:Inv a e' w):bx P n Q (.goal (qbr n Inv m)::k) e w:=
 λ_ b=>⟨a,e',c,b.sub d,h⟩
theorem DZ{all:Array Oper}{o:Oper}{l:List Oper}{d:Nat}{v:Value}(f:o.guard=U)(c:o.dst=V d)(i:Nat.blt d n=An)
  (h:∀a,gp n e a->(execOp a.eval o).run P w=.ok (.value v) w') (g:bx P n Q (.ops all l::k) ((d,v)::e) w'):bx P n Q (.ops all (o::l)::k) e w:=by
 intro a b;show wpList P all (post P Q k) (o::l) a w;have m:Region.wanted o (yielded all a.tmps)=An:=by simp[Region.wanted,f]
 rw[wpList,if_pos m];refine .inl ?_;unfold Oper.wp;rw[h a b,Oper.upon_value,c];exact g _ (b.put i v)
theorem E8{all:Array Oper}{o:Oper}{l:List Oper}(d:o.guard=U)(c:o.dst=U)
  (h:∀a,gp n e a->(execOp a.eval o).run P w=.ok .skip w') (f:bx P n Q (.ops all l::k) e w'):bx P n Q (.ops all (o::l)::k) e w:=by
 intro a b;show wpList P all (post P Q k) (o::l) a w;have g:Region.wanted o (yielded all a.tmps)=An:=by simp[Region.wanted,d]
 rw[wpList,if_pos g];refine .inl ?_;unfold Oper.wp;rw[h a b,Oper.upon_skip,c];exact f _ b
theorem yB{all:Array Oper}{o:Oper}{l:List Oper}{d:Nat}{f:FuncId}{b:Array Value}{R:Value->World->Prop}(p:o.guard=U)(m:o.dst=V d)(s:Nat.blt d n=An)
  (h:∀a,gp n e a->(execOp a.eval o).run P w=.ok (.enter f b) w)
  (i:Calls P f b w λe w'=>∃v,e=.returned v/\R v w')
  (r:∀v w',R v w'->bx P n Q (.ops all l::k) ((d,v)::e) w'):bx P n Q (.ops all (o::l)::k) e w:=by
 intro a c;show wpList P all (post P Q k) (o::l) a w;have t:Region.wanted o (yielded all a.tmps)=An:=by simp[Region.wanted,p]
 rw[wpList,if_pos t];refine .inl ?_;unfold Oper.wp;rw[h a c,Oper.upon_enter];refine i.mono ?_;rintro e' w' ⟨v,rfl,g⟩;show wpList P all (post P Q k) l (a.put o.dst v) w';rw[m];exact r v w' g _ (c.put s v)
def AM(e:fL)(all:Array Oper)(o:Oper):Option Bool:=
 match o.guard with
 |none=>V An
 |some (j,want)=>
  match all[j]? with
  |none=>U
  |some p=>
   match p.dst with
   |none=>U
   |some t=>
    match e.get t with
    |some (.bool b)=>V (match b,want with|true,An=>An|false,Cd=>An|_,_=>Cd)
    |_=>U
theorem AN{all:Array Oper}{o:Oper}{a:Act}{b:Bool}(f:gp n e a)(h:AM e all o=V b):Region.wanted o (yielded all a.tmps)=b:=by
 unfold AM at h;unfold Region.wanted;split at h
 .rename_i hg
  rw[hg];simpa using h
 .rename_i j want hg
  rw[hg];simp only;split at h
  .cases h
  .rename_i p hp
   split at h
   .cases h
   .rename_i t ht
    split at h
    .rename_i c hc
     have d:=f.at_ t _ hc;have g:yielded all a.tmps j=V c:=by
      simp[yielded,hp,ht,d]
     rw[g];simp only[Option.some.injEq] at h;rw[<-h];cases c<;>cases want<;>rfl
    .cases h
theorem qaZ{all:Array Oper}{o:Oper}{l:List Oper}(h:AM e all o=V An)
  (f:bx P n Q (.ops all ({ o with guard:=U }::l)::k) e w):bx P n Q (.ops all (o::l)::k) e w:=by
 intro a c;have d:=f a c;show wpList P all (post P Q k) (o::l) a w;have b:wpList P all (post P Q k) ({ o with guard:=U }::l) a w:=d;have g:=AN c h;rw[wpList,if_pos g];rw[wpList,if_pos (by simp[Region.wanted])] at b;exact b
end

inductive TK where
 |int (k:IntKind)|bool|str|ptr|slice (e:Nat)|struct|arr (n e:Nat)|other
 deriving DecidableEq
structure TE where
 kind:TK
 size:Nat
 bytes:Nat
 zero:Option Value
 fields:List (Nat×Nat×Option Bool)
def TE.agg(t:TE):Bool:=match t.kind with|.struct=>An|.arr _ _=>An|_=>Cd
def UB(P:Program)(t:TypeId):Option Bool:=(P.underlying t).map λ|.struct _=>An|.array _ _=>An|_=>Cd
def qc9(P:Program)(t:TypeId):Bool:=match P.underlying t with|some (.struct _)|some (.array _ _)=>An|_=>Cd
def vf(P:Program)(t:TypeId):Option TE:=
 match P.info? t,P.underlying t with
 |some i,V d=>V {
   kind:=match d with|.int k=>.int k|.bool=>.bool|.string=>.str|.pointer _=>.ptr|.slice e=>.slice e|.struct _=>.struct|.array n e=>.arr n e|_=>.other
   size:=i.size
   bytes:=i.bytes
   zero:=i.zero
   fields:=match d with|.struct fs=>fs.toList.map (λf=>(f.offset,P.cellsOf f.type,UB P f.type))|_=>[] }
 |_,_=>U
abbrev vP:=List (Nat×TE)
def vP.get:vP->Nat->Option TE
 | [],_=>U
 |p::e,j=>match Nat.beq p.1 j with
  |true=>V p.2
  |false=>vP.get e j
def cE(P:Program)(T:vP):Prop:=∀t x,T.get t=V x->vf P t=V x
theorem cE.mk{P:Program}:∀{T:vP},T.map (λp=>vf P p.1)=T.map (λp=>V p.2)->cE P T
 | [],_=>λ_ _ h=>by cases h
 |p::T,h=>by
  simp only[Jj,List.cons.injEq] at h;intro t x a;simp only[vP.get] at a;cases hb:Nat.beq p.1 t with
  |true=>
   rw[hb] at a;simp only[Option.some.injEq] at a;rw[<-KK hb,h.1,a]
  |false=>
   rw[hb] at a;exact cE.mk h.2 t x a
section
variable{P:Program}{T:vP}
theorem ru{t:TypeId}{x:TE}(h:vf P t=V x):∃i,P.info? t=V i/\i.size=x.size/\i.bytes=x.bytes/\i.zero=x.zero:=by
 unfold vf at h;split at h
 .rename_i i d hi hd
  simp only[Option.some.injEq] at h;subst h;exact⟨i,hi,Z,Z,Z⟩
 .cases h
theorem pv{t:TypeId}{x:TE}(h:vf P t=V x):∃d,P.underlying t=V d/\x.kind=(match d with|.int k=>.int k|.bool=>.bool|.string=>.str|.pointer _=>.ptr|.slice e=>.slice e|.struct _=>.struct|.array n e=>.arr n e|_=>.other):=by
 unfold vf at h;split at h
 .rename_i i d hi hd
  simp only[Option.some.injEq] at h;subst h;exact⟨d,hd,Z⟩
 .cases h
theorem nq{t e:TypeId}{x:TE}(h:vf P t=V x)(c:x.kind=.slice e):P.underlying t=V (.slice e):=by
 obtain⟨d,b,a⟩:=pv h;rw[c] at a;rw[b];cases d<;>simp at a;rw[a]
theorem LJ{t:TypeId}{x:TE}(h:vf P t=V x)(c:x.kind=.str):P.underlying t=V .string:=by
 obtain⟨d,b,a⟩:=pv h;rw[c] at a;rw[b];cases d<;>simp at a
 rfl
theorem E4{t:TypeId}{x:TE}(h:vf P t=V x)(c:x.kind=.bool):P.underlying t=V .bool:=by
 obtain⟨d,b,a⟩:=pv h;rw[c] at a;rw[b];cases d<;>simp at a
 rfl
theorem SY{t:TypeId}{x:TE}{k:IntKind}(h:vf P t=V x)(c:x.kind=.int k):P.underlying t=V (.int k):=by
 obtain⟨d,b,a⟩:=pv h;rw[c] at a;rw[b];cases d<;>simp at a;rw[a]
theorem T7{t:TypeId}{x:TE}(h:vf P t=V x):qc9 P t=x.agg:=by
 obtain⟨d,a,b⟩:=pv h;unfold qc9 TE.agg;rw[a,b];cases d<;>rfl
theorem U3{t:TypeId}{x:TE}(h:vf P t=V x)(w:World):(isAgg t).run P w=.ok x.agg w:=by
 rw[<-T7 h];obtain⟨d,a,_⟩:=pv h;unfold isAgg qc9;simp only[jk,run_underlying a,ji,a];cases d<;>rfl
theorem vy{t:TypeId}{x:TE}(h:vf P t=V x)(w:World):(sizeOf t).run P w=.ok x.size w:=by
 obtain⟨i,hi,a,_⟩:=ru h;simp[sizeOf,typeInfo,hi,a]
theorem BC{t:TypeId}{x:TE}(h:vf P t=V x){f cQ k:Nat}{c:Option Bool}(g:x.fields[f]?=V (cQ,k,c)) :
  ∃fs a,P.underlying t=V (.struct fs)/\fs[f]?=V a/\a.offset=cQ/\P.cellsOf a.type=k/\UB P a.type=c:=by
 unfold vf at h;split at h
 .rename_i i d hi hd
  simp only[Option.some.injEq] at h;subst h;cases d<;>simp at g
  rename_i fs
  obtain⟨a,b,l,m,n⟩:=g;exact⟨fs,a,hd,by simpa using b,l,m,n⟩
 .cases h
def qdt(op:BinOp)(k:IntKind)(a b:Int):Option Value:=
 match op with
 |.add=>V (.int k (k.wrap (a+b)))
 |.sub=>V (.int k (k.wrap (a-b)))
 |.mul=>V (.int k (k.wrap (a*b)))
 |.eql=>V (.bool (a==b))
 |.neq=>V (.bool (a != b))
 |.lss=>V (.bool (decide (a<b)))
 |.leq=>V (.bool (decide (a<=b)))
 |.gtr=>V (.bool (decide (a > b)))
 |.geq=>V (.bool (decide (a>=b)))
 |.quo=>match b with
  |.ofNat (m+1)=>V (.int k (k.wrap (a.tdiv (.ofNat (m+1)))))
  |_=>U
 |.rem=>match b with
  |.ofNat (m+1)=>V (.int k (a.tmod (.ofNat (m+1))))
  |_=>U
 |_=>U
theorem qa2{op:BinOp}{k:IntKind}{a b:Int}{v:Value}(h:qdt op k a b=V v)(t:TypeId)(w:World):(binOp op t (.int k a) (.int k b)).run P w=.ok v w:=by
 cases op<;>simp only[qdt,Option.some.injEq] at h
 case quo=>
  split at h
  .simp only[Option.some.injEq] at h;subst h;rw[binOp];simp only[Op.intDiv,Int.ofNat_eq_natCast,ne_eq,not_true_eq_false,if_false];rw[if_neg (by omega)]
   rfl
  .cases h
 case rem=>
  split at h
  .simp only[Option.some.injEq] at h;subst h;rw[binOp];simp only[Op.intDiv,Int.ofNat_eq_natCast,ne_eq,not_true_eq_false,if_false];rw[if_neg (by omega)]
   rfl
  .cases h
 all_goals first
  |(subst h;simp[binOp,Op.intArith,Op.intCmp];done)
  |cases h
def qdb(op:BinOp)(a b:Bool):Option Value:=
 match op with
 |.eql=>V (.bool (a==b))
 |.neq=>V (.bool (!(a==b)))
 |_=>U
def qdS(op:BinOp)(a b:ByteArray):Option Value:=
 match op with
 |.eql=>V (.bool (a.toList==b.toList))
 |.neq=>V (.bool (a.toList != b.toList))
 |_=>U
def pD(e:fL):List Operand->Option (List Value)
 | []=>V []
 |x::l=>match gq e x,pD e l with
  |some v,V vs=>V (v::vs)
  |_,_=>U
theorem vu{n:Nat}{e:fL}{a:Act}(c:gp n e a):∀{l:List Operand} {b:List Value},pD e l=V b->l.map a.eval=b
 | [],b,h=>by simp only[pD,Option.some.injEq] at h;subst h;rfl
 |x::l,b,h=>by
  simp only[pD] at h;split at h
  .rename_i v ws hv hws
   simp only[Option.some.injEq] at h;subst h;rw[Jj,c.eval hv,vu c hws]
  .cases h
def RF(op:Builtin)(d:List Value):Option Value:=
 match op,d with
 |.min,[.int k a,.int _ b]=>V (.int k (if b<a then b else a))
 |.max,[.int k a,.int _ b]=>V (.int k (if b > a then b else a))
 |.min,[.int k a,.int _ b,.int _ c]=>V (.int k (if c<(if b<a then b else a) then c else(if b<a then b else a)))
 |.max,[.int k a,.int _ b,.int _ c]=>V (.int k (if c > (if b > a then b else a) then c else(if b > a then b else a)))
 |.len,[.slice _ l _]=>V (.int .i64 l)
 |.len,[.string s]=>V (.int .i64 s.size)
 |.cap,[.slice _ _ c]=>V (.int .i64 c)
 |_,_=>U
def bi(v:Value):List Value:=
 match v with
 |.agg cs=>cs.toList
 |v=>[v]
def US(T:vP)(a:List TypeId)(b:List Value):Bool:=
 match a,b with
 | [t],[.slice _ _ _]=>match T.get t with|some x=>(match x.kind with|.slice _=>An|_=>Cd)|none=>Cd
 | [t],[.string _]=>match T.get t with|some x=>(match x.kind with|.str=>An|_=>Cd)|none=>Cd
 |_,_=>Cd
def wk(T:vP)(e:fL)(o:Op):Option Value:=
 match o with
 |.move x|.assign x=>gq e x
 |.pick c a b=>match gq e c with
  |some (.bool An)=>gq e a
  |some (.bool Cd)=>gq e b
  |_=>U
 |.binOp op t x y _=>match gq e x,gq e y with
  |some (.int k a),V (.int k' b)=>match decEq k k' with
   |.isTrue _=>qdt op k a b
   |.isFalse _=>U
  |some (.bool a),V (.bool b)=>match T.get t with
   |some te=>match te.kind with|.bool=>qdb op a b|_=>U
   |none=>U
  |some (.string a),V (.string b)=>qdS op a b
  |_,_=>U
 |.unOp .not _ x=>match gq e x with
  |some (.bool b)=>V (.bool (!b))
  |_=>U
 |.unOp .neg _ x=>match gq e x with
  |some (.int k a)=>V (.int k (k.wrap (0-a)))
  |_=>U
 |.fieldAddr t x f=>match gq e x,T.get t with
  |some (.pointer (V ⟨b,o,U⟩)),V te=>match te.fields[f]? with
   |some (cQ,sz,_)=>match sz with
    |0=>U
    |_+1=>V (.pointer (V ⟨b,o+cQ,U⟩))
   |none=>U
  |_,_=>U
 |.field t x f=>match gq e x,T.get t with
  |some (.agg cs),V te=>match te.fields[f]? with
   |some (cQ,sz,V An)=>V (.agg (cs.extract cQ (cQ+sz)))
   |some (cQ,_,V Cd)=>cs.toList[cQ]?
   |_=>U
  |_,_=>U
 |.extract x i=>match gq e x with
  |some (.tuple vs)=>vs.toList[i]?
  |_=>U
 |.nilCheck x=>match gq e x with
  |some (.pointer (V a))=>V (.pointer (V a))
  |some (.func (.func f) x y)=>V (.func (.func f) x y)
  |_=>U
 |.makeFunc fn first cap=>match pD e first.toList,pD e cap.toList with
  |some vs,V us=>V (.func fn vs.toArray us.toArray)
  |_,_=>U
 |.convert s d x=>match gq e x,T.get s,T.get d with
  |some (.int _ a),V _,V te=>match te.kind with
   |.int k=>V (.int k (k.wrap a))
   |_=>U
  |_,_,_=>U
 |.call c=>match c.callee with
  |.builtin b=>match pD e c.args.toList with
   |some vs=>match b with
    |.len=>match US T c.argTypes.toList vs with|true=>RF .len vs|false=>U
    |.min=>RF .min vs
    |.max=>RF .max vs
    |_=>U
   |none=>U
  |_=>U
 |_=>U
theorem sa{n:Nat}{e:fL}{a:Act}(c:gp n e a){xs:Array Operand}{b:List Value}(h:pD e xs.toList=V b):xs.map a.eval=b.toArray:=by
 have:=vu c h;apply Array.ext';simpa using this
theorem tN(op:BinOp)(t:TypeId)(x y:Operand)(k c:IntKind)(a b:Int)(w:World):(eqGuard op t x y (.int k a) (.int c b)).run P w=.ok () w:=by
 unfold eqGuard;split<;>rfl
theorem UL(op:BinOp)(t:TypeId)(x y:Operand)(a b:Bool)(w:World):(eqGuard op t x y (.bool a) (.bool b)).run P w=.ok () w:=by
 unfold eqGuard;split<;>rfl
theorem MI(op:BinOp)(t:TypeId)(x y:Operand)(a b:ByteArray)(w:World):(eqGuard op t x y (.string a) (.string b)).run P w=.ok () w:=by
 unfold eqGuard;split<;>rfl
theorem LK(d:Nat){t:TypeId}(c:P.underlying t=V .bool)(a b:Bool)(w:World):(Op.equalIn (d+1) t (.bool a) (.bool b)).run P w=.ok (a==b) w:=by
 simp[Op.equalIn,run_underlying c]
theorem qa1{op:BinOp}{t:TypeId}(d:P.underlying t=V .bool){a b:Bool}{v:Value}(h:qdb op a b=V v)(w:World):(binOp op t (.bool a) (.bool b)).run P w=.ok v w:=by
 have c:(Op.equal t (.bool a) (.bool b)).run P w=.ok (a==b) w:=by
  simp only[Op.equal,Op.maxDepth];exact LK 9999 d a b w
 cases op<;>simp only[qdb,Option.some.injEq] at h
 case eql=>subst h;rw[binOp]<;>first|(intros;contradiction)|simp only[jk,c,ji,jn]
 case neq=>subst h;rw[binOp]<;>first|(intros;contradiction)|simp only[jk,c,ji,jn]
 all_goals cases h
theorem qa3{op:BinOp}{t:TypeId}{a b:ByteArray}{v:Value}(h:qdS op a b=V v)(w:World):(binOp op t (.string a) (.string b)).run P w=.ok v w:=by
 cases op<;>simp only[qdS,Option.some.injEq] at h
 case eql=>subst h;simp[binOp,Op.stringOp]
 case neq=>subst h;simp[binOp,Op.stringOp,bne]
 all_goals cases h
theorem IV{t:TypeId}{b:Bool}(h:UB P t=V b)(w:World):(isAgg t).run P w=.ok b w:=by
 unfold UB at h;unfold isAgg;cases hd:P.underlying t with
 |none=>rw[hd] at h;simp at h
 |some d=>rw[hd] at h;simp only[Option.map_some,Option.some.injEq] at h;simp only[jk,run_underlying hd,ji];cases d<;>subst h<;>rfl
theorem RI{t:TypeId}{m:Nat}(h:P.cellsOf t=m+1)(w:World):(sizeOf t).run P w=.ok (m+1) w:=by
 unfold Program.cellsOf at h;cases hi:P.info? t with
 |none=>rw[hi] at h;simp at h
 |some i=>rw[hi] at h;simp at h;simp[sizeOf,typeInfo,hi,h]
theorem MK{t:TypeId}{b:Bool}{c:Nat}(a:UB P t=V b)(h:P.cellsOf t=c)(w:World):(sizeOf t).run P w=.ok c w:=by
 unfold UB Program.underlying at a;unfold Program.cellsOf at h;cases hi:P.info? t with
 |none=>rw[hi] at a;simp at a
 |some i=>rw[hi] at h;simp at h;simp[sizeOf,typeInfo,hi,h]
theorem YY(n:cE P T){t:TypeId}{h:TE}{f cQ m:Nat}{i:Option Bool}(d:T.get t=V h)(p:h.fields[f]?=V (cQ,m+1,i))(b o:Nat)(w:World) :
  (Instr.fieldAt t (.pointer (V ⟨b,o,U⟩)) f).run P w=.ok (.pointer (V ⟨b,o+cQ,U⟩)) w:=by
 obtain⟨u,s,r,a,k,l,v⟩:=BC (n _ _ d) p;have c:=RI l w;simp only[Instr.fieldAt,jk,run_underlying r,ji,a,Instr.sureAddr,jn,fieldPlace,c,Nat.succ_ne_zero,if_false,k,Addr.add];by_cases g:cQ=0
 .simp[g]
 .simp[g]
theorem VK(k:cE P T){t:TypeId}{g:TE}{f cQ d:Nat}(b:T.get t=V g)(l:g.fields[f]?=V (cQ,d,V An))(cs:Array Value)(w:World) :
  (Instr.field t (.agg cs) f).run P w=.ok (.agg (cs.extract cQ (cQ+d))) w:=by
 obtain⟨o,n,m,a,h,i,c⟩:=BC (k _ _ b) l;simp[Instr.field,run_underlying m,a,asAgg,part,IV c,MK c i,h]
theorem VL(i:cE P T){t:TypeId}{d:TE}{f cQ n:Nat}(c:T.get t=V d)(k:d.fields[f]?=V (cQ,n,V Cd)){cs:Array Value}{v:Value}(m:cs.toList[cQ]?=V v)(w:World) :
  (Instr.field t (.agg cs) f).run P w=.ok v w:=by
 obtain⟨p,o,l,b,g,r,h⟩:=BC (i _ _ c) k;have a:cs[cQ]?=V v:=by simpa using m
 simp[Instr.field,run_underlying l,b,asAgg,part,IV h,g,a]
theorem qcp(i:cE P T){d:Array TypeId}{g:List Value}{v:Value}(a:US T d.toList g=An)(h:RF .len g=V v)(t:TypeId)(w:World) :
  (Builtin.len_ d t g.toArray).run P w=.ok v w:=by
 unfold US at a;split at a
 .rename_i t' p l c hts
  simp only[RF,Option.some.injEq] at h;subst h;split at a
  .rename_i x hx
   split at a
   .rename_i e he
    have f:=nq (i _ _ hx) he;have b:d[0]?=V t':=by rw[<-Array.getElem?_toList,hts];rfl
    simp[Builtin.len_,b,run_underlying f,goInt]
   .cases a
  .cases a
 .rename_i t' s hts
  simp only[RF,Option.some.injEq] at h;subst h;split at a
  .rename_i x hx
   split at a
   .rename_i he
    have f:=LJ (i _ _ hx) he;have b:d[0]?=V t':=by rw[<-Array.getElem?_toList,hts];rfl
    simp[Builtin.len_,b,run_underlying f,goInt]
   .cases a
  .cases a
 .cases a
theorem qcr{a:List Value}{v:Value}(h:RF .min a=V v)(b:Array TypeId)(t:TypeId)(w:World):(Builtin.min_ b t a.toArray).run P w=.ok v w:=by
 unfold RF at h;split at h<;>first|cases h;done|skip
 .simp only[Option.some.injEq] at h;subst h;simp[Builtin.min_,Builtin.min2]
 .rename_i hh;cases hh
 .simp only[Option.some.injEq] at h;subst h;simp[Builtin.min_,Builtin.min2]
 all_goals (rename_i hh;first|cases hh;done|skip)
theorem qcq{a:List Value}{v:Value}(h:RF .max a=V v)(b:Array TypeId)(t:TypeId)(w:World):(Builtin.max_ b t a.toArray).run P w=.ok v w:=by
 unfold RF at h;split at h<;>first|cases h;done|skip
 .rename_i hh;cases hh
 .simp only[Option.some.injEq] at h;subst h;simp[Builtin.max_,Builtin.max2]
 .rename_i hh;cases hh
 .simp only[Option.some.injEq] at h;subst h;simp[Builtin.max_,Builtin.max2]
 all_goals (rename_i hh;first|cases hh;done|skip)
section
variable{n:Nat}{e:fL}{a:Act}
theorem T1(d:cE P T)(b:gp n e a){o:Oper}{v:Value}{op:BinOp}{t:TypeId}{x y:Operand}{c:TypeId}(f:o.op=.binOp op t x y c)(h:wk T e (.binOp op t x y c)=V v)(w:World) :
  (execOp a.eval o).run P w=.ok (.value v) w:=by
 unfold execOp;simp only[f];simp only[wk] at h;split at h
 .rename_i k i k' j hx hy
  split at h
  .rename_i hk _
   subst hk;simp only[b.eval hx,b.eval hy,jk,tN,ji,qa2 h,jn]
  .cases h
 .rename_i i j hx hy
  split at h
  .rename_i te hte
   split at h
   .rename_i hk
    simp only[b.eval hx,b.eval hy,jk,UL,ji,qa1 (E4 (d _ _ hte) hk) h,jn]
   .cases h
  .cases h
 .rename_i i j hx hy
  simp only[b.eval hx,b.eval hy,jk,MI,ji,qa3 h,jn]
 .cases h
theorem qaP(i:cE P T)(k:gp n e a){o:Oper}{v:Value}{c:Call}(l:o.op=.call c)(h:wk T e (.call c)=V v)(w:World) :
  (execOp a.eval o).run P w=.ok (.value v) w:=by
 obtain⟨g,d,f⟩:=c;unfold execOp;simp only[l];simp only[wk] at h;split at h
 .split at h
  .rename_i vs hvs
   have b:=sa k hvs;simp only[resolve,invoke,builtin,jk,jn,ji,b];split at h
   .split at h
    .rename_i hk
     simp only[qcp i hk h,jk,jn,ji]
    .cases h
   .simp only[qcr h,jk,jn,ji]
   .simp only[qcq h,jk,jn,ji]
   .cases h
  .cases h
 .cases h
theorem qaQ(l:cE P T)(g:gp n e a){o:Oper}{v:Value}(h:wk T e o.op=V v)(w:World) :
  (execOp a.eval o).run P w=.ok (.value v) w:=by
 generalize ho:o.op=op at h;cases op with
 |binOp op t x y t'=>exact T1 l g ho h w
 |call c=>exact qaP l g ho h w
 |move x=>simp only[wk] at h;simp[execOp,ho,g.eval h]
 |assign x=>simp only[wk] at h;simp[execOp,ho,g.eval h]
 |pick c x y=>
  simp only[wk] at h;split at h
  .rename_i hc;simp[execOp,ho,g.eval hc,g.eval h,asBool]
  .rename_i hc;simp[execOp,ho,g.eval hc,g.eval h,asBool]
  .cases h
 |unOp op t x=>
  cases op<;>simp only[wk] at h
  case neg=>
   split at h
   .rename_i hb;simp only[Option.some.injEq] at h;subst h;simp[execOp,ho,g.eval hb,Op.unary,Op.intArith]
   .cases h
  case not=>
   split at h
   .rename_i hb;simp only[Option.some.injEq] at h;subst h;simp[execOp,ho,g.eval hb,Op.unary]
   .cases h
  all_goals cases h
 |fieldAddr t x f=>
  simp only[wk] at h;split at h
  .rename_i b o' te hb hte
   split at h
   .rename_i cQ sz ag hf
    split at h
    .cases h
    .simp only[Option.some.injEq] at h;subst h;simp[execOp,ho,g.eval hb,YY l hte hf]
   .cases h
  .cases h
 |field t x f=>
  simp only[wk] at h;split at h
  .rename_i cs te hb hte
   split at h
   .rename_i cQ sz hf
    simp only[Option.some.injEq] at h;subst h;simp[execOp,ho,g.eval hb,VK l hte hf]
   .rename_i cQ sz hf
    simp[execOp,ho,g.eval hb,VL l hte hf h]
   .cases h
  .cases h
 |extract x i=>
  simp only[wk] at h;split at h
  .rename_i vs hb
   have m:vs[i]?=V v:=by simpa using h
   simp[execOp,ho,g.eval hb,Instr.extract,m]
  .cases h
 |nilCheck x=>
  simp only[wk] at h;split at h
  .rename_i ad hb
   simp only[Option.some.injEq] at h;subst h;simp[execOp,ho,g.eval hb]
  .rename_i f x y hb
   simp only[Option.some.injEq] at h;subst h;simp[execOp,ho,g.eval hb]
  .cases h
 |makeFunc fn x y=>
  simp only[wk] at h;split at h
  .rename_i vs us hv r
   simp only[Option.some.injEq] at h;subst h;simp[execOp,ho,Instr.makeFunc,sa g hv,sa g r]
  .cases h
 |convert s d x=>
  simp only[wk] at h;split at h
  .rename_i k i ts te hx hs hd
   split at h
   .rename_i k' hk
    simp only[Option.some.injEq] at h;subst h;have r:=SY (l _ _ hd) hk;obtain⟨u,p,_⟩:=pv (l _ _ hs);simp only[execOp,ho,g.eval hx,convert,jk,run_underlying r,run_underlying p,ji,Conv.intToInt,jn]
   .cases h
  .cases h
 |_=>cases h
end
theorem mA(b:cE P T){n:Nat}{Q:Exit->Act->World->Prop}{k:List It}{e:fL}{w:World}{all:Array Oper}{l:List Oper}{op:Op}{d t:Nat}{ps:String}{a:Array Edge}{v:Value}
  (h:wk T e op=V v) (g:Nat.blt d n=An) (f:bx P n Q (.ops all l::k) ((d,v)::e) w):bx P n Q (.ops all (⟨V d,op,t,ps,a,U⟩::l)::k) e w:=
 DZ Z Z g (λ_ c=>qaQ b c h w) f
end
end Go.Fw


namespace Go.Fw
open Go
open Go.RowKit (Below)
def qG{α:Type}(xs:List α)(i:Int):Option α:=if 0<=i then xs[i.toNat]? else U
theorem bJ{α:Type}{xs:List α}{i:Int}{x:α}(h:qG xs i=V x):0<=i/\i<xs.length/\xs[i.toNat]?=V x:=by
 unfold qG at h;split at h
 .rename_i h0
  have:=(List.getElem?_eq_some_iff.1 h).1;exact⟨h0,by omega,h⟩
 .cases h
def cG(w:World)(b o:Nat)(cs:List Value):Prop:=∀j v,cs[j]?=V v->w.cell? ⟨b,o+j,U⟩=V v
section
variable{P:Program}{T:vP}{n:Nat}{Q:Exit->Act->World->Prop}{k:List It}{e:fL}{w0 w w':World}{L:List Ch}
theorem cG.loc{b o:Nat}{cs:List Value}(h:cG w b o cs)(c:w'.heap[b]?=w.heap[b]?):cG w' b o cs:=
 λj v d=>by rw[World.cell?_of_block (w:=w) (a:=⟨b,o+j,U⟩) c];exact h j v d
theorem cG.below{b o:Nat}{cs:List Value}(h:cG w b o cs)(f:Below w.heap.size w w'):cG w' b o cs:=by
 by_cases a:cs=[]
 .subst a;intro j v g;simp at g
 .obtain⟨v,c,rfl⟩:=List.exists_cons_of_ne_nil a;have d:=h 0 v Z;exact h.loc (f.block b (World.block_lt_of_cell? w _ d))
theorem cG.of_block{b:Nat}{a:Array Value}{t:TypeId}{fr:Nat×Nat}{o:Nat}{cs:List Value}(c:w.heap[b]?=V (.cells a t fr))(h:∀j v,cs[j]?=V v->a[o+j]?=V v):cG w b o cs:=by
 intro j v d;simp[World.cell?,c,h j v d]
theorem SH.box{b:Nat}{cs:List Value}{t:TypeId}(h:SH w0 w L)(i:Nat)(hi:L[i]?=V (Ch.box b cs t)):cG w b 0 cs:=by
 have a:w.heap[b]?=V (.cells cs.toArray t (0,0)):=(h.mem hi).1;exact cG.of_block a (λj v c=>by simpa using c)
theorem dG.at{α:Type}[qm α]{S:Nat->Prop}{xs:List α}{p c}{i:Int}{x:α}(h:dG w S xs p c)(l:qG xs i=V x) :
  ∃b o q cs,p=V ⟨b,o,U⟩/\q=o+i.toNat*qm.k α/\S b/\qm.R w S x cs/\cG w b q cs:=by
 obtain⟨m,a,d⟩:=bJ l;obtain⟨n,r,f⟩:=h;rcases f with⟨_,rfl⟩|⟨b,o,cur,T,fr,rfl,hb,hg,hc,hx'⟩
 .simp at a;omega
 .obtain⟨cs,k,g⟩:=hx' _ _ d;exact⟨b,o,_,cs,Z,Z,hb,k,cG.of_block hg g⟩
theorem SH.oldS{α:Type}[qm α]{xs:List α}{p c}(h:SH w0 w L)(d:dG w0 (Fw.old w0) xs p c):dG w (Fw.old w) xs p c:=
 (d.loc (λb a=>h.below.block b a)).mono (λ_ a=>jx a h.below.size)
theorem dG.below{α:Type}[qm α]{xs:List α}{p c}(d:dG w (Fw.old w) xs p c)(h:Below w.heap.size w w'):dG w' (Fw.old w') xs p c:=
 (d.loc (λb a=>h.block b a)).mono (λ_ a=>jx a h.size)
theorem SH.sl{α:Type}[qm α]{S:Nat->Prop}{xs:List α}{p:Option Addr}{d c:Nat}(h:SH w0 w L)(i:Nat)(hi:L[i]?=V (Ch.own S xs [.slice p d c])):dG w (Fw.old w) xs p c/\d=xs.length:=by
 obtain⟨f,g⟩:=h.mem hi;obtain⟨m,c',a,l⟩:=f;simp only[List.cons.injEq,Value.slice.injEq,and_true] at a;obtain⟨rfl,rfl,rfl⟩:=a;exact⟨l.toR.mono (λb k=>(g b k).2),Z⟩
def MV(P:Program)(n:Nat)(e:fL)(o:Oper)(w:World)(v:Value):Prop:=∀a,gp n e a->(execOp a.eval o).run P w=.ok (.value v) w
theorem ZQ(a:cE P T){o:Oper}{v:Value}(h:wk T e o.op=V v)(w:World):MV P n e o w v:=λ_ b=>qaQ a b h w
theorem dF{all:Array Oper}{l:List Oper}{op:Op}{d t:Nat}{ps:String}{a:Array Edge}{v:Value}
  (h:MV P n e ⟨V d,op,t,ps,a,U⟩ w v) (c:Nat.blt d n=An) (b:bx P n Q (.ops all l::k) ((d,v)::e) w):bx P n Q (.ops all (⟨V d,op,t,ps,a,U⟩::l)::k) e w:=
 DZ Z Z c h b
def ld(a:TE)(cs:List Value)(j:Nat):Option Value:=
 match a.agg with
 |true=>match Nat.ble (j+a.size) cs.length with
  |true=>V (.agg ((cs.drop j).take a.size).toArray)
  |false=>U
 |false=>cs[j]?
theorem ud(b o j:Nat):(⟨b,o,U⟩:Addr).add j=⟨b,o+j,U⟩:=by
 unfold Addr.add;split<;>simp_all
theorem PZ(m:cE P T){t:TypeId}{c:TE}(g:T.get t=V c){b o j:Nat}{cs:List Value}{v:Value}(h:cG w b o cs)(a:ld c cs j=V v) :
  (Instr.loadAt t (.pointer (V ⟨b,o+j,U⟩))).run P w=.ok v w:=by
 have f:=m _ _ g;unfold ld at a;simp only[Instr.loadAt,Instr.sureAddr,loadVar,jk,jn,ji,U3 f];split at a
 .rename_i hag
  split at a
  .rename_i hle
   simp only[Option.some.injEq] at a;subst a;have l:j+c.size<=cs.length:=js hle;rw[if_pos hag];have d:((cs.drop j).take c.size).length=c.size:=by simp;omega
   have k:=run_loadCells_list (P:=P) w ⟨b,o+j,U⟩ ((cs.drop j).take c.size) (λi u hi=>by
    rw[ud];rw[jK] at hi;split at hi
    .rw[Je] at hi;have:=h (j+i) u hi;rw[Nat.add_assoc];exact this
    .cases hi)
   rw[d] at k;simp only[jk,vy f,ji,k,jn]
  .cases a
 .rename_i hag
  have:w.cell? ⟨b,o+j,U⟩=V v:=h j v a;simp[hag,this]
theorem da(i:cE P T){x:Operand}{t ty d:Nat}{f:TE}{ps:String}{h:Array Edge}{g:Option (Nat×Bool)}{b o j:Nat}{cs:List Value}{v:Value}
  (l:cG w b o cs) (p:gq e x=V (.pointer (V ⟨b,o+j,U⟩))) (c:T.get t=V f) (m:ld f cs j=V v):MV P n e ⟨V d,.load t x,ty,ps,h,g⟩ w v:=by
 intro a k;simp only[execOp,k.eval p,jk,PZ i c l m,ji,jn]
theorem ZP(r:cE P T){x i:Operand}{t ty d el m:Nat}{v f:TE}{ps:String}{y:Array Edge}{g:Option (Nat×Bool)}{p:Option Addr}{u c:Nat}{kd:IntKind}{iv:Int}{b o q:Nat}
  (B:p=V ⟨b,o,U⟩) (C:q=o+iv.toNat*m) (k:0<=iv/\iv<u) (H:gq e x=V (.slice p u c)) (hi:gq e i=V (.int kd iv))
  (l:T.get t=V v) (z:v.kind=.slice el) (h:T.get el=V f) (A:f.size=m):MV P n e ⟨V d,.indexAddr t x i,ty,ps,y,g⟩ w (.pointer (V ⟨b,q,U⟩)):=by
 intro a s;subst B C;have F:=nq (r _ _ l) z;have D:=vy (r _ _ h) w;simp only[execOp,s.eval H,s.eval hi,jk,Instr.indexAt,asIntOf,jn,ji,run_underlying F];rw[if_pos k];simp only[jk,D,ji,jn,ud,A]
def iX(cs:List Value)(j:Nat)(a:List Value):List Value:=cs.take j++a++cs.drop (j+a.length)
theorem kc(v:Value):v.cells.toList=bi v:=by cases v<;>rfl
def R0(a:List Value):Bool:=a.all Value.oneCell'
theorem ED(m:cE P T){t:TypeId}{i:TE}(h:T.get t=V i){b o:Nat}{a:Array Value}{k:TypeId}{v:Value}(n:w.heap[b]?=V (.cells a k (0,0)))
  (g:(bi v).length=i.size) (c:o+(bi v).length<=a.size) (l:R0 (bi v)=An) :
  (Instr.storeAt t (.pointer (V ⟨b,o,U⟩)) v).run P w=.ok () (w.setRow b (iX a.toList o (bi v)).toArray):=by
 have d:=m _ _ h;have f:=run_storeCells_at P b o k (bi v) 0 a w n (by simpa using c) (by simpa [R0] using l);have p:v.cells.size=i.size:=by rw[<-g,<-kc];simp
 simp only[Instr.storeAt,Instr.sureAddr,storeVar,jk,jn,ji,vy d,p,ne_eq,not_true_eq_false,if_false,kc,f,iX,Jp]
theorem F4{b:Nat}{cs c:List Value}{t:TypeId}{i:Nat}(h:SH w0 w L)(hi:L[i]?=V (Ch.box b cs t)):SH w0 (w.setRow b c.toArray) (L.set i (Ch.box b c t)):=by
 have g:w.heap[b]?=V (.cells cs.toArray t (0,0)):=(h.mem hi).1;refine h.upd hi Z Z Z (by simp) (λa _ d=>setRow_other w b a _ d) (setRow_heap w b _ _ t _ g) (λa d=>.inl d) (λ_ f=>f.elim)
theorem qcm(s:cE P T){all:Array Oper}{l:List Oper}{t ty:Nat}{ps:String}{p:Array Edge}{x v:Operand}{o:TE}{b j:Nat}{cs:List Value}{g:TypeId}{u:Value}(i:Nat)
  (h:SH w0 w L) (hi:L[i]?=V (Ch.box b cs g)) (B:gq e x=V (.pointer (V ⟨b,j,U⟩))) (A:gq e v=V u) (f:T.get t=V o)
  (d:Nat.beq (bi u).length o.size=An) (c:Nat.ble (j+(bi u).length) cs.length=An) (r:R0 (bi u)=An)
  (z:∀w',SH w0 w' (L.set i (Ch.box b (iX cs j (bi u)) g))->bx P n Q (.ops all l::k) e w'):bx P n Q (.ops all (⟨U,.store t x v,ty,ps,p,U⟩::l)::k) e w:=by
 have y:w.heap[b]?=V (.cells cs.toArray g (0,0)):=(h.mem hi).1;refine E8 Z Z (λa m=>?_) (z _ (F4 h hi));have:=ED s f y (KK d) (by simpa using js c) r;simp only[execOp,m.eval B,m.eval A,jk,this,ji,jn]
theorem getElem?_splice {cs a:List Value}{j i:Nat}(c:j+a.length<=cs.length):(iX cs j a)[i]?=if i<j then cs[i]? else if i<j+a.length then a[i-j]? else cs[i]?:=by
 unfold iX;have b:(cs.take j).length=j:=by simp;omega
 rw[jv,List.getElem?_append,b];split
 .rename_i h;rw[jK,if_pos h]
 .rw[List.getElem?_append];split
  .rename_i h1 h2;rw[if_pos (by omega)]
  .rename_i h1 h2
   rw[if_neg (by omega),Je]
   congr 1
   omega
theorem sX{cs a:List Value}{j:Nat}(b:j+a.length<=cs.length):(iX cs j a).length=cs.length:=by
 unfold iX;simp;omega
theorem qcg{α:Type}[qm α][eQ α]{S:Nat->Prop}{xs:List α}{p:Option Addr}{Q c:Nat}{b o q j:Nat}{iv:Int}{y R:α}{cs u:List Value}{i:Nat}
  (h:SH w0 w L) (hi:L[i]?=V (Ch.own S xs [.slice p Q c])) (hy:qG xs iv=V y) (O:p=V ⟨b,o,U⟩) (P:q=o+iv.toNat*qm.k α) (D:qm.R w (Fw.old w) y cs) (hc:cG w b q cs)
  (Y:qm.R w (Fw.old w) R (iX cs j u)) (J:j+u.length<=cs.length) :
  ∃cur t,w.heap[b]?=V (.cells cur t (0,0))/\q+j+u.length<=cur.size /\
   SH w0 (w.setRow b (iX cur.toList (q+j) u).toArray) (L.set i (Ch.own S (xs.set iv.toNat R) [.slice p Q c])):=by
 obtain⟨e,hS⟩:=h.mem hi;obtain⟨h0,hlt,M⟩:=bJ hy;obtain⟨p',c',N,T,W,X⟩:=e;simp only[List.cons.injEq,Value.slice.injEq,and_true] at N;obtain⟨rfl,rfl,rfl⟩:=N;rcases X with⟨rfl,_,_⟩|⟨b',cur,t,F,hpb,hb,hg,hcur,hF,H,hx'⟩
 .cases O
 .subst O;simp only[Option.some.injEq,Addr.mk.injEq,and_true] at hpb;obtain⟨rfl,rfl⟩:=hpb;simp only[Jg] at P;subst P;have hk:=qm.len D;have z:iv.toNat*qm.k α+qm.k α<=cur.size:=by
   rw[hcur,<-jP];exact jt _ (by have:=(List.getElem?_eq_some_iff.1 M).1;omega)
  have d:iv.toNat*qm.k α+j+u.length<=cur.toList.length:=by simp;omega
  refine⟨cur,t,hg,by simpa using d,?_⟩;refine h.upd hi Z Z Z (by simp) (λa _ B=>setRow_other w b a _ (λC=>B (C ▸ hb))) ?_ (λa B=>.inl B) (λ_ H=>H.elim);refine⟨V ⟨b,0,U⟩,c,by simp,by simpa using T,W,.inr ⟨b,_,t,F,Z,hb,setRow_heap w b _ _ t _ hg,?_,hF,H,?_⟩⟩
  .rw[Jd,sX d];simpa using hcur
  .intro m x l;rw[List.getElem?_set] at l;split at l
   .rename_i hmi
    subst hmi;split at l
    .simp only[Option.some.injEq] at l;subst l;refine⟨_,eQ.fl Y,λr v g=>?_⟩;rw[jV,getElem?_splice d];rw[getElem?_splice J] at g;have f:∀r v,cs[r]?=V v->cur.toList[iv.toNat*qm.k α+r]?=V v:=by
      intro r v g;have:=hc r v g;simp only[World.cell?,hg] at this;simpa using this
     split at g
     .rw[if_pos (by omega)];exact f _ _ g
     .split at g
      .rw[if_neg (by omega),if_pos (by omega)];rw[show iv.toNat*qm.k α+r-(iv.toNat*qm.k α+j)=r-j by omega];exact g
      .rw[if_neg (by omega),if_neg (by omega)];exact f _ _ g
    .cases l
   .rename_i hmi
    obtain⟨A,s,I⟩:=hx' m x l;refine⟨A,eQ.fl (qm.toR s),λr v g=>?_⟩;have K:=I r v g;have hrk:r<qm.k α:=by have:=qm.len (qm.toR s);have:=(List.getElem?_eq_some_iff.1 g).1;omega
    rw[jV,getElem?_splice d];have n:m*qm.k α+r<iv.toNat*qm.k α\/iv.toNat*qm.k α+qm.k α<=m*qm.k α+r:=by
     rcases Nat.lt_or_gt_of_ne hmi with hlt'|hlt'
     .right;have:(iv.toNat+1)*qm.k α<=m*qm.k α:=jt _ hlt';rw[jP] at this;omega
     .left;have:(m+1)*qm.k α<=iv.toNat*qm.k α:=jt _ hlt';rw[jP] at this;omega
    have k:cur.toList[m*qm.k α+r]?=V v:=by simpa using K
    rcases n with n|n
    .rw[if_pos (by omega)];exact k
    .rw[if_neg (by omega),if_neg (by omega)];exact k
theorem bM(J:cE P T){α:Type}[qm α][eQ α]{all:Array Oper}{l:List Oper}{t ty:Nat}{ps:String}{D:Array Edge}{x v:Operand}{B:TE}{S:Nat->Prop}{xs:List α}{p:Option Addr}{A c:Nat}{b o q:Nat}{iv:Int}{y:α}{cs:List Value}{u:Value}(i j:Nat)(C:α)
  (h:SH w0 w L) (hi:L[i]?=V (Ch.own S xs [.slice p A c])) (Y:qG xs iv=V y) (O:p=V ⟨b,o,U⟩) (R:q=o+iv.toNat*qm.k α) (d:qm.R w (Fw.old w) y cs) (K:cG w b q cs)
  (X:gq e x=V (.pointer (V ⟨b,q+j,U⟩))) (W:gq e v=V u) (r:T.get t=V B) (I:qm.R w (Fw.old w) C (iX cs j (bi u)))
  (m:Nat.beq (bi u).length B.size=An) (f:Nat.ble (j+(bi u).length) cs.length=An) (H:R0 (bi u)=An)
  (N:∀w',SH w0 w' (L.set i (Ch.own S (xs.set iv.toNat C) [.slice p A c]))->bx P n Q (.ops all l::k) e w'):bx P n Q (.ops all (⟨U,.store t x v,ty,ps,D,U⟩::l)::k) e w:=by
 obtain⟨F,t',M,z,g⟩:=qcg h hi Y O R d K I (js f);refine E8 Z Z (λa s=>?_) (N _ g);have:=ED J r M (KK m) (by omega) H;simp only[execOp,s.eval X,s.eval W,jk,this,ji,jn]
theorem qK{all:Array Oper}{l:List Oper}{d t ty:Nat}{ps:String}{c:Array Edge}{x:Operand}{v:Value}(h:SH w0 w L)(m:gq e x=V v)(i:Nat.blt d n=An)
  (g:∀w' b,SH w0 w' (Ch.box b (bi v) t::L)->bx P n Q (.ops all l::k) ((d,.pointer (V ⟨b,0,U⟩))::e) w'):bx P n Q (.ops all (⟨V d,.box t x,ty,ps,c,U⟩::l)::k) e w:=by
 refine DZ Z Z i (λa f=>?_) (g _ _ (h.alloc (bi v) t));simp only[execOp,f.eval m,Instr.box,newVar,newRow,jk,run_newObj,ji,jn];rw[<-kc]
 rfl
theorem qi(o:cE P T){all:Array Oper}{l:List Oper}{d t ty:Nat}{ps:String}{m:Array Edge}{g:TE}{v:Value}(h:SH w0 w L)(c:T.get t=V g)(s:g.zero=V v)(r:Nat.blt d n=An)
  (p:∀w' b,SH w0 w' (Ch.box b (bi v) t::L)->bx P n Q (.ops all l::k) ((d,.pointer (V ⟨b,0,U⟩))::e) w'):bx P n Q (.ops all (⟨V d,.alloc t,ty,ps,m,U⟩::l)::k) e w:=by
 obtain⟨i,hi,_,_,f⟩:=ru (o _ _ c);refine DZ Z Z r (λa u=>?_) (p _ _ (h.alloc (bi v) t));simp only[execOp,Instr.alloc,zeroValue,typeInfo,hi,f,s,newVar,newRow,jk,run_newObj,ji,jn,run_program];rw[<-kc]
 rfl
theorem SH.nil{α:Type}[qm α](h:SH w0 w L):SH w0 w (Ch.own (λ_=>False) ([]:List α) [.slice U 0 0]::L):=by
 refine h.add (Below.refl _ _) ?_ (λb a=>a.elim) (λ_ c=>c.elim);exact⟨U,0,Z,by simp,by simp,.inl ⟨Z,Z,Z⟩⟩
end

def QU:Nat:=2147483648
section
variable{P:Program}{T:vP}{n:Nat}{Q:Exit->Act->World->Prop}{k:List It}{e:fL}{w0 w w':World}{L:List Ch}
theorem UW{z:List Value}{m i j:Nat}{v:Value}(_:0<z.length)(hi:i<m)(d:z[j]?=V v):(madeCells z.toArray (m*z.length))[i*z.length+j]?=V v:=by
 have a:j<z.length:=(List.getElem?_eq_some_iff.1 d).1;have c:i*z.length+j<m*z.length:=by
  have:(i+1)*z.length<=m*z.length:=jt _ hi;rw[jP] at this;omega
 have b:(i*z.length+j) % z.length=j:=by
  rw[Nat.add_comm,Nat.add_mul_mod_self_right,Nat.mod_eq_of_lt a]
 unfold madeCells;rw[Array.getElem?_map,Array.getElem?_range,if_pos c];simp only[Option.map_some,Jd,b,Option.some.injEq];have:z[j]=v:=(List.getElem?_eq_some_iff.1 d).2;simp[a,this]
theorem qdM(W:cE P T)(α:Type)[qm α]{all:Array Oper}{l:List Oper}{d t ty el:Nat}{ps:String}{af:Array Edge}{te o:TE}{x y:Operand}{kd A:IntKind}{c:Int}{B:Value}
  (h:SH w0 w L) (hx:gq e x=V (.int kd c)) (hy:gq e y=V (.int A c)) (K:T.get t=V te) (hk:te.kind=.slice el) (D:T.get el=V o) (hz:o.zero=V B) (M:bi B=qm.zc α) (J:o.size=qm.k α)
  (C:Nat.ble o.bytes 65536=An) (R:0<=c) (f:c<=QU) (hn:Nat.blt d n=An)
  (H:∀w' S p,SH w0 w' (Ch.own S (List.replicate c.toNat (qm.zero:α)) [.slice p c.toNat c.toNat]::L)->bx P n Q (.ops all l::k) ((d,.slice p c.toNat c.toNat)::e) w') :
  bx P n Q (.ops all (⟨V d,.makeSlice t x y,ty,ps,af,U⟩::l)::k) e w:=by
 obtain⟨i,hi,hs,hby,N⟩:=ru (W _ _ D);have hb':=js C;have g:(i.bytes:Int)*c<=281474976710656:=by
  have h1:(i.bytes:Int)<=65536:=by omega
  have h2:(i.bytes:Int)*c<=65536*c:=jG h1 R;unfold QU at f;omega
 have Y:=run_make (P:=P) w t el i B (nq (W _ _ K) hk) hi (N.trans hz) kd A c c R (jL _) g (by unfold QU at f;omega);have O:B.cells=(qm.zc α).toArray:=by rw[<-M,<-kc]
 rw[O,hs,J] at Y;refine DZ (v:=.slice (V ⟨w.heap.size,0,U⟩) c.toNat c.toNat) (w':=w.alloc (.cells (madeCells (qm.zc α).toArray (c.toNat*qm.k α)) el)) Z Z hn (λa X=>?_) (H _ (λb=>b=w.heap.size) _ (h.add ((Below.refl _ _).alloc (jf _) _) ?_ ?_ (λ_ hd=>hd.elim)))
 .simp only[execOp,X.eval hx,X.eval hy,jk,Y,ji,jn]
 .have s:=qm.len (qm.toR (qm.zO w (λ_=>False) (α:=α)));refine⟨V ⟨w.heap.size,0,U⟩,c.toNat,by simp,by simp,?_,.inr ⟨w.heap.size,_,el,λ_ _=>False,Z,Z,heap_alloc_new w _,?_,?_,?_,?_⟩⟩
  .unfold QU at f;simp[maxLen];omega
  .rw[size_madeCells]
  .intro _ _ F;exact F.elim
  .intro _ _ _ _ F;exact F.elim
  .intro j x u;rw[List.getElem?_replicate] at u;split at u
   .rename_i hlt
    simp only[Option.some.injEq] at u;subst u;refine⟨_,qm.zO _ _,λr v I=>?_⟩;have:=UW (z:=qm.zc α) (m:=c.toNat) (i:=j) (j:=r) (v:=v) (by rw[s];exact qm.kpos) hlt I;rw[s] at this;exact this
   .cases u
 .intro b C;have:b=w.heap.size:=C;subst this;exact⟨jf _,by simp⟩
def CN{α:Type}[qm α](w:World)(S:Nat->Prop):List α->List (List Value)->Prop
 | [],[]=>True
 |x::xs,c::cs=>qm.R w S x c/\CN w S xs cs
 |_,_=>False
theorem CN.get{α:Type}[qm α]{S:Nat->Prop}:∀{xs:List α} {cs:List (List Value)},CN w S xs cs->cs.flatten.length=xs.length*qm.k α /\
  ∀i x,xs[i]?=V x->∃c,qm.R w S x c/\∀j v,c[j]?=V v->cs.flatten[i*qm.k α+j]?=V v
 | [],[],_=>⟨by simp,by simp⟩
 |x::xs,c::cs,h=>by
  obtain⟨k,l⟩:=h;obtain⟨n,m⟩:=CN.get l;have g:=qm.len k;refine⟨by rw[List.flatten_cons,jg,n,g,Jn,jP];omega,?_⟩;intro i y b;cases i with
  |zero=>
   simp only[List.getElem?_cons_zero,Option.some.injEq] at b;subst b;refine⟨c,k,λj v a=>?_⟩;have:=(List.getElem?_eq_some_iff.1 a).1;rw[Nat.zero_mul,Jg,List.flatten_cons,jA this];exact a
  |succ i=>
   simp only[List.getElem?_cons_succ] at b;obtain⟨c',d,f⟩:=m i y b;refine⟨c',d,λj v a=>?_⟩;rw[List.flatten_cons,jD (by rw[g,jP];omega)];rw[show(i+1)*qm.k α+j-c.length=i*qm.k α+j by rw[g,jP];omega];exact f j v a
 | [],_::_,h=>h.elim
 |_::_,[],h=>h.elim
theorem SC:∀(a:List Value) (m:Nat) (cQ:Nat) (cells:Array Value),cQ+m+a.length<=cells.size ->
  ((a.zipIdx m).foldl (λ(b:Array Value) (p:Value×Nat)=>b.setIfInBounds (cQ+p.2) p.1) cells)=(iX cells.toList (cQ+m) a).toArray
 | [],m,cQ,cells,_=>by simp[iX]
 |v::a,m,cQ,cells,h=>by
  rw[List.zipIdx_cons,List.foldl_cons,SC a (m+1) cQ _ (by simp at h⊢;omega)];simp only[Jn] at h;apply Array.ext_getElem?;intro i;rw[jV,jV,getElem?_splice (by simp;omega),getElem?_splice (by simp;omega)];simp only[Jn,Array.getElem?_toList,Array.getElem?_setIfInBounds];rcases Nat.lt_trichotomy i (cQ+m) with hi|hi|hi
  .rw[if_pos (show i<cQ+(m+1) by omega),if_pos hi,if_neg (show ¬ cQ+m=i by omega)]
  .subst hi;rw[if_pos (show cQ+m<cQ+(m+1) by omega),if_neg (show ¬ cQ+m<cQ+m by omega),if_pos (show cQ+m<cQ+m+(a.length+1) by omega),if_pos Z,if_pos (show cQ+m<cells.size by omega)];simp
  .rw[if_neg (show ¬ i<cQ+(m+1) by omega),if_neg (show ¬ i<cQ+m by omega)];by_cases c:i<cQ+(m+1)+a.length
   .rw[if_pos c,if_pos (show i<cQ+m+(a.length+1) by omega)];rw[show i-(cQ+m)=(i-(cQ+(m+1)))+1 by omega,List.getElem?_cons_succ]
   .rw[if_neg c,if_neg (show ¬ i<cQ+m+(a.length+1) by omega),if_neg (show ¬ cQ+m=i by omega)]
def GI(a:Nat->Option (Nat×Nat))(cells:List Value):List (Nat×Value)->Option (List Value)
 | []=>V cells
 |p::rest=>
  match a p.1 with
  |none=>U
  |some q=>match Nat.beq (bi p.2).length q.2,Nat.ble (q.1+(bi p.2).length) cells.length with
   |true,An=>GI a (iX cells q.1 (bi p.2)) rest
   |_,_=>U
theorem sP(a:Nat->Option (Nat×Nat)):∀(b:List (Nat×Value)) (cells cs:List Value),GI a cells b=V cs->Instr.fill a cells.toArray b=V cs.toArray
 | [],cells,cs,h=>by simp only[GI,Option.some.injEq] at h;subst h;rfl
 |(i,v)::rest,cells,cs,h=>by
  simp only[GI] at h;simp only[Instr.fill];split at h
  .cases h
  .rename_i q hq
   rw[hq];split at h
   .rename_i h1 h2
    have c:=KK h1;have d:=js h2;have k:v.cells.size=(bi v).length:=by rw[<-kc];simp
    have f:=SC (bi v) 0 q.1 cells.toArray (by simpa using d);obtain⟨g,l⟩:=q;simp only at c d f⊢;rw[if_neg (by simp[k,c];omega)];have:(v.cells.zipIdx.foldl (λ(cs:Array Value) (x:Value×Nat)=>cs.setIfInBounds (g+x.2) x.1) cells.toArray)=(iX cells g (bi v)).toArray:=by
     rw[<-Array.foldl_toList,Array.toList_zipIdx,kc];simpa using f
    rw[this];exact sP a rest _ _ h
   .cases h
theorem CW(size:Nat):∀(a:List Value) (m:Nat) (pre post:List Value),pre.length=m*size->post.length=a.length*size->(∀v∈a,(bi v).length=size) ->
  GI (λi=>V (i*size,size)) (pre++post) ((a.zipIdx m).map λx=>(x.2,x.1))=V (pre++(a.map bi).flatten)
 | [],m,pre,post,h1,h2,_=>by
  have:post=[]:=jT (by simpa using h2);subst this;simp[GI]
 |v::a,m,pre,post,h1,h2,h3=>by
  have b:=h3 v (by simp);simp only[Jn,jP] at h2;rw[List.zipIdx_cons,Jj];simp only[GI];have c:Nat.beq (bi v).length size=An:=by rw[b];exact Y7 _
  have d:Nat.ble (m*size+(bi v).length) (pre++post).length=An:=Nat.ble_eq_true_of_le (by rw[jg,b];omega);rw[c,d];simp only;have f:iX (pre++post) (m*size) (bi v)=(pre++bi v)++post.drop size:=by
   unfold iX;have e1:(pre++post).take (m*size)=pre:=by rw[<-h1];exact List.take_left
   have g:(pre++post).drop (m*size+size)=post.drop size:=by rw[<-h1,List.drop_append,List.drop_eq_nil_of_le (by omega),List.nil_append];congr 1;omega
   rw[e1,b,g]
  rw[f,CW size a (m+1) (pre++bi v) (post.drop size) (by rw[jg,b,h1,jP]) (by rw[List.length_drop];omega) (λu h=>h3 u (by simp[h]))];simp[jv]
theorem HF(s:cE P T){t el:Nat}{z a:TE}{r:Value}(b:List Value)(o:T.get t=V z)(A:z.kind=.slice el)(g:T.get el=V a)(C:a.zero=V r)(n:b.length*a.size<=16777216)
  (d:∀v∈b,(bi v).length=a.size) (w:World) :
  (Instr.buildSlice t b.length ((b.zipIdx 0).map λx=>(x.2,x.1)).toArray).run P w=.ok (.slice (V ⟨w.heap.size,0,U⟩) b.length b.length) (w.alloc (.cells (b.map bi).flatten.toArray el)):=by
 obtain⟨i,hi,u,_,p⟩:=ru (s _ _ g);have y:=nq (s _ _ o) A;by_cases f:b.length*a.size=0
 .have m:(b.map bi).flatten=[]:=by
   rcases Nat.mul_eq_zero.1 f with h|h
   .have:=jT h;subst this;rfl
   .rw[List.flatten_eq_nil_iff];intro l k;obtain⟨v,B,rfl⟩:=List.mem_map.1 k;exact jT ((d v B).trans h)
  have c:=sP (λi=>V (i*a.size,a.size)) _ _ _ (CW a.size b 0 [] [] (by simp) (by simpa using f.symm) d);rw[m] at c⊢;simp only[Jb] at c;simp only[Instr.buildSlice,jk,run_underlying y,ji,sizeOf,typeInfo,run_program,hi,jn,u,f,if_true];rw[if_neg (by omega)];simp only[jn,ji,Array.range_zero',Array.map_empty,c,newRow,jk,run_newObj]
  rfl
 .have k:(madeCells r.cells (b.length*a.size)).toList.length=b.length*a.size:=by simp[size_madeCells]
  have c:=sP (λi=>V (i*a.size,a.size)) _ _ _ (CW a.size b 0 [] (madeCells r.cells (b.length*a.size)).toList (by simp) k d);simp only[List.nil_append,Array.toArray_toList] at c;unfold madeCells at c;simp only[Instr.buildSlice,jk,run_underlying y,ji,sizeOf,typeInfo,run_program,hi,jn,u,f,if_false];rw[if_neg (by omega)];simp only[jn,jk,ji,zeroValue,typeInfo,run_program,hi,p,C,c,newRow,run_newObj]
  rfl
end

section
variable{P:Program}{T:vP}{n:Nat}{Q:Exit->Act->World->Prop}{k:List It}{e:fL}{w0 w w':World}{L:List Ch}
def ub{α:Type}[qm α](w:World)(S:Nat->Prop)(ys:List α)(a:List Value):Prop:=
 a.length=ys.length*qm.k α/\∀i y,ys[i]?=V y->∃cs,qm.R w S y cs/\∀j v,cs[j]?=V v->a[i*qm.k α+j]?=V v
theorem ub.one{α:Type}[qm α]{S:Nat->Prop}{ys:List α}{a:List Value}(h:ub w S ys a):∀v∈a,v.oneCell'=An:=by
 intro v l;obtain⟨r,i,rfl⟩:=Ji l;have f:=qm.kpos (α:=α);have c:r / qm.k α<ys.length:=by rw[Nat.div_lt_iff_lt_mul f,<-h.1];exact i
 obtain⟨cs,d,k⟩:=h.2 (r / qm.k α) _ (jj c);have b:=qm.len d;have g:r % qm.k α<cs.length:=by rw[b];exact Nat.mod_lt _ f
 have:=k (r % qm.k α) _ (jj g);rw[Nat.mul_comm,Nat.div_add_mod] at this;rw[jj i,Option.some.injEq] at this;rw[this];exact qm.one d _ (jm g)
theorem ub.app{α:Type}[qm α]{S:Nat->Prop}{xs ys:List α}{olds a:List Value}(b:ub w S xs olds)(h:ub w S ys a):ub w S (xs++ys) (olds++a):=by
 refine⟨by rw[jg,jg,b.1,h.1,Nat.add_mul],λi y hi=>?_⟩;rw[List.getElem?_append] at hi;split at hi
 .rename_i hlt
  obtain⟨cs,d,f⟩:=b.2 i y hi;refine⟨cs,d,λj v g=>?_⟩;have c:=f j v g;rw[jA (List.getElem?_eq_some_iff.1 c).1];exact c
 .rename_i hge
  obtain⟨cs,d,f⟩:=h.2 _ y hi;refine⟨cs,d,λj v g=>?_⟩;have c:=f j v g;have k:xs.length*qm.k α<=i*qm.k α:=jt _ (by omega);rw[jD (by rw[b.1];omega),b.1];rw[show i*qm.k α+j-xs.length*qm.k α=(i-xs.length)*qm.k α+j by rw[Nat.sub_mul];omega];exact c
theorem dG.cells{α:Type}[qm α]{S:Nat->Prop}{ys:List α}{p:Option Addr}{c:Nat}(h:dG w S ys p c) :
  ∃news,ub w S ys news/\(Builtin.firstCells (qm.k α) ys.length (.slice p ys.length c)).run P w=.ok news.toArray w/\(Builtin.firstCells (qm.k α) ys.length (.slice p ys.length c)).run P w.drew=.ok news.toArray w.drew:=by
 obtain⟨r,z,s⟩:=h;rcases s with⟨_,rfl⟩|⟨b,o,cur,t,fr,rfl,hb,hg,hc,hx⟩
 .cases p<;>exact⟨[],⟨by simp,by simp⟩,by simp[Builtin.firstCells]<;>rfl,by simp[Builtin.firstCells]<;>rfl⟩
 .have x:ys.length*qm.k α<=c*qm.k α:=jt _ r;have d:((cur.toList.drop o).take (ys.length*qm.k α)).length=ys.length*qm.k α:=by simp;omega
  have a:∀(w1:World),w1.heap[b]?=w.heap[b]?->∀j v,((cur.toList.drop o).take (ys.length*qm.k α))[j]?=V v->w1.cell? ((⟨b,o,U⟩:Addr).add j)=V v:=by
   intro w1 l j v f;rw[jK] at f;split at f
   .rw[Je] at f;rw[ud];simp only[World.cell?,l,hg];simpa using f
   .cases f
  refine⟨_,⟨d,λi y hi=>?_⟩,run_firstCells_some w _ _ _ _ _ _ d (a w Z),run_firstCells_some w.drew _ _ _ _ _ _ d (a w.drew Z)⟩;obtain⟨cs,m,f⟩:=hx i y hi;refine⟨cs,m,λj v n=>?_⟩;have u:j<qm.k α:=by have:=qm.len m;have:=(List.getElem?_eq_some_iff.1 n).1;omega
  have k:i<ys.length:=(List.getElem?_eq_some_iff.1 hi).1;have g:(i+1)*qm.k α<=ys.length*qm.k α:=jt _ k;rw[jP] at g;rw[jK,if_pos (by omega),Je];have:=f j v n;rw[<-Nat.add_assoc];simpa using this
theorem WM.elems{α:Type}[qm α]{S:Nat->Prop}{ys:List α}{c:Nat}{a:Array Value}(g:a.size=c*qm.k α)(m:ys.length<=c)
  (o:∀i x,ys[i]?=V x->∃cs,qm.R w S x cs/\∀j v,cs[j]?=V v->a[i*qm.k α+j]?=V v):ub w S ys (a.toList.take (ys.length*qm.k α)):=by
 have n:ys.length*qm.k α<=c*qm.k α:=jt _ m;refine⟨by simp;omega,λi y hi=>?_⟩;obtain⟨cs,f,k⟩:=o i y hi;refine⟨cs,f,λj v h=>?_⟩;have l:j<qm.k α:=by have:=qm.len f;have:=(List.getElem?_eq_some_iff.1 h).1;omega
 have d:i<ys.length:=(List.getElem?_eq_some_iff.1 hi).1;have b:(i+1)*qm.k α<=ys.length*qm.k α:=jt _ d;rw[jP] at b;rw[jK,if_pos (by omega)];simpa using k j v h
theorem WM.of_elems{α:Type}[qm α][eQ α]{S S':Nat->Prop}{xs:List α}{b c:Nat}{a:Array Value}{t:TypeId}(n:xs.length<=c)(o:c<=maxLen)(g:S b)(l:w'.heap[b]?=V (.cells a t (0,0)))(d:a.size=c*qm.k α)
  {olds:List Value} (k:ub w S' xs olds) (p:∀(r:Nat) (v:Value),olds[r]?=V v->a[r]?=V v):WM w' S xs (V ⟨b,0,U⟩) c:=by
 refine⟨n,o,.inr ⟨b,a,t,λ_ _=>False,Z,g,l,d,λ_ _ h=>h.elim,λ_ _ _ _ h=>h.elim,λi x hi=>?_⟩⟩;obtain⟨cs,f,m⟩:=k.2 i x hi;exact⟨cs,eQ.fl f,λj v s=>p _ _ (m j v s)⟩
theorem zK(t ty el:TypeId)(i:TypeInfo)(z:Value)(s:P.underlying t=V (.slice el))(hi:P.info? el=V i)(u:i.zero=V z)
  (p l:Option Addr) (a b m c:Nat) (olds d:List Value) (o:(Builtin.firstCells i.size m (.slice l m c)).run P w.drew=.ok d.toArray w.drew) (h:(Builtin.firstCells i.size a (.slice p a b)).run P w.drew=.ok olds.toArray w.drew)
  (v:b<a+m) (n:((a+m:Nat):Int)<=9223372036854775807) (k:Builtin.nextslicecap (a+m) b*i.bytes<=281474976710656) :
  (Builtin.append_ #[t,t] ty #[.slice p a b,.slice l m c]).run P w =
   .ok (.slice (V ⟨w.heap.size,0,U⟩) (a+m) (grownCap w (a+m) b el))
    (w.drew.alloc (.cells (olds.toArray++d.toArray++Builtin.zeroCells z.cells (grownCap w (a+m) b el-(a+m))) el)):=by
 have r:¬ (a+m<=b):=by omega
 have g:¬ (9223372036854775807<((a:Int)+(m:Int))):=by omega
 have f:¬ (281474976710656<Builtin.nextslicecap (a+m) b*i.bytes):=by omega
 simp[Builtin.append_,run_underlying s,sizeOf,typeInfo,zeroValue,hi,u,Builtin.lenOf,r,g,f,Question.forced,o,h,newRow,grownCap]
 congr 2
 apply Array.ext';simp[jv]
theorem zM(t ty el:TypeId)(i:TypeInfo)(v:P.underlying t=V (.slice el))(hi:P.info? el=V i)
  (o:Option Addr) (g a d m c:Nat) (f:Array Value) (p:TypeId) (n:w.heap[g]?=V (.cells f p (0,0))) (b:List Value) (s:(Builtin.firstCells i.size m (.slice o m c)).run P w=.ok b.toArray w) (r:∀u∈b,u.oneCell'=An)
  (h:a+m<=d) (k:a*i.size+b.length<=f.size) :
  (Builtin.append_ #[t,t] ty #[.slice (V ⟨g,0,U⟩) a d,.slice o m c]).run P w =
   .ok (.slice (V ⟨g,0,U⟩) (a+m) d) (w.setRow g (iX f.toList (a*i.size) b).toArray):=by
 have l:=run_storeCells_at P g (a*i.size) p b 0 f w n (by simpa using k) r;simp only[Jp] at l;simp[Builtin.append_,run_underlying v,sizeOf,typeInfo,hi,Builtin.lenOf,h,s,Addr.add_lit,l,iX]
theorem zL(t ty el:TypeId)(i:TypeInfo)(b:P.underlying t=V (.slice el))(hi:P.info? el=V i)(a:Option Addr)(c:Nat) :
  (Builtin.append_ #[t,t] ty #[.slice U 0 0,.slice a 0 c]).run P w=.ok (.slice U 0 0) w:=by
 cases a<;>simp[Builtin.append_,run_underlying b,sizeOf,typeInfo,hi,Builtin.lenOf,Builtin.firstCells,loadCells,loadCellsFrom]
theorem qbA(hT:cE P T){α:Type}[qm α][eQ α]{S:Nat->Prop}{xs ys:List α}{p I:Option Addr}{ln c c' t ty el i:Nat}{te y:TE}{Q:Value}
  (h:SH w0 w L) (hi:L[i]?=V (Ch.own S xs [.slice p ln c])) (hs:dG w (Fw.old w) ys I c') (hte:T.get t=V te) (hk:te.kind=.slice el) (X:T.get el=V y) (hz:y.zero=V Q) (hzs:(bi Q).length=y.size) (O:y.size=qm.k α)
  (hb:Nat.ble y.bytes 65536=An) (B:xs.length+ys.length<=QU) :
  ∃p2 c2 S2 w',(Builtin.append_ #[t,t] ty #[.slice p ln c,.slice I ys.length c']).run P w=.ok (.slice p2 (xs.length+ys.length) c2) w'/\SH w0 w' (L.set i (Ch.own S2 (xs++ys) [.slice p2 (xs.length+ys.length) c2])):=by
 obtain⟨g,n,hs1,hby,hz1⟩:=ru (hT _ _ X);have hu:=nq (hT _ _ hte) hk;have z:=js hb;have a4:=(h.sl i hi).2;subst a4;have f:g.size=qm.k α:=hs1.trans O;obtain⟨d,s,N,M⟩:=hs.cells (P:=P);rw[<-f] at N M;obtain⟨hP,hS⟩:=h.mem hi;obtain⟨p0,c0,he,h1,h2,h3⟩:=hP;simp only[List.cons.injEq,Value.slice.injEq,and_true,true_and] at he;obtain⟨rfl,rfl⟩:=he;unfold QU at B;have hmax:(2147483648:Nat)<=maxLen:=by simp[maxLen]
 have A:∀(olds:List Value),ub w (Fw.old w) xs olds->(Builtin.firstCells g.size xs.length (.slice p xs.length c)).run P w.drew=.ok olds.toArray w.drew->c<xs.length+ys.length ->
   ∃p2 c2 S2 w',(Builtin.append_ #[t,t] ty #[.slice p xs.length c,.slice I ys.length c']).run P w=.ok (.slice p2 (xs.length+ys.length) c2) w'/\SH w0 w' (L.set i (Ch.own S2 (xs++ys) [.slice p2 (xs.length+ys.length) c2])):=by
  intro olds m a5 K;have l:Builtin.nextslicecap (xs.length+ys.length) c*g.bytes<=281474976710656:=by
   refine growslice_fits K ?_;have:(xs.length+ys.length)*g.bytes<=2147483648*65536:=Nat.mul_le_mul B (by omega);omega
  have hr:=zK (P:=P) (w:=w) t ty el g Q hu n (hz1.trans hz) p I xs.length c ys.length c' olds d M a5 K (by omega) l;have e:=grownCap_ge w (xs.length+ys.length) c el;have W:=grownCap_le_maxLen w (xs.length+ys.length) c el (by omega);refine⟨_,_,λb=>b=w.heap.size,_,hr,?_⟩;refine h.upd hi Z Z Z (by simp) (λb z _=>heap_alloc_old w.drew _ z) ?_ ?_ (λ_ D=>D.elim)
  .refine⟨_,_,by rw[jg],?_⟩;refine WM.of_elems (w:=w) (S':=Fw.old w) (olds:=olds++d) (by simpa using e) W Z (heap_alloc_new w.drew _) ?_ (m.app s) ?_
   .have hzl:Q.cells.size=qm.k α:=by rw[<-O,<-hzs,<-kc];simp
    simp only[Array.size_append,Jd,size_zeroCells,m.1,s.1,hzl,<-Nat.add_mul]
    congr 1
    omega
   .intro r v u;have o:=(List.getElem?_eq_some_iff.1 u).1;rw[jE (by simpa using o)];simpa using u
  .intro b z;have:b=w.heap.size:=z;subst this;exact .inr ⟨jf _,by simp⟩
 rcases h3 with⟨rfl,rfl,rfl⟩|⟨b,cur,t',F,rfl,hSb,hg,hcur,hF,D,hx⟩
 .by_cases hy:ys.length=0
  .refine⟨U,0,S,w,by simpa [hy] using zL (P:=P) (w:=w) t ty el g hu n I c',?_⟩;have:ys=[]:=jT hy;subst this;refine h.upd hi Z Z Z (jf _) (λ_ _ _=>rfl) ?_ (λa C=>.inl C) (λ_ D=>D.elim);exact⟨U,0,by simp,by simp,by simp,.inl ⟨Z,by simp,Z⟩⟩
  .exact A [] ⟨by simp,by simp⟩ (by simp[Builtin.firstCells]) (by simp;omega)
 .have m:ub w (Fw.old w) xs (cur.toList.take (xs.length*qm.k α)):=WM.elems hcur h1 (λj x H=>by
   obtain⟨cs,hO,a3⟩:=hx j x H;exact⟨cs,qm.mono (qm.toR hO) (λa C=>(hS a (hF j a C).1).2),a3⟩)
  by_cases k:xs.length+ys.length<=c
  .have J:(xs.length+ys.length)*qm.k α<=c*qm.k α:=jt _ k;rw[Nat.add_mul] at J;have l:xs.length*g.size+d.length<=cur.size:=by rw[s.1,f,hcur];exact J
   have hr:=zM (P:=P) (w:=w) t ty el g hu n I b xs.length c ys.length c' cur t' hg d N s.one k l;refine⟨_,_,S,_,hr,?_⟩;refine h.upd hi Z Z Z (by simp) (λa _ C=>setRow_other w b a _ (λR=>C (R ▸ hSb))) ?_ (λa C=>.inl C) (λ_ D=>D.elim);refine⟨_,_,by rw[jg],?_⟩;refine WM.of_elems (w:=w) (S':=Fw.old w) (olds:=cur.toList.take (xs.length*qm.k α)++d) (by simpa using k) h2 hSb (setRow_heap w b _ _ t' _ hg) ?_ (m.app s) ?_
   .rw[Jd,sX (by simpa using l)];simpa using hcur
   .intro r v u;rw[jV,f];have o:=(List.getElem?_eq_some_iff.1 u).1;have hr2:(cur.toList.take (xs.length*qm.k α)++d++cur.toList.drop (xs.length*qm.k α+d.length))[r]?=V v:=by
     rw[jA o];exact u
    exact hr2
  .have Y:=run_firstCells_some (P:=P) w.drew g.size xs.length ⟨b,0,U⟩ xs.length c (cur.toList.take (xs.length*qm.k α)) (by rw[m.1,f]) (λj v H=>by
    rw[ud];rw[jK] at H;split at H
    .have:w.drew.heap[b]?=w.heap[b]?:=rfl;simp only[World.cell?,this,hg];simpa using H
    .cases H)
   exact A _ m Y (by omega)
theorem qcZ(K:cE P T){α:Type}[qm α][eQ α]{all:Array Oper}{l:List Oper}{d t ty el:Nat}{ps:String}{J:Array Edge}{x y:Operand}{S:Nat->Prop}{xs ys:List α}{p F:Option Addr}{D g c c':Nat}{H b:TE}{I:Value}(i:Nat)
  (h:SH w0 w L) (hi:L[i]?=V (Ch.own S xs [.slice p D c])) (W:dG w (Fw.old w) ys F c') (u:g=ys.length) (X:gq e x=V (.slice p D c)) (Y:gq e y=V (.slice F g c'))
  (A:T.get t=V H) (N:H.kind=.slice el) (r:T.get el=V b) (hz:b.zero=V I) (B:(bi I).length=b.size) (z:b.size=qm.k α)
  (M:Nat.ble b.bytes 65536=An) (f:xs.length+ys.length<=QU) (O:Nat.blt d n=An)
  (s:∀w' o m S2,SH w0 w' (L.set i (Ch.own S2 (xs++ys) [.slice o (xs.length+ys.length) m]))->bx P n Q (.ops all l::k) ((d,.slice o (xs.length+ys.length) m)::e) w') :
  bx P n Q (.ops all (⟨V d,.call ⟨.builtin .append,#[x,y],#[t,t]⟩,ty,ps,J,U⟩::l)::k) e w:=by
 subst u;obtain⟨o,m,S2,w',R,v⟩:=qbA K (ty:=ty) h hi W A N r hz B z M f;refine DZ Z Z O (λa C=>?_) (s w' o m S2 v);simp only[execOp,resolve,invoke,builtin,jk,jn,ji,List.map_toArray,Jj,List.map_nil,C.eval X,C.eval Y,R]
theorem qt(hT:cE P T){α:Type}[qm α][eQ α]{all:Array Oper}{l:List Oper}{d t ty el len:Nat}{ps:String}{af:Array Edge}{g:Array (Nat×Operand)}{te m:TE}{zv:Value}(os:List Operand)(f:List Value)(ys:List α)
  (h:SH w0 w L) (hh:(g.toList=(os.zipIdx 0).map λx=>(x.2,x.1))/\pD e os=V f/\len=f.length/\T.get t=V te/\te.kind=.slice el/\T.get el=V m/\m.zero=V zv/\m.size=qm.k α/\Nat.ble (f.length*m.size) 16777216=An) (u:CN w (Fw.old w) ys (f.map bi)) (hn:Nat.blt d n=An)
  (K:∀w' p S,SH w0 w' (Ch.own S ys [.slice p len len]::L)->bx P n Q (.ops all l::k) ((d,.slice p len len)::e) w') :
  bx P n Q (.ops all (⟨V d,.buildSlice t len g,ty,ps,af,U⟩::l)::k) e w:=by
 obtain⟨s,X,C,W,hk,H,hz,D,i⟩:=hh;have o:∀{ys:List α} {cs:List (List Value)},CN w (Fw.old w) ys cs->ys.length=cs.length/\∀c∈cs,c.length=qm.k α:=by
  intro ys
  induction ys with
  |nil=>intro cs u;cases cs with
   |nil=>simp
   |cons=>exact u.elim
  |cons y ys ih=>
   intro cs u;cases cs with
   |nil=>exact u.elim
   |cons c cs=>
    obtain⟨Y,h2⟩:=u;have:=ih h2;refine⟨by simp[this.1],λd A=>?_⟩;rcases List.mem_cons.1 A with rfl|A
    .exact qm.len Y
    .exact this.2 d A
 obtain⟨M,N⟩:=o u;have F:∀v∈f,(bi v).length=m.size:=λv hv=>by rw[D];exact N _ (List.mem_map.2 ⟨v,hv,Z⟩)
 have hr:=HF hT f W hk H hz (js i) F w;subst C;obtain⟨B,J⟩:=u.get;refine DZ (v:=.slice (V ⟨w.heap.size,0,U⟩) f.length f.length) (w':=w.alloc (.cells (f.map bi).flatten.toArray el)) Z Z hn (λa ha=>?_)
  (K _ _ (λb=>b=w.heap.size) (h.add ((Below.refl _ _).alloc (jf _) _) ?_ ?_ (λ_ A=>A.elim)))
 .have I:g.map (λ(x:Nat×Operand)=>(x.1,a.eval x.2))=((f.zipIdx 0).map λx=>(x.2,x.1)).toArray:=by
   apply Array.ext';rw[Array.toList_map,s];have:=vu ha X;subst this;rw[List.zipIdx_map,List.map_map,List.map_map]
   rfl
  simp only[execOp,I,jk,hr,ji,jn]
 .have z:ys.length=f.length:=by simpa using M
  refine⟨V ⟨w.heap.size,0,U⟩,f.length,by rw[z],?_⟩;have R:f.length<=maxLen:=by
   have Y:=js i;have h2:f.length*1<=f.length*m.size:=Nat.mul_le_mul_left _ (by rw[D];exact qm.kpos);simp[maxLen];omega
  refine WM.of_elems (w:=w) (S':=Fw.old w) (olds:=(f.map bi).flatten) (by rw[z];exact jf _) R Z (heap_alloc_new w _) ?_ ⟨B,J⟩ (λr v O=>by simpa using O);rw[Jd,B,z]
 .intro b hb;have:b=w.heap.size:=hb;subst this;exact⟨jf _,by simp⟩
end

@[reducible] def aU {α β:Type} (A:qm α) (B:qm β):qm (α×β) where
 k:=A.k+B.k
 agg:=An
 zero:=(A.zero,B.zero)
 zc:=A.zc++B.zc
 R w S x cs:=∃c1 c2,cs=c1++c2/\A.R w S x.1 c1/\B.R w S x.2 c2
 O w S x cs:=∃S1 S2:Nat->Prop,∃c1 c2,cs=c1++c2/\A.O w S1 x.1 c1/\B.O w S2 x.2 c2/\(∀b,S1 b->S b/\¬ S2 b)/\(∀b,S2 b->S b)
 kpos:=by have:=A.kpos;omega
 noagg h:=by cases h
 len h:=by obtain⟨c1,c2,rfl,h1,h2⟩:=h;rw[jg,A.len h1,B.len h2]
 one h c hc:=by
  obtain⟨c1,c2,rfl,h1,h2⟩:=h
  rcases List.mem_append.1 hc with hc|hc
  .exact A.one h1 c hc
  .exact B.one h2 c hc
 loc h hs:=by obtain⟨c1,c2,rfl,h1,h2⟩:=h;exact⟨c1,c2,Z,A.loc h1 hs,B.loc h2 hs⟩
 mono h hs:=by obtain⟨c1,c2,rfl,h1,h2⟩:=h;exact⟨c1,c2,Z,A.mono h1 hs,B.mono h2 hs⟩
 toR h:=by obtain⟨S1,S2,c1,c2,rfl,h1,h2,h3,h4⟩:=h;exact⟨c1,c2,Z,A.mono (A.toR h1) (λb hb=>(h3 b hb).1),B.mono (B.toR h2) h4⟩
 locO h hs:=by obtain⟨S1,S2,c1,c2,rfl,h1,h2,h3,h4⟩:=h;exact⟨S1,S2,c1,c2,Z,A.locO h1 (λb hb=>hs b (h3 b hb).1),B.locO h2 (λb hb=>hs b (h4 b hb)),h3,h4⟩
 monoO h hs:=by obtain⟨S1,S2,c1,c2,rfl,h1,h2,h3,h4⟩:=h;exact⟨S1,S2,c1,c2,Z,h1,h2,λb hb=>⟨hs b (h3 b hb).1,(h3 b hb).2⟩,λb hb=>hs b (h4 b hb)⟩
 zO w S:=⟨λ_=>False,λ_=>False,_,_,Z,A.zO w _,B.zO w _,λ_ h=>h.elim,λ_ h=>h.elim⟩
@[reducible] def va {α β:Type} (A:qm α) (f:β->α) (z:β) (hz:f z=A.zero) (ag:Bool) (hag:ag=Cd->A.k=1):qm β where
 k:=A.k
 agg:=ag
 zero:=z
 zc:=A.zc
 R w S x cs:=A.R w S (f x) cs
 O w S x cs:=A.O w S (f x) cs
 kpos:=A.kpos
 noagg:=hag
 len h:=A.len h
 one h:=A.one h
 loc h hs:=A.loc h hs
 mono h hs:=A.mono h hs
 toR h:=A.toR h
 locO h hs:=A.locO h hs
 monoO h hs:=A.monoO h hs
 zO w S:=by rw[hz];exact A.zO w S
theorem dg{α β:Type}(A:qm α)(B:qm β)(d:@eQ α A)(f:@eQ β B):@eQ (α×β) (aU A B):=
 @eQ.mk _ (aU A B) (by
  intro w w' S S' x cs h;obtain⟨c1,c,rfl,a,b⟩:=h;exact⟨λ_=>False,λ_=>False,c1,c,Z,d.fl a,f.fl b,λ_ h=>h.elim,λ_ h=>h.elim⟩) (by
  intro w w' S S' x cs g h i;obtain⟨c1,c,rfl,a,b⟩:=h;obtain⟨m,d2,rfl,k,l⟩:=i;rw[d.det a k,f.det b l])
theorem sQ{α β:Type}(A:qm α)(f:β->α)(z:β)(d:f z=A.zero)(b:Bool)(a:b=Cd->A.k=1)(c:@eQ α A):@eQ β (va A f z d b a):=
 @eQ.mk _ (va A f z d b a) (by intro w w' S S' x cs h;exact c.fl h) (by intro w w' S S' x cs g h i;exact c.det h i)
class iZ (ρ:Type) where
 Vs:World->(Nat->Prop)->ρ->List Value->Prop
instance KG{α:Type}[qm α]:iZ α where
 Vs w S x vs:=∃cs,vs=[qm.v α cs]/\qm.O w S x cs
instance (priority:=high) vsCons {α β:Type}[qm α][iZ β]:iZ (α×β) where
 Vs w S x vs:=∃S1 S2:Nat->Prop,∃cs us,vs=qm.v α cs::us/\qm.O w S1 x.1 cs/\iZ.Vs w S2 x.2 us/\(∀b,S1 b->S b/\¬ S2 b)/\(∀b,S2 b->S b)
def ww:List Value->Value
 | [v]=>v
 |vs=>.tuple vs.toArray
def qN{ρ:Type}[iZ ρ](P:Program)(f:FuncId)(a:List Value)(w:World)(r:ρ):Prop:=
 Calls P f a.toArray w λe w'=>∃v,e=.returned v/\Below w.heap.size w w'/\∃us,v=ww us/\iZ.Vs w' (mT w w') r us
structure HO(w0 w:World)(S:Nat->Prop)(L:List Ch):Prop where
 sh:SH w0 w L
 fr:∀b,S b->mT w0 w b
 ap:∀c∈L,∀b,c.S b->¬ S b
section
variable{P:Program}{T:vP}{n:Nat}{Q:Exit->Act->World->Prop}{k:List It}{e:fL}{w0 w w':World}{L:List Ch}{S:Nat->Prop}
theorem HO.push{c:Ch}{S2:Nat->Prop}(h:HO w0 w S L)(n:c.P w)(l:∀b,c.D b->b<w0.heap.size)(i:∀b,c.S b->S b/\¬ S2 b)(k:∀b,S2 b->S b):HO w0 w S2 (c::L):=by
 refine⟨⟨h.sh.below,λd a=>?_,λd a=>?_,List.pairwise_cons.2 ⟨λd a b m f=>h.ap d a b f (i b m).1,h.sh.apart⟩⟩,λb g=>h.fr b (k b g),λd a b f g=>?_⟩
 .rcases List.mem_cons.1 a with rfl|a
  .exact⟨n,λb g=>h.fr b (i b g).1⟩
  .exact h.sh.holds d a
 .rcases List.mem_cons.1 a with rfl|a
  .exact l
  .exact h.sh.elder d a
 .rcases List.mem_cons.1 a with rfl|a
  .exact(i b f).2 g
  .exact h.ap d a b f (k b g)
theorem HO.cons{α β:Type}[qm α][iZ β]{r:α×β}{b:List Value}(h:HO w0 w S L)(l:iZ.Vs w S r b) :
  ∃S1 S2 cs a,b=qm.v α cs::a/\HO w0 w S2 (Ch.own S1 r.1 cs::L)/\iZ.Vs w S2 r.2 a:=by
 obtain⟨S1,S2,cs,a,rfl,d,f,g,i⟩:=l;exact⟨S1,S2,cs,a,Z,h.push (c:=Ch.own S1 r.1 cs) d (λ_ k=>k.elim) g i,f⟩
theorem HO.last{α:Type}[qm α]{r:α}{a:List Value}(h:HO w0 w S L)(i:(KG:iZ α).Vs w S r a):∃cs,a=[qm.v α cs]/\SH w0 w (Ch.own S r cs::L):=by
 obtain⟨cs,rfl,d⟩:=i;exact⟨cs,Z,(h.push (c:=Ch.own S r cs) (S2:=λ_=>False) d (λ_ g=>g.elim) (λb f=>⟨f,λh=>h⟩) (λ_ h=>h.elim)).sh⟩
theorem HO.consI{β:Type}[iZ β]{r:Int×β}{i:List Value}(h:HO w0 w S L)(n:iZ.Vs w S r i):∃S2 a,i=.int .i64 r.1::a/\HO w0 w S2 L/\iZ.Vs w S2 r.2 a:=by
 obtain⟨S1,S2,cs,a,rfl,k,l,o,g⟩:=n;have:cs=[.int .i64 r.1]:=k;subst this;exact⟨S2,a,Z,⟨h.sh,λb d=>h.fr b (g b d),λc m b f d=>h.ap c m b f (g b d)⟩,l⟩
theorem HO.consB{β:Type}[iZ β]{r:Bool×β}{i:List Value}(h:HO w0 w S L)(n:iZ.Vs w S r i):∃S2 a,i=.bool r.1::a/\HO w0 w S2 L/\iZ.Vs w S2 r.2 a:=by
 obtain⟨S1,S2,cs,a,rfl,k,l,o,g⟩:=n;have:cs=[.bool r.1]:=k;subst this;exact⟨S2,a,Z,⟨h.sh,λb d=>h.fr b (g b d),λc m b f d=>h.ap c m b f (g b d)⟩,l⟩
theorem HO.consL{α β:Type}[qm α][iZ β]{r:List α×β}{d:List Value}(h:HO w0 w S L)(g:iZ.Vs w S r d) :
  ∃S1 S2 p c a,d=.slice p r.1.length c::a/\HO w0 w S2 (Ch.own S1 r.1 [.slice p r.1.length c]::L)/\iZ.Vs w S2 r.2 a:=by
 obtain⟨S1,S2,cs,a,rfl,b,f⟩:=h.cons g;obtain⟨p,c,rfl,_⟩:=(b.sh.mem (i:=0) Z).1;exact⟨S1,S2,p,c,a,Z,b,f⟩
theorem HO.lastI{r:Int}{a:List Value}(h:HO w0 w S L)(c:(KG:iZ Int).Vs w S r a):a=[.int .i64 r]/\SH w0 w L:=by
 obtain⟨cs,rfl,b⟩:=c;have:cs=[.int .i64 r]:=b;subst this;exact⟨Z,h.sh⟩
theorem HO.lastB{r:Bool}{a:List Value}(h:HO w0 w S L)(c:(KG:iZ Bool).Vs w S r a):a=[.bool r]/\SH w0 w L:=by
 obtain⟨cs,rfl,b⟩:=c;have:cs=[.bool r]:=b;subst this;exact⟨Z,h.sh⟩
theorem HO.lastS{r:ByteArray}{a:List Value}(h:HO w0 w S L)(c:(KG:iZ ByteArray).Vs w S r a):a=[.string r]/\SH w0 w L:=by
 obtain⟨cs,rfl,b⟩:=c;have:cs=[.string r]:=b;subst this;exact⟨Z,h.sh⟩
theorem HO.lastL{α:Type}[qm α]{r:List α}{b:List Value}(h:HO w0 w S L)(d:(KG:iZ (List α)).Vs w S r b):∃p c,b=[.slice p r.length c]/\SH w0 w (Ch.own S r [.slice p r.length c]::L):=by
 obtain⟨cs,rfl,a⟩:=h.last d;obtain⟨p,c,rfl,_⟩:=(a.mem (i:=0) Z).1;exact⟨p,c,Z,a⟩
def kH(P:Program)(f:FuncId):Prop:=∃fn,P.funcs[f]?=V fn/\fn.body.isSome=An/\(fn.name== "runtime.NumGoroutine")=Cd
theorem rP{a:Act}(r:gp n e a){d ty:Nat}{ps:String}{s:Array Edge}{g:Option (Nat×Bool)}{x:Operand}{b:Array Operand}{k:Array TypeId}{f:FuncId}{p o:Array Value}{m:List Value}
  (h:kH P f) (z:gq e x=V (.func (.func f) p o)) (c:pD e b.toList=V m) (w:World) :
  (execOp a.eval ⟨V d,.call ⟨.value x,b,k⟩,ty,ps,s,g⟩).run P w=.ok (.enter f (p.toList++m++o.toList).toArray) w:=by
 obtain⟨t,v,u,y⟩:=h;have l:t.body.isNone=Cd:=by simpa using u
 have i:=sa r c;simp only[execOp,resolve,Deferred.ofValue,jk,jn,ji,r.eval z,invoke,callFunc,run_program,v,y,l,i,Bool.false_eq_true,if_false]
 congr 2
 apply Array.ext';simp
theorem bB{ρ:Type}[iZ ρ](r:ρ){all:Array Oper}{l:List Oper}{d ty:Nat}{ps:String}{D:Array Edge}{x:Operand}{i:Array Operand}{s:Array TypeId}{f:FuncId}{B A:Array Value}{z C:List Value}
  (h:SH w0 w L) (o:kH P f) (t:qN P f C w r) (M:gq e x=V (.func (.func f) B A)) (m:pD e i.toList=V z) (y:B.toList++z++A.toList=C) (J:Nat.blt d n=An)
  (I:∀w' S p,HO w0 w' S L->iZ.Vs w' S r p->bx P n Q (.ops all l::k) ((d,ww p)::e) w'):bx P n Q (.ops all (⟨V d,.call ⟨.value x,i,s⟩,ty,ps,D,U⟩::l)::k) e w:=by
 subst y;refine yB (R:=λv w'=>Below w.heap.size w w'/\∃p,v=ww p/\iZ.Vs w' (mT w w') r p) Z Z J (λa F=>rP F o M m w) t ?_;rintro v w' ⟨H,p,rfl,K⟩;refine I w' _ p ⟨h.ext H,λb g=>⟨?_,g.2⟩,λc t b u g=>?_⟩ K
 .have:=g.1;have:=h.below.size;omega
 .have:=((h.holds c t).2 b u).2;have:=g.1;omega
theorem fQ(r:Int){all:Array Oper}{l:List Oper}{d ty:Nat}{ps:String}{t:Array Edge}{x:Operand}{a:Array Operand}{g:Array TypeId}{f:FuncId}{p o:Array Value}{m s:List Value}
  (h:SH w0 w L) (c:kH P f) (v:qN P f s w r) (C:gq e x=V (.func (.func f) p o)) (b:pD e a.toList=V m) (i:p.toList++m++o.toList=s) (z:Nat.blt d n=An)
  (y:∀w',SH w0 w' L->bx P n Q (.ops all l::k) ((d,.int .i64 r)::e) w'):bx P n Q (.ops all (⟨V d,.call ⟨.value x,a,g⟩,ty,ps,t,U⟩::l)::k) e w:=
 bB r h c v C b i z (λw' S D B A=>by obtain⟨rfl,u⟩:=B.lastI A;exact y w' u)
theorem qck(r:Bool){all:Array Oper}{l:List Oper}{d ty:Nat}{ps:String}{t:Array Edge}{x:Operand}{a:Array Operand}{g:Array TypeId}{f:FuncId}{p o:Array Value}{m s:List Value}
  (h:SH w0 w L) (c:kH P f) (v:qN P f s w r) (C:gq e x=V (.func (.func f) p o)) (b:pD e a.toList=V m) (i:p.toList++m++o.toList=s) (z:Nat.blt d n=An)
  (y:∀w',SH w0 w' L->bx P n Q (.ops all l::k) ((d,.bool r)::e) w'):bx P n Q (.ops all (⟨V d,.call ⟨.value x,a,g⟩,ty,ps,t,U⟩::l)::k) e w:=
 bB r h c v C b i z (λw' S D B A=>by obtain⟨rfl,u⟩:=B.lastB A;exact y w' u)
theorem OF(r:ByteArray){all:Array Oper}{l:List Oper}{d ty:Nat}{ps:String}{t:Array Edge}{x:Operand}{a:Array Operand}{g:Array TypeId}{f:FuncId}{p o:Array Value}{m s:List Value}
  (h:SH w0 w L) (c:kH P f) (v:qN P f s w r) (C:gq e x=V (.func (.func f) p o)) (b:pD e a.toList=V m) (i:p.toList++m++o.toList=s) (z:Nat.blt d n=An)
  (y:∀w',SH w0 w' L->bx P n Q (.ops all l::k) ((d,.string r)::e) w'):bx P n Q (.ops all (⟨V d,.call ⟨.value x,a,g⟩,ty,ps,t,U⟩::l)::k) e w:=
 bB r h c v C b i z (λw' S D B A=>by obtain⟨rfl,u⟩:=B.lastS A;exact y w' u)
theorem uH{α:Type}[qm α](r:List α){all:Array Oper}{l:List Oper}{d ty:Nat}{ps:String}{v:Array Edge}{x:Operand}{a:Array Operand}{i:Array TypeId}{f:FuncId}{t s:Array Value}{o u:List Value}
  (h:SH w0 w L) (g:kH P f) (z:qN P f u w r) (F:gq e x=V (.func (.func f) t s)) (b:pD e a.toList=V o) (m:t.toList++o++s.toList=u) (B:Nat.blt d n=An)
  (A:∀w' S p c,SH w0 w' (Ch.own S r [.slice p r.length c]::L)->bx P n Q (.ops all l::k) ((d,.slice p r.length c)::e) w'):bx P n Q (.ops all (⟨V d,.call ⟨.value x,a,i⟩,ty,ps,v,U⟩::l)::k) e w:=
 bB r h g z F b m B (λw' S H D C=>by obtain⟨p,c,rfl,y⟩:=D.lastL C;exact A w' S p c y)
theorem BE{α:Type}[qm α](r:α){all:Array Oper}{l:List Oper}{d ty:Nat}{ps:String}{t:Array Edge}{x:Operand}{a:Array Operand}{g:Array TypeId}{f:FuncId}{p o:Array Value}{m s:List Value}
  (h:SH w0 w L) (c:kH P f) (v:qN P f s w r) (C:gq e x=V (.func (.func f) p o)) (b:pD e a.toList=V m) (i:p.toList++m++o.toList=s) (z:Nat.blt d n=An)
  (y:∀w' S cs,SH w0 w' (Ch.own S r cs::L)->bx P n Q (.ops all l::k) ((d,qm.v α cs)::e) w'):bx P n Q (.ops all (⟨V d,.call ⟨.value x,a,g⟩,ty,ps,t,U⟩::l)::k) e w:=
 bB r h c v C b i z (λw' S D B A=>by obtain⟨cs,rfl,u⟩:=B.last A;exact y w' S cs u)
def pY:Nat->List Value->fL
 |_,[]=>[]
 |i,v::vs=>(i,v)::pY (i+1) vs
theorem tF:∀(a:List Value) (i j:Nat) (v:Value),(pY i a).get j=V v->i<=j/\a[j-i]?=V v
 | [],_,_,_,h=>by cases h
 |u::a,i,j,v,h=>by
  simp only[pY,fL.get] at h;cases hb:Nat.beq i j with
  |true=>
   rw[hb] at h;simp only[Option.some.injEq] at h;have:=KK hb;subst this h;simp
  |false=>
   rw[hb] at h;obtain⟨c,b⟩:=tF a (i+1) j v h;refine⟨by omega,?_⟩;rw[show j-i=(j-(i+1))+1 by omega,List.getElem?_cons_succ];exact b
theorem YW{ρ:Type}[iZ ρ]{f:FuncId}{b:Func}{c:Code}{a:List Value}{r:ρ}{m:Nat}(o:P.funcs[f]?=V b)(n:b.body=V c)(p:b.ntmps=m)(s:Nat.ble a.length m=An)
  (h:SH w w []->bx P m (bodyPost P b λe w'=>∃v,e=.returned v/\Below w.heap.size w w'/\∃us,v=ww us/\iZ.Vs w' (mT w w') r us) [.code c] (pY 0 a) w):qN P f a w r:=by
 subst p;have t:=js s;refine calls_of_wp o n ?_;have x:=h (SH.start w);have g:gp b.ntmps (pY 0 a) { tmps:=a.toArray++Array.replicate (b.ntmps-a.toArray.size) undef,defers:=[] }:=by
  refine⟨Z,by simp;omega,λi v hi=>?_⟩;obtain⟨_,d⟩:=tF a 0 i v hi;simp only[Nat.sub_zero] at d;have k:=(List.getElem?_eq_some_iff.1 d).1;rw[jE (by simpa using k)];simpa using d
 have l:=x _ g;refine wp_mono l ?_;intro ex y w' u;cases ex<;>exact u
def wF(T:vP)(e:fL)(w:World):List ResultVar->List Value->Prop
 | [],[]=>True
 |.tmp t::rs,v::vs=>e.get t=V v/\wF T e w rs vs
 |.cell a t::rs,v::vs=>(∃b cs te,e.get a=V (.pointer (V ⟨b,0,U⟩))/\T.get t=V te/\cG w b 0 cs/\ld te cs 0=V v)/\wF T e w rs vs
 |_,_=>False
def HE(tmps:Array Value):ResultVar->Sem Value
 |.tmp t=>pure (tmps.getD t undef)
 |.cell a t=>do loadVar t (<-asAddr (tmps.getD a undef))
theorem E9(a:Func)(tmps:Array Value):results a tmps=(do
  let vs <-a.results.mapM (HE tmps)
  pure (if h:vs.size=1 then vs[0] else .tuple vs)):=rfl
theorem EC(l:cE P T){a:Act}(d:gp n e a):∀{f:List ResultVar} {g:List Value},wF T e w f g->(f.mapM (HE a.tmps)).run P w=.ok g w
 | [],[],_=>rfl
 |.tmp t::f,v::g,h=>by
  have k:=d.at_ t v h.1;have p:=EC l d h.2;have i:(HE a.tmps (.tmp t)).run P w=.ok v w:=by simp[HE,Array.getD_eq_getD_getElem?,k]
  simp only[List.mapM_cons,jk,jn,ji,p,i]
 |.cell x t::f,v::g,h=>by
  obtain⟨⟨b,cs,z,y,m,s,u⟩,r⟩:=h;have k:=d.at_ x _ y;have p:=EC l d r;have c:=PZ (P:=P) (w:=w) l m (o:=0) (j:=0) s u;simp only[Instr.loadAt,Instr.sureAddr,jk,jn,ji] at c;have i:(HE a.tmps (.cell x t)).run P w=.ok v w:=by
   simp only[HE,Array.getD_eq_getD_getElem?,k,Option.getD_some,asAddr,jk,jn,ji];exact c
  simp only[List.mapM_cons,jk,jn,ji,p,i]
 | [],_::_,h=>h.elim
 |.tmp _::_,[],h=>h.elim
 |.cell _ _::_,[],h=>h.elim
theorem oP(g:cE P T){a:Act}(h:gp n e a){b:Func}{c:List Value}(i:wF T e w b.results.toList c):(results b a.tmps).run P w=.ok (ww c) w:=by
 have d:=EC (w:=w) g h i;rw[E9,jk];have f:(b.results.mapM (HE a.tmps)).run P w=.ok c.toArray w:=by
  rw[<-Array.toArray_toList (xs:=b.results),List.mapM_toArray];simp only[Sem.run_map];rw[d]
  rfl
 rw[f];simp only[ji,jn]
 congr 1
 match c with
 | []=>rfl
 | [v]=>simp[ww]
 |_::_::_=>simp[ww]
theorem aC(d:cE P T){b:Func}{ρ:Type}[iZ ρ]{r:ρ}(a:List Value)(h:SH w0 w L)(f:wF T e w b.results.toList a)(g:iZ.Vs w (mT w0 w) r a) :
  bx P n (bodyPost P b λe w'=>∃v,e=.returned v/\Below w0.heap.size w0 w'/\∃a,v=ww a/\iZ.Vs w' (mT w0 w') r a) (.code .ret::k) e w:=
 TB λ_ c=>⟨c.defers,ww a,oP d c f,ww a,Z,h.below,a,Z,g⟩
theorem qbk(r:Int)(S:Nat->Prop):iZ.Vs w S r [.int .i64 r]:=⟨[.int .i64 r],Z,Z⟩
theorem qcJ(r:Bool)(S:Nat->Prop):iZ.Vs w S r [.bool r]:=⟨[.bool r],Z,Z⟩
theorem VX(r:ByteArray)(S:Nat->Prop):iZ.Vs w S r [.string r]:=⟨[.string r],Z,Z⟩
def TZ(L:List Ch)(I:List Nat)(S:Nat->Prop):Prop:=∀b,S b->∃i c,i∈I/\L[i]?=V c/\c.S b
def PO(w:World)(L:List Ch)(I:List Nat){α:Type}[qm α](r:α)(cs:List Value):Prop:=∃S,qm.O w S r cs/\TZ L I S
def PV(w:World)(L:List Ch)(I:List Nat){ρ:Type}[iZ ρ](r:ρ)(a:List Value):Prop:=∃S,iZ.Vs w S r a/\TZ L I S
theorem qS{α:Type}[qm α]{r:α}{cs:List Value}{S:Nat->Prop}(i:Nat)(h:SH w0 w L)(hi:L[i]?=V (Ch.own S r cs)):PO w L [i] r cs:=
 ⟨S,(h.mem hi).1,λ_ a=>⟨i,_,by simp,hi,a⟩⟩
theorem mo{α:Type}[qm α][eQ α]{r:α}{cs:List Value}{S:Nat->Prop}(h:qm.R w S r cs):PO w L [] r cs:=
 ⟨λ_=>False,eQ.fl h,λ_ h=>h.elim⟩
def fu(I J:List Nat):Bool:=I.all λi=>J.all λj=>!(Nat.beq i j)
theorem uX{I J:List Nat}{S1 S2:Nat->Prop}(h:SH w0 w L)(t:TZ L I S1)(u:TZ L J S2)(x:fu I J=An):∀b,S1 b->¬ S2 b:=by
 intro b l m;obtain⟨i,c,hi,n,g⟩:=t b l;obtain⟨j,d,y,p,k⟩:=u b m;have r:i≠j:=by
  intro o;subst o;have v:=List.all_eq_true.1 x i hi;have s:=List.all_eq_true.1 v i y;rw[Y7] at s;cases s
 have a:=(List.getElem?_eq_some_iff.1 n);have f:=(List.getElem?_eq_some_iff.1 p);obtain⟨a,rfl⟩:=a;obtain⟨f,rfl⟩:=f;rcases Nat.lt_or_gt_of_ne r with hlt|hlt
 .exact List.pairwise_iff_getElem.1 h.apart i j a f hlt b g k
 .exact List.pairwise_iff_getElem.1 h.apart j i f a hlt b k g
theorem fH{α β:Type}{A:qm α}{B:qm β}{a:α}{b:β}{c1 f:List Value}{I J:List Nat}(h:SH w0 w L)(g:PO w L I a c1)(k:PO w L J b f)(n:fu I J=An):@PO w L (I++J) (α×β) (aU A B) (a,b) (c1++f):=by
 obtain⟨S1,g,w1⟩:=g;obtain⟨S2,k,m⟩:=k;have l:=uX h w1 m n;refine⟨λx=>S1 x\/S2 x,⟨S1,S2,c1,f,Z,g,k,λx d=>⟨.inl d,l x d⟩,λx d=>.inr d⟩,?_⟩;rintro x (d|d)
 .obtain⟨i,c,hi,h⟩:=w1 x d;exact⟨i,c,by simp[hi],h⟩
 .obtain⟨i,c,hi,h⟩:=m x d;exact⟨i,c,by simp[hi],h⟩
theorem rv{α:Type}[qm α]{r:α}{cs:List Value}{I:List Nat}(h:PO w L I r cs):PV w L I r [qm.v α cs]:=by
 obtain⟨S,a,b⟩:=h;exact⟨S,⟨cs,Z,a⟩,b⟩
theorem aj{α β:Type}[qm α][iZ β]{a:α}{b:β}{cs l:List Value}{I J:List Nat}(h:SH w0 w L)(f:PO w L I a cs)(g:PV w L J b l)(n:fu I J=An):PV w L (I++J) (a,b) (qm.v α cs::l):=by
 obtain⟨S1,f,w1⟩:=f;obtain⟨S2,g,m⟩:=g;have k:=uX h w1 m n;refine⟨λx=>S1 x\/S2 x,⟨S1,S2,cs,l,Z,f,g,λx d=>⟨.inl d,k x d⟩,λx d=>.inr d⟩,?_⟩;rintro x (d|d)
 .obtain⟨i,c,hi,h⟩:=w1 x d;exact⟨i,c,by simp[hi],h⟩
 .obtain⟨i,c,hi,h⟩:=m x d;exact⟨i,c,by simp[hi],h⟩
end
class TX (ρ:Type) [iZ ρ]:Prop where
 mono:∀{w:World} {S S':Nat->Prop} {r:ρ} {us:List Value},iZ.Vs w S r us->(∀b,S b->S' b)->iZ.Vs w S' r us
instance {α:Type}[qm α]:TX α:=⟨λh hs=>by obtain⟨cs,rfl,h⟩:=h;exact⟨cs,Z,qm.monoO h hs⟩⟩
instance (priority:=high){α β:Type}[qm α][iZ β]:TX (α×β):=⟨λh hs=>by
 obtain⟨S1,S2,cs,us,rfl,h1,h2,h3,h4⟩:=h
 exact⟨S1,S2,cs,us,Z,h1,h2,λb hb=>⟨hs b (h3 b hb).1,(h3 b hb).2⟩,λb hb=>hs b (h4 b hb)⟩⟩
theorem PV.done{w0 w:World}{L:List Ch}{ρ:Type}[iZ ρ][TX ρ]{r:ρ}{f:List Value}{I:List Nat}(h:SH w0 w L)(m:PV w L I r f):iZ.Vs w (mT w0 w) r f:=by
 obtain⟨S,g,k⟩:=m;refine TX.mono g (λb l=>?_);obtain⟨i,c,_,d,a⟩:=k b l;exact(h.mem d).2 b a
class Sg (α:Type) [qm α] where
 c:α->List Value
 r:∀(w:World) (S:Nat->Prop) (x:α),qm.R w S x (c x)
instance:Sg Int:=⟨λx=>[.int .i64 x],λ_ _ _=>rfl⟩
instance:Sg Bool:=⟨λx=>[.bool x],λ_ _ _=>rfl⟩
instance:Sg ByteArray:=⟨λx=>[.string x],λ_ _ _=>rfl⟩
theorem sO{w:World}{L:List Ch}{α:Type}[qm α][eQ α][Sg α]{x:α}:PO w L [] x (Sg.c x):=mo (S:=λ_=>False) (Sg.r _ _ _)
theorem ve{w:World}{L:List Ch}{α:Type}[qm α][eQ α][Sg α]{x:α}:PV w L [] x [qm.v α (Sg.c x)]:=rv sO

section
variable{P:Program}{T:vP}{n:Nat}{Q:Exit->Act->World->Prop}{k:List It}{e:fL}{w0 w w':World}{L:List Ch}
def lV(P:Program)(n:Nat)(Q:Exit->Act->World->Prop)(k:List It)(all:Array Oper)(w:World)(l:List Oper)(e:fL):Prop:=
 ∀a,gp n e a->wpQuiet P all (λw'=>Below w.heap.size w w') (λb=>∀w',Below w.heap.size w w'->post P Q k .normal b w') l a
theorem qdL{id:Nat}{ops:List Oper}(d:P.follows .mixedOrders=An)(b:Region.lexB .any ops.toArray=An)(h:lV P n Q k ops.toArray w ops e):bx P n Q (.code (.region id ops.toArray An)::k) e w:=by
 intro a c;refine wp_region_quiet (C:=λw'=>Below w.heap.size w w') d b ⟨Z,Z,Z,jf _,λ_ _=>rfl⟩ ?_;exact h a c
theorem qec{all:Array Oper}(h:∀w',Below w.heap.size w w'->bx P n Q k e w'):lV P n Q k all w [] e:=λa c w' b=>h w' b a c
theorem qbI{all:Array Oper}{l:List Oper}{op:Op}{d t:Nat}{ps:String}{b:Array Edge}{v:Value}
  (h:∀w',Below w.heap.size w w'->MV P n e ⟨V d,op,t,ps,b,U⟩ w' v) (i:Nat.blt d n=An) (g:lV P n Q k all w l ((d,v)::e)):lV P n Q k all w (⟨V d,op,t,ps,b,U⟩::l) e:=by
 intro a f;have m:Region.wanted (⟨V d,op,t,ps,b,U⟩:Oper) (yielded all a.tmps)=An:=rfl;rw[wpQuiet,if_pos m];refine⟨v,λw' c=>?_,g _ (f.put i v)⟩;unfold Oper.quietAt;rw[h w' c a f];exact⟨Z,Z⟩
theorem qe5(b:cE P T){all:Array Oper}{l:List Oper}{op:Op}{d t:Nat}{ps:String}{a:Array Edge}{v:Value}
  (h:wk T e op=V v) (f:Nat.blt d n=An) (c:lV P n Q k all w l ((d,v)::e)):lV P n Q k all w (⟨V d,op,t,ps,a,U⟩::l) e:=
 qbI (λw' _=>ZQ b h w') f c
theorem qab{all:Array Oper}{o:Oper}{l:List Oper}(h:AM e all o=V An)
  (d:lV P n Q k all w ({ o with guard:=U }::l) e):lV P n Q k all w (o::l) e:=by
 intro a c;have b:=d a c;have f:=AN c h;rw[wpQuiet,if_pos f];rw[wpQuiet,if_pos (by simp[Region.wanted])] at b;exact b
theorem dB{ρ:Type}[qm ρ](r:ρ){v:Value}(J:∀(w:World) (S:Nat->Prop) (m:List Value),(KG:iZ ρ).Vs w S r m->m=[v]){all:Array Oper}{l:List Oper}{d ty:Nat}{ps:String}{s:Array Edge}{x:Operand}{b:Array Operand}{i:Array TypeId}{f:FuncId}{z y:Array Value}{t B:List Value}
  (g:kH P f) (D:∀w',Below w.heap.size w w'->qN (ρ:=ρ) P f B w' r) (L:gq e x=V (.func (.func f) z y)) (c:pD e b.toList=V t) (o:z.toList++t++y.toList=B) (H:Nat.blt d n=An)
  (F:lV P n Q k all w l ((d,v)::e)):lV P n Q k all w (⟨V d,.call ⟨.value x,b,i⟩,ty,ps,s,U⟩::l) e:=by
 intro a A;subst o;have K:Region.wanted (⟨V d,.call ⟨.value x,b,i⟩,ty,ps,s,U⟩:Oper) (yielded all a.tmps)=An:=rfl;rw[wpQuiet,if_pos K];refine⟨v,λw' h=>?_,F _ (A.put H v)⟩;unfold Oper.quietAt;rw[rP A g L c w'];refine⟨Z,(D w' h).mono ?_⟩;rintro M p ⟨u,rfl,C,m,rfl,I⟩;refine⟨?_,h.trans (C.mono h.size)⟩;rw[J p _ m I]
 rfl
theorem N6(r:Int)(w:World)(S:Nat->Prop)(a:List Value)(h:(KG:iZ Int).Vs w S r a):a=[.int .i64 r]:=by
 obtain⟨cs,rfl,h⟩:=h;have:cs=[.int .i64 r]:=h;subst this;rfl
theorem MT(r:Bool)(w:World)(S:Nat->Prop)(a:List Value)(h:(KG:iZ Bool).Vs w S r a):a=[.bool r]:=by
 obtain⟨cs,rfl,h⟩:=h;have:cs=[.bool r]:=h;subst this;rfl
def SA(st:List Nat)(C:World->Prop)(a:Array Bool)(w:World):Prop:=(∀s∈st,a.getD s An=Cd)->C w
def ME(P:Program)(ops:Array Oper)(Q:Exit->Act->World->Prop)(st:List Nat)(C:World->Prop):Nat->Array Bool->Act->World->Prop
 |0,listed,a,w=>Region.ready .any ops listed=[]/\Q .normal a w
 |fuel+1,listed,a,w=>
  (Region.ready .any ops listed=[]->Q .normal a w) /\
  ∀i∈Region.ready .any ops listed,wpOp P ops Q i (λb w'=>SA st C (listed.setIfInBounds i An) w'/\ME P ops Q st C fuel (listed.setIfInBounds i An) b w') a w
theorem HM{ops:Array Oper}{st:List Nat}{C:World->Prop}:∀(b:Nat) (c:Array Bool) (a:Act) (w:World),ME P ops Q st C b c a w->wpAny P .any ops Q b c a w
 |0,_,_,_,h=>h
 |b+1,_,_,_,h=>⟨h.1,λi hi=>wpOp_mono (λd w' f=>HM b _ d w' f.2) (h.2 i hi)⟩
def ES(ops:Array Oper)(i s:Nat):Bool:=
 match ops[s]? with
 |some o=>o.after.any λe=>Region.binds .any e&&e.on==i
 |none=>Cd
theorem WB{ops:Array Oper}{st:List Nat}{C:World->Prop}{i:Nat}{B:Oper}{v:Value}(hi:ops[i]?=V B)(y:∀(j:Nat) (o:Oper) cs b,ops[j]?=V o->o.op≠.select cs b)
  (hQ:∀c a w,Q (.panic c) (a.put B.dst v) w->Q (.panic c) a w) (N:∀s∈st,s≠i/\ES ops i s=An) :
  ∀(f:Nat) (d:Array Bool) (a:Act) (w:World),
   (∀j D,ops[j]?=V D->j≠i->d.getD j An=Cd->(∀e∈D.after,Region.binds .any e=An->e.on≠i)->B.apart ops D=An) ->
   i∈Region.ready .any ops d->YieldsIf P ops C B v a->(∀s∈st,d.getD s An=Cd)->C w ->
   ME P ops Q st C f (d.setIfInBounds i An) (a.put B.dst v) w->ME P ops Q st C (f+1) d a w:=by
 intro f
 induction f with
 |zero=>
  intro d a w _ A T l I H;refine⟨λh=>(by rw[h] at A;cases A),λj S=>?_⟩;by_cases g:j=i
  .subst g;exact T.wpOp hi I ⟨λ_=>I,H⟩
  .have:=ready_mono S g;rw[H.1] at this;cases this
 |succ f ih=>
  intro d a w m A T l I H;refine⟨λh=>(by rw[h] at A;cases A),λj S=>?_⟩;by_cases g:j=i
  .subst g;exact T.wpOp hi I ⟨λ_=>I,H⟩
  .have z:=H.2 j (ready_mono S g);obtain⟨t,D,p,J⟩:=mem_ready.1 S;have u:∀e∈D.after,Region.binds .any e=An->e.on≠i:=λe he K X=>by
    have z:=J e he K;have h0:=(mem_ready.1 A).1;rw[X] at z;rcases Nat.lt_or_ge i d.size with h'|h'
    .simp[h'] at h0 z;rw[h0] at z;cases z
    .simp[Array.getElem?_eq_none h'] at z
   have r:∀s∈st,j≠s:=by
    intro s x Y;subst Y;have:=(N j x).2;unfold ES at this;rw[p] at this;obtain⟨ed,W,K⟩:=Array.any_eq_true'.1 this;simp only[je,beq_iff_eq] at K;exact u ed W K.1 K.2
   have O:∀s∈st,(d.setIfInBounds j An).getD s An=Cd:=λs x=>by rw[getD_set_ne An (r s x)];exact l s x
   have h2:=wpOp_putIf p (m j D p g t u) (λcs b=>y i B cs b hi) (λcs b=>y j D cs b p) hQ T z;have n:∀k ok,ops[k]?=V ok->k≠i->(d.setIfInBounds j An).getD k An=Cd ->
     (∀e∈ok.after,Region.binds .any e=An->e.on≠i)->B.apart ops ok=An:=λk ok hk a3 l a4=>by
    refine m k ok hk a3 ?_ a4;by_cases L:j=k
    .subst L;exact t
    .rw[getD_set_ne An L] at l;exact l
   have M:∀F,SA st C ((d.setIfInBounds i An).setIfInBounds j An) F->C F:=λF h=>h (λs x=>by
    rw[getD_set_ne An (r s x),getD_set_ne An (λh=>(N s x).1 h.symm)];exact l s x)
   refine wpOp_mono (λa' w' R=>⟨λ_=>M w' R.2.1,ih (d.setIfInBounds j An) a' w' n (ready_mono A (Ne.symm g)) R.1 O (M w' R.2.1) ?_⟩) h2;rw[Array.setIfInBounds_comm _ _ g];exact R.2.2
def lU(P:Program)(n:Nat)(Q:Exit->Act->World->Prop)(k:List It)(ops:Array Oper)(st:List Nat)(C:World->Prop)(c:Nat)(b:Array Bool)(e:fL)(w:World):Prop:=
 ∀a,gp n e a->ME P ops (post P Q k) st C c b a w
theorem qcY{id:Nat}{ops:List Oper}(st:List Nat)(C:World->Prop)(g:P.follows .mixedOrders=An)(m:Nat)(c:ops.toArray.size=m)(b:Array Bool)(f:Array.replicate m Cd=b)
  (h:∀w',Below w.heap.size w w'->lU P n Q k ops.toArray st C m b e w'):bx P n Q (.code (.region id ops.toArray An)::k) e w:=by
 subst c;subst f;intro a d;refine wp_region_any g (HM (st:=st) (C:=C) _ _ _ _ ?_);exact h { w with drawn:=w.drawn+1 } ⟨Z,Z,Z,jf _,λ_ _=>rfl⟩ a d
theorem R9{k:List It}{b:Func}{R:Ending->World->Prop}{d:Option Tmp}{v:Value}:∀c a w,post P (bodyPost P b R) k (.panic c) (a.put d v) w->post P (bodyPost P b R) k (.panic c) a w:=by
 intro c a w
 induction k with
 |nil=>
  intro h;refine⟨?_,h.2⟩;have:=h.1;cases d<;>exact this
 |cons x k ih=>cases x<;>exact ih
theorem gz{l:Func}{R:Ending->World->Prop}{ops:Array Oper}{st:List Nat}{C:World->Prop}{g:Nat}{b:Array Bool}(i:Nat){d:Nat}{op:Op}{t:Nat}{ps:String}{r:Array Edge}{v:Value}
  (hi:ops[i]?=V ⟨V d,op,t,ps,r,U⟩) (f:Array Bool) (F:b.setIfInBounds i An=f)
  (x:(Region.noSelect ops&&Region.free .any ops b i&&(Region.ready .any ops b).contains i&&st.all (λs=>!(Nat.beq s i)&&ES ops i s&&!(b.getD s An)))=An)
  (I:∀w',C w'->MV P n e ⟨V d,op,t,ps,r,U⟩ w' v) (B:C w) (H:Nat.blt d n=An)
  (D:lU P n (bodyPost P l R) k ops st C g f ((d,v)::e) w):lU P n (bodyPost P l R) k ops st C (g+1) b e w:=by
 subst F;simp only[je,jR,jC] at x;obtain⟨⟨⟨y,z⟩,A⟩,o⟩:=x;intro a u;refine WB hi (Region.noSelect_spec y) (λc a w h=>R9 c a w h) (λs m=>⟨λh=>?_,(o s m).1.2⟩) g b a w (Region.free_spec hi z) (by simpa using A) (.inl ⟨Z,λw' p=>I w' p a u⟩) (λs m=>(o s m).2) B (D _ (u.put H v));have:=(o s m).1.1;rw[h,Y7] at this;cases this
def BJ(P:Program)(_:Nat)(Q:Exit->Act->World->Prop)(k:List It)(ops:Array Oper)(st:List Nat)(C:World->Prop)(c:Nat)(b:Array Bool)(a:Act)(w:World):Prop:=
 SA st C b w/\ME P ops (post P Q k) st C c b a w
theorem bN{ops:Array Oper}{st:List Nat}{C:World->Prop}{c:Nat}{b:Array Bool}{all:Array Oper}(d:SA st C b w)(h:lU P n Q k ops st C c b e w):bx P n Q (.ops all []::.goal (BJ P n Q k ops st C c b)::k) e w:=
 λa f=>⟨d,h a f⟩
theorem tZ{ops:Array Oper}{i:Nat}{o:Oper}{J:Act->World->Prop}{a:Act}(hi:ops[i]?=V o)(h:wpList P ops (post P Q (.goal J::k)) [o] a w):wpOp P ops (post P Q k) i J a w:=by
 unfold wpOp;simp only[hi];rw[wpList] at h;split at h
 .rename_i hw
  rw[if_pos hw];rcases h with h|⟨h1,h2⟩
  .refine .inl ?_;unfold Oper.wp at *;generalize (execOp a.eval o).run P w=r at *;cases r with
   |ok m w'=>
    cases m<;>simp only[Oper.upon] at h⊢<;>exact h
   |halt x w'=>cases x<;>simp only[Oper.upon] at h⊢<;>exact h
  .exact .inr ⟨h1,h2⟩
 .rename_i hw
  rw[if_neg hw];exact h
theorem AH{ops:Array Oper}{st:List Nat}{C:World->Prop}{d:Nat}{b:Array Bool}(i:Nat){o:Oper}(hi:ops[i]?=V o)(c:Array Bool)(p:b.setIfInBounds i An=c)(l:Region.ready .any ops b=[i])
  (h:bx P n Q (.ops ops [o]::.goal (BJ P n Q k ops st C d c)::k) e w):lU P n Q k ops st C (d+1) b e w:=by
 subst p;intro a m;refine⟨λf=>(by rw[l] at f;cases f),λj g=>?_⟩;rw[l] at g;have:j=i:=by simpa using g
 subst this;exact tZ hi (h a m)
theorem qea{ops:Array Oper}{st:List Nat}{C:World->Prop}{f:Nat}{b:Array Bool}(i j:Nat){o t:Oper}(hi:ops[i]?=V o)(x:ops[j]?=V t)(c d:Array Bool)(h:b.setIfInBounds i An=c)(l:b.setIfInBounds j An=d)(s:Region.ready .any ops b=[i,j])
  (u:bx P n Q (.ops ops [o]::.goal (BJ P n Q k ops st C f c)::k) e w) (v:bx P n Q (.ops ops [t]::.goal (BJ P n Q k ops st C f d)::k) e w):lU P n Q k ops st C (f+1) b e w:=by
 subst h l;intro a r;refine⟨λp=>(by rw[s] at p;cases p),λm g=>?_⟩;rw[s] at g;rcases List.mem_cons.1 g with rfl|g
 .exact tZ hi (u a r)
 .have:m=j:=by simpa using g
  subst this;exact tZ x (v a r)
theorem rN{ops:Array Oper}{st:List Nat}{C:World->Prop}{g:Nat}{b:Array Bool}(i j m:Nat){o y l:Oper}(hi:ops[i]?=V o)(D:ops[j]?=V y)(F:ops[m]?=V l)(c d f:Array Bool)(r:b.setIfInBounds i An=c)(s:b.setIfInBounds j An=d)(t:b.setIfInBounds m An=f)(v:Region.ready .any ops b=[i,j,m])
  (z:bx P n Q (.ops ops [o]::.goal (BJ P n Q k ops st C g c)::k) e w) (A:bx P n Q (.ops ops [y]::.goal (BJ P n Q k ops st C g d)::k) e w) (B:bx P n Q (.ops ops [l]::.goal (BJ P n Q k ops st C g f)::k) e w):lU P n Q k ops st C (g+1) b e w:=by
 subst r s t;intro a p;refine⟨λu=>(by rw[v] at u;cases u),λx h=>?_⟩;rw[v] at h;rcases List.mem_cons.1 h with rfl|h
 .exact tZ hi (z a p)
 .rcases List.mem_cons.1 h with rfl|h
  .exact tZ D (A a p)
  .have:x=m:=by simpa using h
   subst this;exact tZ F (B a p)
theorem A5{ops:Array Oper}{st:List Nat}{C:World->Prop}{b:Array Bool}(d:Region.ready .any ops b=[])(h:bx P n Q k e w):lU P n Q k ops st C 0 b e w:=
 λa c=>⟨d,h a c⟩
end

abbrev qj(x:Int):Int:=IntKind.i64.wrap x
inductive eE (ρ σ:Type) where
 |ret (r:ρ)
 |nxt (s:σ)
def yW{α:Type}(n:Int)(z:α):Option (List α):=if 0<=n/\n<=QU then V (List.replicate n.toNat z) else U
theorem aT{α:Type}{n:Int}{z:α}{r:List α}(h:yW n z=V r):0<=n/\n<=QU/\List.replicate n.toNat z=r:=by
 unfold yW at h;split at h
 .rename_i hh;simp only[Option.some.injEq] at h;exact⟨hh.1,hh.2,h⟩
 .cases h
def df{α:Type}(xs ys:List α):Option (List α):=if xs.length+ys.length<=QU then V (xs++ys) else U
theorem qJ{α:Type}{xs ys r:List α}(h:df xs ys=V r):xs.length+ys.length<=QU/\xs++ys=r:=by
 unfold df at h;split at h
 .rename_i hh;simp only[Option.some.injEq] at h;exact⟨hh,h⟩
 .cases h
def am{α:Type}(xs:List α)(i:Int)(y:α):List α:=xs.set i.toNat y
theorem KM{α:Type}{c:Bool}{a b:Option α}{r:α}(d:c=An)(h:(bif c then a else b)=V r):a=V r:=by rw[d] at h;exact h
theorem KL{α:Type}{c:Bool}{a b:Option α}{r:α}(d:c=Cd)(h:(bif c then a else b)=V r):b=V r:=by rw[d] at h;exact h
theorem qc{α β:Type}{x:Option α}{f:α->Option β}{r:β}(h:x.bind f=V r):∃a,x=V a/\f a=V r:=Option.bind_eq_some_iff.1 h
theorem bindE{α β:Type}{x:Option α}{f:α->Option β}{r:β}(h:x.bind f=V r):∃g:α->Option β,g=f/\∃a,x=V a/\g a=V r:=by
 obtain⟨a,b,c⟩:=qc h;exact⟨f,Z,a,b,c⟩
theorem qn{P:Program}{n:Nat}{Q:Exit->Act->World->Prop}{a:List It}{e:fL}{w:World}{α:Type}{c:Operand}{x y:Code}{b:Bool}{f g:Option α}{r:α}(i:gq e c=V (.bool b))(d:(bif b then f else g)=V r)
  (l:f=V r->bx P n Q (.code x::a) e w) (k:g=V r->bx P n Q (.code y::a) e w):bx P n Q (.code (.cond c x y)::a) e w:=
 vw i (λh=>l (KM h d)) (λh=>k (KL h d))
theorem qeW{P:Program}{T:vP}{n:Nat}{k:List It}{e:fL}{w0 w:World}{L:List Ch}(c:cE P T){a:Func}{x r:Bool}(h:SH w0 w L)(b:V x=V r)(d:wF T e w a.results.toList [.bool x]) :
  bx P n (bodyPost P a λe w'=>∃v,e=.returned v/\Below w0.heap.size w0 w'/\∃us,v=ww us/\iZ.Vs w' (mT w0 w') r us) (.code .ret::k) e w:=
 Option.some.inj b ▸ aC c (ρ:=Bool) [_] h d (qcJ _ _)
theorem qeX{P:Program}{T:vP}{n:Nat}{k:List It}{e:fL}{w0 w:World}{L:List Ch}(c:cE P T){a:Func}{x r:Int}(h:SH w0 w L)(b:V x=V r)(d:wF T e w a.results.toList [.int .i64 x]) :
  bx P n (bodyPost P a λe w'=>∃v,e=.returned v/\Below w0.heap.size w0 w'/\∃us,v=ww us/\iZ.Vs w' (mT w0 w') r us) (.code .ret::k) e w:=
 Option.some.inj b ▸ aC c (ρ:=Int) [_] h d (qbk _ _)
abbrev tt:Bool:=An
abbrev ff:Bool:=Cd
theorem qe{α:Type}{a r:α}(h:V a=V r):a=r:=Option.some.inj h
theorem qE{iv:Int}{l m:Nat}(h:iv<(m:Int))(e:l=m):iv<(l:Int):=e ▸ h
section
variable{P:Program}{T:vP}{n:Nat}{Q:Exit->Act->World->Prop}{k:List It}{e:fL}{w0 w w':World}{L:List Ch}
theorem pP{α:Type}[qm α]{S:Nat->Prop}:dG w S ([]:List α) U 0:=⟨by simp,by simp,.inl ⟨.inl Z,Z⟩⟩
theorem kP{α:Type}[qm α]:PO w L [] ([]:List α) [.slice U 0 0]:=⟨λ_=>False,⟨U,0,Z,by simp,by simp,.inl ⟨Z,Z,Z⟩⟩,λ_ h=>h.elim⟩
theorem qdP{t:Nat}{b:Bool}(d:b=An)(g:e.get t=V (.bool b))(f:bx P n Q k ((t,.bool An)::e) w):bx P n Q k e w:=by
 subst d;intro a c;refine f a ⟨c.defers,c.size,λi v hi=>?_⟩;simp only[fL.get] at hi;cases hbb:Nat.beq t i with
 |true=>rw[hbb] at hi;simp only[Option.some.injEq] at hi;subst hi;have:=KK hbb;subst this;exact c.at_ _ _ g
 |false=>rw[hbb] at hi;exact c.at_ _ _ hi
theorem qdO{t:Nat}{b:Bool}(d:b=Cd)(g:e.get t=V (.bool b))(f:bx P n Q k ((t,.bool Cd)::e) w):bx P n Q k e w:=by
 subst d;intro a c;refine f a ⟨c.defers,c.size,λi v hi=>?_⟩;simp only[fL.get] at hi;cases hbb:Nat.beq t i with
 |true=>rw[hbb] at hi;simp only[Option.some.injEq] at hi;subst hi;have:=KK hbb;subst this;exact c.at_ _ _ g
 |false=>rw[hbb] at hi;exact c.at_ _ _ hi
theorem qdh{all:Array Oper}{l:List Oper}{t:Nat}{b:Bool}(d:b=An)(g:e.get t=V (.bool b))(f:lV P n Q k all w l ((t,.bool An)::e)):lV P n Q k all w l e:=by
 subst d;intro a c;refine f a ⟨c.defers,c.size,λi v hi=>?_⟩;simp only[fL.get] at hi;cases hbb:Nat.beq t i with
 |true=>rw[hbb] at hi;simp only[Option.some.injEq] at hi;subst hi;have:=KK hbb;subst this;exact c.at_ _ _ g
 |false=>rw[hbb] at hi;exact c.at_ _ _ hi
theorem qdg{all:Array Oper}{l:List Oper}{t:Nat}{b:Bool}(d:b=Cd)(g:e.get t=V (.bool b))(f:lV P n Q k all w l ((t,.bool Cd)::e)):lV P n Q k all w l e:=by
 subst d;intro a c;refine f a ⟨c.defers,c.size,λi v hi=>?_⟩;simp only[fL.get] at hi;cases hbb:Nat.beq t i with
 |true=>rw[hbb] at hi;simp only[Option.some.injEq] at hi;subst hi;have:=KK hbb;subst this;exact c.at_ _ _ g
 |false=>rw[hbb] at hi;exact c.at_ _ _ hi
theorem qbj{x y:Operand}{t o d ty:Nat}{ps:String}{i:Array Edge}{g:Option (Nat×Bool)}{kd f:IntKind}{a b:Int}
  (p:0<=b) (l:gq e x=V (.int kd a)) (m:gq e y=V (.int f b)):MV P n e ⟨V d,.binOp .shl t x y o,ty,ps,i,g⟩ w (.int kd (kd.wrap (a*2 ^ (min b.toNat kd.bits)))):=by
 intro c h;have k:¬ b<0:=by omega
 simp only[execOp,h.eval l,h.eval m,jk,tN,ji,binOp,Op.shift,k,if_false,jn]
theorem qc4{x y:Operand}{t m d ty:Nat}{ps:String}{h:Array Edge}{g:Option (Nat×Bool)}{kd:IntKind}{a b:Int}
  (i:b≠0) (k:gq e x=V (.int kd a)) (l:gq e y=V (.int kd b)):MV P n e ⟨V d,.binOp .quo t x y m,ty,ps,h,g⟩ w (.int kd (kd.wrap (a.tdiv b))):=by
 intro c f;simp only[execOp,f.eval k,f.eval l,jk,tN,ji,binOp,ne_eq,not_true_eq_false,if_false,Op.intDiv,i,jn]
theorem N5{x y:Operand}{t m d ty:Nat}{ps:String}{h:Array Edge}{g:Option (Nat×Bool)}{kd:IntKind}{a b:Int}
  (i:b≠0) (k:gq e x=V (.int kd a)) (l:gq e y=V (.int kd b)):MV P n e ⟨V d,.binOp .rem t x y m,ty,ps,h,g⟩ w (.int kd (a.tmod b)):=by
 intro c f;simp only[execOp,f.eval k,f.eval l,jk,tN,ji,binOp,ne_eq,not_true_eq_false,if_false,Op.intDiv,i,jn]
def Ch.rowD{α:Type}[qm α](w0:World)(S:Nat->Prop)(xs:List α)(p:Option Addr)(c:Nat):Ch where
 S:=S
 D _:=False
 P w:=xs.length<=c/\c<=maxLen/\((p=U/\xs=[]/\c=0)\/∃b cur T,p=V ⟨b,0,U⟩/\S b/\w.heap[b]?=V (.cells cur T (0,0))/\cur.size=c*qm.k α /\
  ∀i x,xs[i]?=V x->∃cs,qm.R w0 (old w0) x cs/\∀j v,cs[j]?=V v->cur[i*qm.k α+j]?=V v)
 loc w w' h _ hp:=by
  obtain⟨d,f,a⟩:=hp
  refine⟨d,f,?_⟩
  rcases a with a|⟨b,cur,T,rfl,hb,hg,hc,hx⟩
  .exact .inl a
  .exact .inr ⟨b,cur,T,Z,hb,by rw[h b hb];exact hg,hc,hx⟩
end

section
variable{P:Program}{T:vP}{n:Nat}{Q:Exit->Act->World->Prop}{k:List It}{e:fL}{w0 w w':World}{L:List Ch}
def W3(n:Nat)(J:fL->World->Prop)(a:Act)(w:World):Prop:=∃e,gp n e a/\J e w
theorem qaR{J:fL->World->Prop}(b:∀e w,J e w->bx P n Q k e w):∀ex a w,post P Q (.goal (W3 n J)::k) ex a w->post P Q k ex a w:=by
 intro ex a w h;cases ex with
 |normal=>obtain⟨e,f,d⟩:=h;exact b e w d a f
 |exit id=>exact h
 |goto l=>exact h
 |ret=>exact h
 |panic c=>exact h
 |outgrown=>exact h
theorem bw{c:Code}(J:fL->World->Prop)(b:bx P n Q (.code c::.goal (W3 n J)::k) e w)(d:∀e w,J e w->bx P n Q k e w):bx P n Q (.code c::k) e w:=
 λa f=>wp_mono (b a f) (qaR d)
theorem U0{J:fL->World->Prop}(a:fL)(d:HK e a)(b:J a w):bx P n Q (.goal (W3 n J)::k) e w:=
 λ_ c=>⟨a,c.sub d,b⟩
def vU(a:List (Nat×Nat×Option Bool))(i:Nat):Option (Nat×Nat):=
 match a[i]? with
 |some (o,s,_)=>V (o,s)
 |none=>U
theorem TF(w:World):∀(a:List Field),(∀f∈a,(UB P f.type).isSome=An)->(a.mapM λf=>Prod.mk f.offset <$> sizeOf f.type).run P w=.ok (a.map λf=>(f.offset,P.cellsOf f.type)) w
 | [],_=>by simp
 |f::a,h=>by
  have k:=TF w a (λg d=>h g (by simp[d]));obtain⟨b,c⟩:=Option.isSome_iff_exists.1 (h f (by simp));have i:=MK c Z w;simp[List.mapM_cons,i,k]
theorem F0(A:cE P T){t:TypeId}{g:TE}{zc:Array Value}{a:List (Nat×Value)}{cs:List Value}(v:T.get t=V g)(C:g.kind=.struct)(F:g.zero=V (.agg zc))(h:g.fields.all (λf=>f.2.2.isSome)=An)
  (B:GI (vU g.fields) zc.toList a=V cs) (w:World):(Instr.build t a.toArray).run P w=.ok (.agg cs.toArray) w:=by
 have b:=A _ _ v;obtain⟨i,hi,_,_,x⟩:=ru b;obtain⟨d,z,o⟩:=pv b;rw[C] at o;cases d<;>simp at o
 rename_i fs
 have m:g.fields=fs.toList.map (λf=>(f.offset,P.cellsOf f.type,UB P f.type)):=by
  unfold vf at b;rw[hi,z] at b;simp only[Option.some.injEq] at b;rw[<-b]
 have l:∀f∈fs.toList,(UB P f.type).isSome=An:=by
  intro f r;rw[m] at h;simp only[List.all_map,jR,Function.comp] at h;exact h f r
 have D:=TF (P:=P) w fs.toList l;have k:=sP _ _ _ _ B;have u:∀(n:Nat),vU g.fields n=(fs.toList.map λf=>(f.offset,P.cellsOf f.type)).toArray[n]?:=by
  intro n;unfold vU;rw[m];simp only[List.getElem?_map,jV];cases fs.toList[n]?<;>rfl
 have s:(fs.mapM λf=>Prod.mk f.offset <$> sizeOf f.type).run P w=.ok (fs.toList.map λf=>(f.offset,P.cellsOf f.type)).toArray w:=by
  rw[<-Array.toArray_toList (xs:=fs),List.mapM_toArray];simp only[Sem.run_map];rw[D]
  rfl
 have c:Instr.fill ((fs.toList.map λf=>(f.offset,P.cellsOf f.type)).toArray[·]?) zc a=V cs.toArray:=by
  have:(λn=>(fs.toList.map λf=>(f.offset,P.cellsOf f.type)).toArray[n]?)=vU g.fields:=funext λn=>(u n).symm;rw[this];simpa using k
 have y:i.zero=V (.agg zc):=x.trans F;simp only[Instr.build,zeroValue,typeInfo,jk,run_program,ji,hi,jn,y,run_underlying z,Value.cells];have p:(fs.mapM λf=>(do let __do_lift <-sizeOf f.type;pure (f.offset,__do_lift):Sem (Nat×Nat))).run P w=.ok (fs.toList.map λf=>(f.offset,P.cellsOf f.type)).toArray w:=by
  simpa using s
 rw[p];simp only[ji,c,jn]
theorem qB(r:cE P T){t d ty:Nat}{ps:String}{p:Array Edge}{g:Option (Nat×Bool)}{b:Array (Nat×Operand)}{h:TE}{zc:Array Value}(is:List Nat)(os:List Operand){o:List Value}{cs:List Value}
  (v:b.toList=is.zip os/\is.length=os.length/\pD e os=V o/\T.get t=V h/\h.kind=.struct/\h.zero=V (.agg zc)/\(h.fields.all (λf=>f.2.2.isSome)=An)/\GI (vU h.fields) zc.toList (is.zip o)=V cs):MV P n e ⟨V d,.build t b,ty,ps,p,g⟩ w (.agg cs.toArray):=by
 obtain⟨c,_,m,l,y,A,i,u⟩:=v;intro a s;have k:b.map (λ(x:Nat×Operand)=>(x.1,a.eval x.2))=(is.zip o).toArray:=by
  apply Array.ext';rw[Array.toList_map,c];have:=vu s m;subst this;simp only[List.zip_map_right]
  rfl
 have z:=F0 r l y A i u w;simp only[execOp,k,jk,z,ji,jn]
end
def T9(a b:Int):Option Int:=if b=0 then U else V (IntKind.i64.wrap (a.tdiv b))
theorem SZ{a b r:Int}(h:T9 a b=V r):b≠0/\IntKind.i64.wrap (a.tdiv b)=r:=by
 unfold T9 at h;split at h
 .cases h
 .rename_i hb;exact⟨hb,Option.some.inj h⟩
def HD(a b:Int):Option Int:=if b=0 then U else V (a.tmod b)
theorem vx{a b r:Int}(h:HD a b=V r):b≠0/\a.tmod b=r:=by
 unfold HD at h;split at h
 .cases h
 .rename_i hb;exact⟨hb,Option.some.inj h⟩
def F6(a b:Int):Option Int:=if 0<=b then V (IntKind.i64.wrap (a*2 ^ (min b.toNat IntKind.i64.bits))) else U
theorem LP{a b r:Int}(h:F6 a b=V r):0<=b/\IntKind.i64.wrap (a*2 ^ (min b.toNat IntKind.i64.bits))=r:=by
 unfold F6 at h;split at h
 .rename_i hb;exact⟨hb,Option.some.inj h⟩
 .cases h
theorem qR{α:Type}[qm α][eQ α]{w0 w w1:World}{L:List Ch}{S S1:Nat->Prop}{xs:List α}{p:Option Addr}{s c b o q:Nat}{iv:Int}{x:α}{cs:List Value}(h:SH w0 w L)(i:Nat)(hi:L[i]?=V (Ch.own S xs [.slice p s c]))
  (r:qG xs iv=V x) (l:p=V ⟨b,o,U⟩) (m:q=o+iv.toNat*qm.k α) (n:qm.R w1 S1 x cs):cG w b q cs:=by
 obtain⟨t,u,v,k,a,f,_,g,d⟩:=(h.sl i hi).1.at r;rw[l] at a;simp only[Option.some.injEq,Addr.mk.injEq,and_true] at a;obtain⟨rfl,rfl⟩:=a;subst m f;rw[eQ.det n g];exact d
section
variable{P:Program}{T:vP}{n:Nat}{Q:Exit->Act->World->Prop}{k:List It}{e:fL}{w0 w w':World}{L L':List Ch}
theorem SH.pickT(m:Nat)(is:List Nat)(h:SH w0 w L)(r:(LF is&&is.all (λi=>Nat.blt i m))=An):SH w0 w (IM L is++L.drop m):=by
 simp only[je,jR] at r;have g:=h.p is r.1;refine⟨h.below,λc a=>?_,λc a=>?_,?_⟩
 .rcases List.mem_append.1 a with a|a
  .exact g.holds c a
  .exact h.holds c (List.mem_of_mem_drop a)
 .rcases List.mem_append.1 a with a|a
  .exact g.elder c a
  .exact h.elder c (List.mem_of_mem_drop a)
 .refine List.pairwise_append.2 ⟨g.apart,h.apart.sublist (List.drop_sublist _ _),λc a d s b k l=>?_⟩;obtain⟨i,hi,n⟩:=tT a;have t:i<m:=by simpa [Nat.blt_eq] using r.2 i hi
  obtain⟨j,u,f⟩:=Ji s;rw[List.getElem_drop] at f;obtain⟨o,rfl⟩:=List.getElem?_eq_some_iff.1 n;have p:m+j<L.length:=by simp at u;omega
  subst f;exact List.pairwise_iff_getElem.1 h.apart i (m+j) o p (by omega) b k l
theorem SH.headV{c:Ch}(h:SH w0 w (c::L)):HO w0 w c.S L/\c.P w:=by
 have f:=List.pairwise_cons.1 h.apart;exact⟨⟨⟨h.below,λd a=>h.holds d (by simp[a]),λd a=>h.elder d (by simp[a]),f.2⟩,(h.holds c (by simp)).2,λd a b i g=>f.1 d a b g i⟩,(h.holds c (by simp)).1⟩
theorem HO.less{S S2:Nat->Prop}(h:HO w0 w S L)(f:∀b,S2 b->S b):HO w0 w S2 L:=
 ⟨h.sh,λb a=>h.fr b (f b a),λc g b d a=>h.ap c g b d (f b a)⟩
end
end Go.Fw


namespace Go.Fw
open Go
open Go.ChangeShapes Go.WideShapes Go.ChangeAt Go.RowKit
theorem AV{β:Type}{p:Nat->β->Prop}:∀(n:Nat),(∀i,i<n->∃y,p i y)->∃ys:List β,ys.length=n/\∀i y,ys[i]?=V y->p i y
 |0,_=>⟨[],Z,λi y h=>by simp at h⟩
 |n+1,h=>by
  obtain⟨ys,b,d⟩:=AV n (λi hi=>h i (by omega));obtain⟨y,c⟩:=h n (by omega);refine⟨ys++[y],by simp[b],λi z a=>?_⟩;by_cases hi:i<n
  .rw[jA (by omega)] at a;exact d i z a
  .rw[jD (by omega)] at a;have:i-ys.length=0:=by
    have:=(List.getElem?_eq_some_iff.1 a).1;simp at this;omega
   rw[this] at a;simp only[List.getElem?_cons_zero,Option.some.injEq] at a;subst a;rw[show i=n by omega];exact c
def GF(P:Program)(t:TypeId){α:Type}(A:qm α)(ρ:α->Prop):Prop:=
 P.cellsOf t=A.k/\∀{H:Type} {enc:TypeId×Value->H} {w:World} {a:Nat} {cs:List Value} {x:DataW H×List MemPlace},
  DataW.trod enc P w 0 (λ_=>An) An a t cs=V x->∃y:α,A.R w (old w) y cs/\ρ y
def qco{α:Type}(ρ:α->Prop)(xs:List α):Prop:=xs.length<=9223372036854775807/\∀x∈xs,ρ x
section
variable{P:Program}{t e:TypeId}
theorem cells?_at {w:World}{a:Addr}{n:Nat}{cs:List Value}(h:w.cells? 0 a n=V cs){j:Nat}{v:Value}(b:cs[j]?=V v):w.cell? (a.add j)=V v:=by
 obtain⟨_,d,c⟩:=World.cells?_some h;rw[c j (by have:=(List.getElem?_eq_some_iff.1 b).1;omega),b]
theorem cell?_open {w:World}{a:Addr}{v:Value}(h:w.cell? a=V v):∃b o cur T fr,a=⟨b,o,U⟩/\b<w.heap.size/\w.heap[b]?=V (.cells cur T fr)/\cur[o]?=V v:=by
 have d:=World.block_lt_of_cell? w a h;have f:=World.cell?_spot h;obtain⟨b,o,s⟩:=a;simp only at f;subst f;unfold World.cell? at h;split at h
 .rename_i c T fr hg
  exact⟨b,o,c,T,fr,Z,d,hg,by simpa using h⟩
 .cases h
theorem YL{α:Type}{A:qm α}{ρ:α->Prop}(ht:P.underlying t=V (.slice e))(R:P.cellsOf t=1)(h:GF P e A ρ):GF P t (@bD α A) (qco ρ):=by
 refine⟨R,λ{H enc w K cs x} hx=>?_⟩;obtain⟨D,hr⟩:=h;have X:0<A.k:=A.kpos;rcases DataW.trod_slice ht hx with⟨rfl,_⟩|⟨a,len,cap,elems,rest,n,rfl,rfl,_,_,hlc,hcm,hel,h1,u,_⟩
 .exact⟨[],⟨U,0,Z,by simp,by simp,.inl ⟨.inl Z,Z⟩⟩,by simp,by simp⟩
 .obtain⟨hrl,u⟩:=u Z;have d:∀i,i<cap->∃cs,w.cells? 0 (a.add (i*A.k)) A.k=V cs:=by
   intro i hi;by_cases B:i<len
   .have:=h1 i B;rw[jj (by omega)] at this;obtain⟨cs,c,_⟩:=Option.bind_eq_some_iff.1 this;rw[D] at c;exact⟨cs,c⟩
   .have:=u (i-len) (by omega);rw[jj (by omega)] at this;obtain⟨cs,c,_⟩:=Option.bind_eq_some_iff.1 this;rw[D,show len+(i-len)=i by omega] at c;exact⟨cs,c⟩
  obtain⟨ys,s,N⟩:=AV (p:=λi (y:α)=>∃cs,w.cells? 0 (a.add (i*A.k)) A.k=V cs/\A.R w (old w) y cs/\ρ y) len (λi hi=>by
   have:=h1 i hi;rw[jj (by omega)] at this;obtain⟨cs,c,S⟩:=Option.bind_eq_some_iff.1 this;rw[D] at c;obtain⟨y,F,I⟩:=hr S;exact⟨y,cs,c,F,I⟩)
  have r:qco ρ ys:=⟨by rw[s];unfold maxLen at hcm;omega,λy hm=>by
   obtain⟨i,hi⟩:=List.mem_iff_getElem?.1 hm;obtain⟨_,_,_,h⟩:=N i y hi;exact h⟩
  refine⟨ys,⟨V a,cap,by rw[s],by omega,hcm,?_⟩,r⟩;by_cases k:cap=0
  .exact .inl ⟨.inr k,jT (by omega)⟩
  .obtain⟨c0,g⟩:=d 0 (by omega);obtain⟨_,Y,_⟩:=World.cells?_some g;have e0:=cells?_at g (j:=0) (jj (by omega));have z:(a.add (0*A.k)).add 0=a:=by simp[Addr.add]
   rw[z] at e0;obtain⟨b,o,f,T,fr,rfl,Q,L,_⟩:=cell?_open e0;have m:∀i,i<cap->∀j cs v,w.cells? 0 ((⟨b,o,U⟩:Addr).add (i*A.k)) A.k=V cs->cs[j]?=V v->f[o+i*A.k+j]?=V v:=by
    intro i hi j cs v c C;have:=cells?_at c C;rw[ud,ud] at this;simp only[World.cell?,L] at this;simpa using this
   refine .inr ⟨b,o,f,T,fr,Z,Q,L,?_,λi y hi=>?_⟩
   .obtain⟨O,l⟩:=d (cap-1) (by omega);obtain⟨_,a3,_⟩:=World.cells?_some l;have:=m (cap-1) (by omega) (A.k-1) O _ l (jj (by omega));have a4:=(Array.getElem?_eq_some_iff.1 this).1;have M:cap*A.k=(cap-1)*A.k+A.k:=by
     have:cap=(cap-1)+1:=by omega
     conv=>lhs;rw[this]
     rw[jP]
    show o+cap*A.k<=f.size;omega
   .obtain⟨cs,c,J,_⟩:=N i y hi;have W:=(List.getElem?_eq_some_iff.1 hi).1;exact⟨cs,J,λj v C=>m i (by omega) j cs v c C⟩
structure qeK(P:Program)(fs:List Field)(cQ:Nat){α:Type}(A:qm α)(ρ:α->Prop):Prop where
 get:∀{H:Type} {enc:TypeId×Value->H} {w:World} {fuel:Nat} {cs:List Value},cs.length=cQ+A.k ->
  (∀f∈fs,∃x,DataW.trod enc P w 0 (λ_=>An) An fuel f.type ((cs.drop f.offset).take (P.cellsOf f.type))=V x)->∃y:α,A.R w (old w) y (cs.drop cQ)/\ρ y
end
theorem GF.imp{P:Program}{t:TypeId}{α:Type}{A:qm α}{ρ σ:α->Prop}(h:GF P t A ρ)(hi:∀y,ρ y->σ y):GF P t A σ:=
 ⟨h.1,λc=>by obtain⟨y,a,b⟩:=h.2 c;exact⟨y,a,hi y b⟩⟩
theorem qbg{w:World}{S:Nat->Prop}{a:List Value}(h:(KG:iZ Bool).Vs w S An a):ww a=.bool An:=by
 obtain⟨cs,rfl,b⟩:=h;have:cs=[.bool An]:=b;subst this
 rfl
end Go.Fw


namespace Go.Fw
open Go
def Ev{α:Type}(f:Nat->Option α)(r:α):Prop:=∃N,∀n,N<=n->f n=V r
section
variable{α β:Type}{f g:Nat->Option α}{r:α}
theorem Ev.now{x:Option α}(h:x=V r):Ev (λ_=>x) r:=⟨0,λ_ _=>h⟩
theorem Ev.done:Ev (λ_=>V r) r:=⟨0,λ_ _=>rfl⟩
theorem Ev.bind{f:Nat->Option β}{g:Nat->β->Option α}{b:β}(h:Ev f b)(d:Ev (λn=>g n b) r):Ev (λn=>(f n).bind (g n)) r:=by
 obtain⟨N,c⟩:=h;obtain⟨M,a⟩:=d;exact⟨max N M,λn i=>by show(f n).bind (g n)=_;rw[c n (by omega)];exact a n (by omega)⟩
theorem Ev.bindN{x:Option β}{g:Nat->β->Option α}{b:β}(h:x=V b)(a:Ev (λn=>g n b) r):Ev (λn=>x.bind (g n)) r:=Ev.bind (.now h) a
theorem Ev.tt{c:Bool}(a:c=An)(h:Ev f r):Ev (λn=>bif c then f n else g n) r:=by subst a;exact h
theorem Ev.ff{c:Bool}(a:c=Cd)(h:Ev g r):Ev (λn=>bif c then f n else g n) r:=by subst a;exact h
theorem Ev.bif{c:Bool}(a:c=An->Ev f r)(b:c=Cd->Ev g r):Ev (λn=>bif c then f n else g n) r:=by
 cases c
 .exact b Z
 .exact a Z
theorem Ev.succ(h:Ev (λn=>f (n+1)) r):Ev f r:=by
 obtain⟨N,a⟩:=h;refine⟨N+1,λn b=>?_⟩;obtain⟨m,rfl⟩:∃m,n=m+1:=⟨n-1,by omega⟩;exact a m (by omega)
theorem Ev.step(a:∀n,f (n+1)=g n)(h:Ev g r):Ev f r:=Ev.succ (by simpa [a] using h)
theorem Ev.congr(c:∀n,f n=g n)(h:Ev g r):Ev f r:=by
 obtain⟨N,a⟩:=h;exact⟨N,λn b=>by rw[c,a n b]⟩
theorem Ev.uniq{b:α}(h:Ev f r)(c:Ev f b):r=b:=by
 obtain⟨N,i⟩:=h;obtain⟨M,g⟩:=c;have d:=i (max N M) (by omega);have a:=g (max N M) (by omega);rw[d] at a;exact Option.some.inj a
theorem Ev.at(h:Ev f r):∃n,f n=V r:=⟨h.choose,h.choose_spec _ (jf _)⟩
end
theorem qX{x:Int}(h:-9223372036854775808<=x)(a:x<=9223372036854775807):qj x=x:=by
 unfold qj;rw[Go.IntWalk.i64_left];exact Go.IntWalk.wrap64_in x ⟨h,a⟩
theorem wO(x:Int)(h:-9223372036854775808<=x:=by omega)(a:x<=9223372036854775807:=by omega):qj x=x:=qX h a
theorem ti{j:Nat}(h:j<9223372036854775807):qj ((j:Int)+1)=((j+1:Nat):Int):=by rw[qX (by omega) (by omega)];omega
theorem wS(j:Nat)(h:j<9223372036854775807:=by omega):qj ((j:Int)+1)=((j+1:Nat):Int):=ti h
theorem qp{j m:Nat}(h:j<m):decide ((j:Int)<(m:Int))=An:=by simp;omega
theorem qr{j m:Nat}(h:m<=j):decide ((j:Int)<(m:Int))=Cd:=by simp;omega
def qA{α:Type}(f:Nat->Option α)(Q:α->Prop):Prop:=∃r,Ev f r/\Q r
section
variable{α β:Type}{f g:Nat->Option α}{Q Q':α->Prop}
theorem qA.of{r:α}(h:Ev f r)(a:Q r):qA f Q:=⟨r,h,a⟩
theorem qA.mono(h:qA f Q)(hi:∀r,Q r->Q' r):qA f Q':=by obtain⟨r,a,b⟩:=h;exact⟨r,a,hi r b⟩
theorem qA.succ(h:qA (λn=>f (n+1)) Q):qA f Q:=by obtain⟨r,a,b⟩:=h;exact⟨r,a.succ,b⟩
theorem qA.done{r:α}(h:Q r):qA (λ_=>V r) Q:=⟨r,.done,h⟩
theorem qA.bindN{x:Option β}{g:Nat->β->Option α}{b:β}(h:x=V b)(d:qA (λn=>g n b) Q):qA (λn=>x.bind (g n)) Q:=by obtain⟨r,a,c⟩:=d;exact⟨r,Ev.bindN h a,c⟩
theorem qA.bindE{f:Nat->Option β}{g:Nat->β->Option α}{b:β}(h:Ev f b)(d:qA (λn=>g n b) Q):qA (λn=>(f n).bind (g n)) Q:=by obtain⟨r,a,c⟩:=d;exact⟨r,Ev.bind h a,c⟩
theorem qA.bind{f:Nat->Option β}{g:Nat->β->Option α}{R:β->Prop}(h:qA f R)(d:∀b,R b->qA (λn=>g n b) Q):qA (λn=>(f n).bind (g n)) Q:=by
 obtain⟨b,a,c⟩:=h;exact qA.bindE a (d b c)
theorem qA.tt{c:Bool}(a:c=An)(h:qA f Q):qA (λn=>bif c then f n else g n) Q:=by subst a;exact h
theorem qA.ff{c:Bool}(a:c=Cd)(h:qA g Q):qA (λn=>bif c then f n else g n) Q:=by subst a;exact h
theorem qA.bif{c:Bool}(a:c=An->qA f Q)(b:c=Cd->qA g Q):qA (λn=>bif c then f n else g n) Q:=by
 cases c
 .exact b Z
 .exact a Z
end
def Sz(f:Nat->Option Int)(Q:Int->Prop):Prop:=∃r,Ev f r/\(r<0\/(0<=r/\Q r))
theorem Sz.step{f:Nat->Option Int}{g:Nat->Int->Option Int}{Q Q':Int->Prop}(h:Sz f Q)(k:∀r,0<=r->Q r->Sz (λn=>g n r) Q'):Sz (λn=>(f n).bind λr=>bif decide (r<0) then V (-1) else g n r) Q':=by
 obtain⟨r,c,a⟩:=h;by_cases b:r<0
 .exact⟨-1,Ev.bind c (Ev.tt (by simpa using b) .done),.inl (by decide)⟩
 .rcases a with a|⟨h0,a⟩
  .exact absurd a b
  .obtain⟨l,d,i⟩:=k r h0 a;exact⟨l,Ev.bind c (Ev.ff (by simpa using b) d),i⟩
theorem Sz.done{r:Int}{Q:Int->Prop}(h:0<=r)(a:Q r):Sz (λ_=>V r) Q:=⟨r,.done,.inr ⟨h,a⟩⟩
theorem Sz.less{a l:Int}{Q:Int->Prop}(d:0<=a)(f:a<=1048576)(g:0<=l)(h:l<=9223372036854775807)(c:l<=a->Q (a-l)) :
  Sz (λ_=>bif decide (qj (a-l)<0) then V (-1) else V (qj (a-l))) Q:=by
 rw[qX (by omega) (by omega)];by_cases b:a-l<0
 .exact⟨-1,Ev.tt (by simpa using b) .done,.inl (by decide)⟩
 .exact⟨_,Ev.ff (by simpa using b) .done,.inr ⟨by omega,c (by omega)⟩⟩

theorem qdj{P:Nat->Prop}(len:Nat)(b:P len)(a:∀j,j<len->P (j+1)->P j):P 0:=by
 have:∀k,k<=len->P (len-k):=by
  intro k
  induction k with
  |zero=>intro _;exact b
  |succ k ih=>
   intro h;refine a _ (by omega) ?_;rw[show len-(k+1)+1=len-k by omega];exact ih (by omega)
 have h:=this len (jf _);rwa [Nat.sub_self] at h
def qdH{α:Type}(a:List α)(z:α)(j:Nat):List α:=a.take j++List.replicate (a.length-j) z
theorem R8{α:Type}{a:List α}{z:α}:qdH a z 0=List.replicate a.length z:=by simp[qdH]
theorem qb8{α:Type}{a:List α}{z:α}(h:a.length<=2147483648):yW (a.length:Int) z=V (qdH a z 0):=by
 unfold yW QU;rw[if_pos ⟨by omega,by omega⟩,R8];simp
theorem cg{α:Type}{xs:List α}{i:Int}{y:α}:(am xs i y).length=xs.length:=by simp[am]
def count(k:Int)(m:Nat):List Int:=(List.range m).map λ(i:Nat)=>k+(i:Int)
end Go.Fw


namespace Go.Fw
open Go
open Go.RowKit (Below)
section
variable{P:Program}{T:vP}{n:Nat}{e:fL}{w:World}
theorem LN(d:Nat){t el:TypeId}(a:P.underlying t=V (.slice el))(p:Option Addr)(l c:Nat)(w:World):(Op.equalIn (d+1) t (.slice p l c) (.slice U 0 0)).run P w=.ok p.isNone w:=by
 cases p<;>simp[Op.equalIn,run_underlying a]
theorem LM(d:Nat){t el:TypeId}(a:P.underlying t=V (.pointer el))(p:Option Addr)(w:World):(Op.equalIn (d+1) t (.pointer p) (.pointer U)).run P w=.ok p.isNone w:=by
 cases p<;>simp[Op.equalIn,run_underlying a]
theorem VJ{t el:TypeId}(a:P.underlying t=V (.slice el))(p:Option Addr)(l c:Nat)(w:World):(Op.equal t (.slice p l c) (.slice U 0 0)).run P w=.ok p.isNone w:=by
 simp only[Op.equal,Op.maxDepth];exact LN 9999 a p l c w
theorem VI{t el:TypeId}(a:P.underlying t=V (.pointer el))(p:Option Addr)(w:World):(Op.equal t (.pointer p) (.pointer U)).run P w=.ok p.isNone w:=by
 simp only[Op.equal,Op.maxDepth];exact LM 9999 a p w
theorem RE(op:BinOp)(t:TypeId)(x y:Operand)(p q:Option Addr)(a b c d:Nat)(w:World):(eqGuard op t x y (.slice p a b) (.slice q c d)).run P w=.ok () w:=by
 unfold eqGuard;split<;>rfl
theorem XI(op:BinOp)(t:TypeId)(x y:Operand)(p q:Option Addr)(w:World):(eqGuard op t x y (.pointer p) (.pointer q)).run P w=.ok () w:=by
 unfold eqGuard;split<;>rfl
theorem ZO(i:cE P T){x y:Operand}{t z d ty el:Nat}{ps:String}{h:Array Edge}{g:Option (Nat×Bool)}{b:TE}{p:Option Addr}{l c:Nat}
  (o:T.get t=V b) (k:b.kind=.slice el) (u:gq e x=V (.slice p l c)) (v:gq e y=V (.slice U 0 0)) {r:Bool} (m:p.isNone=r):MV P n e ⟨V d,.binOp .eql t x y z,ty,ps,h,g⟩ w (.bool r):=by
 intro a f;subst m;have s:=nq (i t b o) k;simp only[execOp,f.eval u,f.eval v,jk,RE,ji,binOp,VJ s,jn]
theorem ZA{α:Type}[qm α]{S:Nat->Prop}{xs:List α}{c:Nat}(h:dG w S xs U c):xs=[]:=by
 obtain⟨_,_,a⟩:=h;rcases a with⟨_,h⟩|⟨b,o,cur,T,fr,h,_⟩
 .exact h
 .cases h
end

structure WI where
 α:Type
 inst:qm α
 x:α
 cs:List Value
def WI.R(f:WI)(w:World)(S:Nat->Prop):Prop:=f.inst.R w S f.x f.cs
def vk{α:Type}[qm α](x:α)(cs:List Value):WI:=⟨α,inferInstance,x,cs⟩
def Ch.grp(D S:Nat->Prop)(fs:List WI):Ch where
 S:=S
 D:=D
 P w:=∀f∈fs,f.R w (λb=>S b\/D b)
 loc _ _ h h' hp f hf:=qm.loc (self:=f.inst) (hp f hf) (λb a=>a.elim (h b) (h' b))
def vJ(A:Nat->Prop)(w0 w:World)(b:Nat):Prop:=A b\/mT w0 w b
section
variable{w0 w w':World}{L:List Ch}{D S S1 S2:Nat->Prop}{fs fs2:List WI}{α:Type}[qm α]{x:α}{cs:List Value}
theorem SH.grpS(i j:Nat)(h:SH w0 w L)(hi:L[i]?=V (Ch.grp D S fs))(a:fs[j]?=V (vk x cs)):qm.R w (λb=>S b\/D b) x cs:=
 (h.mem hi).1 _ (jB a)
theorem SH.grpB{i:Nat}(h:SH w0 w L)(hi:L[i]?=V (Ch.grp D S fs)):∀b,S b\/D b->Fw.old w b:=by
 intro b a;rcases a with a|a
 .exact((h.mem hi).2 b a).2
 .exact jx (h.elder _ (jB hi) b a) h.below.size
theorem SH.grp(i j:Nat)(h:SH w0 w L)(hi:L[i]?=V (Ch.grp D S fs))(a:fs[j]?=V (vk x cs)):qm.R w (Fw.old w) x cs:=
 qm.mono (h.grpS i j hi a) (h.grpB hi)
theorem SH.swap{c c':Ch}(h:SH w0 w (c::L))(k:c'.P w)(g:∀b,c'.S b->c.S b)(i:∀b,c'.D b->b<w0.heap.size):SH w0 w (c'::L):=by
 refine⟨h.below,λd a=>?_,λd a=>?_,?_⟩
 .rcases List.mem_cons.1 a with rfl|a
  .exact⟨k,λb f=>(h.holds c (ju ..)).2 b (g b f)⟩
  .exact h.holds d (jr _ a)
 .rcases List.mem_cons.1 a with rfl|a
  .exact i
  .exact h.elder d (jr _ a)
 .have:=List.pairwise_cons.1 h.apart;exact List.pairwise_cons.2 ⟨λd a b f=>this.1 d a b (g b f),this.2⟩
theorem SH.join{c d e:Ch}(h:SH w0 w (c::d::L))(p:c.P w->d.P w->e.P w)(l:∀b,e.S b->c.S b\/d.S b)(o:∀b,e.D b->b<w0.heap.size):SH w0 w (e::L):=by
 have m:=h.holds c (ju ..);have n:=h.holds d (jr _ (ju ..));have i:=List.pairwise_cons.1 h.apart;have k:=List.pairwise_cons.1 i.2;refine⟨h.below,λf a=>?_,λf a=>?_,?_⟩
 .rcases List.mem_cons.1 a with rfl|a
  .exact⟨p m.1 n.1,λb g=>(l b g).elim (m.2 b) (n.2 b)⟩
  .exact h.holds f (jr _ (jr _ a))
 .rcases List.mem_cons.1 a with rfl|a
  .exact o
  .exact h.elder f (jr _ (jr _ a))
 .refine List.pairwise_cons.2 ⟨λf a b g=>?_,k.2⟩;rcases l b g with g|g
  .exact i.1 f (jr _ a) b g
  .exact k.1 f a b g
def YQ(fs:List WI):List Nat->List WI
 | []=>[]
 |i::is=>match fs[i]? with
  |some f=>f::YQ fs is
  |none=>YQ fs is
theorem LE{f:WI}:∀{is:List Nat},f∈YQ fs is->f∈fs
 | [],h=>by cases h
 |i::is,h=>by
  simp only[YQ] at h;split at h
  .rename_i g hg
   rcases List.mem_cons.1 h with rfl|h
   .exact jB hg
   .exact LE h
  .exact LE h
theorem SH.merge(h:SH w0 w (Ch.grp D S1 fs::Ch.grp D S2 fs2::L)):SH w0 w (Ch.grp D (λb=>S1 b\/S2 b) (fs++fs2)::L):=
 h.join (e:=Ch.grp D (λb=>S1 b\/S2 b) (fs++fs2)) (λd g f c=>by
  rcases List.mem_append.1 c with c|c
  .exact qm.mono (self:=f.inst) (d f c) (λb a=>a.elim (λh=>.inl (.inl h)) .inr)
  .exact qm.mono (self:=f.inst) (g f c) (λb a=>a.elim (λh=>.inl (.inr h)) .inr)) (λ_ a=>a) (h.elder (Ch.grp D S1 fs) (ju ..))
theorem SH.regOld{A:Nat->Prop}(h:SH w0 w L)(a:∀b,A b->Fw.old w0 b)(d:qm.R w0 A x cs):qm.R w A x cs:=qm.loc d (λb c=>h.below.block b (a b c))
theorem SH.regGrp{A:Nat->Prop}(i j:Nat)(h:SH w0 w L)(hi:L[i]?=V (Ch.grp A S fs))(d:fs[j]?=V (vk x cs)):qm.R w (vJ A w0 w) x cs:=
 qm.mono (h.grpS i j hi d) (λb c=>c.elim (λa=>.inr ((h.mem hi).2 b a)) .inl)
end
class gk (ρ:Type) where
 Rs:World->(Nat->Prop)->ρ->List Value->Prop
instance qeu{α:Type}[qm α]:gk α where
 Rs w S x vs:=∃cs,vs=[qm.v α cs]/\qm.R w S x cs
instance (priority:=high) rsCons {α β:Type}[qm α][gk β]:gk (α×β) where
 Rs w S x vs:=∃cs us,vs=qm.v α cs::us/\qm.R w S x.1 cs/\gk.Rs w S x.2 us
def yP{ρ:Type}[gk ρ](P:Program)(f:FuncId)(a:List Value)(w:World)(A:Nat->Prop)(r:ρ):Prop:=
 Calls P f a.toArray w λe w'=>∃v,e=.returned v/\Below w.heap.size w w'/\∃us,v=ww us/\gk.Rs w' (vJ A w w') r us
section
variable{P:Program}{T:vP}{n:Nat}{Q:Exit->Act->World->Prop}{k:List It}{e:fL}{w0 w w':World}{L:List Ch}
theorem qcl{ρ:Type}[gk ρ](r:ρ){A D:Nat->Prop}{all:Array Oper}{l:List Oper}{d ty:Nat}{ps:String}{C:Array Edge}{x:Operand}{g:Array Operand}{s:Array TypeId}{f:FuncId}{z y:Array Value}{u B:List Value}
  (h:SH w0 w L) (F:∀b,D b->b<w0.heap.size) (m:kH P f) (I:yP P f B w A r) (O:gq e x=V (.func (.func f) z y)) (i:pD e g.toList=V u) (t:z.toList++u++y.toList=B) (M:Nat.blt d n=An)
  (K:∀w' o,Below w.heap.size w w'->SH w0 w' (Ch.grp D (mT w w') []::L)->gk.Rs w' (vJ A w w') r o->bx P n Q (.ops all l::k) ((d,ww o)::e) w') :
  bx P n Q (.ops all (⟨V d,.call ⟨.value x,g,s⟩,ty,ps,C,U⟩::l)::k) e w:=by
 subst t;refine yB (R:=λv w'=>Below w.heap.size w w'/\∃o,v=ww o/\gk.Rs w' (vJ A w w') r o) Z Z M (λa H=>rP H m O i w) I ?_;rintro v w' ⟨p,o,rfl,N⟩;exact K w' o p (h.add (c:=Ch.grp D (mT w w') []) p (λf J=>by cases J) (λ_ p=>p) F) N
theorem gc{ρ:Type}[gk ρ]{f:FuncId}{b:Func}{c:Code}{a:List Value}{A:Nat->Prop}{r:ρ}{m:Nat}(o:P.funcs[f]?=V b)(n:b.body=V c)(p:b.ntmps=m)(s:Nat.ble a.length m=An)
  (h:SH w w []->bx P m (bodyPost P b λe w'=>∃v,e=.returned v/\Below w.heap.size w w'/\∃us,v=ww us/\gk.Rs w' (vJ A w w') r us) [.code c] (pY 0 a) w):yP P f a w A r:=by
 subst p;have t:=js s;refine calls_of_wp o n ?_;have x:=h (SH.start w);have g:gp b.ntmps (pY 0 a) { tmps:=a.toArray++Array.replicate (b.ntmps-a.toArray.size) undef,defers:=[] }:=by
  refine⟨Z,by simp;omega,λi v hi=>?_⟩;obtain⟨_,d⟩:=tF a 0 i v hi;simp only[Nat.sub_zero] at d;have k:=(List.getElem?_eq_some_iff.1 d).1;rw[jE (by simpa using k)];simpa using d
 have l:=x _ g;refine wp_mono l ?_;intro ex y w' u;cases ex<;>exact u
theorem gn(d:cE P T){b:Func}{ρ:Type}[gk ρ]{A:Nat->Prop}{r:ρ}(a:List Value)(h:SH w0 w L)(f:wF T e w b.results.toList a)(g:gk.Rs w (vJ A w0 w) r a) :
  bx P n (bodyPost P b λe w'=>∃v,e=.returned v/\Below w0.heap.size w0 w'/\∃a,v=ww a/\gk.Rs w' (vJ A w0 w') r a) (.code .ret::k) e w:=
 TB λ_ c=>⟨c.defers,ww a,oP d c f,ww a,Z,h.below,a,Z,g⟩
end

structure RU(α:Type) where
 cs:List Value
instance qeQ{α:Type}[qm α]:qm (RU α) where
 k:=qm.k α
 agg:=qm.agg α
 zero:=⟨qm.zc α⟩
 zc:=qm.zc α
 R _ _ x cs:=cs=x.cs/\cs.length=qm.k α/\∀c∈cs,c.oneCell'=An
 O _ _ x cs:=cs=x.cs/\cs.length=qm.k α/\∀c∈cs,c.oneCell'=An
 kpos:=qm.kpos
 noagg:=qm.noagg
 len h:=h.2.1
 one h:=h.2.2
 loc h _:=h
 mono h _:=h
 toR h:=h
 locO h _:=h
 monoO h _:=h
 zO _ _:=⟨Z,qm.len (qm.toR (qm.zO (α:=α) default (λ_=>False))),qm.one (qm.toR (qm.zO (α:=α) default (λ_=>False)))⟩
instance qeP{α:Type}[qm α]:eQ (RU α):=⟨λh=>h,λh h'=>h.1.trans h'.1.symm⟩
theorem qb5{α β:Type}{p:Nat->α->β->Prop}:∀(xs:List α),(∀i x,xs[i]?=V x->∃r,p i x r)->∃b:List β,b.length=xs.length/\∀i x r,xs[i]?=V x->b[i]?=V r->p i x r:=by
 intro xs h;obtain⟨b,f,c⟩:=AV (p:=λi r=>∀x,xs[i]?=V x->p i x r) xs.length (λi hi=>by
  obtain⟨r,c⟩:=h i xs[i] (jj hi);exact⟨r,λx a=>by rw[jj hi] at a;obtain rfl:=Option.some.inj a;exact c⟩)
 exact⟨b,f,λi x r a d=>c i r d x a⟩
section
variable{w0 w w':World}{L:List Ch}{S:Nat->Prop}{α:Type}[qm α]
end
section
variable{w0 w w':World}{L:List Ch}{S Se:Nat->Prop}{α:Type}[qm α]
theorem SH.cons{c:Ch}(h:SH w0 w L)(k:c.P w)(g:∀b,¬ c.S b)(i:∀b,¬ c.D b):SH w0 w (c::L):=by
 refine⟨h.below,λd a=>?_,λd a=>?_,List.pairwise_cons.2 ⟨λ_ _ b f=>absurd f (g b),h.apart⟩⟩
 .rcases List.mem_cons.1 a with rfl|a
  .exact⟨k,λb f=>absurd f (g b)⟩
  .exact h.holds d a
 .rcases List.mem_cons.1 a with rfl|a
  .exact λb f=>absurd f (i b)
  .exact h.elder d a
end
end Go.Fw


namespace Go.Fw
open Go
structure gW(k:IntKind) where
 val:Int
instance HX{kd:IntKind}:qm (gW kd) where
 k:=1
 agg:=Cd
 zero:=⟨0⟩
 zc:=[.int kd 0]
 R _ _ x cs:=cs=[.int kd x.val]
 O _ _ x cs:=cs=[.int kd x.val]
 kpos:=by decide
 noagg _:=rfl
 len h:=by subst h;rfl
 one h:=by subst h;simp[Value.oneCell']
 loc h _:=h
 mono h _:=h
 toR h:=h
 locO h _:=h
 monoO h _:=h
 zO _ _:=rfl
instance qeC{kd:IntKind}:eQ (gW kd):=⟨λh=>h,λh h'=>Eq.trans h (Eq.symm h')⟩
section
variable{P:Program}{T:vP}{n:Nat}{Q:Exit->Act->World->Prop}{k:List It}{e:fL}{w0 w w':World}{L:List Ch}{S:Nat->Prop}
end
end Go.Fw


namespace Go.Fw
open Go
open Go.RowKit (Below)
section
variable{P:Program}{T:vP}{n:Nat}{Q:Exit->Act->World->Prop}{k:List It}{e:fL}{w0 w w' w1:World}{L:List Ch}
theorem SH.gather{α:Type}[qm α]{r:α}{cs:List Value}{I:List Nat}(J:List Nat)(h:SH w0 w L)(t:PO w L I r cs)(f:(fu I J&&LF J)=An) :
  ∃S,SH w0 w (Ch.own S r cs::IM L J):=by
 simp only[je] at f;obtain⟨S,s,n⟩:=t;have g:=h.p J f.2;refine⟨S,h.below,λd a=>?_,λd a=>?_,List.pairwise_cons.2 ⟨λd a b k l=>?_,g.apart⟩⟩
 .rcases List.mem_cons.1 a with rfl|a
  .exact⟨s,λb f=>by obtain⟨i,c,_,hi,o⟩:=n b f;exact(h.mem hi).2 b o⟩
  .exact g.holds d a
 .rcases List.mem_cons.1 a with rfl|a
  .exact λ_ h=>h.elim
  .exact g.elder d a
 .obtain⟨j,p,m⟩:=tT a;exact uX h n (λx u=>⟨j,d,p,m,u⟩) f.1 b k l
def Ch.two(c d:Ch):Ch where
 S b:=c.S b\/d.S b
 D b:=c.D b\/d.D b
 P w:=c.P w/\d.P w/\∀b,c.S b->¬ d.S b
 loc w w' h h' hp:=⟨c.loc w w' (λb a=>h b (.inl a)) (λb a=>h' b (.inl a)) hp.1,d.loc w w' (λb a=>h b (.inr a)) (λb a=>h' b (.inr a)) hp.2.1,hp.2.2⟩
theorem SH.fuse{c d:Ch}(h:SH w0 w (c::d::L)):SH w0 w (Ch.two c d::L):=by
 have a:=(List.pairwise_cons.1 h.apart).1 d (ju ..);exact h.join (e:=Ch.two c d) (λg i=>⟨g,i,a⟩) (λ_ f=>f) (λb f=>f.elim (h.elder c (ju ..) b) (h.elder d (jr _ (ju ..)) b))
theorem DS{i c m:Nat}(h:i<c):i*m+m<=c*m:=by
 have:(i+1)*m<=c*m:=jt _ h;rw[jP] at this;exact this
theorem qcA{i j m r q:Nat}(a:i≠j)(b:r<m)(_:q<m):i*m+r<j*m\/j*m+m<=i*m+r:=by
 rcases Nat.lt_or_gt_of_ne a with h|h
 .left;have:(i+1)*m<=j*m:=jt _ h;rw[jP] at this;omega
 .right;have:(j+1)*m<=i*m:=jt _ h;rw[jP] at this;omega
theorem U8{a:List Value}{q:Nat}{d:List Value}(b:q+d.length<=a.length){j:Nat}(c:j<q\/q+d.length<=j):(iX a q d)[j]?=a[j]?:=by
 rw[getElem?_splice b];rcases c with h|h
 .rw[if_pos h]
 .rw[if_neg (by omega),if_neg (by omega)]
theorem X6(hT:cE P T){α:Type}[qm α]{S S1:Nat->Prop}{xs ys:List α}{p p':Option Addr}{ln ln' c c' t ty el:Nat}{te te':TE}{zv:Value}
  (h:SH w0 w (Ch.own S1 ys [.slice p' ln' c']::Ch.own S xs [.slice p ln c]::L)) (hte:T.get t=V te) (hk:te.kind=.slice el) (hel:T.get el=V te') (hz:te'.zero=V zv) (hzs:(bi zv).length=te'.size) (hsz:te'.size=qm.k α)
  (J:Nat.ble te'.bytes 65536=An) (hbig:xs.length+ys.length<=QU) :
  ∃p2 R S2 w',(Builtin.append_ #[t,t] ty #[.slice p ln c,.slice p' ln' c']).run P w=.ok (.slice p2 (xs.length+ys.length) R) w'/\SH w0 w' (Ch.own S2 (xs++ys) [.slice p2 (xs.length+ys.length) R]::L):=by
 obtain⟨k,X,hs1,hby,hz1⟩:=ru (hT _ _ hel);have hu:=nq (hT _ _ hte) hk;have K:=js J;have hln:=(h.sl 1 Z).2;have hln':=(h.sl 0 Z).2;subst hln hln';have hs:=(h.sl 0 Z).1;have hsx:=(h.sl 1 Z).1;have s:k.size=qm.k α:=hs1.trans hsz;obtain⟨news0,_,hnR,hnD⟩:=hs.cells (P:=P);have hf:=h.fuse;obtain⟨⟨hO1,hO2,hap⟩,hS⟩:=hf.holds _ (ju ..);obtain⟨p0,c0,he,h1,h2,h3⟩:=hO2;simp only[List.cons.injEq,Value.slice.injEq,and_true,true_and] at he;obtain⟨rfl,rfl⟩:=he;obtain⟨p0,c0,he,g1,g2,g3⟩:=hO1;simp only[List.cons.injEq,Value.slice.injEq,and_true,true_and] at he;obtain⟨rfl,rfl⟩:=he;unfold QU at hbig;have hmax:(2147483648:Nat)<=maxLen:=by simp[maxLen]
 obtain⟨Fy,d,O,hyd,hnl,hnO,hnR,hnD⟩:∃Fy:Nat->Nat->Prop,∃d:List Value,(∀i a,Fy i a->S1 a)/\(∀i j a,i≠j->Fy i a->¬ Fy j a)/\d.length=ys.length*qm.k α /\
   (∀i y,ys[i]?=V y->∃cs,qm.O w (Fy i) y cs/\∀j v,cs[j]?=V v->d[i*qm.k α+j]?=V v) /\
   (Builtin.firstCells k.size ys.length (.slice p' ys.length c')).run P w=.ok d.toArray w/\(Builtin.firstCells k.size ys.length (.slice p' ys.length c')).run P w.drew=.ok d.toArray w.drew:=by
  rcases g3 with⟨rfl,rfl,rfl⟩|⟨b,g,t',F,rfl,H,hg,z,hF,hd,hx⟩
  .exact⟨λ_ _=>False,[],λ_ _ h=>h.elim,λ_ _ _ _ h=>h.elim,by simp,λi y hi=>by simp at hi,by simp[Builtin.firstCells],by simp[Builtin.firstCells]⟩
  .have hle:ys.length*qm.k α<=c'*qm.k α:=jt _ g1;have D:(g.toList.take (ys.length*qm.k α)).length=ys.length*k.size:=by simp[s];omega
   have W:∀(w1:World),w1.heap[b]?=w.heap[b]?->∀j v,(g.toList.take (ys.length*qm.k α))[j]?=V v->w1.cell? ((⟨b,0,U⟩:Addr).add j)=V v:=by
    intro w1 hw1 j v l;rw[ud];rw[jK] at l;split at l
    .simp only[World.cell?,hw1,hg];simpa using l
    .cases l
   refine⟨F,g.toList.take (ys.length*qm.k α),λi a f=>(hF i a f).1,hd,by simp;omega,λi y hi=>?_,run_firstCells_some w _ _ _ _ _ _ D (W w Z),run_firstCells_some w.drew _ _ _ _ _ _ D (W w.drew Z)⟩;obtain⟨cs,Q,l⟩:=hx i y hi;refine⟨cs,Q,λj v hv=>?_⟩;have hjk:j<qm.k α:=by have:=qm.len (qm.toR Q);have:=(List.getElem?_eq_some_iff.1 hv).1;omega
   have hb2:=DS (m:=qm.k α) (List.getElem?_eq_some_iff.1 hi).1;rw[jK,if_pos (by omega)];simpa using l j v hv
 have hnone:∀u∈d,u.oneCell'=An:=by
  intro v hv;obtain⟨r,hr,rfl⟩:=Ji hv;have hkp:=qm.kpos (α:=α);have M:r / qm.k α<ys.length:=by rw[Nat.div_lt_iff_lt_mul hkp,<-hnl];exact hr
  obtain⟨cs,Q,l⟩:=hnO (r / qm.k α) _ (jj M);have D:=qm.len (qm.toR Q);have hm:r % qm.k α<cs.length:=by rw[D];exact Nat.mod_lt _ hkp
  have:=l (r % qm.k α) _ (jj hm);rw[Nat.mul_comm,Nat.div_add_mod] at this;rw[jj hr,Option.some.injEq] at this;rw[this];exact qm.one (qm.toR Q) _ (jm hm)
 have fin:∀(w':World) (S2:Nat->Prop) (b R:Nat) (g:Array Value) (t':TypeId) (olds:List Value) (Fx:Nat->Nat->Prop),
   (∀a,(S1 a\/S a)->a≠b->w'.heap[a]?=w.heap[a]?)->(∀a,(S1 a\/S a)->S2 a)->S2 b->w'.heap[b]?=V (.cells g t' (0,0))->g.size=R*qm.k α->xs.length+ys.length<=R->R<=maxLen ->
   (∀i a,Fx i a->S a/\a≠b)->(¬ S1 b)->(∀i j a,i≠j->Fx i a->¬ Fx j a)->olds.length=xs.length*qm.k α ->
   (∀i x,xs[i]?=V x->∃cs,qm.O w (Fx i) x cs/\∀j v,cs[j]?=V v->olds[i*qm.k α+j]?=V v) ->
   (∀(r:Nat) (v:Value),(olds++d)[r]?=V v->g[r]?=V v) ->
   qm.O w' S2 (xs++ys) [.slice (V ⟨b,0,U⟩) (xs.length+ys.length) R]:=by
  intro w' S2 b R g t' olds Fx hloc hS2 H hg z hl hm n hS1b hFd o N B;refine⟨_,_,by rw[jg],by simpa using hl,hm,.inr ⟨b,g,t',λi a=>(i<xs.length/\Fx i a)\/(xs.length<=i/\Fy (i-xs.length) a),Z,H,hg,z,?_,?_,?_⟩⟩
  .rintro i a (⟨_,f⟩|⟨_,f⟩)
   .exact⟨hS2 a (.inr (n i a f).1),(n i a f).2⟩
   .exact⟨hS2 a (.inl (O _ a f)),λI=>hS1b (I ▸ O _ a f)⟩
  .rintro i j a hne (⟨hi,f⟩|⟨hi,f⟩) (⟨l,J⟩|⟨l,J⟩)
   .exact hFd i j a hne f J
   .exact hap a (O _ a J) (n i a f).1
   .exact hap a (O _ a f) (n j a J).1
   .exact hyd _ _ a (by omega) f J
  .intro i x hi;rw[List.getElem?_append] at hi;split at hi
   .rename_i M
    obtain⟨cs,Q,l⟩:=N i x hi;refine⟨cs,qm.monoO (qm.locO Q (λa f=>hloc a (.inr (n i a f).1) (n i a f).2)) (λa f=>.inl ⟨M,f⟩),λj v hv=>B _ _ ?_⟩;have:=l j v hv;rw[jA (List.getElem?_eq_some_iff.1 this).1];exact this
   .rename_i hge
    obtain⟨cs,Q,l⟩:=hnO _ x hi;refine⟨cs,qm.monoO (qm.locO Q (λa f=>hloc a (.inl (O _ a f)) (λI=>hS1b (I ▸ O _ a f)))) (λa f=>.inr ⟨by omega,f⟩),λj v hv=>B _ _ ?_⟩;have:=l j v hv;have hle:xs.length*qm.k α<=i*qm.k α:=jt _ (by omega);rw[jD (by rw[o];omega),o];rw[show i*qm.k α+j-xs.length*qm.k α=(i-xs.length)*qm.k α+j by rw[Nat.sub_mul];omega];exact this
 have grow:∀(olds:List Value) (Fx:Nat->Nat->Prop),(∀i a,Fx i a->S a)->(∀i j a,i≠j->Fx i a->¬ Fx j a)->olds.length=xs.length*qm.k α ->
   (∀i x,xs[i]?=V x->∃cs,qm.O w (Fx i) x cs/\∀j v,cs[j]?=V v->olds[i*qm.k α+j]?=V v) ->
   (Builtin.firstCells k.size xs.length (.slice p xs.length c)).run P w.drew=.ok olds.toArray w.drew->c<xs.length+ys.length ->
   ∃p2 R S2 w',(Builtin.append_ #[t,t] ty #[.slice p xs.length c,.slice p' ys.length c']).run P w=.ok (.slice p2 (xs.length+ys.length) R) w'/\SH w0 w' (Ch.own S2 (xs++ys) [.slice p2 (xs.length+ys.length) R]::L):=by
  intro olds Fx n hFd o N hoD M;have C:Builtin.nextslicecap (xs.length+ys.length) c*k.bytes<=281474976710656:=by
   refine growslice_fits M ?_;have:(xs.length+ys.length)*k.bytes<=2147483648*65536:=Nat.mul_le_mul hbig (by omega);omega
  have hr:=zK (P:=P) (w:=w) t ty el k zv hu X (hz1.trans hz) p p' xs.length c ys.length c' olds d hnD hoD M (by omega) C;have hge:=grownCap_ge w (xs.length+ys.length) c el;have hcm:=grownCap_le_maxLen w (xs.length+ys.length) c el (by omega);have hnew:∀a,(S1 a\/S a)->a≠w.heap.size:=λa f I=>by have:=(hS a f).2;omega
  refine⟨_,_,λb=>(S1 b\/S b)\/b=w.heap.size,_,hr,?_⟩;have hu:=hf.upd (i:=0) (c':=Ch.own (λb=>(S1 b\/S b)\/b=w.heap.size) (xs++ys) [.slice (V ⟨w.heap.size,0,U⟩) (xs.length+ys.length) (grownCap w (xs.length+ys.length) c el)])
   (w':=w.drew.alloc (.cells (olds.toArray++d.toArray++Builtin.zeroCells zv.cells (grownCap w (xs.length+ys.length) c el-(xs.length+ys.length))) el)) Z Z Z Z (by simp) (λb K _=>heap_alloc_old w.drew _ K) ?_ ?_ (λ_ hd=>hd.elim)
  .exact hu
  .refine fin _ _ w.heap.size _ _ el olds Fx (λa f _=>heap_alloc_old w.drew _ (hS a f).2) (λa f=>.inl f) (.inr Z) (heap_alloc_new w.drew _) ?_ hge hcm (λi a f=>⟨n i a f,hnew a (.inr (n i a f))⟩) (λJ=>hnew _ (.inl J) Z) hFd o N ?_
   .have hzl:zv.cells.size=qm.k α:=by rw[<-hsz,<-hzs,<-kc];simp
    simp only[Array.size_append,Jd,size_zeroCells,o,hnl,hzl,<-Nat.add_mul]
    congr 1
    omega
   .intro r v e;have Y:=(List.getElem?_eq_some_iff.1 e).1;rw[jE (by simpa using Y)];simpa using e
  .rintro b (K|K)
   .exact .inl K
   .subst K;exact .inr ⟨jf _,by simp⟩
 rcases h3 with⟨rfl,rfl,rfl⟩|⟨b,g,t',F,rfl,H,hg,z,hF,hd,hx⟩
 .by_cases hy:ys.length=0
  .refine⟨U,0,λb=>S1 b\/S b,w,by simpa [hy] using zL (P:=P) (w:=w) t ty el k hu X p' c',?_⟩;have:ys=[]:=jT hy;subst this;exact hf.swap (c':=Ch.own (λb=>S1 b\/S b) ([]++[]) [.slice U (([]:List α).length+([]:List α).length) 0]) ⟨U,0,by simp,by simp,by simp,.inl ⟨Z,by simp,Z⟩⟩ (λb J=>J) (λ_ hd=>hd.elim)
  .exact grow [] (λ_ _=>False) (λ_ _ h=>h.elim) (λ_ _ _ _ h=>h.elim) (by simp) (λi x hi=>by simp at hi) (by simp[Builtin.firstCells]) (by simp;omega)
 .have hle0:xs.length*qm.k α<=c*qm.k α:=jt _ h1;have o:(g.toList.take (xs.length*qm.k α)).length=xs.length*qm.k α:=by simp;omega
  have N:∀i x,xs[i]?=V x->∃cs,qm.O w (F i) x cs/\∀j v,cs[j]?=V v->(g.toList.take (xs.length*qm.k α))[i*qm.k α+j]?=V v:=by
   intro i x hi;obtain⟨cs,Q,l⟩:=hx i x hi;refine⟨cs,Q,λj v hv=>?_⟩;have hjk:j<qm.k α:=by have:=qm.len (qm.toR Q);have:=(List.getElem?_eq_some_iff.1 hv).1;omega
   have hb2:=DS (m:=qm.k α) (List.getElem?_eq_some_iff.1 hi).1;rw[jK,if_pos (by omega)];simpa using l j v hv
  by_cases A:xs.length+ys.length<=c
  .have hle:(xs.length+ys.length)*qm.k α<=c*qm.k α:=jt _ A;rw[Nat.add_mul] at hle;have C:xs.length*k.size+d.length<=g.size:=by rw[hnl,s,z];exact hle
   have hr:=zM (P:=P) (w:=w) t ty el k hu X p' b xs.length c ys.length c' g t' hg d hnR hnone A C;refine⟨_,_,λb=>S1 b\/S b,_,hr,?_⟩;have hu:=hf.upd (i:=0) (c':=Ch.own (λb=>S1 b\/S b) (xs++ys) [.slice (V ⟨b,0,U⟩) (xs.length+ys.length) c])
    (w':=w.setRow b (iX g.toList (xs.length*k.size) d).toArray) Z Z Z Z (by simp) (λa _ f=>setRow_other w b a _ (λI=>f (.inr (I ▸ H)))) ?_ (λa f=>.inl f) (λ_ hd=>hd.elim)
   .exact hu
   .refine fin _ _ b _ _ t' (g.toList.take (xs.length*qm.k α)) F (λa _ hne=>setRow_other w b a _ hne) (λa f=>f) (.inr H) (setRow_heap w b _ _ t' _ hg) ?_ A h2 hF (λJ=>hap b J H) hd o N ?_
    .rw[Jd,sX (by simpa using C)];simpa using z
    .intro r v e;rw[jV,s];have Y:=(List.getElem?_eq_some_iff.1 e).1;have hr2:(g.toList.take (xs.length*qm.k α)++d++g.toList.drop (xs.length*qm.k α+d.length))[r]?=V v:=by
      rw[jA Y];exact e
     exact hr2
  .have hfo:=run_firstCells_some (P:=P) w.drew k.size xs.length ⟨b,0,U⟩ xs.length c (g.toList.take (xs.length*qm.k α)) (by rw[o,s]) (λj v l=>by
    rw[ud];rw[jK] at l;split at l
    .have:w.drew.heap[b]?=w.heap[b]?:=rfl;simp only[World.cell?,this,hg];simpa using l
    .cases l)
   exact grow _ F (λi a f=>(hF i a f).1) hd o N hfo (by omega)
theorem qdK(I:cE P T){α:Type}[qm α]{all:Array Oper}{l:List Oper}{d t ty el:Nat}{ps:String}{H:Array Edge}{x y:Operand}{S S1:Nat->Prop}{xs ys:List α}{p C:Option Addr}{B g c c':Nat}{D b:TE}{F:Value}
  (h:SH w0 w (Ch.own S1 ys [.slice C g c']::Ch.own S xs [.slice p B c]::L)) (O:gq e x=V (.slice p B c)) (R:gq e y=V (.slice C g c'))
  (v:T.get t=V D) (K:D.kind=.slice el) (o:T.get el=V b) (W:b.zero=V F) (z:(bi F).length=b.size) (u:b.size=qm.k α)
  (J:Nat.ble b.bytes 65536=An) (f:xs.length+ys.length<=QU) (M:Nat.blt d n=An)
  (r:∀w' m i S2,SH w0 w' (Ch.own S2 (xs++ys) [.slice m (xs.length+ys.length) i]::L)->bx P n Q (.ops all l::k) ((d,.slice m (xs.length+ys.length) i)::e) w') :
  bx P n Q (.ops all (⟨V d,.call ⟨.builtin .append,#[x,y],#[t,t]⟩,ty,ps,H,U⟩::l)::k) e w:=by
 obtain⟨m,i,S2,w',N,s⟩:=X6 I (ty:=ty) h v K o W z u J f;refine DZ Z Z M (λa A=>?_) (r w' m i S2 s);simp only[execOp,resolve,invoke,builtin,jk,jn,ji,List.map_toArray,Jj,List.map_nil,A.eval O,A.eval R,N]
end

section
variable{P:Program}{T:vP}{n:Nat}{Q:Exit->Act->World->Prop}{k:List It}{e:fL}{w0 w w' w1:World}{L:List Ch}
def qcP{α:Type}[qm α](w:World)(L:List Ch):List Nat->List α->List (List Value)->Prop
 |I,[],[]=>I=[]
 |I,x::xs,c::cs=>∃I1 I2,I=I1++I2/\PO w L I1 x c/\qcP w L I2 xs cs/\fu I1 I2=An
 |_,_,_=>False
theorem pN{α:Type}[qm α]:qcP w L [] ([]:List α) []:=rfl
theorem gb{α:Type}[qm α]{x:α}{xs:List α}{c:List Value}{cs:List (List Value)}{I1 I2:List Nat}(a:PO w L I1 x c)(b:qcP w L I2 xs cs)(d:fu I1 I2=An):qcP w L (I1++I2) (x::xs) (c::cs):=
 ⟨I1,I2,Z,a,b,d⟩
theorem qcP.get{α:Type}[qm α](h:SH w0 w L):∀{I:List Nat} {xs:List α} {cs:List (List Value)},qcP w L I xs cs ->
  xs.length=cs.length/\(∀c∈cs,c.length=qm.k α)/\∃F:Nat->Nat->Prop,(∀i a,F i a->∃j d,j∈I/\L[j]?=V d/\d.S a)/\(∀i j a,i≠j->F i a->¬ F j a) /\
   ∀i x,xs[i]?=V x->∃c,qm.O w (F i) x c/\∀j v,c[j]?=V v->cs.flatten[i*qm.k α+j]?=V v
 |I,[],[],hp=>⟨Z,by simp,λ_ _=>False,λ_ _ h=>h.elim,λ_ _ _ _ h=>h.elim,λi x hi=>by simp at hi⟩
 |I,x::xs,c::cs,hp=>by
  obtain⟨I1,I2,rfl,⟨S1,u,z⟩,A,n⟩:=hp;obtain⟨D,B,F,t,m,C⟩:=qcP.get h A;have r:=qm.len (qm.toR u);have l:∀i a,S1 a->¬ F i a:=λi a g f=>uX h z (S2:=F i) (λb n=>t i b n) n a g f;refine⟨by simp[D],λd m=>?_,λi a=>match i with|0=>S1 a|i+1=>F i a,λi a g=>?_,λi j a s g f=>?_,λi y hi=>?_⟩
  .rcases List.mem_cons.1 m with rfl|m
   .exact r
   .exact B d m
  .cases i with
   |zero=>obtain⟨j,d,k,h⟩:=z a g;exact⟨j,d,by simp[k],h⟩
   |succ i=>obtain⟨j,d,k,h⟩:=t i a g;exact⟨j,d,by simp[k],h⟩
  .cases i with
   |zero=>cases j with
    |zero=>exact s Z
    |succ j=>exact l j a g f
   |succ i=>cases j with
    |zero=>exact l i a f g
    |succ j=>exact m i j a (by omega) g f
  .cases i with
   |zero=>
    simp only[List.getElem?_cons_zero,Option.some.injEq] at hi;subst hi;refine⟨c,u,λj v k=>?_⟩;have:=(List.getElem?_eq_some_iff.1 k).1;rw[Nat.zero_mul,Jg,List.flatten_cons,jA this];exact k
   |succ i=>
    simp only[List.getElem?_cons_succ] at hi;obtain⟨c',o,p⟩:=C i y hi;refine⟨c',o,λj v k=>?_⟩;rw[List.flatten_cons,jD (by rw[r,jP];omega)];rw[show(i+1)*qm.k α+j-c.length=i*qm.k α+j by rw[r,jP];omega];exact p j v k
 |_,[],_::_,h=>h.elim
 |_,_::_,[],h=>h.elim
theorem kB(hT:cE P T){α:Type}[qm α]{all:Array Oper}{l:List Oper}{d t ty el len:Nat}{ps:String}{af:Array Edge}{g:Array (Nat×Operand)}{te r:TE}{zv:Value}(os:List Operand)(f:List Value)(ys:List α){I:List Nat}(J:List Nat)
  (h:SH w0 w L) (y:g.toList=(os.zipIdx 0).map λx=>(x.2,x.1)) (hvs:pD e os=V f) (N:len=f.length)
  (a9:T.get t=V te) (hk:te.kind=.slice el) (a3:T.get el=V r) (hz:r.zero=V zv) (O:r.size=qm.k α) (o:Nat.ble (f.length*r.size) 16777216=An)
  (m:qcP w L I ys (f.map bi)) (W:(fu I J&&LF J)=An) (hn:Nat.blt d n=An)
  (a6:∀w' p S,SH w0 w' (Ch.own S ys [.slice p len len]::IM L J)->bx P n Q (.ops all l::k) ((d,.slice p len len)::e) w') :
  bx P n Q (.ops all (⟨V d,.buildSlice t len g,ty,ps,af,U⟩::l)::k) e w:=by
 obtain⟨a7,K,F,hF,R,hg⟩:=m.get h;have X:∀v∈f,(bi v).length=r.size:=λv hv=>by rw[O];exact K _ (List.mem_map.2 ⟨v,hv,Z⟩)
 have hr:=HF hT f a9 hk a3 hz (js o) X w;have M:ys.length=f.length:=by simpa using a7
 subst N;simp only[je] at W;have a5:(f.map bi).flatten.length=f.length*qm.k α:=by
  have:∀(cs:List (List Value)),(∀c∈cs,c.length=qm.k α)->cs.flatten.length=cs.length*qm.k α:=by
   intro cs
   induction cs with
   |nil=>intro _;simp
   |cons c cs ih=>intro m;rw[List.flatten_cons,jg,m c (by simp),ih (λd Y=>m d (by simp[Y])),Jn,jP];omega
  rw[this _ K];simp
 have a8:f.length<=maxLen:=by
  have h1:=js o;have A:f.length*1<=f.length*r.size:=Nat.mul_le_mul_left _ (by rw[O];exact qm.kpos);simp[maxLen];omega
 have B:Below w.heap.size w (w.alloc (.cells (f.map bi).flatten.toArray el)):=(Below.refl _ _).alloc (jf _) _;have u:∀i a,F i a->mT w0 w a:=λi a z=>by obtain⟨j,d,_,D,Y⟩:=hF i a z;exact(h.mem D).2 a Y
 have A:=(h.p J W.2).ext B;refine DZ (v:=.slice (V ⟨w.heap.size,0,U⟩) f.length f.length) (w':=w.alloc (.cells (f.map bi).flatten.toArray el)) Z Z hn (λa z=>?_)
  (a6 _ _ (λb=>b=w.heap.size\/∃i,F i b) ⟨A.below,λc m=>?_,λc m=>?_,List.pairwise_cons.2 ⟨λc m b s C=>?_,A.apart⟩⟩)
 .have a4:g.map (λ(x:Nat×Operand)=>(x.1,a.eval x.2))=((f.zipIdx 0).map λx=>(x.2,x.1)).toArray:=by
   apply Array.ext';rw[Array.toList_map,y];have:=vu z hvs;subst this;rw[List.zipIdx_map,List.map_map,List.map_map]
   rfl
  simp only[execOp,a4,jk,hr,ji,jn]
 .rcases List.mem_cons.1 m with rfl|m
  .refine⟨⟨V ⟨w.heap.size,0,U⟩,f.length,by rw[M],by rw[M];exact jf _,a8,.inr ⟨w.heap.size,_,el,F,Z,.inl Z,heap_alloc_new w _,by rw[Jd,a5],λi a z=>⟨.inr ⟨i,z⟩,λhab=>by have:=(u i a z).2;omega⟩,R,λi x hi=>?_⟩⟩,λb s=>?_⟩
   .obtain⟨cs,hO,D⟩:=hg i x hi;exact⟨cs,qm.locO hO (λa z=>heap_alloc_old w _ (u i a z).2),λj v hv=>by simpa using D j v hv⟩
   .rcases s with s|⟨i,s⟩
    .subst s;exact⟨h.below.size,by simp⟩
    .exact⟨(u i b s).1,jx (u i b s).2 B.size⟩
  .exact A.holds c m
 .rcases List.mem_cons.1 m with rfl|m
  .exact λ_ h=>h.elim
  .exact A.elder c m
 .obtain⟨j,D,H⟩:=tT m;rcases s with s|⟨i,s⟩
  .subst s;have:=((h.mem H).2 _ C).2;omega
  .exact uX h (S1:=F i) (S2:=c.S) (hF i) (λx hx=>⟨j,c,D,H,hx⟩) W.1 b s C
def Ch.hole{α:Type}[qm α](S:Nat->Prop)(xs:List α)(p:Option Addr)(B c i:Nat)(cs:List Value):Ch where
 S:=S
 D _:=False
 P w:=B=xs.length/\xs.length<=c/\c<=maxLen/\i<xs.length/\cs.length=qm.k α /\
  ∃b d T,∃F:Nat->Nat->Prop,p=V ⟨b,0,U⟩/\S b/\w.heap[b]?=V (.cells d T (0,0))/\d.size=c*qm.k α /\
   (∀i a,F i a->S a/\a≠b)/\(∀i j a,i≠j->F i a->¬ F j a)/\(∀a,¬ F i a)/\(∀j v,cs[j]?=V v->d[i*qm.k α+j]?=V v) /\
   ∀j x,j≠i->xs[j]?=V x->∃f,qm.O w (F j) x f/\∀r v,f[r]?=V v->d[j*qm.k α+r]?=V v
 loc w w' h _ hp:=by
  obtain⟨l,m,n,o,s,b,d,T,F,C,g,H,I,k,J,K,L,M⟩:=hp
  exact⟨l,m,n,o,s,b,d,T,F,C,g,by rw[h b g];exact H,I,k,J,K,L,λj x z A=>by
   obtain⟨f,t,y⟩:=M j x z A
   exact⟨f,qm.locO t (λa u=>h a (k j a u).1),y⟩⟩
theorem SH.take{α:Type}[qm α]{S:Nat->Prop}{xs:List α}{p:Option Addr}{A c:Nat}{iv:Int}{x:α}(h:SH w0 w (Ch.own S xs [.slice p A c]::L))(M:qG xs iv=V x) :
  ∃S1 S2 cs,SH w0 w (Ch.own S1 x cs::Ch.hole S2 xs p A c iv.toNat cs::L):=by
 obtain⟨I,s⟩:=h.holds _ (ju ..);obtain⟨O,K,n⟩:=bJ M;have k:=List.pairwise_cons.1 h.apart;obtain⟨P,c',z,C,D,H⟩:=I;simp only[List.cons.injEq,Value.slice.injEq,and_true] at z;obtain⟨rfl,rfl,rfl⟩:=z;have m:=(List.getElem?_eq_some_iff.1 n).1;rcases H with⟨_,rfl,_⟩|⟨b,cur,t,F,rfl,o,hg,hcur,hF,hd,hx'⟩
 .simp at m
 .obtain⟨cs,v,J⟩:=hx' _ _ n;refine⟨F iv.toNat,λa=>a=b\/∃i,i≠iv.toNat/\F i a,cs,h.below,λd f=>?_,λd f=>?_,?_⟩
  .rcases List.mem_cons.1 f with rfl|f
   .exact⟨v,λa g=>s a (hF _ a g).1⟩
   rcases List.mem_cons.1 f with rfl|f
   .refine⟨⟨Z,C,D,m,qm.len (qm.toR v),b,cur,t,λi a=>i≠iv.toNat/\F i a,Z,.inl Z,hg,hcur,λi a g=>⟨.inr ⟨i,g⟩,(hF i a g.2).2⟩,λi j a l g o=>hd i j a l g.2 o.2,λa g=>g.1 Z,J,λj y l N=>?_⟩,λa g=>?_⟩
    .obtain⟨B,r,u⟩:=hx' j y N;exact⟨B,qm.monoO r (λa g=>⟨l,g⟩),u⟩
    .rcases g with g|⟨i,_,g⟩
     .exact s a (g ▸ o)
     .exact s a (hF i a g).1
   .exact h.holds d (jr _ f)
  .rcases List.mem_cons.1 f with rfl|f
   .exact λ_ h=>h.elim
   rcases List.mem_cons.1 f with rfl|f
   .exact λ_ h=>h.elim
   .exact h.elder d (jr _ f)
  .refine List.pairwise_cons.2 ⟨λd f a g=>?_,List.pairwise_cons.2 ⟨λd f a g=>?_,k.2⟩⟩
   .rcases List.mem_cons.1 f with rfl|f
    .rintro(hab|⟨i,hi,ha2⟩)
     .exact(hF _ a g).2 hab
     .exact hd i _ a hi ha2 g
    .exact k.1 d f a (hF _ a g).1
   .rcases g with g|⟨i,_,g⟩
    .exact k.1 d f a (g ▸ o)
    .exact k.1 d f a (hF i a g).1
theorem SH.put{α:Type}[qm α]{S1 S2:Nat->Prop}{xs:List α}{p:Option Addr}{l c i:Nat}{x:α}{cs:List Value}(h:SH w0 w (Ch.own S1 x cs::Ch.hole S2 xs p l c i cs::L)) :
  SH w0 w (Ch.own (λb=>S1 b\/S2 b) (xs.set i x) [.slice p l c]::L):=by
 have f:=(List.pairwise_cons.1 h.apart).1 (Ch.hole S2 xs p l c i cs) (ju ..);refine h.join (e:=Ch.own (λb=>S1 b\/S2 b) (xs.set i x) [.slice p l c]) (λv z=>?_) (λ_ g=>g) (λ_ h=>h.elim);obtain⟨rfl,t,u,K,M,b,n,T,F,rfl,r,C,D,m,H,N,I,J⟩:=z;refine⟨_,_,by rw[List.length_set],by simpa using t,u,.inr ⟨b,n,T,λj a=>(j=i/\S1 a)\/(j≠i/\F j a),Z,.inr r,C,D,?_,?_,?_⟩⟩
 .rintro j a (⟨_,d⟩|⟨_,d⟩)
  .exact⟨.inl d,λo=>f a d (o ▸ r)⟩
  .exact⟨.inr (m j a d).1,(m j a d).2⟩
 .rintro j j' a hne (⟨hj,d⟩|⟨hj,d⟩) (⟨hj',g⟩|⟨hj',g⟩)
  .exact hne (hj.trans hj'.symm)
  .exact f a d (m j' a g).1
  .exact f a g (m j a d).1
  .exact H j j' a hne d g
 .intro j y k;rw[List.getElem?_set] at k;split at k
  .rename_i hij
   simp only[Option.some.injEq] at k;subst k hij;exact⟨cs,qm.monoO v (λa d=>.inl ⟨Z,d⟩),I⟩
  .rename_i hij
   obtain⟨s,A,B⟩:=J j y (λe=>hij e.symm) k;exact⟨s,qm.monoO A (λa d=>.inr ⟨λe=>hij e.symm,d⟩),B⟩
theorem SH.holeAt{α:Type}[qm α]{S:Nat->Prop}{xs:List α}{p:Option Addr}{a c i:Nat}{cs:List Value}(m:Nat)(h:SH w0 w L)(hi:L[m]?=V (Ch.hole S xs p a c i cs)) :
  ∃b,p=V ⟨b,0,U⟩/\cG w b (i*qm.k α) cs/\i<a/\a=xs.length:=by
 obtain⟨rfl,l,n,f,o,b,d,T,F,rfl,r,g,s,t,u,v,k,x⟩:=(h.mem hi).1;exact⟨b,Z,cG.of_block g k,f,Z⟩
theorem qan{α:Type}[qm α]{S:Nat->Prop}{xs:List α}{p:Option Addr}{D c i j b:Nat}{cs y:List Value}{m:Nat}(h:SH w0 w L)(hi:L[m]?=V (Ch.hole S xs p D c i cs))(X:p=V ⟨b,0,U⟩)(n:j+y.length<=cs.length) :
  ∃d t,w.heap[b]?=V (.cells d t (0,0))/\i*qm.k α+j+y.length<=d.size /\
   SH w0 (w.setRow b (iX d.toList (i*qm.k α+j) y).toArray) (L.set m (Ch.hole S xs p D c i (iX cs j y))):=by
 obtain⟨R,hS⟩:=h.mem hi;obtain⟨rfl,N,O,P,Q,b',d,T,F,s,H,I,J,K,e,q7,q8,q9⟩:=R;subst X;simp only[Option.some.injEq,Addr.mk.injEq,and_true] at s;subst s;have W:i*qm.k α+qm.k α<=d.size:=by rw[J];exact DS (by omega)
 have f:i*qm.k α+j+y.length<=d.toList.length:=by simp;omega
 refine⟨d,T,I,by simpa using f,?_⟩;refine h.upd hi Z Z Z (by simp) (λa _ l=>setRow_other w b a _ (λz=>l (z ▸ H))) ?_ (λa l=>.inl l) (λ_ A=>A.elim);refine⟨Z,N,O,P,by rw[sX n];exact Q,b,_,T,F,Z,H,setRow_heap w b _ _ T _ I,by rw[Jd,sX f];simpa using J,K,e,q7,λr v k=>?_,λr x o Y=>?_⟩
 .rw[jV];rw[getElem?_splice n] at k;rw[getElem?_splice f];have g:∀r v,cs[r]?=V v->d.toList[i*qm.k α+r]?=V v:=λr v k=>by simpa using q8 r v k
  split at k
  .rw[if_pos (by omega)];exact g _ _ k
  .split at k
   .rw[if_neg (by omega),if_pos (by omega),show i*qm.k α+r-(i*qm.k α+j)=r-j by omega];exact k
   .rw[if_neg (by omega),if_neg (by omega)];exact g _ _ k
 .obtain⟨M,B,A⟩:=q9 r x o Y;refine⟨M,qm.locO B (λa l=>setRow_other w b a _ (K r a l).2),λq v C=>?_⟩;have u:q<qm.k α:=by have:=qm.len (qm.toR B);have:=(List.getElem?_eq_some_iff.1 C).1;omega
  have hs:=qcA (q:=q) o u u;rw[jV,U8 f (by omega)];simpa using A q v C
theorem DY(F:cE P T){α:Type}[qm α]{all:Array Oper}{l:List Oper}{t ty:Nat}{ps:String}{B:Array Edge}{x v:Operand}{A:TE}{S:Nat->Prop}{xs:List α}{p:Option Addr}{z c b m q:Nat}{cs:List Value}{u:Value}(i j:Nat)
  (h:SH w0 w L) (hi:L[i]?=V (Ch.hole S xs p z c m cs)) (J:p=V ⟨b,0,U⟩) (y:q=0+m*qm.k α) (M:gq e x=V (.pointer (V ⟨b,q+j,U⟩))) (K:gq e v=V u) (r:T.get t=V A)
  (o:Nat.beq (bi u).length A.size=An) (f:Nat.ble (j+(bi u).length) cs.length=An) (D:R0 (bi u)=An)
  (I:∀w',SH w0 w' (L.set i (Ch.hole S xs p z c m (iX cs j (bi u))))->bx P n Q (.ops all l::k) e w'):bx P n Q (.ops all (⟨U,.store t x v,ty,ps,B,U⟩::l)::k) e w:=by
 rw[Jg] at y;subst y;obtain⟨C,N,H,d,g⟩:=qan h hi J (js f);refine E8 Z Z (λa s=>?_) (I _ g);have:=ED F r H (KK o) d D;simp only[execOp,s.eval M,s.eval K,jk,this,ji,jn]
def Ch.lrn{α:Type}[qm α](S:Nat->Prop)(x:α)(cs:List Value)(fs:List WI):Ch where
 S:=S
 D _:=False
 P w:=qm.O w S x cs/\∀f∈fs,f.R w S
 loc _ _ h _ hp:=⟨qm.locO hp.1 h,λf a=>qm.loc (self:=f.inst) (hp.2 f a) h⟩
theorem SH.say{c c':Ch}{i:Nat}(h:SH w0 w L)(hi:L[i]?=V c)(g:c.P w->c'.P w)(d:∀b,c'.S b->c.S b)(a:∀b,c'.D b->b<w0.heap.size):SH w0 w (L.set i c'):=
 h.upd hi Z Z Z (jf _) (λ_ _ _=>rfl) (g (h.mem hi).1) (λb f=>.inl (d b f)) a
variable{α β:Type}[qm α][qm β]{S:Nat->Prop}{x:α}{cs:List Value}{fs:List WI}
theorem SH.lrn0(i:Nat)(h:SH w0 w L)(hi:L[i]?=V (Ch.own S x cs)):SH w0 w (L.set i (Ch.lrn S x cs [])):=
 h.say hi (λa=>⟨a,λ_ h=>by cases h⟩) (λ_ h=>h) (λ_ h=>h.elim)
theorem SH.unlrn(i:Nat)(h:SH w0 w L)(hi:L[i]?=V (Ch.lrn S x cs fs)):SH w0 w (L.set i (Ch.own S x cs)):=
 h.say hi (λa=>a.1) (λ_ h=>h) (λ_ h=>h.elim)
theorem SH.lrnAdd{y:β}{b:List Value}(i:Nat)(h:SH w0 w L)(hi:L[i]?=V (Ch.lrn S x cs fs))(d:qm.R w S y b):SH w0 w (L.set i (Ch.lrn S x cs (vk y b::fs))):=
 h.say hi (λc=>⟨c.1,λf a=>by
  rcases List.mem_cons.1 a with rfl|a
  .exact d
  .exact c.2 f a⟩) (λ_ h=>h) (λ_ h=>h.elim)
theorem SH.lrnS(i j:Nat){y:β}{a:List Value}(h:SH w0 w L)(hi:L[i]?=V (Ch.lrn S x cs fs))(b:fs[j]?=V (vk y a)):qm.R w S y a:=
 (h.mem hi).1.2 _ (jB b)
theorem SH.lrnO(i:Nat)(h:SH w0 w L)(hi:L[i]?=V (Ch.lrn S x cs fs)):qm.R w S x cs:=qm.toR (h.mem hi).1.1
theorem SH.lrnB(i:Nat)(h:SH w0 w L)(hi:L[i]?=V (Ch.lrn S x cs fs)):∀b,S b->Fw.old w b:=λb a=>((h.mem hi).2 b a).2
theorem tV{xs:List α}{p:Option Addr}{b c:Nat}(h:qm.R w S xs [.slice p b c]):dG w S xs p c/\b=xs.length:=by
 obtain⟨f,c',a,d⟩:=h;simp only[List.cons.injEq,Value.slice.injEq,and_true] at a;obtain⟨rfl,rfl,rfl⟩:=a;exact⟨d,Z⟩
def mt{α:Type}[qm α](w:World)(S:Nat->Prop)(p:Option α)(a:Option Addr):Prop:=qm.R w S p [.pointer a]
theorem aJ{p:Option α}{cs:List Value}(h:qm.R w S p cs):∃a,cs=[.pointer a]/\mt w S p a:=by
 cases p with
 |none=>exact⟨U,h,(rfl:[Value.pointer U]=[.pointer U])⟩
 |some x=>
  obtain⟨b,o,c,T,fr,d,rfl,h⟩:=h;exact⟨_,Z,b,o,c,T,fr,d,Z,h⟩
theorem mt.get{p:Option α}{a:Option Addr}{x:α}(h:mt w S p a)(m:p=V x):∃b o c,a=V ⟨b,o,U⟩/\S b/\qm.R w S x c/\cG w b o c:=by
 subst m;obtain⟨b,o,f,T,fr,c,d,g,i,l,k⟩:=h;simp only[List.cons.injEq,Value.pointer.injEq,and_true] at d;exact⟨b,o,c,d,g,l,cG.of_block i k⟩
theorem mt.isNone{p:Option α}{a:Option Addr}(h:mt w S p a):a.isNone=p.isNone:=by
 cases p with
 |none=>have c:[Value.pointer a]=[.pointer U]:=h;cases c;rfl
 |some x=>obtain⟨b,o,d,rfl,_⟩:=h.get Z;rfl
theorem mt.mono{S':Nat->Prop}{p:Option α}{a:Option Addr}(h:mt w S p a)(c:∀b,S b->S' b):mt w S' p a:=qm.mono h c
theorem mt.none:mt w S (U:Option α) U:=rfl
theorem L8{b:Nat}{a:List Value}{t:TypeId}(i:Nat)(h:SH w0 w L)(hi:L[i]?=V (Ch.box b a t))(c:S b)(g:qm.R w S x a):qm.R w S (V x) [.pointer (V ⟨b,0,U⟩)]:=by
 have d:w.heap[b]?=V (.cells a.toArray t (0,0)):=(h.mem hi).1;exact⟨b,0,_,t,(0,0),a,Z,c,d,g,λj v f=>by simpa using f⟩
theorem pm{b:Nat}{a:List Value}{t:TypeId}(i:Nat)(h:SH w0 w L)(hi:L[i]?=V (Ch.box b a t))(c:qm.R w (Fw.old w) x a):qm.R w (Fw.old w) (V x) [.pointer (V ⟨b,0,U⟩)]:=
 L8 i h hi ((h.mem hi).2 b Z).2 c
def HN:List Ch->Prop
 | []=>True
 |c::L=>(∀b,¬ c.D b)/\HN L
theorem HN.all:∀{L:List Ch},HN L->∀c∈L,∀b,¬ c.D b
 | [],_,_,h=>by cases h
 |d::L,h,c,hc=>by
  rcases List.mem_cons.1 hc with rfl|hc
  .exact h.1
  .exact HN.all h.2 c hc
theorem SH.unbase(h:SH w1 w L)(f:Below w0.heap.size w0 w1)(g:HN L):SH w0 w L:=
 ⟨f.trans (h.below.mono f.size),λc d=>⟨(h.holds c d).1,λb a=>⟨Ja f.size ((h.holds c d).2 b a).1,((h.holds c d).2 b a).2⟩⟩,λc d b a=>absurd a (g.all c d b),h.apart⟩
end

def xV{α:Type}(xs:List α)(lo hi:Int):Option (List α):=if 0<=lo/\lo<=hi/\hi<=xs.length then V ((xs.take hi.toNat).drop lo.toNat) else U
theorem xy{α:Type}{xs r:List α}{lo hi:Int}(h:xV xs lo hi=V r):0<=lo/\lo<=hi/\hi<=xs.length/\(xs.take hi.toNat).drop lo.toNat=r:=by
 unfold xV at h;split at h
 .rename_i hh;exact⟨hh.1,hh.2.1,hh.2.2,Option.some.inj h⟩
 .cases h
theorem qcD{α:Type}{xs:List α}{lo hi:Nat}(a:lo<=hi)(b:hi<=xs.length):((xs.take hi).drop lo).length=hi-lo:=by simp;omega
section
variable{P:Program}{T:vP}{n:Nat}{Q:Exit->Act->World->Prop}{k:List It}{e:fL}{w0 w w' w1:World}{L:List Ch}
structure Rg(A0:Nat->Prop)(w00:World)(B:Nat->Prop)(w0:World):Prop where
 below:Below w00.heap.size w00 w0
 old:∀b,B b->Fw.old w0 b
 fin:∀b,B b->vJ A0 w00 w0 b
theorem Rg.start{A:Nat->Prop}(h:∀b,A b->Fw.old w b):Rg A w A w:=⟨Below.refl _ _,h,λ_ a=>.inl a⟩
structure Up(B:Nat->Prop)(w0 w:World)(B':Nat->Prop)(w1:World):Prop where
 below:Below w.heap.size w w1
 sub:∀b,vJ B w0 w b->B' b
variable{A0 A B B':Nat->Prop}{w00:World}{α:Type}[qm α]{x:α}{cs:List Value}{xs:List α}{p:Option Addr}{c:Nat}
theorem Up.heap(d:Rg A0 w00 B w0)(h:SH w0 w L)(f:Up B w0 w B' w1):∀b,B b->w1.heap[b]?=w0.heap[b]?:=λb c=>by
 have a:=d.old b c;rw[f.below.block b (jx a h.below.size),h.below.block b a]
theorem Up.R(d:Rg A0 w00 B w0)(h:SH w0 w L)(a:Up B w0 w B' w1)(f:qm.R w0 B x cs):qm.R w1 B' x cs:=
 qm.mono (qm.loc f (Up.heap d h a)) (λb c=>a.sub b (.inl c))
theorem Up.S(f:Rg A0 w00 B w0)(h:SH w0 w L)(a:Up B w0 w B' w1)(g:dG w0 B xs p c):dG w1 B' xs p c:=
 (g.loc (Up.heap f h a)).mono (λb d=>a.sub b (.inl d))
theorem Up.Pt{y:Option α}{a:Option Addr}(b:Rg A0 w00 B w0)(h:SH w0 w L)(d:Up B w0 w B' w1)(c:mt w0 B y a):mt w1 B' y a:=Up.R b h d c
theorem Up.C{b o:Nat}(h:SH w0 w L)(c:Up B w0 w B' w1)(a:cG w0 b o cs):cG w1 b o cs:=(a.below h.below).below c.below
theorem Up.own{S:Nat->Prop}(i:Nat)(h:SH w0 w L)(c:Up B w0 w B' w1)(hi:L[i]?=V (Ch.own S x cs)):qm.R w1 B' x cs:=
 qm.mono (qm.loc (qm.toR (h.mem hi).1) (λb a=>c.below.block b ((h.mem hi).2 b a).2)) (λb a=>c.sub b (.inr ((h.mem hi).2 b a)))
theorem Up.box{b:Nat}{t:TypeId}(i:Nat)(h:SH w0 w L)(a:Up B w0 w B' w1)(hi:L[i]?=V (Ch.box b cs t)):cG w1 b 0 cs:=(h.box i hi).below a.below
theorem Rg.inR(c:Rg A0 w00 B w0)(h:SH w0 w L)(d:qm.R w0 B x cs):qm.R w (vJ B w0 w) x cs:=
 qm.mono (qm.loc d (λb a=>h.below.block b (c.old b a))) (λ_ a=>.inl a)
theorem Rg.inS(d:Rg A0 w00 B w0)(h:SH w0 w L)(f:dG w0 B xs p c):dG w (vJ B w0 w) xs p c:=
 (f.loc (λb a=>h.below.block b (d.old b a))).mono (λ_ a=>.inl a)
theorem Rg.ownR{S:Nat->Prop}(i:Nat)(h:SH w0 w L)(hi:L[i]?=V (Ch.own S x cs)):qm.R w (vJ B w0 w) x cs:=
 qm.mono (qm.toR (h.mem hi).1) (λb a=>.inr ((h.mem hi).2 b a))
theorem Rg.regOld(a:Rg A0 w00 B w0)(h:SH w0 w L):∀b,vJ B w0 w b->Fw.old w b:=by
 rintro b (hb|hb)
 .exact jx (a.old b hb) h.below.size
 .exact hb.2
theorem Rg.boxR{b:Nat}{t:TypeId}{a:List Value}(i:Nat)(h:SH w0 w L)(hi:L[i]?=V (Ch.box b a t))(c:qm.R w (vJ B w0 w) x a):qm.R w (vJ B w0 w) (V x) [.pointer (V ⟨b,0,U⟩)]:=
 L8 i h hi (.inr ((h.mem hi).2 b Z)) c
theorem Rg.outR(a:Rg A0 w00 B w0)(h:SH w0 w L)(c:qm.R w (vJ B w0 w) x cs):qm.R w (vJ A0 w00 w) x cs:=
 qm.mono c (by
  rintro b (hb|hb)
  .rcases a.fin b hb with hb|hb
   .exact .inl hb
   .exact .inr ⟨hb.1,jx hb.2 h.below.size⟩
  .exact .inr ⟨Ja a.below.size hb.1,hb.2⟩)
class wx (ρ:Type) [gk ρ]:Prop where
 mono:∀{w:World} {S S':Nat->Prop} {r:ρ} {us:List Value},gk.Rs w S r us->(∀b,S b->S' b)->gk.Rs w S' r us
instance {α:Type}[qm α]:wx α:=⟨λh hs=>by obtain⟨cs,rfl,h⟩:=h;exact⟨cs,Z,qm.mono h hs⟩⟩
instance (priority:=high){α β:Type}[qm α][gk β][wx β]:wx (α×β):=⟨λh hs=>by
 obtain⟨cs,us,rfl,h1,h2⟩:=h
 exact⟨cs,us,Z,qm.mono h1 hs,wx.mono h2 hs⟩⟩
theorem pO{ρ:Type}[gk ρ][wx ρ](r:ρ){all:Array Oper}{l:List Oper}{d ty:Nat}{ps:String}{D:Array Edge}{x:Operand}{c:Array Operand}{t:Array TypeId}{f:FuncId}{A z:Array Value}{y C:List Value}
  (p:Rg A0 w00 B w0) (h:SH w0 w L) (m:kH P f) (H:yP P f C w (vJ B w0 w) r) (M:gq e x=V (.func (.func f) A z)) (g:pD e c.toList=V y) (u:A.toList++y++z.toList=C) (J:Nat.blt d n=An)
  (I:∀w1 o B',Rg A0 w00 B' w1->Up B w0 w B' w1->SH w1 w1 []->gk.Rs w1 B' r o->bx P n Q (.ops all l::k) ((d,ww o)::e) w1) :
  bx P n Q (.ops all (⟨V d,.call ⟨.value x,c,t⟩,ty,ps,D,U⟩::l)::k) e w:=by
 subst u;refine yB (R:=λv w'=>Below w.heap.size w w'/\∃o,v=ww o/\gk.Rs w' (vJ (vJ B w0 w) w w') r o) Z Z J (λa F=>rP F m M g w) H ?_;rintro v w1 ⟨s,o,rfl,K⟩;have i:Below w0.heap.size w0 w1:=h.below.trans (s.mono h.below.size);refine I w1 o (vJ B w0 w1) ⟨p.below.trans (i.mono p.below.size),?_,?_⟩ ⟨s,?_⟩ (SH.start w1) (wx.mono K ?_)
 .rintro b (hB|hB)
  .exact jx (p.old b hB) i.size
  .exact hB.2
 .rintro b (hB|hB)
  .rcases p.fin b hB with hB|hB
   .exact .inl hB
   .exact .inr ⟨hB.1,jx hB.2 i.size⟩
  .exact .inr ⟨Ja p.below.size hB.1,hB.2⟩
 .rintro b (hB|hB)
  .exact .inl hB
  .exact .inr ⟨hB.1,jx hB.2 s.size⟩
 .rintro b ((hB|hB)|hB)
  .exact .inl hB
  .exact .inr ⟨hB.1,jx hB.2 s.size⟩
  .exact .inr ⟨Ja h.below.size hB.1,hB.2⟩
theorem kQ{w:World}{S:Nat->Prop}{r:α}{a:List Value}(h:(qeu:gk α).Rs w S r a):∃cs,a=[qm.v α cs]/\qm.R w S r cs:=h
theorem dP{β:Type}[gk β]{w:World}{S:Nat->Prop}{r:α×β}{a:List Value}(h:gk.Rs w S r a):∃cs vs,a=qm.v α cs::vs/\qm.R w S r.1 cs/\gk.Rs w S r.2 vs:=h
def RS(a:Nat)(p:Option Addr)(c:Nat)(lo:Nat):Option Addr:=if c=lo then p else p.map (·.add (lo*a))
theorem dG.sub{S:Nat->Prop}(h:dG w S xs p c){lo hi:Nat}(t:lo<=hi)(k:hi<=xs.length):dG w S ((xs.take hi).drop lo) (RS (qm.k α) p c lo) (c-lo):=by
 obtain⟨u,x,s⟩:=h;have f:((xs.take hi).drop lo).length=hi-lo:=by simp;omega
 refine⟨by rw[f];omega,by omega,?_⟩;rcases s with⟨hp,rfl⟩|⟨b,o,cur,T,fr,rfl,hb,hg,hc,hx⟩
 .left;have:hi=0:=by simpa using k
  have:lo=0:=by omega
  subst this;refine⟨?_,by simp⟩;rcases hp with rfl|rfl
  .left;unfold RS;split<;>rfl
  .right;rfl
 .by_cases d:c=lo
  .left;exact⟨.inr (by omega),jT (by rw[f];omega)⟩
  .right;have g:(c-lo)*qm.k α=c*qm.k α-lo*qm.k α:=Nat.sub_mul ..;have m:lo*qm.k α<=c*qm.k α:=jt _ (by omega);refine⟨b,o+lo*qm.k α,cur,T,fr,?_,hb,hg,by omega,λi y a=>?_⟩
   .unfold RS;rw[if_neg d];simp[ud]
   .rw[Je,jK] at a;split at a
    .obtain⟨cs,n,l⟩:=hx _ _ a;refine⟨cs,n,λj v r=>?_⟩;have:=l j v r;rw[Nat.add_mul] at this;rw[<-this]
     congr 1
     omega
    .cases a
theorem TD{x:Value}{y:Nat}{code:BoundsCode}{kd:IntKind}{i:Int}(c:x=.int kd i)(a:0<=i)(b:i<=y)(w:World):(Instr.sliceBound x y code).run P w=.ok i.toNat w:=by
 subst c;simp[Instr.sliceBound,asIntOf,a,b]
def YM(e:fL):Option Operand->Int->Option Int
 |none,d=>V d
 |some x,_=>match gq e x with
  |some (.int _ i)=>V i
  |_=>U
theorem qcI(C:cE P T){x:Operand}{lo hi:Option Operand}{t ty d el:Nat}{ps:String}{F:Array Edge}{g:Option (Nat×Bool)}{D o:TE}{k m:Nat}{l h:Int}
  (N:gq e x=V (.slice p k c)) (f:YM e lo 0=V l) (b:YM e hi k=V h) (I:0<=l) (O:l<=h) (Q:h<=k) (R:k<=c)
  (B:T.get t=V D) (J:D.kind=.slice el) (A:T.get el=V o) (K:o.size=m):MV P n e ⟨V d,.slice t x lo hi U,ty,ps,F,g⟩ w (.slice (RS m p c l.toNat) (h.toNat-l.toNat) (c-l.toNat)):=by
 intro a r;have M:=nq (C _ _ B) J;have L:=vy (C _ _ A) w;subst K;have s:∀(code:BoundsCode),(match hi.map a.eval with|some v=>Instr.sliceBound v c code|none=>pure k:Sem Nat).run P w=.ok h.toNat w:=by
  intro code;cases hi with
  |none=>simp only[YM,Option.some.injEq] at b;subst b;simp
  |some y=>
   simp only[YM] at b;split at b
   .rename_i kd i hy
    simp only[Option.some.injEq] at b;subst b;simp only[Option.map_some];exact TD (r.eval hy) (by omega) (by omega) w
   .cases b
 have u:∀(code:BoundsCode),(match lo.map a.eval with|some v=>Instr.sliceBound v h.toNat code|none=>pure 0:Sem Nat).run P w=.ok l.toNat w:=by
  intro code;cases lo with
  |none=>simp only[YM,Option.some.injEq] at f;subst f;simp
  |some y=>
   simp only[YM] at f;split at f
   .rename_i kd i hy
    simp only[Option.some.injEq] at f;subst f;simp only[Option.map_some];exact TD (r.eval hy) I (by omega) w
   .cases f
 have z:(Instr.sliceBounds An k c (lo.map a.eval) (hi.map a.eval) U).run P w=.ok (l.toNat,h.toNat,c) w:=by
  have e1:=s .sliceAcap;have H:=u .sliceB;unfold Instr.sliceBounds;cases hi<;>cases lo<;>simp only[Option.map_none,Option.map_some,jk,jn,ji,if_true,Option.isSome_none,Bool.false_eq_true,if_false] at e1 H⊢<;>simp_all
 simp only[execOp,r.eval N,Option.map_none,Instr.sliceAt,Instr.sureAddr,Instr.slice,jk,jn,run_underlying M,ji,z,L,RS]
def Y4(s:ByteArray)(i:Int):Option Int:=if 0<=i then(s[i.toNat]?).map λb=>(b.toNat:Int) else U
theorem CP{s:ByteArray}{i r:Int}(h:Y4 s i=V r):∃b,(if 0<=i then s[i.toNat]? else U)=V b/\(b.toNat:Int)=r:=by
 unfold Y4 at h;split at h
 .rename_i h0
  obtain⟨b,a,rfl⟩:=Option.map_eq_some_iff.1 h;exact⟨b,by rw[if_pos h0,a],Z⟩
 .cases h
theorem EP(l:cE P T){x i:Operand}{t ty d:Nat}{ps:String}{k:Array Edge}{g:Option (Nat×Bool)}{h:TE}{s:ByteArray}{kd:IntKind}{iv r:Int}
  (p:∃b,(if 0<=iv then s[iv.toNat]? else U)=V b/\(b.toNat:Int)=r) (v:gq e x=V (.string s)) (hi:gq e i=V (.int kd iv)) (c:T.get t=V h) (o:h.kind=.str):MV P n e ⟨V d,.index t x i,ty,ps,k,g⟩ w (.int .u8 r):=by
 intro a f;obtain⟨b,m,rfl⟩:=p;have u:=LJ (l _ _ c) o;simp only[execOp,f.eval v,f.eval hi,Instr.index,asIntOf,jk,jn,ji,run_underlying u,m]
def WX(a b:ByteArray):Option ByteArray:=if ((a.size+b.size:Nat):Int)<=IntKind.i64.max then V (a++b) else U
theorem xn{a b r:ByteArray}(h:WX a b=V r):((a.size+b.size:Nat):Int)<=IntKind.i64.max/\a++b=r:=by
 unfold WX at h;split at h
 .rename_i hh;exact⟨hh,Option.some.inj h⟩
 .cases h
theorem TN{x y:Operand}{t m d ty:Nat}{ps:String}{h:Array Edge}{g:Option (Nat×Bool)}{a b:ByteArray}
  (o:((a.size+b.size:Nat):Int)<=IntKind.i64.max) (k:gq e x=V (.string a)) (l:gq e y=V (.string b)):MV P n e ⟨V d,.binOp .add t x y m,ty,ps,h,g⟩ w (.string (a++b)):=by
 intro c f;have i:¬ (((a.size+b.size:Nat):Int) > IntKind.i64.max):=by omega
 simp only[execOp,f.eval k,f.eval l,jk,MI,ji,binOp,Op.stringOp,i,if_false,jn]
end

def OZ(e:fL)(all:Array Oper)(o:Oper):Bool:=
 match o.guard with
 |none=>Cd
 |some (j,_)=>
  match all[j]? with
  |none=>Cd
  |some p=>
   match p.dst with
   |none=>Cd
   |some t=>
    match e.get t with
    |some (.tuple _)=>An
    |_=>Cd
def YI(e:fL)(all:Array Oper)(o:Oper):Bool:=OZ e all o || (match AM e all o with|some Cd=>An|_=>Cd)
section
variable{P:Program}{T:vP}{n:Nat}{Q:Exit->Act->World->Prop}{k:List It}{e:fL}{w0 w w' w1:World}{L:List Ch}
theorem XO{all:Array Oper}{o:Oper}{a:Act}(d:gp n e a)(h:OZ e all o=An):Region.wanted o (yielded all a.tmps)=Cd:=by
 unfold OZ at h;unfold Region.wanted;split at h
 .cases h
 .rename_i j want hg
  rw[hg];simp only;split at h
  .cases h
  .rename_i p hp
   split at h
   .cases h
   .rename_i t ht
    split at h
    .rename_i c hc
     have b:=d.at_ t _ hc;have f:yielded all a.tmps j=U:=by simp[yielded,hp,ht,b]
     rw[f]
     rfl
    .cases h
theorem SV{all:Array Oper}{o:Oper}{a:Act}(b:gp n e a)(h:YI e all o=An):Region.wanted o (yielded all a.tmps)=Cd:=by
 unfold YI at h;rw[Bool.or_eq_true] at h;rcases h with h|h
 .exact XO b h
 .split at h
  .rename_i hg;exact AN b hg
  .cases h
theorem qc0{all:Array Oper}{o:Oper}{l:List Oper}{d:Nat}(h:YI e all o=An)(c:o.dst=V d)(g:Nat.blt d n=An)
  (f:bx P n Q (.ops all l::k) ((d,undef)::e) w):bx P n Q (.ops all (o::l)::k) e w:=by
 intro a b;show wpList P all (post P Q k) (o::l) a w;rw[wpList,if_neg (by rw[SV b h];simp),c];exact f _ (b.put g undef)
theorem qcU{all:Array Oper}{o:Oper}{l:List Oper}{d:Nat}(h:YI e all o=An)(c:o.dst=V d)(g:Nat.blt d n=An)
  (f:lV P n Q k all w l ((d,undef)::e)):lV P n Q k all w (o::l) e:=by
 intro a b;rw[wpQuiet,if_neg (by rw[SV b h];simp),c];exact f _ (b.put g undef)
theorem pZ{α:Type}[qm α]{S:Nat->Prop}{xs:List α}{p:Option Addr}{k c i b q:Nat}{cs:List Value}(h:SH w0 w L)(m:Nat)(hi:L[m]?=V (Ch.hole S xs p k c i cs))(f:p=V ⟨b,0,U⟩)(g:q=0+i*qm.k α):cG w b q cs:=by
 obtain⟨l,a,d,_⟩:=h.holeAt m hi;rw[f] at a;simp only[Option.some.injEq,Addr.mk.injEq,and_true] at a;subst a g;rw[Jg];exact d
theorem EE{α:Type}[qm α]{S:Nat->Prop}{x:α}{cs:List Value}(h:SH w0 w (Ch.own S x cs::L)):∃S',SH w0 w (Ch.own S' x cs::L):=⟨S,h⟩
theorem VT{α:Type}[qm α]{S:Nat->Prop}{xs r:List α}{p:Option Addr}{c:Nat}{lo hi:Int}(f:dG w S xs p c)(g:xV xs lo hi=V r) :
  ∃p1 k1,RS (qm.k α) p c lo.toNat=p1/\c-lo.toNat=k1/\hi.toNat-lo.toNat=r.length/\0<=lo/\lo<=hi/\hi<=xs.length/\xs.length<=c:=by
 obtain⟨a,b,d,rfl⟩:=xy g;exact⟨_,_,Z,Z,(qcD (by omega) (by omega)).symm,a,b,d,f.1⟩
theorem G1{α:Type}[qm α]{S:Nat->Prop}{xs r:List α}{p p1:Option Addr}{c a:Nat}{lo hi:Int}(f:dG w S xs p c)(g:xV xs lo hi=V r)(d:RS (qm.k α) p c lo.toNat=p1)(b:c-lo.toNat=a):dG w S r p1 a:=by
 obtain⟨h,i,k,rfl⟩:=xy g;subst d b;exact f.sub (by omega) (by omega)
theorem VS{lo hi:Int}{m c a:Nat}(g:0<=lo/\lo<=hi/\hi<=(m:Int)/\m<=c)(e:a=m):0<=lo/\lo<=hi/\hi<=(a:Int)/\a<=c:=by subst e;exact g
theorem KF(A:cE P T){x:Operand}{lo hi:Option Operand}{t ty d el:Nat}{ps:String}{z:Array Edge}{g:Option (Nat×Bool)}{y a:TE}{p p1:Option Addr}{c f m u v:Nat}{l h:Int}
  (H:gq e x=V (.slice p f c)) (r:YM e lo 0=V l) (k:YM e hi f=V h) (b:0<=l/\l<=h/\h<=f/\f<=c) (F:RS m p c l.toNat=p1) (o:c-l.toNat=u) (C:h.toNat-l.toNat=v)
  (s:T.get t=V y) (B:y.kind=.slice el) (i:T.get el=V a) (D:a.size=m):MV P n e ⟨V d,.slice t x lo hi U,ty,ps,z,g⟩ w (.slice p1 v u):=by
 subst F o C;exact qcI A H r k b.1 b.2.1 b.2.2.1 b.2.2.2 s B i D
def qdc(op:BinOp)(kd:IntKind)(x y:Int):Int:=
 let a:=BitVec.ofInt kd.bits x
 let b:=BitVec.ofInt kd.bits y
 match op with
 |.and=>kd.wrap (a &&& b).toNat
 |.or=>kd.wrap (a ||| b).toNat
 |.xor=>kd.wrap (a ^^^ b).toNat
 |_=>kd.wrap (a &&& ~~~b).toNat
def qdv:BinOp->Bool
 |.and=>An
 |.or=>An
 |.xor=>An
 |.andNot=>An
 |_=>Cd
theorem qdW{op:BinOp}{x y:Operand}{t m d ty:Nat}{ps:String}{h:Array Edge}{g:Option (Nat×Bool)}{kd:IntKind}{a b:Int}(i:qdv op=An)(k:gq e x=V (.int kd a))(l:gq e y=V (.int kd b)) :
  MV P n e ⟨V d,.binOp op t x y m,ty,ps,h,g⟩ w (.int kd (qdc op kd a b)):=by
 intro c f;cases op<;>first|cases i;done|(simp only[execOp,f.eval k,f.eval l,jk,tN,ji,binOp,Op.intBits,jn,qdc,ne_eq,not_true_eq_false,if_false])
def qcz(kd:IntKind)(a b:Int):Option Int:=if 0<=b then V (a.fdiv (2 ^ (min b.toNat kd.bits))) else U
theorem U6{kd:IntKind}{a b r:Int}(h:qcz kd a b=V r):0<=b/\a.fdiv (2 ^ (min b.toNat kd.bits))=r:=by
 unfold qcz at h;split at h
 .rename_i hh;exact⟨hh,Option.some.inj h⟩
 .cases h
theorem qez{x y:Operand}{t o d ty:Nat}{ps:String}{i:Array Edge}{g:Option (Nat×Bool)}{kd f:IntKind}{a b:Int}
  (p:0<=b) (l:gq e x=V (.int kd a)) (m:gq e y=V (.int f b)):MV P n e ⟨V d,.binOp .shr t x y o,ty,ps,i,g⟩ w (.int kd (a.fdiv (2 ^ (min b.toNat kd.bits)))):=by
 intro c h;have k:¬ b<0:=by omega
 simp only[execOp,h.eval l,h.eval m,jk,tN,ji,binOp,Op.shift,k,if_false,jn]
theorem T8{t:TypeId}{x:TE}(h:vf P t=V x)(c:x.kind=.ptr):∃el,P.underlying t=V (.pointer el):=by
 obtain⟨d,b,a⟩:=pv h;rw[c] at a;rw[b];cases d<;>simp at a;exact⟨_,Z⟩
theorem qbi(h:cE P T){x y:Operand}{t u d ty:Nat}{ps:String}{f:Array Edge}{g:Option (Nat×Bool)}{b:TE}{p:Option Addr}
  (l:T.get t=V b) (i:b.kind=.ptr) (o:gq e x=V (.pointer p)) (s:gq e y=V (.pointer U)) {r:Bool} (k:p.isNone=r):MV P n e ⟨V d,.binOp .neq t x y u,ty,ps,f,g⟩ w (.bool (!r)):=by
 intro a c;subst k;obtain⟨el,m⟩:=T8 (h t b l) i;simp only[execOp,c.eval o,c.eval s,jk,XI,ji,binOp,VI m,jn]
theorem SX{t m el:Nat}{x:TE}(h:vf P t=V x)(c:x.kind=.arr m el):P.underlying t=V (.array m el):=by
 obtain⟨d,b,a⟩:=pv h;rw[c] at a;rw[b];cases d<;>simp at a;rw[a.1,a.2]
theorem qc3(l:cE P T){x i:Operand}{t ty d el m r b o:Nat}{ps:String}{u:Array Edge}{g:Option (Nat×Bool)}{s h:TE}{kd:IntKind}{iv:Nat}
  (B:gq e x=V (.pointer (V ⟨b,o,U⟩))) (hi:gq e i=V (.int kd (iv:Int))) (v:iv<m)
  (f:T.get t=V s/\s.kind=.arr m el) (k:T.get el=V h) (y:h.size=r):MV P n e ⟨V d,.indexAddr t x i,ty,ps,u,g⟩ w (.pointer (V ⟨b,o+iv*r,U⟩)):=by
 intro a p;subst y;have A:=SX (l _ _ f.1) f.2;have z:=vy (l _ _ k) w;have c:0<=(iv:Int)/\(iv:Int)<(m:Int):=⟨by omega,by omega⟩;simp only[execOp,p.eval B,p.eval hi,jk,Instr.indexAt,Instr.sureAddr,asIntOf,jn,ji,run_underlying A];rw[if_pos c];simp only[jk,z,ji,jn,ud,jq]
theorem pp(B:cE P T){t d ty m el z:Nat}{ps:String}{C:Array Edge}{g:Option (Nat×Bool)}{b:Array (Nat×Operand)}{A h:TE}{zc:Array Value}(is:List Nat)(os:List Operand){o:List Value}{cs:List Value}
  (f:b.toList=is.zip os) (_:is.length=os.length) (u:pD e os=V o) (s:T.get t=V A) (H:A.kind=.arr m el) (L:A.zero=V (.agg zc)) (p:T.get el=V h) (I:h.size=z)
  (F:GI (λi=>V (i*z,z)) zc.toList (is.zip o)=V cs):MV P n e ⟨V d,.build t b,ty,ps,C,g⟩ w (.agg cs.toArray):=by
 intro a D;subst I;have r:b.map (λ(x:Nat×Operand)=>(x.1,a.eval x.2))=(is.zip o).toArray:=by
  apply Array.ext';rw[Array.toList_map,f];have:=vu D u;subst this;simp only[List.zip_map_right]
  rfl
 have l:=B _ _ s;obtain⟨i,hi,_,_,v⟩:=ru l;have K:=SX l H;have J:=vy (B _ _ p) w;have k:=sP _ _ _ _ F;have y:i.zero=V (.agg zc):=v.trans L;have c:Instr.fill (λi=>V (i*h.size,h.size)) zc (is.zip o)=V cs.toArray:=by simpa using k
 simp only[execOp,r,Instr.build,zeroValue,typeInfo,jk,run_program,ji,hi,jn,y,run_underlying K,Value.cells,J,c]
def QM(xs:List (gW .u8)):ByteArray:=(xs.map (·.val)).foldl (λr n=>r.push (UInt8.ofNat n.toNat)) ByteArray.empty
theorem Q5{α:Type}[qm α]{S:Nat->Prop}{xs:List α}{b o c:Nat}(g:α->Value)(h:dG w S xs (V ⟨b,o,U⟩) c)(l:qm.k α=1)(f:∀(x:α) (cs:List Value) (w:World) (S:Nat->Prop),qm.R w S x cs->cs=[g x]) :
  (loadCells ⟨b,o,U⟩ xs.length).run P w=.ok (xs.map g).toArray w:=by
 obtain⟨n,p,d⟩:=h;have:=run_loadCells_list (P:=P) w ⟨b,o,U⟩ (xs.map g) (λi u hi=>by
  rw[List.getElem?_map] at hi;obtain⟨x,a,rfl⟩:=Option.map_eq_some_iff.1 hi;rcases d with⟨_,rfl⟩|⟨b',o',cur,T,fr,hp,hb,hgc,hc,he⟩
  .simp at a
  .simp only[Option.some.injEq,Addr.mk.injEq,and_true] at hp;obtain⟨rfl,rfl⟩:=hp;obtain⟨cs,m,k⟩:=he i x a;have:=k 0 (g x) (by rw[f x cs w S m];rfl);rw[l,Nat.mul_one,Jp] at this;rw[ud];simp[World.cell?,hgc,this])
 rw[jo] at this;exact this
theorem OH(m:cE P T){x:Operand}{s t ty d el:Nat}{ps:String}{A:Array Edge}{g:Option (Nat×Bool)}{z k l:TE}{p:Option Addr}{y c:Nat}{S:Nat->Prop}{xs:List (gW .u8)}
  (f:dG w S xs p c) (F:y=xs.length) (K:gq e x=V (.slice p y c)) (v:T.get s=V z/\z.kind=.slice el) (u:T.get t=V k/\k.kind=.str) (r:T.get el=V l) (D:l.kind=.int .u8) :
  MV P n e ⟨V d,.convert s t x,ty,ps,A,g⟩ w (.string (QM xs)):=by
 intro a B;subst F;have H:=nq (m _ _ v.1) v.2;have I:=LJ (m _ _ u.1) u.2;have J:=SY (m _ _ r) D;have C:(Conv.bytesToString (.slice p xs.length c)).run P w=.ok (.string (QM xs)) w:=by
  cases p with
  |none=>
   have:xs=[]:=ZA f;subst this;simp[Conv.bytesToString,QM]
  |some ad=>
   have i:=f.2.2;rcases i with⟨hp,rfl⟩|⟨b,o,cur,T',fr,hp,_⟩
   .have:=run_bytesToString (P:=P) w ad 0 c [] (by simp[loadCells,loadCellsFrom]);simpa [QM] using this
   .simp only[Option.some.injEq] at hp;subst hp;have:=run_bytesToString (P:=P) w ⟨b,o,U⟩ xs.length c (xs.map (·.val)) (by
     have:=Q5 (P:=P) (λx:gW .u8=>.int .u8 x.val) f Z (λx cs w S h=>h);rw[this];simp[Function.comp_def])
    exact this
 simp only[execOp,B.eval K,convert,jk,run_underlying H,run_underlying I,ji,run_underlying J,C,jn]
end

section
variable{P:Program}{T:vP}{n:Nat}{Q:Exit->Act->World->Prop}{k:List It}{e:fL}{w0 w w' w1:World}{L:List Ch}
theorem bn(H:cE P T){α:Type}[qm α][eQ α]{all:Array Oper}{l:List Oper}{d t ty el:Nat}{ps:String}{F:Array Edge}{x y:Operand}{S:Nat->Prop}{xs ys z:List α}{p B:Option Addr}{A g c c':Nat}{C a:TE}{D:Value}(i:Nat)
  (h:SH w0 w L) (hi:L[i]?=V (Ch.own S xs [.slice p A c])) (N:dG w (Fw.old w) ys B c') (o:g=ys.length) (J:gq e x=V (.slice p A c)/\gq e y=V (.slice B g c')/\T.get t=V C/\C.kind=.slice el/\T.get el=V a/\a.zero=V D/\(bi D).length=a.size/\a.size=qm.k α/\Nat.ble a.bytes 65536=An) (b:xs.length+ys.length<=QU) (u:xs++ys=z) (M:Nat.blt d n=An)
  (f:∀w' p2 c2 S2,SH w0 w' (L.set i (Ch.own S2 z [.slice p2 z.length c2]))->bx P n Q (.ops all l::k) ((d,.slice p2 z.length c2)::e) w') :
  bx P n Q (.ops all (⟨V d,.call ⟨.builtin .append,#[x,y],#[t,t]⟩,ty,ps,F,U⟩::l)::k) e w:=by
 obtain⟨O,R,s,K,m,W,v,r,I⟩:=J;subst u;rw[jg] at f;exact qcZ H i h hi N o O R s K m W v r I b M f
theorem BD(D:cE P T){α:Type}[qm α]{all:Array Oper}{l:List Oper}{d t ty el:Nat}{ps:String}{C:Array Edge}{x y:Operand}{S S1:Nat->Prop}{xs ys z:List α}{p v:Option Addr}{u g c c':Nat}{A a:TE}{B:Value}
  (h:SH w0 w (Ch.own S1 ys [.slice v g c']::Ch.own S xs [.slice p u c]::L)) (J:gq e x=V (.slice p u c)) (K:gq e y=V (.slice v g c'))
  (o:T.get t=V A) (H:A.kind=.slice el) (i:T.get el=V a) (M:a.zero=V B) (s:(bi B).length=a.size) (m:a.size=qm.k α)
  (F:Nat.ble a.bytes 65536=An) (b:xs.length+ys.length<=QU) (r:xs++ys=z) (I:Nat.blt d n=An)
  (f:∀w' p2 c2 S2,SH w0 w' (Ch.own S2 z [.slice p2 z.length c2]::L)->bx P n Q (.ops all l::k) ((d,.slice p2 z.length c2)::e) w') :
  bx P n Q (.ops all (⟨V d,.call ⟨.builtin .append,#[x,y],#[t,t]⟩,ty,ps,C,U⟩::l)::k) e w:=by
 subst r;rw[jg] at f;exact qdK D h J K o H i M s m F b I f
theorem bC(C:cE P T)(α:Type)[qm α]{all:Array Oper}{l:List Oper}{d t ty el:Nat}{ps:String}{A:Array Edge}{u a:TE}{x y:Operand}{kd s:IntKind}{f:Int}{v:Value}{z:List α}
  (h:SH w0 w L) (F:gq e x=V (.int kd f)/\gq e y=V (.int s f)/\T.get t=V u/\u.kind=.slice el/\T.get el=V a/\a.zero=V v/\bi v=qm.zc α/\a.size=qm.k α/\Nat.ble a.bytes 65536=An) (B:0<=f) (b:f<=QU) (o:List.replicate f.toNat (qm.zero:α)=z) (I:Nat.blt d n=An)
  (c:∀w' S p,SH w0 w' (Ch.own S z [.slice p z.length z.length]::L)->bx P n Q (.ops all l::k) ((d,.slice p z.length z.length)::e) w') :
  bx P n Q (.ops all (⟨V d,.makeSlice t x y,ty,ps,A,U⟩::l)::k) e w:=by
 obtain⟨J,K,m,H,g,M,r,i,D⟩:=F;subst o;rw[jJ] at c;exact qdM C α h J K m H g M r i D B b I c
theorem Up.boxP{A0 B B':Nat->Prop}{w00:World}{α:Type}[qm α]{x:α}{c:List Value}{b:Nat}{t:TypeId}(g:Rg A0 w00 B w0)(i:Nat)(h:SH w0 w L)(d:Up B w0 w B' w1)(hi:L[i]?=V (Ch.box b c t))(k:qm.R w (vJ B w0 w) x c) :
  qm.R w1 B' (V x) [.pointer (V ⟨b,0,U⟩)]:=
 qm.mono (qm.loc (Rg.boxR i h hi k) (λa f=>d.below.block a (g.regOld h a f))) d.sub
variable{A0 B:Nat->Prop}{w00:World}{α:Type}[qm α]{x:α}{cs:List Value}{xs:List α}{p:Option Addr}{c:Nat}{fs:List WI}{S:Nat->Prop}
theorem Rg.atB(c:Rg A0 w00 B w0)(h:SH w0 w L):∀b,B b->Fw.old w b:=λb a=>jx (c.old b a) h.below.size
theorem Rg.inBR(c:Rg A0 w00 B w0)(h:SH w0 w L)(d:qm.R w0 B x cs):qm.R w B x cs:=qm.loc d (λb a=>h.below.block b (c.old b a))
theorem Rg.inBS(d:Rg A0 w00 B w0)(h:SH w0 w L)(f:dG w0 B xs p c):dG w B xs p c:=f.loc (λb a=>h.below.block b (d.old b a))
theorem vI{ρ:Type}[gk ρ][wx ρ](r:ρ){all:Array Oper}{l:List Oper}{d ty:Nat}{ps:String}{v:Array Edge}{x:Operand}{a:Array Operand}{m:Array TypeId}{f:FuncId}{t s:Array Value}{p u:List Value}
  (C:Rg A0 w00 B w0) (h:SH w0 w L) (g:kH P f) (A:yP P f u w B r) (I:gq e x=V (.func (.func f) t s)) (c:pD e a.toList=V p) (o:t.toList++p++s.toList=u) (F:Nat.blt d n=An)
  (D:∀w1 i S,SH w0 w1 (Ch.grp B S []::L)->gk.Rs w1 (λb=>S b\/B b) r i->bx P n Q (.ops all l::k) ((d,ww i)::e) w1) :
  bx P n Q (.ops all (⟨V d,.call ⟨.value x,a,m⟩,ty,ps,v,U⟩::l)::k) e w:=
 qcl r h C.old g A I c o F (λw1 i _ y H=>D w1 i _ y (wx.mono H (λ_ z=>z.symm)))
theorem SH.grpAdd(i:Nat)(h:SH w0 w L)(hi:L[i]?=V (Ch.grp B S fs))(d:qm.R w (λb=>S b\/B b) x cs):SH w0 w (L.set i (Ch.grp B S (vk x cs::fs))):=
 h.say hi (λc f a=>by
  rcases List.mem_cons.1 a with rfl|a
  .exact d
  .exact c f a) (λ_ h=>h) (h.elder (Ch.grp B S fs) (jB hi))
theorem SH.grpKeep(is:List Nat)(i:Nat)(h:SH w0 w L)(hi:L[i]?=V (Ch.grp B S fs)):SH w0 w (L.set i (Ch.grp B S (YQ fs is))):=
 h.say hi (λb f a=>b f (LE a)) (λ_ h=>h) (h.elder (Ch.grp B S fs) (jB hi))
theorem Rg.grpR(i j:Nat)(h:SH w0 w L)(hi:L[i]?=V (Ch.grp B S fs))(a:fs[j]?=V (vk x cs)):qm.R w (vJ B w0 w) x cs:=h.regGrp i j hi a
end

section
variable{P:Program}{T:vP}{n:Nat}{Q:Exit->Act->World->Prop}{k:List It}{e:fL}{w0 w w' w1:World}{L:List Ch}
theorem uc{ops:Array Oper}{st:List Nat}{C:World->Prop}{d:Nat}{b:Array Bool}(J:fL->World->Prop)(c:Nat)(a:Array Bool)
  (f:(∀e w,J e w->lU P n Q k ops st C c a e w)->lU P n Q k ops st C d b e w) (g:∀e w,J e w->lU P n Q k ops st C c a e w):lU P n Q k ops st C d b e w:=f g
theorem BK{ops:Array Oper}{st:List Nat}{C:World->Prop}{c:Nat}{b:Array Bool}(d:fL)(g:HK e d)(h:lU P n Q k ops st C c b d w):lU P n Q k ops st C c b e w:=
 λa f=>h a (f.sub g)
end
end Go.Fw


namespace Go.Fw
open Go
section
variable{α β:Type}{f g:Nat->Option α}{a b r s:α}{c:Bool}
theorem Ev.iff(d:c=An->Ev f a)(h:c=Cd->Ev g b):Ev (λn=>bif c then f n else g n) (bif c then a else b):=by
 cases c
 .exact h Z
 .exact d Z
theorem Ev.bindB{f:Nat->Option β}{g:Nat->β->Option α}{u v:β}(h:Ev f (bif c then u else v))(d:c=An->Ev (λn=>g n u) a)(i:c=Cd->Ev (λn=>g n v) b):Ev (λn=>(f n).bind (g n)) (bif c then a else b):=by
 cases c
 .exact Ev.bind h (i Z)
 .exact Ev.bind h (d Z)
theorem Ev.cast(h:Ev f r)(e:r=s):Ev f s:=e ▸ h
theorem Ev.two(d:c=An->Ev f a)(g:c=Cd->Ev f b):Ev f (bif c then a else b):=by
 cases c
 .exact g Z
 .exact d Z
end
def bG(f:Nat->Bool)(n:Nat):Bool:=(List.range n).all f
theorem aA{f:Nat->Bool}{n:Nat}:bG f n=An↔∀j,j<n->f j=An:=by simp[bG,jR]
theorem AI{f:Nat->Bool}{n:Nat}:bG f n=Cd↔∃j,j<n/\f j=Cd:=by
 rw[<-Bool.not_eq_true,aA];constructor
 .intro h;exact Classical.byContradiction λc=>h (λj b=>by
   cases a:f j with
   |true=>rfl
   |false=>exact absurd ⟨j,b,a⟩ c)
 .rintro⟨j,b,a⟩ h;rw[h j b] at a;cases a
theorem tE{f g:Nat->Bool}{n:Nat}(h:∀j,j<n->f j=g j):bG f n=bG g n:=by
 rw[jp,aA,aA];exact⟨λb j a=>h j a ▸ b j a,λc j a=>(h j a).symm ▸ c j a⟩
theorem zi{f g:Nat->Bool}{n:Nat}:bG (λj=>f j&&g j) n=(bG f n&&bG g n):=by
 rw[jp,je,aA,aA,aA];simp only[je];exact⟨λh=>⟨λj a=>(h j a).1,λj a=>(h j a).2⟩,λh j a=>⟨h.1 j a,h.2 j a⟩⟩
theorem H8{ρ σ:Type}{Lf:Nat->Int->Option (eE ρ σ)}{len i0:Nat}{f:Nat->Bool}{bad:ρ}{fin:eE ρ σ}(g:i0<=len)(b:Ev (λn=>Lf n (len:Int)) fin)
  (a:∀j,i0<=j->j<len->∀X,Ev (λn=>Lf n ((j+1:Nat):Int)) X->Ev (λn=>Lf n (j:Int)) (bif f j then X else .ret bad)) :
  Ev (λn=>Lf n (i0:Int)) (bif bG (λj=>f (i0+j)) (len-i0) then fin else .ret bad):=by
 obtain⟨m,rfl⟩:∃m,len=i0+m:=⟨len-i0,by omega⟩;rw[show i0+m-i0=m by omega];clear g
 induction m generalizing i0 with
 |zero=>exact b
 |succ m ih=>
  have c:=@ih (i0+1) (by rw[show i0+1+m=i0+(m+1) by omega];exact b) (λj d l X i=>a j (by omega) (by omega) X i);refine(a i0 (jf _) (by omega) _ c).cast ?_;have:bG (λj=>f (i0+j)) (m+1)=(f i0&&bG (λj=>f (i0+1+j)) m):=by
   rw[jp,je,aA,aA];constructor
   .intro h;exact⟨by simpa using h 0 (by omega),λj k=>by have:=h (j+1) (by omega);rwa [show i0+(j+1)=i0+1+j by omega] at this⟩
   .rintro⟨c,d⟩ j k;cases j with
    |zero=>simpa using c
    |succ j=>have:=d j (by omega);rwa [show i0+1+j=i0+(j+1) by omega] at this
  rw[this];cases f i0<;>rfl
theorem ll{ρ σ:Type}{Lf:Nat->Int->Option (eE ρ σ)}{len:Nat}{f:Nat->Bool}{bad:ρ}{fin:eE ρ σ}(b:Ev (λn=>Lf n (len:Int)) fin)
  (a:∀j,j<len->∀X,Ev (λn=>Lf n ((j+1:Nat):Int)) X->Ev (λn=>Lf n (j:Int)) (bif f j then X else .ret bad)) :
  Ev (λn=>Lf n 0) (bif bG f len then fin else .ret bad):=by
 have:=H8 (i0:=0) (jW _) b (λj _ d X c=>a j d X c);simpa using this
theorem ra{α:Type}{xs:List α}{j:Nat}{x:α}(h:xs[j]?=V x):qG xs (j:Int)=V x:=by
 unfold qG;rw[if_pos (by omega),jq,h]
theorem bZ{α:Type}{xs:List α}{j:Nat}(h:j<xs.length):qG xs (j:Int)=V xs[j]:=ra (jj h)
def gu(x lo hi:Int):Bool:=decide (lo<=x)&&decide (x<=hi)
theorem cu{x lo hi:Int}:gu x lo hi=An↔lo<=x/\x<=hi:=by simp[gu]
theorem P8{x lo hi:Int}:gu x lo hi=Cd↔¬ (lo<=x/\x<=hi):=by rw[<-cu,Bool.not_eq_true]
def bm(xs:List Int)(j:Nat):Int:=xs.getD j 0
theorem wy{xs:List Int}{j:Nat}(h:j<xs.length):bm xs j=xs[j]:=by simp[bm,h]
theorem aM{xs:List Int}{j:Nat}(h:j<xs.length):qG xs (j:Int)=V (bm xs j):=by rw[bZ h,wy h]
theorem iu{α:Type}{c:Bool}{x y:α}:(bif !c then x else y)=bif c then y else x:=by cases c<;>rfl
theorem HR{c d:Bool}:(bif c then d else Cd)=(c&&d):=by cases c<;>rfl

theorem qcH{α:Type}{a:List α}{t:α->Nat}{Lf:Nat->Int->Int->Option (eE Int (Int×Int))}{el:Nat->α->Int->Option Int}
  (p:∀x,x∈a->∀b:Int,0<=b->b<=1048576->Sz (λn=>el n x b) (λr=>r=b-(t x:Int)))
  (h:∀(c:Int) n,Lf (n+1) c (a.length:Int)=V (.nxt (c,(a.length:Int))))
  (d:∀(c:Int) (n j:Nat) (x:α),a[j]?=V x->Lf (n+1) c (j:Int)=(el n x c).bind λr=>bif decide (r<0) then V (.ret (-1)) else Lf n r ((j+1:Nat):Int)) :
  ∀b:Int,0<=b->b<=1048576->∃o,Ev (λn=>Lf n b 0) o/\(o=.ret (-1)\/∃r:Int,0<=r/\r=b-((a.map t).sum:Nat)/\o=.nxt (r,(a.length:Int))):=by
 have l:∀k j,j+k=a.length->∀b:Int,0<=b->b<=1048576->∃o,Ev (λn=>Lf n b (j:Int)) o/\(o=.ret (-1)\/∃r:Int,0<=r/\r=b-(((a.drop j).map t).sum:Nat)/\o=.nxt (r,(a.length:Int))):=by
  intro k
  induction k with
  |zero=>
   intro j D b g m;obtain rfl:j=a.length:=by omega
   exact⟨_,Ev.step (h b) .done,.inr ⟨b,g,by simp,Z⟩⟩
  |succ k ih=>
   intro j D b g m;have f:j<a.length:=by omega
   have v:a[j]?=V a[j]:=jj f;obtain⟨r,u,i⟩:=p a[j] (jm f) b g m;have C:a.drop j=a[j]::a.drop (j+1):=jF f;by_cases s:r<0
   .exact⟨.ret (-1),Ev.step (λn=>d b n j a[j] v) (Ev.bind u (Ev.tt (by simpa using s) .done)),.inl Z⟩
   .rcases i with i|⟨hq0,i⟩
    .exact absurd i s
    .obtain⟨o,F,B⟩:=ih (j+1) (by omega) r hq0 (by omega);refine⟨o,Ev.step (λn=>d b n j a[j] v) (Ev.bind u (Ev.ff (by simpa using s) F)),B.imp id ?_⟩;rintro⟨H,y,z,A⟩;refine⟨H,y,?_,A⟩;rw[C,Jj,List.sum_cons,z,i];omega
 intro b g m;have:=l a.length 0 (by omega) b g m;simpa using this
theorem Sz.list{α:Type}{a:List α}{m:α->Nat}{Lf:Nat->Int->Int->Option (eE Int (Int×Int))}{el:Nat->α->Int->Option Int}{b:Int}(s:0<=b)(t:b<=1048576)(u:a.length<=9223372036854775807)
  (i:∀x,x∈a->∀b:Int,0<=b->b<=1048576->Sz (λn=>el n x b) (λr=>r=b-(m x:Int)))
  (f:∀(c:Int) n,Lf (n+1) c (a.length:Int)=V (.nxt (c,(a.length:Int))))
  (d:∀(c:Int) (n j:Nat) (x:α),a[j]?=V x->Lf (n+1) c (j:Int)=(el n x c).bind λr=>bif decide (r<0) then V (.ret (-1)) else Lf n r ((j+1:Nat):Int))
  {F:Nat->Option Int} (h:∀n,F n=bif decide (qj (b-(a.length:Int))<0) then V (-1) else(Lf n (qj (b-(a.length:Int))) 0).bind λ|.ret r=>V r|.nxt (i1,_)=>V i1) :
  Sz F (λr=>r=b-((a.length+(a.map m).sum:Nat):Int)):=by
 have g:qj (b-(a.length:Int))=b-(a.length:Int):=qX (by omega) (by omega);by_cases k:b-(a.length:Int)<0
 .exact⟨-1,Ev.congr h (Ev.tt (by rw[g];simpa using k) .done),.inl (by decide)⟩
 .obtain⟨o,l,p⟩:=qcH i f d (b-(a.length:Int)) (by omega) (by omega);rcases p with rfl|⟨r,hr0,hr,rfl⟩
  .refine⟨-1,Ev.congr h (Ev.ff (by rw[g];simpa using k) ?_),.inl (by decide)⟩;rw[g];exact Ev.bind l .done
  .refine⟨r,Ev.congr h (Ev.ff (by rw[g];simpa using k) ?_),.inr ⟨hr0,by omega⟩⟩;rw[g];exact Ev.bind l .done
theorem Sz.str{s:ByteArray}{a:Int}(h:s.size<=9223372036854775807)(c:0<=a)(d:a<=1048576):Sz (λ_=>V (qj (a-(s.size:Int)))) (λr=>r=a-(s.size:Int)):=by
 rw[qX (by omega) (by omega)];refine⟨_,.done,?_⟩;by_cases b:a-(s.size:Int)<0
 .exact .inl b
 .exact .inr ⟨by omega,Z⟩
def nE(x:Int):Prop:=-9223372036854775808<=x/\x<=9223372036854775807
def OA(s:ByteArray):Prop:=s.size<=1048576
def wh{α:Type}(ok:α->Prop)(xs:List α):Prop:=xs.length<=1048576/\∀x,x∈xs->ok x
def qe0(_:Bool):Prop:=True
theorem wh.len{α:Type}{ok:α->Prop}{xs:List α}(h:wh ok xs):xs.length<=1048576:=h.1
theorem wh.get{α:Type}{ok:α->Prop}{xs:List α}(h:wh ok xs){j:Nat}{x:α}(a:xs[j]?=V x):ok x:=h.2 x (jB a)
theorem wh.at{α:Type}{ok:α->Prop}{xs:List α}(h:wh ok xs){j:Nat}(a:j<xs.length):ok xs[j]:=h.2 _ (jm a)
end Go.Fw


namespace Go.Fw
open Go
open Go.RowKit (Below)
section
variable{P:Program}{T:vP}{n:Nat}{Q:Exit->Act->World->Prop}{k:List It}{e:fL}{w0 w w':World}{L:List Ch}{J:World->Prop}
end
end Go.Fw


namespace Go.Fw
open Go
theorem CQ{α:Type}{c:Bool}{x y:α}:(bif c then V x else V y)=V (bif c then x else y):=by cases c<;>rfl
def NF{α:Type}(p:α->Bool)(xs:List α):Int:=match xs.findIdx? p with|some j=>(j:Int)|none=>-1
theorem DK{α:Type}{p:α->Bool}{xs:List α}:decide (NF p xs>=0)=xs.any p:=by
 unfold NF;cases h:xs.findIdx? p with
 |some j=>
  have:=List.findIdx?_eq_some_iff_getElem.1 h;obtain⟨b,c,_⟩:=this;have a:xs.any p=An:=List.any_eq_true.2 ⟨_,jm b,c⟩;rw[a];simp
 |none=>
  have:=List.findIdx?_eq_none_iff.1 h;have a:xs.any p=Cd:=by rw[List.any_eq_false];intro x d;simp[this x d]
  rw[a];rfl
theorem P4{α σ:Type}{xs:List α}{p:α->Bool}{Lf:Nat->Int->Option (eE Int σ)}{pf:Nat->α->Option Bool}{fin:σ}(h:∀x,x∈xs->Ev (λn=>pf n x) (p x))
  (c:∀n,Lf (n+1) (xs.length:Int)=V (.nxt fin))
  (b:∀(n j:Nat) (x:α),xs[j]?=V x->Lf (n+1) (j:Int)=(pf n x).bind λr=>bif r then V (.ret (j:Int)) else Lf n ((j+1:Nat):Int)) :
  Ev (λn=>Lf n 0) (match xs.findIdx? p with|some j=>.ret (j:Int)|none=>.nxt fin):=by
 have d:∀k j,j+k=xs.length->Ev (λn=>Lf n (j:Int)) (match (xs.drop j).findIdx? p with|some i=>.ret ((j+i:Nat):Int)|none=>.nxt fin):=by
  intro k
  induction k with
  |zero=>
   intro j g;obtain rfl:j=xs.length:=by omega
   rw[List.drop_eq_nil_of_le (jf _)];exact Ev.step c .done
  |succ k ih=>
   intro j g;have a:j<xs.length:=by omega
   have f:xs.drop j=xs[j]::xs.drop (j+1):=jF a;refine Ev.step (λn=>b n j _ (jj a)) (Ev.bind (h _ (jm a)) ?_);rw[f,List.findIdx?_cons];cases hc:p xs[j] with
   |true=>exact Ev.tt Z .done
   |false=>
    refine Ev.ff Z ((ih (j+1) (by omega)).cast ?_);cases (xs.drop (j+1)).findIdx? p with
    |none=>rfl
    |some i=>simp only[Bool.false_eq_true,if_false,Option.map_some];congr 2;omega
 have:=d xs.length 0 (by omega);simp only[List.drop_zero,Jg] at this;exact this
theorem og{α σ:Type}{xs:List α}{p:α->Bool}{Lf:Nat->Int->Option (eE Int σ)}{pf:Nat->α->Option Bool}{fin:σ}(d:∀x,x∈xs->Ev (λn=>pf n x) (p x))
  (b:∀n,Lf (n+1) (xs.length:Int)=V (.nxt fin))
  (a:∀(n j:Nat) (x:α),xs[j]?=V x->Lf (n+1) (j:Int)=(pf n x).bind λr=>bif r then V (.ret (j:Int)) else Lf n ((j+1:Nat):Int))
  {F:Nat->Option Int} (c:∀n,F n=(Lf n 0).bind λ|.ret r=>V r|.nxt _=>V (-1)):Ev F (NF p xs):=by
 refine Ev.congr c (Ev.bind (P4 d b a) ?_);unfold NF;cases xs.findIdx? p<;>exact .done
theorem WO{α:Type}{p:α->Bool}{xs:List α}{d:α}:xs.any p = !bG (λj=>!p (xs.getD j d)) xs.length:=by
 rw[jp,List.any_eq_true,jC,AI];constructor
 .rintro⟨x,c,b⟩;obtain⟨j,a,rfl⟩:=Ji c;exact⟨j,a,by simp[a,b]⟩
 .rintro⟨j,a,b⟩;exact⟨xs[j],jm a,by simpa [a] using b⟩
theorem pX{α:Type}{p:α->Bool}{xs:List α}{d:α}:xs.all p=bG (λj=>p (xs.getD j d)) xs.length:=by
 rw[jp,jR,aA];constructor
 .intro h j a;simpa [a] using h xs[j] (jm a)
 .intro h x b;obtain⟨j,a,rfl⟩:=Ji b;simpa [a] using h j a
theorem II{α:Type}{p:α->Bool}{xs:List α}:(!xs.any λx=>!p x)=xs.all p:=by
 rw[jp];simp[jR]
theorem xB{α ρ σ:Type}{xs:List α}{p:α->Bool}{Lf:Nat->Int->Option (eE ρ σ)}{bad:ρ}{fin:σ}
  (b:∀n,Lf (n+1) (xs.length:Int)=V (.nxt fin))
  (a:∀j,∀h:j<xs.length,∀X,Ev (λn=>Lf n ((j+1:Nat):Int)) X->Ev (λn=>Lf (n+1) (j:Int)) (bif p xs[j] then X else .ret bad)) :
  Ev (λn=>Lf n 0) (bif xs.all p then .nxt fin else .ret bad):=by
 have d:∀k j,j+k=xs.length->Ev (λn=>Lf n (j:Int)) (bif (xs.drop j).all p then .nxt fin else .ret bad):=by
  intro k
  induction k with
  |zero=>
   intro j g;obtain rfl:j=xs.length:=by omega
   rw[List.drop_eq_nil_of_le (jf _)];exact Ev.step b .done
  |succ k ih=>
   intro j g;have c:j<xs.length:=by omega
   have f:xs.drop j=xs[j]::xs.drop (j+1):=jF c;refine(Ev.succ (a j c _ (ih (j+1) (by omega)))).cast ?_;rw[f,List.all_cons];cases p xs[j]<;>rfl
 have:=d xs.length 0 (by omega);simpa using this
theorem KU{α ρ τ:Type}{xs:List α}{Lf:Nat->τ->Int->Option ρ}{step:τ->α->τ}{fin:τ->ρ}(i0:Nat)(g:τ)(Inv:Nat->τ->Prop)(p:i0<=xs.length)(i:Inv i0 g)
  (d:∀j t,∀h:j<xs.length,Inv j t->Inv (j+1) (step t xs[j]))
  (c:∀n t,Lf (n+1) t (xs.length:Int)=V (fin t))
  (b:∀j t,∀h:j<xs.length,Inv j t->∀X,Ev (λn=>Lf n (step t xs[j]) ((j+1:Nat):Int)) X->Ev (λn=>Lf (n+1) t (j:Int)) X) :
  Ev (λn=>Lf n g (i0:Int)) (fin ((xs.drop i0).foldl step g))/\Inv xs.length ((xs.drop i0).foldl step g):=by
 have f:∀k j t,j+k=xs.length->Inv j t->Ev (λn=>Lf n t (j:Int)) (fin ((xs.drop j).foldl step t))/\Inv xs.length ((xs.drop j).foldl step t):=by
  intro k
  induction k with
  |zero=>
   intro j t r hi;obtain rfl:j=xs.length:=by omega
   rw[List.drop_eq_nil_of_le (jf _)];exact⟨Ev.step (λn=>c n t) .done,hi⟩
  |succ k ih=>
   intro j t r hi;have a:j<xs.length:=by omega
   have o:xs.drop j=xs[j]::xs.drop (j+1):=jF a;obtain⟨l,m⟩:=ih (j+1) (step t xs[j]) (by omega) (d j t a hi);rw[o,List.foldl_cons];exact⟨Ev.succ (b j t a hi _ l),m⟩
 exact f (xs.length-i0) i0 g (by omega) i
theorem RZ{α ρ τ:Type}{xs:List α}{Lf:Nat->τ->Int->Option ρ}{step:τ->α->τ}{fin:τ->ρ}(d:τ)(Inv:Nat->τ->Prop)(f:Inv 0 d)
  (c:∀j t,∀h:j<xs.length,Inv j t->Inv (j+1) (step t xs[j]))
  (b:∀n t,Lf (n+1) t (xs.length:Int)=V (fin t))
  (a:∀j t,∀h:j<xs.length,Inv j t->∀X,Ev (λn=>Lf n (step t xs[j]) ((j+1:Nat):Int)) X->Ev (λn=>Lf (n+1) t (j:Int)) X) :
  Ev (λn=>Lf n d 0) (fin (xs.foldl step d))/\Inv xs.length (xs.foldl step d):=by
 have:=KU (i0:=0) d Inv (jW _) f c b a;simpa using this
theorem eG{α:Type}{xs ys:List α}(h:xs.length+ys.length<=2147483648):df xs ys=V (xs++ys):=by
 unfold df QU;rw[if_pos h]

section
variable{α β:Type}{f g:Nat->Option Bool}{a b:Bool}{k:Nat->Option α}{X B:α}
theorem Ev.and(c:Ev f a)(d:a=An->Ev g b):Ev (λn=>(f n).bind λr=>bif r then g n else V Cd) (a&&b):=by
 refine Ev.bind c ?_;cases a
 .exact .done
 .exact Ev.tt Z (d Z)
theorem Ev.andP(c:a=An->Ev g b):Ev (λn=>bif a then g n else V Cd) (a&&b):=by
 cases a
 .exact .done
 .exact Ev.tt Z (c Z)
theorem Ev.last(b:Ev f a):Ev (λn=>(f n).bind λr=>V r) a:=Ev.bind b .done
theorem Ev.neg(b:Ev f a):Ev (λn=>(f n).bind λr=>V (!r)) (!a):=Ev.bind b .done
theorem Ev.or(c:Ev f a)(d:a=An->Ev g (!b)):Ev (λn=>(f n).bind λr=>bif (!r) then V An else g n) (!(a&&b)):=by
 refine Ev.bind c ?_;cases a
 .exact .done
 .exact Ev.ff Z (d Z)
theorem Ev.guard{c:α}(d:Ev f (!a))(g:a=An->Ev k (bif b then X else c)):Ev (λn=>(f n).bind λr=>bif r then V c else k n) (bif a&&b then X else c):=by
 refine Ev.bind d ?_;cases a
 .exact .done
 .exact Ev.ff Z (g Z)
theorem Ev.guardB(c:Ev f (!a))(d:a=An->Ev g b):Ev (λn=>(f n).bind λr=>bif r then V Cd else g n) (a&&b):=by
 refine Ev.bind c ?_;cases a
 .exact .done
 .exact Ev.ff Z (d Z)
theorem Ev.chk(c:Ev f a)(d:a=An->Ev k (bif b then X else B)):Ev (λn=>(f n).bind λr=>bif (!r) then V B else k n) (bif a&&b then X else B):=by
 refine Ev.bind c ?_;cases a
 .exact .done
 .exact Ev.ff Z (d Z)
theorem Ev.chkT(c:Ev f (!a))(d:a=An->Ev k (bif b then X else B)):Ev (λn=>(f n).bind λr=>bif r then V B else k n) (bif a&&b then X else B):=Ev.guard c d
theorem Ev.chkT1(b:Ev f (!a))(c:a=An->Ev k X):Ev (λn=>(f n).bind λr=>bif r then V B else k n) (bif a then X else B):=by
 refine Ev.bind b ?_;cases a
 .exact .done
 .exact Ev.ff Z (c Z)
theorem Ev.chk1(b:Ev f a)(c:a=An->Ev k X):Ev (λn=>(f n).bind λr=>bif (!r) then V B else k n) (bif a then X else B):=by
 refine Ev.bind b ?_;cases a
 .exact .done
 .exact Ev.ff Z (c Z)
theorem Ev.chkP1(b:a=Cd->Ev k X):Ev (λn=>bif a then V B else k n) (bif !a then X else B):=by
 cases a
 .exact Ev.ff Z (b Z)
 .exact .done
theorem Ev.ok(c:Ev f a)(d:a=An->Ev k (bif b then X else B)):Ev (λn=>(f n).bind λr=>bif r then k n else V B) (bif a&&b then X else B):=by
 refine Ev.bind c ?_;cases a
 .exact .done
 .exact Ev.tt Z (d Z)
theorem Ev.okP(c:a=An->Ev k (bif b then X else B)):Ev (λn=>bif a then k n else V B) (bif a&&b then X else B):=by
 cases a
 .exact .done
 .exact Ev.tt Z (c Z)
theorem Ev.okP1(b:a=An->Ev k X):Ev (λn=>bif a then k n else V B) (bif a then X else B):=by
 cases a
 .exact .done
 .exact Ev.tt Z (b Z)
theorem Ev.orB(c:Ev f a)(d:a=An->Ev g (!b)):Ev (λn=>(f n).bind λr=>bif r then g n else V An) (!(a&&b)):=by
 refine Ev.bind c ?_;cases a
 .exact .done
 .exact Ev.tt Z (d Z)
theorem Ev.orBP(c:a=An->Ev g (!b)):Ev (λn=>bif a then g n else V An) (!(a&&b)):=by
 cases a
 .exact .done
 .exact Ev.tt Z (c Z)
end
def gt{α:Type}[Inhabited α](xs:List α)(j:Nat):α:=xs.getD j default
theorem fd{α:Type}[Inhabited α]{xs:List α}{j:Nat}(h:j<xs.length):gt xs j=xs[j]:=by simp[gt,h]
theorem qz{α:Type}[Inhabited α]{xs:List α}{j:Nat}(h:j<xs.length):qG xs (j:Int)=V (gt xs j):=by rw[bZ h,fd h]
theorem CY{α:Type}[Inhabited α]{ok:α->Prop}{xs:List α}(h:wh ok xs){j:Nat}(a:j<xs.length):ok (gt xs j):=by rw[fd a];exact h.at a
theorem K3{α:Type}[Inhabited α]{xs:List α}{j i:Nat}(h:i<j):gt (xs.take j) i=gt xs i:=by simp[gt,jz,h]
theorem ue{α:Type}[Inhabited α]{p:α->Bool}{xs:List α}:xs.all p=bG (λj=>p (gt xs j)) xs.length:=pX
theorem A7{α:Type}[Inhabited α]{p:α->Bool}{xs:List α}:xs.any p = !bG (λj=>!p (gt xs j)) xs.length:=WO
theorem W9{α:Type}[Inhabited α]{p:α->Bool}{xs:List α}{j:Nat}(h:j<=xs.length):(xs.take j).any p = !bG (λi=>!p (gt xs i)) j:=by
 rw[A7,jy,Nat.min_eq_left h]
 congr 1
 exact tE (λi hi=>by rw[K3 hi])
theorem ph{α β:Type}[Inhabited α]{xs:List α}{g:α->β}{j:Nat}(h:j<xs.length):(xs.take j).map g++[g (gt xs j)]=(xs.take (j+1)).map g:=by
 rw[fd h,jw h,jY,Jj,List.map_nil]
theorem qbZ{j m:Nat}(_:j<m):((j:Int)==qj ((m:Int)-1))=decide (j+1=m)\/9223372036854775807<m:=by
 by_cases a:m<=9223372036854775807
 .refine .inl ?_;rw[qX (by omega) (by omega),jp];simp;omega
 .exact .inr (by omega)
theorem SQ{ρ σ τ:Type}{Lf:Nat->τ->Int->Option (eE ρ σ)}(S:Nat->τ)(p:Nat->Bool){len:Nat}{bad:ρ}{fin:σ}
  (b:∀n,Lf (n+1) (S len) (len:Int)=V (.nxt fin))
  (a:∀j,j<len->(∀i,i<j->p i=An)->∀X,(p j=An->Ev (λn=>Lf n (S (j+1)) ((j+1:Nat):Int)) X)->Ev (λn=>Lf (n+1) (S j) (j:Int)) (bif p j then X else .ret bad)) :
  Ev (λn=>Lf n (S 0) 0) (bif bG p len then .nxt fin else .ret bad):=by
 have c:∀k j,j+k=len->(∀i,i<j->p i=An)->Ev (λn=>Lf n (S j) (j:Int)) (bif bG p len then .nxt fin else .ret bad):=by
  intro k
  induction k with
  |zero=>
   intro j g d;obtain rfl:j=len:=by omega
   rw[show bG p j=An from aA.2 d];exact Ev.step b .done
  |succ k ih=>
   intro j g d;refine(Ev.succ (a j (by omega) d _ (λf=>ih (j+1) (by omega) (λi hi=>by
    rcases Nat.lt_succ_iff_lt_or_eq.1 hi with h|rfl
    .exact d i h
    .exact f)))).cast ?_
   cases f:p j with
   |true=>rfl
   |false=>
    rw[show bG p len=Cd from AI.2 ⟨j,by omega,f⟩]
    rfl
 have:=c len 0 (by omega) (λi hi=>absurd hi (Jm _));exact this
theorem fq{ρ τ:Type}{Lf:Nat->τ->Int->Option ρ}(S:Nat->τ){len:Nat}{fin:ρ}
  (b:∀n,Lf (n+1) (S len) (len:Int)=V fin)
  (a:∀j,j<len->∀X,Ev (λn=>Lf n (S (j+1)) ((j+1:Nat):Int)) X->Ev (λn=>Lf (n+1) (S j) (j:Int)) X) :
  Ev (λn=>Lf n (S 0) 0) fin:=
 qdj (P:=λj=>Ev (λn=>Lf n (S j) (j:Int)) fin) len (Ev.step b .done) (λj c d=>Ev.succ (a j c _ d))
def gr(q:Nat->Bool):Nat->Nat
 |0=>0
 |n+1=>gr q n+(bif q n then 1 else 0)
theorem oE{q:Nat->Bool}{n:Nat}:gr q n<=n:=by
 induction n with
 |zero=>exact jf _
 |succ n ih=>unfold gr;cases q n<;>simp only[Ci,Cj]<;>omega
theorem OQ{q r:Nat->Bool}{n:Nat}(h:∀j,j<n->q j=r j):gr q n=gr r n:=by
 induction n with
 |zero=>rfl
 |succ n ih=>unfold gr;rw[ih (λj a=>h j (by omega)),h n (by omega)]
theorem EW{q:Nat->Bool}{n:Nat}:gr q n=0↔∀j,j<n->q j=Cd:=by
 induction n with
 |zero=>simp[gr]
 |succ n ih=>
  unfold gr;constructor
  .intro h j a;have b:gr q n=0:=by omega
   rcases Nat.lt_succ_iff_lt_or_eq.1 a with h2|rfl
   .exact ih.1 b j h2
   .cases hq:q j with
    |false=>rfl
    |true=>rw[hq] at h;simp at h
  .intro h;rw[ih.2 (λj a=>h j (by omega)),h n (by omega)]
   rfl
theorem XC{q:Nat->Bool}{n:Nat}:decide (0<gr q n) = !bG (λj=>!q j) n:=by
 rw[jp,decide_eq_true_iff,jC,AI,Nat.pos_iff_ne_zero,Ne,EW];simp
def io(c:Nat->Nat)(m:Nat):List Int:=(List.range m).map λk=>(c k:Int)
theorem EQ{c:Nat->Nat}{m:Nat}:(io c m).length=m:=by simp[io]
theorem ZR{c:Nat->Nat}{m k:Nat}(h:k<m):bm (io c m) k=(c k:Int):=by simp[bm,io,h]
theorem xY{c:Nat->Nat}{m k:Nat}(h:k<m):qG (io c m) (k:Int)=V (c k:Int):=by rw[aM (by rw[EQ];exact h),ZR h]
theorem xX{c d:Nat->Nat}{m:Nat}(h:∀k,k<m->c k=d k):io c m=io d m:=by
 unfold io;refine List.map_congr_left (λk a=>?_);rw[h k (List.mem_range.1 a)]
theorem FI{m:Nat}(h:m<=2147483648):yW (m:Int) (0:Int)=V (io (λ_=>0) m):=by
 unfold yW QU;rw[if_pos ⟨by omega,by omega⟩]
 congr 1
 refine Jo (by simp[io]) (λk a b=>?_);simp[io]
theorem TO{c:Nat->Nat}{m k:Nat}(b:c k<9223372036854775807):am (io c m) (k:Int) (qj ((c k:Int)+1))=io (λi=>c i+(bif decide (k=i) then 1 else 0)) m:=by
 rw[ti b];unfold am;refine Jo (by simp[io]) (λi d f=>?_);rw[List.getElem_set];show(if k=i then _ else _)=_;by_cases a:k=i
 .subst a;simp[io]
 .simp[io,a]
theorem fB{x:Int}(h:0<=x):x=(x.toNat:Int):=by omega
theorem MC{α:Type}{xs:List α}{j:Nat}(h:j<=xs.length):xV xs 0 (j:Int)=V (xs.take j):=by
 unfold xV;rw[if_pos ⟨by omega,by omega,by omega⟩];simp
theorem nD{m:Nat}(h:m<=9223372036854775807):qj ((m:Int)-1)=(m:Int)-1:=qX (by omega) (by omega)
end Go.Fw


namespace Go.Fw
open Go
open Go.ChangeShapes Go.WideShapes Go.ChangeAt Go.RowKit
theorem UY{P:Program}{w:World}{r:Reach}{b:Nat}{t e:TypeId}{cs:Array Value}(a:P.underlying t=V (.slice e)):¬ Value.okWide P w r b t (.agg cs):=by
 intro h;unfold Value.okWide at h;rw[a] at h;simp[Cell.okWide,Cell.ok,a] at h
theorem R2{P:Program}{H:Type}{enc:TypeId×Value->H}{W:World}{t:TypeId}{v:Value}{d:DataW H}{p:List MemPlace}{α:Type}[A:qm α]{ρ:α->Prop}(k:GF P t A ρ)(a:A.agg=Cd)(i:∀cs,v≠.agg cs)
  (h:DataW.Trod enc P W 0 (λ_=>An) An t v d p):∃x:α,∃cs,v=qm.v α cs/\A.R W (old W) x cs/\ρ x:=by
 obtain⟨b,g⟩:=h;obtain⟨x,c,l⟩:=k.2 g;have f:v.cells=#[v]:=by
  unfold Value.cells;cases v<;>first|rfl|exact absurd Z (i _)
 refine⟨x,_,?_,c,l⟩;unfold qm.v qeR;rw[a,f]
 rfl
theorem YK{P:Program}{H:Type}{enc:TypeId×Value->H}{W:World}{t e:TypeId}{v:Value}{d:DataW H}{p:List MemPlace}{α:Type}[A:qm α]{ρ:α->Prop}(g:GF P t A ρ)(a:A.agg=Cd)(i:P.underlying t=V (.slice e)){r:Reach}{b:Nat}(c:Value.okWide P W r b t v)
  (h:DataW.Trod enc P W 0 (λ_=>An) An t v d p):∃x:α,∃cs,v=qm.v α cs/\A.R W (old W) x cs/\ρ x:=
 R2 g a (λ_ f=>UY i (f ▸ c)) h
section
variable{P:Program}{H:Type}{enc:TypeId×Value->H}
theorem RT(o:laidOutB P=An){W W':World}(m:Below W.heap.size W W'):∀{f:List TypeId} {l:List Value} {g:List (DataW H)} {ps:List MemPlace},(∀t∈f,P.readableRec t=An/\t<P.types.size) ->
  DataW.TrodAll enc P W 0 (λ_=>An) An f l g ps->(∀x∈ps,x.block<W.heap.size) ->
  DataW.TrodAll enc P W' 0 (λb=>decide (b<W.heap.size)) An f l g ps/\DataW.TrodAll enc P W' 0 (λ_=>An) An f l g ps:=by
 intro f
 induction f with
 |nil=>
  intro l g ps _ h _;obtain⟨rfl,rfl,rfl⟩:=trodAll_nil h;exact⟨Z,Z⟩
 |cons t f ih=>
  intro l g ps r h i;obtain⟨v,C,d,y,p,q,rfl,rfl,rfl,n,c⟩:=trodAll_cons h;obtain⟨z,A⟩:=ih (λu B=>r u (jr _ B)) c (λx k=>i x (List.mem_append.2 (.inr k)));obtain⟨r1,s⟩:=r t (ju ..);have a:∀x∈p,x.block<W.heap.size:=λx k=>i x (List.mem_append.2 (.inl k));exact⟨⟨p,q,Below.trod o r1 s n m a,z,Z⟩,⟨p,q,WideElems.Trod_stays o r1 s n (λx k=>m.same (a x k)) (λ_ _=>rfl),A,Z⟩⟩
end
theorem Q4{P:Program}{H:Type}{enc:TypeId×Value->H}{i:Func}{s:ChangeSpec}{apart mT d h:Bool}{W W':World}{L:TypeId}{f:Array Value}{g:List (DataW H)}{p:List MemPlace}
  (Q:laidOutB P=An) (z:(i.params.toList.all λt=>P.readableRec t&&decide (t<P.types.size))=An) (c:i.resultTypes=#[L]) (l:P.underlying L=V .bool) (a:s.vars=[])
  (R:(s.fn H (g++[])).results=[.lit (.bool An)]) (O:(s.fn H (g++[])).args=g) (T:(s.fn H (g++[])).vars=[])
  (C:DataW.Whole enc P i.params.toList s.vars apart W f.toList g [] p) (y:Below W.heap.size W W') :
  s.post enc P i apart mT d h W f (.bool An) W':=by
 have k:=C;obtain⟨m,X,M,B,rfl,J,I⟩:=C;rw[a] at B;obtain rfl:X=[]:=B;simp only[Jb] at k J I;have n:∀x∈m,x.block<W.heap.size:=λx A=>k.lt x A;obtain⟨o,r⟩:=RT Q y (λt S=>by
  have:=List.all_eq_true.1 z t S;simpa using this) M n
 have N:∀(b:Nat) (K:Nat->Bool) (D:Bool),DataW.TrodAll enc P W' b K D i.resultTypes.toList ((Value.bool An).resultList i.resultTypes.size) (s.fn H (g++[])).results []:=by
  intro b K D;rw[c,R];exact trodAll_mk1 (shut_bool l An)
 have u:(Value.bool An).resultList i.resultTypes.size=[.bool An]:=by rw[c];rfl
 refine⟨g,[],m,[],m,[],k,N _ _ _,?_,?_,y.frame _,λ_=>?_⟩
 .rw[O];exact o
 .rw[a,T];exact Z
 .refine⟨ok_one c Z (okWide_bool_mk l An),.lit (.bool An)::g,[],m,⟨m,[],?_,?_,by simp,?_,?_⟩,λx A _=>A⟩
  .rw[u,c];exact⟨[],m,shut_bool l An,r,by simp⟩
  .rw[a];exact Z
  .intro b cQ F;rw[y.frozen (n _ F)];exact J b cQ F
  .intro v;exact I v
end Go.Fw


namespace Go.Fw
open Go
theorem SK{α:Type}{p:α->Bool}{xs:List α}{j:Nat}(b:j<xs.length)(c:p xs[j]=An)(a:∀i,∀h:i<j,p (xs[i]'(by omega))=Cd):NF p xs=(j:Int):=by
 unfold NF;have:xs.findIdx? p=V j:=List.findIdx?_eq_some_iff_getElem.2 ⟨b,c,λi hi=>by have:=a i hi;simp[this]⟩;rw[this]
theorem qau{α:Type}[Inhabited α]{p:α->Bool}{xs:List α}{j:Nat}(a:j<xs.length)(b:p (gt xs j)=An)(c:∀i,i<xs.length->p (gt xs i)=An->i=j):NF p xs=(j:Int):=by
 refine SK a (by rwa [fd a] at b) (λi hi=>?_);cases hc:p (xs[i]'(by omega)) with
 |false=>rfl
 |true=>exact absurd (c i (by omega) (by rw[fd (by omega)];exact hc)) (by omega)
theorem zo{α:Type}[Inhabited α]{xs ys:List α}{j:Nat}:gt (xs++ys) j=if j<xs.length then gt xs j else gt ys (j-xs.length):=by
 unfold gt;rw[jz,List.getElem?_append];by_cases h:j<xs.length
 .simp only[h,if_true];rfl
 .simp only[h,if_false];rfl
theorem OX{α:Type}[Inhabited α]{f:Nat->α}{n j:Nat}(h:j<n):gt ((List.range n).map f) j=f j:=by
 unfold gt;simp[jz,h]

def iY(f:Nat->Int)(m:Nat):List Int:=(List.range m).map f
theorem AE{f:Nat->Int}{m:Nat}:(iY f m).length=m:=by simp[iY]
theorem ER{f:Nat->Int}{m k:Nat}(h:k<m):qG (iY f m) (k:Int)=V (f k):=by
 rw[bZ (by rw[AE];exact h)];simp[iY]
theorem nM{f g:Nat->Int}{m:Nat}(h:∀k,k<m->f k=g k):iY f m=iY g m:=by
 unfold iY;exact List.map_congr_left (λk a=>h k (List.mem_range.1 a))
theorem TP{m:Nat}(h:m<=2147483648):yW (m:Int) (0:Int)=V (iY (λ_=>0) m):=by
 unfold yW QU;rw[if_pos ⟨by omega,by omega⟩]
 congr 1
 refine Jo (by simp[iY]) (λk a b=>?_);simp[iY]
theorem QR{f:Nat->Int}{m k:Nat}{v:Int}:am (iY f m) (k:Int) v=iY (λi=>if i=k then v else f i) m:=by
 unfold am;refine Jo (by simp[iY]) (λi b c=>?_);rw[List.getElem_set];show(if k=i then _ else _)=_;by_cases a:k=i
 .subst a;simp[iY]
 .have:i≠k:=λh=>a h.symm;simp[iY,a,this]
section
variable{sc:Nat->List Int}{m:Nat}
inductive yQ (sc:Nat->List Int)(m:Nat):List Nat->Prop
 |nil:yQ sc m []
 |snoc {l:List Nat} {k:Nat}:yQ sc m l->k<m->k∉l->(∀u,u<m->(k:Int)∈sc u->u∈l)->yQ sc m (l++[k])
def qd9(sc:Nat->List Int)(m:Nat)(l:List Nat):Prop:=∀k,k<m->k∉l->∃u,u<m/\(k:Int)∈sc u/\u∉l
theorem yQ.lt{l:List Nat}(h:yQ sc m l):∀k,k∈l->k<m:=by
 induction h with
 |nil=>intro k b;cases b
 |snoc _ b _ _ ih=>
  intro j a;rcases List.mem_append.1 a with a|a
  .exact ih j a
  .rw[List.mem_singleton.1 a];exact b
theorem yQ.nodup{l:List Nat}(h:yQ sc m l):l.Nodup:=by
 induction h with
 |nil=>exact List.nodup_nil
 |snoc _ _ hn _ ih=>
  rw[List.nodup_append];refine⟨ih,by simp,λa c b d=>?_⟩;rw[List.mem_singleton.1 d];rintro rfl;exact hn c
theorem yQ.sub{l l':List Nat}(h:yQ sc m l)(g:qd9 sc m l'):∀k,k∈l->k∈l':=by
 induction h with
 |nil=>intro k b;cases b
 | @snoc l k _ b _ hp ih=>
  intro j a;rcases List.mem_append.1 a with a|a
  .exact ih j a
  .rw[List.mem_singleton.1 a];by_cases c:k∈l'
   .exact c
   .obtain⟨u,i,d,f⟩:=g k b c;exact absurd (ih u (hp u i d)) f
theorem IH{l l':List Nat}(g:l.Nodup)(h:∀k,k∈l->k∈l'):l.length<=l'.length:=by
 induction l generalizing l' with
 |nil=>exact jW _
 |cons a l ih=>
  obtain⟨d,f⟩:=List.nodup_cons.1 g;have c:a∈l':=h a (ju ..);have:=ih (l':=l'.erase a) f (λk b=>(List.mem_erase_of_ne (λe=>d (by rw[<-e];exact b))).2 (h k (jr _ b)));rw[List.length_erase_of_mem c] at this;have:0<l'.length:=List.length_pos_of_mem c;simp only[Jn];omega
theorem yQ.len{l:List Nat}(h:yQ sc m l):l.length<=m:=by
 have:=IH (l':=List.range m) h.nodup (λk a=>List.mem_range.2 (h.lt k a));simpa using this
theorem yQ.full{l:List Nat}(h:yQ sc m l)(f:l.length=m):∀k,k<m->k∈l:=by
 intro k d;by_cases b:k∈l
 .exact b
 .have c:=IH (l:=k::l) (l':=List.range m) (List.nodup_cons.2 ⟨b,h.nodup⟩) (λj a=>by
   rcases List.mem_cons.1 a with rfl|a
   .exact List.mem_range.2 d
   .exact List.mem_range.2 (h.lt j a))
  simp at c;omega
theorem yQ.pre{l l':List Nat}(h:yQ sc m (l++l')):yQ sc m l:=by
 generalize he:l++l'=x at h
 induction h generalizing l' with
 |nil=>simp at he;rw[he.1];exact .nil
 | @snoc y k ht hk hn hp ih=>
  rcases List.eq_nil_or_concat l' with rfl|⟨l2,b,rfl⟩
  .rw[Jb] at he;subst he;exact .snoc ht hk hn hp
  .rw[List.concat_eq_append,<-jv] at he;have:=List.append_inj' he Z;exact ih this.1
theorem yQ.at{l l':List Nat}{k:Nat}(h:yQ sc m (l++k::l')):k<m/\k∉l/\∀u,u<m->(k:Int)∈sc u->u∈l:=by
 have:yQ sc m ((l++[k])++l'):=by simpa using h
 have d:=this.pre;generalize he:l++[k]=x at d;cases d with
 |nil=>simp at he
 |snoc _ a b c=>
  have:=List.append_inj' he Z;obtain⟨rfl,e⟩:=this;obtain rfl:k=_:=by simpa using e
  exact⟨a,b,c⟩
theorem yQ.no_back{l:List Nat}{i k:Nat}(h:yQ sc m l)(hi:i<m)(f:i∉l)(d:k∈l):(sc i).count (k:Int)=0:=by
 rw[List.count_eq_zero];intro b;obtain⟨a,c,rfl⟩:=List.append_of_mem d;exact f (jM _ (h.at.2.2 i hi b))
end
def eB(l:List Nat):List Int:=l.map λ(k:Nat)=>(k:Int)
theorem du{l:List Nat}:(eB l).length=l.length:=by simp[eB]
theorem xo{l:List Nat}{k:Nat}:eB (l++[k])=eB l++[(k:Int)]:=by simp[eB]
theorem yu{l:List Nat}{j:Nat}(h:j<l.length):qG (eB l) (j:Int)=V (l[j]:Int):=by
 rw[bZ (by rw[du];exact h)];simp[eB]
def W0(xs:List Int)(m:Nat):Prop:=∀y,y∈xs->∃k:Nat,k<m/\y=(k:Int)
theorem W0.at{xs:List Int}{m j:Nat}(h:W0 xs m)(a:j<xs.length):∃k:Nat,k<m/\qG xs (j:Int)=V (k:Int)/\xs[j]?=V (k:Int):=by
 obtain⟨k,b,e⟩:=h _ (jm a);exact⟨k,b,by rw[bZ a,e],by rw[jj a,e]⟩

def lG(q:Nat->Bool)(m:Nat):List Nat:=(List.range m).filter q
theorem xu{q:Nat->Bool}{j:Nat}:lG q (j+1)=lG q j++(bif q j then[j] else[]):=by
 unfold lG;rw[List.range_succ,List.filter_append];cases h:q j<;>simp[h]
theorem wm{q:Nat->Bool}{j:Nat}:(lG q j).length<=j:=by
 unfold lG;exact Ja (List.length_filter_le _ _) (by rw[List.length_range];exact jf _)
theorem oh{q:Nat->Bool}{j k:Nat}:k∈lG q j↔k<j/\q k=An:=by
 unfold lG;rw[List.mem_filter,List.mem_range]
theorem LO{ρ:Type}{Lf:Nat->List Int->Int->Option ρ}{q:Nat->Bool}{len:Nat}{fin:ρ}(f:len<=1048576)(b:Ev (λn=>Lf n (eB (lG q len)) (len:Int)) fin)
  (a:∀j,j<len->∀t:List Int,df t [(j:Int)]=V (t++[(j:Int)])->∀X,(q j=An->Ev (λn=>Lf n (t++[(j:Int)]) ((j+1:Nat):Int)) X)->(q j=Cd->Ev (λn=>Lf n t ((j+1:Nat):Int)) X)->Ev (λn=>Lf (n+1) t (j:Int)) X) :
  Ev (λn=>Lf n [] 0) fin:=
 qdj (P:=λj=>Ev (λn=>Lf n (eB (lG q j)) (j:Int)) fin) len b (λj d c=>Ev.succ (a j d _
  (eG (by have:=wm (q:=q) (j:=j);rw[du,jh];omega)) _
  (λh=>by rw[xu,h] at c;simp only[Ci,xo] at c;exact c) (λh=>by rw[xu,h] at c;simpa using c)))
section
variable{sc:Nat->List Int}{m:Nat}
end
end Go.Fw


namespace Go.Fw
open Go
open Go.RowKit (Below)
section
variable{w0 w:World}{L:List Ch}
theorem SH.rowS{α:Type}[qm α]{S:Nat->Prop}{xs:List α}{p:Option Addr}{c:Nat}(i:Nat)(h:SH w0 w L)(hi:L[i]?=V (Ch.rowD w0 S xs p c)):dG w (Fw.old w) xs p c:=by
 obtain⟨d,f,g⟩:=(h.mem hi).1;refine⟨d,f,?_⟩;rcases g with⟨a,b,_⟩|⟨b,cur,T,rfl,hb,hg,hc,hx⟩
 .exact .inl ⟨.inl a,b⟩
 .refine .inr ⟨b,0,cur,T,(0,0),Z,((h.mem hi).2 b hb).2,hg,by omega,λi x hi=>?_⟩;obtain⟨cs,k,l⟩:=hx i x hi;exact⟨cs,h.old k,by simpa using l⟩
end

section
variable{P:Program}{T:vP}{n:Nat}{Q:Exit->Act->World->Prop}{k:List It}{e:fL}{w0 w:World}{L:List Ch}
variable{α:Type}[qm α]{S S1:Nat->Prop}{xs ys:List α}{p p':Option Addr}{c c':Nat}
def Rd(w0:World)(xs:List α)(a:List (RU α)):Prop:=a.length=xs.length/\∀(i:Nat) (x:α) (r:RU α),xs[i]?=V x->a[i]?=V r->qm.R w0 (Fw.old w0) x r.cs
theorem Rd.app{g f:List (RU α)}(a:Rd w0 xs g)(d:Rd w0 ys f):Rd w0 (xs++ys) (g++f):=by
 refine⟨by simp[a.1,d.1],λi x r c b=>?_⟩;by_cases hi:i<xs.length
 .rw[jA hi] at c;rw[jA (by rw[a.1];exact hi)] at b;exact a.2 i x r c b
 .rw[jD (by omega)] at c;rw[jD (by rw[a.1];omega),a.1] at b;exact d.2 _ x r c b
theorem SH.tail{d:Ch}(h:SH w0 w (d::L)):SH w0 w L:=
 ⟨h.below,λc a=>h.holds c (jr _ a),λc a=>h.elder c (jr _ a),(List.pairwise_cons.1 h.apart).2⟩
abbrev SH.wc(_:SH w0 w L):World:=w
theorem SH.back{w1:World}{L2:List Ch}(g:SH w0 w1 L)(h:SH w1 w L2)(m:HN L2):SH w0 w (L2++L):=by
 have l:=h.unbase g.below m;have i:∀c∈L,∀b,c.S b->b<w1.heap.size:=λc a b f=>((g.holds c a).2 b f).2;refine⟨l.below,λc a=>?_,λc a=>?_,List.pairwise_append.2 ⟨h.apart,g.apart,λc a d n b f k=>?_⟩⟩
 .rcases List.mem_append.1 a with a|a
  .exact l.holds c a
  .refine⟨c.loc w1 w (λb f=>h.below.block b (i c a b f)) (λb f=>h.below.block b (jx (g.elder c a b f) g.below.size)) (g.holds c a).1,λb f=>?_⟩;have:=(g.holds c a).2 b f;exact⟨this.1,jx this.2 h.below.size⟩
 .rcases List.mem_append.1 a with a|a
  .exact l.elder c a
  .exact g.elder c a
 .have o:=((h.holds c a).2 b f).1;have p:=i d n b k;omega
theorem qh{β:Type}{f g:Option β}{r:β}{c:Bool}{t:Nat}(a:(bif c then f else g)=V r)(b:e.get t=V (.bool c))(d:f=V r->bx P n Q k ((t,.bool An)::e) w)(h:g=V r->bx P n Q k ((t,.bool Cd)::e) w):bx P n Q k e w:=by
 cases c
 .exact qdO Z b (h a)
 .exact qdP Z b (d a)
theorem bu{β:Type}{f g:Option β}{r:β}{c:Bool}{t:Nat}{all:Array Oper}{l:List Oper}(a:(bif c then f else g)=V r)(b:e.get t=V (.bool c))(d:f=V r->lV P n Q k all w l ((t,.bool An)::e))(h:g=V r->lV P n Q k all w l ((t,.bool Cd)::e)):lV P n Q k all w l e:=by
 cases c
 .exact qdg Z b (h a)
 .exact qdh Z b (d a)
theorem dG.ix{β:Type}{A:Nat->Prop}{i:Int}{f:α->Option β}{r:β}(h:dG w A xs p c)(a:(qG xs i).bind f=V r) :
  ∃y,qG xs i=V y/\f y=V r/\(0<=i/\i<xs.length/\xs[i.toNat]?=V y)/\∃b o q cs,p=V ⟨b,o,U⟩/\q=o+i.toNat*qm.k α/\qm.R w A y cs/\cG w b q cs:=by
 obtain⟨y,d,a⟩:=qc a;obtain⟨b,o,q,cs,g,k,_,l,m⟩:=h.at d;exact⟨y,d,a,bJ d,b,o,q,cs,g,k,l,m⟩
def A4(P:Program)(f:FuncId)(a:List Value)(w:World)(J:World->Prop):Prop:=
 Calls P f a.toArray w λe w'=>e=.returned (ww [])/\J w'
theorem xc{J:World->Prop}{all:Array Oper}{l:List Oper}{d ty:Nat}{ps:String}{t:Array Edge}{x:Operand}{b:Array Operand}{i:Array TypeId}{f:FuncId}{r p:Array Value}{o s:List Value}
  (g:kH P f) (y:A4 P f s w J) (B:gq e x=V (.func (.func f) r p)) (c:pD e b.toList=V o) (m:r.toList++o++p.toList=s) (A:Nat.blt d n=An)
  (z:∀w',J w'->bx P n Q (.ops all l::k) ((d,ww [])::e) w'):bx P n Q (.ops all (⟨V d,.call ⟨.value x,b,i⟩,ty,ps,t,U⟩::l)::k) e w:=by
 subst m;refine yB (R:=λv w'=>v=ww []/\J w') Z Z A (λa u=>rP u g B c w) (y.mono ?_) ?_
 .rintro e w' ⟨rfl,h⟩;exact⟨_,Z,Z,h⟩
 .rintro v w' ⟨rfl,h⟩;exact z w' h
theorem EA{J:World->Prop}{f:FuncId}{b:Func}{c:Code}{a:List Value}{m:Nat}(o:P.funcs[f]?=V b)(n:b.body=V c)(p:b.ntmps=m)(r:Nat.ble a.length m=An)
  (h:bx P m (bodyPost P b λe w'=>e=.returned (ww [])/\J w') [.code c] (pY 0 a) w):A4 P f a w J:=by
 subst p;have s:=js r;refine calls_of_wp o n ?_;have g:gp b.ntmps (pY 0 a) { tmps:=a.toArray++Array.replicate (b.ntmps-a.toArray.size) undef,defers:=[] }:=by
  refine⟨Z,by simp;omega,λi v hi=>?_⟩;obtain⟨_,d⟩:=tF a 0 i v hi;simp only[Nat.sub_zero] at d;have k:=(List.getElem?_eq_some_iff.1 d).1;rw[jE (by simpa using k)];simpa using d
 have l:=h _ g;refine wp_mono l ?_;intro ex u w' t;cases ex<;>exact t
theorem qdN{J:World->Prop}(c:cE P T){a:Func}(h:J w)(d:wF T e w a.results.toList []) :
  bx P n (bodyPost P a λe w'=>e=.returned (ww [])/\J w') (.code .ret::k) e w:=
 TB λ_ b=>⟨b.defers,ww [],oP c b d,Z,h⟩
theorem E6{J:World->Prop}(c:cE P T){a:Func}(h:J w)(d:wF T e w a.results.toList []) :
  bx P n (bodyPost P a λe w'=>e=.returned (ww [])/\J w') [] e w:=
 qeq λ_ b=>⟨b.defers,ww [],oP c b d,Z,h⟩
def qbw{β:Type}[qm β](P:Program)(f:FuncId)(a:List Value)(w w0:World)(F:List Ch)(r:List β):Prop:=
 Calls P f a.toArray w λe w'=>∃S p k,e=.returned (.slice p r.length k)/\SH w0 w' (Ch.own S r [.slice p r.length k]::F)
theorem FE{β:Type}[qm β]{r:List β}{F:List Ch}{all:Array Oper}{l:List Oper}{d ty:Nat}{ps:String}{z:Array Edge}{x:Operand}{b:Array Operand}{m:Array TypeId}{f:FuncId}{u t:Array Value}{s y:List Value}
  (i:kH P f) (B:qbw P f y w w0 F r) (H:gq e x=V (.func (.func f) u t)) (g:pD e b.toList=V s) (o:u.toList++s++t.toList=y) (D:Nat.blt d n=An)
  (C:∀w' S p c,SH w0 w' (Ch.own S r [.slice p r.length c]::F)->bx P n Q (.ops all l::k) ((d,.slice p r.length c)::e) w'):bx P n Q (.ops all (⟨V d,.call ⟨.value x,b,m⟩,ty,ps,z,U⟩::l)::k) e w:=by
 subst o;refine yB (R:=λv w'=>∃S p c,v=.slice p r.length c/\SH w0 w' (Ch.own S r [.slice p r.length c]::F)) Z Z D (λa A=>rP A i H g w) (B.mono ?_) ?_
 .rintro e w' ⟨S,p,c,rfl,h⟩;exact⟨_,Z,S,p,c,Z,h⟩
 .rintro v w' ⟨S,p,c,rfl,h⟩;exact C w' S p c h
theorem MP{β:Type}[qm β]{r:List β}{F:List Ch}{f:FuncId}{b:Func}{c:Code}{a:List Value}{m:Nat}(s:P.funcs[f]?=V b)(o:b.body=V c)(t:b.ntmps=m)(u:Nat.ble a.length m=An)
  (h:bx P m (bodyPost P b λe w'=>∃S p k,e=.returned (.slice p r.length k)/\SH w0 w' (Ch.own S r [.slice p r.length k]::F)) [.code c] (pY 0 a) w):qbw P f a w w0 F r:=by
 subst t;have x:=js u;refine calls_of_wp s o ?_;have g:gp b.ntmps (pY 0 a) { tmps:=a.toArray++Array.replicate (b.ntmps-a.toArray.size) undef,defers:=[] }:=by
  refine⟨Z,by simp;omega,λi v hi=>?_⟩;obtain⟨_,d⟩:=tF a 0 i v hi;simp only[Nat.sub_zero] at d;have l:=(List.getElem?_eq_some_iff.1 d).1;rw[jE (by simpa using l)];simpa using d
 have n:=h _ g;refine wp_mono n ?_;intro ex z w' y;cases ex<;>exact y
theorem qaX{β:Type}[qm β]{r:List β}{F:List Ch}{S':Nat->Prop}{p':Option Addr}{a c':Nat}(d:cE P T){b:Func}(h:SH w0 w (Ch.own S' r [.slice p' a c']::F))(f:wF T e w b.results.toList [.slice p' a c']) :
  bx P n (bodyPost P b λe w'=>∃S p k,e=.returned (.slice p r.length k)/\SH w0 w' (Ch.own S r [.slice p r.length k]::F)) (.code .ret::k) e w:=by
 obtain rfl:=(h.sl 0 Z).2;exact TB λ_ c=>⟨c.defers,_,oP d c f,S',p',c',Z,h⟩
end
end Go.Fw


namespace Go.Fw
open Go
structure sE(x w:Int):Prop where
 pos:0<=w
 lo:w*w<=x
 hi:x<(w+1)*(w+1)
theorem TJ{a b:Int}(c:0<=a)(h:a<=b):a*a<=b*b:=Jf h h c (Jh c h)
theorem qcC{w:Int}:(w+1)*(w+1)=w*w+2*w+1:=by simp only[Int.add_mul,Int.mul_add,Int.one_mul,Int.mul_one];omega
theorem QH{w:Int}:(2*w)*(2*w)=4*(w*w):=by rw[Jc,Int.mul_left_comm w 2 w];omega
theorem M9{w:Int}:(2*w+1)*(2*w+1)=4*(w*w)+4*w+1:=by rw[qcC,QH];omega
theorem qba{w:Int}:(2*w+2)*(2*w+2)=4*((w+1)*(w+1)):=by rw[show 2*w+2=2*(w+1) by omega,QH]
theorem sE.uniq{x w v:Int}(h:sE x w)(g:sE x v):w=v:=by
 have d:=h.pos;have a:=g.pos;have f:=h.lo;have i:=h.hi;have b:=g.lo;have c:=g.hi;rcases Int.lt_trichotomy w v with hh|hh|hh
 .have:=TJ (show 0<=w+1 by omega) (show w+1<=v by omega);omega
 .exact hh
 .have:=TJ (show 0<=v+1 by omega) (show v+1<=w by omega);omega
theorem sE.four{x w v:Int}(h:sE x w)(g:sE (4*x) v):v=2*w\/v=2*w+1:=by
 have i:=h.pos;have b:=g.pos;have k:=h.lo;have l:=h.hi;have d:=g.lo;have f:=g.hi;by_cases a:v<2*w
 .have:=TJ (show 0<=v+1 by omega) (show v+1<=2*w by omega);rw[QH] at this;omega
 .by_cases c:2*w+2<=v
  .have:=TJ (show 0<=2*w+2 by omega) c;rw[qba] at this;omega
  .omega
def iz(a b mode:Int):Int:=bif decide (a.tmod b<0)&&(mode==0) then a.tdiv b-1 else bif decide (a.tmod b > 0)&&(mode==1) then a.tdiv b+1 else a.tdiv b
theorem wP{a b mode:Int}(h:0<=a)(f:0<b):iz a b mode=if mode=1/\a % b > 0 then a / b+1 else a / b:=by
 unfold iz;rw[Int.tmod_eq_emod_of_nonneg h,jO h];have:=Int.emod_nonneg a (show b≠0 by omega);rw[show decide (a % b<0)=Cd by simp;omega,Bool.false_and];simp only[Cj];by_cases c:mode=1
 .by_cases d:a % b > 0
  .rw[if_pos ⟨c,d⟩,decide_eq_true d,show(mode==1)=An by simpa using c];rfl
  .rw[if_neg (λh=>d h.2),decide_eq_false d];rfl
 .rw[if_neg (λh=>c h.1),show(mode==1)=Cd by simpa using c,Bool.and_false];rfl
theorem F7{x w v mode:Int}(h:sE x w)(g:sE (4*x) v)(k:mode=0\/mode=1) :
  iz (if mode=1/\v*v<4*x then v+1 else v) 1000 mode=if mode=1/\w*w<x then w / 500+1 else iz w 500 mode:=by
 have i:=h.pos;have l:=g.pos;have f:=g.lo;have m:=h.lo;have a:=h.four g;rw[wP i (by omega),wP (by split<;>omega) (by omega)];rcases k with rfl|rfl
 .rw[if_neg (by omega),if_neg (by omega),if_neg (by omega),if_neg (by omega)];omega
 .have e:v*v=4*(w*w)\/v*v=4*(w*w)+4*w+1:=by
   rcases a with rfl|rfl
   .exact .inl QH
   .exact .inr M9
  simp only[true_and];by_cases c:w*w<x
  .have b:v*v<4*x:=by omega
   rw[if_pos b,if_pos c];split<;>omega
  .have n:w*w=x:=by omega
   have d:v=2*w:=by
    rcases a with a|a
    .exact a
    .subst a;rw[M9] at f;omega
   have b:¬ v*v<4*x:=by rw[d,QH];omega
   rw[if_neg b,if_neg c];split<;>split<;>omega
theorem TC{ρ:Type}{Lf:Nat->Int->Int->Option ρ}{fin:Int->ρ}{x H:Int}(z:0<=x)(v:x<(H+1)*(H+1))(u:0<=H)
  (b:∀n l,0<=l->l<=H->Lf (n+1) l l=V (fin l))
  (a:∀n l h,0<=l->l<h->h<=H->Lf (n+1) l h=bif decide ((l+h+1) / 2*((l+h+1) / 2)<=x) then Lf n ((l+h+1) / 2) h else Lf n l ((l+h+1) / 2-1)) :
  ∃w,sE x w/\w<=H/\Ev (λn=>Lf n 0 H) (fin w):=by
 have m:∀d:Nat,∀l h:Int,0<=l->l<=h->h<=H->h-l<=d->l*l<=x->x<(h+1)*(h+1)->∃w,sE x w/\w<=H/\Ev (λn=>Lf n l h) (fin w):=by
  intro d
  induction d with
  |zero=>
   intro l h i r f y o p;obtain rfl:l=h:=by omega
   exact⟨l,⟨i,o,p⟩,f,Ev.step (λn=>b n l i f) .done⟩
  |succ d ih=>
   intro l h i r f y o p;by_cases c:l=h
   .subst c;exact⟨l,⟨i,o,p⟩,f,Ev.step (λn=>b n l i f) .done⟩
   .have k:l<h:=by omega
    by_cases q:(l+h+1) / 2*((l+h+1) / 2)<=x
    .obtain⟨w,r1,s,t⟩:=ih ((l+h+1) / 2) h (by omega) (by omega) f (by omega) q p;exact⟨w,r1,s,Ev.step (g:=λn=>Lf n ((l+h+1) / 2) h) (λn=>by rw[a n l h i k f,decide_eq_true q];rfl) t⟩
    .obtain⟨w,r1,s,t⟩:=ih l ((l+h+1) / 2-1) i (by omega) (by omega) (by omega) o (by rw[Int.sub_add_cancel];omega);exact⟨w,r1,s,Ev.step (g:=λn=>Lf n l ((l+h+1) / 2-1)) (λn=>by rw[a n l h i k f,decide_eq_false q];rfl) t⟩
 exact m H.toNat 0 H (jL _) u (jL _) (by omega) (by omega) v

section
variable{L:Nat}{fr to:Nat->Int}{lv:Nat->Bool}
def RH(L:Nat)(fr to:Nat->Int)(lv:Nat->Bool)(R:List Nat)(k:Nat):Nat:=gr (λx=>lv x&&(to x==(k:Int)&&!decide (fr x∈eB R))) L
def qen(L:Nat)(fr to:Nat->Int)(lv:Nat->Bool)(i k:Nat):Nat:=gr (λx=>lv x&&(fr x==(i:Int))&&(to x==(k:Int))) L
def HV(L:Nat)(fr to:Nat->Int)(lv:Nat->Bool)(R:List Nat)(k:Nat):Bool:=!decide (k∈R)&&decide (RH L fr to lv R k=0)
def Q9(L:Nat)(fr to:Nat->Int)(lv:Nat->Bool)(n:Nat)(R:List Nat):Option Nat:=(List.range n).find? (HV L fr to lv R)
def R5(L:Nat)(fr to:Nat->Int)(lv:Nat->Bool)(n:Nat):Nat->List Nat->Option (List Nat)
 |0,R=>V R
 |m+1,R=>match Q9 L fr to lv n R with|none=>U|some k=>R5 L fr to lv n m (R++[k])
def AF(L:Nat)(fr to:Nat->Int)(lv:Nat->Bool)(R:List Nat):Prop:=∀x,x<L->lv x=An->to x∈eB R->fr x∈eB R
theorem rk{R:List Nat}{k:Nat}:(k:Int)∈eB R↔k∈R:=by
 unfold eB;rw[List.mem_map];constructor
 .rintro⟨j,a,e⟩;obtain rfl:j=k:=by omega
  exact a
 .exact λh=>⟨k,h,Z⟩
theorem B8{p q r:Nat->Bool}{n:Nat}(h:∀x,x<n->((bif p x then 1 else 0):Nat)=(bif q x then 1 else 0)+(bif r x then 1 else 0)):gr p n=gr q n+gr r n:=by
 induction n with
 |zero=>rfl
 |succ n ih=>unfold gr;rw[ih (λx a=>h x (by omega)),h n (by omega)];omega
theorem qas{R:List Nat}{i k:Nat}(hi:i∉R):RH L fr to lv R k=RH L fr to lv (R++[i]) k+qen L fr to lv i k:=by
 unfold RH qen;refine B8 λx _=>?_;cases lv x
 .rfl
 .cases to x==(k:Int)
  .simp
  .by_cases a:fr x=(i:Int)
   .have c:fr x∉eB R:=by rw[a,rk];exact hi
    have b:fr x∈eB (R++[i]):=by rw[xo,a];simp
    rw[a] at c b;simp[c,b,a]
   .have b:(fr x∈eB (R++[i]))↔fr x∈eB R:=by rw[xo];simp[a]
    rw[show(fr x==(i:Int))=Cd by simpa using a];simp[b]
theorem xO{R:List Nat}{k:Nat}:RH L fr to lv R k=0↔∀x,x<L->lv x=An->to x=(k:Int)->fr x∈eB R:=by
 unfold RH;rw[EW];constructor
 .intro h x c b a;have:=h x c;rw[b,a] at this;simpa using this
 .intro h x c;cases b:lv x
  .rfl
  .by_cases a:to x=(k:Int)
   .have:=h x c b a;simp[this]
   .simp[a]
theorem LH{n:Nat}{R:List Nat}{k:Nat}(h:Q9 L fr to lv n R=V k):k<n/\k∉R/\RH L fr to lv R k=0:=by
 have b:=List.mem_range.1 (List.mem_of_find?_eq_some h);have a:=List.find?_some h;unfold HV at a;simp only[je,jC,decide_eq_false_iff_not,decide_eq_true_eq] at a;exact⟨b,a.1,a.2⟩
theorem AF.snoc{R:List Nat}{k:Nat}(h:AF L fr to lv R)(d:RH L fr to lv R k=0):AF L fr to lv (R++[k]):=by
 intro x c b a;rw[xo] at a⊢;rcases List.mem_append.1 a with a|a
 .exact jM _ (h x c b a)
 .exact jM _ (xO.1 d x c b (List.mem_singleton.1 a))
theorem AF.nil:AF L fr to lv []:=λ_ _ _ h=>by simp[eB] at h
theorem AF.no_back{R:List Nat}{i k:Nat}(h:AF L fr to lv R)(hi:i∉R)(f:RH L fr to lv R i=0)(a:k∈R++[i]):qen L fr to lv i k=0:=by
 unfold qen;rw[EW];intro x d;cases h1:lv x
 .rfl
 .by_cases c:fr x=(i:Int)
  .by_cases b:to x=(k:Int)
   .exfalso;rcases List.mem_append.1 a with a|a
    .have:=h x d h1 (by rw[b,rk];exact a);rw[c,rk] at this;exact hi this
    .rw[List.mem_singleton.1 a] at b;have:=xO.1 f x d h1 b;rw[c,rk] at this;exact hi this
   .simp[b]
  .simp[c]
theorem qaK{n:Nat}:∀m R R',R5 L fr to lv n m R=V R'->R'.length=R.length+m:=by
 intro m
 induction m with
 |zero=>intro R R' h;obtain rfl:=Option.some.inj h;rfl
 |succ m ih=>
  intro R R' h;unfold R5 at h;cases hn:Q9 L fr to lv n R with
  |none=>rw[hn] at h;cases h
  |some k=>
   rw[hn] at h;have:=ih _ _ h;rw[this,jg,jh];omega
end
end Go.Fw


namespace Go.Fw
open Go
open Go.RowKit (Below)
section
variable{P:Program}{T:vP}{n:Nat}{e:fL}{w:World}
theorem RO{t:TypeId}{k:IntKind}(h:P.underlying t=V (.int k))(w:World):(isAgg t).run P w=.ok Cd w:=by
 unfold isAgg;simp only[jk,run_underlying h,ji]
 rfl
theorem IW{t:TypeId}{k:IntKind}(h:P.underlying t=V (.int k)){cs:Array Value}{o:Nat}{v:Value}(a:cs[o]?=V v)(w:World):(part t cs o).run P w=.ok v w:=by
 unfold part;simp only[jk,RO h,ji,a]
 rfl
theorem mH(d:Nat){t:TypeId}(h:P.underlying t=V (.int .i64))(a b:Int)(w:World):(Op.equalIn (d+1) t (.int .i64 a) (.int .i64 b)).run P w=.ok (a==b) w:=by
 simp[Op.equalIn,run_underlying h]
theorem F1{t:TypeId}{a b:Field}{a1 a2 b1 b2:Int}(k:P.underlying t=V (.struct #[a,b]))(n1:a.name≠ "_") (l:b.name≠ "_") (o1:a.offset=0) (o2:b.offset=1)
  (g:P.underlying a.type=V (.int .i64)) (h:P.underlying b.type=V (.int .i64)) (i:P.stoodInHeld t=Cd) (w:World) :
  (Op.equal t (.agg #[.int .i64 a1,.int .i64 a2]) (.agg #[.int .i64 b1,.int .i64 b2])).run P w=.ok ((a1==b1)&&(a2==b2)) w:=by
 simp only[Op.equal,Op.maxDepth];show(Op.equalIn (9998+1+1) t _ _).run P w=_;have p1:=λc:Int×Int=>IW (P:=P) g (cs:=#[.int .i64 c.1,.int .i64 c.2]) (o:=0) (v:=.int .i64 c.1) Z;have s:=λc:Int×Int=>IW (P:=P) h (cs:=#[.int .i64 c.1,.int .i64 c.2]) (o:=1) (v:=.int .i64 c.2) Z;have d:=p1 (a1,a2);have m:=p1 (b1,b2);have f:=s (a1,a2);have n:=s (b1,b2);simp only at d m f n;rw[Op.equalIn];by_cases p:a1=b1
 .subst p;by_cases r:a2=b2
  .subst r;simp[run_underlying k,i,n1,l,o1,o2,d,f,mH 9998 g,mH 9998 h]
  .simp[run_underlying k,i,n1,l,o1,o2,d,m,f,n,mH 9998 g,mH 9998 h,r]
 .simp[run_underlying k,i,n1,l,o1,o2,d,m,f,n,mH 9998 g,mH 9998 h,p]
theorem qdX{x y:Operand}{t v d ty:Nat}{ps:String}{l:Array Edge}{g:Option (Nat×Bool)}{b c:Field}{a1 a2 b1 b2:Int}(r:P.underlying t=V (.struct #[b,c]))(h:((b.name != "_")&&(c.name != "_"))=An) (i:(b.offset,c.offset)=(0,1))
  (z:P.underlying b.type=V (.int .i64)) (A:P.underlying c.type=V (.int .i64)) (p:P.stoodInHeld t=Cd) (o:P.eqGuardType P.depth t=Cd)
  (s:gq e x=V (.agg #[.int .i64 a1,.int .i64 a2])) (u:gq e y=V (.agg #[.int .i64 b1,.int .i64 b2])):MV P n e ⟨V d,.binOp .neq t x y v,ty,ps,l,g⟩ w (.bool (!((a1==b1)&&(a2==b2)))):=by
 intro a k;simp only[Prod.mk.injEq] at i;simp only[je,bne_iff_ne] at h;have m:=λw=>F1 (a1:=a1) (a2:=a2) (b1:=b1) (b2:=b2) r h.1 h.2 i.1 i.2 z A p w;have f:(eqGuard .neq t x y (.agg #[.int .i64 a1,.int .i64 a2]) (.agg #[.int .i64 b1,.int .i64 b2])).run P w=.ok () w:=by
  unfold eqGuard;simp[o]
 simp only[execOp,k.eval s,k.eval u,jk,f,ji,binOp,m,jn]
def K7(P:Program)(t:TypeId):Bool:=match P.underlying t with
 |some (.int .i64)=>An
 |_=>Cd
def qeo(P:Program)(t:TypeId):Bool:=match P.underlying t with
 |some (.struct fs)=>match fs.toList with
  | [f1,f2]=>(f1.name != "_")&&(f2.name != "_")&&Nat.beq f1.offset 0&&Nat.beq f2.offset 1&&K7 P f1.type&&K7 P f2.type&&!P.stoodInHeld t&&!P.eqGuardType P.depth t
  |_=>Cd
 |_=>Cd
theorem XU{t:TypeId}(h:K7 P t=An):P.underlying t=V (.int .i64):=by
 unfold K7 at h;split at h
 .assumption
 .cases h
theorem qbh{x y:Operand}{t s d ty:Nat}{ps:String}{c:Array Edge}{g:Option (Nat×Bool)}{a1 a2 b1 b2:Int}(a:qeo P t=An)
  (f:gq e x=V (.agg #[.int .i64 a1,.int .i64 a2])) (h:gq e y=V (.agg #[.int .i64 b1,.int .i64 b2])):MV P n e ⟨V d,.binOp .neq t x y s,ty,ps,c,g⟩ w (.bool (!((a1==b1)&&(a2==b2)))):=by
 unfold qeo at a;split at a
 .rename_i fs hu
  split at a
  .rename_i f1 f2 hf
   have b:fs=#[f1,f2]:=by rw[<-Array.toArray_toList (xs:=fs),hf]
   subst b;simp only[je,jC] at a;obtain⟨⟨⟨⟨⟨⟨⟨i,k⟩,k3⟩,l⟩,m⟩,o⟩,p⟩,r⟩:=a;exact qdX hu (by simp only[i,k,Bool.and_self]) (by rw[Nat.eq_of_beq_eq_true k3,Nat.eq_of_beq_eq_true l]) (XU m) (XU o) p r f h
  .cases a
 .cases a
end
end Go.Fw
