/- The prover's own layer over the model: typed readings of memory, a small separation list, and a run with a stack of code that is left. -/
import Derived.WalkKit
import Derived.KernelRfl
import Derived.OrdersHeld
import Derived.Deep.Quiet
import Derived.ProofKit
import Derived.ReadAgain
import Derived.IntWalk
import Derived.Laws.BytesString
open Option renaming some->V, none->U
open Bool renaming and_eq_true->je, eq_iff_iff->jn, not_eq_true'->jC, true->An, false->Cd, cond_true->Ci, cond_false->Cj
open Nat renaming le_refl->jf, le_of_ble_eq_true->js, mul_le_mul_right->jt, lt_of_lt_of_le->jx, succ_mul->jP, zero_le->jR, le_trans->jX, zero_add->Jd, not_lt_zero->Ji, add_zero->Jl
open List renaming length_append->jg, length_singleton->jh, getElem?_eq_getElem->jj, getElem_mem->jo, mem_cons_of_mem->jp, length_map->jq, mem_cons_self->ju, append_assoc->jv, take_succ_eq_append_getElem->jw, length_take->jy, getD_eq_getElem?_getD->jz, getElem?_append_left->jA, mem_of_getElem?->jB, getElem?_append_right->jD, drop_eq_getElem_cons->jF, length_replicate->jI, getElem?_take->jJ, mem_append_left->jK, eq_nil_of_length_eq_zero->jO, getElem?_toArray->jQ, map_append->jT, append_nil->jY, size_toArray->jZ, getElem?_drop->Ja, all_eq_true->Jc, getElem_of_mem->Je, map_cons->Jf, length_cons->Jj, ext_getElem->Jk
open Go.Result renaming andThen_ok->ji
open Go.Sem renaming run_bind->jk, run_pure->jm
open Int renaming toNat_natCast->jr, tdiv_eq_ediv_of_nonneg->jM, le_refl->jV, mul_le_mul->Jb, mul_assoc->Jg
open Array renaming getElem?_append_left->jE

namespace Go.Fw
theorem Z.{u} {α:Sort u} {a:α}:a=a:=rfl
theorem G:True:=trivial
open Go
abbrev vp(b:Nat):Value:=.pointer (V ⟨b,0,U⟩)
abbrev vi(x:Int):Value:=.int .i64 x
abbrev oL{α:Type}(p:Option Addr)(l:List α)(k:Nat):Value:=.slice p l.length k
theorem z8{α0 α1 α2 α3 α4 α5 α6 α7:Type}{a0:α0}{a1:α1}{a2:α2}{a:α3}{b:α4}{c:α5}{d:α6}{f:α7}:a0=a0/\a1=a1/\a2=a2/\a=a/\b=b/\c=c/\d=d/\f=f:=⟨rfl,rfl,rfl,rfl,rfl,rfl,rfl,rfl⟩
theorem z9{α0 α1 α2 α3 α4 α5 α6 α7 α8:Type}{a0:α0}{a1:α1}{a2:α2}{a:α3}{b:α4}{c:α5}{d:α6}{f:α7}{g:α8}:a0=a0/\a1=a1/\a2=a2/\a=a/\b=b/\c=c/\d=d/\f=f/\g=g:=⟨rfl,rfl,rfl,rfl,rfl,rfl,rfl,rfl,rfl⟩
class qm (α:Type) where
  k:Nat
  agg:Bool
  zero:α
  zc:List Value
  R:World->(Nat->Prop)->α->List Value->Prop
  O:World->(Nat->Prop)->α->List Value->Prop
  kpos:0<k
  noagg:agg=Cd->k=1
  len:∀{w S x cs},R w S x cs->cs.length=k
  one:∀{w S x cs},R w S x cs->∀c∈cs,c.oneCell'=An
  loc:∀{w w' S x cs},R w S x cs->(∀b,S b->w'.heap[b]?=w.heap[b]?)->R w' S x cs
  mono:∀{w S S' x cs},R w S x cs->(∀b,S b->S' b)->R w S' x cs
  toR:∀{w S x cs},O w S x cs->R w S x cs
  locO:∀{w w' S x cs},O w S x cs->(∀b,S b->w'.heap[b]?=w.heap[b]?)->O w' S x cs
  monoO:∀{w S S' x cs},O w S x cs->(∀b,S b->S' b)->O w S' x cs
  zO:∀w S,O w S zero zc
def qdN(agg:Bool)(cs:List Value):Value:=
  match agg with
  |true=>.agg cs.toArray
  |false=>cs.headD undef
abbrev qm.v(α:Type)[qm α](cs:List Value):Value:=qdN (qm.agg α) cs
abbrev gv{α:Type}[qm α](_:α)(cs:List Value):Value:=qm.v α cs
instance qT:qm Int where
  k:=1
  agg:=Cd
  zero:=0
  zc:=[.int .i64 0]
  R _ _ x cs:=cs=[.int .i64 x]
  O _ _ x cs:=cs=[.int .i64 x]
  kpos:=by decide
  noagg _:=rfl
  len h:=by subst h;rfl
  one h:=by subst h;simp[Value.oneCell']
  loc h _:=h
  mono h _:=h
  toR h:=h
  locO h _:=h
  monoO h _:=h
  zO _ _:=rfl
instance tK:qm Bool where
  k:=1
  agg:=Cd
  zero:=Cd
  zc:=[.bool Cd]
  R _ _ x cs:=cs=[.bool x]
  O _ _ x cs:=cs=[.bool x]
  kpos:=by decide
  noagg _:=rfl
  len h:=by subst h;rfl
  one h:=by subst h;simp[Value.oneCell']
  loc h _:=h
  mono h _:=h
  toR h:=h
  locO h _:=h
  monoO h _:=h
  zO _ _:=rfl
instance vV:qm ByteArray where
  k:=1
  agg:=Cd
  zero:=ByteArray.empty
  zc:=[.string ByteArray.empty]
  R _ _ x cs:=cs=[.string x]
  O _ _ x cs:=cs=[.string x]
  kpos:=by decide
  noagg _:=rfl
  len h:=by subst h;rfl
  one h:=by subst h;simp[Value.oneCell']
  loc h _:=h
  mono h _:=h
  toR h:=h
  locO h _:=h
  monoO h _:=h
  zO _ _:=rfl
class ee (α:Type) [qm α]:Prop where
  fl:∀{w w':World} {S S':Nat->Prop} {x:α} {cs:List Value},qm.R w S x cs->qm.O w' S' x cs
  det:∀{w w':World} {S S':Nat->Prop} {x:α} {cs cs':List Value},qm.R w S x cs->qm.R w' S' x cs'->cs=cs'
instance:ee Int:=⟨fun h=>h,fun h h'=>Eq.trans h (Eq.symm h')⟩
instance:ee Bool:=⟨fun h=>h,fun h h'=>Eq.trans h (Eq.symm h')⟩
instance:ee ByteArray:=⟨fun h=>h,fun h h'=>Eq.trans h (Eq.symm h')⟩
section
variable{α:Type}[qm α]
def dn(w:World)(S:Nat->Prop)(xs:List α)(p:Option Addr)(c:Nat):Prop:=
  xs.length<=c/\c<=maxLen /\
  (((p=U\/c=0)/\xs=[]) \/
   ∃b o cur T fr,p=V ⟨b,o,U⟩/\S b/\w.heap[b]?=V (.cells cur T fr)/\o+c*qm.k α<=cur.size /\
     ∀i x,xs[i]?=V x->∃cs,qm.R w S x cs/\∀j v,cs[j]?=V v->cur[o+i*qm.k α+j]?=V v)
def TW(w:World)(S:Nat->Prop)(xs:List α)(p:Option Addr)(c:Nat):Prop:=
  xs.length<=c/\c<=maxLen /\
  ((p=U/\xs=[]/\c=0) \/
   ∃b cur T,∃F:Nat->Nat->Prop,p=V ⟨b,0,U⟩/\S b/\w.heap[b]?=V (.cells cur T (0,0))/\cur.size=c*qm.k α /\
     (∀i a,F i a->S a/\a≠b)/\(∀i j a,i≠j->F i a->¬ F j a) /\
     ∀i x,xs[i]?=V x->∃cs,qm.O w (F i) x cs/\∀j v,cs[j]?=V v->cur[i*qm.k α+j]?=V v)
theorem dn.loc{w w':World}{S:Nat->Prop}{xs:List α}{p c}(h:dn w S xs p c)(d:∀b,S b->w'.heap[b]?=w.heap[b]?):dn w' S xs p c:=by
  obtain⟨f,g,a⟩:=h;refine⟨f,g,?_⟩;rcases a with a|⟨b,o,cur,T,fr,rfl,hb,hg,hc,hx⟩
  · exact .inl a
  · refine .inr ⟨b,o,cur,T,fr,rfl,hb,by rw[d b hb];exact hg,hc,fun i x hi=>?_⟩
    obtain⟨cs,l,k⟩:=hx i x hi;exact⟨cs,qm.loc l d,k⟩
theorem dn.mono{w:World}{S S':Nat->Prop}{xs:List α}{p c}(h:dn w S xs p c)(d:∀b,S b->S' b):dn w S' xs p c:=by
  obtain⟨f,g,a⟩:=h;refine⟨f,g,?_⟩;rcases a with a|⟨b,o,cur,T,fr,rfl,hb,hg,hc,hx⟩
  · exact .inl a
  · refine .inr ⟨b,o,cur,T,fr,rfl,d b hb,hg,hc,fun i x hi=>?_⟩
    obtain⟨cs,l,k⟩:=hx i x hi;exact⟨cs,qm.mono l d,k⟩
theorem TW.toR{w:World}{S:Nat->Prop}{xs:List α}{p c}(h:TW w S xs p c):dn w S xs p c:=by
  obtain⟨f,g,d⟩:=h;refine⟨f,g,?_⟩;rcases d with⟨d,h4,_⟩|⟨b,cur,T,F,rfl,hb,hg,hc,hF,hd,hx⟩
  · exact .inl ⟨.inl d,h4⟩
  · refine .inr ⟨b,0,cur,T,(0,0),rfl,hb,hg,by omega,fun i x hi=>?_⟩
    obtain⟨cs,m,l⟩:=hx i x hi;exact⟨cs,qm.mono (qm.toR m) (fun a k=>(hF i a k).1),by simpa using l⟩
theorem TW.loc{w w':World}{S:Nat->Prop}{xs:List α}{p c}(h:TW w S xs p c)(f:∀b,S b->w'.heap[b]?=w.heap[b]?):TW w' S xs p c:=by
  obtain⟨g,k,d⟩:=h;refine⟨g,k,?_⟩;rcases d with d|⟨b,cur,T,F,rfl,hb,hg,hc,hF,hd,hx⟩
  · exact .inl d
  · refine .inr ⟨b,cur,T,F,rfl,hb,by rw[f b hb];exact hg,hc,hF,hd,fun i x hi=>?_⟩
    obtain⟨cs,n,m⟩:=hx i x hi;exact⟨cs,qm.locO n (fun a l=>f a (hF i a l).1),m⟩
theorem TW.mono{w:World}{S S':Nat->Prop}{xs:List α}{p c}(h:TW w S xs p c)(g:∀b,S b->S' b):TW w S' xs p c:=by
  obtain⟨k,l,d⟩:=h;refine⟨k,l,?_⟩;rcases d with d|⟨b,cur,T,F,rfl,hb,hg,hc,hF,hd,hx⟩
  · exact .inl d
  · exact .inr ⟨b,cur,T,F,rfl,g b hb,hg,hc,fun i a f=>⟨g a (hF i a f).1,(hF i a f).2⟩,hd,hx⟩
end
instance bw{α:Type}[qm α]:qm (List α) where
  k:=1
  agg:=Cd
  zero:=[]
  zc:=[.slice U 0 0]
  R w S xs cs:=∃p c,cs=[.slice p xs.length c]/\dn w S xs p c
  O w S xs cs:=∃p c,cs=[.slice p xs.length c]/\TW w S xs p c
  kpos:=by decide
  noagg _:=rfl
  len h:=by obtain⟨p,c,rfl,_⟩:=h;rfl
  one h:=by obtain⟨p,c,rfl,_⟩:=h;simp[Value.oneCell']
  loc h hs:=by obtain⟨p,c,rfl,h⟩:=h;exact⟨p,c,rfl,h.loc hs⟩
  mono h hs:=by obtain⟨p,c,rfl,h⟩:=h;exact⟨p,c,rfl,h.mono hs⟩
  toR h:=by obtain⟨p,c,rfl,h⟩:=h;exact⟨p,c,rfl,h.toR⟩
  locO h hs:=by obtain⟨p,c,rfl,h⟩:=h;exact⟨p,c,rfl,h.loc hs⟩
  monoO h hs:=by obtain⟨p,c,rfl,h⟩:=h;exact⟨p,c,rfl,h.mono hs⟩
  zO w S:=⟨U,0,rfl,by simp,by simp,.inl ⟨rfl,rfl,rfl⟩⟩
instance B9{α:Type}[qm α]:qm (Option α) where
  k:=1
  agg:=Cd
  zero:=U
  zc:=[.pointer U]
  R w S p cs:=match p with
    |none=>cs=[.pointer U]
    |some x=>∃b o cur T fr ds,cs=[.pointer (V ⟨b,o,U⟩)]/\S b/\w.heap[b]?=V (.cells cur T fr)/\qm.R w S x ds/\∀j v,ds[j]?=V v->cur[o+j]?=V v
  O w S p cs:=match p with
    |none=>cs=[.pointer U]
    |some x=>∃b cur T,∃S':Nat->Prop,cs=[.pointer (V ⟨b,0,U⟩)]/\S b/\w.heap[b]?=V (.cells (List.toArray cur) T (0,0))/\qm.O w S' x cur/\∀a,S' a->S a/\a≠b
  kpos:=by decide
  noagg _:=rfl
  len {w S p cs} h:=by
    cases p with
    |none=>subst h;rfl
    |some x=>obtain⟨b,o,cur,T,fr,ds,rfl,_⟩:=h;rfl
  one {w S p cs} h:=by
    cases p with
    |none=>subst h;simp[Value.oneCell']
    |some x=>obtain⟨b,o,cur,T,fr,ds,rfl,_⟩:=h;simp[Value.oneCell']
  loc {w w' S p cs} h hs:=by
    cases p with
    |none=>exact h
    |some x=>
      obtain⟨b,o,cur,T,fr,ds,rfl,hb,hg,hr,hj⟩:=h
      exact⟨b,o,cur,T,fr,ds,rfl,hb,by rw[hs b hb];exact hg,qm.loc hr hs,hj⟩
  mono {w S S' p cs} h hs:=by
    cases p with
    |none=>exact h
    |some x=>
      obtain⟨b,o,cur,T,fr,ds,rfl,hb,hg,hr,hj⟩:=h
      exact⟨b,o,cur,T,fr,ds,rfl,hs b hb,hg,qm.mono hr hs,hj⟩
  toR {w S p cs} h:=by
    cases p with
    |none=>exact h
    |some x=>
      obtain⟨b,cur,T,S',rfl,hb,hg,hr,hj⟩:=h
      exact⟨b,0,cur.toArray,T,(0,0),cur,rfl,hb,hg,qm.mono (qm.toR hr) (fun a ha=>(hj a ha).1),by simp⟩
  locO {w w' S p cs} h hs:=by
    cases p with
    |none=>exact h
    |some x=>
      obtain⟨b,cur,T,S',rfl,hb,hg,hr,hj⟩:=h
      exact⟨b,cur,T,S',rfl,hb,by rw[hs b hb];exact hg,qm.locO hr (fun a ha=>hs a (hj a ha).1),hj⟩
  monoO {w S S' p cs} h hs:=by
    cases p with
    |none=>exact h
    |some x=>
      obtain⟨b,cur,T,S',rfl,hb,hg,hr,hj⟩:=h
      exact⟨b,cur,T,S',rfl,hs b hb,hg,hr,fun a ha=>⟨hs a (hj a ha).1,(hj a ha).2⟩⟩
  zO _ _:=rfl
structure Ch where
  S:Nat->Prop
  D:Nat->Prop
  P:World->Prop
  loc:∀w w',(∀b,S b->w'.heap[b]?=w.heap[b]?)->(∀b,D b->w'.heap[b]?=w.heap[b]?)->P w->P w'
def Ch.box(b:Nat)(cs:List Value)(T:TypeId):Ch where
  S a:=a=b
  D _:=False
  P w:=w.heap[b]?=V (.cells cs.toArray T (0,0))
  loc w w' h _ hp:=by rw[h b rfl];exact hp
def Ch.own{α:Type}[qm α](S:Nat->Prop)(x:α)(cs:List Value):Ch where
  S:=S
  D _:=False
  P w:=qm.O w S x cs
  loc _ _ h _ hp:=qm.locO hp h
def old(w:World)(b:Nat):Prop:=b<w.heap.size
def nu(w w':World)(b:Nat):Prop:=w.heap.size<=b/\b<w'.heap.size
open Go.RowKit (Below)
structure SH(w0 w:World)(L:List Ch):Prop where
  below:Below w0.heap.size w0 w
  holds:∀c∈L,c.P w/\∀b,c.S b->nu w0 w b
  elder:∀c∈L,∀b,c.D b->b<w0.heap.size
  apart:L.Pairwise fun c d=>∀b,c.S b->¬ d.S b
theorem SH.start(w:World):SH w w []:=⟨Below.refl _ _,by simp,by simp,.nil⟩
section
variable{w0 w w':World}{L:List Ch}
theorem SH.mem{c:Ch}{i:Nat}(h:SH w0 w L)(hi:L[i]?=V c):c.P w/\∀b,c.S b->nu w0 w b:=
  h.holds c (jB hi)
theorem SH.ext(h:SH w0 w L)(d:Below w.heap.size w w'):SH w0 w' L:=by
  refine⟨h.below.trans (d.mono h.below.size),fun c g=>?_,h.elder,h.apart⟩;obtain⟨i,f⟩:=h.holds c g;refine⟨c.loc w w' (fun b a=>d.block b (f b a).2) (fun b k=>d.block b (jx (h.elder c g b k) h.below.size)) i,fun b a=>⟨(f b a).1,?_⟩⟩;have:=(f b a).2;have:=d.size;omega
theorem SH.add{c:Ch}(h:SH w0 w L)(n:Below w.heap.size w w')(o:c.P w')(g:∀b,c.S b->nu w w' b)(m:∀b,c.D b->b<w0.heap.size):SH w0 w' (c::L):=by
  have l:=h.ext n;refine⟨l.below,fun d a=>?_,fun d a=>?_,?_⟩
  · rcases List.mem_cons.1 a with rfl|a
    · refine⟨o,fun b f=>⟨?_,(g b f).2⟩⟩
      have:=(g b f).1;have:=h.below.size;omega
    · exact l.holds d a
  · rcases List.mem_cons.1 a with rfl|a
    · exact m
    · exact h.elder d a
  · refine List.pairwise_cons.2 ⟨fun d a b i k=>?_,h.apart⟩
    have p:=(g b i).1;have r:=((h.holds d a).2 b k).2;omega
theorem SH.alloc(h:SH w0 w L)(cs:List Value)(T:TypeId):SH w0 (w.alloc (.cells cs.toArray T)) (Ch.box w.heap.size cs T::L):=by
  refine h.add ((Below.refl _ _).alloc (jf _) _) ?_ ?_ (fun _ c=>c.elim)
  · exact heap_alloc_new w _
  · intro b a
    have:b=w.heap.size:=a;subst this;exact⟨jf _,by simp⟩
theorem SH.upd{c c':Ch}{i:Nat}(h:SH w0 w L)(hi:L[i]?=V c)(W:w'.os=w.os)(A:w'.tape=w.tape)(N:w'.output=w.output)(o:w.heap.size<=w'.heap.size)
    (S:∀b,b<w.heap.size->¬ c.S b->w'.heap[b]?=w.heap[b]?) (hp:c'.P w') (Q:∀b,c'.S b->c.S b\/nu w w' b) (Y:∀b,c'.D b->b<w0.heap.size):SH w0 w' (L.set i c'):=by
  obtain⟨a3,t⟩:=h.mem hi;have l:∀(j:Nat) (d:Ch),L[j]?=V d->j≠i->∀b,d.S b->¬ c.S b:=by
    intro j d K z b g H;have O:=List.pairwise_iff_getElem.1 h.apart;obtain⟨J,I⟩:=List.getElem?_eq_some_iff.1 hi;obtain⟨M,f⟩:=List.getElem?_eq_some_iff.1 K;rcases Nat.lt_or_gt_of_ne z with s|s
    · have:=O j i M J s
      rw[I,f] at this;exact this b g H
    · have:=O i j J M s
      rw[I,f] at this;exact this b H g
  refine⟨⟨W.trans h.below.os,A.trans h.below.tape,N.trans h.below.output,jX h.below.size o,fun k X=>?_⟩,?_,?_,?_⟩
  · rw[S k (jx X h.below.size) (fun y=>by have:=(t k y).1;omega)]
    exact h.below.block k X
  · intro d T
    obtain⟨j,K,f⟩:=Je T;have v:j<L.length:=by simpa using K
    rw[List.getElem_set] at f;split at f
    · subst f
      refine⟨hp,fun b u=>?_⟩;rcases Q b u with m|m
      · exact⟨(t b m).1,jx (t b m).2 o⟩
      · exact⟨jX h.below.size m.1,m.2⟩
    · rename_i z
      have r:L[j]?=V d:=by rw[jj v,f]
      obtain⟨m,P⟩:=h.mem r;refine⟨d.loc w w' (fun b g=>S b (P b g).2 (l j d r (Ne.symm z) b g)) (fun b g=>?_) m,fun b g=>⟨(P b g).1,jx (P b g).2 o⟩⟩;have s:=h.elder d (jB r) b g;exact S b (jx s h.below.size) (fun y=>by have:=(t b y).1;omega)
  · intro d T
    obtain⟨j,K,f⟩:=Je T;have v:j<L.length:=by simpa using K
    rw[List.getElem_set] at f;split at f
    · subst f;exact Y
    · exact h.elder d (f ▸ jo v)
  · rw[List.pairwise_iff_getElem]
    intro a b e u R x p n;have B:a<L.length:=by simpa using e
    have D:b<L.length:=by simpa using u
    rw[List.getElem_set] at p n;split at p
    · rename_i hai
      split at n
      · omega
      · have F:L[b]?=V L[b]:=jj D
        rcases Q x p with m|m
        · exact l b _ F (by omega) x n m
        · have:=((h.mem F).2 x n).2
          have:=m.1;omega
    · rename_i hai
      have C:L[a]?=V L[a]:=jj B;split at n
      · rename_i hbi
        rcases Q x n with m|m
        · exact l a _ C (by omega) x p m
        · have:=((h.mem C).2 x p).2
          have:=m.1;omega
      · exact List.pairwise_iff_getElem.1 h.apart a b B D R x p n
theorem SH.sub{M:List Ch}(h:SH w0 w L)(b:M.Sublist L):SH w0 w M:=
  ⟨h.below,fun c a=>h.holds c (b.subset a),fun c a=>h.elder c (b.subset a),h.apart.sublist b⟩
theorem SH.old{α:Type}[qm α]{x:α}{cs:List Value}(h:SH w0 w L)(c:qm.R w0 (old w0) x cs):qm.R w (Fw.old w) x cs:=
  qm.mono (qm.loc c (fun b a=>h.below.block b a)) (fun _ a=>jx a h.below.size)
theorem SH.own{α:Type}[qm α]{x:α}{cs:List Value}{S:Nat->Prop}(i:Nat)(h:SH w0 w L)(hi:L[i]?=V (Ch.own S x cs)):qm.R w (Fw.old w) x cs:=
  qm.mono (qm.toR (h.mem hi).1) (fun b a=>((h.mem hi).2 b a).2)
def GK(L:List Ch):List Nat->List Ch
  | []=>[]
  |i::is=>match L[i]? with
    |some c=>c::GK L is
    |none=>GK L is
def HZ:List Nat->Bool
  | []=>An
  |i::is=>is.all (fun j=>!(Nat.beq i j))&&HZ is
theorem sX{c:Ch}:∀{is:List Nat},c∈GK L is->∃i∈is,L[i]?=V c
  | [],h=>by cases h
  |i::is,h=>by
    simp only[GK] at h;split at h
    · rename_i d hd
      rcases List.mem_cons.1 h with rfl|h
      · exact⟨i,by simp,hd⟩
      · obtain⟨j,b,a⟩:=sX h;exact⟨j,by simp[b],a⟩
    · obtain⟨j,b,a⟩:=sX h;exact⟨j,by simp[b],a⟩
theorem SH.p(is:List Nat)(h:SH w0 w L)(p:HZ is=An):SH w0 w (GK L is):=by
  refine⟨h.below,fun c a=>?_,fun c a=>?_,?_⟩
  · obtain⟨i,_,hi⟩:=sX a;exact h.mem hi
  · obtain⟨i,_,hi⟩:=sX a;exact h.elder c (jB hi)
  · induction is with
    |nil=>exact .nil
    |cons i is m=>
      simp only[HZ,je,Jc,jC] at p;have m:=m p.2;simp only[GK];split
      · rename_i c a
        refine List.pairwise_cons.2 ⟨fun d s b f g=>?_,m⟩;obtain⟨j,t,o⟩:=sX s;have r:i≠j:=by
          intro n;have:=p.1 j t;rw[n,Nat.beq_refl] at this;cases this
        obtain⟨k,rfl⟩:=List.getElem?_eq_some_iff.1 a;obtain⟨l,rfl⟩:=List.getElem?_eq_some_iff.1 o;rcases Nat.lt_or_gt_of_ne r with hlt|hlt
        · exact List.pairwise_iff_getElem.1 h.apart i j k l hlt b f g
        · exact List.pairwise_iff_getElem.1 h.apart j i l k hlt b g f
      · exact m
end
end Go.Fw


namespace Go.Fw
open Go
abbrev fy:=List (Nat×Value)
def fy.get:fy->Nat->Option Value
 | [],_=>U
 |p::e,j=>match Nat.beq p.1 j with
  |true=>V p.2
  |false=>fy.get e j
theorem HG{a b:Nat}(h:Nat.beq a b=An):a=b:=Nat.eq_of_beq_eq_true h
theorem P7(a:Nat):Nat.beq a a=An:=Nat.beq_refl a
def gg(e:fy):Operand->Option Value
 |.tmp t=>e.get t
 |.const v=>V v
 |.func f=>V (.func (.func f) #[] #[])
 |.global g=>V (.pointer (V ⟨g,0,U⟩))
structure gc(n:Nat)(e:fy)(a:Act):Prop where
 defers:a.defers=[]
 size:a.tmps.size=n
 at_:∀i v,e.get i=V v->a.tmps[i]?=V v
theorem gc.eval{n:Nat}{e:fy}{a:Act}(h:gc n e a){x:Operand}{v:Value}(b:gg e x=V v):a.eval x=v:=by
 cases x with
 |tmp t=>
  have:=h.at_ t v b;simp[Act.eval,Array.getD_eq_getD_getElem?,this]
 |const c=>simpa [gg,Act.eval] using b
 |global g=>simpa [gg,Act.eval] using b
 |func f=>simpa [gg,Act.eval] using b
theorem gc.put{n:Nat}{e:fy}{a:Act}(h:gc n e a){d:Nat}(g:Nat.blt d n=An)(v:Value):gc n ((d,v)::e) (a.put (V d) v):=by
 have f:d<n:=by simpa [Nat.blt_eq] using g
 refine⟨h.defers,by simp[Act.put,h.size],fun i u hi=>?_⟩;simp only[fy.get] at hi;simp only[Act.put,Array.getElem?_setIfInBounds];by_cases b:d=i
 .subst b;have c:Nat.beq d d=An:=P7 d;rw[c] at hi;simp only[Option.some.injEq] at hi;subst hi;simp[h.size,f]
 .have c:Nat.beq d i=Cd:=by
   cases hc:Nat.beq d i with
   |false=>rfl
   |true=>exact absurd (HG hc) b
  rw[c] at hi;rw[if_neg b];exact h.at_ i u hi
theorem gc.skip{n:Nat}{e:fy}{a:Act}(h:gc n e a)(v:Value):gc n e (a.put U v):=h
def FI(e:fy):fy->Prop
 | []=>True
 |p::l=>e.get p.1=V p.2/\FI e l
theorem gc.sub{n:Nat}{e e':fy}{a:Act}(h:gc n e a)(b:FI e e'):gc n e' a:=by
 refine⟨h.defers,h.size,?_⟩
 induction e' with
 |nil=>intro i v hi;cases hi
 |cons p l ih=>
  intro i v hi;simp only[fy.get] at hi;cases hb:Nat.beq p.1 i with
  |true=>
   rw[hb] at hi;simp only[Option.some.injEq] at hi;subst hi;have:p.1=i:=HG hb;subst this;exact h.at_ _ _ b.1
  |false=>
   rw[hb] at hi;exact ih b.2 i v hi
inductive It where
 |code (c:Code)
 |ops (all:Array Oper) (rest:List Oper)
 |blk (id:Nat)
 |goal (J:Act->World->Prop)
def post(P:Program)(Q:Exit->Act->World->Prop):List It->Exit->Act->World->Prop
 | []=>Q
 |.code c::k=>Exit.then (fun a w=>c.wp P (post P Q k) a w) (post P Q k)
 |.ops all l::k=>Exit.then (fun a w=>wpList P all (post P Q k) l a w) (post P Q k)
 |.blk id::k=>Exit.inBlock id (post P Q k)
 |.goal J::k=>Exit.then J (post P Q k)
def bu(P:Program)(n:Nat)(Q:Exit->Act->World->Prop)(k:List It)(e:fy)(w:World):Prop:=
 ∀a,gc n e a->post P Q k .normal a w
section
variable{P:Program}{n:Nat}{Q:Exit->Act->World->Prop}{k:List It}{e e':fy}{w w':World}
theorem W8(e':fy)(c:FI e e')(h:bu P n Q k e' w):bu P n Q k e w:=fun a b=>h a (b.sub c)
theorem au{x y:Code}(h:bu P n Q (.code x::.code y::k) e w):bu P n Q (.code (.seq x y)::k) e w:=
 fun a b=>wp_seq (h a b)
theorem ez(h:bu P n Q k e w):bu P n Q (.code .skip::k) e w:=
 fun a b=>wp_skip (h a b)
theorem qr{id:Nat}{c:Code}(h:bu P n Q (.code c::.blk id::k) e w):bu P n Q (.code (.block id c)::k) e w:=
 fun a b=>wp_block (h a b)
theorem WF{id:Nat}(h:bu P n Q k e w):bu P n Q (.blk id::k) e w:=fun a b=>h a b
def WE(id:Nat):List It->Option (List It)
 | []=>U
 |.blk i::k=>match Nat.beq id i with
  |true=>V k
  |false=>WE id k
 |_::k=>WE id k
theorem L4{id:Nat}{k d:List It}(b:WE id k=V d){a:Act}{w:World}(h:post P Q d .normal a w):post P Q k (.exit id) a w:=by
 induction k with
 |nil=>cases b
 |cons x k ih=>
  cases x with
  |blk i=>
   simp only[WE] at b;simp only[post,Exit.inBlock];cases hb:Nat.beq id i with
   |true=>
    rw[hb] at b;simp only[Option.some.injEq] at b;subst b;rw[if_pos (HG hb)];exact h
   |false=>
    rw[hb] at b;rw[if_neg (fun f=>by rw[f,P7 i] at hb;cases hb)];exact ih b
  |code c=>exact ih b
  |ops all l=>exact ih b
  |goal J=>exact ih b
theorem qx{id:Nat}{b:List It}(d:WE id k=V b)(h:bu P n Q b e w):bu P n Q (.code (.exit id)::k) e w:=
 fun a c=>wp_exit (L4 d (h a c))
theorem W0{k:List It}{a:Act}{w:World}(h:Q .ret a w):post P Q k .ret a w:=by
 induction k with
 |nil=>exact h
 |cons x k ih=>cases x<;>exact ih
theorem QQ(h:∀a,gc n e a->Q .ret a w):bu P n Q (.code .ret::k) e w:=
 fun a b=>wp_ret (W0 (h a b))
theorem qdm(h:∀a,gc n e a->Q .normal a w):bu P n Q [] e w:=h
theorem ae{id:Nat}{ops:List Oper}(h:bu P n Q (.ops ops.toArray ops::k) e w):bu P n Q (.code (.region id ops.toArray Cd)::k) e w:=by
 intro a b;have:=h a b;refine wp_region ?_;have c:=wpOps_eq_wpList (P:=P) (ops:=ops.toArray) (Q:=post P Q k) ops 0 (by simp);rw[show List.range ops.toArray.size=List.range' 0 ops.length from by simp[List.range_eq_range']];rw[c];exact this
theorem ac{all:Array Oper}(h:bu P n Q k e w):bu P n Q (.ops all []::k) e w:=fun a b=>h a b
theorem uH{c:Operand}{x y:Code}{b:Bool}(f:gg e c=V (.bool b))(i:b=An->bu P n Q (.code x::k) e w)(g:b=Cd->bu P n Q (.code y::k) e w) :
  bu P n Q (.code (.cond c x y)::k) e w:=
 fun a d=>wp_cond_split (d.eval f) (fun h=>i h a d) (fun h=>g h a d)
theorem eI{c:Operand}{x y:Code}{b:Bool}(g:gg e c=V (.bool b))(f:b=An)(h:bu P n Q (.code x::k) e w) :
  bu P n Q (.code (.cond c x y)::k) e w:=
 fun a d=>wp_cond_true (by rw[d.eval g,f]) (h a d)
theorem ch{c:Operand}{x y:Code}{b:Bool}(g:gg e c=V (.bool b))(f:b=Cd)(h:bu P n Q (.code y::k) e w) :
  bu P n Q (.code (.cond c x y)::k) e w:=
 fun a d=>wp_cond_false (by rw[d.eval g,f]) (h a d)
open Classical in
theorem ZS{c:Code}{a:Act}(Inv:Nat->Act->World->Prop)(m:Nat)(s:Inv m a w)
  (i:∀m a w,Inv m a w->c.wp P (Exit.then (fun o w'=>∃b,b<m/\Inv b o w') Q) a w):(Code.loop c).wp P Q a w:=by
 have d:∀a w,(∃m,Inv m a w)->∃m,Inv m a w/\∀b,Inv b a w->m<=b:=by
  intro a w ⟨m,v⟩
  induction m using Nat.strongRecOn with
  |_ m ih=>
   by_cases h:∃b,b<m/\Inv b a w
   .obtain⟨b,t,u⟩:=h;exact ih b t u
   .exact⟨m,v,fun b f=>Nat.le_of_not_lt fun g=>h ⟨b,g,f⟩⟩
 refine wp_loop (fun a w=>∃m,Inv m a w) (fun a w=>if h:∃m,Inv m a w then Classical.choose (d a w h) else 0) ⟨m,s⟩ ?_;intro a w r;have x:=Classical.choose_spec (d a w r);refine wp_mono (i _ a w x.1) ?_;intro ex o w' k;cases ex with
 |normal=>
  obtain⟨b,g,f⟩:=k;refine⟨⟨b,f⟩,?_⟩;have n:∃m,Inv m o w':=⟨b,f⟩;have p:=Classical.choose_spec (d o w' n);rw[dif_pos n,dif_pos r];exact Nat.lt_of_le_of_lt (p.2 b f) g
 |exit id=>exact k
 |goto l=>exact k
 |ret=>exact k
 |panic c=>exact k
 |outgrown=>exact k
def qag(n:Nat)(Inv:Nat->fy->World->Prop)(m:Nat)(a:Act)(w:World):Prop:=∃m' e,m'<m/\gc n e a/\Inv m' e w
theorem YZ{b:Code}(Inv:Nat->fy->World->Prop)(m:Nat)(h:Inv m e w)
  (d:∀m e w,Inv m e w->bu P n Q (.code b::.goal (qag n Inv m)::k) e w):bu P n Q (.code (.loop b)::k) e w:=by
 intro a g;refine ZS (fun m a w=>∃e,gc n e a/\Inv m e w) m ⟨e,g,h⟩ ?_;rintro m a w ⟨e,g,r⟩;refine wp_mono (d m e w r a g) ?_;intro ex t w' f;cases ex with
 |normal=>obtain⟨s,e',i,o,p⟩:=f;exact⟨s,i,e',o,p⟩
 |exit id=>exact f
 |goto l=>exact f
 |ret=>exact f
 |panic c=>exact f
 |outgrown=>exact f
theorem YX{Inv:Nat->fy->World->Prop}{m:Nat}(a:Nat)(e':fy)(c:a<m)(d:FI e e')(h:Inv a e' w):bu P n Q (.goal (qag n Inv m)::k) e w:=
 fun _ b=>⟨a,e',c,b.sub d,h⟩
theorem CC{all:Array Oper}{o:Oper}{l:List Oper}{d:Nat}{v:Value}(f:o.guard=U)(c:o.dst=V d)(i:Nat.blt d n=An)
  (h:∀a,gc n e a->(execOp a.eval o).run P w=.ok (.value v) w') (g:bu P n Q (.ops all l::k) ((d,v)::e) w'):bu P n Q (.ops all (o::l)::k) e w:=by
 intro a b;show wpList P all (post P Q k) (o::l) a w;have m:Region.wanted o (yielded all a.tmps)=An:=by simp[Region.wanted,f]
 rw[wpList,if_pos m];refine .inl ?_;unfold Oper.wp;rw[h a b,Oper.upon_value,c];exact g _ (b.put i v)
theorem ZA{all:Array Oper}{o:Oper}{l:List Oper}(d:o.guard=U)(c:o.dst=U)
  (h:∀a,gc n e a->(execOp a.eval o).run P w=.ok .skip w') (f:bu P n Q (.ops all l::k) e w'):bu P n Q (.ops all (o::l)::k) e w:=by
 intro a b;show wpList P all (post P Q k) (o::l) a w;have g:Region.wanted o (yielded all a.tmps)=An:=by simp[Region.wanted,d]
 rw[wpList,if_pos g];refine .inl ?_;unfold Oper.wp;rw[h a b,Oper.upon_skip,c];exact f _ b
theorem zD{all:Array Oper}{o:Oper}{l:List Oper}{d:Nat}{f:FuncId}{b:Array Value}{R:Value->World->Prop}(p:o.guard=U)(m:o.dst=V d)(s:Nat.blt d n=An)
  (h:∀a,gc n e a->(execOp a.eval o).run P w=.ok (.enter f b) w)
  (i:Calls P f b w fun e w'=>∃v,e=.returned v/\R v w')
  (r:∀v w',R v w'->bu P n Q (.ops all l::k) ((d,v)::e) w'):bu P n Q (.ops all (o::l)::k) e w:=by
 intro a c;show wpList P all (post P Q k) (o::l) a w;have t:Region.wanted o (yielded all a.tmps)=An:=by simp[Region.wanted,p]
 rw[wpList,if_pos t];refine .inl ?_;unfold Oper.wp;rw[h a c,Oper.upon_enter];refine i.mono ?_;rintro e' w' ⟨v,rfl,g⟩;show wpList P all (post P Q k) l (a.put o.dst v) w';rw[m];exact r v w' g _ (c.put s v)
def zh(e:fy)(all:Array Oper)(o:Oper):Option Bool:=
 match o.guard with
 |none=>V An
 |some (j,want)=>
  match all[j]? with
  |none=>U
  |some p=>
   match p.dst with
   |none=>U
   |some t=>
    match e.get t with
    |some (.bool b)=>V (match b,want with|true,An=>An|false,Cd=>An|_,_=>Cd)
    |_=>U
theorem zi{all:Array Oper}{o:Oper}{a:Act}{b:Bool}(f:gc n e a)(h:zh e all o=V b):Region.wanted o (yielded all a.tmps)=b:=by
 unfold zh at h;unfold Region.wanted;split at h
 .rename_i hg
  rw[hg];simpa using h
 .rename_i j want hg
  rw[hg];simp only;split at h
  .cases h
  .rename_i p hp
   split at h
   .cases h
   .rename_i t ht
    split at h
    .rename_i c hc
     have d:=f.at_ t _ hc;have g:yielded all a.tmps j=V c:=by
      simp[yielded,hp,ht,d]
     rw[g];simp only[Option.some.injEq] at h;rw[<-h];cases c<;>cases want<;>rfl
    .cases h
theorem W9{all:Array Oper}{o:Oper}{l:List Oper}(h:zh e all o=V An)
  (f:bu P n Q (.ops all ({ o with guard:=U }::l)::k) e w):bu P n Q (.ops all (o::l)::k) e w:=by
 intro a c;have d:=f a c;show wpList P all (post P Q k) (o::l) a w;have b:wpList P all (post P Q k) ({ o with guard:=U }::l) a w:=d;have g:=zi c h;rw[wpList,if_pos g];rw[wpList,if_pos (by simp[Region.wanted])] at b;exact b
end

inductive TK where
 |int (k:IntKind)|bool|str|ptr|slice (e:Nat)|struct|arr (n e:Nat)|other
 deriving DecidableEq
structure TE where
 kind:TK
 size:Nat
 bytes:Nat
 zero:Option Value
 fields:List (Nat×Nat×Option Bool)
def TE.agg(t:TE):Bool:=match t.kind with|.struct=>An|.arr _ _=>An|_=>Cd
def RM(P:Program)(t:TypeId):Option Bool:=(P.underlying t).map fun|.struct _=>An|.array _ _=>An|_=>Cd
def qb3(P:Program)(t:TypeId):Bool:=match P.underlying t with|some (.struct _)|some (.array _ _)=>An|_=>Cd
def ut(P:Program)(t:TypeId):Option TE:=
 match P.info? t,P.underlying t with
 |some i,V d=>V {
   kind:=match d with|.int k=>.int k|.bool=>.bool|.string=>.str|.pointer _=>.ptr|.slice e=>.slice e|.struct _=>.struct|.array n e=>.arr n e|_=>.other
   size:=i.size
   bytes:=i.bytes
   zero:=i.zero
   fields:=match d with|.struct fs=>fs.toList.map (fun f=>(f.offset,P.cellsOf f.type,RM P f.type))|_=>[] }
 |_,_=>U
abbrev uV:=List (Nat×TE)
def uV.get:uV->Nat->Option TE
 | [],_=>U
 |p::e,j=>match Nat.beq p.1 j with
  |true=>V p.2
  |false=>uV.get e j
def cv(P:Program)(T:uV):Prop:=∀t x,T.get t=V x->ut P t=V x
theorem cv.mk{P:Program}:∀{T:uV},T.map (fun p=>ut P p.1)=T.map (fun p=>V p.2)->cv P T
 | [],_=>fun _ _ h=>by cases h
 |p::T,h=>by
  simp only[Jf,List.cons.injEq] at h;intro t x a;simp only[uV.get] at a;cases hb:Nat.beq p.1 t with
  |true=>
   rw[hb] at a;simp only[Option.some.injEq] at a;rw[<-HG hb,h.1,a]
  |false=>
   rw[hb] at a;exact cv.mk h.2 t x a
section
variable{P:Program}{T:uV}
theorem pI{t:TypeId}{x:TE}(h:ut P t=V x):∃i,P.info? t=V i/\i.size=x.size/\i.bytes=x.bytes/\i.zero=x.zero:=by
 unfold ut at h;split at h
 .rename_i i d hi hd
  simp only[Option.some.injEq] at h;subst h;exact⟨i,hi,Z,Z,Z⟩
 .cases h
theorem oI{t:TypeId}{x:TE}(h:ut P t=V x):∃d,P.underlying t=V d/\x.kind=(match d with|.int k=>.int k|.bool=>.bool|.string=>.str|.pointer _=>.ptr|.slice e=>.slice e|.struct _=>.struct|.array n e=>.arr n e|_=>.other):=by
 unfold ut at h;split at h
 .rename_i i d hi hd
  simp only[Option.some.injEq] at h;subst h;exact⟨d,hd,Z⟩
 .cases h
theorem mE{t e:TypeId}{x:TE}(h:ut P t=V x)(c:x.kind=.slice e):P.underlying t=V (.slice e):=by
 obtain⟨d,b,a⟩:=oI h;rw[c] at a;rw[b];cases d<;>simp at a;rw[a]
theorem IE{t:TypeId}{x:TE}(h:ut P t=V x)(c:x.kind=.str):P.underlying t=V .string:=by
 obtain⟨d,b,a⟩:=oI h;rw[c] at a;rw[b];cases d<;>simp at a
 rfl
theorem YW{t:TypeId}{x:TE}(h:ut P t=V x)(c:x.kind=.bool):P.underlying t=V .bool:=by
 obtain⟨d,b,a⟩:=oI h;rw[c] at a;rw[b];cases d<;>simp at a
 rfl
theorem QN{t:TypeId}{x:TE}{k:IntKind}(h:ut P t=V x)(c:x.kind=.int k):P.underlying t=V (.int k):=by
 obtain⟨d,b,a⟩:=oI h;rw[c] at a;rw[b];cases d<;>simp at a;rw[a]
theorem L5{t:TypeId}{x:TE}(h:ut P t=V x):qb3 P t=x.agg:=by
 obtain⟨d,a,b⟩:=oI h;unfold qb3 TE.agg;rw[a,b];cases d<;>rfl
theorem M5{t:TypeId}{x:TE}(h:ut P t=V x)(w:World):(isAgg t).run P w=.ok x.agg w:=by
 rw[<-L5 h];obtain⟨d,a,_⟩:=oI h;unfold isAgg qb3;simp only[jk,run_underlying a,ji,a];cases d<;>rfl
theorem uI{t:TypeId}{x:TE}(h:ut P t=V x)(w:World):(sizeOf t).run P w=.ok x.size w:=by
 obtain⟨i,hi,a,_⟩:=pI h;simp[sizeOf,typeInfo,hi,a]
theorem zz{t:TypeId}{x:TE}(h:ut P t=V x){f cG k:Nat}{c:Option Bool}(g:x.fields[f]?=V (cG,k,c)) :
  ∃fs a,P.underlying t=V (.struct fs)/\fs[f]?=V a/\a.offset=cG/\P.cellsOf a.type=k/\RM P a.type=c:=by
 unfold ut at h;split at h
 .rename_i i d hi hd
  simp only[Option.some.injEq] at h;subst h;cases d<;>simp at g
  rename_i fs
  obtain⟨a,b,l,m,n⟩:=g;exact⟨fs,a,hd,by simpa using b,l,m,n⟩
 .cases h
def qcq(op:BinOp)(k:IntKind)(a b:Int):Option Value:=
 match op with
 |.add=>V (.int k (k.wrap (a+b)))
 |.sub=>V (.int k (k.wrap (a-b)))
 |.mul=>V (.int k (k.wrap (a*b)))
 |.eql=>V (.bool (a==b))
 |.neq=>V (.bool (a != b))
 |.lss=>V (.bool (decide (a<b)))
 |.leq=>V (.bool (decide (a<=b)))
 |.gtr=>V (.bool (decide (a > b)))
 |.geq=>V (.bool (decide (a>=b)))
 |.quo=>match b with
  |.ofNat (m+1)=>V (.int k (k.wrap (a.tdiv (.ofNat (m+1)))))
  |_=>U
 |.rem=>match b with
  |.ofNat (m+1)=>V (.int k (a.tmod (.ofNat (m+1))))
  |_=>U
 |_=>U
theorem X7{op:BinOp}{k:IntKind}{a b:Int}{v:Value}(h:qcq op k a b=V v)(t:TypeId)(w:World):(binOp op t (.int k a) (.int k b)).run P w=.ok v w:=by
 cases op<;>simp only[qcq,Option.some.injEq] at h
 case quo=>
  split at h
  .simp only[Option.some.injEq] at h;subst h;rw[binOp];simp only[Op.intDiv,Int.ofNat_eq_natCast,ne_eq,not_true_eq_false,if_false];rw[if_neg (by omega)]
   rfl
  .cases h
 case rem=>
  split at h
  .simp only[Option.some.injEq] at h;subst h;rw[binOp];simp only[Op.intDiv,Int.ofNat_eq_natCast,ne_eq,not_true_eq_false,if_false];rw[if_neg (by omega)]
   rfl
  .cases h
 all_goals first
  |(subst h;simp[binOp,Op.intArith,Op.intCmp];done)
  |cases h
def qb7(op:BinOp)(a b:Bool):Option Value:=
 match op with
 |.eql=>V (.bool (a==b))
 |.neq=>V (.bool (!(a==b)))
 |_=>U
def qcO(op:BinOp)(a b:ByteArray):Option Value:=
 match op with
 |.eql=>V (.bool (a.toList==b.toList))
 |.neq=>V (.bool (a.toList != b.toList))
 |_=>U
def pk(e:fy):List Operand->Option (List Value)
 | []=>V []
 |x::l=>match gg e x,pk e l with
  |some v,V vs=>V (v::vs)
  |_,_=>U
theorem uG{n:Nat}{e:fy}{a:Act}(c:gc n e a):∀{l:List Operand} {b:List Value},pk e l=V b->l.map a.eval=b
 | [],b,h=>by simp only[pk,Option.some.injEq] at h;subst h;rfl
 |x::l,b,h=>by
  simp only[pk] at h;split at h
  .rename_i v ws hv hws
   simp only[Option.some.injEq] at h;subst h;rw[Jf,c.eval hv,uG c hws]
  .cases h
def OV(op:Builtin)(d:List Value):Option Value:=
 match op,d with
 |.min,[.int k a,.int _ b]=>V (.int k (if b<a then b else a))
 |.max,[.int k a,.int _ b]=>V (.int k (if b > a then b else a))
 |.min,[.int k a,.int _ b,.int _ c]=>V (.int k (if c<(if b<a then b else a) then c else(if b<a then b else a)))
 |.max,[.int k a,.int _ b,.int _ c]=>V (.int k (if c > (if b > a then b else a) then c else(if b > a then b else a)))
 |.len,[.slice _ l _]=>V (.int .i64 l)
 |.len,[.string s]=>V (.int .i64 s.size)
 |.cap,[.slice _ _ c]=>V (.int .i64 c)
 |_,_=>U
def bc(v:Value):List Value:=
 match v with
 |.agg cs=>cs.toList
 |v=>[v]
def SD(T:uV)(a:List TypeId)(b:List Value):Bool:=
 match a,b with
 | [t],[.slice _ _ _]=>match T.get t with|some x=>(match x.kind with|.slice _=>An|_=>Cd)|none=>Cd
 | [t],[.string _]=>match T.get t with|some x=>(match x.kind with|.str=>An|_=>Cd)|none=>Cd
 |_,_=>Cd
def vj(T:uV)(e:fy)(o:Op):Option Value:=
 match o with
 |.move x|.assign x=>gg e x
 |.pick c a b=>match gg e c with
  |some (.bool An)=>gg e a
  |some (.bool Cd)=>gg e b
  |_=>U
 |.binOp op t x y _=>match gg e x,gg e y with
  |some (.int k a),V (.int k' b)=>match decEq k k' with
   |.isTrue _=>qcq op k a b
   |.isFalse _=>U
  |some (.bool a),V (.bool b)=>match T.get t with
   |some te=>match te.kind with|.bool=>qb7 op a b|_=>U
   |none=>U
  |some (.string a),V (.string b)=>qcO op a b
  |_,_=>U
 |.unOp .not _ x=>match gg e x with
  |some (.bool b)=>V (.bool (!b))
  |_=>U
 |.unOp .neg _ x=>match gg e x with
  |some (.int k a)=>V (.int k (k.wrap (0-a)))
  |_=>U
 |.fieldAddr t x f=>match gg e x,T.get t with
  |some (.pointer (V ⟨b,o,U⟩)),V te=>match te.fields[f]? with
   |some (cG,sz,_)=>match sz with
    |0=>U
    |_+1=>V (.pointer (V ⟨b,o+cG,U⟩))
   |none=>U
  |_,_=>U
 |.field t x f=>match gg e x,T.get t with
  |some (.agg cs),V te=>match te.fields[f]? with
   |some (cG,sz,V An)=>V (.agg (cs.extract cG (cG+sz)))
   |some (cG,_,V Cd)=>cs.toList[cG]?
   |_=>U
  |_,_=>U
 |.extract x i=>match gg e x with
  |some (.tuple vs)=>vs.toList[i]?
  |_=>U
 |.nilCheck x=>match gg e x with
  |some (.pointer (V a))=>V (.pointer (V a))
  |some (.func (.func f) x y)=>V (.func (.func f) x y)
  |_=>U
 |.makeFunc fn first cap=>match pk e first.toList,pk e cap.toList with
  |some vs,V us=>V (.func fn vs.toArray us.toArray)
  |_,_=>U
 |.convert s d x=>match gg e x,T.get s,T.get d with
  |some (.int _ a),V _,V te=>match te.kind with
   |.int k=>V (.int k (k.wrap a))
   |_=>U
  |_,_,_=>U
 |.call c=>match c.callee with
  |.builtin b=>match pk e c.args.toList with
   |some vs=>match b with
    |.len=>match SD T c.argTypes.toList vs with|true=>OV .len vs|false=>U
    |.min=>OV .min vs
    |.max=>OV .max vs
    |_=>U
   |none=>U
  |_=>U
 |_=>U
theorem rd{n:Nat}{e:fy}{a:Act}(c:gc n e a){xs:Array Operand}{b:List Value}(h:pk e xs.toList=V b):xs.map a.eval=b.toArray:=by
 have:=uG c h;apply Array.ext';simpa using this
theorem sN(op:BinOp)(t:TypeId)(x y:Operand)(k c:IntKind)(a b:Int)(w:World):(eqGuard op t x y (.int k a) (.int c b)).run P w=.ok () w:=by
 unfold eqGuard;split<;>rfl
theorem RV(op:BinOp)(t:TypeId)(x y:Operand)(a b:Bool)(w:World):(eqGuard op t x y (.bool a) (.bool b)).run P w=.ok () w:=by
 unfold eqGuard;split<;>rfl
theorem KF(op:BinOp)(t:TypeId)(x y:Operand)(a b:ByteArray)(w:World):(eqGuard op t x y (.string a) (.string b)).run P w=.ok () w:=by
 unfold eqGuard;split<;>rfl
theorem IF(d:Nat){t:TypeId}(c:P.underlying t=V .bool)(a b:Bool)(w:World):(Op.equalIn (d+1) t (.bool a) (.bool b)).run P w=.ok (a==b) w:=by
 simp[Op.equalIn,run_underlying c]
theorem X6{op:BinOp}{t:TypeId}(d:P.underlying t=V .bool){a b:Bool}{v:Value}(h:qb7 op a b=V v)(w:World):(binOp op t (.bool a) (.bool b)).run P w=.ok v w:=by
 have c:(Op.equal t (.bool a) (.bool b)).run P w=.ok (a==b) w:=by
  simp only[Op.equal,Op.maxDepth];exact IF 9999 d a b w
 cases op<;>simp only[qb7,Option.some.injEq] at h
 case eql=>subst h;rw[binOp]<;>first|(intros;contradiction)|simp only[jk,c,ji,jm]
 case neq=>subst h;rw[binOp]<;>first|(intros;contradiction)|simp only[jk,c,ji,jm]
 all_goals cases h
theorem X8{op:BinOp}{t:TypeId}{a b:ByteArray}{v:Value}(h:qcO op a b=V v)(w:World):(binOp op t (.string a) (.string b)).run P w=.ok v w:=by
 cases op<;>simp only[qcO,Option.some.injEq] at h
 case eql=>subst h;simp[binOp,Op.stringOp]
 case neq=>subst h;simp[binOp,Op.stringOp,bne]
 all_goals cases h
theorem GT{t:TypeId}{b:Bool}(h:RM P t=V b)(w:World):(isAgg t).run P w=.ok b w:=by
 unfold RM at h;unfold isAgg;cases hd:P.underlying t with
 |none=>rw[hd] at h;simp at h
 |some d=>rw[hd] at h;simp only[Option.map_some,Option.some.injEq] at h;simp only[jk,run_underlying hd,ji];cases d<;>subst h<;>rfl
theorem OY{t:TypeId}{m:Nat}(h:P.cellsOf t=m+1)(w:World):(sizeOf t).run P w=.ok (m+1) w:=by
 unfold Program.cellsOf at h;cases hi:P.info? t with
 |none=>rw[hi] at h;simp at h
 |some i=>rw[hi] at h;simp at h;simp[sizeOf,typeInfo,hi,h]
theorem KH{t:TypeId}{b:Bool}{c:Nat}(a:RM P t=V b)(h:P.cellsOf t=c)(w:World):(sizeOf t).run P w=.ok c w:=by
 unfold RM Program.underlying at a;unfold Program.cellsOf at h;cases hi:P.info? t with
 |none=>rw[hi] at a;simp at a
 |some i=>rw[hi] at h;simp at h;simp[sizeOf,typeInfo,hi,h]
theorem WI(n:cv P T){t:TypeId}{h:TE}{f cG m:Nat}{i:Option Bool}(d:T.get t=V h)(p:h.fields[f]?=V (cG,m+1,i))(b o:Nat)(w:World) :
  (Instr.fieldAt t (.pointer (V ⟨b,o,U⟩)) f).run P w=.ok (.pointer (V ⟨b,o+cG,U⟩)) w:=by
 obtain⟨u,s,r,a,k,l,v⟩:=zz (n _ _ d) p;have c:=OY l w;simp only[Instr.fieldAt,jk,run_underlying r,ji,a,Instr.sureAddr,jm,fieldPlace,c,Nat.succ_ne_zero,if_false,k,Addr.add];by_cases g:cG=0
 .simp[g]
 .simp[g]
theorem SV(k:cv P T){t:TypeId}{g:TE}{f cG d:Nat}(b:T.get t=V g)(l:g.fields[f]?=V (cG,d,V An))(cs:Array Value)(w:World) :
  (Instr.field t (.agg cs) f).run P w=.ok (.agg (cs.extract cG (cG+d))) w:=by
 obtain⟨o,n,m,a,h,i,c⟩:=zz (k _ _ b) l;simp[Instr.field,run_underlying m,a,asAgg,part,GT c,KH c i,h]
theorem SW(i:cv P T){t:TypeId}{d:TE}{f cG n:Nat}(c:T.get t=V d)(k:d.fields[f]?=V (cG,n,V Cd)){cs:Array Value}{v:Value}(m:cs.toList[cG]?=V v)(w:World) :
  (Instr.field t (.agg cs) f).run P w=.ok v w:=by
 obtain⟨p,o,l,b,g,r,h⟩:=zz (i _ _ c) k;have a:cs[cG]?=V v:=by simpa using m
 simp[Instr.field,run_underlying l,b,asAgg,part,GT h,g,a]
theorem qbd(i:cv P T){d:Array TypeId}{g:List Value}{v:Value}(a:SD T d.toList g=An)(h:OV .len g=V v)(t:TypeId)(w:World) :
  (Builtin.len_ d t g.toArray).run P w=.ok v w:=by
 unfold SD at a;split at a
 .rename_i t' p l c hts
  simp only[OV,Option.some.injEq] at h;subst h;split at a
  .rename_i x hx
   split at a
   .rename_i e he
    have f:=mE (i _ _ hx) he;have b:d[0]?=V t':=by rw[<-Array.getElem?_toList,hts];rfl
    simp[Builtin.len_,b,run_underlying f,goInt]
   .cases a
  .cases a
 .rename_i t' s hts
  simp only[OV,Option.some.injEq] at h;subst h;split at a
  .rename_i x hx
   split at a
   .rename_i he
    have f:=IE (i _ _ hx) he;have b:d[0]?=V t':=by rw[<-Array.getElem?_toList,hts];rfl
    simp[Builtin.len_,b,run_underlying f,goInt]
   .cases a
  .cases a
 .cases a
theorem qbf{a:List Value}{v:Value}(h:OV .min a=V v)(b:Array TypeId)(t:TypeId)(w:World):(Builtin.min_ b t a.toArray).run P w=.ok v w:=by
 unfold OV at h;split at h<;>first|cases h;done|skip
 .simp only[Option.some.injEq] at h;subst h;simp[Builtin.min_,Builtin.min2]
 .rename_i hh;cases hh
 .simp only[Option.some.injEq] at h;subst h;simp[Builtin.min_,Builtin.min2]
 all_goals (rename_i hh;first|cases hh;done|skip)
theorem qbe{a:List Value}{v:Value}(h:OV .max a=V v)(b:Array TypeId)(t:TypeId)(w:World):(Builtin.max_ b t a.toArray).run P w=.ok v w:=by
 unfold OV at h;split at h<;>first|cases h;done|skip
 .rename_i hh;cases hh
 .simp only[Option.some.injEq] at h;subst h;simp[Builtin.max_,Builtin.max2]
 .rename_i hh;cases hh
 .simp only[Option.some.injEq] at h;subst h;simp[Builtin.max_,Builtin.max2]
 all_goals (rename_i hh;first|cases hh;done|skip)
section
variable{n:Nat}{e:fy}{a:Act}
theorem K6(d:cv P T)(b:gc n e a){o:Oper}{v:Value}{op:BinOp}{t:TypeId}{x y:Operand}{c:TypeId}(f:o.op=.binOp op t x y c)(h:vj T e (.binOp op t x y c)=V v)(w:World) :
  (execOp a.eval o).run P w=.ok (.value v) w:=by
 unfold execOp;simp only[f];simp only[vj] at h;split at h
 .rename_i k i k' j hx hy
  split at h
  .rename_i hk _
   subst hk;simp only[b.eval hx,b.eval hy,jk,sN,ji,X7 h,jm]
  .cases h
 .rename_i i j hx hy
  split at h
  .rename_i te hte
   split at h
   .rename_i hk
    simp only[b.eval hx,b.eval hy,jk,RV,ji,X6 (YW (d _ _ hte) hk) h,jm]
   .cases h
  .cases h
 .rename_i i j hx hy
  simp only[b.eval hx,b.eval hy,jk,KF,ji,X8 h,jm]
 .cases h
theorem V7(i:cv P T)(k:gc n e a){o:Oper}{v:Value}{c:Call}(l:o.op=.call c)(h:vj T e (.call c)=V v)(w:World) :
  (execOp a.eval o).run P w=.ok (.value v) w:=by
 obtain⟨g,d,f⟩:=c;unfold execOp;simp only[l];simp only[vj] at h;split at h
 .split at h
  .rename_i vs hvs
   have b:=rd k hvs;simp only[resolve,invoke,builtin,jk,jm,ji,b];split at h
   .split at h
    .rename_i hk
     simp only[qbd i hk h,jk,jm,ji]
    .cases h
   .simp only[qbf h,jk,jm,ji]
   .simp only[qbe h,jk,jm,ji]
   .cases h
  .cases h
 .cases h
theorem V8(l:cv P T)(g:gc n e a){o:Oper}{v:Value}(h:vj T e o.op=V v)(w:World) :
  (execOp a.eval o).run P w=.ok (.value v) w:=by
 generalize ho:o.op=op at h;cases op with
 |binOp op t x y t'=>exact K6 l g ho h w
 |call c=>exact V7 l g ho h w
 |move x=>simp only[vj] at h;simp[execOp,ho,g.eval h]
 |assign x=>simp only[vj] at h;simp[execOp,ho,g.eval h]
 |pick c x y=>
  simp only[vj] at h;split at h
  .rename_i hc;simp[execOp,ho,g.eval hc,g.eval h,asBool]
  .rename_i hc;simp[execOp,ho,g.eval hc,g.eval h,asBool]
  .cases h
 |unOp op t x=>
  cases op<;>simp only[vj] at h
  case neg=>
   split at h
   .rename_i hb;simp only[Option.some.injEq] at h;subst h;simp[execOp,ho,g.eval hb,Op.unary,Op.intArith]
   .cases h
  case not=>
   split at h
   .rename_i hb;simp only[Option.some.injEq] at h;subst h;simp[execOp,ho,g.eval hb,Op.unary]
   .cases h
  all_goals cases h
 |fieldAddr t x f=>
  simp only[vj] at h;split at h
  .rename_i b o' te hb hte
   split at h
   .rename_i cG sz ag hf
    split at h
    .cases h
    .simp only[Option.some.injEq] at h;subst h;simp[execOp,ho,g.eval hb,WI l hte hf]
   .cases h
  .cases h
 |field t x f=>
  simp only[vj] at h;split at h
  .rename_i cs te hb hte
   split at h
   .rename_i cG sz hf
    simp only[Option.some.injEq] at h;subst h;simp[execOp,ho,g.eval hb,SV l hte hf]
   .rename_i cG sz hf
    simp[execOp,ho,g.eval hb,SW l hte hf h]
   .cases h
  .cases h
 |extract x i=>
  simp only[vj] at h;split at h
  .rename_i vs hb
   have m:vs[i]?=V v:=by simpa using h
   simp[execOp,ho,g.eval hb,Instr.extract,m]
  .cases h
 |nilCheck x=>
  simp only[vj] at h;split at h
  .rename_i ad hb
   simp only[Option.some.injEq] at h;subst h;simp[execOp,ho,g.eval hb]
  .rename_i f x y hb
   simp only[Option.some.injEq] at h;subst h;simp[execOp,ho,g.eval hb]
  .cases h
 |makeFunc fn x y=>
  simp only[vj] at h;split at h
  .rename_i vs us hv r
   simp only[Option.some.injEq] at h;subst h;simp[execOp,ho,Instr.makeFunc,rd g hv,rd g r]
  .cases h
 |convert s d x=>
  simp only[vj] at h;split at h
  .rename_i k i ts te hx hs hd
   split at h
   .rename_i k' hk
    simp only[Option.some.injEq] at h;subst h;have r:=QN (l _ _ hd) hk;obtain⟨u,p,_⟩:=oI (l _ _ hs);simp only[execOp,ho,g.eval hx,convert,jk,run_underlying r,run_underlying p,ji,Conv.intToInt,jm]
   .cases h
  .cases h
 |_=>cases h
end
theorem ma(b:cv P T){n:Nat}{Q:Exit->Act->World->Prop}{k:List It}{e:fy}{w:World}{all:Array Oper}{l:List Oper}{op:Op}{d t:Nat}{ps:String}{a:Array Edge}{v:Value}
  (h:vj T e op=V v) (g:Nat.blt d n=An) (f:bu P n Q (.ops all l::k) ((d,v)::e) w):bu P n Q (.ops all (⟨V d,op,t,ps,a,U⟩::l)::k) e w:=
 CC Z Z g (fun _ c=>V8 b c h w) f
end
end Go.Fw


namespace Go.Fw
open Go
open Go.RowKit (Below)
def qF{α:Type}(xs:List α)(i:Int):Option α:=if 0<=i then xs[i.toNat]? else U
theorem bH{α:Type}{xs:List α}{i:Int}{x:α}(h:qF xs i=V x):0<=i/\i<xs.length/\xs[i.toNat]?=V x:=by
 unfold qF at h;split at h
 .rename_i h0
  have:=(List.getElem?_eq_some_iff.1 h).1;exact⟨h0,by omega,h⟩
 .cases h
def cw(w:World)(b o:Nat)(cs:List Value):Prop:=∀j v,cs[j]?=V v->w.cell? ⟨b,o+j,U⟩=V v
section
variable{P:Program}{T:uV}{n:Nat}{Q:Exit->Act->World->Prop}{k:List It}{e:fy}{w0 w w':World}{L:List Ch}
theorem cw.loc{b o:Nat}{cs:List Value}(h:cw w b o cs)(c:w'.heap[b]?=w.heap[b]?):cw w' b o cs:=
 fun j v d=>by rw[World.cell?_of_block (w:=w) (a:=⟨b,o+j,U⟩) c];exact h j v d
theorem cw.below{b o:Nat}{cs:List Value}(h:cw w b o cs)(f:Below w.heap.size w w'):cw w' b o cs:=by
 by_cases a:cs=[]
 .subst a;intro j v g;simp at g
 .obtain⟨v,c,rfl⟩:=List.exists_cons_of_ne_nil a;have d:=h 0 v Z;exact h.loc (f.block b (World.block_lt_of_cell? w _ d))
theorem cw.of_block{b:Nat}{a:Array Value}{t:TypeId}{fr:Nat×Nat}{o:Nat}{cs:List Value}(c:w.heap[b]?=V (.cells a t fr))(h:∀j v,cs[j]?=V v->a[o+j]?=V v):cw w b o cs:=by
 intro j v d;simp[World.cell?,c,h j v d]
theorem SH.box{b:Nat}{cs:List Value}{t:TypeId}(h:SH w0 w L)(i:Nat)(hi:L[i]?=V (Ch.box b cs t)):cw w b 0 cs:=by
 have a:w.heap[b]?=V (.cells cs.toArray t (0,0)):=(h.mem hi).1;exact cw.of_block a (fun j v c=>by simpa using c)
theorem dn.at{α:Type}[qm α]{S:Nat->Prop}{xs:List α}{p c}{i:Int}{x:α}(h:dn w S xs p c)(l:qF xs i=V x) :
  ∃b o q cs,p=V ⟨b,o,U⟩/\q=o+i.toNat*qm.k α/\S b/\qm.R w S x cs/\cw w b q cs:=by
 obtain⟨m,a,d⟩:=bH l;obtain⟨n,r,f⟩:=h;rcases f with⟨_,rfl⟩|⟨b,o,cur,T,fr,rfl,hb,hg,hc,hx'⟩
 .simp at a;omega
 .obtain⟨cs,k,g⟩:=hx' _ _ d;exact⟨b,o,_,cs,Z,Z,hb,k,cw.of_block hg g⟩
theorem SH.oldS{α:Type}[qm α]{xs:List α}{p c}(h:SH w0 w L)(d:dn w0 (Fw.old w0) xs p c):dn w (Fw.old w) xs p c:=
 (d.loc (fun b a=>h.below.block b a)).mono (fun _ a=>jx a h.below.size)
theorem dn.below{α:Type}[qm α]{xs:List α}{p c}(d:dn w (Fw.old w) xs p c)(h:Below w.heap.size w w'):dn w' (Fw.old w') xs p c:=
 (d.loc (fun b a=>h.block b a)).mono (fun _ a=>jx a h.size)
theorem SH.sl{α:Type}[qm α]{S:Nat->Prop}{xs:List α}{p:Option Addr}{d c:Nat}(h:SH w0 w L)(i:Nat)(hi:L[i]?=V (Ch.own S xs [.slice p d c])):dn w (Fw.old w) xs p c/\d=xs.length:=by
 obtain⟨f,g⟩:=h.mem hi;obtain⟨m,c',a,l⟩:=f;simp only[List.cons.injEq,Value.slice.injEq,and_true] at a;obtain⟨rfl,rfl,rfl⟩:=a;exact⟨l.toR.mono (fun b k=>(g b k).2),Z⟩
def KP(P:Program)(n:Nat)(e:fy)(o:Oper)(w:World)(v:Value):Prop:=∀a,gc n e a->(execOp a.eval o).run P w=.ok (.value v) w
theorem WY(a:cv P T){o:Oper}{v:Value}(h:vj T e o.op=V v)(w:World):KP P n e o w v:=fun _ b=>V8 a b h w
theorem dK{all:Array Oper}{l:List Oper}{op:Op}{d t:Nat}{ps:String}{a:Array Edge}{v:Value}
  (h:KP P n e ⟨V d,op,t,ps,a,U⟩ w v) (c:Nat.blt d n=An) (b:bu P n Q (.ops all l::k) ((d,v)::e) w):bu P n Q (.ops all (⟨V d,op,t,ps,a,U⟩::l)::k) e w:=
 CC Z Z c h b
def ld(a:TE)(cs:List Value)(j:Nat):Option Value:=
 match a.agg with
 |true=>match Nat.ble (j+a.size) cs.length with
  |true=>V (.agg ((cs.drop j).take a.size).toArray)
  |false=>U
 |false=>cs[j]?
theorem tk(b o j:Nat):(⟨b,o,U⟩:Addr).add j=⟨b,o+j,U⟩:=by
 unfold Addr.add;split<;>simp_all
theorem NL(m:cv P T){t:TypeId}{c:TE}(g:T.get t=V c){b o j:Nat}{cs:List Value}{v:Value}(h:cw w b o cs)(a:ld c cs j=V v) :
  (Instr.loadAt t (.pointer (V ⟨b,o+j,U⟩))).run P w=.ok v w:=by
 have f:=m _ _ g;unfold ld at a;simp only[Instr.loadAt,Instr.sureAddr,loadVar,jk,jm,ji,M5 f];split at a
 .rename_i hag
  split at a
  .rename_i hle
   simp only[Option.some.injEq] at a;subst a;have l:j+c.size<=cs.length:=js hle;rw[if_pos hag];have d:((cs.drop j).take c.size).length=c.size:=by simp;omega
   have k:=run_loadCells_list (P:=P) w ⟨b,o+j,U⟩ ((cs.drop j).take c.size) (fun i u hi=>by
    rw[tk];rw[jJ] at hi;split at hi
    .rw[Ja] at hi;have:=h (j+i) u hi;rw[Nat.add_assoc];exact this
    .cases hi)
   rw[d] at k;simp only[jk,uI f,ji,k,jm]
  .cases a
 .rename_i hag
  have:w.cell? ⟨b,o+j,U⟩=V v:=h j v a;simp[hag,this]
theorem cR(i:cv P T){x:Operand}{t ty d:Nat}{f:TE}{ps:String}{h:Array Edge}{g:Option (Nat×Bool)}{b o j:Nat}{cs:List Value}{v:Value}
  (l:cw w b o cs) (p:gg e x=V (.pointer (V ⟨b,o+j,U⟩))) (c:T.get t=V f) (m:ld f cs j=V v):KP P n e ⟨V d,.load t x,ty,ps,h,g⟩ w v:=by
 intro a k;simp only[execOp,k.eval p,jk,NL i c l m,ji,jm]
theorem WX(r:cv P T){x i:Operand}{t ty d el m:Nat}{v f:TE}{ps:String}{y:Array Edge}{g:Option (Nat×Bool)}{p:Option Addr}{u c:Nat}{kd:IntKind}{iv:Int}{b o q:Nat}
  (B:p=V ⟨b,o,U⟩) (C:q=o+iv.toNat*m) (k:0<=iv/\iv<u) (H:gg e x=V (.slice p u c)) (hi:gg e i=V (.int kd iv))
  (l:T.get t=V v) (z:v.kind=.slice el) (h:T.get el=V f) (A:f.size=m):KP P n e ⟨V d,.indexAddr t x i,ty,ps,y,g⟩ w (.pointer (V ⟨b,q,U⟩)):=by
 intro a s;subst B C;have F:=mE (r _ _ l) z;have D:=uI (r _ _ h) w;simp only[execOp,s.eval H,s.eval hi,jk,Instr.indexAt,asIntOf,jm,ji,run_underlying F];rw[if_pos k];simp only[jk,D,ji,jm,tk,A]
def iG(cs:List Value)(j:Nat)(a:List Value):List Value:=cs.take j++a++cs.drop (j+a.length)
theorem iK(v:Value):v.cells.toList=bc v:=by cases v<;>rfl
def H6(a:List Value):Bool:=a.all Value.oneCell'
theorem CG(m:cv P T){t:TypeId}{i:TE}(h:T.get t=V i){b o:Nat}{a:Array Value}{k:TypeId}{v:Value}(n:w.heap[b]?=V (.cells a k (0,0)))
  (g:(bc v).length=i.size) (c:o+(bc v).length<=a.size) (l:H6 (bc v)=An) :
  (Instr.storeAt t (.pointer (V ⟨b,o,U⟩)) v).run P w=.ok () (w.setRow b (iG a.toList o (bc v)).toArray):=by
 have d:=m _ _ h;have f:=run_storeCells_at P b o k (bc v) 0 a w n (by simpa using c) (by simpa [H6] using l);have p:v.cells.size=i.size:=by rw[<-g,<-iK];simp
 simp only[Instr.storeAt,Instr.sureAddr,storeVar,jk,jm,ji,uI d,p,ne_eq,not_true_eq_false,if_false,iK,f,iG,Jl]
theorem ZH{b:Nat}{cs c:List Value}{t:TypeId}{i:Nat}(h:SH w0 w L)(hi:L[i]?=V (Ch.box b cs t)):SH w0 (w.setRow b c.toArray) (L.set i (Ch.box b c t)):=by
 have g:w.heap[b]?=V (.cells cs.toArray t (0,0)):=(h.mem hi).1;refine h.upd hi Z Z Z (by simp) (fun a _ d=>setRow_other w b a _ d) (setRow_heap w b _ _ t _ g) (fun a d=>.inl d) (fun _ f=>f.elim)
theorem qba(s:cv P T){all:Array Oper}{l:List Oper}{t ty:Nat}{ps:String}{p:Array Edge}{x v:Operand}{o:TE}{b j:Nat}{cs:List Value}{g:TypeId}{u:Value}(i:Nat)
  (h:SH w0 w L) (hi:L[i]?=V (Ch.box b cs g)) (B:gg e x=V (.pointer (V ⟨b,j,U⟩))) (A:gg e v=V u) (f:T.get t=V o)
  (d:Nat.beq (bc u).length o.size=An) (c:Nat.ble (j+(bc u).length) cs.length=An) (r:H6 (bc u)=An)
  (z:∀w',SH w0 w' (L.set i (Ch.box b (iG cs j (bc u)) g))->bu P n Q (.ops all l::k) e w'):bu P n Q (.ops all (⟨U,.store t x v,ty,ps,p,U⟩::l)::k) e w:=by
 have y:w.heap[b]?=V (.cells cs.toArray g (0,0)):=(h.mem hi).1;refine ZA Z Z (fun a m=>?_) (z _ (ZH h hi));have:=CG s f y (HG d) (by simpa using js c) r;simp only[execOp,m.eval B,m.eval A,jk,this,ji,jm]
theorem getElem?_splice {cs a:List Value}{j i:Nat}(c:j+a.length<=cs.length):(iG cs j a)[i]?=if i<j then cs[i]? else if i<j+a.length then a[i-j]? else cs[i]?:=by
 unfold iG;have b:(cs.take j).length=j:=by simp;omega
 rw[jv,List.getElem?_append,b];split
 .rename_i h;rw[jJ,if_pos h]
 .rw[List.getElem?_append];split
  .rename_i h1 h2;rw[if_pos (by omega)]
  .rename_i h1 h2
   rw[if_neg (by omega),Ja]
   congr 1
   omega
theorem rX{cs a:List Value}{j:Nat}(b:j+a.length<=cs.length):(iG cs j a).length=cs.length:=by
 unfold iG;simp;omega
theorem qa4{α:Type}[qm α][ee α]{S:Nat->Prop}{xs:List α}{p:Option Addr}{Q c:Nat}{b o q j:Nat}{iv:Int}{y R:α}{cs u:List Value}{i:Nat}
  (h:SH w0 w L) (hi:L[i]?=V (Ch.own S xs [.slice p Q c])) (hy:qF xs iv=V y) (O:p=V ⟨b,o,U⟩) (P:q=o+iv.toNat*qm.k α) (D:qm.R w (Fw.old w) y cs) (hc:cw w b q cs)
  (Y:qm.R w (Fw.old w) R (iG cs j u)) (J:j+u.length<=cs.length) :
  ∃cur t,w.heap[b]?=V (.cells cur t (0,0))/\q+j+u.length<=cur.size /\
   SH w0 (w.setRow b (iG cur.toList (q+j) u).toArray) (L.set i (Ch.own S (xs.set iv.toNat R) [.slice p Q c])):=by
 obtain⟨e,hS⟩:=h.mem hi;obtain⟨h0,hlt,M⟩:=bH hy;obtain⟨p',c',N,T,W,X⟩:=e;simp only[List.cons.injEq,Value.slice.injEq,and_true] at N;obtain⟨rfl,rfl,rfl⟩:=N;rcases X with⟨rfl,_,_⟩|⟨b',cur,t,F,hpb,hb,hg,hcur,hF,H,hx'⟩
 .cases O
 .subst O;simp only[Option.some.injEq,Addr.mk.injEq,and_true] at hpb;obtain⟨rfl,rfl⟩:=hpb;simp only[Jd] at P;subst P;have hk:=qm.len D;have z:iv.toNat*qm.k α+qm.k α<=cur.size:=by
   rw[hcur,<-jP];exact jt _ (by have:=(List.getElem?_eq_some_iff.1 M).1;omega)
  have d:iv.toNat*qm.k α+j+u.length<=cur.toList.length:=by simp;omega
  refine⟨cur,t,hg,by simpa using d,?_⟩;refine h.upd hi Z Z Z (by simp) (fun a _ B=>setRow_other w b a _ (fun C=>B (C ▸ hb))) ?_ (fun a B=>.inl B) (fun _ H=>H.elim);refine⟨V ⟨b,0,U⟩,c,by simp,by simpa using T,W,.inr ⟨b,_,t,F,Z,hb,setRow_heap w b _ _ t _ hg,?_,hF,H,?_⟩⟩
  .rw[jZ,rX d];simpa using hcur
  .intro m x l;rw[List.getElem?_set] at l;split at l
   .rename_i hmi
    subst hmi;split at l
    .simp only[Option.some.injEq] at l;subst l;refine⟨_,ee.fl Y,fun r v g=>?_⟩;rw[jQ,getElem?_splice d];rw[getElem?_splice J] at g;have f:∀r v,cs[r]?=V v->cur.toList[iv.toNat*qm.k α+r]?=V v:=by
      intro r v g;have:=hc r v g;simp only[World.cell?,hg] at this;simpa using this
     split at g
     .rw[if_pos (by omega)];exact f _ _ g
     .split at g
      .rw[if_neg (by omega),if_pos (by omega)];rw[show iv.toNat*qm.k α+r-(iv.toNat*qm.k α+j)=r-j by omega];exact g
      .rw[if_neg (by omega),if_neg (by omega)];exact f _ _ g
    .cases l
   .rename_i hmi
    obtain⟨A,s,I⟩:=hx' m x l;refine⟨A,ee.fl (qm.toR s),fun r v g=>?_⟩;have K:=I r v g;have hrk:r<qm.k α:=by have:=qm.len (qm.toR s);have:=(List.getElem?_eq_some_iff.1 g).1;omega
    rw[jQ,getElem?_splice d];have n:m*qm.k α+r<iv.toNat*qm.k α\/iv.toNat*qm.k α+qm.k α<=m*qm.k α+r:=by
     rcases Nat.lt_or_gt_of_ne hmi with hlt'|hlt'
     .right;have:(iv.toNat+1)*qm.k α<=m*qm.k α:=jt _ hlt';rw[jP] at this;omega
     .left;have:(m+1)*qm.k α<=iv.toNat*qm.k α:=jt _ hlt';rw[jP] at this;omega
    have k:cur.toList[m*qm.k α+r]?=V v:=by simpa using K
    rcases n with n|n
    .rw[if_pos (by omega)];exact k
    .rw[if_neg (by omega),if_neg (by omega)];exact k
theorem bK(J:cv P T){α:Type}[qm α][ee α]{all:Array Oper}{l:List Oper}{t ty:Nat}{ps:String}{D:Array Edge}{x v:Operand}{B:TE}{S:Nat->Prop}{xs:List α}{p:Option Addr}{A c:Nat}{b o q:Nat}{iv:Int}{y:α}{cs:List Value}{u:Value}(i j:Nat)(C:α)
  (h:SH w0 w L) (hi:L[i]?=V (Ch.own S xs [.slice p A c])) (Y:qF xs iv=V y) (O:p=V ⟨b,o,U⟩) (R:q=o+iv.toNat*qm.k α) (d:qm.R w (Fw.old w) y cs) (K:cw w b q cs)
  (X:gg e x=V (.pointer (V ⟨b,q+j,U⟩))) (W:gg e v=V u) (r:T.get t=V B) (I:qm.R w (Fw.old w) C (iG cs j (bc u)))
  (m:Nat.beq (bc u).length B.size=An) (f:Nat.ble (j+(bc u).length) cs.length=An) (H:H6 (bc u)=An)
  (N:∀w',SH w0 w' (L.set i (Ch.own S (xs.set iv.toNat C) [.slice p A c]))->bu P n Q (.ops all l::k) e w'):bu P n Q (.ops all (⟨U,.store t x v,ty,ps,D,U⟩::l)::k) e w:=by
 obtain⟨F,t',M,z,g⟩:=qa4 h hi Y O R d K I (js f);refine ZA Z Z (fun a s=>?_) (N _ g);have:=CG J r M (HG m) (by omega) H;simp only[execOp,s.eval X,s.eval W,jk,this,ji,jm]
theorem qJ{all:Array Oper}{l:List Oper}{d t ty:Nat}{ps:String}{c:Array Edge}{x:Operand}{v:Value}(h:SH w0 w L)(m:gg e x=V v)(i:Nat.blt d n=An)
  (g:∀w' b,SH w0 w' (Ch.box b (bc v) t::L)->bu P n Q (.ops all l::k) ((d,.pointer (V ⟨b,0,U⟩))::e) w'):bu P n Q (.ops all (⟨V d,.box t x,ty,ps,c,U⟩::l)::k) e w:=by
 refine CC Z Z i (fun a f=>?_) (g _ _ (h.alloc (bc v) t));simp only[execOp,f.eval m,Instr.box,newVar,newRow,jk,run_newObj,ji,jm];rw[<-iK]
 rfl
theorem qi(o:cv P T){all:Array Oper}{l:List Oper}{d t ty:Nat}{ps:String}{m:Array Edge}{g:TE}{v:Value}(h:SH w0 w L)(c:T.get t=V g)(s:g.zero=V v)(r:Nat.blt d n=An)
  (p:∀w' b,SH w0 w' (Ch.box b (bc v) t::L)->bu P n Q (.ops all l::k) ((d,.pointer (V ⟨b,0,U⟩))::e) w'):bu P n Q (.ops all (⟨V d,.alloc t,ty,ps,m,U⟩::l)::k) e w:=by
 obtain⟨i,hi,_,_,f⟩:=pI (o _ _ c);refine CC Z Z r (fun a u=>?_) (p _ _ (h.alloc (bc v) t));simp only[execOp,Instr.alloc,zeroValue,typeInfo,hi,f,s,newVar,newRow,jk,run_newObj,ji,jm,run_program];rw[<-iK]
 rfl
theorem SH.nil{α:Type}[qm α](h:SH w0 w L):SH w0 w (Ch.own (fun _=>False) ([]:List α) [.slice U 0 0]::L):=by
 refine h.add (Below.refl _ _) ?_ (fun b a=>a.elim) (fun _ c=>c.elim);exact⟨U,0,Z,by simp,by simp,.inl ⟨Z,Z,Z⟩⟩
end

def OI:Nat:=2147483648
section
variable{P:Program}{T:uV}{n:Nat}{Q:Exit->Act->World->Prop}{k:List It}{e:fy}{w0 w w':World}{L:List Ch}
theorem SI{z:List Value}{m i j:Nat}{v:Value}(_:0<z.length)(hi:i<m)(d:z[j]?=V v):(madeCells z.toArray (m*z.length))[i*z.length+j]?=V v:=by
 have a:j<z.length:=(List.getElem?_eq_some_iff.1 d).1;have c:i*z.length+j<m*z.length:=by
  have:(i+1)*z.length<=m*z.length:=jt _ hi;rw[jP] at this;omega
 have b:(i*z.length+j) % z.length=j:=by
  rw[Nat.add_comm,Nat.add_mul_mod_self_right,Nat.mod_eq_of_lt a]
 unfold madeCells;rw[Array.getElem?_map,Array.getElem?_range,if_pos c];simp only[Option.map_some,jZ,b,Option.some.injEq];have:z[j]=v:=(List.getElem?_eq_some_iff.1 d).2;simp[a,this]
theorem qcI(W:cv P T)(α:Type)[qm α]{all:Array Oper}{l:List Oper}{d t ty el:Nat}{ps:String}{af:Array Edge}{te o:TE}{x y:Operand}{kd A:IntKind}{c:Int}{B:Value}
  (h:SH w0 w L) (hx:gg e x=V (.int kd c)) (hy:gg e y=V (.int A c)) (K:T.get t=V te) (hk:te.kind=.slice el) (D:T.get el=V o) (hz:o.zero=V B) (M:bc B=qm.zc α) (J:o.size=qm.k α)
  (C:Nat.ble o.bytes 65536=An) (R:0<=c) (f:c<=OI) (hn:Nat.blt d n=An)
  (H:∀w' S p,SH w0 w' (Ch.own S (List.replicate c.toNat (qm.zero:α)) [.slice p c.toNat c.toNat]::L)->bu P n Q (.ops all l::k) ((d,.slice p c.toNat c.toNat)::e) w') :
  bu P n Q (.ops all (⟨V d,.makeSlice t x y,ty,ps,af,U⟩::l)::k) e w:=by
 obtain⟨i,hi,hs,hby,N⟩:=pI (W _ _ D);have hb':=js C;have g:(i.bytes:Int)*c<=281474976710656:=by
  have h1:(i.bytes:Int)<=65536:=by omega
  have h2:(i.bytes:Int)*c<=65536*c:=Int.mul_le_mul_of_nonneg_right h1 R;unfold OI at f;omega
 have Y:=run_make (P:=P) w t el i B (mE (W _ _ K) hk) hi (N.trans hz) kd A c c R (jV _) g (by unfold OI at f;omega);have O:B.cells=(qm.zc α).toArray:=by rw[<-M,<-iK]
 rw[O,hs,J] at Y;refine CC (v:=.slice (V ⟨w.heap.size,0,U⟩) c.toNat c.toNat) (w':=w.alloc (.cells (madeCells (qm.zc α).toArray (c.toNat*qm.k α)) el)) Z Z hn (fun a X=>?_) (H _ (fun b=>b=w.heap.size) _ (h.add ((Below.refl _ _).alloc (jf _) _) ?_ ?_ (fun _ hd=>hd.elim)))
 .simp only[execOp,X.eval hx,X.eval hy,jk,Y,ji,jm]
 .have s:=qm.len (qm.toR (qm.zO w (fun _=>False) (α:=α)));refine⟨V ⟨w.heap.size,0,U⟩,c.toNat,by simp,by simp,?_,.inr ⟨w.heap.size,_,el,fun _ _=>False,Z,Z,heap_alloc_new w _,?_,?_,?_,?_⟩⟩
  .unfold OI at f;simp[maxLen];omega
  .rw[size_madeCells]
  .intro _ _ F;exact F.elim
  .intro _ _ _ _ F;exact F.elim
  .intro j x u;rw[List.getElem?_replicate] at u;split at u
   .rename_i hlt
    simp only[Option.some.injEq] at u;subst u;refine⟨_,qm.zO _ _,fun r v I=>?_⟩;have:=SI (z:=qm.zc α) (m:=c.toNat) (i:=j) (j:=r) (v:=v) (by rw[s];exact qm.kpos) hlt I;rw[s] at this;exact this
   .cases u
 .intro b C;have:b=w.heap.size:=C;subst this;exact⟨jf _,by simp⟩
def AP{α:Type}[qm α](w:World)(S:Nat->Prop):List α->List (List Value)->Prop
 | [],[]=>True
 |x::xs,c::cs=>qm.R w S x c/\AP w S xs cs
 |_,_=>False
theorem AP.get{α:Type}[qm α]{S:Nat->Prop}:∀{xs:List α} {cs:List (List Value)},AP w S xs cs->cs.flatten.length=xs.length*qm.k α /\
  ∀i x,xs[i]?=V x->∃c,qm.R w S x c/\∀j v,c[j]?=V v->cs.flatten[i*qm.k α+j]?=V v
 | [],[],_=>⟨by simp,by simp⟩
 |x::xs,c::cs,h=>by
  obtain⟨k,l⟩:=h;obtain⟨n,m⟩:=AP.get l;have g:=qm.len k;refine⟨by rw[List.flatten_cons,jg,n,g,Jj,jP];omega,?_⟩;intro i y b;cases i with
  |zero=>
   simp only[List.getElem?_cons_zero,Option.some.injEq] at b;subst b;refine⟨c,k,fun j v a=>?_⟩;have:=(List.getElem?_eq_some_iff.1 a).1;rw[Nat.zero_mul,Jd,List.flatten_cons,jA this];exact a
  |succ i=>
   simp only[List.getElem?_cons_succ] at b;obtain⟨c',d,f⟩:=m i y b;refine⟨c',d,fun j v a=>?_⟩;rw[List.flatten_cons,jD (by rw[g,jP];omega)];rw[show(i+1)*qm.k α+j-c.length=i*qm.k α+j by rw[g,jP];omega];exact f j v a
 | [],_::_,h=>h.elim
 |_::_,[],h=>h.elim
theorem PT:∀(a:List Value) (m:Nat) (cG:Nat) (cells:Array Value),cG+m+a.length<=cells.size ->
  ((a.zipIdx m).foldl (fun(b:Array Value) (p:Value×Nat)=>b.setIfInBounds (cG+p.2) p.1) cells)=(iG cells.toList (cG+m) a).toArray
 | [],m,cG,cells,_=>by simp[iG]
 |v::a,m,cG,cells,h=>by
  rw[List.zipIdx_cons,List.foldl_cons,PT a (m+1) cG _ (by simp at h⊢;omega)];simp only[Jj] at h;apply Array.ext_getElem?;intro i;rw[jQ,jQ,getElem?_splice (by simp;omega),getElem?_splice (by simp;omega)];simp only[Jj,Array.getElem?_toList,Array.getElem?_setIfInBounds];rcases Nat.lt_trichotomy i (cG+m) with hi|hi|hi
  .rw[if_pos (show i<cG+(m+1) by omega),if_pos hi,if_neg (show ¬ cG+m=i by omega)]
  .subst hi;rw[if_pos (show cG+m<cG+(m+1) by omega),if_neg (show ¬ cG+m<cG+m by omega),if_pos (show cG+m<cG+m+(a.length+1) by omega),if_pos Z,if_pos (show cG+m<cells.size by omega)];simp
  .rw[if_neg (show ¬ i<cG+(m+1) by omega),if_neg (show ¬ i<cG+m by omega)];by_cases c:i<cG+(m+1)+a.length
   .rw[if_pos c,if_pos (show i<cG+m+(a.length+1) by omega)];rw[show i-(cG+m)=(i-(cG+(m+1)))+1 by omega,List.getElem?_cons_succ]
   .rw[if_neg c,if_neg (show ¬ i<cG+m+(a.length+1) by omega),if_neg (show ¬ cG+m=i by omega)]
def EE(a:Nat->Option (Nat×Nat))(cells:List Value):List (Nat×Value)->Option (List Value)
 | []=>V cells
 |p::rest=>
  match a p.1 with
  |none=>U
  |some q=>match Nat.beq (bc p.2).length q.2,Nat.ble (q.1+(bc p.2).length) cells.length with
   |true,An=>EE a (iG cells q.1 (bc p.2)) rest
   |_,_=>U
theorem rP(a:Nat->Option (Nat×Nat)):∀(b:List (Nat×Value)) (cells cs:List Value),EE a cells b=V cs->Instr.fill a cells.toArray b=V cs.toArray
 | [],cells,cs,h=>by simp only[EE,Option.some.injEq] at h;subst h;rfl
 |(i,v)::rest,cells,cs,h=>by
  simp only[EE] at h;simp only[Instr.fill];split at h
  .cases h
  .rename_i q hq
   rw[hq];split at h
   .rename_i h1 h2
    have c:=HG h1;have d:=js h2;have k:v.cells.size=(bc v).length:=by rw[<-iK];simp
    have f:=PT (bc v) 0 q.1 cells.toArray (by simpa using d);obtain⟨g,l⟩:=q;simp only at c d f⊢;rw[if_neg (by simp[k,c];omega)];have:(v.cells.zipIdx.foldl (fun(cs:Array Value) (x:Value×Nat)=>cs.setIfInBounds (g+x.2) x.1) cells.toArray)=(iG cells g (bc v)).toArray:=by
     rw[<-Array.foldl_toList,Array.toList_zipIdx,iK];simpa using f
    rw[this];exact rP a rest _ _ h
   .cases h
theorem BC(size:Nat):∀(a:List Value) (m:Nat) (pre post:List Value),pre.length=m*size->post.length=a.length*size->(∀v∈a,(bc v).length=size) ->
  EE (fun i=>V (i*size,size)) (pre++post) ((a.zipIdx m).map fun x=>(x.2,x.1))=V (pre++(a.map bc).flatten)
 | [],m,pre,post,h1,h2,_=>by
  have:post=[]:=jO (by simpa using h2);subst this;simp[EE]
 |v::a,m,pre,post,h1,h2,h3=>by
  have b:=h3 v (by simp);simp only[Jj,jP] at h2;rw[List.zipIdx_cons,Jf];simp only[EE];have c:Nat.beq (bc v).length size=An:=by rw[b];exact P7 _
  have d:Nat.ble (m*size+(bc v).length) (pre++post).length=An:=Nat.ble_eq_true_of_le (by rw[jg,b];omega);rw[c,d];simp only;have f:iG (pre++post) (m*size) (bc v)=(pre++bc v)++post.drop size:=by
   unfold iG;have e1:(pre++post).take (m*size)=pre:=by rw[<-h1];exact List.take_left
   have g:(pre++post).drop (m*size+size)=post.drop size:=by rw[<-h1,List.drop_append,List.drop_eq_nil_of_le (by omega),List.nil_append];congr 1;omega
   rw[e1,b,g]
  rw[f,BC size a (m+1) (pre++bc v) (post.drop size) (by rw[jg,b,h1,jP]) (by rw[List.length_drop];omega) (fun u h=>h3 u (by simp[h]))];simp[jv]
theorem FD(s:cv P T){t el:Nat}{z a:TE}{r:Value}(b:List Value)(o:T.get t=V z)(A:z.kind=.slice el)(g:T.get el=V a)(C:a.zero=V r)(n:b.length*a.size<=16777216)
  (d:∀v∈b,(bc v).length=a.size) (w:World) :
  (Instr.buildSlice t b.length ((b.zipIdx 0).map fun x=>(x.2,x.1)).toArray).run P w=.ok (.slice (V ⟨w.heap.size,0,U⟩) b.length b.length) (w.alloc (.cells (b.map bc).flatten.toArray el)):=by
 obtain⟨i,hi,u,_,p⟩:=pI (s _ _ g);have y:=mE (s _ _ o) A;by_cases f:b.length*a.size=0
 .have m:(b.map bc).flatten=[]:=by
   rcases Nat.mul_eq_zero.1 f with h|h
   .have:=jO h;subst this;rfl
   .rw[List.flatten_eq_nil_iff];intro l k;obtain⟨v,B,rfl⟩:=List.mem_map.1 k;exact jO ((d v B).trans h)
  have c:=rP (fun i=>V (i*a.size,a.size)) _ _ _ (BC a.size b 0 [] [] (by simp) (by simpa using f.symm) d);rw[m] at c⊢;simp only[jY] at c;simp only[Instr.buildSlice,jk,run_underlying y,ji,sizeOf,typeInfo,run_program,hi,jm,u,f,if_true];rw[if_neg (by omega)];simp only[jm,ji,Array.range_zero',Array.map_empty,c,newRow,jk,run_newObj]
  rfl
 .have k:(madeCells r.cells (b.length*a.size)).toList.length=b.length*a.size:=by simp[size_madeCells]
  have c:=rP (fun i=>V (i*a.size,a.size)) _ _ _ (BC a.size b 0 [] (madeCells r.cells (b.length*a.size)).toList (by simp) k d);simp only[List.nil_append,Array.toArray_toList] at c;unfold madeCells at c;simp only[Instr.buildSlice,jk,run_underlying y,ji,sizeOf,typeInfo,run_program,hi,jm,u,f,if_false];rw[if_neg (by omega)];simp only[jm,jk,ji,zeroValue,typeInfo,run_program,hi,p,C,c,newRow,run_newObj]
  rfl
end

section
variable{P:Program}{T:uV}{n:Nat}{Q:Exit->Act->World->Prop}{k:List It}{e:fy}{w0 w w':World}{L:List Ch}
def tj{α:Type}[qm α](w:World)(S:Nat->Prop)(ys:List α)(a:List Value):Prop:=
 a.length=ys.length*qm.k α/\∀i y,ys[i]?=V y->∃cs,qm.R w S y cs/\∀j v,cs[j]?=V v->a[i*qm.k α+j]?=V v
theorem tj.one{α:Type}[qm α]{S:Nat->Prop}{ys:List α}{a:List Value}(h:tj w S ys a):∀v∈a,v.oneCell'=An:=by
 intro v l;obtain⟨r,i,rfl⟩:=Je l;have f:=qm.kpos (α:=α);have c:r / qm.k α<ys.length:=by rw[Nat.div_lt_iff_lt_mul f,<-h.1];exact i
 obtain⟨cs,d,k⟩:=h.2 (r / qm.k α) _ (jj c);have b:=qm.len d;have g:r % qm.k α<cs.length:=by rw[b];exact Nat.mod_lt _ f
 have:=k (r % qm.k α) _ (jj g);rw[Nat.mul_comm,Nat.div_add_mod] at this;rw[jj i,Option.some.injEq] at this;rw[this];exact qm.one d _ (jo g)
theorem tj.app{α:Type}[qm α]{S:Nat->Prop}{xs ys:List α}{olds a:List Value}(b:tj w S xs olds)(h:tj w S ys a):tj w S (xs++ys) (olds++a):=by
 refine⟨by rw[jg,jg,b.1,h.1,Nat.add_mul],fun i y hi=>?_⟩;rw[List.getElem?_append] at hi;split at hi
 .rename_i hlt
  obtain⟨cs,d,f⟩:=b.2 i y hi;refine⟨cs,d,fun j v g=>?_⟩;have c:=f j v g;rw[jA (List.getElem?_eq_some_iff.1 c).1];exact c
 .rename_i hge
  obtain⟨cs,d,f⟩:=h.2 _ y hi;refine⟨cs,d,fun j v g=>?_⟩;have c:=f j v g;have k:xs.length*qm.k α<=i*qm.k α:=jt _ (by omega);rw[jD (by rw[b.1];omega),b.1];rw[show i*qm.k α+j-xs.length*qm.k α=(i-xs.length)*qm.k α+j by rw[Nat.sub_mul];omega];exact c
theorem dn.cells{α:Type}[qm α]{S:Nat->Prop}{ys:List α}{p:Option Addr}{c:Nat}(h:dn w S ys p c) :
  ∃news,tj w S ys news/\(Builtin.firstCells (qm.k α) ys.length (.slice p ys.length c)).run P w=.ok news.toArray w/\(Builtin.firstCells (qm.k α) ys.length (.slice p ys.length c)).run P w.drew=.ok news.toArray w.drew:=by
 obtain⟨r,z,s⟩:=h;rcases s with⟨_,rfl⟩|⟨b,o,cur,t,fr,rfl,hb,hg,hc,hx⟩
 .cases p<;>exact⟨[],⟨by simp,by simp⟩,by simp[Builtin.firstCells]<;>rfl,by simp[Builtin.firstCells]<;>rfl⟩
 .have x:ys.length*qm.k α<=c*qm.k α:=jt _ r;have d:((cur.toList.drop o).take (ys.length*qm.k α)).length=ys.length*qm.k α:=by simp;omega
  have a:∀(w1:World),w1.heap[b]?=w.heap[b]?->∀j v,((cur.toList.drop o).take (ys.length*qm.k α))[j]?=V v->w1.cell? ((⟨b,o,U⟩:Addr).add j)=V v:=by
   intro w1 l j v f;rw[jJ] at f;split at f
   .rw[Ja] at f;rw[tk];simp only[World.cell?,l,hg];simpa using f
   .cases f
  refine⟨_,⟨d,fun i y hi=>?_⟩,run_firstCells_some w _ _ _ _ _ _ d (a w Z),run_firstCells_some w.drew _ _ _ _ _ _ d (a w.drew Z)⟩;obtain⟨cs,m,f⟩:=hx i y hi;refine⟨cs,m,fun j v n=>?_⟩;have u:j<qm.k α:=by have:=qm.len m;have:=(List.getElem?_eq_some_iff.1 n).1;omega
  have k:i<ys.length:=(List.getElem?_eq_some_iff.1 hi).1;have g:(i+1)*qm.k α<=ys.length*qm.k α:=jt _ k;rw[jP] at g;rw[jJ,if_pos (by omega),Ja];have:=f j v n;rw[<-Nat.add_assoc];simpa using this
theorem TW.elems{α:Type}[qm α]{S:Nat->Prop}{ys:List α}{c:Nat}{a:Array Value}(g:a.size=c*qm.k α)(m:ys.length<=c)
  (o:∀i x,ys[i]?=V x->∃cs,qm.R w S x cs/\∀j v,cs[j]?=V v->a[i*qm.k α+j]?=V v):tj w S ys (a.toList.take (ys.length*qm.k α)):=by
 have n:ys.length*qm.k α<=c*qm.k α:=jt _ m;refine⟨by simp;omega,fun i y hi=>?_⟩;obtain⟨cs,f,k⟩:=o i y hi;refine⟨cs,f,fun j v h=>?_⟩;have l:j<qm.k α:=by have:=qm.len f;have:=(List.getElem?_eq_some_iff.1 h).1;omega
 have d:i<ys.length:=(List.getElem?_eq_some_iff.1 hi).1;have b:(i+1)*qm.k α<=ys.length*qm.k α:=jt _ d;rw[jP] at b;rw[jJ,if_pos (by omega)];simpa using k j v h
theorem TW.of_elems{α:Type}[qm α][ee α]{S S':Nat->Prop}{xs:List α}{b c:Nat}{a:Array Value}{t:TypeId}(n:xs.length<=c)(o:c<=maxLen)(g:S b)(l:w'.heap[b]?=V (.cells a t (0,0)))(d:a.size=c*qm.k α)
  {olds:List Value} (k:tj w S' xs olds) (p:∀(r:Nat) (v:Value),olds[r]?=V v->a[r]?=V v):TW w' S xs (V ⟨b,0,U⟩) c:=by
 refine⟨n,o,.inr ⟨b,a,t,fun _ _=>False,Z,g,l,d,fun _ _ h=>h.elim,fun _ _ _ _ h=>h.elim,fun i x hi=>?_⟩⟩;obtain⟨cs,f,m⟩:=k.2 i x hi;exact⟨cs,ee.fl f,fun j v s=>p _ _ (m j v s)⟩
theorem yG(t ty el:TypeId)(i:TypeInfo)(z:Value)(s:P.underlying t=V (.slice el))(hi:P.info? el=V i)(u:i.zero=V z)
  (p l:Option Addr) (a b m c:Nat) (olds d:List Value) (o:(Builtin.firstCells i.size m (.slice l m c)).run P w.drew=.ok d.toArray w.drew) (h:(Builtin.firstCells i.size a (.slice p a b)).run P w.drew=.ok olds.toArray w.drew)
  (v:b<a+m) (n:((a+m:Nat):Int)<=9223372036854775807) (k:Builtin.nextslicecap (a+m) b*i.bytes<=281474976710656) :
  (Builtin.append_ #[t,t] ty #[.slice p a b,.slice l m c]).run P w =
   .ok (.slice (V ⟨w.heap.size,0,U⟩) (a+m) (grownCap w (a+m) b el))
    (w.drew.alloc (.cells (olds.toArray++d.toArray++Builtin.zeroCells z.cells (grownCap w (a+m) b el-(a+m))) el)):=by
 have r:¬ (a+m<=b):=by omega
 have g:¬ (9223372036854775807<((a:Int)+(m:Int))):=by omega
 have f:¬ (281474976710656<Builtin.nextslicecap (a+m) b*i.bytes):=by omega
 simp[Builtin.append_,run_underlying s,sizeOf,typeInfo,zeroValue,hi,u,Builtin.lenOf,r,g,f,Question.forced,o,h,newRow,grownCap]
 congr 2
 apply Array.ext';simp[jv]
theorem yI(t ty el:TypeId)(i:TypeInfo)(v:P.underlying t=V (.slice el))(hi:P.info? el=V i)
  (o:Option Addr) (g a d m c:Nat) (f:Array Value) (p:TypeId) (n:w.heap[g]?=V (.cells f p (0,0))) (b:List Value) (s:(Builtin.firstCells i.size m (.slice o m c)).run P w=.ok b.toArray w) (r:∀u∈b,u.oneCell'=An)
  (h:a+m<=d) (k:a*i.size+b.length<=f.size) :
  (Builtin.append_ #[t,t] ty #[.slice (V ⟨g,0,U⟩) a d,.slice o m c]).run P w =
   .ok (.slice (V ⟨g,0,U⟩) (a+m) d) (w.setRow g (iG f.toList (a*i.size) b).toArray):=by
 have l:=run_storeCells_at P g (a*i.size) p b 0 f w n (by simpa using k) r;simp only[Jl] at l;simp[Builtin.append_,run_underlying v,sizeOf,typeInfo,hi,Builtin.lenOf,h,s,Addr.add_lit,l,iG]
theorem yH(t ty el:TypeId)(i:TypeInfo)(b:P.underlying t=V (.slice el))(hi:P.info? el=V i)(a:Option Addr)(c:Nat) :
  (Builtin.append_ #[t,t] ty #[.slice U 0 0,.slice a 0 c]).run P w=.ok (.slice U 0 0) w:=by
 cases a<;>simp[Builtin.append_,run_underlying b,sizeOf,typeInfo,hi,Builtin.lenOf,Builtin.firstCells,loadCells,loadCellsFrom]
theorem qaq(hT:cv P T){α:Type}[qm α][ee α]{S:Nat->Prop}{xs ys:List α}{p I:Option Addr}{ln c c' t ty el i:Nat}{te y:TE}{Q:Value}
  (h:SH w0 w L) (hi:L[i]?=V (Ch.own S xs [.slice p ln c])) (hs:dn w (Fw.old w) ys I c') (hte:T.get t=V te) (hk:te.kind=.slice el) (X:T.get el=V y) (hz:y.zero=V Q) (hzs:(bc Q).length=y.size) (O:y.size=qm.k α)
  (hb:Nat.ble y.bytes 65536=An) (B:xs.length+ys.length<=OI) :
  ∃p2 c2 S2 w',(Builtin.append_ #[t,t] ty #[.slice p ln c,.slice I ys.length c']).run P w=.ok (.slice p2 (xs.length+ys.length) c2) w'/\SH w0 w' (L.set i (Ch.own S2 (xs++ys) [.slice p2 (xs.length+ys.length) c2])):=by
 obtain⟨g,n,hs1,hby,hz1⟩:=pI (hT _ _ X);have hu:=mE (hT _ _ hte) hk;have z:=js hb;have a4:=(h.sl i hi).2;subst a4;have f:g.size=qm.k α:=hs1.trans O;obtain⟨d,s,N,M⟩:=hs.cells (P:=P);rw[<-f] at N M;obtain⟨hP,hS⟩:=h.mem hi;obtain⟨p0,c0,he,h1,h2,h3⟩:=hP;simp only[List.cons.injEq,Value.slice.injEq,and_true,true_and] at he;obtain⟨rfl,rfl⟩:=he;unfold OI at B;have hmax:(2147483648:Nat)<=maxLen:=by simp[maxLen]
 have A:∀(olds:List Value),tj w (Fw.old w) xs olds->(Builtin.firstCells g.size xs.length (.slice p xs.length c)).run P w.drew=.ok olds.toArray w.drew->c<xs.length+ys.length ->
   ∃p2 c2 S2 w',(Builtin.append_ #[t,t] ty #[.slice p xs.length c,.slice I ys.length c']).run P w=.ok (.slice p2 (xs.length+ys.length) c2) w'/\SH w0 w' (L.set i (Ch.own S2 (xs++ys) [.slice p2 (xs.length+ys.length) c2])):=by
  intro olds m a5 K;have l:Builtin.nextslicecap (xs.length+ys.length) c*g.bytes<=281474976710656:=by
   refine growslice_fits K ?_;have:(xs.length+ys.length)*g.bytes<=2147483648*65536:=Nat.mul_le_mul B (by omega);omega
  have hr:=yG (P:=P) (w:=w) t ty el g Q hu n (hz1.trans hz) p I xs.length c ys.length c' olds d M a5 K (by omega) l;have e:=grownCap_ge w (xs.length+ys.length) c el;have W:=grownCap_le_maxLen w (xs.length+ys.length) c el (by omega);refine⟨_,_,fun b=>b=w.heap.size,_,hr,?_⟩;refine h.upd hi Z Z Z (by simp) (fun b z _=>heap_alloc_old w.drew _ z) ?_ ?_ (fun _ D=>D.elim)
  .refine⟨_,_,by rw[jg],?_⟩;refine TW.of_elems (w:=w) (S':=Fw.old w) (olds:=olds++d) (by simpa using e) W Z (heap_alloc_new w.drew _) ?_ (m.app s) ?_
   .have hzl:Q.cells.size=qm.k α:=by rw[<-O,<-hzs,<-iK];simp
    simp only[Array.size_append,jZ,size_zeroCells,m.1,s.1,hzl,<-Nat.add_mul]
    congr 1
    omega
   .intro r v u;have o:=(List.getElem?_eq_some_iff.1 u).1;rw[jE (by simpa using o)];simpa using u
  .intro b z;have:b=w.heap.size:=z;subst this;exact .inr ⟨jf _,by simp⟩
 rcases h3 with⟨rfl,rfl,rfl⟩|⟨b,cur,t',F,rfl,hSb,hg,hcur,hF,D,hx⟩
 .by_cases hy:ys.length=0
  .refine⟨U,0,S,w,by simpa [hy] using yH (P:=P) (w:=w) t ty el g hu n I c',?_⟩;have:ys=[]:=jO hy;subst this;refine h.upd hi Z Z Z (jf _) (fun _ _ _=>rfl) ?_ (fun a C=>.inl C) (fun _ D=>D.elim);exact⟨U,0,by simp,by simp,by simp,.inl ⟨Z,by simp,Z⟩⟩
  .exact A [] ⟨by simp,by simp⟩ (by simp[Builtin.firstCells]) (by simp;omega)
 .have m:tj w (Fw.old w) xs (cur.toList.take (xs.length*qm.k α)):=TW.elems hcur h1 (fun j x H=>by
   obtain⟨cs,hO,a3⟩:=hx j x H;exact⟨cs,qm.mono (qm.toR hO) (fun a C=>(hS a (hF j a C).1).2),a3⟩)
  by_cases k:xs.length+ys.length<=c
  .have J:(xs.length+ys.length)*qm.k α<=c*qm.k α:=jt _ k;rw[Nat.add_mul] at J;have l:xs.length*g.size+d.length<=cur.size:=by rw[s.1,f,hcur];exact J
   have hr:=yI (P:=P) (w:=w) t ty el g hu n I b xs.length c ys.length c' cur t' hg d N s.one k l;refine⟨_,_,S,_,hr,?_⟩;refine h.upd hi Z Z Z (by simp) (fun a _ C=>setRow_other w b a _ (fun R=>C (R ▸ hSb))) ?_ (fun a C=>.inl C) (fun _ D=>D.elim);refine⟨_,_,by rw[jg],?_⟩;refine TW.of_elems (w:=w) (S':=Fw.old w) (olds:=cur.toList.take (xs.length*qm.k α)++d) (by simpa using k) h2 hSb (setRow_heap w b _ _ t' _ hg) ?_ (m.app s) ?_
   .rw[jZ,rX (by simpa using l)];simpa using hcur
   .intro r v u;rw[jQ,f];have o:=(List.getElem?_eq_some_iff.1 u).1;have hr2:(cur.toList.take (xs.length*qm.k α)++d++cur.toList.drop (xs.length*qm.k α+d.length))[r]?=V v:=by
     rw[jA o];exact u
    exact hr2
  .have Y:=run_firstCells_some (P:=P) w.drew g.size xs.length ⟨b,0,U⟩ xs.length c (cur.toList.take (xs.length*qm.k α)) (by rw[m.1,f]) (fun j v H=>by
    rw[tk];rw[jJ] at H;split at H
    .have:w.drew.heap[b]?=w.heap[b]?:=rfl;simp only[World.cell?,this,hg];simpa using H
    .cases H)
   exact A _ m Y (by omega)
theorem qbT(K:cv P T){α:Type}[qm α][ee α]{all:Array Oper}{l:List Oper}{d t ty el:Nat}{ps:String}{J:Array Edge}{x y:Operand}{S:Nat->Prop}{xs ys:List α}{p F:Option Addr}{D g c c':Nat}{H b:TE}{I:Value}(i:Nat)
  (h:SH w0 w L) (hi:L[i]?=V (Ch.own S xs [.slice p D c])) (W:dn w (Fw.old w) ys F c') (u:g=ys.length) (X:gg e x=V (.slice p D c)) (Y:gg e y=V (.slice F g c'))
  (A:T.get t=V H) (N:H.kind=.slice el) (r:T.get el=V b) (hz:b.zero=V I) (B:(bc I).length=b.size) (z:b.size=qm.k α)
  (M:Nat.ble b.bytes 65536=An) (f:xs.length+ys.length<=OI) (O:Nat.blt d n=An)
  (s:∀w' o m S2,SH w0 w' (L.set i (Ch.own S2 (xs++ys) [.slice o (xs.length+ys.length) m]))->bu P n Q (.ops all l::k) ((d,.slice o (xs.length+ys.length) m)::e) w') :
  bu P n Q (.ops all (⟨V d,.call ⟨.builtin .append,#[x,y],#[t,t]⟩,ty,ps,J,U⟩::l)::k) e w:=by
 subst u;obtain⟨o,m,S2,w',R,v⟩:=qaq K (ty:=ty) h hi W A N r hz B z M f;refine CC Z Z O (fun a C=>?_) (s w' o m S2 v);simp only[execOp,resolve,invoke,builtin,jk,jm,ji,List.map_toArray,Jf,List.map_nil,C.eval X,C.eval Y,R]
theorem qv(hT:cv P T){α:Type}[qm α][ee α]{all:Array Oper}{l:List Oper}{d t ty el len:Nat}{ps:String}{af:Array Edge}{g:Array (Nat×Operand)}{te m:TE}{zv:Value}(os:List Operand)(f:List Value)(ys:List α)
  (h:SH w0 w L) (hh:(g.toList=(os.zipIdx 0).map fun x=>(x.2,x.1))/\pk e os=V f/\len=f.length/\T.get t=V te/\te.kind=.slice el/\T.get el=V m/\m.zero=V zv/\m.size=qm.k α/\Nat.ble (f.length*m.size) 16777216=An) (u:AP w (Fw.old w) ys (f.map bc)) (hn:Nat.blt d n=An)
  (K:∀w' p S,SH w0 w' (Ch.own S ys [.slice p len len]::L)->bu P n Q (.ops all l::k) ((d,.slice p len len)::e) w') :
  bu P n Q (.ops all (⟨V d,.buildSlice t len g,ty,ps,af,U⟩::l)::k) e w:=by
 obtain⟨s,X,C,W,hk,H,hz,D,i⟩:=hh;have o:∀{ys:List α} {cs:List (List Value)},AP w (Fw.old w) ys cs->ys.length=cs.length/\∀c∈cs,c.length=qm.k α:=by
  intro ys
  induction ys with
  |nil=>intro cs u;cases cs with
   |nil=>simp
   |cons=>exact u.elim
  |cons y ys ih=>
   intro cs u;cases cs with
   |nil=>exact u.elim
   |cons c cs=>
    obtain⟨Y,h2⟩:=u;have:=ih h2;refine⟨by simp[this.1],fun d A=>?_⟩;rcases List.mem_cons.1 A with rfl|A
    .exact qm.len Y
    .exact this.2 d A
 obtain⟨M,N⟩:=o u;have F:∀v∈f,(bc v).length=m.size:=fun v hv=>by rw[D];exact N _ (List.mem_map.2 ⟨v,hv,Z⟩)
 have hr:=FD hT f W hk H hz (js i) F w;subst C;obtain⟨B,J⟩:=u.get;refine CC (v:=.slice (V ⟨w.heap.size,0,U⟩) f.length f.length) (w':=w.alloc (.cells (f.map bc).flatten.toArray el)) Z Z hn (fun a ha=>?_)
  (K _ _ (fun b=>b=w.heap.size) (h.add ((Below.refl _ _).alloc (jf _) _) ?_ ?_ (fun _ A=>A.elim)))
 .have I:g.map (fun(x:Nat×Operand)=>(x.1,a.eval x.2))=((f.zipIdx 0).map fun x=>(x.2,x.1)).toArray:=by
   apply Array.ext';rw[Array.toList_map,s];have:=uG ha X;subst this;rw[List.zipIdx_map,List.map_map,List.map_map]
   rfl
  simp only[execOp,I,jk,hr,ji,jm]
 .have z:ys.length=f.length:=by simpa using M
  refine⟨V ⟨w.heap.size,0,U⟩,f.length,by rw[z],?_⟩;have R:f.length<=maxLen:=by
   have Y:=js i;have h2:f.length*1<=f.length*m.size:=Nat.mul_le_mul_left _ (by rw[D];exact qm.kpos);simp[maxLen];omega
  refine TW.of_elems (w:=w) (S':=Fw.old w) (olds:=(f.map bc).flatten) (by rw[z];exact jf _) R Z (heap_alloc_new w _) ?_ ⟨B,J⟩ (fun r v O=>by simpa using O);rw[jZ,B,z]
 .intro b hb;have:b=w.heap.size:=hb;subst this;exact⟨jf _,by simp⟩
end

@[reducible] def aN {α β:Type} (A:qm α) (B:qm β):qm (α×β) where
 k:=A.k+B.k
 agg:=An
 zero:=(A.zero,B.zero)
 zc:=A.zc++B.zc
 R w S x cs:=∃c1 c2,cs=c1++c2/\A.R w S x.1 c1/\B.R w S x.2 c2
 O w S x cs:=∃S1 S2:Nat->Prop,∃c1 c2,cs=c1++c2/\A.O w S1 x.1 c1/\B.O w S2 x.2 c2/\(∀b,S1 b->S b/\¬ S2 b)/\(∀b,S2 b->S b)
 kpos:=by have:=A.kpos;omega
 noagg h:=by cases h
 len h:=by obtain⟨c1,c2,rfl,h1,h2⟩:=h;rw[jg,A.len h1,B.len h2]
 one h c hc:=by
  obtain⟨c1,c2,rfl,h1,h2⟩:=h
  rcases List.mem_append.1 hc with hc|hc
  .exact A.one h1 c hc
  .exact B.one h2 c hc
 loc h hs:=by obtain⟨c1,c2,rfl,h1,h2⟩:=h;exact⟨c1,c2,Z,A.loc h1 hs,B.loc h2 hs⟩
 mono h hs:=by obtain⟨c1,c2,rfl,h1,h2⟩:=h;exact⟨c1,c2,Z,A.mono h1 hs,B.mono h2 hs⟩
 toR h:=by obtain⟨S1,S2,c1,c2,rfl,h1,h2,h3,h4⟩:=h;exact⟨c1,c2,Z,A.mono (A.toR h1) (fun b hb=>(h3 b hb).1),B.mono (B.toR h2) h4⟩
 locO h hs:=by obtain⟨S1,S2,c1,c2,rfl,h1,h2,h3,h4⟩:=h;exact⟨S1,S2,c1,c2,Z,A.locO h1 (fun b hb=>hs b (h3 b hb).1),B.locO h2 (fun b hb=>hs b (h4 b hb)),h3,h4⟩
 monoO h hs:=by obtain⟨S1,S2,c1,c2,rfl,h1,h2,h3,h4⟩:=h;exact⟨S1,S2,c1,c2,Z,h1,h2,fun b hb=>⟨hs b (h3 b hb).1,(h3 b hb).2⟩,fun b hb=>hs b (h4 b hb)⟩
 zO w S:=⟨fun _=>False,fun _=>False,_,_,Z,A.zO w _,B.zO w _,fun _ h=>h.elim,fun _ h=>h.elim⟩
@[reducible] def uk {α β:Type} (A:qm α) (f:β->α) (z:β) (hz:f z=A.zero) (ag:Bool) (hag:ag=Cd->A.k=1):qm β where
 k:=A.k
 agg:=ag
 zero:=z
 zc:=A.zc
 R w S x cs:=A.R w S (f x) cs
 O w S x cs:=A.O w S (f x) cs
 kpos:=A.kpos
 noagg:=hag
 len h:=A.len h
 one h:=A.one h
 loc h hs:=A.loc h hs
 mono h hs:=A.mono h hs
 toR h:=A.toR h
 locO h hs:=A.locO h hs
 monoO h hs:=A.monoO h hs
 zO w S:=by rw[hz];exact A.zO w S
theorem cT{α β:Type}(A:qm α)(B:qm β)(d:@ee α A)(f:@ee β B):@ee (α×β) (aN A B):=
 @ee.mk _ (aN A B) (by
  intro w w' S S' x cs h;obtain⟨c1,c,rfl,a,b⟩:=h;exact⟨fun _=>False,fun _=>False,c1,c,Z,d.fl a,f.fl b,fun _ h=>h.elim,fun _ h=>h.elim⟩) (by
  intro w w' S S' x cs g h i;obtain⟨c1,c,rfl,a,b⟩:=h;obtain⟨m,d2,rfl,k,l⟩:=i;rw[d.det a k,f.det b l])
theorem rQ{α β:Type}(A:qm α)(f:β->α)(z:β)(d:f z=A.zero)(b:Bool)(a:b=Cd->A.k=1)(c:@ee α A):@ee β (uk A f z d b a):=
 @ee.mk _ (uk A f z d b a) (by intro w w' S S' x cs h;exact c.fl h) (by intro w w' S S' x cs g h i;exact c.det h i)
class iI (ρ:Type) where
 Vs:World->(Nat->Prop)->ρ->List Value->Prop
instance HD{α:Type}[qm α]:iI α where
 Vs w S x vs:=∃cs,vs=[qm.v α cs]/\qm.O w S x cs
instance (priority:=high) vsCons {α β:Type}[qm α][iI β]:iI (α×β) where
 Vs w S x vs:=∃S1 S2:Nat->Prop,∃cs us,vs=qm.v α cs::us/\qm.O w S1 x.1 cs/\iI.Vs w S2 x.2 us/\(∀b,S1 b->S b/\¬ S2 b)/\(∀b,S2 b->S b)
def vK:List Value->Value
 | [v]=>v
 |vs=>.tuple vs.toArray
def qP{ρ:Type}[iI ρ](P:Program)(f:FuncId)(a:List Value)(w:World)(r:ρ):Prop:=
 Calls P f a.toArray w fun e w'=>∃v,e=.returned v/\Below w.heap.size w w'/\∃us,v=vK us/\iI.Vs w' (nu w w') r us
structure FL(w0 w:World)(S:Nat->Prop)(L:List Ch):Prop where
 sh:SH w0 w L
 fr:∀b,S b->nu w0 w b
 ap:∀c∈L,∀b,c.S b->¬ S b
section
variable{P:Program}{T:uV}{n:Nat}{Q:Exit->Act->World->Prop}{k:List It}{e:fy}{w0 w w':World}{L:List Ch}{S:Nat->Prop}
theorem FL.push{c:Ch}{S2:Nat->Prop}(h:FL w0 w S L)(n:c.P w)(l:∀b,c.D b->b<w0.heap.size)(i:∀b,c.S b->S b/\¬ S2 b)(k:∀b,S2 b->S b):FL w0 w S2 (c::L):=by
 refine⟨⟨h.sh.below,fun d a=>?_,fun d a=>?_,List.pairwise_cons.2 ⟨fun d a b m f=>h.ap d a b f (i b m).1,h.sh.apart⟩⟩,fun b g=>h.fr b (k b g),fun d a b f g=>?_⟩
 .rcases List.mem_cons.1 a with rfl|a
  .exact⟨n,fun b g=>h.fr b (i b g).1⟩
  .exact h.sh.holds d a
 .rcases List.mem_cons.1 a with rfl|a
  .exact l
  .exact h.sh.elder d a
 .rcases List.mem_cons.1 a with rfl|a
  .exact(i b f).2 g
  .exact h.ap d a b f (k b g)
theorem FL.cons{α β:Type}[qm α][iI β]{r:α×β}{b:List Value}(h:FL w0 w S L)(l:iI.Vs w S r b) :
  ∃S1 S2 cs a,b=qm.v α cs::a/\FL w0 w S2 (Ch.own S1 r.1 cs::L)/\iI.Vs w S2 r.2 a:=by
 obtain⟨S1,S2,cs,a,rfl,d,f,g,i⟩:=l;exact⟨S1,S2,cs,a,Z,h.push (c:=Ch.own S1 r.1 cs) d (fun _ k=>k.elim) g i,f⟩
theorem FL.last{α:Type}[qm α]{r:α}{a:List Value}(h:FL w0 w S L)(i:(HD:iI α).Vs w S r a):∃cs,a=[qm.v α cs]/\SH w0 w (Ch.own S r cs::L):=by
 obtain⟨cs,rfl,d⟩:=i;exact⟨cs,Z,(h.push (c:=Ch.own S r cs) (S2:=fun _=>False) d (fun _ g=>g.elim) (fun b f=>⟨f,fun h=>h⟩) (fun _ h=>h.elim)).sh⟩
theorem FL.consI{β:Type}[iI β]{r:Int×β}{i:List Value}(h:FL w0 w S L)(n:iI.Vs w S r i):∃S2 a,i=.int .i64 r.1::a/\FL w0 w S2 L/\iI.Vs w S2 r.2 a:=by
 obtain⟨S1,S2,cs,a,rfl,k,l,o,g⟩:=n;have:cs=[.int .i64 r.1]:=k;subst this;exact⟨S2,a,Z,⟨h.sh,fun b d=>h.fr b (g b d),fun c m b f d=>h.ap c m b f (g b d)⟩,l⟩
theorem FL.consB{β:Type}[iI β]{r:Bool×β}{i:List Value}(h:FL w0 w S L)(n:iI.Vs w S r i):∃S2 a,i=.bool r.1::a/\FL w0 w S2 L/\iI.Vs w S2 r.2 a:=by
 obtain⟨S1,S2,cs,a,rfl,k,l,o,g⟩:=n;have:cs=[.bool r.1]:=k;subst this;exact⟨S2,a,Z,⟨h.sh,fun b d=>h.fr b (g b d),fun c m b f d=>h.ap c m b f (g b d)⟩,l⟩
theorem FL.consL{α β:Type}[qm α][iI β]{r:List α×β}{d:List Value}(h:FL w0 w S L)(g:iI.Vs w S r d) :
  ∃S1 S2 p c a,d=.slice p r.1.length c::a/\FL w0 w S2 (Ch.own S1 r.1 [.slice p r.1.length c]::L)/\iI.Vs w S2 r.2 a:=by
 obtain⟨S1,S2,cs,a,rfl,b,f⟩:=h.cons g;obtain⟨p,c,rfl,_⟩:=(b.sh.mem (i:=0) Z).1;exact⟨S1,S2,p,c,a,Z,b,f⟩
theorem FL.lastI{r:Int}{a:List Value}(h:FL w0 w S L)(c:(HD:iI Int).Vs w S r a):a=[.int .i64 r]/\SH w0 w L:=by
 obtain⟨cs,rfl,b⟩:=c;have:cs=[.int .i64 r]:=b;subst this;exact⟨Z,h.sh⟩
theorem FL.lastB{r:Bool}{a:List Value}(h:FL w0 w S L)(c:(HD:iI Bool).Vs w S r a):a=[.bool r]/\SH w0 w L:=by
 obtain⟨cs,rfl,b⟩:=c;have:cs=[.bool r]:=b;subst this;exact⟨Z,h.sh⟩
theorem FL.lastS{r:ByteArray}{a:List Value}(h:FL w0 w S L)(c:(HD:iI ByteArray).Vs w S r a):a=[.string r]/\SH w0 w L:=by
 obtain⟨cs,rfl,b⟩:=c;have:cs=[.string r]:=b;subst this;exact⟨Z,h.sh⟩
theorem FL.lastL{α:Type}[qm α]{r:List α}{b:List Value}(h:FL w0 w S L)(d:(HD:iI (List α)).Vs w S r b):∃p c,b=[.slice p r.length c]/\SH w0 w (Ch.own S r [.slice p r.length c]::L):=by
 obtain⟨cs,rfl,a⟩:=h.last d;obtain⟨p,c,rfl,_⟩:=(a.mem (i:=0) Z).1;exact⟨p,c,Z,a⟩
def kL(P:Program)(f:FuncId):Prop:=∃fn,P.funcs[f]?=V fn/\fn.body.isSome=An/\(fn.name== "runtime.NumGoroutine")=Cd
theorem sO{a:Act}(r:gc n e a){d ty:Nat}{ps:String}{s:Array Edge}{g:Option (Nat×Bool)}{x:Operand}{b:Array Operand}{k:Array TypeId}{f:FuncId}{p o:Array Value}{m:List Value}
  (h:kL P f) (z:gg e x=V (.func (.func f) p o)) (c:pk e b.toList=V m) (w:World) :
  (execOp a.eval ⟨V d,.call ⟨.value x,b,k⟩,ty,ps,s,g⟩).run P w=.ok (.enter f (p.toList++m++o.toList).toArray) w:=by
 obtain⟨t,v,u,y⟩:=h;have l:t.body.isNone=Cd:=by simpa using u
 have i:=rd r c;simp only[execOp,resolve,Deferred.ofValue,jk,jm,ji,r.eval z,invoke,callFunc,run_program,v,y,l,i,Bool.false_eq_true,if_false]
 congr 2
 apply Array.ext';simp
theorem bG{ρ:Type}[iI ρ](r:ρ){all:Array Oper}{l:List Oper}{d ty:Nat}{ps:String}{D:Array Edge}{x:Operand}{i:Array Operand}{s:Array TypeId}{f:FuncId}{B A:Array Value}{z C:List Value}
  (h:SH w0 w L) (o:kL P f) (t:qP P f C w r) (M:gg e x=V (.func (.func f) B A)) (m:pk e i.toList=V z) (y:B.toList++z++A.toList=C) (J:Nat.blt d n=An)
  (I:∀w' S p,FL w0 w' S L->iI.Vs w' S r p->bu P n Q (.ops all l::k) ((d,vK p)::e) w'):bu P n Q (.ops all (⟨V d,.call ⟨.value x,i,s⟩,ty,ps,D,U⟩::l)::k) e w:=by
 subst y;refine zD (R:=fun v w'=>Below w.heap.size w w'/\∃p,v=vK p/\iI.Vs w' (nu w w') r p) Z Z J (fun a F=>sO F o M m w) t ?_;rintro v w' ⟨H,p,rfl,K⟩;refine I w' _ p ⟨h.ext H,fun b g=>⟨?_,g.2⟩,fun c t b u g=>?_⟩ K
 .have:=g.1;have:=h.below.size;omega
 .have:=((h.holds c t).2 b u).2;have:=g.1;omega
theorem fJ(r:Int){all:Array Oper}{l:List Oper}{d ty:Nat}{ps:String}{t:Array Edge}{x:Operand}{a:Array Operand}{g:Array TypeId}{f:FuncId}{p o:Array Value}{m s:List Value}
  (h:SH w0 w L) (c:kL P f) (v:qP P f s w r) (C:gg e x=V (.func (.func f) p o)) (b:pk e a.toList=V m) (i:p.toList++m++o.toList=s) (z:Nat.blt d n=An)
  (y:∀w',SH w0 w' L->bu P n Q (.ops all l::k) ((d,.int .i64 r)::e) w'):bu P n Q (.ops all (⟨V d,.call ⟨.value x,a,g⟩,ty,ps,t,U⟩::l)::k) e w:=
 bG r h c v C b i z (fun w' S D B A=>by obtain⟨rfl,u⟩:=B.lastI A;exact y w' u)
theorem qa8(r:Bool){all:Array Oper}{l:List Oper}{d ty:Nat}{ps:String}{t:Array Edge}{x:Operand}{a:Array Operand}{g:Array TypeId}{f:FuncId}{p o:Array Value}{m s:List Value}
  (h:SH w0 w L) (c:kL P f) (v:qP P f s w r) (C:gg e x=V (.func (.func f) p o)) (b:pk e a.toList=V m) (i:p.toList++m++o.toList=s) (z:Nat.blt d n=An)
  (y:∀w',SH w0 w' L->bu P n Q (.ops all l::k) ((d,.bool r)::e) w'):bu P n Q (.ops all (⟨V d,.call ⟨.value x,a,g⟩,ty,ps,t,U⟩::l)::k) e w:=
 bG r h c v C b i z (fun w' S D B A=>by obtain⟨rfl,u⟩:=B.lastB A;exact y w' u)
theorem MB(r:ByteArray){all:Array Oper}{l:List Oper}{d ty:Nat}{ps:String}{t:Array Edge}{x:Operand}{a:Array Operand}{g:Array TypeId}{f:FuncId}{p o:Array Value}{m s:List Value}
  (h:SH w0 w L) (c:kL P f) (v:qP P f s w r) (C:gg e x=V (.func (.func f) p o)) (b:pk e a.toList=V m) (i:p.toList++m++o.toList=s) (z:Nat.blt d n=An)
  (y:∀w',SH w0 w' L->bu P n Q (.ops all l::k) ((d,.string r)::e) w'):bu P n Q (.ops all (⟨V d,.call ⟨.value x,a,g⟩,ty,ps,t,U⟩::l)::k) e w:=
 bG r h c v C b i z (fun w' S D B A=>by obtain⟨rfl,u⟩:=B.lastS A;exact y w' u)
theorem tR{α:Type}[qm α](r:List α){all:Array Oper}{l:List Oper}{d ty:Nat}{ps:String}{v:Array Edge}{x:Operand}{a:Array Operand}{i:Array TypeId}{f:FuncId}{t s:Array Value}{o u:List Value}
  (h:SH w0 w L) (g:kL P f) (z:qP P f u w r) (F:gg e x=V (.func (.func f) t s)) (b:pk e a.toList=V o) (m:t.toList++o++s.toList=u) (B:Nat.blt d n=An)
  (A:∀w' S p c,SH w0 w' (Ch.own S r [.slice p r.length c]::L)->bu P n Q (.ops all l::k) ((d,.slice p r.length c)::e) w'):bu P n Q (.ops all (⟨V d,.call ⟨.value x,a,i⟩,ty,ps,v,U⟩::l)::k) e w:=
 bG r h g z F b m B (fun w' S H D C=>by obtain⟨p,c,rfl,y⟩:=D.lastL C;exact A w' S p c y)
theorem zB{α:Type}[qm α](r:α){all:Array Oper}{l:List Oper}{d ty:Nat}{ps:String}{t:Array Edge}{x:Operand}{a:Array Operand}{g:Array TypeId}{f:FuncId}{p o:Array Value}{m s:List Value}
  (h:SH w0 w L) (c:kL P f) (v:qP P f s w r) (C:gg e x=V (.func (.func f) p o)) (b:pk e a.toList=V m) (i:p.toList++m++o.toList=s) (z:Nat.blt d n=An)
  (y:∀w' S cs,SH w0 w' (Ch.own S r cs::L)->bu P n Q (.ops all l::k) ((d,qm.v α cs)::e) w'):bu P n Q (.ops all (⟨V d,.call ⟨.value x,a,g⟩,ty,ps,t,U⟩::l)::k) e w:=
 bG r h c v C b i z (fun w' S D B A=>by obtain⟨cs,rfl,u⟩:=B.last A;exact y w' S cs u)
def po:Nat->List Value->fy
 |_,[]=>[]
 |i,v::vs=>(i,v)::po (i+1) vs
theorem sD:∀(a:List Value) (i j:Nat) (v:Value),(po i a).get j=V v->i<=j/\a[j-i]?=V v
 | [],_,_,_,h=>by cases h
 |u::a,i,j,v,h=>by
  simp only[po,fy.get] at h;cases hb:Nat.beq i j with
  |true=>
   rw[hb] at h;simp only[Option.some.injEq] at h;have:=HG hb;subst this h;simp
  |false=>
   rw[hb] at h;obtain⟨c,b⟩:=sD a (i+1) j v h;refine⟨by omega,?_⟩;rw[show j-i=(j-(i+1))+1 by omega,List.getElem?_cons_succ];exact b
theorem WG{ρ:Type}[iI ρ]{f:FuncId}{b:Func}{c:Code}{a:List Value}{r:ρ}{m:Nat}(o:P.funcs[f]?=V b)(n:b.body=V c)(p:b.ntmps=m)(s:Nat.ble a.length m=An)
  (h:SH w w []->bu P m (bodyPost P b fun e w'=>∃v,e=.returned v/\Below w.heap.size w w'/\∃us,v=vK us/\iI.Vs w' (nu w w') r us) [.code c] (po 0 a) w):qP P f a w r:=by
 subst p;have t:=js s;refine calls_of_wp o n ?_;have x:=h (SH.start w);have g:gc b.ntmps (po 0 a) { tmps:=a.toArray++Array.replicate (b.ntmps-a.toArray.size) undef,defers:=[] }:=by
  refine⟨Z,by simp;omega,fun i v hi=>?_⟩;obtain⟨_,d⟩:=sD a 0 i v hi;simp only[Nat.sub_zero] at d;have k:=(List.getElem?_eq_some_iff.1 d).1;rw[jE (by simpa using k)];simpa using d
 have l:=x _ g;refine wp_mono l ?_;intro ex y w' u;cases ex<;>exact u
def vE(T:uV)(e:fy)(w:World):List ResultVar->List Value->Prop
 | [],[]=>True
 |.tmp t::rs,v::vs=>e.get t=V v/\vE T e w rs vs
 |.cell a t::rs,v::vs=>(∃b cs te,e.get a=V (.pointer (V ⟨b,0,U⟩))/\T.get t=V te/\cw w b 0 cs/\ld te cs 0=V v)/\vE T e w rs vs
 |_,_=>False
def FC(tmps:Array Value):ResultVar->Sem Value
 |.tmp t=>pure (tmps.getD t undef)
 |.cell a t=>do loadVar t (<-asAddr (tmps.getD a undef))
theorem ZB(a:Func)(tmps:Array Value):results a tmps=(do
  let vs <-a.results.mapM (FC tmps)
  pure (if h:vs.size=1 then vs[0] else .tuple vs)):=rfl
theorem CF(l:cv P T){a:Act}(d:gc n e a):∀{f:List ResultVar} {g:List Value},vE T e w f g->(f.mapM (FC a.tmps)).run P w=.ok g w
 | [],[],_=>rfl
 |.tmp t::f,v::g,h=>by
  have k:=d.at_ t v h.1;have p:=CF l d h.2;have i:(FC a.tmps (.tmp t)).run P w=.ok v w:=by simp[FC,Array.getD_eq_getD_getElem?,k]
  simp only[List.mapM_cons,jk,jm,ji,p,i]
 |.cell x t::f,v::g,h=>by
  obtain⟨⟨b,cs,z,y,m,s,u⟩,r⟩:=h;have k:=d.at_ x _ y;have p:=CF l d r;have c:=NL (P:=P) (w:=w) l m (o:=0) (j:=0) s u;simp only[Instr.loadAt,Instr.sureAddr,jk,jm,ji] at c;have i:(FC a.tmps (.cell x t)).run P w=.ok v w:=by
   simp only[FC,Array.getD_eq_getD_getElem?,k,Option.getD_some,asAddr,jk,jm,ji];exact c
  simp only[List.mapM_cons,jk,jm,ji,p,i]
 | [],_::_,h=>h.elim
 |.tmp _::_,[],h=>h.elim
 |.cell _ _::_,[],h=>h.elim
theorem oc(g:cv P T){a:Act}(h:gc n e a){b:Func}{c:List Value}(i:vE T e w b.results.toList c):(results b a.tmps).run P w=.ok (vK c) w:=by
 have d:=CF (w:=w) g h i;rw[ZB,jk];have f:(b.results.mapM (FC a.tmps)).run P w=.ok c.toArray w:=by
  rw[<-Array.toArray_toList (xs:=b.results),List.mapM_toArray];simp only[Sem.run_map];rw[d]
  rfl
 rw[f];simp only[ji,jm]
 congr 1
 match c with
 | []=>rfl
 | [v]=>simp[vK]
 |_::_::_=>simp[vK]
theorem aq(d:cv P T){b:Func}{ρ:Type}[iI ρ]{r:ρ}(a:List Value)(h:SH w0 w L)(f:vE T e w b.results.toList a)(g:iI.Vs w (nu w0 w) r a) :
  bu P n (bodyPost P b fun e w'=>∃v,e=.returned v/\Below w0.heap.size w0 w'/\∃a,v=vK a/\iI.Vs w' (nu w0 w') r a) (.code .ret::k) e w:=
 QQ fun _ c=>⟨c.defers,vK a,oc d c f,vK a,Z,h.below,a,Z,g⟩
theorem qab(r:Int)(S:Nat->Prop):iI.Vs w S r [.int .i64 r]:=⟨[.int .i64 r],Z,Z⟩
theorem qbz(r:Bool)(S:Nat->Prop):iI.Vs w S r [.bool r]:=⟨[.bool r],Z,Z⟩
theorem TI(r:ByteArray)(S:Nat->Prop):iI.Vs w S r [.string r]:=⟨[.string r],Z,Z⟩
def RK(L:List Ch)(I:List Nat)(S:Nat->Prop):Prop:=∀b,S b->∃i c,i∈I/\L[i]?=V c/\c.S b
def PO(w:World)(L:List Ch)(I:List Nat){α:Type}[qm α](r:α)(cs:List Value):Prop:=∃S,qm.O w S r cs/\RK L I S
def PV(w:World)(L:List Ch)(I:List Nat){ρ:Type}[iI ρ](r:ρ)(a:List Value):Prop:=∃S,iI.Vs w S r a/\RK L I S
theorem qS{α:Type}[qm α]{r:α}{cs:List Value}{S:Nat->Prop}(i:Nat)(h:SH w0 w L)(hi:L[i]?=V (Ch.own S r cs)):PO w L [i] r cs:=
 ⟨S,(h.mem hi).1,fun _ a=>⟨i,_,by simp,hi,a⟩⟩
theorem lT{α:Type}[qm α][ee α]{r:α}{cs:List Value}{S:Nat->Prop}(h:qm.R w S r cs):PO w L [] r cs:=
 ⟨fun _=>False,ee.fl h,fun _ h=>h.elim⟩
def eU(I J:List Nat):Bool:=I.all fun i=>J.all fun j=>!(Nat.beq i j)
theorem ug{I J:List Nat}{S1 S2:Nat->Prop}(h:SH w0 w L)(t:RK L I S1)(u:RK L J S2)(x:eU I J=An):∀b,S1 b->¬ S2 b:=by
 intro b l m;obtain⟨i,c,hi,n,g⟩:=t b l;obtain⟨j,d,y,p,k⟩:=u b m;have r:i≠j:=by
  intro o;subst o;have v:=List.all_eq_true.1 x i hi;have s:=List.all_eq_true.1 v i y;rw[P7] at s;cases s
 have a:=(List.getElem?_eq_some_iff.1 n);have f:=(List.getElem?_eq_some_iff.1 p);obtain⟨a,rfl⟩:=a;obtain⟨f,rfl⟩:=f;rcases Nat.lt_or_gt_of_ne r with hlt|hlt
 .exact List.pairwise_iff_getElem.1 h.apart i j a f hlt b g k
 .exact List.pairwise_iff_getElem.1 h.apart j i f a hlt b k g
theorem fp{α β:Type}{A:qm α}{B:qm β}{a:α}{b:β}{c1 f:List Value}{I J:List Nat}(h:SH w0 w L)(g:PO w L I a c1)(k:PO w L J b f)(n:eU I J=An):@PO w L (I++J) (α×β) (aN A B) (a,b) (c1++f):=by
 obtain⟨S1,g,w1⟩:=g;obtain⟨S2,k,m⟩:=k;have l:=ug h w1 m n;refine⟨fun x=>S1 x\/S2 x,⟨S1,S2,c1,f,Z,g,k,fun x d=>⟨.inl d,l x d⟩,fun x d=>.inr d⟩,?_⟩;rintro x (d|d)
 .obtain⟨i,c,hi,h⟩:=w1 x d;exact⟨i,c,by simp[hi],h⟩
 .obtain⟨i,c,hi,h⟩:=m x d;exact⟨i,c,by simp[hi],h⟩
theorem pJ{α:Type}[qm α]{r:α}{cs:List Value}{I:List Nat}(h:PO w L I r cs):PV w L I r [qm.v α cs]:=by
 obtain⟨S,a,b⟩:=h;exact⟨S,⟨cs,Z,a⟩,b⟩
theorem ai{α β:Type}[qm α][iI β]{a:α}{b:β}{cs l:List Value}{I J:List Nat}(h:SH w0 w L)(f:PO w L I a cs)(g:PV w L J b l)(n:eU I J=An):PV w L (I++J) (a,b) (qm.v α cs::l):=by
 obtain⟨S1,f,w1⟩:=f;obtain⟨S2,g,m⟩:=g;have k:=ug h w1 m n;refine⟨fun x=>S1 x\/S2 x,⟨S1,S2,cs,l,Z,f,g,fun x d=>⟨.inl d,k x d⟩,fun x d=>.inr d⟩,?_⟩;rintro x (d|d)
 .obtain⟨i,c,hi,h⟩:=w1 x d;exact⟨i,c,by simp[hi],h⟩
 .obtain⟨i,c,hi,h⟩:=m x d;exact⟨i,c,by simp[hi],h⟩
end
class RI (ρ:Type) [iI ρ]:Prop where
 mono:∀{w:World} {S S':Nat->Prop} {r:ρ} {us:List Value},iI.Vs w S r us->(∀b,S b->S' b)->iI.Vs w S' r us
instance {α:Type}[qm α]:RI α:=⟨fun h hs=>by obtain⟨cs,rfl,h⟩:=h;exact⟨cs,Z,qm.monoO h hs⟩⟩
instance (priority:=high){α β:Type}[qm α][iI β]:RI (α×β):=⟨fun h hs=>by
 obtain⟨S1,S2,cs,us,rfl,h1,h2,h3,h4⟩:=h
 exact⟨S1,S2,cs,us,Z,h1,h2,fun b hb=>⟨hs b (h3 b hb).1,(h3 b hb).2⟩,fun b hb=>hs b (h4 b hb)⟩⟩
theorem PV.done{w0 w:World}{L:List Ch}{ρ:Type}[iI ρ][RI ρ]{r:ρ}{f:List Value}{I:List Nat}(h:SH w0 w L)(m:PV w L I r f):iI.Vs w (nu w0 w) r f:=by
 obtain⟨S,g,k⟩:=m;refine RI.mono g (fun b l=>?_);obtain⟨i,c,_,d,a⟩:=k b l;exact(h.mem d).2 b a
class Sg (α:Type) [qm α] where
 c:α->List Value
 r:∀(w:World) (S:Nat->Prop) (x:α),qm.R w S x (c x)
instance:Sg Int:=⟨fun x=>[.int .i64 x],fun _ _ _=>rfl⟩
instance:Sg Bool:=⟨fun x=>[.bool x],fun _ _ _=>rfl⟩
instance:Sg ByteArray:=⟨fun x=>[.string x],fun _ _ _=>rfl⟩
theorem vk{w:World}{L:List Ch}{α:Type}[qm α][ee α][Sg α]{x:α}:PO w L [] x (Sg.c x):=lT (S:=fun _=>False) (Sg.r _ _ _)
theorem ul{w:World}{L:List Ch}{α:Type}[qm α][ee α][Sg α]{x:α}:PV w L [] x [qm.v α (Sg.c x)]:=pJ vk

section
variable{P:Program}{T:uV}{n:Nat}{Q:Exit->Act->World->Prop}{k:List It}{e:fy}{w0 w w':World}{L:List Ch}
def lB(P:Program)(n:Nat)(Q:Exit->Act->World->Prop)(k:List It)(all:Array Oper)(w:World)(l:List Oper)(e:fy):Prop:=
 ∀a,gc n e a->wpQuiet P all (fun w'=>Below w.heap.size w w') (fun b=>∀w',Below w.heap.size w w'->post P Q k .normal b w') l a
theorem qcH{id:Nat}{ops:List Oper}(d:P.follows .mixedOrders=An)(b:Region.lexB .any ops.toArray=An)(h:lB P n Q k ops.toArray w ops e):bu P n Q (.code (.region id ops.toArray An)::k) e w:=by
 intro a c;refine wp_region_quiet (C:=fun w'=>Below w.heap.size w w') d b ⟨Z,Z,Z,jf _,fun _ _=>rfl⟩ ?_;exact h a c
theorem qc8{all:Array Oper}(h:∀w',Below w.heap.size w w'->bu P n Q k e w'):lB P n Q k all w [] e:=fun a c w' b=>h w' b a c
theorem qbM{all:Array Oper}{l:List Oper}{op:Op}{d t:Nat}{ps:String}{b:Array Edge}{v:Value}
  (h:∀w',Below w.heap.size w w'->KP P n e ⟨V d,op,t,ps,b,U⟩ w' v) (i:Nat.blt d n=An) (g:lB P n Q k all w l ((d,v)::e)):lB P n Q k all w (⟨V d,op,t,ps,b,U⟩::l) e:=by
 intro a f;have m:Region.wanted (⟨V d,op,t,ps,b,U⟩:Oper) (yielded all a.tmps)=An:=rfl;rw[wpQuiet,if_pos m];refine⟨v,fun w' c=>?_,g _ (f.put i v)⟩;unfold Oper.quietAt;rw[h w' c a f];exact⟨Z,Z⟩
theorem qd2(b:cv P T){all:Array Oper}{l:List Oper}{op:Op}{d t:Nat}{ps:String}{a:Array Edge}{v:Value}
  (h:vj T e op=V v) (f:Nat.blt d n=An) (c:lB P n Q k all w l ((d,v)::e)):lB P n Q k all w (⟨V d,op,t,ps,a,U⟩::l) e:=
 qbM (fun w' _=>WY b h w') f c
theorem R1{all:Array Oper}{o:Oper}{l:List Oper}(h:zh e all o=V An)
  (d:lB P n Q k all w ({ o with guard:=U }::l) e):lB P n Q k all w (o::l) e:=by
 intro a c;have b:=d a c;have f:=zi c h;rw[wpQuiet,if_pos f];rw[wpQuiet,if_pos (by simp[Region.wanted])] at b;exact b
theorem en{ρ:Type}[qm ρ](r:ρ){v:Value}(J:∀(w:World) (S:Nat->Prop) (m:List Value),(HD:iI ρ).Vs w S r m->m=[v]){all:Array Oper}{l:List Oper}{d ty:Nat}{ps:String}{s:Array Edge}{x:Operand}{b:Array Operand}{i:Array TypeId}{f:FuncId}{z y:Array Value}{t B:List Value}
  (g:kL P f) (D:∀w',Below w.heap.size w w'->qP (ρ:=ρ) P f B w' r) (L:gg e x=V (.func (.func f) z y)) (c:pk e b.toList=V t) (o:z.toList++t++y.toList=B) (H:Nat.blt d n=An)
  (F:lB P n Q k all w l ((d,v)::e)):lB P n Q k all w (⟨V d,.call ⟨.value x,b,i⟩,ty,ps,s,U⟩::l) e:=by
 intro a A;subst o;have K:Region.wanted (⟨V d,.call ⟨.value x,b,i⟩,ty,ps,s,U⟩:Oper) (yielded all a.tmps)=An:=rfl;rw[wpQuiet,if_pos K];refine⟨v,fun w' h=>?_,F _ (A.put H v)⟩;unfold Oper.quietAt;rw[sO A g L c w'];refine⟨Z,(D w' h).mono ?_⟩;rintro M p ⟨u,rfl,C,m,rfl,I⟩;refine⟨?_,h.trans (C.mono h.size)⟩;rw[J p _ m I]
 rfl
theorem qby(r:Int)(w:World)(S:Nat->Prop)(a:List Value)(h:(HD:iI Int).Vs w S r a):a=[.int .i64 r]:=by
 obtain⟨cs,rfl,h⟩:=h;have:cs=[.int .i64 r]:=h;subst this;rfl
theorem KO(r:Bool)(w:World)(S:Nat->Prop)(a:List Value)(h:(HD:iI Bool).Vs w S r a):a=[.bool r]:=by
 obtain⟨cs,rfl,h⟩:=h;have:cs=[.bool r]:=h;subst this;rfl
def SA(st:List Nat)(C:World->Prop)(a:Array Bool)(w:World):Prop:=(∀s∈st,a.getD s An=Cd)->C w
def KA(P:Program)(ops:Array Oper)(Q:Exit->Act->World->Prop)(st:List Nat)(C:World->Prop):Nat->Array Bool->Act->World->Prop
 |0,listed,a,w=>Region.ready .any ops listed=[]/\Q .normal a w
 |fuel+1,listed,a,w=>
  (Region.ready .any ops listed=[]->Q .normal a w) /\
  ∀i∈Region.ready .any ops listed,wpOp P ops Q i (fun b w'=>SA st C (listed.setIfInBounds i An) w'/\KA P ops Q st C fuel (listed.setIfInBounds i An) b w') a w
theorem FK{ops:Array Oper}{st:List Nat}{C:World->Prop}:∀(b:Nat) (c:Array Bool) (a:Act) (w:World),KA P ops Q st C b c a w->wpAny P .any ops Q b c a w
 |0,_,_,_,h=>h
 |b+1,_,_,_,h=>⟨h.1,fun i hi=>wpOp_mono (fun d w' f=>FK b _ d w' f.2) (h.2 i hi)⟩
def CT(ops:Array Oper)(i s:Nat):Bool:=
 match ops[s]? with
 |some o=>o.after.any fun e=>Region.binds .any e&&e.on==i
 |none=>Cd
theorem TM{ops:Array Oper}{st:List Nat}{C:World->Prop}{i:Nat}{B:Oper}{v:Value}(hi:ops[i]?=V B)(y:∀(j:Nat) (o:Oper) cs b,ops[j]?=V o->o.op≠.select cs b)
  (hQ:∀c a w,Q (.panic c) (a.put B.dst v) w->Q (.panic c) a w) (N:∀s∈st,s≠i/\CT ops i s=An) :
  ∀(f:Nat) (d:Array Bool) (a:Act) (w:World),
   (∀j D,ops[j]?=V D->j≠i->d.getD j An=Cd->(∀e∈D.after,Region.binds .any e=An->e.on≠i)->B.apart ops D=An) ->
   i∈Region.ready .any ops d->YieldsIf P ops C B v a->(∀s∈st,d.getD s An=Cd)->C w ->
   KA P ops Q st C f (d.setIfInBounds i An) (a.put B.dst v) w->KA P ops Q st C (f+1) d a w:=by
 intro f
 induction f with
 |zero=>
  intro d a w _ A T l I H;refine⟨fun h=>(by rw[h] at A;cases A),fun j S=>?_⟩;by_cases g:j=i
  .subst g;exact T.wpOp hi I ⟨fun _=>I,H⟩
  .have:=ready_mono S g;rw[H.1] at this;cases this
 |succ f ih=>
  intro d a w m A T l I H;refine⟨fun h=>(by rw[h] at A;cases A),fun j S=>?_⟩;by_cases g:j=i
  .subst g;exact T.wpOp hi I ⟨fun _=>I,H⟩
  .have z:=H.2 j (ready_mono S g);obtain⟨t,D,p,J⟩:=mem_ready.1 S;have u:∀e∈D.after,Region.binds .any e=An->e.on≠i:=fun e he K X=>by
    have z:=J e he K;have h0:=(mem_ready.1 A).1;rw[X] at z;rcases Nat.lt_or_ge i d.size with h'|h'
    .simp[h'] at h0 z;rw[h0] at z;cases z
    .simp[Array.getElem?_eq_none h'] at z
   have r:∀s∈st,j≠s:=by
    intro s x Y;subst Y;have:=(N j x).2;unfold CT at this;rw[p] at this;obtain⟨ed,W,K⟩:=Array.any_eq_true'.1 this;simp only[je,beq_iff_eq] at K;exact u ed W K.1 K.2
   have O:∀s∈st,(d.setIfInBounds j An).getD s An=Cd:=fun s x=>by rw[getD_set_ne An (r s x)];exact l s x
   have h2:=wpOp_putIf p (m j D p g t u) (fun cs b=>y i B cs b hi) (fun cs b=>y j D cs b p) hQ T z;have n:∀k ok,ops[k]?=V ok->k≠i->(d.setIfInBounds j An).getD k An=Cd ->
     (∀e∈ok.after,Region.binds .any e=An->e.on≠i)->B.apart ops ok=An:=fun k ok hk a3 l a4=>by
    refine m k ok hk a3 ?_ a4;by_cases L:j=k
    .subst L;exact t
    .rw[getD_set_ne An L] at l;exact l
   have M:∀F,SA st C ((d.setIfInBounds i An).setIfInBounds j An) F->C F:=fun F h=>h (fun s x=>by
    rw[getD_set_ne An (r s x),getD_set_ne An (fun h=>(N s x).1 h.symm)];exact l s x)
   refine wpOp_mono (fun a' w' R=>⟨fun _=>M w' R.2.1,ih (d.setIfInBounds j An) a' w' n (ready_mono A (Ne.symm g)) R.1 O (M w' R.2.1) ?_⟩) h2;rw[Array.setIfInBounds_comm _ _ g];exact R.2.2
def lA(P:Program)(n:Nat)(Q:Exit->Act->World->Prop)(k:List It)(ops:Array Oper)(st:List Nat)(C:World->Prop)(c:Nat)(b:Array Bool)(e:fy)(w:World):Prop:=
 ∀a,gc n e a->KA P ops (post P Q k) st C c b a w
theorem qbS{id:Nat}{ops:List Oper}(st:List Nat)(C:World->Prop)(g:P.follows .mixedOrders=An)(m:Nat)(c:ops.toArray.size=m)(b:Array Bool)(f:Array.replicate m Cd=b)
  (h:∀w',Below w.heap.size w w'->lA P n Q k ops.toArray st C m b e w'):bu P n Q (.code (.region id ops.toArray An)::k) e w:=by
 subst c;subst f;intro a d;refine wp_region_any g (FK (st:=st) (C:=C) _ _ _ _ ?_);exact h { w with drawn:=w.drawn+1 } ⟨Z,Z,Z,jf _,fun _ _=>rfl⟩ a d
theorem K4{k:List It}{b:Func}{R:Ending->World->Prop}{d:Option Tmp}{v:Value}:∀c a w,post P (bodyPost P b R) k (.panic c) (a.put d v) w->post P (bodyPost P b R) k (.panic c) a w:=by
 intro c a w
 induction k with
 |nil=>
  intro h;refine⟨?_,h.2⟩;have:=h.1;cases d<;>exact this
 |cons x k ih=>cases x<;>exact ih
theorem gk{l:Func}{R:Ending->World->Prop}{ops:Array Oper}{st:List Nat}{C:World->Prop}{g:Nat}{b:Array Bool}(i:Nat){d:Nat}{op:Op}{t:Nat}{ps:String}{r:Array Edge}{v:Value}
  (hi:ops[i]?=V ⟨V d,op,t,ps,r,U⟩) (f:Array Bool) (F:b.setIfInBounds i An=f)
  (x:(Region.noSelect ops&&Region.free .any ops b i&&(Region.ready .any ops b).contains i&&st.all (fun s=>!(Nat.beq s i)&&CT ops i s&&!(b.getD s An)))=An)
  (I:∀w',C w'->KP P n e ⟨V d,op,t,ps,r,U⟩ w' v) (B:C w) (H:Nat.blt d n=An)
  (D:lA P n (bodyPost P l R) k ops st C g f ((d,v)::e) w):lA P n (bodyPost P l R) k ops st C (g+1) b e w:=by
 subst F;simp only[je,Jc,jC] at x;obtain⟨⟨⟨y,z⟩,A⟩,o⟩:=x;intro a u;refine TM hi (Region.noSelect_spec y) (fun c a w h=>K4 c a w h) (fun s m=>⟨fun h=>?_,(o s m).1.2⟩) g b a w (Region.free_spec hi z) (by simpa using A) (.inl ⟨Z,fun w' p=>I w' p a u⟩) (fun s m=>(o s m).2) B (D _ (u.put H v));have:=(o s m).1.1;rw[h,P7] at this;cases this
def zJ(P:Program)(_:Nat)(Q:Exit->Act->World->Prop)(k:List It)(ops:Array Oper)(st:List Nat)(C:World->Prop)(c:Nat)(b:Array Bool)(a:Act)(w:World):Prop:=
 SA st C b w/\KA P ops (post P Q k) st C c b a w
theorem bL{ops:Array Oper}{st:List Nat}{C:World->Prop}{c:Nat}{b:Array Bool}{all:Array Oper}(d:SA st C b w)(h:lA P n Q k ops st C c b e w):bu P n Q (.ops all []::.goal (zJ P n Q k ops st C c b)::k) e w:=
 fun a f=>⟨d,h a f⟩
theorem th{ops:Array Oper}{i:Nat}{o:Oper}{J:Act->World->Prop}{a:Act}(hi:ops[i]?=V o)(h:wpList P ops (post P Q (.goal J::k)) [o] a w):wpOp P ops (post P Q k) i J a w:=by
 unfold wpOp;simp only[hi];rw[wpList] at h;split at h
 .rename_i hw
  rw[if_pos hw];rcases h with h|⟨h1,h2⟩
  .refine .inl ?_;unfold Oper.wp at *;generalize (execOp a.eval o).run P w=r at *;cases r with
   |ok m w'=>
    cases m<;>simp only[Oper.upon] at h⊢<;>exact h
   |halt x w'=>cases x<;>simp only[Oper.upon] at h⊢<;>exact h
  .exact .inr ⟨h1,h2⟩
 .rename_i hw
  rw[if_neg hw];exact h
theorem za{ops:Array Oper}{st:List Nat}{C:World->Prop}{d:Nat}{b:Array Bool}(i:Nat){o:Oper}(hi:ops[i]?=V o)(c:Array Bool)(p:b.setIfInBounds i An=c)(l:Region.ready .any ops b=[i])
  (h:bu P n Q (.ops ops [o]::.goal (zJ P n Q k ops st C d c)::k) e w):lA P n Q k ops st C (d+1) b e w:=by
 subst p;intro a m;refine⟨fun f=>(by rw[l] at f;cases f),fun j g=>?_⟩;rw[l] at g;have:j=i:=by simpa using g
 subst this;exact th hi (h a m)
theorem qc6{ops:Array Oper}{st:List Nat}{C:World->Prop}{f:Nat}{b:Array Bool}(i j:Nat){o t:Oper}(hi:ops[i]?=V o)(x:ops[j]?=V t)(c d:Array Bool)(h:b.setIfInBounds i An=c)(l:b.setIfInBounds j An=d)(s:Region.ready .any ops b=[i,j])
  (u:bu P n Q (.ops ops [o]::.goal (zJ P n Q k ops st C f c)::k) e w) (v:bu P n Q (.ops ops [t]::.goal (zJ P n Q k ops st C f d)::k) e w):lA P n Q k ops st C (f+1) b e w:=by
 subst h l;intro a r;refine⟨fun p=>(by rw[s] at p;cases p),fun m g=>?_⟩;rw[s] at g;rcases List.mem_cons.1 g with rfl|g
 .exact th hi (u a r)
 .have:m=j:=by simpa using g
  subst this;exact th x (v a r)
theorem pS{ops:Array Oper}{st:List Nat}{C:World->Prop}{g:Nat}{b:Array Bool}(i j m:Nat){o y l:Oper}(hi:ops[i]?=V o)(D:ops[j]?=V y)(F:ops[m]?=V l)(c d f:Array Bool)(r:b.setIfInBounds i An=c)(s:b.setIfInBounds j An=d)(t:b.setIfInBounds m An=f)(v:Region.ready .any ops b=[i,j,m])
  (z:bu P n Q (.ops ops [o]::.goal (zJ P n Q k ops st C g c)::k) e w) (A:bu P n Q (.ops ops [y]::.goal (zJ P n Q k ops st C g d)::k) e w) (B:bu P n Q (.ops ops [l]::.goal (zJ P n Q k ops st C g f)::k) e w):lA P n Q k ops st C (g+1) b e w:=by
 subst r s t;intro a p;refine⟨fun u=>(by rw[v] at u;cases u),fun x h=>?_⟩;rw[v] at h;rcases List.mem_cons.1 h with rfl|h
 .exact th hi (z a p)
 .rcases List.mem_cons.1 h with rfl|h
  .exact th D (A a p)
  .have:x=m:=by simpa using h
   subst this;exact th F (B a p)
theorem XN{ops:Array Oper}{st:List Nat}{C:World->Prop}{b:Array Bool}(d:Region.ready .any ops b=[])(h:bu P n Q k e w):lA P n Q k ops st C 0 b e w:=
 fun a c=>⟨d,h a c⟩
end

abbrev qj(x:Int):Int:=IntKind.i64.wrap x
inductive eE (ρ σ:Type) where
 |ret (r:ρ)
 |nxt (s:σ)
def xY{α:Type}(n:Int)(z:α):Option (List α):=if 0<=n/\n<=OI then V (List.replicate n.toNat z) else U
theorem aL{α:Type}{n:Int}{z:α}{r:List α}(h:xY n z=V r):0<=n/\n<=OI/\List.replicate n.toNat z=r:=by
 unfold xY at h;split at h
 .rename_i hh;simp only[Option.some.injEq] at h;exact⟨hh.1,hh.2,h⟩
 .cases h
def dj{α:Type}(xs ys:List α):Option (List α):=if xs.length+ys.length<=OI then V (xs++ys) else U
theorem qH{α:Type}{xs ys r:List α}(h:dj xs ys=V r):xs.length+ys.length<=OI/\xs++ys=r:=by
 unfold dj at h;split at h
 .rename_i hh;simp only[Option.some.injEq] at h;exact⟨hh,h⟩
 .cases h
def ak{α:Type}(xs:List α)(i:Int)(y:α):List α:=xs.set i.toNat y
theorem HI{α:Type}{c:Bool}{a b:Option α}{r:α}(d:c=An)(h:(bif c then a else b)=V r):a=V r:=by rw[d] at h;exact h
theorem HH{α:Type}{c:Bool}{a b:Option α}{r:α}(d:c=Cd)(h:(bif c then a else b)=V r):b=V r:=by rw[d] at h;exact h
theorem qc{α β:Type}{x:Option α}{f:α->Option β}{r:β}(h:x.bind f=V r):∃a,x=V a/\f a=V r:=Option.bind_eq_some_iff.1 h
theorem bindE{α β:Type}{x:Option α}{f:α->Option β}{r:β}(h:x.bind f=V r):∃g:α->Option β,g=f/\∃a,x=V a/\g a=V r:=by
 obtain⟨a,b,c⟩:=qc h;exact⟨f,Z,a,b,c⟩
theorem qp{P:Program}{n:Nat}{Q:Exit->Act->World->Prop}{a:List It}{e:fy}{w:World}{α:Type}{c:Operand}{x y:Code}{b:Bool}{f g:Option α}{r:α}(i:gg e c=V (.bool b))(d:(bif b then f else g)=V r)
  (l:f=V r->bu P n Q (.code x::a) e w) (k:g=V r->bu P n Q (.code y::a) e w):bu P n Q (.code (.cond c x y)::a) e w:=
 uH i (fun h=>l (HI h d)) (fun h=>k (HH h d))
theorem qdS{P:Program}{T:uV}{n:Nat}{k:List It}{e:fy}{w0 w:World}{L:List Ch}(c:cv P T){a:Func}{x r:Bool}(h:SH w0 w L)(b:V x=V r)(d:vE T e w a.results.toList [.bool x]) :
  bu P n (bodyPost P a fun e w'=>∃v,e=.returned v/\Below w0.heap.size w0 w'/\∃us,v=vK us/\iI.Vs w' (nu w0 w') r us) (.code .ret::k) e w:=
 Option.some.inj b ▸ aq c (ρ:=Bool) [_] h d (qbz _ _)
theorem qdT{P:Program}{T:uV}{n:Nat}{k:List It}{e:fy}{w0 w:World}{L:List Ch}(c:cv P T){a:Func}{x r:Int}(h:SH w0 w L)(b:V x=V r)(d:vE T e w a.results.toList [.int .i64 x]) :
  bu P n (bodyPost P a fun e w'=>∃v,e=.returned v/\Below w0.heap.size w0 w'/\∃us,v=vK us/\iI.Vs w' (nu w0 w') r us) (.code .ret::k) e w:=
 Option.some.inj b ▸ aq c (ρ:=Int) [_] h d (qab _ _)
abbrev tt:Bool:=An
abbrev ff:Bool:=Cd
theorem qe{α:Type}{a r:α}(h:V a=V r):a=r:=Option.some.inj h
theorem qD{iv:Int}{l m:Nat}(h:iv<(m:Int))(e:l=m):iv<(l:Int):=e ▸ h
section
variable{P:Program}{T:uV}{n:Nat}{Q:Exit->Act->World->Prop}{k:List It}{e:fy}{w0 w w':World}{L:List Ch}
theorem uP{α:Type}[qm α]{S:Nat->Prop}:dn w S ([]:List α) U 0:=⟨by simp,by simp,.inl ⟨.inl Z,Z⟩⟩
theorem fc{α:Type}[qm α]:PO w L [] ([]:List α) [.slice U 0 0]:=⟨fun _=>False,⟨U,0,Z,by simp,by simp,.inl ⟨Z,Z,Z⟩⟩,fun _ h=>h.elim⟩
theorem qcL{t:Nat}{b:Bool}(d:b=An)(g:e.get t=V (.bool b))(f:bu P n Q k ((t,.bool An)::e) w):bu P n Q k e w:=by
 subst d;intro a c;refine f a ⟨c.defers,c.size,fun i v hi=>?_⟩;simp only[fy.get] at hi;cases hbb:Nat.beq t i with
 |true=>rw[hbb] at hi;simp only[Option.some.injEq] at hi;subst hi;have:=HG hbb;subst this;exact c.at_ _ _ g
 |false=>rw[hbb] at hi;exact c.at_ _ _ hi
theorem qcK{t:Nat}{b:Bool}(d:b=Cd)(g:e.get t=V (.bool b))(f:bu P n Q k ((t,.bool Cd)::e) w):bu P n Q k e w:=by
 subst d;intro a c;refine f a ⟨c.defers,c.size,fun i v hi=>?_⟩;simp only[fy.get] at hi;cases hbb:Nat.beq t i with
 |true=>rw[hbb] at hi;simp only[Option.some.injEq] at hi;subst hi;have:=HG hbb;subst this;exact c.at_ _ _ g
 |false=>rw[hbb] at hi;exact c.at_ _ _ hi
theorem qcd{all:Array Oper}{l:List Oper}{t:Nat}{b:Bool}(d:b=An)(g:e.get t=V (.bool b))(f:lB P n Q k all w l ((t,.bool An)::e)):lB P n Q k all w l e:=by
 subst d;intro a c;refine f a ⟨c.defers,c.size,fun i v hi=>?_⟩;simp only[fy.get] at hi;cases hbb:Nat.beq t i with
 |true=>rw[hbb] at hi;simp only[Option.some.injEq] at hi;subst hi;have:=HG hbb;subst this;exact c.at_ _ _ g
 |false=>rw[hbb] at hi;exact c.at_ _ _ hi
theorem qcc{all:Array Oper}{l:List Oper}{t:Nat}{b:Bool}(d:b=Cd)(g:e.get t=V (.bool b))(f:lB P n Q k all w l ((t,.bool Cd)::e)):lB P n Q k all w l e:=by
 subst d;intro a c;refine f a ⟨c.defers,c.size,fun i v hi=>?_⟩;simp only[fy.get] at hi;cases hbb:Nat.beq t i with
 |true=>rw[hbb] at hi;simp only[Option.some.injEq] at hi;subst hi;have:=HG hbb;subst this;exact c.at_ _ _ g
 |false=>rw[hbb] at hi;exact c.at_ _ _ hi
theorem qaa{x y:Operand}{t o d ty:Nat}{ps:String}{i:Array Edge}{g:Option (Nat×Bool)}{kd f:IntKind}{a b:Int}
  (p:0<=b) (l:gg e x=V (.int kd a)) (m:gg e y=V (.int f b)):KP P n e ⟨V d,.binOp .shl t x y o,ty,ps,i,g⟩ w (.int kd (kd.wrap (a*2 ^ (min b.toNat kd.bits)))):=by
 intro c h;have k:¬ b<0:=by omega
 simp only[execOp,h.eval l,h.eval m,jk,sN,ji,binOp,Op.shift,k,if_false,jm]
theorem qbY{x y:Operand}{t m d ty:Nat}{ps:String}{h:Array Edge}{g:Option (Nat×Bool)}{kd:IntKind}{a b:Int}
  (i:b≠0) (k:gg e x=V (.int kd a)) (l:gg e y=V (.int kd b)):KP P n e ⟨V d,.binOp .quo t x y m,ty,ps,h,g⟩ w (.int kd (kd.wrap (a.tdiv b))):=by
 intro c f;simp only[execOp,f.eval k,f.eval l,jk,sN,ji,binOp,ne_eq,not_true_eq_false,if_false,Op.intDiv,i,jm]
theorem Z9{x y:Operand}{t m d ty:Nat}{ps:String}{h:Array Edge}{g:Option (Nat×Bool)}{kd:IntKind}{a b:Int}
  (i:b≠0) (k:gg e x=V (.int kd a)) (l:gg e y=V (.int kd b)):KP P n e ⟨V d,.binOp .rem t x y m,ty,ps,h,g⟩ w (.int kd (a.tmod b)):=by
 intro c f;simp only[execOp,f.eval k,f.eval l,jk,sN,ji,binOp,ne_eq,not_true_eq_false,if_false,Op.intDiv,i,jm]
def Ch.rowD{α:Type}[qm α](w0:World)(S:Nat->Prop)(xs:List α)(p:Option Addr)(c:Nat):Ch where
 S:=S
 D _:=False
 P w:=xs.length<=c/\c<=maxLen/\((p=U/\xs=[]/\c=0)\/∃b cur T,p=V ⟨b,0,U⟩/\S b/\w.heap[b]?=V (.cells cur T (0,0))/\cur.size=c*qm.k α /\
  ∀i x,xs[i]?=V x->∃cs,qm.R w0 (old w0) x cs/\∀j v,cs[j]?=V v->cur[i*qm.k α+j]?=V v)
 loc w w' h _ hp:=by
  obtain⟨d,f,a⟩:=hp
  refine⟨d,f,?_⟩
  rcases a with a|⟨b,cur,T,rfl,hb,hg,hc,hx⟩
  .exact .inl a
  .exact .inr ⟨b,cur,T,Z,hb,by rw[h b hb];exact hg,hc,hx⟩
end

section
variable{P:Program}{T:uV}{n:Nat}{Q:Exit->Act->World->Prop}{k:List It}{e:fy}{w0 w w':World}{L:List Ch}
def O5(n:Nat)(J:fy->World->Prop)(a:Act)(w:World):Prop:=∃e,gc n e a/\J e w
theorem V9{J:fy->World->Prop}(b:∀e w,J e w->bu P n Q k e w):∀ex a w,post P Q (.goal (O5 n J)::k) ex a w->post P Q k ex a w:=by
 intro ex a w h;cases ex with
 |normal=>obtain⟨e,f,d⟩:=h;exact b e w d a f
 |exit id=>exact h
 |goto l=>exact h
 |ret=>exact h
 |panic c=>exact h
 |outgrown=>exact h
theorem bd{c:Code}(J:fy->World->Prop)(b:bu P n Q (.code c::.goal (O5 n J)::k) e w)(d:∀e w,J e w->bu P n Q k e w):bu P n Q (.code c::k) e w:=
 fun a f=>wp_mono (b a f) (V9 d)
theorem L8{J:fy->World->Prop}(a:fy)(d:FI e a)(b:J a w):bu P n Q (.goal (O5 n J)::k) e w:=
 fun _ c=>⟨a,c.sub d,b⟩
def va(a:List (Nat×Nat×Option Bool))(i:Nat):Option (Nat×Nat):=
 match a[i]? with
 |some (o,s,_)=>V (o,s)
 |none=>U
theorem QT(w:World):∀(a:List Field),(∀f∈a,(RM P f.type).isSome=An)->(a.mapM fun f=>Prod.mk f.offset <$> sizeOf f.type).run P w=.ok (a.map fun f=>(f.offset,P.cellsOf f.type)) w
 | [],_=>by simp
 |f::a,h=>by
  have k:=QT w a (fun g d=>h g (by simp[d]));obtain⟨b,c⟩:=Option.isSome_iff_exists.1 (h f (by simp));have i:=KH c Z w;simp[List.mapM_cons,i,k]
theorem ZC(A:cv P T){t:TypeId}{g:TE}{zc:Array Value}{a:List (Nat×Value)}{cs:List Value}(v:T.get t=V g)(C:g.kind=.struct)(F:g.zero=V (.agg zc))(h:g.fields.all (fun f=>f.2.2.isSome)=An)
  (B:EE (va g.fields) zc.toList a=V cs) (w:World):(Instr.build t a.toArray).run P w=.ok (.agg cs.toArray) w:=by
 have b:=A _ _ v;obtain⟨i,hi,_,_,x⟩:=pI b;obtain⟨d,z,o⟩:=oI b;rw[C] at o;cases d<;>simp at o
 rename_i fs
 have m:g.fields=fs.toList.map (fun f=>(f.offset,P.cellsOf f.type,RM P f.type)):=by
  unfold ut at b;rw[hi,z] at b;simp only[Option.some.injEq] at b;rw[<-b]
 have l:∀f∈fs.toList,(RM P f.type).isSome=An:=by
  intro f r;rw[m] at h;simp only[List.all_map,Jc,Function.comp] at h;exact h f r
 have D:=QT (P:=P) w fs.toList l;have k:=rP _ _ _ _ B;have u:∀(n:Nat),va g.fields n=(fs.toList.map fun f=>(f.offset,P.cellsOf f.type)).toArray[n]?:=by
  intro n;unfold va;rw[m];simp only[List.getElem?_map,jQ];cases fs.toList[n]?<;>rfl
 have s:(fs.mapM fun f=>Prod.mk f.offset <$> sizeOf f.type).run P w=.ok (fs.toList.map fun f=>(f.offset,P.cellsOf f.type)).toArray w:=by
  rw[<-Array.toArray_toList (xs:=fs),List.mapM_toArray];simp only[Sem.run_map];rw[D]
  rfl
 have c:Instr.fill ((fs.toList.map fun f=>(f.offset,P.cellsOf f.type)).toArray[·]?) zc a=V cs.toArray:=by
  have:(fun n=>(fs.toList.map fun f=>(f.offset,P.cellsOf f.type)).toArray[n]?)=va g.fields:=funext fun n=>(u n).symm;rw[this];simpa using k
 have y:i.zero=V (.agg zc):=x.trans F;simp only[Instr.build,zeroValue,typeInfo,jk,run_program,ji,hi,jm,y,run_underlying z,Value.cells];have p:(fs.mapM fun f=>(do let __do_lift <-sizeOf f.type;pure (f.offset,__do_lift):Sem (Nat×Nat))).run P w=.ok (fs.toList.map fun f=>(f.offset,P.cellsOf f.type)).toArray w:=by
  simpa using s
 rw[p];simp only[ji,c,jm]
theorem qC(r:cv P T){t d ty:Nat}{ps:String}{p:Array Edge}{g:Option (Nat×Bool)}{b:Array (Nat×Operand)}{h:TE}{zc:Array Value}(is:List Nat)(os:List Operand){o:List Value}{cs:List Value}
  (v:b.toList=is.zip os/\is.length=os.length/\pk e os=V o/\T.get t=V h/\h.kind=.struct/\h.zero=V (.agg zc)/\(h.fields.all (fun f=>f.2.2.isSome)=An)/\EE (va h.fields) zc.toList (is.zip o)=V cs):KP P n e ⟨V d,.build t b,ty,ps,p,g⟩ w (.agg cs.toArray):=by
 obtain⟨c,_,m,l,y,A,i,u⟩:=v;intro a s;have k:b.map (fun(x:Nat×Operand)=>(x.1,a.eval x.2))=(is.zip o).toArray:=by
  apply Array.ext';rw[Array.toList_map,c];have:=uG s m;subst this;simp only[List.zip_map_right]
  rfl
 have z:=ZC r l y A i u w;simp only[execOp,k,jk,z,ji,jm]
end
def L7(a b:Int):Option Int:=if b=0 then U else V (IntKind.i64.wrap (a.tdiv b))
theorem QO{a b r:Int}(h:L7 a b=V r):b≠0/\IntKind.i64.wrap (a.tdiv b)=r:=by
 unfold L7 at h;split at h
 .cases h
 .rename_i hb;exact⟨hb,Option.some.inj h⟩
def LF(a b:Int):Option Int:=if b=0 then U else V (a.tmod b)
theorem wq{a b r:Int}(h:LF a b=V r):b≠0/\a.tmod b=r:=by
 unfold LF at h;split at h
 .cases h
 .rename_i hb;exact⟨hb,Option.some.inj h⟩
def ZJ(a b:Int):Option Int:=if 0<=b then V (IntKind.i64.wrap (a*2 ^ (min b.toNat IntKind.i64.bits))) else U
theorem IJ{a b r:Int}(h:ZJ a b=V r):0<=b/\IntKind.i64.wrap (a*2 ^ (min b.toNat IntKind.i64.bits))=r:=by
 unfold ZJ at h;split at h
 .rename_i hb;exact⟨hb,Option.some.inj h⟩
 .cases h
theorem qQ{α:Type}[qm α][ee α]{w0 w w1:World}{L:List Ch}{S S1:Nat->Prop}{xs:List α}{p:Option Addr}{s c b o q:Nat}{iv:Int}{x:α}{cs:List Value}(h:SH w0 w L)(i:Nat)(hi:L[i]?=V (Ch.own S xs [.slice p s c]))
  (r:qF xs iv=V x) (l:p=V ⟨b,o,U⟩) (m:q=o+iv.toNat*qm.k α) (n:qm.R w1 S1 x cs):cw w b q cs:=by
 obtain⟨t,u,v,k,a,f,_,g,d⟩:=(h.sl i hi).1.at r;rw[l] at a;simp only[Option.some.injEq,Addr.mk.injEq,and_true] at a;obtain⟨rfl,rfl⟩:=a;subst m f;rw[ee.det n g];exact d
section
variable{P:Program}{T:uV}{n:Nat}{Q:Exit->Act->World->Prop}{k:List It}{e:fy}{w0 w w':World}{L L':List Ch}
theorem SH.pickT(m:Nat)(is:List Nat)(h:SH w0 w L)(r:(HZ is&&is.all (fun i=>Nat.blt i m))=An):SH w0 w (GK L is++L.drop m):=by
 simp only[je,Jc] at r;have g:=h.p is r.1;refine⟨h.below,fun c a=>?_,fun c a=>?_,?_⟩
 .rcases List.mem_append.1 a with a|a
  .exact g.holds c a
  .exact h.holds c (List.mem_of_mem_drop a)
 .rcases List.mem_append.1 a with a|a
  .exact g.elder c a
  .exact h.elder c (List.mem_of_mem_drop a)
 .refine List.pairwise_append.2 ⟨g.apart,h.apart.sublist (List.drop_sublist _ _),fun c a d s b k l=>?_⟩;obtain⟨i,hi,n⟩:=sX a;have t:i<m:=by simpa [Nat.blt_eq] using r.2 i hi
  obtain⟨j,u,f⟩:=Je s;rw[List.getElem_drop] at f;obtain⟨o,rfl⟩:=List.getElem?_eq_some_iff.1 n;have p:m+j<L.length:=by simp at u;omega
  subst f;exact List.pairwise_iff_getElem.1 h.apart i (m+j) o p (by omega) b k l
theorem SH.headV{c:Ch}(h:SH w0 w (c::L)):FL w0 w c.S L/\c.P w:=by
 have f:=List.pairwise_cons.1 h.apart;exact⟨⟨⟨h.below,fun d a=>h.holds d (by simp[a]),fun d a=>h.elder d (by simp[a]),f.2⟩,(h.holds c (by simp)).2,fun d a b i g=>f.1 d a b g i⟩,(h.holds c (by simp)).1⟩
theorem FL.less{S S2:Nat->Prop}(h:FL w0 w S L)(f:∀b,S2 b->S b):FL w0 w S2 L:=
 ⟨h.sh,fun b a=>h.fr b (f b a),fun c g b d a=>h.ap c g b d (f b a)⟩
end
end Go.Fw


namespace Go.Fw
open Go
open Go.ChangeShapes Go.WideShapes Go.ChangeAt Go.RowKit
theorem zp{β:Type}{p:Nat->β->Prop}:∀(n:Nat),(∀i,i<n->∃y,p i y)->∃ys:List β,ys.length=n/\∀i y,ys[i]?=V y->p i y
 |0,_=>⟨[],Z,fun i y h=>by simp at h⟩
 |n+1,h=>by
  obtain⟨ys,b,d⟩:=zp n (fun i hi=>h i (by omega));obtain⟨y,c⟩:=h n (by omega);refine⟨ys++[y],by simp[b],fun i z a=>?_⟩;by_cases hi:i<n
  .rw[jA (by omega)] at a;exact d i z a
  .rw[jD (by omega)] at a;have:i-ys.length=0:=by
    have:=(List.getElem?_eq_some_iff.1 a).1;simp at this;omega
   rw[this] at a;simp only[List.getElem?_cons_zero,Option.some.injEq] at a;subst a;rw[show i=n by omega];exact c
def EC(P:Program)(t:TypeId){α:Type}(A:qm α)(ρ:α->Prop):Prop:=
 P.cellsOf t=A.k/\∀{H:Type} {enc:TypeId×Value->H} {w:World} {a:Nat} {cs:List Value} {x:DataW H×List MemPlace},
  DataW.trod enc P w 0 (fun _=>An) An a t cs=V x->∃y:α,A.R w (old w) y cs/\ρ y
def qbc{α:Type}(ρ:α->Prop)(xs:List α):Prop:=xs.length<=9223372036854775807/\∀x∈xs,ρ x
section
variable{P:Program}{t e:TypeId}
theorem cells?_at {w:World}{a:Addr}{n:Nat}{cs:List Value}(h:w.cells? 0 a n=V cs){j:Nat}{v:Value}(b:cs[j]?=V v):w.cell? (a.add j)=V v:=by
 obtain⟨_,d,c⟩:=World.cells?_some h;rw[c j (by have:=(List.getElem?_eq_some_iff.1 b).1;omega),b]
theorem cell?_open {w:World}{a:Addr}{v:Value}(h:w.cell? a=V v):∃b o cur T fr,a=⟨b,o,U⟩/\b<w.heap.size/\w.heap[b]?=V (.cells cur T fr)/\cur[o]?=V v:=by
 have d:=World.block_lt_of_cell? w a h;have f:=World.cell?_spot h;obtain⟨b,o,s⟩:=a;simp only at f;subst f;unfold World.cell? at h;split at h
 .rename_i c T fr hg
  exact⟨b,o,c,T,fr,Z,d,hg,by simpa using h⟩
 .cases h
theorem VU{α:Type}{A:qm α}{ρ:α->Prop}(ht:P.underlying t=V (.slice e))(R:P.cellsOf t=1)(h:EC P e A ρ):EC P t (@bw α A) (qbc ρ):=by
 refine⟨R,fun {H enc w K cs x} hx=>?_⟩;obtain⟨D,hr⟩:=h;have X:0<A.k:=A.kpos;rcases DataW.trod_slice ht hx with⟨rfl,_⟩|⟨a,len,cap,elems,rest,n,rfl,rfl,_,_,hlc,hcm,hel,h1,u,_⟩
 .exact⟨[],⟨U,0,Z,by simp,by simp,.inl ⟨.inl Z,Z⟩⟩,by simp,by simp⟩
 .obtain⟨hrl,u⟩:=u Z;have d:∀i,i<cap->∃cs,w.cells? 0 (a.add (i*A.k)) A.k=V cs:=by
   intro i hi;by_cases B:i<len
   .have:=h1 i B;rw[jj (by omega)] at this;obtain⟨cs,c,_⟩:=Option.bind_eq_some_iff.1 this;rw[D] at c;exact⟨cs,c⟩
   .have:=u (i-len) (by omega);rw[jj (by omega)] at this;obtain⟨cs,c,_⟩:=Option.bind_eq_some_iff.1 this;rw[D,show len+(i-len)=i by omega] at c;exact⟨cs,c⟩
  obtain⟨ys,s,N⟩:=zp (p:=fun i (y:α)=>∃cs,w.cells? 0 (a.add (i*A.k)) A.k=V cs/\A.R w (old w) y cs/\ρ y) len (fun i hi=>by
   have:=h1 i hi;rw[jj (by omega)] at this;obtain⟨cs,c,S⟩:=Option.bind_eq_some_iff.1 this;rw[D] at c;obtain⟨y,F,I⟩:=hr S;exact⟨y,cs,c,F,I⟩)
  have r:qbc ρ ys:=⟨by rw[s];unfold maxLen at hcm;omega,fun y hm=>by
   obtain⟨i,hi⟩:=List.mem_iff_getElem?.1 hm;obtain⟨_,_,_,h⟩:=N i y hi;exact h⟩
  refine⟨ys,⟨V a,cap,by rw[s],by omega,hcm,?_⟩,r⟩;by_cases k:cap=0
  .exact .inl ⟨.inr k,jO (by omega)⟩
  .obtain⟨c0,g⟩:=d 0 (by omega);obtain⟨_,Y,_⟩:=World.cells?_some g;have e0:=cells?_at g (j:=0) (jj (by omega));have z:(a.add (0*A.k)).add 0=a:=by simp[Addr.add]
   rw[z] at e0;obtain⟨b,o,f,T,fr,rfl,Q,L,_⟩:=cell?_open e0;have m:∀i,i<cap->∀j cs v,w.cells? 0 ((⟨b,o,U⟩:Addr).add (i*A.k)) A.k=V cs->cs[j]?=V v->f[o+i*A.k+j]?=V v:=by
    intro i hi j cs v c C;have:=cells?_at c C;rw[tk,tk] at this;simp only[World.cell?,L] at this;simpa using this
   refine .inr ⟨b,o,f,T,fr,Z,Q,L,?_,fun i y hi=>?_⟩
   .obtain⟨O,l⟩:=d (cap-1) (by omega);obtain⟨_,a3,_⟩:=World.cells?_some l;have:=m (cap-1) (by omega) (A.k-1) O _ l (jj (by omega));have a4:=(Array.getElem?_eq_some_iff.1 this).1;have M:cap*A.k=(cap-1)*A.k+A.k:=by
     have:cap=(cap-1)+1:=by omega
     conv=>lhs;rw[this]
     rw[jP]
    show o+cap*A.k<=f.size;omega
   .obtain⟨cs,c,J,_⟩:=N i y hi;have W:=(List.getElem?_eq_some_iff.1 hi).1;exact⟨cs,J,fun j v C=>m i (by omega) j cs v c C⟩
structure qdH(P:Program)(fs:List Field)(cG:Nat){α:Type}(A:qm α)(ρ:α->Prop):Prop where
 get:∀{H:Type} {enc:TypeId×Value->H} {w:World} {fuel:Nat} {cs:List Value},cs.length=cG+A.k ->
  (∀f∈fs,∃x,DataW.trod enc P w 0 (fun _=>An) An fuel f.type ((cs.drop f.offset).take (P.cellsOf f.type))=V x)->∃y:α,A.R w (old w) y (cs.drop cG)/\ρ y
end
theorem EC.imp{P:Program}{t:TypeId}{α:Type}{A:qm α}{ρ σ:α->Prop}(h:EC P t A ρ)(hi:∀y,ρ y->σ y):EC P t A σ:=
 ⟨h.1,fun c=>by obtain⟨y,a,b⟩:=h.2 c;exact⟨y,a,hi y b⟩⟩
theorem Z6{w:World}{S:Nat->Prop}{a:List Value}(h:(HD:iI Bool).Vs w S An a):vK a=.bool An:=by
 obtain⟨cs,rfl,b⟩:=h;have:cs=[.bool An]:=b;subst this
 rfl
end Go.Fw


namespace Go.Fw
open Go
def Ev{α:Type}(f:Nat->Option α)(r:α):Prop:=∃N,∀n,N<=n->f n=V r
section
variable{α β:Type}{f g:Nat->Option α}{r:α}
theorem Ev.now{x:Option α}(h:x=V r):Ev (fun _=>x) r:=⟨0,fun _ _=>h⟩
theorem Ev.done:Ev (fun _=>V r) r:=⟨0,fun _ _=>rfl⟩
theorem Ev.bind{f:Nat->Option β}{g:Nat->β->Option α}{b:β}(h:Ev f b)(d:Ev (fun n=>g n b) r):Ev (fun n=>(f n).bind (g n)) r:=by
 obtain⟨N,c⟩:=h;obtain⟨M,a⟩:=d;exact⟨max N M,fun n i=>by show(f n).bind (g n)=_;rw[c n (by omega)];exact a n (by omega)⟩
theorem Ev.bindN{x:Option β}{g:Nat->β->Option α}{b:β}(h:x=V b)(a:Ev (fun n=>g n b) r):Ev (fun n=>x.bind (g n)) r:=Ev.bind (.now h) a
theorem Ev.tt{c:Bool}(a:c=An)(h:Ev f r):Ev (fun n=>bif c then f n else g n) r:=by subst a;exact h
theorem Ev.ff{c:Bool}(a:c=Cd)(h:Ev g r):Ev (fun n=>bif c then f n else g n) r:=by subst a;exact h
theorem Ev.bif{c:Bool}(a:c=An->Ev f r)(b:c=Cd->Ev g r):Ev (fun n=>bif c then f n else g n) r:=by
 cases c
 .exact b Z
 .exact a Z
theorem Ev.succ(h:Ev (fun n=>f (n+1)) r):Ev f r:=by
 obtain⟨N,a⟩:=h;refine⟨N+1,fun n b=>?_⟩;obtain⟨m,rfl⟩:∃m,n=m+1:=⟨n-1,by omega⟩;exact a m (by omega)
theorem Ev.step(a:∀n,f (n+1)=g n)(h:Ev g r):Ev f r:=Ev.succ (by simpa [a] using h)
theorem Ev.congr(c:∀n,f n=g n)(h:Ev g r):Ev f r:=by
 obtain⟨N,a⟩:=h;exact⟨N,fun n b=>by rw[c,a n b]⟩
theorem Ev.uniq{b:α}(h:Ev f r)(c:Ev f b):r=b:=by
 obtain⟨N,i⟩:=h;obtain⟨M,g⟩:=c;have d:=i (max N M) (by omega);have a:=g (max N M) (by omega);rw[d] at a;exact Option.some.inj a
theorem Ev.at(h:Ev f r):∃n,f n=V r:=⟨h.choose,h.choose_spec _ (jf _)⟩
end
theorem qY{x:Int}(h:-9223372036854775808<=x)(a:x<=9223372036854775807):qj x=x:=by
 unfold qj;rw[Go.IntWalk.i64_left];exact Go.IntWalk.wrap64_in x ⟨h,a⟩
theorem wO(x:Int)(h:-9223372036854775808<=x:=by omega)(a:x<=9223372036854775807:=by omega):qj x=x:=qY h a
theorem sf{j:Nat}(h:j<9223372036854775807):qj ((j:Int)+1)=((j+1:Nat):Int):=by rw[qY (by omega) (by omega)];omega
theorem wS(j:Nat)(h:j<9223372036854775807:=by omega):qj ((j:Int)+1)=((j+1:Nat):Int):=sf h
theorem qq{j m:Nat}(h:j<m):decide ((j:Int)<(m:Int))=An:=by simp;omega
theorem qu{j m:Nat}(h:m<=j):decide ((j:Int)<(m:Int))=Cd:=by simp;omega
def qy{α:Type}(f:Nat->Option α)(Q:α->Prop):Prop:=∃r,Ev f r/\Q r
section
variable{α β:Type}{f g:Nat->Option α}{Q Q':α->Prop}
theorem qy.of{r:α}(h:Ev f r)(a:Q r):qy f Q:=⟨r,h,a⟩
theorem qy.mono(h:qy f Q)(hi:∀r,Q r->Q' r):qy f Q':=by obtain⟨r,a,b⟩:=h;exact⟨r,a,hi r b⟩
theorem qy.succ(h:qy (fun n=>f (n+1)) Q):qy f Q:=by obtain⟨r,a,b⟩:=h;exact⟨r,a.succ,b⟩
theorem qy.done{r:α}(h:Q r):qy (fun _=>V r) Q:=⟨r,.done,h⟩
theorem qy.bindN{x:Option β}{g:Nat->β->Option α}{b:β}(h:x=V b)(d:qy (fun n=>g n b) Q):qy (fun n=>x.bind (g n)) Q:=by obtain⟨r,a,c⟩:=d;exact⟨r,Ev.bindN h a,c⟩
theorem qy.bindE{f:Nat->Option β}{g:Nat->β->Option α}{b:β}(h:Ev f b)(d:qy (fun n=>g n b) Q):qy (fun n=>(f n).bind (g n)) Q:=by obtain⟨r,a,c⟩:=d;exact⟨r,Ev.bind h a,c⟩
theorem qy.bind{f:Nat->Option β}{g:Nat->β->Option α}{R:β->Prop}(h:qy f R)(d:∀b,R b->qy (fun n=>g n b) Q):qy (fun n=>(f n).bind (g n)) Q:=by
 obtain⟨b,a,c⟩:=h;exact qy.bindE a (d b c)
theorem qy.tt{c:Bool}(a:c=An)(h:qy f Q):qy (fun n=>bif c then f n else g n) Q:=by subst a;exact h
theorem qy.ff{c:Bool}(a:c=Cd)(h:qy g Q):qy (fun n=>bif c then f n else g n) Q:=by subst a;exact h
theorem qy.bif{c:Bool}(a:c=An->qy f Q)(b:c=Cd->qy g Q):qy (fun n=>bif c then f n else g n) Q:=by
 cases c
 .exact b Z
 .exact a Z
end
def Sz(f:Nat->Option Int)(Q:Int->Prop):Prop:=∃r,Ev f r/\(r<0\/(0<=r/\Q r))
theorem Sz.step{f:Nat->Option Int}{g:Nat->Int->Option Int}{Q Q':Int->Prop}(h:Sz f Q)(k:∀r,0<=r->Q r->Sz (fun n=>g n r) Q'):Sz (fun n=>(f n).bind fun r=>bif decide (r<0) then V (-1) else g n r) Q':=by
 obtain⟨r,c,a⟩:=h;by_cases b:r<0
 .exact⟨-1,Ev.bind c (Ev.tt (by simpa using b) .done),.inl (by decide)⟩
 .rcases a with a|⟨h0,a⟩
  .exact absurd a b
  .obtain⟨l,d,i⟩:=k r h0 a;exact⟨l,Ev.bind c (Ev.ff (by simpa using b) d),i⟩
theorem Sz.done{r:Int}{Q:Int->Prop}(h:0<=r)(a:Q r):Sz (fun _=>V r) Q:=⟨r,.done,.inr ⟨h,a⟩⟩
theorem Sz.less{a l:Int}{Q:Int->Prop}(d:0<=a)(f:a<=1048576)(g:0<=l)(h:l<=9223372036854775807)(c:l<=a->Q (a-l)) :
  Sz (fun _=>bif decide (qj (a-l)<0) then V (-1) else V (qj (a-l))) Q:=by
 rw[qY (by omega) (by omega)];by_cases b:a-l<0
 .exact⟨-1,Ev.tt (by simpa using b) .done,.inl (by decide)⟩
 .exact⟨_,Ev.ff (by simpa using b) .done,.inr ⟨by omega,c (by omega)⟩⟩

theorem qcf{P:Nat->Prop}(len:Nat)(b:P len)(a:∀j,j<len->P (j+1)->P j):P 0:=by
 have:∀k,k<=len->P (len-k):=by
  intro k
  induction k with
  |zero=>intro _;exact b
  |succ k ih=>
   intro h;refine a _ (by omega) ?_;rw[show len-(k+1)+1=len-k by omega];exact ih (by omega)
 have h:=this len (jf _);rwa [Nat.sub_self] at h
def qcD{α:Type}(a:List α)(z:α)(j:Nat):List α:=a.take j++List.replicate (a.length-j) z
theorem K3{α:Type}{a:List α}{z:α}:qcD a z 0=List.replicate a.length z:=by simp[qcD]
theorem qaX{α:Type}{a:List α}{z:α}(h:a.length<=2147483648):xY (a.length:Int) z=V (qcD a z 0):=by
 unfold xY OI;rw[if_pos ⟨by omega,by omega⟩,K3];simp
theorem bY{α:Type}{xs:List α}{i:Int}{y:α}:(ak xs i y).length=xs.length:=by simp[ak]
def count(k:Int)(m:Nat):List Int:=(List.range m).map fun(i:Nat)=>k+(i:Int)
end Go.Fw


namespace Go.Fw
open Go
open Go.RowKit (Below)
section
variable{P:Program}{T:uV}{n:Nat}{e:fy}{w:World}
theorem IH(d:Nat){t el:TypeId}(a:P.underlying t=V (.slice el))(p:Option Addr)(l c:Nat)(w:World):(Op.equalIn (d+1) t (.slice p l c) (.slice U 0 0)).run P w=.ok p.isNone w:=by
 cases p<;>simp[Op.equalIn,run_underlying a]
theorem IG(d:Nat){t el:TypeId}(a:P.underlying t=V (.pointer el))(p:Option Addr)(w:World):(Op.equalIn (d+1) t (.pointer p) (.pointer U)).run P w=.ok p.isNone w:=by
 cases p<;>simp[Op.equalIn,run_underlying a]
theorem SU{t el:TypeId}(a:P.underlying t=V (.slice el))(p:Option Addr)(l c:Nat)(w:World):(Op.equal t (.slice p l c) (.slice U 0 0)).run P w=.ok p.isNone w:=by
 simp only[Op.equal,Op.maxDepth];exact IH 9999 a p l c w
theorem ST{t el:TypeId}(a:P.underlying t=V (.pointer el))(p:Option Addr)(w:World):(Op.equal t (.pointer p) (.pointer U)).run P w=.ok p.isNone w:=by
 simp only[Op.equal,Op.maxDepth];exact IG 9999 a p w
theorem OU(op:BinOp)(t:TypeId)(x y:Operand)(p q:Option Addr)(a b c d:Nat)(w:World):(eqGuard op t x y (.slice p a b) (.slice q c d)).run P w=.ok () w:=by
 unfold eqGuard;split<;>rfl
theorem US(op:BinOp)(t:TypeId)(x y:Operand)(p q:Option Addr)(w:World):(eqGuard op t x y (.pointer p) (.pointer q)).run P w=.ok () w:=by
 unfold eqGuard;split<;>rfl
theorem WW(i:cv P T){x y:Operand}{t z d ty el:Nat}{ps:String}{h:Array Edge}{g:Option (Nat×Bool)}{b:TE}{p:Option Addr}{l c:Nat}
  (o:T.get t=V b) (k:b.kind=.slice el) (u:gg e x=V (.slice p l c)) (v:gg e y=V (.slice U 0 0)) {r:Bool} (m:p.isNone=r):KP P n e ⟨V d,.binOp .eql t x y z,ty,ps,h,g⟩ w (.bool r):=by
 intro a f;subst m;have s:=mE (i t b o) k;simp only[execOp,f.eval u,f.eval v,jk,OU,ji,binOp,SU s,jm]
theorem WL{α:Type}[qm α]{S:Nat->Prop}{xs:List α}{c:Nat}(h:dn w S xs U c):xs=[]:=by
 obtain⟨_,_,a⟩:=h;rcases a with⟨_,h⟩|⟨b,o,cur,T,fr,h,_⟩
 .exact h
 .cases h
end

structure TS where
 α:Type
 inst:qm α
 x:α
 cs:List Value
def TS.R(f:TS)(w:World)(S:Nat->Prop):Prop:=f.inst.R w S f.x f.cs
def ti{α:Type}[qm α](x:α)(cs:List Value):TS:=⟨α,inferInstance,x,cs⟩
def Ch.grp(D S:Nat->Prop)(fs:List TS):Ch where
 S:=S
 D:=D
 P w:=∀f∈fs,f.R w (fun b=>S b\/D b)
 loc _ _ h h' hp f hf:=qm.loc (self:=f.inst) (hp f hf) (fun b a=>a.elim (h b) (h' b))
def xC(A:Nat->Prop)(w0 w:World)(b:Nat):Prop:=A b\/nu w0 w b
section
variable{w0 w w':World}{L:List Ch}{D S S1 S2:Nat->Prop}{fs fs2:List TS}{α:Type}[qm α]{x:α}{cs:List Value}
theorem SH.grpS(i j:Nat)(h:SH w0 w L)(hi:L[i]?=V (Ch.grp D S fs))(a:fs[j]?=V (ti x cs)):qm.R w (fun b=>S b\/D b) x cs:=
 (h.mem hi).1 _ (jB a)
theorem SH.grpB{i:Nat}(h:SH w0 w L)(hi:L[i]?=V (Ch.grp D S fs)):∀b,S b\/D b->Fw.old w b:=by
 intro b a;rcases a with a|a
 .exact((h.mem hi).2 b a).2
 .exact jx (h.elder _ (jB hi) b a) h.below.size
theorem SH.grp(i j:Nat)(h:SH w0 w L)(hi:L[i]?=V (Ch.grp D S fs))(a:fs[j]?=V (ti x cs)):qm.R w (Fw.old w) x cs:=
 qm.mono (h.grpS i j hi a) (h.grpB hi)
theorem SH.swap{c c':Ch}(h:SH w0 w (c::L))(k:c'.P w)(g:∀b,c'.S b->c.S b)(i:∀b,c'.D b->b<w0.heap.size):SH w0 w (c'::L):=by
 refine⟨h.below,fun d a=>?_,fun d a=>?_,?_⟩
 .rcases List.mem_cons.1 a with rfl|a
  .exact⟨k,fun b f=>(h.holds c (ju ..)).2 b (g b f)⟩
  .exact h.holds d (jp _ a)
 .rcases List.mem_cons.1 a with rfl|a
  .exact i
  .exact h.elder d (jp _ a)
 .have:=List.pairwise_cons.1 h.apart;exact List.pairwise_cons.2 ⟨fun d a b f=>this.1 d a b (g b f),this.2⟩
theorem SH.join{c d e:Ch}(h:SH w0 w (c::d::L))(p:c.P w->d.P w->e.P w)(l:∀b,e.S b->c.S b\/d.S b)(o:∀b,e.D b->b<w0.heap.size):SH w0 w (e::L):=by
 have m:=h.holds c (ju ..);have n:=h.holds d (jp _ (ju ..));have i:=List.pairwise_cons.1 h.apart;have k:=List.pairwise_cons.1 i.2;refine⟨h.below,fun f a=>?_,fun f a=>?_,?_⟩
 .rcases List.mem_cons.1 a with rfl|a
  .exact⟨p m.1 n.1,fun b g=>(l b g).elim (m.2 b) (n.2 b)⟩
  .exact h.holds f (jp _ (jp _ a))
 .rcases List.mem_cons.1 a with rfl|a
  .exact o
  .exact h.elder f (jp _ (jp _ a))
 .refine List.pairwise_cons.2 ⟨fun f a b g=>?_,k.2⟩;rcases l b g with g|g
  .exact i.1 f (jp _ a) b g
  .exact k.1 f a b g
def VZ(fs:List TS):List Nat->List TS
 | []=>[]
 |i::is=>match fs[i]? with
  |some f=>f::VZ fs is
  |none=>VZ fs is
theorem HY{f:TS}:∀{is:List Nat},f∈VZ fs is->f∈fs
 | [],h=>by cases h
 |i::is,h=>by
  simp only[VZ] at h;split at h
  .rename_i g hg
   rcases List.mem_cons.1 h with rfl|h
   .exact jB hg
   .exact HY h
  .exact HY h
theorem SH.merge(h:SH w0 w (Ch.grp D S1 fs::Ch.grp D S2 fs2::L)):SH w0 w (Ch.grp D (fun b=>S1 b\/S2 b) (fs++fs2)::L):=
 h.join (e:=Ch.grp D (fun b=>S1 b\/S2 b) (fs++fs2)) (fun d g f c=>by
  rcases List.mem_append.1 c with c|c
  .exact qm.mono (self:=f.inst) (d f c) (fun b a=>a.elim (fun h=>.inl (.inl h)) .inr)
  .exact qm.mono (self:=f.inst) (g f c) (fun b a=>a.elim (fun h=>.inl (.inr h)) .inr)) (fun _ a=>a) (h.elder (Ch.grp D S1 fs) (ju ..))
theorem SH.regOld{A:Nat->Prop}(h:SH w0 w L)(a:∀b,A b->Fw.old w0 b)(d:qm.R w0 A x cs):qm.R w A x cs:=qm.loc d (fun b c=>h.below.block b (a b c))
theorem SH.regGrp{A:Nat->Prop}(i j:Nat)(h:SH w0 w L)(hi:L[i]?=V (Ch.grp A S fs))(d:fs[j]?=V (ti x cs)):qm.R w (xC A w0 w) x cs:=
 qm.mono (h.grpS i j hi d) (fun b c=>c.elim (fun a=>.inr ((h.mem hi).2 b a)) .inl)
end
class la (ρ:Type) where
 Rs:World->(Nat->Prop)->ρ->List Value->Prop
instance qdq{α:Type}[qm α]:la α where
 Rs w S x vs:=∃cs,vs=[qm.v α cs]/\qm.R w S x cs
instance (priority:=high) rsCons {α β:Type}[qm α][la β]:la (α×β) where
 Rs w S x vs:=∃cs us,vs=qm.v α cs::us/\qm.R w S x.1 cs/\la.Rs w S x.2 us
def FM{ρ:Type}[la ρ](P:Program)(f:FuncId)(a:List Value)(w:World)(A:Nat->Prop)(r:ρ):Prop:=
 Calls P f a.toArray w fun e w'=>∃v,e=.returned v/\Below w.heap.size w w'/\∃us,v=vK us/\la.Rs w' (xC A w w') r us
section
variable{P:Program}{T:uV}{n:Nat}{Q:Exit->Act->World->Prop}{k:List It}{e:fy}{w0 w w':World}{L:List Ch}
theorem qa9{ρ:Type}[la ρ](r:ρ){A D:Nat->Prop}{all:Array Oper}{l:List Oper}{d ty:Nat}{ps:String}{C:Array Edge}{x:Operand}{g:Array Operand}{s:Array TypeId}{f:FuncId}{z y:Array Value}{u B:List Value}
  (h:SH w0 w L) (F:∀b,D b->b<w0.heap.size) (m:kL P f) (I:FM P f B w A r) (O:gg e x=V (.func (.func f) z y)) (i:pk e g.toList=V u) (t:z.toList++u++y.toList=B) (M:Nat.blt d n=An)
  (K:∀w' o,Below w.heap.size w w'->SH w0 w' (Ch.grp D (nu w w') []::L)->la.Rs w' (xC A w w') r o->bu P n Q (.ops all l::k) ((d,vK o)::e) w') :
  bu P n Q (.ops all (⟨V d,.call ⟨.value x,g,s⟩,ty,ps,C,U⟩::l)::k) e w:=by
 subst t;refine zD (R:=fun v w'=>Below w.heap.size w w'/\∃o,v=vK o/\la.Rs w' (xC A w w') r o) Z Z M (fun a H=>sO H m O i w) I ?_;rintro v w' ⟨p,o,rfl,N⟩;exact K w' o p (h.add (c:=Ch.grp D (nu w w') []) p (fun f J=>by cases J) (fun _ p=>p) F) N
theorem kY{ρ:Type}[la ρ]{f:FuncId}{b:Func}{c:Code}{a:List Value}{A:Nat->Prop}{r:ρ}{m:Nat}(o:P.funcs[f]?=V b)(n:b.body=V c)(p:b.ntmps=m)(s:Nat.ble a.length m=An)
  (h:SH w w []->bu P m (bodyPost P b fun e w'=>∃v,e=.returned v/\Below w.heap.size w w'/\∃us,v=vK us/\la.Rs w' (xC A w w') r us) [.code c] (po 0 a) w):FM P f a w A r:=by
 subst p;have t:=js s;refine calls_of_wp o n ?_;have x:=h (SH.start w);have g:gc b.ntmps (po 0 a) { tmps:=a.toArray++Array.replicate (b.ntmps-a.toArray.size) undef,defers:=[] }:=by
  refine⟨Z,by simp;omega,fun i v hi=>?_⟩;obtain⟨_,d⟩:=sD a 0 i v hi;simp only[Nat.sub_zero] at d;have k:=(List.getElem?_eq_some_iff.1 d).1;rw[jE (by simpa using k)];simpa using d
 have l:=x _ g;refine wp_mono l ?_;intro ex y w' u;cases ex<;>exact u
theorem mR(d:cv P T){b:Func}{ρ:Type}[la ρ]{A:Nat->Prop}{r:ρ}(a:List Value)(h:SH w0 w L)(f:vE T e w b.results.toList a)(g:la.Rs w (xC A w0 w) r a) :
  bu P n (bodyPost P b fun e w'=>∃v,e=.returned v/\Below w0.heap.size w0 w'/\∃a,v=vK a/\la.Rs w' (xC A w0 w') r a) (.code .ret::k) e w:=
 QQ fun _ c=>⟨c.defers,vK a,oc d c f,vK a,Z,h.below,a,Z,g⟩
end

structure PK(α:Type) where
 cs:List Value
instance qdM{α:Type}[qm α]:qm (PK α) where
 k:=qm.k α
 agg:=qm.agg α
 zero:=⟨qm.zc α⟩
 zc:=qm.zc α
 R _ _ x cs:=cs=x.cs/\cs.length=qm.k α/\∀c∈cs,c.oneCell'=An
 O _ _ x cs:=cs=x.cs/\cs.length=qm.k α/\∀c∈cs,c.oneCell'=An
 kpos:=qm.kpos
 noagg:=qm.noagg
 len h:=h.2.1
 one h:=h.2.2
 loc h _:=h
 mono h _:=h
 toR h:=h
 locO h _:=h
 monoO h _:=h
 zO _ _:=⟨Z,qm.len (qm.toR (qm.zO (α:=α) default (fun _=>False))),qm.one (qm.toR (qm.zO (α:=α) default (fun _=>False)))⟩
instance qdL{α:Type}[qm α]:ee (PK α):=⟨fun h=>h,fun h h'=>h.1.trans h'.1.symm⟩
theorem qaT{α β:Type}{p:Nat->α->β->Prop}:∀(xs:List α),(∀i x,xs[i]?=V x->∃r,p i x r)->∃b:List β,b.length=xs.length/\∀i x r,xs[i]?=V x->b[i]?=V r->p i x r:=by
 intro xs h;obtain⟨b,f,c⟩:=zp (p:=fun i r=>∀x,xs[i]?=V x->p i x r) xs.length (fun i hi=>by
  obtain⟨r,c⟩:=h i xs[i] (jj hi);exact⟨r,fun x a=>by rw[jj hi] at a;obtain rfl:=Option.some.inj a;exact c⟩)
 exact⟨b,f,fun i x r a d=>c i r d x a⟩
section
variable{w0 w w':World}{L:List Ch}{S:Nat->Prop}{α:Type}[qm α]
end
section
variable{w0 w w':World}{L:List Ch}{S Se:Nat->Prop}{α:Type}[qm α]
theorem SH.cons{c:Ch}(h:SH w0 w L)(k:c.P w)(g:∀b,¬ c.S b)(i:∀b,¬ c.D b):SH w0 w (c::L):=by
 refine⟨h.below,fun d a=>?_,fun d a=>?_,List.pairwise_cons.2 ⟨fun _ _ b f=>absurd f (g b),h.apart⟩⟩
 .rcases List.mem_cons.1 a with rfl|a
  .exact⟨k,fun b f=>absurd f (g b)⟩
  .exact h.holds d a
 .rcases List.mem_cons.1 a with rfl|a
  .exact fun b f=>absurd f (i b)
  .exact h.elder d a
end
end Go.Fw


namespace Go.Fw
open Go
structure gW(k:IntKind) where
 val:Int
instance FW{kd:IntKind}:qm (gW kd) where
 k:=1
 agg:=Cd
 zero:=⟨0⟩
 zc:=[.int kd 0]
 R _ _ x cs:=cs=[.int kd x.val]
 O _ _ x cs:=cs=[.int kd x.val]
 kpos:=by decide
 noagg _:=rfl
 len h:=by subst h;rfl
 one h:=by subst h;simp[Value.oneCell']
 loc h _:=h
 mono h _:=h
 toR h:=h
 locO h _:=h
 monoO h _:=h
 zO _ _:=rfl
instance qdy{kd:IntKind}:ee (gW kd):=⟨fun h=>h,fun h h'=>Eq.trans h (Eq.symm h')⟩
section
variable{P:Program}{T:uV}{n:Nat}{Q:Exit->Act->World->Prop}{k:List It}{e:fy}{w0 w w':World}{L:List Ch}{S:Nat->Prop}
end
end Go.Fw


namespace Go.Fw
open Go
open Go.RowKit (Below)
section
variable{P:Program}{T:uV}{n:Nat}{Q:Exit->Act->World->Prop}{k:List It}{e:fy}{w0 w w' w1:World}{L:List Ch}
theorem SH.gather{α:Type}[qm α]{r:α}{cs:List Value}{I:List Nat}(J:List Nat)(h:SH w0 w L)(t:PO w L I r cs)(f:(eU I J&&HZ J)=An) :
  ∃S,SH w0 w (Ch.own S r cs::GK L J):=by
 simp only[je] at f;obtain⟨S,s,n⟩:=t;have g:=h.p J f.2;refine⟨S,h.below,fun d a=>?_,fun d a=>?_,List.pairwise_cons.2 ⟨fun d a b k l=>?_,g.apart⟩⟩
 .rcases List.mem_cons.1 a with rfl|a
  .exact⟨s,fun b f=>by obtain⟨i,c,_,hi,o⟩:=n b f;exact(h.mem hi).2 b o⟩
  .exact g.holds d a
 .rcases List.mem_cons.1 a with rfl|a
  .exact fun _ h=>h.elim
  .exact g.elder d a
 .obtain⟨j,p,m⟩:=sX a;exact ug h n (fun x u=>⟨j,d,p,m,u⟩) f.1 b k l
def Ch.two(c d:Ch):Ch where
 S b:=c.S b\/d.S b
 D b:=c.D b\/d.D b
 P w:=c.P w/\d.P w/\∀b,c.S b->¬ d.S b
 loc w w' h h' hp:=⟨c.loc w w' (fun b a=>h b (.inl a)) (fun b a=>h' b (.inl a)) hp.1,d.loc w w' (fun b a=>h b (.inr a)) (fun b a=>h' b (.inr a)) hp.2.1,hp.2.2⟩
theorem SH.fuse{c d:Ch}(h:SH w0 w (c::d::L)):SH w0 w (Ch.two c d::L):=by
 have a:=(List.pairwise_cons.1 h.apart).1 d (ju ..);exact h.join (e:=Ch.two c d) (fun g i=>⟨g,i,a⟩) (fun _ f=>f) (fun b f=>f.elim (h.elder c (ju ..) b) (h.elder d (jp _ (ju ..)) b))
theorem BX{i c m:Nat}(h:i<c):i*m+m<=c*m:=by
 have:(i+1)*m<=c*m:=jt _ h;rw[jP] at this;exact this
theorem qbo{i j m r q:Nat}(a:i≠j)(b:r<m)(_:q<m):i*m+r<j*m\/j*m+m<=i*m+r:=by
 rcases Nat.lt_or_gt_of_ne a with h|h
 .left;have:(i+1)*m<=j*m:=jt _ h;rw[jP] at this;omega
 .right;have:(j+1)*m<=i*m:=jt _ h;rw[jP] at this;omega
theorem N0{a:List Value}{q:Nat}{d:List Value}(b:q+d.length<=a.length){j:Nat}(c:j<q\/q+d.length<=j):(iG a q d)[j]?=a[j]?:=by
 rw[getElem?_splice b];rcases c with h|h
 .rw[if_pos h]
 .rw[if_neg (by omega),if_neg (by omega)]
theorem P0(hT:cv P T){α:Type}[qm α]{S S1:Nat->Prop}{xs ys:List α}{p p':Option Addr}{ln ln' c c' t ty el:Nat}{te te':TE}{zv:Value}
  (h:SH w0 w (Ch.own S1 ys [.slice p' ln' c']::Ch.own S xs [.slice p ln c]::L)) (hte:T.get t=V te) (hk:te.kind=.slice el) (hel:T.get el=V te') (hz:te'.zero=V zv) (hzs:(bc zv).length=te'.size) (hsz:te'.size=qm.k α)
  (J:Nat.ble te'.bytes 65536=An) (hbig:xs.length+ys.length<=OI) :
  ∃p2 R S2 w',(Builtin.append_ #[t,t] ty #[.slice p ln c,.slice p' ln' c']).run P w=.ok (.slice p2 (xs.length+ys.length) R) w'/\SH w0 w' (Ch.own S2 (xs++ys) [.slice p2 (xs.length+ys.length) R]::L):=by
 obtain⟨k,X,hs1,hby,hz1⟩:=pI (hT _ _ hel);have hu:=mE (hT _ _ hte) hk;have K:=js J;have hln:=(h.sl 1 Z).2;have hln':=(h.sl 0 Z).2;subst hln hln';have hs:=(h.sl 0 Z).1;have hsx:=(h.sl 1 Z).1;have s:k.size=qm.k α:=hs1.trans hsz;obtain⟨news0,_,hnR,hnD⟩:=hs.cells (P:=P);have hf:=h.fuse;obtain⟨⟨hO1,hO2,hap⟩,hS⟩:=hf.holds _ (ju ..);obtain⟨p0,c0,he,h1,h2,h3⟩:=hO2;simp only[List.cons.injEq,Value.slice.injEq,and_true,true_and] at he;obtain⟨rfl,rfl⟩:=he;obtain⟨p0,c0,he,g1,g2,g3⟩:=hO1;simp only[List.cons.injEq,Value.slice.injEq,and_true,true_and] at he;obtain⟨rfl,rfl⟩:=he;unfold OI at hbig;have hmax:(2147483648:Nat)<=maxLen:=by simp[maxLen]
 obtain⟨Fy,d,O,hyd,hnl,hnO,hnR,hnD⟩:∃Fy:Nat->Nat->Prop,∃d:List Value,(∀i a,Fy i a->S1 a)/\(∀i j a,i≠j->Fy i a->¬ Fy j a)/\d.length=ys.length*qm.k α /\
   (∀i y,ys[i]?=V y->∃cs,qm.O w (Fy i) y cs/\∀j v,cs[j]?=V v->d[i*qm.k α+j]?=V v) /\
   (Builtin.firstCells k.size ys.length (.slice p' ys.length c')).run P w=.ok d.toArray w/\(Builtin.firstCells k.size ys.length (.slice p' ys.length c')).run P w.drew=.ok d.toArray w.drew:=by
  rcases g3 with⟨rfl,rfl,rfl⟩|⟨b,g,t',F,rfl,H,hg,z,hF,hd,hx⟩
  .exact⟨fun _ _=>False,[],fun _ _ h=>h.elim,fun _ _ _ _ h=>h.elim,by simp,fun i y hi=>by simp at hi,by simp[Builtin.firstCells],by simp[Builtin.firstCells]⟩
  .have hle:ys.length*qm.k α<=c'*qm.k α:=jt _ g1;have D:(g.toList.take (ys.length*qm.k α)).length=ys.length*k.size:=by simp[s];omega
   have W:∀(w1:World),w1.heap[b]?=w.heap[b]?->∀j v,(g.toList.take (ys.length*qm.k α))[j]?=V v->w1.cell? ((⟨b,0,U⟩:Addr).add j)=V v:=by
    intro w1 hw1 j v l;rw[tk];rw[jJ] at l;split at l
    .simp only[World.cell?,hw1,hg];simpa using l
    .cases l
   refine⟨F,g.toList.take (ys.length*qm.k α),fun i a f=>(hF i a f).1,hd,by simp;omega,fun i y hi=>?_,run_firstCells_some w _ _ _ _ _ _ D (W w Z),run_firstCells_some w.drew _ _ _ _ _ _ D (W w.drew Z)⟩;obtain⟨cs,Q,l⟩:=hx i y hi;refine⟨cs,Q,fun j v hv=>?_⟩;have hjk:j<qm.k α:=by have:=qm.len (qm.toR Q);have:=(List.getElem?_eq_some_iff.1 hv).1;omega
   have hb2:=BX (m:=qm.k α) (List.getElem?_eq_some_iff.1 hi).1;rw[jJ,if_pos (by omega)];simpa using l j v hv
 have hnone:∀u∈d,u.oneCell'=An:=by
  intro v hv;obtain⟨r,hr,rfl⟩:=Je hv;have hkp:=qm.kpos (α:=α);have M:r / qm.k α<ys.length:=by rw[Nat.div_lt_iff_lt_mul hkp,<-hnl];exact hr
  obtain⟨cs,Q,l⟩:=hnO (r / qm.k α) _ (jj M);have D:=qm.len (qm.toR Q);have hm:r % qm.k α<cs.length:=by rw[D];exact Nat.mod_lt _ hkp
  have:=l (r % qm.k α) _ (jj hm);rw[Nat.mul_comm,Nat.div_add_mod] at this;rw[jj hr,Option.some.injEq] at this;rw[this];exact qm.one (qm.toR Q) _ (jo hm)
 have fin:∀(w':World) (S2:Nat->Prop) (b R:Nat) (g:Array Value) (t':TypeId) (olds:List Value) (Fx:Nat->Nat->Prop),
   (∀a,(S1 a\/S a)->a≠b->w'.heap[a]?=w.heap[a]?)->(∀a,(S1 a\/S a)->S2 a)->S2 b->w'.heap[b]?=V (.cells g t' (0,0))->g.size=R*qm.k α->xs.length+ys.length<=R->R<=maxLen ->
   (∀i a,Fx i a->S a/\a≠b)->(¬ S1 b)->(∀i j a,i≠j->Fx i a->¬ Fx j a)->olds.length=xs.length*qm.k α ->
   (∀i x,xs[i]?=V x->∃cs,qm.O w (Fx i) x cs/\∀j v,cs[j]?=V v->olds[i*qm.k α+j]?=V v) ->
   (∀(r:Nat) (v:Value),(olds++d)[r]?=V v->g[r]?=V v) ->
   qm.O w' S2 (xs++ys) [.slice (V ⟨b,0,U⟩) (xs.length+ys.length) R]:=by
  intro w' S2 b R g t' olds Fx hloc hS2 H hg z hl hm n hS1b hFd o N B;refine⟨_,_,by rw[jg],by simpa using hl,hm,.inr ⟨b,g,t',fun i a=>(i<xs.length/\Fx i a)\/(xs.length<=i/\Fy (i-xs.length) a),Z,H,hg,z,?_,?_,?_⟩⟩
  .rintro i a (⟨_,f⟩|⟨_,f⟩)
   .exact⟨hS2 a (.inr (n i a f).1),(n i a f).2⟩
   .exact⟨hS2 a (.inl (O _ a f)),fun I=>hS1b (I ▸ O _ a f)⟩
  .rintro i j a hne (⟨hi,f⟩|⟨hi,f⟩) (⟨l,J⟩|⟨l,J⟩)
   .exact hFd i j a hne f J
   .exact hap a (O _ a J) (n i a f).1
   .exact hap a (O _ a f) (n j a J).1
   .exact hyd _ _ a (by omega) f J
  .intro i x hi;rw[List.getElem?_append] at hi;split at hi
   .rename_i M
    obtain⟨cs,Q,l⟩:=N i x hi;refine⟨cs,qm.monoO (qm.locO Q (fun a f=>hloc a (.inr (n i a f).1) (n i a f).2)) (fun a f=>.inl ⟨M,f⟩),fun j v hv=>B _ _ ?_⟩;have:=l j v hv;rw[jA (List.getElem?_eq_some_iff.1 this).1];exact this
   .rename_i hge
    obtain⟨cs,Q,l⟩:=hnO _ x hi;refine⟨cs,qm.monoO (qm.locO Q (fun a f=>hloc a (.inl (O _ a f)) (fun I=>hS1b (I ▸ O _ a f)))) (fun a f=>.inr ⟨by omega,f⟩),fun j v hv=>B _ _ ?_⟩;have:=l j v hv;have hle:xs.length*qm.k α<=i*qm.k α:=jt _ (by omega);rw[jD (by rw[o];omega),o];rw[show i*qm.k α+j-xs.length*qm.k α=(i-xs.length)*qm.k α+j by rw[Nat.sub_mul];omega];exact this
 have grow:∀(olds:List Value) (Fx:Nat->Nat->Prop),(∀i a,Fx i a->S a)->(∀i j a,i≠j->Fx i a->¬ Fx j a)->olds.length=xs.length*qm.k α ->
   (∀i x,xs[i]?=V x->∃cs,qm.O w (Fx i) x cs/\∀j v,cs[j]?=V v->olds[i*qm.k α+j]?=V v) ->
   (Builtin.firstCells k.size xs.length (.slice p xs.length c)).run P w.drew=.ok olds.toArray w.drew->c<xs.length+ys.length ->
   ∃p2 R S2 w',(Builtin.append_ #[t,t] ty #[.slice p xs.length c,.slice p' ys.length c']).run P w=.ok (.slice p2 (xs.length+ys.length) R) w'/\SH w0 w' (Ch.own S2 (xs++ys) [.slice p2 (xs.length+ys.length) R]::L):=by
  intro olds Fx n hFd o N hoD M;have C:Builtin.nextslicecap (xs.length+ys.length) c*k.bytes<=281474976710656:=by
   refine growslice_fits M ?_;have:(xs.length+ys.length)*k.bytes<=2147483648*65536:=Nat.mul_le_mul hbig (by omega);omega
  have hr:=yG (P:=P) (w:=w) t ty el k zv hu X (hz1.trans hz) p p' xs.length c ys.length c' olds d hnD hoD M (by omega) C;have hge:=grownCap_ge w (xs.length+ys.length) c el;have hcm:=grownCap_le_maxLen w (xs.length+ys.length) c el (by omega);have hnew:∀a,(S1 a\/S a)->a≠w.heap.size:=fun a f I=>by have:=(hS a f).2;omega
  refine⟨_,_,fun b=>(S1 b\/S b)\/b=w.heap.size,_,hr,?_⟩;have hu:=hf.upd (i:=0) (c':=Ch.own (fun b=>(S1 b\/S b)\/b=w.heap.size) (xs++ys) [.slice (V ⟨w.heap.size,0,U⟩) (xs.length+ys.length) (grownCap w (xs.length+ys.length) c el)])
   (w':=w.drew.alloc (.cells (olds.toArray++d.toArray++Builtin.zeroCells zv.cells (grownCap w (xs.length+ys.length) c el-(xs.length+ys.length))) el)) Z Z Z Z (by simp) (fun b K _=>heap_alloc_old w.drew _ K) ?_ ?_ (fun _ hd=>hd.elim)
  .exact hu
  .refine fin _ _ w.heap.size _ _ el olds Fx (fun a f _=>heap_alloc_old w.drew _ (hS a f).2) (fun a f=>.inl f) (.inr Z) (heap_alloc_new w.drew _) ?_ hge hcm (fun i a f=>⟨n i a f,hnew a (.inr (n i a f))⟩) (fun J=>hnew _ (.inl J) Z) hFd o N ?_
   .have hzl:zv.cells.size=qm.k α:=by rw[<-hsz,<-hzs,<-iK];simp
    simp only[Array.size_append,jZ,size_zeroCells,o,hnl,hzl,<-Nat.add_mul]
    congr 1
    omega
   .intro r v e;have Y:=(List.getElem?_eq_some_iff.1 e).1;rw[jE (by simpa using Y)];simpa using e
  .rintro b (K|K)
   .exact .inl K
   .subst K;exact .inr ⟨jf _,by simp⟩
 rcases h3 with⟨rfl,rfl,rfl⟩|⟨b,g,t',F,rfl,H,hg,z,hF,hd,hx⟩
 .by_cases hy:ys.length=0
  .refine⟨U,0,fun b=>S1 b\/S b,w,by simpa [hy] using yH (P:=P) (w:=w) t ty el k hu X p' c',?_⟩;have:ys=[]:=jO hy;subst this;exact hf.swap (c':=Ch.own (fun b=>S1 b\/S b) ([]++[]) [.slice U (([]:List α).length+([]:List α).length) 0]) ⟨U,0,by simp,by simp,by simp,.inl ⟨Z,by simp,Z⟩⟩ (fun b J=>J) (fun _ hd=>hd.elim)
  .exact grow [] (fun _ _=>False) (fun _ _ h=>h.elim) (fun _ _ _ _ h=>h.elim) (by simp) (fun i x hi=>by simp at hi) (by simp[Builtin.firstCells]) (by simp;omega)
 .have hle0:xs.length*qm.k α<=c*qm.k α:=jt _ h1;have o:(g.toList.take (xs.length*qm.k α)).length=xs.length*qm.k α:=by simp;omega
  have N:∀i x,xs[i]?=V x->∃cs,qm.O w (F i) x cs/\∀j v,cs[j]?=V v->(g.toList.take (xs.length*qm.k α))[i*qm.k α+j]?=V v:=by
   intro i x hi;obtain⟨cs,Q,l⟩:=hx i x hi;refine⟨cs,Q,fun j v hv=>?_⟩;have hjk:j<qm.k α:=by have:=qm.len (qm.toR Q);have:=(List.getElem?_eq_some_iff.1 hv).1;omega
   have hb2:=BX (m:=qm.k α) (List.getElem?_eq_some_iff.1 hi).1;rw[jJ,if_pos (by omega)];simpa using l j v hv
  by_cases A:xs.length+ys.length<=c
  .have hle:(xs.length+ys.length)*qm.k α<=c*qm.k α:=jt _ A;rw[Nat.add_mul] at hle;have C:xs.length*k.size+d.length<=g.size:=by rw[hnl,s,z];exact hle
   have hr:=yI (P:=P) (w:=w) t ty el k hu X p' b xs.length c ys.length c' g t' hg d hnR hnone A C;refine⟨_,_,fun b=>S1 b\/S b,_,hr,?_⟩;have hu:=hf.upd (i:=0) (c':=Ch.own (fun b=>S1 b\/S b) (xs++ys) [.slice (V ⟨b,0,U⟩) (xs.length+ys.length) c])
    (w':=w.setRow b (iG g.toList (xs.length*k.size) d).toArray) Z Z Z Z (by simp) (fun a _ f=>setRow_other w b a _ (fun I=>f (.inr (I ▸ H)))) ?_ (fun a f=>.inl f) (fun _ hd=>hd.elim)
   .exact hu
   .refine fin _ _ b _ _ t' (g.toList.take (xs.length*qm.k α)) F (fun a _ hne=>setRow_other w b a _ hne) (fun a f=>f) (.inr H) (setRow_heap w b _ _ t' _ hg) ?_ A h2 hF (fun J=>hap b J H) hd o N ?_
    .rw[jZ,rX (by simpa using C)];simpa using z
    .intro r v e;rw[jQ,s];have Y:=(List.getElem?_eq_some_iff.1 e).1;have hr2:(g.toList.take (xs.length*qm.k α)++d++g.toList.drop (xs.length*qm.k α+d.length))[r]?=V v:=by
      rw[jA Y];exact e
     exact hr2
  .have hfo:=run_firstCells_some (P:=P) w.drew k.size xs.length ⟨b,0,U⟩ xs.length c (g.toList.take (xs.length*qm.k α)) (by rw[o,s]) (fun j v l=>by
    rw[tk];rw[jJ] at l;split at l
    .have:w.drew.heap[b]?=w.heap[b]?:=rfl;simp only[World.cell?,this,hg];simpa using l
    .cases l)
   exact grow _ F (fun i a f=>(hF i a f).1) hd o N hfo (by omega)
theorem qcG(I:cv P T){α:Type}[qm α]{all:Array Oper}{l:List Oper}{d t ty el:Nat}{ps:String}{H:Array Edge}{x y:Operand}{S S1:Nat->Prop}{xs ys:List α}{p C:Option Addr}{B g c c':Nat}{D b:TE}{F:Value}
  (h:SH w0 w (Ch.own S1 ys [.slice C g c']::Ch.own S xs [.slice p B c]::L)) (O:gg e x=V (.slice p B c)) (R:gg e y=V (.slice C g c'))
  (v:T.get t=V D) (K:D.kind=.slice el) (o:T.get el=V b) (W:b.zero=V F) (z:(bc F).length=b.size) (u:b.size=qm.k α)
  (J:Nat.ble b.bytes 65536=An) (f:xs.length+ys.length<=OI) (M:Nat.blt d n=An)
  (r:∀w' m i S2,SH w0 w' (Ch.own S2 (xs++ys) [.slice m (xs.length+ys.length) i]::L)->bu P n Q (.ops all l::k) ((d,.slice m (xs.length+ys.length) i)::e) w') :
  bu P n Q (.ops all (⟨V d,.call ⟨.builtin .append,#[x,y],#[t,t]⟩,ty,ps,H,U⟩::l)::k) e w:=by
 obtain⟨m,i,S2,w',N,s⟩:=P0 I (ty:=ty) h v K o W z u J f;refine CC Z Z M (fun a A=>?_) (r w' m i S2 s);simp only[execOp,resolve,invoke,builtin,jk,jm,ji,List.map_toArray,Jf,List.map_nil,A.eval O,A.eval R,N]
end

section
variable{P:Program}{T:uV}{n:Nat}{Q:Exit->Act->World->Prop}{k:List It}{e:fy}{w0 w w' w1:World}{L:List Ch}
def qbF{α:Type}[qm α](w:World)(L:List Ch):List Nat->List α->List (List Value)->Prop
 |I,[],[]=>I=[]
 |I,x::xs,c::cs=>∃I1 I2,I=I1++I2/\PO w L I1 x c/\qbF w L I2 xs cs/\eU I1 I2=An
 |_,_,_=>False
theorem pe{α:Type}[qm α]:qbF w L [] ([]:List α) []:=rfl
theorem fU{α:Type}[qm α]{x:α}{xs:List α}{c:List Value}{cs:List (List Value)}{I1 I2:List Nat}(a:PO w L I1 x c)(b:qbF w L I2 xs cs)(d:eU I1 I2=An):qbF w L (I1++I2) (x::xs) (c::cs):=
 ⟨I1,I2,Z,a,b,d⟩
theorem qbF.get{α:Type}[qm α](h:SH w0 w L):∀{I:List Nat} {xs:List α} {cs:List (List Value)},qbF w L I xs cs ->
  xs.length=cs.length/\(∀c∈cs,c.length=qm.k α)/\∃F:Nat->Nat->Prop,(∀i a,F i a->∃j d,j∈I/\L[j]?=V d/\d.S a)/\(∀i j a,i≠j->F i a->¬ F j a) /\
   ∀i x,xs[i]?=V x->∃c,qm.O w (F i) x c/\∀j v,c[j]?=V v->cs.flatten[i*qm.k α+j]?=V v
 |I,[],[],hp=>⟨Z,by simp,fun _ _=>False,fun _ _ h=>h.elim,fun _ _ _ _ h=>h.elim,fun i x hi=>by simp at hi⟩
 |I,x::xs,c::cs,hp=>by
  obtain⟨I1,I2,rfl,⟨S1,u,z⟩,A,n⟩:=hp;obtain⟨D,B,F,t,m,C⟩:=qbF.get h A;have r:=qm.len (qm.toR u);have l:∀i a,S1 a->¬ F i a:=fun i a g f=>ug h z (S2:=F i) (fun b n=>t i b n) n a g f;refine⟨by simp[D],fun d m=>?_,fun i a=>match i with|0=>S1 a|i+1=>F i a,fun i a g=>?_,fun i j a s g f=>?_,fun i y hi=>?_⟩
  .rcases List.mem_cons.1 m with rfl|m
   .exact r
   .exact B d m
  .cases i with
   |zero=>obtain⟨j,d,k,h⟩:=z a g;exact⟨j,d,by simp[k],h⟩
   |succ i=>obtain⟨j,d,k,h⟩:=t i a g;exact⟨j,d,by simp[k],h⟩
  .cases i with
   |zero=>cases j with
    |zero=>exact s Z
    |succ j=>exact l j a g f
   |succ i=>cases j with
    |zero=>exact l i a f g
    |succ j=>exact m i j a (by omega) g f
  .cases i with
   |zero=>
    simp only[List.getElem?_cons_zero,Option.some.injEq] at hi;subst hi;refine⟨c,u,fun j v k=>?_⟩;have:=(List.getElem?_eq_some_iff.1 k).1;rw[Nat.zero_mul,Jd,List.flatten_cons,jA this];exact k
   |succ i=>
    simp only[List.getElem?_cons_succ] at hi;obtain⟨c',o,p⟩:=C i y hi;refine⟨c',o,fun j v k=>?_⟩;rw[List.flatten_cons,jD (by rw[r,jP];omega)];rw[show(i+1)*qm.k α+j-c.length=i*qm.k α+j by rw[r,jP];omega];exact p j v k
 |_,[],_::_,h=>h.elim
 |_,_::_,[],h=>h.elim
theorem kh(hT:cv P T){α:Type}[qm α]{all:Array Oper}{l:List Oper}{d t ty el len:Nat}{ps:String}{af:Array Edge}{g:Array (Nat×Operand)}{te r:TE}{zv:Value}(os:List Operand)(f:List Value)(ys:List α){I:List Nat}(J:List Nat)
  (h:SH w0 w L) (y:g.toList=(os.zipIdx 0).map fun x=>(x.2,x.1)) (hvs:pk e os=V f) (N:len=f.length)
  (a9:T.get t=V te) (hk:te.kind=.slice el) (a3:T.get el=V r) (hz:r.zero=V zv) (O:r.size=qm.k α) (o:Nat.ble (f.length*r.size) 16777216=An)
  (m:qbF w L I ys (f.map bc)) (W:(eU I J&&HZ J)=An) (hn:Nat.blt d n=An)
  (a6:∀w' p S,SH w0 w' (Ch.own S ys [.slice p len len]::GK L J)->bu P n Q (.ops all l::k) ((d,.slice p len len)::e) w') :
  bu P n Q (.ops all (⟨V d,.buildSlice t len g,ty,ps,af,U⟩::l)::k) e w:=by
 obtain⟨a7,K,F,hF,R,hg⟩:=m.get h;have X:∀v∈f,(bc v).length=r.size:=fun v hv=>by rw[O];exact K _ (List.mem_map.2 ⟨v,hv,Z⟩)
 have hr:=FD hT f a9 hk a3 hz (js o) X w;have M:ys.length=f.length:=by simpa using a7
 subst N;simp only[je] at W;have a5:(f.map bc).flatten.length=f.length*qm.k α:=by
  have:∀(cs:List (List Value)),(∀c∈cs,c.length=qm.k α)->cs.flatten.length=cs.length*qm.k α:=by
   intro cs
   induction cs with
   |nil=>intro _;simp
   |cons c cs ih=>intro m;rw[List.flatten_cons,jg,m c (by simp),ih (fun d Y=>m d (by simp[Y])),Jj,jP];omega
  rw[this _ K];simp
 have a8:f.length<=maxLen:=by
  have h1:=js o;have A:f.length*1<=f.length*r.size:=Nat.mul_le_mul_left _ (by rw[O];exact qm.kpos);simp[maxLen];omega
 have B:Below w.heap.size w (w.alloc (.cells (f.map bc).flatten.toArray el)):=(Below.refl _ _).alloc (jf _) _;have u:∀i a,F i a->nu w0 w a:=fun i a z=>by obtain⟨j,d,_,D,Y⟩:=hF i a z;exact(h.mem D).2 a Y
 have A:=(h.p J W.2).ext B;refine CC (v:=.slice (V ⟨w.heap.size,0,U⟩) f.length f.length) (w':=w.alloc (.cells (f.map bc).flatten.toArray el)) Z Z hn (fun a z=>?_)
  (a6 _ _ (fun b=>b=w.heap.size\/∃i,F i b) ⟨A.below,fun c m=>?_,fun c m=>?_,List.pairwise_cons.2 ⟨fun c m b s C=>?_,A.apart⟩⟩)
 .have a4:g.map (fun(x:Nat×Operand)=>(x.1,a.eval x.2))=((f.zipIdx 0).map fun x=>(x.2,x.1)).toArray:=by
   apply Array.ext';rw[Array.toList_map,y];have:=uG z hvs;subst this;rw[List.zipIdx_map,List.map_map,List.map_map]
   rfl
  simp only[execOp,a4,jk,hr,ji,jm]
 .rcases List.mem_cons.1 m with rfl|m
  .refine⟨⟨V ⟨w.heap.size,0,U⟩,f.length,by rw[M],by rw[M];exact jf _,a8,.inr ⟨w.heap.size,_,el,F,Z,.inl Z,heap_alloc_new w _,by rw[jZ,a5],fun i a z=>⟨.inr ⟨i,z⟩,fun hab=>by have:=(u i a z).2;omega⟩,R,fun i x hi=>?_⟩⟩,fun b s=>?_⟩
   .obtain⟨cs,hO,D⟩:=hg i x hi;exact⟨cs,qm.locO hO (fun a z=>heap_alloc_old w _ (u i a z).2),fun j v hv=>by simpa using D j v hv⟩
   .rcases s with s|⟨i,s⟩
    .subst s;exact⟨h.below.size,by simp⟩
    .exact⟨(u i b s).1,jx (u i b s).2 B.size⟩
  .exact A.holds c m
 .rcases List.mem_cons.1 m with rfl|m
  .exact fun _ h=>h.elim
  .exact A.elder c m
 .obtain⟨j,D,H⟩:=sX m;rcases s with s|⟨i,s⟩
  .subst s;have:=((h.mem H).2 _ C).2;omega
  .exact ug h (S1:=F i) (S2:=c.S) (hF i) (fun x hx=>⟨j,c,D,H,hx⟩) W.1 b s C
def Ch.hole{α:Type}[qm α](S:Nat->Prop)(xs:List α)(p:Option Addr)(B c i:Nat)(cs:List Value):Ch where
 S:=S
 D _:=False
 P w:=B=xs.length/\xs.length<=c/\c<=maxLen/\i<xs.length/\cs.length=qm.k α /\
  ∃b d T,∃F:Nat->Nat->Prop,p=V ⟨b,0,U⟩/\S b/\w.heap[b]?=V (.cells d T (0,0))/\d.size=c*qm.k α /\
   (∀i a,F i a->S a/\a≠b)/\(∀i j a,i≠j->F i a->¬ F j a)/\(∀a,¬ F i a)/\(∀j v,cs[j]?=V v->d[i*qm.k α+j]?=V v) /\
   ∀j x,j≠i->xs[j]?=V x->∃f,qm.O w (F j) x f/\∀r v,f[r]?=V v->d[j*qm.k α+r]?=V v
 loc w w' h _ hp:=by
  obtain⟨l,m,n,o,s,b,d,T,F,C,g,H,I,k,J,K,L,M⟩:=hp
  exact⟨l,m,n,o,s,b,d,T,F,C,g,by rw[h b g];exact H,I,k,J,K,L,fun j x z A=>by
   obtain⟨f,t,y⟩:=M j x z A
   exact⟨f,qm.locO t (fun a u=>h a (k j a u).1),y⟩⟩
theorem SH.take{α:Type}[qm α]{S:Nat->Prop}{xs:List α}{p:Option Addr}{A c:Nat}{iv:Int}{x:α}(h:SH w0 w (Ch.own S xs [.slice p A c]::L))(M:qF xs iv=V x) :
  ∃S1 S2 cs,SH w0 w (Ch.own S1 x cs::Ch.hole S2 xs p A c iv.toNat cs::L):=by
 obtain⟨I,s⟩:=h.holds _ (ju ..);obtain⟨O,K,n⟩:=bH M;have k:=List.pairwise_cons.1 h.apart;obtain⟨P,c',z,C,D,H⟩:=I;simp only[List.cons.injEq,Value.slice.injEq,and_true] at z;obtain⟨rfl,rfl,rfl⟩:=z;have m:=(List.getElem?_eq_some_iff.1 n).1;rcases H with⟨_,rfl,_⟩|⟨b,cur,t,F,rfl,o,hg,hcur,hF,hd,hx'⟩
 .simp at m
 .obtain⟨cs,v,J⟩:=hx' _ _ n;refine⟨F iv.toNat,fun a=>a=b\/∃i,i≠iv.toNat/\F i a,cs,h.below,fun d f=>?_,fun d f=>?_,?_⟩
  .rcases List.mem_cons.1 f with rfl|f
   .exact⟨v,fun a g=>s a (hF _ a g).1⟩
   rcases List.mem_cons.1 f with rfl|f
   .refine⟨⟨Z,C,D,m,qm.len (qm.toR v),b,cur,t,fun i a=>i≠iv.toNat/\F i a,Z,.inl Z,hg,hcur,fun i a g=>⟨.inr ⟨i,g⟩,(hF i a g.2).2⟩,fun i j a l g o=>hd i j a l g.2 o.2,fun a g=>g.1 Z,J,fun j y l N=>?_⟩,fun a g=>?_⟩
    .obtain⟨B,r,u⟩:=hx' j y N;exact⟨B,qm.monoO r (fun a g=>⟨l,g⟩),u⟩
    .rcases g with g|⟨i,_,g⟩
     .exact s a (g ▸ o)
     .exact s a (hF i a g).1
   .exact h.holds d (jp _ f)
  .rcases List.mem_cons.1 f with rfl|f
   .exact fun _ h=>h.elim
   rcases List.mem_cons.1 f with rfl|f
   .exact fun _ h=>h.elim
   .exact h.elder d (jp _ f)
  .refine List.pairwise_cons.2 ⟨fun d f a g=>?_,List.pairwise_cons.2 ⟨fun d f a g=>?_,k.2⟩⟩
   .rcases List.mem_cons.1 f with rfl|f
    .rintro(hab|⟨i,hi,ha2⟩)
     .exact(hF _ a g).2 hab
     .exact hd i _ a hi ha2 g
    .exact k.1 d f a (hF _ a g).1
   .rcases g with g|⟨i,_,g⟩
    .exact k.1 d f a (g ▸ o)
    .exact k.1 d f a (hF i a g).1
theorem SH.put{α:Type}[qm α]{S1 S2:Nat->Prop}{xs:List α}{p:Option Addr}{l c i:Nat}{x:α}{cs:List Value}(h:SH w0 w (Ch.own S1 x cs::Ch.hole S2 xs p l c i cs::L)) :
  SH w0 w (Ch.own (fun b=>S1 b\/S2 b) (xs.set i x) [.slice p l c]::L):=by
 have f:=(List.pairwise_cons.1 h.apart).1 (Ch.hole S2 xs p l c i cs) (ju ..);refine h.join (e:=Ch.own (fun b=>S1 b\/S2 b) (xs.set i x) [.slice p l c]) (fun v z=>?_) (fun _ g=>g) (fun _ h=>h.elim);obtain⟨rfl,t,u,K,M,b,n,T,F,rfl,r,C,D,m,H,N,I,J⟩:=z;refine⟨_,_,by rw[List.length_set],by simpa using t,u,.inr ⟨b,n,T,fun j a=>(j=i/\S1 a)\/(j≠i/\F j a),Z,.inr r,C,D,?_,?_,?_⟩⟩
 .rintro j a (⟨_,d⟩|⟨_,d⟩)
  .exact⟨.inl d,fun o=>f a d (o ▸ r)⟩
  .exact⟨.inr (m j a d).1,(m j a d).2⟩
 .rintro j j' a hne (⟨hj,d⟩|⟨hj,d⟩) (⟨hj',g⟩|⟨hj',g⟩)
  .exact hne (hj.trans hj'.symm)
  .exact f a d (m j' a g).1
  .exact f a g (m j a d).1
  .exact H j j' a hne d g
 .intro j y k;rw[List.getElem?_set] at k;split at k
  .rename_i hij
   simp only[Option.some.injEq] at k;subst k hij;exact⟨cs,qm.monoO v (fun a d=>.inl ⟨Z,d⟩),I⟩
  .rename_i hij
   obtain⟨s,A,B⟩:=J j y (fun e=>hij e.symm) k;exact⟨s,qm.monoO A (fun a d=>.inr ⟨fun e=>hij e.symm,d⟩),B⟩
theorem SH.holeAt{α:Type}[qm α]{S:Nat->Prop}{xs:List α}{p:Option Addr}{a c i:Nat}{cs:List Value}(m:Nat)(h:SH w0 w L)(hi:L[m]?=V (Ch.hole S xs p a c i cs)) :
  ∃b,p=V ⟨b,0,U⟩/\cw w b (i*qm.k α) cs/\i<a/\a=xs.length:=by
 obtain⟨rfl,l,n,f,o,b,d,T,F,rfl,r,g,s,t,u,v,k,x⟩:=(h.mem hi).1;exact⟨b,Z,cw.of_block g k,f,Z⟩
theorem T2{α:Type}[qm α]{S:Nat->Prop}{xs:List α}{p:Option Addr}{D c i j b:Nat}{cs y:List Value}{m:Nat}(h:SH w0 w L)(hi:L[m]?=V (Ch.hole S xs p D c i cs))(X:p=V ⟨b,0,U⟩)(n:j+y.length<=cs.length) :
  ∃d t,w.heap[b]?=V (.cells d t (0,0))/\i*qm.k α+j+y.length<=d.size /\
   SH w0 (w.setRow b (iG d.toList (i*qm.k α+j) y).toArray) (L.set m (Ch.hole S xs p D c i (iG cs j y))):=by
 obtain⟨R,hS⟩:=h.mem hi;obtain⟨rfl,N,O,P,Q,b',d,T,F,s,H,I,J,K,e,q7,q8,q9⟩:=R;subst X;simp only[Option.some.injEq,Addr.mk.injEq,and_true] at s;subst s;have W:i*qm.k α+qm.k α<=d.size:=by rw[J];exact BX (by omega)
 have f:i*qm.k α+j+y.length<=d.toList.length:=by simp;omega
 refine⟨d,T,I,by simpa using f,?_⟩;refine h.upd hi Z Z Z (by simp) (fun a _ l=>setRow_other w b a _ (fun z=>l (z ▸ H))) ?_ (fun a l=>.inl l) (fun _ A=>A.elim);refine⟨Z,N,O,P,by rw[rX n];exact Q,b,_,T,F,Z,H,setRow_heap w b _ _ T _ I,by rw[jZ,rX f];simpa using J,K,e,q7,fun r v k=>?_,fun r x o Y=>?_⟩
 .rw[jQ];rw[getElem?_splice n] at k;rw[getElem?_splice f];have g:∀r v,cs[r]?=V v->d.toList[i*qm.k α+r]?=V v:=fun r v k=>by simpa using q8 r v k
  split at k
  .rw[if_pos (by omega)];exact g _ _ k
  .split at k
   .rw[if_neg (by omega),if_pos (by omega),show i*qm.k α+r-(i*qm.k α+j)=r-j by omega];exact k
   .rw[if_neg (by omega),if_neg (by omega)];exact g _ _ k
 .obtain⟨M,B,A⟩:=q9 r x o Y;refine⟨M,qm.locO B (fun a l=>setRow_other w b a _ (K r a l).2),fun q v C=>?_⟩;have u:q<qm.k α:=by have:=qm.len (qm.toR B);have:=(List.getElem?_eq_some_iff.1 C).1;omega
  have hs:=qbo (q:=q) o u u;rw[jQ,N0 f (by omega)];simpa using A q v C
theorem GR(F:cv P T){α:Type}[qm α]{all:Array Oper}{l:List Oper}{t ty:Nat}{ps:String}{B:Array Edge}{x v:Operand}{A:TE}{S:Nat->Prop}{xs:List α}{p:Option Addr}{z c b m q:Nat}{cs:List Value}{u:Value}(i j:Nat)
  (h:SH w0 w L) (hi:L[i]?=V (Ch.hole S xs p z c m cs)) (J:p=V ⟨b,0,U⟩) (y:q=0+m*qm.k α) (M:gg e x=V (.pointer (V ⟨b,q+j,U⟩))) (K:gg e v=V u) (r:T.get t=V A)
  (o:Nat.beq (bc u).length A.size=An) (f:Nat.ble (j+(bc u).length) cs.length=An) (D:H6 (bc u)=An)
  (I:∀w',SH w0 w' (L.set i (Ch.hole S xs p z c m (iG cs j (bc u))))->bu P n Q (.ops all l::k) e w'):bu P n Q (.ops all (⟨U,.store t x v,ty,ps,B,U⟩::l)::k) e w:=by
 rw[Jd] at y;subst y;obtain⟨C,N,H,d,g⟩:=T2 h hi J (js f);refine ZA Z Z (fun a s=>?_) (I _ g);have:=CG F r H (HG o) d D;simp only[execOp,s.eval M,s.eval K,jk,this,ji,jm]
def Ch.lrn{α:Type}[qm α](S:Nat->Prop)(x:α)(cs:List Value)(fs:List TS):Ch where
 S:=S
 D _:=False
 P w:=qm.O w S x cs/\∀f∈fs,f.R w S
 loc _ _ h _ hp:=⟨qm.locO hp.1 h,fun f a=>qm.loc (self:=f.inst) (hp.2 f a) h⟩
theorem SH.say{c c':Ch}{i:Nat}(h:SH w0 w L)(hi:L[i]?=V c)(g:c.P w->c'.P w)(d:∀b,c'.S b->c.S b)(a:∀b,c'.D b->b<w0.heap.size):SH w0 w (L.set i c'):=
 h.upd hi Z Z Z (jf _) (fun _ _ _=>rfl) (g (h.mem hi).1) (fun b f=>.inl (d b f)) a
variable{α β:Type}[qm α][qm β]{S:Nat->Prop}{x:α}{cs:List Value}{fs:List TS}
theorem SH.lrn0(i:Nat)(h:SH w0 w L)(hi:L[i]?=V (Ch.own S x cs)):SH w0 w (L.set i (Ch.lrn S x cs [])):=
 h.say hi (fun a=>⟨a,fun _ h=>by cases h⟩) (fun _ h=>h) (fun _ h=>h.elim)
theorem SH.unlrn(i:Nat)(h:SH w0 w L)(hi:L[i]?=V (Ch.lrn S x cs fs)):SH w0 w (L.set i (Ch.own S x cs)):=
 h.say hi (fun a=>a.1) (fun _ h=>h) (fun _ h=>h.elim)
theorem SH.lrnAdd{y:β}{b:List Value}(i:Nat)(h:SH w0 w L)(hi:L[i]?=V (Ch.lrn S x cs fs))(d:qm.R w S y b):SH w0 w (L.set i (Ch.lrn S x cs (ti y b::fs))):=
 h.say hi (fun c=>⟨c.1,fun f a=>by
  rcases List.mem_cons.1 a with rfl|a
  .exact d
  .exact c.2 f a⟩) (fun _ h=>h) (fun _ h=>h.elim)
theorem SH.lrnS(i j:Nat){y:β}{a:List Value}(h:SH w0 w L)(hi:L[i]?=V (Ch.lrn S x cs fs))(b:fs[j]?=V (ti y a)):qm.R w S y a:=
 (h.mem hi).1.2 _ (jB b)
theorem SH.lrnO(i:Nat)(h:SH w0 w L)(hi:L[i]?=V (Ch.lrn S x cs fs)):qm.R w S x cs:=qm.toR (h.mem hi).1.1
theorem SH.lrnB(i:Nat)(h:SH w0 w L)(hi:L[i]?=V (Ch.lrn S x cs fs)):∀b,S b->Fw.old w b:=fun b a=>((h.mem hi).2 b a).2
theorem kZ{xs:List α}{p:Option Addr}{b c:Nat}(h:qm.R w S xs [.slice p b c]):dn w S xs p c/\b=xs.length:=by
 obtain⟨f,c',a,d⟩:=h;simp only[List.cons.injEq,Value.slice.injEq,and_true] at a;obtain⟨rfl,rfl,rfl⟩:=a;exact⟨d,Z⟩
def ms{α:Type}[qm α](w:World)(S:Nat->Prop)(p:Option α)(a:Option Addr):Prop:=qm.R w S p [.pointer a]
theorem aM{p:Option α}{cs:List Value}(h:qm.R w S p cs):∃a,cs=[.pointer a]/\ms w S p a:=by
 cases p with
 |none=>exact⟨U,h,(rfl:[Value.pointer U]=[.pointer U])⟩
 |some x=>
  obtain⟨b,o,c,T,fr,d,rfl,h⟩:=h;exact⟨_,Z,b,o,c,T,fr,d,Z,h⟩
theorem ms.get{p:Option α}{a:Option Addr}{x:α}(h:ms w S p a)(m:p=V x):∃b o c,a=V ⟨b,o,U⟩/\S b/\qm.R w S x c/\cw w b o c:=by
 subst m;obtain⟨b,o,f,T,fr,c,d,g,i,l,k⟩:=h;simp only[List.cons.injEq,Value.pointer.injEq,and_true] at d;exact⟨b,o,c,d,g,l,cw.of_block i k⟩
theorem ms.isNone{p:Option α}{a:Option Addr}(h:ms w S p a):a.isNone=p.isNone:=by
 cases p with
 |none=>have c:[Value.pointer a]=[.pointer U]:=h;cases c;rfl
 |some x=>obtain⟨b,o,d,rfl,_⟩:=h.get Z;rfl
theorem ms.mono{S':Nat->Prop}{p:Option α}{a:Option Addr}(h:ms w S p a)(c:∀b,S b->S' b):ms w S' p a:=qm.mono h c
theorem ms.none:ms w S (U:Option α) U:=rfl
theorem C7{b:Nat}{a:List Value}{t:TypeId}(i:Nat)(h:SH w0 w L)(hi:L[i]?=V (Ch.box b a t))(c:S b)(g:qm.R w S x a):qm.R w S (V x) [.pointer (V ⟨b,0,U⟩)]:=by
 have d:w.heap[b]?=V (.cells a.toArray t (0,0)):=(h.mem hi).1;exact⟨b,0,_,t,(0,0),a,Z,c,d,g,fun j v f=>by simpa using f⟩
theorem oB{b:Nat}{a:List Value}{t:TypeId}(i:Nat)(h:SH w0 w L)(hi:L[i]?=V (Ch.box b a t))(c:qm.R w (Fw.old w) x a):qm.R w (Fw.old w) (V x) [.pointer (V ⟨b,0,U⟩)]:=
 C7 i h hi ((h.mem hi).2 b Z).2 c
def EL:List Ch->Prop
 | []=>True
 |c::L=>(∀b,¬ c.D b)/\EL L
theorem EL.all:∀{L:List Ch},EL L->∀c∈L,∀b,¬ c.D b
 | [],_,_,h=>by cases h
 |d::L,h,c,hc=>by
  rcases List.mem_cons.1 hc with rfl|hc
  .exact h.1
  .exact EL.all h.2 c hc
theorem SH.unbase(h:SH w1 w L)(f:Below w0.heap.size w0 w1)(g:EL L):SH w0 w L:=
 ⟨f.trans (h.below.mono f.size),fun c d=>⟨(h.holds c d).1,fun b a=>⟨jX f.size ((h.holds c d).2 b a).1,((h.holds c d).2 b a).2⟩⟩,fun c d b a=>absurd a (g.all c d b),h.apart⟩
end

def wT{α:Type}(xs:List α)(lo hi:Int):Option (List α):=if 0<=lo/\lo<=hi/\hi<=xs.length then V ((xs.take hi.toNat).drop lo.toNat) else U
theorem ww{α:Type}{xs r:List α}{lo hi:Int}(h:wT xs lo hi=V r):0<=lo/\lo<=hi/\hi<=xs.length/\(xs.take hi.toNat).drop lo.toNat=r:=by
 unfold wT at h;split at h
 .rename_i hh;exact⟨hh.1,hh.2.1,hh.2.2,Option.some.inj h⟩
 .cases h
theorem qbs{α:Type}{xs:List α}{lo hi:Nat}(a:lo<=hi)(b:hi<=xs.length):((xs.take hi).drop lo).length=hi-lo:=by simp;omega
section
variable{P:Program}{T:uV}{n:Nat}{Q:Exit->Act->World->Prop}{k:List It}{e:fy}{w0 w w' w1:World}{L:List Ch}
structure Rg(A0:Nat->Prop)(w00:World)(B:Nat->Prop)(w0:World):Prop where
 below:Below w00.heap.size w00 w0
 old:∀b,B b->Fw.old w0 b
 fin:∀b,B b->xC A0 w00 w0 b
theorem Rg.start{A:Nat->Prop}(h:∀b,A b->Fw.old w b):Rg A w A w:=⟨Below.refl _ _,h,fun _ a=>.inl a⟩
structure Up(B:Nat->Prop)(w0 w:World)(B':Nat->Prop)(w1:World):Prop where
 below:Below w.heap.size w w1
 sub:∀b,xC B w0 w b->B' b
variable{A0 A B B':Nat->Prop}{w00:World}{α:Type}[qm α]{x:α}{cs:List Value}{xs:List α}{p:Option Addr}{c:Nat}
theorem Up.heap(d:Rg A0 w00 B w0)(h:SH w0 w L)(f:Up B w0 w B' w1):∀b,B b->w1.heap[b]?=w0.heap[b]?:=fun b c=>by
 have a:=d.old b c;rw[f.below.block b (jx a h.below.size),h.below.block b a]
theorem Up.R(d:Rg A0 w00 B w0)(h:SH w0 w L)(a:Up B w0 w B' w1)(f:qm.R w0 B x cs):qm.R w1 B' x cs:=
 qm.mono (qm.loc f (Up.heap d h a)) (fun b c=>a.sub b (.inl c))
theorem Up.S(f:Rg A0 w00 B w0)(h:SH w0 w L)(a:Up B w0 w B' w1)(g:dn w0 B xs p c):dn w1 B' xs p c:=
 (g.loc (Up.heap f h a)).mono (fun b d=>a.sub b (.inl d))
theorem Up.Pt{y:Option α}{a:Option Addr}(b:Rg A0 w00 B w0)(h:SH w0 w L)(d:Up B w0 w B' w1)(c:ms w0 B y a):ms w1 B' y a:=Up.R b h d c
theorem Up.C{b o:Nat}(h:SH w0 w L)(c:Up B w0 w B' w1)(a:cw w0 b o cs):cw w1 b o cs:=(a.below h.below).below c.below
theorem Up.own{S:Nat->Prop}(i:Nat)(h:SH w0 w L)(c:Up B w0 w B' w1)(hi:L[i]?=V (Ch.own S x cs)):qm.R w1 B' x cs:=
 qm.mono (qm.loc (qm.toR (h.mem hi).1) (fun b a=>c.below.block b ((h.mem hi).2 b a).2)) (fun b a=>c.sub b (.inr ((h.mem hi).2 b a)))
theorem Up.box{b:Nat}{t:TypeId}(i:Nat)(h:SH w0 w L)(a:Up B w0 w B' w1)(hi:L[i]?=V (Ch.box b cs t)):cw w1 b 0 cs:=(h.box i hi).below a.below
theorem Rg.inR(c:Rg A0 w00 B w0)(h:SH w0 w L)(d:qm.R w0 B x cs):qm.R w (xC B w0 w) x cs:=
 qm.mono (qm.loc d (fun b a=>h.below.block b (c.old b a))) (fun _ a=>.inl a)
theorem Rg.inS(d:Rg A0 w00 B w0)(h:SH w0 w L)(f:dn w0 B xs p c):dn w (xC B w0 w) xs p c:=
 (f.loc (fun b a=>h.below.block b (d.old b a))).mono (fun _ a=>.inl a)
theorem Rg.ownR{S:Nat->Prop}(i:Nat)(h:SH w0 w L)(hi:L[i]?=V (Ch.own S x cs)):qm.R w (xC B w0 w) x cs:=
 qm.mono (qm.toR (h.mem hi).1) (fun b a=>.inr ((h.mem hi).2 b a))
theorem Rg.regOld(a:Rg A0 w00 B w0)(h:SH w0 w L):∀b,xC B w0 w b->Fw.old w b:=by
 rintro b (hb|hb)
 .exact jx (a.old b hb) h.below.size
 .exact hb.2
theorem Rg.boxR{b:Nat}{t:TypeId}{a:List Value}(i:Nat)(h:SH w0 w L)(hi:L[i]?=V (Ch.box b a t))(c:qm.R w (xC B w0 w) x a):qm.R w (xC B w0 w) (V x) [.pointer (V ⟨b,0,U⟩)]:=
 C7 i h hi (.inr ((h.mem hi).2 b Z)) c
theorem Rg.outR(a:Rg A0 w00 B w0)(h:SH w0 w L)(c:qm.R w (xC B w0 w) x cs):qm.R w (xC A0 w00 w) x cs:=
 qm.mono c (by
  rintro b (hb|hb)
  .rcases a.fin b hb with hb|hb
   .exact .inl hb
   .exact .inr ⟨hb.1,jx hb.2 h.below.size⟩
  .exact .inr ⟨jX a.below.size hb.1,hb.2⟩)
class AQ (ρ:Type) [la ρ]:Prop where
 mono:∀{w:World} {S S':Nat->Prop} {r:ρ} {us:List Value},la.Rs w S r us->(∀b,S b->S' b)->la.Rs w S' r us
instance {α:Type}[qm α]:AQ α:=⟨fun h hs=>by obtain⟨cs,rfl,h⟩:=h;exact⟨cs,Z,qm.mono h hs⟩⟩
instance (priority:=high){α β:Type}[qm α][la β][AQ β]:AQ (α×β):=⟨fun h hs=>by
 obtain⟨cs,us,rfl,h1,h2⟩:=h
 exact⟨cs,us,Z,qm.mono h1 hs,AQ.mono h2 hs⟩⟩
theorem pg{ρ:Type}[la ρ][AQ ρ](r:ρ){all:Array Oper}{l:List Oper}{d ty:Nat}{ps:String}{D:Array Edge}{x:Operand}{c:Array Operand}{t:Array TypeId}{f:FuncId}{A z:Array Value}{y C:List Value}
  (p:Rg A0 w00 B w0) (h:SH w0 w L) (m:kL P f) (H:FM P f C w (xC B w0 w) r) (M:gg e x=V (.func (.func f) A z)) (g:pk e c.toList=V y) (u:A.toList++y++z.toList=C) (J:Nat.blt d n=An)
  (I:∀w1 o B',Rg A0 w00 B' w1->Up B w0 w B' w1->SH w1 w1 []->la.Rs w1 B' r o->bu P n Q (.ops all l::k) ((d,vK o)::e) w1) :
  bu P n Q (.ops all (⟨V d,.call ⟨.value x,c,t⟩,ty,ps,D,U⟩::l)::k) e w:=by
 subst u;refine zD (R:=fun v w'=>Below w.heap.size w w'/\∃o,v=vK o/\la.Rs w' (xC (xC B w0 w) w w') r o) Z Z J (fun a F=>sO F m M g w) H ?_;rintro v w1 ⟨s,o,rfl,K⟩;have i:Below w0.heap.size w0 w1:=h.below.trans (s.mono h.below.size);refine I w1 o (xC B w0 w1) ⟨p.below.trans (i.mono p.below.size),?_,?_⟩ ⟨s,?_⟩ (SH.start w1) (AQ.mono K ?_)
 .rintro b (hB|hB)
  .exact jx (p.old b hB) i.size
  .exact hB.2
 .rintro b (hB|hB)
  .rcases p.fin b hB with hB|hB
   .exact .inl hB
   .exact .inr ⟨hB.1,jx hB.2 i.size⟩
  .exact .inr ⟨jX p.below.size hB.1,hB.2⟩
 .rintro b (hB|hB)
  .exact .inl hB
  .exact .inr ⟨hB.1,jx hB.2 s.size⟩
 .rintro b ((hB|hB)|hB)
  .exact .inl hB
  .exact .inr ⟨hB.1,jx hB.2 s.size⟩
  .exact .inr ⟨jX h.below.size hB.1,hB.2⟩
theorem mS{w:World}{S:Nat->Prop}{r:α}{a:List Value}(h:(qdq:la α).Rs w S r a):∃cs,a=[qm.v α cs]/\qm.R w S r cs:=h
theorem dA{β:Type}[la β]{w:World}{S:Nat->Prop}{r:α×β}{a:List Value}(h:la.Rs w S r a):∃cs vs,a=qm.v α cs::vs/\qm.R w S r.1 cs/\la.Rs w S r.2 vs:=h
def PI(a:Nat)(p:Option Addr)(c:Nat)(lo:Nat):Option Addr:=if c=lo then p else p.map (·.add (lo*a))
theorem dn.sub{S:Nat->Prop}(h:dn w S xs p c){lo hi:Nat}(t:lo<=hi)(k:hi<=xs.length):dn w S ((xs.take hi).drop lo) (PI (qm.k α) p c lo) (c-lo):=by
 obtain⟨u,x,s⟩:=h;have f:((xs.take hi).drop lo).length=hi-lo:=by simp;omega
 refine⟨by rw[f];omega,by omega,?_⟩;rcases s with⟨hp,rfl⟩|⟨b,o,cur,T,fr,rfl,hb,hg,hc,hx⟩
 .left;have:hi=0:=by simpa using k
  have:lo=0:=by omega
  subst this;refine⟨?_,by simp⟩;rcases hp with rfl|rfl
  .left;unfold PI;split<;>rfl
  .right;rfl
 .by_cases d:c=lo
  .left;exact⟨.inr (by omega),jO (by rw[f];omega)⟩
  .right;have g:(c-lo)*qm.k α=c*qm.k α-lo*qm.k α:=Nat.sub_mul ..;have m:lo*qm.k α<=c*qm.k α:=jt _ (by omega);refine⟨b,o+lo*qm.k α,cur,T,fr,?_,hb,hg,by omega,fun i y a=>?_⟩
   .unfold PI;rw[if_neg d];simp[tk]
   .rw[Ja,jJ] at a;split at a
    .obtain⟨cs,n,l⟩:=hx _ _ a;refine⟨cs,n,fun j v r=>?_⟩;have:=l j v r;rw[Nat.add_mul] at this;rw[<-this]
     congr 1
     omega
    .cases a
theorem QS{x:Value}{y:Nat}{code:BoundsCode}{kd:IntKind}{i:Int}(c:x=.int kd i)(a:0<=i)(b:i<=y)(w:World):(Instr.sliceBound x y code).run P w=.ok i.toNat w:=by
 subst c;simp[Instr.sliceBound,asIntOf,a,b]
def VV(e:fy):Option Operand->Int->Option Int
 |none,d=>V d
 |some x,_=>match gg e x with
  |some (.int _ i)=>V i
  |_=>U
theorem qbx(C:cv P T){x:Operand}{lo hi:Option Operand}{t ty d el:Nat}{ps:String}{F:Array Edge}{g:Option (Nat×Bool)}{D o:TE}{k m:Nat}{l h:Int}
  (N:gg e x=V (.slice p k c)) (f:VV e lo 0=V l) (b:VV e hi k=V h) (I:0<=l) (O:l<=h) (Q:h<=k) (R:k<=c)
  (B:T.get t=V D) (J:D.kind=.slice el) (A:T.get el=V o) (K:o.size=m):KP P n e ⟨V d,.slice t x lo hi U,ty,ps,F,g⟩ w (.slice (PI m p c l.toNat) (h.toNat-l.toNat) (c-l.toNat)):=by
 intro a r;have M:=mE (C _ _ B) J;have L:=uI (C _ _ A) w;subst K;have s:∀(code:BoundsCode),(match hi.map a.eval with|some v=>Instr.sliceBound v c code|none=>pure k:Sem Nat).run P w=.ok h.toNat w:=by
  intro code;cases hi with
  |none=>simp only[VV,Option.some.injEq] at b;subst b;simp
  |some y=>
   simp only[VV] at b;split at b
   .rename_i kd i hy
    simp only[Option.some.injEq] at b;subst b;simp only[Option.map_some];exact QS (r.eval hy) (by omega) (by omega) w
   .cases b
 have u:∀(code:BoundsCode),(match lo.map a.eval with|some v=>Instr.sliceBound v h.toNat code|none=>pure 0:Sem Nat).run P w=.ok l.toNat w:=by
  intro code;cases lo with
  |none=>simp only[VV,Option.some.injEq] at f;subst f;simp
  |some y=>
   simp only[VV] at f;split at f
   .rename_i kd i hy
    simp only[Option.some.injEq] at f;subst f;simp only[Option.map_some];exact QS (r.eval hy) I (by omega) w
   .cases f
 have z:(Instr.sliceBounds An k c (lo.map a.eval) (hi.map a.eval) U).run P w=.ok (l.toNat,h.toNat,c) w:=by
  have e1:=s .sliceAcap;have H:=u .sliceB;unfold Instr.sliceBounds;cases hi<;>cases lo<;>simp only[Option.map_none,Option.map_some,jk,jm,ji,if_true,Option.isSome_none,Bool.false_eq_true,if_false] at e1 H⊢<;>simp_all
 simp only[execOp,r.eval N,Option.map_none,Instr.sliceAt,Instr.sureAddr,Instr.slice,jk,jm,run_underlying M,ji,z,L,PI]
def P4(s:ByteArray)(i:Int):Option Int:=if 0<=i then(s[i.toNat]?).map fun b=>(b.toNat:Int) else U
theorem AU{s:ByteArray}{i r:Int}(h:P4 s i=V r):∃b,(if 0<=i then s[i.toNat]? else U)=V b/\(b.toNat:Int)=r:=by
 unfold P4 at h;split at h
 .rename_i h0
  obtain⟨b,a,rfl⟩:=Option.map_eq_some_iff.1 h;exact⟨b,by rw[if_pos h0,a],Z⟩
 .cases h
theorem CQ(l:cv P T){x i:Operand}{t ty d:Nat}{ps:String}{k:Array Edge}{g:Option (Nat×Bool)}{h:TE}{s:ByteArray}{kd:IntKind}{iv r:Int}
  (p:∃b,(if 0<=iv then s[iv.toNat]? else U)=V b/\(b.toNat:Int)=r) (v:gg e x=V (.string s)) (hi:gg e i=V (.int kd iv)) (c:T.get t=V h) (o:h.kind=.str):KP P n e ⟨V d,.index t x i,ty,ps,k,g⟩ w (.int .u8 r):=by
 intro a f;obtain⟨b,m,rfl⟩:=p;have u:=IE (l _ _ c) o;simp only[execOp,f.eval v,f.eval hi,Instr.index,asIntOf,jk,jm,ji,run_underlying u,m]
def UH(a b:ByteArray):Option ByteArray:=if ((a.size+b.size:Nat):Int)<=IntKind.i64.max then V (a++b) else U
theorem wk{a b r:ByteArray}(h:UH a b=V r):((a.size+b.size:Nat):Int)<=IntKind.i64.max/\a++b=r:=by
 unfold UH at h;split at h
 .rename_i hh;exact⟨hh,Option.some.inj h⟩
 .cases h
theorem QZ{x y:Operand}{t m d ty:Nat}{ps:String}{h:Array Edge}{g:Option (Nat×Bool)}{a b:ByteArray}
  (o:((a.size+b.size:Nat):Int)<=IntKind.i64.max) (k:gg e x=V (.string a)) (l:gg e y=V (.string b)):KP P n e ⟨V d,.binOp .add t x y m,ty,ps,h,g⟩ w (.string (a++b)):=by
 intro c f;have i:¬ (((a.size+b.size:Nat):Int) > IntKind.i64.max):=by omega
 simp only[execOp,f.eval k,f.eval l,jk,KF,ji,binOp,Op.stringOp,i,if_false,jm]
end

def MW(e:fy)(all:Array Oper)(o:Oper):Bool:=
 match o.guard with
 |none=>Cd
 |some (j,_)=>
  match all[j]? with
  |none=>Cd
  |some p=>
   match p.dst with
   |none=>Cd
   |some t=>
    match e.get t with
    |some (.tuple _)=>An
    |_=>Cd
def VR(e:fy)(all:Array Oper)(o:Oper):Bool:=MW e all o || (match zh e all o with|some Cd=>An|_=>Cd)
section
variable{P:Program}{T:uV}{n:Nat}{Q:Exit->Act->World->Prop}{k:List It}{e:fy}{w0 w w' w1:World}{L:List Ch}
theorem UY{all:Array Oper}{o:Oper}{a:Act}(d:gc n e a)(h:MW e all o=An):Region.wanted o (yielded all a.tmps)=Cd:=by
 unfold MW at h;unfold Region.wanted;split at h
 .cases h
 .rename_i j want hg
  rw[hg];simp only;split at h
  .cases h
  .rename_i p hp
   split at h
   .cases h
   .rename_i t ht
    split at h
    .rename_i c hc
     have b:=d.at_ t _ hc;have f:yielded all a.tmps j=U:=by simp[yielded,hp,ht,b]
     rw[f]
     rfl
    .cases h
theorem QK{all:Array Oper}{o:Oper}{a:Act}(b:gc n e a)(h:VR e all o=An):Region.wanted o (yielded all a.tmps)=Cd:=by
 unfold VR at h;rw[Bool.or_eq_true] at h;rcases h with h|h
 .exact UY b h
 .split at h
  .rename_i hg;exact zi b hg
  .cases h
theorem qbU{all:Array Oper}{o:Oper}{l:List Oper}{d:Nat}(h:VR e all o=An)(c:o.dst=V d)(g:Nat.blt d n=An)
  (f:bu P n Q (.ops all l::k) ((d,undef)::e) w):bu P n Q (.ops all (o::l)::k) e w:=by
 intro a b;show wpList P all (post P Q k) (o::l) a w;rw[wpList,if_neg (by rw[QK b h];simp),c];exact f _ (b.put g undef)
theorem qbL{all:Array Oper}{o:Oper}{l:List Oper}{d:Nat}(h:VR e all o=An)(c:o.dst=V d)(g:Nat.blt d n=An)
  (f:lB P n Q k all w l ((d,undef)::e)):lB P n Q k all w (o::l) e:=by
 intro a b;rw[wpQuiet,if_neg (by rw[QK b h];simp),c];exact f _ (b.put g undef)
theorem sE{α:Type}[qm α]{S:Nat->Prop}{xs:List α}{p:Option Addr}{k c i b q:Nat}{cs:List Value}(h:SH w0 w L)(m:Nat)(hi:L[m]?=V (Ch.hole S xs p k c i cs))(f:p=V ⟨b,0,U⟩)(g:q=0+i*qm.k α):cw w b q cs:=by
 obtain⟨l,a,d,_⟩:=h.holeAt m hi;rw[f] at a;simp only[Option.some.injEq,Addr.mk.injEq,and_true] at a;subst a g;rw[Jd];exact d
theorem FF{α:Type}[qm α]{S:Nat->Prop}{x:α}{cs:List Value}(h:SH w0 w (Ch.own S x cs::L)):∃S',SH w0 w (Ch.own S' x cs::L):=⟨S,h⟩
theorem TF{α:Type}[qm α]{S:Nat->Prop}{xs r:List α}{p:Option Addr}{c:Nat}{lo hi:Int}(f:dn w S xs p c)(g:wT xs lo hi=V r) :
  ∃p1 k1,PI (qm.k α) p c lo.toNat=p1/\c-lo.toNat=k1/\hi.toNat-lo.toNat=r.length/\0<=lo/\lo<=hi/\hi<=xs.length/\xs.length<=c:=by
 obtain⟨a,b,d,rfl⟩:=ww g;exact⟨_,_,Z,Z,(qbs (by omega) (by omega)).symm,a,b,d,f.1⟩
theorem ZN{α:Type}[qm α]{S:Nat->Prop}{xs r:List α}{p p1:Option Addr}{c a:Nat}{lo hi:Int}(f:dn w S xs p c)(g:wT xs lo hi=V r)(d:PI (qm.k α) p c lo.toNat=p1)(b:c-lo.toNat=a):dn w S r p1 a:=by
 obtain⟨h,i,k,rfl⟩:=ww g;subst d b;exact f.sub (by omega) (by omega)
theorem TD{lo hi:Int}{m c a:Nat}(g:0<=lo/\lo<=hi/\hi<=(m:Int)/\m<=c)(e:a=m):0<=lo/\lo<=hi/\hi<=(a:Int)/\a<=c:=by subst e;exact g
theorem HC(A:cv P T){x:Operand}{lo hi:Option Operand}{t ty d el:Nat}{ps:String}{z:Array Edge}{g:Option (Nat×Bool)}{y a:TE}{p p1:Option Addr}{c f m u v:Nat}{l h:Int}
  (H:gg e x=V (.slice p f c)) (r:VV e lo 0=V l) (k:VV e hi f=V h) (b:0<=l/\l<=h/\h<=f/\f<=c) (F:PI m p c l.toNat=p1) (o:c-l.toNat=u) (C:h.toNat-l.toNat=v)
  (s:T.get t=V y) (B:y.kind=.slice el) (i:T.get el=V a) (D:a.size=m):KP P n e ⟨V d,.slice t x lo hi U,ty,ps,z,g⟩ w (.slice p1 v u):=by
 subst F o C;exact qbx A H r k b.1 b.2.1 b.2.2.1 b.2.2.2 s B i D
def qb8(op:BinOp)(kd:IntKind)(x y:Int):Int:=
 let a:=BitVec.ofInt kd.bits x
 let b:=BitVec.ofInt kd.bits y
 match op with
 |.and=>kd.wrap (a &&& b).toNat
 |.or=>kd.wrap (a ||| b).toNat
 |.xor=>kd.wrap (a ^^^ b).toNat
 |_=>kd.wrap (a &&& ~~~b).toNat
def qcs:BinOp->Bool
 |.and=>An
 |.or=>An
 |.xor=>An
 |.andNot=>An
 |_=>Cd
theorem qcS{op:BinOp}{x y:Operand}{t m d ty:Nat}{ps:String}{h:Array Edge}{g:Option (Nat×Bool)}{kd:IntKind}{a b:Int}(i:qcs op=An)(k:gg e x=V (.int kd a))(l:gg e y=V (.int kd b)) :
  KP P n e ⟨V d,.binOp op t x y m,ty,ps,h,g⟩ w (.int kd (qb8 op kd a b)):=by
 intro c f;cases op<;>first|cases i;done|(simp only[execOp,f.eval k,f.eval l,jk,sN,ji,binOp,Op.intBits,jm,qb8,ne_eq,not_true_eq_false,if_false])
def qbn(kd:IntKind)(a b:Int):Option Int:=if 0<=b then V (a.fdiv (2 ^ (min b.toNat kd.bits))) else U
theorem M8{kd:IntKind}{a b r:Int}(h:qbn kd a b=V r):0<=b/\a.fdiv (2 ^ (min b.toNat kd.bits))=r:=by
 unfold qbn at h;split at h
 .rename_i hh;exact⟨hh,Option.some.inj h⟩
 .cases h
theorem qdv{x y:Operand}{t o d ty:Nat}{ps:String}{i:Array Edge}{g:Option (Nat×Bool)}{kd f:IntKind}{a b:Int}
  (p:0<=b) (l:gg e x=V (.int kd a)) (m:gg e y=V (.int f b)):KP P n e ⟨V d,.binOp .shr t x y o,ty,ps,i,g⟩ w (.int kd (a.fdiv (2 ^ (min b.toNat kd.bits)))):=by
 intro c h;have k:¬ b<0:=by omega
 simp only[execOp,h.eval l,h.eval m,jk,sN,ji,binOp,Op.shift,k,if_false,jm]
theorem L6{t:TypeId}{x:TE}(h:ut P t=V x)(c:x.kind=.ptr):∃el,P.underlying t=V (.pointer el):=by
 obtain⟨d,b,a⟩:=oI h;rw[c] at a;rw[b];cases d<;>simp at a;exact⟨_,Z⟩
theorem Z8(h:cv P T){x y:Operand}{t u d ty:Nat}{ps:String}{f:Array Edge}{g:Option (Nat×Bool)}{b:TE}{p:Option Addr}
  (l:T.get t=V b) (i:b.kind=.ptr) (o:gg e x=V (.pointer p)) (s:gg e y=V (.pointer U)) {r:Bool} (k:p.isNone=r):KP P n e ⟨V d,.binOp .neq t x y u,ty,ps,f,g⟩ w (.bool (!r)):=by
 intro a c;subst k;obtain⟨el,m⟩:=L6 (h t b l) i;simp only[execOp,c.eval o,c.eval s,jk,US,ji,binOp,ST m,jm]
theorem QM{t m el:Nat}{x:TE}(h:ut P t=V x)(c:x.kind=.arr m el):P.underlying t=V (.array m el):=by
 obtain⟨d,b,a⟩:=oI h;rw[c] at a;rw[b];cases d<;>simp at a;rw[a.1,a.2]
theorem qbX(l:cv P T){x i:Operand}{t ty d el m r b o:Nat}{ps:String}{u:Array Edge}{g:Option (Nat×Bool)}{s h:TE}{kd:IntKind}{iv:Nat}
  (B:gg e x=V (.pointer (V ⟨b,o,U⟩))) (hi:gg e i=V (.int kd (iv:Int))) (v:iv<m)
  (f:T.get t=V s/\s.kind=.arr m el) (k:T.get el=V h) (y:h.size=r):KP P n e ⟨V d,.indexAddr t x i,ty,ps,u,g⟩ w (.pointer (V ⟨b,o+iv*r,U⟩)):=by
 intro a p;subst y;have A:=QM (l _ _ f.1) f.2;have z:=uI (l _ _ k) w;have c:0<=(iv:Int)/\(iv:Int)<(m:Int):=⟨by omega,by omega⟩;simp only[execOp,p.eval B,p.eval hi,jk,Instr.indexAt,Instr.sureAddr,asIntOf,jm,ji,run_underlying A];rw[if_pos c];simp only[jk,z,ji,jm,tk,jr]
theorem oF(B:cv P T){t d ty m el z:Nat}{ps:String}{C:Array Edge}{g:Option (Nat×Bool)}{b:Array (Nat×Operand)}{A h:TE}{zc:Array Value}(is:List Nat)(os:List Operand){o:List Value}{cs:List Value}
  (f:b.toList=is.zip os) (_:is.length=os.length) (u:pk e os=V o) (s:T.get t=V A) (H:A.kind=.arr m el) (L:A.zero=V (.agg zc)) (p:T.get el=V h) (I:h.size=z)
  (F:EE (fun i=>V (i*z,z)) zc.toList (is.zip o)=V cs):KP P n e ⟨V d,.build t b,ty,ps,C,g⟩ w (.agg cs.toArray):=by
 intro a D;subst I;have r:b.map (fun(x:Nat×Operand)=>(x.1,a.eval x.2))=(is.zip o).toArray:=by
  apply Array.ext';rw[Array.toList_map,f];have:=uG D u;subst this;simp only[List.zip_map_right]
  rfl
 have l:=B _ _ s;obtain⟨i,hi,_,_,v⟩:=pI l;have K:=QM l H;have J:=uI (B _ _ p) w;have k:=rP _ _ _ _ F;have y:i.zero=V (.agg zc):=v.trans L;have c:Instr.fill (fun i=>V (i*h.size,h.size)) zc (is.zip o)=V cs.toArray:=by simpa using k
 simp only[execOp,r,Instr.build,zeroValue,typeInfo,jk,run_program,ji,hi,jm,y,run_underlying K,Value.cells,J,c]
def NX(xs:List (gW .u8)):ByteArray:=(xs.map (·.val)).foldl (fun r n=>r.push (UInt8.ofNat n.toNat)) ByteArray.empty
theorem H1{α:Type}[qm α]{S:Nat->Prop}{xs:List α}{b o c:Nat}(g:α->Value)(h:dn w S xs (V ⟨b,o,U⟩) c)(l:qm.k α=1)(f:∀(x:α) (cs:List Value) (w:World) (S:Nat->Prop),qm.R w S x cs->cs=[g x]) :
  (loadCells ⟨b,o,U⟩ xs.length).run P w=.ok (xs.map g).toArray w:=by
 obtain⟨n,p,d⟩:=h;have:=run_loadCells_list (P:=P) w ⟨b,o,U⟩ (xs.map g) (fun i u hi=>by
  rw[List.getElem?_map] at hi;obtain⟨x,a,rfl⟩:=Option.map_eq_some_iff.1 hi;rcases d with⟨_,rfl⟩|⟨b',o',cur,T,fr,hp,hb,hgc,hc,he⟩
  .simp at a
  .simp only[Option.some.injEq,Addr.mk.injEq,and_true] at hp;obtain⟨rfl,rfl⟩:=hp;obtain⟨cs,m,k⟩:=he i x a;have:=k 0 (g x) (by rw[f x cs w S m];rfl);rw[l,Nat.mul_one,Jl] at this;rw[tk];simp[World.cell?,hgc,this])
 rw[jq] at this;exact this
theorem MD(m:cv P T){x:Operand}{s t ty d el:Nat}{ps:String}{A:Array Edge}{g:Option (Nat×Bool)}{z k l:TE}{p:Option Addr}{y c:Nat}{S:Nat->Prop}{xs:List (gW .u8)}
  (f:dn w S xs p c) (F:y=xs.length) (K:gg e x=V (.slice p y c)) (v:T.get s=V z/\z.kind=.slice el) (u:T.get t=V k/\k.kind=.str) (r:T.get el=V l) (D:l.kind=.int .u8) :
  KP P n e ⟨V d,.convert s t x,ty,ps,A,g⟩ w (.string (NX xs)):=by
 intro a B;subst F;have H:=mE (m _ _ v.1) v.2;have I:=IE (m _ _ u.1) u.2;have J:=QN (m _ _ r) D;have C:(Conv.bytesToString (.slice p xs.length c)).run P w=.ok (.string (NX xs)) w:=by
  cases p with
  |none=>
   have:xs=[]:=WL f;subst this;simp[Conv.bytesToString,NX]
  |some ad=>
   have i:=f.2.2;rcases i with⟨hp,rfl⟩|⟨b,o,cur,T',fr,hp,_⟩
   .have:=run_bytesToString (P:=P) w ad 0 c [] (by simp[loadCells,loadCellsFrom]);simpa [NX] using this
   .simp only[Option.some.injEq] at hp;subst hp;have:=run_bytesToString (P:=P) w ⟨b,o,U⟩ xs.length c (xs.map (·.val)) (by
     have:=H1 (P:=P) (fun x:gW .u8=>.int .u8 x.val) f Z (fun x cs w S h=>h);rw[this];simp[Function.comp_def])
    exact this
 simp only[execOp,B.eval K,convert,jk,run_underlying H,run_underlying I,ji,run_underlying J,C,jm]
end

section
variable{P:Program}{T:uV}{n:Nat}{Q:Exit->Act->World->Prop}{k:List It}{e:fy}{w0 w w' w1:World}{L:List Ch}
theorem bo(H:cv P T){α:Type}[qm α][ee α]{all:Array Oper}{l:List Oper}{d t ty el:Nat}{ps:String}{F:Array Edge}{x y:Operand}{S:Nat->Prop}{xs ys z:List α}{p B:Option Addr}{A g c c':Nat}{C a:TE}{D:Value}(i:Nat)
  (h:SH w0 w L) (hi:L[i]?=V (Ch.own S xs [.slice p A c])) (N:dn w (Fw.old w) ys B c') (o:g=ys.length) (J:gg e x=V (.slice p A c)/\gg e y=V (.slice B g c')/\T.get t=V C/\C.kind=.slice el/\T.get el=V a/\a.zero=V D/\(bc D).length=a.size/\a.size=qm.k α/\Nat.ble a.bytes 65536=An) (b:xs.length+ys.length<=OI) (u:xs++ys=z) (M:Nat.blt d n=An)
  (f:∀w' p2 c2 S2,SH w0 w' (L.set i (Ch.own S2 z [.slice p2 z.length c2]))->bu P n Q (.ops all l::k) ((d,.slice p2 z.length c2)::e) w') :
  bu P n Q (.ops all (⟨V d,.call ⟨.builtin .append,#[x,y],#[t,t]⟩,ty,ps,F,U⟩::l)::k) e w:=by
 obtain⟨O,R,s,K,m,W,v,r,I⟩:=J;subst u;rw[jg] at f;exact qbT H i h hi N o O R s K m W v r I b M f
theorem zA(D:cv P T){α:Type}[qm α]{all:Array Oper}{l:List Oper}{d t ty el:Nat}{ps:String}{C:Array Edge}{x y:Operand}{S S1:Nat->Prop}{xs ys z:List α}{p v:Option Addr}{u g c c':Nat}{A a:TE}{B:Value}
  (h:SH w0 w (Ch.own S1 ys [.slice v g c']::Ch.own S xs [.slice p u c]::L)) (J:gg e x=V (.slice p u c)) (K:gg e y=V (.slice v g c'))
  (o:T.get t=V A) (H:A.kind=.slice el) (i:T.get el=V a) (M:a.zero=V B) (s:(bc B).length=a.size) (m:a.size=qm.k α)
  (F:Nat.ble a.bytes 65536=An) (b:xs.length+ys.length<=OI) (r:xs++ys=z) (I:Nat.blt d n=An)
  (f:∀w' p2 c2 S2,SH w0 w' (Ch.own S2 z [.slice p2 z.length c2]::L)->bu P n Q (.ops all l::k) ((d,.slice p2 z.length c2)::e) w') :
  bu P n Q (.ops all (⟨V d,.call ⟨.builtin .append,#[x,y],#[t,t]⟩,ty,ps,C,U⟩::l)::k) e w:=by
 subst r;rw[jg] at f;exact qcG D h J K o H i M s m F b I f
theorem bv(C:cv P T)(α:Type)[qm α]{all:Array Oper}{l:List Oper}{d t ty el:Nat}{ps:String}{A:Array Edge}{u a:TE}{x y:Operand}{kd s:IntKind}{f:Int}{v:Value}{z:List α}
  (h:SH w0 w L) (F:gg e x=V (.int kd f)/\gg e y=V (.int s f)/\T.get t=V u/\u.kind=.slice el/\T.get el=V a/\a.zero=V v/\bc v=qm.zc α/\a.size=qm.k α/\Nat.ble a.bytes 65536=An) (B:0<=f) (b:f<=OI) (o:List.replicate f.toNat (qm.zero:α)=z) (I:Nat.blt d n=An)
  (c:∀w' S p,SH w0 w' (Ch.own S z [.slice p z.length z.length]::L)->bu P n Q (.ops all l::k) ((d,.slice p z.length z.length)::e) w') :
  bu P n Q (.ops all (⟨V d,.makeSlice t x y,ty,ps,A,U⟩::l)::k) e w:=by
 obtain⟨J,K,m,H,g,M,r,i,D⟩:=F;subst o;rw[jI] at c;exact qcI C α h J K m H g M r i D B b I c
theorem Up.boxP{A0 B B':Nat->Prop}{w00:World}{α:Type}[qm α]{x:α}{c:List Value}{b:Nat}{t:TypeId}(g:Rg A0 w00 B w0)(i:Nat)(h:SH w0 w L)(d:Up B w0 w B' w1)(hi:L[i]?=V (Ch.box b c t))(k:qm.R w (xC B w0 w) x c) :
  qm.R w1 B' (V x) [.pointer (V ⟨b,0,U⟩)]:=
 qm.mono (qm.loc (Rg.boxR i h hi k) (fun a f=>d.below.block a (g.regOld h a f))) d.sub
variable{A0 B:Nat->Prop}{w00:World}{α:Type}[qm α]{x:α}{cs:List Value}{xs:List α}{p:Option Addr}{c:Nat}{fs:List TS}{S:Nat->Prop}
theorem Rg.atB(c:Rg A0 w00 B w0)(h:SH w0 w L):∀b,B b->Fw.old w b:=fun b a=>jx (c.old b a) h.below.size
theorem Rg.inBS(d:Rg A0 w00 B w0)(h:SH w0 w L)(f:dn w0 B xs p c):dn w B xs p c:=f.loc (fun b a=>h.below.block b (d.old b a))
theorem zC{ρ:Type}[la ρ][AQ ρ](r:ρ){all:Array Oper}{l:List Oper}{d ty:Nat}{ps:String}{v:Array Edge}{x:Operand}{a:Array Operand}{m:Array TypeId}{f:FuncId}{t s:Array Value}{p u:List Value}
  (C:Rg A0 w00 B w0) (h:SH w0 w L) (g:kL P f) (A:FM P f u w B r) (I:gg e x=V (.func (.func f) t s)) (c:pk e a.toList=V p) (o:t.toList++p++s.toList=u) (F:Nat.blt d n=An)
  (D:∀w1 i S,SH w0 w1 (Ch.grp B S []::L)->la.Rs w1 (fun b=>S b\/B b) r i->bu P n Q (.ops all l::k) ((d,vK i)::e) w1) :
  bu P n Q (.ops all (⟨V d,.call ⟨.value x,a,m⟩,ty,ps,v,U⟩::l)::k) e w:=
 qa9 r h C.old g A I c o F (fun w1 i _ y H=>D w1 i _ y (AQ.mono H (fun _ z=>z.symm)))
theorem SH.grpAdd(i:Nat)(h:SH w0 w L)(hi:L[i]?=V (Ch.grp B S fs))(d:qm.R w (fun b=>S b\/B b) x cs):SH w0 w (L.set i (Ch.grp B S (ti x cs::fs))):=
 h.say hi (fun c f a=>by
  rcases List.mem_cons.1 a with rfl|a
  .exact d
  .exact c f a) (fun _ h=>h) (h.elder (Ch.grp B S fs) (jB hi))
theorem SH.grpKeep(is:List Nat)(i:Nat)(h:SH w0 w L)(hi:L[i]?=V (Ch.grp B S fs)):SH w0 w (L.set i (Ch.grp B S (VZ fs is))):=
 h.say hi (fun b f a=>b f (HY a)) (fun _ h=>h) (h.elder (Ch.grp B S fs) (jB hi))
theorem Rg.grpR(i j:Nat)(h:SH w0 w L)(hi:L[i]?=V (Ch.grp B S fs))(a:fs[j]?=V (ti x cs)):qm.R w (xC B w0 w) x cs:=h.regGrp i j hi a
end

section
variable{P:Program}{T:uV}{n:Nat}{Q:Exit->Act->World->Prop}{k:List It}{e:fy}{w0 w w' w1:World}{L:List Ch}
theorem sg{ops:Array Oper}{st:List Nat}{C:World->Prop}{d:Nat}{b:Array Bool}(J:fy->World->Prop)(c:Nat)(a:Array Bool)
  (f:(∀e w,J e w->lA P n Q k ops st C c a e w)->lA P n Q k ops st C d b e w) (g:∀e w,J e w->lA P n Q k ops st C c a e w):lA P n Q k ops st C d b e w:=f g
theorem zK{ops:Array Oper}{st:List Nat}{C:World->Prop}{c:Nat}{b:Array Bool}(d:fy)(g:FI e d)(h:lA P n Q k ops st C c b d w):lA P n Q k ops st C c b e w:=
 fun a f=>h a (f.sub g)
end
end Go.Fw


namespace Go.Fw
open Go
section
variable{α β:Type}{f g:Nat->Option α}{a b r s:α}{c:Bool}
theorem Ev.iff(d:c=An->Ev f a)(h:c=Cd->Ev g b):Ev (fun n=>bif c then f n else g n) (bif c then a else b):=by
 cases c
 .exact h Z
 .exact d Z
theorem Ev.bindB{f:Nat->Option β}{g:Nat->β->Option α}{u v:β}(h:Ev f (bif c then u else v))(d:c=An->Ev (fun n=>g n u) a)(i:c=Cd->Ev (fun n=>g n v) b):Ev (fun n=>(f n).bind (g n)) (bif c then a else b):=by
 cases c
 .exact Ev.bind h (i Z)
 .exact Ev.bind h (d Z)
theorem Ev.cast(h:Ev f r)(e:r=s):Ev f s:=e ▸ h
theorem Ev.two(d:c=An->Ev f a)(g:c=Cd->Ev f b):Ev f (bif c then a else b):=by
 cases c
 .exact g Z
 .exact d Z
end
def bE(f:Nat->Bool)(n:Nat):Bool:=(List.range n).all f
theorem aG{f:Nat->Bool}{n:Nat}:bE f n=An↔∀j,j<n->f j=An:=by simp[bE,Jc]
theorem zb{f:Nat->Bool}{n:Nat}:bE f n=Cd↔∃j,j<n/\f j=Cd:=by
 rw[<-Bool.not_eq_true,aG];constructor
 .intro h;exact Classical.byContradiction fun c=>h (fun j b=>by
   cases a:f j with
   |true=>rfl
   |false=>exact absurd ⟨j,b,a⟩ c)
 .rintro⟨j,b,a⟩ h;rw[h j b] at a;cases a
theorem sC{f g:Nat->Bool}{n:Nat}(h:∀j,j<n->f j=g j):bE f n=bE g n:=by
 rw[jn,aG,aG];exact⟨fun b j a=>h j a ▸ b j a,fun c j a=>(h j a).symm ▸ c j a⟩
theorem yj{f g:Nat->Bool}{n:Nat}:bE (fun j=>f j&&g j) n=(bE f n&&bE g n):=by
 rw[jn,je,aG,aG,aG];simp only[je];exact⟨fun h=>⟨fun j a=>(h j a).1,fun j a=>(h j a).2⟩,fun h j a=>⟨h.1 j a,h.2 j a⟩⟩
theorem A7{ρ σ:Type}{Lf:Nat->Int->Option (eE ρ σ)}{len i0:Nat}{f:Nat->Bool}{bad:ρ}{fin:eE ρ σ}(g:i0<=len)(b:Ev (fun n=>Lf n (len:Int)) fin)
  (a:∀j,i0<=j->j<len->∀X,Ev (fun n=>Lf n ((j+1:Nat):Int)) X->Ev (fun n=>Lf n (j:Int)) (bif f j then X else .ret bad)) :
  Ev (fun n=>Lf n (i0:Int)) (bif bE (fun j=>f (i0+j)) (len-i0) then fin else .ret bad):=by
 obtain⟨m,rfl⟩:∃m,len=i0+m:=⟨len-i0,by omega⟩;rw[show i0+m-i0=m by omega];clear g
 induction m generalizing i0 with
 |zero=>exact b
 |succ m ih=>
  have c:=@ih (i0+1) (by rw[show i0+1+m=i0+(m+1) by omega];exact b) (fun j d l X i=>a j (by omega) (by omega) X i);refine(a i0 (jf _) (by omega) _ c).cast ?_;have:bE (fun j=>f (i0+j)) (m+1)=(f i0&&bE (fun j=>f (i0+1+j)) m):=by
   rw[jn,je,aG,aG];constructor
   .intro h;exact⟨by simpa using h 0 (by omega),fun j k=>by have:=h (j+1) (by omega);rwa [show i0+(j+1)=i0+1+j by omega] at this⟩
   .rintro⟨c,d⟩ j k;cases j with
    |zero=>simpa using c
    |succ j=>have:=d j (by omega);rwa [show i0+1+j=i0+(j+1) by omega] at this
  rw[this];cases f i0<;>rfl
theorem lD{ρ σ:Type}{Lf:Nat->Int->Option (eE ρ σ)}{len:Nat}{f:Nat->Bool}{bad:ρ}{fin:eE ρ σ}(b:Ev (fun n=>Lf n (len:Int)) fin)
  (a:∀j,j<len->∀X,Ev (fun n=>Lf n ((j+1:Nat):Int)) X->Ev (fun n=>Lf n (j:Int)) (bif f j then X else .ret bad)) :
  Ev (fun n=>Lf n 0) (bif bE f len then fin else .ret bad):=by
 have:=A7 (i0:=0) (jR _) b (fun j _ d X c=>a j d X c);simpa using this
theorem pp{α:Type}{xs:List α}{j:Nat}{x:α}(h:xs[j]?=V x):qF xs (j:Int)=V x:=by
 unfold qF;rw[if_pos (by omega),jr,h]
theorem cj{α:Type}{xs:List α}{j:Nat}(h:j<xs.length):qF xs (j:Int)=V xs[j]:=pp (jj h)
def gd(x lo hi:Int):Bool:=decide (lo<=x)&&decide (x<=hi)
theorem bV{x lo hi:Int}:gd x lo hi=An↔lo<=x/\x<=hi:=by simp[gd]
theorem G4{x lo hi:Int}:gd x lo hi=Cd↔¬ (lo<=x/\x<=hi):=by rw[<-bV,Bool.not_eq_true]
def bO(xs:List Int)(j:Nat):Int:=xs.getD j 0
theorem wx{xs:List Int}{j:Nat}(h:j<xs.length):bO xs j=xs[j]:=by simp[bO,h]
theorem aX{xs:List Int}{j:Nat}(h:j<xs.length):qF xs (j:Int)=V (bO xs j):=by rw[cj h,wx h]
theorem gX{α:Type}{c:Bool}{x y:α}:(bif !c then x else y)=bif c then y else x:=by cases c<;>rfl
theorem FP{c d:Bool}:(bif c then d else Cd)=(c&&d):=by cases c<;>rfl

theorem qbw{α:Type}{a:List α}{t:α->Nat}{Lf:Nat->Int->Int->Option (eE Int (Int×Int))}{el:Nat->α->Int->Option Int}
  (p:∀x,x∈a->∀b:Int,0<=b->b<=1048576->Sz (fun n=>el n x b) (fun r=>r=b-(t x:Int)))
  (h:∀(c:Int) n,Lf (n+1) c (a.length:Int)=V (.nxt (c,(a.length:Int))))
  (d:∀(c:Int) (n j:Nat) (x:α),a[j]?=V x->Lf (n+1) c (j:Int)=(el n x c).bind fun r=>bif decide (r<0) then V (.ret (-1)) else Lf n r ((j+1:Nat):Int)) :
  ∀b:Int,0<=b->b<=1048576->∃o,Ev (fun n=>Lf n b 0) o/\(o=.ret (-1)\/∃r:Int,0<=r/\r=b-((a.map t).sum:Nat)/\o=.nxt (r,(a.length:Int))):=by
 have l:∀k j,j+k=a.length->∀b:Int,0<=b->b<=1048576->∃o,Ev (fun n=>Lf n b (j:Int)) o/\(o=.ret (-1)\/∃r:Int,0<=r/\r=b-(((a.drop j).map t).sum:Nat)/\o=.nxt (r,(a.length:Int))):=by
  intro k
  induction k with
  |zero=>
   intro j D b g m;obtain rfl:j=a.length:=by omega
   exact⟨_,Ev.step (h b) .done,.inr ⟨b,g,by simp,Z⟩⟩
  |succ k ih=>
   intro j D b g m;have f:j<a.length:=by omega
   have v:a[j]?=V a[j]:=jj f;obtain⟨r,u,i⟩:=p a[j] (jo f) b g m;have C:a.drop j=a[j]::a.drop (j+1):=jF f;by_cases s:r<0
   .exact⟨.ret (-1),Ev.step (fun n=>d b n j a[j] v) (Ev.bind u (Ev.tt (by simpa using s) .done)),.inl Z⟩
   .rcases i with i|⟨hq0,i⟩
    .exact absurd i s
    .obtain⟨o,F,B⟩:=ih (j+1) (by omega) r hq0 (by omega);refine⟨o,Ev.step (fun n=>d b n j a[j] v) (Ev.bind u (Ev.ff (by simpa using s) F)),B.imp id ?_⟩;rintro⟨H,y,z,A⟩;refine⟨H,y,?_,A⟩;rw[C,Jf,List.sum_cons,z,i];omega
 intro b g m;have:=l a.length 0 (by omega) b g m;simpa using this
theorem Sz.list{α:Type}{a:List α}{m:α->Nat}{Lf:Nat->Int->Int->Option (eE Int (Int×Int))}{el:Nat->α->Int->Option Int}{b:Int}(s:0<=b)(t:b<=1048576)(u:a.length<=9223372036854775807)
  (i:∀x,x∈a->∀b:Int,0<=b->b<=1048576->Sz (fun n=>el n x b) (fun r=>r=b-(m x:Int)))
  (f:∀(c:Int) n,Lf (n+1) c (a.length:Int)=V (.nxt (c,(a.length:Int))))
  (d:∀(c:Int) (n j:Nat) (x:α),a[j]?=V x->Lf (n+1) c (j:Int)=(el n x c).bind fun r=>bif decide (r<0) then V (.ret (-1)) else Lf n r ((j+1:Nat):Int))
  {F:Nat->Option Int} (h:∀n,F n=bif decide (qj (b-(a.length:Int))<0) then V (-1) else(Lf n (qj (b-(a.length:Int))) 0).bind fun|.ret r=>V r|.nxt (i1,_)=>V i1) :
  Sz F (fun r=>r=b-((a.length+(a.map m).sum:Nat):Int)):=by
 have g:qj (b-(a.length:Int))=b-(a.length:Int):=qY (by omega) (by omega);by_cases k:b-(a.length:Int)<0
 .exact⟨-1,Ev.congr h (Ev.tt (by rw[g];simpa using k) .done),.inl (by decide)⟩
 .obtain⟨o,l,p⟩:=qbw i f d (b-(a.length:Int)) (by omega) (by omega);rcases p with rfl|⟨r,hr0,hr,rfl⟩
  .refine⟨-1,Ev.congr h (Ev.ff (by rw[g];simpa using k) ?_),.inl (by decide)⟩;rw[g];exact Ev.bind l .done
  .refine⟨r,Ev.congr h (Ev.ff (by rw[g];simpa using k) ?_),.inr ⟨hr0,by omega⟩⟩;rw[g];exact Ev.bind l .done
theorem Sz.str{s:ByteArray}{a:Int}(h:s.size<=9223372036854775807)(c:0<=a)(d:a<=1048576):Sz (fun _=>V (qj (a-(s.size:Int)))) (fun r=>r=a-(s.size:Int)):=by
 rw[qY (by omega) (by omega)];refine⟨_,.done,?_⟩;by_cases b:a-(s.size:Int)<0
 .exact .inl b
 .exact .inr ⟨by omega,Z⟩
def mO(x:Int):Prop:=-9223372036854775808<=x/\x<=9223372036854775807
def LW(s:ByteArray):Prop:=s.size<=1048576
def vz{α:Type}(ok:α->Prop)(xs:List α):Prop:=xs.length<=1048576/\∀x,x∈xs->ok x
def qdW(_:Bool):Prop:=True
theorem vz.len{α:Type}{ok:α->Prop}{xs:List α}(h:vz ok xs):xs.length<=1048576:=h.1
theorem vz.get{α:Type}{ok:α->Prop}{xs:List α}(h:vz ok xs){j:Nat}{x:α}(a:xs[j]?=V x):ok x:=h.2 x (jB a)
theorem vz.at{α:Type}{ok:α->Prop}{xs:List α}(h:vz ok xs){j:Nat}(a:j<xs.length):ok xs[j]:=h.2 _ (jo a)
end Go.Fw


namespace Go.Fw
open Go
open Go.RowKit (Below)
section
variable{P:Program}{T:uV}{n:Nat}{Q:Exit->Act->World->Prop}{k:List It}{e:fy}{w0 w w':World}{L:List Ch}{J:World->Prop}
end
end Go.Fw


namespace Go.Fw
open Go
theorem AV{α:Type}{c:Bool}{x y:α}:(bif c then V x else V y)=V (bif c then x else y):=by cases c<;>rfl
def KZ{α:Type}(p:α->Bool)(xs:List α):Int:=match xs.findIdx? p with|some j=>(j:Int)|none=>-1
theorem BP{α:Type}{p:α->Bool}{xs:List α}:decide (KZ p xs>=0)=xs.any p:=by
 unfold KZ;cases h:xs.findIdx? p with
 |some j=>
  have:=List.findIdx?_eq_some_iff_getElem.1 h;obtain⟨b,c,_⟩:=this;have a:xs.any p=An:=List.any_eq_true.2 ⟨_,jo b,c⟩;rw[a];simp
 |none=>
  have:=List.findIdx?_eq_none_iff.1 h;have a:xs.any p=Cd:=by rw[List.any_eq_false];intro x d;simp[this x d]
  rw[a];rfl
theorem F9{α σ:Type}{xs:List α}{p:α->Bool}{Lf:Nat->Int->Option (eE Int σ)}{pf:Nat->α->Option Bool}{fin:σ}(h:∀x,x∈xs->Ev (fun n=>pf n x) (p x))
  (c:∀n,Lf (n+1) (xs.length:Int)=V (.nxt fin))
  (b:∀(n j:Nat) (x:α),xs[j]?=V x->Lf (n+1) (j:Int)=(pf n x).bind fun r=>bif r then V (.ret (j:Int)) else Lf n ((j+1:Nat):Int)) :
  Ev (fun n=>Lf n 0) (match xs.findIdx? p with|some j=>.ret (j:Int)|none=>.nxt fin):=by
 have d:∀k j,j+k=xs.length->Ev (fun n=>Lf n (j:Int)) (match (xs.drop j).findIdx? p with|some i=>.ret ((j+i:Nat):Int)|none=>.nxt fin):=by
  intro k
  induction k with
  |zero=>
   intro j g;obtain rfl:j=xs.length:=by omega
   rw[List.drop_eq_nil_of_le (jf _)];exact Ev.step c .done
  |succ k ih=>
   intro j g;have a:j<xs.length:=by omega
   have f:xs.drop j=xs[j]::xs.drop (j+1):=jF a;refine Ev.step (fun n=>b n j _ (jj a)) (Ev.bind (h _ (jo a)) ?_);rw[f,List.findIdx?_cons];cases hc:p xs[j] with
   |true=>exact Ev.tt Z .done
   |false=>
    refine Ev.ff Z ((ih (j+1) (by omega)).cast ?_);cases (xs.drop (j+1)).findIdx? p with
    |none=>rfl
    |some i=>simp only[Bool.false_eq_true,if_false,Option.map_some];congr 2;omega
 have:=d xs.length 0 (by omega);simp only[List.drop_zero,Jd] at this;exact this
theorem nF{α σ:Type}{xs:List α}{p:α->Bool}{Lf:Nat->Int->Option (eE Int σ)}{pf:Nat->α->Option Bool}{fin:σ}(d:∀x,x∈xs->Ev (fun n=>pf n x) (p x))
  (b:∀n,Lf (n+1) (xs.length:Int)=V (.nxt fin))
  (a:∀(n j:Nat) (x:α),xs[j]?=V x->Lf (n+1) (j:Int)=(pf n x).bind fun r=>bif r then V (.ret (j:Int)) else Lf n ((j+1:Nat):Int))
  {F:Nat->Option Int} (c:∀n,F n=(Lf n 0).bind fun|.ret r=>V r|.nxt _=>V (-1)):Ev F (KZ p xs):=by
 refine Ev.congr c (Ev.bind (F9 d b a) ?_);unfold KZ;cases xs.findIdx? p<;>exact .done
theorem TY{α:Type}{p:α->Bool}{xs:List α}{d:α}:xs.any p = !bE (fun j=>!p (xs.getD j d)) xs.length:=by
 rw[jn,List.any_eq_true,jC,zb];constructor
 .rintro⟨x,c,b⟩;obtain⟨j,a,rfl⟩:=Je c;exact⟨j,a,by simp[a,b]⟩
 .rintro⟨j,a,b⟩;exact⟨xs[j],jo a,by simpa [a] using b⟩
theorem pn{α:Type}{p:α->Bool}{xs:List α}{d:α}:xs.all p=bE (fun j=>p (xs.getD j d)) xs.length:=by
 rw[jn,Jc,aG];constructor
 .intro h j a;simpa [a] using h xs[j] (jo a)
 .intro h x b;obtain⟨j,a,rfl⟩:=Je b;simpa [a] using h j a
theorem GG{α:Type}{p:α->Bool}{xs:List α}:(!xs.any fun x=>!p x)=xs.all p:=by
 rw[jn];simp[Jc]
theorem FO{α ρ σ:Type}{xs:List α}{p:α->Bool}{Lf:Nat->Int->Option (eE ρ σ)}{bad:ρ}{fin:σ}
  (b:∀n,Lf (n+1) (xs.length:Int)=V (.nxt fin))
  (a:∀j,∀h:j<xs.length,∀X,Ev (fun n=>Lf n ((j+1:Nat):Int)) X->Ev (fun n=>Lf (n+1) (j:Int)) (bif p xs[j] then X else .ret bad)) :
  Ev (fun n=>Lf n 0) (bif xs.all p then .nxt fin else .ret bad):=by
 have d:∀k j,j+k=xs.length->Ev (fun n=>Lf n (j:Int)) (bif (xs.drop j).all p then .nxt fin else .ret bad):=by
  intro k
  induction k with
  |zero=>
   intro j g;obtain rfl:j=xs.length:=by omega
   rw[List.drop_eq_nil_of_le (jf _)];exact Ev.step b .done
  |succ k ih=>
   intro j g;have c:j<xs.length:=by omega
   have f:xs.drop j=xs[j]::xs.drop (j+1):=jF c;refine(Ev.succ (a j c _ (ih (j+1) (by omega)))).cast ?_;rw[f,List.all_cons];cases p xs[j]<;>rfl
 have:=d xs.length 0 (by omega);simpa using this
theorem HO{α ρ τ:Type}{xs:List α}{Lf:Nat->τ->Int->Option ρ}{step:τ->α->τ}{fin:τ->ρ}(i0:Nat)(g:τ)(Inv:Nat->τ->Prop)(p:i0<=xs.length)(i:Inv i0 g)
  (d:∀j t,∀h:j<xs.length,Inv j t->Inv (j+1) (step t xs[j]))
  (c:∀n t,Lf (n+1) t (xs.length:Int)=V (fin t))
  (b:∀j t,∀h:j<xs.length,Inv j t->∀X,Ev (fun n=>Lf n (step t xs[j]) ((j+1:Nat):Int)) X->Ev (fun n=>Lf (n+1) t (j:Int)) X) :
  Ev (fun n=>Lf n g (i0:Int)) (fin ((xs.drop i0).foldl step g))/\Inv xs.length ((xs.drop i0).foldl step g):=by
 have f:∀k j t,j+k=xs.length->Inv j t->Ev (fun n=>Lf n t (j:Int)) (fin ((xs.drop j).foldl step t))/\Inv xs.length ((xs.drop j).foldl step t):=by
  intro k
  induction k with
  |zero=>
   intro j t r hi;obtain rfl:j=xs.length:=by omega
   rw[List.drop_eq_nil_of_le (jf _)];exact⟨Ev.step (fun n=>c n t) .done,hi⟩
  |succ k ih=>
   intro j t r hi;have a:j<xs.length:=by omega
   have o:xs.drop j=xs[j]::xs.drop (j+1):=jF a;obtain⟨l,m⟩:=ih (j+1) (step t xs[j]) (by omega) (d j t a hi);rw[o,List.foldl_cons];exact⟨Ev.succ (b j t a hi _ l),m⟩
 exact f (xs.length-i0) i0 g (by omega) i
theorem PR{α ρ τ:Type}{xs:List α}{Lf:Nat->τ->Int->Option ρ}{step:τ->α->τ}{fin:τ->ρ}(d:τ)(Inv:Nat->τ->Prop)(f:Inv 0 d)
  (c:∀j t,∀h:j<xs.length,Inv j t->Inv (j+1) (step t xs[j]))
  (b:∀n t,Lf (n+1) t (xs.length:Int)=V (fin t))
  (a:∀j t,∀h:j<xs.length,Inv j t->∀X,Ev (fun n=>Lf n (step t xs[j]) ((j+1:Nat):Int)) X->Ev (fun n=>Lf (n+1) t (j:Int)) X) :
  Ev (fun n=>Lf n d 0) (fin (xs.foldl step d))/\Inv xs.length (xs.foldl step d):=by
 have:=HO (i0:=0) d Inv (jR _) f c b a;simpa using this
theorem dU{α:Type}{xs ys:List α}(h:xs.length+ys.length<=2147483648):dj xs ys=V (xs++ys):=by
 unfold dj OI;rw[if_pos h]

section
variable{α β:Type}{f g:Nat->Option Bool}{a b:Bool}{k:Nat->Option α}{X B:α}
theorem Ev.and(c:Ev f a)(d:a=An->Ev g b):Ev (fun n=>(f n).bind fun r=>bif r then g n else V Cd) (a&&b):=by
 refine Ev.bind c ?_;cases a
 .exact .done
 .exact Ev.tt Z (d Z)
theorem Ev.andP(c:a=An->Ev g b):Ev (fun n=>bif a then g n else V Cd) (a&&b):=by
 cases a
 .exact .done
 .exact Ev.tt Z (c Z)
theorem Ev.last(b:Ev f a):Ev (fun n=>(f n).bind fun r=>V r) a:=Ev.bind b .done
theorem Ev.neg(b:Ev f a):Ev (fun n=>(f n).bind fun r=>V (!r)) (!a):=Ev.bind b .done
theorem Ev.or(c:Ev f a)(d:a=An->Ev g (!b)):Ev (fun n=>(f n).bind fun r=>bif (!r) then V An else g n) (!(a&&b)):=by
 refine Ev.bind c ?_;cases a
 .exact .done
 .exact Ev.ff Z (d Z)
theorem Ev.guard{c:α}(d:Ev f (!a))(g:a=An->Ev k (bif b then X else c)):Ev (fun n=>(f n).bind fun r=>bif r then V c else k n) (bif a&&b then X else c):=by
 refine Ev.bind d ?_;cases a
 .exact .done
 .exact Ev.ff Z (g Z)
theorem Ev.guardB(c:Ev f (!a))(d:a=An->Ev g b):Ev (fun n=>(f n).bind fun r=>bif r then V Cd else g n) (a&&b):=by
 refine Ev.bind c ?_;cases a
 .exact .done
 .exact Ev.ff Z (d Z)
theorem Ev.chk(c:Ev f a)(d:a=An->Ev k (bif b then X else B)):Ev (fun n=>(f n).bind fun r=>bif (!r) then V B else k n) (bif a&&b then X else B):=by
 refine Ev.bind c ?_;cases a
 .exact .done
 .exact Ev.ff Z (d Z)
theorem Ev.chkT(c:Ev f (!a))(d:a=An->Ev k (bif b then X else B)):Ev (fun n=>(f n).bind fun r=>bif r then V B else k n) (bif a&&b then X else B):=Ev.guard c d
theorem Ev.chkT1(b:Ev f (!a))(c:a=An->Ev k X):Ev (fun n=>(f n).bind fun r=>bif r then V B else k n) (bif a then X else B):=by
 refine Ev.bind b ?_;cases a
 .exact .done
 .exact Ev.ff Z (c Z)
theorem Ev.chk1(b:Ev f a)(c:a=An->Ev k X):Ev (fun n=>(f n).bind fun r=>bif (!r) then V B else k n) (bif a then X else B):=by
 refine Ev.bind b ?_;cases a
 .exact .done
 .exact Ev.ff Z (c Z)
theorem Ev.chkP1(b:a=Cd->Ev k X):Ev (fun n=>bif a then V B else k n) (bif !a then X else B):=by
 cases a
 .exact Ev.ff Z (b Z)
 .exact .done
theorem Ev.ok(c:Ev f a)(d:a=An->Ev k (bif b then X else B)):Ev (fun n=>(f n).bind fun r=>bif r then k n else V B) (bif a&&b then X else B):=by
 refine Ev.bind c ?_;cases a
 .exact .done
 .exact Ev.tt Z (d Z)
theorem Ev.okP(c:a=An->Ev k (bif b then X else B)):Ev (fun n=>bif a then k n else V B) (bif a&&b then X else B):=by
 cases a
 .exact .done
 .exact Ev.tt Z (c Z)
theorem Ev.okP1(b:a=An->Ev k X):Ev (fun n=>bif a then k n else V B) (bif a then X else B):=by
 cases a
 .exact .done
 .exact Ev.tt Z (b Z)
theorem Ev.orB(c:Ev f a)(d:a=An->Ev g (!b)):Ev (fun n=>(f n).bind fun r=>bif r then g n else V An) (!(a&&b)):=by
 refine Ev.bind c ?_;cases a
 .exact .done
 .exact Ev.tt Z (d Z)
theorem Ev.orBP(c:a=An->Ev g (!b)):Ev (fun n=>bif a then g n else V An) (!(a&&b)):=by
 cases a
 .exact .done
 .exact Ev.tt Z (c Z)
end
def gt{α:Type}[Inhabited α](xs:List α)(j:Nat):α:=xs.getD j default
theorem fh{α:Type}[Inhabited α]{xs:List α}{j:Nat}(h:j<xs.length):gt xs j=xs[j]:=by simp[gt,h]
theorem qz{α:Type}[Inhabited α]{xs:List α}{j:Nat}(h:j<xs.length):qF xs (j:Int)=V (gt xs j):=by rw[cj h,fh h]
theorem BD{α:Type}[Inhabited α]{ok:α->Prop}{xs:List α}(h:vz ok xs){j:Nat}(a:j<xs.length):ok (gt xs j):=by rw[fh a];exact h.at a
theorem B6{α:Type}[Inhabited α]{xs:List α}{j i:Nat}(h:i<j):gt (xs.take j) i=gt xs i:=by simp[gt,jz,h]
theorem tn{α:Type}[Inhabited α]{p:α->Bool}{xs:List α}:xs.all p=bE (fun j=>p (gt xs j)) xs.length:=pn
theorem XP{α:Type}[Inhabited α]{p:α->Bool}{xs:List α}:xs.any p = !bE (fun j=>!p (gt xs j)) xs.length:=TY
theorem O9{α:Type}[Inhabited α]{p:α->Bool}{xs:List α}{j:Nat}(h:j<=xs.length):(xs.take j).any p = !bE (fun i=>!p (gt xs i)) j:=by
 rw[XP,jy,Nat.min_eq_left h]
 congr 1
 exact sC (fun i hi=>by rw[B6 hi])
theorem ox{α β:Type}[Inhabited α]{xs:List α}{g:α->β}{j:Nat}(h:j<xs.length):(xs.take j).map g++[g (gt xs j)]=(xs.take (j+1)).map g:=by
 rw[fh h,jw h,jT,Jf,List.map_nil]
theorem qaN{j m:Nat}(_:j<m):((j:Int)==qj ((m:Int)-1))=decide (j+1=m)\/9223372036854775807<m:=by
 by_cases a:m<=9223372036854775807
 .refine .inl ?_;rw[qY (by omega) (by omega),jn];simp;omega
 .exact .inr (by omega)
theorem QF{ρ σ τ:Type}{Lf:Nat->τ->Int->Option (eE ρ σ)}(S:Nat->τ)(p:Nat->Bool){len:Nat}{bad:ρ}{fin:σ}
  (b:∀n,Lf (n+1) (S len) (len:Int)=V (.nxt fin))
  (a:∀j,j<len->(∀i,i<j->p i=An)->∀X,(p j=An->Ev (fun n=>Lf n (S (j+1)) ((j+1:Nat):Int)) X)->Ev (fun n=>Lf (n+1) (S j) (j:Int)) (bif p j then X else .ret bad)) :
  Ev (fun n=>Lf n (S 0) 0) (bif bE p len then .nxt fin else .ret bad):=by
 have c:∀k j,j+k=len->(∀i,i<j->p i=An)->Ev (fun n=>Lf n (S j) (j:Int)) (bif bE p len then .nxt fin else .ret bad):=by
  intro k
  induction k with
  |zero=>
   intro j g d;obtain rfl:j=len:=by omega
   rw[show bE p j=An from aG.2 d];exact Ev.step b .done
  |succ k ih=>
   intro j g d;refine(Ev.succ (a j (by omega) d _ (fun f=>ih (j+1) (by omega) (fun i hi=>by
    rcases Nat.lt_succ_iff_lt_or_eq.1 hi with h|rfl
    .exact d i h
    .exact f)))).cast ?_
   cases f:p j with
   |true=>rfl
   |false=>
    rw[show bE p len=Cd from zb.2 ⟨j,by omega,f⟩]
    rfl
 have:=c len 0 (by omega) (fun i hi=>absurd hi (Ji _));exact this
theorem fD{ρ τ:Type}{Lf:Nat->τ->Int->Option ρ}(S:Nat->τ){len:Nat}{fin:ρ}
  (b:∀n,Lf (n+1) (S len) (len:Int)=V fin)
  (a:∀j,j<len->∀X,Ev (fun n=>Lf n (S (j+1)) ((j+1:Nat):Int)) X->Ev (fun n=>Lf (n+1) (S j) (j:Int)) X) :
  Ev (fun n=>Lf n (S 0) 0) fin:=
 qcf (P:=fun j=>Ev (fun n=>Lf n (S j) (j:Int)) fin) len (Ev.step b .done) (fun j c d=>Ev.succ (a j c _ d))
def gf(q:Nat->Bool):Nat->Nat
 |0=>0
 |n+1=>gf q n+(bif q n then 1 else 0)
theorem nX{q:Nat->Bool}{n:Nat}:gf q n<=n:=by
 induction n with
 |zero=>exact jf _
 |succ n ih=>unfold gf;cases q n<;>simp only[Ci,Cj]<;>omega
theorem MN{q r:Nat->Bool}{n:Nat}(h:∀j,j<n->q j=r j):gf q n=gf r n:=by
 induction n with
 |zero=>rfl
 |succ n ih=>unfold gf;rw[ih (fun j a=>h j (by omega)),h n (by omega)]
theorem CX{q:Nat->Bool}{n:Nat}:gf q n=0↔∀j,j<n->q j=Cd:=by
 induction n with
 |zero=>simp[gf]
 |succ n ih=>
  unfold gf;constructor
  .intro h j a;have b:gf q n=0:=by omega
   rcases Nat.lt_succ_iff_lt_or_eq.1 a with h2|rfl
   .exact ih.1 b j h2
   .cases hq:q j with
    |false=>rfl
    |true=>rw[hq] at h;simp at h
  .intro h;rw[ih.2 (fun j a=>h j (by omega)),h n (by omega)]
   rfl
theorem UM{q:Nat->Bool}{n:Nat}:decide (0<gf q n) = !bE (fun j=>!q j) n:=by
 rw[jn,decide_eq_true_iff,jC,zb,Nat.pos_iff_ne_zero,Ne,CX];simp
def gU(c:Nat->Nat)(m:Nat):List Int:=(List.range m).map fun k=>(c k:Int)
theorem CR{c:Nat->Nat}{m:Nat}:(gU c m).length=m:=by simp[gU]
theorem WZ{c:Nat->Nat}{m k:Nat}(h:k<m):bO (gU c m) k=(c k:Int):=by simp[bO,gU,h]
theorem wW{c:Nat->Nat}{m k:Nat}(h:k<m):qF (gU c m) (k:Int)=V (c k:Int):=by rw[aX (by rw[CR];exact h),WZ h]
theorem wV{c d:Nat->Nat}{m:Nat}(h:∀k,k<m->c k=d k):gU c m=gU d m:=by
 unfold gU;refine List.map_congr_left (fun k a=>?_);rw[h k (List.mem_range.1 a)]
theorem DL{m:Nat}(h:m<=2147483648):xY (m:Int) (0:Int)=V (gU (fun _=>0) m):=by
 unfold xY OI;rw[if_pos ⟨by omega,by omega⟩]
 congr 1
 refine Jk (by simp[gU]) (fun k a b=>?_);simp[gU]
theorem RA{c:Nat->Nat}{m k:Nat}(b:c k<9223372036854775807):ak (gU c m) (k:Int) (qj ((c k:Int)+1))=gU (fun i=>c i+(bif decide (k=i) then 1 else 0)) m:=by
 rw[sf b];unfold ak;refine Jk (by simp[gU]) (fun i d f=>?_);rw[List.getElem_set];show(if k=i then _ else _)=_;by_cases a:k=i
 .subst a;simp[gU]
 .simp[gU,a]
theorem fa{x:Int}(h:0<=x):x=(x.toNat:Int):=by omega
theorem IY{α:Type}{xs:List α}{j:Nat}(h:j<=xs.length):wT xs 0 (j:Int)=V (xs.take j):=by
 unfold wT;rw[if_pos ⟨by omega,by omega,by omega⟩];simp
theorem mM{m:Nat}(h:m<=9223372036854775807):qj ((m:Int)-1)=(m:Int)-1:=qY (by omega) (by omega)
end Go.Fw


namespace Go.Fw
open Go
open Go.ChangeShapes Go.WideShapes Go.ChangeAt Go.RowKit
theorem SJ{P:Program}{w:World}{r:Reach}{b:Nat}{t e:TypeId}{cs:Array Value}(a:P.underlying t=V (.slice e)):¬ Value.okWide P w r b t (.agg cs):=by
 intro h;unfold Value.okWide at h;rw[a] at h;simp[Cell.okWide,Cell.ok,a] at h
theorem H8{P:Program}{H:Type}{enc:TypeId×Value->H}{W:World}{t:TypeId}{v:Value}{d:DataW H}{p:List MemPlace}{α:Type}[A:qm α]{ρ:α->Prop}(k:EC P t A ρ)(a:A.agg=Cd)(i:∀cs,v≠.agg cs)
  (h:DataW.Trod enc P W 0 (fun _=>An) An t v d p):∃x:α,∃cs,v=qm.v α cs/\A.R W (old W) x cs/\ρ x:=by
 obtain⟨b,g⟩:=h;obtain⟨x,c,l⟩:=k.2 g;have f:v.cells=#[v]:=by
  unfold Value.cells;cases v<;>first|rfl|exact absurd Z (i _)
 refine⟨x,_,?_,c,l⟩;unfold qm.v qdN;rw[a,f]
 rfl
theorem VT{P:Program}{H:Type}{enc:TypeId×Value->H}{W:World}{t e:TypeId}{v:Value}{d:DataW H}{p:List MemPlace}{α:Type}[A:qm α]{ρ:α->Prop}(g:EC P t A ρ)(a:A.agg=Cd)(i:P.underlying t=V (.slice e)){r:Reach}{b:Nat}(c:Value.okWide P W r b t v)
  (h:DataW.Trod enc P W 0 (fun _=>An) An t v d p):∃x:α,∃cs,v=qm.v α cs/\A.R W (old W) x cs/\ρ x:=
 H8 g a (fun _ f=>SJ i (f ▸ c)) h
section
variable{P:Program}{H:Type}{enc:TypeId×Value->H}
theorem PJ(o:laidOutB P=An){W W':World}(m:Below W.heap.size W W'):∀{f:List TypeId} {l:List Value} {g:List (DataW H)} {ps:List MemPlace},(∀t∈f,P.readableRec t=An/\t<P.types.size) ->
  DataW.TrodAll enc P W 0 (fun _=>An) An f l g ps->(∀x∈ps,x.block<W.heap.size) ->
  DataW.TrodAll enc P W' 0 (fun b=>decide (b<W.heap.size)) An f l g ps/\DataW.TrodAll enc P W' 0 (fun _=>An) An f l g ps:=by
 intro f
 induction f with
 |nil=>
  intro l g ps _ h _;obtain⟨rfl,rfl,rfl⟩:=trodAll_nil h;exact⟨Z,Z⟩
 |cons t f ih=>
  intro l g ps r h i;obtain⟨v,C,d,y,p,q,rfl,rfl,rfl,n,c⟩:=trodAll_cons h;obtain⟨z,A⟩:=ih (fun u B=>r u (jp _ B)) c (fun x k=>i x (List.mem_append.2 (.inr k)));obtain⟨r1,s⟩:=r t (ju ..);have a:∀x∈p,x.block<W.heap.size:=fun x k=>i x (List.mem_append.2 (.inl k));exact⟨⟨p,q,Below.trod o r1 s n m a,z,Z⟩,⟨p,q,WideElems.Trod_stays o r1 s n (fun x k=>m.same (a x k)) (fun _ _=>rfl),A,Z⟩⟩
end
theorem H0{P:Program}{H:Type}{enc:TypeId×Value->H}{i:Func}{s:ChangeSpec}{apart nu d h:Bool}{W W':World}{L:TypeId}{f:Array Value}{g:List (DataW H)}{p:List MemPlace}
  (Q:laidOutB P=An) (z:(i.params.toList.all fun t=>P.readableRec t&&decide (t<P.types.size))=An) (c:i.resultTypes=#[L]) (l:P.underlying L=V .bool) (a:s.vars=[])
  (R:(s.fn H (g++[])).results=[.lit (.bool An)]) (O:(s.fn H (g++[])).args=g) (T:(s.fn H (g++[])).vars=[])
  (C:DataW.Whole enc P i.params.toList s.vars apart W f.toList g [] p) (y:Below W.heap.size W W') :
  s.post enc P i apart nu d h W f (.bool An) W':=by
 have k:=C;obtain⟨m,X,M,B,rfl,J,I⟩:=C;rw[a] at B;obtain rfl:X=[]:=B;simp only[jY] at k J I;have n:∀x∈m,x.block<W.heap.size:=fun x A=>k.lt x A;obtain⟨o,r⟩:=PJ Q y (fun t S=>by
  have:=List.all_eq_true.1 z t S;simpa using this) M n
 have N:∀(b:Nat) (K:Nat->Bool) (D:Bool),DataW.TrodAll enc P W' b K D i.resultTypes.toList ((Value.bool An).resultList i.resultTypes.size) (s.fn H (g++[])).results []:=by
  intro b K D;rw[c,R];exact trodAll_mk1 (shut_bool l An)
 have u:(Value.bool An).resultList i.resultTypes.size=[.bool An]:=by rw[c];rfl
 refine⟨g,[],m,[],m,[],k,N _ _ _,?_,?_,y.frame _,fun _=>?_⟩
 .rw[O];exact o
 .rw[a,T];exact Z
 .refine⟨ok_one c Z (okWide_bool_mk l An),.lit (.bool An)::g,[],m,⟨m,[],?_,?_,by simp,?_,?_⟩,fun x A _=>A⟩
  .rw[u,c];exact⟨[],m,shut_bool l An,r,by simp⟩
  .rw[a];exact Z
  .intro b cG F;rw[y.frozen (n _ F)];exact J b cG F
  .intro v;exact I v
end Go.Fw


namespace Go.Fw
open Go
theorem QB{α:Type}{p:α->Bool}{xs:List α}{j:Nat}(b:j<xs.length)(c:p xs[j]=An)(a:∀i,∀h:i<j,p (xs[i]'(by omega))=Cd):KZ p xs=(j:Int):=by
 unfold KZ;have:xs.findIdx? p=V j:=List.findIdx?_eq_some_iff_getElem.2 ⟨b,c,fun i hi=>by have:=a i hi;simp[this]⟩;rw[this]
theorem T9{α:Type}[Inhabited α]{p:α->Bool}{xs:List α}{j:Nat}(a:j<xs.length)(b:p (gt xs j)=An)(c:∀i,i<xs.length->p (gt xs i)=An->i=j):KZ p xs=(j:Int):=by
 refine QB a (by rwa [fh a] at b) (fun i hi=>?_);cases hc:p (xs[i]'(by omega)) with
 |false=>rfl
 |true=>exact absurd (c i (by omega) (by rw[fh (by omega)];exact hc)) (by omega)
theorem yn{α:Type}[Inhabited α]{xs ys:List α}{j:Nat}:gt (xs++ys) j=if j<xs.length then gt xs j else gt ys (j-xs.length):=by
 unfold gt;rw[jz,List.getElem?_append];by_cases h:j<xs.length
 .simp only[h,if_true];rfl
 .simp only[h,if_false];rfl
theorem MU{α:Type}[Inhabited α]{f:Nat->α}{n j:Nat}(h:j<n):gt ((List.range n).map f) j=f j:=by
 unfold gt;simp[jz,h]

def iH(f:Nat->Int)(m:Nat):List Int:=(List.range m).map f
theorem yW{f:Nat->Int}{m:Nat}:(iH f m).length=m:=by simp[iH]
theorem CS{f:Nat->Int}{m k:Nat}(h:k<m):qF (iH f m) (k:Int)=V (f k):=by
 rw[cj (by rw[yW];exact h)];simp[iH]
theorem mX{f g:Nat->Int}{m:Nat}(h:∀k,k<m->f k=g k):iH f m=iH g m:=by
 unfold iH;exact List.map_congr_left (fun k a=>h k (List.mem_range.1 a))
theorem RB{m:Nat}(h:m<=2147483648):xY (m:Int) (0:Int)=V (iH (fun _=>0) m):=by
 unfold xY OI;rw[if_pos ⟨by omega,by omega⟩]
 congr 1
 refine Jk (by simp[iH]) (fun k a b=>?_);simp[iH]
theorem OC{f:Nat->Int}{m k:Nat}{v:Int}:ak (iH f m) (k:Int) v=iH (fun i=>if i=k then v else f i) m:=by
 unfold ak;refine Jk (by simp[iH]) (fun i b c=>?_);rw[List.getElem_set];show(if k=i then _ else _)=_;by_cases a:k=i
 .subst a;simp[iH]
 .have:i≠k:=fun h=>a h.symm;simp[iH,a,this]
section
variable{sc:Nat->List Int}{m:Nat}
inductive xS (sc:Nat->List Int)(m:Nat):List Nat->Prop
 |nil:xS sc m []
 |snoc {l:List Nat} {k:Nat}:xS sc m l->k<m->k∉l->(∀u,u<m->(k:Int)∈sc u->u∈l)->xS sc m (l++[k])
def qc5(sc:Nat->List Int)(m:Nat)(l:List Nat):Prop:=∀k,k<m->k∉l->∃u,u<m/\(k:Int)∈sc u/\u∉l
theorem xS.lt{l:List Nat}(h:xS sc m l):∀k,k∈l->k<m:=by
 induction h with
 |nil=>intro k b;cases b
 |snoc _ b _ _ ih=>
  intro j a;rcases List.mem_append.1 a with a|a
  .exact ih j a
  .rw[List.mem_singleton.1 a];exact b
theorem xS.nodup{l:List Nat}(h:xS sc m l):l.Nodup:=by
 induction h with
 |nil=>exact List.nodup_nil
 |snoc _ _ hn _ ih=>
  rw[List.nodup_append];refine⟨ih,by simp,fun a c b d=>?_⟩;rw[List.mem_singleton.1 d];rintro rfl;exact hn c
theorem xS.sub{l l':List Nat}(h:xS sc m l)(g:qc5 sc m l'):∀k,k∈l->k∈l':=by
 induction h with
 |nil=>intro k b;cases b
 | @snoc l k _ b _ hp ih=>
  intro j a;rcases List.mem_append.1 a with a|a
  .exact ih j a
  .rw[List.mem_singleton.1 a];by_cases c:k∈l'
   .exact c
   .obtain⟨u,i,d,f⟩:=g k b c;exact absurd (ih u (hp u i d)) f
theorem GF{l l':List Nat}(g:l.Nodup)(h:∀k,k∈l->k∈l'):l.length<=l'.length:=by
 induction l generalizing l' with
 |nil=>exact jR _
 |cons a l ih=>
  obtain⟨d,f⟩:=List.nodup_cons.1 g;have c:a∈l':=h a (ju ..);have:=ih (l':=l'.erase a) f (fun k b=>(List.mem_erase_of_ne (fun e=>d (by rw[<-e];exact b))).2 (h k (jp _ b)));rw[List.length_erase_of_mem c] at this;have:0<l'.length:=List.length_pos_of_mem c;simp only[Jj];omega
theorem xS.len{l:List Nat}(h:xS sc m l):l.length<=m:=by
 have:=GF (l':=List.range m) h.nodup (fun k a=>List.mem_range.2 (h.lt k a));simpa using this
theorem xS.full{l:List Nat}(h:xS sc m l)(f:l.length=m):∀k,k<m->k∈l:=by
 intro k d;by_cases b:k∈l
 .exact b
 .have c:=GF (l:=k::l) (l':=List.range m) (List.nodup_cons.2 ⟨b,h.nodup⟩) (fun j a=>by
   rcases List.mem_cons.1 a with rfl|a
   .exact List.mem_range.2 d
   .exact List.mem_range.2 (h.lt j a))
  simp at c;omega
theorem xS.pre{l l':List Nat}(h:xS sc m (l++l')):xS sc m l:=by
 generalize he:l++l'=x at h
 induction h generalizing l' with
 |nil=>simp at he;rw[he.1];exact .nil
 | @snoc y k ht hk hn hp ih=>
  rcases List.eq_nil_or_concat l' with rfl|⟨l2,b,rfl⟩
  .rw[jY] at he;subst he;exact .snoc ht hk hn hp
  .rw[List.concat_eq_append,<-jv] at he;have:=List.append_inj' he Z;exact ih this.1
theorem xS.at{l l':List Nat}{k:Nat}(h:xS sc m (l++k::l')):k<m/\k∉l/\∀u,u<m->(k:Int)∈sc u->u∈l:=by
 have:xS sc m ((l++[k])++l'):=by simpa using h
 have d:=this.pre;generalize he:l++[k]=x at d;cases d with
 |nil=>simp at he
 |snoc _ a b c=>
  have:=List.append_inj' he Z;obtain⟨rfl,e⟩:=this;obtain rfl:k=_:=by simpa using e
  exact⟨a,b,c⟩
theorem xS.no_back{l:List Nat}{i k:Nat}(h:xS sc m l)(hi:i<m)(f:i∉l)(d:k∈l):(sc i).count (k:Int)=0:=by
 rw[List.count_eq_zero];intro b;obtain⟨a,c,rfl⟩:=List.append_of_mem d;exact f (jK _ (h.at.2.2 i hi b))
end
def dW(l:List Nat):List Int:=l.map fun(k:Nat)=>(k:Int)
theorem dc{l:List Nat}:(dW l).length=l.length:=by simp[dW]
theorem wm{l:List Nat}{k:Nat}:dW (l++[k])=dW l++[(k:Int)]:=by simp[dW]
theorem xu{l:List Nat}{j:Nat}(h:j<l.length):qF (dW l) (j:Int)=V (l[j]:Int):=by
 rw[cj (by rw[dc];exact h)];simp[dW]
def O4(xs:List Int)(m:Nat):Prop:=∀y,y∈xs->∃k:Nat,k<m/\y=(k:Int)
theorem O4.at{xs:List Int}{m j:Nat}(h:O4 xs m)(a:j<xs.length):∃k:Nat,k<m/\qF xs (j:Int)=V (k:Int)/\xs[j]?=V (k:Int):=by
 obtain⟨k,b,e⟩:=h _ (jo a);exact⟨k,b,by rw[cj a,e],by rw[jj a,e]⟩

def lg(q:Nat->Bool)(m:Nat):List Nat:=(List.range m).filter q
theorem wr{q:Nat->Bool}{j:Nat}:lg q (j+1)=lg q j++(bif q j then[j] else[]):=by
 unfold lg;rw[List.range_succ,List.filter_append];cases h:q j<;>simp[h]
theorem vl{q:Nat->Bool}{j:Nat}:(lg q j).length<=j:=by
 unfold lg;exact jX (List.length_filter_le _ _) (by rw[List.length_range];exact jf _)
theorem nG{q:Nat->Bool}{j k:Nat}:k∈lg q j↔k<j/\q k=An:=by
 unfold lg;rw[List.mem_filter,List.mem_range]
theorem II{ρ:Type}{Lf:Nat->List Int->Int->Option ρ}{q:Nat->Bool}{len:Nat}{fin:ρ}(f:len<=1048576)(b:Ev (fun n=>Lf n (dW (lg q len)) (len:Int)) fin)
  (a:∀j,j<len->∀t:List Int,dj t [(j:Int)]=V (t++[(j:Int)])->∀X,(q j=An->Ev (fun n=>Lf n (t++[(j:Int)]) ((j+1:Nat):Int)) X)->(q j=Cd->Ev (fun n=>Lf n t ((j+1:Nat):Int)) X)->Ev (fun n=>Lf (n+1) t (j:Int)) X) :
  Ev (fun n=>Lf n [] 0) fin:=
 qcf (P:=fun j=>Ev (fun n=>Lf n (dW (lg q j)) (j:Int)) fin) len b (fun j d c=>Ev.succ (a j d _
  (dU (by have:=vl (q:=q) (j:=j);rw[dc,jh];omega)) _
  (fun h=>by rw[wr,h] at c;simp only[Ci,wm] at c;exact c) (fun h=>by rw[wr,h] at c;simpa using c)))
section
variable{sc:Nat->List Int}{m:Nat}
end
end Go.Fw


namespace Go.Fw
open Go
open Go.RowKit (Below)
section
variable{w0 w:World}{L:List Ch}
theorem SH.rowS{α:Type}[qm α]{S:Nat->Prop}{xs:List α}{p:Option Addr}{c:Nat}(i:Nat)(h:SH w0 w L)(hi:L[i]?=V (Ch.rowD w0 S xs p c)):dn w (Fw.old w) xs p c:=by
 obtain⟨d,f,g⟩:=(h.mem hi).1;refine⟨d,f,?_⟩;rcases g with⟨a,b,_⟩|⟨b,cur,T,rfl,hb,hg,hc,hx⟩
 .exact .inl ⟨.inl a,b⟩
 .refine .inr ⟨b,0,cur,T,(0,0),Z,((h.mem hi).2 b hb).2,hg,by omega,fun i x hi=>?_⟩;obtain⟨cs,k,l⟩:=hx i x hi;exact⟨cs,h.old k,by simpa using l⟩
end

section
variable{P:Program}{T:uV}{n:Nat}{Q:Exit->Act->World->Prop}{k:List It}{e:fy}{w0 w:World}{L:List Ch}
variable{α:Type}[qm α]{S S1:Nat->Prop}{xs ys:List α}{p p':Option Addr}{c c':Nat}
def Rd(w0:World)(xs:List α)(a:List (PK α)):Prop:=a.length=xs.length/\∀(i:Nat) (x:α) (r:PK α),xs[i]?=V x->a[i]?=V r->qm.R w0 (Fw.old w0) x r.cs
theorem Rd.app{g f:List (PK α)}(a:Rd w0 xs g)(d:Rd w0 ys f):Rd w0 (xs++ys) (g++f):=by
 refine⟨by simp[a.1,d.1],fun i x r c b=>?_⟩;by_cases hi:i<xs.length
 .rw[jA hi] at c;rw[jA (by rw[a.1];exact hi)] at b;exact a.2 i x r c b
 .rw[jD (by omega)] at c;rw[jD (by rw[a.1];omega),a.1] at b;exact d.2 _ x r c b
theorem SH.tail{d:Ch}(h:SH w0 w (d::L)):SH w0 w L:=
 ⟨h.below,fun c a=>h.holds c (jp _ a),fun c a=>h.elder c (jp _ a),(List.pairwise_cons.1 h.apart).2⟩
abbrev SH.wc(_:SH w0 w L):World:=w
theorem SH.back{w1:World}{L2:List Ch}(g:SH w0 w1 L)(h:SH w1 w L2)(m:EL L2):SH w0 w (L2++L):=by
 have l:=h.unbase g.below m;have i:∀c∈L,∀b,c.S b->b<w1.heap.size:=fun c a b f=>((g.holds c a).2 b f).2;refine⟨l.below,fun c a=>?_,fun c a=>?_,List.pairwise_append.2 ⟨h.apart,g.apart,fun c a d n b f k=>?_⟩⟩
 .rcases List.mem_append.1 a with a|a
  .exact l.holds c a
  .refine⟨c.loc w1 w (fun b f=>h.below.block b (i c a b f)) (fun b f=>h.below.block b (jx (g.elder c a b f) g.below.size)) (g.holds c a).1,fun b f=>?_⟩;have:=(g.holds c a).2 b f;exact⟨this.1,jx this.2 h.below.size⟩
 .rcases List.mem_append.1 a with a|a
  .exact l.elder c a
  .exact g.elder c a
 .have o:=((h.holds c a).2 b f).1;have p:=i d n b k;omega
theorem qh{β:Type}{f g:Option β}{r:β}{c:Bool}{t:Nat}(a:(bif c then f else g)=V r)(b:e.get t=V (.bool c))(d:f=V r->bu P n Q k ((t,.bool An)::e) w)(h:g=V r->bu P n Q k ((t,.bool Cd)::e) w):bu P n Q k e w:=by
 cases c
 .exact qcK Z b (h a)
 .exact qcL Z b (d a)
theorem bJ{β:Type}{f g:Option β}{r:β}{c:Bool}{t:Nat}{all:Array Oper}{l:List Oper}(a:(bif c then f else g)=V r)(b:e.get t=V (.bool c))(d:f=V r->lB P n Q k all w l ((t,.bool An)::e))(h:g=V r->lB P n Q k all w l ((t,.bool Cd)::e)):lB P n Q k all w l e:=by
 cases c
 .exact qcc Z b (h a)
 .exact qcd Z b (d a)
theorem dn.ix{β:Type}{A:Nat->Prop}{i:Int}{f:α->Option β}{r:β}(h:dn w A xs p c)(a:(qF xs i).bind f=V r) :
  ∃y,qF xs i=V y/\f y=V r/\(0<=i/\i<xs.length/\xs[i.toNat]?=V y)/\∃b o q cs,p=V ⟨b,o,U⟩/\q=o+i.toNat*qm.k α/\qm.R w A y cs/\cw w b q cs:=by
 obtain⟨y,d,a⟩:=qc a;obtain⟨b,o,q,cs,g,k,_,l,m⟩:=h.at d;exact⟨y,d,a,bH d,b,o,q,cs,g,k,l,m⟩
def XM(P:Program)(f:FuncId)(a:List Value)(w:World)(J:World->Prop):Prop:=
 Calls P f a.toArray w fun e w'=>e=.returned (vK [])/\J w'
theorem xB{J:World->Prop}{all:Array Oper}{l:List Oper}{d ty:Nat}{ps:String}{t:Array Edge}{x:Operand}{b:Array Operand}{i:Array TypeId}{f:FuncId}{r p:Array Value}{o s:List Value}
  (g:kL P f) (y:XM P f s w J) (B:gg e x=V (.func (.func f) r p)) (c:pk e b.toList=V o) (m:r.toList++o++p.toList=s) (A:Nat.blt d n=An)
  (z:∀w',J w'->bu P n Q (.ops all l::k) ((d,vK [])::e) w'):bu P n Q (.ops all (⟨V d,.call ⟨.value x,b,i⟩,ty,ps,t,U⟩::l)::k) e w:=by
 subst m;refine zD (R:=fun v w'=>v=vK []/\J w') Z Z A (fun a u=>sO u g B c w) (y.mono ?_) ?_
 .rintro e w' ⟨rfl,h⟩;exact⟨_,Z,Z,h⟩
 .rintro v w' ⟨rfl,h⟩;exact z w' h
theorem CD{J:World->Prop}{f:FuncId}{b:Func}{c:Code}{a:List Value}{m:Nat}(o:P.funcs[f]?=V b)(n:b.body=V c)(p:b.ntmps=m)(r:Nat.ble a.length m=An)
  (h:bu P m (bodyPost P b fun e w'=>e=.returned (vK [])/\J w') [.code c] (po 0 a) w):XM P f a w J:=by
 subst p;have s:=js r;refine calls_of_wp o n ?_;have g:gc b.ntmps (po 0 a) { tmps:=a.toArray++Array.replicate (b.ntmps-a.toArray.size) undef,defers:=[] }:=by
  refine⟨Z,by simp;omega,fun i v hi=>?_⟩;obtain⟨_,d⟩:=sD a 0 i v hi;simp only[Nat.sub_zero] at d;have k:=(List.getElem?_eq_some_iff.1 d).1;rw[jE (by simpa using k)];simpa using d
 have l:=h _ g;refine wp_mono l ?_;intro ex u w' t;cases ex<;>exact t
theorem qcJ{J:World->Prop}(c:cv P T){a:Func}(h:J w)(d:vE T e w a.results.toList []) :
  bu P n (bodyPost P a fun e w'=>e=.returned (vK [])/\J w') (.code .ret::k) e w:=
 QQ fun _ b=>⟨b.defers,vK [],oc c b d,Z,h⟩
theorem YY{J:World->Prop}(c:cv P T){a:Func}(h:J w)(d:vE T e w a.results.toList []) :
  bu P n (bodyPost P a fun e w'=>e=.returned (vK [])/\J w') [] e w:=
 qdm fun _ b=>⟨b.defers,vK [],oc c b d,Z,h⟩
def qam{β:Type}[qm β](P:Program)(f:FuncId)(a:List Value)(w w0:World)(F:List Ch)(r:List β):Prop:=
 Calls P f a.toArray w fun e w'=>∃S p k,e=.returned (.slice p r.length k)/\SH w0 w' (Ch.own S r [.slice p r.length k]::F)
theorem DG{β:Type}[qm β]{r:List β}{F:List Ch}{all:Array Oper}{l:List Oper}{d ty:Nat}{ps:String}{z:Array Edge}{x:Operand}{b:Array Operand}{m:Array TypeId}{f:FuncId}{u t:Array Value}{s y:List Value}
  (i:kL P f) (B:qam P f y w w0 F r) (H:gg e x=V (.func (.func f) u t)) (g:pk e b.toList=V s) (o:u.toList++s++t.toList=y) (D:Nat.blt d n=An)
  (C:∀w' S p c,SH w0 w' (Ch.own S r [.slice p r.length c]::F)->bu P n Q (.ops all l::k) ((d,.slice p r.length c)::e) w'):bu P n Q (.ops all (⟨V d,.call ⟨.value x,b,m⟩,ty,ps,z,U⟩::l)::k) e w:=by
 subst o;refine zD (R:=fun v w'=>∃S p c,v=.slice p r.length c/\SH w0 w' (Ch.own S r [.slice p r.length c]::F)) Z Z D (fun a A=>sO A i H g w) (B.mono ?_) ?_
 .rintro e w' ⟨S,p,c,rfl,h⟩;exact⟨_,Z,S,p,c,Z,h⟩
 .rintro v w' ⟨S,p,c,rfl,h⟩;exact C w' S p c h
theorem KN{β:Type}[qm β]{r:List β}{F:List Ch}{f:FuncId}{b:Func}{c:Code}{a:List Value}{m:Nat}(s:P.funcs[f]?=V b)(o:b.body=V c)(t:b.ntmps=m)(u:Nat.ble a.length m=An)
  (h:bu P m (bodyPost P b fun e w'=>∃S p k,e=.returned (.slice p r.length k)/\SH w0 w' (Ch.own S r [.slice p r.length k]::F)) [.code c] (po 0 a) w):qam P f a w w0 F r:=by
 subst t;have x:=js u;refine calls_of_wp s o ?_;have g:gc b.ntmps (po 0 a) { tmps:=a.toArray++Array.replicate (b.ntmps-a.toArray.size) undef,defers:=[] }:=by
  refine⟨Z,by simp;omega,fun i v hi=>?_⟩;obtain⟨_,d⟩:=sD a 0 i v hi;simp only[Nat.sub_zero] at d;have l:=(List.getElem?_eq_some_iff.1 d).1;rw[jE (by simpa using l)];simpa using d
 have n:=h _ g;refine wp_mono n ?_;intro ex z w' y;cases ex<;>exact y
theorem W7{β:Type}[qm β]{r:List β}{F:List Ch}{S':Nat->Prop}{p':Option Addr}{a c':Nat}(d:cv P T){b:Func}(h:SH w0 w (Ch.own S' r [.slice p' a c']::F))(f:vE T e w b.results.toList [.slice p' a c']) :
  bu P n (bodyPost P b fun e w'=>∃S p k,e=.returned (.slice p r.length k)/\SH w0 w' (Ch.own S r [.slice p r.length k]::F)) (.code .ret::k) e w:=by
 obtain rfl:=(h.sl 0 Z).2;exact QQ fun _ c=>⟨c.defers,_,oc d c f,S',p',c',Z,h⟩
end
end Go.Fw


namespace Go.Fw
open Go
structure uv(x w:Int):Prop where
 pos:0<=w
 lo:w*w<=x
 hi:x<(w+1)*(w+1)
theorem D5{a b:Int}(c:0<=a)(h:a<=b):a*a<=b*b:=Jb h h c (Int.le_trans c h)
theorem qbq{w:Int}:(w+1)*(w+1)=w*w+2*w+1:=by simp only[Int.add_mul,Int.mul_add,Int.one_mul,Int.mul_one];omega
theorem NT{w:Int}:(2*w)*(2*w)=4*(w*w):=by rw[Jg,Int.mul_left_comm w 2 w];omega
theorem D6{w:Int}:(2*w+1)*(2*w+1)=4*(w*w)+4*w+1:=by rw[qbq,NT];omega
theorem Y6{w:Int}:(2*w+2)*(2*w+2)=4*((w+1)*(w+1)):=by rw[show 2*w+2=2*(w+1) by omega,NT]
theorem uv.uniq{x w v:Int}(h:uv x w)(g:uv x v):w=v:=by
 have d:=h.pos;have a:=g.pos;have f:=h.lo;have i:=h.hi;have b:=g.lo;have c:=g.hi;rcases Int.lt_trichotomy w v with hh|hh|hh
 .have:=D5 (show 0<=w+1 by omega) (show w+1<=v by omega);omega
 .exact hh
 .have:=D5 (show 0<=v+1 by omega) (show v+1<=w by omega);omega
theorem uv.four{x w v:Int}(h:uv x w)(g:uv (4*x) v):v=2*w\/v=2*w+1:=by
 have i:=h.pos;have b:=g.pos;have k:=h.lo;have l:=h.hi;have d:=g.lo;have f:=g.hi;by_cases a:v<2*w
 .have:=D5 (show 0<=v+1 by omega) (show v+1<=2*w by omega);rw[NT] at this;omega
 .by_cases c:2*w+2<=v
  .have:=D5 (show 0<=2*w+2 by omega) c;rw[Y6] at this;omega
  .omega
def lW(a b mode:Int):Int:=bif decide (a.tmod b<0)&&(mode==0) then a.tdiv b-1 else bif decide (a.tmod b > 0)&&(mode==1) then a.tdiv b+1 else a.tdiv b
theorem ze{a b mode:Int}(h:0<=a)(f:0<b):lW a b mode=if mode=1/\a % b > 0 then a / b+1 else a / b:=by
 unfold lW;rw[Int.tmod_eq_emod_of_nonneg h,jM h];have:=Int.emod_nonneg a (show b≠0 by omega);rw[show decide (a % b<0)=Cd by simp;omega,Bool.false_and];simp only[Cj];by_cases c:mode=1
 .by_cases d:a % b > 0
  .rw[if_pos ⟨c,d⟩,decide_eq_true d,show(mode==1)=An by simpa using c];rfl
  .rw[if_neg (fun h=>d h.2),decide_eq_false d];rfl
 .rw[if_neg (fun h=>c h.1),show(mode==1)=Cd by simpa using c,Bool.and_false];rfl
theorem ZK{x w v mode:Int}(h:uv x w)(g:uv (4*x) v)(k:mode=0\/mode=1) :
  lW (if mode=1/\v*v<4*x then v+1 else v) 1000 mode=if mode=1/\w*w<x then w / 500+1 else lW w 500 mode:=by
 have i:=h.pos;have l:=g.pos;have f:=g.lo;have m:=h.lo;have a:=h.four g;rw[ze i (by omega),ze (by split<;>omega) (by omega)];rcases k with rfl|rfl
 .rw[if_neg (by omega),if_neg (by omega),if_neg (by omega),if_neg (by omega)];omega
 .have e:v*v=4*(w*w)\/v*v=4*(w*w)+4*w+1:=by
   rcases a with rfl|rfl
   .exact .inl NT
   .exact .inr D6
  simp only[true_and];by_cases c:w*w<x
  .have b:v*v<4*x:=by omega
   rw[if_pos b,if_pos c];split<;>omega
  .have n:w*w=x:=by omega
   have d:v=2*w:=by
    rcases a with a|a
    .exact a
    .subst a;rw[D6] at f;omega
   have b:¬ v*v<4*x:=by rw[d,NT];omega
   rw[if_neg b,if_neg c];split<;>split<;>omega
theorem QR{ρ:Type}{Lf:Nat->Int->Int->Option ρ}{fin:Int->ρ}{x H:Int}(z:0<=x)(v:x<(H+1)*(H+1))(u:0<=H)
  (b:∀n l,0<=l->l<=H->Lf (n+1) l l=V (fin l))
  (a:∀n l h,0<=l->l<h->h<=H->Lf (n+1) l h=bif decide ((l+h+1) / 2*((l+h+1) / 2)<=x) then Lf n ((l+h+1) / 2) h else Lf n l ((l+h+1) / 2-1)) :
  ∃w,uv x w/\w<=H/\Ev (fun n=>Lf n 0 H) (fin w):=by
 have m:∀d:Nat,∀l h:Int,0<=l->l<=h->h<=H->h-l<=d->l*l<=x->x<(h+1)*(h+1)->∃w,uv x w/\w<=H/\Ev (fun n=>Lf n l h) (fin w):=by
  intro d
  induction d with
  |zero=>
   intro l h i r f y o p;obtain rfl:l=h:=by omega
   exact⟨l,⟨i,o,p⟩,f,Ev.step (fun n=>b n l i f) .done⟩
  |succ d ih=>
   intro l h i r f y o p;by_cases c:l=h
   .subst c;exact⟨l,⟨i,o,p⟩,f,Ev.step (fun n=>b n l i f) .done⟩
   .have k:l<h:=by omega
    by_cases q:(l+h+1) / 2*((l+h+1) / 2)<=x
    .obtain⟨w,r1,s,t⟩:=ih ((l+h+1) / 2) h (by omega) (by omega) f (by omega) q p;exact⟨w,r1,s,Ev.step (g:=fun n=>Lf n ((l+h+1) / 2) h) (fun n=>by rw[a n l h i k f,decide_eq_true q];rfl) t⟩
    .obtain⟨w,r1,s,t⟩:=ih l ((l+h+1) / 2-1) i (by omega) (by omega) (by omega) o (by rw[Int.sub_add_cancel];omega);exact⟨w,r1,s,Ev.step (g:=fun n=>Lf n l ((l+h+1) / 2-1)) (fun n=>by rw[a n l h i k f,decide_eq_false q];rfl) t⟩
 exact m H.toNat 0 H (jV _) u (jV _) (by omega) (by omega) v

section
variable{L:Nat}{fr to:Nat->Int}{lv:Nat->Bool}
def OX(L:Nat)(fr to:Nat->Int)(lv:Nat->Bool)(R:List Nat)(k:Nat):Nat:=gf (fun x=>lv x&&(to x==(k:Int)&&!decide (fr x∈dW R))) L
def qdj(L:Nat)(fr to:Nat->Int)(lv:Nat->Bool)(i k:Nat):Nat:=gf (fun x=>lv x&&(fr x==(i:Int))&&(to x==(k:Int))) L
def FU(L:Nat)(fr to:Nat->Int)(lv:Nat->Bool)(R:List Nat)(k:Nat):Bool:=!decide (k∈R)&&decide (OX L fr to lv R k=0)
def H5(L:Nat)(fr to:Nat->Int)(lv:Nat->Bool)(n:Nat)(R:List Nat):Option Nat:=(List.range n).find? (FU L fr to lv R)
def I8(L:Nat)(fr to:Nat->Int)(lv:Nat->Bool)(n:Nat):Nat->List Nat->Option (List Nat)
 |0,R=>V R
 |m+1,R=>match H5 L fr to lv n R with|none=>U|some k=>I8 L fr to lv n m (R++[k])
def yY(L:Nat)(fr to:Nat->Int)(lv:Nat->Bool)(R:List Nat):Prop:=∀x,x<L->lv x=An->to x∈dW R->fr x∈dW R
theorem pC{R:List Nat}{k:Nat}:(k:Int)∈dW R↔k∈R:=by
 unfold dW;rw[List.mem_map];constructor
 .rintro⟨j,a,e⟩;obtain rfl:j=k:=by omega
  exact a
 .exact fun h=>⟨k,h,Z⟩
theorem XX{p q r:Nat->Bool}{n:Nat}(h:∀x,x<n->((bif p x then 1 else 0):Nat)=(bif q x then 1 else 0)+(bif r x then 1 else 0)):gf p n=gf q n+gf r n:=by
 induction n with
 |zero=>rfl
 |succ n ih=>unfold gf;rw[ih (fun x a=>h x (by omega)),h n (by omega)];omega
theorem T7{R:List Nat}{i k:Nat}(hi:i∉R):OX L fr to lv R k=OX L fr to lv (R++[i]) k+qdj L fr to lv i k:=by
 unfold OX qdj;refine XX fun x _=>?_;cases lv x
 .rfl
 .cases to x==(k:Int)
  .simp
  .by_cases a:fr x=(i:Int)
   .have c:fr x∉dW R:=by rw[a,pC];exact hi
    have b:fr x∈dW (R++[i]):=by rw[wm,a];simp
    rw[a] at c b;simp[c,b,a]
   .have b:(fr x∈dW (R++[i]))↔fr x∈dW R:=by rw[wm];simp[a]
    rw[show(fr x==(i:Int))=Cd by simpa using a];simp[b]
theorem wJ{R:List Nat}{k:Nat}:OX L fr to lv R k=0↔∀x,x<L->lv x=An->to x=(k:Int)->fr x∈dW R:=by
 unfold OX;rw[CX];constructor
 .intro h x c b a;have:=h x c;rw[b,a] at this;simpa using this
 .intro h x c;cases b:lv x
  .rfl
  .by_cases a:to x=(k:Int)
   .have:=h x c b a;simp[this]
   .simp[a]
theorem IB{n:Nat}{R:List Nat}{k:Nat}(h:H5 L fr to lv n R=V k):k<n/\k∉R/\OX L fr to lv R k=0:=by
 have b:=List.mem_range.1 (List.mem_of_find?_eq_some h);have a:=List.find?_some h;unfold FU at a;simp only[je,jC,decide_eq_false_iff_not,decide_eq_true_eq] at a;exact⟨b,a.1,a.2⟩
theorem yY.snoc{R:List Nat}{k:Nat}(h:yY L fr to lv R)(d:OX L fr to lv R k=0):yY L fr to lv (R++[k]):=by
 intro x c b a;rw[wm] at a⊢;rcases List.mem_append.1 a with a|a
 .exact jK _ (h x c b a)
 .exact jK _ (wJ.1 d x c b (List.mem_singleton.1 a))
theorem yY.nil:yY L fr to lv []:=fun _ _ _ h=>by simp[dW] at h
theorem yY.no_back{R:List Nat}{i k:Nat}(h:yY L fr to lv R)(hi:i∉R)(f:OX L fr to lv R i=0)(a:k∈R++[i]):qdj L fr to lv i k=0:=by
 unfold qdj;rw[CX];intro x d;cases h1:lv x
 .rfl
 .by_cases c:fr x=(i:Int)
  .by_cases b:to x=(k:Int)
   .exfalso;rcases List.mem_append.1 a with a|a
    .have:=h x d h1 (by rw[b,pC];exact a);rw[c,pC] at this;exact hi this
    .rw[List.mem_singleton.1 a] at b;have:=wJ.1 f x d h1 b;rw[c,pC] at this;exact hi this
   .simp[b]
  .simp[c]
theorem V2{n:Nat}:∀m R R',I8 L fr to lv n m R=V R'->R'.length=R.length+m:=by
 intro m
 induction m with
 |zero=>intro R R' h;obtain rfl:=Option.some.inj h;rfl
 |succ m ih=>
  intro R R' h;unfold I8 at h;cases hn:H5 L fr to lv n R with
  |none=>rw[hn] at h;cases h
  |some k=>
   rw[hn] at h;have:=ih _ _ h;rw[this,jg,jh];omega
end
end Go.Fw


namespace Go.Fw
open Go
open Go.RowKit (Below)
section
variable{P:Program}{T:uV}{n:Nat}{e:fy}{w:World}
theorem PE{t:TypeId}{k:IntKind}(h:P.underlying t=V (.int k))(w:World):(isAgg t).run P w=.ok Cd w:=by
 unfold isAgg;simp only[jk,run_underlying h,ji]
 rfl
theorem GU{t:TypeId}{k:IntKind}(h:P.underlying t=V (.int k)){cs:Array Value}{o:Nat}{v:Value}(a:cs[o]?=V v)(w:World):(part t cs o).run P w=.ok v w:=by
 unfold part;simp only[jk,PE h,ji,a]
 rfl
theorem mg(d:Nat){t:TypeId}(h:P.underlying t=V (.int .i64))(a b:Int)(w:World):(Op.equalIn (d+1) t (.int .i64 a) (.int .i64 b)).run P w=.ok (a==b) w:=by
 simp[Op.equalIn,run_underlying h]
theorem ZD{t:TypeId}{a b:Field}{a1 a2 b1 b2:Int}(k:P.underlying t=V (.struct #[a,b]))(n1:a.name≠ "_") (l:b.name≠ "_") (o1:a.offset=0) (o2:b.offset=1)
  (g:P.underlying a.type=V (.int .i64)) (h:P.underlying b.type=V (.int .i64)) (i:P.stoodInHeld t=Cd) (w:World) :
  (Op.equal t (.agg #[.int .i64 a1,.int .i64 a2]) (.agg #[.int .i64 b1,.int .i64 b2])).run P w=.ok ((a1==b1)&&(a2==b2)) w:=by
 simp only[Op.equal,Op.maxDepth];show(Op.equalIn (9998+1+1) t _ _).run P w=_;have p1:=fun c:Int×Int=>GU (P:=P) g (cs:=#[.int .i64 c.1,.int .i64 c.2]) (o:=0) (v:=.int .i64 c.1) Z;have s:=fun c:Int×Int=>GU (P:=P) h (cs:=#[.int .i64 c.1,.int .i64 c.2]) (o:=1) (v:=.int .i64 c.2) Z;have d:=p1 (a1,a2);have m:=p1 (b1,b2);have f:=s (a1,a2);have n:=s (b1,b2);simp only at d m f n;rw[Op.equalIn];by_cases p:a1=b1
 .subst p;by_cases r:a2=b2
  .subst r;simp[run_underlying k,i,n1,l,o1,o2,d,f,mg 9998 g,mg 9998 h]
  .simp[run_underlying k,i,n1,l,o1,o2,d,m,f,n,mg 9998 g,mg 9998 h,r]
 .simp[run_underlying k,i,n1,l,o1,o2,d,m,f,n,mg 9998 g,mg 9998 h,p]
theorem qcT{x y:Operand}{t v d ty:Nat}{ps:String}{l:Array Edge}{g:Option (Nat×Bool)}{b c:Field}{a1 a2 b1 b2:Int}(r:P.underlying t=V (.struct #[b,c]))(h:((b.name != "_")&&(c.name != "_"))=An) (i:(b.offset,c.offset)=(0,1))
  (z:P.underlying b.type=V (.int .i64)) (A:P.underlying c.type=V (.int .i64)) (p:P.stoodInHeld t=Cd) (o:P.eqGuardType P.depth t=Cd)
  (s:gg e x=V (.agg #[.int .i64 a1,.int .i64 a2])) (u:gg e y=V (.agg #[.int .i64 b1,.int .i64 b2])):KP P n e ⟨V d,.binOp .neq t x y v,ty,ps,l,g⟩ w (.bool (!((a1==b1)&&(a2==b2)))):=by
 intro a k;simp only[Prod.mk.injEq] at i;simp only[je,bne_iff_ne] at h;have m:=fun w=>ZD (a1:=a1) (a2:=a2) (b1:=b1) (b2:=b2) r h.1 h.2 i.1 i.2 z A p w;have f:(eqGuard .neq t x y (.agg #[.int .i64 a1,.int .i64 a2]) (.agg #[.int .i64 b1,.int .i64 b2])).run P w=.ok () w:=by
  unfold eqGuard;simp[o]
 simp only[execOp,k.eval s,k.eval u,jk,f,ji,binOp,m,jm]
def C0(P:Program)(t:TypeId):Bool:=match P.underlying t with
 |some (.int .i64)=>An
 |_=>Cd
def qdk(P:Program)(t:TypeId):Bool:=match P.underlying t with
 |some (.struct fs)=>match fs.toList with
  | [f1,f2]=>(f1.name != "_")&&(f2.name != "_")&&Nat.beq f1.offset 0&&Nat.beq f2.offset 1&&C0 P f1.type&&C0 P f2.type&&!P.stoodInHeld t&&!P.eqGuardType P.depth t
  |_=>Cd
 |_=>Cd
theorem VD{t:TypeId}(h:C0 P t=An):P.underlying t=V (.int .i64):=by
 unfold C0 at h;split at h
 .assumption
 .cases h
theorem Z7{x y:Operand}{t s d ty:Nat}{ps:String}{c:Array Edge}{g:Option (Nat×Bool)}{a1 a2 b1 b2:Int}(a:qdk P t=An)
  (f:gg e x=V (.agg #[.int .i64 a1,.int .i64 a2])) (h:gg e y=V (.agg #[.int .i64 b1,.int .i64 b2])):KP P n e ⟨V d,.binOp .neq t x y s,ty,ps,c,g⟩ w (.bool (!((a1==b1)&&(a2==b2)))):=by
 unfold qdk at a;split at a
 .rename_i fs hu
  split at a
  .rename_i f1 f2 hf
   have b:fs=#[f1,f2]:=by rw[<-Array.toArray_toList (xs:=fs),hf]
   subst b;simp only[je,jC] at a;obtain⟨⟨⟨⟨⟨⟨⟨i,k⟩,k3⟩,l⟩,m⟩,o⟩,p⟩,r⟩:=a;exact qcT hu (by simp only[i,k,Bool.and_self]) (by rw[Nat.eq_of_beq_eq_true k3,Nat.eq_of_beq_eq_true l]) (VD m) (VD o) p r f h
  .cases a
 .cases a
end
end Go.Fw
