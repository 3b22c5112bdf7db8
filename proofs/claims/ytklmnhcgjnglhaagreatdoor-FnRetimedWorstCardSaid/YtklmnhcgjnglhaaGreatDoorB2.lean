/- Calls that hand out parts of memory one by one: what is owned stays apart. -/
import Derived.Test.YtklmnhcgjnglhaaGreatDoorFw38
import Derived.Sort.Grow
import Derived.Lib.SlicesCompact
import Derived.Laws.StructEq
import Derived.Shelf.GgSortFunc.RowK
import Derived.Sort.Statements
import Derived.Sort.LotA
import Derived.Lib.QuietBelow
import Derived.Test.YtklmnhcgjnglhaaGreatDoorChecked
import Derived.Test.YtklmnhcgjnglhaaGreatDoorS1
import Derived.Test.YtklmnhcgjnglhaaGreatDoorFw37
open Option renaming bind_some->jd, some->V, none->U
open Bool renaming and_eq_true->je, eq_iff_iff->jp, not_eq_true'->jC, true_and->jN, true->An, false->Cd, cond_true->Ci, cond_false->Cj
open Nat renaming le_refl->jf, le_of_ble_eq_true->js, mul_le_mul_right->jt, lt_of_lt_of_le->jx, zero_le->jW, le_trans->Ja, zero_add->Jg, add_zero->Jp
open List renaming getElem?_eq_getElem->jj, getElem_mem->jm, length_map->jo, mem_cons_of_mem->jr, mem_cons_self->ju, length_take->jy, getD_eq_getElem?_getD->jz, getElem?_append_left->jA, mem_of_getElem?->jB, getElem?_append_right->jD, take_length->jH, not_mem_nil->jI, getElem?_take->jK, mem_append_left->jM, mem_cons->jQ, mem_append_right->jX, size_toArray->Jd, getElem?_drop->Je, getElem_of_mem->Ji
open Go.Result renaming andThen_ok->ji
open Go.Sem renaming run_bind->jk, run_pure->jn
open Int renaming toNat_natCast->jq
open Array renaming getElem?_append_left->jE, getElem?_eq_getElem->jZ
open Go.Fw.Ev renaming bind->Ck, succ->Cm, ff->Cp, now->Cx
open Go.Fw.PV renaming done->Cr
open Go.Fw.mt renaming get->Cs

namespace Go.Fw
open Go
open Go.RowKit (Below)
section
variable{P:Program}{T:vP}{n:Nat}{Q:Exit->Act->World->Prop}{k:List It}{e:fL}{w0 w w':World}{L L':List Ch}
theorem SH.append(h:SH w0 w L)(f:SH w w' L')(m:∀c,c∈L'->∀b,c.D b->b<w0.heap.size):SH w0 w' (L'++L):=by
 have k:=h.ext f.below;refine⟨k.below,λc a=>?_,λc a=>?_,?_⟩
 .rcases List.mem_append.1 a with a|a
  .obtain⟨p,s⟩:=f.holds c a;exact⟨p,λb l=>⟨Ja h.below.size (s b l).1,(s b l).2⟩⟩
  .exact k.holds c a
 .rcases List.mem_append.1 a with a|a
  .exact m c a
  .exact h.elder c a
 .refine List.pairwise_append.2 ⟨f.apart,h.apart,λc a d n b g i=>?_⟩;have o:=((f.holds c a).2 b g).1;have r:=((h.holds d n).2 b i).2;omega
theorem SH.appendN(h:SH w0 w L)(d:SH w w' L')(a:HN L'):SH w0 w' (L'++L):=
 SH.append h d λc g b f=>absurd f (HN.all a c g b)
def W5(P:Program)(f:FuncId)(a:List Value)(w:World)(Φ:List Value->List Ch->Prop):Prop:=
 Calls P f a.toArray w λe w'=>∃v,e=.returned v/\Below w.heap.size w w'/\∃us L,v=ww us/\SH w w' L/\Φ us L
theorem IT{Φ:List Value->List Ch->Prop}{all:Array Oper}{l:List Oper}{d ty:Nat}{ps:String}{t:Array Edge}{x:Operand}{b:Array Operand}{i:Array TypeId}{f:FuncId}{r p:Array Value}{o s:List Value}
  (g:kH P f) (z:W5 P f s w Φ) (D:gq e x=V (.func (.func f) r p)) (c:pD e b.toList=V o) (m:r.toList++o++p.toList=s) (B:Nat.blt d n=An)
  (A:∀w' h L',SH w w' L'->Φ h L'->bx P n Q (.ops all l::k) ((d,ww h)::e) w') :
  bx P n Q (.ops all (⟨V d,.call ⟨.value x,b,i⟩,ty,ps,t,U⟩::l)::k) e w:=by
 subst m;refine yB (R:=λv w'=>Below w.heap.size w w'/\∃h L,v=ww h/\SH w w' L/\Φ h L) Z Z B (λa y=>rP y g D c w) z ?_;rintro v w' ⟨_,h,L',rfl,u,C⟩;exact A w' h L' u C
theorem EB{f:FuncId}{b:Func}{c:Code}{a:List Value}{Φ:List Value->List Ch->Prop}{m:Nat}(o:P.funcs[f]?=V b)(n:b.body=V c)(p:b.ntmps=m)(r:Nat.ble a.length m=An)
  (h:SH w w []->bx P m (bodyPost P b λe w'=>∃v,e=.returned v/\Below w.heap.size w w'/\∃us L,v=ww us/\SH w w' L/\Φ us L) [.code c] (pY 0 a) w):W5 P f a w Φ:=by
 subst p;have s:=js r;refine calls_of_wp o n ?_;have u:=h (SH.start w);have g:gp b.ntmps (pY 0 a) { tmps:=a.toArray++Array.replicate (b.ntmps-a.toArray.size) undef,defers:=[] }:=by
  refine⟨Z,by simp;omega,λi v hi=>?_⟩;obtain⟨_,d⟩:=tF a 0 i v hi;simp only[Nat.sub_zero] at d;have k:=(List.getElem?_eq_some_iff.1 d).1;rw[jE (by simpa using k)];simpa using d
 have l:=u _ g;refine wp_mono l ?_;intro ex x w' t;cases ex<;>exact t
theorem DX(d:cE P T){b:Func}{Φ:List Value->List Ch->Prop}(a:List Value)(h:SH w0 w L)(f:wF T e w b.results.toList a)(g:Φ a L) :
  bx P n (bodyPost P b λe w'=>∃v,e=.returned v/\Below w0.heap.size w0 w'/\∃a L,v=ww a/\SH w0 w' L/\Φ a L) (.code .ret::k) e w:=
 TB λ_ c=>⟨c.defers,ww a,oP d c f,ww a,Z,h.below,a,L,Z,h,g⟩
end
end Go.Fw


namespace Go.Fw
open Go Go.Sort
open Go.RowKit (Below)
section
variable{P:Program}{T:vP}{n:Nat}{Q:Exit->Act->World->Prop}{k:List It}{e:fL}{w0 w w':World}{L L':List Ch}
theorem TH{α:Type}{L:List α}{i:Nat}{c:α}(h:L[i]?=V c):L.set i c=L:=by
 obtain⟨hi,a⟩:=List.getElem?_eq_some_iff.1 h;rw[<-a,List.set_getElem_self]
abbrev RD:Int->Value:=Value.int .i64
theorem R7{S:Nat->Prop}{xs:List Int}{b o l c i:Nat}(h:SH w0 w L)(hi:L[i]?=V (Ch.own S xs [.slice (V ⟨b,o,U⟩) l c])) :
  o=0/\l=xs.length/\xs.length<=c/\xs.length<=9223372036854775807/\b<w.heap.size/\Holds RD w b o xs.toArray:=by
 obtain⟨r,p⟩:=h.mem hi;obtain⟨y,v,f,m,x,n⟩:=r;simp only[List.cons.injEq,Value.slice.injEq,and_true] at f;obtain⟨rfl,rfl,rfl⟩:=f;rcases n with⟨hn,_⟩|⟨b',cur,t,F,hb,hSb,hg,hc,hF,hd,hx⟩
 .cases hn
 .simp only[Option.some.injEq,Addr.mk.injEq,and_true] at hb;obtain⟨rfl,rfl⟩:=hb;have k:maxLen<=9223372036854775807:=by simp[maxLen]
  refine⟨Z,Z,m,by omega,(p b hSb).2,λj g=>?_⟩;have a:j<xs.length:=by simpa using g
  obtain⟨cs,s,u⟩:=hx j xs[j] (jj a);obtain rfl:cs=[.int .i64 xs[j]]:=s;have:=u 0 _ Z;refine⟨?_,?_⟩
  .simp only[World.cell?,hg,Option.isSome_none,Jg,Bool.false_eq_true,if_false];have e1:j*qm.k Int+0=j:=by show j*1+0=j;omega
   rw[e1] at this;rw[this];have d:j<xs.toArray.size:=g;rw[getElem!_pos xs.toArray j d]
   rfl
  .simp only[World.frozen?,hg];simp
theorem qcf{S:Nat->Prop}{xs:List Int}{b o P c i m:Nat}(h:SH w0 w L)(hi:L[i]?=V (Ch.own S xs [.slice (V ⟨b,o,U⟩) P c]))(d:Array Int)(D:d.size=xs.length)(N:m<=d.size)(nd:Nat)(os:Array Obj) :
  SH w0 (grow (putRow RD (Go.Sort.ahead w nd) b o d) os) (L.set i (Ch.own S (d.toList.take m) [.slice (V ⟨b,o,U⟩) m c])):=by
 obtain⟨O,M⟩:=h.mem hi;obtain⟨T,Q,H,R,J,K⟩:=O;simp only[List.cons.injEq,Value.slice.injEq,and_true] at H;obtain⟨rfl,rfl,rfl⟩:=H;rcases K with⟨hn,_⟩|⟨b',cur,t,F,hb,hSb,hg,hc,hF,hdj,hx⟩
 .cases hn
 .simp only[Option.some.injEq,Addr.mk.injEq,and_true] at hb;obtain⟨rfl,rfl⟩:=hb;have u:b<w.heap.size:=(M b hSb).2;have f:(grow (putRow RD (Go.Sort.ahead w nd) b 0 d) os).heap=w.heap.modify b (onCells (putCells RD 0 d))++os:=rfl;have n:∀a,a<w.heap.size->(grow (putRow RD (Go.Sort.ahead w nd) b 0 d) os).heap[a]?=(w.heap.modify b (onCells (putCells RD 0 d)))[a]?:=λa k=>by
   rw[f,jE (by rw[Array.size_modify];exact k)]
  have y:(grow (putRow RD (Go.Sort.ahead w nd) b 0 d) os).heap[b]?=V (.cells (putCells RD 0 d cur) t (0,0)):=by
   rw[n b u,Array.getElem?_modify,if_pos Z,hg];rfl
  have l:qm.k Int=1:=rfl;refine h.upd hi Z Z Z ?_ (λa k B=>?_) ?_ (λa k=>.inl k) (λ_ D=>D.elim)
  .rw[f];simp
  .rw[n a k,Array.getElem?_modify,if_neg (λs:b=a=>B (s ▸ hSb))]
  .refine⟨V ⟨b,0,U⟩,c,by rw[jy,Array.length_toList,Nat.min_eq_left N],by rw[jy,Array.length_toList];omega,J,.inr ⟨b,_,t,F,Z,hSb,y,?_,hF,hdj,λj x p=>⟨[.int .i64 x],Z,λr v I=>?_⟩⟩⟩
   .unfold putCells;rw[Array.size_mapIdx];exact hc
   .have C:r=0:=by
     have:=(List.getElem?_eq_some_iff.1 I).1;simpa using this
    subst C;obtain rfl:(.int .i64 x)=v:=by simpa using I
    have A:j<m:=by
     have:=(List.getElem?_eq_some_iff.1 p).1;rw[jy] at this;omega
    rw[jK,if_pos A] at p;have g:j<d.size:=by omega
    have z:j*qm.k Int+0<cur.size:=by rw[hc,l];omega
    unfold putCells;rw[Array.getElem?_mapIdx,jZ z];have e1:j*qm.k Int+0=j:=by rw[l];omega
    simp only[Option.map_some,e1,Nat.sub_zero,jW,Jg,true_and,if_pos g,Option.some.injEq];rw[getElem!_pos d j g];rw[Array.getElem?_toList,jZ g] at p;rw[Option.some.inj p]
theorem qaM{S:Nat->Prop}{xs:List Int}{b o k c i:Nat}{d:Option Nat}(h:SH w0 w L)(hi:L[i]?=V (Ch.own S xs [.slice (V ⟨b,o,d⟩) k c])):d=U:=by
 obtain⟨g,_⟩:=h.mem hi;obtain⟨p,l,a,m,n,f⟩:=g;simp only[List.cons.injEq,Value.slice.injEq,and_true] at a;obtain⟨rfl,_,rfl⟩:=a;rcases f with⟨hn,_⟩|⟨b',cur,t,F,hb,_⟩
 .cases hn
 .simp only[Option.some.injEq,Addr.mk.injEq] at hb;exact hb.2.2
theorem qce{S:Nat->Prop}{xs:List Int}{b c i:Nat}(h:SH w0 w L)(hi:L[i]?=V (Ch.own S xs [.slice U b c])):xs=[]/\b=0/\c=0:=by
 obtain⟨g,_⟩:=h.mem hi;obtain⟨n,k,a,l,m,d⟩:=g;simp only[List.cons.injEq,Value.slice.injEq,and_true] at a;obtain⟨rfl,f,rfl⟩:=a;rcases d with⟨_,rfl,rfl⟩|⟨b',cur,t,F,hb,_⟩
 .exact⟨Z,by simpa using f,Z⟩
 .cases hb
end
end Go.Fw


namespace Go.Fw
open Go
open Go.RowKit (Below)
section
variable{w0 w w':World}{L:List Ch}{α:Type}[qm α]
def wJ(w:World)(A:Nat->Prop):List α->List (RU α)->Prop
 | [],[]=>True
 |x::xs,r::rs=>qm.R w A x r.cs/\wJ w A xs rs
 |_,_=>False
theorem wJ.at{A:Nat->Prop}:∀{xs:List α} {a:List (RU α)},wJ w A xs a->xs.length=a.length/\∀(i:Nat) x,xs[i]?=V x->∃r,a[i]?=V r/\qm.R w A x r.cs
 | [],[],_=>⟨Z,λi x h=>by simp at h⟩
 |x::xs,[],h=>h.elim
 | [],r::a,h=>h.elim
 |x::xs,r::a,h=>by
  obtain⟨d,c⟩:=wJ.at h.2;refine⟨by simp[d],λi y b=>?_⟩;cases i with
  |zero=>simp only[List.getElem?_cons_zero,Option.some.injEq] at b⊢;subst b;exact⟨r,Z,h.1⟩
  |succ i=>simp only[List.getElem?_cons_succ] at b⊢;exact c i y b
theorem SH.cutS{S:Nat->Prop}{xs y:List α}{p p1:Option Addr}{v c r:Nat}{hi:Int}(i:Nat)(h:SH w0 w L)(m:L[i]?=V (Ch.own S xs [.slice p v c]))(u:xV xs 0 hi=V y)(o:RS (qm.k α) p c (0:Int).toNat=p1)(k:c-(0:Int).toNat=r) :
  SH w0 w (L.set i (Ch.own S y [.slice p1 y.length r])):=by
 obtain⟨B,C,D,rfl⟩:=xy u;obtain⟨t,H⟩:=h.mem m;obtain⟨I,A,n,J,z,s⟩:=t;simp only[List.cons.injEq,Value.slice.injEq,and_true] at n;obtain⟨rfl,rfl,rfl⟩:=n;have e0:(0:Int).toNat=0:=rfl;rw[e0] at o k;simp only[Nat.sub_zero] at k;subst k;simp only[e0,List.drop_zero];have l:p1=p:=by
  subst o;unfold RS;split
  .rfl
  .rcases s with⟨rfl,_,_⟩|⟨b,cur,T,F,rfl,_⟩
   .rfl
   .simp[Addr.add]
 subst l;have a:(xs.take hi.toNat).length<=c:=by rw[jy];omega
 refine h.upd m Z Z Z (jf _) (λ_ _ _=>rfl) ⟨p1,c,Z,a,z,?_⟩ (λb f=>.inl f) (λ_ g=>g.elim);rcases s with⟨rfl,rfl,rfl⟩|⟨b,cur,T,F,rfl,f,hg,hc,hF,g,hx⟩
 .exact .inl ⟨Z,by simp,Z⟩
 .refine .inr ⟨b,cur,T,F,Z,f,hg,hc,hF,g,λj x d=>?_⟩;rw[jK] at d;split at d
  .exact hx j x d
  .cases d
end
end Go.Fw


namespace Go.Fw
open Go
end Go.Fw


namespace Go.Fw
open Go
open Go.RowKit (Below)
section
variable{P:Program}{T:vP}{n:Nat}{Q:Exit->Act->World->Prop}{k:List It}{e:fL}{w0 w:World}{L:List Ch}
variable{α:Type}[qm α]{S S1:Nat->Prop}{xs ys:List α}{p p':Option Addr}{c c':Nat}
theorem yP.up{ρ:Type}[gk ρ][wx ρ]{f:FuncId}{c:List Value}{A A':Nat->Prop}{r:ρ}(h:yP P f c w A r)(d:∀b,A b->A' b):yP P f c w A' r:=by
 refine Calls.mono h ?_;rintro e w' ⟨v,rfl,a,i,rfl,g⟩;exact⟨_,Z,a,i,Z,wx.mono g λb a=>a.elim (λh=>.inl (d b h)) .inr⟩
end
section
variable{α β γ:Type}
def QX(o:Option (List α)):Prop:=∀r,o=V r->r=[]
theorem QX.none:QX (U:Option (List α)):=λ_ h=>by cases h
theorem QX.noneB{f:β->Option (List α)}:QX ((Option.none:Option β).bind f):=λ_ h=>by cases h
theorem QX.nil:QX (V ([]:List α)):=λ_ h=>(Option.some.inj h).symm
theorem QX.bif{c:Bool}{a b:Option (List α)}(d:QX a)(f:QX b):QX (bif c then a else b):=by cases c<;>assumption
theorem QX.sub{xs:List β}{lo:Int}{f:List β->Option (List α)}(h:QX (f [])):QX ((xV xs lo ((0:Nat):Int)).bind f):=λr a=>by
 cases hs:xV xs lo ((0:Nat):Int) with
 |none=>rw[hs] at a;cases a
 |some y=>
  rw[hs] at a;obtain⟨_,_,_,e⟩:=xy hs;have:y=[]:=by rw[<-e];simp
  subst this;exact h r a
theorem QX.assoc{x:Option β}{g:β->Option γ}{f:γ->Option (List α)}(h:∀y,QX ((g y).bind f)):QX ((x.bind g).bind f):=by
 cases x with
 |none=>exact QX.noneB
 |some y=>exact h y
theorem QX.bind{x:Option β}{f:β->Option (List α)}(h:∀y,QX (f y)):QX (x.bind f):=by
 cases x with
 |none=>exact QX.noneB
 |some y=>exact h y
end
end Go.Fw


namespace Go.Fw
open Go
section
variable{ε:Type}
variable{ρ σ τ:Type}
end

end Go.Fw


namespace Go.Fw
open Go
open Go.RowKit (Below)
structure qd8 where
 w:World
 K:Nat->Prop
instance qej:qm qd8 where
 k:=1
 agg:=Cd
 zero:=⟨default,λ_=>False⟩
 zc:=[.bool An]
 R w S x cs:=cs=[.bool An]/\∀b,x.K b->S b/\w.heap[b]?=x.w.heap[b]?
 O w S x cs:=cs=[.bool An]/\∀b,x.K b->S b/\w.heap[b]?=x.w.heap[b]?
 kpos:=by decide
 noagg _:=rfl
 len h:=by obtain⟨rfl,_⟩:=h;rfl
 one h:=by obtain⟨rfl,_⟩:=h;simp[Value.oneCell']
 loc h hs:=⟨h.1,λb hb=>⟨(h.2 b hb).1,(hs b (h.2 b hb).1).trans (h.2 b hb).2⟩⟩
 mono h hs:=⟨h.1,λb hb=>⟨hs b (h.2 b hb).1,(h.2 b hb).2⟩⟩
 toR h:=h
 locO h hs:=⟨h.1,λb hb=>⟨(h.2 b hb).1,(hs b (h.2 b hb).1).trans (h.2 b hb).2⟩⟩
 monoO h hs:=⟨h.1,λb hb=>⟨hs b (h.2 b hb).1,(h.2 b hb).2⟩⟩
 zO _ _:=⟨Z,λ_ h=>h.elim⟩
def FS(F:List Ch)(b:Nat):Prop:=∃d,d∈F/\d.S b
abbrev Fr(w0:World)(F:List Ch)(b:Nat):Prop:=FS F b\/old w0 b
abbrev same(w0 w:World)(F:List Ch):WI:=vk (⟨w,Fr w0 F⟩:qd8) [.bool An]
section
variable{P:Program}{T:vP}{n:Nat}{Q:Exit->Act->World->Prop}{k:List It}{e:fL}{w0 w w':World}{L L' F:List Ch}
theorem SH.frame(L:List Ch)(h:SH w0 w (L++F)):SH w0 w (L++[Ch.grp (Fw.old w0) (FS F) [same w0 w F]]):=by
 have l:=List.pairwise_append.1 h.apart;refine⟨h.below,λc a=>?_,λc a=>?_,List.pairwise_append.2 ⟨l.1,List.pairwise_singleton ..,λc a d i b g=>?_⟩⟩
 .rcases List.mem_append.1 a with a|a
  .exact h.holds c (jM _ a)
  .obtain rfl:=List.mem_singleton.1 a;refine⟨λf m=>?_,λb g=>?_⟩
   .obtain rfl:=List.mem_singleton.1 m;exact⟨Z,λb g=>⟨g,Z⟩⟩
   .obtain⟨d,i,g⟩:=g;exact(h.holds d (jX _ i)).2 b g
 .rcases List.mem_append.1 a with a|a
  .exact h.elder c (jM _ a)
  .obtain rfl:=List.mem_singleton.1 a;exact λb g=>g
 .obtain rfl:=List.mem_singleton.1 i;rintro⟨d,i,k⟩;exact l.2.2 c a d i b g k
theorem SH.unframe{L0:List Ch}{fs:List WI}(j:Nat)(g:SH w0 w (L0++F))(L':List Ch)(h:SH w0 w' (L'++[Ch.grp (Fw.old w0) (FS F) fs]))(r:fs[j]?=V (same w0 w F)):SH w0 w' (L'++F):=by
 have m:=List.pairwise_append.1 h.apart;have k:=List.pairwise_append.1 g.apart;have l:=h.holds (Ch.grp (Fw.old w0) (FS F) fs) (jX _ (List.mem_singleton.2 Z));have n:∀b,Fr w0 F b->w'.heap[b]?=w.heap[b]?:=λb f=>((l.1 _ (jB r)).2 b f).2;refine⟨h.below,λc a=>?_,λc a=>?_,List.pairwise_append.2 ⟨m.1,k.2.1,λc a d p b f i=>?_⟩⟩
 .rcases List.mem_append.1 a with a|a
  .exact h.holds c (jM _ a)
  .obtain⟨o,s⟩:=g.holds c (jX _ a);exact⟨c.loc w w' (λb f=>n b (.inl ⟨c,a,f⟩)) (λb f=>n b (.inr (g.elder c (jX _ a) b f))) o,λb f=>l.2 b ⟨c,a,f⟩⟩
 .rcases List.mem_append.1 a with a|a
  .exact h.elder c (jM _ a)
  .exact g.elder c (jX _ a)
 .exact m.2.2 c a _ (List.mem_singleton.2 Z) b f ⟨d,p,i⟩
variable{α:Type}[qm α]{x:α}{cs:List Value}{S D:Nat->Prop}{fs:List WI}
theorem SH.frB{c:Ch}(i m:Nat)(hi:L[i]?=V c)(d:Nat.ble m i=An):∀b,c.S b->FS (L.drop m) b:=λb a=>by
 have f:=js d;refine⟨c,jB (i:=i-m) ?_,a⟩;rw[Je,show m+(i-m)=i by omega];exact hi
theorem SH.frO(i m:Nat)(h:SH w0 w L)(hi:L[i]?=V (Ch.own S x cs))(c:Nat.ble m i=An):qm.R w (Fr w0 (L.drop m)) x cs:=
 qm.mono (qm.toR (h.mem hi).1) λb a=>.inl (SH.frB i m hi c b a)
theorem SH.frG(i j m:Nat)(h:SH w0 w L)(hi:L[i]?=V (Ch.grp D S fs))(c:fs[j]?=V (vk x cs))(d:Nat.ble m i=An):qm.R w (Fr w0 (L.drop m)) x cs:=
 qm.mono (h.grpS i j hi c) λb a=>a.elim (λa=>.inl (SH.frB i m hi d b a)) λa=>.inr (h.elder _ (jB hi) b a)
theorem SH.frOldS{F:List Ch}{xs:List α}{p:Option Addr}{c:Nat}(h:SH w0 w L)(d:dG w0 (Fw.old w0) xs p c):dG w (Fr w0 F) xs p c:=
 (d.loc λb a=>h.below.block b a).mono λ_ a=>.inr a
def yb(P:Program)(f:FuncId)(a:List Value)(w:World)(J:List Value->World->Prop):Prop:=
 Calls P f a.toArray w λe w'=>∃us,e=.returned (ww us)/\J us w'
theorem bO{J:List Value->World->Prop}{all:Array Oper}{l:List Oper}{d ty:Nat}{ps:String}{u:Array Edge}{x:Operand}{c:Array Operand}{m:Array TypeId}{f:FuncId}{s r:Array Value}{p t:List Value}
  (i:kH P f) (z:yb P f t w J) (C:gq e x=V (.func (.func f) s r)) (g:pD e c.toList=V p) (o:s.toList++p++r.toList=t) (B:Nat.blt d n=An)
  (A:∀w' b,J b w'->bx P n Q (.ops all l::k) ((d,ww b)::e) w'):bx P n Q (.ops all (⟨V d,.call ⟨.value x,c,m⟩,ty,ps,u,U⟩::l)::k) e w:=by
 subst o;refine yB (R:=λv w'=>∃b,v=ww b/\J b w') Z Z B (λa y=>rP y i C g w) (z.mono ?_) ?_
 .rintro e w' ⟨b,rfl,h⟩;exact⟨_,Z,b,Z,h⟩
 .rintro v w' ⟨b,rfl,h⟩;exact A w' b h
theorem cz{J:List Value->World->Prop}{f:FuncId}{b:Func}{c:Code}{a:List Value}{m:Nat}(o:P.funcs[f]?=V b)(n:b.body=V c)(p:b.ntmps=m)(r:Nat.ble a.length m=An)
  (h:bx P m (bodyPost P b λe w'=>∃us,e=.returned (ww us)/\J us w') [.code c] (pY 0 a) w):yb P f a w J:=by
 subst p;have s:=js r;refine calls_of_wp o n ?_;have g:gp b.ntmps (pY 0 a) { tmps:=a.toArray++Array.replicate (b.ntmps-a.toArray.size) undef,defers:=[] }:=by
  refine⟨Z,by simp;omega,λi v hi=>?_⟩;obtain⟨_,d⟩:=tF a 0 i v hi;simp only[Nat.sub_zero] at d;have k:=(List.getElem?_eq_some_iff.1 d).1;rw[jE (by simpa using k)];simpa using d
 have l:=h _ g;refine wp_mono l ?_;intro ex u w' t;cases ex<;>exact t
theorem ce{J:List Value->World->Prop}(d:cE P T){b:Func}(a:List Value)(f:wF T e w b.results.toList a)(h:J a w) :
  bx P n (bodyPost P b λe w'=>∃a,e=.returned (ww a)/\J a w') (.code .ret::k) e w:=
 TB λ_ c=>⟨c.defers,ww a,oP d c f,a,Z,h⟩
end
section
open Go.ChangeShapes Go.RowKit
variable{H:Type}{enc:TypeId×Value->H}{P:Program}{w:World}{base:Nat}{spare:Nat->Bool}{held:Bool}
end

section
variable{P:Program}{T:vP}{n:Nat}{Q:Exit->Act->World->Prop}{k:List It}{e:fL}{w0 w w':World}{L:List Ch}
variable{α β:Type}[qm α][qm β]{S Sr Se D:Nat->Prop}{xs ys:List α}{p p':Option Addr}{c c':Nat}{fs:List WI}{x:α}{cs:List Value}
theorem wJ.loc{A:Nat->Prop}:∀{xs:List α} {a:List (RU α)},wJ w A xs a->(∀b,A b->w'.heap[b]?=w.heap[b]?)->wJ w' A xs a
 | [],[],_,_=>trivial
 |_::_,[],h,_=>h.elim
 | [],_::_,h,_=>h.elim
 |_::_,_::_,h,hb=>⟨qm.loc h.1 hb,wJ.loc h.2 hb⟩
theorem wJ.mono{A B:Nat->Prop}(a:∀b,A b->B b):∀{xs:List α} {c:List (RU α)},wJ w A xs c->wJ w B xs c
 | [],[],_=>trivial
 |_::_,[],h=>h.elim
 | [],_::_,h=>h.elim
 |_::_,_::_,h=>⟨qm.mono h.1 a,wJ.mono a h.2⟩
theorem wJ.app{A:Nat->Prop}:∀{xs:List α} {b:List (RU α)} {ys:List α} {a:List (RU α)},wJ w A xs b->wJ w A ys a->wJ w A (xs++ys) (b++a)
 | [],[],_,_,_,h=>h
 |_::_,[],_,_,h,_=>h.elim
 | [],_::_,_,_,h,_=>h.elim
 |_::_,_::_,_,_,h,h'=>⟨h.1,wJ.app h.2 h'⟩
theorem wJ.of{A:Nat->Prop}:∀{xs:List α} {a:List (RU α)},xs.length=a.length->(∀(i:Nat) (x:α) (r:RU α),xs[i]?=V x->a[i]?=V r->qm.R w A x r.cs)->wJ w A xs a
 | [],[],_,_=>trivial
 |_::_,[],h,_=>by cases h
 | [],_::_,h,_=>by cases h
 |x::xs,r::a,h,ha=>⟨ha 0 x r Z Z,wJ.of (by simpa using h) λi y q c b=>ha (i+1) y q (by simpa using c) (by simpa using b)⟩
theorem wJ.len{A:Nat->Prop}{a:List (RU α)}(h:wJ w A xs a):xs.length=a.length:=h.at.1
theorem SH.frzI(i:Nat)(h:SH w0 w L)(hi:L[i]?=V (Ch.own S x cs)):SH w0 w (L.set i (Ch.grp (λ_=>False) S [vk x cs])):=
 h.say hi (λg f d=>by
  obtain rfl:=List.mem_singleton.1 d;have a:qm.O w S x cs:=g;exact qm.mono (S':=λb=>S b\/False) (x:=x) (cs:=cs) (qm.toR a) (λb c=>.inl c)) (λ_ h=>h) (λ_ h=>h.elim)
end
end Go.Fw


namespace Go.Fw
open Go
def YX(x:gW .u8):Prop:=0<=x.val/\x.val<=255
theorem qaJ{P:Program}{t:TypeId}(c:P.underlying t=V (.int .u8))(b:P.cellsOf t=1):GF P t (HX (kd:=.u8)) YX:=
 ⟨b,λh=>by
  obtain⟨n,rfl,_,a⟩:=DataW.trod_int c h;exact⟨⟨n⟩,Z,by simp only[Lit.wf,IntKind.min,IntKind.max,je] at a;simp[IntKind.bits,IntKind.signed] at a;unfold YX;simp only;omega⟩⟩
end Go.Fw


namespace Go.Fw
open Go
open Go.RowKit (Below)
section
variable{P:Program}{T:vP}{n:Nat}{Q:Exit->Act->World->Prop}{k:List It}{e:fL}{w0 w w':World}{L:List Ch}
end

section
variable{P:Program}{T:vP}{n:Nat}{e:fL}{w:World}
def b3(a0:Bool)(a1 a2 a:Int):Array Value:=#[.bool a0,.int .i64 a1,.int .i64 a2,.int .i64 a]
end
end Go.Fw


namespace Go.Fw
open Go
section
variable{P:Program}{T:vP}{n:Nat}{e:fL}{w:World}
theorem VW{x y:Operand}{t l d ty:Nat}{ps:String}{c:Array Edge}{g:Option (Nat×Bool)}{a b r:Int}(f:b≠0)(h:a.tmod b=r)
  (i:gq e x=V (.int .i64 a)) (k:gq e y=V (.int .i64 b)):MV P n e ⟨V d,.binOp .rem t x y l,ty,ps,c,g⟩ w (.int .i64 r):=h ▸ N5 f i k
end
end Go.Fw


namespace Go.Fw
open Go
open Go.RowKit (Below)
section
variable{P:Program}{T:vP}{n:Nat}{Q:Exit->Act->World->Prop}{k:List It}{e:fL}{w0 w w':World}{L:List Ch}
variable{α β:Type}[qm α][qm β]{S Sr Se D:Nat->Prop}{xs ys:List α}{p p':Option Addr}{c c':Nat}{fs:List WI}{x:α}{cs:List Value}
end

section
variable{w0 w w':World}{L LL F:List Ch}{c:Ch}{fs:List WI}
theorem SH.frm1{α:Type}[qm α]{x:α}{cs:List Value}(h:SH w0 w (c::F))(a:qm.R w (Fr w0 F) x cs):SH w0 w [c,Ch.grp (Fw.old w0) (FS F) [vk x cs,same w0 w F]]:=
 (SH.frame [c] h).grpAdd 1 Z a
theorem SH.unfr(k j:Nat)(c:SH w0 w LL)(h:SH w0 w' L)(b:L.getLast?=V (Ch.grp (Fw.old w0) (FS (LL.drop k)) fs))(d:fs[j]?=V (same w0 w (LL.drop k))):SH w0 w' (L.dropLast++LL.drop k):=by
 refine SH.unframe (L0:=LL.take k) j (by rw[List.take_append_drop];exact c) _ ?_ d;have a:L≠[]:=λe=>by rw[e] at b;cases b
 rw[List.getLast?_eq_some_getLast a] at b;have e:=List.dropLast_concat_getLast a;rw[Option.some.inj b] at e;rw[e];exact h
end
section
variable{P:Program}{n:Nat}{Q:Exit->Act->World->Prop}{k:List It}
theorem HQ{ops:Array Oper}{st:List Nat}{C:World->Prop}{d:Nat}{b:Array Bool}{e:fL}{w:World}(J:fL->World->Prop)(c:Nat)(a:Array Bool)
  (g:∀e w,J e w->lU P n Q k ops st C c a e w) (f:(∀e w,J e w->lU P n Q k ops st C c a e w)->lU P n Q k ops st C d b e w):lU P n Q k ops st C d b e w:=f g
end

section
variable{P:Program}{T:vP}{n:Nat}{Q:Exit->Act->World->Prop}{k:List It}{e:fL}{w0 w wc:World}{L:List Ch}
variable{α:Type}[qm α]{S S1:Nat->Prop}{xs ys Y:List α}{x:α}{cs:List Value}{p p1 p':Option Addr}{c c1 c':Nat}
def Ch.pin(S:Nat->Prop)(wc:World):Ch where
 S:=S
 D _:=False
 P w:=∀b,S b->w.heap[b]?=wc.heap[b]?
 loc _ _ h _ hp:=λb a=>(h b a).trans (hp b a)
theorem SH.pinB(i:Nat)(h:SH w0 w L)(hi:L[i]?=V (Ch.pin S wc)){b:Nat}(a:S b):w.heap[b]?=wc.heap[b]?:=(h.mem hi).1 b a
theorem SH.pinS(i:Nat)(h:SH w0 w L)(hi:L[i]?=V (Ch.pin S wc))(d:dG wc S xs p c):dG w (Fw.old w) xs p c:=
 (d.loc λ_ a=>h.pinB i hi a).mono λb a=>((h.mem hi).2 b a).2
theorem Rd.sub{c:List (RU α)}(h:Rd w0 Y c){lo hi:Int}(k:xV Y lo hi=V ys):∃qs,xV c lo hi=V qs/\Rd w0 ys qs:=by
 obtain⟨d,f,g,rfl⟩:=xy k;refine⟨(c.take hi.toNat).drop lo.toNat,?_,?_,λi x r a b=>?_⟩
 .unfold xV;rw[if_pos ⟨d,f,by rw[h.1];exact g⟩]
 .simp[h.1]
 .rw[Je,jK] at a b;split at a
  .rename_i hlt
   rw[if_pos hlt] at b;exact h.2 _ x r a b
  .cases a
def qbv(w0:World)(A:Nat->Prop)(xs:List α)(a:List (RU α)):Prop:=a.length=xs.length/\∀(i:Nat) (x:α) (r:RU α),xs[i]?=V x->a[i]?=V r->qm.R w0 A x r.cs
variable{A:Nat->Prop}
theorem qbv.app{g f:List (RU α)}(a:qbv w0 A xs g)(d:qbv w0 A ys f):qbv w0 A (xs++ys) (g++f):=by
 refine⟨by simp[a.1,d.1],λi x r c b=>?_⟩;by_cases hi:i<xs.length
 .rw[jA hi] at c;rw[jA (by rw[a.1];exact hi)] at b;exact a.2 i x r c b
 .rw[jD (by omega)] at c;rw[jD (by rw[a.1];omega),a.1] at b;exact d.2 _ x r c b
theorem qbv.sub{c:List (RU α)}(h:qbv w0 A Y c){lo hi:Int}(k:xV Y lo hi=V ys):∃qs,xV c lo hi=V qs/\qbv w0 A ys qs:=by
 obtain⟨d,f,g,rfl⟩:=xy k;refine⟨(c.take hi.toNat).drop lo.toNat,?_,?_,λi x r a b=>?_⟩
 .unfold xV;rw[if_pos ⟨d,f,by rw[h.1];exact g⟩]
 .simp[h.1]
 .rw[Je,jK] at a b;split at a
  .rename_i hlt
   rw[if_pos hlt] at b;exact h.2 _ x r a b
  .cases a
theorem qbv.all{c:List (RU α)}(h:qbv w0 A xs c)(f:Below w0.heap.size w0 w)(d:∀b,A b->Fw.old w0 b):wJ w A xs c:=
 wJ.of h.1.symm λi x r k g=>qm.loc (h.2 i x r k g) λb a=>f.block b (d b a)
end
section
variable{P:Program}{T:vP}{n:Nat}{Q:Exit->Act->World->Prop}{k:List It}{e:fL}{w0 w w00:World}{L:List Ch}{α β:Type}[qm α][qm β]{A0 B S:Nat->Prop}{x:α}{y:β}{cs ds:List Value}{ys:List β}{p:Option Addr}{c:Nat}
theorem Rg.inPo(c:Rg A0 w00 B w0)(h:SH w0 w L)(d:qm.R w0 B y ds):qm.R w (λb=>S b\/B b) y ds:=qm.mono (c.inBR h d) λ_ a=>.inr a
theorem SH.ownG(i:Nat)(h:SH w0 w L)(hi:L[i]?=V (Ch.own S x cs)):qm.R w (λb=>S b\/B b) x cs:=qm.mono (qm.toR (h.mem hi).1) λ_ a=>.inl a
theorem Rg.atPo(d:Rg A0 w00 B w0)(i:Nat)(h:SH w0 w L)(hi:L[i]?=V (Ch.own S x cs)):∀b,(S b\/B b)->Fw.old w b:=λb c=>c.elim (λa=>((h.mem hi).2 b a).2) (d.atB h b)
theorem qaW{ρ:Type}[gk ρ][wx ρ](r:ρ){all:Array Oper}{l:List Oper}{d ty:Nat}{ps:String}{F:Array Edge}{a:Operand}{c:Array Operand}{s:Array TypeId}{f:FuncId}{C A:Array Value}{z D:List Value}
  (i:Nat) (K:Rg A0 w00 B w0) (h:SH w0 w L) (hi:L[i]?=V (Ch.own S x cs)) (o:kH P f) (I:yP P f D w (λb=>S b\/B b) r) (T:gq e a=V (.func (.func f) C A)) (g:pD e c.toList=V z) (y:C.toList++z++A.toList=D) (N:Nat.blt d n=An)
  (M:∀w1 p S',SH w0 w1 (L.set i (Ch.grp B S' []))->gk.Rs w1 (λb=>S' b\/B b) r p->bx P n Q (.ops all l::k) ((d,ww p)::e) w1) :
  bx P n Q (.ops all (⟨V d,.call ⟨.value a,c,s⟩,ty,ps,F,U⟩::l)::k) e w:=by
 subst y;refine yB (R:=λv w'=>Below w.heap.size w w'/\∃p,v=ww p/\gk.Rs w' (vJ (λb=>S b\/B b) w w') r p) Z Z N (λa H=>rP H o T g w) I ?_;rintro v w' ⟨m,p,rfl,O⟩;refine M w' p (λb=>S b\/mT w w' b) (h.upd (c':=Ch.grp B (λb=>S b\/mT w w' b) []) hi m.os m.tape m.output m.size (λb u _=>m.block b u) (λf J=>by cases J) (λb m=>m) (λb t=>K.old b t)) (wx.mono O ?_);rintro b ((hb1|hb1)|hb1)
 .exact .inl (.inl hb1)
 .exact .inr hb1
 .exact .inl (.inr hb1)
end
end Go.Fw


namespace Go.Fw
open Go Go.Sort
open Go.RowKit (Below)
section
variable{P:Program}{T:vP}{n:Nat}{Q:Exit->Act->World->Prop}{k:List It}{e:fL}{w0 w w':World}{L L':List Ch}
def OJ(P:Program)(f:FuncId):Prop:=
 (∀(a cQ cap:Nat) (zs:List Int) (w:World),Holds RD w a cQ zs.toArray->zs.length<=9223372036854775807 ->
  Calls P f #[.slice (V ⟨a,cQ,U⟩) zs.length cap] w λe w'=>e=.returned (.tuple #[])/\∃n,w'=putRow RD (Go.Sort.ahead w n) a cQ zs.reverse.toArray) /\
 ∀(p:Option Addr) (cap:Nat) (w:World),Calls P f #[.slice p 0 cap] w λe w'=>e=.returned (.tuple #[])/\w'=w
def qer(xs:List Int):Option (List Int):=V xs.reverse
theorem qes{f:FuncId}(k:OJ P f){S:Nat->Prop}{xs y:List Int}{p:Option Addr}{g c:Nat}(i:Nat)(h:SH w0 w L)(hi:L[i]?=V (Ch.own S xs [.slice p g c]))(r:qer xs=V y) :
  A4 P f [.slice p g c] w λw'=>SH w0 w' (L.set i (Ch.own S y [.slice p g c])):=by
 obtain rfl:xs.reverse=y:=Option.some.inj r;cases p with
 |none=>
  obtain⟨rfl,rfl,rfl⟩:=qce h hi;refine(k.2 U 0 w).mono ?_;rintro e w' ⟨rfl,rfl⟩;refine⟨Z,?_⟩;rw[List.reverse_nil,TH hi];exact h
 |some a=>
  obtain⟨b,o,t⟩:=a;obtain rfl:=qaM h hi;obtain⟨rfl,rfl,s,d,n,l⟩:=R7 h hi;refine(k.1 b 0 c xs w l d).mono ?_;rintro e w' ⟨rfl,nd,rfl⟩;refine⟨Z,?_⟩;have:=qcf h hi xs.reverse.toArray (by simp) (m:=xs.length) (by simp) nd #[];rw[grow_empty,List.toList_toArray,show xs.length=xs.reverse.length by simp,jH,List.length_reverse] at this;exact this
section
variable{α:Type}[qm α]
def H0(P:Program)(f g:FuncId)(b:Nat):Prop:=
 (∀(enc:Nat->List Value) (_:∀x,(enc x).length=b) (_:∀x,∀v∈enc x,v.oneCell'=An) (c:Nat->Nat->Int) (_:SWO λx y=>decide (c x y<0)) (i:Array Value) (a cQ cap:Nat) (d:Array Nat) (w:World),
  (∀(m:Nat) (os:Array Obj) (h:Array Nat),h.size=d.size->∀x y:Nat,Calls P g (#[.agg (enc x).toArray,.agg (enc y).toArray]++i) (grow (putRow id (Go.Sort.ahead w m) a cQ (flatK enc b h)) os) λe w'=>
   e=.returned (.int .i64 (c x y))/\∃q os',w'=grow ((grow (putRow id (Go.Sort.ahead w m) a cQ (flatK enc b h)) os).drewN q) os') ->
  Holds id w a cQ (flatK enc b d)->a<w.heap.size->d.size<4611686018427387904 ->
  Calls P f #[.slice (V ⟨a,cQ,U⟩) d.size cap,.func (.func g) #[] i] w λe w'=>e=.returned (.tuple #[])/\∃d' n os,PermIn 0 d.size d d'/\SortedIn (λx y=>decide (c x y<0)) 0 d.size d'/\w'=grow (putRow id (Go.Sort.ahead w n) a cQ (flatK enc b d')) os) /\
 ∀(p:Option Addr) (cap:Nat) (k:Value) (w:World),Calls P f #[.slice p 0 cap,k] w λe w'=>e=.returned (.tuple #[])/\w'=w
theorem qai(b:Below w.heap.size w w')(c:w.drawn<=w'.drawn):∃q os',w'=grow (w.drewN q) os':=by
 obtain⟨p,rfl⟩:=regrown_of_below b;have a:w.drawn<=p.d:=c;refine⟨p.d-w.drawn,p.os,?_⟩;have:redrawn w p.d=w.drewN (p.d-w.drawn):=by
  show { w with drawn:=p.d }={ w with drawn:=w.drawn+(p.d-w.drawn) };rw[Nat.add_sub_cancel' a]
 rw[this]
theorem IS{b:Nat}{d:Array Value}{m:Nat}{os:Array Obj}{a:Nat}(g:a<w.heap.size)(f:a≠b):(grow (putRow id (Go.Sort.ahead w m) b 0 d) os).heap[a]?=w.heap[a]?:=by
 have c:(grow (putRow id (Go.Sort.ahead w m) b 0 d) os).heap=w.heap.modify b (onCells (putCells id 0 d))++os:=rfl;rw[c,jE (by rw[Array.size_modify];exact g),Array.getElem?_modify,if_neg (λh=>f h.symm)]
def NG(a:α->α->Int)(x y:α):Bool:=!decide (a y x<0)
theorem qcB{f g:FuncId}(hs:H0 P f g (qm.k α))(hag:qm.agg α=An){S:Nat->Prop}{xs:List α}{p:Option Addr}{ln c:Nat}(i:Nat)(h:SH w0 w L)(hi:L[i]?=V (Ch.own S xs [.slice p ln c]))(cb:List Value)(k:α->α->Int)
  (hO:SWO λx y=>decide (k x y<0)) (hT:∀x y,x∈xs->y∈xs->¬ k x y<0->¬ k y x<0->x=y) (hl:xs.length<=2147483648)
  (hcap:∀w1,w.heap.size<=w1.heap.size->(∀b,b<w.heap.size->¬ S b->w1.heap[b]?=w.heap[b]?)->∀x y csx csy,x∈qm.zero::xs->y∈qm.zero::xs->qm.R w1 (Fw.old w1) x csx->qm.R w1 (Fw.old w1) y csy ->
   Calls P g ([qm.v α csx,qm.v α csy]++cb).toArray w1 λe w'=>e=.returned (.int .i64 (k x y))/\Below w1.heap.size w1 w'/\w1.drawn<=w'.drawn) :
  A4 P f [.slice p ln c,.func (.func g) #[] cb.toArray] w λw'=>SH w0 w' (L.set i (Ch.own S (xs.mergeSort (NG k)) [.slice p ln c])):=by
 obtain⟨hp,hS⟩:=h.mem hi;obtain⟨p0,c0,he,h1,h2,h3⟩:=hp;simp only[List.cons.injEq,Value.slice.injEq,and_true] at he;obtain⟨rfl,rfl,rfl⟩:=he;rcases h3 with⟨rfl,rfl,rfl⟩|⟨b,cur,t,F,rfl,hSb,hg,hc,hF,hdj,hx⟩
 .refine(hs.2 U 0 _ w).mono ?_;rintro e w' ⟨rfl,rfl⟩;refine⟨Z,?_⟩;have e1:([]:List α).mergeSort (NG k)=[]:=by simp
  rw[e1,TH hi];exact h
 .obtain⟨rs,hrl,hr⟩:=qb5 (p:=λi x (r:List Value)=>qm.O w (F i) x r/\∀j v,r[j]?=V v->cur[i*qm.k α+j]?=V v) xs hx;have hbs:b<w.heap.size:=(hS b hSb).2;have a3:0<qm.k α:=qm.kpos
  let enc:Nat->List Value:=λn=>(rs[n]?).getD (qm.zc α)
  let xf:Nat->α:=λn=>(xs[n]?).getD qm.zero
  have hzc:(qm.zc α).length=qm.k α:=qm.len (qm.toR (qm.zO w (λ_=>False) (α:=α)));have K:∀n,n<xs.length->∃D:n<xs.length,∃M:n<rs.length,enc n=rs[n]/\xf n=xs[n]/\qm.O w (F n) xs[n] rs[n]/\∀j v,rs[n][j]?=V v->cur[n*qm.k α+j]?=V v:=λn D=>by
   have M:n<rs.length:=by omega
   obtain⟨q1,q2⟩:=hr n xs[n] rs[n] (jj D) (jj M);exact⟨D,M,by simp[enc,M],by simp[xf,D],q1,q2⟩
  have u:∀n,¬ n<xs.length->enc n=qm.zc α/\xf n=qm.zero:=λn D=>by
   have e1:rs[n]?=U:=List.getElem?_eq_none (by omega);have N:xs[n]?=U:=List.getElem?_eq_none (by omega);exact⟨by simp[enc,e1],by simp[xf,N]⟩
  have hk:∀n,(enc n).length=qm.k α:=λn=>by
   by_cases D:n<xs.length
   .obtain⟨_,_,e1,_,J,_⟩:=K n D;rw[e1];exact qm.len (qm.toR J)
   .rw[(u n D).1,hzc]
  have hone:∀n,∀v∈enc n,v.oneCell'=An:=λn=>by
   by_cases D:n<xs.length
   .obtain⟨_,_,e1,_,J,_⟩:=K n D;rw[e1];exact qm.one (qm.toR J)
   .rw[(u n D).1];exact qm.one (qm.toR (qm.zO w (λ_=>False) (α:=α)))
  have hmem:∀n,xf n∈qm.zero::xs:=λn=>by
   by_cases D:n<xs.length
   .obtain⟨_,_,_,N,_⟩:=K n D;rw[N];exact jr _ (jm D)
   .rw[(u n D).2];exact ju ..
  have hswo:SWO λx y=>decide (k (xf x) (xf y)<0):=⟨λx=>hO.irrefl (xf x),λx y z=>hO.trans (xf x) (xf y) (xf z),λx y z=>hO.ntrans (xf x) (xf y) (xf z)⟩
  let d:Array Nat:=Array.range xs.length
  have s:d.size=xs.length:=by simp[d]
  have R:∀(B:Array Nat) (q j:Nat),q<B.size->j<qm.k α->(flatK enc (qm.k α) B)[q*qm.k α+j]?=(enc B[q]!)[j]?:=λB q j A X=>by
   have a8:q*qm.k α+j<B.size*qm.k α:=by
    have:(q+1)*qm.k α<=B.size*qm.k α:=jt _ A;rw[Nat.add_mul,Nat.one_mul] at this;omega
   have hdiv:(q*qm.k α+j) / qm.k α=q:=by
    rw[Nat.mul_comm,Nat.mul_add_div a3,Nat.div_eq_of_lt X,Jp]
   have hmod:(q*qm.k α+j) % qm.k α=j:=by
    rw[Nat.mul_comm,Nat.mul_add_mod,Nat.mod_eq_of_lt X]
   have:=get_flatK enc (qm.k α) B (q*qm.k α+j) a8;rw[hdiv,hmod] at this;have Y:j<(enc B[q]!).length:=by rw[hk];exact X
   have a7:q*qm.k α+j<(flatK enc (qm.k α) B).size:=by rw[size_flatK];exact a8
   rw[jZ a7,jj Y,<-getElem!_pos (flatK enc (qm.k α) B) _ a7,this,getElem!_pos (enc B[q]!) j Y]
  have hcs:∀q j,q<xs.length->j<qm.k α->cur[q*qm.k α+j]?=(enc q)[j]?:=λq j A X=>by
   obtain⟨_,M,e1,_,_,hv⟩:=K q A;have Y:j<(rs[q]).length:=by rw[<-e1,hk];exact X
   rw[e1,jj Y];exact hv j _ (jj Y)
  have hH:Holds id w b 0 (flatK enc (qm.k α) d):=λt ht=>by
   rw[size_flatK,s] at ht;have A:t / qm.k α<xs.length:=Nat.div_lt_of_lt_mul (by rw[Nat.mul_comm];exact ht);have X:t % qm.k α<qm.k α:=Nat.mod_lt _ a3;have ht':t / qm.k α*qm.k α+t % qm.k α=t:=by rw[Nat.mul_comm];exact Nat.div_add_mod t _
   have hd1:d[t / qm.k α]! = t / qm.k α:=by
    rw[getElem!_pos d _ (by rw[s];exact A)];simp[d]
   have e1:=hcs _ _ A X;have N:=R d _ _ (by rw[s];exact A) X;rw[ht',hd1] at N;rw[ht'] at e1;have hts:t<(flatK enc (qm.k α) d).size:=by rw[size_flatK,s];exact ht
   refine⟨?_,?_⟩
   .simp only[World.cell?,hg,Option.isSome_none,Jg,Bool.false_eq_true,if_false];rw[e1,<-N,jZ hts,getElem!_pos (flatK enc (qm.k α) d) t hts]
    rfl
   .simp only[World.frozen?,hg];simp
  have hcmp:∀(m:Nat) (os:Array Obj) (B:Array Nat),B.size=d.size->∀x y:Nat,Calls P g (#[.agg (enc x).toArray,.agg (enc y).toArray]++cb.toArray) (grow (putRow id (Go.Sort.ahead w m) b 0 (flatK enc (qm.k α) B)) os) λe w'=>
    e=.returned (.int .i64 (k (xf x) (xf y)))/\∃q os',w'=grow ((grow (putRow id (Go.Sort.ahead w m) b 0 (flatK enc (qm.k α) B)) os).drewN q) os':=by
   intro m os B _ x y;have a7:w.heap.size<=(grow (putRow id (Go.Sort.ahead w m) b 0 (flatK enc (qm.k α) B)) os).heap.size:=by
    show w.heap.size<=(w.heap.modify b _++os).size;simp
   have hRd:∀n,qm.R (grow (putRow id (Go.Sort.ahead w m) b 0 (flatK enc (qm.k α) B)) os) (Fw.old (grow (putRow id (Go.Sort.ahead w m) b 0 (flatK enc (qm.k α) B)) os)) (xf n) (enc n):=λn=>by
    by_cases D:n<xs.length
    .obtain⟨_,_,e1,N,J,_⟩:=K n D;rw[e1,N];refine qm.mono (qm.loc (qm.toR J) λa C=>IS ((hS a (hF n a C).1).2) (hF n a C).2) λa C=>?_;exact jx ((hS a (hF n a C).1).2) a7
    .rw[(u n D).1,(u n D).2];exact qm.toR (qm.zO _ _)
   have:=hcap _ a7 (λa C hna=>IS C (λhab=>hna (hab ▸ hSb))) (xf x) (xf y) (enc x) (enc y) (hmem x) (hmem y) (hRd x) (hRd y);have ea:([qm.v α (enc x),qm.v α (enc y)]++cb).toArray=#[.agg (enc x).toArray,.agg (enc y).toArray]++cb.toArray:=by
    unfold qm.v qeR;rw[hag];simp
   rw[ea] at this;refine this.mono ?_;rintro e w' ⟨rfl,hb',hd'⟩;exact⟨Z,qai hb' hd'⟩
  have Q:=hs.1 enc hk hone (λx y=>k (xf x) (xf y)) hswo cb.toArray b 0 c d w hcmp hH hbs (by rw[s];omega);rw[s] at Q;refine Q.mono ?_;rintro e w' ⟨rfl,l,nd,os,hperm,a6,rfl⟩;refine⟨Z,?_⟩;obtain⟨H,_,a4⟩:=hperm;have ed:l.extract 0 xs.length=l:=by rw[<-s,<-H];exact Array.extract_size
  have ed0:d.extract 0 xs.length=d:=by rw[<-s];exact Array.extract_size
  rw[ed,ed0] at a4;have hdr:d.toList=List.range xs.length:=by simp[d]
  rw[hdr] at a4;have o:l.toList.length=xs.length:=by rw[Array.length_toList,H,s]
  have hnd:l.toList.Nodup:=a4.nodup_iff.2 List.nodup_range;have W:∀q,q<xs.length->l[q]!<xs.length/\l.toList[q]?=V l[q]!:=λq A=>by
   have a5:q<l.size:=by rw[H,s];exact A
   have e1:l.toList[q]?=V l[q]!:=by rw[Array.getElem?_toList,jZ a5,getElem!_pos l q a5]
   have:l[q]!∈List.range xs.length:=a4.mem_iff.1 (jB e1);exact⟨List.mem_range.1 this,e1⟩
  have hxs:(List.range xs.length).map xf=xs:=by
   apply List.ext_getElem?;intro q;rw[List.getElem?_map];by_cases A:q<xs.length
   .rw[List.getElem?_range A,jj A];simp[xf,A]
   .rw[List.getElem?_eq_none (by simp;omega),List.getElem?_eq_none (by omega)];rfl
  have hres:l.toList.map xf=xs.mergeSort (NG k):=by
   have hp2:(l.toList.map xf).Perm (xs.mergeSort (NG k)):=by
    have:=a4.map xf;rw[hxs] at this;exact this.trans (List.mergeSort_perm _ _).symm
   refine List.Perm.eq_of_pairwise (le:=λx y=>NG k x y=An) ?_ ?_ ?_ hp2
   .intro x y hx' hy' O I;have mx:x∈xs:=(List.mergeSort_perm xs (NG k)).mem_iff.1 (hp2.mem_iff.1 hx');have my:y∈xs:=(List.mergeSort_perm xs (NG k)).mem_iff.1 hy';simp only[NG,jC,decide_eq_false_iff_not] at O I;exact hT x y mx my I O
   .rw[List.pairwise_iff_getElem];intro q r A hr hqr;have a5:q<xs.length:=by rw[jo,o] at A;exact A
    have hr':r<xs.length:=by rw[jo,o] at hr;exact hr
    have hs':=a6 q r (jW _) hqr hr';have e1:l.toList[q]'(by rw[o];exact a5)=l[q]!:=Option.some.inj ((jj _).symm.trans (W q a5).2);have N:l.toList[r]'(by rw[o];exact hr')=l[r]!:=Option.some.inj ((jj _).symm.trans (W r hr').2);rw[List.getElem_map,List.getElem_map,e1,N];simp only[NG,jC];exact hs'
   .refine List.pairwise_mergeSort ?_ ?_ _
    .intro a b' c' O I;simp only[NG,jC] at O I⊢;exact hO.ntrans c' b' a I O
    .intro a b';cases hh:decide (k b' a<0) with
     |false=>simp[NG,hh]
     |true=>
      have:decide (k a b'<0)=Cd:=by
       cases I:decide (k a b'<0) with
       |false=>rfl
       |true=>
        have:=hO.trans a b' a I hh;rw[hO.irrefl a] at this;cases this
      simp[NG,this]
  have T:(grow (putRow id (Go.Sort.ahead w nd) b 0 (flatK enc (qm.k α) l)) os).heap=w.heap.modify b (onCells (putCells id 0 (flatK enc (qm.k α) l)))++os:=rfl;have hgb:(grow (putRow id (Go.Sort.ahead w nd) b 0 (flatK enc (qm.k α) l)) os).heap[b]?=V (.cells (putCells id 0 (flatK enc (qm.k α) l) cur) t (0,0)):=by
   rw[T,jE (by rw[Array.size_modify];exact hbs),Array.getElem?_modify,if_pos Z,hg];rfl
  have hml:(xs.mergeSort (NG k)).length=xs.length:=List.length_mergeSort _;refine h.upd hi Z Z Z ?_ (λa C hna=>IS C (λhab=>hna (hab ▸ hSb))) ?_ (λa C=>.inl C) (λ_ hd=>hd.elim)
  .rw[T];simp
  .rw[<-hres];refine⟨V ⟨b,0,U⟩,c,by rw[jo,o],by rw[jo,o];exact h1,h2,.inr ⟨b,_,t,λq a=>q<xs.length/\F l[q]! a,Z,hSb,hgb,?_,λq a C=>hF _ a C.2,?_,?_⟩⟩
   .unfold putCells;rw[Array.size_mapIdx];exact hc
   .rintro q r a hqr ⟨A,C⟩ ⟨hr,ha'⟩;refine hdj _ _ a (λheq=>hqr ?_) C ha';refine(List.getElem?_inj (by rw[o];exact A) hnd).1 ?_;rw[(W q A).2,(W r hr).2,heq]
   .intro q x A;have a9:q<xs.length:=by
     have:=(List.getElem?_eq_some_iff.1 A).1;rw[jo,o] at this;exact this
    obtain⟨a8,e1⟩:=W q a9;rw[List.getElem?_map,e1] at A;obtain rfl:xf l[q]! = x:=by simpa using A
    obtain⟨_,M,N,e3,J,_⟩:=K _ a8;refine⟨enc l[q]!,?_,λj v X=>?_⟩
    .rw[N,e3];exact qm.monoO (qm.locO J λa C=>IS ((hS a (hF _ a C).1).2) (hF _ a C).2) λa C=>⟨a9,C⟩
    .have hjk:j<qm.k α:=by
      have:=(List.getElem?_eq_some_iff.1 X).1;rw[hk] at this;exact this
     have hqc:q*qm.k α+j<cur.size:=by
      have:(q+1)*qm.k α<=c*qm.k α:=jt _ (by omega);rw[Nat.add_mul,Nat.one_mul] at this;omega
     have hqf:q*qm.k α+j<(flatK enc (qm.k α) l).size:=by
      rw[size_flatK,H,s];have:(q+1)*qm.k α<=xs.length*qm.k α:=jt _ a9;rw[Nat.add_mul,Nat.one_mul] at this;omega
     have ef:=R l q j (by rw[H,s];exact a9) hjk;unfold putCells;rw[Array.getElem?_mapIdx,jZ hqc];simp only[Option.map_some,Nat.sub_zero,jW,Jg,true_and,if_pos hqf,Option.some.injEq];rw[X,jZ hqf] at ef;rw[getElem!_pos (flatK enc (qm.k α) l) _ hqf];exact Option.some.inj ef
end
end
end Go.Fw


namespace Go.Fw
open Go
open Go.RowKit (Below)
section
variable{P:Program}{T:vP}{n:Nat}{Q:Exit->Act->World->Prop}{k:List It}{e:fL}{w0 w w':World}{L:List Ch}
def TY(P:Program)(f:FuncId)(b:List Value)(w:World)(v:Value):Prop:=yb P f b w λa w'=>a=[v]/\Below w.heap.size w w'/\w.drawn<=w'.drawn
theorem rC{f:FuncId}{a:Func}{c:Code}{b:List Value}{v:Value}{m:Nat}(g:P.funcs[f]?=V a)(d:a.body=V c)(i:a.ntmps=m)(k:Nat.ble b.length m=An)
  (h:SH w w []->w.drawn<=w.drawn->bx P m (bodyPost P a λe w'=>∃us,e=.returned (ww us)/\(us=[v]/\Below w.heap.size w w'/\w.drawn<=w'.drawn)) [.code c] (pY 0 b) w):TY P f b w v:=
 cz g d i k (h (SH.start w) (jf _))
theorem rz{v:Value}(h:SH w0 w L)(d:w0.drawn<=w.drawn)(c:cE P T){b:Func}(f:wF T e w b.results.toList [v]) :
  bx P n (bodyPost P b λe w'=>∃a,e=.returned (ww a)/\(a=[v]/\Below w0.heap.size w0 w'/\w0.drawn<=w'.drawn)) (.code .ret::k) e w:=
 ce (J:=λa w'=>a=[v]/\Below w0.heap.size w0 w'/\w0.drawn<=w'.drawn) c [v] f ⟨Z,h.below,d⟩
theorem uI{v:Value}{all:Array Oper}{l:List Oper}{d ty:Nat}{ps:String}{t:Array Edge}{x:Operand}{a:Array Operand}{g:Array TypeId}{f:FuncId}{r p:Array Value}{o s:List Value}
  (h:SH w0 w L) (z:w0.drawn<=w.drawn) (c:kH P f) (y:TY P f s w v) (C:gq e x=V (.func (.func f) r p)) (b:pD e a.toList=V o) (m:r.toList++o++p.toList=s) (B:Nat.blt d n=An)
  (A:∀w',SH w0 w' L->w0.drawn<=w'.drawn->bx P n Q (.ops all l::k) ((d,v)::e) w'):bx P n Q (.ops all (⟨V d,.call ⟨.value x,a,g⟩,ty,ps,t,U⟩::l)::k) e w:=by
 refine bO c y C b m B ?_;rintro w' D ⟨rfl,u,i⟩;exact A w' (h.ext u) (Ja z i)
theorem VG{all:Array Oper}{l:List Oper}{d t ty:Nat}{ps:String}{c:Array Edge}{x:Operand}{v:Value}(h:SH w0 w L)(g:w0.drawn<=w.drawn)(o:gq e x=V v)(m:Nat.blt d n=An)
  (i:∀w' b,SH w0 w' (Ch.box b (bi v) t::L)->w0.drawn<=w'.drawn->bx P n Q (.ops all l::k) ((d,.pointer (V ⟨b,0,U⟩))::e) w'):bx P n Q (.ops all (⟨V d,.box t x,ty,ps,c,U⟩::l)::k) e w:=by
 refine DZ Z Z m (λa f=>?_) (i _ _ (h.alloc (bi v) t) g);simp only[execOp,f.eval o,Instr.box,newVar,newRow,jk,run_newObj,ji,jn];rw[<-kc]
 rfl
theorem qaV{id:Nat}{ops:List Oper}(st:List Nat)(C:World->Prop)(g:P.follows .mixedOrders=An)(m:Nat)(c:ops.toArray.size=m)(b:Array Bool)(f:Array.replicate m Cd=b)
  (h:∀w',Below w.heap.size w w'->w.drawn<=w'.drawn->lU P n Q k ops.toArray st C m b e w'):bx P n Q (.code (.region id ops.toArray An)::k) e w:=by
 subst c;subst f;intro a d;refine wp_region_any g (HM (st:=st) (C:=C) _ _ _ _ ?_);exact h { w with drawn:=w.drawn+1 } ⟨Z,Z,Z,jf _,λ_ _=>rfl⟩ (Nat.le_succ _) a d
theorem TA(hT:cE P T){α:Type}[qm α][eQ α]{all:Array Oper}{l:List Oper}{d t ty el len:Nat}{ps:String}{af:Array Edge}{g:Array (Nat×Operand)}{te m:TE}{zv:Value}(os:List Operand)(f:List Value)(ys:List α)
  (h:SH w0 w L) (H:w0.drawn<=w.drawn) (s:g.toList=(os.zipIdx 0).map λx=>(x.2,x.1)) (Y:pD e os=V f) (C:len=f.length)
  (X:T.get t=V te) (hk:te.kind=.slice el) (I:T.get el=V m) (hz:m.zero=V zv) (D:m.size=qm.k α) (i:Nat.ble (f.length*m.size) 16777216=An)
  (u:CN w (Fw.old w) ys (f.map bi)) (hn:Nat.blt d n=An)
  (M:∀w' p S,SH w0 w' (Ch.own S ys [.slice p len len]::L)->w0.drawn<=w'.drawn->bx P n Q (.ops all l::k) ((d,.slice p len len)::e) w') :
  bx P n Q (.ops all (⟨V d,.buildSlice t len g,ty,ps,af,U⟩::l)::k) e w:=by
 have o:∀{ys:List α} {cs:List (List Value)},CN w (Fw.old w) ys cs->ys.length=cs.length/\∀c∈cs,c.length=qm.k α:=by
  intro ys
  induction ys with
  |nil=>intro cs u;cases cs with
   |nil=>simp
   |cons=>exact u.elim
  |cons y ys ih=>
   intro cs u;cases cs with
   |nil=>exact u.elim
   |cons c cs=>
    obtain⟨h1,h2⟩:=u;have:=ih h2;refine⟨by simp[this.1],λd A=>?_⟩;rcases List.mem_cons.1 A with rfl|A
    .exact qm.len h1
    .exact this.2 d A
 obtain⟨N,O⟩:=o u;have F:∀v∈f,(bi v).length=m.size:=λv hv=>by rw[D];exact O _ (List.mem_map.2 ⟨v,hv,Z⟩)
 have hr:=HF hT f X hk I hz (js i) F w;subst C;obtain⟨B,K⟩:=u.get;refine DZ (v:=.slice (V ⟨w.heap.size,0,U⟩) f.length f.length) (w':=w.alloc (.cells (f.map bi).flatten.toArray el)) Z Z hn (λa ha=>?_)
  (M _ _ (λb=>b=w.heap.size) (h.add ((Below.refl _ _).alloc (jf _) _) ?_ ?_ (λ_ A=>A.elim)) H)
 .have J:g.map (λ(x:Nat×Operand)=>(x.1,a.eval x.2))=((f.zipIdx 0).map λx=>(x.2,x.1)).toArray:=by
   apply Array.ext';rw[Array.toList_map,s];have:=vu ha Y;subst this;rw[List.zipIdx_map,List.map_map,List.map_map]
   rfl
  simp only[execOp,J,jk,hr,ji,jn]
 .have z:ys.length=f.length:=by simpa using N
  refine⟨V ⟨w.heap.size,0,U⟩,f.length,by rw[z],?_⟩;have W:f.length<=maxLen:=by
   have h1:=js i;have h2:f.length*1<=f.length*m.size:=Nat.mul_le_mul_left _ (by rw[D];exact qm.kpos);simp[maxLen];omega
  refine WM.of_elems (w:=w) (S':=Fw.old w) (olds:=(f.map bi).flatten) (by rw[z];exact jf _) W Z (heap_alloc_new w _) ?_ ⟨B,K⟩ (λr v R=>by simpa using R);rw[Jd,B,z]
 .intro b hb;have:b=w.heap.size:=hb;subst this;exact⟨jf _,by simp⟩
end
end Go.Fw


namespace Go.Fw
abbrev V5:ByteArray:=⟨#[100]⟩
abbrev WW:ByteArray:=⟨#[102,97,115,116]⟩
abbrev qcQ:ByteArray:=⟨#[110,97]⟩
abbrev qcR:ByteArray:=⟨#[110,98]⟩
abbrev WV:ByteArray:=⟨#[110,99,107]⟩
abbrev UE:ByteArray:=⟨#[113]⟩
abbrev CR:ByteArray:=⟨#[115,108,111,119]⟩
abbrev CS:ByteArray:=⟨#[116,121,112]⟩
abbrev O7:ByteArray:=⟨#[121]⟩
abbrev qdd:ByteArray:=⟨#[122]⟩
abbrev MW:ByteArray:=⟨#[97]⟩
abbrev MX:ByteArray:=⟨#[98]⟩
abbrev BZ:ByteArray:=⟨#[99,107]⟩
abbrev qde:ByteArray:=⟨#[99]⟩
abbrev qeG:List Value:=[vi 0,vi 0,vi 0,vi 0,.slice U 0 0,.slice U 0 0]
abbrev V4:List Value:=[vi 0,vi 0,vi 0,vi 0,vi 0]
abbrev WG:List Value:=[.slice U 0 0,.slice U 0 0,.slice U 0 0]
abbrev TU:List Value:=[vi 0,.slice U 0 0,vi 0]
abbrev qd2:List Value:=[.string ByteArray.empty,vi 0,.slice U 0 0,.slice U 0 0,.slice U 0 0,vi 0,vi 0]
abbrev qe2:List Value:=[.slice U 0 0,.slice U 0 0,.slice U 0 0,.slice U 0 0]
abbrev TV:List Value:=[.slice U 0 0,.slice U 0 0,.slice U 0 0,.slice U 0 0,.slice U 0 0]
abbrev OI:List Value:=[.string ByteArray.empty,vi 0,vi 0,vi 0,vi 0]
abbrev qeH:List Value:=[.slice U 0 0,.slice U 0 0,.slice U 0 0,.slice U 0 0,.slice U 0 0,.string ByteArray.empty,vi 0,vi 0,vi 0,vi 0,.slice U 0 0,.slice U 0 0]
open Go Go.Proofs Go.Proofs.Tryz
open Go.RowKit (Below)
open Ch renaming own->oW,box->oX,grp->oG
open qm renaming v->oV
open Go.Value renaming slice->oS
set_option maxRecDepth 100000
set_option maxHeartbeats 6400000
variable{n:Nat}{w:World}{S:Nat->Prop}{cs1 cs2 cs3 cs4 cs5 cs6 cs7 cs8 cs9:List Value}
structure bp where
 Bi:ByteArray
 Bx:Int
 Bs:Int
 Bt:Bool
instance qbQ:qm bp:=va (aU wX (aU qV (aU qV uA))) (λx=>(x.Bi,x.Bx,x.Bs,x.Bt)) ⟨ByteArray.empty,0,0,Cd⟩ Z An (λh=>by cases h)
instance qeD:eQ bp:=sQ (aU wX (aU qV (aU qV uA))) (λx:bp=>(x.Bi,x.Bx,x.Bs,x.Bt)) ⟨ByteArray.empty,0,0,Cd⟩ Z An (λh=>by cases h) (dg _ _ (inferInstanceAs (eQ ByteArray)) (dg _ _ (inferInstanceAs (eQ Int)) (dg _ _ (inferInstanceAs (eQ Int)) (inferInstanceAs (eQ Bool)))))
abbrev OM(x:bp):List Value:=[.string x.Bi,vi x.Bx,vi x.Bs,.bool x.Bt]
theorem mG{x:bp}{cs:List Value}(h:qm.R w S x cs):cs=(OM x):=by
 obtain⟨_,_,rfl,rfl,⟨_,_,rfl,rfl,⟨_,_,rfl,rfl,rfl⟩⟩⟩:=h;exact Z
theorem zG(x:bp):qm.R w S x (OM x):=have h:=pR (rT x.Bi) (pR (rI x.Bx) (pR (rI x.Bs) (rB x.Bt)));h
structure qU where
 Bp:(List Int)
 Bj:(List Int)
 Bg:(List Int)
instance SE:qm qU:=va (aU (@bD Int qV) (aU (@bD Int qV) (@bD Int qV))) (λx=>(x.Bp,x.Bj,x.Bg)) ⟨[],[],[]⟩ Z An (λh=>by cases h)
abbrev lc(x:qU)(p0 p1 p2:Option Addr)(k0 k1 k2:Nat):List Value:=[oS p0 (x.Bp).length k0,oS p1 (x.Bj).length k1,oS p2 (x.Bg).length k2]
theorem ee{x:qU}{cs:List Value}(h:qm.R w S x cs):∃d a p1 b f c,cs=(lc x d p1 f a b c)/\dG w S x.Bp d a/\dG w S x.Bj p1 b/\dG w S x.Bg f c:=by
 obtain⟨_,_,rfl,⟨d,a,rfl,s0⟩,⟨_,_,rfl,⟨p1,b,rfl,s1⟩,⟨f,c,rfl,s2⟩⟩⟩:=h;exact⟨d,a,p1,b,f,c,Z,s0,s1,s2⟩
theorem tL(x:qU){d p1 f:Option Addr}{a b c:Nat}(s0:dG w S x.Bp d a)(s1:dG w S x.Bj p1 b)(s2:dG w S x.Bg f c):qm.R w S x (lc x d p1 f a b c):=have h:=pR (rS s0) (pR (rS s1) (rS s2));h
theorem T5{w0:World}{L:List Ch}(x:qU){I0 I1 I2:List Nat}{a c1 b:List Value}(h:SH w0 w L)(c:PO w L I0 x.Bp a)(d:PO w L I1 x.Bj c1)(f:PO w L I2 x.Bg b)(b0:fu I0 (I1++I2)=An)(b1:fu I1 I2=An):PO w L (I0++(I1++I2)) x (a++(c1++b)):=
 (fH h c (fH h d f b1) b0)
structure bo where
 Bf:Int
 Bm:Int
 To:Int
 Br:Int
 Bq:(List qU)
 Ba:(List qU)
instance qbP:qm bo:=va (aU qV (aU qV (aU qV (aU qV (aU (@bD qU SE) (@bD qU SE)))))) (λx=>(x.Bf,x.Bm,x.To,x.Br,x.Bq,x.Ba)) ⟨0,0,0,0,[],[]⟩ Z An (λh=>by cases h)
abbrev kI(x:bo)(p0 p1:Option Addr)(k0 k1:Nat):List Value:=[vi x.Bf,vi x.Bm,vi x.To,vi x.Br,oS p0 (x.Bq).length k0,oS p1 (x.Ba).length k1]
theorem bd{x:bo}{cs:List Value}(h:qm.R w S x cs):∃c a p1 b,cs=(kI x c p1 a b)/\dG w S x.Bq c a/\dG w S x.Ba p1 b:=by
 obtain⟨_,_,rfl,rfl,⟨_,_,rfl,rfl,⟨_,_,rfl,rfl,⟨_,_,rfl,rfl,⟨_,_,rfl,⟨c,a,rfl,s0⟩,⟨p1,b,rfl,s1⟩⟩⟩⟩⟩⟩:=h;exact⟨c,a,p1,b,Z,s0,s1⟩
theorem uC(x:bo){c p1:Option Addr}{a b:Nat}(s0:dG w S x.Bq c a)(s1:dG w S x.Ba p1 b):qm.R w S x (kI x c p1 a b):=have h:=pR (rI x.Bf) (pR (rI x.Bm) (pR (rI x.To) (pR (rI x.Br) (pR (rS s0) (rS s1)))));h
theorem L6{w0:World}{L:List Ch}(x:bo){I0 I1 I2 I3 I4 I5:List Nat}{a c1 b c d f:List Value}(h:SH w0 w L)(i:PO w L I0 x.Bf a)(k:PO w L I1 x.Bm c1)(l:PO w L I2 x.To b)(m:PO w L I3 x.Br c)(n:PO w L I4 x.Bq d)(o:PO w L I5 x.Ba f)(b0:fu I0 (I1++(I2++(I3++(I4++I5))))=An)(b1:fu I1 (I2++(I3++(I4++I5)))=An)(b2:fu I2 (I3++(I4++I5))=An)(b3:fu I3 (I4++I5)=An)(g:fu I4 I5=An):PO w L (I0++(I1++(I2++(I3++(I4++I5))))) x (a++(c1++(b++(c++(d++f))))):=
 (fH h i (fH h k (fH h l (fH h m (fH h n o g) b3) b2) b1) b0)
structure qQ where
 Bi:ByteArray
 Bf:Int
 Bh:(List bp)
 Av:(List bo)
 Bu:(List Int)
 Cc:Int
 Bz:Int
instance qaj:qm qQ:=va (aU wX (aU qV (aU (@bD bp qbQ) (aU (@bD bo qbP) (aU (@bD Int qV) (aU qV qV)))))) (λx=>(x.Bi,x.Bf,x.Bh,x.Av,x.Bu,x.Cc,x.Bz)) ⟨ByteArray.empty,0,[],[],[],0,0⟩ Z An (λh=>by cases h)
abbrev qP(x:qQ)(p0 p1 p2:Option Addr)(k0 k1 k2:Nat):List Value:=[.string x.Bi,vi x.Bf,oS p0 (x.Bh).length k0,oS p1 (x.Av).length k1,oS p2 (x.Bu).length k2,vi x.Cc,vi x.Bz]
theorem aV{x:qQ}{cs:List Value}(h:qm.R w S x cs):∃d a p1 b f c,cs=(qP x d p1 f a b c)/\dG w S x.Bh d a/\dG w S x.Av p1 b/\dG w S x.Bu f c:=by
 obtain⟨_,_,rfl,rfl,⟨_,_,rfl,rfl,⟨_,_,rfl,⟨d,a,rfl,s0⟩,⟨_,_,rfl,⟨p1,b,rfl,s1⟩,⟨_,_,rfl,⟨f,c,rfl,s2⟩,⟨_,_,rfl,rfl,rfl⟩⟩⟩⟩⟩⟩:=h;exact⟨d,a,p1,b,f,c,Z,s0,s1,s2⟩
theorem SR(x:qQ){d p1 f:Option Addr}{a b c:Nat}(s0:dG w S x.Bh d a)(s1:dG w S x.Av p1 b)(s2:dG w S x.Bu f c):qm.R w S x (qP x d p1 f a b c):=have h:=pR (rT x.Bi) (pR (rI x.Bf) (pR (rS s0) (pR (rS s1) (pR (rS s2) (pR (rI x.Cc) (rI x.Bz))))));h
theorem PU{w0:World}{L:List Ch}(x:qQ){I0 I1 I2 I3 I4 I5 I6:List Nat}{a c1 b c d f g:List Value}(h:SH w0 w L)(l:PO w L I0 x.Bi a)(m:PO w L I1 x.Bf c1)(n:PO w L I2 x.Bh b)(o:PO w L I3 x.Av c)(p:PO w L I4 x.Bu d)(r:PO w L I5 x.Cc f)(s:PO w L I6 x.Bz g)(b0:fu I0 (I1++(I2++(I3++(I4++(I5++I6)))))=An)(b1:fu I1 (I2++(I3++(I4++(I5++I6))))=An)(b2:fu I2 (I3++(I4++(I5++I6)))=An)(b3:fu I3 (I4++(I5++I6))=An)(i:fu I4 (I5++I6)=An)(k:fu I5 I6=An):PO w L (I0++(I1++(I2++(I3++(I4++(I5++I6)))))) x (a++(c1++(b++(c++(d++(f++g)))))):=
 (fH h l (fH h m (fH h n (fH h o (fH h p (fH h r s k) i) b3) b2) b1) b0)
structure qD where
 As:(List qQ)
instance XM:qm qD:=va (@bD qQ qaj) (λx=>x.As) ⟨[]⟩ Z An (λh=>by cases h)
theorem gx{x:qD}{cs:List Value}(h:qm.R w S x cs):∃b a,cs=[oS b (x.As).length a]/\dG w S x.As b a:=by
 obtain⟨b,a,rfl,s0⟩:=h;exact⟨b,a,Z,s0⟩
theorem uD(x:qD){b:Option Addr}{a:Nat}(s0:dG w S x.As b a):qm.R w S x [oS b (x.As).length a]:=have h:=rS s0;h
theorem uG{x:qD}{b:Option Addr}{l0 a:Nat}(h:qm.R w S x [oS b l0 a]):(dG w S x.As b a/\l0=(x.As).length):=by
 obtain⟨_,_,c,s0⟩:=gx h;cases c;exact⟨s0,Z⟩
theorem YT{w0:World}{L:List Ch}(x:qD){I0:List Nat}{a:List Value}(_:SH w0 w L)(b:PO w L I0 x.As a):PO w L I0 x a:=
 b
structure qO where
 Bi:ByteArray
 Bv:Int
 Ap:(List Int)
instance UM:qm qO:=va (aU wX (aU qV (@bD Int qV))) (λx=>(x.Bi,x.Bv,x.Ap)) ⟨ByteArray.empty,0,[]⟩ Z An (λh=>by cases h)
abbrev vR(x:qO)(p0:Option Addr)(k0:Nat):List Value:=[.string x.Bi,vi x.Bv,oS p0 (x.Ap).length k0]
theorem bI{x:qO}{cs:List Value}(h:qm.R w S x cs):∃b a,cs=(vR x b a)/\dG w S x.Ap b a:=by
 obtain⟨_,_,rfl,rfl,⟨_,_,rfl,rfl,⟨b,a,rfl,s0⟩⟩⟩:=h;exact⟨b,a,Z,s0⟩
theorem GL(x:qO){b:Option Addr}{a:Nat}(s0:dG w S x.Ap b a):qm.R w S x (vR x b a):=have h:=pR (rT x.Bi) (pR (rI x.Bv) (rS s0));h
theorem NR{w0:World}{L:List Ch}{x:qO}{d:Option Addr}{l0 a:Nat}(h:SH w0 w (oW S x [.string x.Bi,vi x.Bv,oS d l0 a]::L)):∃f,SH w0 w (oW f x.Ap [oS d l0 a]::L):=by
 obtain⟨k,i⟩:=h.headV;replace i:qm.O w S x _:=i;obtain⟨_,_,_,_,l,g,i,_,b0⟩:=i;obtain rfl:=g;cases l;replace k:=k.less b0;obtain⟨_,B1,_,_,l,o1,i,_,b1⟩:=i;obtain rfl:=o1;cases l;replace k:=k.less b1;obtain⟨q,m,l,s0⟩:=i;cases l;replace k:=k.push (c:=oW B1 x.Ap [_]) (S2:=(λ_=>False)) ⟨_,_,Z,s0⟩ (λ_ o=>o.elim) (λb n=>⟨n,λh=>h⟩) (λ_ h=>h.elim);exact⟨B1,k.sh⟩
theorem IQ{w0:World}{L:List Ch}(x:qO){I0 I1 I2:List Nat}{a c1 b:List Value}(h:SH w0 w L)(c:PO w L I0 x.Bi a)(d:PO w L I1 x.Bv c1)(f:PO w L I2 x.Ap b)(b0:fu I0 (I1++I2)=An)(b1:fu I1 I2=An):PO w L (I0++(I1++I2)) x (a++(c1++b)):=
 (fH h c (fH h d f b1) b0)
structure bq where
 Bi:ByteArray
 Bx:Int
 Cb:Int
instance qak:qm bq:=va (aU wX (aU qV qV)) (λx=>(x.Bi,x.Bx,x.Cb)) ⟨ByteArray.empty,0,0⟩ Z An (λh=>by cases h)
instance qef:eQ bq:=sQ (aU wX (aU qV qV)) (λx:bq=>(x.Bi,x.Bx,x.Cb)) ⟨ByteArray.empty,0,0⟩ Z An (λh=>by cases h) (dg _ _ (inferInstanceAs (eQ ByteArray)) (dg _ _ (inferInstanceAs (eQ Int)) (inferInstanceAs (eQ Int))))
abbrev UF(x:bq):List Value:=[.string x.Bi,vi x.Bx,vi x.Cb]
theorem lZ{x:bq}{cs:List Value}(h:qm.R w S x cs):cs=(UF x):=by
 obtain⟨_,_,rfl,rfl,⟨_,_,rfl,rfl,rfl⟩⟩:=h;exact Z
theorem vt(x:bq):qm.R w S x (UF x):=have h:=pR (rT x.Bi) (pR (rI x.Bx) (rI x.Cb));h
structure qk where
 Ab:(List qO)
 Ap:(List ByteArray)
 Ai:(List bq)
instance C9:qm qk:=va (aU (@bD qO UM) (aU (@bD ByteArray wX) (@bD bq qak))) (λx=>(x.Ab,x.Ap,x.Ai)) ⟨[],[],[]⟩ Z An (λh=>by cases h)
abbrev bh(x:qk)(p0 p1 p2:Option Addr)(k0 k1 k2:Nat):List Value:=[oS p0 (x.Ab).length k0,oS p1 (x.Ap).length k1,oS p2 (x.Ai).length k2]
theorem cn{x:qk}{cs:List Value}(h:qm.R w S x cs):∃d a p1 b f c,cs=(bh x d p1 f a b c)/\dG w S x.Ab d a/\dG w S x.Ap p1 b/\dG w S x.Ai f c:=by
 obtain⟨_,_,rfl,⟨d,a,rfl,s0⟩,⟨_,_,rfl,⟨p1,b,rfl,s1⟩,⟨f,c,rfl,s2⟩⟩⟩:=h;exact⟨d,a,p1,b,f,c,Z,s0,s1,s2⟩
theorem cp(x:qk){d p1 f:Option Addr}{a b c:Nat}(s0:dG w S x.Ab d a)(s1:dG w S x.Ap p1 b)(s2:dG w S x.Ai f c):qm.R w S x (bh x d p1 f a b c):=have h:=pR (rS s0) (pR (rS s1) (rS s2));h
theorem hZ{x:qk}{d p1 f:Option Addr}{l0 a l1 b l2 c:Nat}(h:qm.R w S x [oS d l0 a,oS p1 l1 b,oS f l2 c]):(dG w S x.Ab d a/\l0=(x.Ab).length)/\(dG w S x.Ap p1 b/\l1=(x.Ap).length)/\(dG w S x.Ai f c/\l2=(x.Ai).length):=by
 obtain⟨_,_,_,_,_,_,g,s0,s1,s2⟩:=cn h;cases g;exact⟨⟨s0,Z⟩,⟨s1,Z⟩,⟨s2,Z⟩⟩
theorem RR{w0:World}{L:List Ch}{x:qk}{g p1 i:Option Addr}{l0 a l1 d l2 f:Nat}(h:SH w0 w (oW S x [oS g l0 a,oS p1 l1 d,oS i l2 f]::L)):∃k S1 S2,SH w0 w (oW S2 x.Ai [oS i l2 f]::oW S1 x.Ap [oS p1 l1 d]::oW k x.Ab [oS g l0 a]::L):=by
 obtain⟨o,n⟩:=h.headV;replace n:qm.O w S x _:=n;obtain⟨A0,B0,_,_,r,l,n,a0,b0⟩:=n;obtain⟨q,m,rfl,s0⟩:=l;cases r;replace o:=o.push (c:=oW A0 x.Ab [_]) (S2:=B0) ⟨_,_,Z,s0⟩ (λ_ p=>p.elim) a0 b0;obtain⟨A1,B1,_,_,r,o1,n,a1,b1⟩:=n;obtain⟨q,m,rfl,s1⟩:=o1;cases r;replace o:=o.push (c:=oW A1 x.Ap [_]) (S2:=B1) ⟨_,_,Z,s1⟩ (λ_ p=>p.elim) a1 b1;obtain⟨q,m,r,s2⟩:=n;cases r;replace o:=o.push (c:=oW B1 x.Ai [_]) (S2:=(λ_=>False)) ⟨_,_,Z,s2⟩ (λ_ p=>p.elim) (λb s=>⟨s,λh=>h⟩) (λ_ h=>h.elim);exact⟨A0,A1,B1,o.sh⟩
theorem PW{w0:World}{L:List Ch}(x:qk){I0 I1 I2:List Nat}{a c1 b:List Value}(h:SH w0 w L)(c:PO w L I0 x.Ab a)(d:PO w L I1 x.Ap c1)(f:PO w L I2 x.Ai b)(b0:fu I0 (I1++I2)=An)(b1:fu I1 I2=An):PO w L (I0++(I1++I2)) x (a++(c1++b)):=
 (fH h c (fH h d f b1) b0)
structure aR where
 Ak:(List Int)
 Bw:(List Int)
 Bs:(List Int)
 Bl:(List Int)
instance qal:qm aR:=va (aU (@bD Int qV) (aU (@bD Int qV) (aU (@bD Int qV) (@bD Int qV)))) (λx=>(x.Ak,x.Bw,x.Bs,x.Bl)) ⟨[],[],[],[]⟩ Z An (λh=>by cases h)
abbrev oD(x:aR)(p0 p1 p2 p3:Option Addr)(k0 k1 k2 k3:Nat):List Value:=[oS p0 (x.Ak).length k0,oS p1 (x.Bw).length k1,oS p2 (x.Bs).length k2,oS p3 (x.Bl).length k3]
theorem dM{x:aR}{cs:List Value}(h:qm.R w S x cs):∃d a p1 b f c g k3,cs=(oD x d p1 f g a b c k3)/\dG w S x.Ak d a/\dG w S x.Bw p1 b/\dG w S x.Bs f c/\dG w S x.Bl g k3:=by
 obtain⟨_,_,rfl,⟨d,a,rfl,s0⟩,⟨_,_,rfl,⟨p1,b,rfl,s1⟩,⟨_,_,rfl,⟨f,c,rfl,s2⟩,⟨g,k3,rfl,i⟩⟩⟩⟩:=h;exact⟨d,a,p1,b,f,c,g,k3,Z,s0,s1,s2,i⟩
theorem SS(x:aR){d p1 f g:Option Addr}{a b c k3:Nat}(s0:dG w S x.Ak d a)(s1:dG w S x.Bw p1 b)(s2:dG w S x.Bs f c)(i:dG w S x.Bl g k3):qm.R w S x (oD x d p1 f g a b c k3):=have h:=pR (rS s0) (pR (rS s1) (pR (rS s2) (rS i)));h
theorem wu{w0:World}{L:List Ch}{x:aR}{i p1 k l:Option Addr}{l0 a l1 d l2 f g k3:Nat}(h:SH w0 w (oW S x [oS i l0 a,oS p1 l1 d,oS k l2 f,oS l g k3]::L)):∃n S1 S2 o,SH w0 w (oW o x.Bl [oS l g k3]::oW S2 x.Bs [oS k l2 f]::oW S1 x.Bw [oS p1 l1 d]::oW n x.Ak [oS i l0 a]::L):=by
 obtain⟨t,s⟩:=h.headV;replace s:qm.O w S x _:=s;obtain⟨A0,B0,_,_,v,p,s,a0,b0⟩:=s;obtain⟨q,m,rfl,s0⟩:=p;cases v;replace t:=t.push (c:=oW A0 x.Ak [_]) (S2:=B0) ⟨_,_,Z,s0⟩ (λ_ u=>u.elim) a0 b0;obtain⟨A1,B1,_,_,v,o1,s,a1,b1⟩:=s;obtain⟨q,m,rfl,s1⟩:=o1;cases v;replace t:=t.push (c:=oW A1 x.Bw [_]) (S2:=B1) ⟨_,_,Z,s1⟩ (λ_ u=>u.elim) a1 b1;obtain⟨A2,B2,_,_,v,o2,s,a2,b2⟩:=s;obtain⟨q,m,rfl,s2⟩:=o2;cases v;replace t:=t.push (c:=oW A2 x.Bs [_]) (S2:=B2) ⟨_,_,Z,s2⟩ (λ_ u=>u.elim) a2 b2;obtain⟨q,m,v,r⟩:=s;cases v;replace t:=t.push (c:=oW B2 x.Bl [_]) (S2:=(λ_=>False)) ⟨_,_,Z,r⟩ (λ_ u=>u.elim) (λb y=>⟨y,λh=>h⟩) (λ_ h=>h.elim);exact⟨A0,A1,A2,B2,t.sh⟩
theorem zI{w0:World}{L:List Ch}(x:aR){I0 I1 I2 I3:List Nat}{a c1 b c:List Value}(h:SH w0 w L)(d:PO w L I0 x.Ak a)(f:PO w L I1 x.Bw c1)(g:PO w L I2 x.Bs b)(i:PO w L I3 x.Bl c)(b0:fu I0 (I1++(I2++I3))=An)(b1:fu I1 (I2++I3)=An)(b2:fu I2 I3=An):PO w L (I0++(I1++(I2++I3))) x (a++(c1++(b++c))):=
 (fH h d (fH h f (fH h g i b2) b1) b0)
structure qf where
 Aq:qD
 Aa:qk
 Ah:(List aR)
instance SD:qm qf:=va (aU XM (aU C9 (@bD aR qal))) (λx=>(x.Aq,x.Aa,x.Ah)) ⟨(⟨[]⟩:qD),(⟨[],[],[]⟩:qk),[]⟩ Z An (λh=>by cases h)
abbrev qL(x:qf)(p0 p1 p2 p3 p4:Option Addr)(k0 k1 k2 k3 k4:Nat):List Value:=[oS p0 (x.Aq.As).length k0,oS p1 (x.Aa.Ab).length k1,oS p2 (x.Aa.Ap).length k2,oS p3 (x.Aa.Ai).length k3,oS p4 (x.Ah).length k4]
theorem qZ{x:qf}{cs:List Value}(h:qm.R w S x cs):∃f a p1 b g c i k3 k d,cs=(qL x f p1 g i k a b c k3 d)/\dG w S x.Aq.As f a/\dG w S x.Aa.Ab p1 b/\dG w S x.Aa.Ap g c/\dG w S x.Aa.Ai i k3/\dG w S x.Ah k d:=by
 obtain⟨_,_,rfl,⟨f,a,rfl,s0⟩,⟨_,_,rfl,⟨_,_,rfl,⟨p1,b,rfl,s1⟩,⟨_,_,rfl,⟨g,c,rfl,s2⟩,⟨i,k3,rfl,l⟩⟩⟩,⟨k,d,rfl,m⟩⟩⟩:=h;exact⟨f,a,p1,b,g,c,i,k3,k,d,Z,s0,s1,s2,l,m⟩
theorem tK(x:qf){f p1 g i k:Option Addr}{a b c k3 d:Nat}(s0:dG w S x.Aq.As f a)(s1:dG w S x.Aa.Ab p1 b)(s2:dG w S x.Aa.Ap g c)(l:dG w S x.Aa.Ai i k3)(m:dG w S x.Ah k d):qm.R w S x (qL x f p1 g i k a b c k3 d):=have h:=pR (uD x.Aq s0) (pR (cp x.Aa s1 s2 l) (rS m));h
theorem fT{x:qf}{i p1 k l m:Option Addr}{l0 a l1 b l2 c f k3 g d:Nat}(h:qm.R w S x [oS i l0 a,oS p1 l1 b,oS k l2 c,oS l f k3,oS m g d]):(dG w S x.Aq.As i a/\l0=(x.Aq.As).length)/\(dG w S x.Aa.Ab p1 b/\l1=(x.Aa.Ab).length)/\(dG w S x.Aa.Ap k c/\l2=(x.Aa.Ap).length)/\(dG w S x.Aa.Ai l k3/\f=(x.Aa.Ai).length)/\(dG w S x.Ah m d/\g=(x.Ah).length):=by
 obtain⟨_,_,_,_,_,_,_,_,_,_,p,s0,s1,s2,n,o⟩:=qZ h;cases p;exact⟨⟨s0,Z⟩,⟨s1,Z⟩,⟨s2,Z⟩,⟨n,Z⟩,⟨o,Z⟩⟩
theorem tf{w0:World}{L:List Ch}{x:qf}{o p1 k l m:Option Addr}{l0 n l1 a l2 d g k3 i f:Nat}(h:SH w0 w (oW S x [oS o l0 n,oS p1 l1 a,oS k l2 d,oS l g k3,oS m i f]::L)):∃z S1 S2,SH w0 w (oW S2 x.Ah [oS m i f]::oW S1 x.Aa [oS p1 l1 a,oS k l2 d,oS l g k3]::oW z x.Aq [oS o l0 n]::L):=by
 obtain⟨B,A⟩:=h.headV;replace A:qm.O w S x _:=A;obtain⟨A0,B0,p,e0,s,y,A,a0,b0⟩:=A;have u:p.length=1:=qm.len (qm.toR y);obtain⟨rfl,rfl⟩:p=[oS o l0 n]/\e0=[oS p1 l1 a,oS k l2 d,oS l g k3,oS m i f]:=by
  have:=List.append_inj (show[oS o l0 n]++[oS p1 l1 a,oS k l2 d,oS l g k3,oS m i f]=p++e0 from s) (by rw[u];rfl);exact⟨this.1.symm,this.2.symm⟩
 replace B:=B.push (c:=oW A0 x.Aq [oS o l0 n]) (S2:=B0) y (λ_ C=>C.elim) a0 b0;obtain⟨A1,B1,r,e1,t,o1,A,a1,b1⟩:=A;have v:r.length=3:=qm.len (qm.toR o1);obtain⟨rfl,rfl⟩:r=[oS p1 l1 a,oS k l2 d,oS l g k3]/\e1=[oS m i f]:=by
  have:=List.append_inj (show[oS p1 l1 a,oS k l2 d,oS l g k3]++[oS m i f]=r++e1 from t) (by rw[v];rfl);exact⟨this.1.symm,this.2.symm⟩
 replace B:=B.push (c:=oW A1 x.Aa [oS p1 l1 a,oS k l2 d,oS l g k3]) (S2:=B1) o1 (λ_ C=>C.elim) a1 b1;replace B:=B.push (c:=oW B1 x.Ah [oS m i f]) (S2:=(λ_=>False)) A (λ_ C=>C.elim) (λb D=>⟨D,λh=>h⟩) (λ_ h=>h.elim);exact⟨A0,A1,B1,B.sh⟩
theorem T4{w0:World}{L:List Ch}(x:qf){I0 I1 I2:List Nat}{a c1 b:List Value}(h:SH w0 w L)(c:PO w L I0 x.Aq a)(d:PO w L I1 x.Aa c1)(f:PO w L I2 x.Ah b)(b0:fu I0 (I1++I2)=An)(b1:fu I1 I2=An):PO w L (I0++(I1++I2)) x (a++(c1++b)):=
 (fH h c (fH h d f b1) b0)
structure qH where
 Bi:ByteArray
 Bb:Int
 Be:Int
 Az:Int
 Bd:Int
instance C8:qm qH:=va (aU wX (aU qV (aU qV (aU qV qV)))) (λx=>(x.Bi,x.Bb,x.Be,x.Az,x.Bd)) ⟨ByteArray.empty,0,0,0,0⟩ Z An (λh=>by cases h)
instance qdm:eQ qH:=sQ (aU wX (aU qV (aU qV (aU qV qV)))) (λx:qH=>(x.Bi,x.Bb,x.Be,x.Az,x.Bd)) ⟨ByteArray.empty,0,0,0,0⟩ Z An (λh=>by cases h) (dg _ _ (inferInstanceAs (eQ ByteArray)) (dg _ _ (inferInstanceAs (eQ Int)) (dg _ _ (inferInstanceAs (eQ Int)) (dg _ _ (inferInstanceAs (eQ Int)) (inferInstanceAs (eQ Int))))))
abbrev ch(x:qH):List Value:=[.string x.Bi,vi x.Bb,vi x.Be,vi x.Az,vi x.Bd]
theorem dL{x:qH}{cs:List Value}(h:qm.R w S x cs):cs=(ch x):=by
 obtain⟨_,_,rfl,rfl,⟨_,_,rfl,rfl,⟨_,_,rfl,rfl,⟨_,_,rfl,rfl,rfl⟩⟩⟩⟩:=h;exact Z
theorem nk(x:qH):qm.R w S x (ch x):=have h:=pR (rT x.Bi) (pR (rI x.Bb) (pR (rI x.Be) (pR (rI x.Az) (rI x.Bd))));h
structure qg where
 Ar:Int
 Bc:Int
instance zn:qm qg:=va (aU qV qV) (λx=>(x.Ar,x.Bc)) ⟨0,0⟩ Z An (λh=>by cases h)
instance qeg:eQ qg:=sQ (aU qV qV) (λx:qg=>(x.Ar,x.Bc)) ⟨0,0⟩ Z An (λh=>by cases h) (dg _ _ (inferInstanceAs (eQ Int)) (inferInstanceAs (eQ Int)))
abbrev pE(x:qg):List Value:=[vi x.Ar,vi x.Bc]
theorem qC{x:qg}{cs:List Value}(h:qm.R w S x cs):cs=(pE x):=by
 obtain⟨_,_,rfl,rfl,rfl⟩:=h;exact Z
theorem qI(x:qg):qm.R w S x (pE x):=have h:=pR (rI x.Ar) (rI x.Bc);h
structure ql where
 Bo:Int
 Af:qg
 Ba:qg
instance D2:qm ql:=va (aU qV (aU zn zn)) (λx=>(x.Bo,x.Af,x.Ba)) ⟨0,(⟨0,0⟩:qg),(⟨0,0⟩:qg)⟩ Z An (λh=>by cases h)
instance qdn:eQ ql:=sQ (aU qV (aU zn zn)) (λx:ql=>(x.Bo,x.Af,x.Ba)) ⟨0,(⟨0,0⟩:qg),(⟨0,0⟩:qg)⟩ Z An (λh=>by cases h) (dg _ _ (inferInstanceAs (eQ Int)) (dg _ _ (inferInstanceAs (eQ qg)) (inferInstanceAs (eQ qg))))
abbrev nU(x:ql):List Value:=[vi x.Bo,vi x.Af.Ar,vi x.Af.Bc,vi x.Ba.Ar,vi x.Ba.Bc]
theorem au{x:ql}{cs:List Value}(h:qm.R w S x cs):cs=(nU x):=by
 obtain⟨_,_,rfl,rfl,⟨_,_,rfl,⟨_,_,rfl,rfl,rfl⟩,⟨_,_,rfl,rfl,rfl⟩⟩⟩:=h;exact Z
theorem dE(x:ql):qm.R w S x (nU x):=have h:=pR (rI x.Bo) (pR (qI x.Af) (qI x.Ba));h
structure aZ where
 Ac:qf
 Aj:qH
 Ay:(List Int)
 Am:(List ql)
instance I9:qm aZ:=va (aU SD (aU C8 (aU (@bD Int qV) (@bD ql D2)))) (λx=>(x.Ac,x.Aj,x.Ay,x.Am)) ⟨(⟨(⟨[]⟩:qD),(⟨[],[],[]⟩:qk),[]⟩:qf),(⟨ByteArray.empty,0,0,0,0⟩:qH),[],[]⟩ Z An (λh=>by cases h)
abbrev iy(x:aZ)(p0 p1 p2 p3 p4 p5 p6:Option Addr)(k0 k1 k2 k3 k4 k5 k6:Nat):List Value:=[oS p0 (x.Ac.Aq.As).length k0,oS p1 (x.Ac.Aa.Ab).length k1,oS p2 (x.Ac.Aa.Ap).length k2,oS p3 (x.Ac.Aa.Ai).length k3,oS p4 (x.Ac.Ah).length k4,.string x.Aj.Bi,vi x.Aj.Bb,vi x.Aj.Be,vi x.Aj.Az,vi x.Aj.Bd,oS p5 (x.Ay).length k5,oS p6 (x.Am).length k6]
theorem cF{x:aZ}{cs:List Value}(h:qm.R w S x cs):∃i a p1 b k c l k3 m d n f o g,cs=(iy x i p1 k l m n o a b c k3 d f g)/\dG w S x.Ac.Aq.As i a/\dG w S x.Ac.Aa.Ab p1 b/\dG w S x.Ac.Aa.Ap k c/\dG w S x.Ac.Aa.Ai l k3/\dG w S x.Ac.Ah m d/\dG w S x.Ay n f/\dG w S x.Am o g:=by
 obtain⟨_,_,rfl,⟨_,_,rfl,⟨i,a,rfl,s0⟩,⟨_,_,rfl,⟨_,_,rfl,⟨p1,b,rfl,s1⟩,⟨_,_,rfl,⟨k,c,rfl,s2⟩,⟨l,k3,rfl,p⟩⟩⟩,⟨m,d,rfl,r⟩⟩⟩,⟨_,_,rfl,⟨_,_,rfl,rfl,⟨_,_,rfl,rfl,⟨_,_,rfl,rfl,⟨_,_,rfl,rfl,rfl⟩⟩⟩⟩,⟨_,_,rfl,⟨n,f,rfl,s⟩,⟨o,g,rfl,t⟩⟩⟩⟩:=h;exact⟨i,a,p1,b,k,c,l,k3,m,d,n,f,o,g,Z,s0,s1,s2,p,r,s,t⟩
theorem mb{x:aZ}{m p1 n o p r s:Option Addr}{l0 a l1 b l2 c i k3 k d l5 f l g:Nat}(h:qm.R w S x [oS m l0 a,oS p1 l1 b,oS n l2 c,oS o i k3,oS p k d,.string x.Aj.Bi,vi x.Aj.Bb,vi x.Aj.Be,vi x.Aj.Az,vi x.Aj.Bd,oS r l5 f,oS s l g]):(dG w S x.Ac.Aq.As m a/\l0=(x.Ac.Aq.As).length)/\(dG w S x.Ac.Aa.Ab p1 b/\l1=(x.Ac.Aa.Ab).length)/\(dG w S x.Ac.Aa.Ap n c/\l2=(x.Ac.Aa.Ap).length)/\(dG w S x.Ac.Aa.Ai o k3/\i=(x.Ac.Aa.Ai).length)/\(dG w S x.Ac.Ah p d/\k=(x.Ac.Ah).length)/\(dG w S x.Ay r f/\l5=(x.Ay).length)/\(dG w S x.Am s g/\l=(x.Am).length):=by
 obtain⟨_,_,_,_,_,_,_,_,_,_,_,_,_,_,z,s0,s1,s2,t,u,v,y⟩:=cF h;cases z;exact⟨⟨s0,Z⟩,⟨s1,Z⟩,⟨s2,Z⟩,⟨t,Z⟩,⟨u,Z⟩,⟨v,Z⟩,⟨y,Z⟩⟩
structure qw where
 Bn:Int
 Bk:(List Int)
 Af:Int
instance qeh:qm qw:=va (aU qV (aU (@bD Int qV) qV)) (λx=>(x.Bn,x.Bk,x.Af)) ⟨0,[],0⟩ Z An (λh=>by cases h)
abbrev wL(x:qw)(p0:Option Addr)(k0:Nat):List Value:=[vi x.Bn,oS p0 (x.Bk).length k0,vi x.Af]
theorem eX{x:qw}{cs:List Value}(h:qm.R w S x cs):∃b a,cs=(wL x b a)/\dG w S x.Bk b a:=by
 obtain⟨_,_,rfl,rfl,⟨_,_,rfl,⟨b,a,rfl,s0⟩,rfl⟩⟩:=h;exact⟨b,a,Z,s0⟩
theorem vr(x:qw){b:Option Addr}{a:Nat}(s0:dG w S x.Bk b a):qm.R w S x (wL x b a):=have h:=pR (rI x.Bn) (pR (rS s0) (rI x.Af));h
theorem vv{x:qw}{b:Option Addr}{l0 a:Nat}(h:qm.R w S x [vi x.Bn,oS b l0 a,vi x.Af]):(dG w S x.Bk b a/\l0=(x.Bk).length):=by
 obtain⟨_,_,c,s0⟩:=eX h;cases c;exact⟨s0,Z⟩
theorem EM{w0:World}{L:List Ch}{x:qw}{b:Option Addr}{l0 a:Nat}(h:SH w0 w (oW S x [vi x.Bn,oS b l0 a,vi x.Af]::L)):∃d,SH w0 w (oW d x.Bk [oS b l0 a]::L):=by
 obtain⟨i,g⟩:=h.headV;replace g:qm.O w S x _:=g;obtain⟨_,_,_,_,k,f,g,_,b0⟩:=g;obtain rfl:=f;cases k;replace i:=i.less b0;obtain⟨A1,B1,_,_,k,o1,g,a1,b1⟩:=g;obtain⟨q,m,rfl,s0⟩:=o1;cases k;replace i:=i.push (c:=oW A1 x.Bk [_]) (S2:=B1) ⟨_,_,Z,s0⟩ (λ_ l=>l.elim) a1 b1;exact⟨A1,i.sh⟩
theorem xQ{w0:World}{L:List Ch}(x:qw){I0 I1 I2:List Nat}{a c1 b:List Value}(h:SH w0 w L)(c:PO w L I0 x.Bn a)(d:PO w L I1 x.Bk c1)(f:PO w L I2 x.Af b)(b0:fu I0 (I1++I2)=An)(b1:fu I1 I2=An):PO w L (I0++(I1++I2)) x (a++(c1++b)):=
 (fH h c (fH h d f b1) b0)
structure qu where
 Au:(List Bool)
 Af:(List qg)
 Ba:(List qg)
instance OW:qm qu:=va (aU (@bD Bool uA) (aU (@bD qg zn) (@bD qg zn))) (λx=>(x.Au,x.Af,x.Ba)) ⟨[],[],[]⟩ Z An (λh=>by cases h)
abbrev eJ(x:qu)(p0 p1 p2:Option Addr)(k0 k1 k2:Nat):List Value:=[oS p0 (x.Au).length k0,oS p1 (x.Af).length k1,oS p2 (x.Ba).length k2]
theorem gD{x:qu}{cs:List Value}(h:qm.R w S x cs):∃d a p1 b f c,cs=(eJ x d p1 f a b c)/\dG w S x.Au d a/\dG w S x.Af p1 b/\dG w S x.Ba f c:=by
 obtain⟨_,_,rfl,⟨d,a,rfl,s0⟩,⟨_,_,rfl,⟨p1,b,rfl,s1⟩,⟨f,c,rfl,s2⟩⟩⟩:=h;exact⟨d,a,p1,b,f,c,Z,s0,s1,s2⟩
theorem YD(x:qu){d p1 f:Option Addr}{a b c:Nat}(s0:dG w S x.Au d a)(s1:dG w S x.Af p1 b)(s2:dG w S x.Ba f c):qm.R w S x (eJ x d p1 f a b c):=have h:=pR (rS s0) (pR (rS s1) (rS s2));h
theorem pA{w0:World}{L:List Ch}{x:qu}{g p1 i:Option Addr}{l0 a l1 d l2 f:Nat}(h:SH w0 w (oW S x [oS g l0 a,oS p1 l1 d,oS i l2 f]::L)):∃k S1 S2,SH w0 w (oW S2 x.Ba [oS i l2 f]::oW S1 x.Af [oS p1 l1 d]::oW k x.Au [oS g l0 a]::L):=by
 obtain⟨o,n⟩:=h.headV;replace n:qm.O w S x _:=n;obtain⟨A0,B0,_,_,r,l,n,a0,b0⟩:=n;obtain⟨q,m,rfl,s0⟩:=l;cases r;replace o:=o.push (c:=oW A0 x.Au [_]) (S2:=B0) ⟨_,_,Z,s0⟩ (λ_ p=>p.elim) a0 b0;obtain⟨A1,B1,_,_,r,o1,n,a1,b1⟩:=n;obtain⟨q,m,rfl,s1⟩:=o1;cases r;replace o:=o.push (c:=oW A1 x.Af [_]) (S2:=B1) ⟨_,_,Z,s1⟩ (λ_ p=>p.elim) a1 b1;obtain⟨q,m,r,s2⟩:=n;cases r;replace o:=o.push (c:=oW B1 x.Ba [_]) (S2:=(λ_=>False)) ⟨_,_,Z,s2⟩ (λ_ p=>p.elim) (λb s=>⟨s,λh=>h⟩) (λ_ h=>h.elim);exact⟨A0,A1,B1,o.sh⟩
theorem oN{w0:World}{L:List Ch}(x:qu){I0 I1 I2:List Nat}{a c1 b:List Value}(h:SH w0 w L)(c:PO w L I0 x.Au a)(d:PO w L I1 x.Af c1)(f:PO w L I2 x.Ba b)(b0:fu I0 (I1++I2)=An)(b1:fu I1 I2=An):PO w L (I0++(I1++I2)) x (a++(c1++b)):=
 (fH h c (fH h d f b1) b0)
structure qb where
 code:(List (gW .u8))
 at_:Int
 seed:Int
instance qbp:qm qb:=va (aU (@bD (gW .u8) (@HX .u8)) (aU qV qV)) (λx=>(x.code,x.at_,x.seed)) ⟨[],0,0⟩ Z An (λh=>by cases h)
abbrev aq(x:qb)(p0:Option Addr)(k0:Nat):List Value:=[oS p0 (x.code).length k0,vi x.at_,vi x.seed]
theorem NJ{x:qb}{cs:List Value}(h:qm.R w S x cs):∃b a,cs=(aq x b a)/\dG w S x.code b a:=by
 obtain⟨_,_,rfl,⟨b,a,rfl,s0⟩,⟨_,_,rfl,rfl,rfl⟩⟩:=h;exact⟨b,a,Z,s0⟩
theorem DQ(x:qb){b:Option Addr}{a:Nat}(s0:dG w S x.code b a):qm.R w S x (aq x b a):=have h:=pR (rS s0) (pR (rI x.at_) (rI x.seed));h
theorem qF{x:qb}{b:Option Addr}{l0 a:Nat}(h:qm.R w S x [oS b l0 a,vi x.at_,vi x.seed]):(dG w S x.code b a/\l0=(x.code).length):=by
 obtain⟨_,_,c,s0⟩:=NJ h;cases c;exact⟨s0,Z⟩
structure aY where
 instance_:Int
 pin:Int
 net:Int
 drives:Bool
instance P6:qm aY:=va (aU qV (aU qV (aU qV uA))) (λx=>(x.instance_,x.pin,x.net,x.drives)) ⟨0,0,0,Cd⟩ Z An (λh=>by cases h)
instance qd4:eQ aY:=sQ (aU qV (aU qV (aU qV uA))) (λx:aY=>(x.instance_,x.pin,x.net,x.drives)) ⟨0,0,0,Cd⟩ Z An (λh=>by cases h) (dg _ _ (inferInstanceAs (eQ Int)) (dg _ _ (inferInstanceAs (eQ Int)) (dg _ _ (inferInstanceAs (eQ Int)) (inferInstanceAs (eQ Bool)))))
abbrev ON(x:aY):List Value:=[vi x.instance_,vi x.pin,vi x.net,.bool x.drives]
theorem ro{x:aY}{cs:List Value}(h:qm.R w S x cs):cs=(ON x):=by
 obtain⟨_,_,rfl,rfl,⟨_,_,rfl,rfl,⟨_,_,rfl,rfl,rfl⟩⟩⟩:=h;exact Z
theorem AZ(x:aY):qm.R w S x (ON x):=have h:=pR (rI x.instance_) (pR (rI x.pin) (pR (rI x.net) (rB x.drives)));h
structure qx where
 Bm:Int
 To:Int
 Bf:Int
 Ca:Int
instance XN:qm qx:=va (aU qV (aU qV (aU qV qV))) (λx=>(x.Bm,x.To,x.Bf,x.Ca)) ⟨0,0,0,0⟩ Z An (λh=>by cases h)
instance qee:eQ qx:=sQ (aU qV (aU qV (aU qV qV))) (λx:qx=>(x.Bm,x.To,x.Bf,x.Ca)) ⟨0,0,0,0⟩ Z An (λh=>by cases h) (dg _ _ (inferInstanceAs (eQ Int)) (dg _ _ (inferInstanceAs (eQ Int)) (dg _ _ (inferInstanceAs (eQ Int)) (inferInstanceAs (eQ Int)))))
abbrev wK(x:qx):List Value:=[vi x.Bm,vi x.To,vi x.Bf,vi x.Ca]
theorem aB{x:qx}{cs:List Value}(h:qm.R w S x cs):cs=(wK x):=by
 obtain⟨_,_,rfl,rfl,⟨_,_,rfl,rfl,⟨_,_,rfl,rfl,rfl⟩⟩⟩:=h;exact Z
theorem ga(x:qx):qm.R w S x (wK x):=have h:=pR (rI x.Bm) (pR (rI x.To) (pR (rI x.Bf) (rI x.Ca)));h
structure cU where
 Ac:qf
 places:(List aY)
 links:(List qx)
 loads:(List Int)
 delays:(List (List Int))
 extras:(List Int)
instance qam:qm cU:=va (aU SD (aU (@bD aY P6) (aU (@bD qx XN) (aU (@bD Int qV) (aU (@bD (List Int) (@bD Int qV)) (@bD Int qV)))))) (λx=>(x.Ac,x.places,x.links,x.loads,x.delays,x.extras)) ⟨(⟨(⟨[]⟩:qD),(⟨[],[],[]⟩:qk),[]⟩:qf),[],[],[],[],[]⟩ Z An (λh=>by cases h)
abbrev qbD(x:cU)(p0 p1 p2 p3 p4 p5 p6 p7 p8 p9:Option Addr)(k0 k1 k2 k3 k4 k5 k6 k7 k8 k9:Nat):List Value:=[oS p0 (x.Ac.Aq.As).length k0,oS p1 (x.Ac.Aa.Ab).length k1,oS p2 (x.Ac.Aa.Ap).length k2,oS p3 (x.Ac.Aa.Ai).length k3,oS p4 (x.Ac.Ah).length k4,oS p5 (x.places).length k5,oS p6 (x.links).length k6,oS p7 (x.loads).length k7,oS p8 (x.delays).length k8,oS p9 (x.extras).length k9]
theorem cS{x:cU}{cs:List Value}(h:qm.R w S x cs):∃m a p1 b n c o k3 p d r f s g t i u k v l,cs=(qbD x m p1 n o p r s t u v a b c k3 d f g i k l)/\dG w S x.Ac.Aq.As m a/\dG w S x.Ac.Aa.Ab p1 b/\dG w S x.Ac.Aa.Ap n c/\dG w S x.Ac.Aa.Ai o k3/\dG w S x.Ac.Ah p d/\dG w S x.places r f/\dG w S x.links s g/\dG w S x.loads t i/\dG w S x.delays u k/\dG w S x.extras v l:=by
 obtain⟨_,_,rfl,⟨_,_,rfl,⟨m,a,rfl,s0⟩,⟨_,_,rfl,⟨_,_,rfl,⟨p1,b,rfl,s1⟩,⟨_,_,rfl,⟨n,c,rfl,s2⟩,⟨o,k3,rfl,y⟩⟩⟩,⟨p,d,rfl,z⟩⟩⟩,⟨_,_,rfl,⟨r,f,rfl,A⟩,⟨_,_,rfl,⟨s,g,rfl,B⟩,⟨_,_,rfl,⟨t,i,rfl,C⟩,⟨_,_,rfl,⟨u,k,rfl,D⟩,⟨v,l,rfl,F⟩⟩⟩⟩⟩⟩:=h;exact⟨m,a,p1,b,n,c,o,k3,p,d,r,f,s,g,t,i,u,k,v,l,Z,s0,s1,s2,y,z,A,B,C,D,F⟩
structure aX where
 view:(Option cU)
 live:(List Bool)
instance P5:qm aX:=va (aU (@K6 cU qam) (@bD Bool uA)) (λx=>(x.view,x.live)) ⟨U,[]⟩ Z An (λh=>by cases h)
abbrev Z0(x:aX)(p0 p1:Option Addr)(k1:Nat):List Value:=[.pointer p0,oS p1 (x.live).length k1]
theorem eY{x:aX}{cs:List Value}(h:qm.R w S x cs):∃b p1 a,cs=(Z0 x b p1 a)/\mt w S x.view b/\dG w S x.live p1 a:=by
 obtain⟨_,_,rfl,c,⟨p1,a,rfl,s1⟩⟩:=h;obtain⟨b,rfl,s0⟩:=aJ c;exact⟨b,p1,a,Z,s0,s1⟩
structure aS where
 graph:(Option aX)
 job:aZ
 timing:qu
 order:(List Int)
instance qei:qm aS:=va (aU (@K6 aX P5) (aU I9 (aU OW (@bD Int qV)))) (λx=>(x.graph,x.job,x.timing,x.order)) ⟨U,(⟨(⟨(⟨[]⟩:qD),(⟨[],[],[]⟩:qk),[]⟩:qf),(⟨ByteArray.empty,0,0,0,0⟩:qH),[],[]⟩:aZ),(⟨[],[],[]⟩:qu),[]⟩ Z An (λh=>by cases h)
abbrev qbE(x:aS)(p0 p1 p2 p3 p4 p5 p6 p7 p8 p9 p10 p11:Option Addr)(k1 k2 k3 k4 k5 k6 k7 k8 k9 k10 k11:Nat):List Value:=[.pointer p0,oS p1 (x.job.Ac.Aq.As).length k1,oS p2 (x.job.Ac.Aa.Ab).length k2,oS p3 (x.job.Ac.Aa.Ap).length k3,oS p4 (x.job.Ac.Aa.Ai).length k4,oS p5 (x.job.Ac.Ah).length k5,.string x.job.Aj.Bi,vi x.job.Aj.Bb,vi x.job.Aj.Be,vi x.job.Aj.Az,vi x.job.Aj.Bd,oS p6 (x.job.Ay).length k6,oS p7 (x.job.Am).length k7,oS p8 (x.timing.Au).length k8,oS p9 (x.timing.Af).length k9,oS p10 (x.timing.Ba).length k10,oS p11 (x.order).length k11]
theorem oM{x:aS}{cs:List Value}(h:qm.R w S x cs):∃p p1 f r g s k3 t i u k v l y m z n A o c a d b,cs=(qbE x p p1 r s t u v y z A c d f g k3 i k l m n o a b)/\mt w S x.graph p/\dG w S x.job.Ac.Aq.As p1 f/\dG w S x.job.Ac.Aa.Ab r g/\dG w S x.job.Ac.Aa.Ap s k3/\dG w S x.job.Ac.Aa.Ai t i/\dG w S x.job.Ac.Ah u k/\dG w S x.job.Ay v l/\dG w S x.job.Am y m/\dG w S x.timing.Au z n/\dG w S x.timing.Af A o/\dG w S x.timing.Ba c a/\dG w S x.order d b:=by
 obtain⟨_,_,rfl,M,⟨_,_,rfl,⟨_,_,rfl,⟨_,_,rfl,⟨p1,f,rfl,s1⟩,⟨_,_,rfl,⟨_,_,rfl,⟨r,g,rfl,s2⟩,⟨_,_,rfl,⟨s,k3,rfl,D⟩,⟨t,i,rfl,F⟩⟩⟩,⟨u,k,rfl,H⟩⟩⟩,⟨_,_,rfl,⟨_,_,rfl,rfl,⟨_,_,rfl,rfl,⟨_,_,rfl,rfl,⟨_,_,rfl,rfl,rfl⟩⟩⟩⟩,⟨_,_,rfl,⟨v,l,rfl,I⟩,⟨y,m,rfl,J⟩⟩⟩⟩,⟨_,_,rfl,⟨_,_,rfl,⟨z,n,rfl,K⟩,⟨_,_,rfl,⟨A,o,rfl,L⟩,⟨c,a,rfl,B⟩⟩⟩,⟨d,b,rfl,C⟩⟩⟩⟩:=h;obtain⟨p,rfl,s0⟩:=aJ M;exact⟨p,p1,f,r,g,s,k3,t,i,u,k,v,l,y,m,z,n,A,o,c,a,d,b,Z,s0,s1,s2,D,F,H,I,J,K,L,B,C⟩
structure qT where
 j:aZ
 links:(List qx)
 live:(List Bool)
 t:qu
instance qcW:qm qT:=va (aU I9 (aU (@bD qx XN) (aU (@bD Bool uA) OW))) (λx=>(x.j,x.links,x.live,x.t)) ⟨(⟨(⟨(⟨[]⟩:qD),(⟨[],[],[]⟩:qk),[]⟩:qf),(⟨ByteArray.empty,0,0,0,0⟩:qH),[],[]⟩:aZ),[],[],(⟨[],[],[]⟩:qu)⟩ Z An (λh=>by cases h)
abbrev B5(x:qT)(p0 p1 p2 p3 p4 p5 p6 p7 p8 p9 p10 p11:Option Addr)(k0 k1 k2 k3 k4 k5 k6 k7 k8 k9 k10 k11:Nat):List Value:=[oS p0 (x.j.Ac.Aq.As).length k0,oS p1 (x.j.Ac.Aa.Ab).length k1,oS p2 (x.j.Ac.Aa.Ap).length k2,oS p3 (x.j.Ac.Aa.Ai).length k3,oS p4 (x.j.Ac.Ah).length k4,.string x.j.Aj.Bi,vi x.j.Aj.Bb,vi x.j.Aj.Be,vi x.j.Aj.Az,vi x.j.Aj.Bd,oS p5 (x.j.Ay).length k5,oS p6 (x.j.Am).length k6,oS p7 (x.links).length k7,oS p8 (x.live).length k8,oS p9 (x.t.Au).length k9,oS p10 (x.t.Af).length k10,oS p11 (x.t.Ba).length k11]
theorem GM{x:qT}{cs:List Value}(h:qm.R w S x cs):∃r f p1 g s i t k3 u k v l y m z n A o B p c a d b,cs=(B5 x r p1 s t u v y z A B c d f g i k3 k l m n o p a b)/\dG w S x.j.Ac.Aq.As r f/\dG w S x.j.Ac.Aa.Ab p1 g/\dG w S x.j.Ac.Aa.Ap s i/\dG w S x.j.Ac.Aa.Ai t k3/\dG w S x.j.Ac.Ah u k/\dG w S x.j.Ay v l/\dG w S x.j.Am y m/\dG w S x.links z n/\dG w S x.live A o/\dG w S x.t.Au B p/\dG w S x.t.Af c a/\dG w S x.t.Ba d b:=by
 obtain⟨_,_,rfl,⟨_,_,rfl,⟨_,_,rfl,⟨r,f,rfl,s0⟩,⟨_,_,rfl,⟨_,_,rfl,⟨p1,g,rfl,s1⟩,⟨_,_,rfl,⟨s,i,rfl,s2⟩,⟨t,k3,rfl,F⟩⟩⟩,⟨u,k,rfl,H⟩⟩⟩,⟨_,_,rfl,⟨_,_,rfl,rfl,⟨_,_,rfl,rfl,⟨_,_,rfl,rfl,⟨_,_,rfl,rfl,rfl⟩⟩⟩⟩,⟨_,_,rfl,⟨v,l,rfl,I⟩,⟨y,m,rfl,J⟩⟩⟩⟩,⟨_,_,rfl,⟨z,n,rfl,K⟩,⟨_,_,rfl,⟨A,o,rfl,L⟩,⟨_,_,rfl,⟨B,p,rfl,M⟩,⟨_,_,rfl,⟨c,a,rfl,C⟩,⟨d,b,rfl,D⟩⟩⟩⟩⟩⟩:=h;exact⟨r,f,p1,g,s,i,t,k3,u,k,v,l,y,m,z,n,A,o,B,p,c,a,d,b,Z,s0,s1,s2,F,H,I,J,K,L,M,C,D⟩
structure qW where
 instance_:Int
 pin:Int
 net:Int
 drives:Bool
instance qbR:qm qW:=va (aU qV (aU qV (aU qV uA))) (λx=>(x.instance_,x.pin,x.net,x.drives)) ⟨0,0,0,Cd⟩ Z An (λh=>by cases h)
instance qbM:eQ qW:=sQ (aU qV (aU qV (aU qV uA))) (λx:qW=>(x.instance_,x.pin,x.net,x.drives)) ⟨0,0,0,Cd⟩ Z An (λh=>by cases h) (dg _ _ (inferInstanceAs (eQ Int)) (dg _ _ (inferInstanceAs (eQ Int)) (dg _ _ (inferInstanceAs (eQ Int)) (inferInstanceAs (eQ Bool)))))
abbrev yj(x:qW):List Value:=[vi x.instance_,vi x.pin,vi x.net,.bool x.drives]
theorem dw{x:qW}{cs:List Value}(h:qm.R w S x cs):cs=(yj x):=by
 obtain⟨_,_,rfl,rfl,⟨_,_,rfl,rfl,⟨_,_,rfl,rfl,rfl⟩⟩⟩:=h;exact Z
theorem nG(x:qW):qm.R w S x (yj x):=have h:=pR (rI x.instance_) (pR (rI x.pin) (pR (rI x.net) (rB x.drives)));h
structure ak where
 e0:Int
 e1:Int
instance qdp:qm ak:=va (aU qV qV) (λx=>(x.e0,x.e1)) ⟨0,0⟩ Z An (λh=>by cases h)
instance qdl:eQ ak:=sQ (aU qV qV) (λx:ak=>(x.e0,x.e1)) ⟨0,0⟩ Z An (λh=>by cases h) (dg _ _ (inferInstanceAs (eQ Int)) (inferInstanceAs (eQ Int)))
abbrev RX(x:ak):List Value:=[vi x.e0,vi x.e1]
theorem VA{x:ak}{cs:List Value}(h:qm.R w S x cs):cs=(RX x):=by
 obtain⟨_,_,rfl,rfl,rfl⟩:=h;exact Z
theorem hY(x:ak):qm.R w S x (RX x):=have h:=pR (rI x.e0) (rI x.e1);h
structure cH where
 index:Int
 part:Int
instance qdq:qm cH:=va (aU qV qV) (λx=>(x.index,x.part)) ⟨0,0⟩ Z An (λh=>by cases h)
instance qdo:eQ cH:=sQ (aU qV qV) (λx:cH=>(x.index,x.part)) ⟨0,0⟩ Z An (λh=>by cases h) (dg _ _ (inferInstanceAs (eQ Int)) (inferInstanceAs (eQ Int)))
abbrev KN(x:cH):List Value:=[vi x.index,vi x.part]
theorem IK{x:cH}{cs:List Value}(h:qm.R w S x cs):cs=(KN x):=by
 obtain⟨_,_,rfl,rfl,rfl⟩:=h;exact Z
theorem DR(x:cH):qm.R w S x (KN x):=have h:=pR (rI x.index) (rI x.part);h
def sN:vP:=[ (2,⟨.int .i64,1,8,V (vi 0),[]⟩),(3,⟨.int .i64,1,8,V (vi 0),[]⟩),(4,⟨.bool,1,1,V (.bool Cd),[]⟩),(5,⟨.int .u8,1,1,V (.int .u8 0),[]⟩),(9,⟨.str,1,16,V (.string ByteArray.empty),[]⟩),(22,⟨.slice 5,1,24,V (.slice U 0 0),[]⟩),(24,⟨.slice 106,1,24,V (.slice U 0 0),[]⟩),(26,⟨.struct,1,24,V (.agg #[.slice U 0 0]),[(0,1,V Cd)]⟩),(27,⟨.slice 206,1,24,V (.slice U 0 0),[]⟩),(28,⟨.slice 9,1,24,V (.slice U 0 0),[]⟩),(29,⟨.slice 222,1,24,V (.slice U 0 0),[]⟩),(31,⟨.struct,3,72,V (.agg #[.slice U 0 0,.slice U 0 0,.slice U 0 0]),[(0,1,V Cd),(1,1,V Cd),(2,1,V Cd)]⟩),(32,⟨.slice 171,1,24,V (.slice U 0 0),[]⟩),(34,⟨.struct,5,120,V (.agg #[.slice U 0 0,.slice U 0 0,.slice U 0 0,.slice U 0 0,.slice U 0 0]),[(0,1,V An),(1,3,V An),(4,1,V Cd)]⟩),(36,⟨.struct,5,48,V (.agg #[.string ByteArray.empty,vi 0,vi 0,vi 0,vi 0]),[(0,1,V Cd),(1,1,V Cd),(2,1,V Cd),(3,1,V Cd),(4,1,V Cd)]⟩),(37,⟨.slice 2,1,24,V (.slice U 0 0),[]⟩),(38,⟨.slice 122,1,24,V (.slice U 0 0),[]⟩),(40,⟨.struct,12,216,V (.agg #[.slice U 0 0,.slice U 0 0,.slice U 0 0,.slice U 0 0,.slice U 0 0,.string ByteArray.empty,vi 0,vi 0,vi 0,vi 0,.slice U 0 0,.slice U 0 0]),[(0,5,V An),(5,5,V An),(10,1,V Cd),(11,1,V Cd)]⟩),(43,⟨.slice 56,1,24,V (.slice U 0 0),[]⟩),(48,⟨.slice 4,1,24,V (.slice U 0 0),[]⟩),(49,⟨.slice 59,1,24,V (.slice U 0 0),[]⟩),(51,⟨.struct,3,72,V (.agg #[.slice U 0 0,.slice U 0 0,.slice U 0 0]),[(0,1,V Cd),(1,1,V Cd),(2,1,V Cd)]⟩),(56,⟨.struct,3,40,V (.agg #[vi 0,.slice U 0 0,vi 0]),[(0,1,V Cd),(1,1,V Cd),(2,1,V Cd)]⟩),(59,⟨.struct,2,16,V (.agg #[vi 0,vi 0]),[(0,1,V Cd),(1,1,V Cd)]⟩),(70,⟨.ptr,1,8,V (.pointer U),[]⟩),(73,⟨.ptr,1,8,V (.pointer U),[]⟩),(88,⟨.ptr,1,8,V (.pointer U),[]⟩),(102,⟨.struct,17,320,V (.agg #[.pointer U,.slice U 0 0,.slice U 0 0,.slice U 0 0,.slice U 0 0,.slice U 0 0,.string ByteArray.empty,vi 0,vi 0,vi 0,vi 0,.slice U 0 0,.slice U 0 0,.slice U 0 0,.slice U 0 0,.slice U 0 0,.slice U 0 0]),[(0,1,V Cd),(1,12,V An),(13,3,V An),(16,1,V Cd)]⟩),(103,⟨.slice 304,1,24,V (.slice U 0 0),[]⟩),(104,⟨.slice 109,1,24,V (.slice U 0 0),[]⟩),(106,⟨.struct,7,112,V (.agg #[.string ByteArray.empty,vi 0,.slice U 0 0,.slice U 0 0,.slice U 0 0,vi 0,vi 0]),[(0,1,V Cd),(1,1,V Cd),(2,1,V Cd),(3,1,V Cd),(4,1,V Cd),(5,1,V Cd),(6,1,V Cd)]⟩),(107,⟨.slice 175,1,24,V (.slice U 0 0),[]⟩),(109,⟨.struct,6,80,V (.agg #[vi 0,vi 0,vi 0,vi 0,.slice U 0 0,.slice U 0 0]),[(0,1,V Cd),(1,1,V Cd),(2,1,V Cd),(3,1,V Cd),(4,1,V Cd),(5,1,V Cd)]⟩),(114,⟨.struct,3,40,V (.agg #[.slice U 0 0,vi 0,vi 0]),[(0,1,V Cd),(1,1,V Cd),(2,1,V Cd)]⟩),(118,⟨.ptr,1,8,V (.pointer U),[]⟩),(120,⟨.struct,2,32,V (.agg #[.pointer U,.slice U 0 0]),[(0,1,V Cd),(1,1,V Cd)]⟩),(122,⟨.struct,5,40,V (.agg #[vi 0,vi 0,vi 0,vi 0,vi 0]),[(0,1,V Cd),(1,2,V An),(3,2,V An)]⟩),(127,⟨.struct,4,32,V (.agg #[vi 0,vi 0,vi 0,vi 0]),[(0,1,V Cd),(1,1,V Cd),(2,1,V Cd),(3,1,V Cd)]⟩),(128,⟨.slice 181,1,24,V (.slice U 0 0),[]⟩),(129,⟨.slice 127,1,24,V (.slice U 0 0),[]⟩),(130,⟨.slice 37,1,24,V (.slice U 0 0),[]⟩),(132,⟨.struct,10,240,V (.agg #[.slice U 0 0,.slice U 0 0,.slice U 0 0,.slice U 0 0,.slice U 0 0,.slice U 0 0,.slice U 0 0,.slice U 0 0,.slice U 0 0,.slice U 0 0]),[(0,5,V An),(5,1,V Cd),(6,1,V Cd),(7,1,V Cd),(8,1,V Cd),(9,1,V Cd)]⟩),(133,⟨.other,1,8,V (.nilFunc),[]⟩),(144,⟨.struct,17,336,V (.agg #[.slice U 0 0,.slice U 0 0,.slice U 0 0,.slice U 0 0,.slice U 0 0,.string ByteArray.empty,vi 0,vi 0,vi 0,vi 0,.slice U 0 0,.slice U 0 0,.slice U 0 0,.slice U 0 0,.slice U 0 0,.slice U 0 0,.slice U 0 0]),[(0,12,V An),(12,1,V Cd),(13,1,V Cd),(14,3,V An)]⟩),(151,⟨.ptr,1,8,V (.pointer U),[]⟩),(171,⟨.struct,4,96,V (.agg #[.slice U 0 0,.slice U 0 0,.slice U 0 0,.slice U 0 0]),[(0,1,V Cd),(1,1,V Cd),(2,1,V Cd),(3,1,V Cd)]⟩),(175,⟨.struct,3,72,V (.agg #[.slice U 0 0,.slice U 0 0,.slice U 0 0]),[(0,1,V Cd),(1,1,V Cd),(2,1,V Cd)]⟩),(181,⟨.struct,4,32,V (.agg #[vi 0,vi 0,vi 0,.bool Cd]),[(0,1,V Cd),(1,1,V Cd),(2,1,V Cd),(3,1,V Cd)]⟩),(191,⟨.int .u64,1,8,V (.int .u64 0),[]⟩),(192,⟨.slice 3,1,24,V (.slice U 0 0),[]⟩),(197,⟨.slice 225,1,24,V (.slice U 0 0),[]⟩),(206,⟨.struct,3,48,V (.agg #[.string ByteArray.empty,vi 0,.slice U 0 0]),[(0,1,V Cd),(1,1,V Cd),(2,1,V Cd)]⟩),(222,⟨.struct,3,32,V (.agg #[.string ByteArray.empty,vi 0,vi 0]),[(0,1,V Cd),(1,1,V Cd),(2,1,V Cd)]⟩),(225,⟨.struct,4,32,V (.agg #[vi 0,vi 0,vi 0,.bool Cd]),[(0,1,V Cd),(1,1,V Cd),(2,1,V Cd),(3,1,V Cd)]⟩),(260,⟨.slice 262,1,24,V (.slice U 0 0),[]⟩),(262,⟨.arr 2 2,2,16,V (.agg #[vi 0,vi 0]),[]⟩),(272,⟨.slice 276,1,24,V (.slice U 0 0),[]⟩),(276,⟨.struct,2,16,V (.agg #[vi 0,vi 0]),[(0,1,V Cd),(1,1,V Cd)]⟩),(304,⟨.struct,4,40,V (.agg #[.string ByteArray.empty,vi 0,vi 0,.bool Cd]),[(0,1,V Cd),(1,1,V Cd),(2,1,V Cd),(3,1,V Cd)]⟩)]
theorem qa:cE prog sN:=cE.mk (by kernel_rfl)
theorem rp{n:Nat}{Q:Exit->Act->World->Prop}{k:List It}{e:fL}{w:World}{all:Array Oper}{l:List Oper}{op:Op}{d t:Nat}{ps:String}{af:Array Edge}{v:Value}
  (h:wk sN e op=V v) (b:Nat.blt d n=An) (a:bx prog n Q (.ops all l::k) ((d,v)::e) w):bx prog n Q (.ops all (⟨V d,op,t,ps,af,U⟩::l)::k) e w:=mA qa h b a
theorem dp{n:Nat}{Q:Exit->Act->World->Prop}{k:List It}{e:fL}{w:World}{all:Array Oper}{l:List Oper}{op:Op}{d t:Nat}{ps:String}{af:Array Edge}{v:Value}
  (h:wk sN e op=V v) (b:Nat.blt d n=An) (a:lV prog n Q k all w l ((d,v)::e)):lV prog n Q k all w (⟨V d,op,t,ps,af,U⟩::l) e:=qe5 qa h b a
section
variable{P:Program}{n:Nat}{Q:Exit->Act->World->Prop}{k:List It}{e:fL}{w:World}
theorem db{c:Nat}{a:List Oper}{b:Code}(h:bx P n Q (.ops a.toArray a::.code b::k) e w):bx P n Q (.code (.seq (.region c a.toArray Cd) b)::k) e w:=aD <|ah h
theorem qd1{c:Nat}{a:List Oper}{b:Code}(h:bx P n Q (.ops a.toArray a::.code b::k) e w):bx P n Q (.code .skip::.code (.seq (.region c a.toArray Cd) b)::k) e w:=eZ <|aD <|ah h
theorem QS{a1:Array Oper}{c:Nat}{a:List Oper}{b:Code}(h:bx P n Q (.ops a.toArray a::.code b::k) e w):bx P n Q (.ops a1 []::.code (.seq (.region c a.toArray Cd) b)::k) e w:=ae <|aD <|ah h
theorem N7{a:Code}{b:Code}(h:bx P n Q (.code a::.code b::k) e w):bx P n Q (.code .skip::.code (.seq a b)::k) e w:=eZ <|aD h
theorem V7{a1:Array Oper}{a:Code}{b:Code}(h:bx P n Q (.code a::.code b::k) e w):bx P n Q (.ops a1 []::.code (.seq a b)::k) e w:=ae <|aD h
theorem qcN{a1:Array Oper}{b:Code}{c:Code}{a:Code}(h:bx P n Q (.code b::.code c::.code a::k) e w):bx P n Q (.ops a1 []::.code (.seq (.seq b c) a)::k) e w:=ae <|aD <|aD h
theorem WC{a:Nat}{c:Code}{b:Code}(h:bx P n Q (.code c::.blk a::.code b::k) e w):bx P n Q (.code .skip::.code (.seq (.block a c) b)::k) e w:=eZ <|aD <|qq h
theorem ly{b:Nat}{f:Nat}{a:List Oper}{d:Code}{c:Code}(h:bx P n Q (.ops a.toArray a::.code d::.blk b::.code c::k) e w):bx P n Q (.code .skip::.code (.seq (.block b (.seq (.region f a.toArray Cd) d)) c)::k) e w:=eZ <|aD <|qq <|aD <|ah h
theorem qe9{a1:Array Oper}{a:Nat}(h:bx P n Q (k) e w):bx P n Q (.ops a1 []::.blk a::k) e w:=ae <|YV h
theorem qd6{b:Code}{c:Code}{a:Code}(h:bx P n Q (.code b::.code c::.code a::k) e w):bx P n Q (.code (.seq (.seq b c) a)::k) e w:=aD <|aD h
theorem qbm{b:Code}{c:Code}{a:Code}(h:bx P n Q (.code b::.code c::.code a::k) e w):bx P n Q (.code .skip::.code (.seq (.seq b c) a)::k) e w:=eZ <|aD <|aD h
end
section
variable{w0 w:World}{L:List Ch}{n:Nat}{Q:Exit->Act->World->Prop}{k k':List It}{e e':fL}{all:Array Oper}{l l':List Oper}{z:List Nat}
theorem X0(m:Nat)(a:xs sN n m [] k e [] []=V (k',e',z,z))(b:bx prog n Q k' e' w):bx prog n Q k e w:=((TT (P:=prog) (Q:=Q) (w:=w) qa m _ _ _ _ _ _ _ _ _ (λ_ h=>by cases h) rfl a).2 rfl).2 b
theorem Y0(m:Nat)(a:xd sN n all m [] l e [] []=V (l',e',z,z))(b:lV prog n Q k all w l' e'):lV prog n Q k all w l e:=((qc5 (P:=prog) (Q:=Q) (k:=k) (w:=w) (all:=all) qa m _ _ _ _ _ _ _ _ _ (λ_ h=>by cases h) rfl a).2 rfl).2 b
theorem X1(m:Nat)(i0:Nat){b0 b:Nat}{a:List Value}(h:SH w0 w L)(c:(L[i0]?,xs sN n m [(b0,a)] k e [] [])=(V (oX b0 a b),V (k',e',z,z)))(f:bx prog n Q k' e' w):bx prog n Q k e w:=by
 simp only[Prod.mk.injEq] at c;exact((TT (P:=prog) (Q:=Q) (w:=w) qa m _ _ _ _ _ _ _ _ _ (λp d=>by
  simp only[jQ,jI,or_false] at d;rcases d with rfl
  .exact h.box i0 c.1) Z c.2).2 Z).2 f
theorem Y1(m:Nat)(i0:Nat){b0 b:Nat}{a:List Value}(h:SH w0 w L)(c:(L[i0]?,xd sN n all m [(b0,a)] l e [] [])=(V (oX b0 a b),V (l',e',z,z)))(f:lV prog n Q k all w l' e'):lV prog n Q k all w l e:=by
 simp only[Prod.mk.injEq] at c;exact((qc5 (P:=prog) (Q:=Q) (k:=k) (w:=w) (all:=all) qa m _ _ _ _ _ _ _ _ _ (λp d=>by
  simp only[jQ,jI,or_false] at d;rcases d with rfl
  .exact h.box i0 c.1) Z c.2).2 Z).2 f
theorem X2(m:Nat)(i0 b:Nat){b0 c:Nat}{a:List Value}{b1 d:Nat}{cs1:List Value}(h:SH w0 w L)(f:(L[i0]?,L[b]?,xs sN n m [(b0,a),(b1,cs1)] k e [] [])=(V (oX b0 a c),V (oX b1 cs1 d),V (k',e',z,z)))(i:bx prog n Q k' e' w):bx prog n Q k e w:=by
 simp only[Prod.mk.injEq] at f;exact((TT (P:=prog) (Q:=Q) (w:=w) qa m _ _ _ _ _ _ _ _ _ (λp g=>by
  simp only[jQ,jI,or_false] at g;rcases g with rfl|rfl
  .exact h.box i0 f.1
  .exact h.box b f.2.1) Z f.2.2).2 Z).2 i
theorem X3(m:Nat)(i0 b c:Nat){b0 d:Nat}{a:List Value}{b1 f:Nat}{cs1:List Value}{b2 g:Nat}{cs2:List Value}(h:SH w0 w L)(i:(L[i0]?,L[b]?,L[c]?,xs sN n m [(b0,a),(b1,cs1),(b2,cs2)] k e [] [])=(V (oX b0 a d),V (oX b1 cs1 f),V (oX b2 cs2 g),V (k',e',z,z)))(o:bx prog n Q k' e' w):bx prog n Q k e w:=by
 simp only[Prod.mk.injEq] at i;exact((TT (P:=prog) (Q:=Q) (w:=w) qa m _ _ _ _ _ _ _ _ _ (λp l=>by
  simp only[jQ,jI,or_false] at l;rcases l with rfl|rfl|rfl
  .exact h.box i0 i.1
  .exact h.box b i.2.1
  .exact h.box c i.2.2.1) Z i.2.2.2).2 Z).2 o
theorem X4(m:Nat)(i0 b c d:Nat){b0 f:Nat}{a:List Value}{b1 g:Nat}{cs1:List Value}{b2 i:Nat}{cs2:List Value}{b3 l:Nat}{cs3:List Value}(h:SH w0 w L)(o:(L[i0]?,L[b]?,L[c]?,L[d]?,xs sN n m [(b0,a),(b1,cs1),(b2,cs2),(b3,cs3)] k e [] [])=(V (oX b0 a f),V (oX b1 cs1 g),V (oX b2 cs2 i),V (oX b3 cs3 l),V (k',e',z,z)))(s:bx prog n Q k' e' w):bx prog n Q k e w:=by
 simp only[Prod.mk.injEq] at o;exact((TT (P:=prog) (Q:=Q) (w:=w) qa m _ _ _ _ _ _ _ _ _ (λp r=>by
  simp only[jQ,jI,or_false] at r;rcases r with rfl|rfl|rfl|rfl
  .exact h.box i0 o.1
  .exact h.box b o.2.1
  .exact h.box c o.2.2.1
  .exact h.box d o.2.2.2.1) Z o.2.2.2.2).2 Z).2 s
theorem X5(m:Nat)(i0 c d f g:Nat){b0 i:Nat}{a:List Value}{b1 l:Nat}{cs1:List Value}{b2 o:Nat}{cs2:List Value}{b3 r:Nat}{cs3:List Value}{b s:Nat}{cs4:List Value}(h:SH w0 w L)(t:(L[i0]?,L[c]?,L[d]?,L[f]?,L[g]?,xs sN n m [(b0,a),(b1,cs1),(b2,cs2),(b3,cs3),(b,cs4)] k e [] [])=(V (oX b0 a i),V (oX b1 cs1 l),V (oX b2 cs2 o),V (oX b3 cs3 r),V (oX b cs4 s),V (k',e',z,z)))(v:bx prog n Q k' e' w):bx prog n Q k e w:=by
 simp only[Prod.mk.injEq] at t;exact((TT (P:=prog) (Q:=Q) (w:=w) qa m _ _ _ _ _ _ _ _ _ (λp u=>by
  simp only[jQ,jI,or_false] at u;rcases u with rfl|rfl|rfl|rfl|rfl
  .exact h.box i0 t.1
  .exact h.box c t.2.1
  .exact h.box d t.2.2.1
  .exact h.box f t.2.2.2.1
  .exact h.box g t.2.2.2.2.1) Z t.2.2.2.2.2).2 Z).2 v
end
section
variable{w0 w:World}{L:List Ch}{n:Nat}{Q:Exit->Act->World->Prop}{k:List It}{e:fL}{all:Array Oper}{l:List Oper}
theorem cr{a:Op}{b f:Nat}{s0:String}{d:Array Edge}{c:Value}(h:(wk sN (e) a,Nat.blt b n)=(V c,An))(g:bx prog n Q (.ops all l::k) ((b,c)::e) w):bx prog n Q (.ops all (⟨V b,a,f,s0,d,U⟩::l)::k) e w:=by
 have H:=h;simp only[Prod.mk.injEq] at H;exact rp (H.1) (H.2) (g)
theorem xm{a:Op}{b f:Nat}{s0:String}{d:Array Edge}{c:Value}(h:(wk sN (e) a,Nat.blt b n)=(V c,An))(g:lV prog n Q k all w l ((b,c)::e)):lV prog n Q k all w (⟨V b,a,f,s0,d,U⟩::l) e:=by
 have H:=h;simp only[Prod.mk.injEq] at H;exact dp (H.1) (H.2) (g)
theorem mr{a:Op}{c o:Nat}{s0:String}{i:Array Edge}{f:Value}{b:Op}{d p:Nat}{s1:String}{m:Array Edge}{g:Value}(h:(wk sN (e) a,Nat.blt c n,wk sN ((c,f)::e) b,Nat.blt d n)=(V f,An,V g,An))(r:bx prog n Q (.ops all l::k) ((d,g)::(c,f)::e) w):bx prog n Q (.ops all (⟨V c,a,o,s0,i,U⟩::⟨V d,b,p,s1,m,U⟩::l)::k) e w:=by
 have H:=h;simp only[Prod.mk.injEq] at H;exact rp (H.1) (H.2.1) (rp (H.2.2.1) (H.2.2.2) (r))
theorem xz{a:Op}{c o:Nat}{s0:String}{i:Array Edge}{f:Value}{b:Op}{d p:Nat}{s1:String}{m:Array Edge}{g:Value}(h:(wk sN (e) a,Nat.blt c n,wk sN ((c,f)::e) b,Nat.blt d n)=(V f,An,V g,An))(r:lV prog n Q k all w l ((d,g)::(c,f)::e)):lV prog n Q k all w (⟨V c,a,o,s0,i,U⟩::⟨V d,b,p,s1,m,U⟩::l) e:=by
 have H:=h;simp only[Prod.mk.injEq] at H;exact dp (H.1) (H.2.1) (dp (H.2.2.1) (H.2.2.2) (r))
theorem CK{b:Op}{a s:Nat}{s0:String}{o:Array Edge}{g:Value}{c:Op}{f t:Nat}{s1:String}{p:Array Edge}{i:Value}{d:Op}{d2 u:Nat}{s2:String}{r:Array Edge}{m:Value}(h:(wk sN (e) b,Nat.blt a n,wk sN ((a,g)::e) c,Nat.blt f n,wk sN ((f,i)::(a,g)::e) d,Nat.blt d2 n)=(V g,An,V i,An,V m,An))(v:bx prog n Q (.ops all l::k) ((d2,m)::(f,i)::(a,g)::e) w):bx prog n Q (.ops all (⟨V a,b,s,s0,o,U⟩::⟨V f,c,t,s1,p,U⟩::⟨V d2,d,u,s2,r,U⟩::l)::k) e w:=by
 have H:=h;simp only[Prod.mk.injEq] at H;exact rp (H.1) (H.2.1) (rp (H.2.2.1) (H.2.2.2.1) (rp (H.2.2.2.2.1) (H.2.2.2.2.2) (v)))
theorem qcO{b:Op}{a s:Nat}{s0:String}{o:Array Edge}{g:Value}{c:Op}{f t:Nat}{s1:String}{p:Array Edge}{i:Value}{d:Op}{d2 u:Nat}{s2:String}{r:Array Edge}{m:Value}(h:(wk sN (e) b,Nat.blt a n,wk sN ((a,g)::e) c,Nat.blt f n,wk sN ((f,i)::(a,g)::e) d,Nat.blt d2 n)=(V g,An,V i,An,V m,An))(v:lV prog n Q k all w l ((d2,m)::(f,i)::(a,g)::e)):lV prog n Q k all w (⟨V a,b,s,s0,o,U⟩::⟨V f,c,t,s1,p,U⟩::⟨V d2,d,u,s2,r,U⟩::l) e:=by
 have H:=h;simp only[Prod.mk.injEq] at H;exact dp (H.1) (H.2.1) (dp (H.2.2.1) (H.2.2.2.1) (dp (H.2.2.2.2.1) (H.2.2.2.2.2) (v)))
theorem qbq{c:Op}{a y:Nat}{s0:String}{s:Array Edge}{i:Value}{d:Op}{b z:Nat}{s1:String}{t:Array Edge}{m:Value}{f:Op}{d2 A:Nat}{s2:String}{u:Array Edge}{p:Value}{g:Op}{o B:Nat}{x:String}{v:Array Edge}{r:Value}(h:(wk sN (e) c,Nat.blt a n,wk sN ((a,i)::e) d,Nat.blt b n,wk sN ((b,m)::(a,i)::e) f,Nat.blt d2 n,wk sN ((d2,p)::(b,m)::(a,i)::e) g,Nat.blt o n)=(V i,An,V m,An,V p,An,V r,An))(C:bx prog n Q (.ops all l::k) ((o,r)::(d2,p)::(b,m)::(a,i)::e) w):bx prog n Q (.ops all (⟨V a,c,y,s0,s,U⟩::⟨V b,d,z,s1,t,U⟩::⟨V d2,f,A,s2,u,U⟩::⟨V o,g,B,x,v,U⟩::l)::k) e w:=by
 have H:=h;simp only[Prod.mk.injEq] at H;exact rp (H.1) (H.2.1) (rp (H.2.2.1) (H.2.2.2.1) (rp (H.2.2.2.2.1) (H.2.2.2.2.2.1) (rp (H.2.2.2.2.2.2.1) (H.2.2.2.2.2.2.2) (C))))
theorem qd7{c:Op}{a y:Nat}{s0:String}{s:Array Edge}{i:Value}{d:Op}{b z:Nat}{s1:String}{t:Array Edge}{m:Value}{f:Op}{d2 A:Nat}{s2:String}{u:Array Edge}{p:Value}{g:Op}{o B:Nat}{x:String}{v:Array Edge}{r:Value}(h:(wk sN (e) c,Nat.blt a n,wk sN ((a,i)::e) d,Nat.blt b n,wk sN ((b,m)::(a,i)::e) f,Nat.blt d2 n,wk sN ((d2,p)::(b,m)::(a,i)::e) g,Nat.blt o n)=(V i,An,V m,An,V p,An,V r,An))(C:lV prog n Q k all w l ((o,r)::(d2,p)::(b,m)::(a,i)::e)):lV prog n Q k all w (⟨V a,c,y,s0,s,U⟩::⟨V b,d,z,s1,t,U⟩::⟨V d2,f,A,s2,u,U⟩::⟨V o,g,B,x,v,U⟩::l) e:=by
 have H:=h;simp only[Prod.mk.injEq] at H;exact dp (H.1) (H.2.1) (dp (H.2.2.1) (H.2.2.2.1) (dp (H.2.2.2.2.1) (H.2.2.2.2.2.1) (dp (H.2.2.2.2.2.2.1) (H.2.2.2.2.2.2.2) (C))))
theorem qe3{d:Op}{a D:Nat}{s0:String}{v:Array Edge}{c:Value}{f:Op}{b F:Nat}{s1:String}{x:Array Edge}{o:Value}{g:Op}{d2 I:Nat}{s2:String}{y:Array Edge}{r:Value}{i:Op}{p J:Nat}{B:String}{z:Array Edge}{t:Value}{m:Op}{s K:Nat}{C:String}{A:Array Edge}{u:Value}(h:(wk sN (e) d,Nat.blt a n,wk sN ((a,c)::e) f,Nat.blt b n,wk sN ((b,o)::(a,c)::e) g,Nat.blt d2 n,wk sN ((d2,r)::(b,o)::(a,c)::e) i,Nat.blt p n,wk sN ((p,t)::(d2,r)::(b,o)::(a,c)::e) m,Nat.blt s n)=(V c,An,V o,An,V r,An,V t,An,V u,An))(L:bx prog n Q (.ops all l::k) ((s,u)::(p,t)::(d2,r)::(b,o)::(a,c)::e) w):bx prog n Q (.ops all (⟨V a,d,D,s0,v,U⟩::⟨V b,f,F,s1,x,U⟩::⟨V d2,g,I,s2,y,U⟩::⟨V p,i,J,B,z,U⟩::⟨V s,m,K,C,A,U⟩::l)::k) e w:=by
 have H:=h;simp only[Prod.mk.injEq] at H;exact rp (H.1) (H.2.1) (rp (H.2.2.1) (H.2.2.2.1) (rp (H.2.2.2.2.1) (H.2.2.2.2.2.1) (rp (H.2.2.2.2.2.2.1) (H.2.2.2.2.2.2.2.1) (rp (H.2.2.2.2.2.2.2.2.1) (H.2.2.2.2.2.2.2.2.2) (L)))))
theorem qe1{d:Op}{a D:Nat}{s0:String}{v:Array Edge}{c:Value}{f:Op}{b F:Nat}{s1:String}{x:Array Edge}{o:Value}{g:Op}{d2 I:Nat}{s2:String}{y:Array Edge}{r:Value}{i:Op}{p J:Nat}{B:String}{z:Array Edge}{t:Value}{m:Op}{s K:Nat}{C:String}{A:Array Edge}{u:Value}(h:(wk sN (e) d,Nat.blt a n,wk sN ((a,c)::e) f,Nat.blt b n,wk sN ((b,o)::(a,c)::e) g,Nat.blt d2 n,wk sN ((d2,r)::(b,o)::(a,c)::e) i,Nat.blt p n,wk sN ((p,t)::(d2,r)::(b,o)::(a,c)::e) m,Nat.blt s n)=(V c,An,V o,An,V r,An,V t,An,V u,An))(L:lV prog n Q k all w l ((s,u)::(p,t)::(d2,r)::(b,o)::(a,c)::e)):lV prog n Q k all w (⟨V a,d,D,s0,v,U⟩::⟨V b,f,F,s1,x,U⟩::⟨V d2,g,I,s2,y,U⟩::⟨V p,i,J,B,z,U⟩::⟨V s,m,K,C,A,U⟩::l) e:=by
 have H:=h;simp only[Prod.mk.injEq] at H;exact dp (H.1) (H.2.1) (dp (H.2.2.1) (H.2.2.2.1) (dp (H.2.2.2.2.1) (H.2.2.2.2.2.1) (dp (H.2.2.2.2.2.2.1) (H.2.2.2.2.2.2.2.1) (dp (H.2.2.2.2.2.2.2.2.1) (H.2.2.2.2.2.2.2.2.2) (L)))))
theorem zl(i j:Nat){d t ty:Nat}{x:Operand}{c:TE}{ps:String}{af:Array Edge}{v:Value}{b:Nat}{cs:List Value}{g:TypeId}(h:SH w0 w L)(a:(L[i]?,gq e x,sN.get t,ld c cs j,Nat.blt d n)=(V (oX b cs g),V (.pointer (V ⟨b,0+j,U⟩)),V c,V v,An))
  (f:bx prog n Q (.ops all l::k) ((d,v)::e) w):bx prog n Q (.ops all (⟨V d,.load t x,ty,ps,af,U⟩::l)::k) e w:=by
 simp only[Prod.mk.injEq] at a;exact dF (da qa (h.box i a.1) (j:=j) a.2.1 a.2.2.1 a.2.2.2.1) a.2.2.2.2 f
theorem zc(j:Nat){d t ty:Nat}{x:Operand}{c:TE}{ps:String}{af:Array Edge}{v:Value}{b o:Nat}{cs:List Value}(h:cG w b o cs)(a:(gq e x,sN.get t,ld c cs j,Nat.blt d n)=(V (.pointer (V ⟨b,o+j,U⟩)),V c,V v,An))
  (f:bx prog n Q (.ops all l::k) ((d,v)::e) w):bx prog n Q (.ops all (⟨V d,.load t x,ty,ps,af,U⟩::l)::k) e w:=by
 simp only[Prod.mk.injEq] at a;exact dF (da qa h (j:=j) a.1 a.2.1 a.2.2.1) a.2.2.2 f
theorem bL(j:Nat){d t ty:Nat}{x:Operand}{c:TE}{ps:String}{af:Array Edge}{v:Value}{b o:Nat}{cs:List Value}(a:cG w0 b o cs)(h:SH w0 w L)(f:(gq e x,sN.get t,ld c cs j,Nat.blt d n)=(V (.pointer (V ⟨b,o+j,U⟩)),V c,V v,An))
  (g:bx prog n Q (.ops all l::k) ((d,v)::e) w):bx prog n Q (.ops all (⟨V d,.load t x,ty,ps,af,U⟩::l)::k) e w:=zc j (a.below h.below) f g
theorem V8(j:Nat){d t ty:Nat}{x:Operand}{c:TE}{ps:String}{af:Array Edge}{v:Value}{b o:Nat}{cs:List Value}(h:cG w b o cs)(a:(gq e x,sN.get t,ld c cs j,Nat.blt d n)=(V (.pointer (V ⟨b,o+j,U⟩)),V c,V v,An))
  (g:lV prog n Q k all w l ((d,v)::e)):lV prog n Q k all w (⟨V d,.load t x,ty,ps,af,U⟩::l) e:=by
 simp only[Prod.mk.injEq] at a;exact qbI (λ_ f=>da qa (h.below f) (j:=j) a.1 a.2.1 a.2.2.1) a.2.2.2 g
theorem dZ(j:Nat){d t ty:Nat}{x:Operand}{c:TE}{ps:String}{af:Array Edge}{v:Value}{b o:Nat}{cs:List Value}(a:cG w0 b o cs)(h:SH w0 w L)(f:(gq e x,sN.get t,ld c cs j,Nat.blt d n)=(V (.pointer (V ⟨b,o+j,U⟩)),V c,V v,An))
  (g:lV prog n Q k all w l ((d,v)::e)):lV prog n Q k all w (⟨V d,.load t x,ty,ps,af,U⟩::l) e:=V8 j (a.below h.below) f g
theorem zx{x i:Operand}{t ty d el m:Nat}{r a:TE}{ps:String}{af:Array Edge}{p:Option Addr}{h c:Nat}{kd:IntKind}{iv:Int}{b o q:Nat}(u:p=V ⟨b,o,U⟩)(v:q=o+iv.toNat*m)(g:0<=iv/\iv<h)(f:(gq e x,gq e i,sN.get t,r.kind,sN.get el,a.size,Nat.blt d n)=(V (oS p h c),V (.int kd iv),V r,TK.slice el,V a,m,An))(s:bx prog n Q (.ops all l::k) ((d,.pointer (V ⟨b,q,U⟩))::e) w):bx prog n Q (.ops all (⟨V d,.indexAddr t x i,ty,ps,af,U⟩::l)::k) e w:=by
 simp only[Prod.mk.injEq] at f;exact dF (ZP qa u v g f.1 f.2.1 f.2.2.1 f.2.2.2.1 f.2.2.2.2.1 f.2.2.2.2.2.1) f.2.2.2.2.2.2 s
theorem ft{x i:Operand}{t ty d el m:Nat}{h a:TE}{ps:String}{af:Array Edge}{p:Option Addr}{g c:Nat}{kd:IntKind}{iv:Int}{b o q:Nat}{α:Prop}(u:p=V ⟨b,o,U⟩)(v:q=o+iv.toNat*m)(f:0<=iv/\iv<g/\α)(r:(gq e x,gq e i,sN.get t,h.kind,sN.get el,a.size,Nat.blt d n)=(V (oS p g c),V (.int kd iv),V h,TK.slice el,V a,m,An))(s:bx prog n Q (.ops all l::k) ((d,.pointer (V ⟨b,q,U⟩))::e) w):bx prog n Q (.ops all (⟨V d,.indexAddr t x i,ty,ps,af,U⟩::l)::k) e w:=zx u v ⟨f.1,f.2.1⟩ r s
theorem V9{x i:Operand}{t ty d el m:Nat}{r a:TE}{ps:String}{af:Array Edge}{p:Option Addr}{h c:Nat}{kd:IntKind}{iv:Int}{b o q:Nat}(u:p=V ⟨b,o,U⟩)(v:q=o+iv.toNat*m)(g:0<=iv/\iv<h)(f:(gq e x,gq e i,sN.get t,r.kind,sN.get el,a.size,Nat.blt d n)=(V (oS p h c),V (.int kd iv),V r,TK.slice el,V a,m,An))(s:lV prog n Q k all w l ((d,.pointer (V ⟨b,q,U⟩))::e)):lV prog n Q k all w (⟨V d,.indexAddr t x i,ty,ps,af,U⟩::l) e:=by
 simp only[Prod.mk.injEq] at f;exact qbI (λ_ _=>ZP qa u v g f.1 f.2.1 f.2.2.1 f.2.2.2.1 f.2.2.2.2.1 f.2.2.2.2.2.1) f.2.2.2.2.2.2 s
theorem fU{x i:Operand}{t ty d el m:Nat}{h a:TE}{ps:String}{af:Array Edge}{p:Option Addr}{g c:Nat}{kd:IntKind}{iv:Int}{b o q:Nat}{α:Prop}(u:p=V ⟨b,o,U⟩)(v:q=o+iv.toNat*m)(f:0<=iv/\iv<g/\α)(r:(gq e x,gq e i,sN.get t,h.kind,sN.get el,a.size,Nat.blt d n)=(V (oS p g c),V (.int kd iv),V h,TK.slice el,V a,m,An))(s:lV prog n Q k all w l ((d,.pointer (V ⟨b,q,U⟩))::e)):lV prog n Q k all w (⟨V d,.indexAddr t x i,ty,ps,af,U⟩::l) e:=V9 u v ⟨f.1,f.2.1⟩ r s
theorem zs(i:Nat){t ty:Nat}{ps:String}{af:Array Edge}{x v:Operand}{D:TE}{b j:Nat}{cs A z:List Value}{C:TypeId}{u:Value}{L':List Ch}(h:SH w0 w L)
  (B:(L[i]?,gq e x,gq e v,bi u,sN.get t,Nat.beq A.length D.size,Nat.ble (j+A.length) cs.length,R0 A,VP cs j A,U5 L i (oX b z C))=(V (oX b cs C),V (.pointer (V ⟨b,j,U⟩)),V u,A,V D,An,An,An,V z,V L'))
  (F:∀w',SH w0 w' L'->bx prog n Q (.ops all l::k) e w'):bx prog n Q (.ops all (⟨U,.store t x v,ty,ps,af,U⟩::l)::k) e w:=by
 simp only[Prod.mk.injEq] at B;obtain⟨d,f,g,m,o,p,r,s,y,a⟩:=B;subst m;have e1:=VQ y;have c:=M7 a;subst e1 c;exact qcm qa i h d f g o p r s F
end
section
variable{P:Program}{fnc:Func}{R:Ending->World->Prop}{n:Nat}{k:List It}{e:fL}{w0 w:World}{ops:Array Oper}{st:List Nat}{fuel:Nat}
theorem M0(K:Nat)(is:List Nat){C:World->Prop}{m K0 f a:Nat}{e':fL}{z:List Nat}(b:C w)(c:xa sN n ops is [] f e [] []=V (a,e',z,z))
  (d:lU prog n (bodyPost prog fnc R) k ops st C a (bits m K) e' w) (g:qcb ops st is (bits m K0) (bits m K)=An:=by kernel_rfl):lU prog n (bodyPost prog fnc R) k ops st C f (bits m K0) e w:=by
 exact((ZT (C:=C) (w:=w) (P:=prog) qa b is _ _ _ _ _ _ _ _ _ _ _ (λ_ h=>by cases h) rfl c g).2 rfl).2 d
theorem G0(K:Nat)(is:List Nat){C:World->Prop}{m K0 f a:Nat}{e':fL}{z:List Nat}{all:Array Oper}(b:C w)(c:xa sN n ops is [] f e [] []=V (a,e',z,z))
  (d:lU prog n (bodyPost prog fnc R) k ops st C a (bits m K) e' w) (g:qcb ops st is (bits m K0) (bits m K)=An:=by kernel_rfl):bx prog n (bodyPost prog fnc R) (.ops all []::.goal (BJ prog n (bodyPost prog fnc R) k ops st C f (bits m K0))::k) e w:=
 Ag b (M0 K is (C:=C) b c d g)
theorem M1(K:Nat)(is:List Nat)(i0:Nat){b0 b:Nat}{a:List Value}{LA:List Ch}{m K0 f d:Nat}{e':fL}{z:List Nat}(h:SH w0 w LA)(c:(LA[i0]?,xa sN n ops is [(b0,a)] f e [] [])=(V (oX b0 a b),V (d,e',z,z)))
  (i:lU prog n (bodyPost prog fnc R) k ops st (λw'=>SH w0 w' LA) d (bits m K) e' w) (l:qcb ops st is (bits m K0) (bits m K)=An:=by kernel_rfl):lU prog n (bodyPost prog fnc R) k ops st (λw'=>SH w0 w' LA) f (bits m K0) e w:=by
 simp only[Prod.mk.injEq] at c;exact((ZT (C:=(λw'=>SH w0 w' LA)) (w:=w) (P:=prog) qa h is _ _ _ _ _ _ _ _ _ _ _ (λp g _ o=>by
  simp only[jQ,jI,or_false] at g;rcases g with rfl
  .exact SH.box o i0 c.1) Z c.2 l).2 Z).2 i
theorem M2(K:Nat)(is:List Nat)(i0 b:Nat){b0 c:Nat}{a:List Value}{b1 d:Nat}{cs1:List Value}{LA:List Ch}{m K0 f h:Nat}{e':fL}{z:List Nat}(o:SH w0 w LA)(g:(LA[i0]?,LA[b]?,xa sN n ops is [(b0,a),(b1,cs1)] f e [] [])=(V (oX b0 a c),V (oX b1 cs1 d),V (h,e',z,z)))
  (r:lU prog n (bodyPost prog fnc R) k ops st (λw'=>SH w0 w' LA) h (bits m K) e' w) (s:qcb ops st is (bits m K0) (bits m K)=An:=by kernel_rfl):lU prog n (bodyPost prog fnc R) k ops st (λw'=>SH w0 w' LA) f (bits m K0) e w:=by
 simp only[Prod.mk.injEq] at g;exact((ZT (C:=(λw'=>SH w0 w' LA)) (w:=w) (P:=prog) qa o is _ _ _ _ _ _ _ _ _ _ _ (λp i _ l=>by
  simp only[jQ,jI,or_false] at i;rcases i with rfl|rfl
  .exact SH.box l i0 g.1
  .exact SH.box l b g.2.1) Z g.2.2 s).2 Z).2 r
theorem M3(K:Nat)(is:List Nat)(i0 b c:Nat){b0 d:Nat}{a:List Value}{b1 g:Nat}{cs1:List Value}{b2 h:Nat}{cs2:List Value}{LA:List Ch}{m K0 f o:Nat}{e':fL}{z:List Nat}(s:SH w0 w LA)(i:(LA[i0]?,LA[b]?,LA[c]?,xa sN n ops is [(b0,a),(b1,cs1),(b2,cs2)] f e [] [])=(V (oX b0 a d),V (oX b1 cs1 g),V (oX b2 cs2 h),V (o,e',z,z)))
  (t:lU prog n (bodyPost prog fnc R) k ops st (λw'=>SH w0 w' LA) o (bits m K) e' w) (u:qcb ops st is (bits m K0) (bits m K)=An:=by kernel_rfl):lU prog n (bodyPost prog fnc R) k ops st (λw'=>SH w0 w' LA) f (bits m K0) e w:=by
 simp only[Prod.mk.injEq] at i;exact((ZT (C:=(λw'=>SH w0 w' LA)) (w:=w) (P:=prog) qa s is _ _ _ _ _ _ _ _ _ _ _ (λp r _ l=>by
  simp only[jQ,jI,or_false] at r;rcases r with rfl|rfl|rfl
  .exact SH.box l i0 i.1
  .exact SH.box l b i.2.1
  .exact SH.box l c i.2.2.1) Z i.2.2.2 u).2 Z).2 t
theorem M4(K:Nat)(is:List Nat)(i0 b c d:Nat){b0 g:Nat}{a:List Value}{b1 h:Nat}{cs1:List Value}{b2 i:Nat}{cs2:List Value}{b3 l:Nat}{cs3:List Value}{LA:List Ch}{m K0 f s:Nat}{e':fL}{z:List Nat}(u:SH w0 w LA)(o:(LA[i0]?,LA[b]?,LA[c]?,LA[d]?,xa sN n ops is [(b0,a),(b1,cs1),(b2,cs2),(b3,cs3)] f e [] [])=(V (oX b0 a g),V (oX b1 cs1 h),V (oX b2 cs2 i),V (oX b3 cs3 l),V (s,e',z,z)))
  (v:lU prog n (bodyPost prog fnc R) k ops st (λw'=>SH w0 w' LA) s (bits m K) e' w) (x:qcb ops st is (bits m K0) (bits m K)=An:=by kernel_rfl):lU prog n (bodyPost prog fnc R) k ops st (λw'=>SH w0 w' LA) f (bits m K0) e w:=by
 simp only[Prod.mk.injEq] at o;exact((ZT (C:=(λw'=>SH w0 w' LA)) (w:=w) (P:=prog) qa u is _ _ _ _ _ _ _ _ _ _ _ (λp t _ r=>by
  simp only[jQ,jI,or_false] at t;rcases t with rfl|rfl|rfl|rfl
  .exact SH.box r i0 o.1
  .exact SH.box r b o.2.1
  .exact SH.box r c o.2.2.1
  .exact SH.box r d o.2.2.2.1) Z o.2.2.2.2 x).2 Z).2 v
theorem Aw(i K:Nat){C:World->Prop}{m K0 d:Nat}{op:Op}{t:Nat}{ps:String}{af:Array Edge}{v:Value}(h:∀w',C w'->MV prog n e ⟨V d,op,t,ps,af,U⟩ w' v)(b:C w)(a:(ops[i]?,Nat.blt d n)=(V (⟨V d,op,t,ps,af,U⟩:Oper),An))
  (f:lU prog n (bodyPost prog fnc R) k ops st C fuel (bits m K) ((d,v)::e) w) (g:(bits m K0).setIfInBounds i An=bits m K:=by kernel_rfl)
  (c:(Region.noSelect ops&&Region.free .any ops (bits m K0) i&&(Region.ready .any ops (bits m K0)).contains i&&st.all (λs=>!(Nat.beq s i)&&ES ops i s&&!((bits m K0).getD s An)))=An:=by kernel_rfl) :
  lU prog n (bodyPost prog fnc R) k ops st C (fuel+1) (bits m K0) e w:=by
 simp only[Prod.mk.injEq] at a;exact gz i a.1 _ g c h b a.2 f
theorem Al(i K j:Nat){LA:List Ch}{m K0 d t ty b o:Nat}{x:Operand}{c:TE}{ps:String}{af:Array Edge}{v:Value}{cs:List Value}(h:cG w0 b o cs)(f:SH w0 w LA)
  (a:(ops[i]?,gq e x,sN.get t,ld c cs j,Nat.blt d n)=(V (⟨V d,.load t x,ty,ps,af,U⟩:Oper),V (.pointer (V ⟨b,o+j,U⟩)),V c,V v,An))
  (l:lU prog n (bodyPost prog fnc R) k ops st (λw'=>SH w0 w' LA) fuel (bits m K) ((d,v)::e) w) (p:(bits m K0).setIfInBounds i An=bits m K:=by kernel_rfl)
  (g:(Region.noSelect ops&&Region.free .any ops (bits m K0) i&&(Region.ready .any ops (bits m K0)).contains i&&st.all (λs=>!(Nat.beq s i)&&ES ops i s&&!((bits m K0).getD s An)))=An:=by kernel_rfl) :
  lU prog n (bodyPost prog fnc R) k ops st (λw'=>SH w0 w' LA) (fuel+1) (bits m K0) e w:=by
 simp only[Prod.mk.injEq] at a;exact gz i a.1 _ p g (λw' r=>da qa (h.below r.below) (j:=j) a.2.1 a.2.2.1 a.2.2.2.1) f a.2.2.2.2 l
theorem Ax(i K:Nat){C:World->Prop}{m K0 d t ty el q:Nat}{x ix:Operand}{r a:TE}{ps:String}{af:Array Edge}{p:Option Addr}{h c l:Nat}{kd:IntKind}{iv:Int}{b o:Nat}(A:p=V ⟨b,o,U⟩)(B:q=o+iv.toNat*l)(g:0<=iv/\iv<h)(u:C w)
  (f:(ops[i]?,gq e x,gq e ix,sN.get t,r.kind,sN.get el,a.size,Nat.blt d n)=(V (⟨V d,.indexAddr t x ix,ty,ps,af,U⟩:Oper),V (oS p h c),V (.int kd iv),V r,TK.slice el,V a,l,An))
  (y:lU prog n (bodyPost prog fnc R) k ops st C fuel (bits m K) ((d,.pointer (V ⟨b,q,U⟩))::e) w) (z:(bits m K0).setIfInBounds i An=bits m K:=by kernel_rfl)
  (v:(Region.noSelect ops&&Region.free .any ops (bits m K0) i&&(Region.ready .any ops (bits m K0)).contains i&&st.all (λs=>!(Nat.beq s i)&&ES ops i s&&!((bits m K0).getD s An)))=An:=by kernel_rfl) :
  lU prog n (bodyPost prog fnc R) k ops st C (fuel+1) (bits m K0) e w:=by
 simp only[Prod.mk.injEq] at f;exact gz i f.1 _ z v (λw' _=>ZP qa A B g f.2.1 f.2.2.1 f.2.2.2.1 f.2.2.2.2.1 f.2.2.2.2.2.1 f.2.2.2.2.2.2.1) u f.2.2.2.2.2.2.2 y
theorem Ae(i K:Nat){C:World->Prop}{m K0 d t ty el q:Nat}{x ix:Operand}{l a:TE}{ps:String}{af:Array Edge}{p:Option Addr}{g c h:Nat}{kd:IntKind}{iv:Int}{b o:Nat}{α:Prop}(A:p=V ⟨b,o,U⟩)(B:q=o+iv.toNat*h)(f:0<=iv/\iv<g/\α)(r:C w)
  (v:(ops[i]?,gq e x,gq e ix,sN.get t,l.kind,sN.get el,a.size,Nat.blt d n)=(V (⟨V d,.indexAddr t x ix,ty,ps,af,U⟩:Oper),V (oS p g c),V (.int kd iv),V l,TK.slice el,V a,h,An))
  (y:lU prog n (bodyPost prog fnc R) k ops st C fuel (bits m K) ((d,.pointer (V ⟨b,q,U⟩))::e) w) (z:(bits m K0).setIfInBounds i An=bits m K:=by kernel_rfl)
  (u:(Region.noSelect ops&&Region.free .any ops (bits m K0) i&&(Region.ready .any ops (bits m K0)).contains i&&st.all (λs=>!(Nat.beq s i)&&ES ops i s&&!((bits m K0).getD s An)))=An:=by kernel_rfl) :
  lU prog n (bodyPost prog fnc R) k ops st C (fuel+1) (bits m K0) e w:=Ax i K A B ⟨f.1,f.2.1⟩ r v y z u
theorem rb{a:Func}{L:List Ch}{x r:Bool}(h:SH w0 w L)(F:V x=V r)(b:qcn e a.results.toList=V (.bool x)) :
  bx prog n (bodyPost prog a λe w'=>∃v,e=.returned v/\Below w0.heap.size w0 w'/\∃us,v=ww us/\iZ.Vs w' (mT w0 w') r us) (.code .ret::k) e w:=qeW qa h F (M5 b)
theorem ri{a:Func}{L:List Ch}{x r:Int}(h:SH w0 w L)(F:V x=V r)(b:qcn e a.results.toList=V (vi x)) :
  bx prog n (bodyPost prog a λe w'=>∃v,e=.returned v/\Below w0.heap.size w0 w'/\∃us,v=ww us/\iZ.Vs w' (mT w0 w') r us) (.code .ret::k) e w:=qeX qa h F (M5 b)
theorem rO{a:Func}{L:List Ch}{α:Type}[qm α]{r:α}{S:Nat->Prop}{cs:List Value}(i:Nat)(h:SH w0 w L)(hi:L[i]?=V (oW S r cs))(b:wF sN e w a.results.toList [oV α cs]) :
  bx prog n (bodyPost prog a λe w'=>∃v,e=.returned v/\Below w0.heap.size w0 w'/\∃us,v=ww us/\iZ.Vs w' (mT w0 w') r us) (.code .ret::k) e w:=aC qa _ h b (Cr h (rv (qS i h hi)))
theorem zV{ρ:Type}[iZ ρ]{f:FuncId}{a:Func}{c:Code}{vs:List Value}{r:ρ}(m:Nat)(d:prog.funcs[f]?=V a)(b:(a.body,a.ntmps,Nat.ble vs.length m)=(V c,m,An))
  (h:SH w w []->bx prog m (bodyPost prog a λe w'=>∃v,e=.returned v/\Below w.heap.size w w'/\∃us,v=ww us/\iZ.Vs w' (mT w w') r us) [.code c] (pY 0 vs) w):qN prog f vs w r:=by
 simp only[Prod.mk.injEq] at b;exact YW d b.1 b.2.1 b.2.2 h
end
section
variable{w0 w:World}{L:List Ch}{n:Nat}{Q:Exit->Act->World->Prop}{k:List It}{e:fL}{all:Array Oper}{l:List Oper}{d ty:Nat}{ps:String}{af:Array Edge}{x:Operand}{args:Array Operand}{ats:Array TypeId}{f:FuncId}{fi ca:Array Value}{av vs:List Value}{β:Type}{rr:β}
theorem mR{F:Option Int}{g:Int->Option β}(h:SH w0 w L)(c:F.bind g=V rr)(m:∀{r},F=V r->qN prog f vs w r)
  (b:(gq e x,pD e args.toList,fi.toList++av++ca.toList,Nat.blt d n)=(V (.func (.func f) fi ca),V av,vs,An))
  (o:∀r w' ,SH w0 w' (L)->g r=V rr->bx prog n Q (.ops all l::k) ((d,vi r)::e) w') (a:kH prog f:=by exact cA Z):bx prog n Q (.ops all (⟨V d,.call ⟨.value x,args,ats⟩,ty,ps,af,U⟩::l)::k) e w:=by
 obtain⟨r,p,c⟩:=qc c;simp only[Prod.mk.injEq] at b;exact fQ r h a (m p) b.1 b.2.1 b.2.2.1 b.2.2.2 (λw'  i=>o r w'  i c)
theorem dI{F:Option Bool}{g:Bool->Option β}(h:SH w0 w L)(c:F.bind g=V rr)(m:∀{r},F=V r->qN prog f vs w r)
  (b:(gq e x,pD e args.toList,fi.toList++av++ca.toList,Nat.blt d n)=(V (.func (.func f) fi ca),V av,vs,An))
  (o:∀r w' ,SH w0 w' (L)->g r=V rr->bx prog n Q (.ops all l::k) ((d,.bool r)::e) w') (a:kH prog f:=by exact cA Z):bx prog n Q (.ops all (⟨V d,.call ⟨.value x,args,ats⟩,ty,ps,af,U⟩::l)::k) e w:=by
 obtain⟨r,p,c⟩:=qc c;simp only[Prod.mk.injEq] at b;exact qck r h a (m p) b.1 b.2.1 b.2.2.1 b.2.2.2 (λw'  i=>o r w'  i c)
theorem qeF{F:Option ByteArray}{g:ByteArray->Option β}(h:SH w0 w L)(c:F.bind g=V rr)(m:∀{r},F=V r->qN prog f vs w r)
  (b:(gq e x,pD e args.toList,fi.toList++av++ca.toList,Nat.blt d n)=(V (.func (.func f) fi ca),V av,vs,An))
  (o:∀r w' ,SH w0 w' (L)->g r=V rr->bx prog n Q (.ops all l::k) ((d,.string r)::e) w') (a:kH prog f:=by exact cA Z):bx prog n Q (.ops all (⟨V d,.call ⟨.value x,args,ats⟩,ty,ps,af,U⟩::l)::k) e w:=by
 obtain⟨r,p,c⟩:=qc c;simp only[Prod.mk.injEq] at b;exact OF r h a (m p) b.1 b.2.1 b.2.2.1 b.2.2.2 (λw'  i=>o r w'  i c)
theorem uY{α:Type}[qm α]{F:Option (List α)}{g:(List α)->Option β}(h:SH w0 w L)(i:F.bind g=V rr)(o:∀{r},F=V r->qN prog f vs w r)
  (b:(gq e x,pD e args.toList,fi.toList++av++ca.toList,Nat.blt d n)=(V (.func (.func f) fi ca),V av,vs,An))
  (s:∀r w' S p c,SH w0 w' (oW S r [oL p r c]::L)->g r=V rr->bx prog n Q (.ops all l::k) ((d,oL p r c)::e) w') (a:kH prog f:=by exact cA Z):bx prog n Q (.ops all (⟨V d,.call ⟨.value x,args,ats⟩,ty,ps,af,U⟩::l)::k) e w:=by
 obtain⟨r,t,i⟩:=qc i;simp only[Prod.mk.injEq] at b;exact uH r h a (o t) b.1 b.2.1 b.2.2.1 b.2.2.2 (λw' S p c m=>s r w' S p c m i)
theorem qc6{α:Type}[qm α]{F:Option α}{g:α->Option β}(h:SH w0 w L)(c:F.bind g=V rr)(m:∀{r},F=V r->qN prog f vs w r)
  (b:(gq e x,pD e args.toList,fi.toList++av++ca.toList,Nat.blt d n)=(V (.func (.func f) fi ca),V av,vs,An))
  (o:∀r w' S cs,SH w0 w' (oW S r cs::L)->g r=V rr->bx prog n Q (.ops all l::k) ((d,oV α cs)::e) w') (a:kH prog f:=by exact cA Z):bx prog n Q (.ops all (⟨V d,.call ⟨.value x,args,ats⟩,ty,ps,af,U⟩::l)::k) e w:=by
 obtain⟨r,p,c⟩:=qc c;simp only[Prod.mk.injEq] at b;exact BE r h a (m p) b.1 b.2.1 b.2.2.1 b.2.2.2 (λw' S cs i=>o r w' S cs i c)
end
def qeS:List Nat:=[0,1,261,288]
theorem qeN:((List.range 299).all λf=>qeS.contains f || Z1 prog f)=An:=by kernel_rfl
theorem cA{f:Nat}(h:(Nat.blt f 299&&!qeS.contains f)=An):kH prog f:=by
 rw[je,Nat.blt_eq,jC] at h;have:=List.all_eq_true.1 qeN f (List.mem_range.2 h.1);rw[h.2] at this;exact Z2 this
theorem cB(f:Nat)(h:(Nat.blt f 299&&!qeS.contains f)=An):kH prog f:=cA h
def bk(_:Nat)(a:Int)(c:Int)(b:Int):Option Bool:=bif decide (a>=c) then V (decide (a<=b)) else V Cd
theorem aQ{a_n low high}  {r:Bool}(F:bk n a_n low high=V r):qN prog 32 [vi a_n,vi low,vi high] w r:=by
 refine zV 15 func32 Z λh=>X0 10 Z (qh (t:=10) F Z ?_ ?_)<;>intro F
 .exact X0 9 Z (rb h F Z)
 exact X0 6 Z (rb h F Z)
def kV(s:ByteArray):Nat->Int->Option (eE Bool Int)|0,_=>U|n+1,a=>bif decide (a<(s.size:Int)) then((Y4 s a).bind λd=>bif decide (d>=97) then(Y4 s a).bind λf=>V (decide (f<=122)) else V Cd).bind λb1=>((Y4 s a).bind λb=>bif decide (b>=48) then(Y4 s a).bind λc=>V (decide (c<=57)) else V Cd).bind λb2=>bif (!b1) then bif b2 then bif (!(decide (a > 0))) then V (.ret Cd) else kV s n (qj (a+1)) else V (.ret Cd) else kV s n (qj (a+1)) else V (.nxt a)
def pa(n:Nat)(s:ByteArray):Option Bool:=(kV s n 0).bind λ|.ret r=>V r|.nxt _=>bif decide ((s.size:Int)>=1) then V (decide ((s.size:Int)<=8)) else V Cd
theorem tA{s}  {r:Bool}(F:pa n s=V r):qN prog 201 [.string s] w r:=by
 refine zV 50 func201 Z λh=>X0 9 Z ?_;obtain⟨o1,F,a⟩:=qc F;refine qq (rL (λm e w'=>∃g,kV s m g=V o1/\e=[(0,.string s),(3,vi g)]/\SH w w' []) n ⟨_,F,Z,h⟩ Z ?_);rintro v _ _ ⟨g,F,rfl,h⟩;rcases v with _|v
 .cases F
 refine X0 8 Z (qn Z F ?_ ?_)<;>intro F
 .refine X0 4 Z ?_;obtain⟨k,f,_,F,c⟩:=bindE F;refine bw (λe w'=>∃b1,k b1=V o1/\e=[(0,.string s),(3,vi g),(4,.bool b1)]/\SH w w' []) ?_ ?_
  .refine X0 3 Z ?_;obtain⟨_,p,F⟩:=qc F;have z:=CP p;refine dF (EP qa z Z Z Z Z) Z (mr Z (qh (t:=16) F Z ?_ ?_))<;>intro F
   .refine X0 5 Z ?_;obtain⟨_,u,F⟩:=qc F;have A:=CP u;refine dF (EP qa A Z Z Z Z) Z (X0 5 Z ?_);exact rH F c h Z
   refine X0 7 Z ?_;exact rH F c h Z
  rintro _ _ ⟨b1,F,rfl,h⟩;subst f;refine aD ?_;obtain⟨i,d,_,F,b⟩:=bindE F;refine bw (λe w'=>∃b2,i b2=V o1/\e=[(0,.string s),(3,vi g),(4,.bool b1),(5,.bool b2)]/\SH w w' []) ?_ ?_
  .refine X0 3 Z ?_;obtain⟨_,l,F⟩:=qc F;have x:=CP l;refine dF (EP qa x Z Z Z Z) Z (mr Z (qh (t:=26) F Z ?_ ?_))<;>intro F
   .refine X0 5 Z ?_;obtain⟨_,o,F⟩:=qc F;have y:=CP o;refine dF (EP qa y Z Z Z Z) Z (X0 5 Z ?_);exact rH F b h Z
   refine X0 7 Z ?_;exact rH F b h Z
  rintro _ _ ⟨b2,F,rfl,h⟩;subst d;refine X0 5 Z (qh (t:=34) F Z ?_ ?_)<;>intro F
  .refine X0 4 Z (qh (t:=36) F Z ?_ ?_)<;>intro F
   .refine X0 10 Z (qn Z F ?_ ?_)<;>intro F
    .refine X0 4 Z ?_;cases qe F;exact rb h a Z
    exact X0 7 Z (rK ⟨_,F,Z,h⟩ Z)
   refine X0 8 Z (dO Z Z (X0 4 Z ?_));cases qe F;exact rb h a Z
  exact X0 8 Z (bQ Z Z (X0 7 Z (rK ⟨_,F,Z,h⟩ Z)))
 refine qy Z ?_;cases qe F;have F:=a;refine X0 6 Z (qh (t:=45) F Z ?_ ?_)<;>intro F
 .exact X0 9 Z (rb h F Z)
 exact X0 6 Z (rb h F Z)
def mO(Ce:qQ)(b:Int)(c:bp):Nat->Int->Option (eE (Int×Bool) Int)|0,_=>U|n+1,a=>bif decide (a<b) then(qG Ce.Bh a).bind λd=>bif (d.Bi.toList==c.Bi.toList) then V (.ret (0,Cd)) else mO Ce b c n (qj (a+1)) else V (.nxt a)
def ii(Ce:qQ):Nat->Int->Int->Option (eE (Int×Bool) (Int×Int))|0,_,_=>U|n+1,c,a=>bif decide (a<(Ce.Bh.length:Int)) then(qG Ce.Bh a).bind λb=>(mO Ce a b n 0).bind λ|.ret r=>V (.ret r)|.nxt _=>((pa n b.Bi).bind λr1=>bif (!r1) then V An else(bk n b.Bs 0 500).bind λg=>V (!g)).bind λd=>bif d then V (.ret (0,Cd)) else(bif (a==(qj ((Ce.Bh.length:Int)-1))) then bif (b.Bx != 2) then V An else bif (b.Bs != 0) then V An else bif b.Bt then V An else bif decide (a<(qj ((Ce.Bh.length:Int)-1))) then V (b.Bx != 1) else V Cd else bif decide (a<(qj ((Ce.Bh.length:Int)-1))) then V (b.Bx != 1) else V Cd).bind λf=>bif f then V (.ret (0,Cd)) else bif b.Bt then ii Ce n (qj (c+1)) (qj (a+1)) else ii Ce n c (qj (a+1)) else V (.nxt (c,a))
def xh(n:Nat)(Ce:qQ):Option (Int×Bool):=(bif decide ((Ce.Bh.length:Int)<2) then V An else V (decide ((Ce.Bh.length:Int) > 5))).bind λb1=>bif b1 then V (0,Cd) else(ii Ce n 0 0).bind λ|.ret r=>V r|.nxt (a,_)=>V (a,An)
theorem NK{Ce:qQ}(I:Ro w Ce cs1){r:Int×Bool}(F:xh n Ce=V r):qN prog 239 [gv Ce cs1] w r:=by
 obtain⟨p1,u,x,v,y,k3,rfl,s1,_,_⟩:=aV I;refine zV 86 func239 Z λh=>db (qK h Z Z λ_ a h=>X1 12 0 h Z ?_);obtain⟨C,s,_,F,l⟩:=bindE F;refine bw (λe w'=>∃b1,C b1=V r/\e=[(1,vp a),(4,vi (Ce.Bh.length:Int)),(17,.bool b1)]/\SH w w' [oX a (qP Ce p1 x y u v k3) 106]) ?_ ?_
 .refine X0 4 Z (qh (t:=14) F Z ?_ ?_)<;>intro F
  .refine X0 4 Z ?_;exact rH F l h Z
  refine X0 6 Z ?_;exact rH F l h Z
 rintro _ _ ⟨b1,F,rfl,h⟩;subst s;refine qn Z F ?_ ?_<;>intro F
 .refine X0 5 Z ?_;cases qe F;exact aC qa (ρ:=(Int×Bool)) [oV Int [vi 0],oV Bool [.bool Cd]] h ⟨Z,Z,G⟩ (Cr h (aj h sO ve (by rfl)))
 refine X0 10 Z ?_;obtain⟨o1,F,d⟩:=qc F;refine qq (rL (λm e w'=>∃f g,ii Ce m f g=V o1/\e=[(1,vp a),(4,vi (Ce.Bh.length:Int)),(5,vi f),(6,vi g)]/\SH w w' [oX a (qP Ce p1 x y u v k3) 106]) n ⟨_,_,F,Z,h⟩ Z ?_);rintro W _ _ ⟨f,g,F,rfl,h⟩;rcases W with _|W
 .cases F
 refine X0 7 Z (qn Z F ?_ ?_)<;>intro F
 .refine X1 8 0 h Z ?_;obtain⟨z,_,F,L,_,_,_,_,N,P,R,J⟩:=s1.ix F;obtain rfl:=mG R;refine ft N P L Z (bL 0 J h Z (qi qa h Z Z Z λ_ c h=>zs 0 h Z λ_ h=>X0 6 Z ?_));obtain⟨o2,F,i⟩:=qc F;refine qq (rL (λm e w'=>∃T,mO Ce g z m T=V o2/\e=[(1,vp a),(4,vi (Ce.Bh.length:Int)),(5,vi f),(6,vi g),(7,vp c),(8,vi T)]/\SH w w' [oX c (OM z) 304,oX a (qP Ce p1 x y u v k3) 106]) W ⟨_,F,Z,h⟩ Z ?_);rintro X _ _ ⟨T,F,rfl,h⟩;rcases X with _|X
  .cases F
  refine X0 7 Z (qn Z F ?_ ?_)<;>intro F
  .refine X0 4 Z (rD (Y1 2 1 h Z ?_));refine xm Z ?_;obtain⟨_,_,F,M,_,_,_,_,O,Q,S,K⟩:=s1.ix F;obtain rfl:=mG S;refine fU O Q M Z (xm Z (dZ 0 K h Z (Y1 2 0 h Z ?_)));refine xm Z (dN h λ_ h=>qn Z F ?_ ?_)<;>intro F
   .refine X0 5 Z ?_;cases qe F;have F:=i;cases qe F;have F:=d;cases qe F;exact aC qa (ρ:=(Int×Bool)) [oV Int [vi 0],oV Bool [.bool Cd]] h ⟨Z,Z,G⟩ (Cr h (aj h sO ve (by rfl)))
   exact X0 7 Z (rK ⟨_,F,Z,h⟩ Z)
  refine qy Z ?_;cases qe F;have F:=i;refine qd6 ?_;obtain⟨B,p,_,F,k⟩:=bindE F;refine bw (λe w'=>∃D,B D=V o1/\e=[(1,vp a),(4,vi (Ce.Bh.length:Int)),(5,vi f),(6,vi g),(7,vp c),(51,.bool D)]/\SH w w' [oX c (OM z) 304,oX a (qP Ce p1 x y u v k3) 106]) ?_ ?_
  .refine X1 3 0 h Z (dI h F tA Z λ_ _ h F=>mr Z (qh (t:=46) F Z ?_ ?_))<;>intro F
   .refine X0 6 Z ?_;exact rH F k h Z
   refine X1 5 0 h Z (dI h F aQ Z λ_ _ h F=>X0 4 Z ?_);exact rH F k h Z
  rintro _ _ ⟨D,F,rfl,h⟩;subst p;refine qn Z F ?_ ?_<;>intro F
  .refine X0 5 Z ?_;cases qe F;have F:=d;cases qe F;exact aC qa (ρ:=(Int×Bool)) [oV Int [vi 0],oV Bool [.bool Cd]] h ⟨Z,Z,G⟩ (Cr h (aj h sO ve (by rfl)))
  refine qbm ?_;obtain⟨A,o,_,F,b⟩:=bindE F;refine bw (λe w'=>∃H,A H=V o1/\e=[(1,vp a),(4,vi (Ce.Bh.length:Int)),(5,vi f),(6,vi g),(7,vp c),(80,.bool H)]/\SH w w' [oX c (OM z) 304,oX a (qP Ce p1 x y u v k3) 106]) ?_ ?_
  .refine X0 6 Z (qh (t:=56) F Z ?_ ?_)<;>intro F
   .refine X1 8 0 h Z (qh (t:=60) F Z ?_ ?_)<;>intro F
    .refine X0 24 Z ?_;exact rH F b h Z
    refine X1 10 0 h Z (qh (t:=65) F Z ?_ ?_)<;>intro F
    .refine X0 17 Z ?_;exact rH F b h Z
    refine X1 8 0 h Z (qh (t:=70) F Z ?_ ?_)<;>intro F
    .refine X0 11 Z ?_;exact rH F b h Z
    refine X0 10 Z (qh (t:=75) F Z ?_ ?_)<;>intro F
    .refine X1 10 0 h Z ?_;exact rH F b h Z
    refine X0 7 Z ?_;exact rH F b h Z
   refine X0 24 Z (qh (t:=75) F Z ?_ ?_)<;>intro F
   .refine X1 10 0 h Z ?_;exact rH F b h Z
   refine X0 7 Z ?_;exact rH F b h Z
  rintro _ _ ⟨H,F,rfl,h⟩;subst o;refine qn Z F ?_ ?_<;>intro F
  .refine X0 5 Z ?_;cases qe F;have F:=d;cases qe F;exact aC qa (ρ:=(Int×Bool)) [oV Int [vi 0],oV Bool [.bool Cd]] h ⟨Z,Z,G⟩ (Cr h (aj h sO ve (by rfl)))
  refine X1 6 0 h Z (qn Z F ?_ ?_)<;>intro F
  .refine X0 11 Z ?_;exact rK ⟨_,_,F,Z,h.p [1] Z⟩ Z
  refine X0 7 Z ?_;exact rK ⟨_,_,F,Z,h.p [1] Z⟩ Z
 refine qy Z ?_;cases qe F;have F:=d;refine X0 6 Z ?_;cases qe F;exact aC qa (ρ:=(Int×Bool)) [oV Int [vi f],oV Bool [.bool An]] h ⟨Z,Z,G⟩ (Cr h (aj h sO ve (by rfl)))
def kR(list:List Int):Nat->Int->Option (eE Bool Int)|0,_=>U|n+1,a=>bif decide (a<(list.length:Int)) then(qG list a).bind λb=>(bk n b 0 100000).bind λr1=>bif (!r1) then V (.ret Cd) else bif decide (a > 0) then(qG list (qj (a-1))).bind λc=>(qG list a).bind λd=>bif decide (c>=d) then V (.ret Cd) else kR list n (qj (a+1)) else kR list n (qj (a+1)) else V (.nxt a)
def uN(n:Nat)(list:List Int):Option Bool:=(kR list n 0).bind λ|.ret r=>V r|.nxt _=>bif decide ((list.length:Int)>=1) then V (decide ((list.length:Int)<=4)) else V Cd
theorem BT{list:List Int}(b:Ro w list cs1){r:Bool}(F:uN n list=V r):qN prog 202 [gv list cs1] w r:=by
 obtain⟨p1,A,rfl,s1⟩:=b;refine zV 40 func202 Z λh=>X0 9 Z ?_;obtain⟨o1,F,a⟩:=qc F;refine qq (rL (λm e w'=>∃y,kR list m y=V o1/\e=[(0,oL p1 list A),(3,vi y)]/\SH w w' []) n ⟨_,F,Z,h⟩ Z ?_);rintro z _ _ ⟨y,F,rfl,h⟩;rcases z with _|z
 .cases F
 refine X0 8 Z (qn Z F ?_ ?_)<;>intro F
 .refine X0 4 Z (rD (xz Z ?_));obtain⟨_,_,F,g,_,_,_,_,l,s,rfl,c⟩:=s1.ix F;refine fU l s g Z (dZ 0 c h Z ?_);obtain⟨r1,x,F⟩:=qc F;refine dB r1 (MT _) (cB 32 Z) (λ_ B=>aQ  x) Z Z Z Z (xz Z (bu (t:=16) F Z ?_ ?_))<;>intro F
  .refine Y0 15 Z (dN h λ_ h=>dO Z Z (X0 4 Z ?_));cases qe F;exact rb h a Z
  refine Y0 6 Z (bu (t:=19) F Z ?_ ?_)<;>intro F
  .refine Y0 7 Z ?_;obtain⟨_,_,F,i,_,_,_,_,o,u,rfl,d⟩:=s1.ix F;refine fU o u i Z (Y0 1 Z (dZ 0 d h Z (Y0 5 Z ?_)));obtain⟨_,_,F,k,_,_,_,_,p,v,rfl,f⟩:=s1.ix F;refine fU p v k Z (Y0 1 Z (dZ 0 f h Z (Y0 5 Z (dN h λ_ h=>qn Z F ?_ ?_))))<;>intro F
   .refine X0 4 Z ?_;cases qe F;exact rb h a Z
   exact X0 7 Z (rK ⟨_,F,Z,h⟩ Z)
  exact Y0 13 Z (dN h λ_ h=>bQ Z Z (X0 7 Z (rK ⟨_,F,Z,h⟩ Z)))
 refine qy Z ?_;cases qe F;have F:=a;refine X0 6 Z (qh (t:=35) F Z ?_ ?_)<;>intro F
 .exact X0 9 Z (rb h F Z)
 exact X0 6 Z (rb h F Z)
def mK(t:qU):Nat->Int->Option (eE Bool Int)|0,_=>U|n+1,a=>bif decide (a<(t.Bg.length:Int)) then(qG t.Bg a).bind λb=>(bk n b (-1000000) 1000000).bind λr1=>bif (!r1) then V (.ret Cd) else mK t n (qj (a+1)) else V (.nxt a)
def uM(n:Nat)(t:qU):Option Bool:=((uN n t.Bp).bind λa=>bif (!a) then V An else(uN n t.Bj).bind λb=>bif (!b) then V An else V ((t.Bg.length:Int) != (qj ((t.Bp.length:Int)*(t.Bj.length:Int))))).bind λb1=>bif b1 then V Cd else(mK t n 0).bind λ|.ret r=>V r|.nxt _=>V An
theorem BR{t:qU}(g:Ro w t cs1){r:Bool}(F:uM n t=V r):qN prog 146 [gv t cs1] w r:=by
 obtain⟨p1,s,x,u,y,k3,rfl,s1,s2,z⟩:=ee g;refine zV 41 func146 Z λh=>db (qK h Z Z λ_ a h=>X0 4 Z ?_);obtain⟨f,d,_,F,b⟩:=bindE F;refine bw (λe w'=>∃b1,f b1=V r/\e=[(1,vp a),(26,.bool b1)]/\SH w w' [oX a (lc t p1 x y s u k3) 175]) ?_ ?_
 .refine X1 3 0 h Z (dI h F (BT ⟨_,_,Z,(h.oldS s1)⟩) Z λ_ _ h F=>mr Z (qh (t:=8) F Z ?_ ?_))<;>intro F
  .refine X0 19 Z ?_;exact rH F b h Z
  refine X1 5 0 h Z (dI h F (BT ⟨_,_,Z,(h.oldS s2)⟩) Z λ_ _ h F=>X0 4 Z (qh (t:=14) F Z ?_ ?_))<;>intro F
  .refine X0 13 Z ?_;exact rH F b h Z
  refine X3 24 0 0 0 h Z ?_;exact rH F b h Z
 rintro _ _ ⟨b1,F,rfl,h⟩;subst d;refine qn Z F ?_ ?_<;>intro F
 .exact X0 4 Z (rb h F Z)
 refine X0 6 Z ?_;obtain⟨o1,F,c⟩:=qc F;refine qq (rL (λm e w'=>∃p,mK t m p=V o1/\e=[(1,vp a),(3,vi p)]/\SH w w' [oX a (lc t p1 x y s u k3) 175]) n ⟨_,F,Z,h⟩ Z ?_);rintro v _ _ ⟨p,F,rfl,h⟩;rcases v with _|v
 .cases F
 refine X1 9 0 h Z (qn Z F ?_ ?_)<;>intro F
 .refine X1 8 0 h Z ?_;obtain⟨_,_,F,k,_,_,_,_,l,o,rfl,i⟩:=z.ix F;refine ft l o k Z (bL 0 i h Z (dI h F aQ Z λ_ _ h F=>X0 2 Z (qn Z F ?_ ?_)))<;>intro F
  .refine X0 4 Z ?_;cases qe F;exact rb h c Z
  exact X0 7 Z (rK ⟨_,F,Z,h⟩ Z)
 refine qy Z ?_;cases qe F;exact X0 4 Z (rb h c Z)
def gQ(t:qU):Nat->Int->Int->Int->Option (Int×Int×Int)|0,_,_,_=>U|n+1,b,c,a=>bif decide (a<(t.Bg.length:Int)) then(qG t.Bg a).bind λd=>(qG t.Bg a).bind λf=>gQ t n (if d<b then d else b) (if f > c then f else c) (qj (a+1)) else V (b,c,a)
def sj(n:Nat)(t:qU):Option (qg×Int):=(uM n t).bind λr1=>bif (!r1) then V ((⟨0,0⟩:qg),1) else(qG t.Bg 0).bind λc=>(qG t.Bg 0).bind λd=>(gQ t n c d 1).bind λ(a,b,_)=>V ((⟨a,b⟩:qg),0)
theorem GA{t:qU}(d:Ro w t cs1){r:qg×Int}(F:sj n t=V r):qN prog 278 [gv t cs1] w r:=by
 obtain⟨p1,M,O,N,P,k3,rfl,_,_,i⟩:=ee d;refine zV 45 func278 Z λh=>db (qK h Z Z λ_ a h=>qi qa h Z Z Z λ_ b h=>X1 6 1 h Z (dI h F (BR (h.old d)) Z λ_ _ h F=>X0 2 Z (qn Z F ?_ ?_)))<;>intro F
 .refine db (dF (qB qa [] [] z8) Z (zs 0 h Z λ_ h=>X0 2 Z ?_));cases qe F;exact aC qa (ρ:=(qg×Int)) [oV qg [vi 0,vi 0],oV Int [vi 1]] h ⟨⟨_,_,_,Z,Z,h.box 0 Z,Z⟩,Z,G⟩ (Cr h (aj h (mo (S:=λ_=>False) (qI (⟨0,0⟩:qg))) ve (by rfl)))
 refine N7 (rA [] [1] h Z λ_ h=>M1 3 [0,1] 0 (h.p [1] Z) Z ?_);obtain⟨_,_,F,u,_,_,_,_,z,D,rfl,l⟩:=i.ix F;refine Ae 2 7 z D u (h.p [1] Z) Z (Al 3 15 0 l (h.p [1] Z) Z (M1 63 [4,5] 0 (h.p [1] Z) Z ?_));obtain⟨_,_,F,v,_,_,_,_,A,H,rfl,o⟩:=i.ix F;refine Ae 6 127 A H v (h.p [1] Z) Z (Al 7 255 0 o (h.p [1] Z) Z (Aw 8 511 (λw' R=>qB qa [0,1] [.tmp 13,.tmp 17] z8) (h.p [1] Z) Z ?_));refine Ao 9 1023 Z (qi qa h Z Z Z λ_ c h=>Ag (h.p [2] Z) (Ao 10 2047 Z (zs 0 h Z λ_ h=>Ag (h.p [2] Z) (Ad (X0 5 Z ?_)))));obtain⟨o1,F,k⟩:=qc F;refine qq (rL (λm e w'=>∃f g K,gQ t m f g K=V o1/\e=[(1,vp a),(2,vp b),(4,vp c),(5,vi K)]/\SH w w' [oX c [vi f,vi g] 59,oX b [vi 0,vi 0] 59,oX a (lc t p1 O P M N k3) 175]) n ⟨_,_,_,F,Z,h⟩ Z ?_);rintro L _ _ ⟨f,g,K,F,rfl,h⟩;rcases L with _|L
 .cases F
 refine X1 9 2 h Z (qn Z F ?_ ?_)<;>intro F
 .refine X0 4 Z (rA [9] [0,2] h Z λ_ h=>M2 31 [0,1,2,3,4] 0 1 (h.p [0,2] Z) Z ?_);obtain⟨_,_,F,x,_,_,_,_,B,I,rfl,p⟩:=i.ix F;refine Ae 5 63 B I x (h.p [0,2] Z) Z (Al 6 127 0 p (h.p [0,2] Z) Z (M0 511 [7,8] (h.p [0,2] Z) Z (Ao 9 1023 Z (zs 0 h Z λ_ h=>bN (λQ=>absurd (Q 9 (by decide)) (by decide)) (Ad (rA [9] [0,2] h Z λ_ h=>M2 31 [0,1,2,3,4] 0 1 (h.p [0,2] Z) Z ?_))))));obtain⟨_,_,F,y,_,_,_,_,C,J,rfl,s⟩:=i.ix F;exact Ae 5 63 C J y (h.p [0,2] Z) Z (Al 6 127 0 s (h.p [0,2] Z) Z (M0 511 [7,8] (h.p [0,2] Z) Z (Ao 9 1023 Z (zs 0 h Z λ_ h=>bN (λQ=>absurd (Q 9 (by decide)) (by decide)) (Ad (X0 6 Z (rK ⟨_,_,_,F,Z,h⟩ Z)))))))
 refine qy Z ?_;cases qe F;have F:=k;refine X1 3 0 h Z (zs 1 h Z λ_ h=>X0 2 Z ?_);cases qe F;exact aC qa (ρ:=(qg×Int)) [oV qg [vi f,vi g],oV Int [vi 0]] h ⟨⟨_,_,_,Z,Z,h.box 1 Z,Z⟩,Z,G⟩ (Cr h (aj h (mo (S:=λ_=>False) (qI (⟨f,g⟩:qg))) ve (by rfl)))
def gG(list:List qU)(f:Bool):Nat->Int->Option (eE Bool Int)|0,_=>U|n+1,a=>bif decide (a<2) then(qG list a).bind λd=>(sj n d).bind λ(b,c)=>bif (c != 0) then V (.ret Cd) else bif f then bif decide (b.Ar<0) then V (.ret Cd) else gG list f n (qj (a+1)) else gG list f n (qj (a+1)) else V (.nxt a)
def ku(n:Nat)(list:List qU)(a:Bool):Option Bool:=bif ((list.length:Int) != 2) then V Cd else(gG list a n 0).bind λ|.ret r=>V r|.nxt _=>V An
theorem nB{list:List qU}{positive}(c:Ro w list cs1){r:Bool}(F:ku n list positive=V r):qN prog 265 [gv list cs1,.bool positive] w r:=by
 obtain⟨p1,x,rfl,s1⟩:=c;refine zV 33 func265 Z λh=>X0 11 Z (qn Z F ?_ ?_)<;>intro F
 .exact X0 4 Z (rb h F Z)
 refine X0 6 Z ?_;obtain⟨o1,F,a⟩:=qc F;refine qq (rL (λm e w'=>∃u,gG list positive m u=V o1/\e=[(0,oL p1 list x),(1,.bool positive),(5,vi u)]/\SH w w' []) n ⟨_,F,Z,h⟩ Z ?_);rintro v _ _ ⟨u,F,rfl,h⟩;rcases v with _|v
 .cases F
 refine X0 6 Z (qn Z F ?_ ?_)<;>intro F
 .refine X0 7 Z ?_;obtain⟨C,_,F,f,_,_,_,_,g,i,k,d⟩:=s1.ix F;obtain⟨_,_,_,_,_,_,rfl,s2,A,B⟩:=ee k;refine ft g i f Z (bL 0 d h Z ?_);obtain⟨⟨y,z⟩,l,F⟩:=qc F;refine bB (y,z) h (cB 278 Z) (GA (tL C (h.oldS s2) (h.oldS A) (h.oldS B)) l) Z Z Z Z λ_ _ _ s o=>?_;obtain⟨_,_,_,_,rfl,b,p⟩:=s.cons o;obtain rfl:=qC (b.sh.own 0 Z);obtain⟨rfl,h⟩:=b.lastI p;refine CK Z (qi qa h Z Z Z λ_ _ h=>zs 0 h Z λ_ h=>X0 7 Z (qh (t:=25) F Z ?_ ?_))<;>intro F
  .refine X0 8 Z (dO Z Z (X0 4 Z ?_));cases qe F;exact rb h a Z
  refine X0 4 Z (qh (t:=27) F Z ?_ ?_)<;>intro F
  .refine X1 10 0 h Z (qn Z F ?_ ?_)<;>intro F
   .refine X0 4 Z ?_;cases qe F;exact rb h a Z
   refine X0 7 Z ?_;exact rK ⟨_,F,Z,h.p [] Z⟩ Z
  refine X0 7 Z (bQ Z Z (X0 7 Z ?_));exact rK ⟨_,F,Z,h.p [] Z⟩ Z
 refine qy Z ?_;cases qe F;exact X0 4 Z (rb h a Z)
def yF(n:Nat)(Ce:qQ)(Cf:bo):Option Bool:=((bk n Cf.Bm 0 (qj ((qj ((Ce.Bh.length:Int)-1))-1))).bind λi=>bif (!i) then V An else(bk n Cf.To 0 (qj ((Ce.Bh.length:Int)-1))).bind λk=>V (!k)).bind λb1=>bif b1 then V Cd else(qG Ce.Bh Cf.Bm).bind λa=>bif (Cf.Bf==1) then bif (!a.Bt) then bif (Cf.To==(qj ((Ce.Bh.length:Int)-1))) then(bk n Cf.Br 1 3).bind λr1=>bif r1 then(ku n Cf.Bq An).bind λc=>bif c then(ku n Cf.Ba An).bind λd=>V d else V Cd else V Cd else V Cd else V Cd else(bif (Cf.Bf==2) then V (Cf.Bf==2) else V (Cf.Bf==3)).bind λb3=>bif b3 then bif a.Bt then bif (Cf.To==(qj ((Ce.Bh.length:Int)-1))) then bif (Cf.Br==0) then(ku n Cf.Bq An).bind λf=>bif f then(ku n Cf.Ba An).bind λg=>V g else V Cd else V Cd else V Cd else V Cd else(bif (Cf.Bf==4) then V (Cf.Bf==4) else V (Cf.Bf==5)).bind λb=>bif b then bif a.Bt then bif decide (Cf.To<(qj ((Ce.Bh.length:Int)-1))) then(qG Ce.Bh Cf.To).bind λl=>bif (!l.Bt) then bif (Cf.Br==0) then(ku n Cf.Bq Cd).bind λh=>bif h then V ((Cf.Ba.length:Int)==0) else V Cd else V Cd else V Cd else V Cd else V Cd else V Cd
theorem QF{Ce:qQ}{Cf:bo}(s:Ro w Ce cs1)(u:Ro w Cf cs2){r:Bool}(F:yF n Ce Cf=V r):qN prog 240 [gv Ce cs1,gv Cf cs2] w r:=by
 obtain⟨p1,J,N,K,O,k3,rfl,s1,_,_⟩:=aV s;obtain⟨P,L,Q,M,rfl,R,S⟩:=bd u;refine zV 119 func240 Z λh=>db (qK h Z Z λ_ a h=>qK h Z Z λ_ b h=>X1 12 1 h Z ?_);obtain⟨o,k,_,F,f⟩:=bindE F;refine bw (λe w'=>∃b1,o b1=V r/\e=[(2,vp a),(3,vp b),(5,vi (qj ((Ce.Bh.length:Int)-1))),(23,.bool b1)]/\SH w w' [oX b (kI Cf P Q L M) 109,oX a (qP Ce p1 N O J K k3) 106]) ?_ ?_
 .refine X1 5 0 h Z (dI h F aQ Z λ_ _ h F=>mr Z (qh (t:=17) F Z ?_ ?_))<;>intro F
  .refine X0 7 Z ?_;exact rH F f h Z
  refine X1 7 0 h Z (dI h F aQ Z λ_ _ h F=>X0 4 Z ?_);exact rH F f h Z
 rintro _ _ ⟨b1,F,rfl,h⟩;subst k;refine qn Z F ?_ ?_<;>intro F
 .exact X0 4 Z (rb h F Z)
 refine X2 7 1 0 h Z ?_;obtain⟨T,_,F,y,_,_,_,_,A,C,H,v⟩:=s1.ix F;obtain rfl:=mG H;refine ft A C y Z (cr Z (bL 3 v h Z (X1 14 0 h Z (qn Z F ?_ ?_))))<;>intro F
 .refine X0 5 Z (qh (t:=37) F Z ?_ ?_)<;>intro F
  .refine X1 10 0 h Z (qh (t:=43) F Z ?_ ?_)<;>intro F
   .refine X1 5 0 h Z (dI h F aQ Z λ_ _ h F=>mr Z (qh (t:=48) F Z ?_ ?_))<;>intro F
    .refine X1 5 0 h Z (dI h F (nB ⟨_,_,Z,(h.oldS R)⟩) Z λ_ _ h F=>mr Z (qh (t:=53) F Z ?_ ?_))<;>intro F
     .exact X1 5 0 h Z (dI h F (nB ⟨_,_,Z,(h.oldS S)⟩) Z λ_ _ h F=>X0 3 Z (rb h F Z))
     exact X0 6 Z (rb h F Z)
    exact X0 11 Z (rb h F Z)
   exact X0 16 Z (rb h F Z)
  exact X0 22 Z (rb h F Z)
 refine X0 6 Z ?_;obtain⟨m,i,_,F,d⟩:=bindE F;refine bw (λe w'=>∃b3,m b3=V r/\e=[(2,vp a),(3,vp b),(5,vi (qj ((Ce.Bh.length:Int)-1))),(6,.bool T.Bt),(32,vi Cf.Bf),(58,.bool b3)]/\SH w w' [oX b (kI Cf P Q L M) 109,oX a (qP Ce p1 N O J K k3) 106]) ?_ ?_
 .refine qn Z F ?_ ?_<;>intro F
  .refine eZ ?_;exact rH F d h Z
  refine X0 4 Z ?_;exact rH F d h Z
 rintro _ _ ⟨b3,F,rfl,h⟩;subst i;refine qn Z F ?_ ?_<;>intro F
 .refine X0 4 Z (qh (t:=62) F Z ?_ ?_)<;>intro F
  .refine X1 10 0 h Z (qh (t:=68) F Z ?_ ?_)<;>intro F
   .refine X1 8 0 h Z (qh (t:=73) F Z ?_ ?_)<;>intro F
    .refine X1 5 0 h Z (dI h F (nB ⟨_,_,Z,(h.oldS R)⟩) Z λ_ _ h F=>mr Z (qh (t:=78) F Z ?_ ?_))<;>intro F
     .exact X1 5 0 h Z (dI h F (nB ⟨_,_,Z,(h.oldS S)⟩) Z λ_ _ h F=>X0 3 Z (rb h F Z))
     exact X0 6 Z (rb h F Z)
    exact X0 11 Z (rb h F Z)
   exact X0 16 Z (rb h F Z)
  exact X0 22 Z (rb h F Z)
 refine X0 6 Z ?_;obtain⟨l,g,_,F,c⟩:=bindE F;refine bw (λe w'=>∃p,l p=V r/\e=[(2,vp a),(3,vp b),(5,vi (qj ((Ce.Bh.length:Int)-1))),(6,.bool T.Bt),(83,.bool p)]/\SH w w' [oX b (kI Cf P Q L M) 109,oX a (qP Ce p1 N O J K k3) 106]) ?_ ?_
 .refine qn Z F ?_ ?_<;>intro F
  .refine eZ ?_;exact rH F c h Z
  refine X0 4 Z ?_;exact rH F c h Z
 rintro _ _ ⟨p,F,rfl,h⟩;subst g;refine qn Z F ?_ ?_<;>intro F
 .refine X0 4 Z (qh (t:=87) F Z ?_ ?_)<;>intro F
  .refine X1 10 0 h Z (qh (t:=93) F Z ?_ ?_)<;>intro F
   .refine X2 9 1 0 h Z ?_;obtain⟨_,_,F,z,_,_,_,_,B,D,I,x⟩:=s1.ix F;obtain rfl:=mG I;refine ft B D z Z (X0 3 Z (bL 3 x h Z (X0 4 Z (qh (t:=103) F Z ?_ ?_))))<;>intro F
    .refine X1 8 0 h Z (qh (t:=108) F Z ?_ ?_)<;>intro F
     .refine X1 5 0 h Z (dI h F (nB ⟨_,_,Z,(h.oldS R)⟩) Z λ_ _ h F=>mr Z (qh (t:=113) F Z ?_ ?_))<;>intro F
      .exact X1 11 0 h Z (rb h F Z)
      exact X0 7 Z (rb h F Z)
     exact X0 12 Z (rb h F Z)
    exact X0 17 Z (rb h F Z)
   exact X0 27 Z (rb h F Z)
  exact X0 33 Z (rb h F Z)
 exact X0 6 Z (rb h F Z)
def iL(c:qQ):Nat->(List Int)->Int->Option ((List Int)×Int)|0,_,_=>U|n+1,b,a=>bif decide (a<(c.Av.length:Int)) then(qG c.Av a).bind λd=>(qG b d.Bf).bind λf=>(qG b d.Bf).bind λ_=>iL c n (am b d.Bf (qj (f+1))) (qj (a+1)) else V (b,a)
def vL(n:Nat)(c:qQ):Option (List Int):=(yW 6 (0:Int)).bind λx1=>(iL c n x1 0).bind λ(a,_)=>V a
theorem LT{c:qQ}(l:Ro w c cs1){r:List Int}(F:vL n c=V r):qN prog 241 [gv c cs1] w r:=by
 obtain⟨p1,K,M,L,N,k3,rfl,_,s2,_⟩:=aV l;refine zV 25 func241 Z λh=>db (qK h Z Z λ_ b h=>X0 4 Z ?_);obtain⟨x1,a,F⟩:=qc F;obtain⟨I,J,a⟩:=aT a;refine bC qa Int h z9 I J a Z λ_ S1 H h=>X0 7 Z ?_;obtain⟨o1,F,k⟩:=qc F;refine qq (rL (λm e w'=>∃C B,iL c m C B=V o1/\e=[(1,vp b),(3,oS H x1.length x1.length),(4,vi B)]/\SH w w' [oW S1 (C:List Int) [oS H x1.length x1.length],oX b (qP c p1 M N K L k3) 106]) n ⟨_,_,F,Z,h⟩ Z ?_);rintro D _ _ ⟨C,B,F,rfl,h⟩;rcases D with _|D
 .cases F
 refine X1 9 1 h Z (qn Z F ?_ ?_)<;>intro F
 .refine X1 8 1 h Z ?_;obtain⟨_,_,F,t,_,_,_,_,u,x,z,o⟩:=s2.ix F;obtain⟨_,_,_,_,rfl,_,_⟩:=bd z;refine ft u x t Z (cr Z (bL 0 o h Z ?_));obtain⟨O,_,F,d,_,_,_,_,v,y,rfl,p⟩:=(h.sl 0 Z).1.ix F;refine zx v y ⟨d.1,qE d.2.1 (h.sl 0 Z).2⟩ Z (zc 0 p Z (cr Z ?_));obtain⟨_,A,F,f,_,_,_,_,g,i,rfl,s⟩:=(h.sl 0 Z).1.ix F;exact zx g i ⟨f.1,qE f.2.1 (h.sl 0 Z).2⟩ Z (bM qa 0 0 (qj (O+1)) h Z A g i Z s Z Z Z Z Z Z Z λ_ h=>X0 7 Z (rK ⟨_,_,F,Z,h⟩ Z))
 refine qy Z ?_;cases qe F;have F:=k;refine X0 5 Z ?_;cases qe F;exact rO 0 h Z ⟨Z,G⟩
end Go.Fw


namespace Go.Fw
open Go Go.Proofs Go.Proofs.Tryz
open Go.RowKit (Below)
open Ch renaming own->oW,box->oX,grp->oG
open qm renaming v->oV
open Go.Value renaming slice->oS
set_option maxRecDepth 100000
set_option maxHeartbeats 6400000
variable{n:Nat}{w:World}{cs1 cs2 cs3 cs4 cs5 cs6 cs7 cs8 cs9:List Value}
def kt(Ce:qQ)(c:Int)(b:bo):Nat->Int->Option (eE Bool Int)|0,_=>U|n+1,a=>bif decide (a<c) then(qG Ce.Av a).bind λd=>bif (d.Bf==b.Bf) then(qG Ce.Av a).bind λf=>bif (f.Bm==b.Bm) then(qG Ce.Av a).bind λg=>bif (g.To==b.To) then V (.ret Cd) else kt Ce c b n (qj (a+1)) else kt Ce c b n (qj (a+1)) else kt Ce c b n (qj (a+1)) else V (.nxt a)
def oq(Ce:qQ):Nat->Int->Option (eE Bool Int)|0,_=>U|n+1,a=>bif decide (a<(Ce.Bu.length:Int)) then(qG Ce.Bu a).bind λc=>(bk n c 0 1).bind λb=>bif (!b) then V (.ret Cd) else oq Ce n (qj (a+1)) else V (.nxt a)
def oo(Ce:qQ):Nat->Int->Option (eE Bool Int)|0,_=>U|n+1,a=>bif decide (a<(Ce.Av.length:Int)) then(qG Ce.Av a).bind λb=>(yF n Ce b).bind λc=>bif (!c) then V (.ret Cd) else(kt Ce a b n 0).bind λ|.ret r=>V (.ret r)|.nxt _=>oo Ce n (qj (a+1)) else V (.nxt a)
def yC(n:Nat)(Ce:qQ):Option Bool:=(xh n Ce).bind λ(b,g)=>(bif (!g) then V An else(pa n Ce.Bi).bind λh=>bif (!h) then V An else bif decide ((Ce.Av.length:Int) > 8) then V An else(bk n Ce.Cc 0 100000).bind λi=>bif (!i) then V An else(bk n Ce.Bz 0 100000).bind λk=>V (!k)).bind λb1=>bif b1 then V Cd else(oo Ce n 0).bind λ|.ret r=>V r|.nxt _=>(vL n Ce).bind λa=>bif (Ce.Bf==1) then(oq Ce n 0).bind λ|.ret r=>V r|.nxt _=>bif (b==0) then(F6 1 (IntKind.wrap .u64 (qj ((Ce.Bh.length:Int)-1)))).bind λl=>V ((Ce.Bu.length:Int)==l) else V Cd else bif (Ce.Bf==2) then bif (b==1) then(qG a 1).bind λm=>bif (m==0) then(qG a 2).bind λp=>(qG a 3).bind λs=>bif (!((decide (p > 0))==(decide (s > 0)))) then V ((Ce.Bu.length:Int)==0) else V Cd else V Cd else V Cd else bif (Ce.Bf==3) then bif (b==1) then(qG a 1).bind λc=>bif decide (c > 0) then(qG a 2).bind λd=>bif decide (d > 0) then(qG a 3).bind λf=>bif (f==0) then V ((Ce.Bu.length:Int)==0) else V Cd else V Cd else V Cd else V Cd else V Cd
theorem QD{Ce:qQ}(c:Ro w Ce cs1){r:Bool}(F:yC n Ce=V r):qN prog 200 [gv Ce cs1] w r:=by
 obtain⟨p1,O,Q,P,R,k3,rfl,_,s2,s3⟩:=aV c;refine zV 182 func200 Z λh=>db (qK h Z Z λ_ a h=>X1 5 0 h Z ?_);obtain⟨⟨N,r3⟩,d1,F⟩:=qc F;refine bB (N,r3) h (cB 239 Z) (NK (h.old c) d1) Z Z Z Z λ_ _ _ d9 d3=>?_;obtain⟨_,_,rfl,e2,d4⟩:=d9.consI d3;obtain⟨rfl,h⟩:=e2.lastB d4;refine X0 8 Z ?_;obtain⟨S,p,_,F,b⟩:=bindE F;refine bw (λe w'=>∃b1,S b1=V r/\e=[(1,vp a),(3,vi N),(40,.bool b1)]/\SH w w' [oX a (qP Ce p1 Q R O P k3) 106]) ?_ ?_
 .refine X0 4 Z (qh (t:=17) F Z ?_ ?_)<;>intro F
  .refine X0 24 Z ?_;exact rH F b h Z
  refine X1 5 0 h Z (dI h F tA Z λ_ _ h F=>X0 4 Z (qh (t:=23) F Z ?_ ?_))<;>intro F
  .refine X0 18 Z ?_;exact rH F b h Z
  refine X1 10 0 h Z (qh (t:=29) F Z ?_ ?_)<;>intro F
  .refine X0 12 Z ?_;exact rH F b h Z
  refine X1 5 0 h Z (dI h F aQ Z λ_ _ h F=>X0 4 Z (qh (t:=35) F Z ?_ ?_))<;>intro F
  .refine X0 6 Z ?_;exact rH F b h Z
  refine X1 5 0 h Z (dI h F aQ Z λ_ _ h F=>X0 4 Z ?_);exact rH F b h Z
 rintro _ _ ⟨b1,F,rfl,h⟩;subst p;refine qn Z F ?_ ?_<;>intro F
 .exact X0 4 Z (rb h F Z)
 refine X0 6 Z ?_;obtain⟨o1,F,g⟩:=qc F;refine qq (rL (λm e w'=>∃M,oo Ce m M=V o1/\e=[(1,vp a),(3,vi N),(5,vi M)]/\SH w w' [oX a (qP Ce p1 Q R O P k3) 106]) n ⟨_,F,Z,h⟩ Z ?_);rintro m1 _ _ ⟨M,F,rfl,h⟩;rcases m1 with _|m1
 .cases F
 refine X1 9 0 h Z (qn Z F ?_ ?_)<;>intro F
 .refine X1 8 0 h Z ?_;obtain⟨y1,_,F,a3,_,_,_,_,a8,c2,d5,T⟩:=s2.ix F;obtain⟨p4,k4,p5,k5,rfl,s4,s5⟩:=bd d5;refine ft a8 c2 a3 Z (bL 0 T h Z (qi qa h Z Z Z λ_ k h=>zs 0 h Z λ_ h=>X2 6 1 0 h Z (dI h F (QF (h.old c) (uC y1 (h.oldS s4) (h.oldS s5))) Z λ_ _ h F=>X0 2 Z (qn Z F ?_ ?_))))<;>intro F
  .refine X0 4 Z ?_;cases qe F;exact rb h g Z
  refine X0 5 Z ?_;obtain⟨o2,F,l⟩:=qc F;refine qq (rL (λm e w'=>∃i2,kt Ce M y1 m i2=V o2/\e=[(1,vp a),(3,vi N),(5,vi M),(6,vp k),(7,vi i2)]/\SH w w' [oX k (kI y1 p4 p5 k4 k5) 109,oX a (qP Ce p1 Q R O P k3) 106]) m1 ⟨_,F,Z,h⟩ Z ?_);rintro m2 _ _ ⟨i2,F,rfl,h⟩;rcases m2 with _|m2
  .cases F
  refine X0 7 Z (qn Z F ?_ ?_)<;>intro F
  .refine X0 4 Z (rD (Y1 2 1 h Z ?_));refine xm Z ?_;obtain⟨_,_,F,a4,_,_,_,_,a9,c3,d6,W⟩:=s2.ix F;obtain⟨_,_,_,_,rfl,_,_⟩:=bd d6;refine fU a9 c3 a4 Z (xm Z (dZ 0 W h Z (Y1 2 0 h Z ?_)));refine xz Z (bu (t:=71) F Z ?_ ?_)<;>intro F
   .refine Y1 4 1 h Z ?_;refine Y0 3 Z ?_;obtain⟨_,_,F,a5,_,_,_,_,b4,c4,d7,X⟩:=s2.ix F;obtain⟨_,_,_,_,rfl,_,_⟩:=bd d7;refine fU b4 c4 a5 Z (Y0 3 Z (dZ 1 X h Z (Y1 4 0 h Z ?_)));refine Y0 4 Z (bu (t:=82) F Z ?_ ?_)<;>intro F
    .refine Y1 4 1 h Z ?_;refine Y0 3 Z ?_;obtain⟨_,_,F,a6,_,_,_,_,b5,c5,d8,Y⟩:=s2.ix F;obtain⟨_,_,_,_,rfl,_,_⟩:=bd d8;refine fU b5 c5 a6 Z (Y0 3 Z (dZ 2 Y h Z (Y1 4 0 h Z ?_)));refine Y0 3 Z (dN h λ_ h=>qn Z F ?_ ?_)<;>intro F
     .refine X0 4 Z ?_;cases qe F;have F:=l;cases qe F;exact rb h g Z
     exact X0 7 Z (rK ⟨_,F,Z,h⟩ Z)
    exact Y0 10 Z (dN h λ_ h=>bQ Z Z (X0 7 Z (rK ⟨_,F,Z,h⟩ Z)))
   exact Y0 21 Z (dN h λ_ h=>bQ Z Z (X0 7 Z (rK ⟨_,F,Z,h⟩ Z)))
  refine qy Z ?_;cases qe F;have F:=l;refine X0 6 Z ?_;exact rK ⟨_,F,Z,h.p [1] Z⟩ Z
 refine qy Z ?_;cases qe F;have F:=g;refine X1 3 0 h Z (uY h F (LT (h.old c)) Z λ_ _ _ _ _ h F=>X1 14 1 h Z (qn Z F ?_ ?_))<;>intro F
 .refine X0 5 Z ?_;obtain⟨o3,F,o⟩:=qc F;refine qq ?_;have h:=h.p [1] Z;refine rL (λm e w'=>∃i3,oq Ce m i3=V o3/\e=[(1,vp a),(3,vi N),(9,vi i3)]/\SH w w' [oX a (qP Ce p1 Q R O P k3) 106]) n ⟨_,F,Z,h⟩ Z ?_;rintro m3 _ _ ⟨i3,F,rfl,h⟩;rcases m3 with _|m3
  .cases F
  refine X1 9 0 h Z (qn Z F ?_ ?_)<;>intro F
  .refine X1 8 0 h Z ?_;obtain⟨_,_,F,a7,_,_,_,_,b6,c6,rfl,s⟩:=s3.ix F;refine ft b6 c6 a7 Z (bL 0 s h Z (dI h F aQ Z λ_ _ h F=>X0 2 Z (qn Z F ?_ ?_)))<;>intro F
   .refine X0 4 Z ?_;cases qe F;exact rb h o Z
   exact X0 7 Z (rK ⟨_,F,Z,h⟩ Z)
  refine qy Z ?_;cases qe F;have F:=o;refine X0 5 Z (qh (t:=115) F Z ?_ ?_)<;>intro F
  .refine X2 17 0 0 h Z ?_;obtain⟨_,i,F⟩:=qc F;obtain⟨g1,i⟩:=LP i;refine dF (qbj g1 Z Z) Z ?_;rw[i];exact X0 5 Z (rb h F Z)
  exact X0 13 Z (rb h F Z)
 refine X0 5 Z (qn Z F ?_ ?_)<;>intro F
 .refine aD (rD (qcO Z (bu (t:=131) F Z ?_ ?_)))<;>intro F
  .refine Y0 3 Z ?_;obtain⟨_,_,F,B,_,_,_,_,b7,c7,rfl,u⟩:=(h.sl 0 Z).1.ix F;refine V9 b7 c7 ⟨B.1,qE B.2.1 (h.sl 0 Z).2⟩ Z (Y0 1 Z (V8 0 u Z (Y0 4 Z (bu (t:=137) F Z ?_ ?_))))<;>intro F
   .refine Y0 3 Z ?_;obtain⟨_,_,F,C,_,_,_,_,b8,c8,rfl,v⟩:=(h.sl 0 Z).1.ix F;refine V9 b8 c8 ⟨C.1,qE C.2.1 (h.sl 0 Z).2⟩ Z (Y0 1 Z (V8 0 v Z (Y0 5 Z ?_)));obtain⟨_,_,F,D,_,_,_,_,b9,c9,rfl,x⟩:=(h.sl 0 Z).1.ix F;refine V9 b9 c9 ⟨D.1,qE D.2.1 (h.sl 0 Z).2⟩ Z (Y0 1 Z (V8 0 x Z (Y0 6 Z (bu (t:=148) F Z ?_ ?_))))<;>intro F
    .refine Y1 4 1 h Z ?_;exact Y0 6 Z (dN h λ_ h=>rb h F Z)
    exact Y0 6 Z (dN h λ_ h=>rb h F Z)
   exact Y0 17 Z (dN h λ_ h=>rb h F Z)
  exact Y0 23 Z (dN h λ_ h=>rb h F Z)
 refine X0 5 Z (qn Z F ?_ ?_)<;>intro F
 .refine X0 5 Z (qh (t:=158) F Z ?_ ?_)<;>intro F
  .refine X0 3 Z ?_;obtain⟨_,_,F,H,_,_,_,_,c0,d0,rfl,y⟩:=(h.sl 0 Z).1.ix F;refine zx c0 d0 ⟨H.1,qE H.2.1 (h.sl 0 Z).2⟩ Z (X0 1 Z (zc 0 y Z (X0 4 Z (qh (t:=164) F Z ?_ ?_))))<;>intro F
   .refine X0 3 Z ?_;obtain⟨_,_,F,d,_,_,_,_,I,K,rfl,z⟩:=(h.sl 0 Z).1.ix F;refine zx I K ⟨d.1,qE d.2.1 (h.sl 0 Z).2⟩ Z (X0 1 Z (zc 0 z Z (X0 4 Z (qh (t:=170) F Z ?_ ?_))))<;>intro F
    .refine X0 3 Z ?_;obtain⟨_,_,F,f,_,_,_,_,J,L,rfl,A⟩:=(h.sl 0 Z).1.ix F;refine zx J L ⟨f.1,qE f.2.1 (h.sl 0 Z).2⟩ Z (X0 1 Z (zc 0 A Z (X0 4 Z (qh (t:=176) F Z ?_ ?_))))<;>intro F
     .exact X1 11 1 h Z (rb h F Z)
     exact X0 7 Z (rb h F Z)
    exact X0 13 Z (rb h F Z)
   exact X0 19 Z (rb h F Z)
  exact X0 25 Z (rb h F Z)
 exact X0 6 Z (rb h F Z)
def kD(l:qD)(b:Int):Nat->Int->Option (eE Bool Int)|0,_=>U|n+1,a=>bif decide (a<b) then(qG l.As a).bind λc=>(qG l.As b).bind λd=>bif (c.Bi.toList==d.Bi.toList) then V (.ret Cd) else kD l b n (qj (a+1)) else V (.nxt a)
def kC(l:qD):Nat->Int->Option (eE Bool Int)|0,_=>U|n+1,a=>bif decide (a<(l.As.length:Int)) then(qG l.As a).bind λb=>(yC n b).bind λr1=>bif (!r1) then V (.ret Cd) else(kD l a n 0).bind λ|.ret r=>V (.ret r)|.nxt _=>kC l n (qj (a+1)) else V (.nxt a)
def uL(n:Nat)(l:qD):Option Bool:=(kC l n 0).bind λ|.ret r=>V r|.nxt _=>V (decide ((l.As.length:Int)<=8))
theorem IY{l:qD}(f:Ro w l cs1){r:Bool}(F:uL n l=V r):qN prog 143 [gv l cs1] w r:=by
 obtain⟨p1,I,rfl,s1⟩:=gx f;refine zV 41 func143 Z λh=>db (qK h Z Z λ_ a h=>X0 7 Z ?_);obtain⟨o1,F,b⟩:=qc F;refine qq (rL (λm e w'=>∃d,kC l m d=V o1/\e=[(1,vp a),(3,vi d)]/\SH w w' [oX a [oL p1 l.As I] 26]) n ⟨_,F,Z,h⟩ Z ?_);rintro H _ _ ⟨d,F,rfl,h⟩;rcases H with _|H
 .cases F
 refine X1 9 0 h Z (qn Z F ?_ ?_)<;>intro F
 .refine X1 9 0 h Z ?_;obtain⟨M,_,F,o,_,_,_,_,t,x,A,g⟩:=s1.ix F;obtain⟨_,_,_,_,_,_,rfl,s2,K,L⟩:=aV A;refine ft t x o Z (bL 0 g h Z (dI h F (QD (SR M (h.oldS s2) (h.oldS K) (h.oldS L))) Z λ_ _ h F=>X0 2 Z (qn Z F ?_ ?_)))<;>intro F
  .refine X0 4 Z ?_;cases qe F;exact rb h b Z
  refine X0 5 Z ?_;obtain⟨o2,F,c⟩:=qc F;refine qq (rL (λm e w'=>∃D,kD l d m D=V o2/\e=[(1,vp a),(3,vi d),(4,vi D)]/\SH w w' [oX a [oL p1 l.As I] 26]) H ⟨_,F,Z,h⟩ Z ?_);rintro J _ _ ⟨D,F,rfl,h⟩;rcases J with _|J
  .cases F
  refine X0 7 Z (qn Z F ?_ ?_)<;>intro F
  .refine X0 4 Z (rD (Y1 2 0 h Z ?_));refine xm Z ?_;obtain⟨_,_,F,p,_,_,_,_,u,y,B,i⟩:=s1.ix F;obtain⟨_,_,_,_,_,_,rfl,_,_,_⟩:=aV B;refine fU u y p Z (xm Z (dZ 0 i h Z (Y1 2 0 h Z ?_)));refine xm Z ?_;obtain⟨_,_,F,s,_,_,_,_,v,z,C,k⟩:=s1.ix F;obtain⟨_,_,_,_,_,_,rfl,_,_,_⟩:=aV C;refine fU v z s Z (xm Z (dZ 0 k h Z (xm Z (dN h λ_ h=>qn Z F ?_ ?_))))<;>intro F
   .refine X0 4 Z ?_;cases qe F;have F:=c;cases qe F;exact rb h b Z
   exact X0 7 Z (rK ⟨_,F,Z,h⟩ Z)
  refine qy Z ?_;cases qe F;exact X0 6 Z (rK ⟨_,c,Z,h⟩ Z)
 refine qy Z ?_;cases qe F;exact X1 8 0 h Z (rb h b Z)
def lN(Cf:qk)(b:qO):Nat->Int->Option (eE Bool Int)|0,_=>U|n+1,a=>bif decide (a<(b.Ap.length:Int)) then(qG b.Ap a).bind λc=>(bk n c 0 (qj ((Cf.Ap.length:Int)-1))).bind λr1=>bif (!r1) then V (.ret Cd) else lN Cf b n (qj (a+1)) else V (.nxt a)
def lO(Cf:qk):Nat->Int->Option (eE Bool Int)|0,_=>U|n+1,a=>bif decide (a<(Cf.Ai.length:Int)) then(qG Cf.Ai a).bind λd=>(bk n d.Bx 1 2).bind λb=>bif (!b) then V (.ret Cd) else(qG Cf.Ai a).bind λf=>(bk n f.Cb 0 (qj ((Cf.Ap.length:Int)-1))).bind λc=>bif (!c) then V (.ret Cd) else lO Cf n (qj (a+1)) else V (.nxt a)
def lM(Ce:qD)(Cf:qk):Nat->Int->Option (eE Bool Int)|0,_=>U|n+1,a=>bif decide (a<(Cf.Ab.length:Int)) then(qG Cf.Ab a).bind λb=>((bk n b.Bv 0 (qj ((Ce.As.length:Int)-1))).bind λc=>bif (!c) then V An else(qG Ce.As b.Bv).bind λd=>V ((b.Ap.length:Int) != (d.Bh.length:Int))).bind λb2=>bif b2 then V (.ret Cd) else(lN Cf b n 0).bind λ|.ret r=>V (.ret r)|.nxt _=>lM Ce Cf n (qj (a+1)) else V (.nxt a)
def vM(n:Nat)(Ce:qD)(Cf:qk):Option Bool:=(lM Ce Cf n 0).bind λ|.ret r=>V r|.nxt _=>(lO Cf n 0).bind λ|.ret r=>V r|.nxt _=>V An
theorem LW{Ce:qD}{Cf:qk}(z:Ro w Ce cs1)(A:Ro w Cf cs2){r:Bool}(F:vM n Ce Cf=V r):qN prog 144 [gv Ce cs1,gv Cf cs2] w r:=by
 obtain⟨p1,k1,rfl,s1⟩:=gx z;obtain⟨u,p,v,k3,x,s,rfl,s2,_,s4⟩:=cn A;refine zV 90 func144 Z λh=>db (qK h Z Z λ_ b h=>qK h Z Z λ_ a h=>X1 14 0 h Z ?_);obtain⟨o1,F,d⟩:=qc F;refine qq (rL (λm e w'=>∃o,lM Ce Cf m o=V o1/\e=[(2,vp b),(3,vp a),(5,vi (Cf.Ap.length:Int)),(6,vi o)]/\SH w w' [oX a (bh Cf u v x p k3 s) 31,oX b [oL p1 Ce.As k1] 26]) n ⟨_,F,Z,h⟩ Z ?_);rintro m1 _ _ ⟨o,F,rfl,h⟩;rcases m1 with _|m1
 .cases F
 refine X1 9 0 h Z (qn Z F ?_ ?_)<;>intro F
 .refine X1 8 0 h Z ?_;obtain⟨y1,_,F,I,_,_,_,_,N,S,a3,B⟩:=s2.ix F;obtain⟨p5,k5,rfl,s5⟩:=bI a3;refine ft N S I Z (bL 0 B h Z (qi qa h Z Z Z λ_ c h=>zs 0 h Z λ_ h=>qcN ?_));obtain⟨y,k,_,F,i⟩:=bindE F;refine bw (λe w'=>∃b2,y b2=V o1/\e=[(2,vp b),(3,vp a),(5,vi (Cf.Ap.length:Int)),(6,vi o),(7,vp c),(46,.bool b2)]/\SH w w' [oX c (vR y1 p5 k5) 206,oX a (bh Cf u v x p k3 s) 31,oX b [oL p1 Ce.As k1] 26]) ?_ ?_
  .refine rD (Y1 2 0 h Z ?_);refine Y1 2 2 h Z ?_;refine xz Z ?_;obtain⟨r2,a4,F⟩:=qc F;refine dB r2 (MT _) (cB 32 Z) (λ_ hb=>aQ  a4) Z Z Z Z (xz Z (bu (t:=33) F Z ?_ ?_))<;>intro F
   .refine Y0 13 Z (dN h λ_ h=>?_);exact rH F i h Z
   refine Y1 4 0 h Z ?_;refine Y1 6 2 h Z ?_;refine Y1 4 0 h Z ?_;refine Y0 1 Z ?_;obtain⟨_,_,F,K,_,_,_,_,P,W,a5,D⟩:=s1.ix F;obtain⟨_,_,_,_,_,_,rfl,_,_,_⟩:=aV a5;refine fU P W K Z (Y0 3 Z (dZ 2 D h Z (Y0 5 Z (dN h λ_ h=>?_))));exact rH F i h Z
  rintro _ _ ⟨b2,F,rfl,h⟩;subst k;refine qn Z F ?_ ?_<;>intro F
  .refine X0 4 Z ?_;cases qe F;exact rb h d Z
  refine X0 5 Z ?_;obtain⟨o2,F,g⟩:=qc F;refine qq (rL (λm e w'=>∃i2,lN Cf y1 m i2=V o2/\e=[(2,vp b),(3,vp a),(5,vi (Cf.Ap.length:Int)),(6,vi o),(7,vp c),(8,vi i2)]/\SH w w' [oX c (vR y1 p5 k5) 206,oX a (bh Cf u v x p k3 s) 31,oX b [oL p1 Ce.As k1] 26]) m1 ⟨_,F,Z,h⟩ Z ?_);rintro m2 _ _ ⟨i2,F,rfl,h⟩;rcases m2 with _|m2
  .cases F
  refine X1 9 0 h Z (qn Z F ?_ ?_)<;>intro F
  .refine X1 8 0 h Z ?_;obtain⟨_,_,F,J,_,_,_,_,O,T,rfl,C⟩:=s5.ix F;refine ft O T J Z (bL 0 C h Z (mr Z (dI h F aQ Z λ_ _ h F=>X0 2 Z (qn Z F ?_ ?_))))<;>intro F
   .refine X0 4 Z ?_;cases qe F;have F:=g;cases qe F;exact rb h d Z
   exact X0 7 Z (rK ⟨_,F,Z,h⟩ Z)
  refine qy Z ?_;cases qe F;have F:=g;refine X0 6 Z ?_;exact rK ⟨_,F,Z,h.p [1,2] Z⟩ Z
 refine qy Z ?_;cases qe F;have F:=d;refine X0 5 Z ?_;obtain⟨o4,F,f⟩:=qc F;refine qq ?_;have h:=h.p [0] Z;refine rL (λm e w'=>∃i3,lO Cf m i3=V o4/\e=[(3,vp a),(5,vi (Cf.Ap.length:Int)),(9,vi i3)]/\SH w w' [oX a (bh Cf u v x p k3 s) 31]) n ⟨_,F,Z,h⟩ Z ?_;rintro m3 _ _ ⟨i3,F,rfl,h⟩;rcases m3 with _|m3
 .cases F
 refine X1 9 0 h Z (qn Z F ?_ ?_)<;>intro F
 .refine X1 8 0 h Z ?_;obtain⟨_,_,F,L,_,_,_,_,Q,X,a6,H⟩:=s4.ix F;obtain rfl:=lZ a6;refine ft Q X L Z (cr Z (bL 1 H h Z (dI h F aQ Z λ_ _ h F=>mr Z (qh (t:=78) F Z ?_ ?_))))<;>intro F
  .refine X0 12 Z (dO Z Z (X0 4 Z ?_));cases qe F;exact rb h f Z
  refine X1 7 0 h Z ?_;obtain⟨_,_,F,M,_,_,_,_,R,Y,a7,l⟩:=s4.ix F;obtain rfl:=lZ a7;refine ft R Y M Z (X0 3 Z (bL 2 l h Z (X0 5 Z (dI h F aQ Z λ_ _ h F=>X0 4 Z (qn Z F ?_ ?_)))))<;>intro F
  .refine X0 4 Z ?_;cases qe F;exact rb h f Z
  exact X0 7 Z (rK ⟨_,F,Z,h⟩ Z)
 refine qy Z ?_;cases qe F;exact X0 4 Z (rb h f Z)
def lL(list:List ByteArray)(b:Int):Nat->Int->Option (eE Bool Int)|0,_=>U|n+1,a=>bif decide (a<b) then(qG list a).bind λc=>(qG list b).bind λd=>bif (c.toList==d.toList) then V (.ret Cd) else lL list b n (qj (a+1)) else V (.nxt a)
def lK(list:List ByteArray):Nat->Int->Option (eE Bool Int)|0,_=>U|n+1,a=>bif decide (a<(list.length:Int)) then(qG list a).bind λb=>(pa n b).bind λr1=>bif (!r1) then V (.ret Cd) else(lL list a n 0).bind λ|.ret r=>V (.ret r)|.nxt _=>lK list n (qj (a+1)) else V (.nxt a)
def px(n:Nat)(list:List ByteArray):Option Bool:=(lK list n 0).bind λ|.ret r=>V r|.nxt _=>V An
theorem vB{list:List ByteArray}(d:Ro w list cs1){r:Bool}(F:px n list=V r):qN prog 145 [gv list cs1] w r:=by
 obtain⟨p1,A,rfl,s1⟩:=d;refine zV 31 func145 Z λh=>X0 9 Z ?_;obtain⟨o1,F,a⟩:=qc F;refine qq (rL (λm e w'=>∃c,lK list m c=V o1/\e=[(0,oL p1 list A),(3,vi c)]/\SH w w' []) n ⟨_,F,Z,h⟩ Z ?_);rintro z _ _ ⟨c,F,rfl,h⟩;rcases z with _|z
 .cases F
 refine X0 8 Z (qn Z F ?_ ?_)<;>intro F
 .refine X0 8 Z ?_;obtain⟨_,_,F,k,_,_,_,_,p,u,rfl,f⟩:=s1.ix F;refine ft p u k Z (bL 0 f h Z (dI h F tA Z λ_ _ h F=>X0 2 Z (qn Z F ?_ ?_)))<;>intro F
  .refine X0 4 Z ?_;cases qe F;exact rb h a Z
  refine X0 5 Z ?_;obtain⟨o2,F,b⟩:=qc F;refine qq (rL (λm e w'=>∃y,lL list c m y=V o2/\e=[(0,oL p1 list A),(3,vi c),(4,vi y)]/\SH w w' []) z ⟨_,F,Z,h⟩ Z ?_);rintro B _ _ ⟨y,F,rfl,h⟩;rcases B with _|B
  .cases F
  refine X0 7 Z (qn Z F ?_ ?_)<;>intro F
  .refine X0 4 Z (rD (xz Z ?_));obtain⟨_,_,F,l,_,_,_,_,s,v,rfl,g⟩:=s1.ix F;refine fU s v l Z (dZ 0 g h Z (xz Z ?_));obtain⟨_,_,F,o,_,_,_,_,t,x,rfl,i⟩:=s1.ix F;refine fU t x o Z (dZ 0 i h Z (xm Z (dN h λ_ h=>qn Z F ?_ ?_)))<;>intro F
   .refine X0 4 Z ?_;cases qe F;have F:=b;cases qe F;exact rb h a Z
   exact X0 7 Z (rK ⟨_,F,Z,h⟩ Z)
  refine qy Z ?_;cases qe F;exact X0 6 Z (rK ⟨_,b,Z,h⟩ Z)
 refine qy Z ?_;cases qe F;exact X0 4 Z (rb h a Z)
def lI(c:List Int)(d:List Int):Nat->Int->Option (eE Bool Int)|0,_=>U|n+1,a=>bif decide (a<(c.length:Int)) then(qG d a).bind λb=>bif (b != 1) then V (.ret Cd) else lI c d n (qj (a+1)) else V (.nxt a)
def gd(Cf:qk):Nat->(List Int)->Int->Option ((List Int)×Int)|0,_,_=>U|n+1,b,a=>bif decide (a<(Cf.Ai.length:Int)) then(qG Cf.Ai a).bind λd=>bif (d.Bx==1) then(qG Cf.Ai a).bind λc=>(qG b c.Cb).bind λf=>(qG b c.Cb).bind λ_=>gd Cf n (am b c.Cb (qj (f+1))) (qj (a+1)) else gd Cf n b (qj (a+1)) else V (b,a)
def iJ(Cf:qk):Nat->(List Int)->Int->Option ((List Int)×Int)|0,_,_=>U|n+1,b,a=>bif decide (a<(Cf.Ab.length:Int)) then(qG Cf.Ab a).bind λd=>(qG d.Ap (qj ((d.Ap.length:Int)-1))).bind λc=>(qG b c).bind λf=>(qG b c).bind λ_=>iJ Cf n (am b c (qj (f+1))) (qj (a+1)) else V (b,a)
def iI(Cf:qk):Nat->(List ByteArray)->Int->Option ((List ByteArray)×Int)|0,_,_=>U|n+1,b,a=>bif decide (a<(Cf.Ai.length:Int)) then(qG Cf.Ai a).bind λd=>(df b ([d.Bi]:List ByteArray)).bind λc=>iI Cf n c (qj (a+1)) else V (b,a)
def iH(Cf:qk):Nat->(List ByteArray)->Int->Option ((List ByteArray)×Int)|0,_,_=>U|n+1,x1,a=>bif decide (a<(Cf.Ab.length:Int)) then(qG Cf.Ab a).bind λc=>(df x1 ([c.Bi]:List ByteArray)).bind λb=>iH Cf n b (qj (a+1)) else V (x1,a)
def vK(n:Nat)(Ce:qD)(Cf:qk):Option Bool:=((uL n Ce).bind λf=>bif (!f) then V An else bif decide ((Cf.Ab.length:Int) > 14) then V An else bif decide ((Cf.Ap.length:Int) > 30) then V An else bif decide ((Cf.Ai.length:Int) > 8) then V An else(vM n Ce Cf).bind λg=>V (!g)).bind λb1=>bif b1 then V Cd else(iH Cf n ([]:List ByteArray) 0).bind λ(x1,_)=>(iI Cf n ([]:List ByteArray) 0).bind λ(h,_)=>((px n x1).bind λr1=>bif (!r1) then V An else(px n h).bind λc=>bif (!c) then V An else(px n Cf.Ap).bind λd=>V (!d)).bind λb=>bif b then V Cd else(yW (Cf.Ap.length:Int) (0:Int)).bind λa=>(iJ Cf n a 0).bind λ(i,_)=>(gd Cf n i 0).bind λ(k,_)=>(lI a k n 0).bind λ|.ret r=>V r|.nxt _=>V An
theorem LR{Ce:qD}{Cf:qk}(o:Ro w Ce cs1)(K:Ro w Cf cs2){r:Bool}(F:vK n Ce Cf=V r):qN prog 87 [gv Ce cs1,gv Cf cs2] w r:=by
 obtain⟨_,_,rfl,_⟩:=gx o;obtain⟨B,z,C,k3,D,A,rfl,s2,s3,s4⟩:=cn K;refine zV 153 func87 Z λh=>db (qK h Z Z λ_ _ h=>qK h Z Z λ_ a h=>X0 4 Z ?_);obtain⟨KF2,J,_,F,d⟩:=bindE F;refine bw (λe w'=>∃b1,KF2 b1=V r/\e=[(3,vp a),(40,.bool b1)]/\SH w w' [oX a (bh Cf B C D z k3 A) 31]) ?_ ?_
 .refine X1 2 1 h Z (dI h F (IY (h.old o)) Z λ_ _ h F=>mr Z (qh (t:=17) F Z ?_ ?_))<;>intro F
  .refine X0 24 Z ?_;have h:=h.p [0] Z;exact rH F d h Z
  refine X1 10 0 h Z (qh (t:=23) F Z ?_ ?_)<;>intro F
  .refine X0 18 Z ?_;have h:=h.p [0] Z;exact rH F d h Z
  refine X1 10 0 h Z (qh (t:=29) F Z ?_ ?_)<;>intro F
  .refine X0 12 Z ?_;have h:=h.p [0] Z;exact rH F d h Z
  refine X1 10 0 h Z (qh (t:=35) F Z ?_ ?_)<;>intro F
  .refine X0 6 Z ?_;have h:=h.p [0] Z;exact rH F d h Z
  refine X2 5 1 0 h Z (dI h F (LW (h.old o) (h.old K)) Z λ_ _ h F=>X0 4 Z ?_);have h:=h.p [0] Z;exact rH F d h Z
 rintro _ _ ⟨b1,F,rfl,h⟩;subst J;refine qn Z F ?_ ?_<;>intro F
 .exact X0 4 Z (rb h F Z)
 refine qd1 (qt qa [] _ ([]:List ByteArray) h z9 trivial Z λ_ _ _ h=>X0 7 Z ?_);obtain⟨o1,F,hK1⟩:=qc F;refine qq (rL (λm e w'=>∃S2 p6 v k5 x1 i1,iH Cf m x1 i1=V o1/\e=[(3,vp a),(5,oS p6 v k5),(6,vi i1)]/\SH w w' [oW S2 (x1:List ByteArray) [oS p6 v k5],oX a (bh Cf B C D z k3 A) 31]) n ⟨_,_,_,_,_,_,F,Z,h⟩ Z ?_);rintro m1 _ _ ⟨S2,p6,v,k5,x1,i1,F,rfl,h⟩;obtain rfl:=(h.sl 0 Z).2;rcases m1 with _|m1
 .cases F
 refine X1 9 1 h Z (qn Z F ?_ ?_)<;>intro F
 .refine X1 8 1 h Z ?_;obtain⟨y1,_,F,he1,_,_,_,_,hp1,hq1,hr1,hc3⟩:=s2.ix F;obtain⟨_,_,rfl,_⟩:=bI hr1;refine ft hp1 hq1 he1 Z (cr Z (bL 0 hc3 h Z (qt qa [.tmp 55] _ ([y1.Bi]:List ByteArray) h z9 ⟨Z,G⟩ Z λ_ _ _ h=>?_)));obtain⟨_,p,F⟩:=qc F;obtain⟨g1,p⟩:=qJ p;refine bn qa 1 h Z (h.sl 0 Z).1 (h.sl 0 Z).2 z9 g1 p Z λ_ _ _ _ h=>X0 8 Z ?_;exact rK ⟨_,_,_,_,_,_,F,Z,h.p [1,2] Z⟩ Z
 refine qy Z ?_;cases qe F;have F:=hK1;refine db (qt qa [] _ ([]:List ByteArray) h z9 trivial Z λ_ _ _ h=>X0 7 Z ?_);obtain⟨o2,F,hK2⟩:=qc F;refine qq (rL (λm e w'=>∃S6 y x k8 x3 i2,iI Cf m x3 i2=V o2/\e=[(3,vp a),(5,oL p6 x1 k5),(7,oS y x k8),(8,vi i2)]/\SH w w' [oW S6 (x3:List ByteArray) [oS y x k8],oW S2 (x1:List ByteArray) [oL p6 x1 k5],oX a (bh Cf B C D z k3 A) 31]) n ⟨_,_,_,_,_,_,F,Z,h⟩ Z ?_);rintro m2 _ _ ⟨S6,y,x,k8,x3,i2,F,rfl,h⟩;obtain rfl:=(h.sl 0 Z).2;rcases m2 with _|m2
 .cases F
 refine X1 9 2 h Z (qn Z F ?_ ?_)<;>intro F
 .refine X1 8 2 h Z ?_;obtain⟨y2,_,F,he2,_,_,_,_,hp2,hq2,hr2,hc5⟩:=s4.ix F;obtain rfl:=lZ hr2;refine ft hp2 hq2 he2 Z (cr Z (bL 0 hc5 h Z (qt qa [.tmp 72] _ ([y2.Bi]:List ByteArray) h z9 ⟨Z,G⟩ Z λ_ _ _ h=>?_)));obtain⟨_,s,F⟩:=qc F;obtain⟨g2,s⟩:=qJ s;refine bn qa 1 h Z (h.sl 0 Z).1 (h.sl 0 Z).2 z9 g2 s Z λ_ _ _ _ h=>X0 8 Z ?_;exact rK ⟨_,_,_,_,_,_,F,Z,h.p [1,2,3] Z⟩ Z
 refine qy Z ?_;cases qe F;have F:=hK2;refine qd6 ?_;obtain⟨KF1,I,_,F,l⟩:=bindE F;refine bw (λe w'=>∃b4,KF1 b4=V r/\e=[(3,vp a),(88,.bool b4)]/\SH w w' [oX a (bh Cf B C D z k3 A) 31]) ?_ ?_
 .refine X0 2 Z (dI h F (vB (h.own 1 Z)) Z λ_ _ h F=>mr Z (qh (t:=78) F Z ?_ ?_))<;>intro F
  .refine X0 11 Z ?_;have h:=h.p [2] Z;exact rH F l h Z
  refine X0 3 Z (dI h F (vB (h.own 0 Z)) Z λ_ _ h F=>X0 4 Z (qh (t:=83) F Z ?_ ?_))<;>intro F
  .refine X0 6 Z ?_;have h:=h.p [2] Z;exact rH F l h Z
  refine X1 5 2 h Z (dI h F (vB ⟨_,_,Z,(h.oldS s3)⟩) Z λ_ _ h F=>X0 4 Z ?_);have h:=h.p [2] Z;exact rH F l h Z
 rintro _ _ ⟨b4,F,rfl,h⟩;subst I;refine qn Z F ?_ ?_<;>intro F
 .exact X0 4 Z (rb h F Z)
 refine X1 6 0 h Z ?_;obtain⟨c,u,F⟩:=qc F;obtain⟨g3,g4,u⟩:=aT u;refine bC qa Int h z9 g3 g4 u Z λ_ S9 b h=>X0 7 Z ?_;obtain⟨o3,F,hK3⟩:=qc F;refine qq (rL (λm e w'=>∃x6 i3,iJ Cf m x6 i3=V o3/\e=[(3,vp a),(9,oS b c.length c.length),(10,vi i3)]/\SH w w' [oW S9 (x6:List Int) [oS b c.length c.length],oX a (bh Cf B C D z k3 A) 31]) n ⟨_,_,F,Z,h⟩ Z ?_);rintro m3 _ _ ⟨x6,i3,F,rfl,h⟩;rcases m3 with _|m3
 .cases F
 refine X1 9 1 h Z (qn Z F ?_ ?_)<;>intro F
 .refine X1 8 1 h Z ?_;obtain⟨_,_,F,he3,_,_,_,_,hp3,hq3,hr3,hc8⟩:=s2.ix F;obtain⟨_,_,rfl,s6⟩:=bI hr3;refine ft hp3 hq3 he3 Z (cr Z (bL 2 hc8 h Z (X0 8 Z ?_)));obtain⟨_,_,F,he4,_,_,_,_,hp4,hq4,rfl,hc9⟩:=s6.ix F;refine ft hp4 hq4 he4 Z (bL 0 hc9 h Z ?_);obtain⟨y5,_,F,S,_,_,_,_,hp5,hq5,rfl,L⟩:=(h.sl 0 Z).1.ix F;refine zx hp5 hq5 ⟨S.1,qE S.2.1 (h.sl 0 Z).2⟩ Z (zc 0 L Z (cr Z ?_));obtain⟨_,hy6,F,T,_,_,_,_,Y,a4,rfl,M⟩:=(h.sl 0 Z).1.ix F;exact zx Y a4 ⟨T.1,qE T.2.1 (h.sl 0 Z).2⟩ Z (bM qa 0 0 (qj (y5+1)) h Z hy6 Y a4 Z M Z Z Z Z Z Z Z λ_ h=>X0 7 Z (rK ⟨_,_,F,Z,h⟩ Z))
 refine qy Z ?_;cases qe F;have F:=hK3;refine X0 5 Z ?_;obtain⟨o4,F,hK4⟩:=qc F;refine qq (rL (λm e w'=>∃x7 i4,gd Cf m x7 i4=V o4/\e=[(3,vp a),(9,oS b c.length c.length),(12,vi i4)]/\SH w w' [oW S9 (x7:List Int) [oS b c.length c.length],oX a (bh Cf B C D z k3 A) 31]) n ⟨_,_,F,Z,h⟩ Z ?_);rintro m4 _ _ ⟨x7,i4,F,rfl,h⟩;rcases m4 with _|m4
 .cases F
 refine X1 9 1 h Z (qn Z F ?_ ?_)<;>intro F
 .refine X1 8 1 h Z ?_;obtain⟨_,_,F,he7,_,_,_,_,hp7,hq7,hr7,N⟩:=s4.ix F;obtain rfl:=lZ hr7;refine ft hp7 hq7 he7 Z (cr Z (bL 1 N h Z (X0 2 Z (qn Z F ?_ ?_))))<;>intro F
  .refine X1 5 1 h Z ?_;obtain⟨_,_,F,he8,_,_,_,_,hp8,hq8,hr8,O⟩:=s4.ix F;obtain rfl:=lZ hr8;refine ft hp8 hq8 he8 Z (cr Z (bL 2 O h Z ?_));obtain⟨y9,_,F,W,_,_,_,_,hp9,hq9,rfl,P⟩:=(h.sl 0 Z).1.ix F;refine zx hp9 hq9 ⟨W.1,qE W.2.1 (h.sl 0 Z).2⟩ Z (zc 0 P Z (cr Z ?_));obtain⟨_,a5,F,f,_,_,_,_,i,k,rfl,Q⟩:=(h.sl 0 Z).1.ix F;exact zx i k ⟨f.1,qE f.2.1 (h.sl 0 Z).2⟩ Z (bM qa 0 0 (qj (y9+1)) h Z a5 i k Z Q Z Z Z Z Z Z Z λ_ h=>X0 7 Z (rK ⟨_,_,F,Z,h⟩ Z))
  exact X0 7 Z (rK ⟨_,_,F,Z,h⟩ Z)
 refine qy Z ?_;cases qe F;have F:=hK4;refine X0 5 Z ?_;obtain⟨o5,F,H⟩:=qc F;refine qq ?_;have h:=h.p [0] Z;refine rL (λm e w'=>∃i5,lI c x7 m i5=V o5/\e=[(9,oS b c.length c.length),(13,vi i5)]/\SH w w' [oW S9 (x7:List Int) [oS b c.length c.length]]) n ⟨_,F,Z,h⟩ Z ?_;rintro m5 _ _ ⟨i5,F,rfl,h⟩;rcases m5 with _|m5
 .cases F
 refine X0 8 Z (qn Z F ?_ ?_)<;>intro F
 .refine X0 7 Z ?_;obtain⟨_,_,F,g,_,_,_,_,X,a3,rfl,R⟩:=(h.sl 0 Z).1.ix F;refine zx X a3 ⟨g.1,qE g.2.1 (h.sl 0 Z).2⟩ Z (zc 0 R Z (X0 2 Z (qn Z F ?_ ?_)))<;>intro F
  .refine X0 4 Z ?_;cases qe F;exact rb h H Z
  exact X0 7 Z (rK ⟨_,F,Z,h⟩ Z)
 refine qy Z ?_;cases qe F;exact X0 4 Z (rb h H Z)
def ot(Ce:aR):Nat->Int->Option (eE Bool Int)|0,_=>U|n+1,a=>bif decide (a<(Ce.Bl.length:Int)) then(qG Ce.Bl a).bind λc=>(bk n c 0 (qj ((Ce.Ak.length:Int)-1))).bind λb=>bif (!b) then V (.ret Cd) else ot Ce n (qj (a+1)) else V (.nxt a)
def gE(Ce:aR):Nat->Int->Option (eE Bool Int)|0,_=>U|n+1,a=>bif decide (a<(Ce.Ak.length:Int)) then((qG Ce.Bs a).bind λk=>(bk n k 0 500).bind λc=>bif (!c) then V An else(qG Ce.Bw a).bind λl=>(bk n l 0 1000).bind λd=>V (!d)).bind λb2=>bif b2 then V (.ret Cd) else bif (a==0) then(qG Ce.Ak a).bind λf=>bif (f != (-1)) then V (.ret Cd) else(qG Ce.Bw a).bind λg=>bif (g != 0) then V (.ret Cd) else bif decide (a > 0) then(qG Ce.Ak a).bind λh=>(bk n h 0 (qj (a-1))).bind λr1=>bif (!r1) then V (.ret Cd) else gE Ce n (qj (a+1)) else gE Ce n (qj (a+1)) else bif decide (a > 0) then(qG Ce.Ak a).bind λi=>(bk n i 0 (qj (a-1))).bind λb=>bif (!b) then V (.ret Cd) else gE Ce n (qj (a+1)) else gE Ce n (qj (a+1)) else V (.nxt a)
def yD(n:Nat)(Ce:aR)(Cf:Int):Option Bool:=(bif decide ((Ce.Ak.length:Int)<1) then V An else bif decide ((Ce.Ak.length:Int) > 8) then V An else bif ((Ce.Bw.length:Int) != (Ce.Ak.length:Int)) then V An else bif ((Ce.Bs.length:Int) != (Ce.Ak.length:Int)) then V An else V ((Ce.Bl.length:Int) != Cf)).bind λb1=>bif b1 then V Cd else(gE Ce n 0).bind λ|.ret r=>V r|.nxt _=>(ot Ce n 0).bind λ|.ret r=>V r|.nxt _=>V An
theorem QE{Ce:aR}{Cf}(C:Ro w Ce cs1){r:Bool}(F:yD n Ce Cf=V r):qN prog 88 [gv Ce cs1,vi Cf] w r:=by
 obtain⟨p1,s,x,u,y,k3,z,v,rfl,s1,s2,s3,s4⟩:=dM C;refine zV 108 func88 Z λh=>db (qK h Z Z λ_ a h=>X1 11 0 h Z ?_);obtain⟨B,i,_,F,c⟩:=bindE F;refine bw (λe w'=>∃b1,B b1=V r/\e=[(2,vp a),(5,vi (Ce.Ak.length:Int)),(37,.bool b1)]/\SH w w' [oX a (oD Ce p1 x y z s u k3 v) 171]) ?_ ?_
 .refine X0 4 Z (qh (t:=13) F Z ?_ ?_)<;>intro F
  .refine X0 25 Z ?_;exact rH F c h Z
  refine X0 6 Z (qh (t:=17) F Z ?_ ?_)<;>intro F
  .refine X0 21 Z ?_;exact rH F c h Z
  refine X1 12 0 h Z (qh (t:=24) F Z ?_ ?_)<;>intro F
  .refine X0 14 Z ?_;exact rH F c h Z
  refine X1 12 0 h Z (qh (t:=31) F Z ?_ ?_)<;>intro F
  .refine X0 7 Z ?_;exact rH F c h Z
  refine X1 12 0 h Z ?_;exact rH F c h Z
 rintro _ _ ⟨b1,F,rfl,h⟩;subst i;refine qn Z F ?_ ?_<;>intro F
 .exact X0 4 Z (rb h F Z)
 refine X0 6 Z ?_;obtain⟨o1,F,b⟩:=qc F;refine qq (rL (λm e w'=>∃p,gE Ce m p=V o1/\e=[(2,vp a),(5,vi (Ce.Ak.length:Int)),(6,vi p)]/\SH w w' [oX a (oD Ce p1 x y z s u k3 v) 171]) n ⟨_,F,Z,h⟩ Z ?_);rintro m1 _ _ ⟨p,F,rfl,h⟩;rcases m1 with _|m1
 .cases F
 refine X0 7 Z (qn Z F ?_ ?_)<;>intro F
 .refine X0 5 Z ?_;obtain⟨A,g,_,F,d⟩:=bindE F;refine bw (λe w'=>∃b2,A b2=V o1/\e=[(2,vp a),(5,vi (Ce.Ak.length:Int)),(6,vi p),(58,.bool b2)]/\SH w w' [oX a (oD Ce p1 x y z s u k3 v) 171]) ?_ ?_
  .refine X1 4 0 h Z ?_;obtain⟨_,_,F,O,_,_,_,_,X,a8,rfl,k⟩:=s3.ix F;refine ft X a8 O Z (bL 0 k h Z (dI h F aQ Z λ_ _ h F=>mr Z (qh (t:=50) F Z ?_ ?_)))<;>intro F
   .refine X0 9 Z ?_;exact rH F d h Z
   refine X1 7 0 h Z ?_;obtain⟨_,_,F,P,_,_,_,_,Y,a9,rfl,l⟩:=s2.ix F;refine ft Y a9 P Z (X0 1 Z (bL 0 l h Z (X0 1 Z (dI h F aQ Z λ_ _ h F=>X0 4 Z ?_))));exact rH F d h Z
  rintro _ _ ⟨b2,F,rfl,h⟩;subst g;refine qn Z F ?_ ?_<;>intro F
  .refine X0 4 Z ?_;cases qe F;exact rb h b Z
  refine X0 6 Z (qh (t:=61) F Z ?_ ?_)<;>intro F
  .refine X1 7 0 h Z ?_;obtain⟨_,_,F,K,_,_,_,_,R,a4,rfl,D⟩:=s1.ix F;refine ft R a4 K Z (X0 1 Z (bL 0 D h Z (X0 4 Z (qh (t:=68) F Z ?_ ?_))))<;>intro F
   .refine X0 25 Z (dO Z Z (X0 4 Z ?_));cases qe F;exact rb h b Z
   refine X1 7 0 h Z ?_;obtain⟨_,_,F,L,_,_,_,_,S,a5,rfl,H⟩:=s2.ix F;refine ft S a5 L Z (X0 1 Z (bL 0 H h Z (X0 6 Z (qh (t:=77) F Z ?_ ?_))))<;>intro F
   .refine X0 15 Z (dO Z Z (X0 4 Z ?_));cases qe F;exact rb h b Z
   refine X0 6 Z (qh (t:=80) F Z ?_ ?_)<;>intro F
   .refine X1 7 0 h Z ?_;obtain⟨_,_,F,M,_,_,_,_,T,a6,rfl,I⟩:=s1.ix F;refine ft T a6 M Z (X0 1 Z (bL 0 I h Z (X0 5 Z (dI h F aQ Z λ_ _ h F=>X0 6 Z (qn Z F ?_ ?_)))))<;>intro F
    .refine X0 4 Z ?_;cases qe F;exact rb h b Z
    exact X0 7 Z (rK ⟨_,F,Z,h⟩ Z)
   exact X0 13 Z (bQ Z Z (X0 7 Z (rK ⟨_,F,Z,h⟩ Z)))
  refine X0 22 Z (qh (t:=80) F Z ?_ ?_)<;>intro F
  .refine X1 7 0 h Z ?_;obtain⟨_,_,F,N,_,_,_,_,W,a7,rfl,J⟩:=s1.ix F;refine ft W a7 N Z (X0 1 Z (bL 0 J h Z (X0 5 Z (dI h F aQ Z λ_ _ h F=>X0 6 Z (qn Z F ?_ ?_)))))<;>intro F
   .refine X0 4 Z ?_;cases qe F;exact rb h b Z
   exact X0 7 Z (rK ⟨_,F,Z,h⟩ Z)
  exact X0 13 Z (bQ Z Z (X0 7 Z (rK ⟨_,F,Z,h⟩ Z)))
 refine qy Z ?_;cases qe F;have F:=b;refine X0 5 Z ?_;obtain⟨o3,F,f⟩:=qc F;refine qq (rL (λm e w'=>∃i2,ot Ce m i2=V o3/\e=[(2,vp a),(5,vi (Ce.Ak.length:Int)),(7,vi i2)]/\SH w w' [oX a (oD Ce p1 x y z s u k3 v) 171]) n ⟨_,F,Z,h⟩ Z ?_);rintro m2 _ _ ⟨i2,F,rfl,h⟩;rcases m2 with _|m2
 .cases F
 refine X1 9 0 h Z (qn Z F ?_ ?_)<;>intro F
 .refine X1 8 0 h Z ?_;obtain⟨_,_,F,Q,_,_,_,_,a3,b4,rfl,o⟩:=s4.ix F;refine ft a3 b4 Q Z (bL 0 o h Z (mr Z (dI h F aQ Z λ_ _ h F=>X0 2 Z (qn Z F ?_ ?_))))<;>intro F
  .refine X0 4 Z ?_;cases qe F;exact rb h f Z
  exact X0 7 Z (rK ⟨_,F,Z,h⟩ Z)
 refine qy Z ?_;cases qe F;exact X0 4 Z (rb h f Z)
def gJ(c:Int)(b:qO):Nat->(List qW)->Int->Option ((List qW)×Int)|0,_,_=>U|n+1,d,a=>bif decide (a<(b.Ap.length:Int)) then(qG b.Ap a).bind λg=>(df d ([(⟨c,a,g,(a==(qj ((b.Ap.length:Int)-1)))⟩:qW)]:List qW)).bind λf=>gJ c b n f (qj (a+1)) else V (d,a)
def gK(Ce:qk):Nat->(List qW)->Int->Option ((List qW)×Int)|0,_,_=>U|n+1,b,a=>bif decide (a<(Ce.Ai.length:Int)) then(qG Ce.Ai a).bind λd=>(qG Ce.Ai a).bind λf=>(df b ([(⟨(-1),a,d.Cb,(f.Bx==1)⟩:qW)]:List qW)).bind λc=>gK Ce n c (qj (a+1)) else V (b,a)
def gI(Ce:qk):Nat->(List qW)->Int->Option ((List qW)×Int)|0,_,_=>U|n+1,x1,a=>bif decide (a<(Ce.Ab.length:Int)) then(qG Ce.Ab a).bind λc=>(gJ a c n x1 0).bind λ(b,_)=>gI Ce n b (qj (a+1)) else V (x1,a)
def fa(n:Nat)(Ce:qk):Option (List qW):=(gI Ce n ([]:List qW) 0).bind λ(x1,_)=>(gK Ce n x1 0).bind λ(a,_)=>V a
theorem eH{Ce:qk}(v:Ro w Ce cs1){r:List qW}(F:fa n Ce=V r):qN prog 108 [gv Ce cs1] w r:=by
 obtain⟨p1,T,p2,W,p3,k3,rfl,s1,_,s3⟩:=cn v;refine zV 69 func108 Z λh=>db (qK h Z Z λ_ a h=>X0 4 Z (qt qa [] _ ([]:List qW) h z9 trivial Z λ_ _ _ h=>X0 7 Z ?_));obtain⟨o1,F,s⟩:=qc F;refine qq (rL (λm e w'=>∃S2 p5 g X x1 d,gI Ce m x1 d=V o1/\e=[(1,vp a),(3,oS p5 g X),(4,vi d)]/\SH w w' [oW S2 (x1:List qW) [oS p5 g X],oX a (bh Ce p1 p2 p3 T W k3) 31]) n ⟨_,_,_,_,_,_,F,Z,h⟩ Z ?_);rintro m1 _ _ ⟨S2,p5,g,X,x1,d,F,rfl,h⟩;obtain rfl:=(h.sl 0 Z).2;rcases m1 with _|m1
 .cases F
 refine X1 9 1 h Z (qn Z F ?_ ?_)<;>intro F
 .refine X1 8 1 h Z ?_;obtain⟨p,_,F,B,_,_,_,_,I,M,Q,x⟩:=s1.ix F;obtain⟨p6,k5,rfl,s4⟩:=bI Q;refine ft I M B Z (cr Z (bL 2 x h Z (X0 6 Z ?_)));obtain⟨o2,F,t⟩:=qc F;refine qq (rL (λm e w'=>∃S3 p7 i Y x2 f,gJ d p m x2 f=V o2/\e=[(1,vp a),(3,oS p7 i Y),(4,vi d),(5,oL p6 p.Ap k5),(6,vi f)]/\SH w w' [oW S3 (x2:List qW) [oS p7 i Y],oX a (bh Ce p1 p2 p3 T W k3) 31]) m1 ⟨_,_,_,_,_,_,F,Z,h⟩ Z ?_);rintro m2 _ _ ⟨S3,p7,i,Y,x2,f,F,rfl,h⟩;obtain rfl:=(h.sl 0 Z).2;rcases m2 with _|m2
  .cases F
  refine X0 8 Z (qn Z F ?_ ?_)<;>intro F
  .refine X0 9 Z ?_;obtain⟨y2,_,F,C,_,_,_,_,J,N,rfl,y⟩:=s4.ix F;refine ft J N C Z (bL 0 y h Z (qe3 Z (dF (qB qa [0,1,2,3] [.tmp 29,.tmp 30,.tmp 34,.tmp 39] z8) Z (qt qa [.tmp 40] _ ([(⟨d,f,y2,(f==(qj ((p.Ap.length:Int)-1)))⟩:qW)]:List qW) h z9 ⟨(nG (⟨d,f,y2,(f==(qj ((p.Ap.length:Int)-1)))⟩:qW)),G⟩ Z λ_ _ _ h=>?_))));obtain⟨_,b,F⟩:=qc F;obtain⟨g1,b⟩:=qJ b;refine bn qa 1 h Z (h.sl 0 Z).1 (h.sl 0 Z).2 z9 g1 b Z λ_ _ _ _ h=>X0 8 Z ?_;exact rK ⟨_,_,_,_,_,_,F,Z,h.p [1,2] Z⟩ Z
  refine qy Z ?_;cases qe F;exact X0 6 Z (rK ⟨_,_,_,_,_,_,t,Z,h⟩ Z)
 refine qy Z ?_;cases qe F;have F:=s;refine X0 5 Z ?_;obtain⟨o3,F,u⟩:=qc F;refine qq (rL (λm e w'=>∃S6 l k k8 x4 o,gK Ce m x4 o=V o3/\e=[(1,vp a),(3,oS l k k8),(7,vi o)]/\SH w w' [oW S6 (x4:List qW) [oS l k k8],oX a (bh Ce p1 p2 p3 T W k3) 31]) n ⟨_,_,_,_,_,_,F,Z,h⟩ Z ?_);rintro m3 _ _ ⟨S6,l,k,k8,x4,o,F,rfl,h⟩;obtain rfl:=(h.sl 0 Z).2;rcases m3 with _|m3
 .cases F
 refine X1 9 1 h Z (qn Z F ?_ ?_)<;>intro F
 .refine WC (rA [] [1] h Z λ_ h=>M1 31 [0,1,2,3,4] 0 (h.p [1] Z) Z ?_);obtain⟨y3,_,F,D,_,_,_,_,K,O,R,z⟩:=s3.ix F;obtain rfl:=lZ R;refine Ae 5 63 K O D (h.p [1] Z) Z (M0 127 [6] (h.p [1] Z) Z (Al 7 255 2 z (h.p [1] Z) Z (M1 2047 [8,9,10] 0 (h.p [1] Z) Z ?_)));obtain⟨y4,_,F,H,_,_,_,_,L,P,S,A⟩:=s3.ix F;obtain rfl:=lZ S;refine Ae 11 4095 L P H (h.p [1] Z) Z (M0 8191 [12] (h.p [1] Z) Z (Al 13 16383 1 A (h.p [1] Z) Z (M0 32767 [14] (h.p [1] Z) Z (Aw 15 65535 (λw' hw=>qB qa [0,1,2,3] [.const (vi (-1)),.tmp 51,.tmp 57,.tmp 64] z8) (h.p [1] Z) Z ?_))));refine Ao 16 131071 Z (qt qa [.tmp 65] _ ([(⟨(-1),o,y3.Cb,(y4.Bx==1)⟩:qW)]:List qW) h z9 ⟨(nG (⟨(-1),o,y3.Cb,(y4.Bx==1)⟩:qW)),G⟩ Z λ_ _ _ h=>Ag (h.p [2] Z) (Ao 17 262143 Z ?_));obtain⟨_,c,F⟩:=qc F;obtain⟨g2,c⟩:=qJ c;refine bn qa 1 h Z (h.sl 0 Z).1 (h.sl 0 Z).2 z9 g2 c Z λ_ _ _ _ h=>G0 524287 [18] (h.p [2] Z) Z (Ad (X0 6 Z ?_));exact rK ⟨_,_,_,_,_,_,F,Z,h.p [1,2] Z⟩ Z
 refine qy Z ?_;cases qe F;have F:=u;refine X0 5 Z ?_;cases qe F;exact rO 0 h Z ⟨Z,G⟩
def gg(net:Int)(r1:List qW):Nat->(List Int)->Int->Option ((List Int)×Int)|0,_,_=>U|n+1,x1,a=>bif decide (a<(r1.length:Int)) then((qG r1 a).bind λc=>bif (c.net==net) then(qG r1 a).bind λd=>V (!d.drives) else V Cd).bind λb1=>bif b1 then(df x1 ([a]:List Int)).bind λb=>gg net r1 n b (qj (a+1)) else gg net r1 n x1 (qj (a+1)) else V (x1,a)
def nL(n:Nat)(d:qk)(net:Int):Option (List Int):=(fa n d).bind λr1=>(gg net r1 n ([]:List Int) 0).bind λ(x1,_)=>V x1
theorem sq{d:qk}{net}(g:Ro w d cs1){r:List Int}(F:nL n d net=V r):qN prog 89 [gv d cs1,vi net] w r:=by
 obtain⟨_,_,_,_,_,_,rfl,_,_,_⟩:=cn g;refine zV 37 func89 Z λh=>db (qK h Z Z λ_ _ h=>X0 4 Z (qt qa [] _ ([]:List Int) h z9 trivial Z λ_ _ _ h=>X1 5 1 h Z (uY h F (eH (h.old g)) Z λr1 _ S2 u s h F=>X0 7 Z ?_)));obtain⟨o1,F,y⟩:=qc F;refine qq ?_;have h:=h.p [0,1] Z;refine rL (λm e w'=>∃x p b o x1 l,gg net r1 m x1 l=V o1/\e=[(1,vi net),(5,oS p b o),(6,oL u r1 s),(7,vi l)]/\SH w w' [oW S2 (r1:List qW) [oL u r1 s],oW x (x1:List Int) [oS p b o]]) n ⟨_,_,_,_,_,_,F,Z,h⟩ Z ?_;rintro K _ _ ⟨x,p,b,o,x1,l,F,rfl,h⟩;obtain rfl:=(h.sl 1 Z).2;rcases K with _|K
 .cases F
 refine X0 8 Z (qn Z F ?_ ?_)<;>intro F
 .refine X0 4 Z ?_;obtain⟨v,f,_,F,c⟩:=bindE F;refine bw (λe w'=>∃b1,v b1=V o1/\e=[(1,vi net),(5,oL p x1 o),(6,oL u r1 s),(7,vi l),(31,.bool b1)]/\SH w w' [oW S2 (r1:List qW) [oL u r1 s],oW x (x1:List Int) [oL p x1 o]]) ?_ ?_
  .refine X0 3 Z ?_;obtain⟨_,_,F,i,_,_,_,_,B,D,I,z⟩:=(h.sl 0 Z).1.ix F;obtain rfl:=dw I;refine zx B D ⟨i.1,qE i.2.1 (h.sl 0 Z).2⟩ Z (cr Z (zc 2 z Z (CK Z (qh (t:=24) F Z ?_ ?_))))<;>intro F
   .refine X0 5 Z ?_;obtain⟨_,_,F,k,_,_,_,_,C,H,J,A⟩:=(h.sl 0 Z).1.ix F;obtain rfl:=dw J;refine zx C H ⟨k.1,qE k.2.1 (h.sl 0 Z).2⟩ Z (X0 3 Z (zc 3 A Z (X0 4 Z ?_)));exact rH F c h Z
   refine X0 8 Z ?_;exact rH F c h Z
  rintro _ _ ⟨b1,F,rfl,h⟩;subst f;refine qn Z F ?_ ?_<;>intro F
  .refine X0 3 Z (qt qa [.tmp 33] _ ([l]:List Int) h z9 ⟨Z,G⟩ Z λ_ _ _ h=>?_);obtain⟨_,a,F⟩:=qc F;obtain⟨L,a⟩:=qJ a;refine bn qa 2 h Z (h.sl 0 Z).1 (h.sl 0 Z).2 z9 L a Z λ_ _ _ _ h=>X0 8 Z ?_;exact rK ⟨_,_,_,_,_,_,F,Z,h.p [1,2] Z⟩ Z
  exact X0 7 Z (rK ⟨_,_,_,_,_,_,F,Z,h⟩ Z)
 refine qy Z ?_;cases qe F;have F:=y;refine X0 5 Z ?_;cases qe F;exact rO 1 h Z ⟨Z,G⟩
def mI(b:qf):Nat->Int->Option (eE Bool Int)|0,_=>U|n+1,a=>bif decide (a<(b.Ah.length:Int)) then(qG b.Ah a).bind λd=>(nL n (⟨b.Aa.Ab,b.Aa.Ap,b.Aa.Ai⟩:qk) a).bind λr1=>(yD n d (r1.length:Int)).bind λc=>bif (!c) then V (.ret Cd) else mI b n (qj (a+1)) else V (.nxt a)
def ki(n:Nat)(b:qf):Option Bool:=((vK n (⟨b.Aq.As⟩:qD) (⟨b.Aa.Ab,b.Aa.Ap,b.Aa.Ai⟩:qk)).bind λa=>bif (!a) then V An else V ((b.Ah.length:Int) != (b.Aa.Ap.length:Int))).bind λb1=>bif b1 then V Cd else(mI b n 0).bind λ|.ret r=>V r|.nxt _=>V An
theorem mJ{b:qf}(i:Ro w b cs1){r:Bool}(F:ki n b=V r):qN prog 44 [gv b cs1] w r:=by
 obtain⟨p1,v,B,x,C,k3,D,y,H,z,rfl,s1,s2,I,J,K⟩:=qZ i;refine zV 39 func44 Z λh=>db (qK h Z Z λ_ a h=>X0 4 Z ?_);obtain⟨g,f,_,F,d⟩:=bindE F;refine bw (λe w'=>∃b1,g b1=V r/\e=[(1,vp a),(19,.bool b1)]/\SH w w' [oX a (qL b p1 B C D H v x k3 y z) 34]) ?_ ?_
 .refine X2 5 0 0 h Z (dI h F (LR (uD _ (h.oldS s1)) (cp _ (h.oldS s2) (h.oldS I) (h.oldS J))) Z λ_ _ h F=>mr Z (qh (t:=10) F Z ?_ ?_))<;>intro F
  .refine X0 10 Z ?_;exact rH F d h Z
  refine X2 18 0 0 h Z ?_;exact rH F d h Z
 rintro _ _ ⟨b1,F,rfl,h⟩;subst f;refine qn Z F ?_ ?_<;>intro F
 .exact X0 4 Z (rb h F Z)
 refine X0 6 Z ?_;obtain⟨o1,F,c⟩:=qc F;refine qq (rL (λm e w'=>∃u,mI b m u=V o1/\e=[(1,vp a),(3,vi u)]/\SH w w' [oX a (qL b p1 B C D H v x k3 y z) 34]) n ⟨_,F,Z,h⟩ Z ?_);rintro A _ _ ⟨u,F,rfl,h⟩;rcases A with _|A
 .cases F
 refine X1 9 0 h Z (qn Z F ?_ ?_)<;>intro F
 .refine X0 4 Z (rA [] [0] h Z λ_ h=>M1 7 [0,1,2] 0 (h.p [0] Z) Z ?_);obtain⟨P,_,F,l,_,_,_,_,o,p,s,k⟩:=K.ix F;obtain⟨_,_,_,_,_,_,_,_,rfl,L,M,N,O⟩:=dM s;refine Ae 3 15 o p l (h.p [0] Z) Z (Al 4 31 0 k (h.p [0] Z) Z (M1 255 [5,6,7] 0 (h.p [0] Z) Z (Ao 8 511 Z (uY h F (sq (cp _ (h.oldS s2) (h.oldS I) (h.oldS J))) Z λ_ _ _ _ _ h F=>G0 1023 [9] (h.p [1] Z) Z (Ao 10 2047 Z (dI h F (QE (SS P (h.oldS L) (h.oldS M) (h.oldS N) (h.oldS O))) Z λ_ _ h F=>G0 4095 [11] (h.p [1] Z) Z (Ad (qn Z F ?_ ?_))))))))<;>intro F
  .refine X0 4 Z ?_;cases qe F;exact rb h c Z
  refine X0 7 Z ?_;exact rK ⟨_,F,Z,h.p [1] Z⟩ Z
 refine qy Z ?_;cases qe F;exact X0 4 Z (rb h c Z)
def bX(_:Nat)(x:Int)(b:Int)(a:Int):Option Bool:=bif decide (x>=b) then V (decide (x<=a)) else V Cd
theorem bv{x low high}  {r:Bool}(F:bX n x low high=V r):qN prog 23 [vi x,vi low,vi high] w r:=by
 refine zV 15 func23 Z λh=>X0 10 Z (qh (t:=10) F Z ?_ ?_)<;>intro F
 .exact X0 9 Z (rb h F Z)
 exact X0 6 Z (rb h F Z)
def uW(_:Nat)(s nX:ByteArray):Option ByteArray:=if s.size<=9223372036854775807/\nX.size<4294967281/\nX.data.toList.all (λb=>decide (b.toNat<128))=An then V ⟨(Lib.trimS s.data.toList nX.data.toList).toArray⟩ else U
theorem NS{s nX}{r:ByteArray}(F:uW n s nX=V r):qN prog 181 [.string s,.string nX] w r:=by
 unfold uW at F;split at F
 .rename_i hh
  obtain rfl:=qe F;refine(Tryz.strings_Trim_any s nX w hh.1 hh.2.1 hh.2.2).mono ?_;rintro e w' ⟨rfl,a⟩;exact⟨_,Z,a,[.string _],Z,VX _ _⟩
 cases F
def pS(_:Nat)(s:ByteArray)(c:gW .u8):Option Int:=V (Lib.indexByte s.data.toList c.val.toNat.toUInt8)
theorem EN{s}{c:gW .u8}{r:Int}(F:pS n s c=V r):qN prog 182 [.string s,.int .u8 c.val] w r:=by
 obtain rfl:=qe F;refine(Tryz.strings_IndexByte s c.val w).mono ?_;rintro e w' ⟨rfl,rfl⟩;exact⟨_,Z,Below.refl _ _,[vi _],Z,qbk _ _⟩
def tO(n:Nat)(s:ByteArray):Option Bool:=(bX n (s.size:Int) 1 8).bind λr1=>bif r1 then(uW n s (⟨#[97,98,99,100,101,102,103,104,105,106,107,108,109,110,111,112,113,114,115,116,117,118,119,120,121,122,48,49,50,51,52,53,54,55,56,57]⟩:ByteArray)).bind λa=>bif (a.toList==(⟨#[]⟩:ByteArray).toList) then(Y4 s 0).bind λc=>(pS n (⟨#[97,98,99,100,101,102,103,104,105,106,107,108,109,110,111,112,113,114,115,116,117,118,119,120,121,122]⟩:ByteArray) (⟨c⟩:gW .u8)).bind λb=>V (decide (b>=0)) else V Cd else V Cd
theorem xK{s}  {r:Bool}(F:tO n s=V r):qN prog 115 [.string s] w r:=by
 refine zV 17 func115 Z λh=>X0 8 Z (dI h F bv Z λ_ _ h F=>cr Z (qh (t:=6) F Z ?_ ?_))<;>intro F
 .refine X0 3 Z (qeF h F NS Z λ_ _ h F=>X0 4 Z (qh (t:=11) F Z ?_ ?_))<;>intro F
  .refine X0 3 Z ?_;obtain⟨_,a,F⟩:=qc F;have b:=CP a;exact dF (EP qa b Z Z Z Z) Z (X0 1 Z (mR h F EN Z λ_ _ h F=>X0 5 Z (rb h F Z)))
  exact X0 7 Z (rb h F Z)
 exact X0 12 Z (rb h F Z)
def fj(s:List ByteArray)(v:ByteArray):Nat->Int->Option (eE Int Int)|0,_=>U|n+1,a=>bif decide (a<(s.length:Int)) then(qG s a).bind λb=>bif (v.toList==b.toList) then V (.ret a) else fj s v n (qj (a+1)) else V (.nxt a)
def nS(n:Nat)(s:List ByteArray)(v:ByteArray):Option Int:=(fj s v n 0).bind λ|.ret r=>V r|.nxt _=>V (-1)
theorem BF{s:List ByteArray}{v}(b:Ro w s cs1){r:Int}(F:nS n s v=V r):qN prog 274 [gv s cs1,.string v] w r:=by
 obtain⟨p1,l,rfl,s1⟩:=b;refine zV 19 func274 Z λh=>X0 11 Z ?_;obtain⟨o1,F,a⟩:=qc F;refine qq (rL (λm e w'=>∃i,fj s v m i=V o1/\e=[(0,oL p1 s l),(1,.string v),(7,vi (s.length:Int)),(8,vi i)]/\SH w w' []) n ⟨_,F,Z,h⟩ Z ?_);rintro k _ _ ⟨i,F,rfl,h⟩;rcases k with _|k
 .cases F
 refine X0 5 Z (qn Z F ?_ ?_)<;>intro F
 .refine X0 13 Z ?_;obtain⟨_,_,F,d,_,_,_,_,f,g,rfl,c⟩:=s1.ix F;refine ft f g d Z (bL 0 c h Z (X0 2 Z (qn Z F ?_ ?_)))<;>intro F
  .refine X0 5 Z ?_;cases qe F;exact ri h a Z
  exact X0 6 Z (rK ⟨_,F,Z,h⟩ Z)
 refine qy Z ?_;cases qe F;exact X0 4 Z (ri h a Z)
def lu(n:Nat)(s:List ByteArray)(v:ByteArray):Option Bool:=(nS n s v).bind λr1=>V (decide (r1>=0))
theorem yh{s:List ByteArray}{v}(a:Ro w s cs1){r:Bool}(F:lu n s v=V r):qN prog 256 [gv s cs1,.string v] w r:=by
 obtain⟨_,_,rfl,s1⟩:=a;exact zV 9 func256 Z λh=>X0 8 Z (mR h F (BF ⟨_,_,Z,(h.oldS s1)⟩) Z λ_ _ h F=>X0 3 Z (rb h F Z))
def lE(list:List ByteArray):Nat->Int->Option (eE Bool Int)|0,_=>U|n+1,a=>bif decide (a<(list.length:Int)) then(qG list a).bind λb=>(tO n b).bind λr1=>bif (!r1) then V (.ret Cd) else(xV list 0 a).bind λx1=>(lu n x1 b).bind λc=>bif c then V (.ret Cd) else lE list n (qj (a+1)) else V (.nxt a)
def lz(n:Nat)(list:List ByteArray):Option Bool:=(lE list n 0).bind λ|.ret r=>V r|.nxt _=>V An
theorem oc{list:List ByteArray}(f:Ro w list cs1){r:Bool}(F:lz n list=V r):qN prog 221 [gv list cs1] w r:=by
 obtain⟨p1,s,rfl,s1⟩:=f;refine zV 23 func221 Z λh=>X0 11 Z ?_;obtain⟨o1,F,a⟩:=qc F;refine qq (rL (λm e w'=>∃p,lE list m p=V o1/\e=[(0,oL p1 list s),(5,oL p1 list s),(6,vi (list.length:Int)),(7,vi p)]/\SH w w' []) n ⟨_,F,Z,h⟩ Z ?_);rintro u _ _ ⟨p,F,rfl,h⟩;rcases u with _|u
 .cases F
 refine X0 5 Z (qn Z F ?_ ?_)<;>intro F
 .refine X0 6 Z ?_;obtain⟨_,_,F,i,_,_,_,_,l,o,rfl,g⟩:=s1.ix F;refine ft l o i Z (bL 0 g h Z (X0 6 Z (dI h F xK Z λ_ _ h F=>mr Z (qh (t:=15) F Z ?_ ?_))))<;>intro F
  .refine X0 7 Z (dO Z Z (X0 4 Z ?_));cases qe F;exact rb h a Z
  refine X0 5 Z ?_;obtain⟨_,d,F⟩:=qc F;obtain⟨_,_,c,b,k,v⟩:=VT (h.oldS s1) d;refine dF (KF qa Z Z Z (VS v Z) c b k Z Z Z Z) Z ?_;have s2:=G1 s1 d c b;refine X0 3 Z (dI h F (yh ⟨_,_,Z,(h.oldS s2)⟩) Z λ_ _ h F=>X0 2 Z (qn Z F ?_ ?_))<;>intro F
  .refine X0 4 Z ?_;cases qe F;exact rb h a Z
  exact X0 6 Z (rK ⟨_,F,Z,h⟩ Z)
 refine qy Z ?_;cases qe F;exact X0 4 Z (rb h a Z)
def fX(_:Nat)(list:List bp):Option Int:=V (list.length:Int)
theorem tP{list:List bp}(a:Ro w list cs1){r:Int}(F:fX n list=V r):qN prog 268 [gv list cs1] w r:=by
 obtain⟨_,_,rfl,_⟩:=a;exact zV 5 func268 Z λh=>X0 10 Z (ri h F Z)
def gY(list:List bp):Nat->(List ByteArray)->Int->Option (eE Bool ((List ByteArray)×Int))|0,_,_=>U|n+1,x1,a=>bif decide (a<(list.length:Int)) then(qG list a).bind λb=>(df x1 ([b.Bi]:List ByteArray)).bind λc=>bif (a==(qj ((list.length:Int)-1))) then bif (b.Bx != 2) then V (.ret Cd) else bif (b.Bs != 0) then V (.ret Cd) else bif b.Bt then V (.ret Cd) else gY list n c (qj (a+1)) else bif (b.Bx != 1) then V (.ret Cd) else(bX n b.Bs 0 500).bind λr1=>bif (!r1) then V (.ret Cd) else gY list n c (qj (a+1)) else V (.nxt (x1,a))
def wU(n:Nat)(list:List bp):Option Bool:=(gY list n ([]:List ByteArray) 0).bind λ|.ret r=>V r|.nxt (x1,_)=>(fX n list).bind λa=>(bX n a 2 5).bind λb=>bif b then(lz n x1).bind λc=>V c else V Cd
theorem NC{list:List bp}(d:Ro w list cs1){r:Bool}(F:wU n list=V r):qN prog 253 [gv list cs1] w r:=by
 obtain⟨p1,u,rfl,s1⟩:=d;refine zV 52 func253 Z λh=>X0 15 Z ?_;have h:=h.nil (α:=ByteArray);obtain⟨o1,F,a⟩:=qc F;refine qq (rL (λm e w'=>∃S1 s c p x1 o,gY list m x1 o=V o1/\e=[(0,oL p1 list u),(3,oS s c p),(6,oL p1 list u),(7,vi (list.length:Int)),(8,vi o)]/\SH w w' [oW S1 (x1:List ByteArray) [oS s c p]]) n ⟨_,_,_,_,_,_,F,Z,h⟩ Z ?_);rintro v _ _ ⟨S1,s,c,p,x1,o,F,rfl,h⟩;obtain rfl:=(h.sl 0 Z).2;rcases v with _|v
 .cases F
 refine X0 5 Z (qn Z F ?_ ?_)<;>intro F
 .refine X0 6 Z ?_;obtain⟨y,_,F,g,_,_,_,_,i,k,l,f⟩:=s1.ix F;obtain rfl:=mG l;refine ft i k g Z (bL 0 f h Z (qi qa h Z Z Z λ_ _ h=>cr Z (zs 0 h Z λ_ h=>X1 6 0 h Z (qt qa [.tmp 15] _ ([y.Bi]:List ByteArray) h z9 ⟨Z,G⟩ Z λ_ _ _ h=>?_))));obtain⟨_,b,F⟩:=qc F;obtain⟨x,b⟩:=qJ b;refine bn qa 2 h Z (h.sl 0 Z).1 (h.sl 0 Z).2 z9 x b Z λ_ _ _ _ h=>X0 10 Z (qn Z F ?_ ?_)<;>intro F
  .refine X1 6 1 h Z (qh (t:=26) F Z ?_ ?_)<;>intro F
   .refine X0 9 Z (dO Z Z (X0 4 Z ?_));cases qe F;exact rb h a Z
   refine X1 8 1 h Z (qh (t:=31) F Z ?_ ?_)<;>intro F
   .refine X0 4 Z (dO Z Z (X0 4 Z ?_));cases qe F;exact rb h a Z
   refine X1 6 1 h Z (qn Z F ?_ ?_)<;>intro F
   .refine X0 4 Z ?_;cases qe F;exact rb h a Z
   refine X0 6 Z ?_;exact rK ⟨_,_,_,_,_,_,F,Z,h.p [2] Z⟩ Z
  refine X1 6 1 h Z (qh (t:=38) F Z ?_ ?_)<;>intro F
  .refine X0 6 Z (dO Z Z (X0 4 Z ?_));cases qe F;exact rb h a Z
  refine X1 5 1 h Z (dI h F bv Z λ_ _ h F=>X0 4 Z (qn Z F ?_ ?_))<;>intro F
  .refine X0 4 Z ?_;cases qe F;exact rb h a Z
  refine X0 6 Z ?_;exact rK ⟨_,_,_,_,_,_,F,Z,h.p [2] Z⟩ Z
 refine qy Z ?_;cases qe F;have F:=a;refine X0 3 Z (mR h F (tP ⟨_,_,Z,(h.oldS s1)⟩) Z λ_ _ h F=>dI h F bv Z λ_ _ h F=>cr Z (qh (t:=48) F Z ?_ ?_))<;>intro F
 .exact X0 3 Z (dI h F (oc (h.own 0 Z)) Z λ_ _ h F=>X0 3 Z (rb h F Z))
 exact X0 5 Z (rb h F Z)
def lD(n:Nat)(c:qQ):Option Int:=(fX n c.Bh).bind λr1=>V (qj (r1-1))
theorem sH{c:qQ}(a:Ro w c cs1){r:Int}(F:lD n c=V r):qN prog 272 [gv c cs1] w r:=by
 obtain⟨_,_,_,_,_,_,rfl,s1,_,_⟩:=aV a;exact zV 7 func272 Z λh=>db (qK h Z Z λ_ _ h=>X1 6 0 h Z (mR h F (tP ⟨_,_,Z,(h.oldS s1)⟩) Z λ_ _ h F=>X0 3 Z (ri h F Z)))
def wV(_:Nat)(kind:Int):Option Bool:=bif (kind==4) then V An else V (kind==5)
theorem ND{kind}  {r:Bool}(F:wV n kind=V r):qN prog 280 [vi kind] w r:=by
 refine zV 9 func280 Z λh=>X0 9 Z (qh (t:=5) F Z ?_ ?_)<;>intro F
 .exact X0 5 Z (rb h F Z)
 exact X0 7 Z (rb h F Z)
def rW(n:Nat)(c:Int)(a:Int)(b:Int):Option Bool:=(bX n c a b).bind λr1=>V (!r1)
theorem FP{a_n k l p1}(a:Ro w (V k) [.pointer p1]){i}(b:Ro w (V l) [.pointer i]){r:Bool}(F:rW n a_n k l=V r):qN prog 93 [vi a_n,.pointer p1,.pointer i] w r:=by
 obtain⟨_,m,_,rfl,-,f,c⟩:=Cs a Z;obtain rfl:=f;obtain⟨_,o,_,rfl,-,g,d⟩:=Cs b Z;obtain rfl:=g;exact zV 10 func93 Z λh=>X0 7 Z (bL 0 c h Z (bL 0 d h Z (dI h F bv Z λ_ _ h F=>X0 3 Z (rb h F Z))))
def aW(s:List Int)(a:Int)(b:Int):Nat->Int->Option (eE Int Int)|0,_=>U|n+1,c=>bif decide (c<(s.length:Int)) then(qG s c).bind λd=>(rW n d a b).bind λr1=>bif r1 then V (.ret c) else aW s a b n (qj (c+1)) else V (.nxt c)
def cC(n:Nat)(s:List Int)(a:Int)(b:Int):Option Int:=(aW s a b n 0).bind λ|.ret r=>V r|.nxt _=>V (-1)
theorem oT{s:List Int}{a b}(g:Ro w s cs1){z}(d:Ro w (V a) [.pointer z]){A}(f:Ro w (V b) [.pointer A]){r:Int}(F:cC n s a b=V r):qN prog 153 [gv s cs1,.func (.func 93) #[] #[.pointer z,.pointer A]] w r:=by
 obtain⟨p1,B,rfl,s1⟩:=g;obtain⟨b1,v,_,rfl,-,p,_⟩:=Cs d Z;obtain rfl:=p;obtain⟨b2,x,_,rfl,-,t,_⟩:=Cs f Z;obtain rfl:=t;refine zV 19 func153 Z λh=>X0 11 Z ?_;obtain⟨o1,F,c⟩:=qc F;refine qq (rL (λm e w'=>∃u,aW s a b m u=V o1/\e=[(0,oL p1 s B),(1,.func (.func 93) #[] #[.pointer (V ⟨b1,v,U⟩),.pointer (V ⟨b2,x,U⟩)]),(7,vi (s.length:Int)),(8,vi u)]/\SH w w' []) n ⟨_,F,Z,h⟩ Z ?_);rintro y _ _ ⟨u,F,rfl,h⟩;rcases y with _|y
 .cases F
 refine X0 5 Z (qn Z F ?_ ?_)<;>intro F
 .refine X0 13 Z ?_;obtain⟨_,_,F,k,_,_,_,_,l,o,rfl,i⟩:=s1.ix F;refine ft l o k Z (bL 0 i h Z (dI h F (FP (h.old d) (h.old f)) Z λ_ _ h F=>ae (qn Z F ?_ ?_)))<;>intro F
  .refine X0 5 Z ?_;cases qe F;exact ri h c Z
  exact X0 6 Z (rK ⟨_,F,Z,h⟩ Z)
 refine qy Z ?_;cases qe F;exact X0 4 Z (ri h c Z)
def dQ(n:Nat)(s:List Int)(a:Int)(b:Int):Option Bool:=(cC n s a b).bind λr1=>V (decide (r1>=0))
theorem nP{s:List Int}{a b}(f:Ro w s cs1){k}(c:Ro w (V a) [.pointer k]){l}(d:Ro w (V b) [.pointer l]){r:Bool}(F:dQ n s a b=V r):qN prog 92 [gv s cs1,.func (.func 93) #[] #[.pointer k,.pointer l]] w r:=by
 obtain⟨_,_,rfl,s1⟩:=f;obtain⟨_,m,_,rfl,-,g,_⟩:=Cs c Z;obtain rfl:=g;obtain⟨_,o,_,rfl,-,i,_⟩:=Cs d Z;obtain rfl:=i;exact zV 9 func92 Z λh=>X0 8 Z (mR h F (oT ⟨_,_,Z,(h.oldS s1)⟩ (h.old c) (h.old d)) Z λ_ _ h F=>X0 3 Z (rb h F Z))
def eS(n:Nat)(list:List Int)(b:Int)(a:Int):Option Bool:=(dQ n list b a).bind λr1=>V (!r1)
theorem fG{list:List Int}{low high}(a:Ro w list cs1){r:Bool}(F:eS n list low high=V r):qN prog 49 [gv list cs1,vi low,vi high] w r:=by
 obtain⟨_,_,rfl,s1⟩:=a;exact zV 11 func49 Z λh=>db (qK h Z Z λ_ _ h=>qK h Z Z λ_ _ h=>X0 6 Z (dI h F (nP ⟨_,_,Z,(h.oldS s1)⟩ (pm (x:=low) 1 h Z Z) (pm (x:=high) 0 h Z Z)) Z λ_ _ h F=>X0 3 Z (rb h F Z)))
def dA(_:Nat)(list:List Int):Option Int:=V (list.length:Int)
theorem fY{list:List Int}(a:Ro w list cs1){r:Int}(F:dA n list=V r):qN prog 118 [gv list cs1] w r:=by
 obtain⟨_,_,rfl,_⟩:=a;exact zV 5 func118 Z λh=>X0 10 Z (ri h F Z)
def dD(list:List Int):Nat->Int->Option (eE Bool Int)|0,_=>U|n+1,a=>bif decide (a<(list.length:Int)) then(qG list (qj (a-1))).bind λb=>(qG list a).bind λc=>bif decide (b>=c) then V (.ret Cd) else dD list n (qj (a+1)) else V (.nxt a)
def na(n:Nat)(list:List Int):Option Bool:=(dD list n 1).bind λ|.ret r=>V r|.nxt _=>V An
theorem vZ{list:List Int}(b:Ro w list cs1){r:Bool}(F:na n list=V r):qN prog 125 [gv list cs1] w r:=by
 obtain⟨p1,t,rfl,s1⟩:=b;refine zV 20 func125 Z λh=>X0 9 Z ?_;obtain⟨o1,F,a⟩:=qc F;refine qq (rL (λm e w'=>∃p,dD list m p=V o1/\e=[(0,oL p1 list t),(3,vi p)]/\SH w w' []) n ⟨_,F,Z,h⟩ Z ?_);rintro s _ _ ⟨p,F,rfl,h⟩;rcases s with _|s
 .cases F
 refine X0 8 Z (qn Z F ?_ ?_)<;>intro F
 .refine X0 4 Z (rD (qcO Z ?_));obtain⟨_,_,F,f,_,_,_,_,i,l,rfl,c⟩:=s1.ix F;refine fU i l f Z (dZ 0 c h Z (xz Z ?_));obtain⟨_,_,F,g,_,_,_,_,k,o,rfl,d⟩:=s1.ix F;refine fU k o g Z (dZ 0 d h Z (xm Z (dN h λ_ h=>qn Z F ?_ ?_)))<;>intro F
  .refine X0 4 Z ?_;cases qe F;exact rb h a Z
  exact X0 7 Z (rK ⟨_,F,Z,h⟩ Z)
 refine qy Z ?_;cases qe F;exact X0 4 Z (rb h a Z)
def vY(n:Nat)(list:List Int):Option Bool:=(dA n list).bind λr1=>(bX n r1 1 4).bind λa=>bif a then(eS n list 0 100000).bind λb=>bif b then(na n list).bind λc=>V c else V Cd else V Cd
theorem DF{list:List Int}(a:Ro w list cs1){r:Bool}(F:vY n list=V r):qN prog 298 [gv list cs1] w r:=by
 obtain⟨_,_,rfl,s1⟩:=a;refine zV 14 func298 Z λh=>X0 7 Z (mR h F (fY ⟨_,_,Z,(h.oldS s1)⟩) Z λ_ _ h F=>dI h F bv Z λ_ _ h F=>cr Z (qh (t:=6) F Z ?_ ?_))<;>intro F
 .refine X0 3 Z (dI h F (fG ⟨_,_,Z,(h.oldS s1)⟩) Z λ_ _ h F=>mr Z (qh (t:=10) F Z ?_ ?_))<;>intro F
  .exact X0 3 Z (dI h F (vZ ⟨_,_,Z,(h.oldS s1)⟩) Z λ_ _ h F=>X0 3 Z (rb h F Z))
  exact X0 5 Z (rb h F Z)
 exact X0 9 Z (rb h F Z)
def wT(n:Nat)(t:qU):Option Bool:=(vY n t.Bp).bind λr1=>bif r1 then(vY n t.Bj).bind λa=>bif a then bif ((t.Bg.length:Int)==(qj ((t.Bp.length:Int)*(t.Bj.length:Int)))) then(eS n t.Bg (-1000000) 1000000).bind λb=>V b else V Cd else V Cd else V Cd
theorem NB{t:qU}(a:Ro w t cs1){r:Bool}(F:wT n t=V r):qN prog 292 [gv t cs1] w r:=by
 obtain⟨_,_,_,_,_,_,rfl,s1,s2,b⟩:=ee a;refine zV 29 func292 Z λh=>db (qK h Z Z λ_ _ h=>X1 6 0 h Z (dI h F (DF ⟨_,_,Z,(h.oldS s1)⟩) Z λ_ _ h F=>cr Z (qh (t:=6) F Z ?_ ?_)))<;>intro F
 .refine X1 5 0 h Z (dI h F (DF ⟨_,_,Z,(h.oldS s2)⟩) Z λ_ _ h F=>mr Z (qh (t:=11) F Z ?_ ?_))<;>intro F
  .refine X3 24 0 0 0 h Z (qh (t:=24) F Z ?_ ?_)<;>intro F
   .exact X1 5 0 h Z (dI h F (fG ⟨_,_,Z,(h.oldS b)⟩) Z λ_ _ h F=>X0 3 Z (rb h F Z))
   exact X0 6 Z (rb h F Z)
  exact X0 19 Z (rb h F Z)
 exact X0 24 Z (rb h F Z)
def gP(x:List Int):Nat->Int->Int->Option (Int×Int)|0,_,_=>U|n+1,b,a=>bif decide (a<(x.length:Int)) then(qG x a).bind λc=>gP x n (if c<b then c else b) (qj (a+1)) else V (b,a)
def sg(n:Nat)(x:List Int):Option Int:=(bif decide ((x.length:Int)<1) then U else V ()).bind λ_=>(qG x 0).bind λb=>(gP x n b 1).bind λ(a,_)=>V a
theorem FZ{x:List Int}(f:Ro w x cs1){r:Int}(F:sg n x=V r):qN prog 293 [gv x cs1] w r:=by
 obtain⟨p1,y,rfl,s1⟩:=f;refine zV 25 func293 Z λh=>X0 11 Z ?_;obtain⟨b,a,_,F,d⟩:=bindE F;refine bw (λe w'=>b ()=V r/\e=[(0,oL p1 x y)]/\SH w w' []) ?_ ?_
 .refine qn Z F ?_ ?_<;>intro F
  .refine ah ?_;cases F
  refine eZ ?_;cases qe F;exact rG ⟨d,Z,h⟩ Z
 rintro _ _ ⟨F,rfl,h⟩;subst a;refine X0 3 Z ?_;obtain⟨_,_,F,k,_,_,_,_,o,s,rfl,g⟩:=s1.ix F;refine ft o s k Z (bL 0 g h Z (X0 7 Z ?_));obtain⟨o1,F,c⟩:=qc F;refine qq (rL (λm e w'=>∃u v,gP x m u v=V o1/\e=[(0,oL p1 x y),(3,vi u),(4,vi v)]/\SH w w' []) n ⟨_,_,F,Z,h⟩ Z ?_);rintro z _ _ ⟨u,v,F,rfl,h⟩;rcases z with _|z
 .cases F
 refine X0 8 Z (qn Z F ?_ ?_)<;>intro F
 .refine X0 7 Z ?_;obtain⟨_,_,F,l,_,_,_,_,p,t,rfl,i⟩:=s1.ix F;exact ft p t l Z (bL 0 i h Z (X0 9 Z (rK ⟨_,_,F,Z,h⟩ Z)))
 refine qy Z ?_;cases qe F;exact X0 5 Z (ri h c Z)

def rV(n:Nat)(t:qU)(b:Bool):Option Bool:=(wT n t).bind λr1=>bif (!r1) then V An else bif b then(sg n t.Bg).bind λa=>V (decide (a<0)) else V Cd
theorem FO{t:qU}{g}(a:Ro w t cs1){f}(b:Ro w (V g) [.pointer f]){r:Bool}(F:rV n t g=V r):qN prog 291 [gv t cs1,.pointer f] w r:=by
 obtain⟨_,_,_,_,_,_,rfl,_,_,k⟩:=ee a;obtain⟨_,i,_,rfl,-,d,c⟩:=Cs b Z;obtain rfl:=d;refine zV 16 func291 Z λh=>db (qK h Z Z λ_ _ h=>X1 5 0 h Z (dI h F (NB (h.old a)) Z λ_ _ h F=>mr Z (qh (t:=7) F Z ?_ ?_)))<;>intro F
 .exact X0 10 Z (rb h F Z)
 refine X0 1 Z (bL 0 c h Z (X0 2 Z (qh (t:=9) F Z ?_ ?_)))<;>intro F
 .exact X1 5 0 h Z (mR h F (FZ ⟨_,_,Z,(h.oldS k)⟩) Z λ_ _ h F=>X0 7 Z (rb h F Z))
 exact X0 9 Z (rb h F Z)
def ay(s:List qU)(a:Bool):Nat->Int->Option (eE Int Int)|0,_=>U|n+1,b=>bif decide (b<(s.length:Int)) then(qG s b).bind λc=>(rV n c a).bind λr1=>bif r1 then V (.ret b) else ay s a n (qj (b+1)) else V (.nxt b)
def bS(n:Nat)(s:List qU)(a:Bool):Option Int:=(ay s a n 0).bind λ|.ret r=>V r|.nxt _=>V (-1)
theorem nu{s:List qU}{a}(d:Ro w s cs1){v}(c:Ro w (V a) [.pointer v]){r:Int}(F:bS n s a=V r):qN prog 297 [gv s cs1,.func (.func 291) #[] #[.pointer v]] w r:=by
 obtain⟨p1,x,rfl,s1⟩:=d;obtain⟨b1,t,_,rfl,-,l,_⟩:=Cs c Z;obtain rfl:=l;refine zV 19 func297 Z λh=>X0 11 Z ?_;obtain⟨o1,F,b⟩:=qc F;refine qq (rL (λm e w'=>∃p,ay s a m p=V o1/\e=[(0,oL p1 s x),(1,.func (.func 291) #[] #[.pointer (V ⟨b1,t,U⟩)]),(7,vi (s.length:Int)),(8,vi p)]/\SH w w' []) n ⟨_,F,Z,h⟩ Z ?_);rintro u _ _ ⟨p,F,rfl,h⟩;rcases u with _|u
 .cases F
 refine X0 5 Z (qn Z F ?_ ?_)<;>intro F
 .refine X0 13 Z ?_;obtain⟨A,_,F,g,_,_,_,_,i,k,o,f⟩:=s1.ix F;obtain⟨_,_,_,_,_,_,rfl,s2,y,z⟩:=ee o;refine ft i k g Z (bL 0 f h Z (dI h F (FO (tL A (h.oldS s2) (h.oldS y) (h.oldS z)) (h.old c)) Z λ_ _ h F=>ae (qn Z F ?_ ?_)))<;>intro F
  .refine X0 5 Z ?_;cases qe F;exact ri h b Z
  exact X0 6 Z (rK ⟨_,F,Z,h⟩ Z)
 refine qy Z ?_;cases qe F;exact X0 4 Z (ri h b Z)
def cM(n:Nat)(s:List qU)(a:Bool):Option Bool:=(bS n s a).bind λr1=>V (decide (r1>=0))
theorem mc{s:List qU}{a}(c:Ro w s cs1){f}(b:Ro w (V a) [.pointer f]){r:Bool}(F:cM n s a=V r):qN prog 290 [gv s cs1,.func (.func 291) #[] #[.pointer f]] w r:=by
 obtain⟨_,_,rfl,s1⟩:=c;obtain⟨_,g,_,rfl,-,d,_⟩:=Cs b Z;obtain rfl:=d;exact zV 9 func290 Z λh=>X0 8 Z (mR h F (nu ⟨_,_,Z,(h.oldS s1)⟩ (h.old b)) Z λ_ _ h F=>X0 3 Z (rb h F Z))
def od(n:Nat)(list:List qU)(a:Bool):Option Bool:=bif ((list.length:Int)==2) then(cM n list a).bind λr1=>V (!r1) else V Cd
theorem ut{list:List qU}{positive}(a:Ro w list cs1){r:Bool}(F:od n list positive=V r):qN prog 281 [gv list cs1,.bool positive] w r:=by
 obtain⟨_,_,rfl,s1⟩:=a;refine zV 14 func281 Z λh=>db (qK h Z Z λ_ _ h=>X0 8 Z (qh (t:=8) F Z ?_ ?_))<;>intro F
 .exact X0 5 Z (dI h F (mc ⟨_,_,Z,(h.oldS s1)⟩ (pm (x:=positive) 0 h Z Z)) Z λ_ _ h F=>X0 5 Z (rb h F Z))
 exact X0 7 Z (rb h F Z)
def ul(_:Nat)(p:bp):Option Bool:=V p.Bt
theorem DA{p:bp}(a:Ro w p cs1){r:Bool}(F:ul n p=V r):qN prog 295 [gv p cs1] w r:=by
 obtain rfl:=mG a;exact zV 5 func295 Z λh=>db (qK h Z Z λ_ _ h=>X1 8 0 h Z (rb h F Z))
def aG(s:List bp):Nat->Int->Option (eE Int Int)|0,_=>U|n+1,a=>bif decide (a<(s.length:Int)) then(qG s a).bind λb=>(ul n b).bind λr1=>bif r1 then V (.ret a) else aG s n (qj (a+1)) else V (.nxt a)
def dC(n:Nat)(s:List bp):Option Int:=(aG s n 0).bind λ|.ret r=>V r|.nxt _=>V (-1)
theorem nJ{s:List bp}(b:Ro w s cs1){r:Int}(F:dC n s=V r):qN prog 294 [gv s cs1,.func (.func 295) #[] #[]] w r:=by
 obtain⟨p1,o,rfl,s1⟩:=b;refine zV 19 func294 Z λh=>X0 11 Z ?_;obtain⟨o1,F,a⟩:=qc F;refine qq (rL (λm e w'=>∃k,aG s m k=V o1/\e=[(0,oL p1 s o),(1,.func (.func 295) #[] #[]),(7,vi (s.length:Int)),(8,vi k)]/\SH w w' []) n ⟨_,F,Z,h⟩ Z ?_);rintro l _ _ ⟨k,F,rfl,h⟩;rcases l with _|l
 .cases F
 refine X0 5 Z (qn Z F ?_ ?_)<;>intro F
 .refine X0 13 Z ?_;obtain⟨p,_,F,d,_,_,_,_,f,g,i,c⟩:=s1.ix F;obtain rfl:=mG i;refine ft f g d Z (bL 0 c h Z (dI h F (DA (zG p)) Z λ_ _ h F=>ae (qn Z F ?_ ?_)))<;>intro F
  .refine X0 5 Z ?_;cases qe F;exact ri h a Z
  exact X0 6 Z (rK ⟨_,F,Z,h⟩ Z)
 refine qy Z ?_;cases qe F;exact X0 4 Z (ri h a Z)
def tk(n:Nat)(c:qQ):Option Int:=(dC n c.Bh).bind λr1=>V r1
theorem GT{c:qQ}(a:Ro w c cs1){r:Int}(F:tk n c=V r):qN prog 282 [gv c cs1] w r:=by
 obtain⟨_,_,_,_,_,_,rfl,s1,_,_⟩:=aV a;exact zV 6 func282 Z λh=>db (qK h Z Z λ_ _ h=>X1 6 0 h Z (mR h F (nJ ⟨_,_,Z,(h.oldS s1)⟩) Z λ_ _ h F=>X0 2 Z (ri h F Z)))
def pH(n:Nat)(c:qQ)(pin:Int):Option Bool:=(lD n c).bind λr1=>(bX n pin 0 (qj (r1-1))).bind λa=>V a
theorem vV{c:qQ}{pin}(a:Ro w c cs1){r:Bool}(F:pH n c pin=V r):qN prog 283 [gv c cs1,vi pin] w r:=by
 obtain⟨_,_,_,_,_,_,rfl,_,_,_⟩:=aV a;exact zV 10 func283 Z λh=>db (qK h Z Z λ_ _ h=>X1 6 0 h Z (mR h F (sH (h.old a)) Z λ_ _ h F=>cr Z (dI h F bv Z λ_ _ h F=>X0 2 Z (rb h F Z))))
def tn(n:Nat)(Ce:qQ)(Cf:bo):Option Bool:=(wV n Cf.Bf).bind λr1=>bif r1 then(bif (Cf.Br==0) then bif ((Cf.Ba.length:Int)==0) then(od n Cf.Bq Cd).bind λb=>bif b then(tk n Ce).bind λc=>bif (Cf.Bm==c) then bif decide (Cf.Bm>=0) then(pH n Ce Cf.To).bind λd=>bif d then V (Cf.To != Cf.Bm) else V Cd else V Cd else V Cd else V Cd else V Cd else V Cd).bind λb1=>V b1 else((od n Cf.Bq An).bind λg=>bif (!g) then V An else(od n Cf.Ba An).bind λh=>bif (!h) then V An else(lD n Ce).bind λi=>bif (Cf.To != i) then V An else(pH n Ce Cf.Bm).bind λk=>V (!k)).bind λb2=>bif b2 then V Cd else bif (Cf.Bf==1) then(qG Ce.Bh Cf.Bm).bind λl=>bif (!l.Bt) then(bX n Cf.Br 1 3).bind λf=>V f else V Cd else(bif (Cf.Bf==2) then V (Cf.Bf==2) else V (Cf.Bf==3)).bind λa=>bif a then(qG Ce.Bh Cf.Bm).bind λm=>bif m.Bt then V (Cf.Br==0) else V Cd else V Cd
theorem GV{Ce:qQ}{Cf:bo}(b:Ro w Ce cs1)(x:Ro w Cf cs2){r:Bool}(F:tn n Ce Cf=V r):qN prog 269 [gv Ce cs1,gv Cf cs2] w r:=by
 obtain⟨p1,Q,W,R,X,k3,rfl,s1,_,_⟩:=aV b;obtain⟨Y,S,p5,T,rfl,s4,s5⟩:=bd x;refine zV 103 func269 Z λh=>db (qK h Z Z λ_ c h=>qK h Z Z λ_ d h=>X1 7 0 h Z (dI h F ND Z λ_ _ h F=>ae (qn Z F ?_ ?_)))<;>intro F
 .refine aD ?_;obtain⟨p,i,_,F,a⟩:=bindE F;refine bw (λe w'=>∃b1,p b1=V r/\e=[(4,.bool b1)]/\SH w w' []) ?_ ?_
  .refine rD (Y1 2 0 h Z ?_);refine xz Z (bu (t:=11) F Z ?_ ?_)<;>intro F
   .refine Y1 4 0 h Z ?_;refine Y0 6 Z (bu (t:=17) F Z ?_ ?_)<;>intro F
    .refine Y1 4 0 h Z ?_;refine Y0 1 Z ?_;obtain⟨r2,J,F⟩:=qc F;refine dB r2 (MT _) (cB 281 Z) (λ_ hb=>ut ⟨_,_,Z,((h.ext hb).oldS s4)⟩ J) Z Z Z Z (xz Z (bu (t:=22) F Z ?_ ?_))<;>intro F
     .refine Y1 4 0 h Z ?_;refine Y1 2 1 h Z ?_;refine Y0 1 Z ?_;obtain⟨r3,K,F⟩:=qc F;refine dB r3 (N6 _) (cB 282 Z) (λ_ hb=>GT ((h.ext hb).old b) K) Z Z Z Z (Y0 4 Z (bu (t:=29) F Z ?_ ?_))<;>intro F
      .refine Y1 4 0 h Z ?_;refine Y0 4 Z (bu (t:=34) F Z ?_ ?_)<;>intro F
       .refine Y1 2 1 h Z ?_;refine Y1 4 0 h Z ?_;refine Y0 1 Z ?_;obtain⟨r4,L,F⟩:=qc F;refine dB r4 (MT _) (cB 283 Z) (λ_ hb=>vV ((h.ext hb).old b) L) Z Z Z Z (xz Z (bu (t:=40) F Z ?_ ?_))<;>intro F
        .refine Y1 4 0 h Z ?_;refine Y1 4 0 h Z ?_;refine Y0 4 Z (dN h λ_ h=>?_);have h:=h.p [] Z;exact rH F a h Z
        refine Y0 7 Z (dN h λ_ h=>?_);have h:=h.p [] Z;exact rH F a h Z
       refine Y0 13 Z (dN h λ_ h=>?_);have h:=h.p [] Z;exact rH F a h Z
      refine Y0 18 Z (dN h λ_ h=>?_);have h:=h.p [] Z;exact rH F a h Z
     refine Y0 25 Z (dN h λ_ h=>?_);have h:=h.p [] Z;exact rH F a h Z
    refine Y0 30 Z (dN h λ_ h=>?_);have h:=h.p [] Z;exact rH F a h Z
   refine Y0 36 Z (dN h λ_ h=>?_);have h:=h.p [] Z;exact rH F a h Z
  rintro _ _ ⟨b1,F,rfl,h⟩;subst i;exact rb h F Z
 refine qbm ?_;obtain⟨u,l,_,F,f⟩:=bindE F;refine bw (λe w'=>∃b2,u b2=V r/\e=[(2,vp c),(3,vp d),(70,.bool b2)]/\SH w w' [oX d (kI Cf Y p5 S T) 109,oX c (qP Ce p1 W X Q R k3) 106]) ?_ ?_
 .refine rD (Y1 2 0 h Z ?_);obtain⟨r6,O,F⟩:=qc F;refine dB r6 (MT _) (cB 281 Z) (λ_ hb=>ut ⟨_,_,Z,((h.ext hb).oldS s4)⟩ O) Z Z Z Z (xz Z (bu (t:=51) F Z ?_ ?_))<;>intro F
  .refine Y0 19 Z (dN h λ_ h=>?_);exact rH F f h Z
  refine Y1 4 0 h Z ?_;refine Y0 1 Z ?_;obtain⟨r7,P,F⟩:=qc F;refine dB r7 (MT _) (cB 281 Z) (λ_ hb=>ut ⟨_,_,Z,((h.ext hb).oldS s5)⟩ P) Z Z Z Z (Y0 4 Z (bu (t:=57) F Z ?_ ?_))<;>intro F
  .refine Y0 13 Z (dN h λ_ h=>?_);exact rH F f h Z
  refine Y1 4 0 h Z ?_;refine Y1 2 1 h Z ?_;refine Y0 1 Z ?_;obtain⟨r8,m,F⟩:=qc F;refine dB r8 (N6 _) (cB 272 Z) (λ_ hb=>sH ((h.ext hb).old b) m) Z Z Z Z (Y0 4 Z (bu (t:=64) F Z ?_ ?_))<;>intro F
  .refine Y0 6 Z (dN h λ_ h=>?_);exact rH F f h Z
  refine Y1 2 1 h Z ?_;refine Y1 4 0 h Z ?_;refine Y0 1 Z ?_;obtain⟨r9,o,F⟩:=qc F;refine dB r9 (MT _) (cB 283 Z) (λ_ hb=>vV ((h.ext hb).old b) o) Z Z Z Z (Y0 3 Z (dN h λ_ h=>?_));exact rH F f h Z
 rintro _ _ ⟨b2,F,rfl,h⟩;subst l;refine qn Z F ?_ ?_<;>intro F
 .exact X0 4 Z (rb h F Z)
 refine X1 13 0 h Z (qn Z F ?_ ?_)<;>intro F
 .refine X2 6 1 0 h Z ?_;obtain⟨_,_,F,A,_,_,_,_,C,H,M,y⟩:=s1.ix F;obtain rfl:=mG M;refine ft C H A Z (cr Z (bL 3 y h Z (mr Z (qh (t:=83) F Z ?_ ?_))))<;>intro F
  .exact X1 5 0 h Z (dI h F bv Z λ_ _ h F=>X0 3 Z (rb h F Z))
  exact X0 6 Z (rb h F Z)
 refine X0 6 Z ?_;obtain⟨s,k,_,F,g⟩:=bindE F;refine bw (λe w'=>∃v,s v=V r/\e=[(2,vp c),(3,vp d),(88,.bool v)]/\SH w w' [oX d (kI Cf Y p5 S T) 109,oX c (qP Ce p1 W X Q R k3) 106]) ?_ ?_
 .refine qn Z F ?_ ?_<;>intro F
  .refine eZ ?_;exact rH F g h Z
  refine X0 4 Z ?_;exact rH F g h Z
 rintro _ _ ⟨v,F,rfl,h⟩;subst k;refine qn Z F ?_ ?_<;>intro F
 .refine X2 6 1 0 h Z ?_;obtain⟨_,_,F,B,_,_,_,_,D,I,N,z⟩:=s1.ix F;obtain rfl:=mG N;refine ft D I B Z (cr Z (bL 3 z h Z (cr Z (qh (t:=98) F Z ?_ ?_))))<;>intro F
  .exact X1 9 0 h Z (rb h F Z)
  exact X0 6 Z (rb h F Z)
 exact X0 6 Z (rb h F Z)
def nQ(_:Nat)(b:bo)(a:bo):Option Bool:=bif (b.Bf==a.Bf) then bif (b.Bm==a.Bm) then V (b.To==a.To) else V Cd else V Cd
theorem AO{k:bo}{g:bo}(b:Ro w k cs1){f}(c:Ro w (V g) [.pointer f]){r:Bool}(F:nQ n k g=V r):qN prog 271 [gv k cs1,.pointer f] w r:=by
 obtain⟨_,_,_,_,rfl,_,_⟩:=bd b;obtain⟨_,i,_,rfl,-,d,a⟩:=Cs c Z;obtain⟨_,_,_,_,rfl,_,_⟩:=bd d;refine zV 23 func271 Z λh=>db (qK h Z Z λ_ _ h=>X1 7 0 h Z (bL 0 a h Z (mr Z (qh (t:=9) F Z ?_ ?_))))<;>intro F
 .refine X1 7 0 h Z (bL 1 a h Z (X0 4 Z (qh (t:=16) F Z ?_ ?_)))<;>intro F
  .exact X1 7 0 h Z (bL 2 a h Z (X0 5 Z (rb h F Z)))
  exact X0 8 Z (rb h F Z)
 exact X0 15 Z (rb h F Z)
def ao(s:List bo)(a:bo):Nat->Int->Option (eE Int Int)|0,_=>U|n+1,b=>bif decide (b<(s.length:Int)) then(qG s b).bind λc=>(nQ n c a).bind λr1=>bif r1 then V (.ret b) else ao s a n (qj (b+1)) else V (.nxt b)
def cV(n:Nat)(s:List bo)(a:bo):Option Int:=(ao s a n 0).bind λ|.ret r=>V r|.nxt _=>V (-1)
theorem mB{s:List bo}{a:bo}(d:Ro w s cs1){v}(c:Ro w (V a) [.pointer v]){r:Int}(F:cV n s a=V r):qN prog 284 [gv s cs1,.func (.func 271) #[] #[.pointer v]] w r:=by
 obtain⟨p1,x,rfl,s1⟩:=d;obtain⟨b1,t,_,rfl,-,l,_⟩:=Cs c Z;obtain⟨_,_,_,_,rfl,_,_⟩:=bd l;refine zV 19 func284 Z λh=>X0 11 Z ?_;obtain⟨o1,F,b⟩:=qc F;refine qq (rL (λm e w'=>∃p,ao s a m p=V o1/\e=[(0,oL p1 s x),(1,.func (.func 271) #[] #[.pointer (V ⟨b1,t,U⟩)]),(7,vi (s.length:Int)),(8,vi p)]/\SH w w' []) n ⟨_,F,Z,h⟩ Z ?_);rintro u _ _ ⟨p,F,rfl,h⟩;rcases u with _|u
 .cases F
 refine X0 5 Z (qn Z F ?_ ?_)<;>intro F
 .refine X0 13 Z ?_;obtain⟨A,_,F,g,_,_,_,_,i,k,o,f⟩:=s1.ix F;obtain⟨_,_,_,_,rfl,y,z⟩:=bd o;refine ft i k g Z (bL 0 f h Z (dI h F (AO (uC A (h.oldS y) (h.oldS z)) (h.old c)) Z λ_ _ h F=>ae (qn Z F ?_ ?_)))<;>intro F
  .refine X0 5 Z ?_;cases qe F;exact ri h b Z
  exact X0 6 Z (rK ⟨_,F,Z,h⟩ Z)
 refine qy Z ?_;cases qe F;exact X0 4 Z (ri h b Z)
def bH(n:Nat)(s:List bo)(a:bo):Option Bool:=(cV n s a).bind λr1=>V (decide (r1>=0))
theorem lH{s:List bo}{a:bo}(c:Ro w s cs1){f}(b:Ro w (V a) [.pointer f]){r:Bool}(F:bH n s a=V r):qN prog 270 [gv s cs1,.func (.func 271) #[] #[.pointer f]] w r:=by
 obtain⟨_,_,rfl,s1⟩:=c;obtain⟨_,g,_,rfl,-,d,_⟩:=Cs b Z;obtain⟨_,_,_,_,rfl,_,_⟩:=bd d;exact zV 9 func270 Z λh=>X0 8 Z (mR h F (mB ⟨_,_,Z,(h.oldS s1)⟩ (h.old b)) Z λ_ _ h F=>X0 3 Z (rb h F Z))
def fV(c:qQ):Nat->Int->Option (eE Bool Int)|0,_=>U|n+1,a=>bif decide (a<(c.Av.length:Int)) then(qG c.Av a).bind λb=>(tn n c b).bind λr1=>bif (!r1) then V (.ret Cd) else(xV c.Av 0 a).bind λx1=>(bH n x1 b).bind λd=>bif d then V (.ret Cd) else fV c n (qj (a+1)) else V (.nxt a)
def pG(n:Nat)(c:qQ):Option Bool:=(fV c n 0).bind λ|.ret r=>V r|.nxt _=>V (decide ((c.Av.length:Int)<=8))
theorem CZ{c:qQ}(d:Ro w c cs1){r:Bool}(F:pG n c=V r):qN prog 254 [gv c cs1] w r:=by
 obtain⟨p1,I,B,z,J,k3,rfl,_,s2,_⟩:=aV d;refine zV 30 func254 Z λh=>db (qK h Z Z λ_ b h=>X1 10 0 h Z ?_);obtain⟨o1,F,a⟩:=qc F;refine qq (rL (λm e w'=>∃v,fV c m v=V o1/\e=[(1,vp b),(6,oL B c.Av z),(7,vi (c.Av.length:Int)),(8,vi v)]/\SH w w' [oX b (qP c p1 B J I z k3) 106]) n ⟨_,F,Z,h⟩ Z ?_);rintro A _ _ ⟨v,F,rfl,h⟩;rcases A with _|A
 .cases F
 refine X0 5 Z (qn Z F ?_ ?_)<;>intro F
 .refine X0 6 Z ?_;obtain⟨y,_,F,l,_,_,_,_,p,s,u,k⟩:=s2.ix F;obtain⟨_,_,_,_,rfl,C,D⟩:=bd u;refine ft p s l Z (bL 0 k h Z (qi qa h Z Z Z λ_ _ h=>cr Z (zs 0 h Z λ_ h=>X2 5 1 0 h Z (dI h F (GV (h.old d) (uC y (h.oldS C) (h.oldS D))) Z λ_ _ h F=>mr Z (qh (t:=17) F Z ?_ ?_)))))<;>intro F
  .refine X0 8 Z (dO Z Z (X0 4 Z ?_));cases qe F;exact rb h a Z
  refine X1 7 1 h Z ?_;obtain⟨_,i,F⟩:=qc F;obtain⟨_,_,g,f,o,H⟩:=VT (h.oldS s2) i;refine dF (KF qa Z Z Z (VS H Z) g f o Z Z Z Z) Z ?_;have K:=G1 s2 i g f;refine X0 3 Z (dI h F (lH ⟨_,_,Z,(h.oldS K)⟩ (pm (x:=y) 0 h Z (uC y (h.oldS C) (h.oldS D)))) Z λ_ _ h F=>X0 2 Z (qn Z F ?_ ?_))<;>intro F
  .refine X0 4 Z ?_;cases qe F;exact rb h a Z
  refine X0 6 Z ?_;exact rK ⟨_,F,Z,h.p [1] Z⟩ Z
 refine qy Z ?_;cases qe F;exact X1 8 0 h Z (rb h a Z)
def wz(_:Nat)(a:bo)(b:Int):Option Bool:=V (a.Bf==b)
theorem GU{a:bo}{i}(b:Ro w a cs1){g}(c:Ro w (V i) [.pointer g]){r:Bool}(F:wz n a i=V r):qN prog 285 [gv a cs1,.pointer g] w r:=by
 obtain⟨_,_,_,_,rfl,_,_⟩:=bd b;obtain⟨_,k,_,rfl,-,f,d⟩:=Cs c Z;obtain rfl:=f;exact zV 8 func285 Z λh=>db (qK h Z Z λ_ _ h=>X1 6 0 h Z (bL 0 d h Z (X0 3 Z (rb h F Z))))
def aN(s:List bo)(a:Int):Nat->Int->Option (eE Int Int)|0,_=>U|n+1,b=>bif decide (b<(s.length:Int)) then(qG s b).bind λc=>(wz n c a).bind λr1=>bif r1 then V (.ret b) else aN s a n (qj (b+1)) else V (.nxt b)
def dT(n:Nat)(s:List bo)(a:Int):Option Int:=(aN s a n 0).bind λ|.ret r=>V r|.nxt _=>V (-1)
theorem om{s:List bo}{a}(d:Ro w s cs1){v}(c:Ro w (V a) [.pointer v]){r:Int}(F:dT n s a=V r):qN prog 284 [gv s cs1,.func (.func 285) #[] #[.pointer v]] w r:=by
 obtain⟨p1,x,rfl,s1⟩:=d;obtain⟨b1,t,_,rfl,-,l,_⟩:=Cs c Z;obtain rfl:=l;refine zV 19 func284 Z λh=>X0 11 Z ?_;obtain⟨o1,F,b⟩:=qc F;refine qq (rL (λm e w'=>∃p,aN s a m p=V o1/\e=[(0,oL p1 s x),(1,.func (.func 285) #[] #[.pointer (V ⟨b1,t,U⟩)]),(7,vi (s.length:Int)),(8,vi p)]/\SH w w' []) n ⟨_,F,Z,h⟩ Z ?_);rintro u _ _ ⟨p,F,rfl,h⟩;rcases u with _|u
 .cases F
 refine X0 5 Z (qn Z F ?_ ?_)<;>intro F
 .refine X0 13 Z ?_;obtain⟨z,_,F,g,_,_,_,_,i,k,o,f⟩:=s1.ix F;obtain⟨_,_,_,_,rfl,s2,y⟩:=bd o;refine ft i k g Z (bL 0 f h Z (dI h F (GU (uC z (h.oldS s2) (h.oldS y)) (h.old c)) Z λ_ _ h F=>ae (qn Z F ?_ ?_)))<;>intro F
  .refine X0 5 Z ?_;cases qe F;exact ri h b Z
  exact X0 6 Z (rK ⟨_,F,Z,h⟩ Z)
 refine qy Z ?_;cases qe F;exact X0 4 Z (ri h b Z)
def dx(n:Nat)(s:List bo)(a:Int):Option Bool:=(dT n s a).bind λr1=>V (decide (r1>=0))
theorem ns{s:List bo}{a}(c:Ro w s cs1){f}(b:Ro w (V a) [.pointer f]){r:Bool}(F:dx n s a=V r):qN prog 270 [gv s cs1,.func (.func 285) #[] #[.pointer f]] w r:=by
 obtain⟨_,_,rfl,s1⟩:=c;obtain⟨_,g,_,rfl,-,d,_⟩:=Cs b Z;obtain rfl:=d;exact zV 9 func270 Z λh=>X0 8 Z (mR h F (om ⟨_,_,Z,(h.oldS s1)⟩ (h.old b)) Z λ_ _ h F=>X0 3 Z (rb h F Z))
def kf(n:Nat)(c:qQ)(kind:Int):Option Bool:=(dx n c.Av kind).bind λr1=>V r1
theorem lC{c:qQ}{kind}(a:Ro w c cs1){r:Bool}(F:kf n c kind=V r):qN prog 273 [gv c cs1,vi kind] w r:=by
 obtain⟨_,_,_,_,_,_,rfl,_,s2,_⟩:=aV a;exact zV 9 func273 Z λh=>db (qK h Z Z λ_ _ h=>qK h Z Z λ_ _ h=>X1 7 1 h Z (dI h F (ns ⟨_,_,Z,(h.oldS s2)⟩ (pm (x:=kind) 0 h Z Z)) Z λ_ _ h F=>X0 2 Z (rb h F Z)))
def cX(Ce:qQ):Nat->Int->Int->Option (Int×Int)|0,_,_=>U|n+1,b,a=>bif decide (a<(Ce.Bh.length:Int)) then(qG Ce.Bh a).bind λc=>bif c.Bt then cX Ce n (qj (b+1)) (qj (a+1)) else cX Ce n b (qj (a+1)) else V (b,a)
def oH(n:Nat)(Ce:qQ):Option Bool:=(cX Ce n 0 0).bind λ(a,_)=>bif (Ce.Bf==1) then bif (a==0) then(lD n Ce).bind λr1=>(F6 1 r1).bind λk=>bif ((Ce.Bu.length:Int)==k) then(eS n Ce.Bu 0 1).bind λb=>V b else V Cd else V Cd else bif (Ce.Bf==2) then bif (a==1) then bif ((Ce.Bu.length:Int)==0) then(kf n Ce 1).bind λc=>bif (!c) then(kf n Ce 2).bind λd=>(kf n Ce 3).bind λf=>V (!(d==f)) else V Cd else V Cd else V Cd else bif (Ce.Bf==3) then bif (a==1) then bif ((Ce.Bu.length:Int)==0) then(kf n Ce 1).bind λg=>bif g then(kf n Ce 2).bind λh=>bif h then(kf n Ce 3).bind λi=>V (!i) else V Cd else V Cd else V Cd else V Cd else V Cd
theorem CA{Ce:qQ}(a:Ro w Ce cs1){r:Bool}(F:oH n Ce=V r):qN prog 255 [gv Ce cs1] w r:=by
 obtain⟨p1,z,D,C,H,k3,rfl,s1,_,M⟩:=aV a;refine zV 83 func255 Z λh=>db (qK h Z Z λ_ c h=>X1 14 0 h Z ?_);obtain⟨o1,F,d⟩:=qc F;refine qq (rL (λm e w'=>∃x y,cX Ce m x y=V o1/\e=[(1,vp c),(3,vi x),(7,oL p1 Ce.Bh z),(8,vi (Ce.Bh.length:Int)),(9,vi y)]/\SH w w' [oX c (qP Ce p1 D H z C k3) 106]) n ⟨_,_,F,Z,h⟩ Z ?_);rintro A _ _ ⟨x,y,F,rfl,h⟩;rcases A with _|A
 .cases F
 refine X0 5 Z (qn Z F ?_ ?_)<;>intro F
 .refine ly ?_;obtain⟨_,_,F,g,_,_,_,_,i,k,l,f⟩:=s1.ix F;obtain rfl:=mG l;refine ft i k g Z (bL 0 f h Z (qi qa h Z Z Z λ_ _ h=>zs 0 h Z λ_ h=>X1 6 0 h Z (qn Z F ?_ ?_)))<;>intro F
  .refine X0 10 Z ?_;exact rK ⟨_,_,F,Z,h.p [1] Z⟩ Z
  refine X0 6 Z ?_;exact rK ⟨_,_,F,Z,h.p [1] Z⟩ Z
 refine qy Z ?_;cases qe F;have F:=d;refine X1 12 0 h Z (qn Z F ?_ ?_)<;>intro F
 .refine aD (rD (qcO Z (bu (t:=24) F Z ?_ ?_)))<;>intro F
  .refine Y1 4 0 h Z ?_;refine Y1 4 0 h Z ?_;refine Y0 1 Z ?_;obtain⟨r1,o,F⟩:=qc F;refine dB r1 (N6 _) (cB 272 Z) (λ_ N=>sH ((h.ext N).old a) o) Z Z Z Z (Y0 1 Z ?_);obtain⟨_,b,F⟩:=qc F;obtain⟨B,b⟩:=LP b;refine qbI (λ_ N=>qbj B Z Z) Z ?_;rw[b];refine Y0 4 Z (bu (t:=33) F Z ?_ ?_)<;>intro F
   .refine Y1 4 0 h Z ?_;refine Y0 1 Z ?_;obtain⟨I,p,F⟩:=qc F;exact dB I (MT _) (cB 49 Z) (λ_ N=>fG ⟨_,_,Z,((h.ext N).oldS M)⟩ p) Z Z Z Z (xz Z (dN h λ_ h=>rb h F Z))
   exact Y0 5 Z (dN h λ_ h=>rb h F Z)
  exact Y0 14 Z (dN h λ_ h=>rb h F Z)
 refine X0 5 Z (qn Z F ?_ ?_)<;>intro F
 .refine aD (rD (qcO Z (bu (t:=42) F Z ?_ ?_)))<;>intro F
  .refine Y1 4 0 h Z ?_;refine Y0 6 Z (bu (t:=48) F Z ?_ ?_)<;>intro F
   .refine Y1 2 0 h Z ?_;refine Y0 1 Z ?_;obtain⟨J,s,F⟩:=qc F;refine dB J (MT _) (cB 273 Z) (λ_ N=>lC ((h.ext N).old a) s) Z Z Z Z (Y0 4 Z (bu (t:=53) F Z ?_ ?_))<;>intro F
    .refine Y1 2 0 h Z ?_;refine Y0 1 Z ?_;obtain⟨K,u,F⟩:=qc F;refine dB K (MT _) (cB 273 Z) (λ_ N=>lC ((h.ext N).old a) u) Z Z Z Z (Y1 2 0 h Z ?_);refine Y0 1 Z ?_;obtain⟨L,v,F⟩:=qc F;exact dB L (MT _) (cB 273 Z) (λ_ N=>lC ((h.ext N).old a) v) Z Z Z Z (Y0 4 Z (dN h λ_ h=>rb h F Z))
    exact Y0 7 Z (dN h λ_ h=>rb h F Z)
   exact Y0 12 Z (dN h λ_ h=>rb h F Z)
  exact Y0 18 Z (dN h λ_ h=>rb h F Z)
 refine X0 5 Z (qn Z F ?_ ?_)<;>intro F
 .refine X0 5 Z (qh (t:=64) F Z ?_ ?_)<;>intro F
  .refine X1 10 0 h Z (qh (t:=70) F Z ?_ ?_)<;>intro F
   .refine X1 3 0 h Z (dI h F (lC (h.old a)) Z λ_ _ h F=>mr Z (qh (t:=74) F Z ?_ ?_))<;>intro F
    .refine X1 3 0 h Z (dI h F (lC (h.old a)) Z λ_ _ h F=>mr Z (qh (t:=78) F Z ?_ ?_))<;>intro F
     .exact X1 3 0 h Z (dI h F (lC (h.old a)) Z λ_ _ h F=>X0 5 Z (rb h F Z))
     exact X0 6 Z (rb h F Z)
    exact X0 10 Z (rb h F Z)
   exact X0 14 Z (rb h F Z)
  exact X0 20 Z (rb h F Z)
 exact X0 6 Z (rb h F Z)
def ym(n:Nat)(c:qQ):Option Bool:=(tO n c.Bi).bind λr1=>bif r1 then(wU n c.Bh).bind λa=>bif a then(pG n c).bind λb=>bif b then(bX n c.Cc 0 100000).bind λd=>bif d then(bX n c.Bz 0 100000).bind λf=>bif f then(oH n c).bind λg=>V g else V Cd else V Cd else V Cd else V Cd else V Cd
theorem PA{c:qQ}(a:Ro w c cs1){r:Bool}(F:ym n c=V r):qN prog 220 [gv c cs1] w r:=by
 obtain⟨_,_,_,_,_,_,rfl,s1,_,_⟩:=aV a;refine zV 29 func220 Z λh=>db (qK h Z Z λ_ _ h=>X1 6 0 h Z (dI h F xK Z λ_ _ h F=>cr Z (qh (t:=6) F Z ?_ ?_)))<;>intro F
 .refine X1 5 0 h Z (dI h F (NC ⟨_,_,Z,(h.oldS s1)⟩) Z λ_ _ h F=>mr Z (qh (t:=11) F Z ?_ ?_))<;>intro F
  .refine X1 3 0 h Z (dI h F (CZ (h.old a)) Z λ_ _ h F=>mr Z (qh (t:=15) F Z ?_ ?_))<;>intro F
   .refine X1 5 0 h Z (dI h F bv Z λ_ _ h F=>mr Z (qh (t:=20) F Z ?_ ?_))<;>intro F
    .refine X1 5 0 h Z (dI h F bv Z λ_ _ h F=>mr Z (qh (t:=25) F Z ?_ ?_))<;>intro F
     .exact X1 3 0 h Z (dI h F (CA (h.old a)) Z λ_ _ h F=>X0 3 Z (rb h F Z))
     exact X0 5 Z (rb h F Z)
    exact X0 10 Z (rb h F Z)
   exact X0 15 Z (rb h F Z)
  exact X0 19 Z (rb h F Z)
 exact X0 24 Z (rb h F Z)
def gA(l:qD):Nat->(List ByteArray)->Int->Option (eE Bool ((List ByteArray)×Int))|0,_,_=>U|n+1,x1,a=>bif decide (a<(l.As.length:Int)) then(qG l.As a).bind λb=>(ym n b).bind λr1=>bif (!r1) then V (.ret Cd) else(df x1 ([b.Bi]:List ByteArray)).bind λc=>gA l n c (qj (a+1)) else V (.nxt (x1,a))
def uo(n:Nat)(l:qD):Option Bool:=(gA l n ([]:List ByteArray) 0).bind λ|.ret r=>V r|.nxt (x1,_)=>bif decide ((l.As.length:Int)<=8) then(lz n x1).bind λa=>V a else V Cd
theorem HZ{l:qD}(f:Ro w l cs1){r:Bool}(F:uo n l=V r):qN prog 174 [gv l cs1] w r:=by
 obtain⟨p1,x,rfl,s1⟩:=gx f;refine zV 30 func174 Z λh=>db (qK h Z Z λ_ c h=>X1 14 0 h Z ?_);have h:=h.nil (α:=ByteArray);obtain⟨o1,F,d⟩:=qc F;refine qq (rL (λm e w'=>∃S1 v b u x1 s,gA l m x1 s=V o1/\e=[(1,vp c),(3,oS v b u),(7,oL p1 l.As x),(8,vi (l.As.length:Int)),(9,vi s)]/\SH w w' [oW S1 (x1:List ByteArray) [oS v b u],oX c [oL p1 l.As x] 26]) n ⟨_,_,_,_,_,_,F,Z,h⟩ Z ?_);rintro y _ _ ⟨S1,v,b,u,x1,s,F,rfl,h⟩;obtain rfl:=(h.sl 0 Z).2;rcases y with _|y
 .cases F
 refine X0 5 Z (qn Z F ?_ ?_)<;>intro F
 .refine ly ?_;obtain⟨z,_,F,i,_,_,_,_,k,o,p,g⟩:=s1.ix F;obtain⟨_,_,_,_,_,_,rfl,s2,B,C⟩:=aV p;refine ft k o i Z (bL 0 g h Z (qi qa h Z Z Z λ_ _ h=>zs 0 h Z λ_ h=>X1 5 0 h Z (dI h F (PA (SR z (h.oldS s2) (h.oldS B) (h.oldS C))) Z λ_ _ h F=>X0 2 Z (qn Z F ?_ ?_))))<;>intro F
  .refine X0 4 Z ?_;cases qe F;exact rb h d Z
  refine X1 5 0 h Z (qt qa [.tmp 18] _ ([z.Bi]:List ByteArray) h z9 ⟨Z,G⟩ Z λ_ _ _ h=>?_);obtain⟨_,a,F⟩:=qc F;obtain⟨A,a⟩:=qJ a;refine bn qa 2 h Z (h.sl 0 Z).1 (h.sl 0 Z).2 z9 A a Z λ_ _ _ _ h=>X0 7 Z ?_;exact rK ⟨_,_,_,_,_,_,F,Z,h.p [2,3] Z⟩ Z
 refine qy Z ?_;cases qe F;have F:=d;refine X1 7 1 h Z (qh (t:=26) F Z ?_ ?_)<;>intro F
 .exact X0 3 Z (dI h F (oc (h.own 0 Z)) Z λ_ _ h F=>X0 3 Z (rb h F Z))
 exact X0 5 Z (rb h F Z)
def dq(d:qk):Nat->(List ByteArray)->Int->Option ((List ByteArray)×Int)|0,_,_=>U|n+1,b,a=>bif decide (a<(d.Ai.length:Int)) then(qG d.Ai a).bind λf=>(df b ([f.Bi]:List ByteArray)).bind λc=>dq d n c (qj (a+1)) else V (b,a)
def dn(d:qk):Nat->(List ByteArray)->Int->Option ((List ByteArray)×Int)|0,_,_=>U|n+1,x1,a=>bif decide (a<(d.Ab.length:Int)) then(qG d.Ab a).bind λc=>(df x1 ([c.Bi]:List ByteArray)).bind λb=>dn d n b (qj (a+1)) else V (x1,a)
def mW(n:Nat)(d:qk):Option Bool:=(dn d n ([]:List ByteArray) 0).bind λ(x1,_)=>(dq d n ([]:List ByteArray) 0).bind λ(a,_)=>bif decide ((x1.length:Int)<=14) then bif decide ((d.Ap.length:Int)<=30) then bif decide ((a.length:Int)<=8) then(lz n x1).bind λr1=>bif r1 then(lz n d.Ap).bind λb=>bif b then(lz n a).bind λc=>V c else V Cd else V Cd else V Cd else V Cd else V Cd
theorem zt{d:qk}(p:Ro w d cs1){r:Bool}(F:mW n d=V r):qN prog 175 [gv d cs1] w r:=by
 obtain⟨p1,J,S,P,L,k3,rfl,s1,s2,X⟩:=cn p;refine zV 62 func175 Z λh=>db (qK h Z Z λ_ a h=>X1 15 0 h Z ?_);have h:=h.nil (α:=ByteArray);obtain⟨o1,F,l⟩:=qc F;refine qq (rL (λm e w'=>∃S1 k f i x1 H,dn d m x1 H=V o1/\e=[(1,vp a),(3,oS k f i),(4,oS U 0 0),(10,oL p1 d.Ab J),(11,vi (d.Ab.length:Int)),(12,vi H)]/\SH w w' [oW S1 (x1:List ByteArray) [oS k f i],oX a (bh d p1 S L J P k3) 31]) n ⟨_,_,_,_,_,_,F,Z,h⟩ Z ?_);rintro Q _ _ ⟨S1,k,f,i,x1,H,F,rfl,h⟩;obtain rfl:=(h.sl 0 Z).2;rcases Q with _|Q
 .cases F
 refine X0 5 Z (qn Z F ?_ ?_)<;>intro F
 .refine ly ?_;obtain⟨Y,_,F,v,_,_,_,_,y,A,C,s⟩:=s1.ix F;obtain⟨_,_,rfl,_⟩:=bI C;refine ft y A v Z (bL 0 s h Z (qi qa h Z Z Z λ_ _ h=>zs 0 h Z λ_ h=>X1 5 0 h Z (qt qa [.tmp 18] _ ([Y.Bi]:List ByteArray) h z9 ⟨Z,G⟩ Z λ_ _ _ h=>?_)));obtain⟨_,b,F⟩:=qc F;obtain⟨T,b⟩:=qJ b;refine bn qa 2 h Z (h.sl 0 Z).1 (h.sl 0 Z).2 z9 T b Z λ_ _ _ _ h=>X0 7 Z ?_;exact rK ⟨_,_,_,_,_,_,F,Z,h.p [2,3] Z⟩ Z
 refine qy Z ?_;cases qe F;have F:=l;refine X1 8 1 h Z ?_;have h:=h.nil (α:=ByteArray);obtain⟨o2,F,o⟩:=qc F;refine qq (rL (λm e w'=>∃O M g K N I,dq d m N I=V o2/\e=[(1,vp a),(3,oL k x1 i),(4,oS M g K),(23,oL L d.Ai k3),(24,vi (d.Ai.length:Int)),(25,vi I)]/\SH w w' [oW O (N:List ByteArray) [oS M g K],oW S1 (x1:List ByteArray) [oL k x1 i],oX a (bh d p1 S L J P k3) 31]) n ⟨_,_,_,_,_,_,F,Z,h⟩ Z ?_);rintro R _ _ ⟨O,M,g,K,N,I,F,rfl,h⟩;obtain rfl:=(h.sl 0 Z).2;rcases R with _|R
 .cases F
 refine X0 5 Z (qn Z F ?_ ?_)<;>intro F
 .refine ly ?_;obtain⟨y2,_,F,x,_,_,_,_,z,B,D,u⟩:=X.ix F;obtain rfl:=lZ D;refine ft z B x Z (bL 0 u h Z (qi qa h Z Z Z λ_ _ h=>zs 0 h Z λ_ h=>X1 5 0 h Z (qt qa [.tmp 31] _ ([y2.Bi]:List ByteArray) h z9 ⟨Z,G⟩ Z λ_ _ _ h=>?_)));obtain⟨_,c,F⟩:=qc F;obtain⟨W,c⟩:=qJ c;refine bn qa 2 h Z (h.sl 0 Z).1 (h.sl 0 Z).2 z9 W c Z λ_ _ _ _ h=>X0 7 Z ?_;exact rK ⟨_,_,_,_,_,_,F,Z,h.p [2,3,4] Z⟩ Z
 refine qy Z ?_;cases qe F;have F:=o;refine X0 6 Z (qh (t:=38) F Z ?_ ?_)<;>intro F
 .refine X1 10 2 h Z (qh (t:=44) F Z ?_ ?_)<;>intro F
  .refine X0 8 Z (qh (t:=49) F Z ?_ ?_)<;>intro F
   .refine X0 3 Z (dI h F (oc (h.own 1 Z)) Z λ_ _ h F=>mr Z (qh (t:=53) F Z ?_ ?_))<;>intro F
    .refine X1 5 2 h Z (dI h F (oc ⟨_,_,Z,(h.oldS s2)⟩) Z λ_ _ h F=>mr Z (qh (t:=58) F Z ?_ ?_))<;>intro F
     .exact X0 3 Z (dI h F (oc (h.own 0 Z)) Z λ_ _ h F=>X0 3 Z (rb h F Z))
     exact X0 5 Z (rb h F Z)
    exact X0 10 Z (rb h F Z)
   exact X0 14 Z (rb h F Z)
  exact X0 19 Z (rb h F Z)
 exact X0 25 Z (rb h F Z)
def pB(_:Nat)(list:List qQ):Option Int:=V (list.length:Int)
theorem yU{list:List qQ}(a:Ro w list cs1){r:Int}(F:pB n list=V r):qN prog 222 [gv list cs1] w r:=by
 obtain⟨_,_,rfl,_⟩:=a;exact zV 5 func222 Z λh=>X0 10 Z (ri h F Z)
def tI(_:Nat)(list:List ByteArray):Option Int:=V (list.length:Int)
theorem CD{list:List ByteArray}(a:Ro w list cs1){r:Int}(F:tI n list=V r):qN prog 224 [gv list cs1] w r:=by
 obtain⟨_,_,rfl,_⟩:=a;exact zV 5 func224 Z λh=>X0 10 Z (ri h F Z)
def kx(n:Nat)(d:qk)(net:Int):Option Bool:=(tI n d.Ap).bind λr1=>(bX n net 0 (qj (r1-1))).bind λa=>V a
theorem rd{d:qk}{net}(a:Ro w d cs1){r:Bool}(F:kx n d net=V r):qN prog 177 [gv d cs1,vi net] w r:=by
 obtain⟨_,_,_,_,_,_,rfl,_,s2,_⟩:=cn a;exact zV 11 func177 Z λh=>db (qK h Z Z λ_ _ h=>X1 7 0 h Z (mR h F (CD ⟨_,_,Z,(h.oldS s2)⟩) Z λ_ _ h F=>cr Z (dI h F bv Z λ_ _ h F=>X0 2 Z (rb h F Z))))
def kh(n:Nat)(net:Int)(a:qk):Option Bool:=(kx n a net).bind λr1=>V (!r1)
theorem wR{net}{d:qk}{p1}(a:Ro w (V d) [.pointer p1]){r:Bool}(F:kh n net d=V r):qN prog 223 [vi net,.pointer p1] w r:=by
 obtain⟨_,f,_,rfl,-,c,b⟩:=Cs a Z;obtain⟨_,_,_,_,_,_,rfl,s1,s2,g⟩:=cn c;exact zV 8 func223 Z λh=>X0 6 Z (bL 0 b h Z (cr Z (dI h F (rd (cp d (h.oldS s1) (h.oldS s2) (h.oldS g))) Z λ_ _ h F=>X0 3 Z (rb h F Z))))
def ai(s:List Int)(a:qk):Nat->Int->Option (eE Int Int)|0,_=>U|n+1,b=>bif decide (b<(s.length:Int)) then(qG s b).bind λc=>(kh n c a).bind λr1=>bif r1 then V (.ret b) else ai s a n (qj (b+1)) else V (.nxt b)
def cN(n:Nat)(s:List Int)(a:qk):Option Int:=(ai s a n 0).bind λ|.ret r=>V r|.nxt _=>V (-1)
theorem md{s:List Int}{a:qk}(d:Ro w s cs1){u}(c:Ro w (V a) [.pointer u]){r:Int}(F:cN n s a=V r):qN prog 153 [gv s cs1,.func (.func 223) #[] #[.pointer u]] w r:=by
 obtain⟨p1,v,rfl,s1⟩:=d;obtain⟨b1,p,_,rfl,-,l,_⟩:=Cs c Z;obtain⟨_,_,_,_,_,_,rfl,_,_,_⟩:=cn l;refine zV 19 func153 Z λh=>X0 11 Z ?_;obtain⟨o1,F,b⟩:=qc F;refine qq (rL (λm e w'=>∃o,ai s a m o=V o1/\e=[(0,oL p1 s v),(1,.func (.func 223) #[] #[.pointer (V ⟨b1,p,U⟩)]),(7,vi (s.length:Int)),(8,vi o)]/\SH w w' []) n ⟨_,F,Z,h⟩ Z ?_);rintro t _ _ ⟨o,F,rfl,h⟩;rcases t with _|t
 .cases F
 refine X0 5 Z (qn Z F ?_ ?_)<;>intro F
 .refine X0 13 Z ?_;obtain⟨_,_,F,g,_,_,_,_,i,k,rfl,f⟩:=s1.ix F;refine ft i k g Z (bL 0 f h Z (dI h F (wR (h.old c)) Z λ_ _ h F=>ae (qn Z F ?_ ?_)))<;>intro F
  .refine X0 5 Z ?_;cases qe F;exact ri h b Z
  exact X0 6 Z (rK ⟨_,F,Z,h⟩ Z)
 refine qy Z ?_;cases qe F;exact X0 4 Z (ri h b Z)
def cv(n:Nat)(s:List Int)(a:qk):Option Bool:=(cN n s a).bind λr1=>V (decide (r1>=0))
theorem lg{s:List Int}{a:qk}(c:Ro w s cs1){f}(b:Ro w (V a) [.pointer f]){r:Bool}(F:cv n s a=V r):qN prog 92 [gv s cs1,.func (.func 223) #[] #[.pointer f]] w r:=by
 obtain⟨_,_,rfl,s1⟩:=c;obtain⟨_,g,_,rfl,-,d,_⟩:=Cs b Z;obtain⟨_,_,_,_,_,_,rfl,_,_,_⟩:=cn d;exact zV 9 func92 Z λh=>X0 8 Z (mR h F (md ⟨_,_,Z,(h.oldS s1)⟩ (h.old b)) Z λ_ _ h F=>X0 3 Z (rb h F Z))
def lp(n:Nat)(d:qk)(l:qD)(x:qO):Option Bool:=(pB n l.As).bind λr1=>(bX n x.Bv 0 (qj (r1-1))).bind λa=>bif a then(qG l.As x.Bv).bind λc=>bif ((x.Ap.length:Int)==(c.Bh.length:Int)) then(cv n x.Ap d).bind λb=>V (!b) else V Cd else V Cd
theorem yd{d:qk}{l:qD}{x:qO}(a:Ro w d cs1)(b:Ro w l cs2)(c:Ro w x cs3){r:Bool}(F:lp n d l x=V r):qN prog 176 [gv d cs1,gv l cs2,gv x cs3] w r:=by
 obtain⟨_,_,_,_,_,_,rfl,_,_,_⟩:=cn a;obtain⟨_,_,rfl,u⟩:=gx b;obtain⟨_,_,rfl,z⟩:=bI c;refine zV 35 func176 Z λh=>db (qK h Z Z λ_ _ h=>qK h Z Z λ_ _ h=>qK h Z Z λ_ _ h=>X0 3 Z (rD (Y1 2 0 h Z ?_)));refine Y1 2 1 h Z ?_;obtain⟨r1,m,F⟩:=qc F;refine dB r1 (N6 _) (cB 222 Z) (λ_ A=>yU ⟨_,_,Z,((h.ext A).oldS u)⟩ m) Z Z Z Z (xm Z ?_);obtain⟨v,o,F⟩:=qc F;refine dB v (MT _) (cB 23 Z) (λ_ A=>bv  o) Z Z Z Z (xm Z (bu (t:=14) F Z ?_ ?_))<;>intro F
 .refine Y1 4 0 h Z ?_;refine Y1 6 1 h Z ?_;refine Y1 4 0 h Z ?_;refine Y0 1 Z ?_;obtain⟨_,_,F,g,_,_,_,_,i,k,p,f⟩:=u.ix F;obtain⟨_,_,_,_,_,_,rfl,_,_,_⟩:=aV p;refine fU i k g Z (Y0 3 Z (dZ 2 f h Z (Y0 6 Z (bu (t:=28) F Z ?_ ?_))))<;>intro F
  .refine Y1 4 0 h Z ?_;refine Y0 3 Z ?_;obtain⟨y,s,F⟩:=qc F;exact dB y (MT _) (cB 92 Z) (λ_ A=>lg ⟨_,_,Z,((h.ext A).oldS z)⟩ (pm (x:=d) 2 (h.ext A) Z ((h.ext A).old a)) s) Z Z Z Z (Y0 4 Z (dN h λ_ h=>rb h F Z))
  exact Y0 7 Z (dN h λ_ h=>rb h F Z)
 exact Y0 21 Z (dN h λ_ h=>rb h F Z)
def wA(_:Nat)(a:Int):Option Bool:=V (a != 1)
theorem GW{a_n}  {r:Bool}(F:wA n a_n=V r):qN prog 179 [vi a_n] w r:=by
 exact zV 5 func179 Z λh=>X0 10 Z (rb h F Z)
def bf(s:List Int):Nat->Int->Option (eE Int Int)|0,_=>U|n+1,a=>bif decide (a<(s.length:Int)) then(qG s a).bind λb=>(wA n b).bind λr1=>bif r1 then V (.ret a) else bf s n (qj (a+1)) else V (.nxt a)
def fD(n:Nat)(s:List Int):Option Int:=(bf s n 0).bind λ|.ret r=>V r|.nxt _=>V (-1)
theorem pV{s:List Int}(b:Ro w s cs1){r:Int}(F:fD n s=V r):qN prog 225 [gv s cs1,.func (.func 179) #[] #[]] w r:=by
 obtain⟨p1,l,rfl,s1⟩:=b;refine zV 19 func225 Z λh=>X0 11 Z ?_;obtain⟨o1,F,a⟩:=qc F;refine qq (rL (λm e w'=>∃i,bf s m i=V o1/\e=[(0,oL p1 s l),(1,.func (.func 179) #[] #[]),(7,vi (s.length:Int)),(8,vi i)]/\SH w w' []) n ⟨_,F,Z,h⟩ Z ?_);rintro k _ _ ⟨i,F,rfl,h⟩;rcases k with _|k
 .cases F
 refine X0 5 Z (qn Z F ?_ ?_)<;>intro F
 .refine X0 13 Z ?_;obtain⟨_,_,F,d,_,_,_,_,f,g,rfl,c⟩:=s1.ix F;refine ft f g d Z (bL 0 c h Z (dI h F GW Z λ_ _ h F=>ae (qn Z F ?_ ?_)))<;>intro F
  .refine X0 5 Z ?_;cases qe F;exact ri h a Z
  exact X0 6 Z (rK ⟨_,F,Z,h⟩ Z)
 refine qy Z ?_;cases qe F;exact X0 4 Z (ri h a Z)
def eI(n:Nat)(s:List Int):Option Bool:=(fD n s).bind λr1=>V (decide (r1>=0))
theorem oR{s:List Int}(a:Ro w s cs1){r:Bool}(F:eI n s=V r):qN prog 178 [gv s cs1,.func (.func 179) #[] #[]] w r:=by
 obtain⟨_,_,rfl,s1⟩:=a;exact zV 9 func178 Z λh=>X0 8 Z (mR h F (pV ⟨_,_,Z,(h.oldS s1)⟩) Z λ_ _ h F=>X0 3 Z (rb h F Z))
def fW(Cf:qk):Nat->(List Int)->Int->Option (eE Bool ((List Int)×Int))|0,_,_=>U|n+1,c,b=>bif decide (b<(Cf.Ai.length:Int)) then(qG Cf.Ai b).bind λa=>(bif (a.Bx != 1) then bif (a.Bx != 2) then V An else(kx n Cf a.Cb).bind λf=>V (!f) else(kx n Cf a.Cb).bind λg=>V (!g)).bind λd=>bif d then V (.ret Cd) else bif (a.Bx==1) then(qG c a.Cb).bind λh=>(qG c a.Cb).bind λ_=>fW Cf n (am c a.Cb (qj (h+1))) (qj (b+1)) else fW Cf n c (qj (b+1)) else V (.nxt (c,b))
def iC(Ce:qD)(Cf:qk):Nat->(List Int)->Int->Option (eE Bool ((List Int)×Int))|0,_,_=>U|n+1,b,a=>bif decide (a<(Cf.Ab.length:Int)) then(qG Cf.Ab a).bind λc=>(lp n Cf Ce c).bind λr1=>bif (!r1) then V (.ret Cd) else(qG c.Ap (qj ((c.Ap.length:Int)-1))).bind λd=>(qG b d).bind λf=>(qG b d).bind λ_=>iC Ce Cf n (am b d (qj (f+1))) (qj (a+1)) else V (.nxt (b,a))
def vD(n:Nat)(Ce:qD)(Cf:qk):Option Bool:=((uo n Ce).bind λb=>bif (!b) then V An else(mW n Cf).bind λc=>V (!c)).bind λb1=>bif b1 then V Cd else(yW (Cf.Ap.length:Int) (0:Int)).bind λx1=>(iC Ce Cf n x1 0).bind λ|.ret r=>V r|.nxt (d,_)=>(fW Cf n d 0).bind λ|.ret r=>V r|.nxt (f,_)=>(eI n f).bind λa=>V (!a)
theorem KX{Ce:qD}{Cf:qk}(f:Ro w Ce cs1)(b:Ro w Cf cs2){r:Bool}(F:vD n Ce Cf=V r):qN prog 112 [gv Ce cs1,gv Cf cs2] w r:=by
 obtain⟨p1,k1,rfl,_⟩:=gx f;obtain⟨M,L,O,k3,k,i,rfl,s2,_,s4⟩:=cn b;refine zV 84 func112 Z λh=>db (qK h Z Z λ_ c h=>qK h Z Z λ_ a h=>X0 4 Z ?_);obtain⟨R,x,_,F,u⟩:=bindE F;refine bw (λe w'=>∃b1,R b1=V r/\e=[(2,vp c),(3,vp a),(17,.bool b1)]/\SH w w' [oX a (bh Cf M O k L k3 i) 31,oX c [oL p1 Ce.As k1] 26]) ?_ ?_
 .refine X1 2 1 h Z (dI h F (HZ (h.old f)) Z λ_ _ h F=>mr Z (qh (t:=13) F Z ?_ ?_))<;>intro F
  .refine X0 5 Z ?_;exact rH F u h Z
  refine X1 3 0 h Z (dI h F (zt (h.old b)) Z λ_ _ h F=>X0 4 Z ?_);exact rH F u h Z
 rintro _ _ ⟨b1,F,rfl,h⟩;subst x;refine qn Z F ?_ ?_<;>intro F
 .exact X0 4 Z (rb h F Z)
 refine X1 6 0 h Z ?_;obtain⟨x1,g,F⟩:=qc F;obtain⟨g1,g2,g⟩:=aT g;refine bC qa Int h z9 g1 g2 g Z λ_ S1 l h=>X1 10 1 h Z ?_;obtain⟨o1,F,p⟩:=qc F;refine qq (rL (λm e w'=>∃x2 i1,iC Ce Cf m x2 i1=V o1/\e=[(2,vp c),(3,vp a),(5,oS l x1.length x1.length),(23,oL M Cf.Ab L),(24,vi (Cf.Ab.length:Int)),(25,vi i1)]/\SH w w' [oW S1 (x2:List Int) [oS l x1.length x1.length],oX a (bh Cf M O k L k3 i) 31,oX c [oL p1 Ce.As k1] 26]) n ⟨_,_,F,Z,h⟩ Z ?_);rintro m1 _ _ ⟨x2,i1,F,rfl,h⟩;rcases m1 with _|m1
 .cases F
 refine X0 5 Z (qn Z F ?_ ?_)<;>intro F
 .refine ly ?_;obtain⟨y1,_,F,a4,_,_,_,_,a7,b6,c3,T⟩:=s2.ix F;obtain⟨_,_,rfl,s5⟩:=bI c3;refine ft a7 b6 a4 Z (bL 0 T h Z (qi qa h Z Z Z λ_ _ h=>zs 0 h Z λ_ h=>X3 7 2 3 0 h Z (dI h F (yd (h.old b) (h.old f) (GL y1 (h.oldS s5))) Z λ_ _ h F=>X0 2 Z (qn Z F ?_ ?_))))<;>intro F
  .refine X0 4 Z ?_;cases qe F;exact rb h p Z
  refine X2 9 0 0 h Z ?_;obtain⟨_,_,F,a5,_,_,_,_,a8,b8,rfl,W⟩:=s5.ix F;refine ft a8 b8 a5 Z (bL 0 W h Z ?_);obtain⟨y3,_,F,A,_,_,_,_,a9,b9,rfl,X⟩:=(h.sl 1 Z).1.ix F;refine zx a9 b9 ⟨A.1,qE A.2.1 (h.sl 1 Z).2⟩ Z (zc 0 X Z (cr Z ?_));obtain⟨_,c5,F,B,_,_,_,_,H,J,rfl,Y⟩:=(h.sl 1 Z).1.ix F;refine zx H J ⟨B.1,qE B.2.1 (h.sl 1 Z).2⟩ Z (bM qa 1 0 (qj (y3+1)) h Z c5 H J Z Y Z Z Z Z Z Z Z λ_ h=>X0 6 Z ?_);exact rK ⟨_,_,F,Z,h.p [1,2,3] Z⟩ Z
 refine qy Z ?_;cases qe F;have F:=p;refine X1 8 1 h Z ?_;obtain⟨o2,F,s⟩:=qc F;refine qq ?_;have h:=h.p [0,1] Z;refine rL (λm e w'=>∃P N,fW Cf m P N=V o2/\e=[(3,vp a),(5,oS l x1.length x1.length),(49,oL k Cf.Ai i),(50,vi (Cf.Ai.length:Int)),(51,vi N)]/\SH w w' [oW S1 (P:List Int) [oS l x1.length x1.length],oX a (bh Cf M O k L k3 i) 31]) n ⟨_,_,F,Z,h⟩ Z ?_;rintro m2 _ _ ⟨P,N,F,rfl,h⟩;rcases m2 with _|m2
 .cases F
 refine X0 5 Z (qn Z F ?_ ?_)<;>intro F
 .refine ly ?_;obtain⟨y5,_,F,a6,_,_,_,_,b4,c0,c4,a3⟩:=s4.ix F;obtain rfl:=lZ c4;refine ft b4 c0 a6 Z (bL 0 a3 h Z (qi qa h Z Z Z λ_ o h=>zs 0 h Z λ_ h=>qcN ?_));obtain⟨Q,v,_,F,d⟩:=bindE F;refine bw (λe w'=>∃S,Q S=V o2/\e=[(3,vp a),(5,oS l x1.length x1.length),(9,vp o),(49,oL k Cf.Ai i),(50,vi (Cf.Ai.length:Int)),(51,vi N),(69,.bool S)]/\SH w w' [oX o (UF y5) 222,oW S1 (P:List Int) [oS l x1.length x1.length],oX a (bh Cf M O k L k3 i) 31]) ?_ ?_
  .refine X1 5 0 h Z (qh (t:=58) F Z ?_ ?_)<;>intro F
   .refine X1 8 0 h Z (qh (t:=63) F Z ?_ ?_)<;>intro F
    .refine X0 7 Z ?_;exact rH F d h Z
    refine X2 7 2 0 h Z (dI h F (rd (h.old b)) Z λ_ _ h F=>X0 4 Z ?_);exact rH F d h Z
   refine X2 12 2 0 h Z (dI h F (rd (h.old b)) Z λ_ _ h F=>X0 4 Z ?_);exact rH F d h Z
  rintro _ _ ⟨S,F,rfl,h⟩;subst v;refine qn Z F ?_ ?_<;>intro F
  .refine X0 4 Z ?_;cases qe F;exact rb h s Z
  refine X1 7 0 h Z (qn Z F ?_ ?_)<;>intro F
  .refine X1 4 0 h Z ?_;obtain⟨y6,_,F,C,_,_,_,_,b5,c2,rfl,y⟩:=(h.sl 1 Z).1.ix F;refine zx b5 c2 ⟨C.1,qE C.2.1 (h.sl 1 Z).2⟩ Z (zc 0 y Z (cr Z ?_));obtain⟨_,c6,F,D,_,_,_,_,I,K,rfl,z⟩:=(h.sl 1 Z).1.ix F;refine zx I K ⟨D.1,qE D.2.1 (h.sl 1 Z).2⟩ Z (bM qa 1 0 (qj (y6+1)) h Z c6 I K Z z Z Z Z Z Z Z Z λ_ h=>X0 6 Z ?_);exact rK ⟨_,_,F,Z,h.p [1,2] Z⟩ Z
  refine X0 6 Z ?_;exact rK ⟨_,_,F,Z,h.p [1,2] Z⟩ Z
 refine qy Z ?_;cases qe F;have F:=s;exact X0 3 Z (dI h F (oR (h.own 0 Z)) Z λ_ _ h F=>X0 3 Z (rb h F Z))
def et(c:Int)(b:qO):Nat->(List aY)->Int->Option ((List aY)×Int)|0,_,_=>U|n+1,d,a=>bif decide (a<(b.Ap.length:Int)) then(qG b.Ap a).bind λg=>(df d ([(⟨c,a,g,(a==(qj ((b.Ap.length:Int)-1)))⟩:aY)]:List aY)).bind λf=>et c b n f (qj (a+1)) else V (d,a)
def eA(d:qk):Nat->(List aY)->Int->Option ((List aY)×Int)|0,_,_=>U|n+1,b,a=>bif decide (a<(d.Ai.length:Int)) then(qG d.Ai a).bind λc=>(df b ([(⟨(-1),a,c.Cb,(c.Bx==1)⟩:aY)]:List aY)).bind λf=>eA d n f (qj (a+1)) else V (b,a)
def er(d:qk):Nat->(List aY)->Int->Option ((List aY)×Int)|0,_,_=>U|n+1,x1,a=>bif decide (a<(d.Ab.length:Int)) then(qG d.Ab a).bind λc=>(et a c n x1 0).bind λ(b,_)=>er d n b (qj (a+1)) else V (x1,a)
def fS(n:Nat)(d:qk):Option (List aY):=(er d n ([]:List aY) 0).bind λ(x1,_)=>(eA d n x1 0).bind λ(a,_)=>V a
theorem mj{d:qk}(z:Ro w d cs1){r:List aY}(F:fS n d=V r):qN prog 113 [gv d cs1] w r:=by
 obtain⟨p1,t,p2,k2,X,k3,rfl,s1,_,s3⟩:=cn z;refine zV 61 func113 Z λh=>db (qK h Z Z λ_ a h=>X1 14 0 h Z ?_);have h:=h.nil (α:=aY);obtain⟨o1,F,v⟩:=qc F;refine qq (rL (λm e w'=>∃S1 Y i R x1 b,er d m x1 b=V o1/\e=[(1,vp a),(3,oS Y i R),(11,oL p1 d.Ab t),(12,vi (d.Ab.length:Int)),(13,vi b)]/\SH w w' [oW S1 (x1:List aY) [oS Y i R],oX a (bh d p1 p2 X t k2 k3) 31]) n ⟨_,_,_,_,_,_,F,Z,h⟩ Z ?_);rintro W _ _ ⟨S1,Y,i,R,x1,b,F,rfl,h⟩;obtain rfl:=(h.sl 0 Z).2;rcases W with _|W
 .cases F
 refine X0 5 Z (qn Z F ?_ ?_)<;>intro F
 .refine X0 6 Z ?_;obtain⟨o,_,F,D,_,_,_,_,J,M,P,A⟩:=s1.ix F;obtain⟨p5,k5,rfl,s4⟩:=bI P;refine ft J M D Z (bL 0 A h Z (qi qa h Z Z Z λ_ p h=>cr Z (zs 0 h Z λ_ h=>X1 8 0 h Z ?_)));obtain⟨o2,F,x⟩:=qc F;refine qq (rL (λm e w'=>∃S2 p6 k S x2 g,et b o m x2 g=V o2/\e=[(1,vp a),(3,oS p6 k S),(4,vi b),(5,vp p),(11,oL p1 d.Ab t),(12,vi (d.Ab.length:Int)),(13,vi b),(19,oL p5 o.Ap k5),(20,vi (o.Ap.length:Int)),(21,vi g)]/\SH w w' [oX p (vR o p5 k5) 206,oW S2 (x2:List aY) [oS p6 k S],oX a (bh d p1 p2 X t k2 k3) 31]) W ⟨_,_,_,_,_,_,F,Z,h⟩ Z ?_);rintro m2 _ _ ⟨S2,p6,k,S,x2,g,F,rfl,h⟩;obtain rfl:=(h.sl 1 Z).2;rcases m2 with _|m2
  .cases F
  refine X0 5 Z (qn Z F ?_ ?_)<;>intro F
  .refine X0 6 Z ?_;obtain⟨y2,_,F,H,_,_,_,_,K,N,rfl,B⟩:=s4.ix F;refine ft K N H Z (bL 0 B h Z (X1 14 0 h Z (dF (qB qa [0,1,2,3] [.tmp 27,.tmp 28,.tmp 29,.tmp 35] z8) Z (qt qa [.tmp 36] _ ([(⟨b,g,y2,(g==(qj ((o.Ap.length:Int)-1)))⟩:aY)]:List aY) h z9 ⟨(AZ (⟨b,g,y2,(g==(qj ((o.Ap.length:Int)-1)))⟩:aY)),G⟩ Z λ_ _ _ h=>?_))));obtain⟨_,c,F⟩:=qc F;obtain⟨g1,c⟩:=qJ c;refine bn qa 2 h Z (h.sl 0 Z).1 (h.sl 0 Z).2 z9 g1 c Z λ_ _ _ _ h=>X0 7 Z ?_;exact rK ⟨_,_,_,_,_,_,F,Z,h.p [1,2,3] Z⟩ Z
  refine qy Z ?_;cases qe F;have F:=x;refine X0 5 Z ?_;exact rK ⟨_,_,_,_,_,_,F,Z,h.p [1,2] Z⟩ Z
 refine qy Z ?_;cases qe F;have F:=v;refine X1 8 1 h Z ?_;obtain⟨o3,F,y⟩:=qc F;refine qq ?_;have h:=h.p [0] Z;refine rL (λm e w'=>∃S5 p9 l T x4 s,eA d m x4 s=V o3/\e=[(3,oS p9 l T),(42,oL X d.Ai k3),(43,vi (d.Ai.length:Int)),(44,vi s)]/\SH w w' [oW S5 (x4:List aY) [oS p9 l T]]) n ⟨_,_,_,_,_,_,F,Z,h⟩ Z ?_;rintro m3 _ _ ⟨S5,p9,l,T,x4,s,F,rfl,h⟩;obtain rfl:=(h.sl 0 Z).2;rcases m3 with _|m3
 .cases F
 refine X0 5 Z (qn Z F ?_ ?_)<;>intro F
 .refine X0 6 Z ?_;obtain⟨u,_,F,I,_,_,_,_,L,O,Q,C⟩:=s3.ix F;obtain rfl:=lZ Q;refine ft L O I Z (bL 0 C h Z (qi qa h Z Z Z λ_ _ h=>cr Z (zs 0 h Z λ_ h=>X2 9 0 0 h Z (dF (qB qa [0,1,2,3] [.const (vi (-1)),.tmp 50,.tmp 52,.tmp 55] z8) Z (qt qa [.tmp 56] _ ([(⟨(-1),s,u.Cb,(u.Bx==1)⟩:aY)]:List aY) h z9 ⟨(AZ (⟨(-1),s,u.Cb,(u.Bx==1)⟩:aY)),G⟩ Z λ_ _ _ h=>?_)))));obtain⟨_,f,F⟩:=qc F;obtain⟨g2,f⟩:=qJ f;refine bn qa 2 h Z (h.sl 0 Z).1 (h.sl 0 Z).2 z9 g2 f Z λ_ _ _ _ h=>X0 7 Z ?_;exact rK ⟨_,_,_,_,_,_,F,Z,h.p [2] Z⟩ Z
 refine qy Z ?_;cases qe F;have F:=y;refine X0 5 Z ?_;cases qe F;exact rO 0 h Z ⟨Z,G⟩
def cY(f:aR):Nat->Int->Option (eE Bool Int)|0,_=>U|n+1,a=>bif decide (a<(f.Ak.length:Int)) then(qG f.Ak a).bind λb=>bif (a==0) then bif (b != (-1)) then V (.ret Cd) else(qG f.Bw 0).bind λd=>bif (d != 0) then V (.ret Cd) else bif decide (a > 0) then(bX n b 0 (qj (a-1))).bind λr1=>bif (!r1) then V (.ret Cd) else cY f n (qj (a+1)) else cY f n (qj (a+1)) else bif decide (a > 0) then(bX n b 0 (qj (a-1))).bind λc=>bif (!c) then V (.ret Cd) else cY f n (qj (a+1)) else cY f n (qj (a+1)) else V (.nxt a)
def rU(n:Nat)(a:aR):Option Bool:=(cY a n 0).bind λ|.ret r=>V r|.nxt _=>V An
theorem FN{C:aR}(c:Ro w C cs1){r:Bool}(F:rU n C=V r):qN prog 180 [gv C cs1] w r:=by
 obtain⟨p1,u,z,x,A,k3,B,y,rfl,s1,s2,_,_⟩:=dM c;refine zV 38 func180 Z λh=>db (qK h Z Z λ_ b h=>X1 10 0 h Z ?_);obtain⟨o1,F,a⟩:=qc F;refine qq (rL (λm e w'=>∃s,cY C m s=V o1/\e=[(1,vp b),(6,oL p1 C.Ak u),(7,vi (C.Ak.length:Int)),(8,vi s)]/\SH w w' [oX b (oD C p1 z A B u x k3 y) 171]) n ⟨_,F,Z,h⟩ Z ?_);rintro v _ _ ⟨s,F,rfl,h⟩;rcases v with _|v
 .cases F
 refine X0 5 Z (qn Z F ?_ ?_)<;>intro F
 .refine X0 6 Z ?_;obtain⟨_,_,F,g,_,_,_,_,k,o,rfl,d⟩:=s1.ix F;refine ft k o g Z (bL 0 d h Z (X0 8 Z (qh (t:=15) F Z ?_ ?_)))<;>intro F
  .refine X0 6 Z (qh (t:=18) F Z ?_ ?_)<;>intro F
   .refine X0 20 Z (dO Z Z (X0 4 Z ?_));cases qe F;exact rb h a Z
   refine X1 5 0 h Z ?_;obtain⟨_,_,F,i,_,_,_,_,l,p,rfl,f⟩:=s2.ix F;refine ft l p i Z (X0 1 Z (bL 0 f h Z (X0 6 Z (qh (t:=26) F Z ?_ ?_))))<;>intro F
   .refine X0 11 Z (dO Z Z (X0 4 Z ?_));cases qe F;exact rb h a Z
   refine X0 6 Z (qh (t:=29) F Z ?_ ?_)<;>intro F
   .refine X0 7 Z (dI h F bv Z λ_ _ h F=>X0 6 Z (qn Z F ?_ ?_))<;>intro F
    .refine X0 4 Z ?_;cases qe F;exact rb h a Z
    exact X0 6 Z (rK ⟨_,F,Z,h⟩ Z)
   exact X0 9 Z (bQ Z Z (X0 6 Z (rK ⟨_,F,Z,h⟩ Z)))
  refine X0 17 Z (qh (t:=29) F Z ?_ ?_)<;>intro F
  .refine X0 7 Z (dI h F bv Z λ_ _ h F=>X0 6 Z (qn Z F ?_ ?_))<;>intro F
   .refine X0 4 Z ?_;cases qe F;exact rb h a Z
   exact X0 6 Z (rK ⟨_,F,Z,h⟩ Z)
  exact X0 9 Z (bQ Z Z (X0 6 Z (rK ⟨_,F,Z,h⟩ Z)))
 refine qy Z ?_;cases qe F;exact X0 4 Z (rb h a Z)
def yn(n:Nat)(k:aR)(sinks:Int):Option Bool:=(dA n k.Ak).bind λr1=>(bX n r1 1 8).bind λa=>bif a then(dA n k.Bw).bind λb=>bif (b==r1) then(dA n k.Bs).bind λc=>bif (c==r1) then(rU n k).bind λd=>bif d then(eS n k.Bw 0 1000).bind λf=>bif f then(eS n k.Bs 0 500).bind λg=>bif g then(dA n k.Bl).bind λh=>bif (h==sinks) then(eS n k.Bl 0 (qj (r1-1))).bind λi=>V i else V Cd else V Cd else V Cd else V Cd else V Cd else V Cd else V Cd
theorem PB{d:aR}{sinks}(a:Ro w d cs1){r:Bool}(F:yn n d sinks=V r):qN prog 114 [gv d cs1,vi sinks] w r:=by
 obtain⟨_,_,_,_,_,_,_,_,rfl,s1,s2,b,c⟩:=dM a;refine zV 53 func114 Z λh=>db (qK h Z Z λ_ _ h=>X1 6 0 h Z (mR h F (fY ⟨_,_,Z,(h.oldS s1)⟩) Z λ_ _ h F=>X0 5 Z (dI h F bv Z λ_ _ h F=>cr Z (qh (t:=11) F Z ?_ ?_))))<;>intro F
 .refine X1 5 0 h Z (mR h F (fY ⟨_,_,Z,(h.oldS s2)⟩) Z λ_ _ h F=>X0 6 Z (qh (t:=18) F Z ?_ ?_))<;>intro F
  .refine X1 5 0 h Z (mR h F (fY ⟨_,_,Z,(h.oldS b)⟩) Z λ_ _ h F=>X0 6 Z (qh (t:=25) F Z ?_ ?_))<;>intro F
   .refine X1 3 0 h Z (dI h F (FN (h.old a)) Z λ_ _ h F=>mr Z (qh (t:=29) F Z ?_ ?_))<;>intro F
    .refine X1 5 0 h Z (dI h F (fG ⟨_,_,Z,(h.oldS s2)⟩) Z λ_ _ h F=>mr Z (qh (t:=34) F Z ?_ ?_))<;>intro F
     .refine X1 5 0 h Z (dI h F (fG ⟨_,_,Z,(h.oldS b)⟩) Z λ_ _ h F=>mr Z (qh (t:=39) F Z ?_ ?_))<;>intro F
      .refine X1 5 0 h Z (mR h F (fY ⟨_,_,Z,(h.oldS c)⟩) Z λ_ _ h F=>X0 6 Z (qh (t:=46) F Z ?_ ?_))<;>intro F
       .exact X1 9 0 h Z (dI h F (fG ⟨_,_,Z,(h.oldS c)⟩) Z λ_ _ h F=>X0 3 Z (rb h F Z))
       exact X0 8 Z (rb h F Z)
      exact X0 15 Z (rb h F Z)
     exact X0 20 Z (rb h F Z)
    exact X0 25 Z (rb h F Z)
   exact X0 29 Z (rb h F Z)
  exact X0 36 Z (rb h F Z)
 exact X0 43 Z (rb h F Z)
def mC(b:qf)(c:List Int):Nat->Int->Option (eE Bool Int)|0,_=>U|n+1,a=>bif decide (a<(b.Ah.length:Int)) then(qG b.Ah a).bind λf=>(qG c a).bind λg=>(yn n f g).bind λd=>bif (!d) then V (.ret Cd) else mC b c n (qj (a+1)) else V (.nxt a)
def gX(r1:List aY):Nat->(List Int)->Int->Option ((List Int)×Int)|0,_,_=>U|n+1,b,a=>bif decide (a<(r1.length:Int)) then(qG r1 a).bind λc=>bif (!c.drives) then(qG b c.net).bind λd=>(qG b c.net).bind λ_=>gX r1 n (am b c.net (qj (d+1))) (qj (a+1)) else gX r1 n b (qj (a+1)) else V (b,a)
def un(n:Nat)(b:qf):Option Bool:=((vD n (⟨b.Aq.As⟩:qD) (⟨b.Aa.Ab,b.Aa.Ap,b.Aa.Ai⟩:qk)).bind λa=>bif (!a) then V An else V ((b.Ah.length:Int) != (b.Aa.Ap.length:Int))).bind λb1=>bif b1 then V Cd else(yW (b.Ah.length:Int) (0:Int)).bind λx1=>(fS n (⟨b.Aa.Ab,b.Aa.Ap,b.Aa.Ai⟩:qk)).bind λr1=>(gX r1 n x1 0).bind λ(c,_)=>(mC b c n 0).bind λ|.ret r=>V r|.nxt _=>V An
theorem NA{b:qf}(z:Ro w b cs1){r:Bool}(F:un n b=V r):qN prog 70 [gv b cs1] w r:=by
 obtain⟨p1,k1,p2,k2,p3,k3,p4,k4,p5,k5,rfl,s1,s2,s3,s4,s5⟩:=qZ z;refine zV 63 func70 Z λh=>db (qK h Z Z λ_ a h=>X0 4 Z ?_);obtain⟨x,g,_,F,f⟩:=bindE F;refine bw (λe w'=>∃b1,x b1=V r/\e=[(1,vp a),(23,.bool b1)]/\SH w w' [oX a (qL b p1 p2 p3 p4 p5 k1 k2 k3 k4 k5) 34]) ?_ ?_
 .refine X2 5 0 0 h Z (dI h F (KX (uD _ (h.oldS s1)) (cp _ (h.oldS s2) (h.oldS s3) (h.oldS s4))) Z λ_ _ h F=>mr Z (qh (t:=14) F Z ?_ ?_))<;>intro F
  .refine X0 10 Z ?_;exact rH F f h Z
  refine X2 18 0 0 h Z ?_;exact rH F f h Z
 rintro _ _ ⟨b1,F,rfl,h⟩;subst g;refine qn Z F ?_ ?_<;>intro F
 .exact X0 4 Z (rb h F Z)
 refine X1 6 0 h Z ?_;obtain⟨x1,c,F⟩:=qc F;obtain⟨g1,g2,c⟩:=aT c;refine bC qa Int h z9 g1 g2 c Z λ_ S1 v h=>X1 7 1 h Z (uY h F (mj (cp _ (h.oldS s2) (h.oldS s3) (h.oldS s4))) Z λr1 _ S2 p7 k6 h F=>X0 3 Z ?_);obtain⟨o1,F,y⟩:=qc F;refine qq (rL (λm e w'=>∃u X,gX r1 m u X=V o1/\e=[(1,vp a),(3,oS v x1.length x1.length),(30,oL p7 r1 k6),(31,vi (r1.length:Int)),(32,vi X)]/\SH w w' [oW S2 (r1:List aY) [oL p7 r1 k6],oW S1 (u:List Int) [oS v x1.length x1.length],oX a (qL b p1 p2 p3 p4 p5 k1 k2 k3 k4 k5) 34]) n ⟨_,_,F,Z,h⟩ Z ?_);rintro m1 _ _ ⟨u,X,F,rfl,h⟩;rcases m1 with _|m1
 .cases F
 refine X0 5 Z (qn Z F ?_ ?_)<;>intro F
 .refine ly ?_;obtain⟨_,_,F,i,_,_,_,_,J,N,R,A⟩:=(h.sl 0 Z).1.ix F;obtain rfl:=ro R;refine zx J N ⟨i.1,qE i.2.1 (h.sl 0 Z).2⟩ Z (zc 0 A Z (qi qa h Z Z Z λ_ _ h=>zs 0 h Z λ_ h=>X1 7 0 h Z (qn Z F ?_ ?_)))<;>intro F
  .refine X1 4 0 h Z ?_;obtain⟨y2,_,F,k,_,_,_,_,K,O,rfl,B⟩:=(h.sl 2 Z).1.ix F;refine zx K O ⟨k.1,qE k.2.1 (h.sl 2 Z).2⟩ Z (zc 0 B Z (cr Z ?_));obtain⟨_,W,F,l,_,_,_,_,p,s,rfl,C⟩:=(h.sl 2 Z).1.ix F;refine zx p s ⟨l.1,qE l.2.1 (h.sl 2 Z).2⟩ Z (bM qa 2 0 (qj (y2+1)) h Z W p s Z C Z Z Z Z Z Z Z λ_ h=>X0 6 Z ?_);exact rK ⟨_,_,F,Z,h.p [1,2,3] Z⟩ Z
  refine X0 6 Z ?_;exact rK ⟨_,_,F,Z,h.p [1,2,3] Z⟩ Z
 refine qy Z ?_;cases qe F;have F:=y;refine X1 8 2 h Z ?_;obtain⟨o2,F,d⟩:=qc F;refine qq ?_;have h:=h.p [1] Z;refine rL (λm e w'=>∃Y,mC b u m Y=V o2/\e=[(3,oS v x1.length x1.length),(48,oL p5 b.Ah k5),(49,vi (b.Ah.length:Int)),(50,vi Y)]/\SH w w' [oW S1 (u:List Int) [oS v x1.length x1.length]]) n ⟨_,F,Z,h⟩ Z ?_;rintro m2 _ _ ⟨Y,F,rfl,h⟩;rcases m2 with _|m2
 .cases F
 refine X0 5 Z (qn Z F ?_ ?_)<;>intro F
 .refine X0 6 Z ?_;obtain⟨y4,_,F,I,_,_,_,_,L,P,S,D⟩:=s5.ix F;obtain⟨_,_,_,_,_,_,_,_,rfl,s6,s7,s8,s9⟩:=dM S;refine ft L P I Z (bL 0 D h Z (qi qa h Z Z Z λ_ _ h=>cr Z (zs 0 h Z λ_ h=>V7 (rD (Y1 1 0 h Z ?_)))));refine xz Z ?_;obtain⟨_,_,F,o,_,_,_,_,M,Q,rfl,H⟩:=(h.sl 1 Z).1.ix F;refine V9 M Q ⟨o.1,qE o.2.1 (h.sl 1 Z).2⟩ Z (V8 0 H Z ?_);obtain⟨r2,T,F⟩:=qc F;refine dB r2 (MT _) (cB 114 Z) (λ_ hb=>PB (SS y4 ((h.ext hb).oldS s6) ((h.ext hb).oldS s7) ((h.ext hb).oldS s8) ((h.ext hb).oldS s9)) T) Z Z Z Z (xm Z (dN h λ_ h=>qn Z F ?_ ?_))<;>intro F
  .refine X0 4 Z ?_;cases qe F;exact rb h d Z
  refine X0 6 Z ?_;exact rK ⟨_,F,Z,h.p [1] Z⟩ Z
 refine qy Z ?_;cases qe F;exact X0 4 Z (rb h d Z)
end Go.Fw


namespace Go.Fw
open Go
structure BA(x:bp):Prop where
 Bi:OA x.Bi
 Bx:nE x.Bx
 Bs:nE x.Bs
 Bt:qe0 x.Bt
structure rn(x:qU):Prop where
 Bp:(wh nE) x.Bp
 Bj:(wh nE) x.Bj
 Bg:(wh nE) x.Bg
structure yY(x:bo):Prop where
 Bf:nE x.Bf
 Bm:nE x.Bm
 To:nE x.To
 Br:nE x.Br
 Bq:(wh rn) x.Bq
 Ba:(wh rn) x.Ba
structure FB(x:qQ):Prop where
 Bi:OA x.Bi
 Bf:nE x.Bf
 Bh:(wh BA) x.Bh
 Av:(wh yY) x.Av
 Bu:(wh nE) x.Bu
 Cc:nE x.Cc
 Bz:nE x.Bz
structure rm(x:qD):Prop where
 As:(wh FB) x.As
structure MN(x:qO):Prop where
 Bi:OA x.Bi
 Bv:nE x.Bv
 Ap:(wh nE) x.Ap
structure UZ(x:bq):Prop where
 Bi:OA x.Bi
 Bx:nE x.Bx
 Cb:nE x.Cb
structure xq(x:qk):Prop where
 Ab:(wh MN) x.Ab
 Ap:(wh OA) x.Ap
 Ai:(wh UZ) x.Ai
structure IJ(x:aR):Prop where
 Ak:(wh nE) x.Ak
 Bw:(wh nE) x.Bw
 Bs:(wh nE) x.Bs
 Bl:(wh nE) x.Bl
structure wj(x:qf):Prop where
 Aq:rm x.Aq
 Aa:xq x.Aa
 Ah:(wh IJ) x.Ah
structure LI(x:qH):Prop where
 Bi:OA x.Bi
 Bb:nE x.Bb
 Be:nE x.Be
 Az:nE x.Az
 Bd:nE x.Bd
structure OB(x:qg):Prop where
 Ar:nE x.Ar
 Bc:nE x.Bc
structure sb(x:ql):Prop where
 Bo:nE x.Bo
 Af:OB x.Af
 Ba:OB x.Ba
structure nH(x:aZ):Prop where
 Ac:wj x.Ac
 Aj:LI x.Aj
 Ay:(wh nE) x.Ay
 Am:(wh sb) x.Am
structure qeE(x:qw):Prop where
 Bn:nE x.Bn
 Bk:(wh nE) x.Bk
 Af:nE x.Af
structure qd5(x:qu):Prop where
 Au:(wh qe0) x.Au
 Af:(wh OB) x.Af
 Ba:(wh OB) x.Ba
end Go.Fw


namespace Go.Fw
open Go
set_option maxRecDepth 100000
theorem gC{n:Nat}{x lo hi:Int}:bk n x lo hi=V (gu x lo hi):=by
 simp only[bk,CQ,HR];rfl
theorem gV{n:Nat}{x lo hi:Int}:bX n x lo hi=V (gu x lo hi):=by
 simp only[bX,CQ,HR];rfl
def bt(s:ByteArray)(j:Nat):Nat:=(s.data.toList.getD j 0).toNat
theorem Y5{s:ByteArray}{j:Nat}(h:j<s.size):Y4 s (j:Int)=V (bt s j:Int):=by
 have a:j<s.data.size:=h;have b:j<s.data.toList.length:=by simpa using a
 unfold Y4;rw[if_pos (by omega),jq];have:s[j]?=V (s.data.toList.getD j 0):=by
  rw[getElem?_pos s j h,jz,jj b]
  rfl
 rw[this]
 rfl
def PL(b:Nat):Bool:=decide (97<=b)&&decide (b<=122)
def C0(b:Nat):Bool:=decide (48<=b)&&decide (b<=57)
def qd3(s:ByteArray)(j:Nat):Bool:=PL (bt s j) || C0 (bt s j)&&decide (0<j)
def tU(s:ByteArray):Bool:=(decide (1<=s.size)&&decide (s.size<=8))&&bG (qd3 s) s.size
theorem AR{s:ByteArray}(h:OA s):Ev (λn=>pa n s) (tU s):=by
 unfold OA at h;have d:Ev (λn=>kV s n 0) (bif bG (qd3 s) s.size then .nxt (s.size:Int) else .ret Cd):=by
  refine ll ?_ (λj a X f=>?_)
  .exact Cm (by simp only[kV,qr (jf _),Cj];exact .done)
  .refine Cm ?_;simp only[kV,qp a,Ci,Y5 a,jd,CQ,HR,wS j];have e1:(decide ((bt s j:Int)>=97)&&decide ((bt s j:Int)<=122))=PL (bt s j):=by unfold PL;rw[jp];simp;omega
   have b:(decide ((bt s j:Int)>=48)&&decide ((bt s j:Int)<=57))=C0 (bt s j):=by unfold C0;rw[jp];simp;omega
   have c:decide ((j:Int) > 0)=decide (0<j):=by rw[jp];simp
   rw[e1,b,c];unfold qd3;cases PL (bt s j)<;>cases C0 (bt s j)<;>cases decide (0<j)<;>first|exact f|exact .done
 unfold pa;refine Ev.cast (r:=bif bG (qd3 s) s.size then(decide (1<=s.size)&&decide (s.size<=8)) else Cd) (Ev.bindB d (λ_=>?_) (λ_=>.done)) ?_
 .simp only[CQ,HR];exact Cx (by congr 1;rw[jp];simp;omega)
 .unfold tU;cases bG (qd3 s) s.size<;>simp
def nX:List UInt8:=[97,98,99,100,101,102,103,104,105,106,107,108,109,110,111,112,113,114,115,116,117,118,119,120,121,122,48,49,50,51,52,53,54,55,56,57]
theorem OS(b:UInt8):nX.contains b=(PL b.toNat || C0 b.toNat):=by
 have a:(List.range 256).all (λm=>nX.contains (UInt8.ofNat m)==(PL (UInt8.ofNat m).toNat || C0 (UInt8.ofNat m).toNat))=An:=by kernel_rfl
 have h:=List.all_eq_true.1 a b.toNat (List.mem_range.2 b.toNat_lt);rw[beq_iff_eq] at h;simpa using h
def UT:List UInt8:=[97,98,99,100,101,102,103,104,105,106,107,108,109,110,111,112,113,114,115,116,117,118,119,120,121,122]
theorem D7(m:Nat)(b:m<256):decide ((Lib.indexByte UT m.toUInt8)>=0)=PL m:=by
 have a:(List.range 256).all (λm=>decide ((Lib.indexByte UT m.toUInt8)>=0)==PL m)=An:=by kernel_rfl
 have h:=List.all_eq_true.1 a m (List.mem_range.2 b);rwa [beq_iff_eq] at h
theorem RC{α:Type}{p:α->Bool}{l:List α}:l.dropWhile p=[]↔∀x,x∈l->p x=An:=by
 induction l with
 |nil=>simp
 |cons y l ih=>
  rw[List.dropWhile_cons];by_cases h:p y=An
  .rw[if_pos h,ih];simp[h]
  .rw[if_neg h];simp[h]
theorem RB{α:Type}{p:α->Bool}{l:List α}(h:∀x,x∈l.dropWhile p->p x=An):∀x,x∈l->p x=An:=by
 induction l with
 |nil=>simp
 |cons y l ih=>
  rw[List.dropWhile_cons] at h;by_cases b:p y=An
  .rw[if_pos b] at h;intro x a;rcases List.mem_cons.1 a with rfl|a
   .exact b
   .exact ih h x a
  .rw[if_neg b] at h;exact h
theorem qbf{l cs:List UInt8}:Lib.trimS l cs=[]↔∀x,x∈l->cs.contains x=An:=by
 unfold Lib.trimS Lib.trimRightS Lib.trimLeftS;rw[RC];constructor
 .intro h x a;exact RB (p:=(cs.contains ·)) (l:=l.reverse) (λy b=>h y (List.mem_reverse.2 b)) x (List.mem_reverse.2 a)
 .intro h x a;exact h x (List.mem_reverse.1 ((List.dropWhile_suffix _).subset (List.mem_reverse.1 a)))
theorem th{a b:ByteArray}:(a.toList==b.toList)=decide (a=b):=by
 rw[jp,beq_iff_eq,decide_eq_true_iff];constructor
 .intro h;exact ByteArray.ext (by have:=congrArg List.toArray h;simpa [ByteArray.toList_eq] using this)
 .rintro rfl;rfl

theorem qcS{s:ByteArray}{j:Nat}(h:j<s.data.toList.length):bt s j=(s.data.toList[j]).toNat:=by
 unfold bt;rw[jz,jj h];rfl
theorem qeb{s:ByteArray}{j:Nat}:bt s j<256:=UInt8.toNat_lt _
theorem LB{n:Nat}{s:ByteArray}(h:OA s):tO n s=V (tU s):=by
 unfold OA at h;have z:s.data.toList.length=s.size:=by simp
 simp only[tO,gV,jd];cases hI:gu (s.size:Int) 1 8 with
 |false=>
  have k:(decide (1<=s.size)&&decide (s.size<=8))=Cd:=by rw[P8] at hI;rw[Bool.and_eq_false_iff,decide_eq_false_iff_not,decide_eq_false_iff_not];omega
  simp[tU,k]
 |true=>
  have k:1<=s.size/\s.size<=8:=by rw[cu] at hI;omega
  have t:uW n s (⟨#[97,98,99,100,101,102,103,104,105,106,107,108,109,110,111,112,113,114,115,116,117,118,119,120,121,122,48,49,50,51,52,53,54,55,56,57]⟩:ByteArray)=V ⟨(Lib.trimS s.data.toList nX).toArray⟩:=by
   unfold uW;rw[if_pos ⟨by omega,by decide,by decide⟩]
   rfl
  rw[t];simp only[Ci,jd];have p:(((⟨(Lib.trimS s.data.toList nX).toArray⟩:ByteArray).toList==(⟨#[]⟩:ByteArray).toList))=bG (λj=>PL (bt s j) || C0 (bt s j)) s.size:=by
   rw[th,jp,decide_eq_true_iff,aA];have:((⟨(Lib.trimS s.data.toList nX).toArray⟩:ByteArray)=⟨#[]⟩)↔Lib.trimS s.data.toList nX=[]:=by
    constructor
    .intro i;have:=congrArg (λx:ByteArray=>x.data.toList) i;simpa using this
    .intro i;rw[i]
   rw[this,qbf];constructor
   .intro m j a;have c:j<s.data.toList.length:=by omega
    have:=m _ (jm c);rw[OS,<-qcS c] at this;exact this
   .intro m x u;obtain⟨j,a,rfl⟩:=Ji u;have:=m j (by omega);rw[OS,<-qcS a];exact this
  rw[p];have o:Y4 s 0=V (bt s 0:Int):=Y5 (j:=0) (by omega);have g:decide (Lib.indexByte UT (bt s 0:Int).toNat.toUInt8>=0)=PL (bt s 0):=by
   rw[jq];exact D7 _ qeb
  have r:∀b:Bool,(bif b then(Y4 s 0).bind λy=>(pS n (⟨#[97,98,99,100,101,102,103,104,105,106,107,108,109,110,111,112,113,114,115,116,117,118,119,120,121,122]⟩:ByteArray) (⟨y⟩:gW .u8)).bind λv=>V (decide (v>=0)) else V Cd)=V (b&&PL (bt s 0)):=by
   intro b;cases b with
   |false=>rfl
   |true=>
    rw[o];simp only[Ci,jd,pS,jN];exact congrArg V g
  rw[r]
  congr 1
  have l:(decide (1<=s.size)&&decide (s.size<=8))=An:=by simp[k]
  unfold tU;rw[l,jN,jp,je,aA,aA];simp only[qd3,Bool.or_eq_true,je,decide_eq_true_eq];constructor
  .rintro⟨d,f⟩ j a;rcases Nat.eq_zero_or_pos j with rfl|hp
   .exact .inl f
   .exact(d j a).imp id (λh=>⟨h,hp⟩)
  .intro d;refine⟨λj a=>(d j a).imp id (λh=>h.1),?_⟩;rcases d 0 (by omega) with f|f
   .exact f
   .omega
def yO(xs:List ByteArray)(j:Nat):ByteArray:=xs.getD j ByteArray.empty
theorem KE{xs:List ByteArray}{j:Nat}(h:j<xs.length):yO xs j=xs[j]:=by simp[yO,h]
theorem NW{xs:List ByteArray}{j:Nat}(h:j<xs.length):qG xs (j:Int)=V (yO xs j):=by rw[bZ h,KE h]
def SU(xs:List ByteArray)(j i:Nat):Bool:=!decide (yO xs i=yO xs j)
def ol(xs:List ByteArray):Bool:=bG (λj=>tU (yO xs j)&&bG (SU xs j) j) xs.length
theorem DL{xs:List ByteArray}(h:wh OA xs):Ev (λn=>px n xs) (ol xs):=by
 have f:=h.len;have c:∀j,j<xs.length->Ev (λn=>lL xs (j:Int) n 0) (bif bG (SU xs j) j then .nxt (j:Int) else .ret Cd):=by
  intro j a;refine ll ?_ (λi hi X d=>Cm ?_)
  .exact Cm (by simp only[lL,qr (jf _),Cj];exact .done)
  .simp only[lL,qp hi,Ci,NW (show i<xs.length by omega),NW a,jd,th,wS i];unfold SU;cases decide (yO xs i=yO xs j)
   .exact d
   .exact .done
 have b:Ev (λn=>lK xs n 0) (bif ol xs then .nxt (xs.length:Int) else .ret Cd):=by
  refine ll ?_ (λj a X d=>Cm ?_)
  .exact Cm (by simp only[lK,qr (jf _),Cj];exact .done)
  .simp only[lK,qp a,Ci,NW a,jd,wS j];refine Ck (AR (by rw[KE a];exact h.at a)) ?_;cases tU (yO xs j)
   .exact .done
   .refine Cp Z (Ck (c j a) ?_);cases bG (SU xs j) j
    .exact .done
    .exact d
 unfold px;refine Ck b ?_;cases ol xs<;>exact .done
theorem ZL{xs:List ByteArray}{v:ByteArray}(c:xs.length<=1048576):Ev (λn=>nS n xs v) (NF (λx=>decide (v=x)) xs):=
 og (fin:=(xs.length:Int)) (Lf:=fj xs v) (pf:=λ_ x=>V (decide (v=x))) (λ_ _=>.done)
  (λn=>by simp only[fj,qr (jf _),Cj])
  (λn j x a=>by
   have b:=(List.getElem?_eq_some_iff.1 a).1;simp only[fj,qp b,Ci,ra a,jd,th,wS j])
  (λn=>by unfold nS;congr 1;funext o;cases o<;>rfl)
theorem QL{xs:List ByteArray}{v:ByteArray}(a:xs.length<=1048576):Ev (λn=>lu n xs v) (xs.any λx=>decide (v=x)):=by
 unfold lu;exact Ck (ZL a) (Cx (by rw[DK]))
theorem vQ{xs:List ByteArray}(h:wh OA xs):Ev (λn=>lz n xs) (ol xs):=by
 have g:=h.len;have b:Ev (λn=>lE xs n 0) (bif ol xs then .nxt (xs.length:Int) else .ret Cd):=by
  refine ll ?_ (λj a X c=>Cm ?_)
  .exact Cm (by simp only[lE,qr (jf _),Cj];exact .done)
  .have f:xV xs 0 (j:Int)=V (xs.take j):=by
    unfold xV;rw[if_pos ⟨by omega,by omega,by omega⟩];simp
   simp only[lE,qp a,Ci,NW a,jd,f,LB (show OA (yO xs j) by rw[KE a];exact h.at a),wS j];cases tU (yO xs j)
   .exact .done
   .refine Cp Z (Ck (QL (by simp;omega)) ?_);have:((xs.take j).any λx=>decide (yO xs j=x)) = !bG (SU xs j) j:=by
     rw[WO (d:=ByteArray.empty)]
     congr 1
     rw[jy,Nat.min_eq_left (by omega)];refine tE (λi hi=>?_);unfold SU yO
     congr 1
     have:(xs.take j).getD i ByteArray.empty=xs.getD i ByteArray.empty:=by simp[jz,hi]
     rw[this];exact decide_eq_decide.2 eq_comm
    rw[this];cases bG (SU xs j) j
    .exact .done
    .exact c
 unfold lz;refine Ck b ?_;cases ol xs<;>exact .done
end Go.Fw
