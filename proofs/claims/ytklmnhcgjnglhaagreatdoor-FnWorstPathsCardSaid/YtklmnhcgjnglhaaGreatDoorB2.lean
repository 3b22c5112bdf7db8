/- Calls that hand out parts of memory one by one: what is owned stays apart. -/
import Derived.Test.YtklmnhcgjnglhaaGreatDoorFw38
import Derived.Sort.Grow
import Derived.Lib.SlicesCompact
import Derived.Laws.StructEq
import Derived.Shelf.GgSortFunc.RowK
import Derived.Sort.Statements
import Derived.Sort.LotA
import Derived.Lib.QuietBelow
import Derived.Test.YtklmnhcgjnglhaaGreatDoorChecked
import Derived.Test.YtklmnhcgjnglhaaGreatDoorS1
import Derived.Test.YtklmnhcgjnglhaaGreatDoorFw37
open Option renaming bind_some->jd, some->V, none->U
open Bool renaming and_eq_true->je, eq_iff_iff->jn, not_eq_true'->jC, true_and->jL, true->An, false->Cd, cond_true->Ci, cond_false->Cj
open Nat renaming le_refl->jf, le_of_ble_eq_true->js, mul_le_mul_right->jt, lt_of_lt_of_le->jx, zero_le->jR, le_trans->jX, zero_add->Jd, add_zero->Jl
open List renaming getElem?_eq_getElem->jj, getElem_mem->jo, mem_cons_of_mem->jp, length_map->jq, mem_cons_self->ju, length_take->jy, getD_eq_getElem?_getD->jz, getElem?_append_left->jA, mem_of_getElem?->jB, getElem?_append_right->jD, take_length->jG, not_mem_nil->jH, getElem?_take->jJ, mem_append_left->jK, mem_cons->jN, mem_append_right->jS, size_toArray->jZ, getElem?_drop->Ja, getElem_of_mem->Je
open Go.Result renaming andThen_ok->ji
open Go.Sem renaming run_bind->jk, run_pure->jm
open Int renaming toNat_natCast->jr
open Array renaming getElem?_append_left->jE, getElem?_eq_getElem->jW
open Go.Fw.Ev renaming bind->Ck, succ->Cm, ff->Cp, now->Cx
open Go.Fw.PV renaming done->Cq
open Go.Fw.ms renaming get->Cs

namespace Go.Fw
open Go
open Go.RowKit (Below)
section
variable{P:Program}{T:uV}{n:Nat}{Q:Exit->Act->World->Prop}{k:List It}{e:fy}{w0 w w':World}{L L':List Ch}
theorem SH.append(h:SH w0 w L)(f:SH w w' L')(m:∀c,c∈L'->∀b,c.D b->b<w0.heap.size):SH w0 w' (L'++L):=by
 have k:=h.ext f.below;refine⟨k.below,fun c a=>?_,fun c a=>?_,?_⟩
 .rcases List.mem_append.1 a with a|a
  .obtain⟨p,s⟩:=f.holds c a;exact⟨p,fun b l=>⟨jX h.below.size (s b l).1,(s b l).2⟩⟩
  .exact k.holds c a
 .rcases List.mem_append.1 a with a|a
  .exact m c a
  .exact h.elder c a
 .refine List.pairwise_append.2 ⟨f.apart,h.apart,fun c a d n b g i=>?_⟩;have o:=((f.holds c a).2 b g).1;have r:=((h.holds d n).2 b i).2;omega
theorem SH.appendN(h:SH w0 w L)(d:SH w w' L')(a:EL L'):SH w0 w' (L'++L):=
 SH.append h d fun c g b f=>absurd f (EL.all a c g b)
def O6(P:Program)(f:FuncId)(a:List Value)(w:World)(Φ:List Value->List Ch->Prop):Prop:=
 Calls P f a.toArray w fun e w'=>∃v,e=.returned v/\Below w.heap.size w w'/\∃us L,v=vK us/\SH w w' L/\Φ us L
theorem GQ{Φ:List Value->List Ch->Prop}{all:Array Oper}{l:List Oper}{d ty:Nat}{ps:String}{t:Array Edge}{x:Operand}{b:Array Operand}{i:Array TypeId}{f:FuncId}{r p:Array Value}{o s:List Value}
  (g:kL P f) (z:O6 P f s w Φ) (D:gg e x=V (.func (.func f) r p)) (c:pk e b.toList=V o) (m:r.toList++o++p.toList=s) (B:Nat.blt d n=An)
  (A:∀w' h L',SH w w' L'->Φ h L'->bu P n Q (.ops all l::k) ((d,vK h)::e) w') :
  bu P n Q (.ops all (⟨V d,.call ⟨.value x,b,i⟩,ty,ps,t,U⟩::l)::k) e w:=by
 subst m;refine zD (R:=fun v w'=>Below w.heap.size w w'/\∃h L,v=vK h/\SH w w' L/\Φ h L) Z Z B (fun a y=>sO y g D c w) z ?_;rintro v w' ⟨_,h,L',rfl,u,C⟩;exact A w' h L' u C
theorem CE{f:FuncId}{b:Func}{c:Code}{a:List Value}{Φ:List Value->List Ch->Prop}{m:Nat}(o:P.funcs[f]?=V b)(n:b.body=V c)(p:b.ntmps=m)(r:Nat.ble a.length m=An)
  (h:SH w w []->bu P m (bodyPost P b fun e w'=>∃v,e=.returned v/\Below w.heap.size w w'/\∃us L,v=vK us/\SH w w' L/\Φ us L) [.code c] (po 0 a) w):O6 P f a w Φ:=by
 subst p;have s:=js r;refine calls_of_wp o n ?_;have u:=h (SH.start w);have g:gc b.ntmps (po 0 a) { tmps:=a.toArray++Array.replicate (b.ntmps-a.toArray.size) undef,defers:=[] }:=by
  refine⟨Z,by simp;omega,fun i v hi=>?_⟩;obtain⟨_,d⟩:=sD a 0 i v hi;simp only[Nat.sub_zero] at d;have k:=(List.getElem?_eq_some_iff.1 d).1;rw[jE (by simpa using k)];simpa using d
 have l:=u _ g;refine wp_mono l ?_;intro ex x w' t;cases ex<;>exact t
theorem CB(d:cv P T){b:Func}{Φ:List Value->List Ch->Prop}(a:List Value)(h:SH w0 w L)(f:vE T e w b.results.toList a)(g:Φ a L) :
  bu P n (bodyPost P b fun e w'=>∃v,e=.returned v/\Below w0.heap.size w0 w'/\∃a L,v=vK a/\SH w0 w' L/\Φ a L) (.code .ret::k) e w:=
 QQ fun _ c=>⟨c.defers,vK a,oc d c f,vK a,Z,h.below,a,L,Z,h,g⟩
end
end Go.Fw


namespace Go.Fw
open Go Go.Sort
open Go.RowKit (Below)
section
variable{P:Program}{T:uV}{n:Nat}{Q:Exit->Act->World->Prop}{k:List It}{e:fy}{w0 w w':World}{L L':List Ch}
theorem QV{α:Type}{L:List α}{i:Nat}{c:α}(h:L[i]?=V c):L.set i c=L:=by
 obtain⟨hi,a⟩:=List.getElem?_eq_some_iff.1 h;rw[<-a,List.set_getElem_self]
abbrev OT:Int->Value:=Value.int .i64
theorem I9{S:Nat->Prop}{xs:List Int}{b o l c i:Nat}(h:SH w0 w L)(hi:L[i]?=V (Ch.own S xs [.slice (V ⟨b,o,U⟩) l c])) :
  o=0/\l=xs.length/\xs.length<=c/\xs.length<=9223372036854775807/\b<w.heap.size/\Holds OT w b o xs.toArray:=by
 obtain⟨r,p⟩:=h.mem hi;obtain⟨y,v,f,m,x,n⟩:=r;simp only[List.cons.injEq,Value.slice.injEq,and_true] at f;obtain⟨rfl,rfl,rfl⟩:=f;rcases n with⟨hn,_⟩|⟨b',cur,t,F,hb,hSb,hg,hc,hF,hd,hx⟩
 .cases hn
 .simp only[Option.some.injEq,Addr.mk.injEq,and_true] at hb;obtain⟨rfl,rfl⟩:=hb;have k:maxLen<=9223372036854775807:=by simp[maxLen]
  refine⟨Z,Z,m,by omega,(p b hSb).2,fun j g=>?_⟩;have a:j<xs.length:=by simpa using g
  obtain⟨cs,s,u⟩:=hx j xs[j] (jj a);obtain rfl:cs=[.int .i64 xs[j]]:=s;have:=u 0 _ Z;refine⟨?_,?_⟩
  .simp only[World.cell?,hg,Option.isSome_none,Jd,Bool.false_eq_true,if_false];have e1:j*qm.k Int+0=j:=by show j*1+0=j;omega
   rw[e1] at this;rw[this];have d:j<xs.toArray.size:=g;rw[getElem!_pos xs.toArray j d]
   rfl
  .simp only[World.frozen?,hg];simp
theorem qa3{S:Nat->Prop}{xs:List Int}{b o P c i m:Nat}(h:SH w0 w L)(hi:L[i]?=V (Ch.own S xs [.slice (V ⟨b,o,U⟩) P c]))(d:Array Int)(D:d.size=xs.length)(N:m<=d.size)(nd:Nat)(os:Array Obj) :
  SH w0 (grow (putRow OT (Go.Sort.ahead w nd) b o d) os) (L.set i (Ch.own S (d.toList.take m) [.slice (V ⟨b,o,U⟩) m c])):=by
 obtain⟨O,M⟩:=h.mem hi;obtain⟨T,Q,H,R,J,K⟩:=O;simp only[List.cons.injEq,Value.slice.injEq,and_true] at H;obtain⟨rfl,rfl,rfl⟩:=H;rcases K with⟨hn,_⟩|⟨b',cur,t,F,hb,hSb,hg,hc,hF,hdj,hx⟩
 .cases hn
 .simp only[Option.some.injEq,Addr.mk.injEq,and_true] at hb;obtain⟨rfl,rfl⟩:=hb;have u:b<w.heap.size:=(M b hSb).2;have f:(grow (putRow OT (Go.Sort.ahead w nd) b 0 d) os).heap=w.heap.modify b (onCells (putCells OT 0 d))++os:=rfl;have n:∀a,a<w.heap.size->(grow (putRow OT (Go.Sort.ahead w nd) b 0 d) os).heap[a]?=(w.heap.modify b (onCells (putCells OT 0 d)))[a]?:=fun a k=>by
   rw[f,jE (by rw[Array.size_modify];exact k)]
  have y:(grow (putRow OT (Go.Sort.ahead w nd) b 0 d) os).heap[b]?=V (.cells (putCells OT 0 d cur) t (0,0)):=by
   rw[n b u,Array.getElem?_modify,if_pos Z,hg];rfl
  have l:qm.k Int=1:=rfl;refine h.upd hi Z Z Z ?_ (fun a k B=>?_) ?_ (fun a k=>.inl k) (fun _ D=>D.elim)
  .rw[f];simp
  .rw[n a k,Array.getElem?_modify,if_neg (fun s:b=a=>B (s ▸ hSb))]
  .refine⟨V ⟨b,0,U⟩,c,by rw[jy,Array.length_toList,Nat.min_eq_left N],by rw[jy,Array.length_toList];omega,J,.inr ⟨b,_,t,F,Z,hSb,y,?_,hF,hdj,fun j x p=>⟨[.int .i64 x],Z,fun r v I=>?_⟩⟩⟩
   .unfold putCells;rw[Array.size_mapIdx];exact hc
   .have C:r=0:=by
     have:=(List.getElem?_eq_some_iff.1 I).1;simpa using this
    subst C;obtain rfl:(.int .i64 x)=v:=by simpa using I
    have A:j<m:=by
     have:=(List.getElem?_eq_some_iff.1 p).1;rw[jy] at this;omega
    rw[jJ,if_pos A] at p;have g:j<d.size:=by omega
    have z:j*qm.k Int+0<cur.size:=by rw[hc,l];omega
    unfold putCells;rw[Array.getElem?_mapIdx,jW z];have e1:j*qm.k Int+0=j:=by rw[l];omega
    simp only[Option.map_some,e1,Nat.sub_zero,jR,Jd,true_and,if_pos g,Option.some.injEq];rw[getElem!_pos d j g];rw[Array.getElem?_toList,jW g] at p;rw[Option.some.inj p]
theorem V3{S:Nat->Prop}{xs:List Int}{b o k c i:Nat}{d:Option Nat}(h:SH w0 w L)(hi:L[i]?=V (Ch.own S xs [.slice (V ⟨b,o,d⟩) k c])):d=U:=by
 obtain⟨g,_⟩:=h.mem hi;obtain⟨p,l,a,m,n,f⟩:=g;simp only[List.cons.injEq,Value.slice.injEq,and_true] at a;obtain⟨rfl,_,rfl⟩:=a;rcases f with⟨hn,_⟩|⟨b',cur,t,F,hb,_⟩
 .cases hn
 .simp only[Option.some.injEq,Addr.mk.injEq] at hb;exact hb.2.2
theorem qa2{S:Nat->Prop}{xs:List Int}{b c i:Nat}(h:SH w0 w L)(hi:L[i]?=V (Ch.own S xs [.slice U b c])):xs=[]/\b=0/\c=0:=by
 obtain⟨g,_⟩:=h.mem hi;obtain⟨n,k,a,l,m,d⟩:=g;simp only[List.cons.injEq,Value.slice.injEq,and_true] at a;obtain⟨rfl,f,rfl⟩:=a;rcases d with⟨_,rfl,rfl⟩|⟨b',cur,t,F,hb,_⟩
 .exact⟨Z,by simpa using f,Z⟩
 .cases hb
end
end Go.Fw


namespace Go.Fw
open Go
open Go.RowKit (Below)
section
variable{w0 w w':World}{L:List Ch}{α:Type}[qm α]
def vL(w:World)(A:Nat->Prop):List α->List (PK α)->Prop
 | [],[]=>True
 |x::xs,r::rs=>qm.R w A x r.cs/\vL w A xs rs
 |_,_=>False
theorem vL.at{A:Nat->Prop}:∀{xs:List α} {a:List (PK α)},vL w A xs a->xs.length=a.length/\∀(i:Nat) x,xs[i]?=V x->∃r,a[i]?=V r/\qm.R w A x r.cs
 | [],[],_=>⟨Z,fun i x h=>by simp at h⟩
 |x::xs,[],h=>h.elim
 | [],r::a,h=>h.elim
 |x::xs,r::a,h=>by
  obtain⟨d,c⟩:=vL.at h.2;refine⟨by simp[d],fun i y b=>?_⟩;cases i with
  |zero=>simp only[List.getElem?_cons_zero,Option.some.injEq] at b⊢;subst b;exact⟨r,Z,h.1⟩
  |succ i=>simp only[List.getElem?_cons_succ] at b⊢;exact c i y b
theorem SH.cutS{S:Nat->Prop}{xs y:List α}{p p1:Option Addr}{v c r:Nat}{hi:Int}(i:Nat)(h:SH w0 w L)(m:L[i]?=V (Ch.own S xs [.slice p v c]))(u:wT xs 0 hi=V y)(o:PI (qm.k α) p c (0:Int).toNat=p1)(k:c-(0:Int).toNat=r) :
  SH w0 w (L.set i (Ch.own S y [.slice p1 y.length r])):=by
 obtain⟨B,C,D,rfl⟩:=ww u;obtain⟨t,H⟩:=h.mem m;obtain⟨I,A,n,J,z,s⟩:=t;simp only[List.cons.injEq,Value.slice.injEq,and_true] at n;obtain⟨rfl,rfl,rfl⟩:=n;have e0:(0:Int).toNat=0:=rfl;rw[e0] at o k;simp only[Nat.sub_zero] at k;subst k;simp only[e0,List.drop_zero];have l:p1=p:=by
  subst o;unfold PI;split
  .rfl
  .rcases s with⟨rfl,_,_⟩|⟨b,cur,T,F,rfl,_⟩
   .rfl
   .simp[Addr.add]
 subst l;have a:(xs.take hi.toNat).length<=c:=by rw[jy];omega
 refine h.upd m Z Z Z (jf _) (fun _ _ _=>rfl) ⟨p1,c,Z,a,z,?_⟩ (fun b f=>.inl f) (fun _ g=>g.elim);rcases s with⟨rfl,rfl,rfl⟩|⟨b,cur,T,F,rfl,f,hg,hc,hF,g,hx⟩
 .exact .inl ⟨Z,by simp,Z⟩
 .refine .inr ⟨b,cur,T,F,Z,f,hg,hc,hF,g,fun j x d=>?_⟩;rw[jJ] at d;split at d
  .exact hx j x d
  .cases d
end
end Go.Fw


namespace Go.Fw
open Go
end Go.Fw


namespace Go.Fw
open Go
open Go.RowKit (Below)
section
variable{P:Program}{T:uV}{n:Nat}{Q:Exit->Act->World->Prop}{k:List It}{e:fy}{w0 w:World}{L:List Ch}
variable{α:Type}[qm α]{S S1:Nat->Prop}{xs ys:List α}{p p':Option Addr}{c c':Nat}
end
section
variable{α β γ:Type}
def OM(o:Option (List α)):Prop:=∀r,o=V r->r=[]
theorem OM.none:OM (U:Option (List α)):=fun _ h=>by cases h
theorem OM.noneB{f:β->Option (List α)}:OM ((Option.none:Option β).bind f):=fun _ h=>by cases h
theorem OM.nil:OM (V ([]:List α)):=fun _ h=>(Option.some.inj h).symm
theorem OM.bif{c:Bool}{a b:Option (List α)}(d:OM a)(f:OM b):OM (bif c then a else b):=by cases c<;>assumption
theorem OM.sub{xs:List β}{lo:Int}{f:List β->Option (List α)}(h:OM (f [])):OM ((wT xs lo ((0:Nat):Int)).bind f):=fun r a=>by
 cases hs:wT xs lo ((0:Nat):Int) with
 |none=>rw[hs] at a;cases a
 |some y=>
  rw[hs] at a;obtain⟨_,_,_,e⟩:=ww hs;have:y=[]:=by rw[<-e];simp
  subst this;exact h r a
theorem OM.assoc{x:Option β}{g:β->Option γ}{f:γ->Option (List α)}(h:∀y,OM ((g y).bind f)):OM ((x.bind g).bind f):=by
 cases x with
 |none=>exact OM.noneB
 |some y=>exact h y
theorem OM.bind{x:Option β}{f:β->Option (List α)}(h:∀y,OM (f y)):OM (x.bind f):=by
 cases x with
 |none=>exact OM.noneB
 |some y=>exact h y
end
end Go.Fw


namespace Go.Fw
open Go
section
variable{ε:Type}
variable{ρ σ τ:Type}
end

end Go.Fw


namespace Go.Fw
open Go
open Go.RowKit (Below)
structure qc4 where
 w:World
 K:Nat->Prop
instance qdf:qm qc4 where
 k:=1
 agg:=Cd
 zero:=⟨default,fun _=>False⟩
 zc:=[.bool An]
 R w S x cs:=cs=[.bool An]/\∀b,x.K b->S b/\w.heap[b]?=x.w.heap[b]?
 O w S x cs:=cs=[.bool An]/\∀b,x.K b->S b/\w.heap[b]?=x.w.heap[b]?
 kpos:=by decide
 noagg _:=rfl
 len h:=by obtain⟨rfl,_⟩:=h;rfl
 one h:=by obtain⟨rfl,_⟩:=h;simp[Value.oneCell']
 loc h hs:=⟨h.1,fun b hb=>⟨(h.2 b hb).1,(hs b (h.2 b hb).1).trans (h.2 b hb).2⟩⟩
 mono h hs:=⟨h.1,fun b hb=>⟨hs b (h.2 b hb).1,(h.2 b hb).2⟩⟩
 toR h:=h
 locO h hs:=⟨h.1,fun b hb=>⟨(h.2 b hb).1,(hs b (h.2 b hb).1).trans (h.2 b hb).2⟩⟩
 monoO h hs:=⟨h.1,fun b hb=>⟨hs b (h.2 b hb).1,(h.2 b hb).2⟩⟩
 zO _ _:=⟨Z,fun _ h=>h.elim⟩
def FS(F:List Ch)(b:Nat):Prop:=∃d,d∈F/\d.S b
abbrev Fr(w0:World)(F:List Ch)(b:Nat):Prop:=FS F b\/old w0 b
abbrev same(w0 w:World)(F:List Ch):TS:=ti (⟨w,Fr w0 F⟩:qc4) [.bool An]
section
variable{P:Program}{T:uV}{n:Nat}{Q:Exit->Act->World->Prop}{k:List It}{e:fy}{w0 w w':World}{L L' F:List Ch}
theorem SH.frame(L:List Ch)(h:SH w0 w (L++F)):SH w0 w (L++[Ch.grp (Fw.old w0) (FS F) [same w0 w F]]):=by
 have l:=List.pairwise_append.1 h.apart;refine⟨h.below,fun c a=>?_,fun c a=>?_,List.pairwise_append.2 ⟨l.1,List.pairwise_singleton ..,fun c a d i b g=>?_⟩⟩
 .rcases List.mem_append.1 a with a|a
  .exact h.holds c (jK _ a)
  .obtain rfl:=List.mem_singleton.1 a;refine⟨fun f m=>?_,fun b g=>?_⟩
   .obtain rfl:=List.mem_singleton.1 m;exact⟨Z,fun b g=>⟨g,Z⟩⟩
   .obtain⟨d,i,g⟩:=g;exact(h.holds d (jS _ i)).2 b g
 .rcases List.mem_append.1 a with a|a
  .exact h.elder c (jK _ a)
  .obtain rfl:=List.mem_singleton.1 a;exact fun b g=>g
 .obtain rfl:=List.mem_singleton.1 i;rintro⟨d,i,k⟩;exact l.2.2 c a d i b g k
theorem SH.unframe{L0:List Ch}{fs:List TS}(j:Nat)(g:SH w0 w (L0++F))(L':List Ch)(h:SH w0 w' (L'++[Ch.grp (Fw.old w0) (FS F) fs]))(r:fs[j]?=V (same w0 w F)):SH w0 w' (L'++F):=by
 have m:=List.pairwise_append.1 h.apart;have k:=List.pairwise_append.1 g.apart;have l:=h.holds (Ch.grp (Fw.old w0) (FS F) fs) (jS _ (List.mem_singleton.2 Z));have n:∀b,Fr w0 F b->w'.heap[b]?=w.heap[b]?:=fun b f=>((l.1 _ (jB r)).2 b f).2;refine⟨h.below,fun c a=>?_,fun c a=>?_,List.pairwise_append.2 ⟨m.1,k.2.1,fun c a d p b f i=>?_⟩⟩
 .rcases List.mem_append.1 a with a|a
  .exact h.holds c (jK _ a)
  .obtain⟨o,s⟩:=g.holds c (jS _ a);exact⟨c.loc w w' (fun b f=>n b (.inl ⟨c,a,f⟩)) (fun b f=>n b (.inr (g.elder c (jS _ a) b f))) o,fun b f=>l.2 b ⟨c,a,f⟩⟩
 .rcases List.mem_append.1 a with a|a
  .exact h.elder c (jK _ a)
  .exact g.elder c (jS _ a)
 .exact m.2.2 c a _ (List.mem_singleton.2 Z) b f ⟨d,p,i⟩
variable{α:Type}[qm α]{x:α}{cs:List Value}{S D:Nat->Prop}{fs:List TS}
theorem SH.frB{c:Ch}(i m:Nat)(hi:L[i]?=V c)(d:Nat.ble m i=An):∀b,c.S b->FS (L.drop m) b:=fun b a=>by
 have f:=js d;refine⟨c,jB (i:=i-m) ?_,a⟩;rw[Ja,show m+(i-m)=i by omega];exact hi
theorem SH.frO(i m:Nat)(h:SH w0 w L)(hi:L[i]?=V (Ch.own S x cs))(c:Nat.ble m i=An):qm.R w (Fr w0 (L.drop m)) x cs:=
 qm.mono (qm.toR (h.mem hi).1) fun b a=>.inl (SH.frB i m hi c b a)
theorem SH.frG(i j m:Nat)(h:SH w0 w L)(hi:L[i]?=V (Ch.grp D S fs))(c:fs[j]?=V (ti x cs))(d:Nat.ble m i=An):qm.R w (Fr w0 (L.drop m)) x cs:=
 qm.mono (h.grpS i j hi c) fun b a=>a.elim (fun a=>.inl (SH.frB i m hi d b a)) fun a=>.inr (h.elder _ (jB hi) b a)
theorem SH.frOldS{F:List Ch}{xs:List α}{p:Option Addr}{c:Nat}(h:SH w0 w L)(d:dn w0 (Fw.old w0) xs p c):dn w (Fr w0 F) xs p c:=
 (d.loc fun b a=>h.below.block b a).mono fun _ a=>.inr a
def wX(P:Program)(f:FuncId)(a:List Value)(w:World)(J:List Value->World->Prop):Prop:=
 Calls P f a.toArray w fun e w'=>∃us,e=.returned (vK us)/\J us w'
theorem bA{J:List Value->World->Prop}{all:Array Oper}{l:List Oper}{d ty:Nat}{ps:String}{u:Array Edge}{x:Operand}{c:Array Operand}{m:Array TypeId}{f:FuncId}{s r:Array Value}{p t:List Value}
  (i:kL P f) (z:wX P f t w J) (C:gg e x=V (.func (.func f) s r)) (g:pk e c.toList=V p) (o:s.toList++p++r.toList=t) (B:Nat.blt d n=An)
  (A:∀w' b,J b w'->bu P n Q (.ops all l::k) ((d,vK b)::e) w'):bu P n Q (.ops all (⟨V d,.call ⟨.value x,c,m⟩,ty,ps,u,U⟩::l)::k) e w:=by
 subst o;refine zD (R:=fun v w'=>∃b,v=vK b/\J b w') Z Z B (fun a y=>sO y i C g w) (z.mono ?_) ?_
 .rintro e w' ⟨b,rfl,h⟩;exact⟨_,Z,b,Z,h⟩
 .rintro v w' ⟨b,rfl,h⟩;exact A w' b h
theorem cp{J:List Value->World->Prop}{f:FuncId}{b:Func}{c:Code}{a:List Value}{m:Nat}(o:P.funcs[f]?=V b)(n:b.body=V c)(p:b.ntmps=m)(r:Nat.ble a.length m=An)
  (h:bu P m (bodyPost P b fun e w'=>∃us,e=.returned (vK us)/\J us w') [.code c] (po 0 a) w):wX P f a w J:=by
 subst p;have s:=js r;refine calls_of_wp o n ?_;have g:gc b.ntmps (po 0 a) { tmps:=a.toArray++Array.replicate (b.ntmps-a.toArray.size) undef,defers:=[] }:=by
  refine⟨Z,by simp;omega,fun i v hi=>?_⟩;obtain⟨_,d⟩:=sD a 0 i v hi;simp only[Nat.sub_zero] at d;have k:=(List.getElem?_eq_some_iff.1 d).1;rw[jE (by simpa using k)];simpa using d
 have l:=h _ g;refine wp_mono l ?_;intro ex u w' t;cases ex<;>exact t
theorem bX{J:List Value->World->Prop}(d:cv P T){b:Func}(a:List Value)(f:vE T e w b.results.toList a)(h:J a w) :
  bu P n (bodyPost P b fun e w'=>∃a,e=.returned (vK a)/\J a w') (.code .ret::k) e w:=
 QQ fun _ c=>⟨c.defers,vK a,oc d c f,a,Z,h⟩
end
section
open Go.ChangeShapes Go.RowKit
variable{H:Type}{enc:TypeId×Value->H}{P:Program}{w:World}{base:Nat}{spare:Nat->Bool}{held:Bool}
end

section
variable{P:Program}{T:uV}{n:Nat}{Q:Exit->Act->World->Prop}{k:List It}{e:fy}{w0 w w':World}{L:List Ch}
variable{α β:Type}[qm α][qm β]{S Sr Se D:Nat->Prop}{xs ys:List α}{p p':Option Addr}{c c':Nat}{fs:List TS}{x:α}{cs:List Value}
theorem vL.loc{A:Nat->Prop}:∀{xs:List α} {a:List (PK α)},vL w A xs a->(∀b,A b->w'.heap[b]?=w.heap[b]?)->vL w' A xs a
 | [],[],_,_=>trivial
 |_::_,[],h,_=>h.elim
 | [],_::_,h,_=>h.elim
 |_::_,_::_,h,hb=>⟨qm.loc h.1 hb,vL.loc h.2 hb⟩
theorem vL.mono{A B:Nat->Prop}(a:∀b,A b->B b):∀{xs:List α} {c:List (PK α)},vL w A xs c->vL w B xs c
 | [],[],_=>trivial
 |_::_,[],h=>h.elim
 | [],_::_,h=>h.elim
 |_::_,_::_,h=>⟨qm.mono h.1 a,vL.mono a h.2⟩
theorem vL.app{A:Nat->Prop}:∀{xs:List α} {b:List (PK α)} {ys:List α} {a:List (PK α)},vL w A xs b->vL w A ys a->vL w A (xs++ys) (b++a)
 | [],[],_,_,_,h=>h
 |_::_,[],_,_,h,_=>h.elim
 | [],_::_,_,_,h,_=>h.elim
 |_::_,_::_,_,_,h,h'=>⟨h.1,vL.app h.2 h'⟩
theorem vL.of{A:Nat->Prop}:∀{xs:List α} {a:List (PK α)},xs.length=a.length->(∀(i:Nat) (x:α) (r:PK α),xs[i]?=V x->a[i]?=V r->qm.R w A x r.cs)->vL w A xs a
 | [],[],_,_=>trivial
 |_::_,[],h,_=>by cases h
 | [],_::_,h,_=>by cases h
 |x::xs,r::a,h,ha=>⟨ha 0 x r Z Z,vL.of (by simpa using h) fun i y q c b=>ha (i+1) y q (by simpa using c) (by simpa using b)⟩
theorem vL.len{A:Nat->Prop}{a:List (PK α)}(h:vL w A xs a):xs.length=a.length:=h.at.1
theorem SH.frzI(i:Nat)(h:SH w0 w L)(hi:L[i]?=V (Ch.own S x cs)):SH w0 w (L.set i (Ch.grp (fun _=>False) S [ti x cs])):=
 h.say hi (fun g f d=>by
  obtain rfl:=List.mem_singleton.1 d;have a:qm.O w S x cs:=g;exact qm.mono (S':=fun b=>S b\/False) (x:=x) (cs:=cs) (qm.toR a) (fun b c=>.inl c)) (fun _ h=>h) (fun _ h=>h.elim)
end
end Go.Fw


namespace Go.Fw
open Go
def WH(x:gW .u8):Prop:=0<=x.val/\x.val<=255
theorem V1{P:Program}{t:TypeId}(c:P.underlying t=V (.int .u8))(b:P.cellsOf t=1):EC P t (FW (kd:=.u8)) WH:=
 ⟨b,fun h=>by
  obtain⟨n,rfl,_,a⟩:=DataW.trod_int c h;exact⟨⟨n⟩,Z,by simp only[Lit.wf,IntKind.min,IntKind.max,je] at a;simp[IntKind.bits,IntKind.signed] at a;unfold WH;simp only;omega⟩⟩
end Go.Fw


namespace Go.Fw
open Go
open Go.RowKit (Below)
section
variable{P:Program}{T:uV}{n:Nat}{Q:Exit->Act->World->Prop}{k:List It}{e:fy}{w0 w w':World}{L:List Ch}
end

section
variable{P:Program}{T:uV}{n:Nat}{e:fy}{w:World}
def b3(a0:Bool)(a1 a2 a:Int):Array Value:=#[.bool a0,.int .i64 a1,.int .i64 a2,.int .i64 a]
end
end Go.Fw


namespace Go.Fw
open Go
section
variable{P:Program}{T:uV}{n:Nat}{e:fy}{w:World}
theorem TH{x y:Operand}{t l d ty:Nat}{ps:String}{c:Array Edge}{g:Option (Nat×Bool)}{a b r:Int}(f:b≠0)(h:a.tmod b=r)
  (i:gg e x=V (.int .i64 a)) (k:gg e y=V (.int .i64 b)):KP P n e ⟨V d,.binOp .rem t x y l,ty,ps,c,g⟩ w (.int .i64 r):=h ▸ Z9 f i k
end
end Go.Fw


namespace Go.Fw
open Go
open Go.RowKit (Below)
section
variable{P:Program}{T:uV}{n:Nat}{Q:Exit->Act->World->Prop}{k:List It}{e:fy}{w0 w w':World}{L:List Ch}
variable{α β:Type}[qm α][qm β]{S Sr Se D:Nat->Prop}{xs ys:List α}{p p':Option Addr}{c c':Nat}{fs:List TS}{x:α}{cs:List Value}
end

section
variable{w0 w w':World}{L LL F:List Ch}{c:Ch}{fs:List TS}
theorem SH.frm1{α:Type}[qm α]{x:α}{cs:List Value}(h:SH w0 w (c::F))(a:qm.R w (Fr w0 F) x cs):SH w0 w [c,Ch.grp (Fw.old w0) (FS F) [ti x cs,same w0 w F]]:=
 (SH.frame [c] h).grpAdd 1 Z a
theorem SH.unfr(k j:Nat)(c:SH w0 w LL)(h:SH w0 w' L)(b:L.getLast?=V (Ch.grp (Fw.old w0) (FS (LL.drop k)) fs))(d:fs[j]?=V (same w0 w (LL.drop k))):SH w0 w' (L.dropLast++LL.drop k):=by
 refine SH.unframe (L0:=LL.take k) j (by rw[List.take_append_drop];exact c) _ ?_ d;have a:L≠[]:=fun e=>by rw[e] at b;cases b
 rw[List.getLast?_eq_some_getLast a] at b;have e:=List.dropLast_concat_getLast a;rw[Option.some.inj b] at e;rw[e];exact h
end
section
variable{P:Program}{n:Nat}{Q:Exit->Act->World->Prop}{k:List It}
theorem FN{ops:Array Oper}{st:List Nat}{C:World->Prop}{d:Nat}{b:Array Bool}{e:fy}{w:World}(J:fy->World->Prop)(c:Nat)(a:Array Bool)
  (g:∀e w,J e w->lA P n Q k ops st C c a e w) (f:(∀e w,J e w->lA P n Q k ops st C c a e w)->lA P n Q k ops st C d b e w):lA P n Q k ops st C d b e w:=f g
end

section
variable{P:Program}{T:uV}{n:Nat}{Q:Exit->Act->World->Prop}{k:List It}{e:fy}{w0 w wc:World}{L:List Ch}
variable{α:Type}[qm α]{S S1:Nat->Prop}{xs ys Y:List α}{x:α}{cs:List Value}{p p1 p':Option Addr}{c c1 c':Nat}
def Ch.pin(S:Nat->Prop)(wc:World):Ch where
 S:=S
 D _:=False
 P w:=∀b,S b->w.heap[b]?=wc.heap[b]?
 loc _ _ h _ hp:=fun b a=>(h b a).trans (hp b a)
theorem SH.pinB(i:Nat)(h:SH w0 w L)(hi:L[i]?=V (Ch.pin S wc)){b:Nat}(a:S b):w.heap[b]?=wc.heap[b]?:=(h.mem hi).1 b a
theorem SH.pinS(i:Nat)(h:SH w0 w L)(hi:L[i]?=V (Ch.pin S wc))(d:dn wc S xs p c):dn w (Fw.old w) xs p c:=
 (d.loc fun _ a=>h.pinB i hi a).mono fun b a=>((h.mem hi).2 b a).2
theorem Rd.sub{c:List (PK α)}(h:Rd w0 Y c){lo hi:Int}(k:wT Y lo hi=V ys):∃qs,wT c lo hi=V qs/\Rd w0 ys qs:=by
 obtain⟨d,f,g,rfl⟩:=ww k;refine⟨(c.take hi.toNat).drop lo.toNat,?_,?_,fun i x r a b=>?_⟩
 .unfold wT;rw[if_pos ⟨d,f,by rw[h.1];exact g⟩]
 .simp[h.1]
 .rw[Ja,jJ] at a b;split at a
  .rename_i hlt
   rw[if_pos hlt] at b;exact h.2 _ x r a b
  .cases a
def qal(w0:World)(A:Nat->Prop)(xs:List α)(a:List (PK α)):Prop:=a.length=xs.length/\∀(i:Nat) (x:α) (r:PK α),xs[i]?=V x->a[i]?=V r->qm.R w0 A x r.cs
variable{A:Nat->Prop}
theorem qal.app{g f:List (PK α)}(a:qal w0 A xs g)(d:qal w0 A ys f):qal w0 A (xs++ys) (g++f):=by
 refine⟨by simp[a.1,d.1],fun i x r c b=>?_⟩;by_cases hi:i<xs.length
 .rw[jA hi] at c;rw[jA (by rw[a.1];exact hi)] at b;exact a.2 i x r c b
 .rw[jD (by omega)] at c;rw[jD (by rw[a.1];omega),a.1] at b;exact d.2 _ x r c b
theorem qal.sub{c:List (PK α)}(h:qal w0 A Y c){lo hi:Int}(k:wT Y lo hi=V ys):∃qs,wT c lo hi=V qs/\qal w0 A ys qs:=by
 obtain⟨d,f,g,rfl⟩:=ww k;refine⟨(c.take hi.toNat).drop lo.toNat,?_,?_,fun i x r a b=>?_⟩
 .unfold wT;rw[if_pos ⟨d,f,by rw[h.1];exact g⟩]
 .simp[h.1]
 .rw[Ja,jJ] at a b;split at a
  .rename_i hlt
   rw[if_pos hlt] at b;exact h.2 _ x r a b
  .cases a
theorem qal.all{c:List (PK α)}(h:qal w0 A xs c)(f:Below w0.heap.size w0 w)(d:∀b,A b->Fw.old w0 b):vL w A xs c:=
 vL.of h.1.symm fun i x r k g=>qm.loc (h.2 i x r k g) fun b a=>f.block b (d b a)
end
section
variable{P:Program}{T:uV}{n:Nat}{Q:Exit->Act->World->Prop}{k:List It}{e:fy}{w0 w w00:World}{L:List Ch}{α β:Type}[qm α][qm β]{A0 B S:Nat->Prop}{x:α}{y:β}{cs ds:List Value}{ys:List β}{p:Option Addr}{c:Nat}
end
end Go.Fw


namespace Go.Fw
open Go Go.Sort
open Go.RowKit (Below)
section
variable{P:Program}{T:uV}{n:Nat}{Q:Exit->Act->World->Prop}{k:List It}{e:fy}{w0 w w':World}{L L':List Ch}
def MG(P:Program)(f:FuncId):Prop:=
 (∀(a cG cap:Nat) (zs:List Int) (w:World),Holds OT w a cG zs.toArray->zs.length<=9223372036854775807 ->
  Calls P f #[.slice (V ⟨a,cG,U⟩) zs.length cap] w fun e w'=>e=.returned (.tuple #[])/\∃n,w'=putRow OT (Go.Sort.ahead w n) a cG zs.reverse.toArray) /\
 ∀(p:Option Addr) (cap:Nat) (w:World),Calls P f #[.slice p 0 cap] w fun e w'=>e=.returned (.tuple #[])/\w'=w
def qdn(xs:List Int):Option (List Int):=V xs.reverse
theorem qdo{f:FuncId}(k:MG P f){S:Nat->Prop}{xs y:List Int}{p:Option Addr}{g c:Nat}(i:Nat)(h:SH w0 w L)(hi:L[i]?=V (Ch.own S xs [.slice p g c]))(r:qdn xs=V y) :
  XM P f [.slice p g c] w fun w'=>SH w0 w' (L.set i (Ch.own S y [.slice p g c])):=by
 obtain rfl:xs.reverse=y:=Option.some.inj r;cases p with
 |none=>
  obtain⟨rfl,rfl,rfl⟩:=qa2 h hi;refine(k.2 U 0 w).mono ?_;rintro e w' ⟨rfl,rfl⟩;refine⟨Z,?_⟩;rw[List.reverse_nil,QV hi];exact h
 |some a=>
  obtain⟨b,o,t⟩:=a;obtain rfl:=V3 h hi;obtain⟨rfl,rfl,s,d,n,l⟩:=I9 h hi;refine(k.1 b 0 c xs w l d).mono ?_;rintro e w' ⟨rfl,nd,rfl⟩;refine⟨Z,?_⟩;have:=qa3 h hi xs.reverse.toArray (by simp) (m:=xs.length) (by simp) nd #[];rw[grow_empty,List.toList_toArray,show xs.length=xs.reverse.length by simp,jG,List.length_reverse] at this;exact this
section
variable{α:Type}[qm α]
def ZW(P:Program)(f g:FuncId)(b:Nat):Prop:=
 (∀(enc:Nat->List Value) (_:∀x,(enc x).length=b) (_:∀x,∀v∈enc x,v.oneCell'=An) (c:Nat->Nat->Int) (_:SWO fun x y=>decide (c x y<0)) (i:Array Value) (a cG cap:Nat) (d:Array Nat) (w:World),
  (∀(m:Nat) (os:Array Obj) (h:Array Nat),h.size=d.size->∀x y:Nat,Calls P g (#[.agg (enc x).toArray,.agg (enc y).toArray]++i) (grow (putRow id (Go.Sort.ahead w m) a cG (flatK enc b h)) os) fun e w'=>
   e=.returned (.int .i64 (c x y))/\∃q os',w'=grow ((grow (putRow id (Go.Sort.ahead w m) a cG (flatK enc b h)) os).drewN q) os') ->
  Holds id w a cG (flatK enc b d)->a<w.heap.size->d.size<4611686018427387904 ->
  Calls P f #[.slice (V ⟨a,cG,U⟩) d.size cap,.func (.func g) #[] i] w fun e w'=>e=.returned (.tuple #[])/\∃d' n os,PermIn 0 d.size d d'/\SortedIn (fun x y=>decide (c x y<0)) 0 d.size d'/\w'=grow (putRow id (Go.Sort.ahead w n) a cG (flatK enc b d')) os) /\
 ∀(p:Option Addr) (cap:Nat) (k:Value) (w:World),Calls P f #[.slice p 0 cap,k] w fun e w'=>e=.returned (.tuple #[])/\w'=w
theorem R7(b:Below w.heap.size w w')(c:w.drawn<=w'.drawn):∃q os',w'=grow (w.drewN q) os':=by
 obtain⟨p,rfl⟩:=regrown_of_below b;have a:w.drawn<=p.d:=c;refine⟨p.d-w.drawn,p.os,?_⟩;have:redrawn w p.d=w.drewN (p.d-w.drawn):=by
  show { w with drawn:=p.d }={ w with drawn:=w.drawn+(p.d-w.drawn) };rw[Nat.add_sub_cancel' a]
 rw[this]
theorem GP{b:Nat}{d:Array Value}{m:Nat}{os:Array Obj}{a:Nat}(g:a<w.heap.size)(f:a≠b):(grow (putRow id (Go.Sort.ahead w m) b 0 d) os).heap[a]?=w.heap[a]?:=by
 have c:(grow (putRow id (Go.Sort.ahead w m) b 0 d) os).heap=w.heap.modify b (onCells (putCells id 0 d))++os:=rfl;rw[c,jE (by rw[Array.size_modify];exact g),Array.getElem?_modify,if_neg (fun h=>f h.symm)]
def LB(a:α->α->Int)(x y:α):Bool:=!decide (a y x<0)
theorem qbp{f g:FuncId}(hs:ZW P f g (qm.k α))(hag:qm.agg α=An){S:Nat->Prop}{xs:List α}{p:Option Addr}{ln c:Nat}(i:Nat)(h:SH w0 w L)(hi:L[i]?=V (Ch.own S xs [.slice p ln c]))(cb:List Value)(k:α->α->Int)
  (hO:SWO fun x y=>decide (k x y<0)) (hT:∀x y,x∈xs->y∈xs->¬ k x y<0->¬ k y x<0->x=y) (hl:xs.length<=2147483648)
  (hcap:∀w1,w.heap.size<=w1.heap.size->(∀b,b<w.heap.size->¬ S b->w1.heap[b]?=w.heap[b]?)->∀x y csx csy,x∈qm.zero::xs->y∈qm.zero::xs->qm.R w1 (Fw.old w1) x csx->qm.R w1 (Fw.old w1) y csy ->
   Calls P g ([qm.v α csx,qm.v α csy]++cb).toArray w1 fun e w'=>e=.returned (.int .i64 (k x y))/\Below w1.heap.size w1 w'/\w1.drawn<=w'.drawn) :
  XM P f [.slice p ln c,.func (.func g) #[] cb.toArray] w fun w'=>SH w0 w' (L.set i (Ch.own S (xs.mergeSort (LB k)) [.slice p ln c])):=by
 obtain⟨hp,hS⟩:=h.mem hi;obtain⟨p0,c0,he,h1,h2,h3⟩:=hp;simp only[List.cons.injEq,Value.slice.injEq,and_true] at he;obtain⟨rfl,rfl,rfl⟩:=he;rcases h3 with⟨rfl,rfl,rfl⟩|⟨b,cur,t,F,rfl,hSb,hg,hc,hF,hdj,hx⟩
 .refine(hs.2 U 0 _ w).mono ?_;rintro e w' ⟨rfl,rfl⟩;refine⟨Z,?_⟩;have e1:([]:List α).mergeSort (LB k)=[]:=by simp
  rw[e1,QV hi];exact h
 .obtain⟨rs,hrl,hr⟩:=qaT (p:=fun i x (r:List Value)=>qm.O w (F i) x r/\∀j v,r[j]?=V v->cur[i*qm.k α+j]?=V v) xs hx;have hbs:b<w.heap.size:=(hS b hSb).2;have a3:0<qm.k α:=qm.kpos
  let enc:Nat->List Value:=fun n=>(rs[n]?).getD (qm.zc α)
  let xf:Nat->α:=fun n=>(xs[n]?).getD qm.zero
  have hzc:(qm.zc α).length=qm.k α:=qm.len (qm.toR (qm.zO w (fun _=>False) (α:=α)));have K:∀n,n<xs.length->∃D:n<xs.length,∃M:n<rs.length,enc n=rs[n]/\xf n=xs[n]/\qm.O w (F n) xs[n] rs[n]/\∀j v,rs[n][j]?=V v->cur[n*qm.k α+j]?=V v:=fun n D=>by
   have M:n<rs.length:=by omega
   obtain⟨q1,q2⟩:=hr n xs[n] rs[n] (jj D) (jj M);exact⟨D,M,by simp[enc,M],by simp[xf,D],q1,q2⟩
  have u:∀n,¬ n<xs.length->enc n=qm.zc α/\xf n=qm.zero:=fun n D=>by
   have e1:rs[n]?=U:=List.getElem?_eq_none (by omega);have N:xs[n]?=U:=List.getElem?_eq_none (by omega);exact⟨by simp[enc,e1],by simp[xf,N]⟩
  have hk:∀n,(enc n).length=qm.k α:=fun n=>by
   by_cases D:n<xs.length
   .obtain⟨_,_,e1,_,J,_⟩:=K n D;rw[e1];exact qm.len (qm.toR J)
   .rw[(u n D).1,hzc]
  have hone:∀n,∀v∈enc n,v.oneCell'=An:=fun n=>by
   by_cases D:n<xs.length
   .obtain⟨_,_,e1,_,J,_⟩:=K n D;rw[e1];exact qm.one (qm.toR J)
   .rw[(u n D).1];exact qm.one (qm.toR (qm.zO w (fun _=>False) (α:=α)))
  have hmem:∀n,xf n∈qm.zero::xs:=fun n=>by
   by_cases D:n<xs.length
   .obtain⟨_,_,_,N,_⟩:=K n D;rw[N];exact jp _ (jo D)
   .rw[(u n D).2];exact ju ..
  have hswo:SWO fun x y=>decide (k (xf x) (xf y)<0):=⟨fun x=>hO.irrefl (xf x),fun x y z=>hO.trans (xf x) (xf y) (xf z),fun x y z=>hO.ntrans (xf x) (xf y) (xf z)⟩
  let d:Array Nat:=Array.range xs.length
  have s:d.size=xs.length:=by simp[d]
  have R:∀(B:Array Nat) (q j:Nat),q<B.size->j<qm.k α->(flatK enc (qm.k α) B)[q*qm.k α+j]?=(enc B[q]!)[j]?:=fun B q j A X=>by
   have a8:q*qm.k α+j<B.size*qm.k α:=by
    have:(q+1)*qm.k α<=B.size*qm.k α:=jt _ A;rw[Nat.add_mul,Nat.one_mul] at this;omega
   have hdiv:(q*qm.k α+j) / qm.k α=q:=by
    rw[Nat.mul_comm,Nat.mul_add_div a3,Nat.div_eq_of_lt X,Jl]
   have hmod:(q*qm.k α+j) % qm.k α=j:=by
    rw[Nat.mul_comm,Nat.mul_add_mod,Nat.mod_eq_of_lt X]
   have:=get_flatK enc (qm.k α) B (q*qm.k α+j) a8;rw[hdiv,hmod] at this;have Y:j<(enc B[q]!).length:=by rw[hk];exact X
   have a7:q*qm.k α+j<(flatK enc (qm.k α) B).size:=by rw[size_flatK];exact a8
   rw[jW a7,jj Y,<-getElem!_pos (flatK enc (qm.k α) B) _ a7,this,getElem!_pos (enc B[q]!) j Y]
  have hcs:∀q j,q<xs.length->j<qm.k α->cur[q*qm.k α+j]?=(enc q)[j]?:=fun q j A X=>by
   obtain⟨_,M,e1,_,_,hv⟩:=K q A;have Y:j<(rs[q]).length:=by rw[<-e1,hk];exact X
   rw[e1,jj Y];exact hv j _ (jj Y)
  have hH:Holds id w b 0 (flatK enc (qm.k α) d):=fun t ht=>by
   rw[size_flatK,s] at ht;have A:t / qm.k α<xs.length:=Nat.div_lt_of_lt_mul (by rw[Nat.mul_comm];exact ht);have X:t % qm.k α<qm.k α:=Nat.mod_lt _ a3;have ht':t / qm.k α*qm.k α+t % qm.k α=t:=by rw[Nat.mul_comm];exact Nat.div_add_mod t _
   have hd1:d[t / qm.k α]! = t / qm.k α:=by
    rw[getElem!_pos d _ (by rw[s];exact A)];simp[d]
   have e1:=hcs _ _ A X;have N:=R d _ _ (by rw[s];exact A) X;rw[ht',hd1] at N;rw[ht'] at e1;have hts:t<(flatK enc (qm.k α) d).size:=by rw[size_flatK,s];exact ht
   refine⟨?_,?_⟩
   .simp only[World.cell?,hg,Option.isSome_none,Jd,Bool.false_eq_true,if_false];rw[e1,<-N,jW hts,getElem!_pos (flatK enc (qm.k α) d) t hts]
    rfl
   .simp only[World.frozen?,hg];simp
  have hcmp:∀(m:Nat) (os:Array Obj) (B:Array Nat),B.size=d.size->∀x y:Nat,Calls P g (#[.agg (enc x).toArray,.agg (enc y).toArray]++cb.toArray) (grow (putRow id (Go.Sort.ahead w m) b 0 (flatK enc (qm.k α) B)) os) fun e w'=>
    e=.returned (.int .i64 (k (xf x) (xf y)))/\∃q os',w'=grow ((grow (putRow id (Go.Sort.ahead w m) b 0 (flatK enc (qm.k α) B)) os).drewN q) os':=by
   intro m os B _ x y;have a7:w.heap.size<=(grow (putRow id (Go.Sort.ahead w m) b 0 (flatK enc (qm.k α) B)) os).heap.size:=by
    show w.heap.size<=(w.heap.modify b _++os).size;simp
   have hRd:∀n,qm.R (grow (putRow id (Go.Sort.ahead w m) b 0 (flatK enc (qm.k α) B)) os) (Fw.old (grow (putRow id (Go.Sort.ahead w m) b 0 (flatK enc (qm.k α) B)) os)) (xf n) (enc n):=fun n=>by
    by_cases D:n<xs.length
    .obtain⟨_,_,e1,N,J,_⟩:=K n D;rw[e1,N];refine qm.mono (qm.loc (qm.toR J) fun a C=>GP ((hS a (hF n a C).1).2) (hF n a C).2) fun a C=>?_;exact jx ((hS a (hF n a C).1).2) a7
    .rw[(u n D).1,(u n D).2];exact qm.toR (qm.zO _ _)
   have:=hcap _ a7 (fun a C hna=>GP C (fun hab=>hna (hab ▸ hSb))) (xf x) (xf y) (enc x) (enc y) (hmem x) (hmem y) (hRd x) (hRd y);have ea:([qm.v α (enc x),qm.v α (enc y)]++cb).toArray=#[.agg (enc x).toArray,.agg (enc y).toArray]++cb.toArray:=by
    unfold qm.v qdN;rw[hag];simp
   rw[ea] at this;refine this.mono ?_;rintro e w' ⟨rfl,hb',hd'⟩;exact⟨Z,R7 hb' hd'⟩
  have Q:=hs.1 enc hk hone (fun x y=>k (xf x) (xf y)) hswo cb.toArray b 0 c d w hcmp hH hbs (by rw[s];omega);rw[s] at Q;refine Q.mono ?_;rintro e w' ⟨rfl,l,nd,os,hperm,a6,rfl⟩;refine⟨Z,?_⟩;obtain⟨H,_,a4⟩:=hperm;have ed:l.extract 0 xs.length=l:=by rw[<-s,<-H];exact Array.extract_size
  have ed0:d.extract 0 xs.length=d:=by rw[<-s];exact Array.extract_size
  rw[ed,ed0] at a4;have hdr:d.toList=List.range xs.length:=by simp[d]
  rw[hdr] at a4;have o:l.toList.length=xs.length:=by rw[Array.length_toList,H,s]
  have hnd:l.toList.Nodup:=a4.nodup_iff.2 List.nodup_range;have W:∀q,q<xs.length->l[q]!<xs.length/\l.toList[q]?=V l[q]!:=fun q A=>by
   have a5:q<l.size:=by rw[H,s];exact A
   have e1:l.toList[q]?=V l[q]!:=by rw[Array.getElem?_toList,jW a5,getElem!_pos l q a5]
   have:l[q]!∈List.range xs.length:=a4.mem_iff.1 (jB e1);exact⟨List.mem_range.1 this,e1⟩
  have hxs:(List.range xs.length).map xf=xs:=by
   apply List.ext_getElem?;intro q;rw[List.getElem?_map];by_cases A:q<xs.length
   .rw[List.getElem?_range A,jj A];simp[xf,A]
   .rw[List.getElem?_eq_none (by simp;omega),List.getElem?_eq_none (by omega)];rfl
  have hres:l.toList.map xf=xs.mergeSort (LB k):=by
   have hp2:(l.toList.map xf).Perm (xs.mergeSort (LB k)):=by
    have:=a4.map xf;rw[hxs] at this;exact this.trans (List.mergeSort_perm _ _).symm
   refine List.Perm.eq_of_pairwise (le:=fun x y=>LB k x y=An) ?_ ?_ ?_ hp2
   .intro x y hx' hy' O I;have mx:x∈xs:=(List.mergeSort_perm xs (LB k)).mem_iff.1 (hp2.mem_iff.1 hx');have my:y∈xs:=(List.mergeSort_perm xs (LB k)).mem_iff.1 hy';simp only[LB,jC,decide_eq_false_iff_not] at O I;exact hT x y mx my I O
   .rw[List.pairwise_iff_getElem];intro q r A hr hqr;have a5:q<xs.length:=by rw[jq,o] at A;exact A
    have hr':r<xs.length:=by rw[jq,o] at hr;exact hr
    have hs':=a6 q r (jR _) hqr hr';have e1:l.toList[q]'(by rw[o];exact a5)=l[q]!:=Option.some.inj ((jj _).symm.trans (W q a5).2);have N:l.toList[r]'(by rw[o];exact hr')=l[r]!:=Option.some.inj ((jj _).symm.trans (W r hr').2);rw[List.getElem_map,List.getElem_map,e1,N];simp only[LB,jC];exact hs'
   .refine List.pairwise_mergeSort ?_ ?_ _
    .intro a b' c' O I;simp only[LB,jC] at O I⊢;exact hO.ntrans c' b' a I O
    .intro a b';cases hh:decide (k b' a<0) with
     |false=>simp[LB,hh]
     |true=>
      have:decide (k a b'<0)=Cd:=by
       cases I:decide (k a b'<0) with
       |false=>rfl
       |true=>
        have:=hO.trans a b' a I hh;rw[hO.irrefl a] at this;cases this
      simp[LB,this]
  have T:(grow (putRow id (Go.Sort.ahead w nd) b 0 (flatK enc (qm.k α) l)) os).heap=w.heap.modify b (onCells (putCells id 0 (flatK enc (qm.k α) l)))++os:=rfl;have hgb:(grow (putRow id (Go.Sort.ahead w nd) b 0 (flatK enc (qm.k α) l)) os).heap[b]?=V (.cells (putCells id 0 (flatK enc (qm.k α) l) cur) t (0,0)):=by
   rw[T,jE (by rw[Array.size_modify];exact hbs),Array.getElem?_modify,if_pos Z,hg];rfl
  have hml:(xs.mergeSort (LB k)).length=xs.length:=List.length_mergeSort _;refine h.upd hi Z Z Z ?_ (fun a C hna=>GP C (fun hab=>hna (hab ▸ hSb))) ?_ (fun a C=>.inl C) (fun _ hd=>hd.elim)
  .rw[T];simp
  .rw[<-hres];refine⟨V ⟨b,0,U⟩,c,by rw[jq,o],by rw[jq,o];exact h1,h2,.inr ⟨b,_,t,fun q a=>q<xs.length/\F l[q]! a,Z,hSb,hgb,?_,fun q a C=>hF _ a C.2,?_,?_⟩⟩
   .unfold putCells;rw[Array.size_mapIdx];exact hc
   .rintro q r a hqr ⟨A,C⟩ ⟨hr,ha'⟩;refine hdj _ _ a (fun heq=>hqr ?_) C ha';refine(List.getElem?_inj (by rw[o];exact A) hnd).1 ?_;rw[(W q A).2,(W r hr).2,heq]
   .intro q x A;have a9:q<xs.length:=by
     have:=(List.getElem?_eq_some_iff.1 A).1;rw[jq,o] at this;exact this
    obtain⟨a8,e1⟩:=W q a9;rw[List.getElem?_map,e1] at A;obtain rfl:xf l[q]! = x:=by simpa using A
    obtain⟨_,M,N,e3,J,_⟩:=K _ a8;refine⟨enc l[q]!,?_,fun j v X=>?_⟩
    .rw[N,e3];exact qm.monoO (qm.locO J fun a C=>GP ((hS a (hF _ a C).1).2) (hF _ a C).2) fun a C=>⟨a9,C⟩
    .have hjk:j<qm.k α:=by
      have:=(List.getElem?_eq_some_iff.1 X).1;rw[hk] at this;exact this
     have hqc:q*qm.k α+j<cur.size:=by
      have:(q+1)*qm.k α<=c*qm.k α:=jt _ (by omega);rw[Nat.add_mul,Nat.one_mul] at this;omega
     have hqf:q*qm.k α+j<(flatK enc (qm.k α) l).size:=by
      rw[size_flatK,H,s];have:(q+1)*qm.k α<=xs.length*qm.k α:=jt _ a9;rw[Nat.add_mul,Nat.one_mul] at this;omega
     have ef:=R l q j (by rw[H,s];exact a9) hjk;unfold putCells;rw[Array.getElem?_mapIdx,jW hqc];simp only[Option.map_some,Nat.sub_zero,jR,Jd,true_and,if_pos hqf,Option.some.injEq];rw[X,jW hqf] at ef;rw[getElem!_pos (flatK enc (qm.k α) l) _ hqf];exact Option.some.inj ef
end
end
end Go.Fw


namespace Go.Fw
open Go
open Go.RowKit (Below)
section
variable{P:Program}{T:uV}{n:Nat}{Q:Exit->Act->World->Prop}{k:List It}{e:fy}{w0 w w':World}{L:List Ch}
def RJ(P:Program)(f:FuncId)(b:List Value)(w:World)(v:Value):Prop:=wX P f b w fun a w'=>a=[v]/\Below w.heap.size w w'/\w.drawn<=w'.drawn
theorem pN{f:FuncId}{a:Func}{c:Code}{b:List Value}{v:Value}{m:Nat}(g:P.funcs[f]?=V a)(d:a.body=V c)(i:a.ntmps=m)(k:Nat.ble b.length m=An)
  (h:SH w w []->w.drawn<=w.drawn->bu P m (bodyPost P a fun e w'=>∃us,e=.returned (vK us)/\(us=[v]/\Below w.heap.size w w'/\w.drawn<=w'.drawn)) [.code c] (po 0 b) w):RJ P f b w v:=
 cp g d i k (h (SH.start w) (jf _))
theorem pK{v:Value}(h:SH w0 w L)(d:w0.drawn<=w.drawn)(c:cv P T){b:Func}(f:vE T e w b.results.toList [v]) :
  bu P n (bodyPost P b fun e w'=>∃a,e=.returned (vK a)/\(a=[v]/\Below w0.heap.size w0 w'/\w0.drawn<=w'.drawn)) (.code .ret::k) e w:=
 bX (J:=fun a w'=>a=[v]/\Below w0.heap.size w0 w'/\w0.drawn<=w'.drawn) c [v] f ⟨Z,h.below,d⟩
theorem tT{v:Value}{all:Array Oper}{l:List Oper}{d ty:Nat}{ps:String}{t:Array Edge}{x:Operand}{a:Array Operand}{g:Array TypeId}{f:FuncId}{r p:Array Value}{o s:List Value}
  (h:SH w0 w L) (z:w0.drawn<=w.drawn) (c:kL P f) (y:RJ P f s w v) (C:gg e x=V (.func (.func f) r p)) (b:pk e a.toList=V o) (m:r.toList++o++p.toList=s) (B:Nat.blt d n=An)
  (A:∀w',SH w0 w' L->w0.drawn<=w'.drawn->bu P n Q (.ops all l::k) ((d,v)::e) w'):bu P n Q (.ops all (⟨V d,.call ⟨.value x,a,g⟩,ty,ps,t,U⟩::l)::k) e w:=by
 refine bA c y C b m B ?_;rintro w' D ⟨rfl,u,i⟩;exact A w' (h.ext u) (jX z i)
theorem SR{all:Array Oper}{l:List Oper}{d t ty:Nat}{ps:String}{c:Array Edge}{x:Operand}{v:Value}(h:SH w0 w L)(g:w0.drawn<=w.drawn)(o:gg e x=V v)(m:Nat.blt d n=An)
  (i:∀w' b,SH w0 w' (Ch.box b (bc v) t::L)->w0.drawn<=w'.drawn->bu P n Q (.ops all l::k) ((d,.pointer (V ⟨b,0,U⟩))::e) w'):bu P n Q (.ops all (⟨V d,.box t x,ty,ps,c,U⟩::l)::k) e w:=by
 refine CC Z Z m (fun a f=>?_) (i _ _ (h.alloc (bc v) t) g);simp only[execOp,f.eval o,Instr.box,newVar,newRow,jk,run_newObj,ji,jm];rw[<-iK]
 rfl
theorem W6{id:Nat}{ops:List Oper}(st:List Nat)(C:World->Prop)(g:P.follows .mixedOrders=An)(m:Nat)(c:ops.toArray.size=m)(b:Array Bool)(f:Array.replicate m Cd=b)
  (h:∀w',Below w.heap.size w w'->w.drawn<=w'.drawn->lA P n Q k ops.toArray st C m b e w'):bu P n Q (.code (.region id ops.toArray An)::k) e w:=by
 subst c;subst f;intro a d;refine wp_region_any g (FK (st:=st) (C:=C) _ _ _ _ ?_);exact h { w with drawn:=w.drawn+1 } ⟨Z,Z,Z,jf _,fun _ _=>rfl⟩ (Nat.le_succ _) a d
theorem QP(hT:cv P T){α:Type}[qm α][ee α]{all:Array Oper}{l:List Oper}{d t ty el len:Nat}{ps:String}{af:Array Edge}{g:Array (Nat×Operand)}{te m:TE}{zv:Value}(os:List Operand)(f:List Value)(ys:List α)
  (h:SH w0 w L) (H:w0.drawn<=w.drawn) (s:g.toList=(os.zipIdx 0).map fun x=>(x.2,x.1)) (Y:pk e os=V f) (C:len=f.length)
  (X:T.get t=V te) (hk:te.kind=.slice el) (I:T.get el=V m) (hz:m.zero=V zv) (D:m.size=qm.k α) (i:Nat.ble (f.length*m.size) 16777216=An)
  (u:AP w (Fw.old w) ys (f.map bc)) (hn:Nat.blt d n=An)
  (M:∀w' p S,SH w0 w' (Ch.own S ys [.slice p len len]::L)->w0.drawn<=w'.drawn->bu P n Q (.ops all l::k) ((d,.slice p len len)::e) w') :
  bu P n Q (.ops all (⟨V d,.buildSlice t len g,ty,ps,af,U⟩::l)::k) e w:=by
 have o:∀{ys:List α} {cs:List (List Value)},AP w (Fw.old w) ys cs->ys.length=cs.length/\∀c∈cs,c.length=qm.k α:=by
  intro ys
  induction ys with
  |nil=>intro cs u;cases cs with
   |nil=>simp
   |cons=>exact u.elim
  |cons y ys ih=>
   intro cs u;cases cs with
   |nil=>exact u.elim
   |cons c cs=>
    obtain⟨h1,h2⟩:=u;have:=ih h2;refine⟨by simp[this.1],fun d A=>?_⟩;rcases List.mem_cons.1 A with rfl|A
    .exact qm.len h1
    .exact this.2 d A
 obtain⟨N,O⟩:=o u;have F:∀v∈f,(bc v).length=m.size:=fun v hv=>by rw[D];exact O _ (List.mem_map.2 ⟨v,hv,Z⟩)
 have hr:=FD hT f X hk I hz (js i) F w;subst C;obtain⟨B,K⟩:=u.get;refine CC (v:=.slice (V ⟨w.heap.size,0,U⟩) f.length f.length) (w':=w.alloc (.cells (f.map bc).flatten.toArray el)) Z Z hn (fun a ha=>?_)
  (M _ _ (fun b=>b=w.heap.size) (h.add ((Below.refl _ _).alloc (jf _) _) ?_ ?_ (fun _ A=>A.elim)) H)
 .have J:g.map (fun(x:Nat×Operand)=>(x.1,a.eval x.2))=((f.zipIdx 0).map fun x=>(x.2,x.1)).toArray:=by
   apply Array.ext';rw[Array.toList_map,s];have:=uG ha Y;subst this;rw[List.zipIdx_map,List.map_map,List.map_map]
   rfl
  simp only[execOp,J,jk,hr,ji,jm]
 .have z:ys.length=f.length:=by simpa using N
  refine⟨V ⟨w.heap.size,0,U⟩,f.length,by rw[z],?_⟩;have W:f.length<=maxLen:=by
   have h1:=js i;have h2:f.length*1<=f.length*m.size:=Nat.mul_le_mul_left _ (by rw[D];exact qm.kpos);simp[maxLen];omega
  refine TW.of_elems (w:=w) (S':=Fw.old w) (olds:=(f.map bc).flatten) (by rw[z];exact jf _) W Z (heap_alloc_new w _) ?_ ⟨B,K⟩ (fun r v R=>by simpa using R);rw[jZ,B,z]
 .intro b hb;have:b=w.heap.size:=hb;subst this;exact⟨jf _,by simp⟩
end
end Go.Fw


namespace Go.Fw
abbrev O0:ByteArray:=⟨#[100]⟩
abbrev UG:ByteArray:=⟨#[102,97,115,116]⟩
abbrev qbH:ByteArray:=⟨#[110,97]⟩
abbrev qbI:ByteArray:=⟨#[110,98]⟩
abbrev UF:ByteArray:=⟨#[110,99,107]⟩
abbrev RO:ByteArray:=⟨#[113]⟩
abbrev AW:ByteArray:=⟨#[115,108,111,119]⟩
abbrev AX:ByteArray:=⟨#[116,121,112]⟩
abbrev E9:ByteArray:=⟨#[121]⟩
abbrev qb9:ByteArray:=⟨#[122]⟩
abbrev KQ:ByteArray:=⟨#[97]⟩
abbrev KR:ByteArray:=⟨#[98]⟩
abbrev AD:ByteArray:=⟨#[99,107]⟩
abbrev qca:ByteArray:=⟨#[99]⟩
abbrev qdD:List Value:=[vi 0,vi 0,vi 0,vi 0,.slice U 0 0,.slice U 0 0]
abbrev N9:List Value:=[vi 0,vi 0,vi 0,vi 0,vi 0]
abbrev RF:List Value:=[.slice U 0 0,.slice U 0 0,.slice U 0 0]
abbrev qcZ:List Value:=[.string ByteArray.empty,vi 0,.slice U 0 0,.slice U 0 0,.slice U 0 0,vi 0,vi 0]
abbrev qdY:List Value:=[.slice U 0 0,.slice U 0 0,.slice U 0 0,.slice U 0 0]
abbrev RG:List Value:=[.slice U 0 0,.slice U 0 0,.slice U 0 0,.slice U 0 0,.slice U 0 0]
abbrev MF:List Value:=[.string ByteArray.empty,vi 0,vi 0,vi 0,vi 0]
abbrev qdE:List Value:=[.slice U 0 0,.slice U 0 0,.slice U 0 0,.slice U 0 0,.slice U 0 0,.string ByteArray.empty,vi 0,vi 0,vi 0,vi 0,.slice U 0 0,.slice U 0 0]
open Go Go.Proofs Go.Proofs.Tryz
open Go.RowKit (Below)
open Ch renaming own->oW,box->oX,grp->oG
open qm renaming v->oV
open Go.Value renaming slice->oS
set_option maxRecDepth 100000
set_option maxHeartbeats 6400000
variable{n:Nat}{w:World}{S:Nat->Prop}{cs1 cs2 cs3 cs4 cs5 cs6 cs7 cs8 cs9:List Value}
structure bj where
 Bh:ByteArray
 Bx:Int
 Br:Int
 Bs:Bool
instance qaE:qm bj:=uk (aN vV (aN qT (aN qT tK))) (fun x=>(x.Bh,x.Bx,x.Br,x.Bs)) ⟨ByteArray.empty,0,0,Cd⟩ Z An (fun h=>by cases h)
instance qdz:ee bj:=rQ (aN vV (aN qT (aN qT tK))) (fun x:bj=>(x.Bh,x.Bx,x.Br,x.Bs)) ⟨ByteArray.empty,0,0,Cd⟩ Z An (fun h=>by cases h) (cT _ _ (inferInstanceAs (ee ByteArray)) (cT _ _ (inferInstanceAs (ee Int)) (cT _ _ (inferInstanceAs (ee Int)) (inferInstanceAs (ee Bool)))))
abbrev MJ(x:bj):List Value:=[.string x.Bh,vi x.Bx,vi x.Br,.bool x.Bs]
theorem mf{x:bj}{cs:List Value}(h:qm.R w S x cs):cs=(MJ x):=by
 obtain⟨_,_,rfl,rfl,⟨_,_,rfl,rfl,⟨_,_,rfl,rfl,rfl⟩⟩⟩:=h;exact Z
theorem yB(x:bj):qm.R w S x (MJ x):=have h:=pR (rT x.Bh) (pR (rI x.Bx) (pR (rI x.Br) (rB x.Bs)));h
structure aa where
 Bp:(List Int)
 Bm:(List Int)
 Bi:(List Int)
instance PW:qm aa:=uk (aN (@bw Int qT) (aN (@bw Int qT) (@bw Int qT))) (fun x=>(x.Bp,x.Bm,x.Bi)) ⟨[],[],[]⟩ Z An (fun h=>by cases h)
abbrev lC(x:aa)(p0 p1 p2:Option Addr)(k0 k1 k2:Nat):List Value:=[oS p0 (x.Bp).length k0,oS p1 (x.Bm).length k1,oS p2 (x.Bi).length k2]
theorem fk{x:aa}{cs:List Value}(h:qm.R w S x cs):∃d a p1 b f c,cs=(lC x d p1 f a b c)/\dn w S x.Bp d a/\dn w S x.Bm p1 b/\dn w S x.Bi f c:=by
 obtain⟨_,_,rfl,⟨d,a,rfl,s0⟩,⟨_,_,rfl,⟨p1,b,rfl,s1⟩,⟨f,c,rfl,s2⟩⟩⟩:=h;exact⟨d,a,p1,b,f,c,Z,s0,s1,s2⟩
theorem uF(x:aa){d p1 f:Option Addr}{a b c:Nat}(s0:dn w S x.Bp d a)(s1:dn w S x.Bm p1 b)(s2:dn w S x.Bi f c):qm.R w S x (lC x d p1 f a b c):=have h:=pR (rS s0) (pR (rS s1) (rS s2));h
theorem L3{w0:World}{L:List Ch}(x:aa){I0 I1 I2:List Nat}{a c1 b:List Value}(h:SH w0 w L)(c:PO w L I0 x.Bp a)(d:PO w L I1 x.Bm c1)(f:PO w L I2 x.Bi b)(b0:eU I0 (I1++I2)=An)(b1:eU I1 I2=An):PO w L (I0++(I1++I2)) x (a++(c1++b)):=
 (fp h c (fp h d f b1) b0)
structure bi where
 Bf:Int
 Bk:Int
 To:Int
 Bq:Int
 Bu:(List aa)
 Bb:(List aa)
instance qaD:qm bi:=uk (aN qT (aN qT (aN qT (aN qT (aN (@bw aa PW) (@bw aa PW)))))) (fun x=>(x.Bf,x.Bk,x.To,x.Bq,x.Bu,x.Bb)) ⟨0,0,0,0,[],[]⟩ Z An (fun h=>by cases h)
abbrev kq(x:bi)(p0 p1:Option Addr)(k0 k1:Nat):List Value:=[vi x.Bf,vi x.Bk,vi x.To,vi x.Bq,oS p0 (x.Bu).length k0,oS p1 (x.Bb).length k1]
theorem bq{x:bi}{cs:List Value}(h:qm.R w S x cs):∃c a p1 b,cs=(kq x c p1 a b)/\dn w S x.Bu c a/\dn w S x.Bb p1 b:=by
 obtain⟨_,_,rfl,rfl,⟨_,_,rfl,rfl,⟨_,_,rfl,rfl,⟨_,_,rfl,rfl,⟨_,_,rfl,⟨c,a,rfl,s0⟩,⟨p1,b,rfl,s1⟩⟩⟩⟩⟩⟩:=h;exact⟨c,a,p1,b,Z,s0,s1⟩
theorem tN(x:bi){c p1:Option Addr}{a b:Nat}(s0:dn w S x.Bu c a)(s1:dn w S x.Bb p1 b):qm.R w S x (kq x c p1 a b):=have h:=pR (rI x.Bf) (pR (rI x.Bk) (pR (rI x.To) (pR (rI x.Bq) (pR (rS s0) (rS s1)))));h
theorem C6{w0:World}{L:List Ch}(x:bi){I0 I1 I2 I3 I4 I5:List Nat}{a c1 b c d f:List Value}(h:SH w0 w L)(i:PO w L I0 x.Bf a)(k:PO w L I1 x.Bk c1)(l:PO w L I2 x.To b)(m:PO w L I3 x.Bq c)(n:PO w L I4 x.Bu d)(o:PO w L I5 x.Bb f)(b0:eU I0 (I1++(I2++(I3++(I4++I5))))=An)(b1:eU I1 (I2++(I3++(I4++I5)))=An)(b2:eU I2 (I3++(I4++I5))=An)(b3:eU I3 (I4++I5)=An)(g:eU I4 I5=An):PO w L (I0++(I1++(I2++(I3++(I4++I5))))) x (a++(c1++(b++(c++(d++f))))):=
 (fp h i (fp h k (fp h l (fp h m (fp h n o g) b3) b2) b1) b0)
structure qR where
 Bh:ByteArray
 Bf:Int
 Bg:(List bj)
 Az:(List bi)
 Bt:(List Int)
 Cc:Int
 Bz:Int
instance R8:qm qR:=uk (aN vV (aN qT (aN (@bw bj qaE) (aN (@bw bi qaD) (aN (@bw Int qT) (aN qT qT)))))) (fun x=>(x.Bh,x.Bf,x.Bg,x.Az,x.Bt,x.Cc,x.Bz)) ⟨ByteArray.empty,0,[],[],[],0,0⟩ Z An (fun h=>by cases h)
abbrev qO(x:qR)(p0 p1 p2:Option Addr)(k0 k1 k2:Nat):List Value:=[.string x.Bh,vi x.Bf,oS p0 (x.Bg).length k0,oS p1 (x.Az).length k1,oS p2 (x.Bt).length k2,vi x.Cc,vi x.Bz]
theorem aV{x:qR}{cs:List Value}(h:qm.R w S x cs):∃d a p1 b f c,cs=(qO x d p1 f a b c)/\dn w S x.Bg d a/\dn w S x.Az p1 b/\dn w S x.Bt f c:=by
 obtain⟨_,_,rfl,rfl,⟨_,_,rfl,rfl,⟨_,_,rfl,⟨d,a,rfl,s0⟩,⟨_,_,rfl,⟨p1,b,rfl,s1⟩,⟨_,_,rfl,⟨f,c,rfl,s2⟩,⟨_,_,rfl,rfl,rfl⟩⟩⟩⟩⟩⟩:=h;exact⟨d,a,p1,b,f,c,Z,s0,s1,s2⟩
theorem QG(x:qR){d p1 f:Option Addr}{a b c:Nat}(s0:dn w S x.Bg d a)(s1:dn w S x.Az p1 b)(s2:dn w S x.Bt f c):qm.R w S x (qO x d p1 f a b c):=have h:=pR (rT x.Bh) (pR (rI x.Bf) (pR (rS s0) (pR (rS s1) (pR (rS s2) (pR (rI x.Cc) (rI x.Bz))))));h
theorem NJ{w0:World}{L:List Ch}(x:qR){I0 I1 I2 I3 I4 I5 I6:List Nat}{a c1 b c d f g:List Value}(h:SH w0 w L)(l:PO w L I0 x.Bh a)(m:PO w L I1 x.Bf c1)(n:PO w L I2 x.Bg b)(o:PO w L I3 x.Az c)(p:PO w L I4 x.Bt d)(r:PO w L I5 x.Cc f)(s:PO w L I6 x.Bz g)(b0:eU I0 (I1++(I2++(I3++(I4++(I5++I6)))))=An)(b1:eU I1 (I2++(I3++(I4++(I5++I6))))=An)(b2:eU I2 (I3++(I4++(I5++I6)))=An)(b3:eU I3 (I4++(I5++I6))=An)(i:eU I4 (I5++I6)=An)(k:eU I5 I6=An):PO w L (I0++(I1++(I2++(I3++(I4++(I5++I6)))))) x (a++(c1++(b++(c++(d++(f++g)))))):=
 (fp h l (fp h m (fp h n (fp h o (fp h p (fp h r s k) i) b3) b2) b1) b0)
structure qB where
 Au:(List qR)
instance UW:qm qB:=uk (@bw qR R8) (fun x=>x.Au) ⟨[]⟩ Z An (fun h=>by cases h)
theorem gi{x:qB}{cs:List Value}(h:qm.R w S x cs):∃b a,cs=[oS b (x.Au).length a]/\dn w S x.Au b a:=by
 obtain⟨b,a,rfl,s0⟩:=h;exact⟨b,a,Z,s0⟩
theorem tO(x:qB){b:Option Addr}{a:Nat}(s0:dn w S x.Au b a):qm.R w S x [oS b (x.Au).length a]:=have h:=rS s0;h
theorem tQ{x:qB}{b:Option Addr}{l0 a:Nat}(h:qm.R w S x [oS b l0 a]):(dn w S x.Au b a/\l0=(x.Au).length):=by
 obtain⟨_,_,c,s0⟩:=gi h;cases c;exact⟨s0,Z⟩
theorem WC{w0:World}{L:List Ch}(x:qB){I0:List Nat}{a:List Value}(_:SH w0 w L)(b:PO w L I0 x.Au a):PO w L I0 x a:=
 b
structure qL where
 Bh:ByteArray
 Bv:Int
 Am:(List Int)
instance RW:qm qL:=uk (aN vV (aN qT (@bw Int qT))) (fun x=>(x.Bh,x.Bv,x.Am)) ⟨ByteArray.empty,0,[]⟩ Z An (fun h=>by cases h)
abbrev uX(x:qL)(p0:Option Addr)(k0:Nat):List Value:=[.string x.Bh,vi x.Bv,oS p0 (x.Am).length k0]
theorem bD{x:qL}{cs:List Value}(h:qm.R w S x cs):∃b a,cs=(uX x b a)/\dn w S x.Am b a:=by
 obtain⟨_,_,rfl,rfl,⟨_,_,rfl,rfl,⟨b,a,rfl,s0⟩⟩⟩:=h;exact⟨b,a,Z,s0⟩
theorem EH(x:qL){b:Option Addr}{a:Nat}(s0:dn w S x.Am b a):qm.R w S x (uX x b a):=have h:=pR (rT x.Bh) (pR (rI x.Bv) (rS s0));h
theorem LP{w0:World}{L:List Ch}{x:qL}{d:Option Addr}{l0 a:Nat}(h:SH w0 w (oW S x [.string x.Bh,vi x.Bv,oS d l0 a]::L)):∃f,SH w0 w (oW f x.Am [oS d l0 a]::L):=by
 obtain⟨k,i⟩:=h.headV;replace i:qm.O w S x _:=i;obtain⟨_,_,_,_,l,g,i,_,b0⟩:=i;obtain rfl:=g;cases l;replace k:=k.less b0;obtain⟨_,B1,_,_,l,o1,i,_,b1⟩:=i;obtain rfl:=o1;cases l;replace k:=k.less b1;obtain⟨q,m,l,s0⟩:=i;cases l;replace k:=k.push (c:=oW B1 x.Am [_]) (S2:=(fun _=>False)) ⟨_,_,Z,s0⟩ (fun _ o=>o.elim) (fun b n=>⟨n,fun h=>h⟩) (fun _ h=>h.elim);exact⟨B1,k.sh⟩
theorem GM{w0:World}{L:List Ch}(x:qL){I0 I1 I2:List Nat}{a c1 b:List Value}(h:SH w0 w L)(c:PO w L I0 x.Bh a)(d:PO w L I1 x.Bv c1)(f:PO w L I2 x.Am b)(b0:eU I0 (I1++I2)=An)(b1:eU I1 I2=An):PO w L (I0++(I1++I2)) x (a++(c1++b)):=
 (fp h c (fp h d f b1) b0)
structure bk where
 Bh:ByteArray
 Bx:Int
 Cb:Int
instance R9:qm bk:=uk (aN vV (aN qT qT)) (fun x=>(x.Bh,x.Bx,x.Cb)) ⟨ByteArray.empty,0,0⟩ Z An (fun h=>by cases h)
instance qdb:ee bk:=rQ (aN vV (aN qT qT)) (fun x:bk=>(x.Bh,x.Bx,x.Cb)) ⟨ByteArray.empty,0,0⟩ Z An (fun h=>by cases h) (cT _ _ (inferInstanceAs (ee ByteArray)) (cT _ _ (inferInstanceAs (ee Int)) (inferInstanceAs (ee Int))))
abbrev RP(x:bk):List Value:=[.string x.Bh,vi x.Bx,vi x.Cb]
theorem lH{x:bk}{cs:List Value}(h:qm.R w S x cs):cs=(RP x):=by
 obtain⟨_,_,rfl,rfl,⟨_,_,rfl,rfl,rfl⟩⟩:=h;exact Z
theorem uE(x:bk):qm.R w S x (RP x):=have h:=pR (rT x.Bh) (pR (rI x.Bx) (rI x.Cb));h
structure qk where
 Ab:(List qL)
 Am:(List ByteArray)
 Ai:(List bk)
instance YH:qm qk:=uk (aN (@bw qL RW) (aN (@bw ByteArray vV) (@bw bk R9))) (fun x=>(x.Ab,x.Am,x.Ai)) ⟨[],[],[]⟩ Z An (fun h=>by cases h)
abbrev ba(x:qk)(p0 p1 p2:Option Addr)(k0 k1 k2:Nat):List Value:=[oS p0 (x.Ab).length k0,oS p1 (x.Am).length k1,oS p2 (x.Ai).length k2]
theorem ce{x:qk}{cs:List Value}(h:qm.R w S x cs):∃d a p1 b f c,cs=(ba x d p1 f a b c)/\dn w S x.Ab d a/\dn w S x.Am p1 b/\dn w S x.Ai f c:=by
 obtain⟨_,_,rfl,⟨d,a,rfl,s0⟩,⟨_,_,rfl,⟨p1,b,rfl,s1⟩,⟨f,c,rfl,s2⟩⟩⟩:=h;exact⟨d,a,p1,b,f,c,Z,s0,s1,s2⟩
theorem cg(x:qk){d p1 f:Option Addr}{a b c:Nat}(s0:dn w S x.Ab d a)(s1:dn w S x.Am p1 b)(s2:dn w S x.Ai f c):qm.R w S x (ba x d p1 f a b c):=have h:=pR (rS s0) (pR (rS s1) (rS s2));h
theorem gN{x:qk}{d p1 f:Option Addr}{l0 a l1 b l2 c:Nat}(h:qm.R w S x [oS d l0 a,oS p1 l1 b,oS f l2 c]):(dn w S x.Ab d a/\l0=(x.Ab).length)/\(dn w S x.Am p1 b/\l1=(x.Am).length)/\(dn w S x.Ai f c/\l2=(x.Ai).length):=by
 obtain⟨_,_,_,_,_,_,g,s0,s1,s2⟩:=ce h;cases g;exact⟨⟨s0,Z⟩,⟨s1,Z⟩,⟨s2,Z⟩⟩
theorem PH{w0:World}{L:List Ch}{x:qk}{g p1 i:Option Addr}{l0 a l1 d l2 f:Nat}(h:SH w0 w (oW S x [oS g l0 a,oS p1 l1 d,oS i l2 f]::L)):∃k S1 S2,SH w0 w (oW S2 x.Ai [oS i l2 f]::oW S1 x.Am [oS p1 l1 d]::oW k x.Ab [oS g l0 a]::L):=by
 obtain⟨o,n⟩:=h.headV;replace n:qm.O w S x _:=n;obtain⟨A0,B0,_,_,r,l,n,a0,b0⟩:=n;obtain⟨q,m,rfl,s0⟩:=l;cases r;replace o:=o.push (c:=oW A0 x.Ab [_]) (S2:=B0) ⟨_,_,Z,s0⟩ (fun _ p=>p.elim) a0 b0;obtain⟨A1,B1,_,_,r,o1,n,a1,b1⟩:=n;obtain⟨q,m,rfl,s1⟩:=o1;cases r;replace o:=o.push (c:=oW A1 x.Am [_]) (S2:=B1) ⟨_,_,Z,s1⟩ (fun _ p=>p.elim) a1 b1;obtain⟨q,m,r,s2⟩:=n;cases r;replace o:=o.push (c:=oW B1 x.Ai [_]) (S2:=(fun _=>False)) ⟨_,_,Z,s2⟩ (fun _ p=>p.elim) (fun b s=>⟨s,fun h=>h⟩) (fun _ h=>h.elim);exact⟨A0,A1,B1,o.sh⟩
theorem NK{w0:World}{L:List Ch}(x:qk){I0 I1 I2:List Nat}{a c1 b:List Value}(h:SH w0 w L)(c:PO w L I0 x.Ab a)(d:PO w L I1 x.Am c1)(f:PO w L I2 x.Ai b)(b0:eU I0 (I1++I2)=An)(b1:eU I1 I2=An):PO w L (I0++(I1++I2)) x (a++(c1++b)):=
 (fp h c (fp h d f b1) b0)
structure aJ where
 Ak:(List Int)
 Bw:(List Int)
 Br:(List Int)
 Bj:(List Int)
instance T0:qm aJ:=uk (aN (@bw Int qT) (aN (@bw Int qT) (aN (@bw Int qT) (@bw Int qT)))) (fun x=>(x.Ak,x.Bw,x.Br,x.Bj)) ⟨[],[],[],[]⟩ Z An (fun h=>by cases h)
abbrev nW(x:aJ)(p0 p1 p2 p3:Option Addr)(k0 k1 k2 k3:Nat):List Value:=[oS p0 (x.Ak).length k0,oS p1 (x.Bw).length k1,oS p2 (x.Br).length k2,oS p3 (x.Bj).length k3]
theorem dz{x:aJ}{cs:List Value}(h:qm.R w S x cs):∃d a p1 b f c g k3,cs=(nW x d p1 f g a b c k3)/\dn w S x.Ak d a/\dn w S x.Bw p1 b/\dn w S x.Br f c/\dn w S x.Bj g k3:=by
 obtain⟨_,_,rfl,⟨d,a,rfl,s0⟩,⟨_,_,rfl,⟨p1,b,rfl,s1⟩,⟨_,_,rfl,⟨f,c,rfl,s2⟩,⟨g,k3,rfl,i⟩⟩⟩⟩:=h;exact⟨d,a,p1,b,f,c,g,k3,Z,s0,s1,s2,i⟩
theorem QH(x:aJ){d p1 f g:Option Addr}{a b c k3:Nat}(s0:dn w S x.Ak d a)(s1:dn w S x.Bw p1 b)(s2:dn w S x.Br f c)(i:dn w S x.Bj g k3):qm.R w S x (nW x d p1 f g a b c k3):=have h:=pR (rS s0) (pR (rS s1) (pR (rS s2) (rS i)));h
theorem vr{w0:World}{L:List Ch}{x:aJ}{i p1 k l:Option Addr}{l0 a l1 d l2 f g k3:Nat}(h:SH w0 w (oW S x [oS i l0 a,oS p1 l1 d,oS k l2 f,oS l g k3]::L)):∃n S1 S2 o,SH w0 w (oW o x.Bj [oS l g k3]::oW S2 x.Br [oS k l2 f]::oW S1 x.Bw [oS p1 l1 d]::oW n x.Ak [oS i l0 a]::L):=by
 obtain⟨t,s⟩:=h.headV;replace s:qm.O w S x _:=s;obtain⟨A0,B0,_,_,v,p,s,a0,b0⟩:=s;obtain⟨q,m,rfl,s0⟩:=p;cases v;replace t:=t.push (c:=oW A0 x.Ak [_]) (S2:=B0) ⟨_,_,Z,s0⟩ (fun _ u=>u.elim) a0 b0;obtain⟨A1,B1,_,_,v,o1,s,a1,b1⟩:=s;obtain⟨q,m,rfl,s1⟩:=o1;cases v;replace t:=t.push (c:=oW A1 x.Bw [_]) (S2:=B1) ⟨_,_,Z,s1⟩ (fun _ u=>u.elim) a1 b1;obtain⟨A2,B2,_,_,v,o2,s,a2,b2⟩:=s;obtain⟨q,m,rfl,s2⟩:=o2;cases v;replace t:=t.push (c:=oW A2 x.Br [_]) (S2:=B2) ⟨_,_,Z,s2⟩ (fun _ u=>u.elim) a2 b2;obtain⟨q,m,v,r⟩:=s;cases v;replace t:=t.push (c:=oW B2 x.Bj [_]) (S2:=(fun _=>False)) ⟨_,_,Z,r⟩ (fun _ u=>u.elim) (fun b y=>⟨y,fun h=>h⟩) (fun _ h=>h.elim);exact⟨A0,A1,A2,B2,t.sh⟩
theorem yD{w0:World}{L:List Ch}(x:aJ){I0 I1 I2 I3:List Nat}{a c1 b c:List Value}(h:SH w0 w L)(d:PO w L I0 x.Ak a)(f:PO w L I1 x.Bw c1)(g:PO w L I2 x.Br b)(i:PO w L I3 x.Bj c)(b0:eU I0 (I1++(I2++I3))=An)(b1:eU I1 (I2++I3)=An)(b2:eU I2 I3=An):PO w L (I0++(I1++(I2++I3))) x (a++(c1++(b++c))):=
 (fp h d (fp h f (fp h g i b2) b1) b0)
structure qf where
 Ar:qB
 Aa:qk
 Ah:(List aJ)
instance PU:qm qf:=uk (aN UW (aN YH (@bw aJ T0))) (fun x=>(x.Ar,x.Aa,x.Ah)) ⟨(⟨[]⟩:qB),(⟨[],[],[]⟩:qk),[]⟩ Z An (fun h=>by cases h)
abbrev qN(x:qf)(p0 p1 p2 p3 p4:Option Addr)(k0 k1 k2 k3 k4:Nat):List Value:=[oS p0 (x.Ar.Au).length k0,oS p1 (x.Aa.Ab).length k1,oS p2 (x.Aa.Am).length k2,oS p3 (x.Aa.Ai).length k3,oS p4 (x.Ah).length k4]
theorem qW{x:qf}{cs:List Value}(h:qm.R w S x cs):∃f a p1 b g c i k3 k d,cs=(qN x f p1 g i k a b c k3 d)/\dn w S x.Ar.Au f a/\dn w S x.Aa.Ab p1 b/\dn w S x.Aa.Am g c/\dn w S x.Aa.Ai i k3/\dn w S x.Ah k d:=by
 obtain⟨_,_,rfl,⟨f,a,rfl,s0⟩,⟨_,_,rfl,⟨_,_,rfl,⟨p1,b,rfl,s1⟩,⟨_,_,rfl,⟨g,c,rfl,s2⟩,⟨i,k3,rfl,l⟩⟩⟩,⟨k,d,rfl,m⟩⟩⟩:=h;exact⟨f,a,p1,b,g,c,i,k3,k,d,Z,s0,s1,s2,l,m⟩
theorem sK(x:qf){f p1 g i k:Option Addr}{a b c k3 d:Nat}(s0:dn w S x.Ar.Au f a)(s1:dn w S x.Aa.Ab p1 b)(s2:dn w S x.Aa.Am g c)(l:dn w S x.Aa.Ai i k3)(m:dn w S x.Ah k d):qm.R w S x (qN x f p1 g i k a b c k3 d):=have h:=pR (tO x.Ar s0) (pR (cg x.Aa s1 s2 l) (rS m));h
theorem fN{x:qf}{i p1 k l m:Option Addr}{l0 a l1 b l2 c f k3 g d:Nat}(h:qm.R w S x [oS i l0 a,oS p1 l1 b,oS k l2 c,oS l f k3,oS m g d]):(dn w S x.Ar.Au i a/\l0=(x.Ar.Au).length)/\(dn w S x.Aa.Ab p1 b/\l1=(x.Aa.Ab).length)/\(dn w S x.Aa.Am k c/\l2=(x.Aa.Am).length)/\(dn w S x.Aa.Ai l k3/\f=(x.Aa.Ai).length)/\(dn w S x.Ah m d/\g=(x.Ah).length):=by
 obtain⟨_,_,_,_,_,_,_,_,_,_,p,s0,s1,s2,n,o⟩:=qW h;cases p;exact⟨⟨s0,Z⟩,⟨s1,Z⟩,⟨s2,Z⟩,⟨n,Z⟩,⟨o,Z⟩⟩
theorem sd{w0:World}{L:List Ch}{x:qf}{o p1 k l m:Option Addr}{l0 n l1 a l2 d g k3 i f:Nat}(h:SH w0 w (oW S x [oS o l0 n,oS p1 l1 a,oS k l2 d,oS l g k3,oS m i f]::L)):∃z S1 S2,SH w0 w (oW S2 x.Ah [oS m i f]::oW S1 x.Aa [oS p1 l1 a,oS k l2 d,oS l g k3]::oW z x.Ar [oS o l0 n]::L):=by
 obtain⟨B,A⟩:=h.headV;replace A:qm.O w S x _:=A;obtain⟨A0,B0,p,e0,s,y,A,a0,b0⟩:=A;have u:p.length=1:=qm.len (qm.toR y);obtain⟨rfl,rfl⟩:p=[oS o l0 n]/\e0=[oS p1 l1 a,oS k l2 d,oS l g k3,oS m i f]:=by
  have:=List.append_inj (show[oS o l0 n]++[oS p1 l1 a,oS k l2 d,oS l g k3,oS m i f]=p++e0 from s) (by rw[u];rfl);exact⟨this.1.symm,this.2.symm⟩
 replace B:=B.push (c:=oW A0 x.Ar [oS o l0 n]) (S2:=B0) y (fun _ C=>C.elim) a0 b0;obtain⟨A1,B1,r,e1,t,o1,A,a1,b1⟩:=A;have v:r.length=3:=qm.len (qm.toR o1);obtain⟨rfl,rfl⟩:r=[oS p1 l1 a,oS k l2 d,oS l g k3]/\e1=[oS m i f]:=by
  have:=List.append_inj (show[oS p1 l1 a,oS k l2 d,oS l g k3]++[oS m i f]=r++e1 from t) (by rw[v];rfl);exact⟨this.1.symm,this.2.symm⟩
 replace B:=B.push (c:=oW A1 x.Aa [oS p1 l1 a,oS k l2 d,oS l g k3]) (S2:=B1) o1 (fun _ C=>C.elim) a1 b1;replace B:=B.push (c:=oW B1 x.Ah [oS m i f]) (S2:=(fun _=>False)) A (fun _ C=>C.elim) (fun b D=>⟨D,fun h=>h⟩) (fun _ h=>h.elim);exact⟨A0,A1,B1,B.sh⟩
theorem K9{w0:World}{L:List Ch}(x:qf){I0 I1 I2:List Nat}{a c1 b:List Value}(h:SH w0 w L)(c:PO w L I0 x.Ar a)(d:PO w L I1 x.Aa c1)(f:PO w L I2 x.Ah b)(b0:eU I0 (I1++I2)=An)(b1:eU I1 I2=An):PO w L (I0++(I1++I2)) x (a++(c1++b)):=
 (fp h c (fp h d f b1) b0)
structure qG where
 Bh:ByteArray
 Ba:Int
 Bd:Int
 Ay:Int
 Bc:Int
instance YG:qm qG:=uk (aN vV (aN qT (aN qT (aN qT qT)))) (fun x=>(x.Bh,x.Ba,x.Bd,x.Ay,x.Bc)) ⟨ByteArray.empty,0,0,0,0⟩ Z An (fun h=>by cases h)
instance qcj:ee qG:=rQ (aN vV (aN qT (aN qT (aN qT qT)))) (fun x:qG=>(x.Bh,x.Ba,x.Bd,x.Ay,x.Bc)) ⟨ByteArray.empty,0,0,0,0⟩ Z An (fun h=>by cases h) (cT _ _ (inferInstanceAs (ee ByteArray)) (cT _ _ (inferInstanceAs (ee Int)) (cT _ _ (inferInstanceAs (ee Int)) (cT _ _ (inferInstanceAs (ee Int)) (inferInstanceAs (ee Int))))))
abbrev bZ(x:qG):List Value:=[.string x.Bh,vi x.Ba,vi x.Bd,vi x.Ay,vi x.Bc]
theorem cQ{x:qG}{cs:List Value}(h:qm.R w S x cs):cs=(bZ x):=by
 obtain⟨_,_,rfl,rfl,⟨_,_,rfl,rfl,⟨_,_,rfl,rfl,⟨_,_,rfl,rfl,rfl⟩⟩⟩⟩:=h;exact Z
theorem mD(x:qG):qm.R w S x (bZ x):=have h:=pR (rT x.Bh) (pR (rI x.Ba) (pR (rI x.Bd) (pR (rI x.Ay) (rI x.Bc))));h
structure qg where
 As:Int
 Be:Int
instance ym:qm qg:=uk (aN qT qT) (fun x=>(x.As,x.Be)) ⟨0,0⟩ Z An (fun h=>by cases h)
instance qdc:ee qg:=rQ (aN qT qT) (fun x:qg=>(x.As,x.Be)) ⟨0,0⟩ Z An (fun h=>by cases h) (cT _ _ (inferInstanceAs (ee Int)) (inferInstanceAs (ee Int)))
abbrev oP(x:qg):List Value:=[vi x.As,vi x.Be]
theorem qA{x:qg}{cs:List Value}(h:qm.R w S x cs):cs=(oP x):=by
 obtain⟨_,_,rfl,rfl,rfl⟩:=h;exact Z
theorem qI(x:qg):qm.R w S x (oP x):=have h:=pR (rI x.As) (rI x.Be);h
structure ql where
 Bn:Int
 Af:qg
 Bb:qg
instance YI:qm ql:=uk (aN qT (aN ym ym)) (fun x=>(x.Bn,x.Af,x.Bb)) ⟨0,(⟨0,0⟩:qg),(⟨0,0⟩:qg)⟩ Z An (fun h=>by cases h)
instance qck:ee ql:=rQ (aN qT (aN ym ym)) (fun x:ql=>(x.Bn,x.Af,x.Bb)) ⟨0,(⟨0,0⟩:qg),(⟨0,0⟩:qg)⟩ Z An (fun h=>by cases h) (cT _ _ (inferInstanceAs (ee Int)) (cT _ _ (inferInstanceAs (ee qg)) (inferInstanceAs (ee qg))))
abbrev nk(x:ql):List Value:=[vi x.Bn,vi x.Af.As,vi x.Af.Be,vi x.Bb.As,vi x.Bb.Be]
theorem aB{x:ql}{cs:List Value}(h:qm.R w S x cs):cs=(nk x):=by
 obtain⟨_,_,rfl,rfl,⟨_,_,rfl,⟨_,_,rfl,rfl,rfl⟩,⟨_,_,rfl,rfl,rfl⟩⟩⟩:=h;exact Z
theorem dw(x:ql):qm.R w S x (nk x):=have h:=pR (rI x.Bn) (pR (qI x.Af) (qI x.Bb));h
structure bg where
 Ac:qf
 Aj:qG
 Av:(List Int)
 Ap:(List ql)
instance B5:qm bg:=uk (aN PU (aN YG (aN (@bw Int qT) (@bw ql YI)))) (fun x=>(x.Ac,x.Aj,x.Av,x.Ap)) ⟨(⟨(⟨[]⟩:qB),(⟨[],[],[]⟩:qk),[]⟩:qf),(⟨ByteArray.empty,0,0,0,0⟩:qG),[],[]⟩ Z An (fun h=>by cases h)
abbrev gl(x:bg)(p0 p1 p2 p3 p4 p5 p6:Option Addr)(k0 k1 k2 k3 k4 k5 k6:Nat):List Value:=[oS p0 (x.Ac.Ar.Au).length k0,oS p1 (x.Ac.Aa.Ab).length k1,oS p2 (x.Ac.Aa.Am).length k2,oS p3 (x.Ac.Aa.Ai).length k3,oS p4 (x.Ac.Ah).length k4,.string x.Aj.Bh,vi x.Aj.Ba,vi x.Aj.Bd,vi x.Aj.Ay,vi x.Aj.Bc,oS p5 (x.Av).length k5,oS p6 (x.Ap).length k6]
theorem dJ{x:bg}{cs:List Value}(h:qm.R w S x cs):∃i a p1 b k c l k3 m d n f o g,cs=(gl x i p1 k l m n o a b c k3 d f g)/\dn w S x.Ac.Ar.Au i a/\dn w S x.Ac.Aa.Ab p1 b/\dn w S x.Ac.Aa.Am k c/\dn w S x.Ac.Aa.Ai l k3/\dn w S x.Ac.Ah m d/\dn w S x.Av n f/\dn w S x.Ap o g:=by
 obtain⟨_,_,rfl,⟨_,_,rfl,⟨i,a,rfl,s0⟩,⟨_,_,rfl,⟨_,_,rfl,⟨p1,b,rfl,s1⟩,⟨_,_,rfl,⟨k,c,rfl,s2⟩,⟨l,k3,rfl,p⟩⟩⟩,⟨m,d,rfl,r⟩⟩⟩,⟨_,_,rfl,⟨_,_,rfl,rfl,⟨_,_,rfl,rfl,⟨_,_,rfl,rfl,⟨_,_,rfl,rfl,rfl⟩⟩⟩⟩,⟨_,_,rfl,⟨n,f,rfl,s⟩,⟨o,g,rfl,t⟩⟩⟩⟩:=h;exact⟨i,a,p1,b,k,c,l,k3,m,d,n,f,o,g,Z,s0,s1,s2,p,r,s,t⟩
theorem iV{x:bg}{m p1 n o p r s:Option Addr}{l0 a l1 b l2 c i k3 k d l5 f l g:Nat}(h:qm.R w S x [oS m l0 a,oS p1 l1 b,oS n l2 c,oS o i k3,oS p k d,.string x.Aj.Bh,vi x.Aj.Ba,vi x.Aj.Bd,vi x.Aj.Ay,vi x.Aj.Bc,oS r l5 f,oS s l g]):(dn w S x.Ac.Ar.Au m a/\l0=(x.Ac.Ar.Au).length)/\(dn w S x.Ac.Aa.Ab p1 b/\l1=(x.Ac.Aa.Ab).length)/\(dn w S x.Ac.Aa.Am n c/\l2=(x.Ac.Aa.Am).length)/\(dn w S x.Ac.Aa.Ai o k3/\i=(x.Ac.Aa.Ai).length)/\(dn w S x.Ac.Ah p d/\k=(x.Ac.Ah).length)/\(dn w S x.Av r f/\l5=(x.Av).length)/\(dn w S x.Ap s g/\l=(x.Ap).length):=by
 obtain⟨_,_,_,_,_,_,_,_,_,_,_,_,_,_,z,s0,s1,s2,t,u,v,y⟩:=dJ h;cases z;exact⟨⟨s0,Z⟩,⟨s1,Z⟩,⟨s2,Z⟩,⟨t,Z⟩,⟨u,Z⟩,⟨v,Z⟩,⟨y,Z⟩⟩
structure qK where
 Bo:Int
 Bl:(List Int)
 Af:Int
instance qdd:qm qK:=uk (aN qT (aN (@bw Int qT) qT)) (fun x=>(x.Bo,x.Bl,x.Af)) ⟨0,[],0⟩ Z An (fun h=>by cases h)
abbrev xi(x:qK)(p0:Option Addr)(k0:Nat):List Value:=[vi x.Bo,oS p0 (x.Bl).length k0,vi x.Af]
theorem fb{x:qK}{cs:List Value}(h:qm.R w S x cs):∃b a,cs=(xi x b a)/\dn w S x.Bl b a:=by
 obtain⟨_,_,rfl,rfl,⟨_,_,rfl,⟨b,a,rfl,s0⟩,rfl⟩⟩:=h;exact⟨b,a,Z,s0⟩
theorem yF{x:qK}{b:Option Addr}{l0 a:Nat}(h:qm.R w S x [vi x.Bo,oS b l0 a,vi x.Af]):(dn w S x.Bl b a/\l0=(x.Bl).length):=by
 obtain⟨_,_,c,s0⟩:=fb h;cases c;exact⟨s0,Z⟩
theorem WQ{w0:World}{L:List Ch}{x:qK}{b:Option Addr}{l0 a:Nat}(h:SH w0 w (oW S x [vi x.Bo,oS b l0 a,vi x.Af]::L)):∃d,SH w0 w (oW d x.Bl [oS b l0 a]::L):=by
 obtain⟨i,g⟩:=h.headV;replace g:qm.O w S x _:=g;obtain⟨_,_,_,_,k,f,g,_,b0⟩:=g;obtain rfl:=f;cases k;replace i:=i.less b0;obtain⟨A1,B1,_,_,k,o1,g,a1,b1⟩:=g;obtain⟨q,m,rfl,s0⟩:=o1;cases k;replace i:=i.push (c:=oW A1 x.Bl [_]) (S2:=B1) ⟨_,_,Z,s0⟩ (fun _ l=>l.elim) a1 b1;exact⟨A1,i.sh⟩
theorem WD{w0:World}{L:List Ch}(x:qK){I0 I1 I2:List Nat}{a c1 b:List Value}(h:SH w0 w L)(c:PO w L I0 x.Bo a)(d:PO w L I1 x.Bl c1)(f:PO w L I2 x.Af b)(b0:eU I0 (I1++I2)=An)(b1:eU I1 I2=An):PO w L (I0++(I1++I2)) x (a++(c1++b)):=
 (fp h c (fp h d f b1) b0)
structure qn where
 Aq:(List Bool)
 Af:(List qg)
 Bb:(List qg)
instance MT:qm qn:=uk (aN (@bw Bool tK) (aN (@bw qg ym) (@bw qg ym))) (fun x=>(x.Aq,x.Af,x.Bb)) ⟨[],[],[]⟩ Z An (fun h=>by cases h)
abbrev bF(x:qn)(p0 p1 p2:Option Addr)(k0 k1 k2:Nat):List Value:=[oS p0 (x.Aq).length k0,oS p1 (x.Af).length k1,oS p2 (x.Bb).length k2]
theorem dX{x:qn}{cs:List Value}(h:qm.R w S x cs):∃d a p1 b f c,cs=(bF x d p1 f a b c)/\dn w S x.Aq d a/\dn w S x.Af p1 b/\dn w S x.Bb f c:=by
 obtain⟨_,_,rfl,⟨d,a,rfl,s0⟩,⟨_,_,rfl,⟨p1,b,rfl,s1⟩,⟨f,c,rfl,s2⟩⟩⟩:=h;exact⟨d,a,p1,b,f,c,Z,s0,s1,s2⟩
theorem KK(x:qn){d p1 f:Option Addr}{a b c:Nat}(s0:dn w S x.Aq d a)(s1:dn w S x.Af p1 b)(s2:dn w S x.Bb f c):qm.R w S x (bF x d p1 f a b c):=have h:=pR (rS s0) (pR (rS s1) (rS s2));h
theorem sZ{x:qn}{d p1 f:Option Addr}{l0 a l1 b l2 c:Nat}(h:qm.R w S x [oS d l0 a,oS p1 l1 b,oS f l2 c]):(dn w S x.Aq d a/\l0=(x.Aq).length)/\(dn w S x.Af p1 b/\l1=(x.Af).length)/\(dn w S x.Bb f c/\l2=(x.Bb).length):=by
 obtain⟨_,_,_,_,_,_,g,s0,s1,s2⟩:=dX h;cases g;exact⟨⟨s0,Z⟩,⟨s1,Z⟩,⟨s2,Z⟩⟩
theorem oM{w0:World}{L:List Ch}{x:qn}{g p1 i:Option Addr}{l0 a l1 d l2 f:Nat}(h:SH w0 w (oW S x [oS g l0 a,oS p1 l1 d,oS i l2 f]::L)):∃k S1 S2,SH w0 w (oW S2 x.Bb [oS i l2 f]::oW S1 x.Af [oS p1 l1 d]::oW k x.Aq [oS g l0 a]::L):=by
 obtain⟨o,n⟩:=h.headV;replace n:qm.O w S x _:=n;obtain⟨A0,B0,_,_,r,l,n,a0,b0⟩:=n;obtain⟨q,m,rfl,s0⟩:=l;cases r;replace o:=o.push (c:=oW A0 x.Aq [_]) (S2:=B0) ⟨_,_,Z,s0⟩ (fun _ p=>p.elim) a0 b0;obtain⟨A1,B1,_,_,r,o1,n,a1,b1⟩:=n;obtain⟨q,m,rfl,s1⟩:=o1;cases r;replace o:=o.push (c:=oW A1 x.Af [_]) (S2:=B1) ⟨_,_,Z,s1⟩ (fun _ p=>p.elim) a1 b1;obtain⟨q,m,r,s2⟩:=n;cases r;replace o:=o.push (c:=oW B1 x.Bb [_]) (S2:=(fun _=>False)) ⟨_,_,Z,s2⟩ (fun _ p=>p.elim) (fun b s=>⟨s,fun h=>h⟩) (fun _ h=>h.elim);exact⟨A0,A1,B1,o.sh⟩
theorem lI{w0:World}{L:List Ch}(x:qn){I0 I1 I2:List Nat}{a c1 b:List Value}(h:SH w0 w L)(c:PO w L I0 x.Aq a)(d:PO w L I1 x.Af c1)(f:PO w L I2 x.Bb b)(b0:eU I0 (I1++I2)=An)(b1:eU I1 I2=An):PO w L (I0++(I1++I2)) x (a++(c1++b)):=
 (fp h c (fp h d f b1) b0)
structure qb where
 code:(List (gW .u8))
 at_:Int
 seed:Int
instance qaf:qm qb:=uk (aN (@bw (gW .u8) (@FW .u8)) (aN qT qT)) (fun x=>(x.code,x.at_,x.seed)) ⟨[],0,0⟩ Z An (fun h=>by cases h)
abbrev ao(x:qb)(p0:Option Addr)(k0:Nat):List Value:=[oS p0 (x.code).length k0,vi x.at_,vi x.seed]
theorem LE{x:qb}{cs:List Value}(h:qm.R w S x cs):∃b a,cs=(ao x b a)/\dn w S x.code b a:=by
 obtain⟨_,_,rfl,⟨b,a,rfl,s0⟩,⟨_,_,rfl,rfl,rfl⟩⟩:=h;exact⟨b,a,Z,s0⟩
theorem BV(x:qb){b:Option Addr}{a:Nat}(s0:dn w S x.code b a):qm.R w S x (ao x b a):=have h:=pR (rS s0) (pR (rI x.at_) (rI x.seed));h
theorem qE{x:qb}{b:Option Addr}{l0 a:Nat}(h:qm.R w S x [oS b l0 a,vi x.at_,vi x.seed]):(dn w S x.code b a/\l0=(x.code).length):=by
 obtain⟨_,_,c,s0⟩:=LE h;cases c;exact⟨s0,Z⟩
structure aT where
 instance_:Int
 pin:Int
 net:Int
 drives:Bool
instance G2:qm aT:=uk (aN qT (aN qT (aN qT tK))) (fun x=>(x.instance_,x.pin,x.net,x.drives)) ⟨0,0,0,Cd⟩ Z An (fun h=>by cases h)
instance qc1:ee aT:=rQ (aN qT (aN qT (aN qT tK))) (fun x:aT=>(x.instance_,x.pin,x.net,x.drives)) ⟨0,0,0,Cd⟩ Z An (fun h=>by cases h) (cT _ _ (inferInstanceAs (ee Int)) (cT _ _ (inferInstanceAs (ee Int)) (cT _ _ (inferInstanceAs (ee Int)) (inferInstanceAs (ee Bool)))))
abbrev MK(x:aT):List Value:=[vi x.instance_,vi x.pin,vi x.net,.bool x.drives]
theorem pF{x:aT}{cs:List Value}(h:qm.R w S x cs):cs=(MK x):=by
 obtain⟨_,_,rfl,rfl,⟨_,_,rfl,rfl,⟨_,_,rfl,rfl,rfl⟩⟩⟩:=h;exact Z
theorem zt(x:aT):qm.R w S x (MK x):=have h:=pR (rI x.instance_) (pR (rI x.pin) (pR (rI x.net) (rB x.drives)));h
structure qw where
 Bk:Int
 To:Int
 Bf:Int
 Ca:Int
instance UX:qm qw:=uk (aN qT (aN qT (aN qT qT))) (fun x=>(x.Bk,x.To,x.Bf,x.Ca)) ⟨0,0,0,0⟩ Z An (fun h=>by cases h)
instance qda:ee qw:=rQ (aN qT (aN qT (aN qT qT))) (fun x:qw=>(x.Bk,x.To,x.Bf,x.Ca)) ⟨0,0,0,0⟩ Z An (fun h=>by cases h) (cT _ _ (inferInstanceAs (ee Int)) (cT _ _ (inferInstanceAs (ee Int)) (cT _ _ (inferInstanceAs (ee Int)) (inferInstanceAs (ee Int)))))
abbrev vM(x:qw):List Value:=[vi x.Bk,vi x.To,vi x.Bf,vi x.Ca]
theorem aA{x:qw}{cs:List Value}(h:qm.R w S x cs):cs=(vM x):=by
 obtain⟨_,_,rfl,rfl,⟨_,_,rfl,rfl,⟨_,_,rfl,rfl,rfl⟩⟩⟩:=h;exact Z
theorem fT(x:qw):qm.R w S x (vM x):=have h:=pR (rI x.Bk) (pR (rI x.To) (pR (rI x.Bf) (rI x.Ca)));h
structure cL where
 Ac:qf
 places:(List aT)
 links:(List qw)
 loads:(List Int)
 delays:(List (List Int))
 extras:(List Int)
instance T1:qm cL:=uk (aN PU (aN (@bw aT G2) (aN (@bw qw UX) (aN (@bw Int qT) (aN (@bw (List Int) (@bw Int qT)) (@bw Int qT)))))) (fun x=>(x.Ac,x.places,x.links,x.loads,x.delays,x.extras)) ⟨(⟨(⟨[]⟩:qB),(⟨[],[],[]⟩:qk),[]⟩:qf),[],[],[],[],[]⟩ Z An (fun h=>by cases h)
abbrev qau(x:cL)(p0 p1 p2 p3 p4 p5 p6 p7 p8 p9:Option Addr)(k0 k1 k2 k3 k4 k5 k6 k7 k8 k9:Nat):List Value:=[oS p0 (x.Ac.Ar.Au).length k0,oS p1 (x.Ac.Aa.Ab).length k1,oS p2 (x.Ac.Aa.Am).length k2,oS p3 (x.Ac.Aa.Ai).length k3,oS p4 (x.Ac.Ah).length k4,oS p5 (x.places).length k5,oS p6 (x.links).length k6,oS p7 (x.loads).length k7,oS p8 (x.delays).length k8,oS p9 (x.extras).length k9]
theorem cJ{x:cL}{cs:List Value}(h:qm.R w S x cs):∃m a p1 b n c o k3 p d r f s g t i u k v l,cs=(qau x m p1 n o p r s t u v a b c k3 d f g i k l)/\dn w S x.Ac.Ar.Au m a/\dn w S x.Ac.Aa.Ab p1 b/\dn w S x.Ac.Aa.Am n c/\dn w S x.Ac.Aa.Ai o k3/\dn w S x.Ac.Ah p d/\dn w S x.places r f/\dn w S x.links s g/\dn w S x.loads t i/\dn w S x.delays u k/\dn w S x.extras v l:=by
 obtain⟨_,_,rfl,⟨_,_,rfl,⟨m,a,rfl,s0⟩,⟨_,_,rfl,⟨_,_,rfl,⟨p1,b,rfl,s1⟩,⟨_,_,rfl,⟨n,c,rfl,s2⟩,⟨o,k3,rfl,y⟩⟩⟩,⟨p,d,rfl,z⟩⟩⟩,⟨_,_,rfl,⟨r,f,rfl,A⟩,⟨_,_,rfl,⟨s,g,rfl,B⟩,⟨_,_,rfl,⟨t,i,rfl,C⟩,⟨_,_,rfl,⟨u,k,rfl,D⟩,⟨v,l,rfl,F⟩⟩⟩⟩⟩⟩:=h;exact⟨m,a,p1,b,n,c,o,k3,p,d,r,f,s,g,t,i,u,k,v,l,Z,s0,s1,s2,y,z,A,B,C,D,F⟩
structure aS where
 view:(Option cL)
 live:(List Bool)
instance G1:qm aS:=uk (aN (@B9 cL T1) (@bw Bool tK)) (fun x=>(x.view,x.live)) ⟨U,[]⟩ Z An (fun h=>by cases h)
abbrev Q0(x:aS)(p0 p1:Option Addr)(k1:Nat):List Value:=[.pointer p0,oS p1 (x.live).length k1]
theorem fo{x:aS}{cs:List Value}(h:qm.R w S x cs):∃b p1 a,cs=(Q0 x b p1 a)/\ms w S x.view b/\dn w S x.live p1 a:=by
 obtain⟨_,_,rfl,c,⟨p1,a,rfl,s1⟩⟩:=h;obtain⟨b,rfl,s0⟩:=aM c;exact⟨b,p1,a,Z,s0,s1⟩
structure aY where
 graph:(Option aS)
 job:bg
 timing:qn
 order:(List Int)
instance qde:qm aY:=uk (aN (@B9 aS G1) (aN B5 (aN MT (@bw Int qT)))) (fun x=>(x.graph,x.job,x.timing,x.order)) ⟨U,(⟨(⟨(⟨[]⟩:qB),(⟨[],[],[]⟩:qk),[]⟩:qf),(⟨ByteArray.empty,0,0,0,0⟩:qG),[],[]⟩:bg),(⟨[],[],[]⟩:qn),[]⟩ Z An (fun h=>by cases h)
abbrev qav(x:aY)(p0 p1 p2 p3 p4 p5 p6 p7 p8 p9 p10 p11:Option Addr)(k1 k2 k3 k4 k5 k6 k7 k8 k9 k10 k11:Nat):List Value:=[.pointer p0,oS p1 (x.job.Ac.Ar.Au).length k1,oS p2 (x.job.Ac.Aa.Ab).length k2,oS p3 (x.job.Ac.Aa.Am).length k3,oS p4 (x.job.Ac.Aa.Ai).length k4,oS p5 (x.job.Ac.Ah).length k5,.string x.job.Aj.Bh,vi x.job.Aj.Ba,vi x.job.Aj.Bd,vi x.job.Aj.Ay,vi x.job.Aj.Bc,oS p6 (x.job.Av).length k6,oS p7 (x.job.Ap).length k7,oS p8 (x.timing.Aq).length k8,oS p9 (x.timing.Af).length k9,oS p10 (x.timing.Bb).length k10,oS p11 (x.order).length k11]
theorem sM{x:aY}{cs:List Value}(h:qm.R w S x cs):∃p p1 f r g s k3 t i u k v l y m z n A o c a d b,cs=(qav x p p1 r s t u v y z A c d f g k3 i k l m n o a b)/\ms w S x.graph p/\dn w S x.job.Ac.Ar.Au p1 f/\dn w S x.job.Ac.Aa.Ab r g/\dn w S x.job.Ac.Aa.Am s k3/\dn w S x.job.Ac.Aa.Ai t i/\dn w S x.job.Ac.Ah u k/\dn w S x.job.Av v l/\dn w S x.job.Ap y m/\dn w S x.timing.Aq z n/\dn w S x.timing.Af A o/\dn w S x.timing.Bb c a/\dn w S x.order d b:=by
 obtain⟨_,_,rfl,M,⟨_,_,rfl,⟨_,_,rfl,⟨_,_,rfl,⟨p1,f,rfl,s1⟩,⟨_,_,rfl,⟨_,_,rfl,⟨r,g,rfl,s2⟩,⟨_,_,rfl,⟨s,k3,rfl,D⟩,⟨t,i,rfl,F⟩⟩⟩,⟨u,k,rfl,H⟩⟩⟩,⟨_,_,rfl,⟨_,_,rfl,rfl,⟨_,_,rfl,rfl,⟨_,_,rfl,rfl,⟨_,_,rfl,rfl,rfl⟩⟩⟩⟩,⟨_,_,rfl,⟨v,l,rfl,I⟩,⟨y,m,rfl,J⟩⟩⟩⟩,⟨_,_,rfl,⟨_,_,rfl,⟨z,n,rfl,K⟩,⟨_,_,rfl,⟨A,o,rfl,L⟩,⟨c,a,rfl,B⟩⟩⟩,⟨d,b,rfl,C⟩⟩⟩⟩:=h;obtain⟨p,rfl,s0⟩:=aM M;exact⟨p,p1,f,r,g,s,k3,t,i,u,k,v,l,y,m,z,n,A,o,c,a,d,b,Z,s0,s1,s2,D,F,H,I,J,K,L,B,C⟩
structure bC where
 j:bg
 links:(List qw)
 live:(List Bool)
 t:qn
instance qbO:qm bC:=uk (aN B5 (aN (@bw qw UX) (aN (@bw Bool tK) MT))) (fun x=>(x.j,x.links,x.live,x.t)) ⟨(⟨(⟨(⟨[]⟩:qB),(⟨[],[],[]⟩:qk),[]⟩:qf),(⟨ByteArray.empty,0,0,0,0⟩:qG),[],[]⟩:bg),[],[],(⟨[],[],[]⟩:qn)⟩ Z An (fun h=>by cases h)
abbrev XU(x:bC)(p0 p1 p2 p3 p4 p5 p6 p7 p8 p9 p10 p11:Option Addr)(k0 k1 k2 k3 k4 k5 k6 k7 k8 k9 k10 k11:Nat):List Value:=[oS p0 (x.j.Ac.Ar.Au).length k0,oS p1 (x.j.Ac.Aa.Ab).length k1,oS p2 (x.j.Ac.Aa.Am).length k2,oS p3 (x.j.Ac.Aa.Ai).length k3,oS p4 (x.j.Ac.Ah).length k4,.string x.j.Aj.Bh,vi x.j.Aj.Ba,vi x.j.Aj.Bd,vi x.j.Aj.Ay,vi x.j.Aj.Bc,oS p5 (x.j.Av).length k5,oS p6 (x.j.Ap).length k6,oS p7 (x.links).length k7,oS p8 (x.live).length k8,oS p9 (x.t.Aq).length k9,oS p10 (x.t.Af).length k10,oS p11 (x.t.Bb).length k11]
theorem EI{x:bC}{cs:List Value}(h:qm.R w S x cs):∃r f p1 g s i t k3 u k v l y m z n A o B p c a d b,cs=(XU x r p1 s t u v y z A B c d f g i k3 k l m n o p a b)/\dn w S x.j.Ac.Ar.Au r f/\dn w S x.j.Ac.Aa.Ab p1 g/\dn w S x.j.Ac.Aa.Am s i/\dn w S x.j.Ac.Aa.Ai t k3/\dn w S x.j.Ac.Ah u k/\dn w S x.j.Av v l/\dn w S x.j.Ap y m/\dn w S x.links z n/\dn w S x.live A o/\dn w S x.t.Aq B p/\dn w S x.t.Af c a/\dn w S x.t.Bb d b:=by
 obtain⟨_,_,rfl,⟨_,_,rfl,⟨_,_,rfl,⟨r,f,rfl,s0⟩,⟨_,_,rfl,⟨_,_,rfl,⟨p1,g,rfl,s1⟩,⟨_,_,rfl,⟨s,i,rfl,s2⟩,⟨t,k3,rfl,F⟩⟩⟩,⟨u,k,rfl,H⟩⟩⟩,⟨_,_,rfl,⟨_,_,rfl,rfl,⟨_,_,rfl,rfl,⟨_,_,rfl,rfl,⟨_,_,rfl,rfl,rfl⟩⟩⟩⟩,⟨_,_,rfl,⟨v,l,rfl,I⟩,⟨y,m,rfl,J⟩⟩⟩⟩,⟨_,_,rfl,⟨z,n,rfl,K⟩,⟨_,_,rfl,⟨A,o,rfl,L⟩,⟨_,_,rfl,⟨B,p,rfl,M⟩,⟨_,_,rfl,⟨c,a,rfl,C⟩,⟨d,b,rfl,D⟩⟩⟩⟩⟩⟩:=h;exact⟨r,f,p1,g,s,i,t,k3,u,k,v,l,y,m,z,n,A,o,B,p,c,a,d,b,Z,s0,s1,s2,F,H,I,J,K,L,M,C,D⟩
structure qU where
 instance_:Int
 pin:Int
 net:Int
 drives:Bool
instance qaF:qm qU:=uk (aN qT (aN qT (aN qT tK))) (fun x=>(x.instance_,x.pin,x.net,x.drives)) ⟨0,0,0,Cd⟩ Z An (fun h=>by cases h)
instance qaB:ee qU:=rQ (aN qT (aN qT (aN qT tK))) (fun x:qU=>(x.instance_,x.pin,x.net,x.drives)) ⟨0,0,0,Cd⟩ Z An (fun h=>by cases h) (cT _ _ (inferInstanceAs (ee Int)) (cT _ _ (inferInstanceAs (ee Int)) (cT _ _ (inferInstanceAs (ee Int)) (inferInstanceAs (ee Bool)))))
abbrev xj(x:qU):List Value:=[vi x.instance_,vi x.pin,vi x.net,.bool x.drives]
theorem df{x:qU}{cs:List Value}(h:qm.R w S x cs):cs=(xj x):=by
 obtain⟨_,_,rfl,rfl,⟨_,_,rfl,rfl,⟨_,_,rfl,rfl,rfl⟩⟩⟩:=h;exact Z
theorem mP(x:qU):qm.R w S x (xj x):=have h:=pR (rI x.instance_) (pR (rI x.pin) (pR (rI x.net) (rB x.drives)));h
structure aj where
 e0:Int
 e1:Int
instance qcm:qm aj:=uk (aN qT qT) (fun x=>(x.e0,x.e1)) ⟨0,0⟩ Z An (fun h=>by cases h)
instance qci:ee aj:=rQ (aN qT qT) (fun x:aj=>(x.e0,x.e1)) ⟨0,0⟩ Z An (fun h=>by cases h) (cT _ _ (inferInstanceAs (ee Int)) (inferInstanceAs (ee Int)))
abbrev PN(x:aj):List Value:=[vi x.e0,vi x.e1]
theorem SL{x:aj}{cs:List Value}(h:qm.R w S x cs):cs=(PN x):=by
 obtain⟨_,_,rfl,rfl,rfl⟩:=h;exact Z
theorem gM(x:aj):qm.R w S x (PN x):=have h:=pR (rI x.e0) (rI x.e1);h
structure cx where
 index:Int
 part:Int
instance qcn:qm cx:=uk (aN qT qT) (fun x=>(x.index,x.part)) ⟨0,0⟩ Z An (fun h=>by cases h)
instance qcl:ee cx:=rQ (aN qT qT) (fun x:cx=>(x.index,x.part)) ⟨0,0⟩ Z An (fun h=>by cases h) (cT _ _ (inferInstanceAs (ee Int)) (inferInstanceAs (ee Int)))
abbrev HJ(x:cx):List Value:=[vi x.index,vi x.part]
theorem GI{x:cx}{cs:List Value}(h:qm.R w S x cs):cs=(HJ x):=by
 obtain⟨_,_,rfl,rfl,rfl⟩:=h;exact Z
theorem BW(x:cx):qm.R w S x (HJ x):=have h:=pR (rI x.index) (rI x.part);h
def rN:uV:=[ (2,⟨.int .i64,1,8,V (vi 0),[]⟩),(3,⟨.int .i64,1,8,V (vi 0),[]⟩),(4,⟨.bool,1,1,V (.bool Cd),[]⟩),(5,⟨.int .u8,1,1,V (.int .u8 0),[]⟩),(9,⟨.str,1,16,V (.string ByteArray.empty),[]⟩),(22,⟨.slice 5,1,24,V (.slice U 0 0),[]⟩),(24,⟨.slice 106,1,24,V (.slice U 0 0),[]⟩),(26,⟨.struct,1,24,V (.agg #[.slice U 0 0]),[(0,1,V Cd)]⟩),(27,⟨.slice 206,1,24,V (.slice U 0 0),[]⟩),(28,⟨.slice 9,1,24,V (.slice U 0 0),[]⟩),(29,⟨.slice 222,1,24,V (.slice U 0 0),[]⟩),(31,⟨.struct,3,72,V (.agg #[.slice U 0 0,.slice U 0 0,.slice U 0 0]),[(0,1,V Cd),(1,1,V Cd),(2,1,V Cd)]⟩),(32,⟨.slice 171,1,24,V (.slice U 0 0),[]⟩),(34,⟨.struct,5,120,V (.agg #[.slice U 0 0,.slice U 0 0,.slice U 0 0,.slice U 0 0,.slice U 0 0]),[(0,1,V An),(1,3,V An),(4,1,V Cd)]⟩),(36,⟨.struct,5,48,V (.agg #[.string ByteArray.empty,vi 0,vi 0,vi 0,vi 0]),[(0,1,V Cd),(1,1,V Cd),(2,1,V Cd),(3,1,V Cd),(4,1,V Cd)]⟩),(37,⟨.slice 2,1,24,V (.slice U 0 0),[]⟩),(38,⟨.slice 122,1,24,V (.slice U 0 0),[]⟩),(40,⟨.struct,12,216,V (.agg #[.slice U 0 0,.slice U 0 0,.slice U 0 0,.slice U 0 0,.slice U 0 0,.string ByteArray.empty,vi 0,vi 0,vi 0,vi 0,.slice U 0 0,.slice U 0 0]),[(0,5,V An),(5,5,V An),(10,1,V Cd),(11,1,V Cd)]⟩),(43,⟨.slice 56,1,24,V (.slice U 0 0),[]⟩),(48,⟨.slice 4,1,24,V (.slice U 0 0),[]⟩),(49,⟨.slice 59,1,24,V (.slice U 0 0),[]⟩),(51,⟨.struct,3,72,V (.agg #[.slice U 0 0,.slice U 0 0,.slice U 0 0]),[(0,1,V Cd),(1,1,V Cd),(2,1,V Cd)]⟩),(56,⟨.struct,3,40,V (.agg #[vi 0,.slice U 0 0,vi 0]),[(0,1,V Cd),(1,1,V Cd),(2,1,V Cd)]⟩),(59,⟨.struct,2,16,V (.agg #[vi 0,vi 0]),[(0,1,V Cd),(1,1,V Cd)]⟩),(70,⟨.ptr,1,8,V (.pointer U),[]⟩),(73,⟨.ptr,1,8,V (.pointer U),[]⟩),(88,⟨.ptr,1,8,V (.pointer U),[]⟩),(102,⟨.struct,17,320,V (.agg #[.pointer U,.slice U 0 0,.slice U 0 0,.slice U 0 0,.slice U 0 0,.slice U 0 0,.string ByteArray.empty,vi 0,vi 0,vi 0,vi 0,.slice U 0 0,.slice U 0 0,.slice U 0 0,.slice U 0 0,.slice U 0 0,.slice U 0 0]),[(0,1,V Cd),(1,12,V An),(13,3,V An),(16,1,V Cd)]⟩),(103,⟨.slice 304,1,24,V (.slice U 0 0),[]⟩),(104,⟨.slice 109,1,24,V (.slice U 0 0),[]⟩),(106,⟨.struct,7,112,V (.agg #[.string ByteArray.empty,vi 0,.slice U 0 0,.slice U 0 0,.slice U 0 0,vi 0,vi 0]),[(0,1,V Cd),(1,1,V Cd),(2,1,V Cd),(3,1,V Cd),(4,1,V Cd),(5,1,V Cd),(6,1,V Cd)]⟩),(107,⟨.slice 175,1,24,V (.slice U 0 0),[]⟩),(109,⟨.struct,6,80,V (.agg #[vi 0,vi 0,vi 0,vi 0,.slice U 0 0,.slice U 0 0]),[(0,1,V Cd),(1,1,V Cd),(2,1,V Cd),(3,1,V Cd),(4,1,V Cd),(5,1,V Cd)]⟩),(114,⟨.struct,3,40,V (.agg #[.slice U 0 0,vi 0,vi 0]),[(0,1,V Cd),(1,1,V Cd),(2,1,V Cd)]⟩),(118,⟨.ptr,1,8,V (.pointer U),[]⟩),(120,⟨.struct,2,32,V (.agg #[.pointer U,.slice U 0 0]),[(0,1,V Cd),(1,1,V Cd)]⟩),(122,⟨.struct,5,40,V (.agg #[vi 0,vi 0,vi 0,vi 0,vi 0]),[(0,1,V Cd),(1,2,V An),(3,2,V An)]⟩),(127,⟨.struct,4,32,V (.agg #[vi 0,vi 0,vi 0,vi 0]),[(0,1,V Cd),(1,1,V Cd),(2,1,V Cd),(3,1,V Cd)]⟩),(128,⟨.slice 181,1,24,V (.slice U 0 0),[]⟩),(129,⟨.slice 127,1,24,V (.slice U 0 0),[]⟩),(130,⟨.slice 37,1,24,V (.slice U 0 0),[]⟩),(132,⟨.struct,10,240,V (.agg #[.slice U 0 0,.slice U 0 0,.slice U 0 0,.slice U 0 0,.slice U 0 0,.slice U 0 0,.slice U 0 0,.slice U 0 0,.slice U 0 0,.slice U 0 0]),[(0,5,V An),(5,1,V Cd),(6,1,V Cd),(7,1,V Cd),(8,1,V Cd),(9,1,V Cd)]⟩),(133,⟨.other,1,8,V (.nilFunc),[]⟩),(144,⟨.struct,17,336,V (.agg #[.slice U 0 0,.slice U 0 0,.slice U 0 0,.slice U 0 0,.slice U 0 0,.string ByteArray.empty,vi 0,vi 0,vi 0,vi 0,.slice U 0 0,.slice U 0 0,.slice U 0 0,.slice U 0 0,.slice U 0 0,.slice U 0 0,.slice U 0 0]),[(0,12,V An),(12,1,V Cd),(13,1,V Cd),(14,3,V An)]⟩),(151,⟨.ptr,1,8,V (.pointer U),[]⟩),(171,⟨.struct,4,96,V (.agg #[.slice U 0 0,.slice U 0 0,.slice U 0 0,.slice U 0 0]),[(0,1,V Cd),(1,1,V Cd),(2,1,V Cd),(3,1,V Cd)]⟩),(175,⟨.struct,3,72,V (.agg #[.slice U 0 0,.slice U 0 0,.slice U 0 0]),[(0,1,V Cd),(1,1,V Cd),(2,1,V Cd)]⟩),(181,⟨.struct,4,32,V (.agg #[vi 0,vi 0,vi 0,.bool Cd]),[(0,1,V Cd),(1,1,V Cd),(2,1,V Cd),(3,1,V Cd)]⟩),(191,⟨.int .u64,1,8,V (.int .u64 0),[]⟩),(192,⟨.slice 3,1,24,V (.slice U 0 0),[]⟩),(197,⟨.slice 225,1,24,V (.slice U 0 0),[]⟩),(206,⟨.struct,3,48,V (.agg #[.string ByteArray.empty,vi 0,.slice U 0 0]),[(0,1,V Cd),(1,1,V Cd),(2,1,V Cd)]⟩),(222,⟨.struct,3,32,V (.agg #[.string ByteArray.empty,vi 0,vi 0]),[(0,1,V Cd),(1,1,V Cd),(2,1,V Cd)]⟩),(225,⟨.struct,4,32,V (.agg #[vi 0,vi 0,vi 0,.bool Cd]),[(0,1,V Cd),(1,1,V Cd),(2,1,V Cd),(3,1,V Cd)]⟩),(260,⟨.slice 262,1,24,V (.slice U 0 0),[]⟩),(262,⟨.arr 2 2,2,16,V (.agg #[vi 0,vi 0]),[]⟩),(272,⟨.slice 276,1,24,V (.slice U 0 0),[]⟩),(276,⟨.struct,2,16,V (.agg #[vi 0,vi 0]),[(0,1,V Cd),(1,1,V Cd)]⟩),(304,⟨.struct,4,40,V (.agg #[.string ByteArray.empty,vi 0,vi 0,.bool Cd]),[(0,1,V Cd),(1,1,V Cd),(2,1,V Cd),(3,1,V Cd)]⟩)]
theorem qa:cv prog rN:=cv.mk (by kernel_rfl)
theorem rp{n:Nat}{Q:Exit->Act->World->Prop}{k:List It}{e:fy}{w:World}{all:Array Oper}{l:List Oper}{op:Op}{d t:Nat}{ps:String}{af:Array Edge}{v:Value}
  (h:vj rN e op=V v) (b:Nat.blt d n=An) (a:bu prog n Q (.ops all l::k) ((d,v)::e) w):bu prog n Q (.ops all (⟨V d,op,t,ps,af,U⟩::l)::k) e w:=ma qa h b a
theorem dp{n:Nat}{Q:Exit->Act->World->Prop}{k:List It}{e:fy}{w:World}{all:Array Oper}{l:List Oper}{op:Op}{d t:Nat}{ps:String}{af:Array Edge}{v:Value}
  (h:vj rN e op=V v) (b:Nat.blt d n=An) (a:lB prog n Q k all w l ((d,v)::e)):lB prog n Q k all w (⟨V d,op,t,ps,af,U⟩::l) e:=qd2 qa h b a
section
variable{P:Program}{n:Nat}{Q:Exit->Act->World->Prop}{k:List It}{e:fy}{w:World}
theorem dE{c:Nat}{a:List Oper}{b:Code}(h:bu P n Q (.ops a.toArray a::.code b::k) e w):bu P n Q (.code (.seq (.region c a.toArray Cd) b)::k) e w:=au <|ae h
theorem qcX{c:Nat}{a:List Oper}{b:Code}(h:bu P n Q (.ops a.toArray a::.code b::k) e w):bu P n Q (.code .skip::.code (.seq (.region c a.toArray Cd) b)::k) e w:=ez <|au <|ae h
theorem OF{a1:Array Oper}{c:Nat}{a:List Oper}{b:Code}(h:bu P n Q (.ops a.toArray a::.code b::k) e w):bu P n Q (.ops a1 []::.code (.seq (.region c a.toArray Cd) b)::k) e w:=ac <|au <|ae h
theorem E1{a:Code}{b:Code}(h:bu P n Q (.code a::.code b::k) e w):bu P n Q (.code .skip::.code (.seq a b)::k) e w:=ez <|au h
theorem O2{a1:Array Oper}{a:Code}{b:Code}(h:bu P n Q (.code a::.code b::k) e w):bu P n Q (.ops a1 []::.code (.seq a b)::k) e w:=ac <|au h
theorem qbD{a1:Array Oper}{b:Code}{c:Code}{a:Code}(h:bu P n Q (.code b::.code c::.code a::k) e w):bu P n Q (.ops a1 []::.code (.seq (.seq b c) a)::k) e w:=ac <|au <|au h
theorem TN{a:Nat}{c:Code}{b:Code}(h:bu P n Q (.code c::.blk a::.code b::k) e w):bu P n Q (.code .skip::.code (.seq (.block a c) b)::k) e w:=ez <|au <|qr h
theorem lN{b:Nat}{f:Nat}{a:List Oper}{d:Code}{c:Code}(h:bu P n Q (.ops a.toArray a::.code d::.blk b::.code c::k) e w):bu P n Q (.code .skip::.code (.seq (.block b (.seq (.region f a.toArray Cd) d)) c)::k) e w:=ez <|au <|qr <|au <|ae h
theorem qd6{a1:Array Oper}{a:Nat}(h:bu P n Q (k) e w):bu P n Q (.ops a1 []::.blk a::k) e w:=ac <|WF h
theorem qc3{b:Code}{c:Code}{a:Code}(h:bu P n Q (.code b::.code c::.code a::k) e w):bu P n Q (.code (.seq (.seq b c) a)::k) e w:=au <|au h
theorem ZT{b:Code}{c:Code}{a:Code}(h:bu P n Q (.code b::.code c::.code a::k) e w):bu P n Q (.code .skip::.code (.seq (.seq b c) a)::k) e w:=ez <|au <|au h
end
section
variable{w0 w:World}{L:List Ch}{n:Nat}{Q:Exit->Act->World->Prop}{k k':List It}{e e':fy}{all:Array Oper}{l l':List Oper}{z:List Nat}
theorem X0(m:Nat)(a:xs rN n m [] k e [] []=V (k',e',z,z))(b:bu prog n Q k' e' w):bu prog n Q k e w:=((RE (P:=prog) (Q:=Q) (w:=w) qa m _ _ _ _ _ _ _ _ _ (fun _ h=>by cases h) rfl a).2 rfl).2 b
theorem Y0(m:Nat)(a:xd rN n all m [] l e [] []=V (l',e',z,z))(b:lB prog n Q k all w l' e'):lB prog n Q k all w l e:=((qbZ (P:=prog) (Q:=Q) (k:=k) (w:=w) (all:=all) qa m _ _ _ _ _ _ _ _ _ (fun _ h=>by cases h) rfl a).2 rfl).2 b
theorem X1(m:Nat)(i0:Nat){b0 b:Nat}{a:List Value}(h:SH w0 w L)(c:(L[i0]?,xs rN n m [(b0,a)] k e [] [])=(V (oX b0 a b),V (k',e',z,z)))(f:bu prog n Q k' e' w):bu prog n Q k e w:=by
 simp only[Prod.mk.injEq] at c;exact((RE (P:=prog) (Q:=Q) (w:=w) qa m _ _ _ _ _ _ _ _ _ (fun p d=>by
  simp only[jN,jH,or_false] at d;rcases d with rfl
  .exact h.box i0 c.1) Z c.2).2 Z).2 f
theorem Y1(m:Nat)(i0:Nat){b0 b:Nat}{a:List Value}(h:SH w0 w L)(c:(L[i0]?,xd rN n all m [(b0,a)] l e [] [])=(V (oX b0 a b),V (l',e',z,z)))(f:lB prog n Q k all w l' e'):lB prog n Q k all w l e:=by
 simp only[Prod.mk.injEq] at c;exact((qbZ (P:=prog) (Q:=Q) (k:=k) (w:=w) (all:=all) qa m _ _ _ _ _ _ _ _ _ (fun p d=>by
  simp only[jN,jH,or_false] at d;rcases d with rfl
  .exact h.box i0 c.1) Z c.2).2 Z).2 f
theorem X2(m:Nat)(i0 b:Nat){b0 c:Nat}{a:List Value}{b1 d:Nat}{cs1:List Value}(h:SH w0 w L)(f:(L[i0]?,L[b]?,xs rN n m [(b0,a),(b1,cs1)] k e [] [])=(V (oX b0 a c),V (oX b1 cs1 d),V (k',e',z,z)))(i:bu prog n Q k' e' w):bu prog n Q k e w:=by
 simp only[Prod.mk.injEq] at f;exact((RE (P:=prog) (Q:=Q) (w:=w) qa m _ _ _ _ _ _ _ _ _ (fun p g=>by
  simp only[jN,jH,or_false] at g;rcases g with rfl|rfl
  .exact h.box i0 f.1
  .exact h.box b f.2.1) Z f.2.2).2 Z).2 i
theorem X3(m:Nat)(i0 b c:Nat){b0 d:Nat}{a:List Value}{b1 f:Nat}{cs1:List Value}{b2 g:Nat}{cs2:List Value}(h:SH w0 w L)(i:(L[i0]?,L[b]?,L[c]?,xs rN n m [(b0,a),(b1,cs1),(b2,cs2)] k e [] [])=(V (oX b0 a d),V (oX b1 cs1 f),V (oX b2 cs2 g),V (k',e',z,z)))(o:bu prog n Q k' e' w):bu prog n Q k e w:=by
 simp only[Prod.mk.injEq] at i;exact((RE (P:=prog) (Q:=Q) (w:=w) qa m _ _ _ _ _ _ _ _ _ (fun p l=>by
  simp only[jN,jH,or_false] at l;rcases l with rfl|rfl|rfl
  .exact h.box i0 i.1
  .exact h.box b i.2.1
  .exact h.box c i.2.2.1) Z i.2.2.2).2 Z).2 o
theorem X4(m:Nat)(i0 b c d:Nat){b0 f:Nat}{a:List Value}{b1 g:Nat}{cs1:List Value}{b2 i:Nat}{cs2:List Value}{b3 l:Nat}{cs3:List Value}(h:SH w0 w L)(o:(L[i0]?,L[b]?,L[c]?,L[d]?,xs rN n m [(b0,a),(b1,cs1),(b2,cs2),(b3,cs3)] k e [] [])=(V (oX b0 a f),V (oX b1 cs1 g),V (oX b2 cs2 i),V (oX b3 cs3 l),V (k',e',z,z)))(s:bu prog n Q k' e' w):bu prog n Q k e w:=by
 simp only[Prod.mk.injEq] at o;exact((RE (P:=prog) (Q:=Q) (w:=w) qa m _ _ _ _ _ _ _ _ _ (fun p r=>by
  simp only[jN,jH,or_false] at r;rcases r with rfl|rfl|rfl|rfl
  .exact h.box i0 o.1
  .exact h.box b o.2.1
  .exact h.box c o.2.2.1
  .exact h.box d o.2.2.2.1) Z o.2.2.2.2).2 Z).2 s
theorem X5(m:Nat)(i0 c d f g:Nat){b0 i:Nat}{a:List Value}{b1 l:Nat}{cs1:List Value}{b2 o:Nat}{cs2:List Value}{b3 r:Nat}{cs3:List Value}{b s:Nat}{cs4:List Value}(h:SH w0 w L)(t:(L[i0]?,L[c]?,L[d]?,L[f]?,L[g]?,xs rN n m [(b0,a),(b1,cs1),(b2,cs2),(b3,cs3),(b,cs4)] k e [] [])=(V (oX b0 a i),V (oX b1 cs1 l),V (oX b2 cs2 o),V (oX b3 cs3 r),V (oX b cs4 s),V (k',e',z,z)))(v:bu prog n Q k' e' w):bu prog n Q k e w:=by
 simp only[Prod.mk.injEq] at t;exact((RE (P:=prog) (Q:=Q) (w:=w) qa m _ _ _ _ _ _ _ _ _ (fun p u=>by
  simp only[jN,jH,or_false] at u;rcases u with rfl|rfl|rfl|rfl|rfl
  .exact h.box i0 t.1
  .exact h.box c t.2.1
  .exact h.box d t.2.2.1
  .exact h.box f t.2.2.2.1
  .exact h.box g t.2.2.2.2.1) Z t.2.2.2.2.2).2 Z).2 v
end
section
variable{w0 w:World}{L:List Ch}{n:Nat}{Q:Exit->Act->World->Prop}{k:List It}{e:fy}{all:Array Oper}{l:List Oper}
theorem cq{a:Op}{b f:Nat}{s0:String}{d:Array Edge}{c:Value}(h:(vj rN (e) a,Nat.blt b n)=(V c,An))(g:bu prog n Q (.ops all l::k) ((b,c)::e) w):bu prog n Q (.ops all (⟨V b,a,f,s0,d,U⟩::l)::k) e w:=by
 have H:=h;simp only[Prod.mk.injEq] at H;exact rp (H.1) (H.2) (g)
theorem vD{a:Op}{b f:Nat}{s0:String}{d:Array Edge}{c:Value}(h:(vj rN (e) a,Nat.blt b n)=(V c,An))(g:lB prog n Q k all w l ((b,c)::e)):lB prog n Q k all w (⟨V b,a,f,s0,d,U⟩::l) e:=by
 have H:=h;simp only[Prod.mk.injEq] at H;exact dp (H.1) (H.2) (g)
theorem lY{a:Op}{c o:Nat}{s0:String}{i:Array Edge}{f:Value}{b:Op}{d p:Nat}{s1:String}{m:Array Edge}{g:Value}(h:(vj rN (e) a,Nat.blt c n,vj rN ((c,f)::e) b,Nat.blt d n)=(V f,An,V g,An))(r:bu prog n Q (.ops all l::k) ((d,g)::(c,f)::e) w):bu prog n Q (.ops all (⟨V c,a,o,s0,i,U⟩::⟨V d,b,p,s1,m,U⟩::l)::k) e w:=by
 have H:=h;simp only[Prod.mk.injEq] at H;exact rp (H.1) (H.2.1) (rp (H.2.2.1) (H.2.2.2) (r))
theorem xQ{a:Op}{c o:Nat}{s0:String}{i:Array Edge}{f:Value}{b:Op}{d p:Nat}{s1:String}{m:Array Edge}{g:Value}(h:(vj rN (e) a,Nat.blt c n,vj rN ((c,f)::e) b,Nat.blt d n)=(V f,An,V g,An))(r:lB prog n Q k all w l ((d,g)::(c,f)::e)):lB prog n Q k all w (⟨V c,a,o,s0,i,U⟩::⟨V d,b,p,s1,m,U⟩::l) e:=by
 have H:=h;simp only[Prod.mk.injEq] at H;exact dp (H.1) (H.2.1) (dp (H.2.2.1) (H.2.2.2) (r))
theorem EK{b:Op}{a s:Nat}{s0:String}{o:Array Edge}{g:Value}{c:Op}{f t:Nat}{s1:String}{p:Array Edge}{i:Value}{d:Op}{d2 u:Nat}{s2:String}{r:Array Edge}{m:Value}(h:(vj rN (e) b,Nat.blt a n,vj rN ((a,g)::e) c,Nat.blt f n,vj rN ((f,i)::(a,g)::e) d,Nat.blt d2 n)=(V g,An,V i,An,V m,An))(v:bu prog n Q (.ops all l::k) ((d2,m)::(f,i)::(a,g)::e) w):bu prog n Q (.ops all (⟨V a,b,s,s0,o,U⟩::⟨V f,c,t,s1,p,U⟩::⟨V d2,d,u,s2,r,U⟩::l)::k) e w:=by
 have H:=h;simp only[Prod.mk.injEq] at H;exact rp (H.1) (H.2.1) (rp (H.2.2.1) (H.2.2.2.1) (rp (H.2.2.2.2.1) (H.2.2.2.2.2) (v)))
theorem qcY{b:Op}{a s:Nat}{s0:String}{o:Array Edge}{g:Value}{c:Op}{f t:Nat}{s1:String}{p:Array Edge}{i:Value}{d:Op}{d2 u:Nat}{s2:String}{r:Array Edge}{m:Value}(h:(vj rN (e) b,Nat.blt a n,vj rN ((a,g)::e) c,Nat.blt f n,vj rN ((f,i)::(a,g)::e) d,Nat.blt d2 n)=(V g,An,V i,An,V m,An))(v:lB prog n Q k all w l ((d2,m)::(f,i)::(a,g)::e)):lB prog n Q k all w (⟨V a,b,s,s0,o,U⟩::⟨V f,c,t,s1,p,U⟩::⟨V d2,d,u,s2,r,U⟩::l) e:=by
 have H:=h;simp only[Prod.mk.injEq] at H;exact dp (H.1) (H.2.1) (dp (H.2.2.1) (H.2.2.2.1) (dp (H.2.2.2.2.1) (H.2.2.2.2.2) (v)))
theorem qdZ{c:Op}{a y:Nat}{s0:String}{s:Array Edge}{i:Value}{d:Op}{b z:Nat}{s1:String}{t:Array Edge}{m:Value}{f:Op}{d2 A:Nat}{s2:String}{u:Array Edge}{p:Value}{g:Op}{o B:Nat}{x:String}{v:Array Edge}{r:Value}(h:(vj rN (e) c,Nat.blt a n,vj rN ((a,i)::e) d,Nat.blt b n,vj rN ((b,m)::(a,i)::e) f,Nat.blt d2 n,vj rN ((d2,p)::(b,m)::(a,i)::e) g,Nat.blt o n)=(V i,An,V m,An,V p,An,V r,An))(C:bu prog n Q (.ops all l::k) ((o,r)::(d2,p)::(b,m)::(a,i)::e) w):bu prog n Q (.ops all (⟨V a,c,y,s0,s,U⟩::⟨V b,d,z,s1,t,U⟩::⟨V d2,f,A,s2,u,U⟩::⟨V o,g,B,x,v,U⟩::l)::k) e w:=by
 have H:=h;simp only[Prod.mk.injEq] at H;exact rp (H.1) (H.2.1) (rp (H.2.2.1) (H.2.2.2.1) (rp (H.2.2.2.2.1) (H.2.2.2.2.2.1) (rp (H.2.2.2.2.2.2.1) (H.2.2.2.2.2.2.2) (C))))
theorem qdC{c:Op}{a y:Nat}{s0:String}{s:Array Edge}{i:Value}{d:Op}{b z:Nat}{s1:String}{t:Array Edge}{m:Value}{f:Op}{d2 A:Nat}{s2:String}{u:Array Edge}{p:Value}{g:Op}{o B:Nat}{x:String}{v:Array Edge}{r:Value}(h:(vj rN (e) c,Nat.blt a n,vj rN ((a,i)::e) d,Nat.blt b n,vj rN ((b,m)::(a,i)::e) f,Nat.blt d2 n,vj rN ((d2,p)::(b,m)::(a,i)::e) g,Nat.blt o n)=(V i,An,V m,An,V p,An,V r,An))(C:lB prog n Q k all w l ((o,r)::(d2,p)::(b,m)::(a,i)::e)):lB prog n Q k all w (⟨V a,c,y,s0,s,U⟩::⟨V b,d,z,s1,t,U⟩::⟨V d2,f,A,s2,u,U⟩::⟨V o,g,B,x,v,U⟩::l) e:=by
 have H:=h;simp only[Prod.mk.injEq] at H;exact dp (H.1) (H.2.1) (dp (H.2.2.1) (H.2.2.2.1) (dp (H.2.2.2.2.1) (H.2.2.2.2.2.1) (dp (H.2.2.2.2.2.2.1) (H.2.2.2.2.2.2.2) (C))))
theorem qb0{d:Op}{a D:Nat}{s0:String}{v:Array Edge}{c:Value}{f:Op}{b F:Nat}{s1:String}{x:Array Edge}{o:Value}{g:Op}{d2 I:Nat}{s2:String}{y:Array Edge}{r:Value}{i:Op}{p J:Nat}{B:String}{z:Array Edge}{t:Value}{m:Op}{s K:Nat}{C:String}{A:Array Edge}{u:Value}(h:(vj rN (e) d,Nat.blt a n,vj rN ((a,c)::e) f,Nat.blt b n,vj rN ((b,o)::(a,c)::e) g,Nat.blt d2 n,vj rN ((d2,r)::(b,o)::(a,c)::e) i,Nat.blt p n,vj rN ((p,t)::(d2,r)::(b,o)::(a,c)::e) m,Nat.blt s n)=(V c,An,V o,An,V r,An,V t,An,V u,An))(L:bu prog n Q (.ops all l::k) ((s,u)::(p,t)::(d2,r)::(b,o)::(a,c)::e) w):bu prog n Q (.ops all (⟨V a,d,D,s0,v,U⟩::⟨V b,f,F,s1,x,U⟩::⟨V d2,g,I,s2,y,U⟩::⟨V p,i,J,B,z,U⟩::⟨V s,m,K,C,A,U⟩::l)::k) e w:=by
 have H:=h;simp only[Prod.mk.injEq] at H;exact rp (H.1) (H.2.1) (rp (H.2.2.1) (H.2.2.2.1) (rp (H.2.2.2.2.1) (H.2.2.2.2.2.1) (rp (H.2.2.2.2.2.2.1) (H.2.2.2.2.2.2.2.1) (rp (H.2.2.2.2.2.2.2.2.1) (H.2.2.2.2.2.2.2.2.2) (L)))))
theorem qdX{d:Op}{a D:Nat}{s0:String}{v:Array Edge}{c:Value}{f:Op}{b F:Nat}{s1:String}{x:Array Edge}{o:Value}{g:Op}{d2 I:Nat}{s2:String}{y:Array Edge}{r:Value}{i:Op}{p J:Nat}{B:String}{z:Array Edge}{t:Value}{m:Op}{s K:Nat}{C:String}{A:Array Edge}{u:Value}(h:(vj rN (e) d,Nat.blt a n,vj rN ((a,c)::e) f,Nat.blt b n,vj rN ((b,o)::(a,c)::e) g,Nat.blt d2 n,vj rN ((d2,r)::(b,o)::(a,c)::e) i,Nat.blt p n,vj rN ((p,t)::(d2,r)::(b,o)::(a,c)::e) m,Nat.blt s n)=(V c,An,V o,An,V r,An,V t,An,V u,An))(L:lB prog n Q k all w l ((s,u)::(p,t)::(d2,r)::(b,o)::(a,c)::e)):lB prog n Q k all w (⟨V a,d,D,s0,v,U⟩::⟨V b,f,F,s1,x,U⟩::⟨V d2,g,I,s2,y,U⟩::⟨V p,i,J,B,z,U⟩::⟨V s,m,K,C,A,U⟩::l) e:=by
 have H:=h;simp only[Prod.mk.injEq] at H;exact dp (H.1) (H.2.1) (dp (H.2.2.1) (H.2.2.2.1) (dp (H.2.2.2.2.1) (H.2.2.2.2.2.1) (dp (H.2.2.2.2.2.2.1) (H.2.2.2.2.2.2.2.1) (dp (H.2.2.2.2.2.2.2.2.1) (H.2.2.2.2.2.2.2.2.2) (L)))))
theorem zl(i j:Nat){d t ty:Nat}{x:Operand}{c:TE}{ps:String}{af:Array Edge}{v:Value}{b:Nat}{cs:List Value}{g:TypeId}(h:SH w0 w L)(a:(L[i]?,gg e x,rN.get t,ld c cs j,Nat.blt d n)=(V (oX b cs g),V (.pointer (V ⟨b,0+j,U⟩)),V c,V v,An))
  (f:bu prog n Q (.ops all l::k) ((d,v)::e) w):bu prog n Q (.ops all (⟨V d,.load t x,ty,ps,af,U⟩::l)::k) e w:=by
 simp only[Prod.mk.injEq] at a;exact dK (cR qa (h.box i a.1) (j:=j) a.2.1 a.2.2.1 a.2.2.2.1) a.2.2.2.2 f
theorem zc(j:Nat){d t ty:Nat}{x:Operand}{c:TE}{ps:String}{af:Array Edge}{v:Value}{b o:Nat}{cs:List Value}(h:cw w b o cs)(a:(gg e x,rN.get t,ld c cs j,Nat.blt d n)=(V (.pointer (V ⟨b,o+j,U⟩)),V c,V v,An))
  (f:bu prog n Q (.ops all l::k) ((d,v)::e) w):bu prog n Q (.ops all (⟨V d,.load t x,ty,ps,af,U⟩::l)::k) e w:=by
 simp only[Prod.mk.injEq] at a;exact dK (cR qa h (j:=j) a.1 a.2.1 a.2.2.1) a.2.2.2 f
theorem bN(j:Nat){d t ty:Nat}{x:Operand}{c:TE}{ps:String}{af:Array Edge}{v:Value}{b o:Nat}{cs:List Value}(a:cw w0 b o cs)(h:SH w0 w L)(f:(gg e x,rN.get t,ld c cs j,Nat.blt d n)=(V (.pointer (V ⟨b,o+j,U⟩)),V c,V v,An))
  (g:bu prog n Q (.ops all l::k) ((d,v)::e) w):bu prog n Q (.ops all (⟨V d,.load t x,ty,ps,af,U⟩::l)::k) e w:=zc j (a.below h.below) f g
theorem XG(j:Nat){d t ty:Nat}{x:Operand}{c:TE}{ps:String}{af:Array Edge}{v:Value}{b o:Nat}{cs:List Value}(h:cw w b o cs)(a:(gg e x,rN.get t,ld c cs j,Nat.blt d n)=(V (.pointer (V ⟨b,o+j,U⟩)),V c,V v,An))
  (g:lB prog n Q k all w l ((d,v)::e)):lB prog n Q k all w (⟨V d,.load t x,ty,ps,af,U⟩::l) e:=by
 simp only[Prod.mk.injEq] at a;exact qbM (fun _ f=>cR qa (h.below f) (j:=j) a.1 a.2.1 a.2.2.1) a.2.2.2 g
theorem fF(j:Nat){d t ty:Nat}{x:Operand}{c:TE}{ps:String}{af:Array Edge}{v:Value}{b o:Nat}{cs:List Value}(a:cw w0 b o cs)(h:SH w0 w L)(f:(gg e x,rN.get t,ld c cs j,Nat.blt d n)=(V (.pointer (V ⟨b,o+j,U⟩)),V c,V v,An))
  (g:lB prog n Q k all w l ((d,v)::e)):lB prog n Q k all w (⟨V d,.load t x,ty,ps,af,U⟩::l) e:=XG j (a.below h.below) f g
theorem zx{x i:Operand}{t ty d el m:Nat}{r a:TE}{ps:String}{af:Array Edge}{p:Option Addr}{h c:Nat}{kd:IntKind}{iv:Int}{b o q:Nat}(u:p=V ⟨b,o,U⟩)(v:q=o+iv.toNat*m)(g:0<=iv/\iv<h)(f:(gg e x,gg e i,rN.get t,r.kind,rN.get el,a.size,Nat.blt d n)=(V (oS p h c),V (.int kd iv),V r,TK.slice el,V a,m,An))(s:bu prog n Q (.ops all l::k) ((d,.pointer (V ⟨b,q,U⟩))::e) w):bu prog n Q (.ops all (⟨V d,.indexAddr t x i,ty,ps,af,U⟩::l)::k) e w:=by
 simp only[Prod.mk.injEq] at f;exact dK (WX qa u v g f.1 f.2.1 f.2.2.1 f.2.2.2.1 f.2.2.2.2.1 f.2.2.2.2.2.1) f.2.2.2.2.2.2 s
theorem fG{x i:Operand}{t ty d el m:Nat}{h a:TE}{ps:String}{af:Array Edge}{p:Option Addr}{g c:Nat}{kd:IntKind}{iv:Int}{b o q:Nat}{α:Prop}(u:p=V ⟨b,o,U⟩)(v:q=o+iv.toNat*m)(f:0<=iv/\iv<g/\α)(r:(gg e x,gg e i,rN.get t,h.kind,rN.get el,a.size,Nat.blt d n)=(V (oS p g c),V (.int kd iv),V h,TK.slice el,V a,m,An))(s:bu prog n Q (.ops all l::k) ((d,.pointer (V ⟨b,q,U⟩))::e) w):bu prog n Q (.ops all (⟨V d,.indexAddr t x i,ty,ps,af,U⟩::l)::k) e w:=zx u v ⟨f.1,f.2.1⟩ r s
theorem XH{x i:Operand}{t ty d el m:Nat}{r a:TE}{ps:String}{af:Array Edge}{p:Option Addr}{h c:Nat}{kd:IntKind}{iv:Int}{b o q:Nat}(u:p=V ⟨b,o,U⟩)(v:q=o+iv.toNat*m)(g:0<=iv/\iv<h)(f:(gg e x,gg e i,rN.get t,r.kind,rN.get el,a.size,Nat.blt d n)=(V (oS p h c),V (.int kd iv),V r,TK.slice el,V a,m,An))(s:lB prog n Q k all w l ((d,.pointer (V ⟨b,q,U⟩))::e)):lB prog n Q k all w (⟨V d,.indexAddr t x i,ty,ps,af,U⟩::l) e:=by
 simp only[Prod.mk.injEq] at f;exact qbM (fun _ _=>WX qa u v g f.1 f.2.1 f.2.2.1 f.2.2.2.1 f.2.2.2.2.1 f.2.2.2.2.2.1) f.2.2.2.2.2.2 s
theorem hG{x i:Operand}{t ty d el m:Nat}{h a:TE}{ps:String}{af:Array Edge}{p:Option Addr}{g c:Nat}{kd:IntKind}{iv:Int}{b o q:Nat}{α:Prop}(u:p=V ⟨b,o,U⟩)(v:q=o+iv.toNat*m)(f:0<=iv/\iv<g/\α)(r:(gg e x,gg e i,rN.get t,h.kind,rN.get el,a.size,Nat.blt d n)=(V (oS p g c),V (.int kd iv),V h,TK.slice el,V a,m,An))(s:lB prog n Q k all w l ((d,.pointer (V ⟨b,q,U⟩))::e)):lB prog n Q k all w (⟨V d,.indexAddr t x i,ty,ps,af,U⟩::l) e:=XH u v ⟨f.1,f.2.1⟩ r s
theorem zs(i:Nat){t ty:Nat}{ps:String}{af:Array Edge}{x v:Operand}{D:TE}{b j:Nat}{cs A z:List Value}{C:TypeId}{u:Value}{L':List Ch}(h:SH w0 w L)
  (B:(L[i]?,gg e x,gg e v,bc u,rN.get t,Nat.beq A.length D.size,Nat.ble (j+A.length) cs.length,H6 A,TA cs j A,M7 L i (oX b z C))=(V (oX b cs C),V (.pointer (V ⟨b,j,U⟩)),V u,A,V D,An,An,An,V z,V L'))
  (F:∀w',SH w0 w' L'->bu prog n Q (.ops all l::k) e w'):bu prog n Q (.ops all (⟨U,.store t x v,ty,ps,af,U⟩::l)::k) e w:=by
 simp only[Prod.mk.injEq] at B;obtain⟨d,f,g,m,o,p,r,s,y,a⟩:=B;subst m;have e1:=TB y;have c:=D3 a;subst e1 c;exact qba qa i h d f g o p r s F
end
section
variable{P:Program}{fnc:Func}{R:Ending->World->Prop}{n:Nat}{k:List It}{e:fy}{w0 w:World}{ops:Array Oper}{st:List Nat}{fuel:Nat}
theorem M0(K:Nat)(is:List Nat){C:World->Prop}{m K0 f a:Nat}{e':fy}{z:List Nat}(b:C w)(c:xa rN n ops is [] f e [] []=V (a,e',z,z))
  (d:lA prog n (bodyPost prog fnc R) k ops st C a (bits m K) e' w) (g:qa0 ops st is (bits m K0) (bits m K)=An:=by kernel_rfl):lA prog n (bodyPost prog fnc R) k ops st C f (bits m K0) e w:=by
 exact((XB (C:=C) (w:=w) (P:=prog) qa b is _ _ _ _ _ _ _ _ _ _ _ (fun _ h=>by cases h) rfl c g).2 rfl).2 d
theorem G0(K:Nat)(is:List Nat){C:World->Prop}{m K0 f a:Nat}{e':fy}{z:List Nat}{all:Array Oper}(b:C w)(c:xa rN n ops is [] f e [] []=V (a,e',z,z))
  (d:lA prog n (bodyPost prog fnc R) k ops st C a (bits m K) e' w) (g:qa0 ops st is (bits m K0) (bits m K)=An:=by kernel_rfl):bu prog n (bodyPost prog fnc R) (.ops all []::.goal (zJ prog n (bodyPost prog fnc R) k ops st C f (bits m K0))::k) e w:=
 Ag b (M0 K is (C:=C) b c d g)
theorem M1(K:Nat)(is:List Nat)(i0:Nat){b0 b:Nat}{a:List Value}{LA:List Ch}{m K0 f d:Nat}{e':fy}{z:List Nat}(h:SH w0 w LA)(c:(LA[i0]?,xa rN n ops is [(b0,a)] f e [] [])=(V (oX b0 a b),V (d,e',z,z)))
  (i:lA prog n (bodyPost prog fnc R) k ops st (fun w'=>SH w0 w' LA) d (bits m K) e' w) (l:qa0 ops st is (bits m K0) (bits m K)=An:=by kernel_rfl):lA prog n (bodyPost prog fnc R) k ops st (fun w'=>SH w0 w' LA) f (bits m K0) e w:=by
 simp only[Prod.mk.injEq] at c;exact((XB (C:=(fun w'=>SH w0 w' LA)) (w:=w) (P:=prog) qa h is _ _ _ _ _ _ _ _ _ _ _ (fun p g _ o=>by
  simp only[jN,jH,or_false] at g;rcases g with rfl
  .exact SH.box o i0 c.1) Z c.2 l).2 Z).2 i
theorem M2(K:Nat)(is:List Nat)(i0 b:Nat){b0 c:Nat}{a:List Value}{b1 d:Nat}{cs1:List Value}{LA:List Ch}{m K0 f h:Nat}{e':fy}{z:List Nat}(o:SH w0 w LA)(g:(LA[i0]?,LA[b]?,xa rN n ops is [(b0,a),(b1,cs1)] f e [] [])=(V (oX b0 a c),V (oX b1 cs1 d),V (h,e',z,z)))
  (r:lA prog n (bodyPost prog fnc R) k ops st (fun w'=>SH w0 w' LA) h (bits m K) e' w) (s:qa0 ops st is (bits m K0) (bits m K)=An:=by kernel_rfl):lA prog n (bodyPost prog fnc R) k ops st (fun w'=>SH w0 w' LA) f (bits m K0) e w:=by
 simp only[Prod.mk.injEq] at g;exact((XB (C:=(fun w'=>SH w0 w' LA)) (w:=w) (P:=prog) qa o is _ _ _ _ _ _ _ _ _ _ _ (fun p i _ l=>by
  simp only[jN,jH,or_false] at i;rcases i with rfl|rfl
  .exact SH.box l i0 g.1
  .exact SH.box l b g.2.1) Z g.2.2 s).2 Z).2 r
theorem M3(K:Nat)(is:List Nat)(i0 b c:Nat){b0 d:Nat}{a:List Value}{b1 g:Nat}{cs1:List Value}{b2 h:Nat}{cs2:List Value}{LA:List Ch}{m K0 f o:Nat}{e':fy}{z:List Nat}(s:SH w0 w LA)(i:(LA[i0]?,LA[b]?,LA[c]?,xa rN n ops is [(b0,a),(b1,cs1),(b2,cs2)] f e [] [])=(V (oX b0 a d),V (oX b1 cs1 g),V (oX b2 cs2 h),V (o,e',z,z)))
  (t:lA prog n (bodyPost prog fnc R) k ops st (fun w'=>SH w0 w' LA) o (bits m K) e' w) (u:qa0 ops st is (bits m K0) (bits m K)=An:=by kernel_rfl):lA prog n (bodyPost prog fnc R) k ops st (fun w'=>SH w0 w' LA) f (bits m K0) e w:=by
 simp only[Prod.mk.injEq] at i;exact((XB (C:=(fun w'=>SH w0 w' LA)) (w:=w) (P:=prog) qa s is _ _ _ _ _ _ _ _ _ _ _ (fun p r _ l=>by
  simp only[jN,jH,or_false] at r;rcases r with rfl|rfl|rfl
  .exact SH.box l i0 i.1
  .exact SH.box l b i.2.1
  .exact SH.box l c i.2.2.1) Z i.2.2.2 u).2 Z).2 t
theorem M4(K:Nat)(is:List Nat)(i0 b c d:Nat){b0 g:Nat}{a:List Value}{b1 h:Nat}{cs1:List Value}{b2 i:Nat}{cs2:List Value}{b3 l:Nat}{cs3:List Value}{LA:List Ch}{m K0 f s:Nat}{e':fy}{z:List Nat}(u:SH w0 w LA)(o:(LA[i0]?,LA[b]?,LA[c]?,LA[d]?,xa rN n ops is [(b0,a),(b1,cs1),(b2,cs2),(b3,cs3)] f e [] [])=(V (oX b0 a g),V (oX b1 cs1 h),V (oX b2 cs2 i),V (oX b3 cs3 l),V (s,e',z,z)))
  (v:lA prog n (bodyPost prog fnc R) k ops st (fun w'=>SH w0 w' LA) s (bits m K) e' w) (x:qa0 ops st is (bits m K0) (bits m K)=An:=by kernel_rfl):lA prog n (bodyPost prog fnc R) k ops st (fun w'=>SH w0 w' LA) f (bits m K0) e w:=by
 simp only[Prod.mk.injEq] at o;exact((XB (C:=(fun w'=>SH w0 w' LA)) (w:=w) (P:=prog) qa u is _ _ _ _ _ _ _ _ _ _ _ (fun p t _ r=>by
  simp only[jN,jH,or_false] at t;rcases t with rfl|rfl|rfl|rfl
  .exact SH.box r i0 o.1
  .exact SH.box r b o.2.1
  .exact SH.box r c o.2.2.1
  .exact SH.box r d o.2.2.2.1) Z o.2.2.2.2 x).2 Z).2 v
theorem Aw(i K:Nat){C:World->Prop}{m K0 d:Nat}{op:Op}{t:Nat}{ps:String}{af:Array Edge}{v:Value}(h:∀w',C w'->KP prog n e ⟨V d,op,t,ps,af,U⟩ w' v)(b:C w)(a:(ops[i]?,Nat.blt d n)=(V (⟨V d,op,t,ps,af,U⟩:Oper),An))
  (f:lA prog n (bodyPost prog fnc R) k ops st C fuel (bits m K) ((d,v)::e) w) (g:(bits m K0).setIfInBounds i An=bits m K:=by kernel_rfl)
  (c:(Region.noSelect ops&&Region.free .any ops (bits m K0) i&&(Region.ready .any ops (bits m K0)).contains i&&st.all (fun s=>!(Nat.beq s i)&&CT ops i s&&!((bits m K0).getD s An)))=An:=by kernel_rfl) :
  lA prog n (bodyPost prog fnc R) k ops st C (fuel+1) (bits m K0) e w:=by
 simp only[Prod.mk.injEq] at a;exact gk i a.1 _ g c h b a.2 f
theorem Al(i K j:Nat){LA:List Ch}{m K0 d t ty b o:Nat}{x:Operand}{c:TE}{ps:String}{af:Array Edge}{v:Value}{cs:List Value}(h:cw w0 b o cs)(f:SH w0 w LA)
  (a:(ops[i]?,gg e x,rN.get t,ld c cs j,Nat.blt d n)=(V (⟨V d,.load t x,ty,ps,af,U⟩:Oper),V (.pointer (V ⟨b,o+j,U⟩)),V c,V v,An))
  (l:lA prog n (bodyPost prog fnc R) k ops st (fun w'=>SH w0 w' LA) fuel (bits m K) ((d,v)::e) w) (p:(bits m K0).setIfInBounds i An=bits m K:=by kernel_rfl)
  (g:(Region.noSelect ops&&Region.free .any ops (bits m K0) i&&(Region.ready .any ops (bits m K0)).contains i&&st.all (fun s=>!(Nat.beq s i)&&CT ops i s&&!((bits m K0).getD s An)))=An:=by kernel_rfl) :
  lA prog n (bodyPost prog fnc R) k ops st (fun w'=>SH w0 w' LA) (fuel+1) (bits m K0) e w:=by
 simp only[Prod.mk.injEq] at a;exact gk i a.1 _ p g (fun w' r=>cR qa (h.below r.below) (j:=j) a.2.1 a.2.2.1 a.2.2.2.1) f a.2.2.2.2 l
theorem Ax(i K:Nat){C:World->Prop}{m K0 d t ty el q:Nat}{x ix:Operand}{r a:TE}{ps:String}{af:Array Edge}{p:Option Addr}{h c l:Nat}{kd:IntKind}{iv:Int}{b o:Nat}(A:p=V ⟨b,o,U⟩)(B:q=o+iv.toNat*l)(g:0<=iv/\iv<h)(u:C w)
  (f:(ops[i]?,gg e x,gg e ix,rN.get t,r.kind,rN.get el,a.size,Nat.blt d n)=(V (⟨V d,.indexAddr t x ix,ty,ps,af,U⟩:Oper),V (oS p h c),V (.int kd iv),V r,TK.slice el,V a,l,An))
  (y:lA prog n (bodyPost prog fnc R) k ops st C fuel (bits m K) ((d,.pointer (V ⟨b,q,U⟩))::e) w) (z:(bits m K0).setIfInBounds i An=bits m K:=by kernel_rfl)
  (v:(Region.noSelect ops&&Region.free .any ops (bits m K0) i&&(Region.ready .any ops (bits m K0)).contains i&&st.all (fun s=>!(Nat.beq s i)&&CT ops i s&&!((bits m K0).getD s An)))=An:=by kernel_rfl) :
  lA prog n (bodyPost prog fnc R) k ops st C (fuel+1) (bits m K0) e w:=by
 simp only[Prod.mk.injEq] at f;exact gk i f.1 _ z v (fun w' _=>WX qa A B g f.2.1 f.2.2.1 f.2.2.2.1 f.2.2.2.2.1 f.2.2.2.2.2.1 f.2.2.2.2.2.2.1) u f.2.2.2.2.2.2.2 y
theorem Ae(i K:Nat){C:World->Prop}{m K0 d t ty el q:Nat}{x ix:Operand}{l a:TE}{ps:String}{af:Array Edge}{p:Option Addr}{g c h:Nat}{kd:IntKind}{iv:Int}{b o:Nat}{α:Prop}(A:p=V ⟨b,o,U⟩)(B:q=o+iv.toNat*h)(f:0<=iv/\iv<g/\α)(r:C w)
  (v:(ops[i]?,gg e x,gg e ix,rN.get t,l.kind,rN.get el,a.size,Nat.blt d n)=(V (⟨V d,.indexAddr t x ix,ty,ps,af,U⟩:Oper),V (oS p g c),V (.int kd iv),V l,TK.slice el,V a,h,An))
  (y:lA prog n (bodyPost prog fnc R) k ops st C fuel (bits m K) ((d,.pointer (V ⟨b,q,U⟩))::e) w) (z:(bits m K0).setIfInBounds i An=bits m K:=by kernel_rfl)
  (u:(Region.noSelect ops&&Region.free .any ops (bits m K0) i&&(Region.ready .any ops (bits m K0)).contains i&&st.all (fun s=>!(Nat.beq s i)&&CT ops i s&&!((bits m K0).getD s An)))=An:=by kernel_rfl) :
  lA prog n (bodyPost prog fnc R) k ops st C (fuel+1) (bits m K0) e w:=Ax i K A B ⟨f.1,f.2.1⟩ r v y z u
theorem rb{a:Func}{L:List Ch}{x r:Bool}(h:SH w0 w L)(F:V x=V r)(b:qbb e a.results.toList=V (.bool x)) :
  bu prog n (bodyPost prog a fun e w'=>∃v,e=.returned v/\Below w0.heap.size w0 w'/\∃us,v=vK us/\iI.Vs w' (nu w0 w') r us) (.code .ret::k) e w:=qdS qa h F (C9 b)
theorem ri{a:Func}{L:List Ch}{x r:Int}(h:SH w0 w L)(F:V x=V r)(b:qbb e a.results.toList=V (vi x)) :
  bu prog n (bodyPost prog a fun e w'=>∃v,e=.returned v/\Below w0.heap.size w0 w'/\∃us,v=vK us/\iI.Vs w' (nu w0 w') r us) (.code .ret::k) e w:=qdT qa h F (C9 b)
theorem rO{a:Func}{L:List Ch}{α:Type}[qm α]{r:α}{S:Nat->Prop}{cs:List Value}(i:Nat)(h:SH w0 w L)(hi:L[i]?=V (oW S r cs))(b:vE rN e w a.results.toList [oV α cs]) :
  bu prog n (bodyPost prog a fun e w'=>∃v,e=.returned v/\Below w0.heap.size w0 w'/\∃us,v=vK us/\iI.Vs w' (nu w0 w') r us) (.code .ret::k) e w:=aq qa _ h b (Cq h (pJ (qS i h hi)))
theorem zV{ρ:Type}[iI ρ]{f:FuncId}{a:Func}{c:Code}{vs:List Value}{r:ρ}(m:Nat)(d:prog.funcs[f]?=V a)(b:(a.body,a.ntmps,Nat.ble vs.length m)=(V c,m,An))
  (h:SH w w []->bu prog m (bodyPost prog a fun e w'=>∃v,e=.returned v/\Below w.heap.size w w'/\∃us,v=vK us/\iI.Vs w' (nu w w') r us) [.code c] (po 0 vs) w):qP prog f vs w r:=by
 simp only[Prod.mk.injEq] at b;exact WG d b.1 b.2.1 b.2.2 h
end
section
variable{w0 w:World}{L:List Ch}{n:Nat}{Q:Exit->Act->World->Prop}{k:List It}{e:fy}{all:Array Oper}{l:List Oper}{d ty:Nat}{ps:String}{af:Array Edge}{x:Operand}{args:Array Operand}{ats:Array TypeId}{f:FuncId}{fi ca:Array Value}{av vs:List Value}{β:Type}{rr:β}
theorem mN{F:Option Int}{g:Int->Option β}(h:SH w0 w L)(c:F.bind g=V rr)(m:∀{r},F=V r->qP prog f vs w r)
  (b:(gg e x,pk e args.toList,fi.toList++av++ca.toList,Nat.blt d n)=(V (.func (.func f) fi ca),V av,vs,An))
  (o:∀r w' ,SH w0 w' (L)->g r=V rr->bu prog n Q (.ops all l::k) ((d,vi r)::e) w') (a:kL prog f:=by exact cA Z):bu prog n Q (.ops all (⟨V d,.call ⟨.value x,args,ats⟩,ty,ps,af,U⟩::l)::k) e w:=by
 obtain⟨r,p,c⟩:=qc c;simp only[Prod.mk.injEq] at b;exact fJ r h a (m p) b.1 b.2.1 b.2.2.1 b.2.2.2 (fun w'  i=>o r w'  i c)
theorem dF{F:Option Bool}{g:Bool->Option β}(h:SH w0 w L)(c:F.bind g=V rr)(m:∀{r},F=V r->qP prog f vs w r)
  (b:(gg e x,pk e args.toList,fi.toList++av++ca.toList,Nat.blt d n)=(V (.func (.func f) fi ca),V av,vs,An))
  (o:∀r w' ,SH w0 w' (L)->g r=V rr->bu prog n Q (.ops all l::k) ((d,.bool r)::e) w') (a:kL prog f:=by exact cA Z):bu prog n Q (.ops all (⟨V d,.call ⟨.value x,args,ats⟩,ty,ps,af,U⟩::l)::k) e w:=by
 obtain⟨r,p,c⟩:=qc c;simp only[Prod.mk.injEq] at b;exact qa8 r h a (m p) b.1 b.2.1 b.2.2.1 b.2.2.2 (fun w'  i=>o r w'  i c)
theorem qdB{F:Option ByteArray}{g:ByteArray->Option β}(h:SH w0 w L)(c:F.bind g=V rr)(m:∀{r},F=V r->qP prog f vs w r)
  (b:(gg e x,pk e args.toList,fi.toList++av++ca.toList,Nat.blt d n)=(V (.func (.func f) fi ca),V av,vs,An))
  (o:∀r w' ,SH w0 w' (L)->g r=V rr->bu prog n Q (.ops all l::k) ((d,.string r)::e) w') (a:kL prog f:=by exact cA Z):bu prog n Q (.ops all (⟨V d,.call ⟨.value x,args,ats⟩,ty,ps,af,U⟩::l)::k) e w:=by
 obtain⟨r,p,c⟩:=qc c;simp only[Prod.mk.injEq] at b;exact MB r h a (m p) b.1 b.2.1 b.2.2.1 b.2.2.2 (fun w'  i=>o r w'  i c)
theorem uj{α:Type}[qm α]{F:Option (List α)}{g:(List α)->Option β}(h:SH w0 w L)(i:F.bind g=V rr)(o:∀{r},F=V r->qP prog f vs w r)
  (b:(gg e x,pk e args.toList,fi.toList++av++ca.toList,Nat.blt d n)=(V (.func (.func f) fi ca),V av,vs,An))
  (s:∀r w' S p c,SH w0 w' (oW S r [oL p r c]::L)->g r=V rr->bu prog n Q (.ops all l::k) ((d,oL p r c)::e) w') (a:kL prog f:=by exact cA Z):bu prog n Q (.ops all (⟨V d,.call ⟨.value x,args,ats⟩,ty,ps,af,U⟩::l)::k) e w:=by
 obtain⟨r,t,i⟩:=qc i;simp only[Prod.mk.injEq] at b;exact tR r h a (o t) b.1 b.2.1 b.2.2.1 b.2.2.2 (fun w' S p c m=>s r w' S p c m i)
theorem qbE{α:Type}[qm α]{F:Option α}{g:α->Option β}(h:SH w0 w L)(c:F.bind g=V rr)(m:∀{r},F=V r->qP prog f vs w r)
  (b:(gg e x,pk e args.toList,fi.toList++av++ca.toList,Nat.blt d n)=(V (.func (.func f) fi ca),V av,vs,An))
  (o:∀r w' S cs,SH w0 w' (oW S r cs::L)->g r=V rr->bu prog n Q (.ops all l::k) ((d,oV α cs)::e) w') (a:kL prog f:=by exact cA Z):bu prog n Q (.ops all (⟨V d,.call ⟨.value x,args,ats⟩,ty,ps,af,U⟩::l)::k) e w:=by
 obtain⟨r,p,c⟩:=qc c;simp only[Prod.mk.injEq] at b;exact zB r h a (m p) b.1 b.2.1 b.2.2.1 b.2.2.2 (fun w' S cs i=>o r w' S cs i c)
end
def qdO:List Nat:=[0,1,261,288]
theorem qdJ:((List.range 299).all fun f=>qdO.contains f || Q1 prog f)=An:=by kernel_rfl
theorem cA{f:Nat}(h:(Nat.blt f 299&&!qdO.contains f)=An):kL prog f:=by
 rw[je,Nat.blt_eq,jC] at h;have:=List.all_eq_true.1 qdJ f (List.mem_range.2 h.1);rw[h.2] at this;exact Q2 this
theorem cB(f:Nat)(h:(Nat.blt f 299&&!qdO.contains f)=An):kL prog f:=cA h
def aW(_:Nat)(a:Int)(c:Int)(b:Int):Option Bool:=bif decide (a>=c) then V (decide (a<=b)) else V Cd
theorem aF{a_n low high}  {r:Bool}(F:aW n a_n low high=V r):qP prog 32 [vi a_n,vi low,vi high] w r:=by
 refine zV 15 func32 Z fun h=>X0 10 Z (qh (t:=10) F Z ?_ ?_)<;>intro F
 .exact X0 9 Z (rb h F Z)
 exact X0 6 Z (rb h F Z)
def kA(s:ByteArray):Nat->Int->Option (eE Bool Int)|0,_=>U|n+1,a=>bif decide (a<(s.size:Int)) then((P4 s a).bind fun d=>bif decide (d>=97) then(P4 s a).bind fun f=>V (decide (f<=122)) else V Cd).bind fun b1=>((P4 s a).bind fun b=>bif decide (b>=48) then(P4 s a).bind fun c=>V (decide (c<=57)) else V Cd).bind fun b2=>bif (!b1) then bif b2 then bif (!(decide (a > 0))) then V (.ret Cd) else kA s n (qj (a+1)) else V (.ret Cd) else kA s n (qj (a+1)) else V (.nxt a)
def oq(n:Nat)(s:ByteArray):Option Bool:=(kA s n 0).bind fun|.ret r=>V r|.nxt _=>bif decide ((s.size:Int)>=1) then V (decide ((s.size:Int)<=8)) else V Cd
theorem sv{s}  {r:Bool}(F:oq n s=V r):qP prog 201 [.string s] w r:=by
 refine zV 50 func201 Z fun h=>X0 9 Z ?_;obtain⟨o1,F,a⟩:=qc F;refine qr (rL (fun m e w'=>∃g,kA s m g=V o1/\e=[(0,.string s),(3,vi g)]/\SH w w' []) n ⟨_,F,Z,h⟩ Z ?_);rintro v _ _ ⟨g,F,rfl,h⟩;rcases v with _|v
 .cases F
 refine X0 8 Z (qp Z F ?_ ?_)<;>intro F
 .refine X0 4 Z ?_;obtain⟨k,f,_,F,c⟩:=bindE F;refine bd (fun e w'=>∃b1,k b1=V o1/\e=[(0,.string s),(3,vi g),(4,.bool b1)]/\SH w w' []) ?_ ?_
  .refine X0 3 Z ?_;obtain⟨_,p,F⟩:=qc F;have z:=AU p;refine dK (CQ qa z Z Z Z Z) Z (lY Z (qh (t:=16) F Z ?_ ?_))<;>intro F
   .refine X0 5 Z ?_;obtain⟨_,u,F⟩:=qc F;have A:=AU u;refine dK (CQ qa A Z Z Z Z) Z (X0 5 Z ?_);exact rH F c h Z
   refine X0 7 Z ?_;exact rH F c h Z
  rintro _ _ ⟨b1,F,rfl,h⟩;subst f;refine au ?_;obtain⟨i,d,_,F,b⟩:=bindE F;refine bd (fun e w'=>∃b2,i b2=V o1/\e=[(0,.string s),(3,vi g),(4,.bool b1),(5,.bool b2)]/\SH w w' []) ?_ ?_
  .refine X0 3 Z ?_;obtain⟨_,l,F⟩:=qc F;have x:=AU l;refine dK (CQ qa x Z Z Z Z) Z (lY Z (qh (t:=26) F Z ?_ ?_))<;>intro F
   .refine X0 5 Z ?_;obtain⟨_,o,F⟩:=qc F;have y:=AU o;refine dK (CQ qa y Z Z Z Z) Z (X0 5 Z ?_);exact rH F b h Z
   refine X0 7 Z ?_;exact rH F b h Z
  rintro _ _ ⟨b2,F,rfl,h⟩;subst d;refine X0 5 Z (qh (t:=34) F Z ?_ ?_)<;>intro F
  .refine X0 4 Z (qh (t:=36) F Z ?_ ?_)<;>intro F
   .refine X0 10 Z (qp Z F ?_ ?_)<;>intro F
    .refine X0 4 Z ?_;cases qe F;exact rb h a Z
    exact X0 7 Z (rK ⟨_,F,Z,h⟩ Z)
   refine X0 8 Z (eI Z Z (X0 4 Z ?_));cases qe F;exact rb h a Z
  exact X0 8 Z (ch Z Z (X0 7 Z (rK ⟨_,F,Z,h⟩ Z)))
 refine qx Z ?_;cases qe F;have F:=a;refine X0 6 Z (qh (t:=45) F Z ?_ ?_)<;>intro F
 .exact X0 9 Z (rb h F Z)
 exact X0 6 Z (rb h F Z)
def mp(Ce:qR)(b:Int)(c:bj):Nat->Int->Option (eE (Int×Bool) Int)|0,_=>U|n+1,a=>bif decide (a<b) then(qF Ce.Bg a).bind fun d=>bif (d.Bh.toList==c.Bh.toList) then V (.ret (0,Cd)) else mp Ce b c n (qj (a+1)) else V (.nxt a)
def gQ(Ce:qR):Nat->Int->Int->Option (eE (Int×Bool) (Int×Int))|0,_,_=>U|n+1,c,a=>bif decide (a<(Ce.Bg.length:Int)) then(qF Ce.Bg a).bind fun b=>(mp Ce a b n 0).bind fun|.ret r=>V (.ret r)|.nxt _=>((oq n b.Bh).bind fun r1=>bif (!r1) then V An else(aW n b.Br 0 500).bind fun g=>V (!g)).bind fun d=>bif d then V (.ret (0,Cd)) else(bif (a==(qj ((Ce.Bg.length:Int)-1))) then bif (b.Bx != 2) then V An else bif (b.Br != 0) then V An else bif b.Bs then V An else bif decide (a<(qj ((Ce.Bg.length:Int)-1))) then V (b.Bx != 1) else V Cd else bif decide (a<(qj ((Ce.Bg.length:Int)-1))) then V (b.Bx != 1) else V Cd).bind fun f=>bif f then V (.ret (0,Cd)) else bif b.Bs then gQ Ce n (qj (c+1)) (qj (a+1)) else gQ Ce n c (qj (a+1)) else V (.nxt (c,a))
def wd(n:Nat)(Ce:qR):Option (Int×Bool):=(bif decide ((Ce.Bg.length:Int)<2) then V An else V (decide ((Ce.Bg.length:Int) > 5))).bind fun b1=>bif b1 then V (0,Cd) else(gQ Ce n 0 0).bind fun|.ret r=>V r|.nxt (a,_)=>V (a,An)
theorem LH{Ce:qR}(I:Ro w Ce cs1){r:Int×Bool}(F:wd n Ce=V r):qP prog 239 [gv Ce cs1] w r:=by
 obtain⟨p1,u,x,v,y,k3,rfl,s1,_,_⟩:=aV I;refine zV 86 func239 Z fun h=>dE (qJ h Z Z fun _ a h=>X1 12 0 h Z ?_);obtain⟨C,s,_,F,l⟩:=bindE F;refine bd (fun e w'=>∃b1,C b1=V r/\e=[(1,vp a),(4,vi (Ce.Bg.length:Int)),(17,.bool b1)]/\SH w w' [oX a (qO Ce p1 x y u v k3) 106]) ?_ ?_
 .refine X0 4 Z (qh (t:=14) F Z ?_ ?_)<;>intro F
  .refine X0 4 Z ?_;exact rH F l h Z
  refine X0 6 Z ?_;exact rH F l h Z
 rintro _ _ ⟨b1,F,rfl,h⟩;subst s;refine qp Z F ?_ ?_<;>intro F
 .refine X0 5 Z ?_;cases qe F;exact aq qa (ρ:=(Int×Bool)) [oV Int [vi 0],oV Bool [.bool Cd]] h ⟨Z,Z,G⟩ (Cq h (ai h vk ul (by rfl)))
 refine X0 10 Z ?_;obtain⟨o1,F,d⟩:=qc F;refine qr (rL (fun m e w'=>∃f g,gQ Ce m f g=V o1/\e=[(1,vp a),(4,vi (Ce.Bg.length:Int)),(5,vi f),(6,vi g)]/\SH w w' [oX a (qO Ce p1 x y u v k3) 106]) n ⟨_,_,F,Z,h⟩ Z ?_);rintro W _ _ ⟨f,g,F,rfl,h⟩;rcases W with _|W
 .cases F
 refine X0 7 Z (qp Z F ?_ ?_)<;>intro F
 .refine X1 8 0 h Z ?_;obtain⟨z,_,F,L,_,_,_,_,N,P,R,J⟩:=s1.ix F;obtain rfl:=mf R;refine fG N P L Z (bN 0 J h Z (qi qa h Z Z Z fun _ c h=>zs 0 h Z fun _ h=>X0 6 Z ?_));obtain⟨o2,F,i⟩:=qc F;refine qr (rL (fun m e w'=>∃T,mp Ce g z m T=V o2/\e=[(1,vp a),(4,vi (Ce.Bg.length:Int)),(5,vi f),(6,vi g),(7,vp c),(8,vi T)]/\SH w w' [oX c (MJ z) 304,oX a (qO Ce p1 x y u v k3) 106]) W ⟨_,F,Z,h⟩ Z ?_);rintro X _ _ ⟨T,F,rfl,h⟩;rcases X with _|X
  .cases F
  refine X0 7 Z (qp Z F ?_ ?_)<;>intro F
  .refine X0 4 Z (rD (Y1 2 1 h Z ?_));refine vD Z ?_;obtain⟨_,_,F,M,_,_,_,_,O,Q,S,K⟩:=s1.ix F;obtain rfl:=mf S;refine hG O Q M Z (vD Z (fF 0 K h Z (Y1 2 0 h Z ?_)));refine vD Z (dN h fun _ h=>qp Z F ?_ ?_)<;>intro F
   .refine X0 5 Z ?_;cases qe F;have F:=i;cases qe F;have F:=d;cases qe F;exact aq qa (ρ:=(Int×Bool)) [oV Int [vi 0],oV Bool [.bool Cd]] h ⟨Z,Z,G⟩ (Cq h (ai h vk ul (by rfl)))
   exact X0 7 Z (rK ⟨_,F,Z,h⟩ Z)
  refine qx Z ?_;cases qe F;have F:=i;refine qc3 ?_;obtain⟨B,p,_,F,k⟩:=bindE F;refine bd (fun e w'=>∃D,B D=V o1/\e=[(1,vp a),(4,vi (Ce.Bg.length:Int)),(5,vi f),(6,vi g),(7,vp c),(51,.bool D)]/\SH w w' [oX c (MJ z) 304,oX a (qO Ce p1 x y u v k3) 106]) ?_ ?_
  .refine X1 3 0 h Z (dF h F sv Z fun _ _ h F=>lY Z (qh (t:=46) F Z ?_ ?_))<;>intro F
   .refine X0 6 Z ?_;exact rH F k h Z
   refine X1 5 0 h Z (dF h F aF Z fun _ _ h F=>X0 4 Z ?_);exact rH F k h Z
  rintro _ _ ⟨D,F,rfl,h⟩;subst p;refine qp Z F ?_ ?_<;>intro F
  .refine X0 5 Z ?_;cases qe F;have F:=d;cases qe F;exact aq qa (ρ:=(Int×Bool)) [oV Int [vi 0],oV Bool [.bool Cd]] h ⟨Z,Z,G⟩ (Cq h (ai h vk ul (by rfl)))
  refine ZT ?_;obtain⟨A,o,_,F,b⟩:=bindE F;refine bd (fun e w'=>∃H,A H=V o1/\e=[(1,vp a),(4,vi (Ce.Bg.length:Int)),(5,vi f),(6,vi g),(7,vp c),(80,.bool H)]/\SH w w' [oX c (MJ z) 304,oX a (qO Ce p1 x y u v k3) 106]) ?_ ?_
  .refine X0 6 Z (qh (t:=56) F Z ?_ ?_)<;>intro F
   .refine X1 8 0 h Z (qh (t:=60) F Z ?_ ?_)<;>intro F
    .refine X0 24 Z ?_;exact rH F b h Z
    refine X1 10 0 h Z (qh (t:=65) F Z ?_ ?_)<;>intro F
    .refine X0 17 Z ?_;exact rH F b h Z
    refine X1 8 0 h Z (qh (t:=70) F Z ?_ ?_)<;>intro F
    .refine X0 11 Z ?_;exact rH F b h Z
    refine X0 10 Z (qh (t:=75) F Z ?_ ?_)<;>intro F
    .refine X1 10 0 h Z ?_;exact rH F b h Z
    refine X0 7 Z ?_;exact rH F b h Z
   refine X0 24 Z (qh (t:=75) F Z ?_ ?_)<;>intro F
   .refine X1 10 0 h Z ?_;exact rH F b h Z
   refine X0 7 Z ?_;exact rH F b h Z
  rintro _ _ ⟨H,F,rfl,h⟩;subst o;refine qp Z F ?_ ?_<;>intro F
  .refine X0 5 Z ?_;cases qe F;have F:=d;cases qe F;exact aq qa (ρ:=(Int×Bool)) [oV Int [vi 0],oV Bool [.bool Cd]] h ⟨Z,Z,G⟩ (Cq h (ai h vk ul (by rfl)))
  refine X1 6 0 h Z (qp Z F ?_ ?_)<;>intro F
  .refine X0 11 Z ?_;exact rK ⟨_,_,F,Z,h.p [1] Z⟩ Z
  refine X0 7 Z ?_;exact rK ⟨_,_,F,Z,h.p [1] Z⟩ Z
 refine qx Z ?_;cases qe F;have F:=d;refine X0 6 Z ?_;cases qe F;exact aq qa (ρ:=(Int×Bool)) [oV Int [vi f],oV Bool [.bool An]] h ⟨Z,Z,G⟩ (Cq h (ai h vk ul (by rfl)))
def kv(list:List Int):Nat->Int->Option (eE Bool Int)|0,_=>U|n+1,a=>bif decide (a<(list.length:Int)) then(qF list a).bind fun b=>(aW n b 0 100000).bind fun r1=>bif (!r1) then V (.ret Cd) else bif decide (a > 0) then(qF list (qj (a-1))).bind fun c=>(qF list a).bind fun d=>bif decide (c>=d) then V (.ret Cd) else kv list n (qj (a+1)) else kv list n (qj (a+1)) else V (.nxt a)
def tW(n:Nat)(list:List Int):Option Bool:=(kv list n 0).bind fun|.ret r=>V r|.nxt _=>bif decide ((list.length:Int)>=1) then V (decide ((list.length:Int)<=4)) else V Cd
theorem zW{list:List Int}(b:Ro w list cs1){r:Bool}(F:tW n list=V r):qP prog 202 [gv list cs1] w r:=by
 obtain⟨p1,A,rfl,s1⟩:=b;refine zV 40 func202 Z fun h=>X0 9 Z ?_;obtain⟨o1,F,a⟩:=qc F;refine qr (rL (fun m e w'=>∃y,kv list m y=V o1/\e=[(0,oL p1 list A),(3,vi y)]/\SH w w' []) n ⟨_,F,Z,h⟩ Z ?_);rintro z _ _ ⟨y,F,rfl,h⟩;rcases z with _|z
 .cases F
 refine X0 8 Z (qp Z F ?_ ?_)<;>intro F
 .refine X0 4 Z (rD (xQ Z ?_));obtain⟨_,_,F,g,_,_,_,_,l,s,rfl,c⟩:=s1.ix F;refine hG l s g Z (fF 0 c h Z ?_);obtain⟨r1,x,F⟩:=qc F;refine en r1 (KO _) (cB 32 Z) (fun _ B=>aF  x) Z Z Z Z (xQ Z (bJ (t:=16) F Z ?_ ?_))<;>intro F
  .refine Y0 15 Z (dN h fun _ h=>eI Z Z (X0 4 Z ?_));cases qe F;exact rb h a Z
  refine Y0 6 Z (bJ (t:=19) F Z ?_ ?_)<;>intro F
  .refine Y0 7 Z ?_;obtain⟨_,_,F,i,_,_,_,_,o,u,rfl,d⟩:=s1.ix F;refine hG o u i Z (Y0 1 Z (fF 0 d h Z (Y0 5 Z ?_)));obtain⟨_,_,F,k,_,_,_,_,p,v,rfl,f⟩:=s1.ix F;refine hG p v k Z (Y0 1 Z (fF 0 f h Z (Y0 5 Z (dN h fun _ h=>qp Z F ?_ ?_))))<;>intro F
   .refine X0 4 Z ?_;cases qe F;exact rb h a Z
   exact X0 7 Z (rK ⟨_,F,Z,h⟩ Z)
  exact Y0 13 Z (dN h fun _ h=>ch Z Z (X0 7 Z (rK ⟨_,F,Z,h⟩ Z)))
 refine qx Z ?_;cases qe F;have F:=a;refine X0 6 Z (qh (t:=35) F Z ?_ ?_)<;>intro F
 .exact X0 9 Z (rb h F Z)
 exact X0 6 Z (rb h F Z)
def mi(t:aa):Nat->Int->Option (eE Bool Int)|0,_=>U|n+1,a=>bif decide (a<(t.Bi.length:Int)) then(qF t.Bi a).bind fun b=>(aW n b (-1000000) 1000000).bind fun r1=>bif (!r1) then V (.ret Cd) else mi t n (qj (a+1)) else V (.nxt a)
def vY(n:Nat)(t:aa):Option Bool:=((tW n t.Bp).bind fun a=>bif (!a) then V An else(tW n t.Bm).bind fun b=>bif (!b) then V An else V ((t.Bi.length:Int) != (qj ((t.Bp.length:Int)*(t.Bm.length:Int))))).bind fun b1=>bif b1 then V Cd else(mi t n 0).bind fun|.ret r=>V r|.nxt _=>V An
theorem LG{t:aa}(g:Ro w t cs1){r:Bool}(F:vY n t=V r):qP prog 146 [gv t cs1] w r:=by
 obtain⟨p1,s,x,u,y,k3,rfl,s1,s2,z⟩:=fk g;refine zV 41 func146 Z fun h=>dE (qJ h Z Z fun _ a h=>X0 4 Z ?_);obtain⟨f,d,_,F,b⟩:=bindE F;refine bd (fun e w'=>∃b1,f b1=V r/\e=[(1,vp a),(26,.bool b1)]/\SH w w' [oX a (lC t p1 x y s u k3) 175]) ?_ ?_
 .refine X1 3 0 h Z (dF h F (zW ⟨_,_,Z,(h.oldS s1)⟩) Z fun _ _ h F=>lY Z (qh (t:=8) F Z ?_ ?_))<;>intro F
  .refine X0 19 Z ?_;exact rH F b h Z
  refine X1 5 0 h Z (dF h F (zW ⟨_,_,Z,(h.oldS s2)⟩) Z fun _ _ h F=>X0 4 Z (qh (t:=14) F Z ?_ ?_))<;>intro F
  .refine X0 13 Z ?_;exact rH F b h Z
  refine X3 24 0 0 0 h Z ?_;exact rH F b h Z
 rintro _ _ ⟨b1,F,rfl,h⟩;subst d;refine qp Z F ?_ ?_<;>intro F
 .exact X0 4 Z (rb h F Z)
 refine X0 6 Z ?_;obtain⟨o1,F,c⟩:=qc F;refine qr (rL (fun m e w'=>∃p,mi t m p=V o1/\e=[(1,vp a),(3,vi p)]/\SH w w' [oX a (lC t p1 x y s u k3) 175]) n ⟨_,F,Z,h⟩ Z ?_);rintro v _ _ ⟨p,F,rfl,h⟩;rcases v with _|v
 .cases F
 refine X1 9 0 h Z (qp Z F ?_ ?_)<;>intro F
 .refine X1 8 0 h Z ?_;obtain⟨_,_,F,k,_,_,_,_,l,o,rfl,i⟩:=z.ix F;refine fG l o k Z (bN 0 i h Z (dF h F aF Z fun _ _ h F=>X0 2 Z (qp Z F ?_ ?_)))<;>intro F
  .refine X0 4 Z ?_;cases qe F;exact rb h c Z
  exact X0 7 Z (rK ⟨_,F,Z,h⟩ Z)
 refine qx Z ?_;cases qe F;exact X0 4 Z (rb h c Z)
def gE(t:aa):Nat->Int->Int->Int->Option (Int×Int×Int)|0,_,_,_=>U|n+1,b,c,a=>bif decide (a<(t.Bi.length:Int)) then(qF t.Bi a).bind fun d=>(qF t.Bi a).bind fun f=>gE t n (if d<b then d else b) (if f > c then f else c) (qj (a+1)) else V (b,c,a)
def rm(n:Nat)(t:aa):Option (qg×Int):=(vY n t).bind fun r1=>bif (!r1) then V ((⟨0,0⟩:qg),1) else(qF t.Bi 0).bind fun c=>(qF t.Bi 0).bind fun d=>(gE t n c d 1).bind fun(a,b,_)=>V ((⟨a,b⟩:qg),0)
theorem DY{t:aa}(d:Ro w t cs1){r:qg×Int}(F:rm n t=V r):qP prog 278 [gv t cs1] w r:=by
 obtain⟨p1,M,O,N,P,k3,rfl,_,_,i⟩:=fk d;refine zV 45 func278 Z fun h=>dE (qJ h Z Z fun _ a h=>qi qa h Z Z Z fun _ b h=>X1 6 1 h Z (dF h F (LG (h.old d)) Z fun _ _ h F=>X0 2 Z (qp Z F ?_ ?_)))<;>intro F
 .refine dE (dK (qC qa [] [] z8) Z (zs 0 h Z fun _ h=>X0 2 Z ?_));cases qe F;exact aq qa (ρ:=(qg×Int)) [oV qg [vi 0,vi 0],oV Int [vi 1]] h ⟨⟨_,_,_,Z,Z,h.box 0 Z,Z⟩,Z,G⟩ (Cq h (ai h (lT (S:=fun _=>False) (qI (⟨0,0⟩:qg))) ul (by rfl)))
 refine E1 (rA [] [1] h Z fun _ h=>M1 3 [0,1] 0 (h.p [1] Z) Z ?_);obtain⟨_,_,F,u,_,_,_,_,z,D,rfl,l⟩:=i.ix F;refine Ae 2 7 z D u (h.p [1] Z) Z (Al 3 15 0 l (h.p [1] Z) Z (M1 63 [4,5] 0 (h.p [1] Z) Z ?_));obtain⟨_,_,F,v,_,_,_,_,A,H,rfl,o⟩:=i.ix F;refine Ae 6 127 A H v (h.p [1] Z) Z (Al 7 255 0 o (h.p [1] Z) Z (Aw 8 511 (fun w' R=>qC qa [0,1] [.tmp 13,.tmp 17] z8) (h.p [1] Z) Z ?_));refine Ao 9 1023 Z (qi qa h Z Z Z fun _ c h=>Ag (h.p [2] Z) (Ao 10 2047 Z (zs 0 h Z fun _ h=>Ag (h.p [2] Z) (Ad (X0 5 Z ?_)))));obtain⟨o1,F,k⟩:=qc F;refine qr (rL (fun m e w'=>∃f g K,gE t m f g K=V o1/\e=[(1,vp a),(2,vp b),(4,vp c),(5,vi K)]/\SH w w' [oX c [vi f,vi g] 59,oX b [vi 0,vi 0] 59,oX a (lC t p1 O P M N k3) 175]) n ⟨_,_,_,F,Z,h⟩ Z ?_);rintro L _ _ ⟨f,g,K,F,rfl,h⟩;rcases L with _|L
 .cases F
 refine X1 9 2 h Z (qp Z F ?_ ?_)<;>intro F
 .refine X0 4 Z (rA [9] [0,2] h Z fun _ h=>M2 31 [0,1,2,3,4] 0 1 (h.p [0,2] Z) Z ?_);obtain⟨_,_,F,x,_,_,_,_,B,I,rfl,p⟩:=i.ix F;refine Ae 5 63 B I x (h.p [0,2] Z) Z (Al 6 127 0 p (h.p [0,2] Z) Z (M0 511 [7,8] (h.p [0,2] Z) Z (Ao 9 1023 Z (zs 0 h Z fun _ h=>bL (fun Q=>absurd (Q 9 (by decide)) (by decide)) (Ad (rA [9] [0,2] h Z fun _ h=>M2 31 [0,1,2,3,4] 0 1 (h.p [0,2] Z) Z ?_))))));obtain⟨_,_,F,y,_,_,_,_,C,J,rfl,s⟩:=i.ix F;exact Ae 5 63 C J y (h.p [0,2] Z) Z (Al 6 127 0 s (h.p [0,2] Z) Z (M0 511 [7,8] (h.p [0,2] Z) Z (Ao 9 1023 Z (zs 0 h Z fun _ h=>bL (fun Q=>absurd (Q 9 (by decide)) (by decide)) (Ad (X0 6 Z (rK ⟨_,_,_,F,Z,h⟩ Z)))))))
 refine qx Z ?_;cases qe F;have F:=k;refine X1 3 0 h Z (zs 1 h Z fun _ h=>X0 2 Z ?_);cases qe F;exact aq qa (ρ:=(qg×Int)) [oV qg [vi f,vi g],oV Int [vi 0]] h ⟨⟨_,_,_,Z,Z,h.box 1 Z,Z⟩,Z,G⟩ (Cq h (ai h (lT (S:=fun _=>False) (qI (⟨f,g⟩:qg))) ul (by rfl)))
def gr(list:List aa)(f:Bool):Nat->Int->Option (eE Bool Int)|0,_=>U|n+1,a=>bif decide (a<2) then(qF list a).bind fun d=>(rm n d).bind fun(b,c)=>bif (c != 0) then V (.ret Cd) else bif f then bif decide (b.As<0) then V (.ret Cd) else gr list f n (qj (a+1)) else gr list f n (qj (a+1)) else V (.nxt a)
def iY(n:Nat)(list:List aa)(a:Bool):Option Bool:=bif ((list.length:Int) != 2) then V Cd else(gr list a n 0).bind fun|.ret r=>V r|.nxt _=>V An
theorem mK{list:List aa}{positive}(c:Ro w list cs1){r:Bool}(F:iY n list positive=V r):qP prog 265 [gv list cs1,.bool positive] w r:=by
 obtain⟨p1,x,rfl,s1⟩:=c;refine zV 33 func265 Z fun h=>X0 11 Z (qp Z F ?_ ?_)<;>intro F
 .exact X0 4 Z (rb h F Z)
 refine X0 6 Z ?_;obtain⟨o1,F,a⟩:=qc F;refine qr (rL (fun m e w'=>∃u,gr list positive m u=V o1/\e=[(0,oL p1 list x),(1,.bool positive),(5,vi u)]/\SH w w' []) n ⟨_,F,Z,h⟩ Z ?_);rintro v _ _ ⟨u,F,rfl,h⟩;rcases v with _|v
 .cases F
 refine X0 6 Z (qp Z F ?_ ?_)<;>intro F
 .refine X0 7 Z ?_;obtain⟨C,_,F,f,_,_,_,_,g,i,k,d⟩:=s1.ix F;obtain⟨_,_,_,_,_,_,rfl,s2,A,B⟩:=fk k;refine fG g i f Z (bN 0 d h Z ?_);obtain⟨⟨y,z⟩,l,F⟩:=qc F;refine bG (y,z) h (cB 278 Z) (DY (uF C (h.oldS s2) (h.oldS A) (h.oldS B)) l) Z Z Z Z fun _ _ _ s o=>?_;obtain⟨_,_,_,_,rfl,b,p⟩:=s.cons o;obtain rfl:=qA (b.sh.own 0 Z);obtain⟨rfl,h⟩:=b.lastI p;refine EK Z (qi qa h Z Z Z fun _ _ h=>zs 0 h Z fun _ h=>X0 7 Z (qh (t:=25) F Z ?_ ?_))<;>intro F
  .refine X0 8 Z (eI Z Z (X0 4 Z ?_));cases qe F;exact rb h a Z
  refine X0 4 Z (qh (t:=27) F Z ?_ ?_)<;>intro F
  .refine X1 10 0 h Z (qp Z F ?_ ?_)<;>intro F
   .refine X0 4 Z ?_;cases qe F;exact rb h a Z
   refine X0 7 Z ?_;exact rK ⟨_,F,Z,h.p [] Z⟩ Z
  refine X0 7 Z (ch Z Z (X0 7 Z ?_));exact rK ⟨_,F,Z,h.p [] Z⟩ Z
 refine qx Z ?_;cases qe F;exact X0 4 Z (rb h a Z)
def xH(n:Nat)(Ce:qR)(Cf:bi):Option Bool:=((aW n Cf.Bk 0 (qj ((qj ((Ce.Bg.length:Int)-1))-1))).bind fun i=>bif (!i) then V An else(aW n Cf.To 0 (qj ((Ce.Bg.length:Int)-1))).bind fun k=>V (!k)).bind fun b1=>bif b1 then V Cd else(qF Ce.Bg Cf.Bk).bind fun a=>bif (Cf.Bf==1) then bif (!a.Bs) then bif (Cf.To==(qj ((Ce.Bg.length:Int)-1))) then(aW n Cf.Bq 1 3).bind fun r1=>bif r1 then(iY n Cf.Bu An).bind fun c=>bif c then(iY n Cf.Bb An).bind fun d=>V d else V Cd else V Cd else V Cd else V Cd else(bif (Cf.Bf==2) then V (Cf.Bf==2) else V (Cf.Bf==3)).bind fun b3=>bif b3 then bif a.Bs then bif (Cf.To==(qj ((Ce.Bg.length:Int)-1))) then bif (Cf.Bq==0) then(iY n Cf.Bu An).bind fun f=>bif f then(iY n Cf.Bb An).bind fun g=>V g else V Cd else V Cd else V Cd else V Cd else(bif (Cf.Bf==4) then V (Cf.Bf==4) else V (Cf.Bf==5)).bind fun b=>bif b then bif a.Bs then bif decide (Cf.To<(qj ((Ce.Bg.length:Int)-1))) then(qF Ce.Bg Cf.To).bind fun l=>bif (!l.Bs) then bif (Cf.Bq==0) then(iY n Cf.Bu Cd).bind fun h=>bif h then V ((Cf.Bb.length:Int)==0) else V Cd else V Cd else V Cd else V Cd else V Cd else V Cd
theorem NR{Ce:qR}{Cf:bi}(s:Ro w Ce cs1)(u:Ro w Cf cs2){r:Bool}(F:xH n Ce Cf=V r):qP prog 240 [gv Ce cs1,gv Cf cs2] w r:=by
 obtain⟨p1,J,N,K,O,k3,rfl,s1,_,_⟩:=aV s;obtain⟨P,L,Q,M,rfl,R,S⟩:=bq u;refine zV 119 func240 Z fun h=>dE (qJ h Z Z fun _ a h=>qJ h Z Z fun _ b h=>X1 12 1 h Z ?_);obtain⟨o,k,_,F,f⟩:=bindE F;refine bd (fun e w'=>∃b1,o b1=V r/\e=[(2,vp a),(3,vp b),(5,vi (qj ((Ce.Bg.length:Int)-1))),(23,.bool b1)]/\SH w w' [oX b (kq Cf P Q L M) 109,oX a (qO Ce p1 N O J K k3) 106]) ?_ ?_
 .refine X1 5 0 h Z (dF h F aF Z fun _ _ h F=>lY Z (qh (t:=17) F Z ?_ ?_))<;>intro F
  .refine X0 7 Z ?_;exact rH F f h Z
  refine X1 7 0 h Z (dF h F aF Z fun _ _ h F=>X0 4 Z ?_);exact rH F f h Z
 rintro _ _ ⟨b1,F,rfl,h⟩;subst k;refine qp Z F ?_ ?_<;>intro F
 .exact X0 4 Z (rb h F Z)
 refine X2 7 1 0 h Z ?_;obtain⟨T,_,F,y,_,_,_,_,A,C,H,v⟩:=s1.ix F;obtain rfl:=mf H;refine fG A C y Z (cq Z (bN 3 v h Z (X1 14 0 h Z (qp Z F ?_ ?_))))<;>intro F
 .refine X0 5 Z (qh (t:=37) F Z ?_ ?_)<;>intro F
  .refine X1 10 0 h Z (qh (t:=43) F Z ?_ ?_)<;>intro F
   .refine X1 5 0 h Z (dF h F aF Z fun _ _ h F=>lY Z (qh (t:=48) F Z ?_ ?_))<;>intro F
    .refine X1 5 0 h Z (dF h F (mK ⟨_,_,Z,(h.oldS R)⟩) Z fun _ _ h F=>lY Z (qh (t:=53) F Z ?_ ?_))<;>intro F
     .exact X1 5 0 h Z (dF h F (mK ⟨_,_,Z,(h.oldS S)⟩) Z fun _ _ h F=>X0 3 Z (rb h F Z))
     exact X0 6 Z (rb h F Z)
    exact X0 11 Z (rb h F Z)
   exact X0 16 Z (rb h F Z)
  exact X0 22 Z (rb h F Z)
 refine X0 6 Z ?_;obtain⟨m,i,_,F,d⟩:=bindE F;refine bd (fun e w'=>∃b3,m b3=V r/\e=[(2,vp a),(3,vp b),(5,vi (qj ((Ce.Bg.length:Int)-1))),(6,.bool T.Bs),(32,vi Cf.Bf),(58,.bool b3)]/\SH w w' [oX b (kq Cf P Q L M) 109,oX a (qO Ce p1 N O J K k3) 106]) ?_ ?_
 .refine qp Z F ?_ ?_<;>intro F
  .refine ez ?_;exact rH F d h Z
  refine X0 4 Z ?_;exact rH F d h Z
 rintro _ _ ⟨b3,F,rfl,h⟩;subst i;refine qp Z F ?_ ?_<;>intro F
 .refine X0 4 Z (qh (t:=62) F Z ?_ ?_)<;>intro F
  .refine X1 10 0 h Z (qh (t:=68) F Z ?_ ?_)<;>intro F
   .refine X1 8 0 h Z (qh (t:=73) F Z ?_ ?_)<;>intro F
    .refine X1 5 0 h Z (dF h F (mK ⟨_,_,Z,(h.oldS R)⟩) Z fun _ _ h F=>lY Z (qh (t:=78) F Z ?_ ?_))<;>intro F
     .exact X1 5 0 h Z (dF h F (mK ⟨_,_,Z,(h.oldS S)⟩) Z fun _ _ h F=>X0 3 Z (rb h F Z))
     exact X0 6 Z (rb h F Z)
    exact X0 11 Z (rb h F Z)
   exact X0 16 Z (rb h F Z)
  exact X0 22 Z (rb h F Z)
 refine X0 6 Z ?_;obtain⟨l,g,_,F,c⟩:=bindE F;refine bd (fun e w'=>∃p,l p=V r/\e=[(2,vp a),(3,vp b),(5,vi (qj ((Ce.Bg.length:Int)-1))),(6,.bool T.Bs),(83,.bool p)]/\SH w w' [oX b (kq Cf P Q L M) 109,oX a (qO Ce p1 N O J K k3) 106]) ?_ ?_
 .refine qp Z F ?_ ?_<;>intro F
  .refine ez ?_;exact rH F c h Z
  refine X0 4 Z ?_;exact rH F c h Z
 rintro _ _ ⟨p,F,rfl,h⟩;subst g;refine qp Z F ?_ ?_<;>intro F
 .refine X0 4 Z (qh (t:=87) F Z ?_ ?_)<;>intro F
  .refine X1 10 0 h Z (qh (t:=93) F Z ?_ ?_)<;>intro F
   .refine X2 9 1 0 h Z ?_;obtain⟨_,_,F,z,_,_,_,_,B,D,I,x⟩:=s1.ix F;obtain rfl:=mf I;refine fG B D z Z (X0 3 Z (bN 3 x h Z (X0 4 Z (qh (t:=103) F Z ?_ ?_))))<;>intro F
    .refine X1 8 0 h Z (qh (t:=108) F Z ?_ ?_)<;>intro F
     .refine X1 5 0 h Z (dF h F (mK ⟨_,_,Z,(h.oldS R)⟩) Z fun _ _ h F=>lY Z (qh (t:=113) F Z ?_ ?_))<;>intro F
      .exact X1 11 0 h Z (rb h F Z)
      exact X0 7 Z (rb h F Z)
     exact X0 12 Z (rb h F Z)
    exact X0 17 Z (rb h F Z)
   exact X0 27 Z (rb h F Z)
  exact X0 33 Z (rb h F Z)
 exact X0 6 Z (rb h F Z)
def io(c:qR):Nat->(List Int)->Int->Option ((List Int)×Int)|0,_,_=>U|n+1,b,a=>bif decide (a<(c.Az.length:Int)) then(qF c.Az a).bind fun d=>(qF b d.Bf).bind fun f=>(qF b d.Bf).bind fun _=>io c n (ak b d.Bf (qj (f+1))) (qj (a+1)) else V (b,a)
def uR(n:Nat)(c:qR):Option (List Int):=(xY 6 (0:Int)).bind fun x1=>(io c n x1 0).bind fun(a,_)=>V a
theorem IQ{c:qR}(l:Ro w c cs1){r:List Int}(F:uR n c=V r):qP prog 241 [gv c cs1] w r:=by
 obtain⟨p1,K,M,L,N,k3,rfl,_,s2,_⟩:=aV l;refine zV 25 func241 Z fun h=>dE (qJ h Z Z fun _ b h=>X0 4 Z ?_);obtain⟨x1,a,F⟩:=qc F;obtain⟨I,J,a⟩:=aL a;refine bv qa Int h z9 I J a Z fun _ S1 H h=>X0 7 Z ?_;obtain⟨o1,F,k⟩:=qc F;refine qr (rL (fun m e w'=>∃C B,io c m C B=V o1/\e=[(1,vp b),(3,oS H x1.length x1.length),(4,vi B)]/\SH w w' [oW S1 (C:List Int) [oS H x1.length x1.length],oX b (qO c p1 M N K L k3) 106]) n ⟨_,_,F,Z,h⟩ Z ?_);rintro D _ _ ⟨C,B,F,rfl,h⟩;rcases D with _|D
 .cases F
 refine X1 9 1 h Z (qp Z F ?_ ?_)<;>intro F
 .refine X1 8 1 h Z ?_;obtain⟨_,_,F,t,_,_,_,_,u,x,z,o⟩:=s2.ix F;obtain⟨_,_,_,_,rfl,_,_⟩:=bq z;refine fG u x t Z (cq Z (bN 0 o h Z ?_));obtain⟨O,_,F,d,_,_,_,_,v,y,rfl,p⟩:=(h.sl 0 Z).1.ix F;refine zx v y ⟨d.1,qD d.2.1 (h.sl 0 Z).2⟩ Z (zc 0 p Z (cq Z ?_));obtain⟨_,A,F,f,_,_,_,_,g,i,rfl,s⟩:=(h.sl 0 Z).1.ix F;exact zx g i ⟨f.1,qD f.2.1 (h.sl 0 Z).2⟩ Z (bK qa 0 0 (qj (O+1)) h Z A g i Z s Z Z Z Z Z Z Z fun _ h=>X0 7 Z (rK ⟨_,_,F,Z,h⟩ Z))
 refine qx Z ?_;cases qe F;have F:=k;refine X0 5 Z ?_;cases qe F;exact rO 0 h Z ⟨Z,G⟩
end Go.Fw


namespace Go.Fw
open Go Go.Proofs Go.Proofs.Tryz
open Go.RowKit (Below)
open Ch renaming own->oW,box->oX,grp->oG
open qm renaming v->oV
open Go.Value renaming slice->oS
set_option maxRecDepth 100000
set_option maxHeartbeats 6400000
variable{n:Nat}{w:World}{cs1 cs2 cs3 cs4 cs5 cs6 cs7 cs8 cs9:List Value}
def iX(Ce:qR)(c:Int)(b:bi):Nat->Int->Option (eE Bool Int)|0,_=>U|n+1,a=>bif decide (a<c) then(qF Ce.Az a).bind fun d=>bif (d.Bf==b.Bf) then(qF Ce.Az a).bind fun f=>bif (f.Bk==b.Bk) then(qF Ce.Az a).bind fun g=>bif (g.To==b.To) then V (.ret Cd) else iX Ce c b n (qj (a+1)) else iX Ce c b n (qj (a+1)) else iX Ce c b n (qj (a+1)) else V (.nxt a)
def nK(Ce:qR):Nat->Int->Option (eE Bool Int)|0,_=>U|n+1,a=>bif decide (a<(Ce.Bt.length:Int)) then(qF Ce.Bt a).bind fun c=>(aW n c 0 1).bind fun b=>bif (!b) then V (.ret Cd) else nK Ce n (qj (a+1)) else V (.nxt a)
def nJ(Ce:qR):Nat->Int->Option (eE Bool Int)|0,_=>U|n+1,a=>bif decide (a<(Ce.Az.length:Int)) then(qF Ce.Az a).bind fun b=>(xH n Ce b).bind fun c=>bif (!c) then V (.ret Cd) else(iX Ce a b n 0).bind fun|.ret r=>V (.ret r)|.nxt _=>nJ Ce n (qj (a+1)) else V (.nxt a)
def xD(n:Nat)(Ce:qR):Option Bool:=(wd n Ce).bind fun(b,g)=>(bif (!g) then V An else(oq n Ce.Bh).bind fun h=>bif (!h) then V An else bif decide ((Ce.Az.length:Int) > 8) then V An else(aW n Ce.Cc 0 100000).bind fun i=>bif (!i) then V An else(aW n Ce.Bz 0 100000).bind fun k=>V (!k)).bind fun b1=>bif b1 then V Cd else(nJ Ce n 0).bind fun|.ret r=>V r|.nxt _=>(uR n Ce).bind fun a=>bif (Ce.Bf==1) then(nK Ce n 0).bind fun|.ret r=>V r|.nxt _=>bif (b==0) then(ZJ 1 (IntKind.wrap .u64 (qj ((Ce.Bg.length:Int)-1)))).bind fun l=>V ((Ce.Bt.length:Int)==l) else V Cd else bif (Ce.Bf==2) then bif (b==1) then(qF a 1).bind fun m=>bif (m==0) then(qF a 2).bind fun p=>(qF a 3).bind fun s=>bif (!((decide (p > 0))==(decide (s > 0)))) then V ((Ce.Bt.length:Int)==0) else V Cd else V Cd else V Cd else bif (Ce.Bf==3) then bif (b==1) then(qF a 1).bind fun c=>bif decide (c > 0) then(qF a 2).bind fun d=>bif decide (d > 0) then(qF a 3).bind fun f=>bif (f==0) then V ((Ce.Bt.length:Int)==0) else V Cd else V Cd else V Cd else V Cd else V Cd
theorem NO{Ce:qR}(c:Ro w Ce cs1){r:Bool}(F:xD n Ce=V r):qP prog 200 [gv Ce cs1] w r:=by
 obtain⟨p1,O,Q,P,R,k3,rfl,_,s2,s3⟩:=aV c;refine zV 182 func200 Z fun h=>dE (qJ h Z Z fun _ a h=>X1 5 0 h Z ?_);obtain⟨⟨N,r3⟩,d1,F⟩:=qc F;refine bG (N,r3) h (cB 239 Z) (LH (h.old c) d1) Z Z Z Z fun _ _ _ d9 d3=>?_;obtain⟨_,_,rfl,e2,d4⟩:=d9.consI d3;obtain⟨rfl,h⟩:=e2.lastB d4;refine X0 8 Z ?_;obtain⟨S,p,_,F,b⟩:=bindE F;refine bd (fun e w'=>∃b1,S b1=V r/\e=[(1,vp a),(3,vi N),(40,.bool b1)]/\SH w w' [oX a (qO Ce p1 Q R O P k3) 106]) ?_ ?_
 .refine X0 4 Z (qh (t:=17) F Z ?_ ?_)<;>intro F
  .refine X0 24 Z ?_;exact rH F b h Z
  refine X1 5 0 h Z (dF h F sv Z fun _ _ h F=>X0 4 Z (qh (t:=23) F Z ?_ ?_))<;>intro F
  .refine X0 18 Z ?_;exact rH F b h Z
  refine X1 10 0 h Z (qh (t:=29) F Z ?_ ?_)<;>intro F
  .refine X0 12 Z ?_;exact rH F b h Z
  refine X1 5 0 h Z (dF h F aF Z fun _ _ h F=>X0 4 Z (qh (t:=35) F Z ?_ ?_))<;>intro F
  .refine X0 6 Z ?_;exact rH F b h Z
  refine X1 5 0 h Z (dF h F aF Z fun _ _ h F=>X0 4 Z ?_);exact rH F b h Z
 rintro _ _ ⟨b1,F,rfl,h⟩;subst p;refine qp Z F ?_ ?_<;>intro F
 .exact X0 4 Z (rb h F Z)
 refine X0 6 Z ?_;obtain⟨o1,F,g⟩:=qc F;refine qr (rL (fun m e w'=>∃M,nJ Ce m M=V o1/\e=[(1,vp a),(3,vi N),(5,vi M)]/\SH w w' [oX a (qO Ce p1 Q R O P k3) 106]) n ⟨_,F,Z,h⟩ Z ?_);rintro m1 _ _ ⟨M,F,rfl,h⟩;rcases m1 with _|m1
 .cases F
 refine X1 9 0 h Z (qp Z F ?_ ?_)<;>intro F
 .refine X1 8 0 h Z ?_;obtain⟨y1,_,F,a3,_,_,_,_,a8,c2,d5,T⟩:=s2.ix F;obtain⟨p4,k4,p5,k5,rfl,s4,s5⟩:=bq d5;refine fG a8 c2 a3 Z (bN 0 T h Z (qi qa h Z Z Z fun _ k h=>zs 0 h Z fun _ h=>X2 6 1 0 h Z (dF h F (NR (h.old c) (tN y1 (h.oldS s4) (h.oldS s5))) Z fun _ _ h F=>X0 2 Z (qp Z F ?_ ?_))))<;>intro F
  .refine X0 4 Z ?_;cases qe F;exact rb h g Z
  refine X0 5 Z ?_;obtain⟨o2,F,l⟩:=qc F;refine qr (rL (fun m e w'=>∃i2,iX Ce M y1 m i2=V o2/\e=[(1,vp a),(3,vi N),(5,vi M),(6,vp k),(7,vi i2)]/\SH w w' [oX k (kq y1 p4 p5 k4 k5) 109,oX a (qO Ce p1 Q R O P k3) 106]) m1 ⟨_,F,Z,h⟩ Z ?_);rintro m2 _ _ ⟨i2,F,rfl,h⟩;rcases m2 with _|m2
  .cases F
  refine X0 7 Z (qp Z F ?_ ?_)<;>intro F
  .refine X0 4 Z (rD (Y1 2 1 h Z ?_));refine vD Z ?_;obtain⟨_,_,F,a4,_,_,_,_,a9,c3,d6,W⟩:=s2.ix F;obtain⟨_,_,_,_,rfl,_,_⟩:=bq d6;refine hG a9 c3 a4 Z (vD Z (fF 0 W h Z (Y1 2 0 h Z ?_)));refine xQ Z (bJ (t:=71) F Z ?_ ?_)<;>intro F
   .refine Y1 4 1 h Z ?_;refine Y0 3 Z ?_;obtain⟨_,_,F,a5,_,_,_,_,b4,c4,d7,X⟩:=s2.ix F;obtain⟨_,_,_,_,rfl,_,_⟩:=bq d7;refine hG b4 c4 a5 Z (Y0 3 Z (fF 1 X h Z (Y1 4 0 h Z ?_)));refine Y0 4 Z (bJ (t:=82) F Z ?_ ?_)<;>intro F
    .refine Y1 4 1 h Z ?_;refine Y0 3 Z ?_;obtain⟨_,_,F,a6,_,_,_,_,b5,c5,d8,Y⟩:=s2.ix F;obtain⟨_,_,_,_,rfl,_,_⟩:=bq d8;refine hG b5 c5 a6 Z (Y0 3 Z (fF 2 Y h Z (Y1 4 0 h Z ?_)));refine Y0 3 Z (dN h fun _ h=>qp Z F ?_ ?_)<;>intro F
     .refine X0 4 Z ?_;cases qe F;have F:=l;cases qe F;exact rb h g Z
     exact X0 7 Z (rK ⟨_,F,Z,h⟩ Z)
    exact Y0 10 Z (dN h fun _ h=>ch Z Z (X0 7 Z (rK ⟨_,F,Z,h⟩ Z)))
   exact Y0 21 Z (dN h fun _ h=>ch Z Z (X0 7 Z (rK ⟨_,F,Z,h⟩ Z)))
  refine qx Z ?_;cases qe F;have F:=l;refine X0 6 Z ?_;exact rK ⟨_,F,Z,h.p [1] Z⟩ Z
 refine qx Z ?_;cases qe F;have F:=g;refine X1 3 0 h Z (uj h F (IQ (h.old c)) Z fun _ _ _ _ _ h F=>X1 14 1 h Z (qp Z F ?_ ?_))<;>intro F
 .refine X0 5 Z ?_;obtain⟨o3,F,o⟩:=qc F;refine qr ?_;have h:=h.p [1] Z;refine rL (fun m e w'=>∃i3,nK Ce m i3=V o3/\e=[(1,vp a),(3,vi N),(9,vi i3)]/\SH w w' [oX a (qO Ce p1 Q R O P k3) 106]) n ⟨_,F,Z,h⟩ Z ?_;rintro m3 _ _ ⟨i3,F,rfl,h⟩;rcases m3 with _|m3
  .cases F
  refine X1 9 0 h Z (qp Z F ?_ ?_)<;>intro F
  .refine X1 8 0 h Z ?_;obtain⟨_,_,F,a7,_,_,_,_,b6,c6,rfl,s⟩:=s3.ix F;refine fG b6 c6 a7 Z (bN 0 s h Z (dF h F aF Z fun _ _ h F=>X0 2 Z (qp Z F ?_ ?_)))<;>intro F
   .refine X0 4 Z ?_;cases qe F;exact rb h o Z
   exact X0 7 Z (rK ⟨_,F,Z,h⟩ Z)
  refine qx Z ?_;cases qe F;have F:=o;refine X0 5 Z (qh (t:=115) F Z ?_ ?_)<;>intro F
  .refine X2 17 0 0 h Z ?_;obtain⟨_,i,F⟩:=qc F;obtain⟨g1,i⟩:=IJ i;refine dK (qaa g1 Z Z) Z ?_;rw[i];exact X0 5 Z (rb h F Z)
  exact X0 13 Z (rb h F Z)
 refine X0 5 Z (qp Z F ?_ ?_)<;>intro F
 .refine au (rD (qcY Z (bJ (t:=131) F Z ?_ ?_)))<;>intro F
  .refine Y0 3 Z ?_;obtain⟨_,_,F,B,_,_,_,_,b7,c7,rfl,u⟩:=(h.sl 0 Z).1.ix F;refine XH b7 c7 ⟨B.1,qD B.2.1 (h.sl 0 Z).2⟩ Z (Y0 1 Z (XG 0 u Z (Y0 4 Z (bJ (t:=137) F Z ?_ ?_))))<;>intro F
   .refine Y0 3 Z ?_;obtain⟨_,_,F,C,_,_,_,_,b8,c8,rfl,v⟩:=(h.sl 0 Z).1.ix F;refine XH b8 c8 ⟨C.1,qD C.2.1 (h.sl 0 Z).2⟩ Z (Y0 1 Z (XG 0 v Z (Y0 5 Z ?_)));obtain⟨_,_,F,D,_,_,_,_,b9,c9,rfl,x⟩:=(h.sl 0 Z).1.ix F;refine XH b9 c9 ⟨D.1,qD D.2.1 (h.sl 0 Z).2⟩ Z (Y0 1 Z (XG 0 x Z (Y0 6 Z (bJ (t:=148) F Z ?_ ?_))))<;>intro F
    .refine Y1 4 1 h Z ?_;exact Y0 6 Z (dN h fun _ h=>rb h F Z)
    exact Y0 6 Z (dN h fun _ h=>rb h F Z)
   exact Y0 17 Z (dN h fun _ h=>rb h F Z)
  exact Y0 23 Z (dN h fun _ h=>rb h F Z)
 refine X0 5 Z (qp Z F ?_ ?_)<;>intro F
 .refine X0 5 Z (qh (t:=158) F Z ?_ ?_)<;>intro F
  .refine X0 3 Z ?_;obtain⟨_,_,F,H,_,_,_,_,c0,d0,rfl,y⟩:=(h.sl 0 Z).1.ix F;refine zx c0 d0 ⟨H.1,qD H.2.1 (h.sl 0 Z).2⟩ Z (X0 1 Z (zc 0 y Z (X0 4 Z (qh (t:=164) F Z ?_ ?_))))<;>intro F
   .refine X0 3 Z ?_;obtain⟨_,_,F,d,_,_,_,_,I,K,rfl,z⟩:=(h.sl 0 Z).1.ix F;refine zx I K ⟨d.1,qD d.2.1 (h.sl 0 Z).2⟩ Z (X0 1 Z (zc 0 z Z (X0 4 Z (qh (t:=170) F Z ?_ ?_))))<;>intro F
    .refine X0 3 Z ?_;obtain⟨_,_,F,f,_,_,_,_,J,L,rfl,A⟩:=(h.sl 0 Z).1.ix F;refine zx J L ⟨f.1,qD f.2.1 (h.sl 0 Z).2⟩ Z (X0 1 Z (zc 0 A Z (X0 4 Z (qh (t:=176) F Z ?_ ?_))))<;>intro F
     .exact X1 11 1 h Z (rb h F Z)
     exact X0 7 Z (rb h F Z)
    exact X0 13 Z (rb h F Z)
   exact X0 19 Z (rb h F Z)
  exact X0 25 Z (rb h F Z)
 exact X0 6 Z (rb h F Z)
def kj(l:qB)(b:Int):Nat->Int->Option (eE Bool Int)|0,_=>U|n+1,a=>bif decide (a<b) then(qF l.Au a).bind fun c=>(qF l.Au b).bind fun d=>bif (c.Bh.toList==d.Bh.toList) then V (.ret Cd) else kj l b n (qj (a+1)) else V (.nxt a)
def ki(l:qB):Nat->Int->Option (eE Bool Int)|0,_=>U|n+1,a=>bif decide (a<(l.Au.length:Int)) then(qF l.Au a).bind fun b=>(xD n b).bind fun r1=>bif (!r1) then V (.ret Cd) else(kj l a n 0).bind fun|.ret r=>V (.ret r)|.nxt _=>ki l n (qj (a+1)) else V (.nxt a)
def tV(n:Nat)(l:qB):Option Bool:=(ki l n 0).bind fun|.ret r=>V r|.nxt _=>V (decide ((l.Au.length:Int)<=8))
theorem GW{l:qB}(f:Ro w l cs1){r:Bool}(F:tV n l=V r):qP prog 143 [gv l cs1] w r:=by
 obtain⟨p1,I,rfl,s1⟩:=gi f;refine zV 41 func143 Z fun h=>dE (qJ h Z Z fun _ a h=>X0 7 Z ?_);obtain⟨o1,F,b⟩:=qc F;refine qr (rL (fun m e w'=>∃d,ki l m d=V o1/\e=[(1,vp a),(3,vi d)]/\SH w w' [oX a [oL p1 l.Au I] 26]) n ⟨_,F,Z,h⟩ Z ?_);rintro H _ _ ⟨d,F,rfl,h⟩;rcases H with _|H
 .cases F
 refine X1 9 0 h Z (qp Z F ?_ ?_)<;>intro F
 .refine X1 9 0 h Z ?_;obtain⟨M,_,F,o,_,_,_,_,t,x,A,g⟩:=s1.ix F;obtain⟨_,_,_,_,_,_,rfl,s2,K,L⟩:=aV A;refine fG t x o Z (bN 0 g h Z (dF h F (NO (QG M (h.oldS s2) (h.oldS K) (h.oldS L))) Z fun _ _ h F=>X0 2 Z (qp Z F ?_ ?_)))<;>intro F
  .refine X0 4 Z ?_;cases qe F;exact rb h b Z
  refine X0 5 Z ?_;obtain⟨o2,F,c⟩:=qc F;refine qr (rL (fun m e w'=>∃D,kj l d m D=V o2/\e=[(1,vp a),(3,vi d),(4,vi D)]/\SH w w' [oX a [oL p1 l.Au I] 26]) H ⟨_,F,Z,h⟩ Z ?_);rintro J _ _ ⟨D,F,rfl,h⟩;rcases J with _|J
  .cases F
  refine X0 7 Z (qp Z F ?_ ?_)<;>intro F
  .refine X0 4 Z (rD (Y1 2 0 h Z ?_));refine vD Z ?_;obtain⟨_,_,F,p,_,_,_,_,u,y,B,i⟩:=s1.ix F;obtain⟨_,_,_,_,_,_,rfl,_,_,_⟩:=aV B;refine hG u y p Z (vD Z (fF 0 i h Z (Y1 2 0 h Z ?_)));refine vD Z ?_;obtain⟨_,_,F,s,_,_,_,_,v,z,C,k⟩:=s1.ix F;obtain⟨_,_,_,_,_,_,rfl,_,_,_⟩:=aV C;refine hG v z s Z (vD Z (fF 0 k h Z (vD Z (dN h fun _ h=>qp Z F ?_ ?_))))<;>intro F
   .refine X0 4 Z ?_;cases qe F;have F:=c;cases qe F;exact rb h b Z
   exact X0 7 Z (rK ⟨_,F,Z,h⟩ Z)
  refine qx Z ?_;cases qe F;exact X0 6 Z (rK ⟨_,c,Z,h⟩ Z)
 refine qx Z ?_;cases qe F;exact X1 8 0 h Z (rb h b Z)
def lq(Cf:qk)(b:qL):Nat->Int->Option (eE Bool Int)|0,_=>U|n+1,a=>bif decide (a<(b.Am.length:Int)) then(qF b.Am a).bind fun c=>(aW n c 0 (qj ((Cf.Am.length:Int)-1))).bind fun r1=>bif (!r1) then V (.ret Cd) else lq Cf b n (qj (a+1)) else V (.nxt a)
def lr(Cf:qk):Nat->Int->Option (eE Bool Int)|0,_=>U|n+1,a=>bif decide (a<(Cf.Ai.length:Int)) then(qF Cf.Ai a).bind fun d=>(aW n d.Bx 1 2).bind fun b=>bif (!b) then V (.ret Cd) else(qF Cf.Ai a).bind fun f=>(aW n f.Cb 0 (qj ((Cf.Am.length:Int)-1))).bind fun c=>bif (!c) then V (.ret Cd) else lr Cf n (qj (a+1)) else V (.nxt a)
def lp(Ce:qB)(Cf:qk):Nat->Int->Option (eE Bool Int)|0,_=>U|n+1,a=>bif decide (a<(Cf.Ab.length:Int)) then(qF Cf.Ab a).bind fun b=>((aW n b.Bv 0 (qj ((Ce.Au.length:Int)-1))).bind fun c=>bif (!c) then V An else(qF Ce.Au b.Bv).bind fun d=>V ((b.Am.length:Int) != (d.Bg.length:Int))).bind fun b2=>bif b2 then V (.ret Cd) else(lq Cf b n 0).bind fun|.ret r=>V (.ret r)|.nxt _=>lp Ce Cf n (qj (a+1)) else V (.nxt a)
def uS(n:Nat)(Ce:qB)(Cf:qk):Option Bool:=(lp Ce Cf n 0).bind fun|.ret r=>V r|.nxt _=>(lr Cf n 0).bind fun|.ret r=>V r|.nxt _=>V An
theorem IT{Ce:qB}{Cf:qk}(z:Ro w Ce cs1)(A:Ro w Cf cs2){r:Bool}(F:uS n Ce Cf=V r):qP prog 144 [gv Ce cs1,gv Cf cs2] w r:=by
 obtain⟨p1,k1,rfl,s1⟩:=gi z;obtain⟨u,p,v,k3,x,s,rfl,s2,_,s4⟩:=ce A;refine zV 90 func144 Z fun h=>dE (qJ h Z Z fun _ b h=>qJ h Z Z fun _ a h=>X1 14 0 h Z ?_);obtain⟨o1,F,d⟩:=qc F;refine qr (rL (fun m e w'=>∃o,lp Ce Cf m o=V o1/\e=[(2,vp b),(3,vp a),(5,vi (Cf.Am.length:Int)),(6,vi o)]/\SH w w' [oX a (ba Cf u v x p k3 s) 31,oX b [oL p1 Ce.Au k1] 26]) n ⟨_,F,Z,h⟩ Z ?_);rintro m1 _ _ ⟨o,F,rfl,h⟩;rcases m1 with _|m1
 .cases F
 refine X1 9 0 h Z (qp Z F ?_ ?_)<;>intro F
 .refine X1 8 0 h Z ?_;obtain⟨y1,_,F,I,_,_,_,_,N,S,a3,B⟩:=s2.ix F;obtain⟨p5,k5,rfl,s5⟩:=bD a3;refine fG N S I Z (bN 0 B h Z (qi qa h Z Z Z fun _ c h=>zs 0 h Z fun _ h=>qbD ?_));obtain⟨y,k,_,F,i⟩:=bindE F;refine bd (fun e w'=>∃b2,y b2=V o1/\e=[(2,vp b),(3,vp a),(5,vi (Cf.Am.length:Int)),(6,vi o),(7,vp c),(46,.bool b2)]/\SH w w' [oX c (uX y1 p5 k5) 206,oX a (ba Cf u v x p k3 s) 31,oX b [oL p1 Ce.Au k1] 26]) ?_ ?_
  .refine rD (Y1 2 0 h Z ?_);refine Y1 2 2 h Z ?_;refine xQ Z ?_;obtain⟨r2,a4,F⟩:=qc F;refine en r2 (KO _) (cB 32 Z) (fun _ hb=>aF  a4) Z Z Z Z (xQ Z (bJ (t:=33) F Z ?_ ?_))<;>intro F
   .refine Y0 13 Z (dN h fun _ h=>?_);exact rH F i h Z
   refine Y1 4 0 h Z ?_;refine Y1 6 2 h Z ?_;refine Y1 4 0 h Z ?_;refine Y0 1 Z ?_;obtain⟨_,_,F,K,_,_,_,_,P,W,a5,D⟩:=s1.ix F;obtain⟨_,_,_,_,_,_,rfl,_,_,_⟩:=aV a5;refine hG P W K Z (Y0 3 Z (fF 2 D h Z (Y0 5 Z (dN h fun _ h=>?_))));exact rH F i h Z
  rintro _ _ ⟨b2,F,rfl,h⟩;subst k;refine qp Z F ?_ ?_<;>intro F
  .refine X0 4 Z ?_;cases qe F;exact rb h d Z
  refine X0 5 Z ?_;obtain⟨o2,F,g⟩:=qc F;refine qr (rL (fun m e w'=>∃i2,lq Cf y1 m i2=V o2/\e=[(2,vp b),(3,vp a),(5,vi (Cf.Am.length:Int)),(6,vi o),(7,vp c),(8,vi i2)]/\SH w w' [oX c (uX y1 p5 k5) 206,oX a (ba Cf u v x p k3 s) 31,oX b [oL p1 Ce.Au k1] 26]) m1 ⟨_,F,Z,h⟩ Z ?_);rintro m2 _ _ ⟨i2,F,rfl,h⟩;rcases m2 with _|m2
  .cases F
  refine X1 9 0 h Z (qp Z F ?_ ?_)<;>intro F
  .refine X1 8 0 h Z ?_;obtain⟨_,_,F,J,_,_,_,_,O,T,rfl,C⟩:=s5.ix F;refine fG O T J Z (bN 0 C h Z (lY Z (dF h F aF Z fun _ _ h F=>X0 2 Z (qp Z F ?_ ?_))))<;>intro F
   .refine X0 4 Z ?_;cases qe F;have F:=g;cases qe F;exact rb h d Z
   exact X0 7 Z (rK ⟨_,F,Z,h⟩ Z)
  refine qx Z ?_;cases qe F;have F:=g;refine X0 6 Z ?_;exact rK ⟨_,F,Z,h.p [1,2] Z⟩ Z
 refine qx Z ?_;cases qe F;have F:=d;refine X0 5 Z ?_;obtain⟨o4,F,f⟩:=qc F;refine qr ?_;have h:=h.p [0] Z;refine rL (fun m e w'=>∃i3,lr Cf m i3=V o4/\e=[(3,vp a),(5,vi (Cf.Am.length:Int)),(9,vi i3)]/\SH w w' [oX a (ba Cf u v x p k3 s) 31]) n ⟨_,F,Z,h⟩ Z ?_;rintro m3 _ _ ⟨i3,F,rfl,h⟩;rcases m3 with _|m3
 .cases F
 refine X1 9 0 h Z (qp Z F ?_ ?_)<;>intro F
 .refine X1 8 0 h Z ?_;obtain⟨_,_,F,L,_,_,_,_,Q,X,a6,H⟩:=s4.ix F;obtain rfl:=lH a6;refine fG Q X L Z (cq Z (bN 1 H h Z (dF h F aF Z fun _ _ h F=>lY Z (qh (t:=78) F Z ?_ ?_))))<;>intro F
  .refine X0 12 Z (eI Z Z (X0 4 Z ?_));cases qe F;exact rb h f Z
  refine X1 7 0 h Z ?_;obtain⟨_,_,F,M,_,_,_,_,R,Y,a7,l⟩:=s4.ix F;obtain rfl:=lH a7;refine fG R Y M Z (X0 3 Z (bN 2 l h Z (X0 5 Z (dF h F aF Z fun _ _ h F=>X0 4 Z (qp Z F ?_ ?_)))))<;>intro F
  .refine X0 4 Z ?_;cases qe F;exact rb h f Z
  exact X0 7 Z (rK ⟨_,F,Z,h⟩ Z)
 refine qx Z ?_;cases qe F;exact X0 4 Z (rb h f Z)
def lm(list:List ByteArray)(b:Int):Nat->Int->Option (eE Bool Int)|0,_=>U|n+1,a=>bif decide (a<b) then(qF list a).bind fun c=>(qF list b).bind fun d=>bif (c.toList==d.toList) then V (.ret Cd) else lm list b n (qj (a+1)) else V (.nxt a)
def ll(list:List ByteArray):Nat->Int->Option (eE Bool Int)|0,_=>U|n+1,a=>bif decide (a<(list.length:Int)) then(qF list a).bind fun b=>(oq n b).bind fun r1=>bif (!r1) then V (.ret Cd) else(lm list a n 0).bind fun|.ret r=>V (.ret r)|.nxt _=>ll list n (qj (a+1)) else V (.nxt a)
def oJ(n:Nat)(list:List ByteArray):Option Bool:=(ll list n 0).bind fun|.ret r=>V r|.nxt _=>V An
theorem uK{list:List ByteArray}(d:Ro w list cs1){r:Bool}(F:oJ n list=V r):qP prog 145 [gv list cs1] w r:=by
 obtain⟨p1,A,rfl,s1⟩:=d;refine zV 31 func145 Z fun h=>X0 9 Z ?_;obtain⟨o1,F,a⟩:=qc F;refine qr (rL (fun m e w'=>∃c,ll list m c=V o1/\e=[(0,oL p1 list A),(3,vi c)]/\SH w w' []) n ⟨_,F,Z,h⟩ Z ?_);rintro z _ _ ⟨c,F,rfl,h⟩;rcases z with _|z
 .cases F
 refine X0 8 Z (qp Z F ?_ ?_)<;>intro F
 .refine X0 8 Z ?_;obtain⟨_,_,F,k,_,_,_,_,p,u,rfl,f⟩:=s1.ix F;refine fG p u k Z (bN 0 f h Z (dF h F sv Z fun _ _ h F=>X0 2 Z (qp Z F ?_ ?_)))<;>intro F
  .refine X0 4 Z ?_;cases qe F;exact rb h a Z
  refine X0 5 Z ?_;obtain⟨o2,F,b⟩:=qc F;refine qr (rL (fun m e w'=>∃y,lm list c m y=V o2/\e=[(0,oL p1 list A),(3,vi c),(4,vi y)]/\SH w w' []) z ⟨_,F,Z,h⟩ Z ?_);rintro B _ _ ⟨y,F,rfl,h⟩;rcases B with _|B
  .cases F
  refine X0 7 Z (qp Z F ?_ ?_)<;>intro F
  .refine X0 4 Z (rD (xQ Z ?_));obtain⟨_,_,F,l,_,_,_,_,s,v,rfl,g⟩:=s1.ix F;refine hG s v l Z (fF 0 g h Z (xQ Z ?_));obtain⟨_,_,F,o,_,_,_,_,t,x,rfl,i⟩:=s1.ix F;refine hG t x o Z (fF 0 i h Z (vD Z (dN h fun _ h=>qp Z F ?_ ?_)))<;>intro F
   .refine X0 4 Z ?_;cases qe F;have F:=b;cases qe F;exact rb h a Z
   exact X0 7 Z (rK ⟨_,F,Z,h⟩ Z)
  refine qx Z ?_;cases qe F;exact X0 6 Z (rK ⟨_,b,Z,h⟩ Z)
 refine qx Z ?_;cases qe F;exact X0 4 Z (rb h a Z)
def li(c:List Int)(d:List Int):Nat->Int->Option (eE Bool Int)|0,_=>U|n+1,a=>bif decide (a<(c.length:Int)) then(qF d a).bind fun b=>bif (b != 1) then V (.ret Cd) else li c d n (qj (a+1)) else V (.nxt a)
def fV(Cf:qk):Nat->(List Int)->Int->Option ((List Int)×Int)|0,_,_=>U|n+1,b,a=>bif decide (a<(Cf.Ai.length:Int)) then(qF Cf.Ai a).bind fun d=>bif (d.Bx==1) then(qF Cf.Ai a).bind fun c=>(qF b c.Cb).bind fun f=>(qF b c.Cb).bind fun _=>fV Cf n (ak b c.Cb (qj (f+1))) (qj (a+1)) else fV Cf n b (qj (a+1)) else V (b,a)
def ik(Cf:qk):Nat->(List Int)->Int->Option ((List Int)×Int)|0,_,_=>U|n+1,b,a=>bif decide (a<(Cf.Ab.length:Int)) then(qF Cf.Ab a).bind fun d=>(qF d.Am (qj ((d.Am.length:Int)-1))).bind fun c=>(qF b c).bind fun f=>(qF b c).bind fun _=>ik Cf n (ak b c (qj (f+1))) (qj (a+1)) else V (b,a)
def ij(Cf:qk):Nat->(List ByteArray)->Int->Option ((List ByteArray)×Int)|0,_,_=>U|n+1,b,a=>bif decide (a<(Cf.Ai.length:Int)) then(qF Cf.Ai a).bind fun d=>(dj b ([d.Bh]:List ByteArray)).bind fun c=>ij Cf n c (qj (a+1)) else V (b,a)
def ii(Cf:qk):Nat->(List ByteArray)->Int->Option ((List ByteArray)×Int)|0,_,_=>U|n+1,x1,a=>bif decide (a<(Cf.Ab.length:Int)) then(qF Cf.Ab a).bind fun c=>(dj x1 ([c.Bh]:List ByteArray)).bind fun b=>ii Cf n b (qj (a+1)) else V (x1,a)
def uQ(n:Nat)(Ce:qB)(Cf:qk):Option Bool:=((tV n Ce).bind fun f=>bif (!f) then V An else bif decide ((Cf.Ab.length:Int) > 14) then V An else bif decide ((Cf.Am.length:Int) > 30) then V An else bif decide ((Cf.Ai.length:Int) > 8) then V An else(uS n Ce Cf).bind fun g=>V (!g)).bind fun b1=>bif b1 then V Cd else(ii Cf n ([]:List ByteArray) 0).bind fun(x1,_)=>(ij Cf n ([]:List ByteArray) 0).bind fun(h,_)=>((oJ n x1).bind fun r1=>bif (!r1) then V An else(oJ n h).bind fun c=>bif (!c) then V An else(oJ n Cf.Am).bind fun d=>V (!d)).bind fun b=>bif b then V Cd else(xY (Cf.Am.length:Int) (0:Int)).bind fun a=>(ik Cf n a 0).bind fun(i,_)=>(fV Cf n i 0).bind fun(k,_)=>(li a k n 0).bind fun|.ret r=>V r|.nxt _=>V An
theorem IM{Ce:qB}{Cf:qk}(o:Ro w Ce cs1)(K:Ro w Cf cs2){r:Bool}(F:uQ n Ce Cf=V r):qP prog 87 [gv Ce cs1,gv Cf cs2] w r:=by
 obtain⟨_,_,rfl,_⟩:=gi o;obtain⟨B,z,C,k3,D,A,rfl,s2,s3,s4⟩:=ce K;refine zV 153 func87 Z fun h=>dE (qJ h Z Z fun _ _ h=>qJ h Z Z fun _ a h=>X0 4 Z ?_);obtain⟨KF2,J,_,F,d⟩:=bindE F;refine bd (fun e w'=>∃b1,KF2 b1=V r/\e=[(3,vp a),(40,.bool b1)]/\SH w w' [oX a (ba Cf B C D z k3 A) 31]) ?_ ?_
 .refine X1 2 1 h Z (dF h F (GW (h.old o)) Z fun _ _ h F=>lY Z (qh (t:=17) F Z ?_ ?_))<;>intro F
  .refine X0 24 Z ?_;have h:=h.p [0] Z;exact rH F d h Z
  refine X1 10 0 h Z (qh (t:=23) F Z ?_ ?_)<;>intro F
  .refine X0 18 Z ?_;have h:=h.p [0] Z;exact rH F d h Z
  refine X1 10 0 h Z (qh (t:=29) F Z ?_ ?_)<;>intro F
  .refine X0 12 Z ?_;have h:=h.p [0] Z;exact rH F d h Z
  refine X1 10 0 h Z (qh (t:=35) F Z ?_ ?_)<;>intro F
  .refine X0 6 Z ?_;have h:=h.p [0] Z;exact rH F d h Z
  refine X2 5 1 0 h Z (dF h F (IT (h.old o) (h.old K)) Z fun _ _ h F=>X0 4 Z ?_);have h:=h.p [0] Z;exact rH F d h Z
 rintro _ _ ⟨b1,F,rfl,h⟩;subst J;refine qp Z F ?_ ?_<;>intro F
 .exact X0 4 Z (rb h F Z)
 refine qcX (qv qa [] _ ([]:List ByteArray) h z9 trivial Z fun _ _ _ h=>X0 7 Z ?_);obtain⟨o1,F,hK1⟩:=qc F;refine qr (rL (fun m e w'=>∃S2 p6 v k5 x1 i1,ii Cf m x1 i1=V o1/\e=[(3,vp a),(5,oS p6 v k5),(6,vi i1)]/\SH w w' [oW S2 (x1:List ByteArray) [oS p6 v k5],oX a (ba Cf B C D z k3 A) 31]) n ⟨_,_,_,_,_,_,F,Z,h⟩ Z ?_);rintro m1 _ _ ⟨S2,p6,v,k5,x1,i1,F,rfl,h⟩;obtain rfl:=(h.sl 0 Z).2;rcases m1 with _|m1
 .cases F
 refine X1 9 1 h Z (qp Z F ?_ ?_)<;>intro F
 .refine X1 8 1 h Z ?_;obtain⟨y1,_,F,he1,_,_,_,_,hp1,hq1,hr1,hc3⟩:=s2.ix F;obtain⟨_,_,rfl,_⟩:=bD hr1;refine fG hp1 hq1 he1 Z (cq Z (bN 0 hc3 h Z (qv qa [.tmp 55] _ ([y1.Bh]:List ByteArray) h z9 ⟨Z,G⟩ Z fun _ _ _ h=>?_)));obtain⟨_,p,F⟩:=qc F;obtain⟨g1,p⟩:=qH p;refine bo qa 1 h Z (h.sl 0 Z).1 (h.sl 0 Z).2 z9 g1 p Z fun _ _ _ _ h=>X0 8 Z ?_;exact rK ⟨_,_,_,_,_,_,F,Z,h.p [1,2] Z⟩ Z
 refine qx Z ?_;cases qe F;have F:=hK1;refine dE (qv qa [] _ ([]:List ByteArray) h z9 trivial Z fun _ _ _ h=>X0 7 Z ?_);obtain⟨o2,F,hK2⟩:=qc F;refine qr (rL (fun m e w'=>∃S6 y x k8 x3 i2,ij Cf m x3 i2=V o2/\e=[(3,vp a),(5,oL p6 x1 k5),(7,oS y x k8),(8,vi i2)]/\SH w w' [oW S6 (x3:List ByteArray) [oS y x k8],oW S2 (x1:List ByteArray) [oL p6 x1 k5],oX a (ba Cf B C D z k3 A) 31]) n ⟨_,_,_,_,_,_,F,Z,h⟩ Z ?_);rintro m2 _ _ ⟨S6,y,x,k8,x3,i2,F,rfl,h⟩;obtain rfl:=(h.sl 0 Z).2;rcases m2 with _|m2
 .cases F
 refine X1 9 2 h Z (qp Z F ?_ ?_)<;>intro F
 .refine X1 8 2 h Z ?_;obtain⟨y2,_,F,he2,_,_,_,_,hp2,hq2,hr2,hc5⟩:=s4.ix F;obtain rfl:=lH hr2;refine fG hp2 hq2 he2 Z (cq Z (bN 0 hc5 h Z (qv qa [.tmp 72] _ ([y2.Bh]:List ByteArray) h z9 ⟨Z,G⟩ Z fun _ _ _ h=>?_)));obtain⟨_,s,F⟩:=qc F;obtain⟨g2,s⟩:=qH s;refine bo qa 1 h Z (h.sl 0 Z).1 (h.sl 0 Z).2 z9 g2 s Z fun _ _ _ _ h=>X0 8 Z ?_;exact rK ⟨_,_,_,_,_,_,F,Z,h.p [1,2,3] Z⟩ Z
 refine qx Z ?_;cases qe F;have F:=hK2;refine qc3 ?_;obtain⟨KF1,I,_,F,l⟩:=bindE F;refine bd (fun e w'=>∃b4,KF1 b4=V r/\e=[(3,vp a),(88,.bool b4)]/\SH w w' [oX a (ba Cf B C D z k3 A) 31]) ?_ ?_
 .refine X0 2 Z (dF h F (uK (h.own 1 Z)) Z fun _ _ h F=>lY Z (qh (t:=78) F Z ?_ ?_))<;>intro F
  .refine X0 11 Z ?_;have h:=h.p [2] Z;exact rH F l h Z
  refine X0 3 Z (dF h F (uK (h.own 0 Z)) Z fun _ _ h F=>X0 4 Z (qh (t:=83) F Z ?_ ?_))<;>intro F
  .refine X0 6 Z ?_;have h:=h.p [2] Z;exact rH F l h Z
  refine X1 5 2 h Z (dF h F (uK ⟨_,_,Z,(h.oldS s3)⟩) Z fun _ _ h F=>X0 4 Z ?_);have h:=h.p [2] Z;exact rH F l h Z
 rintro _ _ ⟨b4,F,rfl,h⟩;subst I;refine qp Z F ?_ ?_<;>intro F
 .exact X0 4 Z (rb h F Z)
 refine X1 6 0 h Z ?_;obtain⟨c,u,F⟩:=qc F;obtain⟨g3,g4,u⟩:=aL u;refine bv qa Int h z9 g3 g4 u Z fun _ S9 b h=>X0 7 Z ?_;obtain⟨o3,F,hK3⟩:=qc F;refine qr (rL (fun m e w'=>∃x6 i3,ik Cf m x6 i3=V o3/\e=[(3,vp a),(9,oS b c.length c.length),(10,vi i3)]/\SH w w' [oW S9 (x6:List Int) [oS b c.length c.length],oX a (ba Cf B C D z k3 A) 31]) n ⟨_,_,F,Z,h⟩ Z ?_);rintro m3 _ _ ⟨x6,i3,F,rfl,h⟩;rcases m3 with _|m3
 .cases F
 refine X1 9 1 h Z (qp Z F ?_ ?_)<;>intro F
 .refine X1 8 1 h Z ?_;obtain⟨_,_,F,he3,_,_,_,_,hp3,hq3,hr3,hc8⟩:=s2.ix F;obtain⟨_,_,rfl,s6⟩:=bD hr3;refine fG hp3 hq3 he3 Z (cq Z (bN 2 hc8 h Z (X0 8 Z ?_)));obtain⟨_,_,F,he4,_,_,_,_,hp4,hq4,rfl,hc9⟩:=s6.ix F;refine fG hp4 hq4 he4 Z (bN 0 hc9 h Z ?_);obtain⟨y5,_,F,S,_,_,_,_,hp5,hq5,rfl,L⟩:=(h.sl 0 Z).1.ix F;refine zx hp5 hq5 ⟨S.1,qD S.2.1 (h.sl 0 Z).2⟩ Z (zc 0 L Z (cq Z ?_));obtain⟨_,hy6,F,T,_,_,_,_,Y,a4,rfl,M⟩:=(h.sl 0 Z).1.ix F;exact zx Y a4 ⟨T.1,qD T.2.1 (h.sl 0 Z).2⟩ Z (bK qa 0 0 (qj (y5+1)) h Z hy6 Y a4 Z M Z Z Z Z Z Z Z fun _ h=>X0 7 Z (rK ⟨_,_,F,Z,h⟩ Z))
 refine qx Z ?_;cases qe F;have F:=hK3;refine X0 5 Z ?_;obtain⟨o4,F,hK4⟩:=qc F;refine qr (rL (fun m e w'=>∃x7 i4,fV Cf m x7 i4=V o4/\e=[(3,vp a),(9,oS b c.length c.length),(12,vi i4)]/\SH w w' [oW S9 (x7:List Int) [oS b c.length c.length],oX a (ba Cf B C D z k3 A) 31]) n ⟨_,_,F,Z,h⟩ Z ?_);rintro m4 _ _ ⟨x7,i4,F,rfl,h⟩;rcases m4 with _|m4
 .cases F
 refine X1 9 1 h Z (qp Z F ?_ ?_)<;>intro F
 .refine X1 8 1 h Z ?_;obtain⟨_,_,F,he7,_,_,_,_,hp7,hq7,hr7,N⟩:=s4.ix F;obtain rfl:=lH hr7;refine fG hp7 hq7 he7 Z (cq Z (bN 1 N h Z (X0 2 Z (qp Z F ?_ ?_))))<;>intro F
  .refine X1 5 1 h Z ?_;obtain⟨_,_,F,he8,_,_,_,_,hp8,hq8,hr8,O⟩:=s4.ix F;obtain rfl:=lH hr8;refine fG hp8 hq8 he8 Z (cq Z (bN 2 O h Z ?_));obtain⟨y9,_,F,W,_,_,_,_,hp9,hq9,rfl,P⟩:=(h.sl 0 Z).1.ix F;refine zx hp9 hq9 ⟨W.1,qD W.2.1 (h.sl 0 Z).2⟩ Z (zc 0 P Z (cq Z ?_));obtain⟨_,a5,F,f,_,_,_,_,i,k,rfl,Q⟩:=(h.sl 0 Z).1.ix F;exact zx i k ⟨f.1,qD f.2.1 (h.sl 0 Z).2⟩ Z (bK qa 0 0 (qj (y9+1)) h Z a5 i k Z Q Z Z Z Z Z Z Z fun _ h=>X0 7 Z (rK ⟨_,_,F,Z,h⟩ Z))
  exact X0 7 Z (rK ⟨_,_,F,Z,h⟩ Z)
 refine qx Z ?_;cases qe F;have F:=hK4;refine X0 5 Z ?_;obtain⟨o5,F,H⟩:=qc F;refine qr ?_;have h:=h.p [0] Z;refine rL (fun m e w'=>∃i5,li c x7 m i5=V o5/\e=[(9,oS b c.length c.length),(13,vi i5)]/\SH w w' [oW S9 (x7:List Int) [oS b c.length c.length]]) n ⟨_,F,Z,h⟩ Z ?_;rintro m5 _ _ ⟨i5,F,rfl,h⟩;rcases m5 with _|m5
 .cases F
 refine X0 8 Z (qp Z F ?_ ?_)<;>intro F
 .refine X0 7 Z ?_;obtain⟨_,_,F,g,_,_,_,_,X,a3,rfl,R⟩:=(h.sl 0 Z).1.ix F;refine zx X a3 ⟨g.1,qD g.2.1 (h.sl 0 Z).2⟩ Z (zc 0 R Z (X0 2 Z (qp Z F ?_ ?_)))<;>intro F
  .refine X0 4 Z ?_;cases qe F;exact rb h H Z
  exact X0 7 Z (rK ⟨_,F,Z,h⟩ Z)
 refine qx Z ?_;cases qe F;exact X0 4 Z (rb h H Z)
def nL(Ce:aJ):Nat->Int->Option (eE Bool Int)|0,_=>U|n+1,a=>bif decide (a<(Ce.Bj.length:Int)) then(qF Ce.Bj a).bind fun c=>(aW n c 0 (qj ((Ce.Ak.length:Int)-1))).bind fun b=>bif (!b) then V (.ret Cd) else nL Ce n (qj (a+1)) else V (.nxt a)
def gq(Ce:aJ):Nat->Int->Option (eE Bool Int)|0,_=>U|n+1,a=>bif decide (a<(Ce.Ak.length:Int)) then((qF Ce.Br a).bind fun k=>(aW n k 0 500).bind fun c=>bif (!c) then V An else(qF Ce.Bw a).bind fun l=>(aW n l 0 1000).bind fun d=>V (!d)).bind fun b2=>bif b2 then V (.ret Cd) else bif (a==0) then(qF Ce.Ak a).bind fun f=>bif (f != (-1)) then V (.ret Cd) else(qF Ce.Bw a).bind fun g=>bif (g != 0) then V (.ret Cd) else bif decide (a > 0) then(qF Ce.Ak a).bind fun h=>(aW n h 0 (qj (a-1))).bind fun r1=>bif (!r1) then V (.ret Cd) else gq Ce n (qj (a+1)) else gq Ce n (qj (a+1)) else bif decide (a > 0) then(qF Ce.Ak a).bind fun i=>(aW n i 0 (qj (a-1))).bind fun b=>bif (!b) then V (.ret Cd) else gq Ce n (qj (a+1)) else gq Ce n (qj (a+1)) else V (.nxt a)
def xE(n:Nat)(Ce:aJ)(Cf:Int):Option Bool:=(bif decide ((Ce.Ak.length:Int)<1) then V An else bif decide ((Ce.Ak.length:Int) > 8) then V An else bif ((Ce.Bw.length:Int) != (Ce.Ak.length:Int)) then V An else bif ((Ce.Br.length:Int) != (Ce.Ak.length:Int)) then V An else V ((Ce.Bj.length:Int) != Cf)).bind fun b1=>bif b1 then V Cd else(gq Ce n 0).bind fun|.ret r=>V r|.nxt _=>(nL Ce n 0).bind fun|.ret r=>V r|.nxt _=>V An
theorem NP{Ce:aJ}{Cf}(C:Ro w Ce cs1){r:Bool}(F:xE n Ce Cf=V r):qP prog 88 [gv Ce cs1,vi Cf] w r:=by
 obtain⟨p1,s,x,u,y,k3,z,v,rfl,s1,s2,s3,s4⟩:=dz C;refine zV 108 func88 Z fun h=>dE (qJ h Z Z fun _ a h=>X1 11 0 h Z ?_);obtain⟨B,i,_,F,c⟩:=bindE F;refine bd (fun e w'=>∃b1,B b1=V r/\e=[(2,vp a),(5,vi (Ce.Ak.length:Int)),(37,.bool b1)]/\SH w w' [oX a (nW Ce p1 x y z s u k3 v) 171]) ?_ ?_
 .refine X0 4 Z (qh (t:=13) F Z ?_ ?_)<;>intro F
  .refine X0 25 Z ?_;exact rH F c h Z
  refine X0 6 Z (qh (t:=17) F Z ?_ ?_)<;>intro F
  .refine X0 21 Z ?_;exact rH F c h Z
  refine X1 12 0 h Z (qh (t:=24) F Z ?_ ?_)<;>intro F
  .refine X0 14 Z ?_;exact rH F c h Z
  refine X1 12 0 h Z (qh (t:=31) F Z ?_ ?_)<;>intro F
  .refine X0 7 Z ?_;exact rH F c h Z
  refine X1 12 0 h Z ?_;exact rH F c h Z
 rintro _ _ ⟨b1,F,rfl,h⟩;subst i;refine qp Z F ?_ ?_<;>intro F
 .exact X0 4 Z (rb h F Z)
 refine X0 6 Z ?_;obtain⟨o1,F,b⟩:=qc F;refine qr (rL (fun m e w'=>∃p,gq Ce m p=V o1/\e=[(2,vp a),(5,vi (Ce.Ak.length:Int)),(6,vi p)]/\SH w w' [oX a (nW Ce p1 x y z s u k3 v) 171]) n ⟨_,F,Z,h⟩ Z ?_);rintro m1 _ _ ⟨p,F,rfl,h⟩;rcases m1 with _|m1
 .cases F
 refine X0 7 Z (qp Z F ?_ ?_)<;>intro F
 .refine X0 5 Z ?_;obtain⟨A,g,_,F,d⟩:=bindE F;refine bd (fun e w'=>∃b2,A b2=V o1/\e=[(2,vp a),(5,vi (Ce.Ak.length:Int)),(6,vi p),(58,.bool b2)]/\SH w w' [oX a (nW Ce p1 x y z s u k3 v) 171]) ?_ ?_
  .refine X1 4 0 h Z ?_;obtain⟨_,_,F,O,_,_,_,_,X,a8,rfl,k⟩:=s3.ix F;refine fG X a8 O Z (bN 0 k h Z (dF h F aF Z fun _ _ h F=>lY Z (qh (t:=50) F Z ?_ ?_)))<;>intro F
   .refine X0 9 Z ?_;exact rH F d h Z
   refine X1 7 0 h Z ?_;obtain⟨_,_,F,P,_,_,_,_,Y,a9,rfl,l⟩:=s2.ix F;refine fG Y a9 P Z (X0 1 Z (bN 0 l h Z (X0 1 Z (dF h F aF Z fun _ _ h F=>X0 4 Z ?_))));exact rH F d h Z
  rintro _ _ ⟨b2,F,rfl,h⟩;subst g;refine qp Z F ?_ ?_<;>intro F
  .refine X0 4 Z ?_;cases qe F;exact rb h b Z
  refine X0 6 Z (qh (t:=61) F Z ?_ ?_)<;>intro F
  .refine X1 7 0 h Z ?_;obtain⟨_,_,F,K,_,_,_,_,R,a4,rfl,D⟩:=s1.ix F;refine fG R a4 K Z (X0 1 Z (bN 0 D h Z (X0 4 Z (qh (t:=68) F Z ?_ ?_))))<;>intro F
   .refine X0 25 Z (eI Z Z (X0 4 Z ?_));cases qe F;exact rb h b Z
   refine X1 7 0 h Z ?_;obtain⟨_,_,F,L,_,_,_,_,S,a5,rfl,H⟩:=s2.ix F;refine fG S a5 L Z (X0 1 Z (bN 0 H h Z (X0 6 Z (qh (t:=77) F Z ?_ ?_))))<;>intro F
   .refine X0 15 Z (eI Z Z (X0 4 Z ?_));cases qe F;exact rb h b Z
   refine X0 6 Z (qh (t:=80) F Z ?_ ?_)<;>intro F
   .refine X1 7 0 h Z ?_;obtain⟨_,_,F,M,_,_,_,_,T,a6,rfl,I⟩:=s1.ix F;refine fG T a6 M Z (X0 1 Z (bN 0 I h Z (X0 5 Z (dF h F aF Z fun _ _ h F=>X0 6 Z (qp Z F ?_ ?_)))))<;>intro F
    .refine X0 4 Z ?_;cases qe F;exact rb h b Z
    exact X0 7 Z (rK ⟨_,F,Z,h⟩ Z)
   exact X0 13 Z (ch Z Z (X0 7 Z (rK ⟨_,F,Z,h⟩ Z)))
  refine X0 22 Z (qh (t:=80) F Z ?_ ?_)<;>intro F
  .refine X1 7 0 h Z ?_;obtain⟨_,_,F,N,_,_,_,_,W,a7,rfl,J⟩:=s1.ix F;refine fG W a7 N Z (X0 1 Z (bN 0 J h Z (X0 5 Z (dF h F aF Z fun _ _ h F=>X0 6 Z (qp Z F ?_ ?_)))))<;>intro F
   .refine X0 4 Z ?_;cases qe F;exact rb h b Z
   exact X0 7 Z (rK ⟨_,F,Z,h⟩ Z)
  exact X0 13 Z (ch Z Z (X0 7 Z (rK ⟨_,F,Z,h⟩ Z)))
 refine qx Z ?_;cases qe F;have F:=b;refine X0 5 Z ?_;obtain⟨o3,F,f⟩:=qc F;refine qr (rL (fun m e w'=>∃i2,nL Ce m i2=V o3/\e=[(2,vp a),(5,vi (Ce.Ak.length:Int)),(7,vi i2)]/\SH w w' [oX a (nW Ce p1 x y z s u k3 v) 171]) n ⟨_,F,Z,h⟩ Z ?_);rintro m2 _ _ ⟨i2,F,rfl,h⟩;rcases m2 with _|m2
 .cases F
 refine X1 9 0 h Z (qp Z F ?_ ?_)<;>intro F
 .refine X1 8 0 h Z ?_;obtain⟨_,_,F,Q,_,_,_,_,a3,b4,rfl,o⟩:=s4.ix F;refine fG a3 b4 Q Z (bN 0 o h Z (lY Z (dF h F aF Z fun _ _ h F=>X0 2 Z (qp Z F ?_ ?_))))<;>intro F
  .refine X0 4 Z ?_;cases qe F;exact rb h f Z
  exact X0 7 Z (rK ⟨_,F,Z,h⟩ Z)
 refine qx Z ?_;cases qe F;exact X0 4 Z (rb h f Z)
def gx(c:Int)(b:qL):Nat->(List qU)->Int->Option ((List qU)×Int)|0,_,_=>U|n+1,d,a=>bif decide (a<(b.Am.length:Int)) then(qF b.Am a).bind fun g=>(dj d ([(⟨c,a,g,(a==(qj ((b.Am.length:Int)-1)))⟩:qU)]:List qU)).bind fun f=>gx c b n f (qj (a+1)) else V (d,a)
def gy(Ce:qk):Nat->(List qU)->Int->Option ((List qU)×Int)|0,_,_=>U|n+1,b,a=>bif decide (a<(Ce.Ai.length:Int)) then(qF Ce.Ai a).bind fun d=>(qF Ce.Ai a).bind fun f=>(dj b ([(⟨(-1),a,d.Cb,(f.Bx==1)⟩:qU)]:List qU)).bind fun c=>gy Ce n c (qj (a+1)) else V (b,a)
def gw(Ce:qk):Nat->(List qU)->Int->Option ((List qU)×Int)|0,_,_=>U|n+1,x1,a=>bif decide (a<(Ce.Ab.length:Int)) then(qF Ce.Ab a).bind fun c=>(gx a c n x1 0).bind fun(b,_)=>gw Ce n b (qj (a+1)) else V (x1,a)
def eA(n:Nat)(Ce:qk):Option (List qU):=(gw Ce n ([]:List qU) 0).bind fun(x1,_)=>(gy Ce n x1 0).bind fun(a,_)=>V a
theorem dY{Ce:qk}(v:Ro w Ce cs1){r:List qU}(F:eA n Ce=V r):qP prog 108 [gv Ce cs1] w r:=by
 obtain⟨p1,T,p2,W,p3,k3,rfl,s1,_,s3⟩:=ce v;refine zV 69 func108 Z fun h=>dE (qJ h Z Z fun _ a h=>X0 4 Z (qv qa [] _ ([]:List qU) h z9 trivial Z fun _ _ _ h=>X0 7 Z ?_));obtain⟨o1,F,s⟩:=qc F;refine qr (rL (fun m e w'=>∃S2 p5 g X x1 d,gw Ce m x1 d=V o1/\e=[(1,vp a),(3,oS p5 g X),(4,vi d)]/\SH w w' [oW S2 (x1:List qU) [oS p5 g X],oX a (ba Ce p1 p2 p3 T W k3) 31]) n ⟨_,_,_,_,_,_,F,Z,h⟩ Z ?_);rintro m1 _ _ ⟨S2,p5,g,X,x1,d,F,rfl,h⟩;obtain rfl:=(h.sl 0 Z).2;rcases m1 with _|m1
 .cases F
 refine X1 9 1 h Z (qp Z F ?_ ?_)<;>intro F
 .refine X1 8 1 h Z ?_;obtain⟨p,_,F,B,_,_,_,_,I,M,Q,x⟩:=s1.ix F;obtain⟨p6,k5,rfl,s4⟩:=bD Q;refine fG I M B Z (cq Z (bN 2 x h Z (X0 6 Z ?_)));obtain⟨o2,F,t⟩:=qc F;refine qr (rL (fun m e w'=>∃S3 p7 i Y x2 f,gx d p m x2 f=V o2/\e=[(1,vp a),(3,oS p7 i Y),(4,vi d),(5,oL p6 p.Am k5),(6,vi f)]/\SH w w' [oW S3 (x2:List qU) [oS p7 i Y],oX a (ba Ce p1 p2 p3 T W k3) 31]) m1 ⟨_,_,_,_,_,_,F,Z,h⟩ Z ?_);rintro m2 _ _ ⟨S3,p7,i,Y,x2,f,F,rfl,h⟩;obtain rfl:=(h.sl 0 Z).2;rcases m2 with _|m2
  .cases F
  refine X0 8 Z (qp Z F ?_ ?_)<;>intro F
  .refine X0 9 Z ?_;obtain⟨y2,_,F,C,_,_,_,_,J,N,rfl,y⟩:=s4.ix F;refine fG J N C Z (bN 0 y h Z (qb0 Z (dK (qC qa [0,1,2,3] [.tmp 29,.tmp 30,.tmp 34,.tmp 39] z8) Z (qv qa [.tmp 40] _ ([(⟨d,f,y2,(f==(qj ((p.Am.length:Int)-1)))⟩:qU)]:List qU) h z9 ⟨(mP (⟨d,f,y2,(f==(qj ((p.Am.length:Int)-1)))⟩:qU)),G⟩ Z fun _ _ _ h=>?_))));obtain⟨_,b,F⟩:=qc F;obtain⟨g1,b⟩:=qH b;refine bo qa 1 h Z (h.sl 0 Z).1 (h.sl 0 Z).2 z9 g1 b Z fun _ _ _ _ h=>X0 8 Z ?_;exact rK ⟨_,_,_,_,_,_,F,Z,h.p [1,2] Z⟩ Z
  refine qx Z ?_;cases qe F;exact X0 6 Z (rK ⟨_,_,_,_,_,_,t,Z,h⟩ Z)
 refine qx Z ?_;cases qe F;have F:=s;refine X0 5 Z ?_;obtain⟨o3,F,u⟩:=qc F;refine qr (rL (fun m e w'=>∃S6 l k k8 x4 o,gy Ce m x4 o=V o3/\e=[(1,vp a),(3,oS l k k8),(7,vi o)]/\SH w w' [oW S6 (x4:List qU) [oS l k k8],oX a (ba Ce p1 p2 p3 T W k3) 31]) n ⟨_,_,_,_,_,_,F,Z,h⟩ Z ?_);rintro m3 _ _ ⟨S6,l,k,k8,x4,o,F,rfl,h⟩;obtain rfl:=(h.sl 0 Z).2;rcases m3 with _|m3
 .cases F
 refine X1 9 1 h Z (qp Z F ?_ ?_)<;>intro F
 .refine TN (rA [] [1] h Z fun _ h=>M1 31 [0,1,2,3,4] 0 (h.p [1] Z) Z ?_);obtain⟨y3,_,F,D,_,_,_,_,K,O,R,z⟩:=s3.ix F;obtain rfl:=lH R;refine Ae 5 63 K O D (h.p [1] Z) Z (M0 127 [6] (h.p [1] Z) Z (Al 7 255 2 z (h.p [1] Z) Z (M1 2047 [8,9,10] 0 (h.p [1] Z) Z ?_)));obtain⟨y4,_,F,H,_,_,_,_,L,P,S,A⟩:=s3.ix F;obtain rfl:=lH S;refine Ae 11 4095 L P H (h.p [1] Z) Z (M0 8191 [12] (h.p [1] Z) Z (Al 13 16383 1 A (h.p [1] Z) Z (M0 32767 [14] (h.p [1] Z) Z (Aw 15 65535 (fun w' hw=>qC qa [0,1,2,3] [.const (vi (-1)),.tmp 51,.tmp 57,.tmp 64] z8) (h.p [1] Z) Z ?_))));refine Ao 16 131071 Z (qv qa [.tmp 65] _ ([(⟨(-1),o,y3.Cb,(y4.Bx==1)⟩:qU)]:List qU) h z9 ⟨(mP (⟨(-1),o,y3.Cb,(y4.Bx==1)⟩:qU)),G⟩ Z fun _ _ _ h=>Ag (h.p [2] Z) (Ao 17 262143 Z ?_));obtain⟨_,c,F⟩:=qc F;obtain⟨g2,c⟩:=qH c;refine bo qa 1 h Z (h.sl 0 Z).1 (h.sl 0 Z).2 z9 g2 c Z fun _ _ _ _ h=>G0 524287 [18] (h.p [2] Z) Z (Ad (X0 6 Z ?_));exact rK ⟨_,_,_,_,_,_,F,Z,h.p [1,2] Z⟩ Z
 refine qx Z ?_;cases qe F;have F:=u;refine X0 5 Z ?_;cases qe F;exact rO 0 h Z ⟨Z,G⟩
def fX(net:Int)(r1:List qU):Nat->(List Int)->Int->Option ((List Int)×Int)|0,_,_=>U|n+1,x1,a=>bif decide (a<(r1.length:Int)) then((qF r1 a).bind fun c=>bif (c.net==net) then(qF r1 a).bind fun d=>V (!d.drives) else V Cd).bind fun b1=>bif b1 then(dj x1 ([a]:List Int)).bind fun b=>fX net r1 n b (qj (a+1)) else fX net r1 n x1 (qj (a+1)) else V (x1,a)
def mV(n:Nat)(d:qk)(net:Int):Option (List Int):=(eA n d).bind fun r1=>(fX net r1 n ([]:List Int) 0).bind fun(x1,_)=>V x1
theorem ro{d:qk}{net}(g:Ro w d cs1){r:List Int}(F:mV n d net=V r):qP prog 89 [gv d cs1,vi net] w r:=by
 obtain⟨_,_,_,_,_,_,rfl,_,_,_⟩:=ce g;refine zV 37 func89 Z fun h=>dE (qJ h Z Z fun _ _ h=>X0 4 Z (qv qa [] _ ([]:List Int) h z9 trivial Z fun _ _ _ h=>X1 5 1 h Z (uj h F (dY (h.old g)) Z fun r1 _ S2 u s h F=>X0 7 Z ?_)));obtain⟨o1,F,y⟩:=qc F;refine qr ?_;have h:=h.p [0,1] Z;refine rL (fun m e w'=>∃x p b o x1 l,fX net r1 m x1 l=V o1/\e=[(1,vi net),(5,oS p b o),(6,oL u r1 s),(7,vi l)]/\SH w w' [oW S2 (r1:List qU) [oL u r1 s],oW x (x1:List Int) [oS p b o]]) n ⟨_,_,_,_,_,_,F,Z,h⟩ Z ?_;rintro K _ _ ⟨x,p,b,o,x1,l,F,rfl,h⟩;obtain rfl:=(h.sl 1 Z).2;rcases K with _|K
 .cases F
 refine X0 8 Z (qp Z F ?_ ?_)<;>intro F
 .refine X0 4 Z ?_;obtain⟨v,f,_,F,c⟩:=bindE F;refine bd (fun e w'=>∃b1,v b1=V o1/\e=[(1,vi net),(5,oL p x1 o),(6,oL u r1 s),(7,vi l),(31,.bool b1)]/\SH w w' [oW S2 (r1:List qU) [oL u r1 s],oW x (x1:List Int) [oL p x1 o]]) ?_ ?_
  .refine X0 3 Z ?_;obtain⟨_,_,F,i,_,_,_,_,B,D,I,z⟩:=(h.sl 0 Z).1.ix F;obtain rfl:=df I;refine zx B D ⟨i.1,qD i.2.1 (h.sl 0 Z).2⟩ Z (cq Z (zc 2 z Z (EK Z (qh (t:=24) F Z ?_ ?_))))<;>intro F
   .refine X0 5 Z ?_;obtain⟨_,_,F,k,_,_,_,_,C,H,J,A⟩:=(h.sl 0 Z).1.ix F;obtain rfl:=df J;refine zx C H ⟨k.1,qD k.2.1 (h.sl 0 Z).2⟩ Z (X0 3 Z (zc 3 A Z (X0 4 Z ?_)));exact rH F c h Z
   refine X0 8 Z ?_;exact rH F c h Z
  rintro _ _ ⟨b1,F,rfl,h⟩;subst f;refine qp Z F ?_ ?_<;>intro F
  .refine X0 3 Z (qv qa [.tmp 33] _ ([l]:List Int) h z9 ⟨Z,G⟩ Z fun _ _ _ h=>?_);obtain⟨_,a,F⟩:=qc F;obtain⟨L,a⟩:=qH a;refine bo qa 2 h Z (h.sl 0 Z).1 (h.sl 0 Z).2 z9 L a Z fun _ _ _ _ h=>X0 8 Z ?_;exact rK ⟨_,_,_,_,_,_,F,Z,h.p [1,2] Z⟩ Z
  exact X0 7 Z (rK ⟨_,_,_,_,_,_,F,Z,h⟩ Z)
 refine qx Z ?_;cases qe F;have F:=y;refine X0 5 Z ?_;cases qe F;exact rO 1 h Z ⟨Z,G⟩
def mh(b:qf):Nat->Int->Option (eE Bool Int)|0,_=>U|n+1,a=>bif decide (a<(b.Ah.length:Int)) then(qF b.Ah a).bind fun d=>(mV n (⟨b.Aa.Ab,b.Aa.Am,b.Aa.Ai⟩:qk) a).bind fun r1=>(xE n d (r1.length:Int)).bind fun c=>bif (!c) then V (.ret Cd) else mh b n (qj (a+1)) else V (.nxt a)
def kT(n:Nat)(b:qf):Option Bool:=((uQ n (⟨b.Ar.Au⟩:qB) (⟨b.Aa.Ab,b.Aa.Am,b.Aa.Ai⟩:qk)).bind fun a=>bif (!a) then V An else V ((b.Ah.length:Int) != (b.Aa.Am.length:Int))).bind fun b1=>bif b1 then V Cd else(mh b n 0).bind fun|.ret r=>V r|.nxt _=>V An
theorem oC{b:qf}(i:Ro w b cs1){r:Bool}(F:kT n b=V r):qP prog 44 [gv b cs1] w r:=by
 obtain⟨p1,v,B,x,C,k3,D,y,H,z,rfl,s1,s2,I,J,K⟩:=qW i;refine zV 39 func44 Z fun h=>dE (qJ h Z Z fun _ a h=>X0 4 Z ?_);obtain⟨g,f,_,F,d⟩:=bindE F;refine bd (fun e w'=>∃b1,g b1=V r/\e=[(1,vp a),(19,.bool b1)]/\SH w w' [oX a (qN b p1 B C D H v x k3 y z) 34]) ?_ ?_
 .refine X2 5 0 0 h Z (dF h F (IM (tO _ (h.oldS s1)) (cg _ (h.oldS s2) (h.oldS I) (h.oldS J))) Z fun _ _ h F=>lY Z (qh (t:=10) F Z ?_ ?_))<;>intro F
  .refine X0 10 Z ?_;exact rH F d h Z
  refine X2 18 0 0 h Z ?_;exact rH F d h Z
 rintro _ _ ⟨b1,F,rfl,h⟩;subst f;refine qp Z F ?_ ?_<;>intro F
 .exact X0 4 Z (rb h F Z)
 refine X0 6 Z ?_;obtain⟨o1,F,c⟩:=qc F;refine qr (rL (fun m e w'=>∃u,mh b m u=V o1/\e=[(1,vp a),(3,vi u)]/\SH w w' [oX a (qN b p1 B C D H v x k3 y z) 34]) n ⟨_,F,Z,h⟩ Z ?_);rintro A _ _ ⟨u,F,rfl,h⟩;rcases A with _|A
 .cases F
 refine X1 9 0 h Z (qp Z F ?_ ?_)<;>intro F
 .refine X0 4 Z (rA [] [0] h Z fun _ h=>M1 7 [0,1,2] 0 (h.p [0] Z) Z ?_);obtain⟨P,_,F,l,_,_,_,_,o,p,s,k⟩:=K.ix F;obtain⟨_,_,_,_,_,_,_,_,rfl,L,M,N,O⟩:=dz s;refine Ae 3 15 o p l (h.p [0] Z) Z (Al 4 31 0 k (h.p [0] Z) Z (M1 255 [5,6,7] 0 (h.p [0] Z) Z (Ao 8 511 Z (uj h F (ro (cg _ (h.oldS s2) (h.oldS I) (h.oldS J))) Z fun _ _ _ _ _ h F=>G0 1023 [9] (h.p [1] Z) Z (Ao 10 2047 Z (dF h F (NP (QH P (h.oldS L) (h.oldS M) (h.oldS N) (h.oldS O))) Z fun _ _ h F=>G0 4095 [11] (h.p [1] Z) Z (Ad (qp Z F ?_ ?_))))))))<;>intro F
  .refine X0 4 Z ?_;cases qe F;exact rb h c Z
  refine X0 7 Z ?_;exact rK ⟨_,F,Z,h.p [1] Z⟩ Z
 refine qx Z ?_;cases qe F;exact X0 4 Z (rb h c Z)
def bU(_:Nat)(x:Int)(b:Int)(a:Int):Option Bool:=bif decide (x>=b) then V (decide (x<=a)) else V Cd
theorem bn{x low high}  {r:Bool}(F:bU n x low high=V r):qP prog 23 [vi x,vi low,vi high] w r:=by
 refine zV 15 func23 Z fun h=>X0 10 Z (qh (t:=10) F Z ?_ ?_)<;>intro F
 .exact X0 9 Z (rb h F Z)
 exact X0 6 Z (rb h F Z)
def uf(_:Nat)(s ns:ByteArray):Option ByteArray:=if s.size<=9223372036854775807/\ns.size<4294967281/\ns.data.toList.all (fun b=>decide (b.toNat<128))=An then V ⟨(Lib.trimS s.data.toList ns.data.toList).toArray⟩ else U
theorem LQ{s ns}{r:ByteArray}(F:uf n s ns=V r):qP prog 181 [.string s,.string ns] w r:=by
 unfold uf at F;split at F
 .rename_i hh
  obtain rfl:=qe F;refine(Tryz.strings_Trim_any s ns w hh.1 hh.2.1 hh.2.2).mono ?_;rintro e w' ⟨rfl,a⟩;exact⟨_,Z,a,[.string _],Z,TI _ _⟩
 cases F
def pi(_:Nat)(s:ByteArray)(c:gW .u8):Option Int:=V (Lib.indexByte s.data.toList c.val.toNat.toUInt8)
theorem CO{s}{c:gW .u8}{r:Int}(F:pi n s c=V r):qP prog 182 [.string s,.int .u8 c.val] w r:=by
 obtain rfl:=qe F;refine(Tryz.strings_IndexByte s c.val w).mono ?_;rintro e w' ⟨rfl,rfl⟩;exact⟨_,Z,Below.refl _ _,[vi _],Z,qab _ _⟩
def sS(n:Nat)(s:ByteArray):Option Bool:=(bU n (s.size:Int) 1 8).bind fun r1=>bif r1 then(uf n s (⟨#[97,98,99,100,101,102,103,104,105,106,107,108,109,110,111,112,113,114,115,116,117,118,119,120,121,122,48,49,50,51,52,53,54,55,56,57]⟩:ByteArray)).bind fun a=>bif (a.toList==(⟨#[]⟩:ByteArray).toList) then(P4 s 0).bind fun c=>(pi n (⟨#[97,98,99,100,101,102,103,104,105,106,107,108,109,110,111,112,113,114,115,116,117,118,119,120,121,122]⟩:ByteArray) (⟨c⟩:gW .u8)).bind fun b=>V (decide (b>=0)) else V Cd else V Cd
theorem wF{s}  {r:Bool}(F:sS n s=V r):qP prog 115 [.string s] w r:=by
 refine zV 17 func115 Z fun h=>X0 8 Z (dF h F bn Z fun _ _ h F=>cq Z (qh (t:=6) F Z ?_ ?_))<;>intro F
 .refine X0 3 Z (qdB h F LQ Z fun _ _ h F=>X0 4 Z (qh (t:=11) F Z ?_ ?_))<;>intro F
  .refine X0 3 Z ?_;obtain⟨_,a,F⟩:=qc F;have b:=AU a;exact dK (CQ qa b Z Z Z Z) Z (X0 1 Z (mN h F CO Z fun _ _ h F=>X0 5 Z (rb h F Z)))
  exact X0 7 Z (rb h F Z)
 exact X0 12 Z (rb h F Z)
def eJ(s:List ByteArray)(v:ByteArray):Nat->Int->Option (eE Int Int)|0,_=>U|n+1,a=>bif decide (a<(s.length:Int)) then(qF s a).bind fun b=>bif (v.toList==b.toList) then V (.ret a) else eJ s v n (qj (a+1)) else V (.nxt a)
def nh(n:Nat)(s:List ByteArray)(v:ByteArray):Option Int:=(eJ s v n 0).bind fun|.ret r=>V r|.nxt _=>V (-1)
theorem zE{s:List ByteArray}{v}(b:Ro w s cs1){r:Int}(F:nh n s v=V r):qP prog 274 [gv s cs1,.string v] w r:=by
 obtain⟨p1,l,rfl,s1⟩:=b;refine zV 19 func274 Z fun h=>X0 11 Z ?_;obtain⟨o1,F,a⟩:=qc F;refine qr (rL (fun m e w'=>∃i,eJ s v m i=V o1/\e=[(0,oL p1 s l),(1,.string v),(7,vi (s.length:Int)),(8,vi i)]/\SH w w' []) n ⟨_,F,Z,h⟩ Z ?_);rintro k _ _ ⟨i,F,rfl,h⟩;rcases k with _|k
 .cases F
 refine X0 5 Z (qp Z F ?_ ?_)<;>intro F
 .refine X0 13 Z ?_;obtain⟨_,_,F,d,_,_,_,_,f,g,rfl,c⟩:=s1.ix F;refine fG f g d Z (bN 0 c h Z (X0 2 Z (qp Z F ?_ ?_)))<;>intro F
  .refine X0 5 Z ?_;cases qe F;exact ri h a Z
  exact X0 6 Z (rK ⟨_,F,Z,h⟩ Z)
 refine qx Z ?_;cases qe F;exact X0 4 Z (ri h a Z)
def kS(n:Nat)(s:List ByteArray)(v:ByteArray):Option Bool:=(nh n s v).bind fun r1=>V (decide (r1>=0))
theorem xe{s:List ByteArray}{v}(a:Ro w s cs1){r:Bool}(F:kS n s v=V r):qP prog 256 [gv s cs1,.string v] w r:=by
 obtain⟨_,_,rfl,s1⟩:=a;exact zV 9 func256 Z fun h=>X0 8 Z (mN h F (zE ⟨_,_,Z,(h.oldS s1)⟩) Z fun _ _ h F=>X0 3 Z (rb h F Z))
def lf(list:List ByteArray):Nat->Int->Option (eE Bool Int)|0,_=>U|n+1,a=>bif decide (a<(list.length:Int)) then(qF list a).bind fun b=>(sS n b).bind fun r1=>bif (!r1) then V (.ret Cd) else(wT list 0 a).bind fun x1=>(kS n x1 b).bind fun c=>bif c then V (.ret Cd) else lf list n (qj (a+1)) else V (.nxt a)
def kX(n:Nat)(list:List ByteArray):Option Bool:=(lf list n 0).bind fun|.ret r=>V r|.nxt _=>V An
theorem nC{list:List ByteArray}(f:Ro w list cs1){r:Bool}(F:kX n list=V r):qP prog 221 [gv list cs1] w r:=by
 obtain⟨p1,s,rfl,s1⟩:=f;refine zV 23 func221 Z fun h=>X0 11 Z ?_;obtain⟨o1,F,a⟩:=qc F;refine qr (rL (fun m e w'=>∃p,lf list m p=V o1/\e=[(0,oL p1 list s),(5,oL p1 list s),(6,vi (list.length:Int)),(7,vi p)]/\SH w w' []) n ⟨_,F,Z,h⟩ Z ?_);rintro u _ _ ⟨p,F,rfl,h⟩;rcases u with _|u
 .cases F
 refine X0 5 Z (qp Z F ?_ ?_)<;>intro F
 .refine X0 6 Z ?_;obtain⟨_,_,F,i,_,_,_,_,l,o,rfl,g⟩:=s1.ix F;refine fG l o i Z (bN 0 g h Z (X0 6 Z (dF h F wF Z fun _ _ h F=>lY Z (qh (t:=15) F Z ?_ ?_))))<;>intro F
  .refine X0 7 Z (eI Z Z (X0 4 Z ?_));cases qe F;exact rb h a Z
  refine X0 5 Z ?_;obtain⟨_,d,F⟩:=qc F;obtain⟨_,_,c,b,k,v⟩:=TF (h.oldS s1) d;refine dK (HC qa Z Z Z (TD v Z) c b k Z Z Z Z) Z ?_;have s2:=ZN s1 d c b;refine X0 3 Z (dF h F (xe ⟨_,_,Z,(h.oldS s2)⟩) Z fun _ _ h F=>X0 2 Z (qp Z F ?_ ?_))<;>intro F
  .refine X0 4 Z ?_;cases qe F;exact rb h a Z
  exact X0 6 Z (rK ⟨_,F,Z,h⟩ Z)
 refine qx Z ?_;cases qe F;exact X0 4 Z (rb h a Z)
def fR(_:Nat)(list:List bj):Option Int:=V (list.length:Int)
theorem sU{list:List bj}(a:Ro w list cs1){r:Int}(F:fR n list=V r):qP prog 268 [gv list cs1] w r:=by
 obtain⟨_,_,rfl,_⟩:=a;exact zV 5 func268 Z fun h=>X0 10 Z (ri h F Z)
def gJ(list:List bj):Nat->(List ByteArray)->Int->Option (eE Bool ((List ByteArray)×Int))|0,_,_=>U|n+1,x1,a=>bif decide (a<(list.length:Int)) then(qF list a).bind fun b=>(dj x1 ([b.Bh]:List ByteArray)).bind fun c=>bif (a==(qj ((list.length:Int)-1))) then bif (b.Bx != 2) then V (.ret Cd) else bif (b.Br != 0) then V (.ret Cd) else bif b.Bs then V (.ret Cd) else gJ list n c (qj (a+1)) else bif (b.Bx != 1) then V (.ret Cd) else(bU n b.Br 0 500).bind fun r1=>bif (!r1) then V (.ret Cd) else gJ list n c (qj (a+1)) else V (.nxt (x1,a))
def vS(n:Nat)(list:List bj):Option Bool:=(gJ list n ([]:List ByteArray) 0).bind fun|.ret r=>V r|.nxt (x1,_)=>(fR n list).bind fun a=>(bU n a 2 5).bind fun b=>bif b then(kX n x1).bind fun c=>V c else V Cd
theorem KW{list:List bj}(d:Ro w list cs1){r:Bool}(F:vS n list=V r):qP prog 253 [gv list cs1] w r:=by
 obtain⟨p1,u,rfl,s1⟩:=d;refine zV 52 func253 Z fun h=>X0 15 Z ?_;have h:=h.nil (α:=ByteArray);obtain⟨o1,F,a⟩:=qc F;refine qr (rL (fun m e w'=>∃S1 s c p x1 o,gJ list m x1 o=V o1/\e=[(0,oL p1 list u),(3,oS s c p),(6,oL p1 list u),(7,vi (list.length:Int)),(8,vi o)]/\SH w w' [oW S1 (x1:List ByteArray) [oS s c p]]) n ⟨_,_,_,_,_,_,F,Z,h⟩ Z ?_);rintro v _ _ ⟨S1,s,c,p,x1,o,F,rfl,h⟩;obtain rfl:=(h.sl 0 Z).2;rcases v with _|v
 .cases F
 refine X0 5 Z (qp Z F ?_ ?_)<;>intro F
 .refine X0 6 Z ?_;obtain⟨y,_,F,g,_,_,_,_,i,k,l,f⟩:=s1.ix F;obtain rfl:=mf l;refine fG i k g Z (bN 0 f h Z (qi qa h Z Z Z fun _ _ h=>cq Z (zs 0 h Z fun _ h=>X1 6 0 h Z (qv qa [.tmp 15] _ ([y.Bh]:List ByteArray) h z9 ⟨Z,G⟩ Z fun _ _ _ h=>?_))));obtain⟨_,b,F⟩:=qc F;obtain⟨x,b⟩:=qH b;refine bo qa 2 h Z (h.sl 0 Z).1 (h.sl 0 Z).2 z9 x b Z fun _ _ _ _ h=>X0 10 Z (qp Z F ?_ ?_)<;>intro F
  .refine X1 6 1 h Z (qh (t:=26) F Z ?_ ?_)<;>intro F
   .refine X0 9 Z (eI Z Z (X0 4 Z ?_));cases qe F;exact rb h a Z
   refine X1 8 1 h Z (qh (t:=31) F Z ?_ ?_)<;>intro F
   .refine X0 4 Z (eI Z Z (X0 4 Z ?_));cases qe F;exact rb h a Z
   refine X1 6 1 h Z (qp Z F ?_ ?_)<;>intro F
   .refine X0 4 Z ?_;cases qe F;exact rb h a Z
   refine X0 6 Z ?_;exact rK ⟨_,_,_,_,_,_,F,Z,h.p [2] Z⟩ Z
  refine X1 6 1 h Z (qh (t:=38) F Z ?_ ?_)<;>intro F
  .refine X0 6 Z (eI Z Z (X0 4 Z ?_));cases qe F;exact rb h a Z
  refine X1 5 1 h Z (dF h F bn Z fun _ _ h F=>X0 4 Z (qp Z F ?_ ?_))<;>intro F
  .refine X0 4 Z ?_;cases qe F;exact rb h a Z
  refine X0 6 Z ?_;exact rK ⟨_,_,_,_,_,_,F,Z,h.p [2] Z⟩ Z
 refine qx Z ?_;cases qe F;have F:=a;refine X0 3 Z (mN h F (sU ⟨_,_,Z,(h.oldS s1)⟩) Z fun _ _ h F=>dF h F bn Z fun _ _ h F=>cq Z (qh (t:=48) F Z ?_ ?_))<;>intro F
 .exact X0 3 Z (dF h F (nC (h.own 0 Z)) Z fun _ _ h F=>X0 3 Z (rb h F Z))
 exact X0 5 Z (rb h F Z)
def lc(n:Nat)(c:qR):Option Int:=(fR n c.Bg).bind fun r1=>V (qj (r1-1))
theorem rF{c:qR}(a:Ro w c cs1){r:Int}(F:lc n c=V r):qP prog 272 [gv c cs1] w r:=by
 obtain⟨_,_,_,_,_,_,rfl,s1,_,_⟩:=aV a;exact zV 7 func272 Z fun h=>dE (qJ h Z Z fun _ _ h=>X1 6 0 h Z (mN h F (sU ⟨_,_,Z,(h.oldS s1)⟩) Z fun _ _ h F=>X0 3 Z (ri h F Z)))
def vT(_:Nat)(kind:Int):Option Bool:=bif (kind==4) then V An else V (kind==5)
theorem KX{kind}  {r:Bool}(F:vT n kind=V r):qP prog 280 [vi kind] w r:=by
 refine zV 9 func280 Z fun h=>X0 9 Z (qh (t:=5) F Z ?_ ?_)<;>intro F
 .exact X0 5 Z (rb h F Z)
 exact X0 7 Z (rb h F Z)
def pX(n:Nat)(c:Int)(a:Int)(b:Int):Option Bool:=(bU n c a b).bind fun r1=>V (!r1)
theorem DQ{a_n k l p1}(a:Ro w (V k) [.pointer p1]){i}(b:Ro w (V l) [.pointer i]){r:Bool}(F:pX n a_n k l=V r):qP prog 93 [vi a_n,.pointer p1,.pointer i] w r:=by
 obtain⟨_,m,_,rfl,-,f,c⟩:=Cs a Z;obtain rfl:=f;obtain⟨_,o,_,rfl,-,g,d⟩:=Cs b Z;obtain rfl:=g;exact zV 10 func93 Z fun h=>X0 7 Z (bN 0 c h Z (bN 0 d h Z (dF h F bn Z fun _ _ h F=>X0 3 Z (rb h F Z))))
def aR(s:List Int)(a:Int)(b:Int):Nat->Int->Option (eE Int Int)|0,_=>U|n+1,c=>bif decide (c<(s.length:Int)) then(qF s c).bind fun d=>(pX n d a b).bind fun r1=>bif r1 then V (.ret c) else aR s a b n (qj (c+1)) else V (.nxt c)
def cr(n:Nat)(s:List Int)(a:Int)(b:Int):Option Int:=(aR s a b n 0).bind fun|.ret r=>V r|.nxt _=>V (-1)
theorem og{s:List Int}{a b}(g:Ro w s cs1){z}(d:Ro w (V a) [.pointer z]){A}(f:Ro w (V b) [.pointer A]){r:Int}(F:cr n s a b=V r):qP prog 153 [gv s cs1,.func (.func 93) #[] #[.pointer z,.pointer A]] w r:=by
 obtain⟨p1,B,rfl,s1⟩:=g;obtain⟨b1,v,_,rfl,-,p,_⟩:=Cs d Z;obtain rfl:=p;obtain⟨b2,x,_,rfl,-,t,_⟩:=Cs f Z;obtain rfl:=t;refine zV 19 func153 Z fun h=>X0 11 Z ?_;obtain⟨o1,F,c⟩:=qc F;refine qr (rL (fun m e w'=>∃u,aR s a b m u=V o1/\e=[(0,oL p1 s B),(1,.func (.func 93) #[] #[.pointer (V ⟨b1,v,U⟩),.pointer (V ⟨b2,x,U⟩)]),(7,vi (s.length:Int)),(8,vi u)]/\SH w w' []) n ⟨_,F,Z,h⟩ Z ?_);rintro y _ _ ⟨u,F,rfl,h⟩;rcases y with _|y
 .cases F
 refine X0 5 Z (qp Z F ?_ ?_)<;>intro F
 .refine X0 13 Z ?_;obtain⟨_,_,F,k,_,_,_,_,l,o,rfl,i⟩:=s1.ix F;refine fG l o k Z (bN 0 i h Z (dF h F (DQ (h.old d) (h.old f)) Z fun _ _ h F=>ac (qp Z F ?_ ?_)))<;>intro F
  .refine X0 5 Z ?_;cases qe F;exact ri h c Z
  exact X0 6 Z (rK ⟨_,F,Z,h⟩ Z)
 refine qx Z ?_;cases qe F;exact X0 4 Z (ri h c Z)
def dB(n:Nat)(s:List Int)(a:Int)(b:Int):Option Bool:=(cr n s a b).bind fun r1=>V (decide (r1>=0))
theorem nb{s:List Int}{a b}(f:Ro w s cs1){k}(c:Ro w (V a) [.pointer k]){l}(d:Ro w (V b) [.pointer l]){r:Bool}(F:dB n s a b=V r):qP prog 92 [gv s cs1,.func (.func 93) #[] #[.pointer k,.pointer l]] w r:=by
 obtain⟨_,_,rfl,s1⟩:=f;obtain⟨_,m,_,rfl,-,g,_⟩:=Cs c Z;obtain rfl:=g;obtain⟨_,o,_,rfl,-,i,_⟩:=Cs d Z;obtain rfl:=i;exact zV 9 func92 Z fun h=>X0 8 Z (mN h F (og ⟨_,_,Z,(h.oldS s1)⟩ (h.old c) (h.old d)) Z fun _ _ h F=>X0 3 Z (rb h F Z))
def er(n:Nat)(list:List Int)(b:Int)(a:Int):Option Bool:=(dB n list b a).bind fun r1=>V (!r1)
theorem fj{list:List Int}{low high}(a:Ro w list cs1){r:Bool}(F:er n list low high=V r):qP prog 49 [gv list cs1,vi low,vi high] w r:=by
 obtain⟨_,_,rfl,s1⟩:=a;exact zV 11 func49 Z fun h=>dE (qJ h Z Z fun _ _ h=>qJ h Z Z fun _ _ h=>X0 6 Z (dF h F (nb ⟨_,_,Z,(h.oldS s1)⟩ (oB (x:=low) 1 h Z Z) (oB (x:=high) 0 h Z Z)) Z fun _ _ h F=>X0 3 Z (rb h F Z)))
def di(_:Nat)(list:List Int):Option Int:=V (list.length:Int)
theorem fS{list:List Int}(a:Ro w list cs1){r:Int}(F:di n list=V r):qP prog 118 [gv list cs1] w r:=by
 obtain⟨_,_,rfl,_⟩:=a;exact zV 5 func118 Z fun h=>X0 10 Z (ri h F Z)
def dr(list:List Int):Nat->Int->Option (eE Bool Int)|0,_=>U|n+1,a=>bif decide (a<(list.length:Int)) then(qF list (qj (a-1))).bind fun b=>(qF list a).bind fun c=>bif decide (b>=c) then V (.ret Cd) else dr list n (qj (a+1)) else V (.nxt a)
def mA(n:Nat)(list:List Int):Option Bool:=(dr list n 1).bind fun|.ret r=>V r|.nxt _=>V An
theorem vf{list:List Int}(b:Ro w list cs1){r:Bool}(F:mA n list=V r):qP prog 125 [gv list cs1] w r:=by
 obtain⟨p1,t,rfl,s1⟩:=b;refine zV 20 func125 Z fun h=>X0 9 Z ?_;obtain⟨o1,F,a⟩:=qc F;refine qr (rL (fun m e w'=>∃p,dr list m p=V o1/\e=[(0,oL p1 list t),(3,vi p)]/\SH w w' []) n ⟨_,F,Z,h⟩ Z ?_);rintro s _ _ ⟨p,F,rfl,h⟩;rcases s with _|s
 .cases F
 refine X0 8 Z (qp Z F ?_ ?_)<;>intro F
 .refine X0 4 Z (rD (qcY Z ?_));obtain⟨_,_,F,f,_,_,_,_,i,l,rfl,c⟩:=s1.ix F;refine hG i l f Z (fF 0 c h Z (xQ Z ?_));obtain⟨_,_,F,g,_,_,_,_,k,o,rfl,d⟩:=s1.ix F;refine hG k o g Z (fF 0 d h Z (vD Z (dN h fun _ h=>qp Z F ?_ ?_)))<;>intro F
  .refine X0 4 Z ?_;cases qe F;exact rb h a Z
  exact X0 7 Z (rK ⟨_,F,Z,h⟩ Z)
 refine qx Z ?_;cases qe F;exact X0 4 Z (rb h a Z)
def ve(n:Nat)(list:List Int):Option Bool:=(di n list).bind fun r1=>(bU n r1 1 4).bind fun a=>bif a then(er n list 0 100000).bind fun b=>bif b then(mA n list).bind fun c=>V c else V Cd else V Cd
theorem BJ{list:List Int}(a:Ro w list cs1){r:Bool}(F:ve n list=V r):qP prog 298 [gv list cs1] w r:=by
 obtain⟨_,_,rfl,s1⟩:=a;refine zV 14 func298 Z fun h=>X0 7 Z (mN h F (fS ⟨_,_,Z,(h.oldS s1)⟩) Z fun _ _ h F=>dF h F bn Z fun _ _ h F=>cq Z (qh (t:=6) F Z ?_ ?_))<;>intro F
 .refine X0 3 Z (dF h F (fj ⟨_,_,Z,(h.oldS s1)⟩) Z fun _ _ h F=>lY Z (qh (t:=10) F Z ?_ ?_))<;>intro F
  .exact X0 3 Z (dF h F (vf ⟨_,_,Z,(h.oldS s1)⟩) Z fun _ _ h F=>X0 3 Z (rb h F Z))
  exact X0 5 Z (rb h F Z)
 exact X0 9 Z (rb h F Z)
def vQ(n:Nat)(t:aa):Option Bool:=(ve n t.Bp).bind fun r1=>bif r1 then(ve n t.Bm).bind fun a=>bif a then bif ((t.Bi.length:Int)==(qj ((t.Bp.length:Int)*(t.Bm.length:Int)))) then(er n t.Bi (-1000000) 1000000).bind fun b=>V b else V Cd else V Cd else V Cd
theorem KV{t:aa}(a:Ro w t cs1){r:Bool}(F:vQ n t=V r):qP prog 292 [gv t cs1] w r:=by
 obtain⟨_,_,_,_,_,_,rfl,s1,s2,b⟩:=fk a;refine zV 29 func292 Z fun h=>dE (qJ h Z Z fun _ _ h=>X1 6 0 h Z (dF h F (BJ ⟨_,_,Z,(h.oldS s1)⟩) Z fun _ _ h F=>cq Z (qh (t:=6) F Z ?_ ?_)))<;>intro F
 .refine X1 5 0 h Z (dF h F (BJ ⟨_,_,Z,(h.oldS s2)⟩) Z fun _ _ h F=>lY Z (qh (t:=11) F Z ?_ ?_))<;>intro F
  .refine X3 24 0 0 0 h Z (qh (t:=24) F Z ?_ ?_)<;>intro F
   .exact X1 5 0 h Z (dF h F (fj ⟨_,_,Z,(h.oldS b)⟩) Z fun _ _ h F=>X0 3 Z (rb h F Z))
   exact X0 6 Z (rb h F Z)
  exact X0 19 Z (rb h F Z)
 exact X0 24 Z (rb h F Z)
def gD(x:List Int):Nat->Int->Int->Option (Int×Int)|0,_,_=>U|n+1,b,a=>bif decide (a<(x.length:Int)) then(qF x a).bind fun c=>gD x n (if c<b then c else b) (qj (a+1)) else V (b,a)
def rk(n:Nat)(x:List Int):Option Int:=(bif decide ((x.length:Int)<1) then U else V ()).bind fun _=>(qF x 0).bind fun b=>(gD x n b 1).bind fun(a,_)=>V a
theorem DX{x:List Int}(f:Ro w x cs1){r:Int}(F:rk n x=V r):qP prog 293 [gv x cs1] w r:=by
 obtain⟨p1,y,rfl,s1⟩:=f;refine zV 25 func293 Z fun h=>X0 11 Z ?_;obtain⟨b,a,_,F,d⟩:=bindE F;refine bd (fun e w'=>b ()=V r/\e=[(0,oL p1 x y)]/\SH w w' []) ?_ ?_
 .refine qp Z F ?_ ?_<;>intro F
  .refine ae ?_;cases F
  refine ez ?_;cases qe F;exact rG ⟨d,Z,h⟩ Z
 rintro _ _ ⟨F,rfl,h⟩;subst a;refine X0 3 Z ?_;obtain⟨_,_,F,k,_,_,_,_,o,s,rfl,g⟩:=s1.ix F;refine fG o s k Z (bN 0 g h Z (X0 7 Z ?_));obtain⟨o1,F,c⟩:=qc F;refine qr (rL (fun m e w'=>∃u v,gD x m u v=V o1/\e=[(0,oL p1 x y),(3,vi u),(4,vi v)]/\SH w w' []) n ⟨_,_,F,Z,h⟩ Z ?_);rintro z _ _ ⟨u,v,F,rfl,h⟩;rcases z with _|z
 .cases F
 refine X0 8 Z (qp Z F ?_ ?_)<;>intro F
 .refine X0 7 Z ?_;obtain⟨_,_,F,l,_,_,_,_,p,t,rfl,i⟩:=s1.ix F;exact fG p t l Z (bN 0 i h Z (X0 9 Z (rK ⟨_,_,F,Z,h⟩ Z)))
 refine qx Z ?_;cases qe F;exact X0 5 Z (ri h c Z)

def pW(n:Nat)(t:aa)(b:Bool):Option Bool:=(vQ n t).bind fun r1=>bif (!r1) then V An else bif b then(rk n t.Bi).bind fun a=>V (decide (a<0)) else V Cd
theorem DP{t:aa}{g}(a:Ro w t cs1){f}(b:Ro w (V g) [.pointer f]){r:Bool}(F:pW n t g=V r):qP prog 291 [gv t cs1,.pointer f] w r:=by
 obtain⟨_,_,_,_,_,_,rfl,_,_,k⟩:=fk a;obtain⟨_,i,_,rfl,-,d,c⟩:=Cs b Z;obtain rfl:=d;refine zV 16 func291 Z fun h=>dE (qJ h Z Z fun _ _ h=>X1 5 0 h Z (dF h F (KV (h.old a)) Z fun _ _ h F=>lY Z (qh (t:=7) F Z ?_ ?_)))<;>intro F
 .exact X0 10 Z (rb h F Z)
 refine X0 1 Z (bN 0 c h Z (X0 2 Z (qh (t:=9) F Z ?_ ?_)))<;>intro F
 .exact X1 5 0 h Z (mN h F (DX ⟨_,_,Z,(h.oldS k)⟩) Z fun _ _ h F=>X0 7 Z (rb h F Z))
 exact X0 9 Z (rb h F Z)
def ay(s:List aa)(a:Bool):Nat->Int->Option (eE Int Int)|0,_=>U|n+1,b=>bif decide (b<(s.length:Int)) then(qF s b).bind fun c=>(pW n c a).bind fun r1=>bif r1 then V (.ret b) else ay s a n (qj (b+1)) else V (.nxt b)
def bR(n:Nat)(s:List aa)(a:Bool):Option Int:=(ay s a n 0).bind fun|.ret r=>V r|.nxt _=>V (-1)
theorem mI{s:List aa}{a}(d:Ro w s cs1){v}(c:Ro w (V a) [.pointer v]){r:Int}(F:bR n s a=V r):qP prog 297 [gv s cs1,.func (.func 291) #[] #[.pointer v]] w r:=by
 obtain⟨p1,x,rfl,s1⟩:=d;obtain⟨b1,t,_,rfl,-,l,_⟩:=Cs c Z;obtain rfl:=l;refine zV 19 func297 Z fun h=>X0 11 Z ?_;obtain⟨o1,F,b⟩:=qc F;refine qr (rL (fun m e w'=>∃p,ay s a m p=V o1/\e=[(0,oL p1 s x),(1,.func (.func 291) #[] #[.pointer (V ⟨b1,t,U⟩)]),(7,vi (s.length:Int)),(8,vi p)]/\SH w w' []) n ⟨_,F,Z,h⟩ Z ?_);rintro u _ _ ⟨p,F,rfl,h⟩;rcases u with _|u
 .cases F
 refine X0 5 Z (qp Z F ?_ ?_)<;>intro F
 .refine X0 13 Z ?_;obtain⟨A,_,F,g,_,_,_,_,i,k,o,f⟩:=s1.ix F;obtain⟨_,_,_,_,_,_,rfl,s2,y,z⟩:=fk o;refine fG i k g Z (bN 0 f h Z (dF h F (DP (uF A (h.oldS s2) (h.oldS y) (h.oldS z)) (h.old c)) Z fun _ _ h F=>ac (qp Z F ?_ ?_)))<;>intro F
  .refine X0 5 Z ?_;cases qe F;exact ri h b Z
  exact X0 6 Z (rK ⟨_,F,Z,h⟩ Z)
 refine qx Z ?_;cases qe F;exact X0 4 Z (ri h b Z)
def cD(n:Nat)(s:List aa)(a:Bool):Option Bool:=(bR n s a).bind fun r1=>V (decide (r1>=0))
theorem lJ{s:List aa}{a}(c:Ro w s cs1){f}(b:Ro w (V a) [.pointer f]){r:Bool}(F:cD n s a=V r):qP prog 290 [gv s cs1,.func (.func 291) #[] #[.pointer f]] w r:=by
 obtain⟨_,_,rfl,s1⟩:=c;obtain⟨_,g,_,rfl,-,d,_⟩:=Cs b Z;obtain rfl:=d;exact zV 9 func290 Z fun h=>X0 8 Z (mN h F (mI ⟨_,_,Z,(h.oldS s1)⟩ (h.old b)) Z fun _ _ h F=>X0 3 Z (rb h F Z))
def nD(n:Nat)(list:List aa)(a:Bool):Option Bool:=bif ((list.length:Int)==2) then(cD n list a).bind fun r1=>V (!r1) else V Cd
theorem tF{list:List aa}{positive}(a:Ro w list cs1){r:Bool}(F:nD n list positive=V r):qP prog 281 [gv list cs1,.bool positive] w r:=by
 obtain⟨_,_,rfl,s1⟩:=a;refine zV 14 func281 Z fun h=>dE (qJ h Z Z fun _ _ h=>X0 8 Z (qh (t:=8) F Z ?_ ?_))<;>intro F
 .exact X0 5 Z (dF h F (lJ ⟨_,_,Z,(h.oldS s1)⟩ (oB (x:=positive) 0 h Z Z)) Z fun _ _ h F=>X0 5 Z (rb h F Z))
 exact X0 7 Z (rb h F Z)
def tw(_:Nat)(p:bj):Option Bool:=V p.Bs
theorem BF{p:bj}(a:Ro w p cs1){r:Bool}(F:tw n p=V r):qP prog 295 [gv p cs1] w r:=by
 obtain rfl:=mf a;exact zV 5 func295 Z fun h=>dE (qJ h Z Z fun _ _ h=>X1 8 0 h Z (rb h F Z))
def aD(s:List bj):Nat->Int->Option (eE Int Int)|0,_=>U|n+1,a=>bif decide (a<(s.length:Int)) then(qF s a).bind fun b=>(tw n b).bind fun r1=>bif r1 then V (.ret a) else aD s n (qj (a+1)) else V (.nxt a)
def dm(n:Nat)(s:List bj):Option Int:=(aD s n 0).bind fun|.ret r=>V r|.nxt _=>V (-1)
theorem mT{s:List bj}(b:Ro w s cs1){r:Int}(F:dm n s=V r):qP prog 294 [gv s cs1,.func (.func 295) #[] #[]] w r:=by
 obtain⟨p1,o,rfl,s1⟩:=b;refine zV 19 func294 Z fun h=>X0 11 Z ?_;obtain⟨o1,F,a⟩:=qc F;refine qr (rL (fun m e w'=>∃k,aD s m k=V o1/\e=[(0,oL p1 s o),(1,.func (.func 295) #[] #[]),(7,vi (s.length:Int)),(8,vi k)]/\SH w w' []) n ⟨_,F,Z,h⟩ Z ?_);rintro l _ _ ⟨k,F,rfl,h⟩;rcases l with _|l
 .cases F
 refine X0 5 Z (qp Z F ?_ ?_)<;>intro F
 .refine X0 13 Z ?_;obtain⟨p,_,F,d,_,_,_,_,f,g,i,c⟩:=s1.ix F;obtain rfl:=mf i;refine fG f g d Z (bN 0 c h Z (dF h F (BF (yB p)) Z fun _ _ h F=>ac (qp Z F ?_ ?_)))<;>intro F
  .refine X0 5 Z ?_;cases qe F;exact ri h a Z
  exact X0 6 Z (rK ⟨_,F,Z,h⟩ Z)
 refine qx Z ?_;cases qe F;exact X0 4 Z (ri h a Z)
def sn(n:Nat)(c:qR):Option Int:=(dm n c.Bg).bind fun r1=>V r1
theorem EU{c:qR}(a:Ro w c cs1){r:Int}(F:sn n c=V r):qP prog 282 [gv c cs1] w r:=by
 obtain⟨_,_,_,_,_,_,rfl,s1,_,_⟩:=aV a;exact zV 6 func282 Z fun h=>dE (qJ h Z Z fun _ _ h=>X1 6 0 h Z (mN h F (mT ⟨_,_,Z,(h.oldS s1)⟩) Z fun _ _ h F=>X0 2 Z (ri h F Z)))
def oU(n:Nat)(c:qR)(pin:Int):Option Bool:=(lc n c).bind fun r1=>(bU n pin 0 (qj (r1-1))).bind fun a=>V a
theorem vb{c:qR}{pin}(a:Ro w c cs1){r:Bool}(F:oU n c pin=V r):qP prog 283 [gv c cs1,vi pin] w r:=by
 obtain⟨_,_,_,_,_,_,rfl,_,_,_⟩:=aV a;exact zV 10 func283 Z fun h=>dE (qJ h Z Z fun _ _ h=>X1 6 0 h Z (mN h F (rF (h.old a)) Z fun _ _ h F=>cq Z (dF h F bn Z fun _ _ h F=>X0 2 Z (rb h F Z))))
def sq(n:Nat)(Ce:qR)(Cf:bi):Option Bool:=(vT n Cf.Bf).bind fun r1=>bif r1 then(bif (Cf.Bq==0) then bif ((Cf.Bb.length:Int)==0) then(nD n Cf.Bu Cd).bind fun b=>bif b then(sn n Ce).bind fun c=>bif (Cf.Bk==c) then bif decide (Cf.Bk>=0) then(oU n Ce Cf.To).bind fun d=>bif d then V (Cf.To != Cf.Bk) else V Cd else V Cd else V Cd else V Cd else V Cd else V Cd).bind fun b1=>V b1 else((nD n Cf.Bu An).bind fun g=>bif (!g) then V An else(nD n Cf.Bb An).bind fun h=>bif (!h) then V An else(lc n Ce).bind fun i=>bif (Cf.To != i) then V An else(oU n Ce Cf.Bk).bind fun k=>V (!k)).bind fun b2=>bif b2 then V Cd else bif (Cf.Bf==1) then(qF Ce.Bg Cf.Bk).bind fun l=>bif (!l.Bs) then(bU n Cf.Bq 1 3).bind fun f=>V f else V Cd else(bif (Cf.Bf==2) then V (Cf.Bf==2) else V (Cf.Bf==3)).bind fun a=>bif a then(qF Ce.Bg Cf.Bk).bind fun m=>bif m.Bs then V (Cf.Bq==0) else V Cd else V Cd
theorem EW{Ce:qR}{Cf:bi}(b:Ro w Ce cs1)(x:Ro w Cf cs2){r:Bool}(F:sq n Ce Cf=V r):qP prog 269 [gv Ce cs1,gv Cf cs2] w r:=by
 obtain⟨p1,Q,W,R,X,k3,rfl,s1,_,_⟩:=aV b;obtain⟨Y,S,p5,T,rfl,s4,s5⟩:=bq x;refine zV 103 func269 Z fun h=>dE (qJ h Z Z fun _ c h=>qJ h Z Z fun _ d h=>X1 7 0 h Z (dF h F KX Z fun _ _ h F=>ac (qp Z F ?_ ?_)))<;>intro F
 .refine au ?_;obtain⟨p,i,_,F,a⟩:=bindE F;refine bd (fun e w'=>∃b1,p b1=V r/\e=[(4,.bool b1)]/\SH w w' []) ?_ ?_
  .refine rD (Y1 2 0 h Z ?_);refine xQ Z (bJ (t:=11) F Z ?_ ?_)<;>intro F
   .refine Y1 4 0 h Z ?_;refine Y0 6 Z (bJ (t:=17) F Z ?_ ?_)<;>intro F
    .refine Y1 4 0 h Z ?_;refine Y0 1 Z ?_;obtain⟨r2,J,F⟩:=qc F;refine en r2 (KO _) (cB 281 Z) (fun _ hb=>tF ⟨_,_,Z,((h.ext hb).oldS s4)⟩ J) Z Z Z Z (xQ Z (bJ (t:=22) F Z ?_ ?_))<;>intro F
     .refine Y1 4 0 h Z ?_;refine Y1 2 1 h Z ?_;refine Y0 1 Z ?_;obtain⟨r3,K,F⟩:=qc F;refine en r3 (qby _) (cB 282 Z) (fun _ hb=>EU ((h.ext hb).old b) K) Z Z Z Z (Y0 4 Z (bJ (t:=29) F Z ?_ ?_))<;>intro F
      .refine Y1 4 0 h Z ?_;refine Y0 4 Z (bJ (t:=34) F Z ?_ ?_)<;>intro F
       .refine Y1 2 1 h Z ?_;refine Y1 4 0 h Z ?_;refine Y0 1 Z ?_;obtain⟨r4,L,F⟩:=qc F;refine en r4 (KO _) (cB 283 Z) (fun _ hb=>vb ((h.ext hb).old b) L) Z Z Z Z (xQ Z (bJ (t:=40) F Z ?_ ?_))<;>intro F
        .refine Y1 4 0 h Z ?_;refine Y1 4 0 h Z ?_;refine Y0 4 Z (dN h fun _ h=>?_);have h:=h.p [] Z;exact rH F a h Z
        refine Y0 7 Z (dN h fun _ h=>?_);have h:=h.p [] Z;exact rH F a h Z
       refine Y0 13 Z (dN h fun _ h=>?_);have h:=h.p [] Z;exact rH F a h Z
      refine Y0 18 Z (dN h fun _ h=>?_);have h:=h.p [] Z;exact rH F a h Z
     refine Y0 25 Z (dN h fun _ h=>?_);have h:=h.p [] Z;exact rH F a h Z
    refine Y0 30 Z (dN h fun _ h=>?_);have h:=h.p [] Z;exact rH F a h Z
   refine Y0 36 Z (dN h fun _ h=>?_);have h:=h.p [] Z;exact rH F a h Z
  rintro _ _ ⟨b1,F,rfl,h⟩;subst i;exact rb h F Z
 refine ZT ?_;obtain⟨u,l,_,F,f⟩:=bindE F;refine bd (fun e w'=>∃b2,u b2=V r/\e=[(2,vp c),(3,vp d),(70,.bool b2)]/\SH w w' [oX d (kq Cf Y p5 S T) 109,oX c (qO Ce p1 W X Q R k3) 106]) ?_ ?_
 .refine rD (Y1 2 0 h Z ?_);obtain⟨r6,O,F⟩:=qc F;refine en r6 (KO _) (cB 281 Z) (fun _ hb=>tF ⟨_,_,Z,((h.ext hb).oldS s4)⟩ O) Z Z Z Z (xQ Z (bJ (t:=51) F Z ?_ ?_))<;>intro F
  .refine Y0 19 Z (dN h fun _ h=>?_);exact rH F f h Z
  refine Y1 4 0 h Z ?_;refine Y0 1 Z ?_;obtain⟨r7,P,F⟩:=qc F;refine en r7 (KO _) (cB 281 Z) (fun _ hb=>tF ⟨_,_,Z,((h.ext hb).oldS s5)⟩ P) Z Z Z Z (Y0 4 Z (bJ (t:=57) F Z ?_ ?_))<;>intro F
  .refine Y0 13 Z (dN h fun _ h=>?_);exact rH F f h Z
  refine Y1 4 0 h Z ?_;refine Y1 2 1 h Z ?_;refine Y0 1 Z ?_;obtain⟨r8,m,F⟩:=qc F;refine en r8 (qby _) (cB 272 Z) (fun _ hb=>rF ((h.ext hb).old b) m) Z Z Z Z (Y0 4 Z (bJ (t:=64) F Z ?_ ?_))<;>intro F
  .refine Y0 6 Z (dN h fun _ h=>?_);exact rH F f h Z
  refine Y1 2 1 h Z ?_;refine Y1 4 0 h Z ?_;refine Y0 1 Z ?_;obtain⟨r9,o,F⟩:=qc F;refine en r9 (KO _) (cB 283 Z) (fun _ hb=>vb ((h.ext hb).old b) o) Z Z Z Z (Y0 3 Z (dN h fun _ h=>?_));exact rH F f h Z
 rintro _ _ ⟨b2,F,rfl,h⟩;subst l;refine qp Z F ?_ ?_<;>intro F
 .exact X0 4 Z (rb h F Z)
 refine X1 13 0 h Z (qp Z F ?_ ?_)<;>intro F
 .refine X2 6 1 0 h Z ?_;obtain⟨_,_,F,A,_,_,_,_,C,H,M,y⟩:=s1.ix F;obtain rfl:=mf M;refine fG C H A Z (cq Z (bN 3 y h Z (lY Z (qh (t:=83) F Z ?_ ?_))))<;>intro F
  .exact X1 5 0 h Z (dF h F bn Z fun _ _ h F=>X0 3 Z (rb h F Z))
  exact X0 6 Z (rb h F Z)
 refine X0 6 Z ?_;obtain⟨s,k,_,F,g⟩:=bindE F;refine bd (fun e w'=>∃v,s v=V r/\e=[(2,vp c),(3,vp d),(88,.bool v)]/\SH w w' [oX d (kq Cf Y p5 S T) 109,oX c (qO Ce p1 W X Q R k3) 106]) ?_ ?_
 .refine qp Z F ?_ ?_<;>intro F
  .refine ez ?_;exact rH F g h Z
  refine X0 4 Z ?_;exact rH F g h Z
 rintro _ _ ⟨v,F,rfl,h⟩;subst k;refine qp Z F ?_ ?_<;>intro F
 .refine X2 6 1 0 h Z ?_;obtain⟨_,_,F,B,_,_,_,_,D,I,N,z⟩:=s1.ix F;obtain rfl:=mf N;refine fG D I B Z (cq Z (bN 3 z h Z (cq Z (qh (t:=98) F Z ?_ ?_))))<;>intro F
  .exact X1 9 0 h Z (rb h F Z)
  exact X0 6 Z (rb h F Z)
 exact X0 6 Z (rb h F Z)
def nf(_:Nat)(b:bi)(a:bi):Option Bool:=bif (b.Bf==a.Bf) then bif (b.Bk==a.Bk) then V (b.To==a.To) else V Cd else V Cd
theorem zj{k:bi}{g:bi}(b:Ro w k cs1){f}(c:Ro w (V g) [.pointer f]){r:Bool}(F:nf n k g=V r):qP prog 271 [gv k cs1,.pointer f] w r:=by
 obtain⟨_,_,_,_,rfl,_,_⟩:=bq b;obtain⟨_,i,_,rfl,-,d,a⟩:=Cs c Z;obtain⟨_,_,_,_,rfl,_,_⟩:=bq d;refine zV 23 func271 Z fun h=>dE (qJ h Z Z fun _ _ h=>X1 7 0 h Z (bN 0 a h Z (lY Z (qh (t:=9) F Z ?_ ?_))))<;>intro F
 .refine X1 7 0 h Z (bN 1 a h Z (X0 4 Z (qh (t:=16) F Z ?_ ?_)))<;>intro F
  .exact X1 7 0 h Z (bN 2 a h Z (X0 5 Z (rb h F Z)))
  exact X0 8 Z (rb h F Z)
 exact X0 15 Z (rb h F Z)
def am(s:List bi)(a:bi):Nat->Int->Option (eE Int Int)|0,_=>U|n+1,b=>bif decide (b<(s.length:Int)) then(qF s b).bind fun c=>(nf n c a).bind fun r1=>bif r1 then V (.ret b) else am s a n (qj (b+1)) else V (.nxt b)
def cM(n:Nat)(s:List bi)(a:bi):Option Int:=(am s a n 0).bind fun|.ret r=>V r|.nxt _=>V (-1)
theorem mb{s:List bi}{a:bi}(d:Ro w s cs1){v}(c:Ro w (V a) [.pointer v]){r:Int}(F:cM n s a=V r):qP prog 284 [gv s cs1,.func (.func 271) #[] #[.pointer v]] w r:=by
 obtain⟨p1,x,rfl,s1⟩:=d;obtain⟨b1,t,_,rfl,-,l,_⟩:=Cs c Z;obtain⟨_,_,_,_,rfl,_,_⟩:=bq l;refine zV 19 func284 Z fun h=>X0 11 Z ?_;obtain⟨o1,F,b⟩:=qc F;refine qr (rL (fun m e w'=>∃p,am s a m p=V o1/\e=[(0,oL p1 s x),(1,.func (.func 271) #[] #[.pointer (V ⟨b1,t,U⟩)]),(7,vi (s.length:Int)),(8,vi p)]/\SH w w' []) n ⟨_,F,Z,h⟩ Z ?_);rintro u _ _ ⟨p,F,rfl,h⟩;rcases u with _|u
 .cases F
 refine X0 5 Z (qp Z F ?_ ?_)<;>intro F
 .refine X0 13 Z ?_;obtain⟨A,_,F,g,_,_,_,_,i,k,o,f⟩:=s1.ix F;obtain⟨_,_,_,_,rfl,y,z⟩:=bq o;refine fG i k g Z (bN 0 f h Z (dF h F (zj (tN A (h.oldS y) (h.oldS z)) (h.old c)) Z fun _ _ h F=>ac (qp Z F ?_ ?_)))<;>intro F
  .refine X0 5 Z ?_;cases qe F;exact ri h b Z
  exact X0 6 Z (rK ⟨_,F,Z,h⟩ Z)
 refine qx Z ?_;cases qe F;exact X0 4 Z (ri h b Z)
def bB(n:Nat)(s:List bi)(a:bi):Option Bool:=(cM n s a).bind fun r1=>V (decide (r1>=0))
theorem lh{s:List bi}{a:bi}(c:Ro w s cs1){f}(b:Ro w (V a) [.pointer f]){r:Bool}(F:bB n s a=V r):qP prog 270 [gv s cs1,.func (.func 271) #[] #[.pointer f]] w r:=by
 obtain⟨_,_,rfl,s1⟩:=c;obtain⟨_,g,_,rfl,-,d,_⟩:=Cs b Z;obtain⟨_,_,_,_,rfl,_,_⟩:=bq d;exact zV 9 func270 Z fun h=>X0 8 Z (mN h F (mb ⟨_,_,Z,(h.oldS s1)⟩ (h.old b)) Z fun _ _ h F=>X0 3 Z (rb h F Z))
def fO(c:qR):Nat->Int->Option (eE Bool Int)|0,_=>U|n+1,a=>bif decide (a<(c.Az.length:Int)) then(qF c.Az a).bind fun b=>(sq n c b).bind fun r1=>bif (!r1) then V (.ret Cd) else(wT c.Az 0 a).bind fun x1=>(bB n x1 b).bind fun d=>bif d then V (.ret Cd) else fO c n (qj (a+1)) else V (.nxt a)
def oT(n:Nat)(c:qR):Option Bool:=(fO c n 0).bind fun|.ret r=>V r|.nxt _=>V (decide ((c.Az.length:Int)<=8))
theorem BE{c:qR}(d:Ro w c cs1){r:Bool}(F:oT n c=V r):qP prog 254 [gv c cs1] w r:=by
 obtain⟨p1,I,B,z,J,k3,rfl,_,s2,_⟩:=aV d;refine zV 30 func254 Z fun h=>dE (qJ h Z Z fun _ b h=>X1 10 0 h Z ?_);obtain⟨o1,F,a⟩:=qc F;refine qr (rL (fun m e w'=>∃v,fO c m v=V o1/\e=[(1,vp b),(6,oL B c.Az z),(7,vi (c.Az.length:Int)),(8,vi v)]/\SH w w' [oX b (qO c p1 B J I z k3) 106]) n ⟨_,F,Z,h⟩ Z ?_);rintro A _ _ ⟨v,F,rfl,h⟩;rcases A with _|A
 .cases F
 refine X0 5 Z (qp Z F ?_ ?_)<;>intro F
 .refine X0 6 Z ?_;obtain⟨y,_,F,l,_,_,_,_,p,s,u,k⟩:=s2.ix F;obtain⟨_,_,_,_,rfl,C,D⟩:=bq u;refine fG p s l Z (bN 0 k h Z (qi qa h Z Z Z fun _ _ h=>cq Z (zs 0 h Z fun _ h=>X2 5 1 0 h Z (dF h F (EW (h.old d) (tN y (h.oldS C) (h.oldS D))) Z fun _ _ h F=>lY Z (qh (t:=17) F Z ?_ ?_)))))<;>intro F
  .refine X0 8 Z (eI Z Z (X0 4 Z ?_));cases qe F;exact rb h a Z
  refine X1 7 1 h Z ?_;obtain⟨_,i,F⟩:=qc F;obtain⟨_,_,g,f,o,H⟩:=TF (h.oldS s2) i;refine dK (HC qa Z Z Z (TD H Z) g f o Z Z Z Z) Z ?_;have K:=ZN s2 i g f;refine X0 3 Z (dF h F (lh ⟨_,_,Z,(h.oldS K)⟩ (oB (x:=y) 0 h Z (tN y (h.oldS C) (h.oldS D)))) Z fun _ _ h F=>X0 2 Z (qp Z F ?_ ?_))<;>intro F
  .refine X0 4 Z ?_;cases qe F;exact rb h a Z
  refine X0 6 Z ?_;exact rK ⟨_,F,Z,h.p [1] Z⟩ Z
 refine qx Z ?_;cases qe F;exact X1 8 0 h Z (rb h a Z)
def vu(_:Nat)(a:bi)(b:Int):Option Bool:=V (a.Bf==b)
theorem EV{a:bi}{i}(b:Ro w a cs1){g}(c:Ro w (V i) [.pointer g]){r:Bool}(F:vu n a i=V r):qP prog 285 [gv a cs1,.pointer g] w r:=by
 obtain⟨_,_,_,_,rfl,_,_⟩:=bq b;obtain⟨_,k,_,rfl,-,f,d⟩:=Cs c Z;obtain rfl:=f;exact zV 8 func285 Z fun h=>dE (qJ h Z Z fun _ _ h=>X1 6 0 h Z (bN 0 d h Z (X0 3 Z (rb h F Z))))
def aH(s:List bi)(a:Int):Nat->Int->Option (eE Int Int)|0,_=>U|n+1,b=>bif decide (b<(s.length:Int)) then(qF s b).bind fun c=>(vu n c a).bind fun r1=>bif r1 then V (.ret b) else aH s a n (qj (b+1)) else V (.nxt b)
def dG(n:Nat)(s:List bi)(a:Int):Option Int:=(aH s a n 0).bind fun|.ret r=>V r|.nxt _=>V (-1)
theorem nI{s:List bi}{a}(d:Ro w s cs1){v}(c:Ro w (V a) [.pointer v]){r:Int}(F:dG n s a=V r):qP prog 284 [gv s cs1,.func (.func 285) #[] #[.pointer v]] w r:=by
 obtain⟨p1,x,rfl,s1⟩:=d;obtain⟨b1,t,_,rfl,-,l,_⟩:=Cs c Z;obtain rfl:=l;refine zV 19 func284 Z fun h=>X0 11 Z ?_;obtain⟨o1,F,b⟩:=qc F;refine qr (rL (fun m e w'=>∃p,aH s a m p=V o1/\e=[(0,oL p1 s x),(1,.func (.func 285) #[] #[.pointer (V ⟨b1,t,U⟩)]),(7,vi (s.length:Int)),(8,vi p)]/\SH w w' []) n ⟨_,F,Z,h⟩ Z ?_);rintro u _ _ ⟨p,F,rfl,h⟩;rcases u with _|u
 .cases F
 refine X0 5 Z (qp Z F ?_ ?_)<;>intro F
 .refine X0 13 Z ?_;obtain⟨z,_,F,g,_,_,_,_,i,k,o,f⟩:=s1.ix F;obtain⟨_,_,_,_,rfl,s2,y⟩:=bq o;refine fG i k g Z (bN 0 f h Z (dF h F (EV (tN z (h.oldS s2) (h.oldS y)) (h.old c)) Z fun _ _ h F=>ac (qp Z F ?_ ?_)))<;>intro F
  .refine X0 5 Z ?_;cases qe F;exact ri h b Z
  exact X0 6 Z (rK ⟨_,F,Z,h⟩ Z)
 refine qx Z ?_;cases qe F;exact X0 4 Z (ri h b Z)
def dg(n:Nat)(s:List bi)(a:Int):Option Bool:=(dG n s a).bind fun r1=>V (decide (r1>=0))
theorem mG{s:List bi}{a}(c:Ro w s cs1){f}(b:Ro w (V a) [.pointer f]){r:Bool}(F:dg n s a=V r):qP prog 270 [gv s cs1,.func (.func 285) #[] #[.pointer f]] w r:=by
 obtain⟨_,_,rfl,s1⟩:=c;obtain⟨_,g,_,rfl,-,d,_⟩:=Cs b Z;obtain rfl:=d;exact zV 9 func270 Z fun h=>X0 8 Z (mN h F (nI ⟨_,_,Z,(h.oldS s1)⟩ (h.old b)) Z fun _ _ h F=>X0 3 Z (rb h F Z))
def iL(n:Nat)(c:qR)(kind:Int):Option Bool:=(dg n c.Az kind).bind fun r1=>V r1
theorem lb{c:qR}{kind}(a:Ro w c cs1){r:Bool}(F:iL n c kind=V r):qP prog 273 [gv c cs1,vi kind] w r:=by
 obtain⟨_,_,_,_,_,_,rfl,_,s2,_⟩:=aV a;exact zV 9 func273 Z fun h=>dE (qJ h Z Z fun _ _ h=>qJ h Z Z fun _ _ h=>X1 7 1 h Z (dF h F (mG ⟨_,_,Z,(h.oldS s2)⟩ (oB (x:=kind) 0 h Z Z)) Z fun _ _ h F=>X0 2 Z (rb h F Z)))
def cN(Ce:qR):Nat->Int->Int->Option (Int×Int)|0,_,_=>U|n+1,b,a=>bif decide (a<(Ce.Bg.length:Int)) then(qF Ce.Bg a).bind fun c=>bif c.Bs then cN Ce n (qj (b+1)) (qj (a+1)) else cN Ce n b (qj (a+1)) else V (b,a)
def nY(n:Nat)(Ce:qR):Option Bool:=(cN Ce n 0 0).bind fun(a,_)=>bif (Ce.Bf==1) then bif (a==0) then(lc n Ce).bind fun r1=>(ZJ 1 r1).bind fun k=>bif ((Ce.Bt.length:Int)==k) then(er n Ce.Bt 0 1).bind fun b=>V b else V Cd else V Cd else bif (Ce.Bf==2) then bif (a==1) then bif ((Ce.Bt.length:Int)==0) then(iL n Ce 1).bind fun c=>bif (!c) then(iL n Ce 2).bind fun d=>(iL n Ce 3).bind fun f=>V (!(d==f)) else V Cd else V Cd else V Cd else bif (Ce.Bf==3) then bif (a==1) then bif ((Ce.Bt.length:Int)==0) then(iL n Ce 1).bind fun g=>bif g then(iL n Ce 2).bind fun h=>bif h then(iL n Ce 3).bind fun i=>V (!i) else V Cd else V Cd else V Cd else V Cd else V Cd
theorem AE{Ce:qR}(a:Ro w Ce cs1){r:Bool}(F:nY n Ce=V r):qP prog 255 [gv Ce cs1] w r:=by
 obtain⟨p1,z,D,C,H,k3,rfl,s1,_,M⟩:=aV a;refine zV 83 func255 Z fun h=>dE (qJ h Z Z fun _ c h=>X1 14 0 h Z ?_);obtain⟨o1,F,d⟩:=qc F;refine qr (rL (fun m e w'=>∃x y,cN Ce m x y=V o1/\e=[(1,vp c),(3,vi x),(7,oL p1 Ce.Bg z),(8,vi (Ce.Bg.length:Int)),(9,vi y)]/\SH w w' [oX c (qO Ce p1 D H z C k3) 106]) n ⟨_,_,F,Z,h⟩ Z ?_);rintro A _ _ ⟨x,y,F,rfl,h⟩;rcases A with _|A
 .cases F
 refine X0 5 Z (qp Z F ?_ ?_)<;>intro F
 .refine lN ?_;obtain⟨_,_,F,g,_,_,_,_,i,k,l,f⟩:=s1.ix F;obtain rfl:=mf l;refine fG i k g Z (bN 0 f h Z (qi qa h Z Z Z fun _ _ h=>zs 0 h Z fun _ h=>X1 6 0 h Z (qp Z F ?_ ?_)))<;>intro F
  .refine X0 10 Z ?_;exact rK ⟨_,_,F,Z,h.p [1] Z⟩ Z
  refine X0 6 Z ?_;exact rK ⟨_,_,F,Z,h.p [1] Z⟩ Z
 refine qx Z ?_;cases qe F;have F:=d;refine X1 12 0 h Z (qp Z F ?_ ?_)<;>intro F
 .refine au (rD (qcY Z (bJ (t:=24) F Z ?_ ?_)))<;>intro F
  .refine Y1 4 0 h Z ?_;refine Y1 4 0 h Z ?_;refine Y0 1 Z ?_;obtain⟨r1,o,F⟩:=qc F;refine en r1 (qby _) (cB 272 Z) (fun _ N=>rF ((h.ext N).old a) o) Z Z Z Z (Y0 1 Z ?_);obtain⟨_,b,F⟩:=qc F;obtain⟨B,b⟩:=IJ b;refine qbM (fun _ N=>qaa B Z Z) Z ?_;rw[b];refine Y0 4 Z (bJ (t:=33) F Z ?_ ?_)<;>intro F
   .refine Y1 4 0 h Z ?_;refine Y0 1 Z ?_;obtain⟨I,p,F⟩:=qc F;exact en I (KO _) (cB 49 Z) (fun _ N=>fj ⟨_,_,Z,((h.ext N).oldS M)⟩ p) Z Z Z Z (xQ Z (dN h fun _ h=>rb h F Z))
   exact Y0 5 Z (dN h fun _ h=>rb h F Z)
  exact Y0 14 Z (dN h fun _ h=>rb h F Z)
 refine X0 5 Z (qp Z F ?_ ?_)<;>intro F
 .refine au (rD (qcY Z (bJ (t:=42) F Z ?_ ?_)))<;>intro F
  .refine Y1 4 0 h Z ?_;refine Y0 6 Z (bJ (t:=48) F Z ?_ ?_)<;>intro F
   .refine Y1 2 0 h Z ?_;refine Y0 1 Z ?_;obtain⟨J,s,F⟩:=qc F;refine en J (KO _) (cB 273 Z) (fun _ N=>lb ((h.ext N).old a) s) Z Z Z Z (Y0 4 Z (bJ (t:=53) F Z ?_ ?_))<;>intro F
    .refine Y1 2 0 h Z ?_;refine Y0 1 Z ?_;obtain⟨K,u,F⟩:=qc F;refine en K (KO _) (cB 273 Z) (fun _ N=>lb ((h.ext N).old a) u) Z Z Z Z (Y1 2 0 h Z ?_);refine Y0 1 Z ?_;obtain⟨L,v,F⟩:=qc F;exact en L (KO _) (cB 273 Z) (fun _ N=>lb ((h.ext N).old a) v) Z Z Z Z (Y0 4 Z (dN h fun _ h=>rb h F Z))
    exact Y0 7 Z (dN h fun _ h=>rb h F Z)
   exact Y0 12 Z (dN h fun _ h=>rb h F Z)
  exact Y0 18 Z (dN h fun _ h=>rb h F Z)
 refine X0 5 Z (qp Z F ?_ ?_)<;>intro F
 .refine X0 5 Z (qh (t:=64) F Z ?_ ?_)<;>intro F
  .refine X1 10 0 h Z (qh (t:=70) F Z ?_ ?_)<;>intro F
   .refine X1 3 0 h Z (dF h F (lb (h.old a)) Z fun _ _ h F=>lY Z (qh (t:=74) F Z ?_ ?_))<;>intro F
    .refine X1 3 0 h Z (dF h F (lb (h.old a)) Z fun _ _ h F=>lY Z (qh (t:=78) F Z ?_ ?_))<;>intro F
     .exact X1 3 0 h Z (dF h F (lb (h.old a)) Z fun _ _ h F=>X0 5 Z (rb h F Z))
     exact X0 6 Z (rb h F Z)
    exact X0 10 Z (rb h F Z)
   exact X0 14 Z (rb h F Z)
  exact X0 20 Z (rb h F Z)
 exact X0 6 Z (rb h F Z)
def xn(n:Nat)(c:qR):Option Bool:=(sS n c.Bh).bind fun r1=>bif r1 then(vS n c.Bg).bind fun a=>bif a then(oT n c).bind fun b=>bif b then(bU n c.Cc 0 100000).bind fun d=>bif d then(bU n c.Bz 0 100000).bind fun f=>bif f then(nY n c).bind fun g=>V g else V Cd else V Cd else V Cd else V Cd else V Cd
theorem MX{c:qR}(a:Ro w c cs1){r:Bool}(F:xn n c=V r):qP prog 220 [gv c cs1] w r:=by
 obtain⟨_,_,_,_,_,_,rfl,s1,_,_⟩:=aV a;refine zV 29 func220 Z fun h=>dE (qJ h Z Z fun _ _ h=>X1 6 0 h Z (dF h F wF Z fun _ _ h F=>cq Z (qh (t:=6) F Z ?_ ?_)))<;>intro F
 .refine X1 5 0 h Z (dF h F (KW ⟨_,_,Z,(h.oldS s1)⟩) Z fun _ _ h F=>lY Z (qh (t:=11) F Z ?_ ?_))<;>intro F
  .refine X1 3 0 h Z (dF h F (BE (h.old a)) Z fun _ _ h F=>lY Z (qh (t:=15) F Z ?_ ?_))<;>intro F
   .refine X1 5 0 h Z (dF h F bn Z fun _ _ h F=>lY Z (qh (t:=20) F Z ?_ ?_))<;>intro F
    .refine X1 5 0 h Z (dF h F bn Z fun _ _ h F=>lY Z (qh (t:=25) F Z ?_ ?_))<;>intro F
     .exact X1 3 0 h Z (dF h F (AE (h.old a)) Z fun _ _ h F=>X0 3 Z (rb h F Z))
     exact X0 5 Z (rb h F Z)
    exact X0 10 Z (rb h F Z)
   exact X0 15 Z (rb h F Z)
  exact X0 19 Z (rb h F Z)
 exact X0 24 Z (rb h F Z)
def gm(l:qB):Nat->(List ByteArray)->Int->Option (eE Bool ((List ByteArray)×Int))|0,_,_=>U|n+1,x1,a=>bif decide (a<(l.Au.length:Int)) then(qF l.Au a).bind fun b=>(xn n b).bind fun r1=>bif (!r1) then V (.ret Cd) else(dj x1 ([b.Bh]:List ByteArray)).bind fun c=>gm l n c (qj (a+1)) else V (.nxt (x1,a))
def tA(n:Nat)(l:qB):Option Bool:=(gm l n ([]:List ByteArray) 0).bind fun|.ret r=>V r|.nxt (x1,_)=>bif decide ((l.Au.length:Int)<=8) then(kX n x1).bind fun a=>V a else V Cd
theorem FX{l:qB}(f:Ro w l cs1){r:Bool}(F:tA n l=V r):qP prog 174 [gv l cs1] w r:=by
 obtain⟨p1,x,rfl,s1⟩:=gi f;refine zV 30 func174 Z fun h=>dE (qJ h Z Z fun _ c h=>X1 14 0 h Z ?_);have h:=h.nil (α:=ByteArray);obtain⟨o1,F,d⟩:=qc F;refine qr (rL (fun m e w'=>∃S1 v b u x1 s,gm l m x1 s=V o1/\e=[(1,vp c),(3,oS v b u),(7,oL p1 l.Au x),(8,vi (l.Au.length:Int)),(9,vi s)]/\SH w w' [oW S1 (x1:List ByteArray) [oS v b u],oX c [oL p1 l.Au x] 26]) n ⟨_,_,_,_,_,_,F,Z,h⟩ Z ?_);rintro y _ _ ⟨S1,v,b,u,x1,s,F,rfl,h⟩;obtain rfl:=(h.sl 0 Z).2;rcases y with _|y
 .cases F
 refine X0 5 Z (qp Z F ?_ ?_)<;>intro F
 .refine lN ?_;obtain⟨z,_,F,i,_,_,_,_,k,o,p,g⟩:=s1.ix F;obtain⟨_,_,_,_,_,_,rfl,s2,B,C⟩:=aV p;refine fG k o i Z (bN 0 g h Z (qi qa h Z Z Z fun _ _ h=>zs 0 h Z fun _ h=>X1 5 0 h Z (dF h F (MX (QG z (h.oldS s2) (h.oldS B) (h.oldS C))) Z fun _ _ h F=>X0 2 Z (qp Z F ?_ ?_))))<;>intro F
  .refine X0 4 Z ?_;cases qe F;exact rb h d Z
  refine X1 5 0 h Z (qv qa [.tmp 18] _ ([z.Bh]:List ByteArray) h z9 ⟨Z,G⟩ Z fun _ _ _ h=>?_);obtain⟨_,a,F⟩:=qc F;obtain⟨A,a⟩:=qH a;refine bo qa 2 h Z (h.sl 0 Z).1 (h.sl 0 Z).2 z9 A a Z fun _ _ _ _ h=>X0 7 Z ?_;exact rK ⟨_,_,_,_,_,_,F,Z,h.p [2,3] Z⟩ Z
 refine qx Z ?_;cases qe F;have F:=d;refine X1 7 1 h Z (qh (t:=26) F Z ?_ ?_)<;>intro F
 .exact X0 3 Z (dF h F (nC (h.own 0 Z)) Z fun _ _ h F=>X0 3 Z (rb h F Z))
 exact X0 5 Z (rb h F Z)
def cZ(d:qk):Nat->(List ByteArray)->Int->Option ((List ByteArray)×Int)|0,_,_=>U|n+1,b,a=>bif decide (a<(d.Ai.length:Int)) then(qF d.Ai a).bind fun f=>(dj b ([f.Bh]:List ByteArray)).bind fun c=>cZ d n c (qj (a+1)) else V (b,a)
def cY(d:qk):Nat->(List ByteArray)->Int->Option ((List ByteArray)×Int)|0,_,_=>U|n+1,x1,a=>bif decide (a<(d.Ab.length:Int)) then(qF d.Ab a).bind fun c=>(dj x1 ([c.Bh]:List ByteArray)).bind fun b=>cY d n b (qj (a+1)) else V (x1,a)
def mv(n:Nat)(d:qk):Option Bool:=(cY d n ([]:List ByteArray) 0).bind fun(x1,_)=>(cZ d n ([]:List ByteArray) 0).bind fun(a,_)=>bif decide ((x1.length:Int)<=14) then bif decide ((d.Am.length:Int)<=30) then bif decide ((a.length:Int)<=8) then(kX n x1).bind fun r1=>bif r1 then(kX n d.Am).bind fun b=>bif b then(kX n a).bind fun c=>V c else V Cd else V Cd else V Cd else V Cd else V Cd
theorem yr{d:qk}(p:Ro w d cs1){r:Bool}(F:mv n d=V r):qP prog 175 [gv d cs1] w r:=by
 obtain⟨p1,J,S,P,L,k3,rfl,s1,s2,X⟩:=ce p;refine zV 62 func175 Z fun h=>dE (qJ h Z Z fun _ a h=>X1 15 0 h Z ?_);have h:=h.nil (α:=ByteArray);obtain⟨o1,F,l⟩:=qc F;refine qr (rL (fun m e w'=>∃S1 k f i x1 H,cY d m x1 H=V o1/\e=[(1,vp a),(3,oS k f i),(4,oS U 0 0),(10,oL p1 d.Ab J),(11,vi (d.Ab.length:Int)),(12,vi H)]/\SH w w' [oW S1 (x1:List ByteArray) [oS k f i],oX a (ba d p1 S L J P k3) 31]) n ⟨_,_,_,_,_,_,F,Z,h⟩ Z ?_);rintro Q _ _ ⟨S1,k,f,i,x1,H,F,rfl,h⟩;obtain rfl:=(h.sl 0 Z).2;rcases Q with _|Q
 .cases F
 refine X0 5 Z (qp Z F ?_ ?_)<;>intro F
 .refine lN ?_;obtain⟨Y,_,F,v,_,_,_,_,y,A,C,s⟩:=s1.ix F;obtain⟨_,_,rfl,_⟩:=bD C;refine fG y A v Z (bN 0 s h Z (qi qa h Z Z Z fun _ _ h=>zs 0 h Z fun _ h=>X1 5 0 h Z (qv qa [.tmp 18] _ ([Y.Bh]:List ByteArray) h z9 ⟨Z,G⟩ Z fun _ _ _ h=>?_)));obtain⟨_,b,F⟩:=qc F;obtain⟨T,b⟩:=qH b;refine bo qa 2 h Z (h.sl 0 Z).1 (h.sl 0 Z).2 z9 T b Z fun _ _ _ _ h=>X0 7 Z ?_;exact rK ⟨_,_,_,_,_,_,F,Z,h.p [2,3] Z⟩ Z
 refine qx Z ?_;cases qe F;have F:=l;refine X1 8 1 h Z ?_;have h:=h.nil (α:=ByteArray);obtain⟨o2,F,o⟩:=qc F;refine qr (rL (fun m e w'=>∃O M g K N I,cZ d m N I=V o2/\e=[(1,vp a),(3,oL k x1 i),(4,oS M g K),(23,oL L d.Ai k3),(24,vi (d.Ai.length:Int)),(25,vi I)]/\SH w w' [oW O (N:List ByteArray) [oS M g K],oW S1 (x1:List ByteArray) [oL k x1 i],oX a (ba d p1 S L J P k3) 31]) n ⟨_,_,_,_,_,_,F,Z,h⟩ Z ?_);rintro R _ _ ⟨O,M,g,K,N,I,F,rfl,h⟩;obtain rfl:=(h.sl 0 Z).2;rcases R with _|R
 .cases F
 refine X0 5 Z (qp Z F ?_ ?_)<;>intro F
 .refine lN ?_;obtain⟨y2,_,F,x,_,_,_,_,z,B,D,u⟩:=X.ix F;obtain rfl:=lH D;refine fG z B x Z (bN 0 u h Z (qi qa h Z Z Z fun _ _ h=>zs 0 h Z fun _ h=>X1 5 0 h Z (qv qa [.tmp 31] _ ([y2.Bh]:List ByteArray) h z9 ⟨Z,G⟩ Z fun _ _ _ h=>?_)));obtain⟨_,c,F⟩:=qc F;obtain⟨W,c⟩:=qH c;refine bo qa 2 h Z (h.sl 0 Z).1 (h.sl 0 Z).2 z9 W c Z fun _ _ _ _ h=>X0 7 Z ?_;exact rK ⟨_,_,_,_,_,_,F,Z,h.p [2,3,4] Z⟩ Z
 refine qx Z ?_;cases qe F;have F:=o;refine X0 6 Z (qh (t:=38) F Z ?_ ?_)<;>intro F
 .refine X1 10 2 h Z (qh (t:=44) F Z ?_ ?_)<;>intro F
  .refine X0 8 Z (qh (t:=49) F Z ?_ ?_)<;>intro F
   .refine X0 3 Z (dF h F (nC (h.own 1 Z)) Z fun _ _ h F=>lY Z (qh (t:=53) F Z ?_ ?_))<;>intro F
    .refine X1 5 2 h Z (dF h F (nC ⟨_,_,Z,(h.oldS s2)⟩) Z fun _ _ h F=>lY Z (qh (t:=58) F Z ?_ ?_))<;>intro F
     .exact X0 3 Z (dF h F (nC (h.own 0 Z)) Z fun _ _ h F=>X0 3 Z (rb h F Z))
     exact X0 5 Z (rb h F Z)
    exact X0 10 Z (rb h F Z)
   exact X0 14 Z (rb h F Z)
  exact X0 19 Z (rb h F Z)
 exact X0 25 Z (rb h F Z)
def oN(_:Nat)(list:List qR):Option Int:=V (list.length:Int)
theorem xW{list:List qR}(a:Ro w list cs1){r:Int}(F:oN n list=V r):qP prog 222 [gv list cs1] w r:=by
 obtain⟨_,_,rfl,_⟩:=a;exact zV 5 func222 Z fun h=>X0 10 Z (ri h F Z)
def sI(_:Nat)(list:List ByteArray):Option Int:=V (list.length:Int)
theorem AH{list:List ByteArray}(a:Ro w list cs1){r:Int}(F:sI n list=V r):qP prog 224 [gv list cs1] w r:=by
 obtain⟨_,_,rfl,_⟩:=a;exact zV 5 func224 Z fun h=>X0 10 Z (ri h F Z)
def kb(n:Nat)(d:qk)(net:Int):Option Bool:=(sI n d.Am).bind fun r1=>(bU n net 0 (qj (r1-1))).bind fun a=>V a
theorem pr{d:qk}{net}(a:Ro w d cs1){r:Bool}(F:kb n d net=V r):qP prog 177 [gv d cs1,vi net] w r:=by
 obtain⟨_,_,_,_,_,_,rfl,_,s2,_⟩:=ce a;exact zV 11 func177 Z fun h=>dE (qJ h Z Z fun _ _ h=>X1 7 0 h Z (mN h F (AH ⟨_,_,Z,(h.oldS s2)⟩) Z fun _ _ h F=>cq Z (dF h F bn Z fun _ _ h F=>X0 2 Z (rb h F Z))))
def iM(n:Nat)(net:Int)(a:qk):Option Bool:=(kb n a net).bind fun r1=>V (!r1)
theorem vP{net}{d:qk}{p1}(a:Ro w (V d) [.pointer p1]){r:Bool}(F:iM n net d=V r):qP prog 223 [vi net,.pointer p1] w r:=by
 obtain⟨_,f,_,rfl,-,c,b⟩:=Cs a Z;obtain⟨_,_,_,_,_,_,rfl,s1,s2,g⟩:=ce c;exact zV 8 func223 Z fun h=>X0 6 Z (bN 0 b h Z (cq Z (dF h F (pr (cg d (h.oldS s1) (h.oldS s2) (h.oldS g))) Z fun _ _ h F=>X0 3 Z (rb h F Z))))
def ah(s:List Int)(a:qk):Nat->Int->Option (eE Int Int)|0,_=>U|n+1,b=>bif decide (b<(s.length:Int)) then(qF s b).bind fun c=>(iM n c a).bind fun r1=>bif r1 then V (.ret b) else ah s a n (qj (b+1)) else V (.nxt b)
def cE(n:Nat)(s:List Int)(a:qk):Option Int:=(ah s a n 0).bind fun|.ret r=>V r|.nxt _=>V (-1)
theorem lK{s:List Int}{a:qk}(d:Ro w s cs1){u}(c:Ro w (V a) [.pointer u]){r:Int}(F:cE n s a=V r):qP prog 153 [gv s cs1,.func (.func 223) #[] #[.pointer u]] w r:=by
 obtain⟨p1,v,rfl,s1⟩:=d;obtain⟨b1,p,_,rfl,-,l,_⟩:=Cs c Z;obtain⟨_,_,_,_,_,_,rfl,_,_,_⟩:=ce l;refine zV 19 func153 Z fun h=>X0 11 Z ?_;obtain⟨o1,F,b⟩:=qc F;refine qr (rL (fun m e w'=>∃o,ah s a m o=V o1/\e=[(0,oL p1 s v),(1,.func (.func 223) #[] #[.pointer (V ⟨b1,p,U⟩)]),(7,vi (s.length:Int)),(8,vi o)]/\SH w w' []) n ⟨_,F,Z,h⟩ Z ?_);rintro t _ _ ⟨o,F,rfl,h⟩;rcases t with _|t
 .cases F
 refine X0 5 Z (qp Z F ?_ ?_)<;>intro F
 .refine X0 13 Z ?_;obtain⟨_,_,F,g,_,_,_,_,i,k,rfl,f⟩:=s1.ix F;refine fG i k g Z (bN 0 f h Z (dF h F (vP (h.old c)) Z fun _ _ h F=>ac (qp Z F ?_ ?_)))<;>intro F
  .refine X0 5 Z ?_;cases qe F;exact ri h b Z
  exact X0 6 Z (rK ⟨_,F,Z,h⟩ Z)
 refine qx Z ?_;cases qe F;exact X0 4 Z (ri h b Z)
def ck(n:Nat)(s:List Int)(a:qk):Option Bool:=(cE n s a).bind fun r1=>V (decide (r1>=0))
theorem kH{s:List Int}{a:qk}(c:Ro w s cs1){f}(b:Ro w (V a) [.pointer f]){r:Bool}(F:ck n s a=V r):qP prog 92 [gv s cs1,.func (.func 223) #[] #[.pointer f]] w r:=by
 obtain⟨_,_,rfl,s1⟩:=c;obtain⟨_,g,_,rfl,-,d,_⟩:=Cs b Z;obtain⟨_,_,_,_,_,_,rfl,_,_,_⟩:=ce d;exact zV 9 func92 Z fun h=>X0 8 Z (mN h F (lK ⟨_,_,Z,(h.oldS s1)⟩ (h.old b)) Z fun _ _ h F=>X0 3 Z (rb h F Z))
def kQ(n:Nat)(d:qk)(l:qB)(x:qL):Option Bool:=(oN n l.Au).bind fun r1=>(bU n x.Bv 0 (qj (r1-1))).bind fun a=>bif a then(qF l.Au x.Bv).bind fun c=>bif ((x.Am.length:Int)==(c.Bg.length:Int)) then(ck n x.Am d).bind fun b=>V (!b) else V Cd else V Cd
theorem wZ{d:qk}{l:qB}{x:qL}(a:Ro w d cs1)(b:Ro w l cs2)(c:Ro w x cs3){r:Bool}(F:kQ n d l x=V r):qP prog 176 [gv d cs1,gv l cs2,gv x cs3] w r:=by
 obtain⟨_,_,_,_,_,_,rfl,_,_,_⟩:=ce a;obtain⟨_,_,rfl,u⟩:=gi b;obtain⟨_,_,rfl,z⟩:=bD c;refine zV 35 func176 Z fun h=>dE (qJ h Z Z fun _ _ h=>qJ h Z Z fun _ _ h=>qJ h Z Z fun _ _ h=>X0 3 Z (rD (Y1 2 0 h Z ?_)));refine Y1 2 1 h Z ?_;obtain⟨r1,m,F⟩:=qc F;refine en r1 (qby _) (cB 222 Z) (fun _ A=>xW ⟨_,_,Z,((h.ext A).oldS u)⟩ m) Z Z Z Z (vD Z ?_);obtain⟨v,o,F⟩:=qc F;refine en v (KO _) (cB 23 Z) (fun _ A=>bn  o) Z Z Z Z (vD Z (bJ (t:=14) F Z ?_ ?_))<;>intro F
 .refine Y1 4 0 h Z ?_;refine Y1 6 1 h Z ?_;refine Y1 4 0 h Z ?_;refine Y0 1 Z ?_;obtain⟨_,_,F,g,_,_,_,_,i,k,p,f⟩:=u.ix F;obtain⟨_,_,_,_,_,_,rfl,_,_,_⟩:=aV p;refine hG i k g Z (Y0 3 Z (fF 2 f h Z (Y0 6 Z (bJ (t:=28) F Z ?_ ?_))))<;>intro F
  .refine Y1 4 0 h Z ?_;refine Y0 3 Z ?_;obtain⟨y,s,F⟩:=qc F;exact en y (KO _) (cB 92 Z) (fun _ A=>kH ⟨_,_,Z,((h.ext A).oldS z)⟩ (oB (x:=d) 2 (h.ext A) Z ((h.ext A).old a)) s) Z Z Z Z (Y0 4 Z (dN h fun _ h=>rb h F Z))
  exact Y0 7 Z (dN h fun _ h=>rb h F Z)
 exact Y0 21 Z (dN h fun _ h=>rb h F Z)
def vv(_:Nat)(a:Int):Option Bool:=V (a != 1)
theorem EX{a_n}  {r:Bool}(F:vv n a_n=V r):qP prog 179 [vi a_n] w r:=by
 exact zV 5 func179 Z fun h=>X0 10 Z (rb h F Z)
def aZ(s:List Int):Nat->Int->Option (eE Int Int)|0,_=>U|n+1,a=>bif decide (a<(s.length:Int)) then(qF s a).bind fun b=>(vv n b).bind fun r1=>bif r1 then V (.ret a) else aZ s n (qj (a+1)) else V (.nxt a)
def fe(n:Nat)(s:List Int):Option Int:=(aZ s n 0).bind fun|.ret r=>V r|.nxt _=>V (-1)
theorem pm{s:List Int}(b:Ro w s cs1){r:Int}(F:fe n s=V r):qP prog 225 [gv s cs1,.func (.func 179) #[] #[]] w r:=by
 obtain⟨p1,l,rfl,s1⟩:=b;refine zV 19 func225 Z fun h=>X0 11 Z ?_;obtain⟨o1,F,a⟩:=qc F;refine qr (rL (fun m e w'=>∃i,aZ s m i=V o1/\e=[(0,oL p1 s l),(1,.func (.func 179) #[] #[]),(7,vi (s.length:Int)),(8,vi i)]/\SH w w' []) n ⟨_,F,Z,h⟩ Z ?_);rintro k _ _ ⟨i,F,rfl,h⟩;rcases k with _|k
 .cases F
 refine X0 5 Z (qp Z F ?_ ?_)<;>intro F
 .refine X0 13 Z ?_;obtain⟨_,_,F,d,_,_,_,_,f,g,rfl,c⟩:=s1.ix F;refine fG f g d Z (bN 0 c h Z (dF h F EX Z fun _ _ h F=>ac (qp Z F ?_ ?_)))<;>intro F
  .refine X0 5 Z ?_;cases qe F;exact ri h a Z
  exact X0 6 Z (rK ⟨_,F,Z,h⟩ Z)
 refine qx Z ?_;cases qe F;exact X0 4 Z (ri h a Z)
def dZ(n:Nat)(s:List Int):Option Bool:=(fe n s).bind fun r1=>V (decide (r1>=0))
theorem oe{s:List Int}(a:Ro w s cs1){r:Bool}(F:dZ n s=V r):qP prog 178 [gv s cs1,.func (.func 179) #[] #[]] w r:=by
 obtain⟨_,_,rfl,s1⟩:=a;exact zV 9 func178 Z fun h=>X0 8 Z (mN h F (pm ⟨_,_,Z,(h.oldS s1)⟩) Z fun _ _ h F=>X0 3 Z (rb h F Z))
def fP(Cf:qk):Nat->(List Int)->Int->Option (eE Bool ((List Int)×Int))|0,_,_=>U|n+1,c,b=>bif decide (b<(Cf.Ai.length:Int)) then(qF Cf.Ai b).bind fun a=>(bif (a.Bx != 1) then bif (a.Bx != 2) then V An else(kb n Cf a.Cb).bind fun f=>V (!f) else(kb n Cf a.Cb).bind fun g=>V (!g)).bind fun d=>bif d then V (.ret Cd) else bif (a.Bx==1) then(qF c a.Cb).bind fun h=>(qF c a.Cb).bind fun _=>fP Cf n (ak c a.Cb (qj (h+1))) (qj (b+1)) else fP Cf n c (qj (b+1)) else V (.nxt (c,b))
def hK(Ce:qB)(Cf:qk):Nat->(List Int)->Int->Option (eE Bool ((List Int)×Int))|0,_,_=>U|n+1,b,a=>bif decide (a<(Cf.Ab.length:Int)) then(qF Cf.Ab a).bind fun c=>(kQ n Cf Ce c).bind fun r1=>bif (!r1) then V (.ret Cd) else(qF c.Am (qj ((c.Am.length:Int)-1))).bind fun d=>(qF b d).bind fun f=>(qF b d).bind fun _=>hK Ce Cf n (ak b d (qj (f+1))) (qj (a+1)) else V (.nxt (b,a))
def uL(n:Nat)(Ce:qB)(Cf:qk):Option Bool:=((tA n Ce).bind fun b=>bif (!b) then V An else(mv n Cf).bind fun c=>V (!c)).bind fun b1=>bif b1 then V Cd else(xY (Cf.Am.length:Int) (0:Int)).bind fun x1=>(hK Ce Cf n x1 0).bind fun|.ret r=>V r|.nxt (d,_)=>(fP Cf n d 0).bind fun|.ret r=>V r|.nxt (f,_)=>(dZ n f).bind fun a=>V (!a)
theorem HR{Ce:qB}{Cf:qk}(f:Ro w Ce cs1)(b:Ro w Cf cs2){r:Bool}(F:uL n Ce Cf=V r):qP prog 112 [gv Ce cs1,gv Cf cs2] w r:=by
 obtain⟨p1,k1,rfl,_⟩:=gi f;obtain⟨M,L,O,k3,k,i,rfl,s2,_,s4⟩:=ce b;refine zV 84 func112 Z fun h=>dE (qJ h Z Z fun _ c h=>qJ h Z Z fun _ a h=>X0 4 Z ?_);obtain⟨R,x,_,F,u⟩:=bindE F;refine bd (fun e w'=>∃b1,R b1=V r/\e=[(2,vp c),(3,vp a),(17,.bool b1)]/\SH w w' [oX a (ba Cf M O k L k3 i) 31,oX c [oL p1 Ce.Au k1] 26]) ?_ ?_
 .refine X1 2 1 h Z (dF h F (FX (h.old f)) Z fun _ _ h F=>lY Z (qh (t:=13) F Z ?_ ?_))<;>intro F
  .refine X0 5 Z ?_;exact rH F u h Z
  refine X1 3 0 h Z (dF h F (yr (h.old b)) Z fun _ _ h F=>X0 4 Z ?_);exact rH F u h Z
 rintro _ _ ⟨b1,F,rfl,h⟩;subst x;refine qp Z F ?_ ?_<;>intro F
 .exact X0 4 Z (rb h F Z)
 refine X1 6 0 h Z ?_;obtain⟨x1,g,F⟩:=qc F;obtain⟨g1,g2,g⟩:=aL g;refine bv qa Int h z9 g1 g2 g Z fun _ S1 l h=>X1 10 1 h Z ?_;obtain⟨o1,F,p⟩:=qc F;refine qr (rL (fun m e w'=>∃x2 i1,hK Ce Cf m x2 i1=V o1/\e=[(2,vp c),(3,vp a),(5,oS l x1.length x1.length),(23,oL M Cf.Ab L),(24,vi (Cf.Ab.length:Int)),(25,vi i1)]/\SH w w' [oW S1 (x2:List Int) [oS l x1.length x1.length],oX a (ba Cf M O k L k3 i) 31,oX c [oL p1 Ce.Au k1] 26]) n ⟨_,_,F,Z,h⟩ Z ?_);rintro m1 _ _ ⟨x2,i1,F,rfl,h⟩;rcases m1 with _|m1
 .cases F
 refine X0 5 Z (qp Z F ?_ ?_)<;>intro F
 .refine lN ?_;obtain⟨y1,_,F,a4,_,_,_,_,a7,b6,c3,T⟩:=s2.ix F;obtain⟨_,_,rfl,s5⟩:=bD c3;refine fG a7 b6 a4 Z (bN 0 T h Z (qi qa h Z Z Z fun _ _ h=>zs 0 h Z fun _ h=>X3 7 2 3 0 h Z (dF h F (wZ (h.old b) (h.old f) (EH y1 (h.oldS s5))) Z fun _ _ h F=>X0 2 Z (qp Z F ?_ ?_))))<;>intro F
  .refine X0 4 Z ?_;cases qe F;exact rb h p Z
  refine X2 9 0 0 h Z ?_;obtain⟨_,_,F,a5,_,_,_,_,a8,b8,rfl,W⟩:=s5.ix F;refine fG a8 b8 a5 Z (bN 0 W h Z ?_);obtain⟨y3,_,F,A,_,_,_,_,a9,b9,rfl,X⟩:=(h.sl 1 Z).1.ix F;refine zx a9 b9 ⟨A.1,qD A.2.1 (h.sl 1 Z).2⟩ Z (zc 0 X Z (cq Z ?_));obtain⟨_,c5,F,B,_,_,_,_,H,J,rfl,Y⟩:=(h.sl 1 Z).1.ix F;refine zx H J ⟨B.1,qD B.2.1 (h.sl 1 Z).2⟩ Z (bK qa 1 0 (qj (y3+1)) h Z c5 H J Z Y Z Z Z Z Z Z Z fun _ h=>X0 6 Z ?_);exact rK ⟨_,_,F,Z,h.p [1,2,3] Z⟩ Z
 refine qx Z ?_;cases qe F;have F:=p;refine X1 8 1 h Z ?_;obtain⟨o2,F,s⟩:=qc F;refine qr ?_;have h:=h.p [0,1] Z;refine rL (fun m e w'=>∃P N,fP Cf m P N=V o2/\e=[(3,vp a),(5,oS l x1.length x1.length),(49,oL k Cf.Ai i),(50,vi (Cf.Ai.length:Int)),(51,vi N)]/\SH w w' [oW S1 (P:List Int) [oS l x1.length x1.length],oX a (ba Cf M O k L k3 i) 31]) n ⟨_,_,F,Z,h⟩ Z ?_;rintro m2 _ _ ⟨P,N,F,rfl,h⟩;rcases m2 with _|m2
 .cases F
 refine X0 5 Z (qp Z F ?_ ?_)<;>intro F
 .refine lN ?_;obtain⟨y5,_,F,a6,_,_,_,_,b4,c0,c4,a3⟩:=s4.ix F;obtain rfl:=lH c4;refine fG b4 c0 a6 Z (bN 0 a3 h Z (qi qa h Z Z Z fun _ o h=>zs 0 h Z fun _ h=>qbD ?_));obtain⟨Q,v,_,F,d⟩:=bindE F;refine bd (fun e w'=>∃S,Q S=V o2/\e=[(3,vp a),(5,oS l x1.length x1.length),(9,vp o),(49,oL k Cf.Ai i),(50,vi (Cf.Ai.length:Int)),(51,vi N),(69,.bool S)]/\SH w w' [oX o (RP y5) 222,oW S1 (P:List Int) [oS l x1.length x1.length],oX a (ba Cf M O k L k3 i) 31]) ?_ ?_
  .refine X1 5 0 h Z (qh (t:=58) F Z ?_ ?_)<;>intro F
   .refine X1 8 0 h Z (qh (t:=63) F Z ?_ ?_)<;>intro F
    .refine X0 7 Z ?_;exact rH F d h Z
    refine X2 7 2 0 h Z (dF h F (pr (h.old b)) Z fun _ _ h F=>X0 4 Z ?_);exact rH F d h Z
   refine X2 12 2 0 h Z (dF h F (pr (h.old b)) Z fun _ _ h F=>X0 4 Z ?_);exact rH F d h Z
  rintro _ _ ⟨S,F,rfl,h⟩;subst v;refine qp Z F ?_ ?_<;>intro F
  .refine X0 4 Z ?_;cases qe F;exact rb h s Z
  refine X1 7 0 h Z (qp Z F ?_ ?_)<;>intro F
  .refine X1 4 0 h Z ?_;obtain⟨y6,_,F,C,_,_,_,_,b5,c2,rfl,y⟩:=(h.sl 1 Z).1.ix F;refine zx b5 c2 ⟨C.1,qD C.2.1 (h.sl 1 Z).2⟩ Z (zc 0 y Z (cq Z ?_));obtain⟨_,c6,F,D,_,_,_,_,I,K,rfl,z⟩:=(h.sl 1 Z).1.ix F;refine zx I K ⟨D.1,qD D.2.1 (h.sl 1 Z).2⟩ Z (bK qa 1 0 (qj (y6+1)) h Z c6 I K Z z Z Z Z Z Z Z Z fun _ h=>X0 6 Z ?_);exact rK ⟨_,_,F,Z,h.p [1,2] Z⟩ Z
  refine X0 6 Z ?_;exact rK ⟨_,_,F,Z,h.p [1,2] Z⟩ Z
 refine qx Z ?_;cases qe F;have F:=s;exact X0 3 Z (dF h F (oe (h.own 0 Z)) Z fun _ _ h F=>X0 3 Z (rb h F Z))
def dQ(c:Int)(b:qL):Nat->(List aT)->Int->Option ((List aT)×Int)|0,_,_=>U|n+1,d,a=>bif decide (a<(b.Am.length:Int)) then(qF b.Am a).bind fun g=>(dj d ([(⟨c,a,g,(a==(qj ((b.Am.length:Int)-1)))⟩:aT)]:List aT)).bind fun f=>dQ c b n f (qj (a+1)) else V (d,a)
def dR(d:qk):Nat->(List aT)->Int->Option ((List aT)×Int)|0,_,_=>U|n+1,b,a=>bif decide (a<(d.Ai.length:Int)) then(qF d.Ai a).bind fun c=>(dj b ([(⟨(-1),a,c.Cb,(c.Bx==1)⟩:aT)]:List aT)).bind fun f=>dR d n f (qj (a+1)) else V (b,a)
def dP(d:qk):Nat->(List aT)->Int->Option ((List aT)×Int)|0,_,_=>U|n+1,x1,a=>bif decide (a<(d.Ab.length:Int)) then(qF d.Ab a).bind fun c=>(dQ a c n x1 0).bind fun(b,_)=>dP d n b (qj (a+1)) else V (x1,a)
def fM(n:Nat)(d:qk):Option (List aT):=(dP d n ([]:List aT) 0).bind fun(x1,_)=>(dR d n x1 0).bind fun(a,_)=>V a
theorem lR{d:qk}(z:Ro w d cs1){r:List aT}(F:fM n d=V r):qP prog 113 [gv d cs1] w r:=by
 obtain⟨p1,t,p2,k2,X,k3,rfl,s1,_,s3⟩:=ce z;refine zV 61 func113 Z fun h=>dE (qJ h Z Z fun _ a h=>X1 14 0 h Z ?_);have h:=h.nil (α:=aT);obtain⟨o1,F,v⟩:=qc F;refine qr (rL (fun m e w'=>∃S1 Y i R x1 b,dP d m x1 b=V o1/\e=[(1,vp a),(3,oS Y i R),(11,oL p1 d.Ab t),(12,vi (d.Ab.length:Int)),(13,vi b)]/\SH w w' [oW S1 (x1:List aT) [oS Y i R],oX a (ba d p1 p2 X t k2 k3) 31]) n ⟨_,_,_,_,_,_,F,Z,h⟩ Z ?_);rintro W _ _ ⟨S1,Y,i,R,x1,b,F,rfl,h⟩;obtain rfl:=(h.sl 0 Z).2;rcases W with _|W
 .cases F
 refine X0 5 Z (qp Z F ?_ ?_)<;>intro F
 .refine X0 6 Z ?_;obtain⟨o,_,F,D,_,_,_,_,J,M,P,A⟩:=s1.ix F;obtain⟨p5,k5,rfl,s4⟩:=bD P;refine fG J M D Z (bN 0 A h Z (qi qa h Z Z Z fun _ p h=>cq Z (zs 0 h Z fun _ h=>X1 8 0 h Z ?_)));obtain⟨o2,F,x⟩:=qc F;refine qr (rL (fun m e w'=>∃S2 p6 k S x2 g,dQ b o m x2 g=V o2/\e=[(1,vp a),(3,oS p6 k S),(4,vi b),(5,vp p),(11,oL p1 d.Ab t),(12,vi (d.Ab.length:Int)),(13,vi b),(19,oL p5 o.Am k5),(20,vi (o.Am.length:Int)),(21,vi g)]/\SH w w' [oX p (uX o p5 k5) 206,oW S2 (x2:List aT) [oS p6 k S],oX a (ba d p1 p2 X t k2 k3) 31]) W ⟨_,_,_,_,_,_,F,Z,h⟩ Z ?_);rintro m2 _ _ ⟨S2,p6,k,S,x2,g,F,rfl,h⟩;obtain rfl:=(h.sl 1 Z).2;rcases m2 with _|m2
  .cases F
  refine X0 5 Z (qp Z F ?_ ?_)<;>intro F
  .refine X0 6 Z ?_;obtain⟨y2,_,F,H,_,_,_,_,K,N,rfl,B⟩:=s4.ix F;refine fG K N H Z (bN 0 B h Z (X1 14 0 h Z (dK (qC qa [0,1,2,3] [.tmp 27,.tmp 28,.tmp 29,.tmp 35] z8) Z (qv qa [.tmp 36] _ ([(⟨b,g,y2,(g==(qj ((o.Am.length:Int)-1)))⟩:aT)]:List aT) h z9 ⟨(zt (⟨b,g,y2,(g==(qj ((o.Am.length:Int)-1)))⟩:aT)),G⟩ Z fun _ _ _ h=>?_))));obtain⟨_,c,F⟩:=qc F;obtain⟨g1,c⟩:=qH c;refine bo qa 2 h Z (h.sl 0 Z).1 (h.sl 0 Z).2 z9 g1 c Z fun _ _ _ _ h=>X0 7 Z ?_;exact rK ⟨_,_,_,_,_,_,F,Z,h.p [1,2,3] Z⟩ Z
  refine qx Z ?_;cases qe F;have F:=x;refine X0 5 Z ?_;exact rK ⟨_,_,_,_,_,_,F,Z,h.p [1,2] Z⟩ Z
 refine qx Z ?_;cases qe F;have F:=v;refine X1 8 1 h Z ?_;obtain⟨o3,F,y⟩:=qc F;refine qr ?_;have h:=h.p [0] Z;refine rL (fun m e w'=>∃S5 p9 l T x4 s,dR d m x4 s=V o3/\e=[(3,oS p9 l T),(42,oL X d.Ai k3),(43,vi (d.Ai.length:Int)),(44,vi s)]/\SH w w' [oW S5 (x4:List aT) [oS p9 l T]]) n ⟨_,_,_,_,_,_,F,Z,h⟩ Z ?_;rintro m3 _ _ ⟨S5,p9,l,T,x4,s,F,rfl,h⟩;obtain rfl:=(h.sl 0 Z).2;rcases m3 with _|m3
 .cases F
 refine X0 5 Z (qp Z F ?_ ?_)<;>intro F
 .refine X0 6 Z ?_;obtain⟨u,_,F,I,_,_,_,_,L,O,Q,C⟩:=s3.ix F;obtain rfl:=lH Q;refine fG L O I Z (bN 0 C h Z (qi qa h Z Z Z fun _ _ h=>cq Z (zs 0 h Z fun _ h=>X2 9 0 0 h Z (dK (qC qa [0,1,2,3] [.const (vi (-1)),.tmp 50,.tmp 52,.tmp 55] z8) Z (qv qa [.tmp 56] _ ([(⟨(-1),s,u.Cb,(u.Bx==1)⟩:aT)]:List aT) h z9 ⟨(zt (⟨(-1),s,u.Cb,(u.Bx==1)⟩:aT)),G⟩ Z fun _ _ _ h=>?_)))));obtain⟨_,f,F⟩:=qc F;obtain⟨g2,f⟩:=qH f;refine bo qa 2 h Z (h.sl 0 Z).1 (h.sl 0 Z).2 z9 g2 f Z fun _ _ _ _ h=>X0 7 Z ?_;exact rK ⟨_,_,_,_,_,_,F,Z,h.p [2] Z⟩ Z
 refine qx Z ?_;cases qe F;have F:=y;refine X0 5 Z ?_;cases qe F;exact rO 0 h Z ⟨Z,G⟩
def cO(f:aJ):Nat->Int->Option (eE Bool Int)|0,_=>U|n+1,a=>bif decide (a<(f.Ak.length:Int)) then(qF f.Ak a).bind fun b=>bif (a==0) then bif (b != (-1)) then V (.ret Cd) else(qF f.Bw 0).bind fun d=>bif (d != 0) then V (.ret Cd) else bif decide (a > 0) then(bU n b 0 (qj (a-1))).bind fun r1=>bif (!r1) then V (.ret Cd) else cO f n (qj (a+1)) else cO f n (qj (a+1)) else bif decide (a > 0) then(bU n b 0 (qj (a-1))).bind fun c=>bif (!c) then V (.ret Cd) else cO f n (qj (a+1)) else cO f n (qj (a+1)) else V (.nxt a)
def pV(n:Nat)(a:aJ):Option Bool:=(cO a n 0).bind fun|.ret r=>V r|.nxt _=>V An
theorem DO{C:aJ}(c:Ro w C cs1){r:Bool}(F:pV n C=V r):qP prog 180 [gv C cs1] w r:=by
 obtain⟨p1,u,z,x,A,k3,B,y,rfl,s1,s2,_,_⟩:=dz c;refine zV 38 func180 Z fun h=>dE (qJ h Z Z fun _ b h=>X1 10 0 h Z ?_);obtain⟨o1,F,a⟩:=qc F;refine qr (rL (fun m e w'=>∃s,cO C m s=V o1/\e=[(1,vp b),(6,oL p1 C.Ak u),(7,vi (C.Ak.length:Int)),(8,vi s)]/\SH w w' [oX b (nW C p1 z A B u x k3 y) 171]) n ⟨_,F,Z,h⟩ Z ?_);rintro v _ _ ⟨s,F,rfl,h⟩;rcases v with _|v
 .cases F
 refine X0 5 Z (qp Z F ?_ ?_)<;>intro F
 .refine X0 6 Z ?_;obtain⟨_,_,F,g,_,_,_,_,k,o,rfl,d⟩:=s1.ix F;refine fG k o g Z (bN 0 d h Z (X0 8 Z (qh (t:=15) F Z ?_ ?_)))<;>intro F
  .refine X0 6 Z (qh (t:=18) F Z ?_ ?_)<;>intro F
   .refine X0 20 Z (eI Z Z (X0 4 Z ?_));cases qe F;exact rb h a Z
   refine X1 5 0 h Z ?_;obtain⟨_,_,F,i,_,_,_,_,l,p,rfl,f⟩:=s2.ix F;refine fG l p i Z (X0 1 Z (bN 0 f h Z (X0 6 Z (qh (t:=26) F Z ?_ ?_))))<;>intro F
   .refine X0 11 Z (eI Z Z (X0 4 Z ?_));cases qe F;exact rb h a Z
   refine X0 6 Z (qh (t:=29) F Z ?_ ?_)<;>intro F
   .refine X0 7 Z (dF h F bn Z fun _ _ h F=>X0 6 Z (qp Z F ?_ ?_))<;>intro F
    .refine X0 4 Z ?_;cases qe F;exact rb h a Z
    exact X0 6 Z (rK ⟨_,F,Z,h⟩ Z)
   exact X0 9 Z (ch Z Z (X0 6 Z (rK ⟨_,F,Z,h⟩ Z)))
  refine X0 17 Z (qh (t:=29) F Z ?_ ?_)<;>intro F
  .refine X0 7 Z (dF h F bn Z fun _ _ h F=>X0 6 Z (qp Z F ?_ ?_))<;>intro F
   .refine X0 4 Z ?_;cases qe F;exact rb h a Z
   exact X0 6 Z (rK ⟨_,F,Z,h⟩ Z)
  exact X0 9 Z (ch Z Z (X0 6 Z (rK ⟨_,F,Z,h⟩ Z)))
 refine qx Z ?_;cases qe F;exact X0 4 Z (rb h a Z)
def xo(n:Nat)(k:aJ)(sinks:Int):Option Bool:=(di n k.Ak).bind fun r1=>(bU n r1 1 8).bind fun a=>bif a then(di n k.Bw).bind fun b=>bif (b==r1) then(di n k.Br).bind fun c=>bif (c==r1) then(pV n k).bind fun d=>bif d then(er n k.Bw 0 1000).bind fun f=>bif f then(er n k.Br 0 500).bind fun g=>bif g then(di n k.Bj).bind fun h=>bif (h==sinks) then(er n k.Bj 0 (qj (r1-1))).bind fun i=>V i else V Cd else V Cd else V Cd else V Cd else V Cd else V Cd else V Cd
theorem MY{d:aJ}{sinks}(a:Ro w d cs1){r:Bool}(F:xo n d sinks=V r):qP prog 114 [gv d cs1,vi sinks] w r:=by
 obtain⟨_,_,_,_,_,_,_,_,rfl,s1,s2,b,c⟩:=dz a;refine zV 53 func114 Z fun h=>dE (qJ h Z Z fun _ _ h=>X1 6 0 h Z (mN h F (fS ⟨_,_,Z,(h.oldS s1)⟩) Z fun _ _ h F=>X0 5 Z (dF h F bn Z fun _ _ h F=>cq Z (qh (t:=11) F Z ?_ ?_))))<;>intro F
 .refine X1 5 0 h Z (mN h F (fS ⟨_,_,Z,(h.oldS s2)⟩) Z fun _ _ h F=>X0 6 Z (qh (t:=18) F Z ?_ ?_))<;>intro F
  .refine X1 5 0 h Z (mN h F (fS ⟨_,_,Z,(h.oldS b)⟩) Z fun _ _ h F=>X0 6 Z (qh (t:=25) F Z ?_ ?_))<;>intro F
   .refine X1 3 0 h Z (dF h F (DO (h.old a)) Z fun _ _ h F=>lY Z (qh (t:=29) F Z ?_ ?_))<;>intro F
    .refine X1 5 0 h Z (dF h F (fj ⟨_,_,Z,(h.oldS s2)⟩) Z fun _ _ h F=>lY Z (qh (t:=34) F Z ?_ ?_))<;>intro F
     .refine X1 5 0 h Z (dF h F (fj ⟨_,_,Z,(h.oldS b)⟩) Z fun _ _ h F=>lY Z (qh (t:=39) F Z ?_ ?_))<;>intro F
      .refine X1 5 0 h Z (mN h F (fS ⟨_,_,Z,(h.oldS c)⟩) Z fun _ _ h F=>X0 6 Z (qh (t:=46) F Z ?_ ?_))<;>intro F
       .exact X1 9 0 h Z (dF h F (fj ⟨_,_,Z,(h.oldS c)⟩) Z fun _ _ h F=>X0 3 Z (rb h F Z))
       exact X0 8 Z (rb h F Z)
      exact X0 15 Z (rb h F Z)
     exact X0 20 Z (rb h F Z)
    exact X0 25 Z (rb h F Z)
   exact X0 29 Z (rb h F Z)
  exact X0 36 Z (rb h F Z)
 exact X0 43 Z (rb h F Z)
def mc(b:qf)(c:List Int):Nat->Int->Option (eE Bool Int)|0,_=>U|n+1,a=>bif decide (a<(b.Ah.length:Int)) then(qF b.Ah a).bind fun f=>(qF c a).bind fun g=>(xo n f g).bind fun d=>bif (!d) then V (.ret Cd) else mc b c n (qj (a+1)) else V (.nxt a)
def gI(r1:List aT):Nat->(List Int)->Int->Option ((List Int)×Int)|0,_,_=>U|n+1,b,a=>bif decide (a<(r1.length:Int)) then(qF r1 a).bind fun c=>bif (!c.drives) then(qF b c.net).bind fun d=>(qF b c.net).bind fun _=>gI r1 n (ak b c.net (qj (d+1))) (qj (a+1)) else gI r1 n b (qj (a+1)) else V (b,a)
def tz(n:Nat)(b:qf):Option Bool:=((uL n (⟨b.Ar.Au⟩:qB) (⟨b.Aa.Ab,b.Aa.Am,b.Aa.Ai⟩:qk)).bind fun a=>bif (!a) then V An else V ((b.Ah.length:Int) != (b.Aa.Am.length:Int))).bind fun b1=>bif b1 then V Cd else(xY (b.Ah.length:Int) (0:Int)).bind fun x1=>(fM n (⟨b.Aa.Ab,b.Aa.Am,b.Aa.Ai⟩:qk)).bind fun r1=>(gI r1 n x1 0).bind fun(c,_)=>(mc b c n 0).bind fun|.ret r=>V r|.nxt _=>V An
theorem KU{b:qf}(z:Ro w b cs1){r:Bool}(F:tz n b=V r):qP prog 70 [gv b cs1] w r:=by
 obtain⟨p1,k1,p2,k2,p3,k3,p4,k4,p5,k5,rfl,s1,s2,s3,s4,s5⟩:=qW z;refine zV 63 func70 Z fun h=>dE (qJ h Z Z fun _ a h=>X0 4 Z ?_);obtain⟨x,g,_,F,f⟩:=bindE F;refine bd (fun e w'=>∃b1,x b1=V r/\e=[(1,vp a),(23,.bool b1)]/\SH w w' [oX a (qN b p1 p2 p3 p4 p5 k1 k2 k3 k4 k5) 34]) ?_ ?_
 .refine X2 5 0 0 h Z (dF h F (HR (tO _ (h.oldS s1)) (cg _ (h.oldS s2) (h.oldS s3) (h.oldS s4))) Z fun _ _ h F=>lY Z (qh (t:=14) F Z ?_ ?_))<;>intro F
  .refine X0 10 Z ?_;exact rH F f h Z
  refine X2 18 0 0 h Z ?_;exact rH F f h Z
 rintro _ _ ⟨b1,F,rfl,h⟩;subst g;refine qp Z F ?_ ?_<;>intro F
 .exact X0 4 Z (rb h F Z)
 refine X1 6 0 h Z ?_;obtain⟨x1,c,F⟩:=qc F;obtain⟨g1,g2,c⟩:=aL c;refine bv qa Int h z9 g1 g2 c Z fun _ S1 v h=>X1 7 1 h Z (uj h F (lR (cg _ (h.oldS s2) (h.oldS s3) (h.oldS s4))) Z fun r1 _ S2 p7 k6 h F=>X0 3 Z ?_);obtain⟨o1,F,y⟩:=qc F;refine qr (rL (fun m e w'=>∃u X,gI r1 m u X=V o1/\e=[(1,vp a),(3,oS v x1.length x1.length),(30,oL p7 r1 k6),(31,vi (r1.length:Int)),(32,vi X)]/\SH w w' [oW S2 (r1:List aT) [oL p7 r1 k6],oW S1 (u:List Int) [oS v x1.length x1.length],oX a (qN b p1 p2 p3 p4 p5 k1 k2 k3 k4 k5) 34]) n ⟨_,_,F,Z,h⟩ Z ?_);rintro m1 _ _ ⟨u,X,F,rfl,h⟩;rcases m1 with _|m1
 .cases F
 refine X0 5 Z (qp Z F ?_ ?_)<;>intro F
 .refine lN ?_;obtain⟨_,_,F,i,_,_,_,_,J,N,R,A⟩:=(h.sl 0 Z).1.ix F;obtain rfl:=pF R;refine zx J N ⟨i.1,qD i.2.1 (h.sl 0 Z).2⟩ Z (zc 0 A Z (qi qa h Z Z Z fun _ _ h=>zs 0 h Z fun _ h=>X1 7 0 h Z (qp Z F ?_ ?_)))<;>intro F
  .refine X1 4 0 h Z ?_;obtain⟨y2,_,F,k,_,_,_,_,K,O,rfl,B⟩:=(h.sl 2 Z).1.ix F;refine zx K O ⟨k.1,qD k.2.1 (h.sl 2 Z).2⟩ Z (zc 0 B Z (cq Z ?_));obtain⟨_,W,F,l,_,_,_,_,p,s,rfl,C⟩:=(h.sl 2 Z).1.ix F;refine zx p s ⟨l.1,qD l.2.1 (h.sl 2 Z).2⟩ Z (bK qa 2 0 (qj (y2+1)) h Z W p s Z C Z Z Z Z Z Z Z fun _ h=>X0 6 Z ?_);exact rK ⟨_,_,F,Z,h.p [1,2,3] Z⟩ Z
  refine X0 6 Z ?_;exact rK ⟨_,_,F,Z,h.p [1,2,3] Z⟩ Z
 refine qx Z ?_;cases qe F;have F:=y;refine X1 8 2 h Z ?_;obtain⟨o2,F,d⟩:=qc F;refine qr ?_;have h:=h.p [1] Z;refine rL (fun m e w'=>∃Y,mc b u m Y=V o2/\e=[(3,oS v x1.length x1.length),(48,oL p5 b.Ah k5),(49,vi (b.Ah.length:Int)),(50,vi Y)]/\SH w w' [oW S1 (u:List Int) [oS v x1.length x1.length]]) n ⟨_,F,Z,h⟩ Z ?_;rintro m2 _ _ ⟨Y,F,rfl,h⟩;rcases m2 with _|m2
 .cases F
 refine X0 5 Z (qp Z F ?_ ?_)<;>intro F
 .refine X0 6 Z ?_;obtain⟨y4,_,F,I,_,_,_,_,L,P,S,D⟩:=s5.ix F;obtain⟨_,_,_,_,_,_,_,_,rfl,s6,s7,s8,s9⟩:=dz S;refine fG L P I Z (bN 0 D h Z (qi qa h Z Z Z fun _ _ h=>cq Z (zs 0 h Z fun _ h=>O2 (rD (Y1 1 0 h Z ?_)))));refine xQ Z ?_;obtain⟨_,_,F,o,_,_,_,_,M,Q,rfl,H⟩:=(h.sl 1 Z).1.ix F;refine XH M Q ⟨o.1,qD o.2.1 (h.sl 1 Z).2⟩ Z (XG 0 H Z ?_);obtain⟨r2,T,F⟩:=qc F;refine en r2 (KO _) (cB 114 Z) (fun _ hb=>MY (QH y4 ((h.ext hb).oldS s6) ((h.ext hb).oldS s7) ((h.ext hb).oldS s8) ((h.ext hb).oldS s9)) T) Z Z Z Z (vD Z (dN h fun _ h=>qp Z F ?_ ?_))<;>intro F
  .refine X0 4 Z ?_;cases qe F;exact rb h d Z
  refine X0 6 Z ?_;exact rK ⟨_,F,Z,h.p [1] Z⟩ Z
 refine qx Z ?_;cases qe F;exact X0 4 Z (rb h d Z)
end Go.Fw


namespace Go.Fw
open Go
structure zw(x:bj):Prop where
 Bh:LW x.Bh
 Bx:mO x.Bx
 Br:mO x.Br
 Bs:qdW x.Bs
structure tP(x:aa):Prop where
 Bp:(vz mO) x.Bp
 Bm:(vz mO) x.Bm
 Bi:(vz mO) x.Bi
structure zu(x:bi):Prop where
 Bf:mO x.Bf
 Bk:mO x.Bk
 To:mO x.To
 Bq:mO x.Bq
 Bu:(vz tP) x.Bu
 Bb:(vz tP) x.Bb
structure DE(x:qR):Prop where
 Bh:LW x.Bh
 Bf:mO x.Bf
 Bg:(vz zw) x.Bg
 Az:(vz zu) x.Az
 Bt:(vz mO) x.Bt
 Cc:mO x.Cc
 Bz:mO x.Bz
structure pE(x:qB):Prop where
 Au:(vz DE) x.Au
structure KL(x:qL):Prop where
 Bh:LW x.Bh
 Bv:mO x.Bv
 Am:(vz mO) x.Am
structure SK(x:bk):Prop where
 Bh:LW x.Bh
 Bx:mO x.Bx
 Cb:mO x.Cb
structure wn(x:qk):Prop where
 Ab:(vz KL) x.Ab
 Am:(vz LW) x.Am
 Ai:(vz SK) x.Ai
structure GH(x:aJ):Prop where
 Ak:(vz mO) x.Ak
 Bw:(vz mO) x.Bw
 Br:(vz mO) x.Br
 Bj:(vz mO) x.Bj
structure wL(x:qf):Prop where
 Ar:pE x.Ar
 Aa:wn x.Aa
 Ah:(vz GH) x.Ah
structure ID(x:qG):Prop where
 Bh:LW x.Bh
 Ba:mO x.Ba
 Bd:mO x.Bd
 Ay:mO x.Ay
 Bc:mO x.Bc
structure LX(x:qg):Prop where
 As:mO x.As
 Be:mO x.Be
structure re(x:ql):Prop where
 Bn:mO x.Bn
 Af:LX x.Af
 Bb:LX x.Bb
structure mQ(x:bg):Prop where
 Ac:wL x.Ac
 Aj:ID x.Aj
 Av:(vz mO) x.Av
 Ap:(vz re) x.Ap
structure qdA(x:qK):Prop where
 Bo:mO x.Bo
 Bl:(vz mO) x.Bl
 Af:mO x.Af
structure qc2(x:qn):Prop where
 Aq:(vz qdW) x.Aq
 Af:(vz LX) x.Af
 Bb:(vz LX) x.Bb
end Go.Fw


namespace Go.Fw
open Go
set_option maxRecDepth 100000
theorem fC{n:Nat}{x lo hi:Int}:aW n x lo hi=V (gd x lo hi):=by
 simp only[aW,AV,FP];rfl
theorem fx{n:Nat}{x lo hi:Int}:bU n x lo hi=V (gd x lo hi):=by
 simp only[bU,AV,FP];rfl
def bt(s:ByteArray)(j:Nat):Nat:=(s.data.toList.getD j 0).toNat
theorem P5{s:ByteArray}{j:Nat}(h:j<s.size):P4 s (j:Int)=V (bt s j:Int):=by
 have a:j<s.data.size:=h;have b:j<s.data.toList.length:=by simpa using a
 unfold P4;rw[if_pos (by omega),jr];have:s[j]?=V (s.data.toList.getD j 0):=by
  rw[getElem?_pos s j h,jz,jj b]
  rfl
 rw[this]
 rfl
def NG(b:Nat):Bool:=decide (97<=b)&&decide (b<=122)
def XZ(b:Nat):Bool:=decide (48<=b)&&decide (b<=57)
def qc0(s:ByteArray)(j:Nat):Bool:=NG (bt s j) || XZ (bt s j)&&decide (0<j)
def sY(s:ByteArray):Bool:=(decide (1<=s.size)&&decide (s.size<=8))&&bE (qc0 s) s.size
theorem zn{s:ByteArray}(h:LW s):Ev (fun n=>oq n s) (sY s):=by
 unfold LW at h;have d:Ev (fun n=>kA s n 0) (bif bE (qc0 s) s.size then .nxt (s.size:Int) else .ret Cd):=by
  refine lD ?_ (fun j a X f=>?_)
  .exact Cm (by simp only[kA,qu (jf _),Cj];exact .done)
  .refine Cm ?_;simp only[kA,qq a,Ci,P5 a,jd,AV,FP,wS j];have e1:(decide ((bt s j:Int)>=97)&&decide ((bt s j:Int)<=122))=NG (bt s j):=by unfold NG;rw[jn];simp;omega
   have b:(decide ((bt s j:Int)>=48)&&decide ((bt s j:Int)<=57))=XZ (bt s j):=by unfold XZ;rw[jn];simp;omega
   have c:decide ((j:Int) > 0)=decide (0<j):=by rw[jn];simp
   rw[e1,b,c];unfold qc0;cases NG (bt s j)<;>cases XZ (bt s j)<;>cases decide (0<j)<;>first|exact f|exact .done
 unfold oq;refine Ev.cast (r:=bif bE (qc0 s) s.size then(decide (1<=s.size)&&decide (s.size<=8)) else Cd) (Ev.bindB d (fun _=>?_) (fun _=>.done)) ?_
 .simp only[AV,FP];exact Cx (by congr 1;rw[jn];simp;omega)
 .unfold sY;cases bE (qc0 s) s.size<;>simp
def ns:List UInt8:=[97,98,99,100,101,102,103,104,105,106,107,108,109,110,111,112,113,114,115,116,117,118,119,120,121,122,48,49,50,51,52,53,54,55,56,57]
theorem MP(b:UInt8):ns.contains b=(NG b.toNat || XZ b.toNat):=by
 have a:(List.range 256).all (fun m=>ns.contains (UInt8.ofNat m)==(NG (UInt8.ofNat m).toNat || XZ (UInt8.ofNat m).toNat))=An:=by kernel_rfl
 have h:=List.all_eq_true.1 a b.toNat (List.mem_range.2 b.toNat_lt);rw[beq_iff_eq] at h;simpa using h
def SE:List UInt8:=[97,98,99,100,101,102,103,104,105,106,107,108,109,110,111,112,113,114,115,116,117,118,119,120,121,122]
theorem YN(m:Nat)(b:m<256):decide ((Lib.indexByte SE m.toUInt8)>=0)=NG m:=by
 have a:(List.range 256).all (fun m=>decide ((Lib.indexByte SE m.toUInt8)>=0)==NG m)=An:=by kernel_rfl
 have h:=List.all_eq_true.1 a m (List.mem_range.2 b);rwa [beq_iff_eq] at h
theorem OS{α:Type}{p:α->Bool}{l:List α}:l.dropWhile p=[]↔∀x,x∈l->p x=An:=by
 induction l with
 |nil=>simp
 |cons y l ih=>
  rw[List.dropWhile_cons];by_cases h:p y=An
  .rw[if_pos h,ih];simp[h]
  .rw[if_neg h];simp[h]
theorem OR{α:Type}{p:α->Bool}{l:List α}(h:∀x,x∈l.dropWhile p->p x=An):∀x,x∈l->p x=An:=by
 induction l with
 |nil=>simp
 |cons y l ih=>
  rw[List.dropWhile_cons] at h;by_cases b:p y=An
  .rw[if_pos b] at h;intro x a;rcases List.mem_cons.1 a with rfl|a
   .exact b
   .exact ih h x a
  .rw[if_neg b] at h;exact h
theorem Z5{l cs:List UInt8}:Lib.trimS l cs=[]↔∀x,x∈l->cs.contains x=An:=by
 unfold Lib.trimS Lib.trimRightS Lib.trimLeftS;rw[OS];constructor
 .intro h x a;exact OR (p:=(cs.contains ·)) (l:=l.reverse) (fun y b=>h y (List.mem_reverse.2 b)) x (List.mem_reverse.2 a)
 .intro h x a;exact h x (List.mem_reverse.1 ((List.dropWhile_suffix _).subset (List.mem_reverse.1 a)))
theorem se{a b:ByteArray}:(a.toList==b.toList)=decide (a=b):=by
 rw[jn,beq_iff_eq,decide_eq_true_iff];constructor
 .intro h;exact ByteArray.ext (by have:=congrArg List.toArray h;simpa [ByteArray.toList_eq] using this)
 .rintro rfl;rfl

theorem qbJ{s:ByteArray}{j:Nat}(h:j<s.data.toList.length):bt s j=(s.data.toList[j]).toNat:=by
 unfold bt;rw[jz,jj h];rfl
theorem qc7{s:ByteArray}{j:Nat}:bt s j<256:=UInt8.toNat_lt _
theorem HU{n:Nat}{s:ByteArray}(h:LW s):sS n s=V (sY s):=by
 unfold LW at h;have z:s.data.toList.length=s.size:=by simp
 simp only[sS,fx,jd];cases hI:gd (s.size:Int) 1 8 with
 |false=>
  have k:(decide (1<=s.size)&&decide (s.size<=8))=Cd:=by rw[G4] at hI;rw[Bool.and_eq_false_iff,decide_eq_false_iff_not,decide_eq_false_iff_not];omega
  simp[sY,k]
 |true=>
  have k:1<=s.size/\s.size<=8:=by rw[bV] at hI;omega
  have t:uf n s (⟨#[97,98,99,100,101,102,103,104,105,106,107,108,109,110,111,112,113,114,115,116,117,118,119,120,121,122,48,49,50,51,52,53,54,55,56,57]⟩:ByteArray)=V ⟨(Lib.trimS s.data.toList ns).toArray⟩:=by
   unfold uf;rw[if_pos ⟨by omega,by decide,by decide⟩]
   rfl
  rw[t];simp only[Ci,jd];have p:(((⟨(Lib.trimS s.data.toList ns).toArray⟩:ByteArray).toList==(⟨#[]⟩:ByteArray).toList))=bE (fun j=>NG (bt s j) || XZ (bt s j)) s.size:=by
   rw[se,jn,decide_eq_true_iff,aG];have:((⟨(Lib.trimS s.data.toList ns).toArray⟩:ByteArray)=⟨#[]⟩)↔Lib.trimS s.data.toList ns=[]:=by
    constructor
    .intro i;have:=congrArg (fun x:ByteArray=>x.data.toList) i;simpa using this
    .intro i;rw[i]
   rw[this,Z5];constructor
   .intro m j a;have c:j<s.data.toList.length:=by omega
    have:=m _ (jo c);rw[MP,<-qbJ c] at this;exact this
   .intro m x u;obtain⟨j,a,rfl⟩:=Je u;have:=m j (by omega);rw[MP,<-qbJ a];exact this
  rw[p];have o:P4 s 0=V (bt s 0:Int):=P5 (j:=0) (by omega);have g:decide (Lib.indexByte SE (bt s 0:Int).toNat.toUInt8>=0)=NG (bt s 0):=by
   rw[jr];exact YN _ qc7
  have r:∀b:Bool,(bif b then(P4 s 0).bind fun y=>(pi n (⟨#[97,98,99,100,101,102,103,104,105,106,107,108,109,110,111,112,113,114,115,116,117,118,119,120,121,122]⟩:ByteArray) (⟨y⟩:gW .u8)).bind fun v=>V (decide (v>=0)) else V Cd)=V (b&&NG (bt s 0)):=by
   intro b;cases b with
   |false=>rfl
   |true=>
    rw[o];simp only[Ci,jd,pi,jL];exact congrArg V g
  rw[r]
  congr 1
  have l:(decide (1<=s.size)&&decide (s.size<=8))=An:=by simp[k]
  unfold sY;rw[l,jL,jn,je,aG,aG];simp only[qc0,Bool.or_eq_true,je,decide_eq_true_eq];constructor
  .rintro⟨d,f⟩ j a;rcases Nat.eq_zero_or_pos j with rfl|hp
   .exact .inl f
   .exact(d j a).imp id (fun h=>⟨h,hp⟩)
  .intro d;refine⟨fun j a=>(d j a).imp id (fun h=>h.1),?_⟩;rcases d 0 (by omega) with f|f
   .exact f
   .omega
def xP(xs:List ByteArray)(j:Nat):ByteArray:=xs.getD j ByteArray.empty
theorem HB{xs:List ByteArray}{j:Nat}(h:j<xs.length):xP xs j=xs[j]:=by simp[xP,h]
theorem LT{xs:List ByteArray}{j:Nat}(h:j<xs.length):qF xs (j:Int)=V (xP xs j):=by rw[cj h,HB h]
def QJ(xs:List ByteArray)(j i:Nat):Bool:=!decide (xP xs i=xP xs j)
def nH(xs:List ByteArray):Bool:=bE (fun j=>sY (xP xs j)&&bE (QJ xs j) j) xs.length
theorem BQ{xs:List ByteArray}(h:vz LW xs):Ev (fun n=>oJ n xs) (nH xs):=by
 have f:=h.len;have c:∀j,j<xs.length->Ev (fun n=>lm xs (j:Int) n 0) (bif bE (QJ xs j) j then .nxt (j:Int) else .ret Cd):=by
  intro j a;refine lD ?_ (fun i hi X d=>Cm ?_)
  .exact Cm (by simp only[lm,qu (jf _),Cj];exact .done)
  .simp only[lm,qq hi,Ci,LT (show i<xs.length by omega),LT a,jd,se,wS i];unfold QJ;cases decide (xP xs i=xP xs j)
   .exact d
   .exact .done
 have b:Ev (fun n=>ll xs n 0) (bif nH xs then .nxt (xs.length:Int) else .ret Cd):=by
  refine lD ?_ (fun j a X d=>Cm ?_)
  .exact Cm (by simp only[ll,qu (jf _),Cj];exact .done)
  .simp only[ll,qq a,Ci,LT a,jd,wS j];refine Ck (zn (by rw[HB a];exact h.at a)) ?_;cases sY (xP xs j)
   .exact .done
   .refine Cp Z (Ck (c j a) ?_);cases bE (QJ xs j) j
    .exact .done
    .exact d
 unfold oJ;refine Ck b ?_;cases nH xs<;>exact .done
theorem WT{xs:List ByteArray}{v:ByteArray}(c:xs.length<=1048576):Ev (fun n=>nh n xs v) (KZ (fun x=>decide (v=x)) xs):=
 nF (fin:=(xs.length:Int)) (Lf:=eJ xs v) (pf:=fun _ x=>V (decide (v=x))) (fun _ _=>.done)
  (fun n=>by simp only[eJ,qu (jf _),Cj])
  (fun n j x a=>by
   have b:=(List.getElem?_eq_some_iff.1 a).1;simp only[eJ,qq b,Ci,pp a,jd,se,wS j])
  (fun n=>by unfold nh;congr 1;funext o;cases o<;>rfl)
theorem NW{xs:List ByteArray}{v:ByteArray}(a:xs.length<=1048576):Ev (fun n=>kS n xs v) (xs.any fun x=>decide (v=x)):=by
 unfold kS;exact Ck (WT a) (Cx (by rw[BP]))
theorem uW{xs:List ByteArray}(h:vz LW xs):Ev (fun n=>kX n xs) (nH xs):=by
 have g:=h.len;have b:Ev (fun n=>lf xs n 0) (bif nH xs then .nxt (xs.length:Int) else .ret Cd):=by
  refine lD ?_ (fun j a X c=>Cm ?_)
  .exact Cm (by simp only[lf,qu (jf _),Cj];exact .done)
  .have f:wT xs 0 (j:Int)=V (xs.take j):=by
    unfold wT;rw[if_pos ⟨by omega,by omega,by omega⟩];simp
   simp only[lf,qq a,Ci,LT a,jd,f,HU (show LW (xP xs j) by rw[HB a];exact h.at a),wS j];cases sY (xP xs j)
   .exact .done
   .refine Cp Z (Ck (NW (by simp;omega)) ?_);have:((xs.take j).any fun x=>decide (xP xs j=x)) = !bE (QJ xs j) j:=by
     rw[TY (d:=ByteArray.empty)]
     congr 1
     rw[jy,Nat.min_eq_left (by omega)];refine sC (fun i hi=>?_);unfold QJ xP
     congr 1
     have:(xs.take j).getD i ByteArray.empty=xs.getD i ByteArray.empty:=by simp[jz,hi]
     rw[this];exact decide_eq_decide.2 eq_comm
    rw[this];cases bE (QJ xs j) j
    .exact .done
    .exact c
 unfold kX;refine Ck b ?_;cases nH xs<;>exact .done
end Go.Fw
