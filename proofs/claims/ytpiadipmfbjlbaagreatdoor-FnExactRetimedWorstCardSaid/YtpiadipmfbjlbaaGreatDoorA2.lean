/- Calls that hand out parts of memory one by one: what is owned stays apart. -/
import Derived.Test.YtpiadipmfbjlbaaGreatDoorFw38
import Derived.Sort.Grow
import Derived.Lib.SlicesCompact
import Derived.Laws.StructEq
import Derived.Shelf.GgSortFunc.RowK
import Derived.Sort.Statements
import Derived.Sort.LotA
import Derived.Lib.QuietBelow
import Derived.Test.YtpiadipmfbjlbaaGreatDoorChecked
import Derived.Test.YtpiadipmfbjlbaaGreatDoorS1
open Option renaming some->V, none->U
open Nat renaming le_refl->je, le_of_ble_eq_true->jt, mul_le_mul_right->jv, lt_of_lt_of_le->jA, zero_add->jY, le_trans->Jb, add_zero->Jj
open Bool renaming and_eq_true->jf, not_eq_true'->jI
open List renaming length_append->jg, getElem?_eq_getElem->jh, mem_cons_of_mem->jo, getElem_mem->jp, length_map->ju, length_take->jw, mem_cons_self->jx, getElem?_append_left->jy, getElem?_append_right->jB, take_length->jE, getElem?_take->jF, mem_append_left->jJ, getElem?_toArray->jK, mem_of_getElem?->jM, size_toArray->jQ, mem_append_right->jR, not_mem_nil->jV, take_append_drop->jX, mem_cons->Jf, getElem?_drop->Jg, map_map->Jq
open Go.Result renaming andThen_ok->ji
open Go.Sem renaming run_bind->jj, run_pure->jk
open Array renaming getElem?_append_left->jC, getElem?_eq_getElem->jT

namespace Go.Fw
open Go
open Go.RowKit (Below)
section
variable{P:Program}{T:Tab}{n:Nat}{Q:Exit->Act->World->Prop}{k:List It}{e:Env}{w0 w w':World}{L L':List Ch}
theorem SH.append(h:SH w0 w L)(hL:SH w w' L')(hD:∀c,c∈L'->∀b,c.D b->b<w0.heap.size):SH w0 w' (L'++L):=by
 have h':=h.ext hL.below;refine⟨h'.below,fun c hc=>?_,fun c hc=>?_,?_⟩
 ·rcases List.mem_append.1 hc with hc|hc
  ·obtain⟨p,s⟩:=hL.holds c hc;exact⟨p,fun b hb=>⟨Jb h.below.size (s b hb).1,(s b hb).2⟩⟩
  ·exact h'.holds c hc
 ·rcases List.mem_append.1 hc with hc|hc
  ·exact hD c hc
  ·exact h.elder c hc
 ·refine List.pairwise_append.2 ⟨hL.apart,h.apart,fun c hc d hd b hcb hdb=>?_⟩;have h1:=((hL.holds c hc).2 b hcb).1;have h2:=((h.holds d hd).2 b hdb).2;omega
theorem SH.appendN(h:SH w0 w L)(hL:SH w w' L')(hD:NoD L'):SH w0 w' (L'++L):=
 SH.append h hL fun c hc b hb=>absurd hb (NoD.all hD c hc b)
def RetZ(P:Program)(f:FuncId)(vs:List Value)(w:World)(Φ:List Value->List Ch->Prop):Prop:=
 Calls P f vs.toArray w fun e w'=>∃v,e=.returned v/\Below w.heap.size w w'/\∃us L,v=tup us/\SH w w' L/\Φ us L
theorem qxO{Φ:List Value->List Ch->Prop}{all:Array Oper}{l:List Oper}{d ty:Nat}{ps:String}{af:Array Edge}{x:Operand}{args:Array Operand}{ats:Array TypeId}{f:FuncId}{fi ca:Array Value}{az vs:List Value}
  (hcall:qdZ P f) (hc:RetZ P f vs w Φ) (hx:opv e x=V (.func (.func f) fi ca)) (hargs:opvs e args.toList=V az) (hvs:fi.toList++az++ca.toList=vs) (hn:Nat.blt d n=true)
  (hk:∀w' us L',SH w w' L'->Φ us L'->Run P n Q (.ops all l::k) ((d,tup us)::e) w') :
  Run P n Q (.ops all (⟨V d,.call ⟨.value x,args,ats⟩,ty,ps,af,U⟩::l)::k) e w:=by
 subst hvs;refine qlo (R:=fun v w'=>Below w.heap.size w w'/\∃us L,v=tup us/\SH w w' L/\Φ us L) Z Z hn (fun a ha=>qhb ha hcall hx hargs w) hc ?_;rintro v w' ⟨_,us,L',rfl,hL,hv⟩;exact hk w' us L' hL hv
theorem qrm{f:FuncId}{fn:Func}{c:Code}{vs:List Value}{Φ:List Value->List Ch->Prop}{m:Nat}(hf:P.funcs[f]?=V fn)(hb:fn.body=V c)(hm:fn.ntmps=m)(hn:Nat.ble vs.length m=true)
  (h:SH w w []->Run P m (bodyPost P fn fun e w'=>∃v,e=.returned v/\Below w.heap.size w w'/\∃us L,v=tup us/\SH w w' L/\Φ us L) [.code c] (argEnv 0 vs) w):RetZ P f vs w Φ:=by
 subst hm;have hn':=jt hn;refine calls_of_wp hf hb ?_;have hr:=h (SH.start w);have hag:Agree fn.ntmps (argEnv 0 vs) { tmps:=vs.toArray++Array.replicate (fn.ntmps-vs.toArray.size) undef,defers:=[] }:=by
  refine⟨rfl,by simp;omega,fun i v hi=>?_⟩;obtain⟨_,h2⟩:=qhL vs 0 i v hi;simp only[Nat.sub_zero] at h2;have hlt:=(List.getElem?_eq_some_iff.1 h2).1;rw[jC (by simpa using hlt)];simpa using h2
 have h1:=hr _ hag;refine wp_mono h1 ?_;intro ex a' w' hq;cases ex<;>exact hq
theorem qpH(hT:TabOk P T){fn:Func}{Φ:List Value->List Ch->Prop}(us:List Value)(h:SH w0 w L)(hr:ResOk T e w fn.results.toList us)(hv:Φ us L) :
  Run P n (bodyPost P fn fun e w'=>∃v,e=.returned v/\Below w0.heap.size w0 w'/\∃us L,v=tup us/\SH w0 w' L/\Φ us L) (.code .ret::k) e w:=
 qsE fun _ ha=>⟨ha.defers,tup us,qfv hT ha hr,tup us,rfl,h.below,us,L,rfl,h,hv⟩
end
end Go.Fw


namespace Go.Fw
open Go Go.Sort
open Go.RowKit (Below)
section
variable{P:Program}{T:Tab}{n:Nat}{Q:Exit->Act->World->Prop}{k:List It}{e:Env}{w0 w w':World}{L L':List Ch}
theorem qtI{α:Type}{L:List α}{i:Nat}{c:α}(h:L[i]?=V c):L.set i c=L:=by
 obtain⟨hi,he⟩:=List.getElem?_eq_some_iff.1 h;rw[<-he,List.set_getElem_self]
abbrev encI:Int->Value:=Value.int .i64
theorem qye{S:Nat->Prop}{xs:List Int}{b o ln c i:Nat}(h:SH w0 w L)(hi:L[i]?=V (Ch.own S xs [.slice (V ⟨b,o,U⟩) ln c])) :
  o=0/\ln=xs.length/\xs.length<=c/\xs.length<=9223372036854775807/\b<w.heap.size/\Holds encI w b o xs.toArray:=by
 obtain⟨hp,hS⟩:=h.mem hi;obtain⟨p0,c0,he,h1,h2,h3⟩:=hp;simp only[List.cons.injEq,Value.slice.injEq,and_true] at he;obtain⟨rfl,rfl,rfl⟩:=he;rcases h3 with⟨hn,_⟩|⟨b',cur,t,F,hb,hSb,hg,hc,hF,hd,hx⟩
 ·cases hn
 ·simp only[Option.some.injEq,Addr.mk.injEq,and_true] at hb;obtain⟨rfl,rfl⟩:=hb;have hmax:maxLen<=9223372036854775807:=by simp[maxLen]
  refine⟨rfl,rfl,h1,by omega,(hS b hSb).2,fun j hj=>?_⟩;have hj':j<xs.length:=by simpa using hj
  obtain⟨cs,hr,hv⟩:=hx j xs[j] (jh hj');obtain rfl:cs=[.int .i64 xs[j]]:=hr;have:=hv 0 _ Z;refine⟨?_,?_⟩
  ·simp only[World.cell?,hg,Option.isSome_none,jY,Bool.false_eq_true,if_false];have e1:j*GoT.k Int+0=j:=by show j*1+0=j;omega
   rw[e1] at this;rw[this];have hja:j<xs.toArray.size:=hj;rw[getElem!_pos xs.toArray j hja]
   rfl
  ·simp only[World.frozen?,hg];simp
theorem qBr{S:Nat->Prop}{xs:List Int}{b o ln c i m:Nat}(h:SH w0 w L)(hi:L[i]?=V (Ch.own S xs [.slice (V ⟨b,o,U⟩) ln c]))(d:Array Int)(hd:d.size=xs.length)(hm:m<=d.size)(nd:Nat)(os:Array Obj) :
  SH w0 (grow (putRow encI (Go.Sort.ahead w nd) b o d) os) (L.set i (Ch.own S (d.toList.take m) [.slice (V ⟨b,o,U⟩) m c])):=by
 obtain⟨hp,hS⟩:=h.mem hi;obtain⟨p0,c0,he,h1,h2,h3⟩:=hp;simp only[List.cons.injEq,Value.slice.injEq,and_true] at he;obtain⟨rfl,rfl,rfl⟩:=he;rcases h3 with⟨hn,_⟩|⟨b',cur,t,F,hb,hSb,hg,hc,hF,hdj,hx⟩
 ·cases hn
 ·simp only[Option.some.injEq,Addr.mk.injEq,and_true] at hb;obtain⟨rfl,rfl⟩:=hb;have hbs:b<w.heap.size:=(hS b hSb).2;have hheap:(grow (putRow encI (Go.Sort.ahead w nd) b 0 d) os).heap=w.heap.modify b (onCells (putCells encI 0 d))++os:=rfl;have hlt:∀a,a<w.heap.size->(grow (putRow encI (Go.Sort.ahead w nd) b 0 d) os).heap[a]?=(w.heap.modify b (onCells (putCells encI 0 d)))[a]?:=fun a ha=>by
   rw[hheap,jC (by rw[Array.size_modify];exact ha)]
  have hgb:(grow (putRow encI (Go.Sort.ahead w nd) b 0 d) os).heap[b]?=V (.cells (putCells encI 0 d cur) t (0,0)):=by
   rw[hlt b hbs,Array.getElem?_modify,if_pos Z,hg];rfl
  have hk1:GoT.k Int=1:=rfl;refine h.upd hi Z Z Z ?_ (fun a ha hna=>?_) ?_ (fun a ha=>.inl ha) (fun _ hd=>hd.elim)
  ·rw[hheap];simp
  ·rw[hlt a ha,Array.getElem?_modify,if_neg (fun hab:b=a=>hna (hab ▸ hSb))]
  ·refine⟨V ⟨b,0,U⟩,c,by rw[jw,Array.length_toList,Nat.min_eq_left hm],by rw[jw,Array.length_toList];omega,h2,.inr ⟨b,_,t,F,rfl,hSb,hgb,?_,hF,hdj,fun j x hj=>⟨[.int .i64 x],rfl,fun r v hr=>?_⟩⟩⟩
   ·unfold putCells;rw[Array.size_mapIdx];exact hc
   ·have hr0:r=0:=by
     have:=(List.getElem?_eq_some_iff.1 hr).1;simpa using this
    subst hr0;obtain rfl:(.int .i64 x)=v:=by simpa using hr
    have hjm:j<m:=by
     have:=(List.getElem?_eq_some_iff.1 hj).1;rw[jw] at this;omega
    rw[jF,if_pos hjm] at hj;have hjd:j<d.size:=by omega
    have hjc:j*GoT.k Int+0<cur.size:=by rw[hc,hk1];omega
    unfold putCells;rw[Array.getElem?_mapIdx,jT hjc];have e1:j*GoT.k Int+0=j:=by rw[hk1];omega
    simp only[Option.map_some,e1,Nat.sub_zero,Nat.zero_le,jY,true_and,if_pos hjd,Option.some.injEq];rw[getElem!_pos d j hjd];rw[Array.getElem?_toList,jT hjd] at hj;rw[Option.some.inj hj]
theorem qAq{S:Nat->Prop}{xs:List Int}{b o ln c i:Nat}{sp:Option Nat}(h:SH w0 w L)(hi:L[i]?=V (Ch.own S xs [.slice (V ⟨b,o,sp⟩) ln c])):sp=U:=by
 obtain⟨hp,_⟩:=h.mem hi;obtain⟨p0,c0,he,h1,h2,h3⟩:=hp;simp only[List.cons.injEq,Value.slice.injEq,and_true] at he;obtain⟨rfl,_,rfl⟩:=he;rcases h3 with⟨hn,_⟩|⟨b',cur,t,F,hb,_⟩
 ·cases hn
 ·simp only[Option.some.injEq,Addr.mk.injEq] at hb;exact hb.2.2
theorem qAR{S:Nat->Prop}{xs:List Int}{ln c i:Nat}(h:SH w0 w L)(hi:L[i]?=V (Ch.own S xs [.slice U ln c])):xs=[]/\ln=0/\c=0:=by
 obtain⟨hp,_⟩:=h.mem hi;obtain⟨p0,c0,he,h1,h2,h3⟩:=hp;simp only[List.cons.injEq,Value.slice.injEq,and_true] at he;obtain⟨rfl,hl,rfl⟩:=he;rcases h3 with⟨_,rfl,rfl⟩|⟨b',cur,t,F,hb,_⟩
 ·exact⟨rfl,by simpa using hl,rfl⟩
 ·cases hb
end
end Go.Fw


namespace Go.Fw
open Go
open Go.RowKit (Below)
section
variable{w0 w w':World}{L:List Ch}{α:Type}[GoT α]
def RAll(w:World)(A:Nat->Prop):List α->List (Raw α)->Prop
 | [],[]=>True
 |x::xs,r::rs=>GoT.R w A x r.cs/\RAll w A xs rs
 |_,_=>False
theorem RAll.at{A:Nat->Prop}:∀{xs:List α} {rs:List (Raw α)},RAll w A xs rs->xs.length=rs.length/\∀(i:Nat) x,xs[i]?=V x->∃r,rs[i]?=V r/\GoT.R w A x r.cs
 | [],[],_=>⟨rfl,fun i x h=>by simp at h⟩
 |x::xs,[],h=>h.elim
 | [],r::rs,h=>h.elim
 |x::xs,r::rs,h=>by
  obtain⟨hl,ha⟩:=RAll.at h.2;refine⟨by simp[hl],fun i y hy=>?_⟩;cases i with
  |zero=>simp only[List.getElem?_cons_zero,Option.some.injEq] at hy⊢;subst hy;exact⟨r,rfl,h.1⟩
  |succ i=>simp only[List.getElem?_cons_succ] at hy⊢;exact ha i y hy
theorem rawsR{A:Nat->Prop}{xs:List α}{rs:List (Raw α)}{p:Option Addr}{n c:Nat}(hr:GoT.R w A rs [.slice p n c])(h:RAll w A xs rs):GoT.R w A xs [.slice p n c]:=by
 obtain⟨p0,c0,he,h1,h2,h3⟩:=hr;obtain⟨hl,ha⟩:=h.at;simp only[List.cons.injEq,Value.slice.injEq,and_true] at he;obtain⟨rfl,rfl,rfl⟩:=he;refine⟨p,c,by rw[hl],by omega,h2,?_⟩;rcases h3 with⟨hp,rfl⟩|⟨b,o,cur,T,fr,rfl,hb,hg,hc,hx⟩
 ·left;exact⟨hp,List.length_eq_zero_iff.1 hl⟩
 ·refine .inr ⟨b,o,cur,T,fr,rfl,hb,hg,hc,fun i x hi=>?_⟩;obtain⟨r,hri,hR⟩:=ha i x hi;obtain⟨cs,hcs,hj⟩:=hx i r hri;obtain rfl:cs=r.cs:=hcs.1;exact⟨_,hR,hj⟩
end
end Go.Fw


namespace Go.Fw
open Go
end Go.Fw


namespace Go.Fw
open Go
open Go.RowKit (Below)
section
variable{P:Program}{T:Tab}{n:Nat}{Q:Exit->Act->World->Prop}{k:List It}{e:Env}{w0 w:World}{L:List Ch}
variable{α:Type}[GoT α]{S S1:Nat->Prop}{xs ys:List α}{p p':Option Addr}{c c':Nat}
end
section
variable{α β γ:Type}
def Emp(o:Option (List α)):Prop:=∀r,o=V r->r=[]
theorem Emp.none:Emp (U:Option (List α)):=fun _ h=>by cases h
theorem Emp.noneB{f:β->Option (List α)}:Emp ((Option.none:Option β).bind f):=fun _ h=>by cases h
theorem Emp.nil:Emp (V ([]:List α)):=fun _ h=>(Option.some.inj h).symm
theorem Emp.bif{c:Bool}{a b:Option (List α)}(h1:Emp a)(h2:Emp b):Emp (bif c then a else b):=by cases c<;>assumption
theorem Emp.sub{xs:List β}{lo:Int}{f:List β->Option (List α)}(h:Emp (f [])):Emp ((subS xs lo ((0:Nat):Int)).bind f):=fun r hr=>by
 cases hs:subS xs lo ((0:Nat):Int) with
 |none=>rw[hs] at hr;cases hr
 |some y=>
  rw[hs] at hr;obtain⟨_,_,_,e⟩:=qnd hs;have:y=[]:=by rw[<-e];simp
  subst this;exact h r hr
theorem Emp.assoc{x:Option β}{g:β->Option γ}{f:γ->Option (List α)}(h:∀y,Emp ((g y).bind f)):Emp ((x.bind g).bind f):=by
 cases x with
 |none=>exact Emp.noneB
 |some y=>exact h y
theorem Emp.bind{x:Option β}{f:β->Option (List α)}(h:∀y,Emp (f y)):Emp (x.bind f):=by
 cases x with
 |none=>exact Emp.noneB
 |some y=>exact h y
end
end Go.Fw


namespace Go.Fw
open Go
section
variable{ε:Type}
variable{ρ σ τ:Type}
end

end Go.Fw


namespace Go.Fw
open Go
open Go.RowKit (Below)
structure Same where
 w:World
 K:Nat->Prop
instance instSame:GoT Same where
 k:=1
 agg:=false
 zero:=⟨default,fun _=>False⟩
 zc:=[.bool true]
 R w S x cs:=cs=[.bool true]/\∀b,x.K b->S b/\w.heap[b]?=x.w.heap[b]?
 O w S x cs:=cs=[.bool true]/\∀b,x.K b->S b/\w.heap[b]?=x.w.heap[b]?
 kpos:=by decide
 noagg _:=rfl
 len h:=by obtain⟨rfl,_⟩:=h;rfl
 one h:=by obtain⟨rfl,_⟩:=h;simp[Value.oneCell']
 loc h hs:=⟨h.1,fun b hb=>⟨(h.2 b hb).1,(hs b (h.2 b hb).1).trans (h.2 b hb).2⟩⟩
 mono h hs:=⟨h.1,fun b hb=>⟨hs b (h.2 b hb).1,(h.2 b hb).2⟩⟩
 toR h:=h
 locO h hs:=⟨h.1,fun b hb=>⟨(h.2 b hb).1,(hs b (h.2 b hb).1).trans (h.2 b hb).2⟩⟩
 monoO h hs:=⟨h.1,fun b hb=>⟨hs b (h.2 b hb).1,(h.2 b hb).2⟩⟩
 zO _ _:=⟨rfl,fun _ h=>h.elim⟩
def FS(F:List Ch)(b:Nat):Prop:=∃d,d∈F/\d.S b
abbrev Fr(w0:World)(F:List Ch)(b:Nat):Prop:=FS F b\/old w0 b
abbrev same(w0 w:World)(F:List Ch):Fct:=fct (⟨w,Fr w0 F⟩:Same) [.bool true]
section
variable{P:Program}{T:Tab}{n:Nat}{Q:Exit->Act->World->Prop}{k:List It}{e:Env}{w0 w w':World}{L L' F:List Ch}
theorem SH.frame(L:List Ch)(h:SH w0 w (L++F)):SH w0 w (L++[Ch.grp (Fw.old w0) (FS F) [same w0 w F]]):=by
 have hp:=List.pairwise_append.1 h.apart;refine⟨h.below,fun c hc=>?_,fun c hc=>?_,List.pairwise_append.2 ⟨hp.1,List.pairwise_singleton ..,fun c hc d hd b hb=>?_⟩⟩
 ·rcases List.mem_append.1 hc with hc|hc
  ·exact h.holds c (jJ _ hc)
  ·obtain rfl:=List.mem_singleton.1 hc;refine⟨fun f hf=>?_,fun b hb=>?_⟩
   ·obtain rfl:=List.mem_singleton.1 hf;exact⟨rfl,fun b hb=>⟨hb,rfl⟩⟩
   ·obtain⟨d,hd,hb⟩:=hb;exact(h.holds d (jR _ hd)).2 b hb
 ·rcases List.mem_append.1 hc with hc|hc
  ·exact h.elder c (jJ _ hc)
  ·obtain rfl:=List.mem_singleton.1 hc;exact fun b hb=>hb
 ·obtain rfl:=List.mem_singleton.1 hd;rintro⟨d,hd,hdb⟩;exact hp.2.2 c hc d hd b hb hdb
theorem SH.unframe{L0:List Ch}{fs:List Fct}(j:Nat)(h0:SH w0 w (L0++F))(L':List Ch)(h:SH w0 w' (L'++[Ch.grp (Fw.old w0) (FS F) fs]))(hj:fs[j]?=V (same w0 w F)):SH w0 w' (L'++F):=by
 have hp:=List.pairwise_append.1 h.apart;have hp0:=List.pairwise_append.1 h0.apart;have hg:=h.holds (Ch.grp (Fw.old w0) (FS F) fs) (jR _ (List.mem_singleton.2 Z));have hs:∀b,Fr w0 F b->w'.heap[b]?=w.heap[b]?:=fun b hb=>((hg.1 _ (jM hj)).2 b hb).2;refine⟨h.below,fun c hc=>?_,fun c hc=>?_,List.pairwise_append.2 ⟨hp.1,hp0.2.1,fun c hc d hd b hb hdb=>?_⟩⟩
 ·rcases List.mem_append.1 hc with hc|hc
  ·exact h.holds c (jJ _ hc)
  ·obtain⟨h1,h2⟩:=h0.holds c (jR _ hc);exact⟨c.loc w w' (fun b hb=>hs b (.inl ⟨c,hc,hb⟩)) (fun b hb=>hs b (.inr (h0.elder c (jR _ hc) b hb))) h1,fun b hb=>hg.2 b ⟨c,hc,hb⟩⟩
 ·rcases List.mem_append.1 hc with hc|hc
  ·exact h.elder c (jJ _ hc)
  ·exact h0.elder c (jR _ hc)
 ·exact hp.2.2 c hc _ (List.mem_singleton.2 Z) b hb ⟨d,hd,hdb⟩
variable{α:Type}[GoT α]{x:α}{cs:List Value}{S D:Nat->Prop}{fs:List Fct}
def RetW(P:Program)(f:FuncId)(vs:List Value)(w:World)(J:List Value->World->Prop):Prop:=
 Calls P f vs.toArray w fun e w'=>∃us,e=.returned (tup us)/\J us w'
theorem qAY{J:List Value->World->Prop}{all:Array Oper}{l:List Oper}{d ty:Nat}{ps:String}{af:Array Edge}{x:Operand}{args:Array Operand}{ats:Array TypeId}{f:FuncId}{fi ca:Array Value}{az vs:List Value}
  (hcall:qdZ P f) (hc:RetW P f vs w J) (hx:opv e x=V (.func (.func f) fi ca)) (hargs:opvs e args.toList=V az) (hvs:fi.toList++az++ca.toList=vs) (hn:Nat.blt d n=true)
  (hk:∀w' us,J us w'->Run P n Q (.ops all l::k) ((d,tup us)::e) w'):Run P n Q (.ops all (⟨V d,.call ⟨.value x,args,ats⟩,ty,ps,af,U⟩::l)::k) e w:=by
 subst hvs;refine qlo (R:=fun v w'=>∃us,v=tup us/\J us w') Z Z hn (fun a ha=>qhb ha hcall hx hargs w) (hc.mono ?_) ?_
 ·rintro e w' ⟨us,rfl,h⟩;exact⟨_,rfl,us,rfl,h⟩
 ·rintro v w' ⟨us,rfl,h⟩;exact hk w' us h
theorem qvF{J:List Value->World->Prop}{f:FuncId}{fn:Func}{c:Code}{vs:List Value}{m:Nat}(hf:P.funcs[f]?=V fn)(hb:fn.body=V c)(hm:fn.ntmps=m)(hn:Nat.ble vs.length m=true)
  (h:Run P m (bodyPost P fn fun e w'=>∃us,e=.returned (tup us)/\J us w') [.code c] (argEnv 0 vs) w):RetW P f vs w J:=by
 subst hm;have hn':=jt hn;refine calls_of_wp hf hb ?_;have hag:Agree fn.ntmps (argEnv 0 vs) { tmps:=vs.toArray++Array.replicate (fn.ntmps-vs.toArray.size) undef,defers:=[] }:=by
  refine⟨rfl,by simp;omega,fun i v hi=>?_⟩;obtain⟨_,h2⟩:=qhL vs 0 i v hi;simp only[Nat.sub_zero] at h2;have hlt:=(List.getElem?_eq_some_iff.1 h2).1;rw[jC (by simpa using hlt)];simpa using h2
 have h1:=h _ hag;refine wp_mono h1 ?_;intro ex a' w' hq;cases ex<;>exact hq
theorem qB7{J:List Value->World->Prop}(hT:TabOk P T){fn:Func}(us:List Value)(hr:ResOk T e w fn.results.toList us)(h:J us w) :
  Run P n (bodyPost P fn fun e w'=>∃us,e=.returned (tup us)/\J us w') (.code .ret::k) e w:=
 qsE fun _ ha=>⟨ha.defers,tup us,qfv hT ha hr,us,rfl,h⟩
end
section
open Go.ChangeShapes Go.RowKit
variable{H:Type}{enc:TypeId×Value->H}{P:Program}{w:World}{base:Nat}{spare:Nat->Bool}{held:Bool}
end

section
variable{P:Program}{T:Tab}{n:Nat}{Q:Exit->Act->World->Prop}{k:List It}{e:Env}{w0 w w':World}{L:List Ch}
variable{α β:Type}[GoT α][GoT β]{S Sr Se D:Nat->Prop}{xs ys:List α}{p p':Option Addr}{c c':Nat}{fs:List Fct}{x:α}{cs:List Value}
theorem RAll.loc{A:Nat->Prop}:∀{xs:List α} {rs:List (Raw α)},RAll w A xs rs->(∀b,A b->w'.heap[b]?=w.heap[b]?)->RAll w' A xs rs
 | [],[],_,_=>trivial
 |_::_,[],h,_=>h.elim
 | [],_::_,h,_=>h.elim
 |_::_,_::_,h,hb=>⟨GoT.loc h.1 hb,RAll.loc h.2 hb⟩
theorem RAll.mono{A B:Nat->Prop}(hb:∀b,A b->B b):∀{xs:List α} {rs:List (Raw α)},RAll w A xs rs->RAll w B xs rs
 | [],[],_=>trivial
 |_::_,[],h=>h.elim
 | [],_::_,h=>h.elim
 |_::_,_::_,h=>⟨GoT.mono h.1 hb,RAll.mono hb h.2⟩
theorem RAll.app{A:Nat->Prop}:∀{xs:List α} {rs:List (Raw α)} {ys:List α} {qs:List (Raw α)},RAll w A xs rs->RAll w A ys qs->RAll w A (xs++ys) (rs++qs)
 | [],[],_,_,_,h=>h
 |_::_,[],_,_,h,_=>h.elim
 | [],_::_,_,_,h,_=>h.elim
 |_::_,_::_,_,_,h,h'=>⟨h.1,RAll.app h.2 h'⟩
theorem RAll.of{A:Nat->Prop}:∀{xs:List α} {rs:List (Raw α)},xs.length=rs.length->(∀(i:Nat) (x:α) (r:Raw α),xs[i]?=V x->rs[i]?=V r->GoT.R w A x r.cs)->RAll w A xs rs
 | [],[],_,_=>trivial
 |_::_,[],h,_=>by cases h
 | [],_::_,h,_=>by cases h
 |x::xs,r::rs,h,ha=>⟨ha 0 x r Z Z,RAll.of (by simpa using h) fun i y q hy hq=>ha (i+1) y q (by simpa using hy) (by simpa using hq)⟩
theorem RAll.len{A:Nat->Prop}{rs:List (Raw α)}(h:RAll w A xs rs):xs.length=rs.length:=h.at.1
end
end Go.Fw


namespace Go.Fw
open Go
end Go.Fw


namespace Go.Fw
open Go
open Go.RowKit (Below)
section
variable{P:Program}{T:Tab}{n:Nat}{Q:Exit->Act->World->Prop}{k:List It}{e:Env}{w0 w w':World}{L:List Ch}
end

section
variable{P:Program}{T:Tab}{n:Nat}{e:Env}{w:World}
def b3(a0:Bool)(a1 a2 a3:Int):Array Value:=#[.bool a0,.int .i64 a1,.int .i64 a2,.int .i64 a3]
end
end Go.Fw


namespace Go.Fw
open Go
section
variable{P:Program}{T:Tab}{n:Nat}{e:Env}{w:World}
end
end Go.Fw


namespace Go.Fw
open Go
open Go.RowKit (Below)
section
variable{P:Program}{T:Tab}{n:Nat}{Q:Exit->Act->World->Prop}{k:List It}{e:Env}{w0 w w':World}{L:List Ch}
variable{α β:Type}[GoT α][GoT β]{S Sr Se D:Nat->Prop}{xs ys:List α}{p p':Option Addr}{c c':Nat}{fs:List Fct}{x:α}{cs:List Value}
end

section
variable{w0 w w':World}{L LL F:List Ch}{c:Ch}{fs:List Fct}
theorem SH.unfr(k j:Nat)(h0:SH w0 w LL)(h:SH w0 w' L)(hl:L.getLast?=V (Ch.grp (Fw.old w0) (FS (LL.drop k)) fs))(hj:fs[j]?=V (same w0 w (LL.drop k))):SH w0 w' (L.dropLast++LL.drop k):=by
 refine SH.unframe (L0:=LL.take k) j (by rw[jX];exact h0) _ ?_ hj;have hne:L≠[]:=fun e=>by rw[e] at hl;cases hl
 rw[List.getLast?_eq_some_getLast hne] at hl;have e:=List.dropLast_concat_getLast hne;rw[Option.some.inj hl] at e;rw[e];exact h
end
section
variable{P:Program}{n:Nat}{Q:Exit->Act->World->Prop}{k:List It}
end

section
variable{P:Program}{T:Tab}{n:Nat}{Q:Exit->Act->World->Prop}{k:List It}{e:Env}{w0 w wc:World}{L:List Ch}
variable{α:Type}[GoT α]{S S1:Nat->Prop}{xs ys Y:List α}{x:α}{cs:List Value}{p p1 p':Option Addr}{c c1 c':Nat}
def Ch.pin(S:Nat->Prop)(wc:World):Ch where
 S:=S
 D _:=False
 P w:=∀b,S b->w.heap[b]?=wc.heap[b]?
 loc _ _ h _ hp:=fun b hb=>(h b hb).trans (hp b hb)
theorem SH.topinR(i:Nat)(h:SH w0 w L)(hi:L[i]?=V (Ch.own S x cs)):GoT.R w S x cs/\SH w0 w (L.set i (Ch.pin S w)):=
 ⟨GoT.toR (h.mem hi).1,h.say hi (fun _ _ _=>rfl) (fun _ h=>h) (fun _ h=>h.elim)⟩
theorem SH.topinL{ln:Nat}(i:Nat)(h:SH w0 w L)(hi:L[i]?=V (Ch.own S xs [.slice p ln c])):SlR w S xs p c/\SH w0 w (L.set i (Ch.pin S w)):=
 ⟨(qe9 (h.topinR i hi).1).1,(h.topinR i hi).2⟩
theorem SH.pinB(i:Nat)(h:SH w0 w L)(hi:L[i]?=V (Ch.pin S wc)){b:Nat}(hb:S b):w.heap[b]?=wc.heap[b]?:=(h.mem hi).1 b hb
theorem SH.pinC(i:Nat)(h:SH w0 w L)(hi:L[i]?=V (Ch.pin S wc)){b q:Nat}{ds:List Value}(hb:S b)(hc:CellsAt wc b q ds):CellsAt w b q ds:=hc.loc (h.pinB i hi hb)
theorem SH.pinS(i:Nat)(h:SH w0 w L)(hi:L[i]?=V (Ch.pin S wc))(hs:SlR wc S xs p c):SlR w (Fw.old w) xs p c:=
 (hs.loc fun _ hb=>h.pinB i hi hb).mono fun b hb=>((h.mem hi).2 b hb).2
theorem Rd.sub{rs:List (Raw α)}(h:Rd w0 Y rs){lo hi:Int}(hs:subS Y lo hi=V ys):∃qs,subS rs lo hi=V qs/\Rd w0 ys qs:=by
 obtain⟨h0,h1,h2,rfl⟩:=qnd hs;refine⟨(rs.take hi.toNat).drop lo.toNat,?_,?_,fun i x r hx hr=>?_⟩
 ·unfold subS;rw[if_pos ⟨h0,h1,by rw[h.1];exact h2⟩]
 ·simp[h.1]
 ·rw[Jg,jF] at hx hr;split at hx
  ·rename_i hlt
   rw[if_pos hlt] at hr;exact h.2 _ x r hx hr
  ·cases hx
def RdA(w0:World)(A:Nat->Prop)(xs:List α)(rs:List (Raw α)):Prop:=rs.length=xs.length/\∀(i:Nat) (x:α) (r:Raw α),xs[i]?=V x->rs[i]?=V r->GoT.R w0 A x r.cs
variable{A:Nat->Prop}
theorem RdA.app{rs qs:List (Raw α)}(h1:RdA w0 A xs rs)(h2:RdA w0 A ys qs):RdA w0 A (xs++ys) (rs++qs):=by
 refine⟨by simp[h1.1,h2.1],fun i x r hx hr=>?_⟩;by_cases hi:i<xs.length
 ·rw[jy hi] at hx;rw[jy (by rw[h1.1];exact hi)] at hr;exact h1.2 i x r hx hr
 ·rw[jB (by omega)] at hx;rw[jB (by rw[h1.1];omega),h1.1] at hr;exact h2.2 _ x r hx hr
theorem RdA.sub{rs:List (Raw α)}(h:RdA w0 A Y rs){lo hi:Int}(hs:subS Y lo hi=V ys):∃qs,subS rs lo hi=V qs/\RdA w0 A ys qs:=by
 obtain⟨h0,h1,h2,rfl⟩:=qnd hs;refine⟨(rs.take hi.toNat).drop lo.toNat,?_,?_,fun i x r hx hr=>?_⟩
 ·unfold subS;rw[if_pos ⟨h0,h1,by rw[h.1];exact h2⟩]
 ·simp[h.1]
 ·rw[Jg,jF] at hx hr;split at hx
  ·rename_i hlt
   rw[if_pos hlt] at hr;exact h.2 _ x r hx hr
  ·cases hx
def Ch.rowA(w0:World)(A S:Nat->Prop)(xs:List α)(p:Option Addr)(c:Nat):Ch where
 S:=S
 D _:=False
 P w:=∃rs:List (Raw α),RdA w0 A xs rs/\(Ch.own S rs [.slice p rs.length c]).P w
 loc w w' h h' hp:=by
  obtain⟨rs,h1,h2⟩:=hp
  exact⟨rs,h1,(Ch.own S rs [.slice p rs.length c]).loc w w' h h' h2⟩
theorem SH.toRowA{ln:Nat}(i:Nat)(h:SH w0 w L)(hi:L[i]?=V (Ch.own S ([]:List α) [.slice p ln c])):SH w0 w (L.set i (Ch.rowA w0 A S ([]:List α) p c)):=
 h.say (c':=Ch.rowA w0 A S ([]:List α) p c) hi (fun hp=>by
  obtain⟨p0,c0,he,h1,h2,h3⟩:=hp;simp only[List.cons.injEq,Value.slice.injEq,and_true] at he;obtain⟨rfl,_,rfl⟩:=he;refine⟨[],⟨rfl,fun i x r hx=>by simp at hx⟩,p,c,rfl,by simp,h2,?_⟩;rcases h3 with⟨rfl,_,rfl⟩|⟨b,cur,T,F,rfl,hb,hg,hcur,_,_,_⟩
  ·exact .inl ⟨rfl,rfl,rfl⟩
  ·exact .inr ⟨b,cur,T,fun _ _=>False,rfl,hb,hg,hcur,fun _ _ h=>h.elim,fun _ _ _ _ h=>h.elim,fun i x hx=>by simp at hx⟩) (fun _ h=>h) (fun _ h=>h.elim)
theorem SH.atA(h:SH w0 w L)(i:Nat)(hi:L[i]?=V (Ch.rowA w0 A S xs p c)){iv:Int}(hx:idx xs iv=V x) :
  ∃b o q cs,p=V ⟨b,o,U⟩/\q=o+iv.toNat*GoT.k α/\True/\GoT.R w0 A x cs/\CellsAt w b q cs:=by
 obtain⟨rs,hd,hp⟩:=(h.mem hi).1;obtain⟨g0,g1,g2⟩:=qaO hx;have hlt:iv.toNat<rs.length:=by rw[hd.1];omega
 have hri:idx rs iv=V rs[iv.toNat]:=by
  unfold idx;rw[if_pos g0];exact jh hlt
 have h3:GoT.O w S rs [.slice p rs.length c]:=hp;obtain⟨b,o,q,cs,hpp,hq,_,hc,hcells⟩:=(qe9 (GoT.toR h3)).1.at hri;obtain rfl:cs=rs[iv.toNat].cs:=hc.1;exact⟨b,o,q,_,hpp,hq,trivial,hd.2 _ x _ g2 (jh hlt),hcells⟩
theorem RdA.all{rs:List (Raw α)}(h:RdA w0 A xs rs)(hb:Below w0.heap.size w0 w)(hA:∀b,A b->Fw.old w0 b):RAll w A xs rs:=
 RAll.of h.1.symm fun i x r hx hr=>GoT.loc (h.2 i x r hx hr) fun b hb'=>hb.block b (hA b hb')
theorem SH.rowAR(hA:∀b,A b->Fw.old w0 b)(i:Nat)(h:SH w0 w L)(hi:L[i]?=V (Ch.rowA w0 A S xs p c)):SlR w (reg A w0 w) xs p c:=by
 obtain⟨rs,hd,hp⟩:=(h.mem hi).1;have h3:GoT.O w S rs [.slice p rs.length c]:=hp;have hr:=(hd.all h.below hA).mono (B:=reg A w0 w) (fun b hb=>.inl hb);have:=rawsR (A:=reg A w0 w) (GoT.mono (GoT.toR h3) fun b hb=>.inr ((h.mem hi).2 b hb)) hr;exact(qe9 this).1
theorem qBY(hT:TabOk P T){all:Array Oper}{l:List Oper}{d t ty el:Nat}{ps:String}{af:Array Edge}{a b:Operand}{z:List α}{ln ln':Nat}{te te':TE}{zv:Value}
  (h:SH w0 w (Ch.rowA w0 A S1 ys p' c'::Ch.rowA w0 A S xs p c::L)) (hl:ln=xs.length) (hl':ln'=ys.length) (hx:opv e a=V (.slice p ln c)) (hy:opv e b=V (.slice p' ln' c'))
  (hte:T.get t=V te) (hk:te.kind=.slice el) (hel:T.get el=V te') (hz:te'.zero=V zv) (hzs:(cellsL zv).length=te'.size) (hsz:te'.size=GoT.k α)
  (hb:Nat.ble te'.bytes 65536=true) (hbig:xs.length+ys.length<=big) (hz':xs++ys=z) (hn:Nat.blt d n=true)
  (hkk:∀w' p2 c2 S2,SH w0 w' (Ch.rowA w0 A S2 z p2 c2::L)->Run P n Q (.ops all l::k) ((d,.slice p2 z.length c2)::e) w') :
  Run P n Q (.ops all (⟨V d,.call ⟨.builtin .append,#[a,b],#[t,t]⟩,ty,ps,af,U⟩::l)::k) e w:=by
 subst hz' hl hl';obtain⟨rs,hd,hp⟩:=(h.mem (i:=1) Z).1;obtain⟨qs,hq,hp'⟩:=(h.mem (i:=0) Z).1;have h1:=h.say (i:=1) (c':=Ch.own S rs [.slice p rs.length c]) Z (fun _=>hp) (fun _ h=>h) (fun _ h=>h.elim);have h2:=h1.say (i:=0) (c':=Ch.own S1 qs [.slice p' qs.length c']) Z (fun _=>hp') (fun _ h=>h) (fun _ h=>h.elim);have hs:=(h2.sl 0 Z).1;refine qxR hT (α:=Raw α) 1 h2 Z hs hq.1.symm (by rw[hd.1];exact hx) hy hte hk hel hz hzs hsz hb (by rw[hd.1,hq.1];exact hbig) hn (fun w' p2 c2 S2 h3=>?_);have h4:SH w0 w' (Ch.own S2 (rs++qs) [.slice p2 (rs.length+qs.length) c2]::L):=SH.tail h3;have h5:=h4.say (i:=0) (c':=Ch.rowA w0 A S2 (xs++ys) p2 c2) Z (fun hp=>⟨rs++qs,hd.app hq,by rw[jg];exact hp⟩) (fun _ h=>h) (fun _ h=>h.elim);have:=hkk w' p2 c2 S2 h5;rw[jg] at this;rw[hd.1,hq.1];exact this
theorem qxZ(hT:TabOk P T){all:Array Oper}{l:List Oper}{d t ty el:Nat}{ps:String}{af:Array Edge}{a b:Operand}{z:List α}{ln ln':Nat}{te te':TE}{zv:Value}{lo hi:Int}
  (h:SH w0 w (Ch.rowA w0 A S xs p c::Ch.rowA w0 A S1 Y p1 c1::L)) (hs:subS Y lo hi=V ys) (hp1:subP (GoT.k α) p1 c1 lo.toNat=p') (hc1:c1-lo.toNat=c') (hl:ln=xs.length) (hl':ln'=ys.length) (hx:opv e a=V (.slice p ln c)) (hy:opv e b=V (.slice p' ln' c'))
  (hte:T.get t=V te) (hk:te.kind=.slice el) (hel:T.get el=V te') (hz:te'.zero=V zv) (hzs:(cellsL zv).length=te'.size) (hsz:te'.size=GoT.k α)
  (hb:Nat.ble te'.bytes 65536=true) (hbig:xs.length+ys.length<=big) (hz':xs++ys=z) (hn:Nat.blt d n=true)
  (hkk:∀w' p2 c2 S2,SH w0 w' (Ch.rowA w0 A S2 z p2 c2::Ch.rowA w0 A S1 Y p1 c1::L)->Run P n Q (.ops all l::k) ((d,.slice p2 z.length c2)::e) w') :
  Run P n Q (.ops all (⟨V d,.call ⟨.builtin .append,#[a,b],#[t,t]⟩,ty,ps,af,U⟩::l)::k) e w:=by
 subst hz' hl hl';obtain⟨rs,hd,hp⟩:=(h.mem (i:=0) Z).1;obtain⟨Rs,hD,hP⟩:=(h.mem (i:=1) Z).1;obtain⟨qs,hq1,hq⟩:=hD.sub hs;have h1:=h.say (i:=0) (c':=Ch.own S rs [.slice p rs.length c]) Z (fun _=>hp) (fun _ h=>h) (fun _ h=>h.elim);have h2:=h1.say (i:=1) (c':=Ch.own S1 Rs [.slice p1 Rs.length c1]) Z (fun _=>hP) (fun _ h=>h) (fun _ h=>h.elim);have hss:SlR w (Fw.old w) qs p' c':=qwS (α:=Raw α) (h2.sl 1 Z).1 hq1 hp1 hc1;refine qxR hT (α:=Raw α) 0 h2 Z hss hq.1.symm (by rw[hd.1];exact hx) hy hte hk hel hz hzs hsz hb (by rw[hd.1,hq.1];exact hbig) hn (fun w' p2 c2 S2 h3=>?_);have h4:SH w0 w' (Ch.own S2 (rs++qs) [.slice p2 (rs.length+qs.length) c2]::Ch.own S1 Rs [.slice p1 Rs.length c1]::L):=h3;have h5:=h4.say (i:=0) (c':=Ch.rowA w0 A S2 (xs++ys) p2 c2) Z (fun hp=>⟨rs++qs,hd.app hq,by rw[jg];exact hp⟩) (fun _ h=>h) (fun _ h=>h.elim);have h6:=h5.say (i:=1) (c':=Ch.rowA w0 A S1 Y p1 c1) Z (fun hp=>⟨Rs,hD,hp⟩) (fun _ h=>h) (fun _ h=>h.elim);have:=hkk w' p2 c2 S2 h6;rw[jg] at this;rw[hd.1,hq.1];exact this
theorem qyA(hT:TabOk P T){A:Nat->Prop}{all:Array Oper}{l:List Oper}{d t ty el len:Nat}{ps:String}{af:Array Edge}{parts:Array (Nat×Operand)}{te te':TE}{zv:Value}(os:List Operand)(vs:List Value)(ys:List α)
  (h:SH w0 w L) (hparts:parts.toList=(os.zipIdx 0).map fun x=>(x.2,x.1)) (hvs:opvs e os=V vs) (hlen:len=vs.length)
  (hte:T.get t=V te) (hk:te.kind=.slice el) (hel:T.get el=V te') (hz:te'.zero=V zv) (hsz:te'.size=GoT.k α) (hsmall:Nat.ble (vs.length*te'.size) 16777216=true)
  (hc:Cells2 w0 A ys (vs.map cellsL)) (hn:Nat.blt d n=true)
  (hkk:∀w' p S,SH w0 w' (Ch.rowA w0 A S ys p len::L)->Run P n Q (.ops all l::k) ((d,.slice p len len)::e) w') :
  Run P n Q (.ops all (⟨V d,.buildSlice t len parts,ty,ps,af,U⟩::l)::k) e w:=by
 have hlenys:∀{ys:List α} {cs:List (List Value)},Cells2 w0 A ys cs->ys.length=cs.length/\∀c∈cs,c.length=GoT.k α:=by
  intro ys
  induction ys with
  |nil=>intro cs hc;cases cs with
   |nil=>simp
   |cons=>exact hc.elim
  |cons y ys ih=>
   intro cs hc;cases cs with
   |nil=>exact hc.elim
   |cons c cs=>
    obtain⟨h1,h2⟩:=hc;have:=ih h2;refine⟨by simp[this.1],fun d hd=>?_⟩;rcases List.mem_cons.1 hd with rfl|hd
    ·exact GoT.len h1
    ·exact this.2 d hd
 obtain⟨hl1,hl2⟩:=hlenys hc;have hcs:∀v∈vs,(cellsL v).length=te'.size:=fun v hv=>by rw[hsz];exact hl2 _ (List.mem_map.2 ⟨v,hv,rfl⟩)
 have hr:=qnW hT vs hte hk hel hz (jt hsmall) hcs w;subst hlen;obtain⟨hfl,hfe⟩:=hc.get;have hl3:ys.length=vs.length:=by simpa using hl1
 refine qn6 (v:=.slice (V ⟨w.heap.size,0,U⟩) vs.length vs.length) (w':=w.alloc (.cells (vs.map cellsL).flatten.toArray el)) Z Z hn (fun a ha=>?_)
  (hkk _ _ (fun b=>b=w.heap.size) (h.add ((Below.refl _ _).alloc (je _) _) ?_ ?_ (fun _ hd=>hd.elim)))
 ·have hev:parts.map (fun(x:Nat×Operand)=>(x.1,a.eval x.2))=((vs.zipIdx 0).map fun x=>(x.2,x.1)).toArray:=by
   apply Array.ext';rw[Array.toList_map,hparts];have:=qi5 ha hvs;subst this;rw[List.zipIdx_map,Jq,Jq]
   rfl
  simp only[execOp,hev,jj,hr,ji,jk]
 ·have hsm:vs.length<=maxLen:=by
   have h1:=jt hsmall;have h2:vs.length*1<=vs.length*te'.size:=Nat.mul_le_mul_left _ (by rw[hsz];exact GoT.kpos);simp[maxLen];omega
  obtain⟨rs,hl,hr⟩:=qxH (p:=fun i x (r:Raw α)=>GoT.R w0 A x r.cs/\∀j v,r.cs[j]?=V v->(vs.map cellsL).flatten[i*GoT.k α+j]?=V v) ys (fun i x hi=>by
   obtain⟨cs,h1,h2⟩:=hfe i x hi;exact⟨⟨cs⟩,h1,h2⟩)
  refine⟨rs,⟨hl,fun i x r hi hr'=>(hr i x r hi hr').1⟩,V ⟨w.heap.size,0,U⟩,vs.length,by rw[hl,hl3],by rw[hl,hl3];exact je _,hsm,.inr ⟨w.heap.size,_,el,fun _ _=>False,rfl,rfl,heap_alloc_new w _,by rw[jQ,hfl,hl3];rfl,fun _ _ h=>h.elim,fun _ _ _ _ h=>h.elim,fun i r hi=>?_⟩⟩;have hi':i<ys.length:=by have:=(List.getElem?_eq_some_iff.1 hi).1;omega
  obtain⟨q1,q2⟩:=hr i ys[i] r (jh hi') hi;exact⟨r.cs,⟨rfl,GoT.len q1,GoT.one q1⟩,fun j v hj=>by have:=q2 j v hj;rw[jK];exact this⟩
 ·intro b hb;have:b=w.heap.size:=hb;subst this;exact⟨je _,by simp⟩
end
section
variable{P:Program}{T:Tab}{n:Nat}{Q:Exit->Act->World->Prop}{k:List It}{e:Env}{w0 w w00:World}{L:List Ch}{α β:Type}[GoT α][GoT β]{A0 B S:Nat->Prop}{x:α}{y:β}{cs ds:List Value}{ys:List β}{p:Option Addr}{c:Nat}
theorem Rg.inPo(hg:Rg A0 w00 B w0)(h:SH w0 w L)(hr:GoT.R w0 B y ds):GoT.R w (fun b=>S b\/B b) y ds:=GoT.mono (hg.inBR h hr) fun _ hb=>.inr hb
theorem SH.ownG(i:Nat)(h:SH w0 w L)(hi:L[i]?=V (Ch.own S x cs)):GoT.R w (fun b=>S b\/B b) x cs:=GoT.mono (GoT.toR (h.mem hi).1) fun _ hb=>.inl hb
theorem Rg.atPo(hg:Rg A0 w00 B w0)(i:Nat)(h:SH w0 w L)(hi:L[i]?=V (Ch.own S x cs)):∀b,(S b\/B b)->Fw.old w b:=fun b hb=>hb.elim (fun h1=>((h.mem hi).2 b h1).2) (hg.atB h b)
theorem qsu{ρ:Type}[GoRs ρ][MonoRs ρ](r:ρ){all:Array Oper}{l:List Oper}{d ty:Nat}{ps:String}{af:Array Edge}{a:Operand}{args:Array Operand}{ats:Array TypeId}{f:FuncId}{fi ca:Array Value}{az vs:List Value}
  (i:Nat) (hg:Rg A0 w00 B w0) (h:SH w0 w L) (hi:L[i]?=V (Ch.own S x cs)) (hcall:qdZ P f) (hc:RetG P f vs w (fun b=>S b\/B b) r) (hx:opv e a=V (.func (.func f) fi ca)) (hargs:opvs e args.toList=V az) (hvs:fi.toList++az++ca.toList=vs) (hn:Nat.blt d n=true)
  (hk:∀w1 us S',SH w0 w1 (L.set i (Ch.grp B S' []))->GoRs.Rs w1 (fun b=>S' b\/B b) r us->Run P n Q (.ops all l::k) ((d,tup us)::e) w1) :
  Run P n Q (.ops all (⟨V d,.call ⟨.value a,args,ats⟩,ty,ps,af,U⟩::l)::k) e w:=by
 subst hvs;refine qlo (R:=fun v w'=>Below w.heap.size w w'/\∃us,v=tup us/\GoRs.Rs w' (reg (fun b=>S b\/B b) w w') r us) Z Z hn (fun a ha=>qhb ha hcall hx hargs w) hc ?_;rintro v w' ⟨hb,us,rfl,hv⟩;refine hk w' us (fun b=>S b\/fresh w w' b) (h.upd (c':=Ch.grp B (fun b=>S b\/fresh w w' b) []) hi hb.os hb.tape hb.output hb.size (fun b hlt _=>hb.block b hlt) (fun f hf=>by cases hf) (fun b hb=>hb) (fun b hb'=>hg.old b hb')) (MonoRs.mono hv ?_);rintro b ((hb1|hb1)|hb1)
 ·exact .inl (.inl hb1)
 ·exact .inr hb1
 ·exact .inl (.inr hb1)
end
end Go.Fw


namespace Go.Fw
open Go Go.Sort
open Go.RowKit (Below)
section
variable{P:Program}{T:Tab}{n:Nat}{Q:Exit->Act->World->Prop}{k:List It}{e:Env}{w0 w w':World}{L L':List Ch}
def ReversesAt(P:Program)(f:FuncId):Prop:=
 (∀(blk off cap:Nat) (zs:List Int) (w:World),Holds encI w blk off zs.toArray->zs.length<=9223372036854775807 ->
  Calls P f #[.slice (V ⟨blk,off,U⟩) zs.length cap] w fun e w'=>e=.returned (.tuple #[])/\∃n,w'=putRow encI (Go.Sort.ahead w n) blk off zs.reverse.toArray) /\
 ∀(p:Option Addr) (cap:Nat) (w:World),Calls P f #[.slice p 0 cap] w fun e w'=>e=.returned (.tuple #[])/\w'=w
def revS(xs:List Int):Option (List Int):=V xs.reverse
theorem qCm{f:FuncId}(hs:ReversesAt P f){S:Nat->Prop}{xs y:List Int}{p:Option Addr}{ln c:Nat}(i:Nat)(h:SH w0 w L)(hi:L[i]?=V (Ch.own S xs [.slice p ln c]))(hy:revS xs=V y) :
  RetU P f [.slice p ln c] w fun w'=>SH w0 w' (L.set i (Ch.own S y [.slice p ln c])):=by
 obtain rfl:xs.reverse=y:=Option.some.inj hy;cases p with
 |none=>
  obtain⟨rfl,rfl,rfl⟩:=qAR h hi;refine(hs.2 U 0 w).mono ?_;rintro e w' ⟨rfl,rfl⟩;refine⟨rfl,?_⟩;rw[List.reverse_nil,qtI hi];exact h
 |some a=>
  obtain⟨b,o,sp⟩:=a;obtain rfl:=qAq h hi;obtain⟨rfl,rfl,hc,hbig,hbs,hH⟩:=qye h hi;refine(hs.1 b 0 c xs w hH hbig).mono ?_;rintro e w' ⟨rfl,nd,rfl⟩;refine⟨rfl,?_⟩;have:=qBr h hi xs.reverse.toArray (by simp) (m:=xs.length) (by simp) nd #[];rw[grow_empty,List.toList_toArray,show xs.length=xs.reverse.length by simp,jE,List.length_reverse] at this;exact this
section
variable{α:Type}[GoT α]
def SortFAt(P:Program)(f g:FuncId)(kk:Nat):Prop:=
 (∀(enc:Nat->List Value) (_:∀x,(enc x).length=kk) (_:∀x,∀v∈enc x,v.oneCell'=true) (cf:Nat->Nat->Int) (_:SWO fun x y=>decide (cf x y<0)) (cb:Array Value) (blk off cap:Nat) (d:Array Nat) (w:World),
  (∀(m:Nat) (os:Array Obj) (dk:Array Nat),dk.size=d.size->∀x y:Nat,Calls P g (#[.agg (enc x).toArray,.agg (enc y).toArray]++cb) (grow (putRow id (Go.Sort.ahead w m) blk off (flatK enc kk dk)) os) fun e w'=>
   e=.returned (.int .i64 (cf x y))/\∃q os',w'=grow ((grow (putRow id (Go.Sort.ahead w m) blk off (flatK enc kk dk)) os).drewN q) os') ->
  Holds id w blk off (flatK enc kk d)->blk<w.heap.size->d.size<4611686018427387904 ->
  Calls P f #[.slice (V ⟨blk,off,U⟩) d.size cap,.func (.func g) #[] cb] w fun e w'=>e=.returned (.tuple #[])/\∃d' n os,PermIn 0 d.size d d'/\SortedIn (fun x y=>decide (cf x y<0)) 0 d.size d'/\w'=grow (putRow id (Go.Sort.ahead w n) blk off (flatK enc kk d')) os) /\
 ∀(p:Option Addr) (cap:Nat) (fv:Value) (w:World),Calls P f #[.slice p 0 cap,fv] w fun e w'=>e=.returned (.tuple #[])/\w'=w
theorem qza(hb:Below w.heap.size w w')(hd:w.drawn<=w'.drawn):∃q os',w'=grow (w.drewN q) os':=by
 obtain⟨p,rfl⟩:=regrown_of_below hb;have hd':w.drawn<=p.d:=hd;refine⟨p.d-w.drawn,p.os,?_⟩;have:redrawn w p.d=w.drewN (p.d-w.drawn):=by
  show { w with drawn:=p.d }={ w with drawn:=w.drawn+(p.d-w.drawn) };rw[Nat.add_sub_cancel' hd']
 rw[this]
theorem qqx{b:Nat}{d:Array Value}{m:Nat}{os:Array Obj}{a:Nat}(ha:a<w.heap.size)(hne:a≠b):(grow (putRow id (Go.Sort.ahead w m) b 0 d) os).heap[a]?=w.heap[a]?:=by
 have hheap:(grow (putRow id (Go.Sort.ahead w m) b 0 d) os).heap=w.heap.modify b (onCells (putCells id 0 d))++os:=rfl;rw[hheap,jC (by rw[Array.size_modify];exact ha),Array.getElem?_modify,if_neg (fun h=>hne h.symm)]
def leF(cmp:α->α->Int)(x y:α):Bool:=!decide (cmp y x<0)
theorem qAK{f g:FuncId}(hs:SortFAt P f g (GoT.k α))(hag:GoT.agg α=true){S:Nat->Prop}{xs:List α}{p:Option Addr}{ln c:Nat}(i:Nat)(h:SH w0 w L)(hi:L[i]?=V (Ch.own S xs [.slice p ln c]))(cb:List Value)(cmp:α->α->Int)
  (hO:SWO fun x y=>decide (cmp x y<0)) (hT:∀x y,x∈xs->y∈xs->¬ cmp x y<0->¬ cmp y x<0->x=y) (hl:xs.length<=2147483648)
  (hcap:∀w1,w.heap.size<=w1.heap.size->(∀b,b<w.heap.size->¬ S b->w1.heap[b]?=w.heap[b]?)->∀x y csx csy,x∈GoT.zero::xs->y∈GoT.zero::xs->GoT.R w1 (Fw.old w1) x csx->GoT.R w1 (Fw.old w1) y csy ->
   Calls P g ([GoT.v α csx,GoT.v α csy]++cb).toArray w1 fun e w'=>e=.returned (.int .i64 (cmp x y))/\Below w1.heap.size w1 w'/\w1.drawn<=w'.drawn) :
  RetU P f [.slice p ln c,.func (.func g) #[] cb.toArray] w fun w'=>SH w0 w' (L.set i (Ch.own S (xs.mergeSort (leF cmp)) [.slice p ln c])):=by
 obtain⟨hp,hS⟩:=h.mem hi;obtain⟨p0,c0,he,h1,h2,h3⟩:=hp;simp only[List.cons.injEq,Value.slice.injEq,and_true] at he;obtain⟨rfl,rfl,rfl⟩:=he;rcases h3 with⟨rfl,rfl,rfl⟩|⟨b,cur,t,F,rfl,hSb,hg,hc,hF,hdj,hx⟩
 ·refine(hs.2 U 0 _ w).mono ?_;rintro e w' ⟨rfl,rfl⟩;refine⟨rfl,?_⟩;have e1:([]:List α).mergeSort (leF cmp)=[]:=by simp
  rw[e1,qtI hi];exact h
 ·obtain⟨rs,hrl,hr⟩:=qxH (p:=fun i x (r:List Value)=>GoT.O w (F i) x r/\∀j v,r[j]?=V v->cur[i*GoT.k α+j]?=V v) xs hx;have hbs:b<w.heap.size:=(hS b hSb).2;have hkpos:0<GoT.k α:=GoT.kpos
  let enc:Nat->List Value:=fun n=>(rs[n]?).getD (GoT.zc α)
  let xf:Nat->α:=fun n=>(xs[n]?).getD GoT.zero
  have hzc:(GoT.zc α).length=GoT.k α:=GoT.len (GoT.toR (GoT.zO w (fun _=>False) (α:=α)));have hO1:∀n,n<xs.length->∃hn:n<xs.length,∃hn':n<rs.length,enc n=rs[n]/\xf n=xs[n]/\GoT.O w (F n) xs[n] rs[n]/\∀j v,rs[n][j]?=V v->cur[n*GoT.k α+j]?=V v:=fun n hn=>by
   have hn':n<rs.length:=by omega
   obtain⟨q1,q2⟩:=hr n xs[n] rs[n] (jh hn) (jh hn');exact⟨hn,hn',by simp[enc,hn'],by simp[xf,hn],q1,q2⟩
  have hencz:∀n,¬ n<xs.length->enc n=GoT.zc α/\xf n=GoT.zero:=fun n hn=>by
   have e1:rs[n]?=U:=List.getElem?_eq_none (by omega);have e2:xs[n]?=U:=List.getElem?_eq_none (by omega);exact⟨by simp[enc,e1],by simp[xf,e2]⟩
  have hk:∀n,(enc n).length=GoT.k α:=fun n=>by
   by_cases hn:n<xs.length
   ·obtain⟨_,_,e1,_,hO',_⟩:=hO1 n hn;rw[e1];exact GoT.len (GoT.toR hO')
   ·rw[(hencz n hn).1,hzc]
  have hone:∀n,∀v∈enc n,v.oneCell'=true:=fun n=>by
   by_cases hn:n<xs.length
   ·obtain⟨_,_,e1,_,hO',_⟩:=hO1 n hn;rw[e1];exact GoT.one (GoT.toR hO')
   ·rw[(hencz n hn).1];exact GoT.one (GoT.toR (GoT.zO w (fun _=>False) (α:=α)))
  have hmem:∀n,xf n∈GoT.zero::xs:=fun n=>by
   by_cases hn:n<xs.length
   ·obtain⟨_,_,_,e2,_⟩:=hO1 n hn;rw[e2];exact jo _ (jp hn)
   ·rw[(hencz n hn).2];exact jx ..
  have hswo:SWO fun x y=>decide (cmp (xf x) (xf y)<0):=⟨fun x=>hO.irrefl (xf x),fun x y z=>hO.trans (xf x) (xf y) (xf z),fun x y z=>hO.ntrans (xf x) (xf y) (xf z)⟩
  let d:Array Nat:=Array.range xs.length
  have hds:d.size=xs.length:=by simp[d]
  have hflat:∀(dk:Array Nat) (q j:Nat),q<dk.size->j<GoT.k α->(flatK enc (GoT.k α) dk)[q*GoT.k α+j]?=(enc dk[q]!)[j]?:=fun dk q j hq hj=>by
   have hlt:q*GoT.k α+j<dk.size*GoT.k α:=by
    have:(q+1)*GoT.k α<=dk.size*GoT.k α:=jv _ hq;rw[Nat.add_mul,Nat.one_mul] at this;omega
   have hdiv:(q*GoT.k α+j) / GoT.k α=q:=by
    rw[Nat.mul_comm,Nat.mul_add_div hkpos,Nat.div_eq_of_lt hj,Jj]
   have hmod:(q*GoT.k α+j) % GoT.k α=j:=by
    rw[Nat.mul_comm,Nat.mul_add_mod,Nat.mod_eq_of_lt hj]
   have:=get_flatK enc (GoT.k α) dk (q*GoT.k α+j) hlt;rw[hdiv,hmod] at this;have hj':j<(enc dk[q]!).length:=by rw[hk];exact hj
   have hsz:q*GoT.k α+j<(flatK enc (GoT.k α) dk).size:=by rw[size_flatK];exact hlt
   rw[jT hsz,jh hj',<-getElem!_pos (flatK enc (GoT.k α) dk) _ hsz,this,getElem!_pos (enc dk[q]!) j hj']
  have hcs:∀q j,q<xs.length->j<GoT.k α->cur[q*GoT.k α+j]?=(enc q)[j]?:=fun q j hq hj=>by
   obtain⟨_,hn',e1,_,_,hv⟩:=hO1 q hq;have hj':j<(rs[q]).length:=by rw[<-e1,hk];exact hj
   rw[e1,jh hj'];exact hv j _ (jh hj')
  have hH:Holds id w b 0 (flatK enc (GoT.k α) d):=fun t ht=>by
   rw[size_flatK,hds] at ht;have hq:t / GoT.k α<xs.length:=Nat.div_lt_of_lt_mul (by rw[Nat.mul_comm];exact ht);have hj:t % GoT.k α<GoT.k α:=Nat.mod_lt _ hkpos;have ht':t / GoT.k α*GoT.k α+t % GoT.k α=t:=by rw[Nat.mul_comm];exact Nat.div_add_mod t _
   have hd1:d[t / GoT.k α]! = t / GoT.k α:=by
    rw[getElem!_pos d _ (by rw[hds];exact hq)];simp[d]
   have e1:=hcs _ _ hq hj;have e2:=hflat d _ _ (by rw[hds];exact hq) hj;rw[ht',hd1] at e2;rw[ht'] at e1;have hts:t<(flatK enc (GoT.k α) d).size:=by rw[size_flatK,hds];exact ht
   refine⟨?_,?_⟩
   ·simp only[World.cell?,hg,Option.isSome_none,jY,Bool.false_eq_true,if_false];rw[e1,<-e2,jT hts,getElem!_pos (flatK enc (GoT.k α) d) t hts]
    rfl
   ·simp only[World.frozen?,hg];simp
  have hcmp:∀(m:Nat) (os:Array Obj) (dk:Array Nat),dk.size=d.size->∀x y:Nat,Calls P g (#[.agg (enc x).toArray,.agg (enc y).toArray]++cb.toArray) (grow (putRow id (Go.Sort.ahead w m) b 0 (flatK enc (GoT.k α) dk)) os) fun e w'=>
    e=.returned (.int .i64 (cmp (xf x) (xf y)))/\∃q os',w'=grow ((grow (putRow id (Go.Sort.ahead w m) b 0 (flatK enc (GoT.k α) dk)) os).drewN q) os':=by
   intro m os dk _ x y;have hsz:w.heap.size<=(grow (putRow id (Go.Sort.ahead w m) b 0 (flatK enc (GoT.k α) dk)) os).heap.size:=by
    show w.heap.size<=(w.heap.modify b _++os).size;simp
   have hRd:∀n,GoT.R (grow (putRow id (Go.Sort.ahead w m) b 0 (flatK enc (GoT.k α) dk)) os) (Fw.old (grow (putRow id (Go.Sort.ahead w m) b 0 (flatK enc (GoT.k α) dk)) os)) (xf n) (enc n):=fun n=>by
    by_cases hn:n<xs.length
    ·obtain⟨_,_,e1,e2,hO',_⟩:=hO1 n hn;rw[e1,e2];refine GoT.mono (GoT.loc (GoT.toR hO') fun a ha=>qqx ((hS a (hF n a ha).1).2) (hF n a ha).2) fun a ha=>?_;exact jA ((hS a (hF n a ha).1).2) hsz
    ·rw[(hencz n hn).1,(hencz n hn).2];exact GoT.toR (GoT.zO _ _)
   have:=hcap _ hsz (fun a ha hna=>qqx ha (fun hab=>hna (hab ▸ hSb))) (xf x) (xf y) (enc x) (enc y) (hmem x) (hmem y) (hRd x) (hRd y);have ea:([GoT.v α (enc x),GoT.v α (enc y)]++cb).toArray=#[.agg (enc x).toArray,.agg (enc y).toArray]++cb.toArray:=by
    unfold GoT.v mkV;rw[hag];simp
   rw[ea] at this;refine this.mono ?_;rintro e w' ⟨rfl,hb',hd'⟩;exact⟨rfl,qza hb' hd'⟩
  have hcall:=hs.1 enc hk hone (fun x y=>cmp (xf x) (xf y)) hswo cb.toArray b 0 c d w hcmp hH hbs (by rw[hds];omega);rw[hds] at hcall;refine hcall.mono ?_;rintro e w' ⟨rfl,d',nd,os,hperm,hsorted,rfl⟩;refine⟨rfl,?_⟩;obtain⟨hsz',_,hpm⟩:=hperm;have ed:d'.extract 0 xs.length=d':=by rw[<-hds,<-hsz'];exact Array.extract_size
  have ed0:d.extract 0 xs.length=d:=by rw[<-hds];exact Array.extract_size
  rw[ed,ed0] at hpm;have hdr:d.toList=List.range xs.length:=by simp[d]
  rw[hdr] at hpm;have hd'l:d'.toList.length=xs.length:=by rw[Array.length_toList,hsz',hds]
  have hnd:d'.toList.Nodup:=hpm.nodup_iff.2 List.nodup_range;have hin:∀q,q<xs.length->d'[q]!<xs.length/\d'.toList[q]?=V d'[q]!:=fun q hq=>by
   have hq':q<d'.size:=by rw[hsz',hds];exact hq
   have e1:d'.toList[q]?=V d'[q]!:=by rw[Array.getElem?_toList,jT hq',getElem!_pos d' q hq']
   have:d'[q]!∈List.range xs.length:=hpm.mem_iff.1 (jM e1);exact⟨List.mem_range.1 this,e1⟩
  have hxs:(List.range xs.length).map xf=xs:=by
   apply List.ext_getElem?;intro q;rw[List.getElem?_map];by_cases hq:q<xs.length
   ·rw[List.getElem?_range hq,jh hq];simp[xf,hq]
   ·rw[List.getElem?_eq_none (by simp;omega),List.getElem?_eq_none (by omega)];rfl
  have hres:d'.toList.map xf=xs.mergeSort (leF cmp):=by
   have hp2:(d'.toList.map xf).Perm (xs.mergeSort (leF cmp)):=by
    have:=hpm.map xf;rw[hxs] at this;exact this.trans (List.mergeSort_perm _ _).symm
   refine List.Perm.eq_of_pairwise (le:=fun x y=>leF cmp x y=true) ?_ ?_ ?_ hp2
   ·intro x y hx' hy' h1' h2';have mx:x∈xs:=(List.mergeSort_perm xs (leF cmp)).mem_iff.1 (hp2.mem_iff.1 hx');have my:y∈xs:=(List.mergeSort_perm xs (leF cmp)).mem_iff.1 hy';simp only[leF,jI,decide_eq_false_iff_not] at h1' h2';exact hT x y mx my h2' h1'
   ·rw[List.pairwise_iff_getElem];intro q r hq hr hqr;have hq':q<xs.length:=by rw[ju,hd'l] at hq;exact hq
    have hr':r<xs.length:=by rw[ju,hd'l] at hr;exact hr
    have hs':=hsorted q r (Nat.zero_le _) hqr hr';have e1:d'.toList[q]'(by rw[hd'l];exact hq')=d'[q]!:=Option.some.inj ((jh _).symm.trans (hin q hq').2);have e2:d'.toList[r]'(by rw[hd'l];exact hr')=d'[r]!:=Option.some.inj ((jh _).symm.trans (hin r hr').2);rw[List.getElem_map,List.getElem_map,e1,e2];simp only[leF,jI];exact hs'
   ·refine List.pairwise_mergeSort ?_ ?_ _
    ·intro a b' c' h1' h2';simp only[leF,jI] at h1' h2'⊢;exact hO.ntrans c' b' a h2' h1'
    ·intro a b';cases hh:decide (cmp b' a<0) with
     |false=>simp[leF,hh]
     |true=>
      have:decide (cmp a b'<0)=false:=by
       cases h2':decide (cmp a b'<0) with
       |false=>rfl
       |true=>
        have:=hO.trans a b' a h2' hh;rw[hO.irrefl a] at this;cases this
      simp[leF,this]
  have hheap:(grow (putRow id (Go.Sort.ahead w nd) b 0 (flatK enc (GoT.k α) d')) os).heap=w.heap.modify b (onCells (putCells id 0 (flatK enc (GoT.k α) d')))++os:=rfl;have hgb:(grow (putRow id (Go.Sort.ahead w nd) b 0 (flatK enc (GoT.k α) d')) os).heap[b]?=V (.cells (putCells id 0 (flatK enc (GoT.k α) d') cur) t (0,0)):=by
   rw[hheap,jC (by rw[Array.size_modify];exact hbs),Array.getElem?_modify,if_pos Z,hg];rfl
  have hml:(xs.mergeSort (leF cmp)).length=xs.length:=List.length_mergeSort _;refine h.upd hi Z Z Z ?_ (fun a ha hna=>qqx ha (fun hab=>hna (hab ▸ hSb))) ?_ (fun a ha=>.inl ha) (fun _ hd=>hd.elim)
  ·rw[hheap];simp
  ·rw[<-hres];refine⟨V ⟨b,0,U⟩,c,by rw[ju,hd'l],by rw[ju,hd'l];exact h1,h2,.inr ⟨b,_,t,fun q a=>q<xs.length/\F d'[q]! a,rfl,hSb,hgb,?_,fun q a ha=>hF _ a ha.2,?_,?_⟩⟩
   ·unfold putCells;rw[Array.size_mapIdx];exact hc
   ·rintro q r a hqr ⟨hq,ha⟩ ⟨hr,ha'⟩;refine hdj _ _ a (fun heq=>hqr ?_) ha ha';refine(List.getElem?_inj (by rw[hd'l];exact hq) hnd).1 ?_;rw[(hin q hq).2,(hin r hr).2,heq]
   ·intro q x hq;have hql:q<xs.length:=by
     have:=(List.getElem?_eq_some_iff.1 hq).1;rw[ju,hd'l] at this;exact this
    obtain⟨hlt,e1⟩:=hin q hql;rw[List.getElem?_map,e1] at hq;obtain rfl:xf d'[q]! = x:=by simpa using hq
    obtain⟨_,hn',e2,e3,hO',_⟩:=hO1 _ hlt;refine⟨enc d'[q]!,?_,fun j v hj=>?_⟩
    ·rw[e2,e3];exact GoT.monoO (GoT.locO hO' fun a ha=>qqx ((hS a (hF _ a ha).1).2) (hF _ a ha).2) fun a ha=>⟨hql,ha⟩
    ·have hjk:j<GoT.k α:=by
      have:=(List.getElem?_eq_some_iff.1 hj).1;rw[hk] at this;exact this
     have hqc:q*GoT.k α+j<cur.size:=by
      have:(q+1)*GoT.k α<=c*GoT.k α:=jv _ (by omega);rw[Nat.add_mul,Nat.one_mul] at this;omega
     have hqf:q*GoT.k α+j<(flatK enc (GoT.k α) d').size:=by
      rw[size_flatK,hsz',hds];have:(q+1)*GoT.k α<=xs.length*GoT.k α:=jv _ hql;rw[Nat.add_mul,Nat.one_mul] at this;omega
     have ef:=hflat d' q j (by rw[hsz',hds];exact hql) hjk;unfold putCells;rw[Array.getElem?_mapIdx,jT hqc];simp only[Option.map_some,Nat.sub_zero,Nat.zero_le,jY,true_and,if_pos hqf,Option.some.injEq];rw[hj,jT hqf] at ef;rw[getElem!_pos (flatK enc (GoT.k α) d') _ hqf];exact Option.some.inj ef
end
end
end Go.Fw


namespace Go.Fw
open Go
open Go.RowKit (Below)
section
variable{P:Program}{T:Tab}{n:Nat}{Q:Exit->Act->World->Prop}{k:List It}{e:Env}{w0 w w':World}{L:List Ch}
def RetX(P:Program)(f:FuncId)(vs:List Value)(w:World)(v:Value):Prop:=RetW P f vs w fun us w'=>us=[v]/\Below w.heap.size w w'/\w.drawn<=w'.drawn
theorem qhB{f:FuncId}{fn:Func}{c:Code}{vs:List Value}{v:Value}{m:Nat}(hf:P.funcs[f]?=V fn)(hb:fn.body=V c)(hm:fn.ntmps=m)(hn:Nat.ble vs.length m=true)
  (h:SH w w []->w.drawn<=w.drawn->Run P m (bodyPost P fn fun e w'=>∃us,e=.returned (tup us)/\(us=[v]/\Below w.heap.size w w'/\w.drawn<=w'.drawn)) [.code c] (argEnv 0 vs) w):RetX P f vs w v:=
 qvF hf hb hm hn (h (SH.start w) (je _))
theorem qhN{v:Value}(h:SH w0 w L)(hd:w0.drawn<=w.drawn)(hT:TabOk P T){fn:Func}(hr:ResOk T e w fn.results.toList [v]) :
  Run P n (bodyPost P fn fun e w'=>∃us,e=.returned (tup us)/\(us=[v]/\Below w0.heap.size w0 w'/\w0.drawn<=w'.drawn)) (.code .ret::k) e w:=
 qB7 (J:=fun us w'=>us=[v]/\Below w0.heap.size w0 w'/\w0.drawn<=w'.drawn) hT [v] hr ⟨rfl,h.below,hd⟩
theorem qjx{v:Value}{all:Array Oper}{l:List Oper}{d ty:Nat}{ps:String}{af:Array Edge}{x:Operand}{args:Array Operand}{ats:Array TypeId}{f:FuncId}{fi ca:Array Value}{az vs:List Value}
  (h:SH w0 w L) (hd:w0.drawn<=w.drawn) (hcall:qdZ P f) (hc:RetX P f vs w v) (hx:opv e x=V (.func (.func f) fi ca)) (hargs:opvs e args.toList=V az) (hvs:fi.toList++az++ca.toList=vs) (hn:Nat.blt d n=true)
  (hk:∀w',SH w0 w' L->w0.drawn<=w'.drawn->Run P n Q (.ops all l::k) ((d,v)::e) w'):Run P n Q (.ops all (⟨V d,.call ⟨.value x,args,ats⟩,ty,ps,af,U⟩::l)::k) e w:=by
 refine qAY hcall hc hx hargs hvs hn ?_;rintro w' us ⟨rfl,hb,hd'⟩;exact hk w' (h.ext hb) (Jb hd hd')
theorem quQ{all:Array Oper}{l:List Oper}{d t ty:Nat}{ps:String}{af:Array Edge}{x:Operand}{v:Value}(h:SH w0 w L)(hd:w0.drawn<=w.drawn)(hx:opv e x=V v)(hn:Nat.blt d n=true)
  (hk:∀w' b,SH w0 w' (Ch.box b (cellsL v) t::L)->w0.drawn<=w'.drawn->Run P n Q (.ops all l::k) ((d,.pointer (V ⟨b,0,U⟩))::e) w'):Run P n Q (.ops all (⟨V d,.box t x,ty,ps,af,U⟩::l)::k) e w:=by
 refine qn6 Z Z hn (fun a ha=>?_) (hk _ _ (h.alloc (cellsL v) t) hd);simp only[execOp,ha.eval hx,Instr.box,newVar,newRow,jj,run_newObj,ji,jk];rw[<-qdR]
 rfl
theorem qzR{id:Nat}{ops:List Oper}(st:List Nat)(C:World->Prop)(hm:P.follows .mixedOrders=true)(m:Nat)(hsz:ops.toArray.size=m)(listed:Array Bool)(hl:Array.replicate m false=listed)
  (h:∀w',Below w.heap.size w w'->w.drawn<=w'.drawn->RunA P n Q k ops.toArray st C m listed e w'):Run P n Q (.code (.region id ops.toArray true)::k) e w:=by
 subst hsz;subst hl;intro a ha;refine wp_region_any hm (qpD (st:=st) (C:=C) _ _ _ _ ?_);exact h { w with drawn:=w.drawn+1 } ⟨rfl,rfl,rfl,je _,fun _ _=>rfl⟩ (Nat.le_succ _) a ha
theorem qtZ(hT:TabOk P T){α:Type}[GoT α][Flat α]{all:Array Oper}{l:List Oper}{d t ty el len:Nat}{ps:String}{af:Array Edge}{parts:Array (Nat×Operand)}{te te':TE}{zv:Value}(os:List Operand)(vs:List Value)(ys:List α)
  (h:SH w0 w L) (hd0:w0.drawn<=w.drawn) (hparts:parts.toList=(os.zipIdx 0).map fun x=>(x.2,x.1)) (hvs:opvs e os=V vs) (hlen:len=vs.length)
  (hte:T.get t=V te) (hk:te.kind=.slice el) (hel:T.get el=V te') (hz:te'.zero=V zv) (hsz:te'.size=GoT.k α) (hsmall:Nat.ble (vs.length*te'.size) 16777216=true)
  (hc:Cells2 w (Fw.old w) ys (vs.map cellsL)) (hn:Nat.blt d n=true)
  (hkk:∀w' p S,SH w0 w' (Ch.own S ys [.slice p len len]::L)->w0.drawn<=w'.drawn->Run P n Q (.ops all l::k) ((d,.slice p len len)::e) w') :
  Run P n Q (.ops all (⟨V d,.buildSlice t len parts,ty,ps,af,U⟩::l)::k) e w:=by
 have hlenys:∀{ys:List α} {cs:List (List Value)},Cells2 w (Fw.old w) ys cs->ys.length=cs.length/\∀c∈cs,c.length=GoT.k α:=by
  intro ys
  induction ys with
  |nil=>intro cs hc;cases cs with
   |nil=>simp
   |cons=>exact hc.elim
  |cons y ys ih=>
   intro cs hc;cases cs with
   |nil=>exact hc.elim
   |cons c cs=>
    obtain⟨h1,h2⟩:=hc;have:=ih h2;refine⟨by simp[this.1],fun d hd=>?_⟩;rcases List.mem_cons.1 hd with rfl|hd
    ·exact GoT.len h1
    ·exact this.2 d hd
 obtain⟨hl1,hl2⟩:=hlenys hc;have hcs:∀v∈vs,(cellsL v).length=te'.size:=fun v hv=>by rw[hsz];exact hl2 _ (List.mem_map.2 ⟨v,hv,rfl⟩)
 have hr:=qnW hT vs hte hk hel hz (jt hsmall) hcs w;subst hlen;obtain⟨hfl,hfe⟩:=hc.get;refine qn6 (v:=.slice (V ⟨w.heap.size,0,U⟩) vs.length vs.length) (w':=w.alloc (.cells (vs.map cellsL).flatten.toArray el)) Z Z hn (fun a ha=>?_)
  (hkk _ _ (fun b=>b=w.heap.size) (h.add ((Below.refl _ _).alloc (je _) _) ?_ ?_ (fun _ hd=>hd.elim)) hd0)
 ·have hev:parts.map (fun(x:Nat×Operand)=>(x.1,a.eval x.2))=((vs.zipIdx 0).map fun x=>(x.2,x.1)).toArray:=by
   apply Array.ext';rw[Array.toList_map,hparts];have:=qi5 ha hvs;subst this;rw[List.zipIdx_map,Jq,Jq]
   rfl
  simp only[execOp,hev,jj,hr,ji,jk]
 ·have hl3:ys.length=vs.length:=by simpa using hl1
  refine⟨V ⟨w.heap.size,0,U⟩,vs.length,by rw[hl3],?_⟩;have hsm:vs.length<=maxLen:=by
   have h1:=jt hsmall;have h2:vs.length*1<=vs.length*te'.size:=Nat.mul_le_mul_left _ (by rw[hsz];exact GoT.kpos);simp[maxLen];omega
  refine SlO.of_elems (w:=w) (S':=Fw.old w) (olds:=(vs.map cellsL).flatten) (by rw[hl3];exact je _) hsm Z (heap_alloc_new w _) ?_ ⟨hfl,hfe⟩ (fun r v hr'=>by simpa using hr');rw[jQ,hfl,hl3]
 ·intro b hb;have:b=w.heap.size:=hb;subst this;exact⟨je _,by simp⟩
end
end Go.Fw


namespace Go.Fw
open Go Go.Proofs Go.Proofs.Tryz
open Go.RowKit (Below)
open Ch renaming own->oW,box->oX,grp->oG
open GoT renaming v->oV
open Go.Value renaming slice->oS
set_option maxRecDepth 100000
set_option maxHeartbeats 6400000
variable{n:Nat}{w:World}{S:Nat->Prop}{cs1 cs2 cs3 cs4 cs5 cs6 cs7 cs8 cs9:List Value}
structure qal where
 Bd:ByteArray
 Bx:Int
 Bu:Int
 Bt:Bool
instance gt_TPin:GoT qal:=isoT (pairT instStr (pairT instInt (pairT instInt instBool))) (fun x=>(x.Bd,x.Bx,x.Bu,x.Bt)) ⟨ByteArray.empty,0,0,false⟩ Z true (fun h=>by cases h)
instance fl_TPin:Flat qal:=qiu (pairT instStr (pairT instInt (pairT instInt instBool))) (fun x:qal=>(x.Bd,x.Bx,x.Bu,x.Bt)) ⟨ByteArray.empty,0,0,false⟩ Z true (fun h=>by cases h) (qbr _ _ (inferInstanceAs (Flat ByteArray)) (qbr _ _ (inferInstanceAs (Flat Int)) (qbr _ _ (inferInstanceAs (Flat Int)) (inferInstanceAs (Flat Bool)))))
abbrev qqK(x:qal):List Value:=[.string x.Bd,vi x.Bx,vi x.Bu,.bool x.Bt]
theorem qa2{x:qal}{cs:List Value}(h:GoT.R w S x cs):cs=(qqK x):=by
 obtain⟨_,_,rfl,rfl,⟨_,_,rfl,rfl,⟨_,_,rfl,rfl,rfl⟩⟩⟩:=h;exact Z
theorem qes(x:qal):GoT.R w S x (qqK x):=have h:=pR (rT x.Bd) (pR (rI x.Bx) (pR (rI x.Bu) (rB x.Bt)));h
structure qy where
 Bo:(List Int)
 Bk:(List Int)
 Bj:(List Int)
instance gt_TTable:GoT qy:=isoT (pairT (@instList Int instInt) (pairT (@instList Int instInt) (@instList Int instInt))) (fun x=>(x.Bo,x.Bk,x.Bj)) ⟨[],[],[]⟩ Z true (fun h=>by cases h)
abbrev qhV(x:qy)(p0 p1 p2:Option Addr)(k0 k1 k2:Nat):List Value:=[oS p0 (x.Bo).length k0,oS p1 (x.Bk).length k1,oS p2 (x.Bj).length k2]
theorem qaK{x:qy}{cs:List Value}(h:GoT.R w S x cs):∃d a f b g c,cs=(qhV x d f g a b c)/\SlR w S x.Bo d a/\SlR w S x.Bk f b/\SlR w S x.Bj g c:=by
 obtain⟨_,_,rfl,⟨d,a,rfl,s0⟩,⟨_,_,rfl,⟨f,b,rfl,i⟩,⟨g,c,rfl,s2⟩⟩⟩:=h;exact⟨d,a,f,b,g,c,rfl,s0,i,s2⟩
theorem qfV(x:qy){d f g:Option Addr}{a b c:Nat}(s0:SlR w S x.Bo d a)(i:SlR w S x.Bk f b)(s2:SlR w S x.Bj g c):GoT.R w S x (qhV x d f g a b c):=have h:=pR (rS s0) (pR (rS i) (rS s2));h
theorem quy{w0:World}{L:List Ch}{x:qy}{l n o:Option Addr}{g a i d k f:Nat}(h:SH w0 w (oW S x [oS l g a,oS n i d,oS o k f]::L)):∃p S1 S2,SH w0 w (oW S2 x.Bj [oS o k f]::oW S1 x.Bk [oS n i d]::oW p x.Bo [oS l g a]::L):=by
 obtain⟨v,u⟩:=h.headV;replace u:GoT.O w S x _:=u;obtain⟨A0,B0,_,_,z,r,u,a0,b0⟩:=u;obtain⟨q,m,rfl,s0⟩:=r;cases z;replace v:=v.push (c:=oW A0 x.Bo [_]) (S2:=B0) ⟨_,_,rfl,s0⟩ (fun _ y=>y.elim) a0 b0;obtain⟨A1,B1,_,_,z,s,u,a1,b1⟩:=u;obtain⟨q,m,rfl,t⟩:=s;cases z;replace v:=v.push (c:=oW A1 x.Bk [_]) (S2:=B1) ⟨_,_,rfl,t⟩ (fun _ y=>y.elim) a1 b1;obtain⟨q,m,z,s2⟩:=u;cases z;replace v:=v.push (c:=oW B1 x.Bj [_]) (S2:=(fun _=>False)) ⟨_,_,rfl,s2⟩ (fun _ y=>y.elim) (fun b A=>⟨A,fun h=>h⟩) (fun _ h=>h.elim);exact⟨A0,A1,B1,v.sh⟩
theorem qt0{w0:World}{L:List Ch}(x:qy){I0 I1 I2:List Nat}{a b c:List Value}(h:SH w0 w L)(d:PO w L I0 x.Bo a)(f:PO w L I1 x.Bk b)(g:PO w L I2 x.Bj c)(b0:apartB I0 (I1++I2)=true)(b1:apartB I1 I2=true):PO w L (I0++(I1++I2)) x (a++(b++c)):=
 (qbX h d (qbX h f g b1) b0)
structure qJ where
 Bi:Int
 Bm:Int
 To:Int
 Br:Int
 Bp:(List qy)
 Be:(List qy)
instance gt_TArc:GoT qJ:=isoT (pairT instInt (pairT instInt (pairT instInt (pairT instInt (pairT (@instList qy gt_TTable) (@instList qy gt_TTable)))))) (fun x=>(x.Bi,x.Bm,x.To,x.Br,x.Bp,x.Be)) ⟨0,0,0,0,[],[]⟩ Z true (fun h=>by cases h)
abbrev qhH(x:qJ)(p0 p1:Option Addr)(k0 k1:Nat):List Value:=[vi x.Bi,vi x.Bm,vi x.To,vi x.Br,oS p0 (x.Bp).length k0,oS p1 (x.Be).length k1]
theorem qaj{x:qJ}{cs:List Value}(h:GoT.R w S x cs):∃c a d b,cs=(qhH x c d a b)/\SlR w S x.Bp c a/\SlR w S x.Be d b:=by
 obtain⟨_,_,rfl,rfl,⟨_,_,rfl,rfl,⟨_,_,rfl,rfl,⟨_,_,rfl,rfl,⟨_,_,rfl,⟨c,a,rfl,s0⟩,⟨d,b,rfl,f⟩⟩⟩⟩⟩⟩:=h;exact⟨c,a,d,b,rfl,s0,f⟩
theorem qgb(x:qJ){c d:Option Addr}{a b:Nat}(s0:SlR w S x.Bp c a)(f:SlR w S x.Be d b):GoT.R w S x (qhH x c d a b):=have h:=pR (rI x.Bi) (pR (rI x.Bm) (pR (rI x.To) (pR (rI x.Br) (pR (rS s0) (rS f)))));h
theorem qxh{w0:World}{L:List Ch}{x:qJ}{i k:Option Addr}{f a g d:Nat}(h:SH w0 w (oW S x [vi x.Bi,vi x.Bm,vi x.To,vi x.Br,oS i f a,oS k g d]::L)):∃l S1,SH w0 w (oW S1 x.Be [oS k g d]::oW l x.Bp [oS i f a]::L):=by
 obtain⟨z,y⟩:=h.headV;replace y:GoT.O w S x _:=y;obtain⟨_,_,_,_,A,p,y,_,b0⟩:=y;obtain rfl:=p;cases A;replace z:=z.less b0;obtain⟨_,_,_,_,A,r,y,_,b1⟩:=y;obtain rfl:=r;cases A;replace z:=z.less b1;obtain⟨_,_,_,_,A,s,y,_,b2⟩:=y;obtain rfl:=s;cases A;replace z:=z.less b2;obtain⟨_,_,_,_,A,t,y,_,b3⟩:=y;obtain rfl:=t;cases A;replace z:=z.less b3;obtain⟨A4,B4,_,_,A,u,y,n,o⟩:=y;obtain⟨q,m,rfl,s0⟩:=u;cases A;replace z:=z.push (c:=oW A4 x.Bp [_]) (S2:=B4) ⟨_,_,rfl,s0⟩ (fun _ B=>B.elim) n o;obtain⟨q,m,A,v⟩:=y;cases A;replace z:=z.push (c:=oW B4 x.Be [_]) (S2:=(fun _=>False)) ⟨_,_,rfl,v⟩ (fun _ B=>B.elim) (fun b C=>⟨C,fun h=>h⟩) (fun _ h=>h.elim);exact⟨A4,B4,z.sh⟩
theorem qxT{w0:World}{L:List Ch}(x:qJ){I0 I1 I2 I3 I4 I5:List Nat}{a b c d f g:List Value}(h:SH w0 w L)(k:PO w L I0 x.Bi a)(l:PO w L I1 x.Bm b)(m:PO w L I2 x.To c)(n:PO w L I3 x.Br d)(o:PO w L I4 x.Bp f)(p:PO w L I5 x.Be g)(b0:apartB I0 (I1++(I2++(I3++(I4++I5))))=true)(b1:apartB I1 (I2++(I3++(I4++I5)))=true)(b2:apartB I2 (I3++(I4++I5))=true)(b3:apartB I3 (I4++I5)=true)(i:apartB I4 I5=true):PO w L (I0++(I1++(I2++(I3++(I4++I5))))) x (a++(b++(c++(d++(f++g))))):=
 (qbX h k (qbX h l (qbX h m (qbX h n (qbX h o p i) b3) b2) b1) b0)
structure qz where
 Bd:ByteArray
 Bi:Int
 Bh:(List qal)
 Bc:(List qJ)
 Bq:(List Int)
 Cc:Int
 Bw:Int
instance gt_TCell:GoT qz:=isoT (pairT instStr (pairT instInt (pairT (@instList qal gt_TPin) (pairT (@instList qJ gt_TArc) (pairT (@instList Int instInt) (pairT instInt instInt)))))) (fun x=>(x.Bd,x.Bi,x.Bh,x.Bc,x.Bq,x.Cc,x.Bw)) ⟨ByteArray.empty,0,[],[],[],0,0⟩ Z true (fun h=>by cases h)
abbrev qew(x:qz)(p0 p1 p2:Option Addr)(k0 k1 k2:Nat):List Value:=[.string x.Bd,vi x.Bi,oS p0 (x.Bh).length k0,oS p1 (x.Bc).length k1,oS p2 (x.Bq).length k2,vi x.Cc,vi x.Bw]
theorem qag{x:qz}{cs:List Value}(h:GoT.R w S x cs):∃d a f b g c,cs=(qew x d f g a b c)/\SlR w S x.Bh d a/\SlR w S x.Bc f b/\SlR w S x.Bq g c:=by
 obtain⟨_,_,rfl,rfl,⟨_,_,rfl,rfl,⟨_,_,rfl,⟨d,a,rfl,s0⟩,⟨_,_,rfl,⟨f,b,rfl,i⟩,⟨_,_,rfl,⟨g,c,rfl,s2⟩,⟨_,_,rfl,rfl,rfl⟩⟩⟩⟩⟩⟩:=h;exact⟨d,a,f,b,g,c,rfl,s0,i,s2⟩
theorem qlB(x:qz){d f g:Option Addr}{a b c:Nat}(s0:SlR w S x.Bh d a)(i:SlR w S x.Bc f b)(s2:SlR w S x.Bq g c):GoT.R w S x (qew x d f g a b c):=have h:=pR (rT x.Bd) (pR (rI x.Bi) (pR (rS s0) (pR (rS i) (pR (rS s2) (pR (rI x.Cc) (rI x.Bw))))));h
theorem qvM{w0:World}{L:List Ch}{x:qz}{k l n:Option Addr}{f a g b i d:Nat}(h:SH w0 w (oW S x [.string x.Bd,vi x.Bi,oS k f a,oS l g b,oS n i d,vi x.Cc,vi x.Bw]::L)):∃o S1 S2,SH w0 w (oW S2 x.Bq [oS n i d]::oW S1 x.Bc [oS l g b]::oW o x.Bh [oS k f a]::L):=by
 obtain⟨F,D⟩:=h.headV;replace D:GoT.O w S x _:=D;obtain⟨_,_,_,_,H,u,D,_,b0⟩:=D;obtain rfl:=u;cases H;replace F:=F.less b0;obtain⟨_,_,_,_,H,v,D,_,b1⟩:=D;obtain rfl:=v;cases H;replace F:=F.less b1;obtain⟨A2,B2,_,_,H,y,D,a2,b2⟩:=D;obtain⟨q,m,rfl,s0⟩:=y;cases H;replace F:=F.push (c:=oW A2 x.Bh [_]) (S2:=B2) ⟨_,_,rfl,s0⟩ (fun _ I=>I.elim) a2 b2;obtain⟨A3,B3,_,_,H,z,D,p,b3⟩:=D;obtain⟨q,m,rfl,C⟩:=z;cases H;replace F:=F.push (c:=oW A3 x.Bc [_]) (S2:=B3) ⟨_,_,rfl,C⟩ (fun _ I=>I.elim) p b3;obtain⟨A4,B4,_,_,H,A,D,r,s⟩:=D;obtain⟨q,m,rfl,s2⟩:=A;cases H;replace F:=F.push (c:=oW A4 x.Bq [_]) (S2:=B4) ⟨_,_,rfl,s2⟩ (fun _ I=>I.elim) r s;obtain⟨_,_,_,_,H,B,D,_,t⟩:=D;obtain rfl:=B;cases H;replace F:=F.less t;exact⟨A2,A3,A4,F.sh⟩
theorem qvR{w0:World}{L:List Ch}(x:qz){I0 I1 I2 I3 I4 I5 I6:List Nat}{a b c d f g i:List Value}(h:SH w0 w L)(m:PO w L I0 x.Bd a)(n:PO w L I1 x.Bi b)(o:PO w L I2 x.Bh c)(p:PO w L I3 x.Bc d)(r:PO w L I4 x.Bq f)(s:PO w L I5 x.Cc g)(t:PO w L I6 x.Bw i)(b0:apartB I0 (I1++(I2++(I3++(I4++(I5++I6)))))=true)(b1:apartB I1 (I2++(I3++(I4++(I5++I6))))=true)(b2:apartB I2 (I3++(I4++(I5++I6)))=true)(b3:apartB I3 (I4++(I5++I6))=true)(k:apartB I4 (I5++I6)=true)(l:apartB I5 I6=true):PO w L (I0++(I1++(I2++(I3++(I4++(I5++I6)))))) x (a++(b++(c++(d++(f++(g++i)))))):=
 (qbX h m (qbX h n (qbX h o (qbX h p (qbX h r (qbX h s t l) k) b3) b2) b1) b0)
structure qp where
 Ay:(List qz)
instance gt_TLibrary:GoT qp:=isoT (@instList qz gt_TCell) (fun x=>x.Ay) ⟨[]⟩ Z true (fun h=>by cases h)
theorem qbN{x:qp}{cs:List Value}(h:GoT.R w S x cs):∃b a,cs=[oS b (x.Ay).length a]/\SlR w S x.Ay b a:=by
 obtain⟨b,a,rfl,s0⟩:=h;exact⟨b,a,rfl,s0⟩
theorem qeC(x:qp){b:Option Addr}{a:Nat}(s0:SlR w S x.Ay b a):GoT.R w S x [oS b (x.Ay).length a]:=have h:=rS s0;h
theorem qsz{w0:World}{L:List Ch}{x:qp}{f:Option Addr}{d a:Nat}(h:SH w0 w (oW S x [oS f d a]::L)):∃g,SH w0 w (oW g x.Ay [oS f d a]::L):=by
 obtain⟨k,i⟩:=h.headV;replace i:GoT.O w S x _:=i;obtain⟨q,m,o,s0⟩:=i;cases o;replace k:=k.push (c:=oW S x.Ay [_]) (S2:=(fun _=>False)) ⟨_,_,rfl,s0⟩ (fun _ n=>n.elim) (fun b l=>⟨l,fun h=>h⟩) (fun _ h=>h.elim);exact⟨S,k.sh⟩
theorem qvA{w0:World}{L:List Ch}(x:qp){I0:List Nat}{a:List Value}(_:SH w0 w L)(b:PO w L I0 x.Ay a):PO w L I0 x a:=
 b
structure ql where
 Bd:ByteArray
 Bv:Int
 As:(List Int)
instance gt_TInstance:GoT ql:=isoT (pairT instStr (pairT instInt (@instList Int instInt))) (fun x=>(x.Bd,x.Bv,x.As)) ⟨ByteArray.empty,0,[]⟩ Z true (fun h=>by cases h)
abbrev qkz(x:ql)(p0:Option Addr)(k0:Nat):List Value:=[.string x.Bd,vi x.Bv,oS p0 (x.As).length k0]
theorem qV{x:ql}{cs:List Value}(h:GoT.R w S x cs):∃b a,cs=(qkz x b a)/\SlR w S x.As b a:=by
 obtain⟨_,_,rfl,rfl,⟨_,_,rfl,rfl,⟨b,a,rfl,s0⟩⟩⟩:=h;exact⟨b,a,rfl,s0⟩
theorem qhc(x:ql){b:Option Addr}{a:Nat}(s0:SlR w S x.As b a):GoT.R w S x (qkz x b a):=have h:=pR (rT x.Bd) (pR (rI x.Bv) (rS s0));h
theorem qrP{w0:World}{L:List Ch}{x:ql}{f:Option Addr}{d a:Nat}(h:SH w0 w (oW S x [.string x.Bd,vi x.Bv,oS f d a]::L)):∃g,SH w0 w (oW g x.As [oS f d a]::L):=by
 obtain⟨n,l⟩:=h.headV;replace l:GoT.O w S x _:=l;obtain⟨_,_,_,_,o,i,l,_,b0⟩:=l;obtain rfl:=i;cases o;replace n:=n.less b0;obtain⟨_,B1,_,_,o,k,l,_,b1⟩:=l;obtain rfl:=k;cases o;replace n:=n.less b1;obtain⟨q,m,o,s0⟩:=l;cases o;replace n:=n.push (c:=oW B1 x.As [_]) (S2:=(fun _=>False)) ⟨_,_,rfl,s0⟩ (fun _ r=>r.elim) (fun b p=>⟨p,fun h=>h⟩) (fun _ h=>h.elim);exact⟨B1,n.sh⟩
theorem qqD{w0:World}{L:List Ch}(x:ql){I0 I1 I2:List Nat}{a b c:List Value}(h:SH w0 w L)(d:PO w L I0 x.Bd a)(f:PO w L I1 x.Bv b)(g:PO w L I2 x.As c)(b0:apartB I0 (I1++I2)=true)(b1:apartB I1 I2=true):PO w L (I0++(I1++I2)) x (a++(b++c)):=
 (qbX h d (qbX h f g b1) b0)
structure qR where
 Bd:ByteArray
 Bx:Int
 Ca:Int
instance gt_TPort:GoT qR:=isoT (pairT instStr (pairT instInt instInt)) (fun x=>(x.Bd,x.Bx,x.Ca)) ⟨ByteArray.empty,0,0⟩ Z true (fun h=>by cases h)
instance fl_TPort:Flat qR:=qiu (pairT instStr (pairT instInt instInt)) (fun x:qR=>(x.Bd,x.Bx,x.Ca)) ⟨ByteArray.empty,0,0⟩ Z true (fun h=>by cases h) (qbr _ _ (inferInstanceAs (Flat ByteArray)) (qbr _ _ (inferInstanceAs (Flat Int)) (inferInstanceAs (Flat Int))))
abbrev qsg(x:qR):List Value:=[.string x.Bd,vi x.Bx,vi x.Ca]
theorem qaZ{x:qR}{cs:List Value}(h:GoT.R w S x cs):cs=(qsg x):=by
 obtain⟨_,_,rfl,rfl,⟨_,_,rfl,rfl,rfl⟩⟩:=h;exact Z
theorem qeN(x:qR):GoT.R w S x (qsg x):=have h:=pR (rT x.Bd) (pR (rI x.Bx) (rI x.Ca));h
structure qd where
 Ab:(List ql)
 As:(List ByteArray)
 Ak:(List qR)
instance gt_TDesign:GoT qd:=isoT (pairT (@instList ql gt_TInstance) (pairT (@instList ByteArray instStr) (@instList qR gt_TPort))) (fun x=>(x.Ab,x.As,x.Ak)) ⟨[],[],[]⟩ Z true (fun h=>by cases h)
abbrev qaW(x:qd)(p0 p1 p2:Option Addr)(k0 k1 k2:Nat):List Value:=[oS p0 (x.Ab).length k0,oS p1 (x.As).length k1,oS p2 (x.Ak).length k2]
theorem qaE{x:qd}{cs:List Value}(h:GoT.R w S x cs):∃d a f b g c,cs=(qaW x d f g a b c)/\SlR w S x.Ab d a/\SlR w S x.As f b/\SlR w S x.Ak g c:=by
 obtain⟨_,_,rfl,⟨d,a,rfl,s0⟩,⟨_,_,rfl,⟨f,b,rfl,i⟩,⟨g,c,rfl,s2⟩⟩⟩:=h;exact⟨d,a,f,b,g,c,rfl,s0,i,s2⟩
theorem qaC(x:qd){d f g:Option Addr}{a b c:Nat}(s0:SlR w S x.Ab d a)(i:SlR w S x.As f b)(s2:SlR w S x.Ak g c):GoT.R w S x (qaW x d f g a b c):=have h:=pR (rS s0) (pR (rS i) (rS s2));h
theorem qtA{w0:World}{L:List Ch}{x:qd}{l n o:Option Addr}{g a i d k f:Nat}(h:SH w0 w (oW S x [oS l g a,oS n i d,oS o k f]::L)):∃p S1 S2,SH w0 w (oW S2 x.Ak [oS o k f]::oW S1 x.As [oS n i d]::oW p x.Ab [oS l g a]::L):=by
 obtain⟨v,u⟩:=h.headV;replace u:GoT.O w S x _:=u;obtain⟨A0,B0,_,_,z,r,u,a0,b0⟩:=u;obtain⟨q,m,rfl,s0⟩:=r;cases z;replace v:=v.push (c:=oW A0 x.Ab [_]) (S2:=B0) ⟨_,_,rfl,s0⟩ (fun _ y=>y.elim) a0 b0;obtain⟨A1,B1,_,_,z,s,u,a1,b1⟩:=u;obtain⟨q,m,rfl,t⟩:=s;cases z;replace v:=v.push (c:=oW A1 x.As [_]) (S2:=B1) ⟨_,_,rfl,t⟩ (fun _ y=>y.elim) a1 b1;obtain⟨q,m,z,s2⟩:=u;cases z;replace v:=v.push (c:=oW B1 x.Ak [_]) (S2:=(fun _=>False)) ⟨_,_,rfl,s2⟩ (fun _ y=>y.elim) (fun b A=>⟨A,fun h=>h⟩) (fun _ h=>h.elim);exact⟨A0,A1,B1,v.sh⟩
theorem qw8{w0:World}{L:List Ch}(x:qd){I0 I1 I2:List Nat}{a b c:List Value}(h:SH w0 w L)(d:PO w L I0 x.Ab a)(f:PO w L I1 x.As b)(g:PO w L I2 x.Ak c)(b0:apartB I0 (I1++I2)=true)(b1:apartB I1 I2=true):PO w L (I0++(I1++I2)) x (a++(b++c)):=
 (qbX h d (qbX h f g b1) b0)
structure qE where
 Az:(List Int)
 Bz:(List Int)
 Bu:(List Int)
 Bn:(List Int)
instance gt_TWire:GoT qE:=isoT (pairT (@instList Int instInt) (pairT (@instList Int instInt) (pairT (@instList Int instInt) (@instList Int instInt)))) (fun x=>(x.Az,x.Bz,x.Bu,x.Bn)) ⟨[],[],[],[]⟩ Z true (fun h=>by cases h)
abbrev qhx(x:qE)(p0 p1 p2 p3:Option Addr)(k0 k1 k2 k3:Nat):List Value:=[oS p0 (x.Az).length k0,oS p1 (x.Bz).length k1,oS p2 (x.Bu).length k2,oS p3 (x.Bn).length k3]
theorem qaR{x:qE}{cs:List Value}(h:GoT.R w S x cs):∃d a f b g c i k3,cs=(qhx x d f g i a b c k3)/\SlR w S x.Az d a/\SlR w S x.Bz f b/\SlR w S x.Bu g c/\SlR w S x.Bn i k3:=by
 obtain⟨_,_,rfl,⟨d,a,rfl,s0⟩,⟨_,_,rfl,⟨f,b,rfl,k⟩,⟨_,_,rfl,⟨g,c,rfl,s2⟩,⟨i,k3,rfl,l⟩⟩⟩⟩:=h;exact⟨d,a,f,b,g,c,i,k3,rfl,s0,k,s2,l⟩
theorem qlz(x:qE){d f g i:Option Addr}{a b c k3:Nat}(s0:SlR w S x.Az d a)(k:SlR w S x.Bz f b)(s2:SlR w S x.Bu g c)(l:SlR w S x.Bn i k3):GoT.R w S x (qhx x d f g i a b c k3):=have h:=pR (rS s0) (pR (rS k) (pR (rS s2) (rS l)));h
theorem qvr{w0:World}{L:List Ch}{x:qE}{n o p r:Option Addr}{g a i d k f l k3:Nat}(h:SH w0 w (oW S x [oS n g a,oS o i d,oS p k f,oS r l k3]::L)):∃s S1 S2 t,SH w0 w (oW t x.Bn [oS r l k3]::oW S2 x.Bu [oS p k f]::oW S1 x.Bz [oS o i d]::oW s x.Az [oS n g a]::L):=by
 obtain⟨C,B⟩:=h.headV;replace B:GoT.O w S x _:=B;obtain⟨A0,B0,_,_,F,u,B,a0,b0⟩:=B;obtain⟨q,m,rfl,s0⟩:=u;cases F;replace C:=C.push (c:=oW A0 x.Az [_]) (S2:=B0) ⟨_,_,rfl,s0⟩ (fun _ D=>D.elim) a0 b0;obtain⟨A1,B1,_,_,F,v,B,a1,b1⟩:=B;obtain⟨q,m,rfl,z⟩:=v;cases F;replace C:=C.push (c:=oW A1 x.Bz [_]) (S2:=B1) ⟨_,_,rfl,z⟩ (fun _ D=>D.elim) a1 b1;obtain⟨A2,B2,_,_,F,y,B,a2,b2⟩:=B;obtain⟨q,m,rfl,s2⟩:=y;cases F;replace C:=C.push (c:=oW A2 x.Bu [_]) (S2:=B2) ⟨_,_,rfl,s2⟩ (fun _ D=>D.elim) a2 b2;obtain⟨q,m,F,A⟩:=B;cases F;replace C:=C.push (c:=oW B2 x.Bn [_]) (S2:=(fun _=>False)) ⟨_,_,rfl,A⟩ (fun _ D=>D.elim) (fun b H=>⟨H,fun h=>h⟩) (fun _ h=>h.elim);exact⟨A0,A1,A2,B2,C.sh⟩
theorem qvS{w0:World}{L:List Ch}(x:qE){I0 I1 I2 I3:List Nat}{a b c d:List Value}(h:SH w0 w L)(f:PO w L I0 x.Az a)(g:PO w L I1 x.Bz b)(i:PO w L I2 x.Bu c)(k:PO w L I3 x.Bn d)(b0:apartB I0 (I1++(I2++I3))=true)(b1:apartB I1 (I2++I3)=true)(b2:apartB I2 I3=true):PO w L (I0++(I1++(I2++I3))) x (a++(b++(c++d))):=
 (qbX h f (qbX h g (qbX h i k b2) b1) b0)
structure qh where
 Au:qp
 Aa:qd
 Ai:(List qE)
instance gt_TBlock:GoT qh:=isoT (pairT gt_TLibrary (pairT gt_TDesign (@instList qE gt_TWire))) (fun x=>(x.Au,x.Aa,x.Ai)) ⟨(⟨[]⟩:qp),(⟨[],[],[]⟩:qd),[]⟩ Z true (fun h=>by cases h)
abbrev qa8(x:qh)(p0 p1 p2 p3 p4:Option Addr)(k0 k1 k2 k3 k4:Nat):List Value:=[oS p0 (x.Au.Ay).length k0,oS p1 (x.Aa.Ab).length k1,oS p2 (x.Aa.As).length k2,oS p3 (x.Aa.Ak).length k3,oS p4 (x.Ai).length k4]
theorem qaf{x:qh}{cs:List Value}(h:GoT.R w S x cs):∃f a g b i c k k3 l d,cs=(qa8 x f g i k l a b c k3 d)/\SlR w S x.Au.Ay f a/\SlR w S x.Aa.Ab g b/\SlR w S x.Aa.As i c/\SlR w S x.Aa.Ak k k3/\SlR w S x.Ai l d:=by
 obtain⟨_,_,rfl,⟨f,a,rfl,s0⟩,⟨_,_,rfl,⟨_,_,rfl,⟨g,b,rfl,m⟩,⟨_,_,rfl,⟨i,c,rfl,s2⟩,⟨k,k3,rfl,n⟩⟩⟩,⟨l,d,rfl,o⟩⟩⟩:=h;exact⟨f,a,g,b,i,c,k,k3,l,d,rfl,s0,m,s2,n,o⟩
theorem qdM(x:qh){f g i k l:Option Addr}{a b c k3 d:Nat}(s0:SlR w S x.Au.Ay f a)(m:SlR w S x.Aa.Ab g b)(s2:SlR w S x.Aa.As i c)(n:SlR w S x.Aa.Ak k k3)(o:SlR w S x.Ai l d):GoT.R w S x (qa8 x f g i k l a b c k3 d):=have h:=pR (qeC x.Au s0) (pR (qaC x.Aa m s2 n) (rS o));h
theorem qtf{w0:World}{L:List Ch}{x:qh}{t m n o p:Option Addr}{s r g a i d k k3 l f:Nat}(h:SH w0 w (oW S x [oS t s r,oS m g a,oS n i d,oS o k k3,oS p l f]::L)):∃F S1 S2,SH w0 w (oW S2 x.Ai [oS p l f]::oW S1 x.Aa [oS m g a,oS n i d,oS o k k3]::oW F x.Au [oS t s r]::L):=by
 obtain⟨I,H⟩:=h.headV;replace H:GoT.O w S x _:=H;obtain⟨A0,B0,u,e0,y,C,H,a0,b0⟩:=H;have A:u.length=1:=GoT.len (GoT.toR C);obtain⟨rfl,rfl⟩:u=[oS t s r]/\e0=[oS m g a,oS n i d,oS o k k3,oS p l f]:=by
  have:=List.append_inj (show[oS t s r]++[oS m g a,oS n i d,oS o k k3,oS p l f]=u++e0 from y) (by rw[A];rfl);exact⟨this.1.symm,this.2.symm⟩
 replace I:=I.push (c:=oW A0 x.Au [oS t s r]) (S2:=B0) C (fun _ J=>J.elim) a0 b0;obtain⟨A1,B1,v,e1,z,D,H,a1,b1⟩:=H;have B:v.length=3:=GoT.len (GoT.toR D);obtain⟨rfl,rfl⟩:v=[oS m g a,oS n i d,oS o k k3]/\e1=[oS p l f]:=by
  have:=List.append_inj (show[oS m g a,oS n i d,oS o k k3]++[oS p l f]=v++e1 from z) (by rw[B];rfl);exact⟨this.1.symm,this.2.symm⟩
 replace I:=I.push (c:=oW A1 x.Aa [oS m g a,oS n i d,oS o k k3]) (S2:=B1) D (fun _ J=>J.elim) a1 b1;replace I:=I.push (c:=oW B1 x.Ai [oS p l f]) (S2:=(fun _=>False)) H (fun _ J=>J.elim) (fun b K=>⟨K,fun h=>h⟩) (fun _ h=>h.elim);exact⟨A0,A1,B1,I.sh⟩
theorem qx6{w0:World}{L:List Ch}(x:qh){I0 I1 I2:List Nat}{a b c:List Value}(h:SH w0 w L)(d:PO w L I0 x.Au a)(f:PO w L I1 x.Aa b)(g:PO w L I2 x.Ai c)(b0:apartB I0 (I1++I2)=true)(b1:apartB I1 I2=true):PO w L (I0++(I1++I2)) x (a++(b++c)):=
 (qbX h d (qbX h f g b1) b0)
structure qu where
 Bd:ByteArray
 Am:Int
 Ar:Int
 Aj:Int
 Ap:Int
instance gt_TCorner:GoT qu:=isoT (pairT instStr (pairT instInt (pairT instInt (pairT instInt instInt)))) (fun x=>(x.Bd,x.Am,x.Ar,x.Aj,x.Ap)) ⟨ByteArray.empty,0,0,0,0⟩ Z true (fun h=>by cases h)
instance fl_TCorner:Flat qu:=qiu (pairT instStr (pairT instInt (pairT instInt (pairT instInt instInt)))) (fun x:qu=>(x.Bd,x.Am,x.Ar,x.Aj,x.Ap)) ⟨ByteArray.empty,0,0,0,0⟩ Z true (fun h=>by cases h) (qbr _ _ (inferInstanceAs (Flat ByteArray)) (qbr _ _ (inferInstanceAs (Flat Int)) (qbr _ _ (inferInstanceAs (Flat Int)) (qbr _ _ (inferInstanceAs (Flat Int)) (inferInstanceAs (Flat Int))))))
abbrev qce(x:qu):List Value:=[.string x.Bd,vi x.Am,vi x.Ar,vi x.Aj,vi x.Ap]
theorem qaL{x:qu}{cs:List Value}(h:GoT.R w S x cs):cs=(qce x):=by
 obtain⟨_,_,rfl,rfl,⟨_,_,rfl,rfl,⟨_,_,rfl,rfl,⟨_,_,rfl,rfl,rfl⟩⟩⟩⟩:=h;exact Z
theorem qd4(x:qu):GoT.R w S x (qce x):=have h:=pR (rT x.Bd) (pR (rI x.Am) (pR (rI x.Ar) (pR (rI x.Aj) (rI x.Ap))));h
structure qe where
 Ba:Int
 Bg:Int
instance gt_TSpan:GoT qe:=isoT (pairT instInt instInt) (fun x=>(x.Ba,x.Bg)) ⟨0,0⟩ Z true (fun h=>by cases h)
instance fl_TSpan:Flat qe:=qiu (pairT instInt instInt) (fun x:qe=>(x.Ba,x.Bg)) ⟨0,0⟩ Z true (fun h=>by cases h) (qbr _ _ (inferInstanceAs (Flat Int)) (inferInstanceAs (Flat Int)))
abbrev qiL(x:qe):List Value:=[vi x.Ba,vi x.Bg]
theorem qB{x:qe}{cs:List Value}(h:GoT.R w S x cs):cs=(qiL x):=by
 obtain⟨_,_,rfl,rfl,rfl⟩:=h;exact Z
theorem qD(x:qe):GoT.R w S x (qiL x):=have h:=pR (rI x.Ba) (rI x.Bg);h
structure qf where
 Bs:Int
 Ah:qe
 Be:qe
instance gt_TSource:GoT qf:=isoT (pairT instInt (pairT gt_TSpan gt_TSpan)) (fun x=>(x.Bs,x.Ah,x.Be)) ⟨0,(⟨0,0⟩:qe),(⟨0,0⟩:qe)⟩ Z true (fun h=>by cases h)
instance fl_TSource:Flat qf:=qiu (pairT instInt (pairT gt_TSpan gt_TSpan)) (fun x:qf=>(x.Bs,x.Ah,x.Be)) ⟨0,(⟨0,0⟩:qe),(⟨0,0⟩:qe)⟩ Z true (fun h=>by cases h) (qbr _ _ (inferInstanceAs (Flat Int)) (qbr _ _ (inferInstanceAs (Flat qe)) (inferInstanceAs (Flat qe))))
abbrev qgB(x:qf):List Value:=[vi x.Bs,vi x.Ah.Ba,vi x.Ah.Bg,vi x.Be.Ba,vi x.Be.Bg]
theorem qF{x:qf}{cs:List Value}(h:GoT.R w S x cs):cs=(qgB x):=by
 obtain⟨_,_,rfl,rfl,⟨_,_,rfl,⟨_,_,rfl,rfl,rfl⟩,⟨_,_,rfl,rfl,rfl⟩⟩⟩:=h;exact Z
theorem qaG(x:qf):GoT.R w S x (qgB x):=have h:=pR (rI x.Bs) (pR (qD x.Ah) (qD x.Be));h
structure qay where
 Ac:qh
 Af:qu
 Av:(List Int)
 Aq:(List qf)
instance gt_TJob:GoT qay:=isoT (pairT gt_TBlock (pairT gt_TCorner (pairT (@instList Int instInt) (@instList qf gt_TSource)))) (fun x=>(x.Ac,x.Af,x.Av,x.Aq)) ⟨(⟨(⟨[]⟩:qp),(⟨[],[],[]⟩:qd),[]⟩:qh),(⟨ByteArray.empty,0,0,0,0⟩:qu),[],[]⟩ Z true (fun h=>by cases h)
abbrev qpI(x:qay)(p0 p1 p2 p3 p4 p5 p6:Option Addr)(k0 k1 k2 k3 k4 k5 k6:Nat):List Value:=[oS p0 (x.Ac.Au.Ay).length k0,oS p1 (x.Ac.Aa.Ab).length k1,oS p2 (x.Ac.Aa.As).length k2,oS p3 (x.Ac.Aa.Ak).length k3,oS p4 (x.Ac.Ai).length k4,.string x.Af.Bd,vi x.Af.Am,vi x.Af.Ar,vi x.Af.Aj,vi x.Af.Ap,oS p5 (x.Av).length k5,oS p6 (x.Aq).length k6]
theorem qdj{x:qay}{cs:List Value}(h:GoT.R w S x cs):∃i a k b l c m k3 n d o f p g,cs=(qpI x i k l m n o p a b c k3 d f g)/\SlR w S x.Ac.Au.Ay i a/\SlR w S x.Ac.Aa.Ab k b/\SlR w S x.Ac.Aa.As l c/\SlR w S x.Ac.Aa.Ak m k3/\SlR w S x.Ac.Ai n d/\SlR w S x.Av o f/\SlR w S x.Aq p g:=by
 obtain⟨_,_,rfl,⟨_,_,rfl,⟨i,a,rfl,s0⟩,⟨_,_,rfl,⟨_,_,rfl,⟨k,b,rfl,r⟩,⟨_,_,rfl,⟨l,c,rfl,s2⟩,⟨m,k3,rfl,s⟩⟩⟩,⟨n,d,rfl,t⟩⟩⟩,⟨_,_,rfl,⟨_,_,rfl,rfl,⟨_,_,rfl,rfl,⟨_,_,rfl,rfl,⟨_,_,rfl,rfl,rfl⟩⟩⟩⟩,⟨_,_,rfl,⟨o,f,rfl,u⟩,⟨p,g,rfl,v⟩⟩⟩⟩:=h;exact⟨i,a,k,b,l,c,m,k3,n,d,o,f,p,g,rfl,s0,r,s2,s,t,u,v⟩
theorem qvK{w0:World}{L:List Ch}{x:qay}{v y z A B i k:Option Addr}{p l r m s n t k3 u o f a g d:Nat}(h:SH w0 w (oW S x [oS v p l,oS y r m,oS z s n,oS A t k3,oS B u o,.string x.Af.Bd,vi x.Af.Am,vi x.Af.Ar,vi x.Af.Aj,vi x.Af.Ap,oS i f a,oS k g d]::L)):∃Q S2 R,SH w0 w (oW R x.Aq [oS k g d]::oW S2 x.Av [oS i f a]::oW Q x.Ac [oS v p l,oS y r m,oS z s n,oS A t k3,oS B u o]::L):=by
 obtain⟨X,W⟩:=h.headV;replace W:GoT.O w S x _:=W;obtain⟨A0,B0,C,e0,F,O,W,a0,b0⟩:=W;have J:C.length=5:=GoT.len (GoT.toR O);obtain⟨rfl,rfl⟩:C=[oS v p l,oS y r m,oS z s n,oS A t k3,oS B u o]/\e0=[.string x.Af.Bd,vi x.Af.Am,vi x.Af.Ar,vi x.Af.Aj,vi x.Af.Ap,oS i f a,oS k g d]:=by
  have:=List.append_inj (show[oS v p l,oS y r m,oS z s n,oS A t k3,oS B u o]++[.string x.Af.Bd,vi x.Af.Am,vi x.Af.Ar,vi x.Af.Aj,vi x.Af.Ap,oS i f a,oS k g d]=C++e0 from F) (by rw[J];rfl);exact⟨this.1.symm,this.2.symm⟩
 replace X:=X.push (c:=oW A0 x.Ac [oS v p l,oS y r m,oS z s n,oS A t k3,oS B u o]) (S2:=B0) O (fun _ Y=>Y.elim) a0 b0;obtain⟨_,_,D,e1,H,T,W,_,b1⟩:=W;have K:D.length=5:=GoT.len (GoT.toR T);obtain⟨rfl,rfl⟩:D=[.string x.Af.Bd,vi x.Af.Am,vi x.Af.Ar,vi x.Af.Aj,vi x.Af.Ap]/\e1=[oS i f a,oS k g d]:=by
  have:=List.append_inj (show[.string x.Af.Bd,vi x.Af.Am,vi x.Af.Ar,vi x.Af.Aj,vi x.Af.Ap]++[oS i f a,oS k g d]=D++e1 from H) (by rw[K];rfl);exact⟨this.1.symm,this.2.symm⟩
 replace X:=X.less b1;obtain⟨A2,B2,d2,N,I,P,W,a2,b2⟩:=W;have M:d2.length=1:=GoT.len (GoT.toR P);obtain⟨rfl,rfl⟩:d2=[oS i f a]/\N=[oS k g d]:=by
  have:=List.append_inj (show[oS i f a]++[oS k g d]=d2++N from I) (by rw[M];rfl);exact⟨this.1.symm,this.2.symm⟩
 replace X:=X.push (c:=oW A2 x.Av [oS i f a]) (S2:=B2) P (fun _ Y=>Y.elim) a2 b2;replace X:=X.push (c:=oW B2 x.Aq [oS k g d]) (S2:=(fun _=>False)) W (fun _ Y=>Y.elim) (fun b e=>⟨e,fun h=>h⟩) (fun _ h=>h.elim);exact⟨A0,A2,B2,X.sh⟩
theorem qAC{w0:World}{L:List Ch}(x:qay){I0 I1 I2 I3:List Nat}{a b c d:List Value}(h:SH w0 w L)(f:PO w L I0 x.Ac a)(g:PO w L I1 x.Af b)(i:PO w L I2 x.Av c)(k:PO w L I3 x.Aq d)(b0:apartB I0 (I1++(I2++I3))=true)(b1:apartB I1 (I2++I3)=true)(b2:apartB I2 I3=true):PO w L (I0++(I1++(I2++I3))) x (a++(b++(c++d))):=
 (qbX h f (qbX h g (qbX h i k b2) b1) b0)
structure qg where
 Bl:Int
 Bf:(List Int)
 Ah:Int
instance gt_TPath:GoT qg:=isoT (pairT instInt (pairT (@instList Int instInt) instInt)) (fun x=>(x.Bl,x.Bf,x.Ah)) ⟨0,[],0⟩ Z true (fun h=>by cases h)
abbrev qbK(x:qg)(p0:Option Addr)(k0:Nat):List Value:=[vi x.Bl,oS p0 (x.Bf).length k0,vi x.Ah]
theorem qak{x:qg}{cs:List Value}(h:GoT.R w S x cs):∃b a,cs=(qbK x b a)/\SlR w S x.Bf b a:=by
 obtain⟨_,_,rfl,rfl,⟨_,_,rfl,⟨b,a,rfl,s0⟩,rfl⟩⟩:=h;exact⟨b,a,rfl,s0⟩
theorem qfp(x:qg){b:Option Addr}{a:Nat}(s0:SlR w S x.Bf b a):GoT.R w S x (qbK x b a):=have h:=pR (rI x.Bl) (pR (rS s0) (rI x.Ah));h
theorem qj5{x:qg}{c:Option Addr}{b a:Nat}(h:GoT.R w S x [vi x.Bl,oS c b a,vi x.Ah]):(SlR w S x.Bf c a/\b=(x.Bf).length):=by
 obtain⟨_,_,d,s0⟩:=qak h;cases d;exact⟨s0,rfl⟩
theorem qkx{w0:World}{L:List Ch}{x:qg}{d:Option Addr}{b a:Nat}(h:SH w0 w (oW S x [vi x.Bl,oS d b a,vi x.Ah]::L)):∃f,SH w0 w (oW f x.Bf [oS d b a]::L):=by
 obtain⟨l,k⟩:=h.headV;replace k:GoT.O w S x _:=k;obtain⟨_,_,_,_,n,g,k,_,b0⟩:=k;obtain rfl:=g;cases n;replace l:=l.less b0;obtain⟨A1,B1,_,_,n,i,k,a1,b1⟩:=k;obtain⟨q,m,rfl,s0⟩:=i;cases n;replace l:=l.push (c:=oW A1 x.Bf [_]) (S2:=B1) ⟨_,_,rfl,s0⟩ (fun _ o=>o.elim) a1 b1;exact⟨A1,l.sh⟩
theorem qg2{w0:World}{L:List Ch}(x:qg){I0 I1 I2:List Nat}{a b c:List Value}(h:SH w0 w L)(d:PO w L I0 x.Bl a)(f:PO w L I1 x.Bf b)(g:PO w L I2 x.Ah c)(b0:apartB I0 (I1++I2)=true)(b1:apartB I1 I2=true):PO w L (I0++(I1++I2)) x (a++(b++c)):=
 (qbX h d (qbX h f g b1) b0)
structure qx where
 Bm:Int
 To:Int
 Bi:Int
 Cb:Int
instance gt_TLink:GoT qx:=isoT (pairT instInt (pairT instInt (pairT instInt instInt))) (fun x=>(x.Bm,x.To,x.Bi,x.Cb)) ⟨0,0,0,0⟩ Z true (fun h=>by cases h)
instance fl_TLink:Flat qx:=qiu (pairT instInt (pairT instInt (pairT instInt instInt))) (fun x:qx=>(x.Bm,x.To,x.Bi,x.Cb)) ⟨0,0,0,0⟩ Z true (fun h=>by cases h) (qbr _ _ (inferInstanceAs (Flat Int)) (qbr _ _ (inferInstanceAs (Flat Int)) (qbr _ _ (inferInstanceAs (Flat Int)) (inferInstanceAs (Flat Int)))))
abbrev qlu(x:qx):List Value:=[vi x.Bm,vi x.To,vi x.Bi,vi x.Cb]
theorem qaw{x:qx}{cs:List Value}(h:GoT.R w S x cs):cs=(qlu x):=by
 obtain⟨_,_,rfl,rfl,⟨_,_,rfl,rfl,⟨_,_,rfl,rfl,rfl⟩⟩⟩:=h;exact Z
theorem qch(x:qx):GoT.R w S x (qlu x):=have h:=pR (rI x.Bm) (pR (rI x.To) (pR (rI x.Bi) (rI x.Cb)));h
structure qr where
 Bb:(List Bool)
 Ah:(List qe)
 Be:(List qe)
instance gt_TTiming:GoT qr:=isoT (pairT (@instList Bool instBool) (pairT (@instList qe gt_TSpan) (@instList qe gt_TSpan))) (fun x=>(x.Bb,x.Ah,x.Be)) ⟨[],[],[]⟩ Z true (fun h=>by cases h)
abbrev qb2(x:qr)(p0 p1 p2:Option Addr)(k0 k1 k2:Nat):List Value:=[oS p0 (x.Bb).length k0,oS p1 (x.Ah).length k1,oS p2 (x.Be).length k2]
theorem qdd{x:qr}{cs:List Value}(h:GoT.R w S x cs):∃d a f b g c,cs=(qb2 x d f g a b c)/\SlR w S x.Bb d a/\SlR w S x.Ah f b/\SlR w S x.Be g c:=by
 obtain⟨_,_,rfl,⟨d,a,rfl,s0⟩,⟨_,_,rfl,⟨f,b,rfl,i⟩,⟨g,c,rfl,s2⟩⟩⟩:=h;exact⟨d,a,f,b,g,c,rfl,s0,i,s2⟩
theorem qvo(x:qr){d f g:Option Addr}{a b c:Nat}(s0:SlR w S x.Bb d a)(i:SlR w S x.Ah f b)(s2:SlR w S x.Be g c):GoT.R w S x (qb2 x d f g a b c):=have h:=pR (rS s0) (pR (rS i) (rS s2));h
theorem qhh{w0:World}{L:List Ch}{x:qr}{l n o:Option Addr}{g a i d k f:Nat}(h:SH w0 w (oW S x [oS l g a,oS n i d,oS o k f]::L)):∃p S1 S2,SH w0 w (oW S2 x.Be [oS o k f]::oW S1 x.Ah [oS n i d]::oW p x.Bb [oS l g a]::L):=by
 obtain⟨v,u⟩:=h.headV;replace u:GoT.O w S x _:=u;obtain⟨A0,B0,_,_,z,r,u,a0,b0⟩:=u;obtain⟨q,m,rfl,s0⟩:=r;cases z;replace v:=v.push (c:=oW A0 x.Bb [_]) (S2:=B0) ⟨_,_,rfl,s0⟩ (fun _ y=>y.elim) a0 b0;obtain⟨A1,B1,_,_,z,s,u,a1,b1⟩:=u;obtain⟨q,m,rfl,t⟩:=s;cases z;replace v:=v.push (c:=oW A1 x.Ah [_]) (S2:=B1) ⟨_,_,rfl,t⟩ (fun _ y=>y.elim) a1 b1;obtain⟨q,m,z,s2⟩:=u;cases z;replace v:=v.push (c:=oW B1 x.Be [_]) (S2:=(fun _=>False)) ⟨_,_,rfl,s2⟩ (fun _ y=>y.elim) (fun b A=>⟨A,fun h=>h⟩) (fun _ h=>h.elim);exact⟨A0,A1,B1,v.sh⟩
theorem qgN{w0:World}{L:List Ch}(x:qr){I0 I1 I2:List Nat}{a b c:List Value}(h:SH w0 w L)(d:PO w L I0 x.Bb a)(f:PO w L I1 x.Ah b)(g:PO w L I2 x.Be c)(b0:apartB I0 (I1++I2)=true)(b1:apartB I1 I2=true):PO w L (I0++(I1++I2)) x (a++(b++c)):=
 (qbX h d (qbX h f g b1) b0)
structure Tl20Work where
 j:qay
 links:(List qx)
 live:(List Bool)
 t:qr
instance gt_Tl20Work:GoT Tl20Work:=isoT (pairT gt_TJob (pairT (@instList qx gt_TLink) (pairT (@instList Bool instBool) gt_TTiming))) (fun x=>(x.j,x.links,x.live,x.t)) ⟨(⟨(⟨(⟨[]⟩:qp),(⟨[],[],[]⟩:qd),[]⟩:qh),(⟨ByteArray.empty,0,0,0,0⟩:qu),[],[]⟩:qay),[],[],(⟨[],[],[]⟩:qr)⟩ Z true (fun h=>by cases h)
abbrev qwx(x:Tl20Work)(p0 p1 p2 p3 p4 p5 p6 p7 p8 p9 p10 p11:Option Addr)(k0 k1 k2 k3 k4 k5 k6 k7 k8 k9 k10 k11:Nat):List Value:=[oS p0 (x.j.Ac.Au.Ay).length k0,oS p1 (x.j.Ac.Aa.Ab).length k1,oS p2 (x.j.Ac.Aa.As).length k2,oS p3 (x.j.Ac.Aa.Ak).length k3,oS p4 (x.j.Ac.Ai).length k4,.string x.j.Af.Bd,vi x.j.Af.Am,vi x.j.Af.Ar,vi x.j.Af.Aj,vi x.j.Af.Ap,oS p5 (x.j.Av).length k5,oS p6 (x.j.Aq).length k6,oS p7 (x.links).length k7,oS p8 (x.live).length k8,oS p9 (x.t.Bb).length k9,oS p10 (x.t.Ah).length k10,oS p11 (x.t.Be).length k11]
theorem qkl{x:Tl20Work}{cs:List Value}(h:GoT.R w S x cs):∃r f s g t i u k3 v k y l z m A n B o C p c a d b,cs=(qwx x r s t u v y z A B C c d f g i k3 k l m n o p a b)/\SlR w S x.j.Ac.Au.Ay r f/\SlR w S x.j.Ac.Aa.Ab s g/\SlR w S x.j.Ac.Aa.As t i/\SlR w S x.j.Ac.Aa.Ak u k3/\SlR w S x.j.Ac.Ai v k/\SlR w S x.j.Av y l/\SlR w S x.j.Aq z m/\SlR w S x.links A n/\SlR w S x.live B o/\SlR w S x.t.Bb C p/\SlR w S x.t.Ah c a/\SlR w S x.t.Be d b:=by
 obtain⟨_,_,rfl,⟨_,_,rfl,⟨_,_,rfl,⟨r,f,rfl,s0⟩,⟨_,_,rfl,⟨_,_,rfl,⟨s,g,rfl,H⟩,⟨_,_,rfl,⟨t,i,rfl,s2⟩,⟨u,k3,rfl,I⟩⟩⟩,⟨v,k,rfl,J⟩⟩⟩,⟨_,_,rfl,⟨_,_,rfl,rfl,⟨_,_,rfl,rfl,⟨_,_,rfl,rfl,⟨_,_,rfl,rfl,rfl⟩⟩⟩⟩,⟨_,_,rfl,⟨y,l,rfl,K⟩,⟨z,m,rfl,L⟩⟩⟩⟩,⟨_,_,rfl,⟨A,n,rfl,M⟩,⟨_,_,rfl,⟨B,o,rfl,N⟩,⟨_,_,rfl,⟨C,p,rfl,O⟩,⟨_,_,rfl,⟨c,a,rfl,D⟩,⟨d,b,rfl,F⟩⟩⟩⟩⟩⟩:=h;exact⟨r,f,s,g,t,i,u,k3,v,k,y,l,z,m,A,n,B,o,C,p,c,a,d,b,rfl,s0,H,s2,I,J,K,L,M,N,O,D,F⟩
structure Tplace where
 instance_:Int
 pin:Int
 net:Int
 drives:Bool
instance gt_Tplace:GoT Tplace:=isoT (pairT instInt (pairT instInt (pairT instInt instBool))) (fun x=>(x.instance_,x.pin,x.net,x.drives)) ⟨0,0,0,false⟩ Z true (fun h=>by cases h)
instance fl_Tplace:Flat Tplace:=qiu (pairT instInt (pairT instInt (pairT instInt instBool))) (fun x:Tplace=>(x.instance_,x.pin,x.net,x.drives)) ⟨0,0,0,false⟩ Z true (fun h=>by cases h) (qbr _ _ (inferInstanceAs (Flat Int)) (qbr _ _ (inferInstanceAs (Flat Int)) (qbr _ _ (inferInstanceAs (Flat Int)) (inferInstanceAs (Flat Bool)))))
abbrev qsA(x:Tplace):List Value:=[vi x.instance_,vi x.pin,vi x.net,.bool x.drives]
theorem qhT{x:Tplace}{cs:List Value}(h:GoT.R w S x cs):cs=(qsA x):=by
 obtain⟨_,_,rfl,rfl,⟨_,_,rfl,rfl,⟨_,_,rfl,rfl,rfl⟩⟩⟩:=h;exact Z
theorem qnp(x:Tplace):GoT.R w S x (qsA x):=have h:=pR (rI x.instance_) (pR (rI x.pin) (pR (rI x.net) (rB x.drives)));h
structure Tview where
 Ac:qh
 places:(List Tplace)
 links:(List qx)
 loads:(List Int)
 delays:(List (List Int))
 extras:(List Int)
instance gt_Tview:GoT Tview:=isoT (pairT gt_TBlock (pairT (@instList Tplace gt_Tplace) (pairT (@instList qx gt_TLink) (pairT (@instList Int instInt) (pairT (@instList (List Int) (@instList Int instInt)) (@instList Int instInt)))))) (fun x=>(x.Ac,x.places,x.links,x.loads,x.delays,x.extras)) ⟨(⟨(⟨[]⟩:qp),(⟨[],[],[]⟩:qd),[]⟩:qh),[],[],[],[],[]⟩ Z true (fun h=>by cases h)
abbrev qAE(x:Tview)(p0 p1 p2 p3 p4 p5 p6 p7 p8 p9:Option Addr)(k0 k1 k2 k3 k4 k5 k6 k7 k8 k9:Nat):List Value:=[oS p0 (x.Ac.Au.Ay).length k0,oS p1 (x.Ac.Aa.Ab).length k1,oS p2 (x.Ac.Aa.As).length k2,oS p3 (x.Ac.Aa.Ak).length k3,oS p4 (x.Ac.Ai).length k4,oS p5 (x.places).length k5,oS p6 (x.links).length k6,oS p7 (x.loads).length k7,oS p8 (x.delays).length k8,oS p9 (x.extras).length k9]
theorem qcn{x:Tview}{cs:List Value}(h:GoT.R w S x cs):∃m a n b o c p k3 r d s f t g u i v k y l,cs=(qAE x m n o p r s t u v y a b c k3 d f g i k l)/\SlR w S x.Ac.Au.Ay m a/\SlR w S x.Ac.Aa.Ab n b/\SlR w S x.Ac.Aa.As o c/\SlR w S x.Ac.Aa.Ak p k3/\SlR w S x.Ac.Ai r d/\SlR w S x.places s f/\SlR w S x.links t g/\SlR w S x.loads u i/\SlR w S x.delays v k/\SlR w S x.extras y l:=by
 obtain⟨_,_,rfl,⟨_,_,rfl,⟨m,a,rfl,s0⟩,⟨_,_,rfl,⟨_,_,rfl,⟨n,b,rfl,z⟩,⟨_,_,rfl,⟨o,c,rfl,s2⟩,⟨p,k3,rfl,A⟩⟩⟩,⟨r,d,rfl,B⟩⟩⟩,⟨_,_,rfl,⟨s,f,rfl,C⟩,⟨_,_,rfl,⟨t,g,rfl,D⟩,⟨_,_,rfl,⟨u,i,rfl,F⟩,⟨_,_,rfl,⟨v,k,rfl,H⟩,⟨y,l,rfl,I⟩⟩⟩⟩⟩⟩:=h;exact⟨m,a,n,b,o,c,p,k3,r,d,s,f,t,g,u,i,v,k,y,l,rfl,s0,z,s2,A,B,C,D,F,H,I⟩
structure Tgraph where
 view:(Option Tview)
 live:(List Bool)
instance gt_Tgraph:GoT Tgraph:=isoT (pairT (@instPtr Tview gt_Tview) (@instList Bool instBool)) (fun x=>(x.view,x.live)) ⟨U,[]⟩ Z true (fun h=>by cases h)
abbrev qzW(x:Tgraph)(p0 p1:Option Addr)(k1:Nat):List Value:=[.pointer p0,oS p1 (x.live).length k1]
theorem qeG{x:Tgraph}{cs:List Value}(h:GoT.R w S x cs):∃b c a,cs=(qzW x b c a)/\PtR w S x.view b/\SlR w S x.live c a:=by
 obtain⟨_,_,rfl,f,⟨c,a,rfl,d⟩⟩:=h;obtain⟨b,rfl,s0⟩:=qaA f;exact⟨b,c,a,rfl,s0,d⟩
structure Twork where
 graph:(Option Tgraph)
 job:qay
 timing:qr
 order:(List Int)
instance gt_Twork:GoT Twork:=isoT (pairT (@instPtr Tgraph gt_Tgraph) (pairT gt_TJob (pairT gt_TTiming (@instList Int instInt)))) (fun x=>(x.graph,x.job,x.timing,x.order)) ⟨U,(⟨(⟨(⟨[]⟩:qp),(⟨[],[],[]⟩:qd),[]⟩:qh),(⟨ByteArray.empty,0,0,0,0⟩:qu),[],[]⟩:qay),(⟨[],[],[]⟩:qr),[]⟩ Z true (fun h=>by cases h)
abbrev qAy(x:Twork)(p0 p1 p2 p3 p4 p5 p6 p7 p8 p9 p10 p11:Option Addr)(k1 k2 k3 k4 k5 k6 k7 k8 k9 k10 k11:Nat):List Value:=[.pointer p0,oS p1 (x.job.Ac.Au.Ay).length k1,oS p2 (x.job.Ac.Aa.Ab).length k2,oS p3 (x.job.Ac.Aa.As).length k3,oS p4 (x.job.Ac.Aa.Ak).length k4,oS p5 (x.job.Ac.Ai).length k5,.string x.job.Af.Bd,vi x.job.Af.Am,vi x.job.Af.Ar,vi x.job.Af.Aj,vi x.job.Af.Ap,oS p6 (x.job.Av).length k6,oS p7 (x.job.Aq).length k7,oS p8 (x.timing.Bb).length k8,oS p9 (x.timing.Ah).length k9,oS p10 (x.timing.Be).length k10,oS p11 (x.order).length k11]
theorem qnV{x:Twork}{cs:List Value}(h:GoT.R w S x cs):∃p r f s g t k3 u i v k y l z m A n B o c a d b,cs=(qAy x p r s t u v y z A B c d f g k3 i k l m n o a b)/\PtR w S x.graph p/\SlR w S x.job.Ac.Au.Ay r f/\SlR w S x.job.Ac.Aa.Ab s g/\SlR w S x.job.Ac.Aa.As t k3/\SlR w S x.job.Ac.Aa.Ak u i/\SlR w S x.job.Ac.Ai v k/\SlR w S x.job.Av y l/\SlR w S x.job.Aq z m/\SlR w S x.timing.Bb A n/\SlR w S x.timing.Ah B o/\SlR w S x.timing.Be c a/\SlR w S x.order d b:=by
 obtain⟨_,_,rfl,O,⟨_,_,rfl,⟨_,_,rfl,⟨_,_,rfl,⟨r,f,rfl,F⟩,⟨_,_,rfl,⟨_,_,rfl,⟨s,g,rfl,s2⟩,⟨_,_,rfl,⟨t,k3,rfl,H⟩,⟨u,i,rfl,I⟩⟩⟩,⟨v,k,rfl,J⟩⟩⟩,⟨_,_,rfl,⟨_,_,rfl,rfl,⟨_,_,rfl,rfl,⟨_,_,rfl,rfl,⟨_,_,rfl,rfl,rfl⟩⟩⟩⟩,⟨_,_,rfl,⟨y,l,rfl,K⟩,⟨z,m,rfl,L⟩⟩⟩⟩,⟨_,_,rfl,⟨_,_,rfl,⟨A,n,rfl,M⟩,⟨_,_,rfl,⟨B,o,rfl,N⟩,⟨c,a,rfl,C⟩⟩⟩,⟨d,b,rfl,D⟩⟩⟩⟩:=h;obtain⟨p,rfl,s0⟩:=qaA O;exact⟨p,r,f,s,g,t,k3,u,i,v,k,y,l,z,m,A,n,B,o,c,a,d,b,rfl,s0,F,s2,H,I,J,K,L,M,N,C,D⟩
structure Tl05Place where
 instance_:Int
 pin:Int
 net:Int
 drives:Bool
instance gt_Tl05Place:GoT Tl05Place:=isoT (pairT instInt (pairT instInt (pairT instInt instBool))) (fun x=>(x.instance_,x.pin,x.net,x.drives)) ⟨0,0,0,false⟩ Z true (fun h=>by cases h)
instance fl_Tl05Place:Flat Tl05Place:=qiu (pairT instInt (pairT instInt (pairT instInt instBool))) (fun x:Tl05Place=>(x.instance_,x.pin,x.net,x.drives)) ⟨0,0,0,false⟩ Z true (fun h=>by cases h) (qbr _ _ (inferInstanceAs (Flat Int)) (qbr _ _ (inferInstanceAs (Flat Int)) (qbr _ _ (inferInstanceAs (Flat Int)) (inferInstanceAs (Flat Bool)))))
abbrev qmw(x:Tl05Place):List Value:=[vi x.instance_,vi x.pin,vi x.net,.bool x.drives]
theorem qb5{x:Tl05Place}{cs:List Value}(h:GoT.R w S x cs):cs=(qmw x):=by
 obtain⟨_,_,rfl,rfl,⟨_,_,rfl,rfl,⟨_,_,rfl,rfl,rfl⟩⟩⟩:=h;exact Z
theorem qf1(x:Tl05Place):GoT.R w S x (qmw x):=have h:=pR (rI x.instance_) (pR (rI x.pin) (pR (rI x.net) (rB x.drives)));h
structure qT where
 e0:Int
 e1:Int
instance gt_TA2_Int:GoT qT:=isoT (pairT instInt instInt) (fun x=>(x.e0,x.e1)) ⟨0,0⟩ Z true (fun h=>by cases h)
instance fl_TA2_Int:Flat qT:=qiu (pairT instInt instInt) (fun x:qT=>(x.e0,x.e1)) ⟨0,0⟩ Z true (fun h=>by cases h) (qbr _ _ (inferInstanceAs (Flat Int)) (inferInstanceAs (Flat Int)))
abbrev qtP(x:qT):List Value:=[vi x.e0,vi x.e1]
theorem qu4{x:qT}{cs:List Value}(h:GoT.R w S x cs):cs=(qtP x):=by
 obtain⟨_,_,rfl,rfl,rfl⟩:=h;exact Z
theorem qdm(x:qT):GoT.R w S x (qtP x):=have h:=pR (rI x.e0) (rI x.e1);h
structure Tweight where
 index:Int
 part:Int
instance gt_Tweight:GoT Tweight:=isoT (pairT instInt instInt) (fun x=>(x.index,x.part)) ⟨0,0⟩ Z true (fun h=>by cases h)
instance fl_Tweight:Flat Tweight:=qiu (pairT instInt instInt) (fun x:Tweight=>(x.index,x.part)) ⟨0,0⟩ Z true (fun h=>by cases h) (qbr _ _ (inferInstanceAs (Flat Int)) (inferInstanceAs (Flat Int)))
abbrev qq8(x:Tweight):List Value:=[vi x.index,vi x.part]
theorem qqk{x:Tweight}{cs:List Value}(h:GoT.R w S x cs):cs=(qq8 x):=by
 obtain⟨_,_,rfl,rfl,rfl⟩:=h;exact Z
theorem qoP(x:Tweight):GoT.R w S x (qq8 x):=have h:=pR (rI x.index) (rI x.part);h
def tab:Tab:=[ (2,⟨.int .i64,1,8,V (vi 0),[]⟩),(3,⟨.int .i64,1,8,V (vi 0),[]⟩),(4,⟨.bool,1,1,V (.bool false),[]⟩),(5,⟨.int .u8,1,1,V (.int .u8 0),[]⟩),(9,⟨.str,1,16,V (.string ByteArray.empty),[]⟩),(22,⟨.slice 229,1,24,V (.slice U 0 0),[]⟩),(24,⟨.struct,1,24,V (.agg #[.slice U 0 0]),[(0,1,V false)]⟩),(25,⟨.slice 232,1,24,V (.slice U 0 0),[]⟩),(26,⟨.slice 9,1,24,V (.slice U 0 0),[]⟩),(27,⟨.slice 235,1,24,V (.slice U 0 0),[]⟩),(29,⟨.struct,3,72,V (.agg #[.slice U 0 0,.slice U 0 0,.slice U 0 0]),[(0,1,V false),(1,1,V false),(2,1,V false)]⟩),(30,⟨.slice 175,1,24,V (.slice U 0 0),[]⟩),(32,⟨.struct,5,120,V (.agg #[.slice U 0 0,.slice U 0 0,.slice U 0 0,.slice U 0 0,.slice U 0 0]),[(0,1,V true),(1,3,V true),(4,1,V false)]⟩),(34,⟨.struct,5,48,V (.agg #[.string ByteArray.empty,vi 0,vi 0,vi 0,vi 0]),[(0,1,V false),(1,1,V false),(2,1,V false),(3,1,V false),(4,1,V false)]⟩),(35,⟨.slice 2,1,24,V (.slice U 0 0),[]⟩),(36,⟨.slice 132,1,24,V (.slice U 0 0),[]⟩),(38,⟨.struct,12,216,V (.agg #[.slice U 0 0,.slice U 0 0,.slice U 0 0,.slice U 0 0,.slice U 0 0,.string ByteArray.empty,vi 0,vi 0,vi 0,vi 0,.slice U 0 0,.slice U 0 0]),[(0,5,V true),(5,5,V true),(10,1,V false),(11,1,V false)]⟩),(41,⟨.struct,3,40,V (.agg #[vi 0,.slice U 0 0,vi 0]),[(0,1,V false),(1,1,V false),(2,1,V false)]⟩),(44,⟨.slice 251,1,24,V (.slice U 0 0),[]⟩),(46,⟨.struct,1,24,V (.agg #[.slice U 0 0]),[(0,1,V false)]⟩),(47,⟨.slice 253,1,24,V (.slice U 0 0),[]⟩),(48,⟨.slice 255,1,24,V (.slice U 0 0),[]⟩),(50,⟨.struct,3,72,V (.agg #[.slice U 0 0,.slice U 0 0,.slice U 0 0]),[(0,1,V false),(1,1,V false),(2,1,V false)]⟩),(51,⟨.slice 183,1,24,V (.slice U 0 0),[]⟩),(53,⟨.struct,5,120,V (.agg #[.slice U 0 0,.slice U 0 0,.slice U 0 0,.slice U 0 0,.slice U 0 0]),[(0,1,V true),(1,3,V true),(4,1,V false)]⟩),(54,⟨.struct,5,48,V (.agg #[.string ByteArray.empty,vi 0,vi 0,vi 0,vi 0]),[(0,1,V false),(1,1,V false),(2,1,V false),(3,1,V false),(4,1,V false)]⟩),(55,⟨.slice 128,1,24,V (.slice U 0 0),[]⟩),(57,⟨.struct,12,216,V (.agg #[.slice U 0 0,.slice U 0 0,.slice U 0 0,.slice U 0 0,.slice U 0 0,.string ByteArray.empty,vi 0,vi 0,vi 0,vi 0,.slice U 0 0,.slice U 0 0]),[(0,5,V true),(5,5,V true),(10,1,V false),(11,1,V false)]⟩),(64,⟨.slice 41,1,24,V (.slice U 0 0),[]⟩),(83,⟨.ptr,1,8,V (.pointer U),[]⟩),(102,⟨.struct,2,16,V (.agg #[vi 0,vi 0]),[(0,1,V false),(1,1,V false)]⟩),(108,⟨.slice 4,1,24,V (.slice U 0 0),[]⟩),(109,⟨.slice 102,1,24,V (.slice U 0 0),[]⟩),(111,⟨.struct,3,72,V (.agg #[.slice U 0 0,.slice U 0 0,.slice U 0 0]),[(0,1,V false),(1,1,V false),(2,1,V false)]⟩),(112,⟨.slice 154,1,24,V (.slice U 0 0),[]⟩),(114,⟨.struct,17,336,V (.agg #[.slice U 0 0,.slice U 0 0,.slice U 0 0,.slice U 0 0,.slice U 0 0,.string ByteArray.empty,vi 0,vi 0,vi 0,vi 0,.slice U 0 0,.slice U 0 0,.slice U 0 0,.slice U 0 0,.slice U 0 0,.slice U 0 0,.slice U 0 0]),[(0,12,V true),(12,1,V false),(13,1,V false),(14,3,V true)]⟩),(115,⟨.ptr,1,8,V (.pointer U),[]⟩),(117,⟨.struct,17,320,V (.agg #[.pointer U,.slice U 0 0,.slice U 0 0,.slice U 0 0,.slice U 0 0,.slice U 0 0,.string ByteArray.empty,vi 0,vi 0,vi 0,vi 0,.slice U 0 0,.slice U 0 0,.slice U 0 0,.slice U 0 0,.slice U 0 0,.slice U 0 0]),[(0,1,V false),(1,12,V true),(13,3,V true),(16,1,V false)]⟩),(128,⟨.struct,5,40,V (.agg #[vi 0,vi 0,vi 0,vi 0,vi 0]),[(0,1,V false),(1,2,V true),(3,2,V true)]⟩),(130,⟨.struct,2,16,V (.agg #[vi 0,vi 0]),[(0,1,V false),(1,1,V false)]⟩),(132,⟨.struct,5,40,V (.agg #[vi 0,vi 0,vi 0,vi 0,vi 0]),[(0,1,V false),(1,2,V true),(3,2,V true)]⟩),(136,⟨.ptr,1,8,V (.pointer U),[]⟩),(138,⟨.struct,2,32,V (.agg #[.pointer U,.slice U 0 0]),[(0,1,V false),(1,1,V false)]⟩),(154,⟨.struct,4,32,V (.agg #[vi 0,vi 0,vi 0,vi 0]),[(0,1,V false),(1,1,V false),(2,1,V false),(3,1,V false)]⟩),(158,⟨.slice 193,1,24,V (.slice U 0 0),[]⟩),(159,⟨.slice 35,1,24,V (.slice U 0 0),[]⟩),(161,⟨.struct,10,240,V (.agg #[.slice U 0 0,.slice U 0 0,.slice U 0 0,.slice U 0 0,.slice U 0 0,.slice U 0 0,.slice U 0 0,.slice U 0 0,.slice U 0 0,.slice U 0 0]),[(0,5,V true),(5,1,V false),(6,1,V false),(7,1,V false),(8,1,V false),(9,1,V false)]⟩),(162,⟨.other,1,8,V (.nilFunc),[]⟩),(175,⟨.struct,4,96,V (.agg #[.slice U 0 0,.slice U 0 0,.slice U 0 0,.slice U 0 0]),[(0,1,V false),(1,1,V false),(2,1,V false),(3,1,V false)]⟩),(183,⟨.struct,4,96,V (.agg #[.slice U 0 0,.slice U 0 0,.slice U 0 0,.slice U 0 0]),[(0,1,V false),(1,1,V false),(2,1,V false),(3,1,V false)]⟩),(193,⟨.struct,4,32,V (.agg #[vi 0,vi 0,vi 0,.bool false]),[(0,1,V false),(1,1,V false),(2,1,V false),(3,1,V false)]⟩),(209,⟨.slice 287,1,24,V (.slice U 0 0),[]⟩),(221,⟨.int .u64,1,8,V (.int .u64 0),[]⟩),(222,⟨.slice 3,1,24,V (.slice U 0 0),[]⟩),(226,⟨.slice 342,1,24,V (.slice U 0 0),[]⟩),(227,⟨.slice 346,1,24,V (.slice U 0 0),[]⟩),(229,⟨.struct,7,112,V (.agg #[.string ByteArray.empty,vi 0,.slice U 0 0,.slice U 0 0,.slice U 0 0,vi 0,vi 0]),[(0,1,V false),(1,1,V false),(2,1,V false),(3,1,V false),(4,1,V false),(5,1,V false),(6,1,V false)]⟩),(232,⟨.struct,3,48,V (.agg #[.string ByteArray.empty,vi 0,.slice U 0 0]),[(0,1,V false),(1,1,V false),(2,1,V false)]⟩),(235,⟨.struct,3,32,V (.agg #[.string ByteArray.empty,vi 0,vi 0]),[(0,1,V false),(1,1,V false),(2,1,V false)]⟩),(236,⟨.slice 243,1,24,V (.slice U 0 0),[]⟩),(238,⟨.struct,6,80,V (.agg #[vi 0,vi 0,vi 0,vi 0,.slice U 0 0,.slice U 0 0]),[(0,1,V false),(1,1,V false),(2,1,V false),(3,1,V false),(4,1,V false),(5,1,V false)]⟩),(243,⟨.struct,3,72,V (.agg #[.slice U 0 0,.slice U 0 0,.slice U 0 0]),[(0,1,V false),(1,1,V false),(2,1,V false)]⟩),(248,⟨.slice 328,1,24,V (.slice U 0 0),[]⟩),(249,⟨.slice 238,1,24,V (.slice U 0 0),[]⟩),(251,⟨.struct,7,112,V (.agg #[.string ByteArray.empty,vi 0,.slice U 0 0,.slice U 0 0,.slice U 0 0,vi 0,vi 0]),[(0,1,V false),(1,1,V false),(2,1,V false),(3,1,V false),(4,1,V false),(5,1,V false),(6,1,V false)]⟩),(253,⟨.struct,3,48,V (.agg #[.string ByteArray.empty,vi 0,.slice U 0 0]),[(0,1,V false),(1,1,V false),(2,1,V false)]⟩),(255,⟨.struct,3,32,V (.agg #[.string ByteArray.empty,vi 0,vi 0]),[(0,1,V false),(1,1,V false),(2,1,V false)]⟩),(257,⟨.ptr,1,8,V (.pointer U),[]⟩),(287,⟨.struct,4,32,V (.agg #[vi 0,vi 0,vi 0,.bool false]),[(0,1,V false),(1,1,V false),(2,1,V false),(3,1,V false)]⟩),(326,⟨.slice 5,1,24,V (.slice U 0 0),[]⟩),(328,⟨.struct,4,40,V (.agg #[.string ByteArray.empty,vi 0,vi 0,.bool false]),[(0,1,V false),(1,1,V false),(2,1,V false),(3,1,V false)]⟩),(342,⟨.struct,4,40,V (.agg #[.string ByteArray.empty,vi 0,vi 0,.bool false]),[(0,1,V false),(1,1,V false),(2,1,V false),(3,1,V false)]⟩),(344,⟨.slice 390,1,24,V (.slice U 0 0),[]⟩),(346,⟨.struct,6,80,V (.agg #[vi 0,vi 0,vi 0,vi 0,.slice U 0 0,.slice U 0 0]),[(0,1,V false),(1,1,V false),(2,1,V false),(3,1,V false),(4,1,V false),(5,1,V false)]⟩),(357,⟨.slice 359,1,24,V (.slice U 0 0),[]⟩),(359,⟨.arr 2 2,2,16,V (.agg #[vi 0,vi 0]),[]⟩),(362,⟨.slice 366,1,24,V (.slice U 0 0),[]⟩),(366,⟨.struct,2,16,V (.agg #[vi 0,vi 0]),[(0,1,V false),(1,1,V false)]⟩),(390,⟨.struct,3,72,V (.agg #[.slice U 0 0,.slice U 0 0,.slice U 0 0]),[(0,1,V false),(1,1,V false),(2,1,V false)]⟩)]
theorem qa:TabOk prog tab:=TabOk.mk (by kernel_rfl)
theorem rp{n:Nat}{Q:Exit->Act->World->Prop}{k:List It}{e:Env}{w:World}{all:Array Oper}{l:List Oper}{a:Op}{d t:Nat}{ps:String}{af:Array Edge}{v:Value}
  (h:pev tab e a=V v) (c:Nat.blt d n=true) (b:Run prog n Q (.ops all l::k) ((d,v)::e) w):Run prog n Q (.ops all (⟨V d,a,t,ps,af,U⟩::l)::k) e w:=r_p qa h c b
theorem dp{n:Nat}{Q:Exit->Act->World->Prop}{k:List It}{e:Env}{w:World}{all:Array Oper}{l:List Oper}{a:Op}{d t:Nat}{ps:String}{af:Array Edge}{v:Value}
  (h:pev tab e a=V v) (c:Nat.blt d n=true) (b:RunD prog n Q k all w l ((d,v)::e)):RunD prog n Q k all w (⟨V d,a,t,ps,af,U⟩::l) e:=d_p qa h c b
section
variable{P:Program}{n:Nat}{Q:Exit->Act->World->Prop}{k:List It}{e:Env}{w:World}
theorem zSR{b:Nat}{a:List Oper}{x3:Code}(h:Run P n Q (.ops a.toArray a::.code x3::k) e w):Run P n Q (.code (.seq (.region b a.toArray false) x3)::k) e w:=qZ <|qS h
theorem zKSR{c:Nat}{a:List Oper}{b:Code}(h:Run P n Q (.ops a.toArray a::.code b::k) e w):Run P n Q (.code .skip::.code (.seq (.region c a.toArray false) b)::k) e w:=qcI <|qZ <|qS h
theorem zNSR{a1:Array Oper}{c:Nat}{a:List Oper}{b:Code}(h:Run P n Q (.ops a.toArray a::.code b::k) e w):Run P n Q (.ops a1 []::.code (.seq (.region c a.toArray false) b)::k) e w:=qan <|qZ <|qS h
theorem zKS{x3:Code}{a:Code}(h:Run P n Q (.code x3::.code a::k) e w):Run P n Q (.code .skip::.code (.seq x3 a)::k) e w:=qcI <|qZ h
theorem zNS{a1:Array Oper}{x3:Code}{a:Code}(h:Run P n Q (.code x3::.code a::k) e w):Run P n Q (.ops a1 []::.code (.seq x3 a)::k) e w:=qan <|qZ h
theorem zNSS{a1:Array Oper}{b:Code}{c:Code}{a:Code}(h:Run P n Q (.code b::.code c::.code a::k) e w):Run P n Q (.ops a1 []::.code (.seq (.seq b c) a)::k) e w:=qan <|qZ <|qZ h
theorem zKSB{a:Nat}{c:Code}{b:Code}(h:Run P n Q (.code c::.blk a::.code b::k) e w):Run P n Q (.code .skip::.code (.seq (.block a c) b)::k) e w:=qcI <|qZ <|qm h
theorem zKSBSR{b:Nat}{f:Nat}{a:List Oper}{d:Code}{c:Code}(h:Run P n Q (.ops a.toArray a::.code d::.blk b::.code c::k) e w):Run P n Q (.code .skip::.code (.seq (.block b (.seq (.region f a.toArray false) d)) c)::k) e w:=qcI <|qZ <|qm <|qZ <|qS h
theorem zSS{a:Code}{b:Code}{x3:Code}(h:Run P n Q (.code a::.code b::.code x3::k) e w):Run P n Q (.code (.seq (.seq a b) x3)::k) e w:=qZ <|qZ h
theorem zKSS{b:Code}{c:Code}{a:Code}(h:Run P n Q (.code b::.code c::.code a::k) e w):Run P n Q (.code .skip::.code (.seq (.seq b c) a)::k) e w:=qcI <|qZ <|qZ h
end
section
variable{w0 w:World}{L:List Ch}{n:Nat}{Q:Exit->Act->World->Prop}{k k':List It}{e e':Env}{all:Array Oper}{l l':List Oper}{z:List Nat}
theorem X0(m:Nat)(a:xs tab n m [] k e [] []=V (k',e',z,z))(b:Run prog n Q k' e' w):Run prog n Q k e w:=((qvT (P:=prog) (Q:=Q) (w:=w) qa m _ _ _ _ _ _ _ _ _ (fun _ h=>by cases h) rfl a).2 rfl).2 b
theorem Y0(m:Nat)(a:xd tab n all m [] l e [] []=V (l',e',z,z))(b:RunD prog n Q k all w l' e'):RunD prog n Q k all w l e:=((qBA (P:=prog) (Q:=Q) (k:=k) (w:=w) (all:=all) qa m _ _ _ _ _ _ _ _ _ (fun _ h=>by cases h) rfl a).2 rfl).2 b
theorem X1(m:Nat)(i0:Nat){b0 b:Nat}{a:List Value}(h:SH w0 w L)(c:(L[i0]?,xs tab n m [(b0,a)] k e [] [])=(V (oX b0 a b),V (k',e',z,z)))(f:Run prog n Q k' e' w):Run prog n Q k e w:=by
 simp only[Prod.mk.injEq] at c;exact((qvT (P:=prog) (Q:=Q) (w:=w) qa m _ _ _ _ _ _ _ _ _ (fun p d=>by
  simp only[Jf,jV,or_false] at d;rcases d with rfl
  ·exact h.box i0 c.1) Z c.2).2 Z).2 f
theorem Y1(m:Nat)(i0:Nat){b0 b:Nat}{a:List Value}(h:SH w0 w L)(c:(L[i0]?,xd tab n all m [(b0,a)] l e [] [])=(V (oX b0 a b),V (l',e',z,z)))(f:RunD prog n Q k all w l' e'):RunD prog n Q k all w l e:=by
 simp only[Prod.mk.injEq] at c;exact((qBA (P:=prog) (Q:=Q) (k:=k) (w:=w) (all:=all) qa m _ _ _ _ _ _ _ _ _ (fun p d=>by
  simp only[Jf,jV,or_false] at d;rcases d with rfl
  ·exact h.box i0 c.1) Z c.2).2 Z).2 f
theorem X2(m:Nat)(i0 i1:Nat){b0 b:Nat}{a:List Value}{b1 c:Nat}{cs1:List Value}(h:SH w0 w L)(d:(L[i0]?,L[i1]?,xs tab n m [(b0,a),(b1,cs1)] k e [] [])=(V (oX b0 a b),V (oX b1 cs1 c),V (k',e',z,z)))(g:Run prog n Q k' e' w):Run prog n Q k e w:=by
 simp only[Prod.mk.injEq] at d;exact((qvT (P:=prog) (Q:=Q) (w:=w) qa m _ _ _ _ _ _ _ _ _ (fun p f=>by
  simp only[Jf,jV,or_false] at f;rcases f with rfl|rfl
  ·exact h.box i0 d.1
  ·exact h.box i1 d.2.1) Z d.2.2).2 Z).2 g
theorem X3(m:Nat)(i0 i1 b:Nat){b0 c:Nat}{a:List Value}{b1 d:Nat}{cs1:List Value}{b2 f:Nat}{cs2:List Value}(h:SH w0 w L)(g:(L[i0]?,L[i1]?,L[b]?,xs tab n m [(b0,a),(b1,cs1),(b2,cs2)] k e [] [])=(V (oX b0 a c),V (oX b1 cs1 d),V (oX b2 cs2 f),V (k',e',z,z)))(l:Run prog n Q k' e' w):Run prog n Q k e w:=by
 simp only[Prod.mk.injEq] at g;exact((qvT (P:=prog) (Q:=Q) (w:=w) qa m _ _ _ _ _ _ _ _ _ (fun p i=>by
  simp only[Jf,jV,or_false] at i;rcases i with rfl|rfl|rfl
  ·exact h.box i0 g.1
  ·exact h.box i1 g.2.1
  ·exact h.box b g.2.2.1) Z g.2.2.2).2 Z).2 l
theorem X4(m:Nat)(i0 i1 b c:Nat){b0 d:Nat}{a:List Value}{b1 f:Nat}{cs1:List Value}{b2 g:Nat}{cs2:List Value}{b3 i:Nat}{cs3:List Value}(h:SH w0 w L)(l:(L[i0]?,L[i1]?,L[b]?,L[c]?,xs tab n m [(b0,a),(b1,cs1),(b2,cs2),(b3,cs3)] k e [] [])=(V (oX b0 a d),V (oX b1 cs1 f),V (oX b2 cs2 g),V (oX b3 cs3 i),V (k',e',z,z)))(r:Run prog n Q k' e' w):Run prog n Q k e w:=by
 simp only[Prod.mk.injEq] at l;exact((qvT (P:=prog) (Q:=Q) (w:=w) qa m _ _ _ _ _ _ _ _ _ (fun p o=>by
  simp only[Jf,jV,or_false] at o;rcases o with rfl|rfl|rfl|rfl
  ·exact h.box i0 l.1
  ·exact h.box i1 l.2.1
  ·exact h.box b l.2.2.1
  ·exact h.box c l.2.2.2.1) Z l.2.2.2.2).2 Z).2 r
end
section
variable{w0 w:World}{L:List Ch}{n:Nat}{Q:Exit->Act->World->Prop}{k:List It}{e:Env}{all:Array Oper}{l:List Oper}
theorem zp1{a:Op}{b f:Nat}{s0:String}{d:Array Edge}{c:Value}(h:(pev tab (e) a,Nat.blt b n)=(V c,true))(g:Run prog n Q (.ops all l::k) ((b,c)::e) w):Run prog n Q (.ops all (⟨V b,a,f,s0,d,U⟩::l)::k) e w:=by
 have H:=h;simp only[Prod.mk.injEq] at H;exact rp (H.1) (H.2) (g)
theorem zd1{a:Op}{b f:Nat}{s0:String}{d:Array Edge}{c:Value}(h:(pev tab (e) a,Nat.blt b n)=(V c,true))(g:RunD prog n Q k all w l ((b,c)::e)):RunD prog n Q k all w (⟨V b,a,f,s0,d,U⟩::l) e:=by
 have H:=h;simp only[Prod.mk.injEq] at H;exact dp (H.1) (H.2) (g)
theorem zp2{a:Op}{c p:Nat}{s0:String}{i:Array Edge}{f:Value}{b:Op}{d r:Nat}{o:String}{m:Array Edge}{g:Value}(h:(pev tab (e) a,Nat.blt c n,pev tab ((c,f)::e) b,Nat.blt d n)=(V f,true,V g,true))(s:Run prog n Q (.ops all l::k) ((d,g)::(c,f)::e) w):Run prog n Q (.ops all (⟨V c,a,p,s0,i,U⟩::⟨V d,b,r,o,m,U⟩::l)::k) e w:=by
 have H:=h;simp only[Prod.mk.injEq] at H;exact rp (H.1) (H.2.1) (rp (H.2.2.1) (H.2.2.2) (s))
theorem zd2{a:Op}{c p:Nat}{s0:String}{i:Array Edge}{f:Value}{b:Op}{d r:Nat}{o:String}{m:Array Edge}{g:Value}(h:(pev tab (e) a,Nat.blt c n,pev tab ((c,f)::e) b,Nat.blt d n)=(V f,true,V g,true))(s:RunD prog n Q k all w l ((d,g)::(c,f)::e)):RunD prog n Q k all w (⟨V c,a,p,s0,i,U⟩::⟨V d,b,r,o,m,U⟩::l) e:=by
 have H:=h;simp only[Prod.mk.injEq] at H;exact dp (H.1) (H.2.1) (dp (H.2.2.1) (H.2.2.2) (s))
theorem zp3{b:Op}{a s:Nat}{s0:String}{m:Array Edge}{f:Value}{c:Op}{d t:Nat}{r:String}{o:Array Edge}{g:Value}{op2:Op}{d2 u:Nat}{s2:String}{p:Array Edge}{i:Value}(h:(pev tab (e) b,Nat.blt a n,pev tab ((a,f)::e) c,Nat.blt d n,pev tab ((d,g)::(a,f)::e) op2,Nat.blt d2 n)=(V f,true,V g,true,V i,true))(v:Run prog n Q (.ops all l::k) ((d2,i)::(d,g)::(a,f)::e) w):Run prog n Q (.ops all (⟨V a,b,s,s0,m,U⟩::⟨V d,c,t,r,o,U⟩::⟨V d2,op2,u,s2,p,U⟩::l)::k) e w:=by
 have H:=h;simp only[Prod.mk.injEq] at H;exact rp (H.1) (H.2.1) (rp (H.2.2.1) (H.2.2.2.1) (rp (H.2.2.2.2.1) (H.2.2.2.2.2) (v)))
theorem zd3{b:Op}{a s:Nat}{s0:String}{m:Array Edge}{f:Value}{c:Op}{d t:Nat}{r:String}{o:Array Edge}{g:Value}{op2:Op}{d2 u:Nat}{s2:String}{p:Array Edge}{i:Value}(h:(pev tab (e) b,Nat.blt a n,pev tab ((a,f)::e) c,Nat.blt d n,pev tab ((d,g)::(a,f)::e) op2,Nat.blt d2 n)=(V f,true,V g,true,V i,true))(v:RunD prog n Q k all w l ((d2,i)::(d,g)::(a,f)::e)):RunD prog n Q k all w (⟨V a,b,s,s0,m,U⟩::⟨V d,c,t,r,o,U⟩::⟨V d2,op2,u,s2,p,U⟩::l) e:=by
 have H:=h;simp only[Prod.mk.injEq] at H;exact dp (H.1) (H.2.1) (dp (H.2.2.1) (H.2.2.2.1) (dp (H.2.2.2.2.1) (H.2.2.2.2.2) (v)))
theorem zp4{c:Op}{a y:Nat}{s0:String}{r:Array Edge}{g:Value}{d:Op}{b z:Nat}{v:String}{s:Array Edge}{i:Value}{op2:Op}{d2 A:Nat}{s2:String}{t:Array Edge}{o:Value}{f:Op}{m B:Nat}{x:String}{u:Array Edge}{p:Value}(h:(pev tab (e) c,Nat.blt a n,pev tab ((a,g)::e) d,Nat.blt b n,pev tab ((b,i)::(a,g)::e) op2,Nat.blt d2 n,pev tab ((d2,o)::(b,i)::(a,g)::e) f,Nat.blt m n)=(V g,true,V i,true,V o,true,V p,true))(C:Run prog n Q (.ops all l::k) ((m,p)::(d2,o)::(b,i)::(a,g)::e) w):Run prog n Q (.ops all (⟨V a,c,y,s0,r,U⟩::⟨V b,d,z,v,s,U⟩::⟨V d2,op2,A,s2,t,U⟩::⟨V m,f,B,x,u,U⟩::l)::k) e w:=by
 have H:=h;simp only[Prod.mk.injEq] at H;exact rp (H.1) (H.2.1) (rp (H.2.2.1) (H.2.2.2.1) (rp (H.2.2.2.2.1) (H.2.2.2.2.2.1) (rp (H.2.2.2.2.2.2.1) (H.2.2.2.2.2.2.2) (C))))
theorem zd4{c:Op}{a y:Nat}{s0:String}{r:Array Edge}{g:Value}{d:Op}{b z:Nat}{v:String}{s:Array Edge}{i:Value}{op2:Op}{d2 A:Nat}{s2:String}{t:Array Edge}{o:Value}{f:Op}{m B:Nat}{x:String}{u:Array Edge}{p:Value}(h:(pev tab (e) c,Nat.blt a n,pev tab ((a,g)::e) d,Nat.blt b n,pev tab ((b,i)::(a,g)::e) op2,Nat.blt d2 n,pev tab ((d2,o)::(b,i)::(a,g)::e) f,Nat.blt m n)=(V g,true,V i,true,V o,true,V p,true))(C:RunD prog n Q k all w l ((m,p)::(d2,o)::(b,i)::(a,g)::e)):RunD prog n Q k all w (⟨V a,c,y,s0,r,U⟩::⟨V b,d,z,v,s,U⟩::⟨V d2,op2,A,s2,t,U⟩::⟨V m,f,B,x,u,U⟩::l) e:=by
 have H:=h;simp only[Prod.mk.injEq] at H;exact dp (H.1) (H.2.1) (dp (H.2.2.1) (H.2.2.2.1) (dp (H.2.2.2.2.1) (H.2.2.2.2.2.1) (dp (H.2.2.2.2.2.2.1) (H.2.2.2.2.2.2.2) (C))))
theorem zp5{d:Op}{a C:Nat}{s0:String}{t:Array Edge}{c:Value}{f:Op}{b D:Nat}{z:String}{u:Array Edge}{i:Value}{op2:Op}{d2 F:Nat}{s2:String}{v:Array Edge}{o:Value}{g:Op}{m I:Nat}{A:String}{x:Array Edge}{r:Value}{op4:Op}{p J:Nat}{B:String}{y:Array Edge}{s:Value}(h:(pev tab (e) d,Nat.blt a n,pev tab ((a,c)::e) f,Nat.blt b n,pev tab ((b,i)::(a,c)::e) op2,Nat.blt d2 n,pev tab ((d2,o)::(b,i)::(a,c)::e) g,Nat.blt m n,pev tab ((m,r)::(d2,o)::(b,i)::(a,c)::e) op4,Nat.blt p n)=(V c,true,V i,true,V o,true,V r,true,V s,true))(K:Run prog n Q (.ops all l::k) ((p,s)::(m,r)::(d2,o)::(b,i)::(a,c)::e) w):Run prog n Q (.ops all (⟨V a,d,C,s0,t,U⟩::⟨V b,f,D,z,u,U⟩::⟨V d2,op2,F,s2,v,U⟩::⟨V m,g,I,A,x,U⟩::⟨V p,op4,J,B,y,U⟩::l)::k) e w:=by
 have H:=h;simp only[Prod.mk.injEq] at H;exact rp (H.1) (H.2.1) (rp (H.2.2.1) (H.2.2.2.1) (rp (H.2.2.2.2.1) (H.2.2.2.2.2.1) (rp (H.2.2.2.2.2.2.1) (H.2.2.2.2.2.2.2.1) (rp (H.2.2.2.2.2.2.2.2.1) (H.2.2.2.2.2.2.2.2.2) (K)))))
theorem zd5{d:Op}{a C:Nat}{s0:String}{t:Array Edge}{c:Value}{f:Op}{b D:Nat}{z:String}{u:Array Edge}{i:Value}{op2:Op}{d2 F:Nat}{s2:String}{v:Array Edge}{o:Value}{g:Op}{m I:Nat}{A:String}{x:Array Edge}{r:Value}{op4:Op}{p J:Nat}{B:String}{y:Array Edge}{s:Value}(h:(pev tab (e) d,Nat.blt a n,pev tab ((a,c)::e) f,Nat.blt b n,pev tab ((b,i)::(a,c)::e) op2,Nat.blt d2 n,pev tab ((d2,o)::(b,i)::(a,c)::e) g,Nat.blt m n,pev tab ((m,r)::(d2,o)::(b,i)::(a,c)::e) op4,Nat.blt p n)=(V c,true,V i,true,V o,true,V r,true,V s,true))(K:RunD prog n Q k all w l ((p,s)::(m,r)::(d2,o)::(b,i)::(a,c)::e)):RunD prog n Q k all w (⟨V a,d,C,s0,t,U⟩::⟨V b,f,D,z,u,U⟩::⟨V d2,op2,F,s2,v,U⟩::⟨V m,g,I,A,x,U⟩::⟨V p,op4,J,B,y,U⟩::l) e:=by
 have H:=h;simp only[Prod.mk.injEq] at H;exact dp (H.1) (H.2.1) (dp (H.2.2.1) (H.2.2.2.1) (dp (H.2.2.2.2.1) (H.2.2.2.2.2.1) (dp (H.2.2.2.2.2.2.1) (H.2.2.2.2.2.2.2.1) (dp (H.2.2.2.2.2.2.2.2.1) (H.2.2.2.2.2.2.2.2.2) (K)))))
theorem zl(i j:Nat){d t ty:Nat}{x:Operand}{c:TE}{ps:String}{af:Array Edge}{v:Value}{b:Nat}{cs:List Value}{g:TypeId}(h:SH w0 w L)(a:(L[i]?,opv e x,tab.get t,ld c cs j,Nat.blt d n)=(V (oX b cs g),V (.pointer (V ⟨b,0+j,U⟩)),V c,V v,true))
  (f:Run prog n Q (.ops all l::k) ((d,v)::e) w):Run prog n Q (.ops all (⟨V d,.load t x,ty,ps,af,U⟩::l)::k) e w:=by
 simp only[Prod.mk.injEq] at a;exact r_v (qf2 qa (h.box i a.1) (j:=j) a.2.1 a.2.2.1 a.2.2.2.1) a.2.2.2.2 f
theorem zc(j:Nat){d t ty:Nat}{x:Operand}{c:TE}{ps:String}{af:Array Edge}{v:Value}{b o:Nat}{cs:List Value}(h:CellsAt w b o cs)(a:(opv e x,tab.get t,ld c cs j,Nat.blt d n)=(V (.pointer (V ⟨b,o+j,U⟩)),V c,V v,true))
  (f:Run prog n Q (.ops all l::k) ((d,v)::e) w):Run prog n Q (.ops all (⟨V d,.load t x,ty,ps,af,U⟩::l)::k) e w:=by
 simp only[Prod.mk.injEq] at a;exact r_v (qf2 qa h (j:=j) a.1 a.2.1 a.2.2.1) a.2.2.2 f
theorem zdc(j:Nat){d t ty:Nat}{x:Operand}{c:TE}{ps:String}{af:Array Edge}{v:Value}{b o:Nat}{cs:List Value}(h:CellsAt w b o cs)(a:(opv e x,tab.get t,ld c cs j,Nat.blt d n)=(V (.pointer (V ⟨b,o+j,U⟩)),V c,V v,true))
  (g:RunD prog n Q k all w l ((d,v)::e)):RunD prog n Q k all w (⟨V d,.load t x,ty,ps,af,U⟩::l) e:=by
 simp only[Prod.mk.injEq] at a;exact d_v (fun _ f=>qf2 qa (h.below f) (j:=j) a.1 a.2.1 a.2.2.1) a.2.2.2 g
theorem zx{x i:Operand}{t ty d el m:Nat}{r a:TE}{ps:String}{af:Array Edge}{p:Option Addr}{h c:Nat}{y:IntKind}{iv:Int}{b o q:Nat}(u:p=V ⟨b,o,U⟩)(v:q=o+iv.toNat*m)(g:0<=iv/\iv<h)(f:(opv e x,opv e i,tab.get t,r.kind,tab.get el,a.size,Nat.blt d n)=(V (oS p h c),V (.int y iv),V r,TK.slice el,V a,m,true))(s:Run prog n Q (.ops all l::k) ((d,.pointer (V ⟨b,q,U⟩))::e) w):Run prog n Q (.ops all (⟨V d,.indexAddr t x i,ty,ps,af,U⟩::l)::k) e w:=by
 simp only[Prod.mk.injEq] at f;exact r_v (qv4 qa u v g f.1 f.2.1 f.2.2.1 f.2.2.2.1 f.2.2.2.2.1 f.2.2.2.2.2.1) f.2.2.2.2.2.2 s
theorem zxe{x i:Operand}{t ty d el m:Nat}{h a:TE}{ps:String}{af:Array Edge}{p:Option Addr}{g c:Nat}{y:IntKind}{iv:Int}{b o q:Nat}{α:Prop}(u:p=V ⟨b,o,U⟩)(v:q=o+iv.toNat*m)(f:0<=iv/\iv<g/\α)(r:(opv e x,opv e i,tab.get t,h.kind,tab.get el,a.size,Nat.blt d n)=(V (oS p g c),V (.int y iv),V h,TK.slice el,V a,m,true))(s:Run prog n Q (.ops all l::k) ((d,.pointer (V ⟨b,q,U⟩))::e) w):Run prog n Q (.ops all (⟨V d,.indexAddr t x i,ty,ps,af,U⟩::l)::k) e w:=zx u v ⟨f.1,f.2.1⟩ r s
theorem zdx{x i:Operand}{t ty d el m:Nat}{r a:TE}{ps:String}{af:Array Edge}{p:Option Addr}{h c:Nat}{y:IntKind}{iv:Int}{b o q:Nat}(u:p=V ⟨b,o,U⟩)(v:q=o+iv.toNat*m)(g:0<=iv/\iv<h)(f:(opv e x,opv e i,tab.get t,r.kind,tab.get el,a.size,Nat.blt d n)=(V (oS p h c),V (.int y iv),V r,TK.slice el,V a,m,true))(s:RunD prog n Q k all w l ((d,.pointer (V ⟨b,q,U⟩))::e)):RunD prog n Q k all w (⟨V d,.indexAddr t x i,ty,ps,af,U⟩::l) e:=by
 simp only[Prod.mk.injEq] at f;exact d_v (fun _ _=>qv4 qa u v g f.1 f.2.1 f.2.2.1 f.2.2.2.1 f.2.2.2.2.1 f.2.2.2.2.2.1) f.2.2.2.2.2.2 s
theorem zdxe{x i:Operand}{t ty d el m:Nat}{h a:TE}{ps:String}{af:Array Edge}{p:Option Addr}{g c:Nat}{y:IntKind}{iv:Int}{b o q:Nat}{α:Prop}(u:p=V ⟨b,o,U⟩)(v:q=o+iv.toNat*m)(f:0<=iv/\iv<g/\α)(r:(opv e x,opv e i,tab.get t,h.kind,tab.get el,a.size,Nat.blt d n)=(V (oS p g c),V (.int y iv),V h,TK.slice el,V a,m,true))(s:RunD prog n Q k all w l ((d,.pointer (V ⟨b,q,U⟩))::e)):RunD prog n Q k all w (⟨V d,.indexAddr t x i,ty,ps,af,U⟩::l) e:=zdx u v ⟨f.1,f.2.1⟩ r s
theorem zs(i:Nat){t ty:Nat}{ps:String}{af:Array Edge}{x v:Operand}{D:TE}{b j:Nat}{cs A z:List Value}{C:TypeId}{u:Value}{L':List Ch}(h:SH w0 w L)
  (B:(L[i]?,opv e x,opv e v,cellsL u,tab.get t,Nat.beq A.length D.size,Nat.ble (j+A.length) cs.length,ones A,splN cs j A,setN L i (oX b z C))=(V (oX b cs C),V (.pointer (V ⟨b,j,U⟩)),V u,A,V D,true,true,true,V z,V L'))
  (F:∀w',SH w0 w' L'->Run prog n Q (.ops all l::k) e w'):Run prog n Q (.ops all (⟨U,.store t x v,ty,ps,af,U⟩::l)::k) e w:=by
 simp only[Prod.mk.injEq] at B;obtain⟨d,f,g,m,o,p,r,s,y,a⟩:=B;subst m;have e1:=qu8 y;have c:=qxI a;subst e1 c;exact qA3 qa i h d f g o p r s F
end
section
variable{P:Program}{fnc:Func}{R:Ending->World->Prop}{n:Nat}{k:List It}{e:Env}{w0 w:World}{ops:Array Oper}{st:List Nat}{fuel:Nat}
theorem M0(K:Nat)(is:List Nat){C:World->Prop}{m K0 f a:Nat}{e':Env}{z:List Nat}(b:C w)(c:xa tab n ops is [] f e [] []=V (a,e',z,z))
  (d:RunA prog n (bodyPost prog fnc R) k ops st C a (bits m K) e' w) (g:oka ops st is (bits m K0) (bits m K)=true:=by kernel_rfl):RunA prog n (bodyPost prog fnc R) k ops st C f (bits m K0) e w:=by
 exact((qvJ (C:=C) (w:=w) (P:=prog) qa b is _ _ _ _ _ _ _ _ _ _ _ (fun _ h=>by cases h) rfl c g).2 rfl).2 d
theorem G0(K:Nat)(is:List Nat){C:World->Prop}{m K0 f a:Nat}{e':Env}{z:List Nat}{all:Array Oper}(b:C w)(c:xa tab n ops is [] f e [] []=V (a,e',z,z))
  (d:RunA prog n (bodyPost prog fnc R) k ops st C a (bits m K) e' w) (g:oka ops st is (bits m K0) (bits m K)=true:=by kernel_rfl):Run prog n (bodyPost prog fnc R) (.ops all []::.goal (NextA prog n (bodyPost prog fnc R) k ops st C f (bits m K0))::k) e w:=
 Ag b (M0 K is (C:=C) b c d g)
theorem M1(K:Nat)(is:List Nat)(i0:Nat){b0 b:Nat}{a:List Value}{LA:List Ch}{m K0 f d:Nat}{e':Env}{z:List Nat}(h:SH w0 w LA)(c:(LA[i0]?,xa tab n ops is [(b0,a)] f e [] [])=(V (oX b0 a b),V (d,e',z,z)))
  (i:RunA prog n (bodyPost prog fnc R) k ops st (fun w'=>SH w0 w' LA) d (bits m K) e' w) (l:oka ops st is (bits m K0) (bits m K)=true:=by kernel_rfl):RunA prog n (bodyPost prog fnc R) k ops st (fun w'=>SH w0 w' LA) f (bits m K0) e w:=by
 simp only[Prod.mk.injEq] at c;exact((qvJ (C:=(fun w'=>SH w0 w' LA)) (w:=w) (P:=prog) qa h is _ _ _ _ _ _ _ _ _ _ _ (fun p g _ o=>by
  simp only[Jf,jV,or_false] at g;rcases g with rfl
  ·exact SH.box o i0 c.1) Z c.2 l).2 Z).2 i
theorem M2(K:Nat)(is:List Nat)(i0 i1:Nat){b0 b:Nat}{a:List Value}{b1 c:Nat}{cs1:List Value}{LA:List Ch}{m K0 f g:Nat}{e':Env}{z:List Nat}(l:SH w0 w LA)(d:(LA[i0]?,LA[i1]?,xa tab n ops is [(b0,a),(b1,cs1)] f e [] [])=(V (oX b0 a b),V (oX b1 cs1 c),V (g,e',z,z)))
  (o:RunA prog n (bodyPost prog fnc R) k ops st (fun w'=>SH w0 w' LA) g (bits m K) e' w) (r:oka ops st is (bits m K0) (bits m K)=true:=by kernel_rfl):RunA prog n (bodyPost prog fnc R) k ops st (fun w'=>SH w0 w' LA) f (bits m K0) e w:=by
 simp only[Prod.mk.injEq] at d;exact((qvJ (C:=(fun w'=>SH w0 w' LA)) (w:=w) (P:=prog) qa l is _ _ _ _ _ _ _ _ _ _ _ (fun p h _ i=>by
  simp only[Jf,jV,or_false] at h;rcases h with rfl|rfl
  ·exact SH.box i i0 d.1
  ·exact SH.box i i1 d.2.1) Z d.2.2 r).2 Z).2 o
theorem M3(K:Nat)(is:List Nat)(i0 i1 b:Nat){b0 c:Nat}{a:List Value}{b1 d:Nat}{cs1:List Value}{b2 g:Nat}{cs2:List Value}{LA:List Ch}{m K0 f l:Nat}{e':Env}{z:List Nat}(r:SH w0 w LA)(h:(LA[i0]?,LA[i1]?,LA[b]?,xa tab n ops is [(b0,a),(b1,cs1),(b2,cs2)] f e [] [])=(V (oX b0 a c),V (oX b1 cs1 d),V (oX b2 cs2 g),V (l,e',z,z)))
  (s:RunA prog n (bodyPost prog fnc R) k ops st (fun w'=>SH w0 w' LA) l (bits m K) e' w) (t:oka ops st is (bits m K0) (bits m K)=true:=by kernel_rfl):RunA prog n (bodyPost prog fnc R) k ops st (fun w'=>SH w0 w' LA) f (bits m K0) e w:=by
 simp only[Prod.mk.injEq] at h;exact((qvJ (C:=(fun w'=>SH w0 w' LA)) (w:=w) (P:=prog) qa r is _ _ _ _ _ _ _ _ _ _ _ (fun p o _ i=>by
  simp only[Jf,jV,or_false] at o;rcases o with rfl|rfl|rfl
  ·exact SH.box i i0 h.1
  ·exact SH.box i i1 h.2.1
  ·exact SH.box i b h.2.2.1) Z h.2.2.2 t).2 Z).2 s
theorem M4(K:Nat)(is:List Nat)(i0 i1 b c:Nat){b0 d:Nat}{a:List Value}{b1 g:Nat}{cs1:List Value}{b2 h:Nat}{cs2:List Value}{b3 i:Nat}{cs3:List Value}{LA:List Ch}{m K0 f r:Nat}{e':Env}{z:List Nat}(t:SH w0 w LA)(l:(LA[i0]?,LA[i1]?,LA[b]?,LA[c]?,xa tab n ops is [(b0,a),(b1,cs1),(b2,cs2),(b3,cs3)] f e [] [])=(V (oX b0 a d),V (oX b1 cs1 g),V (oX b2 cs2 h),V (oX b3 cs3 i),V (r,e',z,z)))
  (u:RunA prog n (bodyPost prog fnc R) k ops st (fun w'=>SH w0 w' LA) r (bits m K) e' w) (v:oka ops st is (bits m K0) (bits m K)=true:=by kernel_rfl):RunA prog n (bodyPost prog fnc R) k ops st (fun w'=>SH w0 w' LA) f (bits m K0) e w:=by
 simp only[Prod.mk.injEq] at l;exact((qvJ (C:=(fun w'=>SH w0 w' LA)) (w:=w) (P:=prog) qa t is _ _ _ _ _ _ _ _ _ _ _ (fun p s _ o=>by
  simp only[Jf,jV,or_false] at s;rcases s with rfl|rfl|rfl|rfl
  ·exact SH.box o i0 l.1
  ·exact SH.box o i1 l.2.1
  ·exact SH.box o b l.2.2.1
  ·exact SH.box o c l.2.2.2.1) Z l.2.2.2.2 v).2 Z).2 u
theorem Aw(i K:Nat){C:World->Prop}{m K0 d:Nat}{b:Op}{t:Nat}{ps:String}{af:Array Edge}{v:Value}(l:∀w',C w'->Val prog n e ⟨V d,b,t,ps,af,U⟩ w' v)(c:C w)(a:(ops[i]?,Nat.blt d n)=(V (⟨V d,b,t,ps,af,U⟩:Oper),true))
  (g:RunA prog n (bodyPost prog fnc R) k ops st C fuel (bits m K) ((d,v)::e) w) (h:(bits m K0).setIfInBounds i true=bits m K:=by kernel_rfl)
  (f:(Region.noSelect ops&&Region.free .any ops (bits m K0) i&&(Region.ready .any ops (bits m K0)).contains i&&st.all (fun s=>!(Nat.beq s i)&&waitsB ops i s&&!((bits m K0).getD s true)))=true:=by kernel_rfl) :
  RunA prog n (bodyPost prog fnc R) k ops st C (fuel+1) (bits m K0) e w:=by
 simp only[Prod.mk.injEq] at a;exact qc1 i a.1 _ h f l c a.2 g
theorem Al(i K j:Nat){LA:List Ch}{m K0 d t ty b o:Nat}{x:Operand}{c:TE}{ps:String}{af:Array Edge}{v:Value}{cs:List Value}(h:CellsAt w0 b o cs)(f:SH w0 w LA)
  (a:(ops[i]?,opv e x,tab.get t,ld c cs j,Nat.blt d n)=(V (⟨V d,.load t x,ty,ps,af,U⟩:Oper),V (.pointer (V ⟨b,o+j,U⟩)),V c,V v,true))
  (l:RunA prog n (bodyPost prog fnc R) k ops st (fun w'=>SH w0 w' LA) fuel (bits m K) ((d,v)::e) w) (p:(bits m K0).setIfInBounds i true=bits m K:=by kernel_rfl)
  (g:(Region.noSelect ops&&Region.free .any ops (bits m K0) i&&(Region.ready .any ops (bits m K0)).contains i&&st.all (fun s=>!(Nat.beq s i)&&waitsB ops i s&&!((bits m K0).getD s true)))=true:=by kernel_rfl) :
  RunA prog n (bodyPost prog fnc R) k ops st (fun w'=>SH w0 w' LA) (fuel+1) (bits m K0) e w:=by
 simp only[Prod.mk.injEq] at a;exact qc1 i a.1 _ p g (fun w' r=>qf2 qa (h.below r.below) (j:=j) a.2.1 a.2.2.1 a.2.2.2.1) f a.2.2.2.2 l
theorem Ax(i K:Nat){C:World->Prop}{m K0 d t ty el q:Nat}{x ix:Operand}{r a:TE}{ps:String}{af:Array Edge}{p:Option Addr}{h c l:Nat}{D:IntKind}{iv:Int}{b o:Nat}(A:p=V ⟨b,o,U⟩)(B:q=o+iv.toNat*l)(g:0<=iv/\iv<h)(u:C w)
  (f:(ops[i]?,opv e x,opv e ix,tab.get t,r.kind,tab.get el,a.size,Nat.blt d n)=(V (⟨V d,.indexAddr t x ix,ty,ps,af,U⟩:Oper),V (oS p h c),V (.int D iv),V r,TK.slice el,V a,l,true))
  (y:RunA prog n (bodyPost prog fnc R) k ops st C fuel (bits m K) ((d,.pointer (V ⟨b,q,U⟩))::e) w) (z:(bits m K0).setIfInBounds i true=bits m K:=by kernel_rfl)
  (v:(Region.noSelect ops&&Region.free .any ops (bits m K0) i&&(Region.ready .any ops (bits m K0)).contains i&&st.all (fun s=>!(Nat.beq s i)&&waitsB ops i s&&!((bits m K0).getD s true)))=true:=by kernel_rfl) :
  RunA prog n (bodyPost prog fnc R) k ops st C (fuel+1) (bits m K0) e w:=by
 simp only[Prod.mk.injEq] at f;exact qc1 i f.1 _ z v (fun w' _=>qv4 qa A B g f.2.1 f.2.2.1 f.2.2.2.1 f.2.2.2.2.1 f.2.2.2.2.2.1 f.2.2.2.2.2.2.1) u f.2.2.2.2.2.2.2 y
theorem Ae(i K:Nat){C:World->Prop}{m K0 d t ty el q:Nat}{x ix:Operand}{l a:TE}{ps:String}{af:Array Edge}{p:Option Addr}{g c h:Nat}{D:IntKind}{iv:Int}{b o:Nat}{α:Prop}(A:p=V ⟨b,o,U⟩)(B:q=o+iv.toNat*h)(f:0<=iv/\iv<g/\α)(r:C w)
  (v:(ops[i]?,opv e x,opv e ix,tab.get t,l.kind,tab.get el,a.size,Nat.blt d n)=(V (⟨V d,.indexAddr t x ix,ty,ps,af,U⟩:Oper),V (oS p g c),V (.int D iv),V l,TK.slice el,V a,h,true))
  (y:RunA prog n (bodyPost prog fnc R) k ops st C fuel (bits m K) ((d,.pointer (V ⟨b,q,U⟩))::e) w) (z:(bits m K0).setIfInBounds i true=bits m K:=by kernel_rfl)
  (u:(Region.noSelect ops&&Region.free .any ops (bits m K0) i&&(Region.ready .any ops (bits m K0)).contains i&&st.all (fun s=>!(Nat.beq s i)&&waitsB ops i s&&!((bits m K0).getD s true)))=true:=by kernel_rfl) :
  RunA prog n (bodyPost prog fnc R) k ops st C (fuel+1) (bits m K0) e w:=Ax i K A B ⟨f.1,f.2.1⟩ r v y z u
theorem rb{a:Func}{L:List Ch}{x r:Bool}(h:SH w0 w L)(F:V x=V r)(b:res1 e a.results.toList=V (.bool x)) :
  Run prog n (bodyPost prog a fun e w'=>∃v,e=.returned v/\Below w0.heap.size w0 w'/\∃us,v=tup us/\GoVs.Vs w' (fresh w0 w') r us) (.code .ret::k) e w:=qCy qa h F (qxD b)
theorem ri{a:Func}{L:List Ch}{x r:Int}(h:SH w0 w L)(F:V x=V r)(b:res1 e a.results.toList=V (vi x)) :
  Run prog n (bodyPost prog a fun e w'=>∃v,e=.returned v/\Below w0.heap.size w0 w'/\∃us,v=tup us/\GoVs.Vs w' (fresh w0 w') r us) (.code .ret::k) e w:=qCx qa h F (qxD b)
theorem rO{a:Func}{L:List Ch}{α:Type}[GoT α]{r:α}{S:Nat->Prop}{cs:List Value}(i:Nat)(h:SH w0 w L)(hi:L[i]?=V (oW S r cs))(b:ResOk tab e w a.results.toList [oV α cs]) :
  Run prog n (bodyPost prog a fun e w'=>∃v,e=.returned v/\Below w0.heap.size w0 w'/\∃us,v=tup us/\GoVs.Vs w' (fresh w0 w') r us) (.code .ret::k) e w:=qac qa _ h b (PV.done h (qae (qab i h hi)))
theorem zV{ρ:Type}[GoVs ρ]{f:FuncId}{a:Func}{c:Code}{vs:List Value}{r:ρ}(m:Nat)(d:prog.funcs[f]?=V a)(b:(a.body,a.ntmps,Nat.ble vs.length m)=(V c,m,true))
  (h:SH w w []->Run prog m (bodyPost prog a fun e w'=>∃v,e=.returned v/\Below w.heap.size w w'/\∃us,v=tup us/\GoVs.Vs w' (fresh w w') r us) [.code c] (argEnv 0 vs) w):RetV prog f vs w r:=by
 simp only[Prod.mk.injEq] at b;exact qwg d b.1 b.2.1 b.2.2 h
end
section
variable{w0 w:World}{L:List Ch}{n:Nat}{Q:Exit->Act->World->Prop}{k:List It}{e:Env}{all:Array Oper}{l:List Oper}{d ty:Nat}{ps:String}{af:Array Edge}{x:Operand}{args:Array Operand}{ats:Array TypeId}{f:FuncId}{fi ca:Array Value}{av vs:List Value}{β:Type}{rr:β}
theorem zcI{F:Option Int}{g:Int->Option β}(h:SH w0 w L)(c:F.bind g=V rr)(m:∀{r},F=V r->RetV prog f vs w r)
  (b:(opv e x,opvs e args.toList,fi.toList++av++ca.toList,Nat.blt d n)=(V (.func (.func f) fi ca),V av,vs,true))
  (o:∀r w' ,SH w0 w' (L)->g r=V rr->Run prog n Q (.ops all l::k) ((d,vi r)::e) w') (a:qdZ prog f:=by exact cA Z):Run prog n Q (.ops all (⟨V d,.call ⟨.value x,args,ats⟩,ty,ps,af,U⟩::l)::k) e w:=by
 obtain⟨r,p,c⟩:=qc c;simp only[Prod.mk.injEq] at b;exact qcC r h a (m p) b.1 b.2.1 b.2.2.1 b.2.2.2 (fun w'  i=>o r w'  i c)
theorem zcB{F:Option Bool}{g:Bool->Option β}(h:SH w0 w L)(c:F.bind g=V rr)(m:∀{r},F=V r->RetV prog f vs w r)
  (b:(opv e x,opvs e args.toList,fi.toList++av++ca.toList,Nat.blt d n)=(V (.func (.func f) fi ca),V av,vs,true))
  (o:∀r w' ,SH w0 w' (L)->g r=V rr->Run prog n Q (.ops all l::k) ((d,.bool r)::e) w') (a:qdZ prog f:=by exact cA Z):Run prog n Q (.ops all (⟨V d,.call ⟨.value x,args,ats⟩,ty,ps,af,U⟩::l)::k) e w:=by
 obtain⟨r,p,c⟩:=qc c;simp only[Prod.mk.injEq] at b;exact qA7 r h a (m p) b.1 b.2.1 b.2.2.1 b.2.2.2 (fun w'  i=>o r w'  i c)
theorem zcS{F:Option ByteArray}{g:ByteArray->Option β}(h:SH w0 w L)(c:F.bind g=V rr)(m:∀{r},F=V r->RetV prog f vs w r)
  (b:(opv e x,opvs e args.toList,fi.toList++av++ca.toList,Nat.blt d n)=(V (.func (.func f) fi ca),V av,vs,true))
  (o:∀r w' ,SH w0 w' (L)->g r=V rr->Run prog n Q (.ops all l::k) ((d,.string r)::e) w') (a:qdZ prog f:=by exact cA Z):Run prog n Q (.ops all (⟨V d,.call ⟨.value x,args,ats⟩,ty,ps,af,U⟩::l)::k) e w:=by
 obtain⟨r,p,c⟩:=qc c;simp only[Prod.mk.injEq] at b;exact qAS r h a (m p) b.1 b.2.1 b.2.2.1 b.2.2.2 (fun w'  i=>o r w'  i c)
theorem zcL{α:Type}[GoT α]{F:Option (List α)}{g:(List α)->Option β}(h:SH w0 w L)(i:F.bind g=V rr)(o:∀{r},F=V r->RetV prog f vs w r)
  (b:(opv e x,opvs e args.toList,fi.toList++av++ca.toList,Nat.blt d n)=(V (.func (.func f) fi ca),V av,vs,true))
  (s:∀r w' S p c,SH w0 w' (oW S r [oS p r.length c]::L)->g r=V rr->Run prog n Q (.ops all l::k) ((d,oS p r.length c)::e) w') (a:qdZ prog f:=by exact cA Z):Run prog n Q (.ops all (⟨V d,.call ⟨.value x,args,ats⟩,ty,ps,af,U⟩::l)::k) e w:=by
 obtain⟨r,t,i⟩:=qc i;simp only[Prod.mk.injEq] at b;exact qlg r h a (o t) b.1 b.2.1 b.2.2.1 b.2.2.2 (fun w' S p c m=>s r w' S p c m i)
theorem zcO{α:Type}[GoT α]{F:Option α}{g:α->Option β}(h:SH w0 w L)(c:F.bind g=V rr)(m:∀{r},F=V r->RetV prog f vs w r)
  (b:(opv e x,opvs e args.toList,fi.toList++av++ca.toList,Nat.blt d n)=(V (.func (.func f) fi ca),V av,vs,true))
  (o:∀r w' S cs,SH w0 w' (oW S r cs::L)->g r=V rr->Run prog n Q (.ops all l::k) ((d,oV α cs)::e) w') (a:qdZ prog f:=by exact cA Z):Run prog n Q (.ops all (⟨V d,.call ⟨.value x,args,ats⟩,ty,ps,af,U⟩::l)::k) e w:=by
 obtain⟨r,p,c⟩:=qc c;simp only[Prod.mk.injEq] at b;exact qny r h a (m p) b.1 b.2.1 b.2.2.1 b.2.2.2 (fun w' S cs i=>o r w' S cs i c)
end
def noC:List Nat:=[0,1,308,334]
theorem allC:((List.range 347).all fun f=>noC.contains f || callB prog f)=true:=by kernel_rfl
theorem cA{f:Nat}(h:(Nat.blt f 347&&!noC.contains f)=true):qdZ prog f:=by
 rw[jf,Nat.blt_eq,jI] at h;have:=List.all_eq_true.1 allC f (List.mem_range.2 h.1);rw[h.2] at this;exact qzK this
theorem cB(f:Nat)(h:(Nat.blt f 347&&!noC.contains f)=true):qdZ prog f:=cA h
def qcc(_:Nat)(a:(List Int))(left:Int):Option Int:=bif decide ((W64 (left-(a.length:Int)))<0) then V (-1) else V (W64 (left-(a.length:Int)))
theorem qbM{a:(List Int)}{left}(b:Ro w a cs1){r:Int}(F:qcc n a left=V r):RetV prog 24 [oV (List Int) cs1,vi left] w r:=by
 obtain⟨_,_,rfl,_⟩:=b;refine zV 12 func24 Z fun h=>X0 18 Z (qi Z F ?_ ?_)<;>intro F
 ·exact X0 4 Z (ri h F Z)
 exact X0 6 Z (ri h F Z)
def ql6(_:Nat)(a:qal)(left:Int):Option Int:=bif decide ((W64 (left-(a.Bd.size:Int)))<0) then V (-1) else V (W64 (left-(a.Bd.size:Int)))
theorem qtq{a:qal}{left}(b:Ro w a cs1){r:Int}(F:ql6 n a left=V r):RetV prog 244 [oV qal cs1,vi left] w r:=by
 obtain rfl:=qa2 b;refine zV 13 func244 Z fun h=>zSR (qw h Z Z fun _ _ h=>X1 17 0 h Z (qi Z F ?_ ?_))<;>intro F
 ·exact X0 4 Z (ri h F Z)
 exact X0 6 Z (ri h F Z)
def qgh(a:(List qal)):Nat->Int->Int->Option (Flow Int (Int×Int))|0,_,_=>U|n+1,i1,b=>bif decide (b<(a.length:Int)) then(idx a b).bind fun d=>(ql6 n d i1).bind fun c=>bif decide (c<0) then V (.ret (-1)) else qgh a n c (W64 (b+1)) else V (.nxt (i1,b))
def qoR(n:Nat)(a:(List qal))(left:Int):Option Int:=bif decide ((W64 (left-(a.length:Int)))<0) then V (-1) else(qgh a n (W64 (left-(a.length:Int))) 0).bind fun|.ret r=>V r|.nxt (i1,_)=>V i1
theorem qs9{a:(List qal)}{left}(c:Ro w a cs1){r:Int}(F:qoR n a left=V r):RetV prog 194 [oV (List qal) cs1,vi left] w r:=by
 obtain⟨t,p,rfl,u⟩:=c;refine zV 27 func194 Z fun h=>X0 18 Z (qi Z F ?_ ?_)<;>intro F
 ·exact X0 4 Z (ri h F Z)
 refine X0 6 Z ?_;obtain⟨s,F,b⟩:=qc F;refine qm (rL (fun m e w'=>∃i1 l,qgh a m i1 l=V s/\e=[(0,oS t a.length p),(1,vi i1),(5,vi l)]/\SH w w' []) n ⟨_,_,F,rfl,h⟩ Z ?_);rintro o _ _ ⟨i1,l,F,rfl,h⟩;rcases o with _|o
 ·cases F
 refine X0 8 Z (qi Z F ?_ ?_)<;>intro F
 ·refine X0 7 Z ?_;obtain⟨v,_,F,f,_,_,_,_,g,i,k,d⟩:=u.ix F;obtain rfl:=qa2 k;refine zxe g i f Z (zc 0 (d.below h.below) Z (zp1 Z (zcI h F (qtq (qes v)) Z fun _ _ h F=>X0 7 Z (qi Z F ?_ ?_))))<;>intro F
  ·refine X0 4 Z ?_;obtain rfl:=qb F;replace F:=b;exact ri h F Z
  exact X0 7 Z (rK ⟨_,_,F,rfl,h⟩ Z)
 refine qt Z ?_;obtain rfl:=qb F;replace F:=b;exact X0 5 Z (ri h F Z)
def qjc(n:Nat)(a:qy)(left:Int):Option Int:=(qcc n a.Bo left).bind fun b=>bif decide (b<0) then V (-1) else(qcc n a.Bk b).bind fun c=>bif decide (c<0) then V (-1) else(qcc n a.Bj c).bind fun d=>bif decide (d<0) then V (-1) else V d
theorem qrU{a:qy}{left}(b:Ro w a cs1){r:Int}(F:qjc n a left=V r):RetV prog 298 [oV qy cs1,vi left] w r:=by
 obtain⟨_,_,_,_,_,_,rfl,c,s2,d⟩:=qaK b;refine zV 24 func298 Z fun h=>zSR (qw h Z Z fun _ _ h=>X1 7 0 h Z (zcI h F (qbM ⟨_,_,rfl,(h.oldS c)⟩) Z fun _ _ h F=>X0 8 Z (qi Z F ?_ ?_)))<;>intro F
 ·exact X0 4 Z (ri h F Z)
 refine X1 6 0 h Z (zcI h F (qbM ⟨_,_,rfl,(h.oldS s2)⟩) Z fun _ _ h F=>X0 8 Z (qi Z F ?_ ?_))<;>intro F
 ·exact X0 4 Z (ri h F Z)
 refine X1 6 0 h Z (zcI h F (qbM ⟨_,_,rfl,(h.oldS d)⟩) Z fun _ _ h F=>X0 8 Z (qi Z F ?_ ?_))<;>intro F
 ·exact X0 4 Z (ri h F Z)
 exact X0 6 Z (ri h F Z)
def qeY(a:(List qy)):Nat->Int->Int->Option (Flow Int (Int×Int))|0,_,_=>U|n+1,i1,b=>bif decide (b<(a.length:Int)) then(idx a b).bind fun d=>(qjc n d i1).bind fun c=>bif decide (c<0) then V (.ret (-1)) else qeY a n c (W64 (b+1)) else V (.nxt (i1,b))
def qkn(n:Nat)(a:(List qy))(left:Int):Option Int:=bif decide ((W64 (left-(a.length:Int)))<0) then V (-1) else(qeY a n (W64 (left-(a.length:Int))) 0).bind fun|.ret r=>V r|.nxt (i1,_)=>V i1
theorem qmS{a:(List qy)}{left}(c:Ro w a cs1){r:Int}(F:qkn n a left=V r):RetV prog 277 [oV (List qy) cs1,vi left] w r:=by
 obtain⟨t,p,rfl,u⟩:=c;refine zV 27 func277 Z fun h=>X0 18 Z (qi Z F ?_ ?_)<;>intro F
 ·exact X0 4 Z (ri h F Z)
 refine X0 6 Z ?_;obtain⟨s,F,b⟩:=qc F;refine qm (rL (fun m e w'=>∃i1 l,qeY a m i1 l=V s/\e=[(0,oS t a.length p),(1,vi i1),(5,vi l)]/\SH w w' []) n ⟨_,_,F,rfl,h⟩ Z ?_);rintro o _ _ ⟨i1,l,F,rfl,h⟩;rcases o with _|o
 ·cases F
 refine X0 8 Z (qi Z F ?_ ?_)<;>intro F
 ·refine X0 7 Z ?_;obtain⟨y,_,F,f,_,_,_,_,g,i,k,d⟩:=u.ix F;obtain⟨_,_,_,_,_,_,rfl,s2,v,x⟩:=qaK k;refine zxe g i f Z (zc 0 (d.below h.below) Z (zp1 Z (zcI h F (qrU (qfV y (h.oldS s2) (h.oldS v) (h.oldS x))) Z fun _ _ h F=>X0 7 Z (qi Z F ?_ ?_))))<;>intro F
  ·refine X0 4 Z ?_;obtain rfl:=qb F;replace F:=b;exact ri h F Z
  exact X0 7 Z (rK ⟨_,_,F,rfl,h⟩ Z)
 refine qt Z ?_;obtain rfl:=qb F;replace F:=b;exact X0 5 Z (ri h F Z)
def qlL(n:Nat)(a:qJ)(left:Int):Option Int:=(qkn n a.Bp left).bind fun b=>bif decide (b<0) then V (-1) else(qkn n a.Be b).bind fun c=>bif decide (c<0) then V (-1) else V c
theorem qtd{a:qJ}{left}(b:Ro w a cs1){r:Int}(F:qlL n a left=V r):RetV prog 245 [oV qJ cs1,vi left] w r:=by
 obtain⟨_,_,_,_,rfl,c,s2⟩:=qaj b;refine zV 18 func245 Z fun h=>zSR (qw h Z Z fun _ _ h=>X1 7 0 h Z (zcI h F (qmS ⟨_,_,rfl,(h.oldS c)⟩) Z fun _ _ h F=>X0 8 Z (qi Z F ?_ ?_)))<;>intro F
 ·exact X0 4 Z (ri h F Z)
 refine X1 6 0 h Z (zcI h F (qmS ⟨_,_,rfl,(h.oldS s2)⟩) Z fun _ _ h F=>X0 8 Z (qi Z F ?_ ?_))<;>intro F
 ·exact X0 4 Z (ri h F Z)
 exact X0 6 Z (ri h F Z)
def qgx(a:(List qJ)):Nat->Int->Int->Option (Flow Int (Int×Int))|0,_,_=>U|n+1,i1,b=>bif decide (b<(a.length:Int)) then(idx a b).bind fun d=>(qlL n d i1).bind fun c=>bif decide (c<0) then V (.ret (-1)) else qgx a n c (W64 (b+1)) else V (.nxt (i1,b))
def qoD(n:Nat)(a:(List qJ))(left:Int):Option Int:=bif decide ((W64 (left-(a.length:Int)))<0) then V (-1) else(qgx a n (W64 (left-(a.length:Int))) 0).bind fun|.ret r=>V r|.nxt (i1,_)=>V i1
theorem qsJ{a:(List qJ)}{left}(c:Ro w a cs1){r:Int}(F:qoD n a left=V r):RetV prog 195 [oV (List qJ) cs1,vi left] w r:=by
 obtain⟨t,p,rfl,u⟩:=c;refine zV 27 func195 Z fun h=>X0 18 Z (qi Z F ?_ ?_)<;>intro F
 ·exact X0 4 Z (ri h F Z)
 refine X0 6 Z ?_;obtain⟨s,F,b⟩:=qc F;refine qm (rL (fun m e w'=>∃i1 l,qgx a m i1 l=V s/\e=[(0,oS t a.length p),(1,vi i1),(5,vi l)]/\SH w w' []) n ⟨_,_,F,rfl,h⟩ Z ?_);rintro o _ _ ⟨i1,l,F,rfl,h⟩;rcases o with _|o
 ·cases F
 refine X0 8 Z (qi Z F ?_ ?_)<;>intro F
 ·refine X0 7 Z ?_;obtain⟨x,_,F,f,_,_,_,_,g,i,k,d⟩:=u.ix F;obtain⟨_,_,_,_,rfl,s2,v⟩:=qaj k;refine zxe g i f Z (zc 0 (d.below h.below) Z (zp1 Z (zcI h F (qtd (qgb x (h.oldS s2) (h.oldS v))) Z fun _ _ h F=>X0 7 Z (qi Z F ?_ ?_))))<;>intro F
  ·refine X0 4 Z ?_;obtain rfl:=qb F;replace F:=b;exact ri h F Z
  exact X0 7 Z (rK ⟨_,_,F,rfl,h⟩ Z)
 refine qt Z ?_;obtain rfl:=qb F;replace F:=b;exact X0 5 Z (ri h F Z)
def qkM(n:Nat)(a:qz)(left:Int):Option Int:=bif decide ((W64 (left-(a.Bd.size:Int)))<0) then V (-1) else(qoR n a.Bh (W64 (left-(a.Bd.size:Int)))).bind fun b=>bif decide (b<0) then V (-1) else(qoD n a.Bc b).bind fun c=>bif decide (c<0) then V (-1) else(qcc n a.Bq c).bind fun d=>bif decide (d<0) then V (-1) else V d
theorem qst{a:qz}{left}(b:Ro w a cs1){r:Int}(F:qkM n a left=V r):RetV prog 139 [oV qz cs1,vi left] w r:=by
 obtain⟨_,_,_,_,_,_,rfl,c,s2,d⟩:=qag b;refine zV 31 func139 Z fun h=>zSR (qw h Z Z fun _ _ h=>X1 17 0 h Z (qi Z F ?_ ?_))<;>intro F
 ·exact X0 4 Z (ri h F Z)
 refine X1 6 0 h Z (zcI h F (qs9 ⟨_,_,rfl,(h.oldS c)⟩) Z fun _ _ h F=>X0 8 Z (qi Z F ?_ ?_))<;>intro F
 ·exact X0 4 Z (ri h F Z)
 refine X1 6 0 h Z (zcI h F (qsJ ⟨_,_,rfl,(h.oldS s2)⟩) Z fun _ _ h F=>X0 8 Z (qi Z F ?_ ?_))<;>intro F
 ·exact X0 4 Z (ri h F Z)
 refine X1 6 0 h Z (zcI h F (qbM ⟨_,_,rfl,(h.oldS d)⟩) Z fun _ _ h F=>X0 8 Z (qi Z F ?_ ?_))<;>intro F
 ·exact X0 4 Z (ri h F Z)
 exact X0 6 Z (ri h F Z)
def qfr(a:(List qz)):Nat->Int->Int->Option (Flow Int (Int×Int))|0,_,_=>U|n+1,i1,b=>bif decide (b<(a.length:Int)) then(idx a b).bind fun d=>(qkM n d i1).bind fun c=>bif decide (c<0) then V (.ret (-1)) else qfr a n c (W64 (b+1)) else V (.nxt (i1,b))
def qnQ(n:Nat)(a:(List qz))(left:Int):Option Int:=bif decide ((W64 (left-(a.length:Int)))<0) then V (-1) else(qfr a n (W64 (left-(a.length:Int))) 0).bind fun|.ret r=>V r|.nxt (i1,_)=>V i1
theorem qrF{a:(List qz)}{left}(c:Ro w a cs1){r:Int}(F:qnQ n a left=V r):RetV prog 94 [oV (List qz) cs1,vi left] w r:=by
 obtain⟨t,p,rfl,u⟩:=c;refine zV 27 func94 Z fun h=>X0 18 Z (qi Z F ?_ ?_)<;>intro F
 ·exact X0 4 Z (ri h F Z)
 refine X0 6 Z ?_;obtain⟨s,F,b⟩:=qc F;refine qm (rL (fun m e w'=>∃i1 l,qfr a m i1 l=V s/\e=[(0,oS t a.length p),(1,vi i1),(5,vi l)]/\SH w w' []) n ⟨_,_,F,rfl,h⟩ Z ?_);rintro o _ _ ⟨i1,l,F,rfl,h⟩;rcases o with _|o
 ·cases F
 refine X0 8 Z (qi Z F ?_ ?_)<;>intro F
 ·refine X0 7 Z ?_;obtain⟨y,_,F,f,_,_,_,_,g,i,k,d⟩:=u.ix F;obtain⟨_,_,_,_,_,_,rfl,s2,v,x⟩:=qag k;refine zxe g i f Z (zc 0 (d.below h.below) Z (zp1 Z (zcI h F (qst (qlB y (h.oldS s2) (h.oldS v) (h.oldS x))) Z fun _ _ h F=>X0 7 Z (qi Z F ?_ ?_))))<;>intro F
  ·refine X0 4 Z ?_;obtain rfl:=qb F;replace F:=b;exact ri h F Z
  exact X0 7 Z (rK ⟨_,_,F,rfl,h⟩ Z)
 refine qt Z ?_;obtain rfl:=qb F;replace F:=b;exact X0 5 Z (ri h F Z)
def qjd(n:Nat)(a:qp)(left:Int):Option Int:=(qnQ n a.Ay left).bind fun b=>bif decide (b<0) then V (-1) else V b
theorem qqh{a:qp}{left}(b:Ro w a cs1){r:Int}(F:qjd n a left=V r):RetV prog 56 [oV qp cs1,vi left] w r:=by
 obtain⟨_,_,rfl,c⟩:=qbN b;refine zV 12 func56 Z fun h=>zSR (qw h Z Z fun _ _ h=>X1 7 0 h Z (zcI h F (qrF ⟨_,_,rfl,(h.oldS c)⟩) Z fun _ _ h F=>X0 8 Z (qi Z F ?_ ?_)))<;>intro F
 ·exact X0 4 Z (ri h F Z)
 exact X0 6 Z (ri h F Z)
def qg5(n:Nat)(a:ql)(left:Int):Option Int:=bif decide ((W64 (left-(a.Bd.size:Int)))<0) then V (-1) else(qcc n a.As (W64 (left-(a.Bd.size:Int)))).bind fun b=>bif decide (b<0) then V (-1) else V b
theorem qpT{a:ql}{left}(b:Ro w a cs1){r:Int}(F:qg5 n a left=V r):RetV prog 140 [oV ql cs1,vi left] w r:=by
 obtain⟨_,_,rfl,c⟩:=qV b;refine zV 19 func140 Z fun h=>zSR (qw h Z Z fun _ _ h=>X1 17 0 h Z (qi Z F ?_ ?_))<;>intro F
 ·exact X0 4 Z (ri h F Z)
 refine X1 6 0 h Z (zcI h F (qbM ⟨_,_,rfl,(h.oldS c)⟩) Z fun _ _ h F=>X0 8 Z (qi Z F ?_ ?_))<;>intro F
 ·exact X0 4 Z (ri h F Z)
 exact X0 6 Z (ri h F Z)
def qde(a:(List ql)):Nat->Int->Int->Option (Flow Int (Int×Int))|0,_,_=>U|n+1,i1,b=>bif decide (b<(a.length:Int)) then(idx a b).bind fun d=>(qg5 n d i1).bind fun c=>bif decide (c<0) then V (.ret (-1)) else qde a n c (W64 (b+1)) else V (.nxt (i1,b))
def qjZ(n:Nat)(a:(List ql))(left:Int):Option Int:=bif decide ((W64 (left-(a.length:Int)))<0) then V (-1) else(qde a n (W64 (left-(a.length:Int))) 0).bind fun|.ret r=>V r|.nxt (i1,_)=>V i1
theorem qpq{a:(List ql)}{left}(c:Ro w a cs1){r:Int}(F:qjZ n a left=V r):RetV prog 95 [oV (List ql) cs1,vi left] w r:=by
 obtain⟨t,p,rfl,u⟩:=c;refine zV 27 func95 Z fun h=>X0 18 Z (qi Z F ?_ ?_)<;>intro F
 ·exact X0 4 Z (ri h F Z)
 refine X0 6 Z ?_;obtain⟨s,F,b⟩:=qc F;refine qm (rL (fun m e w'=>∃i1 l,qde a m i1 l=V s/\e=[(0,oS t a.length p),(1,vi i1),(5,vi l)]/\SH w w' []) n ⟨_,_,F,rfl,h⟩ Z ?_);rintro o _ _ ⟨i1,l,F,rfl,h⟩;rcases o with _|o
 ·cases F
 refine X0 8 Z (qi Z F ?_ ?_)<;>intro F
 ·refine X0 7 Z ?_;obtain⟨v,_,F,f,_,_,_,_,g,i,k,d⟩:=u.ix F;obtain⟨_,_,rfl,s2⟩:=qV k;refine zxe g i f Z (zc 0 (d.below h.below) Z (zp1 Z (zcI h F (qpT (qhc v (h.oldS s2))) Z fun _ _ h F=>X0 7 Z (qi Z F ?_ ?_))))<;>intro F
  ·refine X0 4 Z ?_;obtain rfl:=qb F;replace F:=b;exact ri h F Z
  exact X0 7 Z (rK ⟨_,_,F,rfl,h⟩ Z)
 refine qt Z ?_;obtain rfl:=qb F;replace F:=b;exact X0 5 Z (ri h F Z)
def qef(a:(List ByteArray)):Nat->Int->Int->Option (Flow Int (Int×Int))|0,_,_=>U|n+1,i1,b=>bif decide (b<(a.length:Int)) then(idx a b).bind fun c=>bif decide ((W64 (i1-(c.size:Int)))<0) then V (.ret (-1)) else qef a n (W64 (i1-(c.size:Int))) (W64 (b+1)) else V (.nxt (i1,b))
def qlH(n:Nat)(a:(List ByteArray))(left:Int):Option Int:=bif decide ((W64 (left-(a.length:Int)))<0) then V (-1) else(qef a n (W64 (left-(a.length:Int))) 0).bind fun|.ret r=>V r|.nxt (i1,_)=>V i1
theorem qp2{a:(List ByteArray)}{left}(c:Ro w a cs1){r:Int}(F:qlH n a left=V r):RetV prog 96 [oV (List ByteArray) cs1,vi left] w r:=by
 obtain⟨s,o,rfl,t⟩:=c;refine zV 28 func96 Z fun h=>X0 18 Z (qi Z F ?_ ?_)<;>intro F
 ·exact X0 4 Z (ri h F Z)
 refine X0 6 Z ?_;obtain⟨p,F,b⟩:=qc F;refine qm (rL (fun m e w'=>∃i1 k,qef a m i1 k=V p/\e=[(0,oS s a.length o),(1,vi i1),(5,vi k)]/\SH w w' []) n ⟨_,_,F,rfl,h⟩ Z ?_);rintro l _ _ ⟨i1,k,F,rfl,h⟩;rcases l with _|l
 ·cases F
 refine X0 8 Z (qi Z F ?_ ?_)<;>intro F
 ·refine X0 8 Z ?_;obtain⟨_,_,F,f,_,_,_,_,g,i,rfl,d⟩:=t.ix F;refine zxe g i f Z (zc 0 (d.below h.below) Z (X0 9 Z (qi Z F ?_ ?_)))<;>intro F
  ·refine X0 4 Z ?_;obtain rfl:=qb F;replace F:=b;exact ri h F Z
  exact X0 7 Z (rK ⟨_,_,F,rfl,h⟩ Z)
 refine qt Z ?_;obtain rfl:=qb F;replace F:=b;exact X0 5 Z (ri h F Z)
def qkR(_:Nat)(a:qR)(left:Int):Option Int:=bif decide ((W64 (left-(a.Bd.size:Int)))<0) then V (-1) else V (W64 (left-(a.Bd.size:Int)))
theorem qsM{a:qR}{left}(b:Ro w a cs1){r:Int}(F:qkR n a left=V r):RetV prog 141 [oV qR cs1,vi left] w r:=by
 obtain rfl:=qaZ b;refine zV 13 func141 Z fun h=>zSR (qw h Z Z fun _ _ h=>X1 17 0 h Z (qi Z F ?_ ?_))<;>intro F
 ·exact X0 4 Z (ri h F Z)
 exact X0 6 Z (ri h F Z)
def qfu(a:(List qR)):Nat->Int->Int->Option (Flow Int (Int×Int))|0,_,_=>U|n+1,i1,b=>bif decide (b<(a.length:Int)) then(idx a b).bind fun d=>(qkR n d i1).bind fun c=>bif decide (c<0) then V (.ret (-1)) else qfu a n c (W64 (b+1)) else V (.nxt (i1,b))
def qnI(n:Nat)(a:(List qR))(left:Int):Option Int:=bif decide ((W64 (left-(a.length:Int)))<0) then V (-1) else(qfu a n (W64 (left-(a.length:Int))) 0).bind fun|.ret r=>V r|.nxt (i1,_)=>V i1
theorem qrY{a:(List qR)}{left}(c:Ro w a cs1){r:Int}(F:qnI n a left=V r):RetV prog 97 [oV (List qR) cs1,vi left] w r:=by
 obtain⟨t,p,rfl,u⟩:=c;refine zV 27 func97 Z fun h=>X0 18 Z (qi Z F ?_ ?_)<;>intro F
 ·exact X0 4 Z (ri h F Z)
 refine X0 6 Z ?_;obtain⟨s,F,b⟩:=qc F;refine qm (rL (fun m e w'=>∃i1 l,qfu a m i1 l=V s/\e=[(0,oS t a.length p),(1,vi i1),(5,vi l)]/\SH w w' []) n ⟨_,_,F,rfl,h⟩ Z ?_);rintro o _ _ ⟨i1,l,F,rfl,h⟩;rcases o with _|o
 ·cases F
 refine X0 8 Z (qi Z F ?_ ?_)<;>intro F
 ·refine X0 7 Z ?_;obtain⟨v,_,F,f,_,_,_,_,g,i,k,d⟩:=u.ix F;obtain rfl:=qaZ k;refine zxe g i f Z (zc 0 (d.below h.below) Z (zp1 Z (zcI h F (qsM (qeN v)) Z fun _ _ h F=>X0 7 Z (qi Z F ?_ ?_))))<;>intro F
  ·refine X0 4 Z ?_;obtain rfl:=qb F;replace F:=b;exact ri h F Z
  exact X0 7 Z (rK ⟨_,_,F,rfl,h⟩ Z)
 refine qt Z ?_;obtain rfl:=qb F;replace F:=b;exact X0 5 Z (ri h F Z)
def qko(n:Nat)(a:qd)(left:Int):Option Int:=(qjZ n a.Ab left).bind fun b=>bif decide (b<0) then V (-1) else(qlH n a.As b).bind fun c=>bif decide (c<0) then V (-1) else(qnI n a.Ak c).bind fun d=>bif decide (d<0) then V (-1) else V d
theorem qq6{a:qd}{left}(b:Ro w a cs1){r:Int}(F:qko n a left=V r):RetV prog 57 [oV qd cs1,vi left] w r:=by
 obtain⟨_,_,_,_,_,_,rfl,c,s2,d⟩:=qaE b;refine zV 24 func57 Z fun h=>zSR (qw h Z Z fun _ _ h=>X1 7 0 h Z (zcI h F (qpq ⟨_,_,rfl,(h.oldS c)⟩) Z fun _ _ h F=>X0 8 Z (qi Z F ?_ ?_)))<;>intro F
 ·exact X0 4 Z (ri h F Z)
 refine X1 6 0 h Z (zcI h F (qp2 ⟨_,_,rfl,(h.oldS s2)⟩) Z fun _ _ h F=>X0 8 Z (qi Z F ?_ ?_))<;>intro F
 ·exact X0 4 Z (ri h F Z)
 refine X1 6 0 h Z (zcI h F (qrY ⟨_,_,rfl,(h.oldS d)⟩) Z fun _ _ h F=>X0 8 Z (qi Z F ?_ ?_))<;>intro F
 ·exact X0 4 Z (ri h F Z)
 exact X0 6 Z (ri h F Z)
def qkF(n:Nat)(a:qE)(left:Int):Option Int:=(qcc n a.Az left).bind fun b=>bif decide (b<0) then V (-1) else(qcc n a.Bz b).bind fun c=>bif decide (c<0) then V (-1) else(qcc n a.Bu c).bind fun d=>bif decide (d<0) then V (-1) else(qcc n a.Bn d).bind fun r4=>bif decide (r4<0) then V (-1) else V r4
theorem qsR{a:qE}{left}(b:Ro w a cs1){r:Int}(F:qkF n a left=V r):RetV prog 98 [oV qE cs1,vi left] w r:=by
 obtain⟨_,_,_,_,_,_,_,_,rfl,c,s2,d,f⟩:=qaR b;refine zV 30 func98 Z fun h=>zSR (qw h Z Z fun _ _ h=>X1 7 0 h Z (zcI h F (qbM ⟨_,_,rfl,(h.oldS c)⟩) Z fun _ _ h F=>X0 8 Z (qi Z F ?_ ?_)))<;>intro F
 ·exact X0 4 Z (ri h F Z)
 refine X1 6 0 h Z (zcI h F (qbM ⟨_,_,rfl,(h.oldS s2)⟩) Z fun _ _ h F=>X0 8 Z (qi Z F ?_ ?_))<;>intro F
 ·exact X0 4 Z (ri h F Z)
 refine X1 6 0 h Z (zcI h F (qbM ⟨_,_,rfl,(h.oldS d)⟩) Z fun _ _ h F=>X0 8 Z (qi Z F ?_ ?_))<;>intro F
 ·exact X0 4 Z (ri h F Z)
 refine X1 6 0 h Z (zcI h F (qbM ⟨_,_,rfl,(h.oldS f)⟩) Z fun _ _ h F=>X0 8 Z (qi Z F ?_ ?_))<;>intro F
 ·exact X0 4 Z (ri h F Z)
 exact X0 6 Z (ri h F Z)
def qfq(a:(List qE)):Nat->Int->Int->Option (Flow Int (Int×Int))|0,_,_=>U|n+1,i1,b=>bif decide (b<(a.length:Int)) then(idx a b).bind fun d=>(qkF n d i1).bind fun c=>bif decide (c<0) then V (.ret (-1)) else qfq a n c (W64 (b+1)) else V (.nxt (i1,b))
def qnM(n:Nat)(a:(List qE))(left:Int):Option Int:=bif decide ((W64 (left-(a.length:Int)))<0) then V (-1) else(qfq a n (W64 (left-(a.length:Int))) 0).bind fun|.ret r=>V r|.nxt (i1,_)=>V i1
theorem qrV{a:(List qE)}{left}(c:Ro w a cs1){r:Int}(F:qnM n a left=V r):RetV prog 58 [oV (List qE) cs1,vi left] w r:=by
 obtain⟨t,p,rfl,u⟩:=c;refine zV 27 func58 Z fun h=>X0 18 Z (qi Z F ?_ ?_)<;>intro F
 ·exact X0 4 Z (ri h F Z)
 refine X0 6 Z ?_;obtain⟨s,F,b⟩:=qc F;refine qm (rL (fun m e w'=>∃i1 l,qfq a m i1 l=V s/\e=[(0,oS t a.length p),(1,vi i1),(5,vi l)]/\SH w w' []) n ⟨_,_,F,rfl,h⟩ Z ?_);rintro o _ _ ⟨i1,l,F,rfl,h⟩;rcases o with _|o
 ·cases F
 refine X0 8 Z (qi Z F ?_ ?_)<;>intro F
 ·refine X0 7 Z ?_;obtain⟨z,_,F,f,_,_,_,_,g,i,k,d⟩:=u.ix F;obtain⟨_,_,_,_,_,_,_,_,rfl,s2,v,x,y⟩:=qaR k;refine zxe g i f Z (zc 0 (d.below h.below) Z (zp1 Z (zcI h F (qsR (qlz z (h.oldS s2) (h.oldS v) (h.oldS x) (h.oldS y))) Z fun _ _ h F=>X0 7 Z (qi Z F ?_ ?_))))<;>intro F
  ·refine X0 4 Z ?_;obtain rfl:=qb F;replace F:=b;exact ri h F Z
  exact X0 7 Z (rK ⟨_,_,F,rfl,h⟩ Z)
 refine qt Z ?_;obtain rfl:=qb F;replace F:=b;exact X0 5 Z (ri h F Z)
def qlv(n:Nat)(a:qh)(left:Int):Option Int:=(qjd n (⟨a.Au.Ay⟩:qp) left).bind fun b=>bif decide (b<0) then V (-1) else(qko n (⟨a.Aa.Ab,a.Aa.As,a.Aa.Ak⟩:qd) b).bind fun c=>bif decide (c<0) then V (-1) else(qnM n a.Ai c).bind fun d=>bif decide (d<0) then V (-1) else V d
theorem qrX{a:qh}{left}(b:Ro w a cs1){r:Int}(F:qlv n a left=V r):RetV prog 22 [oV qh cs1,vi left] w r:=by
 obtain⟨_,_,_,_,_,_,_,_,_,_,rfl,c,s2,d,f,g⟩:=qaf b;refine zV 24 func22 Z fun h=>zSR (qw h Z Z fun _ _ h=>X1 7 0 h Z (zcI h F (qqh (qeC _ (h.oldS c))) Z fun _ _ h F=>X0 8 Z (qi Z F ?_ ?_)))<;>intro F
 ·exact X0 4 Z (ri h F Z)
 refine X1 6 0 h Z (zcI h F (qq6 (qaC _ (h.oldS s2) (h.oldS d) (h.oldS f))) Z fun _ _ h F=>X0 8 Z (qi Z F ?_ ?_))<;>intro F
 ·exact X0 4 Z (ri h F Z)
 refine X1 6 0 h Z (zcI h F (qrV ⟨_,_,rfl,(h.oldS g)⟩) Z fun _ _ h F=>X0 8 Z (qi Z F ?_ ?_))<;>intro F
 ·exact X0 4 Z (ri h F Z)
 exact X0 6 Z (ri h F Z)
def qgc(a:(List Int)):Nat->(List Int)->Int->Option ((List Int)×Int)|0,_,_=>U|n+1,b,i1=>bif decide (i1<(a.length:Int)) then(idx a i1).bind fun c=>(idx b i1).bind fun _=>qgc a n (setS b i1 c) (W64 (i1+1)) else V (b,i1)
def qbP(n:Nat)(a:(List Int)):Option (List Int):=(mkS (a.length:Int) (0:Int)).bind fun x1=>(qgc a n x1 0).bind fun(b,_)=>V b
theorem qbO{a:(List Int)}(i:Ro w a cs1){r:(List Int)}(F:qbP n a=V r):RetV prog 29 [oV (List Int) cs1] w r:=by
 obtain⟨C,A,rfl,D⟩:=i;refine zV 22 func29 Z fun h=>X0 8 Z ?_;obtain⟨x1,b,F⟩:=qc F;obtain⟨y,z,b⟩:=qU b;refine qam qa Int h Z Z Z Z Z Z Z Z Z y z b Z fun _ S1 x h=>X0 7 Z ?_;obtain⟨B,F,g⟩:=qc F;refine qm (rL (fun m e w'=>∃u i1,qgc a m u i1=V B/\e=[(0,oS C a.length A),(3,oS x x1.length x1.length),(4,vi i1)]/\SH w w' [oW S1 (u:List Int) [oS x x1.length x1.length]]) n ⟨_,_,F,rfl,h⟩ Z ?_);rintro v _ _ ⟨u,i1,F,rfl,h⟩;rcases v with _|v
 ·cases F
 refine X0 8 Z (qi Z F ?_ ?_)<;>intro F
 ·refine X0 8 Z ?_;obtain⟨H,_,F,o,_,_,_,_,p,s,rfl,k⟩:=D.ix F;refine zxe p s o Z (zc 0 (k.below h.below) Z ?_);obtain⟨_,t,F,c,_,_,_,_,d,f,rfl,l⟩:=(h.sl 0 Z).1.ix F;exact zx d f ⟨c.1,qC c.2.1 (h.sl 0 Z).2⟩ Z (qax qa 0 0 H h Z t d f Z l Z Z Z Z Z Z Z fun _ h=>X0 7 Z (rK ⟨_,_,F,rfl,h⟩ Z))
 refine qt Z ?_;obtain rfl:=qb F;replace F:=g;refine X0 5 Z ?_;obtain rfl:=qb F;exact rO 0 h Z ⟨rfl,G⟩
def qlW(_:Nat)(a:qal):Option qal:=V (⟨a.Bd,a.Bx,a.Bu,a.Bt⟩:qal)
theorem qts{a:qal}(b:Ro w a cs1){r:qal}(F:qlW n a=V r):RetV prog 248 [oV qal cs1] w r:=by
 obtain rfl:=qa2 b;refine zV 17 func248 Z fun h=>zSR (qw h Z Z fun _ _ h=>qq qa h Z Z Z fun _ _ h=>zNSR (qq qa h Z Z Z fun _ _ h=>X1 6 2 h Z (zs 0 h Z fun _ h=>X1 6 2 h Z (zs 0 h Z fun _ h=>X1 6 2 h Z (zs 0 h Z fun _ h=>X1 6 2 h Z (zs 0 h Z fun _ h=>X1 4 0 h Z (zs 1 h Z fun _ h=>qan ?_)))))));obtain rfl:=qb F;exact qac qa (ρ:=qal) [oV qal (qqK a)] h ⟨⟨_,_,_,rfl,rfl,h.box 1 Z,rfl⟩,G⟩ (PV.done h (qae (qv (S:=fun _=>False) (qes (⟨a.Bd,a.Bx,a.Bu,a.Bt⟩:qal)))))
def qhQ(a:(List qal)):Nat->(List qal)->Int->Option ((List qal)×Int)|0,_,_=>U|n+1,b,i1=>bif decide (i1<(a.length:Int)) then(idx a i1).bind fun d=>(qlW n d).bind fun c=>(idx b i1).bind fun _=>qhQ a n (setS b i1 c) (W64 (i1+1)) else V (b,i1)
def qmr(n:Nat)(a:(List qal)):Option (List qal):=(mkS (a.length:Int) ((⟨ByteArray.empty,0,0,false⟩:qal):qal)).bind fun x1=>(qhQ a n x1 0).bind fun(b,_)=>V b
theorem qsZ{a:(List qal)}(i:Ro w a cs1){r:(List qal)}(F:qmr n a=V r):RetV prog 200 [oV (List qal) cs1] w r:=by
 obtain⟨I,D,rfl,J⟩:=i;refine zV 23 func200 Z fun h=>X0 8 Z ?_;obtain⟨x1,b,F⟩:=qc F;obtain⟨B,C,b⟩:=qU b;refine qam qa qal h Z Z Z Z Z Z Z Z Z B C b Z fun _ S1 z h=>X0 7 Z ?_;obtain⟨H,F,g⟩:=qc F;refine qm (rL (fun m e w'=>∃x i1,qhQ a m x i1=V H/\e=[(0,oS I a.length D),(3,oS z x1.length x1.length),(4,vi i1)]/\SH w w' [oW S1 (x:List qal) [oS z x1.length x1.length]]) n ⟨_,_,F,rfl,h⟩ Z ?_);rintro y _ _ ⟨x,i1,F,rfl,h⟩;rcases y with _|y
 ·cases F
 refine X0 8 Z (qi Z F ?_ ?_)<;>intro F
 ·refine X0 8 Z ?_;obtain⟨K,_,F,o,_,_,_,_,p,s,t,k⟩:=J.ix F;obtain rfl:=qa2 t;refine zxe p s o Z (zc 0 (k.below h.below) Z (zcO h F (qts (qes K)) Z fun A _ _ _ h F=>?_));obtain rfl:=qa2 (h.own 0 Z);obtain⟨L,v,F,c,_,_,_,_,d,f,u,l⟩:=(h.sl 1 Z).1.ix F;obtain rfl:=qa2 u;refine zx d f ⟨c.1,qC c.2.1 (h.sl 1 Z).2⟩ Z (qax qa 1 0 A h Z v d f (qes L) l Z Z Z (qes A) Z Z Z fun _ h=>X0 7 Z ?_);replace h:=h.p [1] Z;exact rK ⟨_,_,F,rfl,h⟩ Z
 refine qt Z ?_;obtain rfl:=qb F;replace F:=g;refine X0 5 Z ?_;obtain rfl:=qb F;exact rO 0 h Z ⟨rfl,G⟩
def qjA(n:Nat)(a:qy):Option qy:=(qbP n a.Bo).bind fun b=>(qbP n a.Bk).bind fun c=>(qbP n a.Bj).bind fun d=>V (⟨b,c,d⟩:qy)
theorem qr0{a:qy}(b:Ro w a cs1){r:qy}(F:qjA n a=V r):RetV prog 299 [oV qy cs1] w r:=by
 obtain⟨_,_,_,_,_,_,rfl,p,s2,s⟩:=qaK b;refine zV 17 func299 Z fun h=>zSR (qw h Z Z fun _ _ h=>qq qa h Z Z Z fun _ _ h=>zNSR (qq qa h Z Z Z fun _ _ h=>X1 5 2 h Z (zcL h F (qbO ⟨_,_,rfl,(h.oldS p)⟩) Z fun c _ _ l g h F=>zp1 Z (zs 1 h Z fun _ h=>X1 5 3 h Z (zcL h F (qbO ⟨_,_,rfl,(h.oldS s2)⟩) Z fun d _ _ m i h F=>zp1 Z (zs 2 h Z fun _ h=>X1 5 4 h Z (zcL h F (qbO ⟨_,_,rfl,(h.oldS s)⟩) Z fun f _ _ o k h F=>zp1 Z (zs 3 h Z fun _ h=>X1 4 3 h Z (zs 4 h Z fun _ h=>qan ?_)))))))));obtain rfl:=qb F;exact qac qa (ρ:=qy) [oV qy [oS l c.length g,oS m d.length i,oS o f.length k]] h ⟨⟨_,_,_,rfl,rfl,h.box 4 Z,rfl⟩,G⟩ (PV.done h (qae (qt0 (⟨c,d,f⟩:qy) h (qab 2 h Z) (qab 1 h Z) (qab 0 h Z) (by rfl) (by rfl))))
def qgz(a:(List qy)):Nat->(List qy)->Int->Option ((List qy)×Int)|0,_,_=>U|n+1,b,i1=>bif decide (i1<(a.length:Int)) then(idx a i1).bind fun d=>(qjA n d).bind fun c=>(idx b i1).bind fun _=>qgz a n (setS b i1 c) (W64 (i1+1)) else V (b,i1)
def qit(n:Nat)(a:(List qy)):Option (List qy):=(mkS (a.length:Int) ((⟨[],[],[]⟩:qy):qy)).bind fun x1=>(qgz a n x1 0).bind fun(b,_)=>V b
theorem qmV{a:(List qy)}(l:Ro w a cs1){r:(List qy)}(F:qit n a=V r):RetV prog 278 [oV (List qy) cs1] w r:=by
 obtain⟨I,C,rfl,K⟩:=l;refine zV 23 func278 Z fun h=>X0 8 Z ?_;obtain⟨x1,b,F⟩:=qc F;obtain⟨A,B,b⟩:=qU b;refine qam qa qy h Z Z Z Z Z Z Z Z Z A B b Z fun _ _ z h=>X0 7 Z ?_;obtain⟨D,F,k⟩:=qc F;refine qm (rL (fun m e w'=>∃S2 x i1,qgz a m x i1=V D/\e=[(0,oS I a.length C),(3,oS z x1.length x1.length),(4,vi i1)]/\SH w w' [oW S2 (x:List qy) [oS z x1.length x1.length]]) n ⟨_,_,_,F,rfl,h⟩ Z ?_);rintro y _ _ ⟨S2,x,i1,F,rfl,h⟩;rcases y with _|y
 ·cases F
 refine X0 8 Z (qi Z F ?_ ?_)<;>intro F
 ·refine X0 8 Z ?_;obtain⟨N,_,F,p,_,_,_,_,s,t,u,o⟩:=K.ix F;obtain⟨_,_,_,_,_,_,rfl,s2,L,M⟩:=qaK u;refine zxe s t p Z (zc 0 (o.below h.below) Z (zcO h F (qr0 (qfV N (h.oldS s2) (h.oldS L) (h.oldS M))) Z fun J _ _ _ h F=>?_));obtain⟨_,_,_,_,_,_,rfl,-,-,-⟩:=qaK (h.own 0 Z);obtain⟨_,c,F⟩:=qc F;have d:=qaO c;replace h:=h.lrn0 1 Z;obtain⟨_,H,_,_,f,g,-,i,_⟩:=(qe9 (h.lrnO 1 Z)).1.at c;have v:=i;obtain⟨_,_,_,_,_,_,rfl,_,_,_⟩:=qaK i;replace h:=h.lrnAdd 1 Z v;refine zx f g ⟨d.1,qC d.2.1 (qe9 (h.lrnO 1 Z)).2⟩ Z ?_;replace h:=h.unlrn 1 Z;exact qol qa J h c f g Z Z Z Z Z fun _ _ h=>X0 7 Z (rK ⟨_,_,_,F,rfl,h⟩ Z)
 refine qt Z ?_;obtain rfl:=qb F;replace F:=k;refine X0 5 Z ?_;obtain rfl:=qb F;exact rO 0 h Z ⟨rfl,G⟩
def qlX(n:Nat)(a:qJ):Option qJ:=(qit n a.Bp).bind fun b=>(qit n a.Be).bind fun c=>V (⟨a.Bi,a.Bm,a.To,a.Br,b,c⟩:qJ)
theorem qtp{a:qJ}(b:Ro w a cs1){r:qJ}(F:qlX n a=V r):RetV prog 249 [oV qJ cs1] w r:=by
 obtain⟨_,_,_,_,rfl,k,s2⟩:=qaj b;refine zV 25 func249 Z fun h=>zSR (qw h Z Z fun _ _ h=>qq qa h Z Z Z fun _ _ h=>zNSR (qq qa h Z Z Z fun _ _ h=>X1 6 2 h Z (zs 0 h Z fun _ h=>X1 6 2 h Z (zs 0 h Z fun _ h=>X1 6 2 h Z (zs 0 h Z fun _ h=>X1 6 2 h Z (zs 0 h Z fun _ h=>X1 5 2 h Z (zcL h F (qmV ⟨_,_,rfl,(h.oldS k)⟩) Z fun c _ _ g k3 h F=>zp1 Z (zs 1 h Z fun _ h=>X1 5 3 h Z (zcL h F (qmV ⟨_,_,rfl,(h.oldS s2)⟩) Z fun d _ _ i f h F=>zp1 Z (zs 2 h Z fun _ h=>X1 4 2 h Z (zs 3 h Z fun _ h=>qan ?_)))))))))));obtain rfl:=qb F;exact qac qa (ρ:=qJ) [oV qJ [vi a.Bi,vi a.Bm,vi a.To,vi a.Br,oS g c.length k3,oS i d.length f]] h ⟨⟨_,_,_,rfl,rfl,h.box 3 Z,rfl⟩,G⟩ (PV.done h (qae (qxT (⟨a.Bi,a.Bm,a.To,a.Br,c,d⟩:qJ) h (qv (S:=fun _=>False) Z) (qv (S:=fun _=>False) Z) (qv (S:=fun _=>False) Z) (qv (S:=fun _=>False) Z) (qab 1 h Z) (qab 0 h Z) (by rfl) (by rfl) (by rfl) (by rfl) (by rfl))))
def qhE(a:(List qJ)):Nat->(List qJ)->Int->Option ((List qJ)×Int)|0,_,_=>U|n+1,b,i1=>bif decide (i1<(a.length:Int)) then(idx a i1).bind fun d=>(qlX n d).bind fun c=>(idx b i1).bind fun _=>qhE a n (setS b i1 c) (W64 (i1+1)) else V (b,i1)
def qmo(n:Nat)(a:(List qJ)):Option (List qJ):=(mkS (a.length:Int) ((⟨0,0,0,0,[],[]⟩:qJ):qJ)).bind fun x1=>(qhE a n x1 0).bind fun(b,_)=>V b
theorem qsW{a:(List qJ)}(l:Ro w a cs1){r:(List qJ)}(F:qmo n a=V r):RetV prog 201 [oV (List qJ) cs1] w r:=by
 obtain⟨I,C,rfl,K⟩:=l;refine zV 23 func201 Z fun h=>X0 8 Z ?_;obtain⟨x1,b,F⟩:=qc F;obtain⟨A,B,b⟩:=qU b;refine qam qa qJ h Z Z Z Z Z Z Z Z Z A B b Z fun _ _ z h=>X0 7 Z ?_;obtain⟨D,F,k⟩:=qc F;refine qm (rL (fun m e w'=>∃S2 x i1,qhE a m x i1=V D/\e=[(0,oS I a.length C),(3,oS z x1.length x1.length),(4,vi i1)]/\SH w w' [oW S2 (x:List qJ) [oS z x1.length x1.length]]) n ⟨_,_,_,F,rfl,h⟩ Z ?_);rintro y _ _ ⟨S2,x,i1,F,rfl,h⟩;rcases y with _|y
 ·cases F
 refine X0 8 Z (qi Z F ?_ ?_)<;>intro F
 ·refine X0 8 Z ?_;obtain⟨M,_,F,p,_,_,_,_,s,t,u,o⟩:=K.ix F;obtain⟨_,_,_,_,rfl,s2,L⟩:=qaj u;refine zxe s t p Z (zc 0 (o.below h.below) Z (zcO h F (qtp (qgb M (h.oldS s2) (h.oldS L))) Z fun J _ _ _ h F=>?_));obtain⟨_,_,_,_,rfl,-,-⟩:=qaj (h.own 0 Z);obtain⟨_,c,F⟩:=qc F;have d:=qaO c;replace h:=h.lrn0 1 Z;obtain⟨_,H,_,_,f,g,-,i,_⟩:=(qe9 (h.lrnO 1 Z)).1.at c;have v:=i;obtain⟨_,_,_,_,rfl,_,_⟩:=qaj i;replace h:=h.lrnAdd 1 Z v;refine zx f g ⟨d.1,qC d.2.1 (qe9 (h.lrnO 1 Z)).2⟩ Z ?_;replace h:=h.unlrn 1 Z;exact qol qa J h c f g Z Z Z Z Z fun _ _ h=>X0 7 Z (rK ⟨_,_,_,F,rfl,h⟩ Z)
 refine qt Z ?_;obtain rfl:=qb F;replace F:=k;refine X0 5 Z ?_;obtain rfl:=qb F;exact rO 0 h Z ⟨rfl,G⟩
def qkW(n:Nat)(a:qz):Option qz:=(qmr n a.Bh).bind fun b=>(qmo n a.Bc).bind fun c=>(qbP n a.Bq).bind fun d=>V (⟨a.Bd,a.Bi,b,c,d,a.Cc,a.Bw⟩:qz)
theorem qsx{a:qz}(b:Ro w a cs1){r:qz}(F:qkW n a=V r):RetV prog 150 [oV qz cs1] w r:=by
 obtain⟨_,_,_,_,_,_,rfl,p,s2,s⟩:=qag b;refine zV 29 func150 Z fun h=>zSR (qw h Z Z fun _ _ h=>qq qa h Z Z Z fun _ _ h=>zNSR (qq qa h Z Z Z fun _ _ h=>X1 6 2 h Z (zs 0 h Z fun _ h=>X1 6 2 h Z (zs 0 h Z fun _ h=>X1 5 2 h Z (zcL h F (qsZ ⟨_,_,rfl,(h.oldS p)⟩) Z fun c _ _ l g h F=>zp1 Z (zs 1 h Z fun _ h=>X1 5 3 h Z (zcL h F (qsW ⟨_,_,rfl,(h.oldS s2)⟩) Z fun d _ _ m i h F=>zp1 Z (zs 2 h Z fun _ h=>X1 5 4 h Z (zcL h F (qbO ⟨_,_,rfl,(h.oldS s)⟩) Z fun f _ _ o k h F=>zp1 Z (zs 3 h Z fun _ h=>X1 6 5 h Z (zs 3 h Z fun _ h=>X1 6 5 h Z (zs 3 h Z fun _ h=>X1 4 3 h Z (zs 4 h Z fun _ h=>qan ?_)))))))))))));obtain rfl:=qb F;exact qac qa (ρ:=qz) [oV qz [.string a.Bd,vi a.Bi,oS l c.length g,oS m d.length i,oS o f.length k,vi a.Cc,vi a.Bw]] h ⟨⟨_,_,_,rfl,rfl,h.box 4 Z,rfl⟩,G⟩ (PV.done h (qae (qvR (⟨a.Bd,a.Bi,c,d,f,a.Cc,a.Bw⟩:qz) h (qv (S:=fun _=>False) Z) (qv (S:=fun _=>False) Z) (qab 2 h Z) (qab 1 h Z) (qab 0 h Z) (qv (S:=fun _=>False) Z) (qv (S:=fun _=>False) Z) (by rfl) (by rfl) (by rfl) (by rfl) (by rfl) (by rfl))))
def qg7(a:(List qz)):Nat->(List qz)->Int->Option ((List qz)×Int)|0,_,_=>U|n+1,b,i1=>bif decide (i1<(a.length:Int)) then(idx a i1).bind fun d=>(qkW n d).bind fun c=>(idx b i1).bind fun _=>qg7 a n (setS b i1 c) (W64 (i1+1)) else V (b,i1)
def qll(n:Nat)(a:(List qz)):Option (List qz):=(mkS (a.length:Int) ((⟨ByteArray.empty,0,[],[],[],0,0⟩:qz):qz)).bind fun x1=>(qg7 a n x1 0).bind fun(b,_)=>V b
theorem qrL{a:(List qz)}(l:Ro w a cs1){r:(List qz)}(F:qll n a=V r):RetV prog 102 [oV (List qz) cs1] w r:=by
 obtain⟨I,C,rfl,K⟩:=l;refine zV 23 func102 Z fun h=>X0 8 Z ?_;obtain⟨x1,b,F⟩:=qc F;obtain⟨A,B,b⟩:=qU b;refine qam qa qz h Z Z Z Z Z Z Z Z Z A B b Z fun _ _ z h=>X0 7 Z ?_;obtain⟨D,F,k⟩:=qc F;refine qm (rL (fun m e w'=>∃S2 x i1,qg7 a m x i1=V D/\e=[(0,oS I a.length C),(3,oS z x1.length x1.length),(4,vi i1)]/\SH w w' [oW S2 (x:List qz) [oS z x1.length x1.length]]) n ⟨_,_,_,F,rfl,h⟩ Z ?_);rintro y _ _ ⟨S2,x,i1,F,rfl,h⟩;rcases y with _|y
 ·cases F
 refine X0 8 Z (qi Z F ?_ ?_)<;>intro F
 ·refine X0 8 Z ?_;obtain⟨N,_,F,p,_,_,_,_,s,t,u,o⟩:=K.ix F;obtain⟨_,_,_,_,_,_,rfl,s2,L,M⟩:=qag u;refine zxe s t p Z (zc 0 (o.below h.below) Z (zcO h F (qsx (qlB N (h.oldS s2) (h.oldS L) (h.oldS M))) Z fun J _ _ _ h F=>?_));obtain⟨_,_,_,_,_,_,rfl,-,-,-⟩:=qag (h.own 0 Z);obtain⟨_,c,F⟩:=qc F;have d:=qaO c;replace h:=h.lrn0 1 Z;obtain⟨_,H,_,_,f,g,-,i,_⟩:=(qe9 (h.lrnO 1 Z)).1.at c;have v:=i;obtain⟨_,_,_,_,_,_,rfl,_,_,_⟩:=qag i;replace h:=h.lrnAdd 1 Z v;refine zx f g ⟨d.1,qC d.2.1 (qe9 (h.lrnO 1 Z)).2⟩ Z ?_;replace h:=h.unlrn 1 Z;exact qol qa J h c f g Z Z Z Z Z fun _ _ h=>X0 7 Z (rK ⟨_,_,_,F,rfl,h⟩ Z)
 refine qt Z ?_;obtain rfl:=qb F;replace F:=k;refine X0 5 Z ?_;obtain rfl:=qb F;exact rO 0 h Z ⟨rfl,G⟩
def qjv(n:Nat)(a:qp):Option qp:=(qll n a.Ay).bind fun b=>V (⟨b⟩:qp)
theorem qp6{a:qp}(b:Ro w a cs1){r:qp}(F:qjv n a=V r):RetV prog 62 [oV qp cs1] w r:=by
 obtain⟨_,_,rfl,g⟩:=qbN b;refine zV 9 func62 Z fun h=>zSR (qw h Z Z fun _ _ h=>qq qa h Z Z Z fun _ _ h=>zNSR (qq qa h Z Z Z fun _ _ h=>X1 5 2 h Z (zcL h F (qrL ⟨_,_,rfl,(h.oldS g)⟩) Z fun c _ _ f d h F=>zp1 Z (zs 1 h Z fun _ h=>X1 4 1 h Z (zs 2 h Z fun _ h=>qan ?_)))));obtain rfl:=qb F;exact qac qa (ρ:=qp) [oV qp [oS f c.length d]] h ⟨⟨_,_,_,rfl,rfl,h.box 2 Z,rfl⟩,G⟩ (PV.done h (qae (qvA (⟨c⟩:qp) h (qab 0 h Z) )))
def qgT(n:Nat)(a:ql):Option ql:=(qbP n a.As).bind fun b=>V (⟨a.Bd,a.Bv,b⟩:ql)
theorem qpS{a:ql}(b:Ro w a cs1){r:ql}(F:qgT n a=V r):RetV prog 151 [oV ql cs1] w r:=by
 obtain⟨_,_,rfl,g⟩:=qV b;refine zV 15 func151 Z fun h=>zSR (qw h Z Z fun _ _ h=>qq qa h Z Z Z fun _ _ h=>zNSR (qq qa h Z Z Z fun _ _ h=>X1 6 2 h Z (zs 0 h Z fun _ h=>X1 6 2 h Z (zs 0 h Z fun _ h=>X1 5 2 h Z (zcL h F (qbO ⟨_,_,rfl,(h.oldS g)⟩) Z fun c _ _ f d h F=>zp1 Z (zs 1 h Z fun _ h=>X1 4 1 h Z (zs 2 h Z fun _ h=>qan ?_)))))));obtain rfl:=qb F;exact qac qa (ρ:=ql) [oV ql [.string a.Bd,vi a.Bv,oS f c.length d]] h ⟨⟨_,_,_,rfl,rfl,h.box 2 Z,rfl⟩,G⟩ (PV.done h (qae (qqD (⟨a.Bd,a.Bv,c⟩:ql) h (qv (S:=fun _=>False) Z) (qv (S:=fun _=>False) Z) (qab 0 h Z) (by rfl) (by rfl))))
def qev(a:(List ql)):Nat->(List ql)->Int->Option ((List ql)×Int)|0,_,_=>U|n+1,b,i1=>bif decide (i1<(a.length:Int)) then(idx a i1).bind fun d=>(qgT n d).bind fun c=>(idx b i1).bind fun _=>qev a n (setS b i1 c) (W64 (i1+1)) else V (b,i1)
def qh6(n:Nat)(a:(List ql)):Option (List ql):=(mkS (a.length:Int) ((⟨ByteArray.empty,0,[]⟩:ql):ql)).bind fun x1=>(qev a n x1 0).bind fun(b,_)=>V b
theorem qpp{a:(List ql)}(l:Ro w a cs1){r:(List ql)}(F:qh6 n a=V r):RetV prog 103 [oV (List ql) cs1] w r:=by
 obtain⟨I,C,rfl,K⟩:=l;refine zV 23 func103 Z fun h=>X0 8 Z ?_;obtain⟨x1,b,F⟩:=qc F;obtain⟨A,B,b⟩:=qU b;refine qam qa ql h Z Z Z Z Z Z Z Z Z A B b Z fun _ _ z h=>X0 7 Z ?_;obtain⟨D,F,k⟩:=qc F;refine qm (rL (fun m e w'=>∃S2 x i1,qev a m x i1=V D/\e=[(0,oS I a.length C),(3,oS z x1.length x1.length),(4,vi i1)]/\SH w w' [oW S2 (x:List ql) [oS z x1.length x1.length]]) n ⟨_,_,_,F,rfl,h⟩ Z ?_);rintro y _ _ ⟨S2,x,i1,F,rfl,h⟩;rcases y with _|y
 ·cases F
 refine X0 8 Z (qi Z F ?_ ?_)<;>intro F
 ·refine X0 8 Z ?_;obtain⟨L,_,F,p,_,_,_,_,s,t,u,o⟩:=K.ix F;obtain⟨_,_,rfl,s2⟩:=qV u;refine zxe s t p Z (zc 0 (o.below h.below) Z (zcO h F (qpS (qhc L (h.oldS s2))) Z fun J _ _ _ h F=>?_));obtain⟨_,_,rfl,-⟩:=qV (h.own 0 Z);obtain⟨_,c,F⟩:=qc F;have d:=qaO c;replace h:=h.lrn0 1 Z;obtain⟨_,H,_,_,f,g,-,i,_⟩:=(qe9 (h.lrnO 1 Z)).1.at c;have v:=i;obtain⟨_,_,rfl,_⟩:=qV i;replace h:=h.lrnAdd 1 Z v;refine zx f g ⟨d.1,qC d.2.1 (qe9 (h.lrnO 1 Z)).2⟩ Z ?_;replace h:=h.unlrn 1 Z;exact qol qa J h c f g Z Z Z Z Z fun _ _ h=>X0 7 Z (rK ⟨_,_,_,F,rfl,h⟩ Z)
 refine qt Z ?_;obtain rfl:=qb F;replace F:=k;refine X0 5 Z ?_;obtain rfl:=qb F;exact rO 0 h Z ⟨rfl,G⟩
def qfL(a:(List ByteArray)):Nat->(List ByteArray)->Int->Option ((List ByteArray)×Int)|0,_,_=>U|n+1,b,i1=>bif decide (i1<(a.length:Int)) then(idx a i1).bind fun c=>(idx b i1).bind fun _=>qfL a n (setS b i1 c) (W64 (i1+1)) else V (b,i1)
def qjJ(n:Nat)(a:(List ByteArray)):Option (List ByteArray):=(mkS (a.length:Int) (ByteArray.empty:ByteArray)).bind fun x1=>(qfL a n x1 0).bind fun(b,_)=>V b
theorem qqi{a:(List ByteArray)}(i:Ro w a cs1){r:(List ByteArray)}(F:qjJ n a=V r):RetV prog 104 [oV (List ByteArray) cs1] w r:=by
 obtain⟨C,A,rfl,D⟩:=i;refine zV 22 func104 Z fun h=>X0 8 Z ?_;obtain⟨x1,b,F⟩:=qc F;obtain⟨y,z,b⟩:=qU b;refine qam qa ByteArray h Z Z Z Z Z Z Z Z Z y z b Z fun _ S1 x h=>X0 7 Z ?_;obtain⟨B,F,g⟩:=qc F;refine qm (rL (fun m e w'=>∃u i1,qfL a m u i1=V B/\e=[(0,oS C a.length A),(3,oS x x1.length x1.length),(4,vi i1)]/\SH w w' [oW S1 (u:List ByteArray) [oS x x1.length x1.length]]) n ⟨_,_,F,rfl,h⟩ Z ?_);rintro v _ _ ⟨u,i1,F,rfl,h⟩;rcases v with _|v
 ·cases F
 refine X0 8 Z (qi Z F ?_ ?_)<;>intro F
 ·refine X0 8 Z ?_;obtain⟨H,_,F,o,_,_,_,_,p,s,rfl,k⟩:=D.ix F;refine zxe p s o Z (zc 0 (k.below h.below) Z ?_);obtain⟨_,t,F,c,_,_,_,_,d,f,rfl,l⟩:=(h.sl 0 Z).1.ix F;exact zx d f ⟨c.1,qC c.2.1 (h.sl 0 Z).2⟩ Z (qax qa 0 0 H h Z t d f Z l Z Z Z Z Z Z Z fun _ h=>X0 7 Z (rK ⟨_,_,F,rfl,h⟩ Z))
 refine qt Z ?_;obtain rfl:=qb F;replace F:=g;refine X0 5 Z ?_;obtain rfl:=qb F;exact rO 0 h Z ⟨rfl,G⟩
def qkP(_:Nat)(a:qR):Option qR:=V (⟨a.Bd,a.Bx,a.Ca⟩:qR)
theorem qs8{a:qR}(b:Ro w a cs1){r:qR}(F:qkP n a=V r):RetV prog 152 [oV qR cs1] w r:=by
 obtain rfl:=qaZ b;refine zV 14 func152 Z fun h=>zSR (qw h Z Z fun _ _ h=>qq qa h Z Z Z fun _ _ h=>zNSR (qq qa h Z Z Z fun _ _ h=>X1 6 2 h Z (zs 0 h Z fun _ h=>X1 6 2 h Z (zs 0 h Z fun _ h=>X1 6 2 h Z (zs 0 h Z fun _ h=>X1 4 0 h Z (zs 1 h Z fun _ h=>qan ?_))))));obtain rfl:=qb F;exact qac qa (ρ:=qR) [oV qR (qsg a)] h ⟨⟨_,_,_,rfl,rfl,h.box 1 Z,rfl⟩,G⟩ (PV.done h (qae (qv (S:=fun _=>False) (qeN (⟨a.Bd,a.Bx,a.Ca⟩:qR)))))
def qg4(a:(List qR)):Nat->(List qR)->Int->Option ((List qR)×Int)|0,_,_=>U|n+1,b,i1=>bif decide (i1<(a.length:Int)) then(idx a i1).bind fun d=>(qkP n d).bind fun c=>(idx b i1).bind fun _=>qg4 a n (setS b i1 c) (W64 (i1+1)) else V (b,i1)
def qli(n:Nat)(a:(List qR)):Option (List qR):=(mkS (a.length:Int) ((⟨ByteArray.empty,0,0⟩:qR):qR)).bind fun x1=>(qg4 a n x1 0).bind fun(b,_)=>V b
theorem qrR{a:(List qR)}(i:Ro w a cs1){r:(List qR)}(F:qli n a=V r):RetV prog 105 [oV (List qR) cs1] w r:=by
 obtain⟨I,D,rfl,J⟩:=i;refine zV 23 func105 Z fun h=>X0 8 Z ?_;obtain⟨x1,b,F⟩:=qc F;obtain⟨B,C,b⟩:=qU b;refine qam qa qR h Z Z Z Z Z Z Z Z Z B C b Z fun _ S1 z h=>X0 7 Z ?_;obtain⟨H,F,g⟩:=qc F;refine qm (rL (fun m e w'=>∃x i1,qg4 a m x i1=V H/\e=[(0,oS I a.length D),(3,oS z x1.length x1.length),(4,vi i1)]/\SH w w' [oW S1 (x:List qR) [oS z x1.length x1.length]]) n ⟨_,_,F,rfl,h⟩ Z ?_);rintro y _ _ ⟨x,i1,F,rfl,h⟩;rcases y with _|y
 ·cases F
 refine X0 8 Z (qi Z F ?_ ?_)<;>intro F
 ·refine X0 8 Z ?_;obtain⟨K,_,F,o,_,_,_,_,p,s,t,k⟩:=J.ix F;obtain rfl:=qaZ t;refine zxe p s o Z (zc 0 (k.below h.below) Z (zcO h F (qs8 (qeN K)) Z fun A _ _ _ h F=>?_));obtain rfl:=qaZ (h.own 0 Z);obtain⟨L,v,F,c,_,_,_,_,d,f,u,l⟩:=(h.sl 1 Z).1.ix F;obtain rfl:=qaZ u;refine zx d f ⟨c.1,qC c.2.1 (h.sl 1 Z).2⟩ Z (qax qa 1 0 A h Z v d f (qeN L) l Z Z Z (qeN A) Z Z Z fun _ h=>X0 7 Z ?_);replace h:=h.p [1] Z;exact rK ⟨_,_,F,rfl,h⟩ Z
 refine qt Z ?_;obtain rfl:=qb F;replace F:=g;refine X0 5 Z ?_;obtain rfl:=qb F;exact rO 0 h Z ⟨rfl,G⟩
def qkk(n:Nat)(a:qd):Option qd:=(qh6 n a.Ab).bind fun b=>(qjJ n a.As).bind fun c=>(qli n a.Ak).bind fun d=>V (⟨b,c,d⟩:qd)
theorem qqO{a:qd}(b:Ro w a cs1){r:qd}(F:qkk n a=V r):RetV prog 63 [oV qd cs1] w r:=by
 obtain⟨_,_,_,_,_,_,rfl,p,s2,s⟩:=qaE b;refine zV 17 func63 Z fun h=>zSR (qw h Z Z fun _ _ h=>qq qa h Z Z Z fun _ _ h=>zNSR (qq qa h Z Z Z fun _ _ h=>X1 5 2 h Z (zcL h F (qpp ⟨_,_,rfl,(h.oldS p)⟩) Z fun c _ _ l g h F=>zp1 Z (zs 1 h Z fun _ h=>X1 5 3 h Z (zcL h F (qqi ⟨_,_,rfl,(h.oldS s2)⟩) Z fun d _ _ m i h F=>zp1 Z (zs 2 h Z fun _ h=>X1 5 4 h Z (zcL h F (qrR ⟨_,_,rfl,(h.oldS s)⟩) Z fun f _ _ o k h F=>zp1 Z (zs 3 h Z fun _ h=>X1 4 3 h Z (zs 4 h Z fun _ h=>qan ?_)))))))));obtain rfl:=qb F;exact qac qa (ρ:=qd) [oV qd [oS l c.length g,oS m d.length i,oS o f.length k]] h ⟨⟨_,_,_,rfl,rfl,h.box 4 Z,rfl⟩,G⟩ (PV.done h (qae (qw8 (⟨c,d,f⟩:qd) h (qab 2 h Z) (qab 1 h Z) (qab 0 h Z) (by rfl) (by rfl))))
def qkC(n:Nat)(a:qE):Option qE:=(qbP n a.Az).bind fun b=>(qbP n a.Bz).bind fun c=>(qbP n a.Bu).bind fun d=>(qbP n a.Bn).bind fun r4=>V (⟨b,c,d,r4⟩:qE)
theorem qs1{a:qE}(b:Ro w a cs1){r:qE}(F:qkC n a=V r):RetV prog 106 [oV qE cs1] w r:=by
 obtain⟨_,_,_,_,_,_,_,_,rfl,t,s2,u,v⟩:=qaR b;refine zV 21 func106 Z fun h=>zSR (qw h Z Z fun _ _ h=>qq qa h Z Z Z fun _ _ h=>zNSR (qq qa h Z Z Z fun _ _ h=>X1 5 2 h Z (zcL h F (qbO ⟨_,_,rfl,(h.oldS t)⟩) Z fun c _ _ m g h F=>zp1 Z (zs 1 h Z fun _ h=>X1 5 3 h Z (zcL h F (qbO ⟨_,_,rfl,(h.oldS s2)⟩) Z fun d _ _ o i h F=>zp1 Z (zs 2 h Z fun _ h=>X1 5 4 h Z (zcL h F (qbO ⟨_,_,rfl,(h.oldS u)⟩) Z fun f _ _ p k h F=>zp1 Z (zs 3 h Z fun _ h=>X1 5 5 h Z (zcL h F (qbO ⟨_,_,rfl,(h.oldS v)⟩) Z fun r4 _ _ s l h F=>zp1 Z (zs 4 h Z fun _ h=>X1 4 4 h Z (zs 5 h Z fun _ h=>qan ?_)))))))))));obtain rfl:=qb F;exact qac qa (ρ:=qE) [oV qE [oS m c.length g,oS o d.length i,oS p f.length k,oS s r4.length l]] h ⟨⟨_,_,_,rfl,rfl,h.box 5 Z,rfl⟩,G⟩ (PV.done h (qae (qvS (⟨c,d,f,r4⟩:qE) h (qab 3 h Z) (qab 2 h Z) (qab 1 h Z) (qab 0 h Z) (by rfl) (by rfl) (by rfl))))
def qgV(a:(List qE)):Nat->(List qE)->Int->Option ((List qE)×Int)|0,_,_=>U|n+1,b,i1=>bif decide (i1<(a.length:Int)) then(idx a i1).bind fun d=>(qkC n d).bind fun c=>(idx b i1).bind fun _=>qgV a n (setS b i1 c) (W64 (i1+1)) else V (b,i1)
def qk9(n:Nat)(a:(List qE)):Option (List qE):=(mkS (a.length:Int) ((⟨[],[],[],[]⟩:qE):qE)).bind fun x1=>(qgV a n x1 0).bind fun(b,_)=>V b
theorem qrG{a:(List qE)}(l:Ro w a cs1){r:(List qE)}(F:qk9 n a=V r):RetV prog 64 [oV (List qE) cs1] w r:=by
 obtain⟨I,C,rfl,K⟩:=l;refine zV 23 func64 Z fun h=>X0 8 Z ?_;obtain⟨x1,b,F⟩:=qc F;obtain⟨A,B,b⟩:=qU b;refine qam qa qE h Z Z Z Z Z Z Z Z Z A B b Z fun _ _ z h=>X0 7 Z ?_;obtain⟨D,F,k⟩:=qc F;refine qm (rL (fun m e w'=>∃S2 x i1,qgV a m x i1=V D/\e=[(0,oS I a.length C),(3,oS z x1.length x1.length),(4,vi i1)]/\SH w w' [oW S2 (x:List qE) [oS z x1.length x1.length]]) n ⟨_,_,_,F,rfl,h⟩ Z ?_);rintro y _ _ ⟨S2,x,i1,F,rfl,h⟩;rcases y with _|y
 ·cases F
 refine X0 8 Z (qi Z F ?_ ?_)<;>intro F
 ·refine X0 8 Z ?_;obtain⟨O,_,F,p,_,_,_,_,s,t,u,o⟩:=K.ix F;obtain⟨_,_,_,_,_,_,_,_,rfl,s2,L,M,N⟩:=qaR u;refine zxe s t p Z (zc 0 (o.below h.below) Z (zcO h F (qs1 (qlz O (h.oldS s2) (h.oldS L) (h.oldS M) (h.oldS N))) Z fun J _ _ _ h F=>?_));obtain⟨_,_,_,_,_,_,_,_,rfl,-,-,-,-⟩:=qaR (h.own 0 Z);obtain⟨_,c,F⟩:=qc F;have d:=qaO c;replace h:=h.lrn0 1 Z;obtain⟨_,H,_,_,f,g,-,i,_⟩:=(qe9 (h.lrnO 1 Z)).1.at c;have v:=i;obtain⟨_,_,_,_,_,_,_,_,rfl,_,_,_,_⟩:=qaR i;replace h:=h.lrnAdd 1 Z v;refine zx f g ⟨d.1,qC d.2.1 (qe9 (h.lrnO 1 Z)).2⟩ Z ?_;replace h:=h.unlrn 1 Z;exact qol qa J h c f g Z Z Z Z Z fun _ _ h=>X0 7 Z (rK ⟨_,_,_,F,rfl,h⟩ Z)
 refine qt Z ?_;obtain rfl:=qb F;replace F:=k;refine X0 5 Z ?_;obtain rfl:=qb F;exact rO 0 h Z ⟨rfl,G⟩
def qly(n:Nat)(a:qh):Option qh:=(qjv n (⟨a.Au.Ay⟩:qp)).bind fun b=>(qkk n (⟨a.Aa.Ab,a.Aa.As,a.Aa.Ak⟩:qd)).bind fun c=>(qk9 n a.Ai).bind fun d=>V (⟨b,c,d⟩:qh)
theorem qrA{a:qh}(c:Ro w a cs1){r:qh}(F:qly n a=V r):RetV prog 27 [oV qh cs1] w r:=by
 obtain⟨_,_,_,_,_,_,_,_,_,_,rfl,v,s2,x,y,z⟩:=qaf c;refine zV 17 func27 Z fun h=>zSR (qw h Z Z fun _ _ h=>qq qa h Z Z Z fun _ _ h=>zNSR (qq qa h Z Z Z fun _ _ h=>X1 5 2 h Z (zcO h F (qp6 (qeC _ (h.oldS v))) Z fun g _ _ _ h F=>?_)));obtain⟨p,k,rfl,-⟩:=qbN (h.own 0 Z);refine zp1 Z (zs 1 h Z fun _ h=>X1 5 3 h Z (zcO h F (qqO (qaC _ (h.oldS s2) (h.oldS x) (h.oldS y))) Z fun b _ _ _ h F=>?_));obtain⟨s,l,t,m,u,o,rfl,-,-,-⟩:=qaE (h.own 0 Z);refine zp1 Z (zs 2 h Z fun _ h=>X1 5 4 h Z (zcL h F (qrG ⟨_,_,rfl,(h.oldS z)⟩) Z fun i _ _ f d h F=>zp1 Z (zs 3 h Z fun _ h=>X1 4 3 h Z (zs 4 h Z fun _ h=>qan ?_))));obtain rfl:=qb F;exact qac qa (ρ:=qh) [oV qh [oS p g.Ay.length k,oS s b.Ab.length l,oS t b.As.length m,oS u b.Ak.length o,oS f i.length d]] h ⟨⟨_,_,_,rfl,rfl,h.box 4 Z,rfl⟩,G⟩ (PV.done h (qae (qx6 (⟨g,b,i⟩:qh) h (qab 2 h Z) (qab 1 h Z) (qab 0 h Z) (by rfl) (by rfl))))
end Go.Fw


namespace Go.Fw
open Go Go.Proofs Go.Proofs.Tryz
open Go.RowKit (Below)
open Ch renaming own->oW,box->oX,grp->oG
open GoT renaming v->oV
open Go.Value renaming slice->oS
set_option maxRecDepth 100000
set_option maxHeartbeats 6400000
variable{n:Nat}{w:World}{cs1 cs2 cs3 cs4 cs5 cs6 cs7 cs8 cs9:List Value}
def qgg(a:(List Int))(b:(List Int)):Nat->Int->Option (Flow Bool Int)|0,_=>U|n+1,i1=>bif decide (i1<(a.length:Int)) then(idx a i1).bind fun c=>(idx b i1).bind fun d=>bif (c != d) then V (.ret false) else qgg a b n (W64 (i1+1)) else V (.nxt i1)
def qbB(n:Nat)(a:(List Int))(b:(List Int)):Option Bool:=bif ((a.length:Int) != (b.length:Int)) then V false else(qgg a b n 0).bind fun|.ret r=>V r|.nxt _=>V true
theorem qbw{a:(List Int)}{b:(List Int)}(d:Ro w a cs1)(f:Ro w b cs2){r:Bool}(F:qbB n a b=V r):RetV prog 33 [oV (List Int) cs1,oV (List Int) cs2] w r:=by
 obtain⟨z,v,rfl,B⟩:=d;obtain⟨A,x,rfl,s2⟩:=f;refine zV 26 func33 Z fun h=>X0 13 Z (qi Z F ?_ ?_)<;>intro F
 ·exact X0 4 Z (rb h F Z)
 refine X0 6 Z ?_;obtain⟨y,F,c⟩:=qc F;refine qm (rL (fun m e w'=>∃i1,qgg a b m i1=V y/\e=[(0,oS z a.length v),(1,oS A b.length x),(5,vi i1)]/\SH w w' []) n ⟨_,F,rfl,h⟩ Z ?_);rintro u _ _ ⟨i1,F,rfl,h⟩;rcases u with _|u
 ·cases F
 refine X0 8 Z (qi Z F ?_ ?_)<;>intro F
 ·refine X0 4 Z (rD (zd2 Z ?_));obtain⟨_,_,F,k,_,_,_,_,o,s,rfl,g⟩:=B.ix F;refine zdxe o s k Z (zdc 0 (g.below h.below) Z (zd2 Z ?_));obtain⟨_,_,F,l,_,_,_,_,p,t,rfl,i⟩:=s2.ix F;refine zdxe p t l Z (zdc 0 (i.below h.below) Z (zd1 Z (dN h fun _ h=>qi Z F ?_ ?_)))<;>intro F
  ·refine X0 4 Z ?_;obtain rfl:=qb F;replace F:=c;exact rb h F Z
  exact X0 7 Z (rK ⟨_,F,rfl,h⟩ Z)
 refine qt Z ?_;obtain rfl:=qb F;replace F:=c;exact X0 4 Z (rb h F Z)
def ql2(_:Nat)(a:qal)(b:qal):Option Bool:=bif (a.Bd.toList != b.Bd.toList) then V false else bif (a.Bx != b.Bx) then V false else bif (a.Bu != b.Bu) then V false else bif (!(a.Bt==b.Bt)) then V false else V true
theorem qtB{a:qal}{b:qal}(c:Ro w a cs1)(d:Ro w b cs2){r:Bool}(F:ql2 n a b=V r):RetV prog 268 [oV qal cs1,oV qal cs2] w r:=by
 obtain rfl:=qa2 c;obtain rfl:=qa2 d;refine zV 25 func268 Z fun h=>zSR (qw h Z Z fun _ _ h=>qw h Z Z fun _ _ h=>X2 11 1 0 h Z (qi Z F ?_ ?_))<;>intro F
 ·exact X0 4 Z (rb h F Z)
 refine X2 10 1 0 h Z (qi Z F ?_ ?_)<;>intro F
 ·exact X0 4 Z (rb h F Z)
 refine X2 10 1 0 h Z (qi Z F ?_ ?_)<;>intro F
 ·exact X0 4 Z (rb h F Z)
 refine X2 10 1 0 h Z (qi Z F ?_ ?_)<;>intro F
 ·exact X0 4 Z (rb h F Z)
 exact X0 5 Z (rb h F Z)
def qhK(a:(List qal))(b:(List qal)):Nat->Int->Option (Flow Bool Int)|0,_=>U|n+1,i1=>bif decide (i1<(a.length:Int)) then(idx a i1).bind fun d=>(idx b i1).bind fun f=>(ql2 n d f).bind fun c=>bif (!c) then V (.ret false) else qhK a b n (W64 (i1+1)) else V (.nxt i1)
def qms(n:Nat)(a:(List qal))(b:(List qal)):Option Bool:=bif ((a.length:Int) != (b.length:Int)) then V false else(qhK a b n 0).bind fun|.ret r=>V r|.nxt _=>V true
theorem qso{a:(List qal)}{b:(List qal)}(d:Ro w a cs1)(f:Ro w b cs2){r:Bool}(F:qms n a b=V r):RetV prog 228 [oV (List qal) cs1,oV (List qal) cs2] w r:=by
 obtain⟨C,z,rfl,I⟩:=d;obtain⟨D,A,rfl,s2⟩:=f;refine zV 27 func228 Z fun h=>X0 13 Z (qi Z F ?_ ?_)<;>intro F
 ·exact X0 4 Z (rb h F Z)
 refine X0 6 Z ?_;obtain⟨B,F,c⟩:=qc F;refine qm (rL (fun m e w'=>∃i1,qhK a b m i1=V B/\e=[(0,oS C a.length z),(1,oS D b.length A),(5,vi i1)]/\SH w w' []) n ⟨_,F,rfl,h⟩ Z ?_);rintro y _ _ ⟨i1,F,rfl,h⟩;rcases y with _|y
 ·cases F
 refine X0 8 Z (qi Z F ?_ ?_)<;>intro F
 ·refine X0 4 Z (rD (zd2 Z ?_));obtain⟨J,_,F,k,_,_,_,_,o,s,u,g⟩:=I.ix F;obtain rfl:=qa2 u;refine zdxe o s k Z (zdc 0 (g.below h.below) Z (zd2 Z ?_));obtain⟨K,_,F,l,_,_,_,_,p,t,v,i⟩:=s2.ix F;obtain rfl:=qa2 v;refine zdxe p t l Z (zdc 0 (i.below h.below) Z ?_);obtain⟨H,x,F⟩:=qc F;refine qa5 H (vsB _) (cB 268 Z) (fun _ L=>qtB (qes J) (qes K) x) Z Z Z Z (zd1 Z (dN h fun _ h=>qi Z F ?_ ?_))<;>intro F
  ·refine X0 4 Z ?_;obtain rfl:=qb F;replace F:=c;exact rb h F Z
  exact X0 7 Z (rK ⟨_,F,rfl,h⟩ Z)
 refine qt Z ?_;obtain rfl:=qb F;replace F:=c;exact X0 4 Z (rb h F Z)
def qjs(n:Nat)(a:qy)(b:qy):Option Bool:=(qbB n a.Bo b.Bo).bind fun c=>bif (!c) then V false else(qbB n a.Bk b.Bk).bind fun d=>bif (!d) then V false else(qbB n a.Bj b.Bj).bind fun f=>bif (!f) then V false else V true
theorem qrN{a:qy}{b:qy}(c:Ro w a cs1)(d:Ro w b cs2){r:Bool}(F:qjs n a b=V r):RetV prog 311 [oV qy cs1,oV qy cs2] w r:=by
 obtain⟨_,_,_,_,_,_,rfl,f,s2,g⟩:=qaK c;obtain⟨_,_,_,_,_,_,rfl,i,k,l⟩:=qaK d;refine zV 23 func311 Z fun h=>zSR (qw h Z Z fun _ _ h=>qw h Z Z fun _ _ h=>X2 9 1 0 h Z (zcB h F (qbw ⟨_,_,rfl,(h.oldS f)⟩ ⟨_,_,rfl,(h.oldS i)⟩) Z fun _ _ h F=>X0 2 Z (qi Z F ?_ ?_)))<;>intro F
 ·exact X0 4 Z (rb h F Z)
 refine X2 8 1 0 h Z (zcB h F (qbw ⟨_,_,rfl,(h.oldS s2)⟩ ⟨_,_,rfl,(h.oldS k)⟩) Z fun _ _ h F=>X0 2 Z (qi Z F ?_ ?_))<;>intro F
 ·exact X0 4 Z (rb h F Z)
 refine X2 8 1 0 h Z (zcB h F (qbw ⟨_,_,rfl,(h.oldS g)⟩ ⟨_,_,rfl,(h.oldS l)⟩) Z fun _ _ h F=>X0 2 Z (qi Z F ?_ ?_))<;>intro F
 ·exact X0 4 Z (rb h F Z)
 exact X0 5 Z (rb h F Z)
def qgl(a:(List qy))(b:(List qy)):Nat->Int->Option (Flow Bool Int)|0,_=>U|n+1,i1=>bif decide (i1<(a.length:Int)) then(idx a i1).bind fun d=>(idx b i1).bind fun f=>(qjs n d f).bind fun c=>bif (!c) then V (.ret false) else qgl a b n (W64 (i1+1)) else V (.nxt i1)
def qix(n:Nat)(a:(List qy))(b:(List qy)):Option Bool:=bif ((a.length:Int) != (b.length:Int)) then V false else(qgl a b n 0).bind fun|.ret r=>V r|.nxt _=>V true
theorem qm7{a:(List qy)}{b:(List qy)}(d:Ro w a cs1)(f:Ro w b cs2){r:Bool}(F:qix n a b=V r):RetV prog 294 [oV (List qy) cs1,oV (List qy) cs2] w r:=by
 obtain⟨C,z,rfl,I⟩:=d;obtain⟨D,A,rfl,s2⟩:=f;refine zV 27 func294 Z fun h=>X0 13 Z (qi Z F ?_ ?_)<;>intro F
 ·exact X0 4 Z (rb h F Z)
 refine X0 6 Z ?_;obtain⟨B,F,c⟩:=qc F;refine qm (rL (fun m e w'=>∃i1,qgl a b m i1=V B/\e=[(0,oS C a.length z),(1,oS D b.length A),(5,vi i1)]/\SH w w' []) n ⟨_,F,rfl,h⟩ Z ?_);rintro y _ _ ⟨i1,F,rfl,h⟩;rcases y with _|y
 ·cases F
 refine X0 8 Z (qi Z F ?_ ?_)<;>intro F
 ·refine X0 4 Z (rD (zd2 Z ?_));obtain⟨P,_,F,k,_,_,_,_,o,s,u,g⟩:=I.ix F;obtain⟨_,_,_,_,_,_,rfl,J,K,L⟩:=qaK u;refine zdxe o s k Z (zdc 0 (g.below h.below) Z (zd2 Z ?_));obtain⟨Q,_,F,l,_,_,_,_,p,t,v,i⟩:=s2.ix F;obtain⟨_,_,_,_,_,_,rfl,M,N,O⟩:=qaK v;refine zdxe p t l Z (zdc 0 (i.below h.below) Z ?_);obtain⟨H,x,F⟩:=qc F;refine qa5 H (vsB _) (cB 311 Z) (fun _ R=>qrN (qfV P ((h.ext R).oldS J) ((h.ext R).oldS K) ((h.ext R).oldS L)) (qfV Q ((h.ext R).oldS M) ((h.ext R).oldS N) ((h.ext R).oldS O)) x) Z Z Z Z (zd1 Z (dN h fun _ h=>qi Z F ?_ ?_))<;>intro F
  ·refine X0 4 Z ?_;obtain rfl:=qb F;replace F:=c;exact rb h F Z
  exact X0 7 Z (rK ⟨_,F,rfl,h⟩ Z)
 refine qt Z ?_;obtain rfl:=qb F;replace F:=c;exact X0 4 Z (rb h F Z)
def qlZ(n:Nat)(a:qJ)(b:qJ):Option Bool:=bif (a.Bi != b.Bi) then V false else bif (a.Bm != b.Bm) then V false else bif (a.To != b.To) then V false else bif (a.Br != b.Br) then V false else(qix n a.Bp b.Bp).bind fun c=>bif (!c) then V false else(qix n a.Be b.Be).bind fun d=>bif (!d) then V false else V true
theorem qtn{a:qJ}{b:qJ}(c:Ro w a cs1)(d:Ro w b cs2){r:Bool}(F:qlZ n a b=V r):RetV prog 269 [oV qJ cs1,oV qJ cs2] w r:=by
 obtain⟨_,_,_,_,rfl,f,s2⟩:=qaj c;obtain⟨_,_,_,_,rfl,g,i⟩:=qaj d;refine zV 37 func269 Z fun h=>zSR (qw h Z Z fun _ _ h=>qw h Z Z fun _ _ h=>X2 11 1 0 h Z (qi Z F ?_ ?_))<;>intro F
 ·exact X0 4 Z (rb h F Z)
 refine X2 10 1 0 h Z (qi Z F ?_ ?_)<;>intro F
 ·exact X0 4 Z (rb h F Z)
 refine X2 10 1 0 h Z (qi Z F ?_ ?_)<;>intro F
 ·exact X0 4 Z (rb h F Z)
 refine X2 10 1 0 h Z (qi Z F ?_ ?_)<;>intro F
 ·exact X0 4 Z (rb h F Z)
 refine X2 8 1 0 h Z (zcB h F (qm7 ⟨_,_,rfl,(h.oldS f)⟩ ⟨_,_,rfl,(h.oldS g)⟩) Z fun _ _ h F=>X0 2 Z (qi Z F ?_ ?_))<;>intro F
 ·exact X0 4 Z (rb h F Z)
 refine X2 8 1 0 h Z (zcB h F (qm7 ⟨_,_,rfl,(h.oldS s2)⟩ ⟨_,_,rfl,(h.oldS i)⟩) Z fun _ _ h F=>X0 2 Z (qi Z F ?_ ?_))<;>intro F
 ·exact X0 4 Z (rb h F Z)
 exact X0 5 Z (rb h F Z)
def qhP(a:(List qJ))(b:(List qJ)):Nat->Int->Option (Flow Bool Int)|0,_=>U|n+1,i1=>bif decide (i1<(a.length:Int)) then(idx a i1).bind fun d=>(idx b i1).bind fun f=>(qlZ n d f).bind fun c=>bif (!c) then V (.ret false) else qhP a b n (W64 (i1+1)) else V (.nxt i1)
def qmB(n:Nat)(a:(List qJ))(b:(List qJ)):Option Bool:=bif ((a.length:Int) != (b.length:Int)) then V false else(qhP a b n 0).bind fun|.ret r=>V r|.nxt _=>V true
theorem qsS{a:(List qJ)}{b:(List qJ)}(d:Ro w a cs1)(f:Ro w b cs2){r:Bool}(F:qmB n a b=V r):RetV prog 229 [oV (List qJ) cs1,oV (List qJ) cs2] w r:=by
 obtain⟨C,z,rfl,I⟩:=d;obtain⟨D,A,rfl,s2⟩:=f;refine zV 27 func229 Z fun h=>X0 13 Z (qi Z F ?_ ?_)<;>intro F
 ·exact X0 4 Z (rb h F Z)
 refine X0 6 Z ?_;obtain⟨B,F,c⟩:=qc F;refine qm (rL (fun m e w'=>∃i1,qhP a b m i1=V B/\e=[(0,oS C a.length z),(1,oS D b.length A),(5,vi i1)]/\SH w w' []) n ⟨_,F,rfl,h⟩ Z ?_);rintro y _ _ ⟨i1,F,rfl,h⟩;rcases y with _|y
 ·cases F
 refine X0 8 Z (qi Z F ?_ ?_)<;>intro F
 ·refine X0 4 Z (rD (zd2 Z ?_));obtain⟨N,_,F,k,_,_,_,_,o,s,u,g⟩:=I.ix F;obtain⟨_,_,_,_,rfl,J,K⟩:=qaj u;refine zdxe o s k Z (zdc 0 (g.below h.below) Z (zd2 Z ?_));obtain⟨O,_,F,l,_,_,_,_,p,t,v,i⟩:=s2.ix F;obtain⟨_,_,_,_,rfl,L,M⟩:=qaj v;refine zdxe p t l Z (zdc 0 (i.below h.below) Z ?_);obtain⟨H,x,F⟩:=qc F;refine qa5 H (vsB _) (cB 269 Z) (fun _ P=>qtn (qgb N ((h.ext P).oldS J) ((h.ext P).oldS K)) (qgb O ((h.ext P).oldS L) ((h.ext P).oldS M)) x) Z Z Z Z (zd1 Z (dN h fun _ h=>qi Z F ?_ ?_))<;>intro F
  ·refine X0 4 Z ?_;obtain rfl:=qb F;replace F:=c;exact rb h F Z
  exact X0 7 Z (rK ⟨_,F,rfl,h⟩ Z)
 refine qt Z ?_;obtain rfl:=qb F;replace F:=c;exact X0 4 Z (rb h F Z)
def qkS(n:Nat)(a:qz)(b:qz):Option Bool:=bif (a.Bd.toList != b.Bd.toList) then V false else bif (a.Bi != b.Bi) then V false else(qms n a.Bh b.Bh).bind fun c=>bif (!c) then V false else(qmB n a.Bc b.Bc).bind fun d=>bif (!d) then V false else(qbB n a.Bq b.Bq).bind fun f=>bif (!f) then V false else bif (a.Cc != b.Cc) then V false else bif (a.Bw != b.Bw) then V false else V true
theorem qsI{a:qz}{b:qz}(c:Ro w a cs1)(d:Ro w b cs2){r:Bool}(F:qkS n a b=V r):RetV prog 167 [oV qz cs1,oV qz cs2] w r:=by
 obtain⟨_,_,_,_,_,_,rfl,f,s2,g⟩:=qag c;obtain⟨_,_,_,_,_,_,rfl,i,k,l⟩:=qag d;refine zV 43 func167 Z fun h=>zSR (qw h Z Z fun _ _ h=>qw h Z Z fun _ _ h=>X2 11 1 0 h Z (qi Z F ?_ ?_))<;>intro F
 ·exact X0 4 Z (rb h F Z)
 refine X2 10 1 0 h Z (qi Z F ?_ ?_)<;>intro F
 ·exact X0 4 Z (rb h F Z)
 refine X2 8 1 0 h Z (zcB h F (qso ⟨_,_,rfl,(h.oldS f)⟩ ⟨_,_,rfl,(h.oldS i)⟩) Z fun _ _ h F=>X0 2 Z (qi Z F ?_ ?_))<;>intro F
 ·exact X0 4 Z (rb h F Z)
 refine X2 8 1 0 h Z (zcB h F (qsS ⟨_,_,rfl,(h.oldS s2)⟩ ⟨_,_,rfl,(h.oldS k)⟩) Z fun _ _ h F=>X0 2 Z (qi Z F ?_ ?_))<;>intro F
 ·exact X0 4 Z (rb h F Z)
 refine X2 8 1 0 h Z (zcB h F (qbw ⟨_,_,rfl,(h.oldS g)⟩ ⟨_,_,rfl,(h.oldS l)⟩) Z fun _ _ h F=>X0 2 Z (qi Z F ?_ ?_))<;>intro F
 ·exact X0 4 Z (rb h F Z)
 refine X2 10 1 0 h Z (qi Z F ?_ ?_)<;>intro F
 ·exact X0 4 Z (rb h F Z)
 refine X2 10 1 0 h Z (qi Z F ?_ ?_)<;>intro F
 ·exact X0 4 Z (rb h F Z)
 exact X0 5 Z (rb h F Z)
def qg8(a:(List qz))(b:(List qz)):Nat->Int->Option (Flow Bool Int)|0,_=>U|n+1,i1=>bif decide (i1<(a.length:Int)) then(idx a i1).bind fun d=>(idx b i1).bind fun f=>(qkS n d f).bind fun c=>bif (!c) then V (.ret false) else qg8 a b n (W64 (i1+1)) else V (.nxt i1)
def qlt(n:Nat)(a:(List qz))(b:(List qz)):Option Bool:=bif ((a.length:Int) != (b.length:Int)) then V false else(qg8 a b n 0).bind fun|.ret r=>V r|.nxt _=>V true
theorem qrD{a:(List qz)}{b:(List qz)}(d:Ro w a cs1)(f:Ro w b cs2){r:Bool}(F:qlt n a b=V r):RetV prog 114 [oV (List qz) cs1,oV (List qz) cs2] w r:=by
 obtain⟨C,z,rfl,I⟩:=d;obtain⟨D,A,rfl,s2⟩:=f;refine zV 27 func114 Z fun h=>X0 13 Z (qi Z F ?_ ?_)<;>intro F
 ·exact X0 4 Z (rb h F Z)
 refine X0 6 Z ?_;obtain⟨B,F,c⟩:=qc F;refine qm (rL (fun m e w'=>∃i1,qg8 a b m i1=V B/\e=[(0,oS C a.length z),(1,oS D b.length A),(5,vi i1)]/\SH w w' []) n ⟨_,F,rfl,h⟩ Z ?_);rintro y _ _ ⟨i1,F,rfl,h⟩;rcases y with _|y
 ·cases F
 refine X0 8 Z (qi Z F ?_ ?_)<;>intro F
 ·refine X0 4 Z (rD (zd2 Z ?_));obtain⟨P,_,F,k,_,_,_,_,o,s,u,g⟩:=I.ix F;obtain⟨_,_,_,_,_,_,rfl,J,K,L⟩:=qag u;refine zdxe o s k Z (zdc 0 (g.below h.below) Z (zd2 Z ?_));obtain⟨Q,_,F,l,_,_,_,_,p,t,v,i⟩:=s2.ix F;obtain⟨_,_,_,_,_,_,rfl,M,N,O⟩:=qag v;refine zdxe p t l Z (zdc 0 (i.below h.below) Z ?_);obtain⟨H,x,F⟩:=qc F;refine qa5 H (vsB _) (cB 167 Z) (fun _ R=>qsI (qlB P ((h.ext R).oldS J) ((h.ext R).oldS K) ((h.ext R).oldS L)) (qlB Q ((h.ext R).oldS M) ((h.ext R).oldS N) ((h.ext R).oldS O)) x) Z Z Z Z (zd1 Z (dN h fun _ h=>qi Z F ?_ ?_))<;>intro F
  ·refine X0 4 Z ?_;obtain rfl:=qb F;replace F:=c;exact rb h F Z
  exact X0 7 Z (rK ⟨_,F,rfl,h⟩ Z)
 refine qt Z ?_;obtain rfl:=qb F;replace F:=c;exact X0 4 Z (rb h F Z)
def qjq(n:Nat)(a:qp)(b:qp):Option Bool:=(qlt n a.Ay b.Ay).bind fun c=>bif (!c) then V false else V true
theorem qp1{a:qp}{b:qp}(c:Ro w a cs1)(d:Ro w b cs2){r:Bool}(F:qjq n a b=V r):RetV prog 71 [oV qp cs1,oV qp cs2] w r:=by
 obtain⟨_,_,rfl,f⟩:=qbN c;obtain⟨_,_,rfl,s2⟩:=qbN d;refine zV 11 func71 Z fun h=>zSR (qw h Z Z fun _ _ h=>qw h Z Z fun _ _ h=>X2 9 1 0 h Z (zcB h F (qrD ⟨_,_,rfl,(h.oldS f)⟩ ⟨_,_,rfl,(h.oldS s2)⟩) Z fun _ _ h F=>X0 2 Z (qi Z F ?_ ?_)))<;>intro F
 ·exact X0 4 Z (rb h F Z)
 exact X0 5 Z (rb h F Z)
def qgW(n:Nat)(a:ql)(b:ql):Option Bool:=bif (a.Bd.toList != b.Bd.toList) then V false else bif (a.Bv != b.Bv) then V false else(qbB n a.As b.As).bind fun c=>bif (!c) then V false else V true
theorem qpK{a:ql}{b:ql}(c:Ro w a cs1)(d:Ro w b cs2){r:Bool}(F:qgW n a b=V r):RetV prog 168 [oV ql cs1,oV ql cs2] w r:=by
 obtain⟨_,_,rfl,f⟩:=qV c;obtain⟨_,_,rfl,s2⟩:=qV d;refine zV 21 func168 Z fun h=>zSR (qw h Z Z fun _ _ h=>qw h Z Z fun _ _ h=>X2 11 1 0 h Z (qi Z F ?_ ?_))<;>intro F
 ·exact X0 4 Z (rb h F Z)
 refine X2 10 1 0 h Z (qi Z F ?_ ?_)<;>intro F
 ·exact X0 4 Z (rb h F Z)
 refine X2 8 1 0 h Z (zcB h F (qbw ⟨_,_,rfl,(h.oldS f)⟩ ⟨_,_,rfl,(h.oldS s2)⟩) Z fun _ _ h F=>X0 2 Z (qi Z F ?_ ?_))<;>intro F
 ·exact X0 4 Z (rb h F Z)
 exact X0 5 Z (rb h F Z)
def qet(a:(List ql))(b:(List ql)):Nat->Int->Option (Flow Bool Int)|0,_=>U|n+1,i1=>bif decide (i1<(a.length:Int)) then(idx a i1).bind fun d=>(idx b i1).bind fun f=>(qgW n d f).bind fun c=>bif (!c) then V (.ret false) else qet a b n (W64 (i1+1)) else V (.nxt i1)
def qie(n:Nat)(a:(List ql))(b:(List ql)):Option Bool:=bif ((a.length:Int) != (b.length:Int)) then V false else(qet a b n 0).bind fun|.ret r=>V r|.nxt _=>V true
theorem qpj{a:(List ql)}{b:(List ql)}(d:Ro w a cs1)(f:Ro w b cs2){r:Bool}(F:qie n a b=V r):RetV prog 115 [oV (List ql) cs1,oV (List ql) cs2] w r:=by
 obtain⟨C,z,rfl,I⟩:=d;obtain⟨D,A,rfl,s2⟩:=f;refine zV 27 func115 Z fun h=>X0 13 Z (qi Z F ?_ ?_)<;>intro F
 ·exact X0 4 Z (rb h F Z)
 refine X0 6 Z ?_;obtain⟨B,F,c⟩:=qc F;refine qm (rL (fun m e w'=>∃i1,qet a b m i1=V B/\e=[(0,oS C a.length z),(1,oS D b.length A),(5,vi i1)]/\SH w w' []) n ⟨_,F,rfl,h⟩ Z ?_);rintro y _ _ ⟨i1,F,rfl,h⟩;rcases y with _|y
 ·cases F
 refine X0 8 Z (qi Z F ?_ ?_)<;>intro F
 ·refine X0 4 Z (rD (zd2 Z ?_));obtain⟨L,_,F,k,_,_,_,_,o,s,u,g⟩:=I.ix F;obtain⟨_,_,rfl,J⟩:=qV u;refine zdxe o s k Z (zdc 0 (g.below h.below) Z (zd2 Z ?_));obtain⟨M,_,F,l,_,_,_,_,p,t,v,i⟩:=s2.ix F;obtain⟨_,_,rfl,K⟩:=qV v;refine zdxe p t l Z (zdc 0 (i.below h.below) Z ?_);obtain⟨H,x,F⟩:=qc F;refine qa5 H (vsB _) (cB 168 Z) (fun _ N=>qpK (qhc L ((h.ext N).oldS J)) (qhc M ((h.ext N).oldS K)) x) Z Z Z Z (zd1 Z (dN h fun _ h=>qi Z F ?_ ?_))<;>intro F
  ·refine X0 4 Z ?_;obtain rfl:=qb F;replace F:=c;exact rb h F Z
  exact X0 7 Z (rK ⟨_,F,rfl,h⟩ Z)
 refine qt Z ?_;obtain rfl:=qb F;replace F:=c;exact X0 4 Z (rb h F Z)
def qfM(a:(List ByteArray))(b:(List ByteArray)):Nat->Int->Option (Flow Bool Int)|0,_=>U|n+1,i1=>bif decide (i1<(a.length:Int)) then(idx a i1).bind fun c=>(idx b i1).bind fun d=>bif (c.toList != d.toList) then V (.ret false) else qfM a b n (W64 (i1+1)) else V (.nxt i1)
def qjg(n:Nat)(a:(List ByteArray))(b:(List ByteArray)):Option Bool:=bif ((a.length:Int) != (b.length:Int)) then V false else(qfM a b n 0).bind fun|.ret r=>V r|.nxt _=>V true
theorem qqE{a:(List ByteArray)}{b:(List ByteArray)}(d:Ro w a cs1)(f:Ro w b cs2){r:Bool}(F:qjg n a b=V r):RetV prog 116 [oV (List ByteArray) cs1,oV (List ByteArray) cs2] w r:=by
 obtain⟨z,v,rfl,B⟩:=d;obtain⟨A,x,rfl,s2⟩:=f;refine zV 26 func116 Z fun h=>X0 13 Z (qi Z F ?_ ?_)<;>intro F
 ·exact X0 4 Z (rb h F Z)
 refine X0 6 Z ?_;obtain⟨y,F,c⟩:=qc F;refine qm (rL (fun m e w'=>∃i1,qfM a b m i1=V y/\e=[(0,oS z a.length v),(1,oS A b.length x),(5,vi i1)]/\SH w w' []) n ⟨_,F,rfl,h⟩ Z ?_);rintro u _ _ ⟨i1,F,rfl,h⟩;rcases u with _|u
 ·cases F
 refine X0 8 Z (qi Z F ?_ ?_)<;>intro F
 ·refine X0 4 Z (rD (zd2 Z ?_));obtain⟨_,_,F,k,_,_,_,_,o,s,rfl,g⟩:=B.ix F;refine zdxe o s k Z (zdc 0 (g.below h.below) Z (zd2 Z ?_));obtain⟨_,_,F,l,_,_,_,_,p,t,rfl,i⟩:=s2.ix F;refine zdxe p t l Z (zdc 0 (i.below h.below) Z (zd1 Z (dN h fun _ h=>qi Z F ?_ ?_)))<;>intro F
  ·refine X0 4 Z ?_;obtain rfl:=qb F;replace F:=c;exact rb h F Z
  exact X0 7 Z (rK ⟨_,F,rfl,h⟩ Z)
 refine qt Z ?_;obtain rfl:=qb F;replace F:=c;exact X0 4 Z (rb h F Z)
def qkA(_:Nat)(a:qR)(b:qR):Option Bool:=bif (a.Bd.toList != b.Bd.toList) then V false else bif (a.Bx != b.Bx) then V false else bif (a.Ca != b.Ca) then V false else V true
theorem qsi{a:qR}{b:qR}(c:Ro w a cs1)(d:Ro w b cs2){r:Bool}(F:qkA n a b=V r):RetV prog 169 [oV qR cs1,oV qR cs2] w r:=by
 obtain rfl:=qaZ c;obtain rfl:=qaZ d;refine zV 20 func169 Z fun h=>zSR (qw h Z Z fun _ _ h=>qw h Z Z fun _ _ h=>X2 11 1 0 h Z (qi Z F ?_ ?_))<;>intro F
 ·exact X0 4 Z (rb h F Z)
 refine X2 10 1 0 h Z (qi Z F ?_ ?_)<;>intro F
 ·exact X0 4 Z (rb h F Z)
 refine X2 10 1 0 h Z (qi Z F ?_ ?_)<;>intro F
 ·exact X0 4 Z (rb h F Z)
 exact X0 5 Z (rb h F Z)
def qgY(a:(List qR))(b:(List qR)):Nat->Int->Option (Flow Bool Int)|0,_=>U|n+1,i1=>bif decide (i1<(a.length:Int)) then(idx a i1).bind fun d=>(idx b i1).bind fun f=>(qkA n d f).bind fun c=>bif (!c) then V (.ret false) else qgY a b n (W64 (i1+1)) else V (.nxt i1)
def qlm(n:Nat)(a:(List qR))(b:(List qR)):Option Bool:=bif ((a.length:Int) != (b.length:Int)) then V false else(qgY a b n 0).bind fun|.ret r=>V r|.nxt _=>V true
theorem qrz{a:(List qR)}{b:(List qR)}(d:Ro w a cs1)(f:Ro w b cs2){r:Bool}(F:qlm n a b=V r):RetV prog 117 [oV (List qR) cs1,oV (List qR) cs2] w r:=by
 obtain⟨C,z,rfl,I⟩:=d;obtain⟨D,A,rfl,s2⟩:=f;refine zV 27 func117 Z fun h=>X0 13 Z (qi Z F ?_ ?_)<;>intro F
 ·exact X0 4 Z (rb h F Z)
 refine X0 6 Z ?_;obtain⟨B,F,c⟩:=qc F;refine qm (rL (fun m e w'=>∃i1,qgY a b m i1=V B/\e=[(0,oS C a.length z),(1,oS D b.length A),(5,vi i1)]/\SH w w' []) n ⟨_,F,rfl,h⟩ Z ?_);rintro y _ _ ⟨i1,F,rfl,h⟩;rcases y with _|y
 ·cases F
 refine X0 8 Z (qi Z F ?_ ?_)<;>intro F
 ·refine X0 4 Z (rD (zd2 Z ?_));obtain⟨J,_,F,k,_,_,_,_,o,s,u,g⟩:=I.ix F;obtain rfl:=qaZ u;refine zdxe o s k Z (zdc 0 (g.below h.below) Z (zd2 Z ?_));obtain⟨K,_,F,l,_,_,_,_,p,t,v,i⟩:=s2.ix F;obtain rfl:=qaZ v;refine zdxe p t l Z (zdc 0 (i.below h.below) Z ?_);obtain⟨H,x,F⟩:=qc F;refine qa5 H (vsB _) (cB 169 Z) (fun _ L=>qsi (qeN J) (qeN K) x) Z Z Z Z (zd1 Z (dN h fun _ h=>qi Z F ?_ ?_))<;>intro F
  ·refine X0 4 Z ?_;obtain rfl:=qb F;replace F:=c;exact rb h F Z
  exact X0 7 Z (rK ⟨_,F,rfl,h⟩ Z)
 refine qt Z ?_;obtain rfl:=qb F;replace F:=c;exact X0 4 Z (rb h F Z)
def qkq(n:Nat)(a:qd)(b:qd):Option Bool:=(qie n a.Ab b.Ab).bind fun c=>bif (!c) then V false else(qjg n a.As b.As).bind fun d=>bif (!d) then V false else(qlm n a.Ak b.Ak).bind fun f=>bif (!f) then V false else V true
theorem qrb{a:qd}{b:qd}(c:Ro w a cs1)(d:Ro w b cs2){r:Bool}(F:qkq n a b=V r):RetV prog 72 [oV qd cs1,oV qd cs2] w r:=by
 obtain⟨_,_,_,_,_,_,rfl,f,s2,g⟩:=qaE c;obtain⟨_,_,_,_,_,_,rfl,i,k,l⟩:=qaE d;refine zV 23 func72 Z fun h=>zSR (qw h Z Z fun _ _ h=>qw h Z Z fun _ _ h=>X2 9 1 0 h Z (zcB h F (qpj ⟨_,_,rfl,(h.oldS f)⟩ ⟨_,_,rfl,(h.oldS i)⟩) Z fun _ _ h F=>X0 2 Z (qi Z F ?_ ?_)))<;>intro F
 ·exact X0 4 Z (rb h F Z)
 refine X2 8 1 0 h Z (zcB h F (qqE ⟨_,_,rfl,(h.oldS s2)⟩ ⟨_,_,rfl,(h.oldS k)⟩) Z fun _ _ h F=>X0 2 Z (qi Z F ?_ ?_))<;>intro F
 ·exact X0 4 Z (rb h F Z)
 refine X2 8 1 0 h Z (zcB h F (qrz ⟨_,_,rfl,(h.oldS g)⟩ ⟨_,_,rfl,(h.oldS l)⟩) Z fun _ _ h F=>X0 2 Z (qi Z F ?_ ?_))<;>intro F
 ·exact X0 4 Z (rb h F Z)
 exact X0 5 Z (rb h F Z)
def qkI(n:Nat)(a:qE)(b:qE):Option Bool:=(qbB n a.Az b.Az).bind fun c=>bif (!c) then V false else(qbB n a.Bz b.Bz).bind fun d=>bif (!d) then V false else(qbB n a.Bu b.Bu).bind fun f=>bif (!f) then V false else(qbB n a.Bn b.Bn).bind fun r4=>bif (!r4) then V false else V true
theorem qsU{a:qE}{b:qE}(c:Ro w a cs1)(d:Ro w b cs2){r:Bool}(F:qkI n a b=V r):RetV prog 118 [oV qE cs1,oV qE cs2] w r:=by
 obtain⟨_,_,_,_,_,_,_,_,rfl,f,s2,g,i⟩:=qaR c;obtain⟨_,_,_,_,_,_,_,_,rfl,k,l,m,o⟩:=qaR d;refine zV 29 func118 Z fun h=>zSR (qw h Z Z fun _ _ h=>qw h Z Z fun _ _ h=>X2 9 1 0 h Z (zcB h F (qbw ⟨_,_,rfl,(h.oldS f)⟩ ⟨_,_,rfl,(h.oldS k)⟩) Z fun _ _ h F=>X0 2 Z (qi Z F ?_ ?_)))<;>intro F
 ·exact X0 4 Z (rb h F Z)
 refine X2 8 1 0 h Z (zcB h F (qbw ⟨_,_,rfl,(h.oldS s2)⟩ ⟨_,_,rfl,(h.oldS l)⟩) Z fun _ _ h F=>X0 2 Z (qi Z F ?_ ?_))<;>intro F
 ·exact X0 4 Z (rb h F Z)
 refine X2 8 1 0 h Z (zcB h F (qbw ⟨_,_,rfl,(h.oldS g)⟩ ⟨_,_,rfl,(h.oldS m)⟩) Z fun _ _ h F=>X0 2 Z (qi Z F ?_ ?_))<;>intro F
 ·exact X0 4 Z (rb h F Z)
 refine X2 8 1 0 h Z (zcB h F (qbw ⟨_,_,rfl,(h.oldS i)⟩ ⟨_,_,rfl,(h.oldS o)⟩) Z fun _ _ h F=>X0 2 Z (qi Z F ?_ ?_))<;>intro F
 ·exact X0 4 Z (rb h F Z)
 exact X0 5 Z (rb h F Z)
def qg3(a:(List qE))(b:(List qE)):Nat->Int->Option (Flow Bool Int)|0,_=>U|n+1,i1=>bif decide (i1<(a.length:Int)) then(idx a i1).bind fun d=>(idx b i1).bind fun f=>(qkI n d f).bind fun c=>bif (!c) then V (.ret false) else qg3 a b n (W64 (i1+1)) else V (.nxt i1)
def qlf(n:Nat)(a:(List qE))(b:(List qE)):Option Bool:=bif ((a.length:Int) != (b.length:Int)) then V false else(qg3 a b n 0).bind fun|.ret r=>V r|.nxt _=>V true
theorem qrO{a:(List qE)}{b:(List qE)}(d:Ro w a cs1)(f:Ro w b cs2){r:Bool}(F:qlf n a b=V r):RetV prog 73 [oV (List qE) cs1,oV (List qE) cs2] w r:=by
 obtain⟨D,A,rfl,J⟩:=d;obtain⟨H,B,rfl,s2⟩:=f;refine zV 27 func73 Z fun h=>X0 13 Z (qi Z F ?_ ?_)<;>intro F
 ·exact X0 4 Z (rb h F Z)
 refine X0 6 Z ?_;obtain⟨C,F,c⟩:=qc F;refine qm (rL (fun m e w'=>∃i1,qg3 a b m i1=V C/\e=[(0,oS D a.length A),(1,oS H b.length B),(5,vi i1)]/\SH w w' []) n ⟨_,F,rfl,h⟩ Z ?_);rintro z _ _ ⟨i1,F,rfl,h⟩;rcases z with _|z
 ·cases F
 refine X0 8 Z (qi Z F ?_ ?_)<;>intro F
 ·refine X0 4 Z (rD (zd2 Z ?_));obtain⟨R,_,F,k,_,_,_,_,o,s,u,g⟩:=J.ix F;obtain⟨_,_,_,_,_,_,_,_,rfl,K,L,M,N⟩:=qaR u;refine zdxe o s k Z (zdc 0 (g.below h.below) Z (zd2 Z ?_));obtain⟨S,_,F,l,_,_,_,_,p,t,v,i⟩:=s2.ix F;obtain⟨_,_,_,_,_,_,_,_,rfl,O,P,Q,y⟩:=qaR v;refine zdxe p t l Z (zdc 0 (i.below h.below) Z ?_);obtain⟨I,x,F⟩:=qc F;refine qa5 I (vsB _) (cB 118 Z) (fun _ T=>qsU (qlz R ((h.ext T).oldS K) ((h.ext T).oldS L) ((h.ext T).oldS M) ((h.ext T).oldS N)) (qlz S ((h.ext T).oldS O) ((h.ext T).oldS P) ((h.ext T).oldS Q) ((h.ext T).oldS y)) x) Z Z Z Z (zd1 Z (dN h fun _ h=>qi Z F ?_ ?_))<;>intro F
  ·refine X0 4 Z ?_;obtain rfl:=qb F;replace F:=c;exact rb h F Z
  exact X0 7 Z (rK ⟨_,F,rfl,h⟩ Z)
 refine qt Z ?_;obtain rfl:=qb F;replace F:=c;exact X0 4 Z (rb h F Z)
def qk8(n:Nat)(a:qh)(b:qh):Option Bool:=(qjq n (⟨a.Au.Ay⟩:qp) (⟨b.Au.Ay⟩:qp)).bind fun c=>bif (!c) then V false else(qkq n (⟨a.Aa.Ab,a.Aa.As,a.Aa.Ak⟩:qd) (⟨b.Aa.Ab,b.Aa.As,b.Aa.Ak⟩:qd)).bind fun d=>bif (!d) then V false else(qlf n a.Ai b.Ai).bind fun f=>bif (!f) then V false else V true
theorem qrI{a:qh}{b:qh}(c:Ro w a cs1)(d:Ro w b cs2){r:Bool}(F:qk8 n a b=V r):RetV prog 34 [oV qh cs1,oV qh cs2] w r:=by
 obtain⟨_,_,_,_,_,_,_,_,_,_,rfl,g,s2,i,k,l⟩:=qaf c;obtain⟨_,_,_,_,_,_,_,_,_,_,rfl,m,o,p,s,f⟩:=qaf d;refine zV 23 func34 Z fun h=>zSR (qw h Z Z fun _ _ h=>qw h Z Z fun _ _ h=>X2 9 1 0 h Z (zcB h F (qp1 (qeC _ (h.oldS g)) (qeC _ (h.oldS m))) Z fun _ _ h F=>X0 2 Z (qi Z F ?_ ?_)))<;>intro F
 ·exact X0 4 Z (rb h F Z)
 refine X2 8 1 0 h Z (zcB h F (qrb (qaC _ (h.oldS s2) (h.oldS i) (h.oldS k)) (qaC _ (h.oldS o) (h.oldS p) (h.oldS s))) Z fun _ _ h F=>X0 2 Z (qi Z F ?_ ?_))<;>intro F
 ·exact X0 4 Z (rb h F Z)
 refine X2 8 1 0 h Z (zcB h F (qrO ⟨_,_,rfl,(h.oldS l)⟩ ⟨_,_,rfl,(h.oldS f)⟩) Z fun _ _ h F=>X0 2 Z (qi Z F ?_ ?_))<;>intro F
 ·exact X0 4 Z (rb h F Z)
 exact X0 5 Z (rb h F Z)
def qc2(i1:Int)(b:ql):Nat->(List Tl05Place)->Int->Option ((List Tl05Place)×Int)|0,_,_=>U|n+1,c,a=>bif decide (a<(b.As.length:Int)) then(idx b.As a).bind fun d=>(appS c ([(⟨i1,a,d,(a==(W64 ((b.As.length:Int)-1)))⟩:Tl05Place)]:List Tl05Place)).bind fun x3=>qc2 i1 b n x3 (W64 (a+1)) else V (c,a)
def qcZ(a:qd):Nat->(List Tl05Place)->Int->Option ((List Tl05Place)×Int)|0,_,_=>U|n+1,c,b=>bif decide (b<(a.Ak.length:Int)) then(idx a.Ak b).bind fun f=>(idx a.Ak b).bind fun g=>(appS c ([(⟨(-1),b,f.Ca,(g.Bx==1)⟩:Tl05Place)]:List Tl05Place)).bind fun d=>qcZ a n d (W64 (b+1)) else V (c,b)
def qc0(a:qd):Nat->(List Tl05Place)->Int->Option ((List Tl05Place)×Int)|0,_,_=>U|n+1,x1,i1=>bif decide (i1<(a.Ab.length:Int)) then(idx a.Ab i1).bind fun c=>(qc2 i1 c n x1 0).bind fun(b,_)=>qc0 a n b (W64 (i1+1)) else V (x1,i1)
def qcA(n:Nat)(a:qd):Option (List Tl05Place):=(qc0 a n ([]:List Tl05Place) 0).bind fun(x1,_)=>(qcZ a n x1 0).bind fun(b,_)=>V b
theorem qcu{a:qd}(v:Ro w a cs1){r:(List Tl05Place)}(F:qcA n a=V r):RetV prog 127 [oV qd cs1] w r:=by
 obtain⟨p1,T,p2,W,p3,k3,rfl,s1,_,s3⟩:=qaE v;refine zV 69 func127 Z fun h=>zSR (qw h Z Z fun _ b h=>X0 4 Z (qG qa [] _ ([]:List Tl05Place) h Z Z Z Z Z Z Z Z Z trivial Z fun _ _ _ h=>X0 7 Z ?_));obtain⟨o1,F,s⟩:=qc F;refine qm (rL (fun m e w'=>∃S2 p5 g X x1 i1,qc0 a m x1 i1=V o1/\e=[(1,vp b),(3,oS p5 g X),(4,vi i1)]/\SH w w' [oW S2 (x1:List Tl05Place) [oS p5 g X],oX b (qaW a p1 p2 p3 T W k3) 50]) n ⟨_,_,_,_,_,_,F,rfl,h⟩ Z ?_);rintro m1 _ _ ⟨S2,p5,g,X,x1,i1,F,rfl,h⟩;obtain rfl:=(h.sl 0 Z).2;rcases m1 with _|m1
 ·cases F
 refine X1 9 1 h Z (qi Z F ?_ ?_)<;>intro F
 ·refine X1 8 1 h Z ?_;obtain⟨p,_,F,B,_,_,_,_,I,M,Q,x⟩:=s1.ix F;obtain⟨p6,k5,rfl,s4⟩:=qV Q;refine zxe I M B Z (zp1 Z (zc 2 (x.below h.below) Z (X0 6 Z ?_)));obtain⟨o2,F,t⟩:=qc F;refine qm (rL (fun m e w'=>∃S3 p7 i Y x2 f,qc2 i1 p m x2 f=V o2/\e=[(1,vp b),(3,oS p7 i Y),(4,vi i1),(5,oS p6 p.As.length k5),(6,vi f)]/\SH w w' [oW S3 (x2:List Tl05Place) [oS p7 i Y],oX b (qaW a p1 p2 p3 T W k3) 50]) m1 ⟨_,_,_,_,_,_,F,rfl,h⟩ Z ?_);rintro m2 _ _ ⟨S3,p7,i,Y,x2,f,F,rfl,h⟩;obtain rfl:=(h.sl 0 Z).2;rcases m2 with _|m2
  ·cases F
  refine X0 8 Z (qi Z F ?_ ?_)<;>intro F
  ·refine X0 9 Z ?_;obtain⟨y2,_,F,C,_,_,_,_,J,N,rfl,y⟩:=s4.ix F;refine zxe J N C Z (zc 0 (y.below h.below) Z (zp5 Z (r_v (qH qa [0,1,2,3] [.tmp 29,.tmp 30,.tmp 34,.tmp 39] Z Z Z Z Z Z Z Z) Z (qG qa [.tmp 40] _ ([(⟨i1,f,y2,(f==(W64 ((p.As.length:Int)-1)))⟩:Tl05Place)]:List Tl05Place) h Z Z Z Z Z Z Z Z Z ⟨(qf1 (⟨i1,f,y2,(f==(W64 ((p.As.length:Int)-1)))⟩:Tl05Place)),G⟩ Z fun _ _ _ h=>?_))));obtain⟨_,c,F⟩:=qc F;obtain⟨g1,c⟩:=qO c;refine qbW qa 1 h Z (h.sl 0 Z).1 (h.sl 0 Z).2 Z Z Z Z Z Z Z Z Z g1 c Z fun _ _ _ _ h=>X0 8 Z ?_;replace h:=h.p [1,2] Z;exact rK ⟨_,_,_,_,_,_,F,rfl,h⟩ Z
  refine qt Z ?_;obtain rfl:=qb F;replace F:=t;exact X0 6 Z (rK ⟨_,_,_,_,_,_,F,rfl,h⟩ Z)
 refine qt Z ?_;obtain rfl:=qb F;replace F:=s;refine X0 5 Z ?_;obtain⟨o3,F,u⟩:=qc F;refine qm (rL (fun m e w'=>∃S6 l k k8 x4 o,qcZ a m x4 o=V o3/\e=[(1,vp b),(3,oS l k k8),(7,vi o)]/\SH w w' [oW S6 (x4:List Tl05Place) [oS l k k8],oX b (qaW a p1 p2 p3 T W k3) 50]) n ⟨_,_,_,_,_,_,F,rfl,h⟩ Z ?_);rintro m3 _ _ ⟨S6,l,k,k8,x4,o,F,rfl,h⟩;obtain rfl:=(h.sl 0 Z).2;rcases m3 with _|m3
 ·cases F
 refine X1 9 1 h Z (qi Z F ?_ ?_)<;>intro F
 ·refine zKSB (rA [] [1] h Z fun _ h=>M1 31 [0,1,2,3,4] 0 (h.p [1] Z) Z ?_);obtain⟨y3,_,F,D,_,_,_,_,K,O,R,z⟩:=s3.ix F;obtain rfl:=qaZ R;refine Ae 5 63 K O D (h.p [1] Z) Z (M0 127 [6] (h.p [1] Z) Z (Al 7 255 2 z (h.p [1] Z) Z (M1 2047 [8,9,10] 0 (h.p [1] Z) Z ?_)));obtain⟨y4,_,F,H,_,_,_,_,L,P,S,A⟩:=s3.ix F;obtain rfl:=qaZ S;refine Ae 11 4095 L P H (h.p [1] Z) Z (M0 8191 [12] (h.p [1] Z) Z (Al 13 16383 1 A (h.p [1] Z) Z (M0 32767 [14] (h.p [1] Z) Z (Aw 15 65535 (fun w' hw=>qH qa [0,1,2,3] [.const (vi (-1)),.tmp 51,.tmp 57,.tmp 64] Z Z Z Z Z Z Z Z) (h.p [1] Z) Z ?_))));refine Ao 16 131071 Z (qG qa [.tmp 65] _ ([(⟨(-1),o,y3.Ca,(y4.Bx==1)⟩:Tl05Place)]:List Tl05Place) h Z Z Z Z Z Z Z Z Z ⟨(qf1 (⟨(-1),o,y3.Ca,(y4.Bx==1)⟩:Tl05Place)),G⟩ Z fun _ _ _ h=>Ag (h.p [2] Z) (Ao 17 262143 Z ?_));obtain⟨_,d,F⟩:=qc F;obtain⟨g2,d⟩:=qO d;refine qbW qa 1 h Z (h.sl 0 Z).1 (h.sl 0 Z).2 Z Z Z Z Z Z Z Z Z g2 d Z fun _ _ _ _ h=>G0 524287 [18] (h.p [2] Z) Z (Ad (X0 6 Z ?_));replace h:=h.p [1,2] Z;exact rK ⟨_,_,_,_,_,_,F,rfl,h⟩ Z
 refine qt Z ?_;obtain rfl:=qb F;replace F:=u;refine X0 5 Z ?_;obtain rfl:=qb F;exact rO 0 h Z ⟨rfl,G⟩
def qcS(net:Int)(a:(List Tl05Place)):Nat->(List Int)->Int->Option ((List Int)×Int)|0,_,_=>U|n+1,x1,i1=>bif decide (i1<(a.length:Int)) then((idx a i1).bind fun c=>bif (c.net==net) then(idx a i1).bind fun d=>V (!d.drives) else V false).bind fun b1=>bif b1 then(appS x1 ([i1]:List Int)).bind fun b=>qcS net a n b (W64 (i1+1)) else qcS net a n x1 (W64 (i1+1)) else V (x1,i1)
def qhg(n:Nat)(d:qd)(net:Int):Option (List Int):=(qcA n d).bind fun a=>(qcS net a n ([]:List Int) 0).bind fun(x1,_)=>V x1
theorem qjY{d:qd}{net}(i:Ro w d cs1){r:(List Int)}(F:qhg n d net=V r):RetV prog 178 [oV qd cs1,vi net] w r:=by
 obtain⟨_,_,_,_,_,_,rfl,_,_,_⟩:=qaE i;refine zV 37 func178 Z fun h=>zSR (qw h Z Z fun _ _ h=>X0 4 Z (qG qa [] _ ([]:List Int) h Z Z Z Z Z Z Z Z Z trivial Z fun _ _ _ h=>X1 5 1 h Z (zcL h F (qcu (h.old i)) Z fun c _ S2 u s h F=>X0 7 Z ?_)));obtain⟨L,F,y⟩:=qc F;refine qm ?_;replace h:=h.p [0,1] Z;refine rL (fun m e w'=>∃x p b o x1 i1,qcS net c m x1 i1=V L/\e=[(1,vi net),(5,oS p b o),(6,oS u c.length s),(7,vi i1)]/\SH w w' [oW S2 (c:List Tl05Place) [oS u c.length s],oW x (x1:List Int) [oS p b o]]) n ⟨_,_,_,_,_,_,F,rfl,h⟩ Z ?_;rintro K _ _ ⟨x,p,b,o,x1,i1,F,rfl,h⟩;obtain rfl:=(h.sl 1 Z).2;rcases K with _|K
 ·cases F
 refine X0 8 Z (qi Z F ?_ ?_)<;>intro F
 ·refine X0 4 Z ?_;obtain⟨v,g,_,F,f⟩:=bindE F;refine qa0 (fun e w'=>∃b1,v b1=V L/\e=[(1,vi net),(5,oS p x1.length o),(6,oS u c.length s),(7,vi i1),(31,.bool b1)]/\SH w w' [oW S2 (c:List Tl05Place) [oS u c.length s],oW x (x1:List Int) [oS p x1.length o]]) ?_ ?_
  ·refine X0 3 Z ?_;obtain⟨_,_,F,k,_,_,_,_,B,D,I,z⟩:=(h.sl 0 Z).1.ix F;obtain rfl:=qb5 I;refine zx B D ⟨k.1,qC k.2.1 (h.sl 0 Z).2⟩ Z (zp1 Z (zc 2 z Z (zp3 Z (qn (t:=24) F Z ?_ ?_))))<;>intro F
   ·refine X0 5 Z ?_;obtain⟨_,_,F,l,_,_,_,_,C,H,J,A⟩:=(h.sl 0 Z).1.ix F;obtain rfl:=qb5 J;refine zx C H ⟨l.1,qC l.2.1 (h.sl 0 Z).2⟩ Z (X0 3 Z (zc 3 A Z (X0 4 Z ?_)));obtain rfl:=qb F;exact rG ⟨_,f,rfl,h⟩ Z
   refine X0 8 Z ?_;obtain rfl:=qb F;exact rG ⟨_,f,rfl,h⟩ Z
  rintro _ _ ⟨b1,F,rfl,h⟩;subst g;refine qi Z F ?_ ?_<;>intro F
  ·refine X0 3 Z (qG qa [.tmp 33] _ ([i1]:List Int) h Z Z Z Z Z Z Z Z Z ⟨rfl,G⟩ Z fun _ _ _ h=>?_);obtain⟨_,a,F⟩:=qc F;obtain⟨M,a⟩:=qO a;refine qbW qa 2 h Z (h.sl 0 Z).1 (h.sl 0 Z).2 Z Z Z Z Z Z Z Z Z M a Z fun _ _ _ _ h=>X0 8 Z ?_;replace h:=h.p [1,2] Z;exact rK ⟨_,_,_,_,_,_,F,rfl,h⟩ Z
  exact X0 7 Z (rK ⟨_,_,_,_,_,_,F,rfl,h⟩ Z)
 refine qt Z ?_;obtain rfl:=qb F;replace F:=y;refine X0 5 Z ?_;obtain rfl:=qb F;exact rO 1 h Z ⟨rfl,G⟩
def qav(_:Nat)(a:Int)(c:Int)(b:Int):Option Bool:=bif decide (a>=c) then V (decide (a<=b)) else V false
theorem qah{a_n low high}  {r:Bool}(F:qav n a_n low high=V r):RetV prog 43 [vi a_n,vi low,vi high] w r:=by
 refine zV 15 func43 Z fun h=>X0 10 Z (qn (t:=10) F Z ?_ ?_)<;>intro F
 ·exact X0 9 Z (rb h F Z)
 exact X0 6 Z (rb h F Z)
def qek(s:ByteArray):Nat->Int->Option (Flow Bool Int)|0,_=>U|n+1,i1=>bif decide (i1<(s.size:Int)) then((atS s i1).bind fun c=>bif decide (c>=97) then(atS s i1).bind fun d=>V (decide (d<=122)) else V false).bind fun b1=>((atS s i1).bind fun a=>bif decide (a>=48) then(atS s i1).bind fun b=>V (decide (b<=57)) else V false).bind fun b2=>bif (!b1) then bif b2 then bif (!(decide (i1 > 0))) then V (.ret false) else qek s n (W64 (i1+1)) else V (.ret false) else qek s n (W64 (i1+1)) else V (.nxt i1)
def qgP(n:Nat)(s:ByteArray):Option Bool:=(qek s n 0).bind fun|.ret r=>V r|.nxt _=>bif decide ((s.size:Int)>=1) then V (decide ((s.size:Int)<=8)) else V false
theorem qiS{s}  {r:Bool}(F:qgP n s=V r):RetV prog 272 [.string s] w r:=by
 refine zV 50 func272 Z fun h=>X0 9 Z ?_;obtain⟨u,F,a⟩:=qc F;refine qm (rL (fun m e w'=>∃i1,qek s m i1=V u/\e=[(0,.string s),(3,vi i1)]/\SH w w' []) n ⟨_,F,rfl,h⟩ Z ?_);rintro v _ _ ⟨i1,F,rfl,h⟩;rcases v with _|v
 ·cases F
 refine X0 8 Z (qi Z F ?_ ?_)<;>intro F
 ·refine X0 4 Z ?_;obtain⟨i,f,_,F,c⟩:=bindE F;refine qa0 (fun e w'=>∃b1,i b1=V u/\e=[(0,.string s),(3,vi i1),(4,.bool b1)]/\SH w w' []) ?_ ?_
  ·refine X0 3 Z ?_;obtain⟨_,o,F⟩:=qc F;have z:=qoB o;refine r_v (qow qa z Z Z Z Z) Z (zp2 Z (qn (t:=16) F Z ?_ ?_))<;>intro F
   ·refine X0 5 Z ?_;obtain⟨_,p,F⟩:=qc F;have A:=qoB p;refine r_v (qow qa A Z Z Z Z) Z (X0 5 Z ?_);obtain rfl:=qb F;exact rG ⟨_,c,rfl,h⟩ Z
   refine X0 7 Z ?_;obtain rfl:=qb F;exact rG ⟨_,c,rfl,h⟩ Z
  rintro _ _ ⟨b1,F,rfl,h⟩;subst f;refine qZ ?_;obtain⟨g,d,_,F,b⟩:=bindE F;refine qa0 (fun e w'=>∃b2,g b2=V u/\e=[(0,.string s),(3,vi i1),(4,.bool b1),(5,.bool b2)]/\SH w w' []) ?_ ?_
  ·refine X0 3 Z ?_;obtain⟨_,k,F⟩:=qc F;have x:=qoB k;refine r_v (qow qa x Z Z Z Z) Z (zp2 Z (qn (t:=26) F Z ?_ ?_))<;>intro F
   ·refine X0 5 Z ?_;obtain⟨_,l,F⟩:=qc F;have y:=qoB l;refine r_v (qow qa y Z Z Z Z) Z (X0 5 Z ?_);obtain rfl:=qb F;exact rG ⟨_,b,rfl,h⟩ Z
   refine X0 7 Z ?_;obtain rfl:=qb F;exact rG ⟨_,b,rfl,h⟩ Z
  rintro _ _ ⟨b2,F,rfl,h⟩;subst d;refine X0 5 Z (qn (t:=34) F Z ?_ ?_)<;>intro F
  ·refine X0 4 Z (qn (t:=36) F Z ?_ ?_)<;>intro F
   ·refine X0 10 Z (qi Z F ?_ ?_)<;>intro F
    ·refine X0 4 Z ?_;obtain rfl:=qb F;replace F:=a;exact rb h F Z
    exact X0 7 Z (rK ⟨_,F,rfl,h⟩ Z)
   refine X0 8 Z (qcs Z Z (X0 4 Z ?_));obtain rfl:=qb F;replace F:=a;exact rb h F Z
  exact X0 8 Z (qcg Z Z (X0 7 Z (rK ⟨_,F,rfl,h⟩ Z)))
 refine qt Z ?_;obtain rfl:=qb F;replace F:=a;refine X0 6 Z (qn (t:=45) F Z ?_ ?_)<;>intro F
 ·exact X0 9 Z (rb h F Z)
 exact X0 6 Z (rb h F Z)
def qfl(a:qz)(c:Int)(d:qal):Nat->Int->Option (Flow (Int×Bool) Int)|0,_=>U|n+1,b=>bif decide (b<c) then(idx a.Bh b).bind fun f=>bif (f.Bd.toList==d.Bd.toList) then V (.ret (0,false)) else qfl a c d n (W64 (b+1)) else V (.nxt b)
def qdp(a:qz):Nat->Int->Int->Option (Flow (Int×Bool) (Int×Int))|0,_,_=>U|n+1,i1,b=>bif decide (b<(a.Bh.length:Int)) then(idx a.Bh b).bind fun c=>(qfl a b c n 0).bind fun|.ret r=>V (.ret r)|.nxt _=>((qgP n c.Bd).bind fun g=>bif (!g) then V true else(qav n c.Bu 0 500).bind fun h=>V (!h)).bind fun d=>bif d then V (.ret (0,false)) else(bif (b==(W64 ((a.Bh.length:Int)-1))) then bif (c.Bx != 2) then V true else bif (c.Bu != 0) then V true else bif c.Bt then V true else bif decide (b<(W64 ((a.Bh.length:Int)-1))) then V (c.Bx != 1) else V false else bif decide (b<(W64 ((a.Bh.length:Int)-1))) then V (c.Bx != 1) else V false).bind fun f=>bif f then V (.ret (0,false)) else bif c.Bt then qdp a n (W64 (i1+1)) (W64 (b+1)) else qdp a n i1 (W64 (b+1)) else V (.nxt (i1,b))
def qlq(n:Nat)(a:qz):Option (Int×Bool):=(bif decide ((a.Bh.length:Int)<2) then V true else V (decide ((a.Bh.length:Int) > 5))).bind fun b1=>bif b1 then V (0,false) else(qdp a n 0 0).bind fun|.ret r=>V r|.nxt (i1,_)=>V (i1,true)
theorem qrQ{a:qz}(J:Ro w a cs1){r:(Int×Bool)}(F:qlq n a=V r):RetV prog 323 [oV qz cs1] w r:=by
 obtain⟨x,u,y,v,z,k3,rfl,s1,_,_⟩:=qag J;refine zV 86 func323 Z fun h=>zSR (qw h Z Z fun _ b h=>X1 12 0 h Z ?_);obtain⟨D,s,_,F,l⟩:=bindE F;refine qa0 (fun e w'=>∃b1,D b1=V r/\e=[(1,vp b),(4,vi (a.Bh.length:Int)),(17,.bool b1)]/\SH w w' [oX b (qew a x y z u v k3) 251]) ?_ ?_
 ·refine X0 4 Z (qn (t:=14) F Z ?_ ?_)<;>intro F
  ·refine X0 4 Z ?_;obtain rfl:=qb F;exact rG ⟨_,l,rfl,h⟩ Z
  refine X0 6 Z ?_;obtain rfl:=qb F;exact rG ⟨_,l,rfl,h⟩ Z
 rintro _ _ ⟨b1,F,rfl,h⟩;subst s;refine qi Z F ?_ ?_<;>intro F
 ·refine X0 5 Z ?_;obtain rfl:=qb F;exact qac qa (ρ:=(Int×Bool)) [oV Int [vi 0],oV Bool [.bool false]] h ⟨rfl,rfl,G⟩ (PV.done h (qao h (qv (S:=fun _=>False) Z) (qae (qv (S:=fun _=>False) Z)) (by rfl)))
 refine X0 10 Z ?_;obtain⟨o1,F,f⟩:=qc F;refine qm (rL (fun m e w'=>∃i1 g,qdp a m i1 g=V o1/\e=[(1,vp b),(4,vi (a.Bh.length:Int)),(5,vi i1),(6,vi g)]/\SH w w' [oX b (qew a x y z u v k3) 251]) n ⟨_,_,F,rfl,h⟩ Z ?_);rintro Y _ _ ⟨i1,g,F,rfl,h⟩;rcases Y with _|Y
 ·cases F
 refine X0 7 Z (qi Z F ?_ ?_)<;>intro F
 ·refine X1 8 0 h Z ?_;obtain⟨A,_,F,M,_,_,_,_,O,Q,T,K⟩:=s1.ix F;obtain rfl:=qa2 T;refine zxe O Q M Z (zc 0 (K.below h.below) Z (qq qa h Z Z Z fun _ d h=>zs 0 h Z fun _ h=>X0 6 Z ?_));obtain⟨o2,F,i⟩:=qc F;refine qm (rL (fun m e w'=>∃X,qfl a g A m X=V o2/\e=[(1,vp b),(4,vi (a.Bh.length:Int)),(5,vi i1),(6,vi g),(7,vp d),(8,vi X)]/\SH w w' [oX d (qqK A) 328,oX b (qew a x y z u v k3) 251]) Y ⟨_,F,rfl,h⟩ Z ?_);rintro m2 _ _ ⟨X,F,rfl,h⟩;rcases m2 with _|m2
  ·cases F
  refine X0 7 Z (qi Z F ?_ ?_)<;>intro F
  ·refine X0 4 Z (rD (Y1 2 1 h Z ?_));refine zd1 Z ?_;obtain⟨_,_,F,N,_,_,_,_,P,R,W,L⟩:=s1.ix F;obtain rfl:=qa2 W;refine zdxe P R N Z (zd1 Z (zdc 0 (L.below h.below) Z (Y1 2 0 h Z ?_)));refine zd1 Z (dN h fun _ h=>qi Z F ?_ ?_)<;>intro F
   ·refine X0 5 Z ?_;obtain rfl:=qb F;replace F:=i;obtain rfl:=qb F;replace F:=f;obtain rfl:=qb F;exact qac qa (ρ:=(Int×Bool)) [oV Int [vi 0],oV Bool [.bool false]] h ⟨rfl,rfl,G⟩ (PV.done h (qao h (qv (S:=fun _=>False) Z) (qae (qv (S:=fun _=>False) Z)) (by rfl)))
   exact X0 7 Z (rK ⟨_,F,rfl,h⟩ Z)
  refine qt Z ?_;obtain rfl:=qb F;replace F:=i;refine zSS ?_;obtain⟨C,p,_,F,k⟩:=bindE F;refine qa0 (fun e w'=>∃H,C H=V o1/\e=[(1,vp b),(4,vi (a.Bh.length:Int)),(5,vi i1),(6,vi g),(7,vp d),(51,.bool H)]/\SH w w' [oX d (qqK A) 328,oX b (qew a x y z u v k3) 251]) ?_ ?_
  ·refine X1 3 0 h Z (zcB h F qiS Z fun _ _ h F=>zp2 Z (qn (t:=46) F Z ?_ ?_))<;>intro F
   ·refine X0 6 Z ?_;obtain rfl:=qb F;exact rG ⟨_,k,rfl,h⟩ Z
   refine X1 5 0 h Z (zcB h F qah Z fun _ _ h F=>X0 4 Z ?_);obtain rfl:=qb F;exact rG ⟨_,k,rfl,h⟩ Z
  rintro _ _ ⟨H,F,rfl,h⟩;subst p;refine qi Z F ?_ ?_<;>intro F
  ·refine X0 5 Z ?_;obtain rfl:=qb F;replace F:=f;obtain rfl:=qb F;exact qac qa (ρ:=(Int×Bool)) [oV Int [vi 0],oV Bool [.bool false]] h ⟨rfl,rfl,G⟩ (PV.done h (qao h (qv (S:=fun _=>False) Z) (qae (qv (S:=fun _=>False) Z)) (by rfl)))
  refine zKSS ?_;obtain⟨B,o,_,F,c⟩:=bindE F;refine qa0 (fun e w'=>∃I,B I=V o1/\e=[(1,vp b),(4,vi (a.Bh.length:Int)),(5,vi i1),(6,vi g),(7,vp d),(80,.bool I)]/\SH w w' [oX d (qqK A) 328,oX b (qew a x y z u v k3) 251]) ?_ ?_
  ·refine X0 6 Z (qn (t:=56) F Z ?_ ?_)<;>intro F
   ·refine X1 8 0 h Z (qn (t:=60) F Z ?_ ?_)<;>intro F
    ·refine X0 24 Z ?_;obtain rfl:=qb F;exact rG ⟨_,c,rfl,h⟩ Z
    refine X1 10 0 h Z (qn (t:=65) F Z ?_ ?_)<;>intro F
    ·refine X0 17 Z ?_;obtain rfl:=qb F;exact rG ⟨_,c,rfl,h⟩ Z
    refine X1 8 0 h Z (qn (t:=70) F Z ?_ ?_)<;>intro F
    ·refine X0 11 Z ?_;obtain rfl:=qb F;exact rG ⟨_,c,rfl,h⟩ Z
    refine X0 10 Z (qn (t:=75) F Z ?_ ?_)<;>intro F
    ·refine X1 10 0 h Z ?_;obtain rfl:=qb F;exact rG ⟨_,c,rfl,h⟩ Z
    refine X0 7 Z ?_;obtain rfl:=qb F;exact rG ⟨_,c,rfl,h⟩ Z
   refine X0 24 Z (qn (t:=75) F Z ?_ ?_)<;>intro F
   ·refine X1 10 0 h Z ?_;obtain rfl:=qb F;exact rG ⟨_,c,rfl,h⟩ Z
   refine X0 7 Z ?_;obtain rfl:=qb F;exact rG ⟨_,c,rfl,h⟩ Z
  rintro _ _ ⟨I,F,rfl,h⟩;subst o;refine qi Z F ?_ ?_<;>intro F
  ·refine X0 5 Z ?_;obtain rfl:=qb F;replace F:=f;obtain rfl:=qb F;exact qac qa (ρ:=(Int×Bool)) [oV Int [vi 0],oV Bool [.bool false]] h ⟨rfl,rfl,G⟩ (PV.done h (qao h (qv (S:=fun _=>False) Z) (qae (qv (S:=fun _=>False) Z)) (by rfl)))
  refine X1 6 0 h Z (qi Z F ?_ ?_)<;>intro F
  ·refine X0 11 Z ?_;replace h:=h.p [1] Z;exact rK ⟨_,_,F,rfl,h⟩ Z
  refine X0 7 Z ?_;replace h:=h.p [1] Z;exact rK ⟨_,_,F,rfl,h⟩ Z
 refine qt Z ?_;obtain rfl:=qb F;replace F:=f;refine X0 6 Z ?_;obtain rfl:=qb F;exact qac qa (ρ:=(Int×Bool)) [oV Int [vi i1],oV Bool [.bool true]] h ⟨rfl,rfl,G⟩ (PV.done h (qao h (qv (S:=fun _=>False) Z) (qae (qv (S:=fun _=>False) Z)) (by rfl)))
def qel(list:(List Int)):Nat->Int->Option (Flow Bool Int)|0,_=>U|n+1,i1=>bif decide (i1<(list.length:Int)) then(idx list i1).bind fun b=>(qav n b 0 100000).bind fun a=>bif (!a) then V (.ret false) else bif decide (i1 > 0) then(idx list (W64 (i1-1))).bind fun c=>(idx list i1).bind fun d=>bif decide (c>=d) then V (.ret false) else qel list n (W64 (i1+1)) else qel list n (W64 (i1+1)) else V (.nxt i1)
def qjD(n:Nat)(list:(List Int)):Option Bool:=(qel list n 0).bind fun|.ret r=>V r|.nxt _=>bif decide ((list.length:Int)>=1) then V (decide ((list.length:Int)<=4)) else V false
theorem qn3{list:(List Int)}(b:Ro w list cs1){r:Bool}(F:qjD n list=V r):RetV prog 346 [oV (List Int) cs1] w r:=by
 obtain⟨C,A,rfl,y⟩:=b;refine zV 40 func346 Z fun h=>X0 9 Z ?_;obtain⟨B,F,a⟩:=qc F;refine qm (rL (fun m e w'=>∃i1,qel list m i1=V B/\e=[(0,oS C list.length A),(3,vi i1)]/\SH w w' []) n ⟨_,F,rfl,h⟩ Z ?_);rintro z _ _ ⟨i1,F,rfl,h⟩;rcases z with _|z
 ·cases F
 refine X0 8 Z (qi Z F ?_ ?_)<;>intro F
 ·refine X0 4 Z (rD (zd2 Z ?_));obtain⟨_,_,F,g,_,_,_,_,l,s,rfl,c⟩:=y.ix F;refine zdxe l s g Z (zdc 0 (c.below h.below) Z ?_);obtain⟨D,x,F⟩:=qc F;refine qa5 D (vsB _) (cB 43 Z) (fun _ H=>qah  x) Z Z Z Z (zd2 Z (qaX (t:=16) F Z ?_ ?_))<;>intro F
  ·refine Y0 15 Z (dN h fun _ h=>qcs Z Z (X0 4 Z ?_));obtain rfl:=qb F;replace F:=a;exact rb h F Z
  refine Y0 6 Z (qaX (t:=19) F Z ?_ ?_)<;>intro F
  ·refine Y0 7 Z ?_;obtain⟨_,_,F,i,_,_,_,_,o,u,rfl,d⟩:=y.ix F;refine zdxe o u i Z (Y0 1 Z (zdc 0 (d.below h.below) Z (Y0 5 Z ?_)));obtain⟨_,_,F,k,_,_,_,_,p,v,rfl,f⟩:=y.ix F;refine zdxe p v k Z (Y0 1 Z (zdc 0 (f.below h.below) Z (Y0 5 Z (dN h fun _ h=>qi Z F ?_ ?_))))<;>intro F
   ·refine X0 4 Z ?_;obtain rfl:=qb F;replace F:=a;exact rb h F Z
   exact X0 7 Z (rK ⟨_,F,rfl,h⟩ Z)
  exact Y0 13 Z (dN h fun _ h=>qcg Z Z (X0 7 Z (rK ⟨_,F,rfl,h⟩ Z)))
 refine qt Z ?_;obtain rfl:=qb F;replace F:=a;refine X0 6 Z (qn (t:=35) F Z ?_ ?_)<;>intro F
 ·exact X0 9 Z (rb h F Z)
 exact X0 6 Z (rb h F Z)
def qft(t:qy):Nat->Int->Option (Flow Bool Int)|0,_=>U|n+1,i1=>bif decide (i1<(t.Bj.length:Int)) then(idx t.Bj i1).bind fun b=>(qav n b (-1000000) 1000000).bind fun a=>bif (!a) then V (.ret false) else qft t n (W64 (i1+1)) else V (.nxt i1)
def qlw(n:Nat)(t:qy):Option Bool:=((qjD n t.Bo).bind fun a=>bif (!a) then V true else(qjD n t.Bk).bind fun b=>bif (!b) then V true else V ((t.Bj.length:Int) != (W64 ((t.Bo.length:Int)*(t.Bk.length:Int))))).bind fun b1=>bif b1 then V false else(qft t n 0).bind fun|.ret r=>V r|.nxt _=>V true
theorem qr2{t:qy}(g:Ro w t cs1){r:Bool}(F:qlw n t=V r):RetV prog 345 [oV qy cs1] w r:=by
 obtain⟨v,p,x,s,y,k3,rfl,A,s2,B⟩:=qaK g;refine zV 41 func345 Z fun h=>zSR (qw h Z Z fun _ a h=>X0 4 Z ?_);obtain⟨f,d,_,F,b⟩:=bindE F;refine qa0 (fun e w'=>∃b1,f b1=V r/\e=[(1,vp a),(26,.bool b1)]/\SH w w' [oX a (qhV t v x y p s k3) 243]) ?_ ?_
 ·refine X1 3 0 h Z (zcB h F (qn3 ⟨_,_,rfl,(h.oldS A)⟩) Z fun _ _ h F=>zp2 Z (qn (t:=8) F Z ?_ ?_))<;>intro F
  ·refine X0 19 Z ?_;obtain rfl:=qb F;exact rG ⟨_,b,rfl,h⟩ Z
  refine X1 5 0 h Z (zcB h F (qn3 ⟨_,_,rfl,(h.oldS s2)⟩) Z fun _ _ h F=>X0 4 Z (qn (t:=14) F Z ?_ ?_))<;>intro F
  ·refine X0 13 Z ?_;obtain rfl:=qb F;exact rG ⟨_,b,rfl,h⟩ Z
  refine X3 24 0 0 0 h Z ?_;obtain rfl:=qb F;exact rG ⟨_,b,rfl,h⟩ Z
 rintro _ _ ⟨b1,F,rfl,h⟩;subst d;refine qi Z F ?_ ?_<;>intro F
 ·exact X0 4 Z (rb h F Z)
 refine X0 6 Z ?_;obtain⟨z,F,c⟩:=qc F;refine qm (rL (fun m e w'=>∃i1,qft t m i1=V z/\e=[(1,vp a),(3,vi i1)]/\SH w w' [oX a (qhV t v x y p s k3) 243]) n ⟨_,F,rfl,h⟩ Z ?_);rintro u _ _ ⟨i1,F,rfl,h⟩;rcases u with _|u
 ·cases F
 refine X1 9 0 h Z (qi Z F ?_ ?_)<;>intro F
 ·refine X1 8 0 h Z ?_;obtain⟨_,_,F,k,_,_,_,_,l,o,rfl,i⟩:=B.ix F;refine zxe l o k Z (zc 0 (i.below h.below) Z (zcB h F qah Z fun _ _ h F=>X0 2 Z (qi Z F ?_ ?_)))<;>intro F
  ·refine X0 4 Z ?_;obtain rfl:=qb F;replace F:=c;exact rb h F Z
  exact X0 7 Z (rK ⟨_,F,rfl,h⟩ Z)
 refine qt Z ?_;obtain rfl:=qb F;replace F:=c;exact X0 4 Z (rb h F Z)
def qdg(t:qy):Nat->Int->Int->Int->Option (Int×Int×Int)|0,_,_,_=>U|n+1,i1,b,a=>bif decide (a<(t.Bj.length:Int)) then(idx t.Bj a).bind fun c=>(idx t.Bj a).bind fun d=>qdg t n (if c<i1 then c else i1) (if d > b then d else b) (W64 (a+1)) else V (i1,b,a)
def qil(n:Nat)(t:qy):Option (qe×Int):=(qlw n t).bind fun b=>bif (!b) then V ((⟨0,0⟩:qe),1) else(idx t.Bj 0).bind fun c=>(idx t.Bj 0).bind fun d=>(qdg t n c d 1).bind fun(i1,a,_)=>V ((⟨i1,a⟩:qe),0)
theorem qpm{t:qy}(d:Ro w t cs1){r:(qe×Int)}(F:qil n t=V r):RetV prog 342 [oV qy cs1] w r:=by
 obtain⟨O,L,P,M,Q,k3,rfl,_,_,g⟩:=qaK d;refine zV 45 func342 Z fun h=>zSR (qw h Z Z fun _ a h=>qq qa h Z Z Z fun _ b h=>X1 6 1 h Z (zcB h F (qr2 (h.old d)) Z fun _ _ h F=>X0 2 Z (qi Z F ?_ ?_)))<;>intro F
 ·refine zSR (r_v (qH qa [] [] Z Z Z Z Z Z Z Z) Z (zs 0 h Z fun _ h=>X0 2 Z ?_));obtain rfl:=qb F;exact qac qa (ρ:=(qe×Int)) [oV qe [vi 0,vi 0],oV Int [vi 1]] h ⟨⟨_,_,_,rfl,rfl,h.box 0 Z,rfl⟩,rfl,G⟩ (PV.done h (qao h (qv (S:=fun _=>False) (qD (⟨0,0⟩:qe))) (qae (qv (S:=fun _=>False) Z)) (by rfl)))
 refine zKS (rA [] [1] h Z fun _ h=>M1 3 [0,1] 0 (h.p [1] Z) Z ?_);obtain⟨_,_,F,s,_,_,_,_,y,C,rfl,k⟩:=g.ix F;refine Ae 2 7 y C s (h.p [1] Z) Z (Al 3 15 0 k (h.p [1] Z) Z (M1 63 [4,5] 0 (h.p [1] Z) Z ?_));obtain⟨_,_,F,u,_,_,_,_,z,D,rfl,l⟩:=g.ix F;refine Ae 6 127 z D u (h.p [1] Z) Z (Al 7 255 0 l (h.p [1] Z) Z (Aw 8 511 (fun w' T=>qH qa [0,1] [.tmp 13,.tmp 17] Z Z Z Z Z Z Z Z) (h.p [1] Z) Z ?_));refine Ao 9 1023 Z (qq qa h Z Z Z fun _ c h=>Ag (h.p [2] Z) (Ao 10 2047 Z (zs 0 h Z fun _ h=>Ag (h.p [2] Z) (Ad (X0 5 Z ?_)))));obtain⟨N,F,i⟩:=qc F;refine qm (rL (fun m e w'=>∃i1 f J,qdg t m i1 f J=V N/\e=[(1,vp a),(2,vp b),(4,vp c),(5,vi J)]/\SH w w' [oX c [vi i1,vi f] 102,oX b [vi 0,vi 0] 102,oX a (qhV t O P Q L M k3) 243]) n ⟨_,_,_,F,rfl,h⟩ Z ?_);rintro K _ _ ⟨i1,f,J,F,rfl,h⟩;rcases K with _|K
 ·cases F
 refine X1 9 2 h Z (qi Z F ?_ ?_)<;>intro F
 ·refine X0 4 Z (rA [9] [0,2] h Z fun _ h=>M2 31 [0,1,2,3,4] 0 1 (h.p [0,2] Z) Z ?_);obtain⟨_,_,F,v,_,_,_,_,A,H,rfl,o⟩:=g.ix F;refine Ae 5 63 A H v (h.p [0,2] Z) Z (Al 6 127 0 o (h.p [0,2] Z) Z (M0 511 [7,8] (h.p [0,2] Z) Z (Ao 9 1023 Z (zs 0 h Z fun _ h=>qa6 (fun R=>absurd (R 9 (by decide)) (by decide)) (Ad (rA [9] [0,2] h Z fun _ h=>M2 31 [0,1,2,3,4] 0 1 (h.p [0,2] Z) Z ?_))))));obtain⟨_,_,F,x,_,_,_,_,B,I,rfl,p⟩:=g.ix F;exact Ae 5 63 B I x (h.p [0,2] Z) Z (Al 6 127 0 p (h.p [0,2] Z) Z (M0 511 [7,8] (h.p [0,2] Z) Z (Ao 9 1023 Z (zs 0 h Z fun _ h=>qa6 (fun R=>absurd (R 9 (by decide)) (by decide)) (Ad (X0 6 Z (rK ⟨_,_,_,F,rfl,h⟩ Z)))))))
 refine qt Z ?_;obtain rfl:=qb F;replace F:=i;refine X1 3 0 h Z (zs 1 h Z fun _ h=>X0 2 Z ?_);obtain rfl:=qb F;exact qac qa (ρ:=(qe×Int)) [oV qe [vi i1,vi f],oV Int [vi 0]] h ⟨⟨_,_,_,rfl,rfl,h.box 1 Z,rfl⟩,rfl,G⟩ (PV.done h (qao h (qv (S:=fun _=>False) (qD (⟨i1,f⟩:qe))) (qae (qv (S:=fun _=>False) Z)) (by rfl)))
def qc8(list:(List qy))(d:Bool):Nat->Int->Option (Flow Bool Int)|0,_=>U|n+1,i1=>bif decide (i1<2) then(idx list i1).bind fun c=>(qil n c).bind fun(a,b)=>bif (b != 0) then V (.ret false) else bif d then bif decide (a.Ba<0) then V (.ret false) else qc8 list d n (W64 (i1+1)) else qc8 list d n (W64 (i1+1)) else V (.nxt i1)
def qd0(n:Nat)(list:(List qy))(a:Bool):Option Bool:=bif ((list.length:Int) != 2) then V false else(qc8 list a n 0).bind fun|.ret r=>V r|.nxt _=>V true
theorem qfH{list:(List qy)}{positive}(c:Ro w list cs1){r:Bool}(F:qd0 n list positive=V r):RetV prog 335 [oV (List qy) cs1,.bool positive] w r:=by
 obtain⟨y,v,rfl,B⟩:=c;refine zV 33 func335 Z fun h=>X0 11 Z (qi Z F ?_ ?_)<;>intro F
 ·exact X0 4 Z (rb h F Z)
 refine X0 6 Z ?_;obtain⟨x,F,a⟩:=qc F;refine qm (rL (fun m e w'=>∃i1,qc8 list positive m i1=V x/\e=[(0,oS y list.length v),(1,.bool positive),(5,vi i1)]/\SH w w' []) n ⟨_,F,rfl,h⟩ Z ?_);rintro u _ _ ⟨i1,F,rfl,h⟩;rcases u with _|u
 ·cases F
 refine X0 6 Z (qi Z F ?_ ?_)<;>intro F
 ·refine X0 7 Z ?_;obtain⟨H,_,F,f,_,_,_,_,g,i,k,d⟩:=B.ix F;obtain⟨_,_,_,_,_,_,rfl,s2,C,D⟩:=qaK k;refine zxe g i f Z (zc 0 (d.below h.below) Z ?_);obtain⟨⟨z,A⟩,l,F⟩:=qc F;refine qaS (z,A) h (cB 342 Z) (qpm (qfV H (h.oldS s2) (h.oldS C) (h.oldS D)) l) Z Z Z Z fun _ _ _ s o=>?_;obtain⟨_,_,_,_,rfl,b,p⟩:=s.cons o;obtain rfl:=qB (b.sh.own 0 Z);obtain⟨rfl,h⟩:=b.lastI p;refine zp3 Z (qq qa h Z Z Z fun _ _ h=>zs 0 h Z fun _ h=>X0 7 Z (qn (t:=25) F Z ?_ ?_))<;>intro F
  ·refine X0 8 Z (qcs Z Z (X0 4 Z ?_));obtain rfl:=qb F;replace F:=a;exact rb h F Z
  refine X0 4 Z (qn (t:=27) F Z ?_ ?_)<;>intro F
  ·refine X1 10 0 h Z (qi Z F ?_ ?_)<;>intro F
   ·refine X0 4 Z ?_;obtain rfl:=qb F;replace F:=a;exact rb h F Z
   refine X0 7 Z ?_;replace h:=h.p [] Z;exact rK ⟨_,F,rfl,h⟩ Z
  refine X0 7 Z (qcg Z Z (X0 7 Z ?_));replace h:=h.p [] Z;exact rK ⟨_,F,rfl,h⟩ Z
 refine qt Z ?_;obtain rfl:=qb F;replace F:=a;exact X0 4 Z (rb h F Z)
def qmk(n:Nat)(b:qz)(a:qJ):Option Bool:=((qav n a.Bm 0 (W64 ((W64 ((b.Bh.length:Int)-1))-1))).bind fun l=>bif (!l) then V true else(qav n a.To 0 (W64 ((b.Bh.length:Int)-1))).bind fun m=>V (!m)).bind fun b1=>bif b1 then V false else(idx b.Bh a.Bm).bind fun c=>bif (a.Bi==1) then bif (!c.Bt) then bif (a.To==(W64 ((b.Bh.length:Int)-1))) then(qav n a.Br 1 3).bind fun f=>bif f then(qd0 n a.Bp true).bind fun g=>bif g then(qd0 n a.Be true).bind fun h=>V h else V false else V false else V false else V false else(bif (a.Bi==2) then V (a.Bi==2) else V (a.Bi==3)).bind fun b3=>bif b3 then bif c.Bt then bif (a.To==(W64 ((b.Bh.length:Int)-1))) then bif (a.Br==0) then(qd0 n a.Bp true).bind fun r4=>bif r4 then(qd0 n a.Be true).bind fun i=>V i else V false else V false else V false else V false else(bif (a.Bi==4) then V (a.Bi==4) else V (a.Bi==5)).bind fun d=>bif d then bif c.Bt then bif decide (a.To<(W64 ((b.Bh.length:Int)-1))) then(idx b.Bh a.To).bind fun o=>bif (!o.Bt) then bif (a.Br==0) then(qd0 n a.Bp false).bind fun k=>bif k then V ((a.Be.length:Int)==0) else V false else V false else V false else V false else V false else V false
theorem qsK{a:qz}{b:qJ}(v:Ro w a cs1)(x:Ro w b cs2){r:Bool}(F:qmk n a b=V r):RetV prog 324 [oV qz cs1,oV qJ cs2] w r:=by
 obtain⟨P,L,Q,M,R,k3,rfl,X,_,_⟩:=qag v;obtain⟨S,N,T,O,rfl,W,Y⟩:=qaj x;refine zV 119 func324 Z fun h=>zSR (qw h Z Z fun _ c h=>qw h Z Z fun _ d h=>X1 12 1 h Z ?_);obtain⟨s,m,_,F,i⟩:=bindE F;refine qa0 (fun e w'=>∃b1,s b1=V r/\e=[(2,vp c),(3,vp d),(5,vi (W64 ((a.Bh.length:Int)-1))),(23,.bool b1)]/\SH w w' [oX d (qhH b S T N O) 238,oX c (qew a P Q R L M k3) 251]) ?_ ?_
 ·refine X1 5 0 h Z (zcB h F qah Z fun _ _ h F=>zp2 Z (qn (t:=17) F Z ?_ ?_))<;>intro F
  ·refine X0 7 Z ?_;obtain rfl:=qb F;exact rG ⟨_,i,rfl,h⟩ Z
  refine X1 7 0 h Z (zcB h F qah Z fun _ _ h F=>X0 4 Z ?_);obtain rfl:=qb F;exact rG ⟨_,i,rfl,h⟩ Z
 rintro _ _ ⟨b1,F,rfl,h⟩;subst m;refine qi Z F ?_ ?_<;>intro F
 ·exact X0 4 Z (rb h F Z)
 refine X2 7 1 0 h Z ?_;obtain⟨y1,_,F,A,_,_,_,_,C,H,J,y⟩:=X.ix F;obtain rfl:=qa2 J;refine zxe C H A Z (zp1 Z (zc 3 (y.below h.below) Z (X1 14 0 h Z (qi Z F ?_ ?_))))<;>intro F
 ·refine X0 5 Z (qn (t:=37) F Z ?_ ?_)<;>intro F
  ·refine X1 10 0 h Z (qn (t:=43) F Z ?_ ?_)<;>intro F
   ·refine X1 5 0 h Z (zcB h F qah Z fun _ _ h F=>zp2 Z (qn (t:=48) F Z ?_ ?_))<;>intro F
    ·refine X1 5 0 h Z (zcB h F (qfH ⟨_,_,rfl,(h.oldS W)⟩) Z fun _ _ h F=>zp2 Z (qn (t:=53) F Z ?_ ?_))<;>intro F
     ·exact X1 5 0 h Z (zcB h F (qfH ⟨_,_,rfl,(h.oldS Y)⟩) Z fun _ _ h F=>X0 3 Z (rb h F Z))
     exact X0 6 Z (rb h F Z)
    exact X0 11 Z (rb h F Z)
   exact X0 16 Z (rb h F Z)
  exact X0 22 Z (rb h F Z)
 refine X0 6 Z ?_;obtain⟨p,l,_,F,g⟩:=bindE F;refine qa0 (fun e w'=>∃b3,p b3=V r/\e=[(2,vp c),(3,vp d),(5,vi (W64 ((a.Bh.length:Int)-1))),(6,.bool y1.Bt),(32,vi b.Bi),(58,.bool b3)]/\SH w w' [oX d (qhH b S T N O) 238,oX c (qew a P Q R L M k3) 251]) ?_ ?_
 ·refine qi Z F ?_ ?_<;>intro F
  ·refine qcI ?_;obtain rfl:=qb F;exact rG ⟨_,g,rfl,h⟩ Z
  refine X0 4 Z ?_;obtain rfl:=qb F;exact rG ⟨_,g,rfl,h⟩ Z
 rintro _ _ ⟨b3,F,rfl,h⟩;subst l;refine qi Z F ?_ ?_<;>intro F
 ·refine X0 4 Z (qn (t:=62) F Z ?_ ?_)<;>intro F
  ·refine X1 10 0 h Z (qn (t:=68) F Z ?_ ?_)<;>intro F
   ·refine X1 8 0 h Z (qn (t:=73) F Z ?_ ?_)<;>intro F
    ·refine X1 5 0 h Z (zcB h F (qfH ⟨_,_,rfl,(h.oldS W)⟩) Z fun _ _ h F=>zp2 Z (qn (t:=78) F Z ?_ ?_))<;>intro F
     ·exact X1 5 0 h Z (zcB h F (qfH ⟨_,_,rfl,(h.oldS Y)⟩) Z fun _ _ h F=>X0 3 Z (rb h F Z))
     exact X0 6 Z (rb h F Z)
    exact X0 11 Z (rb h F Z)
   exact X0 16 Z (rb h F Z)
  exact X0 22 Z (rb h F Z)
 refine X0 6 Z ?_;obtain⟨o,k,_,F,f⟩:=bindE F;refine qa0 (fun e w'=>∃u,o u=V r/\e=[(2,vp c),(3,vp d),(5,vi (W64 ((a.Bh.length:Int)-1))),(6,.bool y1.Bt),(83,.bool u)]/\SH w w' [oX d (qhH b S T N O) 238,oX c (qew a P Q R L M k3) 251]) ?_ ?_
 ·refine qi Z F ?_ ?_<;>intro F
  ·refine qcI ?_;obtain rfl:=qb F;exact rG ⟨_,f,rfl,h⟩ Z
  refine X0 4 Z ?_;obtain rfl:=qb F;exact rG ⟨_,f,rfl,h⟩ Z
 rintro _ _ ⟨u,F,rfl,h⟩;subst k;refine qi Z F ?_ ?_<;>intro F
 ·refine X0 4 Z (qn (t:=87) F Z ?_ ?_)<;>intro F
  ·refine X1 10 0 h Z (qn (t:=93) F Z ?_ ?_)<;>intro F
   ·refine X2 9 1 0 h Z ?_;obtain⟨_,_,F,B,_,_,_,_,D,I,K,z⟩:=X.ix F;obtain rfl:=qa2 K;refine zxe D I B Z (X0 3 Z (zc 3 (z.below h.below) Z (X0 4 Z (qn (t:=103) F Z ?_ ?_))))<;>intro F
    ·refine X1 8 0 h Z (qn (t:=108) F Z ?_ ?_)<;>intro F
     ·refine X1 5 0 h Z (zcB h F (qfH ⟨_,_,rfl,(h.oldS W)⟩) Z fun _ _ h F=>zp2 Z (qn (t:=113) F Z ?_ ?_))<;>intro F
      ·exact X1 11 0 h Z (rb h F Z)
      exact X0 7 Z (rb h F Z)
     exact X0 12 Z (rb h F Z)
    exact X0 17 Z (rb h F Z)
   exact X0 27 Z (rb h F Z)
  exact X0 33 Z (rb h F Z)
 exact X0 6 Z (rb h F Z)
def qdL(c:qz):Nat->(List Int)->Int->Option ((List Int)×Int)|0,_,_=>U|n+1,a,i1=>bif decide (i1<(c.Bc.length:Int)) then(idx c.Bc i1).bind fun b=>(idx a b.Bi).bind fun d=>(idx a b.Bi).bind fun _=>qdL c n (setS a b.Bi (W64 (d+1))) (W64 (i1+1)) else V (a,i1)
def qkp(n:Nat)(c:qz):Option (List Int):=(mkS 6 (0:Int)).bind fun x1=>(qdL c n x1 0).bind fun(a,_)=>V a
theorem qqV{c:qz}(l:Ro w c cs1){r:(List Int)}(F:qkp n c=V r):RetV prog 325 [oV qz cs1] w r:=by
 obtain⟨M,J,N,K,O,k3,rfl,_,s2,_⟩:=qag l;refine zV 25 func325 Z fun h=>zSR (qw h Z Z fun _ b h=>X0 4 Z ?_);obtain⟨x1,a,F⟩:=qc F;obtain⟨H,I,a⟩:=qU a;refine qam qa Int h Z Z Z Z Z Z Z Z Z H I a Z fun _ S1 D h=>X0 7 Z ?_;obtain⟨L,F,k⟩:=qc F;refine qm (rL (fun m e w'=>∃B i1,qdL c m B i1=V L/\e=[(1,vp b),(3,oS D x1.length x1.length),(4,vi i1)]/\SH w w' [oW S1 (B:List Int) [oS D x1.length x1.length],oX b (qew c M N O J K k3) 251]) n ⟨_,_,F,rfl,h⟩ Z ?_);rintro C _ _ ⟨B,i1,F,rfl,h⟩;rcases C with _|C
 ·cases F
 refine X1 9 1 h Z (qi Z F ?_ ?_)<;>intro F
 ·refine X1 8 1 h Z ?_;obtain⟨_,_,F,t,_,_,_,_,u,x,z,o⟩:=s2.ix F;obtain⟨_,_,_,_,rfl,_,_⟩:=qaj z;refine zxe u x t Z (zp1 Z (zc 0 (o.below h.below) Z ?_));obtain⟨P,_,F,d,_,_,_,_,v,y,rfl,p⟩:=(h.sl 0 Z).1.ix F;refine zx v y ⟨d.1,qC d.2.1 (h.sl 0 Z).2⟩ Z (zc 0 p Z (zp1 Z ?_));obtain⟨_,A,F,f,_,_,_,_,g,i,rfl,s⟩:=(h.sl 0 Z).1.ix F;exact zx g i ⟨f.1,qC f.2.1 (h.sl 0 Z).2⟩ Z (qax qa 0 0 (W64 (P+1)) h Z A g i Z s Z Z Z Z Z Z Z fun _ h=>X0 7 Z (rK ⟨_,_,F,rfl,h⟩ Z))
 refine qt Z ?_;obtain rfl:=qb F;replace F:=k;refine X0 5 Z ?_;obtain rfl:=qb F;exact rO 0 h Z ⟨rfl,G⟩
end Go.Fw
