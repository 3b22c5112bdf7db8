/- Calls that hand out parts of memory one by one: what is owned stays apart. -/
import Derived.Test.YtpiadipmfbjlbaaGreatDoorFw38
import Derived.Sort.Grow
import Derived.Lib.SlicesCompact
import Derived.Laws.StructEq
import Derived.Shelf.GgSortFunc.RowK
import Derived.Sort.Statements
import Derived.Sort.LotA
import Derived.Lib.QuietBelow
import Derived.Test.YtpiadipmfbjlbaaGreatDoorChecked
import Derived.Test.YtpiadipmfbjlbaaGreatDoorS1
open Option renaming some->V, none->U
open Nat renaming le_refl->je, le_of_ble_eq_true->ju, mul_le_mul_right->jw, lt_of_lt_of_le->jA, zero_add->jY, le_trans->Jb, add_zero->Jj, sub_zero->Jq
open Bool renaming and_eq_true->jf, not_eq_true'->jI
open List renaming length_append->jg, getElem?_eq_getElem->jh, mem_cons_of_mem->jo, length_map->jq, getElem_mem->jt, length_take->jv, mem_cons_self->jx, getElem?_append_left->jy, getElem?_append_right->jB, take_length->jC, getElem?_take->jD, getElem?_toArray->jJ, mem_of_getElem?->jL, mem_append_left->jM, size_toArray->jR, not_mem_nil->jU, take_append_drop->jW, mem_append_right->jX, mem_cons->Je, getElem?_drop->Jf, map_map->Jp
open Go.Result renaming andThen_ok->ji
open Go.Sem renaming run_bind->jk, run_pure->jm
open Array renaming getElem?_append_left->jE, getElem?_eq_getElem->jS

namespace Go.Fw
open Go
open Go.RowKit (Below)
section
variable{P:Program}{T:Tab}{n:Nat}{Q:Exit->Act->World->Prop}{k:List It}{e:Env}{w0 w w':World}{L L':List Ch}
theorem SH.append(h:SH w0 w L)(hL:SH w w' L')(hD:∀c,c∈L'->∀b,c.D b->b<w0.heap.size):SH w0 w' (L'++L):=by
 have h':=h.ext hL.below;refine⟨h'.below,fun c hc=>?_,fun c hc=>?_,?_⟩
 ·rcases List.mem_append.1 hc with hc|hc
  ·obtain⟨p,s⟩:=hL.holds c hc;exact⟨p,fun b hb=>⟨Jb h.below.size (s b hb).1,(s b hb).2⟩⟩
  ·exact h'.holds c hc
 ·rcases List.mem_append.1 hc with hc|hc
  ·exact hD c hc
  ·exact h.elder c hc
 ·refine List.pairwise_append.2 ⟨hL.apart,h.apart,fun c hc d hd b hcb hdb=>?_⟩;have h1:=((hL.holds c hc).2 b hcb).1;have h2:=((h.holds d hd).2 b hdb).2;omega
theorem SH.appendN(h:SH w0 w L)(hL:SH w w' L')(hD:NoD L'):SH w0 w' (L'++L):=
 SH.append h hL fun c hc b hb=>absurd hb (NoD.all hD c hc b)
def RetZ(P:Program)(f:FuncId)(vs:List Value)(w:World)(Φ:List Value->List Ch->Prop):Prop:=
 Calls P f vs.toArray w fun e w'=>∃v,e=.returned v/\Below w.heap.size w w'/\∃us L,v=tup us/\SH w w' L/\Φ us L
theorem qxM{Φ:List Value->List Ch->Prop}{all:Array Oper}{l:List Oper}{d ty:Nat}{ps:String}{af:Array Edge}{x:Operand}{args:Array Operand}{ats:Array TypeId}{f:FuncId}{fi ca:Array Value}{az vs:List Value}
  (hcall:qep P f) (hc:RetZ P f vs w Φ) (hx:opv e x=V (.func (.func f) fi ca)) (hargs:opvs e args.toList=V az) (hvs:fi.toList++az++ca.toList=vs) (hn:Nat.blt d n=true)
  (hk:∀w' us L',SH w w' L'->Φ us L'->Run P n Q (.ops all l::k) ((d,tup us)::e) w') :
  Run P n Q (.ops all (⟨V d,.call ⟨.value x,args,ats⟩,ty,ps,af,U⟩::l)::k) e w:=by
 subst hvs;refine qmD (R:=fun v w'=>Below w.heap.size w w'/\∃us L,v=tup us/\SH w w' L/\Φ us L) Z Z hn (fun a ha=>qhS ha hcall hx hargs w) hc ?_;rintro v w' ⟨_,us,L',rfl,hL,hv⟩;exact hk w' us L' hL hv
theorem qrp{f:FuncId}{fn:Func}{c:Code}{vs:List Value}{Φ:List Value->List Ch->Prop}{m:Nat}(hf:P.funcs[f]?=V fn)(hb:fn.body=V c)(hm:fn.ntmps=m)(hn:Nat.ble vs.length m=true)
  (h:SH w w []->Run P m (bodyPost P fn fun e w'=>∃v,e=.returned v/\Below w.heap.size w w'/\∃us L,v=tup us/\SH w w' L/\Φ us L) [.code c] (argEnv 0 vs) w):RetZ P f vs w Φ:=by
 subst hm;have hn':=ju hn;refine calls_of_wp hf hb ?_;have hr:=h (SH.start w);have hag:Agree fn.ntmps (argEnv 0 vs) { tmps:=vs.toArray++Array.replicate (fn.ntmps-vs.toArray.size) undef,defers:=[] }:=by
  refine⟨rfl,by simp;omega,fun i v hi=>?_⟩;obtain⟨_,h2⟩:=qhD vs 0 i v hi;simp only[Jq] at h2;have hlt:=(List.getElem?_eq_some_iff.1 h2).1;rw[jE (by simpa using hlt)];simpa using h2
 have h1:=hr _ hag;refine wp_mono h1 ?_;intro ex a' w' hq;cases ex<;>exact hq
theorem qpW(hT:TabOk P T){fn:Func}{Φ:List Value->List Ch->Prop}(us:List Value)(h:SH w0 w L)(hr:ResOk T e w fn.results.toList us)(hv:Φ us L) :
  Run P n (bodyPost P fn fun e w'=>∃v,e=.returned v/\Below w0.heap.size w0 w'/\∃us L,v=tup us/\SH w0 w' L/\Φ us L) (.code .ret::k) e w:=
 qsx fun _ ha=>⟨ha.defers,tup us,qfN hT ha hr,tup us,rfl,h.below,us,L,rfl,h,hv⟩
end
end Go.Fw


namespace Go.Fw
open Go Go.Sort
open Go.RowKit (Below)
section
variable{P:Program}{T:Tab}{n:Nat}{Q:Exit->Act->World->Prop}{k:List It}{e:Env}{w0 w w':World}{L L':List Ch}
theorem qtQ{α:Type}{L:List α}{i:Nat}{c:α}(h:L[i]?=V c):L.set i c=L:=by
 obtain⟨hi,he⟩:=List.getElem?_eq_some_iff.1 h;rw[<-he,List.set_getElem_self]
abbrev encI:Int->Value:=Value.int .i64
theorem qyT{S:Nat->Prop}{xs:List Int}{b o ln c i:Nat}(h:SH w0 w L)(hi:L[i]?=V (Ch.own S xs [.slice (V ⟨b,o,U⟩) ln c])) :
  o=0/\ln=xs.length/\xs.length<=c/\xs.length<=9223372036854775807/\b<w.heap.size/\Holds encI w b o xs.toArray:=by
 obtain⟨hp,hS⟩:=h.mem hi;obtain⟨p0,c0,he,h1,h2,h3⟩:=hp;simp only[List.cons.injEq,Value.slice.injEq,and_true] at he;obtain⟨rfl,rfl,rfl⟩:=he;rcases h3 with⟨hn,_⟩|⟨b',cur,t,F,hb,hSb,hg,hc,hF,hd,hx⟩
 ·cases hn
 ·simp only[Option.some.injEq,Addr.mk.injEq,and_true] at hb;obtain⟨rfl,rfl⟩:=hb;have hmax:maxLen<=9223372036854775807:=by simp[maxLen]
  refine⟨rfl,rfl,h1,by omega,(hS b hSb).2,fun j hj=>?_⟩;have hj':j<xs.length:=by simpa using hj
  obtain⟨cs,hr,hv⟩:=hx j xs[j] (jh hj');obtain rfl:cs=[.int .i64 xs[j]]:=hr;have:=hv 0 _ Z;refine⟨?_,?_⟩
  ·simp only[World.cell?,hg,Option.isSome_none,jY,Bool.false_eq_true,if_false];have e1:j*GoT.k Int+0=j:=by show j*1+0=j;omega
   rw[e1] at this;rw[this];have hja:j<xs.toArray.size:=hj;rw[getElem!_pos xs.toArray j hja]
   rfl
  ·simp only[World.frozen?,hg];simp
theorem qBB{S:Nat->Prop}{xs:List Int}{b o ln c i m:Nat}(h:SH w0 w L)(hi:L[i]?=V (Ch.own S xs [.slice (V ⟨b,o,U⟩) ln c]))(d:Array Int)(hd:d.size=xs.length)(hm:m<=d.size)(nd:Nat)(os:Array Obj) :
  SH w0 (grow (putRow encI (Go.Sort.ahead w nd) b o d) os) (L.set i (Ch.own S (d.toList.take m) [.slice (V ⟨b,o,U⟩) m c])):=by
 obtain⟨hp,hS⟩:=h.mem hi;obtain⟨p0,c0,he,h1,h2,h3⟩:=hp;simp only[List.cons.injEq,Value.slice.injEq,and_true] at he;obtain⟨rfl,rfl,rfl⟩:=he;rcases h3 with⟨hn,_⟩|⟨b',cur,t,F,hb,hSb,hg,hc,hF,hdj,hx⟩
 ·cases hn
 ·simp only[Option.some.injEq,Addr.mk.injEq,and_true] at hb;obtain⟨rfl,rfl⟩:=hb;have hbs:b<w.heap.size:=(hS b hSb).2;have hheap:(grow (putRow encI (Go.Sort.ahead w nd) b 0 d) os).heap=w.heap.modify b (onCells (putCells encI 0 d))++os:=rfl;have hlt:∀a,a<w.heap.size->(grow (putRow encI (Go.Sort.ahead w nd) b 0 d) os).heap[a]?=(w.heap.modify b (onCells (putCells encI 0 d)))[a]?:=fun a ha=>by
   rw[hheap,jE (by rw[Array.size_modify];exact ha)]
  have hgb:(grow (putRow encI (Go.Sort.ahead w nd) b 0 d) os).heap[b]?=V (.cells (putCells encI 0 d cur) t (0,0)):=by
   rw[hlt b hbs,Array.getElem?_modify,if_pos Z,hg];rfl
  have hk1:GoT.k Int=1:=rfl;refine h.upd hi Z Z Z ?_ (fun a ha hna=>?_) ?_ (fun a ha=>.inl ha) (fun _ hd=>hd.elim)
  ·rw[hheap];simp
  ·rw[hlt a ha,Array.getElem?_modify,if_neg (fun hab:b=a=>hna (hab ▸ hSb))]
  ·refine⟨V ⟨b,0,U⟩,c,by rw[jv,Array.length_toList,Nat.min_eq_left hm],by rw[jv,Array.length_toList];omega,h2,.inr ⟨b,_,t,F,rfl,hSb,hgb,?_,hF,hdj,fun j x hj=>⟨[.int .i64 x],rfl,fun r v hr=>?_⟩⟩⟩
   ·unfold putCells;rw[Array.size_mapIdx];exact hc
   ·have hr0:r=0:=by
     have:=(List.getElem?_eq_some_iff.1 hr).1;simpa using this
    subst hr0;obtain rfl:(.int .i64 x)=v:=by simpa using hr
    have hjm:j<m:=by
     have:=(List.getElem?_eq_some_iff.1 hj).1;rw[jv] at this;omega
    rw[jD,if_pos hjm] at hj;have hjd:j<d.size:=by omega
    have hjc:j*GoT.k Int+0<cur.size:=by rw[hc,hk1];omega
    unfold putCells;rw[Array.getElem?_mapIdx,jS hjc];have e1:j*GoT.k Int+0=j:=by rw[hk1];omega
    simp only[Option.map_some,e1,Jq,Nat.zero_le,jY,true_and,if_pos hjd,Option.some.injEq];rw[getElem!_pos d j hjd];rw[Array.getElem?_toList,jS hjd] at hj;rw[Option.some.inj hj]
theorem qz0{S:Nat->Prop}{xs:List Int}{b o ln c i:Nat}{sp:Option Nat}(h:SH w0 w L)(hi:L[i]?=V (Ch.own S xs [.slice (V ⟨b,o,sp⟩) ln c])):sp=U:=by
 obtain⟨hp,_⟩:=h.mem hi;obtain⟨p0,c0,he,h1,h2,h3⟩:=hp;simp only[List.cons.injEq,Value.slice.injEq,and_true] at he;obtain⟨rfl,_,rfl⟩:=he;rcases h3 with⟨hn,_⟩|⟨b',cur,t,F,hb,_⟩
 ·cases hn
 ·simp only[Option.some.injEq,Addr.mk.injEq] at hb;exact hb.2.2
theorem qBt{S:Nat->Prop}{xs:List Int}{ln c i:Nat}(h:SH w0 w L)(hi:L[i]?=V (Ch.own S xs [.slice U ln c])):xs=[]/\ln=0/\c=0:=by
 obtain⟨hp,_⟩:=h.mem hi;obtain⟨p0,c0,he,h1,h2,h3⟩:=hp;simp only[List.cons.injEq,Value.slice.injEq,and_true] at he;obtain⟨rfl,hl,rfl⟩:=he;rcases h3 with⟨_,rfl,rfl⟩|⟨b',cur,t,F,hb,_⟩
 ·exact⟨rfl,by simpa using hl,rfl⟩
 ·cases hb
end
end Go.Fw


namespace Go.Fw
open Go
open Go.RowKit (Below)
section
variable{w0 w w':World}{L:List Ch}{α:Type}[GoT α]
def RAll(w:World)(A:Nat->Prop):List α->List (Raw α)->Prop
 | [],[]=>True
 |x::xs,r::rs=>GoT.R w A x r.cs/\RAll w A xs rs
 |_,_=>False
theorem RAll.at{A:Nat->Prop}:∀{xs:List α} {rs:List (Raw α)},RAll w A xs rs->xs.length=rs.length/\∀(i:Nat) x,xs[i]?=V x->∃r,rs[i]?=V r/\GoT.R w A x r.cs
 | [],[],_=>⟨rfl,fun i x h=>by simp at h⟩
 |x::xs,[],h=>h.elim
 | [],r::rs,h=>h.elim
 |x::xs,r::rs,h=>by
  obtain⟨hl,ha⟩:=RAll.at h.2;refine⟨by simp[hl],fun i y hy=>?_⟩;cases i with
  |zero=>simp only[List.getElem?_cons_zero,Option.some.injEq] at hy⊢;subst hy;exact⟨r,rfl,h.1⟩
  |succ i=>simp only[List.getElem?_cons_succ] at hy⊢;exact ha i y hy
theorem rawsR{A:Nat->Prop}{xs:List α}{rs:List (Raw α)}{p:Option Addr}{n c:Nat}(hr:GoT.R w A rs [.slice p n c])(h:RAll w A xs rs):GoT.R w A xs [.slice p n c]:=by
 obtain⟨p0,c0,he,h1,h2,h3⟩:=hr;obtain⟨hl,ha⟩:=h.at;simp only[List.cons.injEq,Value.slice.injEq,and_true] at he;obtain⟨rfl,rfl,rfl⟩:=he;refine⟨p,c,by rw[hl],by omega,h2,?_⟩;rcases h3 with⟨hp,rfl⟩|⟨b,o,cur,T,fr,rfl,hb,hg,hc,hx⟩
 ·left;exact⟨hp,List.length_eq_zero_iff.1 hl⟩
 ·refine .inr ⟨b,o,cur,T,fr,rfl,hb,hg,hc,fun i x hi=>?_⟩;obtain⟨r,hri,hR⟩:=ha i x hi;obtain⟨cs,hcs,hj⟩:=hx i r hri;obtain rfl:cs=r.cs:=hcs.1;exact⟨_,hR,hj⟩
theorem SH.cutS{S:Nat->Prop}{xs y:List α}{p p1:Option Addr}{ln c k1:Nat}{hi:Int}(i:Nat)(h:SH w0 w L)(hL:L[i]?=V (Ch.own S xs [.slice p ln c]))(hy:subS xs 0 hi=V y)(hp:subP (GoT.k α) p c (0:Int).toNat=p1)(hk:c-(0:Int).toNat=k1) :
  SH w0 w (L.set i (Ch.own S y [.slice p1 y.length k1])):=by
 obtain⟨h0,h1,h2,rfl⟩:=qlt hy;obtain⟨hP,hS⟩:=h.mem hL;obtain⟨p0,c0,he,q1,q2,q3⟩:=hP;simp only[List.cons.injEq,Value.slice.injEq,and_true] at he;obtain⟨rfl,rfl,rfl⟩:=he;have e0:(0:Int).toNat=0:=rfl;rw[e0] at hp hk;simp only[Jq] at hk;subst hk;simp only[e0,List.drop_zero];have hp1:p1=p:=by
  subst hp;unfold subP;split
  ·rfl
  ·rcases q3 with⟨rfl,_,_⟩|⟨b,cur,T,F,rfl,_⟩
   ·rfl
   ·simp[Addr.add]
 subst hp1;have hlen:(xs.take hi.toNat).length<=c:=by rw[jv];omega
 refine h.upd hL Z Z Z (je _) (fun _ _ _=>rfl) ⟨p1,c,rfl,hlen,q2,?_⟩ (fun b hb=>.inl hb) (fun _ hd=>hd.elim);rcases q3 with⟨rfl,rfl,rfl⟩|⟨b,cur,T,F,rfl,hb,hg,hc,hF,hd,hx⟩
 ·exact .inl ⟨rfl,by simp,rfl⟩
 ·refine .inr ⟨b,cur,T,F,rfl,hb,hg,hc,hF,hd,fun j x hj=>?_⟩;rw[jD] at hj;split at hj
  ·exact hx j x hj
  ·cases hj
end
end Go.Fw


namespace Go.Fw
open Go
end Go.Fw


namespace Go.Fw
open Go
open Go.RowKit (Below)
section
variable{P:Program}{T:Tab}{n:Nat}{Q:Exit->Act->World->Prop}{k:List It}{e:Env}{w0 w:World}{L:List Ch}
variable{α:Type}[GoT α]{S S1:Nat->Prop}{xs ys:List α}{p p':Option Addr}{c c':Nat}
end
section
variable{α β γ:Type}
def Emp(o:Option (List α)):Prop:=∀r,o=V r->r=[]
theorem Emp.none:Emp (U:Option (List α)):=fun _ h=>by cases h
theorem Emp.noneB{f:β->Option (List α)}:Emp ((Option.none:Option β).bind f):=fun _ h=>by cases h
theorem Emp.nil:Emp (V ([]:List α)):=fun _ h=>(Option.some.inj h).symm
theorem Emp.bif{c:Bool}{a b:Option (List α)}(h1:Emp a)(h2:Emp b):Emp (bif c then a else b):=by cases c<;>assumption
theorem Emp.sub{xs:List β}{lo:Int}{f:List β->Option (List α)}(h:Emp (f [])):Emp ((subS xs lo ((0:Nat):Int)).bind f):=fun r hr=>by
 cases hs:subS xs lo ((0:Nat):Int) with
 |none=>rw[hs] at hr;cases hr
 |some y=>
  rw[hs] at hr;obtain⟨_,_,_,e⟩:=qlt hs;have:y=[]:=by rw[<-e];simp
  subst this;exact h r hr
theorem Emp.bind{x:Option β}{f:β->Option (List α)}(h:∀y,Emp (f y)):Emp (x.bind f):=by
 cases x with
 |none=>exact Emp.noneB
 |some y=>exact h y
end
end Go.Fw


namespace Go.Fw
open Go
section
variable{ε:Type}
variable{ρ σ τ:Type}
end

end Go.Fw


namespace Go.Fw
open Go
open Go.RowKit (Below)
structure Same where
 w:World
 K:Nat->Prop
instance instSame:GoT Same where
 k:=1
 agg:=false
 zero:=⟨default,fun _=>False⟩
 zc:=[.bool true]
 R w S x cs:=cs=[.bool true]/\∀b,x.K b->S b/\w.heap[b]?=x.w.heap[b]?
 O w S x cs:=cs=[.bool true]/\∀b,x.K b->S b/\w.heap[b]?=x.w.heap[b]?
 kpos:=by decide
 noagg _:=rfl
 len h:=by obtain⟨rfl,_⟩:=h;rfl
 one h:=by obtain⟨rfl,_⟩:=h;simp[Value.oneCell']
 loc h hs:=⟨h.1,fun b hb=>⟨(h.2 b hb).1,(hs b (h.2 b hb).1).trans (h.2 b hb).2⟩⟩
 mono h hs:=⟨h.1,fun b hb=>⟨hs b (h.2 b hb).1,(h.2 b hb).2⟩⟩
 toR h:=h
 locO h hs:=⟨h.1,fun b hb=>⟨(h.2 b hb).1,(hs b (h.2 b hb).1).trans (h.2 b hb).2⟩⟩
 monoO h hs:=⟨h.1,fun b hb=>⟨hs b (h.2 b hb).1,(h.2 b hb).2⟩⟩
 zO _ _:=⟨rfl,fun _ h=>h.elim⟩
def FS(F:List Ch)(b:Nat):Prop:=∃d,d∈F/\d.S b
abbrev Fr(w0:World)(F:List Ch)(b:Nat):Prop:=FS F b\/old w0 b
abbrev same(w0 w:World)(F:List Ch):Fct:=fct (⟨w,Fr w0 F⟩:Same) [.bool true]
section
variable{P:Program}{T:Tab}{n:Nat}{Q:Exit->Act->World->Prop}{k:List It}{e:Env}{w0 w w':World}{L L' F:List Ch}
theorem SH.frame(L:List Ch)(h:SH w0 w (L++F)):SH w0 w (L++[Ch.grp (Fw.old w0) (FS F) [same w0 w F]]):=by
 have hp:=List.pairwise_append.1 h.apart;refine⟨h.below,fun c hc=>?_,fun c hc=>?_,List.pairwise_append.2 ⟨hp.1,List.pairwise_singleton ..,fun c hc d hd b hb=>?_⟩⟩
 ·rcases List.mem_append.1 hc with hc|hc
  ·exact h.holds c (jM _ hc)
  ·obtain rfl:=List.mem_singleton.1 hc;refine⟨fun f hf=>?_,fun b hb=>?_⟩
   ·obtain rfl:=List.mem_singleton.1 hf;exact⟨rfl,fun b hb=>⟨hb,rfl⟩⟩
   ·obtain⟨d,hd,hb⟩:=hb;exact(h.holds d (jX _ hd)).2 b hb
 ·rcases List.mem_append.1 hc with hc|hc
  ·exact h.elder c (jM _ hc)
  ·obtain rfl:=List.mem_singleton.1 hc;exact fun b hb=>hb
 ·obtain rfl:=List.mem_singleton.1 hd;rintro⟨d,hd,hdb⟩;exact hp.2.2 c hc d hd b hb hdb
theorem SH.unframe{L0:List Ch}{fs:List Fct}(j:Nat)(h0:SH w0 w (L0++F))(L':List Ch)(h:SH w0 w' (L'++[Ch.grp (Fw.old w0) (FS F) fs]))(hj:fs[j]?=V (same w0 w F)):SH w0 w' (L'++F):=by
 have hp:=List.pairwise_append.1 h.apart;have hp0:=List.pairwise_append.1 h0.apart;have hg:=h.holds (Ch.grp (Fw.old w0) (FS F) fs) (jX _ (List.mem_singleton.2 Z));have hs:∀b,Fr w0 F b->w'.heap[b]?=w.heap[b]?:=fun b hb=>((hg.1 _ (jL hj)).2 b hb).2;refine⟨h.below,fun c hc=>?_,fun c hc=>?_,List.pairwise_append.2 ⟨hp.1,hp0.2.1,fun c hc d hd b hb hdb=>?_⟩⟩
 ·rcases List.mem_append.1 hc with hc|hc
  ·exact h.holds c (jM _ hc)
  ·obtain⟨h1,h2⟩:=h0.holds c (jX _ hc);exact⟨c.loc w w' (fun b hb=>hs b (.inl ⟨c,hc,hb⟩)) (fun b hb=>hs b (.inr (h0.elder c (jX _ hc) b hb))) h1,fun b hb=>hg.2 b ⟨c,hc,hb⟩⟩
 ·rcases List.mem_append.1 hc with hc|hc
  ·exact h.elder c (jM _ hc)
  ·exact h0.elder c (jX _ hc)
 ·exact hp.2.2 c hc _ (List.mem_singleton.2 Z) b hb ⟨d,hd,hdb⟩
variable{α:Type}[GoT α]{x:α}{cs:List Value}{S D:Nat->Prop}{fs:List Fct}
def RetW(P:Program)(f:FuncId)(vs:List Value)(w:World)(J:List Value->World->Prop):Prop:=
 Calls P f vs.toArray w fun e w'=>∃us,e=.returned (tup us)/\J us w'
theorem qBv{J:List Value->World->Prop}{all:Array Oper}{l:List Oper}{d ty:Nat}{ps:String}{af:Array Edge}{x:Operand}{args:Array Operand}{ats:Array TypeId}{f:FuncId}{fi ca:Array Value}{az vs:List Value}
  (hcall:qep P f) (hc:RetW P f vs w J) (hx:opv e x=V (.func (.func f) fi ca)) (hargs:opvs e args.toList=V az) (hvs:fi.toList++az++ca.toList=vs) (hn:Nat.blt d n=true)
  (hk:∀w' us,J us w'->Run P n Q (.ops all l::k) ((d,tup us)::e) w'):Run P n Q (.ops all (⟨V d,.call ⟨.value x,args,ats⟩,ty,ps,af,U⟩::l)::k) e w:=by
 subst hvs;refine qmD (R:=fun v w'=>∃us,v=tup us/\J us w') Z Z hn (fun a ha=>qhS ha hcall hx hargs w) (hc.mono ?_) ?_
 ·rintro e w' ⟨us,rfl,h⟩;exact⟨_,rfl,us,rfl,h⟩
 ·rintro v w' ⟨us,rfl,h⟩;exact hk w' us h
theorem qvt{J:List Value->World->Prop}{f:FuncId}{fn:Func}{c:Code}{vs:List Value}{m:Nat}(hf:P.funcs[f]?=V fn)(hb:fn.body=V c)(hm:fn.ntmps=m)(hn:Nat.ble vs.length m=true)
  (h:Run P m (bodyPost P fn fun e w'=>∃us,e=.returned (tup us)/\J us w') [.code c] (argEnv 0 vs) w):RetW P f vs w J:=by
 subst hm;have hn':=ju hn;refine calls_of_wp hf hb ?_;have hag:Agree fn.ntmps (argEnv 0 vs) { tmps:=vs.toArray++Array.replicate (fn.ntmps-vs.toArray.size) undef,defers:=[] }:=by
  refine⟨rfl,by simp;omega,fun i v hi=>?_⟩;obtain⟨_,h2⟩:=qhD vs 0 i v hi;simp only[Jq] at h2;have hlt:=(List.getElem?_eq_some_iff.1 h2).1;rw[jE (by simpa using hlt)];simpa using h2
 have h1:=h _ hag;refine wp_mono h1 ?_;intro ex a' w' hq;cases ex<;>exact hq
theorem qBV{J:List Value->World->Prop}(hT:TabOk P T){fn:Func}(us:List Value)(hr:ResOk T e w fn.results.toList us)(h:J us w) :
  Run P n (bodyPost P fn fun e w'=>∃us,e=.returned (tup us)/\J us w') (.code .ret::k) e w:=
 qsx fun _ ha=>⟨ha.defers,tup us,qfN hT ha hr,us,rfl,h⟩
end
section
open Go.ChangeShapes Go.RowKit
variable{H:Type}{enc:TypeId×Value->H}{P:Program}{w:World}{base:Nat}{spare:Nat->Bool}{held:Bool}
end

section
variable{P:Program}{T:Tab}{n:Nat}{Q:Exit->Act->World->Prop}{k:List It}{e:Env}{w0 w w':World}{L:List Ch}
variable{α β:Type}[GoT α][GoT β]{S Sr Se D:Nat->Prop}{xs ys:List α}{p p':Option Addr}{c c':Nat}{fs:List Fct}{x:α}{cs:List Value}
theorem RAll.loc{A:Nat->Prop}:∀{xs:List α} {rs:List (Raw α)},RAll w A xs rs->(∀b,A b->w'.heap[b]?=w.heap[b]?)->RAll w' A xs rs
 | [],[],_,_=>trivial
 |_::_,[],h,_=>h.elim
 | [],_::_,h,_=>h.elim
 |_::_,_::_,h,hb=>⟨GoT.loc h.1 hb,RAll.loc h.2 hb⟩
theorem RAll.mono{A B:Nat->Prop}(hb:∀b,A b->B b):∀{xs:List α} {rs:List (Raw α)},RAll w A xs rs->RAll w B xs rs
 | [],[],_=>trivial
 |_::_,[],h=>h.elim
 | [],_::_,h=>h.elim
 |_::_,_::_,h=>⟨GoT.mono h.1 hb,RAll.mono hb h.2⟩
theorem RAll.app{A:Nat->Prop}:∀{xs:List α} {rs:List (Raw α)} {ys:List α} {qs:List (Raw α)},RAll w A xs rs->RAll w A ys qs->RAll w A (xs++ys) (rs++qs)
 | [],[],_,_,_,h=>h
 |_::_,[],_,_,h,_=>h.elim
 | [],_::_,_,_,h,_=>h.elim
 |_::_,_::_,_,_,h,h'=>⟨h.1,RAll.app h.2 h'⟩
theorem RAll.of{A:Nat->Prop}:∀{xs:List α} {rs:List (Raw α)},xs.length=rs.length->(∀(i:Nat) (x:α) (r:Raw α),xs[i]?=V x->rs[i]?=V r->GoT.R w A x r.cs)->RAll w A xs rs
 | [],[],_,_=>trivial
 |_::_,[],h,_=>by cases h
 | [],_::_,h,_=>by cases h
 |x::xs,r::rs,h,ha=>⟨ha 0 x r Z Z,RAll.of (by simpa using h) fun i y q hy hq=>ha (i+1) y q (by simpa using hy) (by simpa using hq)⟩
theorem RAll.len{A:Nat->Prop}{rs:List (Raw α)}(h:RAll w A xs rs):xs.length=rs.length:=h.at.1
end
end Go.Fw


namespace Go.Fw
open Go
end Go.Fw


namespace Go.Fw
open Go
open Go.RowKit (Below)
section
variable{P:Program}{T:Tab}{n:Nat}{Q:Exit->Act->World->Prop}{k:List It}{e:Env}{w0 w w':World}{L:List Ch}
end

section
variable{P:Program}{T:Tab}{n:Nat}{e:Env}{w:World}
def b3(a0:Bool)(a1 a2 a3:Int):Array Value:=#[.bool a0,.int .i64 a1,.int .i64 a2,.int .i64 a3]
end
end Go.Fw


namespace Go.Fw
open Go
section
variable{P:Program}{T:Tab}{n:Nat}{e:Env}{w:World}
end
end Go.Fw


namespace Go.Fw
open Go
open Go.RowKit (Below)
section
variable{P:Program}{T:Tab}{n:Nat}{Q:Exit->Act->World->Prop}{k:List It}{e:Env}{w0 w w':World}{L:List Ch}
variable{α β:Type}[GoT α][GoT β]{S Sr Se D:Nat->Prop}{xs ys:List α}{p p':Option Addr}{c c':Nat}{fs:List Fct}{x:α}{cs:List Value}
end

section
variable{w0 w w':World}{L LL F:List Ch}{c:Ch}{fs:List Fct}
theorem SH.unfr(k j:Nat)(h0:SH w0 w LL)(h:SH w0 w' L)(hl:L.getLast?=V (Ch.grp (Fw.old w0) (FS (LL.drop k)) fs))(hj:fs[j]?=V (same w0 w (LL.drop k))):SH w0 w' (L.dropLast++LL.drop k):=by
 refine SH.unframe (L0:=LL.take k) j (by rw[jW];exact h0) _ ?_ hj;have hne:L≠[]:=fun e=>by rw[e] at hl;cases hl
 rw[List.getLast?_eq_some_getLast hne] at hl;have e:=List.dropLast_concat_getLast hne;rw[Option.some.inj hl] at e;rw[e];exact h
end
section
variable{P:Program}{n:Nat}{Q:Exit->Act->World->Prop}{k:List It}
end

section
variable{P:Program}{T:Tab}{n:Nat}{Q:Exit->Act->World->Prop}{k:List It}{e:Env}{w0 w wc:World}{L:List Ch}
variable{α:Type}[GoT α]{S S1:Nat->Prop}{xs ys Y:List α}{x:α}{cs:List Value}{p p1 p':Option Addr}{c c1 c':Nat}
def Ch.pin(S:Nat->Prop)(wc:World):Ch where
 S:=S
 D _:=False
 P w:=∀b,S b->w.heap[b]?=wc.heap[b]?
 loc _ _ h _ hp:=fun b hb=>(h b hb).trans (hp b hb)
theorem SH.topinR(i:Nat)(h:SH w0 w L)(hi:L[i]?=V (Ch.own S x cs)):GoT.R w S x cs/\SH w0 w (L.set i (Ch.pin S w)):=
 ⟨GoT.toR (h.mem hi).1,h.say hi (fun _ _ _=>rfl) (fun _ h=>h) (fun _ h=>h.elim)⟩
theorem SH.topinL{ln:Nat}(i:Nat)(h:SH w0 w L)(hi:L[i]?=V (Ch.own S xs [.slice p ln c])):SlR w S xs p c/\SH w0 w (L.set i (Ch.pin S w)):=
 ⟨(qii (h.topinR i hi).1).1,(h.topinR i hi).2⟩
theorem SH.pinB(i:Nat)(h:SH w0 w L)(hi:L[i]?=V (Ch.pin S wc)){b:Nat}(hb:S b):w.heap[b]?=wc.heap[b]?:=(h.mem hi).1 b hb
theorem SH.pinC(i:Nat)(h:SH w0 w L)(hi:L[i]?=V (Ch.pin S wc)){b q:Nat}{ds:List Value}(hb:S b)(hc:CellsAt wc b q ds):CellsAt w b q ds:=hc.loc (h.pinB i hi hb)
theorem SH.pinS(i:Nat)(h:SH w0 w L)(hi:L[i]?=V (Ch.pin S wc))(hs:SlR wc S xs p c):SlR w (Fw.old w) xs p c:=
 (hs.loc fun _ hb=>h.pinB i hi hb).mono fun b hb=>((h.mem hi).2 b hb).2
theorem Rd.sub{rs:List (Raw α)}(h:Rd w0 Y rs){lo hi:Int}(hs:subS Y lo hi=V ys):∃qs,subS rs lo hi=V qs/\Rd w0 ys qs:=by
 obtain⟨h0,h1,h2,rfl⟩:=qlt hs;refine⟨(rs.take hi.toNat).drop lo.toNat,?_,?_,fun i x r hx hr=>?_⟩
 ·unfold subS;rw[if_pos ⟨h0,h1,by rw[h.1];exact h2⟩]
 ·simp[h.1]
 ·rw[Jf,jD] at hx hr;split at hx
  ·rename_i hlt
   rw[if_pos hlt] at hr;exact h.2 _ x r hx hr
  ·cases hx
def RdA(w0:World)(A:Nat->Prop)(xs:List α)(rs:List (Raw α)):Prop:=rs.length=xs.length/\∀(i:Nat) (x:α) (r:Raw α),xs[i]?=V x->rs[i]?=V r->GoT.R w0 A x r.cs
variable{A:Nat->Prop}
theorem RdA.app{rs qs:List (Raw α)}(h1:RdA w0 A xs rs)(h2:RdA w0 A ys qs):RdA w0 A (xs++ys) (rs++qs):=by
 refine⟨by simp[h1.1,h2.1],fun i x r hx hr=>?_⟩;by_cases hi:i<xs.length
 ·rw[jy hi] at hx;rw[jy (by rw[h1.1];exact hi)] at hr;exact h1.2 i x r hx hr
 ·rw[jB (by omega)] at hx;rw[jB (by rw[h1.1];omega),h1.1] at hr;exact h2.2 _ x r hx hr
theorem RdA.sub{rs:List (Raw α)}(h:RdA w0 A Y rs){lo hi:Int}(hs:subS Y lo hi=V ys):∃qs,subS rs lo hi=V qs/\RdA w0 A ys qs:=by
 obtain⟨h0,h1,h2,rfl⟩:=qlt hs;refine⟨(rs.take hi.toNat).drop lo.toNat,?_,?_,fun i x r hx hr=>?_⟩
 ·unfold subS;rw[if_pos ⟨h0,h1,by rw[h.1];exact h2⟩]
 ·simp[h.1]
 ·rw[Jf,jD] at hx hr;split at hx
  ·rename_i hlt
   rw[if_pos hlt] at hr;exact h.2 _ x r hx hr
  ·cases hx
def Ch.rowA(w0:World)(A S:Nat->Prop)(xs:List α)(p:Option Addr)(c:Nat):Ch where
 S:=S
 D _:=False
 P w:=∃rs:List (Raw α),RdA w0 A xs rs/\(Ch.own S rs [.slice p rs.length c]).P w
 loc w w' h h' hp:=by
  obtain⟨rs,h1,h2⟩:=hp
  exact⟨rs,h1,(Ch.own S rs [.slice p rs.length c]).loc w w' h h' h2⟩
theorem SH.toRowA{ln:Nat}(i:Nat)(h:SH w0 w L)(hi:L[i]?=V (Ch.own S ([]:List α) [.slice p ln c])):SH w0 w (L.set i (Ch.rowA w0 A S ([]:List α) p c)):=
 h.say (c':=Ch.rowA w0 A S ([]:List α) p c) hi (fun hp=>by
  obtain⟨p0,c0,he,h1,h2,h3⟩:=hp;simp only[List.cons.injEq,Value.slice.injEq,and_true] at he;obtain⟨rfl,_,rfl⟩:=he;refine⟨[],⟨rfl,fun i x r hx=>by simp at hx⟩,p,c,rfl,by simp,h2,?_⟩;rcases h3 with⟨rfl,_,rfl⟩|⟨b,cur,T,F,rfl,hb,hg,hcur,_,_,_⟩
  ·exact .inl ⟨rfl,rfl,rfl⟩
  ·exact .inr ⟨b,cur,T,fun _ _=>False,rfl,hb,hg,hcur,fun _ _ h=>h.elim,fun _ _ _ _ h=>h.elim,fun i x hx=>by simp at hx⟩) (fun _ h=>h) (fun _ h=>h.elim)
theorem SH.atA(h:SH w0 w L)(i:Nat)(hi:L[i]?=V (Ch.rowA w0 A S xs p c)){iv:Int}(hx:idx xs iv=V x) :
  ∃b o q cs,p=V ⟨b,o,U⟩/\q=o+iv.toNat*GoT.k α/\True/\GoT.R w0 A x cs/\CellsAt w b q cs:=by
 obtain⟨rs,hd,hp⟩:=(h.mem hi).1;obtain⟨g0,g1,g2⟩:=qa4 hx;have hlt:iv.toNat<rs.length:=by rw[hd.1];omega
 have hri:idx rs iv=V rs[iv.toNat]:=by
  unfold idx;rw[if_pos g0];exact jh hlt
 have h3:GoT.O w S rs [.slice p rs.length c]:=hp;obtain⟨b,o,q,cs,hpp,hq,_,hc,hcells⟩:=(qii (GoT.toR h3)).1.at hri;obtain rfl:cs=rs[iv.toNat].cs:=hc.1;exact⟨b,o,q,_,hpp,hq,trivial,hd.2 _ x _ g2 (jh hlt),hcells⟩
theorem RdA.all{rs:List (Raw α)}(h:RdA w0 A xs rs)(hb:Below w0.heap.size w0 w)(hA:∀b,A b->Fw.old w0 b):RAll w A xs rs:=
 RAll.of h.1.symm fun i x r hx hr=>GoT.loc (h.2 i x r hx hr) fun b hb'=>hb.block b (hA b hb')
theorem SH.rowAR(hA:∀b,A b->Fw.old w0 b)(i:Nat)(h:SH w0 w L)(hi:L[i]?=V (Ch.rowA w0 A S xs p c)):SlR w (reg A w0 w) xs p c:=by
 obtain⟨rs,hd,hp⟩:=(h.mem hi).1;have h3:GoT.O w S rs [.slice p rs.length c]:=hp;have hr:=(hd.all h.below hA).mono (B:=reg A w0 w) (fun b hb=>.inl hb);have:=rawsR (A:=reg A w0 w) (GoT.mono (GoT.toR h3) fun b hb=>.inr ((h.mem hi).2 b hb)) hr;exact(qii this).1
theorem qBW(hT:TabOk P T){all:Array Oper}{l:List Oper}{d t ty el:Nat}{ps:String}{af:Array Edge}{a b:Operand}{z:List α}{ln ln':Nat}{te te':TE}{zv:Value}
  (h:SH w0 w (Ch.rowA w0 A S1 ys p' c'::Ch.rowA w0 A S xs p c::L)) (hl:ln=xs.length) (hl':ln'=ys.length) (hx:opv e a=V (.slice p ln c)) (hy:opv e b=V (.slice p' ln' c'))
  (hte:T.get t=V te) (hk:te.kind=.slice el) (hel:T.get el=V te') (hz:te'.zero=V zv) (hzs:(cellsL zv).length=te'.size) (hsz:te'.size=GoT.k α)
  (hb:Nat.ble te'.bytes 65536=true) (hbig:xs.length+ys.length<=big) (hz':xs++ys=z) (hn:Nat.blt d n=true)
  (hkk:∀w' p2 c2 S2,SH w0 w' (Ch.rowA w0 A S2 z p2 c2::L)->Run P n Q (.ops all l::k) ((d,.slice p2 z.length c2)::e) w') :
  Run P n Q (.ops all (⟨V d,.call ⟨.builtin .append,#[a,b],#[t,t]⟩,ty,ps,af,U⟩::l)::k) e w:=by
 subst hz' hl hl';obtain⟨rs,hd,hp⟩:=(h.mem (i:=1) Z).1;obtain⟨qs,hq,hp'⟩:=(h.mem (i:=0) Z).1;have h1:=h.say (i:=1) (c':=Ch.own S rs [.slice p rs.length c]) Z (fun _=>hp) (fun _ h=>h) (fun _ h=>h.elim);have h2:=h1.say (i:=0) (c':=Ch.own S1 qs [.slice p' qs.length c']) Z (fun _=>hp') (fun _ h=>h) (fun _ h=>h.elim);have hs:=(h2.sl 0 Z).1;refine qx1 hT (α:=Raw α) 1 h2 Z hs hq.1.symm (by rw[hd.1];exact hx) hy hte hk hel hz hzs hsz hb (by rw[hd.1,hq.1];exact hbig) hn (fun w' p2 c2 S2 h3=>?_);have h4:SH w0 w' (Ch.own S2 (rs++qs) [.slice p2 (rs.length+qs.length) c2]::L):=SH.tail h3;have h5:=h4.say (i:=0) (c':=Ch.rowA w0 A S2 (xs++ys) p2 c2) Z (fun hp=>⟨rs++qs,hd.app hq,by rw[jg];exact hp⟩) (fun _ h=>h) (fun _ h=>h.elim);have:=hkk w' p2 c2 S2 h5;rw[jg] at this;rw[hd.1,hq.1];exact this
theorem qxz(hT:TabOk P T){all:Array Oper}{l:List Oper}{d t ty el:Nat}{ps:String}{af:Array Edge}{a b:Operand}{z:List α}{ln ln':Nat}{te te':TE}{zv:Value}{lo hi:Int}
  (h:SH w0 w (Ch.rowA w0 A S xs p c::Ch.rowA w0 A S1 Y p1 c1::L)) (hs:subS Y lo hi=V ys) (hp1:subP (GoT.k α) p1 c1 lo.toNat=p') (hc1:c1-lo.toNat=c') (hl:ln=xs.length) (hl':ln'=ys.length) (hx:opv e a=V (.slice p ln c)) (hy:opv e b=V (.slice p' ln' c'))
  (hte:T.get t=V te) (hk:te.kind=.slice el) (hel:T.get el=V te') (hz:te'.zero=V zv) (hzs:(cellsL zv).length=te'.size) (hsz:te'.size=GoT.k α)
  (hb:Nat.ble te'.bytes 65536=true) (hbig:xs.length+ys.length<=big) (hz':xs++ys=z) (hn:Nat.blt d n=true)
  (hkk:∀w' p2 c2 S2,SH w0 w' (Ch.rowA w0 A S2 z p2 c2::Ch.rowA w0 A S1 Y p1 c1::L)->Run P n Q (.ops all l::k) ((d,.slice p2 z.length c2)::e) w') :
  Run P n Q (.ops all (⟨V d,.call ⟨.builtin .append,#[a,b],#[t,t]⟩,ty,ps,af,U⟩::l)::k) e w:=by
 subst hz' hl hl';obtain⟨rs,hd,hp⟩:=(h.mem (i:=0) Z).1;obtain⟨Rs,hD,hP⟩:=(h.mem (i:=1) Z).1;obtain⟨qs,hq1,hq⟩:=hD.sub hs;have h1:=h.say (i:=0) (c':=Ch.own S rs [.slice p rs.length c]) Z (fun _=>hp) (fun _ h=>h) (fun _ h=>h.elim);have h2:=h1.say (i:=1) (c':=Ch.own S1 Rs [.slice p1 Rs.length c1]) Z (fun _=>hP) (fun _ h=>h) (fun _ h=>h.elim);have hss:SlR w (Fw.old w) qs p' c':=qsG (α:=Raw α) (h2.sl 1 Z).1 hq1 hp1 hc1;refine qx1 hT (α:=Raw α) 0 h2 Z hss hq.1.symm (by rw[hd.1];exact hx) hy hte hk hel hz hzs hsz hb (by rw[hd.1,hq.1];exact hbig) hn (fun w' p2 c2 S2 h3=>?_);have h4:SH w0 w' (Ch.own S2 (rs++qs) [.slice p2 (rs.length+qs.length) c2]::Ch.own S1 Rs [.slice p1 Rs.length c1]::L):=h3;have h5:=h4.say (i:=0) (c':=Ch.rowA w0 A S2 (xs++ys) p2 c2) Z (fun hp=>⟨rs++qs,hd.app hq,by rw[jg];exact hp⟩) (fun _ h=>h) (fun _ h=>h.elim);have h6:=h5.say (i:=1) (c':=Ch.rowA w0 A S1 Y p1 c1) Z (fun hp=>⟨Rs,hD,hp⟩) (fun _ h=>h) (fun _ h=>h.elim);have:=hkk w' p2 c2 S2 h6;rw[jg] at this;rw[hd.1,hq.1];exact this
theorem qyF(hT:TabOk P T){A:Nat->Prop}{all:Array Oper}{l:List Oper}{d t ty el len:Nat}{ps:String}{af:Array Edge}{parts:Array (Nat×Operand)}{te te':TE}{zv:Value}(os:List Operand)(vs:List Value)(ys:List α)
  (h:SH w0 w L) (hparts:parts.toList=(os.zipIdx 0).map fun x=>(x.2,x.1)) (hvs:opvs e os=V vs) (hlen:len=vs.length)
  (hte:T.get t=V te) (hk:te.kind=.slice el) (hel:T.get el=V te') (hz:te'.zero=V zv) (hsz:te'.size=GoT.k α) (hsmall:Nat.ble (vs.length*te'.size) 16777216=true)
  (hc:Cells2 w0 A ys (vs.map cellsL)) (hn:Nat.blt d n=true)
  (hkk:∀w' p S,SH w0 w' (Ch.rowA w0 A S ys p len::L)->Run P n Q (.ops all l::k) ((d,.slice p len len)::e) w') :
  Run P n Q (.ops all (⟨V d,.buildSlice t len parts,ty,ps,af,U⟩::l)::k) e w:=by
 have hlenys:∀{ys:List α} {cs:List (List Value)},Cells2 w0 A ys cs->ys.length=cs.length/\∀c∈cs,c.length=GoT.k α:=by
  intro ys
  induction ys with
  |nil=>intro cs hc;cases cs with
   |nil=>simp
   |cons=>exact hc.elim
  |cons y ys ih=>
   intro cs hc;cases cs with
   |nil=>exact hc.elim
   |cons c cs=>
    obtain⟨h1,h2⟩:=hc;have:=ih h2;refine⟨by simp[this.1],fun d hd=>?_⟩;rcases List.mem_cons.1 hd with rfl|hd
    ·exact GoT.len h1
    ·exact this.2 d hd
 obtain⟨hl1,hl2⟩:=hlenys hc;have hcs:∀v∈vs,(cellsL v).length=te'.size:=fun v hv=>by rw[hsz];exact hl2 _ (List.mem_map.2 ⟨v,hv,rfl⟩)
 have hr:=qnt hT vs hte hk hel hz (ju hsmall) hcs w;subst hlen;obtain⟨hfl,hfe⟩:=hc.get;have hl3:ys.length=vs.length:=by simpa using hl1
 refine qn3 (v:=.slice (V ⟨w.heap.size,0,U⟩) vs.length vs.length) (w':=w.alloc (.cells (vs.map cellsL).flatten.toArray el)) Z Z hn (fun a ha=>?_)
  (hkk _ _ (fun b=>b=w.heap.size) (h.add ((Below.refl _ _).alloc (je _) _) ?_ ?_ (fun _ hd=>hd.elim)))
 ·have hev:parts.map (fun(x:Nat×Operand)=>(x.1,a.eval x.2))=((vs.zipIdx 0).map fun x=>(x.2,x.1)).toArray:=by
   apply Array.ext';rw[Array.toList_map,hparts];have:=qi4 ha hvs;subst this;rw[List.zipIdx_map,Jp,Jp]
   rfl
  simp only[execOp,hev,jk,hr,ji,jm]
 ·have hsm:vs.length<=maxLen:=by
   have h1:=ju hsmall;have h2:vs.length*1<=vs.length*te'.size:=Nat.mul_le_mul_left _ (by rw[hsz];exact GoT.kpos);simp[maxLen];omega
  obtain⟨rs,hl,hr⟩:=qx3 (p:=fun i x (r:Raw α)=>GoT.R w0 A x r.cs/\∀j v,r.cs[j]?=V v->(vs.map cellsL).flatten[i*GoT.k α+j]?=V v) ys (fun i x hi=>by
   obtain⟨cs,h1,h2⟩:=hfe i x hi;exact⟨⟨cs⟩,h1,h2⟩)
  refine⟨rs,⟨hl,fun i x r hi hr'=>(hr i x r hi hr').1⟩,V ⟨w.heap.size,0,U⟩,vs.length,by rw[hl,hl3],by rw[hl,hl3];exact je _,hsm,.inr ⟨w.heap.size,_,el,fun _ _=>False,rfl,rfl,heap_alloc_new w _,by rw[jR,hfl,hl3];rfl,fun _ _ h=>h.elim,fun _ _ _ _ h=>h.elim,fun i r hi=>?_⟩⟩;have hi':i<ys.length:=by have:=(List.getElem?_eq_some_iff.1 hi).1;omega
  obtain⟨q1,q2⟩:=hr i ys[i] r (jh hi') hi;exact⟨r.cs,⟨rfl,GoT.len q1,GoT.one q1⟩,fun j v hj=>by have:=q2 j v hj;rw[jJ];exact this⟩
 ·intro b hb;have:b=w.heap.size:=hb;subst this;exact⟨je _,by simp⟩
end
section
variable{P:Program}{T:Tab}{n:Nat}{Q:Exit->Act->World->Prop}{k:List It}{e:Env}{w0 w w00:World}{L:List Ch}{α β:Type}[GoT α][GoT β]{A0 B S:Nat->Prop}{x:α}{y:β}{cs ds:List Value}{ys:List β}{p:Option Addr}{c:Nat}
end
end Go.Fw


namespace Go.Fw
open Go Go.Sort
open Go.RowKit (Below)
section
variable{P:Program}{T:Tab}{n:Nat}{Q:Exit->Act->World->Prop}{k:List It}{e:Env}{w0 w w':World}{L L':List Ch}
def ReversesAt(P:Program)(f:FuncId):Prop:=
 (∀(blk off cap:Nat) (zs:List Int) (w:World),Holds encI w blk off zs.toArray->zs.length<=9223372036854775807 ->
  Calls P f #[.slice (V ⟨blk,off,U⟩) zs.length cap] w fun e w'=>e=.returned (.tuple #[])/\∃n,w'=putRow encI (Go.Sort.ahead w n) blk off zs.reverse.toArray) /\
 ∀(p:Option Addr) (cap:Nat) (w:World),Calls P f #[.slice p 0 cap] w fun e w'=>e=.returned (.tuple #[])/\w'=w
def revS(xs:List Int):Option (List Int):=V xs.reverse
theorem qCm{f:FuncId}(hs:ReversesAt P f){S:Nat->Prop}{xs y:List Int}{p:Option Addr}{ln c:Nat}(i:Nat)(h:SH w0 w L)(hi:L[i]?=V (Ch.own S xs [.slice p ln c]))(hy:revS xs=V y) :
  RetU P f [.slice p ln c] w fun w'=>SH w0 w' (L.set i (Ch.own S y [.slice p ln c])):=by
 obtain rfl:xs.reverse=y:=Option.some.inj hy;cases p with
 |none=>
  obtain⟨rfl,rfl,rfl⟩:=qBt h hi;refine(hs.2 U 0 w).mono ?_;rintro e w' ⟨rfl,rfl⟩;refine⟨rfl,?_⟩;rw[List.reverse_nil,qtQ hi];exact h
 |some a=>
  obtain⟨b,o,sp⟩:=a;obtain rfl:=qz0 h hi;obtain⟨rfl,rfl,hc,hbig,hbs,hH⟩:=qyT h hi;refine(hs.1 b 0 c xs w hH hbig).mono ?_;rintro e w' ⟨rfl,nd,rfl⟩;refine⟨rfl,?_⟩;have:=qBB h hi xs.reverse.toArray (by simp) (m:=xs.length) (by simp) nd #[];rw[grow_empty,List.toList_toArray,show xs.length=xs.reverse.length by simp,jC,List.length_reverse] at this;exact this
section
variable{α:Type}[GoT α]
def SortFAt(P:Program)(f g:FuncId)(kk:Nat):Prop:=
 (∀(enc:Nat->List Value) (_:∀x,(enc x).length=kk) (_:∀x,∀v∈enc x,v.oneCell'=true) (cf:Nat->Nat->Int) (_:SWO fun x y=>decide (cf x y<0)) (cb:Array Value) (blk off cap:Nat) (d:Array Nat) (w:World),
  (∀(m:Nat) (os:Array Obj) (dk:Array Nat),dk.size=d.size->∀x y:Nat,Calls P g (#[.agg (enc x).toArray,.agg (enc y).toArray]++cb) (grow (putRow id (Go.Sort.ahead w m) blk off (flatK enc kk dk)) os) fun e w'=>
   e=.returned (.int .i64 (cf x y))/\∃q os',w'=grow ((grow (putRow id (Go.Sort.ahead w m) blk off (flatK enc kk dk)) os).drewN q) os') ->
  Holds id w blk off (flatK enc kk d)->blk<w.heap.size->d.size<4611686018427387904 ->
  Calls P f #[.slice (V ⟨blk,off,U⟩) d.size cap,.func (.func g) #[] cb] w fun e w'=>e=.returned (.tuple #[])/\∃d' n os,PermIn 0 d.size d d'/\SortedIn (fun x y=>decide (cf x y<0)) 0 d.size d'/\w'=grow (putRow id (Go.Sort.ahead w n) blk off (flatK enc kk d')) os) /\
 ∀(p:Option Addr) (cap:Nat) (fv:Value) (w:World),Calls P f #[.slice p 0 cap,fv] w fun e w'=>e=.returned (.tuple #[])/\w'=w
theorem qzb(hb:Below w.heap.size w w')(hd:w.drawn<=w'.drawn):∃q os',w'=grow (w.drewN q) os':=by
 obtain⟨p,rfl⟩:=regrown_of_below hb;have hd':w.drawn<=p.d:=hd;refine⟨p.d-w.drawn,p.os,?_⟩;have:redrawn w p.d=w.drewN (p.d-w.drawn):=by
  show { w with drawn:=p.d }={ w with drawn:=w.drawn+(p.d-w.drawn) };rw[Nat.add_sub_cancel' hd']
 rw[this]
theorem qqc{b:Nat}{d:Array Value}{m:Nat}{os:Array Obj}{a:Nat}(ha:a<w.heap.size)(hne:a≠b):(grow (putRow id (Go.Sort.ahead w m) b 0 d) os).heap[a]?=w.heap[a]?:=by
 have hheap:(grow (putRow id (Go.Sort.ahead w m) b 0 d) os).heap=w.heap.modify b (onCells (putCells id 0 d))++os:=rfl;rw[hheap,jE (by rw[Array.size_modify];exact ha),Array.getElem?_modify,if_neg (fun h=>hne h.symm)]
def leF(cmp:α->α->Int)(x y:α):Bool:=!decide (cmp y x<0)
theorem qAX{f g:FuncId}(hs:SortFAt P f g (GoT.k α))(hag:GoT.agg α=true){S:Nat->Prop}{xs:List α}{p:Option Addr}{ln c:Nat}(i:Nat)(h:SH w0 w L)(hi:L[i]?=V (Ch.own S xs [.slice p ln c]))(cb:List Value)(cmp:α->α->Int)
  (hO:SWO fun x y=>decide (cmp x y<0)) (hT:∀x y,x∈xs->y∈xs->¬ cmp x y<0->¬ cmp y x<0->x=y) (hl:xs.length<=2147483648)
  (hcap:∀w1,w.heap.size<=w1.heap.size->(∀b,b<w.heap.size->¬ S b->w1.heap[b]?=w.heap[b]?)->∀x y csx csy,x∈GoT.zero::xs->y∈GoT.zero::xs->GoT.R w1 (Fw.old w1) x csx->GoT.R w1 (Fw.old w1) y csy ->
   Calls P g ([GoT.v α csx,GoT.v α csy]++cb).toArray w1 fun e w'=>e=.returned (.int .i64 (cmp x y))/\Below w1.heap.size w1 w'/\w1.drawn<=w'.drawn) :
  RetU P f [.slice p ln c,.func (.func g) #[] cb.toArray] w fun w'=>SH w0 w' (L.set i (Ch.own S (xs.mergeSort (leF cmp)) [.slice p ln c])):=by
 obtain⟨hp,hS⟩:=h.mem hi;obtain⟨p0,c0,he,h1,h2,h3⟩:=hp;simp only[List.cons.injEq,Value.slice.injEq,and_true] at he;obtain⟨rfl,rfl,rfl⟩:=he;rcases h3 with⟨rfl,rfl,rfl⟩|⟨b,cur,t,F,rfl,hSb,hg,hc,hF,hdj,hx⟩
 ·refine(hs.2 U 0 _ w).mono ?_;rintro e w' ⟨rfl,rfl⟩;refine⟨rfl,?_⟩;have e1:([]:List α).mergeSort (leF cmp)=[]:=by simp
  rw[e1,qtQ hi];exact h
 ·obtain⟨rs,hrl,hr⟩:=qx3 (p:=fun i x (r:List Value)=>GoT.O w (F i) x r/\∀j v,r[j]?=V v->cur[i*GoT.k α+j]?=V v) xs hx;have hbs:b<w.heap.size:=(hS b hSb).2;have hkpos:0<GoT.k α:=GoT.kpos
  let enc:Nat->List Value:=fun n=>(rs[n]?).getD (GoT.zc α)
  let xf:Nat->α:=fun n=>(xs[n]?).getD GoT.zero
  have hzc:(GoT.zc α).length=GoT.k α:=GoT.len (GoT.toR (GoT.zO w (fun _=>False) (α:=α)));have hO1:∀n,n<xs.length->∃hn:n<xs.length,∃hn':n<rs.length,enc n=rs[n]/\xf n=xs[n]/\GoT.O w (F n) xs[n] rs[n]/\∀j v,rs[n][j]?=V v->cur[n*GoT.k α+j]?=V v:=fun n hn=>by
   have hn':n<rs.length:=by omega
   obtain⟨q1,q2⟩:=hr n xs[n] rs[n] (jh hn) (jh hn');exact⟨hn,hn',by simp[enc,hn'],by simp[xf,hn],q1,q2⟩
  have hencz:∀n,¬ n<xs.length->enc n=GoT.zc α/\xf n=GoT.zero:=fun n hn=>by
   have e1:rs[n]?=U:=List.getElem?_eq_none (by omega);have e2:xs[n]?=U:=List.getElem?_eq_none (by omega);exact⟨by simp[enc,e1],by simp[xf,e2]⟩
  have hk:∀n,(enc n).length=GoT.k α:=fun n=>by
   by_cases hn:n<xs.length
   ·obtain⟨_,_,e1,_,hO',_⟩:=hO1 n hn;rw[e1];exact GoT.len (GoT.toR hO')
   ·rw[(hencz n hn).1,hzc]
  have hone:∀n,∀v∈enc n,v.oneCell'=true:=fun n=>by
   by_cases hn:n<xs.length
   ·obtain⟨_,_,e1,_,hO',_⟩:=hO1 n hn;rw[e1];exact GoT.one (GoT.toR hO')
   ·rw[(hencz n hn).1];exact GoT.one (GoT.toR (GoT.zO w (fun _=>False) (α:=α)))
  have hmem:∀n,xf n∈GoT.zero::xs:=fun n=>by
   by_cases hn:n<xs.length
   ·obtain⟨_,_,_,e2,_⟩:=hO1 n hn;rw[e2];exact jo _ (jt hn)
   ·rw[(hencz n hn).2];exact jx ..
  have hswo:SWO fun x y=>decide (cmp (xf x) (xf y)<0):=⟨fun x=>hO.irrefl (xf x),fun x y z=>hO.trans (xf x) (xf y) (xf z),fun x y z=>hO.ntrans (xf x) (xf y) (xf z)⟩
  let d:Array Nat:=Array.range xs.length
  have hds:d.size=xs.length:=by simp[d]
  have hflat:∀(dk:Array Nat) (q j:Nat),q<dk.size->j<GoT.k α->(flatK enc (GoT.k α) dk)[q*GoT.k α+j]?=(enc dk[q]!)[j]?:=fun dk q j hq hj=>by
   have hlt:q*GoT.k α+j<dk.size*GoT.k α:=by
    have:(q+1)*GoT.k α<=dk.size*GoT.k α:=jw _ hq;rw[Nat.add_mul,Nat.one_mul] at this;omega
   have hdiv:(q*GoT.k α+j) / GoT.k α=q:=by
    rw[Nat.mul_comm,Nat.mul_add_div hkpos,Nat.div_eq_of_lt hj,Jj]
   have hmod:(q*GoT.k α+j) % GoT.k α=j:=by
    rw[Nat.mul_comm,Nat.mul_add_mod,Nat.mod_eq_of_lt hj]
   have:=get_flatK enc (GoT.k α) dk (q*GoT.k α+j) hlt;rw[hdiv,hmod] at this;have hj':j<(enc dk[q]!).length:=by rw[hk];exact hj
   have hsz:q*GoT.k α+j<(flatK enc (GoT.k α) dk).size:=by rw[size_flatK];exact hlt
   rw[jS hsz,jh hj',<-getElem!_pos (flatK enc (GoT.k α) dk) _ hsz,this,getElem!_pos (enc dk[q]!) j hj']
  have hcs:∀q j,q<xs.length->j<GoT.k α->cur[q*GoT.k α+j]?=(enc q)[j]?:=fun q j hq hj=>by
   obtain⟨_,hn',e1,_,_,hv⟩:=hO1 q hq;have hj':j<(rs[q]).length:=by rw[<-e1,hk];exact hj
   rw[e1,jh hj'];exact hv j _ (jh hj')
  have hH:Holds id w b 0 (flatK enc (GoT.k α) d):=fun t ht=>by
   rw[size_flatK,hds] at ht;have hq:t / GoT.k α<xs.length:=Nat.div_lt_of_lt_mul (by rw[Nat.mul_comm];exact ht);have hj:t % GoT.k α<GoT.k α:=Nat.mod_lt _ hkpos;have ht':t / GoT.k α*GoT.k α+t % GoT.k α=t:=by rw[Nat.mul_comm];exact Nat.div_add_mod t _
   have hd1:d[t / GoT.k α]! = t / GoT.k α:=by
    rw[getElem!_pos d _ (by rw[hds];exact hq)];simp[d]
   have e1:=hcs _ _ hq hj;have e2:=hflat d _ _ (by rw[hds];exact hq) hj;rw[ht',hd1] at e2;rw[ht'] at e1;have hts:t<(flatK enc (GoT.k α) d).size:=by rw[size_flatK,hds];exact ht
   refine⟨?_,?_⟩
   ·simp only[World.cell?,hg,Option.isSome_none,jY,Bool.false_eq_true,if_false];rw[e1,<-e2,jS hts,getElem!_pos (flatK enc (GoT.k α) d) t hts]
    rfl
   ·simp only[World.frozen?,hg];simp
  have hcmp:∀(m:Nat) (os:Array Obj) (dk:Array Nat),dk.size=d.size->∀x y:Nat,Calls P g (#[.agg (enc x).toArray,.agg (enc y).toArray]++cb.toArray) (grow (putRow id (Go.Sort.ahead w m) b 0 (flatK enc (GoT.k α) dk)) os) fun e w'=>
    e=.returned (.int .i64 (cmp (xf x) (xf y)))/\∃q os',w'=grow ((grow (putRow id (Go.Sort.ahead w m) b 0 (flatK enc (GoT.k α) dk)) os).drewN q) os':=by
   intro m os dk _ x y;have hsz:w.heap.size<=(grow (putRow id (Go.Sort.ahead w m) b 0 (flatK enc (GoT.k α) dk)) os).heap.size:=by
    show w.heap.size<=(w.heap.modify b _++os).size;simp
   have hRd:∀n,GoT.R (grow (putRow id (Go.Sort.ahead w m) b 0 (flatK enc (GoT.k α) dk)) os) (Fw.old (grow (putRow id (Go.Sort.ahead w m) b 0 (flatK enc (GoT.k α) dk)) os)) (xf n) (enc n):=fun n=>by
    by_cases hn:n<xs.length
    ·obtain⟨_,_,e1,e2,hO',_⟩:=hO1 n hn;rw[e1,e2];refine GoT.mono (GoT.loc (GoT.toR hO') fun a ha=>qqc ((hS a (hF n a ha).1).2) (hF n a ha).2) fun a ha=>?_;exact jA ((hS a (hF n a ha).1).2) hsz
    ·rw[(hencz n hn).1,(hencz n hn).2];exact GoT.toR (GoT.zO _ _)
   have:=hcap _ hsz (fun a ha hna=>qqc ha (fun hab=>hna (hab ▸ hSb))) (xf x) (xf y) (enc x) (enc y) (hmem x) (hmem y) (hRd x) (hRd y);have ea:([GoT.v α (enc x),GoT.v α (enc y)]++cb).toArray=#[.agg (enc x).toArray,.agg (enc y).toArray]++cb.toArray:=by
    unfold GoT.v mkV;rw[hag];simp
   rw[ea] at this;refine this.mono ?_;rintro e w' ⟨rfl,hb',hd'⟩;exact⟨rfl,qzb hb' hd'⟩
  have hcall:=hs.1 enc hk hone (fun x y=>cmp (xf x) (xf y)) hswo cb.toArray b 0 c d w hcmp hH hbs (by rw[hds];omega);rw[hds] at hcall;refine hcall.mono ?_;rintro e w' ⟨rfl,d',nd,os,hperm,hsorted,rfl⟩;refine⟨rfl,?_⟩;obtain⟨hsz',_,hpm⟩:=hperm;have ed:d'.extract 0 xs.length=d':=by rw[<-hds,<-hsz'];exact Array.extract_size
  have ed0:d.extract 0 xs.length=d:=by rw[<-hds];exact Array.extract_size
  rw[ed,ed0] at hpm;have hdr:d.toList=List.range xs.length:=by simp[d]
  rw[hdr] at hpm;have hd'l:d'.toList.length=xs.length:=by rw[Array.length_toList,hsz',hds]
  have hnd:d'.toList.Nodup:=hpm.nodup_iff.2 List.nodup_range;have hin:∀q,q<xs.length->d'[q]!<xs.length/\d'.toList[q]?=V d'[q]!:=fun q hq=>by
   have hq':q<d'.size:=by rw[hsz',hds];exact hq
   have e1:d'.toList[q]?=V d'[q]!:=by rw[Array.getElem?_toList,jS hq',getElem!_pos d' q hq']
   have:d'[q]!∈List.range xs.length:=hpm.mem_iff.1 (jL e1);exact⟨List.mem_range.1 this,e1⟩
  have hxs:(List.range xs.length).map xf=xs:=by
   apply List.ext_getElem?;intro q;rw[List.getElem?_map];by_cases hq:q<xs.length
   ·rw[List.getElem?_range hq,jh hq];simp[xf,hq]
   ·rw[List.getElem?_eq_none (by simp;omega),List.getElem?_eq_none (by omega)];rfl
  have hres:d'.toList.map xf=xs.mergeSort (leF cmp):=by
   have hp2:(d'.toList.map xf).Perm (xs.mergeSort (leF cmp)):=by
    have:=hpm.map xf;rw[hxs] at this;exact this.trans (List.mergeSort_perm _ _).symm
   refine List.Perm.eq_of_pairwise (le:=fun x y=>leF cmp x y=true) ?_ ?_ ?_ hp2
   ·intro x y hx' hy' h1' h2';have mx:x∈xs:=(List.mergeSort_perm xs (leF cmp)).mem_iff.1 (hp2.mem_iff.1 hx');have my:y∈xs:=(List.mergeSort_perm xs (leF cmp)).mem_iff.1 hy';simp only[leF,jI,decide_eq_false_iff_not] at h1' h2';exact hT x y mx my h2' h1'
   ·rw[List.pairwise_iff_getElem];intro q r hq hr hqr;have hq':q<xs.length:=by rw[jq,hd'l] at hq;exact hq
    have hr':r<xs.length:=by rw[jq,hd'l] at hr;exact hr
    have hs':=hsorted q r (Nat.zero_le _) hqr hr';have e1:d'.toList[q]'(by rw[hd'l];exact hq')=d'[q]!:=Option.some.inj ((jh _).symm.trans (hin q hq').2);have e2:d'.toList[r]'(by rw[hd'l];exact hr')=d'[r]!:=Option.some.inj ((jh _).symm.trans (hin r hr').2);rw[List.getElem_map,List.getElem_map,e1,e2];simp only[leF,jI];exact hs'
   ·refine List.pairwise_mergeSort ?_ ?_ _
    ·intro a b' c' h1' h2';simp only[leF,jI] at h1' h2'⊢;exact hO.ntrans c' b' a h2' h1'
    ·intro a b';cases hh:decide (cmp b' a<0) with
     |false=>simp[leF,hh]
     |true=>
      have:decide (cmp a b'<0)=false:=by
       cases h2':decide (cmp a b'<0) with
       |false=>rfl
       |true=>
        have:=hO.trans a b' a h2' hh;rw[hO.irrefl a] at this;cases this
      simp[leF,this]
  have hheap:(grow (putRow id (Go.Sort.ahead w nd) b 0 (flatK enc (GoT.k α) d')) os).heap=w.heap.modify b (onCells (putCells id 0 (flatK enc (GoT.k α) d')))++os:=rfl;have hgb:(grow (putRow id (Go.Sort.ahead w nd) b 0 (flatK enc (GoT.k α) d')) os).heap[b]?=V (.cells (putCells id 0 (flatK enc (GoT.k α) d') cur) t (0,0)):=by
   rw[hheap,jE (by rw[Array.size_modify];exact hbs),Array.getElem?_modify,if_pos Z,hg];rfl
  have hml:(xs.mergeSort (leF cmp)).length=xs.length:=List.length_mergeSort _;refine h.upd hi Z Z Z ?_ (fun a ha hna=>qqc ha (fun hab=>hna (hab ▸ hSb))) ?_ (fun a ha=>.inl ha) (fun _ hd=>hd.elim)
  ·rw[hheap];simp
  ·rw[<-hres];refine⟨V ⟨b,0,U⟩,c,by rw[jq,hd'l],by rw[jq,hd'l];exact h1,h2,.inr ⟨b,_,t,fun q a=>q<xs.length/\F d'[q]! a,rfl,hSb,hgb,?_,fun q a ha=>hF _ a ha.2,?_,?_⟩⟩
   ·unfold putCells;rw[Array.size_mapIdx];exact hc
   ·rintro q r a hqr ⟨hq,ha⟩ ⟨hr,ha'⟩;refine hdj _ _ a (fun heq=>hqr ?_) ha ha';refine(List.getElem?_inj (by rw[hd'l];exact hq) hnd).1 ?_;rw[(hin q hq).2,(hin r hr).2,heq]
   ·intro q x hq;have hql:q<xs.length:=by
     have:=(List.getElem?_eq_some_iff.1 hq).1;rw[jq,hd'l] at this;exact this
    obtain⟨hlt,e1⟩:=hin q hql;rw[List.getElem?_map,e1] at hq;obtain rfl:xf d'[q]! = x:=by simpa using hq
    obtain⟨_,hn',e2,e3,hO',_⟩:=hO1 _ hlt;refine⟨enc d'[q]!,?_,fun j v hj=>?_⟩
    ·rw[e2,e3];exact GoT.monoO (GoT.locO hO' fun a ha=>qqc ((hS a (hF _ a ha).1).2) (hF _ a ha).2) fun a ha=>⟨hql,ha⟩
    ·have hjk:j<GoT.k α:=by
      have:=(List.getElem?_eq_some_iff.1 hj).1;rw[hk] at this;exact this
     have hqc:q*GoT.k α+j<cur.size:=by
      have:(q+1)*GoT.k α<=c*GoT.k α:=jw _ (by omega);rw[Nat.add_mul,Nat.one_mul] at this;omega
     have hqf:q*GoT.k α+j<(flatK enc (GoT.k α) d').size:=by
      rw[size_flatK,hsz',hds];have:(q+1)*GoT.k α<=xs.length*GoT.k α:=jw _ hql;rw[Nat.add_mul,Nat.one_mul] at this;omega
     have ef:=hflat d' q j (by rw[hsz',hds];exact hql) hjk;unfold putCells;rw[Array.getElem?_mapIdx,jS hqc];simp only[Option.map_some,Jq,Nat.zero_le,jY,true_and,if_pos hqf,Option.some.injEq];rw[hj,jS hqf] at ef;rw[getElem!_pos (flatK enc (GoT.k α) d') _ hqf];exact Option.some.inj ef
end
end
end Go.Fw


namespace Go.Fw
open Go
open Go.RowKit (Below)
section
variable{P:Program}{T:Tab}{n:Nat}{Q:Exit->Act->World->Prop}{k:List It}{e:Env}{w0 w w':World}{L:List Ch}
def RetX(P:Program)(f:FuncId)(vs:List Value)(w:World)(v:Value):Prop:=RetW P f vs w fun us w'=>us=[v]/\Below w.heap.size w w'/\w.drawn<=w'.drawn
theorem qhE{f:FuncId}{fn:Func}{c:Code}{vs:List Value}{v:Value}{m:Nat}(hf:P.funcs[f]?=V fn)(hb:fn.body=V c)(hm:fn.ntmps=m)(hn:Nat.ble vs.length m=true)
  (h:SH w w []->w.drawn<=w.drawn->Run P m (bodyPost P fn fun e w'=>∃us,e=.returned (tup us)/\(us=[v]/\Below w.heap.size w w'/\w.drawn<=w'.drawn)) [.code c] (argEnv 0 vs) w):RetX P f vs w v:=
 qvt hf hb hm hn (h (SH.start w) (je _))
theorem qhO{v:Value}(h:SH w0 w L)(hd:w0.drawn<=w.drawn)(hT:TabOk P T){fn:Func}(hr:ResOk T e w fn.results.toList [v]) :
  Run P n (bodyPost P fn fun e w'=>∃us,e=.returned (tup us)/\(us=[v]/\Below w0.heap.size w0 w'/\w0.drawn<=w'.drawn)) (.code .ret::k) e w:=
 qBV (J:=fun us w'=>us=[v]/\Below w0.heap.size w0 w'/\w0.drawn<=w'.drawn) hT [v] hr ⟨rfl,h.below,hd⟩
theorem qjL{v:Value}{all:Array Oper}{l:List Oper}{d ty:Nat}{ps:String}{af:Array Edge}{x:Operand}{args:Array Operand}{ats:Array TypeId}{f:FuncId}{fi ca:Array Value}{az vs:List Value}
  (h:SH w0 w L) (hd:w0.drawn<=w.drawn) (hcall:qep P f) (hc:RetX P f vs w v) (hx:opv e x=V (.func (.func f) fi ca)) (hargs:opvs e args.toList=V az) (hvs:fi.toList++az++ca.toList=vs) (hn:Nat.blt d n=true)
  (hk:∀w',SH w0 w' L->w0.drawn<=w'.drawn->Run P n Q (.ops all l::k) ((d,v)::e) w'):Run P n Q (.ops all (⟨V d,.call ⟨.value x,args,ats⟩,ty,ps,af,U⟩::l)::k) e w:=by
 refine qBv hcall hc hx hargs hvs hn ?_;rintro w' us ⟨rfl,hb,hd'⟩;exact hk w' (h.ext hb) (Jb hd hd')
theorem qve{all:Array Oper}{l:List Oper}{d t ty:Nat}{ps:String}{af:Array Edge}{x:Operand}{v:Value}(h:SH w0 w L)(hd:w0.drawn<=w.drawn)(hx:opv e x=V v)(hn:Nat.blt d n=true)
  (hk:∀w' b,SH w0 w' (Ch.box b (cellsL v) t::L)->w0.drawn<=w'.drawn->Run P n Q (.ops all l::k) ((d,.pointer (V ⟨b,0,U⟩))::e) w'):Run P n Q (.ops all (⟨V d,.box t x,ty,ps,af,U⟩::l)::k) e w:=by
 refine qn3 Z Z hn (fun a ha=>?_) (hk _ _ (h.alloc (cellsL v) t) hd);simp only[execOp,ha.eval hx,Instr.box,newVar,newRow,jk,run_newObj,ji,jm];rw[<-qdT]
 rfl
theorem qz5{id:Nat}{ops:List Oper}(st:List Nat)(C:World->Prop)(hm:P.follows .mixedOrders=true)(m:Nat)(hsz:ops.toArray.size=m)(listed:Array Bool)(hl:Array.replicate m false=listed)
  (h:∀w',Below w.heap.size w w'->w.drawn<=w'.drawn->RunA P n Q k ops.toArray st C m listed e w'):Run P n Q (.code (.region id ops.toArray true)::k) e w:=by
 subst hsz;subst hl;intro a ha;refine wp_region_any hm (qpS (st:=st) (C:=C) _ _ _ _ ?_);exact h { w with drawn:=w.drawn+1 } ⟨rfl,rfl,rfl,je _,fun _ _=>rfl⟩ (Nat.le_succ _) a ha
theorem qtV(hT:TabOk P T){α:Type}[GoT α][Flat α]{all:Array Oper}{l:List Oper}{d t ty el len:Nat}{ps:String}{af:Array Edge}{parts:Array (Nat×Operand)}{te te':TE}{zv:Value}(os:List Operand)(vs:List Value)(ys:List α)
  (h:SH w0 w L) (hd0:w0.drawn<=w.drawn) (hparts:parts.toList=(os.zipIdx 0).map fun x=>(x.2,x.1)) (hvs:opvs e os=V vs) (hlen:len=vs.length)
  (hte:T.get t=V te) (hk:te.kind=.slice el) (hel:T.get el=V te') (hz:te'.zero=V zv) (hsz:te'.size=GoT.k α) (hsmall:Nat.ble (vs.length*te'.size) 16777216=true)
  (hc:Cells2 w (Fw.old w) ys (vs.map cellsL)) (hn:Nat.blt d n=true)
  (hkk:∀w' p S,SH w0 w' (Ch.own S ys [.slice p len len]::L)->w0.drawn<=w'.drawn->Run P n Q (.ops all l::k) ((d,.slice p len len)::e) w') :
  Run P n Q (.ops all (⟨V d,.buildSlice t len parts,ty,ps,af,U⟩::l)::k) e w:=by
 have hlenys:∀{ys:List α} {cs:List (List Value)},Cells2 w (Fw.old w) ys cs->ys.length=cs.length/\∀c∈cs,c.length=GoT.k α:=by
  intro ys
  induction ys with
  |nil=>intro cs hc;cases cs with
   |nil=>simp
   |cons=>exact hc.elim
  |cons y ys ih=>
   intro cs hc;cases cs with
   |nil=>exact hc.elim
   |cons c cs=>
    obtain⟨h1,h2⟩:=hc;have:=ih h2;refine⟨by simp[this.1],fun d hd=>?_⟩;rcases List.mem_cons.1 hd with rfl|hd
    ·exact GoT.len h1
    ·exact this.2 d hd
 obtain⟨hl1,hl2⟩:=hlenys hc;have hcs:∀v∈vs,(cellsL v).length=te'.size:=fun v hv=>by rw[hsz];exact hl2 _ (List.mem_map.2 ⟨v,hv,rfl⟩)
 have hr:=qnt hT vs hte hk hel hz (ju hsmall) hcs w;subst hlen;obtain⟨hfl,hfe⟩:=hc.get;refine qn3 (v:=.slice (V ⟨w.heap.size,0,U⟩) vs.length vs.length) (w':=w.alloc (.cells (vs.map cellsL).flatten.toArray el)) Z Z hn (fun a ha=>?_)
  (hkk _ _ (fun b=>b=w.heap.size) (h.add ((Below.refl _ _).alloc (je _) _) ?_ ?_ (fun _ hd=>hd.elim)) hd0)
 ·have hev:parts.map (fun(x:Nat×Operand)=>(x.1,a.eval x.2))=((vs.zipIdx 0).map fun x=>(x.2,x.1)).toArray:=by
   apply Array.ext';rw[Array.toList_map,hparts];have:=qi4 ha hvs;subst this;rw[List.zipIdx_map,Jp,Jp]
   rfl
  simp only[execOp,hev,jk,hr,ji,jm]
 ·have hl3:ys.length=vs.length:=by simpa using hl1
  refine⟨V ⟨w.heap.size,0,U⟩,vs.length,by rw[hl3],?_⟩;have hsm:vs.length<=maxLen:=by
   have h1:=ju hsmall;have h2:vs.length*1<=vs.length*te'.size:=Nat.mul_le_mul_left _ (by rw[hsz];exact GoT.kpos);simp[maxLen];omega
  refine SlO.of_elems (w:=w) (S':=Fw.old w) (olds:=(vs.map cellsL).flatten) (by rw[hl3];exact je _) hsm Z (heap_alloc_new w _) ?_ ⟨hfl,hfe⟩ (fun r v hr'=>by simpa using hr');rw[jR,hfl,hl3]
 ·intro b hb;have:b=w.heap.size:=hb;subst this;exact⟨je _,by simp⟩
end
end Go.Fw


namespace Go.Fw
open Go Go.Proofs Go.Proofs.Tryz
open Go.RowKit (Below)
open Ch renaming own->oW,box->oX,grp->oG
open GoT renaming v->oV
open Go.Value renaming slice->oS
set_option maxRecDepth 100000
set_option maxHeartbeats 6400000
variable{n:Nat}{w:World}{S:Nat->Prop}{cs1 cs2 cs3 cs4 cs5 cs6 cs7 cs8 cs9:List Value}
structure qan where
 Bc:ByteArray
 Bx:Int
 Bu:Int
 Bt:Bool
instance gt_TPin:GoT qan:=isoT (pairT instStr (pairT instInt (pairT instInt instBool))) (fun x=>(x.Bc,x.Bx,x.Bu,x.Bt)) ⟨ByteArray.empty,0,0,false⟩ Z true (fun h=>by cases h)
instance fl_TPin:Flat qan:=qir (pairT instStr (pairT instInt (pairT instInt instBool))) (fun x:qan=>(x.Bc,x.Bx,x.Bu,x.Bt)) ⟨ByteArray.empty,0,0,false⟩ Z true (fun h=>by cases h) (qbq _ _ (inferInstanceAs (Flat ByteArray)) (qbq _ _ (inferInstanceAs (Flat Int)) (qbq _ _ (inferInstanceAs (Flat Int)) (inferInstanceAs (Flat Bool)))))
abbrev qrm(x:qan):List Value:=[.string x.Bc,vi x.Bx,vi x.Bu,.bool x.Bt]
theorem qa0{x:qan}{cs:List Value}(h:GoT.R w S x cs):cs=(qrm x):=by
 obtain⟨_,_,rfl,rfl,⟨_,_,rfl,rfl,⟨_,_,rfl,rfl,rfl⟩⟩⟩:=h;exact Z
theorem qew(x:qan):GoT.R w S x (qrm x):=have h:=pR (rT x.Bc) (pR (rI x.Bx) (pR (rI x.Bu) (rB x.Bt)));h
structure qv where
 Bo:(List Int)
 Bk:(List Int)
 Bj:(List Int)
instance gt_TTable:GoT qv:=isoT (pairT (@instList Int instInt) (pairT (@instList Int instInt) (@instList Int instInt))) (fun x=>(x.Bo,x.Bk,x.Bj)) ⟨[],[],[]⟩ Z true (fun h=>by cases h)
abbrev qhC(x:qv)(p0 p1 p2:Option Addr)(k0 k1 k2:Nat):List Value:=[oS p0 (x.Bo).length k0,oS p1 (x.Bk).length k1,oS p2 (x.Bj).length k2]
theorem qaJ{x:qv}{cs:List Value}(h:GoT.R w S x cs):∃d a f b g c,cs=(qhC x d f g a b c)/\SlR w S x.Bo d a/\SlR w S x.Bk f b/\SlR w S x.Bj g c:=by
 obtain⟨_,_,rfl,⟨d,a,rfl,i⟩,⟨_,_,rfl,⟨f,b,rfl,k⟩,⟨g,c,rfl,s2⟩⟩⟩:=h;exact⟨d,a,f,b,g,c,rfl,i,k,s2⟩
theorem qfZ(x:qv){d f g:Option Addr}{a b c:Nat}(i:SlR w S x.Bo d a)(k:SlR w S x.Bk f b)(s2:SlR w S x.Bj g c):GoT.R w S x (qhC x d f g a b c):=have h:=pR (rS i) (pR (rS k) (rS s2));h
theorem quT{w0:World}{L:List Ch}{x:qv}{l n o:Option Addr}{g a i d k f:Nat}(h:SH w0 w (oW S x [oS l g a,oS n i d,oS o k f]::L)):∃p S1 S2,SH w0 w (oW S2 x.Bj [oS o k f]::oW S1 x.Bk [oS n i d]::oW p x.Bo [oS l g a]::L):=by
 obtain⟨y,v⟩:=h.headV;replace v:GoT.O w S x _:=v;obtain⟨A0,B0,_,_,A,r,v,a0,b0⟩:=v;obtain⟨q,m,rfl,t⟩:=r;cases A;replace y:=y.push (c:=oW A0 x.Bo [_]) (S2:=B0) ⟨_,_,rfl,t⟩ (fun _ z=>z.elim) a0 b0;obtain⟨A1,B1,_,_,A,s,v,a1,b1⟩:=v;obtain⟨q,m,rfl,u⟩:=s;cases A;replace y:=y.push (c:=oW A1 x.Bk [_]) (S2:=B1) ⟨_,_,rfl,u⟩ (fun _ z=>z.elim) a1 b1;obtain⟨q,m,A,s2⟩:=v;cases A;replace y:=y.push (c:=oW B1 x.Bj [_]) (S2:=(fun _=>False)) ⟨_,_,rfl,s2⟩ (fun _ z=>z.elim) (fun b B=>⟨B,fun h=>h⟩) (fun _ h=>h.elim);exact⟨A0,A1,B1,y.sh⟩
theorem qug{w0:World}{L:List Ch}(x:qv){I0 I1 I2:List Nat}{a b c:List Value}(h:SH w0 w L)(d:PO w L I0 x.Bo a)(f:PO w L I1 x.Bk b)(g:PO w L I2 x.Bj c)(b0:apartB I0 (I1++I2)=true)(b1:apartB I1 I2=true):PO w L (I0++(I1++I2)) x (a++(b++c)):=
 (qbY h d (qbY h f g b1) b0)
structure qI where
 Bi:Int
 Bl:Int
 To:Int
 Br:Int
 Bp:(List qv)
 Bf:(List qv)
instance gt_TArc:GoT qI:=isoT (pairT instInt (pairT instInt (pairT instInt (pairT instInt (pairT (@instList qv gt_TTable) (@instList qv gt_TTable)))))) (fun x=>(x.Bi,x.Bl,x.To,x.Br,x.Bp,x.Bf)) ⟨0,0,0,0,[],[]⟩ Z true (fun h=>by cases h)
abbrev qhv(x:qI)(p0 p1:Option Addr)(k0 k1:Nat):List Value:=[vi x.Bi,vi x.Bl,vi x.To,vi x.Br,oS p0 (x.Bp).length k0,oS p1 (x.Bf).length k1]
theorem qaj{x:qI}{cs:List Value}(h:GoT.R w S x cs):∃c a d b,cs=(qhv x c d a b)/\SlR w S x.Bp c a/\SlR w S x.Bf d b:=by
 obtain⟨_,_,rfl,rfl,⟨_,_,rfl,rfl,⟨_,_,rfl,rfl,⟨_,_,rfl,rfl,⟨_,_,rfl,⟨c,a,rfl,f⟩,⟨d,b,rfl,g⟩⟩⟩⟩⟩⟩:=h;exact⟨c,a,d,b,rfl,f,g⟩
theorem qgt(x:qI){c d:Option Addr}{a b:Nat}(f:SlR w S x.Bp c a)(g:SlR w S x.Bf d b):GoT.R w S x (qhv x c d a b):=have h:=pR (rI x.Bi) (pR (rI x.Bl) (pR (rI x.To) (pR (rI x.Br) (pR (rS f) (rS g)))));h
theorem qwC{w0:World}{L:List Ch}{x:qI}{i k:Option Addr}{f a g d:Nat}(h:SH w0 w (oW S x [vi x.Bi,vi x.Bl,vi x.To,vi x.Br,oS i f a,oS k g d]::L)):∃l S1,SH w0 w (oW S1 x.Bf [oS k g d]::oW l x.Bp [oS i f a]::L):=by
 obtain⟨A,z⟩:=h.headV;replace z:GoT.O w S x _:=z;obtain⟨_,_,_,_,B,p,z,_,b0⟩:=z;obtain rfl:=p;cases B;replace A:=A.less b0;obtain⟨_,_,_,_,B,r,z,_,b1⟩:=z;obtain rfl:=r;cases B;replace A:=A.less b1;obtain⟨_,_,_,_,B,s,z,_,b2⟩:=z;obtain rfl:=s;cases B;replace A:=A.less b2;obtain⟨_,_,_,_,B,t,z,_,b3⟩:=z;obtain rfl:=t;cases B;replace A:=A.less b3;obtain⟨A4,B4,_,_,B,u,z,n,o⟩:=z;obtain⟨q,m,rfl,v⟩:=u;cases B;replace A:=A.push (c:=oW A4 x.Bp [_]) (S2:=B4) ⟨_,_,rfl,v⟩ (fun _ C=>C.elim) n o;obtain⟨q,m,B,y⟩:=z;cases B;replace A:=A.push (c:=oW B4 x.Bf [_]) (S2:=(fun _=>False)) ⟨_,_,rfl,y⟩ (fun _ C=>C.elim) (fun b D=>⟨D,fun h=>h⟩) (fun _ h=>h.elim);exact⟨A4,B4,A.sh⟩
theorem qxV{w0:World}{L:List Ch}(x:qI){I0 I1 I2 I3 I4 I5:List Nat}{a b c d f g:List Value}(h:SH w0 w L)(k:PO w L I0 x.Bi a)(l:PO w L I1 x.Bl b)(m:PO w L I2 x.To c)(n:PO w L I3 x.Br d)(o:PO w L I4 x.Bp f)(p:PO w L I5 x.Bf g)(b0:apartB I0 (I1++(I2++(I3++(I4++I5))))=true)(b1:apartB I1 (I2++(I3++(I4++I5)))=true)(b2:apartB I2 (I3++(I4++I5))=true)(b3:apartB I3 (I4++I5)=true)(i:apartB I4 I5=true):PO w L (I0++(I1++(I2++(I3++(I4++I5))))) x (a++(b++(c++(d++(f++g))))):=
 (qbY h k (qbY h l (qbY h m (qbY h n (qbY h o p i) b3) b2) b1) b0)
structure qB where
 Bc:ByteArray
 Bi:Int
 Bg:(List qan)
 Ba:(List qI)
 Bq:(List Int)
 Cc:Int
 Bw:Int
instance gt_TCell:GoT qB:=isoT (pairT instStr (pairT instInt (pairT (@instList qan gt_TPin) (pairT (@instList qI gt_TArc) (pairT (@instList Int instInt) (pairT instInt instInt)))))) (fun x=>(x.Bc,x.Bi,x.Bg,x.Ba,x.Bq,x.Cc,x.Bw)) ⟨ByteArray.empty,0,[],[],[],0,0⟩ Z true (fun h=>by cases h)
abbrev qeF(x:qB)(p0 p1 p2:Option Addr)(k0 k1 k2:Nat):List Value:=[.string x.Bc,vi x.Bi,oS p0 (x.Bg).length k0,oS p1 (x.Ba).length k1,oS p2 (x.Bq).length k2,vi x.Cc,vi x.Bw]
theorem qag{x:qB}{cs:List Value}(h:GoT.R w S x cs):∃d a f b g c,cs=(qeF x d f g a b c)/\SlR w S x.Bg d a/\SlR w S x.Ba f b/\SlR w S x.Bq g c:=by
 obtain⟨_,_,rfl,rfl,⟨_,_,rfl,rfl,⟨_,_,rfl,⟨d,a,rfl,i⟩,⟨_,_,rfl,⟨f,b,rfl,k⟩,⟨_,_,rfl,⟨g,c,rfl,s2⟩,⟨_,_,rfl,rfl,rfl⟩⟩⟩⟩⟩⟩:=h;exact⟨d,a,f,b,g,c,rfl,i,k,s2⟩
theorem qlu(x:qB){d f g:Option Addr}{a b c:Nat}(i:SlR w S x.Bg d a)(k:SlR w S x.Ba f b)(s2:SlR w S x.Bq g c):GoT.R w S x (qeF x d f g a b c):=have h:=pR (rT x.Bc) (pR (rI x.Bi) (pR (rS i) (pR (rS k) (pR (rS s2) (pR (rI x.Cc) (rI x.Bw))))));h
theorem qvF{w0:World}{L:List Ch}{x:qB}{k l n:Option Addr}{f a g b i d:Nat}(h:SH w0 w (oW S x [.string x.Bc,vi x.Bi,oS k f a,oS l g b,oS n i d,vi x.Cc,vi x.Bw]::L)):∃o S1 S2,SH w0 w (oW S2 x.Bq [oS n i d]::oW S1 x.Ba [oS l g b]::oW o x.Bg [oS k f a]::L):=by
 obtain⟨H,F⟩:=h.headV;replace F:GoT.O w S x _:=F;obtain⟨_,_,_,_,I,u,F,_,b0⟩:=F;obtain rfl:=u;cases I;replace H:=H.less b0;obtain⟨_,_,_,_,I,v,F,_,b1⟩:=F;obtain rfl:=v;cases I;replace H:=H.less b1;obtain⟨A2,B2,_,_,I,y,F,a2,b2⟩:=F;obtain⟨q,m,rfl,C⟩:=y;cases I;replace H:=H.push (c:=oW A2 x.Bg [_]) (S2:=B2) ⟨_,_,rfl,C⟩ (fun _ J=>J.elim) a2 b2;obtain⟨A3,B3,_,_,I,z,F,p,b3⟩:=F;obtain⟨q,m,rfl,D⟩:=z;cases I;replace H:=H.push (c:=oW A3 x.Ba [_]) (S2:=B3) ⟨_,_,rfl,D⟩ (fun _ J=>J.elim) p b3;obtain⟨A4,B4,_,_,I,A,F,r,s⟩:=F;obtain⟨q,m,rfl,s2⟩:=A;cases I;replace H:=H.push (c:=oW A4 x.Bq [_]) (S2:=B4) ⟨_,_,rfl,s2⟩ (fun _ J=>J.elim) r s;obtain⟨_,_,_,_,I,B,F,_,t⟩:=F;obtain rfl:=B;cases I;replace H:=H.less t;exact⟨A2,A3,A4,H.sh⟩
theorem qvD{w0:World}{L:List Ch}(x:qB){I0 I1 I2 I3 I4 I5 I6:List Nat}{a b c d f g i:List Value}(h:SH w0 w L)(m:PO w L I0 x.Bc a)(n:PO w L I1 x.Bi b)(o:PO w L I2 x.Bg c)(p:PO w L I3 x.Ba d)(r:PO w L I4 x.Bq f)(s:PO w L I5 x.Cc g)(t:PO w L I6 x.Bw i)(b0:apartB I0 (I1++(I2++(I3++(I4++(I5++I6)))))=true)(b1:apartB I1 (I2++(I3++(I4++(I5++I6))))=true)(b2:apartB I2 (I3++(I4++(I5++I6)))=true)(b3:apartB I3 (I4++(I5++I6))=true)(k:apartB I4 (I5++I6)=true)(l:apartB I5 I6=true):PO w L (I0++(I1++(I2++(I3++(I4++(I5++I6)))))) x (a++(b++(c++(d++(f++(g++i)))))):=
 (qbY h m (qbY h n (qbY h o (qbY h p (qbY h r (qbY h s t l) k) b3) b2) b1) b0)
structure qq where
 As:(List qB)
instance gt_TLibrary:GoT qq:=isoT (@instList qB gt_TCell) (fun x=>x.As) ⟨[]⟩ Z true (fun h=>by cases h)
theorem qbM{x:qq}{cs:List Value}(h:GoT.R w S x cs):∃b a,cs=[oS b (x.As).length a]/\SlR w S x.As b a:=by
 obtain⟨b,a,rfl,c⟩:=h;exact⟨b,a,rfl,c⟩
theorem qeH(x:qq){b:Option Addr}{a:Nat}(c:SlR w S x.As b a):GoT.R w S x [oS b (x.As).length a]:=have h:=rS c;h
theorem qs6{w0:World}{L:List Ch}{x:qq}{f:Option Addr}{d a:Nat}(h:SH w0 w (oW S x [oS f d a]::L)):∃g,SH w0 w (oW g x.As [oS f d a]::L):=by
 obtain⟨l,k⟩:=h.headV;replace k:GoT.O w S x _:=k;obtain⟨q,m,p,i⟩:=k;cases p;replace l:=l.push (c:=oW S x.As [_]) (S2:=(fun _=>False)) ⟨_,_,rfl,i⟩ (fun _ o=>o.elim) (fun b n=>⟨n,fun h=>h⟩) (fun _ h=>h.elim);exact⟨S,l.sh⟩
theorem qvm{w0:World}{L:List Ch}(x:qq){I0:List Nat}{a:List Value}(_:SH w0 w L)(b:PO w L I0 x.As a):PO w L I0 x a:=
 b
structure ql where
 Bc:ByteArray
 Bv:Int
 Am:(List Int)
instance gt_TInstance:GoT ql:=isoT (pairT instStr (pairT instInt (@instList Int instInt))) (fun x=>(x.Bc,x.Bv,x.Am)) ⟨ByteArray.empty,0,[]⟩ Z true (fun h=>by cases h)
abbrev qkG(x:ql)(p0:Option Addr)(k0:Nat):List Value:=[.string x.Bc,vi x.Bv,oS p0 (x.Am).length k0]
theorem qT{x:ql}{cs:List Value}(h:GoT.R w S x cs):∃b a,cs=(qkG x b a)/\SlR w S x.Am b a:=by
 obtain⟨_,_,rfl,rfl,⟨_,_,rfl,rfl,⟨b,a,rfl,c⟩⟩⟩:=h;exact⟨b,a,rfl,c⟩
theorem qha(x:ql){b:Option Addr}{a:Nat}(c:SlR w S x.Am b a):GoT.R w S x (qkG x b a):=have h:=pR (rT x.Bc) (pR (rI x.Bv) (rS c));h
theorem qrQ{w0:World}{L:List Ch}{x:ql}{f:Option Addr}{d a:Nat}(h:SH w0 w (oW S x [.string x.Bc,vi x.Bv,oS f d a]::L)):∃g,SH w0 w (oW g x.Am [oS f d a]::L):=by
 obtain⟨o,n⟩:=h.headV;replace n:GoT.O w S x _:=n;obtain⟨_,_,_,_,p,i,n,_,b0⟩:=n;obtain rfl:=i;cases p;replace o:=o.less b0;obtain⟨_,B1,_,_,p,k,n,_,b1⟩:=n;obtain rfl:=k;cases p;replace o:=o.less b1;obtain⟨q,m,p,l⟩:=n;cases p;replace o:=o.push (c:=oW B1 x.Am [_]) (S2:=(fun _=>False)) ⟨_,_,rfl,l⟩ (fun _ s=>s.elim) (fun b r=>⟨r,fun h=>h⟩) (fun _ h=>h.elim);exact⟨B1,o.sh⟩
theorem qqE{w0:World}{L:List Ch}(x:ql){I0 I1 I2:List Nat}{a b c:List Value}(h:SH w0 w L)(d:PO w L I0 x.Bc a)(f:PO w L I1 x.Bv b)(g:PO w L I2 x.Am c)(b0:apartB I0 (I1++I2)=true)(b1:apartB I1 I2=true):PO w L (I0++(I1++I2)) x (a++(b++c)):=
 (qbY h d (qbY h f g b1) b0)
structure qP where
 Bc:ByteArray
 Bx:Int
 Ca:Int
instance gt_TPort:GoT qP:=isoT (pairT instStr (pairT instInt instInt)) (fun x=>(x.Bc,x.Bx,x.Ca)) ⟨ByteArray.empty,0,0⟩ Z true (fun h=>by cases h)
instance fl_TPort:Flat qP:=qir (pairT instStr (pairT instInt instInt)) (fun x:qP=>(x.Bc,x.Bx,x.Ca)) ⟨ByteArray.empty,0,0⟩ Z true (fun h=>by cases h) (qbq _ _ (inferInstanceAs (Flat ByteArray)) (qbq _ _ (inferInstanceAs (Flat Int)) (inferInstanceAs (Flat Int))))
abbrev qse(x:qP):List Value:=[.string x.Bc,vi x.Bx,vi x.Ca]
theorem qaW{x:qP}{cs:List Value}(h:GoT.R w S x cs):cs=(qse x):=by
 obtain⟨_,_,rfl,rfl,⟨_,_,rfl,rfl,rfl⟩⟩:=h;exact Z
theorem qeV(x:qP):GoT.R w S x (qse x):=have h:=pR (rT x.Bc) (pR (rI x.Bx) (rI x.Ca));h
structure qd where
 Ab:(List ql)
 Am:(List ByteArray)
 Aj:(List qP)
instance gt_TDesign:GoT qd:=isoT (pairT (@instList ql gt_TInstance) (pairT (@instList ByteArray instStr) (@instList qP gt_TPort))) (fun x=>(x.Ab,x.Am,x.Aj)) ⟨[],[],[]⟩ Z true (fun h=>by cases h)
abbrev qaT(x:qd)(p0 p1 p2:Option Addr)(k0 k1 k2:Nat):List Value:=[oS p0 (x.Ab).length k0,oS p1 (x.Am).length k1,oS p2 (x.Aj).length k2]
theorem qaD{x:qd}{cs:List Value}(h:GoT.R w S x cs):∃d a f b g c,cs=(qaT x d f g a b c)/\SlR w S x.Ab d a/\SlR w S x.Am f b/\SlR w S x.Aj g c:=by
 obtain⟨_,_,rfl,⟨d,a,rfl,i⟩,⟨_,_,rfl,⟨f,b,rfl,k⟩,⟨g,c,rfl,s2⟩⟩⟩:=h;exact⟨d,a,f,b,g,c,rfl,i,k,s2⟩
theorem qay(x:qd){d f g:Option Addr}{a b c:Nat}(i:SlR w S x.Ab d a)(k:SlR w S x.Am f b)(s2:SlR w S x.Aj g c):GoT.R w S x (qaT x d f g a b c):=have h:=pR (rS i) (pR (rS k) (rS s2));h
theorem qtk{w0:World}{L:List Ch}{x:qd}{l n o:Option Addr}{g a i d k f:Nat}(h:SH w0 w (oW S x [oS l g a,oS n i d,oS o k f]::L)):∃p S1 S2,SH w0 w (oW S2 x.Aj [oS o k f]::oW S1 x.Am [oS n i d]::oW p x.Ab [oS l g a]::L):=by
 obtain⟨y,v⟩:=h.headV;replace v:GoT.O w S x _:=v;obtain⟨A0,B0,_,_,A,r,v,a0,b0⟩:=v;obtain⟨q,m,rfl,t⟩:=r;cases A;replace y:=y.push (c:=oW A0 x.Ab [_]) (S2:=B0) ⟨_,_,rfl,t⟩ (fun _ z=>z.elim) a0 b0;obtain⟨A1,B1,_,_,A,s,v,a1,b1⟩:=v;obtain⟨q,m,rfl,u⟩:=s;cases A;replace y:=y.push (c:=oW A1 x.Am [_]) (S2:=B1) ⟨_,_,rfl,u⟩ (fun _ z=>z.elim) a1 b1;obtain⟨q,m,A,s2⟩:=v;cases A;replace y:=y.push (c:=oW B1 x.Aj [_]) (S2:=(fun _=>False)) ⟨_,_,rfl,s2⟩ (fun _ z=>z.elim) (fun b B=>⟨B,fun h=>h⟩) (fun _ h=>h.elim);exact⟨A0,A1,B1,y.sh⟩
theorem qxw{w0:World}{L:List Ch}(x:qd){I0 I1 I2:List Nat}{a b c:List Value}(h:SH w0 w L)(d:PO w L I0 x.Ab a)(f:PO w L I1 x.Am b)(g:PO w L I2 x.Aj c)(b0:apartB I0 (I1++I2)=true)(b1:apartB I1 I2=true):PO w L (I0++(I1++I2)) x (a++(b++c)):=
 (qbY h d (qbY h f g b1) b0)
structure qE where
 Ar:(List Int)
 Bz:(List Int)
 Bu:(List Int)
 Bn:(List Int)
instance gt_TWire:GoT qE:=isoT (pairT (@instList Int instInt) (pairT (@instList Int instInt) (pairT (@instList Int instInt) (@instList Int instInt)))) (fun x=>(x.Ar,x.Bz,x.Bu,x.Bn)) ⟨[],[],[],[]⟩ Z true (fun h=>by cases h)
abbrev qho(x:qE)(p0 p1 p2 p3:Option Addr)(k0 k1 k2 k3:Nat):List Value:=[oS p0 (x.Ar).length k0,oS p1 (x.Bz).length k1,oS p2 (x.Bu).length k2,oS p3 (x.Bn).length k3]
theorem qaR{x:qE}{cs:List Value}(h:GoT.R w S x cs):∃d a f b g c i k3,cs=(qho x d f g i a b c k3)/\SlR w S x.Ar d a/\SlR w S x.Bz f b/\SlR w S x.Bu g c/\SlR w S x.Bn i k3:=by
 obtain⟨_,_,rfl,⟨d,a,rfl,k⟩,⟨_,_,rfl,⟨f,b,rfl,l⟩,⟨_,_,rfl,⟨g,c,rfl,s2⟩,⟨i,k3,rfl,m⟩⟩⟩⟩:=h;exact⟨d,a,f,b,g,c,i,k3,rfl,k,l,s2,m⟩
theorem qlv(x:qE){d f g i:Option Addr}{a b c k3:Nat}(k:SlR w S x.Ar d a)(l:SlR w S x.Bz f b)(s2:SlR w S x.Bu g c)(m:SlR w S x.Bn i k3):GoT.R w S x (qho x d f g i a b c k3):=have h:=pR (rS k) (pR (rS l) (pR (rS s2) (rS m)));h
theorem qv1{w0:World}{L:List Ch}{x:qE}{n o p r:Option Addr}{g a i d k f l k3:Nat}(h:SH w0 w (oW S x [oS n g a,oS o i d,oS p k f,oS r l k3]::L)):∃s S1 S2 t,SH w0 w (oW t x.Bn [oS r l k3]::oW S2 x.Bu [oS p k f]::oW S1 x.Bz [oS o i d]::oW s x.Ar [oS n g a]::L):=by
 obtain⟨D,C⟩:=h.headV;replace C:GoT.O w S x _:=C;obtain⟨A0,B0,_,_,H,u,C,a0,b0⟩:=C;obtain⟨q,m,rfl,z⟩:=u;cases H;replace D:=D.push (c:=oW A0 x.Ar [_]) (S2:=B0) ⟨_,_,rfl,z⟩ (fun _ F=>F.elim) a0 b0;obtain⟨A1,B1,_,_,H,v,C,a1,b1⟩:=C;obtain⟨q,m,rfl,A⟩:=v;cases H;replace D:=D.push (c:=oW A1 x.Bz [_]) (S2:=B1) ⟨_,_,rfl,A⟩ (fun _ F=>F.elim) a1 b1;obtain⟨A2,B2,_,_,H,y,C,a2,b2⟩:=C;obtain⟨q,m,rfl,s2⟩:=y;cases H;replace D:=D.push (c:=oW A2 x.Bu [_]) (S2:=B2) ⟨_,_,rfl,s2⟩ (fun _ F=>F.elim) a2 b2;obtain⟨q,m,H,B⟩:=C;cases H;replace D:=D.push (c:=oW B2 x.Bn [_]) (S2:=(fun _=>False)) ⟨_,_,rfl,B⟩ (fun _ F=>F.elim) (fun b I=>⟨I,fun h=>h⟩) (fun _ h=>h.elim);exact⟨A0,A1,A2,B2,D.sh⟩
theorem qvP{w0:World}{L:List Ch}(x:qE){I0 I1 I2 I3:List Nat}{a b c d:List Value}(h:SH w0 w L)(f:PO w L I0 x.Ar a)(g:PO w L I1 x.Bz b)(i:PO w L I2 x.Bu c)(k:PO w L I3 x.Bn d)(b0:apartB I0 (I1++(I2++I3))=true)(b1:apartB I1 (I2++I3)=true)(b2:apartB I2 I3=true):PO w L (I0++(I1++(I2++I3))) x (a++(b++(c++d))):=
 (qbY h f (qbY h g (qbY h i k b2) b1) b0)
structure qj where
 Av:qq
 Aa:qd
 Ah:(List qE)
instance gt_TBlock:GoT qj:=isoT (pairT gt_TLibrary (pairT gt_TDesign (@instList qE gt_TWire))) (fun x=>(x.Av,x.Aa,x.Ah)) ⟨(⟨[]⟩:qq),(⟨[],[],[]⟩:qd),[]⟩ Z true (fun h=>by cases h)
abbrev qa5(x:qj)(p0 p1 p2 p3 p4:Option Addr)(k0 k1 k2 k3 k4:Nat):List Value:=[oS p0 (x.Av.As).length k0,oS p1 (x.Aa.Ab).length k1,oS p2 (x.Aa.Am).length k2,oS p3 (x.Aa.Aj).length k3,oS p4 (x.Ah).length k4]
theorem qaf{x:qj}{cs:List Value}(h:GoT.R w S x cs):∃f a g b i c k k3 l d,cs=(qa5 x f g i k l a b c k3 d)/\SlR w S x.Av.As f a/\SlR w S x.Aa.Ab g b/\SlR w S x.Aa.Am i c/\SlR w S x.Aa.Aj k k3/\SlR w S x.Ah l d:=by
 obtain⟨_,_,rfl,⟨f,a,rfl,m⟩,⟨_,_,rfl,⟨_,_,rfl,⟨g,b,rfl,n⟩,⟨_,_,rfl,⟨i,c,rfl,s2⟩,⟨k,k3,rfl,o⟩⟩⟩,⟨l,d,rfl,p⟩⟩⟩:=h;exact⟨f,a,g,b,i,c,k,k3,l,d,rfl,m,n,s2,o,p⟩
theorem qck(x:qj){f g i k l:Option Addr}{a b c k3 d:Nat}(m:SlR w S x.Av.As f a)(n:SlR w S x.Aa.Ab g b)(s2:SlR w S x.Aa.Am i c)(o:SlR w S x.Aa.Aj k k3)(p:SlR w S x.Ah l d):GoT.R w S x (qa5 x f g i k l a b c k3 d):=have h:=pR (qeH x.Av m) (pR (qay x.Aa n s2 o) (rS p));h
theorem qtu{w0:World}{L:List Ch}{x:qj}{t m n o p:Option Addr}{s r g a i d k k3 l f:Nat}(h:SH w0 w (oW S x [oS t s r,oS m g a,oS n i d,oS o k k3,oS p l f]::L)):∃F S1 S2,SH w0 w (oW S2 x.Ah [oS p l f]::oW S1 x.Aa [oS m g a,oS n i d,oS o k k3]::oW F x.Av [oS t s r]::L):=by
 obtain⟨I,H⟩:=h.headV;replace H:GoT.O w S x _:=H;obtain⟨A0,B0,u,e0,y,C,H,a0,b0⟩:=H;have A:u.length=1:=GoT.len (GoT.toR C);obtain⟨rfl,rfl⟩:u=[oS t s r]/\e0=[oS m g a,oS n i d,oS o k k3,oS p l f]:=by
  have:=List.append_inj (show[oS t s r]++[oS m g a,oS n i d,oS o k k3,oS p l f]=u++e0 from y) (by rw[A];rfl);exact⟨this.1.symm,this.2.symm⟩
 replace I:=I.push (c:=oW A0 x.Av [oS t s r]) (S2:=B0) C (fun _ J=>J.elim) a0 b0;obtain⟨A1,B1,v,e1,z,D,H,a1,b1⟩:=H;have B:v.length=3:=GoT.len (GoT.toR D);obtain⟨rfl,rfl⟩:v=[oS m g a,oS n i d,oS o k k3]/\e1=[oS p l f]:=by
  have:=List.append_inj (show[oS m g a,oS n i d,oS o k k3]++[oS p l f]=v++e1 from z) (by rw[B];rfl);exact⟨this.1.symm,this.2.symm⟩
 replace I:=I.push (c:=oW A1 x.Aa [oS m g a,oS n i d,oS o k k3]) (S2:=B1) D (fun _ J=>J.elim) a1 b1;replace I:=I.push (c:=oW B1 x.Ah [oS p l f]) (S2:=(fun _=>False)) H (fun _ J=>J.elim) (fun b K=>⟨K,fun h=>h⟩) (fun _ h=>h.elim);exact⟨A0,A1,B1,I.sh⟩
theorem qyn{w0:World}{L:List Ch}(x:qj){I0 I1 I2:List Nat}{a b c:List Value}(h:SH w0 w L)(d:PO w L I0 x.Av a)(f:PO w L I1 x.Aa b)(g:PO w L I2 x.Ah c)(b0:apartB I0 (I1++I2)=true)(b1:apartB I1 I2=true):PO w L (I0++(I1++I2)) x (a++(b++c)):=
 (qbY h d (qbY h f g b1) b0)
structure qu where
 Bc:ByteArray
 Ap:Int
 Az:Int
 Ak:Int
 Ay:Int
instance gt_TCorner:GoT qu:=isoT (pairT instStr (pairT instInt (pairT instInt (pairT instInt instInt)))) (fun x=>(x.Bc,x.Ap,x.Az,x.Ak,x.Ay)) ⟨ByteArray.empty,0,0,0,0⟩ Z true (fun h=>by cases h)
instance fl_TCorner:Flat qu:=qir (pairT instStr (pairT instInt (pairT instInt (pairT instInt instInt)))) (fun x:qu=>(x.Bc,x.Ap,x.Az,x.Ak,x.Ay)) ⟨ByteArray.empty,0,0,0,0⟩ Z true (fun h=>by cases h) (qbq _ _ (inferInstanceAs (Flat ByteArray)) (qbq _ _ (inferInstanceAs (Flat Int)) (qbq _ _ (inferInstanceAs (Flat Int)) (qbq _ _ (inferInstanceAs (Flat Int)) (inferInstanceAs (Flat Int))))))
abbrev qce(x:qu):List Value:=[.string x.Bc,vi x.Ap,vi x.Az,vi x.Ak,vi x.Ay]
theorem qaK{x:qu}{cs:List Value}(h:GoT.R w S x cs):cs=(qce x):=by
 obtain⟨_,_,rfl,rfl,⟨_,_,rfl,rfl,⟨_,_,rfl,rfl,⟨_,_,rfl,rfl,rfl⟩⟩⟩⟩:=h;exact Z
theorem qa8(x:qu):GoT.R w S x (qce x):=have h:=pR (rT x.Bc) (pR (rI x.Ap) (pR (rI x.Az) (pR (rI x.Ak) (rI x.Ay))));h
structure qe where
 Au:Int
 Bh:Int
instance gt_TSpan:GoT qe:=isoT (pairT instInt instInt) (fun x=>(x.Au,x.Bh)) ⟨0,0⟩ Z true (fun h=>by cases h)
instance fl_TSpan:Flat qe:=qir (pairT instInt instInt) (fun x:qe=>(x.Au,x.Bh)) ⟨0,0⟩ Z true (fun h=>by cases h) (qbq _ _ (inferInstanceAs (Flat Int)) (inferInstanceAs (Flat Int)))
abbrev qf3(x:qe):List Value:=[vi x.Au,vi x.Bh]
theorem qt{x:qe}{cs:List Value}(h:GoT.R w S x cs):cs=(qf3 x):=by
 obtain⟨_,_,rfl,rfl,rfl⟩:=h;exact Z
theorem qA(x:qe):GoT.R w S x (qf3 x):=have h:=pR (rI x.Au) (rI x.Bh);h
structure qf where
 Bs:Int
 Ai:qe
 Bf:qe
instance gt_TSource:GoT qf:=isoT (pairT instInt (pairT gt_TSpan gt_TSpan)) (fun x=>(x.Bs,x.Ai,x.Bf)) ⟨0,(⟨0,0⟩:qe),(⟨0,0⟩:qe)⟩ Z true (fun h=>by cases h)
instance fl_TSource:Flat qf:=qir (pairT instInt (pairT gt_TSpan gt_TSpan)) (fun x:qf=>(x.Bs,x.Ai,x.Bf)) ⟨0,(⟨0,0⟩:qe),(⟨0,0⟩:qe)⟩ Z true (fun h=>by cases h) (qbq _ _ (inferInstanceAs (Flat Int)) (qbq _ _ (inferInstanceAs (Flat qe)) (inferInstanceAs (Flat qe))))
abbrev qgi(x:qf):List Value:=[vi x.Bs,vi x.Ai.Au,vi x.Ai.Bh,vi x.Bf.Au,vi x.Bf.Bh]
theorem qF{x:qf}{cs:List Value}(h:GoT.R w S x cs):cs=(qgi x):=by
 obtain⟨_,_,rfl,rfl,⟨_,_,rfl,⟨_,_,rfl,rfl,rfl⟩,⟨_,_,rfl,rfl,rfl⟩⟩⟩:=h;exact Z
theorem qaF(x:qf):GoT.R w S x (qgi x):=have h:=pR (rI x.Bs) (pR (qA x.Ai) (qA x.Bf));h
structure qaP where
 Ac:qj
 Af:qu
 Bb:(List Int)
 Aq:(List qf)
instance gt_TJob:GoT qaP:=isoT (pairT gt_TBlock (pairT gt_TCorner (pairT (@instList Int instInt) (@instList qf gt_TSource)))) (fun x=>(x.Ac,x.Af,x.Bb,x.Aq)) ⟨(⟨(⟨[]⟩:qq),(⟨[],[],[]⟩:qd),[]⟩:qj),(⟨ByteArray.empty,0,0,0,0⟩:qu),[],[]⟩ Z true (fun h=>by cases h)
abbrev qpK(x:qaP)(p0 p1 p2 p3 p4 p5 p6:Option Addr)(k0 k1 k2 k3 k4 k5 k6:Nat):List Value:=[oS p0 (x.Ac.Av.As).length k0,oS p1 (x.Ac.Aa.Ab).length k1,oS p2 (x.Ac.Aa.Am).length k2,oS p3 (x.Ac.Aa.Aj).length k3,oS p4 (x.Ac.Ah).length k4,.string x.Af.Bc,vi x.Af.Ap,vi x.Af.Az,vi x.Af.Ak,vi x.Af.Ay,oS p5 (x.Bb).length k5,oS p6 (x.Aq).length k6]
theorem qdy{x:qaP}{cs:List Value}(h:GoT.R w S x cs):∃i a k b l c m k3 n d o f p g,cs=(qpK x i k l m n o p a b c k3 d f g)/\SlR w S x.Ac.Av.As i a/\SlR w S x.Ac.Aa.Ab k b/\SlR w S x.Ac.Aa.Am l c/\SlR w S x.Ac.Aa.Aj m k3/\SlR w S x.Ac.Ah n d/\SlR w S x.Bb o f/\SlR w S x.Aq p g:=by
 obtain⟨_,_,rfl,⟨_,_,rfl,⟨i,a,rfl,r⟩,⟨_,_,rfl,⟨_,_,rfl,⟨k,b,rfl,s⟩,⟨_,_,rfl,⟨l,c,rfl,s2⟩,⟨m,k3,rfl,t⟩⟩⟩,⟨n,d,rfl,u⟩⟩⟩,⟨_,_,rfl,⟨_,_,rfl,rfl,⟨_,_,rfl,rfl,⟨_,_,rfl,rfl,⟨_,_,rfl,rfl,rfl⟩⟩⟩⟩,⟨_,_,rfl,⟨o,f,rfl,v⟩,⟨p,g,rfl,y⟩⟩⟩⟩:=h;exact⟨i,a,k,b,l,c,m,k3,n,d,o,f,p,g,rfl,r,s,s2,t,u,v,y⟩
theorem qwk{w0:World}{L:List Ch}{x:qaP}{v y z A B i k:Option Addr}{p l r m s n t k3 u o f a g d:Nat}(h:SH w0 w (oW S x [oS v p l,oS y r m,oS z s n,oS A t k3,oS B u o,.string x.Af.Bc,vi x.Af.Ap,vi x.Af.Az,vi x.Af.Ak,vi x.Af.Ay,oS i f a,oS k g d]::L)):∃Q S2 R,SH w0 w (oW R x.Aq [oS k g d]::oW S2 x.Bb [oS i f a]::oW Q x.Ac [oS v p l,oS y r m,oS z s n,oS A t k3,oS B u o]::L):=by
 obtain⟨X,W⟩:=h.headV;replace W:GoT.O w S x _:=W;obtain⟨A0,B0,C,e0,F,O,W,a0,b0⟩:=W;have J:C.length=5:=GoT.len (GoT.toR O);obtain⟨rfl,rfl⟩:C=[oS v p l,oS y r m,oS z s n,oS A t k3,oS B u o]/\e0=[.string x.Af.Bc,vi x.Af.Ap,vi x.Af.Az,vi x.Af.Ak,vi x.Af.Ay,oS i f a,oS k g d]:=by
  have:=List.append_inj (show[oS v p l,oS y r m,oS z s n,oS A t k3,oS B u o]++[.string x.Af.Bc,vi x.Af.Ap,vi x.Af.Az,vi x.Af.Ak,vi x.Af.Ay,oS i f a,oS k g d]=C++e0 from F) (by rw[J];rfl);exact⟨this.1.symm,this.2.symm⟩
 replace X:=X.push (c:=oW A0 x.Ac [oS v p l,oS y r m,oS z s n,oS A t k3,oS B u o]) (S2:=B0) O (fun _ Y=>Y.elim) a0 b0;obtain⟨_,_,D,e1,H,T,W,_,b1⟩:=W;have K:D.length=5:=GoT.len (GoT.toR T);obtain⟨rfl,rfl⟩:D=[.string x.Af.Bc,vi x.Af.Ap,vi x.Af.Az,vi x.Af.Ak,vi x.Af.Ay]/\e1=[oS i f a,oS k g d]:=by
  have:=List.append_inj (show[.string x.Af.Bc,vi x.Af.Ap,vi x.Af.Az,vi x.Af.Ak,vi x.Af.Ay]++[oS i f a,oS k g d]=D++e1 from H) (by rw[K];rfl);exact⟨this.1.symm,this.2.symm⟩
 replace X:=X.less b1;obtain⟨A2,B2,d2,N,I,P,W,a2,b2⟩:=W;have M:d2.length=1:=GoT.len (GoT.toR P);obtain⟨rfl,rfl⟩:d2=[oS i f a]/\N=[oS k g d]:=by
  have:=List.append_inj (show[oS i f a]++[oS k g d]=d2++N from I) (by rw[M];rfl);exact⟨this.1.symm,this.2.symm⟩
 replace X:=X.push (c:=oW A2 x.Bb [oS i f a]) (S2:=B2) P (fun _ Y=>Y.elim) a2 b2;replace X:=X.push (c:=oW B2 x.Aq [oS k g d]) (S2:=(fun _=>False)) W (fun _ Y=>Y.elim) (fun b e=>⟨e,fun h=>h⟩) (fun _ h=>h.elim);exact⟨A0,A2,B2,X.sh⟩
theorem qAx{w0:World}{L:List Ch}(x:qaP){I0 I1 I2 I3:List Nat}{a b c d:List Value}(h:SH w0 w L)(f:PO w L I0 x.Ac a)(g:PO w L I1 x.Af b)(i:PO w L I2 x.Bb c)(k:PO w L I3 x.Aq d)(b0:apartB I0 (I1++(I2++I3))=true)(b1:apartB I1 (I2++I3)=true)(b2:apartB I2 I3=true):PO w L (I0++(I1++(I2++I3))) x (a++(b++(c++d))):=
 (qbY h f (qbY h g (qbY h i k b2) b1) b0)
structure qh where
 Bm:Int
 Bd:(List Int)
 Ai:Int
instance gt_TPath:GoT qh:=isoT (pairT instInt (pairT (@instList Int instInt) instInt)) (fun x=>(x.Bm,x.Bd,x.Ai)) ⟨0,[],0⟩ Z true (fun h=>by cases h)
abbrev qnn(x:qh)(p0:Option Addr)(k0:Nat):List Value:=[vi x.Bm,oS p0 (x.Bd).length k0,vi x.Ai]
theorem qaN{x:qh}{cs:List Value}(h:GoT.R w S x cs):∃b a,cs=(qnn x b a)/\SlR w S x.Bd b a:=by
 obtain⟨_,_,rfl,rfl,⟨_,_,rfl,⟨b,a,rfl,c⟩,rfl⟩⟩:=h;exact⟨b,a,rfl,c⟩
theorem qmQ(x:qh){b:Option Addr}{a:Nat}(c:SlR w S x.Bd b a):GoT.R w S x (qnn x b a):=have h:=pR (rI x.Bm) (pR (rS c) (rI x.Ai));h
theorem qyY{x:qh}{c:Option Addr}{b a:Nat}(h:GoT.R w S x [vi x.Bm,oS c b a,vi x.Ai]):(SlR w S x.Bd c a/\b=(x.Bd).length):=by
 obtain⟨_,_,f,d⟩:=qaN h;cases f;exact⟨d,rfl⟩
theorem qoP{w0:World}{L:List Ch}{x:qh}{d:Option Addr}{b a:Nat}(h:SH w0 w (oW S x [vi x.Bm,oS d b a,vi x.Ai]::L)):∃f,SH w0 w (oW f x.Bd [oS d b a]::L):=by
 obtain⟨n,l⟩:=h.headV;replace l:GoT.O w S x _:=l;obtain⟨_,_,_,_,o,g,l,_,b0⟩:=l;obtain rfl:=g;cases o;replace n:=n.less b0;obtain⟨A1,B1,_,_,o,i,l,a1,b1⟩:=l;obtain⟨q,m,rfl,k⟩:=i;cases o;replace n:=n.push (c:=oW A1 x.Bd [_]) (S2:=B1) ⟨_,_,rfl,k⟩ (fun _ p=>p.elim) a1 b1;exact⟨A1,n.sh⟩
theorem qky{w0:World}{L:List Ch}(x:qh){I0 I1 I2:List Nat}{a b c:List Value}(h:SH w0 w L)(d:PO w L I0 x.Bm a)(f:PO w L I1 x.Bd b)(g:PO w L I2 x.Ai c)(b0:apartB I0 (I1++I2)=true)(b1:apartB I1 I2=true):PO w L (I0++(I1++I2)) x (a++(b++c)):=
 (qbY h d (qbY h f g b1) b0)
structure qy where
 Bl:Int
 To:Int
 Bi:Int
 Cb:Int
instance gt_TLink:GoT qy:=isoT (pairT instInt (pairT instInt (pairT instInt instInt))) (fun x=>(x.Bl,x.To,x.Bi,x.Cb)) ⟨0,0,0,0⟩ Z true (fun h=>by cases h)
instance fl_TLink:Flat qy:=qir (pairT instInt (pairT instInt (pairT instInt instInt))) (fun x:qy=>(x.Bl,x.To,x.Bi,x.Cb)) ⟨0,0,0,0⟩ Z true (fun h=>by cases h) (qbq _ _ (inferInstanceAs (Flat Int)) (qbq _ _ (inferInstanceAs (Flat Int)) (qbq _ _ (inferInstanceAs (Flat Int)) (inferInstanceAs (Flat Int)))))
abbrev qke(x:qy):List Value:=[vi x.Bl,vi x.To,vi x.Bi,vi x.Cb]
theorem qaq{x:qy}{cs:List Value}(h:GoT.R w S x cs):cs=(qke x):=by
 obtain⟨_,_,rfl,rfl,⟨_,_,rfl,rfl,⟨_,_,rfl,rfl,rfl⟩⟩⟩:=h;exact Z
theorem qbF(x:qy):GoT.R w S x (qke x):=have h:=pR (rI x.Bl) (pR (rI x.To) (pR (rI x.Bi) (rI x.Cb)));h
structure qw where
 Be:(List Bool)
 Ai:(List qe)
 Bf:(List qe)
instance gt_TTiming:GoT qw:=isoT (pairT (@instList Bool instBool) (pairT (@instList qe gt_TSpan) (@instList qe gt_TSpan))) (fun x=>(x.Be,x.Ai,x.Bf)) ⟨[],[],[]⟩ Z true (fun h=>by cases h)
abbrev qb1(x:qw)(p0 p1 p2:Option Addr)(k0 k1 k2:Nat):List Value:=[oS p0 (x.Be).length k0,oS p1 (x.Ai).length k1,oS p2 (x.Bf).length k2]
theorem qcY{x:qw}{cs:List Value}(h:GoT.R w S x cs):∃d a f b g c,cs=(qb1 x d f g a b c)/\SlR w S x.Be d a/\SlR w S x.Ai f b/\SlR w S x.Bf g c:=by
 obtain⟨_,_,rfl,⟨d,a,rfl,i⟩,⟨_,_,rfl,⟨f,b,rfl,k⟩,⟨g,c,rfl,s2⟩⟩⟩:=h;exact⟨d,a,f,b,g,c,rfl,i,k,s2⟩
theorem qwl(x:qw){d f g:Option Addr}{a b c:Nat}(i:SlR w S x.Be d a)(k:SlR w S x.Ai f b)(s2:SlR w S x.Bf g c):GoT.R w S x (qb1 x d f g a b c):=have h:=pR (rS i) (pR (rS k) (rS s2));h
theorem qhf{w0:World}{L:List Ch}{x:qw}{l n o:Option Addr}{g a i d k f:Nat}(h:SH w0 w (oW S x [oS l g a,oS n i d,oS o k f]::L)):∃p S1 S2,SH w0 w (oW S2 x.Bf [oS o k f]::oW S1 x.Ai [oS n i d]::oW p x.Be [oS l g a]::L):=by
 obtain⟨y,v⟩:=h.headV;replace v:GoT.O w S x _:=v;obtain⟨A0,B0,_,_,A,r,v,a0,b0⟩:=v;obtain⟨q,m,rfl,t⟩:=r;cases A;replace y:=y.push (c:=oW A0 x.Be [_]) (S2:=B0) ⟨_,_,rfl,t⟩ (fun _ z=>z.elim) a0 b0;obtain⟨A1,B1,_,_,A,s,v,a1,b1⟩:=v;obtain⟨q,m,rfl,u⟩:=s;cases A;replace y:=y.push (c:=oW A1 x.Ai [_]) (S2:=B1) ⟨_,_,rfl,u⟩ (fun _ z=>z.elim) a1 b1;obtain⟨q,m,A,s2⟩:=v;cases A;replace y:=y.push (c:=oW B1 x.Bf [_]) (S2:=(fun _=>False)) ⟨_,_,rfl,s2⟩ (fun _ z=>z.elim) (fun b B=>⟨B,fun h=>h⟩) (fun _ h=>h.elim);exact⟨A0,A1,B1,y.sh⟩
theorem qgN{w0:World}{L:List Ch}(x:qw){I0 I1 I2:List Nat}{a b c:List Value}(h:SH w0 w L)(d:PO w L I0 x.Be a)(f:PO w L I1 x.Ai b)(g:PO w L I2 x.Bf c)(b0:apartB I0 (I1++I2)=true)(b1:apartB I1 I2=true):PO w L (I0++(I1++I2)) x (a++(b++c)):=
 (qbY h d (qbY h f g b1) b0)
structure Tl20Work where
 j:qaP
 links:(List qy)
 live:(List Bool)
 t:qw
instance gt_Tl20Work:GoT Tl20Work:=isoT (pairT gt_TJob (pairT (@instList qy gt_TLink) (pairT (@instList Bool instBool) gt_TTiming))) (fun x=>(x.j,x.links,x.live,x.t)) ⟨(⟨(⟨(⟨[]⟩:qq),(⟨[],[],[]⟩:qd),[]⟩:qj),(⟨ByteArray.empty,0,0,0,0⟩:qu),[],[]⟩:qaP),[],[],(⟨[],[],[]⟩:qw)⟩ Z true (fun h=>by cases h)
abbrev qwS(x:Tl20Work)(p0 p1 p2 p3 p4 p5 p6 p7 p8 p9 p10 p11:Option Addr)(k0 k1 k2 k3 k4 k5 k6 k7 k8 k9 k10 k11:Nat):List Value:=[oS p0 (x.j.Ac.Av.As).length k0,oS p1 (x.j.Ac.Aa.Ab).length k1,oS p2 (x.j.Ac.Aa.Am).length k2,oS p3 (x.j.Ac.Aa.Aj).length k3,oS p4 (x.j.Ac.Ah).length k4,.string x.j.Af.Bc,vi x.j.Af.Ap,vi x.j.Af.Az,vi x.j.Af.Ak,vi x.j.Af.Ay,oS p5 (x.j.Bb).length k5,oS p6 (x.j.Aq).length k6,oS p7 (x.links).length k7,oS p8 (x.live).length k8,oS p9 (x.t.Be).length k9,oS p10 (x.t.Ai).length k10,oS p11 (x.t.Bf).length k11]
theorem qki{x:Tl20Work}{cs:List Value}(h:GoT.R w S x cs):∃r f s g t i u k3 v k y l z m A n B o C p c a d b,cs=(qwS x r s t u v y z A B C c d f g i k3 k l m n o p a b)/\SlR w S x.j.Ac.Av.As r f/\SlR w S x.j.Ac.Aa.Ab s g/\SlR w S x.j.Ac.Aa.Am t i/\SlR w S x.j.Ac.Aa.Aj u k3/\SlR w S x.j.Ac.Ah v k/\SlR w S x.j.Bb y l/\SlR w S x.j.Aq z m/\SlR w S x.links A n/\SlR w S x.live B o/\SlR w S x.t.Be C p/\SlR w S x.t.Ai c a/\SlR w S x.t.Bf d b:=by
 obtain⟨_,_,rfl,⟨_,_,rfl,⟨_,_,rfl,⟨r,f,rfl,H⟩,⟨_,_,rfl,⟨_,_,rfl,⟨s,g,rfl,I⟩,⟨_,_,rfl,⟨t,i,rfl,s2⟩,⟨u,k3,rfl,J⟩⟩⟩,⟨v,k,rfl,K⟩⟩⟩,⟨_,_,rfl,⟨_,_,rfl,rfl,⟨_,_,rfl,rfl,⟨_,_,rfl,rfl,⟨_,_,rfl,rfl,rfl⟩⟩⟩⟩,⟨_,_,rfl,⟨y,l,rfl,L⟩,⟨z,m,rfl,M⟩⟩⟩⟩,⟨_,_,rfl,⟨A,n,rfl,N⟩,⟨_,_,rfl,⟨B,o,rfl,O⟩,⟨_,_,rfl,⟨C,p,rfl,P⟩,⟨_,_,rfl,⟨c,a,rfl,D⟩,⟨d,b,rfl,F⟩⟩⟩⟩⟩⟩:=h;exact⟨r,f,s,g,t,i,u,k3,v,k,y,l,z,m,A,n,B,o,C,p,c,a,d,b,rfl,H,I,s2,J,K,L,M,N,O,P,D,F⟩
structure Tplace where
 instance_:Int
 pin:Int
 net:Int
 drives:Bool
instance gt_Tplace:GoT Tplace:=isoT (pairT instInt (pairT instInt (pairT instInt instBool))) (fun x=>(x.instance_,x.pin,x.net,x.drives)) ⟨0,0,0,false⟩ Z true (fun h=>by cases h)
instance fl_Tplace:Flat Tplace:=qir (pairT instInt (pairT instInt (pairT instInt instBool))) (fun x:Tplace=>(x.instance_,x.pin,x.net,x.drives)) ⟨0,0,0,false⟩ Z true (fun h=>by cases h) (qbq _ _ (inferInstanceAs (Flat Int)) (qbq _ _ (inferInstanceAs (Flat Int)) (qbq _ _ (inferInstanceAs (Flat Int)) (inferInstanceAs (Flat Bool)))))
abbrev qso(x:Tplace):List Value:=[vi x.instance_,vi x.pin,vi x.net,.bool x.drives]
theorem qhP{x:Tplace}{cs:List Value}(h:GoT.R w S x cs):cs=(qso x):=by
 obtain⟨_,_,rfl,rfl,⟨_,_,rfl,rfl,⟨_,_,rfl,rfl,rfl⟩⟩⟩:=h;exact Z
theorem qnq(x:Tplace):GoT.R w S x (qso x):=have h:=pR (rI x.instance_) (pR (rI x.pin) (pR (rI x.net) (rB x.drives)));h
structure Tview where
 Ac:qj
 places:(List Tplace)
 links:(List qy)
 loads:(List Int)
 delays:(List (List Int))
 extras:(List Int)
instance gt_Tview:GoT Tview:=isoT (pairT gt_TBlock (pairT (@instList Tplace gt_Tplace) (pairT (@instList qy gt_TLink) (pairT (@instList Int instInt) (pairT (@instList (List Int) (@instList Int instInt)) (@instList Int instInt)))))) (fun x=>(x.Ac,x.places,x.links,x.loads,x.delays,x.extras)) ⟨(⟨(⟨[]⟩:qq),(⟨[],[],[]⟩:qd),[]⟩:qj),[],[],[],[],[]⟩ Z true (fun h=>by cases h)
abbrev qBa(x:Tview)(p0 p1 p2 p3 p4 p5 p6 p7 p8 p9:Option Addr)(k0 k1 k2 k3 k4 k5 k6 k7 k8 k9:Nat):List Value:=[oS p0 (x.Ac.Av.As).length k0,oS p1 (x.Ac.Aa.Ab).length k1,oS p2 (x.Ac.Aa.Am).length k2,oS p3 (x.Ac.Aa.Aj).length k3,oS p4 (x.Ac.Ah).length k4,oS p5 (x.places).length k5,oS p6 (x.links).length k6,oS p7 (x.loads).length k7,oS p8 (x.delays).length k8,oS p9 (x.extras).length k9]
theorem qb5{x:Tview}{cs:List Value}(h:GoT.R w S x cs):∃m a n b o c p k3 r d s f t g u i v k y l,cs=(qBa x m n o p r s t u v y a b c k3 d f g i k l)/\SlR w S x.Ac.Av.As m a/\SlR w S x.Ac.Aa.Ab n b/\SlR w S x.Ac.Aa.Am o c/\SlR w S x.Ac.Aa.Aj p k3/\SlR w S x.Ac.Ah r d/\SlR w S x.places s f/\SlR w S x.links t g/\SlR w S x.loads u i/\SlR w S x.delays v k/\SlR w S x.extras y l:=by
 obtain⟨_,_,rfl,⟨_,_,rfl,⟨m,a,rfl,z⟩,⟨_,_,rfl,⟨_,_,rfl,⟨n,b,rfl,A⟩,⟨_,_,rfl,⟨o,c,rfl,s2⟩,⟨p,k3,rfl,B⟩⟩⟩,⟨r,d,rfl,C⟩⟩⟩,⟨_,_,rfl,⟨s,f,rfl,D⟩,⟨_,_,rfl,⟨t,g,rfl,F⟩,⟨_,_,rfl,⟨u,i,rfl,H⟩,⟨_,_,rfl,⟨v,k,rfl,I⟩,⟨y,l,rfl,J⟩⟩⟩⟩⟩⟩:=h;exact⟨m,a,n,b,o,c,p,k3,r,d,s,f,t,g,u,i,v,k,y,l,rfl,z,A,s2,B,C,D,F,H,I,J⟩
structure Tgraph where
 view:(Option Tview)
 live:(List Bool)
instance gt_Tgraph:GoT Tgraph:=isoT (pairT (@instPtr Tview gt_Tview) (@instList Bool instBool)) (fun x=>(x.view,x.live)) ⟨U,[]⟩ Z true (fun h=>by cases h)
abbrev qz1(x:Tgraph)(p0 p1:Option Addr)(k1:Nat):List Value:=[.pointer p0,oS p1 (x.live).length k1]
theorem qeN{x:Tgraph}{cs:List Value}(h:GoT.R w S x cs):∃b c a,cs=(qz1 x b c a)/\PtR w S x.view b/\SlR w S x.live c a:=by
 obtain⟨_,_,rfl,g,⟨c,a,rfl,f⟩⟩:=h;obtain⟨b,rfl,d⟩:=qax g;exact⟨b,c,a,rfl,d,f⟩
structure Twork where
 graph:(Option Tgraph)
 job:qaP
 timing:qw
 order:(List Int)
instance gt_Twork:GoT Twork:=isoT (pairT (@instPtr Tgraph gt_Tgraph) (pairT gt_TJob (pairT gt_TTiming (@instList Int instInt)))) (fun x=>(x.graph,x.job,x.timing,x.order)) ⟨U,(⟨(⟨(⟨[]⟩:qq),(⟨[],[],[]⟩:qd),[]⟩:qj),(⟨ByteArray.empty,0,0,0,0⟩:qu),[],[]⟩:qaP),(⟨[],[],[]⟩:qw),[]⟩ Z true (fun h=>by cases h)
abbrev qAP(x:Twork)(p0 p1 p2 p3 p4 p5 p6 p7 p8 p9 p10 p11:Option Addr)(k1 k2 k3 k4 k5 k6 k7 k8 k9 k10 k11:Nat):List Value:=[.pointer p0,oS p1 (x.job.Ac.Av.As).length k1,oS p2 (x.job.Ac.Aa.Ab).length k2,oS p3 (x.job.Ac.Aa.Am).length k3,oS p4 (x.job.Ac.Aa.Aj).length k4,oS p5 (x.job.Ac.Ah).length k5,.string x.job.Af.Bc,vi x.job.Af.Ap,vi x.job.Af.Az,vi x.job.Af.Ak,vi x.job.Af.Ay,oS p6 (x.job.Bb).length k6,oS p7 (x.job.Aq).length k7,oS p8 (x.timing.Be).length k8,oS p9 (x.timing.Ai).length k9,oS p10 (x.timing.Bf).length k10,oS p11 (x.order).length k11]
theorem qnA{x:Twork}{cs:List Value}(h:GoT.R w S x cs):∃p r f s g t k3 u i v k y l z m A n B o c a d b,cs=(qAP x p r s t u v y z A B c d f g k3 i k l m n o a b)/\PtR w S x.graph p/\SlR w S x.job.Ac.Av.As r f/\SlR w S x.job.Ac.Aa.Ab s g/\SlR w S x.job.Ac.Aa.Am t k3/\SlR w S x.job.Ac.Aa.Aj u i/\SlR w S x.job.Ac.Ah v k/\SlR w S x.job.Bb y l/\SlR w S x.job.Aq z m/\SlR w S x.timing.Be A n/\SlR w S x.timing.Ai B o/\SlR w S x.timing.Bf c a/\SlR w S x.order d b:=by
 obtain⟨_,_,rfl,P,⟨_,_,rfl,⟨_,_,rfl,⟨_,_,rfl,⟨r,f,rfl,H⟩,⟨_,_,rfl,⟨_,_,rfl,⟨s,g,rfl,s2⟩,⟨_,_,rfl,⟨t,k3,rfl,I⟩,⟨u,i,rfl,J⟩⟩⟩,⟨v,k,rfl,K⟩⟩⟩,⟨_,_,rfl,⟨_,_,rfl,rfl,⟨_,_,rfl,rfl,⟨_,_,rfl,rfl,⟨_,_,rfl,rfl,rfl⟩⟩⟩⟩,⟨_,_,rfl,⟨y,l,rfl,L⟩,⟨z,m,rfl,M⟩⟩⟩⟩,⟨_,_,rfl,⟨_,_,rfl,⟨A,n,rfl,N⟩,⟨_,_,rfl,⟨B,o,rfl,O⟩,⟨c,a,rfl,C⟩⟩⟩,⟨d,b,rfl,D⟩⟩⟩⟩:=h;obtain⟨p,rfl,F⟩:=qax P;exact⟨p,r,f,s,g,t,k3,u,i,v,k,y,l,z,m,A,n,B,o,c,a,d,b,rfl,F,H,s2,I,J,K,L,M,N,O,C,D⟩
structure Tl05Place where
 instance_:Int
 pin:Int
 net:Int
 drives:Bool
instance gt_Tl05Place:GoT Tl05Place:=isoT (pairT instInt (pairT instInt (pairT instInt instBool))) (fun x=>(x.instance_,x.pin,x.net,x.drives)) ⟨0,0,0,false⟩ Z true (fun h=>by cases h)
instance fl_Tl05Place:Flat Tl05Place:=qir (pairT instInt (pairT instInt (pairT instInt instBool))) (fun x:Tl05Place=>(x.instance_,x.pin,x.net,x.drives)) ⟨0,0,0,false⟩ Z true (fun h=>by cases h) (qbq _ _ (inferInstanceAs (Flat Int)) (qbq _ _ (inferInstanceAs (Flat Int)) (qbq _ _ (inferInstanceAs (Flat Int)) (inferInstanceAs (Flat Bool)))))
abbrev qmu(x:Tl05Place):List Value:=[vi x.instance_,vi x.pin,vi x.net,.bool x.drives]
theorem qb4{x:Tl05Place}{cs:List Value}(h:GoT.R w S x cs):cs=(qmu x):=by
 obtain⟨_,_,rfl,rfl,⟨_,_,rfl,rfl,⟨_,_,rfl,rfl,rfl⟩⟩⟩:=h;exact Z
theorem qfY(x:Tl05Place):GoT.R w S x (qmu x):=have h:=pR (rI x.instance_) (pR (rI x.pin) (pR (rI x.net) (rB x.drives)));h
structure qR where
 e0:Int
 e1:Int
instance gt_TA2_Int:GoT qR:=isoT (pairT instInt instInt) (fun x=>(x.e0,x.e1)) ⟨0,0⟩ Z true (fun h=>by cases h)
instance fl_TA2_Int:Flat qR:=qir (pairT instInt instInt) (fun x:qR=>(x.e0,x.e1)) ⟨0,0⟩ Z true (fun h=>by cases h) (qbq _ _ (inferInstanceAs (Flat Int)) (inferInstanceAs (Flat Int)))
abbrev qtZ(x:qR):List Value:=[vi x.e0,vi x.e1]
theorem qvh{x:qR}{cs:List Value}(h:GoT.R w S x cs):cs=(qtZ x):=by
 obtain⟨_,_,rfl,rfl,rfl⟩:=h;exact Z
theorem qdl(x:qR):GoT.R w S x (qtZ x):=have h:=pR (rI x.e0) (rI x.e1);h
structure Tweight where
 index:Int
 part:Int
instance gt_Tweight:GoT Tweight:=isoT (pairT instInt instInt) (fun x=>(x.index,x.part)) ⟨0,0⟩ Z true (fun h=>by cases h)
instance fl_Tweight:Flat Tweight:=qir (pairT instInt instInt) (fun x:Tweight=>(x.index,x.part)) ⟨0,0⟩ Z true (fun h=>by cases h) (qbq _ _ (inferInstanceAs (Flat Int)) (inferInstanceAs (Flat Int)))
abbrev qre(x:Tweight):List Value:=[vi x.index,vi x.part]
theorem qp9{x:Tweight}{cs:List Value}(h:GoT.R w S x cs):cs=(qre x):=by
 obtain⟨_,_,rfl,rfl,rfl⟩:=h;exact Z
theorem qoq(x:Tweight):GoT.R w S x (qre x):=have h:=pR (rI x.index) (rI x.part);h
def tab:Tab:=[ (2,⟨.int .i64,1,8,V (vi 0),[]⟩),(3,⟨.int .i64,1,8,V (vi 0),[]⟩),(4,⟨.bool,1,1,V (.bool false),[]⟩),(5,⟨.int .u8,1,1,V (.int .u8 0),[]⟩),(9,⟨.str,1,16,V (.string ByteArray.empty),[]⟩),(22,⟨.slice 229,1,24,V (.slice U 0 0),[]⟩),(24,⟨.struct,1,24,V (.agg #[.slice U 0 0]),[(0,1,V false)]⟩),(25,⟨.slice 232,1,24,V (.slice U 0 0),[]⟩),(26,⟨.slice 9,1,24,V (.slice U 0 0),[]⟩),(27,⟨.slice 235,1,24,V (.slice U 0 0),[]⟩),(29,⟨.struct,3,72,V (.agg #[.slice U 0 0,.slice U 0 0,.slice U 0 0]),[(0,1,V false),(1,1,V false),(2,1,V false)]⟩),(30,⟨.slice 175,1,24,V (.slice U 0 0),[]⟩),(32,⟨.struct,5,120,V (.agg #[.slice U 0 0,.slice U 0 0,.slice U 0 0,.slice U 0 0,.slice U 0 0]),[(0,1,V true),(1,3,V true),(4,1,V false)]⟩),(34,⟨.struct,5,48,V (.agg #[.string ByteArray.empty,vi 0,vi 0,vi 0,vi 0]),[(0,1,V false),(1,1,V false),(2,1,V false),(3,1,V false),(4,1,V false)]⟩),(35,⟨.slice 2,1,24,V (.slice U 0 0),[]⟩),(36,⟨.slice 132,1,24,V (.slice U 0 0),[]⟩),(38,⟨.struct,12,216,V (.agg #[.slice U 0 0,.slice U 0 0,.slice U 0 0,.slice U 0 0,.slice U 0 0,.string ByteArray.empty,vi 0,vi 0,vi 0,vi 0,.slice U 0 0,.slice U 0 0]),[(0,5,V true),(5,5,V true),(10,1,V false),(11,1,V false)]⟩),(41,⟨.struct,3,40,V (.agg #[vi 0,.slice U 0 0,vi 0]),[(0,1,V false),(1,1,V false),(2,1,V false)]⟩),(44,⟨.slice 251,1,24,V (.slice U 0 0),[]⟩),(46,⟨.struct,1,24,V (.agg #[.slice U 0 0]),[(0,1,V false)]⟩),(47,⟨.slice 253,1,24,V (.slice U 0 0),[]⟩),(48,⟨.slice 255,1,24,V (.slice U 0 0),[]⟩),(50,⟨.struct,3,72,V (.agg #[.slice U 0 0,.slice U 0 0,.slice U 0 0]),[(0,1,V false),(1,1,V false),(2,1,V false)]⟩),(51,⟨.slice 183,1,24,V (.slice U 0 0),[]⟩),(53,⟨.struct,5,120,V (.agg #[.slice U 0 0,.slice U 0 0,.slice U 0 0,.slice U 0 0,.slice U 0 0]),[(0,1,V true),(1,3,V true),(4,1,V false)]⟩),(54,⟨.struct,5,48,V (.agg #[.string ByteArray.empty,vi 0,vi 0,vi 0,vi 0]),[(0,1,V false),(1,1,V false),(2,1,V false),(3,1,V false),(4,1,V false)]⟩),(55,⟨.slice 128,1,24,V (.slice U 0 0),[]⟩),(57,⟨.struct,12,216,V (.agg #[.slice U 0 0,.slice U 0 0,.slice U 0 0,.slice U 0 0,.slice U 0 0,.string ByteArray.empty,vi 0,vi 0,vi 0,vi 0,.slice U 0 0,.slice U 0 0]),[(0,5,V true),(5,5,V true),(10,1,V false),(11,1,V false)]⟩),(64,⟨.slice 41,1,24,V (.slice U 0 0),[]⟩),(83,⟨.ptr,1,8,V (.pointer U),[]⟩),(102,⟨.struct,2,16,V (.agg #[vi 0,vi 0]),[(0,1,V false),(1,1,V false)]⟩),(108,⟨.slice 4,1,24,V (.slice U 0 0),[]⟩),(109,⟨.slice 102,1,24,V (.slice U 0 0),[]⟩),(111,⟨.struct,3,72,V (.agg #[.slice U 0 0,.slice U 0 0,.slice U 0 0]),[(0,1,V false),(1,1,V false),(2,1,V false)]⟩),(112,⟨.slice 154,1,24,V (.slice U 0 0),[]⟩),(114,⟨.struct,17,336,V (.agg #[.slice U 0 0,.slice U 0 0,.slice U 0 0,.slice U 0 0,.slice U 0 0,.string ByteArray.empty,vi 0,vi 0,vi 0,vi 0,.slice U 0 0,.slice U 0 0,.slice U 0 0,.slice U 0 0,.slice U 0 0,.slice U 0 0,.slice U 0 0]),[(0,12,V true),(12,1,V false),(13,1,V false),(14,3,V true)]⟩),(115,⟨.ptr,1,8,V (.pointer U),[]⟩),(117,⟨.struct,17,320,V (.agg #[.pointer U,.slice U 0 0,.slice U 0 0,.slice U 0 0,.slice U 0 0,.slice U 0 0,.string ByteArray.empty,vi 0,vi 0,vi 0,vi 0,.slice U 0 0,.slice U 0 0,.slice U 0 0,.slice U 0 0,.slice U 0 0,.slice U 0 0]),[(0,1,V false),(1,12,V true),(13,3,V true),(16,1,V false)]⟩),(128,⟨.struct,5,40,V (.agg #[vi 0,vi 0,vi 0,vi 0,vi 0]),[(0,1,V false),(1,2,V true),(3,2,V true)]⟩),(130,⟨.struct,2,16,V (.agg #[vi 0,vi 0]),[(0,1,V false),(1,1,V false)]⟩),(132,⟨.struct,5,40,V (.agg #[vi 0,vi 0,vi 0,vi 0,vi 0]),[(0,1,V false),(1,2,V true),(3,2,V true)]⟩),(136,⟨.ptr,1,8,V (.pointer U),[]⟩),(138,⟨.struct,2,32,V (.agg #[.pointer U,.slice U 0 0]),[(0,1,V false),(1,1,V false)]⟩),(154,⟨.struct,4,32,V (.agg #[vi 0,vi 0,vi 0,vi 0]),[(0,1,V false),(1,1,V false),(2,1,V false),(3,1,V false)]⟩),(158,⟨.slice 193,1,24,V (.slice U 0 0),[]⟩),(159,⟨.slice 35,1,24,V (.slice U 0 0),[]⟩),(161,⟨.struct,10,240,V (.agg #[.slice U 0 0,.slice U 0 0,.slice U 0 0,.slice U 0 0,.slice U 0 0,.slice U 0 0,.slice U 0 0,.slice U 0 0,.slice U 0 0,.slice U 0 0]),[(0,5,V true),(5,1,V false),(6,1,V false),(7,1,V false),(8,1,V false),(9,1,V false)]⟩),(162,⟨.other,1,8,V (.nilFunc),[]⟩),(175,⟨.struct,4,96,V (.agg #[.slice U 0 0,.slice U 0 0,.slice U 0 0,.slice U 0 0]),[(0,1,V false),(1,1,V false),(2,1,V false),(3,1,V false)]⟩),(183,⟨.struct,4,96,V (.agg #[.slice U 0 0,.slice U 0 0,.slice U 0 0,.slice U 0 0]),[(0,1,V false),(1,1,V false),(2,1,V false),(3,1,V false)]⟩),(193,⟨.struct,4,32,V (.agg #[vi 0,vi 0,vi 0,.bool false]),[(0,1,V false),(1,1,V false),(2,1,V false),(3,1,V false)]⟩),(209,⟨.slice 287,1,24,V (.slice U 0 0),[]⟩),(221,⟨.int .u64,1,8,V (.int .u64 0),[]⟩),(222,⟨.slice 3,1,24,V (.slice U 0 0),[]⟩),(226,⟨.slice 342,1,24,V (.slice U 0 0),[]⟩),(227,⟨.slice 346,1,24,V (.slice U 0 0),[]⟩),(229,⟨.struct,7,112,V (.agg #[.string ByteArray.empty,vi 0,.slice U 0 0,.slice U 0 0,.slice U 0 0,vi 0,vi 0]),[(0,1,V false),(1,1,V false),(2,1,V false),(3,1,V false),(4,1,V false),(5,1,V false),(6,1,V false)]⟩),(232,⟨.struct,3,48,V (.agg #[.string ByteArray.empty,vi 0,.slice U 0 0]),[(0,1,V false),(1,1,V false),(2,1,V false)]⟩),(235,⟨.struct,3,32,V (.agg #[.string ByteArray.empty,vi 0,vi 0]),[(0,1,V false),(1,1,V false),(2,1,V false)]⟩),(236,⟨.slice 243,1,24,V (.slice U 0 0),[]⟩),(238,⟨.struct,6,80,V (.agg #[vi 0,vi 0,vi 0,vi 0,.slice U 0 0,.slice U 0 0]),[(0,1,V false),(1,1,V false),(2,1,V false),(3,1,V false),(4,1,V false),(5,1,V false)]⟩),(243,⟨.struct,3,72,V (.agg #[.slice U 0 0,.slice U 0 0,.slice U 0 0]),[(0,1,V false),(1,1,V false),(2,1,V false)]⟩),(248,⟨.slice 328,1,24,V (.slice U 0 0),[]⟩),(249,⟨.slice 238,1,24,V (.slice U 0 0),[]⟩),(251,⟨.struct,7,112,V (.agg #[.string ByteArray.empty,vi 0,.slice U 0 0,.slice U 0 0,.slice U 0 0,vi 0,vi 0]),[(0,1,V false),(1,1,V false),(2,1,V false),(3,1,V false),(4,1,V false),(5,1,V false),(6,1,V false)]⟩),(253,⟨.struct,3,48,V (.agg #[.string ByteArray.empty,vi 0,.slice U 0 0]),[(0,1,V false),(1,1,V false),(2,1,V false)]⟩),(255,⟨.struct,3,32,V (.agg #[.string ByteArray.empty,vi 0,vi 0]),[(0,1,V false),(1,1,V false),(2,1,V false)]⟩),(257,⟨.ptr,1,8,V (.pointer U),[]⟩),(287,⟨.struct,4,32,V (.agg #[vi 0,vi 0,vi 0,.bool false]),[(0,1,V false),(1,1,V false),(2,1,V false),(3,1,V false)]⟩),(326,⟨.slice 5,1,24,V (.slice U 0 0),[]⟩),(328,⟨.struct,4,40,V (.agg #[.string ByteArray.empty,vi 0,vi 0,.bool false]),[(0,1,V false),(1,1,V false),(2,1,V false),(3,1,V false)]⟩),(342,⟨.struct,4,40,V (.agg #[.string ByteArray.empty,vi 0,vi 0,.bool false]),[(0,1,V false),(1,1,V false),(2,1,V false),(3,1,V false)]⟩),(344,⟨.slice 390,1,24,V (.slice U 0 0),[]⟩),(346,⟨.struct,6,80,V (.agg #[vi 0,vi 0,vi 0,vi 0,.slice U 0 0,.slice U 0 0]),[(0,1,V false),(1,1,V false),(2,1,V false),(3,1,V false),(4,1,V false),(5,1,V false)]⟩),(357,⟨.slice 359,1,24,V (.slice U 0 0),[]⟩),(359,⟨.arr 2 2,2,16,V (.agg #[vi 0,vi 0]),[]⟩),(362,⟨.slice 366,1,24,V (.slice U 0 0),[]⟩),(366,⟨.struct,2,16,V (.agg #[vi 0,vi 0]),[(0,1,V false),(1,1,V false)]⟩),(390,⟨.struct,3,72,V (.agg #[.slice U 0 0,.slice U 0 0,.slice U 0 0]),[(0,1,V false),(1,1,V false),(2,1,V false)]⟩)]
theorem qa:TabOk prog tab:=TabOk.mk (by kernel_rfl)
theorem rp{n:Nat}{Q:Exit->Act->World->Prop}{k:List It}{e:Env}{w:World}{all:Array Oper}{l:List Oper}{a:Op}{d t:Nat}{ps:String}{af:Array Edge}{v:Value}
  (h:pev tab e a=V v) (c:Nat.blt d n=true) (b:Run prog n Q (.ops all l::k) ((d,v)::e) w):Run prog n Q (.ops all (⟨V d,a,t,ps,af,U⟩::l)::k) e w:=r_p qa h c b
theorem dp{n:Nat}{Q:Exit->Act->World->Prop}{k:List It}{e:Env}{w:World}{all:Array Oper}{l:List Oper}{a:Op}{d t:Nat}{ps:String}{af:Array Edge}{v:Value}
  (h:pev tab e a=V v) (c:Nat.blt d n=true) (b:RunD prog n Q k all w l ((d,v)::e)):RunD prog n Q k all w (⟨V d,a,t,ps,af,U⟩::l) e:=d_p qa h c b
section
variable{P:Program}{n:Nat}{Q:Exit->Act->World->Prop}{k:List It}{e:Env}{w:World}
theorem zSR{b:Nat}{a:List Oper}{x3:Code}(h:Run P n Q (.ops a.toArray a::.code x3::k) e w):Run P n Q (.code (.seq (.region b a.toArray false) x3)::k) e w:=qab <|qQ h
theorem zKSR{c:Nat}{a:List Oper}{b:Code}(h:Run P n Q (.ops a.toArray a::.code b::k) e w):Run P n Q (.code .skip::.code (.seq (.region c a.toArray false) b)::k) e w:=qcJ <|qab <|qQ h
theorem zNSR{a1:Array Oper}{c:Nat}{a:List Oper}{b:Code}(h:Run P n Q (.ops a.toArray a::.code b::k) e w):Run P n Q (.ops a1 []::.code (.seq (.region c a.toArray false) b)::k) e w:=qak <|qab <|qQ h
theorem zKS{x3:Code}{a:Code}(h:Run P n Q (.code x3::.code a::k) e w):Run P n Q (.code .skip::.code (.seq x3 a)::k) e w:=qcJ <|qab h
theorem zNS{a1:Array Oper}{x3:Code}{a:Code}(h:Run P n Q (.code x3::.code a::k) e w):Run P n Q (.ops a1 []::.code (.seq x3 a)::k) e w:=qak <|qab h
theorem zNSS{a1:Array Oper}{b:Code}{c:Code}{a:Code}(h:Run P n Q (.code b::.code c::.code a::k) e w):Run P n Q (.ops a1 []::.code (.seq (.seq b c) a)::k) e w:=qak <|qab <|qab h
theorem zKSB{a:Nat}{c:Code}{b:Code}(h:Run P n Q (.code c::.blk a::.code b::k) e w):Run P n Q (.code .skip::.code (.seq (.block a c) b)::k) e w:=qcJ <|qab <|qm h
theorem zKSBSR{b:Nat}{f:Nat}{a:List Oper}{d:Code}{c:Code}(h:Run P n Q (.ops a.toArray a::.code d::.blk b::.code c::k) e w):Run P n Q (.code .skip::.code (.seq (.block b (.seq (.region f a.toArray false) d)) c)::k) e w:=qcJ <|qab <|qm <|qab <|qQ h
theorem zSS{a:Code}{b:Code}{x3:Code}(h:Run P n Q (.code a::.code b::.code x3::k) e w):Run P n Q (.code (.seq (.seq a b) x3)::k) e w:=qab <|qab h
theorem zKSS{b:Code}{c:Code}{a:Code}(h:Run P n Q (.code b::.code c::.code a::k) e w):Run P n Q (.code .skip::.code (.seq (.seq b c) a)::k) e w:=qcJ <|qab <|qab h
end
section
variable{w0 w:World}{L:List Ch}{n:Nat}{Q:Exit->Act->World->Prop}{k k':List It}{e e':Env}{all:Array Oper}{l l':List Oper}{z:List Nat}
theorem X0(m:Nat)(a:xs tab n m [] k e [] []=V (k',e',z,z))(b:Run prog n Q k' e' w):Run prog n Q k e w:=((qwj (P:=prog) (Q:=Q) (w:=w) qa m _ _ _ _ _ _ _ _ _ (fun _ h=>by cases h) rfl a).2 rfl).2 b
theorem Y0(m:Nat)(a:xd tab n all m [] l e [] []=V (l',e',z,z))(b:RunD prog n Q k all w l' e'):RunD prog n Q k all w l e:=((qBJ (P:=prog) (Q:=Q) (k:=k) (w:=w) (all:=all) qa m _ _ _ _ _ _ _ _ _ (fun _ h=>by cases h) rfl a).2 rfl).2 b
theorem X1(m:Nat)(i0:Nat){b0 b:Nat}{a:List Value}(h:SH w0 w L)(c:(L[i0]?,xs tab n m [(b0,a)] k e [] [])=(V (oX b0 a b),V (k',e',z,z)))(f:Run prog n Q k' e' w):Run prog n Q k e w:=by
 simp only[Prod.mk.injEq] at c;exact((qwj (P:=prog) (Q:=Q) (w:=w) qa m _ _ _ _ _ _ _ _ _ (fun p d=>by
  simp only[Je,jU,or_false] at d;rcases d with rfl
  ·exact h.box i0 c.1) Z c.2).2 Z).2 f
theorem Y1(m:Nat)(i0:Nat){b0 b:Nat}{a:List Value}(h:SH w0 w L)(c:(L[i0]?,xd tab n all m [(b0,a)] l e [] [])=(V (oX b0 a b),V (l',e',z,z)))(f:RunD prog n Q k all w l' e'):RunD prog n Q k all w l e:=by
 simp only[Prod.mk.injEq] at c;exact((qBJ (P:=prog) (Q:=Q) (k:=k) (w:=w) (all:=all) qa m _ _ _ _ _ _ _ _ _ (fun p d=>by
  simp only[Je,jU,or_false] at d;rcases d with rfl
  ·exact h.box i0 c.1) Z c.2).2 Z).2 f
theorem X2(m:Nat)(i0 i1:Nat){b0 b:Nat}{a:List Value}{b1 c:Nat}{cs1:List Value}(h:SH w0 w L)(d:(L[i0]?,L[i1]?,xs tab n m [(b0,a),(b1,cs1)] k e [] [])=(V (oX b0 a b),V (oX b1 cs1 c),V (k',e',z,z)))(g:Run prog n Q k' e' w):Run prog n Q k e w:=by
 simp only[Prod.mk.injEq] at d;exact((qwj (P:=prog) (Q:=Q) (w:=w) qa m _ _ _ _ _ _ _ _ _ (fun p f=>by
  simp only[Je,jU,or_false] at f;rcases f with rfl|rfl
  ·exact h.box i0 d.1
  ·exact h.box i1 d.2.1) Z d.2.2).2 Z).2 g
theorem X3(m:Nat)(i0 i1 b:Nat){b0 c:Nat}{a:List Value}{b1 d:Nat}{cs1:List Value}{b2 f:Nat}{cs2:List Value}(h:SH w0 w L)(g:(L[i0]?,L[i1]?,L[b]?,xs tab n m [(b0,a),(b1,cs1),(b2,cs2)] k e [] [])=(V (oX b0 a c),V (oX b1 cs1 d),V (oX b2 cs2 f),V (k',e',z,z)))(l:Run prog n Q k' e' w):Run prog n Q k e w:=by
 simp only[Prod.mk.injEq] at g;exact((qwj (P:=prog) (Q:=Q) (w:=w) qa m _ _ _ _ _ _ _ _ _ (fun p i=>by
  simp only[Je,jU,or_false] at i;rcases i with rfl|rfl|rfl
  ·exact h.box i0 g.1
  ·exact h.box i1 g.2.1
  ·exact h.box b g.2.2.1) Z g.2.2.2).2 Z).2 l
theorem X4(m:Nat)(i0 i1 b c:Nat){b0 d:Nat}{a:List Value}{b1 f:Nat}{cs1:List Value}{b2 g:Nat}{cs2:List Value}{b3 i:Nat}{cs3:List Value}(h:SH w0 w L)(l:(L[i0]?,L[i1]?,L[b]?,L[c]?,xs tab n m [(b0,a),(b1,cs1),(b2,cs2),(b3,cs3)] k e [] [])=(V (oX b0 a d),V (oX b1 cs1 f),V (oX b2 cs2 g),V (oX b3 cs3 i),V (k',e',z,z)))(r:Run prog n Q k' e' w):Run prog n Q k e w:=by
 simp only[Prod.mk.injEq] at l;exact((qwj (P:=prog) (Q:=Q) (w:=w) qa m _ _ _ _ _ _ _ _ _ (fun p o=>by
  simp only[Je,jU,or_false] at o;rcases o with rfl|rfl|rfl|rfl
  ·exact h.box i0 l.1
  ·exact h.box i1 l.2.1
  ·exact h.box b l.2.2.1
  ·exact h.box c l.2.2.2.1) Z l.2.2.2.2).2 Z).2 r
end
section
variable{w0 w:World}{L:List Ch}{n:Nat}{Q:Exit->Act->World->Prop}{k:List It}{e:Env}{all:Array Oper}{l:List Oper}
theorem zp1{a:Op}{b g:Nat}{f:String}{d:Array Edge}{c:Value}(h:(pev tab (e) a,Nat.blt b n)=(V c,true))(i:Run prog n Q (.ops all l::k) ((b,c)::e) w):Run prog n Q (.ops all (⟨V b,a,g,f,d,U⟩::l)::k) e w:=by
 have H:=h;simp only[Prod.mk.injEq] at H;exact rp (H.1) (H.2) (i)
theorem zd1{a:Op}{b g:Nat}{f:String}{d:Array Edge}{c:Value}(h:(pev tab (e) a,Nat.blt b n)=(V c,true))(i:RunD prog n Q k all w l ((b,c)::e)):RunD prog n Q k all w (⟨V b,a,g,f,d,U⟩::l) e:=by
 have H:=h;simp only[Prod.mk.injEq] at H;exact dp (H.1) (H.2) (i)
theorem zp2{a:Op}{c r:Nat}{o:String}{i:Array Edge}{f:Value}{b:Op}{d s:Nat}{p:String}{m:Array Edge}{g:Value}(h:(pev tab (e) a,Nat.blt c n,pev tab ((c,f)::e) b,Nat.blt d n)=(V f,true,V g,true))(t:Run prog n Q (.ops all l::k) ((d,g)::(c,f)::e) w):Run prog n Q (.ops all (⟨V c,a,r,o,i,U⟩::⟨V d,b,s,p,m,U⟩::l)::k) e w:=by
 have H:=h;simp only[Prod.mk.injEq] at H;exact rp (H.1) (H.2.1) (rp (H.2.2.1) (H.2.2.2) (t))
theorem zd2{a:Op}{c r:Nat}{o:String}{i:Array Edge}{f:Value}{b:Op}{d s:Nat}{p:String}{m:Array Edge}{g:Value}(h:(pev tab (e) a,Nat.blt c n,pev tab ((c,f)::e) b,Nat.blt d n)=(V f,true,V g,true))(t:RunD prog n Q k all w l ((d,g)::(c,f)::e)):RunD prog n Q k all w (⟨V c,a,r,o,i,U⟩::⟨V d,b,s,p,m,U⟩::l) e:=by
 have H:=h;simp only[Prod.mk.injEq] at H;exact dp (H.1) (H.2.1) (dp (H.2.2.1) (H.2.2.2) (t))
theorem zp3{b:Op}{a t:Nat}{r:String}{m:Array Edge}{f:Value}{c:Op}{d u:Nat}{s:String}{o:Array Edge}{g:Value}{op2:Op}{d2 v:Nat}{s2:String}{p:Array Edge}{i:Value}(h:(pev tab (e) b,Nat.blt a n,pev tab ((a,f)::e) c,Nat.blt d n,pev tab ((d,g)::(a,f)::e) op2,Nat.blt d2 n)=(V f,true,V g,true,V i,true))(x:Run prog n Q (.ops all l::k) ((d2,i)::(d,g)::(a,f)::e) w):Run prog n Q (.ops all (⟨V a,b,t,r,m,U⟩::⟨V d,c,u,s,o,U⟩::⟨V d2,op2,v,s2,p,U⟩::l)::k) e w:=by
 have H:=h;simp only[Prod.mk.injEq] at H;exact rp (H.1) (H.2.1) (rp (H.2.2.1) (H.2.2.2.1) (rp (H.2.2.2.2.1) (H.2.2.2.2.2) (x)))
theorem zd3{b:Op}{a t:Nat}{r:String}{m:Array Edge}{f:Value}{c:Op}{d u:Nat}{s:String}{o:Array Edge}{g:Value}{op2:Op}{d2 v:Nat}{s2:String}{p:Array Edge}{i:Value}(h:(pev tab (e) b,Nat.blt a n,pev tab ((a,f)::e) c,Nat.blt d n,pev tab ((d,g)::(a,f)::e) op2,Nat.blt d2 n)=(V f,true,V g,true,V i,true))(x:RunD prog n Q k all w l ((d2,i)::(d,g)::(a,f)::e)):RunD prog n Q k all w (⟨V a,b,t,r,m,U⟩::⟨V d,c,u,s,o,U⟩::⟨V d2,op2,v,s2,p,U⟩::l) e:=by
 have H:=h;simp only[Prod.mk.injEq] at H;exact dp (H.1) (H.2.1) (dp (H.2.2.1) (H.2.2.2.1) (dp (H.2.2.2.2.1) (H.2.2.2.2.2) (x)))
theorem zp4{c:Op}{a z:Nat}{v:String}{r:Array Edge}{g:Value}{d:Op}{b A:Nat}{x:String}{s:Array Edge}{i:Value}{op2:Op}{d2 B:Nat}{s2:String}{t:Array Edge}{o:Value}{f:Op}{m C:Nat}{y:String}{u:Array Edge}{p:Value}(h:(pev tab (e) c,Nat.blt a n,pev tab ((a,g)::e) d,Nat.blt b n,pev tab ((b,i)::(a,g)::e) op2,Nat.blt d2 n,pev tab ((d2,o)::(b,i)::(a,g)::e) f,Nat.blt m n)=(V g,true,V i,true,V o,true,V p,true))(D:Run prog n Q (.ops all l::k) ((m,p)::(d2,o)::(b,i)::(a,g)::e) w):Run prog n Q (.ops all (⟨V a,c,z,v,r,U⟩::⟨V b,d,A,x,s,U⟩::⟨V d2,op2,B,s2,t,U⟩::⟨V m,f,C,y,u,U⟩::l)::k) e w:=by
 have H:=h;simp only[Prod.mk.injEq] at H;exact rp (H.1) (H.2.1) (rp (H.2.2.1) (H.2.2.2.1) (rp (H.2.2.2.2.1) (H.2.2.2.2.2.1) (rp (H.2.2.2.2.2.2.1) (H.2.2.2.2.2.2.2) (D))))
theorem zd4{c:Op}{a z:Nat}{v:String}{r:Array Edge}{g:Value}{d:Op}{b A:Nat}{x:String}{s:Array Edge}{i:Value}{op2:Op}{d2 B:Nat}{s2:String}{t:Array Edge}{o:Value}{f:Op}{m C:Nat}{y:String}{u:Array Edge}{p:Value}(h:(pev tab (e) c,Nat.blt a n,pev tab ((a,g)::e) d,Nat.blt b n,pev tab ((b,i)::(a,g)::e) op2,Nat.blt d2 n,pev tab ((d2,o)::(b,i)::(a,g)::e) f,Nat.blt m n)=(V g,true,V i,true,V o,true,V p,true))(D:RunD prog n Q k all w l ((m,p)::(d2,o)::(b,i)::(a,g)::e)):RunD prog n Q k all w (⟨V a,c,z,v,r,U⟩::⟨V b,d,A,x,s,U⟩::⟨V d2,op2,B,s2,t,U⟩::⟨V m,f,C,y,u,U⟩::l) e:=by
 have H:=h;simp only[Prod.mk.injEq] at H;exact dp (H.1) (H.2.1) (dp (H.2.2.1) (H.2.2.2.1) (dp (H.2.2.2.2.1) (H.2.2.2.2.2.1) (dp (H.2.2.2.2.2.2.1) (H.2.2.2.2.2.2.2) (D))))
theorem zp5{d:Op}{a D:Nat}{z:String}{t:Array Edge}{c:Value}{f:Op}{b F:Nat}{A:String}{u:Array Edge}{i:Value}{op2:Op}{d2 I:Nat}{s2:String}{v:Array Edge}{o:Value}{g:Op}{m J:Nat}{B:String}{x:Array Edge}{r:Value}{op4:Op}{p K:Nat}{C:String}{y:Array Edge}{s:Value}(h:(pev tab (e) d,Nat.blt a n,pev tab ((a,c)::e) f,Nat.blt b n,pev tab ((b,i)::(a,c)::e) op2,Nat.blt d2 n,pev tab ((d2,o)::(b,i)::(a,c)::e) g,Nat.blt m n,pev tab ((m,r)::(d2,o)::(b,i)::(a,c)::e) op4,Nat.blt p n)=(V c,true,V i,true,V o,true,V r,true,V s,true))(L:Run prog n Q (.ops all l::k) ((p,s)::(m,r)::(d2,o)::(b,i)::(a,c)::e) w):Run prog n Q (.ops all (⟨V a,d,D,z,t,U⟩::⟨V b,f,F,A,u,U⟩::⟨V d2,op2,I,s2,v,U⟩::⟨V m,g,J,B,x,U⟩::⟨V p,op4,K,C,y,U⟩::l)::k) e w:=by
 have H:=h;simp only[Prod.mk.injEq] at H;exact rp (H.1) (H.2.1) (rp (H.2.2.1) (H.2.2.2.1) (rp (H.2.2.2.2.1) (H.2.2.2.2.2.1) (rp (H.2.2.2.2.2.2.1) (H.2.2.2.2.2.2.2.1) (rp (H.2.2.2.2.2.2.2.2.1) (H.2.2.2.2.2.2.2.2.2) (L)))))
theorem zd5{d:Op}{a D:Nat}{z:String}{t:Array Edge}{c:Value}{f:Op}{b F:Nat}{A:String}{u:Array Edge}{i:Value}{op2:Op}{d2 I:Nat}{s2:String}{v:Array Edge}{o:Value}{g:Op}{m J:Nat}{B:String}{x:Array Edge}{r:Value}{op4:Op}{p K:Nat}{C:String}{y:Array Edge}{s:Value}(h:(pev tab (e) d,Nat.blt a n,pev tab ((a,c)::e) f,Nat.blt b n,pev tab ((b,i)::(a,c)::e) op2,Nat.blt d2 n,pev tab ((d2,o)::(b,i)::(a,c)::e) g,Nat.blt m n,pev tab ((m,r)::(d2,o)::(b,i)::(a,c)::e) op4,Nat.blt p n)=(V c,true,V i,true,V o,true,V r,true,V s,true))(L:RunD prog n Q k all w l ((p,s)::(m,r)::(d2,o)::(b,i)::(a,c)::e)):RunD prog n Q k all w (⟨V a,d,D,z,t,U⟩::⟨V b,f,F,A,u,U⟩::⟨V d2,op2,I,s2,v,U⟩::⟨V m,g,J,B,x,U⟩::⟨V p,op4,K,C,y,U⟩::l) e:=by
 have H:=h;simp only[Prod.mk.injEq] at H;exact dp (H.1) (H.2.1) (dp (H.2.2.1) (H.2.2.2.1) (dp (H.2.2.2.2.1) (H.2.2.2.2.2.1) (dp (H.2.2.2.2.2.2.1) (H.2.2.2.2.2.2.2.1) (dp (H.2.2.2.2.2.2.2.2.1) (H.2.2.2.2.2.2.2.2.2) (L)))))
theorem zl(i j:Nat){d t ty:Nat}{x:Operand}{c:TE}{ps:String}{af:Array Edge}{v:Value}{b:Nat}{cs:List Value}{g:TypeId}(h:SH w0 w L)(a:(L[i]?,opv e x,tab.get t,ld c cs j,Nat.blt d n)=(V (oX b cs g),V (.pointer (V ⟨b,0+j,U⟩)),V c,V v,true))
  (f:Run prog n Q (.ops all l::k) ((d,v)::e) w):Run prog n Q (.ops all (⟨V d,.load t x,ty,ps,af,U⟩::l)::k) e w:=by
 simp only[Prod.mk.injEq] at a;exact r_v (qfS qa (h.box i a.1) (j:=j) a.2.1 a.2.2.1 a.2.2.2.1) a.2.2.2.2 f
theorem zc(j:Nat){d t ty:Nat}{x:Operand}{c:TE}{ps:String}{af:Array Edge}{v:Value}{b o:Nat}{cs:List Value}(h:CellsAt w b o cs)(a:(opv e x,tab.get t,ld c cs j,Nat.blt d n)=(V (.pointer (V ⟨b,o+j,U⟩)),V c,V v,true))
  (f:Run prog n Q (.ops all l::k) ((d,v)::e) w):Run prog n Q (.ops all (⟨V d,.load t x,ty,ps,af,U⟩::l)::k) e w:=by
 simp only[Prod.mk.injEq] at a;exact r_v (qfS qa h (j:=j) a.1 a.2.1 a.2.2.1) a.2.2.2 f
theorem zdc(j:Nat){d t ty:Nat}{x:Operand}{c:TE}{ps:String}{af:Array Edge}{v:Value}{b o:Nat}{cs:List Value}(h:CellsAt w b o cs)(a:(opv e x,tab.get t,ld c cs j,Nat.blt d n)=(V (.pointer (V ⟨b,o+j,U⟩)),V c,V v,true))
  (g:RunD prog n Q k all w l ((d,v)::e)):RunD prog n Q k all w (⟨V d,.load t x,ty,ps,af,U⟩::l) e:=by
 simp only[Prod.mk.injEq] at a;exact d_v (fun _ f=>qfS qa (h.below f) (j:=j) a.1 a.2.1 a.2.2.1) a.2.2.2 g
theorem zx{x i:Operand}{t ty d el m:Nat}{r a:TE}{ps:String}{af:Array Edge}{p:Option Addr}{h c:Nat}{y:IntKind}{iv:Int}{b o q:Nat}(u:p=V ⟨b,o,U⟩)(v:q=o+iv.toNat*m)(g:0<=iv/\iv<h)(f:(opv e x,opv e i,tab.get t,r.kind,tab.get el,a.size,Nat.blt d n)=(V (oS p h c),V (.int y iv),V r,TK.slice el,V a,m,true))(s:Run prog n Q (.ops all l::k) ((d,.pointer (V ⟨b,q,U⟩))::e) w):Run prog n Q (.ops all (⟨V d,.indexAddr t x i,ty,ps,af,U⟩::l)::k) e w:=by
 simp only[Prod.mk.injEq] at f;exact r_v (qvI qa u v g f.1 f.2.1 f.2.2.1 f.2.2.2.1 f.2.2.2.2.1 f.2.2.2.2.2.1) f.2.2.2.2.2.2 s
theorem zxe{x i:Operand}{t ty d el m:Nat}{h a:TE}{ps:String}{af:Array Edge}{p:Option Addr}{g c:Nat}{y:IntKind}{iv:Int}{b o q:Nat}{α:Prop}(u:p=V ⟨b,o,U⟩)(v:q=o+iv.toNat*m)(f:0<=iv/\iv<g/\α)(r:(opv e x,opv e i,tab.get t,h.kind,tab.get el,a.size,Nat.blt d n)=(V (oS p g c),V (.int y iv),V h,TK.slice el,V a,m,true))(s:Run prog n Q (.ops all l::k) ((d,.pointer (V ⟨b,q,U⟩))::e) w):Run prog n Q (.ops all (⟨V d,.indexAddr t x i,ty,ps,af,U⟩::l)::k) e w:=zx u v ⟨f.1,f.2.1⟩ r s
theorem zdx{x i:Operand}{t ty d el m:Nat}{r a:TE}{ps:String}{af:Array Edge}{p:Option Addr}{h c:Nat}{y:IntKind}{iv:Int}{b o q:Nat}(u:p=V ⟨b,o,U⟩)(v:q=o+iv.toNat*m)(g:0<=iv/\iv<h)(f:(opv e x,opv e i,tab.get t,r.kind,tab.get el,a.size,Nat.blt d n)=(V (oS p h c),V (.int y iv),V r,TK.slice el,V a,m,true))(s:RunD prog n Q k all w l ((d,.pointer (V ⟨b,q,U⟩))::e)):RunD prog n Q k all w (⟨V d,.indexAddr t x i,ty,ps,af,U⟩::l) e:=by
 simp only[Prod.mk.injEq] at f;exact d_v (fun _ _=>qvI qa u v g f.1 f.2.1 f.2.2.1 f.2.2.2.1 f.2.2.2.2.1 f.2.2.2.2.2.1) f.2.2.2.2.2.2 s
theorem zdxe{x i:Operand}{t ty d el m:Nat}{h a:TE}{ps:String}{af:Array Edge}{p:Option Addr}{g c:Nat}{y:IntKind}{iv:Int}{b o q:Nat}{α:Prop}(u:p=V ⟨b,o,U⟩)(v:q=o+iv.toNat*m)(f:0<=iv/\iv<g/\α)(r:(opv e x,opv e i,tab.get t,h.kind,tab.get el,a.size,Nat.blt d n)=(V (oS p g c),V (.int y iv),V h,TK.slice el,V a,m,true))(s:RunD prog n Q k all w l ((d,.pointer (V ⟨b,q,U⟩))::e)):RunD prog n Q k all w (⟨V d,.indexAddr t x i,ty,ps,af,U⟩::l) e:=zdx u v ⟨f.1,f.2.1⟩ r s
theorem zs(i:Nat){t ty:Nat}{ps:String}{af:Array Edge}{x v:Operand}{D:TE}{b j:Nat}{cs A z:List Value}{C:TypeId}{u:Value}{L':List Ch}(h:SH w0 w L)
  (B:(L[i]?,opv e x,opv e v,cellsL u,tab.get t,Nat.beq A.length D.size,Nat.ble (j+A.length) cs.length,ones A,splN cs j A,setN L i (oX b z C))=(V (oX b cs C),V (.pointer (V ⟨b,j,U⟩)),V u,A,V D,true,true,true,V z,V L'))
  (F:∀w',SH w0 w' L'->Run prog n Q (.ops all l::k) e w'):Run prog n Q (.ops all (⟨U,.store t x v,ty,ps,af,U⟩::l)::k) e w:=by
 simp only[Prod.mk.injEq] at B;obtain⟨d,f,g,m,o,p,r,s,y,a⟩:=B;subst m;have e1:=qu9 y;have c:=qx2 a;subst e1 c;exact qBc qa i h d f g o p r s F
end
section
variable{P:Program}{fnc:Func}{R:Ending->World->Prop}{n:Nat}{k:List It}{e:Env}{w0 w:World}{ops:Array Oper}{st:List Nat}{fuel:Nat}
theorem M0(K:Nat)(is:List Nat){C:World->Prop}{m K0 f a:Nat}{e':Env}{z:List Nat}(b:C w)(c:xa tab n ops is [] f e [] []=V (a,e',z,z))
  (d:RunA prog n (bodyPost prog fnc R) k ops st C a (bits m K) e' w) (g:oka ops st is (bits m K0) (bits m K)=true:=by kernel_rfl):RunA prog n (bodyPost prog fnc R) k ops st C f (bits m K0) e w:=by
 exact((qvq (C:=C) (w:=w) (P:=prog) qa b is _ _ _ _ _ _ _ _ _ _ _ (fun _ h=>by cases h) rfl c g).2 rfl).2 d
theorem G0(K:Nat)(is:List Nat){C:World->Prop}{m K0 f a:Nat}{e':Env}{z:List Nat}{all:Array Oper}(b:C w)(c:xa tab n ops is [] f e [] []=V (a,e',z,z))
  (d:RunA prog n (bodyPost prog fnc R) k ops st C a (bits m K) e' w) (g:oka ops st is (bits m K0) (bits m K)=true:=by kernel_rfl):Run prog n (bodyPost prog fnc R) (.ops all []::.goal (NextA prog n (bodyPost prog fnc R) k ops st C f (bits m K0))::k) e w:=
 Ag b (M0 K is (C:=C) b c d g)
theorem M1(K:Nat)(is:List Nat)(i0:Nat){b0 b:Nat}{a:List Value}{LA:List Ch}{m K0 f d:Nat}{e':Env}{z:List Nat}(h:SH w0 w LA)(c:(LA[i0]?,xa tab n ops is [(b0,a)] f e [] [])=(V (oX b0 a b),V (d,e',z,z)))
  (i:RunA prog n (bodyPost prog fnc R) k ops st (fun w'=>SH w0 w' LA) d (bits m K) e' w) (l:oka ops st is (bits m K0) (bits m K)=true:=by kernel_rfl):RunA prog n (bodyPost prog fnc R) k ops st (fun w'=>SH w0 w' LA) f (bits m K0) e w:=by
 simp only[Prod.mk.injEq] at c;exact((qvq (C:=(fun w'=>SH w0 w' LA)) (w:=w) (P:=prog) qa h is _ _ _ _ _ _ _ _ _ _ _ (fun p g _ o=>by
  simp only[Je,jU,or_false] at g;rcases g with rfl
  ·exact SH.box o i0 c.1) Z c.2 l).2 Z).2 i
theorem M2(K:Nat)(is:List Nat)(i0 i1:Nat){b0 b:Nat}{a:List Value}{b1 c:Nat}{cs1:List Value}{LA:List Ch}{m K0 f g:Nat}{e':Env}{z:List Nat}(l:SH w0 w LA)(d:(LA[i0]?,LA[i1]?,xa tab n ops is [(b0,a),(b1,cs1)] f e [] [])=(V (oX b0 a b),V (oX b1 cs1 c),V (g,e',z,z)))
  (o:RunA prog n (bodyPost prog fnc R) k ops st (fun w'=>SH w0 w' LA) g (bits m K) e' w) (r:oka ops st is (bits m K0) (bits m K)=true:=by kernel_rfl):RunA prog n (bodyPost prog fnc R) k ops st (fun w'=>SH w0 w' LA) f (bits m K0) e w:=by
 simp only[Prod.mk.injEq] at d;exact((qvq (C:=(fun w'=>SH w0 w' LA)) (w:=w) (P:=prog) qa l is _ _ _ _ _ _ _ _ _ _ _ (fun p h _ i=>by
  simp only[Je,jU,or_false] at h;rcases h with rfl|rfl
  ·exact SH.box i i0 d.1
  ·exact SH.box i i1 d.2.1) Z d.2.2 r).2 Z).2 o
theorem M3(K:Nat)(is:List Nat)(i0 i1 b:Nat){b0 c:Nat}{a:List Value}{b1 d:Nat}{cs1:List Value}{b2 g:Nat}{cs2:List Value}{LA:List Ch}{m K0 f l:Nat}{e':Env}{z:List Nat}(r:SH w0 w LA)(h:(LA[i0]?,LA[i1]?,LA[b]?,xa tab n ops is [(b0,a),(b1,cs1),(b2,cs2)] f e [] [])=(V (oX b0 a c),V (oX b1 cs1 d),V (oX b2 cs2 g),V (l,e',z,z)))
  (s:RunA prog n (bodyPost prog fnc R) k ops st (fun w'=>SH w0 w' LA) l (bits m K) e' w) (t:oka ops st is (bits m K0) (bits m K)=true:=by kernel_rfl):RunA prog n (bodyPost prog fnc R) k ops st (fun w'=>SH w0 w' LA) f (bits m K0) e w:=by
 simp only[Prod.mk.injEq] at h;exact((qvq (C:=(fun w'=>SH w0 w' LA)) (w:=w) (P:=prog) qa r is _ _ _ _ _ _ _ _ _ _ _ (fun p o _ i=>by
  simp only[Je,jU,or_false] at o;rcases o with rfl|rfl|rfl
  ·exact SH.box i i0 h.1
  ·exact SH.box i i1 h.2.1
  ·exact SH.box i b h.2.2.1) Z h.2.2.2 t).2 Z).2 s
theorem M4(K:Nat)(is:List Nat)(i0 i1 b c:Nat){b0 d:Nat}{a:List Value}{b1 g:Nat}{cs1:List Value}{b2 h:Nat}{cs2:List Value}{b3 i:Nat}{cs3:List Value}{LA:List Ch}{m K0 f r:Nat}{e':Env}{z:List Nat}(t:SH w0 w LA)(l:(LA[i0]?,LA[i1]?,LA[b]?,LA[c]?,xa tab n ops is [(b0,a),(b1,cs1),(b2,cs2),(b3,cs3)] f e [] [])=(V (oX b0 a d),V (oX b1 cs1 g),V (oX b2 cs2 h),V (oX b3 cs3 i),V (r,e',z,z)))
  (u:RunA prog n (bodyPost prog fnc R) k ops st (fun w'=>SH w0 w' LA) r (bits m K) e' w) (v:oka ops st is (bits m K0) (bits m K)=true:=by kernel_rfl):RunA prog n (bodyPost prog fnc R) k ops st (fun w'=>SH w0 w' LA) f (bits m K0) e w:=by
 simp only[Prod.mk.injEq] at l;exact((qvq (C:=(fun w'=>SH w0 w' LA)) (w:=w) (P:=prog) qa t is _ _ _ _ _ _ _ _ _ _ _ (fun p s _ o=>by
  simp only[Je,jU,or_false] at s;rcases s with rfl|rfl|rfl|rfl
  ·exact SH.box o i0 l.1
  ·exact SH.box o i1 l.2.1
  ·exact SH.box o b l.2.2.1
  ·exact SH.box o c l.2.2.2.1) Z l.2.2.2.2 v).2 Z).2 u
theorem Aw(i K:Nat){C:World->Prop}{m K0 d:Nat}{b:Op}{t:Nat}{ps:String}{af:Array Edge}{v:Value}(l:∀w',C w'->Val prog n e ⟨V d,b,t,ps,af,U⟩ w' v)(c:C w)(a:(ops[i]?,Nat.blt d n)=(V (⟨V d,b,t,ps,af,U⟩:Oper),true))
  (g:RunA prog n (bodyPost prog fnc R) k ops st C fuel (bits m K) ((d,v)::e) w) (h:(bits m K0).setIfInBounds i true=bits m K:=by kernel_rfl)
  (f:(Region.noSelect ops&&Region.free .any ops (bits m K0) i&&(Region.ready .any ops (bits m K0)).contains i&&st.all (fun s=>!(Nat.beq s i)&&waitsB ops i s&&!((bits m K0).getD s true)))=true:=by kernel_rfl) :
  RunA prog n (bodyPost prog fnc R) k ops st C (fuel+1) (bits m K0) e w:=by
 simp only[Prod.mk.injEq] at a;exact qc6 i a.1 _ h f l c a.2 g
theorem Al(i K j:Nat){LA:List Ch}{m K0 d t ty b o:Nat}{x:Operand}{c:TE}{ps:String}{af:Array Edge}{v:Value}{cs:List Value}(h:CellsAt w0 b o cs)(f:SH w0 w LA)
  (a:(ops[i]?,opv e x,tab.get t,ld c cs j,Nat.blt d n)=(V (⟨V d,.load t x,ty,ps,af,U⟩:Oper),V (.pointer (V ⟨b,o+j,U⟩)),V c,V v,true))
  (l:RunA prog n (bodyPost prog fnc R) k ops st (fun w'=>SH w0 w' LA) fuel (bits m K) ((d,v)::e) w) (p:(bits m K0).setIfInBounds i true=bits m K:=by kernel_rfl)
  (g:(Region.noSelect ops&&Region.free .any ops (bits m K0) i&&(Region.ready .any ops (bits m K0)).contains i&&st.all (fun s=>!(Nat.beq s i)&&waitsB ops i s&&!((bits m K0).getD s true)))=true:=by kernel_rfl) :
  RunA prog n (bodyPost prog fnc R) k ops st (fun w'=>SH w0 w' LA) (fuel+1) (bits m K0) e w:=by
 simp only[Prod.mk.injEq] at a;exact qc6 i a.1 _ p g (fun w' r=>qfS qa (h.below r.below) (j:=j) a.2.1 a.2.2.1 a.2.2.2.1) f a.2.2.2.2 l
theorem Ax(i K:Nat){C:World->Prop}{m K0 d t ty el q:Nat}{x ix:Operand}{r a:TE}{ps:String}{af:Array Edge}{p:Option Addr}{h c l:Nat}{D:IntKind}{iv:Int}{b o:Nat}(A:p=V ⟨b,o,U⟩)(B:q=o+iv.toNat*l)(g:0<=iv/\iv<h)(u:C w)
  (f:(ops[i]?,opv e x,opv e ix,tab.get t,r.kind,tab.get el,a.size,Nat.blt d n)=(V (⟨V d,.indexAddr t x ix,ty,ps,af,U⟩:Oper),V (oS p h c),V (.int D iv),V r,TK.slice el,V a,l,true))
  (y:RunA prog n (bodyPost prog fnc R) k ops st C fuel (bits m K) ((d,.pointer (V ⟨b,q,U⟩))::e) w) (z:(bits m K0).setIfInBounds i true=bits m K:=by kernel_rfl)
  (v:(Region.noSelect ops&&Region.free .any ops (bits m K0) i&&(Region.ready .any ops (bits m K0)).contains i&&st.all (fun s=>!(Nat.beq s i)&&waitsB ops i s&&!((bits m K0).getD s true)))=true:=by kernel_rfl) :
  RunA prog n (bodyPost prog fnc R) k ops st C (fuel+1) (bits m K0) e w:=by
 simp only[Prod.mk.injEq] at f;exact qc6 i f.1 _ z v (fun w' _=>qvI qa A B g f.2.1 f.2.2.1 f.2.2.2.1 f.2.2.2.2.1 f.2.2.2.2.2.1 f.2.2.2.2.2.2.1) u f.2.2.2.2.2.2.2 y
theorem Ae(i K:Nat){C:World->Prop}{m K0 d t ty el q:Nat}{x ix:Operand}{l a:TE}{ps:String}{af:Array Edge}{p:Option Addr}{g c h:Nat}{D:IntKind}{iv:Int}{b o:Nat}{α:Prop}(A:p=V ⟨b,o,U⟩)(B:q=o+iv.toNat*h)(f:0<=iv/\iv<g/\α)(r:C w)
  (v:(ops[i]?,opv e x,opv e ix,tab.get t,l.kind,tab.get el,a.size,Nat.blt d n)=(V (⟨V d,.indexAddr t x ix,ty,ps,af,U⟩:Oper),V (oS p g c),V (.int D iv),V l,TK.slice el,V a,h,true))
  (y:RunA prog n (bodyPost prog fnc R) k ops st C fuel (bits m K) ((d,.pointer (V ⟨b,q,U⟩))::e) w) (z:(bits m K0).setIfInBounds i true=bits m K:=by kernel_rfl)
  (u:(Region.noSelect ops&&Region.free .any ops (bits m K0) i&&(Region.ready .any ops (bits m K0)).contains i&&st.all (fun s=>!(Nat.beq s i)&&waitsB ops i s&&!((bits m K0).getD s true)))=true:=by kernel_rfl) :
  RunA prog n (bodyPost prog fnc R) k ops st C (fuel+1) (bits m K0) e w:=Ax i K A B ⟨f.1,f.2.1⟩ r v y z u
theorem rb{a:Func}{L:List Ch}{x r:Bool}(h:SH w0 w L)(F:V x=V r)(b:res1 e a.results.toList=V (.bool x)) :
  Run prog n (bodyPost prog a fun e w'=>∃v,e=.returned v/\Below w0.heap.size w0 w'/\∃us,v=tup us/\GoVs.Vs w' (fresh w0 w') r us) (.code .ret::k) e w:=qCA qa h F (qxW b)
theorem ri{a:Func}{L:List Ch}{x r:Int}(h:SH w0 w L)(F:V x=V r)(b:res1 e a.results.toList=V (vi x)) :
  Run prog n (bodyPost prog a fun e w'=>∃v,e=.returned v/\Below w0.heap.size w0 w'/\∃us,v=tup us/\GoVs.Vs w' (fresh w0 w') r us) (.code .ret::k) e w:=qCB qa h F (qxW b)
theorem rO{a:Func}{L:List Ch}{α:Type}[GoT α]{r:α}{S:Nat->Prop}{cs:List Value}(i:Nat)(h:SH w0 w L)(hi:L[i]?=V (oW S r cs))(b:ResOk tab e w a.results.toList [oV α cs]) :
  Run prog n (bodyPost prog a fun e w'=>∃v,e=.returned v/\Below w0.heap.size w0 w'/\∃us,v=tup us/\GoVs.Vs w' (fresh w0 w') r us) (.code .ret::k) e w:=qac qa _ h b (PV.done h (qah (qad i h hi)))
theorem zV{ρ:Type}[GoVs ρ]{f:FuncId}{a:Func}{c:Code}{vs:List Value}{r:ρ}(m:Nat)(d:prog.funcs[f]?=V a)(b:(a.body,a.ntmps,Nat.ble vs.length m)=(V c,m,true))
  (h:SH w w []->Run prog m (bodyPost prog a fun e w'=>∃v,e=.returned v/\Below w.heap.size w w'/\∃us,v=tup us/\GoVs.Vs w' (fresh w w') r us) [.code c] (argEnv 0 vs) w):RetV prog f vs w r:=by
 simp only[Prod.mk.injEq] at b;exact qvM d b.1 b.2.1 b.2.2 h
end
section
variable{w0 w:World}{L:List Ch}{n:Nat}{Q:Exit->Act->World->Prop}{k:List It}{e:Env}{all:Array Oper}{l:List Oper}{d ty:Nat}{ps:String}{af:Array Edge}{x:Operand}{args:Array Operand}{ats:Array TypeId}{f:FuncId}{fi ca:Array Value}{av vs:List Value}{β:Type}{rr:β}
theorem zcI{F:Option Int}{g:Int->Option β}(h:SH w0 w L)(c:F.bind g=V rr)(m:∀{r},F=V r->RetV prog f vs w r)
  (b:(opv e x,opvs e args.toList,fi.toList++av++ca.toList,Nat.blt d n)=(V (.func (.func f) fi ca),V av,vs,true))
  (o:∀r w' ,SH w0 w' (L)->g r=V rr->Run prog n Q (.ops all l::k) ((d,vi r)::e) w') (a:qep prog f:=by exact cA Z):Run prog n Q (.ops all (⟨V d,.call ⟨.value x,args,ats⟩,ty,ps,af,U⟩::l)::k) e w:=by
 obtain⟨r,p,c⟩:=qc c;simp only[Prod.mk.injEq] at b;exact qcF r h a (m p) b.1 b.2.1 b.2.2.1 b.2.2.2 (fun w'  i=>o r w'  i c)
theorem zcB{F:Option Bool}{g:Bool->Option β}(h:SH w0 w L)(c:F.bind g=V rr)(m:∀{r},F=V r->RetV prog f vs w r)
  (b:(opv e x,opvs e args.toList,fi.toList++av++ca.toList,Nat.blt d n)=(V (.func (.func f) fi ca),V av,vs,true))
  (o:∀r w' ,SH w0 w' (L)->g r=V rr->Run prog n Q (.ops all l::k) ((d,.bool r)::e) w') (a:qep prog f:=by exact cA Z):Run prog n Q (.ops all (⟨V d,.call ⟨.value x,args,ats⟩,ty,ps,af,U⟩::l)::k) e w:=by
 obtain⟨r,p,c⟩:=qc c;simp only[Prod.mk.injEq] at b;exact qBD r h a (m p) b.1 b.2.1 b.2.2.1 b.2.2.2 (fun w'  i=>o r w'  i c)
theorem zcS{F:Option ByteArray}{g:ByteArray->Option β}(h:SH w0 w L)(c:F.bind g=V rr)(m:∀{r},F=V r->RetV prog f vs w r)
  (b:(opv e x,opvs e args.toList,fi.toList++av++ca.toList,Nat.blt d n)=(V (.func (.func f) fi ca),V av,vs,true))
  (o:∀r w' ,SH w0 w' (L)->g r=V rr->Run prog n Q (.ops all l::k) ((d,.string r)::e) w') (a:qep prog f:=by exact cA Z):Run prog n Q (.ops all (⟨V d,.call ⟨.value x,args,ats⟩,ty,ps,af,U⟩::l)::k) e w:=by
 obtain⟨r,p,c⟩:=qc c;simp only[Prod.mk.injEq] at b;exact qBf r h a (m p) b.1 b.2.1 b.2.2.1 b.2.2.2 (fun w'  i=>o r w'  i c)
theorem zcL{α:Type}[GoT α]{F:Option (List α)}{g:(List α)->Option β}(h:SH w0 w L)(i:F.bind g=V rr)(o:∀{r},F=V r->RetV prog f vs w r)
  (b:(opv e x,opvs e args.toList,fi.toList++av++ca.toList,Nat.blt d n)=(V (.func (.func f) fi ca),V av,vs,true))
  (s:∀r w' S p c,SH w0 w' (oW S r [oS p r.length c]::L)->g r=V rr->Run prog n Q (.ops all l::k) ((d,oS p r.length c)::e) w') (a:qep prog f:=by exact cA Z):Run prog n Q (.ops all (⟨V d,.call ⟨.value x,args,ats⟩,ty,ps,af,U⟩::l)::k) e w:=by
 obtain⟨r,t,i⟩:=qc i;simp only[Prod.mk.injEq] at b;exact qlc r h a (o t) b.1 b.2.1 b.2.2.1 b.2.2.2 (fun w' S p c m=>s r w' S p c m i)
theorem zcO{α:Type}[GoT α]{F:Option α}{g:α->Option β}(h:SH w0 w L)(c:F.bind g=V rr)(m:∀{r},F=V r->RetV prog f vs w r)
  (b:(opv e x,opvs e args.toList,fi.toList++av++ca.toList,Nat.blt d n)=(V (.func (.func f) fi ca),V av,vs,true))
  (o:∀r w' S cs,SH w0 w' (oW S r cs::L)->g r=V rr->Run prog n Q (.ops all l::k) ((d,oV α cs)::e) w') (a:qep prog f:=by exact cA Z):Run prog n Q (.ops all (⟨V d,.call ⟨.value x,args,ats⟩,ty,ps,af,U⟩::l)::k) e w:=by
 obtain⟨r,p,c⟩:=qc c;simp only[Prod.mk.injEq] at b;exact qnz r h a (m p) b.1 b.2.1 b.2.2.1 b.2.2.2 (fun w' S cs i=>o r w' S cs i c)
end
def noC:List Nat:=[0,1,308,334]
theorem allC:((List.range 347).all fun f=>noC.contains f || callB prog f)=true:=by kernel_rfl
theorem cA{f:Nat}(h:(Nat.blt f 347&&!noC.contains f)=true):qep prog f:=by
 rw[jf,Nat.blt_eq,jI] at h;have:=List.all_eq_true.1 allC f (List.mem_range.2 h.1);rw[h.2] at this;exact qz2 this
theorem cB(f:Nat)(h:(Nat.blt f 347&&!noC.contains f)=true):qep prog f:=cA h
def qcc(_:Nat)(a:(List Int))(left:Int):Option Int:=bif decide ((W64 (left-(a.length:Int)))<0) then V (-1) else V (W64 (left-(a.length:Int)))
theorem qbN{a:(List Int)}{left}(b:Ro w a cs1){r:Int}(F:qcc n a left=V r):RetV prog 24 [oV (List Int) cs1,vi left] w r:=by
 obtain⟨_,_,rfl,_⟩:=b;refine zV 12 func24 Z fun h=>X0 18 Z (qg Z F ?_ ?_)<;>intro F
 ·exact X0 4 Z (ri h F Z)
 exact X0 6 Z (ri h F Z)
def ql2(_:Nat)(a:qan)(left:Int):Option Int:=bif decide ((W64 (left-(a.Bc.size:Int)))<0) then V (-1) else V (W64 (left-(a.Bc.size:Int)))
theorem qtG{a:qan}{left}(b:Ro w a cs1){r:Int}(F:ql2 n a left=V r):RetV prog 244 [oV qan cs1,vi left] w r:=by
 obtain rfl:=qa0 b;refine zV 13 func244 Z fun h=>zSR (qx h Z Z fun _ _ h=>X1 17 0 h Z (qg Z F ?_ ?_))<;>intro F
 ·exact X0 4 Z (ri h F Z)
 exact X0 6 Z (ri h F Z)
def qgv(a:(List qan)):Nat->Int->Int->Option (Flow Int (Int×Int))|0,_,_=>U|n+1,i1,b=>bif decide (b<(a.length:Int)) then(idx a b).bind fun d=>(ql2 n d i1).bind fun c=>bif decide (c<0) then V (.ret (-1)) else qgv a n c (W64 (b+1)) else V (.nxt (i1,b))
def qoT(n:Nat)(a:(List qan))(left:Int):Option Int:=bif decide ((W64 (left-(a.length:Int)))<0) then V (-1) else(qgv a n (W64 (left-(a.length:Int))) 0).bind fun|.ret r=>V r|.nxt (i1,_)=>V i1
theorem qsC{a:(List qan)}{left}(c:Ro w a cs1){r:Int}(F:qoT n a left=V r):RetV prog 194 [oV (List qan) cs1,vi left] w r:=by
 obtain⟨t,p,rfl,u⟩:=c;refine zV 27 func194 Z fun h=>X0 18 Z (qg Z F ?_ ?_)<;>intro F
 ·exact X0 4 Z (ri h F Z)
 refine X0 6 Z ?_;obtain⟨s,F,b⟩:=qc F;refine qm (rL (fun m e w'=>∃i1 l,qgv a m i1 l=V s/\e=[(0,oS t a.length p),(1,vi i1),(5,vi l)]/\SH w w' []) n ⟨_,_,F,rfl,h⟩ Z ?_);rintro o _ _ ⟨i1,l,F,rfl,h⟩;rcases o with _|o
 ·cases F
 refine X0 8 Z (qg Z F ?_ ?_)<;>intro F
 ·refine X0 7 Z ?_;obtain⟨v,_,F,f,_,_,_,_,g,i,k,d⟩:=u.ix F;obtain rfl:=qa0 k;refine zxe g i f Z (zc 0 (d.below h.below) Z (zp1 Z (zcI h F (qtG (qew v)) Z fun _ _ h F=>X0 7 Z (qg Z F ?_ ?_))))<;>intro F
  ·refine X0 4 Z ?_;obtain rfl:=qb F;replace F:=b;exact ri h F Z
  exact X0 7 Z (rK ⟨_,_,F,rfl,h⟩ Z)
 refine qr Z ?_;obtain rfl:=qb F;replace F:=b;exact X0 5 Z (ri h F Z)
def qjq(n:Nat)(a:qv)(left:Int):Option Int:=(qcc n a.Bo left).bind fun b=>bif decide (b<0) then V (-1) else(qcc n a.Bk b).bind fun c=>bif decide (c<0) then V (-1) else(qcc n a.Bj c).bind fun d=>bif decide (d<0) then V (-1) else V d
theorem qrH{a:qv}{left}(b:Ro w a cs1){r:Int}(F:qjq n a left=V r):RetV prog 298 [oV qv cs1,vi left] w r:=by
 obtain⟨_,_,_,_,_,_,rfl,c,s2,d⟩:=qaJ b;refine zV 24 func298 Z fun h=>zSR (qx h Z Z fun _ _ h=>X1 7 0 h Z (zcI h F (qbN ⟨_,_,rfl,(h.oldS c)⟩) Z fun _ _ h F=>X0 8 Z (qg Z F ?_ ?_)))<;>intro F
 ·exact X0 4 Z (ri h F Z)
 refine X1 6 0 h Z (zcI h F (qbN ⟨_,_,rfl,(h.oldS s2)⟩) Z fun _ _ h F=>X0 8 Z (qg Z F ?_ ?_))<;>intro F
 ·exact X0 4 Z (ri h F Z)
 refine X1 6 0 h Z (zcI h F (qbN ⟨_,_,rfl,(h.oldS d)⟩) Z fun _ _ h F=>X0 8 Z (qg Z F ?_ ?_))<;>intro F
 ·exact X0 4 Z (ri h F Z)
 exact X0 6 Z (ri h F Z)
def qe6(a:(List qv)):Nat->Int->Int->Option (Flow Int (Int×Int))|0,_,_=>U|n+1,i1,b=>bif decide (b<(a.length:Int)) then(idx a b).bind fun d=>(qjq n d i1).bind fun c=>bif decide (c<0) then V (.ret (-1)) else qe6 a n c (W64 (b+1)) else V (.nxt (i1,b))
def qkc(n:Nat)(a:(List qv))(left:Int):Option Int:=bif decide ((W64 (left-(a.length:Int)))<0) then V (-1) else(qe6 a n (W64 (left-(a.length:Int))) 0).bind fun|.ret r=>V r|.nxt (i1,_)=>V i1
theorem qmT{a:(List qv)}{left}(c:Ro w a cs1){r:Int}(F:qkc n a left=V r):RetV prog 277 [oV (List qv) cs1,vi left] w r:=by
 obtain⟨t,p,rfl,u⟩:=c;refine zV 27 func277 Z fun h=>X0 18 Z (qg Z F ?_ ?_)<;>intro F
 ·exact X0 4 Z (ri h F Z)
 refine X0 6 Z ?_;obtain⟨s,F,b⟩:=qc F;refine qm (rL (fun m e w'=>∃i1 l,qe6 a m i1 l=V s/\e=[(0,oS t a.length p),(1,vi i1),(5,vi l)]/\SH w w' []) n ⟨_,_,F,rfl,h⟩ Z ?_);rintro o _ _ ⟨i1,l,F,rfl,h⟩;rcases o with _|o
 ·cases F
 refine X0 8 Z (qg Z F ?_ ?_)<;>intro F
 ·refine X0 7 Z ?_;obtain⟨y,_,F,f,_,_,_,_,g,i,k,d⟩:=u.ix F;obtain⟨_,_,_,_,_,_,rfl,s2,v,x⟩:=qaJ k;refine zxe g i f Z (zc 0 (d.below h.below) Z (zp1 Z (zcI h F (qrH (qfZ y (h.oldS s2) (h.oldS v) (h.oldS x))) Z fun _ _ h F=>X0 7 Z (qg Z F ?_ ?_))))<;>intro F
  ·refine X0 4 Z ?_;obtain rfl:=qb F;replace F:=b;exact ri h F Z
  exact X0 7 Z (rK ⟨_,_,F,rfl,h⟩ Z)
 refine qr Z ?_;obtain rfl:=qb F;replace F:=b;exact X0 5 Z (ri h F Z)
def qlX(n:Nat)(a:qI)(left:Int):Option Int:=(qkc n a.Bp left).bind fun b=>bif decide (b<0) then V (-1) else(qkc n a.Bf b).bind fun c=>bif decide (c<0) then V (-1) else V c
theorem qtr{a:qI}{left}(b:Ro w a cs1){r:Int}(F:qlX n a left=V r):RetV prog 245 [oV qI cs1,vi left] w r:=by
 obtain⟨_,_,_,_,rfl,c,s2⟩:=qaj b;refine zV 18 func245 Z fun h=>zSR (qx h Z Z fun _ _ h=>X1 7 0 h Z (zcI h F (qmT ⟨_,_,rfl,(h.oldS c)⟩) Z fun _ _ h F=>X0 8 Z (qg Z F ?_ ?_)))<;>intro F
 ·exact X0 4 Z (ri h F Z)
 refine X1 6 0 h Z (zcI h F (qmT ⟨_,_,rfl,(h.oldS s2)⟩) Z fun _ _ h F=>X0 8 Z (qg Z F ?_ ?_))<;>intro F
 ·exact X0 4 Z (ri h F Z)
 exact X0 6 Z (ri h F Z)
def qgu(a:(List qI)):Nat->Int->Int->Option (Flow Int (Int×Int))|0,_,_=>U|n+1,i1,b=>bif decide (b<(a.length:Int)) then(idx a b).bind fun d=>(qlX n d i1).bind fun c=>bif decide (c<0) then V (.ret (-1)) else qgu a n c (W64 (b+1)) else V (.nxt (i1,b))
def qoQ(n:Nat)(a:(List qI))(left:Int):Option Int:=bif decide ((W64 (left-(a.length:Int)))<0) then V (-1) else(qgu a n (W64 (left-(a.length:Int))) 0).bind fun|.ret r=>V r|.nxt (i1,_)=>V i1
theorem qsN{a:(List qI)}{left}(c:Ro w a cs1){r:Int}(F:qoQ n a left=V r):RetV prog 195 [oV (List qI) cs1,vi left] w r:=by
 obtain⟨t,p,rfl,u⟩:=c;refine zV 27 func195 Z fun h=>X0 18 Z (qg Z F ?_ ?_)<;>intro F
 ·exact X0 4 Z (ri h F Z)
 refine X0 6 Z ?_;obtain⟨s,F,b⟩:=qc F;refine qm (rL (fun m e w'=>∃i1 l,qgu a m i1 l=V s/\e=[(0,oS t a.length p),(1,vi i1),(5,vi l)]/\SH w w' []) n ⟨_,_,F,rfl,h⟩ Z ?_);rintro o _ _ ⟨i1,l,F,rfl,h⟩;rcases o with _|o
 ·cases F
 refine X0 8 Z (qg Z F ?_ ?_)<;>intro F
 ·refine X0 7 Z ?_;obtain⟨x,_,F,f,_,_,_,_,g,i,k,d⟩:=u.ix F;obtain⟨_,_,_,_,rfl,s2,v⟩:=qaj k;refine zxe g i f Z (zc 0 (d.below h.below) Z (zp1 Z (zcI h F (qtr (qgt x (h.oldS s2) (h.oldS v))) Z fun _ _ h F=>X0 7 Z (qg Z F ?_ ?_))))<;>intro F
  ·refine X0 4 Z ?_;obtain rfl:=qb F;replace F:=b;exact ri h F Z
  exact X0 7 Z (rK ⟨_,_,F,rfl,h⟩ Z)
 refine qr Z ?_;obtain rfl:=qb F;replace F:=b;exact X0 5 Z (ri h F Z)
def qkv(n:Nat)(a:qB)(left:Int):Option Int:=bif decide ((W64 (left-(a.Bc.size:Int)))<0) then V (-1) else(qoT n a.Bg (W64 (left-(a.Bc.size:Int)))).bind fun b=>bif decide (b<0) then V (-1) else(qoQ n a.Ba b).bind fun c=>bif decide (c<0) then V (-1) else(qcc n a.Bq c).bind fun d=>bif decide (d<0) then V (-1) else V d
theorem qsn{a:qB}{left}(b:Ro w a cs1){r:Int}(F:qkv n a left=V r):RetV prog 139 [oV qB cs1,vi left] w r:=by
 obtain⟨_,_,_,_,_,_,rfl,c,s2,d⟩:=qag b;refine zV 31 func139 Z fun h=>zSR (qx h Z Z fun _ _ h=>X1 17 0 h Z (qg Z F ?_ ?_))<;>intro F
 ·exact X0 4 Z (ri h F Z)
 refine X1 6 0 h Z (zcI h F (qsC ⟨_,_,rfl,(h.oldS c)⟩) Z fun _ _ h F=>X0 8 Z (qg Z F ?_ ?_))<;>intro F
 ·exact X0 4 Z (ri h F Z)
 refine X1 6 0 h Z (zcI h F (qsN ⟨_,_,rfl,(h.oldS s2)⟩) Z fun _ _ h F=>X0 8 Z (qg Z F ?_ ?_))<;>intro F
 ·exact X0 4 Z (ri h F Z)
 refine X1 6 0 h Z (zcI h F (qbN ⟨_,_,rfl,(h.oldS d)⟩) Z fun _ _ h F=>X0 8 Z (qg Z F ?_ ?_))<;>intro F
 ·exact X0 4 Z (ri h F Z)
 exact X0 6 Z (ri h F Z)
def qfp(a:(List qB)):Nat->Int->Int->Option (Flow Int (Int×Int))|0,_,_=>U|n+1,i1,b=>bif decide (b<(a.length:Int)) then(idx a b).bind fun d=>(qkv n d i1).bind fun c=>bif decide (c<0) then V (.ret (-1)) else qfp a n c (W64 (b+1)) else V (.nxt (i1,b))
def qnG(n:Nat)(a:(List qB))(left:Int):Option Int:=bif decide ((W64 (left-(a.length:Int)))<0) then V (-1) else(qfp a n (W64 (left-(a.length:Int))) 0).bind fun|.ret r=>V r|.nxt (i1,_)=>V i1
theorem qrV{a:(List qB)}{left}(c:Ro w a cs1){r:Int}(F:qnG n a left=V r):RetV prog 94 [oV (List qB) cs1,vi left] w r:=by
 obtain⟨t,p,rfl,u⟩:=c;refine zV 27 func94 Z fun h=>X0 18 Z (qg Z F ?_ ?_)<;>intro F
 ·exact X0 4 Z (ri h F Z)
 refine X0 6 Z ?_;obtain⟨s,F,b⟩:=qc F;refine qm (rL (fun m e w'=>∃i1 l,qfp a m i1 l=V s/\e=[(0,oS t a.length p),(1,vi i1),(5,vi l)]/\SH w w' []) n ⟨_,_,F,rfl,h⟩ Z ?_);rintro o _ _ ⟨i1,l,F,rfl,h⟩;rcases o with _|o
 ·cases F
 refine X0 8 Z (qg Z F ?_ ?_)<;>intro F
 ·refine X0 7 Z ?_;obtain⟨y,_,F,f,_,_,_,_,g,i,k,d⟩:=u.ix F;obtain⟨_,_,_,_,_,_,rfl,s2,v,x⟩:=qag k;refine zxe g i f Z (zc 0 (d.below h.below) Z (zp1 Z (zcI h F (qsn (qlu y (h.oldS s2) (h.oldS v) (h.oldS x))) Z fun _ _ h F=>X0 7 Z (qg Z F ?_ ?_))))<;>intro F
  ·refine X0 4 Z ?_;obtain rfl:=qb F;replace F:=b;exact ri h F Z
  exact X0 7 Z (rK ⟨_,_,F,rfl,h⟩ Z)
 refine qr Z ?_;obtain rfl:=qb F;replace F:=b;exact X0 5 Z (ri h F Z)
def qjr(n:Nat)(a:qq)(left:Int):Option Int:=(qnG n a.As left).bind fun b=>bif decide (b<0) then V (-1) else V b
theorem qqw{a:qq}{left}(b:Ro w a cs1){r:Int}(F:qjr n a left=V r):RetV prog 56 [oV qq cs1,vi left] w r:=by
 obtain⟨_,_,rfl,c⟩:=qbM b;refine zV 12 func56 Z fun h=>zSR (qx h Z Z fun _ _ h=>X1 7 0 h Z (zcI h F (qrV ⟨_,_,rfl,(h.oldS c)⟩) Z fun _ _ h F=>X0 8 Z (qg Z F ?_ ?_)))<;>intro F
 ·exact X0 4 Z (ri h F Z)
 exact X0 6 Z (ri h F Z)
def qg3(n:Nat)(a:ql)(left:Int):Option Int:=bif decide ((W64 (left-(a.Bc.size:Int)))<0) then V (-1) else(qcc n a.Am (W64 (left-(a.Bc.size:Int)))).bind fun b=>bif decide (b<0) then V (-1) else V b
theorem qpX{a:ql}{left}(b:Ro w a cs1){r:Int}(F:qg3 n a left=V r):RetV prog 140 [oV ql cs1,vi left] w r:=by
 obtain⟨_,_,rfl,c⟩:=qT b;refine zV 19 func140 Z fun h=>zSR (qx h Z Z fun _ _ h=>X1 17 0 h Z (qg Z F ?_ ?_))<;>intro F
 ·exact X0 4 Z (ri h F Z)
 refine X1 6 0 h Z (zcI h F (qbN ⟨_,_,rfl,(h.oldS c)⟩) Z fun _ _ h F=>X0 8 Z (qg Z F ?_ ?_))<;>intro F
 ·exact X0 4 Z (ri h F Z)
 exact X0 6 Z (ri h F Z)
def qda(a:(List ql)):Nat->Int->Int->Option (Flow Int (Int×Int))|0,_,_=>U|n+1,i1,b=>bif decide (b<(a.length:Int)) then(idx a b).bind fun d=>(qg3 n d i1).bind fun c=>bif decide (c<0) then V (.ret (-1)) else qda a n c (W64 (b+1)) else V (.nxt (i1,b))
def qjS(n:Nat)(a:(List ql))(left:Int):Option Int:=bif decide ((W64 (left-(a.length:Int)))<0) then V (-1) else(qda a n (W64 (left-(a.length:Int))) 0).bind fun|.ret r=>V r|.nxt (i1,_)=>V i1
theorem qpp{a:(List ql)}{left}(c:Ro w a cs1){r:Int}(F:qjS n a left=V r):RetV prog 95 [oV (List ql) cs1,vi left] w r:=by
 obtain⟨t,p,rfl,u⟩:=c;refine zV 27 func95 Z fun h=>X0 18 Z (qg Z F ?_ ?_)<;>intro F
 ·exact X0 4 Z (ri h F Z)
 refine X0 6 Z ?_;obtain⟨s,F,b⟩:=qc F;refine qm (rL (fun m e w'=>∃i1 l,qda a m i1 l=V s/\e=[(0,oS t a.length p),(1,vi i1),(5,vi l)]/\SH w w' []) n ⟨_,_,F,rfl,h⟩ Z ?_);rintro o _ _ ⟨i1,l,F,rfl,h⟩;rcases o with _|o
 ·cases F
 refine X0 8 Z (qg Z F ?_ ?_)<;>intro F
 ·refine X0 7 Z ?_;obtain⟨v,_,F,f,_,_,_,_,g,i,k,d⟩:=u.ix F;obtain⟨_,_,rfl,s2⟩:=qT k;refine zxe g i f Z (zc 0 (d.below h.below) Z (zp1 Z (zcI h F (qpX (qha v (h.oldS s2))) Z fun _ _ h F=>X0 7 Z (qg Z F ?_ ?_))))<;>intro F
  ·refine X0 4 Z ?_;obtain rfl:=qb F;replace F:=b;exact ri h F Z
  exact X0 7 Z (rK ⟨_,_,F,rfl,h⟩ Z)
 refine qr Z ?_;obtain rfl:=qb F;replace F:=b;exact X0 5 Z (ri h F Z)
def qd7(a:(List ByteArray)):Nat->Int->Int->Option (Flow Int (Int×Int))|0,_,_=>U|n+1,i1,b=>bif decide (b<(a.length:Int)) then(idx a b).bind fun c=>bif decide ((W64 (i1-(c.size:Int)))<0) then V (.ret (-1)) else qd7 a n (W64 (i1-(c.size:Int))) (W64 (b+1)) else V (.nxt (i1,b))
def ql4(n:Nat)(a:(List ByteArray))(left:Int):Option Int:=bif decide ((W64 (left-(a.length:Int)))<0) then V (-1) else(qd7 a n (W64 (left-(a.length:Int))) 0).bind fun|.ret r=>V r|.nxt (i1,_)=>V i1
theorem qqB{a:(List ByteArray)}{left}(c:Ro w a cs1){r:Int}(F:ql4 n a left=V r):RetV prog 96 [oV (List ByteArray) cs1,vi left] w r:=by
 obtain⟨s,o,rfl,t⟩:=c;refine zV 28 func96 Z fun h=>X0 18 Z (qg Z F ?_ ?_)<;>intro F
 ·exact X0 4 Z (ri h F Z)
 refine X0 6 Z ?_;obtain⟨p,F,b⟩:=qc F;refine qm (rL (fun m e w'=>∃i1 k,qd7 a m i1 k=V p/\e=[(0,oS s a.length o),(1,vi i1),(5,vi k)]/\SH w w' []) n ⟨_,_,F,rfl,h⟩ Z ?_);rintro l _ _ ⟨i1,k,F,rfl,h⟩;rcases l with _|l
 ·cases F
 refine X0 8 Z (qg Z F ?_ ?_)<;>intro F
 ·refine X0 8 Z ?_;obtain⟨_,_,F,f,_,_,_,_,g,i,rfl,d⟩:=t.ix F;refine zxe g i f Z (zc 0 (d.below h.below) Z (X0 9 Z (qg Z F ?_ ?_)))<;>intro F
  ·refine X0 4 Z ?_;obtain rfl:=qb F;replace F:=b;exact ri h F Z
  exact X0 7 Z (rK ⟨_,_,F,rfl,h⟩ Z)
 refine qr Z ?_;obtain rfl:=qb F;replace F:=b;exact X0 5 Z (ri h F Z)
def qkI(_:Nat)(a:qP)(left:Int):Option Int:=bif decide ((W64 (left-(a.Bc.size:Int)))<0) then V (-1) else V (W64 (left-(a.Bc.size:Int)))
theorem qtd{a:qP}{left}(b:Ro w a cs1){r:Int}(F:qkI n a left=V r):RetV prog 141 [oV qP cs1,vi left] w r:=by
 obtain rfl:=qaW b;refine zV 13 func141 Z fun h=>zSR (qx h Z Z fun _ _ h=>X1 17 0 h Z (qg Z F ?_ ?_))<;>intro F
 ·exact X0 4 Z (ri h F Z)
 exact X0 6 Z (ri h F Z)
def qfu(a:(List qP)):Nat->Int->Int->Option (Flow Int (Int×Int))|0,_,_=>U|n+1,i1,b=>bif decide (b<(a.length:Int)) then(idx a b).bind fun d=>(qkI n d i1).bind fun c=>bif decide (c<0) then V (.ret (-1)) else qfu a n c (W64 (b+1)) else V (.nxt (i1,b))
def qnF(n:Nat)(a:(List qP))(left:Int):Option Int:=bif decide ((W64 (left-(a.length:Int)))<0) then V (-1) else(qfu a n (W64 (left-(a.length:Int))) 0).bind fun|.ret r=>V r|.nxt (i1,_)=>V i1
theorem qr8{a:(List qP)}{left}(c:Ro w a cs1){r:Int}(F:qnF n a left=V r):RetV prog 97 [oV (List qP) cs1,vi left] w r:=by
 obtain⟨t,p,rfl,u⟩:=c;refine zV 27 func97 Z fun h=>X0 18 Z (qg Z F ?_ ?_)<;>intro F
 ·exact X0 4 Z (ri h F Z)
 refine X0 6 Z ?_;obtain⟨s,F,b⟩:=qc F;refine qm (rL (fun m e w'=>∃i1 l,qfu a m i1 l=V s/\e=[(0,oS t a.length p),(1,vi i1),(5,vi l)]/\SH w w' []) n ⟨_,_,F,rfl,h⟩ Z ?_);rintro o _ _ ⟨i1,l,F,rfl,h⟩;rcases o with _|o
 ·cases F
 refine X0 8 Z (qg Z F ?_ ?_)<;>intro F
 ·refine X0 7 Z ?_;obtain⟨v,_,F,f,_,_,_,_,g,i,k,d⟩:=u.ix F;obtain rfl:=qaW k;refine zxe g i f Z (zc 0 (d.below h.below) Z (zp1 Z (zcI h F (qtd (qeV v)) Z fun _ _ h F=>X0 7 Z (qg Z F ?_ ?_))))<;>intro F
  ·refine X0 4 Z ?_;obtain rfl:=qb F;replace F:=b;exact ri h F Z
  exact X0 7 Z (rK ⟨_,_,F,rfl,h⟩ Z)
 refine qr Z ?_;obtain rfl:=qb F;replace F:=b;exact X0 5 Z (ri h F Z)
def qkl(n:Nat)(a:qd)(left:Int):Option Int:=(qjS n a.Ab left).bind fun b=>bif decide (b<0) then V (-1) else(ql4 n a.Am b).bind fun c=>bif decide (c<0) then V (-1) else(qnF n a.Aj c).bind fun d=>bif decide (d<0) then V (-1) else V d
theorem qqK{a:qd}{left}(b:Ro w a cs1){r:Int}(F:qkl n a left=V r):RetV prog 57 [oV qd cs1,vi left] w r:=by
 obtain⟨_,_,_,_,_,_,rfl,c,s2,d⟩:=qaD b;refine zV 24 func57 Z fun h=>zSR (qx h Z Z fun _ _ h=>X1 7 0 h Z (zcI h F (qpp ⟨_,_,rfl,(h.oldS c)⟩) Z fun _ _ h F=>X0 8 Z (qg Z F ?_ ?_)))<;>intro F
 ·exact X0 4 Z (ri h F Z)
 refine X1 6 0 h Z (zcI h F (qqB ⟨_,_,rfl,(h.oldS s2)⟩) Z fun _ _ h F=>X0 8 Z (qg Z F ?_ ?_))<;>intro F
 ·exact X0 4 Z (ri h F Z)
 refine X1 6 0 h Z (zcI h F (qr8 ⟨_,_,rfl,(h.oldS d)⟩) Z fun _ _ h F=>X0 8 Z (qg Z F ?_ ?_))<;>intro F
 ·exact X0 4 Z (ri h F Z)
 exact X0 6 Z (ri h F Z)
def qkO(n:Nat)(a:qE)(left:Int):Option Int:=(qcc n a.Ar left).bind fun b=>bif decide (b<0) then V (-1) else(qcc n a.Bz b).bind fun c=>bif decide (c<0) then V (-1) else(qcc n a.Bu c).bind fun d=>bif decide (d<0) then V (-1) else(qcc n a.Bn d).bind fun r4=>bif decide (r4<0) then V (-1) else V r4
theorem qsP{a:qE}{left}(b:Ro w a cs1){r:Int}(F:qkO n a left=V r):RetV prog 98 [oV qE cs1,vi left] w r:=by
 obtain⟨_,_,_,_,_,_,_,_,rfl,c,s2,d,f⟩:=qaR b;refine zV 30 func98 Z fun h=>zSR (qx h Z Z fun _ _ h=>X1 7 0 h Z (zcI h F (qbN ⟨_,_,rfl,(h.oldS c)⟩) Z fun _ _ h F=>X0 8 Z (qg Z F ?_ ?_)))<;>intro F
 ·exact X0 4 Z (ri h F Z)
 refine X1 6 0 h Z (zcI h F (qbN ⟨_,_,rfl,(h.oldS s2)⟩) Z fun _ _ h F=>X0 8 Z (qg Z F ?_ ?_))<;>intro F
 ·exact X0 4 Z (ri h F Z)
 refine X1 6 0 h Z (zcI h F (qbN ⟨_,_,rfl,(h.oldS d)⟩) Z fun _ _ h F=>X0 8 Z (qg Z F ?_ ?_))<;>intro F
 ·exact X0 4 Z (ri h F Z)
 refine X1 6 0 h Z (zcI h F (qbN ⟨_,_,rfl,(h.oldS f)⟩) Z fun _ _ h F=>X0 8 Z (qg Z F ?_ ?_))<;>intro F
 ·exact X0 4 Z (ri h F Z)
 exact X0 6 Z (ri h F Z)
def qfq(a:(List qE)):Nat->Int->Int->Option (Flow Int (Int×Int))|0,_,_=>U|n+1,i1,b=>bif decide (b<(a.length:Int)) then(idx a b).bind fun d=>(qkO n d i1).bind fun c=>bif decide (c<0) then V (.ret (-1)) else qfq a n c (W64 (b+1)) else V (.nxt (i1,b))
def qnm(n:Nat)(a:(List qE))(left:Int):Option Int:=bif decide ((W64 (left-(a.length:Int)))<0) then V (-1) else(qfq a n (W64 (left-(a.length:Int))) 0).bind fun|.ret r=>V r|.nxt (i1,_)=>V i1
theorem qrL{a:(List qE)}{left}(c:Ro w a cs1){r:Int}(F:qnm n a left=V r):RetV prog 58 [oV (List qE) cs1,vi left] w r:=by
 obtain⟨t,p,rfl,u⟩:=c;refine zV 27 func58 Z fun h=>X0 18 Z (qg Z F ?_ ?_)<;>intro F
 ·exact X0 4 Z (ri h F Z)
 refine X0 6 Z ?_;obtain⟨s,F,b⟩:=qc F;refine qm (rL (fun m e w'=>∃i1 l,qfq a m i1 l=V s/\e=[(0,oS t a.length p),(1,vi i1),(5,vi l)]/\SH w w' []) n ⟨_,_,F,rfl,h⟩ Z ?_);rintro o _ _ ⟨i1,l,F,rfl,h⟩;rcases o with _|o
 ·cases F
 refine X0 8 Z (qg Z F ?_ ?_)<;>intro F
 ·refine X0 7 Z ?_;obtain⟨z,_,F,f,_,_,_,_,g,i,k,d⟩:=u.ix F;obtain⟨_,_,_,_,_,_,_,_,rfl,s2,v,x,y⟩:=qaR k;refine zxe g i f Z (zc 0 (d.below h.below) Z (zp1 Z (zcI h F (qsP (qlv z (h.oldS s2) (h.oldS v) (h.oldS x) (h.oldS y))) Z fun _ _ h F=>X0 7 Z (qg Z F ?_ ?_))))<;>intro F
  ·refine X0 4 Z ?_;obtain rfl:=qb F;replace F:=b;exact ri h F Z
  exact X0 7 Z (rK ⟨_,_,F,rfl,h⟩ Z)
 refine qr Z ?_;obtain rfl:=qb F;replace F:=b;exact X0 5 Z (ri h F Z)
def qla(n:Nat)(a:qj)(left:Int):Option Int:=(qjr n (⟨a.Av.As⟩:qq) left).bind fun b=>bif decide (b<0) then V (-1) else(qkl n (⟨a.Aa.Ab,a.Aa.Am,a.Aa.Aj⟩:qd) b).bind fun c=>bif decide (c<0) then V (-1) else(qnm n a.Ah c).bind fun d=>bif decide (d<0) then V (-1) else V d
theorem qrZ{a:qj}{left}(b:Ro w a cs1){r:Int}(F:qla n a left=V r):RetV prog 22 [oV qj cs1,vi left] w r:=by
 obtain⟨_,_,_,_,_,_,_,_,_,_,rfl,c,s2,d,f,g⟩:=qaf b;refine zV 24 func22 Z fun h=>zSR (qx h Z Z fun _ _ h=>X1 7 0 h Z (zcI h F (qqw (qeH _ (h.oldS c))) Z fun _ _ h F=>X0 8 Z (qg Z F ?_ ?_)))<;>intro F
 ·exact X0 4 Z (ri h F Z)
 refine X1 6 0 h Z (zcI h F (qqK (qay _ (h.oldS s2) (h.oldS d) (h.oldS f))) Z fun _ _ h F=>X0 8 Z (qg Z F ?_ ?_))<;>intro F
 ·exact X0 4 Z (ri h F Z)
 refine X1 6 0 h Z (zcI h F (qrL ⟨_,_,rfl,(h.oldS g)⟩) Z fun _ _ h F=>X0 8 Z (qg Z F ?_ ?_))<;>intro F
 ·exact X0 4 Z (ri h F Z)
 exact X0 6 Z (ri h F Z)
def qf8(a:(List Int)):Nat->(List Int)->Int->Option ((List Int)×Int)|0,_,_=>U|n+1,b,i1=>bif decide (i1<(a.length:Int)) then(idx a i1).bind fun c=>(idx b i1).bind fun _=>qf8 a n (setS b i1 c) (W64 (i1+1)) else V (b,i1)
def qbK(n:Nat)(a:(List Int)):Option (List Int):=(mkS (a.length:Int) (0:Int)).bind fun x1=>(qf8 a n x1 0).bind fun(b,_)=>V b
theorem qbP{a:(List Int)}(i:Ro w a cs1){r:(List Int)}(F:qbK n a=V r):RetV prog 29 [oV (List Int) cs1] w r:=by
 obtain⟨C,A,rfl,D⟩:=i;refine zV 22 func29 Z fun h=>X0 8 Z ?_;obtain⟨x1,b,F⟩:=qc F;obtain⟨y,z,b⟩:=qS b;refine qam qa Int h Z Z Z Z Z Z Z Z Z y z b Z fun _ S1 x h=>X0 7 Z ?_;obtain⟨B,F,g⟩:=qc F;refine qm (rL (fun m e w'=>∃u i1,qf8 a m u i1=V B/\e=[(0,oS C a.length A),(3,oS x x1.length x1.length),(4,vi i1)]/\SH w w' [oW S1 (u:List Int) [oS x x1.length x1.length]]) n ⟨_,_,F,rfl,h⟩ Z ?_);rintro v _ _ ⟨u,i1,F,rfl,h⟩;rcases v with _|v
 ·cases F
 refine X0 8 Z (qg Z F ?_ ?_)<;>intro F
 ·refine X0 8 Z ?_;obtain⟨H,_,F,o,_,_,_,_,p,s,rfl,k⟩:=D.ix F;refine zxe p s o Z (zc 0 (k.below h.below) Z ?_);obtain⟨_,t,F,c,_,_,_,_,d,f,rfl,l⟩:=(h.sl 0 Z).1.ix F;exact zx d f ⟨c.1,qD c.2.1 (h.sl 0 Z).2⟩ Z (qav qa 0 0 H h Z t d f Z l Z Z Z Z Z Z Z fun _ h=>X0 7 Z (rK ⟨_,_,F,rfl,h⟩ Z))
 refine qr Z ?_;obtain rfl:=qb F;replace F:=g;refine X0 5 Z ?_;obtain rfl:=qb F;exact rO 0 h Z ⟨rfl,G⟩
def qlz(_:Nat)(a:qan):Option qan:=V (⟨a.Bc,a.Bx,a.Bu,a.Bt⟩:qan)
theorem qtl{a:qan}(b:Ro w a cs1){r:qan}(F:qlz n a=V r):RetV prog 248 [oV qan cs1] w r:=by
 obtain rfl:=qa0 b;refine zV 17 func248 Z fun h=>zSR (qx h Z Z fun _ _ h=>qp qa h Z Z Z fun _ _ h=>zNSR (qp qa h Z Z Z fun _ _ h=>X1 6 2 h Z (zs 0 h Z fun _ h=>X1 6 2 h Z (zs 0 h Z fun _ h=>X1 6 2 h Z (zs 0 h Z fun _ h=>X1 6 2 h Z (zs 0 h Z fun _ h=>X1 4 0 h Z (zs 1 h Z fun _ h=>qak ?_)))))));obtain rfl:=qb F;exact qac qa (ρ:=qan) [oV qan (qrm a)] h ⟨⟨_,_,_,rfl,rfl,h.box 1 Z,rfl⟩,G⟩ (PV.done h (qah (qz (S:=fun _=>False) (qew (⟨a.Bc,a.Bx,a.Bu,a.Bt⟩:qan)))))
def qhF(a:(List qan)):Nat->(List qan)->Int->Option ((List qan)×Int)|0,_,_=>U|n+1,b,i1=>bif decide (i1<(a.length:Int)) then(idx a i1).bind fun d=>(qlz n d).bind fun c=>(idx b i1).bind fun _=>qhF a n (setS b i1 c) (W64 (i1+1)) else V (b,i1)
def qmq(n:Nat)(a:(List qan)):Option (List qan):=(mkS (a.length:Int) ((⟨ByteArray.empty,0,0,false⟩:qan):qan)).bind fun x1=>(qhF a n x1 0).bind fun(b,_)=>V b
theorem qsk{a:(List qan)}(i:Ro w a cs1){r:(List qan)}(F:qmq n a=V r):RetV prog 200 [oV (List qan) cs1] w r:=by
 obtain⟨I,D,rfl,J⟩:=i;refine zV 23 func200 Z fun h=>X0 8 Z ?_;obtain⟨x1,b,F⟩:=qc F;obtain⟨B,C,b⟩:=qS b;refine qam qa qan h Z Z Z Z Z Z Z Z Z B C b Z fun _ S1 z h=>X0 7 Z ?_;obtain⟨H,F,g⟩:=qc F;refine qm (rL (fun m e w'=>∃x i1,qhF a m x i1=V H/\e=[(0,oS I a.length D),(3,oS z x1.length x1.length),(4,vi i1)]/\SH w w' [oW S1 (x:List qan) [oS z x1.length x1.length]]) n ⟨_,_,F,rfl,h⟩ Z ?_);rintro y _ _ ⟨x,i1,F,rfl,h⟩;rcases y with _|y
 ·cases F
 refine X0 8 Z (qg Z F ?_ ?_)<;>intro F
 ·refine X0 8 Z ?_;obtain⟨K,_,F,o,_,_,_,_,p,s,t,k⟩:=J.ix F;obtain rfl:=qa0 t;refine zxe p s o Z (zc 0 (k.below h.below) Z (zcO h F (qtl (qew K)) Z fun A _ _ _ h F=>?_));obtain rfl:=qa0 (h.own 0 Z);obtain⟨L,v,F,c,_,_,_,_,d,f,u,l⟩:=(h.sl 1 Z).1.ix F;obtain rfl:=qa0 u;refine zx d f ⟨c.1,qD c.2.1 (h.sl 1 Z).2⟩ Z (qav qa 1 0 A h Z v d f (qew L) l Z Z Z (qew A) Z Z Z fun _ h=>X0 7 Z ?_);replace h:=h.p [1] Z;exact rK ⟨_,_,F,rfl,h⟩ Z
 refine qr Z ?_;obtain rfl:=qb F;replace F:=g;refine X0 5 Z ?_;obtain rfl:=qb F;exact rO 0 h Z ⟨rfl,G⟩
def qjl(n:Nat)(a:qv):Option qv:=(qbK n a.Bo).bind fun b=>(qbK n a.Bk).bind fun c=>(qbK n a.Bj).bind fun d=>V (⟨b,c,d⟩:qv)
theorem qr1{a:qv}(b:Ro w a cs1){r:qv}(F:qjl n a=V r):RetV prog 299 [oV qv cs1] w r:=by
 obtain⟨_,_,_,_,_,_,rfl,p,s2,s⟩:=qaJ b;refine zV 17 func299 Z fun h=>zSR (qx h Z Z fun _ _ h=>qp qa h Z Z Z fun _ _ h=>zNSR (qp qa h Z Z Z fun _ _ h=>X1 5 2 h Z (zcL h F (qbP ⟨_,_,rfl,(h.oldS p)⟩) Z fun c _ _ l g h F=>zp1 Z (zs 1 h Z fun _ h=>X1 5 3 h Z (zcL h F (qbP ⟨_,_,rfl,(h.oldS s2)⟩) Z fun d _ _ m i h F=>zp1 Z (zs 2 h Z fun _ h=>X1 5 4 h Z (zcL h F (qbP ⟨_,_,rfl,(h.oldS s)⟩) Z fun f _ _ o k h F=>zp1 Z (zs 3 h Z fun _ h=>X1 4 3 h Z (zs 4 h Z fun _ h=>qak ?_)))))))));obtain rfl:=qb F;exact qac qa (ρ:=qv) [oV qv [oS l c.length g,oS m d.length i,oS o f.length k]] h ⟨⟨_,_,_,rfl,rfl,h.box 4 Z,rfl⟩,G⟩ (PV.done h (qah (qug (⟨c,d,f⟩:qv) h (qad 2 h Z) (qad 1 h Z) (qad 0 h Z) (by rfl) (by rfl))))
def qgg(a:(List qv)):Nat->(List qv)->Int->Option ((List qv)×Int)|0,_,_=>U|n+1,b,i1=>bif decide (i1<(a.length:Int)) then(idx a i1).bind fun d=>(qjl n d).bind fun c=>(idx b i1).bind fun _=>qgg a n (setS b i1 c) (W64 (i1+1)) else V (b,i1)
def qiv(n:Nat)(a:(List qv)):Option (List qv):=(mkS (a.length:Int) ((⟨[],[],[]⟩:qv):qv)).bind fun x1=>(qgg a n x1 0).bind fun(b,_)=>V b
theorem qnj{a:(List qv)}(l:Ro w a cs1){r:(List qv)}(F:qiv n a=V r):RetV prog 278 [oV (List qv) cs1] w r:=by
 obtain⟨I,C,rfl,K⟩:=l;refine zV 23 func278 Z fun h=>X0 8 Z ?_;obtain⟨x1,b,F⟩:=qc F;obtain⟨A,B,b⟩:=qS b;refine qam qa qv h Z Z Z Z Z Z Z Z Z A B b Z fun _ _ z h=>X0 7 Z ?_;obtain⟨D,F,k⟩:=qc F;refine qm (rL (fun m e w'=>∃S2 x i1,qgg a m x i1=V D/\e=[(0,oS I a.length C),(3,oS z x1.length x1.length),(4,vi i1)]/\SH w w' [oW S2 (x:List qv) [oS z x1.length x1.length]]) n ⟨_,_,_,F,rfl,h⟩ Z ?_);rintro y _ _ ⟨S2,x,i1,F,rfl,h⟩;rcases y with _|y
 ·cases F
 refine X0 8 Z (qg Z F ?_ ?_)<;>intro F
 ·refine X0 8 Z ?_;obtain⟨N,_,F,p,_,_,_,_,s,t,u,o⟩:=K.ix F;obtain⟨_,_,_,_,_,_,rfl,s2,L,M⟩:=qaJ u;refine zxe s t p Z (zc 0 (o.below h.below) Z (zcO h F (qr1 (qfZ N (h.oldS s2) (h.oldS L) (h.oldS M))) Z fun J _ _ _ h F=>?_));obtain⟨_,_,_,_,_,_,rfl,-,-,-⟩:=qaJ (h.own 0 Z);obtain⟨_,c,F⟩:=qc F;have d:=qa4 c;replace h:=h.lrn0 1 Z;obtain⟨_,H,_,_,f,g,-,i,_⟩:=(qii (h.lrnO 1 Z)).1.at c;have v:=i;obtain⟨_,_,_,_,_,_,rfl,_,_,_⟩:=qaJ i;replace h:=h.lrnAdd 1 Z v;refine zx f g ⟨d.1,qD d.2.1 (qii (h.lrnO 1 Z)).2⟩ Z ?_;replace h:=h.unlrn 1 Z;exact qoM qa J h c f g Z Z Z Z Z fun _ _ h=>X0 7 Z (rK ⟨_,_,_,F,rfl,h⟩ Z)
 refine qr Z ?_;obtain rfl:=qb F;replace F:=k;refine X0 5 Z ?_;obtain rfl:=qb F;exact rO 0 h Z ⟨rfl,G⟩
def qlV(n:Nat)(a:qI):Option qI:=(qiv n a.Bp).bind fun b=>(qiv n a.Bf).bind fun c=>V (⟨a.Bi,a.Bl,a.To,a.Br,b,c⟩:qI)
theorem qtp{a:qI}(b:Ro w a cs1){r:qI}(F:qlV n a=V r):RetV prog 249 [oV qI cs1] w r:=by
 obtain⟨_,_,_,_,rfl,k,s2⟩:=qaj b;refine zV 25 func249 Z fun h=>zSR (qx h Z Z fun _ _ h=>qp qa h Z Z Z fun _ _ h=>zNSR (qp qa h Z Z Z fun _ _ h=>X1 6 2 h Z (zs 0 h Z fun _ h=>X1 6 2 h Z (zs 0 h Z fun _ h=>X1 6 2 h Z (zs 0 h Z fun _ h=>X1 6 2 h Z (zs 0 h Z fun _ h=>X1 5 2 h Z (zcL h F (qnj ⟨_,_,rfl,(h.oldS k)⟩) Z fun c _ _ g k3 h F=>zp1 Z (zs 1 h Z fun _ h=>X1 5 3 h Z (zcL h F (qnj ⟨_,_,rfl,(h.oldS s2)⟩) Z fun d _ _ i f h F=>zp1 Z (zs 2 h Z fun _ h=>X1 4 2 h Z (zs 3 h Z fun _ h=>qak ?_)))))))))));obtain rfl:=qb F;exact qac qa (ρ:=qI) [oV qI [vi a.Bi,vi a.Bl,vi a.To,vi a.Br,oS g c.length k3,oS i d.length f]] h ⟨⟨_,_,_,rfl,rfl,h.box 3 Z,rfl⟩,G⟩ (PV.done h (qah (qxV (⟨a.Bi,a.Bl,a.To,a.Br,c,d⟩:qI) h (qz (S:=fun _=>False) Z) (qz (S:=fun _=>False) Z) (qz (S:=fun _=>False) Z) (qz (S:=fun _=>False) Z) (qad 1 h Z) (qad 0 h Z) (by rfl) (by rfl) (by rfl) (by rfl) (by rfl))))
def qhN(a:(List qI)):Nat->(List qI)->Int->Option ((List qI)×Int)|0,_,_=>U|n+1,b,i1=>bif decide (i1<(a.length:Int)) then(idx a i1).bind fun d=>(qlV n d).bind fun c=>(idx b i1).bind fun _=>qhN a n (setS b i1 c) (W64 (i1+1)) else V (b,i1)
def qmm(n:Nat)(a:(List qI)):Option (List qI):=(mkS (a.length:Int) ((⟨0,0,0,0,[],[]⟩:qI):qI)).bind fun x1=>(qhN a n x1 0).bind fun(b,_)=>V b
theorem qsQ{a:(List qI)}(l:Ro w a cs1){r:(List qI)}(F:qmm n a=V r):RetV prog 201 [oV (List qI) cs1] w r:=by
 obtain⟨I,C,rfl,K⟩:=l;refine zV 23 func201 Z fun h=>X0 8 Z ?_;obtain⟨x1,b,F⟩:=qc F;obtain⟨A,B,b⟩:=qS b;refine qam qa qI h Z Z Z Z Z Z Z Z Z A B b Z fun _ _ z h=>X0 7 Z ?_;obtain⟨D,F,k⟩:=qc F;refine qm (rL (fun m e w'=>∃S2 x i1,qhN a m x i1=V D/\e=[(0,oS I a.length C),(3,oS z x1.length x1.length),(4,vi i1)]/\SH w w' [oW S2 (x:List qI) [oS z x1.length x1.length]]) n ⟨_,_,_,F,rfl,h⟩ Z ?_);rintro y _ _ ⟨S2,x,i1,F,rfl,h⟩;rcases y with _|y
 ·cases F
 refine X0 8 Z (qg Z F ?_ ?_)<;>intro F
 ·refine X0 8 Z ?_;obtain⟨M,_,F,p,_,_,_,_,s,t,u,o⟩:=K.ix F;obtain⟨_,_,_,_,rfl,s2,L⟩:=qaj u;refine zxe s t p Z (zc 0 (o.below h.below) Z (zcO h F (qtp (qgt M (h.oldS s2) (h.oldS L))) Z fun J _ _ _ h F=>?_));obtain⟨_,_,_,_,rfl,-,-⟩:=qaj (h.own 0 Z);obtain⟨_,c,F⟩:=qc F;have d:=qa4 c;replace h:=h.lrn0 1 Z;obtain⟨_,H,_,_,f,g,-,i,_⟩:=(qii (h.lrnO 1 Z)).1.at c;have v:=i;obtain⟨_,_,_,_,rfl,_,_⟩:=qaj i;replace h:=h.lrnAdd 1 Z v;refine zx f g ⟨d.1,qD d.2.1 (qii (h.lrnO 1 Z)).2⟩ Z ?_;replace h:=h.unlrn 1 Z;exact qoM qa J h c f g Z Z Z Z Z fun _ _ h=>X0 7 Z (rK ⟨_,_,_,F,rfl,h⟩ Z)
 refine qr Z ?_;obtain rfl:=qb F;replace F:=k;refine X0 5 Z ?_;obtain rfl:=qb F;exact rO 0 h Z ⟨rfl,G⟩
def qkQ(n:Nat)(a:qB):Option qB:=(qmq n a.Bg).bind fun b=>(qmm n a.Ba).bind fun c=>(qbK n a.Bq).bind fun d=>V (⟨a.Bc,a.Bi,b,c,d,a.Cc,a.Bw⟩:qB)
theorem qsl{a:qB}(b:Ro w a cs1){r:qB}(F:qkQ n a=V r):RetV prog 150 [oV qB cs1] w r:=by
 obtain⟨_,_,_,_,_,_,rfl,p,s2,s⟩:=qag b;refine zV 29 func150 Z fun h=>zSR (qx h Z Z fun _ _ h=>qp qa h Z Z Z fun _ _ h=>zNSR (qp qa h Z Z Z fun _ _ h=>X1 6 2 h Z (zs 0 h Z fun _ h=>X1 6 2 h Z (zs 0 h Z fun _ h=>X1 5 2 h Z (zcL h F (qsk ⟨_,_,rfl,(h.oldS p)⟩) Z fun c _ _ l g h F=>zp1 Z (zs 1 h Z fun _ h=>X1 5 3 h Z (zcL h F (qsQ ⟨_,_,rfl,(h.oldS s2)⟩) Z fun d _ _ m i h F=>zp1 Z (zs 2 h Z fun _ h=>X1 5 4 h Z (zcL h F (qbP ⟨_,_,rfl,(h.oldS s)⟩) Z fun f _ _ o k h F=>zp1 Z (zs 3 h Z fun _ h=>X1 6 5 h Z (zs 3 h Z fun _ h=>X1 6 5 h Z (zs 3 h Z fun _ h=>X1 4 3 h Z (zs 4 h Z fun _ h=>qak ?_)))))))))))));obtain rfl:=qb F;exact qac qa (ρ:=qB) [oV qB [.string a.Bc,vi a.Bi,oS l c.length g,oS m d.length i,oS o f.length k,vi a.Cc,vi a.Bw]] h ⟨⟨_,_,_,rfl,rfl,h.box 4 Z,rfl⟩,G⟩ (PV.done h (qah (qvD (⟨a.Bc,a.Bi,c,d,f,a.Cc,a.Bw⟩:qB) h (qz (S:=fun _=>False) Z) (qz (S:=fun _=>False) Z) (qad 2 h Z) (qad 1 h Z) (qad 0 h Z) (qz (S:=fun _=>False) Z) (qz (S:=fun _=>False) Z) (by rfl) (by rfl) (by rfl) (by rfl) (by rfl) (by rfl))))
def qgW(a:(List qB)):Nat->(List qB)->Int->Option ((List qB)×Int)|0,_,_=>U|n+1,b,i1=>bif decide (i1<(a.length:Int)) then(idx a i1).bind fun d=>(qkQ n d).bind fun c=>(idx b i1).bind fun _=>qgW a n (setS b i1 c) (W64 (i1+1)) else V (b,i1)
def qlf(n:Nat)(a:(List qB)):Option (List qB):=(mkS (a.length:Int) ((⟨ByteArray.empty,0,[],[],[],0,0⟩:qB):qB)).bind fun x1=>(qgW a n x1 0).bind fun(b,_)=>V b
theorem qsa{a:(List qB)}(l:Ro w a cs1){r:(List qB)}(F:qlf n a=V r):RetV prog 102 [oV (List qB) cs1] w r:=by
 obtain⟨I,C,rfl,K⟩:=l;refine zV 23 func102 Z fun h=>X0 8 Z ?_;obtain⟨x1,b,F⟩:=qc F;obtain⟨A,B,b⟩:=qS b;refine qam qa qB h Z Z Z Z Z Z Z Z Z A B b Z fun _ _ z h=>X0 7 Z ?_;obtain⟨D,F,k⟩:=qc F;refine qm (rL (fun m e w'=>∃S2 x i1,qgW a m x i1=V D/\e=[(0,oS I a.length C),(3,oS z x1.length x1.length),(4,vi i1)]/\SH w w' [oW S2 (x:List qB) [oS z x1.length x1.length]]) n ⟨_,_,_,F,rfl,h⟩ Z ?_);rintro y _ _ ⟨S2,x,i1,F,rfl,h⟩;rcases y with _|y
 ·cases F
 refine X0 8 Z (qg Z F ?_ ?_)<;>intro F
 ·refine X0 8 Z ?_;obtain⟨N,_,F,p,_,_,_,_,s,t,u,o⟩:=K.ix F;obtain⟨_,_,_,_,_,_,rfl,s2,L,M⟩:=qag u;refine zxe s t p Z (zc 0 (o.below h.below) Z (zcO h F (qsl (qlu N (h.oldS s2) (h.oldS L) (h.oldS M))) Z fun J _ _ _ h F=>?_));obtain⟨_,_,_,_,_,_,rfl,-,-,-⟩:=qag (h.own 0 Z);obtain⟨_,c,F⟩:=qc F;have d:=qa4 c;replace h:=h.lrn0 1 Z;obtain⟨_,H,_,_,f,g,-,i,_⟩:=(qii (h.lrnO 1 Z)).1.at c;have v:=i;obtain⟨_,_,_,_,_,_,rfl,_,_,_⟩:=qag i;replace h:=h.lrnAdd 1 Z v;refine zx f g ⟨d.1,qD d.2.1 (qii (h.lrnO 1 Z)).2⟩ Z ?_;replace h:=h.unlrn 1 Z;exact qoM qa J h c f g Z Z Z Z Z fun _ _ h=>X0 7 Z (rK ⟨_,_,_,F,rfl,h⟩ Z)
 refine qr Z ?_;obtain rfl:=qb F;replace F:=k;refine X0 5 Z ?_;obtain rfl:=qb F;exact rO 0 h Z ⟨rfl,G⟩
def qjn(n:Nat)(a:qq):Option qq:=(qlf n a.As).bind fun b=>V (⟨b⟩:qq)
theorem qqu{a:qq}(b:Ro w a cs1){r:qq}(F:qjn n a=V r):RetV prog 62 [oV qq cs1] w r:=by
 obtain⟨_,_,rfl,g⟩:=qbM b;refine zV 9 func62 Z fun h=>zSR (qx h Z Z fun _ _ h=>qp qa h Z Z Z fun _ _ h=>zNSR (qp qa h Z Z Z fun _ _ h=>X1 5 2 h Z (zcL h F (qsa ⟨_,_,rfl,(h.oldS g)⟩) Z fun c _ _ f d h F=>zp1 Z (zs 1 h Z fun _ h=>X1 4 1 h Z (zs 2 h Z fun _ h=>qak ?_)))));obtain rfl:=qb F;exact qac qa (ρ:=qq) [oV qq [oS f c.length d]] h ⟨⟨_,_,_,rfl,rfl,h.box 2 Z,rfl⟩,G⟩ (PV.done h (qah (qvm (⟨c⟩:qq) h (qad 0 h Z) )))
def qgQ(n:Nat)(a:ql):Option ql:=(qbK n a.Am).bind fun b=>V (⟨a.Bc,a.Bv,b⟩:ql)
theorem qpz{a:ql}(b:Ro w a cs1){r:ql}(F:qgQ n a=V r):RetV prog 151 [oV ql cs1] w r:=by
 obtain⟨_,_,rfl,g⟩:=qT b;refine zV 15 func151 Z fun h=>zSR (qx h Z Z fun _ _ h=>qp qa h Z Z Z fun _ _ h=>zNSR (qp qa h Z Z Z fun _ _ h=>X1 6 2 h Z (zs 0 h Z fun _ h=>X1 6 2 h Z (zs 0 h Z fun _ h=>X1 5 2 h Z (zcL h F (qbP ⟨_,_,rfl,(h.oldS g)⟩) Z fun c _ _ f d h F=>zp1 Z (zs 1 h Z fun _ h=>X1 4 1 h Z (zs 2 h Z fun _ h=>qak ?_)))))));obtain rfl:=qb F;exact qac qa (ρ:=ql) [oV ql [.string a.Bc,vi a.Bv,oS f c.length d]] h ⟨⟨_,_,_,rfl,rfl,h.box 2 Z,rfl⟩,G⟩ (PV.done h (qah (qqE (⟨a.Bc,a.Bv,c⟩:ql) h (qz (S:=fun _=>False) Z) (qz (S:=fun _=>False) Z) (qad 0 h Z) (by rfl) (by rfl))))
def qex(a:(List ql)):Nat->(List ql)->Int->Option ((List ql)×Int)|0,_,_=>U|n+1,b,i1=>bif decide (i1<(a.length:Int)) then(idx a i1).bind fun d=>(qgQ n d).bind fun c=>(idx b i1).bind fun _=>qex a n (setS b i1 c) (W64 (i1+1)) else V (b,i1)
def qh3(n:Nat)(a:(List ql)):Option (List ql):=(mkS (a.length:Int) ((⟨ByteArray.empty,0,[]⟩:ql):ql)).bind fun x1=>(qex a n x1 0).bind fun(b,_)=>V b
theorem qps{a:(List ql)}(l:Ro w a cs1){r:(List ql)}(F:qh3 n a=V r):RetV prog 103 [oV (List ql) cs1] w r:=by
 obtain⟨I,C,rfl,K⟩:=l;refine zV 23 func103 Z fun h=>X0 8 Z ?_;obtain⟨x1,b,F⟩:=qc F;obtain⟨A,B,b⟩:=qS b;refine qam qa ql h Z Z Z Z Z Z Z Z Z A B b Z fun _ _ z h=>X0 7 Z ?_;obtain⟨D,F,k⟩:=qc F;refine qm (rL (fun m e w'=>∃S2 x i1,qex a m x i1=V D/\e=[(0,oS I a.length C),(3,oS z x1.length x1.length),(4,vi i1)]/\SH w w' [oW S2 (x:List ql) [oS z x1.length x1.length]]) n ⟨_,_,_,F,rfl,h⟩ Z ?_);rintro y _ _ ⟨S2,x,i1,F,rfl,h⟩;rcases y with _|y
 ·cases F
 refine X0 8 Z (qg Z F ?_ ?_)<;>intro F
 ·refine X0 8 Z ?_;obtain⟨L,_,F,p,_,_,_,_,s,t,u,o⟩:=K.ix F;obtain⟨_,_,rfl,s2⟩:=qT u;refine zxe s t p Z (zc 0 (o.below h.below) Z (zcO h F (qpz (qha L (h.oldS s2))) Z fun J _ _ _ h F=>?_));obtain⟨_,_,rfl,-⟩:=qT (h.own 0 Z);obtain⟨_,c,F⟩:=qc F;have d:=qa4 c;replace h:=h.lrn0 1 Z;obtain⟨_,H,_,_,f,g,-,i,_⟩:=(qii (h.lrnO 1 Z)).1.at c;have v:=i;obtain⟨_,_,rfl,_⟩:=qT i;replace h:=h.lrnAdd 1 Z v;refine zx f g ⟨d.1,qD d.2.1 (qii (h.lrnO 1 Z)).2⟩ Z ?_;replace h:=h.unlrn 1 Z;exact qoM qa J h c f g Z Z Z Z Z fun _ _ h=>X0 7 Z (rK ⟨_,_,_,F,rfl,h⟩ Z)
 refine qr Z ?_;obtain rfl:=qb F;replace F:=k;refine X0 5 Z ?_;obtain rfl:=qb F;exact rO 0 h Z ⟨rfl,G⟩
def qfT(a:(List ByteArray)):Nat->(List ByteArray)->Int->Option ((List ByteArray)×Int)|0,_,_=>U|n+1,b,i1=>bif decide (i1<(a.length:Int)) then(idx a i1).bind fun c=>(idx b i1).bind fun _=>qfT a n (setS b i1 c) (W64 (i1+1)) else V (b,i1)
def qjc(n:Nat)(a:(List ByteArray)):Option (List ByteArray):=(mkS (a.length:Int) (ByteArray.empty:ByteArray)).bind fun x1=>(qfT a n x1 0).bind fun(b,_)=>V b
theorem qqg{a:(List ByteArray)}(i:Ro w a cs1){r:(List ByteArray)}(F:qjc n a=V r):RetV prog 104 [oV (List ByteArray) cs1] w r:=by
 obtain⟨C,A,rfl,D⟩:=i;refine zV 22 func104 Z fun h=>X0 8 Z ?_;obtain⟨x1,b,F⟩:=qc F;obtain⟨y,z,b⟩:=qS b;refine qam qa ByteArray h Z Z Z Z Z Z Z Z Z y z b Z fun _ S1 x h=>X0 7 Z ?_;obtain⟨B,F,g⟩:=qc F;refine qm (rL (fun m e w'=>∃u i1,qfT a m u i1=V B/\e=[(0,oS C a.length A),(3,oS x x1.length x1.length),(4,vi i1)]/\SH w w' [oW S1 (u:List ByteArray) [oS x x1.length x1.length]]) n ⟨_,_,F,rfl,h⟩ Z ?_);rintro v _ _ ⟨u,i1,F,rfl,h⟩;rcases v with _|v
 ·cases F
 refine X0 8 Z (qg Z F ?_ ?_)<;>intro F
 ·refine X0 8 Z ?_;obtain⟨H,_,F,o,_,_,_,_,p,s,rfl,k⟩:=D.ix F;refine zxe p s o Z (zc 0 (k.below h.below) Z ?_);obtain⟨_,t,F,c,_,_,_,_,d,f,rfl,l⟩:=(h.sl 0 Z).1.ix F;exact zx d f ⟨c.1,qD c.2.1 (h.sl 0 Z).2⟩ Z (qav qa 0 0 H h Z t d f Z l Z Z Z Z Z Z Z fun _ h=>X0 7 Z (rK ⟨_,_,F,rfl,h⟩ Z))
 refine qr Z ?_;obtain rfl:=qb F;replace F:=g;refine X0 5 Z ?_;obtain rfl:=qb F;exact rO 0 h Z ⟨rfl,G⟩
def qkS(_:Nat)(a:qP):Option qP:=V (⟨a.Bc,a.Bx,a.Ca⟩:qP)
theorem qti{a:qP}(b:Ro w a cs1){r:qP}(F:qkS n a=V r):RetV prog 152 [oV qP cs1] w r:=by
 obtain rfl:=qaW b;refine zV 14 func152 Z fun h=>zSR (qx h Z Z fun _ _ h=>qp qa h Z Z Z fun _ _ h=>zNSR (qp qa h Z Z Z fun _ _ h=>X1 6 2 h Z (zs 0 h Z fun _ h=>X1 6 2 h Z (zs 0 h Z fun _ h=>X1 6 2 h Z (zs 0 h Z fun _ h=>X1 4 0 h Z (zs 1 h Z fun _ h=>qak ?_))))));obtain rfl:=qb F;exact qac qa (ρ:=qP) [oV qP (qse a)] h ⟨⟨_,_,_,rfl,rfl,h.box 1 Z,rfl⟩,G⟩ (PV.done h (qah (qz (S:=fun _=>False) (qeV (⟨a.Bc,a.Bx,a.Ca⟩:qP)))))
def qg1(a:(List qP)):Nat->(List qP)->Int->Option ((List qP)×Int)|0,_,_=>U|n+1,b,i1=>bif decide (i1<(a.length:Int)) then(idx a i1).bind fun d=>(qkS n d).bind fun c=>(idx b i1).bind fun _=>qg1 a n (setS b i1 c) (W64 (i1+1)) else V (b,i1)
def qlm(n:Nat)(a:(List qP)):Option (List qP):=(mkS (a.length:Int) ((⟨ByteArray.empty,0,0⟩:qP):qP)).bind fun x1=>(qg1 a n x1 0).bind fun(b,_)=>V b
theorem qrO{a:(List qP)}(i:Ro w a cs1){r:(List qP)}(F:qlm n a=V r):RetV prog 105 [oV (List qP) cs1] w r:=by
 obtain⟨I,D,rfl,J⟩:=i;refine zV 23 func105 Z fun h=>X0 8 Z ?_;obtain⟨x1,b,F⟩:=qc F;obtain⟨B,C,b⟩:=qS b;refine qam qa qP h Z Z Z Z Z Z Z Z Z B C b Z fun _ S1 z h=>X0 7 Z ?_;obtain⟨H,F,g⟩:=qc F;refine qm (rL (fun m e w'=>∃x i1,qg1 a m x i1=V H/\e=[(0,oS I a.length D),(3,oS z x1.length x1.length),(4,vi i1)]/\SH w w' [oW S1 (x:List qP) [oS z x1.length x1.length]]) n ⟨_,_,F,rfl,h⟩ Z ?_);rintro y _ _ ⟨x,i1,F,rfl,h⟩;rcases y with _|y
 ·cases F
 refine X0 8 Z (qg Z F ?_ ?_)<;>intro F
 ·refine X0 8 Z ?_;obtain⟨K,_,F,o,_,_,_,_,p,s,t,k⟩:=J.ix F;obtain rfl:=qaW t;refine zxe p s o Z (zc 0 (k.below h.below) Z (zcO h F (qti (qeV K)) Z fun A _ _ _ h F=>?_));obtain rfl:=qaW (h.own 0 Z);obtain⟨L,v,F,c,_,_,_,_,d,f,u,l⟩:=(h.sl 1 Z).1.ix F;obtain rfl:=qaW u;refine zx d f ⟨c.1,qD c.2.1 (h.sl 1 Z).2⟩ Z (qav qa 1 0 A h Z v d f (qeV L) l Z Z Z (qeV A) Z Z Z fun _ h=>X0 7 Z ?_);replace h:=h.p [1] Z;exact rK ⟨_,_,F,rfl,h⟩ Z
 refine qr Z ?_;obtain rfl:=qb F;replace F:=g;refine X0 5 Z ?_;obtain rfl:=qb F;exact rO 0 h Z ⟨rfl,G⟩
def qkh(n:Nat)(a:qd):Option qd:=(qh3 n a.Ab).bind fun b=>(qjc n a.Am).bind fun c=>(qlm n a.Aj).bind fun d=>V (⟨b,c,d⟩:qd)
theorem qqU{a:qd}(b:Ro w a cs1){r:qd}(F:qkh n a=V r):RetV prog 63 [oV qd cs1] w r:=by
 obtain⟨_,_,_,_,_,_,rfl,p,s2,s⟩:=qaD b;refine zV 17 func63 Z fun h=>zSR (qx h Z Z fun _ _ h=>qp qa h Z Z Z fun _ _ h=>zNSR (qp qa h Z Z Z fun _ _ h=>X1 5 2 h Z (zcL h F (qps ⟨_,_,rfl,(h.oldS p)⟩) Z fun c _ _ l g h F=>zp1 Z (zs 1 h Z fun _ h=>X1 5 3 h Z (zcL h F (qqg ⟨_,_,rfl,(h.oldS s2)⟩) Z fun d _ _ m i h F=>zp1 Z (zs 2 h Z fun _ h=>X1 5 4 h Z (zcL h F (qrO ⟨_,_,rfl,(h.oldS s)⟩) Z fun f _ _ o k h F=>zp1 Z (zs 3 h Z fun _ h=>X1 4 3 h Z (zs 4 h Z fun _ h=>qak ?_)))))))));obtain rfl:=qb F;exact qac qa (ρ:=qd) [oV qd [oS l c.length g,oS m d.length i,oS o f.length k]] h ⟨⟨_,_,_,rfl,rfl,h.box 4 Z,rfl⟩,G⟩ (PV.done h (qah (qxw (⟨c,d,f⟩:qd) h (qad 2 h Z) (qad 1 h Z) (qad 0 h Z) (by rfl) (by rfl))))
def qkT(n:Nat)(a:qE):Option qE:=(qbK n a.Ar).bind fun b=>(qbK n a.Bz).bind fun c=>(qbK n a.Bu).bind fun d=>(qbK n a.Bn).bind fun r4=>V (⟨b,c,d,r4⟩:qE)
theorem qs2{a:qE}(b:Ro w a cs1){r:qE}(F:qkT n a=V r):RetV prog 106 [oV qE cs1] w r:=by
 obtain⟨_,_,_,_,_,_,_,_,rfl,t,s2,u,v⟩:=qaR b;refine zV 21 func106 Z fun h=>zSR (qx h Z Z fun _ _ h=>qp qa h Z Z Z fun _ _ h=>zNSR (qp qa h Z Z Z fun _ _ h=>X1 5 2 h Z (zcL h F (qbP ⟨_,_,rfl,(h.oldS t)⟩) Z fun c _ _ m g h F=>zp1 Z (zs 1 h Z fun _ h=>X1 5 3 h Z (zcL h F (qbP ⟨_,_,rfl,(h.oldS s2)⟩) Z fun d _ _ o i h F=>zp1 Z (zs 2 h Z fun _ h=>X1 5 4 h Z (zcL h F (qbP ⟨_,_,rfl,(h.oldS u)⟩) Z fun f _ _ p k h F=>zp1 Z (zs 3 h Z fun _ h=>X1 5 5 h Z (zcL h F (qbP ⟨_,_,rfl,(h.oldS v)⟩) Z fun r4 _ _ s l h F=>zp1 Z (zs 4 h Z fun _ h=>X1 4 4 h Z (zs 5 h Z fun _ h=>qak ?_)))))))))));obtain rfl:=qb F;exact qac qa (ρ:=qE) [oV qE [oS m c.length g,oS o d.length i,oS p f.length k,oS s r4.length l]] h ⟨⟨_,_,_,rfl,rfl,h.box 5 Z,rfl⟩,G⟩ (PV.done h (qah (qvP (⟨c,d,f,r4⟩:qE) h (qad 3 h Z) (qad 2 h Z) (qad 1 h Z) (qad 0 h Z) (by rfl) (by rfl) (by rfl))))
def qg2(a:(List qE)):Nat->(List qE)->Int->Option ((List qE)×Int)|0,_,_=>U|n+1,b,i1=>bif decide (i1<(a.length:Int)) then(idx a i1).bind fun d=>(qkT n d).bind fun c=>(idx b i1).bind fun _=>qg2 a n (setS b i1 c) (W64 (i1+1)) else V (b,i1)
def qlo(n:Nat)(a:(List qE)):Option (List qE):=(mkS (a.length:Int) ((⟨[],[],[],[]⟩:qE):qE)).bind fun x1=>(qg2 a n x1 0).bind fun(b,_)=>V b
theorem qrT{a:(List qE)}(l:Ro w a cs1){r:(List qE)}(F:qlo n a=V r):RetV prog 64 [oV (List qE) cs1] w r:=by
 obtain⟨I,C,rfl,K⟩:=l;refine zV 23 func64 Z fun h=>X0 8 Z ?_;obtain⟨x1,b,F⟩:=qc F;obtain⟨A,B,b⟩:=qS b;refine qam qa qE h Z Z Z Z Z Z Z Z Z A B b Z fun _ _ z h=>X0 7 Z ?_;obtain⟨D,F,k⟩:=qc F;refine qm (rL (fun m e w'=>∃S2 x i1,qg2 a m x i1=V D/\e=[(0,oS I a.length C),(3,oS z x1.length x1.length),(4,vi i1)]/\SH w w' [oW S2 (x:List qE) [oS z x1.length x1.length]]) n ⟨_,_,_,F,rfl,h⟩ Z ?_);rintro y _ _ ⟨S2,x,i1,F,rfl,h⟩;rcases y with _|y
 ·cases F
 refine X0 8 Z (qg Z F ?_ ?_)<;>intro F
 ·refine X0 8 Z ?_;obtain⟨O,_,F,p,_,_,_,_,s,t,u,o⟩:=K.ix F;obtain⟨_,_,_,_,_,_,_,_,rfl,s2,L,M,N⟩:=qaR u;refine zxe s t p Z (zc 0 (o.below h.below) Z (zcO h F (qs2 (qlv O (h.oldS s2) (h.oldS L) (h.oldS M) (h.oldS N))) Z fun J _ _ _ h F=>?_));obtain⟨_,_,_,_,_,_,_,_,rfl,-,-,-,-⟩:=qaR (h.own 0 Z);obtain⟨_,c,F⟩:=qc F;have d:=qa4 c;replace h:=h.lrn0 1 Z;obtain⟨_,H,_,_,f,g,-,i,_⟩:=(qii (h.lrnO 1 Z)).1.at c;have v:=i;obtain⟨_,_,_,_,_,_,_,_,rfl,_,_,_,_⟩:=qaR i;replace h:=h.lrnAdd 1 Z v;refine zx f g ⟨d.1,qD d.2.1 (qii (h.lrnO 1 Z)).2⟩ Z ?_;replace h:=h.unlrn 1 Z;exact qoM qa J h c f g Z Z Z Z Z fun _ _ h=>X0 7 Z (rK ⟨_,_,_,F,rfl,h⟩ Z)
 refine qr Z ?_;obtain rfl:=qb F;replace F:=k;refine X0 5 Z ?_;obtain rfl:=qb F;exact rO 0 h Z ⟨rfl,G⟩
def qlp(n:Nat)(a:qj):Option qj:=(qjn n (⟨a.Av.As⟩:qq)).bind fun b=>(qkh n (⟨a.Aa.Ab,a.Aa.Am,a.Aa.Aj⟩:qd)).bind fun c=>(qlo n a.Ah).bind fun d=>V (⟨b,c,d⟩:qj)
theorem qrG{a:qj}(c:Ro w a cs1){r:qj}(F:qlp n a=V r):RetV prog 27 [oV qj cs1] w r:=by
 obtain⟨_,_,_,_,_,_,_,_,_,_,rfl,v,s2,x,y,z⟩:=qaf c;refine zV 17 func27 Z fun h=>zSR (qx h Z Z fun _ _ h=>qp qa h Z Z Z fun _ _ h=>zNSR (qp qa h Z Z Z fun _ _ h=>X1 5 2 h Z (zcO h F (qqu (qeH _ (h.oldS v))) Z fun g _ _ _ h F=>?_)));obtain⟨p,k,rfl,-⟩:=qbM (h.own 0 Z);refine zp1 Z (zs 1 h Z fun _ h=>X1 5 3 h Z (zcO h F (qqU (qay _ (h.oldS s2) (h.oldS x) (h.oldS y))) Z fun b _ _ _ h F=>?_));obtain⟨s,l,t,m,u,o,rfl,-,-,-⟩:=qaD (h.own 0 Z);refine zp1 Z (zs 2 h Z fun _ h=>X1 5 4 h Z (zcL h F (qrT ⟨_,_,rfl,(h.oldS z)⟩) Z fun i _ _ f d h F=>zp1 Z (zs 3 h Z fun _ h=>X1 4 3 h Z (zs 4 h Z fun _ h=>qak ?_))));obtain rfl:=qb F;exact qac qa (ρ:=qj) [oV qj [oS p g.As.length k,oS s b.Ab.length l,oS t b.Am.length m,oS u b.Aj.length o,oS f i.length d]] h ⟨⟨_,_,_,rfl,rfl,h.box 4 Z,rfl⟩,G⟩ (PV.done h (qah (qyn (⟨g,b,i⟩:qj) h (qad 2 h Z) (qad 1 h Z) (qad 0 h Z) (by rfl) (by rfl))))
end Go.Fw


namespace Go.Fw
open Go Go.Proofs Go.Proofs.Tryz
open Go.RowKit (Below)
open Ch renaming own->oW,box->oX,grp->oG
open GoT renaming v->oV
open Go.Value renaming slice->oS
set_option maxRecDepth 100000
set_option maxHeartbeats 6400000
variable{n:Nat}{w:World}{cs1 cs2 cs3 cs4 cs5 cs6 cs7 cs8 cs9:List Value}
def qgk(a:(List Int))(b:(List Int)):Nat->Int->Option (Flow Bool Int)|0,_=>U|n+1,i1=>bif decide (i1<(a.length:Int)) then(idx a i1).bind fun c=>(idx b i1).bind fun d=>bif (c != d) then V (.ret false) else qgk a b n (W64 (i1+1)) else V (.nxt i1)
def qbB(n:Nat)(a:(List Int))(b:(List Int)):Option Bool:=bif ((a.length:Int) != (b.length:Int)) then V false else(qgk a b n 0).bind fun|.ret r=>V r|.nxt _=>V true
theorem qbp{a:(List Int)}{b:(List Int)}(d:Ro w a cs1)(f:Ro w b cs2){r:Bool}(F:qbB n a b=V r):RetV prog 33 [oV (List Int) cs1,oV (List Int) cs2] w r:=by
 obtain⟨z,v,rfl,B⟩:=d;obtain⟨A,x,rfl,s2⟩:=f;refine zV 26 func33 Z fun h=>X0 13 Z (qg Z F ?_ ?_)<;>intro F
 ·exact X0 4 Z (rb h F Z)
 refine X0 6 Z ?_;obtain⟨y,F,c⟩:=qc F;refine qm (rL (fun m e w'=>∃i1,qgk a b m i1=V y/\e=[(0,oS z a.length v),(1,oS A b.length x),(5,vi i1)]/\SH w w' []) n ⟨_,F,rfl,h⟩ Z ?_);rintro u _ _ ⟨i1,F,rfl,h⟩;rcases u with _|u
 ·cases F
 refine X0 8 Z (qg Z F ?_ ?_)<;>intro F
 ·refine X0 4 Z (rD (zd2 Z ?_));obtain⟨_,_,F,k,_,_,_,_,o,s,rfl,g⟩:=B.ix F;refine zdxe o s k Z (zdc 0 (g.below h.below) Z (zd2 Z ?_));obtain⟨_,_,F,l,_,_,_,_,p,t,rfl,i⟩:=s2.ix F;refine zdxe p t l Z (zdc 0 (i.below h.below) Z (zd1 Z (dN h fun _ h=>qg Z F ?_ ?_)))<;>intro F
  ·refine X0 4 Z ?_;obtain rfl:=qb F;replace F:=c;exact rb h F Z
  exact X0 7 Z (rK ⟨_,F,rfl,h⟩ Z)
 refine qr Z ?_;obtain rfl:=qb F;replace F:=c;exact X0 4 Z (rb h F Z)
def qlD(_:Nat)(a:qan)(b:qan):Option Bool:=bif (a.Bc.toList != b.Bc.toList) then V false else bif (a.Bx != b.Bx) then V false else bif (a.Bu != b.Bu) then V false else bif (!(a.Bt==b.Bt)) then V false else V true
theorem qty{a:qan}{b:qan}(c:Ro w a cs1)(d:Ro w b cs2){r:Bool}(F:qlD n a b=V r):RetV prog 268 [oV qan cs1,oV qan cs2] w r:=by
 obtain rfl:=qa0 c;obtain rfl:=qa0 d;refine zV 25 func268 Z fun h=>zSR (qx h Z Z fun _ _ h=>qx h Z Z fun _ _ h=>X2 11 1 0 h Z (qg Z F ?_ ?_))<;>intro F
 ·exact X0 4 Z (rb h F Z)
 refine X2 10 1 0 h Z (qg Z F ?_ ?_)<;>intro F
 ·exact X0 4 Z (rb h F Z)
 refine X2 10 1 0 h Z (qg Z F ?_ ?_)<;>intro F
 ·exact X0 4 Z (rb h F Z)
 refine X2 10 1 0 h Z (qg Z F ?_ ?_)<;>intro F
 ·exact X0 4 Z (rb h F Z)
 exact X0 5 Z (rb h F Z)
def qhQ(a:(List qan))(b:(List qan)):Nat->Int->Option (Flow Bool Int)|0,_=>U|n+1,i1=>bif decide (i1<(a.length:Int)) then(idx a i1).bind fun d=>(idx b i1).bind fun f=>(qlD n d f).bind fun c=>bif (!c) then V (.ret false) else qhQ a b n (W64 (i1+1)) else V (.nxt i1)
def qms(n:Nat)(a:(List qan))(b:(List qan)):Option Bool:=bif ((a.length:Int) != (b.length:Int)) then V false else(qhQ a b n 0).bind fun|.ret r=>V r|.nxt _=>V true
theorem qsH{a:(List qan)}{b:(List qan)}(d:Ro w a cs1)(f:Ro w b cs2){r:Bool}(F:qms n a b=V r):RetV prog 228 [oV (List qan) cs1,oV (List qan) cs2] w r:=by
 obtain⟨C,z,rfl,I⟩:=d;obtain⟨D,A,rfl,s2⟩:=f;refine zV 27 func228 Z fun h=>X0 13 Z (qg Z F ?_ ?_)<;>intro F
 ·exact X0 4 Z (rb h F Z)
 refine X0 6 Z ?_;obtain⟨B,F,c⟩:=qc F;refine qm (rL (fun m e w'=>∃i1,qhQ a b m i1=V B/\e=[(0,oS C a.length z),(1,oS D b.length A),(5,vi i1)]/\SH w w' []) n ⟨_,F,rfl,h⟩ Z ?_);rintro y _ _ ⟨i1,F,rfl,h⟩;rcases y with _|y
 ·cases F
 refine X0 8 Z (qg Z F ?_ ?_)<;>intro F
 ·refine X0 4 Z (rD (zd2 Z ?_));obtain⟨J,_,F,k,_,_,_,_,o,s,u,g⟩:=I.ix F;obtain rfl:=qa0 u;refine zdxe o s k Z (zdc 0 (g.below h.below) Z (zd2 Z ?_));obtain⟨K,_,F,l,_,_,_,_,p,t,v,i⟩:=s2.ix F;obtain rfl:=qa0 v;refine zdxe p t l Z (zdc 0 (i.below h.below) Z ?_);obtain⟨H,x,F⟩:=qc F;refine qbi H (vsB _) (cB 268 Z) (fun _ L=>qty (qew J) (qew K) x) Z Z Z Z (zd1 Z (dN h fun _ h=>qg Z F ?_ ?_))<;>intro F
  ·refine X0 4 Z ?_;obtain rfl:=qb F;replace F:=c;exact rb h F Z
  exact X0 7 Z (rK ⟨_,F,rfl,h⟩ Z)
 refine qr Z ?_;obtain rfl:=qb F;replace F:=c;exact X0 4 Z (rb h F Z)
def qjE(n:Nat)(a:qv)(b:qv):Option Bool:=(qbB n a.Bo b.Bo).bind fun c=>bif (!c) then V false else(qbB n a.Bk b.Bk).bind fun d=>bif (!d) then V false else(qbB n a.Bj b.Bj).bind fun f=>bif (!f) then V false else V true
theorem qr5{a:qv}{b:qv}(c:Ro w a cs1)(d:Ro w b cs2){r:Bool}(F:qjE n a b=V r):RetV prog 311 [oV qv cs1,oV qv cs2] w r:=by
 obtain⟨_,_,_,_,_,_,rfl,f,s2,g⟩:=qaJ c;obtain⟨_,_,_,_,_,_,rfl,i,k,l⟩:=qaJ d;refine zV 23 func311 Z fun h=>zSR (qx h Z Z fun _ _ h=>qx h Z Z fun _ _ h=>X2 9 1 0 h Z (zcB h F (qbp ⟨_,_,rfl,(h.oldS f)⟩ ⟨_,_,rfl,(h.oldS i)⟩) Z fun _ _ h F=>X0 2 Z (qg Z F ?_ ?_)))<;>intro F
 ·exact X0 4 Z (rb h F Z)
 refine X2 8 1 0 h Z (zcB h F (qbp ⟨_,_,rfl,(h.oldS s2)⟩ ⟨_,_,rfl,(h.oldS k)⟩) Z fun _ _ h F=>X0 2 Z (qg Z F ?_ ?_))<;>intro F
 ·exact X0 4 Z (rb h F Z)
 refine X2 8 1 0 h Z (zcB h F (qbp ⟨_,_,rfl,(h.oldS g)⟩ ⟨_,_,rfl,(h.oldS l)⟩) Z fun _ _ h F=>X0 2 Z (qg Z F ?_ ?_))<;>intro F
 ·exact X0 4 Z (rb h F Z)
 exact X0 5 Z (rb h F Z)
def qf5(a:(List qv))(b:(List qv)):Nat->Int->Option (Flow Bool Int)|0,_=>U|n+1,i1=>bif decide (i1<(a.length:Int)) then(idx a i1).bind fun d=>(idx b i1).bind fun f=>(qjE n d f).bind fun c=>bif (!c) then V (.ret false) else qf5 a b n (W64 (i1+1)) else V (.nxt i1)
def qiA(n:Nat)(a:(List qv))(b:(List qv)):Option Bool:=bif ((a.length:Int) != (b.length:Int)) then V false else(qf5 a b n 0).bind fun|.ret r=>V r|.nxt _=>V true
theorem qmS{a:(List qv)}{b:(List qv)}(d:Ro w a cs1)(f:Ro w b cs2){r:Bool}(F:qiA n a b=V r):RetV prog 294 [oV (List qv) cs1,oV (List qv) cs2] w r:=by
 obtain⟨C,z,rfl,I⟩:=d;obtain⟨D,A,rfl,s2⟩:=f;refine zV 27 func294 Z fun h=>X0 13 Z (qg Z F ?_ ?_)<;>intro F
 ·exact X0 4 Z (rb h F Z)
 refine X0 6 Z ?_;obtain⟨B,F,c⟩:=qc F;refine qm (rL (fun m e w'=>∃i1,qf5 a b m i1=V B/\e=[(0,oS C a.length z),(1,oS D b.length A),(5,vi i1)]/\SH w w' []) n ⟨_,F,rfl,h⟩ Z ?_);rintro y _ _ ⟨i1,F,rfl,h⟩;rcases y with _|y
 ·cases F
 refine X0 8 Z (qg Z F ?_ ?_)<;>intro F
 ·refine X0 4 Z (rD (zd2 Z ?_));obtain⟨P,_,F,k,_,_,_,_,o,s,u,g⟩:=I.ix F;obtain⟨_,_,_,_,_,_,rfl,J,K,L⟩:=qaJ u;refine zdxe o s k Z (zdc 0 (g.below h.below) Z (zd2 Z ?_));obtain⟨Q,_,F,l,_,_,_,_,p,t,v,i⟩:=s2.ix F;obtain⟨_,_,_,_,_,_,rfl,M,N,O⟩:=qaJ v;refine zdxe p t l Z (zdc 0 (i.below h.below) Z ?_);obtain⟨H,x,F⟩:=qc F;refine qbi H (vsB _) (cB 311 Z) (fun _ R=>qr5 (qfZ P ((h.ext R).oldS J) ((h.ext R).oldS K) ((h.ext R).oldS L)) (qfZ Q ((h.ext R).oldS M) ((h.ext R).oldS N) ((h.ext R).oldS O)) x) Z Z Z Z (zd1 Z (dN h fun _ h=>qg Z F ?_ ?_))<;>intro F
  ·refine X0 4 Z ?_;obtain rfl:=qb F;replace F:=c;exact rb h F Z
  exact X0 7 Z (rK ⟨_,F,rfl,h⟩ Z)
 refine qr Z ?_;obtain rfl:=qb F;replace F:=c;exact X0 4 Z (rb h F Z)
def qlU(n:Nat)(a:qI)(b:qI):Option Bool:=bif (a.Bi != b.Bi) then V false else bif (a.Bl != b.Bl) then V false else bif (a.To != b.To) then V false else bif (a.Br != b.Br) then V false else(qiA n a.Bp b.Bp).bind fun c=>bif (!c) then V false else(qiA n a.Bf b.Bf).bind fun d=>bif (!d) then V false else V true
theorem qtt{a:qI}{b:qI}(c:Ro w a cs1)(d:Ro w b cs2){r:Bool}(F:qlU n a b=V r):RetV prog 269 [oV qI cs1,oV qI cs2] w r:=by
 obtain⟨_,_,_,_,rfl,f,s2⟩:=qaj c;obtain⟨_,_,_,_,rfl,g,i⟩:=qaj d;refine zV 37 func269 Z fun h=>zSR (qx h Z Z fun _ _ h=>qx h Z Z fun _ _ h=>X2 11 1 0 h Z (qg Z F ?_ ?_))<;>intro F
 ·exact X0 4 Z (rb h F Z)
 refine X2 10 1 0 h Z (qg Z F ?_ ?_)<;>intro F
 ·exact X0 4 Z (rb h F Z)
 refine X2 10 1 0 h Z (qg Z F ?_ ?_)<;>intro F
 ·exact X0 4 Z (rb h F Z)
 refine X2 10 1 0 h Z (qg Z F ?_ ?_)<;>intro F
 ·exact X0 4 Z (rb h F Z)
 refine X2 8 1 0 h Z (zcB h F (qmS ⟨_,_,rfl,(h.oldS f)⟩ ⟨_,_,rfl,(h.oldS g)⟩) Z fun _ _ h F=>X0 2 Z (qg Z F ?_ ?_))<;>intro F
 ·exact X0 4 Z (rb h F Z)
 refine X2 8 1 0 h Z (zcB h F (qmS ⟨_,_,rfl,(h.oldS s2)⟩ ⟨_,_,rfl,(h.oldS i)⟩) Z fun _ _ h F=>X0 2 Z (qg Z F ?_ ?_))<;>intro F
 ·exact X0 4 Z (rb h F Z)
 exact X0 5 Z (rb h F Z)
def qhI(a:(List qI))(b:(List qI)):Nat->Int->Option (Flow Bool Int)|0,_=>U|n+1,i1=>bif decide (i1<(a.length:Int)) then(idx a i1).bind fun d=>(idx b i1).bind fun f=>(qlU n d f).bind fun c=>bif (!c) then V (.ret false) else qhI a b n (W64 (i1+1)) else V (.nxt i1)
def qmv(n:Nat)(a:(List qI))(b:(List qI)):Option Bool:=bif ((a.length:Int) != (b.length:Int)) then V false else(qhI a b n 0).bind fun|.ret r=>V r|.nxt _=>V true
theorem qsm{a:(List qI)}{b:(List qI)}(d:Ro w a cs1)(f:Ro w b cs2){r:Bool}(F:qmv n a b=V r):RetV prog 229 [oV (List qI) cs1,oV (List qI) cs2] w r:=by
 obtain⟨C,z,rfl,I⟩:=d;obtain⟨D,A,rfl,s2⟩:=f;refine zV 27 func229 Z fun h=>X0 13 Z (qg Z F ?_ ?_)<;>intro F
 ·exact X0 4 Z (rb h F Z)
 refine X0 6 Z ?_;obtain⟨B,F,c⟩:=qc F;refine qm (rL (fun m e w'=>∃i1,qhI a b m i1=V B/\e=[(0,oS C a.length z),(1,oS D b.length A),(5,vi i1)]/\SH w w' []) n ⟨_,F,rfl,h⟩ Z ?_);rintro y _ _ ⟨i1,F,rfl,h⟩;rcases y with _|y
 ·cases F
 refine X0 8 Z (qg Z F ?_ ?_)<;>intro F
 ·refine X0 4 Z (rD (zd2 Z ?_));obtain⟨N,_,F,k,_,_,_,_,o,s,u,g⟩:=I.ix F;obtain⟨_,_,_,_,rfl,J,K⟩:=qaj u;refine zdxe o s k Z (zdc 0 (g.below h.below) Z (zd2 Z ?_));obtain⟨O,_,F,l,_,_,_,_,p,t,v,i⟩:=s2.ix F;obtain⟨_,_,_,_,rfl,L,M⟩:=qaj v;refine zdxe p t l Z (zdc 0 (i.below h.below) Z ?_);obtain⟨H,x,F⟩:=qc F;refine qbi H (vsB _) (cB 269 Z) (fun _ P=>qtt (qgt N ((h.ext P).oldS J) ((h.ext P).oldS K)) (qgt O ((h.ext P).oldS L) ((h.ext P).oldS M)) x) Z Z Z Z (zd1 Z (dN h fun _ h=>qg Z F ?_ ?_))<;>intro F
  ·refine X0 4 Z ?_;obtain rfl:=qb F;replace F:=c;exact rb h F Z
  exact X0 7 Z (rK ⟨_,F,rfl,h⟩ Z)
 refine qr Z ?_;obtain rfl:=qb F;replace F:=c;exact X0 4 Z (rb h F Z)
def qkK(n:Nat)(a:qB)(b:qB):Option Bool:=bif (a.Bc.toList != b.Bc.toList) then V false else bif (a.Bi != b.Bi) then V false else(qms n a.Bg b.Bg).bind fun c=>bif (!c) then V false else(qmv n a.Ba b.Ba).bind fun d=>bif (!d) then V false else(qbB n a.Bq b.Bq).bind fun f=>bif (!f) then V false else bif (a.Cc != b.Cc) then V false else bif (a.Bw != b.Bw) then V false else V true
theorem qsu{a:qB}{b:qB}(c:Ro w a cs1)(d:Ro w b cs2){r:Bool}(F:qkK n a b=V r):RetV prog 167 [oV qB cs1,oV qB cs2] w r:=by
 obtain⟨_,_,_,_,_,_,rfl,f,s2,g⟩:=qag c;obtain⟨_,_,_,_,_,_,rfl,i,k,l⟩:=qag d;refine zV 43 func167 Z fun h=>zSR (qx h Z Z fun _ _ h=>qx h Z Z fun _ _ h=>X2 11 1 0 h Z (qg Z F ?_ ?_))<;>intro F
 ·exact X0 4 Z (rb h F Z)
 refine X2 10 1 0 h Z (qg Z F ?_ ?_)<;>intro F
 ·exact X0 4 Z (rb h F Z)
 refine X2 8 1 0 h Z (zcB h F (qsH ⟨_,_,rfl,(h.oldS f)⟩ ⟨_,_,rfl,(h.oldS i)⟩) Z fun _ _ h F=>X0 2 Z (qg Z F ?_ ?_))<;>intro F
 ·exact X0 4 Z (rb h F Z)
 refine X2 8 1 0 h Z (zcB h F (qsm ⟨_,_,rfl,(h.oldS s2)⟩ ⟨_,_,rfl,(h.oldS k)⟩) Z fun _ _ h F=>X0 2 Z (qg Z F ?_ ?_))<;>intro F
 ·exact X0 4 Z (rb h F Z)
 refine X2 8 1 0 h Z (zcB h F (qbp ⟨_,_,rfl,(h.oldS g)⟩ ⟨_,_,rfl,(h.oldS l)⟩) Z fun _ _ h F=>X0 2 Z (qg Z F ?_ ?_))<;>intro F
 ·exact X0 4 Z (rb h F Z)
 refine X2 10 1 0 h Z (qg Z F ?_ ?_)<;>intro F
 ·exact X0 4 Z (rb h F Z)
 refine X2 10 1 0 h Z (qg Z F ?_ ?_)<;>intro F
 ·exact X0 4 Z (rb h F Z)
 exact X0 5 Z (rb h F Z)
def qgR(a:(List qB))(b:(List qB)):Nat->Int->Option (Flow Bool Int)|0,_=>U|n+1,i1=>bif decide (i1<(a.length:Int)) then(idx a i1).bind fun d=>(idx b i1).bind fun f=>(qkK n d f).bind fun c=>bif (!c) then V (.ret false) else qgR a b n (W64 (i1+1)) else V (.nxt i1)
def qk5(n:Nat)(a:(List qB))(b:(List qB)):Option Bool:=bif ((a.length:Int) != (b.length:Int)) then V false else(qgR a b n 0).bind fun|.ret r=>V r|.nxt _=>V true
theorem qrC{a:(List qB)}{b:(List qB)}(d:Ro w a cs1)(f:Ro w b cs2){r:Bool}(F:qk5 n a b=V r):RetV prog 114 [oV (List qB) cs1,oV (List qB) cs2] w r:=by
 obtain⟨C,z,rfl,I⟩:=d;obtain⟨D,A,rfl,s2⟩:=f;refine zV 27 func114 Z fun h=>X0 13 Z (qg Z F ?_ ?_)<;>intro F
 ·exact X0 4 Z (rb h F Z)
 refine X0 6 Z ?_;obtain⟨B,F,c⟩:=qc F;refine qm (rL (fun m e w'=>∃i1,qgR a b m i1=V B/\e=[(0,oS C a.length z),(1,oS D b.length A),(5,vi i1)]/\SH w w' []) n ⟨_,F,rfl,h⟩ Z ?_);rintro y _ _ ⟨i1,F,rfl,h⟩;rcases y with _|y
 ·cases F
 refine X0 8 Z (qg Z F ?_ ?_)<;>intro F
 ·refine X0 4 Z (rD (zd2 Z ?_));obtain⟨P,_,F,k,_,_,_,_,o,s,u,g⟩:=I.ix F;obtain⟨_,_,_,_,_,_,rfl,J,K,L⟩:=qag u;refine zdxe o s k Z (zdc 0 (g.below h.below) Z (zd2 Z ?_));obtain⟨Q,_,F,l,_,_,_,_,p,t,v,i⟩:=s2.ix F;obtain⟨_,_,_,_,_,_,rfl,M,N,O⟩:=qag v;refine zdxe p t l Z (zdc 0 (i.below h.below) Z ?_);obtain⟨H,x,F⟩:=qc F;refine qbi H (vsB _) (cB 167 Z) (fun _ R=>qsu (qlu P ((h.ext R).oldS J) ((h.ext R).oldS K) ((h.ext R).oldS L)) (qlu Q ((h.ext R).oldS M) ((h.ext R).oldS N) ((h.ext R).oldS O)) x) Z Z Z Z (zd1 Z (dN h fun _ h=>qg Z F ?_ ?_))<;>intro F
  ·refine X0 4 Z ?_;obtain rfl:=qb F;replace F:=c;exact rb h F Z
  exact X0 7 Z (rK ⟨_,F,rfl,h⟩ Z)
 refine qr Z ?_;obtain rfl:=qb F;replace F:=c;exact X0 4 Z (rb h F Z)
def qjD(n:Nat)(a:qq)(b:qq):Option Bool:=(qk5 n a.As b.As).bind fun c=>bif (!c) then V false else V true
theorem qqD{a:qq}{b:qq}(c:Ro w a cs1)(d:Ro w b cs2){r:Bool}(F:qjD n a b=V r):RetV prog 71 [oV qq cs1,oV qq cs2] w r:=by
 obtain⟨_,_,rfl,f⟩:=qbM c;obtain⟨_,_,rfl,s2⟩:=qbM d;refine zV 11 func71 Z fun h=>zSR (qx h Z Z fun _ _ h=>qx h Z Z fun _ _ h=>X2 9 1 0 h Z (zcB h F (qrC ⟨_,_,rfl,(h.oldS f)⟩ ⟨_,_,rfl,(h.oldS s2)⟩) Z fun _ _ h F=>X0 2 Z (qg Z F ?_ ?_)))<;>intro F
 ·exact X0 4 Z (rb h F Z)
 exact X0 5 Z (rb h F Z)
def qgS(n:Nat)(a:ql)(b:ql):Option Bool:=bif (a.Bc.toList != b.Bc.toList) then V false else bif (a.Bv != b.Bv) then V false else(qbB n a.Am b.Am).bind fun c=>bif (!c) then V false else V true
theorem qp1{a:ql}{b:ql}(c:Ro w a cs1)(d:Ro w b cs2){r:Bool}(F:qgS n a b=V r):RetV prog 168 [oV ql cs1,oV ql cs2] w r:=by
 obtain⟨_,_,rfl,f⟩:=qT c;obtain⟨_,_,rfl,s2⟩:=qT d;refine zV 21 func168 Z fun h=>zSR (qx h Z Z fun _ _ h=>qx h Z Z fun _ _ h=>X2 11 1 0 h Z (qg Z F ?_ ?_))<;>intro F
 ·exact X0 4 Z (rb h F Z)
 refine X2 10 1 0 h Z (qg Z F ?_ ?_)<;>intro F
 ·exact X0 4 Z (rb h F Z)
 refine X2 8 1 0 h Z (zcB h F (qbp ⟨_,_,rfl,(h.oldS f)⟩ ⟨_,_,rfl,(h.oldS s2)⟩) Z fun _ _ h F=>X0 2 Z (qg Z F ?_ ?_))<;>intro F
 ·exact X0 4 Z (rb h F Z)
 exact X0 5 Z (rb h F Z)
def qev(a:(List ql))(b:(List ql)):Nat->Int->Option (Flow Bool Int)|0,_=>U|n+1,i1=>bif decide (i1<(a.length:Int)) then(idx a i1).bind fun d=>(idx b i1).bind fun f=>(qgS n d f).bind fun c=>bif (!c) then V (.ret false) else qev a b n (W64 (i1+1)) else V (.nxt i1)
def qif(n:Nat)(a:(List ql))(b:(List ql)):Option Bool:=bif ((a.length:Int) != (b.length:Int)) then V false else(qev a b n 0).bind fun|.ret r=>V r|.nxt _=>V true
theorem qpw{a:(List ql)}{b:(List ql)}(d:Ro w a cs1)(f:Ro w b cs2){r:Bool}(F:qif n a b=V r):RetV prog 115 [oV (List ql) cs1,oV (List ql) cs2] w r:=by
 obtain⟨C,z,rfl,I⟩:=d;obtain⟨D,A,rfl,s2⟩:=f;refine zV 27 func115 Z fun h=>X0 13 Z (qg Z F ?_ ?_)<;>intro F
 ·exact X0 4 Z (rb h F Z)
 refine X0 6 Z ?_;obtain⟨B,F,c⟩:=qc F;refine qm (rL (fun m e w'=>∃i1,qev a b m i1=V B/\e=[(0,oS C a.length z),(1,oS D b.length A),(5,vi i1)]/\SH w w' []) n ⟨_,F,rfl,h⟩ Z ?_);rintro y _ _ ⟨i1,F,rfl,h⟩;rcases y with _|y
 ·cases F
 refine X0 8 Z (qg Z F ?_ ?_)<;>intro F
 ·refine X0 4 Z (rD (zd2 Z ?_));obtain⟨L,_,F,k,_,_,_,_,o,s,u,g⟩:=I.ix F;obtain⟨_,_,rfl,J⟩:=qT u;refine zdxe o s k Z (zdc 0 (g.below h.below) Z (zd2 Z ?_));obtain⟨M,_,F,l,_,_,_,_,p,t,v,i⟩:=s2.ix F;obtain⟨_,_,rfl,K⟩:=qT v;refine zdxe p t l Z (zdc 0 (i.below h.below) Z ?_);obtain⟨H,x,F⟩:=qc F;refine qbi H (vsB _) (cB 168 Z) (fun _ N=>qp1 (qha L ((h.ext N).oldS J)) (qha M ((h.ext N).oldS K)) x) Z Z Z Z (zd1 Z (dN h fun _ h=>qg Z F ?_ ?_))<;>intro F
  ·refine X0 4 Z ?_;obtain rfl:=qb F;replace F:=c;exact rb h F Z
  exact X0 7 Z (rK ⟨_,F,rfl,h⟩ Z)
 refine qr Z ?_;obtain rfl:=qb F;replace F:=c;exact X0 4 Z (rb h F Z)
def qfz(a:(List ByteArray))(b:(List ByteArray)):Nat->Int->Option (Flow Bool Int)|0,_=>U|n+1,i1=>bif decide (i1<(a.length:Int)) then(idx a i1).bind fun c=>(idx b i1).bind fun d=>bif (c.toList != d.toList) then V (.ret false) else qfz a b n (W64 (i1+1)) else V (.nxt i1)
def qi7(n:Nat)(a:(List ByteArray))(b:(List ByteArray)):Option Bool:=bif ((a.length:Int) != (b.length:Int)) then V false else(qfz a b n 0).bind fun|.ret r=>V r|.nxt _=>V true
theorem qp6{a:(List ByteArray)}{b:(List ByteArray)}(d:Ro w a cs1)(f:Ro w b cs2){r:Bool}(F:qi7 n a b=V r):RetV prog 116 [oV (List ByteArray) cs1,oV (List ByteArray) cs2] w r:=by
 obtain⟨z,v,rfl,B⟩:=d;obtain⟨A,x,rfl,s2⟩:=f;refine zV 26 func116 Z fun h=>X0 13 Z (qg Z F ?_ ?_)<;>intro F
 ·exact X0 4 Z (rb h F Z)
 refine X0 6 Z ?_;obtain⟨y,F,c⟩:=qc F;refine qm (rL (fun m e w'=>∃i1,qfz a b m i1=V y/\e=[(0,oS z a.length v),(1,oS A b.length x),(5,vi i1)]/\SH w w' []) n ⟨_,F,rfl,h⟩ Z ?_);rintro u _ _ ⟨i1,F,rfl,h⟩;rcases u with _|u
 ·cases F
 refine X0 8 Z (qg Z F ?_ ?_)<;>intro F
 ·refine X0 4 Z (rD (zd2 Z ?_));obtain⟨_,_,F,k,_,_,_,_,o,s,rfl,g⟩:=B.ix F;refine zdxe o s k Z (zdc 0 (g.below h.below) Z (zd2 Z ?_));obtain⟨_,_,F,l,_,_,_,_,p,t,rfl,i⟩:=s2.ix F;refine zdxe p t l Z (zdc 0 (i.below h.below) Z (zd1 Z (dN h fun _ h=>qg Z F ?_ ?_)))<;>intro F
  ·refine X0 4 Z ?_;obtain rfl:=qb F;replace F:=c;exact rb h F Z
  exact X0 7 Z (rK ⟨_,F,rfl,h⟩ Z)
 refine qr Z ?_;obtain rfl:=qb F;replace F:=c;exact X0 4 Z (rb h F Z)
def qkx(_:Nat)(a:qP)(b:qP):Option Bool:=bif (a.Bc.toList != b.Bc.toList) then V false else bif (a.Bx != b.Bx) then V false else bif (a.Ca != b.Ca) then V false else V true
theorem qsS{a:qP}{b:qP}(c:Ro w a cs1)(d:Ro w b cs2){r:Bool}(F:qkx n a b=V r):RetV prog 169 [oV qP cs1,oV qP cs2] w r:=by
 obtain rfl:=qaW c;obtain rfl:=qaW d;refine zV 20 func169 Z fun h=>zSR (qx h Z Z fun _ _ h=>qx h Z Z fun _ _ h=>X2 11 1 0 h Z (qg Z F ?_ ?_))<;>intro F
 ·exact X0 4 Z (rb h F Z)
 refine X2 10 1 0 h Z (qg Z F ?_ ?_)<;>intro F
 ·exact X0 4 Z (rb h F Z)
 refine X2 10 1 0 h Z (qg Z F ?_ ?_)<;>intro F
 ·exact X0 4 Z (rb h F Z)
 exact X0 5 Z (rb h F Z)
def qgP(a:(List qP))(b:(List qP)):Nat->Int->Option (Flow Bool Int)|0,_=>U|n+1,i1=>bif decide (i1<(a.length:Int)) then(idx a i1).bind fun d=>(idx b i1).bind fun f=>(qkx n d f).bind fun c=>bif (!c) then V (.ret false) else qgP a b n (W64 (i1+1)) else V (.nxt i1)
def qlb(n:Nat)(a:(List qP))(b:(List qP)):Option Bool:=bif ((a.length:Int) != (b.length:Int)) then V false else(qgP a b n 0).bind fun|.ret r=>V r|.nxt _=>V true
theorem qrR{a:(List qP)}{b:(List qP)}(d:Ro w a cs1)(f:Ro w b cs2){r:Bool}(F:qlb n a b=V r):RetV prog 117 [oV (List qP) cs1,oV (List qP) cs2] w r:=by
 obtain⟨C,z,rfl,I⟩:=d;obtain⟨D,A,rfl,s2⟩:=f;refine zV 27 func117 Z fun h=>X0 13 Z (qg Z F ?_ ?_)<;>intro F
 ·exact X0 4 Z (rb h F Z)
 refine X0 6 Z ?_;obtain⟨B,F,c⟩:=qc F;refine qm (rL (fun m e w'=>∃i1,qgP a b m i1=V B/\e=[(0,oS C a.length z),(1,oS D b.length A),(5,vi i1)]/\SH w w' []) n ⟨_,F,rfl,h⟩ Z ?_);rintro y _ _ ⟨i1,F,rfl,h⟩;rcases y with _|y
 ·cases F
 refine X0 8 Z (qg Z F ?_ ?_)<;>intro F
 ·refine X0 4 Z (rD (zd2 Z ?_));obtain⟨J,_,F,k,_,_,_,_,o,s,u,g⟩:=I.ix F;obtain rfl:=qaW u;refine zdxe o s k Z (zdc 0 (g.below h.below) Z (zd2 Z ?_));obtain⟨K,_,F,l,_,_,_,_,p,t,v,i⟩:=s2.ix F;obtain rfl:=qaW v;refine zdxe p t l Z (zdc 0 (i.below h.below) Z ?_);obtain⟨H,x,F⟩:=qc F;refine qbi H (vsB _) (cB 169 Z) (fun _ L=>qsS (qeV J) (qeV K) x) Z Z Z Z (zd1 Z (dN h fun _ h=>qg Z F ?_ ?_))<;>intro F
  ·refine X0 4 Z ?_;obtain rfl:=qb F;replace F:=c;exact rb h F Z
  exact X0 7 Z (rK ⟨_,F,rfl,h⟩ Z)
 refine qr Z ?_;obtain rfl:=qb F;replace F:=c;exact X0 4 Z (rb h F Z)
def qkj(n:Nat)(a:qd)(b:qd):Option Bool:=(qif n a.Ab b.Ab).bind fun c=>bif (!c) then V false else(qi7 n a.Am b.Am).bind fun d=>bif (!d) then V false else(qlb n a.Aj b.Aj).bind fun f=>bif (!f) then V false else V true
theorem qqH{a:qd}{b:qd}(c:Ro w a cs1)(d:Ro w b cs2){r:Bool}(F:qkj n a b=V r):RetV prog 72 [oV qd cs1,oV qd cs2] w r:=by
 obtain⟨_,_,_,_,_,_,rfl,f,s2,g⟩:=qaD c;obtain⟨_,_,_,_,_,_,rfl,i,k,l⟩:=qaD d;refine zV 23 func72 Z fun h=>zSR (qx h Z Z fun _ _ h=>qx h Z Z fun _ _ h=>X2 9 1 0 h Z (zcB h F (qpw ⟨_,_,rfl,(h.oldS f)⟩ ⟨_,_,rfl,(h.oldS i)⟩) Z fun _ _ h F=>X0 2 Z (qg Z F ?_ ?_)))<;>intro F
 ·exact X0 4 Z (rb h F Z)
 refine X2 8 1 0 h Z (zcB h F (qp6 ⟨_,_,rfl,(h.oldS s2)⟩ ⟨_,_,rfl,(h.oldS k)⟩) Z fun _ _ h F=>X0 2 Z (qg Z F ?_ ?_))<;>intro F
 ·exact X0 4 Z (rb h F Z)
 refine X2 8 1 0 h Z (zcB h F (qrR ⟨_,_,rfl,(h.oldS g)⟩ ⟨_,_,rfl,(h.oldS l)⟩) Z fun _ _ h F=>X0 2 Z (qg Z F ?_ ?_))<;>intro F
 ·exact X0 4 Z (rb h F Z)
 exact X0 5 Z (rb h F Z)
def qkw(n:Nat)(a:qE)(b:qE):Option Bool:=(qbB n a.Ar b.Ar).bind fun c=>bif (!c) then V false else(qbB n a.Bz b.Bz).bind fun d=>bif (!d) then V false else(qbB n a.Bu b.Bu).bind fun f=>bif (!f) then V false else(qbB n a.Bn b.Bn).bind fun r4=>bif (!r4) then V false else V true
theorem qtf{a:qE}{b:qE}(c:Ro w a cs1)(d:Ro w b cs2){r:Bool}(F:qkw n a b=V r):RetV prog 118 [oV qE cs1,oV qE cs2] w r:=by
 obtain⟨_,_,_,_,_,_,_,_,rfl,f,s2,g,i⟩:=qaR c;obtain⟨_,_,_,_,_,_,_,_,rfl,k,l,m,o⟩:=qaR d;refine zV 29 func118 Z fun h=>zSR (qx h Z Z fun _ _ h=>qx h Z Z fun _ _ h=>X2 9 1 0 h Z (zcB h F (qbp ⟨_,_,rfl,(h.oldS f)⟩ ⟨_,_,rfl,(h.oldS k)⟩) Z fun _ _ h F=>X0 2 Z (qg Z F ?_ ?_)))<;>intro F
 ·exact X0 4 Z (rb h F Z)
 refine X2 8 1 0 h Z (zcB h F (qbp ⟨_,_,rfl,(h.oldS s2)⟩ ⟨_,_,rfl,(h.oldS l)⟩) Z fun _ _ h F=>X0 2 Z (qg Z F ?_ ?_))<;>intro F
 ·exact X0 4 Z (rb h F Z)
 refine X2 8 1 0 h Z (zcB h F (qbp ⟨_,_,rfl,(h.oldS g)⟩ ⟨_,_,rfl,(h.oldS m)⟩) Z fun _ _ h F=>X0 2 Z (qg Z F ?_ ?_))<;>intro F
 ·exact X0 4 Z (rb h F Z)
 refine X2 8 1 0 h Z (zcB h F (qbp ⟨_,_,rfl,(h.oldS i)⟩ ⟨_,_,rfl,(h.oldS o)⟩) Z fun _ _ h F=>X0 2 Z (qg Z F ?_ ?_))<;>intro F
 ·exact X0 4 Z (rb h F Z)
 exact X0 5 Z (rb h F Z)
def qgZ(a:(List qE))(b:(List qE)):Nat->Int->Option (Flow Bool Int)|0,_=>U|n+1,i1=>bif decide (i1<(a.length:Int)) then(idx a i1).bind fun d=>(idx b i1).bind fun f=>(qkw n d f).bind fun c=>bif (!c) then V (.ret false) else qgZ a b n (W64 (i1+1)) else V (.nxt i1)
def qln(n:Nat)(a:(List qE))(b:(List qE)):Option Bool:=bif ((a.length:Int) != (b.length:Int)) then V false else(qgZ a b n 0).bind fun|.ret r=>V r|.nxt _=>V true
theorem qr4{a:(List qE)}{b:(List qE)}(d:Ro w a cs1)(f:Ro w b cs2){r:Bool}(F:qln n a b=V r):RetV prog 73 [oV (List qE) cs1,oV (List qE) cs2] w r:=by
 obtain⟨D,A,rfl,J⟩:=d;obtain⟨H,B,rfl,s2⟩:=f;refine zV 27 func73 Z fun h=>X0 13 Z (qg Z F ?_ ?_)<;>intro F
 ·exact X0 4 Z (rb h F Z)
 refine X0 6 Z ?_;obtain⟨C,F,c⟩:=qc F;refine qm (rL (fun m e w'=>∃i1,qgZ a b m i1=V C/\e=[(0,oS D a.length A),(1,oS H b.length B),(5,vi i1)]/\SH w w' []) n ⟨_,F,rfl,h⟩ Z ?_);rintro z _ _ ⟨i1,F,rfl,h⟩;rcases z with _|z
 ·cases F
 refine X0 8 Z (qg Z F ?_ ?_)<;>intro F
 ·refine X0 4 Z (rD (zd2 Z ?_));obtain⟨R,_,F,k,_,_,_,_,o,s,u,g⟩:=J.ix F;obtain⟨_,_,_,_,_,_,_,_,rfl,K,L,M,N⟩:=qaR u;refine zdxe o s k Z (zdc 0 (g.below h.below) Z (zd2 Z ?_));obtain⟨S,_,F,l,_,_,_,_,p,t,v,i⟩:=s2.ix F;obtain⟨_,_,_,_,_,_,_,_,rfl,O,P,Q,y⟩:=qaR v;refine zdxe p t l Z (zdc 0 (i.below h.below) Z ?_);obtain⟨I,x,F⟩:=qc F;refine qbi I (vsB _) (cB 118 Z) (fun _ T=>qtf (qlv R ((h.ext T).oldS K) ((h.ext T).oldS L) ((h.ext T).oldS M) ((h.ext T).oldS N)) (qlv S ((h.ext T).oldS O) ((h.ext T).oldS P) ((h.ext T).oldS Q) ((h.ext T).oldS y)) x) Z Z Z Z (zd1 Z (dN h fun _ h=>qg Z F ?_ ?_))<;>intro F
  ·refine X0 4 Z ?_;obtain rfl:=qb F;replace F:=c;exact rb h F Z
  exact X0 7 Z (rK ⟨_,F,rfl,h⟩ Z)
 refine qr Z ?_;obtain rfl:=qb F;replace F:=c;exact X0 4 Z (rb h F Z)
def qld(n:Nat)(a:qj)(b:qj):Option Bool:=(qjD n (⟨a.Av.As⟩:qq) (⟨b.Av.As⟩:qq)).bind fun c=>bif (!c) then V false else(qkj n (⟨a.Aa.Ab,a.Aa.Am,a.Aa.Aj⟩:qd) (⟨b.Aa.Ab,b.Aa.Am,b.Aa.Aj⟩:qd)).bind fun d=>bif (!d) then V false else(qln n a.Ah b.Ah).bind fun f=>bif (!f) then V false else V true
theorem qr6{a:qj}{b:qj}(c:Ro w a cs1)(d:Ro w b cs2){r:Bool}(F:qld n a b=V r):RetV prog 34 [oV qj cs1,oV qj cs2] w r:=by
 obtain⟨_,_,_,_,_,_,_,_,_,_,rfl,g,s2,i,k,l⟩:=qaf c;obtain⟨_,_,_,_,_,_,_,_,_,_,rfl,m,o,p,s,f⟩:=qaf d;refine zV 23 func34 Z fun h=>zSR (qx h Z Z fun _ _ h=>qx h Z Z fun _ _ h=>X2 9 1 0 h Z (zcB h F (qqD (qeH _ (h.oldS g)) (qeH _ (h.oldS m))) Z fun _ _ h F=>X0 2 Z (qg Z F ?_ ?_)))<;>intro F
 ·exact X0 4 Z (rb h F Z)
 refine X2 8 1 0 h Z (zcB h F (qqH (qay _ (h.oldS s2) (h.oldS i) (h.oldS k)) (qay _ (h.oldS o) (h.oldS p) (h.oldS s))) Z fun _ _ h F=>X0 2 Z (qg Z F ?_ ?_))<;>intro F
 ·exact X0 4 Z (rb h F Z)
 refine X2 8 1 0 h Z (zcB h F (qr4 ⟨_,_,rfl,(h.oldS l)⟩ ⟨_,_,rfl,(h.oldS f)⟩) Z fun _ _ h F=>X0 2 Z (qg Z F ?_ ?_))<;>intro F
 ·exact X0 4 Z (rb h F Z)
 exact X0 5 Z (rb h F Z)
def qc3(i1:Int)(b:ql):Nat->(List Tl05Place)->Int->Option ((List Tl05Place)×Int)|0,_,_=>U|n+1,c,a=>bif decide (a<(b.Am.length:Int)) then(idx b.Am a).bind fun d=>(appS c ([(⟨i1,a,d,(a==(W64 ((b.Am.length:Int)-1)))⟩:Tl05Place)]:List Tl05Place)).bind fun x3=>qc3 i1 b n x3 (W64 (a+1)) else V (c,a)
def qc5(a:qd):Nat->(List Tl05Place)->Int->Option ((List Tl05Place)×Int)|0,_,_=>U|n+1,c,b=>bif decide (b<(a.Aj.length:Int)) then(idx a.Aj b).bind fun f=>(idx a.Aj b).bind fun g=>(appS c ([(⟨(-1),b,f.Ca,(g.Bx==1)⟩:Tl05Place)]:List Tl05Place)).bind fun d=>qc5 a n d (W64 (b+1)) else V (c,b)
def qc1(a:qd):Nat->(List Tl05Place)->Int->Option ((List Tl05Place)×Int)|0,_,_=>U|n+1,x1,i1=>bif decide (i1<(a.Ab.length:Int)) then(idx a.Ab i1).bind fun c=>(qc3 i1 c n x1 0).bind fun(b,_)=>qc1 a n b (W64 (i1+1)) else V (x1,i1)
def qcz(n:Nat)(a:qd):Option (List Tl05Place):=(qc1 a n ([]:List Tl05Place) 0).bind fun(x1,_)=>(qc5 a n x1 0).bind fun(b,_)=>V b
theorem qcr{a:qd}(v:Ro w a cs1){r:(List Tl05Place)}(F:qcz n a=V r):RetV prog 127 [oV qd cs1] w r:=by
 obtain⟨p1,T,p2,W,p3,k3,rfl,s1,_,s3⟩:=qaD v;refine zV 69 func127 Z fun h=>zSR (qx h Z Z fun _ b h=>X0 4 Z (qG qa [] _ ([]:List Tl05Place) h Z Z Z Z Z Z Z Z Z trivial Z fun _ _ _ h=>X0 7 Z ?_));obtain⟨o1,F,s⟩:=qc F;refine qm (rL (fun m e w'=>∃S2 p5 g X x1 i1,qc1 a m x1 i1=V o1/\e=[(1,vp b),(3,oS p5 g X),(4,vi i1)]/\SH w w' [oW S2 (x1:List Tl05Place) [oS p5 g X],oX b (qaT a p1 p2 p3 T W k3) 50]) n ⟨_,_,_,_,_,_,F,rfl,h⟩ Z ?_);rintro m1 _ _ ⟨S2,p5,g,X,x1,i1,F,rfl,h⟩;obtain rfl:=(h.sl 0 Z).2;rcases m1 with _|m1
 ·cases F
 refine X1 9 1 h Z (qg Z F ?_ ?_)<;>intro F
 ·refine X1 8 1 h Z ?_;obtain⟨p,_,F,B,_,_,_,_,I,M,Q,x⟩:=s1.ix F;obtain⟨p6,k5,rfl,s4⟩:=qT Q;refine zxe I M B Z (zp1 Z (zc 2 (x.below h.below) Z (X0 6 Z ?_)));obtain⟨o2,F,t⟩:=qc F;refine qm (rL (fun m e w'=>∃S3 p7 i Y x2 f,qc3 i1 p m x2 f=V o2/\e=[(1,vp b),(3,oS p7 i Y),(4,vi i1),(5,oS p6 p.Am.length k5),(6,vi f)]/\SH w w' [oW S3 (x2:List Tl05Place) [oS p7 i Y],oX b (qaT a p1 p2 p3 T W k3) 50]) m1 ⟨_,_,_,_,_,_,F,rfl,h⟩ Z ?_);rintro m2 _ _ ⟨S3,p7,i,Y,x2,f,F,rfl,h⟩;obtain rfl:=(h.sl 0 Z).2;rcases m2 with _|m2
  ·cases F
  refine X0 8 Z (qg Z F ?_ ?_)<;>intro F
  ·refine X0 9 Z ?_;obtain⟨y2,_,F,C,_,_,_,_,J,N,rfl,y⟩:=s4.ix F;refine zxe J N C Z (zc 0 (y.below h.below) Z (zp5 Z (r_v (qV qa [0,1,2,3] [.tmp 29,.tmp 30,.tmp 34,.tmp 39] Z Z Z Z Z Z Z Z) Z (qG qa [.tmp 40] _ ([(⟨i1,f,y2,(f==(W64 ((p.Am.length:Int)-1)))⟩:Tl05Place)]:List Tl05Place) h Z Z Z Z Z Z Z Z Z ⟨(qfY (⟨i1,f,y2,(f==(W64 ((p.Am.length:Int)-1)))⟩:Tl05Place)),G⟩ Z fun _ _ _ h=>?_))));obtain⟨_,c,F⟩:=qc F;obtain⟨g1,c⟩:=qN c;refine qbW qa 1 h Z (h.sl 0 Z).1 (h.sl 0 Z).2 Z Z Z Z Z Z Z Z Z g1 c Z fun _ _ _ _ h=>X0 8 Z ?_;replace h:=h.p [1,2] Z;exact rK ⟨_,_,_,_,_,_,F,rfl,h⟩ Z
  refine qr Z ?_;obtain rfl:=qb F;replace F:=t;exact X0 6 Z (rK ⟨_,_,_,_,_,_,F,rfl,h⟩ Z)
 refine qr Z ?_;obtain rfl:=qb F;replace F:=s;refine X0 5 Z ?_;obtain⟨o3,F,u⟩:=qc F;refine qm (rL (fun m e w'=>∃S6 l k k8 x4 o,qc5 a m x4 o=V o3/\e=[(1,vp b),(3,oS l k k8),(7,vi o)]/\SH w w' [oW S6 (x4:List Tl05Place) [oS l k k8],oX b (qaT a p1 p2 p3 T W k3) 50]) n ⟨_,_,_,_,_,_,F,rfl,h⟩ Z ?_);rintro m3 _ _ ⟨S6,l,k,k8,x4,o,F,rfl,h⟩;obtain rfl:=(h.sl 0 Z).2;rcases m3 with _|m3
 ·cases F
 refine X1 9 1 h Z (qg Z F ?_ ?_)<;>intro F
 ·refine zKSB (rA [] [1] h Z fun _ h=>M1 31 [0,1,2,3,4] 0 (h.p [1] Z) Z ?_);obtain⟨y3,_,F,D,_,_,_,_,K,O,R,z⟩:=s3.ix F;obtain rfl:=qaW R;refine Ae 5 63 K O D (h.p [1] Z) Z (M0 127 [6] (h.p [1] Z) Z (Al 7 255 2 z (h.p [1] Z) Z (M1 2047 [8,9,10] 0 (h.p [1] Z) Z ?_)));obtain⟨y4,_,F,H,_,_,_,_,L,P,S,A⟩:=s3.ix F;obtain rfl:=qaW S;refine Ae 11 4095 L P H (h.p [1] Z) Z (M0 8191 [12] (h.p [1] Z) Z (Al 13 16383 1 A (h.p [1] Z) Z (M0 32767 [14] (h.p [1] Z) Z (Aw 15 65535 (fun w' hw=>qV qa [0,1,2,3] [.const (vi (-1)),.tmp 51,.tmp 57,.tmp 64] Z Z Z Z Z Z Z Z) (h.p [1] Z) Z ?_))));refine Ao 16 131071 Z (qG qa [.tmp 65] _ ([(⟨(-1),o,y3.Ca,(y4.Bx==1)⟩:Tl05Place)]:List Tl05Place) h Z Z Z Z Z Z Z Z Z ⟨(qfY (⟨(-1),o,y3.Ca,(y4.Bx==1)⟩:Tl05Place)),G⟩ Z fun _ _ _ h=>Ag (h.p [2] Z) (Ao 17 262143 Z ?_));obtain⟨_,d,F⟩:=qc F;obtain⟨g2,d⟩:=qN d;refine qbW qa 1 h Z (h.sl 0 Z).1 (h.sl 0 Z).2 Z Z Z Z Z Z Z Z Z g2 d Z fun _ _ _ _ h=>G0 524287 [18] (h.p [2] Z) Z (Ad (X0 6 Z ?_));replace h:=h.p [1,2] Z;exact rK ⟨_,_,_,_,_,_,F,rfl,h⟩ Z
 refine qr Z ?_;obtain rfl:=qb F;replace F:=u;refine X0 5 Z ?_;obtain rfl:=qb F;exact rO 0 h Z ⟨rfl,G⟩
def qcV(net:Int)(a:(List Tl05Place)):Nat->(List Int)->Int->Option ((List Int)×Int)|0,_,_=>U|n+1,x1,i1=>bif decide (i1<(a.length:Int)) then((idx a i1).bind fun c=>bif (c.net==net) then(idx a i1).bind fun d=>V (!d.drives) else V false).bind fun b1=>bif b1 then(appS x1 ([i1]:List Int)).bind fun b=>qcV net a n b (W64 (i1+1)) else qcV net a n x1 (W64 (i1+1)) else V (x1,i1)
def qg8(n:Nat)(d:qd)(net:Int):Option (List Int):=(qcz n d).bind fun a=>(qcV net a n ([]:List Int) 0).bind fun(x1,_)=>V x1
theorem qj8{d:qd}{net}(i:Ro w d cs1){r:(List Int)}(F:qg8 n d net=V r):RetV prog 178 [oV qd cs1,vi net] w r:=by
 obtain⟨_,_,_,_,_,_,rfl,_,_,_⟩:=qaD i;refine zV 37 func178 Z fun h=>zSR (qx h Z Z fun _ _ h=>X0 4 Z (qG qa [] _ ([]:List Int) h Z Z Z Z Z Z Z Z Z trivial Z fun _ _ _ h=>X1 5 1 h Z (zcL h F (qcr (h.old i)) Z fun c _ S2 u s h F=>X0 7 Z ?_)));obtain⟨L,F,y⟩:=qc F;refine qm ?_;replace h:=h.p [0,1] Z;refine rL (fun m e w'=>∃x p b o x1 i1,qcV net c m x1 i1=V L/\e=[(1,vi net),(5,oS p b o),(6,oS u c.length s),(7,vi i1)]/\SH w w' [oW S2 (c:List Tl05Place) [oS u c.length s],oW x (x1:List Int) [oS p b o]]) n ⟨_,_,_,_,_,_,F,rfl,h⟩ Z ?_;rintro K _ _ ⟨x,p,b,o,x1,i1,F,rfl,h⟩;obtain rfl:=(h.sl 1 Z).2;rcases K with _|K
 ·cases F
 refine X0 8 Z (qg Z F ?_ ?_)<;>intro F
 ·refine X0 4 Z ?_;obtain⟨v,g,_,F,f⟩:=bindE F;refine qaV (fun e w'=>∃b1,v b1=V L/\e=[(1,vi net),(5,oS p x1.length o),(6,oS u c.length s),(7,vi i1),(31,.bool b1)]/\SH w w' [oW S2 (c:List Tl05Place) [oS u c.length s],oW x (x1:List Int) [oS p x1.length o]]) ?_ ?_
  ·refine X0 3 Z ?_;obtain⟨_,_,F,k,_,_,_,_,B,D,I,z⟩:=(h.sl 0 Z).1.ix F;obtain rfl:=qb4 I;refine zx B D ⟨k.1,qD k.2.1 (h.sl 0 Z).2⟩ Z (zp1 Z (zc 2 z Z (zp3 Z (qn (t:=24) F Z ?_ ?_))))<;>intro F
   ·refine X0 5 Z ?_;obtain⟨_,_,F,l,_,_,_,_,C,H,J,A⟩:=(h.sl 0 Z).1.ix F;obtain rfl:=qb4 J;refine zx C H ⟨l.1,qD l.2.1 (h.sl 0 Z).2⟩ Z (X0 3 Z (zc 3 A Z (X0 4 Z ?_)));obtain rfl:=qb F;exact rG ⟨_,f,rfl,h⟩ Z
   refine X0 8 Z ?_;obtain rfl:=qb F;exact rG ⟨_,f,rfl,h⟩ Z
  rintro _ _ ⟨b1,F,rfl,h⟩;subst g;refine qg Z F ?_ ?_<;>intro F
  ·refine X0 3 Z (qG qa [.tmp 33] _ ([i1]:List Int) h Z Z Z Z Z Z Z Z Z ⟨rfl,G⟩ Z fun _ _ _ h=>?_);obtain⟨_,a,F⟩:=qc F;obtain⟨M,a⟩:=qN a;refine qbW qa 2 h Z (h.sl 0 Z).1 (h.sl 0 Z).2 Z Z Z Z Z Z Z Z Z M a Z fun _ _ _ _ h=>X0 8 Z ?_;replace h:=h.p [1,2] Z;exact rK ⟨_,_,_,_,_,_,F,rfl,h⟩ Z
  exact X0 7 Z (rK ⟨_,_,_,_,_,_,F,rfl,h⟩ Z)
 refine qr Z ?_;obtain rfl:=qb F;replace F:=y;refine X0 5 Z ?_;obtain rfl:=qb F;exact rO 1 h Z ⟨rfl,G⟩
def qal(_:Nat)(a:Int)(c:Int)(b:Int):Option Bool:=bif decide (a>=c) then V (decide (a<=b)) else V false
theorem qaa{a_n low high}  {r:Bool}(F:qal n a_n low high=V r):RetV prog 43 [vi a_n,vi low,vi high] w r:=by
 refine zV 15 func43 Z fun h=>X0 10 Z (qn (t:=10) F Z ?_ ?_)<;>intro F
 ·exact X0 9 Z (rb h F Z)
 exact X0 6 Z (rb h F Z)
def qer(s:ByteArray):Nat->Int->Option (Flow Bool Int)|0,_=>U|n+1,i1=>bif decide (i1<(s.size:Int)) then((atS s i1).bind fun c=>bif decide (c>=97) then(atS s i1).bind fun d=>V (decide (d<=122)) else V false).bind fun b1=>((atS s i1).bind fun a=>bif decide (a>=48) then(atS s i1).bind fun b=>V (decide (b<=57)) else V false).bind fun b2=>bif (!b1) then bif b2 then bif (!(decide (i1 > 0))) then V (.ret false) else qer s n (W64 (i1+1)) else V (.ret false) else qer s n (W64 (i1+1)) else V (.nxt i1)
def qgz(n:Nat)(s:ByteArray):Option Bool:=(qer s n 0).bind fun|.ret r=>V r|.nxt _=>bif decide ((s.size:Int)>=1) then V (decide ((s.size:Int)<=8)) else V false
theorem qiI{s}  {r:Bool}(F:qgz n s=V r):RetV prog 272 [.string s] w r:=by
 refine zV 50 func272 Z fun h=>X0 9 Z ?_;obtain⟨u,F,a⟩:=qc F;refine qm (rL (fun m e w'=>∃i1,qer s m i1=V u/\e=[(0,.string s),(3,vi i1)]/\SH w w' []) n ⟨_,F,rfl,h⟩ Z ?_);rintro v _ _ ⟨i1,F,rfl,h⟩;rcases v with _|v
 ·cases F
 refine X0 8 Z (qg Z F ?_ ?_)<;>intro F
 ·refine X0 4 Z ?_;obtain⟨i,f,_,F,c⟩:=bindE F;refine qaV (fun e w'=>∃b1,i b1=V u/\e=[(0,.string s),(3,vi i1),(4,.bool b1)]/\SH w w' []) ?_ ?_
  ·refine X0 3 Z ?_;obtain⟨_,o,F⟩:=qc F;have z:=qoU o;refine r_v (qoA qa z Z Z Z Z) Z (zp2 Z (qn (t:=16) F Z ?_ ?_))<;>intro F
   ·refine X0 5 Z ?_;obtain⟨_,p,F⟩:=qc F;have A:=qoU p;refine r_v (qoA qa A Z Z Z Z) Z (X0 5 Z ?_);obtain rfl:=qb F;exact rG ⟨_,c,rfl,h⟩ Z
   refine X0 7 Z ?_;obtain rfl:=qb F;exact rG ⟨_,c,rfl,h⟩ Z
  rintro _ _ ⟨b1,F,rfl,h⟩;subst f;refine qab ?_;obtain⟨g,d,_,F,b⟩:=bindE F;refine qaV (fun e w'=>∃b2,g b2=V u/\e=[(0,.string s),(3,vi i1),(4,.bool b1),(5,.bool b2)]/\SH w w' []) ?_ ?_
  ·refine X0 3 Z ?_;obtain⟨_,k,F⟩:=qc F;have x:=qoU k;refine r_v (qoA qa x Z Z Z Z) Z (zp2 Z (qn (t:=26) F Z ?_ ?_))<;>intro F
   ·refine X0 5 Z ?_;obtain⟨_,l,F⟩:=qc F;have y:=qoU l;refine r_v (qoA qa y Z Z Z Z) Z (X0 5 Z ?_);obtain rfl:=qb F;exact rG ⟨_,b,rfl,h⟩ Z
   refine X0 7 Z ?_;obtain rfl:=qb F;exact rG ⟨_,b,rfl,h⟩ Z
  rintro _ _ ⟨b2,F,rfl,h⟩;subst d;refine X0 5 Z (qn (t:=34) F Z ?_ ?_)<;>intro F
  ·refine X0 4 Z (qn (t:=36) F Z ?_ ?_)<;>intro F
   ·refine X0 10 Z (qg Z F ?_ ?_)<;>intro F
    ·refine X0 4 Z ?_;obtain rfl:=qb F;replace F:=a;exact rb h F Z
    exact X0 7 Z (rK ⟨_,F,rfl,h⟩ Z)
   refine X0 8 Z (qcq Z Z (X0 4 Z ?_));obtain rfl:=qb F;replace F:=a;exact rb h F Z
  exact X0 8 Z (qch Z Z (X0 7 Z (rK ⟨_,F,rfl,h⟩ Z)))
 refine qr Z ?_;obtain rfl:=qb F;replace F:=a;refine X0 6 Z (qn (t:=45) F Z ?_ ?_)<;>intro F
 ·exact X0 9 Z (rb h F Z)
 exact X0 6 Z (rb h F Z)
def qfo(a:qB)(c:Int)(d:qan):Nat->Int->Option (Flow (Int×Bool) Int)|0,_=>U|n+1,b=>bif decide (b<c) then(idx a.Bg b).bind fun f=>bif (f.Bc.toList==d.Bc.toList) then V (.ret (0,false)) else qfo a c d n (W64 (b+1)) else V (.nxt b)
def qdm(a:qB):Nat->Int->Int->Option (Flow (Int×Bool) (Int×Int))|0,_,_=>U|n+1,i1,b=>bif decide (b<(a.Bg.length:Int)) then(idx a.Bg b).bind fun c=>(qfo a b c n 0).bind fun|.ret r=>V (.ret r)|.nxt _=>((qgz n c.Bc).bind fun g=>bif (!g) then V true else(qal n c.Bu 0 500).bind fun h=>V (!h)).bind fun d=>bif d then V (.ret (0,false)) else(bif (b==(W64 ((a.Bg.length:Int)-1))) then bif (c.Bx != 2) then V true else bif (c.Bu != 0) then V true else bif c.Bt then V true else bif decide (b<(W64 ((a.Bg.length:Int)-1))) then V (c.Bx != 1) else V false else bif decide (b<(W64 ((a.Bg.length:Int)-1))) then V (c.Bx != 1) else V false).bind fun f=>bif f then V (.ret (0,false)) else bif c.Bt then qdm a n (W64 (i1+1)) (W64 (b+1)) else qdm a n i1 (W64 (b+1)) else V (.nxt (i1,b))
def qle(n:Nat)(a:qB):Option (Int×Bool):=(bif decide ((a.Bg.length:Int)<2) then V true else V (decide ((a.Bg.length:Int) > 5))).bind fun b1=>bif b1 then V (0,false) else(qdm a n 0 0).bind fun|.ret r=>V r|.nxt (i1,_)=>V (i1,true)
theorem qrM{a:qB}(J:Ro w a cs1){r:(Int×Bool)}(F:qle n a=V r):RetV prog 323 [oV qB cs1] w r:=by
 obtain⟨x,u,y,v,z,k3,rfl,s1,_,_⟩:=qag J;refine zV 86 func323 Z fun h=>zSR (qx h Z Z fun _ b h=>X1 12 0 h Z ?_);obtain⟨D,s,_,F,l⟩:=bindE F;refine qaV (fun e w'=>∃b1,D b1=V r/\e=[(1,vp b),(4,vi (a.Bg.length:Int)),(17,.bool b1)]/\SH w w' [oX b (qeF a x y z u v k3) 251]) ?_ ?_
 ·refine X0 4 Z (qn (t:=14) F Z ?_ ?_)<;>intro F
  ·refine X0 4 Z ?_;obtain rfl:=qb F;exact rG ⟨_,l,rfl,h⟩ Z
  refine X0 6 Z ?_;obtain rfl:=qb F;exact rG ⟨_,l,rfl,h⟩ Z
 rintro _ _ ⟨b1,F,rfl,h⟩;subst s;refine qg Z F ?_ ?_<;>intro F
 ·refine X0 5 Z ?_;obtain rfl:=qb F;exact qac qa (ρ:=(Int×Bool)) [oV Int [vi 0],oV Bool [.bool false]] h ⟨rfl,rfl,G⟩ (PV.done h (qat h (qz (S:=fun _=>False) Z) (qah (qz (S:=fun _=>False) Z)) (by rfl)))
 refine X0 10 Z ?_;obtain⟨o1,F,f⟩:=qc F;refine qm (rL (fun m e w'=>∃i1 g,qdm a m i1 g=V o1/\e=[(1,vp b),(4,vi (a.Bg.length:Int)),(5,vi i1),(6,vi g)]/\SH w w' [oX b (qeF a x y z u v k3) 251]) n ⟨_,_,F,rfl,h⟩ Z ?_);rintro Y _ _ ⟨i1,g,F,rfl,h⟩;rcases Y with _|Y
 ·cases F
 refine X0 7 Z (qg Z F ?_ ?_)<;>intro F
 ·refine X1 8 0 h Z ?_;obtain⟨A,_,F,M,_,_,_,_,O,Q,T,K⟩:=s1.ix F;obtain rfl:=qa0 T;refine zxe O Q M Z (zc 0 (K.below h.below) Z (qp qa h Z Z Z fun _ d h=>zs 0 h Z fun _ h=>X0 6 Z ?_));obtain⟨o2,F,i⟩:=qc F;refine qm (rL (fun m e w'=>∃X,qfo a g A m X=V o2/\e=[(1,vp b),(4,vi (a.Bg.length:Int)),(5,vi i1),(6,vi g),(7,vp d),(8,vi X)]/\SH w w' [oX d (qrm A) 328,oX b (qeF a x y z u v k3) 251]) Y ⟨_,F,rfl,h⟩ Z ?_);rintro m2 _ _ ⟨X,F,rfl,h⟩;rcases m2 with _|m2
  ·cases F
  refine X0 7 Z (qg Z F ?_ ?_)<;>intro F
  ·refine X0 4 Z (rD (Y1 2 1 h Z ?_));refine zd1 Z ?_;obtain⟨_,_,F,N,_,_,_,_,P,R,W,L⟩:=s1.ix F;obtain rfl:=qa0 W;refine zdxe P R N Z (zd1 Z (zdc 0 (L.below h.below) Z (Y1 2 0 h Z ?_)));refine zd1 Z (dN h fun _ h=>qg Z F ?_ ?_)<;>intro F
   ·refine X0 5 Z ?_;obtain rfl:=qb F;replace F:=i;obtain rfl:=qb F;replace F:=f;obtain rfl:=qb F;exact qac qa (ρ:=(Int×Bool)) [oV Int [vi 0],oV Bool [.bool false]] h ⟨rfl,rfl,G⟩ (PV.done h (qat h (qz (S:=fun _=>False) Z) (qah (qz (S:=fun _=>False) Z)) (by rfl)))
   exact X0 7 Z (rK ⟨_,F,rfl,h⟩ Z)
  refine qr Z ?_;obtain rfl:=qb F;replace F:=i;refine zSS ?_;obtain⟨C,p,_,F,k⟩:=bindE F;refine qaV (fun e w'=>∃H,C H=V o1/\e=[(1,vp b),(4,vi (a.Bg.length:Int)),(5,vi i1),(6,vi g),(7,vp d),(51,.bool H)]/\SH w w' [oX d (qrm A) 328,oX b (qeF a x y z u v k3) 251]) ?_ ?_
  ·refine X1 3 0 h Z (zcB h F qiI Z fun _ _ h F=>zp2 Z (qn (t:=46) F Z ?_ ?_))<;>intro F
   ·refine X0 6 Z ?_;obtain rfl:=qb F;exact rG ⟨_,k,rfl,h⟩ Z
   refine X1 5 0 h Z (zcB h F qaa Z fun _ _ h F=>X0 4 Z ?_);obtain rfl:=qb F;exact rG ⟨_,k,rfl,h⟩ Z
  rintro _ _ ⟨H,F,rfl,h⟩;subst p;refine qg Z F ?_ ?_<;>intro F
  ·refine X0 5 Z ?_;obtain rfl:=qb F;replace F:=f;obtain rfl:=qb F;exact qac qa (ρ:=(Int×Bool)) [oV Int [vi 0],oV Bool [.bool false]] h ⟨rfl,rfl,G⟩ (PV.done h (qat h (qz (S:=fun _=>False) Z) (qah (qz (S:=fun _=>False) Z)) (by rfl)))
  refine zKSS ?_;obtain⟨B,o,_,F,c⟩:=bindE F;refine qaV (fun e w'=>∃I,B I=V o1/\e=[(1,vp b),(4,vi (a.Bg.length:Int)),(5,vi i1),(6,vi g),(7,vp d),(80,.bool I)]/\SH w w' [oX d (qrm A) 328,oX b (qeF a x y z u v k3) 251]) ?_ ?_
  ·refine X0 6 Z (qn (t:=56) F Z ?_ ?_)<;>intro F
   ·refine X1 8 0 h Z (qn (t:=60) F Z ?_ ?_)<;>intro F
    ·refine X0 24 Z ?_;obtain rfl:=qb F;exact rG ⟨_,c,rfl,h⟩ Z
    refine X1 10 0 h Z (qn (t:=65) F Z ?_ ?_)<;>intro F
    ·refine X0 17 Z ?_;obtain rfl:=qb F;exact rG ⟨_,c,rfl,h⟩ Z
    refine X1 8 0 h Z (qn (t:=70) F Z ?_ ?_)<;>intro F
    ·refine X0 11 Z ?_;obtain rfl:=qb F;exact rG ⟨_,c,rfl,h⟩ Z
    refine X0 10 Z (qn (t:=75) F Z ?_ ?_)<;>intro F
    ·refine X1 10 0 h Z ?_;obtain rfl:=qb F;exact rG ⟨_,c,rfl,h⟩ Z
    refine X0 7 Z ?_;obtain rfl:=qb F;exact rG ⟨_,c,rfl,h⟩ Z
   refine X0 24 Z (qn (t:=75) F Z ?_ ?_)<;>intro F
   ·refine X1 10 0 h Z ?_;obtain rfl:=qb F;exact rG ⟨_,c,rfl,h⟩ Z
   refine X0 7 Z ?_;obtain rfl:=qb F;exact rG ⟨_,c,rfl,h⟩ Z
  rintro _ _ ⟨I,F,rfl,h⟩;subst o;refine qg Z F ?_ ?_<;>intro F
  ·refine X0 5 Z ?_;obtain rfl:=qb F;replace F:=f;obtain rfl:=qb F;exact qac qa (ρ:=(Int×Bool)) [oV Int [vi 0],oV Bool [.bool false]] h ⟨rfl,rfl,G⟩ (PV.done h (qat h (qz (S:=fun _=>False) Z) (qah (qz (S:=fun _=>False) Z)) (by rfl)))
  refine X1 6 0 h Z (qg Z F ?_ ?_)<;>intro F
  ·refine X0 11 Z ?_;replace h:=h.p [1] Z;exact rK ⟨_,_,F,rfl,h⟩ Z
  refine X0 7 Z ?_;replace h:=h.p [1] Z;exact rK ⟨_,_,F,rfl,h⟩ Z
 refine qr Z ?_;obtain rfl:=qb F;replace F:=f;refine X0 6 Z ?_;obtain rfl:=qb F;exact qac qa (ρ:=(Int×Bool)) [oV Int [vi i1],oV Bool [.bool true]] h ⟨rfl,rfl,G⟩ (PV.done h (qat h (qz (S:=fun _=>False) Z) (qah (qz (S:=fun _=>False) Z)) (by rfl)))
def qem(list:(List Int)):Nat->Int->Option (Flow Bool Int)|0,_=>U|n+1,i1=>bif decide (i1<(list.length:Int)) then(idx list i1).bind fun b=>(qal n b 0 100000).bind fun a=>bif (!a) then V (.ret false) else bif decide (i1 > 0) then(idx list (W64 (i1-1))).bind fun c=>(idx list i1).bind fun d=>bif decide (c>=d) then V (.ret false) else qem list n (W64 (i1+1)) else qem list n (W64 (i1+1)) else V (.nxt i1)
def qju(n:Nat)(list:(List Int)):Option Bool:=(qem list n 0).bind fun|.ret r=>V r|.nxt _=>bif decide ((list.length:Int)>=1) then V (decide ((list.length:Int)<=4)) else V false
theorem qn9{list:(List Int)}(b:Ro w list cs1){r:Bool}(F:qju n list=V r):RetV prog 346 [oV (List Int) cs1] w r:=by
 obtain⟨C,A,rfl,y⟩:=b;refine zV 40 func346 Z fun h=>X0 9 Z ?_;obtain⟨B,F,a⟩:=qc F;refine qm (rL (fun m e w'=>∃i1,qem list m i1=V B/\e=[(0,oS C list.length A),(3,vi i1)]/\SH w w' []) n ⟨_,F,rfl,h⟩ Z ?_);rintro z _ _ ⟨i1,F,rfl,h⟩;rcases z with _|z
 ·cases F
 refine X0 8 Z (qg Z F ?_ ?_)<;>intro F
 ·refine X0 4 Z (rD (zd2 Z ?_));obtain⟨_,_,F,g,_,_,_,_,l,s,rfl,c⟩:=y.ix F;refine zdxe l s g Z (zdc 0 (c.below h.below) Z ?_);obtain⟨D,x,F⟩:=qc F;refine qbi D (vsB _) (cB 43 Z) (fun _ H=>qaa  x) Z Z Z Z (zd2 Z (qaU (t:=16) F Z ?_ ?_))<;>intro F
  ·refine Y0 15 Z (dN h fun _ h=>qcq Z Z (X0 4 Z ?_));obtain rfl:=qb F;replace F:=a;exact rb h F Z
  refine Y0 6 Z (qaU (t:=19) F Z ?_ ?_)<;>intro F
  ·refine Y0 7 Z ?_;obtain⟨_,_,F,i,_,_,_,_,o,u,rfl,d⟩:=y.ix F;refine zdxe o u i Z (Y0 1 Z (zdc 0 (d.below h.below) Z (Y0 5 Z ?_)));obtain⟨_,_,F,k,_,_,_,_,p,v,rfl,f⟩:=y.ix F;refine zdxe p v k Z (Y0 1 Z (zdc 0 (f.below h.below) Z (Y0 5 Z (dN h fun _ h=>qg Z F ?_ ?_))))<;>intro F
   ·refine X0 4 Z ?_;obtain rfl:=qb F;replace F:=a;exact rb h F Z
   exact X0 7 Z (rK ⟨_,F,rfl,h⟩ Z)
  exact Y0 13 Z (dN h fun _ h=>qch Z Z (X0 7 Z (rK ⟨_,F,rfl,h⟩ Z)))
 refine qr Z ?_;obtain rfl:=qb F;replace F:=a;refine X0 6 Z (qn (t:=35) F Z ?_ ?_)<;>intro F
 ·exact X0 9 Z (rb h F Z)
 exact X0 6 Z (rb h F Z)
def qfy(t:qv):Nat->Int->Option (Flow Bool Int)|0,_=>U|n+1,i1=>bif decide (i1<(t.Bj.length:Int)) then(idx t.Bj i1).bind fun b=>(qal n b (-1000000) 1000000).bind fun a=>bif (!a) then V (.ret false) else qfy t n (W64 (i1+1)) else V (.nxt i1)
def qk4(n:Nat)(t:qv):Option Bool:=((qju n t.Bo).bind fun a=>bif (!a) then V true else(qju n t.Bk).bind fun b=>bif (!b) then V true else V ((t.Bj.length:Int) != (W64 ((t.Bo.length:Int)*(t.Bk.length:Int))))).bind fun b1=>bif b1 then V false else(qfy t n 0).bind fun|.ret r=>V r|.nxt _=>V true
theorem qr2{t:qv}(g:Ro w t cs1){r:Bool}(F:qk4 n t=V r):RetV prog 345 [oV qv cs1] w r:=by
 obtain⟨v,p,x,s,y,k3,rfl,A,s2,B⟩:=qaJ g;refine zV 41 func345 Z fun h=>zSR (qx h Z Z fun _ a h=>X0 4 Z ?_);obtain⟨f,d,_,F,b⟩:=bindE F;refine qaV (fun e w'=>∃b1,f b1=V r/\e=[(1,vp a),(26,.bool b1)]/\SH w w' [oX a (qhC t v x y p s k3) 243]) ?_ ?_
 ·refine X1 3 0 h Z (zcB h F (qn9 ⟨_,_,rfl,(h.oldS A)⟩) Z fun _ _ h F=>zp2 Z (qn (t:=8) F Z ?_ ?_))<;>intro F
  ·refine X0 19 Z ?_;obtain rfl:=qb F;exact rG ⟨_,b,rfl,h⟩ Z
  refine X1 5 0 h Z (zcB h F (qn9 ⟨_,_,rfl,(h.oldS s2)⟩) Z fun _ _ h F=>X0 4 Z (qn (t:=14) F Z ?_ ?_))<;>intro F
  ·refine X0 13 Z ?_;obtain rfl:=qb F;exact rG ⟨_,b,rfl,h⟩ Z
  refine X3 24 0 0 0 h Z ?_;obtain rfl:=qb F;exact rG ⟨_,b,rfl,h⟩ Z
 rintro _ _ ⟨b1,F,rfl,h⟩;subst d;refine qg Z F ?_ ?_<;>intro F
 ·exact X0 4 Z (rb h F Z)
 refine X0 6 Z ?_;obtain⟨z,F,c⟩:=qc F;refine qm (rL (fun m e w'=>∃i1,qfy t m i1=V z/\e=[(1,vp a),(3,vi i1)]/\SH w w' [oX a (qhC t v x y p s k3) 243]) n ⟨_,F,rfl,h⟩ Z ?_);rintro u _ _ ⟨i1,F,rfl,h⟩;rcases u with _|u
 ·cases F
 refine X1 9 0 h Z (qg Z F ?_ ?_)<;>intro F
 ·refine X1 8 0 h Z ?_;obtain⟨_,_,F,k,_,_,_,_,l,o,rfl,i⟩:=B.ix F;refine zxe l o k Z (zc 0 (i.below h.below) Z (zcB h F qaa Z fun _ _ h F=>X0 2 Z (qg Z F ?_ ?_)))<;>intro F
  ·refine X0 4 Z ?_;obtain rfl:=qb F;replace F:=c;exact rb h F Z
  exact X0 7 Z (rK ⟨_,F,rfl,h⟩ Z)
 refine qr Z ?_;obtain rfl:=qb F;replace F:=c;exact X0 4 Z (rb h F Z)
def qde(t:qv):Nat->Int->Int->Int->Option (Int×Int×Int)|0,_,_,_=>U|n+1,i1,b,a=>bif decide (a<(t.Bj.length:Int)) then(idx t.Bj a).bind fun c=>(idx t.Bj a).bind fun d=>qde t n (if c<i1 then c else i1) (if d > b then d else b) (W64 (a+1)) else V (i1,b,a)
def qib(n:Nat)(t:qv):Option (qe×Int):=(qk4 n t).bind fun b=>bif (!b) then V ((⟨0,0⟩:qe),1) else(idx t.Bj 0).bind fun c=>(idx t.Bj 0).bind fun d=>(qde t n c d 1).bind fun(i1,a,_)=>V ((⟨i1,a⟩:qe),0)
theorem qpo{t:qv}(d:Ro w t cs1){r:(qe×Int)}(F:qib n t=V r):RetV prog 342 [oV qv cs1] w r:=by
 obtain⟨O,L,P,M,Q,k3,rfl,_,_,g⟩:=qaJ d;refine zV 45 func342 Z fun h=>zSR (qx h Z Z fun _ a h=>qp qa h Z Z Z fun _ b h=>X1 6 1 h Z (zcB h F (qr2 (h.old d)) Z fun _ _ h F=>X0 2 Z (qg Z F ?_ ?_)))<;>intro F
 ·refine zSR (r_v (qV qa [] [] Z Z Z Z Z Z Z Z) Z (zs 0 h Z fun _ h=>X0 2 Z ?_));obtain rfl:=qb F;exact qac qa (ρ:=(qe×Int)) [oV qe [vi 0,vi 0],oV Int [vi 1]] h ⟨⟨_,_,_,rfl,rfl,h.box 0 Z,rfl⟩,rfl,G⟩ (PV.done h (qat h (qz (S:=fun _=>False) (qA (⟨0,0⟩:qe))) (qah (qz (S:=fun _=>False) Z)) (by rfl)))
 refine zKS (rA [] [1] h Z fun _ h=>M1 3 [0,1] 0 (h.p [1] Z) Z ?_);obtain⟨_,_,F,s,_,_,_,_,y,C,rfl,k⟩:=g.ix F;refine Ae 2 7 y C s (h.p [1] Z) Z (Al 3 15 0 k (h.p [1] Z) Z (M1 63 [4,5] 0 (h.p [1] Z) Z ?_));obtain⟨_,_,F,u,_,_,_,_,z,D,rfl,l⟩:=g.ix F;refine Ae 6 127 z D u (h.p [1] Z) Z (Al 7 255 0 l (h.p [1] Z) Z (Aw 8 511 (fun w' T=>qV qa [0,1] [.tmp 13,.tmp 17] Z Z Z Z Z Z Z Z) (h.p [1] Z) Z ?_));refine Ao 9 1023 Z (qp qa h Z Z Z fun _ c h=>Ag (h.p [2] Z) (Ao 10 2047 Z (zs 0 h Z fun _ h=>Ag (h.p [2] Z) (Ad (X0 5 Z ?_)))));obtain⟨N,F,i⟩:=qc F;refine qm (rL (fun m e w'=>∃i1 f J,qde t m i1 f J=V N/\e=[(1,vp a),(2,vp b),(4,vp c),(5,vi J)]/\SH w w' [oX c [vi i1,vi f] 102,oX b [vi 0,vi 0] 102,oX a (qhC t O P Q L M k3) 243]) n ⟨_,_,_,F,rfl,h⟩ Z ?_);rintro K _ _ ⟨i1,f,J,F,rfl,h⟩;rcases K with _|K
 ·cases F
 refine X1 9 2 h Z (qg Z F ?_ ?_)<;>intro F
 ·refine X0 4 Z (rA [9] [0,2] h Z fun _ h=>M2 31 [0,1,2,3,4] 0 1 (h.p [0,2] Z) Z ?_);obtain⟨_,_,F,v,_,_,_,_,A,H,rfl,o⟩:=g.ix F;refine Ae 5 63 A H v (h.p [0,2] Z) Z (Al 6 127 0 o (h.p [0,2] Z) Z (M0 511 [7,8] (h.p [0,2] Z) Z (Ao 9 1023 Z (zs 0 h Z fun _ h=>qaZ (fun R=>absurd (R 9 (by decide)) (by decide)) (Ad (rA [9] [0,2] h Z fun _ h=>M2 31 [0,1,2,3,4] 0 1 (h.p [0,2] Z) Z ?_))))));obtain⟨_,_,F,x,_,_,_,_,B,I,rfl,p⟩:=g.ix F;exact Ae 5 63 B I x (h.p [0,2] Z) Z (Al 6 127 0 p (h.p [0,2] Z) Z (M0 511 [7,8] (h.p [0,2] Z) Z (Ao 9 1023 Z (zs 0 h Z fun _ h=>qaZ (fun R=>absurd (R 9 (by decide)) (by decide)) (Ad (X0 6 Z (rK ⟨_,_,_,F,rfl,h⟩ Z)))))))
 refine qr Z ?_;obtain rfl:=qb F;replace F:=i;refine X1 3 0 h Z (zs 1 h Z fun _ h=>X0 2 Z ?_);obtain rfl:=qb F;exact qac qa (ρ:=(qe×Int)) [oV qe [vi i1,vi f],oV Int [vi 0]] h ⟨⟨_,_,_,rfl,rfl,h.box 1 Z,rfl⟩,rfl,G⟩ (PV.done h (qat h (qz (S:=fun _=>False) (qA (⟨i1,f⟩:qe))) (qah (qz (S:=fun _=>False) Z)) (by rfl)))
def qc8(list:(List qv))(d:Bool):Nat->Int->Option (Flow Bool Int)|0,_=>U|n+1,i1=>bif decide (i1<2) then(idx list i1).bind fun c=>(qib n c).bind fun(a,b)=>bif (b != 0) then V (.ret false) else bif d then bif decide (a.Au<0) then V (.ret false) else qc8 list d n (W64 (i1+1)) else qc8 list d n (W64 (i1+1)) else V (.nxt i1)
def qd3(n:Nat)(list:(List qv))(a:Bool):Option Bool:=bif ((list.length:Int) != 2) then V false else(qc8 list a n 0).bind fun|.ret r=>V r|.nxt _=>V true
theorem qfO{list:(List qv)}{positive}(c:Ro w list cs1){r:Bool}(F:qd3 n list positive=V r):RetV prog 335 [oV (List qv) cs1,.bool positive] w r:=by
 obtain⟨y,v,rfl,B⟩:=c;refine zV 33 func335 Z fun h=>X0 11 Z (qg Z F ?_ ?_)<;>intro F
 ·exact X0 4 Z (rb h F Z)
 refine X0 6 Z ?_;obtain⟨x,F,a⟩:=qc F;refine qm (rL (fun m e w'=>∃i1,qc8 list positive m i1=V x/\e=[(0,oS y list.length v),(1,.bool positive),(5,vi i1)]/\SH w w' []) n ⟨_,F,rfl,h⟩ Z ?_);rintro u _ _ ⟨i1,F,rfl,h⟩;rcases u with _|u
 ·cases F
 refine X0 6 Z (qg Z F ?_ ?_)<;>intro F
 ·refine X0 7 Z ?_;obtain⟨H,_,F,f,_,_,_,_,g,i,k,d⟩:=B.ix F;obtain⟨_,_,_,_,_,_,rfl,s2,C,D⟩:=qaJ k;refine zxe g i f Z (zc 0 (d.below h.below) Z ?_);obtain⟨⟨z,A⟩,l,F⟩:=qc F;refine qaI (z,A) h (cB 342 Z) (qpo (qfZ H (h.oldS s2) (h.oldS C) (h.oldS D)) l) Z Z Z Z fun _ _ _ s o=>?_;obtain⟨_,_,_,_,rfl,b,p⟩:=s.cons o;obtain rfl:=qt (b.sh.own 0 Z);obtain⟨rfl,h⟩:=b.lastI p;refine zp3 Z (qp qa h Z Z Z fun _ _ h=>zs 0 h Z fun _ h=>X0 7 Z (qn (t:=25) F Z ?_ ?_))<;>intro F
  ·refine X0 8 Z (qcq Z Z (X0 4 Z ?_));obtain rfl:=qb F;replace F:=a;exact rb h F Z
  refine X0 4 Z (qn (t:=27) F Z ?_ ?_)<;>intro F
  ·refine X1 10 0 h Z (qg Z F ?_ ?_)<;>intro F
   ·refine X0 4 Z ?_;obtain rfl:=qb F;replace F:=a;exact rb h F Z
   refine X0 7 Z ?_;replace h:=h.p [] Z;exact rK ⟨_,F,rfl,h⟩ Z
  refine X0 7 Z (qch Z Z (X0 7 Z ?_));replace h:=h.p [] Z;exact rK ⟨_,F,rfl,h⟩ Z
 refine qr Z ?_;obtain rfl:=qb F;replace F:=a;exact X0 4 Z (rb h F Z)
def qmc(n:Nat)(b:qB)(a:qI):Option Bool:=((qal n a.Bl 0 (W64 ((W64 ((b.Bg.length:Int)-1))-1))).bind fun l=>bif (!l) then V true else(qal n a.To 0 (W64 ((b.Bg.length:Int)-1))).bind fun m=>V (!m)).bind fun b1=>bif b1 then V false else(idx b.Bg a.Bl).bind fun c=>bif (a.Bi==1) then bif (!c.Bt) then bif (a.To==(W64 ((b.Bg.length:Int)-1))) then(qal n a.Br 1 3).bind fun f=>bif f then(qd3 n a.Bp true).bind fun g=>bif g then(qd3 n a.Bf true).bind fun h=>V h else V false else V false else V false else V false else(bif (a.Bi==2) then V (a.Bi==2) else V (a.Bi==3)).bind fun b3=>bif b3 then bif c.Bt then bif (a.To==(W64 ((b.Bg.length:Int)-1))) then bif (a.Br==0) then(qd3 n a.Bp true).bind fun r4=>bif r4 then(qd3 n a.Bf true).bind fun i=>V i else V false else V false else V false else V false else(bif (a.Bi==4) then V (a.Bi==4) else V (a.Bi==5)).bind fun d=>bif d then bif c.Bt then bif decide (a.To<(W64 ((b.Bg.length:Int)-1))) then(idx b.Bg a.To).bind fun o=>bif (!o.Bt) then bif (a.Br==0) then(qd3 n a.Bp false).bind fun k=>bif k then V ((a.Bf.length:Int)==0) else V false else V false else V false else V false else V false else V false
theorem qsX{a:qB}{b:qI}(v:Ro w a cs1)(x:Ro w b cs2){r:Bool}(F:qmc n a b=V r):RetV prog 324 [oV qB cs1,oV qI cs2] w r:=by
 obtain⟨P,L,Q,M,R,k3,rfl,X,_,_⟩:=qag v;obtain⟨S,N,T,O,rfl,W,Y⟩:=qaj x;refine zV 119 func324 Z fun h=>zSR (qx h Z Z fun _ c h=>qx h Z Z fun _ d h=>X1 12 1 h Z ?_);obtain⟨s,m,_,F,i⟩:=bindE F;refine qaV (fun e w'=>∃b1,s b1=V r/\e=[(2,vp c),(3,vp d),(5,vi (W64 ((a.Bg.length:Int)-1))),(23,.bool b1)]/\SH w w' [oX d (qhv b S T N O) 238,oX c (qeF a P Q R L M k3) 251]) ?_ ?_
 ·refine X1 5 0 h Z (zcB h F qaa Z fun _ _ h F=>zp2 Z (qn (t:=17) F Z ?_ ?_))<;>intro F
  ·refine X0 7 Z ?_;obtain rfl:=qb F;exact rG ⟨_,i,rfl,h⟩ Z
  refine X1 7 0 h Z (zcB h F qaa Z fun _ _ h F=>X0 4 Z ?_);obtain rfl:=qb F;exact rG ⟨_,i,rfl,h⟩ Z
 rintro _ _ ⟨b1,F,rfl,h⟩;subst m;refine qg Z F ?_ ?_<;>intro F
 ·exact X0 4 Z (rb h F Z)
 refine X2 7 1 0 h Z ?_;obtain⟨y1,_,F,A,_,_,_,_,C,H,J,y⟩:=X.ix F;obtain rfl:=qa0 J;refine zxe C H A Z (zp1 Z (zc 3 (y.below h.below) Z (X1 14 0 h Z (qg Z F ?_ ?_))))<;>intro F
 ·refine X0 5 Z (qn (t:=37) F Z ?_ ?_)<;>intro F
  ·refine X1 10 0 h Z (qn (t:=43) F Z ?_ ?_)<;>intro F
   ·refine X1 5 0 h Z (zcB h F qaa Z fun _ _ h F=>zp2 Z (qn (t:=48) F Z ?_ ?_))<;>intro F
    ·refine X1 5 0 h Z (zcB h F (qfO ⟨_,_,rfl,(h.oldS W)⟩) Z fun _ _ h F=>zp2 Z (qn (t:=53) F Z ?_ ?_))<;>intro F
     ·exact X1 5 0 h Z (zcB h F (qfO ⟨_,_,rfl,(h.oldS Y)⟩) Z fun _ _ h F=>X0 3 Z (rb h F Z))
     exact X0 6 Z (rb h F Z)
    exact X0 11 Z (rb h F Z)
   exact X0 16 Z (rb h F Z)
  exact X0 22 Z (rb h F Z)
 refine X0 6 Z ?_;obtain⟨p,l,_,F,g⟩:=bindE F;refine qaV (fun e w'=>∃b3,p b3=V r/\e=[(2,vp c),(3,vp d),(5,vi (W64 ((a.Bg.length:Int)-1))),(6,.bool y1.Bt),(32,vi b.Bi),(58,.bool b3)]/\SH w w' [oX d (qhv b S T N O) 238,oX c (qeF a P Q R L M k3) 251]) ?_ ?_
 ·refine qg Z F ?_ ?_<;>intro F
  ·refine qcJ ?_;obtain rfl:=qb F;exact rG ⟨_,g,rfl,h⟩ Z
  refine X0 4 Z ?_;obtain rfl:=qb F;exact rG ⟨_,g,rfl,h⟩ Z
 rintro _ _ ⟨b3,F,rfl,h⟩;subst l;refine qg Z F ?_ ?_<;>intro F
 ·refine X0 4 Z (qn (t:=62) F Z ?_ ?_)<;>intro F
  ·refine X1 10 0 h Z (qn (t:=68) F Z ?_ ?_)<;>intro F
   ·refine X1 8 0 h Z (qn (t:=73) F Z ?_ ?_)<;>intro F
    ·refine X1 5 0 h Z (zcB h F (qfO ⟨_,_,rfl,(h.oldS W)⟩) Z fun _ _ h F=>zp2 Z (qn (t:=78) F Z ?_ ?_))<;>intro F
     ·exact X1 5 0 h Z (zcB h F (qfO ⟨_,_,rfl,(h.oldS Y)⟩) Z fun _ _ h F=>X0 3 Z (rb h F Z))
     exact X0 6 Z (rb h F Z)
    exact X0 11 Z (rb h F Z)
   exact X0 16 Z (rb h F Z)
  exact X0 22 Z (rb h F Z)
 refine X0 6 Z ?_;obtain⟨o,k,_,F,f⟩:=bindE F;refine qaV (fun e w'=>∃u,o u=V r/\e=[(2,vp c),(3,vp d),(5,vi (W64 ((a.Bg.length:Int)-1))),(6,.bool y1.Bt),(83,.bool u)]/\SH w w' [oX d (qhv b S T N O) 238,oX c (qeF a P Q R L M k3) 251]) ?_ ?_
 ·refine qg Z F ?_ ?_<;>intro F
  ·refine qcJ ?_;obtain rfl:=qb F;exact rG ⟨_,f,rfl,h⟩ Z
  refine X0 4 Z ?_;obtain rfl:=qb F;exact rG ⟨_,f,rfl,h⟩ Z
 rintro _ _ ⟨u,F,rfl,h⟩;subst k;refine qg Z F ?_ ?_<;>intro F
 ·refine X0 4 Z (qn (t:=87) F Z ?_ ?_)<;>intro F
  ·refine X1 10 0 h Z (qn (t:=93) F Z ?_ ?_)<;>intro F
   ·refine X2 9 1 0 h Z ?_;obtain⟨_,_,F,B,_,_,_,_,D,I,K,z⟩:=X.ix F;obtain rfl:=qa0 K;refine zxe D I B Z (X0 3 Z (zc 3 (z.below h.below) Z (X0 4 Z (qn (t:=103) F Z ?_ ?_))))<;>intro F
    ·refine X1 8 0 h Z (qn (t:=108) F Z ?_ ?_)<;>intro F
     ·refine X1 5 0 h Z (zcB h F (qfO ⟨_,_,rfl,(h.oldS W)⟩) Z fun _ _ h F=>zp2 Z (qn (t:=113) F Z ?_ ?_))<;>intro F
      ·exact X1 11 0 h Z (rb h F Z)
      exact X0 7 Z (rb h F Z)
     exact X0 12 Z (rb h F Z)
    exact X0 17 Z (rb h F Z)
   exact X0 27 Z (rb h F Z)
  exact X0 33 Z (rb h F Z)
 exact X0 6 Z (rb h F Z)
def qdJ(c:qB):Nat->(List Int)->Int->Option ((List Int)×Int)|0,_,_=>U|n+1,a,i1=>bif decide (i1<(c.Ba.length:Int)) then(idx c.Ba i1).bind fun b=>(idx a b.Bi).bind fun d=>(idx a b.Bi).bind fun _=>qdJ c n (setS a b.Bi (W64 (d+1))) (W64 (i1+1)) else V (a,i1)
def qkk(n:Nat)(c:qB):Option (List Int):=(mkS 6 (0:Int)).bind fun x1=>(qdJ c n x1 0).bind fun(a,_)=>V a
theorem qrl{c:qB}(l:Ro w c cs1){r:(List Int)}(F:qkk n c=V r):RetV prog 325 [oV qB cs1] w r:=by
 obtain⟨M,J,N,K,O,k3,rfl,_,s2,_⟩:=qag l;refine zV 25 func325 Z fun h=>zSR (qx h Z Z fun _ b h=>X0 4 Z ?_);obtain⟨x1,a,F⟩:=qc F;obtain⟨H,I,a⟩:=qS a;refine qam qa Int h Z Z Z Z Z Z Z Z Z H I a Z fun _ S1 D h=>X0 7 Z ?_;obtain⟨L,F,k⟩:=qc F;refine qm (rL (fun m e w'=>∃B i1,qdJ c m B i1=V L/\e=[(1,vp b),(3,oS D x1.length x1.length),(4,vi i1)]/\SH w w' [oW S1 (B:List Int) [oS D x1.length x1.length],oX b (qeF c M N O J K k3) 251]) n ⟨_,_,F,rfl,h⟩ Z ?_);rintro C _ _ ⟨B,i1,F,rfl,h⟩;rcases C with _|C
 ·cases F
 refine X1 9 1 h Z (qg Z F ?_ ?_)<;>intro F
 ·refine X1 8 1 h Z ?_;obtain⟨_,_,F,t,_,_,_,_,u,x,z,o⟩:=s2.ix F;obtain⟨_,_,_,_,rfl,_,_⟩:=qaj z;refine zxe u x t Z (zp1 Z (zc 0 (o.below h.below) Z ?_));obtain⟨P,_,F,d,_,_,_,_,v,y,rfl,p⟩:=(h.sl 0 Z).1.ix F;refine zx v y ⟨d.1,qD d.2.1 (h.sl 0 Z).2⟩ Z (zc 0 p Z (zp1 Z ?_));obtain⟨_,A,F,f,_,_,_,_,g,i,rfl,s⟩:=(h.sl 0 Z).1.ix F;exact zx g i ⟨f.1,qD f.2.1 (h.sl 0 Z).2⟩ Z (qav qa 0 0 (W64 (P+1)) h Z A g i Z s Z Z Z Z Z Z Z fun _ h=>X0 7 Z (rK ⟨_,_,F,rfl,h⟩ Z))
 refine qr Z ?_;obtain rfl:=qb F;replace F:=k;refine X0 5 Z ?_;obtain rfl:=qb F;exact rO 0 h Z ⟨rfl,G⟩
end Go.Fw
