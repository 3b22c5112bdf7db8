/- Calls that hand out parts of memory one by one: what is owned stays apart. -/
import Derived.Test.YtbmbbkjleheokaaGreatDoorQ2
import Derived.Sort.Grow
import Derived.Lib.SlicesCompact
import Derived.Laws.StructEq
import Derived.Test.YtbmbbkjleheokaaGreatDoorChecked
import Derived.Test.YtbmbbkjleheokaaGreatDoorQ3
open Option renaming some->V, none->U
open Bool renaming and_eq_true->je, not_eq_true'->jG
open Nat renaming le_of_ble_eq_true->jq, le_trans->Jh
open List renaming not_mem_nil->jy, mem_of_getElem?->jA, mem_append_left->jE, mem_cons->jL, mem_append_right->jW
open Array renaming getElem?_append_left->jO

namespace Go.Fw
open Go
open Go.RowKit (Below)
section
variable{P:Program}{T:Tab}{n:Nat}{Q:Exit->Act->World->Prop}{k:List It}{e:Env}{w0 w w':World}{L L':List Ch}
theorem SH.append(h:SH w0 w L)(hL:SH w w' L')(hD:∀c,c∈L'->∀b,c.D b->b<w0.heap.size):SH w0 w' (L'++L):=by
 have h':=h.ext hL.below;refine⟨h'.below,fun c hc=>?_,fun c hc=>?_,?_⟩
 ·rcases List.mem_append.1 hc with hc|hc
  ·obtain⟨p,s⟩:=hL.holds c hc;exact⟨p,fun b hb=>⟨Jh h.below.size (s b hb).1,(s b hb).2⟩⟩
  ·exact h'.holds c hc
 ·rcases List.mem_append.1 hc with hc|hc
  ·exact hD c hc
  ·exact h.elder c hc
 ·refine List.pairwise_append.2 ⟨hL.apart,h.apart,fun c hc d hd b hcb hdb=>?_⟩;have h1:=((hL.holds c hc).2 b hcb).1;have h2:=((h.holds d hd).2 b hdb).2;omega
theorem SH.appendN(h:SH w0 w L)(hL:SH w w' L')(hD:NoD L'):SH w0 w' (L'++L):=
 SH.append h hL fun c hc b hb=>absurd hb (NoD.all hD c hc b)
def RetZ(P:Program)(f:FuncId)(vs:List Value)(w:World)(Φ:List Value->List Ch->Prop):Prop:=
 Calls P f vs.toArray w fun e w'=>∃v,e=.returned v/\Below w.heap.size w w'/\∃us L,v=tup us/\SH w w' L/\Φ us L
theorem qrX{Φ:List Value->List Ch->Prop}{all:Array Oper}{l:List Oper}{d ty:Nat}{ps:String}{af:Array Edge}{x:Operand}{args:Array Operand}{ats:Array TypeId}{f:FuncId}{fi ca:Array Value}{az vs:List Value}
  (hcall:qe5 P f) (hc:RetZ P f vs w Φ) (hx:opv e x=V (.func (.func f) fi ca)) (hargs:opvs e args.toList=V az) (hvs:fi.toList++az++ca.toList=vs) (hn:Nat.blt d n=true)
  (hk:∀w' us L',SH w w' L'->Φ us L'->Run P n Q (.ops all l::k) ((d,tup us)::e) w') :
  Run P n Q (.ops all (⟨V d,.call ⟨.value x,args,ats⟩,ty,ps,af,U⟩::l)::k) e w:=by
 subst hvs;refine qma (R:=fun v w'=>Below w.heap.size w w'/\∃us L,v=tup us/\SH w w' L/\Φ us L) Z Z hn (fun a ha=>qiy ha hcall hx hargs w) hc ?_;rintro v w' ⟨_,us,L',rfl,hL,hv⟩;exact hk w' us L' hL hv
theorem qpj{f:FuncId}{fn:Func}{c:Code}{vs:List Value}{Φ:List Value->List Ch->Prop}{m:Nat}(hf:P.funcs[f]?=V fn)(hb:fn.body=V c)(hm:fn.ntmps=m)(hn:Nat.ble vs.length m=true)
  (h:SH w w []->Run P m (bodyPost P fn fun e w'=>∃v,e=.returned v/\Below w.heap.size w w'/\∃us L,v=tup us/\SH w w' L/\Φ us L) [.code c] (argEnv 0 vs) w):RetZ P f vs w Φ:=by
 subst hm;have hn':=jq hn;refine calls_of_wp hf hb ?_;have hr:=h (SH.start w);have hag:Agree fn.ntmps (argEnv 0 vs) { tmps:=vs.toArray++Array.replicate (fn.ntmps-vs.toArray.size) undef,defers:=[] }:=by
  refine⟨rfl,by simp;omega,fun i v hi=>?_⟩;obtain⟨_,h2⟩:=qil vs 0 i v hi;simp only[Nat.sub_zero] at h2;have hlt:=(List.getElem?_eq_some_iff.1 h2).1;rw[jO (by simpa using hlt)];simpa using h2
 have h1:=hr _ hag;refine wp_mono h1 ?_;intro ex a' w' hq;cases ex<;>exact hq
theorem qs8(hT:TabOk P T){fn:Func}{Φ:List Value->List Ch->Prop}(us:List Value)(h:SH w0 w L)(hr:ResOk T e w fn.results.toList us)(hv:Φ us L) :
  Run P n (bodyPost P fn fun e w'=>∃v,e=.returned v/\Below w0.heap.size w0 w'/\∃us L,v=tup us/\SH w0 w' L/\Φ us L) (.code .ret::k) e w:=
 qq0 fun _ ha=>⟨ha.defers,tup us,qgs hT ha hr,tup us,rfl,h.below,us,L,rfl,h,hv⟩
end
end Go.Fw


namespace Go.Fw
open Go Go.Sort
open Go.RowKit (Below)
section
variable{P:Program}{T:Tab}{n:Nat}{Q:Exit->Act->World->Prop}{k:List It}{e:Env}{w0 w w':World}{L L':List Ch}
end
end Go.Fw


namespace Go.Fw
open Go
open Go.RowKit (Below)
section
variable{w0 w w':World}{L:List Ch}{α:Type}[GoT α]
def RAll(w:World)(A:Nat->Prop):List α->List (Raw α)->Prop
 | [],[]=>True
 |x::xs,r::rs=>GoT.R w A x r.cs/\RAll w A xs rs
 |_,_=>False
theorem RAll.at{A:Nat->Prop}:∀{xs:List α} {rs:List (Raw α)},RAll w A xs rs->xs.length=rs.length/\∀(i:Nat) x,xs[i]?=V x->∃r,rs[i]?=V r/\GoT.R w A x r.cs
 | [],[],_=>⟨rfl,fun i x h=>by simp at h⟩
 |x::xs,[],h=>h.elim
 | [],r::rs,h=>h.elim
 |x::xs,r::rs,h=>by
  obtain⟨hl,ha⟩:=RAll.at h.2;refine⟨by simp[hl],fun i y hy=>?_⟩;cases i with
  |zero=>simp only[List.getElem?_cons_zero,Option.some.injEq] at hy⊢;subst hy;exact⟨r,rfl,h.1⟩
  |succ i=>simp only[List.getElem?_cons_succ] at hy⊢;exact ha i y hy
end
end Go.Fw


namespace Go.Fw
open Go
end Go.Fw


namespace Go.Fw
open Go
open Go.RowKit (Below)
section
variable{P:Program}{T:Tab}{n:Nat}{Q:Exit->Act->World->Prop}{k:List It}{e:Env}{w0 w:World}{L:List Ch}
variable{α:Type}[GoT α]{S S1:Nat->Prop}{xs ys:List α}{p p':Option Addr}{c c':Nat}
theorem RetG.up{ρ:Type}[GoRs ρ][MonoRs ρ]{f:FuncId}{vs:List Value}{A A':Nat->Prop}{r:ρ}(h:RetG P f vs w A r)(hA:∀b,A b->A' b):RetG P f vs w A' r:=by
 refine Calls.mono h ?_;rintro e w' ⟨v,rfl,hb,us,rfl,hv⟩;exact⟨_,rfl,hb,us,rfl,MonoRs.mono hv fun b hb=>hb.elim (fun h=>.inl (hA b h)) .inr⟩
end
section
variable{α β γ:Type}
def Emp(o:Option (List α)):Prop:=∀r,o=V r->r=[]
theorem Emp.none:Emp (U:Option (List α)):=fun _ h=>by cases h
theorem Emp.noneB{f:β->Option (List α)}:Emp ((Option.none:Option β).bind f):=fun _ h=>by cases h
theorem Emp.nil:Emp (V ([]:List α)):=fun _ h=>(Option.some.inj h).symm
theorem Emp.bif{c:Bool}{a b:Option (List α)}(h1:Emp a)(h2:Emp b):Emp (bif c then a else b):=by cases c<;>assumption
theorem Emp.sub{xs:List β}{lo:Int}{f:List β->Option (List α)}(h:Emp (f [])):Emp ((subS xs lo ((0:Nat):Int)).bind f):=fun r hr=>by
 cases hs:subS xs lo ((0:Nat):Int) with
 |none=>rw[hs] at hr;cases hr
 |some y=>
  rw[hs] at hr;obtain⟨_,_,_,e⟩:=qo8 hs;have:y=[]:=by rw[<-e];simp
  subst this;exact h r hr
theorem Emp.assoc{x:Option β}{g:β->Option γ}{f:γ->Option (List α)}(h:∀y,Emp ((g y).bind f)):Emp ((x.bind g).bind f):=by
 cases x with
 |none=>exact Emp.noneB
 |some y=>exact h y
theorem Emp.bind{x:Option β}{f:β->Option (List α)}(h:∀y,Emp (f y)):Emp (x.bind f):=by
 cases x with
 |none=>exact Emp.noneB
 |some y=>exact h y
end
end Go.Fw


namespace Go.Fw
open Go
section
variable{ε:Type}
variable{ρ σ τ:Type}
end

end Go.Fw


namespace Go.Fw
open Go
open Go.RowKit (Below)
structure Same where
 w:World
 K:Nat->Prop
instance instSame:GoT Same where
 k:=1
 agg:=false
 zero:=⟨default,fun _=>False⟩
 zc:=[.bool true]
 R w S x cs:=cs=[.bool true]/\∀b,x.K b->S b/\w.heap[b]?=x.w.heap[b]?
 O w S x cs:=cs=[.bool true]/\∀b,x.K b->S b/\w.heap[b]?=x.w.heap[b]?
 kpos:=by decide
 noagg _:=rfl
 len h:=by obtain⟨rfl,_⟩:=h;rfl
 one h:=by obtain⟨rfl,_⟩:=h;simp[Value.oneCell']
 loc h hs:=⟨h.1,fun b hb=>⟨(h.2 b hb).1,(hs b (h.2 b hb).1).trans (h.2 b hb).2⟩⟩
 mono h hs:=⟨h.1,fun b hb=>⟨hs b (h.2 b hb).1,(h.2 b hb).2⟩⟩
 toR h:=h
 locO h hs:=⟨h.1,fun b hb=>⟨(h.2 b hb).1,(hs b (h.2 b hb).1).trans (h.2 b hb).2⟩⟩
 monoO h hs:=⟨h.1,fun b hb=>⟨hs b (h.2 b hb).1,(h.2 b hb).2⟩⟩
 zO _ _:=⟨rfl,fun _ h=>h.elim⟩
def FS(F:List Ch)(b:Nat):Prop:=∃d,d∈F/\d.S b
abbrev Fr(w0:World)(F:List Ch)(b:Nat):Prop:=FS F b\/old w0 b
abbrev same(w0 w:World)(F:List Ch):Fct:=fct (⟨w,Fr w0 F⟩:Same) [.bool true]
section
variable{P:Program}{T:Tab}{n:Nat}{Q:Exit->Act->World->Prop}{k:List It}{e:Env}{w0 w w':World}{L L' F:List Ch}
theorem SH.frame(L:List Ch)(h:SH w0 w (L++F)):SH w0 w (L++[Ch.grp (Fw.old w0) (FS F) [same w0 w F]]):=by
 have hp:=List.pairwise_append.1 h.apart;refine⟨h.below,fun c hc=>?_,fun c hc=>?_,List.pairwise_append.2 ⟨hp.1,List.pairwise_singleton ..,fun c hc d hd b hb=>?_⟩⟩
 ·rcases List.mem_append.1 hc with hc|hc
  ·exact h.holds c (jE _ hc)
  ·obtain rfl:=List.mem_singleton.1 hc;refine⟨fun f hf=>?_,fun b hb=>?_⟩
   ·obtain rfl:=List.mem_singleton.1 hf;exact⟨rfl,fun b hb=>⟨hb,rfl⟩⟩
   ·obtain⟨d,hd,hb⟩:=hb;exact(h.holds d (jW _ hd)).2 b hb
 ·rcases List.mem_append.1 hc with hc|hc
  ·exact h.elder c (jE _ hc)
  ·obtain rfl:=List.mem_singleton.1 hc;exact fun b hb=>hb
 ·obtain rfl:=List.mem_singleton.1 hd;rintro⟨d,hd,hdb⟩;exact hp.2.2 c hc d hd b hb hdb
theorem SH.unframe{L0:List Ch}{fs:List Fct}(j:Nat)(h0:SH w0 w (L0++F))(L':List Ch)(h:SH w0 w' (L'++[Ch.grp (Fw.old w0) (FS F) fs]))(hj:fs[j]?=V (same w0 w F)):SH w0 w' (L'++F):=by
 have hp:=List.pairwise_append.1 h.apart;have hp0:=List.pairwise_append.1 h0.apart;have hg:=h.holds (Ch.grp (Fw.old w0) (FS F) fs) (jW _ (List.mem_singleton.2 Z));have hs:∀b,Fr w0 F b->w'.heap[b]?=w.heap[b]?:=fun b hb=>((hg.1 _ (jA hj)).2 b hb).2;refine⟨h.below,fun c hc=>?_,fun c hc=>?_,List.pairwise_append.2 ⟨hp.1,hp0.2.1,fun c hc d hd b hb hdb=>?_⟩⟩
 ·rcases List.mem_append.1 hc with hc|hc
  ·exact h.holds c (jE _ hc)
  ·obtain⟨h1,h2⟩:=h0.holds c (jW _ hc);exact⟨c.loc w w' (fun b hb=>hs b (.inl ⟨c,hc,hb⟩)) (fun b hb=>hs b (.inr (h0.elder c (jW _ hc) b hb))) h1,fun b hb=>hg.2 b ⟨c,hc,hb⟩⟩
 ·rcases List.mem_append.1 hc with hc|hc
  ·exact h.elder c (jE _ hc)
  ·exact h0.elder c (jW _ hc)
 ·exact hp.2.2 c hc _ (List.mem_singleton.2 Z) b hb ⟨d,hd,hdb⟩
variable{α:Type}[GoT α]{x:α}{cs:List Value}{S D:Nat->Prop}{fs:List Fct}
theorem SH.frB{c:Ch}(i m:Nat)(hi:L[i]?=V c)(hm:Nat.ble m i=true):∀b,c.S b->FS (L.drop m) b:=fun b hb=>by
 have hm':=jq hm;refine⟨c,jA (i:=i-m) ?_,hb⟩;rw[List.getElem?_drop,show m+(i-m)=i by omega];exact hi
theorem SH.frO(i m:Nat)(h:SH w0 w L)(hi:L[i]?=V (Ch.own S x cs))(hm:Nat.ble m i=true):GoT.R w (Fr w0 (L.drop m)) x cs:=
 GoT.mono (GoT.toR (h.mem hi).1) fun b hb=>.inl (SH.frB i m hi hm b hb)
theorem SH.frG(i j m:Nat)(h:SH w0 w L)(hi:L[i]?=V (Ch.grp D S fs))(hj:fs[j]?=V (fct x cs))(hm:Nat.ble m i=true):GoT.R w (Fr w0 (L.drop m)) x cs:=
 GoT.mono (h.grpS i j hi hj) fun b hb=>hb.elim (fun hb=>.inl (SH.frB i m hi hm b hb)) fun hb=>.inr (h.elder _ (jA hi) b hb)
theorem SH.frOldS{F:List Ch}{xs:List α}{p:Option Addr}{c:Nat}(h:SH w0 w L)(hr:SlR w0 (Fw.old w0) xs p c):SlR w (Fr w0 F) xs p c:=
 (hr.loc fun b hb=>h.below.block b hb).mono fun _ hb=>.inr hb
def RetW(P:Program)(f:FuncId)(vs:List Value)(w:World)(J:List Value->World->Prop):Prop:=
 Calls P f vs.toArray w fun e w'=>∃us,e=.returned (tup us)/\J us w'
theorem qaQ{J:List Value->World->Prop}{all:Array Oper}{l:List Oper}{d ty:Nat}{ps:String}{af:Array Edge}{x:Operand}{args:Array Operand}{ats:Array TypeId}{f:FuncId}{fi ca:Array Value}{az vs:List Value}
  (hcall:qe5 P f) (hc:RetW P f vs w J) (hx:opv e x=V (.func (.func f) fi ca)) (hargs:opvs e args.toList=V az) (hvs:fi.toList++az++ca.toList=vs) (hn:Nat.blt d n=true)
  (hk:∀w' us,J us w'->Run P n Q (.ops all l::k) ((d,tup us)::e) w'):Run P n Q (.ops all (⟨V d,.call ⟨.value x,args,ats⟩,ty,ps,af,U⟩::l)::k) e w:=by
 subst hvs;refine qma (R:=fun v w'=>∃us,v=tup us/\J us w') Z Z hn (fun a ha=>qiy ha hcall hx hargs w) (hc.mono ?_) ?_
 ·rintro e w' ⟨us,rfl,h⟩;exact⟨_,rfl,us,rfl,h⟩
 ·rintro v w' ⟨us,rfl,h⟩;exact hk w' us h
theorem qbf{J:List Value->World->Prop}{f:FuncId}{fn:Func}{c:Code}{vs:List Value}{m:Nat}(hf:P.funcs[f]?=V fn)(hb:fn.body=V c)(hm:fn.ntmps=m)(hn:Nat.ble vs.length m=true)
  (h:Run P m (bodyPost P fn fun e w'=>∃us,e=.returned (tup us)/\J us w') [.code c] (argEnv 0 vs) w):RetW P f vs w J:=by
 subst hm;have hn':=jq hn;refine calls_of_wp hf hb ?_;have hag:Agree fn.ntmps (argEnv 0 vs) { tmps:=vs.toArray++Array.replicate (fn.ntmps-vs.toArray.size) undef,defers:=[] }:=by
  refine⟨rfl,by simp;omega,fun i v hi=>?_⟩;obtain⟨_,h2⟩:=qil vs 0 i v hi;simp only[Nat.sub_zero] at h2;have hlt:=(List.getElem?_eq_some_iff.1 h2).1;rw[jO (by simpa using hlt)];simpa using h2
 have h1:=h _ hag;refine wp_mono h1 ?_;intro ex a' w' hq;cases ex<;>exact hq
theorem qaM{J:List Value->World->Prop}(hT:TabOk P T){fn:Func}(us:List Value)(hr:ResOk T e w fn.results.toList us)(h:J us w) :
  Run P n (bodyPost P fn fun e w'=>∃us,e=.returned (tup us)/\J us w') (.code .ret::k) e w:=
 qq0 fun _ ha=>⟨ha.defers,tup us,qgs hT ha hr,us,rfl,h⟩
end
section
open Go.ChangeShapes Go.RowKit
variable{H:Type}{enc:TypeId×Value->H}{P:Program}{w:World}{base:Nat}{spare:Nat->Bool}{held:Bool}
end

section
variable{P:Program}{T:Tab}{n:Nat}{Q:Exit->Act->World->Prop}{k:List It}{e:Env}{w0 w w':World}{L:List Ch}
variable{α β:Type}[GoT α][GoT β]{S Sr Se D:Nat->Prop}{xs ys:List α}{p p':Option Addr}{c c':Nat}{fs:List Fct}{x:α}{cs:List Value}
theorem RAll.loc{A:Nat->Prop}:∀{xs:List α} {rs:List (Raw α)},RAll w A xs rs->(∀b,A b->w'.heap[b]?=w.heap[b]?)->RAll w' A xs rs
 | [],[],_,_=>trivial
 |_::_,[],h,_=>h.elim
 | [],_::_,h,_=>h.elim
 |_::_,_::_,h,hb=>⟨GoT.loc h.1 hb,RAll.loc h.2 hb⟩
theorem RAll.mono{A B:Nat->Prop}(hb:∀b,A b->B b):∀{xs:List α} {rs:List (Raw α)},RAll w A xs rs->RAll w B xs rs
 | [],[],_=>trivial
 |_::_,[],h=>h.elim
 | [],_::_,h=>h.elim
 |_::_,_::_,h=>⟨GoT.mono h.1 hb,RAll.mono hb h.2⟩
theorem RAll.app{A:Nat->Prop}:∀{xs:List α} {rs:List (Raw α)} {ys:List α} {qs:List (Raw α)},RAll w A xs rs->RAll w A ys qs->RAll w A (xs++ys) (rs++qs)
 | [],[],_,_,_,h=>h
 |_::_,[],_,_,h,_=>h.elim
 | [],_::_,_,_,h,_=>h.elim
 |_::_,_::_,_,_,h,h'=>⟨h.1,RAll.app h.2 h'⟩
theorem RAll.of{A:Nat->Prop}:∀{xs:List α} {rs:List (Raw α)},xs.length=rs.length->(∀(i:Nat) (x:α) (r:Raw α),xs[i]?=V x->rs[i]?=V r->GoT.R w A x r.cs)->RAll w A xs rs
 | [],[],_,_=>trivial
 |_::_,[],h,_=>by cases h
 | [],_::_,h,_=>by cases h
 |x::xs,r::rs,h,ha=>⟨ha 0 x r Z Z,RAll.of (by simpa using h) fun i y q hy hq=>ha (i+1) y q (by simpa using hy) (by simpa using hq)⟩
theorem RAll.len{A:Nat->Prop}{rs:List (Raw α)}(h:RAll w A xs rs):xs.length=rs.length:=h.at.1
theorem SH.frzI(i:Nat)(h:SH w0 w L)(hi:L[i]?=V (Ch.own S x cs)):SH w0 w (L.set i (Ch.grp (fun _=>False) S [fct x cs])):=
 h.say hi (fun hp f hf=>by
  obtain rfl:=List.mem_singleton.1 hf;have hp':GoT.O w S x cs:=hp;exact GoT.mono (S':=fun b=>S b\/False) (x:=x) (cs:=cs) (GoT.toR hp') (fun b hb=>.inl hb)) (fun _ h=>h) (fun _ h=>h.elim)
end
end Go.Fw


namespace Go.Fw
open Go
def rng8(x:IntK .u8):Prop:=0<=x.val/\x.val<=255
theorem qvM{P:Program}{t:TypeId}(ht:P.underlying t=V (.int .u8))(hc:P.cellsOf t=1):Opens P t (gt_IntK (kd:=.u8)) rng8:=
 ⟨hc,fun h=>by
  obtain⟨n,rfl,_,hw⟩:=DataW.trod_int ht h;exact⟨⟨n⟩,rfl,by simp only[Lit.wf,IntKind.min,IntKind.max,je] at hw;simp[IntKind.bits,IntKind.signed] at hw;unfold rng8;simp only;omega⟩⟩
end Go.Fw


namespace Go.Fw
open Go
open Go.RowKit (Below)
section
variable{P:Program}{T:Tab}{n:Nat}{Q:Exit->Act->World->Prop}{k:List It}{e:Env}{w0 w w':World}{L:List Ch}
end

section
variable{P:Program}{T:Tab}{n:Nat}{e:Env}{w:World}
def b3(a0:Bool)(a1 a2 a3:Int):Array Value:=#[.bool a0,.int .i64 a1,.int .i64 a2,.int .i64 a3]
end
end Go.Fw


namespace Go.Fw
open Go
section
variable{P:Program}{T:Tab}{n:Nat}{e:Env}{w:World}
theorem qrE{x y:Operand}{t t' d ty:Nat}{ps:String}{af:Array Edge}{g:Option (Nat×Bool)}{a b r:Int}(h0:b≠0)(hr:a.tmod b=r)
  (hx:opv e x=V (.int .i64 a)) (hy:opv e y=V (.int .i64 b)):Val P n e ⟨V d,.binOp .rem t x y t',ty,ps,af,g⟩ w (.int .i64 r):=hr ▸ qtY h0 hx hy
end
end Go.Fw


namespace Go.Fw
open Go
open Go.RowKit (Below)
section
variable{P:Program}{T:Tab}{n:Nat}{Q:Exit->Act->World->Prop}{k:List It}{e:Env}{w0 w w':World}{L:List Ch}
variable{α β:Type}[GoT α][GoT β]{S Sr Se D:Nat->Prop}{xs ys:List α}{p p':Option Addr}{c c':Nat}{fs:List Fct}{x:α}{cs:List Value}
end
end Go.Fw


namespace Go.Fw
open Go Go.Proofs Go.Proofs.Tryz
open Go.RowKit (Below)
open Ch renaming own->oW,box->oX,grp->oG
open GoT renaming v->oV
open Go.Value renaming slice->oS
set_option maxRecDepth 100000
set_option maxHeartbeats 6400000
variable{n:Nat}{w:World}{S:Nat->Prop}{cs1 cs2 cs3 cs4 cs5 cs6 cs7 cs8 cs9:List Value}
structure qaA where
 Bi:ByteArray
 Bv:Int
 Bq:Int
 Br:Bool
instance gt_TPin:GoT qaA:=isoT (pairT instStr (pairT instInt (pairT instInt instBool))) (fun x=>(x.Bi,x.Bv,x.Bq,x.Br)) ⟨ByteArray.empty,0,0,false⟩ Z true (fun h=>by cases h)
instance fl_TPin:Flat qaA:=qgl (pairT instStr (pairT instInt (pairT instInt instBool))) (fun x:qaA=>(x.Bi,x.Bv,x.Bq,x.Br)) ⟨ByteArray.empty,0,0,false⟩ Z true (fun h=>by cases h) (qaS _ _ (inferInstanceAs (Flat ByteArray)) (qaS _ _ (inferInstanceAs (Flat Int)) (qaS _ _ (inferInstanceAs (Flat Int)) (inferInstanceAs (Flat Bool)))))
abbrev qqE(x:qaA):List Value:=[.string x.Bi,vi x.Bv,vi x.Bq,.bool x.Br]
theorem qfn{x:qaA}{cs:List Value}(h:GoT.R w S x cs):cs=(qqE x):=by
 obtain⟨_,_,rfl,rfl,⟨_,_,rfl,rfl,⟨_,_,rfl,rfl,rfl⟩⟩⟩:=h;exact Z
theorem qlC(x:qaA):GoT.R w S x (qqE x):=have h:=pR (rT x.Bi) (pR (rI x.Bv) (pR (rI x.Bq) (rB x.Br)));h
structure qI where
 Bn:(List Int)
 Bj:(List Int)
 Bf:(List Int)
instance gt_TTable:GoT qI:=isoT (pairT (@instList Int instInt) (pairT (@instList Int instInt) (@instList Int instInt))) (fun x=>(x.Bn,x.Bj,x.Bf)) ⟨[],[],[]⟩ Z true (fun h=>by cases h)
abbrev qex(x:qI)(p0 p1 p2:Option Addr)(k0 k1 k2:Nat):List Value:=[oS p0 (x.Bn).length k0,oS p1 (x.Bj).length k1,oS p2 (x.Bf).length k2]
theorem qbX{x:qI}{cs:List Value}(h:GoT.R w S x cs):∃d a p1 b f c,cs=(qex x d p1 f a b c)/\SlR w S x.Bn d a/\SlR w S x.Bj p1 b/\SlR w S x.Bf f c:=by
 obtain⟨_,_,rfl,⟨d,a,rfl,s0⟩,⟨_,_,rfl,⟨p1,b,rfl,s1⟩,⟨f,c,rfl,s2⟩⟩⟩:=h;exact⟨d,a,p1,b,f,c,rfl,s0,s1,s2⟩
theorem qir(x:qI){d p1 f:Option Addr}{a b c:Nat}(s0:SlR w S x.Bn d a)(s1:SlR w S x.Bj p1 b)(s2:SlR w S x.Bf f c):GoT.R w S x (qex x d p1 f a b c):=have h:=pR (rS s0) (pR (rS s1) (rS s2));h
theorem qul{w0:World}{L:List Ch}(x:qI){I0 I1 I2:List Nat}{a c1 b:List Value}(h:SH w0 w L)(c:PO w L I0 x.Bn a)(d:PO w L I1 x.Bj c1)(f:PO w L I2 x.Bf b)(b0:apartB I0 (I1++I2)=true)(b1:apartB I1 I2=true):PO w L (I0++(I1++I2)) x (a++(c1++b)):=
 (qcU h c (qcU h d f b1) b0)
structure qat where
 Be:Int
 Bl:Int
 To:Int
 Bp:Int
 Bo:(List qI)
 Ba:(List qI)
instance gt_TArc:GoT qat:=isoT (pairT instInt (pairT instInt (pairT instInt (pairT instInt (pairT (@instList qI gt_TTable) (@instList qI gt_TTable)))))) (fun x=>(x.Be,x.Bl,x.To,x.Bp,x.Bo,x.Ba)) ⟨0,0,0,0,[],[]⟩ Z true (fun h=>by cases h)
abbrev qev(x:qat)(p0 p1:Option Addr)(k0 k1:Nat):List Value:=[vi x.Be,vi x.Bl,vi x.To,vi x.Bp,oS p0 (x.Bo).length k0,oS p1 (x.Ba).length k1]
theorem qav{x:qat}{cs:List Value}(h:GoT.R w S x cs):∃c a p1 b,cs=(qev x c p1 a b)/\SlR w S x.Bo c a/\SlR w S x.Ba p1 b:=by
 obtain⟨_,_,rfl,rfl,⟨_,_,rfl,rfl,⟨_,_,rfl,rfl,⟨_,_,rfl,rfl,⟨_,_,rfl,⟨c,a,rfl,s0⟩,⟨p1,b,rfl,s1⟩⟩⟩⟩⟩⟩:=h;exact⟨c,a,p1,b,rfl,s0,s1⟩
theorem qiN(x:qat){c p1:Option Addr}{a b:Nat}(s0:SlR w S x.Bo c a)(s1:SlR w S x.Ba p1 b):GoT.R w S x (qev x c p1 a b):=have h:=pR (rI x.Be) (pR (rI x.Bl) (pR (rI x.To) (pR (rI x.Bp) (pR (rS s0) (rS s1)))));h
theorem qtS{w0:World}{L:List Ch}(x:qat){I0 I1 I2 I3 I4 I5:List Nat}{a c1 b c d f:List Value}(h:SH w0 w L)(i:PO w L I0 x.Be a)(k:PO w L I1 x.Bl c1)(l:PO w L I2 x.To b)(m:PO w L I3 x.Bp c)(n:PO w L I4 x.Bo d)(o:PO w L I5 x.Ba f)(b0:apartB I0 (I1++(I2++(I3++(I4++I5))))=true)(b1:apartB I1 (I2++(I3++(I4++I5)))=true)(b2:apartB I2 (I3++(I4++I5))=true)(b3:apartB I3 (I4++I5)=true)(g:apartB I4 I5=true):PO w L (I0++(I1++(I2++(I3++(I4++I5))))) x (a++(c1++(b++(c++(d++f))))):=
 (qcU h i (qcU h k (qcU h l (qcU h m (qcU h n o g) b3) b2) b1) b0)
structure qF where
 Bi:ByteArray
 Be:Int
 Bg:(List qaA)
 Av:(List qat)
 Bs:(List Int)
 Ca:Int
 Bw:Int
instance gt_TCell:GoT qF:=isoT (pairT instStr (pairT instInt (pairT (@instList qaA gt_TPin) (pairT (@instList qat gt_TArc) (pairT (@instList Int instInt) (pairT instInt instInt)))))) (fun x=>(x.Bi,x.Be,x.Bg,x.Av,x.Bs,x.Ca,x.Bw)) ⟨ByteArray.empty,0,[],[],[],0,0⟩ Z true (fun h=>by cases h)
abbrev qJ(x:qF)(p0 p1 p2:Option Addr)(k0 k1 k2:Nat):List Value:=[.string x.Bi,vi x.Be,oS p0 (x.Bg).length k0,oS p1 (x.Av).length k1,oS p2 (x.Bs).length k2,vi x.Ca,vi x.Bw]
theorem qao{x:qF}{cs:List Value}(h:GoT.R w S x cs):∃d a p1 b f c,cs=(qJ x d p1 f a b c)/\SlR w S x.Bg d a/\SlR w S x.Av p1 b/\SlR w S x.Bs f c:=by
 obtain⟨_,_,rfl,rfl,⟨_,_,rfl,rfl,⟨_,_,rfl,⟨d,a,rfl,s0⟩,⟨_,_,rfl,⟨p1,b,rfl,s1⟩,⟨_,_,rfl,⟨f,c,rfl,s2⟩,⟨_,_,rfl,rfl,rfl⟩⟩⟩⟩⟩⟩:=h;exact⟨d,a,p1,b,f,c,rfl,s0,s1,s2⟩
theorem qrp(x:qF){d p1 f:Option Addr}{a b c:Nat}(s0:SlR w S x.Bg d a)(s1:SlR w S x.Av p1 b)(s2:SlR w S x.Bs f c):GoT.R w S x (qJ x d p1 f a b c):=have h:=pR (rT x.Bi) (pR (rI x.Be) (pR (rS s0) (pR (rS s1) (pR (rS s2) (pR (rI x.Ca) (rI x.Bw))))));h
theorem qqv{w0:World}{L:List Ch}(x:qF){I0 I1 I2 I3 I4 I5 I6:List Nat}{a c1 b c d f g:List Value}(h:SH w0 w L)(l:PO w L I0 x.Bi a)(m:PO w L I1 x.Be c1)(n:PO w L I2 x.Bg b)(o:PO w L I3 x.Av c)(p:PO w L I4 x.Bs d)(r:PO w L I5 x.Ca f)(s:PO w L I6 x.Bw g)(b0:apartB I0 (I1++(I2++(I3++(I4++(I5++I6)))))=true)(b1:apartB I1 (I2++(I3++(I4++(I5++I6))))=true)(b2:apartB I2 (I3++(I4++(I5++I6)))=true)(b3:apartB I3 (I4++(I5++I6))=true)(i:apartB I4 (I5++I6)=true)(k:apartB I5 I6=true):PO w L (I0++(I1++(I2++(I3++(I4++(I5++I6)))))) x (a++(c1++(b++(c++(d++(f++g)))))):=
 (qcU h l (qcU h m (qcU h n (qcU h o (qcU h p (qcU h r s k) i) b3) b2) b1) b0)
structure qw where
 As:(List qF)
instance gt_TLibrary:GoT qw:=isoT (@instList qF gt_TCell) (fun x=>x.As) ⟨[]⟩ Z true (fun h=>by cases h)
theorem qcX{x:qw}{cs:List Value}(h:GoT.R w S x cs):∃b a,cs=[oS b (x.As).length a]/\SlR w S x.As b a:=by
 obtain⟨b,a,rfl,s0⟩:=h;exact⟨b,a,rfl,s0⟩
theorem qi7(x:qw){b:Option Addr}{a:Nat}(s0:SlR w S x.As b a):GoT.R w S x [oS b (x.As).length a]:=have h:=rS s0;h
theorem qiV{x:qw}{b:Option Addr}{l0 a:Nat}(h:GoT.R w S x [oS b l0 a]):(SlR w S x.As b a/\l0=(x.As).length):=by
 obtain⟨_,_,c,s0⟩:=qcX h;cases c;exact⟨s0,rfl⟩
theorem qsQ{w0:World}{L:List Ch}(x:qw){I0:List Nat}{a:List Value}(_:SH w0 w L)(b:PO w L I0 x.As a):PO w L I0 x a:=
 b
structure qH where
 Bi:ByteArray
 Bt:Int
 Ak:(List Int)
instance gt_TInstance:GoT qH:=isoT (pairT instStr (pairT instInt (@instList Int instInt))) (fun x=>(x.Bi,x.Bt,x.Ak)) ⟨ByteArray.empty,0,[]⟩ Z true (fun h=>by cases h)
abbrev qjP(x:qH)(p0:Option Addr)(k0:Nat):List Value:=[.string x.Bi,vi x.Bt,oS p0 (x.Ak).length k0]
theorem qaJ{x:qH}{cs:List Value}(h:GoT.R w S x cs):∃b a,cs=(qjP x b a)/\SlR w S x.Ak b a:=by
 obtain⟨_,_,rfl,rfl,⟨_,_,rfl,rfl,⟨b,a,rfl,s0⟩⟩⟩:=h;exact⟨b,a,rfl,s0⟩
theorem qnL(x:qH){b:Option Addr}{a:Nat}(s0:SlR w S x.Ak b a):GoT.R w S x (qjP x b a):=have h:=pR (rT x.Bi) (pR (rI x.Bt) (rS s0));h
theorem qpM{w0:World}{L:List Ch}{x:qH}{d:Option Addr}{l0 a:Nat}(h:SH w0 w (oW S x [.string x.Bi,vi x.Bt,oS d l0 a]::L)):∃f,SH w0 w (oW f x.Ak [oS d l0 a]::L):=by
 obtain⟨k,i⟩:=h.headV;replace i:GoT.O w S x _:=i;obtain⟨_,_,_,_,l,g,i,_,b0⟩:=i;obtain rfl:=g;cases l;replace k:=k.less b0;obtain⟨_,B1,_,_,l,o1,i,_,b1⟩:=i;obtain rfl:=o1;cases l;replace k:=k.less b1;obtain⟨q,m,l,s0⟩:=i;cases l;replace k:=k.push (c:=oW B1 x.Ak [_]) (S2:=(fun _=>False)) ⟨_,_,rfl,s0⟩ (fun _ o=>o.elim) (fun b n=>⟨n,fun h=>h⟩) (fun _ h=>h.elim);exact⟨B1,k.sh⟩
theorem qoD{w0:World}{L:List Ch}(x:qH){I0 I1 I2:List Nat}{a c1 b:List Value}(h:SH w0 w L)(c:PO w L I0 x.Bi a)(d:PO w L I1 x.Bt c1)(f:PO w L I2 x.Ak b)(b0:apartB I0 (I1++I2)=true)(b1:apartB I1 I2=true):PO w L (I0++(I1++I2)) x (a++(c1++b)):=
 (qcU h c (qcU h d f b1) b0)
structure qaD where
 Bi:ByteArray
 Bv:Int
 Bz:Int
instance gt_TPort:GoT qaD:=isoT (pairT instStr (pairT instInt instInt)) (fun x=>(x.Bi,x.Bv,x.Bz)) ⟨ByteArray.empty,0,0⟩ Z true (fun h=>by cases h)
instance fl_TPort:Flat qaD:=qgl (pairT instStr (pairT instInt instInt)) (fun x:qaD=>(x.Bi,x.Bv,x.Bz)) ⟨ByteArray.empty,0,0⟩ Z true (fun h=>by cases h) (qaS _ _ (inferInstanceAs (Flat ByteArray)) (qaS _ _ (inferInstanceAs (Flat Int)) (inferInstanceAs (Flat Int))))
abbrev qrW(x:qaD):List Value:=[.string x.Bi,vi x.Bv,vi x.Bz]
theorem qe4{x:qaD}{cs:List Value}(h:GoT.R w S x cs):cs=(qrW x):=by
 obtain⟨_,_,rfl,rfl,⟨_,_,rfl,rfl,rfl⟩⟩:=h;exact Z
theorem qji(x:qaD):GoT.R w S x (qrW x):=have h:=pR (rT x.Bi) (pR (rI x.Bv) (rI x.Bz));h
structure qh where
 Ab:(List qH)
 Ak:(List ByteArray)
 Aj:(List qaD)
instance gt_TDesign:GoT qh:=isoT (pairT (@instList qH gt_TInstance) (pairT (@instList ByteArray instStr) (@instList qaD gt_TPort))) (fun x=>(x.Ab,x.Ak,x.Aj)) ⟨[],[],[]⟩ Z true (fun h=>by cases h)
abbrev qaw(x:qh)(p0 p1 p2:Option Addr)(k0 k1 k2:Nat):List Value:=[oS p0 (x.Ab).length k0,oS p1 (x.Ak).length k1,oS p2 (x.Aj).length k2]
theorem qaX{x:qh}{cs:List Value}(h:GoT.R w S x cs):∃d a p1 b f c,cs=(qaw x d p1 f a b c)/\SlR w S x.Ab d a/\SlR w S x.Ak p1 b/\SlR w S x.Aj f c:=by
 obtain⟨_,_,rfl,⟨d,a,rfl,s0⟩,⟨_,_,rfl,⟨p1,b,rfl,s1⟩,⟨f,c,rfl,s2⟩⟩⟩:=h;exact⟨d,a,p1,b,f,c,rfl,s0,s1,s2⟩
theorem qaY(x:qh){d p1 f:Option Addr}{a b c:Nat}(s0:SlR w S x.Ab d a)(s1:SlR w S x.Ak p1 b)(s2:SlR w S x.Aj f c):GoT.R w S x (qaw x d p1 f a b c):=have h:=pR (rS s0) (pR (rS s1) (rS s2));h
theorem qdt{x:qh}{d p1 f:Option Addr}{l0 a l1 b l2 c:Nat}(h:GoT.R w S x [oS d l0 a,oS p1 l1 b,oS f l2 c]):(SlR w S x.Ab d a/\l0=(x.Ab).length)/\(SlR w S x.Ak p1 b/\l1=(x.Ak).length)/\(SlR w S x.Aj f c/\l2=(x.Aj).length):=by
 obtain⟨_,_,_,_,_,_,g,s0,s1,s2⟩:=qaX h;cases g;exact⟨⟨s0,rfl⟩,⟨s1,rfl⟩,⟨s2,rfl⟩⟩
theorem qqQ{w0:World}{L:List Ch}{x:qh}{g p1 i:Option Addr}{l0 a l1 d l2 f:Nat}(h:SH w0 w (oW S x [oS g l0 a,oS p1 l1 d,oS i l2 f]::L)):∃k S1 S2,SH w0 w (oW S2 x.Aj [oS i l2 f]::oW S1 x.Ak [oS p1 l1 d]::oW k x.Ab [oS g l0 a]::L):=by
 obtain⟨o,n⟩:=h.headV;replace n:GoT.O w S x _:=n;obtain⟨A0,B0,_,_,r,l,n,a0,b0⟩:=n;obtain⟨q,m,rfl,s0⟩:=l;cases r;replace o:=o.push (c:=oW A0 x.Ab [_]) (S2:=B0) ⟨_,_,rfl,s0⟩ (fun _ p=>p.elim) a0 b0;obtain⟨A1,B1,_,_,r,o1,n,a1,b1⟩:=n;obtain⟨q,m,rfl,s1⟩:=o1;cases r;replace o:=o.push (c:=oW A1 x.Ak [_]) (S2:=B1) ⟨_,_,rfl,s1⟩ (fun _ p=>p.elim) a1 b1;obtain⟨q,m,r,s2⟩:=n;cases r;replace o:=o.push (c:=oW B1 x.Aj [_]) (S2:=(fun _=>False)) ⟨_,_,rfl,s2⟩ (fun _ p=>p.elim) (fun b s=>⟨s,fun h=>h⟩) (fun _ h=>h.elim);exact⟨A0,A1,B1,o.sh⟩
theorem qqj{w0:World}{L:List Ch}(x:qh){I0 I1 I2:List Nat}{a c1 b:List Value}(h:SH w0 w L)(c:PO w L I0 x.Ab a)(d:PO w L I1 x.Ak c1)(f:PO w L I2 x.Aj b)(b0:apartB I0 (I1++I2)=true)(b1:apartB I1 I2=true):PO w L (I0++(I1++I2)) x (a++(c1++b)):=
 (qcU h c (qcU h d f b1) b0)
structure qan where
 Am:(List Int)
 Bu:(List Int)
 Bq:(List Int)
 Bk:(List Int)
instance gt_TWire:GoT qan:=isoT (pairT (@instList Int instInt) (pairT (@instList Int instInt) (pairT (@instList Int instInt) (@instList Int instInt)))) (fun x=>(x.Am,x.Bu,x.Bq,x.Bk)) ⟨[],[],[],[]⟩ Z true (fun h=>by cases h)
abbrev qgq(x:qan)(p0 p1 p2 p3:Option Addr)(k0 k1 k2 k3:Nat):List Value:=[oS p0 (x.Am).length k0,oS p1 (x.Bu).length k1,oS p2 (x.Bq).length k2,oS p3 (x.Bk).length k3]
theorem qbR{x:qan}{cs:List Value}(h:GoT.R w S x cs):∃d a p1 b f c g k3,cs=(qgq x d p1 f g a b c k3)/\SlR w S x.Am d a/\SlR w S x.Bu p1 b/\SlR w S x.Bq f c/\SlR w S x.Bk g k3:=by
 obtain⟨_,_,rfl,⟨d,a,rfl,s0⟩,⟨_,_,rfl,⟨p1,b,rfl,s1⟩,⟨_,_,rfl,⟨f,c,rfl,s2⟩,⟨g,k3,rfl,i⟩⟩⟩⟩:=h;exact⟨d,a,p1,b,f,c,g,k3,rfl,s0,s1,s2,i⟩
theorem qrr(x:qan){d p1 f g:Option Addr}{a b c k3:Nat}(s0:SlR w S x.Am d a)(s1:SlR w S x.Bu p1 b)(s2:SlR w S x.Bq f c)(i:SlR w S x.Bk g k3):GoT.R w S x (qgq x d p1 f g a b c k3):=have h:=pR (rS s0) (pR (rS s1) (pR (rS s2) (rS i)));h
theorem qjH{w0:World}{L:List Ch}{x:qan}{i p1 k l:Option Addr}{l0 a l1 d l2 f g k3:Nat}(h:SH w0 w (oW S x [oS i l0 a,oS p1 l1 d,oS k l2 f,oS l g k3]::L)):∃n S1 S2 o,SH w0 w (oW o x.Bk [oS l g k3]::oW S2 x.Bq [oS k l2 f]::oW S1 x.Bu [oS p1 l1 d]::oW n x.Am [oS i l0 a]::L):=by
 obtain⟨t,s⟩:=h.headV;replace s:GoT.O w S x _:=s;obtain⟨A0,B0,_,_,v,p,s,a0,b0⟩:=s;obtain⟨q,m,rfl,s0⟩:=p;cases v;replace t:=t.push (c:=oW A0 x.Am [_]) (S2:=B0) ⟨_,_,rfl,s0⟩ (fun _ u=>u.elim) a0 b0;obtain⟨A1,B1,_,_,v,o1,s,a1,b1⟩:=s;obtain⟨q,m,rfl,s1⟩:=o1;cases v;replace t:=t.push (c:=oW A1 x.Bu [_]) (S2:=B1) ⟨_,_,rfl,s1⟩ (fun _ u=>u.elim) a1 b1;obtain⟨A2,B2,_,_,v,o2,s,a2,b2⟩:=s;obtain⟨q,m,rfl,s2⟩:=o2;cases v;replace t:=t.push (c:=oW A2 x.Bq [_]) (S2:=B2) ⟨_,_,rfl,s2⟩ (fun _ u=>u.elim) a2 b2;obtain⟨q,m,v,r⟩:=s;cases v;replace t:=t.push (c:=oW B2 x.Bk [_]) (S2:=(fun _=>False)) ⟨_,_,rfl,r⟩ (fun _ u=>u.elim) (fun b y=>⟨y,fun h=>h⟩) (fun _ h=>h.elim);exact⟨A0,A1,A2,B2,t.sh⟩
theorem qlv{w0:World}{L:List Ch}(x:qan){I0 I1 I2 I3:List Nat}{a c1 b c:List Value}(h:SH w0 w L)(d:PO w L I0 x.Am a)(f:PO w L I1 x.Bu c1)(g:PO w L I2 x.Bq b)(i:PO w L I3 x.Bk c)(b0:apartB I0 (I1++(I2++I3))=true)(b1:apartB I1 (I2++I3)=true)(b2:apartB I2 I3=true):PO w L (I0++(I1++(I2++I3))) x (a++(c1++(b++c))):=
 (qcU h d (qcU h f (qcU h g i b2) b1) b0)
structure qe where
 Aq:qw
 Aa:qh
 Af:(List qan)
instance gt_TBlock:GoT qe:=isoT (pairT gt_TLibrary (pairT gt_TDesign (@instList qan gt_TWire))) (fun x=>(x.Aq,x.Aa,x.Af)) ⟨(⟨[]⟩:qw),(⟨[],[],[]⟩:qh),[]⟩ Z true (fun h=>by cases h)
abbrev qG(x:qe)(p0 p1 p2 p3 p4:Option Addr)(k0 k1 k2 k3 k4:Nat):List Value:=[oS p0 (x.Aq.As).length k0,oS p1 (x.Aa.Ab).length k1,oS p2 (x.Aa.Ak).length k2,oS p3 (x.Aa.Aj).length k3,oS p4 (x.Af).length k4]
theorem qO{x:qe}{cs:List Value}(h:GoT.R w S x cs):∃f a p1 b g c i k3 k d,cs=(qG x f p1 g i k a b c k3 d)/\SlR w S x.Aq.As f a/\SlR w S x.Aa.Ab p1 b/\SlR w S x.Aa.Ak g c/\SlR w S x.Aa.Aj i k3/\SlR w S x.Af k d:=by
 obtain⟨_,_,rfl,⟨f,a,rfl,s0⟩,⟨_,_,rfl,⟨_,_,rfl,⟨p1,b,rfl,s1⟩,⟨_,_,rfl,⟨g,c,rfl,s2⟩,⟨i,k3,rfl,l⟩⟩⟩,⟨k,d,rfl,m⟩⟩⟩:=h;exact⟨f,a,p1,b,g,c,i,k3,k,d,rfl,s0,s1,s2,l,m⟩
theorem qit(x:qe){f p1 g i k:Option Addr}{a b c k3 d:Nat}(s0:SlR w S x.Aq.As f a)(s1:SlR w S x.Aa.Ab p1 b)(s2:SlR w S x.Aa.Ak g c)(l:SlR w S x.Aa.Aj i k3)(m:SlR w S x.Af k d):GoT.R w S x (qG x f p1 g i k a b c k3 d):=have h:=pR (qi7 x.Aq s0) (pR (qaY x.Aa s1 s2 l) (rS m));h
theorem qcG{x:qe}{i p1 k l m:Option Addr}{l0 a l1 b l2 c f k3 g d:Nat}(h:GoT.R w S x [oS i l0 a,oS p1 l1 b,oS k l2 c,oS l f k3,oS m g d]):(SlR w S x.Aq.As i a/\l0=(x.Aq.As).length)/\(SlR w S x.Aa.Ab p1 b/\l1=(x.Aa.Ab).length)/\(SlR w S x.Aa.Ak k c/\l2=(x.Aa.Ak).length)/\(SlR w S x.Aa.Aj l k3/\f=(x.Aa.Aj).length)/\(SlR w S x.Af m d/\g=(x.Af).length):=by
 obtain⟨_,_,_,_,_,_,_,_,_,_,p,s0,s1,s2,n,o⟩:=qO h;cases p;exact⟨⟨s0,rfl⟩,⟨s1,rfl⟩,⟨s2,rfl⟩,⟨n,rfl⟩,⟨o,rfl⟩⟩
theorem qh3{w0:World}{L:List Ch}{x:qe}{o p1 k l m:Option Addr}{l0 n l1 a l2 d g k3 i f:Nat}(h:SH w0 w (oW S x [oS o l0 n,oS p1 l1 a,oS k l2 d,oS l g k3,oS m i f]::L)):∃z S1 S2,SH w0 w (oW S2 x.Af [oS m i f]::oW S1 x.Aa [oS p1 l1 a,oS k l2 d,oS l g k3]::oW z x.Aq [oS o l0 n]::L):=by
 obtain⟨B,A⟩:=h.headV;replace A:GoT.O w S x _:=A;obtain⟨A0,B0,p,e0,s,y,A,a0,b0⟩:=A;have u:p.length=1:=GoT.len (GoT.toR y);obtain⟨rfl,rfl⟩:p=[oS o l0 n]/\e0=[oS p1 l1 a,oS k l2 d,oS l g k3,oS m i f]:=by
  have:=List.append_inj (show[oS o l0 n]++[oS p1 l1 a,oS k l2 d,oS l g k3,oS m i f]=p++e0 from s) (by rw[u];rfl);exact⟨this.1.symm,this.2.symm⟩
 replace B:=B.push (c:=oW A0 x.Aq [oS o l0 n]) (S2:=B0) y (fun _ C=>C.elim) a0 b0;obtain⟨A1,B1,r,e1,t,o1,A,a1,b1⟩:=A;have v:r.length=3:=GoT.len (GoT.toR o1);obtain⟨rfl,rfl⟩:r=[oS p1 l1 a,oS k l2 d,oS l g k3]/\e1=[oS m i f]:=by
  have:=List.append_inj (show[oS p1 l1 a,oS k l2 d,oS l g k3]++[oS m i f]=r++e1 from t) (by rw[v];rfl);exact⟨this.1.symm,this.2.symm⟩
 replace B:=B.push (c:=oW A1 x.Aa [oS p1 l1 a,oS k l2 d,oS l g k3]) (S2:=B1) o1 (fun _ C=>C.elim) a1 b1;replace B:=B.push (c:=oW B1 x.Af [oS m i f]) (S2:=(fun _=>False)) A (fun _ C=>C.elim) (fun b D=>⟨D,fun h=>h⟩) (fun _ h=>h.elim);exact⟨A0,A1,B1,B.sh⟩
theorem quE{w0:World}{L:List Ch}(x:qe){I0 I1 I2:List Nat}{a c1 b:List Value}(h:SH w0 w L)(c:PO w L I0 x.Aq a)(d:PO w L I1 x.Aa c1)(f:PO w L I2 x.Af b)(b0:apartB I0 (I1++I2)=true)(b1:apartB I1 I2=true):PO w L (I0++(I1++I2)) x (a++(c1++b)):=
 (qcU h c (qcU h d f b1) b0)
structure qu where
 Bi:ByteArray
 Ay:Int
 Bb:Int
 Au:Int
 Bc:Int
instance gt_TCorner:GoT qu:=isoT (pairT instStr (pairT instInt (pairT instInt (pairT instInt instInt)))) (fun x=>(x.Bi,x.Ay,x.Bb,x.Au,x.Bc)) ⟨ByteArray.empty,0,0,0,0⟩ Z true (fun h=>by cases h)
instance fl_TCorner:Flat qu:=qgl (pairT instStr (pairT instInt (pairT instInt (pairT instInt instInt)))) (fun x:qu=>(x.Bi,x.Ay,x.Bb,x.Au,x.Bc)) ⟨ByteArray.empty,0,0,0,0⟩ Z true (fun h=>by cases h) (qaS _ _ (inferInstanceAs (Flat ByteArray)) (qaS _ _ (inferInstanceAs (Flat Int)) (qaS _ _ (inferInstanceAs (Flat Int)) (qaS _ _ (inferInstanceAs (Flat Int)) (inferInstanceAs (Flat Int))))))
abbrev qaN(x:qu):List Value:=[.string x.Bi,vi x.Ay,vi x.Bb,vi x.Au,vi x.Bc]
theorem qbd{x:qu}{cs:List Value}(h:GoT.R w S x cs):cs=(qaN x):=by
 obtain⟨_,_,rfl,rfl,⟨_,_,rfl,rfl,⟨_,_,rfl,rfl,⟨_,_,rfl,rfl,rfl⟩⟩⟩⟩:=h;exact Z
theorem qdv(x:qu):GoT.R w S x (qaN x):=have h:=pR (rT x.Bi) (pR (rI x.Ay) (pR (rI x.Bb) (pR (rI x.Au) (rI x.Bc))));h
structure qo0 where
 Cg:Int
 Ce:Int
instance gt_TLatch:GoT qo0:=isoT (pairT instInt instInt) (fun x=>(x.Cg,x.Ce)) ⟨0,0⟩ Z true (fun h=>by cases h)
instance fl_TLatch:Flat qo0:=qgl (pairT instInt instInt) (fun x:qo0=>(x.Cg,x.Ce)) ⟨0,0⟩ Z true (fun h=>by cases h) (qaS _ _ (inferInstanceAs (Flat Int)) (inferInstanceAs (Flat Int)))
structure qjn where
 Bl:Int
 To:Int
 Bo:Int
 Cd:Int
instance gt_TLatchLink:GoT qjn:=isoT (pairT instInt (pairT instInt (pairT instInt instInt))) (fun x=>(x.Bl,x.To,x.Bo,x.Cd)) ⟨0,0,0,0⟩ Z true (fun h=>by cases h)
instance fl_TLatchLink:Flat qjn:=qgl (pairT instInt (pairT instInt (pairT instInt instInt))) (fun x:qjn=>(x.Bl,x.To,x.Bo,x.Cd)) ⟨0,0,0,0⟩ Z true (fun h=>by cases h) (qaS _ _ (inferInstanceAs (Flat Int)) (qaS _ _ (inferInstanceAs (Flat Int)) (qaS _ _ (inferInstanceAs (Flat Int)) (inferInstanceAs (Flat Int)))))
structure qor where
 Cc:(List qo0)
 Cb:(List qjn)
instance gt_TLatchSystem:GoT qor:=isoT (pairT (@instList qo0 gt_TLatch) (@instList qjn gt_TLatchLink)) (fun x=>(x.Cc,x.Cb)) ⟨[],[]⟩ Z true (fun h=>by cases h)
structure qf where
 Ar:Int
 Bd:Int
instance gt_TSpan:GoT qf:=isoT (pairT instInt instInt) (fun x=>(x.Ar,x.Bd)) ⟨0,0⟩ Z true (fun h=>by cases h)
instance fl_TSpan:Flat qf:=qgl (pairT instInt instInt) (fun x:qf=>(x.Ar,x.Bd)) ⟨0,0⟩ Z true (fun h=>by cases h) (qaS _ _ (inferInstanceAs (Flat Int)) (inferInstanceAs (Flat Int)))
abbrev qhA(x:qf):List Value:=[vi x.Ar,vi x.Bd]
theorem qy{x:qf}{cs:List Value}(h:GoT.R w S x cs):cs=(qhA x):=by
 obtain⟨_,_,rfl,rfl,rfl⟩:=h;exact Z
theorem qB(x:qf):GoT.R w S x (qhA x):=have h:=pR (rI x.Ar) (rI x.Bd);h
structure qi where
 Bm:Int
 Ah:qf
 Ba:qf
instance gt_TSource:GoT qi:=isoT (pairT instInt (pairT gt_TSpan gt_TSpan)) (fun x=>(x.Bm,x.Ah,x.Ba)) ⟨0,(⟨0,0⟩:qf),(⟨0,0⟩:qf)⟩ Z true (fun h=>by cases h)
instance fl_TSource:Flat qi:=qgl (pairT instInt (pairT gt_TSpan gt_TSpan)) (fun x:qi=>(x.Bm,x.Ah,x.Ba)) ⟨0,(⟨0,0⟩:qf),(⟨0,0⟩:qf)⟩ Z true (fun h=>by cases h) (qaS _ _ (inferInstanceAs (Flat Int)) (qaS _ _ (inferInstanceAs (Flat qf)) (inferInstanceAs (Flat qf))))
abbrev qf4(x:qi):List Value:=[vi x.Bm,vi x.Ah.Ar,vi x.Ah.Bd,vi x.Ba.Ar,vi x.Ba.Bd]
theorem qT{x:qi}{cs:List Value}(h:GoT.R w S x cs):cs=(qf4 x):=by
 obtain⟨_,_,rfl,rfl,⟨_,_,rfl,⟨_,_,rfl,rfl,rfl⟩,⟨_,_,rfl,rfl,rfl⟩⟩⟩:=h;exact Z
theorem qbM(x:qi):GoT.R w S x (qf4 x):=have h:=pR (rI x.Bm) (pR (qB x.Ah) (qB x.Ba));h
structure qx where
 Az:(List Bool)
 Ah:(List qf)
 Ba:(List qf)
instance gt_TTiming:GoT qx:=isoT (pairT (@instList Bool instBool) (pairT (@instList qf gt_TSpan) (@instList qf gt_TSpan))) (fun x=>(x.Az,x.Ah,x.Ba)) ⟨[],[],[]⟩ Z true (fun h=>by cases h)
abbrev qb8(x:qx)(p0 p1 p2:Option Addr)(k0 k1 k2:Nat):List Value:=[oS p0 (x.Az).length k0,oS p1 (x.Ah).length k1,oS p2 (x.Ba).length k2]
theorem qcB{x:qx}{cs:List Value}(h:GoT.R w S x cs):∃d a p1 b f c,cs=(qb8 x d p1 f a b c)/\SlR w S x.Az d a/\SlR w S x.Ah p1 b/\SlR w S x.Ba f c:=by
 obtain⟨_,_,rfl,⟨d,a,rfl,s0⟩,⟨_,_,rfl,⟨p1,b,rfl,s1⟩,⟨f,c,rfl,s2⟩⟩⟩:=h;exact⟨d,a,p1,b,f,c,rfl,s0,s1,s2⟩
theorem qsa(x:qx){d p1 f:Option Addr}{a b c:Nat}(s0:SlR w S x.Az d a)(s1:SlR w S x.Ah p1 b)(s2:SlR w S x.Ba f c):GoT.R w S x (qb8 x d p1 f a b c):=have h:=pR (rS s0) (pR (rS s1) (rS s2));h
theorem qgQ{w0:World}{L:List Ch}{x:qx}{g p1 i:Option Addr}{l0 a l1 d l2 f:Nat}(h:SH w0 w (oW S x [oS g l0 a,oS p1 l1 d,oS i l2 f]::L)):∃k S1 S2,SH w0 w (oW S2 x.Ba [oS i l2 f]::oW S1 x.Ah [oS p1 l1 d]::oW k x.Az [oS g l0 a]::L):=by
 obtain⟨o,n⟩:=h.headV;replace n:GoT.O w S x _:=n;obtain⟨A0,B0,_,_,r,l,n,a0,b0⟩:=n;obtain⟨q,m,rfl,s0⟩:=l;cases r;replace o:=o.push (c:=oW A0 x.Az [_]) (S2:=B0) ⟨_,_,rfl,s0⟩ (fun _ p=>p.elim) a0 b0;obtain⟨A1,B1,_,_,r,o1,n,a1,b1⟩:=n;obtain⟨q,m,rfl,s1⟩:=o1;cases r;replace o:=o.push (c:=oW A1 x.Ah [_]) (S2:=B1) ⟨_,_,rfl,s1⟩ (fun _ p=>p.elim) a1 b1;obtain⟨q,m,r,s2⟩:=n;cases r;replace o:=o.push (c:=oW B1 x.Ba [_]) (S2:=(fun _=>False)) ⟨_,_,rfl,s2⟩ (fun _ p=>p.elim) (fun b s=>⟨s,fun h=>h⟩) (fun _ h=>h.elim);exact⟨A0,A1,B1,o.sh⟩
theorem qgx{w0:World}{L:List Ch}(x:qx){I0 I1 I2:List Nat}{a c1 b:List Value}(h:SH w0 w L)(c:PO w L I0 x.Az a)(d:PO w L I1 x.Ah c1)(f:PO w L I2 x.Ba b)(b0:apartB I0 (I1++I2)=true)(b1:apartB I1 I2=true):PO w L (I0++(I1++I2)) x (a++(c1++b)):=
 (qcU h c (qcU h d f b1) b0)
structure qax where
 Ac:qe
 Ai:qu
 Bh:(List Int)
 Ap:(List qi)
instance gt_TJob:GoT qax:=isoT (pairT gt_TBlock (pairT gt_TCorner (pairT (@instList Int instInt) (@instList qi gt_TSource)))) (fun x=>(x.Ac,x.Ai,x.Bh,x.Ap)) ⟨(⟨(⟨[]⟩:qw),(⟨[],[],[]⟩:qh),[]⟩:qe),(⟨ByteArray.empty,0,0,0,0⟩:qu),[],[]⟩ Z true (fun h=>by cases h)
abbrev qbn(x:qax)(p0 p1 p2 p3 p4 p5 p6:Option Addr)(k0 k1 k2 k3 k4 k5 k6:Nat):List Value:=[oS p0 (x.Ac.Aq.As).length k0,oS p1 (x.Ac.Aa.Ab).length k1,oS p2 (x.Ac.Aa.Ak).length k2,oS p3 (x.Ac.Aa.Aj).length k3,oS p4 (x.Ac.Af).length k4,.string x.Ai.Bi,vi x.Ai.Ay,vi x.Ai.Bb,vi x.Ai.Au,vi x.Ai.Bc,oS p5 (x.Bh).length k5,oS p6 (x.Ap).length k6]
theorem qbV{x:qax}{cs:List Value}(h:GoT.R w S x cs):∃i a p1 b k c l k3 m d n f o g,cs=(qbn x i p1 k l m n o a b c k3 d f g)/\SlR w S x.Ac.Aq.As i a/\SlR w S x.Ac.Aa.Ab p1 b/\SlR w S x.Ac.Aa.Ak k c/\SlR w S x.Ac.Aa.Aj l k3/\SlR w S x.Ac.Af m d/\SlR w S x.Bh n f/\SlR w S x.Ap o g:=by
 obtain⟨_,_,rfl,⟨_,_,rfl,⟨i,a,rfl,s0⟩,⟨_,_,rfl,⟨_,_,rfl,⟨p1,b,rfl,s1⟩,⟨_,_,rfl,⟨k,c,rfl,s2⟩,⟨l,k3,rfl,p⟩⟩⟩,⟨m,d,rfl,r⟩⟩⟩,⟨_,_,rfl,⟨_,_,rfl,rfl,⟨_,_,rfl,rfl,⟨_,_,rfl,rfl,⟨_,_,rfl,rfl,rfl⟩⟩⟩⟩,⟨_,_,rfl,⟨n,f,rfl,s⟩,⟨o,g,rfl,t⟩⟩⟩⟩:=h;exact⟨i,a,p1,b,k,c,l,k3,m,d,n,f,o,g,rfl,s0,s1,s2,p,r,s,t⟩
theorem qbN{x:qax}{m p1 n o p r s:Option Addr}{l0 a l1 b l2 c i k3 k d l5 f l g:Nat}(h:GoT.R w S x [oS m l0 a,oS p1 l1 b,oS n l2 c,oS o i k3,oS p k d,.string x.Ai.Bi,vi x.Ai.Ay,vi x.Ai.Bb,vi x.Ai.Au,vi x.Ai.Bc,oS r l5 f,oS s l g]):(SlR w S x.Ac.Aq.As m a/\l0=(x.Ac.Aq.As).length)/\(SlR w S x.Ac.Aa.Ab p1 b/\l1=(x.Ac.Aa.Ab).length)/\(SlR w S x.Ac.Aa.Ak n c/\l2=(x.Ac.Aa.Ak).length)/\(SlR w S x.Ac.Aa.Aj o k3/\i=(x.Ac.Aa.Aj).length)/\(SlR w S x.Ac.Af p d/\k=(x.Ac.Af).length)/\(SlR w S x.Bh r f/\l5=(x.Bh).length)/\(SlR w S x.Ap s g/\l=(x.Ap).length):=by
 obtain⟨_,_,_,_,_,_,_,_,_,_,_,_,_,_,z,s0,s1,s2,t,u,v,y⟩:=qbV h;cases z;exact⟨⟨s0,rfl⟩,⟨s1,rfl⟩,⟨s2,rfl⟩,⟨t,rfl⟩,⟨u,rfl⟩,⟨v,rfl⟩,⟨y,rfl⟩⟩
structure qt where
 Bl:Int
 To:Int
 Be:Int
 Bx:Int
instance gt_TLink:GoT qt:=isoT (pairT instInt (pairT instInt (pairT instInt instInt))) (fun x=>(x.Bl,x.To,x.Be,x.Bx)) ⟨0,0,0,0⟩ Z true (fun h=>by cases h)
instance fl_TLink:Flat qt:=qgl (pairT instInt (pairT instInt (pairT instInt instInt))) (fun x:qt=>(x.Bl,x.To,x.Be,x.Bx)) ⟨0,0,0,0⟩ Z true (fun h=>by cases h) (qaS _ _ (inferInstanceAs (Flat Int)) (qaS _ _ (inferInstanceAs (Flat Int)) (qaS _ _ (inferInstanceAs (Flat Int)) (inferInstanceAs (Flat Int)))))
abbrev qj5(x:qt):List Value:=[vi x.Bl,vi x.To,vi x.Be,vi x.Bx]
theorem qac{x:qt}{cs:List Value}(h:GoT.R w S x cs):cs=(qj5 x):=by
 obtain⟨_,_,rfl,rfl,⟨_,_,rfl,rfl,⟨_,_,rfl,rfl,rfl⟩⟩⟩:=h;exact Z
theorem qcj(x:qt):GoT.R w S x (qj5 x):=have h:=pR (rI x.Bl) (pR (rI x.To) (pR (rI x.Be) (rI x.Bx)));h
structure qwW where
 Cf:Int
 Cb:(List Int)
 Ah:Int
instance gt_TPath:GoT qwW:=isoT (pairT instInt (pairT (@instList Int instInt) instInt)) (fun x=>(x.Cf,x.Cb,x.Ah)) ⟨0,[],0⟩ Z true (fun h=>by cases h)
structure Tl01Source where
 code:(List (IntK .u8))
 at_:Int
 seed:Int
instance gt_Tl01Source:GoT Tl01Source:=isoT (pairT (@instList (IntK .u8) (@gt_IntK .u8)) (pairT instInt instInt)) (fun x=>(x.code,x.at_,x.seed)) ⟨[],0,0⟩ Z true (fun h=>by cases h)
abbrev qR(x:Tl01Source)(p0:Option Addr)(k0:Nat):List Value:=[oS p0 (x.code).length k0,vi x.at_,vi x.seed]
theorem qpA{x:Tl01Source}{cs:List Value}(h:GoT.R w S x cs):∃b a,cs=(qR x b a)/\SlR w S x.code b a:=by
 obtain⟨_,_,rfl,⟨b,a,rfl,s0⟩,⟨_,_,rfl,rfl,rfl⟩⟩:=h;exact⟨b,a,rfl,s0⟩
theorem qm0(x:Tl01Source){b:Option Addr}{a:Nat}(s0:SlR w S x.code b a):GoT.R w S x (qR x b a):=have h:=pR (rS s0) (pR (rI x.at_) (rI x.seed));h
theorem qd{x:Tl01Source}{b:Option Addr}{l0 a:Nat}(h:GoT.R w S x [oS b l0 a,vi x.at_,vi x.seed]):(SlR w S x.code b a/\l0=(x.code).length):=by
 obtain⟨_,_,c,s0⟩:=qpA h;cases c;exact⟨s0,rfl⟩
structure Tplace where
 instance_:Int
 pin:Int
 net:Int
 drives:Bool
instance gt_Tplace:GoT Tplace:=isoT (pairT instInt (pairT instInt (pairT instInt instBool))) (fun x=>(x.instance_,x.pin,x.net,x.drives)) ⟨0,0,0,false⟩ Z true (fun h=>by cases h)
instance fl_Tplace:Flat Tplace:=qgl (pairT instInt (pairT instInt (pairT instInt instBool))) (fun x:Tplace=>(x.instance_,x.pin,x.net,x.drives)) ⟨0,0,0,false⟩ Z true (fun h=>by cases h) (qaS _ _ (inferInstanceAs (Flat Int)) (qaS _ _ (inferInstanceAs (Flat Int)) (qaS _ _ (inferInstanceAs (Flat Int)) (inferInstanceAs (Flat Bool)))))
abbrev qqt(x:Tplace):List Value:=[vi x.instance_,vi x.pin,vi x.net,.bool x.drives]
theorem qg6{x:Tplace}{cs:List Value}(h:GoT.R w S x cs):cs=(qqt x):=by
 obtain⟨_,_,rfl,rfl,⟨_,_,rfl,rfl,⟨_,_,rfl,rfl,rfl⟩⟩⟩:=h;exact Z
theorem qmh(x:Tplace):GoT.R w S x (qqt x):=have h:=pR (rI x.instance_) (pR (rI x.pin) (pR (rI x.net) (rB x.drives)));h
structure Tview where
 Ac:qe
 places:(List Tplace)
 links:(List qt)
 loads:(List Int)
 delays:(List (List Int))
 extras:(List Int)
instance gt_Tview:GoT Tview:=isoT (pairT gt_TBlock (pairT (@instList Tplace gt_Tplace) (pairT (@instList qt gt_TLink) (pairT (@instList Int instInt) (pairT (@instList (List Int) (@instList Int instInt)) (@instList Int instInt)))))) (fun x=>(x.Ac,x.places,x.links,x.loads,x.delays,x.extras)) ⟨(⟨(⟨[]⟩:qw),(⟨[],[],[]⟩:qh),[]⟩:qe),[],[],[],[],[]⟩ Z true (fun h=>by cases h)
abbrev qwy(x:Tview)(p0 p1 p2 p3 p4 p5 p6 p7 p8 p9:Option Addr)(k0 k1 k2 k3 k4 k5 k6 k7 k8 k9:Nat):List Value:=[oS p0 (x.Ac.Aq.As).length k0,oS p1 (x.Ac.Aa.Ab).length k1,oS p2 (x.Ac.Aa.Ak).length k2,oS p3 (x.Ac.Aa.Aj).length k3,oS p4 (x.Ac.Af).length k4,oS p5 (x.places).length k5,oS p6 (x.links).length k6,oS p7 (x.loads).length k7,oS p8 (x.delays).length k8,oS p9 (x.extras).length k9]
theorem qbZ{x:Tview}{cs:List Value}(h:GoT.R w S x cs):∃m a p1 b n c o k3 p d r f s g t i u k v l,cs=(qwy x m p1 n o p r s t u v a b c k3 d f g i k l)/\SlR w S x.Ac.Aq.As m a/\SlR w S x.Ac.Aa.Ab p1 b/\SlR w S x.Ac.Aa.Ak n c/\SlR w S x.Ac.Aa.Aj o k3/\SlR w S x.Ac.Af p d/\SlR w S x.places r f/\SlR w S x.links s g/\SlR w S x.loads t i/\SlR w S x.delays u k/\SlR w S x.extras v l:=by
 obtain⟨_,_,rfl,⟨_,_,rfl,⟨m,a,rfl,s0⟩,⟨_,_,rfl,⟨_,_,rfl,⟨p1,b,rfl,s1⟩,⟨_,_,rfl,⟨n,c,rfl,s2⟩,⟨o,k3,rfl,y⟩⟩⟩,⟨p,d,rfl,z⟩⟩⟩,⟨_,_,rfl,⟨r,f,rfl,A⟩,⟨_,_,rfl,⟨s,g,rfl,B⟩,⟨_,_,rfl,⟨t,i,rfl,C⟩,⟨_,_,rfl,⟨u,k,rfl,D⟩,⟨v,l,rfl,F⟩⟩⟩⟩⟩⟩:=h;exact⟨m,a,p1,b,n,c,o,k3,p,d,r,f,s,g,t,i,u,k,v,l,rfl,s0,s1,s2,y,z,A,B,C,D,F⟩
structure TlatchSite where
 instance_:Int
 first:Int
 arc:Int
instance gt_TlatchSite:GoT TlatchSite:=isoT (pairT instInt (pairT instInt instInt)) (fun x=>(x.instance_,x.first,x.arc)) ⟨0,0,0⟩ Z true (fun h=>by cases h)
instance fl_TlatchSite:Flat TlatchSite:=qgl (pairT instInt (pairT instInt instInt)) (fun x:TlatchSite=>(x.instance_,x.first,x.arc)) ⟨0,0,0⟩ Z true (fun h=>by cases h) (qaS _ _ (inferInstanceAs (Flat Int)) (qaS _ _ (inferInstanceAs (Flat Int)) (inferInstanceAs (Flat Int))))
structure Tgraph where
 view:(Option Tview)
 live:(List Bool)
instance gt_Tgraph:GoT Tgraph:=isoT (pairT (@instPtr Tview gt_Tview) (@instList Bool instBool)) (fun x=>(x.view,x.live)) ⟨U,[]⟩ Z true (fun h=>by cases h)
abbrev qvi(x:Tgraph)(p0 p1:Option Addr)(k1:Nat):List Value:=[.pointer p0,oS p1 (x.live).length k1]
theorem qdn{x:Tgraph}{cs:List Value}(h:GoT.R w S x cs):∃b p1 a,cs=(qvi x b p1 a)/\PtR w S x.view b/\SlR w S x.live p1 a:=by
 obtain⟨_,_,rfl,c,⟨p1,a,rfl,s1⟩⟩:=h;obtain⟨b,rfl,s0⟩:=qag c;exact⟨b,p1,a,rfl,s0,s1⟩
structure Twork where
 graph:(Option Tgraph)
 job:qax
 timing:qx
 order:(List Int)
instance gt_Twork:GoT Twork:=isoT (pairT (@instPtr Tgraph gt_Tgraph) (pairT gt_TJob (pairT gt_TTiming (@instList Int instInt)))) (fun x=>(x.graph,x.job,x.timing,x.order)) ⟨U,(⟨(⟨(⟨[]⟩:qw),(⟨[],[],[]⟩:qh),[]⟩:qe),(⟨ByteArray.empty,0,0,0,0⟩:qu),[],[]⟩:qax),(⟨[],[],[]⟩:qx),[]⟩ Z true (fun h=>by cases h)
abbrev qwh(x:Twork)(p0 p1 p2 p3 p4 p5 p6 p7 p8 p9 p10 p11:Option Addr)(k1 k2 k3 k4 k5 k6 k7 k8 k9 k10 k11:Nat):List Value:=[.pointer p0,oS p1 (x.job.Ac.Aq.As).length k1,oS p2 (x.job.Ac.Aa.Ab).length k2,oS p3 (x.job.Ac.Aa.Ak).length k3,oS p4 (x.job.Ac.Aa.Aj).length k4,oS p5 (x.job.Ac.Af).length k5,.string x.job.Ai.Bi,vi x.job.Ai.Ay,vi x.job.Ai.Bb,vi x.job.Ai.Au,vi x.job.Ai.Bc,oS p6 (x.job.Bh).length k6,oS p7 (x.job.Ap).length k7,oS p8 (x.timing.Az).length k8,oS p9 (x.timing.Ah).length k9,oS p10 (x.timing.Ba).length k10,oS p11 (x.order).length k11]
theorem qkz{x:Twork}{cs:List Value}(h:GoT.R w S x cs):∃p p1 f r g s k3 t i u k v l y m z n A o c a d b,cs=(qwh x p p1 r s t u v y z A c d f g k3 i k l m n o a b)/\PtR w S x.graph p/\SlR w S x.job.Ac.Aq.As p1 f/\SlR w S x.job.Ac.Aa.Ab r g/\SlR w S x.job.Ac.Aa.Ak s k3/\SlR w S x.job.Ac.Aa.Aj t i/\SlR w S x.job.Ac.Af u k/\SlR w S x.job.Bh v l/\SlR w S x.job.Ap y m/\SlR w S x.timing.Az z n/\SlR w S x.timing.Ah A o/\SlR w S x.timing.Ba c a/\SlR w S x.order d b:=by
 obtain⟨_,_,rfl,M,⟨_,_,rfl,⟨_,_,rfl,⟨_,_,rfl,⟨p1,f,rfl,s1⟩,⟨_,_,rfl,⟨_,_,rfl,⟨r,g,rfl,s2⟩,⟨_,_,rfl,⟨s,k3,rfl,D⟩,⟨t,i,rfl,F⟩⟩⟩,⟨u,k,rfl,H⟩⟩⟩,⟨_,_,rfl,⟨_,_,rfl,rfl,⟨_,_,rfl,rfl,⟨_,_,rfl,rfl,⟨_,_,rfl,rfl,rfl⟩⟩⟩⟩,⟨_,_,rfl,⟨v,l,rfl,I⟩,⟨y,m,rfl,J⟩⟩⟩⟩,⟨_,_,rfl,⟨_,_,rfl,⟨z,n,rfl,K⟩,⟨_,_,rfl,⟨A,o,rfl,L⟩,⟨c,a,rfl,B⟩⟩⟩,⟨d,b,rfl,C⟩⟩⟩⟩:=h;obtain⟨p,rfl,s0⟩:=qag M;exact⟨p,p1,f,r,g,s,k3,t,i,u,k,v,l,y,m,z,n,A,o,c,a,d,b,rfl,s0,s1,s2,D,F,H,I,J,K,L,B,C⟩
structure Tl20Work where
 j:qax
 links:(List qt)
 live:(List Bool)
 t:qx
instance gt_Tl20Work:GoT Tl20Work:=isoT (pairT gt_TJob (pairT (@instList qt gt_TLink) (pairT (@instList Bool instBool) gt_TTiming))) (fun x=>(x.j,x.links,x.live,x.t)) ⟨(⟨(⟨(⟨[]⟩:qw),(⟨[],[],[]⟩:qh),[]⟩:qe),(⟨ByteArray.empty,0,0,0,0⟩:qu),[],[]⟩:qax),[],[],(⟨[],[],[]⟩:qx)⟩ Z true (fun h=>by cases h)
abbrev qto(x:Tl20Work)(p0 p1 p2 p3 p4 p5 p6 p7 p8 p9 p10 p11:Option Addr)(k0 k1 k2 k3 k4 k5 k6 k7 k8 k9 k10 k11:Nat):List Value:=[oS p0 (x.j.Ac.Aq.As).length k0,oS p1 (x.j.Ac.Aa.Ab).length k1,oS p2 (x.j.Ac.Aa.Ak).length k2,oS p3 (x.j.Ac.Aa.Aj).length k3,oS p4 (x.j.Ac.Af).length k4,.string x.j.Ai.Bi,vi x.j.Ai.Ay,vi x.j.Ai.Bb,vi x.j.Ai.Au,vi x.j.Ai.Bc,oS p5 (x.j.Bh).length k5,oS p6 (x.j.Ap).length k6,oS p7 (x.links).length k7,oS p8 (x.live).length k8,oS p9 (x.t.Az).length k9,oS p10 (x.t.Ah).length k10,oS p11 (x.t.Ba).length k11]
theorem qjv{x:Tl20Work}{cs:List Value}(h:GoT.R w S x cs):∃r f p1 g s i t k3 u k v l y m z n A o B p c a d b,cs=(qto x r p1 s t u v y z A B c d f g i k3 k l m n o p a b)/\SlR w S x.j.Ac.Aq.As r f/\SlR w S x.j.Ac.Aa.Ab p1 g/\SlR w S x.j.Ac.Aa.Ak s i/\SlR w S x.j.Ac.Aa.Aj t k3/\SlR w S x.j.Ac.Af u k/\SlR w S x.j.Bh v l/\SlR w S x.j.Ap y m/\SlR w S x.links z n/\SlR w S x.live A o/\SlR w S x.t.Az B p/\SlR w S x.t.Ah c a/\SlR w S x.t.Ba d b:=by
 obtain⟨_,_,rfl,⟨_,_,rfl,⟨_,_,rfl,⟨r,f,rfl,s0⟩,⟨_,_,rfl,⟨_,_,rfl,⟨p1,g,rfl,s1⟩,⟨_,_,rfl,⟨s,i,rfl,s2⟩,⟨t,k3,rfl,F⟩⟩⟩,⟨u,k,rfl,H⟩⟩⟩,⟨_,_,rfl,⟨_,_,rfl,rfl,⟨_,_,rfl,rfl,⟨_,_,rfl,rfl,⟨_,_,rfl,rfl,rfl⟩⟩⟩⟩,⟨_,_,rfl,⟨v,l,rfl,I⟩,⟨y,m,rfl,J⟩⟩⟩⟩,⟨_,_,rfl,⟨z,n,rfl,K⟩,⟨_,_,rfl,⟨A,o,rfl,L⟩,⟨_,_,rfl,⟨B,p,rfl,M⟩,⟨_,_,rfl,⟨c,a,rfl,C⟩,⟨d,b,rfl,D⟩⟩⟩⟩⟩⟩:=h;exact⟨r,f,p1,g,s,i,t,k3,u,k,v,l,y,m,z,n,A,o,B,p,c,a,d,b,rfl,s0,s1,s2,F,H,I,J,K,L,M,C,D⟩
structure Tl05Place where
 instance_:Int
 pin:Int
 net:Int
 drives:Bool
instance gt_Tl05Place:GoT Tl05Place:=isoT (pairT instInt (pairT instInt (pairT instInt instBool))) (fun x=>(x.instance_,x.pin,x.net,x.drives)) ⟨0,0,0,false⟩ Z true (fun h=>by cases h)
instance fl_Tl05Place:Flat Tl05Place:=qgl (pairT instInt (pairT instInt (pairT instInt instBool))) (fun x:Tl05Place=>(x.instance_,x.pin,x.net,x.drives)) ⟨0,0,0,false⟩ Z true (fun h=>by cases h) (qaS _ _ (inferInstanceAs (Flat Int)) (qaS _ _ (inferInstanceAs (Flat Int)) (qaS _ _ (inferInstanceAs (Flat Int)) (inferInstanceAs (Flat Bool)))))
abbrev qkY(x:Tl05Place):List Value:=[vi x.instance_,vi x.pin,vi x.net,.bool x.drives]
theorem qby{x:Tl05Place}{cs:List Value}(h:GoT.R w S x cs):cs=(qkY x):=by
 obtain⟨_,_,rfl,rfl,⟨_,_,rfl,rfl,⟨_,_,rfl,rfl,rfl⟩⟩⟩:=h;exact Z
theorem qfT(x:Tl05Place):GoT.R w S x (qkY x):=have h:=pR (rI x.instance_) (pR (rI x.pin) (pR (rI x.net) (rB x.drives)));h
structure qW where
 e0:Int
 e1:Int
instance gt_TA2_Int:GoT qW:=isoT (pairT instInt instInt) (fun x=>(x.e0,x.e1)) ⟨0,0⟩ Z true (fun h=>by cases h)
instance fl_TA2_Int:Flat qW:=qgl (pairT instInt instInt) (fun x:qW=>(x.e0,x.e1)) ⟨0,0⟩ Z true (fun h=>by cases h) (qaS _ _ (inferInstanceAs (Flat Int)) (inferInstanceAs (Flat Int)))
abbrev qq9(x:qW):List Value:=[vi x.e0,vi x.e1]
theorem qrR{x:qW}{cs:List Value}(h:GoT.R w S x cs):cs=(qq9 x):=by
 obtain⟨_,_,rfl,rfl,rfl⟩:=h;exact Z
theorem qdo(x:qW):GoT.R w S x (qq9 x):=have h:=pR (rI x.e0) (rI x.e1);h
structure Tweight where
 index:Int
 part:Int
instance gt_Tweight:GoT Tweight:=isoT (pairT instInt instInt) (fun x=>(x.index,x.part)) ⟨0,0⟩ Z true (fun h=>by cases h)
instance fl_Tweight:Flat Tweight:=qgl (pairT instInt instInt) (fun x:Tweight=>(x.index,x.part)) ⟨0,0⟩ Z true (fun h=>by cases h) (qaS _ _ (inferInstanceAs (Flat Int)) (inferInstanceAs (Flat Int)))
abbrev qoR(x:Tweight):List Value:=[vi x.index,vi x.part]
theorem qoo{x:Tweight}{cs:List Value}(h:GoT.R w S x cs):cs=(qoR x):=by
 obtain⟨_,_,rfl,rfl,rfl⟩:=h;exact Z
theorem qna(x:Tweight):GoT.R w S x (qoR x):=have h:=pR (rI x.index) (rI x.part);h
def tab:Tab:=[ (2,⟨.int .i64,1,8,V (vi 0),[]⟩),(3,⟨.int .i64,1,8,V (vi 0),[]⟩),(4,⟨.bool,1,1,V (.bool false),[]⟩),(5,⟨.int .u8,1,1,V (.int .u8 0),[]⟩),(9,⟨.str,1,16,V (.string ByteArray.empty),[]⟩),(22,⟨.slice 5,1,24,V (.slice U 0 0),[]⟩),(24,⟨.slice 184,1,24,V (.slice U 0 0),[]⟩),(26,⟨.struct,1,24,V (.agg #[.slice U 0 0]),[(0,1,V false)]⟩),(27,⟨.slice 102,1,24,V (.slice U 0 0),[]⟩),(28,⟨.slice 9,1,24,V (.slice U 0 0),[]⟩),(29,⟨.slice 267,1,24,V (.slice U 0 0),[]⟩),(31,⟨.struct,3,72,V (.agg #[.slice U 0 0,.slice U 0 0,.slice U 0 0]),[(0,1,V false),(1,1,V false),(2,1,V false)]⟩),(32,⟨.slice 196,1,24,V (.slice U 0 0),[]⟩),(34,⟨.struct,5,120,V (.agg #[.slice U 0 0,.slice U 0 0,.slice U 0 0,.slice U 0 0,.slice U 0 0]),[(0,1,V true),(1,3,V true),(4,1,V false)]⟩),(36,⟨.struct,5,48,V (.agg #[.string ByteArray.empty,vi 0,vi 0,vi 0,vi 0]),[(0,1,V false),(1,1,V false),(2,1,V false),(3,1,V false),(4,1,V false)]⟩),(37,⟨.slice 2,1,24,V (.slice U 0 0),[]⟩),(40,⟨.slice 126,1,24,V (.slice U 0 0),[]⟩),(41,⟨.slice 48,1,24,V (.slice U 0 0),[]⟩),(43,⟨.struct,2,48,V (.agg #[.slice U 0 0,.slice U 0 0]),[(0,1,V false),(1,1,V false)]⟩),(48,⟨.struct,4,32,V (.agg #[vi 0,vi 0,vi 0,vi 0]),[(0,1,V false),(1,1,V false),(2,1,V false),(3,1,V false)]⟩),(49,⟨.slice 70,1,24,V (.slice U 0 0),[]⟩),(52,⟨.slice 4,1,24,V (.slice U 0 0),[]⟩),(53,⟨.slice 68,1,24,V (.slice U 0 0),[]⟩),(55,⟨.struct,3,72,V (.agg #[.slice U 0 0,.slice U 0 0,.slice U 0 0]),[(0,1,V false),(1,1,V false),(2,1,V false)]⟩),(62,⟨.struct,12,216,V (.agg #[.slice U 0 0,.slice U 0 0,.slice U 0 0,.slice U 0 0,.slice U 0 0,.string ByteArray.empty,vi 0,vi 0,vi 0,vi 0,.slice U 0 0,.slice U 0 0]),[(0,5,V true),(5,5,V true),(10,1,V false),(11,1,V false)]⟩),(68,⟨.struct,2,16,V (.agg #[vi 0,vi 0]),[(0,1,V false),(1,1,V false)]⟩),(70,⟨.struct,5,40,V (.agg #[vi 0,vi 0,vi 0,vi 0,vi 0]),[(0,1,V false),(1,2,V true),(3,2,V true)]⟩),(73,⟨.slice 77,1,24,V (.slice U 0 0),[]⟩),(77,⟨.struct,4,32,V (.agg #[vi 0,vi 0,vi 0,vi 0]),[(0,1,V false),(1,1,V false),(2,1,V false),(3,1,V false)]⟩),(84,⟨.struct,3,40,V (.agg #[vi 0,.slice U 0 0,vi 0]),[(0,1,V false),(1,1,V false),(2,1,V false)]⟩),(97,⟨.ptr,1,8,V (.pointer U),[]⟩),(102,⟨.struct,3,48,V (.agg #[.string ByteArray.empty,vi 0,.slice U 0 0]),[(0,1,V false),(1,1,V false),(2,1,V false)]⟩),(106,⟨.ptr,1,8,V (.pointer U),[]⟩),(110,⟨.slice 210,1,24,V (.slice U 0 0),[]⟩),(112,⟨.ptr,1,8,V (.pointer U),[]⟩),(115,⟨.struct,2,32,V (.agg #[.pointer U,.slice U 0 0]),[(0,1,V false),(1,1,V false)]⟩),(116,⟨.slice 200,1,24,V (.slice U 0 0),[]⟩),(117,⟨.slice 37,1,24,V (.slice U 0 0),[]⟩),(119,⟨.struct,10,240,V (.agg #[.slice U 0 0,.slice U 0 0,.slice U 0 0,.slice U 0 0,.slice U 0 0,.slice U 0 0,.slice U 0 0,.slice U 0 0,.slice U 0 0,.slice U 0 0]),[(0,5,V true),(5,1,V false),(6,1,V false),(7,1,V false),(8,1,V false),(9,1,V false)]⟩),(126,⟨.struct,2,16,V (.agg #[vi 0,vi 0]),[(0,1,V false),(1,1,V false)]⟩),(150,⟨.ptr,1,8,V (.pointer U),[]⟩),(181,⟨.slice 286,1,24,V (.slice U 0 0),[]⟩),(182,⟨.slice 187,1,24,V (.slice U 0 0),[]⟩),(184,⟨.struct,7,112,V (.agg #[.string ByteArray.empty,vi 0,.slice U 0 0,.slice U 0 0,.slice U 0 0,vi 0,vi 0]),[(0,1,V false),(1,1,V false),(2,1,V false),(3,1,V false),(4,1,V false),(5,1,V false),(6,1,V false)]⟩),(185,⟨.slice 264,1,24,V (.slice U 0 0),[]⟩),(187,⟨.struct,6,80,V (.agg #[vi 0,vi 0,vi 0,vi 0,.slice U 0 0,.slice U 0 0]),[(0,1,V false),(1,1,V false),(2,1,V false),(3,1,V false),(4,1,V false),(5,1,V false)]⟩),(191,⟨.struct,3,40,V (.agg #[.slice U 0 0,vi 0,vi 0]),[(0,1,V false),(1,1,V false),(2,1,V false)]⟩),(196,⟨.struct,4,96,V (.agg #[.slice U 0 0,.slice U 0 0,.slice U 0 0,.slice U 0 0]),[(0,1,V false),(1,1,V false),(2,1,V false),(3,1,V false)]⟩),(200,⟨.struct,4,32,V (.agg #[vi 0,vi 0,vi 0,.bool false]),[(0,1,V false),(1,1,V false),(2,1,V false),(3,1,V false)]⟩),(210,⟨.struct,3,24,V (.agg #[vi 0,vi 0,vi 0]),[(0,1,V false),(1,1,V false),(2,1,V false)]⟩),(212,⟨.slice 3,1,24,V (.slice U 0 0),[]⟩),(222,⟨.slice 225,1,24,V (.slice U 0 0),[]⟩),(225,⟨.struct,4,32,V (.agg #[vi 0,vi 0,vi 0,.bool false]),[(0,1,V false),(1,1,V false),(2,1,V false),(3,1,V false)]⟩),(234,⟨.ptr,1,8,V (.pointer U),[]⟩),(243,⟨.struct,17,336,V (.agg #[.slice U 0 0,.slice U 0 0,.slice U 0 0,.slice U 0 0,.slice U 0 0,.string ByteArray.empty,vi 0,vi 0,vi 0,vi 0,.slice U 0 0,.slice U 0 0,.slice U 0 0,.slice U 0 0,.slice U 0 0,.slice U 0 0,.slice U 0 0]),[(0,12,V true),(12,1,V false),(13,1,V false),(14,3,V true)]⟩),(246,⟨.struct,17,320,V (.agg #[.pointer U,.slice U 0 0,.slice U 0 0,.slice U 0 0,.slice U 0 0,.slice U 0 0,.string ByteArray.empty,vi 0,vi 0,vi 0,vi 0,.slice U 0 0,.slice U 0 0,.slice U 0 0,.slice U 0 0,.slice U 0 0,.slice U 0 0]),[(0,1,V false),(1,12,V true),(13,3,V true),(16,1,V false)]⟩),(264,⟨.struct,3,72,V (.agg #[.slice U 0 0,.slice U 0 0,.slice U 0 0]),[(0,1,V false),(1,1,V false),(2,1,V false)]⟩),(267,⟨.struct,3,32,V (.agg #[.string ByteArray.empty,vi 0,vi 0]),[(0,1,V false),(1,1,V false),(2,1,V false)]⟩),(279,⟨.slice 281,1,24,V (.slice U 0 0),[]⟩),(281,⟨.arr 2 2,2,16,V (.agg #[vi 0,vi 0]),[]⟩),(286,⟨.struct,4,40,V (.agg #[.string ByteArray.empty,vi 0,vi 0,.bool false]),[(0,1,V false),(1,1,V false),(2,1,V false),(3,1,V false)]⟩),(328,⟨.slice 332,1,24,V (.slice U 0 0),[]⟩),(332,⟨.struct,2,16,V (.agg #[vi 0,vi 0]),[(0,1,V false),(1,1,V false)]⟩),(338,⟨.int .u64,1,8,V (.int .u64 0),[]⟩)]
theorem qa:TabOk prog tab:=TabOk.mk (by kernel_rfl)
theorem rp{n:Nat}{Q:Exit->Act->World->Prop}{k:List It}{e:Env}{w:World}{all:Array Oper}{l:List Oper}{a:Op}{d t:Nat}{ps:String}{af:Array Edge}{v:Value}
  (h:pev tab e a=V v) (c:Nat.blt d n=true) (b:Run prog n Q (.ops all l::k) ((d,v)::e) w):Run prog n Q (.ops all (⟨V d,a,t,ps,af,U⟩::l)::k) e w:=r_p qa h c b
theorem dp{n:Nat}{Q:Exit->Act->World->Prop}{k:List It}{e:Env}{w:World}{all:Array Oper}{l:List Oper}{a:Op}{d t:Nat}{ps:String}{af:Array Edge}{v:Value}
  (h:pev tab e a=V v) (c:Nat.blt d n=true) (b:RunD prog n Q k all w l ((d,v)::e)):RunD prog n Q k all w (⟨V d,a,t,ps,af,U⟩::l) e:=d_p qa h c b
section
variable{P:Program}{n:Nat}{Q:Exit->Act->World->Prop}{k:List It}{e:Env}{w:World}
theorem zSR{c:Nat}{a:List Oper}{b:Code}(h:Run P n Q (.ops a.toArray a::.code b::k) e w):Run P n Q (.code (.seq (.region c a.toArray false) b)::k) e w:=qcn <|qkJ h
theorem zKSR{c:Nat}{a:List Oper}{b:Code}(h:Run P n Q (.ops a.toArray a::.code b::k) e w):Run P n Q (.code .skip::.code (.seq (.region c a.toArray false) b)::k) e w:=qfg <|qcn <|qkJ h
theorem zNSR{a1:Array Oper}{c:Nat}{a:List Oper}{b:Code}(h:Run P n Q (.ops a.toArray a::.code b::k) e w):Run P n Q (.ops a1 []::.code (.seq (.region c a.toArray false) b)::k) e w:=qbb <|qcn <|qkJ h
theorem zKS{a:Code}{b:Code}(h:Run P n Q (.code a::.code b::k) e w):Run P n Q (.code .skip::.code (.seq a b)::k) e w:=qfg <|qcn h
theorem zNS{a1:Array Oper}{a:Code}{b:Code}(h:Run P n Q (.code a::.code b::k) e w):Run P n Q (.ops a1 []::.code (.seq a b)::k) e w:=qbb <|qcn h
theorem zNSS{a1:Array Oper}{b:Code}{c:Code}{a:Code}(h:Run P n Q (.code b::.code c::.code a::k) e w):Run P n Q (.ops a1 []::.code (.seq (.seq b c) a)::k) e w:=qbb <|qcn <|qcn h
theorem zKSB{a:Nat}{c:Code}{b:Code}(h:Run P n Q (.code c::.blk a::.code b::k) e w):Run P n Q (.code .skip::.code (.seq (.block a c) b)::k) e w:=qfg <|qcn <|qm h
theorem zKSBSR{b:Nat}{f:Nat}{a:List Oper}{d:Code}{c:Code}(h:Run P n Q (.ops a.toArray a::.code d::.blk b::.code c::k) e w):Run P n Q (.code .skip::.code (.seq (.block b (.seq (.region f a.toArray false) d)) c)::k) e w:=qfg <|qcn <|qm <|qcn <|qkJ h
theorem zNE{a1:Array Oper}{a:Nat}(h:Run P n Q (k) e w):Run P n Q (.ops a1 []::.blk a::k) e w:=qbb <|qvl h
theorem zSS{b:Code}{c:Code}{a:Code}(h:Run P n Q (.code b::.code c::.code a::k) e w):Run P n Q (.code (.seq (.seq b c) a)::k) e w:=qcn <|qcn h
theorem zKSS{b:Code}{c:Code}{a:Code}(h:Run P n Q (.code b::.code c::.code a::k) e w):Run P n Q (.code .skip::.code (.seq (.seq b c) a)::k) e w:=qfg <|qcn <|qcn h
end
section
variable{w0 w:World}{L:List Ch}{n:Nat}{Q:Exit->Act->World->Prop}{k k':List It}{e e':Env}{all:Array Oper}{l l':List Oper}{z:List Nat}
theorem X0(m:Nat)(a:xs tab n m [] k e [] []=V (k',e',z,z))(b:Run prog n Q k' e' w):Run prog n Q k e w:=((qrq (P:=prog) (Q:=Q) (w:=w) qa m _ _ _ _ _ _ _ _ _ (fun _ h=>by cases h) rfl a).2 rfl).2 b
theorem Y0(m:Nat)(a:xd tab n all m [] l e [] []=V (l',e',z,z))(b:RunD prog n Q k all w l' e'):RunD prog n Q k all w l e:=((qwX (P:=prog) (Q:=Q) (k:=k) (w:=w) (all:=all) qa m _ _ _ _ _ _ _ _ _ (fun _ h=>by cases h) rfl a).2 rfl).2 b
theorem X1(m:Nat)(i0:Nat){b0 b:Nat}{a:List Value}(h:SH w0 w L)(c:(L[i0]?,xs tab n m [(b0,a)] k e [] [])=(V (oX b0 a b),V (k',e',z,z)))(f:Run prog n Q k' e' w):Run prog n Q k e w:=by
 simp only[Prod.mk.injEq] at c;exact((qrq (P:=prog) (Q:=Q) (w:=w) qa m _ _ _ _ _ _ _ _ _ (fun p d=>by
  simp only[jL,jy,or_false] at d;rcases d with rfl
  ·exact h.box i0 c.1) Z c.2).2 Z).2 f
theorem Y1(m:Nat)(i0:Nat){b0 b:Nat}{a:List Value}(h:SH w0 w L)(c:(L[i0]?,xd tab n all m [(b0,a)] l e [] [])=(V (oX b0 a b),V (l',e',z,z)))(f:RunD prog n Q k all w l' e'):RunD prog n Q k all w l e:=by
 simp only[Prod.mk.injEq] at c;exact((qwX (P:=prog) (Q:=Q) (k:=k) (w:=w) (all:=all) qa m _ _ _ _ _ _ _ _ _ (fun p d=>by
  simp only[jL,jy,or_false] at d;rcases d with rfl
  ·exact h.box i0 c.1) Z c.2).2 Z).2 f
theorem X2(m:Nat)(i0 b:Nat){b0 c:Nat}{a:List Value}{b1 d:Nat}{cs1:List Value}(h:SH w0 w L)(f:(L[i0]?,L[b]?,xs tab n m [(b0,a),(b1,cs1)] k e [] [])=(V (oX b0 a c),V (oX b1 cs1 d),V (k',e',z,z)))(i:Run prog n Q k' e' w):Run prog n Q k e w:=by
 simp only[Prod.mk.injEq] at f;exact((qrq (P:=prog) (Q:=Q) (w:=w) qa m _ _ _ _ _ _ _ _ _ (fun p g=>by
  simp only[jL,jy,or_false] at g;rcases g with rfl|rfl
  ·exact h.box i0 f.1
  ·exact h.box b f.2.1) Z f.2.2).2 Z).2 i
theorem X3(m:Nat)(i0 b c:Nat){b0 d:Nat}{a:List Value}{b1 f:Nat}{cs1:List Value}{b2 g:Nat}{cs2:List Value}(h:SH w0 w L)(i:(L[i0]?,L[b]?,L[c]?,xs tab n m [(b0,a),(b1,cs1),(b2,cs2)] k e [] [])=(V (oX b0 a d),V (oX b1 cs1 f),V (oX b2 cs2 g),V (k',e',z,z)))(o:Run prog n Q k' e' w):Run prog n Q k e w:=by
 simp only[Prod.mk.injEq] at i;exact((qrq (P:=prog) (Q:=Q) (w:=w) qa m _ _ _ _ _ _ _ _ _ (fun p l=>by
  simp only[jL,jy,or_false] at l;rcases l with rfl|rfl|rfl
  ·exact h.box i0 i.1
  ·exact h.box b i.2.1
  ·exact h.box c i.2.2.1) Z i.2.2.2).2 Z).2 o
theorem X4(m:Nat)(i0 b c d:Nat){b0 f:Nat}{a:List Value}{b1 g:Nat}{cs1:List Value}{b2 i:Nat}{cs2:List Value}{b3 l:Nat}{cs3:List Value}(h:SH w0 w L)(o:(L[i0]?,L[b]?,L[c]?,L[d]?,xs tab n m [(b0,a),(b1,cs1),(b2,cs2),(b3,cs3)] k e [] [])=(V (oX b0 a f),V (oX b1 cs1 g),V (oX b2 cs2 i),V (oX b3 cs3 l),V (k',e',z,z)))(s:Run prog n Q k' e' w):Run prog n Q k e w:=by
 simp only[Prod.mk.injEq] at o;exact((qrq (P:=prog) (Q:=Q) (w:=w) qa m _ _ _ _ _ _ _ _ _ (fun p r=>by
  simp only[jL,jy,or_false] at r;rcases r with rfl|rfl|rfl|rfl
  ·exact h.box i0 o.1
  ·exact h.box b o.2.1
  ·exact h.box c o.2.2.1
  ·exact h.box d o.2.2.2.1) Z o.2.2.2.2).2 Z).2 s
theorem X5(m:Nat)(i0 c d f g:Nat){b0 i:Nat}{a:List Value}{b1 l:Nat}{cs1:List Value}{b2 o:Nat}{cs2:List Value}{b3 r:Nat}{cs3:List Value}{b s:Nat}{cs4:List Value}(h:SH w0 w L)(t:(L[i0]?,L[c]?,L[d]?,L[f]?,L[g]?,xs tab n m [(b0,a),(b1,cs1),(b2,cs2),(b3,cs3),(b,cs4)] k e [] [])=(V (oX b0 a i),V (oX b1 cs1 l),V (oX b2 cs2 o),V (oX b3 cs3 r),V (oX b cs4 s),V (k',e',z,z)))(v:Run prog n Q k' e' w):Run prog n Q k e w:=by
 simp only[Prod.mk.injEq] at t;exact((qrq (P:=prog) (Q:=Q) (w:=w) qa m _ _ _ _ _ _ _ _ _ (fun p u=>by
  simp only[jL,jy,or_false] at u;rcases u with rfl|rfl|rfl|rfl|rfl
  ·exact h.box i0 t.1
  ·exact h.box c t.2.1
  ·exact h.box d t.2.2.1
  ·exact h.box f t.2.2.2.1
  ·exact h.box g t.2.2.2.2.1) Z t.2.2.2.2.2).2 Z).2 v
end
section
variable{w0 w:World}{L:List Ch}{n:Nat}{Q:Exit->Act->World->Prop}{k:List It}{e:Env}{all:Array Oper}{l:List Oper}
theorem zp1{a:Op}{b f:Nat}{s0:String}{d:Array Edge}{c:Value}(h:(pev tab (e) a,Nat.blt b n)=(V c,true))(g:Run prog n Q (.ops all l::k) ((b,c)::e) w):Run prog n Q (.ops all (⟨V b,a,f,s0,d,U⟩::l)::k) e w:=by
 have H:=h;simp only[Prod.mk.injEq] at H;exact rp (H.1) (H.2) (g)
theorem zd1{a:Op}{b f:Nat}{s0:String}{d:Array Edge}{c:Value}(h:(pev tab (e) a,Nat.blt b n)=(V c,true))(g:RunD prog n Q k all w l ((b,c)::e)):RunD prog n Q k all w (⟨V b,a,f,s0,d,U⟩::l) e:=by
 have H:=h;simp only[Prod.mk.injEq] at H;exact dp (H.1) (H.2) (g)
theorem zp2{a:Op}{c o:Nat}{s0:String}{i:Array Edge}{f:Value}{b:Op}{d p:Nat}{s1:String}{m:Array Edge}{g:Value}(h:(pev tab (e) a,Nat.blt c n,pev tab ((c,f)::e) b,Nat.blt d n)=(V f,true,V g,true))(r:Run prog n Q (.ops all l::k) ((d,g)::(c,f)::e) w):Run prog n Q (.ops all (⟨V c,a,o,s0,i,U⟩::⟨V d,b,p,s1,m,U⟩::l)::k) e w:=by
 have H:=h;simp only[Prod.mk.injEq] at H;exact rp (H.1) (H.2.1) (rp (H.2.2.1) (H.2.2.2) (r))
theorem zd2{a:Op}{c o:Nat}{s0:String}{i:Array Edge}{f:Value}{b:Op}{d p:Nat}{s1:String}{m:Array Edge}{g:Value}(h:(pev tab (e) a,Nat.blt c n,pev tab ((c,f)::e) b,Nat.blt d n)=(V f,true,V g,true))(r:RunD prog n Q k all w l ((d,g)::(c,f)::e)):RunD prog n Q k all w (⟨V c,a,o,s0,i,U⟩::⟨V d,b,p,s1,m,U⟩::l) e:=by
 have H:=h;simp only[Prod.mk.injEq] at H;exact dp (H.1) (H.2.1) (dp (H.2.2.1) (H.2.2.2) (r))
theorem zp3{b:Op}{a s:Nat}{s0:String}{o:Array Edge}{g:Value}{c:Op}{f t:Nat}{s1:String}{p:Array Edge}{i:Value}{d:Op}{d2 u:Nat}{s2:String}{r:Array Edge}{m:Value}(h:(pev tab (e) b,Nat.blt a n,pev tab ((a,g)::e) c,Nat.blt f n,pev tab ((f,i)::(a,g)::e) d,Nat.blt d2 n)=(V g,true,V i,true,V m,true))(v:Run prog n Q (.ops all l::k) ((d2,m)::(f,i)::(a,g)::e) w):Run prog n Q (.ops all (⟨V a,b,s,s0,o,U⟩::⟨V f,c,t,s1,p,U⟩::⟨V d2,d,u,s2,r,U⟩::l)::k) e w:=by
 have H:=h;simp only[Prod.mk.injEq] at H;exact rp (H.1) (H.2.1) (rp (H.2.2.1) (H.2.2.2.1) (rp (H.2.2.2.2.1) (H.2.2.2.2.2) (v)))
theorem zd3{b:Op}{a s:Nat}{s0:String}{o:Array Edge}{g:Value}{c:Op}{f t:Nat}{s1:String}{p:Array Edge}{i:Value}{d:Op}{d2 u:Nat}{s2:String}{r:Array Edge}{m:Value}(h:(pev tab (e) b,Nat.blt a n,pev tab ((a,g)::e) c,Nat.blt f n,pev tab ((f,i)::(a,g)::e) d,Nat.blt d2 n)=(V g,true,V i,true,V m,true))(v:RunD prog n Q k all w l ((d2,m)::(f,i)::(a,g)::e)):RunD prog n Q k all w (⟨V a,b,s,s0,o,U⟩::⟨V f,c,t,s1,p,U⟩::⟨V d2,d,u,s2,r,U⟩::l) e:=by
 have H:=h;simp only[Prod.mk.injEq] at H;exact dp (H.1) (H.2.1) (dp (H.2.2.1) (H.2.2.2.1) (dp (H.2.2.2.2.1) (H.2.2.2.2.2) (v)))
theorem zp4{c:Op}{a y:Nat}{s0:String}{s:Array Edge}{i:Value}{d:Op}{b z:Nat}{s1:String}{t:Array Edge}{m:Value}{f:Op}{d2 A:Nat}{s2:String}{u:Array Edge}{p:Value}{g:Op}{o B:Nat}{x:String}{v:Array Edge}{r:Value}(h:(pev tab (e) c,Nat.blt a n,pev tab ((a,i)::e) d,Nat.blt b n,pev tab ((b,m)::(a,i)::e) f,Nat.blt d2 n,pev tab ((d2,p)::(b,m)::(a,i)::e) g,Nat.blt o n)=(V i,true,V m,true,V p,true,V r,true))(C:Run prog n Q (.ops all l::k) ((o,r)::(d2,p)::(b,m)::(a,i)::e) w):Run prog n Q (.ops all (⟨V a,c,y,s0,s,U⟩::⟨V b,d,z,s1,t,U⟩::⟨V d2,f,A,s2,u,U⟩::⟨V o,g,B,x,v,U⟩::l)::k) e w:=by
 have H:=h;simp only[Prod.mk.injEq] at H;exact rp (H.1) (H.2.1) (rp (H.2.2.1) (H.2.2.2.1) (rp (H.2.2.2.2.1) (H.2.2.2.2.2.1) (rp (H.2.2.2.2.2.2.1) (H.2.2.2.2.2.2.2) (C))))
theorem zd4{c:Op}{a y:Nat}{s0:String}{s:Array Edge}{i:Value}{d:Op}{b z:Nat}{s1:String}{t:Array Edge}{m:Value}{f:Op}{d2 A:Nat}{s2:String}{u:Array Edge}{p:Value}{g:Op}{o B:Nat}{x:String}{v:Array Edge}{r:Value}(h:(pev tab (e) c,Nat.blt a n,pev tab ((a,i)::e) d,Nat.blt b n,pev tab ((b,m)::(a,i)::e) f,Nat.blt d2 n,pev tab ((d2,p)::(b,m)::(a,i)::e) g,Nat.blt o n)=(V i,true,V m,true,V p,true,V r,true))(C:RunD prog n Q k all w l ((o,r)::(d2,p)::(b,m)::(a,i)::e)):RunD prog n Q k all w (⟨V a,c,y,s0,s,U⟩::⟨V b,d,z,s1,t,U⟩::⟨V d2,f,A,s2,u,U⟩::⟨V o,g,B,x,v,U⟩::l) e:=by
 have H:=h;simp only[Prod.mk.injEq] at H;exact dp (H.1) (H.2.1) (dp (H.2.2.1) (H.2.2.2.1) (dp (H.2.2.2.2.1) (H.2.2.2.2.2.1) (dp (H.2.2.2.2.2.2.1) (H.2.2.2.2.2.2.2) (C))))
theorem zp5{d:Op}{a D:Nat}{s0:String}{v:Array Edge}{c:Value}{f:Op}{b F:Nat}{s1:String}{x:Array Edge}{o:Value}{g:Op}{d2 I:Nat}{s2:String}{y:Array Edge}{r:Value}{i:Op}{p J:Nat}{B:String}{z:Array Edge}{t:Value}{m:Op}{s K:Nat}{C:String}{A:Array Edge}{u:Value}(h:(pev tab (e) d,Nat.blt a n,pev tab ((a,c)::e) f,Nat.blt b n,pev tab ((b,o)::(a,c)::e) g,Nat.blt d2 n,pev tab ((d2,r)::(b,o)::(a,c)::e) i,Nat.blt p n,pev tab ((p,t)::(d2,r)::(b,o)::(a,c)::e) m,Nat.blt s n)=(V c,true,V o,true,V r,true,V t,true,V u,true))(L:Run prog n Q (.ops all l::k) ((s,u)::(p,t)::(d2,r)::(b,o)::(a,c)::e) w):Run prog n Q (.ops all (⟨V a,d,D,s0,v,U⟩::⟨V b,f,F,s1,x,U⟩::⟨V d2,g,I,s2,y,U⟩::⟨V p,i,J,B,z,U⟩::⟨V s,m,K,C,A,U⟩::l)::k) e w:=by
 have H:=h;simp only[Prod.mk.injEq] at H;exact rp (H.1) (H.2.1) (rp (H.2.2.1) (H.2.2.2.1) (rp (H.2.2.2.2.1) (H.2.2.2.2.2.1) (rp (H.2.2.2.2.2.2.1) (H.2.2.2.2.2.2.2.1) (rp (H.2.2.2.2.2.2.2.2.1) (H.2.2.2.2.2.2.2.2.2) (L)))))
theorem zd5{d:Op}{a D:Nat}{s0:String}{v:Array Edge}{c:Value}{f:Op}{b F:Nat}{s1:String}{x:Array Edge}{o:Value}{g:Op}{d2 I:Nat}{s2:String}{y:Array Edge}{r:Value}{i:Op}{p J:Nat}{B:String}{z:Array Edge}{t:Value}{m:Op}{s K:Nat}{C:String}{A:Array Edge}{u:Value}(h:(pev tab (e) d,Nat.blt a n,pev tab ((a,c)::e) f,Nat.blt b n,pev tab ((b,o)::(a,c)::e) g,Nat.blt d2 n,pev tab ((d2,r)::(b,o)::(a,c)::e) i,Nat.blt p n,pev tab ((p,t)::(d2,r)::(b,o)::(a,c)::e) m,Nat.blt s n)=(V c,true,V o,true,V r,true,V t,true,V u,true))(L:RunD prog n Q k all w l ((s,u)::(p,t)::(d2,r)::(b,o)::(a,c)::e)):RunD prog n Q k all w (⟨V a,d,D,s0,v,U⟩::⟨V b,f,F,s1,x,U⟩::⟨V d2,g,I,s2,y,U⟩::⟨V p,i,J,B,z,U⟩::⟨V s,m,K,C,A,U⟩::l) e:=by
 have H:=h;simp only[Prod.mk.injEq] at H;exact dp (H.1) (H.2.1) (dp (H.2.2.1) (H.2.2.2.1) (dp (H.2.2.2.2.1) (H.2.2.2.2.2.1) (dp (H.2.2.2.2.2.2.1) (H.2.2.2.2.2.2.2.1) (dp (H.2.2.2.2.2.2.2.2.1) (H.2.2.2.2.2.2.2.2.2) (L)))))
theorem zl(i j:Nat){d t ty:Nat}{x:Operand}{c:TE}{ps:String}{af:Array Edge}{v:Value}{b:Nat}{cs:List Value}{g:TypeId}(h:SH w0 w L)(a:(L[i]?,opv e x,tab.get t,ld c cs j,Nat.blt d n)=(V (oX b cs g),V (.pointer (V ⟨b,0+j,U⟩)),V c,V v,true))
  (f:Run prog n Q (.ops all l::k) ((d,v)::e) w):Run prog n Q (.ops all (⟨V d,.load t x,ty,ps,af,U⟩::l)::k) e w:=by
 simp only[Prod.mk.injEq] at a;exact r_v (qcg qa (h.box i a.1) (j:=j) a.2.1 a.2.2.1 a.2.2.2.1) a.2.2.2.2 f
theorem zc(j:Nat){d t ty:Nat}{x:Operand}{c:TE}{ps:String}{af:Array Edge}{v:Value}{b o:Nat}{cs:List Value}(h:CellsAt w b o cs)(a:(opv e x,tab.get t,ld c cs j,Nat.blt d n)=(V (.pointer (V ⟨b,o+j,U⟩)),V c,V v,true))
  (f:Run prog n Q (.ops all l::k) ((d,v)::e) w):Run prog n Q (.ops all (⟨V d,.load t x,ty,ps,af,U⟩::l)::k) e w:=by
 simp only[Prod.mk.injEq] at a;exact r_v (qcg qa h (j:=j) a.1 a.2.1 a.2.2.1) a.2.2.2 f
theorem zdc(j:Nat){d t ty:Nat}{x:Operand}{c:TE}{ps:String}{af:Array Edge}{v:Value}{b o:Nat}{cs:List Value}(h:CellsAt w b o cs)(a:(opv e x,tab.get t,ld c cs j,Nat.blt d n)=(V (.pointer (V ⟨b,o+j,U⟩)),V c,V v,true))
  (g:RunD prog n Q k all w l ((d,v)::e)):RunD prog n Q k all w (⟨V d,.load t x,ty,ps,af,U⟩::l) e:=by
 simp only[Prod.mk.injEq] at a;exact d_v (fun _ f=>qcg qa (h.below f) (j:=j) a.1 a.2.1 a.2.2.1) a.2.2.2 g
theorem zx{x i:Operand}{t ty d el m:Nat}{r a:TE}{ps:String}{af:Array Edge}{p:Option Addr}{h c:Nat}{kd:IntKind}{iv:Int}{b o q:Nat}(u:p=V ⟨b,o,U⟩)(v:q=o+iv.toNat*m)(g:0<=iv/\iv<h)(f:(opv e x,opv e i,tab.get t,r.kind,tab.get el,a.size,Nat.blt d n)=(V (oS p h c),V (.int kd iv),V r,TK.slice el,V a,m,true))(s:Run prog n Q (.ops all l::k) ((d,.pointer (V ⟨b,q,U⟩))::e) w):Run prog n Q (.ops all (⟨V d,.indexAddr t x i,ty,ps,af,U⟩::l)::k) e w:=by
 simp only[Prod.mk.injEq] at f;exact r_v (qvT qa u v g f.1 f.2.1 f.2.2.1 f.2.2.2.1 f.2.2.2.2.1 f.2.2.2.2.2.1) f.2.2.2.2.2.2 s
theorem zxe{x i:Operand}{t ty d el m:Nat}{h a:TE}{ps:String}{af:Array Edge}{p:Option Addr}{g c:Nat}{kd:IntKind}{iv:Int}{b o q:Nat}{α:Prop}(u:p=V ⟨b,o,U⟩)(v:q=o+iv.toNat*m)(f:0<=iv/\iv<g/\α)(r:(opv e x,opv e i,tab.get t,h.kind,tab.get el,a.size,Nat.blt d n)=(V (oS p g c),V (.int kd iv),V h,TK.slice el,V a,m,true))(s:Run prog n Q (.ops all l::k) ((d,.pointer (V ⟨b,q,U⟩))::e) w):Run prog n Q (.ops all (⟨V d,.indexAddr t x i,ty,ps,af,U⟩::l)::k) e w:=zx u v ⟨f.1,f.2.1⟩ r s
theorem zdx{x i:Operand}{t ty d el m:Nat}{r a:TE}{ps:String}{af:Array Edge}{p:Option Addr}{h c:Nat}{kd:IntKind}{iv:Int}{b o q:Nat}(u:p=V ⟨b,o,U⟩)(v:q=o+iv.toNat*m)(g:0<=iv/\iv<h)(f:(opv e x,opv e i,tab.get t,r.kind,tab.get el,a.size,Nat.blt d n)=(V (oS p h c),V (.int kd iv),V r,TK.slice el,V a,m,true))(s:RunD prog n Q k all w l ((d,.pointer (V ⟨b,q,U⟩))::e)):RunD prog n Q k all w (⟨V d,.indexAddr t x i,ty,ps,af,U⟩::l) e:=by
 simp only[Prod.mk.injEq] at f;exact d_v (fun _ _=>qvT qa u v g f.1 f.2.1 f.2.2.1 f.2.2.2.1 f.2.2.2.2.1 f.2.2.2.2.2.1) f.2.2.2.2.2.2 s
theorem zdxe{x i:Operand}{t ty d el m:Nat}{h a:TE}{ps:String}{af:Array Edge}{p:Option Addr}{g c:Nat}{kd:IntKind}{iv:Int}{b o q:Nat}{α:Prop}(u:p=V ⟨b,o,U⟩)(v:q=o+iv.toNat*m)(f:0<=iv/\iv<g/\α)(r:(opv e x,opv e i,tab.get t,h.kind,tab.get el,a.size,Nat.blt d n)=(V (oS p g c),V (.int kd iv),V h,TK.slice el,V a,m,true))(s:RunD prog n Q k all w l ((d,.pointer (V ⟨b,q,U⟩))::e)):RunD prog n Q k all w (⟨V d,.indexAddr t x i,ty,ps,af,U⟩::l) e:=zdx u v ⟨f.1,f.2.1⟩ r s
theorem zs(i:Nat){t ty:Nat}{ps:String}{af:Array Edge}{x v:Operand}{D:TE}{b j:Nat}{cs A z:List Value}{C:TypeId}{u:Value}{L':List Ch}(h:SH w0 w L)
  (B:(L[i]?,opv e x,opv e v,cellsL u,tab.get t,Nat.beq A.length D.size,Nat.ble (j+A.length) cs.length,ones A,splN cs j A,setN L i (oX b z C))=(V (oX b cs C),V (.pointer (V ⟨b,j,U⟩)),V u,A,V D,true,true,true,V z,V L'))
  (F:∀w',SH w0 w' L'->Run prog n Q (.ops all l::k) e w'):Run prog n Q (.ops all (⟨U,.store t x v,ty,ps,af,U⟩::l)::k) e w:=by
 simp only[Prod.mk.injEq] at B;obtain⟨d,f,g,m,o,p,r,s,y,a⟩:=B;subst m;have e1:=qr6 y;have c:=qtV a;subst e1 c;exact qwD qa i h d f g o p r s F
end
section
variable{P:Program}{fnc:Func}{R:Ending->World->Prop}{n:Nat}{k:List It}{e:Env}{w0 w:World}{ops:Array Oper}{st:List Nat}{fuel:Nat}
theorem M0(K:Nat)(is:List Nat){C:World->Prop}{m K0 f a:Nat}{e':Env}{z:List Nat}(b:C w)(c:xa tab n ops is [] f e [] []=V (a,e',z,z))
  (d:RunA prog n (bodyPost prog fnc R) k ops st C a (bits m K) e' w) (g:oka ops st is (bits m K0) (bits m K)=true:=by kernel_rfl):RunA prog n (bodyPost prog fnc R) k ops st C f (bits m K0) e w:=by
 exact((qsh (C:=C) (w:=w) (P:=prog) qa b is _ _ _ _ _ _ _ _ _ _ _ (fun _ h=>by cases h) rfl c g).2 rfl).2 d
theorem G0(K:Nat)(is:List Nat){C:World->Prop}{m K0 f a:Nat}{e':Env}{z:List Nat}{all:Array Oper}(b:C w)(c:xa tab n ops is [] f e [] []=V (a,e',z,z))
  (d:RunA prog n (bodyPost prog fnc R) k ops st C a (bits m K) e' w) (g:oka ops st is (bits m K0) (bits m K)=true:=by kernel_rfl):Run prog n (bodyPost prog fnc R) (.ops all []::.goal (NextA prog n (bodyPost prog fnc R) k ops st C f (bits m K0))::k) e w:=
 Ag b (M0 K is (C:=C) b c d g)
theorem M1(K:Nat)(is:List Nat)(i0:Nat){b0 b:Nat}{a:List Value}{LA:List Ch}{m K0 f d:Nat}{e':Env}{z:List Nat}(h:SH w0 w LA)(c:(LA[i0]?,xa tab n ops is [(b0,a)] f e [] [])=(V (oX b0 a b),V (d,e',z,z)))
  (i:RunA prog n (bodyPost prog fnc R) k ops st (fun w'=>SH w0 w' LA) d (bits m K) e' w) (l:oka ops st is (bits m K0) (bits m K)=true:=by kernel_rfl):RunA prog n (bodyPost prog fnc R) k ops st (fun w'=>SH w0 w' LA) f (bits m K0) e w:=by
 simp only[Prod.mk.injEq] at c;exact((qsh (C:=(fun w'=>SH w0 w' LA)) (w:=w) (P:=prog) qa h is _ _ _ _ _ _ _ _ _ _ _ (fun p g _ o=>by
  simp only[jL,jy,or_false] at g;rcases g with rfl
  ·exact SH.box o i0 c.1) Z c.2 l).2 Z).2 i
theorem M2(K:Nat)(is:List Nat)(i0 b:Nat){b0 c:Nat}{a:List Value}{b1 d:Nat}{cs1:List Value}{LA:List Ch}{m K0 f h:Nat}{e':Env}{z:List Nat}(o:SH w0 w LA)(g:(LA[i0]?,LA[b]?,xa tab n ops is [(b0,a),(b1,cs1)] f e [] [])=(V (oX b0 a c),V (oX b1 cs1 d),V (h,e',z,z)))
  (r:RunA prog n (bodyPost prog fnc R) k ops st (fun w'=>SH w0 w' LA) h (bits m K) e' w) (s:oka ops st is (bits m K0) (bits m K)=true:=by kernel_rfl):RunA prog n (bodyPost prog fnc R) k ops st (fun w'=>SH w0 w' LA) f (bits m K0) e w:=by
 simp only[Prod.mk.injEq] at g;exact((qsh (C:=(fun w'=>SH w0 w' LA)) (w:=w) (P:=prog) qa o is _ _ _ _ _ _ _ _ _ _ _ (fun p i _ l=>by
  simp only[jL,jy,or_false] at i;rcases i with rfl|rfl
  ·exact SH.box l i0 g.1
  ·exact SH.box l b g.2.1) Z g.2.2 s).2 Z).2 r
theorem M3(K:Nat)(is:List Nat)(i0 b c:Nat){b0 d:Nat}{a:List Value}{b1 g:Nat}{cs1:List Value}{b2 h:Nat}{cs2:List Value}{LA:List Ch}{m K0 f o:Nat}{e':Env}{z:List Nat}(s:SH w0 w LA)(i:(LA[i0]?,LA[b]?,LA[c]?,xa tab n ops is [(b0,a),(b1,cs1),(b2,cs2)] f e [] [])=(V (oX b0 a d),V (oX b1 cs1 g),V (oX b2 cs2 h),V (o,e',z,z)))
  (t:RunA prog n (bodyPost prog fnc R) k ops st (fun w'=>SH w0 w' LA) o (bits m K) e' w) (u:oka ops st is (bits m K0) (bits m K)=true:=by kernel_rfl):RunA prog n (bodyPost prog fnc R) k ops st (fun w'=>SH w0 w' LA) f (bits m K0) e w:=by
 simp only[Prod.mk.injEq] at i;exact((qsh (C:=(fun w'=>SH w0 w' LA)) (w:=w) (P:=prog) qa s is _ _ _ _ _ _ _ _ _ _ _ (fun p r _ l=>by
  simp only[jL,jy,or_false] at r;rcases r with rfl|rfl|rfl
  ·exact SH.box l i0 i.1
  ·exact SH.box l b i.2.1
  ·exact SH.box l c i.2.2.1) Z i.2.2.2 u).2 Z).2 t
theorem M4(K:Nat)(is:List Nat)(i0 b c d:Nat){b0 g:Nat}{a:List Value}{b1 h:Nat}{cs1:List Value}{b2 i:Nat}{cs2:List Value}{b3 l:Nat}{cs3:List Value}{LA:List Ch}{m K0 f s:Nat}{e':Env}{z:List Nat}(u:SH w0 w LA)(o:(LA[i0]?,LA[b]?,LA[c]?,LA[d]?,xa tab n ops is [(b0,a),(b1,cs1),(b2,cs2),(b3,cs3)] f e [] [])=(V (oX b0 a g),V (oX b1 cs1 h),V (oX b2 cs2 i),V (oX b3 cs3 l),V (s,e',z,z)))
  (v:RunA prog n (bodyPost prog fnc R) k ops st (fun w'=>SH w0 w' LA) s (bits m K) e' w) (x:oka ops st is (bits m K0) (bits m K)=true:=by kernel_rfl):RunA prog n (bodyPost prog fnc R) k ops st (fun w'=>SH w0 w' LA) f (bits m K0) e w:=by
 simp only[Prod.mk.injEq] at o;exact((qsh (C:=(fun w'=>SH w0 w' LA)) (w:=w) (P:=prog) qa u is _ _ _ _ _ _ _ _ _ _ _ (fun p t _ r=>by
  simp only[jL,jy,or_false] at t;rcases t with rfl|rfl|rfl|rfl
  ·exact SH.box r i0 o.1
  ·exact SH.box r b o.2.1
  ·exact SH.box r c o.2.2.1
  ·exact SH.box r d o.2.2.2.1) Z o.2.2.2.2 x).2 Z).2 v
theorem Aw(i K:Nat){C:World->Prop}{m K0 d:Nat}{b:Op}{t:Nat}{ps:String}{af:Array Edge}{v:Value}(l:∀w',C w'->Val prog n e ⟨V d,b,t,ps,af,U⟩ w' v)(c:C w)(a:(ops[i]?,Nat.blt d n)=(V (⟨V d,b,t,ps,af,U⟩:Oper),true))
  (g:RunA prog n (bodyPost prog fnc R) k ops st C fuel (bits m K) ((d,v)::e) w) (h:(bits m K0).setIfInBounds i true=bits m K:=by kernel_rfl)
  (f:(Region.noSelect ops&&Region.free .any ops (bits m K0) i&&(Region.ready .any ops (bits m K0)).contains i&&st.all (fun s=>!(Nat.beq s i)&&waitsB ops i s&&!((bits m K0).getD s true)))=true:=by kernel_rfl) :
  RunA prog n (bodyPost prog fnc R) k ops st C (fuel+1) (bits m K0) e w:=by
 simp only[Prod.mk.injEq] at a;exact qjT i a.1 _ h f l c a.2 g
theorem Al(i K j:Nat){LA:List Ch}{m K0 d t ty b o:Nat}{x:Operand}{c:TE}{ps:String}{af:Array Edge}{v:Value}{cs:List Value}(h:CellsAt w0 b o cs)(f:SH w0 w LA)
  (a:(ops[i]?,opv e x,tab.get t,ld c cs j,Nat.blt d n)=(V (⟨V d,.load t x,ty,ps,af,U⟩:Oper),V (.pointer (V ⟨b,o+j,U⟩)),V c,V v,true))
  (l:RunA prog n (bodyPost prog fnc R) k ops st (fun w'=>SH w0 w' LA) fuel (bits m K) ((d,v)::e) w) (p:(bits m K0).setIfInBounds i true=bits m K:=by kernel_rfl)
  (g:(Region.noSelect ops&&Region.free .any ops (bits m K0) i&&(Region.ready .any ops (bits m K0)).contains i&&st.all (fun s=>!(Nat.beq s i)&&waitsB ops i s&&!((bits m K0).getD s true)))=true:=by kernel_rfl) :
  RunA prog n (bodyPost prog fnc R) k ops st (fun w'=>SH w0 w' LA) (fuel+1) (bits m K0) e w:=by
 simp only[Prod.mk.injEq] at a;exact qjT i a.1 _ p g (fun w' r=>qcg qa (h.below r.below) (j:=j) a.2.1 a.2.2.1 a.2.2.2.1) f a.2.2.2.2 l
theorem Ax(i K:Nat){C:World->Prop}{m K0 d t ty el q:Nat}{x ix:Operand}{r a:TE}{ps:String}{af:Array Edge}{p:Option Addr}{h c l:Nat}{kd:IntKind}{iv:Int}{b o:Nat}(A:p=V ⟨b,o,U⟩)(B:q=o+iv.toNat*l)(g:0<=iv/\iv<h)(u:C w)
  (f:(ops[i]?,opv e x,opv e ix,tab.get t,r.kind,tab.get el,a.size,Nat.blt d n)=(V (⟨V d,.indexAddr t x ix,ty,ps,af,U⟩:Oper),V (oS p h c),V (.int kd iv),V r,TK.slice el,V a,l,true))
  (y:RunA prog n (bodyPost prog fnc R) k ops st C fuel (bits m K) ((d,.pointer (V ⟨b,q,U⟩))::e) w) (z:(bits m K0).setIfInBounds i true=bits m K:=by kernel_rfl)
  (v:(Region.noSelect ops&&Region.free .any ops (bits m K0) i&&(Region.ready .any ops (bits m K0)).contains i&&st.all (fun s=>!(Nat.beq s i)&&waitsB ops i s&&!((bits m K0).getD s true)))=true:=by kernel_rfl) :
  RunA prog n (bodyPost prog fnc R) k ops st C (fuel+1) (bits m K0) e w:=by
 simp only[Prod.mk.injEq] at f;exact qjT i f.1 _ z v (fun w' _=>qvT qa A B g f.2.1 f.2.2.1 f.2.2.2.1 f.2.2.2.2.1 f.2.2.2.2.2.1 f.2.2.2.2.2.2.1) u f.2.2.2.2.2.2.2 y
theorem Ae(i K:Nat){C:World->Prop}{m K0 d t ty el q:Nat}{x ix:Operand}{l a:TE}{ps:String}{af:Array Edge}{p:Option Addr}{g c h:Nat}{kd:IntKind}{iv:Int}{b o:Nat}{α:Prop}(A:p=V ⟨b,o,U⟩)(B:q=o+iv.toNat*h)(f:0<=iv/\iv<g/\α)(r:C w)
  (v:(ops[i]?,opv e x,opv e ix,tab.get t,l.kind,tab.get el,a.size,Nat.blt d n)=(V (⟨V d,.indexAddr t x ix,ty,ps,af,U⟩:Oper),V (oS p g c),V (.int kd iv),V l,TK.slice el,V a,h,true))
  (y:RunA prog n (bodyPost prog fnc R) k ops st C fuel (bits m K) ((d,.pointer (V ⟨b,q,U⟩))::e) w) (z:(bits m K0).setIfInBounds i true=bits m K:=by kernel_rfl)
  (u:(Region.noSelect ops&&Region.free .any ops (bits m K0) i&&(Region.ready .any ops (bits m K0)).contains i&&st.all (fun s=>!(Nat.beq s i)&&waitsB ops i s&&!((bits m K0).getD s true)))=true:=by kernel_rfl) :
  RunA prog n (bodyPost prog fnc R) k ops st C (fuel+1) (bits m K0) e w:=Ax i K A B ⟨f.1,f.2.1⟩ r v y z u
theorem rb{a:Func}{L:List Ch}{x r:Bool}(h:SH w0 w L)(F:V x=V r)(b:res1 e a.results.toList=V (.bool x)) :
  Run prog n (bodyPost prog a fun e w'=>∃v,e=.returned v/\Below w0.heap.size w0 w'/\∃us,v=tup us/\GoVs.Vs w' (fresh w0 w') r us) (.code .ret::k) e w:=qxM qa h F (qtW b)
theorem ri{a:Func}{L:List Ch}{x r:Int}(h:SH w0 w L)(F:V x=V r)(b:res1 e a.results.toList=V (vi x)) :
  Run prog n (bodyPost prog a fun e w'=>∃v,e=.returned v/\Below w0.heap.size w0 w'/\∃us,v=tup us/\GoVs.Vs w' (fresh w0 w') r us) (.code .ret::k) e w:=qxL qa h F (qtW b)
theorem rO{a:Func}{L:List Ch}{α:Type}[GoT α]{r:α}{S:Nat->Prop}{cs:List Value}(i:Nat)(h:SH w0 w L)(hi:L[i]?=V (oW S r cs))(b:ResOk tab e w a.results.toList [oV α cs]) :
  Run prog n (bodyPost prog a fun e w'=>∃v,e=.returned v/\Below w0.heap.size w0 w'/\∃us,v=tup us/\GoVs.Vs w' (fresh w0 w') r us) (.code .ret::k) e w:=qZ qa _ h b (PV.done h (qak (qL i h hi)))
theorem zV{ρ:Type}[GoVs ρ]{f:FuncId}{a:Func}{c:Code}{vs:List Value}{r:ρ}(m:Nat)(d:prog.funcs[f]?=V a)(b:(a.body,a.ntmps,Nat.ble vs.length m)=(V c,m,true))
  (h:SH w w []->Run prog m (bodyPost prog a fun e w'=>∃v,e=.returned v/\Below w.heap.size w w'/\∃us,v=tup us/\GoVs.Vs w' (fresh w w') r us) [.code c] (argEnv 0 vs) w):RetV prog f vs w r:=by
 simp only[Prod.mk.injEq] at b;exact qsq d b.1 b.2.1 b.2.2 h
end
section
variable{w0 w:World}{L:List Ch}{n:Nat}{Q:Exit->Act->World->Prop}{k:List It}{e:Env}{all:Array Oper}{l:List Oper}{d ty:Nat}{ps:String}{af:Array Edge}{x:Operand}{args:Array Operand}{ats:Array TypeId}{f:FuncId}{fi ca:Array Value}{av vs:List Value}{β:Type}{rr:β}
theorem zcI{F:Option Int}{g:Int->Option β}(h:SH w0 w L)(c:F.bind g=V rr)(m:∀{r},F=V r->RetV prog f vs w r)
  (b:(opv e x,opvs e args.toList,fi.toList++av++ca.toList,Nat.blt d n)=(V (.func (.func f) fi ca),V av,vs,true))
  (o:∀r w' ,SH w0 w' (L)->g r=V rr->Run prog n Q (.ops all l::k) ((d,vi r)::e) w') (a:qe5 prog f:=by exact cA Z):Run prog n Q (.ops all (⟨V d,.call ⟨.value x,args,ats⟩,ty,ps,af,U⟩::l)::k) e w:=by
 obtain⟨r,p,c⟩:=qc c;simp only[Prod.mk.injEq] at b;exact qcD r h a (m p) b.1 b.2.1 b.2.2.1 b.2.2.2 (fun w'  i=>o r w'  i c)
theorem zcB{F:Option Bool}{g:Bool->Option β}(h:SH w0 w L)(c:F.bind g=V rr)(m:∀{r},F=V r->RetV prog f vs w r)
  (b:(opv e x,opvs e args.toList,fi.toList++av++ca.toList,Nat.blt d n)=(V (.func (.func f) fi ca),V av,vs,true))
  (o:∀r w' ,SH w0 w' (L)->g r=V rr->Run prog n Q (.ops all l::k) ((d,.bool r)::e) w') (a:qe5 prog f:=by exact cA Z):Run prog n Q (.ops all (⟨V d,.call ⟨.value x,args,ats⟩,ty,ps,af,U⟩::l)::k) e w:=by
 obtain⟨r,p,c⟩:=qc c;simp only[Prod.mk.injEq] at b;exact qwM r h a (m p) b.1 b.2.1 b.2.2.1 b.2.2.2 (fun w'  i=>o r w'  i c)
theorem zcS{F:Option ByteArray}{g:ByteArray->Option β}(h:SH w0 w L)(c:F.bind g=V rr)(m:∀{r},F=V r->RetV prog f vs w r)
  (b:(opv e x,opvs e args.toList,fi.toList++av++ca.toList,Nat.blt d n)=(V (.func (.func f) fi ca),V av,vs,true))
  (o:∀r w' ,SH w0 w' (L)->g r=V rr->Run prog n Q (.ops all l::k) ((d,.string r)::e) w') (a:qe5 prog f:=by exact cA Z):Run prog n Q (.ops all (⟨V d,.call ⟨.value x,args,ats⟩,ty,ps,af,U⟩::l)::k) e w:=by
 obtain⟨r,p,c⟩:=qc c;simp only[Prod.mk.injEq] at b;exact qpV r h a (m p) b.1 b.2.1 b.2.2.1 b.2.2.2 (fun w'  i=>o r w'  i c)
theorem zcL{α:Type}[GoT α]{F:Option (List α)}{g:(List α)->Option β}(h:SH w0 w L)(i:F.bind g=V rr)(o:∀{r},F=V r->RetV prog f vs w r)
  (b:(opv e x,opvs e args.toList,fi.toList++av++ca.toList,Nat.blt d n)=(V (.func (.func f) fi ca),V av,vs,true))
  (s:∀r w' S p c,SH w0 w' (oW S r [oS p r.length c]::L)->g r=V rr->Run prog n Q (.ops all l::k) ((d,oS p r.length c)::e) w') (a:qe5 prog f:=by exact cA Z):Run prog n Q (.ops all (⟨V d,.call ⟨.value x,args,ats⟩,ty,ps,af,U⟩::l)::k) e w:=by
 obtain⟨r,t,i⟩:=qc i;simp only[Prod.mk.injEq] at b;exact qj7 r h a (o t) b.1 b.2.1 b.2.2.1 b.2.2.2 (fun w' S p c m=>s r w' S p c m i)
theorem zcO{α:Type}[GoT α]{F:Option α}{g:α->Option β}(h:SH w0 w L)(c:F.bind g=V rr)(m:∀{r},F=V r->RetV prog f vs w r)
  (b:(opv e x,opvs e args.toList,fi.toList++av++ca.toList,Nat.blt d n)=(V (.func (.func f) fi ca),V av,vs,true))
  (o:∀r w' S cs,SH w0 w' (oW S r cs::L)->g r=V rr->Run prog n Q (.ops all l::k) ((d,oV α cs)::e) w') (a:qe5 prog f:=by exact cA Z):Run prog n Q (.ops all (⟨V d,.call ⟨.value x,args,ats⟩,ty,ps,af,U⟩::l)::k) e w:=by
 obtain⟨r,p,c⟩:=qc c;simp only[Prod.mk.injEq] at b;exact qlV r h a (m p) b.1 b.2.1 b.2.2.1 b.2.2.2 (fun w' S cs i=>o r w' S cs i c)
end
def noC:List Nat:=[0,1,279,303]
theorem allC:((List.range 314).all fun f=>noC.contains f || callB prog f)=true:=by kernel_rfl
theorem cA{f:Nat}(h:(Nat.blt f 314&&!noC.contains f)=true):qe5 prog f:=by
 rw[je,Nat.blt_eq,jG] at h;have:=List.all_eq_true.1 allC f (List.mem_range.2 h.1);rw[h.2] at this;exact qvo this
theorem cB(f:Nat)(h:(Nat.blt f 314&&!noC.contains f)=true):qe5 prog f:=cA h
def qaH(_:Nat)(a:Int)(c:Int)(b:Int):Option Bool:=bif decide (a>=c) then V (decide (a<=b)) else V false
theorem qaq{a_n low high}  {r:Bool}(F:qaH n a_n low high=V r):RetV prog 66 [vi a_n,vi low,vi high] w r:=by
 refine zV 15 func66 Z fun h=>X0 10 Z (qg (t:=10) F Z ?_ ?_)<;>intro F
 ·exact X0 9 Z (rb h F Z)
 exact X0 6 Z (rb h F Z)
def qes(s:ByteArray):Nat->Int->Option (Flow Bool Int)|0,_=>U|n+1,a=>bif decide (a<(s.size:Int)) then((atS s a).bind fun d=>bif decide (d>=97) then(atS s a).bind fun f=>V (decide (f<=122)) else V false).bind fun b1=>((atS s a).bind fun b=>bif decide (b>=48) then(atS s a).bind fun c=>V (decide (c<=57)) else V false).bind fun b2=>bif (!b1) then bif b2 then bif (!(decide (a > 0))) then V (.ret false) else qes s n (W64 (a+1)) else V (.ret false) else qes s n (W64 (a+1)) else V (.nxt a)
def qgG(n:Nat)(s:ByteArray):Option Bool:=(qes s n 0).bind fun|.ret r=>V r|.nxt _=>bif decide ((s.size:Int)>=1) then V (decide ((s.size:Int)<=8)) else V false
theorem qh8{s}  {r:Bool}(F:qgG n s=V r):RetV prog 145 [.string s] w r:=by
 refine zV 50 func145 Z fun h=>X0 9 Z ?_;obtain⟨o1,F,a⟩:=qc F;refine qm (rL (fun m e w'=>∃g,qes s m g=V o1/\e=[(0,.string s),(3,vi g)]/\SH w w' []) n ⟨_,F,rfl,h⟩ Z ?_);rintro v _ _ ⟨g,F,rfl,h⟩;rcases v with _|v
 ·cases F
 refine X0 8 Z (qk Z F ?_ ?_)<;>intro F
 ·refine X0 4 Z ?_;obtain⟨k,f,_,F,c⟩:=bindE F;refine qay (fun e w'=>∃b1,k b1=V o1/\e=[(0,.string s),(3,vi g),(4,.bool b1)]/\SH w w' []) ?_ ?_
  ·refine X0 3 Z ?_;obtain⟨_,p,F⟩:=qc F;have z:=qmM p;refine r_v (qnd qa z Z Z Z Z) Z (zp2 Z (qg (t:=16) F Z ?_ ?_))<;>intro F
   ·refine X0 5 Z ?_;obtain⟨_,u,F⟩:=qc F;have A:=qmM u;refine r_v (qnd qa A Z Z Z Z) Z (X0 5 Z ?_);obtain rfl:=qb F;exact rG ⟨_,c,rfl,h⟩ Z
   refine X0 7 Z ?_;obtain rfl:=qb F;exact rG ⟨_,c,rfl,h⟩ Z
  rintro _ _ ⟨b1,F,rfl,h⟩;subst f;refine qcn ?_;obtain⟨i,d,_,F,b⟩:=bindE F;refine qay (fun e w'=>∃b2,i b2=V o1/\e=[(0,.string s),(3,vi g),(4,.bool b1),(5,.bool b2)]/\SH w w' []) ?_ ?_
  ·refine X0 3 Z ?_;obtain⟨_,l,F⟩:=qc F;have x:=qmM l;refine r_v (qnd qa x Z Z Z Z) Z (zp2 Z (qg (t:=26) F Z ?_ ?_))<;>intro F
   ·refine X0 5 Z ?_;obtain⟨_,o,F⟩:=qc F;have y:=qmM o;refine r_v (qnd qa y Z Z Z Z) Z (X0 5 Z ?_);obtain rfl:=qb F;exact rG ⟨_,b,rfl,h⟩ Z
   refine X0 7 Z ?_;obtain rfl:=qb F;exact rG ⟨_,b,rfl,h⟩ Z
  rintro _ _ ⟨b2,F,rfl,h⟩;subst d;refine X0 5 Z (qg (t:=34) F Z ?_ ?_)<;>intro F
  ·refine X0 4 Z (qg (t:=36) F Z ?_ ?_)<;>intro F
   ·refine X0 10 Z (qk Z F ?_ ?_)<;>intro F
    ·refine X0 4 Z ?_;obtain rfl:=qb F;replace F:=a;exact rb h F Z
    exact X0 7 Z (rK ⟨_,F,rfl,h⟩ Z)
   refine X0 8 Z (qb5 Z Z (X0 4 Z ?_));obtain rfl:=qb F;replace F:=a;exact rb h F Z
  exact X0 8 Z (qbe Z Z (X0 7 Z (rK ⟨_,F,rfl,h⟩ Z)))
 refine qv Z ?_;obtain rfl:=qb F;replace F:=a;refine X0 6 Z (qg (t:=45) F Z ?_ ?_)<;>intro F
 ·exact X0 9 Z (rb h F Z)
 exact X0 6 Z (rb h F Z)
def qfy(a_0:qF)(b:Int)(c:qaA):Nat->Int->Option (Flow (Int×Bool) Int)|0,_=>U|n+1,a=>bif decide (a<b) then(idx a_0.Bg a).bind fun d=>bif (d.Bi.toList==c.Bi.toList) then V (.ret (0,false)) else qfy a_0 b c n (W64 (a+1)) else V (.nxt a)
def qdm(a_0:qF):Nat->Int->Int->Option (Flow (Int×Bool) (Int×Int))|0,_,_=>U|n+1,c,a=>bif decide (a<(a_0.Bg.length:Int)) then(idx a_0.Bg a).bind fun b=>(qfy a_0 a b n 0).bind fun|.ret r=>V (.ret r)|.nxt _=>((qgG n b.Bi).bind fun r1=>bif (!r1) then V true else(qaH n b.Bq 0 500).bind fun g=>V (!g)).bind fun d=>bif d then V (.ret (0,false)) else(bif (a==(W64 ((a_0.Bg.length:Int)-1))) then bif (b.Bv != 2) then V true else bif (b.Bq != 0) then V true else bif b.Br then V true else bif decide (a<(W64 ((a_0.Bg.length:Int)-1))) then V (b.Bv != 1) else V false else bif decide (a<(W64 ((a_0.Bg.length:Int)-1))) then V (b.Bv != 1) else V false).bind fun f=>bif f then V (.ret (0,false)) else bif b.Br then qdm a_0 n (W64 (c+1)) (W64 (a+1)) else qdm a_0 n c (W64 (a+1)) else V (.nxt (c,a))
def qkd(n:Nat)(a_0:qF):Option (Int×Bool):=(bif decide ((a_0.Bg.length:Int)<2) then V true else V (decide ((a_0.Bg.length:Int) > 5))).bind fun b1=>bif b1 then V (0,false) else(qdm a_0 n 0 0).bind fun|.ret r=>V r|.nxt (a,_)=>V (a,true)
theorem qpC{a_0:qF}(I:Ro w a_0 cs1){r:(Int×Bool)}(F:qkd n a_0=V r):RetV prog 268 [oV qF cs1] w r:=by
 obtain⟨p1,u,x,v,y,k3,rfl,s1,_,_⟩:=qao I;refine zV 86 func268 Z fun h=>zSR (qC h Z Z fun _ a h=>X1 12 0 h Z ?_);obtain⟨C,s,_,F,l⟩:=bindE F;refine qay (fun e w'=>∃b1,C b1=V r/\e=[(1,vp a),(4,vi (a_0.Bg.length:Int)),(17,.bool b1)]/\SH w w' [oX a (qJ a_0 p1 x y u v k3) 184]) ?_ ?_
 ·refine X0 4 Z (qg (t:=14) F Z ?_ ?_)<;>intro F
  ·refine X0 4 Z ?_;obtain rfl:=qb F;exact rG ⟨_,l,rfl,h⟩ Z
  refine X0 6 Z ?_;obtain rfl:=qb F;exact rG ⟨_,l,rfl,h⟩ Z
 rintro _ _ ⟨b1,F,rfl,h⟩;subst s;refine qk Z F ?_ ?_<;>intro F
 ·refine X0 5 Z ?_;obtain rfl:=qb F;exact qZ qa (ρ:=(Int×Bool)) [oV Int [vi 0],oV Bool [.bool false]] h ⟨rfl,rfl,G⟩ (PV.done h (qP h (qr (S:=fun _=>False) Z) (qak (qr (S:=fun _=>False) Z)) (by rfl)))
 refine X0 10 Z ?_;obtain⟨o1,F,d⟩:=qc F;refine qm (rL (fun m e w'=>∃f g,qdm a_0 m f g=V o1/\e=[(1,vp a),(4,vi (a_0.Bg.length:Int)),(5,vi f),(6,vi g)]/\SH w w' [oX a (qJ a_0 p1 x y u v k3) 184]) n ⟨_,_,F,rfl,h⟩ Z ?_);rintro X _ _ ⟨f,g,F,rfl,h⟩;rcases X with _|X
 ·cases F
 refine X0 7 Z (qk Z F ?_ ?_)<;>intro F
 ·refine X1 8 0 h Z ?_;obtain⟨z,_,F,L,_,_,_,_,N,P,R,J⟩:=s1.ix F;obtain rfl:=qfn R;refine zxe N P L Z (zc 0 (J.below h.below) Z (qj qa h Z Z Z fun _ c h=>zs 0 h Z fun _ h=>X0 6 Z ?_));obtain⟨o2,F,i⟩:=qc F;refine qm (rL (fun m e w'=>∃W,qfy a_0 g z m W=V o2/\e=[(1,vp a),(4,vi (a_0.Bg.length:Int)),(5,vi f),(6,vi g),(7,vp c),(8,vi W)]/\SH w w' [oX c (qqE z) 286,oX a (qJ a_0 p1 x y u v k3) 184]) X ⟨_,F,rfl,h⟩ Z ?_);rintro Y _ _ ⟨W,F,rfl,h⟩;rcases Y with _|Y
  ·cases F
  refine X0 7 Z (qk Z F ?_ ?_)<;>intro F
  ·refine X0 4 Z (rD (Y1 2 1 h Z ?_));refine zd1 Z ?_;obtain⟨_,_,F,M,_,_,_,_,O,Q,T,K⟩:=s1.ix F;obtain rfl:=qfn T;refine zdxe O Q M Z (zd1 Z (zdc 0 (K.below h.below) Z (Y1 2 0 h Z ?_)));refine zd1 Z (dN h fun _ h=>qk Z F ?_ ?_)<;>intro F
   ·refine X0 5 Z ?_;obtain rfl:=qb F;replace F:=i;obtain rfl:=qb F;replace F:=d;obtain rfl:=qb F;exact qZ qa (ρ:=(Int×Bool)) [oV Int [vi 0],oV Bool [.bool false]] h ⟨rfl,rfl,G⟩ (PV.done h (qP h (qr (S:=fun _=>False) Z) (qak (qr (S:=fun _=>False) Z)) (by rfl)))
   exact X0 7 Z (rK ⟨_,F,rfl,h⟩ Z)
  refine qv Z ?_;obtain rfl:=qb F;replace F:=i;refine zSS ?_;obtain⟨B,p,_,F,k⟩:=bindE F;refine qay (fun e w'=>∃D,B D=V o1/\e=[(1,vp a),(4,vi (a_0.Bg.length:Int)),(5,vi f),(6,vi g),(7,vp c),(51,.bool D)]/\SH w w' [oX c (qqE z) 286,oX a (qJ a_0 p1 x y u v k3) 184]) ?_ ?_
  ·refine X1 3 0 h Z (zcB h F qh8 Z fun _ _ h F=>zp2 Z (qg (t:=46) F Z ?_ ?_))<;>intro F
   ·refine X0 6 Z ?_;obtain rfl:=qb F;exact rG ⟨_,k,rfl,h⟩ Z
   refine X1 5 0 h Z (zcB h F qaq Z fun _ _ h F=>X0 4 Z ?_);obtain rfl:=qb F;exact rG ⟨_,k,rfl,h⟩ Z
  rintro _ _ ⟨D,F,rfl,h⟩;subst p;refine qk Z F ?_ ?_<;>intro F
  ·refine X0 5 Z ?_;obtain rfl:=qb F;replace F:=d;obtain rfl:=qb F;exact qZ qa (ρ:=(Int×Bool)) [oV Int [vi 0],oV Bool [.bool false]] h ⟨rfl,rfl,G⟩ (PV.done h (qP h (qr (S:=fun _=>False) Z) (qak (qr (S:=fun _=>False) Z)) (by rfl)))
  refine zKSS ?_;obtain⟨A,o,_,F,b⟩:=bindE F;refine qay (fun e w'=>∃H,A H=V o1/\e=[(1,vp a),(4,vi (a_0.Bg.length:Int)),(5,vi f),(6,vi g),(7,vp c),(80,.bool H)]/\SH w w' [oX c (qqE z) 286,oX a (qJ a_0 p1 x y u v k3) 184]) ?_ ?_
  ·refine X0 6 Z (qg (t:=56) F Z ?_ ?_)<;>intro F
   ·refine X1 8 0 h Z (qg (t:=60) F Z ?_ ?_)<;>intro F
    ·refine X0 24 Z ?_;obtain rfl:=qb F;exact rG ⟨_,b,rfl,h⟩ Z
    refine X1 10 0 h Z (qg (t:=65) F Z ?_ ?_)<;>intro F
    ·refine X0 17 Z ?_;obtain rfl:=qb F;exact rG ⟨_,b,rfl,h⟩ Z
    refine X1 8 0 h Z (qg (t:=70) F Z ?_ ?_)<;>intro F
    ·refine X0 11 Z ?_;obtain rfl:=qb F;exact rG ⟨_,b,rfl,h⟩ Z
    refine X0 10 Z (qg (t:=75) F Z ?_ ?_)<;>intro F
    ·refine X1 10 0 h Z ?_;obtain rfl:=qb F;exact rG ⟨_,b,rfl,h⟩ Z
    refine X0 7 Z ?_;obtain rfl:=qb F;exact rG ⟨_,b,rfl,h⟩ Z
   refine X0 24 Z (qg (t:=75) F Z ?_ ?_)<;>intro F
   ·refine X1 10 0 h Z ?_;obtain rfl:=qb F;exact rG ⟨_,b,rfl,h⟩ Z
   refine X0 7 Z ?_;obtain rfl:=qb F;exact rG ⟨_,b,rfl,h⟩ Z
  rintro _ _ ⟨H,F,rfl,h⟩;subst o;refine qk Z F ?_ ?_<;>intro F
  ·refine X0 5 Z ?_;obtain rfl:=qb F;replace F:=d;obtain rfl:=qb F;exact qZ qa (ρ:=(Int×Bool)) [oV Int [vi 0],oV Bool [.bool false]] h ⟨rfl,rfl,G⟩ (PV.done h (qP h (qr (S:=fun _=>False) Z) (qak (qr (S:=fun _=>False) Z)) (by rfl)))
  refine X1 6 0 h Z (qk Z F ?_ ?_)<;>intro F
  ·refine X0 11 Z ?_;replace h:=h.p [1] Z;exact rK ⟨_,_,F,rfl,h⟩ Z
  refine X0 7 Z ?_;replace h:=h.p [1] Z;exact rK ⟨_,_,F,rfl,h⟩ Z
 refine qv Z ?_;obtain rfl:=qb F;replace F:=d;refine X0 6 Z ?_;obtain rfl:=qb F;exact qZ qa (ρ:=(Int×Bool)) [oV Int [vi f],oV Bool [.bool true]] h ⟨rfl,rfl,G⟩ (PV.done h (qP h (qr (S:=fun _=>False) Z) (qak (qr (S:=fun _=>False) Z)) (by rfl)))
def qeo(list:(List Int)):Nat->Int->Option (Flow Bool Int)|0,_=>U|n+1,a=>bif decide (a<(list.length:Int)) then(idx list a).bind fun b=>(qaH n b 0 100000).bind fun r1=>bif (!r1) then V (.ret false) else bif decide (a > 0) then(idx list (W64 (a-1))).bind fun c=>(idx list a).bind fun d=>bif decide (c>=d) then V (.ret false) else qeo list n (W64 (a+1)) else qeo list n (W64 (a+1)) else V (.nxt a)
def qi2(n:Nat)(list:(List Int)):Option Bool:=(qeo list n 0).bind fun|.ret r=>V r|.nxt _=>bif decide ((list.length:Int)>=1) then V (decide ((list.length:Int)<=4)) else V false
theorem qmm{list:(List Int)}(b:Ro w list cs1){r:Bool}(F:qi2 n list=V r):RetV prog 265 [oV (List Int) cs1] w r:=by
 obtain⟨p1,A,rfl,s1⟩:=b;refine zV 40 func265 Z fun h=>X0 9 Z ?_;obtain⟨o1,F,a⟩:=qc F;refine qm (rL (fun m e w'=>∃y,qeo list m y=V o1/\e=[(0,oS p1 list.length A),(3,vi y)]/\SH w w' []) n ⟨_,F,rfl,h⟩ Z ?_);rintro z _ _ ⟨y,F,rfl,h⟩;rcases z with _|z
 ·cases F
 refine X0 8 Z (qk Z F ?_ ?_)<;>intro F
 ·refine X0 4 Z (rD (zd2 Z ?_));obtain⟨_,_,F,g,_,_,_,_,l,s,rfl,c⟩:=s1.ix F;refine zdxe l s g Z (zdc 0 (c.below h.below) Z ?_);obtain⟨r1,x,F⟩:=qc F;refine qbK r1 (vsB _) (cB 66 Z) (fun _ B=>qaq  x) Z Z Z Z (zd2 Z (qaC (t:=16) F Z ?_ ?_))<;>intro F
  ·refine Y0 15 Z (dN h fun _ h=>qb5 Z Z (X0 4 Z ?_));obtain rfl:=qb F;replace F:=a;exact rb h F Z
  refine Y0 6 Z (qaC (t:=19) F Z ?_ ?_)<;>intro F
  ·refine Y0 7 Z ?_;obtain⟨_,_,F,i,_,_,_,_,o,u,rfl,d⟩:=s1.ix F;refine zdxe o u i Z (Y0 1 Z (zdc 0 (d.below h.below) Z (Y0 5 Z ?_)));obtain⟨_,_,F,k,_,_,_,_,p,v,rfl,f⟩:=s1.ix F;refine zdxe p v k Z (Y0 1 Z (zdc 0 (f.below h.below) Z (Y0 5 Z (dN h fun _ h=>qk Z F ?_ ?_))))<;>intro F
   ·refine X0 4 Z ?_;obtain rfl:=qb F;replace F:=a;exact rb h F Z
   exact X0 7 Z (rK ⟨_,F,rfl,h⟩ Z)
  exact Y0 13 Z (dN h fun _ h=>qbe Z Z (X0 7 Z (rK ⟨_,F,rfl,h⟩ Z)))
 refine qv Z ?_;obtain rfl:=qb F;replace F:=a;refine X0 6 Z (qg (t:=35) F Z ?_ ?_)<;>intro F
 ·exact X0 9 Z (rb h F Z)
 exact X0 6 Z (rb h F Z)
def qfv(t:qI):Nat->Int->Option (Flow Bool Int)|0,_=>U|n+1,a=>bif decide (a<(t.Bf.length:Int)) then(idx t.Bf a).bind fun b=>(qaH n b (-1000000) 1000000).bind fun r1=>bif (!r1) then V (.ret false) else qfv t n (W64 (a+1)) else V (.nxt a)
def qi8(n:Nat)(t:qI):Option Bool:=((qi2 n t.Bn).bind fun a=>bif (!a) then V true else(qi2 n t.Bj).bind fun b=>bif (!b) then V true else V ((t.Bf.length:Int) != (W64 ((t.Bn.length:Int)*(t.Bj.length:Int))))).bind fun b1=>bif b1 then V false else(qfv t n 0).bind fun|.ret r=>V r|.nxt _=>V true
theorem qmt{t:qI}(g:Ro w t cs1){r:Bool}(F:qi8 n t=V r):RetV prog 236 [oV qI cs1] w r:=by
 obtain⟨p1,s,x,u,y,k3,rfl,s1,s2,z⟩:=qbX g;refine zV 41 func236 Z fun h=>zSR (qC h Z Z fun _ a h=>X0 4 Z ?_);obtain⟨f,d,_,F,b⟩:=bindE F;refine qay (fun e w'=>∃b1,f b1=V r/\e=[(1,vp a),(26,.bool b1)]/\SH w w' [oX a (qex t p1 x y s u k3) 264]) ?_ ?_
 ·refine X1 3 0 h Z (zcB h F (qmm ⟨_,_,rfl,(h.oldS s1)⟩) Z fun _ _ h F=>zp2 Z (qg (t:=8) F Z ?_ ?_))<;>intro F
  ·refine X0 19 Z ?_;obtain rfl:=qb F;exact rG ⟨_,b,rfl,h⟩ Z
  refine X1 5 0 h Z (zcB h F (qmm ⟨_,_,rfl,(h.oldS s2)⟩) Z fun _ _ h F=>X0 4 Z (qg (t:=14) F Z ?_ ?_))<;>intro F
  ·refine X0 13 Z ?_;obtain rfl:=qb F;exact rG ⟨_,b,rfl,h⟩ Z
  refine X3 24 0 0 0 h Z ?_;obtain rfl:=qb F;exact rG ⟨_,b,rfl,h⟩ Z
 rintro _ _ ⟨b1,F,rfl,h⟩;subst d;refine qk Z F ?_ ?_<;>intro F
 ·exact X0 4 Z (rb h F Z)
 refine X0 6 Z ?_;obtain⟨o1,F,c⟩:=qc F;refine qm (rL (fun m e w'=>∃p,qfv t m p=V o1/\e=[(1,vp a),(3,vi p)]/\SH w w' [oX a (qex t p1 x y s u k3) 264]) n ⟨_,F,rfl,h⟩ Z ?_);rintro v _ _ ⟨p,F,rfl,h⟩;rcases v with _|v
 ·cases F
 refine X1 9 0 h Z (qk Z F ?_ ?_)<;>intro F
 ·refine X1 8 0 h Z ?_;obtain⟨_,_,F,k,_,_,_,_,l,o,rfl,i⟩:=z.ix F;refine zxe l o k Z (zc 0 (i.below h.below) Z (zcB h F qaq Z fun _ _ h F=>X0 2 Z (qk Z F ?_ ?_)))<;>intro F
  ·refine X0 4 Z ?_;obtain rfl:=qb F;replace F:=c;exact rb h F Z
  exact X0 7 Z (rK ⟨_,F,rfl,h⟩ Z)
 refine qv Z ?_;obtain rfl:=qb F;replace F:=c;exact X0 4 Z (rb h F Z)
def qdf(t:qI):Nat->Int->Int->Int->Option (Int×Int×Int)|0,_,_,_=>U|n+1,b,c,a=>bif decide (a<(t.Bf.length:Int)) then(idx t.Bf a).bind fun d=>(idx t.Bf a).bind fun f=>qdf t n (if d<b then d else b) (if f > c then f else c) (W64 (a+1)) else V (b,c,a)
def qhu(n:Nat)(t:qI):Option (qf×Int):=(qi8 n t).bind fun r1=>bif (!r1) then V ((⟨0,0⟩:qf),1) else(idx t.Bf 0).bind fun c=>(idx t.Bf 0).bind fun d=>(qdf t n c d 1).bind fun(a,b,_)=>V ((⟨a,b⟩:qf),0)
theorem qnI{t:qI}(d:Ro w t cs1){r:(qf×Int)}(F:qhu n t=V r):RetV prog 295 [oV qI cs1] w r:=by
 obtain⟨p1,M,O,N,P,k3,rfl,_,_,i⟩:=qbX d;refine zV 45 func295 Z fun h=>zSR (qC h Z Z fun _ a h=>qj qa h Z Z Z fun _ b h=>X1 6 1 h Z (zcB h F (qmt (h.old d)) Z fun _ _ h F=>X0 2 Z (qk Z F ?_ ?_)))<;>intro F
 ·refine zSR (r_v (qA qa [] [] Z Z Z Z Z Z Z Z) Z (zs 0 h Z fun _ h=>X0 2 Z ?_));obtain rfl:=qb F;exact qZ qa (ρ:=(qf×Int)) [oV qf [vi 0,vi 0],oV Int [vi 1]] h ⟨⟨_,_,_,rfl,rfl,h.box 0 Z,rfl⟩,rfl,G⟩ (PV.done h (qP h (qr (S:=fun _=>False) (qB (⟨0,0⟩:qf))) (qak (qr (S:=fun _=>False) Z)) (by rfl)))
 refine zKS (rA [] [1] h Z fun _ h=>M1 3 [0,1] 0 (h.p [1] Z) Z ?_);obtain⟨_,_,F,u,_,_,_,_,z,D,rfl,l⟩:=i.ix F;refine Ae 2 7 z D u (h.p [1] Z) Z (Al 3 15 0 l (h.p [1] Z) Z (M1 63 [4,5] 0 (h.p [1] Z) Z ?_));obtain⟨_,_,F,v,_,_,_,_,A,H,rfl,o⟩:=i.ix F;refine Ae 6 127 A H v (h.p [1] Z) Z (Al 7 255 0 o (h.p [1] Z) Z (Aw 8 511 (fun w' R=>qA qa [0,1] [.tmp 13,.tmp 17] Z Z Z Z Z Z Z Z) (h.p [1] Z) Z ?_));refine Ao 9 1023 Z (qj qa h Z Z Z fun _ c h=>Ag (h.p [2] Z) (Ao 10 2047 Z (zs 0 h Z fun _ h=>Ag (h.p [2] Z) (Ad (X0 5 Z ?_)))));obtain⟨o1,F,k⟩:=qc F;refine qm (rL (fun m e w'=>∃f g K,qdf t m f g K=V o1/\e=[(1,vp a),(2,vp b),(4,vp c),(5,vi K)]/\SH w w' [oX c [vi f,vi g] 68,oX b [vi 0,vi 0] 68,oX a (qex t p1 O P M N k3) 264]) n ⟨_,_,_,F,rfl,h⟩ Z ?_);rintro L _ _ ⟨f,g,K,F,rfl,h⟩;rcases L with _|L
 ·cases F
 refine X1 9 2 h Z (qk Z F ?_ ?_)<;>intro F
 ·refine X0 4 Z (rA [9] [0,2] h Z fun _ h=>M2 31 [0,1,2,3,4] 0 1 (h.p [0,2] Z) Z ?_);obtain⟨_,_,F,x,_,_,_,_,B,I,rfl,p⟩:=i.ix F;refine Ae 5 63 B I x (h.p [0,2] Z) Z (Al 6 127 0 p (h.p [0,2] Z) Z (M0 511 [7,8] (h.p [0,2] Z) Z (Ao 9 1023 Z (zs 0 h Z fun _ h=>qbg (fun Q=>absurd (Q 9 (by decide)) (by decide)) (Ad (rA [9] [0,2] h Z fun _ h=>M2 31 [0,1,2,3,4] 0 1 (h.p [0,2] Z) Z ?_))))));obtain⟨_,_,F,y,_,_,_,_,C,J,rfl,s⟩:=i.ix F;exact Ae 5 63 C J y (h.p [0,2] Z) Z (Al 6 127 0 s (h.p [0,2] Z) Z (M0 511 [7,8] (h.p [0,2] Z) Z (Ao 9 1023 Z (zs 0 h Z fun _ h=>qbg (fun Q=>absurd (Q 9 (by decide)) (by decide)) (Ad (X0 6 Z (rK ⟨_,_,_,F,rfl,h⟩ Z)))))))
 refine qv Z ?_;obtain rfl:=qb F;replace F:=k;refine X1 3 0 h Z (zs 1 h Z fun _ h=>X0 2 Z ?_);obtain rfl:=qb F;exact qZ qa (ρ:=(qf×Int)) [oV qf [vi f,vi g],oV Int [vi 0]] h ⟨⟨_,_,_,rfl,rfl,h.box 1 Z,rfl⟩,rfl,G⟩ (PV.done h (qP h (qr (S:=fun _=>False) (qB (⟨f,g⟩:qf))) (qak (qr (S:=fun _=>False) Z)) (by rfl)))
def qdc(list:(List qI))(f:Bool):Nat->Int->Option (Flow Bool Int)|0,_=>U|n+1,a=>bif decide (a<2) then(idx list a).bind fun d=>(qhu n d).bind fun(b,c)=>bif (c != 0) then V (.ret false) else bif f then bif decide (b.Ar<0) then V (.ret false) else qdc list f n (W64 (a+1)) else qdc list f n (W64 (a+1)) else V (.nxt a)
def qd4(n:Nat)(list:(List qI))(a:Bool):Option Bool:=bif ((list.length:Int) != 2) then V false else(qdc list a n 0).bind fun|.ret r=>V r|.nxt _=>V true
theorem qfG{list:(List qI)}{positive}(c:Ro w list cs1){r:Bool}(F:qd4 n list positive=V r):RetV prog 283 [oV (List qI) cs1,.bool positive] w r:=by
 obtain⟨p1,x,rfl,s1⟩:=c;refine zV 33 func283 Z fun h=>X0 11 Z (qk Z F ?_ ?_)<;>intro F
 ·exact X0 4 Z (rb h F Z)
 refine X0 6 Z ?_;obtain⟨o1,F,a⟩:=qc F;refine qm (rL (fun m e w'=>∃u,qdc list positive m u=V o1/\e=[(0,oS p1 list.length x),(1,.bool positive),(5,vi u)]/\SH w w' []) n ⟨_,F,rfl,h⟩ Z ?_);rintro v _ _ ⟨u,F,rfl,h⟩;rcases v with _|v
 ·cases F
 refine X0 6 Z (qk Z F ?_ ?_)<;>intro F
 ·refine X0 7 Z ?_;obtain⟨C,_,F,f,_,_,_,_,g,i,k,d⟩:=s1.ix F;obtain⟨_,_,_,_,_,_,rfl,s2,A,B⟩:=qbX k;refine zxe g i f Z (zc 0 (d.below h.below) Z ?_);obtain⟨⟨y,z⟩,l,F⟩:=qc F;refine qaG (y,z) h (cB 295 Z) (qnI (qir C (h.oldS s2) (h.oldS A) (h.oldS B)) l) Z Z Z Z fun _ _ _ s o=>?_;obtain⟨_,_,_,_,rfl,b,p⟩:=s.cons o;obtain rfl:=qy (b.sh.own 0 Z);obtain⟨rfl,h⟩:=b.lastI p;refine zp3 Z (qj qa h Z Z Z fun _ _ h=>zs 0 h Z fun _ h=>X0 7 Z (qg (t:=25) F Z ?_ ?_))<;>intro F
  ·refine X0 8 Z (qb5 Z Z (X0 4 Z ?_));obtain rfl:=qb F;replace F:=a;exact rb h F Z
  refine X0 4 Z (qg (t:=27) F Z ?_ ?_)<;>intro F
  ·refine X1 10 0 h Z (qk Z F ?_ ?_)<;>intro F
   ·refine X0 4 Z ?_;obtain rfl:=qb F;replace F:=a;exact rb h F Z
   refine X0 7 Z ?_;replace h:=h.p [] Z;exact rK ⟨_,F,rfl,h⟩ Z
  refine X0 7 Z (qbe Z Z (X0 7 Z ?_));replace h:=h.p [] Z;exact rK ⟨_,F,rfl,h⟩ Z
 refine qv Z ?_;obtain rfl:=qb F;replace F:=a;exact X0 4 Z (rb h F Z)
def qk2(n:Nat)(a_0:qF)(a_1:qat):Option Bool:=((qaH n a_1.Bl 0 (W64 ((W64 ((a_0.Bg.length:Int)-1))-1))).bind fun i=>bif (!i) then V true else(qaH n a_1.To 0 (W64 ((a_0.Bg.length:Int)-1))).bind fun k=>V (!k)).bind fun b1=>bif b1 then V false else(idx a_0.Bg a_1.Bl).bind fun a=>bif (a_1.Be==1) then bif (!a.Br) then bif (a_1.To==(W64 ((a_0.Bg.length:Int)-1))) then(qaH n a_1.Bp 1 3).bind fun r1=>bif r1 then(qd4 n a_1.Bo true).bind fun c=>bif c then(qd4 n a_1.Ba true).bind fun d=>V d else V false else V false else V false else V false else(bif (a_1.Be==2) then V (a_1.Be==2) else V (a_1.Be==3)).bind fun b3=>bif b3 then bif a.Br then bif (a_1.To==(W64 ((a_0.Bg.length:Int)-1))) then bif (a_1.Bp==0) then(qd4 n a_1.Bo true).bind fun f=>bif f then(qd4 n a_1.Ba true).bind fun g=>V g else V false else V false else V false else V false else(bif (a_1.Be==4) then V (a_1.Be==4) else V (a_1.Be==5)).bind fun b=>bif b then bif a.Br then bif decide (a_1.To<(W64 ((a_0.Bg.length:Int)-1))) then(idx a_0.Bg a_1.To).bind fun l=>bif (!l.Br) then bif (a_1.Bp==0) then(qd4 n a_1.Bo false).bind fun h=>bif h then V ((a_1.Ba.length:Int)==0) else V false else V false else V false else V false else V false else V false
theorem qql{a_0:qF}{a_1:qat}(s:Ro w a_0 cs1)(u:Ro w a_1 cs2){r:Bool}(F:qk2 n a_0 a_1=V r):RetV prog 269 [oV qF cs1,oV qat cs2] w r:=by
 obtain⟨p1,J,N,K,O,k3,rfl,s1,_,_⟩:=qao s;obtain⟨P,L,Q,M,rfl,R,S⟩:=qav u;refine zV 119 func269 Z fun h=>zSR (qC h Z Z fun _ a h=>qC h Z Z fun _ b h=>X1 12 1 h Z ?_);obtain⟨o,k,_,F,f⟩:=bindE F;refine qay (fun e w'=>∃b1,o b1=V r/\e=[(2,vp a),(3,vp b),(5,vi (W64 ((a_0.Bg.length:Int)-1))),(23,.bool b1)]/\SH w w' [oX b (qev a_1 P Q L M) 187,oX a (qJ a_0 p1 N O J K k3) 184]) ?_ ?_
 ·refine X1 5 0 h Z (zcB h F qaq Z fun _ _ h F=>zp2 Z (qg (t:=17) F Z ?_ ?_))<;>intro F
  ·refine X0 7 Z ?_;obtain rfl:=qb F;exact rG ⟨_,f,rfl,h⟩ Z
  refine X1 7 0 h Z (zcB h F qaq Z fun _ _ h F=>X0 4 Z ?_);obtain rfl:=qb F;exact rG ⟨_,f,rfl,h⟩ Z
 rintro _ _ ⟨b1,F,rfl,h⟩;subst k;refine qk Z F ?_ ?_<;>intro F
 ·exact X0 4 Z (rb h F Z)
 refine X2 7 1 0 h Z ?_;obtain⟨T,_,F,y,_,_,_,_,A,C,H,v⟩:=s1.ix F;obtain rfl:=qfn H;refine zxe A C y Z (zp1 Z (zc 3 (v.below h.below) Z (X1 14 0 h Z (qk Z F ?_ ?_))))<;>intro F
 ·refine X0 5 Z (qg (t:=37) F Z ?_ ?_)<;>intro F
  ·refine X1 10 0 h Z (qg (t:=43) F Z ?_ ?_)<;>intro F
   ·refine X1 5 0 h Z (zcB h F qaq Z fun _ _ h F=>zp2 Z (qg (t:=48) F Z ?_ ?_))<;>intro F
    ·refine X1 5 0 h Z (zcB h F (qfG ⟨_,_,rfl,(h.oldS R)⟩) Z fun _ _ h F=>zp2 Z (qg (t:=53) F Z ?_ ?_))<;>intro F
     ·exact X1 5 0 h Z (zcB h F (qfG ⟨_,_,rfl,(h.oldS S)⟩) Z fun _ _ h F=>X0 3 Z (rb h F Z))
     exact X0 6 Z (rb h F Z)
    exact X0 11 Z (rb h F Z)
   exact X0 16 Z (rb h F Z)
  exact X0 22 Z (rb h F Z)
 refine X0 6 Z ?_;obtain⟨m,i,_,F,d⟩:=bindE F;refine qay (fun e w'=>∃b3,m b3=V r/\e=[(2,vp a),(3,vp b),(5,vi (W64 ((a_0.Bg.length:Int)-1))),(6,.bool T.Br),(32,vi a_1.Be),(58,.bool b3)]/\SH w w' [oX b (qev a_1 P Q L M) 187,oX a (qJ a_0 p1 N O J K k3) 184]) ?_ ?_
 ·refine qk Z F ?_ ?_<;>intro F
  ·refine qfg ?_;obtain rfl:=qb F;exact rG ⟨_,d,rfl,h⟩ Z
  refine X0 4 Z ?_;obtain rfl:=qb F;exact rG ⟨_,d,rfl,h⟩ Z
 rintro _ _ ⟨b3,F,rfl,h⟩;subst i;refine qk Z F ?_ ?_<;>intro F
 ·refine X0 4 Z (qg (t:=62) F Z ?_ ?_)<;>intro F
  ·refine X1 10 0 h Z (qg (t:=68) F Z ?_ ?_)<;>intro F
   ·refine X1 8 0 h Z (qg (t:=73) F Z ?_ ?_)<;>intro F
    ·refine X1 5 0 h Z (zcB h F (qfG ⟨_,_,rfl,(h.oldS R)⟩) Z fun _ _ h F=>zp2 Z (qg (t:=78) F Z ?_ ?_))<;>intro F
     ·exact X1 5 0 h Z (zcB h F (qfG ⟨_,_,rfl,(h.oldS S)⟩) Z fun _ _ h F=>X0 3 Z (rb h F Z))
     exact X0 6 Z (rb h F Z)
    exact X0 11 Z (rb h F Z)
   exact X0 16 Z (rb h F Z)
  exact X0 22 Z (rb h F Z)
 refine X0 6 Z ?_;obtain⟨l,g,_,F,c⟩:=bindE F;refine qay (fun e w'=>∃p,l p=V r/\e=[(2,vp a),(3,vp b),(5,vi (W64 ((a_0.Bg.length:Int)-1))),(6,.bool T.Br),(83,.bool p)]/\SH w w' [oX b (qev a_1 P Q L M) 187,oX a (qJ a_0 p1 N O J K k3) 184]) ?_ ?_
 ·refine qk Z F ?_ ?_<;>intro F
  ·refine qfg ?_;obtain rfl:=qb F;exact rG ⟨_,c,rfl,h⟩ Z
  refine X0 4 Z ?_;obtain rfl:=qb F;exact rG ⟨_,c,rfl,h⟩ Z
 rintro _ _ ⟨p,F,rfl,h⟩;subst g;refine qk Z F ?_ ?_<;>intro F
 ·refine X0 4 Z (qg (t:=87) F Z ?_ ?_)<;>intro F
  ·refine X1 10 0 h Z (qg (t:=93) F Z ?_ ?_)<;>intro F
   ·refine X2 9 1 0 h Z ?_;obtain⟨_,_,F,z,_,_,_,_,B,D,I,x⟩:=s1.ix F;obtain rfl:=qfn I;refine zxe B D z Z (X0 3 Z (zc 3 (x.below h.below) Z (X0 4 Z (qg (t:=103) F Z ?_ ?_))))<;>intro F
    ·refine X1 8 0 h Z (qg (t:=108) F Z ?_ ?_)<;>intro F
     ·refine X1 5 0 h Z (zcB h F (qfG ⟨_,_,rfl,(h.oldS R)⟩) Z fun _ _ h F=>zp2 Z (qg (t:=113) F Z ?_ ?_))<;>intro F
      ·exact X1 11 0 h Z (rb h F Z)
      exact X0 7 Z (rb h F Z)
     exact X0 12 Z (rb h F Z)
    exact X0 17 Z (rb h F Z)
   exact X0 27 Z (rb h F Z)
  exact X0 33 Z (rb h F Z)
 exact X0 6 Z (rb h F Z)
def qdL(c:qF):Nat->(List Int)->Int->Option ((List Int)×Int)|0,_,_=>U|n+1,b,a=>bif decide (a<(c.Av.length:Int)) then(idx c.Av a).bind fun d=>(idx b d.Be).bind fun f=>(idx b d.Be).bind fun _=>qdL c n (setS b d.Be (W64 (f+1))) (W64 (a+1)) else V (b,a)
def qjx(n:Nat)(c:qF):Option (List Int):=(mkS 6 (0:Int)).bind fun a=>(qdL c n a 0).bind fun(b,_)=>V b
theorem qpa{c:qF}(o:Ro w c cs1){r:(List Int)}(F:qjx n c=V r):RetV prog 270 [oV qF cs1] w r:=by
 obtain⟨p1,L,N,M,O,k3,rfl,_,s2,_⟩:=qao o;refine zV 25 func270 Z fun h=>zSR (qC h Z Z fun _ b h=>X0 4 Z ?_);obtain⟨k,a,F⟩:=qc F;obtain⟨J,K,a⟩:=qas a;refine qaL qa Int h Z Z Z Z Z Z Z Z Z J K a Z fun _ S1 I h=>X0 7 Z ?_;obtain⟨o1,F,l⟩:=qc F;refine qm (rL (fun m e w'=>∃D C,qdL c m D C=V o1/\e=[(1,vp b),(3,oS I k.length k.length),(4,vi C)]/\SH w w' [oW S1 (D:List Int) [oS I k.length k.length],oX b (qJ c p1 N O L M k3) 184]) n ⟨_,_,F,rfl,h⟩ Z ?_);rintro H _ _ ⟨D,C,F,rfl,h⟩;rcases H with _|H
 ·cases F
 refine X1 9 1 h Z (qk Z F ?_ ?_)<;>intro F
 ·refine X1 8 1 h Z ?_;obtain⟨_,_,F,u,_,_,_,_,v,y,A,p⟩:=s2.ix F;obtain⟨_,_,_,_,rfl,_,_⟩:=qav A;refine zxe v y u Z (zp1 Z (zc 0 (p.below h.below) Z ?_));obtain⟨P,_,F,d,_,_,_,_,x,z,rfl,s⟩:=(h.sl 0 Z).1.ix F;refine zx x z ⟨d.1,qD d.2.1 (h.sl 0 Z).2⟩ Z (zc 0 s Z (zp1 Z ?_));obtain⟨_,B,F,f,_,_,_,_,g,i,rfl,t⟩:=(h.sl 0 Z).1.ix F;exact zx g i ⟨f.1,qD f.2.1 (h.sl 0 Z).2⟩ Z (qaV qa 0 0 (W64 (P+1)) h Z B g i Z t Z Z Z Z Z Z Z fun _ h=>X0 7 Z (rK ⟨_,_,F,rfl,h⟩ Z))
 refine qv Z ?_;obtain rfl:=qb F;replace F:=l;refine X0 5 Z ?_;obtain rfl:=qb F;exact rO 0 h Z ⟨rfl,G⟩
end Go.Fw


namespace Go.Fw
open Go Go.Proofs Go.Proofs.Tryz
open Go.RowKit (Below)
open Ch renaming own->oW,box->oX,grp->oG
open GoT renaming v->oV
open Go.Value renaming slice->oS
set_option maxRecDepth 100000
set_option maxHeartbeats 6400000
variable{n:Nat}{w:World}{cs1 cs2 cs3 cs4 cs5 cs6 cs7 cs8 cs9:List Value}
def qd3(a_0:qF)(c:Int)(b:qat):Nat->Int->Option (Flow Bool Int)|0,_=>U|n+1,a=>bif decide (a<c) then(idx a_0.Av a).bind fun d=>bif (d.Be==b.Be) then(idx a_0.Av a).bind fun f=>bif (f.Bl==b.Bl) then(idx a_0.Av a).bind fun g=>bif (g.To==b.To) then V (.ret false) else qd3 a_0 c b n (W64 (a+1)) else qd3 a_0 c b n (W64 (a+1)) else qd3 a_0 c b n (W64 (a+1)) else V (.nxt a)
def qgh(a_0:qF):Nat->Int->Option (Flow Bool Int)|0,_=>U|n+1,a=>bif decide (a<(a_0.Bs.length:Int)) then(idx a_0.Bs a).bind fun c=>(qaH n c 0 1).bind fun b=>bif (!b) then V (.ret false) else qgh a_0 n (W64 (a+1)) else V (.nxt a)
def qf2(a_0:qF):Nat->Int->Option (Flow Bool Int)|0,_=>U|n+1,a=>bif decide (a<(a_0.Av.length:Int)) then(idx a_0.Av a).bind fun b=>(qk2 n a_0 b).bind fun c=>bif (!c) then V (.ret false) else(qd3 a_0 a b n 0).bind fun|.ret r=>V (.ret r)|.nxt _=>qf2 a_0 n (W64 (a+1)) else V (.nxt a)
def qk7(n:Nat)(a_0:qF):Option Bool:=(qkd n a_0).bind fun(b,g)=>(bif (!g) then V true else(qgG n a_0.Bi).bind fun h=>bif (!h) then V true else bif decide ((a_0.Av.length:Int) > 8) then V true else(qaH n a_0.Ca 0 100000).bind fun i=>bif (!i) then V true else(qaH n a_0.Bw 0 100000).bind fun k=>V (!k)).bind fun b1=>bif b1 then V false else(qf2 a_0 n 0).bind fun|.ret r=>V r|.nxt _=>(qjx n a_0).bind fun a=>bif (a_0.Be==1) then(qgh a_0 n 0).bind fun|.ret r=>V r|.nxt _=>bif (b==0) then(shlS 1 (IntKind.wrap .u64 (W64 ((a_0.Bg.length:Int)-1)))).bind fun l=>V ((a_0.Bs.length:Int)==l) else V false else bif (a_0.Be==2) then bif (b==1) then(idx a 1).bind fun m=>bif (m==0) then(idx a 2).bind fun p=>(idx a 3).bind fun s=>bif (!((decide (p > 0))==(decide (s > 0)))) then V ((a_0.Bs.length:Int)==0) else V false else V false else V false else bif (a_0.Be==3) then bif (b==1) then(idx a 1).bind fun c=>bif decide (c > 0) then(idx a 2).bind fun d=>bif decide (d > 0) then(idx a 3).bind fun f=>bif (f==0) then V ((a_0.Bs.length:Int)==0) else V false else V false else V false else V false else V false
theorem qqc{a_0:qF}(c:Ro w a_0 cs1){r:Bool}(F:qk7 n a_0=V r):RetV prog 241 [oV qF cs1] w r:=by
 obtain⟨p1,O,Q,P,R,k3,rfl,_,s2,s3⟩:=qao c;refine zV 182 func241 Z fun h=>zSR (qC h Z Z fun _ a h=>X1 5 0 h Z ?_);obtain⟨⟨N,r3⟩,d1,F⟩:=qc F;refine qaG (N,r3) h (cB 268 Z) (qpC (h.old c) d1) Z Z Z Z fun _ _ _ d9 d3=>?_;obtain⟨_,_,rfl,e2,d4⟩:=d9.consI d3;obtain⟨rfl,h⟩:=e2.lastB d4;refine X0 8 Z ?_;obtain⟨S,p,_,F,b⟩:=bindE F;refine qay (fun e w'=>∃b1,S b1=V r/\e=[(1,vp a),(3,vi N),(40,.bool b1)]/\SH w w' [oX a (qJ a_0 p1 Q R O P k3) 184]) ?_ ?_
 ·refine X0 4 Z (qg (t:=17) F Z ?_ ?_)<;>intro F
  ·refine X0 24 Z ?_;obtain rfl:=qb F;exact rG ⟨_,b,rfl,h⟩ Z
  refine X1 5 0 h Z (zcB h F qh8 Z fun _ _ h F=>X0 4 Z (qg (t:=23) F Z ?_ ?_))<;>intro F
  ·refine X0 18 Z ?_;obtain rfl:=qb F;exact rG ⟨_,b,rfl,h⟩ Z
  refine X1 10 0 h Z (qg (t:=29) F Z ?_ ?_)<;>intro F
  ·refine X0 12 Z ?_;obtain rfl:=qb F;exact rG ⟨_,b,rfl,h⟩ Z
  refine X1 5 0 h Z (zcB h F qaq Z fun _ _ h F=>X0 4 Z (qg (t:=35) F Z ?_ ?_))<;>intro F
  ·refine X0 6 Z ?_;obtain rfl:=qb F;exact rG ⟨_,b,rfl,h⟩ Z
  refine X1 5 0 h Z (zcB h F qaq Z fun _ _ h F=>X0 4 Z ?_);obtain rfl:=qb F;exact rG ⟨_,b,rfl,h⟩ Z
 rintro _ _ ⟨b1,F,rfl,h⟩;subst p;refine qk Z F ?_ ?_<;>intro F
 ·exact X0 4 Z (rb h F Z)
 refine X0 6 Z ?_;obtain⟨o1,F,g⟩:=qc F;refine qm (rL (fun m e w'=>∃M,qf2 a_0 m M=V o1/\e=[(1,vp a),(3,vi N),(5,vi M)]/\SH w w' [oX a (qJ a_0 p1 Q R O P k3) 184]) n ⟨_,F,rfl,h⟩ Z ?_);rintro m1 _ _ ⟨M,F,rfl,h⟩;rcases m1 with _|m1
 ·cases F
 refine X1 9 0 h Z (qk Z F ?_ ?_)<;>intro F
 ·refine X1 8 0 h Z ?_;obtain⟨y1,_,F,a3,_,_,_,_,a8,c2,d5,T⟩:=s2.ix F;obtain⟨p4,k4,p5,k5,rfl,s4,s5⟩:=qav d5;refine zxe a8 c2 a3 Z (zc 0 (T.below h.below) Z (qj qa h Z Z Z fun _ k h=>zs 0 h Z fun _ h=>X2 6 1 0 h Z (zcB h F (qql (h.old c) (qiN y1 (h.oldS s4) (h.oldS s5))) Z fun _ _ h F=>X0 2 Z (qk Z F ?_ ?_))))<;>intro F
  ·refine X0 4 Z ?_;obtain rfl:=qb F;replace F:=g;exact rb h F Z
  refine X0 5 Z ?_;obtain⟨o2,F,l⟩:=qc F;refine qm (rL (fun m e w'=>∃i2,qd3 a_0 M y1 m i2=V o2/\e=[(1,vp a),(3,vi N),(5,vi M),(6,vp k),(7,vi i2)]/\SH w w' [oX k (qev y1 p4 p5 k4 k5) 187,oX a (qJ a_0 p1 Q R O P k3) 184]) m1 ⟨_,F,rfl,h⟩ Z ?_);rintro m2 _ _ ⟨i2,F,rfl,h⟩;rcases m2 with _|m2
  ·cases F
  refine X0 7 Z (qk Z F ?_ ?_)<;>intro F
  ·refine X0 4 Z (rD (Y1 2 1 h Z ?_));refine zd1 Z ?_;obtain⟨_,_,F,a4,_,_,_,_,a9,c3,d6,W⟩:=s2.ix F;obtain⟨_,_,_,_,rfl,_,_⟩:=qav d6;refine zdxe a9 c3 a4 Z (zd1 Z (zdc 0 (W.below h.below) Z (Y1 2 0 h Z ?_)));refine zd2 Z (qaC (t:=71) F Z ?_ ?_)<;>intro F
   ·refine Y1 4 1 h Z ?_;refine Y0 3 Z ?_;obtain⟨_,_,F,a5,_,_,_,_,b4,c4,d7,X⟩:=s2.ix F;obtain⟨_,_,_,_,rfl,_,_⟩:=qav d7;refine zdxe b4 c4 a5 Z (Y0 3 Z (zdc 1 (X.below h.below) Z (Y1 4 0 h Z ?_)));refine Y0 4 Z (qaC (t:=82) F Z ?_ ?_)<;>intro F
    ·refine Y1 4 1 h Z ?_;refine Y0 3 Z ?_;obtain⟨_,_,F,a6,_,_,_,_,b5,c5,d8,Y⟩:=s2.ix F;obtain⟨_,_,_,_,rfl,_,_⟩:=qav d8;refine zdxe b5 c5 a6 Z (Y0 3 Z (zdc 2 (Y.below h.below) Z (Y1 4 0 h Z ?_)));refine Y0 3 Z (dN h fun _ h=>qk Z F ?_ ?_)<;>intro F
     ·refine X0 4 Z ?_;obtain rfl:=qb F;replace F:=l;obtain rfl:=qb F;replace F:=g;exact rb h F Z
     exact X0 7 Z (rK ⟨_,F,rfl,h⟩ Z)
    exact Y0 10 Z (dN h fun _ h=>qbe Z Z (X0 7 Z (rK ⟨_,F,rfl,h⟩ Z)))
   exact Y0 21 Z (dN h fun _ h=>qbe Z Z (X0 7 Z (rK ⟨_,F,rfl,h⟩ Z)))
  refine qv Z ?_;obtain rfl:=qb F;replace F:=l;refine X0 6 Z ?_;replace h:=h.p [1] Z;exact rK ⟨_,F,rfl,h⟩ Z
 refine qv Z ?_;obtain rfl:=qb F;replace F:=g;refine X1 3 0 h Z (zcL h F (qpa (h.old c)) Z fun _ _ _ _ _ h F=>X1 14 1 h Z (qk Z F ?_ ?_))<;>intro F
 ·refine X0 5 Z ?_;obtain⟨o3,F,o⟩:=qc F;refine qm ?_;replace h:=h.p [1] Z;refine rL (fun m e w'=>∃i3,qgh a_0 m i3=V o3/\e=[(1,vp a),(3,vi N),(9,vi i3)]/\SH w w' [oX a (qJ a_0 p1 Q R O P k3) 184]) n ⟨_,F,rfl,h⟩ Z ?_;rintro m3 _ _ ⟨i3,F,rfl,h⟩;rcases m3 with _|m3
  ·cases F
  refine X1 9 0 h Z (qk Z F ?_ ?_)<;>intro F
  ·refine X1 8 0 h Z ?_;obtain⟨_,_,F,a7,_,_,_,_,b6,c6,rfl,s⟩:=s3.ix F;refine zxe b6 c6 a7 Z (zc 0 (s.below h.below) Z (zcB h F qaq Z fun _ _ h F=>X0 2 Z (qk Z F ?_ ?_)))<;>intro F
   ·refine X0 4 Z ?_;obtain rfl:=qb F;replace F:=o;exact rb h F Z
   exact X0 7 Z (rK ⟨_,F,rfl,h⟩ Z)
  refine qv Z ?_;obtain rfl:=qb F;replace F:=o;refine X0 5 Z (qg (t:=115) F Z ?_ ?_)<;>intro F
  ·refine X2 17 0 0 h Z ?_;obtain⟨_,i,F⟩:=qc F;obtain⟨g1,i⟩:=qoH i;refine r_v (qvs g1 Z Z) Z ?_;rw[i];exact X0 5 Z (rb h F Z)
  exact X0 13 Z (rb h F Z)
 refine X0 5 Z (qk Z F ?_ ?_)<;>intro F
 ·refine qcn (rD (zd3 Z (qaC (t:=131) F Z ?_ ?_)))<;>intro F
  ·refine Y0 3 Z ?_;obtain⟨_,_,F,B,_,_,_,_,b7,c7,rfl,u⟩:=(h.sl 0 Z).1.ix F;refine zdx b7 c7 ⟨B.1,qD B.2.1 (h.sl 0 Z).2⟩ Z (Y0 1 Z (zdc 0 u Z (Y0 4 Z (qaC (t:=137) F Z ?_ ?_))))<;>intro F
   ·refine Y0 3 Z ?_;obtain⟨_,_,F,C,_,_,_,_,b8,c8,rfl,v⟩:=(h.sl 0 Z).1.ix F;refine zdx b8 c8 ⟨C.1,qD C.2.1 (h.sl 0 Z).2⟩ Z (Y0 1 Z (zdc 0 v Z (Y0 5 Z ?_)));obtain⟨_,_,F,D,_,_,_,_,b9,c9,rfl,x⟩:=(h.sl 0 Z).1.ix F;refine zdx b9 c9 ⟨D.1,qD D.2.1 (h.sl 0 Z).2⟩ Z (Y0 1 Z (zdc 0 x Z (Y0 6 Z (qaC (t:=148) F Z ?_ ?_))))<;>intro F
    ·refine Y1 4 1 h Z ?_;exact Y0 6 Z (dN h fun _ h=>rb h F Z)
    exact Y0 6 Z (dN h fun _ h=>rb h F Z)
   exact Y0 17 Z (dN h fun _ h=>rb h F Z)
  exact Y0 23 Z (dN h fun _ h=>rb h F Z)
 refine X0 5 Z (qk Z F ?_ ?_)<;>intro F
 ·refine X0 5 Z (qg (t:=158) F Z ?_ ?_)<;>intro F
  ·refine X0 3 Z ?_;obtain⟨_,_,F,H,_,_,_,_,c0,d0,rfl,y⟩:=(h.sl 0 Z).1.ix F;refine zx c0 d0 ⟨H.1,qD H.2.1 (h.sl 0 Z).2⟩ Z (X0 1 Z (zc 0 y Z (X0 4 Z (qg (t:=164) F Z ?_ ?_))))<;>intro F
   ·refine X0 3 Z ?_;obtain⟨_,_,F,d,_,_,_,_,I,K,rfl,z⟩:=(h.sl 0 Z).1.ix F;refine zx I K ⟨d.1,qD d.2.1 (h.sl 0 Z).2⟩ Z (X0 1 Z (zc 0 z Z (X0 4 Z (qg (t:=170) F Z ?_ ?_))))<;>intro F
    ·refine X0 3 Z ?_;obtain⟨_,_,F,f,_,_,_,_,J,L,rfl,A⟩:=(h.sl 0 Z).1.ix F;refine zx J L ⟨f.1,qD f.2.1 (h.sl 0 Z).2⟩ Z (X0 1 Z (zc 0 A Z (X0 4 Z (qg (t:=176) F Z ?_ ?_))))<;>intro F
     ·exact X1 11 1 h Z (rb h F Z)
     exact X0 7 Z (rb h F Z)
    exact X0 13 Z (rb h F Z)
   exact X0 19 Z (rb h F Z)
  exact X0 25 Z (rb h F Z)
 exact X0 6 Z (rb h F Z)
def qef(l:qw)(b:Int):Nat->Int->Option (Flow Bool Int)|0,_=>U|n+1,a=>bif decide (a<b) then(idx l.As a).bind fun c=>(idx l.As b).bind fun d=>bif (c.Bi.toList==d.Bi.toList) then V (.ret false) else qef l b n (W64 (a+1)) else V (.nxt a)
def qd9(l:qw):Nat->Int->Option (Flow Bool Int)|0,_=>U|n+1,a=>bif decide (a<(l.As.length:Int)) then(idx l.As a).bind fun b=>(qk7 n b).bind fun r1=>bif (!r1) then V (.ret false) else(qef l a n 0).bind fun|.ret r=>V (.ret r)|.nxt _=>qd9 l n (W64 (a+1)) else V (.nxt a)
def qi0(n:Nat)(l:qw):Option Bool:=(qd9 l n 0).bind fun|.ret r=>V r|.nxt _=>V (decide ((l.As.length:Int)<=8))
theorem qod{l:qw}(f:Ro w l cs1){r:Bool}(F:qi0 n l=V r):RetV prog 187 [oV qw cs1] w r:=by
 obtain⟨p1,I,rfl,s1⟩:=qcX f;refine zV 41 func187 Z fun h=>zSR (qC h Z Z fun _ a h=>X0 7 Z ?_);obtain⟨o1,F,b⟩:=qc F;refine qm (rL (fun m e w'=>∃d,qd9 l m d=V o1/\e=[(1,vp a),(3,vi d)]/\SH w w' [oX a [oS p1 l.As.length I] 26]) n ⟨_,F,rfl,h⟩ Z ?_);rintro H _ _ ⟨d,F,rfl,h⟩;rcases H with _|H
 ·cases F
 refine X1 9 0 h Z (qk Z F ?_ ?_)<;>intro F
 ·refine X1 9 0 h Z ?_;obtain⟨M,_,F,o,_,_,_,_,t,x,A,g⟩:=s1.ix F;obtain⟨_,_,_,_,_,_,rfl,s2,K,L⟩:=qao A;refine zxe t x o Z (zc 0 (g.below h.below) Z (zcB h F (qqc (qrp M (h.oldS s2) (h.oldS K) (h.oldS L))) Z fun _ _ h F=>X0 2 Z (qk Z F ?_ ?_)))<;>intro F
  ·refine X0 4 Z ?_;obtain rfl:=qb F;replace F:=b;exact rb h F Z
  refine X0 5 Z ?_;obtain⟨o2,F,c⟩:=qc F;refine qm (rL (fun m e w'=>∃D,qef l d m D=V o2/\e=[(1,vp a),(3,vi d),(4,vi D)]/\SH w w' [oX a [oS p1 l.As.length I] 26]) H ⟨_,F,rfl,h⟩ Z ?_);rintro J _ _ ⟨D,F,rfl,h⟩;rcases J with _|J
  ·cases F
  refine X0 7 Z (qk Z F ?_ ?_)<;>intro F
  ·refine X0 4 Z (rD (Y1 2 0 h Z ?_));refine zd1 Z ?_;obtain⟨_,_,F,p,_,_,_,_,u,y,B,i⟩:=s1.ix F;obtain⟨_,_,_,_,_,_,rfl,_,_,_⟩:=qao B;refine zdxe u y p Z (zd1 Z (zdc 0 (i.below h.below) Z (Y1 2 0 h Z ?_)));refine zd1 Z ?_;obtain⟨_,_,F,s,_,_,_,_,v,z,C,k⟩:=s1.ix F;obtain⟨_,_,_,_,_,_,rfl,_,_,_⟩:=qao C;refine zdxe v z s Z (zd1 Z (zdc 0 (k.below h.below) Z (zd1 Z (dN h fun _ h=>qk Z F ?_ ?_))))<;>intro F
   ·refine X0 4 Z ?_;obtain rfl:=qb F;replace F:=c;obtain rfl:=qb F;replace F:=b;exact rb h F Z
   exact X0 7 Z (rK ⟨_,F,rfl,h⟩ Z)
  refine qv Z ?_;obtain rfl:=qb F;replace F:=c;exact X0 6 Z (rK ⟨_,F,rfl,h⟩ Z)
 refine qv Z ?_;obtain rfl:=qb F;replace F:=b;exact X1 8 0 h Z (rb h F Z)
def qeL(a_1:qh)(b:qH):Nat->Int->Option (Flow Bool Int)|0,_=>U|n+1,a=>bif decide (a<(b.Ak.length:Int)) then(idx b.Ak a).bind fun c=>(qaH n c 0 (W64 ((a_1.Ak.length:Int)-1))).bind fun r1=>bif (!r1) then V (.ret false) else qeL a_1 b n (W64 (a+1)) else V (.nxt a)
def qeN(a_1:qh):Nat->Int->Option (Flow Bool Int)|0,_=>U|n+1,a=>bif decide (a<(a_1.Aj.length:Int)) then(idx a_1.Aj a).bind fun d=>(qaH n d.Bv 1 2).bind fun b=>bif (!b) then V (.ret false) else(idx a_1.Aj a).bind fun f=>(qaH n f.Bz 0 (W64 ((a_1.Ak.length:Int)-1))).bind fun c=>bif (!c) then V (.ret false) else qeN a_1 n (W64 (a+1)) else V (.nxt a)
def qeZ(a_0:qw)(a_1:qh):Nat->Int->Option (Flow Bool Int)|0,_=>U|n+1,a=>bif decide (a<(a_1.Ab.length:Int)) then(idx a_1.Ab a).bind fun b=>((qaH n b.Bt 0 (W64 ((a_0.As.length:Int)-1))).bind fun c=>bif (!c) then V true else(idx a_0.As b.Bt).bind fun d=>V ((b.Ak.length:Int) != (d.Bg.length:Int))).bind fun b2=>bif b2 then V (.ret false) else(qeL a_1 b n 0).bind fun|.ret r=>V (.ret r)|.nxt _=>qeZ a_0 a_1 n (W64 (a+1)) else V (.nxt a)
def qjr(n:Nat)(a_0:qw)(a_1:qh):Option Bool:=(qeZ a_0 a_1 n 0).bind fun|.ret r=>V r|.nxt _=>(qeN a_1 n 0).bind fun|.ret r=>V r|.nxt _=>V true
theorem qpf{a_0:qw}{a_1:qh}(z:Ro w a_0 cs1)(A:Ro w a_1 cs2){r:Bool}(F:qjr n a_0 a_1=V r):RetV prog 188 [oV qw cs1,oV qh cs2] w r:=by
 obtain⟨p1,k1,rfl,s1⟩:=qcX z;obtain⟨u,p,v,k3,x,s,rfl,s2,_,s4⟩:=qaX A;refine zV 90 func188 Z fun h=>zSR (qC h Z Z fun _ b h=>qC h Z Z fun _ a h=>X1 14 0 h Z ?_);obtain⟨o1,F,d⟩:=qc F;refine qm (rL (fun m e w'=>∃o,qeZ a_0 a_1 m o=V o1/\e=[(2,vp b),(3,vp a),(5,vi (a_1.Ak.length:Int)),(6,vi o)]/\SH w w' [oX a (qaw a_1 u v x p k3 s) 31,oX b [oS p1 a_0.As.length k1] 26]) n ⟨_,F,rfl,h⟩ Z ?_);rintro m1 _ _ ⟨o,F,rfl,h⟩;rcases m1 with _|m1
 ·cases F
 refine X1 9 0 h Z (qk Z F ?_ ?_)<;>intro F
 ·refine X1 8 0 h Z ?_;obtain⟨y1,_,F,I,_,_,_,_,N,S,a3,B⟩:=s2.ix F;obtain⟨p5,k5,rfl,s5⟩:=qaJ a3;refine zxe N S I Z (zc 0 (B.below h.below) Z (qj qa h Z Z Z fun _ c h=>zs 0 h Z fun _ h=>zNSS ?_));obtain⟨y,k,_,F,i⟩:=bindE F;refine qay (fun e w'=>∃b2,y b2=V o1/\e=[(2,vp b),(3,vp a),(5,vi (a_1.Ak.length:Int)),(6,vi o),(7,vp c),(46,.bool b2)]/\SH w w' [oX c (qjP y1 p5 k5) 102,oX a (qaw a_1 u v x p k3 s) 31,oX b [oS p1 a_0.As.length k1] 26]) ?_ ?_
  ·refine rD (Y1 2 0 h Z ?_);refine Y1 2 2 h Z ?_;refine zd2 Z ?_;obtain⟨r2,a4,F⟩:=qc F;refine qbK r2 (vsB _) (cB 66 Z) (fun _ hb=>qaq  a4) Z Z Z Z (zd2 Z (qaC (t:=33) F Z ?_ ?_))<;>intro F
   ·refine Y0 13 Z (dN h fun _ h=>?_);obtain rfl:=qb F;exact rG ⟨_,i,rfl,h⟩ Z
   refine Y1 4 0 h Z ?_;refine Y1 6 2 h Z ?_;refine Y1 4 0 h Z ?_;refine Y0 1 Z ?_;obtain⟨_,_,F,K,_,_,_,_,P,W,a5,D⟩:=s1.ix F;obtain⟨_,_,_,_,_,_,rfl,_,_,_⟩:=qao a5;refine zdxe P W K Z (Y0 3 Z (zdc 2 (D.below h.below) Z (Y0 5 Z (dN h fun _ h=>?_))));obtain rfl:=qb F;exact rG ⟨_,i,rfl,h⟩ Z
  rintro _ _ ⟨b2,F,rfl,h⟩;subst k;refine qk Z F ?_ ?_<;>intro F
  ·refine X0 4 Z ?_;obtain rfl:=qb F;replace F:=d;exact rb h F Z
  refine X0 5 Z ?_;obtain⟨o2,F,g⟩:=qc F;refine qm (rL (fun m e w'=>∃i2,qeL a_1 y1 m i2=V o2/\e=[(2,vp b),(3,vp a),(5,vi (a_1.Ak.length:Int)),(6,vi o),(7,vp c),(8,vi i2)]/\SH w w' [oX c (qjP y1 p5 k5) 102,oX a (qaw a_1 u v x p k3 s) 31,oX b [oS p1 a_0.As.length k1] 26]) m1 ⟨_,F,rfl,h⟩ Z ?_);rintro m2 _ _ ⟨i2,F,rfl,h⟩;rcases m2 with _|m2
  ·cases F
  refine X1 9 0 h Z (qk Z F ?_ ?_)<;>intro F
  ·refine X1 8 0 h Z ?_;obtain⟨_,_,F,J,_,_,_,_,O,T,rfl,C⟩:=s5.ix F;refine zxe O T J Z (zc 0 (C.below h.below) Z (zp2 Z (zcB h F qaq Z fun _ _ h F=>X0 2 Z (qk Z F ?_ ?_))))<;>intro F
   ·refine X0 4 Z ?_;obtain rfl:=qb F;replace F:=g;obtain rfl:=qb F;replace F:=d;exact rb h F Z
   exact X0 7 Z (rK ⟨_,F,rfl,h⟩ Z)
  refine qv Z ?_;obtain rfl:=qb F;replace F:=g;refine X0 6 Z ?_;replace h:=h.p [1,2] Z;exact rK ⟨_,F,rfl,h⟩ Z
 refine qv Z ?_;obtain rfl:=qb F;replace F:=d;refine X0 5 Z ?_;obtain⟨o4,F,f⟩:=qc F;refine qm ?_;replace h:=h.p [0] Z;refine rL (fun m e w'=>∃i3,qeN a_1 m i3=V o4/\e=[(3,vp a),(5,vi (a_1.Ak.length:Int)),(9,vi i3)]/\SH w w' [oX a (qaw a_1 u v x p k3 s) 31]) n ⟨_,F,rfl,h⟩ Z ?_;rintro m3 _ _ ⟨i3,F,rfl,h⟩;rcases m3 with _|m3
 ·cases F
 refine X1 9 0 h Z (qk Z F ?_ ?_)<;>intro F
 ·refine X1 8 0 h Z ?_;obtain⟨_,_,F,L,_,_,_,_,Q,X,a6,H⟩:=s4.ix F;obtain rfl:=qe4 a6;refine zxe Q X L Z (zp1 Z (zc 1 (H.below h.below) Z (zcB h F qaq Z fun _ _ h F=>zp2 Z (qg (t:=78) F Z ?_ ?_))))<;>intro F
  ·refine X0 12 Z (qb5 Z Z (X0 4 Z ?_));obtain rfl:=qb F;replace F:=f;exact rb h F Z
  refine X1 7 0 h Z ?_;obtain⟨_,_,F,M,_,_,_,_,R,Y,a7,l⟩:=s4.ix F;obtain rfl:=qe4 a7;refine zxe R Y M Z (X0 3 Z (zc 2 (l.below h.below) Z (X0 5 Z (zcB h F qaq Z fun _ _ h F=>X0 4 Z (qk Z F ?_ ?_)))))<;>intro F
  ·refine X0 4 Z ?_;obtain rfl:=qb F;replace F:=f;exact rb h F Z
  exact X0 7 Z (rK ⟨_,F,rfl,h⟩ Z)
 refine qv Z ?_;obtain rfl:=qb F;replace F:=f;exact X0 4 Z (rb h F Z)
def qe0(list:(List ByteArray))(b:Int):Nat->Int->Option (Flow Bool Int)|0,_=>U|n+1,a=>bif decide (a<b) then(idx list a).bind fun c=>(idx list b).bind fun d=>bif (c.toList==d.toList) then V (.ret false) else qe0 list b n (W64 (a+1)) else V (.nxt a)
def qeY(list:(List ByteArray)):Nat->Int->Option (Flow Bool Int)|0,_=>U|n+1,a=>bif decide (a<(list.length:Int)) then(idx list a).bind fun b=>(qgG n b).bind fun r1=>bif (!r1) then V (.ret false) else(qe0 list a n 0).bind fun|.ret r=>V (.ret r)|.nxt _=>qeY list n (W64 (a+1)) else V (.nxt a)
def qgO(n:Nat)(list:(List ByteArray)):Option Bool:=(qeY list n 0).bind fun|.ret r=>V r|.nxt _=>V true
theorem qjg{list:(List ByteArray)}(d:Ro w list cs1){r:Bool}(F:qgO n list=V r):RetV prog 189 [oV (List ByteArray) cs1] w r:=by
 obtain⟨p1,A,rfl,s1⟩:=d;refine zV 31 func189 Z fun h=>X0 9 Z ?_;obtain⟨o1,F,a⟩:=qc F;refine qm (rL (fun m e w'=>∃c,qeY list m c=V o1/\e=[(0,oS p1 list.length A),(3,vi c)]/\SH w w' []) n ⟨_,F,rfl,h⟩ Z ?_);rintro z _ _ ⟨c,F,rfl,h⟩;rcases z with _|z
 ·cases F
 refine X0 8 Z (qk Z F ?_ ?_)<;>intro F
 ·refine X0 8 Z ?_;obtain⟨_,_,F,k,_,_,_,_,p,u,rfl,f⟩:=s1.ix F;refine zxe p u k Z (zc 0 (f.below h.below) Z (zcB h F qh8 Z fun _ _ h F=>X0 2 Z (qk Z F ?_ ?_)))<;>intro F
  ·refine X0 4 Z ?_;obtain rfl:=qb F;replace F:=a;exact rb h F Z
  refine X0 5 Z ?_;obtain⟨o2,F,b⟩:=qc F;refine qm (rL (fun m e w'=>∃y,qe0 list c m y=V o2/\e=[(0,oS p1 list.length A),(3,vi c),(4,vi y)]/\SH w w' []) z ⟨_,F,rfl,h⟩ Z ?_);rintro B _ _ ⟨y,F,rfl,h⟩;rcases B with _|B
  ·cases F
  refine X0 7 Z (qk Z F ?_ ?_)<;>intro F
  ·refine X0 4 Z (rD (zd2 Z ?_));obtain⟨_,_,F,l,_,_,_,_,s,v,rfl,g⟩:=s1.ix F;refine zdxe s v l Z (zdc 0 (g.below h.below) Z (zd2 Z ?_));obtain⟨_,_,F,o,_,_,_,_,t,x,rfl,i⟩:=s1.ix F;refine zdxe t x o Z (zdc 0 (i.below h.below) Z (zd1 Z (dN h fun _ h=>qk Z F ?_ ?_)))<;>intro F
   ·refine X0 4 Z ?_;obtain rfl:=qb F;replace F:=b;obtain rfl:=qb F;replace F:=a;exact rb h F Z
   exact X0 7 Z (rK ⟨_,F,rfl,h⟩ Z)
  refine qv Z ?_;obtain rfl:=qb F;replace F:=b;exact X0 6 Z (rK ⟨_,F,rfl,h⟩ Z)
 refine qv Z ?_;obtain rfl:=qb F;replace F:=a;exact X0 4 Z (rb h F Z)
def qeP(c:(List Int))(d:(List Int)):Nat->Int->Option (Flow Bool Int)|0,_=>U|n+1,a=>bif decide (a<(c.length:Int)) then(idx d a).bind fun b=>bif (b != 1) then V (.ret false) else qeP c d n (W64 (a+1)) else V (.nxt a)
def qcH(a_1:qh):Nat->(List Int)->Int->Option ((List Int)×Int)|0,_,_=>U|n+1,b,a=>bif decide (a<(a_1.Aj.length:Int)) then(idx a_1.Aj a).bind fun d=>bif (d.Bv==1) then(idx a_1.Aj a).bind fun c=>(idx b c.Bz).bind fun f=>(idx b c.Bz).bind fun _=>qcH a_1 n (setS b c.Bz (W64 (f+1))) (W64 (a+1)) else qcH a_1 n b (W64 (a+1)) else V (b,a)
def qdK(a_1:qh):Nat->(List Int)->Int->Option ((List Int)×Int)|0,_,_=>U|n+1,b,a=>bif decide (a<(a_1.Ab.length:Int)) then(idx a_1.Ab a).bind fun d=>(idx d.Ak (W64 ((d.Ak.length:Int)-1))).bind fun c=>(idx b c).bind fun f=>(idx b c).bind fun _=>qdK a_1 n (setS b c (W64 (f+1))) (W64 (a+1)) else V (b,a)
def qdH(a_1:qh):Nat->(List ByteArray)->Int->Option ((List ByteArray)×Int)|0,_,_=>U|n+1,b,a=>bif decide (a<(a_1.Aj.length:Int)) then(idx a_1.Aj a).bind fun d=>(appS b ([d.Bi]:List ByteArray)).bind fun c=>qdH a_1 n c (W64 (a+1)) else V (b,a)
def qdE(a_1:qh):Nat->(List ByteArray)->Int->Option ((List ByteArray)×Int)|0,_,_=>U|n+1,b,a=>bif decide (a<(a_1.Ab.length:Int)) then(idx a_1.Ab a).bind fun d=>(appS b ([d.Bi]:List ByteArray)).bind fun c=>qdE a_1 n c (W64 (a+1)) else V (b,a)
def qju(n:Nat)(a_0:qw)(a_1:qh):Option Bool:=((qi0 n a_0).bind fun f=>bif (!f) then V true else bif decide ((a_1.Ab.length:Int) > 14) then V true else bif decide ((a_1.Ak.length:Int) > 30) then V true else bif decide ((a_1.Aj.length:Int) > 8) then V true else(qjr n a_0 a_1).bind fun g=>V (!g)).bind fun b1=>bif b1 then V false else(qdE a_1 n ([]:List ByteArray) 0).bind fun(h,_)=>(qdH a_1 n ([]:List ByteArray) 0).bind fun(i,_)=>((qgO n h).bind fun r1=>bif (!r1) then V true else(qgO n i).bind fun c=>bif (!c) then V true else(qgO n a_1.Ak).bind fun d=>V (!d)).bind fun b=>bif b then V false else(mkS (a_1.Ak.length:Int) (0:Int)).bind fun a=>(qdK a_1 n a 0).bind fun(k,_)=>(qcH a_1 n k 0).bind fun(l,_)=>(qeP a l n 0).bind fun|.ret r=>V r|.nxt _=>V true
theorem qoZ{a_0:qw}{a_1:qh}(o:Ro w a_0 cs1)(L:Ro w a_1 cs2){r:Bool}(F:qju n a_0 a_1=V r):RetV prog 120 [oV qw cs1,oV qh cs2] w r:=by
 obtain⟨_,_,rfl,_⟩:=qcX o;obtain⟨B,z,C,k3,D,A,rfl,s2,s3,s4⟩:=qaX L;refine zV 153 func120 Z fun h=>zSR (qC h Z Z fun _ _ h=>qC h Z Z fun _ a h=>X0 4 Z ?_);obtain⟨KF2,K,_,F,d⟩:=bindE F;refine qay (fun e w'=>∃b1,KF2 b1=V r/\e=[(3,vp a),(40,.bool b1)]/\SH w w' [oX a (qaw a_1 B C D z k3 A) 31]) ?_ ?_
 ·refine X1 2 1 h Z (zcB h F (qod (h.old o)) Z fun _ _ h F=>zp2 Z (qg (t:=17) F Z ?_ ?_))<;>intro F
  ·refine X0 24 Z ?_;replace h:=h.p [0] Z;obtain rfl:=qb F;exact rG ⟨_,d,rfl,h⟩ Z
  refine X1 10 0 h Z (qg (t:=23) F Z ?_ ?_)<;>intro F
  ·refine X0 18 Z ?_;replace h:=h.p [0] Z;obtain rfl:=qb F;exact rG ⟨_,d,rfl,h⟩ Z
  refine X1 10 0 h Z (qg (t:=29) F Z ?_ ?_)<;>intro F
  ·refine X0 12 Z ?_;replace h:=h.p [0] Z;obtain rfl:=qb F;exact rG ⟨_,d,rfl,h⟩ Z
  refine X1 10 0 h Z (qg (t:=35) F Z ?_ ?_)<;>intro F
  ·refine X0 6 Z ?_;replace h:=h.p [0] Z;obtain rfl:=qb F;exact rG ⟨_,d,rfl,h⟩ Z
  refine X2 5 1 0 h Z (zcB h F (qpf (h.old o) (h.old L)) Z fun _ _ h F=>X0 4 Z ?_);replace h:=h.p [0] Z;obtain rfl:=qb F;exact rG ⟨_,d,rfl,h⟩ Z
 rintro _ _ ⟨b1,F,rfl,h⟩;subst K;refine qk Z F ?_ ?_<;>intro F
 ·exact X0 4 Z (rb h F Z)
 refine zKSR (qq qa [] _ ([]:List ByteArray) h Z Z Z Z Z Z Z Z Z trivial Z fun _ _ _ h=>X0 7 Z ?_);obtain⟨o1,F,hK1⟩:=qc F;refine qm (rL (fun m e w'=>∃S2 p6 v k5 H i1,qdE a_1 m H i1=V o1/\e=[(3,vp a),(5,oS p6 v k5),(6,vi i1)]/\SH w w' [oW S2 (H:List ByteArray) [oS p6 v k5],oX a (qaw a_1 B C D z k3 A) 31]) n ⟨_,_,_,_,_,_,F,rfl,h⟩ Z ?_);rintro m1 _ _ ⟨S2,p6,v,k5,H,i1,F,rfl,h⟩;obtain rfl:=(h.sl 0 Z).2;rcases m1 with _|m1
 ·cases F
 refine X1 9 1 h Z (qk Z F ?_ ?_)<;>intro F
 ·refine X1 8 1 h Z ?_;obtain⟨y1,_,F,he1,_,_,_,_,hp1,hq1,hr1,hc3⟩:=s2.ix F;obtain⟨_,_,rfl,_⟩:=qaJ hr1;refine zxe hp1 hq1 he1 Z (zp1 Z (zc 0 (hc3.below h.below) Z (qq qa [.tmp 55] _ ([y1.Bi]:List ByteArray) h Z Z Z Z Z Z Z Z Z ⟨rfl,G⟩ Z fun _ _ _ h=>?_)));obtain⟨_,p,F⟩:=qc F;obtain⟨g1,p⟩:=qE p;refine qaB qa 1 h Z (h.sl 0 Z).1 (h.sl 0 Z).2 Z Z Z Z Z Z Z Z Z g1 p Z fun _ _ _ _ h=>X0 8 Z ?_;replace h:=h.p [1,2] Z;exact rK ⟨_,_,_,_,_,_,F,rfl,h⟩ Z
 refine qv Z ?_;obtain rfl:=qb F;replace F:=hK1;refine zSR (qq qa [] _ ([]:List ByteArray) h Z Z Z Z Z Z Z Z Z trivial Z fun _ _ _ h=>X0 7 Z ?_);obtain⟨o2,F,hK2⟩:=qc F;refine qm (rL (fun m e w'=>∃S6 y x k8 x3 i2,qdH a_1 m x3 i2=V o2/\e=[(3,vp a),(5,oS p6 H.length k5),(7,oS y x k8),(8,vi i2)]/\SH w w' [oW S6 (x3:List ByteArray) [oS y x k8],oW S2 (H:List ByteArray) [oS p6 H.length k5],oX a (qaw a_1 B C D z k3 A) 31]) n ⟨_,_,_,_,_,_,F,rfl,h⟩ Z ?_);rintro m2 _ _ ⟨S6,y,x,k8,x3,i2,F,rfl,h⟩;obtain rfl:=(h.sl 0 Z).2;rcases m2 with _|m2
 ·cases F
 refine X1 9 2 h Z (qk Z F ?_ ?_)<;>intro F
 ·refine X1 8 2 h Z ?_;obtain⟨y2,_,F,he2,_,_,_,_,hp2,hq2,hr2,hc5⟩:=s4.ix F;obtain rfl:=qe4 hr2;refine zxe hp2 hq2 he2 Z (zp1 Z (zc 0 (hc5.below h.below) Z (qq qa [.tmp 72] _ ([y2.Bi]:List ByteArray) h Z Z Z Z Z Z Z Z Z ⟨rfl,G⟩ Z fun _ _ _ h=>?_)));obtain⟨_,s,F⟩:=qc F;obtain⟨g2,s⟩:=qE s;refine qaB qa 1 h Z (h.sl 0 Z).1 (h.sl 0 Z).2 Z Z Z Z Z Z Z Z Z g2 s Z fun _ _ _ _ h=>X0 8 Z ?_;replace h:=h.p [1,2,3] Z;exact rK ⟨_,_,_,_,_,_,F,rfl,h⟩ Z
 refine qv Z ?_;obtain rfl:=qb F;replace F:=hK2;refine zSS ?_;obtain⟨KF1,J,_,F,l⟩:=bindE F;refine qay (fun e w'=>∃b4,KF1 b4=V r/\e=[(3,vp a),(88,.bool b4)]/\SH w w' [oX a (qaw a_1 B C D z k3 A) 31]) ?_ ?_
 ·refine X0 2 Z (zcB h F (qjg (h.own 1 Z)) Z fun _ _ h F=>zp2 Z (qg (t:=78) F Z ?_ ?_))<;>intro F
  ·refine X0 11 Z ?_;replace h:=h.p [2] Z;obtain rfl:=qb F;exact rG ⟨_,l,rfl,h⟩ Z
  refine X0 3 Z (zcB h F (qjg (h.own 0 Z)) Z fun _ _ h F=>X0 4 Z (qg (t:=83) F Z ?_ ?_))<;>intro F
  ·refine X0 6 Z ?_;replace h:=h.p [2] Z;obtain rfl:=qb F;exact rG ⟨_,l,rfl,h⟩ Z
  refine X1 5 2 h Z (zcB h F (qjg ⟨_,_,rfl,(h.oldS s3)⟩) Z fun _ _ h F=>X0 4 Z ?_);replace h:=h.p [2] Z;obtain rfl:=qb F;exact rG ⟨_,l,rfl,h⟩ Z
 rintro _ _ ⟨b4,F,rfl,h⟩;subst J;refine qk Z F ?_ ?_<;>intro F
 ·exact X0 4 Z (rb h F Z)
 refine X1 6 0 h Z ?_;obtain⟨c,u,F⟩:=qc F;obtain⟨g3,g4,u⟩:=qas u;refine qaL qa Int h Z Z Z Z Z Z Z Z Z g3 g4 u Z fun _ S9 b h=>X0 7 Z ?_;obtain⟨o3,F,hK3⟩:=qc F;refine qm (rL (fun m e w'=>∃x6 i3,qdK a_1 m x6 i3=V o3/\e=[(3,vp a),(9,oS b c.length c.length),(10,vi i3)]/\SH w w' [oW S9 (x6:List Int) [oS b c.length c.length],oX a (qaw a_1 B C D z k3 A) 31]) n ⟨_,_,F,rfl,h⟩ Z ?_);rintro m3 _ _ ⟨x6,i3,F,rfl,h⟩;rcases m3 with _|m3
 ·cases F
 refine X1 9 1 h Z (qk Z F ?_ ?_)<;>intro F
 ·refine X1 8 1 h Z ?_;obtain⟨_,_,F,he3,_,_,_,_,hp3,hq3,hr3,hc8⟩:=s2.ix F;obtain⟨_,_,rfl,s6⟩:=qaJ hr3;refine zxe hp3 hq3 he3 Z (zp1 Z (zc 2 (hc8.below h.below) Z (X0 8 Z ?_)));obtain⟨_,_,F,he4,_,_,_,_,hp4,hq4,rfl,hc9⟩:=s6.ix F;refine zxe hp4 hq4 he4 Z (zc 0 (hc9.below h.below) Z ?_);obtain⟨y5,_,F,T,_,_,_,_,hp5,hq5,rfl,M⟩:=(h.sl 0 Z).1.ix F;refine zx hp5 hq5 ⟨T.1,qD T.2.1 (h.sl 0 Z).2⟩ Z (zc 0 M Z (zp1 Z ?_));obtain⟨_,hy6,F,W,_,_,_,_,a3,a5,rfl,N⟩:=(h.sl 0 Z).1.ix F;exact zx a3 a5 ⟨W.1,qD W.2.1 (h.sl 0 Z).2⟩ Z (qaV qa 0 0 (W64 (y5+1)) h Z hy6 a3 a5 Z N Z Z Z Z Z Z Z fun _ h=>X0 7 Z (rK ⟨_,_,F,rfl,h⟩ Z))
 refine qv Z ?_;obtain rfl:=qb F;replace F:=hK3;refine X0 5 Z ?_;obtain⟨o4,F,hK4⟩:=qc F;refine qm (rL (fun m e w'=>∃x7 i4,qcH a_1 m x7 i4=V o4/\e=[(3,vp a),(9,oS b c.length c.length),(12,vi i4)]/\SH w w' [oW S9 (x7:List Int) [oS b c.length c.length],oX a (qaw a_1 B C D z k3 A) 31]) n ⟨_,_,F,rfl,h⟩ Z ?_);rintro m4 _ _ ⟨x7,i4,F,rfl,h⟩;rcases m4 with _|m4
 ·cases F
 refine X1 9 1 h Z (qk Z F ?_ ?_)<;>intro F
 ·refine X1 8 1 h Z ?_;obtain⟨_,_,F,he7,_,_,_,_,hp7,hq7,hr7,O⟩:=s4.ix F;obtain rfl:=qe4 hr7;refine zxe hp7 hq7 he7 Z (zp1 Z (zc 1 (O.below h.below) Z (X0 2 Z (qk Z F ?_ ?_))))<;>intro F
  ·refine X1 5 1 h Z ?_;obtain⟨_,_,F,he8,_,_,_,_,hp8,hq8,hr8,P⟩:=s4.ix F;obtain rfl:=qe4 hr8;refine zxe hp8 hq8 he8 Z (zp1 Z (zc 2 (P.below h.below) Z ?_));obtain⟨y9,_,F,X,_,_,_,_,hp9,hq9,rfl,Q⟩:=(h.sl 0 Z).1.ix F;refine zx hp9 hq9 ⟨X.1,qD X.2.1 (h.sl 0 Z).2⟩ Z (zc 0 Q Z (zp1 Z ?_));obtain⟨_,a6,F,f,_,_,_,_,i,k,rfl,R⟩:=(h.sl 0 Z).1.ix F;exact zx i k ⟨f.1,qD f.2.1 (h.sl 0 Z).2⟩ Z (qaV qa 0 0 (W64 (y9+1)) h Z a6 i k Z R Z Z Z Z Z Z Z fun _ h=>X0 7 Z (rK ⟨_,_,F,rfl,h⟩ Z))
  exact X0 7 Z (rK ⟨_,_,F,rfl,h⟩ Z)
 refine qv Z ?_;obtain rfl:=qb F;replace F:=hK4;refine X0 5 Z ?_;obtain⟨o5,F,I⟩:=qc F;refine qm ?_;replace h:=h.p [0] Z;refine rL (fun m e w'=>∃i5,qeP c x7 m i5=V o5/\e=[(9,oS b c.length c.length),(13,vi i5)]/\SH w w' [oW S9 (x7:List Int) [oS b c.length c.length]]) n ⟨_,F,rfl,h⟩ Z ?_;rintro m5 _ _ ⟨i5,F,rfl,h⟩;rcases m5 with _|m5
 ·cases F
 refine X0 8 Z (qk Z F ?_ ?_)<;>intro F
 ·refine X0 7 Z ?_;obtain⟨_,_,F,g,_,_,_,_,Y,a4,rfl,S⟩:=(h.sl 0 Z).1.ix F;refine zx Y a4 ⟨g.1,qD g.2.1 (h.sl 0 Z).2⟩ Z (zc 0 S Z (X0 2 Z (qk Z F ?_ ?_)))<;>intro F
  ·refine X0 4 Z ?_;obtain rfl:=qb F;replace F:=I;exact rb h F Z
  exact X0 7 Z (rK ⟨_,F,rfl,h⟩ Z)
 refine qv Z ?_;obtain rfl:=qb F;replace F:=I;exact X0 4 Z (rb h F Z)
def qgd(a_0:qan):Nat->Int->Option (Flow Bool Int)|0,_=>U|n+1,a=>bif decide (a<(a_0.Bk.length:Int)) then(idx a_0.Bk a).bind fun c=>(qaH n c 0 (W64 ((a_0.Am.length:Int)-1))).bind fun b=>bif (!b) then V (.ret false) else qgd a_0 n (W64 (a+1)) else V (.nxt a)
def qc8(a_0:qan):Nat->Int->Option (Flow Bool Int)|0,_=>U|n+1,a=>bif decide (a<(a_0.Am.length:Int)) then((idx a_0.Bq a).bind fun k=>(qaH n k 0 500).bind fun c=>bif (!c) then V true else(idx a_0.Bu a).bind fun l=>(qaH n l 0 1000).bind fun d=>V (!d)).bind fun b2=>bif b2 then V (.ret false) else bif (a==0) then(idx a_0.Am a).bind fun f=>bif (f != (-1)) then V (.ret false) else(idx a_0.Bu a).bind fun g=>bif (g != 0) then V (.ret false) else bif decide (a > 0) then(idx a_0.Am a).bind fun h=>(qaH n h 0 (W64 (a-1))).bind fun r1=>bif (!r1) then V (.ret false) else qc8 a_0 n (W64 (a+1)) else qc8 a_0 n (W64 (a+1)) else bif decide (a > 0) then(idx a_0.Am a).bind fun i=>(qaH n i 0 (W64 (a-1))).bind fun b=>bif (!b) then V (.ret false) else qc8 a_0 n (W64 (a+1)) else qc8 a_0 n (W64 (a+1)) else V (.nxt a)
def qle(n:Nat)(a_0:qan)(a_1:Int):Option Bool:=(bif decide ((a_0.Am.length:Int)<1) then V true else bif decide ((a_0.Am.length:Int) > 8) then V true else bif ((a_0.Bu.length:Int) != (a_0.Am.length:Int)) then V true else bif ((a_0.Bq.length:Int) != (a_0.Am.length:Int)) then V true else V ((a_0.Bk.length:Int) != a_1)).bind fun b1=>bif b1 then V false else(qc8 a_0 n 0).bind fun|.ret r=>V r|.nxt _=>(qgd a_0 n 0).bind fun|.ret r=>V r|.nxt _=>V true
theorem qqk{a_0:qan}{a_1}(C:Ro w a_0 cs1){r:Bool}(F:qle n a_0 a_1=V r):RetV prog 121 [oV qan cs1,vi a_1] w r:=by
 obtain⟨p1,s,x,u,y,k3,z,v,rfl,s1,s2,s3,s4⟩:=qbR C;refine zV 108 func121 Z fun h=>zSR (qC h Z Z fun _ a h=>X1 11 0 h Z ?_);obtain⟨B,i,_,F,c⟩:=bindE F;refine qay (fun e w'=>∃b1,B b1=V r/\e=[(2,vp a),(5,vi (a_0.Am.length:Int)),(37,.bool b1)]/\SH w w' [oX a (qgq a_0 p1 x y z s u k3 v) 196]) ?_ ?_
 ·refine X0 4 Z (qg (t:=13) F Z ?_ ?_)<;>intro F
  ·refine X0 25 Z ?_;obtain rfl:=qb F;exact rG ⟨_,c,rfl,h⟩ Z
  refine X0 6 Z (qg (t:=17) F Z ?_ ?_)<;>intro F
  ·refine X0 21 Z ?_;obtain rfl:=qb F;exact rG ⟨_,c,rfl,h⟩ Z
  refine X1 12 0 h Z (qg (t:=24) F Z ?_ ?_)<;>intro F
  ·refine X0 14 Z ?_;obtain rfl:=qb F;exact rG ⟨_,c,rfl,h⟩ Z
  refine X1 12 0 h Z (qg (t:=31) F Z ?_ ?_)<;>intro F
  ·refine X0 7 Z ?_;obtain rfl:=qb F;exact rG ⟨_,c,rfl,h⟩ Z
  refine X1 12 0 h Z ?_;obtain rfl:=qb F;exact rG ⟨_,c,rfl,h⟩ Z
 rintro _ _ ⟨b1,F,rfl,h⟩;subst i;refine qk Z F ?_ ?_<;>intro F
 ·exact X0 4 Z (rb h F Z)
 refine X0 6 Z ?_;obtain⟨o1,F,b⟩:=qc F;refine qm (rL (fun m e w'=>∃p,qc8 a_0 m p=V o1/\e=[(2,vp a),(5,vi (a_0.Am.length:Int)),(6,vi p)]/\SH w w' [oX a (qgq a_0 p1 x y z s u k3 v) 196]) n ⟨_,F,rfl,h⟩ Z ?_);rintro m1 _ _ ⟨p,F,rfl,h⟩;rcases m1 with _|m1
 ·cases F
 refine X0 7 Z (qk Z F ?_ ?_)<;>intro F
 ·refine X0 5 Z ?_;obtain⟨A,g,_,F,d⟩:=bindE F;refine qay (fun e w'=>∃b2,A b2=V o1/\e=[(2,vp a),(5,vi (a_0.Am.length:Int)),(6,vi p),(58,.bool b2)]/\SH w w' [oX a (qgq a_0 p1 x y z s u k3 v) 196]) ?_ ?_
  ·refine X1 4 0 h Z ?_;obtain⟨_,_,F,O,_,_,_,_,X,a8,rfl,k⟩:=s3.ix F;refine zxe X a8 O Z (zc 0 (k.below h.below) Z (zcB h F qaq Z fun _ _ h F=>zp2 Z (qg (t:=50) F Z ?_ ?_)))<;>intro F
   ·refine X0 9 Z ?_;obtain rfl:=qb F;exact rG ⟨_,d,rfl,h⟩ Z
   refine X1 7 0 h Z ?_;obtain⟨_,_,F,P,_,_,_,_,Y,a9,rfl,l⟩:=s2.ix F;refine zxe Y a9 P Z (X0 1 Z (zc 0 (l.below h.below) Z (X0 1 Z (zcB h F qaq Z fun _ _ h F=>X0 4 Z ?_))));obtain rfl:=qb F;exact rG ⟨_,d,rfl,h⟩ Z
  rintro _ _ ⟨b2,F,rfl,h⟩;subst g;refine qk Z F ?_ ?_<;>intro F
  ·refine X0 4 Z ?_;obtain rfl:=qb F;replace F:=b;exact rb h F Z
  refine X0 6 Z (qg (t:=61) F Z ?_ ?_)<;>intro F
  ·refine X1 7 0 h Z ?_;obtain⟨_,_,F,K,_,_,_,_,R,a4,rfl,D⟩:=s1.ix F;refine zxe R a4 K Z (X0 1 Z (zc 0 (D.below h.below) Z (X0 4 Z (qg (t:=68) F Z ?_ ?_))))<;>intro F
   ·refine X0 25 Z (qb5 Z Z (X0 4 Z ?_));obtain rfl:=qb F;replace F:=b;exact rb h F Z
   refine X1 7 0 h Z ?_;obtain⟨_,_,F,L,_,_,_,_,S,a5,rfl,H⟩:=s2.ix F;refine zxe S a5 L Z (X0 1 Z (zc 0 (H.below h.below) Z (X0 6 Z (qg (t:=77) F Z ?_ ?_))))<;>intro F
   ·refine X0 15 Z (qb5 Z Z (X0 4 Z ?_));obtain rfl:=qb F;replace F:=b;exact rb h F Z
   refine X0 6 Z (qg (t:=80) F Z ?_ ?_)<;>intro F
   ·refine X1 7 0 h Z ?_;obtain⟨_,_,F,M,_,_,_,_,T,a6,rfl,I⟩:=s1.ix F;refine zxe T a6 M Z (X0 1 Z (zc 0 (I.below h.below) Z (X0 5 Z (zcB h F qaq Z fun _ _ h F=>X0 6 Z (qk Z F ?_ ?_)))))<;>intro F
    ·refine X0 4 Z ?_;obtain rfl:=qb F;replace F:=b;exact rb h F Z
    exact X0 7 Z (rK ⟨_,F,rfl,h⟩ Z)
   exact X0 13 Z (qbe Z Z (X0 7 Z (rK ⟨_,F,rfl,h⟩ Z)))
  refine X0 22 Z (qg (t:=80) F Z ?_ ?_)<;>intro F
  ·refine X1 7 0 h Z ?_;obtain⟨_,_,F,N,_,_,_,_,W,a7,rfl,J⟩:=s1.ix F;refine zxe W a7 N Z (X0 1 Z (zc 0 (J.below h.below) Z (X0 5 Z (zcB h F qaq Z fun _ _ h F=>X0 6 Z (qk Z F ?_ ?_)))))<;>intro F
   ·refine X0 4 Z ?_;obtain rfl:=qb F;replace F:=b;exact rb h F Z
   exact X0 7 Z (rK ⟨_,F,rfl,h⟩ Z)
  exact X0 13 Z (qbe Z Z (X0 7 Z (rK ⟨_,F,rfl,h⟩ Z)))
 refine qv Z ?_;obtain rfl:=qb F;replace F:=b;refine X0 5 Z ?_;obtain⟨o3,F,f⟩:=qc F;refine qm (rL (fun m e w'=>∃i2,qgd a_0 m i2=V o3/\e=[(2,vp a),(5,vi (a_0.Am.length:Int)),(7,vi i2)]/\SH w w' [oX a (qgq a_0 p1 x y z s u k3 v) 196]) n ⟨_,F,rfl,h⟩ Z ?_);rintro m2 _ _ ⟨i2,F,rfl,h⟩;rcases m2 with _|m2
 ·cases F
 refine X1 9 0 h Z (qk Z F ?_ ?_)<;>intro F
 ·refine X1 8 0 h Z ?_;obtain⟨_,_,F,Q,_,_,_,_,a3,b4,rfl,o⟩:=s4.ix F;refine zxe a3 b4 Q Z (zc 0 (o.below h.below) Z (zp2 Z (zcB h F qaq Z fun _ _ h F=>X0 2 Z (qk Z F ?_ ?_))))<;>intro F
  ·refine X0 4 Z ?_;obtain rfl:=qb F;replace F:=f;exact rb h F Z
  exact X0 7 Z (rK ⟨_,F,rfl,h⟩ Z)
 refine qv Z ?_;obtain rfl:=qb F;replace F:=f;exact X0 4 Z (rb h F Z)
def qc5(c:Int)(b:qH):Nat->(List Tl05Place)->Int->Option ((List Tl05Place)×Int)|0,_,_=>U|n+1,d,a=>bif decide (a<(b.Ak.length:Int)) then(idx b.Ak a).bind fun g=>(appS d ([(⟨c,a,g,(a==(W64 ((b.Ak.length:Int)-1)))⟩:Tl05Place)]:List Tl05Place)).bind fun f=>qc5 c b n f (W64 (a+1)) else V (d,a)
def qc2(a_0:qh):Nat->(List Tl05Place)->Int->Option ((List Tl05Place)×Int)|0,_,_=>U|n+1,b,a=>bif decide (a<(a_0.Aj.length:Int)) then(idx a_0.Aj a).bind fun d=>(idx a_0.Aj a).bind fun f=>(appS b ([(⟨(-1),a,d.Bz,(f.Bv==1)⟩:Tl05Place)]:List Tl05Place)).bind fun c=>qc2 a_0 n c (W64 (a+1)) else V (b,a)
def qc1(a_0:qh):Nat->(List Tl05Place)->Int->Option ((List Tl05Place)×Int)|0,_,_=>U|n+1,b,a=>bif decide (a<(a_0.Ab.length:Int)) then(idx a_0.Ab a).bind fun d=>(qc5 a d n b 0).bind fun(c,_)=>qc1 a_0 n c (W64 (a+1)) else V (b,a)
def qce(n:Nat)(a_0:qh):Option (List Tl05Place):=(qc1 a_0 n ([]:List Tl05Place) 0).bind fun(a,_)=>(qc2 a_0 n a 0).bind fun(b,_)=>V b
theorem qb4{a_0:qh}(v:Ro w a_0 cs1){r:(List Tl05Place)}(F:qce n a_0=V r):RetV prog 150 [oV qh cs1] w r:=by
 obtain⟨p1,T,p2,W,p3,k3,rfl,s1,_,s3⟩:=qaX v;refine zV 69 func150 Z fun h=>zSR (qC h Z Z fun _ a h=>X0 4 Z (qq qa [] _ ([]:List Tl05Place) h Z Z Z Z Z Z Z Z Z trivial Z fun _ _ _ h=>X0 7 Z ?_));obtain⟨o1,F,s⟩:=qc F;refine qm (rL (fun m e w'=>∃S2 p5 g X x1 d,qc1 a_0 m x1 d=V o1/\e=[(1,vp a),(3,oS p5 g X),(4,vi d)]/\SH w w' [oW S2 (x1:List Tl05Place) [oS p5 g X],oX a (qaw a_0 p1 p2 p3 T W k3) 31]) n ⟨_,_,_,_,_,_,F,rfl,h⟩ Z ?_);rintro m1 _ _ ⟨S2,p5,g,X,x1,d,F,rfl,h⟩;obtain rfl:=(h.sl 0 Z).2;rcases m1 with _|m1
 ·cases F
 refine X1 9 1 h Z (qk Z F ?_ ?_)<;>intro F
 ·refine X1 8 1 h Z ?_;obtain⟨p,_,F,B,_,_,_,_,I,M,Q,x⟩:=s1.ix F;obtain⟨p6,k5,rfl,s4⟩:=qaJ Q;refine zxe I M B Z (zp1 Z (zc 2 (x.below h.below) Z (X0 6 Z ?_)));obtain⟨o2,F,t⟩:=qc F;refine qm (rL (fun m e w'=>∃S3 p7 i Y x2 f,qc5 d p m x2 f=V o2/\e=[(1,vp a),(3,oS p7 i Y),(4,vi d),(5,oS p6 p.Ak.length k5),(6,vi f)]/\SH w w' [oW S3 (x2:List Tl05Place) [oS p7 i Y],oX a (qaw a_0 p1 p2 p3 T W k3) 31]) m1 ⟨_,_,_,_,_,_,F,rfl,h⟩ Z ?_);rintro m2 _ _ ⟨S3,p7,i,Y,x2,f,F,rfl,h⟩;obtain rfl:=(h.sl 0 Z).2;rcases m2 with _|m2
  ·cases F
  refine X0 8 Z (qk Z F ?_ ?_)<;>intro F
  ·refine X0 9 Z ?_;obtain⟨y2,_,F,C,_,_,_,_,J,N,rfl,y⟩:=s4.ix F;refine zxe J N C Z (zc 0 (y.below h.below) Z (zp5 Z (r_v (qA qa [0,1,2,3] [.tmp 29,.tmp 30,.tmp 34,.tmp 39] Z Z Z Z Z Z Z Z) Z (qq qa [.tmp 40] _ ([(⟨d,f,y2,(f==(W64 ((p.Ak.length:Int)-1)))⟩:Tl05Place)]:List Tl05Place) h Z Z Z Z Z Z Z Z Z ⟨(qfT (⟨d,f,y2,(f==(W64 ((p.Ak.length:Int)-1)))⟩:Tl05Place)),G⟩ Z fun _ _ _ h=>?_))));obtain⟨_,b,F⟩:=qc F;obtain⟨g1,b⟩:=qE b;refine qaB qa 1 h Z (h.sl 0 Z).1 (h.sl 0 Z).2 Z Z Z Z Z Z Z Z Z g1 b Z fun _ _ _ _ h=>X0 8 Z ?_;replace h:=h.p [1,2] Z;exact rK ⟨_,_,_,_,_,_,F,rfl,h⟩ Z
  refine qv Z ?_;obtain rfl:=qb F;replace F:=t;exact X0 6 Z (rK ⟨_,_,_,_,_,_,F,rfl,h⟩ Z)
 refine qv Z ?_;obtain rfl:=qb F;replace F:=s;refine X0 5 Z ?_;obtain⟨o3,F,u⟩:=qc F;refine qm (rL (fun m e w'=>∃S6 l k k8 x4 o,qc2 a_0 m x4 o=V o3/\e=[(1,vp a),(3,oS l k k8),(7,vi o)]/\SH w w' [oW S6 (x4:List Tl05Place) [oS l k k8],oX a (qaw a_0 p1 p2 p3 T W k3) 31]) n ⟨_,_,_,_,_,_,F,rfl,h⟩ Z ?_);rintro m3 _ _ ⟨S6,l,k,k8,x4,o,F,rfl,h⟩;obtain rfl:=(h.sl 0 Z).2;rcases m3 with _|m3
 ·cases F
 refine X1 9 1 h Z (qk Z F ?_ ?_)<;>intro F
 ·refine zKSB (rA [] [1] h Z fun _ h=>M1 31 [0,1,2,3,4] 0 (h.p [1] Z) Z ?_);obtain⟨y3,_,F,D,_,_,_,_,K,O,R,z⟩:=s3.ix F;obtain rfl:=qe4 R;refine Ae 5 63 K O D (h.p [1] Z) Z (M0 127 [6] (h.p [1] Z) Z (Al 7 255 2 z (h.p [1] Z) Z (M1 2047 [8,9,10] 0 (h.p [1] Z) Z ?_)));obtain⟨y4,_,F,H,_,_,_,_,L,P,S,A⟩:=s3.ix F;obtain rfl:=qe4 S;refine Ae 11 4095 L P H (h.p [1] Z) Z (M0 8191 [12] (h.p [1] Z) Z (Al 13 16383 1 A (h.p [1] Z) Z (M0 32767 [14] (h.p [1] Z) Z (Aw 15 65535 (fun w' hw=>qA qa [0,1,2,3] [.const (vi (-1)),.tmp 51,.tmp 57,.tmp 64] Z Z Z Z Z Z Z Z) (h.p [1] Z) Z ?_))));refine Ao 16 131071 Z (qq qa [.tmp 65] _ ([(⟨(-1),o,y3.Bz,(y4.Bv==1)⟩:Tl05Place)]:List Tl05Place) h Z Z Z Z Z Z Z Z Z ⟨(qfT (⟨(-1),o,y3.Bz,(y4.Bv==1)⟩:Tl05Place)),G⟩ Z fun _ _ _ h=>Ag (h.p [2] Z) (Ao 17 262143 Z ?_));obtain⟨_,c,F⟩:=qc F;obtain⟨g2,c⟩:=qE c;refine qaB qa 1 h Z (h.sl 0 Z).1 (h.sl 0 Z).2 Z Z Z Z Z Z Z Z Z g2 c Z fun _ _ _ _ h=>G0 524287 [18] (h.p [2] Z) Z (Ad (X0 6 Z ?_));replace h:=h.p [1,2] Z;exact rK ⟨_,_,_,_,_,_,F,rfl,h⟩ Z
 refine qv Z ?_;obtain rfl:=qb F;replace F:=u;refine X0 5 Z ?_;obtain rfl:=qb F;exact rO 0 h Z ⟨rfl,G⟩
def qcO(net:Int)(r1:(List Tl05Place)):Nat->(List Int)->Int->Option ((List Int)×Int)|0,_,_=>U|n+1,b,a=>bif decide (a<(r1.length:Int)) then((idx r1 a).bind fun d=>bif (d.net==net) then(idx r1 a).bind fun f=>V (!f.drives) else V false).bind fun b1=>bif b1 then(appS b ([a]:List Int)).bind fun c=>qcO net r1 n c (W64 (a+1)) else qcO net r1 n b (W64 (a+1)) else V (b,a)
def qfW(n:Nat)(d:qh)(net:Int):Option (List Int):=(qce n d).bind fun r1=>(qcO net r1 n ([]:List Int) 0).bind fun(a,_)=>V a
theorem qhC{d:qh}{net}(i:Ro w d cs1){r:(List Int)}(F:qfW n d net=V r):RetV prog 122 [oV qh cs1,vi net] w r:=by
 obtain⟨_,_,_,_,_,_,rfl,_,_,_⟩:=qaX i;refine zV 37 func122 Z fun h=>zSR (qC h Z Z fun _ _ h=>X0 4 Z (qq qa [] _ ([]:List Int) h Z Z Z Z Z Z Z Z Z trivial Z fun _ _ _ h=>X1 5 1 h Z (zcL h F (qb4 (h.old i)) Z fun r1 _ S2 v u h F=>X0 7 Z ?_)));obtain⟨o1,F,z⟩:=qc F;refine qm ?_;replace h:=h.p [0,1] Z;refine rL (fun m e w'=>∃y s b p c o,qcO net r1 m c o=V o1/\e=[(1,vi net),(5,oS s b p),(6,oS v r1.length u),(7,vi o)]/\SH w w' [oW S2 (r1:List Tl05Place) [oS v r1.length u],oW y (c:List Int) [oS s b p]]) n ⟨_,_,_,_,_,_,F,rfl,h⟩ Z ?_;rintro L _ _ ⟨y,s,b,p,c,o,F,rfl,h⟩;obtain rfl:=(h.sl 1 Z).2;rcases L with _|L
 ·cases F
 refine X0 8 Z (qk Z F ?_ ?_)<;>intro F
 ·refine X0 4 Z ?_;obtain⟨x,g,_,F,f⟩:=bindE F;refine qay (fun e w'=>∃b1,x b1=V o1/\e=[(1,vi net),(5,oS s c.length p),(6,oS v r1.length u),(7,vi o),(31,.bool b1)]/\SH w w' [oW S2 (r1:List Tl05Place) [oS v r1.length u],oW y (c:List Int) [oS s c.length p]]) ?_ ?_
  ·refine X0 3 Z ?_;obtain⟨_,_,F,k,_,_,_,_,C,H,J,A⟩:=(h.sl 0 Z).1.ix F;obtain rfl:=qby J;refine zx C H ⟨k.1,qD k.2.1 (h.sl 0 Z).2⟩ Z (zp1 Z (zc 2 A Z (zp3 Z (qg (t:=24) F Z ?_ ?_))))<;>intro F
   ·refine X0 5 Z ?_;obtain⟨_,_,F,l,_,_,_,_,D,I,K,B⟩:=(h.sl 0 Z).1.ix F;obtain rfl:=qby K;refine zx D I ⟨l.1,qD l.2.1 (h.sl 0 Z).2⟩ Z (X0 3 Z (zc 3 B Z (X0 4 Z ?_)));obtain rfl:=qb F;exact rG ⟨_,f,rfl,h⟩ Z
   refine X0 8 Z ?_;obtain rfl:=qb F;exact rG ⟨_,f,rfl,h⟩ Z
  rintro _ _ ⟨b1,F,rfl,h⟩;subst g;refine qk Z F ?_ ?_<;>intro F
  ·refine X0 3 Z (qq qa [.tmp 33] _ ([o]:List Int) h Z Z Z Z Z Z Z Z Z ⟨rfl,G⟩ Z fun _ _ _ h=>?_);obtain⟨_,a,F⟩:=qc F;obtain⟨M,a⟩:=qE a;refine qaB qa 2 h Z (h.sl 0 Z).1 (h.sl 0 Z).2 Z Z Z Z Z Z Z Z Z M a Z fun _ _ _ _ h=>X0 8 Z ?_;replace h:=h.p [1,2] Z;exact rK ⟨_,_,_,_,_,_,F,rfl,h⟩ Z
  exact X0 7 Z (rK ⟨_,_,_,_,_,_,F,rfl,h⟩ Z)
 refine qv Z ?_;obtain rfl:=qb F;replace F:=z;refine X0 5 Z ?_;obtain rfl:=qb F;exact rO 1 h Z ⟨rfl,G⟩
def qfs(b:qe):Nat->Int->Option (Flow Bool Int)|0,_=>U|n+1,a=>bif decide (a<(b.Af.length:Int)) then(idx b.Af a).bind fun d=>(qfW n (⟨b.Aa.Ab,b.Aa.Ak,b.Aa.Aj⟩:qh) a).bind fun r1=>(qle n d (r1.length:Int)).bind fun c=>bif (!c) then V (.ret false) else qfs b n (W64 (a+1)) else V (.nxt a)
def qdW(n:Nat)(b:qe):Option Bool:=((qju n (⟨b.Aq.As⟩:qw) (⟨b.Aa.Ab,b.Aa.Ak,b.Aa.Aj⟩:qh)).bind fun a=>bif (!a) then V true else V ((b.Af.length:Int) != (b.Aa.Ak.length:Int))).bind fun b1=>bif b1 then V false else(qfs b n 0).bind fun|.ret r=>V r|.nxt _=>V true
theorem qfo{b:qe}(i:Ro w b cs1){r:Bool}(F:qdW n b=V r):RetV prog 51 [oV qe cs1] w r:=by
 obtain⟨p1,v,B,x,C,k3,D,y,H,z,rfl,s1,s2,I,J,K⟩:=qO i;refine zV 39 func51 Z fun h=>zSR (qC h Z Z fun _ a h=>X0 4 Z ?_);obtain⟨g,f,_,F,d⟩:=bindE F;refine qay (fun e w'=>∃b1,g b1=V r/\e=[(1,vp a),(19,.bool b1)]/\SH w w' [oX a (qG b p1 B C D H v x k3 y z) 34]) ?_ ?_
 ·refine X2 5 0 0 h Z (zcB h F (qoZ (qi7 _ (h.oldS s1)) (qaY _ (h.oldS s2) (h.oldS I) (h.oldS J))) Z fun _ _ h F=>zp2 Z (qg (t:=10) F Z ?_ ?_))<;>intro F
  ·refine X0 10 Z ?_;obtain rfl:=qb F;exact rG ⟨_,d,rfl,h⟩ Z
  refine X2 18 0 0 h Z ?_;obtain rfl:=qb F;exact rG ⟨_,d,rfl,h⟩ Z
 rintro _ _ ⟨b1,F,rfl,h⟩;subst f;refine qk Z F ?_ ?_<;>intro F
 ·exact X0 4 Z (rb h F Z)
 refine X0 6 Z ?_;obtain⟨o1,F,c⟩:=qc F;refine qm (rL (fun m e w'=>∃u,qfs b m u=V o1/\e=[(1,vp a),(3,vi u)]/\SH w w' [oX a (qG b p1 B C D H v x k3 y z) 34]) n ⟨_,F,rfl,h⟩ Z ?_);rintro A _ _ ⟨u,F,rfl,h⟩;rcases A with _|A
 ·cases F
 refine X1 9 0 h Z (qk Z F ?_ ?_)<;>intro F
 ·refine X0 4 Z (rA [] [0] h Z fun _ h=>M1 7 [0,1,2] 0 (h.p [0] Z) Z ?_);obtain⟨P,_,F,l,_,_,_,_,o,p,s,k⟩:=K.ix F;obtain⟨_,_,_,_,_,_,_,_,rfl,L,M,N,O⟩:=qbR s;refine Ae 3 15 o p l (h.p [0] Z) Z (Al 4 31 0 k (h.p [0] Z) Z (M1 255 [5,6,7] 0 (h.p [0] Z) Z (Ao 8 511 Z (zcL h F (qhC (qaY _ (h.oldS s2) (h.oldS I) (h.oldS J))) Z fun _ _ _ _ _ h F=>G0 1023 [9] (h.p [1] Z) Z (Ao 10 2047 Z (zcB h F (qqk (qrr P (h.oldS L) (h.oldS M) (h.oldS N) (h.oldS O))) Z fun _ _ h F=>G0 4095 [11] (h.p [1] Z) Z (Ad (qk Z F ?_ ?_))))))))<;>intro F
  ·refine X0 4 Z ?_;obtain rfl:=qb F;replace F:=c;exact rb h F Z
  refine X0 7 Z ?_;replace h:=h.p [1] Z;exact rK ⟨_,F,rfl,h⟩ Z
 refine qv Z ?_;obtain rfl:=qb F;replace F:=c;exact X0 4 Z (rb h F Z)
def qaZ(_:Nat)(x:Int)(b:Int)(a:Int):Option Bool:=bif decide (x>=b) then V (decide (x<=a)) else V false
theorem qaK{x low high}  {r:Bool}(F:qaZ n x low high=V r):RetV prog 58 [vi x,vi low,vi high] w r:=by
 refine zV 15 func58 Z fun h=>X0 10 Z (qg (t:=10) F Z ?_ ?_)<;>intro F
 ·exact X0 9 Z (rb h F Z)
 exact X0 6 Z (rb h F Z)
def qiO(_:Nat)(s cutset:ByteArray):Option ByteArray:=if s.size<=9223372036854775807/\cutset.size<4294967281/\cutset.data.toList.all (fun b=>decide (b.toNat<128))=true then V ⟨(Lib.trimS s.data.toList cutset.data.toList).toArray⟩ else U
theorem qpL{s cutset}{r:ByteArray}(F:qiO n s cutset=V r):RetV prog 197 [.string s,.string cutset] w r:=by
 unfold qiO at F;split at F
 ·rename_i hh
  obtain rfl:=qb F;refine(Tryz.strings_Trim_any s cutset w hh.1 hh.2.1 hh.2.2).mono ?_;rintro e w' ⟨rfl,a⟩;exact⟨_,rfl,a,[.string _],rfl,qr3 _ _⟩
 cases F
def qgW(_:Nat)(s:ByteArray)(c:(IntK .u8)):Option Int:=V (Lib.indexByte s.data.toList c.val.toNat.toUInt8)
theorem qmS{s}{c:(IntK .u8)}{r:Int}(F:qgW n s c=V r):RetV prog 198 [.string s,.int .u8 c.val] w r:=by
 obtain rfl:=qb F;refine(Tryz.strings_IndexByte s c.val w).mono ?_;rintro e w' ⟨rfl,rfl⟩;exact⟨_,rfl,Below.refl _ _,[vi _],rfl,qvQ _ _⟩
def qiE(n:Nat)(s:ByteArray):Option Bool:=(qaZ n (s.size:Int) 1 8).bind fun r1=>bif r1 then(qiO n s (⟨#[97,98,99,100,101,102,103,104,105,106,107,108,109,110,111,112,113,114,115,116,117,118,119,120,121,122,48,49,50,51,52,53,54,55,56,57]⟩:ByteArray)).bind fun a=>bif (a.toList==(⟨#[]⟩:ByteArray).toList) then(atS s 0).bind fun c=>(qgW n (⟨#[97,98,99,100,101,102,103,104,105,106,107,108,109,110,111,112,113,114,115,116,117,118,119,120,121,122]⟩:ByteArray) (⟨c⟩:IntK .u8)).bind fun b=>V (decide (b>=0)) else V false else V false
theorem qkP{s}  {r:Bool}(F:qiE n s=V r):RetV prog 126 [.string s] w r:=by
 refine zV 17 func126 Z fun h=>X0 8 Z (zcB h F qaK Z fun _ _ h F=>zp1 Z (qg (t:=6) F Z ?_ ?_))<;>intro F
 ·refine X0 3 Z (zcS h F qpL Z fun _ _ h F=>X0 4 Z (qg (t:=11) F Z ?_ ?_))<;>intro F
  ·refine X0 3 Z ?_;obtain⟨_,a,F⟩:=qc F;have b:=qmM a;exact r_v (qnd qa b Z Z Z Z) Z (X0 1 Z (zcI h F qmS Z fun _ _ h F=>X0 5 Z (rb h F Z)))
  exact X0 7 Z (rb h F Z)
 exact X0 12 Z (rb h F Z)
def qcK(_:Nat)(list:(List qaA)):Option Int:=V (list.length:Int)
theorem qiw{list:(List qaA)}(a:Ro w list cs1){r:Int}(F:qcK n list=V r):RetV prog 206 [oV (List qaA) cs1] w r:=by
 obtain⟨_,_,rfl,_⟩:=a;exact zV 5 func206 Z fun h=>X0 10 Z (ri h F Z)
def qcm(s:(List ByteArray))(v:ByteArray):Nat->Int->Option (Flow Int Int)|0,_=>U|n+1,a=>bif decide (a<(s.length:Int)) then(idx s a).bind fun b=>bif (v.toList==b.toList) then V (.ret a) else qcm s v n (W64 (a+1)) else V (.nxt a)
def qf1(n:Nat)(s:(List ByteArray))(v:ByteArray):Option Int:=(qcm s v n 0).bind fun|.ret r=>V r|.nxt _=>V (-1)
theorem ql3{s:(List ByteArray)}{v}(b:Ro w s cs1){r:Int}(F:qf1 n s v=V r):RetV prog 288 [oV (List ByteArray) cs1,.string v] w r:=by
 obtain⟨p1,l,rfl,s1⟩:=b;refine zV 19 func288 Z fun h=>X0 11 Z ?_;obtain⟨o1,F,a⟩:=qc F;refine qm (rL (fun m e w'=>∃i,qcm s v m i=V o1/\e=[(0,oS p1 s.length l),(1,.string v),(7,vi (s.length:Int)),(8,vi i)]/\SH w w' []) n ⟨_,F,rfl,h⟩ Z ?_);rintro k _ _ ⟨i,F,rfl,h⟩;rcases k with _|k
 ·cases F
 refine X0 5 Z (qk Z F ?_ ?_)<;>intro F
 ·refine X0 13 Z ?_;obtain⟨_,_,F,d,_,_,_,_,f,g,rfl,c⟩:=s1.ix F;refine zxe f g d Z (zc 0 (c.below h.below) Z (X0 2 Z (qk Z F ?_ ?_)))<;>intro F
  ·refine X0 5 Z ?_;obtain rfl:=qb F;replace F:=a;exact ri h F Z
  exact X0 6 Z (rK ⟨_,F,rfl,h⟩ Z)
 refine qv Z ?_;obtain rfl:=qb F;replace F:=a;exact X0 4 Z (ri h F Z)
def qeB(n:Nat)(s:(List ByteArray))(v:ByteArray):Option Bool:=(qf1 n s v).bind fun r1=>V (decide (r1>=0))
theorem qkT{s:(List ByteArray)}{v}(a:Ro w s cs1){r:Bool}(F:qeB n s v=V r):RetV prog 274 [oV (List ByteArray) cs1,.string v] w r:=by
 obtain⟨_,_,rfl,s1⟩:=a;exact zV 9 func274 Z fun h=>X0 8 Z (zcI h F (ql3 ⟨_,_,rfl,(h.oldS s1)⟩) Z fun _ _ h F=>X0 3 Z (rb h F Z))
def qeR(list:(List ByteArray)):Nat->Int->Option (Flow Bool Int)|0,_=>U|n+1,a=>bif decide (a<(list.length:Int)) then(idx list a).bind fun b=>(qiE n b).bind fun r1=>bif (!r1) then V (.ret false) else(subS list 0 a).bind fun d=>(qeB n d b).bind fun c=>bif c then V (.ret false) else qeR list n (W64 (a+1)) else V (.nxt a)
def qeJ(n:Nat)(list:(List ByteArray)):Option Bool:=(qeR list n 0).bind fun|.ret r=>V r|.nxt _=>V true
theorem qf9{list:(List ByteArray)}(f:Ro w list cs1){r:Bool}(F:qeJ n list=V r):RetV prog 243 [oV (List ByteArray) cs1] w r:=by
 obtain⟨p1,s,rfl,s1⟩:=f;refine zV 23 func243 Z fun h=>X0 11 Z ?_;obtain⟨o1,F,a⟩:=qc F;refine qm (rL (fun m e w'=>∃p,qeR list m p=V o1/\e=[(0,oS p1 list.length s),(5,oS p1 list.length s),(6,vi (list.length:Int)),(7,vi p)]/\SH w w' []) n ⟨_,F,rfl,h⟩ Z ?_);rintro u _ _ ⟨p,F,rfl,h⟩;rcases u with _|u
 ·cases F
 refine X0 5 Z (qk Z F ?_ ?_)<;>intro F
 ·refine X0 6 Z ?_;obtain⟨_,_,F,i,_,_,_,_,l,o,rfl,g⟩:=s1.ix F;refine zxe l o i Z (zc 0 (g.below h.below) Z (X0 6 Z (zcB h F qkP Z fun _ _ h F=>zp2 Z (qg (t:=15) F Z ?_ ?_))))<;>intro F
  ·refine X0 7 Z (qb5 Z Z (X0 4 Z ?_));obtain rfl:=qb F;replace F:=a;exact rb h F Z
  refine X0 5 Z ?_;obtain⟨_,d,F⟩:=qc F;obtain⟨_,_,c,b,k,v⟩:=qs2 (h.oldS s1) d;refine r_v (qqg qa Z Z Z (qs4 v Z) c b k Z Z Z Z) Z ?_;have s2:=qs0 s1 d c b;refine X0 3 Z (zcB h F (qkT ⟨_,_,rfl,(h.oldS s2)⟩) Z fun _ _ h F=>X0 2 Z (qk Z F ?_ ?_))<;>intro F
  ·refine X0 4 Z ?_;obtain rfl:=qb F;replace F:=a;exact rb h F Z
  exact X0 6 Z (rK ⟨_,F,rfl,h⟩ Z)
 refine qv Z ?_;obtain rfl:=qb F;replace F:=a;exact X0 4 Z (rb h F Z)
def qdq(list:(List qaA)):Nat->(List ByteArray)->Int->Option (Flow Bool ((List ByteArray)×Int))|0,_,_=>U|n+1,c,a=>bif decide (a<(list.length:Int)) then(idx list a).bind fun b=>(appS c ([b.Bi]:List ByteArray)).bind fun d=>bif (a==(W64 ((list.length:Int)-1))) then bif (b.Bv != 2) then V (.ret false) else bif (b.Bq != 0) then V (.ret false) else bif b.Br then V (.ret false) else qdq list n d (W64 (a+1)) else bif (b.Bv != 1) then V (.ret false) else(qaZ n b.Bq 0 500).bind fun r1=>bif (!r1) then V (.ret false) else qdq list n d (W64 (a+1)) else V (.nxt (c,a))
def qj9(n:Nat)(list:(List qaA)):Option Bool:=(qdq list n ([]:List ByteArray) 0).bind fun|.ret r=>V r|.nxt (d,_)=>(qcK n list).bind fun a=>(qaZ n a 2 5).bind fun b=>bif b then(qeJ n d).bind fun c=>V c else V false
theorem qpE{list:(List qaA)}(d:Ro w list cs1){r:Bool}(F:qj9 n list=V r):RetV prog 271 [oV (List qaA) cs1] w r:=by
 obtain⟨p1,v,rfl,s1⟩:=d;refine zV 52 func271 Z fun h=>X0 15 Z ?_;replace h:=h.nil (α:=ByteArray);obtain⟨o1,F,a⟩:=qc F;refine qm (rL (fun m e w'=>∃S1 s c p u o,qdq list m u o=V o1/\e=[(0,oS p1 list.length v),(3,oS s c p),(6,oS p1 list.length v),(7,vi (list.length:Int)),(8,vi o)]/\SH w w' [oW S1 (u:List ByteArray) [oS s c p]]) n ⟨_,_,_,_,_,_,F,rfl,h⟩ Z ?_);rintro x _ _ ⟨S1,s,c,p,u,o,F,rfl,h⟩;obtain rfl:=(h.sl 0 Z).2;rcases x with _|x
 ·cases F
 refine X0 5 Z (qk Z F ?_ ?_)<;>intro F
 ·refine X0 6 Z ?_;obtain⟨z,_,F,g,_,_,_,_,i,k,l,f⟩:=s1.ix F;obtain rfl:=qfn l;refine zxe i k g Z (zc 0 (f.below h.below) Z (qj qa h Z Z Z fun _ _ h=>zp1 Z (zs 0 h Z fun _ h=>X1 6 0 h Z (qq qa [.tmp 15] _ ([z.Bi]:List ByteArray) h Z Z Z Z Z Z Z Z Z ⟨rfl,G⟩ Z fun _ _ _ h=>?_))));obtain⟨_,b,F⟩:=qc F;obtain⟨y,b⟩:=qE b;refine qaB qa 2 h Z (h.sl 0 Z).1 (h.sl 0 Z).2 Z Z Z Z Z Z Z Z Z y b Z fun _ _ _ _ h=>X0 10 Z (qk Z F ?_ ?_)<;>intro F
  ·refine X1 6 1 h Z (qg (t:=26) F Z ?_ ?_)<;>intro F
   ·refine X0 9 Z (qb5 Z Z (X0 4 Z ?_));obtain rfl:=qb F;replace F:=a;exact rb h F Z
   refine X1 8 1 h Z (qg (t:=31) F Z ?_ ?_)<;>intro F
   ·refine X0 4 Z (qb5 Z Z (X0 4 Z ?_));obtain rfl:=qb F;replace F:=a;exact rb h F Z
   refine X1 6 1 h Z (qk Z F ?_ ?_)<;>intro F
   ·refine X0 4 Z ?_;obtain rfl:=qb F;replace F:=a;exact rb h F Z
   refine X0 6 Z ?_;replace h:=h.p [2] Z;exact rK ⟨_,_,_,_,_,_,F,rfl,h⟩ Z
  refine X1 6 1 h Z (qg (t:=38) F Z ?_ ?_)<;>intro F
  ·refine X0 6 Z (qb5 Z Z (X0 4 Z ?_));obtain rfl:=qb F;replace F:=a;exact rb h F Z
  refine X1 5 1 h Z (zcB h F qaK Z fun _ _ h F=>X0 4 Z (qk Z F ?_ ?_))<;>intro F
  ·refine X0 4 Z ?_;obtain rfl:=qb F;replace F:=a;exact rb h F Z
  refine X0 6 Z ?_;replace h:=h.p [2] Z;exact rK ⟨_,_,_,_,_,_,F,rfl,h⟩ Z
 refine qv Z ?_;obtain rfl:=qb F;replace F:=a;refine X0 3 Z (zcI h F (qiw ⟨_,_,rfl,(h.oldS s1)⟩) Z fun _ _ h F=>zcB h F qaK Z fun _ _ h F=>zp1 Z (qg (t:=48) F Z ?_ ?_))<;>intro F
 ·exact X0 3 Z (zcB h F (qf9 (h.own 0 Z)) Z fun _ _ h F=>X0 3 Z (rb h F Z))
 exact X0 5 Z (rb h F Z)
def qeS(n:Nat)(c:qF):Option Int:=(qcK n c.Bg).bind fun r1=>V (W64 (r1-1))
theorem qhU{c:qF}(a:Ro w c cs1){r:Int}(F:qeS n c=V r):RetV prog 142 [oV qF cs1] w r:=by
 obtain⟨_,_,_,_,_,_,rfl,s1,_,_⟩:=qao a;exact zV 7 func142 Z fun h=>zSR (qC h Z Z fun _ _ h=>X1 6 0 h Z (zcI h F (qiw ⟨_,_,rfl,(h.oldS s1)⟩) Z fun _ _ h F=>X0 3 Z (ri h F Z)))
def qkh(_:Nat)(kind:Int):Option Bool:=bif (kind==4) then V true else V (kind==5)
theorem qpH{kind}  {r:Bool}(F:qkh n kind=V r):RetV prog 296 [vi kind] w r:=by
 refine zV 9 func296 Z fun h=>X0 9 Z (qg (t:=5) F Z ?_ ?_)<;>intro F
 ·exact X0 5 Z (rb h F Z)
 exact X0 7 Z (rb h F Z)
def qhs(n:Nat)(c:Int)(a:Int)(b:Int):Option Bool:=(qaZ n c a b).bind fun r1=>V (!r1)
theorem qnu{a_n k l p1}(a:Ro w (V k) [.pointer p1]){i}(b:Ro w (V l) [.pointer i]){r:Bool}(F:qhs n a_n k l=V r):RetV prog 158 [vi a_n,.pointer p1,.pointer i] w r:=by
 obtain⟨_,m,_,rfl,-,f,c⟩:=PtR.get a Z;obtain rfl:=f;obtain⟨_,o,_,rfl,-,g,d⟩:=PtR.get b Z;obtain rfl:=g;exact zV 10 func158 Z fun h=>X0 7 Z (zc 0 (c.below h.below) Z (zc 0 (d.below h.below) Z (zcB h F qaK Z fun _ _ h F=>X0 3 Z (rb h F Z))))
def qap(s:(List Int))(a:Int)(b:Int):Nat->Int->Option (Flow Int Int)|0,_=>U|n+1,c=>bif decide (c<(s.length:Int)) then(idx s c).bind fun d=>(qhs n d a b).bind fun r1=>bif r1 then V (.ret c) else qap s a b n (W64 (c+1)) else V (.nxt c)
def qa8(n:Nat)(s:(List Int))(a:Int)(b:Int):Option Int:=(qap s a b n 0).bind fun|.ret r=>V r|.nxt _=>V (-1)
theorem qgo{s:(List Int)}{a b}(g:Ro w s cs1){z}(d:Ro w (V a) [.pointer z]){A}(f:Ro w (V b) [.pointer A]){r:Int}(F:qa8 n s a b=V r):RetV prog 217 [oV (List Int) cs1,.func (.func 158) #[] #[.pointer z,.pointer A]] w r:=by
 obtain⟨p1,B,rfl,s1⟩:=g;obtain⟨b1,v,_,rfl,-,p,_⟩:=PtR.get d Z;obtain rfl:=p;obtain⟨b2,x,_,rfl,-,t,_⟩:=PtR.get f Z;obtain rfl:=t;refine zV 19 func217 Z fun h=>X0 11 Z ?_;obtain⟨o1,F,c⟩:=qc F;refine qm (rL (fun m e w'=>∃u,qap s a b m u=V o1/\e=[(0,oS p1 s.length B),(1,.func (.func 158) #[] #[.pointer (V ⟨b1,v,U⟩),.pointer (V ⟨b2,x,U⟩)]),(7,vi (s.length:Int)),(8,vi u)]/\SH w w' []) n ⟨_,F,rfl,h⟩ Z ?_);rintro y _ _ ⟨u,F,rfl,h⟩;rcases y with _|y
 ·cases F
 refine X0 5 Z (qk Z F ?_ ?_)<;>intro F
 ·refine X0 13 Z ?_;obtain⟨_,_,F,k,_,_,_,_,l,o,rfl,i⟩:=s1.ix F;refine zxe l o k Z (zc 0 (i.below h.below) Z (zcB h F (qnu (h.old d) (h.old f)) Z fun _ _ h F=>qbb (qk Z F ?_ ?_)))<;>intro F
  ·refine X0 5 Z ?_;obtain rfl:=qb F;replace F:=c;exact ri h F Z
  exact X0 6 Z (rK ⟨_,F,rfl,h⟩ Z)
 refine qv Z ?_;obtain rfl:=qb F;replace F:=c;exact X0 4 Z (ri h F Z)
def qbP(n:Nat)(s:(List Int))(a:Int)(b:Int):Option Bool:=(qa8 n s a b).bind fun r1=>V (decide (r1>=0))
theorem qfX{s:(List Int)}{a b}(f:Ro w s cs1){k}(c:Ro w (V a) [.pointer k]){l}(d:Ro w (V b) [.pointer l]){r:Bool}(F:qbP n s a b=V r):RetV prog 157 [oV (List Int) cs1,.func (.func 158) #[] #[.pointer k,.pointer l]] w r:=by
 obtain⟨_,_,rfl,s1⟩:=f;obtain⟨_,m,_,rfl,-,g,_⟩:=PtR.get c Z;obtain rfl:=g;obtain⟨_,o,_,rfl,-,i,_⟩:=PtR.get d Z;obtain rfl:=i;exact zV 9 func157 Z fun h=>X0 8 Z (zcI h F (qgo ⟨_,_,rfl,(h.oldS s1)⟩ (h.old c) (h.old d)) Z fun _ _ h F=>X0 3 Z (rb h F Z))
def qcb(n:Nat)(list:(List Int))(b:Int)(a:Int):Option Bool:=(qbP n list b a).bind fun r1=>V (!r1)
theorem qcv{list:(List Int)}{low high}(a:Ro w list cs1){r:Bool}(F:qcb n list low high=V r):RetV prog 78 [oV (List Int) cs1,vi low,vi high] w r:=by
 obtain⟨_,_,rfl,s1⟩:=a;exact zV 11 func78 Z fun h=>zSR (qC h Z Z fun _ _ h=>qC h Z Z fun _ _ h=>X0 6 Z (zcB h F (qfX ⟨_,_,rfl,(h.oldS s1)⟩ (qhb (x:=low) 1 h Z Z) (qhb (x:=high) 0 h Z Z)) Z fun _ _ h F=>X0 3 Z (rb h F Z)))
def qbI(_:Nat)(list:(List Int)):Option Int:=V (list.length:Int)
theorem qcQ{list:(List Int)}(a:Ro w list cs1){r:Int}(F:qbI n list=V r):RetV prog 129 [oV (List Int) cs1] w r:=by
 obtain⟨_,_,rfl,_⟩:=a;exact zV 5 func129 Z fun h=>X0 10 Z (ri h F Z)
def qbO(list:(List Int)):Nat->Int->Option (Flow Bool Int)|0,_=>U|n+1,a=>bif decide (a<(list.length:Int)) then(idx list (W64 (a-1))).bind fun b=>(idx list a).bind fun c=>bif decide (b>=c) then V (.ret false) else qbO list n (W64 (a+1)) else V (.nxt a)
def qfP(n:Nat)(list:(List Int)):Option Bool:=(qbO list n 1).bind fun|.ret r=>V r|.nxt _=>V true
theorem qjI{list:(List Int)}(b:Ro w list cs1){r:Bool}(F:qfP n list=V r):RetV prog 133 [oV (List Int) cs1] w r:=by
 obtain⟨p1,t,rfl,s1⟩:=b;refine zV 20 func133 Z fun h=>X0 9 Z ?_;obtain⟨o1,F,a⟩:=qc F;refine qm (rL (fun m e w'=>∃p,qbO list m p=V o1/\e=[(0,oS p1 list.length t),(3,vi p)]/\SH w w' []) n ⟨_,F,rfl,h⟩ Z ?_);rintro s _ _ ⟨p,F,rfl,h⟩;rcases s with _|s
 ·cases F
 refine X0 8 Z (qk Z F ?_ ?_)<;>intro F
 ·refine X0 4 Z (rD (zd3 Z ?_));obtain⟨_,_,F,f,_,_,_,_,i,l,rfl,c⟩:=s1.ix F;refine zdxe i l f Z (zdc 0 (c.below h.below) Z (zd2 Z ?_));obtain⟨_,_,F,g,_,_,_,_,k,o,rfl,d⟩:=s1.ix F;refine zdxe k o g Z (zdc 0 (d.below h.below) Z (zd1 Z (dN h fun _ h=>qk Z F ?_ ?_)))<;>intro F
  ·refine X0 4 Z ?_;obtain rfl:=qb F;replace F:=a;exact rb h F Z
  exact X0 7 Z (rK ⟨_,F,rfl,h⟩ Z)
 refine qv Z ?_;obtain rfl:=qb F;replace F:=a;exact X0 4 Z (rb h F Z)
def qjL(n:Nat)(list:(List Int)):Option Bool:=(qbI n list).bind fun r1=>(qaZ n r1 1 4).bind fun a=>bif a then(qcb n list 0 100000).bind fun b=>bif b then(qfP n list).bind fun c=>V c else V false else V false
theorem qm1{list:(List Int)}(a:Ro w list cs1){r:Bool}(F:qjL n list=V r):RetV prog 313 [oV (List Int) cs1] w r:=by
 obtain⟨_,_,rfl,s1⟩:=a;refine zV 14 func313 Z fun h=>X0 7 Z (zcI h F (qcQ ⟨_,_,rfl,(h.oldS s1)⟩) Z fun _ _ h F=>zcB h F qaK Z fun _ _ h F=>zp1 Z (qg (t:=6) F Z ?_ ?_))<;>intro F
 ·refine X0 3 Z (zcB h F (qcv ⟨_,_,rfl,(h.oldS s1)⟩) Z fun _ _ h F=>zp2 Z (qg (t:=10) F Z ?_ ?_))<;>intro F
  ·exact X0 3 Z (zcB h F (qjI ⟨_,_,rfl,(h.oldS s1)⟩) Z fun _ _ h F=>X0 3 Z (rb h F Z))
  exact X0 5 Z (rb h F Z)
 exact X0 9 Z (rb h F Z)
def qkf(n:Nat)(t:qI):Option Bool:=(qjL n t.Bn).bind fun r1=>bif r1 then(qjL n t.Bj).bind fun a=>bif a then bif ((t.Bf.length:Int)==(W64 ((t.Bn.length:Int)*(t.Bj.length:Int)))) then(qcb n t.Bf (-1000000) 1000000).bind fun b=>V b else V false else V false else V false
theorem qpN{t:qI}(a:Ro w t cs1){r:Bool}(F:qkf n t=V r):RetV prog 308 [oV qI cs1] w r:=by
 obtain⟨_,_,_,_,_,_,rfl,s1,s2,b⟩:=qbX a;refine zV 29 func308 Z fun h=>zSR (qC h Z Z fun _ _ h=>X1 6 0 h Z (zcB h F (qm1 ⟨_,_,rfl,(h.oldS s1)⟩) Z fun _ _ h F=>zp1 Z (qg (t:=6) F Z ?_ ?_)))<;>intro F
 ·refine X1 5 0 h Z (zcB h F (qm1 ⟨_,_,rfl,(h.oldS s2)⟩) Z fun _ _ h F=>zp2 Z (qg (t:=11) F Z ?_ ?_))<;>intro F
  ·refine X3 24 0 0 0 h Z (qg (t:=24) F Z ?_ ?_)<;>intro F
   ·exact X1 5 0 h Z (zcB h F (qcv ⟨_,_,rfl,(h.oldS b)⟩) Z fun _ _ h F=>X0 3 Z (rb h F Z))
   exact X0 6 Z (rb h F Z)
  exact X0 19 Z (rb h F Z)
 exact X0 24 Z (rb h F Z)
def qde(x:(List Int)):Nat->Int->Int->Option (Int×Int)|0,_,_=>U|n+1,b,a=>bif decide (a<(x.length:Int)) then(idx x a).bind fun c=>qde x n (if c<b then c else b) (W64 (a+1)) else V (b,a)
def qhQ(n:Nat)(x:(List Int)):Option Int:=(bif decide ((x.length:Int)<1) then U else V ()).bind fun _=>(idx x 0).bind fun b=>(qde x n b 1).bind fun(a,_)=>V a
theorem qnz{x:(List Int)}(f:Ro w x cs1){r:Int}(F:qhQ n x=V r):RetV prog 309 [oV (List Int) cs1] w r:=by
 obtain⟨p1,y,rfl,s1⟩:=f;refine zV 25 func309 Z fun h=>X0 11 Z ?_;obtain⟨b,a,_,F,d⟩:=bindE F;refine qay (fun e w'=>b ()=V r/\e=[(0,oS p1 x.length y)]/\SH w w' []) ?_ ?_
 ·refine qk Z F ?_ ?_<;>intro F
  ·refine qkJ ?_;cases F
  refine qfg ?_;obtain rfl:=qb F;exact rG ⟨d,rfl,h⟩ Z
 rintro _ _ ⟨F,rfl,h⟩;subst a;refine X0 3 Z ?_;obtain⟨_,_,F,k,_,_,_,_,o,s,rfl,g⟩:=s1.ix F;refine zxe o s k Z (zc 0 (g.below h.below) Z (X0 7 Z ?_));obtain⟨o1,F,c⟩:=qc F;refine qm (rL (fun m e w'=>∃u v,qde x m u v=V o1/\e=[(0,oS p1 x.length y),(3,vi u),(4,vi v)]/\SH w w' []) n ⟨_,_,F,rfl,h⟩ Z ?_);rintro z _ _ ⟨u,v,F,rfl,h⟩;rcases z with _|z
 ·cases F
 refine X0 8 Z (qk Z F ?_ ?_)<;>intro F
 ·refine X0 7 Z ?_;obtain⟨_,_,F,l,_,_,_,_,p,t,rfl,i⟩:=s1.ix F;exact zxe p t l Z (zc 0 (i.below h.below) Z (X0 9 Z (rK ⟨_,_,F,rfl,h⟩ Z)))
 refine qv Z ?_;obtain rfl:=qb F;replace F:=c;exact X0 5 Z (ri h F Z)

def qhF(n:Nat)(t:qI)(b:Bool):Option Bool:=(qkf n t).bind fun r1=>bif (!r1) then V true else bif b then(qhQ n t.Bf).bind fun a=>V (decide (a<0)) else V false
theorem qnv{t:qI}{g}(a:Ro w t cs1){f}(b:Ro w (V g) [.pointer f]){r:Bool}(F:qhF n t g=V r):RetV prog 307 [oV qI cs1,.pointer f] w r:=by
 obtain⟨_,_,_,_,_,_,rfl,_,_,k⟩:=qbX a;obtain⟨_,i,_,rfl,-,d,c⟩:=PtR.get b Z;obtain rfl:=d;refine zV 16 func307 Z fun h=>zSR (qC h Z Z fun _ _ h=>X1 5 0 h Z (zcB h F (qpN (h.old a)) Z fun _ _ h F=>zp2 Z (qg (t:=7) F Z ?_ ?_)))<;>intro F
 ·exact X0 10 Z (rb h F Z)
 refine X0 1 Z (zc 0 (c.below h.below) Z (X0 2 Z (qg (t:=9) F Z ?_ ?_)))<;>intro F
 ·exact X1 5 0 h Z (zcI h F (qnz ⟨_,_,rfl,(h.oldS k)⟩) Z fun _ _ h F=>X0 7 Z (rb h F Z))
 exact X0 9 Z (rb h F Z)
def qaa(s:(List qI))(a:Bool):Nat->Int->Option (Flow Int Int)|0,_=>U|n+1,b=>bif decide (b<(s.length:Int)) then(idx s b).bind fun c=>(qhF n c a).bind fun r1=>bif r1 then V (.ret b) else qaa s a n (W64 (b+1)) else V (.nxt b)
def qaP(n:Nat)(s:(List qI))(a:Bool):Option Int:=(qaa s a n 0).bind fun|.ret r=>V r|.nxt _=>V (-1)
theorem qfK{s:(List qI)}{a}(d:Ro w s cs1){v}(c:Ro w (V a) [.pointer v]){r:Int}(F:qaP n s a=V r):RetV prog 312 [oV (List qI) cs1,.func (.func 307) #[] #[.pointer v]] w r:=by
 obtain⟨p1,x,rfl,s1⟩:=d;obtain⟨b1,t,_,rfl,-,l,_⟩:=PtR.get c Z;obtain rfl:=l;refine zV 19 func312 Z fun h=>X0 11 Z ?_;obtain⟨o1,F,b⟩:=qc F;refine qm (rL (fun m e w'=>∃p,qaa s a m p=V o1/\e=[(0,oS p1 s.length x),(1,.func (.func 307) #[] #[.pointer (V ⟨b1,t,U⟩)]),(7,vi (s.length:Int)),(8,vi p)]/\SH w w' []) n ⟨_,F,rfl,h⟩ Z ?_);rintro u _ _ ⟨p,F,rfl,h⟩;rcases u with _|u
 ·cases F
 refine X0 5 Z (qk Z F ?_ ?_)<;>intro F
 ·refine X0 13 Z ?_;obtain⟨A,_,F,g,_,_,_,_,i,k,o,f⟩:=s1.ix F;obtain⟨_,_,_,_,_,_,rfl,s2,y,z⟩:=qbX o;refine zxe i k g Z (zc 0 (f.below h.below) Z (zcB h F (qnv (qir A (h.oldS s2) (h.oldS y) (h.oldS z)) (h.old c)) Z fun _ _ h F=>qbb (qk Z F ?_ ?_)))<;>intro F
  ·refine X0 5 Z ?_;obtain rfl:=qb F;replace F:=b;exact ri h F Z
  exact X0 6 Z (rK ⟨_,F,rfl,h⟩ Z)
 refine qv Z ?_;obtain rfl:=qb F;replace F:=b;exact X0 4 Z (ri h F Z)
def qbl(n:Nat)(s:(List qI))(a:Bool):Option Bool:=(qaP n s a).bind fun r1=>V (decide (r1>=0))
theorem qfa{s:(List qI)}{a}(c:Ro w s cs1){f}(b:Ro w (V a) [.pointer f]){r:Bool}(F:qbl n s a=V r):RetV prog 306 [oV (List qI) cs1,.func (.func 307) #[] #[.pointer f]] w r:=by
 obtain⟨_,_,rfl,s1⟩:=c;obtain⟨_,g,_,rfl,-,d,_⟩:=PtR.get b Z;obtain rfl:=d;exact zV 9 func306 Z fun h=>X0 8 Z (zcI h F (qfK ⟨_,_,rfl,(h.oldS s1)⟩ (h.old b)) Z fun _ _ h F=>X0 3 Z (rb h F Z))
def qgj(n:Nat)(list:(List qI))(a:Bool):Option Bool:=bif ((list.length:Int)==2) then(qbl n list a).bind fun r1=>V (!r1) else V false
theorem qi9{list:(List qI)}{positive}(a:Ro w list cs1){r:Bool}(F:qgj n list positive=V r):RetV prog 297 [oV (List qI) cs1,.bool positive] w r:=by
 obtain⟨_,_,rfl,s1⟩:=a;refine zV 14 func297 Z fun h=>zSR (qC h Z Z fun _ _ h=>X0 8 Z (qg (t:=8) F Z ?_ ?_))<;>intro F
 ·exact X0 5 Z (zcB h F (qfa ⟨_,_,rfl,(h.oldS s1)⟩ (qhb (x:=positive) 0 h Z Z)) Z fun _ _ h F=>X0 5 Z (rb h F Z))
 exact X0 7 Z (rb h F Z)
def qiQ(_:Nat)(p:qaA):Option Bool:=V p.Br
theorem qm4{p:qaA}(a:Ro w p cs1){r:Bool}(F:qiQ n p=V r):RetV prog 311 [oV qaA cs1] w r:=by
 obtain rfl:=qfn a;exact zV 5 func311 Z fun h=>zSR (qC h Z Z fun _ _ h=>X1 8 0 h Z (rb h F Z))
def qae(s:(List qaA)):Nat->Int->Option (Flow Int Int)|0,_=>U|n+1,a=>bif decide (a<(s.length:Int)) then(idx s a).bind fun b=>(qiQ n b).bind fun r1=>bif r1 then V (.ret a) else qae s n (W64 (a+1)) else V (.nxt a)
def qbL(n:Nat)(s:(List qaA)):Option Int:=(qae s n 0).bind fun|.ret r=>V r|.nxt _=>V (-1)
theorem qfV{s:(List qaA)}(b:Ro w s cs1){r:Int}(F:qbL n s=V r):RetV prog 310 [oV (List qaA) cs1,.func (.func 311) #[] #[]] w r:=by
 obtain⟨p1,o,rfl,s1⟩:=b;refine zV 19 func310 Z fun h=>X0 11 Z ?_;obtain⟨o1,F,a⟩:=qc F;refine qm (rL (fun m e w'=>∃k,qae s m k=V o1/\e=[(0,oS p1 s.length o),(1,.func (.func 311) #[] #[]),(7,vi (s.length:Int)),(8,vi k)]/\SH w w' []) n ⟨_,F,rfl,h⟩ Z ?_);rintro l _ _ ⟨k,F,rfl,h⟩;rcases l with _|l
 ·cases F
 refine X0 5 Z (qk Z F ?_ ?_)<;>intro F
 ·refine X0 13 Z ?_;obtain⟨p,_,F,d,_,_,_,_,f,g,i,c⟩:=s1.ix F;obtain rfl:=qfn i;refine zxe f g d Z (zc 0 (c.below h.below) Z (zcB h F (qm4 (qlC p)) Z fun _ _ h F=>qbb (qk Z F ?_ ?_)))<;>intro F
  ·refine X0 5 Z ?_;obtain rfl:=qb F;replace F:=a;exact ri h F Z
  exact X0 6 Z (rK ⟨_,F,rfl,h⟩ Z)
 refine qv Z ?_;obtain rfl:=qb F;replace F:=a;exact X0 4 Z (ri h F Z)
def qid(n:Nat)(c:qF):Option Int:=(qbL n c.Bg).bind fun r1=>V r1
theorem qnO{c:qF}(a:Ro w c cs1){r:Int}(F:qid n c=V r):RetV prog 298 [oV qF cs1] w r:=by
 obtain⟨_,_,_,_,_,_,rfl,s1,_,_⟩:=qao a;exact zV 6 func298 Z fun h=>zSR (qC h Z Z fun _ _ h=>X1 6 0 h Z (zcI h F (qfV ⟨_,_,rfl,(h.oldS s1)⟩) Z fun _ _ h F=>X0 2 Z (ri h F Z)))
def qg1(n:Nat)(c:qF)(pin:Int):Option Bool:=(qeS n c).bind fun r1=>(qaZ n pin 0 (W64 (r1-1))).bind fun a=>V a
theorem qjA{c:qF}{pin}(a:Ro w c cs1){r:Bool}(F:qg1 n c pin=V r):RetV prog 299 [oV qF cs1,vi pin] w r:=by
 obtain⟨_,_,_,_,_,_,rfl,_,_,_⟩:=qao a;exact zV 10 func299 Z fun h=>zSR (qC h Z Z fun _ _ h=>X1 6 0 h Z (zcI h F (qhU (h.old a)) Z fun _ _ h F=>zp1 Z (zcB h F qaK Z fun _ _ h F=>X0 2 Z (rb h F Z))))
def qic(n:Nat)(a_0:qF)(a_1:qat):Option Bool:=(qkh n a_1.Be).bind fun r1=>bif r1 then(bif (a_1.Bp==0) then bif ((a_1.Ba.length:Int)==0) then(qgj n a_1.Bo false).bind fun b=>bif b then(qid n a_0).bind fun c=>bif (a_1.Bl==c) then bif decide (a_1.Bl>=0) then(qg1 n a_0 a_1.To).bind fun d=>bif d then V (a_1.To != a_1.Bl) else V false else V false else V false else V false else V false else V false).bind fun b1=>V b1 else((qgj n a_1.Bo true).bind fun g=>bif (!g) then V true else(qgj n a_1.Ba true).bind fun h=>bif (!h) then V true else(qeS n a_0).bind fun i=>bif (a_1.To != i) then V true else(qg1 n a_0 a_1.Bl).bind fun k=>V (!k)).bind fun b2=>bif b2 then V false else bif (a_1.Be==1) then(idx a_0.Bg a_1.Bl).bind fun l=>bif (!l.Br) then(qaZ n a_1.Bp 1 3).bind fun f=>V f else V false else(bif (a_1.Be==2) then V (a_1.Be==2) else V (a_1.Be==3)).bind fun a=>bif a then(idx a_0.Bg a_1.Bl).bind fun m=>bif m.Br then V (a_1.Bp==0) else V false else V false
theorem qnS{a_0:qF}{a_1:qat}(b:Ro w a_0 cs1)(x:Ro w a_1 cs2){r:Bool}(F:qic n a_0 a_1=V r):RetV prog 284 [oV qF cs1,oV qat cs2] w r:=by
 obtain⟨p1,Q,W,R,X,k3,rfl,s1,_,_⟩:=qao b;obtain⟨Y,S,p5,T,rfl,s4,s5⟩:=qav x;refine zV 103 func284 Z fun h=>zSR (qC h Z Z fun _ c h=>qC h Z Z fun _ d h=>X1 7 0 h Z (zcB h F qpH Z fun _ _ h F=>qbb (qk Z F ?_ ?_)))<;>intro F
 ·refine qcn ?_;obtain⟨p,i,_,F,a⟩:=bindE F;refine qay (fun e w'=>∃b1,p b1=V r/\e=[(4,.bool b1)]/\SH w w' []) ?_ ?_
  ·refine rD (Y1 2 0 h Z ?_);refine zd2 Z (qaC (t:=11) F Z ?_ ?_)<;>intro F
   ·refine Y1 4 0 h Z ?_;refine Y0 6 Z (qaC (t:=17) F Z ?_ ?_)<;>intro F
    ·refine Y1 4 0 h Z ?_;refine Y0 1 Z ?_;obtain⟨r2,J,F⟩:=qc F;refine qbK r2 (vsB _) (cB 297 Z) (fun _ hb=>qi9 ⟨_,_,rfl,((h.ext hb).oldS s4)⟩ J) Z Z Z Z (zd2 Z (qaC (t:=22) F Z ?_ ?_))<;>intro F
     ·refine Y1 4 0 h Z ?_;refine Y1 2 1 h Z ?_;refine Y0 1 Z ?_;obtain⟨r3,K,F⟩:=qc F;refine qbK r3 (vsI _) (cB 298 Z) (fun _ hb=>qnO ((h.ext hb).old b) K) Z Z Z Z (Y0 4 Z (qaC (t:=29) F Z ?_ ?_))<;>intro F
      ·refine Y1 4 0 h Z ?_;refine Y0 4 Z (qaC (t:=34) F Z ?_ ?_)<;>intro F
       ·refine Y1 2 1 h Z ?_;refine Y1 4 0 h Z ?_;refine Y0 1 Z ?_;obtain⟨r4,L,F⟩:=qc F;refine qbK r4 (vsB _) (cB 299 Z) (fun _ hb=>qjA ((h.ext hb).old b) L) Z Z Z Z (zd2 Z (qaC (t:=40) F Z ?_ ?_))<;>intro F
        ·refine Y1 4 0 h Z ?_;refine Y1 4 0 h Z ?_;refine Y0 4 Z (dN h fun _ h=>?_);replace h:=h.p [] Z;obtain rfl:=qb F;exact rG ⟨_,a,rfl,h⟩ Z
        refine Y0 7 Z (dN h fun _ h=>?_);replace h:=h.p [] Z;obtain rfl:=qb F;exact rG ⟨_,a,rfl,h⟩ Z
       refine Y0 13 Z (dN h fun _ h=>?_);replace h:=h.p [] Z;obtain rfl:=qb F;exact rG ⟨_,a,rfl,h⟩ Z
      refine Y0 18 Z (dN h fun _ h=>?_);replace h:=h.p [] Z;obtain rfl:=qb F;exact rG ⟨_,a,rfl,h⟩ Z
     refine Y0 25 Z (dN h fun _ h=>?_);replace h:=h.p [] Z;obtain rfl:=qb F;exact rG ⟨_,a,rfl,h⟩ Z
    refine Y0 30 Z (dN h fun _ h=>?_);replace h:=h.p [] Z;obtain rfl:=qb F;exact rG ⟨_,a,rfl,h⟩ Z
   refine Y0 36 Z (dN h fun _ h=>?_);replace h:=h.p [] Z;obtain rfl:=qb F;exact rG ⟨_,a,rfl,h⟩ Z
  rintro _ _ ⟨b1,F,rfl,h⟩;subst i;exact rb h F Z
 refine zKSS ?_;obtain⟨u,l,_,F,f⟩:=bindE F;refine qay (fun e w'=>∃b2,u b2=V r/\e=[(2,vp c),(3,vp d),(70,.bool b2)]/\SH w w' [oX d (qev a_1 Y p5 S T) 187,oX c (qJ a_0 p1 W X Q R k3) 184]) ?_ ?_
 ·refine rD (Y1 2 0 h Z ?_);obtain⟨r6,O,F⟩:=qc F;refine qbK r6 (vsB _) (cB 297 Z) (fun _ hb=>qi9 ⟨_,_,rfl,((h.ext hb).oldS s4)⟩ O) Z Z Z Z (zd2 Z (qaC (t:=51) F Z ?_ ?_))<;>intro F
  ·refine Y0 19 Z (dN h fun _ h=>?_);obtain rfl:=qb F;exact rG ⟨_,f,rfl,h⟩ Z
  refine Y1 4 0 h Z ?_;refine Y0 1 Z ?_;obtain⟨r7,P,F⟩:=qc F;refine qbK r7 (vsB _) (cB 297 Z) (fun _ hb=>qi9 ⟨_,_,rfl,((h.ext hb).oldS s5)⟩ P) Z Z Z Z (Y0 4 Z (qaC (t:=57) F Z ?_ ?_))<;>intro F
  ·refine Y0 13 Z (dN h fun _ h=>?_);obtain rfl:=qb F;exact rG ⟨_,f,rfl,h⟩ Z
  refine Y1 4 0 h Z ?_;refine Y1 2 1 h Z ?_;refine Y0 1 Z ?_;obtain⟨r8,m,F⟩:=qc F;refine qbK r8 (vsI _) (cB 142 Z) (fun _ hb=>qhU ((h.ext hb).old b) m) Z Z Z Z (Y0 4 Z (qaC (t:=64) F Z ?_ ?_))<;>intro F
  ·refine Y0 6 Z (dN h fun _ h=>?_);obtain rfl:=qb F;exact rG ⟨_,f,rfl,h⟩ Z
  refine Y1 2 1 h Z ?_;refine Y1 4 0 h Z ?_;refine Y0 1 Z ?_;obtain⟨r9,o,F⟩:=qc F;refine qbK r9 (vsB _) (cB 299 Z) (fun _ hb=>qjA ((h.ext hb).old b) o) Z Z Z Z (Y0 3 Z (dN h fun _ h=>?_));obtain rfl:=qb F;exact rG ⟨_,f,rfl,h⟩ Z
 rintro _ _ ⟨b2,F,rfl,h⟩;subst l;refine qk Z F ?_ ?_<;>intro F
 ·exact X0 4 Z (rb h F Z)
 refine X1 13 0 h Z (qk Z F ?_ ?_)<;>intro F
 ·refine X2 6 1 0 h Z ?_;obtain⟨_,_,F,A,_,_,_,_,C,H,M,y⟩:=s1.ix F;obtain rfl:=qfn M;refine zxe C H A Z (zp1 Z (zc 3 (y.below h.below) Z (zp2 Z (qg (t:=83) F Z ?_ ?_))))<;>intro F
  ·exact X1 5 0 h Z (zcB h F qaK Z fun _ _ h F=>X0 3 Z (rb h F Z))
  exact X0 6 Z (rb h F Z)
 refine X0 6 Z ?_;obtain⟨s,k,_,F,g⟩:=bindE F;refine qay (fun e w'=>∃v,s v=V r/\e=[(2,vp c),(3,vp d),(88,.bool v)]/\SH w w' [oX d (qev a_1 Y p5 S T) 187,oX c (qJ a_0 p1 W X Q R k3) 184]) ?_ ?_
 ·refine qk Z F ?_ ?_<;>intro F
  ·refine qfg ?_;obtain rfl:=qb F;exact rG ⟨_,g,rfl,h⟩ Z
  refine X0 4 Z ?_;obtain rfl:=qb F;exact rG ⟨_,g,rfl,h⟩ Z
 rintro _ _ ⟨v,F,rfl,h⟩;subst k;refine qk Z F ?_ ?_<;>intro F
 ·refine X2 6 1 0 h Z ?_;obtain⟨_,_,F,B,_,_,_,_,D,I,N,z⟩:=s1.ix F;obtain rfl:=qfn N;refine zxe D I B Z (zp1 Z (zc 3 (z.below h.below) Z (zp1 Z (qg (t:=98) F Z ?_ ?_))))<;>intro F
  ·exact X1 9 0 h Z (rb h F Z)
  exact X0 6 Z (rb h F Z)
 exact X0 6 Z (rb h F Z)
def qf0(_:Nat)(b:qat)(a:qat):Option Bool:=bif (b.Be==a.Be) then bif (b.Bl==a.Bl) then V (b.To==a.To) else V false else V false
theorem qlW{k:qat}{g:qat}(b:Ro w k cs1){f}(c:Ro w (V g) [.pointer f]){r:Bool}(F:qf0 n k g=V r):RetV prog 286 [oV qat cs1,.pointer f] w r:=by
 obtain⟨_,_,_,_,rfl,_,_⟩:=qav b;obtain⟨_,i,_,rfl,-,d,a⟩:=PtR.get c Z;obtain⟨_,_,_,_,rfl,_,_⟩:=qav d;refine zV 23 func286 Z fun h=>zSR (qC h Z Z fun _ _ h=>X1 7 0 h Z (zc 0 (a.below h.below) Z (zp2 Z (qg (t:=9) F Z ?_ ?_))))<;>intro F
 ·refine X1 7 0 h Z (zc 1 (a.below h.below) Z (X0 4 Z (qg (t:=16) F Z ?_ ?_)))<;>intro F
  ·exact X1 7 0 h Z (zc 2 (a.below h.below) Z (X0 5 Z (rb h F Z)))
  exact X0 8 Z (rb h F Z)
 exact X0 15 Z (rb h F Z)
def qX(s:(List qat))(a:qat):Nat->Int->Option (Flow Int Int)|0,_=>U|n+1,b=>bif decide (b<(s.length:Int)) then(idx s b).bind fun c=>(qf0 n c a).bind fun r1=>bif r1 then V (.ret b) else qX s a n (W64 (b+1)) else V (.nxt b)
def qbq(n:Nat)(s:(List qat))(a:qat):Option Int:=(qX s a n 0).bind fun|.ret r=>V r|.nxt _=>V (-1)
theorem qfi{s:(List qat)}{a:qat}(d:Ro w s cs1){v}(c:Ro w (V a) [.pointer v]){r:Int}(F:qbq n s a=V r):RetV prog 134 [oV (List qat) cs1,.func (.func 286) #[] #[.pointer v]] w r:=by
 obtain⟨p1,x,rfl,s1⟩:=d;obtain⟨b1,t,_,rfl,-,l,_⟩:=PtR.get c Z;obtain⟨_,_,_,_,rfl,_,_⟩:=qav l;refine zV 19 func134 Z fun h=>X0 11 Z ?_;obtain⟨o1,F,b⟩:=qc F;refine qm (rL (fun m e w'=>∃p,qX s a m p=V o1/\e=[(0,oS p1 s.length x),(1,.func (.func 286) #[] #[.pointer (V ⟨b1,t,U⟩)]),(7,vi (s.length:Int)),(8,vi p)]/\SH w w' []) n ⟨_,F,rfl,h⟩ Z ?_);rintro u _ _ ⟨p,F,rfl,h⟩;rcases u with _|u
 ·cases F
 refine X0 5 Z (qk Z F ?_ ?_)<;>intro F
 ·refine X0 13 Z ?_;obtain⟨A,_,F,g,_,_,_,_,i,k,o,f⟩:=s1.ix F;obtain⟨_,_,_,_,rfl,y,z⟩:=qav o;refine zxe i k g Z (zc 0 (f.below h.below) Z (zcB h F (qlW (qiN A (h.oldS y) (h.oldS z)) (h.old c)) Z fun _ _ h F=>qbb (qk Z F ?_ ?_)))<;>intro F
  ·refine X0 5 Z ?_;obtain rfl:=qb F;replace F:=b;exact ri h F Z
  exact X0 6 Z (rK ⟨_,F,rfl,h⟩ Z)
 refine qv Z ?_;obtain rfl:=qb F;replace F:=b;exact X0 4 Z (ri h F Z)
def qaI(n:Nat)(s:(List qat))(a:qat):Option Bool:=(qbq n s a).bind fun r1=>V (decide (r1>=0))
theorem qeT{s:(List qat)}{a:qat}(c:Ro w s cs1){f}(b:Ro w (V a) [.pointer f]){r:Bool}(F:qaI n s a=V r):RetV prog 285 [oV (List qat) cs1,.func (.func 286) #[] #[.pointer f]] w r:=by
 obtain⟨_,_,rfl,s1⟩:=c;obtain⟨_,g,_,rfl,-,d,_⟩:=PtR.get b Z;obtain⟨_,_,_,_,rfl,_,_⟩:=qav d;exact zV 9 func285 Z fun h=>X0 8 Z (zcI h F (qfi ⟨_,_,rfl,(h.oldS s1)⟩ (h.old b)) Z fun _ _ h F=>X0 3 Z (rb h F Z))
def qcS(c:qF):Nat->Int->Option (Flow Bool Int)|0,_=>U|n+1,a=>bif decide (a<(c.Av.length:Int)) then(idx c.Av a).bind fun b=>(qic n c b).bind fun r1=>bif (!r1) then V (.ret false) else(subS c.Av 0 a).bind fun f=>(qaI n f b).bind fun d=>bif d then V (.ret false) else qcS c n (W64 (a+1)) else V (.nxt a)
def qg0(n:Nat)(c:qF):Option Bool:=(qcS c n 0).bind fun|.ret r=>V r|.nxt _=>V (decide ((c.Av.length:Int)<=8))
theorem qm7{c:qF}(d:Ro w c cs1){r:Bool}(F:qg0 n c=V r):RetV prog 272 [oV qF cs1] w r:=by
 obtain⟨p1,I,B,z,J,k3,rfl,_,s2,_⟩:=qao d;refine zV 30 func272 Z fun h=>zSR (qC h Z Z fun _ b h=>X1 10 0 h Z ?_);obtain⟨o1,F,a⟩:=qc F;refine qm (rL (fun m e w'=>∃v,qcS c m v=V o1/\e=[(1,vp b),(6,oS B c.Av.length z),(7,vi (c.Av.length:Int)),(8,vi v)]/\SH w w' [oX b (qJ c p1 B J I z k3) 184]) n ⟨_,F,rfl,h⟩ Z ?_);rintro A _ _ ⟨v,F,rfl,h⟩;rcases A with _|A
 ·cases F
 refine X0 5 Z (qk Z F ?_ ?_)<;>intro F
 ·refine X0 6 Z ?_;obtain⟨y,_,F,l,_,_,_,_,p,s,u,k⟩:=s2.ix F;obtain⟨_,_,_,_,rfl,C,D⟩:=qav u;refine zxe p s l Z (zc 0 (k.below h.below) Z (qj qa h Z Z Z fun _ _ h=>zp1 Z (zs 0 h Z fun _ h=>X2 5 1 0 h Z (zcB h F (qnS (h.old d) (qiN y (h.oldS C) (h.oldS D))) Z fun _ _ h F=>zp2 Z (qg (t:=17) F Z ?_ ?_)))))<;>intro F
  ·refine X0 8 Z (qb5 Z Z (X0 4 Z ?_));obtain rfl:=qb F;replace F:=a;exact rb h F Z
  refine X1 7 1 h Z ?_;obtain⟨_,i,F⟩:=qc F;obtain⟨_,_,g,f,o,H⟩:=qs2 (h.oldS s2) i;refine r_v (qqg qa Z Z Z (qs4 H Z) g f o Z Z Z Z) Z ?_;have K:=qs0 s2 i g f;refine X0 3 Z (zcB h F (qeT ⟨_,_,rfl,(h.oldS K)⟩ (qhb (x:=y) 0 h Z (qiN y (h.oldS C) (h.oldS D)))) Z fun _ _ h F=>X0 2 Z (qk Z F ?_ ?_))<;>intro F
  ·refine X0 4 Z ?_;obtain rfl:=qb F;replace F:=a;exact rb h F Z
  refine X0 6 Z ?_;replace h:=h.p [1] Z;exact rK ⟨_,F,rfl,h⟩ Z
 refine qv Z ?_;obtain rfl:=qb F;replace F:=a;exact X1 8 0 h Z (rb h F Z)
def qjV(_:Nat)(a:qat)(b:Int):Option Bool:=V (a.Be==b)
theorem qnR{a:qat}{i}(b:Ro w a cs1){g}(c:Ro w (V i) [.pointer g]){r:Bool}(F:qjV n a i=V r):RetV prog 300 [oV qat cs1,.pointer g] w r:=by
 obtain⟨_,_,_,_,rfl,_,_⟩:=qav b;obtain⟨_,k,_,rfl,-,f,d⟩:=PtR.get c Z;obtain rfl:=f;exact zV 8 func300 Z fun h=>zSR (qC h Z Z fun _ _ h=>X1 6 0 h Z (zc 0 (d.below h.below) Z (X0 3 Z (rb h F Z))))
def qal(s:(List qat))(a:Int):Nat->Int->Option (Flow Int Int)|0,_=>U|n+1,b=>bif decide (b<(s.length:Int)) then(idx s b).bind fun c=>(qjV n c a).bind fun r1=>bif r1 then V (.ret b) else qal s a n (W64 (b+1)) else V (.nxt b)
def qbU(n:Nat)(s:(List qat))(a:Int):Option Int:=(qal s a n 0).bind fun|.ret r=>V r|.nxt _=>V (-1)
theorem qf7{s:(List qat)}{a}(d:Ro w s cs1){v}(c:Ro w (V a) [.pointer v]){r:Int}(F:qbU n s a=V r):RetV prog 134 [oV (List qat) cs1,.func (.func 300) #[] #[.pointer v]] w r:=by
 obtain⟨p1,x,rfl,s1⟩:=d;obtain⟨b1,t,_,rfl,-,l,_⟩:=PtR.get c Z;obtain rfl:=l;refine zV 19 func134 Z fun h=>X0 11 Z ?_;obtain⟨o1,F,b⟩:=qc F;refine qm (rL (fun m e w'=>∃p,qal s a m p=V o1/\e=[(0,oS p1 s.length x),(1,.func (.func 300) #[] #[.pointer (V ⟨b1,t,U⟩)]),(7,vi (s.length:Int)),(8,vi p)]/\SH w w' []) n ⟨_,F,rfl,h⟩ Z ?_);rintro u _ _ ⟨p,F,rfl,h⟩;rcases u with _|u
 ·cases F
 refine X0 5 Z (qk Z F ?_ ?_)<;>intro F
 ·refine X0 13 Z ?_;obtain⟨z,_,F,g,_,_,_,_,i,k,o,f⟩:=s1.ix F;obtain⟨_,_,_,_,rfl,s2,y⟩:=qav o;refine zxe i k g Z (zc 0 (f.below h.below) Z (zcB h F (qnR (qiN z (h.oldS s2) (h.oldS y)) (h.old c)) Z fun _ _ h F=>qbb (qk Z F ?_ ?_)))<;>intro F
  ·refine X0 5 Z ?_;obtain rfl:=qb F;replace F:=b;exact ri h F Z
  exact X0 6 Z (rK ⟨_,F,rfl,h⟩ Z)
 refine qv Z ?_;obtain rfl:=qb F;replace F:=b;exact X0 4 Z (ri h F Z)
def qbH(n:Nat)(s:(List qat))(a:Int):Option Bool:=(qbU n s a).bind fun r1=>V (decide (r1>=0))
theorem qfC{s:(List qat)}{a}(c:Ro w s cs1){f}(b:Ro w (V a) [.pointer f]){r:Bool}(F:qbH n s a=V r):RetV prog 285 [oV (List qat) cs1,.func (.func 300) #[] #[.pointer f]] w r:=by
 obtain⟨_,_,rfl,s1⟩:=c;obtain⟨_,g,_,rfl,-,d,_⟩:=PtR.get b Z;obtain rfl:=d;exact zV 9 func285 Z fun h=>X0 8 Z (zcI h F (qf7 ⟨_,_,rfl,(h.oldS s1)⟩ (h.old b)) Z fun _ _ h F=>X0 3 Z (rb h F Z))
def qdX(n:Nat)(c:qF)(kind:Int):Option Bool:=(qbH n c.Av kind).bind fun r1=>V r1
theorem qeM{c:qF}{kind}(a:Ro w c cs1){r:Bool}(F:qdX n c kind=V r):RetV prog 287 [oV qF cs1,vi kind] w r:=by
 obtain⟨_,_,_,_,_,_,rfl,_,s2,_⟩:=qao a;exact zV 9 func287 Z fun h=>zSR (qC h Z Z fun _ _ h=>qC h Z Z fun _ _ h=>X1 7 1 h Z (zcB h F (qfC ⟨_,_,rfl,(h.oldS s2)⟩ (qhb (x:=kind) 0 h Z Z)) Z fun _ _ h F=>X0 2 Z (rb h F Z)))
def qbs(a_0:qF):Nat->Int->Int->Option (Int×Int)|0,_,_=>U|n+1,b,a=>bif decide (a<(a_0.Bg.length:Int)) then(idx a_0.Bg a).bind fun c=>bif c.Br then qbs a_0 n (W64 (b+1)) (W64 (a+1)) else qbs a_0 n b (W64 (a+1)) else V (b,a)
def qgy(n:Nat)(a_0:qF):Option Bool:=(qbs a_0 n 0 0).bind fun(a,_)=>bif (a_0.Be==1) then bif (a==0) then(qeS n a_0).bind fun r1=>(shlS 1 r1).bind fun k=>bif ((a_0.Bs.length:Int)==k) then(qcb n a_0.Bs 0 1).bind fun b=>V b else V false else V false else bif (a_0.Be==2) then bif (a==1) then bif ((a_0.Bs.length:Int)==0) then(qdX n a_0 1).bind fun c=>bif (!c) then(qdX n a_0 2).bind fun d=>(qdX n a_0 3).bind fun f=>V (!(d==f)) else V false else V false else V false else bif (a_0.Be==3) then bif (a==1) then bif ((a_0.Bs.length:Int)==0) then(qdX n a_0 1).bind fun g=>bif g then(qdX n a_0 2).bind fun h=>bif h then(qdX n a_0 3).bind fun i=>V (!i) else V false else V false else V false else V false else V false
theorem qmA{a_0:qF}(a:Ro w a_0 cs1){r:Bool}(F:qgy n a_0=V r):RetV prog 273 [oV qF cs1] w r:=by
 obtain⟨p1,z,D,C,H,k3,rfl,s1,_,M⟩:=qao a;refine zV 83 func273 Z fun h=>zSR (qC h Z Z fun _ c h=>X1 14 0 h Z ?_);obtain⟨o1,F,d⟩:=qc F;refine qm (rL (fun m e w'=>∃x y,qbs a_0 m x y=V o1/\e=[(1,vp c),(3,vi x),(7,oS p1 a_0.Bg.length z),(8,vi (a_0.Bg.length:Int)),(9,vi y)]/\SH w w' [oX c (qJ a_0 p1 D H z C k3) 184]) n ⟨_,_,F,rfl,h⟩ Z ?_);rintro A _ _ ⟨x,y,F,rfl,h⟩;rcases A with _|A
 ·cases F
 refine X0 5 Z (qk Z F ?_ ?_)<;>intro F
 ·refine zKSBSR ?_;obtain⟨_,_,F,g,_,_,_,_,i,k,l,f⟩:=s1.ix F;obtain rfl:=qfn l;refine zxe i k g Z (zc 0 (f.below h.below) Z (qj qa h Z Z Z fun _ _ h=>zs 0 h Z fun _ h=>X1 6 0 h Z (qk Z F ?_ ?_)))<;>intro F
  ·refine X0 10 Z ?_;replace h:=h.p [1] Z;exact rK ⟨_,_,F,rfl,h⟩ Z
  refine X0 6 Z ?_;replace h:=h.p [1] Z;exact rK ⟨_,_,F,rfl,h⟩ Z
 refine qv Z ?_;obtain rfl:=qb F;replace F:=d;refine X1 12 0 h Z (qk Z F ?_ ?_)<;>intro F
 ·refine qcn (rD (zd3 Z (qaC (t:=24) F Z ?_ ?_)))<;>intro F
  ·refine Y1 4 0 h Z ?_;refine Y1 4 0 h Z ?_;refine Y0 1 Z ?_;obtain⟨r1,o,F⟩:=qc F;refine qbK r1 (vsI _) (cB 142 Z) (fun _ N=>qhU ((h.ext N).old a) o) Z Z Z Z (Y0 1 Z ?_);obtain⟨_,b,F⟩:=qc F;obtain⟨B,b⟩:=qoH b;refine d_v (fun _ N=>qvs B Z Z) Z ?_;rw[b];refine Y0 4 Z (qaC (t:=33) F Z ?_ ?_)<;>intro F
   ·refine Y1 4 0 h Z ?_;refine Y0 1 Z ?_;obtain⟨I,p,F⟩:=qc F;exact qbK I (vsB _) (cB 78 Z) (fun _ N=>qcv ⟨_,_,rfl,((h.ext N).oldS M)⟩ p) Z Z Z Z (zd2 Z (dN h fun _ h=>rb h F Z))
   exact Y0 5 Z (dN h fun _ h=>rb h F Z)
  exact Y0 14 Z (dN h fun _ h=>rb h F Z)
 refine X0 5 Z (qk Z F ?_ ?_)<;>intro F
 ·refine qcn (rD (zd3 Z (qaC (t:=42) F Z ?_ ?_)))<;>intro F
  ·refine Y1 4 0 h Z ?_;refine Y0 6 Z (qaC (t:=48) F Z ?_ ?_)<;>intro F
   ·refine Y1 2 0 h Z ?_;refine Y0 1 Z ?_;obtain⟨J,s,F⟩:=qc F;refine qbK J (vsB _) (cB 287 Z) (fun _ N=>qeM ((h.ext N).old a) s) Z Z Z Z (Y0 4 Z (qaC (t:=53) F Z ?_ ?_))<;>intro F
    ·refine Y1 2 0 h Z ?_;refine Y0 1 Z ?_;obtain⟨K,u,F⟩:=qc F;refine qbK K (vsB _) (cB 287 Z) (fun _ N=>qeM ((h.ext N).old a) u) Z Z Z Z (Y1 2 0 h Z ?_);refine Y0 1 Z ?_;obtain⟨L,v,F⟩:=qc F;exact qbK L (vsB _) (cB 287 Z) (fun _ N=>qeM ((h.ext N).old a) v) Z Z Z Z (Y0 4 Z (dN h fun _ h=>rb h F Z))
    exact Y0 7 Z (dN h fun _ h=>rb h F Z)
   exact Y0 12 Z (dN h fun _ h=>rb h F Z)
  exact Y0 18 Z (dN h fun _ h=>rb h F Z)
 refine X0 5 Z (qk Z F ?_ ?_)<;>intro F
 ·refine X0 5 Z (qg (t:=64) F Z ?_ ?_)<;>intro F
  ·refine X1 10 0 h Z (qg (t:=70) F Z ?_ ?_)<;>intro F
   ·refine X1 3 0 h Z (zcB h F (qeM (h.old a)) Z fun _ _ h F=>zp2 Z (qg (t:=74) F Z ?_ ?_))<;>intro F
    ·refine X1 3 0 h Z (zcB h F (qeM (h.old a)) Z fun _ _ h F=>zp2 Z (qg (t:=78) F Z ?_ ?_))<;>intro F
     ·exact X1 3 0 h Z (zcB h F (qeM (h.old a)) Z fun _ _ h F=>X0 5 Z (rb h F Z))
     exact X0 6 Z (rb h F Z)
    exact X0 10 Z (rb h F Z)
   exact X0 14 Z (rb h F Z)
  exact X0 20 Z (rb h F Z)
 exact X0 6 Z (rb h F Z)
def qlg(n:Nat)(c:qF):Option Bool:=(qiE n c.Bi).bind fun r1=>bif r1 then(qj9 n c.Bg).bind fun a=>bif a then(qg0 n c).bind fun b=>bif b then(qaZ n c.Ca 0 100000).bind fun d=>bif d then(qaZ n c.Bw 0 100000).bind fun f=>bif f then(qgy n c).bind fun g=>V g else V false else V false else V false else V false else V false
theorem qqf{c:qF}(a:Ro w c cs1){r:Bool}(F:qlg n c=V r):RetV prog 242 [oV qF cs1] w r:=by
 obtain⟨_,_,_,_,_,_,rfl,s1,_,_⟩:=qao a;refine zV 29 func242 Z fun h=>zSR (qC h Z Z fun _ _ h=>X1 6 0 h Z (zcB h F qkP Z fun _ _ h F=>zp1 Z (qg (t:=6) F Z ?_ ?_)))<;>intro F
 ·refine X1 5 0 h Z (zcB h F (qpE ⟨_,_,rfl,(h.oldS s1)⟩) Z fun _ _ h F=>zp2 Z (qg (t:=11) F Z ?_ ?_))<;>intro F
  ·refine X1 3 0 h Z (zcB h F (qm7 (h.old a)) Z fun _ _ h F=>zp2 Z (qg (t:=15) F Z ?_ ?_))<;>intro F
   ·refine X1 5 0 h Z (zcB h F qaK Z fun _ _ h F=>zp2 Z (qg (t:=20) F Z ?_ ?_))<;>intro F
    ·refine X1 5 0 h Z (zcB h F qaK Z fun _ _ h F=>zp2 Z (qg (t:=25) F Z ?_ ?_))<;>intro F
     ·exact X1 3 0 h Z (zcB h F (qmA (h.old a)) Z fun _ _ h F=>X0 3 Z (rb h F Z))
     exact X0 5 Z (rb h F Z)
    exact X0 10 Z (rb h F Z)
   exact X0 15 Z (rb h F Z)
  exact X0 19 Z (rb h F Z)
 exact X0 24 Z (rb h F Z)
def qc4(l:qw):Nat->(List ByteArray)->Int->Option (Flow Bool ((List ByteArray)×Int))|0,_,_=>U|n+1,b,a=>bif decide (a<(l.As.length:Int)) then(idx l.As a).bind fun c=>(qlg n c).bind fun r1=>bif (!r1) then V (.ret false) else(appS b ([c.Bi]:List ByteArray)).bind fun d=>qc4 l n d (W64 (a+1)) else V (.nxt (b,a))
def qi1(n:Nat)(l:qw):Option Bool:=(qc4 l n ([]:List ByteArray) 0).bind fun|.ret r=>V r|.nxt (b,_)=>bif decide ((l.As.length:Int)<=8) then(qeJ n b).bind fun a=>V a else V false
theorem qob{l:qw}(f:Ro w l cs1){r:Bool}(F:qi1 n l=V r):RetV prog 190 [oV qw cs1] w r:=by
 obtain⟨p1,y,rfl,s1⟩:=qcX f;refine zV 30 func190 Z fun h=>zSR (qC h Z Z fun _ c h=>X1 14 0 h Z ?_);replace h:=h.nil (α:=ByteArray);obtain⟨o1,F,d⟩:=qc F;refine qm (rL (fun m e w'=>∃S1 v b u x s,qc4 l m x s=V o1/\e=[(1,vp c),(3,oS v b u),(7,oS p1 l.As.length y),(8,vi (l.As.length:Int)),(9,vi s)]/\SH w w' [oW S1 (x:List ByteArray) [oS v b u],oX c [oS p1 l.As.length y] 26]) n ⟨_,_,_,_,_,_,F,rfl,h⟩ Z ?_);rintro z _ _ ⟨S1,v,b,u,x,s,F,rfl,h⟩;obtain rfl:=(h.sl 0 Z).2;rcases z with _|z
 ·cases F
 refine X0 5 Z (qk Z F ?_ ?_)<;>intro F
 ·refine zKSBSR ?_;obtain⟨A,_,F,i,_,_,_,_,k,o,p,g⟩:=s1.ix F;obtain⟨_,_,_,_,_,_,rfl,s2,C,D⟩:=qao p;refine zxe k o i Z (zc 0 (g.below h.below) Z (qj qa h Z Z Z fun _ _ h=>zs 0 h Z fun _ h=>X1 5 0 h Z (zcB h F (qqf (qrp A (h.oldS s2) (h.oldS C) (h.oldS D))) Z fun _ _ h F=>X0 2 Z (qk Z F ?_ ?_))))<;>intro F
  ·refine X0 4 Z ?_;obtain rfl:=qb F;replace F:=d;exact rb h F Z
  refine X1 5 0 h Z (qq qa [.tmp 18] _ ([A.Bi]:List ByteArray) h Z Z Z Z Z Z Z Z Z ⟨rfl,G⟩ Z fun _ _ _ h=>?_);obtain⟨_,a,F⟩:=qc F;obtain⟨B,a⟩:=qE a;refine qaB qa 2 h Z (h.sl 0 Z).1 (h.sl 0 Z).2 Z Z Z Z Z Z Z Z Z B a Z fun _ _ _ _ h=>X0 7 Z ?_;replace h:=h.p [2,3] Z;exact rK ⟨_,_,_,_,_,_,F,rfl,h⟩ Z
 refine qv Z ?_;obtain rfl:=qb F;replace F:=d;refine X1 7 1 h Z (qg (t:=26) F Z ?_ ?_)<;>intro F
 ·exact X0 3 Z (zcB h F (qf9 (h.own 0 Z)) Z fun _ _ h F=>X0 3 Z (rb h F Z))
 exact X0 5 Z (rb h F Z)
def qbC(d:qh):Nat->(List ByteArray)->Int->Option ((List ByteArray)×Int)|0,_,_=>U|n+1,b,a=>bif decide (a<(d.Aj.length:Int)) then(idx d.Aj a).bind fun f=>(appS b ([f.Bi]:List ByteArray)).bind fun c=>qbC d n c (W64 (a+1)) else V (b,a)
def qbv(d:qh):Nat->(List ByteArray)->Int->Option ((List ByteArray)×Int)|0,_,_=>U|n+1,b,a=>bif decide (a<(d.Ab.length:Int)) then(idx d.Ab a).bind fun f=>(appS b ([f.Bi]:List ByteArray)).bind fun c=>qbv d n c (W64 (a+1)) else V (b,a)
def qfO(n:Nat)(d:qh):Option Bool:=(qbv d n ([]:List ByteArray) 0).bind fun(a,_)=>(qbC d n ([]:List ByteArray) 0).bind fun(b,_)=>bif decide ((a.length:Int)<=14) then bif decide ((d.Ak.length:Int)<=30) then bif decide ((b.length:Int)<=8) then(qeJ n a).bind fun r1=>bif r1 then(qeJ n d.Ak).bind fun c=>bif c then(qeJ n b).bind fun f=>V f else V false else V false else V false else V false else V false
theorem qlx{d:qh}(s:Ro w d cs1){r:Bool}(F:qfO n d=V r):RetV prog 191 [oV qh cs1] w r:=by
 obtain⟨p1,K,T,Q,M,k3,rfl,s1,s2,Y⟩:=qaX s;refine zV 62 func191 Z fun h=>zSR (qC h Z Z fun _ a h=>X1 15 0 h Z ?_);replace h:=h.nil (α:=ByteArray);obtain⟨o1,F,o⟩:=qc F;refine qm (rL (fun m e w'=>∃S1 l f k i I,qbv d m i I=V o1/\e=[(1,vp a),(3,oS l f k),(4,oS U 0 0),(10,oS p1 d.Ab.length K),(11,vi (d.Ab.length:Int)),(12,vi I)]/\SH w w' [oW S1 (i:List ByteArray) [oS l f k],oX a (qaw d p1 T M K Q k3) 31]) n ⟨_,_,_,_,_,_,F,rfl,h⟩ Z ?_);rintro R _ _ ⟨S1,l,f,k,i,I,F,rfl,h⟩;obtain rfl:=(h.sl 0 Z).2;rcases R with _|R
 ·cases F
 refine X0 5 Z (qk Z F ?_ ?_)<;>intro F
 ·refine zKSBSR ?_;obtain⟨y1,_,F,x,_,_,_,_,z,B,D,u⟩:=s1.ix F;obtain⟨_,_,rfl,_⟩:=qaJ D;refine zxe z B x Z (zc 0 (u.below h.below) Z (qj qa h Z Z Z fun _ _ h=>zs 0 h Z fun _ h=>X1 5 0 h Z (qq qa [.tmp 18] _ ([y1.Bi]:List ByteArray) h Z Z Z Z Z Z Z Z Z ⟨rfl,G⟩ Z fun _ _ _ h=>?_)));obtain⟨_,b,F⟩:=qc F;obtain⟨W,b⟩:=qE b;refine qaB qa 2 h Z (h.sl 0 Z).1 (h.sl 0 Z).2 Z Z Z Z Z Z Z Z Z W b Z fun _ _ _ _ h=>X0 7 Z ?_;replace h:=h.p [2,3] Z;exact rK ⟨_,_,_,_,_,_,F,rfl,h⟩ Z
 refine qv Z ?_;obtain rfl:=qb F;replace F:=o;refine X1 8 1 h Z ?_;replace h:=h.nil (α:=ByteArray);obtain⟨o2,F,p⟩:=qc F;refine qm (rL (fun m e w'=>∃P N g L O J,qbC d m O J=V o2/\e=[(1,vp a),(3,oS l i.length k),(4,oS N g L),(23,oS M d.Aj.length k3),(24,vi (d.Aj.length:Int)),(25,vi J)]/\SH w w' [oW P (O:List ByteArray) [oS N g L],oW S1 (i:List ByteArray) [oS l i.length k],oX a (qaw d p1 T M K Q k3) 31]) n ⟨_,_,_,_,_,_,F,rfl,h⟩ Z ?_);rintro S _ _ ⟨P,N,g,L,O,J,F,rfl,h⟩;obtain rfl:=(h.sl 0 Z).2;rcases S with _|S
 ·cases F
 refine X0 5 Z (qk Z F ?_ ?_)<;>intro F
 ·refine zKSBSR ?_;obtain⟨y2,_,F,y,_,_,_,_,A,C,H,v⟩:=Y.ix F;obtain rfl:=qe4 H;refine zxe A C y Z (zc 0 (v.below h.below) Z (qj qa h Z Z Z fun _ _ h=>zs 0 h Z fun _ h=>X1 5 0 h Z (qq qa [.tmp 31] _ ([y2.Bi]:List ByteArray) h Z Z Z Z Z Z Z Z Z ⟨rfl,G⟩ Z fun _ _ _ h=>?_)));obtain⟨_,c,F⟩:=qc F;obtain⟨X,c⟩:=qE c;refine qaB qa 2 h Z (h.sl 0 Z).1 (h.sl 0 Z).2 Z Z Z Z Z Z Z Z Z X c Z fun _ _ _ _ h=>X0 7 Z ?_;replace h:=h.p [2,3,4] Z;exact rK ⟨_,_,_,_,_,_,F,rfl,h⟩ Z
 refine qv Z ?_;obtain rfl:=qb F;replace F:=p;refine X0 6 Z (qg (t:=38) F Z ?_ ?_)<;>intro F
 ·refine X1 10 2 h Z (qg (t:=44) F Z ?_ ?_)<;>intro F
  ·refine X0 8 Z (qg (t:=49) F Z ?_ ?_)<;>intro F
   ·refine X0 3 Z (zcB h F (qf9 (h.own 1 Z)) Z fun _ _ h F=>zp2 Z (qg (t:=53) F Z ?_ ?_))<;>intro F
    ·refine X1 5 2 h Z (zcB h F (qf9 ⟨_,_,rfl,(h.oldS s2)⟩) Z fun _ _ h F=>zp2 Z (qg (t:=58) F Z ?_ ?_))<;>intro F
     ·exact X0 3 Z (zcB h F (qf9 (h.own 0 Z)) Z fun _ _ h F=>X0 3 Z (rb h F Z))
     exact X0 5 Z (rb h F Z)
    exact X0 10 Z (rb h F Z)
   exact X0 14 Z (rb h F Z)
  exact X0 19 Z (rb h F Z)
 exact X0 25 Z (rb h F Z)
def qgS(_:Nat)(list:(List qF)):Option Int:=V (list.length:Int)
theorem qlm{list:(List qF)}(a:Ro w list cs1){r:Int}(F:qgS n list=V r):RetV prog 244 [oV (List qF) cs1] w r:=by
 obtain⟨_,_,rfl,_⟩:=a;exact zV 5 func244 Z fun h=>X0 10 Z (ri h F Z)
def qim(_:Nat)(list:(List ByteArray)):Option Int:=V (list.length:Int)
theorem qmw{list:(List ByteArray)}(a:Ro w list cs1){r:Int}(F:qim n list=V r):RetV prog 246 [oV (List ByteArray) cs1] w r:=by
 obtain⟨_,_,rfl,_⟩:=a;exact zV 5 func246 Z fun h=>X0 10 Z (ri h F Z)
def qee(n:Nat)(d:qh)(net:Int):Option Bool:=(qim n d.Ak).bind fun r1=>(qaZ n net 0 (W64 (r1-1))).bind fun a=>V a
theorem qhc{d:qh}{net}(a:Ro w d cs1){r:Bool}(F:qee n d net=V r):RetV prog 193 [oV qh cs1,vi net] w r:=by
 obtain⟨_,_,_,_,_,_,rfl,_,s2,_⟩:=qaX a;exact zV 11 func193 Z fun h=>zSR (qC h Z Z fun _ _ h=>X1 7 0 h Z (zcI h F (qmw ⟨_,_,rfl,(h.oldS s2)⟩) Z fun _ _ h F=>zp1 Z (zcB h F qaK Z fun _ _ h F=>X0 2 Z (rb h F Z))))
def qdY(n:Nat)(net:Int)(a:qh):Option Bool:=(qee n a net).bind fun r1=>V (!r1)
theorem qki{net}{d:qh}{p1}(a:Ro w (V d) [.pointer p1]){r:Bool}(F:qdY n net d=V r):RetV prog 245 [vi net,.pointer p1] w r:=by
 obtain⟨_,f,_,rfl,-,c,b⟩:=PtR.get a Z;obtain⟨_,_,_,_,_,_,rfl,s1,s2,g⟩:=qaX c;exact zV 8 func245 Z fun h=>X0 6 Z (zc 0 (b.below h.below) Z (zp1 Z (zcB h F (qhc (qaY d (h.oldS s1) (h.oldS s2) (h.oldS g))) Z fun _ _ h F=>X0 3 Z (rb h F Z))))
def qV(s:(List Int))(a:qh):Nat->Int->Option (Flow Int Int)|0,_=>U|n+1,b=>bif decide (b<(s.length:Int)) then(idx s b).bind fun c=>(qdY n c a).bind fun r1=>bif r1 then V (.ret b) else qV s a n (W64 (b+1)) else V (.nxt b)
def qbk(n:Nat)(s:(List Int))(a:qh):Option Int:=(qV s a n 0).bind fun|.ret r=>V r|.nxt _=>V (-1)
theorem qfb{s:(List Int)}{a:qh}(d:Ro w s cs1){u}(c:Ro w (V a) [.pointer u]){r:Int}(F:qbk n s a=V r):RetV prog 217 [oV (List Int) cs1,.func (.func 245) #[] #[.pointer u]] w r:=by
 obtain⟨p1,v,rfl,s1⟩:=d;obtain⟨b1,p,_,rfl,-,l,_⟩:=PtR.get c Z;obtain⟨_,_,_,_,_,_,rfl,_,_,_⟩:=qaX l;refine zV 19 func217 Z fun h=>X0 11 Z ?_;obtain⟨o1,F,b⟩:=qc F;refine qm (rL (fun m e w'=>∃o,qV s a m o=V o1/\e=[(0,oS p1 s.length v),(1,.func (.func 245) #[] #[.pointer (V ⟨b1,p,U⟩)]),(7,vi (s.length:Int)),(8,vi o)]/\SH w w' []) n ⟨_,F,rfl,h⟩ Z ?_);rintro t _ _ ⟨o,F,rfl,h⟩;rcases t with _|t
 ·cases F
 refine X0 5 Z (qk Z F ?_ ?_)<;>intro F
 ·refine X0 13 Z ?_;obtain⟨_,_,F,g,_,_,_,_,i,k,rfl,f⟩:=s1.ix F;refine zxe i k g Z (zc 0 (f.below h.below) Z (zcB h F (qki (h.old c)) Z fun _ _ h F=>qbb (qk Z F ?_ ?_)))<;>intro F
  ·refine X0 5 Z ?_;obtain rfl:=qb F;replace F:=b;exact ri h F Z
  exact X0 6 Z (rK ⟨_,F,rfl,h⟩ Z)
 refine qv Z ?_;obtain rfl:=qb F;replace F:=b;exact X0 4 Z (ri h F Z)
def qa2(n:Nat)(s:(List Int))(a:qh):Option Bool:=(qbk n s a).bind fun r1=>V (decide (r1>=0))
theorem qez{s:(List Int)}{a:qh}(c:Ro w s cs1){f}(b:Ro w (V a) [.pointer f]){r:Bool}(F:qa2 n s a=V r):RetV prog 157 [oV (List Int) cs1,.func (.func 245) #[] #[.pointer f]] w r:=by
 obtain⟨_,_,rfl,s1⟩:=c;obtain⟨_,g,_,rfl,-,d,_⟩:=PtR.get b Z;obtain⟨_,_,_,_,_,_,rfl,_,_,_⟩:=qaX d;exact zV 9 func157 Z fun h=>X0 8 Z (zcI h F (qfb ⟨_,_,rfl,(h.oldS s1)⟩ (h.old b)) Z fun _ _ h F=>X0 3 Z (rb h F Z))
def qeE(n:Nat)(d:qh)(l:qw)(x:qH):Option Bool:=(qgS n l.As).bind fun r1=>(qaZ n x.Bt 0 (W64 (r1-1))).bind fun a=>bif a then(idx l.As x.Bt).bind fun c=>bif ((x.Ak.length:Int)==(c.Bg.length:Int)) then(qa2 n x.Ak d).bind fun b=>V (!b) else V false else V false
theorem qkV{d:qh}{l:qw}{x:qH}(a:Ro w d cs1)(b:Ro w l cs2)(c:Ro w x cs3){r:Bool}(F:qeE n d l x=V r):RetV prog 192 [oV qh cs1,oV qw cs2,oV qH cs3] w r:=by
 obtain⟨_,_,_,_,_,_,rfl,_,_,_⟩:=qaX a;obtain⟨_,_,rfl,u⟩:=qcX b;obtain⟨_,_,rfl,z⟩:=qaJ c;refine zV 35 func192 Z fun h=>zSR (qC h Z Z fun _ _ h=>qC h Z Z fun _ _ h=>qC h Z Z fun _ _ h=>X0 3 Z (rD (Y1 2 0 h Z ?_)));refine Y1 2 1 h Z ?_;obtain⟨r1,m,F⟩:=qc F;refine qbK r1 (vsI _) (cB 244 Z) (fun _ A=>qlm ⟨_,_,rfl,((h.ext A).oldS u)⟩ m) Z Z Z Z (zd1 Z ?_);obtain⟨v,o,F⟩:=qc F;refine qbK v (vsB _) (cB 58 Z) (fun _ A=>qaK  o) Z Z Z Z (zd1 Z (qaC (t:=14) F Z ?_ ?_))<;>intro F
 ·refine Y1 4 0 h Z ?_;refine Y1 6 1 h Z ?_;refine Y1 4 0 h Z ?_;refine Y0 1 Z ?_;obtain⟨_,_,F,g,_,_,_,_,i,k,p,f⟩:=u.ix F;obtain⟨_,_,_,_,_,_,rfl,_,_,_⟩:=qao p;refine zdxe i k g Z (Y0 3 Z (zdc 2 (f.below h.below) Z (Y0 6 Z (qaC (t:=28) F Z ?_ ?_))))<;>intro F
  ·refine Y1 4 0 h Z ?_;refine Y0 3 Z ?_;obtain⟨y,s,F⟩:=qc F;exact qbK y (vsB _) (cB 157 Z) (fun _ A=>qez ⟨_,_,rfl,((h.ext A).oldS z)⟩ (qhb (x:=d) 2 (h.ext A) Z ((h.ext A).old a)) s) Z Z Z Z (Y0 4 Z (dN h fun _ h=>rb h F Z))
  exact Y0 7 Z (dN h fun _ h=>rb h F Z)
 exact Y0 21 Z (dN h fun _ h=>rb h F Z)
def qjQ(_:Nat)(a:Int):Option Bool:=V (a != 1)
theorem qn4{a_n}  {r:Bool}(F:qjQ n a_n=V r):RetV prog 195 [vi a_n] w r:=by
 exact zV 5 func195 Z fun h=>X0 10 Z (rb h F Z)
def qau(s:(List Int)):Nat->Int->Option (Flow Int Int)|0,_=>U|n+1,a=>bif decide (a<(s.length:Int)) then(idx s a).bind fun b=>(qjQ n b).bind fun r1=>bif r1 then V (.ret a) else qau s n (W64 (a+1)) else V (.nxt a)
def qcr(n:Nat)(s:(List Int)):Option Int:=(qau s n 0).bind fun|.ret r=>V r|.nxt _=>V (-1)
theorem qg2{s:(List Int)}(b:Ro w s cs1){r:Int}(F:qcr n s=V r):RetV prog 247 [oV (List Int) cs1,.func (.func 195) #[] #[]] w r:=by
 obtain⟨p1,l,rfl,s1⟩:=b;refine zV 19 func247 Z fun h=>X0 11 Z ?_;obtain⟨o1,F,a⟩:=qc F;refine qm (rL (fun m e w'=>∃i,qau s m i=V o1/\e=[(0,oS p1 s.length l),(1,.func (.func 195) #[] #[]),(7,vi (s.length:Int)),(8,vi i)]/\SH w w' []) n ⟨_,F,rfl,h⟩ Z ?_);rintro k _ _ ⟨i,F,rfl,h⟩;rcases k with _|k
 ·cases F
 refine X0 5 Z (qk Z F ?_ ?_)<;>intro F
 ·refine X0 13 Z ?_;obtain⟨_,_,F,d,_,_,_,_,f,g,rfl,c⟩:=s1.ix F;refine zxe f g d Z (zc 0 (c.below h.below) Z (zcB h F qn4 Z fun _ _ h F=>qbb (qk Z F ?_ ?_)))<;>intro F
  ·refine X0 5 Z ?_;obtain rfl:=qb F;replace F:=a;exact ri h F Z
  exact X0 6 Z (rK ⟨_,F,rfl,h⟩ Z)
 refine qv Z ?_;obtain rfl:=qb F;replace F:=a;exact X0 4 Z (ri h F Z)
def qb7(n:Nat)(s:(List Int)):Option Bool:=(qcr n s).bind fun r1=>V (decide (r1>=0))
theorem qgv{s:(List Int)}(a:Ro w s cs1){r:Bool}(F:qb7 n s=V r):RetV prog 194 [oV (List Int) cs1,.func (.func 195) #[] #[]] w r:=by
 obtain⟨_,_,rfl,s1⟩:=a;exact zV 9 func194 Z fun h=>X0 8 Z (zcI h F (qg2 ⟨_,_,rfl,(h.oldS s1)⟩) Z fun _ _ h F=>X0 3 Z (rb h F Z))
def qcJ(a_1:qh):Nat->(List Int)->Int->Option (Flow Bool ((List Int)×Int))|0,_,_=>U|n+1,c,b=>bif decide (b<(a_1.Aj.length:Int)) then(idx a_1.Aj b).bind fun a=>(bif (a.Bv != 1) then bif (a.Bv != 2) then V true else(qee n a_1 a.Bz).bind fun f=>V (!f) else(qee n a_1 a.Bz).bind fun g=>V (!g)).bind fun d=>bif d then V (.ret false) else bif (a.Bv==1) then(idx c a.Bz).bind fun h=>(idx c a.Bz).bind fun _=>qcJ a_1 n (setS c a.Bz (W64 (h+1))) (W64 (b+1)) else qcJ a_1 n c (W64 (b+1)) else V (.nxt (c,b))
def qdJ(a_0:qw)(a_1:qh):Nat->(List Int)->Int->Option (Flow Bool ((List Int)×Int))|0,_,_=>U|n+1,b,a=>bif decide (a<(a_1.Ab.length:Int)) then(idx a_1.Ab a).bind fun c=>(qeE n a_1 a_0 c).bind fun r1=>bif (!r1) then V (.ret false) else(idx c.Ak (W64 ((c.Ak.length:Int)-1))).bind fun d=>(idx b d).bind fun f=>(idx b d).bind fun _=>qdJ a_0 a_1 n (setS b d (W64 (f+1))) (W64 (a+1)) else V (.nxt (b,a))
def qjs(n:Nat)(a_0:qw)(a_1:qh):Option Bool:=((qi1 n a_0).bind fun b=>bif (!b) then V true else(qfO n a_1).bind fun c=>V (!c)).bind fun b1=>bif b1 then V false else(mkS (a_1.Ak.length:Int) (0:Int)).bind fun d=>(qdJ a_0 a_1 n d 0).bind fun|.ret r=>V r|.nxt (f,_)=>(qcJ a_1 n f 0).bind fun|.ret r=>V r|.nxt (g,_)=>(qb7 n g).bind fun a=>V (!a)
theorem qo1{a_0:qw}{a_1:qh}(g:Ro w a_0 cs1)(c:Ro w a_1 cs2){r:Bool}(F:qjs n a_0 a_1=V r):RetV prog 123 [oV qw cs1,oV qh cs2] w r:=by
 obtain⟨p1,k1,rfl,_⟩:=qcX g;obtain⟨N,M,P,k3,l,k,rfl,s2,_,s4⟩:=qaX c;refine zV 84 func123 Z fun h=>zSR (qC h Z Z fun _ d h=>qC h Z Z fun _ a h=>X0 4 Z ?_);obtain⟨S,y,_,F,v⟩:=bindE F;refine qay (fun e w'=>∃b1,S b1=V r/\e=[(2,vp d),(3,vp a),(17,.bool b1)]/\SH w w' [oX a (qaw a_1 N P l M k3 k) 31,oX d [oS p1 a_0.As.length k1] 26]) ?_ ?_
 ·refine X1 2 1 h Z (zcB h F (qob (h.old g)) Z fun _ _ h F=>zp2 Z (qg (t:=13) F Z ?_ ?_))<;>intro F
  ·refine X0 5 Z ?_;obtain rfl:=qb F;exact rG ⟨_,v,rfl,h⟩ Z
  refine X1 3 0 h Z (zcB h F (qlx (h.old c)) Z fun _ _ h F=>X0 4 Z ?_);obtain rfl:=qb F;exact rG ⟨_,v,rfl,h⟩ Z
 rintro _ _ ⟨b1,F,rfl,h⟩;subst y;refine qk Z F ?_ ?_<;>intro F
 ·exact X0 4 Z (rb h F Z)
 refine X1 6 0 h Z ?_;obtain⟨b,i,F⟩:=qc F;obtain⟨g1,g2,i⟩:=qas i;refine qaL qa Int h Z Z Z Z Z Z Z Z Z g1 g2 i Z fun _ S1 o h=>X1 10 1 h Z ?_;obtain⟨o1,F,s⟩:=qc F;refine qm (rL (fun m e w'=>∃x2 i1,qdJ a_0 a_1 m x2 i1=V o1/\e=[(2,vp d),(3,vp a),(5,oS o b.length b.length),(23,oS N a_1.Ab.length M),(24,vi (a_1.Ab.length:Int)),(25,vi i1)]/\SH w w' [oW S1 (x2:List Int) [oS o b.length b.length],oX a (qaw a_1 N P l M k3 k) 31,oX d [oS p1 a_0.As.length k1] 26]) n ⟨_,_,F,rfl,h⟩ Z ?_);rintro m1 _ _ ⟨x2,i1,F,rfl,h⟩;rcases m1 with _|m1
 ·cases F
 refine X0 5 Z (qk Z F ?_ ?_)<;>intro F
 ·refine zKSBSR ?_;obtain⟨y1,_,F,a5,_,_,_,_,a8,b8,c4,W⟩:=s2.ix F;obtain⟨_,_,rfl,s5⟩:=qaJ c4;refine zxe a8 b8 a5 Z (zc 0 (W.below h.below) Z (qj qa h Z Z Z fun _ _ h=>zs 0 h Z fun _ h=>X3 7 2 3 0 h Z (zcB h F (qkV (h.old c) (h.old g) (qnL y1 (h.oldS s5))) Z fun _ _ h F=>X0 2 Z (qk Z F ?_ ?_))))<;>intro F
  ·refine X0 4 Z ?_;obtain rfl:=qb F;replace F:=s;exact rb h F Z
  refine X2 9 0 0 h Z ?_;obtain⟨_,_,F,a6,_,_,_,_,a9,b9,rfl,X⟩:=s5.ix F;refine zxe a9 b9 a6 Z (zc 0 (X.below h.below) Z ?_);obtain⟨y3,_,F,B,_,_,_,_,b4,c0,rfl,Y⟩:=(h.sl 1 Z).1.ix F;refine zx b4 c0 ⟨B.1,qD B.2.1 (h.sl 1 Z).2⟩ Z (zc 0 Y Z (zp1 Z ?_));obtain⟨_,c6,F,C,_,_,_,_,I,K,rfl,a3⟩:=(h.sl 1 Z).1.ix F;refine zx I K ⟨C.1,qD C.2.1 (h.sl 1 Z).2⟩ Z (qaV qa 1 0 (W64 (y3+1)) h Z c6 I K Z a3 Z Z Z Z Z Z Z fun _ h=>X0 6 Z ?_);replace h:=h.p [1,2,3] Z;exact rK ⟨_,_,F,rfl,h⟩ Z
 refine qv Z ?_;obtain rfl:=qb F;replace F:=s;refine X1 8 1 h Z ?_;obtain⟨o2,F,u⟩:=qc F;refine qm ?_;replace h:=h.p [0,1] Z;refine rL (fun m e w'=>∃Q O,qcJ a_1 m Q O=V o2/\e=[(3,vp a),(5,oS o b.length b.length),(49,oS l a_1.Aj.length k),(50,vi (a_1.Aj.length:Int)),(51,vi O)]/\SH w w' [oW S1 (Q:List Int) [oS o b.length b.length],oX a (qaw a_1 N P l M k3 k) 31]) n ⟨_,_,F,rfl,h⟩ Z ?_;rintro m2 _ _ ⟨Q,O,F,rfl,h⟩;rcases m2 with _|m2
 ·cases F
 refine X0 5 Z (qk Z F ?_ ?_)<;>intro F
 ·refine zKSBSR ?_;obtain⟨y5,_,F,a7,_,_,_,_,b5,c2,c5,a4⟩:=s4.ix F;obtain rfl:=qe4 c5;refine zxe b5 c2 a7 Z (zc 0 (a4.below h.below) Z (qj qa h Z Z Z fun _ p h=>zs 0 h Z fun _ h=>zNSS ?_));obtain⟨R,x,_,F,f⟩:=bindE F;refine qay (fun e w'=>∃T,R T=V o2/\e=[(3,vp a),(5,oS o b.length b.length),(9,vp p),(49,oS l a_1.Aj.length k),(50,vi (a_1.Aj.length:Int)),(51,vi O),(69,.bool T)]/\SH w w' [oX p (qrW y5) 267,oW S1 (Q:List Int) [oS o b.length b.length],oX a (qaw a_1 N P l M k3 k) 31]) ?_ ?_
  ·refine X1 5 0 h Z (qg (t:=58) F Z ?_ ?_)<;>intro F
   ·refine X1 8 0 h Z (qg (t:=63) F Z ?_ ?_)<;>intro F
    ·refine X0 7 Z ?_;obtain rfl:=qb F;exact rG ⟨_,f,rfl,h⟩ Z
    refine X2 7 2 0 h Z (zcB h F (qhc (h.old c)) Z fun _ _ h F=>X0 4 Z ?_);obtain rfl:=qb F;exact rG ⟨_,f,rfl,h⟩ Z
   refine X2 12 2 0 h Z (zcB h F (qhc (h.old c)) Z fun _ _ h F=>X0 4 Z ?_);obtain rfl:=qb F;exact rG ⟨_,f,rfl,h⟩ Z
  rintro _ _ ⟨T,F,rfl,h⟩;subst x;refine qk Z F ?_ ?_<;>intro F
  ·refine X0 4 Z ?_;obtain rfl:=qb F;replace F:=u;exact rb h F Z
  refine X1 7 0 h Z (qk Z F ?_ ?_)<;>intro F
  ·refine X1 4 0 h Z ?_;obtain⟨y6,_,F,D,_,_,_,_,b6,c3,rfl,z⟩:=(h.sl 1 Z).1.ix F;refine zx b6 c3 ⟨D.1,qD D.2.1 (h.sl 1 Z).2⟩ Z (zc 0 z Z (zp1 Z ?_));obtain⟨_,c7,F,H,_,_,_,_,J,L,rfl,A⟩:=(h.sl 1 Z).1.ix F;refine zx J L ⟨H.1,qD H.2.1 (h.sl 1 Z).2⟩ Z (qaV qa 1 0 (W64 (y6+1)) h Z c7 J L Z A Z Z Z Z Z Z Z fun _ h=>X0 6 Z ?_);replace h:=h.p [1,2] Z;exact rK ⟨_,_,F,rfl,h⟩ Z
  refine X0 6 Z ?_;replace h:=h.p [1,2] Z;exact rK ⟨_,_,F,rfl,h⟩ Z
 refine qv Z ?_;obtain rfl:=qb F;replace F:=u;exact X0 3 Z (zcB h F (qgv (h.own 0 Z)) Z fun _ _ h F=>X0 3 Z (rb h F Z))
def qb1(c:Int)(b:qH):Nat->(List Tplace)->Int->Option ((List Tplace)×Int)|0,_,_=>U|n+1,d,a=>bif decide (a<(b.Ak.length:Int)) then(idx b.Ak a).bind fun g=>(appS d ([(⟨c,a,g,(a==(W64 ((b.Ak.length:Int)-1)))⟩:Tplace)]:List Tplace)).bind fun f=>qb1 c b n f (W64 (a+1)) else V (d,a)
def qb3(d:qh):Nat->(List Tplace)->Int->Option ((List Tplace)×Int)|0,_,_=>U|n+1,b,a=>bif decide (a<(d.Aj.length:Int)) then(idx d.Aj a).bind fun c=>(appS b ([(⟨(-1),a,c.Bz,(c.Bv==1)⟩:Tplace)]:List Tplace)).bind fun f=>qb3 d n f (W64 (a+1)) else V (b,a)
def qb0(d:qh):Nat->(List Tplace)->Int->Option ((List Tplace)×Int)|0,_,_=>U|n+1,b,a=>bif decide (a<(d.Ab.length:Int)) then(idx d.Ab a).bind fun f=>(qb1 a f n b 0).bind fun(c,_)=>qb0 d n c (W64 (a+1)) else V (b,a)
def qcF(n:Nat)(d:qh):Option (List Tplace):=(qb0 d n ([]:List Tplace) 0).bind fun(a,_)=>(qb3 d n a 0).bind fun(b,_)=>V b
theorem qff{d:qh}(z:Ro w d cs1){r:(List Tplace)}(F:qcF n d=V r):RetV prog 124 [oV qh cs1] w r:=by
 obtain⟨p1,t,p2,k2,X,k3,rfl,s1,_,s3⟩:=qaX z;refine zV 61 func124 Z fun h=>zSR (qC h Z Z fun _ a h=>X1 14 0 h Z ?_);replace h:=h.nil (α:=Tplace);obtain⟨o1,F,v⟩:=qc F;refine qm (rL (fun m e w'=>∃S1 Y i R x1 b,qb0 d m x1 b=V o1/\e=[(1,vp a),(3,oS Y i R),(11,oS p1 d.Ab.length t),(12,vi (d.Ab.length:Int)),(13,vi b)]/\SH w w' [oW S1 (x1:List Tplace) [oS Y i R],oX a (qaw d p1 p2 X t k2 k3) 31]) n ⟨_,_,_,_,_,_,F,rfl,h⟩ Z ?_);rintro W _ _ ⟨S1,Y,i,R,x1,b,F,rfl,h⟩;obtain rfl:=(h.sl 0 Z).2;rcases W with _|W
 ·cases F
 refine X0 5 Z (qk Z F ?_ ?_)<;>intro F
 ·refine X0 6 Z ?_;obtain⟨o,_,F,D,_,_,_,_,J,M,P,A⟩:=s1.ix F;obtain⟨p5,k5,rfl,s4⟩:=qaJ P;refine zxe J M D Z (zc 0 (A.below h.below) Z (qj qa h Z Z Z fun _ p h=>zp1 Z (zs 0 h Z fun _ h=>X1 8 0 h Z ?_)));obtain⟨o2,F,x⟩:=qc F;refine qm (rL (fun m e w'=>∃S2 p6 k S x2 g,qb1 b o m x2 g=V o2/\e=[(1,vp a),(3,oS p6 k S),(4,vi b),(5,vp p),(11,oS p1 d.Ab.length t),(12,vi (d.Ab.length:Int)),(13,vi b),(19,oS p5 o.Ak.length k5),(20,vi (o.Ak.length:Int)),(21,vi g)]/\SH w w' [oX p (qjP o p5 k5) 102,oW S2 (x2:List Tplace) [oS p6 k S],oX a (qaw d p1 p2 X t k2 k3) 31]) W ⟨_,_,_,_,_,_,F,rfl,h⟩ Z ?_);rintro m2 _ _ ⟨S2,p6,k,S,x2,g,F,rfl,h⟩;obtain rfl:=(h.sl 1 Z).2;rcases m2 with _|m2
  ·cases F
  refine X0 5 Z (qk Z F ?_ ?_)<;>intro F
  ·refine X0 6 Z ?_;obtain⟨y2,_,F,H,_,_,_,_,K,N,rfl,B⟩:=s4.ix F;refine zxe K N H Z (zc 0 (B.below h.below) Z (X1 14 0 h Z (r_v (qA qa [0,1,2,3] [.tmp 27,.tmp 28,.tmp 29,.tmp 35] Z Z Z Z Z Z Z Z) Z (qq qa [.tmp 36] _ ([(⟨b,g,y2,(g==(W64 ((o.Ak.length:Int)-1)))⟩:Tplace)]:List Tplace) h Z Z Z Z Z Z Z Z Z ⟨(qmh (⟨b,g,y2,(g==(W64 ((o.Ak.length:Int)-1)))⟩:Tplace)),G⟩ Z fun _ _ _ h=>?_))));obtain⟨_,c,F⟩:=qc F;obtain⟨g1,c⟩:=qE c;refine qaB qa 2 h Z (h.sl 0 Z).1 (h.sl 0 Z).2 Z Z Z Z Z Z Z Z Z g1 c Z fun _ _ _ _ h=>X0 7 Z ?_;replace h:=h.p [1,2,3] Z;exact rK ⟨_,_,_,_,_,_,F,rfl,h⟩ Z
  refine qv Z ?_;obtain rfl:=qb F;replace F:=x;refine X0 5 Z ?_;replace h:=h.p [1,2] Z;exact rK ⟨_,_,_,_,_,_,F,rfl,h⟩ Z
 refine qv Z ?_;obtain rfl:=qb F;replace F:=v;refine X1 8 1 h Z ?_;obtain⟨o3,F,y⟩:=qc F;refine qm ?_;replace h:=h.p [0] Z;refine rL (fun m e w'=>∃S5 p9 l T x4 s,qb3 d m x4 s=V o3/\e=[(3,oS p9 l T),(42,oS X d.Aj.length k3),(43,vi (d.Aj.length:Int)),(44,vi s)]/\SH w w' [oW S5 (x4:List Tplace) [oS p9 l T]]) n ⟨_,_,_,_,_,_,F,rfl,h⟩ Z ?_;rintro m3 _ _ ⟨S5,p9,l,T,x4,s,F,rfl,h⟩;obtain rfl:=(h.sl 0 Z).2;rcases m3 with _|m3
 ·cases F
 refine X0 5 Z (qk Z F ?_ ?_)<;>intro F
 ·refine X0 6 Z ?_;obtain⟨u,_,F,I,_,_,_,_,L,O,Q,C⟩:=s3.ix F;obtain rfl:=qe4 Q;refine zxe L O I Z (zc 0 (C.below h.below) Z (qj qa h Z Z Z fun _ _ h=>zp1 Z (zs 0 h Z fun _ h=>X2 9 0 0 h Z (r_v (qA qa [0,1,2,3] [.const (vi (-1)),.tmp 50,.tmp 52,.tmp 55] Z Z Z Z Z Z Z Z) Z (qq qa [.tmp 56] _ ([(⟨(-1),s,u.Bz,(u.Bv==1)⟩:Tplace)]:List Tplace) h Z Z Z Z Z Z Z Z Z ⟨(qmh (⟨(-1),s,u.Bz,(u.Bv==1)⟩:Tplace)),G⟩ Z fun _ _ _ h=>?_)))));obtain⟨_,f,F⟩:=qc F;obtain⟨g2,f⟩:=qE f;refine qaB qa 2 h Z (h.sl 0 Z).1 (h.sl 0 Z).2 Z Z Z Z Z Z Z Z Z g2 f Z fun _ _ _ _ h=>X0 7 Z ?_;replace h:=h.p [2] Z;exact rK ⟨_,_,_,_,_,_,F,rfl,h⟩ Z
 refine qv Z ?_;obtain rfl:=qb F;replace F:=y;refine X0 5 Z ?_;obtain rfl:=qb F;exact rO 0 h Z ⟨rfl,G⟩
def qbu(f:qan):Nat->Int->Option (Flow Bool Int)|0,_=>U|n+1,a=>bif decide (a<(f.Am.length:Int)) then(idx f.Am a).bind fun b=>bif (a==0) then bif (b != (-1)) then V (.ret false) else(idx f.Bu 0).bind fun d=>bif (d != 0) then V (.ret false) else bif decide (a > 0) then(qaZ n b 0 (W64 (a-1))).bind fun r1=>bif (!r1) then V (.ret false) else qbu f n (W64 (a+1)) else qbu f n (W64 (a+1)) else bif decide (a > 0) then(qaZ n b 0 (W64 (a-1))).bind fun c=>bif (!c) then V (.ret false) else qbu f n (W64 (a+1)) else qbu f n (W64 (a+1)) else V (.nxt a)
def qhq(n:Nat)(a:qan):Option Bool:=(qbu a n 0).bind fun|.ret r=>V r|.nxt _=>V true
theorem qnw{C:qan}(c:Ro w C cs1){r:Bool}(F:qhq n C=V r):RetV prog 196 [oV qan cs1] w r:=by
 obtain⟨p1,u,z,x,A,k3,B,y,rfl,s1,s2,_,_⟩:=qbR c;refine zV 38 func196 Z fun h=>zSR (qC h Z Z fun _ b h=>X1 10 0 h Z ?_);obtain⟨o1,F,a⟩:=qc F;refine qm (rL (fun m e w'=>∃s,qbu C m s=V o1/\e=[(1,vp b),(6,oS p1 C.Am.length u),(7,vi (C.Am.length:Int)),(8,vi s)]/\SH w w' [oX b (qgq C p1 z A B u x k3 y) 196]) n ⟨_,F,rfl,h⟩ Z ?_);rintro v _ _ ⟨s,F,rfl,h⟩;rcases v with _|v
 ·cases F
 refine X0 5 Z (qk Z F ?_ ?_)<;>intro F
 ·refine X0 6 Z ?_;obtain⟨_,_,F,g,_,_,_,_,k,o,rfl,d⟩:=s1.ix F;refine zxe k o g Z (zc 0 (d.below h.below) Z (X0 8 Z (qg (t:=15) F Z ?_ ?_)))<;>intro F
  ·refine X0 6 Z (qg (t:=18) F Z ?_ ?_)<;>intro F
   ·refine X0 20 Z (qb5 Z Z (X0 4 Z ?_));obtain rfl:=qb F;replace F:=a;exact rb h F Z
   refine X1 5 0 h Z ?_;obtain⟨_,_,F,i,_,_,_,_,l,p,rfl,f⟩:=s2.ix F;refine zxe l p i Z (X0 1 Z (zc 0 (f.below h.below) Z (X0 6 Z (qg (t:=26) F Z ?_ ?_))))<;>intro F
   ·refine X0 11 Z (qb5 Z Z (X0 4 Z ?_));obtain rfl:=qb F;replace F:=a;exact rb h F Z
   refine X0 6 Z (qg (t:=29) F Z ?_ ?_)<;>intro F
   ·refine X0 7 Z (zcB h F qaK Z fun _ _ h F=>X0 6 Z (qk Z F ?_ ?_))<;>intro F
    ·refine X0 4 Z ?_;obtain rfl:=qb F;replace F:=a;exact rb h F Z
    exact X0 6 Z (rK ⟨_,F,rfl,h⟩ Z)
   exact X0 9 Z (qbe Z Z (X0 6 Z (rK ⟨_,F,rfl,h⟩ Z)))
  refine X0 17 Z (qg (t:=29) F Z ?_ ?_)<;>intro F
  ·refine X0 7 Z (zcB h F qaK Z fun _ _ h F=>X0 6 Z (qk Z F ?_ ?_))<;>intro F
   ·refine X0 4 Z ?_;obtain rfl:=qb F;replace F:=a;exact rb h F Z
   exact X0 6 Z (rK ⟨_,F,rfl,h⟩ Z)
  exact X0 9 Z (qbe Z Z (X0 6 Z (rK ⟨_,F,rfl,h⟩ Z)))
 refine qv Z ?_;obtain rfl:=qb F;replace F:=a;exact X0 4 Z (rb h F Z)
def qla(n:Nat)(k:qan)(sinks:Int):Option Bool:=(qbI n k.Am).bind fun r1=>(qaZ n r1 1 8).bind fun a=>bif a then(qbI n k.Bu).bind fun b=>bif (b==r1) then(qbI n k.Bq).bind fun c=>bif (c==r1) then(qhq n k).bind fun d=>bif d then(qcb n k.Bu 0 1000).bind fun f=>bif f then(qcb n k.Bq 0 500).bind fun g=>bif g then(qbI n k.Bk).bind fun h=>bif (h==sinks) then(qcb n k.Bk 0 (W64 (r1-1))).bind fun i=>V i else V false else V false else V false else V false else V false else V false else V false
theorem qqi{d:qan}{sinks}(a:Ro w d cs1){r:Bool}(F:qla n d sinks=V r):RetV prog 125 [oV qan cs1,vi sinks] w r:=by
 obtain⟨_,_,_,_,_,_,_,_,rfl,s1,s2,b,c⟩:=qbR a;refine zV 53 func125 Z fun h=>zSR (qC h Z Z fun _ _ h=>X1 6 0 h Z (zcI h F (qcQ ⟨_,_,rfl,(h.oldS s1)⟩) Z fun _ _ h F=>X0 5 Z (zcB h F qaK Z fun _ _ h F=>zp1 Z (qg (t:=11) F Z ?_ ?_))))<;>intro F
 ·refine X1 5 0 h Z (zcI h F (qcQ ⟨_,_,rfl,(h.oldS s2)⟩) Z fun _ _ h F=>X0 6 Z (qg (t:=18) F Z ?_ ?_))<;>intro F
  ·refine X1 5 0 h Z (zcI h F (qcQ ⟨_,_,rfl,(h.oldS b)⟩) Z fun _ _ h F=>X0 6 Z (qg (t:=25) F Z ?_ ?_))<;>intro F
   ·refine X1 3 0 h Z (zcB h F (qnw (h.old a)) Z fun _ _ h F=>zp2 Z (qg (t:=29) F Z ?_ ?_))<;>intro F
    ·refine X1 5 0 h Z (zcB h F (qcv ⟨_,_,rfl,(h.oldS s2)⟩) Z fun _ _ h F=>zp2 Z (qg (t:=34) F Z ?_ ?_))<;>intro F
     ·refine X1 5 0 h Z (zcB h F (qcv ⟨_,_,rfl,(h.oldS b)⟩) Z fun _ _ h F=>zp2 Z (qg (t:=39) F Z ?_ ?_))<;>intro F
      ·refine X1 5 0 h Z (zcI h F (qcQ ⟨_,_,rfl,(h.oldS c)⟩) Z fun _ _ h F=>X0 6 Z (qg (t:=46) F Z ?_ ?_))<;>intro F
       ·exact X1 9 0 h Z (zcB h F (qcv ⟨_,_,rfl,(h.oldS c)⟩) Z fun _ _ h F=>X0 3 Z (rb h F Z))
       exact X0 8 Z (rb h F Z)
      exact X0 15 Z (rb h F Z)
     exact X0 20 Z (rb h F Z)
    exact X0 25 Z (rb h F Z)
   exact X0 29 Z (rb h F Z)
  exact X0 36 Z (rb h F Z)
 exact X0 43 Z (rb h F Z)
def qfp(b:qe)(c:(List Int)):Nat->Int->Option (Flow Bool Int)|0,_=>U|n+1,a=>bif decide (a<(b.Af.length:Int)) then(idx b.Af a).bind fun f=>(idx c a).bind fun g=>(qla n f g).bind fun d=>bif (!d) then V (.ret false) else qfp b c n (W64 (a+1)) else V (.nxt a)
def qdp(r1:(List Tplace)):Nat->(List Int)->Int->Option ((List Int)×Int)|0,_,_=>U|n+1,b,a=>bif decide (a<(r1.length:Int)) then(idx r1 a).bind fun c=>bif (!c.drives) then(idx b c.net).bind fun d=>(idx b c.net).bind fun _=>qdp r1 n (setS b c.net (W64 (d+1))) (W64 (a+1)) else qdp r1 n b (W64 (a+1)) else V (b,a)
def qhD(n:Nat)(b:qe):Option Bool:=((qjs n (⟨b.Aq.As⟩:qw) (⟨b.Aa.Ab,b.Aa.Ak,b.Aa.Aj⟩:qh)).bind fun a=>bif (!a) then V true else V ((b.Af.length:Int) != (b.Aa.Ak.length:Int))).bind fun b1=>bif b1 then V false else(mkS (b.Af.length:Int) (0:Int)).bind fun c=>(qcF n (⟨b.Aa.Ab,b.Aa.Ak,b.Aa.Aj⟩:qh)).bind fun r1=>(qdp r1 n c 0).bind fun(d,_)=>(qfp b d n 0).bind fun|.ret r=>V r|.nxt _=>V true
theorem qmo{b:qe}(A:Ro w b cs1){r:Bool}(F:qhD n b=V r):RetV prog 54 [oV qe cs1] w r:=by
 obtain⟨p1,k1,p2,k2,p3,k3,p4,k4,p5,k5,rfl,s1,s2,s3,s4,s5⟩:=qO A;refine zV 63 func54 Z fun h=>zSR (qC h Z Z fun _ a h=>X0 4 Z ?_);obtain⟨y,i,_,F,g⟩:=bindE F;refine qay (fun e w'=>∃b1,y b1=V r/\e=[(1,vp a),(23,.bool b1)]/\SH w w' [oX a (qG b p1 p2 p3 p4 p5 k1 k2 k3 k4 k5) 34]) ?_ ?_
 ·refine X2 5 0 0 h Z (zcB h F (qo1 (qi7 _ (h.oldS s1)) (qaY _ (h.oldS s2) (h.oldS s3) (h.oldS s4))) Z fun _ _ h F=>zp2 Z (qg (t:=14) F Z ?_ ?_))<;>intro F
  ·refine X0 10 Z ?_;obtain rfl:=qb F;exact rG ⟨_,g,rfl,h⟩ Z
  refine X2 18 0 0 h Z ?_;obtain rfl:=qb F;exact rG ⟨_,g,rfl,h⟩ Z
 rintro _ _ ⟨b1,F,rfl,h⟩;subst i;refine qk Z F ?_ ?_<;>intro F
 ·exact X0 4 Z (rb h F Z)
 refine X1 6 0 h Z ?_;obtain⟨c,d,F⟩:=qc F;obtain⟨g1,g2,d⟩:=qas d;refine qaL qa Int h Z Z Z Z Z Z Z Z Z g1 g2 d Z fun _ S1 x h=>X1 7 1 h Z (zcL h F (qff (qaY _ (h.oldS s2) (h.oldS s3) (h.oldS s4))) Z fun r1 _ S2 p7 k6 h F=>X0 3 Z ?_);obtain⟨o1,F,z⟩:=qc F;refine qm (rL (fun m e w'=>∃v Y,qdp r1 m v Y=V o1/\e=[(1,vp a),(3,oS x c.length c.length),(30,oS p7 r1.length k6),(31,vi (r1.length:Int)),(32,vi Y)]/\SH w w' [oW S2 (r1:List Tplace) [oS p7 r1.length k6],oW S1 (v:List Int) [oS x c.length c.length],oX a (qG b p1 p2 p3 p4 p5 k1 k2 k3 k4 k5) 34]) n ⟨_,_,F,rfl,h⟩ Z ?_);rintro m1 _ _ ⟨v,Y,F,rfl,h⟩;rcases m1 with _|m1
 ·cases F
 refine X0 5 Z (qk Z F ?_ ?_)<;>intro F
 ·refine zKSBSR ?_;obtain⟨_,_,F,k,_,_,_,_,K,O,S,B⟩:=(h.sl 0 Z).1.ix F;obtain rfl:=qg6 S;refine zx K O ⟨k.1,qD k.2.1 (h.sl 0 Z).2⟩ Z (zc 0 B Z (qj qa h Z Z Z fun _ _ h=>zs 0 h Z fun _ h=>X1 7 0 h Z (qk Z F ?_ ?_)))<;>intro F
  ·refine X1 4 0 h Z ?_;obtain⟨y2,_,F,l,_,_,_,_,L,P,rfl,C⟩:=(h.sl 2 Z).1.ix F;refine zx L P ⟨l.1,qD l.2.1 (h.sl 2 Z).2⟩ Z (zc 0 C Z (zp1 Z ?_));obtain⟨_,X,F,o,_,_,_,_,s,u,rfl,D⟩:=(h.sl 2 Z).1.ix F;refine zx s u ⟨o.1,qD o.2.1 (h.sl 2 Z).2⟩ Z (qaV qa 2 0 (W64 (y2+1)) h Z X s u Z D Z Z Z Z Z Z Z fun _ h=>X0 6 Z ?_);replace h:=h.p [1,2,3] Z;exact rK ⟨_,_,F,rfl,h⟩ Z
  refine X0 6 Z ?_;replace h:=h.p [1,2,3] Z;exact rK ⟨_,_,F,rfl,h⟩ Z
 refine qv Z ?_;obtain rfl:=qb F;replace F:=z;refine X1 8 2 h Z ?_;obtain⟨o2,F,f⟩:=qc F;refine qm ?_;replace h:=h.p [1] Z;refine rL (fun m e w'=>∃i2,qfp b v m i2=V o2/\e=[(3,oS x c.length c.length),(48,oS p5 b.Af.length k5),(49,vi (b.Af.length:Int)),(50,vi i2)]/\SH w w' [oW S1 (v:List Int) [oS x c.length c.length]]) n ⟨_,F,rfl,h⟩ Z ?_;rintro m2 _ _ ⟨i2,F,rfl,h⟩;rcases m2 with _|m2
 ·cases F
 refine X0 5 Z (qk Z F ?_ ?_)<;>intro F
 ·refine X0 6 Z ?_;obtain⟨y4,_,F,J,_,_,_,_,M,Q,T,H⟩:=s5.ix F;obtain⟨_,_,_,_,_,_,_,_,rfl,s6,s7,s8,s9⟩:=qbR T;refine zxe M Q J Z (zc 0 (H.below h.below) Z (qj qa h Z Z Z fun _ _ h=>zp1 Z (zs 0 h Z fun _ h=>zNS (rD (Y1 1 0 h Z ?_)))));refine zd2 Z ?_;obtain⟨_,_,F,p,_,_,_,_,N,R,rfl,I⟩:=(h.sl 1 Z).1.ix F;refine zdx N R ⟨p.1,qD p.2.1 (h.sl 1 Z).2⟩ Z (zdc 0 I Z ?_);obtain⟨r2,W,F⟩:=qc F;refine qbK r2 (vsB _) (cB 125 Z) (fun _ hb=>qqi (qrr y4 ((h.ext hb).oldS s6) ((h.ext hb).oldS s7) ((h.ext hb).oldS s8) ((h.ext hb).oldS s9)) W) Z Z Z Z (zd1 Z (dN h fun _ h=>qk Z F ?_ ?_))<;>intro F
  ·refine X0 4 Z ?_;obtain rfl:=qb F;replace F:=f;exact rb h F Z
  refine X0 6 Z ?_;replace h:=h.p [1] Z;exact rK ⟨_,F,rfl,h⟩ Z
 refine qv Z ?_;obtain rfl:=qb F;replace F:=f;exact X0 4 Z (rb h F Z)
end Go.Fw
