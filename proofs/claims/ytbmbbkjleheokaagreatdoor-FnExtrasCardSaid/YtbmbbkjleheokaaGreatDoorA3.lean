/- Calls that hand out parts of memory one by one: what is owned stays apart. -/
import Derived.Test.YtbmbbkjleheokaaGreatDoorFw38
import Derived.Sort.Grow
import Derived.Lib.SlicesCompact
import Derived.Laws.StructEq
import Derived.Test.YtbmbbkjleheokaaGreatDoorChecked
import Derived.Test.YtbmbbkjleheokaaGreatDoorS1
open Option renaming some → V, none → U
open Nat renaming le_of_ble_eq_true → jq, le_trans → Je
open Bool renaming and_eq_true → jf, not_eq_true' → jD
open List renaming not_mem_nil → jy, mem_of_getElem? → jA, mem_cons → jG, mem_append_left → jL, mem_append_right → jX
open Array renaming getElem?_append_left → jH

namespace Go.Fw
open Go
open Go.RowKit (Below)
section
variable {P:Program}{T:Tab}{n:Nat}{Q:Exit→Act→World→Prop}{k:List It}{e:Env}{w0 w w':World}{L L':List Ch}
theorem SH.append (h:SH w0 w L)(hL:SH w w' L')(hD:∀ c,c ∈ L'→∀ b,c.D b→b<w0.heap.size):SH w0 w' (L'++L):=by
 have h':=h.ext hL.below;refine⟨h'.below,fun c hc=>?_,fun c hc=>?_,?_⟩
 ·rcases List.mem_append.1 hc with hc|hc
  ·obtain⟨p,s⟩:=hL.holds c hc;exact⟨p,fun b hb=>⟨Je h.below.size (s b hb).1,(s b hb).2⟩⟩
  ·exact h'.holds c hc
 ·rcases List.mem_append.1 hc with hc|hc
  ·exact hD c hc
  ·exact h.elder c hc
 ·refine List.pairwise_append.2 ⟨hL.apart,h.apart,fun c hc d hd b hcb hdb=>?_⟩;have h1:=((hL.holds c hc).2 b hcb).1;have h2:=((h.holds d hd).2 b hdb).2;omega
theorem SH.appendN (h:SH w0 w L)(hL:SH w w' L')(hD:NoD L'):SH w0 w' (L'++L):=
 SH.append h hL fun c hc b hb=>absurd hb (NoD.all hD c hc b)
def RetZ (P:Program)(f:FuncId)(vs:List Value)(w:World)(Φ:List Value→List Ch→Prop):Prop:=
 Calls P f vs.toArray w fun e w'=>∃ v,e=.returned v∧Below w.heap.size w w'∧∃ us L,v=tup us∧SH w w' L∧Φ us L
theorem qox {Φ:List Value→List Ch→Prop}{all:Array Oper}{l:List Oper}{d ty:Nat}{ps:String}{af:Array Edge}{x:Operand}{args:Array Operand}{ats:Array TypeId}{f:FuncId}{fi ca:Array Value}{az vs:List Value}
  (hcall:qeF P f) (hc:RetZ P f vs w Φ) (hx:opv e x=V (.func (.func f) fi ca)) (hargs:opvs e args.toList=V az) (hvs:fi.toList++az++ca.toList=vs) (hn:Nat.blt d n=true)
  (hk:∀ w' us L',SH w w' L'→Φ us L'→Run P n Q (.ops all l::k) ((d,tup us)::e) w') :
  Run P n Q (.ops all (⟨V d,.call ⟨.value x,args,ats⟩,ty,ps,af,U⟩::l)::k) e w:=by
 subst hvs;refine qk0 (R:=fun v w'=>Below w.heap.size w w'∧∃ us L,v=tup us∧SH w w' L∧Φ us L) Z Z hn (fun a ha=>qhH ha hcall hx hargs w) hc ?_;rintro v w' ⟨_,us,L',rfl,hL,hv⟩;exact hk w' us L' hL hv
theorem qj6 {f:FuncId}{fn:Func}{c:Code}{vs:List Value}{Φ:List Value→List Ch→Prop}{m:Nat}(hf:P.funcs[f]?=V fn)(hb:fn.body=V c)(hm:fn.ntmps=m)(hn:Nat.ble vs.length m=true)
  (h:SH w w []→Run P m (bodyPost P fn fun e w'=>∃ v,e=.returned v∧Below w.heap.size w w'∧∃ us L,v=tup us∧SH w w' L∧Φ us L) [.code c] (argEnv 0 vs) w):RetZ P f vs w Φ:=by
 subst hm;have hn':=jq hn;refine calls_of_wp hf hb ?_;have hr:=h (SH.start w);have hag:Agree fn.ntmps (argEnv 0 vs) { tmps:=vs.toArray++Array.replicate (fn.ntmps-vs.toArray.size) undef,defers:=[] }:=by
  refine⟨rfl,by simp;omega,fun i v hi=>?_⟩;obtain⟨_,h2⟩:=qhv vs 0 i v hi;simp only[Nat.sub_zero] at h2;have hlt:=(List.getElem?_eq_some_iff.1 h2).1;rw[jH (by simpa using hlt)];simpa using h2
 have h1:=hr _ hag;refine wp_mono h1 ?_;intro ex a' w' hq;cases ex<;>exact hq
theorem qlR (hT:TabOk P T){fn:Func}{Φ:List Value→List Ch→Prop}(us:List Value)(h:SH w0 w L)(hr:ResOk T e w fn.results.toList us)(hv:Φ us L) :
  Run P n (bodyPost P fn fun e w'=>∃ v,e=.returned v∧Below w0.heap.size w0 w'∧∃ us L,v=tup us∧SH w0 w' L∧Φ us L) (.code .ret::k) e w:=
 qpG fun _ ha=>⟨ha.defers,tup us,qfQ hT ha hr,tup us,rfl,h.below,us,L,rfl,h,hv⟩
end
end Go.Fw


namespace Go.Fw
open Go Go.Sort
open Go.RowKit (Below)
section
variable {P:Program}{T:Tab}{n:Nat}{Q:Exit→Act→World→Prop}{k:List It}{e:Env}{w0 w w':World}{L L':List Ch}
end
end Go.Fw


namespace Go.Fw
open Go
open Go.RowKit (Below)
section
variable {w0 w w':World}{L:List Ch}{α:Type}[GoT α]
def RAll (w:World)(A:Nat→Prop):List α→List (Raw α)→Prop
 | [],[]=>True
 | x::xs,r::rs=>GoT.R w A x r.cs∧RAll w A xs rs
 | _,_=>False
theorem RAll.at {A:Nat→Prop}:∀ {xs:List α} {rs:List (Raw α)},RAll w A xs rs→xs.length=rs.length∧∀ (i:Nat) x,xs[i]?=V x→∃ r,rs[i]?=V r∧GoT.R w A x r.cs
 | [],[],_=>⟨rfl,fun i x h=>by simp at h⟩
 | x::xs,[],h=>h.elim
 | [],r::rs,h=>h.elim
 | x::xs,r::rs,h=>by
  obtain⟨hl,ha⟩:=RAll.at h.2;refine⟨by simp[hl],fun i y hy=>?_⟩;cases i with
  | zero=>simp only[List.getElem?_cons_zero,Option.some.injEq] at hy ⊢;subst hy;exact⟨r,rfl,h.1⟩
  | succ i=>simp only[List.getElem?_cons_succ] at hy ⊢;exact ha i y hy
end
end Go.Fw


namespace Go.Fw
open Go
end Go.Fw


namespace Go.Fw
open Go
open Go.RowKit (Below)
section
variable {P:Program}{T:Tab}{n:Nat}{Q:Exit→Act→World→Prop}{k:List It}{e:Env}{w0 w:World}{L:List Ch}
variable {α:Type}[GoT α]{S S1:Nat→Prop}{xs ys:List α}{p p':Option Addr}{c c':Nat}
end
section
variable {α β γ:Type}
def Emp (o:Option (List α)):Prop:=∀ r,o=V r→r=[]
theorem Emp.none:Emp (U:Option (List α)):=fun _ h=>by cases h
theorem Emp.noneB {f:β→Option (List α)}:Emp ((Option.none:Option β).bind f):=fun _ h=>by cases h
theorem Emp.nil:Emp (V ([]:List α)):=fun _ h=>(Option.some.inj h).symm
theorem Emp.bif {c:Bool}{a b:Option (List α)}(h1:Emp a)(h2:Emp b):Emp (bif c then a else b):=by cases c<;>assumption
theorem Emp.sub {xs:List β}{lo:Int}{f:List β→Option (List α)}(h:Emp (f [])):Emp ((subS xs lo ((0:Nat):Int)).bind f):=fun r hr=>by
 cases hs:subS xs lo ((0:Nat):Int) with
 | none=>rw[hs] at hr;cases hr
 | some y=>
  rw[hs] at hr;obtain⟨_,_,_,e⟩:=qnq hs;have:y=[]:=by rw[←e];simp
  subst this;exact h r hr
theorem Emp.bind {x:Option β}{f:β→Option (List α)}(h:∀ y,Emp (f y)):Emp (x.bind f):=by
 cases x with
 | none=>exact Emp.noneB
 | some y=>exact h y
end
end Go.Fw


namespace Go.Fw
open Go
section
variable {ε:Type}
variable {ρ σ τ:Type}
end

end Go.Fw


namespace Go.Fw
open Go
open Go.RowKit (Below)
structure Same where
 w:World
 K:Nat→Prop
instance instSame:GoT Same where
 k:=1
 agg:=false
 zero:=⟨default,fun _=>False⟩
 zc:=[.bool true]
 R w S x cs:=cs=[.bool true]∧∀ b,x.K b→S b∧w.heap[b]?=x.w.heap[b]?
 O w S x cs:=cs=[.bool true]∧∀ b,x.K b→S b∧w.heap[b]?=x.w.heap[b]?
 kpos:=by decide
 noagg _:=rfl
 len h:=by obtain⟨rfl,_⟩:=h;rfl
 one h:=by obtain⟨rfl,_⟩:=h;simp[Value.oneCell']
 loc h hs:=⟨h.1,fun b hb=>⟨(h.2 b hb).1,(hs b (h.2 b hb).1).trans (h.2 b hb).2⟩⟩
 mono h hs:=⟨h.1,fun b hb=>⟨hs b (h.2 b hb).1,(h.2 b hb).2⟩⟩
 toR h:=h
 locO h hs:=⟨h.1,fun b hb=>⟨(h.2 b hb).1,(hs b (h.2 b hb).1).trans (h.2 b hb).2⟩⟩
 monoO h hs:=⟨h.1,fun b hb=>⟨hs b (h.2 b hb).1,(h.2 b hb).2⟩⟩
 zO _ _:=⟨rfl,fun _ h=>h.elim⟩
def FS (F:List Ch)(b:Nat):Prop:=∃ d,d ∈ F∧d.S b
abbrev Fr (w0:World)(F:List Ch)(b:Nat):Prop:=FS F b∨old w0 b
abbrev same (w0 w:World)(F:List Ch):Fct:=fct (⟨w,Fr w0 F⟩:Same) [.bool true]
section
variable {P:Program}{T:Tab}{n:Nat}{Q:Exit→Act→World→Prop}{k:List It}{e:Env}{w0 w w':World}{L L' F:List Ch}
theorem SH.frame (L:List Ch)(h:SH w0 w (L++F)):SH w0 w (L++[Ch.grp (Fw.old w0) (FS F) [same w0 w F]]):=by
 have hp:=List.pairwise_append.1 h.apart;refine⟨h.below,fun c hc=>?_,fun c hc=>?_,List.pairwise_append.2 ⟨hp.1,List.pairwise_singleton ..,fun c hc d hd b hb=>?_⟩⟩
 ·rcases List.mem_append.1 hc with hc|hc
  ·exact h.holds c (jL _ hc)
  ·obtain rfl:=List.mem_singleton.1 hc;refine⟨fun f hf=>?_,fun b hb=>?_⟩
   ·obtain rfl:=List.mem_singleton.1 hf;exact⟨rfl,fun b hb=>⟨hb,rfl⟩⟩
   ·obtain⟨d,hd,hb⟩:=hb;exact(h.holds d (jX _ hd)).2 b hb
 ·rcases List.mem_append.1 hc with hc|hc
  ·exact h.elder c (jL _ hc)
  ·obtain rfl:=List.mem_singleton.1 hc;exact fun b hb=>hb
 ·obtain rfl:=List.mem_singleton.1 hd;rintro⟨d,hd,hdb⟩;exact hp.2.2 c hc d hd b hb hdb
theorem SH.unframe {L0:List Ch}{fs:List Fct}(j:Nat)(h0:SH w0 w (L0++F))(L':List Ch)(h:SH w0 w' (L'++[Ch.grp (Fw.old w0) (FS F) fs]))(hj:fs[j]?=V (same w0 w F)):SH w0 w' (L'++F):=by
 have hp:=List.pairwise_append.1 h.apart;have hp0:=List.pairwise_append.1 h0.apart;have hg:=h.holds (Ch.grp (Fw.old w0) (FS F) fs) (jX _ (List.mem_singleton.2 Z));have hs:∀ b,Fr w0 F b→w'.heap[b]?=w.heap[b]?:=fun b hb=>((hg.1 _ (jA hj)).2 b hb).2;refine⟨h.below,fun c hc=>?_,fun c hc=>?_,List.pairwise_append.2 ⟨hp.1,hp0.2.1,fun c hc d hd b hb hdb=>?_⟩⟩
 ·rcases List.mem_append.1 hc with hc|hc
  ·exact h.holds c (jL _ hc)
  ·obtain⟨h1,h2⟩:=h0.holds c (jX _ hc);exact⟨c.loc w w' (fun b hb=>hs b (.inl ⟨c,hc,hb⟩)) (fun b hb=>hs b (.inr (h0.elder c (jX _ hc) b hb))) h1,fun b hb=>hg.2 b ⟨c,hc,hb⟩⟩
 ·rcases List.mem_append.1 hc with hc|hc
  ·exact h.elder c (jL _ hc)
  ·exact h0.elder c (jX _ hc)
 ·exact hp.2.2 c hc _ (List.mem_singleton.2 Z) b hb ⟨d,hd,hdb⟩
variable {α:Type}[GoT α]{x:α}{cs:List Value}{S D:Nat→Prop}{fs:List Fct}
theorem SH.frB {c:Ch}(i m:Nat)(hi:L[i]?=V c)(hm:Nat.ble m i=true):∀ b,c.S b→FS (L.drop m) b:=fun b hb=>by
 have hm':=jq hm;refine⟨c,jA (i:=i-m) ?_,hb⟩;rw[List.getElem?_drop,show m+(i-m)=i by omega];exact hi
theorem SH.frG (i j m:Nat)(h:SH w0 w L)(hi:L[i]?=V (Ch.grp D S fs))(hj:fs[j]?=V (fct x cs))(hm:Nat.ble m i=true):GoT.R w (Fr w0 (L.drop m)) x cs:=
 GoT.mono (h.grpS i j hi hj) fun b hb=>hb.elim (fun hb=>.inl (SH.frB i m hi hm b hb)) fun hb=>.inr (h.elder _ (jA hi) b hb)
theorem SH.frOldS {F:List Ch}{xs:List α}{p:Option Addr}{c:Nat}(h:SH w0 w L)(hr:SlR w0 (Fw.old w0) xs p c):SlR w (Fr w0 F) xs p c:=
 (hr.loc fun b hb=>h.below.block b hb).mono fun _ hb=>.inr hb
def RetW (P:Program)(f:FuncId)(vs:List Value)(w:World)(J:List Value→World→Prop):Prop:=
 Calls P f vs.toArray w fun e w'=>∃ us,e=.returned (tup us)∧J us w'
theorem qaO {J:List Value→World→Prop}{all:Array Oper}{l:List Oper}{d ty:Nat}{ps:String}{af:Array Edge}{x:Operand}{args:Array Operand}{ats:Array TypeId}{f:FuncId}{fi ca:Array Value}{az vs:List Value}
  (hcall:qeF P f) (hc:RetW P f vs w J) (hx:opv e x=V (.func (.func f) fi ca)) (hargs:opvs e args.toList=V az) (hvs:fi.toList++az++ca.toList=vs) (hn:Nat.blt d n=true)
  (hk:∀ w' us,J us w'→Run P n Q (.ops all l::k) ((d,tup us)::e) w'):Run P n Q (.ops all (⟨V d,.call ⟨.value x,args,ats⟩,ty,ps,af,U⟩::l)::k) e w:=by
 subst hvs;refine qk0 (R:=fun v w'=>∃ us,v=tup us∧J us w') Z Z hn (fun a ha=>qhH ha hcall hx hargs w) (hc.mono ?_) ?_
 ·rintro e w' ⟨us,rfl,h⟩;exact⟨_,rfl,us,rfl,h⟩
 ·rintro v w' ⟨us,rfl,h⟩;exact hk w' us h
theorem qbA {J:List Value→World→Prop}{f:FuncId}{fn:Func}{c:Code}{vs:List Value}{m:Nat}(hf:P.funcs[f]?=V fn)(hb:fn.body=V c)(hm:fn.ntmps=m)(hn:Nat.ble vs.length m=true)
  (h:Run P m (bodyPost P fn fun e w'=>∃ us,e=.returned (tup us)∧J us w') [.code c] (argEnv 0 vs) w):RetW P f vs w J:=by
 subst hm;have hn':=jq hn;refine calls_of_wp hf hb ?_;have hag:Agree fn.ntmps (argEnv 0 vs) { tmps:=vs.toArray++Array.replicate (fn.ntmps-vs.toArray.size) undef,defers:=[] }:=by
  refine⟨rfl,by simp;omega,fun i v hi=>?_⟩;obtain⟨_,h2⟩:=qhv vs 0 i v hi;simp only[Nat.sub_zero] at h2;have hlt:=(List.getElem?_eq_some_iff.1 h2).1;rw[jH (by simpa using hlt)];simpa using h2
 have h1:=h _ hag;refine wp_mono h1 ?_;intro ex a' w' hq;cases ex<;>exact hq
theorem qaZ {J:List Value→World→Prop}(hT:TabOk P T){fn:Func}(us:List Value)(hr:ResOk T e w fn.results.toList us)(h:J us w) :
  Run P n (bodyPost P fn fun e w'=>∃ us,e=.returned (tup us)∧J us w') (.code .ret::k) e w:=
 qpG fun _ ha=>⟨ha.defers,tup us,qfQ hT ha hr,us,rfl,h⟩
end
section
open Go.ChangeShapes Go.RowKit
variable {H:Type}{enc:TypeId×Value→H}{P:Program}{w:World}{base:Nat}{spare:Nat→Bool}{held:Bool}
end

section
variable {P:Program}{T:Tab}{n:Nat}{Q:Exit→Act→World→Prop}{k:List It}{e:Env}{w0 w w':World}{L:List Ch}
variable {α β:Type}[GoT α][GoT β]{S Sr Se D:Nat→Prop}{xs ys:List α}{p p':Option Addr}{c c':Nat}{fs:List Fct}{x:α}{cs:List Value}
theorem RAll.loc {A:Nat→Prop}:∀ {xs:List α} {rs:List (Raw α)},RAll w A xs rs→(∀ b,A b→w'.heap[b]?=w.heap[b]?)→RAll w' A xs rs
 | [],[],_,_=>trivial
 | _::_,[],h,_=>h.elim
 | [],_::_,h,_=>h.elim
 | _::_,_::_,h,hb=>⟨GoT.loc h.1 hb,RAll.loc h.2 hb⟩
theorem RAll.mono {A B:Nat→Prop}(hb:∀ b,A b→B b):∀ {xs:List α} {rs:List (Raw α)},RAll w A xs rs→RAll w B xs rs
 | [],[],_=>trivial
 | _::_,[],h=>h.elim
 | [],_::_,h=>h.elim
 | _::_,_::_,h=>⟨GoT.mono h.1 hb,RAll.mono hb h.2⟩
theorem RAll.app {A:Nat→Prop}:∀ {xs:List α} {rs:List (Raw α)} {ys:List α} {qs:List (Raw α)},RAll w A xs rs→RAll w A ys qs→RAll w A (xs++ys) (rs++qs)
 | [],[],_,_,_,h=>h
 | _::_,[],_,_,h,_=>h.elim
 | [],_::_,_,_,h,_=>h.elim
 | _::_,_::_,_,_,h,h'=>⟨h.1,RAll.app h.2 h'⟩
theorem RAll.of {A:Nat→Prop}:∀ {xs:List α} {rs:List (Raw α)},xs.length=rs.length→(∀ (i:Nat) (x:α) (r:Raw α),xs[i]?=V x→rs[i]?=V r→GoT.R w A x r.cs)→RAll w A xs rs
 | [],[],_,_=>trivial
 | _::_,[],h,_=>by cases h
 | [],_::_,h,_=>by cases h
 | x::xs,r::rs,h,ha=>⟨ha 0 x r Z Z,RAll.of (by simpa using h) fun i y q hy hq=>ha (i+1) y q (by simpa using hy) (by simpa using hq)⟩
theorem RAll.len {A:Nat→Prop}{rs:List (Raw α)}(h:RAll w A xs rs):xs.length=rs.length:=h.at.1
theorem SH.frzI (i:Nat)(h:SH w0 w L)(hi:L[i]?=V (Ch.own S x cs)):SH w0 w (L.set i (Ch.grp (fun _=>False) S [fct x cs])):=
 h.say hi (fun hp f hf=>by
  obtain rfl:=List.mem_singleton.1 hf;have hp':GoT.O w S x cs:=hp;exact GoT.mono (S':=fun b=>S b∨False) (x:=x) (cs:=cs) (GoT.toR hp') (fun b hb=>.inl hb)) (fun _ h=>h) (fun _ h=>h.elim)
end
end Go.Fw


namespace Go.Fw
open Go
def rng8 (x:IntK .u8):Prop:=0≤x.val∧x.val≤255
theorem qtT {P:Program}{t:TypeId}(ht:P.underlying t=V (.int .u8))(hc:P.cellsOf t=1):Opens P t (gt_IntK (kd:=.u8)) rng8:=
 ⟨hc,fun h=>by
  obtain⟨n,rfl,_,hw⟩:=DataW.trod_int ht h;exact⟨⟨n⟩,rfl,by simp only[Lit.wf,IntKind.min,IntKind.max,jf] at hw;simp[IntKind.bits,IntKind.signed] at hw;unfold rng8;simp only;omega⟩⟩
end Go.Fw


namespace Go.Fw
open Go
open Go.RowKit (Below)
section
variable {P:Program}{T:Tab}{n:Nat}{Q:Exit→Act→World→Prop}{k:List It}{e:Env}{w0 w w':World}{L:List Ch}
end

section
variable {P:Program}{T:Tab}{n:Nat}{e:Env}{w:World}
def b3 (a0:Bool)(a1 a2 a3:Int):Array Value:=#[.bool a0,.int .i64 a1,.int .i64 a2,.int .i64 a3]
end
end Go.Fw


namespace Go.Fw
open Go
section
variable {P:Program}{T:Tab}{n:Nat}{e:Env}{w:World}
theorem qqt {x y:Operand}{t t' d ty:Nat}{ps:String}{af:Array Edge}{g:Option (Nat×Bool)}{a b r:Int}(h0:b ≠ 0)(hr:a.tmod b=r)
  (hx:opv e x=V (.int .i64 a)) (hy:opv e y=V (.int .i64 b)):Val P n e ⟨V d,.binOp .rem t x y t',ty,ps,af,g⟩ w (.int .i64 r):=hr ▸ qtM h0 hx hy
end
end Go.Fw


namespace Go.Fw
open Go
open Go.RowKit (Below)
section
variable {P:Program}{T:Tab}{n:Nat}{Q:Exit→Act→World→Prop}{k:List It}{e:Env}{w0 w w':World}{L:List Ch}
variable {α β:Type}[GoT α][GoT β]{S Sr Se D:Nat→Prop}{xs ys:List α}{p p':Option Addr}{c c':Nat}{fs:List Fct}{x:α}{cs:List Value}
end
end Go.Fw


namespace Go.Fw
open Go Go.Proofs Go.Proofs.Tryz
open Go.RowKit (Below)
set_option maxRecDepth 100000
set_option maxHeartbeats 6400000
variable {n:Nat}{w:World}{S:Nat→Prop}{cs1 cs2 cs3 cs4 cs5 cs6 cs7 cs8 cs9:List Value}
structure qap where
 Ba:ByteArray
 Bs:Int
 Bl:Int
 Bo:Bool
instance gt_TPin:GoT qap:=isoT (pairT instStr (pairT instInt (pairT instInt instBool))) (fun x=>(x.Ba,x.Bs,x.Bl,x.Bo)) ⟨ByteArray.empty,0,0,false⟩ Z true (fun h=>by cases h)
instance fl_TPin:Flat qap:=qfz (pairT instStr (pairT instInt (pairT instInt instBool))) (fun x:qap=>(x.Ba,x.Bs,x.Bl,x.Bo)) ⟨ByteArray.empty,0,0,false⟩ Z true (fun h=>by cases h) (qaN _ _ (inferInstanceAs (Flat ByteArray)) (qaN _ _ (inferInstanceAs (Flat Int)) (qaN _ _ (inferInstanceAs (Flat Int)) (inferInstanceAs (Flat Bool)))))
abbrev qoF (x:qap):List Value:=[.string x.Ba,.int .i64 x.Bs,.int .i64 x.Bl,.bool x.Bo]
theorem qeP {x:qap}{cs:List Value}(h:GoT.R w S x cs):cs=(qoF x):=by
 obtain⟨_,_,rfl,rfl,⟨_,_,rfl,rfl,⟨_,_,rfl,rfl,rfl⟩⟩⟩:=h;exact Z
theorem qko (x:qap):GoT.R w S x (qoF x):=have h:=pR (rT x.Ba) (pR (rI x.Bs) (pR (rI x.Bl) (rB x.Bo)));h
structure qO where
 Bj:(List Int)
 Be:(List Int)
 Az:(List Int)
instance gt_TTable:GoT qO:=isoT (pairT (@instList Int instInt) (pairT (@instList Int instInt) (@instList Int instInt))) (fun x=>(x.Bj,x.Be,x.Az)) ⟨[],[],[]⟩ Z true (fun h=>by cases h)
abbrev qeD (x:qO)(p0 p1 p2:Option Addr)(k0 k1 k2:Nat):List Value:=[.slice p0 (x.Bj).length k0,.slice p1 (x.Be).length k1,.slice p2 (x.Az).length k2]
theorem qcf {x:qO}{cs:List Value}(h:GoT.R w S x cs):∃ d a p1 b f c,cs=(qeD x d p1 f a b c)∧SlR w S x.Bj d a∧SlR w S x.Be p1 b∧SlR w S x.Az f c:=by
 obtain⟨_,_,rfl,⟨d,a,rfl,s0⟩,⟨_,_,rfl,⟨p1,b,rfl,s1⟩,⟨f,c,rfl,s2⟩⟩⟩:=h;exact⟨d,a,p1,b,f,c,rfl,s0,s1,s2⟩
theorem qiw (x:qO){d p1 f:Option Addr}{a b c:Nat}(s0:SlR w S x.Bj d a)(s1:SlR w S x.Be p1 b)(s2:SlR w S x.Az f c):GoT.R w S x (qeD x d p1 f a b c):=have h:=pR (rS s0) (pR (rS s1) (rS s2));h
theorem qsn {w0:World}{L:List Ch}(x:qO){I0 I1 I2:List Nat}{a c1 b:List Value}(h:SH w0 w L)(c:PO w L I0 x.Bj a)(d:PO w L I1 x.Be c1)(f:PO w L I2 x.Az b)(b0:apartB I0 (I1++I2)=true)(b1:apartB I1 I2=true):PO w L (I0++(I1++I2)) x (a++(c1++b)):=
 (qcD h c (qcD h d f b1) b0)
structure qak where
 Au:Int
 Bd:Int
 To:Int
 Bk:Int
 Bm:(List qO)
 Av:(List qO)
instance gt_TArc:GoT qak:=isoT (pairT instInt (pairT instInt (pairT instInt (pairT instInt (pairT (@instList qO gt_TTable) (@instList qO gt_TTable)))))) (fun x=>(x.Au,x.Bd,x.To,x.Bk,x.Bm,x.Av)) ⟨0,0,0,0,[],[]⟩ Z true (fun h=>by cases h)
abbrev qdT (x:qak)(p0 p1:Option Addr)(k0 k1:Nat):List Value:=[.int .i64 x.Au,.int .i64 x.Bd,.int .i64 x.To,.int .i64 x.Bk,.slice p0 (x.Bm).length k0,.slice p1 (x.Av).length k1]
theorem qaA {x:qak}{cs:List Value}(h:GoT.R w S x cs):∃ c a p1 b,cs=(qdT x c p1 a b)∧SlR w S x.Bm c a∧SlR w S x.Av p1 b:=by
 obtain⟨_,_,rfl,rfl,⟨_,_,rfl,rfl,⟨_,_,rfl,rfl,⟨_,_,rfl,rfl,⟨_,_,rfl,⟨c,a,rfl,s0⟩,⟨p1,b,rfl,s1⟩⟩⟩⟩⟩⟩:=h;exact⟨c,a,p1,b,rfl,s0,s1⟩
theorem qh5 (x:qak){c p1:Option Addr}{a b:Nat}(s0:SlR w S x.Bm c a)(s1:SlR w S x.Av p1 b):GoT.R w S x (qdT x c p1 a b):=have h:=pR (rI x.Au) (pR (rI x.Bd) (pR (rI x.To) (pR (rI x.Bk) (pR (rS s0) (rS s1)))));h
theorem qsb {w0:World}{L:List Ch}(x:qak){I0 I1 I2 I3 I4 I5:List Nat}{a c1 b c d f:List Value}(h:SH w0 w L)(i:PO w L I0 x.Au a)(k:PO w L I1 x.Bd c1)(l:PO w L I2 x.To b)(m:PO w L I3 x.Bk c)(n:PO w L I4 x.Bm d)(o:PO w L I5 x.Av f)(b0:apartB I0 (I1++(I2++(I3++(I4++I5))))=true)(b1:apartB I1 (I2++(I3++(I4++I5)))=true)(b2:apartB I2 (I3++(I4++I5))=true)(b3:apartB I3 (I4++I5)=true)(g:apartB I4 I5=true):PO w L (I0++(I1++(I2++(I3++(I4++I5))))) x (a++(c1++(b++(c++(d++f))))):=
 (qcD h i (qcD h k (qcD h l (qcD h m (qcD h n o g) b3) b2) b1) b0)
structure qG where
 Ba:ByteArray
 Au:Int
 Ay:(List qap)
 Aq:(List qak)
 Bn:(List Int)
 Bw:Int
 Bt:Int
instance gt_TCell:GoT qG:=isoT (pairT instStr (pairT instInt (pairT (@instList qap gt_TPin) (pairT (@instList qak gt_TArc) (pairT (@instList Int instInt) (pairT instInt instInt)))))) (fun x=>(x.Ba,x.Au,x.Ay,x.Aq,x.Bn,x.Bw,x.Bt)) ⟨ByteArray.empty,0,[],[],[],0,0⟩ Z true (fun h=>by cases h)
abbrev qI (x:qG)(p0 p1 p2:Option Addr)(k0 k1 k2:Nat):List Value:=[.string x.Ba,.int .i64 x.Au,.slice p0 (x.Ay).length k0,.slice p1 (x.Aq).length k1,.slice p2 (x.Bn).length k2,.int .i64 x.Bw,.int .i64 x.Bt]
theorem qag {x:qG}{cs:List Value}(h:GoT.R w S x cs):∃ d a p1 b f c,cs=(qI x d p1 f a b c)∧SlR w S x.Ay d a∧SlR w S x.Aq p1 b∧SlR w S x.Bn f c:=by
 obtain⟨_,_,rfl,rfl,⟨_,_,rfl,rfl,⟨_,_,rfl,⟨d,a,rfl,s0⟩,⟨_,_,rfl,⟨p1,b,rfl,s1⟩,⟨_,_,rfl,⟨f,c,rfl,s2⟩,⟨_,_,rfl,rfl,rfl⟩⟩⟩⟩⟩⟩:=h;exact⟨d,a,p1,b,f,c,rfl,s0,s1,s2⟩
theorem qpH (x:qG){d p1 f:Option Addr}{a b c:Nat}(s0:SlR w S x.Ay d a)(s1:SlR w S x.Aq p1 b)(s2:SlR w S x.Bn f c):GoT.R w S x (qI x d p1 f a b c):=have h:=pR (rT x.Ba) (pR (rI x.Au) (pR (rS s0) (pR (rS s1) (pR (rS s2) (pR (rI x.Bw) (rI x.Bt))))));h
theorem qo2 {w0:World}{L:List Ch}(x:qG){I0 I1 I2 I3 I4 I5 I6:List Nat}{a c1 b c d f g:List Value}(h:SH w0 w L)(l:PO w L I0 x.Ba a)(m:PO w L I1 x.Au c1)(n:PO w L I2 x.Ay b)(o:PO w L I3 x.Aq c)(p:PO w L I4 x.Bn d)(r:PO w L I5 x.Bw f)(s:PO w L I6 x.Bt g)(b0:apartB I0 (I1++(I2++(I3++(I4++(I5++I6)))))=true)(b1:apartB I1 (I2++(I3++(I4++(I5++I6))))=true)(b2:apartB I2 (I3++(I4++(I5++I6)))=true)(b3:apartB I3 (I4++(I5++I6))=true)(i:apartB I4 (I5++I6)=true)(k:apartB I5 I6=true):PO w L (I0++(I1++(I2++(I3++(I4++(I5++I6)))))) x (a++(c1++(b++(c++(d++(f++g)))))):=
 (qcD h l (qcD h m (qcD h n (qcD h o (qcD h p (qcD h r s k) i) b3) b2) b1) b0)
structure qz where
 Ap:(List qG)
instance gt_TLibrary:GoT qz:=isoT (@instList qG gt_TCell) (fun x=>x.Ap) ⟨[]⟩ Z true (fun h=>by cases h)
theorem qcG {x:qz}{cs:List Value}(h:GoT.R w S x cs):∃ b a,cs=[.slice b (x.Ap).length a]∧SlR w S x.Ap b a:=by
 obtain⟨b,a,rfl,s0⟩:=h;exact⟨b,a,rfl,s0⟩
theorem qi9 (x:qz){b:Option Addr}{a:Nat}(s0:SlR w S x.Ap b a):GoT.R w S x [.slice b (x.Ap).length a]:=have h:=rS s0;h
theorem qhX {x:qz}{b:Option Addr}{l0 a:Nat}(h:GoT.R w S x [.slice b l0 a]):(SlR w S x.Ap b a∧l0=(x.Ap).length):=by
 obtain⟨_,_,c,s0⟩:=qcG h;cases c;exact⟨s0,rfl⟩
theorem qqS {w0:World}{L:List Ch}(x:qz){I0:List Nat}{a:List Value}(_:SH w0 w L)(b:PO w L I0 x.Ap a):PO w L I0 x a:=
 b
structure qF where
 Ba:ByteArray
 Bp:Int
 Aj:(List Int)
instance gt_TInstance:GoT qF:=isoT (pairT instStr (pairT instInt (@instList Int instInt))) (fun x=>(x.Ba,x.Bp,x.Aj)) ⟨ByteArray.empty,0,[]⟩ Z true (fun h=>by cases h)
abbrev qiR (x:qF)(p0:Option Addr)(k0:Nat):List Value:=[.string x.Ba,.int .i64 x.Bp,.slice p0 (x.Aj).length k0]
theorem qav {x:qF}{cs:List Value}(h:GoT.R w S x cs):∃ b a,cs=(qiR x b a)∧SlR w S x.Aj b a:=by
 obtain⟨_,_,rfl,rfl,⟨_,_,rfl,rfl,⟨b,a,rfl,s0⟩⟩⟩:=h;exact⟨b,a,rfl,s0⟩
theorem qke (x:qF){b:Option Addr}{a:Nat}(s0:SlR w S x.Aj b a):GoT.R w S x (qiR x b a):=have h:=pR (rT x.Ba) (pR (rI x.Bp) (rS s0));h
theorem qoc {w0:World}{L:List Ch}{x:qF}{d:Option Addr}{l0 a:Nat}(h:SH w0 w (Ch.own S x [.string x.Ba,.int .i64 x.Bp,.slice d l0 a]::L)):∃ f,SH w0 w (Ch.own f x.Aj [.slice d l0 a]::L):=by
 obtain⟨k,i⟩:=h.headV;replace i:GoT.O w S x _:=i;obtain⟨_,_,_,_,l,g,i,_,b0⟩:=i;obtain rfl:=g;cases l;replace k:=k.less b0;obtain⟨_,B1,_,_,l,o1,i,_,b1⟩:=i;obtain rfl:=o1;cases l;replace k:=k.less b1;obtain⟨q,m,l,s0⟩:=i;cases l;replace k:=k.push (c:=Ch.own B1 x.Aj [_]) (S2:=(fun _=>False)) ⟨_,_,rfl,s0⟩ (fun _ o=>o.elim) (fun b n=>⟨n,fun h=>h⟩) (fun _ h=>h.elim);exact⟨B1,k.sh⟩
theorem qmS {w0:World}{L:List Ch}(x:qF){I0 I1 I2:List Nat}{a c1 b:List Value}(h:SH w0 w L)(c:PO w L I0 x.Ba a)(d:PO w L I1 x.Bp c1)(f:PO w L I2 x.Aj b)(b0:apartB I0 (I1++I2)=true)(b1:apartB I1 I2=true):PO w L (I0++(I1++I2)) x (a++(c1++b)):=
 (qcD h c (qcD h d f b1) b0)
structure qau where
 Ba:ByteArray
 Bs:Int
 Bv:Int
instance gt_TPort:GoT qau:=isoT (pairT instStr (pairT instInt instInt)) (fun x=>(x.Ba,x.Bs,x.Bv)) ⟨ByteArray.empty,0,0⟩ Z true (fun h=>by cases h)
instance fl_TPort:Flat qau:=qfz (pairT instStr (pairT instInt instInt)) (fun x:qau=>(x.Ba,x.Bs,x.Bv)) ⟨ByteArray.empty,0,0⟩ Z true (fun h=>by cases h) (qaN _ _ (inferInstanceAs (Flat ByteArray)) (qaN _ _ (inferInstanceAs (Flat Int)) (inferInstanceAs (Flat Int))))
abbrev qp1 (x:qau):List Value:=[.string x.Ba,.int .i64 x.Bs,.int .i64 x.Bv]
theorem qeA {x:qau}{cs:List Value}(h:GoT.R w S x cs):cs=(qp1 x):=by
 obtain⟨_,_,rfl,rfl,⟨_,_,rfl,rfl,rfl⟩⟩:=h;exact Z
theorem qin (x:qau):GoT.R w S x (qp1 x):=have h:=pR (rT x.Ba) (pR (rI x.Bs) (rI x.Bv));h
structure qi where
 Ab:(List qF)
 Aj:(List ByteArray)
 Ah:(List qau)
instance gt_TDesign:GoT qi:=isoT (pairT (@instList qF gt_TInstance) (pairT (@instList ByteArray instStr) (@instList qau gt_TPort))) (fun x=>(x.Ab,x.Aj,x.Ah)) ⟨[],[],[]⟩ Z true (fun h=>by cases h)
abbrev qao (x:qi)(p0 p1 p2:Option Addr)(k0 k1 k2:Nat):List Value:=[.slice p0 (x.Ab).length k0,.slice p1 (x.Aj).length k1,.slice p2 (x.Ah).length k2]
theorem qaT {x:qi}{cs:List Value}(h:GoT.R w S x cs):∃ d a p1 b f c,cs=(qao x d p1 f a b c)∧SlR w S x.Ab d a∧SlR w S x.Aj p1 b∧SlR w S x.Ah f c:=by
 obtain⟨_,_,rfl,⟨d,a,rfl,s0⟩,⟨_,_,rfl,⟨p1,b,rfl,s1⟩,⟨f,c,rfl,s2⟩⟩⟩:=h;exact⟨d,a,p1,b,f,c,rfl,s0,s1,s2⟩
theorem qaU (x:qi){d p1 f:Option Addr}{a b c:Nat}(s0:SlR w S x.Ab d a)(s1:SlR w S x.Aj p1 b)(s2:SlR w S x.Ah f c):GoT.R w S x (qao x d p1 f a b c):=have h:=pR (rS s0) (pR (rS s1) (rS s2));h
theorem qcY {x:qi}{d p1 f:Option Addr}{l0 a l1 b l2 c:Nat}(h:GoT.R w S x [.slice d l0 a,.slice p1 l1 b,.slice f l2 c]):(SlR w S x.Ab d a∧l0=(x.Ab).length)∧(SlR w S x.Aj p1 b∧l1=(x.Aj).length)∧(SlR w S x.Ah f c∧l2=(x.Ah).length):=by
 obtain⟨_,_,_,_,_,_,g,s0,s1,s2⟩:=qaT h;cases g;exact⟨⟨s0,rfl⟩,⟨s1,rfl⟩,⟨s2,rfl⟩⟩
theorem qpf {w0:World}{L:List Ch}{x:qi}{g p1 i:Option Addr}{l0 a l1 d l2 f:Nat}(h:SH w0 w (Ch.own S x [.slice g l0 a,.slice p1 l1 d,.slice i l2 f]::L)):∃ k S1 S2,SH w0 w (Ch.own S2 x.Ah [.slice i l2 f]::Ch.own S1 x.Aj [.slice p1 l1 d]::Ch.own k x.Ab [.slice g l0 a]::L):=by
 obtain⟨o,n⟩:=h.headV;replace n:GoT.O w S x _:=n;obtain⟨A0,B0,_,_,r,l,n,a0,b0⟩:=n;obtain⟨q,m,rfl,s0⟩:=l;cases r;replace o:=o.push (c:=Ch.own A0 x.Ab [_]) (S2:=B0) ⟨_,_,rfl,s0⟩ (fun _ p=>p.elim) a0 b0;obtain⟨A1,B1,_,_,r,o1,n,a1,b1⟩:=n;obtain⟨q,m,rfl,s1⟩:=o1;cases r;replace o:=o.push (c:=Ch.own A1 x.Aj [_]) (S2:=B1) ⟨_,_,rfl,s1⟩ (fun _ p=>p.elim) a1 b1;obtain⟨q,m,r,s2⟩:=n;cases r;replace o:=o.push (c:=Ch.own B1 x.Ah [_]) (S2:=(fun _=>False)) ⟨_,_,rfl,s2⟩ (fun _ p=>p.elim) (fun b s=>⟨s,fun h=>h⟩) (fun _ h=>h.elim);exact⟨A0,A1,B1,o.sh⟩
theorem qo6 {w0:World}{L:List Ch}(x:qi){I0 I1 I2:List Nat}{a c1 b:List Value}(h:SH w0 w L)(c:PO w L I0 x.Ab a)(d:PO w L I1 x.Aj c1)(f:PO w L I2 x.Ah b)(b0:apartB I0 (I1++I2)=true)(b1:apartB I1 I2=true):PO w L (I0++(I1++I2)) x (a++(c1++b)):=
 (qcD h c (qcD h d f b1) b0)
structure qad where
 Ai:(List Int)
 Bq:(List Int)
 Bl:(List Int)
 Bb:(List Int)
instance gt_TWire:GoT qad:=isoT (pairT (@instList Int instInt) (pairT (@instList Int instInt) (pairT (@instList Int instInt) (@instList Int instInt)))) (fun x=>(x.Ai,x.Bq,x.Bl,x.Bb)) ⟨[],[],[],[]⟩ Z true (fun h=>by cases h)
abbrev qfS (x:qad)(p0 p1 p2 p3:Option Addr)(k0 k1 k2 k3:Nat):List Value:=[.slice p0 (x.Ai).length k0,.slice p1 (x.Bq).length k1,.slice p2 (x.Bl).length k2,.slice p3 (x.Bb).length k3]
theorem qbH {x:qad}{cs:List Value}(h:GoT.R w S x cs):∃ f a p1 b g c i d,cs=(qfS x f p1 g i a b c d)∧SlR w S x.Ai f a∧SlR w S x.Bq p1 b∧SlR w S x.Bl g c∧SlR w S x.Bb i d:=by
 obtain⟨_,_,rfl,⟨f,a,rfl,s0⟩,⟨_,_,rfl,⟨p1,b,rfl,s1⟩,⟨_,_,rfl,⟨g,c,rfl,s2⟩,⟨i,d,rfl,k⟩⟩⟩⟩:=h;exact⟨f,a,p1,b,g,c,i,d,rfl,s0,s1,s2,k⟩
theorem qpu (x:qad){f p1 g i:Option Addr}{a b c d:Nat}(s0:SlR w S x.Ai f a)(s1:SlR w S x.Bq p1 b)(s2:SlR w S x.Bl g c)(k:SlR w S x.Bb i d):GoT.R w S x (qfS x f p1 g i a b c d):=have h:=pR (rS s0) (pR (rS s1) (pR (rS s2) (rS k)));h
theorem qiN {w0:World}{L:List Ch}{x:qad}{k p1 l n:Option Addr}{l0 a l1 d l2 f i g:Nat}(h:SH w0 w (Ch.own S x [.slice k l0 a,.slice p1 l1 d,.slice l l2 f,.slice n i g]::L)):∃ o S1 S2 p,SH w0 w (Ch.own p x.Bb [.slice n i g]::Ch.own S2 x.Bl [.slice l l2 f]::Ch.own S1 x.Bq [.slice p1 l1 d]::Ch.own o x.Ai [.slice k l0 a]::L):=by
 obtain⟨u,t⟩:=h.headV;replace t:GoT.O w S x _:=t;obtain⟨A0,B0,_,_,y,r,t,a0,b0⟩:=t;obtain⟨q,m,rfl,s0⟩:=r;cases y;replace u:=u.push (c:=Ch.own A0 x.Ai [_]) (S2:=B0) ⟨_,_,rfl,s0⟩ (fun _ v=>v.elim) a0 b0;obtain⟨A1,B1,_,_,y,o1,t,a1,b1⟩:=t;obtain⟨q,m,rfl,s1⟩:=o1;cases y;replace u:=u.push (c:=Ch.own A1 x.Bq [_]) (S2:=B1) ⟨_,_,rfl,s1⟩ (fun _ v=>v.elim) a1 b1;obtain⟨A2,B2,_,_,y,o2,t,a2,b2⟩:=t;obtain⟨q,m,rfl,s2⟩:=o2;cases y;replace u:=u.push (c:=Ch.own A2 x.Bl [_]) (S2:=B2) ⟨_,_,rfl,s2⟩ (fun _ v=>v.elim) a2 b2;obtain⟨q,m,y,s⟩:=t;cases y;replace u:=u.push (c:=Ch.own B2 x.Bb [_]) (S2:=(fun _=>False)) ⟨_,_,rfl,s⟩ (fun _ v=>v.elim) (fun b z=>⟨z,fun h=>h⟩) (fun _ h=>h.elim);exact⟨A0,A1,A2,B2,u.sh⟩
theorem qkB {w0:World}{L:List Ch}(x:qad){I0 I1 I2 I3:List Nat}{a c1 b c:List Value}(h:SH w0 w L)(d:PO w L I0 x.Ai a)(f:PO w L I1 x.Bq c1)(g:PO w L I2 x.Bl b)(i:PO w L I3 x.Bb c)(b0:apartB I0 (I1++(I2++I3))=true)(b1:apartB I1 (I2++I3)=true)(b2:apartB I2 I3=true):PO w L (I0++(I1++(I2++I3))) x (a++(c1++(b++c))):=
 (qcD h d (qcD h f (qcD h g i b2) b1) b0)
structure qe where
 Am:qz
 Aa:qi
 Ac:(List qad)
instance gt_TBlock:GoT qe:=isoT (pairT gt_TLibrary (pairT gt_TDesign (@instList qad gt_TWire))) (fun x=>(x.Am,x.Aa,x.Ac)) ⟨(⟨[]⟩:qz),(⟨[],[],[]⟩:qi),[]⟩ Z true (fun h=>by cases h)
abbrev qx (x:qe)(p0 p1 p2 p3 p4:Option Addr)(k0 k1 k2 k3 k4:Nat):List Value:=[.slice p0 (x.Am.Ap).length k0,.slice p1 (x.Aa.Ab).length k1,.slice p2 (x.Aa.Aj).length k2,.slice p3 (x.Aa.Ah).length k3,.slice p4 (x.Ac).length k4]
theorem qL {x:qe}{cs:List Value}(h:GoT.R w S x cs):∃ g a p1 b i c k d l f,cs=(qx x g p1 i k l a b c d f)∧SlR w S x.Am.Ap g a∧SlR w S x.Aa.Ab p1 b∧SlR w S x.Aa.Aj i c∧SlR w S x.Aa.Ah k d∧SlR w S x.Ac l f:=by
 obtain⟨_,_,rfl,⟨g,a,rfl,s0⟩,⟨_,_,rfl,⟨_,_,rfl,⟨p1,b,rfl,s1⟩,⟨_,_,rfl,⟨i,c,rfl,s2⟩,⟨k,d,rfl,m⟩⟩⟩,⟨l,f,rfl,n⟩⟩⟩:=h;exact⟨g,a,p1,b,i,c,k,d,l,f,rfl,s0,s1,s2,m,n⟩
theorem qfn {x:qe}{k p1 l m n:Option Addr}{l0 a l1 b l2 c g d i f:Nat}(h:GoT.R w S x [.slice k l0 a,.slice p1 l1 b,.slice l l2 c,.slice m g d,.slice n i f]):(SlR w S x.Am.Ap k a∧l0=(x.Am.Ap).length)∧(SlR w S x.Aa.Ab p1 b∧l1=(x.Aa.Ab).length)∧(SlR w S x.Aa.Aj l c∧l2=(x.Aa.Aj).length)∧(SlR w S x.Aa.Ah m d∧g=(x.Aa.Ah).length)∧(SlR w S x.Ac n f∧i=(x.Ac).length):=by
 obtain⟨_,_,_,_,_,_,_,_,_,_,r,s0,s1,s2,o,p⟩:=qL h;cases r;exact⟨⟨s0,rfl⟩,⟨s1,rfl⟩,⟨s2,rfl⟩,⟨o,rfl⟩,⟨p,rfl⟩⟩
theorem qhg {w0:World}{L:List Ch}{x:qe}{p p1 l m n:Option Addr}{l0 o l1 a l2 d i f k g:Nat}(h:SH w0 w (Ch.own S x [.slice p l0 o,.slice p1 l1 a,.slice l l2 d,.slice m i f,.slice n k g]::L)):∃ A S1 S2,SH w0 w (Ch.own S2 x.Ac [.slice n k g]::Ch.own S1 x.Aa [.slice p1 l1 a,.slice l l2 d,.slice m i f]::Ch.own A x.Am [.slice p l0 o]::L):=by
 obtain⟨C,B⟩:=h.headV;replace B:GoT.O w S x _:=B;obtain⟨A0,B0,r,e0,t,z,B,a0,b0⟩:=B;have v:r.length=1:=GoT.len (GoT.toR z);obtain⟨rfl,rfl⟩:r=[.slice p l0 o]∧e0=[.slice p1 l1 a,.slice l l2 d,.slice m i f,.slice n k g]:=by
  have:=List.append_inj (show[.slice p l0 o]++[.slice p1 l1 a,.slice l l2 d,.slice m i f,.slice n k g]=r++e0 from t) (by rw[v];rfl);exact⟨this.1.symm,this.2.symm⟩
 replace C:=C.push (c:=Ch.own A0 x.Am [.slice p l0 o]) (S2:=B0) z (fun _ D=>D.elim) a0 b0;obtain⟨A1,B1,s,e1,u,o1,B,a1,b1⟩:=B;have y:s.length=3:=GoT.len (GoT.toR o1);obtain⟨rfl,rfl⟩:s=[.slice p1 l1 a,.slice l l2 d,.slice m i f]∧e1=[.slice n k g]:=by
  have:=List.append_inj (show[.slice p1 l1 a,.slice l l2 d,.slice m i f]++[.slice n k g]=s++e1 from u) (by rw[y];rfl);exact⟨this.1.symm,this.2.symm⟩
 replace C:=C.push (c:=Ch.own A1 x.Aa [.slice p1 l1 a,.slice l l2 d,.slice m i f]) (S2:=B1) o1 (fun _ D=>D.elim) a1 b1;replace C:=C.push (c:=Ch.own B1 x.Ac [.slice n k g]) (S2:=(fun _=>False)) B (fun _ D=>D.elim) (fun b F=>⟨F,fun h=>h⟩) (fun _ h=>h.elim);exact⟨A0,A1,B1,C.sh⟩
theorem qsT {w0:World}{L:List Ch}(x:qe){I0 I1 I2:List Nat}{a c1 b:List Value}(h:SH w0 w L)(c:PO w L I0 x.Am a)(d:PO w L I1 x.Aa c1)(f:PO w L I2 x.Ac b)(b0:apartB I0 (I1++I2)=true)(b1:apartB I1 I2=true):PO w L (I0++(I1++I2)) x (a++(c1++b)):=
 (qcD h c (qcD h d f b1) b0)
structure qv where
 Ba:ByteArray
 Bc:Int
 Bg:Int
 Bf:Int
 Bh:Int
instance gt_TCorner:GoT qv:=isoT (pairT instStr (pairT instInt (pairT instInt (pairT instInt instInt)))) (fun x=>(x.Ba,x.Bc,x.Bg,x.Bf,x.Bh)) ⟨ByteArray.empty,0,0,0,0⟩ Z true (fun h=>by cases h)
instance fl_TCorner:Flat qv:=qfz (pairT instStr (pairT instInt (pairT instInt (pairT instInt instInt)))) (fun x:qv=>(x.Ba,x.Bc,x.Bg,x.Bf,x.Bh)) ⟨ByteArray.empty,0,0,0,0⟩ Z true (fun h=>by cases h) (qaN _ _ (inferInstanceAs (Flat ByteArray)) (qaN _ _ (inferInstanceAs (Flat Int)) (qaN _ _ (inferInstanceAs (Flat Int)) (qaN _ _ (inferInstanceAs (Flat Int)) (inferInstanceAs (Flat Int))))))
abbrev qW (x:qv):List Value:=[.string x.Ba,.int .i64 x.Bc,.int .i64 x.Bg,.int .i64 x.Bf,.int .i64 x.Bh]
theorem qaS {x:qv}{cs:List Value}(h:GoT.R w S x cs):cs=(qW x):=by
 obtain⟨_,_,rfl,rfl,⟨_,_,rfl,rfl,⟨_,_,rfl,rfl,⟨_,_,rfl,rfl,rfl⟩⟩⟩⟩:=h;exact Z
theorem qeg (x:qv):GoT.R w S x (qW x):=have h:=pR (rT x.Ba) (pR (rI x.Bc) (pR (rI x.Bg) (pR (rI x.Bf) (rI x.Bh))));h
structure qnS where
 Cg:Int
 Cd:Int
instance gt_TLatch:GoT qnS:=isoT (pairT instInt instInt) (fun x=>(x.Cg,x.Cd)) ⟨0,0⟩ Z true (fun h=>by cases h)
instance fl_TLatch:Flat qnS:=qfz (pairT instInt instInt) (fun x:qnS=>(x.Cg,x.Cd)) ⟨0,0⟩ Z true (fun h=>by cases h) (qaN _ _ (inferInstanceAs (Flat Int)) (inferInstanceAs (Flat Int)))
structure qiy where
 Bd:Int
 To:Int
 Bm:Int
 Ce:Int
instance gt_TLatchLink:GoT qiy:=isoT (pairT instInt (pairT instInt (pairT instInt instInt))) (fun x=>(x.Bd,x.To,x.Bm,x.Ce)) ⟨0,0,0,0⟩ Z true (fun h=>by cases h)
instance fl_TLatchLink:Flat qiy:=qfz (pairT instInt (pairT instInt (pairT instInt instInt))) (fun x:qiy=>(x.Bd,x.To,x.Bm,x.Ce)) ⟨0,0,0,0⟩ Z true (fun h=>by cases h) (qaN _ _ (inferInstanceAs (Flat Int)) (qaN _ _ (inferInstanceAs (Flat Int)) (qaN _ _ (inferInstanceAs (Flat Int)) (inferInstanceAs (Flat Int)))))
structure qnb where
 Cc:(List qnS)
 Ca:(List qiy)
instance gt_TLatchSystem:GoT qnb:=isoT (pairT (@instList qnS gt_TLatch) (@instList qiy gt_TLatchLink)) (fun x=>(x.Cc,x.Ca)) ⟨[],[]⟩ Z true (fun h=>by cases h)
structure qh where
 Ak:Int
 Ar:Int
instance gt_TSpan:GoT qh:=isoT (pairT instInt instInt) (fun x=>(x.Ak,x.Ar)) ⟨0,0⟩ Z true (fun h=>by cases h)
instance fl_TSpan:Flat qh:=qfz (pairT instInt instInt) (fun x:qh=>(x.Ak,x.Ar)) ⟨0,0⟩ Z true (fun h=>by cases h) (qaN _ _ (inferInstanceAs (Flat Int)) (inferInstanceAs (Flat Int)))
abbrev qgX (x:qh):List Value:=[.int .i64 x.Ak,.int .i64 x.Ar]
theorem qD {x:qh}{cs:List Value}(h:GoT.R w S x cs):cs=(qgX x):=by
 obtain⟨_,_,rfl,rfl,rfl⟩:=h;exact Z
theorem qK (x:qh):GoT.R w S x (qgX x):=have h:=pR (rI x.Ak) (rI x.Ar);h
structure qf where
 Bi:Int
 Af:qh
 Av:qh
instance gt_TSource:GoT qf:=isoT (pairT instInt (pairT gt_TSpan gt_TSpan)) (fun x=>(x.Bi,x.Af,x.Av)) ⟨0,(⟨0,0⟩:qh),(⟨0,0⟩:qh)⟩ Z true (fun h=>by cases h)
instance fl_TSource:Flat qf:=qfz (pairT instInt (pairT gt_TSpan gt_TSpan)) (fun x:qf=>(x.Bi,x.Af,x.Av)) ⟨0,(⟨0,0⟩:qh),(⟨0,0⟩:qh)⟩ Z true (fun h=>by cases h) (qaN _ _ (inferInstanceAs (Flat Int)) (qaN _ _ (inferInstanceAs (Flat qh)) (inferInstanceAs (Flat qh))))
abbrev qge (x:qf):List Value:=[.int .i64 x.Bi,.int .i64 x.Af.Ak,.int .i64 x.Af.Ar,.int .i64 x.Av.Ak,.int .i64 x.Av.Ar]
theorem qax {x:qf}{cs:List Value}(h:GoT.R w S x cs):cs=(qge x):=by
 obtain⟨_,_,rfl,rfl,⟨_,_,rfl,⟨_,_,rfl,rfl,rfl⟩,⟨_,_,rfl,rfl,rfl⟩⟩⟩:=h;exact Z
theorem qb0 (x:qf):GoT.R w S x (qge x):=have h:=pR (rI x.Bi) (pR (qK x.Af) (qK x.Av));h
structure qk where
 As:(List Bool)
 Af:(List qh)
 Av:(List qh)
instance gt_TTiming:GoT qk:=isoT (pairT (@instList Bool instBool) (pairT (@instList qh gt_TSpan) (@instList qh gt_TSpan))) (fun x=>(x.As,x.Af,x.Av)) ⟨[],[],[]⟩ Z true (fun h=>by cases h)
abbrev qaB (x:qk)(p0 p1 p2:Option Addr)(k0 k1 k2:Nat):List Value:=[.slice p0 (x.As).length k0,.slice p1 (x.Af).length k1,.slice p2 (x.Av).length k2]
theorem qaK {x:qk}{cs:List Value}(h:GoT.R w S x cs):∃ d a p1 b f c,cs=(qaB x d p1 f a b c)∧SlR w S x.As d a∧SlR w S x.Af p1 b∧SlR w S x.Av f c:=by
 obtain⟨_,_,rfl,⟨d,a,rfl,s0⟩,⟨_,_,rfl,⟨p1,b,rfl,s1⟩,⟨f,c,rfl,s2⟩⟩⟩:=h;exact⟨d,a,p1,b,f,c,rfl,s0,s1,s2⟩
theorem qlv (x:qk){d p1 f:Option Addr}{a b c:Nat}(s0:SlR w S x.As d a)(s1:SlR w S x.Af p1 b)(s2:SlR w S x.Av f c):GoT.R w S x (qaB x d p1 f a b c):=have h:=pR (rS s0) (pR (rS s1) (rS s2));h
theorem qn8 {x:qk}{d p1 f:Option Addr}{l0 a l1 b l2 c:Nat}(h:GoT.R w S x [.slice d l0 a,.slice p1 l1 b,.slice f l2 c]):(SlR w S x.As d a∧l0=(x.As).length)∧(SlR w S x.Af p1 b∧l1=(x.Af).length)∧(SlR w S x.Av f c∧l2=(x.Av).length):=by
 obtain⟨_,_,_,_,_,_,g,s0,s1,s2⟩:=qaK h;cases g;exact⟨⟨s0,rfl⟩,⟨s1,rfl⟩,⟨s2,rfl⟩⟩
theorem qhl {w0:World}{L:List Ch}{x:qk}{g p1 i:Option Addr}{l0 a l1 d l2 f:Nat}(h:SH w0 w (Ch.own S x [.slice g l0 a,.slice p1 l1 d,.slice i l2 f]::L)):∃ k S1 S2,SH w0 w (Ch.own S2 x.Av [.slice i l2 f]::Ch.own S1 x.Af [.slice p1 l1 d]::Ch.own k x.As [.slice g l0 a]::L):=by
 obtain⟨o,n⟩:=h.headV;replace n:GoT.O w S x _:=n;obtain⟨A0,B0,_,_,r,l,n,a0,b0⟩:=n;obtain⟨q,m,rfl,s0⟩:=l;cases r;replace o:=o.push (c:=Ch.own A0 x.As [_]) (S2:=B0) ⟨_,_,rfl,s0⟩ (fun _ p=>p.elim) a0 b0;obtain⟨A1,B1,_,_,r,o1,n,a1,b1⟩:=n;obtain⟨q,m,rfl,s1⟩:=o1;cases r;replace o:=o.push (c:=Ch.own A1 x.Af [_]) (S2:=B1) ⟨_,_,rfl,s1⟩ (fun _ p=>p.elim) a1 b1;obtain⟨q,m,r,s2⟩:=n;cases r;replace o:=o.push (c:=Ch.own B1 x.Av [_]) (S2:=(fun _=>False)) ⟨_,_,rfl,s2⟩ (fun _ p=>p.elim) (fun b s=>⟨s,fun h=>h⟩) (fun _ h=>h.elim);exact⟨A0,A1,B1,o.sh⟩
theorem qcd {w0:World}{L:List Ch}(x:qk){I0 I1 I2:List Nat}{a c1 b:List Value}(h:SH w0 w L)(c:PO w L I0 x.As a)(d:PO w L I1 x.Af c1)(f:PO w L I2 x.Av b)(b0:apartB I0 (I1++I2)=true)(b1:apartB I1 I2=true):PO w L (I0++(I1++I2)) x (a++(c1++b)):=
 (qcD h c (qcD h d f b1) b0)
structure qqA where
 Br:qe
 Cb:qv
 Bz:(List Int)
 Bx:(List qf)
instance gt_TJob:GoT qqA:=isoT (pairT gt_TBlock (pairT gt_TCorner (pairT (@instList Int instInt) (@instList qf gt_TSource)))) (fun x=>(x.Br,x.Cb,x.Bz,x.Bx)) ⟨(⟨(⟨[]⟩:qz),(⟨[],[],[]⟩:qi),[]⟩:qe),(⟨ByteArray.empty,0,0,0,0⟩:qv),[],[]⟩ Z true (fun h=>by cases h)
structure qm where
 Bd:Int
 To:Int
 Au:Int
 Bu:Int
instance gt_TLink:GoT qm:=isoT (pairT instInt (pairT instInt (pairT instInt instInt))) (fun x=>(x.Bd,x.To,x.Au,x.Bu)) ⟨0,0,0,0⟩ Z true (fun h=>by cases h)
instance fl_TLink:Flat qm:=qfz (pairT instInt (pairT instInt (pairT instInt instInt))) (fun x:qm=>(x.Bd,x.To,x.Au,x.Bu)) ⟨0,0,0,0⟩ Z true (fun h=>by cases h) (qaN _ _ (inferInstanceAs (Flat Int)) (qaN _ _ (inferInstanceAs (Flat Int)) (qaN _ _ (inferInstanceAs (Flat Int)) (inferInstanceAs (Flat Int)))))
abbrev qiI (x:qm):List Value:=[.int .i64 x.Bd,.int .i64 x.To,.int .i64 x.Au,.int .i64 x.Bu]
theorem qaz {x:qm}{cs:List Value}(h:GoT.R w S x cs):cs=(qiI x):=by
 obtain⟨_,_,rfl,rfl,⟨_,_,rfl,rfl,⟨_,_,rfl,rfl,rfl⟩⟩⟩:=h;exact Z
theorem qb6 (x:qm):GoT.R w S x (qiI x):=have h:=pR (rI x.Bd) (pR (rI x.To) (pR (rI x.Au) (rI x.Bu)));h
structure quZ where
 Cf:Int
 Ca:(List Int)
 Af:Int
instance gt_TPath:GoT quZ:=isoT (pairT instInt (pairT (@instList Int instInt) instInt)) (fun x=>(x.Cf,x.Ca,x.Af)) ⟨0,[],0⟩ Z true (fun h=>by cases h)
structure Tl01Source where
 code:(List (IntK .u8))
 at_:Int
 seed:Int
instance gt_Tl01Source:GoT Tl01Source:=isoT (pairT (@instList (IntK .u8) (@gt_IntK .u8)) (pairT instInt instInt)) (fun x=>(x.code,x.at_,x.seed)) ⟨[],0,0⟩ Z true (fun h=>by cases h)
abbrev qaw (x:Tl01Source)(p0:Option Addr)(k0:Nat):List Value:=[.slice p0 (x.code).length k0,.int .i64 x.at_,.int .i64 x.seed]
theorem qog {x:Tl01Source}{cs:List Value}(h:GoT.R w S x cs):∃ b a,cs=(qaw x b a)∧SlR w S x.code b a:=by
 obtain⟨_,_,rfl,⟨b,a,rfl,s0⟩,⟨_,_,rfl,rfl,rfl⟩⟩:=h;exact⟨b,a,rfl,s0⟩
theorem qgv (x:Tl01Source){b:Option Addr}{a:Nat}(s0:SlR w S x.code b a):GoT.R w S x (qaw x b a):=have h:=pR (rS s0) (pR (rI x.at_) (rI x.seed));h
theorem qb {x:Tl01Source}{b:Option Addr}{l0 a:Nat}(h:GoT.R w S x [.slice b l0 a,.int .i64 x.at_,.int .i64 x.seed]):(SlR w S x.code b a∧l0=(x.code).length):=by
 obtain⟨_,_,c,s0⟩:=qog h;cases c;exact⟨s0,rfl⟩
structure Tplace where
 instance_:Int
 pin:Int
 net:Int
 drives:Bool
instance gt_Tplace:GoT Tplace:=isoT (pairT instInt (pairT instInt (pairT instInt instBool))) (fun x=>(x.instance_,x.pin,x.net,x.drives)) ⟨0,0,0,false⟩ Z true (fun h=>by cases h)
instance fl_Tplace:Flat Tplace:=qfz (pairT instInt (pairT instInt (pairT instInt instBool))) (fun x:Tplace=>(x.instance_,x.pin,x.net,x.drives)) ⟨0,0,0,false⟩ Z true (fun h=>by cases h) (qaN _ _ (inferInstanceAs (Flat Int)) (qaN _ _ (inferInstanceAs (Flat Int)) (qaN _ _ (inferInstanceAs (Flat Int)) (inferInstanceAs (Flat Bool)))))
abbrev qmT (x:Tplace):List Value:=[.int .i64 x.instance_,.int .i64 x.pin,.int .i64 x.net,.bool x.drives]
theorem qfO {x:Tplace}{cs:List Value}(h:GoT.R w S x cs):cs=(qmT x):=by
 obtain⟨_,_,rfl,rfl,⟨_,_,rfl,rfl,⟨_,_,rfl,rfl,rfl⟩⟩⟩:=h;exact Z
theorem qk6 (x:Tplace):GoT.R w S x (qmT x):=have h:=pR (rI x.instance_) (pR (rI x.pin) (pR (rI x.net) (rB x.drives)));h
structure Tview where
 Br:qe
 places:(List Tplace)
 links:(List qm)
 loads:(List Int)
 delays:(List (List Int))
 extras:(List Int)
instance gt_Tview:GoT Tview:=isoT (pairT gt_TBlock (pairT (@instList Tplace gt_Tplace) (pairT (@instList qm gt_TLink) (pairT (@instList Int instInt) (pairT (@instList (List Int) (@instList Int instInt)) (@instList Int instInt)))))) (fun x=>(x.Br,x.places,x.links,x.loads,x.delays,x.extras)) ⟨(⟨(⟨[]⟩:qz),(⟨[],[],[]⟩:qi),[]⟩:qe),[],[],[],[],[]⟩ Z true (fun h=>by cases h)
abbrev qux (x:Tview)(p0 p1 p2 p3 p4 p5 p6 p7 p8 p9:Option Addr)(k0 k1 k2 k3 k4 k5 k6 k7 k8 k9:Nat):List Value:=[.slice p0 (x.Br.Am.Ap).length k0,.slice p1 (x.Br.Aa.Ab).length k1,.slice p2 (x.Br.Aa.Aj).length k2,.slice p3 (x.Br.Aa.Ah).length k3,.slice p4 (x.Br.Ac).length k4,.slice p5 (x.places).length k5,.slice p6 (x.links).length k6,.slice p7 (x.loads).length k7,.slice p8 (x.delays).length k8,.slice p9 (x.extras).length k9]
theorem qcq {x:Tview}{cs:List Value}(h:GoT.R w S x cs):∃ n a p1 b o c p d r f s g t i u k v l y m,cs=(qux x n p1 o p r s t u v y a b c d f g i k l m)∧SlR w S x.Br.Am.Ap n a∧SlR w S x.Br.Aa.Ab p1 b∧SlR w S x.Br.Aa.Aj o c∧SlR w S x.Br.Aa.Ah p d∧SlR w S x.Br.Ac r f∧SlR w S x.places s g∧SlR w S x.links t i∧SlR w S x.loads u k∧SlR w S x.delays v l∧SlR w S x.extras y m:=by
 obtain⟨_,_,rfl,⟨_,_,rfl,⟨n,a,rfl,s0⟩,⟨_,_,rfl,⟨_,_,rfl,⟨p1,b,rfl,s1⟩,⟨_,_,rfl,⟨o,c,rfl,s2⟩,⟨p,d,rfl,z⟩⟩⟩,⟨r,f,rfl,A⟩⟩⟩,⟨_,_,rfl,⟨s,g,rfl,B⟩,⟨_,_,rfl,⟨t,i,rfl,C⟩,⟨_,_,rfl,⟨u,k,rfl,D⟩,⟨_,_,rfl,⟨v,l,rfl,F⟩,⟨y,m,rfl,H⟩⟩⟩⟩⟩⟩:=h;exact⟨n,a,p1,b,o,c,p,d,r,f,s,g,t,i,u,k,v,l,y,m,rfl,s0,s1,s2,z,A,B,C,D,F,H⟩
structure TlatchSite where
 instance_:Int
 first:Int
 arc:Int
instance gt_TlatchSite:GoT TlatchSite:=isoT (pairT instInt (pairT instInt instInt)) (fun x=>(x.instance_,x.first,x.arc)) ⟨0,0,0⟩ Z true (fun h=>by cases h)
instance fl_TlatchSite:Flat TlatchSite:=qfz (pairT instInt (pairT instInt instInt)) (fun x:TlatchSite=>(x.instance_,x.first,x.arc)) ⟨0,0,0⟩ Z true (fun h=>by cases h) (qaN _ _ (inferInstanceAs (Flat Int)) (qaN _ _ (inferInstanceAs (Flat Int)) (inferInstanceAs (Flat Int))))
structure Tgraph where
 view:(Option Tview)
 live:(List Bool)
instance gt_Tgraph:GoT Tgraph:=isoT (pairT (@instPtr Tview gt_Tview) (@instList Bool instBool)) (fun x=>(x.view,x.live)) ⟨U,[]⟩ Z true (fun h=>by cases h)
abbrev qtZ (x:Tgraph)(p0 p1:Option Addr)(k1:Nat):List Value:=[.pointer p0,.slice p1 (x.live).length k1]
theorem qhB {x:Tgraph}{cs:List Value}(h:GoT.R w S x cs):∃ b p1 a,cs=(qtZ x b p1 a)∧PtR w S x.view b∧SlR w S x.live p1 a:=by
 obtain⟨_,_,rfl,c,⟨p1,a,rfl,s1⟩⟩:=h;obtain⟨b,rfl,s0⟩:=qbl c;exact⟨b,p1,a,rfl,s0,s1⟩
structure Twork where
 graph:(Option Tgraph)
 job:qqA
 timing:qk
 order:(List Int)
instance gt_Twork:GoT Twork:=isoT (pairT (@instPtr Tgraph gt_Tgraph) (pairT gt_TJob (pairT gt_TTiming (@instList Int instInt)))) (fun x=>(x.graph,x.job,x.timing,x.order)) ⟨U,(⟨(⟨(⟨[]⟩:qz),(⟨[],[],[]⟩:qi),[]⟩:qe),(⟨ByteArray.empty,0,0,0,0⟩:qv),[],[]⟩:qqA),(⟨[],[],[]⟩:qk),[]⟩ Z true (fun h=>by cases h)
structure Tl20Work where
 j:qqA
 links:(List qm)
 live:(List Bool)
 t:qk
instance gt_Tl20Work:GoT Tl20Work:=isoT (pairT gt_TJob (pairT (@instList qm gt_TLink) (pairT (@instList Bool instBool) gt_TTiming))) (fun x=>(x.j,x.links,x.live,x.t)) ⟨(⟨(⟨(⟨[]⟩:qz),(⟨[],[],[]⟩:qi),[]⟩:qe),(⟨ByteArray.empty,0,0,0,0⟩:qv),[],[]⟩:qqA),[],[],(⟨[],[],[]⟩:qk)⟩ Z true (fun h=>by cases h)
structure Tl05Place where
 instance_:Int
 pin:Int
 net:Int
 drives:Bool
instance gt_Tl05Place:GoT Tl05Place:=isoT (pairT instInt (pairT instInt (pairT instInt instBool))) (fun x=>(x.instance_,x.pin,x.net,x.drives)) ⟨0,0,0,false⟩ Z true (fun h=>by cases h)
instance fl_Tl05Place:Flat Tl05Place:=qfz (pairT instInt (pairT instInt (pairT instInt instBool))) (fun x:Tl05Place=>(x.instance_,x.pin,x.net,x.drives)) ⟨0,0,0,false⟩ Z true (fun h=>by cases h) (qaN _ _ (inferInstanceAs (Flat Int)) (qaN _ _ (inferInstanceAs (Flat Int)) (qaN _ _ (inferInstanceAs (Flat Int)) (inferInstanceAs (Flat Bool)))))
abbrev qj0 (x:Tl05Place):List Value:=[.int .i64 x.instance_,.int .i64 x.pin,.int .i64 x.net,.bool x.drives]
theorem qbs {x:Tl05Place}{cs:List Value}(h:GoT.R w S x cs):cs=(qj0 x):=by
 obtain⟨_,_,rfl,rfl,⟨_,_,rfl,rfl,⟨_,_,rfl,rfl,rfl⟩⟩⟩:=h;exact Z
theorem qfp (x:Tl05Place):GoT.R w S x (qj0 x):=have h:=pR (rI x.instance_) (pR (rI x.pin) (pR (rI x.net) (rB x.drives)));h
structure qT where
 e0:Int
 e1:Int
instance gt_TA2_Int:GoT qT:=isoT (pairT instInt instInt) (fun x=>(x.e0,x.e1)) ⟨0,0⟩ Z true (fun h=>by cases h)
instance fl_TA2_Int:Flat qT:=qfz (pairT instInt instInt) (fun x:qT=>(x.e0,x.e1)) ⟨0,0⟩ Z true (fun h=>by cases h) (qaN _ _ (inferInstanceAs (Flat Int)) (inferInstanceAs (Flat Int)))
abbrev qpt (x:qT):List Value:=[.int .i64 x.e0,.int .i64 x.e1]
theorem qqm {x:qT}{cs:List Value}(h:GoT.R w S x cs):cs=(qpt x):=by
 obtain⟨_,_,rfl,rfl,rfl⟩:=h;exact Z
theorem qc0 (x:qT):GoT.R w S x (qpt x):=have h:=pR (rI x.e0) (rI x.e1);h
structure Tweight where
 index:Int
 part:Int
instance gt_Tweight:GoT Tweight:=isoT (pairT instInt instInt) (fun x=>(x.index,x.part)) ⟨0,0⟩ Z true (fun h=>by cases h)
instance fl_Tweight:Flat Tweight:=qfz (pairT instInt instInt) (fun x:Tweight=>(x.index,x.part)) ⟨0,0⟩ Z true (fun h=>by cases h) (qaN _ _ (inferInstanceAs (Flat Int)) (inferInstanceAs (Flat Int)))
abbrev qnB (x:Tweight):List Value:=[.int .i64 x.index,.int .i64 x.part]
theorem qm2 {x:Tweight}{cs:List Value}(h:GoT.R w S x cs):cs=(qnB x):=by
 obtain⟨_,_,rfl,rfl,rfl⟩:=h;exact Z
theorem qlx (x:Tweight):GoT.R w S x (qnB x):=have h:=pR (rI x.index) (rI x.part);h
def tab:Tab:=[ (2,⟨.int .i64,1,8,V (.int .i64 0),[]⟩), (3,⟨.int .i64,1,8,V (.int .i64 0),[]⟩), (4,⟨.bool,1,1,V (.bool false),[]⟩), (5,⟨.int .u8,1,1,V (.int .u8 0),[]⟩), (9,⟨.str,1,16,V (.string ByteArray.empty),[]⟩), (22,⟨.slice 5,1,24,V (.slice U 0 0),[]⟩), (24,⟨.slice 184,1,24,V (.slice U 0 0),[]⟩), (26,⟨.struct,1,24,V (.agg #[.slice U 0 0]),[(0,1,V false)]⟩), (27,⟨.slice 102,1,24,V (.slice U 0 0),[]⟩), (28,⟨.slice 9,1,24,V (.slice U 0 0),[]⟩), (29,⟨.slice 267,1,24,V (.slice U 0 0),[]⟩), (31,⟨.struct,3,72,V (.agg #[.slice U 0 0,.slice U 0 0,.slice U 0 0]),[(0,1,V false),(1,1,V false),(2,1,V false)]⟩), (32,⟨.slice 196,1,24,V (.slice U 0 0),[]⟩), (34,⟨.struct,5,120,V (.agg #[.slice U 0 0,.slice U 0 0,.slice U 0 0,.slice U 0 0,.slice U 0 0]),[(0,1,V true),(1,3,V true),(4,1,V false)]⟩), (36,⟨.struct,5,48,V (.agg #[.string ByteArray.empty,.int .i64 0,.int .i64 0,.int .i64 0,.int .i64 0]),[(0,1,V false),(1,1,V false),(2,1,V false),(3,1,V false),(4,1,V false)]⟩), (37,⟨.slice 2,1,24,V (.slice U 0 0),[]⟩), (40,⟨.slice 126,1,24,V (.slice U 0 0),[]⟩), (41,⟨.slice 48,1,24,V (.slice U 0 0),[]⟩), (43,⟨.struct,2,48,V (.agg #[.slice U 0 0,.slice U 0 0]),[(0,1,V false),(1,1,V false)]⟩), (48,⟨.struct,4,32,V (.agg #[.int .i64 0,.int .i64 0,.int .i64 0,.int .i64 0]),[(0,1,V false),(1,1,V false),(2,1,V false),(3,1,V false)]⟩), (49,⟨.slice 70,1,24,V (.slice U 0 0),[]⟩), (52,⟨.slice 4,1,24,V (.slice U 0 0),[]⟩), (53,⟨.slice 68,1,24,V (.slice U 0 0),[]⟩), (55,⟨.struct,3,72,V (.agg #[.slice U 0 0,.slice U 0 0,.slice U 0 0]),[(0,1,V false),(1,1,V false),(2,1,V false)]⟩), (62,⟨.struct,12,216,V (.agg #[.slice U 0 0,.slice U 0 0,.slice U 0 0,.slice U 0 0,.slice U 0 0,.string ByteArray.empty,.int .i64 0,.int .i64 0,.int .i64 0,.int .i64 0,.slice U 0 0,.slice U 0 0]),[(0,5,V true),(5,5,V true),(10,1,V false),(11,1,V false)]⟩), (68,⟨.struct,2,16,V (.agg #[.int .i64 0,.int .i64 0]),[(0,1,V false),(1,1,V false)]⟩), (70,⟨.struct,5,40,V (.agg #[.int .i64 0,.int .i64 0,.int .i64 0,.int .i64 0,.int .i64 0]),[(0,1,V false),(1,2,V true),(3,2,V true)]⟩), (73,⟨.slice 77,1,24,V (.slice U 0 0),[]⟩), (77,⟨.struct,4,32,V (.agg #[.int .i64 0,.int .i64 0,.int .i64 0,.int .i64 0]),[(0,1,V false),(1,1,V false),(2,1,V false),(3,1,V false)]⟩), (84,⟨.struct,3,40,V (.agg #[.int .i64 0,.slice U 0 0,.int .i64 0]),[(0,1,V false),(1,1,V false),(2,1,V false)]⟩), (97,⟨.ptr,1,8,V (.pointer U),[]⟩), (102,⟨.struct,3,48,V (.agg #[.string ByteArray.empty,.int .i64 0,.slice U 0 0]),[(0,1,V false),(1,1,V false),(2,1,V false)]⟩), (106,⟨.ptr,1,8,V (.pointer U),[]⟩), (110,⟨.slice 210,1,24,V (.slice U 0 0),[]⟩), (112,⟨.ptr,1,8,V (.pointer U),[]⟩), (115,⟨.struct,2,32,V (.agg #[.pointer U,.slice U 0 0]),[(0,1,V false),(1,1,V false)]⟩), (116,⟨.slice 200,1,24,V (.slice U 0 0),[]⟩), (117,⟨.slice 37,1,24,V (.slice U 0 0),[]⟩), (119,⟨.struct,10,240,V (.agg #[.slice U 0 0,.slice U 0 0,.slice U 0 0,.slice U 0 0,.slice U 0 0,.slice U 0 0,.slice U 0 0,.slice U 0 0,.slice U 0 0,.slice U 0 0]),[(0,5,V true),(5,1,V false),(6,1,V false),(7,1,V false),(8,1,V false),(9,1,V false)]⟩), (126,⟨.struct,2,16,V (.agg #[.int .i64 0,.int .i64 0]),[(0,1,V false),(1,1,V false)]⟩), (150,⟨.ptr,1,8,V (.pointer U),[]⟩), (181,⟨.slice 286,1,24,V (.slice U 0 0),[]⟩), (182,⟨.slice 187,1,24,V (.slice U 0 0),[]⟩), (184,⟨.struct,7,112,V (.agg #[.string ByteArray.empty,.int .i64 0,.slice U 0 0,.slice U 0 0,.slice U 0 0,.int .i64 0,.int .i64 0]),[(0,1,V false),(1,1,V false),(2,1,V false),(3,1,V false),(4,1,V false),(5,1,V false),(6,1,V false)]⟩), (185,⟨.slice 264,1,24,V (.slice U 0 0),[]⟩), (187,⟨.struct,6,80,V (.agg #[.int .i64 0,.int .i64 0,.int .i64 0,.int .i64 0,.slice U 0 0,.slice U 0 0]),[(0,1,V false),(1,1,V false),(2,1,V false),(3,1,V false),(4,1,V false),(5,1,V false)]⟩), (191,⟨.struct,3,40,V (.agg #[.slice U 0 0,.int .i64 0,.int .i64 0]),[(0,1,V false),(1,1,V false),(2,1,V false)]⟩), (196,⟨.struct,4,96,V (.agg #[.slice U 0 0,.slice U 0 0,.slice U 0 0,.slice U 0 0]),[(0,1,V false),(1,1,V false),(2,1,V false),(3,1,V false)]⟩), (200,⟨.struct,4,32,V (.agg #[.int .i64 0,.int .i64 0,.int .i64 0,.bool false]),[(0,1,V false),(1,1,V false),(2,1,V false),(3,1,V false)]⟩), (210,⟨.struct,3,24,V (.agg #[.int .i64 0,.int .i64 0,.int .i64 0]),[(0,1,V false),(1,1,V false),(2,1,V false)]⟩), (212,⟨.slice 3,1,24,V (.slice U 0 0),[]⟩), (222,⟨.slice 225,1,24,V (.slice U 0 0),[]⟩), (225,⟨.struct,4,32,V (.agg #[.int .i64 0,.int .i64 0,.int .i64 0,.bool false]),[(0,1,V false),(1,1,V false),(2,1,V false),(3,1,V false)]⟩), (234,⟨.ptr,1,8,V (.pointer U),[]⟩), (243,⟨.struct,17,336,V (.agg #[.slice U 0 0,.slice U 0 0,.slice U 0 0,.slice U 0 0,.slice U 0 0,.string ByteArray.empty,.int .i64 0,.int .i64 0,.int .i64 0,.int .i64 0,.slice U 0 0,.slice U 0 0,.slice U 0 0,.slice U 0 0,.slice U 0 0,.slice U 0 0,.slice U 0 0]),[(0,12,V true),(12,1,V false),(13,1,V false),(14,3,V true)]⟩), (246,⟨.struct,17,320,V (.agg #[.pointer U,.slice U 0 0,.slice U 0 0,.slice U 0 0,.slice U 0 0,.slice U 0 0,.string ByteArray.empty,.int .i64 0,.int .i64 0,.int .i64 0,.int .i64 0,.slice U 0 0,.slice U 0 0,.slice U 0 0,.slice U 0 0,.slice U 0 0,.slice U 0 0]),[(0,1,V false),(1,12,V true),(13,3,V true),(16,1,V false)]⟩), (264,⟨.struct,3,72,V (.agg #[.slice U 0 0,.slice U 0 0,.slice U 0 0]),[(0,1,V false),(1,1,V false),(2,1,V false)]⟩), (267,⟨.struct,3,32,V (.agg #[.string ByteArray.empty,.int .i64 0,.int .i64 0]),[(0,1,V false),(1,1,V false),(2,1,V false)]⟩), (279,⟨.slice 281,1,24,V (.slice U 0 0),[]⟩), (281,⟨.arr 2 2,2,16,V (.agg #[.int .i64 0,.int .i64 0]),[]⟩), (286,⟨.struct,4,40,V (.agg #[.string ByteArray.empty,.int .i64 0,.int .i64 0,.bool false]),[(0,1,V false),(1,1,V false),(2,1,V false),(3,1,V false)]⟩), (328,⟨.slice 332,1,24,V (.slice U 0 0),[]⟩), (332,⟨.struct,2,16,V (.agg #[.int .i64 0,.int .i64 0]),[(0,1,V false),(1,1,V false)]⟩), (338,⟨.int .u64,1,8,V (.int .u64 0),[]⟩)]
theorem qa:TabOk prog tab:=TabOk.mk (by kernel_rfl)
theorem rp {n:Nat}{Q:Exit→Act→World→Prop}{k:List It}{e:Env}{w:World}{all:Array Oper}{l:List Oper}{a:Op}{d t:Nat}{ps:String}{af:Array Edge}{v:Value}
  (h:pev tab e a=V v) (c:Nat.blt d n=true) (b:Run prog n Q (.ops all l::k) ((d,v)::e) w):Run prog n Q (.ops all (⟨V d,a,t,ps,af,U⟩::l)::k) e w:=r_p qa h c b
theorem dp {n:Nat}{Q:Exit→Act→World→Prop}{k:List It}{e:Env}{w:World}{all:Array Oper}{l:List Oper}{a:Op}{d t:Nat}{ps:String}{af:Array Edge}{v:Value}
  (h:pev tab e a=V v) (c:Nat.blt d n=true) (b:RunD prog n Q k all w l ((d,v)::e)):RunD prog n Q k all w (⟨V d,a,t,ps,af,U⟩::l) e:=d_p qa h c b
section
variable {P:Program}{n:Nat}{Q:Exit→Act→World→Prop}{k:List It}{e:Env}{w:World}
theorem zSR {c:Nat}{a:List Oper}{b:Code}(h:Run P n Q (.ops a.toArray a::.code b::k) e w):Run P n Q (.code (.seq (.region c a.toArray false) b)::k) e w:=qb8 <| qjJ h
theorem zKSR {c:Nat}{a:List Oper}{b:Code}(h:Run P n Q (.ops a.toArray a::.code b::k) e w):Run P n Q (.code .skip::.code (.seq (.region c a.toArray false) b)::k) e w:=qfk <| qb8 <| qjJ h
theorem zNSR {a1:Array Oper}{c:Nat}{a:List Oper}{b:Code}(h:Run P n Q (.ops a.toArray a::.code b::k) e w):Run P n Q (.ops a1 []::.code (.seq (.region c a.toArray false) b)::k) e w:=qbe <| qb8 <| qjJ h
theorem zKS {a:Code}{b:Code}(h:Run P n Q (.code a::.code b::k) e w):Run P n Q (.code .skip::.code (.seq a b)::k) e w:=qfk <| qb8 h
theorem zNS {a1:Array Oper}{a:Code}{b:Code}(h:Run P n Q (.code a::.code b::k) e w):Run P n Q (.ops a1 []::.code (.seq a b)::k) e w:=qbe <| qb8 h
theorem zNSS {a1:Array Oper}{b:Code}{c:Code}{a:Code}(h:Run P n Q (.code b::.code c::.code a::k) e w):Run P n Q (.ops a1 []::.code (.seq (.seq b c) a)::k) e w:=qbe <| qb8 <| qb8 h
theorem zKSB {a:Nat}{c:Code}{b:Code}(h:Run P n Q (.code c::.blk a::.code b::k) e w):Run P n Q (.code .skip::.code (.seq (.block a c) b)::k) e w:=qfk <| qb8 <| qn h
theorem zKSBSR {b:Nat}{f:Nat}{a:List Oper}{d:Code}{c:Code}(h:Run P n Q (.ops a.toArray a::.code d::.blk b::.code c::k) e w):Run P n Q (.code .skip::.code (.seq (.block b (.seq (.region f a.toArray false) d)) c)::k) e w:=qfk <| qb8 <| qn <| qb8 <| qjJ h
theorem zNE {a1:Array Oper}{a:Nat}(h:Run P n Q (k) e w):Run P n Q (.ops a1 []::.blk a::k) e w:=qbe <| qtu h
theorem zSS {b:Code}{c:Code}{a:Code}(h:Run P n Q (.code b::.code c::.code a::k) e w):Run P n Q (.code (.seq (.seq b c) a)::k) e w:=qb8 <| qb8 h
theorem zKSS {b:Code}{c:Code}{a:Code}(h:Run P n Q (.code b::.code c::.code a::k) e w):Run P n Q (.code .skip::.code (.seq (.seq b c) a)::k) e w:=qfk <| qb8 <| qb8 h
end
section
variable {w0 w:World}{L:List Ch}{n:Nat}{Q:Exit→Act→World→Prop}{k k':List It}{e e':Env}{all:Array Oper}{l l':List Oper}{z:List Nat}
theorem X0 (m:Nat)(a:xs tab n m [] k e [] []=V (k',e',z,z))(b:Run prog n Q k' e' w):Run prog n Q k e w:=((qpM (P:=prog) (Q:=Q) (w:=w) qa m _ _ _ _ _ _ _ _ _ (fun _ h=>by cases h) rfl a).2 rfl).2 b
theorem Y0 (m:Nat)(a:xd tab n all m [] l e [] []=V (l',e',z,z))(b:RunD prog n Q k all w l' e'):RunD prog n Q k all w l e:=((qu6 (P:=prog) (Q:=Q) (k:=k) (w:=w) (all:=all) qa m _ _ _ _ _ _ _ _ _ (fun _ h=>by cases h) rfl a).2 rfl).2 b
theorem X1 (m:Nat)(i0:Nat){b0 b:Nat}{a:List Value}(h:SH w0 w L)(c:(L[i0]?,xs tab n m [(b0,a)] k e [] [])=(V (Ch.box b0 a b),V (k',e',z,z)))(f:Run prog n Q k' e' w):Run prog n Q k e w:=by
 simp only[Prod.mk.injEq] at c;exact((qpM (P:=prog) (Q:=Q) (w:=w) qa m _ _ _ _ _ _ _ _ _ (fun p d=>by
  simp only[jG,jy,or_false] at d;rcases d with rfl
  ·exact h.box i0 c.1) Z c.2).2 Z).2 f
theorem Y1 (m:Nat)(i0:Nat){b0 b:Nat}{a:List Value}(h:SH w0 w L)(c:(L[i0]?,xd tab n all m [(b0,a)] l e [] [])=(V (Ch.box b0 a b),V (l',e',z,z)))(f:RunD prog n Q k all w l' e'):RunD prog n Q k all w l e:=by
 simp only[Prod.mk.injEq] at c;exact((qu6 (P:=prog) (Q:=Q) (k:=k) (w:=w) (all:=all) qa m _ _ _ _ _ _ _ _ _ (fun p d=>by
  simp only[jG,jy,or_false] at d;rcases d with rfl
  ·exact h.box i0 c.1) Z c.2).2 Z).2 f
theorem X2 (m:Nat)(i0 b:Nat){b0 c:Nat}{a:List Value}{b1 d:Nat}{cs1:List Value}(h:SH w0 w L)(f:(L[i0]?,L[b]?,xs tab n m [(b0,a),(b1,cs1)] k e [] [])=(V (Ch.box b0 a c),V (Ch.box b1 cs1 d),V (k',e',z,z)))(i:Run prog n Q k' e' w):Run prog n Q k e w:=by
 simp only[Prod.mk.injEq] at f;exact((qpM (P:=prog) (Q:=Q) (w:=w) qa m _ _ _ _ _ _ _ _ _ (fun p g=>by
  simp only[jG,jy,or_false] at g;rcases g with rfl|rfl
  ·exact h.box i0 f.1
  ·exact h.box b f.2.1) Z f.2.2).2 Z).2 i
theorem X3 (m:Nat)(i0 b c:Nat){b0 d:Nat}{a:List Value}{b1 f:Nat}{cs1:List Value}{b2 g:Nat}{cs2:List Value}(h:SH w0 w L)(i:(L[i0]?,L[b]?,L[c]?,xs tab n m [(b0,a),(b1,cs1),(b2,cs2)] k e [] [])=(V (Ch.box b0 a d),V (Ch.box b1 cs1 f),V (Ch.box b2 cs2 g),V (k',e',z,z)))(o:Run prog n Q k' e' w):Run prog n Q k e w:=by
 simp only[Prod.mk.injEq] at i;exact((qpM (P:=prog) (Q:=Q) (w:=w) qa m _ _ _ _ _ _ _ _ _ (fun p l=>by
  simp only[jG,jy,or_false] at l;rcases l with rfl|rfl|rfl
  ·exact h.box i0 i.1
  ·exact h.box b i.2.1
  ·exact h.box c i.2.2.1) Z i.2.2.2).2 Z).2 o
theorem X4 (m:Nat)(i0 b c d:Nat){b0 f:Nat}{a:List Value}{b1 g:Nat}{cs1:List Value}{b2 i:Nat}{cs2:List Value}{b3 l:Nat}{cs3:List Value}(h:SH w0 w L)(o:(L[i0]?,L[b]?,L[c]?,L[d]?,xs tab n m [(b0,a),(b1,cs1),(b2,cs2),(b3,cs3)] k e [] [])=(V (Ch.box b0 a f),V (Ch.box b1 cs1 g),V (Ch.box b2 cs2 i),V (Ch.box b3 cs3 l),V (k',e',z,z)))(s:Run prog n Q k' e' w):Run prog n Q k e w:=by
 simp only[Prod.mk.injEq] at o;exact((qpM (P:=prog) (Q:=Q) (w:=w) qa m _ _ _ _ _ _ _ _ _ (fun p r=>by
  simp only[jG,jy,or_false] at r;rcases r with rfl|rfl|rfl|rfl
  ·exact h.box i0 o.1
  ·exact h.box b o.2.1
  ·exact h.box c o.2.2.1
  ·exact h.box d o.2.2.2.1) Z o.2.2.2.2).2 Z).2 s
theorem X5 (m:Nat)(i0 c d f g:Nat){b0 i:Nat}{a:List Value}{b1 l:Nat}{cs1:List Value}{b2 o:Nat}{cs2:List Value}{b3 r:Nat}{cs3:List Value}{b s:Nat}{cs4:List Value}(h:SH w0 w L)(t:(L[i0]?,L[c]?,L[d]?,L[f]?,L[g]?,xs tab n m [(b0,a),(b1,cs1),(b2,cs2),(b3,cs3),(b,cs4)] k e [] [])=(V (Ch.box b0 a i),V (Ch.box b1 cs1 l),V (Ch.box b2 cs2 o),V (Ch.box b3 cs3 r),V (Ch.box b cs4 s),V (k',e',z,z)))(v:Run prog n Q k' e' w):Run prog n Q k e w:=by
 simp only[Prod.mk.injEq] at t;exact((qpM (P:=prog) (Q:=Q) (w:=w) qa m _ _ _ _ _ _ _ _ _ (fun p u=>by
  simp only[jG,jy,or_false] at u;rcases u with rfl|rfl|rfl|rfl|rfl
  ·exact h.box i0 t.1
  ·exact h.box c t.2.1
  ·exact h.box d t.2.2.1
  ·exact h.box f t.2.2.2.1
  ·exact h.box g t.2.2.2.2.1) Z t.2.2.2.2.2).2 Z).2 v
end
section
variable {w0 w:World}{L:List Ch}{n:Nat}{Q:Exit→Act→World→Prop}{k:List It}{e:Env}{all:Array Oper}{l:List Oper}
theorem zp1 {a:Op}{b f:Nat}{s0:String}{d:Array Edge}{c:Value}(h:(pev tab (e) a,Nat.blt b n)=(V c,true))(g:Run prog n Q (.ops all l::k) ((b,c)::e) w):Run prog n Q (.ops all (⟨V b,a,f,s0,d,U⟩::l)::k) e w:=by
 have H:=h;simp only[Prod.mk.injEq] at H;exact rp (H.1) (H.2) (g)
theorem zd1 {a:Op}{b f:Nat}{s0:String}{d:Array Edge}{c:Value}(h:(pev tab (e) a,Nat.blt b n)=(V c,true))(g:RunD prog n Q k all w l ((b,c)::e)):RunD prog n Q k all w (⟨V b,a,f,s0,d,U⟩::l) e:=by
 have H:=h;simp only[Prod.mk.injEq] at H;exact dp (H.1) (H.2) (g)
theorem zp2 {a:Op}{c m:Nat}{s0:String}{i:Array Edge}{f:Value}{b:Op}{d o:Nat}{s1:String}{f1:Array Edge}{g:Value}(h:(pev tab (e) a,Nat.blt c n,pev tab ((c,f)::e) b,Nat.blt d n)=(V f,true,V g,true))(p:Run prog n Q (.ops all l::k) ((d,g)::(c,f)::e) w):Run prog n Q (.ops all (⟨V c,a,m,s0,i,U⟩::⟨V d,b,o,s1,f1,U⟩::l)::k) e w:=by
 have H:=h;simp only[Prod.mk.injEq] at H;exact rp (H.1) (H.2.1) (rp (H.2.2.1) (H.2.2.2) (p))
theorem zd2 {a:Op}{c m:Nat}{s0:String}{i:Array Edge}{f:Value}{b:Op}{d o:Nat}{s1:String}{f1:Array Edge}{g:Value}(h:(pev tab (e) a,Nat.blt c n,pev tab ((c,f)::e) b,Nat.blt d n)=(V f,true,V g,true))(p:RunD prog n Q k all w l ((d,g)::(c,f)::e)):RunD prog n Q k all w (⟨V c,a,m,s0,i,U⟩::⟨V d,b,o,s1,f1,U⟩::l) e:=by
 have H:=h;simp only[Prod.mk.injEq] at H;exact dp (H.1) (H.2.1) (dp (H.2.2.1) (H.2.2.2) (p))
theorem zp3 {b:Op}{a p:Nat}{s0:String}{o:Array Edge}{g:Value}{c:Op}{f r:Nat}{s1:String}{f1:Array Edge}{i:Value}{d:Op}{d2 s:Nat}{s2:String}{f2:Array Edge}{m:Value}(h:(pev tab (e) b,Nat.blt a n,pev tab ((a,g)::e) c,Nat.blt f n,pev tab ((f,i)::(a,g)::e) d,Nat.blt d2 n)=(V g,true,V i,true,V m,true))(t:Run prog n Q (.ops all l::k) ((d2,m)::(f,i)::(a,g)::e) w):Run prog n Q (.ops all (⟨V a,b,p,s0,o,U⟩::⟨V f,c,r,s1,f1,U⟩::⟨V d2,d,s,s2,f2,U⟩::l)::k) e w:=by
 have H:=h;simp only[Prod.mk.injEq] at H;exact rp (H.1) (H.2.1) (rp (H.2.2.1) (H.2.2.2.1) (rp (H.2.2.2.2.1) (H.2.2.2.2.2) (t)))
theorem zd3 {b:Op}{a p:Nat}{s0:String}{o:Array Edge}{g:Value}{c:Op}{f r:Nat}{s1:String}{f1:Array Edge}{i:Value}{d:Op}{d2 s:Nat}{s2:String}{f2:Array Edge}{m:Value}(h:(pev tab (e) b,Nat.blt a n,pev tab ((a,g)::e) c,Nat.blt f n,pev tab ((f,i)::(a,g)::e) d,Nat.blt d2 n)=(V g,true,V i,true,V m,true))(t:RunD prog n Q k all w l ((d2,m)::(f,i)::(a,g)::e)):RunD prog n Q k all w (⟨V a,b,p,s0,o,U⟩::⟨V f,c,r,s1,f1,U⟩::⟨V d2,d,s,s2,f2,U⟩::l) e:=by
 have H:=h;simp only[Prod.mk.injEq] at H;exact dp (H.1) (H.2.1) (dp (H.2.2.1) (H.2.2.2.1) (dp (H.2.2.2.2.1) (H.2.2.2.2.2) (t)))
theorem zp4 {c:Op}{a v:Nat}{s0:String}{s:Array Edge}{i:Value}{d:Op}{b x:Nat}{s1:String}{f1:Array Edge}{m:Value}{f:Op}{d2 y:Nat}{s2:String}{f2:Array Edge}{p:Value}{g:Op}{o z:Nat}{u:String}{t:Array Edge}{r:Value}(h:(pev tab (e) c,Nat.blt a n,pev tab ((a,i)::e) d,Nat.blt b n,pev tab ((b,m)::(a,i)::e) f,Nat.blt d2 n,pev tab ((d2,p)::(b,m)::(a,i)::e) g,Nat.blt o n)=(V i,true,V m,true,V p,true,V r,true))(A:Run prog n Q (.ops all l::k) ((o,r)::(d2,p)::(b,m)::(a,i)::e) w):Run prog n Q (.ops all (⟨V a,c,v,s0,s,U⟩::⟨V b,d,x,s1,f1,U⟩::⟨V d2,f,y,s2,f2,U⟩::⟨V o,g,z,u,t,U⟩::l)::k) e w:=by
 have H:=h;simp only[Prod.mk.injEq] at H;exact rp (H.1) (H.2.1) (rp (H.2.2.1) (H.2.2.2.1) (rp (H.2.2.2.2.1) (H.2.2.2.2.2.1) (rp (H.2.2.2.2.2.2.1) (H.2.2.2.2.2.2.2) (A))))
theorem zd4 {c:Op}{a v:Nat}{s0:String}{s:Array Edge}{i:Value}{d:Op}{b x:Nat}{s1:String}{f1:Array Edge}{m:Value}{f:Op}{d2 y:Nat}{s2:String}{f2:Array Edge}{p:Value}{g:Op}{o z:Nat}{u:String}{t:Array Edge}{r:Value}(h:(pev tab (e) c,Nat.blt a n,pev tab ((a,i)::e) d,Nat.blt b n,pev tab ((b,m)::(a,i)::e) f,Nat.blt d2 n,pev tab ((d2,p)::(b,m)::(a,i)::e) g,Nat.blt o n)=(V i,true,V m,true,V p,true,V r,true))(A:RunD prog n Q k all w l ((o,r)::(d2,p)::(b,m)::(a,i)::e)):RunD prog n Q k all w (⟨V a,c,v,s0,s,U⟩::⟨V b,d,x,s1,f1,U⟩::⟨V d2,f,y,s2,f2,U⟩::⟨V o,g,z,u,t,U⟩::l) e:=by
 have H:=h;simp only[Prod.mk.injEq] at H;exact dp (H.1) (H.2.1) (dp (H.2.2.1) (H.2.2.2.1) (dp (H.2.2.2.2.1) (H.2.2.2.2.2.1) (dp (H.2.2.2.2.2.2.1) (H.2.2.2.2.2.2.2) (A))))
theorem zp5 {d:Op}{a B:Nat}{s0:String}{v:Array Edge}{c:Value}{f:Op}{b C:Nat}{s1:String}{f1:Array Edge}{o:Value}{g:Op}{d2 D:Nat}{s2:String}{f2:Array Edge}{r:Value}{i:Op}{p F:Nat}{z:String}{x:Array Edge}{t:Value}{m:Op}{s I:Nat}{A:String}{y:Array Edge}{u:Value}(h:(pev tab (e) d,Nat.blt a n,pev tab ((a,c)::e) f,Nat.blt b n,pev tab ((b,o)::(a,c)::e) g,Nat.blt d2 n,pev tab ((d2,r)::(b,o)::(a,c)::e) i,Nat.blt p n,pev tab ((p,t)::(d2,r)::(b,o)::(a,c)::e) m,Nat.blt s n)=(V c,true,V o,true,V r,true,V t,true,V u,true))(J:Run prog n Q (.ops all l::k) ((s,u)::(p,t)::(d2,r)::(b,o)::(a,c)::e) w):Run prog n Q (.ops all (⟨V a,d,B,s0,v,U⟩::⟨V b,f,C,s1,f1,U⟩::⟨V d2,g,D,s2,f2,U⟩::⟨V p,i,F,z,x,U⟩::⟨V s,m,I,A,y,U⟩::l)::k) e w:=by
 have H:=h;simp only[Prod.mk.injEq] at H;exact rp (H.1) (H.2.1) (rp (H.2.2.1) (H.2.2.2.1) (rp (H.2.2.2.2.1) (H.2.2.2.2.2.1) (rp (H.2.2.2.2.2.2.1) (H.2.2.2.2.2.2.2.1) (rp (H.2.2.2.2.2.2.2.2.1) (H.2.2.2.2.2.2.2.2.2) (J)))))
theorem zd5 {d:Op}{a B:Nat}{s0:String}{v:Array Edge}{c:Value}{f:Op}{b C:Nat}{s1:String}{f1:Array Edge}{o:Value}{g:Op}{d2 D:Nat}{s2:String}{f2:Array Edge}{r:Value}{i:Op}{p F:Nat}{z:String}{x:Array Edge}{t:Value}{m:Op}{s I:Nat}{A:String}{y:Array Edge}{u:Value}(h:(pev tab (e) d,Nat.blt a n,pev tab ((a,c)::e) f,Nat.blt b n,pev tab ((b,o)::(a,c)::e) g,Nat.blt d2 n,pev tab ((d2,r)::(b,o)::(a,c)::e) i,Nat.blt p n,pev tab ((p,t)::(d2,r)::(b,o)::(a,c)::e) m,Nat.blt s n)=(V c,true,V o,true,V r,true,V t,true,V u,true))(J:RunD prog n Q k all w l ((s,u)::(p,t)::(d2,r)::(b,o)::(a,c)::e)):RunD prog n Q k all w (⟨V a,d,B,s0,v,U⟩::⟨V b,f,C,s1,f1,U⟩::⟨V d2,g,D,s2,f2,U⟩::⟨V p,i,F,z,x,U⟩::⟨V s,m,I,A,y,U⟩::l) e:=by
 have H:=h;simp only[Prod.mk.injEq] at H;exact dp (H.1) (H.2.1) (dp (H.2.2.1) (H.2.2.2.1) (dp (H.2.2.2.2.1) (H.2.2.2.2.2.1) (dp (H.2.2.2.2.2.2.1) (H.2.2.2.2.2.2.2.1) (dp (H.2.2.2.2.2.2.2.2.1) (H.2.2.2.2.2.2.2.2.2) (J)))))
theorem zl (i j:Nat){d t ty:Nat}{x:Operand}{c:TE}{ps:String}{af:Array Edge}{v:Value}{b:Nat}{cs:List Value}{g:TypeId}(h:SH w0 w L)(a:(L[i]?,opv e x,tab.get t,ld c cs j,Nat.blt d n)=(V (Ch.box b cs g),V (.pointer (V ⟨b,0+j,U⟩)),V c,V v,true))
  (f:Run prog n Q (.ops all l::k) ((d,v)::e) w):Run prog n Q (.ops all (⟨V d,.load t x,ty,ps,af,U⟩::l)::k) e w:=by
 simp only[Prod.mk.injEq] at a;exact r_v (qbf qa (h.box i a.1) (j:=j) a.2.1 a.2.2.1 a.2.2.2.1) a.2.2.2.2 f
theorem zc (j:Nat){d t ty:Nat}{x:Operand}{c:TE}{ps:String}{af:Array Edge}{v:Value}{b o:Nat}{cs:List Value}(h:CellsAt w b o cs)(a:(opv e x,tab.get t,ld c cs j,Nat.blt d n)=(V (.pointer (V ⟨b,o+j,U⟩)),V c,V v,true))
  (f:Run prog n Q (.ops all l::k) ((d,v)::e) w):Run prog n Q (.ops all (⟨V d,.load t x,ty,ps,af,U⟩::l)::k) e w:=by
 simp only[Prod.mk.injEq] at a;exact r_v (qbf qa h (j:=j) a.1 a.2.1 a.2.2.1) a.2.2.2 f
theorem zdc (j:Nat){d t ty:Nat}{x:Operand}{c:TE}{ps:String}{af:Array Edge}{v:Value}{b o:Nat}{cs:List Value}(h:CellsAt w b o cs)(a:(opv e x,tab.get t,ld c cs j,Nat.blt d n)=(V (.pointer (V ⟨b,o+j,U⟩)),V c,V v,true))
  (g:RunD prog n Q k all w l ((d,v)::e)):RunD prog n Q k all w (⟨V d,.load t x,ty,ps,af,U⟩::l) e:=by
 simp only[Prod.mk.injEq] at a;exact d_v (fun _ f=>qbf qa (h.below f) (j:=j) a.1 a.2.1 a.2.2.1) a.2.2.2 g
theorem zx {x i:Operand}{t ty d el m:Nat}{r a:TE}{ps:String}{af:Array Edge}{p:Option Addr}{h c:Nat}{kd:IntKind}{iv:Int}{b o q:Nat}(u:p=V ⟨b,o,U⟩)(v:q=o+iv.toNat*m)(g:0≤iv∧iv<h)(f:(opv e x,opv e i,tab.get t,r.kind,tab.get el,a.size,Nat.blt d n)=(V (.slice p h c),V (.int kd iv),V r,TK.slice el,V a,m,true))(s:Run prog n Q (.ops all l::k) ((d,.pointer (V ⟨b,q,U⟩))::e) w):Run prog n Q (.ops all (⟨V d,.indexAddr t x i,ty,ps,af,U⟩::l)::k) e w:=by
 simp only[Prod.mk.injEq] at f;exact r_v (qub qa u v g f.1 f.2.1 f.2.2.1 f.2.2.2.1 f.2.2.2.2.1 f.2.2.2.2.2.1) f.2.2.2.2.2.2 s
theorem zxe {x i:Operand}{t ty d el m:Nat}{h a:TE}{ps:String}{af:Array Edge}{p:Option Addr}{g c:Nat}{kd:IntKind}{iv:Int}{b o q:Nat}{α:Prop}(u:p=V ⟨b,o,U⟩)(v:q=o+iv.toNat*m)(f:0≤iv∧iv<g∧α)(r:(opv e x,opv e i,tab.get t,h.kind,tab.get el,a.size,Nat.blt d n)=(V (.slice p g c),V (.int kd iv),V h,TK.slice el,V a,m,true))(s:Run prog n Q (.ops all l::k) ((d,.pointer (V ⟨b,q,U⟩))::e) w):Run prog n Q (.ops all (⟨V d,.indexAddr t x i,ty,ps,af,U⟩::l)::k) e w:=zx u v ⟨f.1,f.2.1⟩ r s
theorem zdx {x i:Operand}{t ty d el m:Nat}{r a:TE}{ps:String}{af:Array Edge}{p:Option Addr}{h c:Nat}{kd:IntKind}{iv:Int}{b o q:Nat}(u:p=V ⟨b,o,U⟩)(v:q=o+iv.toNat*m)(g:0≤iv∧iv<h)(f:(opv e x,opv e i,tab.get t,r.kind,tab.get el,a.size,Nat.blt d n)=(V (.slice p h c),V (.int kd iv),V r,TK.slice el,V a,m,true))(s:RunD prog n Q k all w l ((d,.pointer (V ⟨b,q,U⟩))::e)):RunD prog n Q k all w (⟨V d,.indexAddr t x i,ty,ps,af,U⟩::l) e:=by
 simp only[Prod.mk.injEq] at f;exact d_v (fun _ _=>qub qa u v g f.1 f.2.1 f.2.2.1 f.2.2.2.1 f.2.2.2.2.1 f.2.2.2.2.2.1) f.2.2.2.2.2.2 s
theorem zdxe {x i:Operand}{t ty d el m:Nat}{h a:TE}{ps:String}{af:Array Edge}{p:Option Addr}{g c:Nat}{kd:IntKind}{iv:Int}{b o q:Nat}{α:Prop}(u:p=V ⟨b,o,U⟩)(v:q=o+iv.toNat*m)(f:0≤iv∧iv<g∧α)(r:(opv e x,opv e i,tab.get t,h.kind,tab.get el,a.size,Nat.blt d n)=(V (.slice p g c),V (.int kd iv),V h,TK.slice el,V a,m,true))(s:RunD prog n Q k all w l ((d,.pointer (V ⟨b,q,U⟩))::e)):RunD prog n Q k all w (⟨V d,.indexAddr t x i,ty,ps,af,U⟩::l) e:=zdx u v ⟨f.1,f.2.1⟩ r s
theorem zs (i:Nat){t ty:Nat}{ps:String}{af:Array Edge}{x v:Operand}{D:TE}{b j:Nat}{cs A z:List Value}{C:TypeId}{u:Value}{L':List Ch}(h:SH w0 w L)
  (B:(L[i]?,opv e x,opv e v,cellsL u,tab.get t,Nat.beq A.length D.size,Nat.ble (j+A.length) cs.length,ones A,splN cs j A,setN L i (Ch.box b z C))=(V (Ch.box b cs C),V (.pointer (V ⟨b,j,U⟩)),V u,A,V D,true,true,true,V z,V L'))
  (F:∀ w',SH w0 w' L'→Run prog n Q (.ops all l::k) e w'):Run prog n Q (.ops all (⟨U,.store t x v,ty,ps,af,U⟩::l)::k) e w:=by
 simp only[Prod.mk.injEq] at B;obtain⟨d,f,g,m,o,p,r,s,y,a⟩:=B;subst m;have e1:=qp6 y;have c:=qr7 a;subst e1 c;exact quR qa i h d f g o p r s F
end
section
variable {P:Program}{fnc:Func}{R:Ending→World→Prop}{n:Nat}{k:List It}{e:Env}{w0 w:World}{ops:Array Oper}{st:List Nat}{fuel:Nat}
theorem M0 (K:Nat)(is:List Nat){C:World→Prop}{m K0 f a:Nat}{e':Env}{z:List Nat}(b:C w)(c:xa tab n ops is [] f e [] []=V (a,e',z,z))
  (d:RunA prog n (bodyPost prog fnc R) k ops st C a (bits m K) e' w) (g:oka ops st is (bits m K0) (bits m K)=true:=by kernel_rfl):RunA prog n (bodyPost prog fnc R) k ops st C f (bits m K0) e w:=by
 exact((qqG (C:=C) (w:=w) (P:=prog) qa b is _ _ _ _ _ _ _ _ _ _ _ (fun _ h=>by cases h) rfl c g).2 rfl).2 d
theorem G0 (K:Nat)(is:List Nat){C:World→Prop}{m K0 f a:Nat}{e':Env}{z:List Nat}{all:Array Oper}(b:C w)(c:xa tab n ops is [] f e [] []=V (a,e',z,z))
  (d:RunA prog n (bodyPost prog fnc R) k ops st C a (bits m K) e' w) (g:oka ops st is (bits m K0) (bits m K)=true:=by kernel_rfl):Run prog n (bodyPost prog fnc R) (.ops all []::.goal (NextA prog n (bodyPost prog fnc R) k ops st C f (bits m K0))::k) e w:=
 Ag b (M0 K is (C:=C) b c d g)
theorem M1 (K:Nat)(is:List Nat)(i0:Nat){b0 b:Nat}{a:List Value}{LA:List Ch}{m K0 f d:Nat}{e':Env}{z:List Nat}(h:SH w0 w LA)(c:(LA[i0]?,xa tab n ops is [(b0,a)] f e [] [])=(V (Ch.box b0 a b),V (d,e',z,z)))
  (i:RunA prog n (bodyPost prog fnc R) k ops st (fun w'=>SH w0 w' LA) d (bits m K) e' w) (l:oka ops st is (bits m K0) (bits m K)=true:=by kernel_rfl):RunA prog n (bodyPost prog fnc R) k ops st (fun w'=>SH w0 w' LA) f (bits m K0) e w:=by
 simp only[Prod.mk.injEq] at c;exact((qqG (C:=(fun w'=>SH w0 w' LA)) (w:=w) (P:=prog) qa h is _ _ _ _ _ _ _ _ _ _ _ (fun p g _ o=>by
  simp only[jG,jy,or_false] at g;rcases g with rfl
  ·exact SH.box o i0 c.1) Z c.2 l).2 Z).2 i
theorem M2 (K:Nat)(is:List Nat)(i0 b:Nat){b0 c:Nat}{a:List Value}{b1 d:Nat}{cs1:List Value}{LA:List Ch}{m K0 f h:Nat}{e':Env}{z:List Nat}(o:SH w0 w LA)(g:(LA[i0]?,LA[b]?,xa tab n ops is [(b0,a),(b1,cs1)] f e [] [])=(V (Ch.box b0 a c),V (Ch.box b1 cs1 d),V (h,e',z,z)))
  (r:RunA prog n (bodyPost prog fnc R) k ops st (fun w'=>SH w0 w' LA) h (bits m K) e' w) (s:oka ops st is (bits m K0) (bits m K)=true:=by kernel_rfl):RunA prog n (bodyPost prog fnc R) k ops st (fun w'=>SH w0 w' LA) f (bits m K0) e w:=by
 simp only[Prod.mk.injEq] at g;exact((qqG (C:=(fun w'=>SH w0 w' LA)) (w:=w) (P:=prog) qa o is _ _ _ _ _ _ _ _ _ _ _ (fun p i _ l=>by
  simp only[jG,jy,or_false] at i;rcases i with rfl|rfl
  ·exact SH.box l i0 g.1
  ·exact SH.box l b g.2.1) Z g.2.2 s).2 Z).2 r
theorem M3 (K:Nat)(is:List Nat)(i0 b c:Nat){b0 d:Nat}{a:List Value}{b1 g:Nat}{cs1:List Value}{b2 h:Nat}{cs2:List Value}{LA:List Ch}{m K0 f o:Nat}{e':Env}{z:List Nat}(s:SH w0 w LA)(i:(LA[i0]?,LA[b]?,LA[c]?,xa tab n ops is [(b0,a),(b1,cs1),(b2,cs2)] f e [] [])=(V (Ch.box b0 a d),V (Ch.box b1 cs1 g),V (Ch.box b2 cs2 h),V (o,e',z,z)))
  (t:RunA prog n (bodyPost prog fnc R) k ops st (fun w'=>SH w0 w' LA) o (bits m K) e' w) (u:oka ops st is (bits m K0) (bits m K)=true:=by kernel_rfl):RunA prog n (bodyPost prog fnc R) k ops st (fun w'=>SH w0 w' LA) f (bits m K0) e w:=by
 simp only[Prod.mk.injEq] at i;exact((qqG (C:=(fun w'=>SH w0 w' LA)) (w:=w) (P:=prog) qa s is _ _ _ _ _ _ _ _ _ _ _ (fun p r _ l=>by
  simp only[jG,jy,or_false] at r;rcases r with rfl|rfl|rfl
  ·exact SH.box l i0 i.1
  ·exact SH.box l b i.2.1
  ·exact SH.box l c i.2.2.1) Z i.2.2.2 u).2 Z).2 t
theorem M4 (K:Nat)(is:List Nat)(i0 b c d:Nat){b0 g:Nat}{a:List Value}{b1 h:Nat}{cs1:List Value}{b2 i:Nat}{cs2:List Value}{b3 l:Nat}{cs3:List Value}{LA:List Ch}{m K0 f s:Nat}{e':Env}{z:List Nat}(u:SH w0 w LA)(o:(LA[i0]?,LA[b]?,LA[c]?,LA[d]?,xa tab n ops is [(b0,a),(b1,cs1),(b2,cs2),(b3,cs3)] f e [] [])=(V (Ch.box b0 a g),V (Ch.box b1 cs1 h),V (Ch.box b2 cs2 i),V (Ch.box b3 cs3 l),V (s,e',z,z)))
  (v:RunA prog n (bodyPost prog fnc R) k ops st (fun w'=>SH w0 w' LA) s (bits m K) e' w) (x:oka ops st is (bits m K0) (bits m K)=true:=by kernel_rfl):RunA prog n (bodyPost prog fnc R) k ops st (fun w'=>SH w0 w' LA) f (bits m K0) e w:=by
 simp only[Prod.mk.injEq] at o;exact((qqG (C:=(fun w'=>SH w0 w' LA)) (w:=w) (P:=prog) qa u is _ _ _ _ _ _ _ _ _ _ _ (fun p t _ r=>by
  simp only[jG,jy,or_false] at t;rcases t with rfl|rfl|rfl|rfl
  ·exact SH.box r i0 o.1
  ·exact SH.box r b o.2.1
  ·exact SH.box r c o.2.2.1
  ·exact SH.box r d o.2.2.2.1) Z o.2.2.2.2 x).2 Z).2 v
theorem Aw (i K:Nat){C:World→Prop}{m K0 d:Nat}{b:Op}{t:Nat}{ps:String}{af:Array Edge}{v:Value}(l:∀ w',C w'→Val prog n e ⟨V d,b,t,ps,af,U⟩ w' v)(c:C w)(a:(ops[i]?,Nat.blt d n)=(V (⟨V d,b,t,ps,af,U⟩:Oper),true))
  (g:RunA prog n (bodyPost prog fnc R) k ops st C fuel (bits m K) ((d,v)::e) w) (h:(bits m K0).setIfInBounds i true=bits m K:=by kernel_rfl)
  (f:(Region.noSelect ops&&Region.free .any ops (bits m K0) i&&(Region.ready .any ops (bits m K0)).contains i&&st.all (fun s=>!(Nat.beq s i)&&waitsB ops i s&&!((bits m K0).getD s true)))=true:=by kernel_rfl) :
  RunA prog n (bodyPost prog fnc R) k ops st C (fuel+1) (bits m K0) e w:=by
 simp only[Prod.mk.injEq] at a;exact qi4 i a.1 _ h f l c a.2 g
theorem Al (i K j:Nat){LA:List Ch}{m K0 d t ty b o:Nat}{x:Operand}{c:TE}{ps:String}{af:Array Edge}{v:Value}{cs:List Value}(h:CellsAt w0 b o cs)(f:SH w0 w LA)
  (a:(ops[i]?,opv e x,tab.get t,ld c cs j,Nat.blt d n)=(V (⟨V d,.load t x,ty,ps,af,U⟩:Oper),V (.pointer (V ⟨b,o+j,U⟩)),V c,V v,true))
  (l:RunA prog n (bodyPost prog fnc R) k ops st (fun w'=>SH w0 w' LA) fuel (bits m K) ((d,v)::e) w) (p:(bits m K0).setIfInBounds i true=bits m K:=by kernel_rfl)
  (g:(Region.noSelect ops&&Region.free .any ops (bits m K0) i&&(Region.ready .any ops (bits m K0)).contains i&&st.all (fun s=>!(Nat.beq s i)&&waitsB ops i s&&!((bits m K0).getD s true)))=true:=by kernel_rfl) :
  RunA prog n (bodyPost prog fnc R) k ops st (fun w'=>SH w0 w' LA) (fuel+1) (bits m K0) e w:=by
 simp only[Prod.mk.injEq] at a;exact qi4 i a.1 _ p g (fun w' r=>qbf qa (h.below r.below) (j:=j) a.2.1 a.2.2.1 a.2.2.2.1) f a.2.2.2.2 l
theorem Ax (i K:Nat){C:World→Prop}{m K0 d t ty el q:Nat}{x ix:Operand}{r a:TE}{ps:String}{af:Array Edge}{p:Option Addr}{h c l:Nat}{kd:IntKind}{iv:Int}{b o:Nat}(A:p=V ⟨b,o,U⟩)(B:q=o+iv.toNat*l)(g:0≤iv∧iv<h)(u:C w)
  (f:(ops[i]?,opv e x,opv e ix,tab.get t,r.kind,tab.get el,a.size,Nat.blt d n)=(V (⟨V d,.indexAddr t x ix,ty,ps,af,U⟩:Oper),V (.slice p h c),V (.int kd iv),V r,TK.slice el,V a,l,true))
  (y:RunA prog n (bodyPost prog fnc R) k ops st C fuel (bits m K) ((d,.pointer (V ⟨b,q,U⟩))::e) w) (z:(bits m K0).setIfInBounds i true=bits m K:=by kernel_rfl)
  (v:(Region.noSelect ops&&Region.free .any ops (bits m K0) i&&(Region.ready .any ops (bits m K0)).contains i&&st.all (fun s=>!(Nat.beq s i)&&waitsB ops i s&&!((bits m K0).getD s true)))=true:=by kernel_rfl) :
  RunA prog n (bodyPost prog fnc R) k ops st C (fuel+1) (bits m K0) e w:=by
 simp only[Prod.mk.injEq] at f;exact qi4 i f.1 _ z v (fun w' _=>qub qa A B g f.2.1 f.2.2.1 f.2.2.2.1 f.2.2.2.2.1 f.2.2.2.2.2.1 f.2.2.2.2.2.2.1) u f.2.2.2.2.2.2.2 y
theorem Ae (i K:Nat){C:World→Prop}{m K0 d t ty el q:Nat}{x ix:Operand}{l a:TE}{ps:String}{af:Array Edge}{p:Option Addr}{g c h:Nat}{kd:IntKind}{iv:Int}{b o:Nat}{α:Prop}(A:p=V ⟨b,o,U⟩)(B:q=o+iv.toNat*h)(f:0≤iv∧iv<g∧α)(r:C w)
  (v:(ops[i]?,opv e x,opv e ix,tab.get t,l.kind,tab.get el,a.size,Nat.blt d n)=(V (⟨V d,.indexAddr t x ix,ty,ps,af,U⟩:Oper),V (.slice p g c),V (.int kd iv),V l,TK.slice el,V a,h,true))
  (y:RunA prog n (bodyPost prog fnc R) k ops st C fuel (bits m K) ((d,.pointer (V ⟨b,q,U⟩))::e) w) (z:(bits m K0).setIfInBounds i true=bits m K:=by kernel_rfl)
  (u:(Region.noSelect ops&&Region.free .any ops (bits m K0) i&&(Region.ready .any ops (bits m K0)).contains i&&st.all (fun s=>!(Nat.beq s i)&&waitsB ops i s&&!((bits m K0).getD s true)))=true:=by kernel_rfl) :
  RunA prog n (bodyPost prog fnc R) k ops st C (fuel+1) (bits m K0) e w:=Ax i K A B ⟨f.1,f.2.1⟩ r v y z u
theorem rb {a:Func}{L:List Ch}{x r:Bool}(h:SH w0 w L)(F:V x=V r)(b:res1 e a.results.toList=V (.bool x)) :
  Run prog n (bodyPost prog a fun e w'=>∃ v,e=.returned v∧Below w0.heap.size w0 w'∧∃ us,v=tup us∧GoVs.Vs w' (fresh w0 w') r us) (.code .ret::k) e w:=qvS qa h F (qr3 b)
theorem ri {a:Func}{L:List Ch}{x r:Int}(h:SH w0 w L)(F:V x=V r)(b:res1 e a.results.toList=V (.int .i64 x)) :
  Run prog n (bodyPost prog a fun e w'=>∃ v,e=.returned v∧Below w0.heap.size w0 w'∧∃ us,v=tup us∧GoVs.Vs w' (fresh w0 w') r us) (.code .ret::k) e w:=qvR qa h F (qr3 b)
theorem rO {a:Func}{L:List Ch}{α:Type}[GoT α]{r:α}{S:Nat→Prop}{cs:List Value}(i:Nat)(h:SH w0 w L)(hi:L[i]?=V (Ch.own S r cs))(b:ResOk tab e w a.results.toList [GoT.v α cs]) :
  Run prog n (bodyPost prog a fun e w'=>∃ v,e=.returned v∧Below w0.heap.size w0 w'∧∃ us,v=tup us∧GoVs.Vs w' (fresh w0 w') r us) (.code .ret::k) e w:=qaj qa _ h b (PV.done h (qas (qN i h hi)))
theorem zV {ρ:Type}[GoVs ρ]{f:FuncId}{a:Func}{c:Code}{vs:List Value}{r:ρ}(m:Nat)(d:prog.funcs[f]?=V a)(b:(a.body,a.ntmps,Nat.ble vs.length m)=(V c,m,true))
  (h:SH w w []→Run prog m (bodyPost prog a fun e w'=>∃ v,e=.returned v∧Below w.heap.size w w'∧∃ us,v=tup us∧GoVs.Vs w' (fresh w w') r us) [.code c] (argEnv 0 vs) w):RetV prog f vs w r:=by
 simp only[Prod.mk.injEq] at b;exact qqI d b.1 b.2.1 b.2.2 h
end
section
variable {w0 w:World}{L:List Ch}{n:Nat}{Q:Exit→Act→World→Prop}{k:List It}{e:Env}{all:Array Oper}{l:List Oper}{d ty:Nat}{ps:String}{af:Array Edge}{x:Operand}{args:Array Operand}{ats:Array TypeId}{f:FuncId}{fi ca:Array Value}{av vs:List Value}{β:Type}{rr:β}
theorem zcI {F:Option Int}{g:Int→Option β}(h:SH w0 w L)(c:F.bind g=V rr)(m:∀ {r},F=V r→RetV prog f vs w r)
  (b:(opv e x,opvs e args.toList,fi.toList++av++ca.toList,Nat.blt d n)=(V (.func (.func f) fi ca),V av,vs,true))
  (o:∀ r w' ,SH w0 w' (L)→g r=V rr→Run prog n Q (.ops all l::k) ((d,.int .i64 r)::e) w') (a:qeF prog f:=by exact cA Z):Run prog n Q (.ops all (⟨V d,.call ⟨.value x,args,ats⟩,ty,ps,af,U⟩::l)::k) e w:=by
 obtain⟨r,p,c⟩:=qd c;simp only[Prod.mk.injEq] at b;exact qcm r h a (m p) b.1 b.2.1 b.2.2.1 b.2.2.2 (fun w'  i=>o r w'  i c)
theorem zcB {F:Option Bool}{g:Bool→Option β}(h:SH w0 w L)(c:F.bind g=V rr)(m:∀ {r},F=V r→RetV prog f vs w r)
  (b:(opv e x,opvs e args.toList,fi.toList++av++ca.toList,Nat.blt d n)=(V (.func (.func f) fi ca),V av,vs,true))
  (o:∀ r w' ,SH w0 w' (L)→g r=V rr→Run prog n Q (.ops all l::k) ((d,.bool r)::e) w') (a:qeF prog f:=by exact cA Z):Run prog n Q (.ops all (⟨V d,.call ⟨.value x,args,ats⟩,ty,ps,af,U⟩::l)::k) e w:=by
 obtain⟨r,p,c⟩:=qd c;simp only[Prod.mk.injEq] at b;exact quB r h a (m p) b.1 b.2.1 b.2.2.1 b.2.2.2 (fun w'  i=>o r w'  i c)
theorem zcS {F:Option ByteArray}{g:ByteArray→Option β}(h:SH w0 w L)(c:F.bind g=V rr)(m:∀ {r},F=V r→RetV prog f vs w r)
  (b:(opv e x,opvs e args.toList,fi.toList++av++ca.toList,Nat.blt d n)=(V (.func (.func f) fi ca),V av,vs,true))
  (o:∀ r w' ,SH w0 w' (L)→g r=V rr→Run prog n Q (.ops all l::k) ((d,.string r)::e) w') (a:qeF prog f:=by exact cA Z):Run prog n Q (.ops all (⟨V d,.call ⟨.value x,args,ats⟩,ty,ps,af,U⟩::l)::k) e w:=by
 obtain⟨r,p,c⟩:=qd c;simp only[Prod.mk.injEq] at b;exact qos r h a (m p) b.1 b.2.1 b.2.2.1 b.2.2.2 (fun w'  i=>o r w'  i c)
theorem zcL {α:Type}[GoT α]{F:Option (List α)}{g:(List α)→Option β}(h:SH w0 w L)(i:F.bind g=V rr)(o:∀ {r},F=V r→RetV prog f vs w r)
  (b:(opv e x,opvs e args.toList,fi.toList++av++ca.toList,Nat.blt d n)=(V (.func (.func f) fi ca),V av,vs,true))
  (s:∀ r w' S p c,SH w0 w' (Ch.own S r [.slice p r.length c]::L)→g r=V rr→Run prog n Q (.ops all l::k) ((d,.slice p r.length c)::e) w') (a:qeF prog f:=by exact cA Z):Run prog n Q (.ops all (⟨V d,.call ⟨.value x,args,ats⟩,ty,ps,af,U⟩::l)::k) e w:=by
 obtain⟨r,t,i⟩:=qd i;simp only[Prod.mk.injEq] at b;exact qk9 r h a (o t) b.1 b.2.1 b.2.2.1 b.2.2.2 (fun w' S p c m=>s r w' S p c m i)
theorem zcO {α:Type}[GoT α]{F:Option α}{g:α→Option β}(h:SH w0 w L)(c:F.bind g=V rr)(m:∀ {r},F=V r→RetV prog f vs w r)
  (b:(opv e x,opvs e args.toList,fi.toList++av++ca.toList,Nat.blt d n)=(V (.func (.func f) fi ca),V av,vs,true))
  (o:∀ r w' S cs,SH w0 w' (Ch.own S r cs::L)→g r=V rr→Run prog n Q (.ops all l::k) ((d,GoT.v α cs)::e) w') (a:qeF prog f:=by exact cA Z):Run prog n Q (.ops all (⟨V d,.call ⟨.value x,args,ats⟩,ty,ps,af,U⟩::l)::k) e w:=by
 obtain⟨r,p,c⟩:=qd c;simp only[Prod.mk.injEq] at b;exact qk4 r h a (m p) b.1 b.2.1 b.2.2.1 b.2.2.2 (fun w' S cs i=>o r w' S cs i c)
end
def noC:List Nat:=[0,1,279,303]
theorem allC:((List.range 314).all fun f=>noC.contains f || callB prog f)=true:=by kernel_rfl
theorem cA {f:Nat}(h:(Nat.blt f 314&&!noC.contains f)=true):qeF prog f:=by
 rw[jf,Nat.blt_eq,jD] at h;have:=List.all_eq_true.1 allC f (List.mem_range.2 h.1);rw[h.2] at this;exact qtn this
theorem cB (f:Nat)(h:(Nat.blt f 314&&!noC.contains f)=true):qeF prog f:=cA h
def qaE (_:Nat)(a:Int)(c:Int)(b:Int):Option Bool :=bif decide (a ≥ c) then V (decide (a≤b)) else V false
theorem qaf {b:Int}{c:Int}{a:Int}  {r:Bool}(F:qaE n b c a=V r):RetV prog 66 [.int .i64 b,.int .i64 c,.int .i64 a] w r:=by
 refine zV 15 func66 Z fun h=>X0 10 Z (qg (t:=10) F Z ?_ ?_)<;>intro F
 ·exact X0 9 Z (rb h F Z)
 exact X0 6 Z (rb h F Z)
def qd0 (s:ByteArray):Nat→Int→Option (Flow Bool Int)| 0,_=>U| n+1,a =>bif decide (a<(s.size:Int)) then((atS s a).bind fun d =>bif decide (d ≥ 97) then(atS s a).bind fun f =>V (decide (f≤122)) else V false).bind fun b1 =>((atS s a).bind fun b =>bif decide (b ≥ 48) then(atS s a).bind fun c =>V (decide (c≤57)) else V false).bind fun b2 =>bif (!b1) then bif b2 then bif (!(decide (a > 0))) then V (.ret false) else qd0 s n (W64 (a+1)) else V (.ret false) else qd0 s n (W64 (a+1)) else V (.nxt a)
def qfX (n:Nat)(s:ByteArray):Option Bool :=(qd0 s n 0).bind fun o=>match o with| .ret r=>V r| .nxt _ =>bif decide ((s.size:Int) ≥ 1) then V (decide ((s.size:Int)≤8)) else V false
theorem qhq {s:ByteArray}  {r:Bool}(F:qfX n s=V r):RetV prog 145 [.string s] w r:=by
 refine zV 50 func145 Z fun h=>X0 9 Z ?_;obtain⟨o1,F,a⟩:=qd F;refine qn (rL (fun m e w'=>∃(g:Int),qd0 s m g=V o1∧e=[(0,.string s),(3,.int .i64 g)]∧SH w w' []) n ⟨_,F,rfl,h⟩ Z ?_);rintro v _ _ ⟨g,F,rfl,h⟩;rcases v with _|v
 ·cases F
 refine X0 8 Z (ql Z F ?_ ?_)<;>intro F
 ·refine X0 4 Z ?_;obtain⟨k,f,_,F,c⟩:=bindE F;refine qaF (fun e w'=>∃(b1:Bool),k b1=V o1∧e=[(0,.string s),(3,.int .i64 g),(4,.bool b1)]∧SH w w' []) ?_ ?_
  ·refine X0 3 Z ?_;obtain⟨_,p,F⟩:=qd F;have z:=qlC p;refine r_v (ql5 qa z Z Z Z Z) Z (zp2 Z (qg (t:=16) F Z ?_ ?_))<;>intro F
   ·refine X0 5 Z ?_;obtain⟨_,u,F⟩:=qd F;have A:=qlC u;refine r_v (ql5 qa A Z Z Z Z) Z (X0 5 Z ?_);obtain rfl:=qc F;exact rG ⟨_,c,rfl,h⟩ Z
   refine X0 7 Z ?_;obtain rfl:=qc F;exact rG ⟨_,c,rfl,h⟩ Z
  rintro _ _ ⟨b1,F,rfl,h⟩;subst f;refine qb8 ?_;obtain⟨i,d,_,F,b⟩:=bindE F;refine qaF (fun e w'=>∃(b2:Bool),i b2=V o1∧e=[(0,.string s),(3,.int .i64 g),(4,.bool b1),(5,.bool b2)]∧SH w w' []) ?_ ?_
  ·refine X0 3 Z ?_;obtain⟨_,l,F⟩:=qd F;have x:=qlC l;refine r_v (ql5 qa x Z Z Z Z) Z (zp2 Z (qg (t:=26) F Z ?_ ?_))<;>intro F
   ·refine X0 5 Z ?_;obtain⟨_,o,F⟩:=qd F;have y:=qlC o;refine r_v (ql5 qa y Z Z Z Z) Z (X0 5 Z ?_);obtain rfl:=qc F;exact rG ⟨_,b,rfl,h⟩ Z
   refine X0 7 Z ?_;obtain rfl:=qc F;exact rG ⟨_,b,rfl,h⟩ Z
  rintro _ _ ⟨b2,F,rfl,h⟩;subst d;refine X0 5 Z (qg (t:=34) F Z ?_ ?_)<;>intro F
  ·refine X0 4 Z (qg (t:=36) F Z ?_ ?_)<;>intro F
   ·refine X0 10 Z (ql Z F ?_ ?_)<;>intro F
    ·refine X0 4 Z ?_;obtain rfl:=qc F;replace F:=a;exact rb h F Z
    exact X0 7 Z (rK ⟨_,F,rfl,h⟩ Z)
   refine X0 8 Z (qbX Z Z (X0 4 Z ?_));obtain rfl:=qc F;replace F:=a;exact rb h F Z
  exact X0 8 Z (qbE Z Z (X0 7 Z (rK ⟨_,F,rfl,h⟩ Z)))
 refine qw Z ?_;obtain rfl:=qc F;replace F:=a;refine X0 6 Z (qg (t:=45) F Z ?_ ?_)<;>intro F
 ·exact X0 9 Z (rb h F Z)
 exact X0 6 Z (rb h F Z)
def qe1 (a_0:qG)(b:Int)(c:qap):Nat→Int→Option (Flow (Int×Bool) Int)| 0,_=>U| n+1,a =>bif decide (a<b) then(idx a_0.Ay a).bind fun d =>bif (d.Ba.toList==c.Ba.toList) then V (.ret (0,false)) else qe1 a_0 b c n (W64 (a+1)) else V (.nxt a)
def qc2 (a_0:qG):Nat→Int→Int→Option (Flow (Int×Bool) (Int×Int))| 0,_,_=>U| n+1,c,a =>bif decide (a<(a_0.Ay.length:Int)) then(idx a_0.Ay a).bind fun b =>(qe1 a_0 a b n 0).bind fun o=>match o with| .ret r=>V (.ret r)| .nxt _ =>((qfX n b.Ba).bind fun r1 =>bif (!r1) then V true else(qaE n b.Bl 0 500).bind fun g =>V (!g)).bind fun d =>bif d then V (.ret (0,false)) else(bif (a==(W64 ((a_0.Ay.length:Int)-1))) then bif (b.Bs != 2) then V true else bif (b.Bl != 0) then V true else bif b.Bo then V true else bif decide (a<(W64 ((a_0.Ay.length:Int)-1))) then V (b.Bs != 1) else V false else bif decide (a<(W64 ((a_0.Ay.length:Int)-1))) then V (b.Bs != 1) else V false).bind fun f =>bif f then V (.ret (0,false)) else bif b.Bo then qc2 a_0 n (W64 (c+1)) (W64 (a+1)) else qc2 a_0 n c (W64 (a+1)) else V (.nxt (c,a))
def qjc (n:Nat)(a_0:qG):Option (Int×Bool) :=(bif decide ((a_0.Ay.length:Int)<2) then V true else V (decide ((a_0.Ay.length:Int) > 5))).bind fun b1 =>bif b1 then V (0,false) else(qc2 a_0 n 0 0).bind fun o=>match o with| .ret r=>V r| .nxt (a,_) =>V (a,true)
theorem qod {a_0:qG}(J:Ro w a_0 cs1){r:(Int×Bool)}(F:qjc n a_0=V r):RetV prog 268 [GoT.v qG cs1] w r:=by
 obtain⟨p1,u,y,v,z,x,rfl,s1,_,_⟩:=qag J;refine zV 86 func268 Z fun h=>zSR (qH h Z Z fun _ a h=>X1 12 0 h Z ?_);obtain⟨D,s,_,F,l⟩:=bindE F;refine qaF (fun e w'=>∃(b1:Bool),D b1=V r∧e=[(1,.pointer (V ⟨a,0,U⟩)),(4,.int .i64 (a_0.Ay.length:Int)),(17,.bool b1)]∧SH w w' [Ch.box a (qI a_0 p1 y z u v x) 184]) ?_ ?_
 ·refine X0 4 Z (qg (t:=14) F Z ?_ ?_)<;>intro F
  ·refine X0 4 Z ?_;obtain rfl:=qc F;exact rG ⟨_,l,rfl,h⟩ Z
  refine X0 6 Z ?_;obtain rfl:=qc F;exact rG ⟨_,l,rfl,h⟩ Z
 rintro _ _ ⟨b1,F,rfl,h⟩;subst s;refine ql Z F ?_ ?_<;>intro F
 ·refine X0 5 Z ?_;obtain rfl:=qc F;exact qaj qa (ρ:=(Int×Bool)) [GoT.v Int [.int .i64 0],GoT.v Bool [.bool false]] h ⟨rfl,rfl,trivial⟩ (PV.done h (qah h (qA (S:=fun _=>False) Z) (qas (qA (S:=fun _=>False) Z)) (by rfl)))
 refine X0 10 Z ?_;obtain⟨o1,F,d⟩:=qd F;refine qn (rL (fun m e w'=>∃(f:Int) (g:Int),qc2 a_0 m f g=V o1∧e=[(1,.pointer (V ⟨a,0,U⟩)),(4,.int .i64 (a_0.Ay.length:Int)),(5,.int .i64 f),(6,.int .i64 g)]∧SH w w' [Ch.box a (qI a_0 p1 y z u v x) 184]) n ⟨_,_,F,rfl,h⟩ Z ?_);rintro Y _ _ ⟨f,g,F,rfl,h⟩;rcases Y with _|Y
 ·cases F
 refine X0 7 Z (ql Z F ?_ ?_)<;>intro F
 ·refine X1 8 0 h Z ?_;obtain⟨A,_,F,M,_,_,_,_,O,Q,T,K⟩:=s1.ix F;obtain rfl:=qeP T;refine zxe O Q M Z (zc 0 (K.below h.below) Z (qj qa h Z Z Z fun _ c h=>zs 0 h Z fun _ h=>X0 6 Z ?_));obtain⟨o2,F,i⟩:=qd F;refine qn (rL (fun m e w'=>∃(X:Int),qe1 a_0 g A m X=V o2∧e=[(1,.pointer (V ⟨a,0,U⟩)),(4,.int .i64 (a_0.Ay.length:Int)),(5,.int .i64 f),(6,.int .i64 g),(7,.pointer (V ⟨c,0,U⟩)),(8,.int .i64 X)]∧SH w w' [Ch.box c (qoF A) 286,Ch.box a (qI a_0 p1 y z u v x) 184]) Y ⟨_,F,rfl,h⟩ Z ?_);rintro m2 _ _ ⟨X,F,rfl,h⟩;rcases m2 with _|m2
  ·cases F
  refine X0 7 Z (ql Z F ?_ ?_)<;>intro F
  ·refine X0 4 Z (rD (Y1 2 1 h Z ?_));refine zd1 Z ?_;obtain⟨_,_,F,N,_,_,_,_,P,R,W,L⟩:=s1.ix F;obtain rfl:=qeP W;refine zdxe P R N Z (zd1 Z (zdc 0 (L.below h.below) Z (Y1 2 0 h Z ?_)));refine zd1 Z (dN h fun _ h=>ql Z F ?_ ?_)<;>intro F
   ·refine X0 5 Z ?_;obtain rfl:=qc F;replace F:=i;obtain rfl:=qc F;replace F:=d;obtain rfl:=qc F;exact qaj qa (ρ:=(Int×Bool)) [GoT.v Int [.int .i64 0],GoT.v Bool [.bool false]] h ⟨rfl,rfl,trivial⟩ (PV.done h (qah h (qA (S:=fun _=>False) Z) (qas (qA (S:=fun _=>False) Z)) (by rfl)))
   exact X0 7 Z (rK ⟨_,F,rfl,h⟩ Z)
  refine qw Z ?_;obtain rfl:=qc F;replace F:=i;refine zSS ?_;obtain⟨C,p,_,F,k⟩:=bindE F;refine qaF (fun e w'=>∃(H:Bool),C H=V o1∧e=[(1,.pointer (V ⟨a,0,U⟩)),(4,.int .i64 (a_0.Ay.length:Int)),(5,.int .i64 f),(6,.int .i64 g),(7,.pointer (V ⟨c,0,U⟩)),(51,.bool H)]∧SH w w' [Ch.box c (qoF A) 286,Ch.box a (qI a_0 p1 y z u v x) 184]) ?_ ?_
  ·refine X1 3 0 h Z (zcB h F qhq Z fun _ _ h F=>zp2 Z (qg (t:=46) F Z ?_ ?_))<;>intro F
   ·refine X0 6 Z ?_;obtain rfl:=qc F;exact rG ⟨_,k,rfl,h⟩ Z
   refine X1 5 0 h Z (zcB h F qaf Z fun _ _ h F=>X0 4 Z ?_);obtain rfl:=qc F;exact rG ⟨_,k,rfl,h⟩ Z
  rintro _ _ ⟨H,F,rfl,h⟩;subst p;refine ql Z F ?_ ?_<;>intro F
  ·refine X0 5 Z ?_;obtain rfl:=qc F;replace F:=d;obtain rfl:=qc F;exact qaj qa (ρ:=(Int×Bool)) [GoT.v Int [.int .i64 0],GoT.v Bool [.bool false]] h ⟨rfl,rfl,trivial⟩ (PV.done h (qah h (qA (S:=fun _=>False) Z) (qas (qA (S:=fun _=>False) Z)) (by rfl)))
  refine zKSS ?_;obtain⟨B,o,_,F,b⟩:=bindE F;refine qaF (fun e w'=>∃(I:Bool),B I=V o1∧e=[(1,.pointer (V ⟨a,0,U⟩)),(4,.int .i64 (a_0.Ay.length:Int)),(5,.int .i64 f),(6,.int .i64 g),(7,.pointer (V ⟨c,0,U⟩)),(80,.bool I)]∧SH w w' [Ch.box c (qoF A) 286,Ch.box a (qI a_0 p1 y z u v x) 184]) ?_ ?_
  ·refine X0 6 Z (qg (t:=56) F Z ?_ ?_)<;>intro F
   ·refine X1 8 0 h Z (qg (t:=60) F Z ?_ ?_)<;>intro F
    ·refine X0 24 Z ?_;obtain rfl:=qc F;exact rG ⟨_,b,rfl,h⟩ Z
    refine X1 10 0 h Z (qg (t:=65) F Z ?_ ?_)<;>intro F
    ·refine X0 17 Z ?_;obtain rfl:=qc F;exact rG ⟨_,b,rfl,h⟩ Z
    refine X1 8 0 h Z (qg (t:=70) F Z ?_ ?_)<;>intro F
    ·refine X0 11 Z ?_;obtain rfl:=qc F;exact rG ⟨_,b,rfl,h⟩ Z
    refine X0 10 Z (qg (t:=75) F Z ?_ ?_)<;>intro F
    ·refine X1 10 0 h Z ?_;obtain rfl:=qc F;exact rG ⟨_,b,rfl,h⟩ Z
    refine X0 7 Z ?_;obtain rfl:=qc F;exact rG ⟨_,b,rfl,h⟩ Z
   refine X0 24 Z (qg (t:=75) F Z ?_ ?_)<;>intro F
   ·refine X1 10 0 h Z ?_;obtain rfl:=qc F;exact rG ⟨_,b,rfl,h⟩ Z
   refine X0 7 Z ?_;obtain rfl:=qc F;exact rG ⟨_,b,rfl,h⟩ Z
  rintro _ _ ⟨I,F,rfl,h⟩;subst o;refine ql Z F ?_ ?_<;>intro F
  ·refine X0 5 Z ?_;obtain rfl:=qc F;replace F:=d;obtain rfl:=qc F;exact qaj qa (ρ:=(Int×Bool)) [GoT.v Int [.int .i64 0],GoT.v Bool [.bool false]] h ⟨rfl,rfl,trivial⟩ (PV.done h (qah h (qA (S:=fun _=>False) Z) (qas (qA (S:=fun _=>False) Z)) (by rfl)))
  refine X1 6 0 h Z (ql Z F ?_ ?_)<;>intro F
  ·refine X0 11 Z ?_;replace h:=h.pick [1] Z;exact rK ⟨_,_,F,rfl,h⟩ Z
  refine X0 7 Z ?_;replace h:=h.pick [1] Z;exact rK ⟨_,_,F,rfl,h⟩ Z
 refine qw Z ?_;obtain rfl:=qc F;replace F:=d;refine X0 6 Z ?_;obtain rfl:=qc F;exact qaj qa (ρ:=(Int×Bool)) [GoT.v Int [.int .i64 f],GoT.v Bool [.bool true]] h ⟨rfl,rfl,trivial⟩ (PV.done h (qah h (qA (S:=fun _=>False) Z) (qas (qA (S:=fun _=>False) Z)) (by rfl)))
def qdV (list:(List Int)):Nat→Int→Option (Flow Bool Int)| 0,_=>U| n+1,a =>bif decide (a<(list.length:Int)) then(idx list a).bind fun b =>(qaE n b 0 100000).bind fun r1 =>bif (!r1) then V (.ret false) else bif decide (a > 0) then(idx list (W64 (a-1))).bind fun c =>(idx list a).bind fun d =>bif decide (c ≥ d) then V (.ret false) else qdV list n (W64 (a+1)) else qdV list n (W64 (a+1)) else V (.nxt a)
def qhY (n:Nat)(list:(List Int)):Option Bool :=(qdV list n 0).bind fun o=>match o with| .ret r=>V r| .nxt _ =>bif decide ((list.length:Int) ≥ 1) then V (decide ((list.length:Int)≤4)) else V false
theorem qlf {list:(List Int)}(b:Ro w list cs1){r:Bool}(F:qhY n list=V r):RetV prog 265 [GoT.v (List Int) cs1] w r:=by
 obtain⟨p1,A,rfl,s1⟩:=b;refine zV 40 func265 Z fun h=>X0 9 Z ?_;obtain⟨o1,F,a⟩:=qd F;refine qn (rL (fun m e w'=>∃(y:Int),qdV list m y=V o1∧e=[(0,.slice p1 list.length A),(3,.int .i64 y)]∧SH w w' []) n ⟨_,F,rfl,h⟩ Z ?_);rintro z _ _ ⟨y,F,rfl,h⟩;rcases z with _|z
 ·cases F
 refine X0 8 Z (ql Z F ?_ ?_)<;>intro F
 ·refine X0 4 Z (rD (zd2 Z ?_));obtain⟨_,_,F,g,_,_,_,_,l,s,rfl,c⟩:=s1.ix F;refine zdxe l s g Z (zdc 0 (c.below h.below) Z ?_);obtain⟨r1,x,F⟩:=qd F;refine qb3 r1 (vsB _) (cB 66 Z) (fun _ B=>qaf  x) Z Z Z Z (zd2 Z (qaJ (t:=16) F Z ?_ ?_))<;>intro F
  ·refine Y0 15 Z (dN h fun _ h=>qbX Z Z (X0 4 Z ?_));obtain rfl:=qc F;replace F:=a;exact rb h F Z
  refine Y0 6 Z (qaJ (t:=19) F Z ?_ ?_)<;>intro F
  ·refine Y0 7 Z ?_;obtain⟨_,_,F,i,_,_,_,_,o,u,rfl,d⟩:=s1.ix F;refine zdxe o u i Z (Y0 1 Z (zdc 0 (d.below h.below) Z (Y0 5 Z ?_)));obtain⟨_,_,F,k,_,_,_,_,p,v,rfl,f⟩:=s1.ix F;refine zdxe p v k Z (Y0 1 Z (zdc 0 (f.below h.below) Z (Y0 5 Z (dN h fun _ h=>ql Z F ?_ ?_))))<;>intro F
   ·refine X0 4 Z ?_;obtain rfl:=qc F;replace F:=a;exact rb h F Z
   exact X0 7 Z (rK ⟨_,F,rfl,h⟩ Z)
  exact Y0 13 Z (dN h fun _ h=>qbE Z Z (X0 7 Z (rK ⟨_,F,rfl,h⟩ Z)))
 refine qw Z ?_;obtain rfl:=qc F;replace F:=a;refine X0 6 Z (qg (t:=35) F Z ?_ ?_)<;>intro F
 ·exact X0 9 Z (rb h F Z)
 exact X0 6 Z (rb h F Z)
def qeR (t:qO):Nat→Int→Option (Flow Bool Int)| 0,_=>U| n+1,a =>bif decide (a<(t.Az.length:Int)) then(idx t.Az a).bind fun b =>(qaE n b (-1000000) 1000000).bind fun r1 =>bif (!r1) then V (.ret false) else qeR t n (W64 (a+1)) else V (.nxt a)
def qjd (n:Nat)(t:qO):Option Bool :=((qhY n t.Bj).bind fun a =>bif (!a) then V true else(qhY n t.Be).bind fun b =>bif (!b) then V true else V ((t.Az.length:Int) != (W64 ((t.Bj.length:Int)*(t.Be.length:Int))))).bind fun b1 =>bif b1 then V false else(qeR t n 0).bind fun o=>match o with| .ret r=>V r| .nxt _ =>V true
theorem qol {t:qO}(g:Ro w t cs1){r:Bool}(F:qjd n t=V r):RetV prog 236 [GoT.v qO cs1] w r:=by
 obtain⟨p1,s,y,u,z,v,rfl,s1,s2,A⟩:=qcf g;refine zV 41 func236 Z fun h=>zSR (qH h Z Z fun _ a h=>X0 4 Z ?_);obtain⟨f,d,_,F,b⟩:=bindE F;refine qaF (fun e w'=>∃(b1:Bool),f b1=V r∧e=[(1,.pointer (V ⟨a,0,U⟩)),(26,.bool b1)]∧SH w w' [Ch.box a (qeD t p1 y z s u v) 264]) ?_ ?_
 ·refine X1 3 0 h Z (zcB h F (qlf ⟨_,_,rfl,(h.oldS s1)⟩) Z fun _ _ h F=>zp2 Z (qg (t:=8) F Z ?_ ?_))<;>intro F
  ·refine X0 19 Z ?_;obtain rfl:=qc F;exact rG ⟨_,b,rfl,h⟩ Z
  refine X1 5 0 h Z (zcB h F (qlf ⟨_,_,rfl,(h.oldS s2)⟩) Z fun _ _ h F=>X0 4 Z (qg (t:=14) F Z ?_ ?_))<;>intro F
  ·refine X0 13 Z ?_;obtain rfl:=qc F;exact rG ⟨_,b,rfl,h⟩ Z
  refine X3 24 0 0 0 h Z ?_;obtain rfl:=qc F;exact rG ⟨_,b,rfl,h⟩ Z
 rintro _ _ ⟨b1,F,rfl,h⟩;subst d;refine ql Z F ?_ ?_<;>intro F
 ·exact X0 4 Z (rb h F Z)
 refine X0 6 Z ?_;obtain⟨o1,F,c⟩:=qd F;refine qn (rL (fun m e w'=>∃(p:Int),qeR t m p=V o1∧e=[(1,.pointer (V ⟨a,0,U⟩)),(3,.int .i64 p)]∧SH w w' [Ch.box a (qeD t p1 y z s u v) 264]) n ⟨_,F,rfl,h⟩ Z ?_);rintro x _ _ ⟨p,F,rfl,h⟩;rcases x with _|x
 ·cases F
 refine X1 9 0 h Z (ql Z F ?_ ?_)<;>intro F
 ·refine X1 8 0 h Z ?_;obtain⟨_,_,F,k,_,_,_,_,l,o,rfl,i⟩:=A.ix F;refine zxe l o k Z (zc 0 (i.below h.below) Z (zcB h F qaf Z fun _ _ h F=>X0 2 Z (ql Z F ?_ ?_)))<;>intro F
  ·refine X0 4 Z ?_;obtain rfl:=qc F;replace F:=c;exact rb h F Z
  exact X0 7 Z (rK ⟨_,F,rfl,h⟩ Z)
 refine qw Z ?_;obtain rfl:=qc F;replace F:=c;exact X0 4 Z (rb h F Z)
def qcT (t:qO):Nat→Int→Int→Int→Option (Int×Int×Int)| 0,_,_,_=>U| n+1,b,c,a =>bif decide (a<(t.Az.length:Int)) then(idx t.Az a).bind fun d =>(idx t.Az a).bind fun f =>qcT t n (if d<b then d else b) (if f > c then f else c) (W64 (a+1)) else V (b,c,a)
def qgY (n:Nat)(t:qO):Option (qh×Int) :=(qjd n t).bind fun r1 =>bif (!r1) then V ((⟨0,0⟩:qh),1) else(idx t.Az 0).bind fun c =>(idx t.Az 0).bind fun d =>(qcT t n c d 1).bind fun o=>match o with| (a,b,_) =>V ((⟨a,b⟩:qh),0)
theorem qmq {t:qO}(d:Ro w t cs1){r:(qh×Int)}(F:qgY n t=V r):RetV prog 295 [GoT.v qO cs1] w r:=by
 obtain⟨p1,M,P,N,Q,O,rfl,_,_,i⟩:=qcf d;refine zV 45 func295 Z fun h=>zSR (qH h Z Z fun _ a h=>qj qa h Z Z Z fun _ b h=>X1 6 1 h Z (zcB h F (qol (h.old d)) Z fun _ _ h F=>X0 2 Z (ql Z F ?_ ?_)))<;>intro F
 ·refine zSR (r_v (qq qa [] [] Z Z Z Z Z Z Z Z) Z (zs 0 h Z fun _ h=>X0 2 Z ?_));obtain rfl:=qc F;exact qaj qa (ρ:=(qh×Int)) [GoT.v qh [.int .i64 0,.int .i64 0],GoT.v Int [.int .i64 1]] h ⟨⟨_,_,_,rfl,rfl,h.box 0 Z,rfl⟩,rfl,trivial⟩ (PV.done h (qah h (qA (S:=fun _=>False) (qK (⟨0,0⟩:qh))) (qas (qA (S:=fun _=>False) Z)) (by rfl)))
 refine zKS (rA [] [1] h Z fun _ h=>M1 3 [0,1] 0 (h.pick [1] Z) Z ?_);obtain⟨_,_,F,u,_,_,_,_,z,D,rfl,l⟩:=i.ix F;refine Ae 2 7 z D u (h.pick [1] Z) Z (Al 3 15 0 l (h.pick [1] Z) Z (M1 63 [4,5] 0 (h.pick [1] Z) Z ?_));obtain⟨_,_,F,v,_,_,_,_,A,H,rfl,o⟩:=i.ix F;refine Ae 6 127 A H v (h.pick [1] Z) Z (Al 7 255 0 o (h.pick [1] Z) Z (Aw 8 511 (fun w' T=>qq qa [0,1] [.tmp 13,.tmp 17] Z Z Z Z Z Z Z Z) (h.pick [1] Z) Z ?_));refine Ao 9 1023 Z (qj qa h Z Z Z fun _ c h=>Ag (h.pick [2] Z) (Ao 10 2047 Z (zs 0 h Z fun _ h=>Ag (h.pick [2] Z) (Ad (X0 5 Z ?_)))));obtain⟨o1,F,k⟩:=qd F;refine qn (rL (fun m e w'=>∃(f:Int) (g:Int) (K:Int),qcT t m f g K=V o1∧e=[(1,.pointer (V ⟨a,0,U⟩)),(2,.pointer (V ⟨b,0,U⟩)),(4,.pointer (V ⟨c,0,U⟩)),(5,.int .i64 K)]∧SH w w' [Ch.box c [.int .i64 f,.int .i64 g] 68,Ch.box b [.int .i64 0,.int .i64 0] 68,Ch.box a (qeD t p1 P Q M N O) 264]) n ⟨_,_,_,F,rfl,h⟩ Z ?_);rintro L _ _ ⟨f,g,K,F,rfl,h⟩;rcases L with _|L
 ·cases F
 refine X1 9 2 h Z (ql Z F ?_ ?_)<;>intro F
 ·refine X0 4 Z (rA [9] [0,2] h Z fun _ h=>M2 31 [0,1,2,3,4] 0 1 (h.pick [0,2] Z) Z ?_);obtain⟨_,_,F,x,_,_,_,_,B,I,rfl,p⟩:=i.ix F;refine Ae 5 63 B I x (h.pick [0,2] Z) Z (Al 6 127 0 p (h.pick [0,2] Z) Z (M0 511 [7,8] (h.pick [0,2] Z) Z (Ao 9 1023 Z (zs 0 h Z fun _ h=>qJ (fun R=>absurd (R 9 (by decide)) (by decide)) (Ad (rA [9] [0,2] h Z fun _ h=>M2 31 [0,1,2,3,4] 0 1 (h.pick [0,2] Z) Z ?_))))));obtain⟨_,_,F,y,_,_,_,_,C,J,rfl,s⟩:=i.ix F;exact Ae 5 63 C J y (h.pick [0,2] Z) Z (Al 6 127 0 s (h.pick [0,2] Z) Z (M0 511 [7,8] (h.pick [0,2] Z) Z (Ao 9 1023 Z (zs 0 h Z fun _ h=>qJ (fun R=>absurd (R 9 (by decide)) (by decide)) (Ad (X0 6 Z (rK ⟨_,_,_,F,rfl,h⟩ Z)))))))
 refine qw Z ?_;obtain rfl:=qc F;replace F:=k;refine X1 3 0 h Z (zs 1 h Z fun _ h=>X0 2 Z ?_);obtain rfl:=qc F;exact qaj qa (ρ:=(qh×Int)) [GoT.v qh [.int .i64 f,.int .i64 g],GoT.v Int [.int .i64 0]] h ⟨⟨_,_,_,rfl,rfl,h.box 1 Z,rfl⟩,rfl,trivial⟩ (PV.done h (qah h (qA (S:=fun _=>False) (qK (⟨f,g⟩:qh))) (qas (qA (S:=fun _=>False) Z)) (by rfl)))
def qcK (list:(List qO))(f:Bool):Nat→Int→Option (Flow Bool Int)| 0,_=>U| n+1,a =>bif decide (a<2) then(idx list a).bind fun d =>(qgY n d).bind fun o=>match o with| (b,c) =>bif (c != 0) then V (.ret false) else bif f then bif decide (b.Ak<0) then V (.ret false) else qcK list f n (W64 (a+1)) else qcK list f n (W64 (a+1)) else V (.nxt a)
def qdD (n:Nat)(list:(List qO))(a:Bool):Option Bool :=bif ((list.length:Int) != 2) then V false else(qcK list a n 0).bind fun o=>match o with| .ret r=>V r| .nxt _ =>V true
theorem qfd {list:(List qO)}{D:Bool}(c:Ro w list cs1){r:Bool}(F:qdD n list D=V r):RetV prog 283 [GoT.v (List qO) cs1,.bool D] w r:=by
 obtain⟨p1,x,rfl,s1⟩:=c;refine zV 33 func283 Z fun h=>X0 11 Z (ql Z F ?_ ?_)<;>intro F
 ·exact X0 4 Z (rb h F Z)
 refine X0 6 Z ?_;obtain⟨o1,F,a⟩:=qd F;refine qn (rL (fun m e w'=>∃(u:Int),qcK list D m u=V o1∧e=[(0,.slice p1 list.length x),(1,.bool D),(5,.int .i64 u)]∧SH w w' []) n ⟨_,F,rfl,h⟩ Z ?_);rintro v _ _ ⟨u,F,rfl,h⟩;rcases v with _|v
 ·cases F
 refine X0 6 Z (ql Z F ?_ ?_)<;>intro F
 ·refine X0 7 Z ?_;obtain⟨C,_,F,f,_,_,_,_,g,i,k,d⟩:=s1.ix F;obtain⟨_,_,_,_,_,_,rfl,s2,A,B⟩:=qcf k;refine zxe g i f Z (zc 0 (d.below h.below) Z ?_);obtain⟨⟨y,z⟩,l,F⟩:=qd F;refine qbI (y,z) h (cB 295 Z) (qmq (qiw C (h.oldS s2) (h.oldS A) (h.oldS B)) l) Z Z Z Z fun _ _ _ s o=>?_;obtain⟨_,_,_,_,rfl,b,p⟩:=s.cons o;obtain rfl:=qD (b.sh.own 0 Z);obtain⟨rfl,h⟩:=b.lastI p;refine zp3 Z (qj qa h Z Z Z fun _ _ h=>zs 0 h Z fun _ h=>X0 7 Z (qg (t:=25) F Z ?_ ?_))<;>intro F
  ·refine X0 8 Z (qbX Z Z (X0 4 Z ?_));obtain rfl:=qc F;replace F:=a;exact rb h F Z
  refine X0 4 Z (qg (t:=27) F Z ?_ ?_)<;>intro F
  ·refine X1 10 0 h Z (ql Z F ?_ ?_)<;>intro F
   ·refine X0 4 Z ?_;obtain rfl:=qc F;replace F:=a;exact rb h F Z
   refine X0 7 Z ?_;replace h:=h.pick [] Z;exact rK ⟨_,F,rfl,h⟩ Z
  refine X0 7 Z (qbE Z Z (X0 7 Z ?_));replace h:=h.pick [] Z;exact rK ⟨_,F,rfl,h⟩ Z
 refine qw Z ?_;obtain rfl:=qc F;replace F:=a;exact X0 4 Z (rb h F Z)
def qj2 (n:Nat)(a_0:qG)(a_1:qak):Option Bool :=((qaE n a_1.Bd 0 (W64 ((W64 ((a_0.Ay.length:Int)-1))-1))).bind fun i =>bif (!i) then V true else(qaE n a_1.To 0 (W64 ((a_0.Ay.length:Int)-1))).bind fun k =>V (!k)).bind fun b1 =>bif b1 then V false else(idx a_0.Ay a_1.Bd).bind fun a =>bif (a_1.Au==1) then bif (!a.Bo) then bif (a_1.To==(W64 ((a_0.Ay.length:Int)-1))) then(qaE n a_1.Bk 1 3).bind fun r1 =>bif r1 then(qdD n a_1.Bm true).bind fun c =>bif c then(qdD n a_1.Av true).bind fun d =>V d else V false else V false else V false else V false else(bif (a_1.Au==2) then V (a_1.Au==2) else V (a_1.Au==3)).bind fun b3 =>bif b3 then bif a.Bo then bif (a_1.To==(W64 ((a_0.Ay.length:Int)-1))) then bif (a_1.Bk==0) then(qdD n a_1.Bm true).bind fun f =>bif f then(qdD n a_1.Av true).bind fun g =>V g else V false else V false else V false else V false else(bif (a_1.Au==4) then V (a_1.Au==4) else V (a_1.Au==5)).bind fun b =>bif b then bif a.Bo then bif decide (a_1.To<(W64 ((a_0.Ay.length:Int)-1))) then(idx a_0.Ay a_1.To).bind fun l =>bif (!l.Bo) then bif (a_1.Bk==0) then(qdD n a_1.Bm false).bind fun h =>bif h then V ((a_1.Av.length:Int)==0) else V false else V false else V false else V false else V false else V false
theorem qoQ {a_0:qG}{a_1:qak}(s:Ro w a_0 cs1)(u:Ro w a_1 cs2){r:Bool}(F:qj2 n a_0 a_1=V r):RetV prog 269 [GoT.v qG cs1,GoT.v qak cs2] w r:=by
 obtain⟨p1,J,O,K,P,L,rfl,s1,_,_⟩:=qag s;obtain⟨Q,M,R,N,rfl,S,T⟩:=qaA u;refine zV 119 func269 Z fun h=>zSR (qH h Z Z fun _ a h=>qH h Z Z fun _ b h=>X1 12 1 h Z ?_);obtain⟨o,k,_,F,f⟩:=bindE F;refine qaF (fun e w'=>∃(b1:Bool),o b1=V r∧e=[(2,.pointer (V ⟨a,0,U⟩)),(3,.pointer (V ⟨b,0,U⟩)),(5,.int .i64 (W64 ((a_0.Ay.length:Int)-1))),(23,.bool b1)]∧SH w w' [Ch.box b (qdT a_1 Q R M N) 187,Ch.box a (qI a_0 p1 O P J K L) 184]) ?_ ?_
 ·refine X1 5 0 h Z (zcB h F qaf Z fun _ _ h F=>zp2 Z (qg (t:=17) F Z ?_ ?_))<;>intro F
  ·refine X0 7 Z ?_;obtain rfl:=qc F;exact rG ⟨_,f,rfl,h⟩ Z
  refine X1 7 0 h Z (zcB h F qaf Z fun _ _ h F=>X0 4 Z ?_);obtain rfl:=qc F;exact rG ⟨_,f,rfl,h⟩ Z
 rintro _ _ ⟨b1,F,rfl,h⟩;subst k;refine ql Z F ?_ ?_<;>intro F
 ·exact X0 4 Z (rb h F Z)
 refine X2 7 1 0 h Z ?_;obtain⟨W,_,F,y,_,_,_,_,A,C,H,v⟩:=s1.ix F;obtain rfl:=qeP H;refine zxe A C y Z (zp1 Z (zc 3 (v.below h.below) Z (X1 14 0 h Z (ql Z F ?_ ?_))))<;>intro F
 ·refine X0 5 Z (qg (t:=37) F Z ?_ ?_)<;>intro F
  ·refine X1 10 0 h Z (qg (t:=43) F Z ?_ ?_)<;>intro F
   ·refine X1 5 0 h Z (zcB h F qaf Z fun _ _ h F=>zp2 Z (qg (t:=48) F Z ?_ ?_))<;>intro F
    ·refine X1 5 0 h Z (zcB h F (qfd ⟨_,_,rfl,(h.oldS S)⟩) Z fun _ _ h F=>zp2 Z (qg (t:=53) F Z ?_ ?_))<;>intro F
     ·exact X1 5 0 h Z (zcB h F (qfd ⟨_,_,rfl,(h.oldS T)⟩) Z fun _ _ h F=>X0 3 Z (rb h F Z))
     exact X0 6 Z (rb h F Z)
    exact X0 11 Z (rb h F Z)
   exact X0 16 Z (rb h F Z)
  exact X0 22 Z (rb h F Z)
 refine X0 6 Z ?_;obtain⟨m,i,_,F,d⟩:=bindE F;refine qaF (fun e w'=>∃(b3:Bool),m b3=V r∧e=[(2,.pointer (V ⟨a,0,U⟩)),(3,.pointer (V ⟨b,0,U⟩)),(5,.int .i64 (W64 ((a_0.Ay.length:Int)-1))),(6,.bool W.Bo),(32,.int .i64 a_1.Au),(58,.bool b3)]∧SH w w' [Ch.box b (qdT a_1 Q R M N) 187,Ch.box a (qI a_0 p1 O P J K L) 184]) ?_ ?_
 ·refine ql Z F ?_ ?_<;>intro F
  ·refine qfk ?_;obtain rfl:=qc F;exact rG ⟨_,d,rfl,h⟩ Z
  refine X0 4 Z ?_;obtain rfl:=qc F;exact rG ⟨_,d,rfl,h⟩ Z
 rintro _ _ ⟨b3,F,rfl,h⟩;subst i;refine ql Z F ?_ ?_<;>intro F
 ·refine X0 4 Z (qg (t:=62) F Z ?_ ?_)<;>intro F
  ·refine X1 10 0 h Z (qg (t:=68) F Z ?_ ?_)<;>intro F
   ·refine X1 8 0 h Z (qg (t:=73) F Z ?_ ?_)<;>intro F
    ·refine X1 5 0 h Z (zcB h F (qfd ⟨_,_,rfl,(h.oldS S)⟩) Z fun _ _ h F=>zp2 Z (qg (t:=78) F Z ?_ ?_))<;>intro F
     ·exact X1 5 0 h Z (zcB h F (qfd ⟨_,_,rfl,(h.oldS T)⟩) Z fun _ _ h F=>X0 3 Z (rb h F Z))
     exact X0 6 Z (rb h F Z)
    exact X0 11 Z (rb h F Z)
   exact X0 16 Z (rb h F Z)
  exact X0 22 Z (rb h F Z)
 refine X0 6 Z ?_;obtain⟨l,g,_,F,c⟩:=bindE F;refine qaF (fun e w'=>∃(p:Bool),l p=V r∧e=[(2,.pointer (V ⟨a,0,U⟩)),(3,.pointer (V ⟨b,0,U⟩)),(5,.int .i64 (W64 ((a_0.Ay.length:Int)-1))),(6,.bool W.Bo),(83,.bool p)]∧SH w w' [Ch.box b (qdT a_1 Q R M N) 187,Ch.box a (qI a_0 p1 O P J K L) 184]) ?_ ?_
 ·refine ql Z F ?_ ?_<;>intro F
  ·refine qfk ?_;obtain rfl:=qc F;exact rG ⟨_,c,rfl,h⟩ Z
  refine X0 4 Z ?_;obtain rfl:=qc F;exact rG ⟨_,c,rfl,h⟩ Z
 rintro _ _ ⟨p,F,rfl,h⟩;subst g;refine ql Z F ?_ ?_<;>intro F
 ·refine X0 4 Z (qg (t:=87) F Z ?_ ?_)<;>intro F
  ·refine X1 10 0 h Z (qg (t:=93) F Z ?_ ?_)<;>intro F
   ·refine X2 9 1 0 h Z ?_;obtain⟨_,_,F,z,_,_,_,_,B,D,I,x⟩:=s1.ix F;obtain rfl:=qeP I;refine zxe B D z Z (X0 3 Z (zc 3 (x.below h.below) Z (X0 4 Z (qg (t:=103) F Z ?_ ?_))))<;>intro F
    ·refine X1 8 0 h Z (qg (t:=108) F Z ?_ ?_)<;>intro F
     ·refine X1 5 0 h Z (zcB h F (qfd ⟨_,_,rfl,(h.oldS S)⟩) Z fun _ _ h F=>zp2 Z (qg (t:=113) F Z ?_ ?_))<;>intro F
      ·exact X1 11 0 h Z (rb h F Z)
      exact X0 7 Z (rb h F Z)
     exact X0 12 Z (rb h F Z)
    exact X0 17 Z (rb h F Z)
   exact X0 27 Z (rb h F Z)
  exact X0 33 Z (rb h F Z)
 exact X0 6 Z (rb h F Z)
def qdq (c:qG):Nat→(List Int)→Int→Option ((List Int)×Int)| 0,_,_=>U| n+1,b,a =>bif decide (a<(c.Aq.length:Int)) then(idx c.Aq a).bind fun d =>(idx b d.Au).bind fun f =>(idx b d.Au).bind fun _ =>qdq c n (setS b d.Au (W64 (f+1))) (W64 (a+1)) else V (b,a)
def qiC (n:Nat)(c:qG):Option (List Int) :=(mkS 6 (0:Int)).bind fun a =>(qdq c n a 0).bind fun o=>match o with| (b,_) =>V b
theorem qnF {c:qG}(o:Ro w c cs1){r:(List Int)}(F:qiC n c=V r):RetV prog 270 [GoT.v qG cs1] w r:=by
 obtain⟨p1,L,O,M,P,N,rfl,_,s2,_⟩:=qag o;refine zV 25 func270 Z fun h=>zSR (qH h Z Z fun _ b h=>X0 4 Z ?_);obtain⟨k,a,F⟩:=qd F;obtain⟨J,K,a⟩:=qab a;refine qaq qa Int h Z Z Z Z Z Z Z Z Z J K a Z fun _ S1 I h=>X0 7 Z ?_;obtain⟨o1,F,l⟩:=qd F;refine qn (rL (fun m e w'=>∃(D:(List Int)) (C:Int),qdq c m D C=V o1∧e=[(1,.pointer (V ⟨b,0,U⟩)),(3,.slice I k.length k.length),(4,.int .i64 C)]∧SH w w' [Ch.own S1 (D:List Int) [.slice I k.length k.length],Ch.box b (qI c p1 O P L M N) 184]) n ⟨_,_,F,rfl,h⟩ Z ?_);rintro H _ _ ⟨D,C,F,rfl,h⟩;rcases H with _|H
 ·cases F
 refine X1 9 1 h Z (ql Z F ?_ ?_)<;>intro F
 ·refine X1 8 1 h Z ?_;obtain⟨_,_,F,u,_,_,_,_,v,y,A,p⟩:=s2.ix F;obtain⟨_,_,_,_,rfl,_,_⟩:=qaA A;refine zxe v y u Z (zp1 Z (zc 0 (p.below h.below) Z ?_));obtain⟨Q,_,F,d,_,_,_,_,x,z,rfl,s⟩:=(h.sl 0 Z).1.ix F;refine zx x z ⟨d.1,qC d.2.1 (h.sl 0 Z).2⟩ Z (zc 0 s Z (zp1 Z ?_));obtain⟨_,B,F,f,_,_,_,_,g,i,rfl,t⟩:=(h.sl 0 Z).1.ix F;exact zx g i ⟨f.1,qC f.2.1 (h.sl 0 Z).2⟩ Z (qaH qa 0 0 (W64 (Q+1)) h Z B g i Z t Z Z Z Z Z Z Z fun _ h=>X0 7 Z (rK ⟨_,_,F,rfl,h⟩ Z))
 refine qw Z ?_;obtain rfl:=qc F;replace F:=l;refine X0 5 Z ?_;obtain rfl:=qc F;exact rO 0 h Z ⟨rfl,trivial⟩
end Go.Fw


namespace Go.Fw
open Go Go.Proofs Go.Proofs.Tryz
open Go.RowKit (Below)
set_option maxRecDepth 100000
set_option maxHeartbeats 6400000
variable {n:Nat}{w:World}{cs1 cs2 cs3 cs4 cs5 cs6 cs7 cs8 cs9:List Value}
def qdF (a_0:qG)(c:Int)(b:qak):Nat→Int→Option (Flow Bool Int)| 0,_=>U| n+1,a =>bif decide (a<c) then(idx a_0.Aq a).bind fun d =>bif (d.Au==b.Au) then(idx a_0.Aq a).bind fun f =>bif (f.Bd==b.Bd) then(idx a_0.Aq a).bind fun g =>bif (g.To==b.To) then V (.ret false) else qdF a_0 c b n (W64 (a+1)) else qdF a_0 c b n (W64 (a+1)) else qdF a_0 c b n (W64 (a+1)) else V (.nxt a)
def qfN (a_0:qG):Nat→Int→Option (Flow Bool Int)| 0,_=>U| n+1,a =>bif decide (a<(a_0.Bn.length:Int)) then(idx a_0.Bn a).bind fun c =>(qaE n c 0 1).bind fun b =>bif (!b) then V (.ret false) else qfN a_0 n (W64 (a+1)) else V (.nxt a)
def qfx (a_0:qG):Nat→Int→Option (Flow Bool Int)| 0,_=>U| n+1,a =>bif decide (a<(a_0.Aq.length:Int)) then(idx a_0.Aq a).bind fun b =>(qj2 n a_0 b).bind fun c =>bif (!c) then V (.ret false) else(qdF a_0 a b n 0).bind fun o=>match o with| .ret r=>V (.ret r)| .nxt _ =>qfx a_0 n (W64 (a+1)) else V (.nxt a)
def qj8 (n:Nat)(a_0:qG):Option Bool :=(qjc n a_0).bind fun o=>match o with| (b,g) =>(bif (!g) then V true else(qfX n a_0.Ba).bind fun h =>bif (!h) then V true else bif decide ((a_0.Aq.length:Int) > 8) then V true else(qaE n a_0.Bw 0 100000).bind fun i =>bif (!i) then V true else(qaE n a_0.Bt 0 100000).bind fun k =>V (!k)).bind fun b1 =>bif b1 then V false else(qfx a_0 n 0).bind fun o=>match o with| .ret r=>V r| .nxt _ =>(qiC n a_0).bind fun a =>bif (a_0.Au==1) then(qfN a_0 n 0).bind fun o=>match o with| .ret r=>V r| .nxt _ =>bif (b==0) then(shlS 1 (IntKind.wrap .u64 (W64 ((a_0.Ay.length:Int)-1)))).bind fun l =>V ((a_0.Bn.length:Int)==l) else V false else bif (a_0.Au==2) then bif (b==1) then(idx a 1).bind fun m =>bif (m==0) then(idx a 2).bind fun p =>(idx a 3).bind fun s =>bif (!((decide (p > 0))==(decide (s > 0)))) then V ((a_0.Bn.length:Int)==0) else V false else V false else V false else bif (a_0.Au==3) then bif (b==1) then(idx a 1).bind fun c =>bif decide (c > 0) then(idx a 2).bind fun d =>bif decide (d > 0) then(idx a 3).bind fun f =>bif (f==0) then V ((a_0.Bn.length:Int)==0) else V false else V false else V false else V false else V false
theorem qoZ {a_0:qG}(c:Ro w a_0 cs1){r:Bool}(F:qj8 n a_0=V r):RetV prog 241 [GoT.v qG cs1] w r:=by
 obtain⟨p1,O,R,P,S,Q,rfl,_,s2,s3⟩:=qag c;refine zV 182 func241 Z fun h=>zSR (qH h Z Z fun _ a h=>X1 5 0 h Z ?_);obtain⟨⟨N,r3⟩,d3,F⟩:=qd F;refine qbI (N,r3) h (cB 268 Z) (qod (h.old c) d3) Z Z Z Z fun _ _ _ e2 d4=>?_;obtain⟨_,_,rfl,e3,d5⟩:=e2.consI d4;obtain⟨rfl,h⟩:=e3.lastB d5;refine X0 8 Z ?_;obtain⟨T,p,_,F,b⟩:=bindE F;refine qaF (fun e w'=>∃(b1:Bool),T b1=V r∧e=[(1,.pointer (V ⟨a,0,U⟩)),(3,.int .i64 N),(40,.bool b1)]∧SH w w' [Ch.box a (qI a_0 p1 R S O P Q) 184]) ?_ ?_
 ·refine X0 4 Z (qg (t:=17) F Z ?_ ?_)<;>intro F
  ·refine X0 24 Z ?_;obtain rfl:=qc F;exact rG ⟨_,b,rfl,h⟩ Z
  refine X1 5 0 h Z (zcB h F qhq Z fun _ _ h F=>X0 4 Z (qg (t:=23) F Z ?_ ?_))<;>intro F
  ·refine X0 18 Z ?_;obtain rfl:=qc F;exact rG ⟨_,b,rfl,h⟩ Z
  refine X1 10 0 h Z (qg (t:=29) F Z ?_ ?_)<;>intro F
  ·refine X0 12 Z ?_;obtain rfl:=qc F;exact rG ⟨_,b,rfl,h⟩ Z
  refine X1 5 0 h Z (zcB h F qaf Z fun _ _ h F=>X0 4 Z (qg (t:=35) F Z ?_ ?_))<;>intro F
  ·refine X0 6 Z ?_;obtain rfl:=qc F;exact rG ⟨_,b,rfl,h⟩ Z
  refine X1 5 0 h Z (zcB h F qaf Z fun _ _ h F=>X0 4 Z ?_);obtain rfl:=qc F;exact rG ⟨_,b,rfl,h⟩ Z
 rintro _ _ ⟨b1,F,rfl,h⟩;subst p;refine ql Z F ?_ ?_<;>intro F
 ·exact X0 4 Z (rb h F Z)
 refine X0 6 Z ?_;obtain⟨o1,F,g⟩:=qd F;refine qn (rL (fun m e w'=>∃(M:Int),qfx a_0 m M=V o1∧e=[(1,.pointer (V ⟨a,0,U⟩)),(3,.int .i64 N),(5,.int .i64 M)]∧SH w w' [Ch.box a (qI a_0 p1 R S O P Q) 184]) n ⟨_,F,rfl,h⟩ Z ?_);rintro m1 _ _ ⟨M,F,rfl,h⟩;rcases m1 with _|m1
 ·cases F
 refine X1 9 0 h Z (ql Z F ?_ ?_)<;>intro F
 ·refine X1 8 0 h Z ?_;obtain⟨y1,_,F,a4,_,_,_,_,a9,c3,d6,W⟩:=s2.ix F;obtain⟨p4,k4,p5,k5,rfl,s4,s5⟩:=qaA d6;refine zxe a9 c3 a4 Z (zc 0 (W.below h.below) Z (qj qa h Z Z Z fun _ k h=>zs 0 h Z fun _ h=>X2 6 1 0 h Z (zcB h F (qoQ (h.old c) (qh5 y1 (h.oldS s4) (h.oldS s5))) Z fun _ _ h F=>X0 2 Z (ql Z F ?_ ?_))))<;>intro F
  ·refine X0 4 Z ?_;obtain rfl:=qc F;replace F:=g;exact rb h F Z
  refine X0 5 Z ?_;obtain⟨o2,F,l⟩:=qd F;refine qn (rL (fun m e w'=>∃(i2:Int),qdF a_0 M y1 m i2=V o2∧e=[(1,.pointer (V ⟨a,0,U⟩)),(3,.int .i64 N),(5,.int .i64 M),(6,.pointer (V ⟨k,0,U⟩)),(7,.int .i64 i2)]∧SH w w' [Ch.box k (qdT y1 p4 p5 k4 k5) 187,Ch.box a (qI a_0 p1 R S O P Q) 184]) m1 ⟨_,F,rfl,h⟩ Z ?_);rintro m2 _ _ ⟨i2,F,rfl,h⟩;rcases m2 with _|m2
  ·cases F
  refine X0 7 Z (ql Z F ?_ ?_)<;>intro F
  ·refine X0 4 Z (rD (Y1 2 1 h Z ?_));refine zd1 Z ?_;obtain⟨_,_,F,a5,_,_,_,_,b4,c4,d7,X⟩:=s2.ix F;obtain⟨_,_,_,_,rfl,_,_⟩:=qaA d7;refine zdxe b4 c4 a5 Z (zd1 Z (zdc 0 (X.below h.below) Z (Y1 2 0 h Z ?_)));refine zd2 Z (qaJ (t:=71) F Z ?_ ?_)<;>intro F
   ·refine Y1 4 1 h Z ?_;refine Y0 3 Z ?_;obtain⟨_,_,F,a6,_,_,_,_,b5,c5,d8,Y⟩:=s2.ix F;obtain⟨_,_,_,_,rfl,_,_⟩:=qaA d8;refine zdxe b5 c5 a6 Z (Y0 3 Z (zdc 1 (Y.below h.below) Z (Y1 4 0 h Z ?_)));refine Y0 4 Z (qaJ (t:=82) F Z ?_ ?_)<;>intro F
    ·refine Y1 4 1 h Z ?_;refine Y0 3 Z ?_;obtain⟨_,_,F,a7,_,_,_,_,b6,c6,d9,a3⟩:=s2.ix F;obtain⟨_,_,_,_,rfl,_,_⟩:=qaA d9;refine zdxe b6 c6 a7 Z (Y0 3 Z (zdc 2 (a3.below h.below) Z (Y1 4 0 h Z ?_)));refine Y0 3 Z (dN h fun _ h=>ql Z F ?_ ?_)<;>intro F
     ·refine X0 4 Z ?_;obtain rfl:=qc F;replace F:=l;obtain rfl:=qc F;replace F:=g;exact rb h F Z
     exact X0 7 Z (rK ⟨_,F,rfl,h⟩ Z)
    exact Y0 10 Z (dN h fun _ h=>qbE Z Z (X0 7 Z (rK ⟨_,F,rfl,h⟩ Z)))
   exact Y0 21 Z (dN h fun _ h=>qbE Z Z (X0 7 Z (rK ⟨_,F,rfl,h⟩ Z)))
  refine qw Z ?_;obtain rfl:=qc F;replace F:=l;refine X0 6 Z ?_;replace h:=h.pick [1] Z;exact rK ⟨_,F,rfl,h⟩ Z
 refine qw Z ?_;obtain rfl:=qc F;replace F:=g;refine X1 3 0 h Z (zcL h F (qnF (h.old c)) Z fun _ _ _ _ _ h F=>X1 14 1 h Z (ql Z F ?_ ?_))<;>intro F
 ·refine X0 5 Z ?_;obtain⟨o3,F,o⟩:=qd F;refine qn ?_;replace h:=h.pick [1] Z;refine rL (fun m e w'=>∃(i3:Int),qfN a_0 m i3=V o3∧e=[(1,.pointer (V ⟨a,0,U⟩)),(3,.int .i64 N),(9,.int .i64 i3)]∧SH w w' [Ch.box a (qI a_0 p1 R S O P Q) 184]) n ⟨_,F,rfl,h⟩ Z ?_;rintro m3 _ _ ⟨i3,F,rfl,h⟩;rcases m3 with _|m3
  ·cases F
  refine X1 9 0 h Z (ql Z F ?_ ?_)<;>intro F
  ·refine X1 8 0 h Z ?_;obtain⟨_,_,F,a8,_,_,_,_,b7,c7,rfl,s⟩:=s3.ix F;refine zxe b7 c7 a8 Z (zc 0 (s.below h.below) Z (zcB h F qaf Z fun _ _ h F=>X0 2 Z (ql Z F ?_ ?_)))<;>intro F
   ·refine X0 4 Z ?_;obtain rfl:=qc F;replace F:=o;exact rb h F Z
   exact X0 7 Z (rK ⟨_,F,rfl,h⟩ Z)
  refine qw Z ?_;obtain rfl:=qc F;replace F:=o;refine X0 5 Z (qg (t:=115) F Z ?_ ?_)<;>intro F
  ·refine X2 17 0 0 h Z ?_;obtain⟨_,i,F⟩:=qd F;obtain⟨g1,i⟩:=qnz i;refine r_v (qtI g1 Z Z) Z ?_;rw[i];exact X0 5 Z (rb h F Z)
  exact X0 13 Z (rb h F Z)
 refine X0 5 Z (ql Z F ?_ ?_)<;>intro F
 ·refine qb8 (rD (zd3 Z (qaJ (t:=131) F Z ?_ ?_)))<;>intro F
  ·refine Y0 3 Z ?_;obtain⟨_,_,F,B,_,_,_,_,b8,c8,rfl,u⟩:=(h.sl 0 Z).1.ix F;refine zdx b8 c8 ⟨B.1,qC B.2.1 (h.sl 0 Z).2⟩ Z (Y0 1 Z (zdc 0 u Z (Y0 4 Z (qaJ (t:=137) F Z ?_ ?_))))<;>intro F
   ·refine Y0 3 Z ?_;obtain⟨_,_,F,C,_,_,_,_,b9,c9,rfl,v⟩:=(h.sl 0 Z).1.ix F;refine zdx b9 c9 ⟨C.1,qC C.2.1 (h.sl 0 Z).2⟩ Z (Y0 1 Z (zdc 0 v Z (Y0 5 Z ?_)));obtain⟨_,_,F,D,_,_,_,_,c0,d0,rfl,x⟩:=(h.sl 0 Z).1.ix F;refine zdx c0 d0 ⟨D.1,qC D.2.1 (h.sl 0 Z).2⟩ Z (Y0 1 Z (zdc 0 x Z (Y0 6 Z (qaJ (t:=148) F Z ?_ ?_))))<;>intro F
    ·refine Y1 4 1 h Z ?_;exact Y0 6 Z (dN h fun _ h=>rb h F Z)
    exact Y0 6 Z (dN h fun _ h=>rb h F Z)
   exact Y0 17 Z (dN h fun _ h=>rb h F Z)
  exact Y0 23 Z (dN h fun _ h=>rb h F Z)
 refine X0 5 Z (ql Z F ?_ ?_)<;>intro F
 ·refine X0 5 Z (qg (t:=158) F Z ?_ ?_)<;>intro F
  ·refine X0 3 Z ?_;obtain⟨_,_,F,H,_,_,_,_,c2,d1,rfl,y⟩:=(h.sl 0 Z).1.ix F;refine zx c2 d1 ⟨H.1,qC H.2.1 (h.sl 0 Z).2⟩ Z (X0 1 Z (zc 0 y Z (X0 4 Z (qg (t:=164) F Z ?_ ?_))))<;>intro F
   ·refine X0 3 Z ?_;obtain⟨_,_,F,d,_,_,_,_,I,K,rfl,z⟩:=(h.sl 0 Z).1.ix F;refine zx I K ⟨d.1,qC d.2.1 (h.sl 0 Z).2⟩ Z (X0 1 Z (zc 0 z Z (X0 4 Z (qg (t:=170) F Z ?_ ?_))))<;>intro F
    ·refine X0 3 Z ?_;obtain⟨_,_,F,f,_,_,_,_,J,L,rfl,A⟩:=(h.sl 0 Z).1.ix F;refine zx J L ⟨f.1,qC f.2.1 (h.sl 0 Z).2⟩ Z (X0 1 Z (zc 0 A Z (X0 4 Z (qg (t:=176) F Z ?_ ?_))))<;>intro F
     ·exact X1 11 1 h Z (rb h F Z)
     exact X0 7 Z (rb h F Z)
    exact X0 13 Z (rb h F Z)
   exact X0 19 Z (rb h F Z)
  exact X0 25 Z (rb h F Z)
 exact X0 6 Z (rb h F Z)
def qdL (l:qz)(b:Int):Nat→Int→Option (Flow Bool Int)| 0,_=>U| n+1,a =>bif decide (a<b) then(idx l.Ap a).bind fun c =>(idx l.Ap b).bind fun d =>bif (c.Ba.toList==d.Ba.toList) then V (.ret false) else qdL l b n (W64 (a+1)) else V (.nxt a)
def qdO (l:qz):Nat→Int→Option (Flow Bool Int)| 0,_=>U| n+1,a =>bif decide (a<(l.Ap.length:Int)) then(idx l.Ap a).bind fun b =>(qj8 n b).bind fun r1 =>bif (!r1) then V (.ret false) else(qdL l a n 0).bind fun o=>match o with| .ret r=>V (.ret r)| .nxt _ =>qdO l n (W64 (a+1)) else V (.nxt a)
def qhT (n:Nat)(l:qz):Option Bool :=(qdO l n 0).bind fun o=>match o with| .ret r=>V r| .nxt _ =>V (decide ((l.Ap.length:Int)≤8))
theorem qm9 {l:qz}(f:Ro w l cs1){r:Bool}(F:qhT n l=V r):RetV prog 187 [GoT.v qz cs1] w r:=by
 obtain⟨p1,I,rfl,s1⟩:=qcG f;refine zV 41 func187 Z fun h=>zSR (qH h Z Z fun _ a h=>X0 7 Z ?_);obtain⟨o1,F,b⟩:=qd F;refine qn (rL (fun m e w'=>∃(d:Int),qdO l m d=V o1∧e=[(1,.pointer (V ⟨a,0,U⟩)),(3,.int .i64 d)]∧SH w w' [Ch.box a [.slice p1 l.Ap.length I] 26]) n ⟨_,F,rfl,h⟩ Z ?_);rintro H _ _ ⟨d,F,rfl,h⟩;rcases H with _|H
 ·cases F
 refine X1 9 0 h Z (ql Z F ?_ ?_)<;>intro F
 ·refine X1 9 0 h Z ?_;obtain⟨M,_,F,o,_,_,_,_,t,x,A,g⟩:=s1.ix F;obtain⟨_,_,_,_,_,_,rfl,s2,K,L⟩:=qag A;refine zxe t x o Z (zc 0 (g.below h.below) Z (zcB h F (qoZ (qpH M (h.oldS s2) (h.oldS K) (h.oldS L))) Z fun _ _ h F=>X0 2 Z (ql Z F ?_ ?_)))<;>intro F
  ·refine X0 4 Z ?_;obtain rfl:=qc F;replace F:=b;exact rb h F Z
  refine X0 5 Z ?_;obtain⟨o2,F,c⟩:=qd F;refine qn (rL (fun m e w'=>∃(D:Int),qdL l d m D=V o2∧e=[(1,.pointer (V ⟨a,0,U⟩)),(3,.int .i64 d),(4,.int .i64 D)]∧SH w w' [Ch.box a [.slice p1 l.Ap.length I] 26]) H ⟨_,F,rfl,h⟩ Z ?_);rintro J _ _ ⟨D,F,rfl,h⟩;rcases J with _|J
  ·cases F
  refine X0 7 Z (ql Z F ?_ ?_)<;>intro F
  ·refine X0 4 Z (rD (Y1 2 0 h Z ?_));refine zd1 Z ?_;obtain⟨_,_,F,p,_,_,_,_,u,y,B,i⟩:=s1.ix F;obtain⟨_,_,_,_,_,_,rfl,_,_,_⟩:=qag B;refine zdxe u y p Z (zd1 Z (zdc 0 (i.below h.below) Z (Y1 2 0 h Z ?_)));refine zd1 Z ?_;obtain⟨_,_,F,s,_,_,_,_,v,z,C,k⟩:=s1.ix F;obtain⟨_,_,_,_,_,_,rfl,_,_,_⟩:=qag C;refine zdxe v z s Z (zd1 Z (zdc 0 (k.below h.below) Z (zd1 Z (dN h fun _ h=>ql Z F ?_ ?_))))<;>intro F
   ·refine X0 4 Z ?_;obtain rfl:=qc F;replace F:=c;obtain rfl:=qc F;replace F:=b;exact rb h F Z
   exact X0 7 Z (rK ⟨_,F,rfl,h⟩ Z)
  refine qw Z ?_;obtain rfl:=qc F;replace F:=c;exact X0 6 Z (rK ⟨_,F,rfl,h⟩ Z)
 refine qw Z ?_;obtain rfl:=qc F;replace F:=b;exact X1 8 0 h Z (rb h F Z)
def qet (a_1:qi)(b:qF):Nat→Int→Option (Flow Bool Int)| 0,_=>U| n+1,a =>bif decide (a<(b.Aj.length:Int)) then(idx b.Aj a).bind fun c =>(qaE n c 0 (W64 ((a_1.Aj.length:Int)-1))).bind fun r1 =>bif (!r1) then V (.ret false) else qet a_1 b n (W64 (a+1)) else V (.nxt a)
def qeu (a_1:qi):Nat→Int→Option (Flow Bool Int)| 0,_=>U| n+1,a =>bif decide (a<(a_1.Ah.length:Int)) then(idx a_1.Ah a).bind fun d =>(qaE n d.Bs 1 2).bind fun b =>bif (!b) then V (.ret false) else(idx a_1.Ah a).bind fun f =>(qaE n f.Bv 0 (W64 ((a_1.Aj.length:Int)-1))).bind fun c =>bif (!c) then V (.ret false) else qeu a_1 n (W64 (a+1)) else V (.nxt a)
def qev (a_0:qz)(a_1:qi):Nat→Int→Option (Flow Bool Int)| 0,_=>U| n+1,a =>bif decide (a<(a_1.Ab.length:Int)) then(idx a_1.Ab a).bind fun b =>((qaE n b.Bp 0 (W64 ((a_0.Ap.length:Int)-1))).bind fun c =>bif (!c) then V true else(idx a_0.Ap b.Bp).bind fun d =>V ((b.Aj.length:Int) != (d.Ay.length:Int))).bind fun b2 =>bif b2 then V (.ret false) else(qet a_1 b n 0).bind fun o=>match o with| .ret r=>V (.ret r)| .nxt _ =>qev a_0 a_1 n (W64 (a+1)) else V (.nxt a)
def qiE (n:Nat)(a_0:qz)(a_1:qi):Option Bool :=(qev a_0 a_1 n 0).bind fun o=>match o with| .ret r=>V r| .nxt _ =>(qeu a_1 n 0).bind fun o=>match o with| .ret r=>V r| .nxt _ =>V true
theorem qnw {a_0:qz}{a_1:qi}(A:Ro w a_0 cs1)(B:Ro w a_1 cs2){r:Bool}(F:qiE n a_0 a_1=V r):RetV prog 188 [GoT.v qz cs1,GoT.v qi cs2] w r:=by
 obtain⟨p1,k1,rfl,s1⟩:=qcG A;obtain⟨v,p,x,s,y,u,rfl,s2,_,s4⟩:=qaT B;refine zV 90 func188 Z fun h=>zSR (qH h Z Z fun _ b h=>qH h Z Z fun _ a h=>X1 14 0 h Z ?_);obtain⟨o1,F,d⟩:=qd F;refine qn (rL (fun m e w'=>∃(o:Int),qev a_0 a_1 m o=V o1∧e=[(2,.pointer (V ⟨b,0,U⟩)),(3,.pointer (V ⟨a,0,U⟩)),(5,.int .i64 (a_1.Aj.length:Int)),(6,.int .i64 o)]∧SH w w' [Ch.box a (qao a_1 v x y p s u) 31,Ch.box b [.slice p1 a_0.Ap.length k1] 26]) n ⟨_,F,rfl,h⟩ Z ?_);rintro m1 _ _ ⟨o,F,rfl,h⟩;rcases m1 with _|m1
 ·cases F
 refine X1 9 0 h Z (ql Z F ?_ ?_)<;>intro F
 ·refine X1 8 0 h Z ?_;obtain⟨y1,_,F,J,_,_,_,_,O,T,a4,C⟩:=s2.ix F;obtain⟨p5,k5,rfl,s5⟩:=qav a4;refine zxe O T J Z (zc 0 (C.below h.below) Z (qj qa h Z Z Z fun _ c h=>zs 0 h Z fun _ h=>zNSS ?_));obtain⟨z,k,_,F,i⟩:=bindE F;refine qaF (fun e w'=>∃(b2:Bool),z b2=V o1∧e=[(2,.pointer (V ⟨b,0,U⟩)),(3,.pointer (V ⟨a,0,U⟩)),(5,.int .i64 (a_1.Aj.length:Int)),(6,.int .i64 o),(7,.pointer (V ⟨c,0,U⟩)),(46,.bool b2)]∧SH w w' [Ch.box c (qiR y1 p5 k5) 102,Ch.box a (qao a_1 v x y p s u) 31,Ch.box b [.slice p1 a_0.Ap.length k1] 26]) ?_ ?_
  ·refine rD (Y1 2 0 h Z ?_);refine Y1 2 2 h Z ?_;refine zd2 Z ?_;obtain⟨r2,a5,F⟩:=qd F;refine qb3 r2 (vsB _) (cB 66 Z) (fun _ hb=>qaf  a5) Z Z Z Z (zd2 Z (qaJ (t:=33) F Z ?_ ?_))<;>intro F
   ·refine Y0 13 Z (dN h fun _ h=>?_);obtain rfl:=qc F;exact rG ⟨_,i,rfl,h⟩ Z
   refine Y1 4 0 h Z ?_;refine Y1 6 2 h Z ?_;refine Y1 4 0 h Z ?_;refine Y0 1 Z ?_;obtain⟨_,_,F,L,_,_,_,_,Q,X,a6,H⟩:=s1.ix F;obtain⟨_,_,_,_,_,_,rfl,_,_,_⟩:=qag a6;refine zdxe Q X L Z (Y0 3 Z (zdc 2 (H.below h.below) Z (Y0 5 Z (dN h fun _ h=>?_))));obtain rfl:=qc F;exact rG ⟨_,i,rfl,h⟩ Z
  rintro _ _ ⟨b2,F,rfl,h⟩;subst k;refine ql Z F ?_ ?_<;>intro F
  ·refine X0 4 Z ?_;obtain rfl:=qc F;replace F:=d;exact rb h F Z
  refine X0 5 Z ?_;obtain⟨o2,F,g⟩:=qd F;refine qn (rL (fun m e w'=>∃(i2:Int),qet a_1 y1 m i2=V o2∧e=[(2,.pointer (V ⟨b,0,U⟩)),(3,.pointer (V ⟨a,0,U⟩)),(5,.int .i64 (a_1.Aj.length:Int)),(6,.int .i64 o),(7,.pointer (V ⟨c,0,U⟩)),(8,.int .i64 i2)]∧SH w w' [Ch.box c (qiR y1 p5 k5) 102,Ch.box a (qao a_1 v x y p s u) 31,Ch.box b [.slice p1 a_0.Ap.length k1] 26]) m1 ⟨_,F,rfl,h⟩ Z ?_);rintro m2 _ _ ⟨i2,F,rfl,h⟩;rcases m2 with _|m2
  ·cases F
  refine X1 9 0 h Z (ql Z F ?_ ?_)<;>intro F
  ·refine X1 8 0 h Z ?_;obtain⟨_,_,F,K,_,_,_,_,P,W,rfl,D⟩:=s5.ix F;refine zxe P W K Z (zc 0 (D.below h.below) Z (zp2 Z (zcB h F qaf Z fun _ _ h F=>X0 2 Z (ql Z F ?_ ?_))))<;>intro F
   ·refine X0 4 Z ?_;obtain rfl:=qc F;replace F:=g;obtain rfl:=qc F;replace F:=d;exact rb h F Z
   exact X0 7 Z (rK ⟨_,F,rfl,h⟩ Z)
  refine qw Z ?_;obtain rfl:=qc F;replace F:=g;refine X0 6 Z ?_;replace h:=h.pick [1,2] Z;exact rK ⟨_,F,rfl,h⟩ Z
 refine qw Z ?_;obtain rfl:=qc F;replace F:=d;refine X0 5 Z ?_;obtain⟨o4,F,f⟩:=qd F;refine qn ?_;replace h:=h.pick [0] Z;refine rL (fun m e w'=>∃(i3:Int),qeu a_1 m i3=V o4∧e=[(3,.pointer (V ⟨a,0,U⟩)),(5,.int .i64 (a_1.Aj.length:Int)),(9,.int .i64 i3)]∧SH w w' [Ch.box a (qao a_1 v x y p s u) 31]) n ⟨_,F,rfl,h⟩ Z ?_;rintro m3 _ _ ⟨i3,F,rfl,h⟩;rcases m3 with _|m3
 ·cases F
 refine X1 9 0 h Z (ql Z F ?_ ?_)<;>intro F
 ·refine X1 8 0 h Z ?_;obtain⟨_,_,F,M,_,_,_,_,R,Y,a7,I⟩:=s4.ix F;obtain rfl:=qeA a7;refine zxe R Y M Z (zp1 Z (zc 1 (I.below h.below) Z (zcB h F qaf Z fun _ _ h F=>zp2 Z (qg (t:=78) F Z ?_ ?_))))<;>intro F
  ·refine X0 12 Z (qbX Z Z (X0 4 Z ?_));obtain rfl:=qc F;replace F:=f;exact rb h F Z
  refine X1 7 0 h Z ?_;obtain⟨_,_,F,N,_,_,_,_,S,a3,a8,l⟩:=s4.ix F;obtain rfl:=qeA a8;refine zxe S a3 N Z (X0 3 Z (zc 2 (l.below h.below) Z (X0 5 Z (zcB h F qaf Z fun _ _ h F=>X0 4 Z (ql Z F ?_ ?_)))))<;>intro F
  ·refine X0 4 Z ?_;obtain rfl:=qc F;replace F:=f;exact rb h F Z
  exact X0 7 Z (rK ⟨_,F,rfl,h⟩ Z)
 refine qw Z ?_;obtain rfl:=qc F;replace F:=f;exact X0 4 Z (rb h F Z)
def qep (list:(List ByteArray))(b:Int):Nat→Int→Option (Flow Bool Int)| 0,_=>U| n+1,a =>bif decide (a<b) then(idx list a).bind fun c =>(idx list b).bind fun d =>bif (c.toList==d.toList) then V (.ret false) else qep list b n (W64 (a+1)) else V (.nxt a)
def qek (list:(List ByteArray)):Nat→Int→Option (Flow Bool Int)| 0,_=>U| n+1,a =>bif decide (a<(list.length:Int)) then(idx list a).bind fun b =>(qfX n b).bind fun r1 =>bif (!r1) then V (.ret false) else(qep list a n 0).bind fun o=>match o with| .ret r=>V (.ret r)| .nxt _ =>qek list n (W64 (a+1)) else V (.nxt a)
def qgc (n:Nat)(list:(List ByteArray)):Option Bool :=(qek list n 0).bind fun o=>match o with| .ret r=>V r| .nxt _ =>V true
theorem qir {list:(List ByteArray)}(d:Ro w list cs1){r:Bool}(F:qgc n list=V r):RetV prog 189 [GoT.v (List ByteArray) cs1] w r:=by
 obtain⟨p1,A,rfl,s1⟩:=d;refine zV 31 func189 Z fun h=>X0 9 Z ?_;obtain⟨o1,F,a⟩:=qd F;refine qn (rL (fun m e w'=>∃(c:Int),qek list m c=V o1∧e=[(0,.slice p1 list.length A),(3,.int .i64 c)]∧SH w w' []) n ⟨_,F,rfl,h⟩ Z ?_);rintro z _ _ ⟨c,F,rfl,h⟩;rcases z with _|z
 ·cases F
 refine X0 8 Z (ql Z F ?_ ?_)<;>intro F
 ·refine X0 8 Z ?_;obtain⟨_,_,F,k,_,_,_,_,p,u,rfl,f⟩:=s1.ix F;refine zxe p u k Z (zc 0 (f.below h.below) Z (zcB h F qhq Z fun _ _ h F=>X0 2 Z (ql Z F ?_ ?_)))<;>intro F
  ·refine X0 4 Z ?_;obtain rfl:=qc F;replace F:=a;exact rb h F Z
  refine X0 5 Z ?_;obtain⟨o2,F,b⟩:=qd F;refine qn (rL (fun m e w'=>∃(y:Int),qep list c m y=V o2∧e=[(0,.slice p1 list.length A),(3,.int .i64 c),(4,.int .i64 y)]∧SH w w' []) z ⟨_,F,rfl,h⟩ Z ?_);rintro B _ _ ⟨y,F,rfl,h⟩;rcases B with _|B
  ·cases F
  refine X0 7 Z (ql Z F ?_ ?_)<;>intro F
  ·refine X0 4 Z (rD (zd2 Z ?_));obtain⟨_,_,F,l,_,_,_,_,s,v,rfl,g⟩:=s1.ix F;refine zdxe s v l Z (zdc 0 (g.below h.below) Z (zd2 Z ?_));obtain⟨_,_,F,o,_,_,_,_,t,x,rfl,i⟩:=s1.ix F;refine zdxe t x o Z (zdc 0 (i.below h.below) Z (zd1 Z (dN h fun _ h=>ql Z F ?_ ?_)))<;>intro F
   ·refine X0 4 Z ?_;obtain rfl:=qc F;replace F:=b;obtain rfl:=qc F;replace F:=a;exact rb h F Z
   exact X0 7 Z (rK ⟨_,F,rfl,h⟩ Z)
  refine qw Z ?_;obtain rfl:=qc F;replace F:=b;exact X0 6 Z (rK ⟨_,F,rfl,h⟩ Z)
 refine qw Z ?_;obtain rfl:=qc F;replace F:=a;exact X0 4 Z (rb h F Z)
def qew (c:(List Int))(d:(List Int)):Nat→Int→Option (Flow Bool Int)| 0,_=>U| n+1,a =>bif decide (a<(c.length:Int)) then(idx d a).bind fun b =>bif (b != 1) then V (.ret false) else qew c d n (W64 (a+1)) else V (.nxt a)
def qcu (a_1:qi):Nat→(List Int)→Int→Option ((List Int)×Int)| 0,_,_=>U| n+1,b,a =>bif decide (a<(a_1.Ah.length:Int)) then(idx a_1.Ah a).bind fun d =>bif (d.Bs==1) then(idx a_1.Ah a).bind fun c =>(idx b c.Bv).bind fun f =>(idx b c.Bv).bind fun _ =>qcu a_1 n (setS b c.Bv (W64 (f+1))) (W64 (a+1)) else qcu a_1 n b (W64 (a+1)) else V (b,a)
def qdu (a_1:qi):Nat→(List Int)→Int→Option ((List Int)×Int)| 0,_,_=>U| n+1,b,a =>bif decide (a<(a_1.Ab.length:Int)) then(idx a_1.Ab a).bind fun d =>(idx d.Aj (W64 ((d.Aj.length:Int)-1))).bind fun c =>(idx b c).bind fun f =>(idx b c).bind fun _ =>qdu a_1 n (setS b c (W64 (f+1))) (W64 (a+1)) else V (b,a)
def qdk (a_1:qi):Nat→(List ByteArray)→Int→Option ((List ByteArray)×Int)| 0,_,_=>U| n+1,b,a =>bif decide (a<(a_1.Ah.length:Int)) then(idx a_1.Ah a).bind fun d =>(appS b ([d.Ba]:List ByteArray)).bind fun c =>qdk a_1 n c (W64 (a+1)) else V (b,a)
def qdp (a_1:qi):Nat→(List ByteArray)→Int→Option ((List ByteArray)×Int)| 0,_,_=>U| n+1,b,a =>bif decide (a<(a_1.Ab.length:Int)) then(idx a_1.Ab a).bind fun d =>(appS b ([d.Ba]:List ByteArray)).bind fun c =>qdp a_1 n c (W64 (a+1)) else V (b,a)
def qiD (n:Nat)(a_0:qz)(a_1:qi):Option Bool :=((qhT n a_0).bind fun f =>bif (!f) then V true else bif decide ((a_1.Ab.length:Int) > 14) then V true else bif decide ((a_1.Aj.length:Int) > 30) then V true else bif decide ((a_1.Ah.length:Int) > 8) then V true else(qiE n a_0 a_1).bind fun g =>V (!g)).bind fun b1 =>bif b1 then V false else(qdp a_1 n ([]:List ByteArray) 0).bind fun o=>match o with| (h,_) =>(qdk a_1 n ([]:List ByteArray) 0).bind fun o=>match o with| (i,_) =>((qgc n h).bind fun r1 =>bif (!r1) then V true else(qgc n i).bind fun c =>bif (!c) then V true else(qgc n a_1.Aj).bind fun d =>V (!d)).bind fun b =>bif b then V false else(mkS (a_1.Aj.length:Int) (0:Int)).bind fun a =>(qdu a_1 n a 0).bind fun o=>match o with| (k,_) =>(qcu a_1 n k 0).bind fun o=>match o with| (l,_) =>(qew a l n 0).bind fun o=>match o with| .ret r=>V r| .nxt _ =>V true
theorem qnL {a_0:qz}{a_1:qi}(o:Ro w a_0 cs1)(M:Ro w a_1 cs2){r:Bool}(F:qiD n a_0 a_1=V r):RetV prog 120 [GoT.v qz cs1,GoT.v qi cs2] w r:=by
 obtain⟨_,_,rfl,_⟩:=qcG o;obtain⟨C,z,D,A,H,B,rfl,s2,s3,s4⟩:=qaT M;refine zV 153 func120 Z fun h=>zSR (qH h Z Z fun _ _ h=>qH h Z Z fun _ a h=>X0 4 Z ?_);obtain⟨KF2,L,_,F,d⟩:=bindE F;refine qaF (fun e w'=>∃(b1:Bool),KF2 b1=V r∧e=[(3,.pointer (V ⟨a,0,U⟩)),(40,.bool b1)]∧SH w w' [Ch.box a (qao a_1 C D H z A B) 31]) ?_ ?_
 ·refine X1 2 1 h Z (zcB h F (qm9 (h.old o)) Z fun _ _ h F=>zp2 Z (qg (t:=17) F Z ?_ ?_))<;>intro F
  ·refine X0 24 Z ?_;replace h:=h.pick [0] Z;obtain rfl:=qc F;exact rG ⟨_,d,rfl,h⟩ Z
  refine X1 10 0 h Z (qg (t:=23) F Z ?_ ?_)<;>intro F
  ·refine X0 18 Z ?_;replace h:=h.pick [0] Z;obtain rfl:=qc F;exact rG ⟨_,d,rfl,h⟩ Z
  refine X1 10 0 h Z (qg (t:=29) F Z ?_ ?_)<;>intro F
  ·refine X0 12 Z ?_;replace h:=h.pick [0] Z;obtain rfl:=qc F;exact rG ⟨_,d,rfl,h⟩ Z
  refine X1 10 0 h Z (qg (t:=35) F Z ?_ ?_)<;>intro F
  ·refine X0 6 Z ?_;replace h:=h.pick [0] Z;obtain rfl:=qc F;exact rG ⟨_,d,rfl,h⟩ Z
  refine X2 5 1 0 h Z (zcB h F (qnw (h.old o) (h.old M)) Z fun _ _ h F=>X0 4 Z ?_);replace h:=h.pick [0] Z;obtain rfl:=qc F;exact rG ⟨_,d,rfl,h⟩ Z
 rintro _ _ ⟨b1,F,rfl,h⟩;subst L;refine ql Z F ?_ ?_<;>intro F
 ·exact X0 4 Z (rb h F Z)
 refine zKSR (qp qa [] _ ([]:List ByteArray) h Z Z Z Z Z Z Z Z Z trivial Z fun _ _ _ h=>X0 7 Z ?_);obtain⟨o1,F,hK1⟩:=qd F;refine qn (rL (fun m e w'=>∃(S2:Nat→Prop) (p6:Option Addr) (v:Nat) (k5:Nat) (I:(List ByteArray)) (i1:Int),qdp a_1 m I i1=V o1∧e=[(3,.pointer (V ⟨a,0,U⟩)),(5,.slice p6 v k5),(6,.int .i64 i1)]∧SH w w' [Ch.own S2 (I:List ByteArray) [.slice p6 v k5],Ch.box a (qao a_1 C D H z A B) 31]) n ⟨_,_,_,_,_,_,F,rfl,h⟩ Z ?_);rintro m1 _ _ ⟨S2,p6,v,k5,I,i1,F,rfl,h⟩;obtain rfl:=(h.sl 0 Z).2;rcases m1 with _|m1
 ·cases F
 refine X1 9 1 h Z (ql Z F ?_ ?_)<;>intro F
 ·refine X1 8 1 h Z ?_;obtain⟨y1,_,F,he1,_,_,_,_,hp1,hq1,hr1,hc3⟩:=s2.ix F;obtain⟨_,_,rfl,_⟩:=qav hr1;refine zxe hp1 hq1 he1 Z (zp1 Z (zc 0 (hc3.below h.below) Z (qp qa [.tmp 55] _ ([y1.Ba]:List ByteArray) h Z Z Z Z Z Z Z Z Z ⟨rfl,trivial⟩ Z fun _ _ _ h=>?_)));obtain⟨_,p,F⟩:=qd F;obtain⟨g1,p⟩:=qE p;refine qat qa 1 h Z (h.sl 0 Z).1 (h.sl 0 Z).2 Z Z Z Z Z Z Z Z Z g1 p Z fun _ _ _ _ h=>X0 8 Z ?_;replace h:=h.pick [1,2] Z;exact rK ⟨_,_,_,_,_,_,F,rfl,h⟩ Z
 refine qw Z ?_;obtain rfl:=qc F;replace F:=hK1;refine zSR (qp qa [] _ ([]:List ByteArray) h Z Z Z Z Z Z Z Z Z trivial Z fun _ _ _ h=>X0 7 Z ?_);obtain⟨o2,F,hK2⟩:=qd F;refine qn (rL (fun m e w'=>∃(S6:Nat→Prop) (y:Option Addr) (x:Nat) (k8:Nat) (x3:(List ByteArray)) (i2:Int),qdk a_1 m x3 i2=V o2∧e=[(3,.pointer (V ⟨a,0,U⟩)),(5,.slice p6 I.length k5),(7,.slice y x k8),(8,.int .i64 i2)]∧SH w w' [Ch.own S6 (x3:List ByteArray) [.slice y x k8],Ch.own S2 (I:List ByteArray) [.slice p6 I.length k5],Ch.box a (qao a_1 C D H z A B) 31]) n ⟨_,_,_,_,_,_,F,rfl,h⟩ Z ?_);rintro m2 _ _ ⟨S6,y,x,k8,x3,i2,F,rfl,h⟩;obtain rfl:=(h.sl 0 Z).2;rcases m2 with _|m2
 ·cases F
 refine X1 9 2 h Z (ql Z F ?_ ?_)<;>intro F
 ·refine X1 8 2 h Z ?_;obtain⟨y2,_,F,he2,_,_,_,_,hp2,hq2,hr2,hc5⟩:=s4.ix F;obtain rfl:=qeA hr2;refine zxe hp2 hq2 he2 Z (zp1 Z (zc 0 (hc5.below h.below) Z (qp qa [.tmp 72] _ ([y2.Ba]:List ByteArray) h Z Z Z Z Z Z Z Z Z ⟨rfl,trivial⟩ Z fun _ _ _ h=>?_)));obtain⟨_,s,F⟩:=qd F;obtain⟨g2,s⟩:=qE s;refine qat qa 1 h Z (h.sl 0 Z).1 (h.sl 0 Z).2 Z Z Z Z Z Z Z Z Z g2 s Z fun _ _ _ _ h=>X0 8 Z ?_;replace h:=h.pick [1,2,3] Z;exact rK ⟨_,_,_,_,_,_,F,rfl,h⟩ Z
 refine qw Z ?_;obtain rfl:=qc F;replace F:=hK2;refine zSS ?_;obtain⟨KF1,K,_,F,l⟩:=bindE F;refine qaF (fun e w'=>∃(b4:Bool),KF1 b4=V r∧e=[(3,.pointer (V ⟨a,0,U⟩)),(88,.bool b4)]∧SH w w' [Ch.box a (qao a_1 C D H z A B) 31]) ?_ ?_
 ·refine X0 2 Z (zcB h F (qir (h.own 1 Z)) Z fun _ _ h F=>zp2 Z (qg (t:=78) F Z ?_ ?_))<;>intro F
  ·refine X0 11 Z ?_;replace h:=h.pick [2] Z;obtain rfl:=qc F;exact rG ⟨_,l,rfl,h⟩ Z
  refine X0 3 Z (zcB h F (qir (h.own 0 Z)) Z fun _ _ h F=>X0 4 Z (qg (t:=83) F Z ?_ ?_))<;>intro F
  ·refine X0 6 Z ?_;replace h:=h.pick [2] Z;obtain rfl:=qc F;exact rG ⟨_,l,rfl,h⟩ Z
  refine X1 5 2 h Z (zcB h F (qir ⟨_,_,rfl,(h.oldS s3)⟩) Z fun _ _ h F=>X0 4 Z ?_);replace h:=h.pick [2] Z;obtain rfl:=qc F;exact rG ⟨_,l,rfl,h⟩ Z
 rintro _ _ ⟨b4,F,rfl,h⟩;subst K;refine ql Z F ?_ ?_<;>intro F
 ·exact X0 4 Z (rb h F Z)
 refine X1 6 0 h Z ?_;obtain⟨c,u,F⟩:=qd F;obtain⟨g3,g4,u⟩:=qab u;refine qaq qa Int h Z Z Z Z Z Z Z Z Z g3 g4 u Z fun _ S9 b h=>X0 7 Z ?_;obtain⟨o3,F,hK3⟩:=qd F;refine qn (rL (fun m e w'=>∃(x6:(List Int)) (i3:Int),qdu a_1 m x6 i3=V o3∧e=[(3,.pointer (V ⟨a,0,U⟩)),(9,.slice b c.length c.length),(10,.int .i64 i3)]∧SH w w' [Ch.own S9 (x6:List Int) [.slice b c.length c.length],Ch.box a (qao a_1 C D H z A B) 31]) n ⟨_,_,F,rfl,h⟩ Z ?_);rintro m3 _ _ ⟨x6,i3,F,rfl,h⟩;rcases m3 with _|m3
 ·cases F
 refine X1 9 1 h Z (ql Z F ?_ ?_)<;>intro F
 ·refine X1 8 1 h Z ?_;obtain⟨_,_,F,he3,_,_,_,_,hp3,hq3,hr3,hc8⟩:=s2.ix F;obtain⟨_,_,rfl,s6⟩:=qav hr3;refine zxe hp3 hq3 he3 Z (zp1 Z (zc 2 (hc8.below h.below) Z (X0 8 Z ?_)));obtain⟨_,_,F,he4,_,_,_,_,hp4,hq4,rfl,hc9⟩:=s6.ix F;refine zxe hp4 hq4 he4 Z (zc 0 (hc9.below h.below) Z ?_);obtain⟨y5,_,F,W,_,_,_,_,hp5,hq5,rfl,N⟩:=(h.sl 0 Z).1.ix F;refine zx hp5 hq5 ⟨W.1,qC W.2.1 (h.sl 0 Z).2⟩ Z (zc 0 N Z (zp1 Z ?_));obtain⟨_,hy6,F,X,_,_,_,_,a4,a6,rfl,O⟩:=(h.sl 0 Z).1.ix F;exact zx a4 a6 ⟨X.1,qC X.2.1 (h.sl 0 Z).2⟩ Z (qaH qa 0 0 (W64 (y5+1)) h Z hy6 a4 a6 Z O Z Z Z Z Z Z Z fun _ h=>X0 7 Z (rK ⟨_,_,F,rfl,h⟩ Z))
 refine qw Z ?_;obtain rfl:=qc F;replace F:=hK3;refine X0 5 Z ?_;obtain⟨o4,F,hK4⟩:=qd F;refine qn (rL (fun m e w'=>∃(x7:(List Int)) (i4:Int),qcu a_1 m x7 i4=V o4∧e=[(3,.pointer (V ⟨a,0,U⟩)),(9,.slice b c.length c.length),(12,.int .i64 i4)]∧SH w w' [Ch.own S9 (x7:List Int) [.slice b c.length c.length],Ch.box a (qao a_1 C D H z A B) 31]) n ⟨_,_,F,rfl,h⟩ Z ?_);rintro m4 _ _ ⟨x7,i4,F,rfl,h⟩;rcases m4 with _|m4
 ·cases F
 refine X1 9 1 h Z (ql Z F ?_ ?_)<;>intro F
 ·refine X1 8 1 h Z ?_;obtain⟨_,_,F,he7,_,_,_,_,hp7,hq7,hr7,P⟩:=s4.ix F;obtain rfl:=qeA hr7;refine zxe hp7 hq7 he7 Z (zp1 Z (zc 1 (P.below h.below) Z (X0 2 Z (ql Z F ?_ ?_))))<;>intro F
  ·refine X1 5 1 h Z ?_;obtain⟨_,_,F,he8,_,_,_,_,hp8,hq8,hr8,Q⟩:=s4.ix F;obtain rfl:=qeA hr8;refine zxe hp8 hq8 he8 Z (zp1 Z (zc 2 (Q.below h.below) Z ?_));obtain⟨y9,_,F,Y,_,_,_,_,hp9,hq9,rfl,R⟩:=(h.sl 0 Z).1.ix F;refine zx hp9 hq9 ⟨Y.1,qC Y.2.1 (h.sl 0 Z).2⟩ Z (zc 0 R Z (zp1 Z ?_));obtain⟨_,a7,F,f,_,_,_,_,i,k,rfl,S⟩:=(h.sl 0 Z).1.ix F;exact zx i k ⟨f.1,qC f.2.1 (h.sl 0 Z).2⟩ Z (qaH qa 0 0 (W64 (y9+1)) h Z a7 i k Z S Z Z Z Z Z Z Z fun _ h=>X0 7 Z (rK ⟨_,_,F,rfl,h⟩ Z))
  exact X0 7 Z (rK ⟨_,_,F,rfl,h⟩ Z)
 refine qw Z ?_;obtain rfl:=qc F;replace F:=hK4;refine X0 5 Z ?_;obtain⟨o5,F,J⟩:=qd F;refine qn ?_;replace h:=h.pick [0] Z;refine rL (fun m e w'=>∃(i5:Int),qew c x7 m i5=V o5∧e=[(9,.slice b c.length c.length),(13,.int .i64 i5)]∧SH w w' [Ch.own S9 (x7:List Int) [.slice b c.length c.length]]) n ⟨_,F,rfl,h⟩ Z ?_;rintro m5 _ _ ⟨i5,F,rfl,h⟩;rcases m5 with _|m5
 ·cases F
 refine X0 8 Z (ql Z F ?_ ?_)<;>intro F
 ·refine X0 7 Z ?_;obtain⟨_,_,F,g,_,_,_,_,a3,a5,rfl,T⟩:=(h.sl 0 Z).1.ix F;refine zx a3 a5 ⟨g.1,qC g.2.1 (h.sl 0 Z).2⟩ Z (zc 0 T Z (X0 2 Z (ql Z F ?_ ?_)))<;>intro F
  ·refine X0 4 Z ?_;obtain rfl:=qc F;replace F:=J;exact rb h F Z
  exact X0 7 Z (rK ⟨_,F,rfl,h⟩ Z)
 refine qw Z ?_;obtain rfl:=qc F;replace F:=J;exact X0 4 Z (rb h F Z)
def qfG (a_0:qad):Nat→Int→Option (Flow Bool Int)| 0,_=>U| n+1,a =>bif decide (a<(a_0.Bb.length:Int)) then(idx a_0.Bb a).bind fun c =>(qaE n c 0 (W64 ((a_0.Ai.length:Int)-1))).bind fun b =>bif (!b) then V (.ret false) else qfG a_0 n (W64 (a+1)) else V (.nxt a)
def qcP (a_0:qad):Nat→Int→Option (Flow Bool Int)| 0,_=>U| n+1,a =>bif decide (a<(a_0.Ai.length:Int)) then((idx a_0.Bl a).bind fun k =>(qaE n k 0 500).bind fun c =>bif (!c) then V true else(idx a_0.Bq a).bind fun l =>(qaE n l 0 1000).bind fun d =>V (!d)).bind fun b2 =>bif b2 then V (.ret false) else bif (a==0) then(idx a_0.Ai a).bind fun f =>bif (f != (-1)) then V (.ret false) else(idx a_0.Bq a).bind fun g =>bif (g != 0) then V (.ret false) else bif decide (a > 0) then(idx a_0.Ai a).bind fun h =>(qaE n h 0 (W64 (a-1))).bind fun r1 =>bif (!r1) then V (.ret false) else qcP a_0 n (W64 (a+1)) else qcP a_0 n (W64 (a+1)) else bif decide (a > 0) then(idx a_0.Ai a).bind fun i =>(qaE n i 0 (W64 (a-1))).bind fun b =>bif (!b) then V (.ret false) else qcP a_0 n (W64 (a+1)) else qcP a_0 n (W64 (a+1)) else V (.nxt a)
def qjY (n:Nat)(a_0:qad)(a_1:Int):Option Bool :=(bif decide ((a_0.Ai.length:Int)<1) then V true else bif decide ((a_0.Ai.length:Int) > 8) then V true else bif ((a_0.Bq.length:Int) != (a_0.Ai.length:Int)) then V true else bif ((a_0.Bl.length:Int) != (a_0.Ai.length:Int)) then V true else V ((a_0.Bb.length:Int) != a_1)).bind fun b1 =>bif b1 then V false else(qcP a_0 n 0).bind fun o=>match o with| .ret r=>V r| .nxt _ =>(qfG a_0 n 0).bind fun o=>match o with| .ret r=>V r| .nxt _ =>V true
theorem qo4 {a_0:qad}{a_1:Int}(D:Ro w a_0 cs1){r:Bool}(F:qjY n a_0 a_1=V r):RetV prog 121 [GoT.v qad cs1,.int .i64 a_1] w r:=by
 obtain⟨p1,s,y,u,z,v,A,x,rfl,s1,s2,s3,s4⟩:=qbH D;refine zV 108 func121 Z fun h=>zSR (qH h Z Z fun _ a h=>X1 11 0 h Z ?_);obtain⟨C,i,_,F,c⟩:=bindE F;refine qaF (fun e w'=>∃(b1:Bool),C b1=V r∧e=[(2,.pointer (V ⟨a,0,U⟩)),(5,.int .i64 (a_0.Ai.length:Int)),(37,.bool b1)]∧SH w w' [Ch.box a (qfS a_0 p1 y z A s u v x) 196]) ?_ ?_
 ·refine X0 4 Z (qg (t:=13) F Z ?_ ?_)<;>intro F
  ·refine X0 25 Z ?_;obtain rfl:=qc F;exact rG ⟨_,c,rfl,h⟩ Z
  refine X0 6 Z (qg (t:=17) F Z ?_ ?_)<;>intro F
  ·refine X0 21 Z ?_;obtain rfl:=qc F;exact rG ⟨_,c,rfl,h⟩ Z
  refine X1 12 0 h Z (qg (t:=24) F Z ?_ ?_)<;>intro F
  ·refine X0 14 Z ?_;obtain rfl:=qc F;exact rG ⟨_,c,rfl,h⟩ Z
  refine X1 12 0 h Z (qg (t:=31) F Z ?_ ?_)<;>intro F
  ·refine X0 7 Z ?_;obtain rfl:=qc F;exact rG ⟨_,c,rfl,h⟩ Z
  refine X1 12 0 h Z ?_;obtain rfl:=qc F;exact rG ⟨_,c,rfl,h⟩ Z
 rintro _ _ ⟨b1,F,rfl,h⟩;subst i;refine ql Z F ?_ ?_<;>intro F
 ·exact X0 4 Z (rb h F Z)
 refine X0 6 Z ?_;obtain⟨o1,F,b⟩:=qd F;refine qn (rL (fun m e w'=>∃(p:Int),qcP a_0 m p=V o1∧e=[(2,.pointer (V ⟨a,0,U⟩)),(5,.int .i64 (a_0.Ai.length:Int)),(6,.int .i64 p)]∧SH w w' [Ch.box a (qfS a_0 p1 y z A s u v x) 196]) n ⟨_,F,rfl,h⟩ Z ?_);rintro m1 _ _ ⟨p,F,rfl,h⟩;rcases m1 with _|m1
 ·cases F
 refine X0 7 Z (ql Z F ?_ ?_)<;>intro F
 ·refine X0 5 Z ?_;obtain⟨B,g,_,F,d⟩:=bindE F;refine qaF (fun e w'=>∃(b2:Bool),B b2=V o1∧e=[(2,.pointer (V ⟨a,0,U⟩)),(5,.int .i64 (a_0.Ai.length:Int)),(6,.int .i64 p),(58,.bool b2)]∧SH w w' [Ch.box a (qfS a_0 p1 y z A s u v x) 196]) ?_ ?_
  ·refine X1 4 0 h Z ?_;obtain⟨_,_,F,P,_,_,_,_,Y,a9,rfl,k⟩:=s3.ix F;refine zxe Y a9 P Z (zc 0 (k.below h.below) Z (zcB h F qaf Z fun _ _ h F=>zp2 Z (qg (t:=50) F Z ?_ ?_)))<;>intro F
   ·refine X0 9 Z ?_;obtain rfl:=qc F;exact rG ⟨_,d,rfl,h⟩ Z
   refine X1 7 0 h Z ?_;obtain⟨_,_,F,Q,_,_,_,_,a3,b4,rfl,l⟩:=s2.ix F;refine zxe a3 b4 Q Z (X0 1 Z (zc 0 (l.below h.below) Z (X0 1 Z (zcB h F qaf Z fun _ _ h F=>X0 4 Z ?_))));obtain rfl:=qc F;exact rG ⟨_,d,rfl,h⟩ Z
  rintro _ _ ⟨b2,F,rfl,h⟩;subst g;refine ql Z F ?_ ?_<;>intro F
  ·refine X0 4 Z ?_;obtain rfl:=qc F;replace F:=b;exact rb h F Z
  refine X0 6 Z (qg (t:=61) F Z ?_ ?_)<;>intro F
  ·refine X1 7 0 h Z ?_;obtain⟨_,_,F,L,_,_,_,_,S,a5,rfl,H⟩:=s1.ix F;refine zxe S a5 L Z (X0 1 Z (zc 0 (H.below h.below) Z (X0 4 Z (qg (t:=68) F Z ?_ ?_))))<;>intro F
   ·refine X0 25 Z (qbX Z Z (X0 4 Z ?_));obtain rfl:=qc F;replace F:=b;exact rb h F Z
   refine X1 7 0 h Z ?_;obtain⟨_,_,F,M,_,_,_,_,T,a6,rfl,I⟩:=s2.ix F;refine zxe T a6 M Z (X0 1 Z (zc 0 (I.below h.below) Z (X0 6 Z (qg (t:=77) F Z ?_ ?_))))<;>intro F
   ·refine X0 15 Z (qbX Z Z (X0 4 Z ?_));obtain rfl:=qc F;replace F:=b;exact rb h F Z
   refine X0 6 Z (qg (t:=80) F Z ?_ ?_)<;>intro F
   ·refine X1 7 0 h Z ?_;obtain⟨_,_,F,N,_,_,_,_,W,a7,rfl,J⟩:=s1.ix F;refine zxe W a7 N Z (X0 1 Z (zc 0 (J.below h.below) Z (X0 5 Z (zcB h F qaf Z fun _ _ h F=>X0 6 Z (ql Z F ?_ ?_)))))<;>intro F
    ·refine X0 4 Z ?_;obtain rfl:=qc F;replace F:=b;exact rb h F Z
    exact X0 7 Z (rK ⟨_,F,rfl,h⟩ Z)
   exact X0 13 Z (qbE Z Z (X0 7 Z (rK ⟨_,F,rfl,h⟩ Z)))
  refine X0 22 Z (qg (t:=80) F Z ?_ ?_)<;>intro F
  ·refine X1 7 0 h Z ?_;obtain⟨_,_,F,O,_,_,_,_,X,a8,rfl,K⟩:=s1.ix F;refine zxe X a8 O Z (X0 1 Z (zc 0 (K.below h.below) Z (X0 5 Z (zcB h F qaf Z fun _ _ h F=>X0 6 Z (ql Z F ?_ ?_)))))<;>intro F
   ·refine X0 4 Z ?_;obtain rfl:=qc F;replace F:=b;exact rb h F Z
   exact X0 7 Z (rK ⟨_,F,rfl,h⟩ Z)
  exact X0 13 Z (qbE Z Z (X0 7 Z (rK ⟨_,F,rfl,h⟩ Z)))
 refine qw Z ?_;obtain rfl:=qc F;replace F:=b;refine X0 5 Z ?_;obtain⟨o3,F,f⟩:=qd F;refine qn (rL (fun m e w'=>∃(i2:Int),qfG a_0 m i2=V o3∧e=[(2,.pointer (V ⟨a,0,U⟩)),(5,.int .i64 (a_0.Ai.length:Int)),(7,.int .i64 i2)]∧SH w w' [Ch.box a (qfS a_0 p1 y z A s u v x) 196]) n ⟨_,F,rfl,h⟩ Z ?_);rintro m2 _ _ ⟨i2,F,rfl,h⟩;rcases m2 with _|m2
 ·cases F
 refine X1 9 0 h Z (ql Z F ?_ ?_)<;>intro F
 ·refine X1 8 0 h Z ?_;obtain⟨_,_,F,R,_,_,_,_,a4,b5,rfl,o⟩:=s4.ix F;refine zxe a4 b5 R Z (zc 0 (o.below h.below) Z (zp2 Z (zcB h F qaf Z fun _ _ h F=>X0 2 Z (ql Z F ?_ ?_))))<;>intro F
  ·refine X0 4 Z ?_;obtain rfl:=qc F;replace F:=f;exact rb h F Z
  exact X0 7 Z (rK ⟨_,F,rfl,h⟩ Z)
 refine qw Z ?_;obtain rfl:=qc F;replace F:=f;exact X0 4 Z (rb h F Z)
def qcN (c:Int)(b:qF):Nat→(List Tl05Place)→Int→Option ((List Tl05Place)×Int)| 0,_,_=>U| n+1,d,a =>bif decide (a<(b.Aj.length:Int)) then(idx b.Aj a).bind fun g =>(appS d ([(⟨c,a,g,(a==(W64 ((b.Aj.length:Int)-1)))⟩:Tl05Place)]:List Tl05Place)).bind fun f =>qcN c b n f (W64 (a+1)) else V (d,a)
def qcM (a_0:qi):Nat→(List Tl05Place)→Int→Option ((List Tl05Place)×Int)| 0,_,_=>U| n+1,b,a =>bif decide (a<(a_0.Ah.length:Int)) then(idx a_0.Ah a).bind fun d =>(idx a_0.Ah a).bind fun f =>(appS b ([(⟨(-1),a,d.Bv,(f.Bs==1)⟩:Tl05Place)]:List Tl05Place)).bind fun c =>qcM a_0 n c (W64 (a+1)) else V (b,a)
def qcI (a_0:qi):Nat→(List Tl05Place)→Int→Option ((List Tl05Place)×Int)| 0,_,_=>U| n+1,b,a =>bif decide (a<(a_0.Ab.length:Int)) then(idx a_0.Ab a).bind fun d =>(qcN a d n b 0).bind fun o=>match o with| (c,_) =>qcI a_0 n c (W64 (a+1)) else V (b,a)
def qb1 (n:Nat)(a_0:qi):Option (List Tl05Place) :=(qcI a_0 n ([]:List Tl05Place) 0).bind fun o=>match o with| (a,_) =>(qcM a_0 n a 0).bind fun o=>match o with| (b,_) =>V b
theorem qbV {a_0:qi}(v:Ro w a_0 cs1){r:(List Tl05Place)}(F:qb1 n a_0=V r):RetV prog 150 [GoT.v qi cs1] w r:=by
 obtain⟨p1,T,p2,W,p3,X,rfl,s1,_,s3⟩:=qaT v;refine zV 69 func150 Z fun h=>zSR (qH h Z Z fun _ a h=>X0 4 Z (qp qa [] _ ([]:List Tl05Place) h Z Z Z Z Z Z Z Z Z trivial Z fun _ _ _ h=>X0 7 Z ?_));obtain⟨o1,F,s⟩:=qd F;refine qn (rL (fun m e w'=>∃(S2:Nat→Prop) (p5:Option Addr) (g:Nat) (Y:Nat) (x1:(List Tl05Place)) (d:Int),qcI a_0 m x1 d=V o1∧e=[(1,.pointer (V ⟨a,0,U⟩)),(3,.slice p5 g Y),(4,.int .i64 d)]∧SH w w' [Ch.own S2 (x1:List Tl05Place) [.slice p5 g Y],Ch.box a (qao a_0 p1 p2 p3 T W X) 31]) n ⟨_,_,_,_,_,_,F,rfl,h⟩ Z ?_);rintro m1 _ _ ⟨S2,p5,g,Y,x1,d,F,rfl,h⟩;obtain rfl:=(h.sl 0 Z).2;rcases m1 with _|m1
 ·cases F
 refine X1 9 1 h Z (ql Z F ?_ ?_)<;>intro F
 ·refine X1 8 1 h Z ?_;obtain⟨p,_,F,B,_,_,_,_,I,M,Q,x⟩:=s1.ix F;obtain⟨p6,k5,rfl,s4⟩:=qav Q;refine zxe I M B Z (zp1 Z (zc 2 (x.below h.below) Z (X0 6 Z ?_)));obtain⟨o2,F,t⟩:=qd F;refine qn (rL (fun m e w'=>∃(S3:Nat→Prop) (p7:Option Addr) (i:Nat) (k6:Nat) (x2:(List Tl05Place)) (f:Int),qcN d p m x2 f=V o2∧e=[(1,.pointer (V ⟨a,0,U⟩)),(3,.slice p7 i k6),(4,.int .i64 d),(5,.slice p6 p.Aj.length k5),(6,.int .i64 f)]∧SH w w' [Ch.own S3 (x2:List Tl05Place) [.slice p7 i k6],Ch.box a (qao a_0 p1 p2 p3 T W X) 31]) m1 ⟨_,_,_,_,_,_,F,rfl,h⟩ Z ?_);rintro m2 _ _ ⟨S3,p7,i,k6,x2,f,F,rfl,h⟩;obtain rfl:=(h.sl 0 Z).2;rcases m2 with _|m2
  ·cases F
  refine X0 8 Z (ql Z F ?_ ?_)<;>intro F
  ·refine X0 9 Z ?_;obtain⟨y2,_,F,C,_,_,_,_,J,N,rfl,y⟩:=s4.ix F;refine zxe J N C Z (zc 0 (y.below h.below) Z (zp5 Z (r_v (qq qa [0,1,2,3] [.tmp 29,.tmp 30,.tmp 34,.tmp 39] Z Z Z Z Z Z Z Z) Z (qp qa [.tmp 40] _ ([(⟨d,f,y2,(f==(W64 ((p.Aj.length:Int)-1)))⟩:Tl05Place)]:List Tl05Place) h Z Z Z Z Z Z Z Z Z ⟨(qfp (⟨d,f,y2,(f==(W64 ((p.Aj.length:Int)-1)))⟩:Tl05Place)),trivial⟩ Z fun _ _ _ h=>?_))));obtain⟨_,b,F⟩:=qd F;obtain⟨g1,b⟩:=qE b;refine qat qa 1 h Z (h.sl 0 Z).1 (h.sl 0 Z).2 Z Z Z Z Z Z Z Z Z g1 b Z fun _ _ _ _ h=>X0 8 Z ?_;replace h:=h.pick [1,2] Z;exact rK ⟨_,_,_,_,_,_,F,rfl,h⟩ Z
  refine qw Z ?_;obtain rfl:=qc F;replace F:=t;exact X0 6 Z (rK ⟨_,_,_,_,_,_,F,rfl,h⟩ Z)
 refine qw Z ?_;obtain rfl:=qc F;replace F:=s;refine X0 5 Z ?_;obtain⟨o3,F,u⟩:=qd F;refine qn (rL (fun m e w'=>∃(S6:Nat→Prop) (l:Option Addr) (k:Nat) (k8:Nat) (x4:(List Tl05Place)) (o:Int),qcM a_0 m x4 o=V o3∧e=[(1,.pointer (V ⟨a,0,U⟩)),(3,.slice l k k8),(7,.int .i64 o)]∧SH w w' [Ch.own S6 (x4:List Tl05Place) [.slice l k k8],Ch.box a (qao a_0 p1 p2 p3 T W X) 31]) n ⟨_,_,_,_,_,_,F,rfl,h⟩ Z ?_);rintro m3 _ _ ⟨S6,l,k,k8,x4,o,F,rfl,h⟩;obtain rfl:=(h.sl 0 Z).2;rcases m3 with _|m3
 ·cases F
 refine X1 9 1 h Z (ql Z F ?_ ?_)<;>intro F
 ·refine zKSB (rA [] [1] h Z fun _ h=>M1 31 [0,1,2,3,4] 0 (h.pick [1] Z) Z ?_);obtain⟨y3,_,F,D,_,_,_,_,K,O,R,z⟩:=s3.ix F;obtain rfl:=qeA R;refine Ae 5 63 K O D (h.pick [1] Z) Z (M0 127 [6] (h.pick [1] Z) Z (Al 7 255 2 z (h.pick [1] Z) Z (M1 2047 [8,9,10] 0 (h.pick [1] Z) Z ?_)));obtain⟨y4,_,F,H,_,_,_,_,L,P,S,A⟩:=s3.ix F;obtain rfl:=qeA S;refine Ae 11 4095 L P H (h.pick [1] Z) Z (M0 8191 [12] (h.pick [1] Z) Z (Al 13 16383 1 A (h.pick [1] Z) Z (M0 32767 [14] (h.pick [1] Z) Z (Aw 15 65535 (fun w' hw=>qq qa [0,1,2,3] [.const (.int .i64 (-1)),.tmp 51,.tmp 57,.tmp 64] Z Z Z Z Z Z Z Z) (h.pick [1] Z) Z ?_))));refine Ao 16 131071 Z (qp qa [.tmp 65] _ ([(⟨(-1),o,y3.Bv,(y4.Bs==1)⟩:Tl05Place)]:List Tl05Place) h Z Z Z Z Z Z Z Z Z ⟨(qfp (⟨(-1),o,y3.Bv,(y4.Bs==1)⟩:Tl05Place)),trivial⟩ Z fun _ _ _ h=>Ag (h.pick [2] Z) (Ao 17 262143 Z ?_));obtain⟨_,c,F⟩:=qd F;obtain⟨g2,c⟩:=qE c;refine qat qa 1 h Z (h.sl 0 Z).1 (h.sl 0 Z).2 Z Z Z Z Z Z Z Z Z g2 c Z fun _ _ _ _ h=>G0 524287 [18] (h.pick [2] Z) Z (Ad (X0 6 Z ?_));replace h:=h.pick [1,2] Z;exact rK ⟨_,_,_,_,_,_,F,rfl,h⟩ Z
 refine qw Z ?_;obtain rfl:=qc F;replace F:=u;refine X0 5 Z ?_;obtain rfl:=qc F;exact rO 0 h Z ⟨rfl,trivial⟩
def qcv (net:Int)(r1:(List Tl05Place)):Nat→(List Int)→Int→Option ((List Int)×Int)| 0,_,_=>U| n+1,b,a =>bif decide (a<(r1.length:Int)) then((idx r1 a).bind fun d =>bif (d.net==net) then(idx r1 a).bind fun f =>V (!f.drives) else V false).bind fun b1 =>bif b1 then(appS b ([a]:List Int)).bind fun c =>qcv net r1 n c (W64 (a+1)) else qcv net r1 n b (W64 (a+1)) else V (b,a)
def qfq (n:Nat)(d:qi)(net:Int):Option (List Int) :=(qb1 n d).bind fun r1 =>(qcv net r1 n ([]:List Int) 0).bind fun o=>match o with| (a,_) =>V a
theorem qgZ {d:qi}{net:Int}(i:Ro w d cs1){r:(List Int)}(F:qfq n d net=V r):RetV prog 122 [GoT.v qi cs1,.int .i64 net] w r:=by
 obtain⟨_,_,_,_,_,_,rfl,_,_,_⟩:=qaT i;refine zV 37 func122 Z fun h=>zSR (qH h Z Z fun _ _ h=>X0 4 Z (qp qa [] _ ([]:List Int) h Z Z Z Z Z Z Z Z Z trivial Z fun _ _ _ h=>X1 5 1 h Z (zcL h F (qbV (h.old i)) Z fun r1 _ S2 v u h F=>X0 7 Z ?_)));obtain⟨o1,F,z⟩:=qd F;refine qn ?_;replace h:=h.pick [0,1] Z;refine rL (fun m e w'=>∃(y:Nat→Prop) (s:Option Addr) (b:Nat) (p:Nat) (c:(List Int)) (o:Int),qcv net r1 m c o=V o1∧e=[(1,.int .i64 net),(5,.slice s b p),(6,.slice v r1.length u),(7,.int .i64 o)]∧SH w w' [Ch.own S2 (r1:List Tl05Place) [.slice v r1.length u],Ch.own y (c:List Int) [.slice s b p]]) n ⟨_,_,_,_,_,_,F,rfl,h⟩ Z ?_;rintro L _ _ ⟨y,s,b,p,c,o,F,rfl,h⟩;obtain rfl:=(h.sl 1 Z).2;rcases L with _|L
 ·cases F
 refine X0 8 Z (ql Z F ?_ ?_)<;>intro F
 ·refine X0 4 Z ?_;obtain⟨x,g,_,F,f⟩:=bindE F;refine qaF (fun e w'=>∃(b1:Bool),x b1=V o1∧e=[(1,.int .i64 net),(5,.slice s c.length p),(6,.slice v r1.length u),(7,.int .i64 o),(31,.bool b1)]∧SH w w' [Ch.own S2 (r1:List Tl05Place) [.slice v r1.length u],Ch.own y (c:List Int) [.slice s c.length p]]) ?_ ?_
  ·refine X0 3 Z ?_;obtain⟨_,_,F,k,_,_,_,_,C,H,J,A⟩:=(h.sl 0 Z).1.ix F;obtain rfl:=qbs J;refine zx C H ⟨k.1,qC k.2.1 (h.sl 0 Z).2⟩ Z (zp1 Z (zc 2 A Z (zp3 Z (qg (t:=24) F Z ?_ ?_))))<;>intro F
   ·refine X0 5 Z ?_;obtain⟨_,_,F,l,_,_,_,_,D,I,K,B⟩:=(h.sl 0 Z).1.ix F;obtain rfl:=qbs K;refine zx D I ⟨l.1,qC l.2.1 (h.sl 0 Z).2⟩ Z (X0 3 Z (zc 3 B Z (X0 4 Z ?_)));obtain rfl:=qc F;exact rG ⟨_,f,rfl,h⟩ Z
   refine X0 8 Z ?_;obtain rfl:=qc F;exact rG ⟨_,f,rfl,h⟩ Z
  rintro _ _ ⟨b1,F,rfl,h⟩;subst g;refine ql Z F ?_ ?_<;>intro F
  ·refine X0 3 Z (qp qa [.tmp 33] _ ([o]:List Int) h Z Z Z Z Z Z Z Z Z ⟨rfl,trivial⟩ Z fun _ _ _ h=>?_);obtain⟨_,a,F⟩:=qd F;obtain⟨M,a⟩:=qE a;refine qat qa 2 h Z (h.sl 0 Z).1 (h.sl 0 Z).2 Z Z Z Z Z Z Z Z Z M a Z fun _ _ _ _ h=>X0 8 Z ?_;replace h:=h.pick [1,2] Z;exact rK ⟨_,_,_,_,_,_,F,rfl,h⟩ Z
  exact X0 7 Z (rK ⟨_,_,_,_,_,_,F,rfl,h⟩ Z)
 refine qw Z ?_;obtain rfl:=qc F;replace F:=z;refine X0 5 Z ?_;obtain rfl:=qc F;exact rO 1 h Z ⟨rfl,trivial⟩
def qeY (b:qe):Nat→Int→Option (Flow Bool Int)| 0,_=>U| n+1,a =>bif decide (a<(b.Ac.length:Int)) then(idx b.Ac a).bind fun d =>(qfq n (⟨b.Aa.Ab,b.Aa.Aj,b.Aa.Ah⟩:qi) a).bind fun r1 =>(qjY n d (r1.length:Int)).bind fun c =>bif (!c) then V (.ret false) else qeY b n (W64 (a+1)) else V (.nxt a)
def qcH (n:Nat)(b:qe):Option Bool :=((qiD n (⟨b.Am.Ap⟩:qz) (⟨b.Aa.Ab,b.Aa.Aj,b.Aa.Ah⟩:qi)).bind fun a =>bif (!a) then V true else V ((b.Ac.length:Int) != (b.Aa.Aj.length:Int))).bind fun b1 =>bif b1 then V false else(qeY b n 0).bind fun o=>match o with| .ret r=>V r| .nxt _ =>V true
theorem qeO {b:qe}(i:Ro w b cs1){r:Bool}(F:qcH n b=V r):RetV prog 51 [GoT.v qe cs1] w r:=by
 obtain⟨p1,v,C,x,D,y,H,z,I,A,rfl,s1,s2,J,K,L⟩:=qL i;refine zV 39 func51 Z fun h=>zSR (qH h Z Z fun _ a h=>X0 4 Z ?_);obtain⟨g,f,_,F,d⟩:=bindE F;refine qaF (fun e w'=>∃(b1:Bool),g b1=V r∧e=[(1,.pointer (V ⟨a,0,U⟩)),(19,.bool b1)]∧SH w w' [Ch.box a (qx b p1 C D H I v x y z A) 34]) ?_ ?_
 ·refine X2 5 0 0 h Z (zcB h F (qnL (qi9 _ (h.oldS s1)) (qaU _ (h.oldS s2) (h.oldS J) (h.oldS K))) Z fun _ _ h F=>zp2 Z (qg (t:=10) F Z ?_ ?_))<;>intro F
  ·refine X0 10 Z ?_;obtain rfl:=qc F;exact rG ⟨_,d,rfl,h⟩ Z
  refine X2 18 0 0 h Z ?_;obtain rfl:=qc F;exact rG ⟨_,d,rfl,h⟩ Z
 rintro _ _ ⟨b1,F,rfl,h⟩;subst f;refine ql Z F ?_ ?_<;>intro F
 ·exact X0 4 Z (rb h F Z)
 refine X0 6 Z ?_;obtain⟨o1,F,c⟩:=qd F;refine qn (rL (fun m e w'=>∃(u:Int),qeY b m u=V o1∧e=[(1,.pointer (V ⟨a,0,U⟩)),(3,.int .i64 u)]∧SH w w' [Ch.box a (qx b p1 C D H I v x y z A) 34]) n ⟨_,F,rfl,h⟩ Z ?_);rintro B _ _ ⟨u,F,rfl,h⟩;rcases B with _|B
 ·cases F
 refine X1 9 0 h Z (ql Z F ?_ ?_)<;>intro F
 ·refine X0 4 Z (rA [] [0] h Z fun _ h=>M1 7 [0,1,2] 0 (h.pick [0] Z) Z ?_);obtain⟨Q,_,F,l,_,_,_,_,o,p,s,k⟩:=L.ix F;obtain⟨_,_,_,_,_,_,_,_,rfl,M,N,O,P⟩:=qbH s;refine Ae 3 15 o p l (h.pick [0] Z) Z (Al 4 31 0 k (h.pick [0] Z) Z (M1 255 [5,6,7] 0 (h.pick [0] Z) Z (Ao 8 511 Z (zcL h F (qgZ (qaU _ (h.oldS s2) (h.oldS J) (h.oldS K))) Z fun _ _ _ _ _ h F=>G0 1023 [9] (h.pick [1] Z) Z (Ao 10 2047 Z (zcB h F (qo4 (qpu Q (h.oldS M) (h.oldS N) (h.oldS O) (h.oldS P))) Z fun _ _ h F=>G0 4095 [11] (h.pick [1] Z) Z (Ad (ql Z F ?_ ?_))))))))<;>intro F
  ·refine X0 4 Z ?_;obtain rfl:=qc F;replace F:=c;exact rb h F Z
  refine X0 7 Z ?_;replace h:=h.pick [1] Z;exact rK ⟨_,F,rfl,h⟩ Z
 refine qw Z ?_;obtain rfl:=qc F;replace F:=c;exact X0 4 Z (rb h F Z)
def qaW (_:Nat)(x:Int)(b:Int)(a:Int):Option Bool :=bif decide (x ≥ b) then V (decide (x≤a)) else V false
theorem qaL {x:Int}{b:Int}{a:Int}  {r:Bool}(F:qaW n x b a=V r):RetV prog 58 [.int .i64 x,.int .i64 b,.int .i64 a] w r:=by
 refine zV 15 func58 Z fun h=>X0 10 Z (qg (t:=10) F Z ?_ ?_)<;>intro F
 ·exact X0 9 Z (rb h F Z)
 exact X0 6 Z (rb h F Z)
def qh0 (_:Nat)(s cutset:ByteArray):Option ByteArray :=if s.size≤9223372036854775807∧cutset.size<4294967281∧cutset.data.toList.all (fun b=>decide (b.toNat<128))=true then V ⟨(Lib.trimS s.data.toList cutset.data.toList).toArray⟩ else U
theorem qon {s cutset:ByteArray}{r:ByteArray}(F:qh0 n s cutset=V r):RetV prog 197 [.string s,.string cutset] w r:=by
 unfold qh0 at F;split at F
 ·rename_i hh
  obtain rfl:=qc F;refine(Tryz.strings_Trim_any s cutset w hh.1 hh.2.1 hh.2.2).mono ?_;rintro e w' ⟨rfl,a⟩;exact⟨_,rfl,a,[.string _],rfl,qqr _ _⟩
 cases F
def qgk (_:Nat)(s:ByteArray)(c:(IntK .u8)):Option Int :=V (Lib.indexByte s.data.toList c.val.toNat.toUInt8)
theorem qlF {s:ByteArray}{c:(IntK .u8)}{r:Int}(F:qgk n s c=V r):RetV prog 198 [.string s,.int .u8 c.val] w r:=by
 obtain rfl:=qc F;refine(Tryz.strings_IndexByte s c.val w).mono ?_;rintro e w' ⟨rfl,rfl⟩;exact⟨_,rfl,Below.refl _ _,[.int .i64 _],rfl,qs5 _ _⟩
def qhF (n:Nat)(s:ByteArray):Option Bool :=(qaW n (s.size:Int) 1 8).bind fun r1 =>bif r1 then(qh0 n s (⟨#[97,98,99,100,101,102,103,104,105,106,107,108,109,110,111,112,113,114,115,116,117,118,119,120,121,122,48,49,50,51,52,53,54,55,56,57]⟩:ByteArray)).bind fun a =>bif (a.toList==(⟨#[]⟩:ByteArray).toList) then(atS s 0).bind fun c =>(qgk n (⟨#[97,98,99,100,101,102,103,104,105,106,107,108,109,110,111,112,113,114,115,116,117,118,119,120,121,122]⟩:ByteArray) (⟨c⟩:IntK .u8)).bind fun b =>V (decide (b ≥ 0)) else V false else V false
theorem qjA {s:ByteArray}  {r:Bool}(F:qhF n s=V r):RetV prog 126 [.string s] w r:=by
 refine zV 17 func126 Z fun h=>X0 8 Z (zcB h F qaL Z fun _ _ h F=>zp1 Z (qg (t:=6) F Z ?_ ?_))<;>intro F
 ·refine X0 3 Z (zcS h F qon Z fun _ _ h F=>X0 4 Z (qg (t:=11) F Z ?_ ?_))<;>intro F
  ·refine X0 3 Z ?_;obtain⟨_,a,F⟩:=qd F;have b:=qlC a;exact r_v (ql5 qa b Z Z Z Z) Z (X0 1 Z (zcI h F qlF Z fun _ _ h F=>X0 5 Z (rb h F Z)))
  exact X0 7 Z (rb h F Z)
 exact X0 12 Z (rb h F Z)
def qcz (_:Nat)(list:(List qap)):Option Int :=V (list.length:Int)
theorem qhI {list:(List qap)}(a:Ro w list cs1){r:Int}(F:qcz n list=V r):RetV prog 206 [GoT.v (List qap) cs1] w r:=by
 obtain⟨_,_,rfl,_⟩:=a;exact zV 5 func206 Z fun h=>X0 10 Z (ri h F Z)
def qb4 (s:(List ByteArray))(v:ByteArray):Nat→Int→Option (Flow Int Int)| 0,_=>U| n+1,a =>bif decide (a<(s.length:Int)) then(idx s a).bind fun b =>bif (v.toList==b.toList) then V (.ret a) else qb4 s v n (W64 (a+1)) else V (.nxt a)
def qfv (n:Nat)(s:(List ByteArray))(v:ByteArray):Option Int :=(qb4 s v n 0).bind fun o=>match o with| .ret r=>V r| .nxt _ =>V (-1)
theorem qk3 {s:(List ByteArray)}{v:ByteArray}(b:Ro w s cs1){r:Int}(F:qfv n s v=V r):RetV prog 288 [GoT.v (List ByteArray) cs1,.string v] w r:=by
 obtain⟨p1,l,rfl,s1⟩:=b;refine zV 19 func288 Z fun h=>X0 11 Z ?_;obtain⟨o1,F,a⟩:=qd F;refine qn (rL (fun m e w'=>∃(i:Int),qb4 s v m i=V o1∧e=[(0,.slice p1 s.length l),(1,.string v),(7,.int .i64 (s.length:Int)),(8,.int .i64 i)]∧SH w w' []) n ⟨_,F,rfl,h⟩ Z ?_);rintro k _ _ ⟨i,F,rfl,h⟩;rcases k with _|k
 ·cases F
 refine X0 5 Z (ql Z F ?_ ?_)<;>intro F
 ·refine X0 13 Z ?_;obtain⟨_,_,F,d,_,_,_,_,f,g,rfl,c⟩:=s1.ix F;refine zxe f g d Z (zc 0 (c.below h.below) Z (X0 2 Z (ql Z F ?_ ?_)))<;>intro F
  ·refine X0 5 Z ?_;obtain rfl:=qc F;replace F:=a;exact ri h F Z
  exact X0 6 Z (rK ⟨_,F,rfl,h⟩ Z)
 refine qw Z ?_;obtain rfl:=qc F;replace F:=a;exact X0 4 Z (ri h F Z)
def qd6 (n:Nat)(s:(List ByteArray))(v:ByteArray):Option Bool :=(qfv n s v).bind fun r1 =>V (decide (r1 ≥ 0))
theorem qjM {s:(List ByteArray)}{v:ByteArray}(a:Ro w s cs1){r:Bool}(F:qd6 n s v=V r):RetV prog 274 [GoT.v (List ByteArray) cs1,.string v] w r:=by
 obtain⟨_,_,rfl,s1⟩:=a;exact zV 9 func274 Z fun h=>X0 8 Z (zcI h F (qk3 ⟨_,_,rfl,(h.oldS s1)⟩) Z fun _ _ h F=>X0 3 Z (rb h F Z))
def qeq (list:(List ByteArray)):Nat→Int→Option (Flow Bool Int)| 0,_=>U| n+1,a =>bif decide (a<(list.length:Int)) then(idx list a).bind fun b =>(qhF n b).bind fun r1 =>bif (!r1) then V (.ret false) else(subS list 0 a).bind fun d =>(qd6 n d b).bind fun c =>bif c then V (.ret false) else qeq list n (W64 (a+1)) else V (.nxt a)
def qej (n:Nat)(list:(List ByteArray)):Option Bool :=(qeq list n 0).bind fun o=>match o with| .ret r=>V r| .nxt _ =>V true
theorem qfM {list:(List ByteArray)}(f:Ro w list cs1){r:Bool}(F:qej n list=V r):RetV prog 243 [GoT.v (List ByteArray) cs1] w r:=by
 obtain⟨p1,s,rfl,s1⟩:=f;refine zV 23 func243 Z fun h=>X0 11 Z ?_;obtain⟨o1,F,a⟩:=qd F;refine qn (rL (fun m e w'=>∃(p:Int),qeq list m p=V o1∧e=[(0,.slice p1 list.length s),(5,.slice p1 list.length s),(6,.int .i64 (list.length:Int)),(7,.int .i64 p)]∧SH w w' []) n ⟨_,F,rfl,h⟩ Z ?_);rintro u _ _ ⟨p,F,rfl,h⟩;rcases u with _|u
 ·cases F
 refine X0 5 Z (ql Z F ?_ ?_)<;>intro F
 ·refine X0 6 Z ?_;obtain⟨_,_,F,i,_,_,_,_,l,o,rfl,g⟩:=s1.ix F;refine zxe l o i Z (zc 0 (g.below h.below) Z (X0 6 Z (zcB h F qjA Z fun _ _ h F=>zp2 Z (qg (t:=15) F Z ?_ ?_))))<;>intro F
  ·refine X0 7 Z (qbX Z Z (X0 4 Z ?_));obtain rfl:=qc F;replace F:=a;exact rb h F Z
  refine X0 5 Z ?_;obtain⟨_,d,F⟩:=qd F;obtain⟨_,_,c,b,k,v⟩:=qqk (h.oldS s1) d;refine r_v (qm4 qa Z Z Z (qqn v Z) c b k Z Z Z Z) Z ?_;have s2:=qqd s1 d c b;refine X0 3 Z (zcB h F (qjM ⟨_,_,rfl,(h.oldS s2)⟩) Z fun _ _ h F=>X0 2 Z (ql Z F ?_ ?_))<;>intro F
  ·refine X0 4 Z ?_;obtain rfl:=qc F;replace F:=a;exact rb h F Z
  exact X0 6 Z (rK ⟨_,F,rfl,h⟩ Z)
 refine qw Z ?_;obtain rfl:=qc F;replace F:=a;exact X0 4 Z (rb h F Z)
def qc9 (list:(List qap)):Nat→(List ByteArray)→Int→Option (Flow Bool ((List ByteArray)×Int))| 0,_,_=>U| n+1,c,a =>bif decide (a<(list.length:Int)) then(idx list a).bind fun b =>(appS c ([b.Ba]:List ByteArray)).bind fun d =>bif (a==(W64 ((list.length:Int)-1))) then bif (b.Bs != 2) then V (.ret false) else bif (b.Bl != 0) then V (.ret false) else bif b.Bo then V (.ret false) else qc9 list n d (W64 (a+1)) else bif (b.Bs != 1) then V (.ret false) else(qaW n b.Bl 0 500).bind fun r1 =>bif (!r1) then V (.ret false) else qc9 list n d (W64 (a+1)) else V (.nxt (c,a))
def qjj (n:Nat)(list:(List qap)):Option Bool :=(qc9 list n ([]:List ByteArray) 0).bind fun o=>match o with| .ret r=>V r| .nxt (d,_) =>(qcz n list).bind fun a =>(qaW n a 2 5).bind fun b =>bif b then(qej n d).bind fun c =>V c else V false
theorem qoe {list:(List qap)}(d:Ro w list cs1){r:Bool}(F:qjj n list=V r):RetV prog 271 [GoT.v (List qap) cs1] w r:=by
 obtain⟨p1,v,rfl,s1⟩:=d;refine zV 52 func271 Z fun h=>X0 15 Z ?_;replace h:=h.nil (α:=ByteArray);obtain⟨o1,F,a⟩:=qd F;refine qn (rL (fun m e w'=>∃(S1:Nat→Prop) (s:Option Addr) (c:Nat) (p:Nat) (u:(List ByteArray)) (o:Int),qc9 list m u o=V o1∧e=[(0,.slice p1 list.length v),(3,.slice s c p),(6,.slice p1 list.length v),(7,.int .i64 (list.length:Int)),(8,.int .i64 o)]∧SH w w' [Ch.own S1 (u:List ByteArray) [.slice s c p]]) n ⟨_,_,_,_,_,_,F,rfl,h⟩ Z ?_);rintro x _ _ ⟨S1,s,c,p,u,o,F,rfl,h⟩;obtain rfl:=(h.sl 0 Z).2;rcases x with _|x
 ·cases F
 refine X0 5 Z (ql Z F ?_ ?_)<;>intro F
 ·refine X0 6 Z ?_;obtain⟨z,_,F,g,_,_,_,_,i,k,l,f⟩:=s1.ix F;obtain rfl:=qeP l;refine zxe i k g Z (zc 0 (f.below h.below) Z (qj qa h Z Z Z fun _ _ h=>zp1 Z (zs 0 h Z fun _ h=>X1 6 0 h Z (qp qa [.tmp 15] _ ([z.Ba]:List ByteArray) h Z Z Z Z Z Z Z Z Z ⟨rfl,trivial⟩ Z fun _ _ _ h=>?_))));obtain⟨_,b,F⟩:=qd F;obtain⟨y,b⟩:=qE b;refine qat qa 2 h Z (h.sl 0 Z).1 (h.sl 0 Z).2 Z Z Z Z Z Z Z Z Z y b Z fun _ _ _ _ h=>X0 10 Z (ql Z F ?_ ?_)<;>intro F
  ·refine X1 6 1 h Z (qg (t:=26) F Z ?_ ?_)<;>intro F
   ·refine X0 9 Z (qbX Z Z (X0 4 Z ?_));obtain rfl:=qc F;replace F:=a;exact rb h F Z
   refine X1 8 1 h Z (qg (t:=31) F Z ?_ ?_)<;>intro F
   ·refine X0 4 Z (qbX Z Z (X0 4 Z ?_));obtain rfl:=qc F;replace F:=a;exact rb h F Z
   refine X1 6 1 h Z (ql Z F ?_ ?_)<;>intro F
   ·refine X0 4 Z ?_;obtain rfl:=qc F;replace F:=a;exact rb h F Z
   refine X0 6 Z ?_;replace h:=h.pick [2] Z;exact rK ⟨_,_,_,_,_,_,F,rfl,h⟩ Z
  refine X1 6 1 h Z (qg (t:=38) F Z ?_ ?_)<;>intro F
  ·refine X0 6 Z (qbX Z Z (X0 4 Z ?_));obtain rfl:=qc F;replace F:=a;exact rb h F Z
  refine X1 5 1 h Z (zcB h F qaL Z fun _ _ h F=>X0 4 Z (ql Z F ?_ ?_))<;>intro F
  ·refine X0 4 Z ?_;obtain rfl:=qc F;replace F:=a;exact rb h F Z
  refine X0 6 Z ?_;replace h:=h.pick [2] Z;exact rK ⟨_,_,_,_,_,_,F,rfl,h⟩ Z
 refine qw Z ?_;obtain rfl:=qc F;replace F:=a;refine X0 3 Z (zcI h F (qhI ⟨_,_,rfl,(h.oldS s1)⟩) Z fun _ _ h F=>zcB h F qaL Z fun _ _ h F=>zp1 Z (qg (t:=48) F Z ?_ ?_))<;>intro F
 ·exact X0 3 Z (zcB h F (qfM (h.own 0 Z)) Z fun _ _ h F=>X0 3 Z (rb h F Z))
 exact X0 5 Z (rb h F Z)
def qex (n:Nat)(c:qG):Option Int :=(qcz n c.Ay).bind fun r1 =>V (W64 (r1-1))
theorem qg7 {c:qG}(a:Ro w c cs1){r:Int}(F:qex n c=V r):RetV prog 142 [GoT.v qG cs1] w r:=by
 obtain⟨_,_,_,_,_,_,rfl,s1,_,_⟩:=qag a;exact zV 7 func142 Z fun h=>zSR (qH h Z Z fun _ _ h=>X1 6 0 h Z (zcI h F (qhI ⟨_,_,rfl,(h.oldS s1)⟩) Z fun _ _ h F=>X0 3 Z (ri h F Z)))
def qjf (_:Nat)(kind:Int):Option Bool :=bif (kind==4) then V true else V (kind==5)
theorem qoi {kind:Int}  {r:Bool}(F:qjf n kind=V r):RetV prog 296 [.int .i64 kind] w r:=by
 refine zV 9 func296 Z fun h=>X0 9 Z (qg (t:=5) F Z ?_ ?_)<;>intro F
 ·exact X0 5 Z (rb h F Z)
 exact X0 7 Z (rb h F Z)
def qg1 (n:Nat)(c:Int)(a:Int)(b:Int):Option Bool :=(qaW n c a b).bind fun r1 =>V (!r1)
theorem qmv {p:Int}{k:Int}{l:Int}{p1:Option Addr}(a:Ro w (V k) [.pointer p1]){i:Option Addr}(b:Ro w (V l) [.pointer i]){r:Bool}(F:qg1 n p k l=V r):RetV prog 158 [.int .i64 p,.pointer p1,.pointer i] w r:=by
 obtain⟨_,m,_,rfl,-,f,c⟩:=PtR.get a Z;obtain rfl:=f;obtain⟨_,o,_,rfl,-,g,d⟩:=PtR.get b Z;obtain rfl:=g;exact zV 10 func158 Z fun h=>X0 7 Z (zc 0 (c.below h.below) Z (zc 0 (d.below h.below) Z (zcB h F qaL Z fun _ _ h F=>X0 3 Z (rb h F Z))))
def qae (s:(List Int))(a:Int)(b:Int):Nat→Int→Option (Flow Int Int)| 0,_=>U| n+1,c =>bif decide (c<(s.length:Int)) then(idx s c).bind fun d =>(qg1 n d a b).bind fun r1 =>bif r1 then V (.ret c) else qae s a b n (W64 (c+1)) else V (.nxt c)
def qa0 (n:Nat)(s:(List Int))(a:Int)(b:Int):Option Int :=(qae s a b n 0).bind fun o=>match o with| .ret r=>V r| .nxt _ =>V (-1)
theorem qf3 {s:(List Int)}{a:Int}{b:Int}(g:Ro w s cs1){z:Option Addr}(d:Ro w (V a) [.pointer z]){A:Option Addr}(f:Ro w (V b) [.pointer A]){r:Int}(F:qa0 n s a b=V r):RetV prog 217 [GoT.v (List Int) cs1,.func (.func 158) #[] #[.pointer z,.pointer A]] w r:=by
 obtain⟨p1,B,rfl,s1⟩:=g;obtain⟨b1,v,_,rfl,-,p,_⟩:=PtR.get d Z;obtain rfl:=p;obtain⟨b2,x,_,rfl,-,t,_⟩:=PtR.get f Z;obtain rfl:=t;refine zV 19 func217 Z fun h=>X0 11 Z ?_;obtain⟨o1,F,c⟩:=qd F;refine qn (rL (fun m e w'=>∃(u:Int),qae s a b m u=V o1∧e=[(0,.slice p1 s.length B),(1,.func (.func 158) #[] #[.pointer (V ⟨b1,v,U⟩),.pointer (V ⟨b2,x,U⟩)]),(7,.int .i64 (s.length:Int)),(8,.int .i64 u)]∧SH w w' []) n ⟨_,F,rfl,h⟩ Z ?_);rintro y _ _ ⟨u,F,rfl,h⟩;rcases y with _|y
 ·cases F
 refine X0 5 Z (ql Z F ?_ ?_)<;>intro F
 ·refine X0 13 Z ?_;obtain⟨_,_,F,k,_,_,_,_,l,o,rfl,i⟩:=s1.ix F;refine zxe l o k Z (zc 0 (i.below h.below) Z (zcB h F (qmv (h.old d) (h.old f)) Z fun _ _ h F=>qbe (ql Z F ?_ ?_)))<;>intro F
  ·refine X0 5 Z ?_;obtain rfl:=qc F;replace F:=c;exact ri h F Z
  exact X0 6 Z (rK ⟨_,F,rfl,h⟩ Z)
 refine qw Z ?_;obtain rfl:=qc F;replace F:=c;exact X0 4 Z (ri h F Z)
def qbJ (n:Nat)(s:(List Int))(a:Int)(b:Int):Option Bool :=(qa0 n s a b).bind fun r1 =>V (decide (r1 ≥ 0))
theorem qft {s:(List Int)}{a:Int}{b:Int}(f:Ro w s cs1){k:Option Addr}(c:Ro w (V a) [.pointer k]){l:Option Addr}(d:Ro w (V b) [.pointer l]){r:Bool}(F:qbJ n s a b=V r):RetV prog 157 [GoT.v (List Int) cs1,.func (.func 158) #[] #[.pointer k,.pointer l]] w r:=by
 obtain⟨_,_,rfl,s1⟩:=f;obtain⟨_,m,_,rfl,-,g,_⟩:=PtR.get c Z;obtain rfl:=g;obtain⟨_,o,_,rfl,-,i,_⟩:=PtR.get d Z;obtain rfl:=i;exact zV 9 func157 Z fun h=>X0 8 Z (zcI h F (qf3 ⟨_,_,rfl,(h.oldS s1)⟩ (h.old c) (h.old d)) Z fun _ _ h F=>X0 3 Z (rb h F Z))
def qbN (n:Nat)(list:(List Int))(b:Int)(a:Int):Option Bool :=(qbJ n list b a).bind fun r1 =>V (!r1)
theorem qcg {list:(List Int)}{c:Int}{b:Int}(a:Ro w list cs1){r:Bool}(F:qbN n list c b=V r):RetV prog 78 [GoT.v (List Int) cs1,.int .i64 c,.int .i64 b] w r:=by
 obtain⟨_,_,rfl,s1⟩:=a;exact zV 11 func78 Z fun h=>zSR (qH h Z Z fun _ _ h=>qH h Z Z fun _ _ h=>X0 6 Z (zcB h F (qft ⟨_,_,rfl,(h.oldS s1)⟩ (qdB (x:=c) 1 h Z Z) (qdB (x:=b) 0 h Z Z)) Z fun _ _ h F=>X0 3 Z (rb h F Z)))
def qbx (_:Nat)(list:(List Int)):Option Int :=V (list.length:Int)
theorem qbZ {list:(List Int)}(a:Ro w list cs1){r:Int}(F:qbx n list=V r):RetV prog 129 [GoT.v (List Int) cs1] w r:=by
 obtain⟨_,_,rfl,_⟩:=a;exact zV 5 func129 Z fun h=>X0 10 Z (ri h F Z)
def qbC (list:(List Int)):Nat→Int→Option (Flow Bool Int)| 0,_=>U| n+1,a =>bif decide (a<(list.length:Int)) then(idx list (W64 (a-1))).bind fun b =>(idx list a).bind fun c =>bif decide (b ≥ c) then V (.ret false) else qbC list n (W64 (a+1)) else V (.nxt a)
def qe8 (n:Nat)(list:(List Int)):Option Bool :=(qbC list n 1).bind fun o=>match o with| .ret r=>V r| .nxt _ =>V true
theorem qiU {list:(List Int)}(b:Ro w list cs1){r:Bool}(F:qe8 n list=V r):RetV prog 133 [GoT.v (List Int) cs1] w r:=by
 obtain⟨p1,t,rfl,s1⟩:=b;refine zV 20 func133 Z fun h=>X0 9 Z ?_;obtain⟨o1,F,a⟩:=qd F;refine qn (rL (fun m e w'=>∃(p:Int),qbC list m p=V o1∧e=[(0,.slice p1 list.length t),(3,.int .i64 p)]∧SH w w' []) n ⟨_,F,rfl,h⟩ Z ?_);rintro s _ _ ⟨p,F,rfl,h⟩;rcases s with _|s
 ·cases F
 refine X0 8 Z (ql Z F ?_ ?_)<;>intro F
 ·refine X0 4 Z (rD (zd3 Z ?_));obtain⟨_,_,F,f,_,_,_,_,i,l,rfl,c⟩:=s1.ix F;refine zdxe i l f Z (zdc 0 (c.below h.below) Z (zd2 Z ?_));obtain⟨_,_,F,g,_,_,_,_,k,o,rfl,d⟩:=s1.ix F;refine zdxe k o g Z (zdc 0 (d.below h.below) Z (zd1 Z (dN h fun _ h=>ql Z F ?_ ?_)))<;>intro F
  ·refine X0 4 Z ?_;obtain rfl:=qc F;replace F:=a;exact rb h F Z
  exact X0 7 Z (rK ⟨_,F,rfl,h⟩ Z)
 refine qw Z ?_;obtain rfl:=qc F;replace F:=a;exact X0 4 Z (rb h F Z)
def qiL (n:Nat)(list:(List Int)):Option Bool :=(qbx n list).bind fun r1 =>(qaW n r1 1 4).bind fun a =>bif a then(qbN n list 0 100000).bind fun b =>bif b then(qe8 n list).bind fun c =>V c else V false else V false
theorem ql4 {list:(List Int)}(a:Ro w list cs1){r:Bool}(F:qiL n list=V r):RetV prog 313 [GoT.v (List Int) cs1] w r:=by
 obtain⟨_,_,rfl,s1⟩:=a;refine zV 14 func313 Z fun h=>X0 7 Z (zcI h F (qbZ ⟨_,_,rfl,(h.oldS s1)⟩) Z fun _ _ h F=>zcB h F qaL Z fun _ _ h F=>zp1 Z (qg (t:=6) F Z ?_ ?_))<;>intro F
 ·refine X0 3 Z (zcB h F (qcg ⟨_,_,rfl,(h.oldS s1)⟩) Z fun _ _ h F=>zp2 Z (qg (t:=10) F Z ?_ ?_))<;>intro F
  ·exact X0 3 Z (zcB h F (qiU ⟨_,_,rfl,(h.oldS s1)⟩) Z fun _ _ h F=>X0 3 Z (rb h F Z))
  exact X0 5 Z (rb h F Z)
 exact X0 9 Z (rb h F Z)
def qjb (n:Nat)(t:qO):Option Bool :=(qiL n t.Bj).bind fun r1 =>bif r1 then(qiL n t.Be).bind fun a =>bif a then bif ((t.Az.length:Int)==(W64 ((t.Bj.length:Int)*(t.Be.length:Int)))) then(qbN n t.Az (-1000000) 1000000).bind fun b =>V b else V false else V false else V false
theorem qom {t:qO}(a:Ro w t cs1){r:Bool}(F:qjb n t=V r):RetV prog 308 [GoT.v qO cs1] w r:=by
 obtain⟨_,_,_,_,_,_,rfl,s1,s2,b⟩:=qcf a;refine zV 29 func308 Z fun h=>zSR (qH h Z Z fun _ _ h=>X1 6 0 h Z (zcB h F (ql4 ⟨_,_,rfl,(h.oldS s1)⟩) Z fun _ _ h F=>zp1 Z (qg (t:=6) F Z ?_ ?_)))<;>intro F
 ·refine X1 5 0 h Z (zcB h F (ql4 ⟨_,_,rfl,(h.oldS s2)⟩) Z fun _ _ h F=>zp2 Z (qg (t:=11) F Z ?_ ?_))<;>intro F
  ·refine X3 24 0 0 0 h Z (qg (t:=24) F Z ?_ ?_)<;>intro F
   ·exact X1 5 0 h Z (zcB h F (qcg ⟨_,_,rfl,(h.oldS b)⟩) Z fun _ _ h F=>X0 3 Z (rb h F Z))
   exact X0 6 Z (rb h F Z)
  exact X0 19 Z (rb h F Z)
 exact X0 24 Z (rb h F Z)
def qcU (x:(List Int)):Nat→Int→Int→Option (Int×Int)| 0,_,_=>U| n+1,b,a =>bif decide (a<(x.length:Int)) then(idx x a).bind fun c =>qcU x n (if c<b then c else b) (W64 (a+1)) else V (b,a)
def qgM (n:Nat)(x:(List Int)):Option Int :=(bif decide ((x.length:Int)<1) then U else V ()).bind fun _ =>(idx x 0).bind fun b =>(qcU x n b 1).bind fun o=>match o with| (a,_) =>V a
theorem qmr {x:(List Int)}(f:Ro w x cs1){r:Int}(F:qgM n x=V r):RetV prog 309 [GoT.v (List Int) cs1] w r:=by
 obtain⟨p1,y,rfl,s1⟩:=f;refine zV 25 func309 Z fun h=>X0 11 Z ?_;obtain⟨b,a,_,F,d⟩:=bindE F;refine qaF (fun e w'=>b ()=V r∧e=[(0,.slice p1 x.length y)]∧SH w w' []) ?_ ?_
 ·refine ql Z F ?_ ?_<;>intro F
  ·refine qjJ ?_;cases F
  refine qfk ?_;obtain rfl:=qc F;exact rG ⟨d,rfl,h⟩ Z
 rintro _ _ ⟨F,rfl,h⟩;subst a;refine X0 3 Z ?_;obtain⟨_,_,F,k,_,_,_,_,o,s,rfl,g⟩:=s1.ix F;refine zxe o s k Z (zc 0 (g.below h.below) Z (X0 7 Z ?_));obtain⟨o1,F,c⟩:=qd F;refine qn (rL (fun m e w'=>∃(u:Int) (v:Int),qcU x m u v=V o1∧e=[(0,.slice p1 x.length y),(3,.int .i64 u),(4,.int .i64 v)]∧SH w w' []) n ⟨_,_,F,rfl,h⟩ Z ?_);rintro z _ _ ⟨u,v,F,rfl,h⟩;rcases z with _|z
 ·cases F
 refine X0 8 Z (ql Z F ?_ ?_)<;>intro F
 ·refine X0 7 Z ?_;obtain⟨_,_,F,l,_,_,_,_,p,t,rfl,i⟩:=s1.ix F;exact zxe p t l Z (zc 0 (i.below h.below) Z (X0 9 Z (rK ⟨_,_,F,rfl,h⟩ Z)))
 refine qw Z ?_;obtain rfl:=qc F;replace F:=c;exact X0 5 Z (ri h F Z)

def qgV (n:Nat)(t:qO)(b:Bool):Option Bool :=(qjb n t).bind fun r1 =>bif (!r1) then V true else bif b then(qgM n t.Az).bind fun a =>V (decide (a<0)) else V false
theorem qmm {t:qO}{g:Bool}(a:Ro w t cs1){f:Option Addr}(b:Ro w (V g) [.pointer f]){r:Bool}(F:qgV n t g=V r):RetV prog 307 [GoT.v qO cs1,.pointer f] w r:=by
 obtain⟨_,_,_,_,_,_,rfl,_,_,k⟩:=qcf a;obtain⟨_,i,_,rfl,-,d,c⟩:=PtR.get b Z;obtain rfl:=d;refine zV 16 func307 Z fun h=>zSR (qH h Z Z fun _ _ h=>X1 5 0 h Z (zcB h F (qom (h.old a)) Z fun _ _ h F=>zp2 Z (qg (t:=7) F Z ?_ ?_)))<;>intro F
 ·exact X0 10 Z (rb h F Z)
 refine X0 1 Z (zc 0 (c.below h.below) Z (X0 2 Z (qg (t:=9) F Z ?_ ?_)))<;>intro F
 ·exact X1 5 0 h Z (zcI h F (qmr ⟨_,_,rfl,(h.oldS k)⟩) Z fun _ _ h F=>X0 7 Z (rb h F Z))
 exact X0 9 Z (rb h F Z)
def qZ (s:(List qO))(a:Bool):Nat→Int→Option (Flow Int Int)| 0,_=>U| n+1,b =>bif decide (b<(s.length:Int)) then(idx s b).bind fun c =>(qgV n c a).bind fun r1 =>bif r1 then V (.ret b) else qZ s a n (W64 (b+1)) else V (.nxt b)
def qaM (n:Nat)(s:(List qO))(a:Bool):Option Int :=(qZ s a n 0).bind fun o=>match o with| .ret r=>V r| .nxt _ =>V (-1)
theorem qfg {s:(List qO)}{a:Bool}(d:Ro w s cs1){v:Option Addr}(c:Ro w (V a) [.pointer v]){r:Int}(F:qaM n s a=V r):RetV prog 312 [GoT.v (List qO) cs1,.func (.func 307) #[] #[.pointer v]] w r:=by
 obtain⟨p1,x,rfl,s1⟩:=d;obtain⟨b1,t,_,rfl,-,l,_⟩:=PtR.get c Z;obtain rfl:=l;refine zV 19 func312 Z fun h=>X0 11 Z ?_;obtain⟨o1,F,b⟩:=qd F;refine qn (rL (fun m e w'=>∃(p:Int),qZ s a m p=V o1∧e=[(0,.slice p1 s.length x),(1,.func (.func 307) #[] #[.pointer (V ⟨b1,t,U⟩)]),(7,.int .i64 (s.length:Int)),(8,.int .i64 p)]∧SH w w' []) n ⟨_,F,rfl,h⟩ Z ?_);rintro u _ _ ⟨p,F,rfl,h⟩;rcases u with _|u
 ·cases F
 refine X0 5 Z (ql Z F ?_ ?_)<;>intro F
 ·refine X0 13 Z ?_;obtain⟨A,_,F,g,_,_,_,_,i,k,o,f⟩:=s1.ix F;obtain⟨_,_,_,_,_,_,rfl,s2,y,z⟩:=qcf o;refine zxe i k g Z (zc 0 (f.below h.below) Z (zcB h F (qmm (qiw A (h.oldS s2) (h.oldS y) (h.oldS z)) (h.old c)) Z fun _ _ h F=>qbe (ql Z F ?_ ?_)))<;>intro F
  ·refine X0 5 Z ?_;obtain rfl:=qc F;replace F:=b;exact ri h F Z
  exact X0 6 Z (rK ⟨_,F,rfl,h⟩ Z)
 refine qw Z ?_;obtain rfl:=qc F;replace F:=b;exact X0 4 Z (ri h F Z)
def qa8 (n:Nat)(s:(List qO))(a:Bool):Option Bool :=(qaM n s a).bind fun r1 =>V (decide (r1 ≥ 0))
theorem qey {s:(List qO)}{a:Bool}(c:Ro w s cs1){f:Option Addr}(b:Ro w (V a) [.pointer f]){r:Bool}(F:qa8 n s a=V r):RetV prog 306 [GoT.v (List qO) cs1,.func (.func 307) #[] #[.pointer f]] w r:=by
 obtain⟨_,_,rfl,s1⟩:=c;obtain⟨_,g,_,rfl,-,d,_⟩:=PtR.get b Z;obtain rfl:=d;exact zV 9 func306 Z fun h=>X0 8 Z (zcI h F (qfg ⟨_,_,rfl,(h.oldS s1)⟩ (h.old b)) Z fun _ _ h F=>X0 3 Z (rb h F Z))
def qfD (n:Nat)(list:(List qO))(a:Bool):Option Bool :=bif ((list.length:Int)==2) then(qa8 n list a).bind fun r1 =>V (!r1) else V false
theorem qh8 {list:(List qO)}{b:Bool}(a:Ro w list cs1){r:Bool}(F:qfD n list b=V r):RetV prog 297 [GoT.v (List qO) cs1,.bool b] w r:=by
 obtain⟨_,_,rfl,s1⟩:=a;refine zV 14 func297 Z fun h=>zSR (qH h Z Z fun _ _ h=>X0 8 Z (qg (t:=8) F Z ?_ ?_))<;>intro F
 ·exact X0 5 Z (zcB h F (qey ⟨_,_,rfl,(h.oldS s1)⟩ (qdB (x:=b) 0 h Z Z)) Z fun _ _ h F=>X0 5 Z (rb h F Z))
 exact X0 7 Z (rb h F Z)
def qh9 (_:Nat)(p:qap):Option Bool :=V p.Bo
theorem qlu {p:qap}(a:Ro w p cs1){r:Bool}(F:qh9 n p=V r):RetV prog 311 [GoT.v qap cs1] w r:=by
 obtain rfl:=qeP a;exact zV 5 func311 Z fun h=>zSR (qH h Z Z fun _ _ h=>X1 8 0 h Z (rb h F Z))
def qaa (s:(List qap)):Nat→Int→Option (Flow Int Int)| 0,_=>U| n+1,a =>bif decide (a<(s.length:Int)) then(idx s a).bind fun b =>(qh9 n b).bind fun r1 =>bif r1 then V (.ret a) else qaa s n (W64 (a+1)) else V (.nxt a)
def qby (n:Nat)(s:(List qap)):Option Int :=(qaa s n 0).bind fun o=>match o with| .ret r=>V r| .nxt _ =>V (-1)
theorem qfj {s:(List qap)}(b:Ro w s cs1){r:Int}(F:qby n s=V r):RetV prog 310 [GoT.v (List qap) cs1,.func (.func 311) #[] #[]] w r:=by
 obtain⟨p1,o,rfl,s1⟩:=b;refine zV 19 func310 Z fun h=>X0 11 Z ?_;obtain⟨o1,F,a⟩:=qd F;refine qn (rL (fun m e w'=>∃(k:Int),qaa s m k=V o1∧e=[(0,.slice p1 s.length o),(1,.func (.func 311) #[] #[]),(7,.int .i64 (s.length:Int)),(8,.int .i64 k)]∧SH w w' []) n ⟨_,F,rfl,h⟩ Z ?_);rintro l _ _ ⟨k,F,rfl,h⟩;rcases l with _|l
 ·cases F
 refine X0 5 Z (ql Z F ?_ ?_)<;>intro F
 ·refine X0 13 Z ?_;obtain⟨p,_,F,d,_,_,_,_,f,g,i,c⟩:=s1.ix F;obtain rfl:=qeP i;refine zxe f g d Z (zc 0 (c.below h.below) Z (zcB h F (qlu (qko p)) Z fun _ _ h F=>qbe (ql Z F ?_ ?_)))<;>intro F
  ·refine X0 5 Z ?_;obtain rfl:=qc F;replace F:=a;exact ri h F Z
  exact X0 6 Z (rK ⟨_,F,rfl,h⟩ Z)
 refine qw Z ?_;obtain rfl:=qc F;replace F:=a;exact X0 4 Z (ri h F Z)
def qho (n:Nat)(c:qG):Option Int :=(qby n c.Ay).bind fun r1 =>V r1
theorem qmO {c:qG}(a:Ro w c cs1){r:Int}(F:qho n c=V r):RetV prog 298 [GoT.v qG cs1] w r:=by
 obtain⟨_,_,_,_,_,_,rfl,s1,_,_⟩:=qag a;exact zV 6 func298 Z fun h=>zSR (qH h Z Z fun _ _ h=>X1 6 0 h Z (zcI h F (qfj ⟨_,_,rfl,(h.oldS s1)⟩) Z fun _ _ h F=>X0 2 Z (ri h F Z)))
def qgj (n:Nat)(c:qG)(pin:Int):Option Bool :=(qex n c).bind fun r1 =>(qaW n pin 0 (W64 (r1-1))).bind fun a =>V a
theorem qiX {c:qG}{pin:Int}(a:Ro w c cs1){r:Bool}(F:qgj n c pin=V r):RetV prog 299 [GoT.v qG cs1,.int .i64 pin] w r:=by
 obtain⟨_,_,_,_,_,_,rfl,_,_,_⟩:=qag a;exact zV 10 func299 Z fun h=>zSR (qH h Z Z fun _ _ h=>X1 6 0 h Z (zcI h F (qg7 (h.old a)) Z fun _ _ h F=>zp1 Z (zcB h F qaL Z fun _ _ h F=>X0 2 Z (rb h F Z))))
def qhs (n:Nat)(a_0:qG)(a_1:qak):Option Bool :=(qjf n a_1.Au).bind fun r1 =>bif r1 then(bif (a_1.Bk==0) then bif ((a_1.Av.length:Int)==0) then(qfD n a_1.Bm false).bind fun b =>bif b then(qho n a_0).bind fun c =>bif (a_1.Bd==c) then bif decide (a_1.Bd ≥ 0) then(qgj n a_0 a_1.To).bind fun d =>bif d then V (a_1.To != a_1.Bd) else V false else V false else V false else V false else V false else V false).bind fun b1 =>V b1 else((qfD n a_1.Bm true).bind fun g =>bif (!g) then V true else(qfD n a_1.Av true).bind fun h =>bif (!h) then V true else(qex n a_0).bind fun i =>bif (a_1.To != i) then V true else(qgj n a_0 a_1.Bd).bind fun k =>V (!k)).bind fun b2 =>bif b2 then V false else bif (a_1.Au==1) then(idx a_0.Ay a_1.Bd).bind fun l =>bif (!l.Bo) then(qaW n a_1.Bk 1 3).bind fun f =>V f else V false else(bif (a_1.Au==2) then V (a_1.Au==2) else V (a_1.Au==3)).bind fun a =>bif a then(idx a_0.Ay a_1.Bd).bind fun m =>bif m.Bo then V (a_1.Bk==0) else V false else V false
theorem qmz {a_0:qG}{a_1:qak}(b:Ro w a_0 cs1)(x:Ro w a_1 cs2){r:Bool}(F:qhs n a_0 a_1=V r):RetV prog 284 [GoT.v qG cs1,GoT.v qak cs2] w r:=by
 obtain⟨p1,Q,X,R,Y,S,rfl,s1,_,_⟩:=qag b;obtain⟨p4,T,p5,W,rfl,s4,s5⟩:=qaA x;refine zV 103 func284 Z fun h=>zSR (qH h Z Z fun _ c h=>qH h Z Z fun _ d h=>X1 7 0 h Z (zcB h F qoi Z fun _ _ h F=>qbe (ql Z F ?_ ?_)))<;>intro F
 ·refine qb8 ?_;obtain⟨p,i,_,F,a⟩:=bindE F;refine qaF (fun e w'=>∃(b1:Bool),p b1=V r∧e=[(4,.bool b1)]∧SH w w' []) ?_ ?_
  ·refine rD (Y1 2 0 h Z ?_);refine zd2 Z (qaJ (t:=11) F Z ?_ ?_)<;>intro F
   ·refine Y1 4 0 h Z ?_;refine Y0 6 Z (qaJ (t:=17) F Z ?_ ?_)<;>intro F
    ·refine Y1 4 0 h Z ?_;refine Y0 1 Z ?_;obtain⟨r2,J,F⟩:=qd F;refine qb3 r2 (vsB _) (cB 297 Z) (fun _ hb=>qh8 ⟨_,_,rfl,((h.ext hb).oldS s4)⟩ J) Z Z Z Z (zd2 Z (qaJ (t:=22) F Z ?_ ?_))<;>intro F
     ·refine Y1 4 0 h Z ?_;refine Y1 2 1 h Z ?_;refine Y0 1 Z ?_;obtain⟨r3,K,F⟩:=qd F;refine qb3 r3 (vsI _) (cB 298 Z) (fun _ hb=>qmO ((h.ext hb).old b) K) Z Z Z Z (Y0 4 Z (qaJ (t:=29) F Z ?_ ?_))<;>intro F
      ·refine Y1 4 0 h Z ?_;refine Y0 4 Z (qaJ (t:=34) F Z ?_ ?_)<;>intro F
       ·refine Y1 2 1 h Z ?_;refine Y1 4 0 h Z ?_;refine Y0 1 Z ?_;obtain⟨r4,L,F⟩:=qd F;refine qb3 r4 (vsB _) (cB 299 Z) (fun _ hb=>qiX ((h.ext hb).old b) L) Z Z Z Z (zd2 Z (qaJ (t:=40) F Z ?_ ?_))<;>intro F
        ·refine Y1 4 0 h Z ?_;refine Y1 4 0 h Z ?_;refine Y0 4 Z (dN h fun _ h=>?_);replace h:=h.pick [] Z;obtain rfl:=qc F;exact rG ⟨_,a,rfl,h⟩ Z
        refine Y0 7 Z (dN h fun _ h=>?_);replace h:=h.pick [] Z;obtain rfl:=qc F;exact rG ⟨_,a,rfl,h⟩ Z
       refine Y0 13 Z (dN h fun _ h=>?_);replace h:=h.pick [] Z;obtain rfl:=qc F;exact rG ⟨_,a,rfl,h⟩ Z
      refine Y0 18 Z (dN h fun _ h=>?_);replace h:=h.pick [] Z;obtain rfl:=qc F;exact rG ⟨_,a,rfl,h⟩ Z
     refine Y0 25 Z (dN h fun _ h=>?_);replace h:=h.pick [] Z;obtain rfl:=qc F;exact rG ⟨_,a,rfl,h⟩ Z
    refine Y0 30 Z (dN h fun _ h=>?_);replace h:=h.pick [] Z;obtain rfl:=qc F;exact rG ⟨_,a,rfl,h⟩ Z
   refine Y0 36 Z (dN h fun _ h=>?_);replace h:=h.pick [] Z;obtain rfl:=qc F;exact rG ⟨_,a,rfl,h⟩ Z
  rintro _ _ ⟨b1,F,rfl,h⟩;subst i;exact rb h F Z
 refine zKSS ?_;obtain⟨u,l,_,F,f⟩:=bindE F;refine qaF (fun e w'=>∃(b2:Bool),u b2=V r∧e=[(2,.pointer (V ⟨c,0,U⟩)),(3,.pointer (V ⟨d,0,U⟩)),(70,.bool b2)]∧SH w w' [Ch.box d (qdT a_1 p4 p5 T W) 187,Ch.box c (qI a_0 p1 X Y Q R S) 184]) ?_ ?_
 ·refine rD (Y1 2 0 h Z ?_);obtain⟨r6,O,F⟩:=qd F;refine qb3 r6 (vsB _) (cB 297 Z) (fun _ hb=>qh8 ⟨_,_,rfl,((h.ext hb).oldS s4)⟩ O) Z Z Z Z (zd2 Z (qaJ (t:=51) F Z ?_ ?_))<;>intro F
  ·refine Y0 19 Z (dN h fun _ h=>?_);obtain rfl:=qc F;exact rG ⟨_,f,rfl,h⟩ Z
  refine Y1 4 0 h Z ?_;refine Y0 1 Z ?_;obtain⟨r7,P,F⟩:=qd F;refine qb3 r7 (vsB _) (cB 297 Z) (fun _ hb=>qh8 ⟨_,_,rfl,((h.ext hb).oldS s5)⟩ P) Z Z Z Z (Y0 4 Z (qaJ (t:=57) F Z ?_ ?_))<;>intro F
  ·refine Y0 13 Z (dN h fun _ h=>?_);obtain rfl:=qc F;exact rG ⟨_,f,rfl,h⟩ Z
  refine Y1 4 0 h Z ?_;refine Y1 2 1 h Z ?_;refine Y0 1 Z ?_;obtain⟨r8,m,F⟩:=qd F;refine qb3 r8 (vsI _) (cB 142 Z) (fun _ hb=>qg7 ((h.ext hb).old b) m) Z Z Z Z (Y0 4 Z (qaJ (t:=64) F Z ?_ ?_))<;>intro F
  ·refine Y0 6 Z (dN h fun _ h=>?_);obtain rfl:=qc F;exact rG ⟨_,f,rfl,h⟩ Z
  refine Y1 2 1 h Z ?_;refine Y1 4 0 h Z ?_;refine Y0 1 Z ?_;obtain⟨r9,o,F⟩:=qd F;refine qb3 r9 (vsB _) (cB 299 Z) (fun _ hb=>qiX ((h.ext hb).old b) o) Z Z Z Z (Y0 3 Z (dN h fun _ h=>?_));obtain rfl:=qc F;exact rG ⟨_,f,rfl,h⟩ Z
 rintro _ _ ⟨b2,F,rfl,h⟩;subst l;refine ql Z F ?_ ?_<;>intro F
 ·exact X0 4 Z (rb h F Z)
 refine X1 13 0 h Z (ql Z F ?_ ?_)<;>intro F
 ·refine X2 6 1 0 h Z ?_;obtain⟨_,_,F,A,_,_,_,_,C,H,M,y⟩:=s1.ix F;obtain rfl:=qeP M;refine zxe C H A Z (zp1 Z (zc 3 (y.below h.below) Z (zp2 Z (qg (t:=83) F Z ?_ ?_))))<;>intro F
  ·exact X1 5 0 h Z (zcB h F qaL Z fun _ _ h F=>X0 3 Z (rb h F Z))
  exact X0 6 Z (rb h F Z)
 refine X0 6 Z ?_;obtain⟨s,k,_,F,g⟩:=bindE F;refine qaF (fun e w'=>∃(v:Bool),s v=V r∧e=[(2,.pointer (V ⟨c,0,U⟩)),(3,.pointer (V ⟨d,0,U⟩)),(88,.bool v)]∧SH w w' [Ch.box d (qdT a_1 p4 p5 T W) 187,Ch.box c (qI a_0 p1 X Y Q R S) 184]) ?_ ?_
 ·refine ql Z F ?_ ?_<;>intro F
  ·refine qfk ?_;obtain rfl:=qc F;exact rG ⟨_,g,rfl,h⟩ Z
  refine X0 4 Z ?_;obtain rfl:=qc F;exact rG ⟨_,g,rfl,h⟩ Z
 rintro _ _ ⟨v,F,rfl,h⟩;subst k;refine ql Z F ?_ ?_<;>intro F
 ·refine X2 6 1 0 h Z ?_;obtain⟨_,_,F,B,_,_,_,_,D,I,N,z⟩:=s1.ix F;obtain rfl:=qeP N;refine zxe D I B Z (zp1 Z (zc 3 (z.below h.below) Z (zp1 Z (qg (t:=98) F Z ?_ ?_))))<;>intro F
  ·exact X1 9 0 h Z (rb h F Z)
  exact X0 6 Z (rb h F Z)
 exact X0 6 Z (rb h F Z)
def qfu (_:Nat)(b:qak)(a:qak):Option Bool :=bif (b.Au==a.Au) then bif (b.Bd==a.Bd) then V (b.To==a.To) else V false else V false
theorem qkV {k:qak}{g:qak}(b:Ro w k cs1){f:Option Addr}(c:Ro w (V g) [.pointer f]){r:Bool}(F:qfu n k g=V r):RetV prog 286 [GoT.v qak cs1,.pointer f] w r:=by
 obtain⟨_,_,_,_,rfl,_,_⟩:=qaA b;obtain⟨_,i,_,rfl,-,d,a⟩:=PtR.get c Z;obtain⟨_,_,_,_,rfl,_,_⟩:=qaA d;refine zV 23 func286 Z fun h=>zSR (qH h Z Z fun _ _ h=>X1 7 0 h Z (zc 0 (a.below h.below) Z (zp2 Z (qg (t:=9) F Z ?_ ?_))))<;>intro F
 ·refine X1 7 0 h Z (zc 1 (a.below h.below) Z (X0 4 Z (qg (t:=16) F Z ?_ ?_)))<;>intro F
  ·exact X1 7 0 h Z (zc 2 (a.below h.below) Z (X0 5 Z (rb h F Z)))
  exact X0 8 Z (rb h F Z)
 exact X0 15 Z (rb h F Z)
def qV (s:(List qak))(a:qak):Nat→Int→Option (Flow Int Int)| 0,_=>U| n+1,b =>bif decide (b<(s.length:Int)) then(idx s b).bind fun c =>(qfu n c a).bind fun r1 =>bif r1 then V (.ret b) else qV s a n (W64 (b+1)) else V (.nxt b)
def qbh (n:Nat)(s:(List qak))(a:qak):Option Int :=(qV s a n 0).bind fun o=>match o with| .ret r=>V r| .nxt _ =>V (-1)
theorem qeN {s:(List qak)}{a:qak}(d:Ro w s cs1){v:Option Addr}(c:Ro w (V a) [.pointer v]){r:Int}(F:qbh n s a=V r):RetV prog 134 [GoT.v (List qak) cs1,.func (.func 286) #[] #[.pointer v]] w r:=by
 obtain⟨p1,x,rfl,s1⟩:=d;obtain⟨b1,t,_,rfl,-,l,_⟩:=PtR.get c Z;obtain⟨_,_,_,_,rfl,_,_⟩:=qaA l;refine zV 19 func134 Z fun h=>X0 11 Z ?_;obtain⟨o1,F,b⟩:=qd F;refine qn (rL (fun m e w'=>∃(p:Int),qV s a m p=V o1∧e=[(0,.slice p1 s.length x),(1,.func (.func 286) #[] #[.pointer (V ⟨b1,t,U⟩)]),(7,.int .i64 (s.length:Int)),(8,.int .i64 p)]∧SH w w' []) n ⟨_,F,rfl,h⟩ Z ?_);rintro u _ _ ⟨p,F,rfl,h⟩;rcases u with _|u
 ·cases F
 refine X0 5 Z (ql Z F ?_ ?_)<;>intro F
 ·refine X0 13 Z ?_;obtain⟨A,_,F,g,_,_,_,_,i,k,o,f⟩:=s1.ix F;obtain⟨_,_,_,_,rfl,y,z⟩:=qaA o;refine zxe i k g Z (zc 0 (f.below h.below) Z (zcB h F (qkV (qh5 A (h.oldS y) (h.oldS z)) (h.old c)) Z fun _ _ h F=>qbe (ql Z F ?_ ?_)))<;>intro F
  ·refine X0 5 Z ?_;obtain rfl:=qc F;replace F:=b;exact ri h F Z
  exact X0 6 Z (rK ⟨_,F,rfl,h⟩ Z)
 refine qw Z ?_;obtain rfl:=qc F;replace F:=b;exact X0 4 Z (ri h F Z)
def qaG (n:Nat)(s:(List qak))(a:qak):Option Bool :=(qbh n s a).bind fun r1 =>V (decide (r1 ≥ 0))
theorem qel {s:(List qak)}{a:qak}(c:Ro w s cs1){f:Option Addr}(b:Ro w (V a) [.pointer f]){r:Bool}(F:qaG n s a=V r):RetV prog 285 [GoT.v (List qak) cs1,.func (.func 286) #[] #[.pointer f]] w r:=by
 obtain⟨_,_,rfl,s1⟩:=c;obtain⟨_,g,_,rfl,-,d,_⟩:=PtR.get b Z;obtain⟨_,_,_,_,rfl,_,_⟩:=qaA d;exact zV 9 func285 Z fun h=>X0 8 Z (zcI h F (qeN ⟨_,_,rfl,(h.oldS s1)⟩ (h.old b)) Z fun _ _ h F=>X0 3 Z (rb h F Z))
def qcB (c:qG):Nat→Int→Option (Flow Bool Int)| 0,_=>U| n+1,a =>bif decide (a<(c.Aq.length:Int)) then(idx c.Aq a).bind fun b =>(qhs n c b).bind fun r1 =>bif (!r1) then V (.ret false) else(subS c.Aq 0 a).bind fun f =>(qaG n f b).bind fun d =>bif d then V (.ret false) else qcB c n (W64 (a+1)) else V (.nxt a)
def qgn (n:Nat)(c:qG):Option Bool :=(qcB c n 0).bind fun o=>match o with| .ret r=>V r| .nxt _ =>V (decide ((c.Aq.length:Int)≤8))
theorem qlw {c:qG}(d:Ro w c cs1){r:Bool}(F:qgn n c=V r):RetV prog 272 [GoT.v qG cs1] w r:=by
 obtain⟨p1,I,B,z,K,J,rfl,_,s2,_⟩:=qag d;refine zV 30 func272 Z fun h=>zSR (qH h Z Z fun _ b h=>X1 10 0 h Z ?_);obtain⟨o1,F,a⟩:=qd F;refine qn (rL (fun m e w'=>∃(v:Int),qcB c m v=V o1∧e=[(1,.pointer (V ⟨b,0,U⟩)),(6,.slice B c.Aq.length z),(7,.int .i64 (c.Aq.length:Int)),(8,.int .i64 v)]∧SH w w' [Ch.box b (qI c p1 B K I z J) 184]) n ⟨_,F,rfl,h⟩ Z ?_);rintro A _ _ ⟨v,F,rfl,h⟩;rcases A with _|A
 ·cases F
 refine X0 5 Z (ql Z F ?_ ?_)<;>intro F
 ·refine X0 6 Z ?_;obtain⟨y,_,F,l,_,_,_,_,p,s,u,k⟩:=s2.ix F;obtain⟨_,_,_,_,rfl,C,D⟩:=qaA u;refine zxe p s l Z (zc 0 (k.below h.below) Z (qj qa h Z Z Z fun _ _ h=>zp1 Z (zs 0 h Z fun _ h=>X2 5 1 0 h Z (zcB h F (qmz (h.old d) (qh5 y (h.oldS C) (h.oldS D))) Z fun _ _ h F=>zp2 Z (qg (t:=17) F Z ?_ ?_)))))<;>intro F
  ·refine X0 8 Z (qbX Z Z (X0 4 Z ?_));obtain rfl:=qc F;replace F:=a;exact rb h F Z
  refine X1 7 1 h Z ?_;obtain⟨_,i,F⟩:=qd F;obtain⟨_,_,g,f,o,H⟩:=qqk (h.oldS s2) i;refine r_v (qm4 qa Z Z Z (qqn H Z) g f o Z Z Z Z) Z ?_;have L:=qqd s2 i g f;refine X0 3 Z (zcB h F (qel ⟨_,_,rfl,(h.oldS L)⟩ (qdB (x:=y) 0 h Z (qh5 y (h.oldS C) (h.oldS D)))) Z fun _ _ h F=>X0 2 Z (ql Z F ?_ ?_))<;>intro F
  ·refine X0 4 Z ?_;obtain rfl:=qc F;replace F:=a;exact rb h F Z
  refine X0 6 Z ?_;replace h:=h.pick [1] Z;exact rK ⟨_,F,rfl,h⟩ Z
 refine qw Z ?_;obtain rfl:=qc F;replace F:=a;exact X1 8 0 h Z (rb h F Z)
def qi2 (_:Nat)(a:qak)(b:Int):Option Bool :=V (a.Au==b)
theorem qmC {a:qak}{i:Int}(b:Ro w a cs1){g:Option Addr}(c:Ro w (V i) [.pointer g]){r:Bool}(F:qi2 n a i=V r):RetV prog 300 [GoT.v qak cs1,.pointer g] w r:=by
 obtain⟨_,_,_,_,rfl,_,_⟩:=qaA b;obtain⟨_,k,_,rfl,-,f,d⟩:=PtR.get c Z;obtain rfl:=f;exact zV 8 func300 Z fun h=>zSR (qH h Z Z fun _ _ h=>X1 6 0 h Z (zc 0 (d.below h.below) Z (X0 3 Z (rb h F Z))))
def qac (s:(List qak))(a:Int):Nat→Int→Option (Flow Int Int)| 0,_=>U| n+1,b =>bif decide (b<(s.length:Int)) then(idx s b).bind fun c =>(qi2 n c a).bind fun r1 =>bif r1 then V (.ret b) else qac s a n (W64 (b+1)) else V (.nxt b)
def qbM (n:Nat)(s:(List qak))(a:Int):Option Int :=(qac s a n 0).bind fun o=>match o with| .ret r=>V r| .nxt _ =>V (-1)
theorem qfI {s:(List qak)}{a:Int}(d:Ro w s cs1){v:Option Addr}(c:Ro w (V a) [.pointer v]){r:Int}(F:qbM n s a=V r):RetV prog 134 [GoT.v (List qak) cs1,.func (.func 300) #[] #[.pointer v]] w r:=by
 obtain⟨p1,x,rfl,s1⟩:=d;obtain⟨b1,t,_,rfl,-,l,_⟩:=PtR.get c Z;obtain rfl:=l;refine zV 19 func134 Z fun h=>X0 11 Z ?_;obtain⟨o1,F,b⟩:=qd F;refine qn (rL (fun m e w'=>∃(p:Int),qac s a m p=V o1∧e=[(0,.slice p1 s.length x),(1,.func (.func 300) #[] #[.pointer (V ⟨b1,t,U⟩)]),(7,.int .i64 (s.length:Int)),(8,.int .i64 p)]∧SH w w' []) n ⟨_,F,rfl,h⟩ Z ?_);rintro u _ _ ⟨p,F,rfl,h⟩;rcases u with _|u
 ·cases F
 refine X0 5 Z (ql Z F ?_ ?_)<;>intro F
 ·refine X0 13 Z ?_;obtain⟨z,_,F,g,_,_,_,_,i,k,o,f⟩:=s1.ix F;obtain⟨_,_,_,_,rfl,s2,y⟩:=qaA o;refine zxe i k g Z (zc 0 (f.below h.below) Z (zcB h F (qmC (qh5 z (h.oldS s2) (h.oldS y)) (h.old c)) Z fun _ _ h F=>qbe (ql Z F ?_ ?_)))<;>intro F
  ·refine X0 5 Z ?_;obtain rfl:=qc F;replace F:=b;exact ri h F Z
  exact X0 6 Z (rK ⟨_,F,rfl,h⟩ Z)
 refine qw Z ?_;obtain rfl:=qc F;replace F:=b;exact X0 4 Z (ri h F Z)
def qbo (n:Nat)(s:(List qak))(a:Int):Option Bool :=(qbM n s a).bind fun r1 =>V (decide (r1 ≥ 0))
theorem qfc {s:(List qak)}{a:Int}(c:Ro w s cs1){f:Option Addr}(b:Ro w (V a) [.pointer f]){r:Bool}(F:qbo n s a=V r):RetV prog 285 [GoT.v (List qak) cs1,.func (.func 300) #[] #[.pointer f]] w r:=by
 obtain⟨_,_,rfl,s1⟩:=c;obtain⟨_,g,_,rfl,-,d,_⟩:=PtR.get b Z;obtain rfl:=d;exact zV 9 func285 Z fun h=>X0 8 Z (zcI h F (qfI ⟨_,_,rfl,(h.oldS s1)⟩ (h.old b)) Z fun _ _ h F=>X0 3 Z (rb h F Z))
def qdw (n:Nat)(c:qG)(kind:Int):Option Bool :=(qbo n c.Aq kind).bind fun r1 =>V r1
theorem qen {c:qG}{kind:Int}(a:Ro w c cs1){r:Bool}(F:qdw n c kind=V r):RetV prog 287 [GoT.v qG cs1,.int .i64 kind] w r:=by
 obtain⟨_,_,_,_,_,_,rfl,_,s2,_⟩:=qag a;exact zV 9 func287 Z fun h=>zSR (qH h Z Z fun _ _ h=>qH h Z Z fun _ _ h=>X1 7 1 h Z (zcB h F (qfc ⟨_,_,rfl,(h.oldS s2)⟩ (qdB (x:=kind) 0 h Z Z)) Z fun _ _ h F=>X0 2 Z (rb h F Z)))
def qbi (a_0:qG):Nat→Int→Int→Option (Int×Int)| 0,_,_=>U| n+1,b,a =>bif decide (a<(a_0.Ay.length:Int)) then(idx a_0.Ay a).bind fun c =>bif c.Bo then qbi a_0 n (W64 (b+1)) (W64 (a+1)) else qbi a_0 n b (W64 (a+1)) else V (b,a)
def qfP (n:Nat)(a_0:qG):Option Bool :=(qbi a_0 n 0 0).bind fun o=>match o with| (a,_) =>bif (a_0.Au==1) then bif (a==0) then(qex n a_0).bind fun r1 =>(shlS 1 r1).bind fun k =>bif ((a_0.Bn.length:Int)==k) then(qbN n a_0.Bn 0 1).bind fun b =>V b else V false else V false else bif (a_0.Au==2) then bif (a==1) then bif ((a_0.Bn.length:Int)==0) then(qdw n a_0 1).bind fun c =>bif (!c) then(qdw n a_0 2).bind fun d =>(qdw n a_0 3).bind fun f =>V (!(d==f)) else V false else V false else V false else bif (a_0.Au==3) then bif (a==1) then bif ((a_0.Bn.length:Int)==0) then(qdw n a_0 1).bind fun g =>bif g then(qdw n a_0 2).bind fun h =>bif h then(qdw n a_0 3).bind fun i =>V (!i) else V false else V false else V false else V false else V false
theorem qlr {a_0:qG}(a:Ro w a_0 cs1){r:Bool}(F:qfP n a_0=V r):RetV prog 273 [GoT.v qG cs1] w r:=by
 obtain⟨p1,z,H,C,I,D,rfl,s1,_,N⟩:=qag a;refine zV 83 func273 Z fun h=>zSR (qH h Z Z fun _ c h=>X1 14 0 h Z ?_);obtain⟨o1,F,d⟩:=qd F;refine qn (rL (fun m e w'=>∃(x:Int) (y:Int),qbi a_0 m x y=V o1∧e=[(1,.pointer (V ⟨c,0,U⟩)),(3,.int .i64 x),(7,.slice p1 a_0.Ay.length z),(8,.int .i64 (a_0.Ay.length:Int)),(9,.int .i64 y)]∧SH w w' [Ch.box c (qI a_0 p1 H I z C D) 184]) n ⟨_,_,F,rfl,h⟩ Z ?_);rintro A _ _ ⟨x,y,F,rfl,h⟩;rcases A with _|A
 ·cases F
 refine X0 5 Z (ql Z F ?_ ?_)<;>intro F
 ·refine zKSBSR ?_;obtain⟨_,_,F,g,_,_,_,_,i,k,l,f⟩:=s1.ix F;obtain rfl:=qeP l;refine zxe i k g Z (zc 0 (f.below h.below) Z (qj qa h Z Z Z fun _ _ h=>zs 0 h Z fun _ h=>X1 6 0 h Z (ql Z F ?_ ?_)))<;>intro F
  ·refine X0 10 Z ?_;replace h:=h.pick [1] Z;exact rK ⟨_,_,F,rfl,h⟩ Z
  refine X0 6 Z ?_;replace h:=h.pick [1] Z;exact rK ⟨_,_,F,rfl,h⟩ Z
 refine qw Z ?_;obtain rfl:=qc F;replace F:=d;refine X1 12 0 h Z (ql Z F ?_ ?_)<;>intro F
 ·refine qb8 (rD (zd3 Z (qaJ (t:=24) F Z ?_ ?_)))<;>intro F
  ·refine Y1 4 0 h Z ?_;refine Y1 4 0 h Z ?_;refine Y0 1 Z ?_;obtain⟨r1,o,F⟩:=qd F;refine qb3 r1 (vsI _) (cB 142 Z) (fun _ O=>qg7 ((h.ext O).old a) o) Z Z Z Z (Y0 1 Z ?_);obtain⟨_,b,F⟩:=qd F;obtain⟨B,b⟩:=qnz b;refine d_v (fun _ O=>qtI B Z Z) Z ?_;rw[b];refine Y0 4 Z (qaJ (t:=33) F Z ?_ ?_)<;>intro F
   ·refine Y1 4 0 h Z ?_;refine Y0 1 Z ?_;obtain⟨J,p,F⟩:=qd F;exact qb3 J (vsB _) (cB 78 Z) (fun _ O=>qcg ⟨_,_,rfl,((h.ext O).oldS N)⟩ p) Z Z Z Z (zd2 Z (dN h fun _ h=>rb h F Z))
   exact Y0 5 Z (dN h fun _ h=>rb h F Z)
  exact Y0 14 Z (dN h fun _ h=>rb h F Z)
 refine X0 5 Z (ql Z F ?_ ?_)<;>intro F
 ·refine qb8 (rD (zd3 Z (qaJ (t:=42) F Z ?_ ?_)))<;>intro F
  ·refine Y1 4 0 h Z ?_;refine Y0 6 Z (qaJ (t:=48) F Z ?_ ?_)<;>intro F
   ·refine Y1 2 0 h Z ?_;refine Y0 1 Z ?_;obtain⟨K,s,F⟩:=qd F;refine qb3 K (vsB _) (cB 287 Z) (fun _ O=>qen ((h.ext O).old a) s) Z Z Z Z (Y0 4 Z (qaJ (t:=53) F Z ?_ ?_))<;>intro F
    ·refine Y1 2 0 h Z ?_;refine Y0 1 Z ?_;obtain⟨L,u,F⟩:=qd F;refine qb3 L (vsB _) (cB 287 Z) (fun _ O=>qen ((h.ext O).old a) u) Z Z Z Z (Y1 2 0 h Z ?_);refine Y0 1 Z ?_;obtain⟨M,v,F⟩:=qd F;exact qb3 M (vsB _) (cB 287 Z) (fun _ O=>qen ((h.ext O).old a) v) Z Z Z Z (Y0 4 Z (dN h fun _ h=>rb h F Z))
    exact Y0 7 Z (dN h fun _ h=>rb h F Z)
   exact Y0 12 Z (dN h fun _ h=>rb h F Z)
  exact Y0 18 Z (dN h fun _ h=>rb h F Z)
 refine X0 5 Z (ql Z F ?_ ?_)<;>intro F
 ·refine X0 5 Z (qg (t:=64) F Z ?_ ?_)<;>intro F
  ·refine X1 10 0 h Z (qg (t:=70) F Z ?_ ?_)<;>intro F
   ·refine X1 3 0 h Z (zcB h F (qen (h.old a)) Z fun _ _ h F=>zp2 Z (qg (t:=74) F Z ?_ ?_))<;>intro F
    ·refine X1 3 0 h Z (zcB h F (qen (h.old a)) Z fun _ _ h F=>zp2 Z (qg (t:=78) F Z ?_ ?_))<;>intro F
     ·exact X1 3 0 h Z (zcB h F (qen (h.old a)) Z fun _ _ h F=>X0 5 Z (rb h F Z))
     exact X0 6 Z (rb h F Z)
    exact X0 10 Z (rb h F Z)
   exact X0 14 Z (rb h F Z)
  exact X0 20 Z (rb h F Z)
 exact X0 6 Z (rb h F Z)
def qj3 (n:Nat)(c:qG):Option Bool :=(qhF n c.Ba).bind fun r1 =>bif r1 then(qjj n c.Ay).bind fun a =>bif a then(qgn n c).bind fun b =>bif b then(qaW n c.Bw 0 100000).bind fun d =>bif d then(qaW n c.Bt 0 100000).bind fun f =>bif f then(qfP n c).bind fun g =>V g else V false else V false else V false else V false else V false
theorem qoO {c:qG}(a:Ro w c cs1){r:Bool}(F:qj3 n c=V r):RetV prog 242 [GoT.v qG cs1] w r:=by
 obtain⟨_,_,_,_,_,_,rfl,s1,_,_⟩:=qag a;refine zV 29 func242 Z fun h=>zSR (qH h Z Z fun _ _ h=>X1 6 0 h Z (zcB h F qjA Z fun _ _ h F=>zp1 Z (qg (t:=6) F Z ?_ ?_)))<;>intro F
 ·refine X1 5 0 h Z (zcB h F (qoe ⟨_,_,rfl,(h.oldS s1)⟩) Z fun _ _ h F=>zp2 Z (qg (t:=11) F Z ?_ ?_))<;>intro F
  ·refine X1 3 0 h Z (zcB h F (qlw (h.old a)) Z fun _ _ h F=>zp2 Z (qg (t:=15) F Z ?_ ?_))<;>intro F
   ·refine X1 5 0 h Z (zcB h F qaL Z fun _ _ h F=>zp2 Z (qg (t:=20) F Z ?_ ?_))<;>intro F
    ·refine X1 5 0 h Z (zcB h F qaL Z fun _ _ h F=>zp2 Z (qg (t:=25) F Z ?_ ?_))<;>intro F
     ·exact X1 3 0 h Z (zcB h F (qlr (h.old a)) Z fun _ _ h F=>X0 3 Z (rb h F Z))
     exact X0 5 Z (rb h F Z)
    exact X0 10 Z (rb h F Z)
   exact X0 15 Z (rb h F Z)
  exact X0 19 Z (rb h F Z)
 exact X0 24 Z (rb h F Z)
def qcL (l:qz):Nat→(List ByteArray)→Int→Option (Flow Bool ((List ByteArray)×Int))| 0,_,_=>U| n+1,b,a =>bif decide (a<(l.Ap.length:Int)) then(idx l.Ap a).bind fun c =>(qj3 n c).bind fun r1 =>bif (!r1) then V (.ret false) else(appS b ([c.Ba]:List ByteArray)).bind fun d =>qcL l n d (W64 (a+1)) else V (.nxt (b,a))
def qig (n:Nat)(l:qz):Option Bool :=(qcL l n ([]:List ByteArray) 0).bind fun o=>match o with| .ret r=>V r| .nxt (b,_) =>bif decide ((l.Ap.length:Int)≤8) then(qej n b).bind fun a =>V a else V false
theorem qmX {l:qz}(f:Ro w l cs1){r:Bool}(F:qig n l=V r):RetV prog 190 [GoT.v qz cs1] w r:=by
 obtain⟨p1,y,rfl,s1⟩:=qcG f;refine zV 30 func190 Z fun h=>zSR (qH h Z Z fun _ c h=>X1 14 0 h Z ?_);replace h:=h.nil (α:=ByteArray);obtain⟨o1,F,d⟩:=qd F;refine qn (rL (fun m e w'=>∃(S1:Nat→Prop) (v:Option Addr) (b:Nat) (u:Nat) (x:(List ByteArray)) (s:Int),qcL l m x s=V o1∧e=[(1,.pointer (V ⟨c,0,U⟩)),(3,.slice v b u),(7,.slice p1 l.Ap.length y),(8,.int .i64 (l.Ap.length:Int)),(9,.int .i64 s)]∧SH w w' [Ch.own S1 (x:List ByteArray) [.slice v b u],Ch.box c [.slice p1 l.Ap.length y] 26]) n ⟨_,_,_,_,_,_,F,rfl,h⟩ Z ?_);rintro z _ _ ⟨S1,v,b,u,x,s,F,rfl,h⟩;obtain rfl:=(h.sl 0 Z).2;rcases z with _|z
 ·cases F
 refine X0 5 Z (ql Z F ?_ ?_)<;>intro F
 ·refine zKSBSR ?_;obtain⟨A,_,F,i,_,_,_,_,k,o,p,g⟩:=s1.ix F;obtain⟨_,_,_,_,_,_,rfl,s2,C,D⟩:=qag p;refine zxe k o i Z (zc 0 (g.below h.below) Z (qj qa h Z Z Z fun _ _ h=>zs 0 h Z fun _ h=>X1 5 0 h Z (zcB h F (qoO (qpH A (h.oldS s2) (h.oldS C) (h.oldS D))) Z fun _ _ h F=>X0 2 Z (ql Z F ?_ ?_))))<;>intro F
  ·refine X0 4 Z ?_;obtain rfl:=qc F;replace F:=d;exact rb h F Z
  refine X1 5 0 h Z (qp qa [.tmp 18] _ ([A.Ba]:List ByteArray) h Z Z Z Z Z Z Z Z Z ⟨rfl,trivial⟩ Z fun _ _ _ h=>?_);obtain⟨_,a,F⟩:=qd F;obtain⟨B,a⟩:=qE a;refine qat qa 2 h Z (h.sl 0 Z).1 (h.sl 0 Z).2 Z Z Z Z Z Z Z Z Z B a Z fun _ _ _ _ h=>X0 7 Z ?_;replace h:=h.pick [2,3] Z;exact rK ⟨_,_,_,_,_,_,F,rfl,h⟩ Z
 refine qw Z ?_;obtain rfl:=qc F;replace F:=d;refine X1 7 1 h Z (qg (t:=26) F Z ?_ ?_)<;>intro F
 ·exact X0 3 Z (zcB h F (qfM (h.own 0 Z)) Z fun _ _ h F=>X0 3 Z (rb h F Z))
 exact X0 5 Z (rb h F Z)
def qbq (d:qi):Nat→(List ByteArray)→Int→Option ((List ByteArray)×Int)| 0,_,_=>U| n+1,b,a =>bif decide (a<(d.Ah.length:Int)) then(idx d.Ah a).bind fun f =>(appS b ([f.Ba]:List ByteArray)).bind fun c =>qbq d n c (W64 (a+1)) else V (b,a)
def qbv (d:qi):Nat→(List ByteArray)→Int→Option ((List ByteArray)×Int)| 0,_,_=>U| n+1,b,a =>bif decide (a<(d.Ab.length:Int)) then(idx d.Ab a).bind fun f =>(appS b ([f.Ba]:List ByteArray)).bind fun c =>qbv d n c (W64 (a+1)) else V (b,a)
def qe5 (n:Nat)(d:qi):Option Bool :=(qbv d n ([]:List ByteArray) 0).bind fun o=>match o with| (a,_) =>(qbq d n ([]:List ByteArray) 0).bind fun o=>match o with| (b,_) =>bif decide ((a.length:Int)≤14) then bif decide ((d.Aj.length:Int)≤30) then bif decide ((b.length:Int)≤8) then(qej n a).bind fun r1 =>bif r1 then(qej n d.Aj).bind fun c =>bif c then(qej n b).bind fun f =>V f else V false else V false else V false else V false else V false
theorem qkn {d:qi}(s:Ro w d cs1){r:Bool}(F:qe5 n d=V r):RetV prog 191 [GoT.v qi cs1] w r:=by
 obtain⟨p1,K,W,R,N,L,rfl,s1,s2,s3⟩:=qaT s;refine zV 62 func191 Z fun h=>zSR (qH h Z Z fun _ a h=>X1 15 0 h Z ?_);replace h:=h.nil (α:=ByteArray);obtain⟨o1,F,o⟩:=qd F;refine qn (rL (fun m e w'=>∃(S1:Nat→Prop) (l:Option Addr) (f:Nat) (k:Nat) (i:(List ByteArray)) (I:Int),qbv d m i I=V o1∧e=[(1,.pointer (V ⟨a,0,U⟩)),(3,.slice l f k),(4,.slice U 0 0),(10,.slice p1 d.Ab.length K),(11,.int .i64 (d.Ab.length:Int)),(12,.int .i64 I)]∧SH w w' [Ch.own S1 (i:List ByteArray) [.slice l f k],Ch.box a (qao d p1 W N K R L) 31]) n ⟨_,_,_,_,_,_,F,rfl,h⟩ Z ?_);rintro S _ _ ⟨S1,l,f,k,i,I,F,rfl,h⟩;obtain rfl:=(h.sl 0 Z).2;rcases S with _|S
 ·cases F
 refine X0 5 Z (ql Z F ?_ ?_)<;>intro F
 ·refine zKSBSR ?_;obtain⟨y1,_,F,x,_,_,_,_,z,B,D,u⟩:=s1.ix F;obtain⟨_,_,rfl,_⟩:=qav D;refine zxe z B x Z (zc 0 (u.below h.below) Z (qj qa h Z Z Z fun _ _ h=>zs 0 h Z fun _ h=>X1 5 0 h Z (qp qa [.tmp 18] _ ([y1.Ba]:List ByteArray) h Z Z Z Z Z Z Z Z Z ⟨rfl,trivial⟩ Z fun _ _ _ h=>?_)));obtain⟨_,b,F⟩:=qd F;obtain⟨X,b⟩:=qE b;refine qat qa 2 h Z (h.sl 0 Z).1 (h.sl 0 Z).2 Z Z Z Z Z Z Z Z Z X b Z fun _ _ _ _ h=>X0 7 Z ?_;replace h:=h.pick [2,3] Z;exact rK ⟨_,_,_,_,_,_,F,rfl,h⟩ Z
 refine qw Z ?_;obtain rfl:=qc F;replace F:=o;refine X1 8 1 h Z ?_;replace h:=h.nil (α:=ByteArray);obtain⟨o2,F,p⟩:=qd F;refine qn (rL (fun m e w'=>∃(Q:Nat→Prop) (O:Option Addr) (g:Nat) (M:Nat) (P:(List ByteArray)) (J:Int),qbq d m P J=V o2∧e=[(1,.pointer (V ⟨a,0,U⟩)),(3,.slice l i.length k),(4,.slice O g M),(23,.slice N d.Ah.length L),(24,.int .i64 (d.Ah.length:Int)),(25,.int .i64 J)]∧SH w w' [Ch.own Q (P:List ByteArray) [.slice O g M],Ch.own S1 (i:List ByteArray) [.slice l i.length k],Ch.box a (qao d p1 W N K R L) 31]) n ⟨_,_,_,_,_,_,F,rfl,h⟩ Z ?_);rintro T _ _ ⟨Q,O,g,M,P,J,F,rfl,h⟩;obtain rfl:=(h.sl 0 Z).2;rcases T with _|T
 ·cases F
 refine X0 5 Z (ql Z F ?_ ?_)<;>intro F
 ·refine zKSBSR ?_;obtain⟨y2,_,F,y,_,_,_,_,A,C,H,v⟩:=s3.ix F;obtain rfl:=qeA H;refine zxe A C y Z (zc 0 (v.below h.below) Z (qj qa h Z Z Z fun _ _ h=>zs 0 h Z fun _ h=>X1 5 0 h Z (qp qa [.tmp 31] _ ([y2.Ba]:List ByteArray) h Z Z Z Z Z Z Z Z Z ⟨rfl,trivial⟩ Z fun _ _ _ h=>?_)));obtain⟨_,c,F⟩:=qd F;obtain⟨Y,c⟩:=qE c;refine qat qa 2 h Z (h.sl 0 Z).1 (h.sl 0 Z).2 Z Z Z Z Z Z Z Z Z Y c Z fun _ _ _ _ h=>X0 7 Z ?_;replace h:=h.pick [2,3,4] Z;exact rK ⟨_,_,_,_,_,_,F,rfl,h⟩ Z
 refine qw Z ?_;obtain rfl:=qc F;replace F:=p;refine X0 6 Z (qg (t:=38) F Z ?_ ?_)<;>intro F
 ·refine X1 10 2 h Z (qg (t:=44) F Z ?_ ?_)<;>intro F
  ·refine X0 8 Z (qg (t:=49) F Z ?_ ?_)<;>intro F
   ·refine X0 3 Z (zcB h F (qfM (h.own 1 Z)) Z fun _ _ h F=>zp2 Z (qg (t:=53) F Z ?_ ?_))<;>intro F
    ·refine X1 5 2 h Z (zcB h F (qfM ⟨_,_,rfl,(h.oldS s2)⟩) Z fun _ _ h F=>zp2 Z (qg (t:=58) F Z ?_ ?_))<;>intro F
     ·exact X0 3 Z (zcB h F (qfM (h.own 0 Z)) Z fun _ _ h F=>X0 3 Z (rb h F Z))
     exact X0 5 Z (rb h F Z)
    exact X0 10 Z (rb h F Z)
   exact X0 14 Z (rb h F Z)
  exact X0 19 Z (rb h F Z)
 exact X0 25 Z (rb h F Z)
def qgg (_:Nat)(list:(List qG)):Option Int :=V (list.length:Int)
theorem qkk {list:(List qG)}(a:Ro w list cs1){r:Int}(F:qgg n list=V r):RetV prog 244 [GoT.v (List qG) cs1] w r:=by
 obtain⟨_,_,rfl,_⟩:=a;exact zV 5 func244 Z fun h=>X0 10 Z (ri h F Z)
def qhA (_:Nat)(list:(List ByteArray)):Option Int :=V (list.length:Int)
theorem qln {list:(List ByteArray)}(a:Ro w list cs1){r:Int}(F:qhA n list=V r):RetV prog 246 [GoT.v (List ByteArray) cs1] w r:=by
 obtain⟨_,_,rfl,_⟩:=a;exact zV 5 func246 Z fun h=>X0 10 Z (ri h F Z)
def qdM (n:Nat)(d:qi)(net:Int):Option Bool :=(qhA n d.Aj).bind fun r1 =>(qaW n net 0 (W64 (r1-1))).bind fun a =>V a
theorem qgA {d:qi}{net:Int}(a:Ro w d cs1){r:Bool}(F:qdM n d net=V r):RetV prog 193 [GoT.v qi cs1,.int .i64 net] w r:=by
 obtain⟨_,_,_,_,_,_,rfl,_,s2,_⟩:=qaT a;exact zV 11 func193 Z fun h=>zSR (qH h Z Z fun _ _ h=>X1 7 0 h Z (zcI h F (qln ⟨_,_,rfl,(h.oldS s2)⟩) Z fun _ _ h F=>zp1 Z (zcB h F qaL Z fun _ _ h F=>X0 2 Z (rb h F Z))))
def qdx (n:Nat)(net:Int)(a:qi):Option Bool :=(qdM n a net).bind fun r1 =>V (!r1)
theorem qja {net:Int}{d:qi}{p1:Option Addr}(a:Ro w (V d) [.pointer p1]){r:Bool}(F:qdx n net d=V r):RetV prog 245 [.int .i64 net,.pointer p1] w r:=by
 obtain⟨_,f,_,rfl,-,c,b⟩:=PtR.get a Z;obtain⟨_,_,_,_,_,_,rfl,s1,s2,g⟩:=qaT c;exact zV 8 func245 Z fun h=>X0 6 Z (zc 0 (b.below h.below) Z (zp1 Z (zcB h F (qgA (qaU d (h.oldS s1) (h.oldS s2) (h.oldS g))) Z fun _ _ h F=>X0 3 Z (rb h F Z))))
def qS (s:(List Int))(a:qi):Nat→Int→Option (Flow Int Int)| 0,_=>U| n+1,b =>bif decide (b<(s.length:Int)) then(idx s b).bind fun c =>(qdx n c a).bind fun r1 =>bif r1 then V (.ret b) else qS s a n (W64 (b+1)) else V (.nxt b)
def qa9 (n:Nat)(s:(List Int))(a:qi):Option Int :=(qS s a n 0).bind fun o=>match o with| .ret r=>V r| .nxt _ =>V (-1)
theorem qeE {s:(List Int)}{a:qi}(d:Ro w s cs1){u:Option Addr}(c:Ro w (V a) [.pointer u]){r:Int}(F:qa9 n s a=V r):RetV prog 217 [GoT.v (List Int) cs1,.func (.func 245) #[] #[.pointer u]] w r:=by
 obtain⟨p1,v,rfl,s1⟩:=d;obtain⟨b1,p,_,rfl,-,l,_⟩:=PtR.get c Z;obtain⟨_,_,_,_,_,_,rfl,_,_,_⟩:=qaT l;refine zV 19 func217 Z fun h=>X0 11 Z ?_;obtain⟨o1,F,b⟩:=qd F;refine qn (rL (fun m e w'=>∃(o:Int),qS s a m o=V o1∧e=[(0,.slice p1 s.length v),(1,.func (.func 245) #[] #[.pointer (V ⟨b1,p,U⟩)]),(7,.int .i64 (s.length:Int)),(8,.int .i64 o)]∧SH w w' []) n ⟨_,F,rfl,h⟩ Z ?_);rintro t _ _ ⟨o,F,rfl,h⟩;rcases t with _|t
 ·cases F
 refine X0 5 Z (ql Z F ?_ ?_)<;>intro F
 ·refine X0 13 Z ?_;obtain⟨_,_,F,g,_,_,_,_,i,k,rfl,f⟩:=s1.ix F;refine zxe i k g Z (zc 0 (f.below h.below) Z (zcB h F (qja (h.old c)) Z fun _ _ h F=>qbe (ql Z F ?_ ?_)))<;>intro F
  ·refine X0 5 Z ?_;obtain rfl:=qc F;replace F:=b;exact ri h F Z
  exact X0 6 Z (rK ⟨_,F,rfl,h⟩ Z)
 refine qw Z ?_;obtain rfl:=qc F;replace F:=b;exact X0 4 Z (ri h F Z)
def qaV (n:Nat)(s:(List Int))(a:qi):Option Bool :=(qa9 n s a).bind fun r1 =>V (decide (r1 ≥ 0))
theorem qd5 {s:(List Int)}{a:qi}(c:Ro w s cs1){f:Option Addr}(b:Ro w (V a) [.pointer f]){r:Bool}(F:qaV n s a=V r):RetV prog 157 [GoT.v (List Int) cs1,.func (.func 245) #[] #[.pointer f]] w r:=by
 obtain⟨_,_,rfl,s1⟩:=c;obtain⟨_,g,_,rfl,-,d,_⟩:=PtR.get b Z;obtain⟨_,_,_,_,_,_,rfl,_,_,_⟩:=qaT d;exact zV 9 func157 Z fun h=>X0 8 Z (zcI h F (qeE ⟨_,_,rfl,(h.oldS s1)⟩ (h.old b)) Z fun _ _ h F=>X0 3 Z (rb h F Z))
def qd8 (n:Nat)(d:qi)(l:qz)(x:qF):Option Bool :=(qgg n l.Ap).bind fun r1 =>(qaW n x.Bp 0 (W64 (r1-1))).bind fun a =>bif a then(idx l.Ap x.Bp).bind fun c =>bif ((x.Aj.length:Int)==(c.Ay.length:Int)) then(qaV n x.Aj d).bind fun b =>V (!b) else V false else V false
theorem qjL {d:qi}{l:qz}{x:qF}(a:Ro w d cs1)(b:Ro w l cs2)(c:Ro w x cs3){r:Bool}(F:qd8 n d l x=V r):RetV prog 192 [GoT.v qi cs1,GoT.v qz cs2,GoT.v qF cs3] w r:=by
 obtain⟨_,_,_,_,_,_,rfl,_,_,_⟩:=qaT a;obtain⟨_,_,rfl,u⟩:=qcG b;obtain⟨_,_,rfl,z⟩:=qav c;refine zV 35 func192 Z fun h=>zSR (qH h Z Z fun _ _ h=>qH h Z Z fun _ _ h=>qH h Z Z fun _ _ h=>X0 3 Z (rD (Y1 2 0 h Z ?_)));refine Y1 2 1 h Z ?_;obtain⟨r1,m,F⟩:=qd F;refine qb3 r1 (vsI _) (cB 244 Z) (fun _ A=>qkk ⟨_,_,rfl,((h.ext A).oldS u)⟩ m) Z Z Z Z (zd1 Z ?_);obtain⟨v,o,F⟩:=qd F;refine qb3 v (vsB _) (cB 58 Z) (fun _ A=>qaL  o) Z Z Z Z (zd1 Z (qaJ (t:=14) F Z ?_ ?_))<;>intro F
 ·refine Y1 4 0 h Z ?_;refine Y1 6 1 h Z ?_;refine Y1 4 0 h Z ?_;refine Y0 1 Z ?_;obtain⟨_,_,F,g,_,_,_,_,i,k,p,f⟩:=u.ix F;obtain⟨_,_,_,_,_,_,rfl,_,_,_⟩:=qag p;refine zdxe i k g Z (Y0 3 Z (zdc 2 (f.below h.below) Z (Y0 6 Z (qaJ (t:=28) F Z ?_ ?_))))<;>intro F
  ·refine Y1 4 0 h Z ?_;refine Y0 3 Z ?_;obtain⟨y,s,F⟩:=qd F;exact qb3 y (vsB _) (cB 157 Z) (fun _ A=>qd5 ⟨_,_,rfl,((h.ext A).oldS z)⟩ (qdB (x:=d) 2 (h.ext A) Z ((h.ext A).old a)) s) Z Z Z Z (Y0 4 Z (dN h fun _ h=>rb h F Z))
  exact Y0 7 Z (dN h fun _ h=>rb h F Z)
 exact Y0 21 Z (dN h fun _ h=>rb h F Z)
def qi6 (_:Nat)(a:Int):Option Bool :=V (a != 1)
theorem qmy {a:Int}  {r:Bool}(F:qi6 n a=V r):RetV prog 195 [.int .i64 a] w r:=by
 exact zV 5 func195 Z fun h=>X0 10 Z (rb h F Z)
def qam (s:(List Int)):Nat→Int→Option (Flow Int Int)| 0,_=>U| n+1,a =>bif decide (a<(s.length:Int)) then(idx s a).bind fun b =>(qi6 n b).bind fun r1 =>bif r1 then V (.ret a) else qam s n (W64 (a+1)) else V (.nxt a)
def qca (n:Nat)(s:(List Int)):Option Int :=(qam s n 0).bind fun o=>match o with| .ret r=>V r| .nxt _ =>V (-1)
theorem qgr {s:(List Int)}(b:Ro w s cs1){r:Int}(F:qca n s=V r):RetV prog 247 [GoT.v (List Int) cs1,.func (.func 195) #[] #[]] w r:=by
 obtain⟨p1,l,rfl,s1⟩:=b;refine zV 19 func247 Z fun h=>X0 11 Z ?_;obtain⟨o1,F,a⟩:=qd F;refine qn (rL (fun m e w'=>∃(i:Int),qam s m i=V o1∧e=[(0,.slice p1 s.length l),(1,.func (.func 195) #[] #[]),(7,.int .i64 (s.length:Int)),(8,.int .i64 i)]∧SH w w' []) n ⟨_,F,rfl,h⟩ Z ?_);rintro k _ _ ⟨i,F,rfl,h⟩;rcases k with _|k
 ·cases F
 refine X0 5 Z (ql Z F ?_ ?_)<;>intro F
 ·refine X0 13 Z ?_;obtain⟨_,_,F,d,_,_,_,_,f,g,rfl,c⟩:=s1.ix F;refine zxe f g d Z (zc 0 (c.below h.below) Z (zcB h F qmy Z fun _ _ h F=>qbe (ql Z F ?_ ?_)))<;>intro F
  ·refine X0 5 Z ?_;obtain rfl:=qc F;replace F:=a;exact ri h F Z
  exact X0 6 Z (rK ⟨_,F,rfl,h⟩ Z)
 refine qw Z ?_;obtain rfl:=qc F;replace F:=a;exact X0 4 Z (ri h F Z)
def qbW (n:Nat)(s:(List Int)):Option Bool :=(qca n s).bind fun r1 =>V (decide (r1 ≥ 0))
theorem qfU {s:(List Int)}(a:Ro w s cs1){r:Bool}(F:qbW n s=V r):RetV prog 194 [GoT.v (List Int) cs1,.func (.func 195) #[] #[]] w r:=by
 obtain⟨_,_,rfl,s1⟩:=a;exact zV 9 func194 Z fun h=>X0 8 Z (zcI h F (qgr ⟨_,_,rfl,(h.oldS s1)⟩) Z fun _ _ h F=>X0 3 Z (rb h F Z))
def qcC (a_1:qi):Nat→(List Int)→Int→Option (Flow Bool ((List Int)×Int))| 0,_,_=>U| n+1,c,b =>bif decide (b<(a_1.Ah.length:Int)) then(idx a_1.Ah b).bind fun a =>(bif (a.Bs != 1) then bif (a.Bs != 2) then V true else(qdM n a_1 a.Bv).bind fun f =>V (!f) else(qdM n a_1 a.Bv).bind fun g =>V (!g)).bind fun d =>bif d then V (.ret false) else bif (a.Bs==1) then(idx c a.Bv).bind fun h =>(idx c a.Bv).bind fun _ =>qcC a_1 n (setS c a.Bv (W64 (h+1))) (W64 (b+1)) else qcC a_1 n c (W64 (b+1)) else V (.nxt (c,b))
def qdl (a_0:qz)(a_1:qi):Nat→(List Int)→Int→Option (Flow Bool ((List Int)×Int))| 0,_,_=>U| n+1,b,a =>bif decide (a<(a_1.Ab.length:Int)) then(idx a_1.Ab a).bind fun c =>(qd8 n a_1 a_0 c).bind fun r1 =>bif (!r1) then V (.ret false) else(idx c.Aj (W64 ((c.Aj.length:Int)-1))).bind fun d =>(idx b d).bind fun f =>(idx b d).bind fun _ =>qdl a_0 a_1 n (setS b d (W64 (f+1))) (W64 (a+1)) else V (.nxt (b,a))
def qiA (n:Nat)(a_0:qz)(a_1:qi):Option Bool :=((qig n a_0).bind fun b =>bif (!b) then V true else(qe5 n a_1).bind fun c =>V (!c)).bind fun b1 =>bif b1 then V false else(mkS (a_1.Aj.length:Int) (0:Int)).bind fun d =>(qdl a_0 a_1 n d 0).bind fun o=>match o with| .ret r=>V r| .nxt (f,_) =>(qcC a_1 n f 0).bind fun o=>match o with| .ret r=>V r| .nxt (g,_) =>(qbW n g).bind fun a =>V (!a)
theorem qnG {a_0:qz}{a_1:qi}(g:Ro w a_0 cs1)(c:Ro w a_1 cs2){r:Bool}(F:qiA n a_0 a_1=V r):RetV prog 123 [GoT.v qz cs1,GoT.v qi cs2] w r:=by
 obtain⟨p1,k1,rfl,_⟩:=qcG g;obtain⟨N,M,Q,P,l,k,rfl,s2,_,s4⟩:=qaT c;refine zV 84 func123 Z fun h=>zSR (qH h Z Z fun _ d h=>qH h Z Z fun _ a h=>X0 4 Z ?_);obtain⟨T,y,_,F,v⟩:=bindE F;refine qaF (fun e w'=>∃(b1:Bool),T b1=V r∧e=[(2,.pointer (V ⟨d,0,U⟩)),(3,.pointer (V ⟨a,0,U⟩)),(17,.bool b1)]∧SH w w' [Ch.box a (qao a_1 N Q l M P k) 31,Ch.box d [.slice p1 a_0.Ap.length k1] 26]) ?_ ?_
 ·refine X1 2 1 h Z (zcB h F (qmX (h.old g)) Z fun _ _ h F=>zp2 Z (qg (t:=13) F Z ?_ ?_))<;>intro F
  ·refine X0 5 Z ?_;obtain rfl:=qc F;exact rG ⟨_,v,rfl,h⟩ Z
  refine X1 3 0 h Z (zcB h F (qkn (h.old c)) Z fun _ _ h F=>X0 4 Z ?_);obtain rfl:=qc F;exact rG ⟨_,v,rfl,h⟩ Z
 rintro _ _ ⟨b1,F,rfl,h⟩;subst y;refine ql Z F ?_ ?_<;>intro F
 ·exact X0 4 Z (rb h F Z)
 refine X1 6 0 h Z ?_;obtain⟨b,i,F⟩:=qd F;obtain⟨g1,g2,i⟩:=qab i;refine qaq qa Int h Z Z Z Z Z Z Z Z Z g1 g2 i Z fun _ S1 o h=>X1 10 1 h Z ?_;obtain⟨o1,F,s⟩:=qd F;refine qn (rL (fun m e w'=>∃(x2:(List Int)) (i1:Int),qdl a_0 a_1 m x2 i1=V o1∧e=[(2,.pointer (V ⟨d,0,U⟩)),(3,.pointer (V ⟨a,0,U⟩)),(5,.slice o b.length b.length),(23,.slice N a_1.Ab.length M),(24,.int .i64 (a_1.Ab.length:Int)),(25,.int .i64 i1)]∧SH w w' [Ch.own S1 (x2:List Int) [.slice o b.length b.length],Ch.box a (qao a_1 N Q l M P k) 31,Ch.box d [.slice p1 a_0.Ap.length k1] 26]) n ⟨_,_,F,rfl,h⟩ Z ?_);rintro m1 _ _ ⟨x2,i1,F,rfl,h⟩;rcases m1 with _|m1
 ·cases F
 refine X0 5 Z (ql Z F ?_ ?_)<;>intro F
 ·refine zKSBSR ?_;obtain⟨y1,_,F,a6,_,_,_,_,a9,b9,c5,X⟩:=s2.ix F;obtain⟨_,_,rfl,s5⟩:=qav c5;refine zxe a9 b9 a6 Z (zc 0 (X.below h.below) Z (qj qa h Z Z Z fun _ _ h=>zs 0 h Z fun _ h=>X3 7 2 3 0 h Z (zcB h F (qjL (h.old c) (h.old g) (qke y1 (h.oldS s5))) Z fun _ _ h F=>X0 2 Z (ql Z F ?_ ?_))))<;>intro F
  ·refine X0 4 Z ?_;obtain rfl:=qc F;replace F:=s;exact rb h F Z
  refine X2 9 0 0 h Z ?_;obtain⟨_,_,F,a7,_,_,_,_,b4,c0,rfl,Y⟩:=s5.ix F;refine zxe b4 c0 a7 Z (zc 0 (Y.below h.below) Z ?_);obtain⟨y3,_,F,B,_,_,_,_,b5,c2,rfl,a3⟩:=(h.sl 1 Z).1.ix F;refine zx b5 c2 ⟨B.1,qC B.2.1 (h.sl 1 Z).2⟩ Z (zc 0 a3 Z (zp1 Z ?_));obtain⟨_,c7,F,C,_,_,_,_,I,K,rfl,a4⟩:=(h.sl 1 Z).1.ix F;refine zx I K ⟨C.1,qC C.2.1 (h.sl 1 Z).2⟩ Z (qaH qa 1 0 (W64 (y3+1)) h Z c7 I K Z a4 Z Z Z Z Z Z Z fun _ h=>X0 6 Z ?_);replace h:=h.pick [1,2,3] Z;exact rK ⟨_,_,F,rfl,h⟩ Z
 refine qw Z ?_;obtain rfl:=qc F;replace F:=s;refine X1 8 1 h Z ?_;obtain⟨o2,F,u⟩:=qd F;refine qn ?_;replace h:=h.pick [0,1] Z;refine rL (fun m e w'=>∃(R:(List Int)) (O:Int),qcC a_1 m R O=V o2∧e=[(3,.pointer (V ⟨a,0,U⟩)),(5,.slice o b.length b.length),(49,.slice l a_1.Ah.length k),(50,.int .i64 (a_1.Ah.length:Int)),(51,.int .i64 O)]∧SH w w' [Ch.own S1 (R:List Int) [.slice o b.length b.length],Ch.box a (qao a_1 N Q l M P k) 31]) n ⟨_,_,F,rfl,h⟩ Z ?_;rintro m2 _ _ ⟨R,O,F,rfl,h⟩;rcases m2 with _|m2
 ·cases F
 refine X0 5 Z (ql Z F ?_ ?_)<;>intro F
 ·refine zKSBSR ?_;obtain⟨y5,_,F,a8,_,_,_,_,b6,c3,c6,a5⟩:=s4.ix F;obtain rfl:=qeA c6;refine zxe b6 c3 a8 Z (zc 0 (a5.below h.below) Z (qj qa h Z Z Z fun _ p h=>zs 0 h Z fun _ h=>zNSS ?_));obtain⟨S,x,_,F,f⟩:=bindE F;refine qaF (fun e w'=>∃(W:Bool),S W=V o2∧e=[(3,.pointer (V ⟨a,0,U⟩)),(5,.slice o b.length b.length),(9,.pointer (V ⟨p,0,U⟩)),(49,.slice l a_1.Ah.length k),(50,.int .i64 (a_1.Ah.length:Int)),(51,.int .i64 O),(69,.bool W)]∧SH w w' [Ch.box p (qp1 y5) 267,Ch.own S1 (R:List Int) [.slice o b.length b.length],Ch.box a (qao a_1 N Q l M P k) 31]) ?_ ?_
  ·refine X1 5 0 h Z (qg (t:=58) F Z ?_ ?_)<;>intro F
   ·refine X1 8 0 h Z (qg (t:=63) F Z ?_ ?_)<;>intro F
    ·refine X0 7 Z ?_;obtain rfl:=qc F;exact rG ⟨_,f,rfl,h⟩ Z
    refine X2 7 2 0 h Z (zcB h F (qgA (h.old c)) Z fun _ _ h F=>X0 4 Z ?_);obtain rfl:=qc F;exact rG ⟨_,f,rfl,h⟩ Z
   refine X2 12 2 0 h Z (zcB h F (qgA (h.old c)) Z fun _ _ h F=>X0 4 Z ?_);obtain rfl:=qc F;exact rG ⟨_,f,rfl,h⟩ Z
  rintro _ _ ⟨W,F,rfl,h⟩;subst x;refine ql Z F ?_ ?_<;>intro F
  ·refine X0 4 Z ?_;obtain rfl:=qc F;replace F:=u;exact rb h F Z
  refine X1 7 0 h Z (ql Z F ?_ ?_)<;>intro F
  ·refine X1 4 0 h Z ?_;obtain⟨y6,_,F,D,_,_,_,_,b8,c4,rfl,z⟩:=(h.sl 1 Z).1.ix F;refine zx b8 c4 ⟨D.1,qC D.2.1 (h.sl 1 Z).2⟩ Z (zc 0 z Z (zp1 Z ?_));obtain⟨_,c8,F,H,_,_,_,_,J,L,rfl,A⟩:=(h.sl 1 Z).1.ix F;refine zx J L ⟨H.1,qC H.2.1 (h.sl 1 Z).2⟩ Z (qaH qa 1 0 (W64 (y6+1)) h Z c8 J L Z A Z Z Z Z Z Z Z fun _ h=>X0 6 Z ?_);replace h:=h.pick [1,2] Z;exact rK ⟨_,_,F,rfl,h⟩ Z
  refine X0 6 Z ?_;replace h:=h.pick [1,2] Z;exact rK ⟨_,_,F,rfl,h⟩ Z
 refine qw Z ?_;obtain rfl:=qc F;replace F:=u;exact X0 3 Z (zcB h F (qfU (h.own 0 Z)) Z fun _ _ h F=>X0 3 Z (rb h F Z))
def qbU (c:Int)(b:qF):Nat→(List Tplace)→Int→Option ((List Tplace)×Int)| 0,_,_=>U| n+1,d,a =>bif decide (a<(b.Aj.length:Int)) then(idx b.Aj a).bind fun g =>(appS d ([(⟨c,a,g,(a==(W64 ((b.Aj.length:Int)-1)))⟩:Tplace)]:List Tplace)).bind fun f =>qbU c b n f (W64 (a+1)) else V (d,a)
def qbT (d:qi):Nat→(List Tplace)→Int→Option ((List Tplace)×Int)| 0,_,_=>U| n+1,b,a =>bif decide (a<(d.Ah.length:Int)) then(idx d.Ah a).bind fun c =>(appS b ([(⟨(-1),a,c.Bv,(c.Bs==1)⟩:Tplace)]:List Tplace)).bind fun f =>qbT d n f (W64 (a+1)) else V (b,a)
def qbR (d:qi):Nat→(List Tplace)→Int→Option ((List Tplace)×Int)| 0,_,_=>U| n+1,b,a =>bif decide (a<(d.Ab.length:Int)) then(idx d.Ab a).bind fun f =>(qbU a f n b 0).bind fun o=>match o with| (c,_) =>qbR d n c (W64 (a+1)) else V (b,a)
def qcp (n:Nat)(d:qi):Option (List Tplace) :=(qbR d n ([]:List Tplace) 0).bind fun o=>match o with| (a,_) =>(qbT d n a 0).bind fun o=>match o with| (b,_) =>V b
theorem qdf {d:qi}(z:Ro w d cs1){r:(List Tplace)}(F:qcp n d=V r):RetV prog 124 [GoT.v qi cs1] w r:=by
 obtain⟨p1,t,p2,k2,Y,R,rfl,s1,_,s3⟩:=qaT z;refine zV 61 func124 Z fun h=>zSR (qH h Z Z fun _ a h=>X1 14 0 h Z ?_);replace h:=h.nil (α:=Tplace);obtain⟨o1,F,v⟩:=qd F;refine qn (rL (fun m e w'=>∃(S1:Nat→Prop) (p4:Option Addr) (i:Nat) (S:Nat) (x1:(List Tplace)) (b:Int),qbR d m x1 b=V o1∧e=[(1,.pointer (V ⟨a,0,U⟩)),(3,.slice p4 i S),(11,.slice p1 d.Ab.length t),(12,.int .i64 (d.Ab.length:Int)),(13,.int .i64 b)]∧SH w w' [Ch.own S1 (x1:List Tplace) [.slice p4 i S],Ch.box a (qao d p1 p2 Y t k2 R) 31]) n ⟨_,_,_,_,_,_,F,rfl,h⟩ Z ?_);rintro X _ _ ⟨S1,p4,i,S,x1,b,F,rfl,h⟩;obtain rfl:=(h.sl 0 Z).2;rcases X with _|X
 ·cases F
 refine X0 5 Z (ql Z F ?_ ?_)<;>intro F
 ·refine X0 6 Z ?_;obtain⟨o,_,F,D,_,_,_,_,J,M,P,A⟩:=s1.ix F;obtain⟨p5,k5,rfl,s4⟩:=qav P;refine zxe J M D Z (zc 0 (A.below h.below) Z (qj qa h Z Z Z fun _ p h=>zp1 Z (zs 0 h Z fun _ h=>X1 8 0 h Z ?_)));obtain⟨o2,F,x⟩:=qd F;refine qn (rL (fun m e w'=>∃(S2:Nat→Prop) (p6:Option Addr) (k:Nat) (T:Nat) (x2:(List Tplace)) (g:Int),qbU b o m x2 g=V o2∧e=[(1,.pointer (V ⟨a,0,U⟩)),(3,.slice p6 k T),(4,.int .i64 b),(5,.pointer (V ⟨p,0,U⟩)),(11,.slice p1 d.Ab.length t),(12,.int .i64 (d.Ab.length:Int)),(13,.int .i64 b),(19,.slice p5 o.Aj.length k5),(20,.int .i64 (o.Aj.length:Int)),(21,.int .i64 g)]∧SH w w' [Ch.box p (qiR o p5 k5) 102,Ch.own S2 (x2:List Tplace) [.slice p6 k T],Ch.box a (qao d p1 p2 Y t k2 R) 31]) X ⟨_,_,_,_,_,_,F,rfl,h⟩ Z ?_);rintro m2 _ _ ⟨S2,p6,k,T,x2,g,F,rfl,h⟩;obtain rfl:=(h.sl 1 Z).2;rcases m2 with _|m2
  ·cases F
  refine X0 5 Z (ql Z F ?_ ?_)<;>intro F
  ·refine X0 6 Z ?_;obtain⟨y2,_,F,H,_,_,_,_,K,N,rfl,B⟩:=s4.ix F;refine zxe K N H Z (zc 0 (B.below h.below) Z (X1 14 0 h Z (r_v (qq qa [0,1,2,3] [.tmp 27,.tmp 28,.tmp 29,.tmp 35] Z Z Z Z Z Z Z Z) Z (qp qa [.tmp 36] _ ([(⟨b,g,y2,(g==(W64 ((o.Aj.length:Int)-1)))⟩:Tplace)]:List Tplace) h Z Z Z Z Z Z Z Z Z ⟨(qk6 (⟨b,g,y2,(g==(W64 ((o.Aj.length:Int)-1)))⟩:Tplace)),trivial⟩ Z fun _ _ _ h=>?_))));obtain⟨_,c,F⟩:=qd F;obtain⟨g1,c⟩:=qE c;refine qat qa 2 h Z (h.sl 0 Z).1 (h.sl 0 Z).2 Z Z Z Z Z Z Z Z Z g1 c Z fun _ _ _ _ h=>X0 7 Z ?_;replace h:=h.pick [1,2,3] Z;exact rK ⟨_,_,_,_,_,_,F,rfl,h⟩ Z
  refine qw Z ?_;obtain rfl:=qc F;replace F:=x;refine X0 5 Z ?_;replace h:=h.pick [1,2] Z;exact rK ⟨_,_,_,_,_,_,F,rfl,h⟩ Z
 refine qw Z ?_;obtain rfl:=qc F;replace F:=v;refine X1 8 1 h Z ?_;obtain⟨o3,F,y⟩:=qd F;refine qn ?_;replace h:=h.pick [0] Z;refine rL (fun m e w'=>∃(S5:Nat→Prop) (p9:Option Addr) (l:Nat) (W:Nat) (x4:(List Tplace)) (s:Int),qbT d m x4 s=V o3∧e=[(3,.slice p9 l W),(42,.slice Y d.Ah.length R),(43,.int .i64 (d.Ah.length:Int)),(44,.int .i64 s)]∧SH w w' [Ch.own S5 (x4:List Tplace) [.slice p9 l W]]) n ⟨_,_,_,_,_,_,F,rfl,h⟩ Z ?_;rintro m3 _ _ ⟨S5,p9,l,W,x4,s,F,rfl,h⟩;obtain rfl:=(h.sl 0 Z).2;rcases m3 with _|m3
 ·cases F
 refine X0 5 Z (ql Z F ?_ ?_)<;>intro F
 ·refine X0 6 Z ?_;obtain⟨u,_,F,I,_,_,_,_,L,O,Q,C⟩:=s3.ix F;obtain rfl:=qeA Q;refine zxe L O I Z (zc 0 (C.below h.below) Z (qj qa h Z Z Z fun _ _ h=>zp1 Z (zs 0 h Z fun _ h=>X2 9 0 0 h Z (r_v (qq qa [0,1,2,3] [.const (.int .i64 (-1)),.tmp 50,.tmp 52,.tmp 55] Z Z Z Z Z Z Z Z) Z (qp qa [.tmp 56] _ ([(⟨(-1),s,u.Bv,(u.Bs==1)⟩:Tplace)]:List Tplace) h Z Z Z Z Z Z Z Z Z ⟨(qk6 (⟨(-1),s,u.Bv,(u.Bs==1)⟩:Tplace)),trivial⟩ Z fun _ _ _ h=>?_)))));obtain⟨_,f,F⟩:=qd F;obtain⟨g2,f⟩:=qE f;refine qat qa 2 h Z (h.sl 0 Z).1 (h.sl 0 Z).2 Z Z Z Z Z Z Z Z Z g2 f Z fun _ _ _ _ h=>X0 7 Z ?_;replace h:=h.pick [2] Z;exact rK ⟨_,_,_,_,_,_,F,rfl,h⟩ Z
 refine qw Z ?_;obtain rfl:=qc F;replace F:=y;refine X0 5 Z ?_;obtain rfl:=qc F;exact rO 0 h Z ⟨rfl,trivial⟩
def qbk (f:qad):Nat→Int→Option (Flow Bool Int)| 0,_=>U| n+1,a =>bif decide (a<(f.Ai.length:Int)) then(idx f.Ai a).bind fun b =>bif (a==0) then bif (b != (-1)) then V (.ret false) else(idx f.Bq 0).bind fun d =>bif (d != 0) then V (.ret false) else bif decide (a > 0) then(qaW n b 0 (W64 (a-1))).bind fun r1 =>bif (!r1) then V (.ret false) else qbk f n (W64 (a+1)) else qbk f n (W64 (a+1)) else bif decide (a > 0) then(qaW n b 0 (W64 (a-1))).bind fun c =>bif (!c) then V (.ret false) else qbk f n (W64 (a+1)) else qbk f n (W64 (a+1)) else V (.nxt a)
def qgJ (n:Nat)(a:qad):Option Bool :=(qbk a n 0).bind fun o=>match o with| .ret r=>V r| .nxt _ =>V true
theorem qmn {D:qad}(c:Ro w D cs1){r:Bool}(F:qgJ n D=V r):RetV prog 196 [GoT.v qad cs1] w r:=by
 obtain⟨p1,u,A,x,B,y,C,z,rfl,s1,s2,_,_⟩:=qbH c;refine zV 38 func196 Z fun h=>zSR (qH h Z Z fun _ b h=>X1 10 0 h Z ?_);obtain⟨o1,F,a⟩:=qd F;refine qn (rL (fun m e w'=>∃(s:Int),qbk D m s=V o1∧e=[(1,.pointer (V ⟨b,0,U⟩)),(6,.slice p1 D.Ai.length u),(7,.int .i64 (D.Ai.length:Int)),(8,.int .i64 s)]∧SH w w' [Ch.box b (qfS D p1 A B C u x y z) 196]) n ⟨_,F,rfl,h⟩ Z ?_);rintro v _ _ ⟨s,F,rfl,h⟩;rcases v with _|v
 ·cases F
 refine X0 5 Z (ql Z F ?_ ?_)<;>intro F
 ·refine X0 6 Z ?_;obtain⟨_,_,F,g,_,_,_,_,k,o,rfl,d⟩:=s1.ix F;refine zxe k o g Z (zc 0 (d.below h.below) Z (X0 8 Z (qg (t:=15) F Z ?_ ?_)))<;>intro F
  ·refine X0 6 Z (qg (t:=18) F Z ?_ ?_)<;>intro F
   ·refine X0 20 Z (qbX Z Z (X0 4 Z ?_));obtain rfl:=qc F;replace F:=a;exact rb h F Z
   refine X1 5 0 h Z ?_;obtain⟨_,_,F,i,_,_,_,_,l,p,rfl,f⟩:=s2.ix F;refine zxe l p i Z (X0 1 Z (zc 0 (f.below h.below) Z (X0 6 Z (qg (t:=26) F Z ?_ ?_))))<;>intro F
   ·refine X0 11 Z (qbX Z Z (X0 4 Z ?_));obtain rfl:=qc F;replace F:=a;exact rb h F Z
   refine X0 6 Z (qg (t:=29) F Z ?_ ?_)<;>intro F
   ·refine X0 7 Z (zcB h F qaL Z fun _ _ h F=>X0 6 Z (ql Z F ?_ ?_))<;>intro F
    ·refine X0 4 Z ?_;obtain rfl:=qc F;replace F:=a;exact rb h F Z
    exact X0 6 Z (rK ⟨_,F,rfl,h⟩ Z)
   exact X0 9 Z (qbE Z Z (X0 6 Z (rK ⟨_,F,rfl,h⟩ Z)))
  refine X0 17 Z (qg (t:=29) F Z ?_ ?_)<;>intro F
  ·refine X0 7 Z (zcB h F qaL Z fun _ _ h F=>X0 6 Z (ql Z F ?_ ?_))<;>intro F
   ·refine X0 4 Z ?_;obtain rfl:=qc F;replace F:=a;exact rb h F Z
   exact X0 6 Z (rK ⟨_,F,rfl,h⟩ Z)
  exact X0 9 Z (qbE Z Z (X0 6 Z (rK ⟨_,F,rfl,h⟩ Z)))
 refine qw Z ?_;obtain rfl:=qc F;replace F:=a;exact X0 4 Z (rb h F Z)
def qjT (n:Nat)(k:qad)(sinks:Int):Option Bool :=(qbx n k.Ai).bind fun r1 =>(qaW n r1 1 8).bind fun a =>bif a then(qbx n k.Bq).bind fun b =>bif (b==r1) then(qbx n k.Bl).bind fun c =>bif (c==r1) then(qgJ n k).bind fun d =>bif d then(qbN n k.Bq 0 1000).bind fun f =>bif f then(qbN n k.Bl 0 500).bind fun g =>bif g then(qbx n k.Bb).bind fun h =>bif (h==sinks) then(qbN n k.Bb 0 (W64 (r1-1))).bind fun i =>V i else V false else V false else V false else V false else V false else V false else V false
theorem qoT {d:qad}{sinks:Int}(a:Ro w d cs1){r:Bool}(F:qjT n d sinks=V r):RetV prog 125 [GoT.v qad cs1,.int .i64 sinks] w r:=by
 obtain⟨_,_,_,_,_,_,_,_,rfl,s1,s2,b,c⟩:=qbH a;refine zV 53 func125 Z fun h=>zSR (qH h Z Z fun _ _ h=>X1 6 0 h Z (zcI h F (qbZ ⟨_,_,rfl,(h.oldS s1)⟩) Z fun _ _ h F=>X0 5 Z (zcB h F qaL Z fun _ _ h F=>zp1 Z (qg (t:=11) F Z ?_ ?_))))<;>intro F
 ·refine X1 5 0 h Z (zcI h F (qbZ ⟨_,_,rfl,(h.oldS s2)⟩) Z fun _ _ h F=>X0 6 Z (qg (t:=18) F Z ?_ ?_))<;>intro F
  ·refine X1 5 0 h Z (zcI h F (qbZ ⟨_,_,rfl,(h.oldS b)⟩) Z fun _ _ h F=>X0 6 Z (qg (t:=25) F Z ?_ ?_))<;>intro F
   ·refine X1 3 0 h Z (zcB h F (qmn (h.old a)) Z fun _ _ h F=>zp2 Z (qg (t:=29) F Z ?_ ?_))<;>intro F
    ·refine X1 5 0 h Z (zcB h F (qcg ⟨_,_,rfl,(h.oldS s2)⟩) Z fun _ _ h F=>zp2 Z (qg (t:=34) F Z ?_ ?_))<;>intro F
     ·refine X1 5 0 h Z (zcB h F (qcg ⟨_,_,rfl,(h.oldS b)⟩) Z fun _ _ h F=>zp2 Z (qg (t:=39) F Z ?_ ?_))<;>intro F
      ·refine X1 5 0 h Z (zcI h F (qbZ ⟨_,_,rfl,(h.oldS c)⟩) Z fun _ _ h F=>X0 6 Z (qg (t:=46) F Z ?_ ?_))<;>intro F
       ·exact X1 9 0 h Z (zcB h F (qcg ⟨_,_,rfl,(h.oldS c)⟩) Z fun _ _ h F=>X0 3 Z (rb h F Z))
       exact X0 8 Z (rb h F Z)
      exact X0 15 Z (rb h F Z)
     exact X0 20 Z (rb h F Z)
    exact X0 25 Z (rb h F Z)
   exact X0 29 Z (rb h F Z)
  exact X0 36 Z (rb h F Z)
 exact X0 43 Z (rb h F Z)
def qeV (b:qe)(c:(List Int)):Nat→Int→Option (Flow Bool Int)| 0,_=>U| n+1,a =>bif decide (a<(b.Ac.length:Int)) then(idx b.Ac a).bind fun f =>(idx c a).bind fun g =>(qjT n f g).bind fun d =>bif (!d) then V (.ret false) else qeV b c n (W64 (a+1)) else V (.nxt a)
def qc1 (r1:(List Tplace)):Nat→(List Int)→Int→Option ((List Int)×Int)| 0,_,_=>U| n+1,b,a =>bif decide (a<(r1.length:Int)) then(idx r1 a).bind fun c =>bif (!c.drives) then(idx b c.net).bind fun d =>(idx b c.net).bind fun _ =>qc1 r1 n (setS b c.net (W64 (d+1))) (W64 (a+1)) else qc1 r1 n b (W64 (a+1)) else V (b,a)
def qf0 (n:Nat)(b:qe):Option Bool :=((qiA n (⟨b.Am.Ap⟩:qz) (⟨b.Aa.Ab,b.Aa.Aj,b.Aa.Ah⟩:qi)).bind fun a =>bif (!a) then V true else V ((b.Ac.length:Int) != (b.Aa.Aj.length:Int))).bind fun b1 =>bif b1 then V false else(mkS (b.Ac.length:Int) (0:Int)).bind fun c =>(qcp n (⟨b.Aa.Ab,b.Aa.Aj,b.Aa.Ah⟩:qi)).bind fun r1 =>(qc1 r1 n c 0).bind fun o=>match o with| (d,_) =>(qeV b d n 0).bind fun o=>match o with| .ret r=>V r| .nxt _ =>V true
theorem qiZ {b:qe}(A:Ro w b cs1){r:Bool}(F:qf0 n b=V r):RetV prog 54 [GoT.v qe cs1] w r:=by
 obtain⟨p1,k1,p2,k2,p3,k3,p4,k4,p5,k5,rfl,s1,s2,s3,s4,s5⟩:=qL A;refine zV 63 func54 Z fun h=>zSR (qH h Z Z fun _ a h=>X0 4 Z ?_);obtain⟨y,i,_,F,g⟩:=bindE F;refine qaF (fun e w'=>∃(b1:Bool),y b1=V r∧e=[(1,.pointer (V ⟨a,0,U⟩)),(23,.bool b1)]∧SH w w' [Ch.box a (qx b p1 p2 p3 p4 p5 k1 k2 k3 k4 k5) 34]) ?_ ?_
 ·refine X2 5 0 0 h Z (zcB h F (qnG (qi9 _ (h.oldS s1)) (qaU _ (h.oldS s2) (h.oldS s3) (h.oldS s4))) Z fun _ _ h F=>zp2 Z (qg (t:=14) F Z ?_ ?_))<;>intro F
  ·refine X0 10 Z ?_;obtain rfl:=qc F;exact rG ⟨_,g,rfl,h⟩ Z
  refine X2 18 0 0 h Z ?_;obtain rfl:=qc F;exact rG ⟨_,g,rfl,h⟩ Z
 rintro _ _ ⟨b1,F,rfl,h⟩;subst i;refine ql Z F ?_ ?_<;>intro F
 ·exact X0 4 Z (rb h F Z)
 refine X1 6 0 h Z ?_;obtain⟨c,d,F⟩:=qd F;obtain⟨g1,g2,d⟩:=qab d;refine qaq qa Int h Z Z Z Z Z Z Z Z Z g1 g2 d Z fun _ S1 x h=>X1 7 1 h Z (zcL h F (qdf (qaU _ (h.oldS s2) (h.oldS s3) (h.oldS s4))) Z fun r1 _ S2 p7 k6 h F=>X0 3 Z ?_);obtain⟨o1,F,z⟩:=qd F;refine qn (rL (fun m e w'=>∃(v:(List Int)) (Y:Int),qc1 r1 m v Y=V o1∧e=[(1,.pointer (V ⟨a,0,U⟩)),(3,.slice x c.length c.length),(30,.slice p7 r1.length k6),(31,.int .i64 (r1.length:Int)),(32,.int .i64 Y)]∧SH w w' [Ch.own S2 (r1:List Tplace) [.slice p7 r1.length k6],Ch.own S1 (v:List Int) [.slice x c.length c.length],Ch.box a (qx b p1 p2 p3 p4 p5 k1 k2 k3 k4 k5) 34]) n ⟨_,_,F,rfl,h⟩ Z ?_);rintro m1 _ _ ⟨v,Y,F,rfl,h⟩;rcases m1 with _|m1
 ·cases F
 refine X0 5 Z (ql Z F ?_ ?_)<;>intro F
 ·refine zKSBSR ?_;obtain⟨_,_,F,k,_,_,_,_,K,O,S,B⟩:=(h.sl 0 Z).1.ix F;obtain rfl:=qfO S;refine zx K O ⟨k.1,qC k.2.1 (h.sl 0 Z).2⟩ Z (zc 0 B Z (qj qa h Z Z Z fun _ _ h=>zs 0 h Z fun _ h=>X1 7 0 h Z (ql Z F ?_ ?_)))<;>intro F
  ·refine X1 4 0 h Z ?_;obtain⟨y2,_,F,l,_,_,_,_,L,P,rfl,C⟩:=(h.sl 2 Z).1.ix F;refine zx L P ⟨l.1,qC l.2.1 (h.sl 2 Z).2⟩ Z (zc 0 C Z (zp1 Z ?_));obtain⟨_,X,F,o,_,_,_,_,s,u,rfl,D⟩:=(h.sl 2 Z).1.ix F;refine zx s u ⟨o.1,qC o.2.1 (h.sl 2 Z).2⟩ Z (qaH qa 2 0 (W64 (y2+1)) h Z X s u Z D Z Z Z Z Z Z Z fun _ h=>X0 6 Z ?_);replace h:=h.pick [1,2,3] Z;exact rK ⟨_,_,F,rfl,h⟩ Z
  refine X0 6 Z ?_;replace h:=h.pick [1,2,3] Z;exact rK ⟨_,_,F,rfl,h⟩ Z
 refine qw Z ?_;obtain rfl:=qc F;replace F:=z;refine X1 8 2 h Z ?_;obtain⟨o2,F,f⟩:=qd F;refine qn ?_;replace h:=h.pick [1] Z;refine rL (fun m e w'=>∃(i2:Int),qeV b v m i2=V o2∧e=[(3,.slice x c.length c.length),(48,.slice p5 b.Ac.length k5),(49,.int .i64 (b.Ac.length:Int)),(50,.int .i64 i2)]∧SH w w' [Ch.own S1 (v:List Int) [.slice x c.length c.length]]) n ⟨_,F,rfl,h⟩ Z ?_;rintro m2 _ _ ⟨i2,F,rfl,h⟩;rcases m2 with _|m2
 ·cases F
 refine X0 5 Z (ql Z F ?_ ?_)<;>intro F
 ·refine X0 6 Z ?_;obtain⟨y4,_,F,J,_,_,_,_,M,Q,T,H⟩:=s5.ix F;obtain⟨_,_,_,_,_,_,_,_,rfl,s6,s7,s8,s9⟩:=qbH T;refine zxe M Q J Z (zc 0 (H.below h.below) Z (qj qa h Z Z Z fun _ _ h=>zp1 Z (zs 0 h Z fun _ h=>zNS (rD (Y1 1 0 h Z ?_)))));refine zd2 Z ?_;obtain⟨_,_,F,p,_,_,_,_,N,R,rfl,I⟩:=(h.sl 1 Z).1.ix F;refine zdx N R ⟨p.1,qC p.2.1 (h.sl 1 Z).2⟩ Z (zdc 0 I Z ?_);obtain⟨r2,W,F⟩:=qd F;refine qb3 r2 (vsB _) (cB 125 Z) (fun _ hb=>qoT (qpu y4 ((h.ext hb).oldS s6) ((h.ext hb).oldS s7) ((h.ext hb).oldS s8) ((h.ext hb).oldS s9)) W) Z Z Z Z (zd1 Z (dN h fun _ h=>ql Z F ?_ ?_))<;>intro F
  ·refine X0 4 Z ?_;obtain rfl:=qc F;replace F:=f;exact rb h F Z
  refine X0 6 Z ?_;replace h:=h.pick [1] Z;exact rK ⟨_,F,rfl,h⟩ Z
 refine qw Z ?_;obtain rfl:=qc F;replace F:=f;exact X0 4 Z (rb h F Z)
end Go.Fw
