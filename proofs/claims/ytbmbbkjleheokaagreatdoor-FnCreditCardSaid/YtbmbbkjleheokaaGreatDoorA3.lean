/- Calls that hand out parts of memory one by one: what is owned stays apart. -/
import Derived.Test.YtbmbbkjleheokaaGreatDoorFw38
import Derived.Sort.Grow
import Derived.Lib.SlicesCompact
import Derived.Laws.StructEq
import Derived.Test.YtbmbbkjleheokaaGreatDoorChecked
import Derived.Test.YtbmbbkjleheokaaGreatDoorS1
open Option renaming some → V, none → U
open Bool renaming and_eq_true → je, not_eq_true' → jF
open Nat renaming le_of_ble_eq_true → jq, le_trans → Jd
open List renaming not_mem_nil → jy, mem_of_getElem? → jA, mem_append_left → jD, mem_cons → jI, mem_append_right → jT
open Array renaming getElem?_append_left → jK

namespace Go.Fw
open Go
open Go.RowKit (Below)
section
variable {P:Program}{T:Tab}{n:Nat}{Q:Exit→Act→World→Prop}{k:List It}{e:Env}{w0 w w':World}{L L':List Ch}
theorem SH.append (h:SH w0 w L)(hL:SH w w' L')(hD:∀ c,c ∈ L'→∀ b,c.D b→b<w0.heap.size):SH w0 w' (L'++L):=by
 have h':=h.ext hL.below;refine⟨h'.below,fun c hc=>?_,fun c hc=>?_,?_⟩
 ·rcases List.mem_append.1 hc with hc|hc
  ·obtain⟨p,s⟩:=hL.holds c hc;exact⟨p,fun b hb=>⟨Jd h.below.size (s b hb).1,(s b hb).2⟩⟩
  ·exact h'.holds c hc
 ·rcases List.mem_append.1 hc with hc|hc
  ·exact hD c hc
  ·exact h.elder c hc
 ·refine List.pairwise_append.2 ⟨hL.apart,h.apart,fun c hc d hd b hcb hdb=>?_⟩;have h1:=((hL.holds c hc).2 b hcb).1;have h2:=((h.holds d hd).2 b hdb).2;omega
theorem SH.appendN (h:SH w0 w L)(hL:SH w w' L')(hD:NoD L'):SH w0 w' (L'++L):=
 SH.append h hL fun c hc b hb=>absurd hb (NoD.all hD c hc b)
def RetZ (P:Program)(f:FuncId)(vs:List Value)(w:World)(Φ:List Value→List Ch→Prop):Prop:=
 Calls P f vs.toArray w fun e w'=>∃ v,e=.returned v∧Below w.heap.size w w'∧∃ us L,v=tup us∧SH w w' L∧Φ us L
theorem qtC {Φ:List Value→List Ch→Prop}{all:Array Oper}{l:List Oper}{d ty:Nat}{ps:String}{af:Array Edge}{x:Operand}{args:Array Operand}{ats:Array TypeId}{f:FuncId}{fi ca:Array Value}{az vs:List Value}
  (hcall:qeZ P f) (hc:RetZ P f vs w Φ) (hx:opv e x=V (.func (.func f) fi ca)) (hargs:opvs e args.toList=V az) (hvs:fi.toList++az++ca.toList=vs) (hn:Nat.blt d n=true)
  (hk:∀ w' us L',SH w w' L'→Φ us L'→Run P n Q (.ops all l::k) ((d,tup us)::e) w') :
  Run P n Q (.ops all (⟨V d,.call ⟨.value x,args,ats⟩,ty,ps,af,U⟩::l)::k) e w:=by
 subst hvs;refine qlI (R:=fun v w'=>Below w.heap.size w w'∧∃ us L,v=tup us∧SH w w' L∧Φ us L) Z Z hn (fun a ha=>qip ha hcall hx hargs w) hc ?_;rintro v w' ⟨_,us,L',rfl,hL,hv⟩;exact hk w' us L' hL hv
theorem qpd {f:FuncId}{fn:Func}{c:Code}{vs:List Value}{Φ:List Value→List Ch→Prop}{m:Nat}(hf:P.funcs[f]?=V fn)(hb:fn.body=V c)(hm:fn.ntmps=m)(hn:Nat.ble vs.length m=true)
  (h:SH w w []→Run P m (bodyPost P fn fun e w'=>∃ v,e=.returned v∧Below w.heap.size w w'∧∃ us L,v=tup us∧SH w w' L∧Φ us L) [.code c] (argEnv 0 vs) w):RetZ P f vs w Φ:=by
 subst hm;have hn':=jq hn;refine calls_of_wp hf hb ?_;have hr:=h (SH.start w);have hag:Agree fn.ntmps (argEnv 0 vs) { tmps:=vs.toArray++Array.replicate (fn.ntmps-vs.toArray.size) undef,defers:=[] }:=by
  refine⟨rfl,by simp;omega,fun i v hi=>?_⟩;obtain⟨_,h2⟩:=qic vs 0 i v hi;simp only[Nat.sub_zero] at h2;have hlt:=(List.getElem?_eq_some_iff.1 h2).1;rw[jK (by simpa using hlt)];simpa using h2
 have h1:=hr _ hag;refine wp_mono h1 ?_;intro ex a' w' hq;cases ex<;>exact hq
theorem qsO (hT:TabOk P T){fn:Func}{Φ:List Value→List Ch→Prop}(us:List Value)(h:SH w0 w L)(hr:ResOk T e w fn.results.toList us)(hv:Φ us L) :
  Run P n (bodyPost P fn fun e w'=>∃ v,e=.returned v∧Below w0.heap.size w0 w'∧∃ us L,v=tup us∧SH w0 w' L∧Φ us L) (.code .ret::k) e w:=
 qqS fun _ ha=>⟨ha.defers,tup us,qgm hT ha hr,tup us,rfl,h.below,us,L,rfl,h,hv⟩
end
end Go.Fw


namespace Go.Fw
open Go Go.Sort
open Go.RowKit (Below)
section
variable {P:Program}{T:Tab}{n:Nat}{Q:Exit→Act→World→Prop}{k:List It}{e:Env}{w0 w w':World}{L L':List Ch}
end
end Go.Fw


namespace Go.Fw
open Go
open Go.RowKit (Below)
section
variable {w0 w w':World}{L:List Ch}{α:Type}[GoT α]
def RAll (w:World)(A:Nat→Prop):List α→List (Raw α)→Prop
 | [],[]=>True
 | x::xs,r::rs=>GoT.R w A x r.cs∧RAll w A xs rs
 | _,_=>False
theorem RAll.at {A:Nat→Prop}:∀ {xs:List α} {rs:List (Raw α)},RAll w A xs rs→xs.length=rs.length∧∀ (i:Nat) x,xs[i]?=V x→∃ r,rs[i]?=V r∧GoT.R w A x r.cs
 | [],[],_=>⟨rfl,fun i x h=>by simp at h⟩
 | x::xs,[],h=>h.elim
 | [],r::rs,h=>h.elim
 | x::xs,r::rs,h=>by
  obtain⟨hl,ha⟩:=RAll.at h.2;refine⟨by simp[hl],fun i y hy=>?_⟩;cases i with
  | zero=>simp only[List.getElem?_cons_zero,Option.some.injEq] at hy ⊢;subst hy;exact⟨r,rfl,h.1⟩
  | succ i=>simp only[List.getElem?_cons_succ] at hy ⊢;exact ha i y hy
end
end Go.Fw


namespace Go.Fw
open Go
end Go.Fw


namespace Go.Fw
open Go
open Go.RowKit (Below)
section
variable {P:Program}{T:Tab}{n:Nat}{Q:Exit→Act→World→Prop}{k:List It}{e:Env}{w0 w:World}{L:List Ch}
variable {α:Type}[GoT α]{S S1:Nat→Prop}{xs ys:List α}{p p':Option Addr}{c c':Nat}
end
section
variable {α β γ:Type}
def Emp (o:Option (List α)):Prop:=∀ r,o=V r→r=[]
theorem Emp.none:Emp (U:Option (List α)):=fun _ h=>by cases h
theorem Emp.noneB {f:β→Option (List α)}:Emp ((Option.none:Option β).bind f):=fun _ h=>by cases h
theorem Emp.nil:Emp (V ([]:List α)):=fun _ h=>(Option.some.inj h).symm
theorem Emp.bif {c:Bool}{a b:Option (List α)}(h1:Emp a)(h2:Emp b):Emp (bif c then a else b):=by cases c<;>assumption
theorem Emp.sub {xs:List β}{lo:Int}{f:List β→Option (List α)}(h:Emp (f [])):Emp ((subS xs lo ((0:Nat):Int)).bind f):=fun r hr=>by
 cases hs:subS xs lo ((0:Nat):Int) with
 | none=>rw[hs] at hr;cases hr
 | some y=>
  rw[hs] at hr;obtain⟨_,_,_,e⟩:=qou hs;have:y=[]:=by rw[←e];simp
  subst this;exact h r hr
theorem Emp.assoc {x:Option β}{g:β→Option γ}{f:γ→Option (List α)}(h:∀ y,Emp ((g y).bind f)):Emp ((x.bind g).bind f):=by
 cases x with
 | none=>exact Emp.noneB
 | some y=>exact h y
theorem Emp.bind {x:Option β}{f:β→Option (List α)}(h:∀ y,Emp (f y)):Emp (x.bind f):=by
 cases x with
 | none=>exact Emp.noneB
 | some y=>exact h y
end
end Go.Fw


namespace Go.Fw
open Go
section
variable {ε:Type}
variable {ρ σ τ:Type}
end

end Go.Fw


namespace Go.Fw
open Go
open Go.RowKit (Below)
structure Same where
 w:World
 K:Nat→Prop
instance instSame:GoT Same where
 k:=1
 agg:=false
 zero:=⟨default,fun _=>False⟩
 zc:=[.bool true]
 R w S x cs:=cs=[.bool true]∧∀ b,x.K b→S b∧w.heap[b]?=x.w.heap[b]?
 O w S x cs:=cs=[.bool true]∧∀ b,x.K b→S b∧w.heap[b]?=x.w.heap[b]?
 kpos:=by decide
 noagg _:=rfl
 len h:=by obtain⟨rfl,_⟩:=h;rfl
 one h:=by obtain⟨rfl,_⟩:=h;simp[Value.oneCell']
 loc h hs:=⟨h.1,fun b hb=>⟨(h.2 b hb).1,(hs b (h.2 b hb).1).trans (h.2 b hb).2⟩⟩
 mono h hs:=⟨h.1,fun b hb=>⟨hs b (h.2 b hb).1,(h.2 b hb).2⟩⟩
 toR h:=h
 locO h hs:=⟨h.1,fun b hb=>⟨(h.2 b hb).1,(hs b (h.2 b hb).1).trans (h.2 b hb).2⟩⟩
 monoO h hs:=⟨h.1,fun b hb=>⟨hs b (h.2 b hb).1,(h.2 b hb).2⟩⟩
 zO _ _:=⟨rfl,fun _ h=>h.elim⟩
def FS (F:List Ch)(b:Nat):Prop:=∃ d,d ∈ F∧d.S b
abbrev Fr (w0:World)(F:List Ch)(b:Nat):Prop:=FS F b∨old w0 b
abbrev same (w0 w:World)(F:List Ch):Fct:=fct (⟨w,Fr w0 F⟩:Same) [.bool true]
section
variable {P:Program}{T:Tab}{n:Nat}{Q:Exit→Act→World→Prop}{k:List It}{e:Env}{w0 w w':World}{L L' F:List Ch}
theorem SH.frame (L:List Ch)(h:SH w0 w (L++F)):SH w0 w (L++[Ch.grp (Fw.old w0) (FS F) [same w0 w F]]):=by
 have hp:=List.pairwise_append.1 h.apart;refine⟨h.below,fun c hc=>?_,fun c hc=>?_,List.pairwise_append.2 ⟨hp.1,List.pairwise_singleton ..,fun c hc d hd b hb=>?_⟩⟩
 ·rcases List.mem_append.1 hc with hc|hc
  ·exact h.holds c (jD _ hc)
  ·obtain rfl:=List.mem_singleton.1 hc;refine⟨fun f hf=>?_,fun b hb=>?_⟩
   ·obtain rfl:=List.mem_singleton.1 hf;exact⟨rfl,fun b hb=>⟨hb,rfl⟩⟩
   ·obtain⟨d,hd,hb⟩:=hb;exact(h.holds d (jT _ hd)).2 b hb
 ·rcases List.mem_append.1 hc with hc|hc
  ·exact h.elder c (jD _ hc)
  ·obtain rfl:=List.mem_singleton.1 hc;exact fun b hb=>hb
 ·obtain rfl:=List.mem_singleton.1 hd;rintro⟨d,hd,hdb⟩;exact hp.2.2 c hc d hd b hb hdb
theorem SH.unframe {L0:List Ch}{fs:List Fct}(j:Nat)(h0:SH w0 w (L0++F))(L':List Ch)(h:SH w0 w' (L'++[Ch.grp (Fw.old w0) (FS F) fs]))(hj:fs[j]?=V (same w0 w F)):SH w0 w' (L'++F):=by
 have hp:=List.pairwise_append.1 h.apart;have hp0:=List.pairwise_append.1 h0.apart;have hg:=h.holds (Ch.grp (Fw.old w0) (FS F) fs) (jT _ (List.mem_singleton.2 Z));have hs:∀ b,Fr w0 F b→w'.heap[b]?=w.heap[b]?:=fun b hb=>((hg.1 _ (jA hj)).2 b hb).2;refine⟨h.below,fun c hc=>?_,fun c hc=>?_,List.pairwise_append.2 ⟨hp.1,hp0.2.1,fun c hc d hd b hb hdb=>?_⟩⟩
 ·rcases List.mem_append.1 hc with hc|hc
  ·exact h.holds c (jD _ hc)
  ·obtain⟨h1,h2⟩:=h0.holds c (jT _ hc);exact⟨c.loc w w' (fun b hb=>hs b (.inl ⟨c,hc,hb⟩)) (fun b hb=>hs b (.inr (h0.elder c (jT _ hc) b hb))) h1,fun b hb=>hg.2 b ⟨c,hc,hb⟩⟩
 ·rcases List.mem_append.1 hc with hc|hc
  ·exact h.elder c (jD _ hc)
  ·exact h0.elder c (jT _ hc)
 ·exact hp.2.2 c hc _ (List.mem_singleton.2 Z) b hb ⟨d,hd,hdb⟩
variable {α:Type}[GoT α]{x:α}{cs:List Value}{S D:Nat→Prop}{fs:List Fct}
theorem SH.frB {c:Ch}(i m:Nat)(hi:L[i]?=V c)(hm:Nat.ble m i=true):∀ b,c.S b→FS (L.drop m) b:=fun b hb=>by
 have hm':=jq hm;refine⟨c,jA (i:=i-m) ?_,hb⟩;rw[List.getElem?_drop,show m+(i-m)=i by omega];exact hi
theorem SH.frG (i j m:Nat)(h:SH w0 w L)(hi:L[i]?=V (Ch.grp D S fs))(hj:fs[j]?=V (fct x cs))(hm:Nat.ble m i=true):GoT.R w (Fr w0 (L.drop m)) x cs:=
 GoT.mono (h.grpS i j hi hj) fun b hb=>hb.elim (fun hb=>.inl (SH.frB i m hi hm b hb)) fun hb=>.inr (h.elder _ (jA hi) b hb)
theorem SH.frOldS {F:List Ch}{xs:List α}{p:Option Addr}{c:Nat}(h:SH w0 w L)(hr:SlR w0 (Fw.old w0) xs p c):SlR w (Fr w0 F) xs p c:=
 (hr.loc fun b hb=>h.below.block b hb).mono fun _ hb=>.inr hb
def RetW (P:Program)(f:FuncId)(vs:List Value)(w:World)(J:List Value→World→Prop):Prop:=
 Calls P f vs.toArray w fun e w'=>∃ us,e=.returned (tup us)∧J us w'
theorem qaQ {J:List Value→World→Prop}{all:Array Oper}{l:List Oper}{d ty:Nat}{ps:String}{af:Array Edge}{x:Operand}{args:Array Operand}{ats:Array TypeId}{f:FuncId}{fi ca:Array Value}{az vs:List Value}
  (hcall:qeZ P f) (hc:RetW P f vs w J) (hx:opv e x=V (.func (.func f) fi ca)) (hargs:opvs e args.toList=V az) (hvs:fi.toList++az++ca.toList=vs) (hn:Nat.blt d n=true)
  (hk:∀ w' us,J us w'→Run P n Q (.ops all l::k) ((d,tup us)::e) w'):Run P n Q (.ops all (⟨V d,.call ⟨.value x,args,ats⟩,ty,ps,af,U⟩::l)::k) e w:=by
 subst hvs;refine qlI (R:=fun v w'=>∃ us,v=tup us∧J us w') Z Z hn (fun a ha=>qip ha hcall hx hargs w) (hc.mono ?_) ?_
 ·rintro e w' ⟨us,rfl,h⟩;exact⟨_,rfl,us,rfl,h⟩
 ·rintro v w' ⟨us,rfl,h⟩;exact hk w' us h
theorem qbe {J:List Value→World→Prop}{f:FuncId}{fn:Func}{c:Code}{vs:List Value}{m:Nat}(hf:P.funcs[f]?=V fn)(hb:fn.body=V c)(hm:fn.ntmps=m)(hn:Nat.ble vs.length m=true)
  (h:Run P m (bodyPost P fn fun e w'=>∃ us,e=.returned (tup us)∧J us w') [.code c] (argEnv 0 vs) w):RetW P f vs w J:=by
 subst hm;have hn':=jq hn;refine calls_of_wp hf hb ?_;have hag:Agree fn.ntmps (argEnv 0 vs) { tmps:=vs.toArray++Array.replicate (fn.ntmps-vs.toArray.size) undef,defers:=[] }:=by
  refine⟨rfl,by simp;omega,fun i v hi=>?_⟩;obtain⟨_,h2⟩:=qic vs 0 i v hi;simp only[Nat.sub_zero] at h2;have hlt:=(List.getElem?_eq_some_iff.1 h2).1;rw[jK (by simpa using hlt)];simpa using h2
 have h1:=h _ hag;refine wp_mono h1 ?_;intro ex a' w' hq;cases ex<;>exact hq
theorem qaN {J:List Value→World→Prop}(hT:TabOk P T){fn:Func}(us:List Value)(hr:ResOk T e w fn.results.toList us)(h:J us w) :
  Run P n (bodyPost P fn fun e w'=>∃ us,e=.returned (tup us)∧J us w') (.code .ret::k) e w:=
 qqS fun _ ha=>⟨ha.defers,tup us,qgm hT ha hr,us,rfl,h⟩
end
section
open Go.ChangeShapes Go.RowKit
variable {H:Type}{enc:TypeId×Value→H}{P:Program}{w:World}{base:Nat}{spare:Nat→Bool}{held:Bool}
end

section
variable {P:Program}{T:Tab}{n:Nat}{Q:Exit→Act→World→Prop}{k:List It}{e:Env}{w0 w w':World}{L:List Ch}
variable {α β:Type}[GoT α][GoT β]{S Sr Se D:Nat→Prop}{xs ys:List α}{p p':Option Addr}{c c':Nat}{fs:List Fct}{x:α}{cs:List Value}
theorem RAll.loc {A:Nat→Prop}:∀ {xs:List α} {rs:List (Raw α)},RAll w A xs rs→(∀ b,A b→w'.heap[b]?=w.heap[b]?)→RAll w' A xs rs
 | [],[],_,_=>trivial
 | _::_,[],h,_=>h.elim
 | [],_::_,h,_=>h.elim
 | _::_,_::_,h,hb=>⟨GoT.loc h.1 hb,RAll.loc h.2 hb⟩
theorem RAll.mono {A B:Nat→Prop}(hb:∀ b,A b→B b):∀ {xs:List α} {rs:List (Raw α)},RAll w A xs rs→RAll w B xs rs
 | [],[],_=>trivial
 | _::_,[],h=>h.elim
 | [],_::_,h=>h.elim
 | _::_,_::_,h=>⟨GoT.mono h.1 hb,RAll.mono hb h.2⟩
theorem RAll.app {A:Nat→Prop}:∀ {xs:List α} {rs:List (Raw α)} {ys:List α} {qs:List (Raw α)},RAll w A xs rs→RAll w A ys qs→RAll w A (xs++ys) (rs++qs)
 | [],[],_,_,_,h=>h
 | _::_,[],_,_,h,_=>h.elim
 | [],_::_,_,_,h,_=>h.elim
 | _::_,_::_,_,_,h,h'=>⟨h.1,RAll.app h.2 h'⟩
theorem RAll.of {A:Nat→Prop}:∀ {xs:List α} {rs:List (Raw α)},xs.length=rs.length→(∀ (i:Nat) (x:α) (r:Raw α),xs[i]?=V x→rs[i]?=V r→GoT.R w A x r.cs)→RAll w A xs rs
 | [],[],_,_=>trivial
 | _::_,[],h,_=>by cases h
 | [],_::_,h,_=>by cases h
 | x::xs,r::rs,h,ha=>⟨ha 0 x r Z Z,RAll.of (by simpa using h) fun i y q hy hq=>ha (i+1) y q (by simpa using hy) (by simpa using hq)⟩
theorem RAll.len {A:Nat→Prop}{rs:List (Raw α)}(h:RAll w A xs rs):xs.length=rs.length:=h.at.1
theorem SH.frzI (i:Nat)(h:SH w0 w L)(hi:L[i]?=V (Ch.own S x cs)):SH w0 w (L.set i (Ch.grp (fun _=>False) S [fct x cs])):=
 h.say hi (fun hp f hf=>by
  obtain rfl:=List.mem_singleton.1 hf;have hp':GoT.O w S x cs:=hp;exact GoT.mono (S':=fun b=>S b∨False) (x:=x) (cs:=cs) (GoT.toR hp') (fun b hb=>.inl hb)) (fun _ h=>h) (fun _ h=>h.elim)
end
end Go.Fw


namespace Go.Fw
open Go
def rng8 (x:IntK .u8):Prop:=0≤x.val∧x.val≤255
theorem qu6 {P:Program}{t:TypeId}(ht:P.underlying t=V (.int .u8))(hc:P.cellsOf t=1):Opens P t (gt_IntK (kd:=.u8)) rng8:=
 ⟨hc,fun h=>by
  obtain⟨n,rfl,_,hw⟩:=DataW.trod_int ht h;exact⟨⟨n⟩,rfl,by simp only[Lit.wf,IntKind.min,IntKind.max,je] at hw;simp[IntKind.bits,IntKind.signed] at hw;unfold rng8;simp only;omega⟩⟩
end Go.Fw


namespace Go.Fw
open Go
open Go.RowKit (Below)
section
variable {P:Program}{T:Tab}{n:Nat}{Q:Exit→Act→World→Prop}{k:List It}{e:Env}{w0 w w':World}{L:List Ch}
end

section
variable {P:Program}{T:Tab}{n:Nat}{e:Env}{w:World}
def b3 (a0:Bool)(a1 a2 a3:Int):Array Value:=#[.bool a0,.int .i64 a1,.int .i64 a2,.int .i64 a3]
end
end Go.Fw


namespace Go.Fw
open Go
section
variable {P:Program}{T:Tab}{n:Nat}{e:Env}{w:World}
theorem qrH {x y:Operand}{t t' d ty:Nat}{ps:String}{af:Array Edge}{g:Option (Nat×Bool)}{a b r:Int}(h0:b ≠ 0)(hr:a.tmod b=r)
  (hx:opv e x=V (.int .i64 a)) (hy:opv e y=V (.int .i64 b)):Val P n e ⟨V d,.binOp .rem t x y t',ty,ps,af,g⟩ w (.int .i64 r):=hr ▸ qvb h0 hx hy
end
end Go.Fw


namespace Go.Fw
open Go
open Go.RowKit (Below)
section
variable {P:Program}{T:Tab}{n:Nat}{Q:Exit→Act→World→Prop}{k:List It}{e:Env}{w0 w w':World}{L:List Ch}
variable {α β:Type}[GoT α][GoT β]{S Sr Se D:Nat→Prop}{xs ys:List α}{p p':Option Addr}{c c':Nat}{fs:List Fct}{x:α}{cs:List Value}
end
end Go.Fw


namespace Go.Fw
open Go Go.Proofs Go.Proofs.Tryz
open Go.RowKit (Below)
open Ch renaming own→oW,box→oX,grp→oG
open GoT renaming v→oV
open Go.Value renaming slice→oS
set_option maxRecDepth 100000
set_option maxHeartbeats 6400000
variable {n:Nat}{w:World}{S:Nat→Prop}{cs1 cs2 cs3 cs4 cs5 cs6 cs7 cs8 cs9:List Value}
structure qax where
 Bi:ByteArray
 Bx:Int
 Br:Int
 Bt:Bool
instance gt_TPin:GoT qax:=isoT (pairT instStr (pairT instInt (pairT instInt instBool))) (fun x=>(x.Bi,x.Bx,x.Br,x.Bt)) ⟨ByteArray.empty,0,0,false⟩ Z true (fun h=>by cases h)
instance fl_TPin:Flat qax:=qf3 (pairT instStr (pairT instInt (pairT instInt instBool))) (fun x:qax=>(x.Bi,x.Bx,x.Br,x.Bt)) ⟨ByteArray.empty,0,0,false⟩ Z true (fun h=>by cases h) (qaT _ _ (inferInstanceAs (Flat ByteArray)) (qaT _ _ (inferInstanceAs (Flat Int)) (qaT _ _ (inferInstanceAs (Flat Int)) (inferInstanceAs (Flat Bool)))))
abbrev qpQ (x:qax):List Value:=[.string x.Bi,vi x.Bx,vi x.Br,.bool x.Bt]
theorem qfh {x:qax}{cs:List Value}(h:GoT.R w S x cs):cs=(qpQ x):=by
 obtain⟨_,_,rfl,rfl,⟨_,_,rfl,rfl,⟨_,_,rfl,rfl,rfl⟩⟩⟩:=h;exact Z
theorem qlr (x:qax):GoT.R w S x (qpQ x):=have h:=pR (rT x.Bi) (pR (rI x.Bx) (pR (rI x.Br) (rB x.Bt)));h
structure qL where
 Bq:(List Int)
 Bn:(List Int)
 Bj:(List Int)
instance gt_TTable:GoT qL:=isoT (pairT (@instList Int instInt) (pairT (@instList Int instInt) (@instList Int instInt))) (fun x=>(x.Bq,x.Bn,x.Bj)) ⟨[],[],[]⟩ Z true (fun h=>by cases h)
abbrev qe5 (x:qL)(p0 p1 p2:Option Addr)(k0 k1 k2:Nat):List Value:=[oS p0 (x.Bq).length k0,oS p1 (x.Bn).length k1,oS p2 (x.Bj).length k2]
theorem qcr {x:qL}{cs:List Value}(h:GoT.R w S x cs):∃ d a p1 b f c,cs=(qe5 x d p1 f a b c)∧SlR w S x.Bq d a∧SlR w S x.Bn p1 b∧SlR w S x.Bj f c:=by
 obtain⟨_,_,rfl,⟨d,a,rfl,s0⟩,⟨_,_,rfl,⟨p1,b,rfl,s1⟩,⟨f,c,rfl,s2⟩⟩⟩:=h;exact⟨d,a,p1,b,f,c,rfl,s0,s1,s2⟩
theorem qi3 (x:qL){d p1 f:Option Addr}{a b c:Nat}(s0:SlR w S x.Bq d a)(s1:SlR w S x.Bn p1 b)(s2:SlR w S x.Bj f c):GoT.R w S x (qe5 x d p1 f a b c):=have h:=pR (rS s0) (pR (rS s1) (rS s2));h
theorem qt7 {w0:World}{L:List Ch}(x:qL){I0 I1 I2:List Nat}{a c1 b:List Value}(h:SH w0 w L)(c:PO w L I0 x.Bq a)(d:PO w L I1 x.Bn c1)(f:PO w L I2 x.Bj b)(b0:apartB I0 (I1++I2)=true)(b1:apartB I1 I2=true):PO w L (I0++(I1++I2)) x (a++(c1++b)):=
 (qcU h c (qcU h d f b1) b0)
structure qas where
 Bf:Int
 Bk:Int
 To:Int
 Bp:Int
 Bu:(List qL)
 Bc:(List qL)
instance gt_TArc:GoT qas:=isoT (pairT instInt (pairT instInt (pairT instInt (pairT instInt (pairT (@instList qL gt_TTable) (@instList qL gt_TTable)))))) (fun x=>(x.Bf,x.Bk,x.To,x.Bp,x.Bu,x.Bc)) ⟨0,0,0,0,[],[]⟩ Z true (fun h=>by cases h)
abbrev qei (x:qas)(p0 p1:Option Addr)(k0 k1:Nat):List Value:=[vi x.Bf,vi x.Bk,vi x.To,vi x.Bp,oS p0 (x.Bu).length k0,oS p1 (x.Bc).length k1]
theorem qaE {x:qas}{cs:List Value}(h:GoT.R w S x cs):∃ c a p1 b,cs=(qei x c p1 a b)∧SlR w S x.Bu c a∧SlR w S x.Bc p1 b:=by
 obtain⟨_,_,rfl,rfl,⟨_,_,rfl,rfl,⟨_,_,rfl,rfl,⟨_,_,rfl,rfl,⟨_,_,rfl,⟨c,a,rfl,s0⟩,⟨p1,b,rfl,s1⟩⟩⟩⟩⟩⟩:=h;exact⟨c,a,p1,b,rfl,s0,s1⟩
theorem qiP (x:qas){c p1:Option Addr}{a b:Nat}(s0:SlR w S x.Bu c a)(s1:SlR w S x.Bc p1 b):GoT.R w S x (qei x c p1 a b):=have h:=pR (rI x.Bf) (pR (rI x.Bk) (pR (rI x.To) (pR (rI x.Bp) (pR (rS s0) (rS s1)))));h
theorem qtr {w0:World}{L:List Ch}(x:qas){I0 I1 I2 I3 I4 I5:List Nat}{a c1 b c d f:List Value}(h:SH w0 w L)(i:PO w L I0 x.Bf a)(k:PO w L I1 x.Bk c1)(l:PO w L I2 x.To b)(m:PO w L I3 x.Bp c)(n:PO w L I4 x.Bu d)(o:PO w L I5 x.Bc f)(b0:apartB I0 (I1++(I2++(I3++(I4++I5))))=true)(b1:apartB I1 (I2++(I3++(I4++I5)))=true)(b2:apartB I2 (I3++(I4++I5))=true)(b3:apartB I3 (I4++I5)=true)(g:apartB I4 I5=true):PO w L (I0++(I1++(I2++(I3++(I4++I5))))) x (a++(c1++(b++(c++(d++f))))):=
 (qcU h i (qcU h k (qcU h l (qcU h m (qcU h n o g) b3) b2) b1) b0)
structure qF where
 Bi:ByteArray
 Bf:Int
 Bh:(List qax)
 Az:(List qas)
 Bs:(List Int)
 Cc:Int
 Bz:Int
instance gt_TCell:GoT qF:=isoT (pairT instStr (pairT instInt (pairT (@instList qax gt_TPin) (pairT (@instList qas gt_TArc) (pairT (@instList Int instInt) (pairT instInt instInt)))))) (fun x=>(x.Bi,x.Bf,x.Bh,x.Az,x.Bs,x.Cc,x.Bz)) ⟨ByteArray.empty,0,[],[],[],0,0⟩ Z true (fun h=>by cases h)
abbrev qI (x:qF)(p0 p1 p2:Option Addr)(k0 k1 k2:Nat):List Value:=[.string x.Bi,vi x.Bf,oS p0 (x.Bh).length k0,oS p1 (x.Az).length k1,oS p2 (x.Bs).length k2,vi x.Cc,vi x.Bz]
theorem qaq {x:qF}{cs:List Value}(h:GoT.R w S x cs):∃ d a p1 b f c,cs=(qI x d p1 f a b c)∧SlR w S x.Bh d a∧SlR w S x.Az p1 b∧SlR w S x.Bs f c:=by
 obtain⟨_,_,rfl,rfl,⟨_,_,rfl,rfl,⟨_,_,rfl,⟨d,a,rfl,s0⟩,⟨_,_,rfl,⟨p1,b,rfl,s1⟩,⟨_,_,rfl,⟨f,c,rfl,s2⟩,⟨_,_,rfl,rfl,rfl⟩⟩⟩⟩⟩⟩:=h;exact⟨d,a,p1,b,f,c,rfl,s0,s1,s2⟩
theorem qqJ (x:qF){d p1 f:Option Addr}{a b c:Nat}(s0:SlR w S x.Bh d a)(s1:SlR w S x.Az p1 b)(s2:SlR w S x.Bs f c):GoT.R w S x (qI x d p1 f a b c):=have h:=pR (rT x.Bi) (pR (rI x.Bf) (pR (rS s0) (pR (rS s1) (pR (rS s2) (pR (rI x.Cc) (rI x.Bz))))));h
theorem qpO {w0:World}{L:List Ch}(x:qF){I0 I1 I2 I3 I4 I5 I6:List Nat}{a c1 b c d f g:List Value}(h:SH w0 w L)(l:PO w L I0 x.Bi a)(m:PO w L I1 x.Bf c1)(n:PO w L I2 x.Bh b)(o:PO w L I3 x.Az c)(p:PO w L I4 x.Bs d)(r:PO w L I5 x.Cc f)(s:PO w L I6 x.Bz g)(b0:apartB I0 (I1++(I2++(I3++(I4++(I5++I6)))))=true)(b1:apartB I1 (I2++(I3++(I4++(I5++I6))))=true)(b2:apartB I2 (I3++(I4++(I5++I6)))=true)(b3:apartB I3 (I4++(I5++I6))=true)(i:apartB I4 (I5++I6)=true)(k:apartB I5 I6=true):PO w L (I0++(I1++(I2++(I3++(I4++(I5++I6)))))) x (a++(c1++(b++(c++(d++(f++g)))))):=
 (qcU h l (qcU h m (qcU h n (qcU h o (qcU h p (qcU h r s k) i) b3) b2) b1) b0)
structure qw where
 As:(List qF)
instance gt_TLibrary:GoT qw:=isoT (@instList qF gt_TCell) (fun x=>x.As) ⟨[]⟩ Z true (fun h=>by cases h)
theorem qcX {x:qw}{cs:List Value}(h:GoT.R w S x cs):∃ b a,cs=[oS b (x.As).length a]∧SlR w S x.As b a:=by
 obtain⟨b,a,rfl,s0⟩:=h;exact⟨b,a,rfl,s0⟩
theorem qiD (x:qw){b:Option Addr}{a:Nat}(s0:SlR w S x.As b a):GoT.R w S x [oS b (x.As).length a]:=have h:=rS s0;h
theorem qit {x:qw}{b:Option Addr}{l0 a:Nat}(h:GoT.R w S x [oS b l0 a]):(SlR w S x.As b a∧l0=(x.As).length):=by
 obtain⟨_,_,c,s0⟩:=qcX h;cases c;exact⟨s0,rfl⟩
theorem qsr {w0:World}{L:List Ch}(x:qw){I0:List Nat}{a:List Value}(_:SH w0 w L)(b:PO w L I0 x.As a):PO w L I0 x a:=
 b
structure qG where
 Bi:ByteArray
 Bv:Int
 Am:(List Int)
instance gt_TInstance:GoT qG:=isoT (pairT instStr (pairT instInt (@instList Int instInt))) (fun x=>(x.Bi,x.Bv,x.Am)) ⟨ByteArray.empty,0,[]⟩ Z true (fun h=>by cases h)
abbrev qjw (x:qG)(p0:Option Addr)(k0:Nat):List Value:=[.string x.Bi,vi x.Bv,oS p0 (x.Am).length k0]
theorem qaL {x:qG}{cs:List Value}(h:GoT.R w S x cs):∃ b a,cs=(qjw x b a)∧SlR w S x.Am b a:=by
 obtain⟨_,_,rfl,rfl,⟨_,_,rfl,rfl,⟨b,a,rfl,s0⟩⟩⟩:=h;exact⟨b,a,rfl,s0⟩
theorem qnw (x:qG){b:Option Addr}{a:Nat}(s0:SlR w S x.Am b a):GoT.R w S x (qjw x b a):=have h:=pR (rT x.Bi) (pR (rI x.Bv) (rS s0));h
theorem qpo {w0:World}{L:List Ch}{x:qG}{d:Option Addr}{l0 a:Nat}(h:SH w0 w (oW S x [.string x.Bi,vi x.Bv,oS d l0 a]::L)):∃ f,SH w0 w (oW f x.Am [oS d l0 a]::L):=by
 obtain⟨k,i⟩:=h.headV;replace i:GoT.O w S x _:=i;obtain⟨_,_,_,_,l,g,i,_,b0⟩:=i;obtain rfl:=g;cases l;replace k:=k.less b0;obtain⟨_,B1,_,_,l,o1,i,_,b1⟩:=i;obtain rfl:=o1;cases l;replace k:=k.less b1;obtain⟨q,m,l,s0⟩:=i;cases l;replace k:=k.push (c:=oW B1 x.Am [_]) (S2:=(fun _=>False)) ⟨_,_,rfl,s0⟩ (fun _ o=>o.elim) (fun b n=>⟨n,fun h=>h⟩) (fun _ h=>h.elim);exact⟨B1,k.sh⟩
theorem qn2 {w0:World}{L:List Ch}(x:qG){I0 I1 I2:List Nat}{a c1 b:List Value}(h:SH w0 w L)(c:PO w L I0 x.Bi a)(d:PO w L I1 x.Bv c1)(f:PO w L I2 x.Am b)(b0:apartB I0 (I1++I2)=true)(b1:apartB I1 I2=true):PO w L (I0++(I1++I2)) x (a++(c1++b)):=
 (qcU h c (qcU h d f b1) b0)
structure qaB where
 Bi:ByteArray
 Bx:Int
 Cb:Int
instance gt_TPort:GoT qaB:=isoT (pairT instStr (pairT instInt instInt)) (fun x=>(x.Bi,x.Bx,x.Cb)) ⟨ByteArray.empty,0,0⟩ Z true (fun h=>by cases h)
instance fl_TPort:Flat qaB:=qf3 (pairT instStr (pairT instInt instInt)) (fun x:qaB=>(x.Bi,x.Bx,x.Cb)) ⟨ByteArray.empty,0,0⟩ Z true (fun h=>by cases h) (qaT _ _ (inferInstanceAs (Flat ByteArray)) (qaT _ _ (inferInstanceAs (Flat Int)) (inferInstanceAs (Flat Int))))
abbrev qrB (x:qaB):List Value:=[.string x.Bi,vi x.Bx,vi x.Cb]
theorem qe7 {x:qaB}{cs:List Value}(h:GoT.R w S x cs):cs=(qrB x):=by
 obtain⟨_,_,rfl,rfl,⟨_,_,rfl,rfl,rfl⟩⟩:=h;exact Z
theorem qjc (x:qaB):GoT.R w S x (qrB x):=have h:=pR (rT x.Bi) (pR (rI x.Bx) (rI x.Cb));h
structure qh where
 Ab:(List qG)
 Am:(List ByteArray)
 Ai:(List qaB)
instance gt_TDesign:GoT qh:=isoT (pairT (@instList qG gt_TInstance) (pairT (@instList ByteArray instStr) (@instList qaB gt_TPort))) (fun x=>(x.Ab,x.Am,x.Ai)) ⟨[],[],[]⟩ Z true (fun h=>by cases h)
abbrev qaw (x:qh)(p0 p1 p2:Option Addr)(k0 k1 k2:Nat):List Value:=[oS p0 (x.Ab).length k0,oS p1 (x.Am).length k1,oS p2 (x.Ai).length k2]
theorem qaY {x:qh}{cs:List Value}(h:GoT.R w S x cs):∃ d a p1 b f c,cs=(qaw x d p1 f a b c)∧SlR w S x.Ab d a∧SlR w S x.Am p1 b∧SlR w S x.Ai f c:=by
 obtain⟨_,_,rfl,⟨d,a,rfl,s0⟩,⟨_,_,rfl,⟨p1,b,rfl,s1⟩,⟨f,c,rfl,s2⟩⟩⟩:=h;exact⟨d,a,p1,b,f,c,rfl,s0,s1,s2⟩
theorem qa1 (x:qh){d p1 f:Option Addr}{a b c:Nat}(s0:SlR w S x.Ab d a)(s1:SlR w S x.Am p1 b)(s2:SlR w S x.Ai f c):GoT.R w S x (qaw x d p1 f a b c):=have h:=pR (rS s0) (pR (rS s1) (rS s2));h
theorem qdn {x:qh}{d p1 f:Option Addr}{l0 a l1 b l2 c:Nat}(h:GoT.R w S x [oS d l0 a,oS p1 l1 b,oS f l2 c]):(SlR w S x.Ab d a∧l0=(x.Ab).length)∧(SlR w S x.Am p1 b∧l1=(x.Am).length)∧(SlR w S x.Ai f c∧l2=(x.Ai).length):=by
 obtain⟨_,_,_,_,_,_,g,s0,s1,s2⟩:=qaY h;cases g;exact⟨⟨s0,rfl⟩,⟨s1,rfl⟩,⟨s2,rfl⟩⟩
theorem qqv {w0:World}{L:List Ch}{x:qh}{g p1 i:Option Addr}{l0 a l1 d l2 f:Nat}(h:SH w0 w (oW S x [oS g l0 a,oS p1 l1 d,oS i l2 f]::L)):∃ k S1 S2,SH w0 w (oW S2 x.Ai [oS i l2 f]::oW S1 x.Am [oS p1 l1 d]::oW k x.Ab [oS g l0 a]::L):=by
 obtain⟨o,n⟩:=h.headV;replace n:GoT.O w S x _:=n;obtain⟨A0,B0,_,_,r,l,n,a0,b0⟩:=n;obtain⟨q,m,rfl,s0⟩:=l;cases r;replace o:=o.push (c:=oW A0 x.Ab [_]) (S2:=B0) ⟨_,_,rfl,s0⟩ (fun _ p=>p.elim) a0 b0;obtain⟨A1,B1,_,_,r,o1,n,a1,b1⟩:=n;obtain⟨q,m,rfl,s1⟩:=o1;cases r;replace o:=o.push (c:=oW A1 x.Am [_]) (S2:=B1) ⟨_,_,rfl,s1⟩ (fun _ p=>p.elim) a1 b1;obtain⟨q,m,r,s2⟩:=n;cases r;replace o:=o.push (c:=oW B1 x.Ai [_]) (S2:=(fun _=>False)) ⟨_,_,rfl,s2⟩ (fun _ p=>p.elim) (fun b s=>⟨s,fun h=>h⟩) (fun _ h=>h.elim);exact⟨A0,A1,B1,o.sh⟩
theorem qqo {w0:World}{L:List Ch}(x:qh){I0 I1 I2:List Nat}{a c1 b:List Value}(h:SH w0 w L)(c:PO w L I0 x.Ab a)(d:PO w L I1 x.Am c1)(f:PO w L I2 x.Ai b)(b0:apartB I0 (I1++I2)=true)(b1:apartB I1 I2=true):PO w L (I0++(I1++I2)) x (a++(c1++b)):=
 (qcU h c (qcU h d f b1) b0)
structure qam where
 Ak:(List Int)
 Bw:(List Int)
 Br:(List Int)
 Bl:(List Int)
instance gt_TWire:GoT qam:=isoT (pairT (@instList Int instInt) (pairT (@instList Int instInt) (pairT (@instList Int instInt) (@instList Int instInt)))) (fun x=>(x.Ak,x.Bw,x.Br,x.Bl)) ⟨[],[],[],[]⟩ Z true (fun h=>by cases h)
abbrev qgr (x:qam)(p0 p1 p2 p3:Option Addr)(k0 k1 k2 k3:Nat):List Value:=[oS p0 (x.Ak).length k0,oS p1 (x.Bw).length k1,oS p2 (x.Br).length k2,oS p3 (x.Bl).length k3]
theorem qbL {x:qam}{cs:List Value}(h:GoT.R w S x cs):∃ f a p1 b g c i d,cs=(qgr x f p1 g i a b c d)∧SlR w S x.Ak f a∧SlR w S x.Bw p1 b∧SlR w S x.Br g c∧SlR w S x.Bl i d:=by
 obtain⟨_,_,rfl,⟨f,a,rfl,s0⟩,⟨_,_,rfl,⟨p1,b,rfl,s1⟩,⟨_,_,rfl,⟨g,c,rfl,s2⟩,⟨i,d,rfl,k⟩⟩⟩⟩:=h;exact⟨f,a,p1,b,g,c,i,d,rfl,s0,s1,s2,k⟩
theorem qqZ (x:qam){f p1 g i:Option Addr}{a b c d:Nat}(s0:SlR w S x.Ak f a)(s1:SlR w S x.Bw p1 b)(s2:SlR w S x.Br g c)(k:SlR w S x.Bl i d):GoT.R w S x (qgr x f p1 g i a b c d):=have h:=pR (rS s0) (pR (rS s1) (pR (rS s2) (rS k)));h
theorem qjC {w0:World}{L:List Ch}{x:qam}{k p1 l n:Option Addr}{l0 a l1 d l2 f i g:Nat}(h:SH w0 w (oW S x [oS k l0 a,oS p1 l1 d,oS l l2 f,oS n i g]::L)):∃ o S1 S2 p,SH w0 w (oW p x.Bl [oS n i g]::oW S2 x.Br [oS l l2 f]::oW S1 x.Bw [oS p1 l1 d]::oW o x.Ak [oS k l0 a]::L):=by
 obtain⟨u,t⟩:=h.headV;replace t:GoT.O w S x _:=t;obtain⟨A0,B0,_,_,y,r,t,a0,b0⟩:=t;obtain⟨q,m,rfl,s0⟩:=r;cases y;replace u:=u.push (c:=oW A0 x.Ak [_]) (S2:=B0) ⟨_,_,rfl,s0⟩ (fun _ v=>v.elim) a0 b0;obtain⟨A1,B1,_,_,y,o1,t,a1,b1⟩:=t;obtain⟨q,m,rfl,s1⟩:=o1;cases y;replace u:=u.push (c:=oW A1 x.Bw [_]) (S2:=B1) ⟨_,_,rfl,s1⟩ (fun _ v=>v.elim) a1 b1;obtain⟨A2,B2,_,_,y,o2,t,a2,b2⟩:=t;obtain⟨q,m,rfl,s2⟩:=o2;cases y;replace u:=u.push (c:=oW A2 x.Br [_]) (S2:=B2) ⟨_,_,rfl,s2⟩ (fun _ v=>v.elim) a2 b2;obtain⟨q,m,y,s⟩:=t;cases y;replace u:=u.push (c:=oW B2 x.Bl [_]) (S2:=(fun _=>False)) ⟨_,_,rfl,s⟩ (fun _ v=>v.elim) (fun b z=>⟨z,fun h=>h⟩) (fun _ h=>h.elim);exact⟨A0,A1,A2,B2,u.sh⟩
theorem qlz {w0:World}{L:List Ch}(x:qam){I0 I1 I2 I3:List Nat}{a c1 b c:List Value}(h:SH w0 w L)(d:PO w L I0 x.Ak a)(f:PO w L I1 x.Bw c1)(g:PO w L I2 x.Br b)(i:PO w L I3 x.Bl c)(b0:apartB I0 (I1++(I2++I3))=true)(b1:apartB I1 (I2++I3)=true)(b2:apartB I2 I3=true):PO w L (I0++(I1++(I2++I3))) x (a++(c1++(b++c))):=
 (qcU h d (qcU h f (qcU h g i b2) b1) b0)
structure qe where
 Ar:qw
 Aa:qh
 Af:(List qam)
instance gt_TBlock:GoT qe:=isoT (pairT gt_TLibrary (pairT gt_TDesign (@instList qam gt_TWire))) (fun x=>(x.Ar,x.Aa,x.Af)) ⟨(⟨[]⟩:qw),(⟨[],[],[]⟩:qh),[]⟩ Z true (fun h=>by cases h)
abbrev qH (x:qe)(p0 p1 p2 p3 p4:Option Addr)(k0 k1 k2 k3 k4:Nat):List Value:=[oS p0 (x.Ar.As).length k0,oS p1 (x.Aa.Ab).length k1,oS p2 (x.Aa.Am).length k2,oS p3 (x.Aa.Ai).length k3,oS p4 (x.Af).length k4]
theorem qP {x:qe}{cs:List Value}(h:GoT.R w S x cs):∃ g a p1 b i c k d l f,cs=(qH x g p1 i k l a b c d f)∧SlR w S x.Ar.As g a∧SlR w S x.Aa.Ab p1 b∧SlR w S x.Aa.Am i c∧SlR w S x.Aa.Ai k d∧SlR w S x.Af l f:=by
 obtain⟨_,_,rfl,⟨g,a,rfl,s0⟩,⟨_,_,rfl,⟨_,_,rfl,⟨p1,b,rfl,s1⟩,⟨_,_,rfl,⟨i,c,rfl,s2⟩,⟨k,d,rfl,m⟩⟩⟩,⟨l,f,rfl,n⟩⟩⟩:=h;exact⟨g,a,p1,b,i,c,k,d,l,f,rfl,s0,s1,s2,m,n⟩
theorem qkn (x:qe){g p1 i k l:Option Addr}{a b c d f:Nat}(s0:SlR w S x.Ar.As g a)(s1:SlR w S x.Aa.Ab p1 b)(s2:SlR w S x.Aa.Am i c)(m:SlR w S x.Aa.Ai k d)(n:SlR w S x.Af l f):GoT.R w S x (qH x g p1 i k l a b c d f):=have h:=pR (qiD x.Ar s0) (pR (qa1 x.Aa s1 s2 m) (rS n));h
theorem qcG {x:qe}{k p1 l m n:Option Addr}{l0 a l1 b l2 c g d i f:Nat}(h:GoT.R w S x [oS k l0 a,oS p1 l1 b,oS l l2 c,oS m g d,oS n i f]):(SlR w S x.Ar.As k a∧l0=(x.Ar.As).length)∧(SlR w S x.Aa.Ab p1 b∧l1=(x.Aa.Ab).length)∧(SlR w S x.Aa.Am l c∧l2=(x.Aa.Am).length)∧(SlR w S x.Aa.Ai m d∧g=(x.Aa.Ai).length)∧(SlR w S x.Af n f∧i=(x.Af).length):=by
 obtain⟨_,_,_,_,_,_,_,_,_,_,r,s0,s1,s2,o,p⟩:=qP h;cases r;exact⟨⟨s0,rfl⟩,⟨s1,rfl⟩,⟨s2,rfl⟩,⟨o,rfl⟩,⟨p,rfl⟩⟩
theorem qh0 {w0:World}{L:List Ch}{x:qe}{p p1 l m n:Option Addr}{l0 o l1 a l2 d i f k g:Nat}(h:SH w0 w (oW S x [oS p l0 o,oS p1 l1 a,oS l l2 d,oS m i f,oS n k g]::L)):∃ A S1 S2,SH w0 w (oW S2 x.Af [oS n k g]::oW S1 x.Aa [oS p1 l1 a,oS l l2 d,oS m i f]::oW A x.Ar [oS p l0 o]::L):=by
 obtain⟨C,B⟩:=h.headV;replace B:GoT.O w S x _:=B;obtain⟨A0,B0,r,e0,t,z,B,a0,b0⟩:=B;have v:r.length=1:=GoT.len (GoT.toR z);obtain⟨rfl,rfl⟩:r=[oS p l0 o]∧e0=[oS p1 l1 a,oS l l2 d,oS m i f,oS n k g]:=by
  have:=List.append_inj (show[oS p l0 o]++[oS p1 l1 a,oS l l2 d,oS m i f,oS n k g]=r++e0 from t) (by rw[v];rfl);exact⟨this.1.symm,this.2.symm⟩
 replace C:=C.push (c:=oW A0 x.Ar [oS p l0 o]) (S2:=B0) z (fun _ D=>D.elim) a0 b0;obtain⟨A1,B1,s,e1,u,o1,B,a1,b1⟩:=B;have y:s.length=3:=GoT.len (GoT.toR o1);obtain⟨rfl,rfl⟩:s=[oS p1 l1 a,oS l l2 d,oS m i f]∧e1=[oS n k g]:=by
  have:=List.append_inj (show[oS p1 l1 a,oS l l2 d,oS m i f]++[oS n k g]=s++e1 from u) (by rw[y];rfl);exact⟨this.1.symm,this.2.symm⟩
 replace C:=C.push (c:=oW A1 x.Aa [oS p1 l1 a,oS l l2 d,oS m i f]) (S2:=B1) o1 (fun _ D=>D.elim) a1 b1;replace C:=C.push (c:=oW B1 x.Af [oS n k g]) (S2:=(fun _=>False)) B (fun _ D=>D.elim) (fun b F=>⟨F,fun h=>h⟩) (fun _ h=>h.elim);exact⟨A0,A1,B1,C.sh⟩
theorem que {w0:World}{L:List Ch}(x:qe){I0 I1 I2:List Nat}{a c1 b:List Value}(h:SH w0 w L)(c:PO w L I0 x.Ar a)(d:PO w L I1 x.Aa c1)(f:PO w L I2 x.Af b)(b0:apartB I0 (I1++I2)=true)(b1:apartB I1 I2=true):PO w L (I0++(I1++I2)) x (a++(c1++b)):=
 (qcU h c (qcU h d f b1) b0)
structure qy where
 Bi:ByteArray
 Av:Int
 Ba:Int
 Au:Int
 Bb:Int
instance gt_TCorner:GoT qy:=isoT (pairT instStr (pairT instInt (pairT instInt (pairT instInt instInt)))) (fun x=>(x.Bi,x.Av,x.Ba,x.Au,x.Bb)) ⟨ByteArray.empty,0,0,0,0⟩ Z true (fun h=>by cases h)
instance fl_TCorner:Flat qy:=qf3 (pairT instStr (pairT instInt (pairT instInt (pairT instInt instInt)))) (fun x:qy=>(x.Bi,x.Av,x.Ba,x.Au,x.Bb)) ⟨ByteArray.empty,0,0,0,0⟩ Z true (fun h=>by cases h) (qaT _ _ (inferInstanceAs (Flat ByteArray)) (qaT _ _ (inferInstanceAs (Flat Int)) (qaT _ _ (inferInstanceAs (Flat Int)) (qaT _ _ (inferInstanceAs (Flat Int)) (inferInstanceAs (Flat Int))))))
abbrev qaX (x:qy):List Value:=[.string x.Bi,vi x.Av,vi x.Ba,vi x.Au,vi x.Bb]
theorem qbQ {x:qy}{cs:List Value}(h:GoT.R w S x cs):cs=(qaX x):=by
 obtain⟨_,_,rfl,rfl,⟨_,_,rfl,rfl,⟨_,_,rfl,rfl,⟨_,_,rfl,rfl,rfl⟩⟩⟩⟩:=h;exact Z
theorem qfN (x:qy):GoT.R w S x (qaX x):=have h:=pR (rT x.Bi) (pR (rI x.Av) (pR (rI x.Ba) (pR (rI x.Au) (rI x.Bb))));h
structure qoC where
 Cg:Int
 Cf:Int
instance gt_TLatch:GoT qoC:=isoT (pairT instInt instInt) (fun x=>(x.Cg,x.Cf)) ⟨0,0⟩ Z true (fun h=>by cases h)
instance fl_TLatch:Flat qoC:=qf3 (pairT instInt instInt) (fun x:qoC=>(x.Cg,x.Cf)) ⟨0,0⟩ Z true (fun h=>by cases h) (qaT _ _ (inferInstanceAs (Flat Int)) (inferInstanceAs (Flat Int)))
structure qi1 where
 Bk:Int
 To:Int
 Bu:Int
 Ce:Int
instance gt_TLatchLink:GoT qi1:=isoT (pairT instInt (pairT instInt (pairT instInt instInt))) (fun x=>(x.Bk,x.To,x.Bu,x.Ce)) ⟨0,0,0,0⟩ Z true (fun h=>by cases h)
instance fl_TLatchLink:Flat qi1:=qf3 (pairT instInt (pairT instInt (pairT instInt instInt))) (fun x:qi1=>(x.Bk,x.To,x.Bu,x.Ce)) ⟨0,0,0,0⟩ Z true (fun h=>by cases h) (qaT _ _ (inferInstanceAs (Flat Int)) (qaT _ _ (inferInstanceAs (Flat Int)) (qaT _ _ (inferInstanceAs (Flat Int)) (inferInstanceAs (Flat Int)))))
structure qon where
 Cd:(List qoC)
 Be:(List qi1)
instance gt_TLatchSystem:GoT qon:=isoT (pairT (@instList qoC gt_TLatch) (@instList qi1 gt_TLatchLink)) (fun x=>(x.Cd,x.Be)) ⟨[],[]⟩ Z true (fun h=>by cases h)
structure qf where
 Aq:Int
 Bd:Int
instance gt_TSpan:GoT qf:=isoT (pairT instInt instInt) (fun x=>(x.Aq,x.Bd)) ⟨0,0⟩ Z true (fun h=>by cases h)
instance fl_TSpan:Flat qf:=qf3 (pairT instInt instInt) (fun x:qf=>(x.Aq,x.Bd)) ⟨0,0⟩ Z true (fun h=>by cases h) (qaT _ _ (inferInstanceAs (Flat Int)) (inferInstanceAs (Flat Int)))
abbrev qhG (x:qf):List Value:=[vi x.Aq,vi x.Bd]
theorem qx {x:qf}{cs:List Value}(h:GoT.R w S x cs):cs=(qhG x):=by
 obtain⟨_,_,rfl,rfl,rfl⟩:=h;exact Z
theorem qD (x:qf):GoT.R w S x (qhG x):=have h:=pR (rI x.Aq) (rI x.Bd);h
structure qj where
 Bo:Int
 Ah:qf
 Bc:qf
instance gt_TSource:GoT qj:=isoT (pairT instInt (pairT gt_TSpan gt_TSpan)) (fun x=>(x.Bo,x.Ah,x.Bc)) ⟨0,(⟨0,0⟩:qf),(⟨0,0⟩:qf)⟩ Z true (fun h=>by cases h)
instance fl_TSource:Flat qj:=qf3 (pairT instInt (pairT gt_TSpan gt_TSpan)) (fun x:qj=>(x.Bo,x.Ah,x.Bc)) ⟨0,(⟨0,0⟩:qf),(⟨0,0⟩:qf)⟩ Z true (fun h=>by cases h) (qaT _ _ (inferInstanceAs (Flat Int)) (qaT _ _ (inferInstanceAs (Flat qf)) (inferInstanceAs (Flat qf))))
abbrev qf6 (x:qj):List Value:=[vi x.Bo,vi x.Ah.Aq,vi x.Ah.Bd,vi x.Bc.Aq,vi x.Bc.Bd]
theorem qac {x:qj}{cs:List Value}(h:GoT.R w S x cs):cs=(qf6 x):=by
 obtain⟨_,_,rfl,rfl,⟨_,_,rfl,⟨_,_,rfl,rfl,rfl⟩,⟨_,_,rfl,rfl,rfl⟩⟩⟩:=h;exact Z
theorem qbI (x:qj):GoT.R w S x (qf6 x):=have h:=pR (rI x.Bo) (pR (qD x.Ah) (qD x.Bc));h
structure qu where
 Ay:(List Bool)
 Ah:(List qf)
 Bc:(List qf)
instance gt_TTiming:GoT qu:=isoT (pairT (@instList Bool instBool) (pairT (@instList qf gt_TSpan) (@instList qf gt_TSpan))) (fun x=>(x.Ay,x.Ah,x.Bc)) ⟨[],[],[]⟩ Z true (fun h=>by cases h)
abbrev qb4 (x:qu)(p0 p1 p2:Option Addr)(k0 k1 k2:Nat):List Value:=[oS p0 (x.Ay).length k0,oS p1 (x.Ah).length k1,oS p2 (x.Bc).length k2]
theorem qcC {x:qu}{cs:List Value}(h:GoT.R w S x cs):∃ d a p1 b f c,cs=(qb4 x d p1 f a b c)∧SlR w S x.Ay d a∧SlR w S x.Ah p1 b∧SlR w S x.Bc f c:=by
 obtain⟨_,_,rfl,⟨d,a,rfl,s0⟩,⟨_,_,rfl,⟨p1,b,rfl,s1⟩,⟨f,c,rfl,s2⟩⟩⟩:=h;exact⟨d,a,p1,b,f,c,rfl,s0,s1,s2⟩
theorem qr9 (x:qu){d p1 f:Option Addr}{a b c:Nat}(s0:SlR w S x.Ay d a)(s1:SlR w S x.Ah p1 b)(s2:SlR w S x.Bc f c):GoT.R w S x (qb4 x d p1 f a b c):=have h:=pR (rS s0) (pR (rS s1) (rS s2));h
theorem qgJ {w0:World}{L:List Ch}{x:qu}{g p1 i:Option Addr}{l0 a l1 d l2 f:Nat}(h:SH w0 w (oW S x [oS g l0 a,oS p1 l1 d,oS i l2 f]::L)):∃ k S1 S2,SH w0 w (oW S2 x.Bc [oS i l2 f]::oW S1 x.Ah [oS p1 l1 d]::oW k x.Ay [oS g l0 a]::L):=by
 obtain⟨o,n⟩:=h.headV;replace n:GoT.O w S x _:=n;obtain⟨A0,B0,_,_,r,l,n,a0,b0⟩:=n;obtain⟨q,m,rfl,s0⟩:=l;cases r;replace o:=o.push (c:=oW A0 x.Ay [_]) (S2:=B0) ⟨_,_,rfl,s0⟩ (fun _ p=>p.elim) a0 b0;obtain⟨A1,B1,_,_,r,o1,n,a1,b1⟩:=n;obtain⟨q,m,rfl,s1⟩:=o1;cases r;replace o:=o.push (c:=oW A1 x.Ah [_]) (S2:=B1) ⟨_,_,rfl,s1⟩ (fun _ p=>p.elim) a1 b1;obtain⟨q,m,r,s2⟩:=n;cases r;replace o:=o.push (c:=oW B1 x.Bc [_]) (S2:=(fun _=>False)) ⟨_,_,rfl,s2⟩ (fun _ p=>p.elim) (fun b s=>⟨s,fun h=>h⟩) (fun _ h=>h.elim);exact⟨A0,A1,B1,o.sh⟩
theorem qgx {w0:World}{L:List Ch}(x:qu){I0 I1 I2:List Nat}{a c1 b:List Value}(h:SH w0 w L)(c:PO w L I0 x.Ay a)(d:PO w L I1 x.Ah c1)(f:PO w L I2 x.Bc b)(b0:apartB I0 (I1++I2)=true)(b1:apartB I1 I2=true):PO w L (I0++(I1++I2)) x (a++(c1++b)):=
 (qcU h c (qcU h d f b1) b0)
structure qau where
 Ac:qe
 Aj:qy
 Bg:(List Int)
 Ap:(List qj)
instance gt_TJob:GoT qau:=isoT (pairT gt_TBlock (pairT gt_TCorner (pairT (@instList Int instInt) (@instList qj gt_TSource)))) (fun x=>(x.Ac,x.Aj,x.Bg,x.Ap)) ⟨(⟨(⟨[]⟩:qw),(⟨[],[],[]⟩:qh),[]⟩:qe),(⟨ByteArray.empty,0,0,0,0⟩:qy),[],[]⟩ Z true (fun h=>by cases h)
abbrev qbV (x:qau)(p0 p1 p2 p3 p4 p5 p6:Option Addr)(k0 k1 k2 k3 k4 k5 k6:Nat):List Value:=[oS p0 (x.Ac.Ar.As).length k0,oS p1 (x.Ac.Aa.Ab).length k1,oS p2 (x.Ac.Aa.Am).length k2,oS p3 (x.Ac.Aa.Ai).length k3,oS p4 (x.Ac.Af).length k4,.string x.Aj.Bi,vi x.Aj.Av,vi x.Aj.Ba,vi x.Aj.Au,vi x.Aj.Bb,oS p5 (x.Bg).length k5,oS p6 (x.Ap).length k6]
theorem qbC {x:qau}{cs:List Value}(h:GoT.R w S x cs):∃ k a p1 b l c m d n f o g p i,cs=(qbV x k p1 l m n o p a b c d f g i)∧SlR w S x.Ac.Ar.As k a∧SlR w S x.Ac.Aa.Ab p1 b∧SlR w S x.Ac.Aa.Am l c∧SlR w S x.Ac.Aa.Ai m d∧SlR w S x.Ac.Af n f∧SlR w S x.Bg o g∧SlR w S x.Ap p i:=by
 obtain⟨_,_,rfl,⟨_,_,rfl,⟨k,a,rfl,s0⟩,⟨_,_,rfl,⟨_,_,rfl,⟨p1,b,rfl,s1⟩,⟨_,_,rfl,⟨l,c,rfl,s2⟩,⟨m,d,rfl,r⟩⟩⟩,⟨n,f,rfl,s⟩⟩⟩,⟨_,_,rfl,⟨_,_,rfl,rfl,⟨_,_,rfl,rfl,⟨_,_,rfl,rfl,⟨_,_,rfl,rfl,rfl⟩⟩⟩⟩,⟨_,_,rfl,⟨o,g,rfl,t⟩,⟨p,i,rfl,u⟩⟩⟩⟩:=h;exact⟨k,a,p1,b,l,c,m,d,n,f,o,g,p,i,rfl,s0,s1,s2,r,s,t,u⟩
theorem qfM {x:qau}{n p1 o p r s t:Option Addr}{l0 a l1 b l2 c k d l f l5 g m i:Nat}(h:GoT.R w S x [oS n l0 a,oS p1 l1 b,oS o l2 c,oS p k d,oS r l f,.string x.Aj.Bi,vi x.Aj.Av,vi x.Aj.Ba,vi x.Aj.Au,vi x.Aj.Bb,oS s l5 g,oS t m i]):(SlR w S x.Ac.Ar.As n a∧l0=(x.Ac.Ar.As).length)∧(SlR w S x.Ac.Aa.Ab p1 b∧l1=(x.Ac.Aa.Ab).length)∧(SlR w S x.Ac.Aa.Am o c∧l2=(x.Ac.Aa.Am).length)∧(SlR w S x.Ac.Aa.Ai p d∧k=(x.Ac.Aa.Ai).length)∧(SlR w S x.Ac.Af r f∧l=(x.Ac.Af).length)∧(SlR w S x.Bg s g∧l5=(x.Bg).length)∧(SlR w S x.Ap t i∧m=(x.Ap).length):=by
 obtain⟨_,_,_,_,_,_,_,_,_,_,_,_,_,_,A,s0,s1,s2,u,v,y,z⟩:=qbC h;cases A;exact⟨⟨s0,rfl⟩,⟨s1,rfl⟩,⟨s2,rfl⟩,⟨u,rfl⟩,⟨v,rfl⟩,⟨y,rfl⟩,⟨z,rfl⟩⟩
structure qr where
 Bk:Int
 To:Int
 Bf:Int
 Ca:Int
instance gt_TLink:GoT qr:=isoT (pairT instInt (pairT instInt (pairT instInt instInt))) (fun x=>(x.Bk,x.To,x.Bf,x.Ca)) ⟨0,0,0,0⟩ Z true (fun h=>by cases h)
instance fl_TLink:Flat qr:=qf3 (pairT instInt (pairT instInt (pairT instInt instInt))) (fun x:qr=>(x.Bk,x.To,x.Bf,x.Ca)) ⟨0,0,0,0⟩ Z true (fun h=>by cases h) (qaT _ _ (inferInstanceAs (Flat Int)) (qaT _ _ (inferInstanceAs (Flat Int)) (qaT _ _ (inferInstanceAs (Flat Int)) (inferInstanceAs (Flat Int)))))
abbrev qjT (x:qr):List Value:=[vi x.Bk,vi x.To,vi x.Bf,vi x.Ca]
theorem qab {x:qr}{cs:List Value}(h:GoT.R w S x cs):cs=(qjT x):=by
 obtain⟨_,_,rfl,rfl,⟨_,_,rfl,rfl,⟨_,_,rfl,rfl,rfl⟩⟩⟩:=h;exact Z
theorem qcN (x:qr):GoT.R w S x (qjT x):=have h:=pR (rI x.Bk) (pR (rI x.To) (pR (rI x.Bf) (rI x.Ca)));h
structure qT where
 Bm:Int
 Be:(List Int)
 Ah:Int
instance gt_TPath:GoT qT:=isoT (pairT instInt (pairT (@instList Int instInt) instInt)) (fun x=>(x.Bm,x.Be,x.Ah)) ⟨0,[],0⟩ Z true (fun h=>by cases h)
abbrev qes (x:qT)(p0:Option Addr)(k0:Nat):List Value:=[vi x.Bm,oS p0 (x.Be).length k0,vi x.Ah]
theorem qav {x:qT}{cs:List Value}(h:GoT.R w S x cs):∃ b a,cs=(qes x b a)∧SlR w S x.Be b a:=by
 obtain⟨_,_,rfl,rfl,⟨_,_,rfl,⟨b,a,rfl,s0⟩,rfl⟩⟩:=h;exact⟨b,a,rfl,s0⟩
theorem qua (x:qT){b:Option Addr}{a:Nat}(s0:SlR w S x.Be b a):GoT.R w S x (qes x b a):=have h:=pR (rI x.Bm) (pR (rS s0) (rI x.Ah));h
theorem qj7 {x:qT}{b:Option Addr}{l0 a:Nat}(h:GoT.R w S x [vi x.Bm,oS b l0 a,vi x.Ah]):(SlR w S x.Be b a∧l0=(x.Be).length):=by
 obtain⟨_,_,c,s0⟩:=qav h;cases c;exact⟨s0,rfl⟩
structure Tl01Source where
 code:(List (IntK .u8))
 at_:Int
 seed:Int
instance gt_Tl01Source:GoT Tl01Source:=isoT (pairT (@instList (IntK .u8) (@gt_IntK .u8)) (pairT instInt instInt)) (fun x=>(x.code,x.at_,x.seed)) ⟨[],0,0⟩ Z true (fun h=>by cases h)
abbrev qN (x:Tl01Source)(p0:Option Addr)(k0:Nat):List Value:=[oS p0 (x.code).length k0,vi x.at_,vi x.seed]
theorem qpn {x:Tl01Source}{cs:List Value}(h:GoT.R w S x cs):∃ b a,cs=(qN x b a)∧SlR w S x.code b a:=by
 obtain⟨_,_,rfl,⟨b,a,rfl,s0⟩,⟨_,_,rfl,rfl,rfl⟩⟩:=h;exact⟨b,a,rfl,s0⟩
theorem qg5 (x:Tl01Source){b:Option Addr}{a:Nat}(s0:SlR w S x.code b a):GoT.R w S x (qN x b a):=have h:=pR (rS s0) (pR (rI x.at_) (rI x.seed));h
theorem qc {x:Tl01Source}{b:Option Addr}{l0 a:Nat}(h:GoT.R w S x [oS b l0 a,vi x.at_,vi x.seed]):(SlR w S x.code b a∧l0=(x.code).length):=by
 obtain⟨_,_,c,s0⟩:=qpn h;cases c;exact⟨s0,rfl⟩
structure Tplace where
 instance_:Int
 pin:Int
 net:Int
 drives:Bool
instance gt_Tplace:GoT Tplace:=isoT (pairT instInt (pairT instInt (pairT instInt instBool))) (fun x=>(x.instance_,x.pin,x.net,x.drives)) ⟨0,0,0,false⟩ Z true (fun h=>by cases h)
instance fl_Tplace:Flat Tplace:=qf3 (pairT instInt (pairT instInt (pairT instInt instBool))) (fun x:Tplace=>(x.instance_,x.pin,x.net,x.drives)) ⟨0,0,0,false⟩ Z true (fun h=>by cases h) (qaT _ _ (inferInstanceAs (Flat Int)) (qaT _ _ (inferInstanceAs (Flat Int)) (qaT _ _ (inferInstanceAs (Flat Int)) (inferInstanceAs (Flat Bool)))))
abbrev qqr (x:Tplace):List Value:=[vi x.instance_,vi x.pin,vi x.net,.bool x.drives]
theorem qg7 {x:Tplace}{cs:List Value}(h:GoT.R w S x cs):cs=(qqr x):=by
 obtain⟨_,_,rfl,rfl,⟨_,_,rfl,rfl,⟨_,_,rfl,rfl,rfl⟩⟩⟩:=h;exact Z
theorem qlT (x:Tplace):GoT.R w S x (qqr x):=have h:=pR (rI x.instance_) (pR (rI x.pin) (pR (rI x.net) (rB x.drives)));h
structure Tview where
 Ac:qe
 places:(List Tplace)
 links:(List qr)
 loads:(List Int)
 delays:(List (List Int))
 extras:(List Int)
instance gt_Tview:GoT Tview:=isoT (pairT gt_TBlock (pairT (@instList Tplace gt_Tplace) (pairT (@instList qr gt_TLink) (pairT (@instList Int instInt) (pairT (@instList (List Int) (@instList Int instInt)) (@instList Int instInt)))))) (fun x=>(x.Ac,x.places,x.links,x.loads,x.delays,x.extras)) ⟨(⟨(⟨[]⟩:qw),(⟨[],[],[]⟩:qh),[]⟩:qe),[],[],[],[],[]⟩ Z true (fun h=>by cases h)
abbrev qwb (x:Tview)(p0 p1 p2 p3 p4 p5 p6 p7 p8 p9:Option Addr)(k0 k1 k2 k3 k4 k5 k6 k7 k8 k9:Nat):List Value:=[oS p0 (x.Ac.Ar.As).length k0,oS p1 (x.Ac.Aa.Ab).length k1,oS p2 (x.Ac.Aa.Am).length k2,oS p3 (x.Ac.Aa.Ai).length k3,oS p4 (x.Ac.Af).length k4,oS p5 (x.places).length k5,oS p6 (x.links).length k6,oS p7 (x.loads).length k7,oS p8 (x.delays).length k8,oS p9 (x.extras).length k9]
theorem qbP {x:Tview}{cs:List Value}(h:GoT.R w S x cs):∃ n a p1 b o c p d r f s g t i u k v l y m,cs=(qwb x n p1 o p r s t u v y a b c d f g i k l m)∧SlR w S x.Ac.Ar.As n a∧SlR w S x.Ac.Aa.Ab p1 b∧SlR w S x.Ac.Aa.Am o c∧SlR w S x.Ac.Aa.Ai p d∧SlR w S x.Ac.Af r f∧SlR w S x.places s g∧SlR w S x.links t i∧SlR w S x.loads u k∧SlR w S x.delays v l∧SlR w S x.extras y m:=by
 obtain⟨_,_,rfl,⟨_,_,rfl,⟨n,a,rfl,s0⟩,⟨_,_,rfl,⟨_,_,rfl,⟨p1,b,rfl,s1⟩,⟨_,_,rfl,⟨o,c,rfl,s2⟩,⟨p,d,rfl,z⟩⟩⟩,⟨r,f,rfl,A⟩⟩⟩,⟨_,_,rfl,⟨s,g,rfl,B⟩,⟨_,_,rfl,⟨t,i,rfl,C⟩,⟨_,_,rfl,⟨u,k,rfl,D⟩,⟨_,_,rfl,⟨v,l,rfl,F⟩,⟨y,m,rfl,H⟩⟩⟩⟩⟩⟩:=h;exact⟨n,a,p1,b,o,c,p,d,r,f,s,g,t,i,u,k,v,l,y,m,rfl,s0,s1,s2,z,A,B,C,D,F,H⟩
structure TlatchSite where
 instance_:Int
 first:Int
 arc:Int
instance gt_TlatchSite:GoT TlatchSite:=isoT (pairT instInt (pairT instInt instInt)) (fun x=>(x.instance_,x.first,x.arc)) ⟨0,0,0⟩ Z true (fun h=>by cases h)
instance fl_TlatchSite:Flat TlatchSite:=qf3 (pairT instInt (pairT instInt instInt)) (fun x:TlatchSite=>(x.instance_,x.first,x.arc)) ⟨0,0,0⟩ Z true (fun h=>by cases h) (qaT _ _ (inferInstanceAs (Flat Int)) (qaT _ _ (inferInstanceAs (Flat Int)) (inferInstanceAs (Flat Int))))
structure Tgraph where
 view:(Option Tview)
 live:(List Bool)
instance gt_Tgraph:GoT Tgraph:=isoT (pairT (@instPtr Tview gt_Tview) (@instList Bool instBool)) (fun x=>(x.view,x.live)) ⟨U,[]⟩ Z true (fun h=>by cases h)
abbrev quE (x:Tgraph)(p0 p1:Option Addr)(k1:Nat):List Value:=[.pointer p0,oS p1 (x.live).length k1]
theorem qdq {x:Tgraph}{cs:List Value}(h:GoT.R w S x cs):∃ b p1 a,cs=(quE x b p1 a)∧PtR w S x.view b∧SlR w S x.live p1 a:=by
 obtain⟨_,_,rfl,c,⟨p1,a,rfl,s1⟩⟩:=h;obtain⟨b,rfl,s0⟩:=qak c;exact⟨b,p1,a,rfl,s0,s1⟩
structure Twork where
 graph:(Option Tgraph)
 job:qau
 timing:qu
 order:(List Int)
instance gt_Twork:GoT Twork:=isoT (pairT (@instPtr Tgraph gt_Tgraph) (pairT gt_TJob (pairT gt_TTiming (@instList Int instInt)))) (fun x=>(x.graph,x.job,x.timing,x.order)) ⟨U,(⟨(⟨(⟨[]⟩:qw),(⟨[],[],[]⟩:qh),[]⟩:qe),(⟨ByteArray.empty,0,0,0,0⟩:qy),[],[]⟩:qau),(⟨[],[],[]⟩:qu),[]⟩ Z true (fun h=>by cases h)
abbrev qv2 (x:Twork)(p0 p1 p2 p3 p4 p5 p6 p7 p8 p9 p10 p11:Option Addr)(k1 k2 k3 k4 k5 k6 k7 k8 k9 k10 k11:Nat):List Value:=[.pointer p0,oS p1 (x.job.Ac.Ar.As).length k1,oS p2 (x.job.Ac.Aa.Ab).length k2,oS p3 (x.job.Ac.Aa.Am).length k3,oS p4 (x.job.Ac.Aa.Ai).length k4,oS p5 (x.job.Ac.Af).length k5,.string x.job.Aj.Bi,vi x.job.Aj.Av,vi x.job.Aj.Ba,vi x.job.Aj.Au,vi x.job.Aj.Bb,oS p6 (x.job.Bg).length k6,oS p7 (x.job.Ap).length k7,oS p8 (x.timing.Ay).length k8,oS p9 (x.timing.Ah).length k9,oS p10 (x.timing.Bc).length k10,oS p11 (x.order).length k11]
theorem qkh {x:Twork}{cs:List Value}(h:GoT.R w S x cs):∃ r p1 f s g t i u k v l y m z n A o B p c a d b,cs=(qv2 x r p1 s t u v y z A B c d f g i k l m n o p a b)∧PtR w S x.graph r∧SlR w S x.job.Ac.Ar.As p1 f∧SlR w S x.job.Ac.Aa.Ab s g∧SlR w S x.job.Ac.Aa.Am t i∧SlR w S x.job.Ac.Aa.Ai u k∧SlR w S x.job.Ac.Af v l∧SlR w S x.job.Bg y m∧SlR w S x.job.Ap z n∧SlR w S x.timing.Ay A o∧SlR w S x.timing.Ah B p∧SlR w S x.timing.Bc c a∧SlR w S x.order d b:=by
 obtain⟨_,_,rfl,N,⟨_,_,rfl,⟨_,_,rfl,⟨_,_,rfl,⟨p1,f,rfl,s1⟩,⟨_,_,rfl,⟨_,_,rfl,⟨s,g,rfl,s2⟩,⟨_,_,rfl,⟨t,i,rfl,F⟩,⟨u,k,rfl,H⟩⟩⟩,⟨v,l,rfl,I⟩⟩⟩,⟨_,_,rfl,⟨_,_,rfl,rfl,⟨_,_,rfl,rfl,⟨_,_,rfl,rfl,⟨_,_,rfl,rfl,rfl⟩⟩⟩⟩,⟨_,_,rfl,⟨y,m,rfl,J⟩,⟨z,n,rfl,K⟩⟩⟩⟩,⟨_,_,rfl,⟨_,_,rfl,⟨A,o,rfl,L⟩,⟨_,_,rfl,⟨B,p,rfl,M⟩,⟨c,a,rfl,C⟩⟩⟩,⟨d,b,rfl,D⟩⟩⟩⟩:=h;obtain⟨r,rfl,s0⟩:=qak N;exact⟨r,p1,f,s,g,t,i,u,k,v,l,y,m,z,n,A,o,B,p,c,a,d,b,rfl,s0,s1,s2,F,H,I,J,K,L,M,C,D⟩
structure Tl20Work where
 j:qau
 links:(List qr)
 live:(List Bool)
 t:qu
instance gt_Tl20Work:GoT Tl20Work:=isoT (pairT gt_TJob (pairT (@instList qr gt_TLink) (pairT (@instList Bool instBool) gt_TTiming))) (fun x=>(x.j,x.links,x.live,x.t)) ⟨(⟨(⟨(⟨[]⟩:qw),(⟨[],[],[]⟩:qh),[]⟩:qe),(⟨ByteArray.empty,0,0,0,0⟩:qy),[],[]⟩:qau),[],[],(⟨[],[],[]⟩:qu)⟩ Z true (fun h=>by cases h)
abbrev qs2 (x:Tl20Work)(p0 p1 p2 p3 p4 p5 p6 p7 p8 p9 p10 p11:Option Addr)(k0 k1 k2 k3 k4 k5 k6 k7 k8 k9 k10 k11:Nat):List Value:=[oS p0 (x.j.Ac.Ar.As).length k0,oS p1 (x.j.Ac.Aa.Ab).length k1,oS p2 (x.j.Ac.Aa.Am).length k2,oS p3 (x.j.Ac.Aa.Ai).length k3,oS p4 (x.j.Ac.Af).length k4,.string x.j.Aj.Bi,vi x.j.Aj.Av,vi x.j.Aj.Ba,vi x.j.Aj.Au,vi x.j.Aj.Bb,oS p5 (x.j.Bg).length k5,oS p6 (x.j.Ap).length k6,oS p7 (x.links).length k7,oS p8 (x.live).length k8,oS p9 (x.t.Ay).length k9,oS p10 (x.t.Ah).length k10,oS p11 (x.t.Bc).length k11]
theorem qk7 {x:Tl20Work}{cs:List Value}(h:GoT.R w S x cs):∃ s f p1 g t i u k v l y m z n A o B p C r c a d b,cs=(qs2 x s p1 t u v y z A B C c d f g i k l m n o p r a b)∧SlR w S x.j.Ac.Ar.As s f∧SlR w S x.j.Ac.Aa.Ab p1 g∧SlR w S x.j.Ac.Aa.Am t i∧SlR w S x.j.Ac.Aa.Ai u k∧SlR w S x.j.Ac.Af v l∧SlR w S x.j.Bg y m∧SlR w S x.j.Ap z n∧SlR w S x.links A o∧SlR w S x.live B p∧SlR w S x.t.Ay C r∧SlR w S x.t.Ah c a∧SlR w S x.t.Bc d b:=by
 obtain⟨_,_,rfl,⟨_,_,rfl,⟨_,_,rfl,⟨s,f,rfl,s0⟩,⟨_,_,rfl,⟨_,_,rfl,⟨p1,g,rfl,s1⟩,⟨_,_,rfl,⟨t,i,rfl,s2⟩,⟨u,k,rfl,H⟩⟩⟩,⟨v,l,rfl,I⟩⟩⟩,⟨_,_,rfl,⟨_,_,rfl,rfl,⟨_,_,rfl,rfl,⟨_,_,rfl,rfl,⟨_,_,rfl,rfl,rfl⟩⟩⟩⟩,⟨_,_,rfl,⟨y,m,rfl,J⟩,⟨z,n,rfl,K⟩⟩⟩⟩,⟨_,_,rfl,⟨A,o,rfl,L⟩,⟨_,_,rfl,⟨B,p,rfl,M⟩,⟨_,_,rfl,⟨C,r,rfl,N⟩,⟨_,_,rfl,⟨c,a,rfl,D⟩,⟨d,b,rfl,F⟩⟩⟩⟩⟩⟩:=h;exact⟨s,f,p1,g,t,i,u,k,v,l,y,m,z,n,A,o,B,p,C,r,c,a,d,b,rfl,s0,s1,s2,H,I,J,K,L,M,N,D,F⟩
structure Tl05Place where
 instance_:Int
 pin:Int
 net:Int
 drives:Bool
instance gt_Tl05Place:GoT Tl05Place:=isoT (pairT instInt (pairT instInt (pairT instInt instBool))) (fun x=>(x.instance_,x.pin,x.net,x.drives)) ⟨0,0,0,false⟩ Z true (fun h=>by cases h)
instance fl_Tl05Place:Flat Tl05Place:=qf3 (pairT instInt (pairT instInt (pairT instInt instBool))) (fun x:Tl05Place=>(x.instance_,x.pin,x.net,x.drives)) ⟨0,0,0,false⟩ Z true (fun h=>by cases h) (qaT _ _ (inferInstanceAs (Flat Int)) (qaT _ _ (inferInstanceAs (Flat Int)) (qaT _ _ (inferInstanceAs (Flat Int)) (inferInstanceAs (Flat Bool)))))
abbrev qkP (x:Tl05Place):List Value:=[vi x.instance_,vi x.pin,vi x.net,.bool x.drives]
theorem qby {x:Tl05Place}{cs:List Value}(h:GoT.R w S x cs):cs=(qkP x):=by
 obtain⟨_,_,rfl,rfl,⟨_,_,rfl,rfl,⟨_,_,rfl,rfl,rfl⟩⟩⟩:=h;exact Z
theorem qfR (x:Tl05Place):GoT.R w S x (qkP x):=have h:=pR (rI x.instance_) (pR (rI x.pin) (pR (rI x.net) (rB x.drives)));h
structure qW where
 e0:Int
 e1:Int
instance gt_TA2_Int:GoT qW:=isoT (pairT instInt instInt) (fun x=>(x.e0,x.e1)) ⟨0,0⟩ Z true (fun h=>by cases h)
instance fl_TA2_Int:Flat qW:=qf3 (pairT instInt instInt) (fun x:qW=>(x.e0,x.e1)) ⟨0,0⟩ Z true (fun h=>by cases h) (qaT _ _ (inferInstanceAs (Flat Int)) (inferInstanceAs (Flat Int)))
abbrev qq4 (x:qW):List Value:=[vi x.e0,vi x.e1]
theorem qrv {x:qW}{cs:List Value}(h:GoT.R w S x cs):cs=(qq4 x):=by
 obtain⟨_,_,rfl,rfl,rfl⟩:=h;exact Z
theorem qdm (x:qW):GoT.R w S x (qq4 x):=have h:=pR (rI x.e0) (rI x.e1);h
structure Tweight where
 index:Int
 part:Int
instance gt_Tweight:GoT Tweight:=isoT (pairT instInt instInt) (fun x=>(x.index,x.part)) ⟨0,0⟩ Z true (fun h=>by cases h)
instance fl_Tweight:Flat Tweight:=qf3 (pairT instInt instInt) (fun x:Tweight=>(x.index,x.part)) ⟨0,0⟩ Z true (fun h=>by cases h) (qaT _ _ (inferInstanceAs (Flat Int)) (inferInstanceAs (Flat Int)))
abbrev qoL (x:Tweight):List Value:=[vi x.index,vi x.part]
theorem qnT {x:Tweight}{cs:List Value}(h:GoT.R w S x cs):cs=(qoL x):=by
 obtain⟨_,_,rfl,rfl,rfl⟩:=h;exact Z
theorem qmr (x:Tweight):GoT.R w S x (qoL x):=have h:=pR (rI x.index) (rI x.part);h
def tab:Tab:=[ (2,⟨.int .i64,1,8,V (vi 0),[]⟩), (3,⟨.int .i64,1,8,V (vi 0),[]⟩), (4,⟨.bool,1,1,V (.bool false),[]⟩), (5,⟨.int .u8,1,1,V (.int .u8 0),[]⟩), (9,⟨.str,1,16,V (.string ByteArray.empty),[]⟩), (22,⟨.slice 5,1,24,V (.slice U 0 0),[]⟩), (24,⟨.slice 184,1,24,V (.slice U 0 0),[]⟩), (26,⟨.struct,1,24,V (.agg #[.slice U 0 0]),[(0,1,V false)]⟩), (27,⟨.slice 102,1,24,V (.slice U 0 0),[]⟩), (28,⟨.slice 9,1,24,V (.slice U 0 0),[]⟩), (29,⟨.slice 267,1,24,V (.slice U 0 0),[]⟩), (31,⟨.struct,3,72,V (.agg #[.slice U 0 0,.slice U 0 0,.slice U 0 0]),[(0,1,V false),(1,1,V false),(2,1,V false)]⟩), (32,⟨.slice 196,1,24,V (.slice U 0 0),[]⟩), (34,⟨.struct,5,120,V (.agg #[.slice U 0 0,.slice U 0 0,.slice U 0 0,.slice U 0 0,.slice U 0 0]),[(0,1,V true),(1,3,V true),(4,1,V false)]⟩), (36,⟨.struct,5,48,V (.agg #[.string ByteArray.empty,vi 0,vi 0,vi 0,vi 0]),[(0,1,V false),(1,1,V false),(2,1,V false),(3,1,V false),(4,1,V false)]⟩), (37,⟨.slice 2,1,24,V (.slice U 0 0),[]⟩), (40,⟨.slice 126,1,24,V (.slice U 0 0),[]⟩), (41,⟨.slice 48,1,24,V (.slice U 0 0),[]⟩), (43,⟨.struct,2,48,V (.agg #[.slice U 0 0,.slice U 0 0]),[(0,1,V false),(1,1,V false)]⟩), (48,⟨.struct,4,32,V (.agg #[vi 0,vi 0,vi 0,vi 0]),[(0,1,V false),(1,1,V false),(2,1,V false),(3,1,V false)]⟩), (49,⟨.slice 70,1,24,V (.slice U 0 0),[]⟩), (52,⟨.slice 4,1,24,V (.slice U 0 0),[]⟩), (53,⟨.slice 68,1,24,V (.slice U 0 0),[]⟩), (55,⟨.struct,3,72,V (.agg #[.slice U 0 0,.slice U 0 0,.slice U 0 0]),[(0,1,V false),(1,1,V false),(2,1,V false)]⟩), (62,⟨.struct,12,216,V (.agg #[.slice U 0 0,.slice U 0 0,.slice U 0 0,.slice U 0 0,.slice U 0 0,.string ByteArray.empty,vi 0,vi 0,vi 0,vi 0,.slice U 0 0,.slice U 0 0]),[(0,5,V true),(5,5,V true),(10,1,V false),(11,1,V false)]⟩), (68,⟨.struct,2,16,V (.agg #[vi 0,vi 0]),[(0,1,V false),(1,1,V false)]⟩), (70,⟨.struct,5,40,V (.agg #[vi 0,vi 0,vi 0,vi 0,vi 0]),[(0,1,V false),(1,2,V true),(3,2,V true)]⟩), (73,⟨.slice 77,1,24,V (.slice U 0 0),[]⟩), (77,⟨.struct,4,32,V (.agg #[vi 0,vi 0,vi 0,vi 0]),[(0,1,V false),(1,1,V false),(2,1,V false),(3,1,V false)]⟩), (84,⟨.struct,3,40,V (.agg #[vi 0,.slice U 0 0,vi 0]),[(0,1,V false),(1,1,V false),(2,1,V false)]⟩), (97,⟨.ptr,1,8,V (.pointer U),[]⟩), (102,⟨.struct,3,48,V (.agg #[.string ByteArray.empty,vi 0,.slice U 0 0]),[(0,1,V false),(1,1,V false),(2,1,V false)]⟩), (106,⟨.ptr,1,8,V (.pointer U),[]⟩), (110,⟨.slice 210,1,24,V (.slice U 0 0),[]⟩), (112,⟨.ptr,1,8,V (.pointer U),[]⟩), (115,⟨.struct,2,32,V (.agg #[.pointer U,.slice U 0 0]),[(0,1,V false),(1,1,V false)]⟩), (116,⟨.slice 200,1,24,V (.slice U 0 0),[]⟩), (117,⟨.slice 37,1,24,V (.slice U 0 0),[]⟩), (119,⟨.struct,10,240,V (.agg #[.slice U 0 0,.slice U 0 0,.slice U 0 0,.slice U 0 0,.slice U 0 0,.slice U 0 0,.slice U 0 0,.slice U 0 0,.slice U 0 0,.slice U 0 0]),[(0,5,V true),(5,1,V false),(6,1,V false),(7,1,V false),(8,1,V false),(9,1,V false)]⟩), (126,⟨.struct,2,16,V (.agg #[vi 0,vi 0]),[(0,1,V false),(1,1,V false)]⟩), (150,⟨.ptr,1,8,V (.pointer U),[]⟩), (181,⟨.slice 286,1,24,V (.slice U 0 0),[]⟩), (182,⟨.slice 187,1,24,V (.slice U 0 0),[]⟩), (184,⟨.struct,7,112,V (.agg #[.string ByteArray.empty,vi 0,.slice U 0 0,.slice U 0 0,.slice U 0 0,vi 0,vi 0]),[(0,1,V false),(1,1,V false),(2,1,V false),(3,1,V false),(4,1,V false),(5,1,V false),(6,1,V false)]⟩), (185,⟨.slice 264,1,24,V (.slice U 0 0),[]⟩), (187,⟨.struct,6,80,V (.agg #[vi 0,vi 0,vi 0,vi 0,.slice U 0 0,.slice U 0 0]),[(0,1,V false),(1,1,V false),(2,1,V false),(3,1,V false),(4,1,V false),(5,1,V false)]⟩), (191,⟨.struct,3,40,V (.agg #[.slice U 0 0,vi 0,vi 0]),[(0,1,V false),(1,1,V false),(2,1,V false)]⟩), (196,⟨.struct,4,96,V (.agg #[.slice U 0 0,.slice U 0 0,.slice U 0 0,.slice U 0 0]),[(0,1,V false),(1,1,V false),(2,1,V false),(3,1,V false)]⟩), (200,⟨.struct,4,32,V (.agg #[vi 0,vi 0,vi 0,.bool false]),[(0,1,V false),(1,1,V false),(2,1,V false),(3,1,V false)]⟩), (210,⟨.struct,3,24,V (.agg #[vi 0,vi 0,vi 0]),[(0,1,V false),(1,1,V false),(2,1,V false)]⟩), (212,⟨.slice 3,1,24,V (.slice U 0 0),[]⟩), (222,⟨.slice 225,1,24,V (.slice U 0 0),[]⟩), (225,⟨.struct,4,32,V (.agg #[vi 0,vi 0,vi 0,.bool false]),[(0,1,V false),(1,1,V false),(2,1,V false),(3,1,V false)]⟩), (234,⟨.ptr,1,8,V (.pointer U),[]⟩), (243,⟨.struct,17,336,V (.agg #[.slice U 0 0,.slice U 0 0,.slice U 0 0,.slice U 0 0,.slice U 0 0,.string ByteArray.empty,vi 0,vi 0,vi 0,vi 0,.slice U 0 0,.slice U 0 0,.slice U 0 0,.slice U 0 0,.slice U 0 0,.slice U 0 0,.slice U 0 0]),[(0,12,V true),(12,1,V false),(13,1,V false),(14,3,V true)]⟩), (246,⟨.struct,17,320,V (.agg #[.pointer U,.slice U 0 0,.slice U 0 0,.slice U 0 0,.slice U 0 0,.slice U 0 0,.string ByteArray.empty,vi 0,vi 0,vi 0,vi 0,.slice U 0 0,.slice U 0 0,.slice U 0 0,.slice U 0 0,.slice U 0 0,.slice U 0 0]),[(0,1,V false),(1,12,V true),(13,3,V true),(16,1,V false)]⟩), (264,⟨.struct,3,72,V (.agg #[.slice U 0 0,.slice U 0 0,.slice U 0 0]),[(0,1,V false),(1,1,V false),(2,1,V false)]⟩), (267,⟨.struct,3,32,V (.agg #[.string ByteArray.empty,vi 0,vi 0]),[(0,1,V false),(1,1,V false),(2,1,V false)]⟩), (279,⟨.slice 281,1,24,V (.slice U 0 0),[]⟩), (281,⟨.arr 2 2,2,16,V (.agg #[vi 0,vi 0]),[]⟩), (286,⟨.struct,4,40,V (.agg #[.string ByteArray.empty,vi 0,vi 0,.bool false]),[(0,1,V false),(1,1,V false),(2,1,V false),(3,1,V false)]⟩), (328,⟨.slice 332,1,24,V (.slice U 0 0),[]⟩), (332,⟨.struct,2,16,V (.agg #[vi 0,vi 0]),[(0,1,V false),(1,1,V false)]⟩), (338,⟨.int .u64,1,8,V (.int .u64 0),[]⟩)]
theorem qa:TabOk prog tab:=TabOk.mk (by kernel_rfl)
theorem rp {n:Nat}{Q:Exit→Act→World→Prop}{k:List It}{e:Env}{w:World}{all:Array Oper}{l:List Oper}{a:Op}{d t:Nat}{ps:String}{af:Array Edge}{v:Value}
  (h:pev tab e a=V v) (c:Nat.blt d n=true) (b:Run prog n Q (.ops all l::k) ((d,v)::e) w):Run prog n Q (.ops all (⟨V d,a,t,ps,af,U⟩::l)::k) e w:=r_p qa h c b
theorem dp {n:Nat}{Q:Exit→Act→World→Prop}{k:List It}{e:Env}{w:World}{all:Array Oper}{l:List Oper}{a:Op}{d t:Nat}{ps:String}{af:Array Edge}{v:Value}
  (h:pev tab e a=V v) (c:Nat.blt d n=true) (b:RunD prog n Q k all w l ((d,v)::e)):RunD prog n Q k all w (⟨V d,a,t,ps,af,U⟩::l) e:=d_p qa h c b
section
variable {P:Program}{n:Nat}{Q:Exit→Act→World→Prop}{k:List It}{e:Env}{w:World}
theorem zSR {c:Nat}{a:List Oper}{b:Code}(h:Run P n Q (.ops a.toArray a::.code b::k) e w):Run P n Q (.code (.seq (.region c a.toArray false) b)::k) e w:=qcq <| qkm h
theorem zKSR {c:Nat}{a:List Oper}{b:Code}(h:Run P n Q (.ops a.toArray a::.code b::k) e w):Run P n Q (.code .skip::.code (.seq (.region c a.toArray false) b)::k) e w:=qf2 <| qcq <| qkm h
theorem zNSR {a1:Array Oper}{c:Nat}{a:List Oper}{b:Code}(h:Run P n Q (.ops a.toArray a::.code b::k) e w):Run P n Q (.ops a1 []::.code (.seq (.region c a.toArray false) b)::k) e w:=qa7 <| qcq <| qkm h
theorem zKS {a:Code}{b:Code}(h:Run P n Q (.code a::.code b::k) e w):Run P n Q (.code .skip::.code (.seq a b)::k) e w:=qf2 <| qcq h
theorem zNS {a1:Array Oper}{a:Code}{b:Code}(h:Run P n Q (.code a::.code b::k) e w):Run P n Q (.ops a1 []::.code (.seq a b)::k) e w:=qa7 <| qcq h
theorem zNSS {a1:Array Oper}{b:Code}{c:Code}{a:Code}(h:Run P n Q (.code b::.code c::.code a::k) e w):Run P n Q (.ops a1 []::.code (.seq (.seq b c) a)::k) e w:=qa7 <| qcq <| qcq h
theorem zKSB {a:Nat}{c:Code}{b:Code}(h:Run P n Q (.code c::.blk a::.code b::k) e w):Run P n Q (.code .skip::.code (.seq (.block a c) b)::k) e w:=qf2 <| qcq <| qn h
theorem zKSBSR {b:Nat}{f:Nat}{a:List Oper}{d:Code}{c:Code}(h:Run P n Q (.ops a.toArray a::.code d::.blk b::.code c::k) e w):Run P n Q (.code .skip::.code (.seq (.block b (.seq (.region f a.toArray false) d)) c)::k) e w:=qf2 <| qcq <| qn <| qcq <| qkm h
theorem zNE {a1:Array Oper}{a:Nat}(h:Run P n Q (k) e w):Run P n Q (.ops a1 []::.blk a::k) e w:=qa7 <| qvm h
theorem zSS {b:Code}{c:Code}{a:Code}(h:Run P n Q (.code b::.code c::.code a::k) e w):Run P n Q (.code (.seq (.seq b c) a)::k) e w:=qcq <| qcq h
theorem zKSS {b:Code}{c:Code}{a:Code}(h:Run P n Q (.code b::.code c::.code a::k) e w):Run P n Q (.code .skip::.code (.seq (.seq b c) a)::k) e w:=qf2 <| qcq <| qcq h
end
section
variable {w0 w:World}{L:List Ch}{n:Nat}{Q:Exit→Act→World→Prop}{k k':List It}{e e':Env}{all:Array Oper}{l l':List Oper}{z:List Nat}
theorem X0 (m:Nat)(a:xs tab n m [] k e [] []=V (k',e',z,z))(b:Run prog n Q k' e' w):Run prog n Q k e w:=((qq0 (P:=prog) (Q:=Q) (w:=w) qa m _ _ _ _ _ _ _ _ _ (fun _ h=>by cases h) rfl a).2 rfl).2 b
theorem Y0 (m:Nat)(a:xd tab n all m [] l e [] []=V (l',e',z,z))(b:RunD prog n Q k all w l' e'):RunD prog n Q k all w l e:=((qwB (P:=prog) (Q:=Q) (k:=k) (w:=w) (all:=all) qa m _ _ _ _ _ _ _ _ _ (fun _ h=>by cases h) rfl a).2 rfl).2 b
theorem X1 (m:Nat)(i0:Nat){b0 b:Nat}{a:List Value}(h:SH w0 w L)(c:(L[i0]?,xs tab n m [(b0,a)] k e [] [])=(V (oX b0 a b),V (k',e',z,z)))(f:Run prog n Q k' e' w):Run prog n Q k e w:=by
 simp only[Prod.mk.injEq] at c;exact((qq0 (P:=prog) (Q:=Q) (w:=w) qa m _ _ _ _ _ _ _ _ _ (fun p d=>by
  simp only[jI,jy,or_false] at d;rcases d with rfl
  ·exact h.box i0 c.1) Z c.2).2 Z).2 f
theorem Y1 (m:Nat)(i0:Nat){b0 b:Nat}{a:List Value}(h:SH w0 w L)(c:(L[i0]?,xd tab n all m [(b0,a)] l e [] [])=(V (oX b0 a b),V (l',e',z,z)))(f:RunD prog n Q k all w l' e'):RunD prog n Q k all w l e:=by
 simp only[Prod.mk.injEq] at c;exact((qwB (P:=prog) (Q:=Q) (k:=k) (w:=w) (all:=all) qa m _ _ _ _ _ _ _ _ _ (fun p d=>by
  simp only[jI,jy,or_false] at d;rcases d with rfl
  ·exact h.box i0 c.1) Z c.2).2 Z).2 f
theorem X2 (m:Nat)(i0 b:Nat){b0 c:Nat}{a:List Value}{b1 d:Nat}{cs1:List Value}(h:SH w0 w L)(f:(L[i0]?,L[b]?,xs tab n m [(b0,a),(b1,cs1)] k e [] [])=(V (oX b0 a c),V (oX b1 cs1 d),V (k',e',z,z)))(i:Run prog n Q k' e' w):Run prog n Q k e w:=by
 simp only[Prod.mk.injEq] at f;exact((qq0 (P:=prog) (Q:=Q) (w:=w) qa m _ _ _ _ _ _ _ _ _ (fun p g=>by
  simp only[jI,jy,or_false] at g;rcases g with rfl|rfl
  ·exact h.box i0 f.1
  ·exact h.box b f.2.1) Z f.2.2).2 Z).2 i
theorem X3 (m:Nat)(i0 b c:Nat){b0 d:Nat}{a:List Value}{b1 f:Nat}{cs1:List Value}{b2 g:Nat}{cs2:List Value}(h:SH w0 w L)(i:(L[i0]?,L[b]?,L[c]?,xs tab n m [(b0,a),(b1,cs1),(b2,cs2)] k e [] [])=(V (oX b0 a d),V (oX b1 cs1 f),V (oX b2 cs2 g),V (k',e',z,z)))(o:Run prog n Q k' e' w):Run prog n Q k e w:=by
 simp only[Prod.mk.injEq] at i;exact((qq0 (P:=prog) (Q:=Q) (w:=w) qa m _ _ _ _ _ _ _ _ _ (fun p l=>by
  simp only[jI,jy,or_false] at l;rcases l with rfl|rfl|rfl
  ·exact h.box i0 i.1
  ·exact h.box b i.2.1
  ·exact h.box c i.2.2.1) Z i.2.2.2).2 Z).2 o
theorem X4 (m:Nat)(i0 b c d:Nat){b0 f:Nat}{a:List Value}{b1 g:Nat}{cs1:List Value}{b2 i:Nat}{cs2:List Value}{b3 l:Nat}{cs3:List Value}(h:SH w0 w L)(o:(L[i0]?,L[b]?,L[c]?,L[d]?,xs tab n m [(b0,a),(b1,cs1),(b2,cs2),(b3,cs3)] k e [] [])=(V (oX b0 a f),V (oX b1 cs1 g),V (oX b2 cs2 i),V (oX b3 cs3 l),V (k',e',z,z)))(s:Run prog n Q k' e' w):Run prog n Q k e w:=by
 simp only[Prod.mk.injEq] at o;exact((qq0 (P:=prog) (Q:=Q) (w:=w) qa m _ _ _ _ _ _ _ _ _ (fun p r=>by
  simp only[jI,jy,or_false] at r;rcases r with rfl|rfl|rfl|rfl
  ·exact h.box i0 o.1
  ·exact h.box b o.2.1
  ·exact h.box c o.2.2.1
  ·exact h.box d o.2.2.2.1) Z o.2.2.2.2).2 Z).2 s
theorem X5 (m:Nat)(i0 c d f g:Nat){b0 i:Nat}{a:List Value}{b1 l:Nat}{cs1:List Value}{b2 o:Nat}{cs2:List Value}{b3 r:Nat}{cs3:List Value}{b s:Nat}{cs4:List Value}(h:SH w0 w L)(t:(L[i0]?,L[c]?,L[d]?,L[f]?,L[g]?,xs tab n m [(b0,a),(b1,cs1),(b2,cs2),(b3,cs3),(b,cs4)] k e [] [])=(V (oX b0 a i),V (oX b1 cs1 l),V (oX b2 cs2 o),V (oX b3 cs3 r),V (oX b cs4 s),V (k',e',z,z)))(v:Run prog n Q k' e' w):Run prog n Q k e w:=by
 simp only[Prod.mk.injEq] at t;exact((qq0 (P:=prog) (Q:=Q) (w:=w) qa m _ _ _ _ _ _ _ _ _ (fun p u=>by
  simp only[jI,jy,or_false] at u;rcases u with rfl|rfl|rfl|rfl|rfl
  ·exact h.box i0 t.1
  ·exact h.box c t.2.1
  ·exact h.box d t.2.2.1
  ·exact h.box f t.2.2.2.1
  ·exact h.box g t.2.2.2.2.1) Z t.2.2.2.2.2).2 Z).2 v
end
section
variable {w0 w:World}{L:List Ch}{n:Nat}{Q:Exit→Act→World→Prop}{k:List It}{e:Env}{all:Array Oper}{l:List Oper}
theorem zp1 {a:Op}{b f:Nat}{s0:String}{d:Array Edge}{c:Value}(h:(pev tab (e) a,Nat.blt b n)=(V c,true))(g:Run prog n Q (.ops all l::k) ((b,c)::e) w):Run prog n Q (.ops all (⟨V b,a,f,s0,d,U⟩::l)::k) e w:=by
 have H:=h;simp only[Prod.mk.injEq] at H;exact rp (H.1) (H.2) (g)
theorem zd1 {a:Op}{b f:Nat}{s0:String}{d:Array Edge}{c:Value}(h:(pev tab (e) a,Nat.blt b n)=(V c,true))(g:RunD prog n Q k all w l ((b,c)::e)):RunD prog n Q k all w (⟨V b,a,f,s0,d,U⟩::l) e:=by
 have H:=h;simp only[Prod.mk.injEq] at H;exact dp (H.1) (H.2) (g)
theorem zp2 {a:Op}{c o:Nat}{s0:String}{i:Array Edge}{f:Value}{b:Op}{d p:Nat}{s1:String}{m:Array Edge}{g:Value}(h:(pev tab (e) a,Nat.blt c n,pev tab ((c,f)::e) b,Nat.blt d n)=(V f,true,V g,true))(r:Run prog n Q (.ops all l::k) ((d,g)::(c,f)::e) w):Run prog n Q (.ops all (⟨V c,a,o,s0,i,U⟩::⟨V d,b,p,s1,m,U⟩::l)::k) e w:=by
 have H:=h;simp only[Prod.mk.injEq] at H;exact rp (H.1) (H.2.1) (rp (H.2.2.1) (H.2.2.2) (r))
theorem zd2 {a:Op}{c o:Nat}{s0:String}{i:Array Edge}{f:Value}{b:Op}{d p:Nat}{s1:String}{m:Array Edge}{g:Value}(h:(pev tab (e) a,Nat.blt c n,pev tab ((c,f)::e) b,Nat.blt d n)=(V f,true,V g,true))(r:RunD prog n Q k all w l ((d,g)::(c,f)::e)):RunD prog n Q k all w (⟨V c,a,o,s0,i,U⟩::⟨V d,b,p,s1,m,U⟩::l) e:=by
 have H:=h;simp only[Prod.mk.injEq] at H;exact dp (H.1) (H.2.1) (dp (H.2.2.1) (H.2.2.2) (r))
theorem zp3 {b:Op}{a s:Nat}{s0:String}{o:Array Edge}{g:Value}{c:Op}{f t:Nat}{s1:String}{p:Array Edge}{i:Value}{d:Op}{d2 u:Nat}{s2:String}{r:Array Edge}{m:Value}(h:(pev tab (e) b,Nat.blt a n,pev tab ((a,g)::e) c,Nat.blt f n,pev tab ((f,i)::(a,g)::e) d,Nat.blt d2 n)=(V g,true,V i,true,V m,true))(v:Run prog n Q (.ops all l::k) ((d2,m)::(f,i)::(a,g)::e) w):Run prog n Q (.ops all (⟨V a,b,s,s0,o,U⟩::⟨V f,c,t,s1,p,U⟩::⟨V d2,d,u,s2,r,U⟩::l)::k) e w:=by
 have H:=h;simp only[Prod.mk.injEq] at H;exact rp (H.1) (H.2.1) (rp (H.2.2.1) (H.2.2.2.1) (rp (H.2.2.2.2.1) (H.2.2.2.2.2) (v)))
theorem zd3 {b:Op}{a s:Nat}{s0:String}{o:Array Edge}{g:Value}{c:Op}{f t:Nat}{s1:String}{p:Array Edge}{i:Value}{d:Op}{d2 u:Nat}{s2:String}{r:Array Edge}{m:Value}(h:(pev tab (e) b,Nat.blt a n,pev tab ((a,g)::e) c,Nat.blt f n,pev tab ((f,i)::(a,g)::e) d,Nat.blt d2 n)=(V g,true,V i,true,V m,true))(v:RunD prog n Q k all w l ((d2,m)::(f,i)::(a,g)::e)):RunD prog n Q k all w (⟨V a,b,s,s0,o,U⟩::⟨V f,c,t,s1,p,U⟩::⟨V d2,d,u,s2,r,U⟩::l) e:=by
 have H:=h;simp only[Prod.mk.injEq] at H;exact dp (H.1) (H.2.1) (dp (H.2.2.1) (H.2.2.2.1) (dp (H.2.2.2.2.1) (H.2.2.2.2.2) (v)))
theorem zp4 {c:Op}{a y:Nat}{s0:String}{s:Array Edge}{i:Value}{d:Op}{b z:Nat}{s1:String}{t:Array Edge}{m:Value}{f:Op}{d2 A:Nat}{s2:String}{u:Array Edge}{p:Value}{g:Op}{o B:Nat}{x:String}{v:Array Edge}{r:Value}(h:(pev tab (e) c,Nat.blt a n,pev tab ((a,i)::e) d,Nat.blt b n,pev tab ((b,m)::(a,i)::e) f,Nat.blt d2 n,pev tab ((d2,p)::(b,m)::(a,i)::e) g,Nat.blt o n)=(V i,true,V m,true,V p,true,V r,true))(C:Run prog n Q (.ops all l::k) ((o,r)::(d2,p)::(b,m)::(a,i)::e) w):Run prog n Q (.ops all (⟨V a,c,y,s0,s,U⟩::⟨V b,d,z,s1,t,U⟩::⟨V d2,f,A,s2,u,U⟩::⟨V o,g,B,x,v,U⟩::l)::k) e w:=by
 have H:=h;simp only[Prod.mk.injEq] at H;exact rp (H.1) (H.2.1) (rp (H.2.2.1) (H.2.2.2.1) (rp (H.2.2.2.2.1) (H.2.2.2.2.2.1) (rp (H.2.2.2.2.2.2.1) (H.2.2.2.2.2.2.2) (C))))
theorem zd4 {c:Op}{a y:Nat}{s0:String}{s:Array Edge}{i:Value}{d:Op}{b z:Nat}{s1:String}{t:Array Edge}{m:Value}{f:Op}{d2 A:Nat}{s2:String}{u:Array Edge}{p:Value}{g:Op}{o B:Nat}{x:String}{v:Array Edge}{r:Value}(h:(pev tab (e) c,Nat.blt a n,pev tab ((a,i)::e) d,Nat.blt b n,pev tab ((b,m)::(a,i)::e) f,Nat.blt d2 n,pev tab ((d2,p)::(b,m)::(a,i)::e) g,Nat.blt o n)=(V i,true,V m,true,V p,true,V r,true))(C:RunD prog n Q k all w l ((o,r)::(d2,p)::(b,m)::(a,i)::e)):RunD prog n Q k all w (⟨V a,c,y,s0,s,U⟩::⟨V b,d,z,s1,t,U⟩::⟨V d2,f,A,s2,u,U⟩::⟨V o,g,B,x,v,U⟩::l) e:=by
 have H:=h;simp only[Prod.mk.injEq] at H;exact dp (H.1) (H.2.1) (dp (H.2.2.1) (H.2.2.2.1) (dp (H.2.2.2.2.1) (H.2.2.2.2.2.1) (dp (H.2.2.2.2.2.2.1) (H.2.2.2.2.2.2.2) (C))))
theorem zp5 {d:Op}{a D:Nat}{s0:String}{v:Array Edge}{c:Value}{f:Op}{b F:Nat}{s1:String}{x:Array Edge}{o:Value}{g:Op}{d2 I:Nat}{s2:String}{y:Array Edge}{r:Value}{i:Op}{p J:Nat}{B:String}{z:Array Edge}{t:Value}{m:Op}{s K:Nat}{C:String}{A:Array Edge}{u:Value}(h:(pev tab (e) d,Nat.blt a n,pev tab ((a,c)::e) f,Nat.blt b n,pev tab ((b,o)::(a,c)::e) g,Nat.blt d2 n,pev tab ((d2,r)::(b,o)::(a,c)::e) i,Nat.blt p n,pev tab ((p,t)::(d2,r)::(b,o)::(a,c)::e) m,Nat.blt s n)=(V c,true,V o,true,V r,true,V t,true,V u,true))(L:Run prog n Q (.ops all l::k) ((s,u)::(p,t)::(d2,r)::(b,o)::(a,c)::e) w):Run prog n Q (.ops all (⟨V a,d,D,s0,v,U⟩::⟨V b,f,F,s1,x,U⟩::⟨V d2,g,I,s2,y,U⟩::⟨V p,i,J,B,z,U⟩::⟨V s,m,K,C,A,U⟩::l)::k) e w:=by
 have H:=h;simp only[Prod.mk.injEq] at H;exact rp (H.1) (H.2.1) (rp (H.2.2.1) (H.2.2.2.1) (rp (H.2.2.2.2.1) (H.2.2.2.2.2.1) (rp (H.2.2.2.2.2.2.1) (H.2.2.2.2.2.2.2.1) (rp (H.2.2.2.2.2.2.2.2.1) (H.2.2.2.2.2.2.2.2.2) (L)))))
theorem zd5 {d:Op}{a D:Nat}{s0:String}{v:Array Edge}{c:Value}{f:Op}{b F:Nat}{s1:String}{x:Array Edge}{o:Value}{g:Op}{d2 I:Nat}{s2:String}{y:Array Edge}{r:Value}{i:Op}{p J:Nat}{B:String}{z:Array Edge}{t:Value}{m:Op}{s K:Nat}{C:String}{A:Array Edge}{u:Value}(h:(pev tab (e) d,Nat.blt a n,pev tab ((a,c)::e) f,Nat.blt b n,pev tab ((b,o)::(a,c)::e) g,Nat.blt d2 n,pev tab ((d2,r)::(b,o)::(a,c)::e) i,Nat.blt p n,pev tab ((p,t)::(d2,r)::(b,o)::(a,c)::e) m,Nat.blt s n)=(V c,true,V o,true,V r,true,V t,true,V u,true))(L:RunD prog n Q k all w l ((s,u)::(p,t)::(d2,r)::(b,o)::(a,c)::e)):RunD prog n Q k all w (⟨V a,d,D,s0,v,U⟩::⟨V b,f,F,s1,x,U⟩::⟨V d2,g,I,s2,y,U⟩::⟨V p,i,J,B,z,U⟩::⟨V s,m,K,C,A,U⟩::l) e:=by
 have H:=h;simp only[Prod.mk.injEq] at H;exact dp (H.1) (H.2.1) (dp (H.2.2.1) (H.2.2.2.1) (dp (H.2.2.2.2.1) (H.2.2.2.2.2.1) (dp (H.2.2.2.2.2.2.1) (H.2.2.2.2.2.2.2.1) (dp (H.2.2.2.2.2.2.2.2.1) (H.2.2.2.2.2.2.2.2.2) (L)))))
theorem zl (i j:Nat){d t ty:Nat}{x:Operand}{c:TE}{ps:String}{af:Array Edge}{v:Value}{b:Nat}{cs:List Value}{g:TypeId}(h:SH w0 w L)(a:(L[i]?,opv e x,tab.get t,ld c cs j,Nat.blt d n)=(V (oX b cs g),V (.pointer (V ⟨b,0+j,U⟩)),V c,V v,true))
  (f:Run prog n Q (.ops all l::k) ((d,v)::e) w):Run prog n Q (.ops all (⟨V d,.load t x,ty,ps,af,U⟩::l)::k) e w:=by
 simp only[Prod.mk.injEq] at a;exact r_v (qcc qa (h.box i a.1) (j:=j) a.2.1 a.2.2.1 a.2.2.2.1) a.2.2.2.2 f
theorem zc (j:Nat){d t ty:Nat}{x:Operand}{c:TE}{ps:String}{af:Array Edge}{v:Value}{b o:Nat}{cs:List Value}(h:CellsAt w b o cs)(a:(opv e x,tab.get t,ld c cs j,Nat.blt d n)=(V (.pointer (V ⟨b,o+j,U⟩)),V c,V v,true))
  (f:Run prog n Q (.ops all l::k) ((d,v)::e) w):Run prog n Q (.ops all (⟨V d,.load t x,ty,ps,af,U⟩::l)::k) e w:=by
 simp only[Prod.mk.injEq] at a;exact r_v (qcc qa h (j:=j) a.1 a.2.1 a.2.2.1) a.2.2.2 f
theorem zdc (j:Nat){d t ty:Nat}{x:Operand}{c:TE}{ps:String}{af:Array Edge}{v:Value}{b o:Nat}{cs:List Value}(h:CellsAt w b o cs)(a:(opv e x,tab.get t,ld c cs j,Nat.blt d n)=(V (.pointer (V ⟨b,o+j,U⟩)),V c,V v,true))
  (g:RunD prog n Q k all w l ((d,v)::e)):RunD prog n Q k all w (⟨V d,.load t x,ty,ps,af,U⟩::l) e:=by
 simp only[Prod.mk.injEq] at a;exact d_v (fun _ f=>qcc qa (h.below f) (j:=j) a.1 a.2.1 a.2.2.1) a.2.2.2 g
theorem zx {x i:Operand}{t ty d el m:Nat}{r a:TE}{ps:String}{af:Array Edge}{p:Option Addr}{h c:Nat}{kd:IntKind}{iv:Int}{b o q:Nat}(u:p=V ⟨b,o,U⟩)(v:q=o+iv.toNat*m)(g:0≤iv∧iv<h)(f:(opv e x,opv e i,tab.get t,r.kind,tab.get el,a.size,Nat.blt d n)=(V (oS p h c),V (.int kd iv),V r,TK.slice el,V a,m,true))(s:Run prog n Q (.ops all l::k) ((d,.pointer (V ⟨b,q,U⟩))::e) w):Run prog n Q (.ops all (⟨V d,.indexAddr t x i,ty,ps,af,U⟩::l)::k) e w:=by
 simp only[Prod.mk.injEq] at f;exact r_v (quz qa u v g f.1 f.2.1 f.2.2.1 f.2.2.2.1 f.2.2.2.2.1 f.2.2.2.2.2.1) f.2.2.2.2.2.2 s
theorem zxe {x i:Operand}{t ty d el m:Nat}{h a:TE}{ps:String}{af:Array Edge}{p:Option Addr}{g c:Nat}{kd:IntKind}{iv:Int}{b o q:Nat}{α:Prop}(u:p=V ⟨b,o,U⟩)(v:q=o+iv.toNat*m)(f:0≤iv∧iv<g∧α)(r:(opv e x,opv e i,tab.get t,h.kind,tab.get el,a.size,Nat.blt d n)=(V (oS p g c),V (.int kd iv),V h,TK.slice el,V a,m,true))(s:Run prog n Q (.ops all l::k) ((d,.pointer (V ⟨b,q,U⟩))::e) w):Run prog n Q (.ops all (⟨V d,.indexAddr t x i,ty,ps,af,U⟩::l)::k) e w:=zx u v ⟨f.1,f.2.1⟩ r s
theorem zdx {x i:Operand}{t ty d el m:Nat}{r a:TE}{ps:String}{af:Array Edge}{p:Option Addr}{h c:Nat}{kd:IntKind}{iv:Int}{b o q:Nat}(u:p=V ⟨b,o,U⟩)(v:q=o+iv.toNat*m)(g:0≤iv∧iv<h)(f:(opv e x,opv e i,tab.get t,r.kind,tab.get el,a.size,Nat.blt d n)=(V (oS p h c),V (.int kd iv),V r,TK.slice el,V a,m,true))(s:RunD prog n Q k all w l ((d,.pointer (V ⟨b,q,U⟩))::e)):RunD prog n Q k all w (⟨V d,.indexAddr t x i,ty,ps,af,U⟩::l) e:=by
 simp only[Prod.mk.injEq] at f;exact d_v (fun _ _=>quz qa u v g f.1 f.2.1 f.2.2.1 f.2.2.2.1 f.2.2.2.2.1 f.2.2.2.2.2.1) f.2.2.2.2.2.2 s
theorem zdxe {x i:Operand}{t ty d el m:Nat}{h a:TE}{ps:String}{af:Array Edge}{p:Option Addr}{g c:Nat}{kd:IntKind}{iv:Int}{b o q:Nat}{α:Prop}(u:p=V ⟨b,o,U⟩)(v:q=o+iv.toNat*m)(f:0≤iv∧iv<g∧α)(r:(opv e x,opv e i,tab.get t,h.kind,tab.get el,a.size,Nat.blt d n)=(V (oS p g c),V (.int kd iv),V h,TK.slice el,V a,m,true))(s:RunD prog n Q k all w l ((d,.pointer (V ⟨b,q,U⟩))::e)):RunD prog n Q k all w (⟨V d,.indexAddr t x i,ty,ps,af,U⟩::l) e:=zdx u v ⟨f.1,f.2.1⟩ r s
theorem zs (i:Nat){t ty:Nat}{ps:String}{af:Array Edge}{x v:Operand}{D:TE}{b j:Nat}{cs A z:List Value}{C:TypeId}{u:Value}{L':List Ch}(h:SH w0 w L)
  (B:(L[i]?,opv e x,opv e v,cellsL u,tab.get t,Nat.beq A.length D.size,Nat.ble (j+A.length) cs.length,ones A,splN cs j A,setN L i (oX b z C))=(V (oX b cs C),V (.pointer (V ⟨b,j,U⟩)),V u,A,V D,true,true,true,V z,V L'))
  (F:∀ w',SH w0 w' L'→Run prog n Q (.ops all l::k) e w'):Run prog n Q (.ops all (⟨U,.store t x v,ty,ps,af,U⟩::l)::k) e w:=by
 simp only[Prod.mk.injEq] at B;obtain⟨d,f,g,m,o,p,r,s,y,a⟩:=B;subst m;have e1:=qrM y;have c:=qtB a;subst e1 c;exact qvM qa i h d f g o p r s F
end
section
variable {P:Program}{fnc:Func}{R:Ending→World→Prop}{n:Nat}{k:List It}{e:Env}{w0 w:World}{ops:Array Oper}{st:List Nat}{fuel:Nat}
theorem M0 (K:Nat)(is:List Nat){C:World→Prop}{m K0 f a:Nat}{e':Env}{z:List Nat}(b:C w)(c:xa tab n ops is [] f e [] []=V (a,e',z,z))
  (d:RunA prog n (bodyPost prog fnc R) k ops st C a (bits m K) e' w) (g:oka ops st is (bits m K0) (bits m K)=true:=by kernel_rfl):RunA prog n (bodyPost prog fnc R) k ops st C f (bits m K0) e w:=by
 exact((qrV (C:=C) (w:=w) (P:=prog) qa b is _ _ _ _ _ _ _ _ _ _ _ (fun _ h=>by cases h) rfl c g).2 rfl).2 d
theorem G0 (K:Nat)(is:List Nat){C:World→Prop}{m K0 f a:Nat}{e':Env}{z:List Nat}{all:Array Oper}(b:C w)(c:xa tab n ops is [] f e [] []=V (a,e',z,z))
  (d:RunA prog n (bodyPost prog fnc R) k ops st C a (bits m K) e' w) (g:oka ops st is (bits m K0) (bits m K)=true:=by kernel_rfl):Run prog n (bodyPost prog fnc R) (.ops all []::.goal (NextA prog n (bodyPost prog fnc R) k ops st C f (bits m K0))::k) e w:=
 Ag b (M0 K is (C:=C) b c d g)
theorem M1 (K:Nat)(is:List Nat)(i0:Nat){b0 b:Nat}{a:List Value}{LA:List Ch}{m K0 f d:Nat}{e':Env}{z:List Nat}(h:SH w0 w LA)(c:(LA[i0]?,xa tab n ops is [(b0,a)] f e [] [])=(V (oX b0 a b),V (d,e',z,z)))
  (i:RunA prog n (bodyPost prog fnc R) k ops st (fun w'=>SH w0 w' LA) d (bits m K) e' w) (l:oka ops st is (bits m K0) (bits m K)=true:=by kernel_rfl):RunA prog n (bodyPost prog fnc R) k ops st (fun w'=>SH w0 w' LA) f (bits m K0) e w:=by
 simp only[Prod.mk.injEq] at c;exact((qrV (C:=(fun w'=>SH w0 w' LA)) (w:=w) (P:=prog) qa h is _ _ _ _ _ _ _ _ _ _ _ (fun p g _ o=>by
  simp only[jI,jy,or_false] at g;rcases g with rfl
  ·exact SH.box o i0 c.1) Z c.2 l).2 Z).2 i
theorem M2 (K:Nat)(is:List Nat)(i0 b:Nat){b0 c:Nat}{a:List Value}{b1 d:Nat}{cs1:List Value}{LA:List Ch}{m K0 f h:Nat}{e':Env}{z:List Nat}(o:SH w0 w LA)(g:(LA[i0]?,LA[b]?,xa tab n ops is [(b0,a),(b1,cs1)] f e [] [])=(V (oX b0 a c),V (oX b1 cs1 d),V (h,e',z,z)))
  (r:RunA prog n (bodyPost prog fnc R) k ops st (fun w'=>SH w0 w' LA) h (bits m K) e' w) (s:oka ops st is (bits m K0) (bits m K)=true:=by kernel_rfl):RunA prog n (bodyPost prog fnc R) k ops st (fun w'=>SH w0 w' LA) f (bits m K0) e w:=by
 simp only[Prod.mk.injEq] at g;exact((qrV (C:=(fun w'=>SH w0 w' LA)) (w:=w) (P:=prog) qa o is _ _ _ _ _ _ _ _ _ _ _ (fun p i _ l=>by
  simp only[jI,jy,or_false] at i;rcases i with rfl|rfl
  ·exact SH.box l i0 g.1
  ·exact SH.box l b g.2.1) Z g.2.2 s).2 Z).2 r
theorem M3 (K:Nat)(is:List Nat)(i0 b c:Nat){b0 d:Nat}{a:List Value}{b1 g:Nat}{cs1:List Value}{b2 h:Nat}{cs2:List Value}{LA:List Ch}{m K0 f o:Nat}{e':Env}{z:List Nat}(s:SH w0 w LA)(i:(LA[i0]?,LA[b]?,LA[c]?,xa tab n ops is [(b0,a),(b1,cs1),(b2,cs2)] f e [] [])=(V (oX b0 a d),V (oX b1 cs1 g),V (oX b2 cs2 h),V (o,e',z,z)))
  (t:RunA prog n (bodyPost prog fnc R) k ops st (fun w'=>SH w0 w' LA) o (bits m K) e' w) (u:oka ops st is (bits m K0) (bits m K)=true:=by kernel_rfl):RunA prog n (bodyPost prog fnc R) k ops st (fun w'=>SH w0 w' LA) f (bits m K0) e w:=by
 simp only[Prod.mk.injEq] at i;exact((qrV (C:=(fun w'=>SH w0 w' LA)) (w:=w) (P:=prog) qa s is _ _ _ _ _ _ _ _ _ _ _ (fun p r _ l=>by
  simp only[jI,jy,or_false] at r;rcases r with rfl|rfl|rfl
  ·exact SH.box l i0 i.1
  ·exact SH.box l b i.2.1
  ·exact SH.box l c i.2.2.1) Z i.2.2.2 u).2 Z).2 t
theorem M4 (K:Nat)(is:List Nat)(i0 b c d:Nat){b0 g:Nat}{a:List Value}{b1 h:Nat}{cs1:List Value}{b2 i:Nat}{cs2:List Value}{b3 l:Nat}{cs3:List Value}{LA:List Ch}{m K0 f s:Nat}{e':Env}{z:List Nat}(u:SH w0 w LA)(o:(LA[i0]?,LA[b]?,LA[c]?,LA[d]?,xa tab n ops is [(b0,a),(b1,cs1),(b2,cs2),(b3,cs3)] f e [] [])=(V (oX b0 a g),V (oX b1 cs1 h),V (oX b2 cs2 i),V (oX b3 cs3 l),V (s,e',z,z)))
  (v:RunA prog n (bodyPost prog fnc R) k ops st (fun w'=>SH w0 w' LA) s (bits m K) e' w) (x:oka ops st is (bits m K0) (bits m K)=true:=by kernel_rfl):RunA prog n (bodyPost prog fnc R) k ops st (fun w'=>SH w0 w' LA) f (bits m K0) e w:=by
 simp only[Prod.mk.injEq] at o;exact((qrV (C:=(fun w'=>SH w0 w' LA)) (w:=w) (P:=prog) qa u is _ _ _ _ _ _ _ _ _ _ _ (fun p t _ r=>by
  simp only[jI,jy,or_false] at t;rcases t with rfl|rfl|rfl|rfl
  ·exact SH.box r i0 o.1
  ·exact SH.box r b o.2.1
  ·exact SH.box r c o.2.2.1
  ·exact SH.box r d o.2.2.2.1) Z o.2.2.2.2 x).2 Z).2 v
theorem Aw (i K:Nat){C:World→Prop}{m K0 d:Nat}{b:Op}{t:Nat}{ps:String}{af:Array Edge}{v:Value}(l:∀ w',C w'→Val prog n e ⟨V d,b,t,ps,af,U⟩ w' v)(c:C w)(a:(ops[i]?,Nat.blt d n)=(V (⟨V d,b,t,ps,af,U⟩:Oper),true))
  (g:RunA prog n (bodyPost prog fnc R) k ops st C fuel (bits m K) ((d,v)::e) w) (h:(bits m K0).setIfInBounds i true=bits m K:=by kernel_rfl)
  (f:(Region.noSelect ops&&Region.free .any ops (bits m K0) i&&(Region.ready .any ops (bits m K0)).contains i&&st.all (fun s=>!(Nat.beq s i)&&waitsB ops i s&&!((bits m K0).getD s true)))=true:=by kernel_rfl) :
  RunA prog n (bodyPost prog fnc R) k ops st C (fuel+1) (bits m K0) e w:=by
 simp only[Prod.mk.injEq] at a;exact qjF i a.1 _ h f l c a.2 g
theorem Al (i K j:Nat){LA:List Ch}{m K0 d t ty b o:Nat}{x:Operand}{c:TE}{ps:String}{af:Array Edge}{v:Value}{cs:List Value}(h:CellsAt w0 b o cs)(f:SH w0 w LA)
  (a:(ops[i]?,opv e x,tab.get t,ld c cs j,Nat.blt d n)=(V (⟨V d,.load t x,ty,ps,af,U⟩:Oper),V (.pointer (V ⟨b,o+j,U⟩)),V c,V v,true))
  (l:RunA prog n (bodyPost prog fnc R) k ops st (fun w'=>SH w0 w' LA) fuel (bits m K) ((d,v)::e) w) (p:(bits m K0).setIfInBounds i true=bits m K:=by kernel_rfl)
  (g:(Region.noSelect ops&&Region.free .any ops (bits m K0) i&&(Region.ready .any ops (bits m K0)).contains i&&st.all (fun s=>!(Nat.beq s i)&&waitsB ops i s&&!((bits m K0).getD s true)))=true:=by kernel_rfl) :
  RunA prog n (bodyPost prog fnc R) k ops st (fun w'=>SH w0 w' LA) (fuel+1) (bits m K0) e w:=by
 simp only[Prod.mk.injEq] at a;exact qjF i a.1 _ p g (fun w' r=>qcc qa (h.below r.below) (j:=j) a.2.1 a.2.2.1 a.2.2.2.1) f a.2.2.2.2 l
theorem Ax (i K:Nat){C:World→Prop}{m K0 d t ty el q:Nat}{x ix:Operand}{r a:TE}{ps:String}{af:Array Edge}{p:Option Addr}{h c l:Nat}{kd:IntKind}{iv:Int}{b o:Nat}(A:p=V ⟨b,o,U⟩)(B:q=o+iv.toNat*l)(g:0≤iv∧iv<h)(u:C w)
  (f:(ops[i]?,opv e x,opv e ix,tab.get t,r.kind,tab.get el,a.size,Nat.blt d n)=(V (⟨V d,.indexAddr t x ix,ty,ps,af,U⟩:Oper),V (oS p h c),V (.int kd iv),V r,TK.slice el,V a,l,true))
  (y:RunA prog n (bodyPost prog fnc R) k ops st C fuel (bits m K) ((d,.pointer (V ⟨b,q,U⟩))::e) w) (z:(bits m K0).setIfInBounds i true=bits m K:=by kernel_rfl)
  (v:(Region.noSelect ops&&Region.free .any ops (bits m K0) i&&(Region.ready .any ops (bits m K0)).contains i&&st.all (fun s=>!(Nat.beq s i)&&waitsB ops i s&&!((bits m K0).getD s true)))=true:=by kernel_rfl) :
  RunA prog n (bodyPost prog fnc R) k ops st C (fuel+1) (bits m K0) e w:=by
 simp only[Prod.mk.injEq] at f;exact qjF i f.1 _ z v (fun w' _=>quz qa A B g f.2.1 f.2.2.1 f.2.2.2.1 f.2.2.2.2.1 f.2.2.2.2.2.1 f.2.2.2.2.2.2.1) u f.2.2.2.2.2.2.2 y
theorem Ae (i K:Nat){C:World→Prop}{m K0 d t ty el q:Nat}{x ix:Operand}{l a:TE}{ps:String}{af:Array Edge}{p:Option Addr}{g c h:Nat}{kd:IntKind}{iv:Int}{b o:Nat}{α:Prop}(A:p=V ⟨b,o,U⟩)(B:q=o+iv.toNat*h)(f:0≤iv∧iv<g∧α)(r:C w)
  (v:(ops[i]?,opv e x,opv e ix,tab.get t,l.kind,tab.get el,a.size,Nat.blt d n)=(V (⟨V d,.indexAddr t x ix,ty,ps,af,U⟩:Oper),V (oS p g c),V (.int kd iv),V l,TK.slice el,V a,h,true))
  (y:RunA prog n (bodyPost prog fnc R) k ops st C fuel (bits m K) ((d,.pointer (V ⟨b,q,U⟩))::e) w) (z:(bits m K0).setIfInBounds i true=bits m K:=by kernel_rfl)
  (u:(Region.noSelect ops&&Region.free .any ops (bits m K0) i&&(Region.ready .any ops (bits m K0)).contains i&&st.all (fun s=>!(Nat.beq s i)&&waitsB ops i s&&!((bits m K0).getD s true)))=true:=by kernel_rfl) :
  RunA prog n (bodyPost prog fnc R) k ops st C (fuel+1) (bits m K0) e w:=Ax i K A B ⟨f.1,f.2.1⟩ r v y z u
theorem rb {a:Func}{L:List Ch}{x r:Bool}(h:SH w0 w L)(F:V x=V r)(b:res1 e a.results.toList=V (.bool x)) :
  Run prog n (bodyPost prog a fun e w'=>∃ v,e=.returned v∧Below w0.heap.size w0 w'∧∃ us,v=tup us∧GoVs.Vs w' (fresh w0 w') r us) (.code .ret::k) e w:=qxr qa h F (qtD b)
theorem ri {a:Func}{L:List Ch}{x r:Int}(h:SH w0 w L)(F:V x=V r)(b:res1 e a.results.toList=V (vi x)) :
  Run prog n (bodyPost prog a fun e w'=>∃ v,e=.returned v∧Below w0.heap.size w0 w'∧∃ us,v=tup us∧GoVs.Vs w' (fresh w0 w') r us) (.code .ret::k) e w:=qxs qa h F (qtD b)
theorem rO {a:Func}{L:List Ch}{α:Type}[GoT α]{r:α}{S:Nat→Prop}{cs:List Value}(i:Nat)(h:SH w0 w L)(hi:L[i]?=V (oW S r cs))(b:ResOk tab e w a.results.toList [oV α cs]) :
  Run prog n (bodyPost prog a fun e w'=>∃ v,e=.returned v∧Below w0.heap.size w0 w'∧∃ us,v=tup us∧GoVs.Vs w' (fresh w0 w') r us) (.code .ret::k) e w:=qY qa _ h b (PV.done h (qai (qK i h hi)))
theorem zV {ρ:Type}[GoVs ρ]{f:FuncId}{a:Func}{c:Code}{vs:List Value}{r:ρ}(m:Nat)(d:prog.funcs[f]?=V a)(b:(a.body,a.ntmps,Nat.ble vs.length m)=(V c,m,true))
  (h:SH w w []→Run prog m (bodyPost prog a fun e w'=>∃ v,e=.returned v∧Below w.heap.size w w'∧∃ us,v=tup us∧GoVs.Vs w' (fresh w w') r us) [.code c] (argEnv 0 vs) w):RetV prog f vs w r:=by
 simp only[Prod.mk.injEq] at b;exact qsg d b.1 b.2.1 b.2.2 h
end
section
variable {w0 w:World}{L:List Ch}{n:Nat}{Q:Exit→Act→World→Prop}{k:List It}{e:Env}{all:Array Oper}{l:List Oper}{d ty:Nat}{ps:String}{af:Array Edge}{x:Operand}{args:Array Operand}{ats:Array TypeId}{f:FuncId}{fi ca:Array Value}{av vs:List Value}{β:Type}{rr:β}
theorem zcI {F:Option Int}{g:Int→Option β}(h:SH w0 w L)(c:F.bind g=V rr)(m:∀ {r},F=V r→RetV prog f vs w r)
  (b:(opv e x,opvs e args.toList,fi.toList++av++ca.toList,Nat.blt d n)=(V (.func (.func f) fi ca),V av,vs,true))
  (o:∀ r w' ,SH w0 w' (L)→g r=V rr→Run prog n Q (.ops all l::k) ((d,vi r)::e) w') (a:qeZ prog f:=by exact cA Z):Run prog n Q (.ops all (⟨V d,.call ⟨.value x,args,ats⟩,ty,ps,af,U⟩::l)::k) e w:=by
 obtain⟨r,p,c⟩:=qd c;simp only[Prod.mk.injEq] at b;exact qcB r h a (m p) b.1 b.2.1 b.2.2.1 b.2.2.2 (fun w'  i=>o r w'  i c)
theorem zcB {F:Option Bool}{g:Bool→Option β}(h:SH w0 w L)(c:F.bind g=V rr)(m:∀ {r},F=V r→RetV prog f vs w r)
  (b:(opv e x,opvs e args.toList,fi.toList++av++ca.toList,Nat.blt d n)=(V (.func (.func f) fi ca),V av,vs,true))
  (o:∀ r w' ,SH w0 w' (L)→g r=V rr→Run prog n Q (.ops all l::k) ((d,.bool r)::e) w') (a:qeZ prog f:=by exact cA Z):Run prog n Q (.ops all (⟨V d,.call ⟨.value x,args,ats⟩,ty,ps,af,U⟩::l)::k) e w:=by
 obtain⟨r,p,c⟩:=qd c;simp only[Prod.mk.injEq] at b;exact qwg r h a (m p) b.1 b.2.1 b.2.2.1 b.2.2.2 (fun w'  i=>o r w'  i c)
theorem zcS {F:Option ByteArray}{g:ByteArray→Option β}(h:SH w0 w L)(c:F.bind g=V rr)(m:∀ {r},F=V r→RetV prog f vs w r)
  (b:(opv e x,opvs e args.toList,fi.toList++av++ca.toList,Nat.blt d n)=(V (.func (.func f) fi ca),V av,vs,true))
  (o:∀ r w' ,SH w0 w' (L)→g r=V rr→Run prog n Q (.ops all l::k) ((d,.string r)::e) w') (a:qeZ prog f:=by exact cA Z):Run prog n Q (.ops all (⟨V d,.call ⟨.value x,args,ats⟩,ty,ps,af,U⟩::l)::k) e w:=by
 obtain⟨r,p,c⟩:=qd c;simp only[Prod.mk.injEq] at b;exact qpG r h a (m p) b.1 b.2.1 b.2.2.1 b.2.2.2 (fun w'  i=>o r w'  i c)
theorem zcL {α:Type}[GoT α]{F:Option (List α)}{g:(List α)→Option β}(h:SH w0 w L)(i:F.bind g=V rr)(o:∀ {r},F=V r→RetV prog f vs w r)
  (b:(opv e x,opvs e args.toList,fi.toList++av++ca.toList,Nat.blt d n)=(V (.func (.func f) fi ca),V av,vs,true))
  (s:∀ r w' S p c,SH w0 w' (oW S r [oS p r.length c]::L)→g r=V rr→Run prog n Q (.ops all l::k) ((d,oS p r.length c)::e) w') (a:qeZ prog f:=by exact cA Z):Run prog n Q (.ops all (⟨V d,.call ⟨.value x,args,ats⟩,ty,ps,af,U⟩::l)::k) e w:=by
 obtain⟨r,t,i⟩:=qd i;simp only[Prod.mk.injEq] at b;exact qjU r h a (o t) b.1 b.2.1 b.2.2.1 b.2.2.2 (fun w' S p c m=>s r w' S p c m i)
theorem zcO {α:Type}[GoT α]{F:Option α}{g:α→Option β}(h:SH w0 w L)(c:F.bind g=V rr)(m:∀ {r},F=V r→RetV prog f vs w r)
  (b:(opv e x,opvs e args.toList,fi.toList++av++ca.toList,Nat.blt d n)=(V (.func (.func f) fi ca),V av,vs,true))
  (o:∀ r w' S cs,SH w0 w' (oW S r cs::L)→g r=V rr→Run prog n Q (.ops all l::k) ((d,oV α cs)::e) w') (a:qeZ prog f:=by exact cA Z):Run prog n Q (.ops all (⟨V d,.call ⟨.value x,args,ats⟩,ty,ps,af,U⟩::l)::k) e w:=by
 obtain⟨r,p,c⟩:=qd c;simp only[Prod.mk.injEq] at b;exact qlO r h a (m p) b.1 b.2.1 b.2.2.1 b.2.2.2 (fun w' S cs i=>o r w' S cs i c)
end
def noC:List Nat:=[0,1,279,303]
theorem allC:((List.range 314).all fun f=>noC.contains f || callB prog f)=true:=by kernel_rfl
theorem cA {f:Nat}(h:(Nat.blt f 314&&!noC.contains f)=true):qeZ prog f:=by
 rw[je,Nat.blt_eq,jF] at h;have:=List.all_eq_true.1 allC f (List.mem_range.2 h.1);rw[h.2] at this;exact quH this
theorem cB (f:Nat)(h:(Nat.blt f 314&&!noC.contains f)=true):qeZ prog f:=cA h
def qaI (_:Nat)(a:Int)(c:Int)(b:Int):Option Bool :=bif decide (a ≥ c) then V (decide (a≤b)) else V false
theorem qap {a_n low high}  {r:Bool}(F:qaI n a_n low high=V r):RetV prog 66 [vi a_n,vi low,vi high] w r:=by
 refine zV 15 func66 Z fun h=>X0 10 Z (qg (t:=10) F Z ?_ ?_)<;>intro F
 ·exact X0 9 Z (rb h F Z)
 exact X0 6 Z (rb h F Z)
def qeh (s:ByteArray):Nat→Int→Option (Flow Bool Int)| 0,_=>U| n+1,a =>bif decide (a<(s.size:Int)) then((atS s a).bind fun d =>bif decide (d ≥ 97) then(atS s a).bind fun f =>V (decide (f≤122)) else V false).bind fun b1 =>((atS s a).bind fun b =>bif decide (b ≥ 48) then(atS s a).bind fun c =>V (decide (c≤57)) else V false).bind fun b2 =>bif (!b1) then bif b2 then bif (!(decide (a > 0))) then V (.ret false) else qeh s n (W64 (a+1)) else V (.ret false) else qeh s n (W64 (a+1)) else V (.nxt a)
def qgy (n:Nat)(s:ByteArray):Option Bool :=(qeh s n 0).bind fun o=>match o with| .ret r=>V r| .nxt _ =>bif decide ((s.size:Int) ≥ 1) then V (decide ((s.size:Int)≤8)) else V false
theorem qh8 {s}  {r:Bool}(F:qgy n s=V r):RetV prog 145 [.string s] w r:=by
 refine zV 50 func145 Z fun h=>X0 9 Z ?_;obtain⟨o1,F,a⟩:=qd F;refine qn (rL (fun m e w'=>∃ g,qeh s m g=V o1∧e=[(0,.string s),(3,vi g)]∧SH w w' []) n ⟨_,F,rfl,h⟩ Z ?_);rintro v _ _ ⟨g,F,rfl,h⟩;rcases v with _|v
 ·cases F
 refine X0 8 Z (qk Z F ?_ ?_)<;>intro F
 ·refine X0 4 Z ?_;obtain⟨k,f,_,F,c⟩:=bindE F;refine qaA (fun e w'=>∃ b1,k b1=V o1∧e=[(0,.string s),(3,vi g),(4,.bool b1)]∧SH w w' []) ?_ ?_
  ·refine X0 3 Z ?_;obtain⟨_,p,F⟩:=qd F;have z:=qmO p;refine r_v (qmm qa z Z Z Z Z) Z (zp2 Z (qg (t:=16) F Z ?_ ?_))<;>intro F
   ·refine X0 5 Z ?_;obtain⟨_,u,F⟩:=qd F;have A:=qmO u;refine r_v (qmm qa A Z Z Z Z) Z (X0 5 Z ?_);obtain rfl:=qb F;exact rG ⟨_,c,rfl,h⟩ Z
   refine X0 7 Z ?_;obtain rfl:=qb F;exact rG ⟨_,c,rfl,h⟩ Z
  rintro _ _ ⟨b1,F,rfl,h⟩;subst f;refine qcq ?_;obtain⟨i,d,_,F,b⟩:=bindE F;refine qaA (fun e w'=>∃ b2,i b2=V o1∧e=[(0,.string s),(3,vi g),(4,.bool b1),(5,.bool b2)]∧SH w w' []) ?_ ?_
  ·refine X0 3 Z ?_;obtain⟨_,l,F⟩:=qd F;have x:=qmO l;refine r_v (qmm qa x Z Z Z Z) Z (zp2 Z (qg (t:=26) F Z ?_ ?_))<;>intro F
   ·refine X0 5 Z ?_;obtain⟨_,o,F⟩:=qd F;have y:=qmO o;refine r_v (qmm qa y Z Z Z Z) Z (X0 5 Z ?_);obtain rfl:=qb F;exact rG ⟨_,b,rfl,h⟩ Z
   refine X0 7 Z ?_;obtain rfl:=qb F;exact rG ⟨_,b,rfl,h⟩ Z
  rintro _ _ ⟨b2,F,rfl,h⟩;subst d;refine X0 5 Z (qg (t:=34) F Z ?_ ?_)<;>intro F
  ·refine X0 4 Z (qg (t:=36) F Z ?_ ?_)<;>intro F
   ·refine X0 10 Z (qk Z F ?_ ?_)<;>intro F
    ·refine X0 4 Z ?_;obtain rfl:=qb F;replace F:=a;exact rb h F Z
    exact X0 7 Z (rK ⟨_,F,rfl,h⟩ Z)
   refine X0 8 Z (qb2 Z Z (X0 4 Z ?_));obtain rfl:=qb F;replace F:=a;exact rb h F Z
  exact X0 8 Z (qbm Z Z (X0 7 Z (rK ⟨_,F,rfl,h⟩ Z)))
 refine qv Z ?_;obtain rfl:=qb F;replace F:=a;refine X0 6 Z (qg (t:=45) F Z ?_ ?_)<;>intro F
 ·exact X0 9 Z (rb h F Z)
 exact X0 6 Z (rb h F Z)
def qfm (a_0:qF)(b:Int)(c:qax):Nat→Int→Option (Flow (Int×Bool) Int)| 0,_=>U| n+1,a =>bif decide (a<b) then(idx a_0.Bh a).bind fun d =>bif (d.Bi.toList==c.Bi.toList) then V (.ret (0,false)) else qfm a_0 b c n (W64 (a+1)) else V (.nxt a)
def qds (a_0:qF):Nat→Int→Int→Option (Flow (Int×Bool) (Int×Int))| 0,_,_=>U| n+1,c,a =>bif decide (a<(a_0.Bh.length:Int)) then(idx a_0.Bh a).bind fun b =>(qfm a_0 a b n 0).bind fun o=>match o with| .ret r=>V (.ret r)| .nxt _ =>((qgy n b.Bi).bind fun r1 =>bif (!r1) then V true else(qaI n b.Br 0 500).bind fun g =>V (!g)).bind fun d =>bif d then V (.ret (0,false)) else(bif (a==(W64 ((a_0.Bh.length:Int)-1))) then bif (b.Bx != 2) then V true else bif (b.Br != 0) then V true else bif b.Bt then V true else bif decide (a<(W64 ((a_0.Bh.length:Int)-1))) then V (b.Bx != 1) else V false else bif decide (a<(W64 ((a_0.Bh.length:Int)-1))) then V (b.Bx != 1) else V false).bind fun f =>bif f then V (.ret (0,false)) else bif b.Bt then qds a_0 n (W64 (c+1)) (W64 (a+1)) else qds a_0 n c (W64 (a+1)) else V (.nxt (c,a))
def qjQ (n:Nat)(a_0:qF):Option (Int×Bool) :=(bif decide ((a_0.Bh.length:Int)<2) then V true else V (decide ((a_0.Bh.length:Int) > 5))).bind fun b1 =>bif b1 then V (0,false) else(qds a_0 n 0 0).bind fun o=>match o with| .ret r=>V r| .nxt (a,_) =>V (a,true)
theorem qpr {a_0:qF}(J:Ro w a_0 cs1){r:(Int×Bool)}(F:qjQ n a_0=V r):RetV prog 268 [oV qF cs1] w r:=by
 obtain⟨p1,u,y,v,z,x,rfl,s1,_,_⟩:=qaq J;refine zV 86 func268 Z fun h=>zSR (qB h Z Z fun _ a h=>X1 12 0 h Z ?_);obtain⟨D,s,_,F,l⟩:=bindE F;refine qaA (fun e w'=>∃ b1,D b1=V r∧e=[(1,vp a),(4,vi (a_0.Bh.length:Int)),(17,.bool b1)]∧SH w w' [oX a (qI a_0 p1 y z u v x) 184]) ?_ ?_
 ·refine X0 4 Z (qg (t:=14) F Z ?_ ?_)<;>intro F
  ·refine X0 4 Z ?_;obtain rfl:=qb F;exact rG ⟨_,l,rfl,h⟩ Z
  refine X0 6 Z ?_;obtain rfl:=qb F;exact rG ⟨_,l,rfl,h⟩ Z
 rintro _ _ ⟨b1,F,rfl,h⟩;subst s;refine qk Z F ?_ ?_<;>intro F
 ·refine X0 5 Z ?_;obtain rfl:=qb F;exact qY qa (ρ:=(Int×Bool)) [oV Int [vi 0],oV Bool [.bool false]] h ⟨rfl,rfl,trivial⟩ (PV.done h (qS h (qt (S:=fun _=>False) Z) (qai (qt (S:=fun _=>False) Z)) (by rfl)))
 refine X0 10 Z ?_;obtain⟨o1,F,d⟩:=qd F;refine qn (rL (fun m e w'=>∃ f g,qds a_0 m f g=V o1∧e=[(1,vp a),(4,vi (a_0.Bh.length:Int)),(5,vi f),(6,vi g)]∧SH w w' [oX a (qI a_0 p1 y z u v x) 184]) n ⟨_,_,F,rfl,h⟩ Z ?_);rintro Y _ _ ⟨f,g,F,rfl,h⟩;rcases Y with _|Y
 ·cases F
 refine X0 7 Z (qk Z F ?_ ?_)<;>intro F
 ·refine X1 8 0 h Z ?_;obtain⟨A,_,F,M,_,_,_,_,O,Q,T,K⟩:=s1.ix F;obtain rfl:=qfh T;refine zxe O Q M Z (zc 0 (K.below h.below) Z (qi qa h Z Z Z fun _ c h=>zs 0 h Z fun _ h=>X0 6 Z ?_));obtain⟨o2,F,i⟩:=qd F;refine qn (rL (fun m e w'=>∃ X,qfm a_0 g A m X=V o2∧e=[(1,vp a),(4,vi (a_0.Bh.length:Int)),(5,vi f),(6,vi g),(7,vp c),(8,vi X)]∧SH w w' [oX c (qpQ A) 286,oX a (qI a_0 p1 y z u v x) 184]) Y ⟨_,F,rfl,h⟩ Z ?_);rintro m2 _ _ ⟨X,F,rfl,h⟩;rcases m2 with _|m2
  ·cases F
  refine X0 7 Z (qk Z F ?_ ?_)<;>intro F
  ·refine X0 4 Z (rD (Y1 2 1 h Z ?_));refine zd1 Z ?_;obtain⟨_,_,F,N,_,_,_,_,P,R,W,L⟩:=s1.ix F;obtain rfl:=qfh W;refine zdxe P R N Z (zd1 Z (zdc 0 (L.below h.below) Z (Y1 2 0 h Z ?_)));refine zd1 Z (dN h fun _ h=>qk Z F ?_ ?_)<;>intro F
   ·refine X0 5 Z ?_;obtain rfl:=qb F;replace F:=i;obtain rfl:=qb F;replace F:=d;obtain rfl:=qb F;exact qY qa (ρ:=(Int×Bool)) [oV Int [vi 0],oV Bool [.bool false]] h ⟨rfl,rfl,trivial⟩ (PV.done h (qS h (qt (S:=fun _=>False) Z) (qai (qt (S:=fun _=>False) Z)) (by rfl)))
   exact X0 7 Z (rK ⟨_,F,rfl,h⟩ Z)
  refine qv Z ?_;obtain rfl:=qb F;replace F:=i;refine zSS ?_;obtain⟨C,p,_,F,k⟩:=bindE F;refine qaA (fun e w'=>∃ H,C H=V o1∧e=[(1,vp a),(4,vi (a_0.Bh.length:Int)),(5,vi f),(6,vi g),(7,vp c),(51,.bool H)]∧SH w w' [oX c (qpQ A) 286,oX a (qI a_0 p1 y z u v x) 184]) ?_ ?_
  ·refine X1 3 0 h Z (zcB h F qh8 Z fun _ _ h F=>zp2 Z (qg (t:=46) F Z ?_ ?_))<;>intro F
   ·refine X0 6 Z ?_;obtain rfl:=qb F;exact rG ⟨_,k,rfl,h⟩ Z
   refine X1 5 0 h Z (zcB h F qap Z fun _ _ h F=>X0 4 Z ?_);obtain rfl:=qb F;exact rG ⟨_,k,rfl,h⟩ Z
  rintro _ _ ⟨H,F,rfl,h⟩;subst p;refine qk Z F ?_ ?_<;>intro F
  ·refine X0 5 Z ?_;obtain rfl:=qb F;replace F:=d;obtain rfl:=qb F;exact qY qa (ρ:=(Int×Bool)) [oV Int [vi 0],oV Bool [.bool false]] h ⟨rfl,rfl,trivial⟩ (PV.done h (qS h (qt (S:=fun _=>False) Z) (qai (qt (S:=fun _=>False) Z)) (by rfl)))
  refine zKSS ?_;obtain⟨B,o,_,F,b⟩:=bindE F;refine qaA (fun e w'=>∃ I,B I=V o1∧e=[(1,vp a),(4,vi (a_0.Bh.length:Int)),(5,vi f),(6,vi g),(7,vp c),(80,.bool I)]∧SH w w' [oX c (qpQ A) 286,oX a (qI a_0 p1 y z u v x) 184]) ?_ ?_
  ·refine X0 6 Z (qg (t:=56) F Z ?_ ?_)<;>intro F
   ·refine X1 8 0 h Z (qg (t:=60) F Z ?_ ?_)<;>intro F
    ·refine X0 24 Z ?_;obtain rfl:=qb F;exact rG ⟨_,b,rfl,h⟩ Z
    refine X1 10 0 h Z (qg (t:=65) F Z ?_ ?_)<;>intro F
    ·refine X0 17 Z ?_;obtain rfl:=qb F;exact rG ⟨_,b,rfl,h⟩ Z
    refine X1 8 0 h Z (qg (t:=70) F Z ?_ ?_)<;>intro F
    ·refine X0 11 Z ?_;obtain rfl:=qb F;exact rG ⟨_,b,rfl,h⟩ Z
    refine X0 10 Z (qg (t:=75) F Z ?_ ?_)<;>intro F
    ·refine X1 10 0 h Z ?_;obtain rfl:=qb F;exact rG ⟨_,b,rfl,h⟩ Z
    refine X0 7 Z ?_;obtain rfl:=qb F;exact rG ⟨_,b,rfl,h⟩ Z
   refine X0 24 Z (qg (t:=75) F Z ?_ ?_)<;>intro F
   ·refine X1 10 0 h Z ?_;obtain rfl:=qb F;exact rG ⟨_,b,rfl,h⟩ Z
   refine X0 7 Z ?_;obtain rfl:=qb F;exact rG ⟨_,b,rfl,h⟩ Z
  rintro _ _ ⟨I,F,rfl,h⟩;subst o;refine qk Z F ?_ ?_<;>intro F
  ·refine X0 5 Z ?_;obtain rfl:=qb F;replace F:=d;obtain rfl:=qb F;exact qY qa (ρ:=(Int×Bool)) [oV Int [vi 0],oV Bool [.bool false]] h ⟨rfl,rfl,trivial⟩ (PV.done h (qS h (qt (S:=fun _=>False) Z) (qai (qt (S:=fun _=>False) Z)) (by rfl)))
  refine X1 6 0 h Z (qk Z F ?_ ?_)<;>intro F
  ·refine X0 11 Z ?_;replace h:=h.p [1] Z;exact rK ⟨_,_,F,rfl,h⟩ Z
  refine X0 7 Z ?_;replace h:=h.p [1] Z;exact rK ⟨_,_,F,rfl,h⟩ Z
 refine qv Z ?_;obtain rfl:=qb F;replace F:=d;refine X0 6 Z ?_;obtain rfl:=qb F;exact qY qa (ρ:=(Int×Bool)) [oV Int [vi f],oV Bool [.bool true]] h ⟨rfl,rfl,trivial⟩ (PV.done h (qS h (qt (S:=fun _=>False) Z) (qai (qt (S:=fun _=>False) Z)) (by rfl)))
def qel (list:(List Int)):Nat→Int→Option (Flow Bool Int)| 0,_=>U| n+1,a =>bif decide (a<(list.length:Int)) then(idx list a).bind fun b =>(qaI n b 0 100000).bind fun r1 =>bif (!r1) then V (.ret false) else bif decide (a > 0) then(idx list (W64 (a-1))).bind fun c =>(idx list a).bind fun d =>bif decide (c ≥ d) then V (.ret false) else qel list n (W64 (a+1)) else qel list n (W64 (a+1)) else V (.nxt a)
def qiK (n:Nat)(list:(List Int)):Option Bool :=(qel list n 0).bind fun o=>match o with| .ret r=>V r| .nxt _ =>bif decide ((list.length:Int) ≥ 1) then V (decide ((list.length:Int)≤4)) else V false
theorem ql8 {list:(List Int)}(b:Ro w list cs1){r:Bool}(F:qiK n list=V r):RetV prog 265 [oV (List Int) cs1] w r:=by
 obtain⟨p1,A,rfl,s1⟩:=b;refine zV 40 func265 Z fun h=>X0 9 Z ?_;obtain⟨o1,F,a⟩:=qd F;refine qn (rL (fun m e w'=>∃ y,qel list m y=V o1∧e=[(0,oS p1 list.length A),(3,vi y)]∧SH w w' []) n ⟨_,F,rfl,h⟩ Z ?_);rintro z _ _ ⟨y,F,rfl,h⟩;rcases z with _|z
 ·cases F
 refine X0 8 Z (qk Z F ?_ ?_)<;>intro F
 ·refine X0 4 Z (rD (zd2 Z ?_));obtain⟨_,_,F,g,_,_,_,_,l,s,rfl,c⟩:=s1.ix F;refine zdxe l s g Z (zdc 0 (c.below h.below) Z ?_);obtain⟨r1,x,F⟩:=qd F;refine qb7 r1 (vsB _) (cB 66 Z) (fun _ B=>qap  x) Z Z Z Z (zd2 Z (qaG (t:=16) F Z ?_ ?_))<;>intro F
  ·refine Y0 15 Z (dN h fun _ h=>qb2 Z Z (X0 4 Z ?_));obtain rfl:=qb F;replace F:=a;exact rb h F Z
  refine Y0 6 Z (qaG (t:=19) F Z ?_ ?_)<;>intro F
  ·refine Y0 7 Z ?_;obtain⟨_,_,F,i,_,_,_,_,o,u,rfl,d⟩:=s1.ix F;refine zdxe o u i Z (Y0 1 Z (zdc 0 (d.below h.below) Z (Y0 5 Z ?_)));obtain⟨_,_,F,k,_,_,_,_,p,v,rfl,f⟩:=s1.ix F;refine zdxe p v k Z (Y0 1 Z (zdc 0 (f.below h.below) Z (Y0 5 Z (dN h fun _ h=>qk Z F ?_ ?_))))<;>intro F
   ·refine X0 4 Z ?_;obtain rfl:=qb F;replace F:=a;exact rb h F Z
   exact X0 7 Z (rK ⟨_,F,rfl,h⟩ Z)
  exact Y0 13 Z (dN h fun _ h=>qbm Z Z (X0 7 Z (rK ⟨_,F,rfl,h⟩ Z)))
 refine qv Z ?_;obtain rfl:=qb F;replace F:=a;refine X0 6 Z (qg (t:=35) F Z ?_ ?_)<;>intro F
 ·exact X0 9 Z (rb h F Z)
 exact X0 6 Z (rb h F Z)
def qfk (t:qL):Nat→Int→Option (Flow Bool Int)| 0,_=>U| n+1,a =>bif decide (a<(t.Bj.length:Int)) then(idx t.Bj a).bind fun b =>(qaI n b (-1000000) 1000000).bind fun r1 =>bif (!r1) then V (.ret false) else qfk t n (W64 (a+1)) else V (.nxt a)
def qjP (n:Nat)(t:qL):Option Bool :=((qiK n t.Bq).bind fun a =>bif (!a) then V true else(qiK n t.Bn).bind fun b =>bif (!b) then V true else V ((t.Bj.length:Int) != (W64 ((t.Bq.length:Int)*(t.Bn.length:Int))))).bind fun b1 =>bif b1 then V false else(qfk t n 0).bind fun o=>match o with| .ret r=>V r| .nxt _ =>V true
theorem qpu {t:qL}(g:Ro w t cs1){r:Bool}(F:qjP n t=V r):RetV prog 236 [oV qL cs1] w r:=by
 obtain⟨p1,s,y,u,z,v,rfl,s1,s2,A⟩:=qcr g;refine zV 41 func236 Z fun h=>zSR (qB h Z Z fun _ a h=>X0 4 Z ?_);obtain⟨f,d,_,F,b⟩:=bindE F;refine qaA (fun e w'=>∃ b1,f b1=V r∧e=[(1,vp a),(26,.bool b1)]∧SH w w' [oX a (qe5 t p1 y z s u v) 264]) ?_ ?_
 ·refine X1 3 0 h Z (zcB h F (ql8 ⟨_,_,rfl,(h.oldS s1)⟩) Z fun _ _ h F=>zp2 Z (qg (t:=8) F Z ?_ ?_))<;>intro F
  ·refine X0 19 Z ?_;obtain rfl:=qb F;exact rG ⟨_,b,rfl,h⟩ Z
  refine X1 5 0 h Z (zcB h F (ql8 ⟨_,_,rfl,(h.oldS s2)⟩) Z fun _ _ h F=>X0 4 Z (qg (t:=14) F Z ?_ ?_))<;>intro F
  ·refine X0 13 Z ?_;obtain rfl:=qb F;exact rG ⟨_,b,rfl,h⟩ Z
  refine X3 24 0 0 0 h Z ?_;obtain rfl:=qb F;exact rG ⟨_,b,rfl,h⟩ Z
 rintro _ _ ⟨b1,F,rfl,h⟩;subst d;refine qk Z F ?_ ?_<;>intro F
 ·exact X0 4 Z (rb h F Z)
 refine X0 6 Z ?_;obtain⟨o1,F,c⟩:=qd F;refine qn (rL (fun m e w'=>∃ p,qfk t m p=V o1∧e=[(1,vp a),(3,vi p)]∧SH w w' [oX a (qe5 t p1 y z s u v) 264]) n ⟨_,F,rfl,h⟩ Z ?_);rintro x _ _ ⟨p,F,rfl,h⟩;rcases x with _|x
 ·cases F
 refine X1 9 0 h Z (qk Z F ?_ ?_)<;>intro F
 ·refine X1 8 0 h Z ?_;obtain⟨_,_,F,k,_,_,_,_,l,o,rfl,i⟩:=A.ix F;refine zxe l o k Z (zc 0 (i.below h.below) Z (zcB h F qap Z fun _ _ h F=>X0 2 Z (qk Z F ?_ ?_)))<;>intro F
  ·refine X0 4 Z ?_;obtain rfl:=qb F;replace F:=c;exact rb h F Z
  exact X0 7 Z (rK ⟨_,F,rfl,h⟩ Z)
 refine qv Z ?_;obtain rfl:=qb F;replace F:=c;exact X0 4 Z (rb h F Z)
def qde (t:qL):Nat→Int→Int→Int→Option (Int×Int×Int)| 0,_,_,_=>U| n+1,b,c,a =>bif decide (a<(t.Bj.length:Int)) then(idx t.Bj a).bind fun d =>(idx t.Bj a).bind fun f =>qde t n (if d<b then d else b) (if f > c then f else c) (W64 (a+1)) else V (b,c,a)
def qhs (n:Nat)(t:qL):Option (qf×Int) :=(qjP n t).bind fun r1 =>bif (!r1) then V ((⟨0,0⟩:qf),1) else(idx t.Bj 0).bind fun c =>(idx t.Bj 0).bind fun d =>(qde t n c d 1).bind fun o=>match o with| (a,b,_) =>V ((⟨a,b⟩:qf),0)
theorem qnm {t:qL}(d:Ro w t cs1){r:(qf×Int)}(F:qhs n t=V r):RetV prog 295 [oV qL cs1] w r:=by
 obtain⟨p1,M,P,N,Q,O,rfl,_,_,i⟩:=qcr d;refine zV 45 func295 Z fun h=>zSR (qB h Z Z fun _ a h=>qi qa h Z Z Z fun _ b h=>X1 6 1 h Z (zcB h F (qpu (h.old d)) Z fun _ _ h F=>X0 2 Z (qk Z F ?_ ?_)))<;>intro F
 ·refine zSR (r_v (qA qa [] [] Z Z Z Z Z Z Z Z) Z (zs 0 h Z fun _ h=>X0 2 Z ?_));obtain rfl:=qb F;exact qY qa (ρ:=(qf×Int)) [oV qf [vi 0,vi 0],oV Int [vi 1]] h ⟨⟨_,_,_,rfl,rfl,h.box 0 Z,rfl⟩,rfl,trivial⟩ (PV.done h (qS h (qt (S:=fun _=>False) (qD (⟨0,0⟩:qf))) (qai (qt (S:=fun _=>False) Z)) (by rfl)))
 refine zKS (rA [] [1] h Z fun _ h=>M1 3 [0,1] 0 (h.p [1] Z) Z ?_);obtain⟨_,_,F,u,_,_,_,_,z,D,rfl,l⟩:=i.ix F;refine Ae 2 7 z D u (h.p [1] Z) Z (Al 3 15 0 l (h.p [1] Z) Z (M1 63 [4,5] 0 (h.p [1] Z) Z ?_));obtain⟨_,_,F,v,_,_,_,_,A,H,rfl,o⟩:=i.ix F;refine Ae 6 127 A H v (h.p [1] Z) Z (Al 7 255 0 o (h.p [1] Z) Z (Aw 8 511 (fun w' T=>qA qa [0,1] [.tmp 13,.tmp 17] Z Z Z Z Z Z Z Z) (h.p [1] Z) Z ?_));refine Ao 9 1023 Z (qi qa h Z Z Z fun _ c h=>Ag (h.p [2] Z) (Ao 10 2047 Z (zs 0 h Z fun _ h=>Ag (h.p [2] Z) (Ad (X0 5 Z ?_)))));obtain⟨o1,F,k⟩:=qd F;refine qn (rL (fun m e w'=>∃ f g K,qde t m f g K=V o1∧e=[(1,vp a),(2,vp b),(4,vp c),(5,vi K)]∧SH w w' [oX c [vi f,vi g] 68,oX b [vi 0,vi 0] 68,oX a (qe5 t p1 P Q M N O) 264]) n ⟨_,_,_,F,rfl,h⟩ Z ?_);rintro L _ _ ⟨f,g,K,F,rfl,h⟩;rcases L with _|L
 ·cases F
 refine X1 9 2 h Z (qk Z F ?_ ?_)<;>intro F
 ·refine X0 4 Z (rA [9] [0,2] h Z fun _ h=>M2 31 [0,1,2,3,4] 0 1 (h.p [0,2] Z) Z ?_);obtain⟨_,_,F,x,_,_,_,_,B,I,rfl,p⟩:=i.ix F;refine Ae 5 63 B I x (h.p [0,2] Z) Z (Al 6 127 0 p (h.p [0,2] Z) Z (M0 511 [7,8] (h.p [0,2] Z) Z (Ao 9 1023 Z (zs 0 h Z fun _ h=>qbc (fun R=>absurd (R 9 (by decide)) (by decide)) (Ad (rA [9] [0,2] h Z fun _ h=>M2 31 [0,1,2,3,4] 0 1 (h.p [0,2] Z) Z ?_))))));obtain⟨_,_,F,y,_,_,_,_,C,J,rfl,s⟩:=i.ix F;exact Ae 5 63 C J y (h.p [0,2] Z) Z (Al 6 127 0 s (h.p [0,2] Z) Z (M0 511 [7,8] (h.p [0,2] Z) Z (Ao 9 1023 Z (zs 0 h Z fun _ h=>qbc (fun R=>absurd (R 9 (by decide)) (by decide)) (Ad (X0 6 Z (rK ⟨_,_,_,F,rfl,h⟩ Z)))))))
 refine qv Z ?_;obtain rfl:=qb F;replace F:=k;refine X1 3 0 h Z (zs 1 h Z fun _ h=>X0 2 Z ?_);obtain rfl:=qb F;exact qY qa (ρ:=(qf×Int)) [oV qf [vi f,vi g],oV Int [vi 0]] h ⟨⟨_,_,_,rfl,rfl,h.box 1 Z,rfl⟩,rfl,trivial⟩ (PV.done h (qS h (qt (S:=fun _=>False) (qD (⟨f,g⟩:qf))) (qai (qt (S:=fun _=>False) Z)) (by rfl)))
def qc3 (list:(List qL))(f:Bool):Nat→Int→Option (Flow Bool Int)| 0,_=>U| n+1,a =>bif decide (a<2) then(idx list a).bind fun d =>(qhs n d).bind fun o=>match o with| (b,c) =>bif (c != 0) then V (.ret false) else bif f then bif decide (b.Aq<0) then V (.ret false) else qc3 list f n (W64 (a+1)) else qc3 list f n (W64 (a+1)) else V (.nxt a)
def qdU (n:Nat)(list:(List qL))(a:Bool):Option Bool :=bif ((list.length:Int) != 2) then V false else(qc3 list a n 0).bind fun o=>match o with| .ret r=>V r| .nxt _ =>V true
theorem qfJ {list:(List qL)}{positive}(c:Ro w list cs1){r:Bool}(F:qdU n list positive=V r):RetV prog 283 [oV (List qL) cs1,.bool positive] w r:=by
 obtain⟨p1,x,rfl,s1⟩:=c;refine zV 33 func283 Z fun h=>X0 11 Z (qk Z F ?_ ?_)<;>intro F
 ·exact X0 4 Z (rb h F Z)
 refine X0 6 Z ?_;obtain⟨o1,F,a⟩:=qd F;refine qn (rL (fun m e w'=>∃ u,qc3 list positive m u=V o1∧e=[(0,oS p1 list.length x),(1,.bool positive),(5,vi u)]∧SH w w' []) n ⟨_,F,rfl,h⟩ Z ?_);rintro v _ _ ⟨u,F,rfl,h⟩;rcases v with _|v
 ·cases F
 refine X0 6 Z (qk Z F ?_ ?_)<;>intro F
 ·refine X0 7 Z ?_;obtain⟨C,_,F,f,_,_,_,_,g,i,k,d⟩:=s1.ix F;obtain⟨_,_,_,_,_,_,rfl,s2,A,B⟩:=qcr k;refine zxe g i f Z (zc 0 (d.below h.below) Z ?_);obtain⟨⟨y,z⟩,l,F⟩:=qd F;refine qaF (y,z) h (cB 295 Z) (qnm (qi3 C (h.oldS s2) (h.oldS A) (h.oldS B)) l) Z Z Z Z fun _ _ _ s o=>?_;obtain⟨_,_,_,_,rfl,b,p⟩:=s.cons o;obtain rfl:=qx (b.sh.own 0 Z);obtain⟨rfl,h⟩:=b.lastI p;refine zp3 Z (qi qa h Z Z Z fun _ _ h=>zs 0 h Z fun _ h=>X0 7 Z (qg (t:=25) F Z ?_ ?_))<;>intro F
  ·refine X0 8 Z (qb2 Z Z (X0 4 Z ?_));obtain rfl:=qb F;replace F:=a;exact rb h F Z
  refine X0 4 Z (qg (t:=27) F Z ?_ ?_)<;>intro F
  ·refine X1 10 0 h Z (qk Z F ?_ ?_)<;>intro F
   ·refine X0 4 Z ?_;obtain rfl:=qb F;replace F:=a;exact rb h F Z
   refine X0 7 Z ?_;replace h:=h.p [] Z;exact rK ⟨_,F,rfl,h⟩ Z
  refine X0 7 Z (qbm Z Z (X0 7 Z ?_));replace h:=h.p [] Z;exact rK ⟨_,F,rfl,h⟩ Z
 refine qv Z ?_;obtain rfl:=qb F;replace F:=a;exact X0 4 Z (rb h F Z)
def qkX (n:Nat)(a_0:qF)(a_1:qas):Option Bool :=((qaI n a_1.Bk 0 (W64 ((W64 ((a_0.Bh.length:Int)-1))-1))).bind fun i =>bif (!i) then V true else(qaI n a_1.To 0 (W64 ((a_0.Bh.length:Int)-1))).bind fun k =>V (!k)).bind fun b1 =>bif b1 then V false else(idx a_0.Bh a_1.Bk).bind fun a =>bif (a_1.Bf==1) then bif (!a.Bt) then bif (a_1.To==(W64 ((a_0.Bh.length:Int)-1))) then(qaI n a_1.Bp 1 3).bind fun r1 =>bif r1 then(qdU n a_1.Bu true).bind fun c =>bif c then(qdU n a_1.Bc true).bind fun d =>V d else V false else V false else V false else V false else(bif (a_1.Bf==2) then V (a_1.Bf==2) else V (a_1.Bf==3)).bind fun b3 =>bif b3 then bif a.Bt then bif (a_1.To==(W64 ((a_0.Bh.length:Int)-1))) then bif (a_1.Bp==0) then(qdU n a_1.Bu true).bind fun f =>bif f then(qdU n a_1.Bc true).bind fun g =>V g else V false else V false else V false else V false else(bif (a_1.Bf==4) then V (a_1.Bf==4) else V (a_1.Bf==5)).bind fun b =>bif b then bif a.Bt then bif decide (a_1.To<(W64 ((a_0.Bh.length:Int)-1))) then(idx a_0.Bh a_1.To).bind fun l =>bif (!l.Bt) then bif (a_1.Bp==0) then(qdU n a_1.Bu false).bind fun h =>bif h then V ((a_1.Bc.length:Int)==0) else V false else V false else V false else V false else V false else V false
theorem qpU {a_0:qF}{a_1:qas}(s:Ro w a_0 cs1)(u:Ro w a_1 cs2){r:Bool}(F:qkX n a_0 a_1=V r):RetV prog 269 [oV qF cs1,oV qas cs2] w r:=by
 obtain⟨p1,J,O,K,P,L,rfl,s1,_,_⟩:=qaq s;obtain⟨Q,M,R,N,rfl,S,T⟩:=qaE u;refine zV 119 func269 Z fun h=>zSR (qB h Z Z fun _ a h=>qB h Z Z fun _ b h=>X1 12 1 h Z ?_);obtain⟨o,k,_,F,f⟩:=bindE F;refine qaA (fun e w'=>∃ b1,o b1=V r∧e=[(2,vp a),(3,vp b),(5,vi (W64 ((a_0.Bh.length:Int)-1))),(23,.bool b1)]∧SH w w' [oX b (qei a_1 Q R M N) 187,oX a (qI a_0 p1 O P J K L) 184]) ?_ ?_
 ·refine X1 5 0 h Z (zcB h F qap Z fun _ _ h F=>zp2 Z (qg (t:=17) F Z ?_ ?_))<;>intro F
  ·refine X0 7 Z ?_;obtain rfl:=qb F;exact rG ⟨_,f,rfl,h⟩ Z
  refine X1 7 0 h Z (zcB h F qap Z fun _ _ h F=>X0 4 Z ?_);obtain rfl:=qb F;exact rG ⟨_,f,rfl,h⟩ Z
 rintro _ _ ⟨b1,F,rfl,h⟩;subst k;refine qk Z F ?_ ?_<;>intro F
 ·exact X0 4 Z (rb h F Z)
 refine X2 7 1 0 h Z ?_;obtain⟨W,_,F,y,_,_,_,_,A,C,H,v⟩:=s1.ix F;obtain rfl:=qfh H;refine zxe A C y Z (zp1 Z (zc 3 (v.below h.below) Z (X1 14 0 h Z (qk Z F ?_ ?_))))<;>intro F
 ·refine X0 5 Z (qg (t:=37) F Z ?_ ?_)<;>intro F
  ·refine X1 10 0 h Z (qg (t:=43) F Z ?_ ?_)<;>intro F
   ·refine X1 5 0 h Z (zcB h F qap Z fun _ _ h F=>zp2 Z (qg (t:=48) F Z ?_ ?_))<;>intro F
    ·refine X1 5 0 h Z (zcB h F (qfJ ⟨_,_,rfl,(h.oldS S)⟩) Z fun _ _ h F=>zp2 Z (qg (t:=53) F Z ?_ ?_))<;>intro F
     ·exact X1 5 0 h Z (zcB h F (qfJ ⟨_,_,rfl,(h.oldS T)⟩) Z fun _ _ h F=>X0 3 Z (rb h F Z))
     exact X0 6 Z (rb h F Z)
    exact X0 11 Z (rb h F Z)
   exact X0 16 Z (rb h F Z)
  exact X0 22 Z (rb h F Z)
 refine X0 6 Z ?_;obtain⟨m,i,_,F,d⟩:=bindE F;refine qaA (fun e w'=>∃ b3,m b3=V r∧e=[(2,vp a),(3,vp b),(5,vi (W64 ((a_0.Bh.length:Int)-1))),(6,.bool W.Bt),(32,vi a_1.Bf),(58,.bool b3)]∧SH w w' [oX b (qei a_1 Q R M N) 187,oX a (qI a_0 p1 O P J K L) 184]) ?_ ?_
 ·refine qk Z F ?_ ?_<;>intro F
  ·refine qf2 ?_;obtain rfl:=qb F;exact rG ⟨_,d,rfl,h⟩ Z
  refine X0 4 Z ?_;obtain rfl:=qb F;exact rG ⟨_,d,rfl,h⟩ Z
 rintro _ _ ⟨b3,F,rfl,h⟩;subst i;refine qk Z F ?_ ?_<;>intro F
 ·refine X0 4 Z (qg (t:=62) F Z ?_ ?_)<;>intro F
  ·refine X1 10 0 h Z (qg (t:=68) F Z ?_ ?_)<;>intro F
   ·refine X1 8 0 h Z (qg (t:=73) F Z ?_ ?_)<;>intro F
    ·refine X1 5 0 h Z (zcB h F (qfJ ⟨_,_,rfl,(h.oldS S)⟩) Z fun _ _ h F=>zp2 Z (qg (t:=78) F Z ?_ ?_))<;>intro F
     ·exact X1 5 0 h Z (zcB h F (qfJ ⟨_,_,rfl,(h.oldS T)⟩) Z fun _ _ h F=>X0 3 Z (rb h F Z))
     exact X0 6 Z (rb h F Z)
    exact X0 11 Z (rb h F Z)
   exact X0 16 Z (rb h F Z)
  exact X0 22 Z (rb h F Z)
 refine X0 6 Z ?_;obtain⟨l,g,_,F,c⟩:=bindE F;refine qaA (fun e w'=>∃ p,l p=V r∧e=[(2,vp a),(3,vp b),(5,vi (W64 ((a_0.Bh.length:Int)-1))),(6,.bool W.Bt),(83,.bool p)]∧SH w w' [oX b (qei a_1 Q R M N) 187,oX a (qI a_0 p1 O P J K L) 184]) ?_ ?_
 ·refine qk Z F ?_ ?_<;>intro F
  ·refine qf2 ?_;obtain rfl:=qb F;exact rG ⟨_,c,rfl,h⟩ Z
  refine X0 4 Z ?_;obtain rfl:=qb F;exact rG ⟨_,c,rfl,h⟩ Z
 rintro _ _ ⟨p,F,rfl,h⟩;subst g;refine qk Z F ?_ ?_<;>intro F
 ·refine X0 4 Z (qg (t:=87) F Z ?_ ?_)<;>intro F
  ·refine X1 10 0 h Z (qg (t:=93) F Z ?_ ?_)<;>intro F
   ·refine X2 9 1 0 h Z ?_;obtain⟨_,_,F,z,_,_,_,_,B,D,I,x⟩:=s1.ix F;obtain rfl:=qfh I;refine zxe B D z Z (X0 3 Z (zc 3 (x.below h.below) Z (X0 4 Z (qg (t:=103) F Z ?_ ?_))))<;>intro F
    ·refine X1 8 0 h Z (qg (t:=108) F Z ?_ ?_)<;>intro F
     ·refine X1 5 0 h Z (zcB h F (qfJ ⟨_,_,rfl,(h.oldS S)⟩) Z fun _ _ h F=>zp2 Z (qg (t:=113) F Z ?_ ?_))<;>intro F
      ·exact X1 11 0 h Z (rb h F Z)
      exact X0 7 Z (rb h F Z)
     exact X0 12 Z (rb h F Z)
    exact X0 17 Z (rb h F Z)
   exact X0 27 Z (rb h F Z)
  exact X0 33 Z (rb h F Z)
 exact X0 6 Z (rb h F Z)
def qdI (c:qF):Nat→(List Int)→Int→Option ((List Int)×Int)| 0,_,_=>U| n+1,b,a =>bif decide (a<(c.Az.length:Int)) then(idx c.Az a).bind fun d =>(idx b d.Bf).bind fun f =>(idx b d.Bf).bind fun _ =>qdI c n (setS b d.Bf (W64 (f+1))) (W64 (a+1)) else V (b,a)
def qjh (n:Nat)(c:qF):Option (List Int) :=(mkS 6 (0:Int)).bind fun a =>(qdI c n a 0).bind fun o=>match o with| (b,_) =>V b
theorem qoW {c:qF}(o:Ro w c cs1){r:(List Int)}(F:qjh n c=V r):RetV prog 270 [oV qF cs1] w r:=by
 obtain⟨p1,L,O,M,P,N,rfl,_,s2,_⟩:=qaq o;refine zV 25 func270 Z fun h=>zSR (qB h Z Z fun _ b h=>X0 4 Z ?_);obtain⟨k,a,F⟩:=qd F;obtain⟨J,K,a⟩:=qar a;refine qaM qa Int h Z Z Z Z Z Z Z Z Z J K a Z fun _ S1 I h=>X0 7 Z ?_;obtain⟨o1,F,l⟩:=qd F;refine qn (rL (fun m e w'=>∃ D C,qdI c m D C=V o1∧e=[(1,vp b),(3,oS I k.length k.length),(4,vi C)]∧SH w w' [oW S1 (D:List Int) [oS I k.length k.length],oX b (qI c p1 O P L M N) 184]) n ⟨_,_,F,rfl,h⟩ Z ?_);rintro H _ _ ⟨D,C,F,rfl,h⟩;rcases H with _|H
 ·cases F
 refine X1 9 1 h Z (qk Z F ?_ ?_)<;>intro F
 ·refine X1 8 1 h Z ?_;obtain⟨_,_,F,u,_,_,_,_,v,y,A,p⟩:=s2.ix F;obtain⟨_,_,_,_,rfl,_,_⟩:=qaE A;refine zxe v y u Z (zp1 Z (zc 0 (p.below h.below) Z ?_));obtain⟨Q,_,F,d,_,_,_,_,x,z,rfl,s⟩:=(h.sl 0 Z).1.ix F;refine zx x z ⟨d.1,qE d.2.1 (h.sl 0 Z).2⟩ Z (zc 0 s Z (zp1 Z ?_));obtain⟨_,B,F,f,_,_,_,_,g,i,rfl,t⟩:=(h.sl 0 Z).1.ix F;exact zx g i ⟨f.1,qE f.2.1 (h.sl 0 Z).2⟩ Z (qaU qa 0 0 (W64 (Q+1)) h Z B g i Z t Z Z Z Z Z Z Z fun _ h=>X0 7 Z (rK ⟨_,_,F,rfl,h⟩ Z))
 refine qv Z ?_;obtain rfl:=qb F;replace F:=l;refine X0 5 Z ?_;obtain rfl:=qb F;exact rO 0 h Z ⟨rfl,trivial⟩
end Go.Fw


namespace Go.Fw
open Go Go.Proofs Go.Proofs.Tryz
open Go.RowKit (Below)
open Ch renaming own→oW,box→oX,grp→oG
open GoT renaming v→oV
open Go.Value renaming slice→oS
set_option maxRecDepth 100000
set_option maxHeartbeats 6400000
variable {n:Nat}{w:World}{cs1 cs2 cs3 cs4 cs5 cs6 cs7 cs8 cs9:List Value}
def qdV (a_0:qF)(c:Int)(b:qas):Nat→Int→Option (Flow Bool Int)| 0,_=>U| n+1,a =>bif decide (a<c) then(idx a_0.Az a).bind fun d =>bif (d.Bf==b.Bf) then(idx a_0.Az a).bind fun f =>bif (f.Bk==b.Bk) then(idx a_0.Az a).bind fun g =>bif (g.To==b.To) then V (.ret false) else qdV a_0 c b n (W64 (a+1)) else qdV a_0 c b n (W64 (a+1)) else qdV a_0 c b n (W64 (a+1)) else V (.nxt a)
def qgf (a_0:qF):Nat→Int→Option (Flow Bool Int)| 0,_=>U| n+1,a =>bif decide (a<(a_0.Bs.length:Int)) then(idx a_0.Bs a).bind fun c =>(qaI n c 0 1).bind fun b =>bif (!b) then V (.ret false) else qgf a_0 n (W64 (a+1)) else V (.nxt a)
def qf8 (a_0:qF):Nat→Int→Option (Flow Bool Int)| 0,_=>U| n+1,a =>bif decide (a<(a_0.Az.length:Int)) then(idx a_0.Az a).bind fun b =>(qkX n a_0 b).bind fun c =>bif (!c) then V (.ret false) else(qdV a_0 a b n 0).bind fun o=>match o with| .ret r=>V (.ret r)| .nxt _ =>qf8 a_0 n (W64 (a+1)) else V (.nxt a)
def qkI (n:Nat)(a_0:qF):Option Bool :=(qjQ n a_0).bind fun o=>match o with| (b,g) =>(bif (!g) then V true else(qgy n a_0.Bi).bind fun h =>bif (!h) then V true else bif decide ((a_0.Az.length:Int) > 8) then V true else(qaI n a_0.Cc 0 100000).bind fun i =>bif (!i) then V true else(qaI n a_0.Bz 0 100000).bind fun k =>V (!k)).bind fun b1 =>bif b1 then V false else(qf8 a_0 n 0).bind fun o=>match o with| .ret r=>V r| .nxt _ =>(qjh n a_0).bind fun a =>bif (a_0.Bf==1) then(qgf a_0 n 0).bind fun o=>match o with| .ret r=>V r| .nxt _ =>bif (b==0) then(shlS 1 (IntKind.wrap .u64 (W64 ((a_0.Bh.length:Int)-1)))).bind fun l =>V ((a_0.Bs.length:Int)==l) else V false else bif (a_0.Bf==2) then bif (b==1) then(idx a 1).bind fun m =>bif (m==0) then(idx a 2).bind fun p =>(idx a 3).bind fun s =>bif (!((decide (p > 0))==(decide (s > 0)))) then V ((a_0.Bs.length:Int)==0) else V false else V false else V false else bif (a_0.Bf==3) then bif (b==1) then(idx a 1).bind fun c =>bif decide (c > 0) then(idx a 2).bind fun d =>bif decide (d > 0) then(idx a 3).bind fun f =>bif (f==0) then V ((a_0.Bs.length:Int)==0) else V false else V false else V false else V false else V false
theorem qp0 {a_0:qF}(c:Ro w a_0 cs1){r:Bool}(F:qkI n a_0=V r):RetV prog 241 [oV qF cs1] w r:=by
 obtain⟨p1,O,R,P,S,Q,rfl,_,s2,s3⟩:=qaq c;refine zV 182 func241 Z fun h=>zSR (qB h Z Z fun _ a h=>X1 5 0 h Z ?_);obtain⟨⟨N,r3⟩,d3,F⟩:=qd F;refine qaF (N,r3) h (cB 268 Z) (qpr (h.old c) d3) Z Z Z Z fun _ _ _ e2 d4=>?_;obtain⟨_,_,rfl,e3,d5⟩:=e2.consI d4;obtain⟨rfl,h⟩:=e3.lastB d5;refine X0 8 Z ?_;obtain⟨T,p,_,F,b⟩:=bindE F;refine qaA (fun e w'=>∃ b1,T b1=V r∧e=[(1,vp a),(3,vi N),(40,.bool b1)]∧SH w w' [oX a (qI a_0 p1 R S O P Q) 184]) ?_ ?_
 ·refine X0 4 Z (qg (t:=17) F Z ?_ ?_)<;>intro F
  ·refine X0 24 Z ?_;obtain rfl:=qb F;exact rG ⟨_,b,rfl,h⟩ Z
  refine X1 5 0 h Z (zcB h F qh8 Z fun _ _ h F=>X0 4 Z (qg (t:=23) F Z ?_ ?_))<;>intro F
  ·refine X0 18 Z ?_;obtain rfl:=qb F;exact rG ⟨_,b,rfl,h⟩ Z
  refine X1 10 0 h Z (qg (t:=29) F Z ?_ ?_)<;>intro F
  ·refine X0 12 Z ?_;obtain rfl:=qb F;exact rG ⟨_,b,rfl,h⟩ Z
  refine X1 5 0 h Z (zcB h F qap Z fun _ _ h F=>X0 4 Z (qg (t:=35) F Z ?_ ?_))<;>intro F
  ·refine X0 6 Z ?_;obtain rfl:=qb F;exact rG ⟨_,b,rfl,h⟩ Z
  refine X1 5 0 h Z (zcB h F qap Z fun _ _ h F=>X0 4 Z ?_);obtain rfl:=qb F;exact rG ⟨_,b,rfl,h⟩ Z
 rintro _ _ ⟨b1,F,rfl,h⟩;subst p;refine qk Z F ?_ ?_<;>intro F
 ·exact X0 4 Z (rb h F Z)
 refine X0 6 Z ?_;obtain⟨o1,F,g⟩:=qd F;refine qn (rL (fun m e w'=>∃ M,qf8 a_0 m M=V o1∧e=[(1,vp a),(3,vi N),(5,vi M)]∧SH w w' [oX a (qI a_0 p1 R S O P Q) 184]) n ⟨_,F,rfl,h⟩ Z ?_);rintro m1 _ _ ⟨M,F,rfl,h⟩;rcases m1 with _|m1
 ·cases F
 refine X1 9 0 h Z (qk Z F ?_ ?_)<;>intro F
 ·refine X1 8 0 h Z ?_;obtain⟨y1,_,F,a4,_,_,_,_,a9,c3,d6,W⟩:=s2.ix F;obtain⟨p4,k4,p5,k5,rfl,s4,s5⟩:=qaE d6;refine zxe a9 c3 a4 Z (zc 0 (W.below h.below) Z (qi qa h Z Z Z fun _ k h=>zs 0 h Z fun _ h=>X2 6 1 0 h Z (zcB h F (qpU (h.old c) (qiP y1 (h.oldS s4) (h.oldS s5))) Z fun _ _ h F=>X0 2 Z (qk Z F ?_ ?_))))<;>intro F
  ·refine X0 4 Z ?_;obtain rfl:=qb F;replace F:=g;exact rb h F Z
  refine X0 5 Z ?_;obtain⟨o2,F,l⟩:=qd F;refine qn (rL (fun m e w'=>∃ i2,qdV a_0 M y1 m i2=V o2∧e=[(1,vp a),(3,vi N),(5,vi M),(6,vp k),(7,vi i2)]∧SH w w' [oX k (qei y1 p4 p5 k4 k5) 187,oX a (qI a_0 p1 R S O P Q) 184]) m1 ⟨_,F,rfl,h⟩ Z ?_);rintro m2 _ _ ⟨i2,F,rfl,h⟩;rcases m2 with _|m2
  ·cases F
  refine X0 7 Z (qk Z F ?_ ?_)<;>intro F
  ·refine X0 4 Z (rD (Y1 2 1 h Z ?_));refine zd1 Z ?_;obtain⟨_,_,F,a5,_,_,_,_,b4,c4,d7,X⟩:=s2.ix F;obtain⟨_,_,_,_,rfl,_,_⟩:=qaE d7;refine zdxe b4 c4 a5 Z (zd1 Z (zdc 0 (X.below h.below) Z (Y1 2 0 h Z ?_)));refine zd2 Z (qaG (t:=71) F Z ?_ ?_)<;>intro F
   ·refine Y1 4 1 h Z ?_;refine Y0 3 Z ?_;obtain⟨_,_,F,a6,_,_,_,_,b5,c5,d8,Y⟩:=s2.ix F;obtain⟨_,_,_,_,rfl,_,_⟩:=qaE d8;refine zdxe b5 c5 a6 Z (Y0 3 Z (zdc 1 (Y.below h.below) Z (Y1 4 0 h Z ?_)));refine Y0 4 Z (qaG (t:=82) F Z ?_ ?_)<;>intro F
    ·refine Y1 4 1 h Z ?_;refine Y0 3 Z ?_;obtain⟨_,_,F,a7,_,_,_,_,b6,c6,d9,a3⟩:=s2.ix F;obtain⟨_,_,_,_,rfl,_,_⟩:=qaE d9;refine zdxe b6 c6 a7 Z (Y0 3 Z (zdc 2 (a3.below h.below) Z (Y1 4 0 h Z ?_)));refine Y0 3 Z (dN h fun _ h=>qk Z F ?_ ?_)<;>intro F
     ·refine X0 4 Z ?_;obtain rfl:=qb F;replace F:=l;obtain rfl:=qb F;replace F:=g;exact rb h F Z
     exact X0 7 Z (rK ⟨_,F,rfl,h⟩ Z)
    exact Y0 10 Z (dN h fun _ h=>qbm Z Z (X0 7 Z (rK ⟨_,F,rfl,h⟩ Z)))
   exact Y0 21 Z (dN h fun _ h=>qbm Z Z (X0 7 Z (rK ⟨_,F,rfl,h⟩ Z)))
  refine qv Z ?_;obtain rfl:=qb F;replace F:=l;refine X0 6 Z ?_;replace h:=h.p [1] Z;exact rK ⟨_,F,rfl,h⟩ Z
 refine qv Z ?_;obtain rfl:=qb F;replace F:=g;refine X1 3 0 h Z (zcL h F (qoW (h.old c)) Z fun _ _ _ _ _ h F=>X1 14 1 h Z (qk Z F ?_ ?_))<;>intro F
 ·refine X0 5 Z ?_;obtain⟨o3,F,o⟩:=qd F;refine qn ?_;replace h:=h.p [1] Z;refine rL (fun m e w'=>∃ i3,qgf a_0 m i3=V o3∧e=[(1,vp a),(3,vi N),(9,vi i3)]∧SH w w' [oX a (qI a_0 p1 R S O P Q) 184]) n ⟨_,F,rfl,h⟩ Z ?_;rintro m3 _ _ ⟨i3,F,rfl,h⟩;rcases m3 with _|m3
  ·cases F
  refine X1 9 0 h Z (qk Z F ?_ ?_)<;>intro F
  ·refine X1 8 0 h Z ?_;obtain⟨_,_,F,a8,_,_,_,_,b7,c7,rfl,s⟩:=s3.ix F;refine zxe b7 c7 a8 Z (zc 0 (s.below h.below) Z (zcB h F qap Z fun _ _ h F=>X0 2 Z (qk Z F ?_ ?_)))<;>intro F
   ·refine X0 4 Z ?_;obtain rfl:=qb F;replace F:=o;exact rb h F Z
   exact X0 7 Z (rK ⟨_,F,rfl,h⟩ Z)
  refine qv Z ?_;obtain rfl:=qb F;replace F:=o;refine X0 5 Z (qg (t:=115) F Z ?_ ?_)<;>intro F
  ·refine X2 17 0 0 h Z ?_;obtain⟨_,i,F⟩:=qd F;obtain⟨g1,i⟩:=qoK i;refine r_v (quP g1 Z Z) Z ?_;rw[i];exact X0 5 Z (rb h F Z)
  exact X0 13 Z (rb h F Z)
 refine X0 5 Z (qk Z F ?_ ?_)<;>intro F
 ·refine qcq (rD (zd3 Z (qaG (t:=131) F Z ?_ ?_)))<;>intro F
  ·refine Y0 3 Z ?_;obtain⟨_,_,F,B,_,_,_,_,b8,c8,rfl,u⟩:=(h.sl 0 Z).1.ix F;refine zdx b8 c8 ⟨B.1,qE B.2.1 (h.sl 0 Z).2⟩ Z (Y0 1 Z (zdc 0 u Z (Y0 4 Z (qaG (t:=137) F Z ?_ ?_))))<;>intro F
   ·refine Y0 3 Z ?_;obtain⟨_,_,F,C,_,_,_,_,b9,c9,rfl,v⟩:=(h.sl 0 Z).1.ix F;refine zdx b9 c9 ⟨C.1,qE C.2.1 (h.sl 0 Z).2⟩ Z (Y0 1 Z (zdc 0 v Z (Y0 5 Z ?_)));obtain⟨_,_,F,D,_,_,_,_,c0,d0,rfl,x⟩:=(h.sl 0 Z).1.ix F;refine zdx c0 d0 ⟨D.1,qE D.2.1 (h.sl 0 Z).2⟩ Z (Y0 1 Z (zdc 0 x Z (Y0 6 Z (qaG (t:=148) F Z ?_ ?_))))<;>intro F
    ·refine Y1 4 1 h Z ?_;exact Y0 6 Z (dN h fun _ h=>rb h F Z)
    exact Y0 6 Z (dN h fun _ h=>rb h F Z)
   exact Y0 17 Z (dN h fun _ h=>rb h F Z)
  exact Y0 23 Z (dN h fun _ h=>rb h F Z)
 refine X0 5 Z (qk Z F ?_ ?_)<;>intro F
 ·refine X0 5 Z (qg (t:=158) F Z ?_ ?_)<;>intro F
  ·refine X0 3 Z ?_;obtain⟨_,_,F,H,_,_,_,_,c2,d1,rfl,y⟩:=(h.sl 0 Z).1.ix F;refine zx c2 d1 ⟨H.1,qE H.2.1 (h.sl 0 Z).2⟩ Z (X0 1 Z (zc 0 y Z (X0 4 Z (qg (t:=164) F Z ?_ ?_))))<;>intro F
   ·refine X0 3 Z ?_;obtain⟨_,_,F,d,_,_,_,_,I,K,rfl,z⟩:=(h.sl 0 Z).1.ix F;refine zx I K ⟨d.1,qE d.2.1 (h.sl 0 Z).2⟩ Z (X0 1 Z (zc 0 z Z (X0 4 Z (qg (t:=170) F Z ?_ ?_))))<;>intro F
    ·refine X0 3 Z ?_;obtain⟨_,_,F,f,_,_,_,_,J,L,rfl,A⟩:=(h.sl 0 Z).1.ix F;refine zx J L ⟨f.1,qE f.2.1 (h.sl 0 Z).2⟩ Z (X0 1 Z (zc 0 A Z (X0 4 Z (qg (t:=176) F Z ?_ ?_))))<;>intro F
     ·exact X1 11 1 h Z (rb h F Z)
     exact X0 7 Z (rb h F Z)
    exact X0 13 Z (rb h F Z)
   exact X0 19 Z (rb h F Z)
  exact X0 25 Z (rb h F Z)
 exact X0 6 Z (rb h F Z)
def qd6 (l:qw)(b:Int):Nat→Int→Option (Flow Bool Int)| 0,_=>U| n+1,a =>bif decide (a<b) then(idx l.As a).bind fun c =>(idx l.As b).bind fun d =>bif (c.Bi.toList==d.Bi.toList) then V (.ret false) else qd6 l b n (W64 (a+1)) else V (.nxt a)
def qd1 (l:qw):Nat→Int→Option (Flow Bool Int)| 0,_=>U| n+1,a =>bif decide (a<(l.As.length:Int)) then(idx l.As a).bind fun b =>(qkI n b).bind fun r1 =>bif (!r1) then V (.ret false) else(qd6 l a n 0).bind fun o=>match o with| .ret r=>V (.ret r)| .nxt _ =>qd1 l n (W64 (a+1)) else V (.nxt a)
def qiW (n:Nat)(l:qw):Option Bool :=(qd1 l n 0).bind fun o=>match o with| .ret r=>V r| .nxt _ =>V (decide ((l.As.length:Int)≤8))
theorem qn8 {l:qw}(f:Ro w l cs1){r:Bool}(F:qiW n l=V r):RetV prog 187 [oV qw cs1] w r:=by
 obtain⟨p1,I,rfl,s1⟩:=qcX f;refine zV 41 func187 Z fun h=>zSR (qB h Z Z fun _ a h=>X0 7 Z ?_);obtain⟨o1,F,b⟩:=qd F;refine qn (rL (fun m e w'=>∃ d,qd1 l m d=V o1∧e=[(1,vp a),(3,vi d)]∧SH w w' [oX a [oS p1 l.As.length I] 26]) n ⟨_,F,rfl,h⟩ Z ?_);rintro H _ _ ⟨d,F,rfl,h⟩;rcases H with _|H
 ·cases F
 refine X1 9 0 h Z (qk Z F ?_ ?_)<;>intro F
 ·refine X1 9 0 h Z ?_;obtain⟨M,_,F,o,_,_,_,_,t,x,A,g⟩:=s1.ix F;obtain⟨_,_,_,_,_,_,rfl,s2,K,L⟩:=qaq A;refine zxe t x o Z (zc 0 (g.below h.below) Z (zcB h F (qp0 (qqJ M (h.oldS s2) (h.oldS K) (h.oldS L))) Z fun _ _ h F=>X0 2 Z (qk Z F ?_ ?_)))<;>intro F
  ·refine X0 4 Z ?_;obtain rfl:=qb F;replace F:=b;exact rb h F Z
  refine X0 5 Z ?_;obtain⟨o2,F,c⟩:=qd F;refine qn (rL (fun m e w'=>∃ D,qd6 l d m D=V o2∧e=[(1,vp a),(3,vi d),(4,vi D)]∧SH w w' [oX a [oS p1 l.As.length I] 26]) H ⟨_,F,rfl,h⟩ Z ?_);rintro J _ _ ⟨D,F,rfl,h⟩;rcases J with _|J
  ·cases F
  refine X0 7 Z (qk Z F ?_ ?_)<;>intro F
  ·refine X0 4 Z (rD (Y1 2 0 h Z ?_));refine zd1 Z ?_;obtain⟨_,_,F,p,_,_,_,_,u,y,B,i⟩:=s1.ix F;obtain⟨_,_,_,_,_,_,rfl,_,_,_⟩:=qaq B;refine zdxe u y p Z (zd1 Z (zdc 0 (i.below h.below) Z (Y1 2 0 h Z ?_)));refine zd1 Z ?_;obtain⟨_,_,F,s,_,_,_,_,v,z,C,k⟩:=s1.ix F;obtain⟨_,_,_,_,_,_,rfl,_,_,_⟩:=qaq C;refine zdxe v z s Z (zd1 Z (zdc 0 (k.below h.below) Z (zd1 Z (dN h fun _ h=>qk Z F ?_ ?_))))<;>intro F
   ·refine X0 4 Z ?_;obtain rfl:=qb F;replace F:=c;obtain rfl:=qb F;replace F:=b;exact rb h F Z
   exact X0 7 Z (rK ⟨_,F,rfl,h⟩ Z)
  refine qv Z ?_;obtain rfl:=qb F;replace F:=c;exact X0 6 Z (rK ⟨_,F,rfl,h⟩ Z)
 refine qv Z ?_;obtain rfl:=qb F;replace F:=b;exact X1 8 0 h Z (rb h F Z)
def qeN (a_1:qh)(b:qG):Nat→Int→Option (Flow Bool Int)| 0,_=>U| n+1,a =>bif decide (a<(b.Am.length:Int)) then(idx b.Am a).bind fun c =>(qaI n c 0 (W64 ((a_1.Am.length:Int)-1))).bind fun r1 =>bif (!r1) then V (.ret false) else qeN a_1 b n (W64 (a+1)) else V (.nxt a)
def qeI (a_1:qh):Nat→Int→Option (Flow Bool Int)| 0,_=>U| n+1,a =>bif decide (a<(a_1.Ai.length:Int)) then(idx a_1.Ai a).bind fun d =>(qaI n d.Bx 1 2).bind fun b =>bif (!b) then V (.ret false) else(idx a_1.Ai a).bind fun f =>(qaI n f.Cb 0 (W64 ((a_1.Am.length:Int)-1))).bind fun c =>bif (!c) then V (.ret false) else qeI a_1 n (W64 (a+1)) else V (.nxt a)
def qeL (a_0:qw)(a_1:qh):Nat→Int→Option (Flow Bool Int)| 0,_=>U| n+1,a =>bif decide (a<(a_1.Ab.length:Int)) then(idx a_1.Ab a).bind fun b =>((qaI n b.Bv 0 (W64 ((a_0.As.length:Int)-1))).bind fun c =>bif (!c) then V true else(idx a_0.As b.Bv).bind fun d =>V ((b.Am.length:Int) != (d.Bh.length:Int))).bind fun b2 =>bif b2 then V (.ret false) else(qeN a_1 b n 0).bind fun o=>match o with| .ret r=>V (.ret r)| .nxt _ =>qeL a_0 a_1 n (W64 (a+1)) else V (.nxt a)
def qjk (n:Nat)(a_0:qw)(a_1:qh):Option Bool :=(qeL a_0 a_1 n 0).bind fun o=>match o with| .ret r=>V r| .nxt _ =>(qeI a_1 n 0).bind fun o=>match o with| .ret r=>V r| .nxt _ =>V true
theorem qoS {a_0:qw}{a_1:qh}(A:Ro w a_0 cs1)(B:Ro w a_1 cs2){r:Bool}(F:qjk n a_0 a_1=V r):RetV prog 188 [oV qw cs1,oV qh cs2] w r:=by
 obtain⟨p1,k1,rfl,s1⟩:=qcX A;obtain⟨v,p,x,s,y,u,rfl,s2,_,s4⟩:=qaY B;refine zV 90 func188 Z fun h=>zSR (qB h Z Z fun _ b h=>qB h Z Z fun _ a h=>X1 14 0 h Z ?_);obtain⟨o1,F,d⟩:=qd F;refine qn (rL (fun m e w'=>∃ o,qeL a_0 a_1 m o=V o1∧e=[(2,vp b),(3,vp a),(5,vi (a_1.Am.length:Int)),(6,vi o)]∧SH w w' [oX a (qaw a_1 v x y p s u) 31,oX b [oS p1 a_0.As.length k1] 26]) n ⟨_,F,rfl,h⟩ Z ?_);rintro m1 _ _ ⟨o,F,rfl,h⟩;rcases m1 with _|m1
 ·cases F
 refine X1 9 0 h Z (qk Z F ?_ ?_)<;>intro F
 ·refine X1 8 0 h Z ?_;obtain⟨y1,_,F,J,_,_,_,_,O,T,a4,C⟩:=s2.ix F;obtain⟨p5,k5,rfl,s5⟩:=qaL a4;refine zxe O T J Z (zc 0 (C.below h.below) Z (qi qa h Z Z Z fun _ c h=>zs 0 h Z fun _ h=>zNSS ?_));obtain⟨z,k,_,F,i⟩:=bindE F;refine qaA (fun e w'=>∃ b2,z b2=V o1∧e=[(2,vp b),(3,vp a),(5,vi (a_1.Am.length:Int)),(6,vi o),(7,vp c),(46,.bool b2)]∧SH w w' [oX c (qjw y1 p5 k5) 102,oX a (qaw a_1 v x y p s u) 31,oX b [oS p1 a_0.As.length k1] 26]) ?_ ?_
  ·refine rD (Y1 2 0 h Z ?_);refine Y1 2 2 h Z ?_;refine zd2 Z ?_;obtain⟨r2,a5,F⟩:=qd F;refine qb7 r2 (vsB _) (cB 66 Z) (fun _ hb=>qap  a5) Z Z Z Z (zd2 Z (qaG (t:=33) F Z ?_ ?_))<;>intro F
   ·refine Y0 13 Z (dN h fun _ h=>?_);obtain rfl:=qb F;exact rG ⟨_,i,rfl,h⟩ Z
   refine Y1 4 0 h Z ?_;refine Y1 6 2 h Z ?_;refine Y1 4 0 h Z ?_;refine Y0 1 Z ?_;obtain⟨_,_,F,L,_,_,_,_,Q,X,a6,H⟩:=s1.ix F;obtain⟨_,_,_,_,_,_,rfl,_,_,_⟩:=qaq a6;refine zdxe Q X L Z (Y0 3 Z (zdc 2 (H.below h.below) Z (Y0 5 Z (dN h fun _ h=>?_))));obtain rfl:=qb F;exact rG ⟨_,i,rfl,h⟩ Z
  rintro _ _ ⟨b2,F,rfl,h⟩;subst k;refine qk Z F ?_ ?_<;>intro F
  ·refine X0 4 Z ?_;obtain rfl:=qb F;replace F:=d;exact rb h F Z
  refine X0 5 Z ?_;obtain⟨o2,F,g⟩:=qd F;refine qn (rL (fun m e w'=>∃ i2,qeN a_1 y1 m i2=V o2∧e=[(2,vp b),(3,vp a),(5,vi (a_1.Am.length:Int)),(6,vi o),(7,vp c),(8,vi i2)]∧SH w w' [oX c (qjw y1 p5 k5) 102,oX a (qaw a_1 v x y p s u) 31,oX b [oS p1 a_0.As.length k1] 26]) m1 ⟨_,F,rfl,h⟩ Z ?_);rintro m2 _ _ ⟨i2,F,rfl,h⟩;rcases m2 with _|m2
  ·cases F
  refine X1 9 0 h Z (qk Z F ?_ ?_)<;>intro F
  ·refine X1 8 0 h Z ?_;obtain⟨_,_,F,K,_,_,_,_,P,W,rfl,D⟩:=s5.ix F;refine zxe P W K Z (zc 0 (D.below h.below) Z (zp2 Z (zcB h F qap Z fun _ _ h F=>X0 2 Z (qk Z F ?_ ?_))))<;>intro F
   ·refine X0 4 Z ?_;obtain rfl:=qb F;replace F:=g;obtain rfl:=qb F;replace F:=d;exact rb h F Z
   exact X0 7 Z (rK ⟨_,F,rfl,h⟩ Z)
  refine qv Z ?_;obtain rfl:=qb F;replace F:=g;refine X0 6 Z ?_;replace h:=h.p [1,2] Z;exact rK ⟨_,F,rfl,h⟩ Z
 refine qv Z ?_;obtain rfl:=qb F;replace F:=d;refine X0 5 Z ?_;obtain⟨o4,F,f⟩:=qd F;refine qn ?_;replace h:=h.p [0] Z;refine rL (fun m e w'=>∃ i3,qeI a_1 m i3=V o4∧e=[(3,vp a),(5,vi (a_1.Am.length:Int)),(9,vi i3)]∧SH w w' [oX a (qaw a_1 v x y p s u) 31]) n ⟨_,F,rfl,h⟩ Z ?_;rintro m3 _ _ ⟨i3,F,rfl,h⟩;rcases m3 with _|m3
 ·cases F
 refine X1 9 0 h Z (qk Z F ?_ ?_)<;>intro F
 ·refine X1 8 0 h Z ?_;obtain⟨_,_,F,M,_,_,_,_,R,Y,a7,I⟩:=s4.ix F;obtain rfl:=qe7 a7;refine zxe R Y M Z (zp1 Z (zc 1 (I.below h.below) Z (zcB h F qap Z fun _ _ h F=>zp2 Z (qg (t:=78) F Z ?_ ?_))))<;>intro F
  ·refine X0 12 Z (qb2 Z Z (X0 4 Z ?_));obtain rfl:=qb F;replace F:=f;exact rb h F Z
  refine X1 7 0 h Z ?_;obtain⟨_,_,F,N,_,_,_,_,S,a3,a8,l⟩:=s4.ix F;obtain rfl:=qe7 a8;refine zxe S a3 N Z (X0 3 Z (zc 2 (l.below h.below) Z (X0 5 Z (zcB h F qap Z fun _ _ h F=>X0 4 Z (qk Z F ?_ ?_)))))<;>intro F
  ·refine X0 4 Z ?_;obtain rfl:=qb F;replace F:=f;exact rb h F Z
  exact X0 7 Z (rK ⟨_,F,rfl,h⟩ Z)
 refine qv Z ?_;obtain rfl:=qb F;replace F:=f;exact X0 4 Z (rb h F Z)
def qeU (list:(List ByteArray))(b:Int):Nat→Int→Option (Flow Bool Int)| 0,_=>U| n+1,a =>bif decide (a<b) then(idx list a).bind fun c =>(idx list b).bind fun d =>bif (c.toList==d.toList) then V (.ret false) else qeU list b n (W64 (a+1)) else V (.nxt a)
def qeX (list:(List ByteArray)):Nat→Int→Option (Flow Bool Int)| 0,_=>U| n+1,a =>bif decide (a<(list.length:Int)) then(idx list a).bind fun b =>(qgy n b).bind fun r1 =>bif (!r1) then V (.ret false) else(qeU list a n 0).bind fun o=>match o with| .ret r=>V (.ret r)| .nxt _ =>qeX list n (W64 (a+1)) else V (.nxt a)
def qgK (n:Nat)(list:(List ByteArray)):Option Bool :=(qeX list n 0).bind fun o=>match o with| .ret r=>V r| .nxt _ =>V true
theorem qi4 {list:(List ByteArray)}(d:Ro w list cs1){r:Bool}(F:qgK n list=V r):RetV prog 189 [oV (List ByteArray) cs1] w r:=by
 obtain⟨p1,A,rfl,s1⟩:=d;refine zV 31 func189 Z fun h=>X0 9 Z ?_;obtain⟨o1,F,a⟩:=qd F;refine qn (rL (fun m e w'=>∃ c,qeX list m c=V o1∧e=[(0,oS p1 list.length A),(3,vi c)]∧SH w w' []) n ⟨_,F,rfl,h⟩ Z ?_);rintro z _ _ ⟨c,F,rfl,h⟩;rcases z with _|z
 ·cases F
 refine X0 8 Z (qk Z F ?_ ?_)<;>intro F
 ·refine X0 8 Z ?_;obtain⟨_,_,F,k,_,_,_,_,p,u,rfl,f⟩:=s1.ix F;refine zxe p u k Z (zc 0 (f.below h.below) Z (zcB h F qh8 Z fun _ _ h F=>X0 2 Z (qk Z F ?_ ?_)))<;>intro F
  ·refine X0 4 Z ?_;obtain rfl:=qb F;replace F:=a;exact rb h F Z
  refine X0 5 Z ?_;obtain⟨o2,F,b⟩:=qd F;refine qn (rL (fun m e w'=>∃ y,qeU list c m y=V o2∧e=[(0,oS p1 list.length A),(3,vi c),(4,vi y)]∧SH w w' []) z ⟨_,F,rfl,h⟩ Z ?_);rintro B _ _ ⟨y,F,rfl,h⟩;rcases B with _|B
  ·cases F
  refine X0 7 Z (qk Z F ?_ ?_)<;>intro F
  ·refine X0 4 Z (rD (zd2 Z ?_));obtain⟨_,_,F,l,_,_,_,_,s,v,rfl,g⟩:=s1.ix F;refine zdxe s v l Z (zdc 0 (g.below h.below) Z (zd2 Z ?_));obtain⟨_,_,F,o,_,_,_,_,t,x,rfl,i⟩:=s1.ix F;refine zdxe t x o Z (zdc 0 (i.below h.below) Z (zd1 Z (dN h fun _ h=>qk Z F ?_ ?_)))<;>intro F
   ·refine X0 4 Z ?_;obtain rfl:=qb F;replace F:=b;obtain rfl:=qb F;replace F:=a;exact rb h F Z
   exact X0 7 Z (rK ⟨_,F,rfl,h⟩ Z)
  refine qv Z ?_;obtain rfl:=qb F;replace F:=b;exact X0 6 Z (rK ⟨_,F,rfl,h⟩ Z)
 refine qv Z ?_;obtain rfl:=qb F;replace F:=a;exact X0 4 Z (rb h F Z)
def qeV (c:(List Int))(d:(List Int)):Nat→Int→Option (Flow Bool Int)| 0,_=>U| n+1,a =>bif decide (a<(c.length:Int)) then(idx d a).bind fun b =>bif (b != 1) then V (.ret false) else qeV c d n (W64 (a+1)) else V (.nxt a)
def qcS (a_1:qh):Nat→(List Int)→Int→Option ((List Int)×Int)| 0,_,_=>U| n+1,b,a =>bif decide (a<(a_1.Ai.length:Int)) then(idx a_1.Ai a).bind fun d =>bif (d.Bx==1) then(idx a_1.Ai a).bind fun c =>(idx b c.Cb).bind fun f =>(idx b c.Cb).bind fun _ =>qcS a_1 n (setS b c.Cb (W64 (f+1))) (W64 (a+1)) else qcS a_1 n b (W64 (a+1)) else V (b,a)
def qdz (a_1:qh):Nat→(List Int)→Int→Option ((List Int)×Int)| 0,_,_=>U| n+1,b,a =>bif decide (a<(a_1.Ab.length:Int)) then(idx a_1.Ab a).bind fun d =>(idx d.Am (W64 ((d.Am.length:Int)-1))).bind fun c =>(idx b c).bind fun f =>(idx b c).bind fun _ =>qdz a_1 n (setS b c (W64 (f+1))) (W64 (a+1)) else V (b,a)
def qdK (a_1:qh):Nat→(List ByteArray)→Int→Option ((List ByteArray)×Int)| 0,_,_=>U| n+1,b,a =>bif decide (a<(a_1.Ai.length:Int)) then(idx a_1.Ai a).bind fun d =>(appS b ([d.Bi]:List ByteArray)).bind fun c =>qdK a_1 n c (W64 (a+1)) else V (b,a)
def qdC (a_1:qh):Nat→(List ByteArray)→Int→Option ((List ByteArray)×Int)| 0,_,_=>U| n+1,b,a =>bif decide (a<(a_1.Ab.length:Int)) then(idx a_1.Ab a).bind fun d =>(appS b ([d.Bi]:List ByteArray)).bind fun c =>qdC a_1 n c (W64 (a+1)) else V (b,a)
def qjo (n:Nat)(a_0:qw)(a_1:qh):Option Bool :=((qiW n a_0).bind fun f =>bif (!f) then V true else bif decide ((a_1.Ab.length:Int) > 14) then V true else bif decide ((a_1.Am.length:Int) > 30) then V true else bif decide ((a_1.Ai.length:Int) > 8) then V true else(qjk n a_0 a_1).bind fun g =>V (!g)).bind fun b1 =>bif b1 then V false else(qdC a_1 n ([]:List ByteArray) 0).bind fun o=>match o with| (h,_) =>(qdK a_1 n ([]:List ByteArray) 0).bind fun o=>match o with| (i,_) =>((qgK n h).bind fun r1 =>bif (!r1) then V true else(qgK n i).bind fun c =>bif (!c) then V true else(qgK n a_1.Am).bind fun d =>V (!d)).bind fun b =>bif b then V false else(mkS (a_1.Am.length:Int) (0:Int)).bind fun a =>(qdz a_1 n a 0).bind fun o=>match o with| (k,_) =>(qcS a_1 n k 0).bind fun o=>match o with| (l,_) =>(qeV a l n 0).bind fun o=>match o with| .ret r=>V r| .nxt _ =>V true
theorem qoX {a_0:qw}{a_1:qh}(o:Ro w a_0 cs1)(M:Ro w a_1 cs2){r:Bool}(F:qjo n a_0 a_1=V r):RetV prog 120 [oV qw cs1,oV qh cs2] w r:=by
 obtain⟨_,_,rfl,_⟩:=qcX o;obtain⟨C,z,D,A,H,B,rfl,s2,s3,s4⟩:=qaY M;refine zV 153 func120 Z fun h=>zSR (qB h Z Z fun _ _ h=>qB h Z Z fun _ a h=>X0 4 Z ?_);obtain⟨KF2,L,_,F,d⟩:=bindE F;refine qaA (fun e w'=>∃ b1,KF2 b1=V r∧e=[(3,vp a),(40,.bool b1)]∧SH w w' [oX a (qaw a_1 C D H z A B) 31]) ?_ ?_
 ·refine X1 2 1 h Z (zcB h F (qn8 (h.old o)) Z fun _ _ h F=>zp2 Z (qg (t:=17) F Z ?_ ?_))<;>intro F
  ·refine X0 24 Z ?_;replace h:=h.p [0] Z;obtain rfl:=qb F;exact rG ⟨_,d,rfl,h⟩ Z
  refine X1 10 0 h Z (qg (t:=23) F Z ?_ ?_)<;>intro F
  ·refine X0 18 Z ?_;replace h:=h.p [0] Z;obtain rfl:=qb F;exact rG ⟨_,d,rfl,h⟩ Z
  refine X1 10 0 h Z (qg (t:=29) F Z ?_ ?_)<;>intro F
  ·refine X0 12 Z ?_;replace h:=h.p [0] Z;obtain rfl:=qb F;exact rG ⟨_,d,rfl,h⟩ Z
  refine X1 10 0 h Z (qg (t:=35) F Z ?_ ?_)<;>intro F
  ·refine X0 6 Z ?_;replace h:=h.p [0] Z;obtain rfl:=qb F;exact rG ⟨_,d,rfl,h⟩ Z
  refine X2 5 1 0 h Z (zcB h F (qoS (h.old o) (h.old M)) Z fun _ _ h F=>X0 4 Z ?_);replace h:=h.p [0] Z;obtain rfl:=qb F;exact rG ⟨_,d,rfl,h⟩ Z
 rintro _ _ ⟨b1,F,rfl,h⟩;subst L;refine qk Z F ?_ ?_<;>intro F
 ·exact X0 4 Z (rb h F Z)
 refine zKSR (qm qa [] _ ([]:List ByteArray) h Z Z Z Z Z Z Z Z Z trivial Z fun _ _ _ h=>X0 7 Z ?_);obtain⟨o1,F,hK1⟩:=qd F;refine qn (rL (fun m e w'=>∃ S2 p6 v k5 I i1,qdC a_1 m I i1=V o1∧e=[(3,vp a),(5,oS p6 v k5),(6,vi i1)]∧SH w w' [oW S2 (I:List ByteArray) [oS p6 v k5],oX a (qaw a_1 C D H z A B) 31]) n ⟨_,_,_,_,_,_,F,rfl,h⟩ Z ?_);rintro m1 _ _ ⟨S2,p6,v,k5,I,i1,F,rfl,h⟩;obtain rfl:=(h.sl 0 Z).2;rcases m1 with _|m1
 ·cases F
 refine X1 9 1 h Z (qk Z F ?_ ?_)<;>intro F
 ·refine X1 8 1 h Z ?_;obtain⟨y1,_,F,he1,_,_,_,_,hp1,hq1,hr1,hc3⟩:=s2.ix F;obtain⟨_,_,rfl,_⟩:=qaL hr1;refine zxe hp1 hq1 he1 Z (zp1 Z (zc 0 (hc3.below h.below) Z (qm qa [.tmp 55] _ ([y1.Bi]:List ByteArray) h Z Z Z Z Z Z Z Z Z ⟨rfl,trivial⟩ Z fun _ _ _ h=>?_)));obtain⟨_,p,F⟩:=qd F;obtain⟨g1,p⟩:=qC p;refine qaz qa 1 h Z (h.sl 0 Z).1 (h.sl 0 Z).2 Z Z Z Z Z Z Z Z Z g1 p Z fun _ _ _ _ h=>X0 8 Z ?_;replace h:=h.p [1,2] Z;exact rK ⟨_,_,_,_,_,_,F,rfl,h⟩ Z
 refine qv Z ?_;obtain rfl:=qb F;replace F:=hK1;refine zSR (qm qa [] _ ([]:List ByteArray) h Z Z Z Z Z Z Z Z Z trivial Z fun _ _ _ h=>X0 7 Z ?_);obtain⟨o2,F,hK2⟩:=qd F;refine qn (rL (fun m e w'=>∃ S6 y x k8 x3 i2,qdK a_1 m x3 i2=V o2∧e=[(3,vp a),(5,oS p6 I.length k5),(7,oS y x k8),(8,vi i2)]∧SH w w' [oW S6 (x3:List ByteArray) [oS y x k8],oW S2 (I:List ByteArray) [oS p6 I.length k5],oX a (qaw a_1 C D H z A B) 31]) n ⟨_,_,_,_,_,_,F,rfl,h⟩ Z ?_);rintro m2 _ _ ⟨S6,y,x,k8,x3,i2,F,rfl,h⟩;obtain rfl:=(h.sl 0 Z).2;rcases m2 with _|m2
 ·cases F
 refine X1 9 2 h Z (qk Z F ?_ ?_)<;>intro F
 ·refine X1 8 2 h Z ?_;obtain⟨y2,_,F,he2,_,_,_,_,hp2,hq2,hr2,hc5⟩:=s4.ix F;obtain rfl:=qe7 hr2;refine zxe hp2 hq2 he2 Z (zp1 Z (zc 0 (hc5.below h.below) Z (qm qa [.tmp 72] _ ([y2.Bi]:List ByteArray) h Z Z Z Z Z Z Z Z Z ⟨rfl,trivial⟩ Z fun _ _ _ h=>?_)));obtain⟨_,s,F⟩:=qd F;obtain⟨g2,s⟩:=qC s;refine qaz qa 1 h Z (h.sl 0 Z).1 (h.sl 0 Z).2 Z Z Z Z Z Z Z Z Z g2 s Z fun _ _ _ _ h=>X0 8 Z ?_;replace h:=h.p [1,2,3] Z;exact rK ⟨_,_,_,_,_,_,F,rfl,h⟩ Z
 refine qv Z ?_;obtain rfl:=qb F;replace F:=hK2;refine zSS ?_;obtain⟨KF1,K,_,F,l⟩:=bindE F;refine qaA (fun e w'=>∃ b4,KF1 b4=V r∧e=[(3,vp a),(88,.bool b4)]∧SH w w' [oX a (qaw a_1 C D H z A B) 31]) ?_ ?_
 ·refine X0 2 Z (zcB h F (qi4 (h.own 1 Z)) Z fun _ _ h F=>zp2 Z (qg (t:=78) F Z ?_ ?_))<;>intro F
  ·refine X0 11 Z ?_;replace h:=h.p [2] Z;obtain rfl:=qb F;exact rG ⟨_,l,rfl,h⟩ Z
  refine X0 3 Z (zcB h F (qi4 (h.own 0 Z)) Z fun _ _ h F=>X0 4 Z (qg (t:=83) F Z ?_ ?_))<;>intro F
  ·refine X0 6 Z ?_;replace h:=h.p [2] Z;obtain rfl:=qb F;exact rG ⟨_,l,rfl,h⟩ Z
  refine X1 5 2 h Z (zcB h F (qi4 ⟨_,_,rfl,(h.oldS s3)⟩) Z fun _ _ h F=>X0 4 Z ?_);replace h:=h.p [2] Z;obtain rfl:=qb F;exact rG ⟨_,l,rfl,h⟩ Z
 rintro _ _ ⟨b4,F,rfl,h⟩;subst K;refine qk Z F ?_ ?_<;>intro F
 ·exact X0 4 Z (rb h F Z)
 refine X1 6 0 h Z ?_;obtain⟨c,u,F⟩:=qd F;obtain⟨g3,g4,u⟩:=qar u;refine qaM qa Int h Z Z Z Z Z Z Z Z Z g3 g4 u Z fun _ S9 b h=>X0 7 Z ?_;obtain⟨o3,F,hK3⟩:=qd F;refine qn (rL (fun m e w'=>∃ x6 i3,qdz a_1 m x6 i3=V o3∧e=[(3,vp a),(9,oS b c.length c.length),(10,vi i3)]∧SH w w' [oW S9 (x6:List Int) [oS b c.length c.length],oX a (qaw a_1 C D H z A B) 31]) n ⟨_,_,F,rfl,h⟩ Z ?_);rintro m3 _ _ ⟨x6,i3,F,rfl,h⟩;rcases m3 with _|m3
 ·cases F
 refine X1 9 1 h Z (qk Z F ?_ ?_)<;>intro F
 ·refine X1 8 1 h Z ?_;obtain⟨_,_,F,he3,_,_,_,_,hp3,hq3,hr3,hc8⟩:=s2.ix F;obtain⟨_,_,rfl,s6⟩:=qaL hr3;refine zxe hp3 hq3 he3 Z (zp1 Z (zc 2 (hc8.below h.below) Z (X0 8 Z ?_)));obtain⟨_,_,F,he4,_,_,_,_,hp4,hq4,rfl,hc9⟩:=s6.ix F;refine zxe hp4 hq4 he4 Z (zc 0 (hc9.below h.below) Z ?_);obtain⟨y5,_,F,W,_,_,_,_,hp5,hq5,rfl,N⟩:=(h.sl 0 Z).1.ix F;refine zx hp5 hq5 ⟨W.1,qE W.2.1 (h.sl 0 Z).2⟩ Z (zc 0 N Z (zp1 Z ?_));obtain⟨_,hy6,F,X,_,_,_,_,a4,a6,rfl,O⟩:=(h.sl 0 Z).1.ix F;exact zx a4 a6 ⟨X.1,qE X.2.1 (h.sl 0 Z).2⟩ Z (qaU qa 0 0 (W64 (y5+1)) h Z hy6 a4 a6 Z O Z Z Z Z Z Z Z fun _ h=>X0 7 Z (rK ⟨_,_,F,rfl,h⟩ Z))
 refine qv Z ?_;obtain rfl:=qb F;replace F:=hK3;refine X0 5 Z ?_;obtain⟨o4,F,hK4⟩:=qd F;refine qn (rL (fun m e w'=>∃ x7 i4,qcS a_1 m x7 i4=V o4∧e=[(3,vp a),(9,oS b c.length c.length),(12,vi i4)]∧SH w w' [oW S9 (x7:List Int) [oS b c.length c.length],oX a (qaw a_1 C D H z A B) 31]) n ⟨_,_,F,rfl,h⟩ Z ?_);rintro m4 _ _ ⟨x7,i4,F,rfl,h⟩;rcases m4 with _|m4
 ·cases F
 refine X1 9 1 h Z (qk Z F ?_ ?_)<;>intro F
 ·refine X1 8 1 h Z ?_;obtain⟨_,_,F,he7,_,_,_,_,hp7,hq7,hr7,P⟩:=s4.ix F;obtain rfl:=qe7 hr7;refine zxe hp7 hq7 he7 Z (zp1 Z (zc 1 (P.below h.below) Z (X0 2 Z (qk Z F ?_ ?_))))<;>intro F
  ·refine X1 5 1 h Z ?_;obtain⟨_,_,F,he8,_,_,_,_,hp8,hq8,hr8,Q⟩:=s4.ix F;obtain rfl:=qe7 hr8;refine zxe hp8 hq8 he8 Z (zp1 Z (zc 2 (Q.below h.below) Z ?_));obtain⟨y9,_,F,Y,_,_,_,_,hp9,hq9,rfl,R⟩:=(h.sl 0 Z).1.ix F;refine zx hp9 hq9 ⟨Y.1,qE Y.2.1 (h.sl 0 Z).2⟩ Z (zc 0 R Z (zp1 Z ?_));obtain⟨_,a7,F,f,_,_,_,_,i,k,rfl,S⟩:=(h.sl 0 Z).1.ix F;exact zx i k ⟨f.1,qE f.2.1 (h.sl 0 Z).2⟩ Z (qaU qa 0 0 (W64 (y9+1)) h Z a7 i k Z S Z Z Z Z Z Z Z fun _ h=>X0 7 Z (rK ⟨_,_,F,rfl,h⟩ Z))
  exact X0 7 Z (rK ⟨_,_,F,rfl,h⟩ Z)
 refine qv Z ?_;obtain rfl:=qb F;replace F:=hK4;refine X0 5 Z ?_;obtain⟨o5,F,J⟩:=qd F;refine qn ?_;replace h:=h.p [0] Z;refine rL (fun m e w'=>∃ i5,qeV c x7 m i5=V o5∧e=[(9,oS b c.length c.length),(13,vi i5)]∧SH w w' [oW S9 (x7:List Int) [oS b c.length c.length]]) n ⟨_,F,rfl,h⟩ Z ?_;rintro m5 _ _ ⟨i5,F,rfl,h⟩;rcases m5 with _|m5
 ·cases F
 refine X0 8 Z (qk Z F ?_ ?_)<;>intro F
 ·refine X0 7 Z ?_;obtain⟨_,_,F,g,_,_,_,_,a3,a5,rfl,T⟩:=(h.sl 0 Z).1.ix F;refine zx a3 a5 ⟨g.1,qE g.2.1 (h.sl 0 Z).2⟩ Z (zc 0 T Z (X0 2 Z (qk Z F ?_ ?_)))<;>intro F
  ·refine X0 4 Z ?_;obtain rfl:=qb F;replace F:=J;exact rb h F Z
  exact X0 7 Z (rK ⟨_,F,rfl,h⟩ Z)
 refine qv Z ?_;obtain rfl:=qb F;replace F:=J;exact X0 4 Z (rb h F Z)
def qga (a_0:qam):Nat→Int→Option (Flow Bool Int)| 0,_=>U| n+1,a =>bif decide (a<(a_0.Bl.length:Int)) then(idx a_0.Bl a).bind fun c =>(qaI n c 0 (W64 ((a_0.Ak.length:Int)-1))).bind fun b =>bif (!b) then V (.ret false) else qga a_0 n (W64 (a+1)) else V (.nxt a)
def qc4 (a_0:qam):Nat→Int→Option (Flow Bool Int)| 0,_=>U| n+1,a =>bif decide (a<(a_0.Ak.length:Int)) then((idx a_0.Br a).bind fun k =>(qaI n k 0 500).bind fun c =>bif (!c) then V true else(idx a_0.Bw a).bind fun l =>(qaI n l 0 1000).bind fun d =>V (!d)).bind fun b2 =>bif b2 then V (.ret false) else bif (a==0) then(idx a_0.Ak a).bind fun f =>bif (f != (-1)) then V (.ret false) else(idx a_0.Bw a).bind fun g =>bif (g != 0) then V (.ret false) else bif decide (a > 0) then(idx a_0.Ak a).bind fun h =>(qaI n h 0 (W64 (a-1))).bind fun r1 =>bif (!r1) then V (.ret false) else qc4 a_0 n (W64 (a+1)) else qc4 a_0 n (W64 (a+1)) else bif decide (a > 0) then(idx a_0.Ak a).bind fun i =>(qaI n i 0 (W64 (a-1))).bind fun b =>bif (!b) then V (.ret false) else qc4 a_0 n (W64 (a+1)) else qc4 a_0 n (W64 (a+1)) else V (.nxt a)
def qk1 (n:Nat)(a_0:qam)(a_1:Int):Option Bool :=(bif decide ((a_0.Ak.length:Int)<1) then V true else bif decide ((a_0.Ak.length:Int) > 8) then V true else bif ((a_0.Bw.length:Int) != (a_0.Ak.length:Int)) then V true else bif ((a_0.Br.length:Int) != (a_0.Ak.length:Int)) then V true else V ((a_0.Bl.length:Int) != a_1)).bind fun b1 =>bif b1 then V false else(qc4 a_0 n 0).bind fun o=>match o with| .ret r=>V r| .nxt _ =>(qga a_0 n 0).bind fun o=>match o with| .ret r=>V r| .nxt _ =>V true
theorem qqm {a_0:qam}{a_1}(D:Ro w a_0 cs1){r:Bool}(F:qk1 n a_0 a_1=V r):RetV prog 121 [oV qam cs1,vi a_1] w r:=by
 obtain⟨p1,s,y,u,z,v,A,x,rfl,s1,s2,s3,s4⟩:=qbL D;refine zV 108 func121 Z fun h=>zSR (qB h Z Z fun _ a h=>X1 11 0 h Z ?_);obtain⟨C,i,_,F,c⟩:=bindE F;refine qaA (fun e w'=>∃ b1,C b1=V r∧e=[(2,vp a),(5,vi (a_0.Ak.length:Int)),(37,.bool b1)]∧SH w w' [oX a (qgr a_0 p1 y z A s u v x) 196]) ?_ ?_
 ·refine X0 4 Z (qg (t:=13) F Z ?_ ?_)<;>intro F
  ·refine X0 25 Z ?_;obtain rfl:=qb F;exact rG ⟨_,c,rfl,h⟩ Z
  refine X0 6 Z (qg (t:=17) F Z ?_ ?_)<;>intro F
  ·refine X0 21 Z ?_;obtain rfl:=qb F;exact rG ⟨_,c,rfl,h⟩ Z
  refine X1 12 0 h Z (qg (t:=24) F Z ?_ ?_)<;>intro F
  ·refine X0 14 Z ?_;obtain rfl:=qb F;exact rG ⟨_,c,rfl,h⟩ Z
  refine X1 12 0 h Z (qg (t:=31) F Z ?_ ?_)<;>intro F
  ·refine X0 7 Z ?_;obtain rfl:=qb F;exact rG ⟨_,c,rfl,h⟩ Z
  refine X1 12 0 h Z ?_;obtain rfl:=qb F;exact rG ⟨_,c,rfl,h⟩ Z
 rintro _ _ ⟨b1,F,rfl,h⟩;subst i;refine qk Z F ?_ ?_<;>intro F
 ·exact X0 4 Z (rb h F Z)
 refine X0 6 Z ?_;obtain⟨o1,F,b⟩:=qd F;refine qn (rL (fun m e w'=>∃ p,qc4 a_0 m p=V o1∧e=[(2,vp a),(5,vi (a_0.Ak.length:Int)),(6,vi p)]∧SH w w' [oX a (qgr a_0 p1 y z A s u v x) 196]) n ⟨_,F,rfl,h⟩ Z ?_);rintro m1 _ _ ⟨p,F,rfl,h⟩;rcases m1 with _|m1
 ·cases F
 refine X0 7 Z (qk Z F ?_ ?_)<;>intro F
 ·refine X0 5 Z ?_;obtain⟨B,g,_,F,d⟩:=bindE F;refine qaA (fun e w'=>∃ b2,B b2=V o1∧e=[(2,vp a),(5,vi (a_0.Ak.length:Int)),(6,vi p),(58,.bool b2)]∧SH w w' [oX a (qgr a_0 p1 y z A s u v x) 196]) ?_ ?_
  ·refine X1 4 0 h Z ?_;obtain⟨_,_,F,P,_,_,_,_,Y,a9,rfl,k⟩:=s3.ix F;refine zxe Y a9 P Z (zc 0 (k.below h.below) Z (zcB h F qap Z fun _ _ h F=>zp2 Z (qg (t:=50) F Z ?_ ?_)))<;>intro F
   ·refine X0 9 Z ?_;obtain rfl:=qb F;exact rG ⟨_,d,rfl,h⟩ Z
   refine X1 7 0 h Z ?_;obtain⟨_,_,F,Q,_,_,_,_,a3,b4,rfl,l⟩:=s2.ix F;refine zxe a3 b4 Q Z (X0 1 Z (zc 0 (l.below h.below) Z (X0 1 Z (zcB h F qap Z fun _ _ h F=>X0 4 Z ?_))));obtain rfl:=qb F;exact rG ⟨_,d,rfl,h⟩ Z
  rintro _ _ ⟨b2,F,rfl,h⟩;subst g;refine qk Z F ?_ ?_<;>intro F
  ·refine X0 4 Z ?_;obtain rfl:=qb F;replace F:=b;exact rb h F Z
  refine X0 6 Z (qg (t:=61) F Z ?_ ?_)<;>intro F
  ·refine X1 7 0 h Z ?_;obtain⟨_,_,F,L,_,_,_,_,S,a5,rfl,H⟩:=s1.ix F;refine zxe S a5 L Z (X0 1 Z (zc 0 (H.below h.below) Z (X0 4 Z (qg (t:=68) F Z ?_ ?_))))<;>intro F
   ·refine X0 25 Z (qb2 Z Z (X0 4 Z ?_));obtain rfl:=qb F;replace F:=b;exact rb h F Z
   refine X1 7 0 h Z ?_;obtain⟨_,_,F,M,_,_,_,_,T,a6,rfl,I⟩:=s2.ix F;refine zxe T a6 M Z (X0 1 Z (zc 0 (I.below h.below) Z (X0 6 Z (qg (t:=77) F Z ?_ ?_))))<;>intro F
   ·refine X0 15 Z (qb2 Z Z (X0 4 Z ?_));obtain rfl:=qb F;replace F:=b;exact rb h F Z
   refine X0 6 Z (qg (t:=80) F Z ?_ ?_)<;>intro F
   ·refine X1 7 0 h Z ?_;obtain⟨_,_,F,N,_,_,_,_,W,a7,rfl,J⟩:=s1.ix F;refine zxe W a7 N Z (X0 1 Z (zc 0 (J.below h.below) Z (X0 5 Z (zcB h F qap Z fun _ _ h F=>X0 6 Z (qk Z F ?_ ?_)))))<;>intro F
    ·refine X0 4 Z ?_;obtain rfl:=qb F;replace F:=b;exact rb h F Z
    exact X0 7 Z (rK ⟨_,F,rfl,h⟩ Z)
   exact X0 13 Z (qbm Z Z (X0 7 Z (rK ⟨_,F,rfl,h⟩ Z)))
  refine X0 22 Z (qg (t:=80) F Z ?_ ?_)<;>intro F
  ·refine X1 7 0 h Z ?_;obtain⟨_,_,F,O,_,_,_,_,X,a8,rfl,K⟩:=s1.ix F;refine zxe X a8 O Z (X0 1 Z (zc 0 (K.below h.below) Z (X0 5 Z (zcB h F qap Z fun _ _ h F=>X0 6 Z (qk Z F ?_ ?_)))))<;>intro F
   ·refine X0 4 Z ?_;obtain rfl:=qb F;replace F:=b;exact rb h F Z
   exact X0 7 Z (rK ⟨_,F,rfl,h⟩ Z)
  exact X0 13 Z (qbm Z Z (X0 7 Z (rK ⟨_,F,rfl,h⟩ Z)))
 refine qv Z ?_;obtain rfl:=qb F;replace F:=b;refine X0 5 Z ?_;obtain⟨o3,F,f⟩:=qd F;refine qn (rL (fun m e w'=>∃ i2,qga a_0 m i2=V o3∧e=[(2,vp a),(5,vi (a_0.Ak.length:Int)),(7,vi i2)]∧SH w w' [oX a (qgr a_0 p1 y z A s u v x) 196]) n ⟨_,F,rfl,h⟩ Z ?_);rintro m2 _ _ ⟨i2,F,rfl,h⟩;rcases m2 with _|m2
 ·cases F
 refine X1 9 0 h Z (qk Z F ?_ ?_)<;>intro F
 ·refine X1 8 0 h Z ?_;obtain⟨_,_,F,R,_,_,_,_,a4,b5,rfl,o⟩:=s4.ix F;refine zxe a4 b5 R Z (zc 0 (o.below h.below) Z (zp2 Z (zcB h F qap Z fun _ _ h F=>X0 2 Z (qk Z F ?_ ?_))))<;>intro F
  ·refine X0 4 Z ?_;obtain rfl:=qb F;replace F:=f;exact rb h F Z
  exact X0 7 Z (rK ⟨_,F,rfl,h⟩ Z)
 refine qv Z ?_;obtain rfl:=qb F;replace F:=f;exact X0 4 Z (rb h F Z)
def qc0 (c:Int)(b:qG):Nat→(List Tl05Place)→Int→Option ((List Tl05Place)×Int)| 0,_,_=>U| n+1,d,a =>bif decide (a<(b.Am.length:Int)) then(idx b.Am a).bind fun g =>(appS d ([(⟨c,a,g,(a==(W64 ((b.Am.length:Int)-1)))⟩:Tl05Place)]:List Tl05Place)).bind fun f =>qc0 c b n f (W64 (a+1)) else V (d,a)
def qc7 (a_0:qh):Nat→(List Tl05Place)→Int→Option ((List Tl05Place)×Int)| 0,_,_=>U| n+1,b,a =>bif decide (a<(a_0.Ai.length:Int)) then(idx a_0.Ai a).bind fun d =>(idx a_0.Ai a).bind fun f =>(appS b ([(⟨(-1),a,d.Cb,(f.Bx==1)⟩:Tl05Place)]:List Tl05Place)).bind fun c =>qc7 a_0 n c (W64 (a+1)) else V (b,a)
def qc8 (a_0:qh):Nat→(List Tl05Place)→Int→Option ((List Tl05Place)×Int)| 0,_,_=>U| n+1,b,a =>bif decide (a<(a_0.Ab.length:Int)) then(idx a_0.Ab a).bind fun d =>(qc0 a d n b 0).bind fun o=>match o with| (c,_) =>qc8 a_0 n c (W64 (a+1)) else V (b,a)
def qca (n:Nat)(a_0:qh):Option (List Tl05Place) :=(qc8 a_0 n ([]:List Tl05Place) 0).bind fun o=>match o with| (a,_) =>(qc7 a_0 n a 0).bind fun o=>match o with| (b,_) =>V b
theorem qb0 {a_0:qh}(v:Ro w a_0 cs1){r:(List Tl05Place)}(F:qca n a_0=V r):RetV prog 150 [oV qh cs1] w r:=by
 obtain⟨p1,T,p2,W,p3,X,rfl,s1,_,s3⟩:=qaY v;refine zV 69 func150 Z fun h=>zSR (qB h Z Z fun _ a h=>X0 4 Z (qm qa [] _ ([]:List Tl05Place) h Z Z Z Z Z Z Z Z Z trivial Z fun _ _ _ h=>X0 7 Z ?_));obtain⟨o1,F,s⟩:=qd F;refine qn (rL (fun m e w'=>∃ S2 p5 g Y x1 d,qc8 a_0 m x1 d=V o1∧e=[(1,vp a),(3,oS p5 g Y),(4,vi d)]∧SH w w' [oW S2 (x1:List Tl05Place) [oS p5 g Y],oX a (qaw a_0 p1 p2 p3 T W X) 31]) n ⟨_,_,_,_,_,_,F,rfl,h⟩ Z ?_);rintro m1 _ _ ⟨S2,p5,g,Y,x1,d,F,rfl,h⟩;obtain rfl:=(h.sl 0 Z).2;rcases m1 with _|m1
 ·cases F
 refine X1 9 1 h Z (qk Z F ?_ ?_)<;>intro F
 ·refine X1 8 1 h Z ?_;obtain⟨p,_,F,B,_,_,_,_,I,M,Q,x⟩:=s1.ix F;obtain⟨p6,k5,rfl,s4⟩:=qaL Q;refine zxe I M B Z (zp1 Z (zc 2 (x.below h.below) Z (X0 6 Z ?_)));obtain⟨o2,F,t⟩:=qd F;refine qn (rL (fun m e w'=>∃ S3 p7 i k6 x2 f,qc0 d p m x2 f=V o2∧e=[(1,vp a),(3,oS p7 i k6),(4,vi d),(5,oS p6 p.Am.length k5),(6,vi f)]∧SH w w' [oW S3 (x2:List Tl05Place) [oS p7 i k6],oX a (qaw a_0 p1 p2 p3 T W X) 31]) m1 ⟨_,_,_,_,_,_,F,rfl,h⟩ Z ?_);rintro m2 _ _ ⟨S3,p7,i,k6,x2,f,F,rfl,h⟩;obtain rfl:=(h.sl 0 Z).2;rcases m2 with _|m2
  ·cases F
  refine X0 8 Z (qk Z F ?_ ?_)<;>intro F
  ·refine X0 9 Z ?_;obtain⟨y2,_,F,C,_,_,_,_,J,N,rfl,y⟩:=s4.ix F;refine zxe J N C Z (zc 0 (y.below h.below) Z (zp5 Z (r_v (qA qa [0,1,2,3] [.tmp 29,.tmp 30,.tmp 34,.tmp 39] Z Z Z Z Z Z Z Z) Z (qm qa [.tmp 40] _ ([(⟨d,f,y2,(f==(W64 ((p.Am.length:Int)-1)))⟩:Tl05Place)]:List Tl05Place) h Z Z Z Z Z Z Z Z Z ⟨(qfR (⟨d,f,y2,(f==(W64 ((p.Am.length:Int)-1)))⟩:Tl05Place)),trivial⟩ Z fun _ _ _ h=>?_))));obtain⟨_,b,F⟩:=qd F;obtain⟨g1,b⟩:=qC b;refine qaz qa 1 h Z (h.sl 0 Z).1 (h.sl 0 Z).2 Z Z Z Z Z Z Z Z Z g1 b Z fun _ _ _ _ h=>X0 8 Z ?_;replace h:=h.p [1,2] Z;exact rK ⟨_,_,_,_,_,_,F,rfl,h⟩ Z
  refine qv Z ?_;obtain rfl:=qb F;replace F:=t;exact X0 6 Z (rK ⟨_,_,_,_,_,_,F,rfl,h⟩ Z)
 refine qv Z ?_;obtain rfl:=qb F;replace F:=s;refine X0 5 Z ?_;obtain⟨o3,F,u⟩:=qd F;refine qn (rL (fun m e w'=>∃ S6 l k k8 x4 o,qc7 a_0 m x4 o=V o3∧e=[(1,vp a),(3,oS l k k8),(7,vi o)]∧SH w w' [oW S6 (x4:List Tl05Place) [oS l k k8],oX a (qaw a_0 p1 p2 p3 T W X) 31]) n ⟨_,_,_,_,_,_,F,rfl,h⟩ Z ?_);rintro m3 _ _ ⟨S6,l,k,k8,x4,o,F,rfl,h⟩;obtain rfl:=(h.sl 0 Z).2;rcases m3 with _|m3
 ·cases F
 refine X1 9 1 h Z (qk Z F ?_ ?_)<;>intro F
 ·refine zKSB (rA [] [1] h Z fun _ h=>M1 31 [0,1,2,3,4] 0 (h.p [1] Z) Z ?_);obtain⟨y3,_,F,D,_,_,_,_,K,O,R,z⟩:=s3.ix F;obtain rfl:=qe7 R;refine Ae 5 63 K O D (h.p [1] Z) Z (M0 127 [6] (h.p [1] Z) Z (Al 7 255 2 z (h.p [1] Z) Z (M1 2047 [8,9,10] 0 (h.p [1] Z) Z ?_)));obtain⟨y4,_,F,H,_,_,_,_,L,P,S,A⟩:=s3.ix F;obtain rfl:=qe7 S;refine Ae 11 4095 L P H (h.p [1] Z) Z (M0 8191 [12] (h.p [1] Z) Z (Al 13 16383 1 A (h.p [1] Z) Z (M0 32767 [14] (h.p [1] Z) Z (Aw 15 65535 (fun w' hw=>qA qa [0,1,2,3] [.const (vi (-1)),.tmp 51,.tmp 57,.tmp 64] Z Z Z Z Z Z Z Z) (h.p [1] Z) Z ?_))));refine Ao 16 131071 Z (qm qa [.tmp 65] _ ([(⟨(-1),o,y3.Cb,(y4.Bx==1)⟩:Tl05Place)]:List Tl05Place) h Z Z Z Z Z Z Z Z Z ⟨(qfR (⟨(-1),o,y3.Cb,(y4.Bx==1)⟩:Tl05Place)),trivial⟩ Z fun _ _ _ h=>Ag (h.p [2] Z) (Ao 17 262143 Z ?_));obtain⟨_,c,F⟩:=qd F;obtain⟨g2,c⟩:=qC c;refine qaz qa 1 h Z (h.sl 0 Z).1 (h.sl 0 Z).2 Z Z Z Z Z Z Z Z Z g2 c Z fun _ _ _ _ h=>G0 524287 [18] (h.p [2] Z) Z (Ad (X0 6 Z ?_));replace h:=h.p [1,2] Z;exact rK ⟨_,_,_,_,_,_,F,rfl,h⟩ Z
 refine qv Z ?_;obtain rfl:=qb F;replace F:=u;refine X0 5 Z ?_;obtain rfl:=qb F;exact rO 0 h Z ⟨rfl,trivial⟩
def qcH (net:Int)(r1:(List Tl05Place)):Nat→(List Int)→Int→Option ((List Int)×Int)| 0,_,_=>U| n+1,b,a =>bif decide (a<(r1.length:Int)) then((idx r1 a).bind fun d =>bif (d.net==net) then(idx r1 a).bind fun f =>V (!f.drives) else V false).bind fun b1 =>bif b1 then(appS b ([a]:List Int)).bind fun c =>qcH net r1 n c (W64 (a+1)) else qcH net r1 n b (W64 (a+1)) else V (b,a)
def qfP (n:Nat)(d:qh)(net:Int):Option (List Int) :=(qca n d).bind fun r1 =>(qcH net r1 n ([]:List Int) 0).bind fun o=>match o with| (a,_) =>V a
theorem qhk {d:qh}{net}(i:Ro w d cs1){r:(List Int)}(F:qfP n d net=V r):RetV prog 122 [oV qh cs1,vi net] w r:=by
 obtain⟨_,_,_,_,_,_,rfl,_,_,_⟩:=qaY i;refine zV 37 func122 Z fun h=>zSR (qB h Z Z fun _ _ h=>X0 4 Z (qm qa [] _ ([]:List Int) h Z Z Z Z Z Z Z Z Z trivial Z fun _ _ _ h=>X1 5 1 h Z (zcL h F (qb0 (h.old i)) Z fun r1 _ S2 v u h F=>X0 7 Z ?_)));obtain⟨o1,F,z⟩:=qd F;refine qn ?_;replace h:=h.p [0,1] Z;refine rL (fun m e w'=>∃ y s b p c o,qcH net r1 m c o=V o1∧e=[(1,vi net),(5,oS s b p),(6,oS v r1.length u),(7,vi o)]∧SH w w' [oW S2 (r1:List Tl05Place) [oS v r1.length u],oW y (c:List Int) [oS s b p]]) n ⟨_,_,_,_,_,_,F,rfl,h⟩ Z ?_;rintro L _ _ ⟨y,s,b,p,c,o,F,rfl,h⟩;obtain rfl:=(h.sl 1 Z).2;rcases L with _|L
 ·cases F
 refine X0 8 Z (qk Z F ?_ ?_)<;>intro F
 ·refine X0 4 Z ?_;obtain⟨x,g,_,F,f⟩:=bindE F;refine qaA (fun e w'=>∃ b1,x b1=V o1∧e=[(1,vi net),(5,oS s c.length p),(6,oS v r1.length u),(7,vi o),(31,.bool b1)]∧SH w w' [oW S2 (r1:List Tl05Place) [oS v r1.length u],oW y (c:List Int) [oS s c.length p]]) ?_ ?_
  ·refine X0 3 Z ?_;obtain⟨_,_,F,k,_,_,_,_,C,H,J,A⟩:=(h.sl 0 Z).1.ix F;obtain rfl:=qby J;refine zx C H ⟨k.1,qE k.2.1 (h.sl 0 Z).2⟩ Z (zp1 Z (zc 2 A Z (zp3 Z (qg (t:=24) F Z ?_ ?_))))<;>intro F
   ·refine X0 5 Z ?_;obtain⟨_,_,F,l,_,_,_,_,D,I,K,B⟩:=(h.sl 0 Z).1.ix F;obtain rfl:=qby K;refine zx D I ⟨l.1,qE l.2.1 (h.sl 0 Z).2⟩ Z (X0 3 Z (zc 3 B Z (X0 4 Z ?_)));obtain rfl:=qb F;exact rG ⟨_,f,rfl,h⟩ Z
   refine X0 8 Z ?_;obtain rfl:=qb F;exact rG ⟨_,f,rfl,h⟩ Z
  rintro _ _ ⟨b1,F,rfl,h⟩;subst g;refine qk Z F ?_ ?_<;>intro F
  ·refine X0 3 Z (qm qa [.tmp 33] _ ([o]:List Int) h Z Z Z Z Z Z Z Z Z ⟨rfl,trivial⟩ Z fun _ _ _ h=>?_);obtain⟨_,a,F⟩:=qd F;obtain⟨M,a⟩:=qC a;refine qaz qa 2 h Z (h.sl 0 Z).1 (h.sl 0 Z).2 Z Z Z Z Z Z Z Z Z M a Z fun _ _ _ _ h=>X0 8 Z ?_;replace h:=h.p [1,2] Z;exact rK ⟨_,_,_,_,_,_,F,rfl,h⟩ Z
  exact X0 7 Z (rK ⟨_,_,_,_,_,_,F,rfl,h⟩ Z)
 refine qv Z ?_;obtain rfl:=qb F;replace F:=z;refine X0 5 Z ?_;obtain rfl:=qb F;exact rO 1 h Z ⟨rfl,trivial⟩
def qfp (b:qe):Nat→Int→Option (Flow Bool Int)| 0,_=>U| n+1,a =>bif decide (a<(b.Af.length:Int)) then(idx b.Af a).bind fun d =>(qfP n (⟨b.Aa.Ab,b.Aa.Am,b.Aa.Ai⟩:qh) a).bind fun r1 =>(qk1 n d (r1.length:Int)).bind fun c =>bif (!c) then V (.ret false) else qfp b n (W64 (a+1)) else V (.nxt a)
def qeC (n:Nat)(b:qe):Option Bool :=((qjo n (⟨b.Ar.As⟩:qw) (⟨b.Aa.Ab,b.Aa.Am,b.Aa.Ai⟩:qh)).bind fun a =>bif (!a) then V true else V ((b.Af.length:Int) != (b.Aa.Am.length:Int))).bind fun b1 =>bif b1 then V false else(qfp b n 0).bind fun o=>match o with| .ret r=>V r| .nxt _ =>V true
theorem qgD {b:qe}(i:Ro w b cs1){r:Bool}(F:qeC n b=V r):RetV prog 51 [oV qe cs1] w r:=by
 obtain⟨p1,v,C,x,D,y,H,z,I,A,rfl,s1,s2,J,K,L⟩:=qP i;refine zV 39 func51 Z fun h=>zSR (qB h Z Z fun _ a h=>X0 4 Z ?_);obtain⟨g,f,_,F,d⟩:=bindE F;refine qaA (fun e w'=>∃ b1,g b1=V r∧e=[(1,vp a),(19,.bool b1)]∧SH w w' [oX a (qH b p1 C D H I v x y z A) 34]) ?_ ?_
 ·refine X2 5 0 0 h Z (zcB h F (qoX (qiD _ (h.oldS s1)) (qa1 _ (h.oldS s2) (h.oldS J) (h.oldS K))) Z fun _ _ h F=>zp2 Z (qg (t:=10) F Z ?_ ?_))<;>intro F
  ·refine X0 10 Z ?_;obtain rfl:=qb F;exact rG ⟨_,d,rfl,h⟩ Z
  refine X2 18 0 0 h Z ?_;obtain rfl:=qb F;exact rG ⟨_,d,rfl,h⟩ Z
 rintro _ _ ⟨b1,F,rfl,h⟩;subst f;refine qk Z F ?_ ?_<;>intro F
 ·exact X0 4 Z (rb h F Z)
 refine X0 6 Z ?_;obtain⟨o1,F,c⟩:=qd F;refine qn (rL (fun m e w'=>∃ u,qfp b m u=V o1∧e=[(1,vp a),(3,vi u)]∧SH w w' [oX a (qH b p1 C D H I v x y z A) 34]) n ⟨_,F,rfl,h⟩ Z ?_);rintro B _ _ ⟨u,F,rfl,h⟩;rcases B with _|B
 ·cases F
 refine X1 9 0 h Z (qk Z F ?_ ?_)<;>intro F
 ·refine X0 4 Z (rA [] [0] h Z fun _ h=>M1 7 [0,1,2] 0 (h.p [0] Z) Z ?_);obtain⟨Q,_,F,l,_,_,_,_,o,p,s,k⟩:=L.ix F;obtain⟨_,_,_,_,_,_,_,_,rfl,M,N,O,P⟩:=qbL s;refine Ae 3 15 o p l (h.p [0] Z) Z (Al 4 31 0 k (h.p [0] Z) Z (M1 255 [5,6,7] 0 (h.p [0] Z) Z (Ao 8 511 Z (zcL h F (qhk (qa1 _ (h.oldS s2) (h.oldS J) (h.oldS K))) Z fun _ _ _ _ _ h F=>G0 1023 [9] (h.p [1] Z) Z (Ao 10 2047 Z (zcB h F (qqm (qqZ Q (h.oldS M) (h.oldS N) (h.oldS O) (h.oldS P))) Z fun _ _ h F=>G0 4095 [11] (h.p [1] Z) Z (Ad (qk Z F ?_ ?_))))))))<;>intro F
  ·refine X0 4 Z ?_;obtain rfl:=qb F;replace F:=c;exact rb h F Z
  refine X0 7 Z ?_;replace h:=h.p [1] Z;exact rK ⟨_,F,rfl,h⟩ Z
 refine qv Z ?_;obtain rfl:=qb F;replace F:=c;exact X0 4 Z (rb h F Z)
def qa0 (_:Nat)(x:Int)(b:Int)(a:Int):Option Bool :=bif decide (x ≥ b) then V (decide (x≤a)) else V false
theorem qaK {x low high}  {r:Bool}(F:qa0 n x low high=V r):RetV prog 58 [vi x,vi low,vi high] w r:=by
 refine zV 15 func58 Z fun h=>X0 10 Z (qg (t:=10) F Z ?_ ?_)<;>intro F
 ·exact X0 9 Z (rb h F Z)
 exact X0 6 Z (rb h F Z)
def qiE (_:Nat)(s cutset:ByteArray):Option ByteArray :=if s.size≤9223372036854775807∧cutset.size<4294967281∧cutset.data.toList.all (fun b=>decide (b.toNat<128))=true then V ⟨(Lib.trimS s.data.toList cutset.data.toList).toArray⟩ else U
theorem qpw {s cutset}{r:ByteArray}(F:qiE n s cutset=V r):RetV prog 197 [.string s,.string cutset] w r:=by
 unfold qiE at F;split at F
 ·rename_i hh
  obtain rfl:=qb F;refine(Tryz.strings_Trim_any s cutset w hh.1 hh.2.1 hh.2.2).mono ?_;rintro e w' ⟨rfl,a⟩;exact⟨_,rfl,a,[.string _],rfl,qrk _ _⟩
 cases F
def qgP (_:Nat)(s:ByteArray)(c:(IntK .u8)):Option Int :=V (Lib.indexByte s.data.toList c.val.toNat.toUInt8)
theorem qmp {s}{c:(IntK .u8)}{r:Int}(F:qgP n s c=V r):RetV prog 198 [.string s,.int .u8 c.val] w r:=by
 obtain rfl:=qb F;refine(Tryz.strings_IndexByte s c.val w).mono ?_;rintro e w' ⟨rfl,rfl⟩;exact⟨_,rfl,Below.refl _ _,[vi _],rfl,quG _ _⟩
def qio (n:Nat)(s:ByteArray):Option Bool :=(qa0 n (s.size:Int) 1 8).bind fun r1 =>bif r1 then(qiE n s (⟨#[97,98,99,100,101,102,103,104,105,106,107,108,109,110,111,112,113,114,115,116,117,118,119,120,121,122,48,49,50,51,52,53,54,55,56,57]⟩:ByteArray)).bind fun a =>bif (a.toList==(⟨#[]⟩:ByteArray).toList) then(atS s 0).bind fun c =>(qgP n (⟨#[97,98,99,100,101,102,103,104,105,106,107,108,109,110,111,112,113,114,115,116,117,118,119,120,121,122]⟩:ByteArray) (⟨c⟩:IntK .u8)).bind fun b =>V (decide (b ≥ 0)) else V false else V false
theorem qkv {s}  {r:Bool}(F:qio n s=V r):RetV prog 126 [.string s] w r:=by
 refine zV 17 func126 Z fun h=>X0 8 Z (zcB h F qaK Z fun _ _ h F=>zp1 Z (qg (t:=6) F Z ?_ ?_))<;>intro F
 ·refine X0 3 Z (zcS h F qpw Z fun _ _ h F=>X0 4 Z (qg (t:=11) F Z ?_ ?_))<;>intro F
  ·refine X0 3 Z ?_;obtain⟨_,a,F⟩:=qd F;have b:=qmO a;exact r_v (qmm qa b Z Z Z Z) Z (X0 1 Z (zcI h F qmp Z fun _ _ h F=>X0 5 Z (rb h F Z)))
  exact X0 7 Z (rb h F Z)
 exact X0 12 Z (rb h F Z)
def qcI (_:Nat)(list:(List qax)):Option Int :=V (list.length:Int)
theorem qih {list:(List qax)}(a:Ro w list cs1){r:Int}(F:qcI n list=V r):RetV prog 206 [oV (List qax) cs1] w r:=by
 obtain⟨_,_,rfl,_⟩:=a;exact zV 5 func206 Z fun h=>X0 10 Z (ri h F Z)
def qcg (s:(List ByteArray))(v:ByteArray):Nat→Int→Option (Flow Int Int)| 0,_=>U| n+1,a =>bif decide (a<(s.length:Int)) then(idx s a).bind fun b =>bif (v.toList==b.toList) then V (.ret a) else qcg s v n (W64 (a+1)) else V (.nxt a)
def qfW (n:Nat)(s:(List ByteArray))(v:ByteArray):Option Int :=(qcg s v n 0).bind fun o=>match o with| .ret r=>V r| .nxt _ =>V (-1)
theorem qlK {s:(List ByteArray)}{v}(b:Ro w s cs1){r:Int}(F:qfW n s v=V r):RetV prog 288 [oV (List ByteArray) cs1,.string v] w r:=by
 obtain⟨p1,l,rfl,s1⟩:=b;refine zV 19 func288 Z fun h=>X0 11 Z ?_;obtain⟨o1,F,a⟩:=qd F;refine qn (rL (fun m e w'=>∃ i,qcg s v m i=V o1∧e=[(0,oS p1 s.length l),(1,.string v),(7,vi (s.length:Int)),(8,vi i)]∧SH w w' []) n ⟨_,F,rfl,h⟩ Z ?_);rintro k _ _ ⟨i,F,rfl,h⟩;rcases k with _|k
 ·cases F
 refine X0 5 Z (qk Z F ?_ ?_)<;>intro F
 ·refine X0 13 Z ?_;obtain⟨_,_,F,d,_,_,_,_,f,g,rfl,c⟩:=s1.ix F;refine zxe f g d Z (zc 0 (c.below h.below) Z (X0 2 Z (qk Z F ?_ ?_)))<;>intro F
  ·refine X0 5 Z ?_;obtain rfl:=qb F;replace F:=a;exact ri h F Z
  exact X0 6 Z (rK ⟨_,F,rfl,h⟩ Z)
 refine qv Z ?_;obtain rfl:=qb F;replace F:=a;exact X0 4 Z (ri h F Z)
def qew (n:Nat)(s:(List ByteArray))(v:ByteArray):Option Bool :=(qfW n s v).bind fun r1 =>V (decide (r1 ≥ 0))
theorem qkD {s:(List ByteArray)}{v}(a:Ro w s cs1){r:Bool}(F:qew n s v=V r):RetV prog 274 [oV (List ByteArray) cs1,.string v] w r:=by
 obtain⟨_,_,rfl,s1⟩:=a;exact zV 9 func274 Z fun h=>X0 8 Z (zcI h F (qlK ⟨_,_,rfl,(h.oldS s1)⟩) Z fun _ _ h F=>X0 3 Z (rb h F Z))
def qeW (list:(List ByteArray)):Nat→Int→Option (Flow Bool Int)| 0,_=>U| n+1,a =>bif decide (a<(list.length:Int)) then(idx list a).bind fun b =>(qio n b).bind fun r1 =>bif (!r1) then V (.ret false) else(subS list 0 a).bind fun d =>(qew n d b).bind fun c =>bif c then V (.ret false) else qeW list n (W64 (a+1)) else V (.nxt a)
def qeG (n:Nat)(list:(List ByteArray)):Option Bool :=(qeW list n 0).bind fun o=>match o with| .ret r=>V r| .nxt _ =>V true
theorem qgj {list:(List ByteArray)}(f:Ro w list cs1){r:Bool}(F:qeG n list=V r):RetV prog 243 [oV (List ByteArray) cs1] w r:=by
 obtain⟨p1,s,rfl,s1⟩:=f;refine zV 23 func243 Z fun h=>X0 11 Z ?_;obtain⟨o1,F,a⟩:=qd F;refine qn (rL (fun m e w'=>∃ p,qeW list m p=V o1∧e=[(0,oS p1 list.length s),(5,oS p1 list.length s),(6,vi (list.length:Int)),(7,vi p)]∧SH w w' []) n ⟨_,F,rfl,h⟩ Z ?_);rintro u _ _ ⟨p,F,rfl,h⟩;rcases u with _|u
 ·cases F
 refine X0 5 Z (qk Z F ?_ ?_)<;>intro F
 ·refine X0 6 Z ?_;obtain⟨_,_,F,i,_,_,_,_,l,o,rfl,g⟩:=s1.ix F;refine zxe l o i Z (zc 0 (g.below h.below) Z (X0 6 Z (zcB h F qkv Z fun _ _ h F=>zp2 Z (qg (t:=15) F Z ?_ ?_))))<;>intro F
  ·refine X0 7 Z (qb2 Z Z (X0 4 Z ?_));obtain rfl:=qb F;replace F:=a;exact rb h F Z
  refine X0 5 Z ?_;obtain⟨_,d,F⟩:=qd F;obtain⟨_,_,c,b,k,v⟩:=qnE (h.oldS s1) d;refine r_v (qkt qa Z Z Z (qnM v Z) c b k Z Z Z Z) Z ?_;have s2:=qnH s1 d c b;refine X0 3 Z (zcB h F (qkD ⟨_,_,rfl,(h.oldS s2)⟩) Z fun _ _ h F=>X0 2 Z (qk Z F ?_ ?_))<;>intro F
  ·refine X0 4 Z ?_;obtain rfl:=qb F;replace F:=a;exact rb h F Z
  exact X0 6 Z (rK ⟨_,F,rfl,h⟩ Z)
 refine qv Z ?_;obtain rfl:=qb F;replace F:=a;exact X0 4 Z (rb h F Z)
def qdo (list:(List qax)):Nat→(List ByteArray)→Int→Option (Flow Bool ((List ByteArray)×Int))| 0,_,_=>U| n+1,c,a =>bif decide (a<(list.length:Int)) then(idx list a).bind fun b =>(appS c ([b.Bi]:List ByteArray)).bind fun d =>bif (a==(W64 ((list.length:Int)-1))) then bif (b.Bx != 2) then V (.ret false) else bif (b.Br != 0) then V (.ret false) else bif b.Bt then V (.ret false) else qdo list n d (W64 (a+1)) else bif (b.Bx != 1) then V (.ret false) else(qa0 n b.Br 0 500).bind fun r1 =>bif (!r1) then V (.ret false) else qdo list n d (W64 (a+1)) else V (.nxt (c,a))
def qjZ (n:Nat)(list:(List qax)):Option Bool :=(qdo list n ([]:List ByteArray) 0).bind fun o=>match o with| .ret r=>V r| .nxt (d,_) =>(qcI n list).bind fun a =>(qa0 n a 2 5).bind fun b =>bif b then(qeG n d).bind fun c =>V c else V false
theorem qpj {list:(List qax)}(d:Ro w list cs1){r:Bool}(F:qjZ n list=V r):RetV prog 271 [oV (List qax) cs1] w r:=by
 obtain⟨p1,v,rfl,s1⟩:=d;refine zV 52 func271 Z fun h=>X0 15 Z ?_;replace h:=h.nil (α:=ByteArray);obtain⟨o1,F,a⟩:=qd F;refine qn (rL (fun m e w'=>∃ S1 s c p u o,qdo list m u o=V o1∧e=[(0,oS p1 list.length v),(3,oS s c p),(6,oS p1 list.length v),(7,vi (list.length:Int)),(8,vi o)]∧SH w w' [oW S1 (u:List ByteArray) [oS s c p]]) n ⟨_,_,_,_,_,_,F,rfl,h⟩ Z ?_);rintro x _ _ ⟨S1,s,c,p,u,o,F,rfl,h⟩;obtain rfl:=(h.sl 0 Z).2;rcases x with _|x
 ·cases F
 refine X0 5 Z (qk Z F ?_ ?_)<;>intro F
 ·refine X0 6 Z ?_;obtain⟨z,_,F,g,_,_,_,_,i,k,l,f⟩:=s1.ix F;obtain rfl:=qfh l;refine zxe i k g Z (zc 0 (f.below h.below) Z (qi qa h Z Z Z fun _ _ h=>zp1 Z (zs 0 h Z fun _ h=>X1 6 0 h Z (qm qa [.tmp 15] _ ([z.Bi]:List ByteArray) h Z Z Z Z Z Z Z Z Z ⟨rfl,trivial⟩ Z fun _ _ _ h=>?_))));obtain⟨_,b,F⟩:=qd F;obtain⟨y,b⟩:=qC b;refine qaz qa 2 h Z (h.sl 0 Z).1 (h.sl 0 Z).2 Z Z Z Z Z Z Z Z Z y b Z fun _ _ _ _ h=>X0 10 Z (qk Z F ?_ ?_)<;>intro F
  ·refine X1 6 1 h Z (qg (t:=26) F Z ?_ ?_)<;>intro F
   ·refine X0 9 Z (qb2 Z Z (X0 4 Z ?_));obtain rfl:=qb F;replace F:=a;exact rb h F Z
   refine X1 8 1 h Z (qg (t:=31) F Z ?_ ?_)<;>intro F
   ·refine X0 4 Z (qb2 Z Z (X0 4 Z ?_));obtain rfl:=qb F;replace F:=a;exact rb h F Z
   refine X1 6 1 h Z (qk Z F ?_ ?_)<;>intro F
   ·refine X0 4 Z ?_;obtain rfl:=qb F;replace F:=a;exact rb h F Z
   refine X0 6 Z ?_;replace h:=h.p [2] Z;exact rK ⟨_,_,_,_,_,_,F,rfl,h⟩ Z
  refine X1 6 1 h Z (qg (t:=38) F Z ?_ ?_)<;>intro F
  ·refine X0 6 Z (qb2 Z Z (X0 4 Z ?_));obtain rfl:=qb F;replace F:=a;exact rb h F Z
  refine X1 5 1 h Z (zcB h F qaK Z fun _ _ h F=>X0 4 Z (qk Z F ?_ ?_))<;>intro F
  ·refine X0 4 Z ?_;obtain rfl:=qb F;replace F:=a;exact rb h F Z
  refine X0 6 Z ?_;replace h:=h.p [2] Z;exact rK ⟨_,_,_,_,_,_,F,rfl,h⟩ Z
 refine qv Z ?_;obtain rfl:=qb F;replace F:=a;refine X0 3 Z (zcI h F (qih ⟨_,_,rfl,(h.oldS s1)⟩) Z fun _ _ h F=>zcB h F qaK Z fun _ _ h F=>zp1 Z (qg (t:=48) F Z ?_ ?_))<;>intro F
 ·exact X0 3 Z (zcB h F (qgj (h.own 0 Z)) Z fun _ _ h F=>X0 3 Z (rb h F Z))
 exact X0 5 Z (rb h F Z)
def qeT (n:Nat)(c:qF):Option Int :=(qcI n c.Bh).bind fun r1 =>V (W64 (r1-1))
theorem qhM {c:qF}(a:Ro w c cs1){r:Int}(F:qeT n c=V r):RetV prog 142 [oV qF cs1] w r:=by
 obtain⟨_,_,_,_,_,_,rfl,s1,_,_⟩:=qaq a;exact zV 7 func142 Z fun h=>zSR (qB h Z Z fun _ _ h=>X1 6 0 h Z (zcI h F (qih ⟨_,_,rfl,(h.oldS s1)⟩) Z fun _ _ h F=>X0 3 Z (ri h F Z)))
def qjN (_:Nat)(kind:Int):Option Bool :=bif (kind==4) then V true else V (kind==5)
theorem qpp {kind}  {r:Bool}(F:qjN n kind=V r):RetV prog 296 [vi kind] w r:=by
 refine zV 9 func296 Z fun h=>X0 9 Z (qg (t:=5) F Z ?_ ?_)<;>intro F
 ·exact X0 5 Z (rb h F Z)
 exact X0 7 Z (rb h F Z)
def qhv (n:Nat)(c:Int)(a:Int)(b:Int):Option Bool :=(qa0 n c a b).bind fun r1 =>V (!r1)
theorem qno {a_n k l p1}(a:Ro w (V k) [.pointer p1]){i}(b:Ro w (V l) [.pointer i]){r:Bool}(F:qhv n a_n k l=V r):RetV prog 158 [vi a_n,.pointer p1,.pointer i] w r:=by
 obtain⟨_,m,_,rfl,-,f,c⟩:=PtR.get a Z;obtain rfl:=f;obtain⟨_,o,_,rfl,-,g,d⟩:=PtR.get b Z;obtain rfl:=g;exact zV 10 func158 Z fun h=>X0 7 Z (zc 0 (c.below h.below) Z (zc 0 (d.below h.below) Z (zcB h F qaK Z fun _ _ h F=>X0 3 Z (rb h F Z))))
def qan (s:(List Int))(a:Int)(b:Int):Nat→Int→Option (Flow Int Int)| 0,_=>U| n+1,c =>bif decide (c<(s.length:Int)) then(idx s c).bind fun d =>(qhv n d a b).bind fun r1 =>bif r1 then V (.ret c) else qan s a b n (W64 (c+1)) else V (.nxt c)
def qa9 (n:Nat)(s:(List Int))(a:Int)(b:Int):Option Int :=(qan s a b n 0).bind fun o=>match o with| .ret r=>V r| .nxt _ =>V (-1)
theorem qgA {s:(List Int)}{a b}(g:Ro w s cs1){z}(d:Ro w (V a) [.pointer z]){A}(f:Ro w (V b) [.pointer A]){r:Int}(F:qa9 n s a b=V r):RetV prog 217 [oV (List Int) cs1,.func (.func 158) #[] #[.pointer z,.pointer A]] w r:=by
 obtain⟨p1,B,rfl,s1⟩:=g;obtain⟨b1,v,_,rfl,-,p,_⟩:=PtR.get d Z;obtain rfl:=p;obtain⟨b2,x,_,rfl,-,t,_⟩:=PtR.get f Z;obtain rfl:=t;refine zV 19 func217 Z fun h=>X0 11 Z ?_;obtain⟨o1,F,c⟩:=qd F;refine qn (rL (fun m e w'=>∃ u,qan s a b m u=V o1∧e=[(0,oS p1 s.length B),(1,.func (.func 158) #[] #[.pointer (V ⟨b1,v,U⟩),.pointer (V ⟨b2,x,U⟩)]),(7,vi (s.length:Int)),(8,vi u)]∧SH w w' []) n ⟨_,F,rfl,h⟩ Z ?_);rintro y _ _ ⟨u,F,rfl,h⟩;rcases y with _|y
 ·cases F
 refine X0 5 Z (qk Z F ?_ ?_)<;>intro F
 ·refine X0 13 Z ?_;obtain⟨_,_,F,k,_,_,_,_,l,o,rfl,i⟩:=s1.ix F;refine zxe l o k Z (zc 0 (i.below h.below) Z (zcB h F (qno (h.old d) (h.old f)) Z fun _ _ h F=>qa7 (qk Z F ?_ ?_)))<;>intro F
  ·refine X0 5 Z ?_;obtain rfl:=qb F;replace F:=c;exact ri h F Z
  exact X0 6 Z (rK ⟨_,F,rfl,h⟩ Z)
 refine qv Z ?_;obtain rfl:=qb F;replace F:=c;exact X0 4 Z (ri h F Z)
def qbO (n:Nat)(s:(List Int))(a:Int)(b:Int):Option Bool :=(qa9 n s a b).bind fun r1 =>V (decide (r1 ≥ 0))
theorem qfV {s:(List Int)}{a b}(f:Ro w s cs1){k}(c:Ro w (V a) [.pointer k]){l}(d:Ro w (V b) [.pointer l]){r:Bool}(F:qbO n s a b=V r):RetV prog 157 [oV (List Int) cs1,.func (.func 158) #[] #[.pointer k,.pointer l]] w r:=by
 obtain⟨_,_,rfl,s1⟩:=f;obtain⟨_,m,_,rfl,-,g,_⟩:=PtR.get c Z;obtain rfl:=g;obtain⟨_,o,_,rfl,-,i,_⟩:=PtR.get d Z;obtain rfl:=i;exact zV 9 func157 Z fun h=>X0 8 Z (zcI h F (qgA ⟨_,_,rfl,(h.oldS s1)⟩ (h.old c) (h.old d)) Z fun _ _ h F=>X0 3 Z (rb h F Z))
def qb6 (n:Nat)(list:(List Int))(b:Int)(a:Int):Option Bool :=(qbO n list b a).bind fun r1 =>V (!r1)
theorem qcs {list:(List Int)}{low high}(a:Ro w list cs1){r:Bool}(F:qb6 n list low high=V r):RetV prog 78 [oV (List Int) cs1,vi low,vi high] w r:=by
 obtain⟨_,_,rfl,s1⟩:=a;exact zV 11 func78 Z fun h=>zSR (qB h Z Z fun _ _ h=>qB h Z Z fun _ _ h=>X0 6 Z (zcB h F (qfV ⟨_,_,rfl,(h.oldS s1)⟩ (qg1 (x:=low) 1 h Z Z) (qg1 (x:=high) 0 h Z Z)) Z fun _ _ h F=>X0 3 Z (rb h F Z)))
def qbF (_:Nat)(list:(List Int)):Option Int :=V (list.length:Int)
theorem qcR {list:(List Int)}(a:Ro w list cs1){r:Int}(F:qbF n list=V r):RetV prog 129 [oV (List Int) cs1] w r:=by
 obtain⟨_,_,rfl,_⟩:=a;exact zV 5 func129 Z fun h=>X0 10 Z (ri h F Z)
def qbH (list:(List Int)):Nat→Int→Option (Flow Bool Int)| 0,_=>U| n+1,a =>bif decide (a<(list.length:Int)) then(idx list (W64 (a-1))).bind fun b =>(idx list a).bind fun c =>bif decide (b ≥ c) then V (.ret false) else qbH list n (W64 (a+1)) else V (.nxt a)
def qfw (n:Nat)(list:(List Int)):Option Bool :=(qbH list n 1).bind fun o=>match o with| .ret r=>V r| .nxt _ =>V true
theorem qjz {list:(List Int)}(b:Ro w list cs1){r:Bool}(F:qfw n list=V r):RetV prog 133 [oV (List Int) cs1] w r:=by
 obtain⟨p1,t,rfl,s1⟩:=b;refine zV 20 func133 Z fun h=>X0 9 Z ?_;obtain⟨o1,F,a⟩:=qd F;refine qn (rL (fun m e w'=>∃ p,qbH list m p=V o1∧e=[(0,oS p1 list.length t),(3,vi p)]∧SH w w' []) n ⟨_,F,rfl,h⟩ Z ?_);rintro s _ _ ⟨p,F,rfl,h⟩;rcases s with _|s
 ·cases F
 refine X0 8 Z (qk Z F ?_ ?_)<;>intro F
 ·refine X0 4 Z (rD (zd3 Z ?_));obtain⟨_,_,F,f,_,_,_,_,i,l,rfl,c⟩:=s1.ix F;refine zdxe i l f Z (zdc 0 (c.below h.below) Z (zd2 Z ?_));obtain⟨_,_,F,g,_,_,_,_,k,o,rfl,d⟩:=s1.ix F;refine zdxe k o g Z (zdc 0 (d.below h.below) Z (zd1 Z (dN h fun _ h=>qk Z F ?_ ?_)))<;>intro F
  ·refine X0 4 Z ?_;obtain rfl:=qb F;replace F:=a;exact rb h F Z
  exact X0 7 Z (rK ⟨_,F,rfl,h⟩ Z)
 refine qv Z ?_;obtain rfl:=qb F;replace F:=a;exact X0 4 Z (rb h F Z)
def qjt (n:Nat)(list:(List Int)):Option Bool :=(qbF n list).bind fun r1 =>(qa0 n r1 1 4).bind fun a =>bif a then(qb6 n list 0 100000).bind fun b =>bif b then(qfw n list).bind fun c =>V c else V false else V false
theorem qmM {list:(List Int)}(a:Ro w list cs1){r:Bool}(F:qjt n list=V r):RetV prog 313 [oV (List Int) cs1] w r:=by
 obtain⟨_,_,rfl,s1⟩:=a;refine zV 14 func313 Z fun h=>X0 7 Z (zcI h F (qcR ⟨_,_,rfl,(h.oldS s1)⟩) Z fun _ _ h F=>zcB h F qaK Z fun _ _ h F=>zp1 Z (qg (t:=6) F Z ?_ ?_))<;>intro F
 ·refine X0 3 Z (zcB h F (qcs ⟨_,_,rfl,(h.oldS s1)⟩) Z fun _ _ h F=>zp2 Z (qg (t:=10) F Z ?_ ?_))<;>intro F
  ·exact X0 3 Z (zcB h F (qjz ⟨_,_,rfl,(h.oldS s1)⟩) Z fun _ _ h F=>X0 3 Z (rb h F Z))
  exact X0 5 Z (rb h F Z)
 exact X0 9 Z (rb h F Z)
def qj0 (n:Nat)(t:qL):Option Bool :=(qjt n t.Bq).bind fun r1 =>bif r1 then(qjt n t.Bn).bind fun a =>bif a then bif ((t.Bj.length:Int)==(W64 ((t.Bq.length:Int)*(t.Bn.length:Int)))) then(qb6 n t.Bj (-1000000) 1000000).bind fun b =>V b else V false else V false else V false
theorem qpv {t:qL}(a:Ro w t cs1){r:Bool}(F:qj0 n t=V r):RetV prog 308 [oV qL cs1] w r:=by
 obtain⟨_,_,_,_,_,_,rfl,s1,s2,b⟩:=qcr a;refine zV 29 func308 Z fun h=>zSR (qB h Z Z fun _ _ h=>X1 6 0 h Z (zcB h F (qmM ⟨_,_,rfl,(h.oldS s1)⟩) Z fun _ _ h F=>zp1 Z (qg (t:=6) F Z ?_ ?_)))<;>intro F
 ·refine X1 5 0 h Z (zcB h F (qmM ⟨_,_,rfl,(h.oldS s2)⟩) Z fun _ _ h F=>zp2 Z (qg (t:=11) F Z ?_ ?_))<;>intro F
  ·refine X3 24 0 0 0 h Z (qg (t:=24) F Z ?_ ?_)<;>intro F
   ·exact X1 5 0 h Z (zcB h F (qcs ⟨_,_,rfl,(h.oldS b)⟩) Z fun _ _ h F=>X0 3 Z (rb h F Z))
   exact X0 6 Z (rb h F Z)
  exact X0 19 Z (rb h F Z)
 exact X0 24 Z (rb h F Z)
def qdb (x:(List Int)):Nat→Int→Int→Option (Int×Int)| 0,_,_=>U| n+1,b,a =>bif decide (a<(x.length:Int)) then(idx x a).bind fun c =>qdb x n (if c<b then c else b) (W64 (a+1)) else V (b,a)
def qhy (n:Nat)(x:(List Int)):Option Int :=(bif decide ((x.length:Int)<1) then U else V ()).bind fun _ =>(idx x 0).bind fun b =>(qdb x n b 1).bind fun o=>match o with| (a,_) =>V a
theorem qng {x:(List Int)}(f:Ro w x cs1){r:Int}(F:qhy n x=V r):RetV prog 309 [oV (List Int) cs1] w r:=by
 obtain⟨p1,y,rfl,s1⟩:=f;refine zV 25 func309 Z fun h=>X0 11 Z ?_;obtain⟨b,a,_,F,d⟩:=bindE F;refine qaA (fun e w'=>b ()=V r∧e=[(0,oS p1 x.length y)]∧SH w w' []) ?_ ?_
 ·refine qk Z F ?_ ?_<;>intro F
  ·refine qkm ?_;cases F
  refine qf2 ?_;obtain rfl:=qb F;exact rG ⟨d,rfl,h⟩ Z
 rintro _ _ ⟨F,rfl,h⟩;subst a;refine X0 3 Z ?_;obtain⟨_,_,F,k,_,_,_,_,o,s,rfl,g⟩:=s1.ix F;refine zxe o s k Z (zc 0 (g.below h.below) Z (X0 7 Z ?_));obtain⟨o1,F,c⟩:=qd F;refine qn (rL (fun m e w'=>∃ u v,qdb x m u v=V o1∧e=[(0,oS p1 x.length y),(3,vi u),(4,vi v)]∧SH w w' []) n ⟨_,_,F,rfl,h⟩ Z ?_);rintro z _ _ ⟨u,v,F,rfl,h⟩;rcases z with _|z
 ·cases F
 refine X0 8 Z (qk Z F ?_ ?_)<;>intro F
 ·refine X0 7 Z ?_;obtain⟨_,_,F,l,_,_,_,_,p,t,rfl,i⟩:=s1.ix F;exact zxe p t l Z (zc 0 (i.below h.below) Z (X0 9 Z (rK ⟨_,_,F,rfl,h⟩ Z)))
 refine qv Z ?_;obtain rfl:=qb F;replace F:=c;exact X0 5 Z (ri h F Z)

def qhH (n:Nat)(t:qL)(b:Bool):Option Bool :=(qj0 n t).bind fun r1 =>bif (!r1) then V true else bif b then(qhy n t.Bj).bind fun a =>V (decide (a<0)) else V false
theorem qnl {t:qL}{g}(a:Ro w t cs1){f}(b:Ro w (V g) [.pointer f]){r:Bool}(F:qhH n t g=V r):RetV prog 307 [oV qL cs1,.pointer f] w r:=by
 obtain⟨_,_,_,_,_,_,rfl,_,_,k⟩:=qcr a;obtain⟨_,i,_,rfl,-,d,c⟩:=PtR.get b Z;obtain rfl:=d;refine zV 16 func307 Z fun h=>zSR (qB h Z Z fun _ _ h=>X1 5 0 h Z (zcB h F (qpv (h.old a)) Z fun _ _ h F=>zp2 Z (qg (t:=7) F Z ?_ ?_)))<;>intro F
 ·exact X0 10 Z (rb h F Z)
 refine X0 1 Z (zc 0 (c.below h.below) Z (X0 2 Z (qg (t:=9) F Z ?_ ?_)))<;>intro F
 ·exact X1 5 0 h Z (zcI h F (qng ⟨_,_,rfl,(h.oldS k)⟩) Z fun _ _ h F=>X0 7 Z (rb h F Z))
 exact X0 9 Z (rb h F Z)
def qZ (s:(List qL))(a:Bool):Nat→Int→Option (Flow Int Int)| 0,_=>U| n+1,b =>bif decide (b<(s.length:Int)) then(idx s b).bind fun c =>(qhH n c a).bind fun r1 =>bif r1 then V (.ret b) else qZ s a n (W64 (b+1)) else V (.nxt b)
def qaS (n:Nat)(s:(List qL))(a:Bool):Option Int :=(qZ s a n 0).bind fun o=>match o with| .ret r=>V r| .nxt _ =>V (-1)
theorem qfA {s:(List qL)}{a}(d:Ro w s cs1){v}(c:Ro w (V a) [.pointer v]){r:Int}(F:qaS n s a=V r):RetV prog 312 [oV (List qL) cs1,.func (.func 307) #[] #[.pointer v]] w r:=by
 obtain⟨p1,x,rfl,s1⟩:=d;obtain⟨b1,t,_,rfl,-,l,_⟩:=PtR.get c Z;obtain rfl:=l;refine zV 19 func312 Z fun h=>X0 11 Z ?_;obtain⟨o1,F,b⟩:=qd F;refine qn (rL (fun m e w'=>∃ p,qZ s a m p=V o1∧e=[(0,oS p1 s.length x),(1,.func (.func 307) #[] #[.pointer (V ⟨b1,t,U⟩)]),(7,vi (s.length:Int)),(8,vi p)]∧SH w w' []) n ⟨_,F,rfl,h⟩ Z ?_);rintro u _ _ ⟨p,F,rfl,h⟩;rcases u with _|u
 ·cases F
 refine X0 5 Z (qk Z F ?_ ?_)<;>intro F
 ·refine X0 13 Z ?_;obtain⟨A,_,F,g,_,_,_,_,i,k,o,f⟩:=s1.ix F;obtain⟨_,_,_,_,_,_,rfl,s2,y,z⟩:=qcr o;refine zxe i k g Z (zc 0 (f.below h.below) Z (zcB h F (qnl (qi3 A (h.oldS s2) (h.oldS y) (h.oldS z)) (h.old c)) Z fun _ _ h F=>qa7 (qk Z F ?_ ?_)))<;>intro F
  ·refine X0 5 Z ?_;obtain rfl:=qb F;replace F:=b;exact ri h F Z
  exact X0 6 Z (rK ⟨_,F,rfl,h⟩ Z)
 refine qv Z ?_;obtain rfl:=qb F;replace F:=b;exact X0 4 Z (ri h F Z)
def qbd (n:Nat)(s:(List qL))(a:Bool):Option Bool :=(qaS n s a).bind fun r1 =>V (decide (r1 ≥ 0))
theorem qe9 {s:(List qL)}{a}(c:Ro w s cs1){f}(b:Ro w (V a) [.pointer f]){r:Bool}(F:qbd n s a=V r):RetV prog 306 [oV (List qL) cs1,.func (.func 307) #[] #[.pointer f]] w r:=by
 obtain⟨_,_,rfl,s1⟩:=c;obtain⟨_,g,_,rfl,-,d,_⟩:=PtR.get b Z;obtain rfl:=d;exact zV 9 func306 Z fun h=>X0 8 Z (zcI h F (qfA ⟨_,_,rfl,(h.oldS s1)⟩ (h.old b)) Z fun _ _ h F=>X0 3 Z (rb h F Z))
def qfZ (n:Nat)(list:(List qL))(a:Bool):Option Bool :=bif ((list.length:Int)==2) then(qbd n list a).bind fun r1 =>V (!r1) else V false
theorem qiS {list:(List qL)}{positive}(a:Ro w list cs1){r:Bool}(F:qfZ n list positive=V r):RetV prog 297 [oV (List qL) cs1,.bool positive] w r:=by
 obtain⟨_,_,rfl,s1⟩:=a;refine zV 14 func297 Z fun h=>zSR (qB h Z Z fun _ _ h=>X0 8 Z (qg (t:=8) F Z ?_ ?_))<;>intro F
 ·exact X0 5 Z (zcB h F (qe9 ⟨_,_,rfl,(h.oldS s1)⟩ (qg1 (x:=positive) 0 h Z Z)) Z fun _ _ h F=>X0 5 Z (rb h F Z))
 exact X0 7 Z (rb h F Z)
def qiV (_:Nat)(p:qax):Option Bool :=V p.Bt
theorem qmS {p:qax}(a:Ro w p cs1){r:Bool}(F:qiV n p=V r):RetV prog 311 [oV qax cs1] w r:=by
 obtain rfl:=qfh a;exact zV 5 func311 Z fun h=>zSR (qB h Z Z fun _ _ h=>X1 8 0 h Z (rb h F Z))
def qaf (s:(List qax)):Nat→Int→Option (Flow Int Int)| 0,_=>U| n+1,a =>bif decide (a<(s.length:Int)) then(idx s a).bind fun b =>(qiV n b).bind fun r1 =>bif r1 then V (.ret a) else qaf s n (W64 (a+1)) else V (.nxt a)
def qbG (n:Nat)(s:(List qax)):Option Int :=(qaf s n 0).bind fun o=>match o with| .ret r=>V r| .nxt _ =>V (-1)
theorem qfU {s:(List qax)}(b:Ro w s cs1){r:Int}(F:qbG n s=V r):RetV prog 310 [oV (List qax) cs1,.func (.func 311) #[] #[]] w r:=by
 obtain⟨p1,o,rfl,s1⟩:=b;refine zV 19 func310 Z fun h=>X0 11 Z ?_;obtain⟨o1,F,a⟩:=qd F;refine qn (rL (fun m e w'=>∃ k,qaf s m k=V o1∧e=[(0,oS p1 s.length o),(1,.func (.func 311) #[] #[]),(7,vi (s.length:Int)),(8,vi k)]∧SH w w' []) n ⟨_,F,rfl,h⟩ Z ?_);rintro l _ _ ⟨k,F,rfl,h⟩;rcases l with _|l
 ·cases F
 refine X0 5 Z (qk Z F ?_ ?_)<;>intro F
 ·refine X0 13 Z ?_;obtain⟨p,_,F,d,_,_,_,_,f,g,i,c⟩:=s1.ix F;obtain rfl:=qfh i;refine zxe f g d Z (zc 0 (c.below h.below) Z (zcB h F (qmS (qlr p)) Z fun _ _ h F=>qa7 (qk Z F ?_ ?_)))<;>intro F
  ·refine X0 5 Z ?_;obtain rfl:=qb F;replace F:=a;exact ri h F Z
  exact X0 6 Z (rK ⟨_,F,rfl,h⟩ Z)
 refine qv Z ?_;obtain rfl:=qb F;replace F:=a;exact X0 4 Z (ri h F Z)
def qh4 (n:Nat)(c:qF):Option Int :=(qbG n c.Bh).bind fun r1 =>V r1
theorem qnB {c:qF}(a:Ro w c cs1){r:Int}(F:qh4 n c=V r):RetV prog 298 [oV qF cs1] w r:=by
 obtain⟨_,_,_,_,_,_,rfl,s1,_,_⟩:=qaq a;exact zV 6 func298 Z fun h=>zSR (qB h Z Z fun _ _ h=>X1 6 0 h Z (zcI h F (qfU ⟨_,_,rfl,(h.oldS s1)⟩) Z fun _ _ h F=>X0 2 Z (ri h F Z)))
def qgQ (n:Nat)(c:qF)(pin:Int):Option Bool :=(qeT n c).bind fun r1 =>(qa0 n pin 0 (W64 (r1-1))).bind fun a =>V a
theorem qjy {c:qF}{pin}(a:Ro w c cs1){r:Bool}(F:qgQ n c pin=V r):RetV prog 299 [oV qF cs1,vi pin] w r:=by
 obtain⟨_,_,_,_,_,_,rfl,_,_,_⟩:=qaq a;exact zV 10 func299 Z fun h=>zSR (qB h Z Z fun _ _ h=>X1 6 0 h Z (zcI h F (qhM (h.old a)) Z fun _ _ h F=>zp1 Z (zcB h F qaK Z fun _ _ h F=>X0 2 Z (rb h F Z))))
def qh7 (n:Nat)(a_0:qF)(a_1:qas):Option Bool :=(qjN n a_1.Bf).bind fun r1 =>bif r1 then(bif (a_1.Bp==0) then bif ((a_1.Bc.length:Int)==0) then(qfZ n a_1.Bu false).bind fun b =>bif b then(qh4 n a_0).bind fun c =>bif (a_1.Bk==c) then bif decide (a_1.Bk ≥ 0) then(qgQ n a_0 a_1.To).bind fun d =>bif d then V (a_1.To != a_1.Bk) else V false else V false else V false else V false else V false else V false).bind fun b1 =>V b1 else((qfZ n a_1.Bu true).bind fun g =>bif (!g) then V true else(qfZ n a_1.Bc true).bind fun h =>bif (!h) then V true else(qeT n a_0).bind fun i =>bif (a_1.To != i) then V true else(qgQ n a_0 a_1.Bk).bind fun k =>V (!k)).bind fun b2 =>bif b2 then V false else bif (a_1.Bf==1) then(idx a_0.Bh a_1.Bk).bind fun l =>bif (!l.Bt) then(qa0 n a_1.Bp 1 3).bind fun f =>V f else V false else(bif (a_1.Bf==2) then V (a_1.Bf==2) else V (a_1.Bf==3)).bind fun a =>bif a then(idx a_0.Bh a_1.Bk).bind fun m =>bif m.Bt then V (a_1.Bp==0) else V false else V false
theorem qnz {a_0:qF}{a_1:qas}(b:Ro w a_0 cs1)(x:Ro w a_1 cs2){r:Bool}(F:qh7 n a_0 a_1=V r):RetV prog 284 [oV qF cs1,oV qas cs2] w r:=by
 obtain⟨p1,Q,X,R,Y,S,rfl,s1,_,_⟩:=qaq b;obtain⟨p4,T,p5,W,rfl,s4,s5⟩:=qaE x;refine zV 103 func284 Z fun h=>zSR (qB h Z Z fun _ c h=>qB h Z Z fun _ d h=>X1 7 0 h Z (zcB h F qpp Z fun _ _ h F=>qa7 (qk Z F ?_ ?_)))<;>intro F
 ·refine qcq ?_;obtain⟨p,i,_,F,a⟩:=bindE F;refine qaA (fun e w'=>∃ b1,p b1=V r∧e=[(4,.bool b1)]∧SH w w' []) ?_ ?_
  ·refine rD (Y1 2 0 h Z ?_);refine zd2 Z (qaG (t:=11) F Z ?_ ?_)<;>intro F
   ·refine Y1 4 0 h Z ?_;refine Y0 6 Z (qaG (t:=17) F Z ?_ ?_)<;>intro F
    ·refine Y1 4 0 h Z ?_;refine Y0 1 Z ?_;obtain⟨r2,J,F⟩:=qd F;refine qb7 r2 (vsB _) (cB 297 Z) (fun _ hb=>qiS ⟨_,_,rfl,((h.ext hb).oldS s4)⟩ J) Z Z Z Z (zd2 Z (qaG (t:=22) F Z ?_ ?_))<;>intro F
     ·refine Y1 4 0 h Z ?_;refine Y1 2 1 h Z ?_;refine Y0 1 Z ?_;obtain⟨r3,K,F⟩:=qd F;refine qb7 r3 (vsI _) (cB 298 Z) (fun _ hb=>qnB ((h.ext hb).old b) K) Z Z Z Z (Y0 4 Z (qaG (t:=29) F Z ?_ ?_))<;>intro F
      ·refine Y1 4 0 h Z ?_;refine Y0 4 Z (qaG (t:=34) F Z ?_ ?_)<;>intro F
       ·refine Y1 2 1 h Z ?_;refine Y1 4 0 h Z ?_;refine Y0 1 Z ?_;obtain⟨r4,L,F⟩:=qd F;refine qb7 r4 (vsB _) (cB 299 Z) (fun _ hb=>qjy ((h.ext hb).old b) L) Z Z Z Z (zd2 Z (qaG (t:=40) F Z ?_ ?_))<;>intro F
        ·refine Y1 4 0 h Z ?_;refine Y1 4 0 h Z ?_;refine Y0 4 Z (dN h fun _ h=>?_);replace h:=h.p [] Z;obtain rfl:=qb F;exact rG ⟨_,a,rfl,h⟩ Z
        refine Y0 7 Z (dN h fun _ h=>?_);replace h:=h.p [] Z;obtain rfl:=qb F;exact rG ⟨_,a,rfl,h⟩ Z
       refine Y0 13 Z (dN h fun _ h=>?_);replace h:=h.p [] Z;obtain rfl:=qb F;exact rG ⟨_,a,rfl,h⟩ Z
      refine Y0 18 Z (dN h fun _ h=>?_);replace h:=h.p [] Z;obtain rfl:=qb F;exact rG ⟨_,a,rfl,h⟩ Z
     refine Y0 25 Z (dN h fun _ h=>?_);replace h:=h.p [] Z;obtain rfl:=qb F;exact rG ⟨_,a,rfl,h⟩ Z
    refine Y0 30 Z (dN h fun _ h=>?_);replace h:=h.p [] Z;obtain rfl:=qb F;exact rG ⟨_,a,rfl,h⟩ Z
   refine Y0 36 Z (dN h fun _ h=>?_);replace h:=h.p [] Z;obtain rfl:=qb F;exact rG ⟨_,a,rfl,h⟩ Z
  rintro _ _ ⟨b1,F,rfl,h⟩;subst i;exact rb h F Z
 refine zKSS ?_;obtain⟨u,l,_,F,f⟩:=bindE F;refine qaA (fun e w'=>∃ b2,u b2=V r∧e=[(2,vp c),(3,vp d),(70,.bool b2)]∧SH w w' [oX d (qei a_1 p4 p5 T W) 187,oX c (qI a_0 p1 X Y Q R S) 184]) ?_ ?_
 ·refine rD (Y1 2 0 h Z ?_);obtain⟨r6,O,F⟩:=qd F;refine qb7 r6 (vsB _) (cB 297 Z) (fun _ hb=>qiS ⟨_,_,rfl,((h.ext hb).oldS s4)⟩ O) Z Z Z Z (zd2 Z (qaG (t:=51) F Z ?_ ?_))<;>intro F
  ·refine Y0 19 Z (dN h fun _ h=>?_);obtain rfl:=qb F;exact rG ⟨_,f,rfl,h⟩ Z
  refine Y1 4 0 h Z ?_;refine Y0 1 Z ?_;obtain⟨r7,P,F⟩:=qd F;refine qb7 r7 (vsB _) (cB 297 Z) (fun _ hb=>qiS ⟨_,_,rfl,((h.ext hb).oldS s5)⟩ P) Z Z Z Z (Y0 4 Z (qaG (t:=57) F Z ?_ ?_))<;>intro F
  ·refine Y0 13 Z (dN h fun _ h=>?_);obtain rfl:=qb F;exact rG ⟨_,f,rfl,h⟩ Z
  refine Y1 4 0 h Z ?_;refine Y1 2 1 h Z ?_;refine Y0 1 Z ?_;obtain⟨r8,m,F⟩:=qd F;refine qb7 r8 (vsI _) (cB 142 Z) (fun _ hb=>qhM ((h.ext hb).old b) m) Z Z Z Z (Y0 4 Z (qaG (t:=64) F Z ?_ ?_))<;>intro F
  ·refine Y0 6 Z (dN h fun _ h=>?_);obtain rfl:=qb F;exact rG ⟨_,f,rfl,h⟩ Z
  refine Y1 2 1 h Z ?_;refine Y1 4 0 h Z ?_;refine Y0 1 Z ?_;obtain⟨r9,o,F⟩:=qd F;refine qb7 r9 (vsB _) (cB 299 Z) (fun _ hb=>qjy ((h.ext hb).old b) o) Z Z Z Z (Y0 3 Z (dN h fun _ h=>?_));obtain rfl:=qb F;exact rG ⟨_,f,rfl,h⟩ Z
 rintro _ _ ⟨b2,F,rfl,h⟩;subst l;refine qk Z F ?_ ?_<;>intro F
 ·exact X0 4 Z (rb h F Z)
 refine X1 13 0 h Z (qk Z F ?_ ?_)<;>intro F
 ·refine X2 6 1 0 h Z ?_;obtain⟨_,_,F,A,_,_,_,_,C,H,M,y⟩:=s1.ix F;obtain rfl:=qfh M;refine zxe C H A Z (zp1 Z (zc 3 (y.below h.below) Z (zp2 Z (qg (t:=83) F Z ?_ ?_))))<;>intro F
  ·exact X1 5 0 h Z (zcB h F qaK Z fun _ _ h F=>X0 3 Z (rb h F Z))
  exact X0 6 Z (rb h F Z)
 refine X0 6 Z ?_;obtain⟨s,k,_,F,g⟩:=bindE F;refine qaA (fun e w'=>∃ v,s v=V r∧e=[(2,vp c),(3,vp d),(88,.bool v)]∧SH w w' [oX d (qei a_1 p4 p5 T W) 187,oX c (qI a_0 p1 X Y Q R S) 184]) ?_ ?_
 ·refine qk Z F ?_ ?_<;>intro F
  ·refine qf2 ?_;obtain rfl:=qb F;exact rG ⟨_,g,rfl,h⟩ Z
  refine X0 4 Z ?_;obtain rfl:=qb F;exact rG ⟨_,g,rfl,h⟩ Z
 rintro _ _ ⟨v,F,rfl,h⟩;subst k;refine qk Z F ?_ ?_<;>intro F
 ·refine X2 6 1 0 h Z ?_;obtain⟨_,_,F,B,_,_,_,_,D,I,N,z⟩:=s1.ix F;obtain rfl:=qfh N;refine zxe D I B Z (zp1 Z (zc 3 (z.below h.below) Z (zp1 Z (qg (t:=98) F Z ?_ ?_))))<;>intro F
  ·exact X1 9 0 h Z (rb h F Z)
  exact X0 6 Z (rb h F Z)
 exact X0 6 Z (rb h F Z)
def qfX (_:Nat)(b:qas)(a:qas):Option Bool :=bif (b.Bf==a.Bf) then bif (b.Bk==a.Bk) then V (b.To==a.To) else V false else V false
theorem qlQ {k:qas}{g:qas}(b:Ro w k cs1){f}(c:Ro w (V g) [.pointer f]){r:Bool}(F:qfX n k g=V r):RetV prog 286 [oV qas cs1,.pointer f] w r:=by
 obtain⟨_,_,_,_,rfl,_,_⟩:=qaE b;obtain⟨_,i,_,rfl,-,d,a⟩:=PtR.get c Z;obtain⟨_,_,_,_,rfl,_,_⟩:=qaE d;refine zV 23 func286 Z fun h=>zSR (qB h Z Z fun _ _ h=>X1 7 0 h Z (zc 0 (a.below h.below) Z (zp2 Z (qg (t:=9) F Z ?_ ?_))))<;>intro F
 ·refine X1 7 0 h Z (zc 1 (a.below h.below) Z (X0 4 Z (qg (t:=16) F Z ?_ ?_)))<;>intro F
  ·exact X1 7 0 h Z (zc 2 (a.below h.below) Z (X0 5 Z (rb h F Z)))
  exact X0 8 Z (rb h F Z)
 exact X0 15 Z (rb h F Z)
def qX (s:(List qas))(a:qas):Nat→Int→Option (Flow Int Int)| 0,_=>U| n+1,b =>bif decide (b<(s.length:Int)) then(idx s b).bind fun c =>(qfX n c a).bind fun r1 =>bif r1 then V (.ret b) else qX s a n (W64 (b+1)) else V (.nxt b)
def qbn (n:Nat)(s:(List qas))(a:qas):Option Int :=(qX s a n 0).bind fun o=>match o with| .ret r=>V r| .nxt _ =>V (-1)
theorem qff {s:(List qas)}{a:qas}(d:Ro w s cs1){v}(c:Ro w (V a) [.pointer v]){r:Int}(F:qbn n s a=V r):RetV prog 134 [oV (List qas) cs1,.func (.func 286) #[] #[.pointer v]] w r:=by
 obtain⟨p1,x,rfl,s1⟩:=d;obtain⟨b1,t,_,rfl,-,l,_⟩:=PtR.get c Z;obtain⟨_,_,_,_,rfl,_,_⟩:=qaE l;refine zV 19 func134 Z fun h=>X0 11 Z ?_;obtain⟨o1,F,b⟩:=qd F;refine qn (rL (fun m e w'=>∃ p,qX s a m p=V o1∧e=[(0,oS p1 s.length x),(1,.func (.func 286) #[] #[.pointer (V ⟨b1,t,U⟩)]),(7,vi (s.length:Int)),(8,vi p)]∧SH w w' []) n ⟨_,F,rfl,h⟩ Z ?_);rintro u _ _ ⟨p,F,rfl,h⟩;rcases u with _|u
 ·cases F
 refine X0 5 Z (qk Z F ?_ ?_)<;>intro F
 ·refine X0 13 Z ?_;obtain⟨A,_,F,g,_,_,_,_,i,k,o,f⟩:=s1.ix F;obtain⟨_,_,_,_,rfl,y,z⟩:=qaE o;refine zxe i k g Z (zc 0 (f.below h.below) Z (zcB h F (qlQ (qiP A (h.oldS y) (h.oldS z)) (h.old c)) Z fun _ _ h F=>qa7 (qk Z F ?_ ?_)))<;>intro F
  ·refine X0 5 Z ?_;obtain rfl:=qb F;replace F:=b;exact ri h F Z
  exact X0 6 Z (rK ⟨_,F,rfl,h⟩ Z)
 refine qv Z ?_;obtain rfl:=qb F;replace F:=b;exact X0 4 Z (ri h F Z)
def qaJ (n:Nat)(s:(List qas))(a:qas):Option Bool :=(qbn n s a).bind fun r1 =>V (decide (r1 ≥ 0))
theorem qeQ {s:(List qas)}{a:qas}(c:Ro w s cs1){f}(b:Ro w (V a) [.pointer f]){r:Bool}(F:qaJ n s a=V r):RetV prog 285 [oV (List qas) cs1,.func (.func 286) #[] #[.pointer f]] w r:=by
 obtain⟨_,_,rfl,s1⟩:=c;obtain⟨_,g,_,rfl,-,d,_⟩:=PtR.get b Z;obtain⟨_,_,_,_,rfl,_,_⟩:=qaE d;exact zV 9 func285 Z fun h=>X0 8 Z (zcI h F (qff ⟨_,_,rfl,(h.oldS s1)⟩ (h.old b)) Z fun _ _ h F=>X0 3 Z (rb h F Z))
def qcL (c:qF):Nat→Int→Option (Flow Bool Int)| 0,_=>U| n+1,a =>bif decide (a<(c.Az.length:Int)) then(idx c.Az a).bind fun b =>(qh7 n c b).bind fun r1 =>bif (!r1) then V (.ret false) else(subS c.Az 0 a).bind fun f =>(qaJ n f b).bind fun d =>bif d then V (.ret false) else qcL c n (W64 (a+1)) else V (.nxt a)
def qgS (n:Nat)(c:qF):Option Bool :=(qcL c n 0).bind fun o=>match o with| .ret r=>V r| .nxt _ =>V (decide ((c.Az.length:Int)≤8))
theorem qms {c:qF}(d:Ro w c cs1){r:Bool}(F:qgS n c=V r):RetV prog 272 [oV qF cs1] w r:=by
 obtain⟨p1,I,B,z,K,J,rfl,_,s2,_⟩:=qaq d;refine zV 30 func272 Z fun h=>zSR (qB h Z Z fun _ b h=>X1 10 0 h Z ?_);obtain⟨o1,F,a⟩:=qd F;refine qn (rL (fun m e w'=>∃ v,qcL c m v=V o1∧e=[(1,vp b),(6,oS B c.Az.length z),(7,vi (c.Az.length:Int)),(8,vi v)]∧SH w w' [oX b (qI c p1 B K I z J) 184]) n ⟨_,F,rfl,h⟩ Z ?_);rintro A _ _ ⟨v,F,rfl,h⟩;rcases A with _|A
 ·cases F
 refine X0 5 Z (qk Z F ?_ ?_)<;>intro F
 ·refine X0 6 Z ?_;obtain⟨y,_,F,l,_,_,_,_,p,s,u,k⟩:=s2.ix F;obtain⟨_,_,_,_,rfl,C,D⟩:=qaE u;refine zxe p s l Z (zc 0 (k.below h.below) Z (qi qa h Z Z Z fun _ _ h=>zp1 Z (zs 0 h Z fun _ h=>X2 5 1 0 h Z (zcB h F (qnz (h.old d) (qiP y (h.oldS C) (h.oldS D))) Z fun _ _ h F=>zp2 Z (qg (t:=17) F Z ?_ ?_)))))<;>intro F
  ·refine X0 8 Z (qb2 Z Z (X0 4 Z ?_));obtain rfl:=qb F;replace F:=a;exact rb h F Z
  refine X1 7 1 h Z ?_;obtain⟨_,i,F⟩:=qd F;obtain⟨_,_,g,f,o,H⟩:=qnE (h.oldS s2) i;refine r_v (qkt qa Z Z Z (qnM H Z) g f o Z Z Z Z) Z ?_;have L:=qnH s2 i g f;refine X0 3 Z (zcB h F (qeQ ⟨_,_,rfl,(h.oldS L)⟩ (qg1 (x:=y) 0 h Z (qiP y (h.oldS C) (h.oldS D)))) Z fun _ _ h F=>X0 2 Z (qk Z F ?_ ?_))<;>intro F
  ·refine X0 4 Z ?_;obtain rfl:=qb F;replace F:=a;exact rb h F Z
  refine X0 6 Z ?_;replace h:=h.p [1] Z;exact rK ⟨_,F,rfl,h⟩ Z
 refine qv Z ?_;obtain rfl:=qb F;replace F:=a;exact X1 8 0 h Z (rb h F Z)
def qjI (_:Nat)(a:qas)(b:Int):Option Bool :=V (a.Bf==b)
theorem qny {a:qas}{i}(b:Ro w a cs1){g}(c:Ro w (V i) [.pointer g]){r:Bool}(F:qjI n a i=V r):RetV prog 300 [oV qas cs1,.pointer g] w r:=by
 obtain⟨_,_,_,_,rfl,_,_⟩:=qaE b;obtain⟨_,k,_,rfl,-,f,d⟩:=PtR.get c Z;obtain rfl:=f;exact zV 8 func300 Z fun h=>zSR (qB h Z Z fun _ _ h=>X1 6 0 h Z (zc 0 (d.below h.below) Z (X0 3 Z (rb h F Z))))
def qaj (s:(List qas))(a:Int):Nat→Int→Option (Flow Int Int)| 0,_=>U| n+1,b =>bif decide (b<(s.length:Int)) then(idx s b).bind fun c =>(qjI n c a).bind fun r1 =>bif r1 then V (.ret b) else qaj s a n (W64 (b+1)) else V (.nxt b)
def qbS (n:Nat)(s:(List qas))(a:Int):Option Int :=(qaj s a n 0).bind fun o=>match o with| .ret r=>V r| .nxt _ =>V (-1)
theorem qf4 {s:(List qas)}{a}(d:Ro w s cs1){v}(c:Ro w (V a) [.pointer v]){r:Int}(F:qbS n s a=V r):RetV prog 134 [oV (List qas) cs1,.func (.func 300) #[] #[.pointer v]] w r:=by
 obtain⟨p1,x,rfl,s1⟩:=d;obtain⟨b1,t,_,rfl,-,l,_⟩:=PtR.get c Z;obtain rfl:=l;refine zV 19 func134 Z fun h=>X0 11 Z ?_;obtain⟨o1,F,b⟩:=qd F;refine qn (rL (fun m e w'=>∃ p,qaj s a m p=V o1∧e=[(0,oS p1 s.length x),(1,.func (.func 300) #[] #[.pointer (V ⟨b1,t,U⟩)]),(7,vi (s.length:Int)),(8,vi p)]∧SH w w' []) n ⟨_,F,rfl,h⟩ Z ?_);rintro u _ _ ⟨p,F,rfl,h⟩;rcases u with _|u
 ·cases F
 refine X0 5 Z (qk Z F ?_ ?_)<;>intro F
 ·refine X0 13 Z ?_;obtain⟨z,_,F,g,_,_,_,_,i,k,o,f⟩:=s1.ix F;obtain⟨_,_,_,_,rfl,s2,y⟩:=qaE o;refine zxe i k g Z (zc 0 (f.below h.below) Z (zcB h F (qny (qiP z (h.oldS s2) (h.oldS y)) (h.old c)) Z fun _ _ h F=>qa7 (qk Z F ?_ ?_)))<;>intro F
  ·refine X0 5 Z ?_;obtain rfl:=qb F;replace F:=b;exact ri h F Z
  exact X0 6 Z (rK ⟨_,F,rfl,h⟩ Z)
 refine qv Z ?_;obtain rfl:=qb F;replace F:=b;exact X0 4 Z (ri h F Z)
def qbD (n:Nat)(s:(List qas))(a:Int):Option Bool :=(qbS n s a).bind fun r1 =>V (decide (r1 ≥ 0))
theorem qfC {s:(List qas)}{a}(c:Ro w s cs1){f}(b:Ro w (V a) [.pointer f]){r:Bool}(F:qbD n s a=V r):RetV prog 285 [oV (List qas) cs1,.func (.func 300) #[] #[.pointer f]] w r:=by
 obtain⟨_,_,rfl,s1⟩:=c;obtain⟨_,g,_,rfl,-,d,_⟩:=PtR.get b Z;obtain rfl:=d;exact zV 9 func285 Z fun h=>X0 8 Z (zcI h F (qf4 ⟨_,_,rfl,(h.oldS s1)⟩ (h.old b)) Z fun _ _ h F=>X0 3 Z (rb h F Z))
def qdR (n:Nat)(c:qF)(kind:Int):Option Bool :=(qbD n c.Az kind).bind fun r1 =>V r1
theorem qeJ {c:qF}{kind}(a:Ro w c cs1){r:Bool}(F:qdR n c kind=V r):RetV prog 287 [oV qF cs1,vi kind] w r:=by
 obtain⟨_,_,_,_,_,_,rfl,_,s2,_⟩:=qaq a;exact zV 9 func287 Z fun h=>zSR (qB h Z Z fun _ _ h=>qB h Z Z fun _ _ h=>X1 7 1 h Z (zcB h F (qfC ⟨_,_,rfl,(h.oldS s2)⟩ (qg1 (x:=kind) 0 h Z Z)) Z fun _ _ h F=>X0 2 Z (rb h F Z)))
def qbo (a_0:qF):Nat→Int→Int→Option (Int×Int)| 0,_,_=>U| n+1,b,a =>bif decide (a<(a_0.Bh.length:Int)) then(idx a_0.Bh a).bind fun c =>bif c.Bt then qbo a_0 n (W64 (b+1)) (W64 (a+1)) else qbo a_0 n b (W64 (a+1)) else V (b,a)
def qgu (n:Nat)(a_0:qF):Option Bool :=(qbo a_0 n 0 0).bind fun o=>match o with| (a,_) =>bif (a_0.Bf==1) then bif (a==0) then(qeT n a_0).bind fun r1 =>(shlS 1 r1).bind fun k =>bif ((a_0.Bs.length:Int)==k) then(qb6 n a_0.Bs 0 1).bind fun b =>V b else V false else V false else bif (a_0.Bf==2) then bif (a==1) then bif ((a_0.Bs.length:Int)==0) then(qdR n a_0 1).bind fun c =>bif (!c) then(qdR n a_0 2).bind fun d =>(qdR n a_0 3).bind fun f =>V (!(d==f)) else V false else V false else V false else bif (a_0.Bf==3) then bif (a==1) then bif ((a_0.Bs.length:Int)==0) then(qdR n a_0 1).bind fun g =>bif g then(qdR n a_0 2).bind fun h =>bif h then(qdR n a_0 3).bind fun i =>V (!i) else V false else V false else V false else V false else V false
theorem qmg {a_0:qF}(a:Ro w a_0 cs1){r:Bool}(F:qgu n a_0=V r):RetV prog 273 [oV qF cs1] w r:=by
 obtain⟨p1,z,H,C,I,D,rfl,s1,_,N⟩:=qaq a;refine zV 83 func273 Z fun h=>zSR (qB h Z Z fun _ c h=>X1 14 0 h Z ?_);obtain⟨o1,F,d⟩:=qd F;refine qn (rL (fun m e w'=>∃ x y,qbo a_0 m x y=V o1∧e=[(1,vp c),(3,vi x),(7,oS p1 a_0.Bh.length z),(8,vi (a_0.Bh.length:Int)),(9,vi y)]∧SH w w' [oX c (qI a_0 p1 H I z C D) 184]) n ⟨_,_,F,rfl,h⟩ Z ?_);rintro A _ _ ⟨x,y,F,rfl,h⟩;rcases A with _|A
 ·cases F
 refine X0 5 Z (qk Z F ?_ ?_)<;>intro F
 ·refine zKSBSR ?_;obtain⟨_,_,F,g,_,_,_,_,i,k,l,f⟩:=s1.ix F;obtain rfl:=qfh l;refine zxe i k g Z (zc 0 (f.below h.below) Z (qi qa h Z Z Z fun _ _ h=>zs 0 h Z fun _ h=>X1 6 0 h Z (qk Z F ?_ ?_)))<;>intro F
  ·refine X0 10 Z ?_;replace h:=h.p [1] Z;exact rK ⟨_,_,F,rfl,h⟩ Z
  refine X0 6 Z ?_;replace h:=h.p [1] Z;exact rK ⟨_,_,F,rfl,h⟩ Z
 refine qv Z ?_;obtain rfl:=qb F;replace F:=d;refine X1 12 0 h Z (qk Z F ?_ ?_)<;>intro F
 ·refine qcq (rD (zd3 Z (qaG (t:=24) F Z ?_ ?_)))<;>intro F
  ·refine Y1 4 0 h Z ?_;refine Y1 4 0 h Z ?_;refine Y0 1 Z ?_;obtain⟨r1,o,F⟩:=qd F;refine qb7 r1 (vsI _) (cB 142 Z) (fun _ O=>qhM ((h.ext O).old a) o) Z Z Z Z (Y0 1 Z ?_);obtain⟨_,b,F⟩:=qd F;obtain⟨B,b⟩:=qoK b;refine d_v (fun _ O=>quP B Z Z) Z ?_;rw[b];refine Y0 4 Z (qaG (t:=33) F Z ?_ ?_)<;>intro F
   ·refine Y1 4 0 h Z ?_;refine Y0 1 Z ?_;obtain⟨J,p,F⟩:=qd F;exact qb7 J (vsB _) (cB 78 Z) (fun _ O=>qcs ⟨_,_,rfl,((h.ext O).oldS N)⟩ p) Z Z Z Z (zd2 Z (dN h fun _ h=>rb h F Z))
   exact Y0 5 Z (dN h fun _ h=>rb h F Z)
  exact Y0 14 Z (dN h fun _ h=>rb h F Z)
 refine X0 5 Z (qk Z F ?_ ?_)<;>intro F
 ·refine qcq (rD (zd3 Z (qaG (t:=42) F Z ?_ ?_)))<;>intro F
  ·refine Y1 4 0 h Z ?_;refine Y0 6 Z (qaG (t:=48) F Z ?_ ?_)<;>intro F
   ·refine Y1 2 0 h Z ?_;refine Y0 1 Z ?_;obtain⟨K,s,F⟩:=qd F;refine qb7 K (vsB _) (cB 287 Z) (fun _ O=>qeJ ((h.ext O).old a) s) Z Z Z Z (Y0 4 Z (qaG (t:=53) F Z ?_ ?_))<;>intro F
    ·refine Y1 2 0 h Z ?_;refine Y0 1 Z ?_;obtain⟨L,u,F⟩:=qd F;refine qb7 L (vsB _) (cB 287 Z) (fun _ O=>qeJ ((h.ext O).old a) u) Z Z Z Z (Y1 2 0 h Z ?_);refine Y0 1 Z ?_;obtain⟨M,v,F⟩:=qd F;exact qb7 M (vsB _) (cB 287 Z) (fun _ O=>qeJ ((h.ext O).old a) v) Z Z Z Z (Y0 4 Z (dN h fun _ h=>rb h F Z))
    exact Y0 7 Z (dN h fun _ h=>rb h F Z)
   exact Y0 12 Z (dN h fun _ h=>rb h F Z)
  exact Y0 18 Z (dN h fun _ h=>rb h F Z)
 refine X0 5 Z (qk Z F ?_ ?_)<;>intro F
 ·refine X0 5 Z (qg (t:=64) F Z ?_ ?_)<;>intro F
  ·refine X1 10 0 h Z (qg (t:=70) F Z ?_ ?_)<;>intro F
   ·refine X1 3 0 h Z (zcB h F (qeJ (h.old a)) Z fun _ _ h F=>zp2 Z (qg (t:=74) F Z ?_ ?_))<;>intro F
    ·refine X1 3 0 h Z (zcB h F (qeJ (h.old a)) Z fun _ _ h F=>zp2 Z (qg (t:=78) F Z ?_ ?_))<;>intro F
     ·exact X1 3 0 h Z (zcB h F (qeJ (h.old a)) Z fun _ _ h F=>X0 5 Z (rb h F Z))
     exact X0 6 Z (rb h F Z)
    exact X0 10 Z (rb h F Z)
   exact X0 14 Z (rb h F Z)
  exact X0 20 Z (rb h F Z)
 exact X0 6 Z (rb h F Z)
def qkR (n:Nat)(c:qF):Option Bool :=(qio n c.Bi).bind fun r1 =>bif r1 then(qjZ n c.Bh).bind fun a =>bif a then(qgS n c).bind fun b =>bif b then(qa0 n c.Cc 0 100000).bind fun d =>bif d then(qa0 n c.Bz 0 100000).bind fun f =>bif f then(qgu n c).bind fun g =>V g else V false else V false else V false else V false else V false
theorem qpZ {c:qF}(a:Ro w c cs1){r:Bool}(F:qkR n c=V r):RetV prog 242 [oV qF cs1] w r:=by
 obtain⟨_,_,_,_,_,_,rfl,s1,_,_⟩:=qaq a;refine zV 29 func242 Z fun h=>zSR (qB h Z Z fun _ _ h=>X1 6 0 h Z (zcB h F qkv Z fun _ _ h F=>zp1 Z (qg (t:=6) F Z ?_ ?_)))<;>intro F
 ·refine X1 5 0 h Z (zcB h F (qpj ⟨_,_,rfl,(h.oldS s1)⟩) Z fun _ _ h F=>zp2 Z (qg (t:=11) F Z ?_ ?_))<;>intro F
  ·refine X1 3 0 h Z (zcB h F (qms (h.old a)) Z fun _ _ h F=>zp2 Z (qg (t:=15) F Z ?_ ?_))<;>intro F
   ·refine X1 5 0 h Z (zcB h F qaK Z fun _ _ h F=>zp2 Z (qg (t:=20) F Z ?_ ?_))<;>intro F
    ·refine X1 5 0 h Z (zcB h F qaK Z fun _ _ h F=>zp2 Z (qg (t:=25) F Z ?_ ?_))<;>intro F
     ·exact X1 3 0 h Z (zcB h F (qmg (h.old a)) Z fun _ _ h F=>X0 3 Z (rb h F Z))
     exact X0 5 Z (rb h F Z)
    exact X0 10 Z (rb h F Z)
   exact X0 15 Z (rb h F Z)
  exact X0 19 Z (rb h F Z)
 exact X0 24 Z (rb h F Z)
def qc5 (l:qw):Nat→(List ByteArray)→Int→Option (Flow Bool ((List ByteArray)×Int))| 0,_,_=>U| n+1,b,a =>bif decide (a<(l.As.length:Int)) then(idx l.As a).bind fun c =>(qkR n c).bind fun r1 =>bif (!r1) then V (.ret false) else(appS b ([c.Bi]:List ByteArray)).bind fun d =>qc5 l n d (W64 (a+1)) else V (.nxt (b,a))
def qiJ (n:Nat)(l:qw):Option Bool :=(qc5 l n ([]:List ByteArray) 0).bind fun o=>match o with| .ret r=>V r| .nxt (b,_) =>bif decide ((l.As.length:Int)≤8) then(qeG n b).bind fun a =>V a else V false
theorem qn7 {l:qw}(f:Ro w l cs1){r:Bool}(F:qiJ n l=V r):RetV prog 190 [oV qw cs1] w r:=by
 obtain⟨p1,y,rfl,s1⟩:=qcX f;refine zV 30 func190 Z fun h=>zSR (qB h Z Z fun _ c h=>X1 14 0 h Z ?_);replace h:=h.nil (α:=ByteArray);obtain⟨o1,F,d⟩:=qd F;refine qn (rL (fun m e w'=>∃ S1 v b u x s,qc5 l m x s=V o1∧e=[(1,vp c),(3,oS v b u),(7,oS p1 l.As.length y),(8,vi (l.As.length:Int)),(9,vi s)]∧SH w w' [oW S1 (x:List ByteArray) [oS v b u],oX c [oS p1 l.As.length y] 26]) n ⟨_,_,_,_,_,_,F,rfl,h⟩ Z ?_);rintro z _ _ ⟨S1,v,b,u,x,s,F,rfl,h⟩;obtain rfl:=(h.sl 0 Z).2;rcases z with _|z
 ·cases F
 refine X0 5 Z (qk Z F ?_ ?_)<;>intro F
 ·refine zKSBSR ?_;obtain⟨A,_,F,i,_,_,_,_,k,o,p,g⟩:=s1.ix F;obtain⟨_,_,_,_,_,_,rfl,s2,C,D⟩:=qaq p;refine zxe k o i Z (zc 0 (g.below h.below) Z (qi qa h Z Z Z fun _ _ h=>zs 0 h Z fun _ h=>X1 5 0 h Z (zcB h F (qpZ (qqJ A (h.oldS s2) (h.oldS C) (h.oldS D))) Z fun _ _ h F=>X0 2 Z (qk Z F ?_ ?_))))<;>intro F
  ·refine X0 4 Z ?_;obtain rfl:=qb F;replace F:=d;exact rb h F Z
  refine X1 5 0 h Z (qm qa [.tmp 18] _ ([A.Bi]:List ByteArray) h Z Z Z Z Z Z Z Z Z ⟨rfl,trivial⟩ Z fun _ _ _ h=>?_);obtain⟨_,a,F⟩:=qd F;obtain⟨B,a⟩:=qC a;refine qaz qa 2 h Z (h.sl 0 Z).1 (h.sl 0 Z).2 Z Z Z Z Z Z Z Z Z B a Z fun _ _ _ _ h=>X0 7 Z ?_;replace h:=h.p [2,3] Z;exact rK ⟨_,_,_,_,_,_,F,rfl,h⟩ Z
 refine qv Z ?_;obtain rfl:=qb F;replace F:=d;refine X1 7 1 h Z (qg (t:=26) F Z ?_ ?_)<;>intro F
 ·exact X0 3 Z (zcB h F (qgj (h.own 0 Z)) Z fun _ _ h F=>X0 3 Z (rb h F Z))
 exact X0 5 Z (rb h F Z)
def qbv (d:qh):Nat→(List ByteArray)→Int→Option ((List ByteArray)×Int)| 0,_,_=>U| n+1,b,a =>bif decide (a<(d.Ai.length:Int)) then(idx d.Ai a).bind fun f =>(appS b ([f.Bi]:List ByteArray)).bind fun c =>qbv d n c (W64 (a+1)) else V (b,a)
def qbs (d:qh):Nat→(List ByteArray)→Int→Option ((List ByteArray)×Int)| 0,_,_=>U| n+1,b,a =>bif decide (a<(d.Ab.length:Int)) then(idx d.Ab a).bind fun f =>(appS b ([f.Bi]:List ByteArray)).bind fun c =>qbs d n c (W64 (a+1)) else V (b,a)
def qfz (n:Nat)(d:qh):Option Bool :=(qbs d n ([]:List ByteArray) 0).bind fun o=>match o with| (a,_) =>(qbv d n ([]:List ByteArray) 0).bind fun o=>match o with| (b,_) =>bif decide ((a.length:Int)≤14) then bif decide ((d.Am.length:Int)≤30) then bif decide ((b.length:Int)≤8) then(qeG n a).bind fun r1 =>bif r1 then(qeG n d.Am).bind fun c =>bif c then(qeG n b).bind fun f =>V f else V false else V false else V false else V false else V false
theorem qlw {d:qh}(s:Ro w d cs1){r:Bool}(F:qfz n d=V r):RetV prog 191 [oV qh cs1] w r:=by
 obtain⟨p1,K,W,R,N,L,rfl,s1,s2,s3⟩:=qaY s;refine zV 62 func191 Z fun h=>zSR (qB h Z Z fun _ a h=>X1 15 0 h Z ?_);replace h:=h.nil (α:=ByteArray);obtain⟨o1,F,o⟩:=qd F;refine qn (rL (fun m e w'=>∃ S1 l f k i I,qbs d m i I=V o1∧e=[(1,vp a),(3,oS l f k),(4,oS U 0 0),(10,oS p1 d.Ab.length K),(11,vi (d.Ab.length:Int)),(12,vi I)]∧SH w w' [oW S1 (i:List ByteArray) [oS l f k],oX a (qaw d p1 W N K R L) 31]) n ⟨_,_,_,_,_,_,F,rfl,h⟩ Z ?_);rintro S _ _ ⟨S1,l,f,k,i,I,F,rfl,h⟩;obtain rfl:=(h.sl 0 Z).2;rcases S with _|S
 ·cases F
 refine X0 5 Z (qk Z F ?_ ?_)<;>intro F
 ·refine zKSBSR ?_;obtain⟨y1,_,F,x,_,_,_,_,z,B,D,u⟩:=s1.ix F;obtain⟨_,_,rfl,_⟩:=qaL D;refine zxe z B x Z (zc 0 (u.below h.below) Z (qi qa h Z Z Z fun _ _ h=>zs 0 h Z fun _ h=>X1 5 0 h Z (qm qa [.tmp 18] _ ([y1.Bi]:List ByteArray) h Z Z Z Z Z Z Z Z Z ⟨rfl,trivial⟩ Z fun _ _ _ h=>?_)));obtain⟨_,b,F⟩:=qd F;obtain⟨X,b⟩:=qC b;refine qaz qa 2 h Z (h.sl 0 Z).1 (h.sl 0 Z).2 Z Z Z Z Z Z Z Z Z X b Z fun _ _ _ _ h=>X0 7 Z ?_;replace h:=h.p [2,3] Z;exact rK ⟨_,_,_,_,_,_,F,rfl,h⟩ Z
 refine qv Z ?_;obtain rfl:=qb F;replace F:=o;refine X1 8 1 h Z ?_;replace h:=h.nil (α:=ByteArray);obtain⟨o2,F,p⟩:=qd F;refine qn (rL (fun m e w'=>∃ Q O g M P J,qbv d m P J=V o2∧e=[(1,vp a),(3,oS l i.length k),(4,oS O g M),(23,oS N d.Ai.length L),(24,vi (d.Ai.length:Int)),(25,vi J)]∧SH w w' [oW Q (P:List ByteArray) [oS O g M],oW S1 (i:List ByteArray) [oS l i.length k],oX a (qaw d p1 W N K R L) 31]) n ⟨_,_,_,_,_,_,F,rfl,h⟩ Z ?_);rintro T _ _ ⟨Q,O,g,M,P,J,F,rfl,h⟩;obtain rfl:=(h.sl 0 Z).2;rcases T with _|T
 ·cases F
 refine X0 5 Z (qk Z F ?_ ?_)<;>intro F
 ·refine zKSBSR ?_;obtain⟨y2,_,F,y,_,_,_,_,A,C,H,v⟩:=s3.ix F;obtain rfl:=qe7 H;refine zxe A C y Z (zc 0 (v.below h.below) Z (qi qa h Z Z Z fun _ _ h=>zs 0 h Z fun _ h=>X1 5 0 h Z (qm qa [.tmp 31] _ ([y2.Bi]:List ByteArray) h Z Z Z Z Z Z Z Z Z ⟨rfl,trivial⟩ Z fun _ _ _ h=>?_)));obtain⟨_,c,F⟩:=qd F;obtain⟨Y,c⟩:=qC c;refine qaz qa 2 h Z (h.sl 0 Z).1 (h.sl 0 Z).2 Z Z Z Z Z Z Z Z Z Y c Z fun _ _ _ _ h=>X0 7 Z ?_;replace h:=h.p [2,3,4] Z;exact rK ⟨_,_,_,_,_,_,F,rfl,h⟩ Z
 refine qv Z ?_;obtain rfl:=qb F;replace F:=p;refine X0 6 Z (qg (t:=38) F Z ?_ ?_)<;>intro F
 ·refine X1 10 2 h Z (qg (t:=44) F Z ?_ ?_)<;>intro F
  ·refine X0 8 Z (qg (t:=49) F Z ?_ ?_)<;>intro F
   ·refine X0 3 Z (zcB h F (qgj (h.own 1 Z)) Z fun _ _ h F=>zp2 Z (qg (t:=53) F Z ?_ ?_))<;>intro F
    ·refine X1 5 2 h Z (zcB h F (qgj ⟨_,_,rfl,(h.oldS s2)⟩) Z fun _ _ h F=>zp2 Z (qg (t:=58) F Z ?_ ?_))<;>intro F
     ·exact X0 3 Z (zcB h F (qgj (h.own 0 Z)) Z fun _ _ h F=>X0 3 Z (rb h F Z))
     exact X0 5 Z (rb h F Z)
    exact X0 10 Z (rb h F Z)
   exact X0 14 Z (rb h F Z)
  exact X0 19 Z (rb h F Z)
 exact X0 25 Z (rb h F Z)
def qgL (_:Nat)(list:(List qF)):Option Int :=V (list.length:Int)
theorem qk8 {list:(List qF)}(a:Ro w list cs1){r:Int}(F:qgL n list=V r):RetV prog 244 [oV (List qF) cs1] w r:=by
 obtain⟨_,_,rfl,_⟩:=a;exact zV 5 func244 Z fun h=>X0 10 Z (ri h F Z)
def qif (_:Nat)(list:(List ByteArray)):Option Int :=V (list.length:Int)
theorem qmf {list:(List ByteArray)}(a:Ro w list cs1){r:Int}(F:qif n list=V r):RetV prog 246 [oV (List ByteArray) cs1] w r:=by
 obtain⟨_,_,rfl,_⟩:=a;exact zV 5 func246 Z fun h=>X0 10 Z (ri h F Z)
def qd5 (n:Nat)(d:qh)(net:Int):Option Bool :=(qif n d.Am).bind fun r1 =>(qa0 n net 0 (W64 (r1-1))).bind fun a =>V a
theorem qha {d:qh}{net}(a:Ro w d cs1){r:Bool}(F:qd5 n d net=V r):RetV prog 193 [oV qh cs1,vi net] w r:=by
 obtain⟨_,_,_,_,_,_,rfl,_,s2,_⟩:=qaY a;exact zV 11 func193 Z fun h=>zSR (qB h Z Z fun _ _ h=>X1 7 0 h Z (zcI h F (qmf ⟨_,_,rfl,(h.oldS s2)⟩) Z fun _ _ h F=>zp1 Z (zcB h F qaK Z fun _ _ h F=>X0 2 Z (rb h F Z))))
def qdQ (n:Nat)(net:Int)(a:qh):Option Bool :=(qd5 n a net).bind fun r1 =>V (!r1)
theorem qjV {net}{d:qh}{p1}(a:Ro w (V d) [.pointer p1]){r:Bool}(F:qdQ n net d=V r):RetV prog 245 [vi net,.pointer p1] w r:=by
 obtain⟨_,f,_,rfl,-,c,b⟩:=PtR.get a Z;obtain⟨_,_,_,_,_,_,rfl,s1,s2,g⟩:=qaY c;exact zV 8 func245 Z fun h=>X0 6 Z (zc 0 (b.below h.below) Z (zp1 Z (zcB h F (qha (qa1 d (h.oldS s1) (h.oldS s2) (h.oldS g))) Z fun _ _ h F=>X0 3 Z (rb h F Z))))
def qV (s:(List Int))(a:qh):Nat→Int→Option (Flow Int Int)| 0,_=>U| n+1,b =>bif decide (b<(s.length:Int)) then(idx s b).bind fun c =>(qdQ n c a).bind fun r1 =>bif r1 then V (.ret b) else qV s a n (W64 (b+1)) else V (.nxt b)
def qbi (n:Nat)(s:(List Int))(a:qh):Option Int :=(qV s a n 0).bind fun o=>match o with| .ret r=>V r| .nxt _ =>V (-1)
theorem qe4 {s:(List Int)}{a:qh}(d:Ro w s cs1){u}(c:Ro w (V a) [.pointer u]){r:Int}(F:qbi n s a=V r):RetV prog 217 [oV (List Int) cs1,.func (.func 245) #[] #[.pointer u]] w r:=by
 obtain⟨p1,v,rfl,s1⟩:=d;obtain⟨b1,p,_,rfl,-,l,_⟩:=PtR.get c Z;obtain⟨_,_,_,_,_,_,rfl,_,_,_⟩:=qaY l;refine zV 19 func217 Z fun h=>X0 11 Z ?_;obtain⟨o1,F,b⟩:=qd F;refine qn (rL (fun m e w'=>∃ o,qV s a m o=V o1∧e=[(0,oS p1 s.length v),(1,.func (.func 245) #[] #[.pointer (V ⟨b1,p,U⟩)]),(7,vi (s.length:Int)),(8,vi o)]∧SH w w' []) n ⟨_,F,rfl,h⟩ Z ?_);rintro t _ _ ⟨o,F,rfl,h⟩;rcases t with _|t
 ·cases F
 refine X0 5 Z (qk Z F ?_ ?_)<;>intro F
 ·refine X0 13 Z ?_;obtain⟨_,_,F,g,_,_,_,_,i,k,rfl,f⟩:=s1.ix F;refine zxe i k g Z (zc 0 (f.below h.below) Z (zcB h F (qjV (h.old c)) Z fun _ _ h F=>qa7 (qk Z F ?_ ?_)))<;>intro F
  ·refine X0 5 Z ?_;obtain rfl:=qb F;replace F:=b;exact ri h F Z
  exact X0 6 Z (rK ⟨_,F,rfl,h⟩ Z)
 refine qv Z ?_;obtain rfl:=qb F;replace F:=b;exact X0 4 Z (ri h F Z)
def qa3 (n:Nat)(s:(List Int))(a:qh):Option Bool :=(qbi n s a).bind fun r1 =>V (decide (r1 ≥ 0))
theorem qen {s:(List Int)}{a:qh}(c:Ro w s cs1){f}(b:Ro w (V a) [.pointer f]){r:Bool}(F:qa3 n s a=V r):RetV prog 157 [oV (List Int) cs1,.func (.func 245) #[] #[.pointer f]] w r:=by
 obtain⟨_,_,rfl,s1⟩:=c;obtain⟨_,g,_,rfl,-,d,_⟩:=PtR.get b Z;obtain⟨_,_,_,_,_,_,rfl,_,_,_⟩:=qaY d;exact zV 9 func157 Z fun h=>X0 8 Z (zcI h F (qe4 ⟨_,_,rfl,(h.oldS s1)⟩ (h.old b)) Z fun _ _ h F=>X0 3 Z (rb h F Z))
def qex (n:Nat)(d:qh)(l:qw)(x:qG):Option Bool :=(qgL n l.As).bind fun r1 =>(qa0 n x.Bv 0 (W64 (r1-1))).bind fun a =>bif a then(idx l.As x.Bv).bind fun c =>bif ((x.Am.length:Int)==(c.Bh.length:Int)) then(qa3 n x.Am d).bind fun b =>V (!b) else V false else V false
theorem qkE {d:qh}{l:qw}{x:qG}(a:Ro w d cs1)(b:Ro w l cs2)(c:Ro w x cs3){r:Bool}(F:qex n d l x=V r):RetV prog 192 [oV qh cs1,oV qw cs2,oV qG cs3] w r:=by
 obtain⟨_,_,_,_,_,_,rfl,_,_,_⟩:=qaY a;obtain⟨_,_,rfl,u⟩:=qcX b;obtain⟨_,_,rfl,z⟩:=qaL c;refine zV 35 func192 Z fun h=>zSR (qB h Z Z fun _ _ h=>qB h Z Z fun _ _ h=>qB h Z Z fun _ _ h=>X0 3 Z (rD (Y1 2 0 h Z ?_)));refine Y1 2 1 h Z ?_;obtain⟨r1,m,F⟩:=qd F;refine qb7 r1 (vsI _) (cB 244 Z) (fun _ A=>qk8 ⟨_,_,rfl,((h.ext A).oldS u)⟩ m) Z Z Z Z (zd1 Z ?_);obtain⟨v,o,F⟩:=qd F;refine qb7 v (vsB _) (cB 58 Z) (fun _ A=>qaK  o) Z Z Z Z (zd1 Z (qaG (t:=14) F Z ?_ ?_))<;>intro F
 ·refine Y1 4 0 h Z ?_;refine Y1 6 1 h Z ?_;refine Y1 4 0 h Z ?_;refine Y0 1 Z ?_;obtain⟨_,_,F,g,_,_,_,_,i,k,p,f⟩:=u.ix F;obtain⟨_,_,_,_,_,_,rfl,_,_,_⟩:=qaq p;refine zdxe i k g Z (Y0 3 Z (zdc 2 (f.below h.below) Z (Y0 6 Z (qaG (t:=28) F Z ?_ ?_))))<;>intro F
  ·refine Y1 4 0 h Z ?_;refine Y0 3 Z ?_;obtain⟨y,s,F⟩:=qd F;exact qb7 y (vsB _) (cB 157 Z) (fun _ A=>qen ⟨_,_,rfl,((h.ext A).oldS z)⟩ (qg1 (x:=d) 2 (h.ext A) Z ((h.ext A).old a)) s) Z Z Z Z (Y0 4 Z (dN h fun _ h=>rb h F Z))
  exact Y0 7 Z (dN h fun _ h=>rb h F Z)
 exact Y0 21 Z (dN h fun _ h=>rb h F Z)
def qjJ (_:Nat)(a:Int):Option Bool :=V (a != 1)
theorem qnJ {a_n}  {r:Bool}(F:qjJ n a_n=V r):RetV prog 195 [vi a_n] w r:=by
 exact zV 5 func195 Z fun h=>X0 10 Z (rb h F Z)
def qat (s:(List Int)):Nat→Int→Option (Flow Int Int)| 0,_=>U| n+1,a =>bif decide (a<(s.length:Int)) then(idx s a).bind fun b =>(qjJ n b).bind fun r1 =>bif r1 then V (.ret a) else qat s n (W64 (a+1)) else V (.nxt a)
def qcm (n:Nat)(s:(List Int)):Option Int :=(qat s n 0).bind fun o=>match o with| .ret r=>V r| .nxt _ =>V (-1)
theorem qgX {s:(List Int)}(b:Ro w s cs1){r:Int}(F:qcm n s=V r):RetV prog 247 [oV (List Int) cs1,.func (.func 195) #[] #[]] w r:=by
 obtain⟨p1,l,rfl,s1⟩:=b;refine zV 19 func247 Z fun h=>X0 11 Z ?_;obtain⟨o1,F,a⟩:=qd F;refine qn (rL (fun m e w'=>∃ i,qat s m i=V o1∧e=[(0,oS p1 s.length l),(1,.func (.func 195) #[] #[]),(7,vi (s.length:Int)),(8,vi i)]∧SH w w' []) n ⟨_,F,rfl,h⟩ Z ?_);rintro k _ _ ⟨i,F,rfl,h⟩;rcases k with _|k
 ·cases F
 refine X0 5 Z (qk Z F ?_ ?_)<;>intro F
 ·refine X0 13 Z ?_;obtain⟨_,_,F,d,_,_,_,_,f,g,rfl,c⟩:=s1.ix F;refine zxe f g d Z (zc 0 (c.below h.below) Z (zcB h F qnJ Z fun _ _ h F=>qa7 (qk Z F ?_ ?_)))<;>intro F
  ·refine X0 5 Z ?_;obtain rfl:=qb F;replace F:=a;exact ri h F Z
  exact X0 6 Z (rK ⟨_,F,rfl,h⟩ Z)
 refine qv Z ?_;obtain rfl:=qb F;replace F:=a;exact X0 4 Z (ri h F Z)
def qb3 (n:Nat)(s:(List Int)):Option Bool :=(qcm n s).bind fun r1 =>V (decide (r1 ≥ 0))
theorem qgt {s:(List Int)}(a:Ro w s cs1){r:Bool}(F:qb3 n s=V r):RetV prog 194 [oV (List Int) cs1,.func (.func 195) #[] #[]] w r:=by
 obtain⟨_,_,rfl,s1⟩:=a;exact zV 9 func194 Z fun h=>X0 8 Z (zcI h F (qgX ⟨_,_,rfl,(h.oldS s1)⟩) Z fun _ _ h F=>X0 3 Z (rb h F Z))
def qcJ (a_1:qh):Nat→(List Int)→Int→Option (Flow Bool ((List Int)×Int))| 0,_,_=>U| n+1,c,b =>bif decide (b<(a_1.Ai.length:Int)) then(idx a_1.Ai b).bind fun a =>(bif (a.Bx != 1) then bif (a.Bx != 2) then V true else(qd5 n a_1 a.Cb).bind fun f =>V (!f) else(qd5 n a_1 a.Cb).bind fun g =>V (!g)).bind fun d =>bif d then V (.ret false) else bif (a.Bx==1) then(idx c a.Cb).bind fun h =>(idx c a.Cb).bind fun _ =>qcJ a_1 n (setS c a.Cb (W64 (h+1))) (W64 (b+1)) else qcJ a_1 n c (W64 (b+1)) else V (.nxt (c,b))
def qdE (a_0:qw)(a_1:qh):Nat→(List Int)→Int→Option (Flow Bool ((List Int)×Int))| 0,_,_=>U| n+1,b,a =>bif decide (a<(a_1.Ab.length:Int)) then(idx a_1.Ab a).bind fun c =>(qex n a_1 a_0 c).bind fun r1 =>bif (!r1) then V (.ret false) else(idx c.Am (W64 ((c.Am.length:Int)-1))).bind fun d =>(idx b d).bind fun f =>(idx b d).bind fun _ =>qdE a_0 a_1 n (setS b d (W64 (f+1))) (W64 (a+1)) else V (.nxt (b,a))
def qjj (n:Nat)(a_0:qw)(a_1:qh):Option Bool :=((qiJ n a_0).bind fun b =>bif (!b) then V true else(qfz n a_1).bind fun c =>V (!c)).bind fun b1 =>bif b1 then V false else(mkS (a_1.Am.length:Int) (0:Int)).bind fun d =>(qdE a_0 a_1 n d 0).bind fun o=>match o with| .ret r=>V r| .nxt (f,_) =>(qcJ a_1 n f 0).bind fun o=>match o with| .ret r=>V r| .nxt (g,_) =>(qb3 n g).bind fun a =>V (!a)
theorem qoO {a_0:qw}{a_1:qh}(g:Ro w a_0 cs1)(c:Ro w a_1 cs2){r:Bool}(F:qjj n a_0 a_1=V r):RetV prog 123 [oV qw cs1,oV qh cs2] w r:=by
 obtain⟨p1,k1,rfl,_⟩:=qcX g;obtain⟨N,M,Q,P,l,k,rfl,s2,_,s4⟩:=qaY c;refine zV 84 func123 Z fun h=>zSR (qB h Z Z fun _ d h=>qB h Z Z fun _ a h=>X0 4 Z ?_);obtain⟨T,y,_,F,v⟩:=bindE F;refine qaA (fun e w'=>∃ b1,T b1=V r∧e=[(2,vp d),(3,vp a),(17,.bool b1)]∧SH w w' [oX a (qaw a_1 N Q l M P k) 31,oX d [oS p1 a_0.As.length k1] 26]) ?_ ?_
 ·refine X1 2 1 h Z (zcB h F (qn7 (h.old g)) Z fun _ _ h F=>zp2 Z (qg (t:=13) F Z ?_ ?_))<;>intro F
  ·refine X0 5 Z ?_;obtain rfl:=qb F;exact rG ⟨_,v,rfl,h⟩ Z
  refine X1 3 0 h Z (zcB h F (qlw (h.old c)) Z fun _ _ h F=>X0 4 Z ?_);obtain rfl:=qb F;exact rG ⟨_,v,rfl,h⟩ Z
 rintro _ _ ⟨b1,F,rfl,h⟩;subst y;refine qk Z F ?_ ?_<;>intro F
 ·exact X0 4 Z (rb h F Z)
 refine X1 6 0 h Z ?_;obtain⟨b,i,F⟩:=qd F;obtain⟨g1,g2,i⟩:=qar i;refine qaM qa Int h Z Z Z Z Z Z Z Z Z g1 g2 i Z fun _ S1 o h=>X1 10 1 h Z ?_;obtain⟨o1,F,s⟩:=qd F;refine qn (rL (fun m e w'=>∃ x2 i1,qdE a_0 a_1 m x2 i1=V o1∧e=[(2,vp d),(3,vp a),(5,oS o b.length b.length),(23,oS N a_1.Ab.length M),(24,vi (a_1.Ab.length:Int)),(25,vi i1)]∧SH w w' [oW S1 (x2:List Int) [oS o b.length b.length],oX a (qaw a_1 N Q l M P k) 31,oX d [oS p1 a_0.As.length k1] 26]) n ⟨_,_,F,rfl,h⟩ Z ?_);rintro m1 _ _ ⟨x2,i1,F,rfl,h⟩;rcases m1 with _|m1
 ·cases F
 refine X0 5 Z (qk Z F ?_ ?_)<;>intro F
 ·refine zKSBSR ?_;obtain⟨y1,_,F,a6,_,_,_,_,a9,b9,c5,X⟩:=s2.ix F;obtain⟨_,_,rfl,s5⟩:=qaL c5;refine zxe a9 b9 a6 Z (zc 0 (X.below h.below) Z (qi qa h Z Z Z fun _ _ h=>zs 0 h Z fun _ h=>X3 7 2 3 0 h Z (zcB h F (qkE (h.old c) (h.old g) (qnw y1 (h.oldS s5))) Z fun _ _ h F=>X0 2 Z (qk Z F ?_ ?_))))<;>intro F
  ·refine X0 4 Z ?_;obtain rfl:=qb F;replace F:=s;exact rb h F Z
  refine X2 9 0 0 h Z ?_;obtain⟨_,_,F,a7,_,_,_,_,b4,c0,rfl,Y⟩:=s5.ix F;refine zxe b4 c0 a7 Z (zc 0 (Y.below h.below) Z ?_);obtain⟨y3,_,F,B,_,_,_,_,b5,c2,rfl,a3⟩:=(h.sl 1 Z).1.ix F;refine zx b5 c2 ⟨B.1,qE B.2.1 (h.sl 1 Z).2⟩ Z (zc 0 a3 Z (zp1 Z ?_));obtain⟨_,c7,F,C,_,_,_,_,I,K,rfl,a4⟩:=(h.sl 1 Z).1.ix F;refine zx I K ⟨C.1,qE C.2.1 (h.sl 1 Z).2⟩ Z (qaU qa 1 0 (W64 (y3+1)) h Z c7 I K Z a4 Z Z Z Z Z Z Z fun _ h=>X0 6 Z ?_);replace h:=h.p [1,2,3] Z;exact rK ⟨_,_,F,rfl,h⟩ Z
 refine qv Z ?_;obtain rfl:=qb F;replace F:=s;refine X1 8 1 h Z ?_;obtain⟨o2,F,u⟩:=qd F;refine qn ?_;replace h:=h.p [0,1] Z;refine rL (fun m e w'=>∃ R O,qcJ a_1 m R O=V o2∧e=[(3,vp a),(5,oS o b.length b.length),(49,oS l a_1.Ai.length k),(50,vi (a_1.Ai.length:Int)),(51,vi O)]∧SH w w' [oW S1 (R:List Int) [oS o b.length b.length],oX a (qaw a_1 N Q l M P k) 31]) n ⟨_,_,F,rfl,h⟩ Z ?_;rintro m2 _ _ ⟨R,O,F,rfl,h⟩;rcases m2 with _|m2
 ·cases F
 refine X0 5 Z (qk Z F ?_ ?_)<;>intro F
 ·refine zKSBSR ?_;obtain⟨y5,_,F,a8,_,_,_,_,b6,c3,c6,a5⟩:=s4.ix F;obtain rfl:=qe7 c6;refine zxe b6 c3 a8 Z (zc 0 (a5.below h.below) Z (qi qa h Z Z Z fun _ p h=>zs 0 h Z fun _ h=>zNSS ?_));obtain⟨S,x,_,F,f⟩:=bindE F;refine qaA (fun e w'=>∃ W,S W=V o2∧e=[(3,vp a),(5,oS o b.length b.length),(9,vp p),(49,oS l a_1.Ai.length k),(50,vi (a_1.Ai.length:Int)),(51,vi O),(69,.bool W)]∧SH w w' [oX p (qrB y5) 267,oW S1 (R:List Int) [oS o b.length b.length],oX a (qaw a_1 N Q l M P k) 31]) ?_ ?_
  ·refine X1 5 0 h Z (qg (t:=58) F Z ?_ ?_)<;>intro F
   ·refine X1 8 0 h Z (qg (t:=63) F Z ?_ ?_)<;>intro F
    ·refine X0 7 Z ?_;obtain rfl:=qb F;exact rG ⟨_,f,rfl,h⟩ Z
    refine X2 7 2 0 h Z (zcB h F (qha (h.old c)) Z fun _ _ h F=>X0 4 Z ?_);obtain rfl:=qb F;exact rG ⟨_,f,rfl,h⟩ Z
   refine X2 12 2 0 h Z (zcB h F (qha (h.old c)) Z fun _ _ h F=>X0 4 Z ?_);obtain rfl:=qb F;exact rG ⟨_,f,rfl,h⟩ Z
  rintro _ _ ⟨W,F,rfl,h⟩;subst x;refine qk Z F ?_ ?_<;>intro F
  ·refine X0 4 Z ?_;obtain rfl:=qb F;replace F:=u;exact rb h F Z
  refine X1 7 0 h Z (qk Z F ?_ ?_)<;>intro F
  ·refine X1 4 0 h Z ?_;obtain⟨y6,_,F,D,_,_,_,_,b8,c4,rfl,z⟩:=(h.sl 1 Z).1.ix F;refine zx b8 c4 ⟨D.1,qE D.2.1 (h.sl 1 Z).2⟩ Z (zc 0 z Z (zp1 Z ?_));obtain⟨_,c8,F,H,_,_,_,_,J,L,rfl,A⟩:=(h.sl 1 Z).1.ix F;refine zx J L ⟨H.1,qE H.2.1 (h.sl 1 Z).2⟩ Z (qaU qa 1 0 (W64 (y6+1)) h Z c8 J L Z A Z Z Z Z Z Z Z fun _ h=>X0 6 Z ?_);replace h:=h.p [1,2] Z;exact rK ⟨_,_,F,rfl,h⟩ Z
  refine X0 6 Z ?_;replace h:=h.p [1,2] Z;exact rK ⟨_,_,F,rfl,h⟩ Z
 refine qv Z ?_;obtain rfl:=qb F;replace F:=u;exact X0 3 Z (zcB h F (qgt (h.own 0 Z)) Z fun _ _ h F=>X0 3 Z (rb h F Z))
def qbX (c:Int)(b:qG):Nat→(List Tplace)→Int→Option ((List Tplace)×Int)| 0,_,_=>U| n+1,d,a =>bif decide (a<(b.Am.length:Int)) then(idx b.Am a).bind fun g =>(appS d ([(⟨c,a,g,(a==(W64 ((b.Am.length:Int)-1)))⟩:Tplace)]:List Tplace)).bind fun f =>qbX c b n f (W64 (a+1)) else V (d,a)
def qbY (d:qh):Nat→(List Tplace)→Int→Option ((List Tplace)×Int)| 0,_,_=>U| n+1,b,a =>bif decide (a<(d.Ai.length:Int)) then(idx d.Ai a).bind fun c =>(appS b ([(⟨(-1),a,c.Cb,(c.Bx==1)⟩:Tplace)]:List Tplace)).bind fun f =>qbY d n f (W64 (a+1)) else V (b,a)
def qbZ (d:qh):Nat→(List Tplace)→Int→Option ((List Tplace)×Int)| 0,_,_=>U| n+1,b,a =>bif decide (a<(d.Ab.length:Int)) then(idx d.Ab a).bind fun f =>(qbX a f n b 0).bind fun o=>match o with| (c,_) =>qbZ d n c (W64 (a+1)) else V (b,a)
def qcF (n:Nat)(d:qh):Option (List Tplace) :=(qbZ d n ([]:List Tplace) 0).bind fun o=>match o with| (a,_) =>(qbY d n a 0).bind fun o=>match o with| (b,_) =>V b
theorem qfc {d:qh}(z:Ro w d cs1){r:(List Tplace)}(F:qcF n d=V r):RetV prog 124 [oV qh cs1] w r:=by
 obtain⟨p1,t,p2,k2,Y,R,rfl,s1,_,s3⟩:=qaY z;refine zV 61 func124 Z fun h=>zSR (qB h Z Z fun _ a h=>X1 14 0 h Z ?_);replace h:=h.nil (α:=Tplace);obtain⟨o1,F,v⟩:=qd F;refine qn (rL (fun m e w'=>∃ S1 p4 i S x1 b,qbZ d m x1 b=V o1∧e=[(1,vp a),(3,oS p4 i S),(11,oS p1 d.Ab.length t),(12,vi (d.Ab.length:Int)),(13,vi b)]∧SH w w' [oW S1 (x1:List Tplace) [oS p4 i S],oX a (qaw d p1 p2 Y t k2 R) 31]) n ⟨_,_,_,_,_,_,F,rfl,h⟩ Z ?_);rintro X _ _ ⟨S1,p4,i,S,x1,b,F,rfl,h⟩;obtain rfl:=(h.sl 0 Z).2;rcases X with _|X
 ·cases F
 refine X0 5 Z (qk Z F ?_ ?_)<;>intro F
 ·refine X0 6 Z ?_;obtain⟨o,_,F,D,_,_,_,_,J,M,P,A⟩:=s1.ix F;obtain⟨p5,k5,rfl,s4⟩:=qaL P;refine zxe J M D Z (zc 0 (A.below h.below) Z (qi qa h Z Z Z fun _ p h=>zp1 Z (zs 0 h Z fun _ h=>X1 8 0 h Z ?_)));obtain⟨o2,F,x⟩:=qd F;refine qn (rL (fun m e w'=>∃ S2 p6 k T x2 g,qbX b o m x2 g=V o2∧e=[(1,vp a),(3,oS p6 k T),(4,vi b),(5,vp p),(11,oS p1 d.Ab.length t),(12,vi (d.Ab.length:Int)),(13,vi b),(19,oS p5 o.Am.length k5),(20,vi (o.Am.length:Int)),(21,vi g)]∧SH w w' [oX p (qjw o p5 k5) 102,oW S2 (x2:List Tplace) [oS p6 k T],oX a (qaw d p1 p2 Y t k2 R) 31]) X ⟨_,_,_,_,_,_,F,rfl,h⟩ Z ?_);rintro m2 _ _ ⟨S2,p6,k,T,x2,g,F,rfl,h⟩;obtain rfl:=(h.sl 1 Z).2;rcases m2 with _|m2
  ·cases F
  refine X0 5 Z (qk Z F ?_ ?_)<;>intro F
  ·refine X0 6 Z ?_;obtain⟨y2,_,F,H,_,_,_,_,K,N,rfl,B⟩:=s4.ix F;refine zxe K N H Z (zc 0 (B.below h.below) Z (X1 14 0 h Z (r_v (qA qa [0,1,2,3] [.tmp 27,.tmp 28,.tmp 29,.tmp 35] Z Z Z Z Z Z Z Z) Z (qm qa [.tmp 36] _ ([(⟨b,g,y2,(g==(W64 ((o.Am.length:Int)-1)))⟩:Tplace)]:List Tplace) h Z Z Z Z Z Z Z Z Z ⟨(qlT (⟨b,g,y2,(g==(W64 ((o.Am.length:Int)-1)))⟩:Tplace)),trivial⟩ Z fun _ _ _ h=>?_))));obtain⟨_,c,F⟩:=qd F;obtain⟨g1,c⟩:=qC c;refine qaz qa 2 h Z (h.sl 0 Z).1 (h.sl 0 Z).2 Z Z Z Z Z Z Z Z Z g1 c Z fun _ _ _ _ h=>X0 7 Z ?_;replace h:=h.p [1,2,3] Z;exact rK ⟨_,_,_,_,_,_,F,rfl,h⟩ Z
  refine qv Z ?_;obtain rfl:=qb F;replace F:=x;refine X0 5 Z ?_;replace h:=h.p [1,2] Z;exact rK ⟨_,_,_,_,_,_,F,rfl,h⟩ Z
 refine qv Z ?_;obtain rfl:=qb F;replace F:=v;refine X1 8 1 h Z ?_;obtain⟨o3,F,y⟩:=qd F;refine qn ?_;replace h:=h.p [0] Z;refine rL (fun m e w'=>∃ S5 p9 l W x4 s,qbY d m x4 s=V o3∧e=[(3,oS p9 l W),(42,oS Y d.Ai.length R),(43,vi (d.Ai.length:Int)),(44,vi s)]∧SH w w' [oW S5 (x4:List Tplace) [oS p9 l W]]) n ⟨_,_,_,_,_,_,F,rfl,h⟩ Z ?_;rintro m3 _ _ ⟨S5,p9,l,W,x4,s,F,rfl,h⟩;obtain rfl:=(h.sl 0 Z).2;rcases m3 with _|m3
 ·cases F
 refine X0 5 Z (qk Z F ?_ ?_)<;>intro F
 ·refine X0 6 Z ?_;obtain⟨u,_,F,I,_,_,_,_,L,O,Q,C⟩:=s3.ix F;obtain rfl:=qe7 Q;refine zxe L O I Z (zc 0 (C.below h.below) Z (qi qa h Z Z Z fun _ _ h=>zp1 Z (zs 0 h Z fun _ h=>X2 9 0 0 h Z (r_v (qA qa [0,1,2,3] [.const (vi (-1)),.tmp 50,.tmp 52,.tmp 55] Z Z Z Z Z Z Z Z) Z (qm qa [.tmp 56] _ ([(⟨(-1),s,u.Cb,(u.Bx==1)⟩:Tplace)]:List Tplace) h Z Z Z Z Z Z Z Z Z ⟨(qlT (⟨(-1),s,u.Cb,(u.Bx==1)⟩:Tplace)),trivial⟩ Z fun _ _ _ h=>?_)))));obtain⟨_,f,F⟩:=qd F;obtain⟨g2,f⟩:=qC f;refine qaz qa 2 h Z (h.sl 0 Z).1 (h.sl 0 Z).2 Z Z Z Z Z Z Z Z Z g2 f Z fun _ _ _ _ h=>X0 7 Z ?_;replace h:=h.p [2] Z;exact rK ⟨_,_,_,_,_,_,F,rfl,h⟩ Z
 refine qv Z ?_;obtain rfl:=qb F;replace F:=y;refine X0 5 Z ?_;obtain rfl:=qb F;exact rO 0 h Z ⟨rfl,trivial⟩
def qbp (f:qam):Nat→Int→Option (Flow Bool Int)| 0,_=>U| n+1,a =>bif decide (a<(f.Ak.length:Int)) then(idx f.Ak a).bind fun b =>bif (a==0) then bif (b != (-1)) then V (.ret false) else(idx f.Bw 0).bind fun d =>bif (d != 0) then V (.ret false) else bif decide (a > 0) then(qa0 n b 0 (W64 (a-1))).bind fun r1 =>bif (!r1) then V (.ret false) else qbp f n (W64 (a+1)) else qbp f n (W64 (a+1)) else bif decide (a > 0) then(qa0 n b 0 (W64 (a-1))).bind fun c =>bif (!c) then V (.ret false) else qbp f n (W64 (a+1)) else qbp f n (W64 (a+1)) else V (.nxt a)
def qhr (n:Nat)(a:qam):Option Bool :=(qbp a n 0).bind fun o=>match o with| .ret r=>V r| .nxt _ =>V true
theorem qnh {D:qam}(c:Ro w D cs1){r:Bool}(F:qhr n D=V r):RetV prog 196 [oV qam cs1] w r:=by
 obtain⟨p1,u,A,x,B,y,C,z,rfl,s1,s2,_,_⟩:=qbL c;refine zV 38 func196 Z fun h=>zSR (qB h Z Z fun _ b h=>X1 10 0 h Z ?_);obtain⟨o1,F,a⟩:=qd F;refine qn (rL (fun m e w'=>∃ s,qbp D m s=V o1∧e=[(1,vp b),(6,oS p1 D.Ak.length u),(7,vi (D.Ak.length:Int)),(8,vi s)]∧SH w w' [oX b (qgr D p1 A B C u x y z) 196]) n ⟨_,F,rfl,h⟩ Z ?_);rintro v _ _ ⟨s,F,rfl,h⟩;rcases v with _|v
 ·cases F
 refine X0 5 Z (qk Z F ?_ ?_)<;>intro F
 ·refine X0 6 Z ?_;obtain⟨_,_,F,g,_,_,_,_,k,o,rfl,d⟩:=s1.ix F;refine zxe k o g Z (zc 0 (d.below h.below) Z (X0 8 Z (qg (t:=15) F Z ?_ ?_)))<;>intro F
  ·refine X0 6 Z (qg (t:=18) F Z ?_ ?_)<;>intro F
   ·refine X0 20 Z (qb2 Z Z (X0 4 Z ?_));obtain rfl:=qb F;replace F:=a;exact rb h F Z
   refine X1 5 0 h Z ?_;obtain⟨_,_,F,i,_,_,_,_,l,p,rfl,f⟩:=s2.ix F;refine zxe l p i Z (X0 1 Z (zc 0 (f.below h.below) Z (X0 6 Z (qg (t:=26) F Z ?_ ?_))))<;>intro F
   ·refine X0 11 Z (qb2 Z Z (X0 4 Z ?_));obtain rfl:=qb F;replace F:=a;exact rb h F Z
   refine X0 6 Z (qg (t:=29) F Z ?_ ?_)<;>intro F
   ·refine X0 7 Z (zcB h F qaK Z fun _ _ h F=>X0 6 Z (qk Z F ?_ ?_))<;>intro F
    ·refine X0 4 Z ?_;obtain rfl:=qb F;replace F:=a;exact rb h F Z
    exact X0 6 Z (rK ⟨_,F,rfl,h⟩ Z)
   exact X0 9 Z (qbm Z Z (X0 6 Z (rK ⟨_,F,rfl,h⟩ Z)))
  refine X0 17 Z (qg (t:=29) F Z ?_ ?_)<;>intro F
  ·refine X0 7 Z (zcB h F qaK Z fun _ _ h F=>X0 6 Z (qk Z F ?_ ?_))<;>intro F
   ·refine X0 4 Z ?_;obtain rfl:=qb F;replace F:=a;exact rb h F Z
   exact X0 6 Z (rK ⟨_,F,rfl,h⟩ Z)
  exact X0 9 Z (qbm Z Z (X0 6 Z (rK ⟨_,F,rfl,h⟩ Z)))
 refine qv Z ?_;obtain rfl:=qb F;replace F:=a;exact X0 4 Z (rb h F Z)
def qkQ (n:Nat)(k:qam)(sinks:Int):Option Bool :=(qbF n k.Ak).bind fun r1 =>(qa0 n r1 1 8).bind fun a =>bif a then(qbF n k.Bw).bind fun b =>bif (b==r1) then(qbF n k.Br).bind fun c =>bif (c==r1) then(qhr n k).bind fun d =>bif d then(qb6 n k.Bw 0 1000).bind fun f =>bif f then(qb6 n k.Br 0 500).bind fun g =>bif g then(qbF n k.Bl).bind fun h =>bif (h==sinks) then(qb6 n k.Bl 0 (W64 (r1-1))).bind fun i =>V i else V false else V false else V false else V false else V false else V false else V false
theorem qpS {d:qam}{sinks}(a:Ro w d cs1){r:Bool}(F:qkQ n d sinks=V r):RetV prog 125 [oV qam cs1,vi sinks] w r:=by
 obtain⟨_,_,_,_,_,_,_,_,rfl,s1,s2,b,c⟩:=qbL a;refine zV 53 func125 Z fun h=>zSR (qB h Z Z fun _ _ h=>X1 6 0 h Z (zcI h F (qcR ⟨_,_,rfl,(h.oldS s1)⟩) Z fun _ _ h F=>X0 5 Z (zcB h F qaK Z fun _ _ h F=>zp1 Z (qg (t:=11) F Z ?_ ?_))))<;>intro F
 ·refine X1 5 0 h Z (zcI h F (qcR ⟨_,_,rfl,(h.oldS s2)⟩) Z fun _ _ h F=>X0 6 Z (qg (t:=18) F Z ?_ ?_))<;>intro F
  ·refine X1 5 0 h Z (zcI h F (qcR ⟨_,_,rfl,(h.oldS b)⟩) Z fun _ _ h F=>X0 6 Z (qg (t:=25) F Z ?_ ?_))<;>intro F
   ·refine X1 3 0 h Z (zcB h F (qnh (h.old a)) Z fun _ _ h F=>zp2 Z (qg (t:=29) F Z ?_ ?_))<;>intro F
    ·refine X1 5 0 h Z (zcB h F (qcs ⟨_,_,rfl,(h.oldS s2)⟩) Z fun _ _ h F=>zp2 Z (qg (t:=34) F Z ?_ ?_))<;>intro F
     ·refine X1 5 0 h Z (zcB h F (qcs ⟨_,_,rfl,(h.oldS b)⟩) Z fun _ _ h F=>zp2 Z (qg (t:=39) F Z ?_ ?_))<;>intro F
      ·refine X1 5 0 h Z (zcI h F (qcR ⟨_,_,rfl,(h.oldS c)⟩) Z fun _ _ h F=>X0 6 Z (qg (t:=46) F Z ?_ ?_))<;>intro F
       ·exact X1 9 0 h Z (zcB h F (qcs ⟨_,_,rfl,(h.oldS c)⟩) Z fun _ _ h F=>X0 3 Z (rb h F Z))
       exact X0 8 Z (rb h F Z)
      exact X0 15 Z (rb h F Z)
     exact X0 20 Z (rb h F Z)
    exact X0 25 Z (rb h F Z)
   exact X0 29 Z (rb h F Z)
  exact X0 36 Z (rb h F Z)
 exact X0 43 Z (rb h F Z)
def qfu (b:qe)(c:(List Int)):Nat→Int→Option (Flow Bool Int)| 0,_=>U| n+1,a =>bif decide (a<(b.Af.length:Int)) then(idx b.Af a).bind fun f =>(idx c a).bind fun g =>(qkQ n f g).bind fun d =>bif (!d) then V (.ret false) else qfu b c n (W64 (a+1)) else V (.nxt a)
def qdp (r1:(List Tplace)):Nat→(List Int)→Int→Option ((List Int)×Int)| 0,_,_=>U| n+1,b,a =>bif decide (a<(r1.length:Int)) then(idx r1 a).bind fun c =>bif (!c.drives) then(idx b c.net).bind fun d =>(idx b c.net).bind fun _ =>qdp r1 n (setS b c.net (W64 (d+1))) (W64 (a+1)) else qdp r1 n b (W64 (a+1)) else V (b,a)
def qiQ (n:Nat)(b:qe):Option Bool :=((qjj n (⟨b.Ar.As⟩:qw) (⟨b.Aa.Ab,b.Aa.Am,b.Aa.Ai⟩:qh)).bind fun a =>bif (!a) then V true else V ((b.Af.length:Int) != (b.Aa.Am.length:Int))).bind fun b1 =>bif b1 then V false else(mkS (b.Af.length:Int) (0:Int)).bind fun c =>(qcF n (⟨b.Aa.Ab,b.Aa.Am,b.Aa.Ai⟩:qh)).bind fun r1 =>(qdp r1 n c 0).bind fun o=>match o with| (d,_) =>(qfu b d n 0).bind fun o=>match o with| .ret r=>V r| .nxt _ =>V true
theorem qps {b:qe}(A:Ro w b cs1){r:Bool}(F:qiQ n b=V r):RetV prog 54 [oV qe cs1] w r:=by
 obtain⟨p1,k1,p2,k2,p3,k3,p4,k4,p5,k5,rfl,s1,s2,s3,s4,s5⟩:=qP A;refine zV 63 func54 Z fun h=>zSR (qB h Z Z fun _ a h=>X0 4 Z ?_);obtain⟨y,i,_,F,g⟩:=bindE F;refine qaA (fun e w'=>∃ b1,y b1=V r∧e=[(1,vp a),(23,.bool b1)]∧SH w w' [oX a (qH b p1 p2 p3 p4 p5 k1 k2 k3 k4 k5) 34]) ?_ ?_
 ·refine X2 5 0 0 h Z (zcB h F (qoO (qiD _ (h.oldS s1)) (qa1 _ (h.oldS s2) (h.oldS s3) (h.oldS s4))) Z fun _ _ h F=>zp2 Z (qg (t:=14) F Z ?_ ?_))<;>intro F
  ·refine X0 10 Z ?_;obtain rfl:=qb F;exact rG ⟨_,g,rfl,h⟩ Z
  refine X2 18 0 0 h Z ?_;obtain rfl:=qb F;exact rG ⟨_,g,rfl,h⟩ Z
 rintro _ _ ⟨b1,F,rfl,h⟩;subst i;refine qk Z F ?_ ?_<;>intro F
 ·exact X0 4 Z (rb h F Z)
 refine X1 6 0 h Z ?_;obtain⟨c,d,F⟩:=qd F;obtain⟨g1,g2,d⟩:=qar d;refine qaM qa Int h Z Z Z Z Z Z Z Z Z g1 g2 d Z fun _ S1 x h=>X1 7 1 h Z (zcL h F (qfc (qa1 _ (h.oldS s2) (h.oldS s3) (h.oldS s4))) Z fun r1 _ S2 p7 k6 h F=>X0 3 Z ?_);obtain⟨o1,F,z⟩:=qd F;refine qn (rL (fun m e w'=>∃ v Y,qdp r1 m v Y=V o1∧e=[(1,vp a),(3,oS x c.length c.length),(30,oS p7 r1.length k6),(31,vi (r1.length:Int)),(32,vi Y)]∧SH w w' [oW S2 (r1:List Tplace) [oS p7 r1.length k6],oW S1 (v:List Int) [oS x c.length c.length],oX a (qH b p1 p2 p3 p4 p5 k1 k2 k3 k4 k5) 34]) n ⟨_,_,F,rfl,h⟩ Z ?_);rintro m1 _ _ ⟨v,Y,F,rfl,h⟩;rcases m1 with _|m1
 ·cases F
 refine X0 5 Z (qk Z F ?_ ?_)<;>intro F
 ·refine zKSBSR ?_;obtain⟨_,_,F,k,_,_,_,_,K,O,S,B⟩:=(h.sl 0 Z).1.ix F;obtain rfl:=qg7 S;refine zx K O ⟨k.1,qE k.2.1 (h.sl 0 Z).2⟩ Z (zc 0 B Z (qi qa h Z Z Z fun _ _ h=>zs 0 h Z fun _ h=>X1 7 0 h Z (qk Z F ?_ ?_)))<;>intro F
  ·refine X1 4 0 h Z ?_;obtain⟨y2,_,F,l,_,_,_,_,L,P,rfl,C⟩:=(h.sl 2 Z).1.ix F;refine zx L P ⟨l.1,qE l.2.1 (h.sl 2 Z).2⟩ Z (zc 0 C Z (zp1 Z ?_));obtain⟨_,X,F,o,_,_,_,_,s,u,rfl,D⟩:=(h.sl 2 Z).1.ix F;refine zx s u ⟨o.1,qE o.2.1 (h.sl 2 Z).2⟩ Z (qaU qa 2 0 (W64 (y2+1)) h Z X s u Z D Z Z Z Z Z Z Z fun _ h=>X0 6 Z ?_);replace h:=h.p [1,2,3] Z;exact rK ⟨_,_,F,rfl,h⟩ Z
  refine X0 6 Z ?_;replace h:=h.p [1,2,3] Z;exact rK ⟨_,_,F,rfl,h⟩ Z
 refine qv Z ?_;obtain rfl:=qb F;replace F:=z;refine X1 8 2 h Z ?_;obtain⟨o2,F,f⟩:=qd F;refine qn ?_;replace h:=h.p [1] Z;refine rL (fun m e w'=>∃ i2,qfu b v m i2=V o2∧e=[(3,oS x c.length c.length),(48,oS p5 b.Af.length k5),(49,vi (b.Af.length:Int)),(50,vi i2)]∧SH w w' [oW S1 (v:List Int) [oS x c.length c.length]]) n ⟨_,F,rfl,h⟩ Z ?_;rintro m2 _ _ ⟨i2,F,rfl,h⟩;rcases m2 with _|m2
 ·cases F
 refine X0 5 Z (qk Z F ?_ ?_)<;>intro F
 ·refine X0 6 Z ?_;obtain⟨y4,_,F,J,_,_,_,_,M,Q,T,H⟩:=s5.ix F;obtain⟨_,_,_,_,_,_,_,_,rfl,s6,s7,s8,s9⟩:=qbL T;refine zxe M Q J Z (zc 0 (H.below h.below) Z (qi qa h Z Z Z fun _ _ h=>zp1 Z (zs 0 h Z fun _ h=>zNS (rD (Y1 1 0 h Z ?_)))));refine zd2 Z ?_;obtain⟨_,_,F,p,_,_,_,_,N,R,rfl,I⟩:=(h.sl 1 Z).1.ix F;refine zdx N R ⟨p.1,qE p.2.1 (h.sl 1 Z).2⟩ Z (zdc 0 I Z ?_);obtain⟨r2,W,F⟩:=qd F;refine qb7 r2 (vsB _) (cB 125 Z) (fun _ hb=>qpS (qqZ y4 ((h.ext hb).oldS s6) ((h.ext hb).oldS s7) ((h.ext hb).oldS s8) ((h.ext hb).oldS s9)) W) Z Z Z Z (zd1 Z (dN h fun _ h=>qk Z F ?_ ?_))<;>intro F
  ·refine X0 4 Z ?_;obtain rfl:=qb F;replace F:=f;exact rb h F Z
  refine X0 6 Z ?_;replace h:=h.p [1] Z;exact rK ⟨_,F,rfl,h⟩ Z
 refine qv Z ?_;obtain rfl:=qb F;replace F:=f;exact X0 4 Z (rb h F Z)
end Go.Fw
