/- Calls that hand out parts of memory one by one: what is owned stays apart. -/
import Derived.Test.YtbmbbkjleheokaaGreatDoorFw38
import Derived.Sort.Grow
import Derived.Lib.SlicesCompact
import Derived.Laws.StructEq
import Derived.Test.YtbmbbkjleheokaaGreatDoorChecked
import Derived.Test.YtbmbbkjleheokaaGreatDoorS1
open Option renaming some → V, none → U
open Nat renaming le_of_ble_eq_true → jq, le_trans → jX
open Bool renaming and_eq_true → jf, not_eq_true' → jF
open List renaming not_mem_nil → jy, mem_of_getElem? → jA, mem_append_left → jI, mem_cons → jJ, mem_append_right → jR
open Array renaming getElem?_append_left → jK

namespace Go.Fw
open Go
open Go.RowKit (Below)
section
variable {P:Program}{T:Tab}{n:Nat}{Q:Exit→Act→World→Prop}{k:List It}{e:Env}{w0 w w':World}{L L':List Ch}
theorem SH.append (h:SH w0 w L)(hL:SH w w' L')(hD:∀ c,c ∈ L'→∀ b,c.D b→b<w0.heap.size):SH w0 w' (L'++L):=by
 have h':=h.ext hL.below;refine⟨h'.below,fun c hc=>?_,fun c hc=>?_,?_⟩
 ·rcases List.mem_append.1 hc with hc|hc
  ·obtain⟨p,s⟩:=hL.holds c hc;exact⟨p,fun b hb=>⟨jX h.below.size (s b hb).1,(s b hb).2⟩⟩
  ·exact h'.holds c hc
 ·rcases List.mem_append.1 hc with hc|hc
  ·exact hD c hc
  ·exact h.elder c hc
 ·refine List.pairwise_append.2 ⟨hL.apart,h.apart,fun c hc d hd b hcb hdb=>?_⟩;have h1:=((hL.holds c hc).2 b hcb).1;have h2:=((h.holds d hd).2 b hdb).2;omega
theorem SH.appendN (h:SH w0 w L)(hL:SH w w' L')(hD:NoD L'):SH w0 w' (L'++L):=
 SH.append h hL fun c hc b hb=>absurd hb (NoD.all hD c hc b)
def RetZ (P:Program)(f:FuncId)(vs:List Value)(w:World)(Φ:List Value→List Ch→Prop):Prop:=
 Calls P f vs.toArray w fun e w'=>∃ v,e=.returned v∧Below w.heap.size w w'∧∃ us L,v=tup us∧SH w w' L∧Φ us L
theorem qss {Φ:List Value→List Ch→Prop}{all:Array Oper}{l:List Oper}{d ty:Nat}{ps:String}{af:Array Edge}{x:Operand}{args:Array Operand}{ats:Array TypeId}{f:FuncId}{fi ca:Array Value}{az vs:List Value}
  (hcall:qeH P f) (hc:RetZ P f vs w Φ) (hx:opv e x=V (.func (.func f) fi ca)) (hargs:opvs e args.toList=V az) (hvs:fi.toList++az++ca.toList=vs) (hn:Nat.blt d n=true)
  (hk:∀ w' us L',SH w w' L'→Φ us L'→Run P n Q (.ops all l::k) ((d,tup us)::e) w') :
  Run P n Q (.ops all (⟨V d,.call ⟨.value x,args,ats⟩,ty,ps,af,U⟩::l)::k) e w:=by
 subst hvs;refine qld (R:=fun v w'=>Below w.heap.size w w'∧∃ us L,v=tup us∧SH w w' L∧Φ us L) Z Z hn (fun a ha=>qhN ha hcall hx hargs w) hc ?_;rintro v w' ⟨_,us,L',rfl,hL,hv⟩;exact hk w' us L' hL hv
theorem qn1 {f:FuncId}{fn:Func}{c:Code}{vs:List Value}{Φ:List Value→List Ch→Prop}{m:Nat}(hf:P.funcs[f]?=V fn)(hb:fn.body=V c)(hm:fn.ntmps=m)(hn:Nat.ble vs.length m=true)
  (h:SH w w []→Run P m (bodyPost P fn fun e w'=>∃ v,e=.returned v∧Below w.heap.size w w'∧∃ us L,v=tup us∧SH w w' L∧Φ us L) [.code c] (argEnv 0 vs) w):RetZ P f vs w Φ:=by
 subst hm;have hn':=jq hn;refine calls_of_wp hf hb ?_;have hr:=h (SH.start w);have hag:Agree fn.ntmps (argEnv 0 vs) { tmps:=vs.toArray++Array.replicate (fn.ntmps-vs.toArray.size) undef,defers:=[] }:=by
  refine⟨rfl,by simp;omega,fun i v hi=>?_⟩;obtain⟨_,h2⟩:=qhK vs 0 i v hi;simp only[Nat.sub_zero] at h2;have hlt:=(List.getElem?_eq_some_iff.1 h2).1;rw[jK (by simpa using hlt)];simpa using h2
 have h1:=hr _ hag;refine wp_mono h1 ?_;intro ex a' w' hq;cases ex<;>exact hq
theorem qr7 (hT:TabOk P T){fn:Func}{Φ:List Value→List Ch→Prop}(us:List Value)(h:SH w0 w L)(hr:ResOk T e w fn.results.toList us)(hv:Φ us L) :
  Run P n (bodyPost P fn fun e w'=>∃ v,e=.returned v∧Below w0.heap.size w0 w'∧∃ us L,v=tup us∧SH w0 w' L∧Φ us L) (.code .ret::k) e w:=
 qpQ fun _ ha=>⟨ha.defers,tup us,qf6 hT ha hr,tup us,rfl,h.below,us,L,rfl,h,hv⟩
end
end Go.Fw


namespace Go.Fw
open Go Go.Sort
open Go.RowKit (Below)
section
variable {P:Program}{T:Tab}{n:Nat}{Q:Exit→Act→World→Prop}{k:List It}{e:Env}{w0 w w':World}{L L':List Ch}
end
end Go.Fw


namespace Go.Fw
open Go
open Go.RowKit (Below)
section
variable {w0 w w':World}{L:List Ch}{α:Type}[GoT α]
def RAll (w:World)(A:Nat→Prop):List α→List (Raw α)→Prop
 | [],[]=>True
 | x::xs,r::rs=>GoT.R w A x r.cs∧RAll w A xs rs
 | _,_=>False
theorem RAll.at {A:Nat→Prop}:∀ {xs:List α} {rs:List (Raw α)},RAll w A xs rs→xs.length=rs.length∧∀ (i:Nat) x,xs[i]?=V x→∃ r,rs[i]?=V r∧GoT.R w A x r.cs
 | [],[],_=>⟨rfl,fun i x h=>by simp at h⟩
 | x::xs,[],h=>h.elim
 | [],r::rs,h=>h.elim
 | x::xs,r::rs,h=>by
  obtain⟨hl,ha⟩:=RAll.at h.2;refine⟨by simp[hl],fun i y hy=>?_⟩;cases i with
  | zero=>simp only[List.getElem?_cons_zero,Option.some.injEq] at hy ⊢;subst hy;exact⟨r,rfl,h.1⟩
  | succ i=>simp only[List.getElem?_cons_succ] at hy ⊢;exact ha i y hy
end
end Go.Fw


namespace Go.Fw
open Go
end Go.Fw


namespace Go.Fw
open Go
open Go.RowKit (Below)
section
variable {P:Program}{T:Tab}{n:Nat}{Q:Exit→Act→World→Prop}{k:List It}{e:Env}{w0 w:World}{L:List Ch}
variable {α:Type}[GoT α]{S S1:Nat→Prop}{xs ys:List α}{p p':Option Addr}{c c':Nat}
end
section
variable {α β γ:Type}
def Emp (o:Option (List α)):Prop:=∀ r,o=V r→r=[]
theorem Emp.none:Emp (U:Option (List α)):=fun _ h=>by cases h
theorem Emp.noneB {f:β→Option (List α)}:Emp ((Option.none:Option β).bind f):=fun _ h=>by cases h
theorem Emp.nil:Emp (V ([]:List α)):=fun _ h=>(Option.some.inj h).symm
theorem Emp.bif {c:Bool}{a b:Option (List α)}(h1:Emp a)(h2:Emp b):Emp (bif c then a else b):=by cases c<;>assumption
theorem Emp.sub {xs:List β}{lo:Int}{f:List β→Option (List α)}(h:Emp (f [])):Emp ((subS xs lo ((0:Nat):Int)).bind f):=fun r hr=>by
 cases hs:subS xs lo ((0:Nat):Int) with
 | none=>rw[hs] at hr;cases hr
 | some y=>
  rw[hs] at hr;obtain⟨_,_,_,e⟩:=qnN hs;have:y=[]:=by rw[←e];simp
  subst this;exact h r hr
theorem Emp.bind {x:Option β}{f:β→Option (List α)}(h:∀ y,Emp (f y)):Emp (x.bind f):=by
 cases x with
 | none=>exact Emp.noneB
 | some y=>exact h y
end
end Go.Fw


namespace Go.Fw
open Go
section
variable {ε:Type}
variable {ρ σ τ:Type}
end

end Go.Fw


namespace Go.Fw
open Go
open Go.RowKit (Below)
structure Same where
 w:World
 K:Nat→Prop
instance instSame:GoT Same where
 k:=1
 agg:=false
 zero:=⟨default,fun _=>False⟩
 zc:=[.bool true]
 R w S x cs:=cs=[.bool true]∧∀ b,x.K b→S b∧w.heap[b]?=x.w.heap[b]?
 O w S x cs:=cs=[.bool true]∧∀ b,x.K b→S b∧w.heap[b]?=x.w.heap[b]?
 kpos:=by decide
 noagg _:=rfl
 len h:=by obtain⟨rfl,_⟩:=h;rfl
 one h:=by obtain⟨rfl,_⟩:=h;simp[Value.oneCell']
 loc h hs:=⟨h.1,fun b hb=>⟨(h.2 b hb).1,(hs b (h.2 b hb).1).trans (h.2 b hb).2⟩⟩
 mono h hs:=⟨h.1,fun b hb=>⟨hs b (h.2 b hb).1,(h.2 b hb).2⟩⟩
 toR h:=h
 locO h hs:=⟨h.1,fun b hb=>⟨(h.2 b hb).1,(hs b (h.2 b hb).1).trans (h.2 b hb).2⟩⟩
 monoO h hs:=⟨h.1,fun b hb=>⟨hs b (h.2 b hb).1,(h.2 b hb).2⟩⟩
 zO _ _:=⟨rfl,fun _ h=>h.elim⟩
def FS (F:List Ch)(b:Nat):Prop:=∃ d,d ∈ F∧d.S b
abbrev Fr (w0:World)(F:List Ch)(b:Nat):Prop:=FS F b∨old w0 b
abbrev same (w0 w:World)(F:List Ch):Fct:=fct (⟨w,Fr w0 F⟩:Same) [.bool true]
section
variable {P:Program}{T:Tab}{n:Nat}{Q:Exit→Act→World→Prop}{k:List It}{e:Env}{w0 w w':World}{L L' F:List Ch}
theorem SH.frame (L:List Ch)(h:SH w0 w (L++F)):SH w0 w (L++[Ch.grp (Fw.old w0) (FS F) [same w0 w F]]):=by
 have hp:=List.pairwise_append.1 h.apart;refine⟨h.below,fun c hc=>?_,fun c hc=>?_,List.pairwise_append.2 ⟨hp.1,List.pairwise_singleton ..,fun c hc d hd b hb=>?_⟩⟩
 ·rcases List.mem_append.1 hc with hc|hc
  ·exact h.holds c (jI _ hc)
  ·obtain rfl:=List.mem_singleton.1 hc;refine⟨fun f hf=>?_,fun b hb=>?_⟩
   ·obtain rfl:=List.mem_singleton.1 hf;exact⟨rfl,fun b hb=>⟨hb,rfl⟩⟩
   ·obtain⟨d,hd,hb⟩:=hb;exact(h.holds d (jR _ hd)).2 b hb
 ·rcases List.mem_append.1 hc with hc|hc
  ·exact h.elder c (jI _ hc)
  ·obtain rfl:=List.mem_singleton.1 hc;exact fun b hb=>hb
 ·obtain rfl:=List.mem_singleton.1 hd;rintro⟨d,hd,hdb⟩;exact hp.2.2 c hc d hd b hb hdb
theorem SH.unframe {L0:List Ch}{fs:List Fct}(j:Nat)(h0:SH w0 w (L0++F))(L':List Ch)(h:SH w0 w' (L'++[Ch.grp (Fw.old w0) (FS F) fs]))(hj:fs[j]?=V (same w0 w F)):SH w0 w' (L'++F):=by
 have hp:=List.pairwise_append.1 h.apart;have hp0:=List.pairwise_append.1 h0.apart;have hg:=h.holds (Ch.grp (Fw.old w0) (FS F) fs) (jR _ (List.mem_singleton.2 Z));have hs:∀ b,Fr w0 F b→w'.heap[b]?=w.heap[b]?:=fun b hb=>((hg.1 _ (jA hj)).2 b hb).2;refine⟨h.below,fun c hc=>?_,fun c hc=>?_,List.pairwise_append.2 ⟨hp.1,hp0.2.1,fun c hc d hd b hb hdb=>?_⟩⟩
 ·rcases List.mem_append.1 hc with hc|hc
  ·exact h.holds c (jI _ hc)
  ·obtain⟨h1,h2⟩:=h0.holds c (jR _ hc);exact⟨c.loc w w' (fun b hb=>hs b (.inl ⟨c,hc,hb⟩)) (fun b hb=>hs b (.inr (h0.elder c (jR _ hc) b hb))) h1,fun b hb=>hg.2 b ⟨c,hc,hb⟩⟩
 ·rcases List.mem_append.1 hc with hc|hc
  ·exact h.elder c (jI _ hc)
  ·exact h0.elder c (jR _ hc)
 ·exact hp.2.2 c hc _ (List.mem_singleton.2 Z) b hb ⟨d,hd,hdb⟩
variable {α:Type}[GoT α]{x:α}{cs:List Value}{S D:Nat→Prop}{fs:List Fct}
theorem SH.frB {c:Ch}(i m:Nat)(hi:L[i]?=V c)(hm:Nat.ble m i=true):∀ b,c.S b→FS (L.drop m) b:=fun b hb=>by
 have hm':=jq hm;refine⟨c,jA (i:=i-m) ?_,hb⟩;rw[List.getElem?_drop,show m+(i-m)=i by omega];exact hi
theorem SH.frG (i j m:Nat)(h:SH w0 w L)(hi:L[i]?=V (Ch.grp D S fs))(hj:fs[j]?=V (fct x cs))(hm:Nat.ble m i=true):GoT.R w (Fr w0 (L.drop m)) x cs:=
 GoT.mono (h.grpS i j hi hj) fun b hb=>hb.elim (fun hb=>.inl (SH.frB i m hi hm b hb)) fun hb=>.inr (h.elder _ (jA hi) b hb)
theorem SH.frOldS {F:List Ch}{xs:List α}{p:Option Addr}{c:Nat}(h:SH w0 w L)(hr:SlR w0 (Fw.old w0) xs p c):SlR w (Fr w0 F) xs p c:=
 (hr.loc fun b hb=>h.below.block b hb).mono fun _ hb=>.inr hb
def RetW (P:Program)(f:FuncId)(vs:List Value)(w:World)(J:List Value→World→Prop):Prop:=
 Calls P f vs.toArray w fun e w'=>∃ us,e=.returned (tup us)∧J us w'
theorem qaS {J:List Value→World→Prop}{all:Array Oper}{l:List Oper}{d ty:Nat}{ps:String}{af:Array Edge}{x:Operand}{args:Array Operand}{ats:Array TypeId}{f:FuncId}{fi ca:Array Value}{az vs:List Value}
  (hcall:qeH P f) (hc:RetW P f vs w J) (hx:opv e x=V (.func (.func f) fi ca)) (hargs:opvs e args.toList=V az) (hvs:fi.toList++az++ca.toList=vs) (hn:Nat.blt d n=true)
  (hk:∀ w' us,J us w'→Run P n Q (.ops all l::k) ((d,tup us)::e) w'):Run P n Q (.ops all (⟨V d,.call ⟨.value x,args,ats⟩,ty,ps,af,U⟩::l)::k) e w:=by
 subst hvs;refine qld (R:=fun v w'=>∃ us,v=tup us∧J us w') Z Z hn (fun a ha=>qhN ha hcall hx hargs w) (hc.mono ?_) ?_
 ·rintro e w' ⟨us,rfl,h⟩;exact⟨_,rfl,us,rfl,h⟩
 ·rintro v w' ⟨us,rfl,h⟩;exact hk w' us h
theorem qa7 {J:List Value→World→Prop}{f:FuncId}{fn:Func}{c:Code}{vs:List Value}{m:Nat}(hf:P.funcs[f]?=V fn)(hb:fn.body=V c)(hm:fn.ntmps=m)(hn:Nat.ble vs.length m=true)
  (h:Run P m (bodyPost P fn fun e w'=>∃ us,e=.returned (tup us)∧J us w') [.code c] (argEnv 0 vs) w):RetW P f vs w J:=by
 subst hm;have hn':=jq hn;refine calls_of_wp hf hb ?_;have hag:Agree fn.ntmps (argEnv 0 vs) { tmps:=vs.toArray++Array.replicate (fn.ntmps-vs.toArray.size) undef,defers:=[] }:=by
  refine⟨rfl,by simp;omega,fun i v hi=>?_⟩;obtain⟨_,h2⟩:=qhK vs 0 i v hi;simp only[Nat.sub_zero] at h2;have hlt:=(List.getElem?_eq_some_iff.1 h2).1;rw[jK (by simpa using hlt)];simpa using h2
 have h1:=h _ hag;refine wp_mono h1 ?_;intro ex a' w' hq;cases ex<;>exact hq
theorem qaR {J:List Value→World→Prop}(hT:TabOk P T){fn:Func}(us:List Value)(hr:ResOk T e w fn.results.toList us)(h:J us w) :
  Run P n (bodyPost P fn fun e w'=>∃ us,e=.returned (tup us)∧J us w') (.code .ret::k) e w:=
 qpQ fun _ ha=>⟨ha.defers,tup us,qf6 hT ha hr,us,rfl,h⟩
end
section
open Go.ChangeShapes Go.RowKit
variable {H:Type}{enc:TypeId×Value→H}{P:Program}{w:World}{base:Nat}{spare:Nat→Bool}{held:Bool}
end

section
variable {P:Program}{T:Tab}{n:Nat}{Q:Exit→Act→World→Prop}{k:List It}{e:Env}{w0 w w':World}{L:List Ch}
variable {α β:Type}[GoT α][GoT β]{S Sr Se D:Nat→Prop}{xs ys:List α}{p p':Option Addr}{c c':Nat}{fs:List Fct}{x:α}{cs:List Value}
theorem RAll.loc {A:Nat→Prop}:∀ {xs:List α} {rs:List (Raw α)},RAll w A xs rs→(∀ b,A b→w'.heap[b]?=w.heap[b]?)→RAll w' A xs rs
 | [],[],_,_=>trivial
 | _::_,[],h,_=>h.elim
 | [],_::_,h,_=>h.elim
 | _::_,_::_,h,hb=>⟨GoT.loc h.1 hb,RAll.loc h.2 hb⟩
theorem RAll.mono {A B:Nat→Prop}(hb:∀ b,A b→B b):∀ {xs:List α} {rs:List (Raw α)},RAll w A xs rs→RAll w B xs rs
 | [],[],_=>trivial
 | _::_,[],h=>h.elim
 | [],_::_,h=>h.elim
 | _::_,_::_,h=>⟨GoT.mono h.1 hb,RAll.mono hb h.2⟩
theorem RAll.app {A:Nat→Prop}:∀ {xs:List α} {rs:List (Raw α)} {ys:List α} {qs:List (Raw α)},RAll w A xs rs→RAll w A ys qs→RAll w A (xs++ys) (rs++qs)
 | [],[],_,_,_,h=>h
 | _::_,[],_,_,h,_=>h.elim
 | [],_::_,_,_,h,_=>h.elim
 | _::_,_::_,_,_,h,h'=>⟨h.1,RAll.app h.2 h'⟩
theorem RAll.of {A:Nat→Prop}:∀ {xs:List α} {rs:List (Raw α)},xs.length=rs.length→(∀ (i:Nat) (x:α) (r:Raw α),xs[i]?=V x→rs[i]?=V r→GoT.R w A x r.cs)→RAll w A xs rs
 | [],[],_,_=>trivial
 | _::_,[],h,_=>by cases h
 | [],_::_,h,_=>by cases h
 | x::xs,r::rs,h,ha=>⟨ha 0 x r Z Z,RAll.of (by simpa using h) fun i y q hy hq=>ha (i+1) y q (by simpa using hy) (by simpa using hq)⟩
theorem RAll.len {A:Nat→Prop}{rs:List (Raw α)}(h:RAll w A xs rs):xs.length=rs.length:=h.at.1
theorem SH.frzI (i:Nat)(h:SH w0 w L)(hi:L[i]?=V (Ch.own S x cs)):SH w0 w (L.set i (Ch.grp (fun _=>False) S [fct x cs])):=
 h.say hi (fun hp f hf=>by
  obtain rfl:=List.mem_singleton.1 hf;have hp':GoT.O w S x cs:=hp;exact GoT.mono (S':=fun b=>S b∨False) (x:=x) (cs:=cs) (GoT.toR hp') (fun b hb=>.inl hb)) (fun _ h=>h) (fun _ h=>h.elim)
end
end Go.Fw


namespace Go.Fw
open Go
def rng8 (x:IntK .u8):Prop:=0≤x.val∧x.val≤255
theorem qtx {P:Program}{t:TypeId}(ht:P.underlying t=V (.int .u8))(hc:P.cellsOf t=1):Opens P t (gt_IntK (kd:=.u8)) rng8:=
 ⟨hc,fun h=>by
  obtain⟨n,rfl,_,hw⟩:=DataW.trod_int ht h;exact⟨⟨n⟩,rfl,by simp only[Lit.wf,IntKind.min,IntKind.max,jf] at hw;simp[IntKind.bits,IntKind.signed] at hw;unfold rng8;simp only;omega⟩⟩
end Go.Fw


namespace Go.Fw
open Go
open Go.RowKit (Below)
section
variable {P:Program}{T:Tab}{n:Nat}{Q:Exit→Act→World→Prop}{k:List It}{e:Env}{w0 w w':World}{L:List Ch}
end

section
variable {P:Program}{T:Tab}{n:Nat}{e:Env}{w:World}
def b3 (a0:Bool)(a1 a2 a3:Int):Array Value:=#[.bool a0,.int .i64 a1,.int .i64 a2,.int .i64 a3]
end
end Go.Fw


namespace Go.Fw
open Go
section
variable {P:Program}{T:Tab}{n:Nat}{e:Env}{w:World}
theorem qqt {x y:Operand}{t t' d ty:Nat}{ps:String}{af:Array Edge}{g:Option (Nat×Bool)}{a b r:Int}(h0:b ≠ 0)(hr:a.tmod b=r)
  (hx:opv e x=V (.int .i64 a)) (hy:opv e y=V (.int .i64 b)):Val P n e ⟨V d,.binOp .rem t x y t',ty,ps,af,g⟩ w (.int .i64 r):=hr ▸ qt1 h0 hx hy
end
end Go.Fw


namespace Go.Fw
open Go
open Go.RowKit (Below)
section
variable {P:Program}{T:Tab}{n:Nat}{Q:Exit→Act→World→Prop}{k:List It}{e:Env}{w0 w w':World}{L:List Ch}
variable {α β:Type}[GoT α][GoT β]{S Sr Se D:Nat→Prop}{xs ys:List α}{p p':Option Addr}{c c':Nat}{fs:List Fct}{x:α}{cs:List Value}
end
end Go.Fw


namespace Go.Fw
open Go Go.Proofs Go.Proofs.Tryz
open Go.RowKit (Below)
set_option maxRecDepth 100000
set_option maxHeartbeats 6400000
variable {n:Nat}{w:World}{S:Nat→Prop}{cs1 cs2 cs3 cs4 cs5 cs6 cs7 cs8 cs9:List Value}
structure qaq where
 Bh:ByteArray
 Bv:Int
 Bp:Int
 Bq:Bool
instance gt_TPin:GoT qaq:=isoT (pairT instStr (pairT instInt (pairT instInt instBool))) (fun x=>(x.Bh,x.Bv,x.Bp,x.Bq)) ⟨ByteArray.empty,0,0,false⟩ Z true (fun h=>by cases h)
instance fl_TPin:Flat qaq:=qfN (pairT instStr (pairT instInt (pairT instInt instBool))) (fun x:qaq=>(x.Bh,x.Bv,x.Bp,x.Bq)) ⟨ByteArray.empty,0,0,false⟩ Z true (fun h=>by cases h) (qaM _ _ (inferInstanceAs (Flat ByteArray)) (qaM _ _ (inferInstanceAs (Flat Int)) (qaM _ _ (inferInstanceAs (Flat Int)) (inferInstanceAs (Flat Bool)))))
abbrev qoL (x:qaq):List Value:=[.string x.Bh,.int .i64 x.Bv,.int .i64 x.Bp,.bool x.Bq]
theorem qeV {x:qaq}{cs:List Value}(h:GoT.R w S x cs):cs=(qoL x):=by
 obtain⟨_,_,rfl,rfl,⟨_,_,rfl,rfl,⟨_,_,rfl,rfl,rfl⟩⟩⟩:=h;exact Z
theorem qkF (x:qaq):GoT.R w S x (qoL x):=have h:=pR (rT x.Bh) (pR (rI x.Bv) (pR (rI x.Bp) (rB x.Bq)));h
structure qO where
 Bo:(List Int)
 Bl:(List Int)
 Bi:(List Int)
instance gt_TTable:GoT qO:=isoT (pairT (@instList Int instInt) (pairT (@instList Int instInt) (@instList Int instInt))) (fun x=>(x.Bo,x.Bl,x.Bi)) ⟨[],[],[]⟩ Z true (fun h=>by cases h)
abbrev qeC (x:qO)(p0 p1 p2:Option Addr)(k0 k1 k2:Nat):List Value:=[.slice p0 (x.Bo).length k0,.slice p1 (x.Bl).length k1,.slice p2 (x.Bi).length k2]
theorem qcf {x:qO}{cs:List Value}(h:GoT.R w S x cs):∃ d a p1 b f c,cs=(qeC x d p1 f a b c)∧SlR w S x.Bo d a∧SlR w S x.Bl p1 b∧SlR w S x.Bi f c:=by
 obtain⟨_,_,rfl,⟨d,a,rfl,s0⟩,⟨_,_,rfl,⟨p1,b,rfl,s1⟩,⟨f,c,rfl,s2⟩⟩⟩:=h;exact⟨d,a,p1,b,f,c,rfl,s0,s1,s2⟩
theorem qiL (x:qO){d p1 f:Option Addr}{a b c:Nat}(s0:SlR w S x.Bo d a)(s1:SlR w S x.Bl p1 b)(s2:SlR w S x.Bi f c):GoT.R w S x (qeC x d p1 f a b c):=have h:=pR (rS s0) (pR (rS s1) (rS s2));h
theorem qsN {w0:World}{L:List Ch}(x:qO){I0 I1 I2:List Nat}{a c1 b:List Value}(h:SH w0 w L)(c:PO w L I0 x.Bo a)(d:PO w L I1 x.Bl c1)(f:PO w L I2 x.Bi b)(b0:apartB I0 (I1++I2)=true)(b1:apartB I1 I2=true):PO w L (I0++(I1++I2)) x (a++(c1++b)):=
 (qcJ h c (qcJ h d f b1) b0)
structure qal where
 Bc:Int
 Bk:Int
 To:Int
 Bn:Int
 Bs:(List qO)
 Bd:(List qO)
instance gt_TArc:GoT qal:=isoT (pairT instInt (pairT instInt (pairT instInt (pairT instInt (pairT (@instList qO gt_TTable) (@instList qO gt_TTable)))))) (fun x=>(x.Bc,x.Bk,x.To,x.Bn,x.Bs,x.Bd)) ⟨0,0,0,0,[],[]⟩ Z true (fun h=>by cases h)
abbrev qdV (x:qal)(p0 p1:Option Addr)(k0 k1:Nat):List Value:=[.int .i64 x.Bc,.int .i64 x.Bk,.int .i64 x.To,.int .i64 x.Bn,.slice p0 (x.Bs).length k0,.slice p1 (x.Bd).length k1]
theorem qaw {x:qal}{cs:List Value}(h:GoT.R w S x cs):∃ c a p1 b,cs=(qdV x c p1 a b)∧SlR w S x.Bs c a∧SlR w S x.Bd p1 b:=by
 obtain⟨_,_,rfl,rfl,⟨_,_,rfl,rfl,⟨_,_,rfl,rfl,⟨_,_,rfl,rfl,⟨_,_,rfl,⟨c,a,rfl,s0⟩,⟨p1,b,rfl,s1⟩⟩⟩⟩⟩⟩:=h;exact⟨c,a,p1,b,rfl,s0,s1⟩
theorem qiv (x:qal){c p1:Option Addr}{a b:Nat}(s0:SlR w S x.Bs c a)(s1:SlR w S x.Bd p1 b):GoT.R w S x (qdV x c p1 a b):=have h:=pR (rI x.Bc) (pR (rI x.Bk) (pR (rI x.To) (pR (rI x.Bn) (pR (rS s0) (rS s1)))));h
theorem qsq {w0:World}{L:List Ch}(x:qal){I0 I1 I2 I3 I4 I5:List Nat}{a c1 b c d f:List Value}(h:SH w0 w L)(i:PO w L I0 x.Bc a)(k:PO w L I1 x.Bk c1)(l:PO w L I2 x.To b)(m:PO w L I3 x.Bn c)(n:PO w L I4 x.Bs d)(o:PO w L I5 x.Bd f)(b0:apartB I0 (I1++(I2++(I3++(I4++I5))))=true)(b1:apartB I1 (I2++(I3++(I4++I5)))=true)(b2:apartB I2 (I3++(I4++I5))=true)(b3:apartB I3 (I4++I5)=true)(g:apartB I4 I5=true):PO w L (I0++(I1++(I2++(I3++(I4++I5))))) x (a++(c1++(b++(c++(d++f))))):=
 (qcJ h i (qcJ h k (qcJ h l (qcJ h m (qcJ h n o g) b3) b2) b1) b0)
structure qE where
 Bh:ByteArray
 Bc:Int
 Be:(List qaq)
 Au:(List qal)
 Br:(List Int)
 Ca:Int
 Bw:Int
instance gt_TCell:GoT qE:=isoT (pairT instStr (pairT instInt (pairT (@instList qaq gt_TPin) (pairT (@instList qal gt_TArc) (pairT (@instList Int instInt) (pairT instInt instInt)))))) (fun x=>(x.Bh,x.Bc,x.Be,x.Au,x.Br,x.Ca,x.Bw)) ⟨ByteArray.empty,0,[],[],[],0,0⟩ Z true (fun h=>by cases h)
abbrev qI (x:qE)(p0 p1 p2:Option Addr)(k0 k1 k2:Nat):List Value:=[.string x.Bh,.int .i64 x.Bc,.slice p0 (x.Be).length k0,.slice p1 (x.Au).length k1,.slice p2 (x.Br).length k2,.int .i64 x.Ca,.int .i64 x.Bw]
theorem qai {x:qE}{cs:List Value}(h:GoT.R w S x cs):∃ d a p1 b f c,cs=(qI x d p1 f a b c)∧SlR w S x.Be d a∧SlR w S x.Au p1 b∧SlR w S x.Br f c:=by
 obtain⟨_,_,rfl,rfl,⟨_,_,rfl,rfl,⟨_,_,rfl,⟨d,a,rfl,s0⟩,⟨_,_,rfl,⟨p1,b,rfl,s1⟩,⟨_,_,rfl,⟨f,c,rfl,s2⟩,⟨_,_,rfl,rfl,rfl⟩⟩⟩⟩⟩⟩:=h;exact⟨d,a,p1,b,f,c,rfl,s0,s1,s2⟩
theorem qpJ (x:qE){d p1 f:Option Addr}{a b c:Nat}(s0:SlR w S x.Be d a)(s1:SlR w S x.Au p1 b)(s2:SlR w S x.Br f c):GoT.R w S x (qI x d p1 f a b c):=have h:=pR (rT x.Bh) (pR (rI x.Bc) (pR (rS s0) (pR (rS s1) (pR (rS s2) (pR (rI x.Ca) (rI x.Bw))))));h
theorem qph {w0:World}{L:List Ch}(x:qE){I0 I1 I2 I3 I4 I5 I6:List Nat}{a c1 b c d f g:List Value}(h:SH w0 w L)(l:PO w L I0 x.Bh a)(m:PO w L I1 x.Bc c1)(n:PO w L I2 x.Be b)(o:PO w L I3 x.Au c)(p:PO w L I4 x.Br d)(r:PO w L I5 x.Ca f)(s:PO w L I6 x.Bw g)(b0:apartB I0 (I1++(I2++(I3++(I4++(I5++I6)))))=true)(b1:apartB I1 (I2++(I3++(I4++(I5++I6))))=true)(b2:apartB I2 (I3++(I4++(I5++I6)))=true)(b3:apartB I3 (I4++(I5++I6))=true)(i:apartB I4 (I5++I6)=true)(k:apartB I5 I6=true):PO w L (I0++(I1++(I2++(I3++(I4++(I5++I6)))))) x (a++(c1++(b++(c++(d++(f++g)))))):=
 (qcJ h l (qcJ h m (qcJ h n (qcJ h o (qcJ h p (qcJ h r s k) i) b3) b2) b1) b0)
structure qu where
 Aq:(List qE)
instance gt_TLibrary:GoT qu:=isoT (@instList qE gt_TCell) (fun x=>x.Aq) ⟨[]⟩ Z true (fun h=>by cases h)
theorem qcL {x:qu}{cs:List Value}(h:GoT.R w S x cs):∃ b a,cs=[.slice b (x.Aq).length a]∧SlR w S x.Aq b a:=by
 obtain⟨b,a,rfl,s0⟩:=h;exact⟨b,a,rfl,s0⟩
theorem qit (x:qu){b:Option Addr}{a:Nat}(s0:SlR w S x.Aq b a):GoT.R w S x [.slice b (x.Aq).length a]:=have h:=rS s0;h
theorem qiy {x:qu}{c:Option Addr}{b a:Nat}(h:GoT.R w S x [.slice c b a]):(SlR w S x.Aq c a∧b=(x.Aq).length):=by
 obtain⟨_,_,d,s0⟩:=qcL h;cases d;exact⟨s0,rfl⟩
theorem qrr {w0:World}{L:List Ch}(x:qu){I0:List Nat}{a:List Value}(_:SH w0 w L)(b:PO w L I0 x.Aq a):PO w L I0 x a:=
 b
structure qC where
 Bh:ByteArray
 Bt:Int
 Aj:(List Int)
instance gt_TInstance:GoT qC:=isoT (pairT instStr (pairT instInt (@instList Int instInt))) (fun x=>(x.Bh,x.Bt,x.Aj)) ⟨ByteArray.empty,0,[]⟩ Z true (fun h=>by cases h)
abbrev qi2 (x:qC)(p0:Option Addr)(k0:Nat):List Value:=[.string x.Bh,.int .i64 x.Bt,.slice p0 (x.Aj).length k0]
theorem qaD {x:qC}{cs:List Value}(h:GoT.R w S x cs):∃ b a,cs=(qi2 x b a)∧SlR w S x.Aj b a:=by
 obtain⟨_,_,rfl,rfl,⟨_,_,rfl,rfl,⟨b,a,rfl,s0⟩⟩⟩:=h;exact⟨b,a,rfl,s0⟩
theorem qmF (x:qC){b:Option Addr}{a:Nat}(s0:SlR w S x.Aj b a):GoT.R w S x (qi2 x b a):=have h:=pR (rT x.Bh) (pR (rI x.Bt) (rS s0));h
theorem qot {w0:World}{L:List Ch}{x:qC}{f:Option Addr}{d a:Nat}(h:SH w0 w (Ch.own S x [.string x.Bh,.int .i64 x.Bt,.slice f d a]::L)):∃ g,SH w0 w (Ch.own g x.Aj [.slice f d a]::L):=by
 obtain⟨n,l⟩:=h.headV;replace l:GoT.O w S x _:=l;obtain⟨_,_,_,_,o,i,l,_,b0⟩:=l;obtain rfl:=i;cases o;replace n:=n.less b0;obtain⟨_,B1,_,_,o,k,l,_,b1⟩:=l;obtain rfl:=k;cases o;replace n:=n.less b1;obtain⟨q,m,o,s0⟩:=l;cases o;replace n:=n.push (c:=Ch.own B1 x.Aj [_]) (S2:=(fun _=>False)) ⟨_,_,rfl,s0⟩ (fun _ r=>r.elim) (fun b p=>⟨p,fun h=>h⟩) (fun _ h=>h.elim);exact⟨B1,n.sh⟩
theorem qnm {w0:World}{L:List Ch}(x:qC){I0 I1 I2:List Nat}{a c1 b:List Value}(h:SH w0 w L)(c:PO w L I0 x.Bh a)(d:PO w L I1 x.Bt c1)(f:PO w L I2 x.Aj b)(b0:apartB I0 (I1++I2)=true)(b1:apartB I1 I2=true):PO w L (I0++(I1++I2)) x (a++(c1++b)):=
 (qcJ h c (qcJ h d f b1) b0)
structure qav where
 Bh:ByteArray
 Bv:Int
 Bz:Int
instance gt_TPort:GoT qav:=isoT (pairT instStr (pairT instInt instInt)) (fun x=>(x.Bh,x.Bv,x.Bz)) ⟨ByteArray.empty,0,0⟩ Z true (fun h=>by cases h)
instance fl_TPort:Flat qav:=qfN (pairT instStr (pairT instInt instInt)) (fun x:qav=>(x.Bh,x.Bv,x.Bz)) ⟨ByteArray.empty,0,0⟩ Z true (fun h=>by cases h) (qaM _ _ (inferInstanceAs (Flat ByteArray)) (qaM _ _ (inferInstanceAs (Flat Int)) (inferInstanceAs (Flat Int))))
abbrev qqE (x:qav):List Value:=[.string x.Bh,.int .i64 x.Bv,.int .i64 x.Bz]
theorem qeG {x:qav}{cs:List Value}(h:GoT.R w S x cs):cs=(qqE x):=by
 obtain⟨_,_,rfl,rfl,⟨_,_,rfl,rfl,rfl⟩⟩:=h;exact Z
theorem qiG (x:qav):GoT.R w S x (qqE x):=have h:=pR (rT x.Bh) (pR (rI x.Bv) (rI x.Bz));h
structure qf where
 Ab:(List qC)
 Aj:(List ByteArray)
 Ah:(List qav)
instance gt_TDesign:GoT qf:=isoT (pairT (@instList qC gt_TInstance) (pairT (@instList ByteArray instStr) (@instList qav gt_TPort))) (fun x=>(x.Ab,x.Aj,x.Ah)) ⟨[],[],[]⟩ Z true (fun h=>by cases h)
abbrev qap (x:qf)(p0 p1 p2:Option Addr)(k0 k1 k2:Nat):List Value:=[.slice p0 (x.Ab).length k0,.slice p1 (x.Aj).length k1,.slice p2 (x.Ah).length k2]
theorem qaQ {x:qf}{cs:List Value}(h:GoT.R w S x cs):∃ d a p1 b f c,cs=(qap x d p1 f a b c)∧SlR w S x.Ab d a∧SlR w S x.Aj p1 b∧SlR w S x.Ah f c:=by
 obtain⟨_,_,rfl,⟨d,a,rfl,s0⟩,⟨_,_,rfl,⟨p1,b,rfl,s1⟩,⟨f,c,rfl,s2⟩⟩⟩:=h;exact⟨d,a,p1,b,f,c,rfl,s0,s1,s2⟩
theorem qaT (x:qf){d p1 f:Option Addr}{a b c:Nat}(s0:SlR w S x.Ab d a)(s1:SlR w S x.Aj p1 b)(s2:SlR w S x.Ah f c):GoT.R w S x (qap x d p1 f a b c):=have h:=pR (rS s0) (pR (rS s1) (rS s2));h
theorem qc2 {x:qf}{g p1 i:Option Addr}{d a f b l2 c:Nat}(h:GoT.R w S x [.slice g d a,.slice p1 f b,.slice i l2 c]):(SlR w S x.Ab g a∧d=(x.Ab).length)∧(SlR w S x.Aj p1 b∧f=(x.Aj).length)∧(SlR w S x.Ah i c∧l2=(x.Ah).length):=by
 obtain⟨_,_,_,_,_,_,k,s0,s1,s2⟩:=qaQ h;cases k;exact⟨⟨s0,rfl⟩,⟨s1,rfl⟩,⟨s2,rfl⟩⟩
theorem qpu {w0:World}{L:List Ch}{x:qf}{k p1 l:Option Addr}{g a i d l2 f:Nat}(h:SH w0 w (Ch.own S x [.slice k g a,.slice p1 i d,.slice l l2 f]::L)):∃ n S1 S2,SH w0 w (Ch.own S2 x.Ah [.slice l l2 f]::Ch.own S1 x.Aj [.slice p1 i d]::Ch.own n x.Ab [.slice k g a]::L):=by
 obtain⟨s,r⟩:=h.headV;replace r:GoT.O w S x _:=r;obtain⟨A0,B0,_,_,u,o,r,a0,b0⟩:=r;obtain⟨q,m,rfl,s0⟩:=o;cases u;replace s:=s.push (c:=Ch.own A0 x.Ab [_]) (S2:=B0) ⟨_,_,rfl,s0⟩ (fun _ t=>t.elim) a0 b0;obtain⟨A1,B1,_,_,u,p,r,a1,b1⟩:=r;obtain⟨q,m,rfl,s1⟩:=p;cases u;replace s:=s.push (c:=Ch.own A1 x.Aj [_]) (S2:=B1) ⟨_,_,rfl,s1⟩ (fun _ t=>t.elim) a1 b1;obtain⟨q,m,u,s2⟩:=r;cases u;replace s:=s.push (c:=Ch.own B1 x.Ah [_]) (S2:=(fun _=>False)) ⟨_,_,rfl,s2⟩ (fun _ t=>t.elim) (fun b v=>⟨v,fun h=>h⟩) (fun _ h=>h.elim);exact⟨A0,A1,B1,s.sh⟩
theorem qo3 {w0:World}{L:List Ch}(x:qf){I0 I1 I2:List Nat}{a c1 b:List Value}(h:SH w0 w L)(c:PO w L I0 x.Ab a)(d:PO w L I1 x.Aj c1)(f:PO w L I2 x.Ah b)(b0:apartB I0 (I1++I2)=true)(b1:apartB I1 I2=true):PO w L (I0++(I1++I2)) x (a++(c1++b)):=
 (qcJ h c (qcJ h d f b1) b0)
structure qae where
 Ak:(List Int)
 Bu:(List Int)
 Bp:(List Int)
 Bj:(List Int)
instance gt_TWire:GoT qae:=isoT (pairT (@instList Int instInt) (pairT (@instList Int instInt) (pairT (@instList Int instInt) (@instList Int instInt)))) (fun x=>(x.Ak,x.Bu,x.Bp,x.Bj)) ⟨[],[],[],[]⟩ Z true (fun h=>by cases h)
abbrev qfX (x:qae)(p0 p1 p2 p3:Option Addr)(k0 k1 k2 k3:Nat):List Value:=[.slice p0 (x.Ak).length k0,.slice p1 (x.Bu).length k1,.slice p2 (x.Bp).length k2,.slice p3 (x.Bj).length k3]
theorem qbz {x:qae}{cs:List Value}(h:GoT.R w S x cs):∃ f a p1 b g c i d,cs=(qfX x f p1 g i a b c d)∧SlR w S x.Ak f a∧SlR w S x.Bu p1 b∧SlR w S x.Bp g c∧SlR w S x.Bj i d:=by
 obtain⟨_,_,rfl,⟨f,a,rfl,s0⟩,⟨_,_,rfl,⟨p1,b,rfl,s1⟩,⟨_,_,rfl,⟨g,c,rfl,s2⟩,⟨i,d,rfl,k⟩⟩⟩⟩:=h;exact⟨f,a,p1,b,g,c,i,d,rfl,s0,s1,s2,k⟩
theorem qpB (x:qae){f p1 g i:Option Addr}{a b c d:Nat}(s0:SlR w S x.Ak f a)(s1:SlR w S x.Bu p1 b)(s2:SlR w S x.Bp g c)(k:SlR w S x.Bj i d):GoT.R w S x (qfX x f p1 g i a b c d):=have h:=pR (rS s0) (pR (rS s1) (pR (rS s2) (rS k)));h
theorem qiU {w0:World}{L:List Ch}{x:qae}{n p1 o p:Option Addr}{i a k d l2 f l g:Nat}(h:SH w0 w (Ch.own S x [.slice n i a,.slice p1 k d,.slice o l2 f,.slice p l g]::L)):∃ r S1 S2 s,SH w0 w (Ch.own s x.Bj [.slice p l g]::Ch.own S2 x.Bp [.slice o l2 f]::Ch.own S1 x.Bu [.slice p1 k d]::Ch.own r x.Ak [.slice n i a]::L):=by
 obtain⟨A,z⟩:=h.headV;replace z:GoT.O w S x _:=z;obtain⟨A0,B0,_,_,C,t,z,a0,b0⟩:=z;obtain⟨q,m,rfl,s0⟩:=t;cases C;replace A:=A.push (c:=Ch.own A0 x.Ak [_]) (S2:=B0) ⟨_,_,rfl,s0⟩ (fun _ B=>B.elim) a0 b0;obtain⟨A1,B1,_,_,C,u,z,a1,b1⟩:=z;obtain⟨q,m,rfl,s1⟩:=u;cases C;replace A:=A.push (c:=Ch.own A1 x.Bu [_]) (S2:=B1) ⟨_,_,rfl,s1⟩ (fun _ B=>B.elim) a1 b1;obtain⟨A2,B2,_,_,C,v,z,a2,b2⟩:=z;obtain⟨q,m,rfl,s2⟩:=v;cases C;replace A:=A.push (c:=Ch.own A2 x.Bp [_]) (S2:=B2) ⟨_,_,rfl,s2⟩ (fun _ B=>B.elim) a2 b2;obtain⟨q,m,C,y⟩:=z;cases C;replace A:=A.push (c:=Ch.own B2 x.Bj [_]) (S2:=(fun _=>False)) ⟨_,_,rfl,y⟩ (fun _ B=>B.elim) (fun b D=>⟨D,fun h=>h⟩) (fun _ h=>h.elim);exact⟨A0,A1,A2,B2,A.sh⟩
theorem qkS {w0:World}{L:List Ch}(x:qae){I0 I1 I2 I3:List Nat}{a c1 b c:List Value}(h:SH w0 w L)(d:PO w L I0 x.Ak a)(f:PO w L I1 x.Bu c1)(g:PO w L I2 x.Bp b)(i:PO w L I3 x.Bj c)(b0:apartB I0 (I1++(I2++I3))=true)(b1:apartB I1 (I2++I3)=true)(b2:apartB I2 I3=true):PO w L (I0++(I1++(I2++I3))) x (a++(c1++(b++c))):=
 (qcJ h d (qcJ h f (qcJ h g i b2) b1) b0)
structure qe where
 Ap:qu
 Aa:qf
 Af:(List qae)
instance gt_TBlock:GoT qe:=isoT (pairT gt_TLibrary (pairT gt_TDesign (@instList qae gt_TWire))) (fun x=>(x.Ap,x.Aa,x.Af)) ⟨(⟨[]⟩:qu),(⟨[],[],[]⟩:qf),[]⟩ Z true (fun h=>by cases h)
abbrev qH (x:qe)(p0 p1 p2 p3 p4:Option Addr)(k0 k1 k2 k3 k4:Nat):List Value:=[.slice p0 (x.Ap.Aq).length k0,.slice p1 (x.Aa.Ab).length k1,.slice p2 (x.Aa.Aj).length k2,.slice p3 (x.Aa.Ah).length k3,.slice p4 (x.Af).length k4]
theorem qN {x:qe}{cs:List Value}(h:GoT.R w S x cs):∃ g a p1 b i c k d l f,cs=(qH x g p1 i k l a b c d f)∧SlR w S x.Ap.Aq g a∧SlR w S x.Aa.Ab p1 b∧SlR w S x.Aa.Aj i c∧SlR w S x.Aa.Ah k d∧SlR w S x.Af l f:=by
 obtain⟨_,_,rfl,⟨g,a,rfl,s0⟩,⟨_,_,rfl,⟨_,_,rfl,⟨p1,b,rfl,s1⟩,⟨_,_,rfl,⟨i,c,rfl,s2⟩,⟨k,d,rfl,m⟩⟩⟩,⟨l,f,rfl,n⟩⟩⟩:=h;exact⟨g,a,p1,b,i,c,k,d,l,f,rfl,s0,s1,s2,m,n⟩
theorem qgJ (x:qe){g p1 i k l:Option Addr}{a b c d f:Nat}(s0:SlR w S x.Ap.Aq g a)(s1:SlR w S x.Aa.Ab p1 b)(s2:SlR w S x.Aa.Aj i c)(m:SlR w S x.Aa.Ah k d)(n:SlR w S x.Af l f):GoT.R w S x (qH x g p1 i k l a b c d f):=have h:=pR (qit x.Ap s0) (pR (qaT x.Aa s1 s2 m) (rS n));h
theorem qcw {x:qe}{m p1 n o p:Option Addr}{g a i b l2 c k d l f:Nat}(h:GoT.R w S x [.slice m g a,.slice p1 i b,.slice n l2 c,.slice o k d,.slice p l f]):(SlR w S x.Ap.Aq m a∧g=(x.Ap.Aq).length)∧(SlR w S x.Aa.Ab p1 b∧i=(x.Aa.Ab).length)∧(SlR w S x.Aa.Aj n c∧l2=(x.Aa.Aj).length)∧(SlR w S x.Aa.Ah o d∧k=(x.Aa.Ah).length)∧(SlR w S x.Af p f∧l=(x.Af).length):=by
 obtain⟨_,_,_,_,_,_,_,_,_,_,t,s0,s1,s2,r,s⟩:=qN h;cases t;exact⟨⟨s0,rfl⟩,⟨s1,rfl⟩,⟨s2,rfl⟩,⟨r,rfl⟩,⟨s,rfl⟩⟩
theorem qhf {w0:World}{L:List Ch}{x:qe}{s p1 m n o:Option Addr}{r p i a l2 d k f l g:Nat}(h:SH w0 w (Ch.own S x [.slice s r p,.slice p1 i a,.slice m l2 d,.slice n k f,.slice o l g]::L)):∃ D S1 S2,SH w0 w (Ch.own S2 x.Af [.slice o l g]::Ch.own S1 x.Aa [.slice p1 i a,.slice m l2 d,.slice n k f]::Ch.own D x.Ap [.slice s r p]::L):=by
 obtain⟨H,F⟩:=h.headV;replace F:GoT.O w S x _:=F;obtain⟨A0,B0,t,e0,v,B,F,a0,b0⟩:=F;have z:t.length=1:=GoT.len (GoT.toR B);obtain⟨rfl,rfl⟩:t=[.slice s r p]∧e0=[.slice p1 i a,.slice m l2 d,.slice n k f,.slice o l g]:=by
  have:=List.append_inj (show[.slice s r p]++[.slice p1 i a,.slice m l2 d,.slice n k f,.slice o l g]=t++e0 from v) (by rw[z];rfl);exact⟨this.1.symm,this.2.symm⟩
 replace H:=H.push (c:=Ch.own A0 x.Ap [.slice s r p]) (S2:=B0) B (fun _ I=>I.elim) a0 b0;obtain⟨A1,B1,u,e1,y,C,F,a1,b1⟩:=F;have A:u.length=3:=GoT.len (GoT.toR C);obtain⟨rfl,rfl⟩:u=[.slice p1 i a,.slice m l2 d,.slice n k f]∧e1=[.slice o l g]:=by
  have:=List.append_inj (show[.slice p1 i a,.slice m l2 d,.slice n k f]++[.slice o l g]=u++e1 from y) (by rw[A];rfl);exact⟨this.1.symm,this.2.symm⟩
 replace H:=H.push (c:=Ch.own A1 x.Aa [.slice p1 i a,.slice m l2 d,.slice n k f]) (S2:=B1) C (fun _ I=>I.elim) a1 b1;replace H:=H.push (c:=Ch.own B1 x.Af [.slice o l g]) (S2:=(fun _=>False)) F (fun _ I=>I.elim) (fun b J=>⟨J,fun h=>h⟩) (fun _ h=>h.elim);exact⟨A0,A1,B1,H.sh⟩
theorem qth {w0:World}{L:List Ch}(x:qe){I0 I1 I2:List Nat}{a c1 b:List Value}(h:SH w0 w L)(c:PO w L I0 x.Ap a)(d:PO w L I1 x.Aa c1)(f:PO w L I2 x.Af b)(b0:apartB I0 (I1++I2)=true)(b1:apartB I1 I2=true):PO w L (I0++(I1++I2)) x (a++(c1++b)):=
 (qcJ h c (qcJ h d f b1) b0)
structure qx where
 Bh:ByteArray
 Av:Int
 Az:Int
 As:Int
 Ba:Int
instance gt_TCorner:GoT qx:=isoT (pairT instStr (pairT instInt (pairT instInt (pairT instInt instInt)))) (fun x=>(x.Bh,x.Av,x.Az,x.As,x.Ba)) ⟨ByteArray.empty,0,0,0,0⟩ Z true (fun h=>by cases h)
instance fl_TCorner:Flat qx:=qfN (pairT instStr (pairT instInt (pairT instInt (pairT instInt instInt)))) (fun x:qx=>(x.Bh,x.Av,x.Az,x.As,x.Ba)) ⟨ByteArray.empty,0,0,0,0⟩ Z true (fun h=>by cases h) (qaM _ _ (inferInstanceAs (Flat ByteArray)) (qaM _ _ (inferInstanceAs (Flat Int)) (qaM _ _ (inferInstanceAs (Flat Int)) (qaM _ _ (inferInstanceAs (Flat Int)) (inferInstanceAs (Flat Int))))))
abbrev qaP (x:qx):List Value:=[.string x.Bh,.int .i64 x.Av,.int .i64 x.Az,.int .i64 x.As,.int .i64 x.Ba]
theorem qbE {x:qx}{cs:List Value}(h:GoT.R w S x cs):cs=(qaP x):=by
 obtain⟨_,_,rfl,rfl,⟨_,_,rfl,rfl,⟨_,_,rfl,rfl,⟨_,_,rfl,rfl,rfl⟩⟩⟩⟩:=h;exact Z
theorem qkm (x:qx):GoT.R w S x (qaP x):=have h:=pR (rT x.Bh) (pR (rI x.Av) (pR (rI x.Az) (pR (rI x.As) (rI x.Ba))));h
structure qnW where
 Cg:Int
 Ce:Int
instance gt_TLatch:GoT qnW:=isoT (pairT instInt instInt) (fun x=>(x.Cg,x.Ce)) ⟨0,0⟩ Z true (fun h=>by cases h)
instance fl_TLatch:Flat qnW:=qfN (pairT instInt instInt) (fun x:qnW=>(x.Cg,x.Ce)) ⟨0,0⟩ Z true (fun h=>by cases h) (qaM _ _ (inferInstanceAs (Flat Int)) (inferInstanceAs (Flat Int)))
structure qiD where
 Bk:Int
 To:Int
 Bs:Int
 Cd:Int
instance gt_TLatchLink:GoT qiD:=isoT (pairT instInt (pairT instInt (pairT instInt instInt))) (fun x=>(x.Bk,x.To,x.Bs,x.Cd)) ⟨0,0,0,0⟩ Z true (fun h=>by cases h)
instance fl_TLatchLink:Flat qiD:=qfN (pairT instInt (pairT instInt (pairT instInt instInt))) (fun x:qiD=>(x.Bk,x.To,x.Bs,x.Cd)) ⟨0,0,0,0⟩ Z true (fun h=>by cases h) (qaM _ _ (inferInstanceAs (Flat Int)) (qaM _ _ (inferInstanceAs (Flat Int)) (qaM _ _ (inferInstanceAs (Flat Int)) (inferInstanceAs (Flat Int)))))
structure qna where
 Cc:(List qnW)
 Cb:(List qiD)
instance gt_TLatchSystem:GoT qna:=isoT (pairT (@instList qnW gt_TLatch) (@instList qiD gt_TLatchLink)) (fun x=>(x.Cc,x.Cb)) ⟨[],[]⟩ Z true (fun h=>by cases h)
structure qj where
 Ar:Int
 Bg:Int
instance gt_TSpan:GoT qj:=isoT (pairT instInt instInt) (fun x=>(x.Ar,x.Bg)) ⟨0,0⟩ Z true (fun h=>by cases h)
instance fl_TSpan:Flat qj:=qfN (pairT instInt instInt) (fun x:qj=>(x.Ar,x.Bg)) ⟨0,0⟩ Z true (fun h=>by cases h) (qaM _ _ (inferInstanceAs (Flat Int)) (inferInstanceAs (Flat Int)))
abbrev qid (x:qj):List Value:=[.int .i64 x.Ar,.int .i64 x.Bg]
theorem qF {x:qj}{cs:List Value}(h:GoT.R w S x cs):cs=(qid x):=by
 obtain⟨_,_,rfl,rfl,rfl⟩:=h;exact Z
theorem qJ (x:qj):GoT.R w S x (qid x):=have h:=pR (rI x.Ar) (rI x.Bg);h
structure qi where
 Bm:Int
 Ai:qj
 Bd:qj
instance gt_TSource:GoT qi:=isoT (pairT instInt (pairT gt_TSpan gt_TSpan)) (fun x=>(x.Bm,x.Ai,x.Bd)) ⟨0,(⟨0,0⟩:qj),(⟨0,0⟩:qj)⟩ Z true (fun h=>by cases h)
instance fl_TSource:Flat qi:=qfN (pairT instInt (pairT gt_TSpan gt_TSpan)) (fun x:qi=>(x.Bm,x.Ai,x.Bd)) ⟨0,(⟨0,0⟩:qj),(⟨0,0⟩:qj)⟩ Z true (fun h=>by cases h) (qaM _ _ (inferInstanceAs (Flat Int)) (qaM _ _ (inferInstanceAs (Flat qj)) (inferInstanceAs (Flat qj))))
abbrev qfw (x:qi):List Value:=[.int .i64 x.Bm,.int .i64 x.Ai.Ar,.int .i64 x.Ai.Bg,.int .i64 x.Bd.Ar,.int .i64 x.Bd.Bg]
theorem qac {x:qi}{cs:List Value}(h:GoT.R w S x cs):cs=(qfw x):=by
 obtain⟨_,_,rfl,rfl,⟨_,_,rfl,⟨_,_,rfl,rfl,rfl⟩,⟨_,_,rfl,rfl,rfl⟩⟩⟩:=h;exact Z
theorem qbx (x:qi):GoT.R w S x (qfw x):=have h:=pR (rI x.Bm) (pR (qJ x.Ai) (qJ x.Bd));h
structure qB where
 Bf:(List Bool)
 Ai:(List qj)
 Bd:(List qj)
instance gt_TTiming:GoT qB:=isoT (pairT (@instList Bool instBool) (pairT (@instList qj gt_TSpan) (@instList qj gt_TSpan))) (fun x=>(x.Bf,x.Ai,x.Bd)) ⟨[],[],[]⟩ Z true (fun h=>by cases h)
abbrev qbT (x:qB)(p0 p1 p2:Option Addr)(k0 k1 k2:Nat):List Value:=[.slice p0 (x.Bf).length k0,.slice p1 (x.Ai).length k1,.slice p2 (x.Bd).length k2]
theorem qco {x:qB}{cs:List Value}(h:GoT.R w S x cs):∃ d a p1 b f c,cs=(qbT x d p1 f a b c)∧SlR w S x.Bf d a∧SlR w S x.Ai p1 b∧SlR w S x.Bd f c:=by
 obtain⟨_,_,rfl,⟨d,a,rfl,s0⟩,⟨_,_,rfl,⟨p1,b,rfl,s1⟩,⟨f,c,rfl,s2⟩⟩⟩:=h;exact⟨d,a,p1,b,f,c,rfl,s0,s1,s2⟩
theorem qrg (x:qB){d p1 f:Option Addr}{a b c:Nat}(s0:SlR w S x.Bf d a)(s1:SlR w S x.Ai p1 b)(s2:SlR w S x.Bd f c):GoT.R w S x (qbT x d p1 f a b c):=have h:=pR (rS s0) (pR (rS s1) (rS s2));h
theorem qgg {w0:World}{L:List Ch}{x:qB}{k p1 l:Option Addr}{g a i d l2 f:Nat}(h:SH w0 w (Ch.own S x [.slice k g a,.slice p1 i d,.slice l l2 f]::L)):∃ n S1 S2,SH w0 w (Ch.own S2 x.Bd [.slice l l2 f]::Ch.own S1 x.Ai [.slice p1 i d]::Ch.own n x.Bf [.slice k g a]::L):=by
 obtain⟨s,r⟩:=h.headV;replace r:GoT.O w S x _:=r;obtain⟨A0,B0,_,_,u,o,r,a0,b0⟩:=r;obtain⟨q,m,rfl,s0⟩:=o;cases u;replace s:=s.push (c:=Ch.own A0 x.Bf [_]) (S2:=B0) ⟨_,_,rfl,s0⟩ (fun _ t=>t.elim) a0 b0;obtain⟨A1,B1,_,_,u,p,r,a1,b1⟩:=r;obtain⟨q,m,rfl,s1⟩:=p;cases u;replace s:=s.push (c:=Ch.own A1 x.Ai [_]) (S2:=B1) ⟨_,_,rfl,s1⟩ (fun _ t=>t.elim) a1 b1;obtain⟨q,m,u,s2⟩:=r;cases u;replace s:=s.push (c:=Ch.own B1 x.Bd [_]) (S2:=(fun _=>False)) ⟨_,_,rfl,s2⟩ (fun _ t=>t.elim) (fun b v=>⟨v,fun h=>h⟩) (fun _ h=>h.elim);exact⟨A0,A1,B1,s.sh⟩
theorem qf8 {w0:World}{L:List Ch}(x:qB){I0 I1 I2:List Nat}{a c1 b:List Value}(h:SH w0 w L)(c:PO w L I0 x.Bf a)(d:PO w L I1 x.Ai c1)(f:PO w L I2 x.Bd b)(b0:apartB I0 (I1++I2)=true)(b1:apartB I1 I2=true):PO w L (I0++(I1++I2)) x (a++(c1++b)):=
 (qcJ h c (qcJ h d f b1) b0)
structure qbG where
 Ac:qe
 Am:qx
 Bb:(List Int)
 Ay:(List qi)
instance gt_TJob:GoT qbG:=isoT (pairT gt_TBlock (pairT gt_TCorner (pairT (@instList Int instInt) (@instList qi gt_TSource)))) (fun x=>(x.Ac,x.Am,x.Bb,x.Ay)) ⟨(⟨(⟨[]⟩:qu),(⟨[],[],[]⟩:qf),[]⟩:qe),(⟨ByteArray.empty,0,0,0,0⟩:qx),[],[]⟩ Z true (fun h=>by cases h)
abbrev qhF (x:qbG)(p0 p1 p2 p3 p4 p5 p6:Option Addr)(k0 k1 k2 k3 k4 k5 k6:Nat):List Value:=[.slice p0 (x.Ac.Ap.Aq).length k0,.slice p1 (x.Ac.Aa.Ab).length k1,.slice p2 (x.Ac.Aa.Aj).length k2,.slice p3 (x.Ac.Aa.Ah).length k3,.slice p4 (x.Ac.Af).length k4,.string x.Am.Bh,.int .i64 x.Am.Av,.int .i64 x.Am.Az,.int .i64 x.Am.As,.int .i64 x.Am.Ba,.slice p5 (x.Bb).length k5,.slice p6 (x.Ay).length k6]
theorem qek {x:qbG}{cs:List Value}(h:GoT.R w S x cs):∃ k a p1 b l c m d n f o g p i,cs=(qhF x k p1 l m n o p a b c d f g i)∧SlR w S x.Ac.Ap.Aq k a∧SlR w S x.Ac.Aa.Ab p1 b∧SlR w S x.Ac.Aa.Aj l c∧SlR w S x.Ac.Aa.Ah m d∧SlR w S x.Ac.Af n f∧SlR w S x.Bb o g∧SlR w S x.Ay p i:=by
 obtain⟨_,_,rfl,⟨_,_,rfl,⟨k,a,rfl,s0⟩,⟨_,_,rfl,⟨_,_,rfl,⟨p1,b,rfl,s1⟩,⟨_,_,rfl,⟨l,c,rfl,s2⟩,⟨m,d,rfl,r⟩⟩⟩,⟨n,f,rfl,s⟩⟩⟩,⟨_,_,rfl,⟨_,_,rfl,rfl,⟨_,_,rfl,rfl,⟨_,_,rfl,rfl,⟨_,_,rfl,rfl,rfl⟩⟩⟩⟩,⟨_,_,rfl,⟨o,g,rfl,t⟩,⟨p,i,rfl,u⟩⟩⟩⟩:=h;exact⟨k,a,p1,b,l,c,m,d,n,f,o,g,p,i,rfl,s0,s1,s2,r,s,t,u⟩
theorem qbW {x:qbG}{p p1 r s t u v:Option Addr}{k a l b l2 c m d n f l5 g o i:Nat}(h:GoT.R w S x [.slice p k a,.slice p1 l b,.slice r l2 c,.slice s m d,.slice t n f,.string x.Am.Bh,.int .i64 x.Am.Av,.int .i64 x.Am.Az,.int .i64 x.Am.As,.int .i64 x.Am.Ba,.slice u l5 g,.slice v o i]):(SlR w S x.Ac.Ap.Aq p a∧k=(x.Ac.Ap.Aq).length)∧(SlR w S x.Ac.Aa.Ab p1 b∧l=(x.Ac.Aa.Ab).length)∧(SlR w S x.Ac.Aa.Aj r c∧l2=(x.Ac.Aa.Aj).length)∧(SlR w S x.Ac.Aa.Ah s d∧m=(x.Ac.Aa.Ah).length)∧(SlR w S x.Ac.Af t f∧n=(x.Ac.Af).length)∧(SlR w S x.Bb u g∧l5=(x.Bb).length)∧(SlR w S x.Ay v i∧o=(x.Ay).length):=by
 obtain⟨_,_,_,_,_,_,_,_,_,_,_,_,_,_,C,s0,s1,s2,y,z,A,B⟩:=qek h;cases C;exact⟨⟨s0,rfl⟩,⟨s1,rfl⟩,⟨s2,rfl⟩,⟨y,rfl⟩,⟨z,rfl⟩,⟨A,rfl⟩,⟨B,rfl⟩⟩
structure ql where
 Bk:Int
 To:Int
 Bc:Int
 Bx:Int
instance gt_TLink:GoT ql:=isoT (pairT instInt (pairT instInt (pairT instInt instInt))) (fun x=>(x.Bk,x.To,x.Bc,x.Bx)) ⟨0,0,0,0⟩ Z true (fun h=>by cases h)
instance fl_TLink:Flat ql:=qfN (pairT instInt (pairT instInt (pairT instInt instInt))) (fun x:ql=>(x.Bk,x.To,x.Bc,x.Bx)) ⟨0,0,0,0⟩ Z true (fun h=>by cases h) (qaM _ _ (inferInstanceAs (Flat Int)) (qaM _ _ (inferInstanceAs (Flat Int)) (qaM _ _ (inferInstanceAs (Flat Int)) (inferInstanceAs (Flat Int)))))
abbrev qjp (x:ql):List Value:=[.int .i64 x.Bk,.int .i64 x.To,.int .i64 x.Bc,.int .i64 x.Bx]
theorem qah {x:ql}{cs:List Value}(h:GoT.R w S x cs):cs=(qjp x):=by
 obtain⟨_,_,rfl,rfl,⟨_,_,rfl,rfl,⟨_,_,rfl,rfl,rfl⟩⟩⟩:=h;exact Z
theorem qcj (x:ql):GoT.R w S x (qjp x):=have h:=pR (rI x.Bk) (pR (rI x.To) (pR (rI x.Bc) (rI x.Bx)));h
structure qvi where
 Cf:Int
 Cb:(List Int)
 Ai:Int
instance gt_TPath:GoT qvi:=isoT (pairT instInt (pairT (@instList Int instInt) instInt)) (fun x=>(x.Cf,x.Cb,x.Ai)) ⟨0,[],0⟩ Z true (fun h=>by cases h)
structure Tl01Source where
 code:(List (IntK .u8))
 at_:Int
 seed:Int
instance gt_Tl01Source:GoT Tl01Source:=isoT (pairT (@instList (IntK .u8) (@gt_IntK .u8)) (pairT instInt instInt)) (fun x=>(x.code,x.at_,x.seed)) ⟨[],0,0⟩ Z true (fun h=>by cases h)
abbrev qZ (x:Tl01Source)(p0:Option Addr)(k0:Nat):List Value:=[.slice p0 (x.code).length k0,.int .i64 x.at_,.int .i64 x.seed]
theorem qom {x:Tl01Source}{cs:List Value}(h:GoT.R w S x cs):∃ b a,cs=(qZ x b a)∧SlR w S x.code b a:=by
 obtain⟨_,_,rfl,⟨b,a,rfl,s0⟩,⟨_,_,rfl,rfl,rfl⟩⟩:=h;exact⟨b,a,rfl,s0⟩
theorem qlM (x:Tl01Source){b:Option Addr}{a:Nat}(s0:SlR w S x.code b a):GoT.R w S x (qZ x b a):=have h:=pR (rS s0) (pR (rI x.at_) (rI x.seed));h
theorem qb {x:Tl01Source}{c:Option Addr}{b a:Nat}(h:GoT.R w S x [.slice c b a,.int .i64 x.at_,.int .i64 x.seed]):(SlR w S x.code c a∧b=(x.code).length):=by
 obtain⟨_,_,d,s0⟩:=qom h;cases d;exact⟨s0,rfl⟩
structure Tplace where
 instance_:Int
 pin:Int
 net:Int
 drives:Bool
instance gt_Tplace:GoT Tplace:=isoT (pairT instInt (pairT instInt (pairT instInt instBool))) (fun x=>(x.instance_,x.pin,x.net,x.drives)) ⟨0,0,0,false⟩ Z true (fun h=>by cases h)
instance fl_Tplace:Flat Tplace:=qfN (pairT instInt (pairT instInt (pairT instInt instBool))) (fun x:Tplace=>(x.instance_,x.pin,x.net,x.drives)) ⟨0,0,0,false⟩ Z true (fun h=>by cases h) (qaM _ _ (inferInstanceAs (Flat Int)) (qaM _ _ (inferInstanceAs (Flat Int)) (qaM _ _ (inferInstanceAs (Flat Int)) (inferInstanceAs (Flat Bool)))))
abbrev qpg (x:Tplace):List Value:=[.int .i64 x.instance_,.int .i64 x.pin,.int .i64 x.net,.bool x.drives]
theorem qgK {x:Tplace}{cs:List Value}(h:GoT.R w S x cs):cs=(qpg x):=by
 obtain⟨_,_,rfl,rfl,⟨_,_,rfl,rfl,⟨_,_,rfl,rfl,rfl⟩⟩⟩:=h;exact Z
theorem qle (x:Tplace):GoT.R w S x (qpg x):=have h:=pR (rI x.instance_) (pR (rI x.pin) (pR (rI x.net) (rB x.drives)));h
structure Tview where
 Ac:qe
 places:(List Tplace)
 links:(List ql)
 loads:(List Int)
 delays:(List (List Int))
 extras:(List Int)
instance gt_Tview:GoT Tview:=isoT (pairT gt_TBlock (pairT (@instList Tplace gt_Tplace) (pairT (@instList ql gt_TLink) (pairT (@instList Int instInt) (pairT (@instList (List Int) (@instList Int instInt)) (@instList Int instInt)))))) (fun x=>(x.Ac,x.places,x.links,x.loads,x.delays,x.extras)) ⟨(⟨(⟨[]⟩:qu),(⟨[],[],[]⟩:qf),[]⟩:qe),[],[],[],[],[]⟩ Z true (fun h=>by cases h)
abbrev quF (x:Tview)(p0 p1 p2 p3 p4 p5 p6 p7 p8 p9:Option Addr)(k0 k1 k2 k3 k4 k5 k6 k7 k8 k9:Nat):List Value:=[.slice p0 (x.Ac.Ap.Aq).length k0,.slice p1 (x.Ac.Aa.Ab).length k1,.slice p2 (x.Ac.Aa.Aj).length k2,.slice p3 (x.Ac.Aa.Ah).length k3,.slice p4 (x.Ac.Af).length k4,.slice p5 (x.places).length k5,.slice p6 (x.links).length k6,.slice p7 (x.loads).length k7,.slice p8 (x.delays).length k8,.slice p9 (x.extras).length k9]
theorem qct {x:Tview}{cs:List Value}(h:GoT.R w S x cs):∃ n a p1 b o c p d r f s g t i u k v l y m,cs=(quF x n p1 o p r s t u v y a b c d f g i k l m)∧SlR w S x.Ac.Ap.Aq n a∧SlR w S x.Ac.Aa.Ab p1 b∧SlR w S x.Ac.Aa.Aj o c∧SlR w S x.Ac.Aa.Ah p d∧SlR w S x.Ac.Af r f∧SlR w S x.places s g∧SlR w S x.links t i∧SlR w S x.loads u k∧SlR w S x.delays v l∧SlR w S x.extras y m:=by
 obtain⟨_,_,rfl,⟨_,_,rfl,⟨n,a,rfl,s0⟩,⟨_,_,rfl,⟨_,_,rfl,⟨p1,b,rfl,s1⟩,⟨_,_,rfl,⟨o,c,rfl,s2⟩,⟨p,d,rfl,z⟩⟩⟩,⟨r,f,rfl,A⟩⟩⟩,⟨_,_,rfl,⟨s,g,rfl,B⟩,⟨_,_,rfl,⟨t,i,rfl,C⟩,⟨_,_,rfl,⟨u,k,rfl,D⟩,⟨_,_,rfl,⟨v,l,rfl,F⟩,⟨y,m,rfl,H⟩⟩⟩⟩⟩⟩:=h;exact⟨n,a,p1,b,o,c,p,d,r,f,s,g,t,i,u,k,v,l,y,m,rfl,s0,s1,s2,z,A,B,C,D,F,H⟩
structure TlatchSite where
 instance_:Int
 first:Int
 arc:Int
instance gt_TlatchSite:GoT TlatchSite:=isoT (pairT instInt (pairT instInt instInt)) (fun x=>(x.instance_,x.first,x.arc)) ⟨0,0,0⟩ Z true (fun h=>by cases h)
instance fl_TlatchSite:Flat TlatchSite:=qfN (pairT instInt (pairT instInt instInt)) (fun x:TlatchSite=>(x.instance_,x.first,x.arc)) ⟨0,0,0⟩ Z true (fun h=>by cases h) (qaM _ _ (inferInstanceAs (Flat Int)) (qaM _ _ (inferInstanceAs (Flat Int)) (inferInstanceAs (Flat Int))))
structure Tgraph where
 view:(Option Tview)
 live:(List Bool)
instance gt_Tgraph:GoT Tgraph:=isoT (pairT (@instPtr Tview gt_Tview) (@instList Bool instBool)) (fun x=>(x.view,x.live)) ⟨U,[]⟩ Z true (fun h=>by cases h)
abbrev qub (x:Tgraph)(p0 p1:Option Addr)(k1:Nat):List Value:=[.pointer p0,.slice p1 (x.live).length k1]
theorem qfP {x:Tgraph}{cs:List Value}(h:GoT.R w S x cs):∃ b p1 a,cs=(qub x b p1 a)∧PtR w S x.view b∧SlR w S x.live p1 a:=by
 obtain⟨_,_,rfl,c,⟨p1,a,rfl,s1⟩⟩:=h;obtain⟨b,rfl,s0⟩:=qaO c;exact⟨b,p1,a,rfl,s0,s1⟩
structure Twork where
 graph:(Option Tgraph)
 job:qbG
 timing:qB
 order:(List Int)
instance gt_Twork:GoT Twork:=isoT (pairT (@instPtr Tgraph gt_Tgraph) (pairT gt_TJob (pairT gt_TTiming (@instList Int instInt)))) (fun x=>(x.graph,x.job,x.timing,x.order)) ⟨U,(⟨(⟨(⟨[]⟩:qu),(⟨[],[],[]⟩:qf),[]⟩:qe),(⟨ByteArray.empty,0,0,0,0⟩:qx),[],[]⟩:qbG),(⟨[],[],[]⟩:qB),[]⟩ Z true (fun h=>by cases h)
abbrev quN (x:Twork)(p0 p1 p2 p3 p4 p5 p6 p7 p8 p9 p10 p11:Option Addr)(k1 k2 k3 k4 k5 k6 k7 k8 k9 k10 k11:Nat):List Value:=[.pointer p0,.slice p1 (x.job.Ac.Ap.Aq).length k1,.slice p2 (x.job.Ac.Aa.Ab).length k2,.slice p3 (x.job.Ac.Aa.Aj).length k3,.slice p4 (x.job.Ac.Aa.Ah).length k4,.slice p5 (x.job.Ac.Af).length k5,.string x.job.Am.Bh,.int .i64 x.job.Am.Av,.int .i64 x.job.Am.Az,.int .i64 x.job.Am.As,.int .i64 x.job.Am.Ba,.slice p6 (x.job.Bb).length k6,.slice p7 (x.job.Ay).length k7,.slice p8 (x.timing.Bf).length k8,.slice p9 (x.timing.Ai).length k9,.slice p10 (x.timing.Bd).length k10,.slice p11 (x.order).length k11]
theorem qoQ {x:Twork}{cs:List Value}(h:GoT.R w S x cs):∃ r p1 f s g t i u k v l y m z n A o B p c a d b,cs=(quN x r p1 s t u v y z A B c d f g i k l m n o p a b)∧PtR w S x.graph r∧SlR w S x.job.Ac.Ap.Aq p1 f∧SlR w S x.job.Ac.Aa.Ab s g∧SlR w S x.job.Ac.Aa.Aj t i∧SlR w S x.job.Ac.Aa.Ah u k∧SlR w S x.job.Ac.Af v l∧SlR w S x.job.Bb y m∧SlR w S x.job.Ay z n∧SlR w S x.timing.Bf A o∧SlR w S x.timing.Ai B p∧SlR w S x.timing.Bd c a∧SlR w S x.order d b:=by
 obtain⟨_,_,rfl,N,⟨_,_,rfl,⟨_,_,rfl,⟨_,_,rfl,⟨p1,f,rfl,s1⟩,⟨_,_,rfl,⟨_,_,rfl,⟨s,g,rfl,s2⟩,⟨_,_,rfl,⟨t,i,rfl,F⟩,⟨u,k,rfl,H⟩⟩⟩,⟨v,l,rfl,I⟩⟩⟩,⟨_,_,rfl,⟨_,_,rfl,rfl,⟨_,_,rfl,rfl,⟨_,_,rfl,rfl,⟨_,_,rfl,rfl,rfl⟩⟩⟩⟩,⟨_,_,rfl,⟨y,m,rfl,J⟩,⟨z,n,rfl,K⟩⟩⟩⟩,⟨_,_,rfl,⟨_,_,rfl,⟨A,o,rfl,L⟩,⟨_,_,rfl,⟨B,p,rfl,M⟩,⟨c,a,rfl,C⟩⟩⟩,⟨d,b,rfl,D⟩⟩⟩⟩:=h;obtain⟨r,rfl,s0⟩:=qaO N;exact⟨r,p1,f,s,g,t,i,u,k,v,l,y,m,z,n,A,o,B,p,c,a,d,b,rfl,s0,s1,s2,F,H,I,J,K,L,M,C,D⟩
structure Tl20Work where
 j:qbG
 links:(List ql)
 live:(List Bool)
 t:qB
instance gt_Tl20Work:GoT Tl20Work:=isoT (pairT gt_TJob (pairT (@instList ql gt_TLink) (pairT (@instList Bool instBool) gt_TTiming))) (fun x=>(x.j,x.links,x.live,x.t)) ⟨(⟨(⟨(⟨[]⟩:qu),(⟨[],[],[]⟩:qf),[]⟩:qe),(⟨ByteArray.empty,0,0,0,0⟩:qx),[],[]⟩:qbG),[],[],(⟨[],[],[]⟩:qB)⟩ Z true (fun h=>by cases h)
abbrev qrB (x:Tl20Work)(p0 p1 p2 p3 p4 p5 p6 p7 p8 p9 p10 p11:Option Addr)(k0 k1 k2 k3 k4 k5 k6 k7 k8 k9 k10 k11:Nat):List Value:=[.slice p0 (x.j.Ac.Ap.Aq).length k0,.slice p1 (x.j.Ac.Aa.Ab).length k1,.slice p2 (x.j.Ac.Aa.Aj).length k2,.slice p3 (x.j.Ac.Aa.Ah).length k3,.slice p4 (x.j.Ac.Af).length k4,.string x.j.Am.Bh,.int .i64 x.j.Am.Av,.int .i64 x.j.Am.Az,.int .i64 x.j.Am.As,.int .i64 x.j.Am.Ba,.slice p5 (x.j.Bb).length k5,.slice p6 (x.j.Ay).length k6,.slice p7 (x.links).length k7,.slice p8 (x.live).length k8,.slice p9 (x.t.Bf).length k9,.slice p10 (x.t.Ai).length k10,.slice p11 (x.t.Bd).length k11]
theorem qmG {x:Tl20Work}{cs:List Value}(h:GoT.R w S x cs):∃ s f p1 g t i u k v l y m z n A o B p C r c a d b,cs=(qrB x s p1 t u v y z A B C c d f g i k l m n o p r a b)∧SlR w S x.j.Ac.Ap.Aq s f∧SlR w S x.j.Ac.Aa.Ab p1 g∧SlR w S x.j.Ac.Aa.Aj t i∧SlR w S x.j.Ac.Aa.Ah u k∧SlR w S x.j.Ac.Af v l∧SlR w S x.j.Bb y m∧SlR w S x.j.Ay z n∧SlR w S x.links A o∧SlR w S x.live B p∧SlR w S x.t.Bf C r∧SlR w S x.t.Ai c a∧SlR w S x.t.Bd d b:=by
 obtain⟨_,_,rfl,⟨_,_,rfl,⟨_,_,rfl,⟨s,f,rfl,s0⟩,⟨_,_,rfl,⟨_,_,rfl,⟨p1,g,rfl,s1⟩,⟨_,_,rfl,⟨t,i,rfl,s2⟩,⟨u,k,rfl,H⟩⟩⟩,⟨v,l,rfl,I⟩⟩⟩,⟨_,_,rfl,⟨_,_,rfl,rfl,⟨_,_,rfl,rfl,⟨_,_,rfl,rfl,⟨_,_,rfl,rfl,rfl⟩⟩⟩⟩,⟨_,_,rfl,⟨y,m,rfl,J⟩,⟨z,n,rfl,K⟩⟩⟩⟩,⟨_,_,rfl,⟨A,o,rfl,L⟩,⟨_,_,rfl,⟨B,p,rfl,M⟩,⟨_,_,rfl,⟨C,r,rfl,N⟩,⟨_,_,rfl,⟨c,a,rfl,D⟩,⟨d,b,rfl,F⟩⟩⟩⟩⟩⟩:=h;exact⟨s,f,p1,g,t,i,u,k,v,l,y,m,z,n,A,o,B,p,C,r,c,a,d,b,rfl,s0,s1,s2,H,I,J,K,L,M,N,D,F⟩
structure Tl05Place where
 instance_:Int
 pin:Int
 net:Int
 drives:Bool
instance gt_Tl05Place:GoT Tl05Place:=isoT (pairT instInt (pairT instInt (pairT instInt instBool))) (fun x=>(x.instance_,x.pin,x.net,x.drives)) ⟨0,0,0,false⟩ Z true (fun h=>by cases h)
instance fl_Tl05Place:Flat Tl05Place:=qfN (pairT instInt (pairT instInt (pairT instInt instBool))) (fun x:Tl05Place=>(x.instance_,x.pin,x.net,x.drives)) ⟨0,0,0,false⟩ Z true (fun h=>by cases h) (qaM _ _ (inferInstanceAs (Flat Int)) (qaM _ _ (inferInstanceAs (Flat Int)) (qaM _ _ (inferInstanceAs (Flat Int)) (inferInstanceAs (Flat Bool)))))
abbrev qki (x:Tl05Place):List Value:=[.int .i64 x.instance_,.int .i64 x.pin,.int .i64 x.net,.bool x.drives]
theorem qbo {x:Tl05Place}{cs:List Value}(h:GoT.R w S x cs):cs=(qki x):=by
 obtain⟨_,_,rfl,rfl,⟨_,_,rfl,rfl,⟨_,_,rfl,rfl,rfl⟩⟩⟩:=h;exact Z
theorem qfp (x:Tl05Place):GoT.R w S x (qki x):=have h:=pR (rI x.instance_) (pR (rI x.pin) (pR (rI x.net) (rB x.drives)));h
structure qT where
 e0:Int
 e1:Int
instance gt_TA2_Int:GoT qT:=isoT (pairT instInt instInt) (fun x=>(x.e0,x.e1)) ⟨0,0⟩ Z true (fun h=>by cases h)
instance fl_TA2_Int:Flat qT:=qfN (pairT instInt instInt) (fun x:qT=>(x.e0,x.e1)) ⟨0,0⟩ Z true (fun h=>by cases h) (qaM _ _ (inferInstanceAs (Flat Int)) (inferInstanceAs (Flat Int)))
abbrev qpC (x:qT):List Value:=[.int .i64 x.e0,.int .i64 x.e1]
theorem qqv {x:qT}{cs:List Value}(h:GoT.R w S x cs):cs=(qpC x):=by
 obtain⟨_,_,rfl,rfl,rfl⟩:=h;exact Z
theorem qc8 (x:qT):GoT.R w S x (qpC x):=have h:=pR (rI x.e0) (rI x.e1);h
structure Tweight where
 index:Int
 part:Int
instance gt_Tweight:GoT Tweight:=isoT (pairT instInt instInt) (fun x=>(x.index,x.part)) ⟨0,0⟩ Z true (fun h=>by cases h)
instance fl_Tweight:Flat Tweight:=qfN (pairT instInt instInt) (fun x:Tweight=>(x.index,x.part)) ⟨0,0⟩ Z true (fun h=>by cases h) (qaM _ _ (inferInstanceAs (Flat Int)) (inferInstanceAs (Flat Int)))
abbrev qnP (x:Tweight):List Value:=[.int .i64 x.index,.int .i64 x.part]
theorem qm8 {x:Tweight}{cs:List Value}(h:GoT.R w S x cs):cs=(qnP x):=by
 obtain⟨_,_,rfl,rfl,rfl⟩:=h;exact Z
theorem qlQ (x:Tweight):GoT.R w S x (qnP x):=have h:=pR (rI x.index) (rI x.part);h
def tab:Tab:=[ (2,⟨.int .i64,1,8,V (.int .i64 0),[]⟩), (3,⟨.int .i64,1,8,V (.int .i64 0),[]⟩), (4,⟨.bool,1,1,V (.bool false),[]⟩), (5,⟨.int .u8,1,1,V (.int .u8 0),[]⟩), (9,⟨.str,1,16,V (.string ByteArray.empty),[]⟩), (22,⟨.slice 5,1,24,V (.slice U 0 0),[]⟩), (24,⟨.slice 184,1,24,V (.slice U 0 0),[]⟩), (26,⟨.struct,1,24,V (.agg #[.slice U 0 0]),[(0,1,V false)]⟩), (27,⟨.slice 102,1,24,V (.slice U 0 0),[]⟩), (28,⟨.slice 9,1,24,V (.slice U 0 0),[]⟩), (29,⟨.slice 267,1,24,V (.slice U 0 0),[]⟩), (31,⟨.struct,3,72,V (.agg #[.slice U 0 0,.slice U 0 0,.slice U 0 0]),[(0,1,V false),(1,1,V false),(2,1,V false)]⟩), (32,⟨.slice 196,1,24,V (.slice U 0 0),[]⟩), (34,⟨.struct,5,120,V (.agg #[.slice U 0 0,.slice U 0 0,.slice U 0 0,.slice U 0 0,.slice U 0 0]),[(0,1,V true),(1,3,V true),(4,1,V false)]⟩), (36,⟨.struct,5,48,V (.agg #[.string ByteArray.empty,.int .i64 0,.int .i64 0,.int .i64 0,.int .i64 0]),[(0,1,V false),(1,1,V false),(2,1,V false),(3,1,V false),(4,1,V false)]⟩), (37,⟨.slice 2,1,24,V (.slice U 0 0),[]⟩), (40,⟨.slice 126,1,24,V (.slice U 0 0),[]⟩), (41,⟨.slice 48,1,24,V (.slice U 0 0),[]⟩), (43,⟨.struct,2,48,V (.agg #[.slice U 0 0,.slice U 0 0]),[(0,1,V false),(1,1,V false)]⟩), (48,⟨.struct,4,32,V (.agg #[.int .i64 0,.int .i64 0,.int .i64 0,.int .i64 0]),[(0,1,V false),(1,1,V false),(2,1,V false),(3,1,V false)]⟩), (49,⟨.slice 70,1,24,V (.slice U 0 0),[]⟩), (52,⟨.slice 4,1,24,V (.slice U 0 0),[]⟩), (53,⟨.slice 68,1,24,V (.slice U 0 0),[]⟩), (55,⟨.struct,3,72,V (.agg #[.slice U 0 0,.slice U 0 0,.slice U 0 0]),[(0,1,V false),(1,1,V false),(2,1,V false)]⟩), (62,⟨.struct,12,216,V (.agg #[.slice U 0 0,.slice U 0 0,.slice U 0 0,.slice U 0 0,.slice U 0 0,.string ByteArray.empty,.int .i64 0,.int .i64 0,.int .i64 0,.int .i64 0,.slice U 0 0,.slice U 0 0]),[(0,5,V true),(5,5,V true),(10,1,V false),(11,1,V false)]⟩), (68,⟨.struct,2,16,V (.agg #[.int .i64 0,.int .i64 0]),[(0,1,V false),(1,1,V false)]⟩), (70,⟨.struct,5,40,V (.agg #[.int .i64 0,.int .i64 0,.int .i64 0,.int .i64 0,.int .i64 0]),[(0,1,V false),(1,2,V true),(3,2,V true)]⟩), (73,⟨.slice 77,1,24,V (.slice U 0 0),[]⟩), (77,⟨.struct,4,32,V (.agg #[.int .i64 0,.int .i64 0,.int .i64 0,.int .i64 0]),[(0,1,V false),(1,1,V false),(2,1,V false),(3,1,V false)]⟩), (84,⟨.struct,3,40,V (.agg #[.int .i64 0,.slice U 0 0,.int .i64 0]),[(0,1,V false),(1,1,V false),(2,1,V false)]⟩), (97,⟨.ptr,1,8,V (.pointer U),[]⟩), (102,⟨.struct,3,48,V (.agg #[.string ByteArray.empty,.int .i64 0,.slice U 0 0]),[(0,1,V false),(1,1,V false),(2,1,V false)]⟩), (106,⟨.ptr,1,8,V (.pointer U),[]⟩), (110,⟨.slice 210,1,24,V (.slice U 0 0),[]⟩), (112,⟨.ptr,1,8,V (.pointer U),[]⟩), (115,⟨.struct,2,32,V (.agg #[.pointer U,.slice U 0 0]),[(0,1,V false),(1,1,V false)]⟩), (116,⟨.slice 200,1,24,V (.slice U 0 0),[]⟩), (117,⟨.slice 37,1,24,V (.slice U 0 0),[]⟩), (119,⟨.struct,10,240,V (.agg #[.slice U 0 0,.slice U 0 0,.slice U 0 0,.slice U 0 0,.slice U 0 0,.slice U 0 0,.slice U 0 0,.slice U 0 0,.slice U 0 0,.slice U 0 0]),[(0,5,V true),(5,1,V false),(6,1,V false),(7,1,V false),(8,1,V false),(9,1,V false)]⟩), (126,⟨.struct,2,16,V (.agg #[.int .i64 0,.int .i64 0]),[(0,1,V false),(1,1,V false)]⟩), (150,⟨.ptr,1,8,V (.pointer U),[]⟩), (181,⟨.slice 286,1,24,V (.slice U 0 0),[]⟩), (182,⟨.slice 187,1,24,V (.slice U 0 0),[]⟩), (184,⟨.struct,7,112,V (.agg #[.string ByteArray.empty,.int .i64 0,.slice U 0 0,.slice U 0 0,.slice U 0 0,.int .i64 0,.int .i64 0]),[(0,1,V false),(1,1,V false),(2,1,V false),(3,1,V false),(4,1,V false),(5,1,V false),(6,1,V false)]⟩), (185,⟨.slice 264,1,24,V (.slice U 0 0),[]⟩), (187,⟨.struct,6,80,V (.agg #[.int .i64 0,.int .i64 0,.int .i64 0,.int .i64 0,.slice U 0 0,.slice U 0 0]),[(0,1,V false),(1,1,V false),(2,1,V false),(3,1,V false),(4,1,V false),(5,1,V false)]⟩), (191,⟨.struct,3,40,V (.agg #[.slice U 0 0,.int .i64 0,.int .i64 0]),[(0,1,V false),(1,1,V false),(2,1,V false)]⟩), (196,⟨.struct,4,96,V (.agg #[.slice U 0 0,.slice U 0 0,.slice U 0 0,.slice U 0 0]),[(0,1,V false),(1,1,V false),(2,1,V false),(3,1,V false)]⟩), (200,⟨.struct,4,32,V (.agg #[.int .i64 0,.int .i64 0,.int .i64 0,.bool false]),[(0,1,V false),(1,1,V false),(2,1,V false),(3,1,V false)]⟩), (210,⟨.struct,3,24,V (.agg #[.int .i64 0,.int .i64 0,.int .i64 0]),[(0,1,V false),(1,1,V false),(2,1,V false)]⟩), (212,⟨.slice 3,1,24,V (.slice U 0 0),[]⟩), (222,⟨.slice 225,1,24,V (.slice U 0 0),[]⟩), (225,⟨.struct,4,32,V (.agg #[.int .i64 0,.int .i64 0,.int .i64 0,.bool false]),[(0,1,V false),(1,1,V false),(2,1,V false),(3,1,V false)]⟩), (234,⟨.ptr,1,8,V (.pointer U),[]⟩), (243,⟨.struct,17,336,V (.agg #[.slice U 0 0,.slice U 0 0,.slice U 0 0,.slice U 0 0,.slice U 0 0,.string ByteArray.empty,.int .i64 0,.int .i64 0,.int .i64 0,.int .i64 0,.slice U 0 0,.slice U 0 0,.slice U 0 0,.slice U 0 0,.slice U 0 0,.slice U 0 0,.slice U 0 0]),[(0,12,V true),(12,1,V false),(13,1,V false),(14,3,V true)]⟩), (246,⟨.struct,17,320,V (.agg #[.pointer U,.slice U 0 0,.slice U 0 0,.slice U 0 0,.slice U 0 0,.slice U 0 0,.string ByteArray.empty,.int .i64 0,.int .i64 0,.int .i64 0,.int .i64 0,.slice U 0 0,.slice U 0 0,.slice U 0 0,.slice U 0 0,.slice U 0 0,.slice U 0 0]),[(0,1,V false),(1,12,V true),(13,3,V true),(16,1,V false)]⟩), (264,⟨.struct,3,72,V (.agg #[.slice U 0 0,.slice U 0 0,.slice U 0 0]),[(0,1,V false),(1,1,V false),(2,1,V false)]⟩), (267,⟨.struct,3,32,V (.agg #[.string ByteArray.empty,.int .i64 0,.int .i64 0]),[(0,1,V false),(1,1,V false),(2,1,V false)]⟩), (279,⟨.slice 281,1,24,V (.slice U 0 0),[]⟩), (281,⟨.arr 2 2,2,16,V (.agg #[.int .i64 0,.int .i64 0]),[]⟩), (286,⟨.struct,4,40,V (.agg #[.string ByteArray.empty,.int .i64 0,.int .i64 0,.bool false]),[(0,1,V false),(1,1,V false),(2,1,V false),(3,1,V false)]⟩), (328,⟨.slice 332,1,24,V (.slice U 0 0),[]⟩), (332,⟨.struct,2,16,V (.agg #[.int .i64 0,.int .i64 0]),[(0,1,V false),(1,1,V false)]⟩), (338,⟨.int .u64,1,8,V (.int .u64 0),[]⟩)]
theorem qa:TabOk prog tab:=TabOk.mk (by kernel_rfl)
theorem rp {n:Nat}{Q:Exit→Act→World→Prop}{k:List It}{e:Env}{w:World}{all:Array Oper}{l:List Oper}{a:Op}{d t:Nat}{ps:String}{af:Array Edge}{v:Value}
  (h:pev tab e a=V v) (c:Nat.blt d n=true) (b:Run prog n Q (.ops all l::k) ((d,v)::e) w):Run prog n Q (.ops all (⟨V d,a,t,ps,af,U⟩::l)::k) e w:=r_p qa h c b
theorem dp {n:Nat}{Q:Exit→Act→World→Prop}{k:List It}{e:Env}{w:World}{all:Array Oper}{l:List Oper}{a:Op}{d t:Nat}{ps:String}{af:Array Edge}{v:Value}
  (h:pev tab e a=V v) (c:Nat.blt d n=true) (b:RunD prog n Q k all w l ((d,v)::e)):RunD prog n Q k all w (⟨V d,a,t,ps,af,U⟩::l) e:=d_p qa h c b
section
variable {P:Program}{n:Nat}{Q:Exit→Act→World→Prop}{k:List It}{e:Env}{w:World}
theorem zSR {c:Nat}{a:List Oper}{b:Code}(h:Run P n Q (.ops a.toArray a::.code b::k) e w):Run P n Q (.code (.seq (.region c a.toArray false) b)::k) e w:=qck <| qjQ h
theorem zKSR {c:Nat}{a:List Oper}{b:Code}(h:Run P n Q (.ops a.toArray a::.code b::k) e w):Run P n Q (.code .skip::.code (.seq (.region c a.toArray false) b)::k) e w:=qeQ <| qck <| qjQ h
theorem zNSR {a1:Array Oper}{c:Nat}{a:List Oper}{b:Code}(h:Run P n Q (.ops a.toArray a::.code b::k) e w):Run P n Q (.ops a1 []::.code (.seq (.region c a.toArray false) b)::k) e w:=qa2 <| qck <| qjQ h
theorem zKS {a:Code}{b:Code}(h:Run P n Q (.code a::.code b::k) e w):Run P n Q (.code .skip::.code (.seq a b)::k) e w:=qeQ <| qck h
theorem zNS {a1:Array Oper}{a:Code}{b:Code}(h:Run P n Q (.code a::.code b::k) e w):Run P n Q (.ops a1 []::.code (.seq a b)::k) e w:=qa2 <| qck h
theorem zNSS {a1:Array Oper}{b:Code}{c:Code}{a:Code}(h:Run P n Q (.code b::.code c::.code a::k) e w):Run P n Q (.ops a1 []::.code (.seq (.seq b c) a)::k) e w:=qa2 <| qck <| qck h
theorem zKSB {a:Nat}{c:Code}{b:Code}(h:Run P n Q (.code c::.blk a::.code b::k) e w):Run P n Q (.code .skip::.code (.seq (.block a c) b)::k) e w:=qeQ <| qck <| qm h
theorem zKSBSR {b:Nat}{f:Nat}{a:List Oper}{d:Code}{c:Code}(h:Run P n Q (.ops a.toArray a::.code d::.blk b::.code c::k) e w):Run P n Q (.code .skip::.code (.seq (.block b (.seq (.region f a.toArray false) d)) c)::k) e w:=qeQ <| qck <| qm <| qck <| qjQ h
theorem zNE {a1:Array Oper}{a:Nat}(h:Run P n Q (k) e w):Run P n Q (.ops a1 []::.blk a::k) e w:=qa2 <| qtt h
theorem zSS {b:Code}{c:Code}{a:Code}(h:Run P n Q (.code b::.code c::.code a::k) e w):Run P n Q (.code (.seq (.seq b c) a)::k) e w:=qck <| qck h
theorem zKSS {b:Code}{c:Code}{a:Code}(h:Run P n Q (.code b::.code c::.code a::k) e w):Run P n Q (.code .skip::.code (.seq (.seq b c) a)::k) e w:=qeQ <| qck <| qck h
end
section
variable {w0 w:World}{L:List Ch}{n:Nat}{Q:Exit→Act→World→Prop}{k k':List It}{e e':Env}{all:Array Oper}{l l':List Oper}{z:List Nat}
theorem X0 (m:Nat)(a:xs tab n m [] k e [] []=V (k',e',z,z))(b:Run prog n Q k' e' w):Run prog n Q k e w:=((qpO (P:=prog) (Q:=Q) (w:=w) qa m _ _ _ _ _ _ _ _ _ (fun _ h=>by cases h) rfl a).2 rfl).2 b
theorem Y0 (m:Nat)(a:xd tab n all m [] l e [] []=V (l',e',z,z))(b:RunD prog n Q k all w l' e'):RunD prog n Q k all w l e:=((qvk (P:=prog) (Q:=Q) (k:=k) (w:=w) (all:=all) qa m _ _ _ _ _ _ _ _ _ (fun _ h=>by cases h) rfl a).2 rfl).2 b
theorem X1 (m:Nat)(i0:Nat){b0 b:Nat}{a:List Value}(h:SH w0 w L)(c:(L[i0]?,xs tab n m [(b0,a)] k e [] [])=(V (Ch.box b0 a b),V (k',e',z,z)))(f:Run prog n Q k' e' w):Run prog n Q k e w:=by
 simp only[Prod.mk.injEq] at c;exact((qpO (P:=prog) (Q:=Q) (w:=w) qa m _ _ _ _ _ _ _ _ _ (fun p d=>by
  simp only[jJ,jy,or_false] at d;rcases d with rfl
  ·exact h.box i0 c.1) Z c.2).2 Z).2 f
theorem Y1 (m:Nat)(i0:Nat){b0 b:Nat}{a:List Value}(h:SH w0 w L)(c:(L[i0]?,xd tab n all m [(b0,a)] l e [] [])=(V (Ch.box b0 a b),V (l',e',z,z)))(f:RunD prog n Q k all w l' e'):RunD prog n Q k all w l e:=by
 simp only[Prod.mk.injEq] at c;exact((qvk (P:=prog) (Q:=Q) (k:=k) (w:=w) (all:=all) qa m _ _ _ _ _ _ _ _ _ (fun p d=>by
  simp only[jJ,jy,or_false] at d;rcases d with rfl
  ·exact h.box i0 c.1) Z c.2).2 Z).2 f
theorem X2 (m:Nat)(i0 b:Nat){b0 c:Nat}{a:List Value}{b1 d:Nat}{cs1:List Value}(h:SH w0 w L)(f:(L[i0]?,L[b]?,xs tab n m [(b0,a),(b1,cs1)] k e [] [])=(V (Ch.box b0 a c),V (Ch.box b1 cs1 d),V (k',e',z,z)))(i:Run prog n Q k' e' w):Run prog n Q k e w:=by
 simp only[Prod.mk.injEq] at f;exact((qpO (P:=prog) (Q:=Q) (w:=w) qa m _ _ _ _ _ _ _ _ _ (fun p g=>by
  simp only[jJ,jy,or_false] at g;rcases g with rfl|rfl
  ·exact h.box i0 f.1
  ·exact h.box b f.2.1) Z f.2.2).2 Z).2 i
theorem X3 (m:Nat)(i0 b c:Nat){b0 d:Nat}{a:List Value}{b1 f:Nat}{cs1:List Value}{b2 g:Nat}{cs2:List Value}(h:SH w0 w L)(i:(L[i0]?,L[b]?,L[c]?,xs tab n m [(b0,a),(b1,cs1),(b2,cs2)] k e [] [])=(V (Ch.box b0 a d),V (Ch.box b1 cs1 f),V (Ch.box b2 cs2 g),V (k',e',z,z)))(o:Run prog n Q k' e' w):Run prog n Q k e w:=by
 simp only[Prod.mk.injEq] at i;exact((qpO (P:=prog) (Q:=Q) (w:=w) qa m _ _ _ _ _ _ _ _ _ (fun p l=>by
  simp only[jJ,jy,or_false] at l;rcases l with rfl|rfl|rfl
  ·exact h.box i0 i.1
  ·exact h.box b i.2.1
  ·exact h.box c i.2.2.1) Z i.2.2.2).2 Z).2 o
theorem X4 (m:Nat)(i0 b c d:Nat){b0 f:Nat}{a:List Value}{b1 g:Nat}{cs1:List Value}{b2 i:Nat}{cs2:List Value}{b3 l:Nat}{cs3:List Value}(h:SH w0 w L)(o:(L[i0]?,L[b]?,L[c]?,L[d]?,xs tab n m [(b0,a),(b1,cs1),(b2,cs2),(b3,cs3)] k e [] [])=(V (Ch.box b0 a f),V (Ch.box b1 cs1 g),V (Ch.box b2 cs2 i),V (Ch.box b3 cs3 l),V (k',e',z,z)))(s:Run prog n Q k' e' w):Run prog n Q k e w:=by
 simp only[Prod.mk.injEq] at o;exact((qpO (P:=prog) (Q:=Q) (w:=w) qa m _ _ _ _ _ _ _ _ _ (fun p r=>by
  simp only[jJ,jy,or_false] at r;rcases r with rfl|rfl|rfl|rfl
  ·exact h.box i0 o.1
  ·exact h.box b o.2.1
  ·exact h.box c o.2.2.1
  ·exact h.box d o.2.2.2.1) Z o.2.2.2.2).2 Z).2 s
theorem X5 (m:Nat)(i0 c d f g:Nat){b0 i:Nat}{a:List Value}{b1 l:Nat}{cs1:List Value}{b2 o:Nat}{cs2:List Value}{b3 r:Nat}{cs3:List Value}{b s:Nat}{cs4:List Value}(h:SH w0 w L)(t:(L[i0]?,L[c]?,L[d]?,L[f]?,L[g]?,xs tab n m [(b0,a),(b1,cs1),(b2,cs2),(b3,cs3),(b,cs4)] k e [] [])=(V (Ch.box b0 a i),V (Ch.box b1 cs1 l),V (Ch.box b2 cs2 o),V (Ch.box b3 cs3 r),V (Ch.box b cs4 s),V (k',e',z,z)))(v:Run prog n Q k' e' w):Run prog n Q k e w:=by
 simp only[Prod.mk.injEq] at t;exact((qpO (P:=prog) (Q:=Q) (w:=w) qa m _ _ _ _ _ _ _ _ _ (fun p u=>by
  simp only[jJ,jy,or_false] at u;rcases u with rfl|rfl|rfl|rfl|rfl
  ·exact h.box i0 t.1
  ·exact h.box c t.2.1
  ·exact h.box d t.2.2.1
  ·exact h.box f t.2.2.2.1
  ·exact h.box g t.2.2.2.2.1) Z t.2.2.2.2.2).2 Z).2 v
end
section
variable {w0 w:World}{L:List Ch}{n:Nat}{Q:Exit→Act→World→Prop}{k:List It}{e:Env}{all:Array Oper}{l:List Oper}
theorem zp1 {a:Op}{b f:Nat}{s0:String}{d:Array Edge}{c:Value}(h:(pev tab (e) a,Nat.blt b n)=(V c,true))(g:Run prog n Q (.ops all l::k) ((b,c)::e) w):Run prog n Q (.ops all (⟨V b,a,f,s0,d,U⟩::l)::k) e w:=by
 have H:=h;simp only[Prod.mk.injEq] at H;exact rp (H.1) (H.2) (g)
theorem zd1 {a:Op}{b f:Nat}{s0:String}{d:Array Edge}{c:Value}(h:(pev tab (e) a,Nat.blt b n)=(V c,true))(g:RunD prog n Q k all w l ((b,c)::e)):RunD prog n Q k all w (⟨V b,a,f,s0,d,U⟩::l) e:=by
 have H:=h;simp only[Prod.mk.injEq] at H;exact dp (H.1) (H.2) (g)
theorem zp2 {a:Op}{c o:Nat}{s0:String}{i:Array Edge}{f:Value}{b:Op}{d p:Nat}{s1:String}{m:Array Edge}{g:Value}(h:(pev tab (e) a,Nat.blt c n,pev tab ((c,f)::e) b,Nat.blt d n)=(V f,true,V g,true))(r:Run prog n Q (.ops all l::k) ((d,g)::(c,f)::e) w):Run prog n Q (.ops all (⟨V c,a,o,s0,i,U⟩::⟨V d,b,p,s1,m,U⟩::l)::k) e w:=by
 have H:=h;simp only[Prod.mk.injEq] at H;exact rp (H.1) (H.2.1) (rp (H.2.2.1) (H.2.2.2) (r))
theorem zd2 {a:Op}{c o:Nat}{s0:String}{i:Array Edge}{f:Value}{b:Op}{d p:Nat}{s1:String}{m:Array Edge}{g:Value}(h:(pev tab (e) a,Nat.blt c n,pev tab ((c,f)::e) b,Nat.blt d n)=(V f,true,V g,true))(r:RunD prog n Q k all w l ((d,g)::(c,f)::e)):RunD prog n Q k all w (⟨V c,a,o,s0,i,U⟩::⟨V d,b,p,s1,m,U⟩::l) e:=by
 have H:=h;simp only[Prod.mk.injEq] at H;exact dp (H.1) (H.2.1) (dp (H.2.2.1) (H.2.2.2) (r))
theorem zp3 {b:Op}{a s:Nat}{s0:String}{o:Array Edge}{g:Value}{c:Op}{f t:Nat}{s1:String}{p:Array Edge}{i:Value}{d:Op}{d2 u:Nat}{s2:String}{r:Array Edge}{m:Value}(h:(pev tab (e) b,Nat.blt a n,pev tab ((a,g)::e) c,Nat.blt f n,pev tab ((f,i)::(a,g)::e) d,Nat.blt d2 n)=(V g,true,V i,true,V m,true))(v:Run prog n Q (.ops all l::k) ((d2,m)::(f,i)::(a,g)::e) w):Run prog n Q (.ops all (⟨V a,b,s,s0,o,U⟩::⟨V f,c,t,s1,p,U⟩::⟨V d2,d,u,s2,r,U⟩::l)::k) e w:=by
 have H:=h;simp only[Prod.mk.injEq] at H;exact rp (H.1) (H.2.1) (rp (H.2.2.1) (H.2.2.2.1) (rp (H.2.2.2.2.1) (H.2.2.2.2.2) (v)))
theorem zd3 {b:Op}{a s:Nat}{s0:String}{o:Array Edge}{g:Value}{c:Op}{f t:Nat}{s1:String}{p:Array Edge}{i:Value}{d:Op}{d2 u:Nat}{s2:String}{r:Array Edge}{m:Value}(h:(pev tab (e) b,Nat.blt a n,pev tab ((a,g)::e) c,Nat.blt f n,pev tab ((f,i)::(a,g)::e) d,Nat.blt d2 n)=(V g,true,V i,true,V m,true))(v:RunD prog n Q k all w l ((d2,m)::(f,i)::(a,g)::e)):RunD prog n Q k all w (⟨V a,b,s,s0,o,U⟩::⟨V f,c,t,s1,p,U⟩::⟨V d2,d,u,s2,r,U⟩::l) e:=by
 have H:=h;simp only[Prod.mk.injEq] at H;exact dp (H.1) (H.2.1) (dp (H.2.2.1) (H.2.2.2.1) (dp (H.2.2.2.2.1) (H.2.2.2.2.2) (v)))
theorem zp4 {c:Op}{a y:Nat}{s0:String}{s:Array Edge}{i:Value}{d:Op}{b z:Nat}{s1:String}{t:Array Edge}{m:Value}{f:Op}{d2 A:Nat}{s2:String}{u:Array Edge}{p:Value}{g:Op}{o B:Nat}{x:String}{v:Array Edge}{r:Value}(h:(pev tab (e) c,Nat.blt a n,pev tab ((a,i)::e) d,Nat.blt b n,pev tab ((b,m)::(a,i)::e) f,Nat.blt d2 n,pev tab ((d2,p)::(b,m)::(a,i)::e) g,Nat.blt o n)=(V i,true,V m,true,V p,true,V r,true))(C:Run prog n Q (.ops all l::k) ((o,r)::(d2,p)::(b,m)::(a,i)::e) w):Run prog n Q (.ops all (⟨V a,c,y,s0,s,U⟩::⟨V b,d,z,s1,t,U⟩::⟨V d2,f,A,s2,u,U⟩::⟨V o,g,B,x,v,U⟩::l)::k) e w:=by
 have H:=h;simp only[Prod.mk.injEq] at H;exact rp (H.1) (H.2.1) (rp (H.2.2.1) (H.2.2.2.1) (rp (H.2.2.2.2.1) (H.2.2.2.2.2.1) (rp (H.2.2.2.2.2.2.1) (H.2.2.2.2.2.2.2) (C))))
theorem zd4 {c:Op}{a y:Nat}{s0:String}{s:Array Edge}{i:Value}{d:Op}{b z:Nat}{s1:String}{t:Array Edge}{m:Value}{f:Op}{d2 A:Nat}{s2:String}{u:Array Edge}{p:Value}{g:Op}{o B:Nat}{x:String}{v:Array Edge}{r:Value}(h:(pev tab (e) c,Nat.blt a n,pev tab ((a,i)::e) d,Nat.blt b n,pev tab ((b,m)::(a,i)::e) f,Nat.blt d2 n,pev tab ((d2,p)::(b,m)::(a,i)::e) g,Nat.blt o n)=(V i,true,V m,true,V p,true,V r,true))(C:RunD prog n Q k all w l ((o,r)::(d2,p)::(b,m)::(a,i)::e)):RunD prog n Q k all w (⟨V a,c,y,s0,s,U⟩::⟨V b,d,z,s1,t,U⟩::⟨V d2,f,A,s2,u,U⟩::⟨V o,g,B,x,v,U⟩::l) e:=by
 have H:=h;simp only[Prod.mk.injEq] at H;exact dp (H.1) (H.2.1) (dp (H.2.2.1) (H.2.2.2.1) (dp (H.2.2.2.2.1) (H.2.2.2.2.2.1) (dp (H.2.2.2.2.2.2.1) (H.2.2.2.2.2.2.2) (C))))
theorem zp5 {d:Op}{a D:Nat}{s0:String}{v:Array Edge}{c:Value}{f:Op}{b F:Nat}{s1:String}{x:Array Edge}{o:Value}{g:Op}{d2 I:Nat}{s2:String}{y:Array Edge}{r:Value}{i:Op}{p J:Nat}{B:String}{z:Array Edge}{t:Value}{m:Op}{s K:Nat}{C:String}{A:Array Edge}{u:Value}(h:(pev tab (e) d,Nat.blt a n,pev tab ((a,c)::e) f,Nat.blt b n,pev tab ((b,o)::(a,c)::e) g,Nat.blt d2 n,pev tab ((d2,r)::(b,o)::(a,c)::e) i,Nat.blt p n,pev tab ((p,t)::(d2,r)::(b,o)::(a,c)::e) m,Nat.blt s n)=(V c,true,V o,true,V r,true,V t,true,V u,true))(L:Run prog n Q (.ops all l::k) ((s,u)::(p,t)::(d2,r)::(b,o)::(a,c)::e) w):Run prog n Q (.ops all (⟨V a,d,D,s0,v,U⟩::⟨V b,f,F,s1,x,U⟩::⟨V d2,g,I,s2,y,U⟩::⟨V p,i,J,B,z,U⟩::⟨V s,m,K,C,A,U⟩::l)::k) e w:=by
 have H:=h;simp only[Prod.mk.injEq] at H;exact rp (H.1) (H.2.1) (rp (H.2.2.1) (H.2.2.2.1) (rp (H.2.2.2.2.1) (H.2.2.2.2.2.1) (rp (H.2.2.2.2.2.2.1) (H.2.2.2.2.2.2.2.1) (rp (H.2.2.2.2.2.2.2.2.1) (H.2.2.2.2.2.2.2.2.2) (L)))))
theorem zd5 {d:Op}{a D:Nat}{s0:String}{v:Array Edge}{c:Value}{f:Op}{b F:Nat}{s1:String}{x:Array Edge}{o:Value}{g:Op}{d2 I:Nat}{s2:String}{y:Array Edge}{r:Value}{i:Op}{p J:Nat}{B:String}{z:Array Edge}{t:Value}{m:Op}{s K:Nat}{C:String}{A:Array Edge}{u:Value}(h:(pev tab (e) d,Nat.blt a n,pev tab ((a,c)::e) f,Nat.blt b n,pev tab ((b,o)::(a,c)::e) g,Nat.blt d2 n,pev tab ((d2,r)::(b,o)::(a,c)::e) i,Nat.blt p n,pev tab ((p,t)::(d2,r)::(b,o)::(a,c)::e) m,Nat.blt s n)=(V c,true,V o,true,V r,true,V t,true,V u,true))(L:RunD prog n Q k all w l ((s,u)::(p,t)::(d2,r)::(b,o)::(a,c)::e)):RunD prog n Q k all w (⟨V a,d,D,s0,v,U⟩::⟨V b,f,F,s1,x,U⟩::⟨V d2,g,I,s2,y,U⟩::⟨V p,i,J,B,z,U⟩::⟨V s,m,K,C,A,U⟩::l) e:=by
 have H:=h;simp only[Prod.mk.injEq] at H;exact dp (H.1) (H.2.1) (dp (H.2.2.1) (H.2.2.2.1) (dp (H.2.2.2.2.1) (H.2.2.2.2.2.1) (dp (H.2.2.2.2.2.2.1) (H.2.2.2.2.2.2.2.1) (dp (H.2.2.2.2.2.2.2.2.1) (H.2.2.2.2.2.2.2.2.2) (L)))))
theorem zl (i j:Nat){d t ty:Nat}{x:Operand}{c:TE}{ps:String}{af:Array Edge}{v:Value}{b:Nat}{cs:List Value}{g:TypeId}(h:SH w0 w L)(a:(L[i]?,opv e x,tab.get t,ld c cs j,Nat.blt d n)=(V (Ch.box b cs g),V (.pointer (V ⟨b,0+j,U⟩)),V c,V v,true))
  (f:Run prog n Q (.ops all l::k) ((d,v)::e) w):Run prog n Q (.ops all (⟨V d,.load t x,ty,ps,af,U⟩::l)::k) e w:=by
 simp only[Prod.mk.injEq] at a;exact r_v (qbc qa (h.box i a.1) (j:=j) a.2.1 a.2.2.1 a.2.2.2.1) a.2.2.2.2 f
theorem zc (j:Nat){d t ty:Nat}{x:Operand}{c:TE}{ps:String}{af:Array Edge}{v:Value}{b o:Nat}{cs:List Value}(h:CellsAt w b o cs)(a:(opv e x,tab.get t,ld c cs j,Nat.blt d n)=(V (.pointer (V ⟨b,o+j,U⟩)),V c,V v,true))
  (f:Run prog n Q (.ops all l::k) ((d,v)::e) w):Run prog n Q (.ops all (⟨V d,.load t x,ty,ps,af,U⟩::l)::k) e w:=by
 simp only[Prod.mk.injEq] at a;exact r_v (qbc qa h (j:=j) a.1 a.2.1 a.2.2.1) a.2.2.2 f
theorem zdc (j:Nat){d t ty:Nat}{x:Operand}{c:TE}{ps:String}{af:Array Edge}{v:Value}{b o:Nat}{cs:List Value}(h:CellsAt w b o cs)(a:(opv e x,tab.get t,ld c cs j,Nat.blt d n)=(V (.pointer (V ⟨b,o+j,U⟩)),V c,V v,true))
  (g:RunD prog n Q k all w l ((d,v)::e)):RunD prog n Q k all w (⟨V d,.load t x,ty,ps,af,U⟩::l) e:=by
 simp only[Prod.mk.injEq] at a;exact d_v (fun _ f=>qbc qa (h.below f) (j:=j) a.1 a.2.1 a.2.2.1) a.2.2.2 g
theorem zx {x i:Operand}{t ty d h m:Nat}{s a:TE}{ps:String}{af:Array Edge}{p:Option Addr}{r c:Nat}{kd:IntKind}{iv:Int}{b o q:Nat}(v:p=V ⟨b,o,U⟩)(y:q=o+iv.toNat*m)(g:0≤iv∧iv<r)(f:(opv e x,opv e i,tab.get t,s.kind,tab.get h,a.size,Nat.blt d n)=(V (.slice p r c),V (.int kd iv),V s,TK.slice h,V a,m,true))(u:Run prog n Q (.ops all l::k) ((d,.pointer (V ⟨b,q,U⟩))::e) w):Run prog n Q (.ops all (⟨V d,.indexAddr t x i,ty,ps,af,U⟩::l)::k) e w:=by
 simp only[Prod.mk.injEq] at f;exact r_v (qtM qa v y g f.1 f.2.1 f.2.2.1 f.2.2.2.1 f.2.2.2.2.1 f.2.2.2.2.2.1) f.2.2.2.2.2.2 u
theorem zxe {x i:Operand}{t ty d g m:Nat}{r a:TE}{ps:String}{af:Array Edge}{p:Option Addr}{h c:Nat}{kd:IntKind}{iv:Int}{b o q:Nat}{α:Prop}(v:p=V ⟨b,o,U⟩)(y:q=o+iv.toNat*m)(f:0≤iv∧iv<h∧α)(s:(opv e x,opv e i,tab.get t,r.kind,tab.get g,a.size,Nat.blt d n)=(V (.slice p h c),V (.int kd iv),V r,TK.slice g,V a,m,true))(u:Run prog n Q (.ops all l::k) ((d,.pointer (V ⟨b,q,U⟩))::e) w):Run prog n Q (.ops all (⟨V d,.indexAddr t x i,ty,ps,af,U⟩::l)::k) e w:=zx v y ⟨f.1,f.2.1⟩ s u
theorem zdx {x i:Operand}{t ty d h m:Nat}{s a:TE}{ps:String}{af:Array Edge}{p:Option Addr}{r c:Nat}{kd:IntKind}{iv:Int}{b o q:Nat}(v:p=V ⟨b,o,U⟩)(y:q=o+iv.toNat*m)(g:0≤iv∧iv<r)(f:(opv e x,opv e i,tab.get t,s.kind,tab.get h,a.size,Nat.blt d n)=(V (.slice p r c),V (.int kd iv),V s,TK.slice h,V a,m,true))(u:RunD prog n Q k all w l ((d,.pointer (V ⟨b,q,U⟩))::e)):RunD prog n Q k all w (⟨V d,.indexAddr t x i,ty,ps,af,U⟩::l) e:=by
 simp only[Prod.mk.injEq] at f;exact d_v (fun _ _=>qtM qa v y g f.1 f.2.1 f.2.2.1 f.2.2.2.1 f.2.2.2.2.1 f.2.2.2.2.2.1) f.2.2.2.2.2.2 u
theorem zdxe {x i:Operand}{t ty d g m:Nat}{r a:TE}{ps:String}{af:Array Edge}{p:Option Addr}{h c:Nat}{kd:IntKind}{iv:Int}{b o q:Nat}{α:Prop}(v:p=V ⟨b,o,U⟩)(y:q=o+iv.toNat*m)(f:0≤iv∧iv<h∧α)(s:(opv e x,opv e i,tab.get t,r.kind,tab.get g,a.size,Nat.blt d n)=(V (.slice p h c),V (.int kd iv),V r,TK.slice g,V a,m,true))(u:RunD prog n Q k all w l ((d,.pointer (V ⟨b,q,U⟩))::e)):RunD prog n Q k all w (⟨V d,.indexAddr t x i,ty,ps,af,U⟩::l) e:=zdx v y ⟨f.1,f.2.1⟩ s u
theorem zs (i:Nat){t ty:Nat}{ps:String}{af:Array Edge}{x v:Operand}{D:TE}{b j:Nat}{cs A z:List Value}{C:TypeId}{u:Value}{L':List Ch}(h:SH w0 w L)
  (B:(L[i]?,opv e x,opv e v,cellsL u,tab.get t,Nat.beq A.length D.size,Nat.ble (j+A.length) cs.length,ones A,splN cs j A,setN L i (Ch.box b z C))=(V (Ch.box b cs C),V (.pointer (V ⟨b,j,U⟩)),V u,A,V D,true,true,true,V z,V L'))
  (F:∀ w',SH w0 w' L'→Run prog n Q (.ops all l::k) e w'):Run prog n Q (.ops all (⟨U,.store t x v,ty,ps,af,U⟩::l)::k) e w:=by
 simp only[Prod.mk.injEq] at B;obtain⟨d,f,g,m,o,p,r,s,y,a⟩:=B;subst m;have e1:=qqp y;have c:=qsj a;subst e1 c;exact quW qa i h d f g o p r s F
end
section
variable {P:Program}{fnc:Func}{R:Ending→World→Prop}{n:Nat}{k:List It}{e:Env}{w0 w:World}{ops:Array Oper}{st:List Nat}{fuel:Nat}
theorem M0 (K:Nat)(is:List Nat){C:World→Prop}{m K0 f a:Nat}{e':Env}{z:List Nat}(b:C w)(c:xa tab n ops is [] f e [] []=V (a,e',z,z))
  (d:RunA prog n (bodyPost prog fnc R) k ops st C a (bits m K) e' w) (g:oka ops st is (bits m K0) (bits m K)=true:=by kernel_rfl):RunA prog n (bodyPost prog fnc R) k ops st C f (bits m K0) e w:=by
 exact((qrv (C:=C) (w:=w) (P:=prog) qa b is _ _ _ _ _ _ _ _ _ _ _ (fun _ h=>by cases h) rfl c g).2 rfl).2 d
theorem G0 (K:Nat)(is:List Nat){C:World→Prop}{m K0 f a:Nat}{e':Env}{z:List Nat}{all:Array Oper}(b:C w)(c:xa tab n ops is [] f e [] []=V (a,e',z,z))
  (d:RunA prog n (bodyPost prog fnc R) k ops st C a (bits m K) e' w) (g:oka ops st is (bits m K0) (bits m K)=true:=by kernel_rfl):Run prog n (bodyPost prog fnc R) (.ops all []::.goal (NextA prog n (bodyPost prog fnc R) k ops st C f (bits m K0))::k) e w:=
 Ag b (M0 K is (C:=C) b c d g)
theorem M1 (K:Nat)(is:List Nat)(i0:Nat){b0 b:Nat}{a:List Value}{LA:List Ch}{m K0 f d:Nat}{e':Env}{z:List Nat}(h:SH w0 w LA)(c:(LA[i0]?,xa tab n ops is [(b0,a)] f e [] [])=(V (Ch.box b0 a b),V (d,e',z,z)))
  (i:RunA prog n (bodyPost prog fnc R) k ops st (fun w'=>SH w0 w' LA) d (bits m K) e' w) (l:oka ops st is (bits m K0) (bits m K)=true:=by kernel_rfl):RunA prog n (bodyPost prog fnc R) k ops st (fun w'=>SH w0 w' LA) f (bits m K0) e w:=by
 simp only[Prod.mk.injEq] at c;exact((qrv (C:=(fun w'=>SH w0 w' LA)) (w:=w) (P:=prog) qa h is _ _ _ _ _ _ _ _ _ _ _ (fun p g _ o=>by
  simp only[jJ,jy,or_false] at g;rcases g with rfl
  ·exact SH.box o i0 c.1) Z c.2 l).2 Z).2 i
theorem M2 (K:Nat)(is:List Nat)(i0 b:Nat){b0 c:Nat}{a:List Value}{b1 d:Nat}{cs1:List Value}{LA:List Ch}{m K0 f h:Nat}{e':Env}{z:List Nat}(o:SH w0 w LA)(g:(LA[i0]?,LA[b]?,xa tab n ops is [(b0,a),(b1,cs1)] f e [] [])=(V (Ch.box b0 a c),V (Ch.box b1 cs1 d),V (h,e',z,z)))
  (r:RunA prog n (bodyPost prog fnc R) k ops st (fun w'=>SH w0 w' LA) h (bits m K) e' w) (s:oka ops st is (bits m K0) (bits m K)=true:=by kernel_rfl):RunA prog n (bodyPost prog fnc R) k ops st (fun w'=>SH w0 w' LA) f (bits m K0) e w:=by
 simp only[Prod.mk.injEq] at g;exact((qrv (C:=(fun w'=>SH w0 w' LA)) (w:=w) (P:=prog) qa o is _ _ _ _ _ _ _ _ _ _ _ (fun p i _ l=>by
  simp only[jJ,jy,or_false] at i;rcases i with rfl|rfl
  ·exact SH.box l i0 g.1
  ·exact SH.box l b g.2.1) Z g.2.2 s).2 Z).2 r
theorem M3 (K:Nat)(is:List Nat)(i0 b c:Nat){b0 d:Nat}{a:List Value}{b1 g:Nat}{cs1:List Value}{b2 h:Nat}{cs2:List Value}{LA:List Ch}{m K0 f o:Nat}{e':Env}{z:List Nat}(s:SH w0 w LA)(i:(LA[i0]?,LA[b]?,LA[c]?,xa tab n ops is [(b0,a),(b1,cs1),(b2,cs2)] f e [] [])=(V (Ch.box b0 a d),V (Ch.box b1 cs1 g),V (Ch.box b2 cs2 h),V (o,e',z,z)))
  (t:RunA prog n (bodyPost prog fnc R) k ops st (fun w'=>SH w0 w' LA) o (bits m K) e' w) (u:oka ops st is (bits m K0) (bits m K)=true:=by kernel_rfl):RunA prog n (bodyPost prog fnc R) k ops st (fun w'=>SH w0 w' LA) f (bits m K0) e w:=by
 simp only[Prod.mk.injEq] at i;exact((qrv (C:=(fun w'=>SH w0 w' LA)) (w:=w) (P:=prog) qa s is _ _ _ _ _ _ _ _ _ _ _ (fun p r _ l=>by
  simp only[jJ,jy,or_false] at r;rcases r with rfl|rfl|rfl
  ·exact SH.box l i0 i.1
  ·exact SH.box l b i.2.1
  ·exact SH.box l c i.2.2.1) Z i.2.2.2 u).2 Z).2 t
theorem M4 (K:Nat)(is:List Nat)(i0 b c d:Nat){b0 g:Nat}{a:List Value}{b1 h:Nat}{cs1:List Value}{b2 i:Nat}{cs2:List Value}{b3 l:Nat}{cs3:List Value}{LA:List Ch}{m K0 f s:Nat}{e':Env}{z:List Nat}(u:SH w0 w LA)(o:(LA[i0]?,LA[b]?,LA[c]?,LA[d]?,xa tab n ops is [(b0,a),(b1,cs1),(b2,cs2),(b3,cs3)] f e [] [])=(V (Ch.box b0 a g),V (Ch.box b1 cs1 h),V (Ch.box b2 cs2 i),V (Ch.box b3 cs3 l),V (s,e',z,z)))
  (v:RunA prog n (bodyPost prog fnc R) k ops st (fun w'=>SH w0 w' LA) s (bits m K) e' w) (x:oka ops st is (bits m K0) (bits m K)=true:=by kernel_rfl):RunA prog n (bodyPost prog fnc R) k ops st (fun w'=>SH w0 w' LA) f (bits m K0) e w:=by
 simp only[Prod.mk.injEq] at o;exact((qrv (C:=(fun w'=>SH w0 w' LA)) (w:=w) (P:=prog) qa u is _ _ _ _ _ _ _ _ _ _ _ (fun p t _ r=>by
  simp only[jJ,jy,or_false] at t;rcases t with rfl|rfl|rfl|rfl
  ·exact SH.box r i0 o.1
  ·exact SH.box r b o.2.1
  ·exact SH.box r c o.2.2.1
  ·exact SH.box r d o.2.2.2.1) Z o.2.2.2.2 x).2 Z).2 v
theorem Aw (i K:Nat){C:World→Prop}{m K0 d:Nat}{b:Op}{t:Nat}{ps:String}{af:Array Edge}{v:Value}(l:∀ w',C w'→Val prog n e ⟨V d,b,t,ps,af,U⟩ w' v)(c:C w)(a:(ops[i]?,Nat.blt d n)=(V (⟨V d,b,t,ps,af,U⟩:Oper),true))
  (g:RunA prog n (bodyPost prog fnc R) k ops st C fuel (bits m K) ((d,v)::e) w) (h:(bits m K0).setIfInBounds i true=bits m K:=by kernel_rfl)
  (f:(Region.noSelect ops&&Region.free .any ops (bits m K0) i&&(Region.ready .any ops (bits m K0)).contains i&&st.all (fun s=>!(Nat.beq s i)&&waitsB ops i s&&!((bits m K0).getD s true)))=true:=by kernel_rfl) :
  RunA prog n (bodyPost prog fnc R) k ops st C (fuel+1) (bits m K0) e w:=by
 simp only[Prod.mk.injEq] at a;exact qje i a.1 _ h f l c a.2 g
theorem Al (i K j:Nat){LA:List Ch}{m K0 d t ty b o:Nat}{x:Operand}{c:TE}{ps:String}{af:Array Edge}{v:Value}{cs:List Value}(h:CellsAt w0 b o cs)(f:SH w0 w LA)
  (a:(ops[i]?,opv e x,tab.get t,ld c cs j,Nat.blt d n)=(V (⟨V d,.load t x,ty,ps,af,U⟩:Oper),V (.pointer (V ⟨b,o+j,U⟩)),V c,V v,true))
  (l:RunA prog n (bodyPost prog fnc R) k ops st (fun w'=>SH w0 w' LA) fuel (bits m K) ((d,v)::e) w) (p:(bits m K0).setIfInBounds i true=bits m K:=by kernel_rfl)
  (g:(Region.noSelect ops&&Region.free .any ops (bits m K0) i&&(Region.ready .any ops (bits m K0)).contains i&&st.all (fun s=>!(Nat.beq s i)&&waitsB ops i s&&!((bits m K0).getD s true)))=true:=by kernel_rfl) :
  RunA prog n (bodyPost prog fnc R) k ops st (fun w'=>SH w0 w' LA) (fuel+1) (bits m K0) e w:=by
 simp only[Prod.mk.injEq] at a;exact qje i a.1 _ p g (fun w' r=>qbc qa (h.below r.below) (j:=j) a.2.1 a.2.2.1 a.2.2.2.1) f a.2.2.2.2 l
theorem Ax (i K:Nat){C:World→Prop}{m K0 d t ty h q:Nat}{x ix:Operand}{u a:TE}{ps:String}{af:Array Edge}{p:Option Addr}{l c r:Nat}{kd:IntKind}{iv:Int}{b o:Nat}(B:p=V ⟨b,o,U⟩)(D:q=o+iv.toNat*r)(g:0≤iv∧iv<l)(v:C w)
  (f:(ops[i]?,opv e x,opv e ix,tab.get t,u.kind,tab.get h,a.size,Nat.blt d n)=(V (⟨V d,.indexAddr t x ix,ty,ps,af,U⟩:Oper),V (.slice p l c),V (.int kd iv),V u,TK.slice h,V a,r,true))
  (z:RunA prog n (bodyPost prog fnc R) k ops st C fuel (bits m K) ((d,.pointer (V ⟨b,q,U⟩))::e) w) (A:(bits m K0).setIfInBounds i true=bits m K:=by kernel_rfl)
  (y:(Region.noSelect ops&&Region.free .any ops (bits m K0) i&&(Region.ready .any ops (bits m K0)).contains i&&st.all (fun s=>!(Nat.beq s i)&&waitsB ops i s&&!((bits m K0).getD s true)))=true:=by kernel_rfl) :
  RunA prog n (bodyPost prog fnc R) k ops st C (fuel+1) (bits m K0) e w:=by
 simp only[Prod.mk.injEq] at f;exact qje i f.1 _ A y (fun w' _=>qtM qa B D g f.2.1 f.2.2.1 f.2.2.2.1 f.2.2.2.2.1 f.2.2.2.2.2.1 f.2.2.2.2.2.2.1) v f.2.2.2.2.2.2.2 z
theorem Ae (i K:Nat){C:World→Prop}{m K0 d t ty g q:Nat}{x ix:Operand}{r a:TE}{ps:String}{af:Array Edge}{p:Option Addr}{h c l:Nat}{kd:IntKind}{iv:Int}{b o:Nat}{α:Prop}(B:p=V ⟨b,o,U⟩)(D:q=o+iv.toNat*l)(f:0≤iv∧iv<h∧α)(u:C w)
  (y:(ops[i]?,opv e x,opv e ix,tab.get t,r.kind,tab.get g,a.size,Nat.blt d n)=(V (⟨V d,.indexAddr t x ix,ty,ps,af,U⟩:Oper),V (.slice p h c),V (.int kd iv),V r,TK.slice g,V a,l,true))
  (z:RunA prog n (bodyPost prog fnc R) k ops st C fuel (bits m K) ((d,.pointer (V ⟨b,q,U⟩))::e) w) (A:(bits m K0).setIfInBounds i true=bits m K:=by kernel_rfl)
  (v:(Region.noSelect ops&&Region.free .any ops (bits m K0) i&&(Region.ready .any ops (bits m K0)).contains i&&st.all (fun s=>!(Nat.beq s i)&&waitsB ops i s&&!((bits m K0).getD s true)))=true:=by kernel_rfl) :
  RunA prog n (bodyPost prog fnc R) k ops st C (fuel+1) (bits m K0) e w:=Ax i K B D ⟨f.1,f.2.1⟩ u y z A v
theorem rb {a:Func}{L:List Ch}{x r:Bool}(h:SH w0 w L)(F:V x=V r)(b:res1 e a.results.toList=V (.bool x)) :
  Run prog n (bodyPost prog a fun e w'=>∃ v,e=.returned v∧Below w0.heap.size w0 w'∧∃ us,v=tup us∧GoVs.Vs w' (fresh w0 w') r us) (.code .ret::k) e w:=qv9 qa h F (qsp b)
theorem ri {a:Func}{L:List Ch}{x r:Int}(h:SH w0 w L)(F:V x=V r)(b:res1 e a.results.toList=V (.int .i64 x)) :
  Run prog n (bodyPost prog a fun e w'=>∃ v,e=.returned v∧Below w0.heap.size w0 w'∧∃ us,v=tup us∧GoVs.Vs w' (fresh w0 w') r us) (.code .ret::k) e w:=qwa qa h F (qsp b)
theorem rO {a:Func}{L:List Ch}{α:Type}[GoT α]{r:α}{S:Nat→Prop}{cs:List Value}(i:Nat)(h:SH w0 w L)(hi:L[i]?=V (Ch.own S r cs))(b:ResOk tab e w a.results.toList [GoT.v α cs]) :
  Run prog n (bodyPost prog a fun e w'=>∃ v,e=.returned v∧Below w0.heap.size w0 w'∧∃ us,v=tup us∧GoVs.Vs w' (fresh w0 w') r us) (.code .ret::k) e w:=qak qa _ h b (PV.done h (qat (qK i h hi)))
theorem zV {ρ:Type}[GoVs ρ]{f:FuncId}{a:Func}{c:Code}{vs:List Value}{r:ρ}(m:Nat)(d:prog.funcs[f]?=V a)(b:(a.body,a.ntmps,Nat.ble vs.length m)=(V c,m,true))
  (h:SH w w []→Run prog m (bodyPost prog a fun e w'=>∃ v,e=.returned v∧Below w.heap.size w w'∧∃ us,v=tup us∧GoVs.Vs w' (fresh w w') r us) [.code c] (argEnv 0 vs) w):RetV prog f vs w r:=by
 simp only[Prod.mk.injEq] at b;exact qrd d b.1 b.2.1 b.2.2 h
end
section
variable {w0 w:World}{L:List Ch}{n:Nat}{Q:Exit→Act→World→Prop}{k:List It}{e:Env}{all:Array Oper}{l:List Oper}{d ty:Nat}{ps:String}{af:Array Edge}{x:Operand}{args:Array Operand}{ats:Array TypeId}{f:FuncId}{fi ca:Array Value}{av vs:List Value}{β:Type}{rr:β}
theorem zcI {F:Option Int}{g:Int→Option β}(h:SH w0 w L)(c:F.bind g=V rr)(m:∀ {r},F=V r→RetV prog f vs w r)
  (b:(opv e x,opvs e args.toList,fi.toList++av++ca.toList,Nat.blt d n)=(V (.func (.func f) fi ca),V av,vs,true))
  (o:∀ r w' ,SH w0 w' (L)→g r=V rr→Run prog n Q (.ops all l::k) ((d,.int .i64 r)::e) w') (a:qeH prog f:=by exact cA Z):Run prog n Q (.ops all (⟨V d,.call ⟨.value x,args,ats⟩,ty,ps,af,U⟩::l)::k) e w:=by
 obtain⟨r,p,c⟩:=qd c;simp only[Prod.mk.injEq] at b;exact qcs r h a (m p) b.1 b.2.1 b.2.2.1 b.2.2.2 (fun w'  i=>o r w'  i c)
theorem zcB {F:Option Bool}{g:Bool→Option β}(h:SH w0 w L)(c:F.bind g=V rr)(m:∀ {r},F=V r→RetV prog f vs w r)
  (b:(opv e x,opvs e args.toList,fi.toList++av++ca.toList,Nat.blt d n)=(V (.func (.func f) fi ca),V av,vs,true))
  (o:∀ r w' ,SH w0 w' (L)→g r=V rr→Run prog n Q (.ops all l::k) ((d,.bool r)::e) w') (a:qeH prog f:=by exact cA Z):Run prog n Q (.ops all (⟨V d,.call ⟨.value x,args,ats⟩,ty,ps,af,U⟩::l)::k) e w:=by
 obtain⟨r,p,c⟩:=qd c;simp only[Prod.mk.injEq] at b;exact quy r h a (m p) b.1 b.2.1 b.2.2.1 b.2.2.2 (fun w'  i=>o r w'  i c)
theorem zcS {F:Option ByteArray}{g:ByteArray→Option β}(h:SH w0 w L)(c:F.bind g=V rr)(m:∀ {r},F=V r→RetV prog f vs w r)
  (b:(opv e x,opvs e args.toList,fi.toList++av++ca.toList,Nat.blt d n)=(V (.func (.func f) fi ca),V av,vs,true))
  (o:∀ r w' ,SH w0 w' (L)→g r=V rr→Run prog n Q (.ops all l::k) ((d,.string r)::e) w') (a:qeH prog f:=by exact cA Z):Run prog n Q (.ops all (⟨V d,.call ⟨.value x,args,ats⟩,ty,ps,af,U⟩::l)::k) e w:=by
 obtain⟨r,p,c⟩:=qd c;simp only[Prod.mk.injEq] at b;exact qox r h a (m p) b.1 b.2.1 b.2.2.1 b.2.2.2 (fun w'  i=>o r w'  i c)
theorem zcL {α:Type}[GoT α]{F:Option (List α)}{g:(List α)→Option β}(h:SH w0 w L)(i:F.bind g=V rr)(o:∀ {r},F=V r→RetV prog f vs w r)
  (b:(opv e x,opvs e args.toList,fi.toList++av++ca.toList,Nat.blt d n)=(V (.func (.func f) fi ca),V av,vs,true))
  (s:∀ r w' S p c,SH w0 w' (Ch.own S r [.slice p r.length c]::L)→g r=V rr→Run prog n Q (.ops all l::k) ((d,.slice p r.length c)::e) w') (a:qeH prog f:=by exact cA Z):Run prog n Q (.ops all (⟨V d,.call ⟨.value x,args,ats⟩,ty,ps,af,U⟩::l)::k) e w:=by
 obtain⟨r,t,i⟩:=qd i;simp only[Prod.mk.injEq] at b;exact qjg r h a (o t) b.1 b.2.1 b.2.2.1 b.2.2.2 (fun w' S p c m=>s r w' S p c m i)
theorem zcO {α:Type}[GoT α]{F:Option α}{g:α→Option β}(h:SH w0 w L)(c:F.bind g=V rr)(m:∀ {r},F=V r→RetV prog f vs w r)
  (b:(opv e x,opvs e args.toList,fi.toList++av++ca.toList,Nat.blt d n)=(V (.func (.func f) fi ca),V av,vs,true))
  (o:∀ r w' S cs,SH w0 w' (Ch.own S r cs::L)→g r=V rr→Run prog n Q (.ops all l::k) ((d,GoT.v α cs)::e) w') (a:qeH prog f:=by exact cA Z):Run prog n Q (.ops all (⟨V d,.call ⟨.value x,args,ats⟩,ty,ps,af,U⟩::l)::k) e w:=by
 obtain⟨r,p,c⟩:=qd c;simp only[Prod.mk.injEq] at b;exact qk7 r h a (m p) b.1 b.2.1 b.2.2.1 b.2.2.2 (fun w' S cs i=>o r w' S cs i c)
end
def noC:List Nat:=[0,1,279,303]
theorem allC:((List.range 314).all fun f=>noC.contains f || callB prog f)=true:=by kernel_rfl
theorem cA {f:Nat}(h:(Nat.blt f 314&&!noC.contains f)=true):qeH prog f:=by
 rw[jf,Nat.blt_eq,jF] at h;have:=List.all_eq_true.1 allC f (List.mem_range.2 h.1);rw[h.2] at this;exact qt4 this
theorem cB (f:Nat)(h:(Nat.blt f 314&&!noC.contains f)=true):qeH prog f:=cA h
def qar (_:Nat)(a:Int)(c:Int)(b:Int):Option Bool :=bif decide (a ≥ c) then V (decide (a≤b)) else V false
theorem qad {b:Int}{c:Int}{a:Int}  {r:Bool}(F:qar n b c a=V r):RetV prog 66 [.int .i64 b,.int .i64 c,.int .i64 a] w r:=by
 refine zV 15 func66 Z fun h=>X0 10 Z (qg (t:=10) F Z ?_ ?_)<;>intro F
 ·exact X0 9 Z (rb h F Z)
 exact X0 6 Z (rb h F Z)
def qd1 (s:ByteArray):Nat→Int→Option (Flow Bool Int)| 0,_=>U| n+1,a =>bif decide (a<(s.size:Int)) then((atS s a).bind fun d =>bif decide (d ≥ 97) then(atS s a).bind fun f =>V (decide (f≤122)) else V false).bind fun b1 =>((atS s a).bind fun b =>bif decide (b ≥ 48) then(atS s a).bind fun c =>V (decide (c≤57)) else V false).bind fun b2 =>bif (!b1) then bif b2 then bif (!(decide (a > 0))) then V (.ret false) else qd1 s n (W64 (a+1)) else V (.ret false) else qd1 s n (W64 (a+1)) else V (.nxt a)
def qf7 (n:Nat)(s:ByteArray):Option Bool :=(qd1 s n 0).bind fun o=>match o with| .ret r=>V r| .nxt _ =>bif decide ((s.size:Int) ≥ 1) then V (decide ((s.size:Int)≤8)) else V false
theorem qhA {s:ByteArray}  {r:Bool}(F:qf7 n s=V r):RetV prog 145 [.string s] w r:=by
 refine zV 50 func145 Z fun h=>X0 9 Z ?_;obtain⟨v,F,a⟩:=qd F;refine qm (rL (fun m e w'=>∃(g:Int),qd1 s m g=V v∧e=[(0,.string s),(3,.int .i64 g)]∧SH w w' []) n ⟨_,F,rfl,h⟩ Z ?_);rintro x _ _ ⟨g,F,rfl,h⟩;rcases x with _|x
 ·cases F
 refine X0 8 Z (qk Z F ?_ ?_)<;>intro F
 ·refine X0 4 Z ?_;obtain⟨k,f,_,F,c⟩:=bindE F;refine qaz (fun e w'=>∃(b1:Bool),k b1=V v∧e=[(0,.string s),(3,.int .i64 g),(4,.bool b1)]∧SH w w' []) ?_ ?_
  ·refine X0 3 Z ?_;obtain⟨_,p,F⟩:=qd F;have A:=qlW p;refine r_v (qlT qa A Z Z Z Z) Z (zp2 Z (qg (t:=16) F Z ?_ ?_))<;>intro F
   ·refine X0 5 Z ?_;obtain⟨_,u,F⟩:=qd F;have B:=qlW u;refine r_v (qlT qa B Z Z Z Z) Z (X0 5 Z ?_);obtain rfl:=qc F;exact rG ⟨_,c,rfl,h⟩ Z
   refine X0 7 Z ?_;obtain rfl:=qc F;exact rG ⟨_,c,rfl,h⟩ Z
  rintro _ _ ⟨b1,F,rfl,h⟩;subst f;refine qck ?_;obtain⟨i,d,_,F,b⟩:=bindE F;refine qaz (fun e w'=>∃(b2:Bool),i b2=V v∧e=[(0,.string s),(3,.int .i64 g),(4,.bool b1),(5,.bool b2)]∧SH w w' []) ?_ ?_
  ·refine X0 3 Z ?_;obtain⟨_,l,F⟩:=qd F;have y:=qlW l;refine r_v (qlT qa y Z Z Z Z) Z (zp2 Z (qg (t:=26) F Z ?_ ?_))<;>intro F
   ·refine X0 5 Z ?_;obtain⟨_,o,F⟩:=qd F;have z:=qlW o;refine r_v (qlT qa z Z Z Z Z) Z (X0 5 Z ?_);obtain rfl:=qc F;exact rG ⟨_,b,rfl,h⟩ Z
   refine X0 7 Z ?_;obtain rfl:=qc F;exact rG ⟨_,b,rfl,h⟩ Z
  rintro _ _ ⟨b2,F,rfl,h⟩;subst d;refine X0 5 Z (qg (t:=34) F Z ?_ ?_)<;>intro F
  ·refine X0 4 Z (qg (t:=36) F Z ?_ ?_)<;>intro F
   ·refine X0 10 Z (qk Z F ?_ ?_)<;>intro F
    ·refine X0 4 Z ?_;obtain rfl:=qc F;replace F:=a;exact rb h F Z
    exact X0 7 Z (rK ⟨_,F,rfl,h⟩ Z)
   refine X0 8 Z (qch Z Z (X0 4 Z ?_));obtain rfl:=qc F;replace F:=a;exact rb h F Z
  exact X0 8 Z (qbB Z Z (X0 7 Z (rK ⟨_,F,rfl,h⟩ Z)))
 refine qv Z ?_;obtain rfl:=qc F;replace F:=a;refine X0 6 Z (qg (t:=45) F Z ?_ ?_)<;>intro F
 ·exact X0 9 Z (rb h F Z)
 exact X0 6 Z (rb h F Z)
def qe1 (a_0:qE)(b:Int)(c:qaq):Nat→Int→Option (Flow (Int×Bool) Int)| 0,_=>U| n+1,a =>bif decide (a<b) then(idx a_0.Be a).bind fun d =>bif (d.Bh.toList==c.Bh.toList) then V (.ret (0,false)) else qe1 a_0 b c n (W64 (a+1)) else V (.nxt a)
def qc7 (a_0:qE):Nat→Int→Int→Option (Flow (Int×Bool) (Int×Int))| 0,_,_=>U| n+1,c,a =>bif decide (a<(a_0.Be.length:Int)) then(idx a_0.Be a).bind fun b =>(qe1 a_0 a b n 0).bind fun o=>match o with| .ret r=>V (.ret r)| .nxt _ =>((qf7 n b.Bh).bind fun r1 =>bif (!r1) then V true else(qar n b.Bp 0 500).bind fun g =>V (!g)).bind fun d =>bif d then V (.ret (0,false)) else(bif (a==(W64 ((a_0.Be.length:Int)-1))) then bif (b.Bv != 2) then V true else bif (b.Bp != 0) then V true else bif b.Bq then V true else bif decide (a<(W64 ((a_0.Be.length:Int)-1))) then V (b.Bv != 1) else V false else bif decide (a<(W64 ((a_0.Be.length:Int)-1))) then V (b.Bv != 1) else V false).bind fun f =>bif f then V (.ret (0,false)) else bif b.Bq then qc7 a_0 n (W64 (c+1)) (W64 (a+1)) else qc7 a_0 n c (W64 (a+1)) else V (.nxt (c,a))
def qju (n:Nat)(a_0:qE):Option (Int×Bool) :=(bif decide ((a_0.Be.length:Int)<2) then V true else V (decide ((a_0.Be.length:Int) > 5))).bind fun b1 =>bif b1 then V (0,false) else(qc7 a_0 n 0 0).bind fun o=>match o with| .ret r=>V r| .nxt (a,_) =>V (a,true)
theorem qog {a_0:qE}(J:Ro w a_0 cs1){r:(Int×Bool)}(F:qju n a_0=V r):RetV prog 268 [GoT.v qE cs1] w r:=by
 obtain⟨p1,u,y,v,z,x,rfl,s1,_,_⟩:=qai J;refine zV 86 func268 Z fun h=>zSR (qD h Z Z fun _ a h=>X1 12 0 h Z ?_);obtain⟨D,s,_,F,l⟩:=bindE F;refine qaz (fun e w'=>∃(b1:Bool),D b1=V r∧e=[(1,.pointer (V ⟨a,0,U⟩)),(4,.int .i64 (a_0.Be.length:Int)),(17,.bool b1)]∧SH w w' [Ch.box a (qI a_0 p1 y z u v x) 184]) ?_ ?_
 ·refine X0 4 Z (qg (t:=14) F Z ?_ ?_)<;>intro F
  ·refine X0 4 Z ?_;obtain rfl:=qc F;exact rG ⟨_,l,rfl,h⟩ Z
  refine X0 6 Z ?_;obtain rfl:=qc F;exact rG ⟨_,l,rfl,h⟩ Z
 rintro _ _ ⟨b1,F,rfl,h⟩;subst s;refine qk Z F ?_ ?_<;>intro F
 ·refine X0 5 Z ?_;obtain rfl:=qc F;exact qak qa (ρ:=(Int×Bool)) [GoT.v Int [.int .i64 0],GoT.v Bool [.bool false]] h ⟨rfl,rfl,trivial⟩ (PV.done h (qaj h (qy (S:=fun _=>False) Z) (qat (qy (S:=fun _=>False) Z)) (by rfl)))
 refine X0 10 Z ?_;obtain⟨o1,F,d⟩:=qd F;refine qm (rL (fun m e w'=>∃(f:Int) (g:Int),qc7 a_0 m f g=V o1∧e=[(1,.pointer (V ⟨a,0,U⟩)),(4,.int .i64 (a_0.Be.length:Int)),(5,.int .i64 f),(6,.int .i64 g)]∧SH w w' [Ch.box a (qI a_0 p1 y z u v x) 184]) n ⟨_,_,F,rfl,h⟩ Z ?_);rintro Y _ _ ⟨f,g,F,rfl,h⟩;rcases Y with _|Y
 ·cases F
 refine X0 7 Z (qk Z F ?_ ?_)<;>intro F
 ·refine X1 8 0 h Z ?_;obtain⟨A,_,F,M,_,_,_,_,O,Q,T,K⟩:=s1.ix F;obtain rfl:=qeV T;refine zxe O Q M Z (zc 0 (K.below h.below) Z (qh qa h Z Z Z fun _ c h=>zs 0 h Z fun _ h=>X0 6 Z ?_));obtain⟨o2,F,i⟩:=qd F;refine qm (rL (fun m e w'=>∃(X:Int),qe1 a_0 g A m X=V o2∧e=[(1,.pointer (V ⟨a,0,U⟩)),(4,.int .i64 (a_0.Be.length:Int)),(5,.int .i64 f),(6,.int .i64 g),(7,.pointer (V ⟨c,0,U⟩)),(8,.int .i64 X)]∧SH w w' [Ch.box c (qoL A) 286,Ch.box a (qI a_0 p1 y z u v x) 184]) Y ⟨_,F,rfl,h⟩ Z ?_);rintro m2 _ _ ⟨X,F,rfl,h⟩;rcases m2 with _|m2
  ·cases F
  refine X0 7 Z (qk Z F ?_ ?_)<;>intro F
  ·refine X0 4 Z (rD (Y1 2 1 h Z ?_));refine zd1 Z ?_;obtain⟨_,_,F,N,_,_,_,_,P,R,W,L⟩:=s1.ix F;obtain rfl:=qeV W;refine zdxe P R N Z (zd1 Z (zdc 0 (L.below h.below) Z (Y1 2 0 h Z ?_)));refine zd1 Z (dN h fun _ h=>qk Z F ?_ ?_)<;>intro F
   ·refine X0 5 Z ?_;obtain rfl:=qc F;replace F:=i;obtain rfl:=qc F;replace F:=d;obtain rfl:=qc F;exact qak qa (ρ:=(Int×Bool)) [GoT.v Int [.int .i64 0],GoT.v Bool [.bool false]] h ⟨rfl,rfl,trivial⟩ (PV.done h (qaj h (qy (S:=fun _=>False) Z) (qat (qy (S:=fun _=>False) Z)) (by rfl)))
   exact X0 7 Z (rK ⟨_,F,rfl,h⟩ Z)
  refine qv Z ?_;obtain rfl:=qc F;replace F:=i;refine zSS ?_;obtain⟨C,p,_,F,k⟩:=bindE F;refine qaz (fun e w'=>∃(H:Bool),C H=V o1∧e=[(1,.pointer (V ⟨a,0,U⟩)),(4,.int .i64 (a_0.Be.length:Int)),(5,.int .i64 f),(6,.int .i64 g),(7,.pointer (V ⟨c,0,U⟩)),(51,.bool H)]∧SH w w' [Ch.box c (qoL A) 286,Ch.box a (qI a_0 p1 y z u v x) 184]) ?_ ?_
  ·refine X1 3 0 h Z (zcB h F qhA Z fun _ _ h F=>zp2 Z (qg (t:=46) F Z ?_ ?_))<;>intro F
   ·refine X0 6 Z ?_;obtain rfl:=qc F;exact rG ⟨_,k,rfl,h⟩ Z
   refine X1 5 0 h Z (zcB h F qad Z fun _ _ h F=>X0 4 Z ?_);obtain rfl:=qc F;exact rG ⟨_,k,rfl,h⟩ Z
  rintro _ _ ⟨H,F,rfl,h⟩;subst p;refine qk Z F ?_ ?_<;>intro F
  ·refine X0 5 Z ?_;obtain rfl:=qc F;replace F:=d;obtain rfl:=qc F;exact qak qa (ρ:=(Int×Bool)) [GoT.v Int [.int .i64 0],GoT.v Bool [.bool false]] h ⟨rfl,rfl,trivial⟩ (PV.done h (qaj h (qy (S:=fun _=>False) Z) (qat (qy (S:=fun _=>False) Z)) (by rfl)))
  refine zKSS ?_;obtain⟨B,o,_,F,b⟩:=bindE F;refine qaz (fun e w'=>∃(I:Bool),B I=V o1∧e=[(1,.pointer (V ⟨a,0,U⟩)),(4,.int .i64 (a_0.Be.length:Int)),(5,.int .i64 f),(6,.int .i64 g),(7,.pointer (V ⟨c,0,U⟩)),(80,.bool I)]∧SH w w' [Ch.box c (qoL A) 286,Ch.box a (qI a_0 p1 y z u v x) 184]) ?_ ?_
  ·refine X0 6 Z (qg (t:=56) F Z ?_ ?_)<;>intro F
   ·refine X1 8 0 h Z (qg (t:=60) F Z ?_ ?_)<;>intro F
    ·refine X0 24 Z ?_;obtain rfl:=qc F;exact rG ⟨_,b,rfl,h⟩ Z
    refine X1 10 0 h Z (qg (t:=65) F Z ?_ ?_)<;>intro F
    ·refine X0 17 Z ?_;obtain rfl:=qc F;exact rG ⟨_,b,rfl,h⟩ Z
    refine X1 8 0 h Z (qg (t:=70) F Z ?_ ?_)<;>intro F
    ·refine X0 11 Z ?_;obtain rfl:=qc F;exact rG ⟨_,b,rfl,h⟩ Z
    refine X0 10 Z (qg (t:=75) F Z ?_ ?_)<;>intro F
    ·refine X1 10 0 h Z ?_;obtain rfl:=qc F;exact rG ⟨_,b,rfl,h⟩ Z
    refine X0 7 Z ?_;obtain rfl:=qc F;exact rG ⟨_,b,rfl,h⟩ Z
   refine X0 24 Z (qg (t:=75) F Z ?_ ?_)<;>intro F
   ·refine X1 10 0 h Z ?_;obtain rfl:=qc F;exact rG ⟨_,b,rfl,h⟩ Z
   refine X0 7 Z ?_;obtain rfl:=qc F;exact rG ⟨_,b,rfl,h⟩ Z
  rintro _ _ ⟨I,F,rfl,h⟩;subst o;refine qk Z F ?_ ?_<;>intro F
  ·refine X0 5 Z ?_;obtain rfl:=qc F;replace F:=d;obtain rfl:=qc F;exact qak qa (ρ:=(Int×Bool)) [GoT.v Int [.int .i64 0],GoT.v Bool [.bool false]] h ⟨rfl,rfl,trivial⟩ (PV.done h (qaj h (qy (S:=fun _=>False) Z) (qat (qy (S:=fun _=>False) Z)) (by rfl)))
  refine X1 6 0 h Z (qk Z F ?_ ?_)<;>intro F
  ·refine X0 11 Z ?_;replace h:=h.pick [1] Z;exact rK ⟨_,_,F,rfl,h⟩ Z
  refine X0 7 Z ?_;replace h:=h.pick [1] Z;exact rK ⟨_,_,F,rfl,h⟩ Z
 refine qv Z ?_;obtain rfl:=qc F;replace F:=d;refine X0 6 Z ?_;obtain rfl:=qc F;exact qak qa (ρ:=(Int×Bool)) [GoT.v Int [.int .i64 f],GoT.v Bool [.bool true]] h ⟨rfl,rfl,trivial⟩ (PV.done h (qaj h (qy (S:=fun _=>False) Z) (qat (qy (S:=fun _=>False) Z)) (by rfl)))
def qdR (list:(List Int)):Nat→Int→Option (Flow Bool Int)| 0,_=>U| n+1,a =>bif decide (a<(list.length:Int)) then(idx list a).bind fun b =>(qar n b 0 100000).bind fun r1 =>bif (!r1) then V (.ret false) else bif decide (a > 0) then(idx list (W64 (a-1))).bind fun c =>(idx list a).bind fun d =>bif decide (c ≥ d) then V (.ret false) else qdR list n (W64 (a+1)) else qdR list n (W64 (a+1)) else V (.nxt a)
def qib (n:Nat)(list:(List Int)):Option Bool :=(qdR list n 0).bind fun o=>match o with| .ret r=>V r| .nxt _ =>bif decide ((list.length:Int) ≥ 1) then V (decide ((list.length:Int)≤4)) else V false
theorem qlp {list:(List Int)}(b:Ro w list cs1){r:Bool}(F:qib n list=V r):RetV prog 265 [GoT.v (List Int) cs1] w r:=by
 obtain⟨p1,A,rfl,s1⟩:=b;refine zV 40 func265 Z fun h=>X0 9 Z ?_;obtain⟨B,F,a⟩:=qd F;refine qm (rL (fun m e w'=>∃(y:Int),qdR list m y=V B∧e=[(0,.slice p1 list.length A),(3,.int .i64 y)]∧SH w w' []) n ⟨_,F,rfl,h⟩ Z ?_);rintro z _ _ ⟨y,F,rfl,h⟩;rcases z with _|z
 ·cases F
 refine X0 8 Z (qk Z F ?_ ?_)<;>intro F
 ·refine X0 4 Z (rD (zd2 Z ?_));obtain⟨_,_,F,g,_,_,_,_,l,s,rfl,c⟩:=s1.ix F;refine zdxe l s g Z (zdc 0 (c.below h.below) Z ?_);obtain⟨r1,x,F⟩:=qd F;refine qb5 r1 (vsB _) (cB 66 Z) (fun _ C=>qad  x) Z Z Z Z (zd2 Z (qaN (t:=16) F Z ?_ ?_))<;>intro F
  ·refine Y0 15 Z (dN h fun _ h=>qch Z Z (X0 4 Z ?_));obtain rfl:=qc F;replace F:=a;exact rb h F Z
  refine Y0 6 Z (qaN (t:=19) F Z ?_ ?_)<;>intro F
  ·refine Y0 7 Z ?_;obtain⟨_,_,F,i,_,_,_,_,o,u,rfl,d⟩:=s1.ix F;refine zdxe o u i Z (Y0 1 Z (zdc 0 (d.below h.below) Z (Y0 5 Z ?_)));obtain⟨_,_,F,k,_,_,_,_,p,v,rfl,f⟩:=s1.ix F;refine zdxe p v k Z (Y0 1 Z (zdc 0 (f.below h.below) Z (Y0 5 Z (dN h fun _ h=>qk Z F ?_ ?_))))<;>intro F
   ·refine X0 4 Z ?_;obtain rfl:=qc F;replace F:=a;exact rb h F Z
   exact X0 7 Z (rK ⟨_,F,rfl,h⟩ Z)
  exact Y0 13 Z (dN h fun _ h=>qbB Z Z (X0 7 Z (rK ⟨_,F,rfl,h⟩ Z)))
 refine qv Z ?_;obtain rfl:=qc F;replace F:=a;refine X0 6 Z (qg (t:=35) F Z ?_ ?_)<;>intro F
 ·exact X0 9 Z (rb h F Z)
 exact X0 6 Z (rb h F Z)
def qeX (t:qO):Nat→Int→Option (Flow Bool Int)| 0,_=>U| n+1,a =>bif decide (a<(t.Bi.length:Int)) then(idx t.Bi a).bind fun b =>(qar n b (-1000000) 1000000).bind fun r1 =>bif (!r1) then V (.ret false) else qeX t n (W64 (a+1)) else V (.nxt a)
def qjr (n:Nat)(t:qO):Option Bool :=((qib n t.Bo).bind fun a =>bif (!a) then V true else(qib n t.Bl).bind fun b =>bif (!b) then V true else V ((t.Bi.length:Int) != (W64 ((t.Bo.length:Int)*(t.Bl.length:Int))))).bind fun b1 =>bif b1 then V false else(qeX t n 0).bind fun o=>match o with| .ret r=>V r| .nxt _ =>V true
theorem qon {t:qO}(g:Ro w t cs1){r:Bool}(F:qjr n t=V r):RetV prog 236 [GoT.v qO cs1] w r:=by
 obtain⟨p1,s,y,u,z,v,rfl,s1,s2,B⟩:=qcf g;refine zV 41 func236 Z fun h=>zSR (qD h Z Z fun _ a h=>X0 4 Z ?_);obtain⟨f,d,_,F,b⟩:=bindE F;refine qaz (fun e w'=>∃(b1:Bool),f b1=V r∧e=[(1,.pointer (V ⟨a,0,U⟩)),(26,.bool b1)]∧SH w w' [Ch.box a (qeC t p1 y z s u v) 264]) ?_ ?_
 ·refine X1 3 0 h Z (zcB h F (qlp ⟨_,_,rfl,(h.oldS s1)⟩) Z fun _ _ h F=>zp2 Z (qg (t:=8) F Z ?_ ?_))<;>intro F
  ·refine X0 19 Z ?_;obtain rfl:=qc F;exact rG ⟨_,b,rfl,h⟩ Z
  refine X1 5 0 h Z (zcB h F (qlp ⟨_,_,rfl,(h.oldS s2)⟩) Z fun _ _ h F=>X0 4 Z (qg (t:=14) F Z ?_ ?_))<;>intro F
  ·refine X0 13 Z ?_;obtain rfl:=qc F;exact rG ⟨_,b,rfl,h⟩ Z
  refine X3 24 0 0 0 h Z ?_;obtain rfl:=qc F;exact rG ⟨_,b,rfl,h⟩ Z
 rintro _ _ ⟨b1,F,rfl,h⟩;subst d;refine qk Z F ?_ ?_<;>intro F
 ·exact X0 4 Z (rb h F Z)
 refine X0 6 Z ?_;obtain⟨A,F,c⟩:=qd F;refine qm (rL (fun m e w'=>∃(p:Int),qeX t m p=V A∧e=[(1,.pointer (V ⟨a,0,U⟩)),(3,.int .i64 p)]∧SH w w' [Ch.box a (qeC t p1 y z s u v) 264]) n ⟨_,F,rfl,h⟩ Z ?_);rintro x _ _ ⟨p,F,rfl,h⟩;rcases x with _|x
 ·cases F
 refine X1 9 0 h Z (qk Z F ?_ ?_)<;>intro F
 ·refine X1 8 0 h Z ?_;obtain⟨_,_,F,k,_,_,_,_,l,o,rfl,i⟩:=B.ix F;refine zxe l o k Z (zc 0 (i.below h.below) Z (zcB h F qad Z fun _ _ h F=>X0 2 Z (qk Z F ?_ ?_)))<;>intro F
  ·refine X0 4 Z ?_;obtain rfl:=qc F;replace F:=c;exact rb h F Z
  exact X0 7 Z (rK ⟨_,F,rfl,h⟩ Z)
 refine qv Z ?_;obtain rfl:=qc F;replace F:=c;exact X0 4 Z (rb h F Z)
def qcX (t:qO):Nat→Int→Int→Int→Option (Int×Int×Int)| 0,_,_,_=>U| n+1,b,c,a =>bif decide (a<(t.Bi.length:Int)) then(idx t.Bi a).bind fun d =>(idx t.Bi a).bind fun f =>qcX t n (if d<b then d else b) (if f > c then f else c) (W64 (a+1)) else V (b,c,a)
def qg4 (n:Nat)(t:qO):Option (qj×Int) :=(qjr n t).bind fun r1 =>bif (!r1) then V ((⟨0,0⟩:qj),1) else(idx t.Bi 0).bind fun c =>(idx t.Bi 0).bind fun d =>(qcX t n c d 1).bind fun o=>match o with| (a,b,_) =>V ((⟨a,b⟩:qj),0)
theorem qmt {t:qO}(d:Ro w t cs1){r:(qj×Int)}(F:qg4 n t=V r):RetV prog 295 [GoT.v qO cs1] w r:=by
 obtain⟨p1,M,Q,N,R,O,rfl,_,_,i⟩:=qcf d;refine zV 45 func295 Z fun h=>zSR (qD h Z Z fun _ a h=>qh qa h Z Z Z fun _ b h=>X1 6 1 h Z (zcB h F (qon (h.old d)) Z fun _ _ h F=>X0 2 Z (qk Z F ?_ ?_)))<;>intro F
 ·refine zSR (r_v (qt qa [] [] Z Z Z Z Z Z Z Z) Z (zs 0 h Z fun _ h=>X0 2 Z ?_));obtain rfl:=qc F;exact qak qa (ρ:=(qj×Int)) [GoT.v qj [.int .i64 0,.int .i64 0],GoT.v Int [.int .i64 1]] h ⟨⟨_,_,_,rfl,rfl,h.box 0 Z,rfl⟩,rfl,trivial⟩ (PV.done h (qaj h (qy (S:=fun _=>False) (qJ (⟨0,0⟩:qj))) (qat (qy (S:=fun _=>False) Z)) (by rfl)))
 refine zKS (rA [] [1] h Z fun _ h=>M1 3 [0,1] 0 (h.pick [1] Z) Z ?_);obtain⟨_,_,F,u,_,_,_,_,z,D,rfl,l⟩:=i.ix F;refine Ae 2 7 z D u (h.pick [1] Z) Z (Al 3 15 0 l (h.pick [1] Z) Z (M1 63 [4,5] 0 (h.pick [1] Z) Z ?_));obtain⟨_,_,F,v,_,_,_,_,A,H,rfl,o⟩:=i.ix F;refine Ae 6 127 A H v (h.pick [1] Z) Z (Al 7 255 0 o (h.pick [1] Z) Z (Aw 8 511 (fun w' W=>qt qa [0,1] [.tmp 13,.tmp 17] Z Z Z Z Z Z Z Z) (h.pick [1] Z) Z ?_));refine Ao 9 1023 Z (qh qa h Z Z Z fun _ c h=>Ag (h.pick [2] Z) (Ao 10 2047 Z (zs 0 h Z fun _ h=>Ag (h.pick [2] Z) (Ad (X0 5 Z ?_)))));obtain⟨P,F,k⟩:=qd F;refine qm (rL (fun m e w'=>∃(f:Int) (g:Int) (K:Int),qcX t m f g K=V P∧e=[(1,.pointer (V ⟨a,0,U⟩)),(2,.pointer (V ⟨b,0,U⟩)),(4,.pointer (V ⟨c,0,U⟩)),(5,.int .i64 K)]∧SH w w' [Ch.box c [.int .i64 f,.int .i64 g] 68,Ch.box b [.int .i64 0,.int .i64 0] 68,Ch.box a (qeC t p1 Q R M N O) 264]) n ⟨_,_,_,F,rfl,h⟩ Z ?_);rintro L _ _ ⟨f,g,K,F,rfl,h⟩;rcases L with _|L
 ·cases F
 refine X1 9 2 h Z (qk Z F ?_ ?_)<;>intro F
 ·refine X0 4 Z (rA [9] [0,2] h Z fun _ h=>M2 31 [0,1,2,3,4] 0 1 (h.pick [0,2] Z) Z ?_);obtain⟨_,_,F,x,_,_,_,_,B,I,rfl,p⟩:=i.ix F;refine Ae 5 63 B I x (h.pick [0,2] Z) Z (Al 6 127 0 p (h.pick [0,2] Z) Z (M0 511 [7,8] (h.pick [0,2] Z) Z (Ao 9 1023 Z (zs 0 h Z fun _ h=>qL (fun T=>absurd (T 9 (by decide)) (by decide)) (Ad (rA [9] [0,2] h Z fun _ h=>M2 31 [0,1,2,3,4] 0 1 (h.pick [0,2] Z) Z ?_))))));obtain⟨_,_,F,y,_,_,_,_,C,J,rfl,s⟩:=i.ix F;exact Ae 5 63 C J y (h.pick [0,2] Z) Z (Al 6 127 0 s (h.pick [0,2] Z) Z (M0 511 [7,8] (h.pick [0,2] Z) Z (Ao 9 1023 Z (zs 0 h Z fun _ h=>qL (fun T=>absurd (T 9 (by decide)) (by decide)) (Ad (X0 6 Z (rK ⟨_,_,_,F,rfl,h⟩ Z)))))))
 refine qv Z ?_;obtain rfl:=qc F;replace F:=k;refine X1 3 0 h Z (zs 1 h Z fun _ h=>X0 2 Z ?_);obtain rfl:=qc F;exact qak qa (ρ:=(qj×Int)) [GoT.v qj [.int .i64 f,.int .i64 g],GoT.v Int [.int .i64 0]] h ⟨⟨_,_,_,rfl,rfl,h.box 1 Z,rfl⟩,rfl,trivial⟩ (PV.done h (qaj h (qy (S:=fun _=>False) (qJ (⟨f,g⟩:qj))) (qat (qy (S:=fun _=>False) Z)) (by rfl)))
def qcQ (list:(List qO))(f:Bool):Nat→Int→Option (Flow Bool Int)| 0,_=>U| n+1,a =>bif decide (a<2) then(idx list a).bind fun d =>(qg4 n d).bind fun o=>match o with| (b,c) =>bif (c != 0) then V (.ret false) else bif f then bif decide (b.Ar<0) then V (.ret false) else qcQ list f n (W64 (a+1)) else qcQ list f n (W64 (a+1)) else V (.nxt a)
def qdB (n:Nat)(list:(List qO))(a:Bool):Option Bool :=bif ((list.length:Int) != 2) then V false else(qcQ list a n 0).bind fun o=>match o with| .ret r=>V r| .nxt _ =>V true
theorem qfa {list:(List qO)}{H:Bool}(c:Ro w list cs1){r:Bool}(F:qdB n list H=V r):RetV prog 283 [GoT.v (List qO) cs1,.bool H] w r:=by
 obtain⟨p1,x,rfl,s1⟩:=c;refine zV 33 func283 Z fun h=>X0 11 Z (qk Z F ?_ ?_)<;>intro F
 ·exact X0 4 Z (rb h F Z)
 refine X0 6 Z ?_;obtain⟨y,F,a⟩:=qd F;refine qm (rL (fun m e w'=>∃(u:Int),qcQ list H m u=V y∧e=[(0,.slice p1 list.length x),(1,.bool H),(5,.int .i64 u)]∧SH w w' []) n ⟨_,F,rfl,h⟩ Z ?_);rintro v _ _ ⟨u,F,rfl,h⟩;rcases v with _|v
 ·cases F
 refine X0 6 Z (qk Z F ?_ ?_)<;>intro F
 ·refine X0 7 Z ?_;obtain⟨D,_,F,f,_,_,_,_,g,i,k,d⟩:=s1.ix F;obtain⟨_,_,_,_,_,_,rfl,s2,B,C⟩:=qcf k;refine zxe g i f Z (zc 0 (d.below h.below) Z ?_);obtain⟨⟨z,A⟩,l,F⟩:=qd F;refine qa4 (z,A) h (cB 295 Z) (qmt (qiL D (h.oldS s2) (h.oldS B) (h.oldS C)) l) Z Z Z Z fun _ _ _ s o=>?_;obtain⟨_,_,_,_,rfl,b,p⟩:=s.cons o;obtain rfl:=qF (b.sh.own 0 Z);obtain⟨rfl,h⟩:=b.lastI p;refine zp3 Z (qh qa h Z Z Z fun _ _ h=>zs 0 h Z fun _ h=>X0 7 Z (qg (t:=25) F Z ?_ ?_))<;>intro F
  ·refine X0 8 Z (qch Z Z (X0 4 Z ?_));obtain rfl:=qc F;replace F:=a;exact rb h F Z
  refine X0 4 Z (qg (t:=27) F Z ?_ ?_)<;>intro F
  ·refine X1 10 0 h Z (qk Z F ?_ ?_)<;>intro F
   ·refine X0 4 Z ?_;obtain rfl:=qc F;replace F:=a;exact rb h F Z
   refine X0 7 Z ?_;replace h:=h.pick [] Z;exact rK ⟨_,F,rfl,h⟩ Z
  refine X0 7 Z (qbB Z Z (X0 7 Z ?_));replace h:=h.pick [] Z;exact rK ⟨_,F,rfl,h⟩ Z
 refine qv Z ?_;obtain rfl:=qc F;replace F:=a;exact X0 4 Z (rb h F Z)
def qkc (n:Nat)(a_0:qE)(a_1:qal):Option Bool :=((qar n a_1.Bk 0 (W64 ((W64 ((a_0.Be.length:Int)-1))-1))).bind fun i =>bif (!i) then V true else(qar n a_1.To 0 (W64 ((a_0.Be.length:Int)-1))).bind fun k =>V (!k)).bind fun b1 =>bif b1 then V false else(idx a_0.Be a_1.Bk).bind fun a =>bif (a_1.Bc==1) then bif (!a.Bq) then bif (a_1.To==(W64 ((a_0.Be.length:Int)-1))) then(qar n a_1.Bn 1 3).bind fun r1 =>bif r1 then(qdB n a_1.Bs true).bind fun c =>bif c then(qdB n a_1.Bd true).bind fun d =>V d else V false else V false else V false else V false else(bif (a_1.Bc==2) then V (a_1.Bc==2) else V (a_1.Bc==3)).bind fun b3 =>bif b3 then bif a.Bq then bif (a_1.To==(W64 ((a_0.Be.length:Int)-1))) then bif (a_1.Bn==0) then(qdB n a_1.Bs true).bind fun f =>bif f then(qdB n a_1.Bd true).bind fun g =>V g else V false else V false else V false else V false else(bif (a_1.Bc==4) then V (a_1.Bc==4) else V (a_1.Bc==5)).bind fun b =>bif b then bif a.Bq then bif decide (a_1.To<(W64 ((a_0.Be.length:Int)-1))) then(idx a_0.Be a_1.To).bind fun l =>bif (!l.Bq) then bif (a_1.Bn==0) then(qdB n a_1.Bs false).bind fun h =>bif h then V ((a_1.Bd.length:Int)==0) else V false else V false else V false else V false else V false else V false
theorem qo9 {a_0:qE}{a_1:qal}(s:Ro w a_0 cs1)(u:Ro w a_1 cs2){r:Bool}(F:qkc n a_0 a_1=V r):RetV prog 269 [GoT.v qE cs1,GoT.v qal cs2] w r:=by
 obtain⟨p1,J,O,K,P,L,rfl,s1,_,_⟩:=qai s;obtain⟨Q,M,R,N,rfl,S,T⟩:=qaw u;refine zV 119 func269 Z fun h=>zSR (qD h Z Z fun _ a h=>qD h Z Z fun _ b h=>X1 12 1 h Z ?_);obtain⟨o,k,_,F,f⟩:=bindE F;refine qaz (fun e w'=>∃(b1:Bool),o b1=V r∧e=[(2,.pointer (V ⟨a,0,U⟩)),(3,.pointer (V ⟨b,0,U⟩)),(5,.int .i64 (W64 ((a_0.Be.length:Int)-1))),(23,.bool b1)]∧SH w w' [Ch.box b (qdV a_1 Q R M N) 187,Ch.box a (qI a_0 p1 O P J K L) 184]) ?_ ?_
 ·refine X1 5 0 h Z (zcB h F qad Z fun _ _ h F=>zp2 Z (qg (t:=17) F Z ?_ ?_))<;>intro F
  ·refine X0 7 Z ?_;obtain rfl:=qc F;exact rG ⟨_,f,rfl,h⟩ Z
  refine X1 7 0 h Z (zcB h F qad Z fun _ _ h F=>X0 4 Z ?_);obtain rfl:=qc F;exact rG ⟨_,f,rfl,h⟩ Z
 rintro _ _ ⟨b1,F,rfl,h⟩;subst k;refine qk Z F ?_ ?_<;>intro F
 ·exact X0 4 Z (rb h F Z)
 refine X2 7 1 0 h Z ?_;obtain⟨W,_,F,y,_,_,_,_,A,C,H,v⟩:=s1.ix F;obtain rfl:=qeV H;refine zxe A C y Z (zp1 Z (zc 3 (v.below h.below) Z (X1 14 0 h Z (qk Z F ?_ ?_))))<;>intro F
 ·refine X0 5 Z (qg (t:=37) F Z ?_ ?_)<;>intro F
  ·refine X1 10 0 h Z (qg (t:=43) F Z ?_ ?_)<;>intro F
   ·refine X1 5 0 h Z (zcB h F qad Z fun _ _ h F=>zp2 Z (qg (t:=48) F Z ?_ ?_))<;>intro F
    ·refine X1 5 0 h Z (zcB h F (qfa ⟨_,_,rfl,(h.oldS S)⟩) Z fun _ _ h F=>zp2 Z (qg (t:=53) F Z ?_ ?_))<;>intro F
     ·exact X1 5 0 h Z (zcB h F (qfa ⟨_,_,rfl,(h.oldS T)⟩) Z fun _ _ h F=>X0 3 Z (rb h F Z))
     exact X0 6 Z (rb h F Z)
    exact X0 11 Z (rb h F Z)
   exact X0 16 Z (rb h F Z)
  exact X0 22 Z (rb h F Z)
 refine X0 6 Z ?_;obtain⟨m,i,_,F,d⟩:=bindE F;refine qaz (fun e w'=>∃(b3:Bool),m b3=V r∧e=[(2,.pointer (V ⟨a,0,U⟩)),(3,.pointer (V ⟨b,0,U⟩)),(5,.int .i64 (W64 ((a_0.Be.length:Int)-1))),(6,.bool W.Bq),(32,.int .i64 a_1.Bc),(58,.bool b3)]∧SH w w' [Ch.box b (qdV a_1 Q R M N) 187,Ch.box a (qI a_0 p1 O P J K L) 184]) ?_ ?_
 ·refine qk Z F ?_ ?_<;>intro F
  ·refine qeQ ?_;obtain rfl:=qc F;exact rG ⟨_,d,rfl,h⟩ Z
  refine X0 4 Z ?_;obtain rfl:=qc F;exact rG ⟨_,d,rfl,h⟩ Z
 rintro _ _ ⟨b3,F,rfl,h⟩;subst i;refine qk Z F ?_ ?_<;>intro F
 ·refine X0 4 Z (qg (t:=62) F Z ?_ ?_)<;>intro F
  ·refine X1 10 0 h Z (qg (t:=68) F Z ?_ ?_)<;>intro F
   ·refine X1 8 0 h Z (qg (t:=73) F Z ?_ ?_)<;>intro F
    ·refine X1 5 0 h Z (zcB h F (qfa ⟨_,_,rfl,(h.oldS S)⟩) Z fun _ _ h F=>zp2 Z (qg (t:=78) F Z ?_ ?_))<;>intro F
     ·exact X1 5 0 h Z (zcB h F (qfa ⟨_,_,rfl,(h.oldS T)⟩) Z fun _ _ h F=>X0 3 Z (rb h F Z))
     exact X0 6 Z (rb h F Z)
    exact X0 11 Z (rb h F Z)
   exact X0 16 Z (rb h F Z)
  exact X0 22 Z (rb h F Z)
 refine X0 6 Z ?_;obtain⟨l,g,_,F,c⟩:=bindE F;refine qaz (fun e w'=>∃(p:Bool),l p=V r∧e=[(2,.pointer (V ⟨a,0,U⟩)),(3,.pointer (V ⟨b,0,U⟩)),(5,.int .i64 (W64 ((a_0.Be.length:Int)-1))),(6,.bool W.Bq),(83,.bool p)]∧SH w w' [Ch.box b (qdV a_1 Q R M N) 187,Ch.box a (qI a_0 p1 O P J K L) 184]) ?_ ?_
 ·refine qk Z F ?_ ?_<;>intro F
  ·refine qeQ ?_;obtain rfl:=qc F;exact rG ⟨_,c,rfl,h⟩ Z
  refine X0 4 Z ?_;obtain rfl:=qc F;exact rG ⟨_,c,rfl,h⟩ Z
 rintro _ _ ⟨p,F,rfl,h⟩;subst g;refine qk Z F ?_ ?_<;>intro F
 ·refine X0 4 Z (qg (t:=87) F Z ?_ ?_)<;>intro F
  ·refine X1 10 0 h Z (qg (t:=93) F Z ?_ ?_)<;>intro F
   ·refine X2 9 1 0 h Z ?_;obtain⟨_,_,F,z,_,_,_,_,B,D,I,x⟩:=s1.ix F;obtain rfl:=qeV I;refine zxe B D z Z (X0 3 Z (zc 3 (x.below h.below) Z (X0 4 Z (qg (t:=103) F Z ?_ ?_))))<;>intro F
    ·refine X1 8 0 h Z (qg (t:=108) F Z ?_ ?_)<;>intro F
     ·refine X1 5 0 h Z (zcB h F (qfa ⟨_,_,rfl,(h.oldS S)⟩) Z fun _ _ h F=>zp2 Z (qg (t:=113) F Z ?_ ?_))<;>intro F
      ·exact X1 11 0 h Z (rb h F Z)
      exact X0 7 Z (rb h F Z)
     exact X0 12 Z (rb h F Z)
    exact X0 17 Z (rb h F Z)
   exact X0 27 Z (rb h F Z)
  exact X0 33 Z (rb h F Z)
 exact X0 6 Z (rb h F Z)
def qdr (c:qE):Nat→(List Int)→Int→Option ((List Int)×Int)| 0,_,_=>U| n+1,b,a =>bif decide (a<(c.Au.length:Int)) then(idx c.Au a).bind fun d =>(idx b d.Bc).bind fun f =>(idx b d.Bc).bind fun _ =>qdr c n (setS b d.Bc (W64 (f+1))) (W64 (a+1)) else V (b,a)
def qiR (n:Nat)(c:qE):Option (List Int) :=(mkS 6 (0:Int)).bind fun a =>(qdr c n a 0).bind fun o=>match o with| (b,_) =>V b
theorem qnq {c:qE}(o:Ro w c cs1){r:(List Int)}(F:qiR n c=V r):RetV prog 270 [GoT.v qE cs1] w r:=by
 obtain⟨p1,L,P,M,Q,N,rfl,_,s2,_⟩:=qai o;refine zV 25 func270 Z fun h=>zSR (qD h Z Z fun _ b h=>X0 4 Z ?_);obtain⟨k,a,F⟩:=qd F;obtain⟨J,K,a⟩:=qaf a;refine qay qa Int h Z Z Z Z Z Z Z Z Z J K a Z fun _ S1 I h=>X0 7 Z ?_;obtain⟨O,F,l⟩:=qd F;refine qm (rL (fun m e w'=>∃(D:(List Int)) (C:Int),qdr c m D C=V O∧e=[(1,.pointer (V ⟨b,0,U⟩)),(3,.slice I k.length k.length),(4,.int .i64 C)]∧SH w w' [Ch.own S1 (D:List Int) [.slice I k.length k.length],Ch.box b (qI c p1 P Q L M N) 184]) n ⟨_,_,F,rfl,h⟩ Z ?_);rintro H _ _ ⟨D,C,F,rfl,h⟩;rcases H with _|H
 ·cases F
 refine X1 9 1 h Z (qk Z F ?_ ?_)<;>intro F
 ·refine X1 8 1 h Z ?_;obtain⟨_,_,F,u,_,_,_,_,v,y,A,p⟩:=s2.ix F;obtain⟨_,_,_,_,rfl,_,_⟩:=qaw A;refine zxe v y u Z (zp1 Z (zc 0 (p.below h.below) Z ?_));obtain⟨R,_,F,d,_,_,_,_,x,z,rfl,s⟩:=(h.sl 0 Z).1.ix F;refine zx x z ⟨d.1,qA d.2.1 (h.sl 0 Z).2⟩ Z (zc 0 s Z (zp1 Z ?_));obtain⟨_,B,F,f,_,_,_,_,g,i,rfl,t⟩:=(h.sl 0 Z).1.ix F;exact zx g i ⟨f.1,qA f.2.1 (h.sl 0 Z).2⟩ Z (qaG qa 0 0 (W64 (R+1)) h Z B g i Z t Z Z Z Z Z Z Z fun _ h=>X0 7 Z (rK ⟨_,_,F,rfl,h⟩ Z))
 refine qv Z ?_;obtain rfl:=qc F;replace F:=l;refine X0 5 Z ?_;obtain rfl:=qc F;exact rO 0 h Z ⟨rfl,trivial⟩
end Go.Fw


namespace Go.Fw
open Go Go.Proofs Go.Proofs.Tryz
open Go.RowKit (Below)
set_option maxRecDepth 100000
set_option maxHeartbeats 6400000
variable {n:Nat}{w:World}{cs1 cs2 cs3 cs4 cs5 cs6 cs7 cs8 cs9:List Value}
def qdC (a_0:qE)(c:Int)(b:qal):Nat→Int→Option (Flow Bool Int)| 0,_=>U| n+1,a =>bif decide (a<c) then(idx a_0.Au a).bind fun d =>bif (d.Bc==b.Bc) then(idx a_0.Au a).bind fun f =>bif (f.Bk==b.Bk) then(idx a_0.Au a).bind fun g =>bif (g.To==b.To) then V (.ret false) else qdC a_0 c b n (W64 (a+1)) else qdC a_0 c b n (W64 (a+1)) else qdC a_0 c b n (W64 (a+1)) else V (.nxt a)
def qfF (a_0:qE):Nat→Int→Option (Flow Bool Int)| 0,_=>U| n+1,a =>bif decide (a<(a_0.Br.length:Int)) then(idx a_0.Br a).bind fun c =>(qar n c 0 1).bind fun b =>bif (!b) then V (.ret false) else qfF a_0 n (W64 (a+1)) else V (.nxt a)
def qfJ (a_0:qE):Nat→Int→Option (Flow Bool Int)| 0,_=>U| n+1,a =>bif decide (a<(a_0.Au.length:Int)) then(idx a_0.Au a).bind fun b =>(qkc n a_0 b).bind fun c =>bif (!c) then V (.ret false) else(qdC a_0 a b n 0).bind fun o=>match o with| .ret r=>V (.ret r)| .nxt _ =>qfJ a_0 n (W64 (a+1)) else V (.nxt a)
def qj7 (n:Nat)(a_0:qE):Option Bool :=(qju n a_0).bind fun o=>match o with| (b,g) =>(bif (!g) then V true else(qf7 n a_0.Bh).bind fun h =>bif (!h) then V true else bif decide ((a_0.Au.length:Int) > 8) then V true else(qar n a_0.Ca 0 100000).bind fun i =>bif (!i) then V true else(qar n a_0.Bw 0 100000).bind fun k =>V (!k)).bind fun b1 =>bif b1 then V false else(qfJ a_0 n 0).bind fun o=>match o with| .ret r=>V r| .nxt _ =>(qiR n a_0).bind fun a =>bif (a_0.Bc==1) then(qfF a_0 n 0).bind fun o=>match o with| .ret r=>V r| .nxt _ =>bif (b==0) then(shlS 1 (IntKind.wrap .u64 (W64 ((a_0.Be.length:Int)-1)))).bind fun l =>V ((a_0.Br.length:Int)==l) else V false else bif (a_0.Bc==2) then bif (b==1) then(idx a 1).bind fun m =>bif (m==0) then(idx a 2).bind fun p =>(idx a 3).bind fun s =>bif (!((decide (p > 0))==(decide (s > 0)))) then V ((a_0.Br.length:Int)==0) else V false else V false else V false else bif (a_0.Bc==3) then bif (b==1) then(idx a 1).bind fun c =>bif decide (c > 0) then(idx a 2).bind fun d =>bif decide (d > 0) then(idx a 3).bind fun f =>bif (f==0) then V ((a_0.Br.length:Int)==0) else V false else V false else V false else V false else V false
theorem qoS {a_0:qE}(c:Ro w a_0 cs1){r:Bool}(F:qj7 n a_0=V r):RetV prog 241 [GoT.v qE cs1] w r:=by
 obtain⟨p1,O,R,P,S,Q,rfl,_,s2,s3⟩:=qai c;refine zV 182 func241 Z fun h=>zSR (qD h Z Z fun _ a h=>X1 5 0 h Z ?_);obtain⟨⟨N,r3⟩,d3,F⟩:=qd F;refine qa4 (N,r3) h (cB 268 Z) (qog (h.old c) d3) Z Z Z Z fun _ _ _ e2 d4=>?_;obtain⟨_,_,rfl,e3,d5⟩:=e2.consI d4;obtain⟨rfl,h⟩:=e3.lastB d5;refine X0 8 Z ?_;obtain⟨T,p,_,F,b⟩:=bindE F;refine qaz (fun e w'=>∃(b1:Bool),T b1=V r∧e=[(1,.pointer (V ⟨a,0,U⟩)),(3,.int .i64 N),(40,.bool b1)]∧SH w w' [Ch.box a (qI a_0 p1 R S O P Q) 184]) ?_ ?_
 ·refine X0 4 Z (qg (t:=17) F Z ?_ ?_)<;>intro F
  ·refine X0 24 Z ?_;obtain rfl:=qc F;exact rG ⟨_,b,rfl,h⟩ Z
  refine X1 5 0 h Z (zcB h F qhA Z fun _ _ h F=>X0 4 Z (qg (t:=23) F Z ?_ ?_))<;>intro F
  ·refine X0 18 Z ?_;obtain rfl:=qc F;exact rG ⟨_,b,rfl,h⟩ Z
  refine X1 10 0 h Z (qg (t:=29) F Z ?_ ?_)<;>intro F
  ·refine X0 12 Z ?_;obtain rfl:=qc F;exact rG ⟨_,b,rfl,h⟩ Z
  refine X1 5 0 h Z (zcB h F qad Z fun _ _ h F=>X0 4 Z (qg (t:=35) F Z ?_ ?_))<;>intro F
  ·refine X0 6 Z ?_;obtain rfl:=qc F;exact rG ⟨_,b,rfl,h⟩ Z
  refine X1 5 0 h Z (zcB h F qad Z fun _ _ h F=>X0 4 Z ?_);obtain rfl:=qc F;exact rG ⟨_,b,rfl,h⟩ Z
 rintro _ _ ⟨b1,F,rfl,h⟩;subst p;refine qk Z F ?_ ?_<;>intro F
 ·exact X0 4 Z (rb h F Z)
 refine X0 6 Z ?_;obtain⟨o1,F,g⟩:=qd F;refine qm (rL (fun m e w'=>∃(M:Int),qfJ a_0 m M=V o1∧e=[(1,.pointer (V ⟨a,0,U⟩)),(3,.int .i64 N),(5,.int .i64 M)]∧SH w w' [Ch.box a (qI a_0 p1 R S O P Q) 184]) n ⟨_,F,rfl,h⟩ Z ?_);rintro m1 _ _ ⟨M,F,rfl,h⟩;rcases m1 with _|m1
 ·cases F
 refine X1 9 0 h Z (qk Z F ?_ ?_)<;>intro F
 ·refine X1 8 0 h Z ?_;obtain⟨y1,_,F,a4,_,_,_,_,a9,c3,d6,W⟩:=s2.ix F;obtain⟨p4,k4,p5,k5,rfl,s4,s5⟩:=qaw d6;refine zxe a9 c3 a4 Z (zc 0 (W.below h.below) Z (qh qa h Z Z Z fun _ k h=>zs 0 h Z fun _ h=>X2 6 1 0 h Z (zcB h F (qo9 (h.old c) (qiv y1 (h.oldS s4) (h.oldS s5))) Z fun _ _ h F=>X0 2 Z (qk Z F ?_ ?_))))<;>intro F
  ·refine X0 4 Z ?_;obtain rfl:=qc F;replace F:=g;exact rb h F Z
  refine X0 5 Z ?_;obtain⟨o2,F,l⟩:=qd F;refine qm (rL (fun m e w'=>∃(i2:Int),qdC a_0 M y1 m i2=V o2∧e=[(1,.pointer (V ⟨a,0,U⟩)),(3,.int .i64 N),(5,.int .i64 M),(6,.pointer (V ⟨k,0,U⟩)),(7,.int .i64 i2)]∧SH w w' [Ch.box k (qdV y1 p4 p5 k4 k5) 187,Ch.box a (qI a_0 p1 R S O P Q) 184]) m1 ⟨_,F,rfl,h⟩ Z ?_);rintro m2 _ _ ⟨i2,F,rfl,h⟩;rcases m2 with _|m2
  ·cases F
  refine X0 7 Z (qk Z F ?_ ?_)<;>intro F
  ·refine X0 4 Z (rD (Y1 2 1 h Z ?_));refine zd1 Z ?_;obtain⟨_,_,F,a5,_,_,_,_,b4,c4,d7,X⟩:=s2.ix F;obtain⟨_,_,_,_,rfl,_,_⟩:=qaw d7;refine zdxe b4 c4 a5 Z (zd1 Z (zdc 0 (X.below h.below) Z (Y1 2 0 h Z ?_)));refine zd2 Z (qaN (t:=71) F Z ?_ ?_)<;>intro F
   ·refine Y1 4 1 h Z ?_;refine Y0 3 Z ?_;obtain⟨_,_,F,a6,_,_,_,_,b5,c5,d8,Y⟩:=s2.ix F;obtain⟨_,_,_,_,rfl,_,_⟩:=qaw d8;refine zdxe b5 c5 a6 Z (Y0 3 Z (zdc 1 (Y.below h.below) Z (Y1 4 0 h Z ?_)));refine Y0 4 Z (qaN (t:=82) F Z ?_ ?_)<;>intro F
    ·refine Y1 4 1 h Z ?_;refine Y0 3 Z ?_;obtain⟨_,_,F,a7,_,_,_,_,b6,c6,d9,a3⟩:=s2.ix F;obtain⟨_,_,_,_,rfl,_,_⟩:=qaw d9;refine zdxe b6 c6 a7 Z (Y0 3 Z (zdc 2 (a3.below h.below) Z (Y1 4 0 h Z ?_)));refine Y0 3 Z (dN h fun _ h=>qk Z F ?_ ?_)<;>intro F
     ·refine X0 4 Z ?_;obtain rfl:=qc F;replace F:=l;obtain rfl:=qc F;replace F:=g;exact rb h F Z
     exact X0 7 Z (rK ⟨_,F,rfl,h⟩ Z)
    exact Y0 10 Z (dN h fun _ h=>qbB Z Z (X0 7 Z (rK ⟨_,F,rfl,h⟩ Z)))
   exact Y0 21 Z (dN h fun _ h=>qbB Z Z (X0 7 Z (rK ⟨_,F,rfl,h⟩ Z)))
  refine qv Z ?_;obtain rfl:=qc F;replace F:=l;refine X0 6 Z ?_;replace h:=h.pick [1] Z;exact rK ⟨_,F,rfl,h⟩ Z
 refine qv Z ?_;obtain rfl:=qc F;replace F:=g;refine X1 3 0 h Z (zcL h F (qnq (h.old c)) Z fun _ _ _ _ _ h F=>X1 14 1 h Z (qk Z F ?_ ?_))<;>intro F
 ·refine X0 5 Z ?_;obtain⟨o3,F,o⟩:=qd F;refine qm ?_;replace h:=h.pick [1] Z;refine rL (fun m e w'=>∃(i3:Int),qfF a_0 m i3=V o3∧e=[(1,.pointer (V ⟨a,0,U⟩)),(3,.int .i64 N),(9,.int .i64 i3)]∧SH w w' [Ch.box a (qI a_0 p1 R S O P Q) 184]) n ⟨_,F,rfl,h⟩ Z ?_;rintro m3 _ _ ⟨i3,F,rfl,h⟩;rcases m3 with _|m3
  ·cases F
  refine X1 9 0 h Z (qk Z F ?_ ?_)<;>intro F
  ·refine X1 8 0 h Z ?_;obtain⟨_,_,F,a8,_,_,_,_,b7,c7,rfl,s⟩:=s3.ix F;refine zxe b7 c7 a8 Z (zc 0 (s.below h.below) Z (zcB h F qad Z fun _ _ h F=>X0 2 Z (qk Z F ?_ ?_)))<;>intro F
   ·refine X0 4 Z ?_;obtain rfl:=qc F;replace F:=o;exact rb h F Z
   exact X0 7 Z (rK ⟨_,F,rfl,h⟩ Z)
  refine qv Z ?_;obtain rfl:=qc F;replace F:=o;refine X0 5 Z (qg (t:=115) F Z ?_ ?_)<;>intro F
  ·refine X2 17 0 0 h Z ?_;obtain⟨_,i,F⟩:=qd F;obtain⟨g1,i⟩:=qnG i;refine r_v (qtW g1 Z Z) Z ?_;rw[i];exact X0 5 Z (rb h F Z)
  exact X0 13 Z (rb h F Z)
 refine X0 5 Z (qk Z F ?_ ?_)<;>intro F
 ·refine qck (rD (zd3 Z (qaN (t:=131) F Z ?_ ?_)))<;>intro F
  ·refine Y0 3 Z ?_;obtain⟨_,_,F,B,_,_,_,_,b8,c8,rfl,u⟩:=(h.sl 0 Z).1.ix F;refine zdx b8 c8 ⟨B.1,qA B.2.1 (h.sl 0 Z).2⟩ Z (Y0 1 Z (zdc 0 u Z (Y0 4 Z (qaN (t:=137) F Z ?_ ?_))))<;>intro F
   ·refine Y0 3 Z ?_;obtain⟨_,_,F,C,_,_,_,_,b9,c9,rfl,v⟩:=(h.sl 0 Z).1.ix F;refine zdx b9 c9 ⟨C.1,qA C.2.1 (h.sl 0 Z).2⟩ Z (Y0 1 Z (zdc 0 v Z (Y0 5 Z ?_)));obtain⟨_,_,F,D,_,_,_,_,c0,d0,rfl,x⟩:=(h.sl 0 Z).1.ix F;refine zdx c0 d0 ⟨D.1,qA D.2.1 (h.sl 0 Z).2⟩ Z (Y0 1 Z (zdc 0 x Z (Y0 6 Z (qaN (t:=148) F Z ?_ ?_))))<;>intro F
    ·refine Y1 4 1 h Z ?_;exact Y0 6 Z (dN h fun _ h=>rb h F Z)
    exact Y0 6 Z (dN h fun _ h=>rb h F Z)
   exact Y0 17 Z (dN h fun _ h=>rb h F Z)
  exact Y0 23 Z (dN h fun _ h=>rb h F Z)
 refine X0 5 Z (qk Z F ?_ ?_)<;>intro F
 ·refine X0 5 Z (qg (t:=158) F Z ?_ ?_)<;>intro F
  ·refine X0 3 Z ?_;obtain⟨_,_,F,H,_,_,_,_,c2,d1,rfl,y⟩:=(h.sl 0 Z).1.ix F;refine zx c2 d1 ⟨H.1,qA H.2.1 (h.sl 0 Z).2⟩ Z (X0 1 Z (zc 0 y Z (X0 4 Z (qg (t:=164) F Z ?_ ?_))))<;>intro F
   ·refine X0 3 Z ?_;obtain⟨_,_,F,d,_,_,_,_,I,K,rfl,z⟩:=(h.sl 0 Z).1.ix F;refine zx I K ⟨d.1,qA d.2.1 (h.sl 0 Z).2⟩ Z (X0 1 Z (zc 0 z Z (X0 4 Z (qg (t:=170) F Z ?_ ?_))))<;>intro F
    ·refine X0 3 Z ?_;obtain⟨_,_,F,f,_,_,_,_,J,L,rfl,A⟩:=(h.sl 0 Z).1.ix F;refine zx J L ⟨f.1,qA f.2.1 (h.sl 0 Z).2⟩ Z (X0 1 Z (zc 0 A Z (X0 4 Z (qg (t:=176) F Z ?_ ?_))))<;>intro F
     ·exact X1 11 1 h Z (rb h F Z)
     exact X0 7 Z (rb h F Z)
    exact X0 13 Z (rb h F Z)
   exact X0 19 Z (rb h F Z)
  exact X0 25 Z (rb h F Z)
 exact X0 6 Z (rb h F Z)
def qdI (l:qu)(b:Int):Nat→Int→Option (Flow Bool Int)| 0,_=>U| n+1,a =>bif decide (a<b) then(idx l.Aq a).bind fun c =>(idx l.Aq b).bind fun d =>bif (c.Bh.toList==d.Bh.toList) then V (.ret false) else qdI l b n (W64 (a+1)) else V (.nxt a)
def qdJ (l:qu):Nat→Int→Option (Flow Bool Int)| 0,_=>U| n+1,a =>bif decide (a<(l.Aq.length:Int)) then(idx l.Aq a).bind fun b =>(qj7 n b).bind fun r1 =>bif (!r1) then V (.ret false) else(qdI l a n 0).bind fun o=>match o with| .ret r=>V (.ret r)| .nxt _ =>qdJ l n (W64 (a+1)) else V (.nxt a)
def qii (n:Nat)(l:qu):Option Bool :=(qdJ l n 0).bind fun o=>match o with| .ret r=>V r| .nxt _ =>V (decide ((l.Aq.length:Int)≤8))
theorem qnf {l:qu}(f:Ro w l cs1){r:Bool}(F:qii n l=V r):RetV prog 187 [GoT.v qu cs1] w r:=by
 obtain⟨p1,I,rfl,s1⟩:=qcL f;refine zV 41 func187 Z fun h=>zSR (qD h Z Z fun _ a h=>X0 7 Z ?_);obtain⟨K,F,b⟩:=qd F;refine qm (rL (fun m e w'=>∃(d:Int),qdJ l m d=V K∧e=[(1,.pointer (V ⟨a,0,U⟩)),(3,.int .i64 d)]∧SH w w' [Ch.box a [.slice p1 l.Aq.length I] 26]) n ⟨_,F,rfl,h⟩ Z ?_);rintro H _ _ ⟨d,F,rfl,h⟩;rcases H with _|H
 ·cases F
 refine X1 9 0 h Z (qk Z F ?_ ?_)<;>intro F
 ·refine X1 9 0 h Z ?_;obtain⟨O,_,F,o,_,_,_,_,t,x,A,g⟩:=s1.ix F;obtain⟨_,_,_,_,_,_,rfl,s2,M,N⟩:=qai A;refine zxe t x o Z (zc 0 (g.below h.below) Z (zcB h F (qoS (qpJ O (h.oldS s2) (h.oldS M) (h.oldS N))) Z fun _ _ h F=>X0 2 Z (qk Z F ?_ ?_)))<;>intro F
  ·refine X0 4 Z ?_;obtain rfl:=qc F;replace F:=b;exact rb h F Z
  refine X0 5 Z ?_;obtain⟨L,F,c⟩:=qd F;refine qm (rL (fun m e w'=>∃(D:Int),qdI l d m D=V L∧e=[(1,.pointer (V ⟨a,0,U⟩)),(3,.int .i64 d),(4,.int .i64 D)]∧SH w w' [Ch.box a [.slice p1 l.Aq.length I] 26]) H ⟨_,F,rfl,h⟩ Z ?_);rintro J _ _ ⟨D,F,rfl,h⟩;rcases J with _|J
  ·cases F
  refine X0 7 Z (qk Z F ?_ ?_)<;>intro F
  ·refine X0 4 Z (rD (Y1 2 0 h Z ?_));refine zd1 Z ?_;obtain⟨_,_,F,p,_,_,_,_,u,y,B,i⟩:=s1.ix F;obtain⟨_,_,_,_,_,_,rfl,_,_,_⟩:=qai B;refine zdxe u y p Z (zd1 Z (zdc 0 (i.below h.below) Z (Y1 2 0 h Z ?_)));refine zd1 Z ?_;obtain⟨_,_,F,s,_,_,_,_,v,z,C,k⟩:=s1.ix F;obtain⟨_,_,_,_,_,_,rfl,_,_,_⟩:=qai C;refine zdxe v z s Z (zd1 Z (zdc 0 (k.below h.below) Z (zd1 Z (dN h fun _ h=>qk Z F ?_ ?_))))<;>intro F
   ·refine X0 4 Z ?_;obtain rfl:=qc F;replace F:=c;obtain rfl:=qc F;replace F:=b;exact rb h F Z
   exact X0 7 Z (rK ⟨_,F,rfl,h⟩ Z)
  refine qv Z ?_;obtain rfl:=qc F;replace F:=c;exact X0 6 Z (rK ⟨_,F,rfl,h⟩ Z)
 refine qv Z ?_;obtain rfl:=qc F;replace F:=b;exact X1 8 0 h Z (rb h F Z)
def qew (a_1:qf)(b:qC):Nat→Int→Option (Flow Bool Int)| 0,_=>U| n+1,a =>bif decide (a<(b.Aj.length:Int)) then(idx b.Aj a).bind fun c =>(qar n c 0 (W64 ((a_1.Aj.length:Int)-1))).bind fun r1 =>bif (!r1) then V (.ret false) else qew a_1 b n (W64 (a+1)) else V (.nxt a)
def qeq (a_1:qf):Nat→Int→Option (Flow Bool Int)| 0,_=>U| n+1,a =>bif decide (a<(a_1.Ah.length:Int)) then(idx a_1.Ah a).bind fun d =>(qar n d.Bv 1 2).bind fun b =>bif (!b) then V (.ret false) else(idx a_1.Ah a).bind fun f =>(qar n f.Bz 0 (W64 ((a_1.Aj.length:Int)-1))).bind fun c =>bif (!c) then V (.ret false) else qeq a_1 n (W64 (a+1)) else V (.nxt a)
def qet (a_0:qu)(a_1:qf):Nat→Int→Option (Flow Bool Int)| 0,_=>U| n+1,a =>bif decide (a<(a_1.Ab.length:Int)) then(idx a_1.Ab a).bind fun b =>((qar n b.Bt 0 (W64 ((a_0.Aq.length:Int)-1))).bind fun c =>bif (!c) then V true else(idx a_0.Aq b.Bt).bind fun d =>V ((b.Aj.length:Int) != (d.Be.length:Int))).bind fun b2 =>bif b2 then V (.ret false) else(qew a_1 b n 0).bind fun o=>match o with| .ret r=>V (.ret r)| .nxt _ =>qet a_0 a_1 n (W64 (a+1)) else V (.nxt a)
def qiM (n:Nat)(a_0:qu)(a_1:qf):Option Bool :=(qet a_0 a_1 n 0).bind fun o=>match o with| .ret r=>V r| .nxt _ =>(qeq a_1 n 0).bind fun o=>match o with| .ret r=>V r| .nxt _ =>V true
theorem qnO {a_0:qu}{a_1:qf}(A:Ro w a_0 cs1)(B:Ro w a_1 cs2){r:Bool}(F:qiM n a_0 a_1=V r):RetV prog 188 [GoT.v qu cs1,GoT.v qf cs2] w r:=by
 obtain⟨p1,k1,rfl,s1⟩:=qcL A;obtain⟨v,p,x,s,y,u,rfl,s2,_,s4⟩:=qaQ B;refine zV 90 func188 Z fun h=>zSR (qD h Z Z fun _ b h=>qD h Z Z fun _ a h=>X1 14 0 h Z ?_);obtain⟨o1,F,d⟩:=qd F;refine qm (rL (fun m e w'=>∃(o:Int),qet a_0 a_1 m o=V o1∧e=[(2,.pointer (V ⟨b,0,U⟩)),(3,.pointer (V ⟨a,0,U⟩)),(5,.int .i64 (a_1.Aj.length:Int)),(6,.int .i64 o)]∧SH w w' [Ch.box a (qap a_1 v x y p s u) 31,Ch.box b [.slice p1 a_0.Aq.length k1] 26]) n ⟨_,F,rfl,h⟩ Z ?_);rintro m1 _ _ ⟨o,F,rfl,h⟩;rcases m1 with _|m1
 ·cases F
 refine X1 9 0 h Z (qk Z F ?_ ?_)<;>intro F
 ·refine X1 8 0 h Z ?_;obtain⟨y1,_,F,J,_,_,_,_,O,T,a4,C⟩:=s2.ix F;obtain⟨p5,k5,rfl,s5⟩:=qaD a4;refine zxe O T J Z (zc 0 (C.below h.below) Z (qh qa h Z Z Z fun _ c h=>zs 0 h Z fun _ h=>zNSS ?_));obtain⟨z,k,_,F,i⟩:=bindE F;refine qaz (fun e w'=>∃(b2:Bool),z b2=V o1∧e=[(2,.pointer (V ⟨b,0,U⟩)),(3,.pointer (V ⟨a,0,U⟩)),(5,.int .i64 (a_1.Aj.length:Int)),(6,.int .i64 o),(7,.pointer (V ⟨c,0,U⟩)),(46,.bool b2)]∧SH w w' [Ch.box c (qi2 y1 p5 k5) 102,Ch.box a (qap a_1 v x y p s u) 31,Ch.box b [.slice p1 a_0.Aq.length k1] 26]) ?_ ?_
  ·refine rD (Y1 2 0 h Z ?_);refine Y1 2 2 h Z ?_;refine zd2 Z ?_;obtain⟨r2,a5,F⟩:=qd F;refine qb5 r2 (vsB _) (cB 66 Z) (fun _ hb=>qad  a5) Z Z Z Z (zd2 Z (qaN (t:=33) F Z ?_ ?_))<;>intro F
   ·refine Y0 13 Z (dN h fun _ h=>?_);obtain rfl:=qc F;exact rG ⟨_,i,rfl,h⟩ Z
   refine Y1 4 0 h Z ?_;refine Y1 6 2 h Z ?_;refine Y1 4 0 h Z ?_;refine Y0 1 Z ?_;obtain⟨_,_,F,L,_,_,_,_,Q,X,a6,H⟩:=s1.ix F;obtain⟨_,_,_,_,_,_,rfl,_,_,_⟩:=qai a6;refine zdxe Q X L Z (Y0 3 Z (zdc 2 (H.below h.below) Z (Y0 5 Z (dN h fun _ h=>?_))));obtain rfl:=qc F;exact rG ⟨_,i,rfl,h⟩ Z
  rintro _ _ ⟨b2,F,rfl,h⟩;subst k;refine qk Z F ?_ ?_<;>intro F
  ·refine X0 4 Z ?_;obtain rfl:=qc F;replace F:=d;exact rb h F Z
  refine X0 5 Z ?_;obtain⟨o2,F,g⟩:=qd F;refine qm (rL (fun m e w'=>∃(i2:Int),qew a_1 y1 m i2=V o2∧e=[(2,.pointer (V ⟨b,0,U⟩)),(3,.pointer (V ⟨a,0,U⟩)),(5,.int .i64 (a_1.Aj.length:Int)),(6,.int .i64 o),(7,.pointer (V ⟨c,0,U⟩)),(8,.int .i64 i2)]∧SH w w' [Ch.box c (qi2 y1 p5 k5) 102,Ch.box a (qap a_1 v x y p s u) 31,Ch.box b [.slice p1 a_0.Aq.length k1] 26]) m1 ⟨_,F,rfl,h⟩ Z ?_);rintro m2 _ _ ⟨i2,F,rfl,h⟩;rcases m2 with _|m2
  ·cases F
  refine X1 9 0 h Z (qk Z F ?_ ?_)<;>intro F
  ·refine X1 8 0 h Z ?_;obtain⟨_,_,F,K,_,_,_,_,P,W,rfl,D⟩:=s5.ix F;refine zxe P W K Z (zc 0 (D.below h.below) Z (zp2 Z (zcB h F qad Z fun _ _ h F=>X0 2 Z (qk Z F ?_ ?_))))<;>intro F
   ·refine X0 4 Z ?_;obtain rfl:=qc F;replace F:=g;obtain rfl:=qc F;replace F:=d;exact rb h F Z
   exact X0 7 Z (rK ⟨_,F,rfl,h⟩ Z)
  refine qv Z ?_;obtain rfl:=qc F;replace F:=g;refine X0 6 Z ?_;replace h:=h.pick [1,2] Z;exact rK ⟨_,F,rfl,h⟩ Z
 refine qv Z ?_;obtain rfl:=qc F;replace F:=d;refine X0 5 Z ?_;obtain⟨o4,F,f⟩:=qd F;refine qm ?_;replace h:=h.pick [0] Z;refine rL (fun m e w'=>∃(i3:Int),qeq a_1 m i3=V o4∧e=[(3,.pointer (V ⟨a,0,U⟩)),(5,.int .i64 (a_1.Aj.length:Int)),(9,.int .i64 i3)]∧SH w w' [Ch.box a (qap a_1 v x y p s u) 31]) n ⟨_,F,rfl,h⟩ Z ?_;rintro m3 _ _ ⟨i3,F,rfl,h⟩;rcases m3 with _|m3
 ·cases F
 refine X1 9 0 h Z (qk Z F ?_ ?_)<;>intro F
 ·refine X1 8 0 h Z ?_;obtain⟨_,_,F,M,_,_,_,_,R,Y,a7,I⟩:=s4.ix F;obtain rfl:=qeG a7;refine zxe R Y M Z (zp1 Z (zc 1 (I.below h.below) Z (zcB h F qad Z fun _ _ h F=>zp2 Z (qg (t:=78) F Z ?_ ?_))))<;>intro F
  ·refine X0 12 Z (qch Z Z (X0 4 Z ?_));obtain rfl:=qc F;replace F:=f;exact rb h F Z
  refine X1 7 0 h Z ?_;obtain⟨_,_,F,N,_,_,_,_,S,a3,a8,l⟩:=s4.ix F;obtain rfl:=qeG a8;refine zxe S a3 N Z (X0 3 Z (zc 2 (l.below h.below) Z (X0 5 Z (zcB h F qad Z fun _ _ h F=>X0 4 Z (qk Z F ?_ ?_)))))<;>intro F
  ·refine X0 4 Z ?_;obtain rfl:=qc F;replace F:=f;exact rb h F Z
  exact X0 7 Z (rK ⟨_,F,rfl,h⟩ Z)
 refine qv Z ?_;obtain rfl:=qc F;replace F:=f;exact X0 4 Z (rb h F Z)
def qel (list:(List ByteArray))(b:Int):Nat→Int→Option (Flow Bool Int)| 0,_=>U| n+1,a =>bif decide (a<b) then(idx list a).bind fun c =>(idx list b).bind fun d =>bif (c.toList==d.toList) then V (.ret false) else qel list b n (W64 (a+1)) else V (.nxt a)
def qex (list:(List ByteArray)):Nat→Int→Option (Flow Bool Int)| 0,_=>U| n+1,a =>bif decide (a<(list.length:Int)) then(idx list a).bind fun b =>(qf7 n b).bind fun r1 =>bif (!r1) then V (.ret false) else(qel list a n 0).bind fun o=>match o with| .ret r=>V (.ret r)| .nxt _ =>qex list n (W64 (a+1)) else V (.nxt a)
def qgj (n:Nat)(list:(List ByteArray)):Option Bool :=(qex list n 0).bind fun o=>match o with| .ret r=>V r| .nxt _ =>V true
theorem qiH {list:(List ByteArray)}(d:Ro w list cs1){r:Bool}(F:qgj n list=V r):RetV prog 189 [GoT.v (List ByteArray) cs1] w r:=by
 obtain⟨p1,A,rfl,s1⟩:=d;refine zV 31 func189 Z fun h=>X0 9 Z ?_;obtain⟨C,F,a⟩:=qd F;refine qm (rL (fun m e w'=>∃(c:Int),qex list m c=V C∧e=[(0,.slice p1 list.length A),(3,.int .i64 c)]∧SH w w' []) n ⟨_,F,rfl,h⟩ Z ?_);rintro z _ _ ⟨c,F,rfl,h⟩;rcases z with _|z
 ·cases F
 refine X0 8 Z (qk Z F ?_ ?_)<;>intro F
 ·refine X0 8 Z ?_;obtain⟨_,_,F,k,_,_,_,_,p,u,rfl,f⟩:=s1.ix F;refine zxe p u k Z (zc 0 (f.below h.below) Z (zcB h F qhA Z fun _ _ h F=>X0 2 Z (qk Z F ?_ ?_)))<;>intro F
  ·refine X0 4 Z ?_;obtain rfl:=qc F;replace F:=a;exact rb h F Z
  refine X0 5 Z ?_;obtain⟨D,F,b⟩:=qd F;refine qm (rL (fun m e w'=>∃(y:Int),qel list c m y=V D∧e=[(0,.slice p1 list.length A),(3,.int .i64 c),(4,.int .i64 y)]∧SH w w' []) z ⟨_,F,rfl,h⟩ Z ?_);rintro B _ _ ⟨y,F,rfl,h⟩;rcases B with _|B
  ·cases F
  refine X0 7 Z (qk Z F ?_ ?_)<;>intro F
  ·refine X0 4 Z (rD (zd2 Z ?_));obtain⟨_,_,F,l,_,_,_,_,s,v,rfl,g⟩:=s1.ix F;refine zdxe s v l Z (zdc 0 (g.below h.below) Z (zd2 Z ?_));obtain⟨_,_,F,o,_,_,_,_,t,x,rfl,i⟩:=s1.ix F;refine zdxe t x o Z (zdc 0 (i.below h.below) Z (zd1 Z (dN h fun _ h=>qk Z F ?_ ?_)))<;>intro F
   ·refine X0 4 Z ?_;obtain rfl:=qc F;replace F:=b;obtain rfl:=qc F;replace F:=a;exact rb h F Z
   exact X0 7 Z (rK ⟨_,F,rfl,h⟩ Z)
  refine qv Z ?_;obtain rfl:=qc F;replace F:=b;exact X0 6 Z (rK ⟨_,F,rfl,h⟩ Z)
 refine qv Z ?_;obtain rfl:=qc F;replace F:=a;exact X0 4 Z (rb h F Z)
def qev (c:(List Int))(d:(List Int)):Nat→Int→Option (Flow Bool Int)| 0,_=>U| n+1,a =>bif decide (a<(c.length:Int)) then(idx d a).bind fun b =>bif (b != 1) then V (.ret false) else qev c d n (W64 (a+1)) else V (.nxt a)
def qcD (a_1:qf):Nat→(List Int)→Int→Option ((List Int)×Int)| 0,_,_=>U| n+1,b,a =>bif decide (a<(a_1.Ah.length:Int)) then(idx a_1.Ah a).bind fun d =>bif (d.Bv==1) then(idx a_1.Ah a).bind fun c =>(idx b c.Bz).bind fun f =>(idx b c.Bz).bind fun _ =>qcD a_1 n (setS b c.Bz (W64 (f+1))) (W64 (a+1)) else qcD a_1 n b (W64 (a+1)) else V (b,a)
def qdq (a_1:qf):Nat→(List Int)→Int→Option ((List Int)×Int)| 0,_,_=>U| n+1,b,a =>bif decide (a<(a_1.Ab.length:Int)) then(idx a_1.Ab a).bind fun d =>(idx d.Aj (W64 ((d.Aj.length:Int)-1))).bind fun c =>(idx b c).bind fun f =>(idx b c).bind fun _ =>qdq a_1 n (setS b c (W64 (f+1))) (W64 (a+1)) else V (b,a)
def qdh (a_1:qf):Nat→(List ByteArray)→Int→Option ((List ByteArray)×Int)| 0,_,_=>U| n+1,b,a =>bif decide (a<(a_1.Ah.length:Int)) then(idx a_1.Ah a).bind fun d =>(appS b ([d.Bh]:List ByteArray)).bind fun c =>qdh a_1 n c (W64 (a+1)) else V (b,a)
def qdn (a_1:qf):Nat→(List ByteArray)→Int→Option ((List ByteArray)×Int)| 0,_,_=>U| n+1,b,a =>bif decide (a<(a_1.Ab.length:Int)) then(idx a_1.Ab a).bind fun d =>(appS b ([d.Bh]:List ByteArray)).bind fun c =>qdn a_1 n c (W64 (a+1)) else V (b,a)
def qiQ (n:Nat)(a_0:qu)(a_1:qf):Option Bool :=((qii n a_0).bind fun f =>bif (!f) then V true else bif decide ((a_1.Ab.length:Int) > 14) then V true else bif decide ((a_1.Aj.length:Int) > 30) then V true else bif decide ((a_1.Ah.length:Int) > 8) then V true else(qiM n a_0 a_1).bind fun g =>V (!g)).bind fun b1 =>bif b1 then V false else(qdn a_1 n ([]:List ByteArray) 0).bind fun o=>match o with| (h,_) =>(qdh a_1 n ([]:List ByteArray) 0).bind fun o=>match o with| (i,_) =>((qgj n h).bind fun r1 =>bif (!r1) then V true else(qgj n i).bind fun c =>bif (!c) then V true else(qgj n a_1.Aj).bind fun d =>V (!d)).bind fun b =>bif b then V false else(mkS (a_1.Aj.length:Int) (0:Int)).bind fun a =>(qdq a_1 n a 0).bind fun o=>match o with| (k,_) =>(qcD a_1 n k 0).bind fun o=>match o with| (l,_) =>(qev a l n 0).bind fun o=>match o with| .ret r=>V r| .nxt _ =>V true
theorem qnU {a_0:qu}{a_1:qf}(o:Ro w a_0 cs1)(M:Ro w a_1 cs2){r:Bool}(F:qiQ n a_0 a_1=V r):RetV prog 120 [GoT.v qu cs1,GoT.v qf cs2] w r:=by
 obtain⟨_,_,rfl,_⟩:=qcL o;obtain⟨C,z,D,A,H,B,rfl,s2,s3,s4⟩:=qaQ M;refine zV 153 func120 Z fun h=>zSR (qD h Z Z fun _ _ h=>qD h Z Z fun _ a h=>X0 4 Z ?_);obtain⟨KF2,L,_,F,d⟩:=bindE F;refine qaz (fun e w'=>∃(b1:Bool),KF2 b1=V r∧e=[(3,.pointer (V ⟨a,0,U⟩)),(40,.bool b1)]∧SH w w' [Ch.box a (qap a_1 C D H z A B) 31]) ?_ ?_
 ·refine X1 2 1 h Z (zcB h F (qnf (h.old o)) Z fun _ _ h F=>zp2 Z (qg (t:=17) F Z ?_ ?_))<;>intro F
  ·refine X0 24 Z ?_;replace h:=h.pick [0] Z;obtain rfl:=qc F;exact rG ⟨_,d,rfl,h⟩ Z
  refine X1 10 0 h Z (qg (t:=23) F Z ?_ ?_)<;>intro F
  ·refine X0 18 Z ?_;replace h:=h.pick [0] Z;obtain rfl:=qc F;exact rG ⟨_,d,rfl,h⟩ Z
  refine X1 10 0 h Z (qg (t:=29) F Z ?_ ?_)<;>intro F
  ·refine X0 12 Z ?_;replace h:=h.pick [0] Z;obtain rfl:=qc F;exact rG ⟨_,d,rfl,h⟩ Z
  refine X1 10 0 h Z (qg (t:=35) F Z ?_ ?_)<;>intro F
  ·refine X0 6 Z ?_;replace h:=h.pick [0] Z;obtain rfl:=qc F;exact rG ⟨_,d,rfl,h⟩ Z
  refine X2 5 1 0 h Z (zcB h F (qnO (h.old o) (h.old M)) Z fun _ _ h F=>X0 4 Z ?_);replace h:=h.pick [0] Z;obtain rfl:=qc F;exact rG ⟨_,d,rfl,h⟩ Z
 rintro _ _ ⟨b1,F,rfl,h⟩;subst L;refine qk Z F ?_ ?_<;>intro F
 ·exact X0 4 Z (rb h F Z)
 refine zKSR (qp qa [] _ ([]:List ByteArray) h Z Z Z Z Z Z Z Z Z trivial Z fun _ _ _ h=>X0 7 Z ?_);obtain⟨o1,F,hK1⟩:=qd F;refine qm (rL (fun m e w'=>∃(S2:Nat→Prop) (p6:Option Addr) (v:Nat) (k5:Nat) (I:(List ByteArray)) (i1:Int),qdn a_1 m I i1=V o1∧e=[(3,.pointer (V ⟨a,0,U⟩)),(5,.slice p6 v k5),(6,.int .i64 i1)]∧SH w w' [Ch.own S2 (I:List ByteArray) [.slice p6 v k5],Ch.box a (qap a_1 C D H z A B) 31]) n ⟨_,_,_,_,_,_,F,rfl,h⟩ Z ?_);rintro m1 _ _ ⟨S2,p6,v,k5,I,i1,F,rfl,h⟩;obtain rfl:=(h.sl 0 Z).2;rcases m1 with _|m1
 ·cases F
 refine X1 9 1 h Z (qk Z F ?_ ?_)<;>intro F
 ·refine X1 8 1 h Z ?_;obtain⟨y1,_,F,he1,_,_,_,_,hp1,hq1,hr1,hc3⟩:=s2.ix F;obtain⟨_,_,rfl,_⟩:=qaD hr1;refine zxe hp1 hq1 he1 Z (zp1 Z (zc 0 (hc3.below h.below) Z (qp qa [.tmp 55] _ ([y1.Bh]:List ByteArray) h Z Z Z Z Z Z Z Z Z ⟨rfl,trivial⟩ Z fun _ _ _ h=>?_)));obtain⟨_,p,F⟩:=qd F;obtain⟨g1,p⟩:=qG p;refine qaF qa 1 h Z (h.sl 0 Z).1 (h.sl 0 Z).2 Z Z Z Z Z Z Z Z Z g1 p Z fun _ _ _ _ h=>X0 8 Z ?_;replace h:=h.pick [1,2] Z;exact rK ⟨_,_,_,_,_,_,F,rfl,h⟩ Z
 refine qv Z ?_;obtain rfl:=qc F;replace F:=hK1;refine zSR (qp qa [] _ ([]:List ByteArray) h Z Z Z Z Z Z Z Z Z trivial Z fun _ _ _ h=>X0 7 Z ?_);obtain⟨o2,F,hK2⟩:=qd F;refine qm (rL (fun m e w'=>∃(S6:Nat→Prop) (y:Option Addr) (x:Nat) (k8:Nat) (x3:(List ByteArray)) (i2:Int),qdh a_1 m x3 i2=V o2∧e=[(3,.pointer (V ⟨a,0,U⟩)),(5,.slice p6 I.length k5),(7,.slice y x k8),(8,.int .i64 i2)]∧SH w w' [Ch.own S6 (x3:List ByteArray) [.slice y x k8],Ch.own S2 (I:List ByteArray) [.slice p6 I.length k5],Ch.box a (qap a_1 C D H z A B) 31]) n ⟨_,_,_,_,_,_,F,rfl,h⟩ Z ?_);rintro m2 _ _ ⟨S6,y,x,k8,x3,i2,F,rfl,h⟩;obtain rfl:=(h.sl 0 Z).2;rcases m2 with _|m2
 ·cases F
 refine X1 9 2 h Z (qk Z F ?_ ?_)<;>intro F
 ·refine X1 8 2 h Z ?_;obtain⟨y2,_,F,he2,_,_,_,_,hp2,hq2,hr2,hc5⟩:=s4.ix F;obtain rfl:=qeG hr2;refine zxe hp2 hq2 he2 Z (zp1 Z (zc 0 (hc5.below h.below) Z (qp qa [.tmp 72] _ ([y2.Bh]:List ByteArray) h Z Z Z Z Z Z Z Z Z ⟨rfl,trivial⟩ Z fun _ _ _ h=>?_)));obtain⟨_,s,F⟩:=qd F;obtain⟨g2,s⟩:=qG s;refine qaF qa 1 h Z (h.sl 0 Z).1 (h.sl 0 Z).2 Z Z Z Z Z Z Z Z Z g2 s Z fun _ _ _ _ h=>X0 8 Z ?_;replace h:=h.pick [1,2,3] Z;exact rK ⟨_,_,_,_,_,_,F,rfl,h⟩ Z
 refine qv Z ?_;obtain rfl:=qc F;replace F:=hK2;refine zSS ?_;obtain⟨KF1,K,_,F,l⟩:=bindE F;refine qaz (fun e w'=>∃(b4:Bool),KF1 b4=V r∧e=[(3,.pointer (V ⟨a,0,U⟩)),(88,.bool b4)]∧SH w w' [Ch.box a (qap a_1 C D H z A B) 31]) ?_ ?_
 ·refine X0 2 Z (zcB h F (qiH (h.own 1 Z)) Z fun _ _ h F=>zp2 Z (qg (t:=78) F Z ?_ ?_))<;>intro F
  ·refine X0 11 Z ?_;replace h:=h.pick [2] Z;obtain rfl:=qc F;exact rG ⟨_,l,rfl,h⟩ Z
  refine X0 3 Z (zcB h F (qiH (h.own 0 Z)) Z fun _ _ h F=>X0 4 Z (qg (t:=83) F Z ?_ ?_))<;>intro F
  ·refine X0 6 Z ?_;replace h:=h.pick [2] Z;obtain rfl:=qc F;exact rG ⟨_,l,rfl,h⟩ Z
  refine X1 5 2 h Z (zcB h F (qiH ⟨_,_,rfl,(h.oldS s3)⟩) Z fun _ _ h F=>X0 4 Z ?_);replace h:=h.pick [2] Z;obtain rfl:=qc F;exact rG ⟨_,l,rfl,h⟩ Z
 rintro _ _ ⟨b4,F,rfl,h⟩;subst K;refine qk Z F ?_ ?_<;>intro F
 ·exact X0 4 Z (rb h F Z)
 refine X1 6 0 h Z ?_;obtain⟨c,u,F⟩:=qd F;obtain⟨g3,g4,u⟩:=qaf u;refine qay qa Int h Z Z Z Z Z Z Z Z Z g3 g4 u Z fun _ S9 b h=>X0 7 Z ?_;obtain⟨o3,F,hK3⟩:=qd F;refine qm (rL (fun m e w'=>∃(x6:(List Int)) (i3:Int),qdq a_1 m x6 i3=V o3∧e=[(3,.pointer (V ⟨a,0,U⟩)),(9,.slice b c.length c.length),(10,.int .i64 i3)]∧SH w w' [Ch.own S9 (x6:List Int) [.slice b c.length c.length],Ch.box a (qap a_1 C D H z A B) 31]) n ⟨_,_,F,rfl,h⟩ Z ?_);rintro m3 _ _ ⟨x6,i3,F,rfl,h⟩;rcases m3 with _|m3
 ·cases F
 refine X1 9 1 h Z (qk Z F ?_ ?_)<;>intro F
 ·refine X1 8 1 h Z ?_;obtain⟨_,_,F,he3,_,_,_,_,hp3,hq3,hr3,hc8⟩:=s2.ix F;obtain⟨_,_,rfl,s6⟩:=qaD hr3;refine zxe hp3 hq3 he3 Z (zp1 Z (zc 2 (hc8.below h.below) Z (X0 8 Z ?_)));obtain⟨_,_,F,he4,_,_,_,_,hp4,hq4,rfl,hc9⟩:=s6.ix F;refine zxe hp4 hq4 he4 Z (zc 0 (hc9.below h.below) Z ?_);obtain⟨y5,_,F,W,_,_,_,_,hp5,hq5,rfl,N⟩:=(h.sl 0 Z).1.ix F;refine zx hp5 hq5 ⟨W.1,qA W.2.1 (h.sl 0 Z).2⟩ Z (zc 0 N Z (zp1 Z ?_));obtain⟨_,hy6,F,X,_,_,_,_,a4,a6,rfl,O⟩:=(h.sl 0 Z).1.ix F;exact zx a4 a6 ⟨X.1,qA X.2.1 (h.sl 0 Z).2⟩ Z (qaG qa 0 0 (W64 (y5+1)) h Z hy6 a4 a6 Z O Z Z Z Z Z Z Z fun _ h=>X0 7 Z (rK ⟨_,_,F,rfl,h⟩ Z))
 refine qv Z ?_;obtain rfl:=qc F;replace F:=hK3;refine X0 5 Z ?_;obtain⟨o4,F,hK4⟩:=qd F;refine qm (rL (fun m e w'=>∃(x7:(List Int)) (i4:Int),qcD a_1 m x7 i4=V o4∧e=[(3,.pointer (V ⟨a,0,U⟩)),(9,.slice b c.length c.length),(12,.int .i64 i4)]∧SH w w' [Ch.own S9 (x7:List Int) [.slice b c.length c.length],Ch.box a (qap a_1 C D H z A B) 31]) n ⟨_,_,F,rfl,h⟩ Z ?_);rintro m4 _ _ ⟨x7,i4,F,rfl,h⟩;rcases m4 with _|m4
 ·cases F
 refine X1 9 1 h Z (qk Z F ?_ ?_)<;>intro F
 ·refine X1 8 1 h Z ?_;obtain⟨_,_,F,he7,_,_,_,_,hp7,hq7,hr7,P⟩:=s4.ix F;obtain rfl:=qeG hr7;refine zxe hp7 hq7 he7 Z (zp1 Z (zc 1 (P.below h.below) Z (X0 2 Z (qk Z F ?_ ?_))))<;>intro F
  ·refine X1 5 1 h Z ?_;obtain⟨_,_,F,he8,_,_,_,_,hp8,hq8,hr8,Q⟩:=s4.ix F;obtain rfl:=qeG hr8;refine zxe hp8 hq8 he8 Z (zp1 Z (zc 2 (Q.below h.below) Z ?_));obtain⟨y9,_,F,Y,_,_,_,_,hp9,hq9,rfl,R⟩:=(h.sl 0 Z).1.ix F;refine zx hp9 hq9 ⟨Y.1,qA Y.2.1 (h.sl 0 Z).2⟩ Z (zc 0 R Z (zp1 Z ?_));obtain⟨_,a7,F,f,_,_,_,_,i,k,rfl,S⟩:=(h.sl 0 Z).1.ix F;exact zx i k ⟨f.1,qA f.2.1 (h.sl 0 Z).2⟩ Z (qaG qa 0 0 (W64 (y9+1)) h Z a7 i k Z S Z Z Z Z Z Z Z fun _ h=>X0 7 Z (rK ⟨_,_,F,rfl,h⟩ Z))
  exact X0 7 Z (rK ⟨_,_,F,rfl,h⟩ Z)
 refine qv Z ?_;obtain rfl:=qc F;replace F:=hK4;refine X0 5 Z ?_;obtain⟨o5,F,J⟩:=qd F;refine qm ?_;replace h:=h.pick [0] Z;refine rL (fun m e w'=>∃(i5:Int),qev c x7 m i5=V o5∧e=[(9,.slice b c.length c.length),(13,.int .i64 i5)]∧SH w w' [Ch.own S9 (x7:List Int) [.slice b c.length c.length]]) n ⟨_,F,rfl,h⟩ Z ?_;rintro m5 _ _ ⟨i5,F,rfl,h⟩;rcases m5 with _|m5
 ·cases F
 refine X0 8 Z (qk Z F ?_ ?_)<;>intro F
 ·refine X0 7 Z ?_;obtain⟨_,_,F,g,_,_,_,_,a3,a5,rfl,T⟩:=(h.sl 0 Z).1.ix F;refine zx a3 a5 ⟨g.1,qA g.2.1 (h.sl 0 Z).2⟩ Z (zc 0 T Z (X0 2 Z (qk Z F ?_ ?_)))<;>intro F
  ·refine X0 4 Z ?_;obtain rfl:=qc F;replace F:=J;exact rb h F Z
  exact X0 7 Z (rK ⟨_,F,rfl,h⟩ Z)
 refine qv Z ?_;obtain rfl:=qc F;replace F:=J;exact X0 4 Z (rb h F Z)
def qfL (a_0:qae):Nat→Int→Option (Flow Bool Int)| 0,_=>U| n+1,a =>bif decide (a<(a_0.Bj.length:Int)) then(idx a_0.Bj a).bind fun c =>(qar n c 0 (W64 ((a_0.Ak.length:Int)-1))).bind fun b =>bif (!b) then V (.ret false) else qfL a_0 n (W64 (a+1)) else V (.nxt a)
def qcO (a_0:qae):Nat→Int→Option (Flow Bool Int)| 0,_=>U| n+1,a =>bif decide (a<(a_0.Ak.length:Int)) then((idx a_0.Bp a).bind fun k =>(qar n k 0 500).bind fun c =>bif (!c) then V true else(idx a_0.Bu a).bind fun l =>(qar n l 0 1000).bind fun d =>V (!d)).bind fun b2 =>bif b2 then V (.ret false) else bif (a==0) then(idx a_0.Ak a).bind fun f =>bif (f != (-1)) then V (.ret false) else(idx a_0.Bu a).bind fun g =>bif (g != 0) then V (.ret false) else bif decide (a > 0) then(idx a_0.Ak a).bind fun h =>(qar n h 0 (W64 (a-1))).bind fun r1 =>bif (!r1) then V (.ret false) else qcO a_0 n (W64 (a+1)) else qcO a_0 n (W64 (a+1)) else bif decide (a > 0) then(idx a_0.Ak a).bind fun i =>(qar n i 0 (W64 (a-1))).bind fun b =>bif (!b) then V (.ret false) else qcO a_0 n (W64 (a+1)) else qcO a_0 n (W64 (a+1)) else V (.nxt a)
def qka (n:Nat)(a_0:qae)(a_1:Int):Option Bool :=(bif decide ((a_0.Ak.length:Int)<1) then V true else bif decide ((a_0.Ak.length:Int) > 8) then V true else bif ((a_0.Bu.length:Int) != (a_0.Ak.length:Int)) then V true else bif ((a_0.Bp.length:Int) != (a_0.Ak.length:Int)) then V true else V ((a_0.Bj.length:Int) != a_1)).bind fun b1 =>bif b1 then V false else(qcO a_0 n 0).bind fun o=>match o with| .ret r=>V r| .nxt _ =>(qfL a_0 n 0).bind fun o=>match o with| .ret r=>V r| .nxt _ =>V true
theorem qoY {a_0:qae}{a_1:Int}(D:Ro w a_0 cs1){r:Bool}(F:qka n a_0 a_1=V r):RetV prog 121 [GoT.v qae cs1,.int .i64 a_1] w r:=by
 obtain⟨p1,s,y,u,z,v,A,x,rfl,s1,s2,s3,s4⟩:=qbz D;refine zV 108 func121 Z fun h=>zSR (qD h Z Z fun _ a h=>X1 11 0 h Z ?_);obtain⟨C,i,_,F,c⟩:=bindE F;refine qaz (fun e w'=>∃(b1:Bool),C b1=V r∧e=[(2,.pointer (V ⟨a,0,U⟩)),(5,.int .i64 (a_0.Ak.length:Int)),(37,.bool b1)]∧SH w w' [Ch.box a (qfX a_0 p1 y z A s u v x) 196]) ?_ ?_
 ·refine X0 4 Z (qg (t:=13) F Z ?_ ?_)<;>intro F
  ·refine X0 25 Z ?_;obtain rfl:=qc F;exact rG ⟨_,c,rfl,h⟩ Z
  refine X0 6 Z (qg (t:=17) F Z ?_ ?_)<;>intro F
  ·refine X0 21 Z ?_;obtain rfl:=qc F;exact rG ⟨_,c,rfl,h⟩ Z
  refine X1 12 0 h Z (qg (t:=24) F Z ?_ ?_)<;>intro F
  ·refine X0 14 Z ?_;obtain rfl:=qc F;exact rG ⟨_,c,rfl,h⟩ Z
  refine X1 12 0 h Z (qg (t:=31) F Z ?_ ?_)<;>intro F
  ·refine X0 7 Z ?_;obtain rfl:=qc F;exact rG ⟨_,c,rfl,h⟩ Z
  refine X1 12 0 h Z ?_;obtain rfl:=qc F;exact rG ⟨_,c,rfl,h⟩ Z
 rintro _ _ ⟨b1,F,rfl,h⟩;subst i;refine qk Z F ?_ ?_<;>intro F
 ·exact X0 4 Z (rb h F Z)
 refine X0 6 Z ?_;obtain⟨o1,F,b⟩:=qd F;refine qm (rL (fun m e w'=>∃(p:Int),qcO a_0 m p=V o1∧e=[(2,.pointer (V ⟨a,0,U⟩)),(5,.int .i64 (a_0.Ak.length:Int)),(6,.int .i64 p)]∧SH w w' [Ch.box a (qfX a_0 p1 y z A s u v x) 196]) n ⟨_,F,rfl,h⟩ Z ?_);rintro m1 _ _ ⟨p,F,rfl,h⟩;rcases m1 with _|m1
 ·cases F
 refine X0 7 Z (qk Z F ?_ ?_)<;>intro F
 ·refine X0 5 Z ?_;obtain⟨B,g,_,F,d⟩:=bindE F;refine qaz (fun e w'=>∃(b2:Bool),B b2=V o1∧e=[(2,.pointer (V ⟨a,0,U⟩)),(5,.int .i64 (a_0.Ak.length:Int)),(6,.int .i64 p),(58,.bool b2)]∧SH w w' [Ch.box a (qfX a_0 p1 y z A s u v x) 196]) ?_ ?_
  ·refine X1 4 0 h Z ?_;obtain⟨_,_,F,P,_,_,_,_,Y,a9,rfl,k⟩:=s3.ix F;refine zxe Y a9 P Z (zc 0 (k.below h.below) Z (zcB h F qad Z fun _ _ h F=>zp2 Z (qg (t:=50) F Z ?_ ?_)))<;>intro F
   ·refine X0 9 Z ?_;obtain rfl:=qc F;exact rG ⟨_,d,rfl,h⟩ Z
   refine X1 7 0 h Z ?_;obtain⟨_,_,F,Q,_,_,_,_,a3,b4,rfl,l⟩:=s2.ix F;refine zxe a3 b4 Q Z (X0 1 Z (zc 0 (l.below h.below) Z (X0 1 Z (zcB h F qad Z fun _ _ h F=>X0 4 Z ?_))));obtain rfl:=qc F;exact rG ⟨_,d,rfl,h⟩ Z
  rintro _ _ ⟨b2,F,rfl,h⟩;subst g;refine qk Z F ?_ ?_<;>intro F
  ·refine X0 4 Z ?_;obtain rfl:=qc F;replace F:=b;exact rb h F Z
  refine X0 6 Z (qg (t:=61) F Z ?_ ?_)<;>intro F
  ·refine X1 7 0 h Z ?_;obtain⟨_,_,F,L,_,_,_,_,S,a5,rfl,H⟩:=s1.ix F;refine zxe S a5 L Z (X0 1 Z (zc 0 (H.below h.below) Z (X0 4 Z (qg (t:=68) F Z ?_ ?_))))<;>intro F
   ·refine X0 25 Z (qch Z Z (X0 4 Z ?_));obtain rfl:=qc F;replace F:=b;exact rb h F Z
   refine X1 7 0 h Z ?_;obtain⟨_,_,F,M,_,_,_,_,T,a6,rfl,I⟩:=s2.ix F;refine zxe T a6 M Z (X0 1 Z (zc 0 (I.below h.below) Z (X0 6 Z (qg (t:=77) F Z ?_ ?_))))<;>intro F
   ·refine X0 15 Z (qch Z Z (X0 4 Z ?_));obtain rfl:=qc F;replace F:=b;exact rb h F Z
   refine X0 6 Z (qg (t:=80) F Z ?_ ?_)<;>intro F
   ·refine X1 7 0 h Z ?_;obtain⟨_,_,F,N,_,_,_,_,W,a7,rfl,J⟩:=s1.ix F;refine zxe W a7 N Z (X0 1 Z (zc 0 (J.below h.below) Z (X0 5 Z (zcB h F qad Z fun _ _ h F=>X0 6 Z (qk Z F ?_ ?_)))))<;>intro F
    ·refine X0 4 Z ?_;obtain rfl:=qc F;replace F:=b;exact rb h F Z
    exact X0 7 Z (rK ⟨_,F,rfl,h⟩ Z)
   exact X0 13 Z (qbB Z Z (X0 7 Z (rK ⟨_,F,rfl,h⟩ Z)))
  refine X0 22 Z (qg (t:=80) F Z ?_ ?_)<;>intro F
  ·refine X1 7 0 h Z ?_;obtain⟨_,_,F,O,_,_,_,_,X,a8,rfl,K⟩:=s1.ix F;refine zxe X a8 O Z (X0 1 Z (zc 0 (K.below h.below) Z (X0 5 Z (zcB h F qad Z fun _ _ h F=>X0 6 Z (qk Z F ?_ ?_)))))<;>intro F
   ·refine X0 4 Z ?_;obtain rfl:=qc F;replace F:=b;exact rb h F Z
   exact X0 7 Z (rK ⟨_,F,rfl,h⟩ Z)
  exact X0 13 Z (qbB Z Z (X0 7 Z (rK ⟨_,F,rfl,h⟩ Z)))
 refine qv Z ?_;obtain rfl:=qc F;replace F:=b;refine X0 5 Z ?_;obtain⟨o3,F,f⟩:=qd F;refine qm (rL (fun m e w'=>∃(i2:Int),qfL a_0 m i2=V o3∧e=[(2,.pointer (V ⟨a,0,U⟩)),(5,.int .i64 (a_0.Ak.length:Int)),(7,.int .i64 i2)]∧SH w w' [Ch.box a (qfX a_0 p1 y z A s u v x) 196]) n ⟨_,F,rfl,h⟩ Z ?_);rintro m2 _ _ ⟨i2,F,rfl,h⟩;rcases m2 with _|m2
 ·cases F
 refine X1 9 0 h Z (qk Z F ?_ ?_)<;>intro F
 ·refine X1 8 0 h Z ?_;obtain⟨_,_,F,R,_,_,_,_,a4,b5,rfl,o⟩:=s4.ix F;refine zxe a4 b5 R Z (zc 0 (o.below h.below) Z (zp2 Z (zcB h F qad Z fun _ _ h F=>X0 2 Z (qk Z F ?_ ?_))))<;>intro F
  ·refine X0 4 Z ?_;obtain rfl:=qc F;replace F:=f;exact rb h F Z
  exact X0 7 Z (rK ⟨_,F,rfl,h⟩ Z)
 refine qv Z ?_;obtain rfl:=qc F;replace F:=f;exact X0 4 Z (rb h F Z)
def qcS (c:Int)(b:qC):Nat→(List Tl05Place)→Int→Option ((List Tl05Place)×Int)| 0,_,_=>U| n+1,d,a =>bif decide (a<(b.Aj.length:Int)) then(idx b.Aj a).bind fun g =>(appS d ([(⟨c,a,g,(a==(W64 ((b.Aj.length:Int)-1)))⟩:Tl05Place)]:List Tl05Place)).bind fun f =>qcS c b n f (W64 (a+1)) else V (d,a)
def qcM (a_0:qf):Nat→(List Tl05Place)→Int→Option ((List Tl05Place)×Int)| 0,_,_=>U| n+1,b,a =>bif decide (a<(a_0.Ah.length:Int)) then(idx a_0.Ah a).bind fun d =>(idx a_0.Ah a).bind fun f =>(appS b ([(⟨(-1),a,d.Bz,(f.Bv==1)⟩:Tl05Place)]:List Tl05Place)).bind fun c =>qcM a_0 n c (W64 (a+1)) else V (b,a)
def qcP (a_0:qf):Nat→(List Tl05Place)→Int→Option ((List Tl05Place)×Int)| 0,_,_=>U| n+1,b,a =>bif decide (a<(a_0.Ab.length:Int)) then(idx a_0.Ab a).bind fun d =>(qcS a d n b 0).bind fun o=>match o with| (c,_) =>qcP a_0 n c (W64 (a+1)) else V (b,a)
def qbZ (n:Nat)(a_0:qf):Option (List Tl05Place) :=(qcP a_0 n ([]:List Tl05Place) 0).bind fun o=>match o with| (a,_) =>(qcM a_0 n a 0).bind fun o=>match o with| (b,_) =>V b
theorem qbR {a_0:qf}(v:Ro w a_0 cs1){r:(List Tl05Place)}(F:qbZ n a_0=V r):RetV prog 150 [GoT.v qf cs1] w r:=by
 obtain⟨p1,T,p2,W,p3,X,rfl,s1,_,s3⟩:=qaQ v;refine zV 69 func150 Z fun h=>zSR (qD h Z Z fun _ a h=>X0 4 Z (qp qa [] _ ([]:List Tl05Place) h Z Z Z Z Z Z Z Z Z trivial Z fun _ _ _ h=>X0 7 Z ?_));obtain⟨o1,F,s⟩:=qd F;refine qm (rL (fun m e w'=>∃(S2:Nat→Prop) (p5:Option Addr) (g:Nat) (Y:Nat) (x1:(List Tl05Place)) (d:Int),qcP a_0 m x1 d=V o1∧e=[(1,.pointer (V ⟨a,0,U⟩)),(3,.slice p5 g Y),(4,.int .i64 d)]∧SH w w' [Ch.own S2 (x1:List Tl05Place) [.slice p5 g Y],Ch.box a (qap a_0 p1 p2 p3 T W X) 31]) n ⟨_,_,_,_,_,_,F,rfl,h⟩ Z ?_);rintro m1 _ _ ⟨S2,p5,g,Y,x1,d,F,rfl,h⟩;obtain rfl:=(h.sl 0 Z).2;rcases m1 with _|m1
 ·cases F
 refine X1 9 1 h Z (qk Z F ?_ ?_)<;>intro F
 ·refine X1 8 1 h Z ?_;obtain⟨p,_,F,B,_,_,_,_,I,M,Q,x⟩:=s1.ix F;obtain⟨p6,k5,rfl,s4⟩:=qaD Q;refine zxe I M B Z (zp1 Z (zc 2 (x.below h.below) Z (X0 6 Z ?_)));obtain⟨o2,F,t⟩:=qd F;refine qm (rL (fun m e w'=>∃(S3:Nat→Prop) (p7:Option Addr) (i:Nat) (k6:Nat) (x2:(List Tl05Place)) (f:Int),qcS d p m x2 f=V o2∧e=[(1,.pointer (V ⟨a,0,U⟩)),(3,.slice p7 i k6),(4,.int .i64 d),(5,.slice p6 p.Aj.length k5),(6,.int .i64 f)]∧SH w w' [Ch.own S3 (x2:List Tl05Place) [.slice p7 i k6],Ch.box a (qap a_0 p1 p2 p3 T W X) 31]) m1 ⟨_,_,_,_,_,_,F,rfl,h⟩ Z ?_);rintro m2 _ _ ⟨S3,p7,i,k6,x2,f,F,rfl,h⟩;obtain rfl:=(h.sl 0 Z).2;rcases m2 with _|m2
  ·cases F
  refine X0 8 Z (qk Z F ?_ ?_)<;>intro F
  ·refine X0 9 Z ?_;obtain⟨y2,_,F,C,_,_,_,_,J,N,rfl,y⟩:=s4.ix F;refine zxe J N C Z (zc 0 (y.below h.below) Z (zp5 Z (r_v (qt qa [0,1,2,3] [.tmp 29,.tmp 30,.tmp 34,.tmp 39] Z Z Z Z Z Z Z Z) Z (qp qa [.tmp 40] _ ([(⟨d,f,y2,(f==(W64 ((p.Aj.length:Int)-1)))⟩:Tl05Place)]:List Tl05Place) h Z Z Z Z Z Z Z Z Z ⟨(qfp (⟨d,f,y2,(f==(W64 ((p.Aj.length:Int)-1)))⟩:Tl05Place)),trivial⟩ Z fun _ _ _ h=>?_))));obtain⟨_,b,F⟩:=qd F;obtain⟨g1,b⟩:=qG b;refine qaF qa 1 h Z (h.sl 0 Z).1 (h.sl 0 Z).2 Z Z Z Z Z Z Z Z Z g1 b Z fun _ _ _ _ h=>X0 8 Z ?_;replace h:=h.pick [1,2] Z;exact rK ⟨_,_,_,_,_,_,F,rfl,h⟩ Z
  refine qv Z ?_;obtain rfl:=qc F;replace F:=t;exact X0 6 Z (rK ⟨_,_,_,_,_,_,F,rfl,h⟩ Z)
 refine qv Z ?_;obtain rfl:=qc F;replace F:=s;refine X0 5 Z ?_;obtain⟨o3,F,u⟩:=qd F;refine qm (rL (fun m e w'=>∃(S6:Nat→Prop) (l:Option Addr) (k:Nat) (k8:Nat) (x4:(List Tl05Place)) (o:Int),qcM a_0 m x4 o=V o3∧e=[(1,.pointer (V ⟨a,0,U⟩)),(3,.slice l k k8),(7,.int .i64 o)]∧SH w w' [Ch.own S6 (x4:List Tl05Place) [.slice l k k8],Ch.box a (qap a_0 p1 p2 p3 T W X) 31]) n ⟨_,_,_,_,_,_,F,rfl,h⟩ Z ?_);rintro m3 _ _ ⟨S6,l,k,k8,x4,o,F,rfl,h⟩;obtain rfl:=(h.sl 0 Z).2;rcases m3 with _|m3
 ·cases F
 refine X1 9 1 h Z (qk Z F ?_ ?_)<;>intro F
 ·refine zKSB (rA [] [1] h Z fun _ h=>M1 31 [0,1,2,3,4] 0 (h.pick [1] Z) Z ?_);obtain⟨y3,_,F,D,_,_,_,_,K,O,R,z⟩:=s3.ix F;obtain rfl:=qeG R;refine Ae 5 63 K O D (h.pick [1] Z) Z (M0 127 [6] (h.pick [1] Z) Z (Al 7 255 2 z (h.pick [1] Z) Z (M1 2047 [8,9,10] 0 (h.pick [1] Z) Z ?_)));obtain⟨y4,_,F,H,_,_,_,_,L,P,S,A⟩:=s3.ix F;obtain rfl:=qeG S;refine Ae 11 4095 L P H (h.pick [1] Z) Z (M0 8191 [12] (h.pick [1] Z) Z (Al 13 16383 1 A (h.pick [1] Z) Z (M0 32767 [14] (h.pick [1] Z) Z (Aw 15 65535 (fun w' hw=>qt qa [0,1,2,3] [.const (.int .i64 (-1)),.tmp 51,.tmp 57,.tmp 64] Z Z Z Z Z Z Z Z) (h.pick [1] Z) Z ?_))));refine Ao 16 131071 Z (qp qa [.tmp 65] _ ([(⟨(-1),o,y3.Bz,(y4.Bv==1)⟩:Tl05Place)]:List Tl05Place) h Z Z Z Z Z Z Z Z Z ⟨(qfp (⟨(-1),o,y3.Bz,(y4.Bv==1)⟩:Tl05Place)),trivial⟩ Z fun _ _ _ h=>Ag (h.pick [2] Z) (Ao 17 262143 Z ?_));obtain⟨_,c,F⟩:=qd F;obtain⟨g2,c⟩:=qG c;refine qaF qa 1 h Z (h.sl 0 Z).1 (h.sl 0 Z).2 Z Z Z Z Z Z Z Z Z g2 c Z fun _ _ _ _ h=>G0 524287 [18] (h.pick [2] Z) Z (Ad (X0 6 Z ?_));replace h:=h.pick [1,2] Z;exact rK ⟨_,_,_,_,_,_,F,rfl,h⟩ Z
 refine qv Z ?_;obtain rfl:=qc F;replace F:=u;refine X0 5 Z ?_;obtain rfl:=qc F;exact rO 0 h Z ⟨rfl,trivial⟩
def qcH (net:Int)(r1:(List Tl05Place)):Nat→(List Int)→Int→Option ((List Int)×Int)| 0,_,_=>U| n+1,b,a =>bif decide (a<(r1.length:Int)) then((idx r1 a).bind fun d =>bif (d.net==net) then(idx r1 a).bind fun f =>V (!f.drives) else V false).bind fun b1 =>bif b1 then(appS b ([a]:List Int)).bind fun c =>qcH net r1 n c (W64 (a+1)) else qcH net r1 n b (W64 (a+1)) else V (b,a)
def qfn (n:Nat)(d:qf)(net:Int):Option (List Int) :=(qbZ n d).bind fun r1 =>(qcH net r1 n ([]:List Int) 0).bind fun o=>match o with| (a,_) =>V a
theorem qgY {d:qf}{net:Int}(i:Ro w d cs1){r:(List Int)}(F:qfn n d net=V r):RetV prog 122 [GoT.v qf cs1,.int .i64 net] w r:=by
 obtain⟨_,_,_,_,_,_,rfl,_,_,_⟩:=qaQ i;refine zV 37 func122 Z fun h=>zSR (qD h Z Z fun _ _ h=>X0 4 Z (qp qa [] _ ([]:List Int) h Z Z Z Z Z Z Z Z Z trivial Z fun _ _ _ h=>X1 5 1 h Z (zcL h F (qbR (h.old i)) Z fun r1 _ S2 v u h F=>X0 7 Z ?_)));obtain⟨M,F,z⟩:=qd F;refine qm ?_;replace h:=h.pick [0,1] Z;refine rL (fun m e w'=>∃(y:Nat→Prop) (s:Option Addr) (b:Nat) (p:Nat) (c:(List Int)) (o:Int),qcH net r1 m c o=V M∧e=[(1,.int .i64 net),(5,.slice s b p),(6,.slice v r1.length u),(7,.int .i64 o)]∧SH w w' [Ch.own S2 (r1:List Tl05Place) [.slice v r1.length u],Ch.own y (c:List Int) [.slice s b p]]) n ⟨_,_,_,_,_,_,F,rfl,h⟩ Z ?_;rintro L _ _ ⟨y,s,b,p,c,o,F,rfl,h⟩;obtain rfl:=(h.sl 1 Z).2;rcases L with _|L
 ·cases F
 refine X0 8 Z (qk Z F ?_ ?_)<;>intro F
 ·refine X0 4 Z ?_;obtain⟨x,g,_,F,f⟩:=bindE F;refine qaz (fun e w'=>∃(b1:Bool),x b1=V M∧e=[(1,.int .i64 net),(5,.slice s c.length p),(6,.slice v r1.length u),(7,.int .i64 o),(31,.bool b1)]∧SH w w' [Ch.own S2 (r1:List Tl05Place) [.slice v r1.length u],Ch.own y (c:List Int) [.slice s c.length p]]) ?_ ?_
  ·refine X0 3 Z ?_;obtain⟨_,_,F,k,_,_,_,_,C,H,J,A⟩:=(h.sl 0 Z).1.ix F;obtain rfl:=qbo J;refine zx C H ⟨k.1,qA k.2.1 (h.sl 0 Z).2⟩ Z (zp1 Z (zc 2 A Z (zp3 Z (qg (t:=24) F Z ?_ ?_))))<;>intro F
   ·refine X0 5 Z ?_;obtain⟨_,_,F,l,_,_,_,_,D,I,K,B⟩:=(h.sl 0 Z).1.ix F;obtain rfl:=qbo K;refine zx D I ⟨l.1,qA l.2.1 (h.sl 0 Z).2⟩ Z (X0 3 Z (zc 3 B Z (X0 4 Z ?_)));obtain rfl:=qc F;exact rG ⟨_,f,rfl,h⟩ Z
   refine X0 8 Z ?_;obtain rfl:=qc F;exact rG ⟨_,f,rfl,h⟩ Z
  rintro _ _ ⟨b1,F,rfl,h⟩;subst g;refine qk Z F ?_ ?_<;>intro F
  ·refine X0 3 Z (qp qa [.tmp 33] _ ([o]:List Int) h Z Z Z Z Z Z Z Z Z ⟨rfl,trivial⟩ Z fun _ _ _ h=>?_);obtain⟨_,a,F⟩:=qd F;obtain⟨N,a⟩:=qG a;refine qaF qa 2 h Z (h.sl 0 Z).1 (h.sl 0 Z).2 Z Z Z Z Z Z Z Z Z N a Z fun _ _ _ _ h=>X0 8 Z ?_;replace h:=h.pick [1,2] Z;exact rK ⟨_,_,_,_,_,_,F,rfl,h⟩ Z
  exact X0 7 Z (rK ⟨_,_,_,_,_,_,F,rfl,h⟩ Z)
 refine qv Z ?_;obtain rfl:=qc F;replace F:=z;refine X0 5 Z ?_;obtain rfl:=qc F;exact rO 1 h Z ⟨rfl,trivial⟩
def qeW (b:qe):Nat→Int→Option (Flow Bool Int)| 0,_=>U| n+1,a =>bif decide (a<(b.Af.length:Int)) then(idx b.Af a).bind fun d =>(qfn n (⟨b.Aa.Ab,b.Aa.Aj,b.Aa.Ah⟩:qf) a).bind fun r1 =>(qka n d (r1.length:Int)).bind fun c =>bif (!c) then V (.ret false) else qeW b n (W64 (a+1)) else V (.nxt a)
def qdx (n:Nat)(b:qe):Option Bool :=((qiQ n (⟨b.Ap.Aq⟩:qu) (⟨b.Aa.Ab,b.Aa.Aj,b.Aa.Ah⟩:qf)).bind fun a =>bif (!a) then V true else V ((b.Af.length:Int) != (b.Aa.Aj.length:Int))).bind fun b1 =>bif b1 then V false else(qeW b n 0).bind fun o=>match o with| .ret r=>V r| .nxt _ =>V true
theorem qeZ {b:qe}(i:Ro w b cs1){r:Bool}(F:qdx n b=V r):RetV prog 51 [GoT.v qe cs1] w r:=by
 obtain⟨p1,v,C,x,D,y,H,z,I,A,rfl,s1,s2,J,K,M⟩:=qN i;refine zV 39 func51 Z fun h=>zSR (qD h Z Z fun _ a h=>X0 4 Z ?_);obtain⟨g,f,_,F,d⟩:=bindE F;refine qaz (fun e w'=>∃(b1:Bool),g b1=V r∧e=[(1,.pointer (V ⟨a,0,U⟩)),(19,.bool b1)]∧SH w w' [Ch.box a (qH b p1 C D H I v x y z A) 34]) ?_ ?_
 ·refine X2 5 0 0 h Z (zcB h F (qnU (qit _ (h.oldS s1)) (qaT _ (h.oldS s2) (h.oldS J) (h.oldS K))) Z fun _ _ h F=>zp2 Z (qg (t:=10) F Z ?_ ?_))<;>intro F
  ·refine X0 10 Z ?_;obtain rfl:=qc F;exact rG ⟨_,d,rfl,h⟩ Z
  refine X2 18 0 0 h Z ?_;obtain rfl:=qc F;exact rG ⟨_,d,rfl,h⟩ Z
 rintro _ _ ⟨b1,F,rfl,h⟩;subst f;refine qk Z F ?_ ?_<;>intro F
 ·exact X0 4 Z (rb h F Z)
 refine X0 6 Z ?_;obtain⟨L,F,c⟩:=qd F;refine qm (rL (fun m e w'=>∃(u:Int),qeW b m u=V L∧e=[(1,.pointer (V ⟨a,0,U⟩)),(3,.int .i64 u)]∧SH w w' [Ch.box a (qH b p1 C D H I v x y z A) 34]) n ⟨_,F,rfl,h⟩ Z ?_);rintro B _ _ ⟨u,F,rfl,h⟩;rcases B with _|B
 ·cases F
 refine X1 9 0 h Z (qk Z F ?_ ?_)<;>intro F
 ·refine X0 4 Z (rA [] [0] h Z fun _ h=>M1 7 [0,1,2] 0 (h.pick [0] Z) Z ?_);obtain⟨R,_,F,l,_,_,_,_,o,p,s,k⟩:=M.ix F;obtain⟨_,_,_,_,_,_,_,_,rfl,N,O,P,Q⟩:=qbz s;refine Ae 3 15 o p l (h.pick [0] Z) Z (Al 4 31 0 k (h.pick [0] Z) Z (M1 255 [5,6,7] 0 (h.pick [0] Z) Z (Ao 8 511 Z (zcL h F (qgY (qaT _ (h.oldS s2) (h.oldS J) (h.oldS K))) Z fun _ _ _ _ _ h F=>G0 1023 [9] (h.pick [1] Z) Z (Ao 10 2047 Z (zcB h F (qoY (qpB R (h.oldS N) (h.oldS O) (h.oldS P) (h.oldS Q))) Z fun _ _ h F=>G0 4095 [11] (h.pick [1] Z) Z (Ad (qk Z F ?_ ?_))))))))<;>intro F
  ·refine X0 4 Z ?_;obtain rfl:=qc F;replace F:=c;exact rb h F Z
  refine X0 7 Z ?_;replace h:=h.pick [1] Z;exact rK ⟨_,F,rfl,h⟩ Z
 refine qv Z ?_;obtain rfl:=qc F;replace F:=c;exact X0 4 Z (rb h F Z)
def qaV (_:Nat)(x:Int)(b:Int)(a:Int):Option Bool :=bif decide (x ≥ b) then V (decide (x≤a)) else V false
theorem qaH {x:Int}{b:Int}{a:Int}  {r:Bool}(F:qaV n x b a=V r):RetV prog 58 [.int .i64 x,.int .i64 b,.int .i64 a] w r:=by
 refine zV 15 func58 Z fun h=>X0 10 Z (qg (t:=10) F Z ?_ ?_)<;>intro F
 ·exact X0 9 Z (rb h F Z)
 exact X0 6 Z (rb h F Z)
def qio (_:Nat)(s cutset:ByteArray):Option ByteArray :=if s.size≤9223372036854775807∧cutset.size<4294967281∧cutset.data.toList.all (fun b=>decide (b.toNat<128))=true then V ⟨(Lib.trimS s.data.toList cutset.data.toList).toArray⟩ else U
theorem qos {s cutset:ByteArray}{r:ByteArray}(F:qio n s cutset=V r):RetV prog 197 [.string s,.string cutset] w r:=by
 unfold qio at F;split at F
 ·rename_i hh
  obtain rfl:=qc F;refine(Tryz.strings_Trim_any s cutset w hh.1 hh.2.1 hh.2.2).mono ?_;rintro e w' ⟨rfl,a⟩;exact⟨_,rfl,a,[.string _],rfl,qqL _ _⟩
 cases F
def qgr (_:Nat)(s:ByteArray)(c:(IntK .u8)):Option Int :=V (Lib.indexByte s.data.toList c.val.toNat.toUInt8)
theorem qlV {s:ByteArray}{c:(IntK .u8)}{r:Int}(F:qgr n s c=V r):RetV prog 198 [.string s,.int .u8 c.val] w r:=by
 obtain rfl:=qc F;refine(Tryz.strings_IndexByte s c.val w).mono ?_;rintro e w' ⟨rfl,rfl⟩;exact⟨_,rfl,Below.refl _ _,[.int .i64 _],rfl,quj _ _⟩
def qhS (n:Nat)(s:ByteArray):Option Bool :=(qaV n (s.size:Int) 1 8).bind fun r1 =>bif r1 then(qio n s (⟨#[97,98,99,100,101,102,103,104,105,106,107,108,109,110,111,112,113,114,115,116,117,118,119,120,121,122,48,49,50,51,52,53,54,55,56,57]⟩:ByteArray)).bind fun a =>bif (a.toList==(⟨#[]⟩:ByteArray).toList) then(atS s 0).bind fun c =>(qgr n (⟨#[97,98,99,100,101,102,103,104,105,106,107,108,109,110,111,112,113,114,115,116,117,118,119,120,121,122]⟩:ByteArray) (⟨c⟩:IntK .u8)).bind fun b =>V (decide (b ≥ 0)) else V false else V false
theorem qjG {s:ByteArray}  {r:Bool}(F:qhS n s=V r):RetV prog 126 [.string s] w r:=by
 refine zV 17 func126 Z fun h=>X0 8 Z (zcB h F qaH Z fun _ _ h F=>zp1 Z (qg (t:=6) F Z ?_ ?_))<;>intro F
 ·refine X0 3 Z (zcS h F qos Z fun _ _ h F=>X0 4 Z (qg (t:=11) F Z ?_ ?_))<;>intro F
  ·refine X0 3 Z ?_;obtain⟨_,a,F⟩:=qd F;have b:=qlW a;exact r_v (qlT qa b Z Z Z Z) Z (X0 1 Z (zcI h F qlV Z fun _ _ h F=>X0 5 Z (rb h F Z)))
  exact X0 7 Z (rb h F Z)
 exact X0 12 Z (rb h F Z)
def qcx (_:Nat)(list:(List qaq)):Option Int :=V (list.length:Int)
theorem qhP {list:(List qaq)}(a:Ro w list cs1){r:Int}(F:qcx n list=V r):RetV prog 206 [GoT.v (List qaq) cs1] w r:=by
 obtain⟨_,_,rfl,_⟩:=a;exact zV 5 func206 Z fun h=>X0 10 Z (ri h F Z)
def qb8 (s:(List ByteArray))(v:ByteArray):Nat→Int→Option (Flow Int Int)| 0,_=>U| n+1,a =>bif decide (a<(s.length:Int)) then(idx s a).bind fun b =>bif (v.toList==b.toList) then V (.ret a) else qb8 s v n (W64 (a+1)) else V (.nxt a)
def qfs (n:Nat)(s:(List ByteArray))(v:ByteArray):Option Int :=(qb8 s v n 0).bind fun o=>match o with| .ret r=>V r| .nxt _ =>V (-1)
theorem qlg {s:(List ByteArray)}{v:ByteArray}(b:Ro w s cs1){r:Int}(F:qfs n s v=V r):RetV prog 288 [GoT.v (List ByteArray) cs1,.string v] w r:=by
 obtain⟨p1,l,rfl,s1⟩:=b;refine zV 19 func288 Z fun h=>X0 11 Z ?_;obtain⟨o,F,a⟩:=qd F;refine qm (rL (fun m e w'=>∃(i:Int),qb8 s v m i=V o∧e=[(0,.slice p1 s.length l),(1,.string v),(7,.int .i64 (s.length:Int)),(8,.int .i64 i)]∧SH w w' []) n ⟨_,F,rfl,h⟩ Z ?_);rintro k _ _ ⟨i,F,rfl,h⟩;rcases k with _|k
 ·cases F
 refine X0 5 Z (qk Z F ?_ ?_)<;>intro F
 ·refine X0 13 Z ?_;obtain⟨_,_,F,d,_,_,_,_,f,g,rfl,c⟩:=s1.ix F;refine zxe f g d Z (zc 0 (c.below h.below) Z (X0 2 Z (qk Z F ?_ ?_)))<;>intro F
  ·refine X0 5 Z ?_;obtain rfl:=qc F;replace F:=a;exact ri h F Z
  exact X0 6 Z (rK ⟨_,F,rfl,h⟩ Z)
 refine qv Z ?_;obtain rfl:=qc F;replace F:=a;exact X0 4 Z (ri h F Z)
def qea (n:Nat)(s:(List ByteArray))(v:ByteArray):Option Bool :=(qfs n s v).bind fun r1 =>V (decide (r1 ≥ 0))
theorem qjW {s:(List ByteArray)}{v:ByteArray}(a:Ro w s cs1){r:Bool}(F:qea n s v=V r):RetV prog 274 [GoT.v (List ByteArray) cs1,.string v] w r:=by
 obtain⟨_,_,rfl,s1⟩:=a;exact zV 9 func274 Z fun h=>X0 8 Z (zcI h F (qlg ⟨_,_,rfl,(h.oldS s1)⟩) Z fun _ _ h F=>X0 3 Z (rb h F Z))
def qem (list:(List ByteArray)):Nat→Int→Option (Flow Bool Int)| 0,_=>U| n+1,a =>bif decide (a<(list.length:Int)) then(idx list a).bind fun b =>(qhS n b).bind fun r1 =>bif (!r1) then V (.ret false) else(subS list 0 a).bind fun d =>(qea n d b).bind fun c =>bif c then V (.ret false) else qem list n (W64 (a+1)) else V (.nxt a)
def qeh (n:Nat)(list:(List ByteArray)):Option Bool :=(qem list n 0).bind fun o=>match o with| .ret r=>V r| .nxt _ =>V true
theorem qfO {list:(List ByteArray)}(f:Ro w list cs1){r:Bool}(F:qeh n list=V r):RetV prog 243 [GoT.v (List ByteArray) cs1] w r:=by
 obtain⟨p1,s,rfl,s1⟩:=f;refine zV 23 func243 Z fun h=>X0 11 Z ?_;obtain⟨x,F,a⟩:=qd F;refine qm (rL (fun m e w'=>∃(p:Int),qem list m p=V x∧e=[(0,.slice p1 list.length s),(5,.slice p1 list.length s),(6,.int .i64 (list.length:Int)),(7,.int .i64 p)]∧SH w w' []) n ⟨_,F,rfl,h⟩ Z ?_);rintro u _ _ ⟨p,F,rfl,h⟩;rcases u with _|u
 ·cases F
 refine X0 5 Z (qk Z F ?_ ?_)<;>intro F
 ·refine X0 6 Z ?_;obtain⟨_,_,F,i,_,_,_,_,l,o,rfl,g⟩:=s1.ix F;refine zxe l o i Z (zc 0 (g.below h.below) Z (X0 6 Z (zcB h F qjG Z fun _ _ h F=>zp2 Z (qg (t:=15) F Z ?_ ?_))))<;>intro F
  ·refine X0 7 Z (qch Z Z (X0 4 Z ?_));obtain rfl:=qc F;replace F:=a;exact rb h F Z
  refine X0 5 Z ?_;obtain⟨_,d,F⟩:=qd F;obtain⟨_,_,c,b,k,v⟩:=qr8 (h.oldS s1) d;refine r_v (qpf qa Z Z Z (qr0 v Z) c b k Z Z Z Z) Z ?_;have s2:=qrV s1 d c b;refine X0 3 Z (zcB h F (qjW ⟨_,_,rfl,(h.oldS s2)⟩) Z fun _ _ h F=>X0 2 Z (qk Z F ?_ ?_))<;>intro F
  ·refine X0 4 Z ?_;obtain rfl:=qc F;replace F:=a;exact rb h F Z
  exact X0 6 Z (rK ⟨_,F,rfl,h⟩ Z)
 refine qv Z ?_;obtain rfl:=qc F;replace F:=a;exact X0 4 Z (rb h F Z)
def qc5 (list:(List qaq)):Nat→(List ByteArray)→Int→Option (Flow Bool ((List ByteArray)×Int))| 0,_,_=>U| n+1,c,a =>bif decide (a<(list.length:Int)) then(idx list a).bind fun b =>(appS c ([b.Bh]:List ByteArray)).bind fun d =>bif (a==(W64 ((list.length:Int)-1))) then bif (b.Bv != 2) then V (.ret false) else bif (b.Bp != 0) then V (.ret false) else bif b.Bq then V (.ret false) else qc5 list n d (W64 (a+1)) else bif (b.Bv != 1) then V (.ret false) else(qaV n b.Bp 0 500).bind fun r1 =>bif (!r1) then V (.ret false) else qc5 list n d (W64 (a+1)) else V (.nxt (c,a))
def qjh (n:Nat)(list:(List qaq)):Option Bool :=(qc5 list n ([]:List ByteArray) 0).bind fun o=>match o with| .ret r=>V r| .nxt (d,_) =>(qcx n list).bind fun a =>(qaV n a 2 5).bind fun b =>bif b then(qeh n d).bind fun c =>V c else V false
theorem qoc {list:(List qaq)}(d:Ro w list cs1){r:Bool}(F:qjh n list=V r):RetV prog 271 [GoT.v (List qaq) cs1] w r:=by
 obtain⟨p1,v,rfl,s1⟩:=d;refine zV 52 func271 Z fun h=>X0 15 Z ?_;replace h:=h.nil (α:=ByteArray);obtain⟨z,F,a⟩:=qd F;refine qm (rL (fun m e w'=>∃(S1:Nat→Prop) (s:Option Addr) (c:Nat) (p:Nat) (u:(List ByteArray)) (o:Int),qc5 list m u o=V z∧e=[(0,.slice p1 list.length v),(3,.slice s c p),(6,.slice p1 list.length v),(7,.int .i64 (list.length:Int)),(8,.int .i64 o)]∧SH w w' [Ch.own S1 (u:List ByteArray) [.slice s c p]]) n ⟨_,_,_,_,_,_,F,rfl,h⟩ Z ?_);rintro x _ _ ⟨S1,s,c,p,u,o,F,rfl,h⟩;obtain rfl:=(h.sl 0 Z).2;rcases x with _|x
 ·cases F
 refine X0 5 Z (qk Z F ?_ ?_)<;>intro F
 ·refine X0 6 Z ?_;obtain⟨A,_,F,g,_,_,_,_,i,k,l,f⟩:=s1.ix F;obtain rfl:=qeV l;refine zxe i k g Z (zc 0 (f.below h.below) Z (qh qa h Z Z Z fun _ _ h=>zp1 Z (zs 0 h Z fun _ h=>X1 6 0 h Z (qp qa [.tmp 15] _ ([A.Bh]:List ByteArray) h Z Z Z Z Z Z Z Z Z ⟨rfl,trivial⟩ Z fun _ _ _ h=>?_))));obtain⟨_,b,F⟩:=qd F;obtain⟨y,b⟩:=qG b;refine qaF qa 2 h Z (h.sl 0 Z).1 (h.sl 0 Z).2 Z Z Z Z Z Z Z Z Z y b Z fun _ _ _ _ h=>X0 10 Z (qk Z F ?_ ?_)<;>intro F
  ·refine X1 6 1 h Z (qg (t:=26) F Z ?_ ?_)<;>intro F
   ·refine X0 9 Z (qch Z Z (X0 4 Z ?_));obtain rfl:=qc F;replace F:=a;exact rb h F Z
   refine X1 8 1 h Z (qg (t:=31) F Z ?_ ?_)<;>intro F
   ·refine X0 4 Z (qch Z Z (X0 4 Z ?_));obtain rfl:=qc F;replace F:=a;exact rb h F Z
   refine X1 6 1 h Z (qk Z F ?_ ?_)<;>intro F
   ·refine X0 4 Z ?_;obtain rfl:=qc F;replace F:=a;exact rb h F Z
   refine X0 6 Z ?_;replace h:=h.pick [2] Z;exact rK ⟨_,_,_,_,_,_,F,rfl,h⟩ Z
  refine X1 6 1 h Z (qg (t:=38) F Z ?_ ?_)<;>intro F
  ·refine X0 6 Z (qch Z Z (X0 4 Z ?_));obtain rfl:=qc F;replace F:=a;exact rb h F Z
  refine X1 5 1 h Z (zcB h F qaH Z fun _ _ h F=>X0 4 Z (qk Z F ?_ ?_))<;>intro F
  ·refine X0 4 Z ?_;obtain rfl:=qc F;replace F:=a;exact rb h F Z
  refine X0 6 Z ?_;replace h:=h.pick [2] Z;exact rK ⟨_,_,_,_,_,_,F,rfl,h⟩ Z
 refine qv Z ?_;obtain rfl:=qc F;replace F:=a;refine X0 3 Z (zcI h F (qhP ⟨_,_,rfl,(h.oldS s1)⟩) Z fun _ _ h F=>zcB h F qaH Z fun _ _ h F=>zp1 Z (qg (t:=48) F Z ?_ ?_))<;>intro F
 ·exact X0 3 Z (zcB h F (qfO (h.own 0 Z)) Z fun _ _ h F=>X0 3 Z (rb h F Z))
 exact X0 5 Z (rb h F Z)
def qeo (n:Nat)(c:qE):Option Int :=(qcx n c.Be).bind fun r1 =>V (W64 (r1-1))
theorem qhe {c:qE}(a:Ro w c cs1){r:Int}(F:qeo n c=V r):RetV prog 142 [GoT.v qE cs1] w r:=by
 obtain⟨_,_,_,_,_,_,rfl,s1,_,_⟩:=qai a;exact zV 7 func142 Z fun h=>zSR (qD h Z Z fun _ _ h=>X1 6 0 h Z (zcI h F (qhP ⟨_,_,rfl,(h.oldS s1)⟩) Z fun _ _ h F=>X0 3 Z (ri h F Z)))
def qjk (_:Nat)(kind:Int):Option Bool :=bif (kind==4) then V true else V (kind==5)
theorem qoh {kind:Int}  {r:Bool}(F:qjk n kind=V r):RetV prog 296 [.int .i64 kind] w r:=by
 refine zV 9 func296 Z fun h=>X0 9 Z (qg (t:=5) F Z ?_ ?_)<;>intro F
 ·exact X0 5 Z (rb h F Z)
 exact X0 7 Z (rb h F Z)
def qgU (n:Nat)(c:Int)(a:Int)(b:Int):Option Bool :=(qaV n c a b).bind fun r1 =>V (!r1)
theorem qms {p:Int}{k:Int}{l:Int}{p1:Option Addr}(a:Ro w (V k) [.pointer p1]){i:Option Addr}(b:Ro w (V l) [.pointer i]){r:Bool}(F:qgU n p k l=V r):RetV prog 158 [.int .i64 p,.pointer p1,.pointer i] w r:=by
 obtain⟨_,m,_,rfl,-,f,c⟩:=PtR.get a Z;obtain rfl:=f;obtain⟨_,o,_,rfl,-,g,d⟩:=PtR.get b Z;obtain rfl:=g;exact zV 10 func158 Z fun h=>X0 7 Z (zc 0 (c.below h.below) Z (zc 0 (d.below h.below) Z (zcB h F qaH Z fun _ _ h F=>X0 3 Z (rb h F Z))))
def qag (s:(List Int))(a:Int)(b:Int):Nat→Int→Option (Flow Int Int)| 0,_=>U| n+1,c =>bif decide (c<(s.length:Int)) then(idx s c).bind fun d =>(qgU n d a b).bind fun r1 =>bif r1 then V (.ret c) else qag s a b n (W64 (c+1)) else V (.nxt c)
def qa0 (n:Nat)(s:(List Int))(a:Int)(b:Int):Option Int :=(qag s a b n 0).bind fun o=>match o with| .ret r=>V r| .nxt _ =>V (-1)
theorem qfV {s:(List Int)}{a:Int}{b:Int}(g:Ro w s cs1){z:Option Addr}(d:Ro w (V a) [.pointer z]){A:Option Addr}(f:Ro w (V b) [.pointer A]){r:Int}(F:qa0 n s a b=V r):RetV prog 217 [GoT.v (List Int) cs1,.func (.func 158) #[] #[.pointer z,.pointer A]] w r:=by
 obtain⟨p1,B,rfl,s1⟩:=g;obtain⟨b1,v,_,rfl,-,p,_⟩:=PtR.get d Z;obtain rfl:=p;obtain⟨b2,x,_,rfl,-,t,_⟩:=PtR.get f Z;obtain rfl:=t;refine zV 19 func217 Z fun h=>X0 11 Z ?_;obtain⟨C,F,c⟩:=qd F;refine qm (rL (fun m e w'=>∃(u:Int),qag s a b m u=V C∧e=[(0,.slice p1 s.length B),(1,.func (.func 158) #[] #[.pointer (V ⟨b1,v,U⟩),.pointer (V ⟨b2,x,U⟩)]),(7,.int .i64 (s.length:Int)),(8,.int .i64 u)]∧SH w w' []) n ⟨_,F,rfl,h⟩ Z ?_);rintro y _ _ ⟨u,F,rfl,h⟩;rcases y with _|y
 ·cases F
 refine X0 5 Z (qk Z F ?_ ?_)<;>intro F
 ·refine X0 13 Z ?_;obtain⟨_,_,F,k,_,_,_,_,l,o,rfl,i⟩:=s1.ix F;refine zxe l o k Z (zc 0 (i.below h.below) Z (zcB h F (qms (h.old d) (h.old f)) Z fun _ _ h F=>qa2 (qk Z F ?_ ?_)))<;>intro F
  ·refine X0 5 Z ?_;obtain rfl:=qc F;replace F:=c;exact ri h F Z
  exact X0 6 Z (rK ⟨_,F,rfl,h⟩ Z)
 refine qv Z ?_;obtain rfl:=qc F;replace F:=c;exact X0 4 Z (ri h F Z)
def qbC (n:Nat)(s:(List Int))(a:Int)(b:Int):Option Bool :=(qa0 n s a b).bind fun r1 =>V (decide (r1 ≥ 0))
theorem qfr {s:(List Int)}{a:Int}{b:Int}(f:Ro w s cs1){k:Option Addr}(c:Ro w (V a) [.pointer k]){l:Option Addr}(d:Ro w (V b) [.pointer l]){r:Bool}(F:qbC n s a b=V r):RetV prog 157 [GoT.v (List Int) cs1,.func (.func 158) #[] #[.pointer k,.pointer l]] w r:=by
 obtain⟨_,_,rfl,s1⟩:=f;obtain⟨_,m,_,rfl,-,g,_⟩:=PtR.get c Z;obtain rfl:=g;obtain⟨_,o,_,rfl,-,i,_⟩:=PtR.get d Z;obtain rfl:=i;exact zV 9 func157 Z fun h=>X0 8 Z (zcI h F (qfV ⟨_,_,rfl,(h.oldS s1)⟩ (h.old c) (h.old d)) Z fun _ _ h F=>X0 3 Z (rb h F Z))
def qb0 (n:Nat)(list:(List Int))(b:Int)(a:Int):Option Bool :=(qbC n list b a).bind fun r1 =>V (!r1)
theorem qce {list:(List Int)}{c:Int}{b:Int}(a:Ro w list cs1){r:Bool}(F:qb0 n list c b=V r):RetV prog 78 [GoT.v (List Int) cs1,.int .i64 c,.int .i64 b] w r:=by
 obtain⟨_,_,rfl,s1⟩:=a;exact zV 11 func78 Z fun h=>zSR (qD h Z Z fun _ _ h=>qD h Z Z fun _ _ h=>X0 6 Z (zcB h F (qfr ⟨_,_,rfl,(h.oldS s1)⟩ (qh3 (x:=c) 1 h Z Z) (qh3 (x:=b) 0 h Z Z)) Z fun _ _ h F=>X0 3 Z (rb h F Z)))
def qbu (_:Nat)(list:(List Int)):Option Int :=V (list.length:Int)
theorem qcC {list:(List Int)}(a:Ro w list cs1){r:Int}(F:qbu n list=V r):RetV prog 129 [GoT.v (List Int) cs1] w r:=by
 obtain⟨_,_,rfl,_⟩:=a;exact zV 5 func129 Z fun h=>X0 10 Z (ri h F Z)
def qby (list:(List Int)):Nat→Int→Option (Flow Bool Int)| 0,_=>U| n+1,a =>bif decide (a<(list.length:Int)) then(idx list (W64 (a-1))).bind fun b =>(idx list a).bind fun c =>bif decide (b ≥ c) then V (.ret false) else qby list n (W64 (a+1)) else V (.nxt a)
def qfj (n:Nat)(list:(List Int)):Option Bool :=(qby list n 1).bind fun o=>match o with| .ret r=>V r| .nxt _ =>V true
theorem qi3 {list:(List Int)}(b:Ro w list cs1){r:Bool}(F:qfj n list=V r):RetV prog 133 [GoT.v (List Int) cs1] w r:=by
 obtain⟨p1,t,rfl,s1⟩:=b;refine zV 20 func133 Z fun h=>X0 9 Z ?_;obtain⟨u,F,a⟩:=qd F;refine qm (rL (fun m e w'=>∃(p:Int),qby list m p=V u∧e=[(0,.slice p1 list.length t),(3,.int .i64 p)]∧SH w w' []) n ⟨_,F,rfl,h⟩ Z ?_);rintro s _ _ ⟨p,F,rfl,h⟩;rcases s with _|s
 ·cases F
 refine X0 8 Z (qk Z F ?_ ?_)<;>intro F
 ·refine X0 4 Z (rD (zd3 Z ?_));obtain⟨_,_,F,f,_,_,_,_,i,l,rfl,c⟩:=s1.ix F;refine zdxe i l f Z (zdc 0 (c.below h.below) Z (zd2 Z ?_));obtain⟨_,_,F,g,_,_,_,_,k,o,rfl,d⟩:=s1.ix F;refine zdxe k o g Z (zdc 0 (d.below h.below) Z (zd1 Z (dN h fun _ h=>qk Z F ?_ ?_)))<;>intro F
  ·refine X0 4 Z ?_;obtain rfl:=qc F;replace F:=a;exact rb h F Z
  exact X0 7 Z (rK ⟨_,F,rfl,h⟩ Z)
 refine qv Z ?_;obtain rfl:=qc F;replace F:=a;exact X0 4 Z (rb h F Z)
def qi5 (n:Nat)(list:(List Int)):Option Bool :=(qbu n list).bind fun r1 =>(qaV n r1 1 4).bind fun a =>bif a then(qb0 n list 0 100000).bind fun b =>bif b then(qfj n list).bind fun c =>V c else V false else V false
theorem qlR {list:(List Int)}(a:Ro w list cs1){r:Bool}(F:qi5 n list=V r):RetV prog 313 [GoT.v (List Int) cs1] w r:=by
 obtain⟨_,_,rfl,s1⟩:=a;refine zV 14 func313 Z fun h=>X0 7 Z (zcI h F (qcC ⟨_,_,rfl,(h.oldS s1)⟩) Z fun _ _ h F=>zcB h F qaH Z fun _ _ h F=>zp1 Z (qg (t:=6) F Z ?_ ?_))<;>intro F
 ·refine X0 3 Z (zcB h F (qce ⟨_,_,rfl,(h.oldS s1)⟩) Z fun _ _ h F=>zp2 Z (qg (t:=10) F Z ?_ ?_))<;>intro F
  ·exact X0 3 Z (zcB h F (qi3 ⟨_,_,rfl,(h.oldS s1)⟩) Z fun _ _ h F=>X0 3 Z (rb h F Z))
  exact X0 5 Z (rb h F Z)
 exact X0 9 Z (rb h F Z)
def qjl (n:Nat)(t:qO):Option Bool :=(qi5 n t.Bo).bind fun r1 =>bif r1 then(qi5 n t.Bl).bind fun a =>bif a then bif ((t.Bi.length:Int)==(W64 ((t.Bo.length:Int)*(t.Bl.length:Int)))) then(qb0 n t.Bi (-1000000) 1000000).bind fun b =>V b else V false else V false else V false
theorem qol {t:qO}(a:Ro w t cs1){r:Bool}(F:qjl n t=V r):RetV prog 308 [GoT.v qO cs1] w r:=by
 obtain⟨_,_,_,_,_,_,rfl,s1,s2,b⟩:=qcf a;refine zV 29 func308 Z fun h=>zSR (qD h Z Z fun _ _ h=>X1 6 0 h Z (zcB h F (qlR ⟨_,_,rfl,(h.oldS s1)⟩) Z fun _ _ h F=>zp1 Z (qg (t:=6) F Z ?_ ?_)))<;>intro F
 ·refine X1 5 0 h Z (zcB h F (qlR ⟨_,_,rfl,(h.oldS s2)⟩) Z fun _ _ h F=>zp2 Z (qg (t:=11) F Z ?_ ?_))<;>intro F
  ·refine X3 24 0 0 0 h Z (qg (t:=24) F Z ?_ ?_)<;>intro F
   ·exact X1 5 0 h Z (zcB h F (qce ⟨_,_,rfl,(h.oldS b)⟩) Z fun _ _ h F=>X0 3 Z (rb h F Z))
   exact X0 6 Z (rb h F Z)
  exact X0 19 Z (rb h F Z)
 exact X0 24 Z (rb h F Z)
def qcV (x:(List Int)):Nat→Int→Int→Option (Int×Int)| 0,_,_=>U| n+1,b,a =>bif decide (a<(x.length:Int)) then(idx x a).bind fun c =>qcV x n (if c<b then c else b) (W64 (a+1)) else V (b,a)
def qgZ (n:Nat)(x:(List Int)):Option Int :=(bif decide ((x.length:Int)<1) then U else V ()).bind fun _ =>(idx x 0).bind fun b =>(qcV x n b 1).bind fun o=>match o with| (a,_) =>V a
theorem qmy {x:(List Int)}(f:Ro w x cs1){r:Int}(F:qgZ n x=V r):RetV prog 309 [GoT.v (List Int) cs1] w r:=by
 obtain⟨p1,y,rfl,s1⟩:=f;refine zV 25 func309 Z fun h=>X0 11 Z ?_;obtain⟨b,a,_,F,d⟩:=bindE F;refine qaz (fun e w'=>b ()=V r∧e=[(0,.slice p1 x.length y)]∧SH w w' []) ?_ ?_
 ·refine qk Z F ?_ ?_<;>intro F
  ·refine qjQ ?_;cases F
  refine qeQ ?_;obtain rfl:=qc F;exact rG ⟨d,rfl,h⟩ Z
 rintro _ _ ⟨F,rfl,h⟩;subst a;refine X0 3 Z ?_;obtain⟨_,_,F,k,_,_,_,_,o,s,rfl,g⟩:=s1.ix F;refine zxe o s k Z (zc 0 (g.below h.below) Z (X0 7 Z ?_));obtain⟨A,F,c⟩:=qd F;refine qm (rL (fun m e w'=>∃(u:Int) (v:Int),qcV x m u v=V A∧e=[(0,.slice p1 x.length y),(3,.int .i64 u),(4,.int .i64 v)]∧SH w w' []) n ⟨_,_,F,rfl,h⟩ Z ?_);rintro z _ _ ⟨u,v,F,rfl,h⟩;rcases z with _|z
 ·cases F
 refine X0 8 Z (qk Z F ?_ ?_)<;>intro F
 ·refine X0 7 Z ?_;obtain⟨_,_,F,l,_,_,_,_,p,t,rfl,i⟩:=s1.ix F;exact zxe p t l Z (zc 0 (i.below h.below) Z (X0 9 Z (rK ⟨_,_,F,rfl,h⟩ Z)))
 refine qv Z ?_;obtain rfl:=qc F;replace F:=c;exact X0 5 Z (ri h F Z)

def qg2 (n:Nat)(t:qO)(b:Bool):Option Bool :=(qjl n t).bind fun r1 =>bif (!r1) then V true else bif b then(qgZ n t.Bi).bind fun a =>V (decide (a<0)) else V false
theorem qmA {t:qO}{g:Bool}(a:Ro w t cs1){f:Option Addr}(b:Ro w (V g) [.pointer f]){r:Bool}(F:qg2 n t g=V r):RetV prog 307 [GoT.v qO cs1,.pointer f] w r:=by
 obtain⟨_,_,_,_,_,_,rfl,_,_,k⟩:=qcf a;obtain⟨_,i,_,rfl,-,d,c⟩:=PtR.get b Z;obtain rfl:=d;refine zV 16 func307 Z fun h=>zSR (qD h Z Z fun _ _ h=>X1 5 0 h Z (zcB h F (qol (h.old a)) Z fun _ _ h F=>zp2 Z (qg (t:=7) F Z ?_ ?_)))<;>intro F
 ·exact X0 10 Z (rb h F Z)
 refine X0 1 Z (zc 0 (c.below h.below) Z (X0 2 Z (qg (t:=9) F Z ?_ ?_)))<;>intro F
 ·exact X1 5 0 h Z (zcI h F (qmy ⟨_,_,rfl,(h.oldS k)⟩) Z fun _ _ h F=>X0 7 Z (rb h F Z))
 exact X0 9 Z (rb h F Z)
def qY (s:(List qO))(a:Bool):Nat→Int→Option (Flow Int Int)| 0,_=>U| n+1,b =>bif decide (b<(s.length:Int)) then(idx s b).bind fun c =>(qg2 n c a).bind fun r1 =>bif r1 then V (.ret b) else qY s a n (W64 (b+1)) else V (.nxt b)
def qaK (n:Nat)(s:(List qO))(a:Bool):Option Int :=(qY s a n 0).bind fun o=>match o with| .ret r=>V r| .nxt _ =>V (-1)
theorem qfh {s:(List qO)}{a:Bool}(d:Ro w s cs1){v:Option Addr}(c:Ro w (V a) [.pointer v]){r:Int}(F:qaK n s a=V r):RetV prog 312 [GoT.v (List qO) cs1,.func (.func 307) #[] #[.pointer v]] w r:=by
 obtain⟨p1,x,rfl,s1⟩:=d;obtain⟨b1,t,_,rfl,-,l,_⟩:=PtR.get c Z;obtain rfl:=l;refine zV 19 func312 Z fun h=>X0 11 Z ?_;obtain⟨y,F,b⟩:=qd F;refine qm (rL (fun m e w'=>∃(p:Int),qY s a m p=V y∧e=[(0,.slice p1 s.length x),(1,.func (.func 307) #[] #[.pointer (V ⟨b1,t,U⟩)]),(7,.int .i64 (s.length:Int)),(8,.int .i64 p)]∧SH w w' []) n ⟨_,F,rfl,h⟩ Z ?_);rintro u _ _ ⟨p,F,rfl,h⟩;rcases u with _|u
 ·cases F
 refine X0 5 Z (qk Z F ?_ ?_)<;>intro F
 ·refine X0 13 Z ?_;obtain⟨B,_,F,g,_,_,_,_,i,k,o,f⟩:=s1.ix F;obtain⟨_,_,_,_,_,_,rfl,s2,z,A⟩:=qcf o;refine zxe i k g Z (zc 0 (f.below h.below) Z (zcB h F (qmA (qiL B (h.oldS s2) (h.oldS z) (h.oldS A)) (h.old c)) Z fun _ _ h F=>qa2 (qk Z F ?_ ?_)))<;>intro F
  ·refine X0 5 Z ?_;obtain rfl:=qc F;replace F:=b;exact ri h F Z
  exact X0 6 Z (rK ⟨_,F,rfl,h⟩ Z)
 refine qv Z ?_;obtain rfl:=qc F;replace F:=b;exact X0 4 Z (ri h F Z)
def qa8 (n:Nat)(s:(List qO))(a:Bool):Option Bool :=(qaK n s a).bind fun r1 =>V (decide (r1 ≥ 0))
theorem qeB {s:(List qO)}{a:Bool}(c:Ro w s cs1){f:Option Addr}(b:Ro w (V a) [.pointer f]){r:Bool}(F:qa8 n s a=V r):RetV prog 306 [GoT.v (List qO) cs1,.func (.func 307) #[] #[.pointer f]] w r:=by
 obtain⟨_,_,rfl,s1⟩:=c;obtain⟨_,g,_,rfl,-,d,_⟩:=PtR.get b Z;obtain rfl:=d;exact zV 9 func306 Z fun h=>X0 8 Z (zcI h F (qfh ⟨_,_,rfl,(h.oldS s1)⟩ (h.old b)) Z fun _ _ h F=>X0 3 Z (rb h F Z))
def qfC (n:Nat)(list:(List qO))(a:Bool):Option Bool :=bif ((list.length:Int)==2) then(qa8 n list a).bind fun r1 =>V (!r1) else V false
theorem qh6 {list:(List qO)}{b:Bool}(a:Ro w list cs1){r:Bool}(F:qfC n list b=V r):RetV prog 297 [GoT.v (List qO) cs1,.bool b] w r:=by
 obtain⟨_,_,rfl,s1⟩:=a;refine zV 14 func297 Z fun h=>zSR (qD h Z Z fun _ _ h=>X0 8 Z (qg (t:=8) F Z ?_ ?_))<;>intro F
 ·exact X0 5 Z (zcB h F (qeB ⟨_,_,rfl,(h.oldS s1)⟩ (qh3 (x:=b) 0 h Z Z)) Z fun _ _ h F=>X0 5 Z (rb h F Z))
 exact X0 7 Z (rb h F Z)
def qir (_:Nat)(p:qaq):Option Bool :=V p.Bq
theorem qlS {p:qaq}(a:Ro w p cs1){r:Bool}(F:qir n p=V r):RetV prog 311 [GoT.v qaq cs1] w r:=by
 obtain rfl:=qeV a;exact zV 5 func311 Z fun h=>zSR (qD h Z Z fun _ _ h=>X1 8 0 h Z (rb h F Z))
def qaa (s:(List qaq)):Nat→Int→Option (Flow Int Int)| 0,_=>U| n+1,a =>bif decide (a<(s.length:Int)) then(idx s a).bind fun b =>(qir n b).bind fun r1 =>bif r1 then V (.ret a) else qaa s n (W64 (a+1)) else V (.nxt a)
def qbv (n:Nat)(s:(List qaq)):Option Int :=(qaa s n 0).bind fun o=>match o with| .ret r=>V r| .nxt _ =>V (-1)
theorem qfq {s:(List qaq)}(b:Ro w s cs1){r:Int}(F:qbv n s=V r):RetV prog 310 [GoT.v (List qaq) cs1,.func (.func 311) #[] #[]] w r:=by
 obtain⟨p1,o,rfl,s1⟩:=b;refine zV 19 func310 Z fun h=>X0 11 Z ?_;obtain⟨p,F,a⟩:=qd F;refine qm (rL (fun m e w'=>∃(k:Int),qaa s m k=V p∧e=[(0,.slice p1 s.length o),(1,.func (.func 311) #[] #[]),(7,.int .i64 (s.length:Int)),(8,.int .i64 k)]∧SH w w' []) n ⟨_,F,rfl,h⟩ Z ?_);rintro l _ _ ⟨k,F,rfl,h⟩;rcases l with _|l
 ·cases F
 refine X0 5 Z (qk Z F ?_ ?_)<;>intro F
 ·refine X0 13 Z ?_;obtain⟨t,_,F,d,_,_,_,_,f,g,i,c⟩:=s1.ix F;obtain rfl:=qeV i;refine zxe f g d Z (zc 0 (c.below h.below) Z (zcB h F (qlS (qkF t)) Z fun _ _ h F=>qa2 (qk Z F ?_ ?_)))<;>intro F
  ·refine X0 5 Z ?_;obtain rfl:=qc F;replace F:=a;exact ri h F Z
  exact X0 6 Z (rK ⟨_,F,rfl,h⟩ Z)
 refine qv Z ?_;obtain rfl:=qc F;replace F:=a;exact X0 4 Z (ri h F Z)
def qhB (n:Nat)(c:qE):Option Int :=(qbv n c.Be).bind fun r1 =>V r1
theorem qmN {c:qE}(a:Ro w c cs1){r:Int}(F:qhB n c=V r):RetV prog 298 [GoT.v qE cs1] w r:=by
 obtain⟨_,_,_,_,_,_,rfl,s1,_,_⟩:=qai a;exact zV 6 func298 Z fun h=>zSR (qD h Z Z fun _ _ h=>X1 6 0 h Z (zcI h F (qfq ⟨_,_,rfl,(h.oldS s1)⟩) Z fun _ _ h F=>X0 2 Z (ri h F Z)))
def qgw (n:Nat)(c:qE)(pin:Int):Option Bool :=(qeo n c).bind fun r1 =>(qaV n pin 0 (W64 (r1-1))).bind fun a =>V a
theorem qiT {c:qE}{pin:Int}(a:Ro w c cs1){r:Bool}(F:qgw n c pin=V r):RetV prog 299 [GoT.v qE cs1,.int .i64 pin] w r:=by
 obtain⟨_,_,_,_,_,_,rfl,_,_,_⟩:=qai a;exact zV 10 func299 Z fun h=>zSR (qD h Z Z fun _ _ h=>X1 6 0 h Z (zcI h F (qhe (h.old a)) Z fun _ _ h F=>zp1 Z (zcB h F qaH Z fun _ _ h F=>X0 2 Z (rb h F Z))))
def qhz (n:Nat)(a_0:qE)(a_1:qal):Option Bool :=(qjk n a_1.Bc).bind fun r1 =>bif r1 then(bif (a_1.Bn==0) then bif ((a_1.Bd.length:Int)==0) then(qfC n a_1.Bs false).bind fun b =>bif b then(qhB n a_0).bind fun c =>bif (a_1.Bk==c) then bif decide (a_1.Bk ≥ 0) then(qgw n a_0 a_1.To).bind fun d =>bif d then V (a_1.To != a_1.Bk) else V false else V false else V false else V false else V false else V false).bind fun b1 =>V b1 else((qfC n a_1.Bs true).bind fun g =>bif (!g) then V true else(qfC n a_1.Bd true).bind fun h =>bif (!h) then V true else(qeo n a_0).bind fun i =>bif (a_1.To != i) then V true else(qgw n a_0 a_1.Bk).bind fun k =>V (!k)).bind fun b2 =>bif b2 then V false else bif (a_1.Bc==1) then(idx a_0.Be a_1.Bk).bind fun l =>bif (!l.Bq) then(qaV n a_1.Bn 1 3).bind fun f =>V f else V false else(bif (a_1.Bc==2) then V (a_1.Bc==2) else V (a_1.Bc==3)).bind fun a =>bif a then(idx a_0.Be a_1.Bk).bind fun m =>bif m.Bq then V (a_1.Bn==0) else V false else V false
theorem qmH {a_0:qE}{a_1:qal}(b:Ro w a_0 cs1)(x:Ro w a_1 cs2){r:Bool}(F:qhz n a_0 a_1=V r):RetV prog 284 [GoT.v qE cs1,GoT.v qal cs2] w r:=by
 obtain⟨p1,Q,X,R,Y,S,rfl,s1,_,_⟩:=qai b;obtain⟨p4,T,p5,W,rfl,s4,s5⟩:=qaw x;refine zV 103 func284 Z fun h=>zSR (qD h Z Z fun _ c h=>qD h Z Z fun _ d h=>X1 7 0 h Z (zcB h F qoh Z fun _ _ h F=>qa2 (qk Z F ?_ ?_)))<;>intro F
 ·refine qck ?_;obtain⟨p,i,_,F,a⟩:=bindE F;refine qaz (fun e w'=>∃(b1:Bool),p b1=V r∧e=[(4,.bool b1)]∧SH w w' []) ?_ ?_
  ·refine rD (Y1 2 0 h Z ?_);refine zd2 Z (qaN (t:=11) F Z ?_ ?_)<;>intro F
   ·refine Y1 4 0 h Z ?_;refine Y0 6 Z (qaN (t:=17) F Z ?_ ?_)<;>intro F
    ·refine Y1 4 0 h Z ?_;refine Y0 1 Z ?_;obtain⟨r2,J,F⟩:=qd F;refine qb5 r2 (vsB _) (cB 297 Z) (fun _ hb=>qh6 ⟨_,_,rfl,((h.ext hb).oldS s4)⟩ J) Z Z Z Z (zd2 Z (qaN (t:=22) F Z ?_ ?_))<;>intro F
     ·refine Y1 4 0 h Z ?_;refine Y1 2 1 h Z ?_;refine Y0 1 Z ?_;obtain⟨r3,K,F⟩:=qd F;refine qb5 r3 (vsI _) (cB 298 Z) (fun _ hb=>qmN ((h.ext hb).old b) K) Z Z Z Z (Y0 4 Z (qaN (t:=29) F Z ?_ ?_))<;>intro F
      ·refine Y1 4 0 h Z ?_;refine Y0 4 Z (qaN (t:=34) F Z ?_ ?_)<;>intro F
       ·refine Y1 2 1 h Z ?_;refine Y1 4 0 h Z ?_;refine Y0 1 Z ?_;obtain⟨r4,L,F⟩:=qd F;refine qb5 r4 (vsB _) (cB 299 Z) (fun _ hb=>qiT ((h.ext hb).old b) L) Z Z Z Z (zd2 Z (qaN (t:=40) F Z ?_ ?_))<;>intro F
        ·refine Y1 4 0 h Z ?_;refine Y1 4 0 h Z ?_;refine Y0 4 Z (dN h fun _ h=>?_);replace h:=h.pick [] Z;obtain rfl:=qc F;exact rG ⟨_,a,rfl,h⟩ Z
        refine Y0 7 Z (dN h fun _ h=>?_);replace h:=h.pick [] Z;obtain rfl:=qc F;exact rG ⟨_,a,rfl,h⟩ Z
       refine Y0 13 Z (dN h fun _ h=>?_);replace h:=h.pick [] Z;obtain rfl:=qc F;exact rG ⟨_,a,rfl,h⟩ Z
      refine Y0 18 Z (dN h fun _ h=>?_);replace h:=h.pick [] Z;obtain rfl:=qc F;exact rG ⟨_,a,rfl,h⟩ Z
     refine Y0 25 Z (dN h fun _ h=>?_);replace h:=h.pick [] Z;obtain rfl:=qc F;exact rG ⟨_,a,rfl,h⟩ Z
    refine Y0 30 Z (dN h fun _ h=>?_);replace h:=h.pick [] Z;obtain rfl:=qc F;exact rG ⟨_,a,rfl,h⟩ Z
   refine Y0 36 Z (dN h fun _ h=>?_);replace h:=h.pick [] Z;obtain rfl:=qc F;exact rG ⟨_,a,rfl,h⟩ Z
  rintro _ _ ⟨b1,F,rfl,h⟩;subst i;exact rb h F Z
 refine zKSS ?_;obtain⟨u,l,_,F,f⟩:=bindE F;refine qaz (fun e w'=>∃(b2:Bool),u b2=V r∧e=[(2,.pointer (V ⟨c,0,U⟩)),(3,.pointer (V ⟨d,0,U⟩)),(70,.bool b2)]∧SH w w' [Ch.box d (qdV a_1 p4 p5 T W) 187,Ch.box c (qI a_0 p1 X Y Q R S) 184]) ?_ ?_
 ·refine rD (Y1 2 0 h Z ?_);obtain⟨r6,O,F⟩:=qd F;refine qb5 r6 (vsB _) (cB 297 Z) (fun _ hb=>qh6 ⟨_,_,rfl,((h.ext hb).oldS s4)⟩ O) Z Z Z Z (zd2 Z (qaN (t:=51) F Z ?_ ?_))<;>intro F
  ·refine Y0 19 Z (dN h fun _ h=>?_);obtain rfl:=qc F;exact rG ⟨_,f,rfl,h⟩ Z
  refine Y1 4 0 h Z ?_;refine Y0 1 Z ?_;obtain⟨r7,P,F⟩:=qd F;refine qb5 r7 (vsB _) (cB 297 Z) (fun _ hb=>qh6 ⟨_,_,rfl,((h.ext hb).oldS s5)⟩ P) Z Z Z Z (Y0 4 Z (qaN (t:=57) F Z ?_ ?_))<;>intro F
  ·refine Y0 13 Z (dN h fun _ h=>?_);obtain rfl:=qc F;exact rG ⟨_,f,rfl,h⟩ Z
  refine Y1 4 0 h Z ?_;refine Y1 2 1 h Z ?_;refine Y0 1 Z ?_;obtain⟨r8,m,F⟩:=qd F;refine qb5 r8 (vsI _) (cB 142 Z) (fun _ hb=>qhe ((h.ext hb).old b) m) Z Z Z Z (Y0 4 Z (qaN (t:=64) F Z ?_ ?_))<;>intro F
  ·refine Y0 6 Z (dN h fun _ h=>?_);obtain rfl:=qc F;exact rG ⟨_,f,rfl,h⟩ Z
  refine Y1 2 1 h Z ?_;refine Y1 4 0 h Z ?_;refine Y0 1 Z ?_;obtain⟨r9,o,F⟩:=qd F;refine qb5 r9 (vsB _) (cB 299 Z) (fun _ hb=>qiT ((h.ext hb).old b) o) Z Z Z Z (Y0 3 Z (dN h fun _ h=>?_));obtain rfl:=qc F;exact rG ⟨_,f,rfl,h⟩ Z
 rintro _ _ ⟨b2,F,rfl,h⟩;subst l;refine qk Z F ?_ ?_<;>intro F
 ·exact X0 4 Z (rb h F Z)
 refine X1 13 0 h Z (qk Z F ?_ ?_)<;>intro F
 ·refine X2 6 1 0 h Z ?_;obtain⟨_,_,F,A,_,_,_,_,C,H,M,y⟩:=s1.ix F;obtain rfl:=qeV M;refine zxe C H A Z (zp1 Z (zc 3 (y.below h.below) Z (zp2 Z (qg (t:=83) F Z ?_ ?_))))<;>intro F
  ·exact X1 5 0 h Z (zcB h F qaH Z fun _ _ h F=>X0 3 Z (rb h F Z))
  exact X0 6 Z (rb h F Z)
 refine X0 6 Z ?_;obtain⟨s,k,_,F,g⟩:=bindE F;refine qaz (fun e w'=>∃(v:Bool),s v=V r∧e=[(2,.pointer (V ⟨c,0,U⟩)),(3,.pointer (V ⟨d,0,U⟩)),(88,.bool v)]∧SH w w' [Ch.box d (qdV a_1 p4 p5 T W) 187,Ch.box c (qI a_0 p1 X Y Q R S) 184]) ?_ ?_
 ·refine qk Z F ?_ ?_<;>intro F
  ·refine qeQ ?_;obtain rfl:=qc F;exact rG ⟨_,g,rfl,h⟩ Z
  refine X0 4 Z ?_;obtain rfl:=qc F;exact rG ⟨_,g,rfl,h⟩ Z
 rintro _ _ ⟨v,F,rfl,h⟩;subst k;refine qk Z F ?_ ?_<;>intro F
 ·refine X2 6 1 0 h Z ?_;obtain⟨_,_,F,B,_,_,_,_,D,I,N,z⟩:=s1.ix F;obtain rfl:=qeV N;refine zxe D I B Z (zp1 Z (zc 3 (z.below h.below) Z (zp1 Z (qg (t:=98) F Z ?_ ?_))))<;>intro F
  ·exact X1 9 0 h Z (rb h F Z)
  exact X0 6 Z (rb h F Z)
 exact X0 6 Z (rb h F Z)
def qfu (_:Nat)(b:qal)(a:qal):Option Bool :=bif (b.Bc==a.Bc) then bif (b.Bk==a.Bk) then V (b.To==a.To) else V false else V false
theorem qli {k:qal}{g:qal}(b:Ro w k cs1){f:Option Addr}(c:Ro w (V g) [.pointer f]){r:Bool}(F:qfu n k g=V r):RetV prog 286 [GoT.v qal cs1,.pointer f] w r:=by
 obtain⟨_,_,_,_,rfl,_,_⟩:=qaw b;obtain⟨_,i,_,rfl,-,d,a⟩:=PtR.get c Z;obtain⟨_,_,_,_,rfl,_,_⟩:=qaw d;refine zV 23 func286 Z fun h=>zSR (qD h Z Z fun _ _ h=>X1 7 0 h Z (zc 0 (a.below h.below) Z (zp2 Z (qg (t:=9) F Z ?_ ?_))))<;>intro F
 ·refine X1 7 0 h Z (zc 1 (a.below h.below) Z (X0 4 Z (qg (t:=16) F Z ?_ ?_)))<;>intro F
  ·exact X1 7 0 h Z (zc 2 (a.below h.below) Z (X0 5 Z (rb h F Z)))
  exact X0 8 Z (rb h F Z)
 exact X0 15 Z (rb h F Z)
def qV (s:(List qal))(a:qal):Nat→Int→Option (Flow Int Int)| 0,_=>U| n+1,b =>bif decide (b<(s.length:Int)) then(idx s b).bind fun c =>(qfu n c a).bind fun r1 =>bif r1 then V (.ret b) else qV s a n (W64 (b+1)) else V (.nxt b)
def qbd (n:Nat)(s:(List qal))(a:qal):Option Int :=(qV s a n 0).bind fun o=>match o with| .ret r=>V r| .nxt _ =>V (-1)
theorem qeR {s:(List qal)}{a:qal}(d:Ro w s cs1){v:Option Addr}(c:Ro w (V a) [.pointer v]){r:Int}(F:qbd n s a=V r):RetV prog 134 [GoT.v (List qal) cs1,.func (.func 286) #[] #[.pointer v]] w r:=by
 obtain⟨p1,x,rfl,s1⟩:=d;obtain⟨b1,t,_,rfl,-,l,_⟩:=PtR.get c Z;obtain⟨_,_,_,_,rfl,_,_⟩:=qaw l;refine zV 19 func134 Z fun h=>X0 11 Z ?_;obtain⟨y,F,b⟩:=qd F;refine qm (rL (fun m e w'=>∃(p:Int),qV s a m p=V y∧e=[(0,.slice p1 s.length x),(1,.func (.func 286) #[] #[.pointer (V ⟨b1,t,U⟩)]),(7,.int .i64 (s.length:Int)),(8,.int .i64 p)]∧SH w w' []) n ⟨_,F,rfl,h⟩ Z ?_);rintro u _ _ ⟨p,F,rfl,h⟩;rcases u with _|u
 ·cases F
 refine X0 5 Z (qk Z F ?_ ?_)<;>intro F
 ·refine X0 13 Z ?_;obtain⟨B,_,F,g,_,_,_,_,i,k,o,f⟩:=s1.ix F;obtain⟨_,_,_,_,rfl,z,A⟩:=qaw o;refine zxe i k g Z (zc 0 (f.below h.below) Z (zcB h F (qli (qiv B (h.oldS z) (h.oldS A)) (h.old c)) Z fun _ _ h F=>qa2 (qk Z F ?_ ?_)))<;>intro F
  ·refine X0 5 Z ?_;obtain rfl:=qc F;replace F:=b;exact ri h F Z
  exact X0 6 Z (rK ⟨_,F,rfl,h⟩ Z)
 refine qv Z ?_;obtain rfl:=qc F;replace F:=b;exact X0 4 Z (ri h F Z)
def qaC (n:Nat)(s:(List qal))(a:qal):Option Bool :=(qbd n s a).bind fun r1 =>V (decide (r1 ≥ 0))
theorem qep {s:(List qal)}{a:qal}(c:Ro w s cs1){f:Option Addr}(b:Ro w (V a) [.pointer f]){r:Bool}(F:qaC n s a=V r):RetV prog 285 [GoT.v (List qal) cs1,.func (.func 286) #[] #[.pointer f]] w r:=by
 obtain⟨_,_,rfl,s1⟩:=c;obtain⟨_,g,_,rfl,-,d,_⟩:=PtR.get b Z;obtain⟨_,_,_,_,rfl,_,_⟩:=qaw d;exact zV 9 func285 Z fun h=>X0 8 Z (zcI h F (qeR ⟨_,_,rfl,(h.oldS s1)⟩ (h.old b)) Z fun _ _ h F=>X0 3 Z (rb h F Z))
def qcF (c:qE):Nat→Int→Option (Flow Bool Int)| 0,_=>U| n+1,a =>bif decide (a<(c.Au.length:Int)) then(idx c.Au a).bind fun b =>(qhz n c b).bind fun r1 =>bif (!r1) then V (.ret false) else(subS c.Au 0 a).bind fun f =>(qaC n f b).bind fun d =>bif d then V (.ret false) else qcF c n (W64 (a+1)) else V (.nxt a)
def qgq (n:Nat)(c:qE):Option Bool :=(qcF c n 0).bind fun o=>match o with| .ret r=>V r| .nxt _ =>V (decide ((c.Au.length:Int)≤8))
theorem ql8 {c:qE}(d:Ro w c cs1){r:Bool}(F:qgq n c=V r):RetV prog 272 [GoT.v qE cs1] w r:=by
 obtain⟨p1,I,B,z,L,J,rfl,_,s2,_⟩:=qai d;refine zV 30 func272 Z fun h=>zSR (qD h Z Z fun _ b h=>X1 10 0 h Z ?_);obtain⟨K,F,a⟩:=qd F;refine qm (rL (fun m e w'=>∃(v:Int),qcF c m v=V K∧e=[(1,.pointer (V ⟨b,0,U⟩)),(6,.slice B c.Au.length z),(7,.int .i64 (c.Au.length:Int)),(8,.int .i64 v)]∧SH w w' [Ch.box b (qI c p1 B L I z J) 184]) n ⟨_,F,rfl,h⟩ Z ?_);rintro A _ _ ⟨v,F,rfl,h⟩;rcases A with _|A
 ·cases F
 refine X0 5 Z (qk Z F ?_ ?_)<;>intro F
 ·refine X0 6 Z ?_;obtain⟨y,_,F,l,_,_,_,_,p,s,u,k⟩:=s2.ix F;obtain⟨_,_,_,_,rfl,C,D⟩:=qaw u;refine zxe p s l Z (zc 0 (k.below h.below) Z (qh qa h Z Z Z fun _ _ h=>zp1 Z (zs 0 h Z fun _ h=>X2 5 1 0 h Z (zcB h F (qmH (h.old d) (qiv y (h.oldS C) (h.oldS D))) Z fun _ _ h F=>zp2 Z (qg (t:=17) F Z ?_ ?_)))))<;>intro F
  ·refine X0 8 Z (qch Z Z (X0 4 Z ?_));obtain rfl:=qc F;replace F:=a;exact rb h F Z
  refine X1 7 1 h Z ?_;obtain⟨_,i,F⟩:=qd F;obtain⟨_,_,g,f,o,H⟩:=qr8 (h.oldS s2) i;refine r_v (qpf qa Z Z Z (qr0 H Z) g f o Z Z Z Z) Z ?_;have M:=qrV s2 i g f;refine X0 3 Z (zcB h F (qep ⟨_,_,rfl,(h.oldS M)⟩ (qh3 (x:=y) 0 h Z (qiv y (h.oldS C) (h.oldS D)))) Z fun _ _ h F=>X0 2 Z (qk Z F ?_ ?_))<;>intro F
  ·refine X0 4 Z ?_;obtain rfl:=qc F;replace F:=a;exact rb h F Z
  refine X0 6 Z ?_;replace h:=h.pick [1] Z;exact rK ⟨_,F,rfl,h⟩ Z
 refine qv Z ?_;obtain rfl:=qc F;replace F:=a;exact X1 8 0 h Z (rb h F Z)
def qja (_:Nat)(a:qal)(b:Int):Option Bool :=V (a.Bc==b)
theorem qmP {a:qal}{i:Int}(b:Ro w a cs1){g:Option Addr}(c:Ro w (V i) [.pointer g]){r:Bool}(F:qja n a i=V r):RetV prog 300 [GoT.v qal cs1,.pointer g] w r:=by
 obtain⟨_,_,_,_,rfl,_,_⟩:=qaw b;obtain⟨_,k,_,rfl,-,f,d⟩:=PtR.get c Z;obtain rfl:=f;exact zV 8 func300 Z fun h=>zSR (qD h Z Z fun _ _ h=>X1 6 0 h Z (zc 0 (d.below h.below) Z (X0 3 Z (rb h F Z))))
def qab (s:(List qal))(a:Int):Nat→Int→Option (Flow Int Int)| 0,_=>U| n+1,b =>bif decide (b<(s.length:Int)) then(idx s b).bind fun c =>(qja n c a).bind fun r1 =>bif r1 then V (.ret b) else qab s a n (W64 (b+1)) else V (.nxt b)
def qbH (n:Nat)(s:(List qal))(a:Int):Option Int :=(qab s a n 0).bind fun o=>match o with| .ret r=>V r| .nxt _ =>V (-1)
theorem qfD {s:(List qal)}{a:Int}(d:Ro w s cs1){v:Option Addr}(c:Ro w (V a) [.pointer v]){r:Int}(F:qbH n s a=V r):RetV prog 134 [GoT.v (List qal) cs1,.func (.func 300) #[] #[.pointer v]] w r:=by
 obtain⟨p1,x,rfl,s1⟩:=d;obtain⟨b1,t,_,rfl,-,l,_⟩:=PtR.get c Z;obtain rfl:=l;refine zV 19 func134 Z fun h=>X0 11 Z ?_;obtain⟨y,F,b⟩:=qd F;refine qm (rL (fun m e w'=>∃(p:Int),qab s a m p=V y∧e=[(0,.slice p1 s.length x),(1,.func (.func 300) #[] #[.pointer (V ⟨b1,t,U⟩)]),(7,.int .i64 (s.length:Int)),(8,.int .i64 p)]∧SH w w' []) n ⟨_,F,rfl,h⟩ Z ?_);rintro u _ _ ⟨p,F,rfl,h⟩;rcases u with _|u
 ·cases F
 refine X0 5 Z (qk Z F ?_ ?_)<;>intro F
 ·refine X0 13 Z ?_;obtain⟨A,_,F,g,_,_,_,_,i,k,o,f⟩:=s1.ix F;obtain⟨_,_,_,_,rfl,s2,z⟩:=qaw o;refine zxe i k g Z (zc 0 (f.below h.below) Z (zcB h F (qmP (qiv A (h.oldS s2) (h.oldS z)) (h.old c)) Z fun _ _ h F=>qa2 (qk Z F ?_ ?_)))<;>intro F
  ·refine X0 5 Z ?_;obtain rfl:=qc F;replace F:=b;exact ri h F Z
  exact X0 6 Z (rK ⟨_,F,rfl,h⟩ Z)
 refine qv Z ?_;obtain rfl:=qc F;replace F:=b;exact X0 4 Z (ri h F Z)
def qbq (n:Nat)(s:(List qal))(a:Int):Option Bool :=(qbH n s a).bind fun r1 =>V (decide (r1 ≥ 0))
theorem qfb {s:(List qal)}{a:Int}(c:Ro w s cs1){f:Option Addr}(b:Ro w (V a) [.pointer f]){r:Bool}(F:qbq n s a=V r):RetV prog 285 [GoT.v (List qal) cs1,.func (.func 300) #[] #[.pointer f]] w r:=by
 obtain⟨_,_,rfl,s1⟩:=c;obtain⟨_,g,_,rfl,-,d,_⟩:=PtR.get b Z;obtain rfl:=d;exact zV 9 func285 Z fun h=>X0 8 Z (zcI h F (qfD ⟨_,_,rfl,(h.oldS s1)⟩ (h.old b)) Z fun _ _ h F=>X0 3 Z (rb h F Z))
def qdy (n:Nat)(c:qE)(kind:Int):Option Bool :=(qbq n c.Au kind).bind fun r1 =>V r1
theorem qey {c:qE}{kind:Int}(a:Ro w c cs1){r:Bool}(F:qdy n c kind=V r):RetV prog 287 [GoT.v qE cs1,.int .i64 kind] w r:=by
 obtain⟨_,_,_,_,_,_,rfl,_,s2,_⟩:=qai a;exact zV 9 func287 Z fun h=>zSR (qD h Z Z fun _ _ h=>qD h Z Z fun _ _ h=>X1 7 1 h Z (zcB h F (qfb ⟨_,_,rfl,(h.oldS s2)⟩ (qh3 (x:=kind) 0 h Z Z)) Z fun _ _ h F=>X0 2 Z (rb h F Z)))
def qbf (a_0:qE):Nat→Int→Int→Option (Int×Int)| 0,_,_=>U| n+1,b,a =>bif decide (a<(a_0.Be.length:Int)) then(idx a_0.Be a).bind fun c =>bif c.Bq then qbf a_0 n (W64 (b+1)) (W64 (a+1)) else qbf a_0 n b (W64 (a+1)) else V (b,a)
def qfR (n:Nat)(a_0:qE):Option Bool :=(qbf a_0 n 0 0).bind fun o=>match o with| (a,_) =>bif (a_0.Bc==1) then bif (a==0) then(qeo n a_0).bind fun r1 =>(shlS 1 r1).bind fun k =>bif ((a_0.Br.length:Int)==k) then(qb0 n a_0.Br 0 1).bind fun b =>V b else V false else V false else bif (a_0.Bc==2) then bif (a==1) then bif ((a_0.Br.length:Int)==0) then(qdy n a_0 1).bind fun c =>bif (!c) then(qdy n a_0 2).bind fun d =>(qdy n a_0 3).bind fun f =>V (!(d==f)) else V false else V false else V false else bif (a_0.Bc==3) then bif (a==1) then bif ((a_0.Br.length:Int)==0) then(qdy n a_0 1).bind fun g =>bif g then(qdy n a_0 2).bind fun h =>bif h then(qdy n a_0 3).bind fun i =>V (!i) else V false else V false else V false else V false else V false
theorem qlx {a_0:qE}(a:Ro w a_0 cs1){r:Bool}(F:qfR n a_0=V r):RetV prog 273 [GoT.v qE cs1] w r:=by
 obtain⟨p1,z,I,C,J,D,rfl,s1,_,O⟩:=qai a;refine zV 83 func273 Z fun h=>zSR (qD h Z Z fun _ c h=>X1 14 0 h Z ?_);obtain⟨H,F,d⟩:=qd F;refine qm (rL (fun m e w'=>∃(x:Int) (y:Int),qbf a_0 m x y=V H∧e=[(1,.pointer (V ⟨c,0,U⟩)),(3,.int .i64 x),(7,.slice p1 a_0.Be.length z),(8,.int .i64 (a_0.Be.length:Int)),(9,.int .i64 y)]∧SH w w' [Ch.box c (qI a_0 p1 I J z C D) 184]) n ⟨_,_,F,rfl,h⟩ Z ?_);rintro A _ _ ⟨x,y,F,rfl,h⟩;rcases A with _|A
 ·cases F
 refine X0 5 Z (qk Z F ?_ ?_)<;>intro F
 ·refine zKSBSR ?_;obtain⟨_,_,F,g,_,_,_,_,i,k,l,f⟩:=s1.ix F;obtain rfl:=qeV l;refine zxe i k g Z (zc 0 (f.below h.below) Z (qh qa h Z Z Z fun _ _ h=>zs 0 h Z fun _ h=>X1 6 0 h Z (qk Z F ?_ ?_)))<;>intro F
  ·refine X0 10 Z ?_;replace h:=h.pick [1] Z;exact rK ⟨_,_,F,rfl,h⟩ Z
  refine X0 6 Z ?_;replace h:=h.pick [1] Z;exact rK ⟨_,_,F,rfl,h⟩ Z
 refine qv Z ?_;obtain rfl:=qc F;replace F:=d;refine X1 12 0 h Z (qk Z F ?_ ?_)<;>intro F
 ·refine qck (rD (zd3 Z (qaN (t:=24) F Z ?_ ?_)))<;>intro F
  ·refine Y1 4 0 h Z ?_;refine Y1 4 0 h Z ?_;refine Y0 1 Z ?_;obtain⟨r1,o,F⟩:=qd F;refine qb5 r1 (vsI _) (cB 142 Z) (fun _ P=>qhe ((h.ext P).old a) o) Z Z Z Z (Y0 1 Z ?_);obtain⟨_,b,F⟩:=qd F;obtain⟨B,b⟩:=qnG b;refine d_v (fun _ P=>qtW B Z Z) Z ?_;rw[b];refine Y0 4 Z (qaN (t:=33) F Z ?_ ?_)<;>intro F
   ·refine Y1 4 0 h Z ?_;refine Y0 1 Z ?_;obtain⟨K,p,F⟩:=qd F;exact qb5 K (vsB _) (cB 78 Z) (fun _ P=>qce ⟨_,_,rfl,((h.ext P).oldS O)⟩ p) Z Z Z Z (zd2 Z (dN h fun _ h=>rb h F Z))
   exact Y0 5 Z (dN h fun _ h=>rb h F Z)
  exact Y0 14 Z (dN h fun _ h=>rb h F Z)
 refine X0 5 Z (qk Z F ?_ ?_)<;>intro F
 ·refine qck (rD (zd3 Z (qaN (t:=42) F Z ?_ ?_)))<;>intro F
  ·refine Y1 4 0 h Z ?_;refine Y0 6 Z (qaN (t:=48) F Z ?_ ?_)<;>intro F
   ·refine Y1 2 0 h Z ?_;refine Y0 1 Z ?_;obtain⟨L,s,F⟩:=qd F;refine qb5 L (vsB _) (cB 287 Z) (fun _ P=>qey ((h.ext P).old a) s) Z Z Z Z (Y0 4 Z (qaN (t:=53) F Z ?_ ?_))<;>intro F
    ·refine Y1 2 0 h Z ?_;refine Y0 1 Z ?_;obtain⟨M,u,F⟩:=qd F;refine qb5 M (vsB _) (cB 287 Z) (fun _ P=>qey ((h.ext P).old a) u) Z Z Z Z (Y1 2 0 h Z ?_);refine Y0 1 Z ?_;obtain⟨N,v,F⟩:=qd F;exact qb5 N (vsB _) (cB 287 Z) (fun _ P=>qey ((h.ext P).old a) v) Z Z Z Z (Y0 4 Z (dN h fun _ h=>rb h F Z))
    exact Y0 7 Z (dN h fun _ h=>rb h F Z)
   exact Y0 12 Z (dN h fun _ h=>rb h F Z)
  exact Y0 18 Z (dN h fun _ h=>rb h F Z)
 refine X0 5 Z (qk Z F ?_ ?_)<;>intro F
 ·refine X0 5 Z (qg (t:=64) F Z ?_ ?_)<;>intro F
  ·refine X1 10 0 h Z (qg (t:=70) F Z ?_ ?_)<;>intro F
   ·refine X1 3 0 h Z (zcB h F (qey (h.old a)) Z fun _ _ h F=>zp2 Z (qg (t:=74) F Z ?_ ?_))<;>intro F
    ·refine X1 3 0 h Z (zcB h F (qey (h.old a)) Z fun _ _ h F=>zp2 Z (qg (t:=78) F Z ?_ ?_))<;>intro F
     ·exact X1 3 0 h Z (zcB h F (qey (h.old a)) Z fun _ _ h F=>X0 5 Z (rb h F Z))
     exact X0 6 Z (rb h F Z)
    exact X0 10 Z (rb h F Z)
   exact X0 14 Z (rb h F Z)
  exact X0 20 Z (rb h F Z)
 exact X0 6 Z (rb h F Z)
def qj6 (n:Nat)(c:qE):Option Bool :=(qhS n c.Bh).bind fun r1 =>bif r1 then(qjh n c.Be).bind fun a =>bif a then(qgq n c).bind fun b =>bif b then(qaV n c.Ca 0 100000).bind fun d =>bif d then(qaV n c.Bw 0 100000).bind fun f =>bif f then(qfR n c).bind fun g =>V g else V false else V false else V false else V false else V false
theorem qoI {c:qE}(a:Ro w c cs1){r:Bool}(F:qj6 n c=V r):RetV prog 242 [GoT.v qE cs1] w r:=by
 obtain⟨_,_,_,_,_,_,rfl,s1,_,_⟩:=qai a;refine zV 29 func242 Z fun h=>zSR (qD h Z Z fun _ _ h=>X1 6 0 h Z (zcB h F qjG Z fun _ _ h F=>zp1 Z (qg (t:=6) F Z ?_ ?_)))<;>intro F
 ·refine X1 5 0 h Z (zcB h F (qoc ⟨_,_,rfl,(h.oldS s1)⟩) Z fun _ _ h F=>zp2 Z (qg (t:=11) F Z ?_ ?_))<;>intro F
  ·refine X1 3 0 h Z (zcB h F (ql8 (h.old a)) Z fun _ _ h F=>zp2 Z (qg (t:=15) F Z ?_ ?_))<;>intro F
   ·refine X1 5 0 h Z (zcB h F qaH Z fun _ _ h F=>zp2 Z (qg (t:=20) F Z ?_ ?_))<;>intro F
    ·refine X1 5 0 h Z (zcB h F qaH Z fun _ _ h F=>zp2 Z (qg (t:=25) F Z ?_ ?_))<;>intro F
     ·exact X1 3 0 h Z (zcB h F (qlx (h.old a)) Z fun _ _ h F=>X0 3 Z (rb h F Z))
     exact X0 5 Z (rb h F Z)
    exact X0 10 Z (rb h F Z)
   exact X0 15 Z (rb h F Z)
  exact X0 19 Z (rb h F Z)
 exact X0 24 Z (rb h F Z)
def qcU (l:qu):Nat→(List ByteArray)→Int→Option (Flow Bool ((List ByteArray)×Int))| 0,_,_=>U| n+1,b,a =>bif decide (a<(l.Aq.length:Int)) then(idx l.Aq a).bind fun c =>(qj6 n c).bind fun r1 =>bif (!r1) then V (.ret false) else(appS b ([c.Bh]:List ByteArray)).bind fun d =>qcU l n d (W64 (a+1)) else V (.nxt (b,a))
def qh2 (n:Nat)(l:qu):Option Bool :=(qcU l n ([]:List ByteArray) 0).bind fun o=>match o with| .ret r=>V r| .nxt (b,_) =>bif decide ((l.Aq.length:Int)≤8) then(qeh n b).bind fun a =>V a else V false
theorem qni {l:qu}(f:Ro w l cs1){r:Bool}(F:qh2 n l=V r):RetV prog 190 [GoT.v qu cs1] w r:=by
 obtain⟨p1,y,rfl,s1⟩:=qcL f;refine zV 30 func190 Z fun h=>zSR (qD h Z Z fun _ c h=>X1 14 0 h Z ?_);replace h:=h.nil (α:=ByteArray);obtain⟨C,F,d⟩:=qd F;refine qm (rL (fun m e w'=>∃(S1:Nat→Prop) (v:Option Addr) (b:Nat) (u:Nat) (x:(List ByteArray)) (s:Int),qcU l m x s=V C∧e=[(1,.pointer (V ⟨c,0,U⟩)),(3,.slice v b u),(7,.slice p1 l.Aq.length y),(8,.int .i64 (l.Aq.length:Int)),(9,.int .i64 s)]∧SH w w' [Ch.own S1 (x:List ByteArray) [.slice v b u],Ch.box c [.slice p1 l.Aq.length y] 26]) n ⟨_,_,_,_,_,_,F,rfl,h⟩ Z ?_);rintro z _ _ ⟨S1,v,b,u,x,s,F,rfl,h⟩;obtain rfl:=(h.sl 0 Z).2;rcases z with _|z
 ·cases F
 refine X0 5 Z (qk Z F ?_ ?_)<;>intro F
 ·refine zKSBSR ?_;obtain⟨A,_,F,i,_,_,_,_,k,o,p,g⟩:=s1.ix F;obtain⟨_,_,_,_,_,_,rfl,s2,D,H⟩:=qai p;refine zxe k o i Z (zc 0 (g.below h.below) Z (qh qa h Z Z Z fun _ _ h=>zs 0 h Z fun _ h=>X1 5 0 h Z (zcB h F (qoI (qpJ A (h.oldS s2) (h.oldS D) (h.oldS H))) Z fun _ _ h F=>X0 2 Z (qk Z F ?_ ?_))))<;>intro F
  ·refine X0 4 Z ?_;obtain rfl:=qc F;replace F:=d;exact rb h F Z
  refine X1 5 0 h Z (qp qa [.tmp 18] _ ([A.Bh]:List ByteArray) h Z Z Z Z Z Z Z Z Z ⟨rfl,trivial⟩ Z fun _ _ _ h=>?_);obtain⟨_,a,F⟩:=qd F;obtain⟨B,a⟩:=qG a;refine qaF qa 2 h Z (h.sl 0 Z).1 (h.sl 0 Z).2 Z Z Z Z Z Z Z Z Z B a Z fun _ _ _ _ h=>X0 7 Z ?_;replace h:=h.pick [2,3] Z;exact rK ⟨_,_,_,_,_,_,F,rfl,h⟩ Z
 refine qv Z ?_;obtain rfl:=qc F;replace F:=d;refine X1 7 1 h Z (qg (t:=26) F Z ?_ ?_)<;>intro F
 ·exact X0 3 Z (zcB h F (qfO (h.own 0 Z)) Z fun _ _ h F=>X0 3 Z (rb h F Z))
 exact X0 5 Z (rb h F Z)
def qbs (d:qf):Nat→(List ByteArray)→Int→Option ((List ByteArray)×Int)| 0,_,_=>U| n+1,b,a =>bif decide (a<(d.Ah.length:Int)) then(idx d.Ah a).bind fun f =>(appS b ([f.Bh]:List ByteArray)).bind fun c =>qbs d n c (W64 (a+1)) else V (b,a)
def qbj (d:qf):Nat→(List ByteArray)→Int→Option ((List ByteArray)×Int)| 0,_,_=>U| n+1,b,a =>bif decide (a<(d.Ab.length:Int)) then(idx d.Ab a).bind fun f =>(appS b ([f.Bh]:List ByteArray)).bind fun c =>qbj d n c (W64 (a+1)) else V (b,a)
def qfi (n:Nat)(d:qf):Option Bool :=(qbj d n ([]:List ByteArray) 0).bind fun o=>match o with| (a,_) =>(qbs d n ([]:List ByteArray) 0).bind fun o=>match o with| (b,_) =>bif decide ((a.length:Int)≤14) then bif decide ((d.Aj.length:Int)≤30) then bif decide ((b.length:Int)≤8) then(qeh n a).bind fun r1 =>bif r1 then(qeh n d.Aj).bind fun c =>bif c then(qeh n b).bind fun f =>V f else V false else V false else V false else V false else V false
theorem qkA {d:qf}(s:Ro w d cs1){r:Bool}(F:qfi n d=V r):RetV prog 191 [GoT.v qf cs1] w r:=by
 obtain⟨p1,K,W,R,N,L,rfl,s1,s2,s3⟩:=qaQ s;refine zV 62 func191 Z fun h=>zSR (qD h Z Z fun _ a h=>X1 15 0 h Z ?_);replace h:=h.nil (α:=ByteArray);obtain⟨o1,F,o⟩:=qd F;refine qm (rL (fun m e w'=>∃(S1:Nat→Prop) (l:Option Addr) (f:Nat) (k:Nat) (i:(List ByteArray)) (I:Int),qbj d m i I=V o1∧e=[(1,.pointer (V ⟨a,0,U⟩)),(3,.slice l f k),(4,.slice U 0 0),(10,.slice p1 d.Ab.length K),(11,.int .i64 (d.Ab.length:Int)),(12,.int .i64 I)]∧SH w w' [Ch.own S1 (i:List ByteArray) [.slice l f k],Ch.box a (qap d p1 W N K R L) 31]) n ⟨_,_,_,_,_,_,F,rfl,h⟩ Z ?_);rintro S _ _ ⟨S1,l,f,k,i,I,F,rfl,h⟩;obtain rfl:=(h.sl 0 Z).2;rcases S with _|S
 ·cases F
 refine X0 5 Z (qk Z F ?_ ?_)<;>intro F
 ·refine zKSBSR ?_;obtain⟨y1,_,F,x,_,_,_,_,z,B,D,u⟩:=s1.ix F;obtain⟨_,_,rfl,_⟩:=qaD D;refine zxe z B x Z (zc 0 (u.below h.below) Z (qh qa h Z Z Z fun _ _ h=>zs 0 h Z fun _ h=>X1 5 0 h Z (qp qa [.tmp 18] _ ([y1.Bh]:List ByteArray) h Z Z Z Z Z Z Z Z Z ⟨rfl,trivial⟩ Z fun _ _ _ h=>?_)));obtain⟨_,b,F⟩:=qd F;obtain⟨X,b⟩:=qG b;refine qaF qa 2 h Z (h.sl 0 Z).1 (h.sl 0 Z).2 Z Z Z Z Z Z Z Z Z X b Z fun _ _ _ _ h=>X0 7 Z ?_;replace h:=h.pick [2,3] Z;exact rK ⟨_,_,_,_,_,_,F,rfl,h⟩ Z
 refine qv Z ?_;obtain rfl:=qc F;replace F:=o;refine X1 8 1 h Z ?_;replace h:=h.nil (α:=ByteArray);obtain⟨o2,F,p⟩:=qd F;refine qm (rL (fun m e w'=>∃(Q:Nat→Prop) (O:Option Addr) (g:Nat) (M:Nat) (P:(List ByteArray)) (J:Int),qbs d m P J=V o2∧e=[(1,.pointer (V ⟨a,0,U⟩)),(3,.slice l i.length k),(4,.slice O g M),(23,.slice N d.Ah.length L),(24,.int .i64 (d.Ah.length:Int)),(25,.int .i64 J)]∧SH w w' [Ch.own Q (P:List ByteArray) [.slice O g M],Ch.own S1 (i:List ByteArray) [.slice l i.length k],Ch.box a (qap d p1 W N K R L) 31]) n ⟨_,_,_,_,_,_,F,rfl,h⟩ Z ?_);rintro T _ _ ⟨Q,O,g,M,P,J,F,rfl,h⟩;obtain rfl:=(h.sl 0 Z).2;rcases T with _|T
 ·cases F
 refine X0 5 Z (qk Z F ?_ ?_)<;>intro F
 ·refine zKSBSR ?_;obtain⟨y2,_,F,y,_,_,_,_,A,C,H,v⟩:=s3.ix F;obtain rfl:=qeG H;refine zxe A C y Z (zc 0 (v.below h.below) Z (qh qa h Z Z Z fun _ _ h=>zs 0 h Z fun _ h=>X1 5 0 h Z (qp qa [.tmp 31] _ ([y2.Bh]:List ByteArray) h Z Z Z Z Z Z Z Z Z ⟨rfl,trivial⟩ Z fun _ _ _ h=>?_)));obtain⟨_,c,F⟩:=qd F;obtain⟨Y,c⟩:=qG c;refine qaF qa 2 h Z (h.sl 0 Z).1 (h.sl 0 Z).2 Z Z Z Z Z Z Z Z Z Y c Z fun _ _ _ _ h=>X0 7 Z ?_;replace h:=h.pick [2,3,4] Z;exact rK ⟨_,_,_,_,_,_,F,rfl,h⟩ Z
 refine qv Z ?_;obtain rfl:=qc F;replace F:=p;refine X0 6 Z (qg (t:=38) F Z ?_ ?_)<;>intro F
 ·refine X1 10 2 h Z (qg (t:=44) F Z ?_ ?_)<;>intro F
  ·refine X0 8 Z (qg (t:=49) F Z ?_ ?_)<;>intro F
   ·refine X0 3 Z (zcB h F (qfO (h.own 1 Z)) Z fun _ _ h F=>zp2 Z (qg (t:=53) F Z ?_ ?_))<;>intro F
    ·refine X1 5 2 h Z (zcB h F (qfO ⟨_,_,rfl,(h.oldS s2)⟩) Z fun _ _ h F=>zp2 Z (qg (t:=58) F Z ?_ ?_))<;>intro F
     ·exact X0 3 Z (zcB h F (qfO (h.own 0 Z)) Z fun _ _ h F=>X0 3 Z (rb h F Z))
     exact X0 5 Z (rb h F Z)
    exact X0 10 Z (rb h F Z)
   exact X0 14 Z (rb h F Z)
  exact X0 19 Z (rb h F Z)
 exact X0 25 Z (rb h F Z)
def qgl (_:Nat)(list:(List qE)):Option Int :=V (list.length:Int)
theorem qkt {list:(List qE)}(a:Ro w list cs1){r:Int}(F:qgl n list=V r):RetV prog 244 [GoT.v (List qE) cs1] w r:=by
 obtain⟨_,_,rfl,_⟩:=a;exact zV 5 func244 Z fun h=>X0 10 Z (ri h F Z)
def qhI (_:Nat)(list:(List ByteArray)):Option Int :=V (list.length:Int)
theorem qlw {list:(List ByteArray)}(a:Ro w list cs1){r:Int}(F:qhI n list=V r):RetV prog 246 [GoT.v (List ByteArray) cs1] w r:=by
 obtain⟨_,_,rfl,_⟩:=a;exact zV 5 func246 Z fun h=>X0 10 Z (ri h F Z)
def qdF (n:Nat)(d:qf)(net:Int):Option Bool :=(qhI n d.Aj).bind fun r1 =>(qaV n net 0 (W64 (r1-1))).bind fun a =>V a
theorem qgI {d:qf}{net:Int}(a:Ro w d cs1){r:Bool}(F:qdF n d net=V r):RetV prog 193 [GoT.v qf cs1,.int .i64 net] w r:=by
 obtain⟨_,_,_,_,_,_,rfl,_,s2,_⟩:=qaQ a;exact zV 11 func193 Z fun h=>zSR (qD h Z Z fun _ _ h=>X1 7 0 h Z (zcI h F (qlw ⟨_,_,rfl,(h.oldS s2)⟩) Z fun _ _ h F=>zp1 Z (zcB h F qaH Z fun _ _ h F=>X0 2 Z (rb h F Z))))
def qdv (n:Nat)(net:Int)(a:qf):Option Bool :=(qdF n a net).bind fun r1 =>V (!r1)
theorem qjo {net:Int}{d:qf}{p1:Option Addr}(a:Ro w (V d) [.pointer p1]){r:Bool}(F:qdv n net d=V r):RetV prog 245 [.int .i64 net,.pointer p1] w r:=by
 obtain⟨_,f,_,rfl,-,c,b⟩:=PtR.get a Z;obtain⟨_,_,_,_,_,_,rfl,s1,s2,g⟩:=qaQ c;exact zV 8 func245 Z fun h=>X0 6 Z (zc 0 (b.below h.below) Z (zp1 Z (zcB h F (qgI (qaT d (h.oldS s1) (h.oldS s2) (h.oldS g))) Z fun _ _ h F=>X0 3 Z (rb h F Z))))
def qS (s:(List Int))(a:qf):Nat→Int→Option (Flow Int Int)| 0,_=>U| n+1,b =>bif decide (b<(s.length:Int)) then(idx s b).bind fun c =>(qdv n c a).bind fun r1 =>bif r1 then V (.ret b) else qS s a n (W64 (b+1)) else V (.nxt b)
def qba (n:Nat)(s:(List Int))(a:qf):Option Int :=(qS s a n 0).bind fun o=>match o with| .ret r=>V r| .nxt _ =>V (-1)
theorem qeJ {s:(List Int)}{a:qf}(d:Ro w s cs1){u:Option Addr}(c:Ro w (V a) [.pointer u]){r:Int}(F:qba n s a=V r):RetV prog 217 [GoT.v (List Int) cs1,.func (.func 245) #[] #[.pointer u]] w r:=by
 obtain⟨p1,v,rfl,s1⟩:=d;obtain⟨b1,p,_,rfl,-,l,_⟩:=PtR.get c Z;obtain⟨_,_,_,_,_,_,rfl,_,_,_⟩:=qaQ l;refine zV 19 func217 Z fun h=>X0 11 Z ?_;obtain⟨x,F,b⟩:=qd F;refine qm (rL (fun m e w'=>∃(o:Int),qS s a m o=V x∧e=[(0,.slice p1 s.length v),(1,.func (.func 245) #[] #[.pointer (V ⟨b1,p,U⟩)]),(7,.int .i64 (s.length:Int)),(8,.int .i64 o)]∧SH w w' []) n ⟨_,F,rfl,h⟩ Z ?_);rintro t _ _ ⟨o,F,rfl,h⟩;rcases t with _|t
 ·cases F
 refine X0 5 Z (qk Z F ?_ ?_)<;>intro F
 ·refine X0 13 Z ?_;obtain⟨_,_,F,g,_,_,_,_,i,k,rfl,f⟩:=s1.ix F;refine zxe i k g Z (zc 0 (f.below h.below) Z (zcB h F (qjo (h.old c)) Z fun _ _ h F=>qa2 (qk Z F ?_ ?_)))<;>intro F
  ·refine X0 5 Z ?_;obtain rfl:=qc F;replace F:=b;exact ri h F Z
  exact X0 6 Z (rK ⟨_,F,rfl,h⟩ Z)
 refine qv Z ?_;obtain rfl:=qc F;replace F:=b;exact X0 4 Z (ri h F Z)
def qaU (n:Nat)(s:(List Int))(a:qf):Option Bool :=(qba n s a).bind fun r1 =>V (decide (r1 ≥ 0))
theorem qd6 {s:(List Int)}{a:qf}(c:Ro w s cs1){f:Option Addr}(b:Ro w (V a) [.pointer f]){r:Bool}(F:qaU n s a=V r):RetV prog 157 [GoT.v (List Int) cs1,.func (.func 245) #[] #[.pointer f]] w r:=by
 obtain⟨_,_,rfl,s1⟩:=c;obtain⟨_,g,_,rfl,-,d,_⟩:=PtR.get b Z;obtain⟨_,_,_,_,_,_,rfl,_,_,_⟩:=qaQ d;exact zV 9 func157 Z fun h=>X0 8 Z (zcI h F (qeJ ⟨_,_,rfl,(h.oldS s1)⟩ (h.old b)) Z fun _ _ h F=>X0 3 Z (rb h F Z))
def qeb (n:Nat)(d:qf)(l:qu)(x:qC):Option Bool :=(qgl n l.Aq).bind fun r1 =>(qaV n x.Bt 0 (W64 (r1-1))).bind fun a =>bif a then(idx l.Aq x.Bt).bind fun c =>bif ((x.Aj.length:Int)==(c.Be.length:Int)) then(qaU n x.Aj d).bind fun b =>V (!b) else V false else V false
theorem qjZ {d:qf}{l:qu}{x:qC}(a:Ro w d cs1)(b:Ro w l cs2)(c:Ro w x cs3){r:Bool}(F:qeb n d l x=V r):RetV prog 192 [GoT.v qf cs1,GoT.v qu cs2,GoT.v qC cs3] w r:=by
 obtain⟨_,_,_,_,_,_,rfl,_,_,_⟩:=qaQ a;obtain⟨_,_,rfl,u⟩:=qcL b;obtain⟨_,_,rfl,z⟩:=qaD c;refine zV 35 func192 Z fun h=>zSR (qD h Z Z fun _ _ h=>qD h Z Z fun _ _ h=>qD h Z Z fun _ _ h=>X0 3 Z (rD (Y1 2 0 h Z ?_)));refine Y1 2 1 h Z ?_;obtain⟨r1,m,F⟩:=qd F;refine qb5 r1 (vsI _) (cB 244 Z) (fun _ A=>qkt ⟨_,_,rfl,((h.ext A).oldS u)⟩ m) Z Z Z Z (zd1 Z ?_);obtain⟨v,o,F⟩:=qd F;refine qb5 v (vsB _) (cB 58 Z) (fun _ A=>qaH  o) Z Z Z Z (zd1 Z (qaN (t:=14) F Z ?_ ?_))<;>intro F
 ·refine Y1 4 0 h Z ?_;refine Y1 6 1 h Z ?_;refine Y1 4 0 h Z ?_;refine Y0 1 Z ?_;obtain⟨_,_,F,g,_,_,_,_,i,k,p,f⟩:=u.ix F;obtain⟨_,_,_,_,_,_,rfl,_,_,_⟩:=qai p;refine zdxe i k g Z (Y0 3 Z (zdc 2 (f.below h.below) Z (Y0 6 Z (qaN (t:=28) F Z ?_ ?_))))<;>intro F
  ·refine Y1 4 0 h Z ?_;refine Y0 3 Z ?_;obtain⟨y,s,F⟩:=qd F;exact qb5 y (vsB _) (cB 157 Z) (fun _ A=>qd6 ⟨_,_,rfl,((h.ext A).oldS z)⟩ (qh3 (x:=d) 2 (h.ext A) Z ((h.ext A).old a)) s) Z Z Z Z (Y0 4 Z (dN h fun _ h=>rb h F Z))
  exact Y0 7 Z (dN h fun _ h=>rb h F Z)
 exact Y0 21 Z (dN h fun _ h=>rb h F Z)
def qi7 (_:Nat)(a:Int):Option Bool :=V (a != 1)
theorem qmJ {a:Int}  {r:Bool}(F:qi7 n a=V r):RetV prog 195 [.int .i64 a] w r:=by
 exact zV 5 func195 Z fun h=>X0 10 Z (rb h F Z)
def qan (s:(List Int)):Nat→Int→Option (Flow Int Int)| 0,_=>U| n+1,a =>bif decide (a<(s.length:Int)) then(idx s a).bind fun b =>(qi7 n b).bind fun r1 =>bif r1 then V (.ret a) else qan s n (W64 (a+1)) else V (.nxt a)
def qcc (n:Nat)(s:(List Int)):Option Int :=(qan s n 0).bind fun o=>match o with| .ret r=>V r| .nxt _ =>V (-1)
theorem qgy {s:(List Int)}(b:Ro w s cs1){r:Int}(F:qcc n s=V r):RetV prog 247 [GoT.v (List Int) cs1,.func (.func 195) #[] #[]] w r:=by
 obtain⟨p1,l,rfl,s1⟩:=b;refine zV 19 func247 Z fun h=>X0 11 Z ?_;obtain⟨o,F,a⟩:=qd F;refine qm (rL (fun m e w'=>∃(i:Int),qan s m i=V o∧e=[(0,.slice p1 s.length l),(1,.func (.func 195) #[] #[]),(7,.int .i64 (s.length:Int)),(8,.int .i64 i)]∧SH w w' []) n ⟨_,F,rfl,h⟩ Z ?_);rintro k _ _ ⟨i,F,rfl,h⟩;rcases k with _|k
 ·cases F
 refine X0 5 Z (qk Z F ?_ ?_)<;>intro F
 ·refine X0 13 Z ?_;obtain⟨_,_,F,d,_,_,_,_,f,g,rfl,c⟩:=s1.ix F;refine zxe f g d Z (zc 0 (c.below h.below) Z (zcB h F qmJ Z fun _ _ h F=>qa2 (qk Z F ?_ ?_)))<;>intro F
  ·refine X0 5 Z ?_;obtain rfl:=qc F;replace F:=a;exact ri h F Z
  exact X0 6 Z (rK ⟨_,F,rfl,h⟩ Z)
 refine qv Z ?_;obtain rfl:=qc F;replace F:=a;exact X0 4 Z (ri h F Z)
def qbS (n:Nat)(s:(List Int)):Option Bool :=(qcc n s).bind fun r1 =>V (decide (r1 ≥ 0))
theorem qf9 {s:(List Int)}(a:Ro w s cs1){r:Bool}(F:qbS n s=V r):RetV prog 194 [GoT.v (List Int) cs1,.func (.func 195) #[] #[]] w r:=by
 obtain⟨_,_,rfl,s1⟩:=a;exact zV 9 func194 Z fun h=>X0 8 Z (zcI h F (qgy ⟨_,_,rfl,(h.oldS s1)⟩) Z fun _ _ h F=>X0 3 Z (rb h F Z))
def qcE (a_1:qf):Nat→(List Int)→Int→Option (Flow Bool ((List Int)×Int))| 0,_,_=>U| n+1,c,b =>bif decide (b<(a_1.Ah.length:Int)) then(idx a_1.Ah b).bind fun a =>(bif (a.Bv != 1) then bif (a.Bv != 2) then V true else(qdF n a_1 a.Bz).bind fun f =>V (!f) else(qdF n a_1 a.Bz).bind fun g =>V (!g)).bind fun d =>bif d then V (.ret false) else bif (a.Bv==1) then(idx c a.Bz).bind fun h =>(idx c a.Bz).bind fun _ =>qcE a_1 n (setS c a.Bz (W64 (h+1))) (W64 (b+1)) else qcE a_1 n c (W64 (b+1)) else V (.nxt (c,b))
def qds (a_0:qu)(a_1:qf):Nat→(List Int)→Int→Option (Flow Bool ((List Int)×Int))| 0,_,_=>U| n+1,b,a =>bif decide (a<(a_1.Ab.length:Int)) then(idx a_1.Ab a).bind fun c =>(qeb n a_1 a_0 c).bind fun r1 =>bif (!r1) then V (.ret false) else(idx c.Aj (W64 ((c.Aj.length:Int)-1))).bind fun d =>(idx b d).bind fun f =>(idx b d).bind fun _ =>qds a_0 a_1 n (setS b d (W64 (f+1))) (W64 (a+1)) else V (.nxt (b,a))
def qiP (n:Nat)(a_0:qu)(a_1:qf):Option Bool :=((qh2 n a_0).bind fun b =>bif (!b) then V true else(qfi n a_1).bind fun c =>V (!c)).bind fun b1 =>bif b1 then V false else(mkS (a_1.Aj.length:Int) (0:Int)).bind fun d =>(qds a_0 a_1 n d 0).bind fun o=>match o with| .ret r=>V r| .nxt (f,_) =>(qcE a_1 n f 0).bind fun o=>match o with| .ret r=>V r| .nxt (g,_) =>(qbS n g).bind fun a =>V (!a)
theorem qnA {a_0:qu}{a_1:qf}(g:Ro w a_0 cs1)(c:Ro w a_1 cs2){r:Bool}(F:qiP n a_0 a_1=V r):RetV prog 123 [GoT.v qu cs1,GoT.v qf cs2] w r:=by
 obtain⟨p1,k1,rfl,_⟩:=qcL g;obtain⟨N,M,Q,P,l,k,rfl,s2,_,s4⟩:=qaQ c;refine zV 84 func123 Z fun h=>zSR (qD h Z Z fun _ d h=>qD h Z Z fun _ a h=>X0 4 Z ?_);obtain⟨T,y,_,F,v⟩:=bindE F;refine qaz (fun e w'=>∃(b1:Bool),T b1=V r∧e=[(2,.pointer (V ⟨d,0,U⟩)),(3,.pointer (V ⟨a,0,U⟩)),(17,.bool b1)]∧SH w w' [Ch.box a (qap a_1 N Q l M P k) 31,Ch.box d [.slice p1 a_0.Aq.length k1] 26]) ?_ ?_
 ·refine X1 2 1 h Z (zcB h F (qni (h.old g)) Z fun _ _ h F=>zp2 Z (qg (t:=13) F Z ?_ ?_))<;>intro F
  ·refine X0 5 Z ?_;obtain rfl:=qc F;exact rG ⟨_,v,rfl,h⟩ Z
  refine X1 3 0 h Z (zcB h F (qkA (h.old c)) Z fun _ _ h F=>X0 4 Z ?_);obtain rfl:=qc F;exact rG ⟨_,v,rfl,h⟩ Z
 rintro _ _ ⟨b1,F,rfl,h⟩;subst y;refine qk Z F ?_ ?_<;>intro F
 ·exact X0 4 Z (rb h F Z)
 refine X1 6 0 h Z ?_;obtain⟨b,i,F⟩:=qd F;obtain⟨g1,g2,i⟩:=qaf i;refine qay qa Int h Z Z Z Z Z Z Z Z Z g1 g2 i Z fun _ S1 o h=>X1 10 1 h Z ?_;obtain⟨o1,F,s⟩:=qd F;refine qm (rL (fun m e w'=>∃(x2:(List Int)) (i1:Int),qds a_0 a_1 m x2 i1=V o1∧e=[(2,.pointer (V ⟨d,0,U⟩)),(3,.pointer (V ⟨a,0,U⟩)),(5,.slice o b.length b.length),(23,.slice N a_1.Ab.length M),(24,.int .i64 (a_1.Ab.length:Int)),(25,.int .i64 i1)]∧SH w w' [Ch.own S1 (x2:List Int) [.slice o b.length b.length],Ch.box a (qap a_1 N Q l M P k) 31,Ch.box d [.slice p1 a_0.Aq.length k1] 26]) n ⟨_,_,F,rfl,h⟩ Z ?_);rintro m1 _ _ ⟨x2,i1,F,rfl,h⟩;rcases m1 with _|m1
 ·cases F
 refine X0 5 Z (qk Z F ?_ ?_)<;>intro F
 ·refine zKSBSR ?_;obtain⟨y1,_,F,a6,_,_,_,_,a9,b9,c5,X⟩:=s2.ix F;obtain⟨_,_,rfl,s5⟩:=qaD c5;refine zxe a9 b9 a6 Z (zc 0 (X.below h.below) Z (qh qa h Z Z Z fun _ _ h=>zs 0 h Z fun _ h=>X3 7 2 3 0 h Z (zcB h F (qjZ (h.old c) (h.old g) (qmF y1 (h.oldS s5))) Z fun _ _ h F=>X0 2 Z (qk Z F ?_ ?_))))<;>intro F
  ·refine X0 4 Z ?_;obtain rfl:=qc F;replace F:=s;exact rb h F Z
  refine X2 9 0 0 h Z ?_;obtain⟨_,_,F,a7,_,_,_,_,b4,c0,rfl,Y⟩:=s5.ix F;refine zxe b4 c0 a7 Z (zc 0 (Y.below h.below) Z ?_);obtain⟨y3,_,F,B,_,_,_,_,b5,c2,rfl,a3⟩:=(h.sl 1 Z).1.ix F;refine zx b5 c2 ⟨B.1,qA B.2.1 (h.sl 1 Z).2⟩ Z (zc 0 a3 Z (zp1 Z ?_));obtain⟨_,c7,F,C,_,_,_,_,I,K,rfl,a4⟩:=(h.sl 1 Z).1.ix F;refine zx I K ⟨C.1,qA C.2.1 (h.sl 1 Z).2⟩ Z (qaG qa 1 0 (W64 (y3+1)) h Z c7 I K Z a4 Z Z Z Z Z Z Z fun _ h=>X0 6 Z ?_);replace h:=h.pick [1,2,3] Z;exact rK ⟨_,_,F,rfl,h⟩ Z
 refine qv Z ?_;obtain rfl:=qc F;replace F:=s;refine X1 8 1 h Z ?_;obtain⟨o2,F,u⟩:=qd F;refine qm ?_;replace h:=h.pick [0,1] Z;refine rL (fun m e w'=>∃(R:(List Int)) (O:Int),qcE a_1 m R O=V o2∧e=[(3,.pointer (V ⟨a,0,U⟩)),(5,.slice o b.length b.length),(49,.slice l a_1.Ah.length k),(50,.int .i64 (a_1.Ah.length:Int)),(51,.int .i64 O)]∧SH w w' [Ch.own S1 (R:List Int) [.slice o b.length b.length],Ch.box a (qap a_1 N Q l M P k) 31]) n ⟨_,_,F,rfl,h⟩ Z ?_;rintro m2 _ _ ⟨R,O,F,rfl,h⟩;rcases m2 with _|m2
 ·cases F
 refine X0 5 Z (qk Z F ?_ ?_)<;>intro F
 ·refine zKSBSR ?_;obtain⟨y5,_,F,a8,_,_,_,_,b6,c3,c6,a5⟩:=s4.ix F;obtain rfl:=qeG c6;refine zxe b6 c3 a8 Z (zc 0 (a5.below h.below) Z (qh qa h Z Z Z fun _ p h=>zs 0 h Z fun _ h=>zNSS ?_));obtain⟨S,x,_,F,f⟩:=bindE F;refine qaz (fun e w'=>∃(W:Bool),S W=V o2∧e=[(3,.pointer (V ⟨a,0,U⟩)),(5,.slice o b.length b.length),(9,.pointer (V ⟨p,0,U⟩)),(49,.slice l a_1.Ah.length k),(50,.int .i64 (a_1.Ah.length:Int)),(51,.int .i64 O),(69,.bool W)]∧SH w w' [Ch.box p (qqE y5) 267,Ch.own S1 (R:List Int) [.slice o b.length b.length],Ch.box a (qap a_1 N Q l M P k) 31]) ?_ ?_
  ·refine X1 5 0 h Z (qg (t:=58) F Z ?_ ?_)<;>intro F
   ·refine X1 8 0 h Z (qg (t:=63) F Z ?_ ?_)<;>intro F
    ·refine X0 7 Z ?_;obtain rfl:=qc F;exact rG ⟨_,f,rfl,h⟩ Z
    refine X2 7 2 0 h Z (zcB h F (qgI (h.old c)) Z fun _ _ h F=>X0 4 Z ?_);obtain rfl:=qc F;exact rG ⟨_,f,rfl,h⟩ Z
   refine X2 12 2 0 h Z (zcB h F (qgI (h.old c)) Z fun _ _ h F=>X0 4 Z ?_);obtain rfl:=qc F;exact rG ⟨_,f,rfl,h⟩ Z
  rintro _ _ ⟨W,F,rfl,h⟩;subst x;refine qk Z F ?_ ?_<;>intro F
  ·refine X0 4 Z ?_;obtain rfl:=qc F;replace F:=u;exact rb h F Z
  refine X1 7 0 h Z (qk Z F ?_ ?_)<;>intro F
  ·refine X1 4 0 h Z ?_;obtain⟨y6,_,F,D,_,_,_,_,b8,c4,rfl,z⟩:=(h.sl 1 Z).1.ix F;refine zx b8 c4 ⟨D.1,qA D.2.1 (h.sl 1 Z).2⟩ Z (zc 0 z Z (zp1 Z ?_));obtain⟨_,c8,F,H,_,_,_,_,J,L,rfl,A⟩:=(h.sl 1 Z).1.ix F;refine zx J L ⟨H.1,qA H.2.1 (h.sl 1 Z).2⟩ Z (qaG qa 1 0 (W64 (y6+1)) h Z c8 J L Z A Z Z Z Z Z Z Z fun _ h=>X0 6 Z ?_);replace h:=h.pick [1,2] Z;exact rK ⟨_,_,F,rfl,h⟩ Z
  refine X0 6 Z ?_;replace h:=h.pick [1,2] Z;exact rK ⟨_,_,F,rfl,h⟩ Z
 refine qv Z ?_;obtain rfl:=qc F;replace F:=u;exact X0 3 Z (zcB h F (qf9 (h.own 0 Z)) Z fun _ _ h F=>X0 3 Z (rb h F Z))
def qbN (c:Int)(b:qC):Nat→(List Tplace)→Int→Option ((List Tplace)×Int)| 0,_,_=>U| n+1,d,a =>bif decide (a<(b.Aj.length:Int)) then(idx b.Aj a).bind fun g =>(appS d ([(⟨c,a,g,(a==(W64 ((b.Aj.length:Int)-1)))⟩:Tplace)]:List Tplace)).bind fun f =>qbN c b n f (W64 (a+1)) else V (d,a)
def qbP (d:qf):Nat→(List Tplace)→Int→Option ((List Tplace)×Int)| 0,_,_=>U| n+1,b,a =>bif decide (a<(d.Ah.length:Int)) then(idx d.Ah a).bind fun c =>(appS b ([(⟨(-1),a,c.Bz,(c.Bv==1)⟩:Tplace)]:List Tplace)).bind fun f =>qbP d n f (W64 (a+1)) else V (b,a)
def qbO (d:qf):Nat→(List Tplace)→Int→Option ((List Tplace)×Int)| 0,_,_=>U| n+1,b,a =>bif decide (a<(d.Ab.length:Int)) then(idx d.Ab a).bind fun f =>(qbN a f n b 0).bind fun o=>match o with| (c,_) =>qbO d n c (W64 (a+1)) else V (b,a)
def qcu (n:Nat)(d:qf):Option (List Tplace) :=(qbO d n ([]:List Tplace) 0).bind fun o=>match o with| (a,_) =>(qbP d n a 0).bind fun o=>match o with| (b,_) =>V b
theorem qeN {d:qf}(z:Ro w d cs1){r:(List Tplace)}(F:qcu n d=V r):RetV prog 124 [GoT.v qf cs1] w r:=by
 obtain⟨p1,t,p2,k2,Y,R,rfl,s1,_,s3⟩:=qaQ z;refine zV 61 func124 Z fun h=>zSR (qD h Z Z fun _ a h=>X1 14 0 h Z ?_);replace h:=h.nil (α:=Tplace);obtain⟨o1,F,v⟩:=qd F;refine qm (rL (fun m e w'=>∃(S1:Nat→Prop) (p4:Option Addr) (i:Nat) (S:Nat) (x1:(List Tplace)) (b:Int),qbO d m x1 b=V o1∧e=[(1,.pointer (V ⟨a,0,U⟩)),(3,.slice p4 i S),(11,.slice p1 d.Ab.length t),(12,.int .i64 (d.Ab.length:Int)),(13,.int .i64 b)]∧SH w w' [Ch.own S1 (x1:List Tplace) [.slice p4 i S],Ch.box a (qap d p1 p2 Y t k2 R) 31]) n ⟨_,_,_,_,_,_,F,rfl,h⟩ Z ?_);rintro X _ _ ⟨S1,p4,i,S,x1,b,F,rfl,h⟩;obtain rfl:=(h.sl 0 Z).2;rcases X with _|X
 ·cases F
 refine X0 5 Z (qk Z F ?_ ?_)<;>intro F
 ·refine X0 6 Z ?_;obtain⟨o,_,F,D,_,_,_,_,J,M,P,A⟩:=s1.ix F;obtain⟨p5,k5,rfl,s4⟩:=qaD P;refine zxe J M D Z (zc 0 (A.below h.below) Z (qh qa h Z Z Z fun _ p h=>zp1 Z (zs 0 h Z fun _ h=>X1 8 0 h Z ?_)));obtain⟨o2,F,x⟩:=qd F;refine qm (rL (fun m e w'=>∃(S2:Nat→Prop) (p6:Option Addr) (k:Nat) (T:Nat) (x2:(List Tplace)) (g:Int),qbN b o m x2 g=V o2∧e=[(1,.pointer (V ⟨a,0,U⟩)),(3,.slice p6 k T),(4,.int .i64 b),(5,.pointer (V ⟨p,0,U⟩)),(11,.slice p1 d.Ab.length t),(12,.int .i64 (d.Ab.length:Int)),(13,.int .i64 b),(19,.slice p5 o.Aj.length k5),(20,.int .i64 (o.Aj.length:Int)),(21,.int .i64 g)]∧SH w w' [Ch.box p (qi2 o p5 k5) 102,Ch.own S2 (x2:List Tplace) [.slice p6 k T],Ch.box a (qap d p1 p2 Y t k2 R) 31]) X ⟨_,_,_,_,_,_,F,rfl,h⟩ Z ?_);rintro m2 _ _ ⟨S2,p6,k,T,x2,g,F,rfl,h⟩;obtain rfl:=(h.sl 1 Z).2;rcases m2 with _|m2
  ·cases F
  refine X0 5 Z (qk Z F ?_ ?_)<;>intro F
  ·refine X0 6 Z ?_;obtain⟨y2,_,F,H,_,_,_,_,K,N,rfl,B⟩:=s4.ix F;refine zxe K N H Z (zc 0 (B.below h.below) Z (X1 14 0 h Z (r_v (qt qa [0,1,2,3] [.tmp 27,.tmp 28,.tmp 29,.tmp 35] Z Z Z Z Z Z Z Z) Z (qp qa [.tmp 36] _ ([(⟨b,g,y2,(g==(W64 ((o.Aj.length:Int)-1)))⟩:Tplace)]:List Tplace) h Z Z Z Z Z Z Z Z Z ⟨(qle (⟨b,g,y2,(g==(W64 ((o.Aj.length:Int)-1)))⟩:Tplace)),trivial⟩ Z fun _ _ _ h=>?_))));obtain⟨_,c,F⟩:=qd F;obtain⟨g1,c⟩:=qG c;refine qaF qa 2 h Z (h.sl 0 Z).1 (h.sl 0 Z).2 Z Z Z Z Z Z Z Z Z g1 c Z fun _ _ _ _ h=>X0 7 Z ?_;replace h:=h.pick [1,2,3] Z;exact rK ⟨_,_,_,_,_,_,F,rfl,h⟩ Z
  refine qv Z ?_;obtain rfl:=qc F;replace F:=x;refine X0 5 Z ?_;replace h:=h.pick [1,2] Z;exact rK ⟨_,_,_,_,_,_,F,rfl,h⟩ Z
 refine qv Z ?_;obtain rfl:=qc F;replace F:=v;refine X1 8 1 h Z ?_;obtain⟨o3,F,y⟩:=qd F;refine qm ?_;replace h:=h.pick [0] Z;refine rL (fun m e w'=>∃(S5:Nat→Prop) (p9:Option Addr) (l:Nat) (W:Nat) (x4:(List Tplace)) (s:Int),qbP d m x4 s=V o3∧e=[(3,.slice p9 l W),(42,.slice Y d.Ah.length R),(43,.int .i64 (d.Ah.length:Int)),(44,.int .i64 s)]∧SH w w' [Ch.own S5 (x4:List Tplace) [.slice p9 l W]]) n ⟨_,_,_,_,_,_,F,rfl,h⟩ Z ?_;rintro m3 _ _ ⟨S5,p9,l,W,x4,s,F,rfl,h⟩;obtain rfl:=(h.sl 0 Z).2;rcases m3 with _|m3
 ·cases F
 refine X0 5 Z (qk Z F ?_ ?_)<;>intro F
 ·refine X0 6 Z ?_;obtain⟨u,_,F,I,_,_,_,_,L,O,Q,C⟩:=s3.ix F;obtain rfl:=qeG Q;refine zxe L O I Z (zc 0 (C.below h.below) Z (qh qa h Z Z Z fun _ _ h=>zp1 Z (zs 0 h Z fun _ h=>X2 9 0 0 h Z (r_v (qt qa [0,1,2,3] [.const (.int .i64 (-1)),.tmp 50,.tmp 52,.tmp 55] Z Z Z Z Z Z Z Z) Z (qp qa [.tmp 56] _ ([(⟨(-1),s,u.Bz,(u.Bv==1)⟩:Tplace)]:List Tplace) h Z Z Z Z Z Z Z Z Z ⟨(qle (⟨(-1),s,u.Bz,(u.Bv==1)⟩:Tplace)),trivial⟩ Z fun _ _ _ h=>?_)))));obtain⟨_,f,F⟩:=qd F;obtain⟨g2,f⟩:=qG f;refine qaF qa 2 h Z (h.sl 0 Z).1 (h.sl 0 Z).2 Z Z Z Z Z Z Z Z Z g2 f Z fun _ _ _ _ h=>X0 7 Z ?_;replace h:=h.pick [2] Z;exact rK ⟨_,_,_,_,_,_,F,rfl,h⟩ Z
 refine qv Z ?_;obtain rfl:=qc F;replace F:=y;refine X0 5 Z ?_;obtain rfl:=qc F;exact rO 0 h Z ⟨rfl,trivial⟩
def qbg (f:qae):Nat→Int→Option (Flow Bool Int)| 0,_=>U| n+1,a =>bif decide (a<(f.Ak.length:Int)) then(idx f.Ak a).bind fun b =>bif (a==0) then bif (b != (-1)) then V (.ret false) else(idx f.Bu 0).bind fun d =>bif (d != 0) then V (.ret false) else bif decide (a > 0) then(qaV n b 0 (W64 (a-1))).bind fun r1 =>bif (!r1) then V (.ret false) else qbg f n (W64 (a+1)) else qbg f n (W64 (a+1)) else bif decide (a > 0) then(qaV n b 0 (W64 (a-1))).bind fun c =>bif (!c) then V (.ret false) else qbg f n (W64 (a+1)) else qbg f n (W64 (a+1)) else V (.nxt a)
def qgW (n:Nat)(a:qae):Option Bool :=(qbg a n 0).bind fun o=>match o with| .ret r=>V r| .nxt _ =>V true
theorem qmB {H:qae}(c:Ro w H cs1){r:Bool}(F:qgW n H=V r):RetV prog 196 [GoT.v qae cs1] w r:=by
 obtain⟨p1,u,B,x,C,y,D,z,rfl,s1,s2,_,_⟩:=qbz c;refine zV 38 func196 Z fun h=>zSR (qD h Z Z fun _ b h=>X1 10 0 h Z ?_);obtain⟨A,F,a⟩:=qd F;refine qm (rL (fun m e w'=>∃(s:Int),qbg H m s=V A∧e=[(1,.pointer (V ⟨b,0,U⟩)),(6,.slice p1 H.Ak.length u),(7,.int .i64 (H.Ak.length:Int)),(8,.int .i64 s)]∧SH w w' [Ch.box b (qfX H p1 B C D u x y z) 196]) n ⟨_,F,rfl,h⟩ Z ?_);rintro v _ _ ⟨s,F,rfl,h⟩;rcases v with _|v
 ·cases F
 refine X0 5 Z (qk Z F ?_ ?_)<;>intro F
 ·refine X0 6 Z ?_;obtain⟨_,_,F,g,_,_,_,_,k,o,rfl,d⟩:=s1.ix F;refine zxe k o g Z (zc 0 (d.below h.below) Z (X0 8 Z (qg (t:=15) F Z ?_ ?_)))<;>intro F
  ·refine X0 6 Z (qg (t:=18) F Z ?_ ?_)<;>intro F
   ·refine X0 20 Z (qch Z Z (X0 4 Z ?_));obtain rfl:=qc F;replace F:=a;exact rb h F Z
   refine X1 5 0 h Z ?_;obtain⟨_,_,F,i,_,_,_,_,l,p,rfl,f⟩:=s2.ix F;refine zxe l p i Z (X0 1 Z (zc 0 (f.below h.below) Z (X0 6 Z (qg (t:=26) F Z ?_ ?_))))<;>intro F
   ·refine X0 11 Z (qch Z Z (X0 4 Z ?_));obtain rfl:=qc F;replace F:=a;exact rb h F Z
   refine X0 6 Z (qg (t:=29) F Z ?_ ?_)<;>intro F
   ·refine X0 7 Z (zcB h F qaH Z fun _ _ h F=>X0 6 Z (qk Z F ?_ ?_))<;>intro F
    ·refine X0 4 Z ?_;obtain rfl:=qc F;replace F:=a;exact rb h F Z
    exact X0 6 Z (rK ⟨_,F,rfl,h⟩ Z)
   exact X0 9 Z (qbB Z Z (X0 6 Z (rK ⟨_,F,rfl,h⟩ Z)))
  refine X0 17 Z (qg (t:=29) F Z ?_ ?_)<;>intro F
  ·refine X0 7 Z (zcB h F qaH Z fun _ _ h F=>X0 6 Z (qk Z F ?_ ?_))<;>intro F
   ·refine X0 4 Z ?_;obtain rfl:=qc F;replace F:=a;exact rb h F Z
   exact X0 6 Z (rK ⟨_,F,rfl,h⟩ Z)
  exact X0 9 Z (qbB Z Z (X0 6 Z (rK ⟨_,F,rfl,h⟩ Z)))
 refine qv Z ?_;obtain rfl:=qc F;replace F:=a;exact X0 4 Z (rb h F Z)
def qj9 (n:Nat)(k:qae)(sinks:Int):Option Bool :=(qbu n k.Ak).bind fun r1 =>(qaV n r1 1 8).bind fun a =>bif a then(qbu n k.Bu).bind fun b =>bif (b==r1) then(qbu n k.Bp).bind fun c =>bif (c==r1) then(qgW n k).bind fun d =>bif d then(qb0 n k.Bu 0 1000).bind fun f =>bif f then(qb0 n k.Bp 0 500).bind fun g =>bif g then(qbu n k.Bj).bind fun h =>bif (h==sinks) then(qb0 n k.Bj 0 (W64 (r1-1))).bind fun i =>V i else V false else V false else V false else V false else V false else V false else V false
theorem qo1 {d:qae}{sinks:Int}(a:Ro w d cs1){r:Bool}(F:qj9 n d sinks=V r):RetV prog 125 [GoT.v qae cs1,.int .i64 sinks] w r:=by
 obtain⟨_,_,_,_,_,_,_,_,rfl,s1,s2,b,c⟩:=qbz a;refine zV 53 func125 Z fun h=>zSR (qD h Z Z fun _ _ h=>X1 6 0 h Z (zcI h F (qcC ⟨_,_,rfl,(h.oldS s1)⟩) Z fun _ _ h F=>X0 5 Z (zcB h F qaH Z fun _ _ h F=>zp1 Z (qg (t:=11) F Z ?_ ?_))))<;>intro F
 ·refine X1 5 0 h Z (zcI h F (qcC ⟨_,_,rfl,(h.oldS s2)⟩) Z fun _ _ h F=>X0 6 Z (qg (t:=18) F Z ?_ ?_))<;>intro F
  ·refine X1 5 0 h Z (zcI h F (qcC ⟨_,_,rfl,(h.oldS b)⟩) Z fun _ _ h F=>X0 6 Z (qg (t:=25) F Z ?_ ?_))<;>intro F
   ·refine X1 3 0 h Z (zcB h F (qmB (h.old a)) Z fun _ _ h F=>zp2 Z (qg (t:=29) F Z ?_ ?_))<;>intro F
    ·refine X1 5 0 h Z (zcB h F (qce ⟨_,_,rfl,(h.oldS s2)⟩) Z fun _ _ h F=>zp2 Z (qg (t:=34) F Z ?_ ?_))<;>intro F
     ·refine X1 5 0 h Z (zcB h F (qce ⟨_,_,rfl,(h.oldS b)⟩) Z fun _ _ h F=>zp2 Z (qg (t:=39) F Z ?_ ?_))<;>intro F
      ·refine X1 5 0 h Z (zcI h F (qcC ⟨_,_,rfl,(h.oldS c)⟩) Z fun _ _ h F=>X0 6 Z (qg (t:=46) F Z ?_ ?_))<;>intro F
       ·exact X1 9 0 h Z (zcB h F (qce ⟨_,_,rfl,(h.oldS c)⟩) Z fun _ _ h F=>X0 3 Z (rb h F Z))
       exact X0 8 Z (rb h F Z)
      exact X0 15 Z (rb h F Z)
     exact X0 20 Z (rb h F Z)
    exact X0 25 Z (rb h F Z)
   exact X0 29 Z (rb h F Z)
  exact X0 36 Z (rb h F Z)
 exact X0 43 Z (rb h F Z)
def qe0 (b:qe)(c:(List Int)):Nat→Int→Option (Flow Bool Int)| 0,_=>U| n+1,a =>bif decide (a<(b.Af.length:Int)) then(idx b.Af a).bind fun f =>(idx c a).bind fun g =>(qj9 n f g).bind fun d =>bif (!d) then V (.ret false) else qe0 b c n (W64 (a+1)) else V (.nxt a)
def qc3 (r1:(List Tplace)):Nat→(List Int)→Int→Option ((List Int)×Int)| 0,_,_=>U| n+1,b,a =>bif decide (a<(r1.length:Int)) then(idx r1 a).bind fun c =>bif (!c.drives) then(idx b c.net).bind fun d =>(idx b c.net).bind fun _ =>qc3 r1 n (setS b c.net (W64 (d+1))) (W64 (a+1)) else qc3 r1 n b (W64 (a+1)) else V (b,a)
def qhZ (n:Nat)(b:qe):Option Bool :=((qiP n (⟨b.Ap.Aq⟩:qu) (⟨b.Aa.Ab,b.Aa.Aj,b.Aa.Ah⟩:qf)).bind fun a =>bif (!a) then V true else V ((b.Af.length:Int) != (b.Aa.Aj.length:Int))).bind fun b1 =>bif b1 then V false else(mkS (b.Af.length:Int) (0:Int)).bind fun c =>(qcu n (⟨b.Aa.Ab,b.Aa.Aj,b.Aa.Ah⟩:qf)).bind fun r1 =>(qc3 r1 n c 0).bind fun o=>match o with| (d,_) =>(qe0 b d n 0).bind fun o=>match o with| .ret r=>V r| .nxt _ =>V true
theorem qou {b:qe}(A:Ro w b cs1){r:Bool}(F:qhZ n b=V r):RetV prog 54 [GoT.v qe cs1] w r:=by
 obtain⟨p1,k1,p2,k2,p3,k3,p4,k4,p5,k5,rfl,s1,s2,s3,s4,s5⟩:=qN A;refine zV 63 func54 Z fun h=>zSR (qD h Z Z fun _ a h=>X0 4 Z ?_);obtain⟨y,i,_,F,g⟩:=bindE F;refine qaz (fun e w'=>∃(b1:Bool),y b1=V r∧e=[(1,.pointer (V ⟨a,0,U⟩)),(23,.bool b1)]∧SH w w' [Ch.box a (qH b p1 p2 p3 p4 p5 k1 k2 k3 k4 k5) 34]) ?_ ?_
 ·refine X2 5 0 0 h Z (zcB h F (qnA (qit _ (h.oldS s1)) (qaT _ (h.oldS s2) (h.oldS s3) (h.oldS s4))) Z fun _ _ h F=>zp2 Z (qg (t:=14) F Z ?_ ?_))<;>intro F
  ·refine X0 10 Z ?_;obtain rfl:=qc F;exact rG ⟨_,g,rfl,h⟩ Z
  refine X2 18 0 0 h Z ?_;obtain rfl:=qc F;exact rG ⟨_,g,rfl,h⟩ Z
 rintro _ _ ⟨b1,F,rfl,h⟩;subst i;refine qk Z F ?_ ?_<;>intro F
 ·exact X0 4 Z (rb h F Z)
 refine X1 6 0 h Z ?_;obtain⟨c,d,F⟩:=qd F;obtain⟨g1,g2,d⟩:=qaf d;refine qay qa Int h Z Z Z Z Z Z Z Z Z g1 g2 d Z fun _ S1 x h=>X1 7 1 h Z (zcL h F (qeN (qaT _ (h.oldS s2) (h.oldS s3) (h.oldS s4))) Z fun r1 _ S2 p7 k6 h F=>X0 3 Z ?_);obtain⟨o1,F,z⟩:=qd F;refine qm (rL (fun m e w'=>∃(v:(List Int)) (Y:Int),qc3 r1 m v Y=V o1∧e=[(1,.pointer (V ⟨a,0,U⟩)),(3,.slice x c.length c.length),(30,.slice p7 r1.length k6),(31,.int .i64 (r1.length:Int)),(32,.int .i64 Y)]∧SH w w' [Ch.own S2 (r1:List Tplace) [.slice p7 r1.length k6],Ch.own S1 (v:List Int) [.slice x c.length c.length],Ch.box a (qH b p1 p2 p3 p4 p5 k1 k2 k3 k4 k5) 34]) n ⟨_,_,F,rfl,h⟩ Z ?_);rintro m1 _ _ ⟨v,Y,F,rfl,h⟩;rcases m1 with _|m1
 ·cases F
 refine X0 5 Z (qk Z F ?_ ?_)<;>intro F
 ·refine zKSBSR ?_;obtain⟨_,_,F,k,_,_,_,_,K,O,S,B⟩:=(h.sl 0 Z).1.ix F;obtain rfl:=qgK S;refine zx K O ⟨k.1,qA k.2.1 (h.sl 0 Z).2⟩ Z (zc 0 B Z (qh qa h Z Z Z fun _ _ h=>zs 0 h Z fun _ h=>X1 7 0 h Z (qk Z F ?_ ?_)))<;>intro F
  ·refine X1 4 0 h Z ?_;obtain⟨y2,_,F,l,_,_,_,_,L,P,rfl,C⟩:=(h.sl 2 Z).1.ix F;refine zx L P ⟨l.1,qA l.2.1 (h.sl 2 Z).2⟩ Z (zc 0 C Z (zp1 Z ?_));obtain⟨_,X,F,o,_,_,_,_,s,u,rfl,D⟩:=(h.sl 2 Z).1.ix F;refine zx s u ⟨o.1,qA o.2.1 (h.sl 2 Z).2⟩ Z (qaG qa 2 0 (W64 (y2+1)) h Z X s u Z D Z Z Z Z Z Z Z fun _ h=>X0 6 Z ?_);replace h:=h.pick [1,2,3] Z;exact rK ⟨_,_,F,rfl,h⟩ Z
  refine X0 6 Z ?_;replace h:=h.pick [1,2,3] Z;exact rK ⟨_,_,F,rfl,h⟩ Z
 refine qv Z ?_;obtain rfl:=qc F;replace F:=z;refine X1 8 2 h Z ?_;obtain⟨o2,F,f⟩:=qd F;refine qm ?_;replace h:=h.pick [1] Z;refine rL (fun m e w'=>∃(i2:Int),qe0 b v m i2=V o2∧e=[(3,.slice x c.length c.length),(48,.slice p5 b.Af.length k5),(49,.int .i64 (b.Af.length:Int)),(50,.int .i64 i2)]∧SH w w' [Ch.own S1 (v:List Int) [.slice x c.length c.length]]) n ⟨_,F,rfl,h⟩ Z ?_;rintro m2 _ _ ⟨i2,F,rfl,h⟩;rcases m2 with _|m2
 ·cases F
 refine X0 5 Z (qk Z F ?_ ?_)<;>intro F
 ·refine X0 6 Z ?_;obtain⟨y4,_,F,J,_,_,_,_,M,Q,T,H⟩:=s5.ix F;obtain⟨_,_,_,_,_,_,_,_,rfl,s6,s7,s8,s9⟩:=qbz T;refine zxe M Q J Z (zc 0 (H.below h.below) Z (qh qa h Z Z Z fun _ _ h=>zp1 Z (zs 0 h Z fun _ h=>zNS (rD (Y1 1 0 h Z ?_)))));refine zd2 Z ?_;obtain⟨_,_,F,p,_,_,_,_,N,R,rfl,I⟩:=(h.sl 1 Z).1.ix F;refine zdx N R ⟨p.1,qA p.2.1 (h.sl 1 Z).2⟩ Z (zdc 0 I Z ?_);obtain⟨r2,W,F⟩:=qd F;refine qb5 r2 (vsB _) (cB 125 Z) (fun _ hb=>qo1 (qpB y4 ((h.ext hb).oldS s6) ((h.ext hb).oldS s7) ((h.ext hb).oldS s8) ((h.ext hb).oldS s9)) W) Z Z Z Z (zd1 Z (dN h fun _ h=>qk Z F ?_ ?_))<;>intro F
  ·refine X0 4 Z ?_;obtain rfl:=qc F;replace F:=f;exact rb h F Z
  refine X0 6 Z ?_;replace h:=h.pick [1] Z;exact rK ⟨_,F,rfl,h⟩ Z
 refine qv Z ?_;obtain rfl:=qc F;replace F:=f;exact X0 4 Z (rb h F Z)
end Go.Fw
