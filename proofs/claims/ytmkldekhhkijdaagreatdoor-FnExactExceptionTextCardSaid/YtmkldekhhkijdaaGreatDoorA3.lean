/-
 DERIVED: THE SHELF's CONTRACTS AT THIS DUMP, IN PLAIN WORDS (tools/lay-plain.mjs out of 'TryzSz.lean', which tools/lay-shelf.mjs wrote): THE SAME DECLARATIONS UNDER THE SAME NAMES: 'import', 'namespace', 'open', 'def', 'theorem' AND NOTHING ELSE: no command of the shelf's: FOR A HAND-IN. Each laying: the table of numbers ('.._ren') and one theorem, a field a fact of the dump's own or the kernel's comparison; each contract: ONE APPLICATION.
-/
import Derived.Shelf.Strconv.Itoa4
import Derived.Lib.AppendIntMem
import Derived.Ground.NamesProg
import Derived.Test.YtmkldekhhkijdaaGreatDoorProg
import Derived.Test.YtmkldekhhkijdaaGreatDoorFw38
import Derived.Sort.Grow
import Derived.Lib.SlicesCompact
import Derived.Laws.StructEq
import Derived.Lib.LaidTab
import Derived.ChangeVars
import Derived.Lib.ItoaNum
import Derived.Lib.ItoaMem
import Derived.Lib.ItoaLen
import Derived.Test.YtmkldekhhkijdaaGreatDoorChecked
import Derived.Test.YtmkldekhhkijdaaGreatDoorS1
open Option renaming bind_some->jd, some->U, none->G
open Bool renaming and_eq_true->jg, not_eq_true'->jD
open List renaming getElem?_take->jr

namespace Go.Proofs
open Go.Shelf
def Tryz.lays173_ren:Go.Shelf.Ren:=⟨fun|173=>124|246=>156|283=>182|284=>183|285=>184|286=>185|129=>221|317=>220|318=>222|319=>223|320=>224|337=>252|338=>253|n=>n,fun|2=>2|3=>3|9=>9|4=>4|171=>247|0=>0|53=>248|37=>55|5=>5|173=>251|212=>285|51=>286|20=>20|213=>287|46=>267|232=>334|233=>335|n=>n,fun|17=>2|18=>7|19=>8|n=>n⟩
theorem Tryz.lays173:Go.Proofs.LaysM.n173 Tryz.prog Tryz.lays173_ren:={
 mixed:=by kernel_rfl
 f129:=Tryz.func221.trans (congrArg some (by kernel_rfl))
 f173:=Tryz.func124.trans (congrArg some (by kernel_rfl))
 f246:=Tryz.func156.trans (congrArg some (by kernel_rfl))
 f283:=Tryz.func182.trans (congrArg some (by kernel_rfl))
 f284:=Tryz.func183.trans (congrArg some (by kernel_rfl))
 f285:=Tryz.func184.trans (congrArg some (by kernel_rfl))
 f286:=Tryz.func185.trans (congrArg some (by kernel_rfl))
 f317:=Tryz.func220.trans (congrArg some (by kernel_rfl))
 f318:=Tryz.func222.trans (congrArg some (by kernel_rfl))
 f319:=Tryz.func223.trans (congrArg some (by kernel_rfl))
 f320:=Tryz.func224.trans (congrArg some (by kernel_rfl))
 f337:=Tryz.func252.trans (congrArg some (by kernel_rfl))
 f338:=Tryz.func253.trans (congrArg some (by kernel_rfl))
 t0:=Tryz.underlying0
 a0:=Tryz.isAgg0
 z0:=Tryz.sizeOf0
 v0:=Tryz.zeroValue0
 t2:=Tryz.underlying2
 a2:=Tryz.isAgg2
 z2:=Tryz.sizeOf2
 v2:=Tryz.zeroValue2
 t3:=Tryz.underlying3
 a3:=Tryz.isAgg3
 z3:=Tryz.sizeOf3
 v3:=Tryz.zeroValue3
 t4:=Tryz.underlying4
 a4:=Tryz.isAgg4
 z4:=Tryz.sizeOf4
 v4:=Tryz.zeroValue4
 t5:=Tryz.underlying5
 a5:=Tryz.isAgg5
 z5:=Tryz.sizeOf5
 v5:=Tryz.zeroValue5
 t9:=Tryz.underlying9
 a9:=Tryz.isAgg9
 z9:=Tryz.sizeOf9
 v9:=Tryz.zeroValue9
 t20:=Tryz.underlying20
 a20:=Tryz.isAgg20
 z20:=Tryz.sizeOf20
 v20:=Tryz.zeroValue20
 t37:=Tryz.underlying55
 a37:=Tryz.isAgg55
 z37:=Tryz.sizeOf55
 v37:=Tryz.zeroValue55
 t46:=Tryz.underlying267
 a46:=Tryz.isAgg267
 z46:=Tryz.sizeOf267
 v46:=Tryz.zeroValue267
 t51:=Tryz.underlying286
 a51:=Tryz.isAgg286
 z51:=Tryz.sizeOf286
 v51:=Tryz.zeroValue286
 t53:=Tryz.underlying248
 a53:=Tryz.isAgg248
 z53:=Tryz.sizeOf248
 v53:=Tryz.zeroValue248
 t171:=Tryz.underlying247
 a171:=Tryz.isAgg247
 z171:=Tryz.sizeOf247
 v171:=Tryz.zeroValue247
 t173:=Tryz.underlying251
 a173:=Tryz.isAgg251
 z173:=Tryz.sizeOf251
 v173:=Tryz.zeroValue251
 t212:=Tryz.underlying285
 a212:=Tryz.isAgg285
 z212:=Tryz.sizeOf285
 v212:=Tryz.zeroValue285
 t213:=Tryz.underlying287
 a213:=Tryz.isAgg287
 z213:=Tryz.sizeOf287
 t232:=Tryz.underlying334
 a232:=Tryz.isAgg334
 z232:=Tryz.sizeOf334
 v232:=Tryz.zeroValue334
 t233:=Tryz.underlying335
 a233:=Tryz.isAgg335
 z233:=Tryz.sizeOf335
 v233:=Tryz.zeroValue335
 g17:=by kernel_rfl
 g18:=by kernel_rfl
 g19:=by kernel_rfl
 i0:=by kernel_rfl
 i2:=by kernel_rfl
 i3:=by kernel_rfl
 i4:=by kernel_rfl
 i5:=by kernel_rfl
 i9:=by kernel_rfl
 i20:=by kernel_rfl
 i37:=by kernel_rfl
 i46:=by kernel_rfl
 i51:=by kernel_rfl
 i53:=by kernel_rfl
 i171:=by kernel_rfl
 i173:=by kernel_rfl
 i212:=by kernel_rfl
 i232:=by kernel_rfl
 i233:=by kernel_rfl
 m17:=by kernel_rfl
 m18:=by kernel_rfl
 m19:=by kernel_rfl }
open Go.RowKit in
theorem Tryz.strconv_FormatInt_10(n:Int) (h0:-9223372036854775808<=n) (h1:n<=9223372036854775807) (w:World) (htab:Lib.TabIs Tryz.prog w "internal/strconv.uint64pow10" .u64 Lib.pow10Tab) :
  Calls Tryz.prog 124 #[.int .i64 n,.int .i64 10] w fun e w'=>e=.returned (.string ⟨(Lib.itoa n).toArray⟩)/\∃k os,w'=Sort.grow (w.drewN k) os:=Any.strconv_FormatInt_10 Tryz.lays173 n h0 h1 w htab
end Go.Proofs


namespace Go.Fw
open Go
open Go.RowKit (Below)
section
variable{P:Program}{T:Tab}{n:Nat}{Q:Exit->Act->World->Prop}{k:List It}{e:Env}{w0 w w':World}{L L':List Ch}
theorem SH.append(h:SH w0 w L)(hL:SH w w' L')(hD:∀c,c∈L'->∀b,c.D b->b<w0.heap.size):SH w0 w' (L'++L):=by
 have h':=h.ext hL.below;refine⟨h'.below,fun c hc=>?_,fun c hc=>?_,?_⟩
 ·rcases List.mem_append.1 hc with hc|hc
  ·obtain⟨p,s⟩:=hL.holds c hc;exact⟨p,fun b hb=>⟨Nat.le_trans h.below.size (s b hb).1,(s b hb).2⟩⟩
  ·exact h'.holds c hc
 ·rcases List.mem_append.1 hc with hc|hc
  ·exact hD c hc
  ·exact h.elder c hc
 ·refine List.pairwise_append.2 ⟨hL.apart,h.apart,fun c hc d hd b hcb hdb=>?_⟩;have h1:=((hL.holds c hc).2 b hcb).1;have h2:=((h.holds d hd).2 b hdb).2;omega
end
end Go.Fw


namespace Go.Fw
open Go Go.Sort
open Go.RowKit (Below)
section
variable{P:Program}{T:Tab}{n:Nat}{Q:Exit->Act->World->Prop}{k:List It}{e:Env}{w0 w w':World}{L L':List Ch}
end
end Go.Fw


namespace Go.Fw
open Go
open Go.RowKit (Below)
section
variable{w0 w w':World}{L:List Ch}{α:Type}[GoT α]
def RAll(w:World)(A:Nat->Prop):List α->List (Raw α)->Prop
 | [],[]=>True
 |x::xs,r::rs=>GoT.R w A x r.cs/\RAll w A xs rs
 |_,_=>False
theorem RAll.at{A:Nat->Prop}:∀{xs:List α} {rs:List (Raw α)},RAll w A xs rs->xs.length=rs.length/\∀(i:Nat) x,xs[i]?=U x->∃r,rs[i]?=U r/\GoT.R w A x r.cs
 | [],[],_=>⟨rfl,fun i x h=>by simp at h⟩
 |x::xs,[],h=>h.elim
 | [],r::rs,h=>h.elim
 |x::xs,r::rs,h=>by
  obtain⟨hl,ha⟩:=RAll.at h.2;refine⟨by simp[hl],fun i y hy=>?_⟩;cases i with
  |zero=>simp only[List.getElem?_cons_zero,Option.some.injEq] at hy⊢;subst hy;exact⟨r,rfl,h.1⟩
  |succ i=>simp only[List.getElem?_cons_succ] at hy⊢;exact ha i y hy
end
end Go.Fw


namespace Go.Fw
open Go
end Go.Fw


namespace Go.Fw
open Go
open Go.RowKit (Below)
section
variable{P:Program}{T:Tab}{n:Nat}{Q:Exit->Act->World->Prop}{k:List It}{e:Env}{w0 w:World}{L:List Ch}
variable{α:Type}[GoT α]{S S1:Nat->Prop}{xs ys:List α}{p p':Option Addr}{c c':Nat}
end
section
variable{α β γ:Type}
def Emp(o:Option (List α)):Prop:=∀r,o=U r->r=[]
theorem Emp.none:Emp (G:Option (List α)):=fun _ h=>by cases h
theorem Emp.noneB{f:β->Option (List α)}:Emp ((Option.none:Option β).bind f):=fun _ h=>by cases h
theorem Emp.nil:Emp (U ([]:List α)):=fun _ h=>(Option.some.inj h).symm
theorem Emp.bif{c:Bool}{a b:Option (List α)}(h1:Emp a)(h2:Emp b):Emp (bif c then a else b):=by cases c<;>assumption
theorem Emp.sub{xs:List β}{lo:Int}{f:List β->Option (List α)}(h:Emp (f [])):Emp ((subS xs lo ((0:Nat):Int)).bind f):=fun r hr=>by
 cases hs:subS xs lo ((0:Nat):Int) with
 |none=>rw[hs] at hr;cases hr
 |some y=>
  rw[hs] at hr;obtain⟨_,_,_,e⟩:=qju hs;have:y=[]:=by rw[<-e];simp
  subst this;exact h r hr
theorem Emp.bind{x:Option β}{f:β->Option (List α)}(h:∀y,Emp (f y)):Emp (x.bind f):=by
 cases x with
 |none=>exact Emp.noneB
 |some y=>exact h y
end
end Go.Fw


namespace Go.Fw
open Go
section
variable{ε:Type}
variable{ρ σ τ:Type}
end

end Go.Fw


namespace Go.Fw
open Go
open Go.RowKit (Below)
structure Same where
 w:World
 K:Nat->Prop
instance instSame:GoT Same where
 k:=1
 agg:=false
 zero:=⟨default,fun _=>False⟩
 zc:=[.bool true]
 R w S x cs:=cs=[.bool true]/\∀b,x.K b->S b/\w.heap[b]?=x.w.heap[b]?
 O w S x cs:=cs=[.bool true]/\∀b,x.K b->S b/\w.heap[b]?=x.w.heap[b]?
 kpos:=by decide
 noagg _:=rfl
 len h:=by obtain⟨rfl,_⟩:=h;rfl
 one h:=by obtain⟨rfl,_⟩:=h;simp[Value.oneCell']
 loc h hs:=⟨h.1,fun b hb=>⟨(h.2 b hb).1,(hs b (h.2 b hb).1).trans (h.2 b hb).2⟩⟩
 mono h hs:=⟨h.1,fun b hb=>⟨hs b (h.2 b hb).1,(h.2 b hb).2⟩⟩
 toR h:=h
 locO h hs:=⟨h.1,fun b hb=>⟨(h.2 b hb).1,(hs b (h.2 b hb).1).trans (h.2 b hb).2⟩⟩
 monoO h hs:=⟨h.1,fun b hb=>⟨hs b (h.2 b hb).1,(h.2 b hb).2⟩⟩
 zO _ _:=⟨rfl,fun _ h=>h.elim⟩
def FS(F:List Ch)(b:Nat):Prop:=∃d,d∈F/\d.S b
abbrev Fr(w0:World)(F:List Ch)(b:Nat):Prop:=FS F b\/old w0 b
abbrev same(w0 w:World)(F:List Ch):Fct:=fct (⟨w,Fr w0 F⟩:Same) [.bool true]
section
variable{P:Program}{T:Tab}{n:Nat}{Q:Exit->Act->World->Prop}{k:List It}{e:Env}{w0 w w':World}{L L' F:List Ch}
theorem SH.frame(L:List Ch)(h:SH w0 w (L++F)):SH w0 w (L++[Ch.grp (Fw.old w0) (FS F) [same w0 w F]]):=by
 have hp:=List.pairwise_append.1 h.apart;refine⟨h.below,fun c hc=>?_,fun c hc=>?_,List.pairwise_append.2 ⟨hp.1,List.pairwise_singleton ..,fun c hc d hd b hb=>?_⟩⟩
 ·rcases List.mem_append.1 hc with hc|hc
  ·exact h.holds c (List.mem_append_left _ hc)
  ·obtain rfl:=List.mem_singleton.1 hc;refine⟨fun f hf=>?_,fun b hb=>?_⟩
   ·obtain rfl:=List.mem_singleton.1 hf;exact⟨rfl,fun b hb=>⟨hb,rfl⟩⟩
   ·obtain⟨d,hd,hb⟩:=hb;exact(h.holds d (List.mem_append_right _ hd)).2 b hb
 ·rcases List.mem_append.1 hc with hc|hc
  ·exact h.elder c (List.mem_append_left _ hc)
  ·obtain rfl:=List.mem_singleton.1 hc;exact fun b hb=>hb
 ·obtain rfl:=List.mem_singleton.1 hd;rintro⟨d,hd,hdb⟩;exact hp.2.2 c hc d hd b hb hdb
variable{α:Type}[GoT α]{x:α}{cs:List Value}{S D:Nat->Prop}{fs:List Fct}
end
section
open Go.ChangeShapes Go.RowKit
variable{H:Type}{enc:TypeId×Value->H}{P:Program}{w:World}{base:Nat}{spare:Nat->Bool}{held:Bool}
end

section
variable{P:Program}{T:Tab}{n:Nat}{Q:Exit->Act->World->Prop}{k:List It}{e:Env}{w0 w w':World}{L:List Ch}
variable{α β:Type}[GoT α][GoT β]{S Sr Se D:Nat->Prop}{xs ys:List α}{p p':Option Addr}{c c':Nat}{fs:List Fct}{x:α}{cs:List Value}
theorem RAll.loc{A:Nat->Prop}:∀{xs:List α} {rs:List (Raw α)},RAll w A xs rs->(∀b,A b->w'.heap[b]?=w.heap[b]?)->RAll w' A xs rs
 | [],[],_,_=>trivial
 |_::_,[],h,_=>h.elim
 | [],_::_,h,_=>h.elim
 |_::_,_::_,h,hb=>⟨GoT.loc h.1 hb,RAll.loc h.2 hb⟩
theorem RAll.mono{A B:Nat->Prop}(hb:∀b,A b->B b):∀{xs:List α} {rs:List (Raw α)},RAll w A xs rs->RAll w B xs rs
 | [],[],_=>trivial
 |_::_,[],h=>h.elim
 | [],_::_,h=>h.elim
 |_::_,_::_,h=>⟨GoT.mono h.1 hb,RAll.mono hb h.2⟩
theorem RAll.app{A:Nat->Prop}:∀{xs:List α} {rs:List (Raw α)} {ys:List α} {qs:List (Raw α)},RAll w A xs rs->RAll w A ys qs->RAll w A (xs++ys) (rs++qs)
 | [],[],_,_,_,h=>h
 |_::_,[],_,_,h,_=>h.elim
 | [],_::_,_,_,h,_=>h.elim
 |_::_,_::_,_,_,h,h'=>⟨h.1,RAll.app h.2 h'⟩
theorem RAll.of{A:Nat->Prop}:∀{xs:List α} {rs:List (Raw α)},xs.length=rs.length->(∀(i:Nat) (x:α) (r:Raw α),xs[i]?=U x->rs[i]?=U r->GoT.R w A x r.cs)->RAll w A xs rs
 | [],[],_,_=>trivial
 |_::_,[],h,_=>by cases h
 | [],_::_,h,_=>by cases h
 |x::xs,r::rs,h,ha=>⟨ha 0 x r Z Z,RAll.of (by simpa using h) fun i y q hy hq=>ha (i+1) y q (by simpa using hy) (by simpa using hq)⟩
theorem RAll.len{A:Nat->Prop}{rs:List (Raw α)}(h:RAll w A xs rs):xs.length=rs.length:=h.at.1
end
end Go.Fw


namespace Go.Fw
open Go
end Go.Fw


namespace Go.Fw
open Go
open Go.RowKit (Below)
section
variable{P:Program}{T:Tab}{n:Nat}{Q:Exit->Act->World->Prop}{k:List It}{e:Env}{w0 w w':World}{L:List Ch}
end

section
variable{P:Program}{T:Tab}{n:Nat}{e:Env}{w:World}
def b3(a0:Bool)(a1 a2 a3:Int):Array Value:=#[.bool a0,.int .i64 a1,.int .i64 a2,.int .i64 a3]
end
end Go.Fw


namespace Go.Fw
open Go
section
variable{P:Program}{T:Tab}{n:Nat}{e:Env}{w:World}
end
end Go.Fw


namespace Go.Fw
open Go
open Go.RowKit (Below)
section
variable{P:Program}{T:Tab}{n:Nat}{Q:Exit->Act->World->Prop}{k:List It}{e:Env}{w0 w w':World}{L:List Ch}
variable{α β:Type}[GoT α][GoT β]{S Sr Se D:Nat->Prop}{xs ys:List α}{p p':Option Addr}{c c':Nat}{fs:List Fct}{x:α}{cs:List Value}
end

section
variable{w0 w w':World}{L LL F:List Ch}{c:Ch}{fs:List Fct}
end
section
variable{P:Program}{n:Nat}{Q:Exit->Act->World->Prop}{k:List It}
end

def exWords:List ByteArray:=[⟨#[]⟩,⟨#[102,97,108,115,101]⟩,⟨#[99,121,99,108,101,115]⟩,⟨#[109,97,120]⟩,⟨#[109,105,110]⟩]
structure GVar(g:Nat)(cs:List Value) where
 ok:Bool
instance gt_GVar{g:Nat}{cs:List Value}:GoT (GVar g cs) where
 k:=1
 agg:=false
 zero:=⟨false⟩
 zc:=[.pointer G]
 R w S x ds:=match x.ok with
  |true=>ds=[.pointer (U ⟨g,0,G⟩)]/\S g/\∃T fr,w.heap[g]?=U (.cells cs.toArray T fr)
  |false=>ds=[.pointer G]
 O w S x ds:=match x.ok with
  |true=>ds=[.pointer (U ⟨g,0,G⟩)]/\S g/\∃T fr,w.heap[g]?=U (.cells cs.toArray T fr)
  |false=>ds=[.pointer G]
 kpos:=by decide
 noagg _:=rfl
 len {w S x ds} h:=by
  obtain⟨b⟩:=x
  cases b with
  |true=>obtain⟨rfl,_⟩:=h;rfl
  |false=>obtain rfl:ds=_:=h;rfl
 one {w S x ds} h:=by
  obtain⟨b⟩:=x
  cases b with
  |true=>obtain⟨rfl,_⟩:=h;simp[Value.oneCell']
  |false=>obtain rfl:ds=_:=h;simp[Value.oneCell']
 loc {w w' S x ds} h hs:=by
  obtain⟨b⟩:=x
  cases b with
  |true=>obtain⟨h1,h2,T,fr,h3⟩:=h;exact⟨h1,h2,T,fr,by rw[hs _ h2];exact h3⟩
  |false=>exact h
 mono {w S S' x ds} h hs:=by
  obtain⟨b⟩:=x
  cases b with
  |true=>obtain⟨h1,h2,h3⟩:=h;exact⟨h1,hs _ h2,h3⟩
  |false=>exact h
 toR h:=h
 locO {w w' S x ds} h hs:=by
  obtain⟨b⟩:=x
  cases b with
  |true=>obtain⟨h1,h2,T,fr,h3⟩:=h;exact⟨h1,h2,T,fr,by rw[hs _ h2];exact h3⟩
  |false=>exact h
 monoO {w S S' x ds} h hs:=by
  obtain⟨b⟩:=x
  cases b with
  |true=>obtain⟨h1,h2,h3⟩:=h;exact⟨h1,hs _ h2,h3⟩
  |false=>exact h
 zO _ _:=rfl
abbrev GV(g:Nat)(cs:List Value)(w:World)(S:Nat->Prop):Prop:=GoT.R w S (⟨true⟩:GVar g cs) [.pointer (U ⟨g,0,G⟩)]
section
variable{P:Program}{T:Tab}{n:Nat}{e:Env}{w:World}{g:Nat}{cs:List Value}{S:Nat->Prop}
theorem GV.heap(h:GV g cs w S):∃T fr,w.heap[g]?=U (.cells cs.toArray T fr):=h.2.2
theorem GV.mk(T:TypeId)(fr:Nat×Nat)(h:w.heap[g]?=U (.cells cs.toArray T fr)):GV g cs w (Fw.old w):=
 ⟨rfl,(Array.getElem?_eq_some_iff.1 h).1,T,fr,h⟩
theorem GV.var{nm:String}(h:GV g cs w S)(hg:P.globalNamed nm=U g):w.var? P nm=U cs.toArray:=by
 obtain⟨T,fr,hh⟩:=h.heap;unfold World.var?;rw[hg];simp only[jd,hh]
theorem GV.of_var{nm:String}(h:w.var? P nm=U cs.toArray)(hg:P.globalNamed nm=U g):GV g cs w (Fw.old w):=by
 unfold World.var? at h;rw[hg] at h;simp only[jd] at h;split at h
 ·rename_i c T fr hh
  simp only[Option.some.injEq] at h;subst h;exact GV.mk T fr hh
 ·cases h
theorem GV.cells(h:GV g cs w S):CellsAt w g 0 cs:=by
 obtain⟨T,fr,hh⟩:=h.heap;exact CellsAt.of_block hh (fun j v hj=>by simpa using hj)
theorem qqv(hT:TabOk P T){x i:Operand}{t ty d el m:Nat}{ps:String}{af:Array Edge}{gd:Option (Nat×Bool)}{te te':TE}{kd:IntKind}{iv:Int}
  (hx:opv e x=U (.pointer (U ⟨g,0,G⟩))) (hi:opv e i=U (.int kd iv)) (hlt:0<=iv/\iv<(m:Int))
  (hte:T.get t=U te/\te.kind=.arr m el) (hel:T.get el=U te') (hm:te'.size=1):Val P n e ⟨U d,.indexAddr t x i,ty,ps,af,gd⟩ w (.pointer (U ⟨g,0+iv.toNat,G⟩)):=by
 have hb:iv=((iv.toNat:Nat):Int):=by omega
 have h:=qoR (P:=P) (T:=T) (n:=n) (e:=e) (w:=w) (o:=0) (iv:=iv.toNat) (sz:=1) (d:=d) (ty:=ty) (ps:=ps) (af:=af) (g:=gd) hT hx (by rw[<-hb];exact hi) (by omega) hte hel hm;rwa [Nat.mul_one] at h
theorem qqd{xs:List ByteArray}{i:Int}{y:ByteArray}(h:idx xs i=U y):(xs.map Value.string)[i.toNat]?=U (.string y):=by
 rw[List.getElem?_map,(qa8 h).2.2];rfl
theorem qqy(hT:TabOk P T){x:Operand}{t ty d j:Nat}{te:TE}{ps:String}{af:Array Edge}{gd:Option (Nat×Bool)}{v:Value}
  (h:GV g cs w S) (hc:cs[j]?=U v) (hx:opv e x=U (.pointer (U ⟨g,0+j,G⟩))) (hte:T.get t=U te) (ha:te.agg=false):Val P n e ⟨U d,.load t x,ty,ps,af,gd⟩ w v:=
 qhK hT h.cells hx hte (by unfold ld;rw[ha];exact hc)
end
def varsRead(P:Program)(ns:List String):Bool:=ns.all fun n=>match P.globalNamed n with
 |none=>true
 |some g=>match P.globals[g]? with
  |none=>true
  |some x=>P.readableRec x.type&&decide (x.type<P.types.size)
section
open Go.ChangeShapes Go.WideShapes Go.ChangeAt Go.RowKit
variable{P:Program}{H:Type}{enc:TypeId×Value->H}
theorem qk7{n:String}{ns:List String}(h:varsRead P (n::ns)=true){g:Nat}{t:TypeId}(hg:P.globalNamed n=U g)(ht:(P.globals[g]?).map (·.type)=U t):(P.readableRec t=true/\t<P.types.size)/\varsRead P ns=true:=by
 unfold varsRead at h;rw[List.all_cons,jg] at h;refine⟨?_,h.2⟩;have h1:=h.1;simp only[hg] at h1;cases hx:P.globals[g]? with
 |none=>rw[hx] at ht;cases ht
 |some x=>
  rw[hx] at ht;simp only[hx] at h1;obtain rfl:x.type=t:=Option.some.inj ht;simpa using h1
theorem qlG{W W':World}(hb:Below W.heap.size W W'){n:String}{cs:Array Value}(h:W.var? P n=U cs):W'.var? P n=U cs:=by
 unfold World.var? at h⊢;cases hg:P.globalNamed n with
 |none=>rw[hg] at h;cases h
 |some g=>
  rw[hg] at h;simp only[jd] at h⊢;have hlt:g<W.heap.size:=by
   cases hh:W.heap[g]? with
   |none=>rw[hh] at h;cases h
   |some o=>exact(Array.getElem?_eq_some_iff.1 hh).1
  rw[hb.block g hlt];exact h
theorem qkS(hl:laidOutB P=true){W W':World}(hb:Below W.heap.size W W'):∀{ns:List String} {gs:List (DataW H)} {q:List MemPlace},varsRead P ns=true ->
  DataW.TrodVars enc P W (fun _=>true) ns gs q->(∀x∈q,x.block<W.heap.size) ->
  DataW.TrodVars enc P W' (fun b=>decide (b<W.heap.size)) ns gs q/\DataW.TrodVars enc P W' (fun _=>true) ns gs q:=by
 intro ns
 induction ns with
 |nil=>
  intro gs q _ h _;obtain⟨rfl,rfl⟩:=trodVars_none h;exact⟨rfl,rfl⟩
 |cons n ns ih=>
  intro gs q hr h hlt;cases gs with
  |nil=>exact h.elim
  |cons d ds=>
   obtain⟨g,t,cs,fuel,p,q',h1,h2,h3,h4,hs,rfl⟩:=h;obtain⟨⟨r1,r2⟩,hr'⟩:=qk7 hr h1 h2;obtain⟨i1,i2⟩:=ih hr' hs (fun x hx=>hlt x (by simp[hx]));have hlt1:∀x∈p,x.block<W.heap.size:=fun x hx=>hlt x (by simp[hx]);have hd:DataW.Trod enc P W 0 (fun _=>true) true t (.agg cs) d p:=⟨fuel,by simpa [Value.cells] using h4⟩;obtain⟨f1,e1⟩:=Below.trod hl r1 r2 hd hb hlt1;obtain⟨f2,e2⟩:=WideElems.Trod_stays hl r1 r2 hd (W':=W') (sp':=fun _=>true) (fun x hx=>hb.same (hlt1 x hx)) (fun _ _=>rfl);exact⟨⟨g,t,cs,f1,p,q',h1,h2,qlG hb h3,by simpa [Value.cells] using e1,i1,rfl⟩,⟨g,t,cs,f2,p,q',h1,h2,qlG hb h3,by simpa [Value.cells] using e2,i2,rfl⟩⟩
theorem qnZ{fn:Func}{s:ChangeSpec}{apart fresh handsOn again:Bool}{W W':World}{tb:TypeId}{args:Array Value}{ds gs:List (DataW H)}{p:List MemPlace}
  (hl:laidOutB P=true) (hrr:(fn.params.toList.all fun t=>P.readableRec t&&decide (t<P.types.size))=true) (hres:fn.resultTypes=#[tb]) (htb:P.underlying tb=U .bool) (hvr:varsRead P s.vars=true)
  (hr:(s.fn H (ds++gs)).results=[.lit (.bool true)]) (ha:(s.fn H (ds++gs)).args=ds) (hv:(s.fn H (ds++gs)).vars=gs)
  (hW:DataW.Whole enc P fn.params.toList s.vars apart W args.toList ds gs p) (hb:Below W.heap.size W W') :
  s.post enc P fn apart fresh handsOn again W args (.bool true) W':=by
 have hW0:=hW;obtain⟨p0,q0,hA,hV,rfl,hz,hn⟩:=hW;have hlt:∀x∈p0++q0,x.block<W.heap.size:=fun x hx=>hW0.lt x hx;obtain⟨h0',h1'⟩:=qk6 hl hb (fun t ht=>by
  have:=List.all_eq_true.1 hrr t ht;simpa using this) hA (fun x hx=>hlt x (by simp[hx]))
 obtain⟨v0',v1'⟩:=qkS hl hb hvr hV (fun x hx=>hlt x (by simp[hx]));have hR:∀(b:Nat) (sp:Nat->Bool) (hd:Bool),DataW.TrodAll enc P W' b sp hd fn.resultTypes.toList ((Value.bool true).resultList fn.resultTypes.size) (s.fn H (ds++gs)).results []:=by
  intro b sp hd;rw[hres,hr];exact trodAll_mk1 (shut_bool htb true)
 have hR2:(Value.bool true).resultList fn.resultTypes.size=[.bool true]:=by rw[hres];rfl
 refine⟨ds,gs,p0++q0,[],p0,q0,hW0,hR _ _ _,?_,?_,hb.frame _,fun _=>?_⟩
 ·rw[ha];exact h0'
 ·rw[hv];exact v0'
 ·refine⟨ok_one hres Z (okWide_bool_mk htb true),.lit (.bool true)::ds,gs,p0++q0,⟨p0,q0,?_,v1',by simp,?_,?_⟩,fun x hx _=>hx⟩
  ·rw[hR2,hres];exact⟨[],p0,shut_bool htb true,h1',by simp⟩
  ·intro b off hm;rw[hb.frozen (hlt _ hm)];exact hz b off hm
  ·intro hap;exact hn hap
end
section
open Go.ChangeShapes
variable{P:Program}{W:World}
theorem qnp{L:List (String×DataW Unit)}(h:laidMet P L W){nm:String}{d:DataW Unit}(hm:(nm,d)∈L):∃g t cs fuel p,P.globalNamed nm=U g/\(P.globals[g]?).map (·.type)=U t/\W.var? P nm=U cs/\DataW.trod (fun _=>()) P W 0 (fun _=>true) false fuel t cs.toList=U (d,p):=by
 obtain⟨ps,hl,-⟩:=h
 induction L generalizing ps with
 |nil=>cases hm
 |cons x r ih=>
  obtain⟨g,t,cs,fuel,p,q,h1,h2,h3,h4,hs,_⟩:=hl;rcases List.mem_cons.1 hm with e|hm
  ·subst e;exact⟨g,t,cs,fuel,p,h1,h2,h3,h4⟩
  ·exact ih hm q hs
theorem qli{H:Type}{enc:TypeId×Value->H}{base:Nat}{sp:Nat->Bool}{held:Bool}{fuel:Nat}{t e:TypeId}{n:Nat}{cs:List Value}{zs:List ByteArray}{p:List MemPlace}
  (ht:P.underlying t=U (.array n e)) (he:P.underlying e=U .string) (hce:P.cellsOf e=1) (hct:P.cellsOf t=n)
  (h:DataW.trod enc P W base sp held fuel t cs=U (.agg (zs.map fun z=>.lit (.string z.data.toList)),p)):cs=zs.map Value.string:=by
 cases fuel with
 |zero=>simp[DataW.trod] at h
 |succ fuel=>
  simp only[DataW.trod,ht,hce,hct,Nat.mul_one] at h;split at h
  ·rename_i hl
   obtain⟨xs,hm,hx⟩:=Option.map_eq_some_iff.1 h;have hxs:xs.map (·.1)=zs.map fun z=>(DataW.lit (.string z.data.toList):DataW H):=by
    have:=congrArg Prod.fst hx;simpa using this
   have hxl:xs.length=n:=by simpa using Lib.mapM_length hm
   have hzl:zs.length=n:=by
    have:=congrArg List.length hxs;simp at this;omega
   apply List.ext_getElem?;intro i;by_cases hi:i<n
   ·obtain⟨b,hb,hf⟩:=Lib.mapM_at hm i i (by simp[hi]);obtain⟨z,hc,rfl,_⟩:=DataW.trod_string he hf;have h1:cs[i]?=U (.string z):=by
     have:=congrArg (·[0]?) hc;simpa [jr,List.getElem?_drop] using this
    have h2:(xs.map (·.1))[i]?=U (DataW.lit (.string z.data.toList):DataW H):=by simp[hb]
    rw[hxs] at h2;simp only[List.getElem?_map,Option.map_eq_some_iff,DataW.lit.injEq,Lit.string.injEq] at h2;obtain⟨z',hz',e⟩:=h2;have:z'=z:=by
     apply ByteArray.ext;exact Array.toList_inj.1 e
    subst this;simp[h1,hz']
   ·rw[List.getElem?_eq_none (by omega),List.getElem?_eq_none (by simp;omega)]
  ·cases h
end
end Go.Fw


namespace Go.Fw
open Go Go.Proofs Go.Proofs.Tryz
open Go.RowKit (Below)
open Ch renaming own->oW,box->oX,grp->oG
open GoT renaming v->oV
open Go.Bd renaming slice->oS
set_option maxRecDepth 100000
set_option maxHeartbeats 6400000
variable{n:Nat}{w:World}{S:Nat->Prop}{cs1 cs2 cs3 cs4 cs5 cs6 cs7 cs8 cs9:List Value}
structure qN where
 Am:ByteArray
 Bl:Int
 Bj:Int
 Ay:Bool
instance gt_TPin:GoT qN:=isoT (pairT instStr (pairT instInt (pairT instInt instBool))) (fun x=>(x.Am,x.Bl,x.Bj,x.Ay)) ⟨ByteArray.empty,0,0,false⟩ Z true (fun h=>by cases h)
instance fl_TPin:Flat qN:=qfS (pairT instStr (pairT instInt (pairT instInt instBool))) (fun x:qN=>(x.Am,x.Bl,x.Bj,x.Ay)) ⟨ByteArray.empty,0,0,false⟩ Z true (fun h=>by cases h) (qaS _ _ (inferInstanceAs (Flat ByteArray)) (qaS _ _ (inferInstanceAs (Flat Int)) (qaS _ _ (inferInstanceAs (Flat Int)) (inferInstanceAs (Flat Bool)))))
abbrev qjj(x:qN):List Value:=[.string x.Am,vi x.Bl,vi x.Bj,.bool x.Ay]
theorem qav{x:qN}{cs:List Value}(h:GoT.R w S x cs):cs=(qjj x):=by
 obtain⟨_,_,rfl,rfl,⟨_,_,rfl,rfl,⟨_,_,rfl,rfl,rfl⟩⟩⟩:=h;exact Z
theorem qfN(x:qN):GoT.R w S x (qjj x):=have h:=pR (rT x.Am) (pR (rI x.Bl) (pR (rI x.Bj) (rB x.Ay)));h
structure qp where
 Bb:(List Int)
 Ba:(List Int)
 As:(List Int)
instance gt_TTable:GoT qp:=isoT (pairT (@instList Int instInt) (pairT (@instList Int instInt) (@instList Int instInt))) (fun x=>(x.Bb,x.Ba,x.As)) ⟨[],[],[]⟩ Z true (fun h=>by cases h)
abbrev qig(x:qp)(p0 p1 p2:Option Addr)(k0 k1 k2:Nat):List Value:=[oS p0 (x.Bb).length k0,oS p1 (x.Ba).length k1,oS p2 (x.As).length k2]
theorem qaH{x:qp}{cs:List Value}(h:GoT.R w S x cs):∃d a f b g c,cs=(qig x d f g a b c)/\SlR w S x.Bb d a/\SlR w S x.Ba f b/\SlR w S x.As g c:=by
 obtain⟨_,_,rfl,⟨d,a,rfl,i⟩,⟨_,_,rfl,⟨f,b,rfl,k⟩,⟨g,c,rfl,l⟩⟩⟩:=h;exact⟨d,a,f,b,g,c,rfl,i,k,l⟩
theorem qfl(x:qp){d f g:Option Addr}{a b c:Nat}(i:SlR w S x.Bb d a)(k:SlR w S x.Ba f b)(l:SlR w S x.As g c):GoT.R w S x (qig x d f g a b c):=have h:=pR (rS i) (pR (rS k) (rS l));h
theorem qnA{w0:World}{L:List Ch}(x:qp){I0 I1 I2:List Nat}{a b c:List Value}(h:SH w0 w L)(g:PO w L I0 x.Bb a)(i:PO w L I1 x.Ba b)(k:PO w L I2 x.As c)(d:apartB I0 (I1++I2)=true)(f:apartB I1 I2=true):PO w L (I0++(I1++I2)) x (a++(b++c)):=
 (qa2 h g (qa2 h i k f) d)
structure qH where
 Ap:Int
 Av:Int
 To:Int
 Bg:Int
 Be:(List qp)
 Bk:(List qp)
instance gt_TArc:GoT qH:=isoT (pairT instInt (pairT instInt (pairT instInt (pairT instInt (pairT (@instList qp gt_TTable) (@instList qp gt_TTable)))))) (fun x=>(x.Ap,x.Av,x.To,x.Bg,x.Be,x.Bk)) ⟨0,0,0,0,[],[]⟩ Z true (fun h=>by cases h)
abbrev qhD(x:qH)(p0 p1:Option Addr)(k0 k1:Nat):List Value:=[vi x.Ap,vi x.Av,vi x.To,vi x.Bg,oS p0 (x.Be).length k0,oS p1 (x.Bk).length k1]
theorem qV{x:qH}{cs:List Value}(h:GoT.R w S x cs):∃c a d b,cs=(qhD x c d a b)/\SlR w S x.Be c a/\SlR w S x.Bk d b:=by
 obtain⟨_,_,rfl,rfl,⟨_,_,rfl,rfl,⟨_,_,rfl,rfl,⟨_,_,rfl,rfl,⟨_,_,rfl,⟨c,a,rfl,f⟩,⟨d,b,rfl,g⟩⟩⟩⟩⟩⟩:=h;exact⟨c,a,d,b,rfl,f,g⟩
theorem qeF(x:qH){c d:Option Addr}{a b:Nat}(f:SlR w S x.Be c a)(g:SlR w S x.Bk d b):GoT.R w S x (qhD x c d a b):=have h:=pR (rI x.Ap) (pR (rI x.Av) (pR (rI x.To) (pR (rI x.Bg) (pR (rS f) (rS g)))));h
theorem qpK{w0:World}{L:List Ch}(x:qH){I0 I1 I2 I3 I4 I5:List Nat}{a b c d f g:List Value}(h:SH w0 w L)(n:PO w L I0 x.Ap a)(o:PO w L I1 x.Av b)(p:PO w L I2 x.To c)(r:PO w L I3 x.Bg d)(s:PO w L I4 x.Be f)(t:PO w L I5 x.Bk g)(i:apartB I0 (I1++(I2++(I3++(I4++I5))))=true)(k:apartB I1 (I2++(I3++(I4++I5)))=true)(l:apartB I2 (I3++(I4++I5))=true)(b3:apartB I3 (I4++I5)=true)(m:apartB I4 I5=true):PO w L (I0++(I1++(I2++(I3++(I4++I5))))) x (a++(b++(c++(d++(f++g))))):=
 (qa2 h n (qa2 h o (qa2 h p (qa2 h r (qa2 h s t m) b3) l) k) i)
structure qn where
 Am:ByteArray
 Ap:Int
 Ak:(List qN)
 Ar:(List qH)
 Az:(List Int)
 Bo:Int
 Bh:Int
instance gt_TCell:GoT qn:=isoT (pairT instStr (pairT instInt (pairT (@instList qN gt_TPin) (pairT (@instList qH gt_TArc) (pairT (@instList Int instInt) (pairT instInt instInt)))))) (fun x=>(x.Am,x.Ap,x.Ak,x.Ar,x.Az,x.Bo,x.Bh)) ⟨ByteArray.empty,0,[],[],[],0,0⟩ Z true (fun h=>by cases h)
abbrev qcb(x:qn)(p0 p1 p2:Option Addr)(k0 k1 k2:Nat):List Value:=[.string x.Am,vi x.Ap,oS p0 (x.Ak).length k0,oS p1 (x.Ar).length k1,oS p2 (x.Az).length k2,vi x.Bo,vi x.Bh]
theorem qF{x:qn}{cs:List Value}(h:GoT.R w S x cs):∃d a f b g c,cs=(qcb x d f g a b c)/\SlR w S x.Ak d a/\SlR w S x.Ar f b/\SlR w S x.Az g c:=by
 obtain⟨_,_,rfl,rfl,⟨_,_,rfl,rfl,⟨_,_,rfl,⟨d,a,rfl,i⟩,⟨_,_,rfl,⟨f,b,rfl,k⟩,⟨_,_,rfl,⟨g,c,rfl,l⟩,⟨_,_,rfl,rfl,rfl⟩⟩⟩⟩⟩⟩:=h;exact⟨d,a,f,b,g,c,rfl,i,k,l⟩
theorem qgr(x:qn){d f g:Option Addr}{a b c:Nat}(i:SlR w S x.Ak d a)(k:SlR w S x.Ar f b)(l:SlR w S x.Az g c):GoT.R w S x (qcb x d f g a b c):=have h:=pR (rT x.Am) (pR (rI x.Ap) (pR (rS i) (pR (rS k) (pR (rS l) (pR (rI x.Bo) (rI x.Bh))))));h
theorem qo2{w0:World}{L:List Ch}(x:qn){I0 I1 I2 I3 I4 I5 I6:List Nat}{a b c d f g i:List Value}(h:SH w0 w L)(p:PO w L I0 x.Am a)(r:PO w L I1 x.Ap b)(s:PO w L I2 x.Ak c)(t:PO w L I3 x.Ar d)(u:PO w L I4 x.Az f)(v:PO w L I5 x.Bo g)(y:PO w L I6 x.Bh i)(k:apartB I0 (I1++(I2++(I3++(I4++(I5++I6)))))=true)(l:apartB I1 (I2++(I3++(I4++(I5++I6))))=true)(m:apartB I2 (I3++(I4++(I5++I6)))=true)(b3:apartB I3 (I4++(I5++I6))=true)(n:apartB I4 (I5++I6)=true)(o:apartB I5 I6=true):PO w L (I0++(I1++(I2++(I3++(I4++(I5++I6)))))) x (a++(b++(c++(d++(f++(g++i)))))):=
 (qa2 h p (qa2 h r (qa2 h s (qa2 h t (qa2 h u (qa2 h v y o) n) b3) m) l) k)
structure qh where
 Aj:(List qn)
instance gt_TLibrary:GoT qh:=isoT (@instList qn gt_TCell) (fun x=>x.Aj) ⟨[]⟩ Z true (fun h=>by cases h)
theorem qZ{x:qh}{cs:List Value}(h:GoT.R w S x cs):∃b a,cs=[oS b (x.Aj).length a]/\SlR w S x.Aj b a:=by
 obtain⟨b,a,rfl,c⟩:=h;exact⟨b,a,rfl,c⟩
theorem qbg(x:qh){b:Option Addr}{a:Nat}(c:SlR w S x.Aj b a):GoT.R w S x [oS b (x.Aj).length a]:=have h:=rS c;h
theorem qmq{w0:World}{L:List Ch}(x:qh){I0:List Nat}{a:List Value}(_:SH w0 w L)(b:PO w L I0 x.Aj a):PO w L I0 x a:=
 b
structure qd where
 Am:ByteArray
 Bf:Int
 Af:(List Int)
instance gt_TInstance:GoT qd:=isoT (pairT instStr (pairT instInt (@instList Int instInt))) (fun x=>(x.Am,x.Bf,x.Af)) ⟨ByteArray.empty,0,[]⟩ Z true (fun h=>by cases h)
abbrev qfO(x:qd)(p0:Option Addr)(k0:Nat):List Value:=[.string x.Am,vi x.Bf,oS p0 (x.Af).length k0]
theorem qA{x:qd}{cs:List Value}(h:GoT.R w S x cs):∃b a,cs=(qfO x b a)/\SlR w S x.Af b a:=by
 obtain⟨_,_,rfl,rfl,⟨_,_,rfl,rfl,⟨b,a,rfl,c⟩⟩⟩:=h;exact⟨b,a,rfl,c⟩
theorem qdN(x:qd){b:Option Addr}{a:Nat}(c:SlR w S x.Af b a):GoT.R w S x (qfO x b a):=have h:=pR (rT x.Am) (pR (rI x.Bf) (rS c));h
theorem qlX{w0:World}{L:List Ch}(x:qd){I0 I1 I2:List Nat}{a b c:List Value}(h:SH w0 w L)(g:PO w L I0 x.Am a)(i:PO w L I1 x.Bf b)(k:PO w L I2 x.Af c)(d:apartB I0 (I1++I2)=true)(f:apartB I1 I2=true):PO w L (I0++(I1++I2)) x (a++(b++c)):=
 (qa2 h g (qa2 h i k f) d)
structure qK where
 Am:ByteArray
 Bl:Int
 Bm:Int
instance gt_TPort:GoT qK:=isoT (pairT instStr (pairT instInt instInt)) (fun x=>(x.Am,x.Bl,x.Bm)) ⟨ByteArray.empty,0,0⟩ Z true (fun h=>by cases h)
instance fl_TPort:Flat qK:=qfS (pairT instStr (pairT instInt instInt)) (fun x:qK=>(x.Am,x.Bl,x.Bm)) ⟨ByteArray.empty,0,0⟩ Z true (fun h=>by cases h) (qaS _ _ (inferInstanceAs (Flat ByteArray)) (qaS _ _ (inferInstanceAs (Flat Int)) (inferInstanceAs (Flat Int))))
abbrev qkf(x:qK):List Value:=[.string x.Am,vi x.Bl,vi x.Bm]
theorem qab{x:qK}{cs:List Value}(h:GoT.R w S x cs):cs=(qkf x):=by
 obtain⟨_,_,rfl,rfl,⟨_,_,rfl,rfl,rfl⟩⟩:=h;exact Z
theorem qfo(x:qK):GoT.R w S x (qkf x):=have h:=pR (rT x.Am) (pR (rI x.Bl) (rI x.Bm));h
structure qb where
 Aa:(List qd)
 Af:(List ByteArray)
 Ac:(List qK)
instance gt_TDesign:GoT qb:=isoT (pairT (@instList qd gt_TInstance) (pairT (@instList ByteArray instStr) (@instList qK gt_TPort))) (fun x=>(x.Aa,x.Af,x.Ac)) ⟨[],[],[]⟩ Z true (fun h=>by cases h)
abbrev qay(x:qb)(p0 p1 p2:Option Addr)(k0 k1 k2:Nat):List Value:=[oS p0 (x.Aa).length k0,oS p1 (x.Af).length k1,oS p2 (x.Ac).length k2]
theorem qJ{x:qb}{cs:List Value}(h:GoT.R w S x cs):∃d a f b g c,cs=(qay x d f g a b c)/\SlR w S x.Aa d a/\SlR w S x.Af f b/\SlR w S x.Ac g c:=by
 obtain⟨_,_,rfl,⟨d,a,rfl,i⟩,⟨_,_,rfl,⟨f,b,rfl,k⟩,⟨g,c,rfl,l⟩⟩⟩:=h;exact⟨d,a,f,b,g,c,rfl,i,k,l⟩
theorem qas(x:qb){d f g:Option Addr}{a b c:Nat}(i:SlR w S x.Aa d a)(k:SlR w S x.Af f b)(l:SlR w S x.Ac g c):GoT.R w S x (qay x d f g a b c):=have h:=pR (rS i) (pR (rS k) (rS l));h
theorem qmU{w0:World}{L:List Ch}(x:qb){I0 I1 I2:List Nat}{a b c:List Value}(h:SH w0 w L)(g:PO w L I0 x.Aa a)(i:PO w L I1 x.Af b)(k:PO w L I2 x.Ac c)(d:apartB I0 (I1++I2)=true)(f:apartB I1 I2=true):PO w L (I0++(I1++I2)) x (a++(b++c)):=
 (qa2 h g (qa2 h i k f) d)
structure qD where
 Ai:(List Int)
 Bn:(List Int)
 Bj:(List Int)
 Bc:(List Int)
instance gt_TWire:GoT qD:=isoT (pairT (@instList Int instInt) (pairT (@instList Int instInt) (pairT (@instList Int instInt) (@instList Int instInt)))) (fun x=>(x.Ai,x.Bn,x.Bj,x.Bc)) ⟨[],[],[],[]⟩ Z true (fun h=>by cases h)
abbrev qfd(x:qD)(p0 p1 p2 p3:Option Addr)(k0 k1 k2 k3:Nat):List Value:=[oS p0 (x.Ai).length k0,oS p1 (x.Bn).length k1,oS p2 (x.Bj).length k2,oS p3 (x.Bc).length k3]
theorem qaM{x:qD}{cs:List Value}(h:GoT.R w S x cs):∃f a g b i c k d,cs=(qfd x f g i k a b c d)/\SlR w S x.Ai f a/\SlR w S x.Bn g b/\SlR w S x.Bj i c/\SlR w S x.Bc k d:=by
 obtain⟨_,_,rfl,⟨f,a,rfl,l⟩,⟨_,_,rfl,⟨g,b,rfl,m⟩,⟨_,_,rfl,⟨i,c,rfl,n⟩,⟨k,d,rfl,o⟩⟩⟩⟩:=h;exact⟨f,a,g,b,i,c,k,d,rfl,l,m,n,o⟩
theorem qgt(x:qD){f g i k:Option Addr}{a b c d:Nat}(l:SlR w S x.Ai f a)(m:SlR w S x.Bn g b)(n:SlR w S x.Bj i c)(o:SlR w S x.Bc k d):GoT.R w S x (qfd x f g i k a b c d):=have h:=pR (rS l) (pR (rS m) (pR (rS n) (rS o)));h
theorem qoj{w0:World}{L:List Ch}(x:qD){I0 I1 I2 I3:List Nat}{a b c d:List Value}(h:SH w0 w L)(k:PO w L I0 x.Ai a)(l:PO w L I1 x.Bn b)(m:PO w L I2 x.Bj c)(n:PO w L I3 x.Bc d)(f:apartB I0 (I1++(I2++I3))=true)(g:apartB I1 (I2++I3)=true)(i:apartB I2 I3=true):PO w L (I0++(I1++(I2++I3))) x (a++(b++(c++d))):=
 (qa2 h k (qa2 h l (qa2 h m n i) g) f)
structure qm where
 Aq:qh
 Ab:qb
 Ah:(List qD)
instance gt_TBlock:GoT qm:=isoT (pairT gt_TLibrary (pairT gt_TDesign (@instList qD gt_TWire))) (fun x=>(x.Aq,x.Ab,x.Ah)) ⟨(⟨[]⟩:qh),(⟨[],[],[]⟩:qb),[]⟩ Z true (fun h=>by cases h)
abbrev qb6(x:qm)(p0 p1 p2 p3 p4:Option Addr)(k0 k1 k2 k3 k4:Nat):List Value:=[oS p0 (x.Aq.Aj).length k0,oS p1 (x.Ab.Aa).length k1,oS p2 (x.Ab.Af).length k2,oS p3 (x.Ab.Ac).length k3,oS p4 (x.Ah).length k4]
theorem qU{x:qm}{cs:List Value}(h:GoT.R w S x cs):∃g a i b k c l d m f,cs=(qb6 x g i k l m a b c d f)/\SlR w S x.Aq.Aj g a/\SlR w S x.Ab.Aa i b/\SlR w S x.Ab.Af k c/\SlR w S x.Ab.Ac l d/\SlR w S x.Ah m f:=by
 obtain⟨_,_,rfl,⟨g,a,rfl,n⟩,⟨_,_,rfl,⟨_,_,rfl,⟨i,b,rfl,o⟩,⟨_,_,rfl,⟨k,c,rfl,p⟩,⟨l,d,rfl,r⟩⟩⟩,⟨m,f,rfl,s⟩⟩⟩:=h;exact⟨g,a,i,b,k,c,l,d,m,f,rfl,n,o,p,r,s⟩
theorem qnL{w0:World}{L:List Ch}(x:qm){I0 I1 I2:List Nat}{a b c:List Value}(h:SH w0 w L)(g:PO w L I0 x.Aq a)(i:PO w L I1 x.Ab b)(k:PO w L I2 x.Ah c)(d:apartB I0 (I1++I2)=true)(f:apartB I1 I2=true):PO w L (I0++(I1++I2)) x (a++(b++c)):=
 (qa2 h g (qa2 h i k f) d)
structure qk where
 Ap:Int
 Bd:Int
 Av:(List Int)
 Au:(List Int)
 To:(List Int)
instance gt_TException:GoT qk:=isoT (pairT instInt (pairT instInt (pairT (@instList Int instInt) (pairT (@instList Int instInt) (@instList Int instInt))))) (fun x=>(x.Ap,x.Bd,x.Av,x.Au,x.To)) ⟨0,0,[],[],[]⟩ Z true (fun h=>by cases h)
abbrev qeW(x:qk)(p0 p1 p2:Option Addr)(k0 k1 k2:Nat):List Value:=[vi x.Ap,vi x.Bd,oS p0 (x.Av).length k0,oS p1 (x.Au).length k1,oS p2 (x.To).length k2]
theorem qae{x:qk}{cs:List Value}(h:GoT.R w S x cs):∃d a f b g c,cs=(qeW x d f g a b c)/\SlR w S x.Av d a/\SlR w S x.Au f b/\SlR w S x.To g c:=by
 obtain⟨_,_,rfl,rfl,⟨_,_,rfl,rfl,⟨_,_,rfl,⟨d,a,rfl,i⟩,⟨_,_,rfl,⟨f,b,rfl,k⟩,⟨g,c,rfl,l⟩⟩⟩⟩⟩:=h;exact⟨d,a,f,b,g,c,rfl,i,k,l⟩
theorem qk9{w0:World}{L:List Ch}(x:qk){I0 I1 I2 I3 I4:List Nat}{a b c d f:List Value}(h:SH w0 w L)(l:PO w L I0 x.Ap a)(m:PO w L I1 x.Bd b)(n:PO w L I2 x.Av c)(o:PO w L I3 x.Au d)(p:PO w L I4 x.To f)(g:apartB I0 (I1++(I2++(I3++I4)))=true)(i:apartB I1 (I2++(I3++I4))=true)(k:apartB I2 (I3++I4)=true)(b3:apartB I3 I4=true):PO w L (I0++(I1++(I2++(I3++I4)))) x (a++(b++(c++(d++f)))):=
 (qa2 h l (qa2 h m (qa2 h n (qa2 h o p b3) k) i) g)
structure Tplace where
 instance_:Int
 pin:Int
 net:Int
 drives:Bool
instance gt_Tplace:GoT Tplace:=isoT (pairT instInt (pairT instInt (pairT instInt instBool))) (fun x=>(x.instance_,x.pin,x.net,x.drives)) ⟨0,0,0,false⟩ Z true (fun h=>by cases h)
instance fl_Tplace:Flat Tplace:=qfS (pairT instInt (pairT instInt (pairT instInt instBool))) (fun x:Tplace=>(x.instance_,x.pin,x.net,x.drives)) ⟨0,0,0,false⟩ Z true (fun h=>by cases h) (qaS _ _ (inferInstanceAs (Flat Int)) (qaS _ _ (inferInstanceAs (Flat Int)) (qaS _ _ (inferInstanceAs (Flat Int)) (inferInstanceAs (Flat Bool)))))
abbrev qkT(x:Tplace):List Value:=[vi x.instance_,vi x.pin,vi x.net,.bool x.drives]
theorem qd1{x:Tplace}{cs:List Value}(h:GoT.R w S x cs):cs=(qkT x):=by
 obtain⟨_,_,rfl,rfl,⟨_,_,rfl,rfl,⟨_,_,rfl,rfl,rfl⟩⟩⟩:=h;exact Z
theorem qeL(x:Tplace):GoT.R w S x (qkT x):=have h:=pR (rI x.instance_) (pR (rI x.pin) (pR (rI x.net) (rB x.drives)));h
structure qaI where
 Av:Int
 To:Int
 Ap:Int
 Bq:Int
instance gt_TLink:GoT qaI:=isoT (pairT instInt (pairT instInt (pairT instInt instInt))) (fun x=>(x.Av,x.To,x.Ap,x.Bq)) ⟨0,0,0,0⟩ Z true (fun h=>by cases h)
instance fl_TLink:Flat qaI:=qfS (pairT instInt (pairT instInt (pairT instInt instInt))) (fun x:qaI=>(x.Av,x.To,x.Ap,x.Bq)) ⟨0,0,0,0⟩ Z true (fun h=>by cases h) (qaS _ _ (inferInstanceAs (Flat Int)) (qaS _ _ (inferInstanceAs (Flat Int)) (qaS _ _ (inferInstanceAs (Flat Int)) (inferInstanceAs (Flat Int)))))
abbrev qpH(x:qaI):List Value:=[vi x.Av,vi x.To,vi x.Ap,vi x.Bq]
theorem qlA(x:qaI):GoT.R w S x (qpH x):=have h:=pR (rI x.Av) (pR (rI x.To) (pR (rI x.Ap) (rI x.Bq)));h
structure Tview where
 Bi:qm
 places:(List Tplace)
 links:(List qaI)
 loads:(List Int)
 delays:(List (List Int))
 extras:(List Int)
instance gt_Tview:GoT Tview:=isoT (pairT gt_TBlock (pairT (@instList Tplace gt_Tplace) (pairT (@instList qaI gt_TLink) (pairT (@instList Int instInt) (pairT (@instList (List Int) (@instList Int instInt)) (@instList Int instInt)))))) (fun x=>(x.Bi,x.places,x.links,x.loads,x.delays,x.extras)) ⟨(⟨(⟨[]⟩:qh),(⟨[],[],[]⟩:qb),[]⟩:qm),[],[],[],[],[]⟩ Z true (fun h=>by cases h)
abbrev qpJ(x:Tview)(p0 p1 p2 p3 p4 p5 p6 p7 p8 p9:Option Addr)(k0 k1 k2 k3 k4 k5 k6 k7 k8 k9:Nat):List Value:=[oS p0 (x.Bi.Aq.Aj).length k0,oS p1 (x.Bi.Ab.Aa).length k1,oS p2 (x.Bi.Ab.Af).length k2,oS p3 (x.Bi.Ab.Ac).length k3,oS p4 (x.Bi.Ah).length k4,oS p5 (x.places).length k5,oS p6 (x.links).length k6,oS p7 (x.loads).length k7,oS p8 (x.delays).length k8,oS p9 (x.extras).length k9]
theorem qkE{x:Tview}{cs:List Value}(h:GoT.R w S x cs):∃n a o b p c r d s f t g u i v k y l z m,cs=(qpJ x n o p r s t u v y z a b c d f g i k l m)/\SlR w S x.Bi.Aq.Aj n a/\SlR w S x.Bi.Ab.Aa o b/\SlR w S x.Bi.Ab.Af p c/\SlR w S x.Bi.Ab.Ac r d/\SlR w S x.Bi.Ah s f/\SlR w S x.places t g/\SlR w S x.links u i/\SlR w S x.loads v k/\SlR w S x.delays y l/\SlR w S x.extras z m:=by
 obtain⟨_,_,rfl,⟨_,_,rfl,⟨n,a,rfl,A⟩,⟨_,_,rfl,⟨_,_,rfl,⟨o,b,rfl,B⟩,⟨_,_,rfl,⟨p,c,rfl,C⟩,⟨r,d,rfl,D⟩⟩⟩,⟨s,f,rfl,F⟩⟩⟩,⟨_,_,rfl,⟨t,g,rfl,H⟩,⟨_,_,rfl,⟨u,i,rfl,I⟩,⟨_,_,rfl,⟨v,k,rfl,J⟩,⟨_,_,rfl,⟨y,l,rfl,K⟩,⟨z,m,rfl,L⟩⟩⟩⟩⟩⟩:=h;exact⟨n,a,o,b,p,c,r,d,s,f,t,g,u,i,v,k,y,l,z,m,rfl,A,B,C,D,F,H,I,J,K,L⟩
structure qha where
 e0:ByteArray
 e1:ByteArray
 e2:ByteArray
 e3:ByteArray
 e4:ByteArray
instance gt_TA5_ByteArray:GoT qha:=isoT (pairT instStr (pairT instStr (pairT instStr (pairT instStr instStr)))) (fun x=>(x.e0,x.e1,x.e2,x.e3,x.e4)) ⟨ByteArray.empty,ByteArray.empty,ByteArray.empty,ByteArray.empty,ByteArray.empty⟩ Z true (fun h=>by cases h)
instance fl_TA5_ByteArray:Flat qha:=qfS (pairT instStr (pairT instStr (pairT instStr (pairT instStr instStr)))) (fun x:qha=>(x.e0,x.e1,x.e2,x.e3,x.e4)) ⟨ByteArray.empty,ByteArray.empty,ByteArray.empty,ByteArray.empty,ByteArray.empty⟩ Z true (fun h=>by cases h) (qaS _ _ (inferInstanceAs (Flat ByteArray)) (qaS _ _ (inferInstanceAs (Flat ByteArray)) (qaS _ _ (inferInstanceAs (Flat ByteArray)) (qaS _ _ (inferInstanceAs (Flat ByteArray)) (inferInstanceAs (Flat ByteArray))))))
structure Tl05Place where
 instance_:Int
 pin:Int
 net:Int
 drives:Bool
instance gt_Tl05Place:GoT Tl05Place:=isoT (pairT instInt (pairT instInt (pairT instInt instBool))) (fun x=>(x.instance_,x.pin,x.net,x.drives)) ⟨0,0,0,false⟩ Z true (fun h=>by cases h)
instance fl_Tl05Place:Flat Tl05Place:=qfS (pairT instInt (pairT instInt (pairT instInt instBool))) (fun x:Tl05Place=>(x.instance_,x.pin,x.net,x.drives)) ⟨0,0,0,false⟩ Z true (fun h=>by cases h) (qaS _ _ (inferInstanceAs (Flat Int)) (qaS _ _ (inferInstanceAs (Flat Int)) (qaS _ _ (inferInstanceAs (Flat Int)) (inferInstanceAs (Flat Bool)))))
abbrev qid(x:Tl05Place):List Value:=[vi x.instance_,vi x.pin,vi x.net,.bool x.drives]
theorem qd2{x:Tl05Place}{cs:List Value}(h:GoT.R w S x cs):cs=(qid x):=by
 obtain⟨_,_,rfl,rfl,⟨_,_,rfl,rfl,⟨_,_,rfl,rfl,rfl⟩⟩⟩:=h;exact Z
theorem qeA(x:Tl05Place):GoT.R w S x (qid x):=have h:=pR (rI x.instance_) (pR (rI x.pin) (pR (rI x.net) (rB x.drives)));h
structure qx where
 e0:Int
 e1:Int
instance gt_TA2_Int:GoT qx:=isoT (pairT instInt instInt) (fun x=>(x.e0,x.e1)) ⟨0,0⟩ Z true (fun h=>by cases h)
instance fl_TA2_Int:Flat qx:=qfS (pairT instInt instInt) (fun x:qx=>(x.e0,x.e1)) ⟨0,0⟩ Z true (fun h=>by cases h) (qaS _ _ (inferInstanceAs (Flat Int)) (inferInstanceAs (Flat Int)))
abbrev qly(x:qx):List Value:=[vi x.e0,vi x.e1]
theorem qmb{x:qx}{cs:List Value}(h:GoT.R w S x cs):cs=(qly x):=by
 obtain⟨_,_,rfl,rfl,rfl⟩:=h;exact Z
theorem qbv(x:qx):GoT.R w S x (qly x):=have h:=pR (rI x.e0) (rI x.e1);h
structure qf3 where
 Bp:Int
 Br:Int
instance gt_TSpan:GoT qf3:=isoT (pairT instInt instInt) (fun x=>(x.Bp,x.Br)) ⟨0,0⟩ Z true (fun h=>by cases h)
instance fl_TSpan:Flat qf3:=qfS (pairT instInt instInt) (fun x:qf3=>(x.Bp,x.Br)) ⟨0,0⟩ Z true (fun h=>by cases h) (qaS _ _ (inferInstanceAs (Flat Int)) (inferInstanceAs (Flat Int)))
abbrev qnv(x:qf3):List Value:=[vi x.Bp,vi x.Br]
theorem qnh{x:qf3}{cs:List Value}(h:GoT.R w S x cs):cs=(qnv x):=by
 obtain⟨_,_,rfl,rfl,rfl⟩:=h;exact Z
theorem qlM(x:qf3):GoT.R w S x (qnv x):=have h:=pR (rI x.Bp) (rI x.Br);h
def tab:Tab:=[ (2,⟨.int .i64,1,8,U (vi 0),[]⟩),(3,⟨.int .i64,1,8,U (vi 0),[]⟩),(4,⟨.bool,1,1,U (.bool false),[]⟩),(5,⟨.int .u8,1,1,U (.int .u8 0),[]⟩),(9,⟨.str,1,16,U (.string ByteArray.empty),[]⟩),(22,⟨.slice 158,1,24,U (.slice G 0 0),[]⟩),(24,⟨.struct,1,24,U (.agg #[.slice G 0 0]),[(0,1,U false)]⟩),(25,⟨.slice 160,1,24,U (.slice G 0 0),[]⟩),(26,⟨.slice 9,1,24,U (.slice G 0 0),[]⟩),(27,⟨.slice 163,1,24,U (.slice G 0 0),[]⟩),(29,⟨.struct,3,72,U (.agg #[.slice G 0 0,.slice G 0 0,.slice G 0 0]),[(0,1,U false),(1,1,U false),(2,1,U false)]⟩),(30,⟨.slice 103,1,24,U (.slice G 0 0),[]⟩),(32,⟨.struct,5,120,U (.agg #[.slice G 0 0,.slice G 0 0,.slice G 0 0,.slice G 0 0,.slice G 0 0]),[(0,1,U true),(1,3,U true),(4,1,U false)]⟩),(33,⟨.slice 2,1,24,U (.slice G 0 0),[]⟩),(35,⟨.struct,5,88,U (.agg #[vi 0,vi 0,.slice G 0 0,.slice G 0 0,.slice G 0 0]),[(0,1,U false),(1,1,U false),(2,1,U false),(3,1,U false),(4,1,U false)]⟩),(39,⟨.slice 169,1,24,U (.slice G 0 0),[]⟩),(41,⟨.struct,1,24,U (.agg #[.slice G 0 0]),[(0,1,U false)]⟩),(42,⟨.slice 121,1,24,U (.slice G 0 0),[]⟩),(43,⟨.slice 172,1,24,U (.slice G 0 0),[]⟩),(45,⟨.struct,3,72,U (.agg #[.slice G 0 0,.slice G 0 0,.slice G 0 0]),[(0,1,U false),(1,1,U false),(2,1,U false)]⟩),(46,⟨.slice 109,1,24,U (.slice G 0 0),[]⟩),(48,⟨.struct,5,120,U (.agg #[.slice G 0 0,.slice G 0 0,.slice G 0 0,.slice G 0 0,.slice G 0 0]),[(0,1,U true),(1,3,U true),(4,1,U false)]⟩),(50,⟨.struct,5,88,U (.agg #[vi 0,vi 0,.slice G 0 0,.slice G 0 0,.slice G 0 0]),[(0,1,U false),(1,1,U false),(2,1,U false),(3,1,U false),(4,1,U false)]⟩),(55,⟨.slice 5,1,24,U (.slice G 0 0),[]⟩),(89,⟨.slice 33,1,24,U (.slice G 0 0),[]⟩),(103,⟨.struct,4,96,U (.agg #[.slice G 0 0,.slice G 0 0,.slice G 0 0,.slice G 0 0]),[(0,1,U false),(1,1,U false),(2,1,U false),(3,1,U false)]⟩),(109,⟨.struct,4,96,U (.agg #[.slice G 0 0,.slice G 0 0,.slice G 0 0,.slice G 0 0]),[(0,1,U false),(1,1,U false),(2,1,U false),(3,1,U false)]⟩),(112,⟨.slice 115,1,24,U (.slice G 0 0),[]⟩),(115,⟨.struct,4,32,U (.agg #[vi 0,vi 0,vi 0,.bool false]),[(0,1,U false),(1,1,U false),(2,1,U false),(3,1,U false)]⟩),(117,⟨.slice 126,1,24,U (.slice G 0 0),[]⟩),(119,⟨.struct,10,240,U (.agg #[.slice G 0 0,.slice G 0 0,.slice G 0 0,.slice G 0 0,.slice G 0 0,.slice G 0 0,.slice G 0 0,.slice G 0 0,.slice G 0 0,.slice G 0 0]),[(0,5,U true),(5,1,U false),(6,1,U false),(7,1,U false),(8,1,U false),(9,1,U false)]⟩),(121,⟨.struct,3,48,U (.agg #[.string ByteArray.empty,vi 0,.slice G 0 0]),[(0,1,U false),(1,1,U false),(2,1,U false)]⟩),(126,⟨.struct,4,32,U (.agg #[vi 0,vi 0,vi 0,vi 0]),[(0,1,U false),(1,1,U false),(2,1,U false),(3,1,U false)]⟩),(131,⟨.arr 5 9,5,80,U (.agg #[.string ByteArray.empty,.string ByteArray.empty,.string ByteArray.empty,.string ByteArray.empty,.string ByteArray.empty]),[]⟩),(146,⟨.slice 150,1,24,U (.slice G 0 0),[]⟩),(150,⟨.struct,4,32,U (.agg #[vi 0,vi 0,vi 0,.bool false]),[(0,1,U false),(1,1,U false),(2,1,U false),(3,1,U false)]⟩),(155,⟨.slice 238,1,24,U (.slice G 0 0),[]⟩),(156,⟨.slice 242,1,24,U (.slice G 0 0),[]⟩),(158,⟨.struct,7,112,U (.agg #[.string ByteArray.empty,vi 0,.slice G 0 0,.slice G 0 0,.slice G 0 0,vi 0,vi 0]),[(0,1,U false),(1,1,U false),(2,1,U false),(3,1,U false),(4,1,U false),(5,1,U false),(6,1,U false)]⟩),(160,⟨.struct,3,48,U (.agg #[.string ByteArray.empty,vi 0,.slice G 0 0]),[(0,1,U false),(1,1,U false),(2,1,U false)]⟩),(163,⟨.struct,3,32,U (.agg #[.string ByteArray.empty,vi 0,vi 0]),[(0,1,U false),(1,1,U false),(2,1,U false)]⟩),(166,⟨.slice 191,1,24,U (.slice G 0 0),[]⟩),(167,⟨.slice 183,1,24,U (.slice G 0 0),[]⟩),(169,⟨.struct,7,112,U (.agg #[.string ByteArray.empty,vi 0,.slice G 0 0,.slice G 0 0,.slice G 0 0,vi 0,vi 0]),[(0,1,U false),(1,1,U false),(2,1,U false),(3,1,U false),(4,1,U false),(5,1,U false),(6,1,U false)]⟩),(172,⟨.struct,3,32,U (.agg #[.string ByteArray.empty,vi 0,vi 0]),[(0,1,U false),(1,1,U false),(2,1,U false)]⟩),(176,⟨.slice 3,1,24,U (.slice G 0 0),[]⟩),(181,⟨.slice 276,1,24,U (.slice G 0 0),[]⟩),(183,⟨.struct,6,80,U (.agg #[vi 0,vi 0,vi 0,vi 0,.slice G 0 0,.slice G 0 0]),[(0,1,U false),(1,1,U false),(2,1,U false),(3,1,U false),(4,1,U false),(5,1,U false)]⟩),(184,⟨.slice 186,1,24,U (.slice G 0 0),[]⟩),(186,⟨.arr 2 2,2,16,U (.agg #[vi 0,vi 0]),[]⟩),(191,⟨.struct,4,40,U (.agg #[.string ByteArray.empty,vi 0,vi 0,.bool false]),[(0,1,U false),(1,1,U false),(2,1,U false),(3,1,U false)]⟩),(238,⟨.struct,4,40,U (.agg #[.string ByteArray.empty,vi 0,vi 0,.bool false]),[(0,1,U false),(1,1,U false),(2,1,U false),(3,1,U false)]⟩),(240,⟨.slice 306,1,24,U (.slice G 0 0),[]⟩),(242,⟨.struct,6,80,U (.agg #[vi 0,vi 0,vi 0,vi 0,.slice G 0 0,.slice G 0 0]),[(0,1,U false),(1,1,U false),(2,1,U false),(3,1,U false),(4,1,U false),(5,1,U false)]⟩),(267,⟨.int .u64,1,8,U (.int .u64 0),[]⟩),(276,⟨.struct,3,72,U (.agg #[.slice G 0 0,.slice G 0 0,.slice G 0 0]),[(0,1,U false),(1,1,U false),(2,1,U false)]⟩),(306,⟨.struct,3,72,U (.agg #[.slice G 0 0,.slice G 0 0,.slice G 0 0]),[(0,1,U false),(1,1,U false),(2,1,U false)]⟩),(321,⟨.struct,2,16,U (.agg #[vi 0,vi 0]),[(0,1,U false),(1,1,U false)]⟩)]
theorem qc:TabOk prog tab:=TabOk.mk (by kernel_rfl)
theorem rp{n:Nat}{Q:Exit->Act->World->Prop}{k:List It}{e:Env}{w:World}{all:Array Oper}{l:List Oper}{a:Op}{d t:Nat}{ps:String}{af:Array Edge}{v:Value}
  (h:pev tab e a=U v) (c:Nat.blt d n=true) (b:Run prog n Q (.ops all l::k) ((d,v)::e) w):Run prog n Q (.ops all (⟨U d,a,t,ps,af,G⟩::l)::k) e w:=r_p qc h c b
theorem dp{n:Nat}{Q:Exit->Act->World->Prop}{k:List It}{e:Env}{w:World}{all:Array Oper}{l:List Oper}{a:Op}{d t:Nat}{ps:String}{af:Array Edge}{v:Value}
  (h:pev tab e a=U v) (c:Nat.blt d n=true) (b:RunD prog n Q k all w l ((d,v)::e)):RunD prog n Q k all w (⟨U d,a,t,ps,af,G⟩::l) e:=d_p qc h c b
section
variable{P:Program}{n:Nat}{Q:Exit->Act->World->Prop}{k:List It}{e:Env}{w:World}
theorem zSR{c:Nat}{a:List Oper}{b:Code}(h:Run P n Q (.ops a.toArray a::.code b::k) e w):Run P n Q (.code (.seq (.region c a.toArray false) b)::k) e w:=qeu <|qhd h
theorem zKSR{c:Nat}{a:List Oper}{b:Code}(h:Run P n Q (.ops a.toArray a::.code b::k) e w):Run P n Q (.code .skip::.code (.seq (.region c a.toArray false) b)::k) e w:=qe3 <|qeu <|qhd h
theorem zNSR{c:Array Oper}{d:Nat}{a:List Oper}{b:Code}(h:Run P n Q (.ops a.toArray a::.code b::k) e w):Run P n Q (.ops c []::.code (.seq (.region d a.toArray false) b)::k) e w:=qdH <|qeu <|qhd h
theorem zKS{a:Code}{b:Code}(h:Run P n Q (.code a::.code b::k) e w):Run P n Q (.code .skip::.code (.seq a b)::k) e w:=qe3 <|qeu h
theorem zNS{c:Array Oper}{a:Code}{b:Code}(h:Run P n Q (.code a::.code b::k) e w):Run P n Q (.ops c []::.code (.seq a b)::k) e w:=qdH <|qeu h
theorem zNSS{d:Array Oper}{b:Code}{c:Code}{a:Code}(h:Run P n Q (.code b::.code c::.code a::k) e w):Run P n Q (.ops d []::.code (.seq (.seq b c) a)::k) e w:=qdH <|qeu <|qeu h
theorem zKSB{a:Nat}{c:Code}{b:Code}(h:Run P n Q (.code c::.blk a::.code b::k) e w):Run P n Q (.code .skip::.code (.seq (.block a c) b)::k) e w:=qe3 <|qeu <|ql h
theorem zKSBSR{b:Nat}{f:Nat}{a:List Oper}{d:Code}{c:Code}(h:Run P n Q (.ops a.toArray a::.code d::.blk b::.code c::k) e w):Run P n Q (.code .skip::.code (.seq (.block b (.seq (.region f a.toArray false) d)) c)::k) e w:=qe3 <|qeu <|ql <|qeu <|qhd h
theorem zSS{b:Code}{c:Code}{a:Code}(h:Run P n Q (.code b::.code c::.code a::k) e w):Run P n Q (.code (.seq (.seq b c) a)::k) e w:=qeu <|qeu h
theorem zKSS{b:Code}{c:Code}{a:Code}(h:Run P n Q (.code b::.code c::.code a::k) e w):Run P n Q (.code .skip::.code (.seq (.seq b c) a)::k) e w:=qe3 <|qeu <|qeu h
end
section
variable{w0 w:World}{L:List Ch}{n:Nat}{Q:Exit->Act->World->Prop}{k k':List It}{e e':Env}{all:Array Oper}{l l':List Oper}{z:List Nat}
theorem X0(m:Nat)(a:xs tab n m [] k e [] []=U (k',e',z,z))(b:Run prog n Q k' e' w):Run prog n Q k e w:=((qnw (P:=prog) (Q:=Q) (w:=w) qc m _ _ _ _ _ _ _ _ _ (fun _ h=>by cases h) rfl a).2 rfl).2 b
theorem Y0(m:Nat)(a:xd tab n all m [] l e [] []=U (l',e',z,z))(b:RunD prog n Q k all w l' e'):RunD prog n Q k all w l e:=((qpY (P:=prog) (Q:=Q) (k:=k) (w:=w) (all:=all) qc m _ _ _ _ _ _ _ _ _ (fun _ h=>by cases h) rfl a).2 rfl).2 b
theorem X1(m:Nat)(i0:Nat){b c:Nat}{a:List Value}(h:SH w0 w L)(d:(L[i0]?,xs tab n m [(b,a)] k e [] [])=(U (oX b a c),U (k',e',z,z)))(g:Run prog n Q k' e' w):Run prog n Q k e w:=by
 simp only[Prod.mk.injEq] at d;exact((qnw (P:=prog) (Q:=Q) (w:=w) qc m _ _ _ _ _ _ _ _ _ (fun p f=>by
  simp only[List.mem_cons,List.not_mem_nil,or_false] at f;rcases f with rfl
  ·exact h.box i0 d.1) Z d.2).2 Z).2 g
theorem Y1(m:Nat)(i0:Nat){b c:Nat}{a:List Value}(h:SH w0 w L)(d:(L[i0]?,xd tab n all m [(b,a)] l e [] [])=(U (oX b a c),U (l',e',z,z)))(g:RunD prog n Q k all w l' e'):RunD prog n Q k all w l e:=by
 simp only[Prod.mk.injEq] at d;exact((qpY (P:=prog) (Q:=Q) (k:=k) (w:=w) (all:=all) qc m _ _ _ _ _ _ _ _ _ (fun p f=>by
  simp only[List.mem_cons,List.not_mem_nil,or_false] at f;rcases f with rfl
  ·exact h.box i0 d.1) Z d.2).2 Z).2 g
theorem X2(m:Nat)(i0 d:Nat){b f:Nat}{a:List Value}{c g:Nat}{cs1:List Value}(h:SH w0 w L)(i:(L[i0]?,L[d]?,xs tab n m [(b,a),(c,cs1)] k e [] [])=(U (oX b a f),U (oX c cs1 g),U (k',e',z,z)))(o:Run prog n Q k' e' w):Run prog n Q k e w:=by
 simp only[Prod.mk.injEq] at i;exact((qnw (P:=prog) (Q:=Q) (w:=w) qc m _ _ _ _ _ _ _ _ _ (fun p l=>by
  simp only[List.mem_cons,List.not_mem_nil,or_false] at l;rcases l with rfl|rfl
  ·exact h.box i0 i.1
  ·exact h.box d i.2.1) Z i.2.2).2 Z).2 o
theorem X3(m:Nat)(i0 f g:Nat){b i:Nat}{a:List Value}{c l:Nat}{cs1:List Value}{d o:Nat}{cs2:List Value}(h:SH w0 w L)(r:(L[i0]?,L[f]?,L[g]?,xs tab n m [(b,a),(c,cs1),(d,cs2)] k e [] [])=(U (oX b a i),U (oX c cs1 l),U (oX d cs2 o),U (k',e',z,z)))(t:Run prog n Q k' e' w):Run prog n Q k e w:=by
 simp only[Prod.mk.injEq] at r;exact((qnw (P:=prog) (Q:=Q) (w:=w) qc m _ _ _ _ _ _ _ _ _ (fun p s=>by
  simp only[List.mem_cons,List.not_mem_nil,or_false] at s;rcases s with rfl|rfl|rfl
  ·exact h.box i0 r.1
  ·exact h.box f r.2.1
  ·exact h.box g r.2.2.1) Z r.2.2.2).2 Z).2 t
end
section
variable{w0 w:World}{L:List Ch}{n:Nat}{Q:Exit->Act->World->Prop}{k:List It}{e:Env}{all:Array Oper}{l:List Oper}
theorem zp1{a:Op}{b g:Nat}{f:String}{d:Array Edge}{c:Value}(h:(pev tab (e) a,Nat.blt b n)=(U c,true))(i:Run prog n Q (.ops all l::k) ((b,c)::e) w):Run prog n Q (.ops all (⟨U b,a,g,f,d,G⟩::l)::k) e w:=by
 have H:=h;simp only[Prod.mk.injEq] at H;exact rp (H.1) (H.2) (i)
theorem zd1{a:Op}{b g:Nat}{f:String}{d:Array Edge}{c:Value}(h:(pev tab (e) a,Nat.blt b n)=(U c,true))(i:RunD prog n Q k all w l ((b,c)::e)):RunD prog n Q k all w (⟨U b,a,g,f,d,G⟩::l) e:=by
 have H:=h;simp only[Prod.mk.injEq] at H;exact dp (H.1) (H.2) (i)
theorem zp2{a:Op}{c r:Nat}{o:String}{i:Array Edge}{f:Value}{b:Op}{d s:Nat}{p:String}{m:Array Edge}{g:Value}(h:(pev tab (e) a,Nat.blt c n,pev tab ((c,f)::e) b,Nat.blt d n)=(U f,true,U g,true))(t:Run prog n Q (.ops all l::k) ((d,g)::(c,f)::e) w):Run prog n Q (.ops all (⟨U c,a,r,o,i,G⟩::⟨U d,b,s,p,m,G⟩::l)::k) e w:=by
 have H:=h;simp only[Prod.mk.injEq] at H;exact rp (H.1) (H.2.1) (rp (H.2.2.1) (H.2.2.2) (t))
theorem zd2{a:Op}{c r:Nat}{o:String}{i:Array Edge}{f:Value}{b:Op}{d s:Nat}{p:String}{m:Array Edge}{g:Value}(h:(pev tab (e) a,Nat.blt c n,pev tab ((c,f)::e) b,Nat.blt d n)=(U f,true,U g,true))(t:RunD prog n Q k all w l ((d,g)::(c,f)::e)):RunD prog n Q k all w (⟨U c,a,r,o,i,G⟩::⟨U d,b,s,p,m,G⟩::l) e:=by
 have H:=h;simp only[Prod.mk.injEq] at H;exact dp (H.1) (H.2.1) (dp (H.2.2.1) (H.2.2.2) (t))
theorem zp3{b:Op}{a v:Nat}{s:String}{o:Array Edge}{f:Value}{c:Op}{d x:Nat}{t:String}{p:Array Edge}{i:Value}{op2:Op}{g y:Nat}{u:String}{r:Array Edge}{m:Value}(h:(pev tab (e) b,Nat.blt a n,pev tab ((a,f)::e) c,Nat.blt d n,pev tab ((d,i)::(a,f)::e) op2,Nat.blt g n)=(U f,true,U i,true,U m,true))(z:Run prog n Q (.ops all l::k) ((g,m)::(d,i)::(a,f)::e) w):Run prog n Q (.ops all (⟨U a,b,v,s,o,G⟩::⟨U d,c,x,t,p,G⟩::⟨U g,op2,y,u,r,G⟩::l)::k) e w:=by
 have H:=h;simp only[Prod.mk.injEq] at H;exact rp (H.1) (H.2.1) (rp (H.2.2.1) (H.2.2.2.1) (rp (H.2.2.2.2.1) (H.2.2.2.2.2) (z)))
theorem zd3{b:Op}{a v:Nat}{s:String}{o:Array Edge}{f:Value}{c:Op}{d x:Nat}{t:String}{p:Array Edge}{i:Value}{op2:Op}{g y:Nat}{u:String}{r:Array Edge}{m:Value}(h:(pev tab (e) b,Nat.blt a n,pev tab ((a,f)::e) c,Nat.blt d n,pev tab ((d,i)::(a,f)::e) op2,Nat.blt g n)=(U f,true,U i,true,U m,true))(z:RunD prog n Q k all w l ((g,m)::(d,i)::(a,f)::e)):RunD prog n Q k all w (⟨U a,b,v,s,o,G⟩::⟨U d,c,x,t,p,G⟩::⟨U g,op2,y,u,r,G⟩::l) e:=by
 have H:=h;simp only[Prod.mk.injEq] at H;exact dp (H.1) (H.2.1) (dp (H.2.2.1) (H.2.2.2.1) (dp (H.2.2.2.2.1) (H.2.2.2.2.2) (z)))
theorem zp5{f:Op}{a I:Nat}{A:String}{u:Array Edge}{c:Value}{g:Op}{b J:Nat}{B:String}{v:Array Edge}{m:Value}{op2:Op}{d K:Nat}{C:String}{x:Array Edge}{p:Value}{i:Op}{o L:Nat}{D:String}{y:Array Edge}{s:Value}{op4:Op}{r M:Nat}{F:String}{z:Array Edge}{t:Value}(h:(pev tab (e) f,Nat.blt a n,pev tab ((a,c)::e) g,Nat.blt b n,pev tab ((b,m)::(a,c)::e) op2,Nat.blt d n,pev tab ((d,p)::(b,m)::(a,c)::e) i,Nat.blt o n,pev tab ((o,s)::(d,p)::(b,m)::(a,c)::e) op4,Nat.blt r n)=(U c,true,U m,true,U p,true,U s,true,U t,true))(N:Run prog n Q (.ops all l::k) ((r,t)::(o,s)::(d,p)::(b,m)::(a,c)::e) w):Run prog n Q (.ops all (⟨U a,f,I,A,u,G⟩::⟨U b,g,J,B,v,G⟩::⟨U d,op2,K,C,x,G⟩::⟨U o,i,L,D,y,G⟩::⟨U r,op4,M,F,z,G⟩::l)::k) e w:=by
 have H:=h;simp only[Prod.mk.injEq] at H;exact rp (H.1) (H.2.1) (rp (H.2.2.1) (H.2.2.2.1) (rp (H.2.2.2.2.1) (H.2.2.2.2.2.1) (rp (H.2.2.2.2.2.2.1) (H.2.2.2.2.2.2.2.1) (rp (H.2.2.2.2.2.2.2.2.1) (H.2.2.2.2.2.2.2.2.2) (N)))))
theorem zc(j:Nat){d t ty:Nat}{x:Operand}{c:TE}{ps:String}{af:Array Edge}{v:Value}{b o:Nat}{cs:List Value}(h:CellsAt w b o cs)(a:(opv e x,tab.get t,ld c cs j,Nat.blt d n)=(U (.pointer (U ⟨b,o+j,G⟩)),U c,U v,true))
  (f:Run prog n Q (.ops all l::k) ((d,v)::e) w):Run prog n Q (.ops all (⟨U d,.load t x,ty,ps,af,G⟩::l)::k) e w:=by
 simp only[Prod.mk.injEq] at a;exact r_v (qhK qc h (j:=j) a.1 a.2.1 a.2.2.1) a.2.2.2 f
theorem zdc(j:Nat){d t ty:Nat}{x:Operand}{c:TE}{ps:String}{af:Array Edge}{v:Value}{b o:Nat}{cs:List Value}(h:CellsAt w b o cs)(a:(opv e x,tab.get t,ld c cs j,Nat.blt d n)=(U (.pointer (U ⟨b,o+j,G⟩)),U c,U v,true))
  (g:RunD prog n Q k all w l ((d,v)::e)):RunD prog n Q k all w (⟨U d,.load t x,ty,ps,af,G⟩::l) e:=by
 simp only[Prod.mk.injEq] at a;exact d_v (fun _ f=>qhK qc (h.below f) (j:=j) a.1 a.2.1 a.2.2.1) a.2.2.2 g
theorem zx{x i:Operand}{t ty d el m:Nat}{r a:TE}{ps:String}{af:Array Edge}{p:Option Addr}{h c:Nat}{y:IntKind}{iv:Int}{b o q:Nat}(u:p=U ⟨b,o,G⟩)(v:q=o+iv.toNat*m)(g:0<=iv/\iv<h)(f:(opv e x,opv e i,tab.get t,r.kind,tab.get el,a.size,Nat.blt d n)=(U (oS p h c),U (.int y iv),U r,TK.slice el,U a,m,true))(s:Run prog n Q (.ops all l::k) ((d,.pointer (U ⟨b,q,G⟩))::e) w):Run prog n Q (.ops all (⟨U d,.indexAddr t x i,ty,ps,af,G⟩::l)::k) e w:=by
 simp only[Prod.mk.injEq] at f;exact r_v (qp2 qc u v g f.1 f.2.1 f.2.2.1 f.2.2.2.1 f.2.2.2.2.1 f.2.2.2.2.2.1) f.2.2.2.2.2.2 s
theorem zxe{x i:Operand}{t ty d el m:Nat}{h a:TE}{ps:String}{af:Array Edge}{p:Option Addr}{g c:Nat}{y:IntKind}{iv:Int}{b o q:Nat}{α:Prop}(u:p=U ⟨b,o,G⟩)(v:q=o+iv.toNat*m)(f:0<=iv/\iv<g/\α)(r:(opv e x,opv e i,tab.get t,h.kind,tab.get el,a.size,Nat.blt d n)=(U (oS p g c),U (.int y iv),U h,TK.slice el,U a,m,true))(s:Run prog n Q (.ops all l::k) ((d,.pointer (U ⟨b,q,G⟩))::e) w):Run prog n Q (.ops all (⟨U d,.indexAddr t x i,ty,ps,af,G⟩::l)::k) e w:=zx u v ⟨f.1,f.2.1⟩ r s
theorem zdx{x i:Operand}{t ty d el m:Nat}{r a:TE}{ps:String}{af:Array Edge}{p:Option Addr}{h c:Nat}{y:IntKind}{iv:Int}{b o q:Nat}(u:p=U ⟨b,o,G⟩)(v:q=o+iv.toNat*m)(g:0<=iv/\iv<h)(f:(opv e x,opv e i,tab.get t,r.kind,tab.get el,a.size,Nat.blt d n)=(U (oS p h c),U (.int y iv),U r,TK.slice el,U a,m,true))(s:RunD prog n Q k all w l ((d,.pointer (U ⟨b,q,G⟩))::e)):RunD prog n Q k all w (⟨U d,.indexAddr t x i,ty,ps,af,G⟩::l) e:=by
 simp only[Prod.mk.injEq] at f;exact d_v (fun _ _=>qp2 qc u v g f.1 f.2.1 f.2.2.1 f.2.2.2.1 f.2.2.2.2.1 f.2.2.2.2.2.1) f.2.2.2.2.2.2 s
theorem zdxe{x i:Operand}{t ty d el m:Nat}{h a:TE}{ps:String}{af:Array Edge}{p:Option Addr}{g c:Nat}{y:IntKind}{iv:Int}{b o q:Nat}{α:Prop}(u:p=U ⟨b,o,G⟩)(v:q=o+iv.toNat*m)(f:0<=iv/\iv<g/\α)(r:(opv e x,opv e i,tab.get t,h.kind,tab.get el,a.size,Nat.blt d n)=(U (oS p g c),U (.int y iv),U h,TK.slice el,U a,m,true))(s:RunD prog n Q k all w l ((d,.pointer (U ⟨b,q,G⟩))::e)):RunD prog n Q k all w (⟨U d,.indexAddr t x i,ty,ps,af,G⟩::l) e:=zdx u v ⟨f.1,f.2.1⟩ r s
theorem zs(i:Nat){t ty:Nat}{ps:String}{af:Array Edge}{x v:Operand}{C:TE}{b j:Nat}{cs z y:List Value}{B:TypeId}{u:Value}{L':List Ch}(h:SH w0 w L)
  (A:(L[i]?,opv e x,opv e v,cellsL u,tab.get t,Nat.beq z.length C.size,Nat.ble (j+z.length) cs.length,ones z,splN cs j z,setN L i (oX b y B))=(U (oX b cs B),U (.pointer (U ⟨b,j,G⟩)),U u,z,U C,true,true,true,U y,U L'))
  (D:∀w',SH w0 w' L'->Run prog n Q (.ops all l::k) e w'):Run prog n Q (.ops all (⟨G,.store t x v,ty,ps,af,G⟩::l)::k) e w:=by
 simp only[Prod.mk.injEq] at A;obtain⟨c,d,f,g,m,o,p,r,s,a⟩:=A;subst g;have e1:=ql0 s;have e2:=qnq a;subst e1 e2;exact qpw qc i h c d f m o p r D
end
section
variable{P:Program}{fnc:Func}{R:Ending->World->Prop}{n:Nat}{k:List It}{e:Env}{w0 w:World}{ops:Array Oper}{st:List Nat}{fuel:Nat}
theorem M0(K:Nat)(is:List Nat){C:World->Prop}{m K0 f a:Nat}{e':Env}{z:List Nat}(b:C w)(c:xa tab n ops is [] f e [] []=U (a,e',z,z))
  (d:RunA prog n (bodyPost prog fnc R) k ops st C a (bits m K) e' w) (g:oka ops st is (bits m K0) (bits m K)=true:=by kernel_rfl):RunA prog n (bodyPost prog fnc R) k ops st C f (bits m K0) e w:=by
 exact((qnr (C:=C) (w:=w) (P:=prog) qc b is _ _ _ _ _ _ _ _ _ _ _ (fun _ h=>by cases h) rfl c g).2 rfl).2 d
theorem G0(K:Nat)(is:List Nat){C:World->Prop}{m K0 f a:Nat}{e':Env}{z:List Nat}{all:Array Oper}(b:C w)(c:xa tab n ops is [] f e [] []=U (a,e',z,z))
  (d:RunA prog n (bodyPost prog fnc R) k ops st C a (bits m K) e' w) (g:oka ops st is (bits m K0) (bits m K)=true:=by kernel_rfl):Run prog n (bodyPost prog fnc R) (.ops all []::.goal (NextA prog n (bodyPost prog fnc R) k ops st C f (bits m K0))::k) e w:=
 Ag b (M0 K is (C:=C) b c d g)
theorem M1(K:Nat)(is:List Nat)(i0:Nat){b c:Nat}{a:List Value}{LA:List Ch}{m K0 f g:Nat}{e':Env}{z:List Nat}(i:SH w0 w LA)(d:(LA[i0]?,xa tab n ops is [(b,a)] f e [] [])=(U (oX b a c),U (g,e',z,z)))
  (l:RunA prog n (bodyPost prog fnc R) k ops st (fun w'=>SH w0 w' LA) g (bits m K) e' w) (o:oka ops st is (bits m K0) (bits m K)=true:=by kernel_rfl):RunA prog n (bodyPost prog fnc R) k ops st (fun w'=>SH w0 w' LA) f (bits m K0) e w:=by
 simp only[Prod.mk.injEq] at d;exact((qnr (C:=(fun w'=>SH w0 w' LA)) (w:=w) (P:=prog) qc i is _ _ _ _ _ _ _ _ _ _ _ (fun p h _ r=>by
  simp only[List.mem_cons,List.not_mem_nil,or_false] at h;rcases h with rfl
  ·exact SH.box r i0 d.1) Z d.2 o).2 Z).2 l
theorem M2(K:Nat)(is:List Nat)(i0 d:Nat){b g:Nat}{a:List Value}{c h:Nat}{cs1:List Value}{LA:List Ch}{m K0 f l:Nat}{e':Env}{z:List Nat}(s:SH w0 w LA)(i:(LA[i0]?,LA[d]?,xa tab n ops is [(b,a),(c,cs1)] f e [] [])=(U (oX b a g),U (oX c cs1 h),U (l,e',z,z)))
  (t:RunA prog n (bodyPost prog fnc R) k ops st (fun w'=>SH w0 w' LA) l (bits m K) e' w) (u:oka ops st is (bits m K0) (bits m K)=true:=by kernel_rfl):RunA prog n (bodyPost prog fnc R) k ops st (fun w'=>SH w0 w' LA) f (bits m K0) e w:=by
 simp only[Prod.mk.injEq] at i;exact((qnr (C:=(fun w'=>SH w0 w' LA)) (w:=w) (P:=prog) qc s is _ _ _ _ _ _ _ _ _ _ _ (fun p o _ r=>by
  simp only[List.mem_cons,List.not_mem_nil,or_false] at o;rcases o with rfl|rfl
  ·exact SH.box r i0 i.1
  ·exact SH.box r d i.2.1) Z i.2.2 u).2 Z).2 t
theorem M3(K:Nat)(is:List Nat)(i0 g h:Nat){b i:Nat}{a:List Value}{c l:Nat}{cs1:List Value}{d o:Nat}{cs2:List Value}{LA:List Ch}{m K0 f t:Nat}{e':Env}{z:List Nat}(v:SH w0 w LA)(r:(LA[i0]?,LA[g]?,LA[h]?,xa tab n ops is [(b,a),(c,cs1),(d,cs2)] f e [] [])=(U (oX b a i),U (oX c cs1 l),U (oX d cs2 o),U (t,e',z,z)))
  (x:RunA prog n (bodyPost prog fnc R) k ops st (fun w'=>SH w0 w' LA) t (bits m K) e' w) (y:oka ops st is (bits m K0) (bits m K)=true:=by kernel_rfl):RunA prog n (bodyPost prog fnc R) k ops st (fun w'=>SH w0 w' LA) f (bits m K0) e w:=by
 simp only[Prod.mk.injEq] at r;exact((qnr (C:=(fun w'=>SH w0 w' LA)) (w:=w) (P:=prog) qc v is _ _ _ _ _ _ _ _ _ _ _ (fun p u _ s=>by
  simp only[List.mem_cons,List.not_mem_nil,or_false] at u;rcases u with rfl|rfl|rfl
  ·exact SH.box s i0 r.1
  ·exact SH.box s g r.2.1
  ·exact SH.box s h r.2.2.1) Z r.2.2.2 y).2 Z).2 x
theorem Aw(i K:Nat){C:World->Prop}{m K0 d:Nat}{b:Op}{t:Nat}{ps:String}{af:Array Edge}{v:Value}(l:∀w',C w'->Val prog n e ⟨U d,b,t,ps,af,G⟩ w' v)(c:C w)(a:(ops[i]?,Nat.blt d n)=(U (⟨U d,b,t,ps,af,G⟩:Oper),true))
  (g:RunA prog n (bodyPost prog fnc R) k ops st C fuel (bits m K) ((d,v)::e) w) (h:(bits m K0).setIfInBounds i true=bits m K:=by kernel_rfl)
  (f:(Region.noSelect ops&&Region.free .any ops (bits m K0) i&&(Region.ready .any ops (bits m K0)).contains i&&st.all (fun s=>!(Nat.beq s i)&&waitsB ops i s&&!((bits m K0).getD s true)))=true:=by kernel_rfl) :
  RunA prog n (bodyPost prog fnc R) k ops st C (fuel+1) (bits m K0) e w:=by
 simp only[Prod.mk.injEq] at a;exact qkY i a.1 _ h f l c a.2 g
theorem Al(i K j:Nat){LA:List Ch}{m K0 d t ty b o:Nat}{x:Operand}{c:TE}{ps:String}{af:Array Edge}{v:Value}{cs:List Value}(h:CellsAt w0 b o cs)(f:SH w0 w LA)
  (a:(ops[i]?,opv e x,tab.get t,ld c cs j,Nat.blt d n)=(U (⟨U d,.load t x,ty,ps,af,G⟩:Oper),U (.pointer (U ⟨b,o+j,G⟩)),U c,U v,true))
  (l:RunA prog n (bodyPost prog fnc R) k ops st (fun w'=>SH w0 w' LA) fuel (bits m K) ((d,v)::e) w) (p:(bits m K0).setIfInBounds i true=bits m K:=by kernel_rfl)
  (g:(Region.noSelect ops&&Region.free .any ops (bits m K0) i&&(Region.ready .any ops (bits m K0)).contains i&&st.all (fun s=>!(Nat.beq s i)&&waitsB ops i s&&!((bits m K0).getD s true)))=true:=by kernel_rfl) :
  RunA prog n (bodyPost prog fnc R) k ops st (fun w'=>SH w0 w' LA) (fuel+1) (bits m K0) e w:=by
 simp only[Prod.mk.injEq] at a;exact qkY i a.1 _ p g (fun w' r=>qhK qc (h.below r.below) (j:=j) a.2.1 a.2.2.1 a.2.2.2.1) f a.2.2.2.2 l
theorem Ax(i K:Nat){C:World->Prop}{m K0 d t ty el q:Nat}{x ix:Operand}{l a:TE}{ps:String}{af:Array Edge}{p:Option Addr}{h c sz:Nat}{B:IntKind}{iv:Int}{b o:Nat}(z:p=U ⟨b,o,G⟩)(A:q=o+iv.toNat*sz)(g:0<=iv/\iv<h)(r:C w)
  (f:(ops[i]?,opv e x,opv e ix,tab.get t,l.kind,tab.get el,a.size,Nat.blt d n)=(U (⟨U d,.indexAddr t x ix,ty,ps,af,G⟩:Oper),U (oS p h c),U (.int B iv),U l,TK.slice el,U a,sz,true))
  (v:RunA prog n (bodyPost prog fnc R) k ops st C fuel (bits m K) ((d,.pointer (U ⟨b,q,G⟩))::e) w) (y:(bits m K0).setIfInBounds i true=bits m K:=by kernel_rfl)
  (u:(Region.noSelect ops&&Region.free .any ops (bits m K0) i&&(Region.ready .any ops (bits m K0)).contains i&&st.all (fun s=>!(Nat.beq s i)&&waitsB ops i s&&!((bits m K0).getD s true)))=true:=by kernel_rfl) :
  RunA prog n (bodyPost prog fnc R) k ops st C (fuel+1) (bits m K0) e w:=by
 simp only[Prod.mk.injEq] at f;exact qkY i f.1 _ y u (fun w' _=>qp2 qc z A g f.2.1 f.2.2.1 f.2.2.2.1 f.2.2.2.2.1 f.2.2.2.2.2.1 f.2.2.2.2.2.2.1) r f.2.2.2.2.2.2.2 v
theorem Ae(i K:Nat){C:World->Prop}{m K0 d t ty el q:Nat}{x ix:Operand}{h a:TE}{ps:String}{af:Array Edge}{p:Option Addr}{g c sz:Nat}{B:IntKind}{iv:Int}{b o:Nat}{α:Prop}(z:p=U ⟨b,o,G⟩)(A:q=o+iv.toNat*sz)(f:0<=iv/\iv<g/\α)(l:C w)
  (u:(ops[i]?,opv e x,opv e ix,tab.get t,h.kind,tab.get el,a.size,Nat.blt d n)=(U (⟨U d,.indexAddr t x ix,ty,ps,af,G⟩:Oper),U (oS p g c),U (.int B iv),U h,TK.slice el,U a,sz,true))
  (v:RunA prog n (bodyPost prog fnc R) k ops st C fuel (bits m K) ((d,.pointer (U ⟨b,q,G⟩))::e) w) (y:(bits m K0).setIfInBounds i true=bits m K:=by kernel_rfl)
  (r:(Region.noSelect ops&&Region.free .any ops (bits m K0) i&&(Region.ready .any ops (bits m K0)).contains i&&st.all (fun s=>!(Nat.beq s i)&&waitsB ops i s&&!((bits m K0).getD s true)))=true:=by kernel_rfl) :
  RunA prog n (bodyPost prog fnc R) k ops st C (fuel+1) (bits m K0) e w:=Ax i K z A ⟨f.1,f.2.1⟩ l u v y r
theorem rb{a:Func}{L:List Ch}{x r:Bool}(h:SH w0 w L)(F:U x=U r)(b:res1 e a.results.toList=U (.bool x)) :
  Run prog n (bodyPost prog a fun e w'=>∃v,e=.returned v/\Below w0.heap.size w0 w'/\∃us,v=tup us/\GoVs.Vs w' (fresh w0 w') r us) (.code .ret::k) e w:=qqz qc h F (qnx b)
theorem ri{a:Func}{L:List Ch}{x r:Int}(h:SH w0 w L)(F:U x=U r)(b:res1 e a.results.toList=U (vi x)) :
  Run prog n (bodyPost prog a fun e w'=>∃v,e=.returned v/\Below w0.heap.size w0 w'/\∃us,v=tup us/\GoVs.Vs w' (fresh w0 w') r us) (.code .ret::k) e w:=qqA qc h F (qnx b)
theorem rO{a:Func}{L:List Ch}{α:Type}[GoT α]{r:α}{S:Nat->Prop}{cs:List Value}(i:Nat)(h:SH w0 w L)(hi:L[i]?=U (oW S r cs))(b:ResOk tab e w a.results.toList [oV α cs]) :
  Run prog n (bodyPost prog a fun e w'=>∃v,e=.returned v/\Below w0.heap.size w0 w'/\∃us,v=tup us/\GoVs.Vs w' (fresh w0 w') r us) (.code .ret::k) e w:=qah qc _ h b (PV.done h (qb1 (qbP i h hi)))
theorem zV{ρ:Type}[GoVs ρ]{f:FuncId}{a:Func}{c:Code}{vs:List Value}{r:ρ}(m:Nat)(d:prog.funcs[f]?=U a)(b:(a.body,a.ntmps,Nat.ble vs.length m)=(U c,m,true))
  (h:SH w w []->Run prog m (bodyPost prog a fun e w'=>∃v,e=.returned v/\Below w.heap.size w w'/\∃us,v=tup us/\GoVs.Vs w' (fresh w w') r us) [.code c] (argEnv 0 vs) w):RetV prog f vs w r:=by
 simp only[Prod.mk.injEq] at b;exact qmk d b.1 b.2.1 b.2.2 h
end
section
variable{w0 w:World}{L:List Ch}{n:Nat}{Q:Exit->Act->World->Prop}{k:List It}{e:Env}{all:Array Oper}{l:List Oper}{d ty:Nat}{ps:String}{af:Array Edge}{x:Operand}{args:Array Operand}{ats:Array TypeId}{f:FuncId}{fi ca:Array Value}{av vs:List Value}{β:Type}{rr:β}
theorem zcI{F:Option Int}{g:Int->Option β}(h:SH w0 w L)(c:F.bind g=U rr)(m:∀{r},F=U r->RetV prog f vs w r)
  (b:(opv e x,opvs e args.toList,fi.toList++av++ca.toList,Nat.blt d n)=(U (.func (.func f) fi ca),U av,vs,true))
  (o:∀r w' ,SH w0 w' (L)->g r=U rr->Run prog n Q (.ops all l::k) ((d,vi r)::e) w') (a:qeb prog f:=by exact cA Z):Run prog n Q (.ops all (⟨U d,.call ⟨.value x,args,ats⟩,ty,ps,af,G⟩::l)::k) e w:=by
 obtain⟨r,p,c⟩:=qe c;simp only[Prod.mk.injEq] at b;exact qpf r h a (m p) b.1 b.2.1 b.2.2.1 b.2.2.2 (fun w'  i=>o r w'  i c)
theorem zcB{F:Option Bool}{g:Bool->Option β}(h:SH w0 w L)(c:F.bind g=U rr)(m:∀{r},F=U r->RetV prog f vs w r)
  (b:(opv e x,opvs e args.toList,fi.toList++av++ca.toList,Nat.blt d n)=(U (.func (.func f) fi ca),U av,vs,true))
  (o:∀r w' ,SH w0 w' (L)->g r=U rr->Run prog n Q (.ops all l::k) ((d,.bool r)::e) w') (a:qeb prog f:=by exact cA Z):Run prog n Q (.ops all (⟨U d,.call ⟨.value x,args,ats⟩,ty,ps,af,G⟩::l)::k) e w:=by
 obtain⟨r,p,c⟩:=qe c;simp only[Prod.mk.injEq] at b;exact qpA r h a (m p) b.1 b.2.1 b.2.2.1 b.2.2.2 (fun w'  i=>o r w'  i c)
theorem zcS{F:Option ByteArray}{g:ByteArray->Option β}(h:SH w0 w L)(c:F.bind g=U rr)(m:∀{r},F=U r->RetV prog f vs w r)
  (b:(opv e x,opvs e args.toList,fi.toList++av++ca.toList,Nat.blt d n)=(U (.func (.func f) fi ca),U av,vs,true))
  (o:∀r w' ,SH w0 w' (L)->g r=U rr->Run prog n Q (.ops all l::k) ((d,.string r)::e) w') (a:qeb prog f:=by exact cA Z):Run prog n Q (.ops all (⟨U d,.call ⟨.value x,args,ats⟩,ty,ps,af,G⟩::l)::k) e w:=by
 obtain⟨r,p,c⟩:=qe c;simp only[Prod.mk.injEq] at b;exact qhx r h a (m p) b.1 b.2.1 b.2.2.1 b.2.2.2 (fun w'  i=>o r w'  i c)
theorem zcL{α:Type}[GoT α]{F:Option (List α)}{g:(List α)->Option β}(h:SH w0 w L)(i:F.bind g=U rr)(o:∀{r},F=U r->RetV prog f vs w r)
  (b:(opv e x,opvs e args.toList,fi.toList++av++ca.toList,Nat.blt d n)=(U (.func (.func f) fi ca),U av,vs,true))
  (s:∀r w' S p c,SH w0 w' (oW S r [oS p r.length c]::L)->g r=U rr->Run prog n Q (.ops all l::k) ((d,oS p r.length c)::e) w') (a:qeb prog f:=by exact cA Z):Run prog n Q (.ops all (⟨U d,.call ⟨.value x,args,ats⟩,ty,ps,af,G⟩::l)::k) e w:=by
 obtain⟨r,t,i⟩:=qe i;simp only[Prod.mk.injEq] at b;exact qlT r h a (o t) b.1 b.2.1 b.2.2.1 b.2.2.2 (fun w' S p c m=>s r w' S p c m i)
theorem zcO{α:Type}[GoT α]{F:Option α}{g:α->Option β}(h:SH w0 w L)(c:F.bind g=U rr)(m:∀{r},F=U r->RetV prog f vs w r)
  (b:(opv e x,opvs e args.toList,fi.toList++av++ca.toList,Nat.blt d n)=(U (.func (.func f) fi ca),U av,vs,true))
  (o:∀r w' S cs,SH w0 w' (oW S r cs::L)->g r=U rr->Run prog n Q (.ops all l::k) ((d,oV α cs)::e) w') (a:qeb prog f:=by exact cA Z):Run prog n Q (.ops all (⟨U d,.call ⟨.value x,args,ats⟩,ty,ps,af,G⟩::l)::k) e w:=by
 obtain⟨r,p,c⟩:=qe c;simp only[Prod.mk.injEq] at b;exact qpk r h a (m p) b.1 b.2.1 b.2.2.1 b.2.2.2 (fun w' S cs i=>o r w' S cs i c)
end
def noC:List Nat:=[0,1,170,207,235]
theorem allC:((List.range 276).all fun f=>noC.contains f || callB prog f)=true:=by kernel_rfl
theorem cA{f:Nat}(h:(Nat.blt f 276&&!noC.contains f)=true):qeb prog f:=by
 rw[jg,Nat.blt_eq,jD] at h;have:=List.all_eq_true.1 allC f (List.mem_range.2 h.1);rw[h.2] at this;exact qou this
theorem cB(f:Nat)(h:(Nat.blt f 276&&!noC.contains f)=true):qeb prog f:=cA h
def qaA(_:Nat)(a:(List Int))(left:Int):Option Int:=bif decide ((W64 (left-(a.length:Int)))<0) then U (-1) else U (W64 (left-(a.length:Int)))
theorem qac{a:(List Int)}{left}(b:Ro w a cs1){r:Int}(F:qaA n a left=U r):RetV prog 29 [oV (List Int) cs1,vi left] w r:=by
 obtain⟨_,_,rfl,_⟩:=b;refine zV 12 func29 Z fun h=>X0 18 Z (qf Z F ?_ ?_)<;>intro F
 ·exact X0 4 Z (ri h F Z)
 exact X0 6 Z (ri h F Z)
def qgD(_:Nat)(a:qN)(left:Int):Option Int:=bif decide ((W64 (left-(a.Am.size:Int)))<0) then U (-1) else U (W64 (left-(a.Am.size:Int)))
theorem qk3{a:qN}{left}(b:Ro w a cs1){r:Int}(F:qgD n a left=U r):RetV prog 173 [oV qN cs1,vi left] w r:=by
 obtain rfl:=qav b;refine zV 13 func173 Z fun h=>zSR (qr h Z Z fun _ _ h=>X1 17 0 h Z (qf Z F ?_ ?_))<;>intro F
 ·exact X0 4 Z (ri h F Z)
 exact X0 6 Z (ri h F Z)
def qc8(a:(List qN)):Nat->Int->Int->Option (Flow Int (Int×Int))|0,_,_=>G|n+1,c,b=>bif decide (b<(a.length:Int)) then(idx a b).bind fun f=>(qgD n f c).bind fun d=>bif decide (d<0) then U (.ret (-1)) else qc8 a n d (W64 (b+1)) else U (.nxt (c,b))
def qie(n:Nat)(a:(List qN))(left:Int):Option Int:=bif decide ((W64 (left-(a.length:Int)))<0) then U (-1) else(qc8 a n (W64 (left-(a.length:Int))) 0).bind fun|.ret r=>U r|.nxt (b,_)=>U b
theorem qkN{a:(List qN)}{left}(c:Ro w a cs1){r:Int}(F:qie n a left=U r):RetV prog 145 [oV (List qN) cs1,vi left] w r:=by
 obtain⟨u,s,rfl,v⟩:=c;refine zV 27 func145 Z fun h=>X0 18 Z (qf Z F ?_ ?_)<;>intro F
 ·exact X0 4 Z (ri h F Z)
 refine X0 6 Z ?_;obtain⟨t,F,b⟩:=qe F;refine ql (rL (fun m e w'=>∃l o,qc8 a m l o=U t/\e=[(0,oS u a.length s),(1,vi l),(5,vi o)]/\SH w w' []) n ⟨_,_,F,rfl,h⟩ Z ?_);rintro p _ _ ⟨l,o,F,rfl,h⟩;rcases p with _|p
 ·cases F
 refine X0 8 Z (qf Z F ?_ ?_)<;>intro F
 ·refine X0 7 Z ?_;obtain⟨x,_,F,f,_,_,_,_,g,i,k,d⟩:=v.ix F;obtain rfl:=qav k;refine zxe g i f Z (zc 0 (d.below h.below) Z (zp1 Z (zcI h F (qk3 (qfN x)) Z fun _ _ h F=>X0 7 Z (qf Z F ?_ ?_))))<;>intro F
  ·refine X0 4 Z ?_;obtain rfl:=qa F;replace F:=b;exact ri h F Z
  exact X0 7 Z (rK ⟨_,_,F,rfl,h⟩ Z)
 refine qq Z ?_;obtain rfl:=qa F;replace F:=b;exact X0 5 Z (ri h F Z)
def qe4(n:Nat)(a:qp)(left:Int):Option Int:=(qaA n a.Bb left).bind fun b=>bif decide (b<0) then U (-1) else(qaA n a.Ba b).bind fun c=>bif decide (c<0) then U (-1) else(qaA n a.As c).bind fun d=>bif decide (d<0) then U (-1) else U d
theorem qjX{a:qp}{left}(b:Ro w a cs1){r:Int}(F:qe4 n a left=U r):RetV prog 237 [oV qp cs1,vi left] w r:=by
 obtain⟨_,_,_,_,_,_,rfl,c,d,f⟩:=qaH b;refine zV 24 func237 Z fun h=>zSR (qr h Z Z fun _ _ h=>X1 7 0 h Z (zcI h F (qac ⟨_,_,rfl,(h.oldS c)⟩) Z fun _ _ h F=>X0 8 Z (qf Z F ?_ ?_)))<;>intro F
 ·exact X0 4 Z (ri h F Z)
 refine X1 6 0 h Z (zcI h F (qac ⟨_,_,rfl,(h.oldS d)⟩) Z fun _ _ h F=>X0 8 Z (qf Z F ?_ ?_))<;>intro F
 ·exact X0 4 Z (ri h F Z)
 refine X1 6 0 h Z (zcI h F (qac ⟨_,_,rfl,(h.oldS f)⟩) Z fun _ _ h F=>X0 8 Z (qf Z F ?_ ?_))<;>intro F
 ·exact X0 4 Z (ri h F Z)
 exact X0 6 Z (ri h F Z)
def qcl(a:(List qp)):Nat->Int->Int->Option (Flow Int (Int×Int))|0,_,_=>G|n+1,c,b=>bif decide (b<(a.length:Int)) then(idx a b).bind fun f=>(qe4 n f c).bind fun d=>bif decide (d<0) then U (.ret (-1)) else qcl a n d (W64 (b+1)) else U (.nxt (c,b))
def qfD(n:Nat)(a:(List qp))(left:Int):Option Int:=bif decide ((W64 (left-(a.length:Int)))<0) then U (-1) else(qcl a n (W64 (left-(a.length:Int))) 0).bind fun|.ret r=>U r|.nxt (b,_)=>U b
theorem qhe{a:(List qp)}{left}(c:Ro w a cs1){r:Int}(F:qfD n a left=U r):RetV prog 210 [oV (List qp) cs1,vi left] w r:=by
 obtain⟨u,s,rfl,v⟩:=c;refine zV 27 func210 Z fun h=>X0 18 Z (qf Z F ?_ ?_)<;>intro F
 ·exact X0 4 Z (ri h F Z)
 refine X0 6 Z ?_;obtain⟨t,F,b⟩:=qe F;refine ql (rL (fun m e w'=>∃l o,qcl a m l o=U t/\e=[(0,oS u a.length s),(1,vi l),(5,vi o)]/\SH w w' []) n ⟨_,_,F,rfl,h⟩ Z ?_);rintro p _ _ ⟨l,o,F,rfl,h⟩;rcases p with _|p
 ·cases F
 refine X0 8 Z (qf Z F ?_ ?_)<;>intro F
 ·refine X0 7 Z ?_;obtain⟨A,_,F,f,_,_,_,_,g,i,k,d⟩:=v.ix F;obtain⟨_,_,_,_,_,_,rfl,x,y,z⟩:=qaH k;refine zxe g i f Z (zc 0 (d.below h.below) Z (zp1 Z (zcI h F (qjX (qfl A (h.oldS x) (h.oldS y) (h.oldS z))) Z fun _ _ h F=>X0 7 Z (qf Z F ?_ ?_))))<;>intro F
  ·refine X0 4 Z ?_;obtain rfl:=qa F;replace F:=b;exact ri h F Z
  exact X0 7 Z (rK ⟨_,_,F,rfl,h⟩ Z)
 refine qq Z ?_;obtain rfl:=qa F;replace F:=b;exact X0 5 Z (ri h F Z)
def qgz(n:Nat)(a:qH)(left:Int):Option Int:=(qfD n a.Be left).bind fun b=>bif decide (b<0) then U (-1) else(qfD n a.Bk b).bind fun c=>bif decide (c<0) then U (-1) else U c
theorem qle{a:qH}{left}(b:Ro w a cs1){r:Int}(F:qgz n a left=U r):RetV prog 174 [oV qH cs1,vi left] w r:=by
 obtain⟨_,_,_,_,rfl,c,d⟩:=qV b;refine zV 18 func174 Z fun h=>zSR (qr h Z Z fun _ _ h=>X1 7 0 h Z (zcI h F (qhe ⟨_,_,rfl,(h.oldS c)⟩) Z fun _ _ h F=>X0 8 Z (qf Z F ?_ ?_)))<;>intro F
 ·exact X0 4 Z (ri h F Z)
 refine X1 6 0 h Z (zcI h F (qhe ⟨_,_,rfl,(h.oldS d)⟩) Z fun _ _ h F=>X0 8 Z (qf Z F ?_ ?_))<;>intro F
 ·exact X0 4 Z (ri h F Z)
 exact X0 6 Z (ri h F Z)
def qdg(a:(List qH)):Nat->Int->Int->Option (Flow Int (Int×Int))|0,_,_=>G|n+1,c,b=>bif decide (b<(a.length:Int)) then(idx a b).bind fun f=>(qgz n f c).bind fun d=>bif decide (d<0) then U (.ret (-1)) else qdg a n d (W64 (b+1)) else U (.nxt (c,b))
def qhW(n:Nat)(a:(List qH))(left:Int):Option Int:=bif decide ((W64 (left-(a.length:Int)))<0) then U (-1) else(qdg a n (W64 (left-(a.length:Int))) 0).bind fun|.ret r=>U r|.nxt (b,_)=>U b
theorem qkM{a:(List qH)}{left}(c:Ro w a cs1){r:Int}(F:qhW n a left=U r):RetV prog 146 [oV (List qH) cs1,vi left] w r:=by
 obtain⟨u,s,rfl,v⟩:=c;refine zV 27 func146 Z fun h=>X0 18 Z (qf Z F ?_ ?_)<;>intro F
 ·exact X0 4 Z (ri h F Z)
 refine X0 6 Z ?_;obtain⟨t,F,b⟩:=qe F;refine ql (rL (fun m e w'=>∃l o,qdg a m l o=U t/\e=[(0,oS u a.length s),(1,vi l),(5,vi o)]/\SH w w' []) n ⟨_,_,F,rfl,h⟩ Z ?_);rintro p _ _ ⟨l,o,F,rfl,h⟩;rcases p with _|p
 ·cases F
 refine X0 8 Z (qf Z F ?_ ?_)<;>intro F
 ·refine X0 7 Z ?_;obtain⟨z,_,F,f,_,_,_,_,g,i,k,d⟩:=v.ix F;obtain⟨_,_,_,_,rfl,x,y⟩:=qV k;refine zxe g i f Z (zc 0 (d.below h.below) Z (zp1 Z (zcI h F (qle (qeF z (h.oldS x) (h.oldS y))) Z fun _ _ h F=>X0 7 Z (qf Z F ?_ ?_))))<;>intro F
  ·refine X0 4 Z ?_;obtain rfl:=qa F;replace F:=b;exact ri h F Z
  exact X0 7 Z (rK ⟨_,_,F,rfl,h⟩ Z)
 refine qq Z ?_;obtain rfl:=qa F;replace F:=b;exact X0 5 Z (ri h F Z)
def qfU(n:Nat)(a:qn)(left:Int):Option Int:=bif decide ((W64 (left-(a.Am.size:Int)))<0) then U (-1) else(qie n a.Ak (W64 (left-(a.Am.size:Int)))).bind fun b=>bif decide (b<0) then U (-1) else(qhW n a.Ar b).bind fun c=>bif decide (c<0) then U (-1) else(qaA n a.Az c).bind fun d=>bif decide (d<0) then U (-1) else U d
theorem qkz{a:qn}{left}(b:Ro w a cs1){r:Int}(F:qfU n a left=U r):RetV prog 102 [oV qn cs1,vi left] w r:=by
 obtain⟨_,_,_,_,_,_,rfl,c,d,f⟩:=qF b;refine zV 31 func102 Z fun h=>zSR (qr h Z Z fun _ _ h=>X1 17 0 h Z (qf Z F ?_ ?_))<;>intro F
 ·exact X0 4 Z (ri h F Z)
 refine X1 6 0 h Z (zcI h F (qkN ⟨_,_,rfl,(h.oldS c)⟩) Z fun _ _ h F=>X0 8 Z (qf Z F ?_ ?_))<;>intro F
 ·exact X0 4 Z (ri h F Z)
 refine X1 6 0 h Z (zcI h F (qkM ⟨_,_,rfl,(h.oldS d)⟩) Z fun _ _ h F=>X0 8 Z (qf Z F ?_ ?_))<;>intro F
 ·exact X0 4 Z (ri h F Z)
 refine X1 6 0 h Z (zcI h F (qac ⟨_,_,rfl,(h.oldS f)⟩) Z fun _ _ h F=>X0 8 Z (qf Z F ?_ ?_))<;>intro F
 ·exact X0 4 Z (ri h F Z)
 exact X0 6 Z (ri h F Z)
def qcM(a:(List qn)):Nat->Int->Int->Option (Flow Int (Int×Int))|0,_,_=>G|n+1,c,b=>bif decide (b<(a.length:Int)) then(idx a b).bind fun f=>(qfU n f c).bind fun d=>bif decide (d<0) then U (.ret (-1)) else qcM a n d (W64 (b+1)) else U (.nxt (c,b))
def qhC(n:Nat)(a:(List qn))(left:Int):Option Int:=bif decide ((W64 (left-(a.length:Int)))<0) then U (-1) else(qcM a n (W64 (left-(a.length:Int))) 0).bind fun|.ret r=>U r|.nxt (b,_)=>U b
theorem qj6{a:(List qn)}{left}(c:Ro w a cs1){r:Int}(F:qhC n a left=U r):RetV prog 58 [oV (List qn) cs1,vi left] w r:=by
 obtain⟨u,s,rfl,v⟩:=c;refine zV 27 func58 Z fun h=>X0 18 Z (qf Z F ?_ ?_)<;>intro F
 ·exact X0 4 Z (ri h F Z)
 refine X0 6 Z ?_;obtain⟨t,F,b⟩:=qe F;refine ql (rL (fun m e w'=>∃l o,qcM a m l o=U t/\e=[(0,oS u a.length s),(1,vi l),(5,vi o)]/\SH w w' []) n ⟨_,_,F,rfl,h⟩ Z ?_);rintro p _ _ ⟨l,o,F,rfl,h⟩;rcases p with _|p
 ·cases F
 refine X0 8 Z (qf Z F ?_ ?_)<;>intro F
 ·refine X0 7 Z ?_;obtain⟨A,_,F,f,_,_,_,_,g,i,k,d⟩:=v.ix F;obtain⟨_,_,_,_,_,_,rfl,x,y,z⟩:=qF k;refine zxe g i f Z (zc 0 (d.below h.below) Z (zp1 Z (zcI h F (qkz (qgr A (h.oldS x) (h.oldS y) (h.oldS z))) Z fun _ _ h F=>X0 7 Z (qf Z F ?_ ?_))))<;>intro F
  ·refine X0 4 Z ?_;obtain rfl:=qa F;replace F:=b;exact ri h F Z
  exact X0 7 Z (rK ⟨_,_,F,rfl,h⟩ Z)
 refine qq Z ?_;obtain rfl:=qa F;replace F:=b;exact X0 5 Z (ri h F Z)
def qe2(n:Nat)(a:qh)(left:Int):Option Int:=(qhC n a.Aj left).bind fun b=>bif decide (b<0) then U (-1) else U b
theorem qi7{a:qh}{left}(b:Ro w a cs1){r:Int}(F:qe2 n a left=U r):RetV prog 26 [oV qh cs1,vi left] w r:=by
 obtain⟨_,_,rfl,c⟩:=qZ b;refine zV 12 func26 Z fun h=>zSR (qr h Z Z fun _ _ h=>X1 7 0 h Z (zcI h F (qj6 ⟨_,_,rfl,(h.oldS c)⟩) Z fun _ _ h F=>X0 8 Z (qf Z F ?_ ?_)))<;>intro F
 ·exact X0 4 Z (ri h F Z)
 exact X0 6 Z (ri h F Z)
def qdE(n:Nat)(a:qd)(left:Int):Option Int:=bif decide ((W64 (left-(a.Am.size:Int)))<0) then U (-1) else(qaA n a.Af (W64 (left-(a.Am.size:Int)))).bind fun b=>bif decide (b<0) then U (-1) else U b
theorem qiP{a:qd}{left}(b:Ro w a cs1){r:Int}(F:qdE n a left=U r):RetV prog 103 [oV qd cs1,vi left] w r:=by
 obtain⟨_,_,rfl,c⟩:=qA b;refine zV 19 func103 Z fun h=>zSR (qr h Z Z fun _ _ h=>X1 17 0 h Z (qf Z F ?_ ?_))<;>intro F
 ·exact X0 4 Z (ri h F Z)
 refine X1 6 0 h Z (zcI h F (qac ⟨_,_,rfl,(h.oldS c)⟩) Z fun _ _ h F=>X0 8 Z (qf Z F ?_ ?_))<;>intro F
 ·exact X0 4 Z (ri h F Z)
 exact X0 6 Z (ri h F Z)
def qbq(a:(List qd)):Nat->Int->Int->Option (Flow Int (Int×Int))|0,_,_=>G|n+1,c,b=>bif decide (b<(a.length:Int)) then(idx a b).bind fun f=>(qdE n f c).bind fun d=>bif decide (d<0) then U (.ret (-1)) else qbq a n d (W64 (b+1)) else U (.nxt (c,b))
def qfm(n:Nat)(a:(List qd))(left:Int):Option Int:=bif decide ((W64 (left-(a.length:Int)))<0) then U (-1) else(qbq a n (W64 (left-(a.length:Int))) 0).bind fun|.ret r=>U r|.nxt (b,_)=>U b
theorem qiC{a:(List qd)}{left}(c:Ro w a cs1){r:Int}(F:qfm n a left=U r):RetV prog 59 [oV (List qd) cs1,vi left] w r:=by
 obtain⟨u,s,rfl,v⟩:=c;refine zV 27 func59 Z fun h=>X0 18 Z (qf Z F ?_ ?_)<;>intro F
 ·exact X0 4 Z (ri h F Z)
 refine X0 6 Z ?_;obtain⟨t,F,b⟩:=qe F;refine ql (rL (fun m e w'=>∃l o,qbq a m l o=U t/\e=[(0,oS u a.length s),(1,vi l),(5,vi o)]/\SH w w' []) n ⟨_,_,F,rfl,h⟩ Z ?_);rintro p _ _ ⟨l,o,F,rfl,h⟩;rcases p with _|p
 ·cases F
 refine X0 8 Z (qf Z F ?_ ?_)<;>intro F
 ·refine X0 7 Z ?_;obtain⟨y,_,F,f,_,_,_,_,g,i,k,d⟩:=v.ix F;obtain⟨_,_,rfl,x⟩:=qA k;refine zxe g i f Z (zc 0 (d.below h.below) Z (zp1 Z (zcI h F (qiP (qdN y (h.oldS x))) Z fun _ _ h F=>X0 7 Z (qf Z F ?_ ?_))))<;>intro F
  ·refine X0 4 Z ?_;obtain rfl:=qa F;replace F:=b;exact ri h F Z
  exact X0 7 Z (rK ⟨_,_,F,rfl,h⟩ Z)
 refine qq Z ?_;obtain rfl:=qa F;replace F:=b;exact X0 5 Z (ri h F Z)
def qbS(a:(List ByteArray)):Nat->Int->Int->Option (Flow Int (Int×Int))|0,_,_=>G|n+1,c,b=>bif decide (b<(a.length:Int)) then(idx a b).bind fun d=>bif decide ((W64 (c-(d.size:Int)))<0) then U (.ret (-1)) else qbS a n (W64 (c-(d.size:Int))) (W64 (b+1)) else U (.nxt (c,b))
def qgM(n:Nat)(a:(List ByteArray))(left:Int):Option Int:=bif decide ((W64 (left-(a.length:Int)))<0) then U (-1) else(qbS a n (W64 (left-(a.length:Int))) 0).bind fun|.ret r=>U r|.nxt (b,_)=>U b
theorem qi4{a:(List ByteArray)}{left}(c:Ro w a cs1){r:Int}(F:qgM n a left=U r):RetV prog 60 [oV (List ByteArray) cs1,vi left] w r:=by
 obtain⟨t,p,rfl,u⟩:=c;refine zV 28 func60 Z fun h=>X0 18 Z (qf Z F ?_ ?_)<;>intro F
 ·exact X0 4 Z (ri h F Z)
 refine X0 6 Z ?_;obtain⟨s,F,b⟩:=qe F;refine ql (rL (fun m e w'=>∃k l,qbS a m k l=U s/\e=[(0,oS t a.length p),(1,vi k),(5,vi l)]/\SH w w' []) n ⟨_,_,F,rfl,h⟩ Z ?_);rintro o _ _ ⟨k,l,F,rfl,h⟩;rcases o with _|o
 ·cases F
 refine X0 8 Z (qf Z F ?_ ?_)<;>intro F
 ·refine X0 8 Z ?_;obtain⟨_,_,F,f,_,_,_,_,g,i,rfl,d⟩:=u.ix F;refine zxe g i f Z (zc 0 (d.below h.below) Z (X0 9 Z (qf Z F ?_ ?_)))<;>intro F
  ·refine X0 4 Z ?_;obtain rfl:=qa F;replace F:=b;exact ri h F Z
  exact X0 7 Z (rK ⟨_,_,F,rfl,h⟩ Z)
 refine qq Z ?_;obtain rfl:=qa F;replace F:=b;exact X0 5 Z (ri h F Z)
def qfG(_:Nat)(a:qK)(left:Int):Option Int:=bif decide ((W64 (left-(a.Am.size:Int)))<0) then U (-1) else U (W64 (left-(a.Am.size:Int)))
theorem qkI{a:qK}{left}(b:Ro w a cs1){r:Int}(F:qfG n a left=U r):RetV prog 104 [oV qK cs1,vi left] w r:=by
 obtain rfl:=qab b;refine zV 13 func104 Z fun h=>zSR (qr h Z Z fun _ _ h=>X1 17 0 h Z (qf Z F ?_ ?_))<;>intro F
 ·exact X0 4 Z (ri h F Z)
 exact X0 6 Z (ri h F Z)
def qcA(a:(List qK)):Nat->Int->Int->Option (Flow Int (Int×Int))|0,_,_=>G|n+1,c,b=>bif decide (b<(a.length:Int)) then(idx a b).bind fun f=>(qfG n f c).bind fun d=>bif decide (d<0) then U (.ret (-1)) else qcA a n d (W64 (b+1)) else U (.nxt (c,b))
def qhs(n:Nat)(a:(List qK))(left:Int):Option Int:=bif decide ((W64 (left-(a.length:Int)))<0) then U (-1) else(qcA a n (W64 (left-(a.length:Int))) 0).bind fun|.ret r=>U r|.nxt (b,_)=>U b
theorem qkb{a:(List qK)}{left}(c:Ro w a cs1){r:Int}(F:qhs n a left=U r):RetV prog 61 [oV (List qK) cs1,vi left] w r:=by
 obtain⟨u,s,rfl,v⟩:=c;refine zV 27 func61 Z fun h=>X0 18 Z (qf Z F ?_ ?_)<;>intro F
 ·exact X0 4 Z (ri h F Z)
 refine X0 6 Z ?_;obtain⟨t,F,b⟩:=qe F;refine ql (rL (fun m e w'=>∃l o,qcA a m l o=U t/\e=[(0,oS u a.length s),(1,vi l),(5,vi o)]/\SH w w' []) n ⟨_,_,F,rfl,h⟩ Z ?_);rintro p _ _ ⟨l,o,F,rfl,h⟩;rcases p with _|p
 ·cases F
 refine X0 8 Z (qf Z F ?_ ?_)<;>intro F
 ·refine X0 7 Z ?_;obtain⟨x,_,F,f,_,_,_,_,g,i,k,d⟩:=v.ix F;obtain rfl:=qab k;refine zxe g i f Z (zc 0 (d.below h.below) Z (zp1 Z (zcI h F (qkI (qfo x)) Z fun _ _ h F=>X0 7 Z (qf Z F ?_ ?_))))<;>intro F
  ·refine X0 4 Z ?_;obtain rfl:=qa F;replace F:=b;exact ri h F Z
  exact X0 7 Z (rK ⟨_,_,F,rfl,h⟩ Z)
 refine qq Z ?_;obtain rfl:=qa F;replace F:=b;exact X0 5 Z (ri h F Z)
def qft(n:Nat)(a:qb)(left:Int):Option Int:=(qfm n a.Aa left).bind fun b=>bif decide (b<0) then U (-1) else(qgM n a.Af b).bind fun c=>bif decide (c<0) then U (-1) else(qhs n a.Ac c).bind fun d=>bif decide (d<0) then U (-1) else U d
theorem qjG{a:qb}{left}(b:Ro w a cs1){r:Int}(F:qft n a left=U r):RetV prog 27 [oV qb cs1,vi left] w r:=by
 obtain⟨_,_,_,_,_,_,rfl,c,d,f⟩:=qJ b;refine zV 24 func27 Z fun h=>zSR (qr h Z Z fun _ _ h=>X1 7 0 h Z (zcI h F (qiC ⟨_,_,rfl,(h.oldS c)⟩) Z fun _ _ h F=>X0 8 Z (qf Z F ?_ ?_)))<;>intro F
 ·exact X0 4 Z (ri h F Z)
 refine X1 6 0 h Z (zcI h F (qi4 ⟨_,_,rfl,(h.oldS d)⟩) Z fun _ _ h F=>X0 8 Z (qf Z F ?_ ?_))<;>intro F
 ·exact X0 4 Z (ri h F Z)
 refine X1 6 0 h Z (zcI h F (qkb ⟨_,_,rfl,(h.oldS f)⟩) Z fun _ _ h F=>X0 8 Z (qf Z F ?_ ?_))<;>intro F
 ·exact X0 4 Z (ri h F Z)
 exact X0 6 Z (ri h F Z)
def qfM(n:Nat)(a:qD)(left:Int):Option Int:=(qaA n a.Ai left).bind fun b=>bif decide (b<0) then U (-1) else(qaA n a.Bn b).bind fun c=>bif decide (c<0) then U (-1) else(qaA n a.Bj c).bind fun d=>bif decide (d<0) then U (-1) else(qaA n a.Bc d).bind fun f=>bif decide (f<0) then U (-1) else U f
theorem qkU{a:qD}{left}(b:Ro w a cs1){r:Int}(F:qfM n a left=U r):RetV prog 62 [oV qD cs1,vi left] w r:=by
 obtain⟨_,_,_,_,_,_,_,_,rfl,c,d,f,g⟩:=qaM b;refine zV 30 func62 Z fun h=>zSR (qr h Z Z fun _ _ h=>X1 7 0 h Z (zcI h F (qac ⟨_,_,rfl,(h.oldS c)⟩) Z fun _ _ h F=>X0 8 Z (qf Z F ?_ ?_)))<;>intro F
 ·exact X0 4 Z (ri h F Z)
 refine X1 6 0 h Z (zcI h F (qac ⟨_,_,rfl,(h.oldS d)⟩) Z fun _ _ h F=>X0 8 Z (qf Z F ?_ ?_))<;>intro F
 ·exact X0 4 Z (ri h F Z)
 refine X1 6 0 h Z (zcI h F (qac ⟨_,_,rfl,(h.oldS f)⟩) Z fun _ _ h F=>X0 8 Z (qf Z F ?_ ?_))<;>intro F
 ·exact X0 4 Z (ri h F Z)
 refine X1 6 0 h Z (zcI h F (qac ⟨_,_,rfl,(h.oldS g)⟩) Z fun _ _ h F=>X0 8 Z (qf Z F ?_ ?_))<;>intro F
 ·exact X0 4 Z (ri h F Z)
 exact X0 6 Z (ri h F Z)
def qcG(a:(List qD)):Nat->Int->Int->Option (Flow Int (Int×Int))|0,_,_=>G|n+1,c,b=>bif decide (b<(a.length:Int)) then(idx a b).bind fun f=>(qfM n f c).bind fun d=>bif decide (d<0) then U (.ret (-1)) else qcG a n d (W64 (b+1)) else U (.nxt (c,b))
def qhv(n:Nat)(a:(List qD))(left:Int):Option Int:=bif decide ((W64 (left-(a.length:Int)))<0) then U (-1) else(qcG a n (W64 (left-(a.length:Int))) 0).bind fun|.ret r=>U r|.nxt (b,_)=>U b
theorem qj0{a:(List qD)}{left}(c:Ro w a cs1){r:Int}(F:qhv n a left=U r):RetV prog 28 [oV (List qD) cs1,vi left] w r:=by
 obtain⟨u,s,rfl,v⟩:=c;refine zV 27 func28 Z fun h=>X0 18 Z (qf Z F ?_ ?_)<;>intro F
 ·exact X0 4 Z (ri h F Z)
 refine X0 6 Z ?_;obtain⟨t,F,b⟩:=qe F;refine ql (rL (fun m e w'=>∃l o,qcG a m l o=U t/\e=[(0,oS u a.length s),(1,vi l),(5,vi o)]/\SH w w' []) n ⟨_,_,F,rfl,h⟩ Z ?_);rintro p _ _ ⟨l,o,F,rfl,h⟩;rcases p with _|p
 ·cases F
 refine X0 8 Z (qf Z F ?_ ?_)<;>intro F
 ·refine X0 7 Z ?_;obtain⟨B,_,F,f,_,_,_,_,g,i,k,d⟩:=v.ix F;obtain⟨_,_,_,_,_,_,_,_,rfl,x,y,z,A⟩:=qaM k;refine zxe g i f Z (zc 0 (d.below h.below) Z (zp1 Z (zcI h F (qkU (qgt B (h.oldS x) (h.oldS y) (h.oldS z) (h.oldS A))) Z fun _ _ h F=>X0 7 Z (qf Z F ?_ ?_))))<;>intro F
  ·refine X0 4 Z ?_;obtain rfl:=qa F;replace F:=b;exact ri h F Z
  exact X0 7 Z (rK ⟨_,_,F,rfl,h⟩ Z)
 refine qq Z ?_;obtain rfl:=qa F;replace F:=b;exact X0 5 Z (ri h F Z)
def qgq(n:Nat)(a:qm)(left:Int):Option Int:=(qe2 n (⟨a.Aq.Aj⟩:qh) left).bind fun b=>bif decide (b<0) then U (-1) else(qft n (⟨a.Ab.Aa,a.Ab.Af,a.Ab.Ac⟩:qb) b).bind fun c=>bif decide (c<0) then U (-1) else(qhv n a.Ah c).bind fun d=>bif decide (d<0) then U (-1) else U d
theorem qjQ{a:qm}{left}(b:Ro w a cs1){r:Int}(F:qgq n a left=U r):RetV prog 6 [oV qm cs1,vi left] w r:=by
 obtain⟨_,_,_,_,_,_,_,_,_,_,rfl,c,d,f,g,i⟩:=qU b;refine zV 24 func6 Z fun h=>zSR (qr h Z Z fun _ _ h=>X1 7 0 h Z (zcI h F (qi7 (qbg _ (h.oldS c))) Z fun _ _ h F=>X0 8 Z (qf Z F ?_ ?_)))<;>intro F
 ·exact X0 4 Z (ri h F Z)
 refine X1 6 0 h Z (zcI h F (qjG (qas _ (h.oldS d) (h.oldS f) (h.oldS g))) Z fun _ _ h F=>X0 8 Z (qf Z F ?_ ?_))<;>intro F
 ·exact X0 4 Z (ri h F Z)
 refine X1 6 0 h Z (zcI h F (qj0 ⟨_,_,rfl,(h.oldS i)⟩) Z fun _ _ h F=>X0 8 Z (qf Z F ?_ ?_))<;>intro F
 ·exact X0 4 Z (ri h F Z)
 exact X0 6 Z (ri h F Z)
def qc6(a:(List Int)):Nat->(List Int)->Int->Option ((List Int)×Int)|0,_,_=>G|n+1,c,b=>bif decide (b<(a.length:Int)) then(idx a b).bind fun d=>(idx c b).bind fun _=>qc6 a n (setS c b d) (W64 (b+1)) else U (c,b)
def qam(n:Nat)(a:(List Int)):Option (List Int):=(mkS (a.length:Int) (0:Int)).bind fun b=>(qc6 a n b 0).bind fun(c,_)=>U c
theorem qag{a:(List Int)}(k:Ro w a cs1){r:(List Int)}(F:qam n a=U r):RetV prog 35 [oV (List Int) cs1] w r:=by
 obtain⟨H,C,rfl,I⟩:=k;refine zV 22 func35 Z fun h=>X0 8 Z ?_;obtain⟨g,b,F⟩:=qe F;obtain⟨A,B,b⟩:=qb5 b;refine qc2 qc Int h Z Z Z Z Z Z Z Z Z A B b Z fun _ S1 z h=>X0 7 Z ?_;obtain⟨D,F,i⟩:=qe F;refine ql (rL (fun m e w'=>∃x v,qc6 a m x v=U D/\e=[(0,oS H a.length C),(3,oS z g.length g.length),(4,vi v)]/\SH w w' [oW S1 (x:List Int) [oS z g.length g.length]]) n ⟨_,_,F,rfl,h⟩ Z ?_);rintro y _ _ ⟨x,v,F,rfl,h⟩;rcases y with _|y
 ·cases F
 refine X0 8 Z (qf Z F ?_ ?_)<;>intro F
 ·refine X0 8 Z ?_;obtain⟨J,_,F,p,_,_,_,_,s,t,rfl,l⟩:=I.ix F;refine zxe s t p Z (zc 0 (l.below h.below) Z ?_);obtain⟨_,u,F,c,_,_,_,_,d,f,rfl,o⟩:=(h.sl 0 Z).1.ix F;exact zx d f ⟨c.1,qap c.2.1 (h.sl 0 Z).2⟩ Z (qdT qc 0 0 J h Z u d f Z o Z Z Z Z Z Z Z fun _ h=>X0 7 Z (rK ⟨_,_,F,rfl,h⟩ Z))
 refine qq Z ?_;obtain rfl:=qa F;replace F:=i;refine X0 5 Z ?_;obtain rfl:=qa F;exact rO 0 h Z ⟨rfl,E⟩
def qgC(_:Nat)(a:qN):Option qN:=U (⟨a.Am,a.Bl,a.Bj,a.Ay⟩:qN)
theorem qlf{a:qN}(b:Ro w a cs1){r:qN}(F:qgC n a=U r):RetV prog 175 [oV qN cs1] w r:=by
 obtain rfl:=qav b;refine zV 17 func175 Z fun h=>zSR (qr h Z Z fun _ _ h=>qC qc h Z Z Z fun _ _ h=>zNSR (qC qc h Z Z Z fun _ _ h=>X1 6 2 h Z (zs 0 h Z fun _ h=>X1 6 2 h Z (zs 0 h Z fun _ h=>X1 6 2 h Z (zs 0 h Z fun _ h=>X1 6 2 h Z (zs 0 h Z fun _ h=>X1 4 0 h Z (zs 1 h Z fun _ h=>qdH ?_)))))));obtain rfl:=qa F;exact qah qc (ρ:=qN) [oV qN (qjj a)] h ⟨⟨_,_,_,rfl,rfl,h.box 1 Z,rfl⟩,E⟩ (PV.done h (qb1 (qao (S:=fun _=>False) (qfN (⟨a.Am,a.Bl,a.Bj,a.Ay⟩:qN)))))
def qd8(a:(List qN)):Nat->(List qN)->Int->Option ((List qN)×Int)|0,_,_=>G|n+1,c,b=>bif decide (b<(a.length:Int)) then(idx a b).bind fun f=>(qgC n f).bind fun d=>(idx c b).bind fun _=>qd8 a n (setS c b d) (W64 (b+1)) else U (c,b)
def qgX(n:Nat)(a:(List qN)):Option (List qN):=(mkS (a.length:Int) ((⟨ByteArray.empty,0,0,false⟩:qN):qN)).bind fun b=>(qd8 a n b 0).bind fun(c,_)=>U c
theorem qks{a:(List qN)}(k:Ro w a cs1){r:(List qN)}(F:qgX n a=U r):RetV prog 147 [oV (List qN) cs1] w r:=by
 obtain⟨K,I,rfl,L⟩:=k;refine zV 23 func147 Z fun h=>X0 8 Z ?_;obtain⟨g,b,F⟩:=qe F;obtain⟨D,H,b⟩:=qb5 b;refine qc2 qc qN h Z Z Z Z Z Z Z Z Z D H b Z fun _ S1 B h=>X0 7 Z ?_;obtain⟨J,F,i⟩:=qe F;refine ql (rL (fun m e w'=>∃z y,qd8 a m z y=U J/\e=[(0,oS K a.length I),(3,oS B g.length g.length),(4,vi y)]/\SH w w' [oW S1 (z:List qN) [oS B g.length g.length]]) n ⟨_,_,F,rfl,h⟩ Z ?_);rintro A _ _ ⟨z,y,F,rfl,h⟩;rcases A with _|A
 ·cases F
 refine X0 8 Z (qf Z F ?_ ?_)<;>intro F
 ·refine X0 8 Z ?_;obtain⟨M,_,F,p,_,_,_,_,s,t,u,l⟩:=L.ix F;obtain rfl:=qav u;refine zxe s t p Z (zc 0 (l.below h.below) Z (zcO h F (qlf (qfN M)) Z fun C _ _ _ h F=>?_));obtain rfl:=qav (h.own 0 Z);obtain⟨N,x,F,c,_,_,_,_,d,f,v,o⟩:=(h.sl 1 Z).1.ix F;obtain rfl:=qav v;refine zx d f ⟨c.1,qap c.2.1 (h.sl 1 Z).2⟩ Z (qdT qc 1 0 C h Z x d f (qfN N) o Z Z Z (qfN C) Z Z Z fun _ h=>X0 7 Z ?_);replace h:=h.p [1] Z;exact rK ⟨_,_,F,rfl,h⟩ Z
 refine qq Z ?_;obtain rfl:=qa F;replace F:=i;refine X0 5 Z ?_;obtain rfl:=qa F;exact rO 0 h Z ⟨rfl,E⟩
def qfc(n:Nat)(a:qp):Option qp:=(qam n a.Bb).bind fun b=>(qam n a.Ba).bind fun c=>(qam n a.As).bind fun d=>U (⟨b,c,d⟩:qp)
theorem qjW{a:qp}(b:Ro w a cs1){r:qp}(F:qfc n a=U r):RetV prog 238 [oV qp cs1] w r:=by
 obtain⟨_,_,_,_,_,_,rfl,p,s,t⟩:=qaH b;refine zV 17 func238 Z fun h=>zSR (qr h Z Z fun _ _ h=>qC qc h Z Z Z fun _ _ h=>zNSR (qC qc h Z Z Z fun _ _ h=>X1 5 2 h Z (zcL h F (qag ⟨_,_,rfl,(h.oldS p)⟩) Z fun c _ _ l g h F=>zp1 Z (zs 1 h Z fun _ h=>X1 5 3 h Z (zcL h F (qag ⟨_,_,rfl,(h.oldS s)⟩) Z fun d _ _ m i h F=>zp1 Z (zs 2 h Z fun _ h=>X1 5 4 h Z (zcL h F (qag ⟨_,_,rfl,(h.oldS t)⟩) Z fun f _ _ o k h F=>zp1 Z (zs 3 h Z fun _ h=>X1 4 3 h Z (zs 4 h Z fun _ h=>qdH ?_)))))))));obtain rfl:=qa F;exact qah qc (ρ:=qp) [oV qp [oS l c.length g,oS m d.length i,oS o f.length k]] h ⟨⟨_,_,_,rfl,rfl,h.box 4 Z,rfl⟩,E⟩ (PV.done h (qb1 (qnA (⟨c,d,f⟩:qp) h (qbP 2 h Z) (qbP 1 h Z) (qbP 0 h Z) (by rfl) (by rfl))))
def qdd(a:(List qp)):Nat->(List qp)->Int->Option ((List qp)×Int)|0,_,_=>G|n+1,c,b=>bif decide (b<(a.length:Int)) then(idx a b).bind fun f=>(qfc n f).bind fun d=>(idx c b).bind fun _=>qdd a n (setS c b d) (W64 (b+1)) else U (c,b)
def qeE(n:Nat)(a:(List qp)):Option (List qp):=(mkS (a.length:Int) ((⟨[],[],[]⟩:qp):qp)).bind fun b=>(qdd a n b 0).bind fun(c,_)=>U c
theorem qhk{a:(List qp)}(o:Ro w a cs1){r:(List qp)}(F:qeE n a=U r):RetV prog 211 [oV (List qp) cs1] w r:=by
 obtain⟨K,H,rfl,M⟩:=o;refine zV 23 func211 Z fun h=>X0 8 Z ?_;obtain⟨k,b,F⟩:=qe F;obtain⟨C,D,b⟩:=qb5 b;refine qc2 qc qp h Z Z Z Z Z Z Z Z Z C D b Z fun _ _ B h=>X0 7 Z ?_;obtain⟨I,F,l⟩:=qe F;refine ql (rL (fun m e w'=>∃S2 z y,qdd a m z y=U I/\e=[(0,oS K a.length H),(3,oS B k.length k.length),(4,vi y)]/\SH w w' [oW S2 (z:List qp) [oS B k.length k.length]]) n ⟨_,_,_,F,rfl,h⟩ Z ?_);rintro A _ _ ⟨S2,z,y,F,rfl,h⟩;rcases A with _|A
 ·cases F
 refine X0 8 Z (qf Z F ?_ ?_)<;>intro F
 ·refine X0 8 Z ?_;obtain⟨Q,_,F,s,_,_,_,_,t,u,v,p⟩:=M.ix F;obtain⟨_,_,_,_,_,_,rfl,N,O,P⟩:=qaH v;refine zxe t u s Z (zc 0 (p.below h.below) Z (zcO h F (qjW (qfl Q (h.oldS N) (h.oldS O) (h.oldS P))) Z fun L _ _ _ h F=>?_));obtain⟨_,_,_,_,_,_,rfl,-,-,-⟩:=qaH (h.own 0 Z);obtain⟨_,c,F⟩:=qe F;have d:=qa8 c;replace h:=h.lrn0 1 Z;obtain⟨_,J,_,_,f,g,-,i,_⟩:=(qg1 (h.lrnO 1 Z)).1.at c;have x:=i;obtain⟨_,_,_,_,_,_,rfl,_,_,_⟩:=qaH i;replace h:=h.lrnAdd 1 Z x;refine zx f g ⟨d.1,qap d.2.1 (qg1 (h.lrnO 1 Z)).2⟩ Z ?_;replace h:=h.unlrn 1 Z;exact qh6 qc L h c f g Z Z Z Z Z fun _ _ h=>X0 7 Z (rK ⟨_,_,_,F,rfl,h⟩ Z)
 refine qq Z ?_;obtain rfl:=qa F;replace F:=l;refine X0 5 Z ?_;obtain rfl:=qa F;exact rO 0 h Z ⟨rfl,E⟩
def qgG(n:Nat)(a:qH):Option qH:=(qeE n a.Be).bind fun b=>(qeE n a.Bk).bind fun c=>U (⟨a.Ap,a.Av,a.To,a.Bg,b,c⟩:qH)
theorem qk5{a:qH}(b:Ro w a cs1){r:qH}(F:qgG n a=U r):RetV prog 176 [oV qH cs1] w r:=by
 obtain⟨_,_,_,_,rfl,l,m⟩:=qV b;refine zV 25 func176 Z fun h=>zSR (qr h Z Z fun _ _ h=>qC qc h Z Z Z fun _ _ h=>zNSR (qC qc h Z Z Z fun _ _ h=>X1 6 2 h Z (zs 0 h Z fun _ h=>X1 6 2 h Z (zs 0 h Z fun _ h=>X1 6 2 h Z (zs 0 h Z fun _ h=>X1 6 2 h Z (zs 0 h Z fun _ h=>X1 5 2 h Z (zcL h F (qhk ⟨_,_,rfl,(h.oldS l)⟩) Z fun c _ _ i f h F=>zp1 Z (zs 1 h Z fun _ h=>X1 5 3 h Z (zcL h F (qhk ⟨_,_,rfl,(h.oldS m)⟩) Z fun d _ _ k g h F=>zp1 Z (zs 2 h Z fun _ h=>X1 4 2 h Z (zs 3 h Z fun _ h=>qdH ?_)))))))))));obtain rfl:=qa F;exact qah qc (ρ:=qH) [oV qH [vi a.Ap,vi a.Av,vi a.To,vi a.Bg,oS i c.length f,oS k d.length g]] h ⟨⟨_,_,_,rfl,rfl,h.box 3 Z,rfl⟩,E⟩ (PV.done h (qb1 (qpK (⟨a.Ap,a.Av,a.To,a.Bg,c,d⟩:qH) h (qao (S:=fun _=>False) Z) (qao (S:=fun _=>False) Z) (qao (S:=fun _=>False) Z) (qao (S:=fun _=>False) Z) (qbP 1 h Z) (qbP 0 h Z) (by rfl) (by rfl) (by rfl) (by rfl) (by rfl))))
def qd4(a:(List qH)):Nat->(List qH)->Int->Option ((List qH)×Int)|0,_,_=>G|n+1,c,b=>bif decide (b<(a.length:Int)) then(idx a b).bind fun f=>(qgG n f).bind fun d=>(idx c b).bind fun _=>qd4 a n (setS c b d) (W64 (b+1)) else U (c,b)
def qgZ(n:Nat)(a:(List qH)):Option (List qH):=(mkS (a.length:Int) ((⟨0,0,0,0,[],[]⟩:qH):qH)).bind fun b=>(qd4 a n b 0).bind fun(c,_)=>U c
theorem qkW{a:(List qH)}(o:Ro w a cs1){r:(List qH)}(F:qgZ n a=U r):RetV prog 148 [oV (List qH) cs1] w r:=by
 obtain⟨K,H,rfl,M⟩:=o;refine zV 23 func148 Z fun h=>X0 8 Z ?_;obtain⟨k,b,F⟩:=qe F;obtain⟨C,D,b⟩:=qb5 b;refine qc2 qc qH h Z Z Z Z Z Z Z Z Z C D b Z fun _ _ B h=>X0 7 Z ?_;obtain⟨I,F,l⟩:=qe F;refine ql (rL (fun m e w'=>∃S2 z y,qd4 a m z y=U I/\e=[(0,oS K a.length H),(3,oS B k.length k.length),(4,vi y)]/\SH w w' [oW S2 (z:List qH) [oS B k.length k.length]]) n ⟨_,_,_,F,rfl,h⟩ Z ?_);rintro A _ _ ⟨S2,z,y,F,rfl,h⟩;rcases A with _|A
 ·cases F
 refine X0 8 Z (qf Z F ?_ ?_)<;>intro F
 ·refine X0 8 Z ?_;obtain⟨P,_,F,s,_,_,_,_,t,u,v,p⟩:=M.ix F;obtain⟨_,_,_,_,rfl,N,O⟩:=qV v;refine zxe t u s Z (zc 0 (p.below h.below) Z (zcO h F (qk5 (qeF P (h.oldS N) (h.oldS O))) Z fun L _ _ _ h F=>?_));obtain⟨_,_,_,_,rfl,-,-⟩:=qV (h.own 0 Z);obtain⟨_,c,F⟩:=qe F;have d:=qa8 c;replace h:=h.lrn0 1 Z;obtain⟨_,J,_,_,f,g,-,i,_⟩:=(qg1 (h.lrnO 1 Z)).1.at c;have x:=i;obtain⟨_,_,_,_,rfl,_,_⟩:=qV i;replace h:=h.lrnAdd 1 Z x;refine zx f g ⟨d.1,qap d.2.1 (qg1 (h.lrnO 1 Z)).2⟩ Z ?_;replace h:=h.unlrn 1 Z;exact qh6 qc L h c f g Z Z Z Z Z fun _ _ h=>X0 7 Z (rK ⟨_,_,_,F,rfl,h⟩ Z)
 refine qq Z ?_;obtain rfl:=qa F;replace F:=l;refine X0 5 Z ?_;obtain rfl:=qa F;exact rO 0 h Z ⟨rfl,E⟩
def qfP(n:Nat)(a:qn):Option qn:=(qgX n a.Ak).bind fun b=>(qgZ n a.Ar).bind fun c=>(qam n a.Az).bind fun d=>U (⟨a.Am,a.Ap,b,c,d,a.Bo,a.Bh⟩:qn)
theorem qkD{a:qn}(b:Ro w a cs1){r:qn}(F:qfP n a=U r):RetV prog 106 [oV qn cs1] w r:=by
 obtain⟨_,_,_,_,_,_,rfl,p,s,t⟩:=qF b;refine zV 29 func106 Z fun h=>zSR (qr h Z Z fun _ _ h=>qC qc h Z Z Z fun _ _ h=>zNSR (qC qc h Z Z Z fun _ _ h=>X1 6 2 h Z (zs 0 h Z fun _ h=>X1 6 2 h Z (zs 0 h Z fun _ h=>X1 5 2 h Z (zcL h F (qks ⟨_,_,rfl,(h.oldS p)⟩) Z fun c _ _ l g h F=>zp1 Z (zs 1 h Z fun _ h=>X1 5 3 h Z (zcL h F (qkW ⟨_,_,rfl,(h.oldS s)⟩) Z fun d _ _ m i h F=>zp1 Z (zs 2 h Z fun _ h=>X1 5 4 h Z (zcL h F (qag ⟨_,_,rfl,(h.oldS t)⟩) Z fun f _ _ o k h F=>zp1 Z (zs 3 h Z fun _ h=>X1 6 5 h Z (zs 3 h Z fun _ h=>X1 6 5 h Z (zs 3 h Z fun _ h=>X1 4 3 h Z (zs 4 h Z fun _ h=>qdH ?_)))))))))))));obtain rfl:=qa F;exact qah qc (ρ:=qn) [oV qn [.string a.Am,vi a.Ap,oS l c.length g,oS m d.length i,oS o f.length k,vi a.Bo,vi a.Bh]] h ⟨⟨_,_,_,rfl,rfl,h.box 4 Z,rfl⟩,E⟩ (PV.done h (qb1 (qo2 (⟨a.Am,a.Ap,c,d,f,a.Bo,a.Bh⟩:qn) h (qao (S:=fun _=>False) Z) (qao (S:=fun _=>False) Z) (qbP 2 h Z) (qbP 1 h Z) (qbP 0 h Z) (qao (S:=fun _=>False) Z) (qao (S:=fun _=>False) Z) (by rfl) (by rfl) (by rfl) (by rfl) (by rfl) (by rfl))))
def qdI(a:(List qn)):Nat->(List qn)->Int->Option ((List qn)×Int)|0,_,_=>G|n+1,c,b=>bif decide (b<(a.length:Int)) then(idx a b).bind fun f=>(qfP n f).bind fun d=>(idx c b).bind fun _=>qdI a n (setS c b d) (W64 (b+1)) else U (c,b)
def qgc(n:Nat)(a:(List qn)):Option (List qn):=(mkS (a.length:Int) ((⟨ByteArray.empty,0,[],[],[],0,0⟩:qn):qn)).bind fun b=>(qdI a n b 0).bind fun(c,_)=>U c
theorem qka{a:(List qn)}(o:Ro w a cs1){r:(List qn)}(F:qgc n a=U r):RetV prog 64 [oV (List qn) cs1] w r:=by
 obtain⟨K,H,rfl,M⟩:=o;refine zV 23 func64 Z fun h=>X0 8 Z ?_;obtain⟨k,b,F⟩:=qe F;obtain⟨C,D,b⟩:=qb5 b;refine qc2 qc qn h Z Z Z Z Z Z Z Z Z C D b Z fun _ _ B h=>X0 7 Z ?_;obtain⟨I,F,l⟩:=qe F;refine ql (rL (fun m e w'=>∃S2 z y,qdI a m z y=U I/\e=[(0,oS K a.length H),(3,oS B k.length k.length),(4,vi y)]/\SH w w' [oW S2 (z:List qn) [oS B k.length k.length]]) n ⟨_,_,_,F,rfl,h⟩ Z ?_);rintro A _ _ ⟨S2,z,y,F,rfl,h⟩;rcases A with _|A
 ·cases F
 refine X0 8 Z (qf Z F ?_ ?_)<;>intro F
 ·refine X0 8 Z ?_;obtain⟨Q,_,F,s,_,_,_,_,t,u,v,p⟩:=M.ix F;obtain⟨_,_,_,_,_,_,rfl,N,O,P⟩:=qF v;refine zxe t u s Z (zc 0 (p.below h.below) Z (zcO h F (qkD (qgr Q (h.oldS N) (h.oldS O) (h.oldS P))) Z fun L _ _ _ h F=>?_));obtain⟨_,_,_,_,_,_,rfl,-,-,-⟩:=qF (h.own 0 Z);obtain⟨_,c,F⟩:=qe F;have d:=qa8 c;replace h:=h.lrn0 1 Z;obtain⟨_,J,_,_,f,g,-,i,_⟩:=(qg1 (h.lrnO 1 Z)).1.at c;have x:=i;obtain⟨_,_,_,_,_,_,rfl,_,_,_⟩:=qF i;replace h:=h.lrnAdd 1 Z x;refine zx f g ⟨d.1,qap d.2.1 (qg1 (h.lrnO 1 Z)).2⟩ Z ?_;replace h:=h.unlrn 1 Z;exact qh6 qc L h c f g Z Z Z Z Z fun _ _ h=>X0 7 Z (rK ⟨_,_,_,F,rfl,h⟩ Z)
 refine qq Z ?_;obtain rfl:=qa F;replace F:=l;refine X0 5 Z ?_;obtain rfl:=qa F;exact rO 0 h Z ⟨rfl,E⟩
def qe5(n:Nat)(a:qh):Option qh:=(qgc n a.Aj).bind fun b=>U (⟨b⟩:qh)
theorem qjc{a:qh}(b:Ro w a cs1){r:qh}(F:qe5 n a=U r):RetV prog 32 [oV qh cs1] w r:=by
 obtain⟨_,_,rfl,g⟩:=qZ b;refine zV 9 func32 Z fun h=>zSR (qr h Z Z fun _ _ h=>qC qc h Z Z Z fun _ _ h=>zNSR (qC qc h Z Z Z fun _ _ h=>X1 5 2 h Z (zcL h F (qka ⟨_,_,rfl,(h.oldS g)⟩) Z fun c _ _ f d h F=>zp1 Z (zs 1 h Z fun _ h=>X1 4 1 h Z (zs 2 h Z fun _ h=>qdH ?_)))));obtain rfl:=qa F;exact qah qc (ρ:=qh) [oV qh [oS f c.length d]] h ⟨⟨_,_,_,rfl,rfl,h.box 2 Z,rfl⟩,E⟩ (PV.done h (qb1 (qmq (⟨c⟩:qh) h (qbP 0 h Z) )))
def qdx(n:Nat)(a:qd):Option qd:=(qam n a.Af).bind fun b=>U (⟨a.Am,a.Bf,b⟩:qd)
theorem qiG{a:qd}(b:Ro w a cs1){r:qd}(F:qdx n a=U r):RetV prog 107 [oV qd cs1] w r:=by
 obtain⟨_,_,rfl,g⟩:=qA b;refine zV 15 func107 Z fun h=>zSR (qr h Z Z fun _ _ h=>qC qc h Z Z Z fun _ _ h=>zNSR (qC qc h Z Z Z fun _ _ h=>X1 6 2 h Z (zs 0 h Z fun _ h=>X1 6 2 h Z (zs 0 h Z fun _ h=>X1 5 2 h Z (zcL h F (qag ⟨_,_,rfl,(h.oldS g)⟩) Z fun c _ _ f d h F=>zp1 Z (zs 1 h Z fun _ h=>X1 4 1 h Z (zs 2 h Z fun _ h=>qdH ?_)))))));obtain rfl:=qa F;exact qah qc (ρ:=qd) [oV qd [.string a.Am,vi a.Bf,oS f c.length d]] h ⟨⟨_,_,_,rfl,rfl,h.box 2 Z,rfl⟩,E⟩ (PV.done h (qb1 (qlX (⟨a.Am,a.Bf,c⟩:qd) h (qao (S:=fun _=>False) Z) (qao (S:=fun _=>False) Z) (qbP 0 h Z) (by rfl) (by rfl))))
def qb4(a:(List qd)):Nat->(List qd)->Int->Option ((List qd)×Int)|0,_,_=>G|n+1,c,b=>bif decide (b<(a.length:Int)) then(idx a b).bind fun f=>(qdx n f).bind fun d=>(idx c b).bind fun _=>qb4 a n (setS c b d) (W64 (b+1)) else U (c,b)
def qed(n:Nat)(a:(List qd)):Option (List qd):=(mkS (a.length:Int) ((⟨ByteArray.empty,0,[]⟩:qd):qd)).bind fun b=>(qb4 a n b 0).bind fun(c,_)=>U c
theorem qiA{a:(List qd)}(o:Ro w a cs1){r:(List qd)}(F:qed n a=U r):RetV prog 65 [oV (List qd) cs1] w r:=by
 obtain⟨K,H,rfl,M⟩:=o;refine zV 23 func65 Z fun h=>X0 8 Z ?_;obtain⟨k,b,F⟩:=qe F;obtain⟨C,D,b⟩:=qb5 b;refine qc2 qc qd h Z Z Z Z Z Z Z Z Z C D b Z fun _ _ B h=>X0 7 Z ?_;obtain⟨I,F,l⟩:=qe F;refine ql (rL (fun m e w'=>∃S2 z y,qb4 a m z y=U I/\e=[(0,oS K a.length H),(3,oS B k.length k.length),(4,vi y)]/\SH w w' [oW S2 (z:List qd) [oS B k.length k.length]]) n ⟨_,_,_,F,rfl,h⟩ Z ?_);rintro A _ _ ⟨S2,z,y,F,rfl,h⟩;rcases A with _|A
 ·cases F
 refine X0 8 Z (qf Z F ?_ ?_)<;>intro F
 ·refine X0 8 Z ?_;obtain⟨O,_,F,s,_,_,_,_,t,u,v,p⟩:=M.ix F;obtain⟨_,_,rfl,N⟩:=qA v;refine zxe t u s Z (zc 0 (p.below h.below) Z (zcO h F (qiG (qdN O (h.oldS N))) Z fun L _ _ _ h F=>?_));obtain⟨_,_,rfl,-⟩:=qA (h.own 0 Z);obtain⟨_,c,F⟩:=qe F;have d:=qa8 c;replace h:=h.lrn0 1 Z;obtain⟨_,J,_,_,f,g,-,i,_⟩:=(qg1 (h.lrnO 1 Z)).1.at c;have x:=i;obtain⟨_,_,rfl,_⟩:=qA i;replace h:=h.lrnAdd 1 Z x;refine zx f g ⟨d.1,qap d.2.1 (qg1 (h.lrnO 1 Z)).2⟩ Z ?_;replace h:=h.unlrn 1 Z;exact qh6 qc L h c f g Z Z Z Z Z fun _ _ h=>X0 7 Z (rK ⟨_,_,_,F,rfl,h⟩ Z)
 refine qq Z ?_;obtain rfl:=qa F;replace F:=l;refine X0 5 Z ?_;obtain rfl:=qa F;exact rO 0 h Z ⟨rfl,E⟩
def qcV(a:(List ByteArray)):Nat->(List ByteArray)->Int->Option ((List ByteArray)×Int)|0,_,_=>G|n+1,c,b=>bif decide (b<(a.length:Int)) then(idx a b).bind fun d=>(idx c b).bind fun _=>qcV a n (setS c b d) (W64 (b+1)) else U (c,b)
def qe0(n:Nat)(a:(List ByteArray)):Option (List ByteArray):=(mkS (a.length:Int) (ByteArray.empty:ByteArray)).bind fun b=>(qcV a n b 0).bind fun(c,_)=>U c
theorem qi3{a:(List ByteArray)}(k:Ro w a cs1){r:(List ByteArray)}(F:qe0 n a=U r):RetV prog 66 [oV (List ByteArray) cs1] w r:=by
 obtain⟨H,C,rfl,I⟩:=k;refine zV 22 func66 Z fun h=>X0 8 Z ?_;obtain⟨g,b,F⟩:=qe F;obtain⟨A,B,b⟩:=qb5 b;refine qc2 qc ByteArray h Z Z Z Z Z Z Z Z Z A B b Z fun _ S1 z h=>X0 7 Z ?_;obtain⟨D,F,i⟩:=qe F;refine ql (rL (fun m e w'=>∃x v,qcV a m x v=U D/\e=[(0,oS H a.length C),(3,oS z g.length g.length),(4,vi v)]/\SH w w' [oW S1 (x:List ByteArray) [oS z g.length g.length]]) n ⟨_,_,F,rfl,h⟩ Z ?_);rintro y _ _ ⟨x,v,F,rfl,h⟩;rcases y with _|y
 ·cases F
 refine X0 8 Z (qf Z F ?_ ?_)<;>intro F
 ·refine X0 8 Z ?_;obtain⟨J,_,F,p,_,_,_,_,s,t,rfl,l⟩:=I.ix F;refine zxe s t p Z (zc 0 (l.below h.below) Z ?_);obtain⟨_,u,F,c,_,_,_,_,d,f,rfl,o⟩:=(h.sl 0 Z).1.ix F;exact zx d f ⟨c.1,qap c.2.1 (h.sl 0 Z).2⟩ Z (qdT qc 0 0 J h Z u d f Z o Z Z Z Z Z Z Z fun _ h=>X0 7 Z (rK ⟨_,_,F,rfl,h⟩ Z))
 refine qq Z ?_;obtain rfl:=qa F;replace F:=i;refine X0 5 Z ?_;obtain rfl:=qa F;exact rO 0 h Z ⟨rfl,E⟩
def qfT(_:Nat)(a:qK):Option qK:=U (⟨a.Am,a.Bl,a.Bm⟩:qK)
theorem qkv{a:qK}(b:Ro w a cs1){r:qK}(F:qfT n a=U r):RetV prog 108 [oV qK cs1] w r:=by
 obtain rfl:=qab b;refine zV 14 func108 Z fun h=>zSR (qr h Z Z fun _ _ h=>qC qc h Z Z Z fun _ _ h=>zNSR (qC qc h Z Z Z fun _ _ h=>X1 6 2 h Z (zs 0 h Z fun _ h=>X1 6 2 h Z (zs 0 h Z fun _ h=>X1 6 2 h Z (zs 0 h Z fun _ h=>X1 4 0 h Z (zs 1 h Z fun _ h=>qdH ?_))))));obtain rfl:=qa F;exact qah qc (ρ:=qK) [oV qK (qkf a)] h ⟨⟨_,_,_,rfl,rfl,h.box 1 Z,rfl⟩,E⟩ (PV.done h (qb1 (qao (S:=fun _=>False) (qfo (⟨a.Am,a.Bl,a.Bm⟩:qK)))))
def qdF(a:(List qK)):Nat->(List qK)->Int->Option ((List qK)×Int)|0,_,_=>G|n+1,c,b=>bif decide (b<(a.length:Int)) then(idx a b).bind fun f=>(qfT n f).bind fun d=>(idx c b).bind fun _=>qdF a n (setS c b d) (W64 (b+1)) else U (c,b)
def qgk(n:Nat)(a:(List qK)):Option (List qK):=(mkS (a.length:Int) ((⟨ByteArray.empty,0,0⟩:qK):qK)).bind fun b=>(qdF a n b 0).bind fun(c,_)=>U c
theorem qj5{a:(List qK)}(k:Ro w a cs1){r:(List qK)}(F:qgk n a=U r):RetV prog 67 [oV (List qK) cs1] w r:=by
 obtain⟨K,I,rfl,L⟩:=k;refine zV 23 func67 Z fun h=>X0 8 Z ?_;obtain⟨g,b,F⟩:=qe F;obtain⟨D,H,b⟩:=qb5 b;refine qc2 qc qK h Z Z Z Z Z Z Z Z Z D H b Z fun _ S1 B h=>X0 7 Z ?_;obtain⟨J,F,i⟩:=qe F;refine ql (rL (fun m e w'=>∃z y,qdF a m z y=U J/\e=[(0,oS K a.length I),(3,oS B g.length g.length),(4,vi y)]/\SH w w' [oW S1 (z:List qK) [oS B g.length g.length]]) n ⟨_,_,F,rfl,h⟩ Z ?_);rintro A _ _ ⟨z,y,F,rfl,h⟩;rcases A with _|A
 ·cases F
 refine X0 8 Z (qf Z F ?_ ?_)<;>intro F
 ·refine X0 8 Z ?_;obtain⟨M,_,F,p,_,_,_,_,s,t,u,l⟩:=L.ix F;obtain rfl:=qab u;refine zxe s t p Z (zc 0 (l.below h.below) Z (zcO h F (qkv (qfo M)) Z fun C _ _ _ h F=>?_));obtain rfl:=qab (h.own 0 Z);obtain⟨N,x,F,c,_,_,_,_,d,f,v,o⟩:=(h.sl 1 Z).1.ix F;obtain rfl:=qab v;refine zx d f ⟨c.1,qap c.2.1 (h.sl 1 Z).2⟩ Z (qdT qc 1 0 C h Z x d f (qfo N) o Z Z Z (qfo C) Z Z Z fun _ h=>X0 7 Z ?_);replace h:=h.p [1] Z;exact rK ⟨_,_,F,rfl,h⟩ Z
 refine qq Z ?_;obtain rfl:=qa F;replace F:=i;refine X0 5 Z ?_;obtain rfl:=qa F;exact rO 0 h Z ⟨rfl,E⟩
def qfu(n:Nat)(a:qb):Option qb:=(qed n a.Aa).bind fun b=>(qe0 n a.Af).bind fun c=>(qgk n a.Ac).bind fun d=>U (⟨b,c,d⟩:qb)
theorem qjq{a:qb}(b:Ro w a cs1){r:qb}(F:qfu n a=U r):RetV prog 33 [oV qb cs1] w r:=by
 obtain⟨_,_,_,_,_,_,rfl,p,s,t⟩:=qJ b;refine zV 17 func33 Z fun h=>zSR (qr h Z Z fun _ _ h=>qC qc h Z Z Z fun _ _ h=>zNSR (qC qc h Z Z Z fun _ _ h=>X1 5 2 h Z (zcL h F (qiA ⟨_,_,rfl,(h.oldS p)⟩) Z fun c _ _ l g h F=>zp1 Z (zs 1 h Z fun _ h=>X1 5 3 h Z (zcL h F (qi3 ⟨_,_,rfl,(h.oldS s)⟩) Z fun d _ _ m i h F=>zp1 Z (zs 2 h Z fun _ h=>X1 5 4 h Z (zcL h F (qj5 ⟨_,_,rfl,(h.oldS t)⟩) Z fun f _ _ o k h F=>zp1 Z (zs 3 h Z fun _ h=>X1 4 3 h Z (zs 4 h Z fun _ h=>qdH ?_)))))))));obtain rfl:=qa F;exact qah qc (ρ:=qb) [oV qb [oS l c.length g,oS m d.length i,oS o f.length k]] h ⟨⟨_,_,_,rfl,rfl,h.box 4 Z,rfl⟩,E⟩ (PV.done h (qb1 (qmU (⟨c,d,f⟩:qb) h (qbP 2 h Z) (qbP 1 h Z) (qbP 0 h Z) (by rfl) (by rfl))))
def qfQ(n:Nat)(a:qD):Option qD:=(qam n a.Ai).bind fun b=>(qam n a.Bn).bind fun c=>(qam n a.Bj).bind fun d=>(qam n a.Bc).bind fun f=>U (⟨b,c,d,f⟩:qD)
theorem qkw{a:qD}(b:Ro w a cs1){r:qD}(F:qfQ n a=U r):RetV prog 68 [oV qD cs1] w r:=by
 obtain⟨_,_,_,_,_,_,_,_,rfl,u,v,x,y⟩:=qaM b;refine zV 21 func68 Z fun h=>zSR (qr h Z Z fun _ _ h=>qC qc h Z Z Z fun _ _ h=>zNSR (qC qc h Z Z Z fun _ _ h=>X1 5 2 h Z (zcL h F (qag ⟨_,_,rfl,(h.oldS u)⟩) Z fun c _ _ o i h F=>zp1 Z (zs 1 h Z fun _ h=>X1 5 3 h Z (zcL h F (qag ⟨_,_,rfl,(h.oldS v)⟩) Z fun d _ _ p k h F=>zp1 Z (zs 2 h Z fun _ h=>X1 5 4 h Z (zcL h F (qag ⟨_,_,rfl,(h.oldS x)⟩) Z fun f _ _ s l h F=>zp1 Z (zs 3 h Z fun _ h=>X1 5 5 h Z (zcL h F (qag ⟨_,_,rfl,(h.oldS y)⟩) Z fun g _ _ t m h F=>zp1 Z (zs 4 h Z fun _ h=>X1 4 4 h Z (zs 5 h Z fun _ h=>qdH ?_)))))))))));obtain rfl:=qa F;exact qah qc (ρ:=qD) [oV qD [oS o c.length i,oS p d.length k,oS s f.length l,oS t g.length m]] h ⟨⟨_,_,_,rfl,rfl,h.box 5 Z,rfl⟩,E⟩ (PV.done h (qb1 (qoj (⟨c,d,f,g⟩:qD) h (qbP 3 h Z) (qbP 2 h Z) (qbP 1 h Z) (qbP 0 h Z) (by rfl) (by rfl) (by rfl))))
def qdD(a:(List qD)):Nat->(List qD)->Int->Option ((List qD)×Int)|0,_,_=>G|n+1,c,b=>bif decide (b<(a.length:Int)) then(idx a b).bind fun f=>(qfQ n f).bind fun d=>(idx c b).bind fun _=>qdD a n (setS c b d) (W64 (b+1)) else U (c,b)
def qgo(n:Nat)(a:(List qD)):Option (List qD):=(mkS (a.length:Int) ((⟨[],[],[],[]⟩:qD):qD)).bind fun b=>(qdD a n b 0).bind fun(c,_)=>U c
theorem qjZ{a:(List qD)}(o:Ro w a cs1){r:(List qD)}(F:qgo n a=U r):RetV prog 34 [oV (List qD) cs1] w r:=by
 obtain⟨K,H,rfl,M⟩:=o;refine zV 23 func34 Z fun h=>X0 8 Z ?_;obtain⟨k,b,F⟩:=qe F;obtain⟨C,D,b⟩:=qb5 b;refine qc2 qc qD h Z Z Z Z Z Z Z Z Z C D b Z fun _ _ B h=>X0 7 Z ?_;obtain⟨I,F,l⟩:=qe F;refine ql (rL (fun m e w'=>∃S2 z y,qdD a m z y=U I/\e=[(0,oS K a.length H),(3,oS B k.length k.length),(4,vi y)]/\SH w w' [oW S2 (z:List qD) [oS B k.length k.length]]) n ⟨_,_,_,F,rfl,h⟩ Z ?_);rintro A _ _ ⟨S2,z,y,F,rfl,h⟩;rcases A with _|A
 ·cases F
 refine X0 8 Z (qf Z F ?_ ?_)<;>intro F
 ·refine X0 8 Z ?_;obtain⟨R,_,F,s,_,_,_,_,t,u,v,p⟩:=M.ix F;obtain⟨_,_,_,_,_,_,_,_,rfl,N,O,P,Q⟩:=qaM v;refine zxe t u s Z (zc 0 (p.below h.below) Z (zcO h F (qkw (qgt R (h.oldS N) (h.oldS O) (h.oldS P) (h.oldS Q))) Z fun L _ _ _ h F=>?_));obtain⟨_,_,_,_,_,_,_,_,rfl,-,-,-,-⟩:=qaM (h.own 0 Z);obtain⟨_,c,F⟩:=qe F;have d:=qa8 c;replace h:=h.lrn0 1 Z;obtain⟨_,J,_,_,f,g,-,i,_⟩:=(qg1 (h.lrnO 1 Z)).1.at c;have x:=i;obtain⟨_,_,_,_,_,_,_,_,rfl,_,_,_,_⟩:=qaM i;replace h:=h.lrnAdd 1 Z x;refine zx f g ⟨d.1,qap d.2.1 (qg1 (h.lrnO 1 Z)).2⟩ Z ?_;replace h:=h.unlrn 1 Z;exact qh6 qc L h c f g Z Z Z Z Z fun _ _ h=>X0 7 Z (rK ⟨_,_,_,F,rfl,h⟩ Z)
 refine qq Z ?_;obtain rfl:=qa F;replace F:=l;refine X0 5 Z ?_;obtain rfl:=qa F;exact rO 0 h Z ⟨rfl,E⟩
def qer(n:Nat)(a:qm):Option qm:=(qe5 n (⟨a.Aq.Aj⟩:qh)).bind fun b=>(qfu n (⟨a.Ab.Aa,a.Ab.Af,a.Ab.Ac⟩:qb)).bind fun c=>(qgo n a.Ah).bind fun d=>U (⟨b,c,d⟩:qm)
theorem qfX{a:qm}(c:Ro w a cs1){r:qm}(F:qer n a=U r):RetV prog 9 [oV qm cs1] w r:=by
 obtain⟨_,_,_,_,_,_,_,_,_,_,rfl,v,x,y,z,A⟩:=qU c;refine zV 17 func9 Z fun h=>zSR (qr h Z Z fun _ _ h=>qC qc h Z Z Z fun _ _ h=>zNSR (qC qc h Z Z Z fun _ _ h=>X1 5 2 h Z (zcO h F (qjc (qbg _ (h.oldS v))) Z fun g _ _ _ h F=>?_)));obtain⟨p,k,rfl,-⟩:=qZ (h.own 0 Z);refine zp1 Z (zs 1 h Z fun _ h=>X1 5 3 h Z (zcO h F (qjq (qas _ (h.oldS x) (h.oldS y) (h.oldS z))) Z fun b _ _ _ h F=>?_));obtain⟨s,l,t,m,u,o,rfl,-,-,-⟩:=qJ (h.own 0 Z);refine zp1 Z (zs 2 h Z fun _ h=>X1 5 4 h Z (zcL h F (qjZ ⟨_,_,rfl,(h.oldS A)⟩) Z fun i _ _ f d h F=>zp1 Z (zs 3 h Z fun _ h=>X1 4 3 h Z (zs 4 h Z fun _ h=>qdH ?_))));obtain rfl:=qa F;exact qah qc (ρ:=qm) [oV qm [oS p g.Aj.length k,oS s b.Aa.length l,oS t b.Af.length m,oS u b.Ac.length o,oS f i.length d]] h ⟨⟨_,_,_,rfl,rfl,h.box 4 Z,rfl⟩,E⟩ (PV.done h (qb1 (qnL (⟨g,b,i⟩:qm) h (qbP 2 h Z) (qbP 1 h Z) (qbP 0 h Z) (by rfl) (by rfl))))
def qdh(a:(List Int))(b:(List Int)):Nat->Int->Option (Flow Bool Int)|0,_=>G|n+1,c=>bif decide (c<(a.length:Int)) then(idx a c).bind fun d=>(idx b c).bind fun f=>bif (d != f) then U (.ret false) else qdh a b n (W64 (c+1)) else U (.nxt c)
def qan(n:Nat)(a:(List Int))(b:(List Int)):Option Bool:=bif ((a.length:Int) != (b.length:Int)) then U false else(qdh a b n 0).bind fun|.ret r=>U r|.nxt _=>U true
theorem qaf{a:(List Int)}{b:(List Int)}(d:Ro w a cs1)(f:Ro w b cs2){r:Bool}(F:qan n a b=U r):RetV prog 43 [oV (List Int) cs1,oV (List Int) cs2] w r:=by
 obtain⟨A,x,rfl,C⟩:=d;obtain⟨B,y,rfl,D⟩:=f;refine zV 26 func43 Z fun h=>X0 13 Z (qf Z F ?_ ?_)<;>intro F
 ·exact X0 4 Z (rb h F Z)
 refine X0 6 Z ?_;obtain⟨z,F,c⟩:=qe F;refine ql (rL (fun m e w'=>∃u,qdh a b m u=U z/\e=[(0,oS A a.length x),(1,oS B b.length y),(5,vi u)]/\SH w w' []) n ⟨_,F,rfl,h⟩ Z ?_);rintro v _ _ ⟨u,F,rfl,h⟩;rcases v with _|v
 ·cases F
 refine X0 8 Z (qf Z F ?_ ?_)<;>intro F
 ·refine X0 4 Z (rD (zd2 Z ?_));obtain⟨_,_,F,k,_,_,_,_,o,s,rfl,g⟩:=C.ix F;refine zdxe o s k Z (zdc 0 (g.below h.below) Z (zd2 Z ?_));obtain⟨_,_,F,l,_,_,_,_,p,t,rfl,i⟩:=D.ix F;refine zdxe p t l Z (zdc 0 (i.below h.below) Z (zd1 Z (dN h fun _ h=>qf Z F ?_ ?_)))<;>intro F
  ·refine X0 4 Z ?_;obtain rfl:=qa F;replace F:=c;exact rb h F Z
  exact X0 7 Z (rK ⟨_,F,rfl,h⟩ Z)
 refine qq Z ?_;obtain rfl:=qa F;replace F:=c;exact X0 4 Z (rb h F Z)
def qgB(_:Nat)(a:qN)(b:qN):Option Bool:=bif (a.Am.toList != b.Am.toList) then U false else bif (a.Bl != b.Bl) then U false else bif (a.Bj != b.Bj) then U false else bif (!(a.Ay==b.Ay)) then U false else U true
theorem qlg{a:qN}{b:qN}(c:Ro w a cs1)(d:Ro w b cs2){r:Bool}(F:qgB n a b=U r):RetV prog 186 [oV qN cs1,oV qN cs2] w r:=by
 obtain rfl:=qav c;obtain rfl:=qav d;refine zV 25 func186 Z fun h=>zSR (qr h Z Z fun _ _ h=>qr h Z Z fun _ _ h=>X2 11 1 0 h Z (qf Z F ?_ ?_))<;>intro F
 ·exact X0 4 Z (rb h F Z)
 refine X2 10 1 0 h Z (qf Z F ?_ ?_)<;>intro F
 ·exact X0 4 Z (rb h F Z)
 refine X2 10 1 0 h Z (qf Z F ?_ ?_)<;>intro F
 ·exact X0 4 Z (rb h F Z)
 refine X2 10 1 0 h Z (qf Z F ?_ ?_)<;>intro F
 ·exact X0 4 Z (rb h F Z)
 exact X0 5 Z (rb h F Z)
def qd7(a:(List qN))(b:(List qN)):Nat->Int->Option (Flow Bool Int)|0,_=>G|n+1,c=>bif decide (c<(a.length:Int)) then(idx a c).bind fun f=>(idx b c).bind fun g=>(qgB n f g).bind fun d=>bif (!d) then U (.ret false) else qd7 a b n (W64 (c+1)) else U (.nxt c)
def qg4(n:Nat)(a:(List qN))(b:(List qN)):Option Bool:=bif ((a.length:Int) != (b.length:Int)) then U false else(qd7 a b n 0).bind fun|.ret r=>U r|.nxt _=>U true
theorem qku{a:(List qN)}{b:(List qN)}(d:Ro w a cs1)(f:Ro w b cs2){r:Bool}(F:qg4 n a b=U r):RetV prog 157 [oV (List qN) cs1,oV (List qN) cs2] w r:=by
 obtain⟨D,A,rfl,J⟩:=d;obtain⟨H,B,rfl,K⟩:=f;refine zV 27 func157 Z fun h=>X0 13 Z (qf Z F ?_ ?_)<;>intro F
 ·exact X0 4 Z (rb h F Z)
 refine X0 6 Z ?_;obtain⟨C,F,c⟩:=qe F;refine ql (rL (fun m e w'=>∃y,qd7 a b m y=U C/\e=[(0,oS D a.length A),(1,oS H b.length B),(5,vi y)]/\SH w w' []) n ⟨_,F,rfl,h⟩ Z ?_);rintro z _ _ ⟨y,F,rfl,h⟩;rcases z with _|z
 ·cases F
 refine X0 8 Z (qf Z F ?_ ?_)<;>intro F
 ·refine X0 4 Z (rD (zd2 Z ?_));obtain⟨L,_,F,k,_,_,_,_,o,s,u,g⟩:=J.ix F;obtain rfl:=qav u;refine zdxe o s k Z (zdc 0 (g.below h.below) Z (zd2 Z ?_));obtain⟨M,_,F,l,_,_,_,_,p,t,v,i⟩:=K.ix F;obtain rfl:=qav v;refine zdxe p t l Z (zdc 0 (i.below h.below) Z ?_);obtain⟨I,x,F⟩:=qe F;refine qa3 I (vsB _) (cB 186 Z) (fun _ N=>qlg (qfN L) (qfN M) x) Z Z Z Z (zd1 Z (dN h fun _ h=>qf Z F ?_ ?_))<;>intro F
  ·refine X0 4 Z ?_;obtain rfl:=qa F;replace F:=c;exact rb h F Z
  exact X0 7 Z (rK ⟨_,F,rfl,h⟩ Z)
 refine qq Z ?_;obtain rfl:=qa F;replace F:=c;exact X0 4 Z (rb h F Z)
def qeT(n:Nat)(a:qp)(b:qp):Option Bool:=(qan n a.Bb b.Bb).bind fun c=>bif (!c) then U false else(qan n a.Ba b.Ba).bind fun d=>bif (!d) then U false else(qan n a.As b.As).bind fun f=>bif (!f) then U false else U true
theorem qjY{a:qp}{b:qp}(c:Ro w a cs1)(d:Ro w b cs2){r:Bool}(F:qeT n a b=U r):RetV prog 254 [oV qp cs1,oV qp cs2] w r:=by
 obtain⟨_,_,_,_,_,_,rfl,f,g,i⟩:=qaH c;obtain⟨_,_,_,_,_,_,rfl,k,l,m⟩:=qaH d;refine zV 23 func254 Z fun h=>zSR (qr h Z Z fun _ _ h=>qr h Z Z fun _ _ h=>X2 9 1 0 h Z (zcB h F (qaf ⟨_,_,rfl,(h.oldS f)⟩ ⟨_,_,rfl,(h.oldS k)⟩) Z fun _ _ h F=>X0 2 Z (qf Z F ?_ ?_)))<;>intro F
 ·exact X0 4 Z (rb h F Z)
 refine X2 8 1 0 h Z (zcB h F (qaf ⟨_,_,rfl,(h.oldS g)⟩ ⟨_,_,rfl,(h.oldS l)⟩) Z fun _ _ h F=>X0 2 Z (qf Z F ?_ ?_))<;>intro F
 ·exact X0 4 Z (rb h F Z)
 refine X2 8 1 0 h Z (zcB h F (qaf ⟨_,_,rfl,(h.oldS i)⟩ ⟨_,_,rfl,(h.oldS m)⟩) Z fun _ _ h F=>X0 2 Z (qf Z F ?_ ?_))<;>intro F
 ·exact X0 4 Z (rb h F Z)
 exact X0 5 Z (rb h F Z)
def qdf(a:(List qp))(b:(List qp)):Nat->Int->Option (Flow Bool Int)|0,_=>G|n+1,c=>bif decide (c<(a.length:Int)) then(idx a c).bind fun f=>(idx b c).bind fun g=>(qeT n f g).bind fun d=>bif (!d) then U (.ret false) else qdf a b n (W64 (c+1)) else U (.nxt c)
def qeG(n:Nat)(a:(List qp))(b:(List qp)):Option Bool:=bif ((a.length:Int) != (b.length:Int)) then U false else(qdf a b n 0).bind fun|.ret r=>U r|.nxt _=>U true
theorem qhg{a:(List qp)}{b:(List qp)}(d:Ro w a cs1)(f:Ro w b cs2){r:Bool}(F:qeG n a b=U r):RetV prog 225 [oV (List qp) cs1,oV (List qp) cs2] w r:=by
 obtain⟨D,A,rfl,J⟩:=d;obtain⟨H,B,rfl,K⟩:=f;refine zV 27 func225 Z fun h=>X0 13 Z (qf Z F ?_ ?_)<;>intro F
 ·exact X0 4 Z (rb h F Z)
 refine X0 6 Z ?_;obtain⟨C,F,c⟩:=qe F;refine ql (rL (fun m e w'=>∃y,qdf a b m y=U C/\e=[(0,oS D a.length A),(1,oS H b.length B),(5,vi y)]/\SH w w' []) n ⟨_,F,rfl,h⟩ Z ?_);rintro z _ _ ⟨y,F,rfl,h⟩;rcases z with _|z
 ·cases F
 refine X0 8 Z (qf Z F ?_ ?_)<;>intro F
 ·refine X0 4 Z (rD (zd2 Z ?_));obtain⟨R,_,F,k,_,_,_,_,o,s,u,g⟩:=J.ix F;obtain⟨_,_,_,_,_,_,rfl,L,M,N⟩:=qaH u;refine zdxe o s k Z (zdc 0 (g.below h.below) Z (zd2 Z ?_));obtain⟨S,_,F,l,_,_,_,_,p,t,v,i⟩:=K.ix F;obtain⟨_,_,_,_,_,_,rfl,O,P,Q⟩:=qaH v;refine zdxe p t l Z (zdc 0 (i.below h.below) Z ?_);obtain⟨I,x,F⟩:=qe F;refine qa3 I (vsB _) (cB 254 Z) (fun _ T=>qjY (qfl R ((h.ext T).oldS L) ((h.ext T).oldS M) ((h.ext T).oldS N)) (qfl S ((h.ext T).oldS O) ((h.ext T).oldS P) ((h.ext T).oldS Q)) x) Z Z Z Z (zd1 Z (dN h fun _ h=>qf Z F ?_ ?_))<;>intro F
  ·refine X0 4 Z ?_;obtain rfl:=qa F;replace F:=c;exact rb h F Z
  exact X0 7 Z (rK ⟨_,F,rfl,h⟩ Z)
 refine qq Z ?_;obtain rfl:=qa F;replace F:=c;exact X0 4 Z (rb h F Z)
def qgO(n:Nat)(a:qH)(b:qH):Option Bool:=bif (a.Ap != b.Ap) then U false else bif (a.Av != b.Av) then U false else bif (a.To != b.To) then U false else bif (a.Bg != b.Bg) then U false else(qeG n a.Be b.Be).bind fun c=>bif (!c) then U false else(qeG n a.Bk b.Bk).bind fun d=>bif (!d) then U false else U true
theorem qlk{a:qH}{b:qH}(c:Ro w a cs1)(d:Ro w b cs2){r:Bool}(F:qgO n a b=U r):RetV prog 187 [oV qH cs1,oV qH cs2] w r:=by
 obtain⟨_,_,_,_,rfl,f,g⟩:=qV c;obtain⟨_,_,_,_,rfl,i,k⟩:=qV d;refine zV 37 func187 Z fun h=>zSR (qr h Z Z fun _ _ h=>qr h Z Z fun _ _ h=>X2 11 1 0 h Z (qf Z F ?_ ?_))<;>intro F
 ·exact X0 4 Z (rb h F Z)
 refine X2 10 1 0 h Z (qf Z F ?_ ?_)<;>intro F
 ·exact X0 4 Z (rb h F Z)
 refine X2 10 1 0 h Z (qf Z F ?_ ?_)<;>intro F
 ·exact X0 4 Z (rb h F Z)
 refine X2 10 1 0 h Z (qf Z F ?_ ?_)<;>intro F
 ·exact X0 4 Z (rb h F Z)
 refine X2 8 1 0 h Z (zcB h F (qhg ⟨_,_,rfl,(h.oldS f)⟩ ⟨_,_,rfl,(h.oldS i)⟩) Z fun _ _ h F=>X0 2 Z (qf Z F ?_ ?_))<;>intro F
 ·exact X0 4 Z (rb h F Z)
 refine X2 8 1 0 h Z (zcB h F (qhg ⟨_,_,rfl,(h.oldS g)⟩ ⟨_,_,rfl,(h.oldS k)⟩) Z fun _ _ h F=>X0 2 Z (qf Z F ?_ ?_))<;>intro F
 ·exact X0 4 Z (rb h F Z)
 exact X0 5 Z (rb h F Z)
end Go.Fw


namespace Go.Fw
open Go Go.Proofs Go.Proofs.Tryz
open Go.RowKit (Below)
open Ch renaming own->oW,box->oX,grp->oG
open GoT renaming v->oV
open Go.Bd renaming slice->oS
set_option maxRecDepth 100000
set_option maxHeartbeats 6400000
variable{n:Nat}{w:World}{cs1 cs2 cs3 cs4 cs5 cs6 cs7 cs8 cs9:List Value}
def qd9(a:(List qH))(b:(List qH)):Nat->Int->Option (Flow Bool Int)|0,_=>G|n+1,c=>bif decide (c<(a.length:Int)) then(idx a c).bind fun f=>(idx b c).bind fun g=>(qgO n f g).bind fun d=>bif (!d) then U (.ret false) else qd9 a b n (W64 (c+1)) else U (.nxt c)
def qg5(n:Nat)(a:(List qH))(b:(List qH)):Option Bool:=bif ((a.length:Int) != (b.length:Int)) then U false else(qd9 a b n 0).bind fun|.ret r=>U r|.nxt _=>U true
theorem qkA{a:(List qH)}{b:(List qH)}(d:Ro w a cs1)(f:Ro w b cs2){r:Bool}(F:qg5 n a b=U r):RetV prog 158 [oV (List qH) cs1,oV (List qH) cs2] w r:=by
 obtain⟨D,A,rfl,J⟩:=d;obtain⟨H,B,rfl,K⟩:=f;refine zV 27 func158 Z fun h=>X0 13 Z (qf Z F ?_ ?_)<;>intro F
 ·exact X0 4 Z (rb h F Z)
 refine X0 6 Z ?_;obtain⟨C,F,c⟩:=qe F;refine ql (rL (fun m e w'=>∃y,qd9 a b m y=U C/\e=[(0,oS D a.length A),(1,oS H b.length B),(5,vi y)]/\SH w w' []) n ⟨_,F,rfl,h⟩ Z ?_);rintro z _ _ ⟨y,F,rfl,h⟩;rcases z with _|z
 ·cases F
 refine X0 8 Z (qf Z F ?_ ?_)<;>intro F
 ·refine X0 4 Z (rD (zd2 Z ?_));obtain⟨P,_,F,k,_,_,_,_,o,s,u,g⟩:=J.ix F;obtain⟨_,_,_,_,rfl,L,M⟩:=qV u;refine zdxe o s k Z (zdc 0 (g.below h.below) Z (zd2 Z ?_));obtain⟨Q,_,F,l,_,_,_,_,p,t,v,i⟩:=K.ix F;obtain⟨_,_,_,_,rfl,N,O⟩:=qV v;refine zdxe p t l Z (zdc 0 (i.below h.below) Z ?_);obtain⟨I,x,F⟩:=qe F;refine qa3 I (vsB _) (cB 187 Z) (fun _ R=>qlk (qeF P ((h.ext R).oldS L) ((h.ext R).oldS M)) (qeF Q ((h.ext R).oldS N) ((h.ext R).oldS O)) x) Z Z Z Z (zd1 Z (dN h fun _ h=>qf Z F ?_ ?_))<;>intro F
  ·refine X0 4 Z ?_;obtain rfl:=qa F;replace F:=c;exact rb h F Z
  exact X0 7 Z (rK ⟨_,F,rfl,h⟩ Z)
 refine qq Z ?_;obtain rfl:=qa F;replace F:=c;exact X0 4 Z (rb h F Z)
def qfJ(n:Nat)(a:qn)(b:qn):Option Bool:=bif (a.Am.toList != b.Am.toList) then U false else bif (a.Ap != b.Ap) then U false else(qg4 n a.Ak b.Ak).bind fun c=>bif (!c) then U false else(qg5 n a.Ar b.Ar).bind fun d=>bif (!d) then U false else(qan n a.Az b.Az).bind fun f=>bif (!f) then U false else bif (a.Bo != b.Bo) then U false else bif (a.Bh != b.Bh) then U false else U true
theorem qkK{a:qn}{b:qn}(c:Ro w a cs1)(d:Ro w b cs2){r:Bool}(F:qfJ n a b=U r):RetV prog 125 [oV qn cs1,oV qn cs2] w r:=by
 obtain⟨_,_,_,_,_,_,rfl,f,g,i⟩:=qF c;obtain⟨_,_,_,_,_,_,rfl,k,l,m⟩:=qF d;refine zV 43 func125 Z fun h=>zSR (qr h Z Z fun _ _ h=>qr h Z Z fun _ _ h=>X2 11 1 0 h Z (qf Z F ?_ ?_))<;>intro F
 ·exact X0 4 Z (rb h F Z)
 refine X2 10 1 0 h Z (qf Z F ?_ ?_)<;>intro F
 ·exact X0 4 Z (rb h F Z)
 refine X2 8 1 0 h Z (zcB h F (qku ⟨_,_,rfl,(h.oldS f)⟩ ⟨_,_,rfl,(h.oldS k)⟩) Z fun _ _ h F=>X0 2 Z (qf Z F ?_ ?_))<;>intro F
 ·exact X0 4 Z (rb h F Z)
 refine X2 8 1 0 h Z (zcB h F (qkA ⟨_,_,rfl,(h.oldS g)⟩ ⟨_,_,rfl,(h.oldS l)⟩) Z fun _ _ h F=>X0 2 Z (qf Z F ?_ ?_))<;>intro F
 ·exact X0 4 Z (rb h F Z)
 refine X2 8 1 0 h Z (zcB h F (qaf ⟨_,_,rfl,(h.oldS i)⟩ ⟨_,_,rfl,(h.oldS m)⟩) Z fun _ _ h F=>X0 2 Z (qf Z F ?_ ?_))<;>intro F
 ·exact X0 4 Z (rb h F Z)
 refine X2 10 1 0 h Z (qf Z F ?_ ?_)<;>intro F
 ·exact X0 4 Z (rb h F Z)
 refine X2 10 1 0 h Z (qf Z F ?_ ?_)<;>intro F
 ·exact X0 4 Z (rb h F Z)
 exact X0 5 Z (rb h F Z)
def qdy(a:(List qn))(b:(List qn)):Nat->Int->Option (Flow Bool Int)|0,_=>G|n+1,c=>bif decide (c<(a.length:Int)) then(idx a c).bind fun f=>(idx b c).bind fun g=>(qfJ n f g).bind fun d=>bif (!d) then U (.ret false) else qdy a b n (W64 (c+1)) else U (.nxt c)
def qgg(n:Nat)(a:(List qn))(b:(List qn)):Option Bool:=bif ((a.length:Int) != (b.length:Int)) then U false else(qdy a b n 0).bind fun|.ret r=>U r|.nxt _=>U true
theorem qjT{a:(List qn)}{b:(List qn)}(d:Ro w a cs1)(f:Ro w b cs2){r:Bool}(F:qgg n a b=U r):RetV prog 82 [oV (List qn) cs1,oV (List qn) cs2] w r:=by
 obtain⟨D,A,rfl,J⟩:=d;obtain⟨H,B,rfl,K⟩:=f;refine zV 27 func82 Z fun h=>X0 13 Z (qf Z F ?_ ?_)<;>intro F
 ·exact X0 4 Z (rb h F Z)
 refine X0 6 Z ?_;obtain⟨C,F,c⟩:=qe F;refine ql (rL (fun m e w'=>∃y,qdy a b m y=U C/\e=[(0,oS D a.length A),(1,oS H b.length B),(5,vi y)]/\SH w w' []) n ⟨_,F,rfl,h⟩ Z ?_);rintro z _ _ ⟨y,F,rfl,h⟩;rcases z with _|z
 ·cases F
 refine X0 8 Z (qf Z F ?_ ?_)<;>intro F
 ·refine X0 4 Z (rD (zd2 Z ?_));obtain⟨R,_,F,k,_,_,_,_,o,s,u,g⟩:=J.ix F;obtain⟨_,_,_,_,_,_,rfl,L,M,N⟩:=qF u;refine zdxe o s k Z (zdc 0 (g.below h.below) Z (zd2 Z ?_));obtain⟨S,_,F,l,_,_,_,_,p,t,v,i⟩:=K.ix F;obtain⟨_,_,_,_,_,_,rfl,O,P,Q⟩:=qF v;refine zdxe p t l Z (zdc 0 (i.below h.below) Z ?_);obtain⟨I,x,F⟩:=qe F;refine qa3 I (vsB _) (cB 125 Z) (fun _ T=>qkK (qgr R ((h.ext T).oldS L) ((h.ext T).oldS M) ((h.ext T).oldS N)) (qgr S ((h.ext T).oldS O) ((h.ext T).oldS P) ((h.ext T).oldS Q)) x) Z Z Z Z (zd1 Z (dN h fun _ h=>qf Z F ?_ ?_))<;>intro F
  ·refine X0 4 Z ?_;obtain rfl:=qa F;replace F:=c;exact rb h F Z
  exact X0 7 Z (rK ⟨_,F,rfl,h⟩ Z)
 refine qq Z ?_;obtain rfl:=qa F;replace F:=c;exact X0 4 Z (rb h F Z)
def qeV(n:Nat)(a:qh)(b:qh):Option Bool:=(qgg n a.Aj b.Aj).bind fun c=>bif (!c) then U false else U true
theorem qiX{a:qh}{b:qh}(c:Ro w a cs1)(d:Ro w b cs2){r:Bool}(F:qeV n a b=U r):RetV prog 40 [oV qh cs1,oV qh cs2] w r:=by
 obtain⟨_,_,rfl,f⟩:=qZ c;obtain⟨_,_,rfl,g⟩:=qZ d;refine zV 11 func40 Z fun h=>zSR (qr h Z Z fun _ _ h=>qr h Z Z fun _ _ h=>X2 9 1 0 h Z (zcB h F (qjT ⟨_,_,rfl,(h.oldS f)⟩ ⟨_,_,rfl,(h.oldS g)⟩) Z fun _ _ h F=>X0 2 Z (qf Z F ?_ ?_)))<;>intro F
 ·exact X0 4 Z (rb h F Z)
 exact X0 5 Z (rb h F Z)
def qdG(n:Nat)(a:qd)(b:qd):Option Bool:=bif (a.Am.toList != b.Am.toList) then U false else bif (a.Bf != b.Bf) then U false else(qan n a.Af b.Af).bind fun c=>bif (!c) then U false else U true
theorem qiM{a:qd}{b:qd}(c:Ro w a cs1)(d:Ro w b cs2){r:Bool}(F:qdG n a b=U r):RetV prog 126 [oV qd cs1,oV qd cs2] w r:=by
 obtain⟨_,_,rfl,f⟩:=qA c;obtain⟨_,_,rfl,g⟩:=qA d;refine zV 21 func126 Z fun h=>zSR (qr h Z Z fun _ _ h=>qr h Z Z fun _ _ h=>X2 11 1 0 h Z (qf Z F ?_ ?_))<;>intro F
 ·exact X0 4 Z (rb h F Z)
 refine X2 10 1 0 h Z (qf Z F ?_ ?_)<;>intro F
 ·exact X0 4 Z (rb h F Z)
 refine X2 8 1 0 h Z (zcB h F (qaf ⟨_,_,rfl,(h.oldS f)⟩ ⟨_,_,rfl,(h.oldS g)⟩) Z fun _ _ h F=>X0 2 Z (qf Z F ?_ ?_))<;>intro F
 ·exact X0 4 Z (rb h F Z)
 exact X0 5 Z (rb h F Z)
def qb7(a:(List qd))(b:(List qd)):Nat->Int->Option (Flow Bool Int)|0,_=>G|n+1,c=>bif decide (c<(a.length:Int)) then(idx a c).bind fun f=>(idx b c).bind fun g=>(qdG n f g).bind fun d=>bif (!d) then U (.ret false) else qb7 a b n (W64 (c+1)) else U (.nxt c)
def qek(n:Nat)(a:(List qd))(b:(List qd)):Option Bool:=bif ((a.length:Int) != (b.length:Int)) then U false else(qb7 a b n 0).bind fun|.ret r=>U r|.nxt _=>U true
theorem qit{a:(List qd)}{b:(List qd)}(d:Ro w a cs1)(f:Ro w b cs2){r:Bool}(F:qek n a b=U r):RetV prog 83 [oV (List qd) cs1,oV (List qd) cs2] w r:=by
 obtain⟨D,A,rfl,J⟩:=d;obtain⟨H,B,rfl,K⟩:=f;refine zV 27 func83 Z fun h=>X0 13 Z (qf Z F ?_ ?_)<;>intro F
 ·exact X0 4 Z (rb h F Z)
 refine X0 6 Z ?_;obtain⟨C,F,c⟩:=qe F;refine ql (rL (fun m e w'=>∃y,qb7 a b m y=U C/\e=[(0,oS D a.length A),(1,oS H b.length B),(5,vi y)]/\SH w w' []) n ⟨_,F,rfl,h⟩ Z ?_);rintro z _ _ ⟨y,F,rfl,h⟩;rcases z with _|z
 ·cases F
 refine X0 8 Z (qf Z F ?_ ?_)<;>intro F
 ·refine X0 4 Z (rD (zd2 Z ?_));obtain⟨N,_,F,k,_,_,_,_,o,s,u,g⟩:=J.ix F;obtain⟨_,_,rfl,L⟩:=qA u;refine zdxe o s k Z (zdc 0 (g.below h.below) Z (zd2 Z ?_));obtain⟨O,_,F,l,_,_,_,_,p,t,v,i⟩:=K.ix F;obtain⟨_,_,rfl,M⟩:=qA v;refine zdxe p t l Z (zdc 0 (i.below h.below) Z ?_);obtain⟨I,x,F⟩:=qe F;refine qa3 I (vsB _) (cB 126 Z) (fun _ P=>qiM (qdN N ((h.ext P).oldS L)) (qdN O ((h.ext P).oldS M)) x) Z Z Z Z (zd1 Z (dN h fun _ h=>qf Z F ?_ ?_))<;>intro F
  ·refine X0 4 Z ?_;obtain rfl:=qa F;replace F:=c;exact rb h F Z
  exact X0 7 Z (rK ⟨_,F,rfl,h⟩ Z)
 refine qq Z ?_;obtain rfl:=qa F;replace F:=c;exact X0 4 Z (rb h F Z)
def qcQ(a:(List ByteArray))(b:(List ByteArray)):Nat->Int->Option (Flow Bool Int)|0,_=>G|n+1,c=>bif decide (c<(a.length:Int)) then(idx a c).bind fun d=>(idx b c).bind fun f=>bif (d.toList != f.toList) then U (.ret false) else qcQ a b n (W64 (c+1)) else U (.nxt c)
def qfg(n:Nat)(a:(List ByteArray))(b:(List ByteArray)):Option Bool:=bif ((a.length:Int) != (b.length:Int)) then U false else(qcQ a b n 0).bind fun|.ret r=>U r|.nxt _=>U true
theorem qjf{a:(List ByteArray)}{b:(List ByteArray)}(d:Ro w a cs1)(f:Ro w b cs2){r:Bool}(F:qfg n a b=U r):RetV prog 84 [oV (List ByteArray) cs1,oV (List ByteArray) cs2] w r:=by
 obtain⟨A,x,rfl,C⟩:=d;obtain⟨B,y,rfl,D⟩:=f;refine zV 26 func84 Z fun h=>X0 13 Z (qf Z F ?_ ?_)<;>intro F
 ·exact X0 4 Z (rb h F Z)
 refine X0 6 Z ?_;obtain⟨z,F,c⟩:=qe F;refine ql (rL (fun m e w'=>∃u,qcQ a b m u=U z/\e=[(0,oS A a.length x),(1,oS B b.length y),(5,vi u)]/\SH w w' []) n ⟨_,F,rfl,h⟩ Z ?_);rintro v _ _ ⟨u,F,rfl,h⟩;rcases v with _|v
 ·cases F
 refine X0 8 Z (qf Z F ?_ ?_)<;>intro F
 ·refine X0 4 Z (rD (zd2 Z ?_));obtain⟨_,_,F,k,_,_,_,_,o,s,rfl,g⟩:=C.ix F;refine zdxe o s k Z (zdc 0 (g.below h.below) Z (zd2 Z ?_));obtain⟨_,_,F,l,_,_,_,_,p,t,rfl,i⟩:=D.ix F;refine zdxe p t l Z (zdc 0 (i.below h.below) Z (zd1 Z (dN h fun _ h=>qf Z F ?_ ?_)))<;>intro F
  ·refine X0 4 Z ?_;obtain rfl:=qa F;replace F:=c;exact rb h F Z
  exact X0 7 Z (rK ⟨_,F,rfl,h⟩ Z)
 refine qq Z ?_;obtain rfl:=qa F;replace F:=c;exact X0 4 Z (rb h F Z)
def qfR(_:Nat)(a:qK)(b:qK):Option Bool:=bif (a.Am.toList != b.Am.toList) then U false else bif (a.Bl != b.Bl) then U false else bif (a.Bm != b.Bm) then U false else U true
theorem qk2{a:qK}{b:qK}(c:Ro w a cs1)(d:Ro w b cs2){r:Bool}(F:qfR n a b=U r):RetV prog 127 [oV qK cs1,oV qK cs2] w r:=by
 obtain rfl:=qab c;obtain rfl:=qab d;refine zV 20 func127 Z fun h=>zSR (qr h Z Z fun _ _ h=>qr h Z Z fun _ _ h=>X2 11 1 0 h Z (qf Z F ?_ ?_))<;>intro F
 ·exact X0 4 Z (rb h F Z)
 refine X2 10 1 0 h Z (qf Z F ?_ ?_)<;>intro F
 ·exact X0 4 Z (rb h F Z)
 refine X2 10 1 0 h Z (qf Z F ?_ ?_)<;>intro F
 ·exact X0 4 Z (rb h F Z)
 exact X0 5 Z (rb h F Z)
def qdw(a:(List qK))(b:(List qK)):Nat->Int->Option (Flow Bool Int)|0,_=>G|n+1,c=>bif decide (c<(a.length:Int)) then(idx a c).bind fun f=>(idx b c).bind fun g=>(qfR n f g).bind fun d=>bif (!d) then U (.ret false) else qdw a b n (W64 (c+1)) else U (.nxt c)
def qgj(n:Nat)(a:(List qK))(b:(List qK)):Option Bool:=bif ((a.length:Int) != (b.length:Int)) then U false else(qdw a b n 0).bind fun|.ret r=>U r|.nxt _=>U true
theorem qj7{a:(List qK)}{b:(List qK)}(d:Ro w a cs1)(f:Ro w b cs2){r:Bool}(F:qgj n a b=U r):RetV prog 85 [oV (List qK) cs1,oV (List qK) cs2] w r:=by
 obtain⟨D,A,rfl,J⟩:=d;obtain⟨H,B,rfl,K⟩:=f;refine zV 27 func85 Z fun h=>X0 13 Z (qf Z F ?_ ?_)<;>intro F
 ·exact X0 4 Z (rb h F Z)
 refine X0 6 Z ?_;obtain⟨C,F,c⟩:=qe F;refine ql (rL (fun m e w'=>∃y,qdw a b m y=U C/\e=[(0,oS D a.length A),(1,oS H b.length B),(5,vi y)]/\SH w w' []) n ⟨_,F,rfl,h⟩ Z ?_);rintro z _ _ ⟨y,F,rfl,h⟩;rcases z with _|z
 ·cases F
 refine X0 8 Z (qf Z F ?_ ?_)<;>intro F
 ·refine X0 4 Z (rD (zd2 Z ?_));obtain⟨L,_,F,k,_,_,_,_,o,s,u,g⟩:=J.ix F;obtain rfl:=qab u;refine zdxe o s k Z (zdc 0 (g.below h.below) Z (zd2 Z ?_));obtain⟨M,_,F,l,_,_,_,_,p,t,v,i⟩:=K.ix F;obtain rfl:=qab v;refine zdxe p t l Z (zdc 0 (i.below h.below) Z ?_);obtain⟨I,x,F⟩:=qe F;refine qa3 I (vsB _) (cB 127 Z) (fun _ N=>qk2 (qfo L) (qfo M) x) Z Z Z Z (zd1 Z (dN h fun _ h=>qf Z F ?_ ?_))<;>intro F
  ·refine X0 4 Z ?_;obtain rfl:=qa F;replace F:=c;exact rb h F Z
  exact X0 7 Z (rK ⟨_,F,rfl,h⟩ Z)
 refine qq Z ?_;obtain rfl:=qa F;replace F:=c;exact X0 4 Z (rb h F Z)
def qfw(n:Nat)(a:qb)(b:qb):Option Bool:=(qek n a.Aa b.Aa).bind fun c=>bif (!c) then U false else(qfg n a.Af b.Af).bind fun d=>bif (!d) then U false else(qgj n a.Ac b.Ac).bind fun f=>bif (!f) then U false else U true
theorem qjz{a:qb}{b:qb}(c:Ro w a cs1)(d:Ro w b cs2){r:Bool}(F:qfw n a b=U r):RetV prog 41 [oV qb cs1,oV qb cs2] w r:=by
 obtain⟨_,_,_,_,_,_,rfl,f,g,i⟩:=qJ c;obtain⟨_,_,_,_,_,_,rfl,k,l,m⟩:=qJ d;refine zV 23 func41 Z fun h=>zSR (qr h Z Z fun _ _ h=>qr h Z Z fun _ _ h=>X2 9 1 0 h Z (zcB h F (qit ⟨_,_,rfl,(h.oldS f)⟩ ⟨_,_,rfl,(h.oldS k)⟩) Z fun _ _ h F=>X0 2 Z (qf Z F ?_ ?_)))<;>intro F
 ·exact X0 4 Z (rb h F Z)
 refine X2 8 1 0 h Z (zcB h F (qjf ⟨_,_,rfl,(h.oldS g)⟩ ⟨_,_,rfl,(h.oldS l)⟩) Z fun _ _ h F=>X0 2 Z (qf Z F ?_ ?_))<;>intro F
 ·exact X0 4 Z (rb h F Z)
 refine X2 8 1 0 h Z (zcB h F (qj7 ⟨_,_,rfl,(h.oldS i)⟩ ⟨_,_,rfl,(h.oldS m)⟩) Z fun _ _ h F=>X0 2 Z (qf Z F ?_ ?_))<;>intro F
 ·exact X0 4 Z (rb h F Z)
 exact X0 5 Z (rb h F Z)
def qfV(n:Nat)(a:qD)(b:qD):Option Bool:=(qan n a.Ai b.Ai).bind fun c=>bif (!c) then U false else(qan n a.Bn b.Bn).bind fun d=>bif (!d) then U false else(qan n a.Bj b.Bj).bind fun f=>bif (!f) then U false else(qan n a.Bc b.Bc).bind fun g=>bif (!g) then U false else U true
theorem qkO{a:qD}{b:qD}(c:Ro w a cs1)(d:Ro w b cs2){r:Bool}(F:qfV n a b=U r):RetV prog 86 [oV qD cs1,oV qD cs2] w r:=by
 obtain⟨_,_,_,_,_,_,_,_,rfl,f,g,i,k⟩:=qaM c;obtain⟨_,_,_,_,_,_,_,_,rfl,l,m,o,p⟩:=qaM d;refine zV 29 func86 Z fun h=>zSR (qr h Z Z fun _ _ h=>qr h Z Z fun _ _ h=>X2 9 1 0 h Z (zcB h F (qaf ⟨_,_,rfl,(h.oldS f)⟩ ⟨_,_,rfl,(h.oldS l)⟩) Z fun _ _ h F=>X0 2 Z (qf Z F ?_ ?_)))<;>intro F
 ·exact X0 4 Z (rb h F Z)
 refine X2 8 1 0 h Z (zcB h F (qaf ⟨_,_,rfl,(h.oldS g)⟩ ⟨_,_,rfl,(h.oldS m)⟩) Z fun _ _ h F=>X0 2 Z (qf Z F ?_ ?_))<;>intro F
 ·exact X0 4 Z (rb h F Z)
 refine X2 8 1 0 h Z (zcB h F (qaf ⟨_,_,rfl,(h.oldS i)⟩ ⟨_,_,rfl,(h.oldS o)⟩) Z fun _ _ h F=>X0 2 Z (qf Z F ?_ ?_))<;>intro F
 ·exact X0 4 Z (rb h F Z)
 refine X2 8 1 0 h Z (zcB h F (qaf ⟨_,_,rfl,(h.oldS k)⟩ ⟨_,_,rfl,(h.oldS p)⟩) Z fun _ _ h F=>X0 2 Z (qf Z F ?_ ?_))<;>intro F
 ·exact X0 4 Z (rb h F Z)
 exact X0 5 Z (rb h F Z)
def qdA(a:(List qD))(b:(List qD)):Nat->Int->Option (Flow Bool Int)|0,_=>G|n+1,c=>bif decide (c<(a.length:Int)) then(idx a c).bind fun f=>(idx b c).bind fun g=>(qfV n f g).bind fun d=>bif (!d) then U (.ret false) else qdA a b n (W64 (c+1)) else U (.nxt c)
def qgl(n:Nat)(a:(List qD))(b:(List qD)):Option Bool:=bif ((a.length:Int) != (b.length:Int)) then U false else(qdA a b n 0).bind fun|.ret r=>U r|.nxt _=>U true
theorem qjS{a:(List qD)}{b:(List qD)}(d:Ro w a cs1)(f:Ro w b cs2){r:Bool}(F:qgl n a b=U r):RetV prog 42 [oV (List qD) cs1,oV (List qD) cs2] w r:=by
 obtain⟨H,B,rfl,K⟩:=d;obtain⟨I,C,rfl,L⟩:=f;refine zV 27 func42 Z fun h=>X0 13 Z (qf Z F ?_ ?_)<;>intro F
 ·exact X0 4 Z (rb h F Z)
 refine X0 6 Z ?_;obtain⟨D,F,c⟩:=qe F;refine ql (rL (fun m e w'=>∃y,qdA a b m y=U D/\e=[(0,oS H a.length B),(1,oS I b.length C),(5,vi y)]/\SH w w' []) n ⟨_,F,rfl,h⟩ Z ?_);rintro A _ _ ⟨y,F,rfl,h⟩;rcases A with _|A
 ·cases F
 refine X0 8 Z (qf Z F ?_ ?_)<;>intro F
 ·refine X0 4 Z (rD (zd2 Z ?_));obtain⟨T,_,F,k,_,_,_,_,o,s,u,g⟩:=K.ix F;obtain⟨_,_,_,_,_,_,_,_,rfl,M,N,O,P⟩:=qaM u;refine zdxe o s k Z (zdc 0 (g.below h.below) Z (zd2 Z ?_));obtain⟨W,_,F,l,_,_,_,_,p,t,v,i⟩:=L.ix F;obtain⟨_,_,_,_,_,_,_,_,rfl,Q,R,S,z⟩:=qaM v;refine zdxe p t l Z (zdc 0 (i.below h.below) Z ?_);obtain⟨J,x,F⟩:=qe F;refine qa3 J (vsB _) (cB 86 Z) (fun _ X=>qkO (qgt T ((h.ext X).oldS M) ((h.ext X).oldS N) ((h.ext X).oldS O) ((h.ext X).oldS P)) (qgt W ((h.ext X).oldS Q) ((h.ext X).oldS R) ((h.ext X).oldS S) ((h.ext X).oldS z)) x) Z Z Z Z (zd1 Z (dN h fun _ h=>qf Z F ?_ ?_))<;>intro F
  ·refine X0 4 Z ?_;obtain rfl:=qa F;replace F:=c;exact rb h F Z
  exact X0 7 Z (rK ⟨_,F,rfl,h⟩ Z)
 refine qq Z ?_;obtain rfl:=qa F;replace F:=c;exact X0 4 Z (rb h F Z)
def qgp(n:Nat)(a:qm)(b:qm):Option Bool:=(qeV n (⟨a.Aq.Aj⟩:qh) (⟨b.Aq.Aj⟩:qh)).bind fun c=>bif (!c) then U false else(qfw n (⟨a.Ab.Aa,a.Ab.Af,a.Ab.Ac⟩:qb) (⟨b.Ab.Aa,b.Ab.Af,b.Ab.Ac⟩:qb)).bind fun d=>bif (!d) then U false else(qgl n a.Ah b.Ah).bind fun f=>bif (!f) then U false else U true
theorem qj8{a:qm}{b:qm}(c:Ro w a cs1)(d:Ro w b cs2){r:Bool}(F:qgp n a b=U r):RetV prog 12 [oV qm cs1,oV qm cs2] w r:=by
 obtain⟨_,_,_,_,_,_,_,_,_,_,rfl,g,i,k,l,m⟩:=qU c;obtain⟨_,_,_,_,_,_,_,_,_,_,rfl,o,p,s,t,f⟩:=qU d;refine zV 23 func12 Z fun h=>zSR (qr h Z Z fun _ _ h=>qr h Z Z fun _ _ h=>X2 9 1 0 h Z (zcB h F (qiX (qbg _ (h.oldS g)) (qbg _ (h.oldS o))) Z fun _ _ h F=>X0 2 Z (qf Z F ?_ ?_)))<;>intro F
 ·exact X0 4 Z (rb h F Z)
 refine X2 8 1 0 h Z (zcB h F (qjz (qas _ (h.oldS i) (h.oldS k) (h.oldS l)) (qas _ (h.oldS p) (h.oldS s) (h.oldS t))) Z fun _ _ h F=>X0 2 Z (qf Z F ?_ ?_))<;>intro F
 ·exact X0 4 Z (rb h F Z)
 refine X2 8 1 0 h Z (zcB h F (qjS ⟨_,_,rfl,(h.oldS m)⟩ ⟨_,_,rfl,(h.oldS f)⟩) Z fun _ _ h F=>X0 2 Z (qf Z F ?_ ?_))<;>intro F
 ·exact X0 4 Z (rb h F Z)
 exact X0 5 Z (rb h F Z)
def qO(_:Nat)(a:Int)(c:Int)(b:Int):Option Bool:=bif decide (a>=c) then U (decide (a<=b)) else U false
theorem qE{a_n low high}  {r:Bool}(F:qO n a_n low high=U r):RetV prog 47 [vi a_n,vi low,vi high] w r:=by
 refine zV 15 func47 Z fun h=>X0 10 Z (qg (t:=10) F Z ?_ ?_)<;>intro F
 ·exact X0 9 Z (rb h F Z)
 exact X0 6 Z (rb h F Z)
def qbZ(s:ByteArray):Nat->Int->Option (Flow Bool Int)|0,_=>G|n+1,a=>bif decide (a<(s.size:Int)) then((atS s a).bind fun g=>bif decide (g>=97) then(atS s a).bind fun h=>U (decide (h<=122)) else U false).bind fun b=>((atS s a).bind fun d=>bif decide (d>=48) then(atS s a).bind fun f=>U (decide (f<=57)) else U false).bind fun c=>bif (!b) then bif c then bif (!(decide (a > 0))) then U (.ret false) else qbZ s n (W64 (a+1)) else U (.ret false) else qbZ s n (W64 (a+1)) else U (.nxt a)
def qet(n:Nat)(s:ByteArray):Option Bool:=(qbZ s n 0).bind fun|.ret r=>U r|.nxt _=>bif decide ((s.size:Int)>=1) then U (decide ((s.size:Int)<=8)) else U false
theorem qfZ{s}  {r:Bool}(F:qet n s=U r):RetV prog 165 [.string s] w r:=by
 refine zV 50 func165 Z fun h=>X0 9 Z ?_;obtain⟨y,F,a⟩:=qe F;refine ql (rL (fun m e w'=>∃g,qbZ s m g=U y/\e=[(0,.string s),(3,vi g)]/\SH w w' []) n ⟨_,F,rfl,h⟩ Z ?_);rintro z _ _ ⟨g,F,rfl,h⟩;rcases z with _|z
 ·cases F
 refine X0 8 Z (qf Z F ?_ ?_)<;>intro F
 ·refine X0 4 Z ?_;obtain⟨l,f,_,F,c⟩:=bindE F;refine qcX (fun e w'=>∃i,l i=U y/\e=[(0,.string s),(3,vi g),(4,.bool i)]/\SH w w' []) ?_ ?_
  ·refine X0 3 Z ?_;obtain⟨_,v,F⟩:=qe F;have C:=qhZ v;refine r_v (qh1 qc C Z Z Z Z) Z (zp2 Z (qg (t:=16) F Z ?_ ?_))<;>intro F
   ·refine X0 5 Z ?_;obtain⟨_,x,F⟩:=qe F;have D:=qhZ x;refine r_v (qh1 qc D Z Z Z Z) Z (X0 5 Z ?_);obtain rfl:=qa F;exact rG ⟨_,c,rfl,h⟩ Z
   refine X0 7 Z ?_;obtain rfl:=qa F;exact rG ⟨_,c,rfl,h⟩ Z
  rintro _ _ ⟨i,F,rfl,h⟩;subst f;refine qeu ?_;obtain⟨k,d,_,F,b⟩:=bindE F;refine qcX (fun e w'=>∃o,k o=U y/\e=[(0,.string s),(3,vi g),(4,.bool i),(5,.bool o)]/\SH w w' []) ?_ ?_
  ·refine X0 3 Z ?_;obtain⟨_,p,F⟩:=qe F;have A:=qhZ p;refine r_v (qh1 qc A Z Z Z Z) Z (zp2 Z (qg (t:=26) F Z ?_ ?_))<;>intro F
   ·refine X0 5 Z ?_;obtain⟨_,u,F⟩:=qe F;have B:=qhZ u;refine r_v (qh1 qc B Z Z Z Z) Z (X0 5 Z ?_);obtain rfl:=qa F;exact rG ⟨_,b,rfl,h⟩ Z
   refine X0 7 Z ?_;obtain rfl:=qa F;exact rG ⟨_,b,rfl,h⟩ Z
  rintro _ _ ⟨o,F,rfl,h⟩;subst d;refine X0 5 Z (qg (t:=34) F Z ?_ ?_)<;>intro F
  ·refine X0 4 Z (qg (t:=36) F Z ?_ ?_)<;>intro F
   ·refine X0 10 Z (qf Z F ?_ ?_)<;>intro F
    ·refine X0 4 Z ?_;obtain rfl:=qa F;replace F:=a;exact rb h F Z
    exact X0 7 Z (rK ⟨_,F,rfl,h⟩ Z)
   refine X0 8 Z (qc3 Z Z (X0 4 Z ?_));obtain rfl:=qa F;replace F:=a;exact rb h F Z
  exact X0 8 Z (qel Z Z (X0 7 Z (rK ⟨_,F,rfl,h⟩ Z)))
 refine qq Z ?_;obtain rfl:=qa F;replace F:=a;refine X0 6 Z (qg (t:=45) F Z ?_ ?_)<;>intro F
 ·exact X0 9 Z (rb h F Z)
 exact X0 6 Z (rb h F Z)
def qcH(a:qn)(c:Int)(d:qN):Nat->Int->Option (Flow (Int×Bool) Int)|0,_=>G|n+1,b=>bif decide (b<c) then(idx a.Ak b).bind fun f=>bif (f.Am.toList==d.Am.toList) then U (.ret (0,false)) else qcH a c d n (W64 (b+1)) else U (.nxt b)
def qbx(a:qn):Nat->Int->Int->Option (Flow (Int×Bool) (Int×Int))|0,_,_=>G|n+1,d,b=>bif decide (b<(a.Ak.length:Int)) then(idx a.Ak b).bind fun c=>(qcH a b c n 0).bind fun|.ret r=>U (.ret r)|.nxt _=>((qet n c.Am).bind fun h=>bif (!h) then U true else(qO n c.Bj 0 500).bind fun i=>U (!i)).bind fun f=>bif f then U (.ret (0,false)) else(bif (b==(W64 ((a.Ak.length:Int)-1))) then bif (c.Bl != 2) then U true else bif (c.Bj != 0) then U true else bif c.Ay then U true else bif decide (b<(W64 ((a.Ak.length:Int)-1))) then U (c.Bl != 1) else U false else bif decide (b<(W64 ((a.Ak.length:Int)-1))) then U (c.Bl != 1) else U false).bind fun g=>bif g then U (.ret (0,false)) else bif c.Ay then qbx a n (W64 (d+1)) (W64 (b+1)) else qbx a n d (W64 (b+1)) else U (.nxt (d,b))
def qgi(n:Nat)(a:qn):Option (Int×Bool):=(bif decide ((a.Ak.length:Int)<2) then U true else U (decide ((a.Ak.length:Int) > 5))).bind fun b=>bif b then U (0,false) else(qbx a n 0 0).bind fun|.ret r=>U r|.nxt (c,_)=>U (c,true)
theorem qj2{a:qn}(M:Ro w a cs1){r:(Int×Bool)}(F:qgi n a=U r):RetV prog 197 [oV qn cs1] w r:=by
 obtain⟨z,v,A,x,B,y,rfl,s1,_,_⟩:=qF M;refine zV 86 func197 Z fun h=>zSR (qr h Z Z fun _ b h=>X1 12 0 h Z ?_);obtain⟨I,u,_,F,o⟩:=bindE F;refine qcX (fun e w'=>∃J,I J=U r/\e=[(1,vp b),(4,vi (a.Ak.length:Int)),(17,.bool J)]/\SH w w' [oX b (qcb a z A B v x y) 169]) ?_ ?_
 ·refine X0 4 Z (qg (t:=14) F Z ?_ ?_)<;>intro F
  ·refine X0 4 Z ?_;obtain rfl:=qa F;exact rG ⟨_,o,rfl,h⟩ Z
  refine X0 6 Z ?_;obtain rfl:=qa F;exact rG ⟨_,o,rfl,h⟩ Z
 rintro _ _ ⟨J,F,rfl,h⟩;subst u;refine qf Z F ?_ ?_<;>intro F
 ·refine X0 5 Z ?_;obtain rfl:=qa F;exact qah qc (ρ:=(Int×Bool)) [oV Int [vi 0],oV Bool [.bool false]] h ⟨rfl,rfl,E⟩ (PV.done h (qfE h (qao (S:=fun _=>False) Z) (qb1 (qao (S:=fun _=>False) Z)) (by rfl)))
 refine X0 10 Z ?_;obtain⟨o1,F,f⟩:=qe F;refine ql (rL (fun m e w'=>∃g i,qbx a m g i=U o1/\e=[(1,vp b),(4,vi (a.Ak.length:Int)),(5,vi g),(6,vi i)]/\SH w w' [oX b (qcb a z A B v x y) 169]) n ⟨_,_,F,rfl,h⟩ Z ?_);rintro m1 _ _ ⟨g,i,F,rfl,h⟩;rcases m1 with _|m1
 ·cases F
 refine X0 7 Z (qf Z F ?_ ?_)<;>intro F
 ·refine X1 8 0 h Z ?_;obtain⟨C,_,F,P,_,_,_,_,R,W,a0,N⟩:=s1.ix F;obtain rfl:=qav a0;refine zxe R W P Z (zc 0 (N.below h.below) Z (qC qc h Z Z Z fun _ d h=>zs 0 h Z fun _ h=>X0 6 Z ?_));obtain⟨o2,F,k⟩:=qe F;refine ql (rL (fun m e w'=>∃i3,qcH a i C m i3=U o2/\e=[(1,vp b),(4,vi (a.Ak.length:Int)),(5,vi g),(6,vi i),(7,vp d),(8,vi i3)]/\SH w w' [oX d (qjj C) 191,oX b (qcb a z A B v x y) 169]) m1 ⟨_,F,rfl,h⟩ Z ?_);rintro m2 _ _ ⟨i3,F,rfl,h⟩;rcases m2 with _|m2
  ·cases F
  refine X0 7 Z (qf Z F ?_ ?_)<;>intro F
  ·refine X0 4 Z (rD (Y1 2 1 h Z ?_));refine zd1 Z ?_;obtain⟨_,_,F,Q,_,_,_,_,T,X,a1,O⟩:=s1.ix F;obtain rfl:=qav a1;refine zdxe T X Q Z (zd1 Z (zdc 0 (O.below h.below) Z (Y1 2 0 h Z ?_)));refine zd1 Z (dN h fun _ h=>qf Z F ?_ ?_)<;>intro F
   ·refine X0 5 Z ?_;obtain rfl:=qa F;replace F:=k;obtain rfl:=qa F;replace F:=f;obtain rfl:=qa F;exact qah qc (ρ:=(Int×Bool)) [oV Int [vi 0],oV Bool [.bool false]] h ⟨rfl,rfl,E⟩ (PV.done h (qfE h (qao (S:=fun _=>False) Z) (qb1 (qao (S:=fun _=>False) Z)) (by rfl)))
   exact X0 7 Z (rK ⟨_,F,rfl,h⟩ Z)
  refine qq Z ?_;obtain rfl:=qa F;replace F:=k;refine zSS ?_;obtain⟨H,s,_,F,l⟩:=bindE F;refine qcX (fun e w'=>∃K,H K=U o1/\e=[(1,vp b),(4,vi (a.Ak.length:Int)),(5,vi g),(6,vi i),(7,vp d),(51,.bool K)]/\SH w w' [oX d (qjj C) 191,oX b (qcb a z A B v x y) 169]) ?_ ?_
  ·refine X1 3 0 h Z (zcB h F qfZ Z fun _ _ h F=>zp2 Z (qg (t:=46) F Z ?_ ?_))<;>intro F
   ·refine X0 6 Z ?_;obtain rfl:=qa F;exact rG ⟨_,l,rfl,h⟩ Z
   refine X1 5 0 h Z (zcB h F qE Z fun _ _ h F=>X0 4 Z ?_);obtain rfl:=qa F;exact rG ⟨_,l,rfl,h⟩ Z
  rintro _ _ ⟨K,F,rfl,h⟩;subst s;refine qf Z F ?_ ?_<;>intro F
  ·refine X0 5 Z ?_;obtain rfl:=qa F;replace F:=f;obtain rfl:=qa F;exact qah qc (ρ:=(Int×Bool)) [oV Int [vi 0],oV Bool [.bool false]] h ⟨rfl,rfl,E⟩ (PV.done h (qfE h (qao (S:=fun _=>False) Z) (qb1 (qao (S:=fun _=>False) Z)) (by rfl)))
  refine zKSS ?_;obtain⟨D,p,_,F,c⟩:=bindE F;refine qcX (fun e w'=>∃L,D L=U o1/\e=[(1,vp b),(4,vi (a.Ak.length:Int)),(5,vi g),(6,vi i),(7,vp d),(80,.bool L)]/\SH w w' [oX d (qjj C) 191,oX b (qcb a z A B v x y) 169]) ?_ ?_
  ·refine X0 6 Z (qg (t:=56) F Z ?_ ?_)<;>intro F
   ·refine X1 8 0 h Z (qg (t:=60) F Z ?_ ?_)<;>intro F
    ·refine X0 24 Z ?_;obtain rfl:=qa F;exact rG ⟨_,c,rfl,h⟩ Z
    refine X1 10 0 h Z (qg (t:=65) F Z ?_ ?_)<;>intro F
    ·refine X0 17 Z ?_;obtain rfl:=qa F;exact rG ⟨_,c,rfl,h⟩ Z
    refine X1 8 0 h Z (qg (t:=70) F Z ?_ ?_)<;>intro F
    ·refine X0 11 Z ?_;obtain rfl:=qa F;exact rG ⟨_,c,rfl,h⟩ Z
    refine X0 10 Z (qg (t:=75) F Z ?_ ?_)<;>intro F
    ·refine X1 10 0 h Z ?_;obtain rfl:=qa F;exact rG ⟨_,c,rfl,h⟩ Z
    refine X0 7 Z ?_;obtain rfl:=qa F;exact rG ⟨_,c,rfl,h⟩ Z
   refine X0 24 Z (qg (t:=75) F Z ?_ ?_)<;>intro F
   ·refine X1 10 0 h Z ?_;obtain rfl:=qa F;exact rG ⟨_,c,rfl,h⟩ Z
   refine X0 7 Z ?_;obtain rfl:=qa F;exact rG ⟨_,c,rfl,h⟩ Z
  rintro _ _ ⟨L,F,rfl,h⟩;subst p;refine qf Z F ?_ ?_<;>intro F
  ·refine X0 5 Z ?_;obtain rfl:=qa F;replace F:=f;obtain rfl:=qa F;exact qah qc (ρ:=(Int×Bool)) [oV Int [vi 0],oV Bool [.bool false]] h ⟨rfl,rfl,E⟩ (PV.done h (qfE h (qao (S:=fun _=>False) Z) (qb1 (qao (S:=fun _=>False) Z)) (by rfl)))
  refine X1 6 0 h Z (qf Z F ?_ ?_)<;>intro F
  ·refine X0 11 Z ?_;replace h:=h.p [1] Z;exact rK ⟨_,_,F,rfl,h⟩ Z
  refine X0 7 Z ?_;replace h:=h.p [1] Z;exact rK ⟨_,_,F,rfl,h⟩ Z
 refine qq Z ?_;obtain rfl:=qa F;replace F:=f;refine X0 6 Z ?_;obtain rfl:=qa F;exact qah qc (ρ:=(Int×Bool)) [oV Int [vi g],oV Bool [.bool true]] h ⟨rfl,rfl,E⟩ (PV.done h (qfE h (qao (S:=fun _=>False) Z) (qb1 (qao (S:=fun _=>False) Z)) (by rfl)))
def qb0(list:(List Int)):Nat->Int->Option (Flow Bool Int)|0,_=>G|n+1,a=>bif decide (a<(list.length:Int)) then(idx list a).bind fun c=>(qO n c 0 100000).bind fun b=>bif (!b) then U (.ret false) else bif decide (a > 0) then(idx list (W64 (a-1))).bind fun d=>(idx list a).bind fun f=>bif decide (d>=f) then U (.ret false) else qb0 list n (W64 (a+1)) else qb0 list n (W64 (a+1)) else U (.nxt a)
def qe1(n:Nat)(list:(List Int)):Option Bool:=(qb0 list n 0).bind fun|.ret r=>U r|.nxt _=>bif decide ((list.length:Int)>=1) then U (decide ((list.length:Int)<=4)) else U false
theorem qhJ{list:(List Int)}(b:Ro w list cs1){r:Bool}(F:qe1 n list=U r):RetV prog 275 [oV (List Int) cs1] w r:=by
 obtain⟨D,B,rfl,z⟩:=b;refine zV 40 func275 Z fun h=>X0 9 Z ?_;obtain⟨C,F,a⟩:=qe F;refine ql (rL (fun m e w'=>∃y,qb0 list m y=U C/\e=[(0,oS D list.length B),(3,vi y)]/\SH w w' []) n ⟨_,F,rfl,h⟩ Z ?_);rintro A _ _ ⟨y,F,rfl,h⟩;rcases A with _|A
 ·cases F
 refine X0 8 Z (qf Z F ?_ ?_)<;>intro F
 ·refine X0 4 Z (rD (zd2 Z ?_));obtain⟨_,_,F,g,_,_,_,_,l,s,rfl,c⟩:=z.ix F;refine zdxe l s g Z (zdc 0 (c.below h.below) Z ?_);obtain⟨H,x,F⟩:=qe F;refine qa3 H (vsB _) (cB 47 Z) (fun _ I=>qE  x) Z Z Z Z (zd2 Z (qaW (t:=16) F Z ?_ ?_))<;>intro F
  ·refine Y0 15 Z (dN h fun _ h=>qc3 Z Z (X0 4 Z ?_));obtain rfl:=qa F;replace F:=a;exact rb h F Z
  refine Y0 6 Z (qaW (t:=19) F Z ?_ ?_)<;>intro F
  ·refine Y0 7 Z ?_;obtain⟨_,_,F,i,_,_,_,_,o,u,rfl,d⟩:=z.ix F;refine zdxe o u i Z (Y0 1 Z (zdc 0 (d.below h.below) Z (Y0 5 Z ?_)));obtain⟨_,_,F,k,_,_,_,_,p,v,rfl,f⟩:=z.ix F;refine zdxe p v k Z (Y0 1 Z (zdc 0 (f.below h.below) Z (Y0 5 Z (dN h fun _ h=>qf Z F ?_ ?_))))<;>intro F
   ·refine X0 4 Z ?_;obtain rfl:=qa F;replace F:=a;exact rb h F Z
   exact X0 7 Z (rK ⟨_,F,rfl,h⟩ Z)
  exact Y0 13 Z (dN h fun _ h=>qel Z Z (X0 7 Z (rK ⟨_,F,rfl,h⟩ Z)))
 refine qq Z ?_;obtain rfl:=qa F;replace F:=a;refine X0 6 Z (qg (t:=35) F Z ?_ ?_)<;>intro F
 ·exact X0 9 Z (rb h F Z)
 exact X0 6 Z (rb h F Z)
def qcJ(t:qp):Nat->Int->Option (Flow Bool Int)|0,_=>G|n+1,a=>bif decide (a<(t.As.length:Int)) then(idx t.As a).bind fun c=>(qO n c (-1000000) 1000000).bind fun b=>bif (!b) then U (.ret false) else qcJ t n (W64 (a+1)) else U (.nxt a)
def qgf(n:Nat)(t:qp):Option Bool:=((qe1 n t.Bb).bind fun b=>bif (!b) then U true else(qe1 n t.Ba).bind fun c=>bif (!c) then U true else U ((t.As.length:Int) != (W64 ((t.Bb.length:Int)*(t.Ba.length:Int))))).bind fun a=>bif a then U false else(qcJ t n 0).bind fun|.ret r=>U r|.nxt _=>U true
theorem qjO{t:qp}(i:Ro w t cs1){r:Bool}(F:qgf n t=U r):RetV prog 269 [oV qp cs1] w r:=by
 obtain⟨z,u,A,v,B,x,rfl,D,H,I⟩:=qaH i;refine zV 41 func269 Z fun h=>zSR (qr h Z Z fun _ a h=>X0 4 Z ?_);obtain⟨f,d,_,F,b⟩:=bindE F;refine qcX (fun e w'=>∃g,f g=U r/\e=[(1,vp a),(26,.bool g)]/\SH w w' [oX a (qig t z A B u v x) 276]) ?_ ?_
 ·refine X1 3 0 h Z (zcB h F (qhJ ⟨_,_,rfl,(h.oldS D)⟩) Z fun _ _ h F=>zp2 Z (qg (t:=8) F Z ?_ ?_))<;>intro F
  ·refine X0 19 Z ?_;obtain rfl:=qa F;exact rG ⟨_,b,rfl,h⟩ Z
  refine X1 5 0 h Z (zcB h F (qhJ ⟨_,_,rfl,(h.oldS H)⟩) Z fun _ _ h F=>X0 4 Z (qg (t:=14) F Z ?_ ?_))<;>intro F
  ·refine X0 13 Z ?_;obtain rfl:=qa F;exact rG ⟨_,b,rfl,h⟩ Z
  refine X3 24 0 0 0 h Z ?_;obtain rfl:=qa F;exact rG ⟨_,b,rfl,h⟩ Z
 rintro _ _ ⟨g,F,rfl,h⟩;subst d;refine qf Z F ?_ ?_<;>intro F
 ·exact X0 4 Z (rb h F Z)
 refine X0 6 Z ?_;obtain⟨C,F,c⟩:=qe F;refine ql (rL (fun m e w'=>∃s,qcJ t m s=U C/\e=[(1,vp a),(3,vi s)]/\SH w w' [oX a (qig t z A B u v x) 276]) n ⟨_,F,rfl,h⟩ Z ?_);rintro y _ _ ⟨s,F,rfl,h⟩;rcases y with _|y
 ·cases F
 refine X1 9 0 h Z (qf Z F ?_ ?_)<;>intro F
 ·refine X1 8 0 h Z ?_;obtain⟨_,_,F,l,_,_,_,_,o,p,rfl,k⟩:=I.ix F;refine zxe o p l Z (zc 0 (k.below h.below) Z (zcB h F qE Z fun _ _ h F=>X0 2 Z (qf Z F ?_ ?_)))<;>intro F
  ·refine X0 4 Z ?_;obtain rfl:=qa F;replace F:=c;exact rb h F Z
  exact X0 7 Z (rK ⟨_,F,rfl,h⟩ Z)
 refine qq Z ?_;obtain rfl:=qa F;replace F:=c;exact X0 4 Z (rb h F Z)
def qbr(t:qp):Nat->Int->Int->Int->Option (Int×Int×Int)|0,_,_,_=>G|n+1,b,c,a=>bif decide (a<(t.As.length:Int)) then(idx t.As a).bind fun d=>(idx t.As a).bind fun f=>qbr t n (if d<b then d else b) (if f > c then f else c) (W64 (a+1)) else U (b,c,a)
def qem(n:Nat)(t:qp):Option (qf3×Int):=(qgf n t).bind fun c=>bif (!c) then U ((⟨0,0⟩:qf3),1) else(idx t.As 0).bind fun d=>(idx t.As 0).bind fun f=>(qbr t n d f 1).bind fun(a,b,_)=>U ((⟨a,b⟩:qf3),0)
theorem qiv{t:qp}(d:Ro w t cs1){r:(qf3×Int)}(F:qem n t=U r):RetV prog 257 [oV qp cs1] w r:=by
 obtain⟨Q,M,R,N,T,O,rfl,_,_,i⟩:=qaH d;refine zV 45 func257 Z fun h=>zSR (qr h Z Z fun _ a h=>qC qc h Z Z Z fun _ b h=>X1 6 1 h Z (zcB h F (qjO (h.old d)) Z fun _ _ h F=>X0 2 Z (qf Z F ?_ ?_)))<;>intro F
 ·refine zSR (r_v (qe6 qc [] [] Z Z Z Z Z Z Z Z) Z (zs 0 h Z fun _ h=>X0 2 Z ?_));obtain rfl:=qa F;exact qah qc (ρ:=(qf3×Int)) [oV qf3 [vi 0,vi 0],oV Int [vi 1]] h ⟨⟨_,_,_,rfl,rfl,h.box 0 Z,rfl⟩,rfl,E⟩ (PV.done h (qfE h (qao (S:=fun _=>False) (qlM (⟨0,0⟩:qf3))) (qb1 (qao (S:=fun _=>False) Z)) (by rfl)))
 refine zKS (rA [] [1] h Z fun _ h=>M1 3 [0,1] 0 (h.p [1] Z) Z ?_);obtain⟨_,_,F,u,_,_,_,_,z,D,rfl,l⟩:=i.ix F;refine Ae 2 7 z D u (h.p [1] Z) Z (Al 3 15 0 l (h.p [1] Z) Z (M1 63 [4,5] 0 (h.p [1] Z) Z ?_));obtain⟨_,_,F,v,_,_,_,_,A,H,rfl,o⟩:=i.ix F;refine Ae 6 127 A H v (h.p [1] Z) Z (Al 7 255 0 o (h.p [1] Z) Z (Aw 8 511 (fun w' X=>qe6 qc [0,1] [.tmp 13,.tmp 17] Z Z Z Z Z Z Z Z) (h.p [1] Z) Z ?_));refine Ao 9 1023 Z (qC qc h Z Z Z fun _ c h=>Ag (h.p [2] Z) (Ao 10 2047 Z (zs 0 h Z fun _ h=>Ag (h.p [2] Z) (Ad (X0 5 Z ?_)))));obtain⟨P,F,k⟩:=qe F;refine ql (rL (fun m e w'=>∃f g K,qbr t m f g K=U P/\e=[(1,vp a),(2,vp b),(4,vp c),(5,vi K)]/\SH w w' [oX c [vi f,vi g] 321,oX b [vi 0,vi 0] 321,oX a (qig t Q R T M N O) 276]) n ⟨_,_,_,F,rfl,h⟩ Z ?_);rintro L _ _ ⟨f,g,K,F,rfl,h⟩;rcases L with _|L
 ·cases F
 refine X1 9 2 h Z (qf Z F ?_ ?_)<;>intro F
 ·refine X0 4 Z (rA [9] [0,2] h Z fun _ h=>M2 31 [0,1,2,3,4] 0 1 (h.p [0,2] Z) Z ?_);obtain⟨_,_,F,x,_,_,_,_,B,I,rfl,p⟩:=i.ix F;refine Ae 5 63 B I x (h.p [0,2] Z) Z (Al 6 127 0 p (h.p [0,2] Z) Z (M0 511 [7,8] (h.p [0,2] Z) Z (Ao 9 1023 Z (zs 0 h Z fun _ h=>qgA (fun W=>absurd (W 9 (by decide)) (by decide)) (Ad (rA [9] [0,2] h Z fun _ h=>M2 31 [0,1,2,3,4] 0 1 (h.p [0,2] Z) Z ?_))))));obtain⟨_,_,F,y,_,_,_,_,C,J,rfl,s⟩:=i.ix F;exact Ae 5 63 C J y (h.p [0,2] Z) Z (Al 6 127 0 s (h.p [0,2] Z) Z (M0 511 [7,8] (h.p [0,2] Z) Z (Ao 9 1023 Z (zs 0 h Z fun _ h=>qgA (fun W=>absurd (W 9 (by decide)) (by decide)) (Ad (X0 6 Z (rK ⟨_,_,_,F,rfl,h⟩ Z)))))))
 refine qq Z ?_;obtain rfl:=qa F;replace F:=k;refine X1 3 0 h Z (zs 1 h Z fun _ h=>X0 2 Z ?_);obtain rfl:=qa F;exact qah qc (ρ:=(qf3×Int)) [oV qf3 [vi f,vi g],oV Int [vi 0]] h ⟨⟨_,_,_,rfl,rfl,h.box 1 Z,rfl⟩,rfl,E⟩ (PV.done h (qfE h (qao (S:=fun _=>False) (qlM (⟨f,g⟩:qf3))) (qb1 (qao (S:=fun _=>False) Z)) (by rfl)))
def qbp(list:(List qp))(f:Bool):Nat->Int->Option (Flow Bool Int)|0,_=>G|n+1,a=>bif decide (a<2) then(idx list a).bind fun d=>(qem n d).bind fun(b,c)=>bif (c != 0) then U (.ret false) else bif f then bif decide (b.Bp<0) then U (.ret false) else qbp list f n (W64 (a+1)) else qbp list f n (W64 (a+1)) else U (.nxt a)
def qbR(n:Nat)(list:(List qp))(a:Bool):Option Bool:=bif ((list.length:Int) != 2) then U false else(qbp list a n 0).bind fun|.ret r=>U r|.nxt _=>U true
theorem qcO{list:(List qp)}{positive}(c:Ro w list cs1){r:Bool}(F:qbR n list positive=U r):RetV prog 229 [oV (List qp) cs1,.bool positive] w r:=by
 obtain⟨z,x,rfl,C⟩:=c;refine zV 33 func229 Z fun h=>X0 11 Z (qf Z F ?_ ?_)<;>intro F
 ·exact X0 4 Z (rb h F Z)
 refine X0 6 Z ?_;obtain⟨y,F,a⟩:=qe F;refine ql (rL (fun m e w'=>∃u,qbp list positive m u=U y/\e=[(0,oS z list.length x),(1,.bool positive),(5,vi u)]/\SH w w' []) n ⟨_,F,rfl,h⟩ Z ?_);rintro v _ _ ⟨u,F,rfl,h⟩;rcases v with _|v
 ·cases F
 refine X0 6 Z (qf Z F ?_ ?_)<;>intro F
 ·refine X0 7 Z ?_;obtain⟨J,_,F,f,_,_,_,_,g,i,k,d⟩:=C.ix F;obtain⟨_,_,_,_,_,_,rfl,D,H,I⟩:=qaH k;refine zxe g i f Z (zc 0 (d.below h.below) Z ?_);obtain⟨⟨A,B⟩,l,F⟩:=qe F;refine qh9 (A,B) h (cB 257 Z) (qiv (qfl J (h.oldS D) (h.oldS H) (h.oldS I)) l) Z Z Z Z fun _ _ _ s o=>?_;obtain⟨_,_,_,_,rfl,b,p⟩:=s.cons o;obtain rfl:=qnh (b.sh.own 0 Z);obtain⟨rfl,h⟩:=b.lastI p;refine zp3 Z (qC qc h Z Z Z fun _ _ h=>zs 0 h Z fun _ h=>X0 7 Z (qg (t:=25) F Z ?_ ?_))<;>intro F
  ·refine X0 8 Z (qc3 Z Z (X0 4 Z ?_));obtain rfl:=qa F;replace F:=a;exact rb h F Z
  refine X0 4 Z (qg (t:=27) F Z ?_ ?_)<;>intro F
  ·refine X1 10 0 h Z (qf Z F ?_ ?_)<;>intro F
   ·refine X0 4 Z ?_;obtain rfl:=qa F;replace F:=a;exact rb h F Z
   refine X0 7 Z ?_;replace h:=h.p [] Z;exact rK ⟨_,F,rfl,h⟩ Z
  refine X0 7 Z (qel Z Z (X0 7 Z ?_));replace h:=h.p [] Z;exact rK ⟨_,F,rfl,h⟩ Z
 refine qq Z ?_;obtain rfl:=qa F;replace F:=a;exact X0 4 Z (rb h F Z)
def qg2(n:Nat)(b:qn)(a:qH):Option Bool:=((qO n a.Av 0 (W64 ((W64 ((b.Ak.length:Int)-1))-1))).bind fun o=>bif (!o) then U true else(qO n a.To 0 (W64 ((b.Ak.length:Int)-1))).bind fun p=>U (!p)).bind fun d=>bif d then U false else(idx b.Ak a.Av).bind fun c=>bif (a.Ap==1) then bif (!c.Ay) then bif (a.To==(W64 ((b.Ak.length:Int)-1))) then(qO n a.Bg 1 3).bind fun g=>bif g then(qbR n a.Be true).bind fun h=>bif h then(qbR n a.Bk true).bind fun i=>U i else U false else U false else U false else U false else(bif (a.Ap==2) then U (a.Ap==2) else U (a.Ap==3)).bind fun b3=>bif b3 then bif c.Ay then bif (a.To==(W64 ((b.Ak.length:Int)-1))) then bif (a.Bg==0) then(qbR n a.Be true).bind fun k=>bif k then(qbR n a.Bk true).bind fun l=>U l else U false else U false else U false else U false else(bif (a.Ap==4) then U (a.Ap==4) else U (a.Ap==5)).bind fun f=>bif f then bif c.Ay then bif decide (a.To<(W64 ((b.Ak.length:Int)-1))) then(idx b.Ak a.To).bind fun r=>bif (!r.Ay) then bif (a.Bg==0) then(qbR n a.Be false).bind fun m=>bif m then U ((a.Bk.length:Int)==0) else U false else U false else U false else U false else U false else U false
theorem qkC{a:qn}{b:qH}(x:Ro w a cs1)(y:Ro w b cs2){r:Bool}(F:qg2 n a b=U r):RetV prog 198 [oV qn cs1,oV qH cs2] w r:=by
 obtain⟨R,M,S,N,T,O,rfl,s1,_,_⟩:=qF x;obtain⟨W,P,X,Q,rfl,s4,s5⟩:=qV y;refine zV 119 func198 Z fun h=>zSR (qr h Z Z fun _ c h=>qr h Z Z fun _ d h=>X1 12 1 h Z ?_);obtain⟨s,m,_,F,i⟩:=bindE F;refine qcX (fun e w'=>∃u,s u=U r/\e=[(2,vp c),(3,vp d),(5,vi (W64 ((a.Ak.length:Int)-1))),(23,.bool u)]/\SH w w' [oX d (qhD b W X P Q) 183,oX c (qcb a R S T M N O) 169]) ?_ ?_
 ·refine X1 5 0 h Z (zcB h F qE Z fun _ _ h F=>zp2 Z (qg (t:=17) F Z ?_ ?_))<;>intro F
  ·refine X0 7 Z ?_;obtain rfl:=qa F;exact rG ⟨_,i,rfl,h⟩ Z
  refine X1 7 0 h Z (zcB h F qE Z fun _ _ h F=>X0 4 Z ?_);obtain rfl:=qa F;exact rG ⟨_,i,rfl,h⟩ Z
 rintro _ _ ⟨u,F,rfl,h⟩;subst m;refine qf Z F ?_ ?_<;>intro F
 ·exact X0 4 Z (rb h F Z)
 refine X2 7 1 0 h Z ?_;obtain⟨y1,_,F,B,_,_,_,_,D,I,K,z⟩:=s1.ix F;obtain rfl:=qav K;refine zxe D I B Z (zp1 Z (zc 3 (z.below h.below) Z (X1 14 0 h Z (qf Z F ?_ ?_))))<;>intro F
 ·refine X0 5 Z (qg (t:=37) F Z ?_ ?_)<;>intro F
  ·refine X1 10 0 h Z (qg (t:=43) F Z ?_ ?_)<;>intro F
   ·refine X1 5 0 h Z (zcB h F qE Z fun _ _ h F=>zp2 Z (qg (t:=48) F Z ?_ ?_))<;>intro F
    ·refine X1 5 0 h Z (zcB h F (qcO ⟨_,_,rfl,(h.oldS s4)⟩) Z fun _ _ h F=>zp2 Z (qg (t:=53) F Z ?_ ?_))<;>intro F
     ·exact X1 5 0 h Z (zcB h F (qcO ⟨_,_,rfl,(h.oldS s5)⟩) Z fun _ _ h F=>X0 3 Z (rb h F Z))
     exact X0 6 Z (rb h F Z)
    exact X0 11 Z (rb h F Z)
   exact X0 16 Z (rb h F Z)
  exact X0 22 Z (rb h F Z)
 refine X0 6 Z ?_;obtain⟨p,l,_,F,g⟩:=bindE F;refine qcX (fun e w'=>∃b3,p b3=U r/\e=[(2,vp c),(3,vp d),(5,vi (W64 ((a.Ak.length:Int)-1))),(6,.bool y1.Ay),(32,vi b.Ap),(58,.bool b3)]/\SH w w' [oX d (qhD b W X P Q) 183,oX c (qcb a R S T M N O) 169]) ?_ ?_
 ·refine qf Z F ?_ ?_<;>intro F
  ·refine qe3 ?_;obtain rfl:=qa F;exact rG ⟨_,g,rfl,h⟩ Z
  refine X0 4 Z ?_;obtain rfl:=qa F;exact rG ⟨_,g,rfl,h⟩ Z
 rintro _ _ ⟨b3,F,rfl,h⟩;subst l;refine qf Z F ?_ ?_<;>intro F
 ·refine X0 4 Z (qg (t:=62) F Z ?_ ?_)<;>intro F
  ·refine X1 10 0 h Z (qg (t:=68) F Z ?_ ?_)<;>intro F
   ·refine X1 8 0 h Z (qg (t:=73) F Z ?_ ?_)<;>intro F
    ·refine X1 5 0 h Z (zcB h F (qcO ⟨_,_,rfl,(h.oldS s4)⟩) Z fun _ _ h F=>zp2 Z (qg (t:=78) F Z ?_ ?_))<;>intro F
     ·exact X1 5 0 h Z (zcB h F (qcO ⟨_,_,rfl,(h.oldS s5)⟩) Z fun _ _ h F=>X0 3 Z (rb h F Z))
     exact X0 6 Z (rb h F Z)
    exact X0 11 Z (rb h F Z)
   exact X0 16 Z (rb h F Z)
  exact X0 22 Z (rb h F Z)
 refine X0 6 Z ?_;obtain⟨o,k,_,F,f⟩:=bindE F;refine qcX (fun e w'=>∃v,o v=U r/\e=[(2,vp c),(3,vp d),(5,vi (W64 ((a.Ak.length:Int)-1))),(6,.bool y1.Ay),(83,.bool v)]/\SH w w' [oX d (qhD b W X P Q) 183,oX c (qcb a R S T M N O) 169]) ?_ ?_
 ·refine qf Z F ?_ ?_<;>intro F
  ·refine qe3 ?_;obtain rfl:=qa F;exact rG ⟨_,f,rfl,h⟩ Z
  refine X0 4 Z ?_;obtain rfl:=qa F;exact rG ⟨_,f,rfl,h⟩ Z
 rintro _ _ ⟨v,F,rfl,h⟩;subst k;refine qf Z F ?_ ?_<;>intro F
 ·refine X0 4 Z (qg (t:=87) F Z ?_ ?_)<;>intro F
  ·refine X1 10 0 h Z (qg (t:=93) F Z ?_ ?_)<;>intro F
   ·refine X2 9 1 0 h Z ?_;obtain⟨_,_,F,C,_,_,_,_,H,J,L,A⟩:=s1.ix F;obtain rfl:=qav L;refine zxe H J C Z (X0 3 Z (zc 3 (A.below h.below) Z (X0 4 Z (qg (t:=103) F Z ?_ ?_))))<;>intro F
    ·refine X1 8 0 h Z (qg (t:=108) F Z ?_ ?_)<;>intro F
     ·refine X1 5 0 h Z (zcB h F (qcO ⟨_,_,rfl,(h.oldS s4)⟩) Z fun _ _ h F=>zp2 Z (qg (t:=113) F Z ?_ ?_))<;>intro F
      ·exact X1 11 0 h Z (rb h F Z)
      exact X0 7 Z (rb h F Z)
     exact X0 12 Z (rb h F Z)
    exact X0 17 Z (rb h F Z)
   exact X0 27 Z (rb h F Z)
  exact X0 33 Z (rb h F Z)
 exact X0 6 Z (rb h F Z)
def qbF(c:qn):Nat->(List Int)->Int->Option ((List Int)×Int)|0,_,_=>G|n+1,b,a=>bif decide (a<(c.Ar.length:Int)) then(idx c.Ar a).bind fun d=>(idx b d.Ap).bind fun f=>(idx b d.Ap).bind fun _=>qbF c n (setS b d.Ap (W64 (f+1))) (W64 (a+1)) else U (b,a)
def qfC(n:Nat)(c:qn):Option (List Int):=(mkS 6 (0:Int)).bind fun a=>(qbF c n a 0).bind fun(b,_)=>U b
theorem qjt{c:qn}(o:Ro w c cs1){r:(List Int)}(F:qfC n c=U r):RetV prog 199 [oV qn cs1] w r:=by
 obtain⟨P,L,Q,M,R,N,rfl,_,S,_⟩:=qF o;refine zV 25 func199 Z fun h=>zSR (qr h Z Z fun _ b h=>X0 4 Z ?_);obtain⟨k,a,F⟩:=qe F;obtain⟨J,K,a⟩:=qb5 a;refine qc2 qc Int h Z Z Z Z Z Z Z Z Z J K a Z fun _ S1 I h=>X0 7 Z ?_;obtain⟨O,F,l⟩:=qe F;refine ql (rL (fun m e w'=>∃D C,qbF c m D C=U O/\e=[(1,vp b),(3,oS I k.length k.length),(4,vi C)]/\SH w w' [oW S1 (D:List Int) [oS I k.length k.length],oX b (qcb c P Q R L M N) 169]) n ⟨_,_,F,rfl,h⟩ Z ?_);rintro H _ _ ⟨D,C,F,rfl,h⟩;rcases H with _|H
 ·cases F
 refine X1 9 1 h Z (qf Z F ?_ ?_)<;>intro F
 ·refine X1 8 1 h Z ?_;obtain⟨_,_,F,u,_,_,_,_,v,y,A,p⟩:=S.ix F;obtain⟨_,_,_,_,rfl,_,_⟩:=qV A;refine zxe v y u Z (zp1 Z (zc 0 (p.below h.below) Z ?_));obtain⟨T,_,F,d,_,_,_,_,x,z,rfl,s⟩:=(h.sl 0 Z).1.ix F;refine zx x z ⟨d.1,qap d.2.1 (h.sl 0 Z).2⟩ Z (zc 0 s Z (zp1 Z ?_));obtain⟨_,B,F,f,_,_,_,_,g,i,rfl,t⟩:=(h.sl 0 Z).1.ix F;exact zx g i ⟨f.1,qap f.2.1 (h.sl 0 Z).2⟩ Z (qdT qc 0 0 (W64 (T+1)) h Z B g i Z t Z Z Z Z Z Z Z fun _ h=>X0 7 Z (rK ⟨_,_,F,rfl,h⟩ Z))
 refine qq Z ?_;obtain rfl:=qa F;replace F:=l;refine X0 5 Z ?_;obtain rfl:=qa F;exact rO 0 h Z ⟨rfl,E⟩
def qbO(a:qn)(d:Int)(c:qH):Nat->Int->Option (Flow Bool Int)|0,_=>G|n+1,b=>bif decide (b<d) then(idx a.Ar b).bind fun f=>bif (f.Ap==c.Ap) then(idx a.Ar b).bind fun g=>bif (g.Av==c.Av) then(idx a.Ar b).bind fun h=>bif (h.To==c.To) then U (.ret false) else qbO a d c n (W64 (b+1)) else qbO a d c n (W64 (b+1)) else qbO a d c n (W64 (b+1)) else U (.nxt b)
def qde(a:qn):Nat->Int->Option (Flow Bool Int)|0,_=>G|n+1,b=>bif decide (b<(a.Az.length:Int)) then(idx a.Az b).bind fun d=>(qO n d 0 1).bind fun c=>bif (!c) then U (.ret false) else qde a n (W64 (b+1)) else U (.nxt b)
def qc9(a:qn):Nat->Int->Option (Flow Bool Int)|0,_=>G|n+1,b=>bif decide (b<(a.Ar.length:Int)) then(idx a.Ar b).bind fun c=>(qg2 n a c).bind fun d=>bif (!d) then U (.ret false) else(qbO a b c n 0).bind fun|.ret r=>U (.ret r)|.nxt _=>qc9 a n (W64 (b+1)) else U (.nxt b)
def qg6(n:Nat)(a:qn):Option Bool:=(qgi n a).bind fun(c,i)=>(bif (!i) then U true else(qet n a.Am).bind fun k=>bif (!k) then U true else bif decide ((a.Ar.length:Int) > 8) then U true else(qO n a.Bo 0 100000).bind fun l=>bif (!l) then U true else(qO n a.Bh 0 100000).bind fun m=>U (!m)).bind fun h=>bif h then U false else(qc9 a n 0).bind fun|.ret r=>U r|.nxt _=>(qfC n a).bind fun b=>bif (a.Ap==1) then(qde a n 0).bind fun|.ret r=>U r|.nxt _=>bif (c==0) then(shlS 1 (IntKind.wrap .u64 (W64 ((a.Ak.length:Int)-1)))).bind fun p=>U ((a.Az.length:Int)==p) else U false else bif (a.Ap==2) then bif (c==1) then(idx b 1).bind fun s=>bif (s==0) then(idx b 2).bind fun t=>(idx b 3).bind fun u=>bif (!((decide (t > 0))==(decide (u > 0)))) then U ((a.Az.length:Int)==0) else U false else U false else U false else bif (a.Ap==3) then bif (c==1) then(idx b 1).bind fun d=>bif decide (d > 0) then(idx b 2).bind fun f=>bif decide (f > 0) then(idx b 3).bind fun g=>bif (g==0) then U ((a.Az.length:Int)==0) else U false else U false else U false else U false else U false
theorem qkq{a:qn}(d:Ro w a cs1){r:Bool}(F:qg6 n a=U r):RetV prog 164 [oV qn cs1] w r:=by
 obtain⟨S,P,T,Q,W,R,rfl,_,X,s3⟩:=qF d;refine zV 182 func164 Z fun h=>zSR (qr h Z Z fun _ b h=>X1 5 0 h Z ?_);obtain⟨⟨O,r3⟩,hr1,F⟩:=qe F;refine qh9 (O,r3) h (cB 197 Z) (qj2 (h.old d) hr1) Z Z Z Z fun _ _ _ hv1 hr2=>?_;obtain⟨_,_,rfl,hv2,hr3⟩:=hv1.consI hr2;obtain⟨rfl,h⟩:=hv2.lastB hr3;refine X0 8 Z ?_;obtain⟨a0,s,_,F,c⟩:=bindE F;refine qcX (fun e w'=>∃b1,a0 b1=U r/\e=[(1,vp b),(3,vi O),(40,.bool b1)]/\SH w w' [oX b (qcb a S T W P Q R) 169]) ?_ ?_
 ·refine X0 4 Z (qg (t:=17) F Z ?_ ?_)<;>intro F
  ·refine X0 24 Z ?_;obtain rfl:=qa F;exact rG ⟨_,c,rfl,h⟩ Z
  refine X1 5 0 h Z (zcB h F qfZ Z fun _ _ h F=>X0 4 Z (qg (t:=23) F Z ?_ ?_))<;>intro F
  ·refine X0 18 Z ?_;obtain rfl:=qa F;exact rG ⟨_,c,rfl,h⟩ Z
  refine X1 10 0 h Z (qg (t:=29) F Z ?_ ?_)<;>intro F
  ·refine X0 12 Z ?_;obtain rfl:=qa F;exact rG ⟨_,c,rfl,h⟩ Z
  refine X1 5 0 h Z (zcB h F qE Z fun _ _ h F=>X0 4 Z (qg (t:=35) F Z ?_ ?_))<;>intro F
  ·refine X0 6 Z ?_;obtain rfl:=qa F;exact rG ⟨_,c,rfl,h⟩ Z
  refine X1 5 0 h Z (zcB h F qE Z fun _ _ h F=>X0 4 Z ?_);obtain rfl:=qa F;exact rG ⟨_,c,rfl,h⟩ Z
 rintro _ _ ⟨b1,F,rfl,h⟩;subst s;refine qf Z F ?_ ?_<;>intro F
 ·exact X0 4 Z (rb h F Z)
 refine X0 6 Z ?_;obtain⟨o1,F,i⟩:=qe F;refine ql (rL (fun m e w'=>∃N,qc9 a m N=U o1/\e=[(1,vp b),(3,vi O),(5,vi N)]/\SH w w' [oX b (qcb a S T W P Q R) 169]) n ⟨_,F,rfl,h⟩ Z ?_);rintro m1 _ _ ⟨N,F,rfl,h⟩;rcases m1 with _|m1
 ·cases F
 refine X1 9 0 h Z (qf Z F ?_ ?_)<;>intro F
 ·refine X1 8 0 h Z ?_;obtain⟨y1,_,F,he1,_,_,_,_,hp1,hq1,hr5,hc3⟩:=X.ix F;obtain⟨p4,k4,p5,k5,rfl,s4,s5⟩:=qV hr5;refine zxe hp1 hq1 he1 Z (zc 0 (hc3.below h.below) Z (qC qc h Z Z Z fun _ l h=>zs 0 h Z fun _ h=>X2 6 1 0 h Z (zcB h F (qkC (h.old d) (qeF y1 (h.oldS s4) (h.oldS s5))) Z fun _ _ h F=>X0 2 Z (qf Z F ?_ ?_))))<;>intro F
  ·refine X0 4 Z ?_;obtain rfl:=qa F;replace F:=i;exact rb h F Z
  refine X0 5 Z ?_;obtain⟨o2,F,o⟩:=qe F;refine ql (rL (fun m e w'=>∃i2,qbO a N y1 m i2=U o2/\e=[(1,vp b),(3,vi O),(5,vi N),(6,vp l),(7,vi i2)]/\SH w w' [oX l (qhD y1 p4 p5 k4 k5) 183,oX b (qcb a S T W P Q R) 169]) m1 ⟨_,F,rfl,h⟩ Z ?_);rintro m2 _ _ ⟨i2,F,rfl,h⟩;rcases m2 with _|m2
  ·cases F
  refine X0 7 Z (qf Z F ?_ ?_)<;>intro F
  ·refine X0 4 Z (rD (Y1 2 1 h Z ?_));refine zd1 Z ?_;obtain⟨_,_,F,he2,_,_,_,_,hp2,hq2,hr7,hc6⟩:=X.ix F;obtain⟨_,_,_,_,rfl,_,_⟩:=qV hr7;refine zdxe hp2 hq2 he2 Z (zd1 Z (zdc 0 (hc6.below h.below) Z (Y1 2 0 h Z ?_)));refine zd2 Z (qaW (t:=71) F Z ?_ ?_)<;>intro F
   ·refine Y1 4 1 h Z ?_;refine Y0 3 Z ?_;obtain⟨_,_,F,he3,_,_,_,_,hp3,hq3,hr8,hc7⟩:=X.ix F;obtain⟨_,_,_,_,rfl,_,_⟩:=qV hr8;refine zdxe hp3 hq3 he3 Z (Y0 3 Z (zdc 1 (hc7.below h.below) Z (Y1 4 0 h Z ?_)));refine Y0 4 Z (qaW (t:=82) F Z ?_ ?_)<;>intro F
    ·refine Y1 4 1 h Z ?_;refine Y0 3 Z ?_;obtain⟨_,_,F,he4,_,_,_,_,hp4,hq4,hr9,hc8⟩:=X.ix F;obtain⟨_,_,_,_,rfl,_,_⟩:=qV hr9;refine zdxe hp4 hq4 he4 Z (Y0 3 Z (zdc 2 (hc8.below h.below) Z (Y1 4 0 h Z ?_)));refine Y0 3 Z (dN h fun _ h=>qf Z F ?_ ?_)<;>intro F
     ·refine X0 4 Z ?_;obtain rfl:=qa F;replace F:=o;obtain rfl:=qa F;replace F:=i;exact rb h F Z
     exact X0 7 Z (rK ⟨_,F,rfl,h⟩ Z)
    exact Y0 10 Z (dN h fun _ h=>qel Z Z (X0 7 Z (rK ⟨_,F,rfl,h⟩ Z)))
   exact Y0 21 Z (dN h fun _ h=>qel Z Z (X0 7 Z (rK ⟨_,F,rfl,h⟩ Z)))
  refine qq Z ?_;obtain rfl:=qa F;replace F:=o;refine X0 6 Z ?_;replace h:=h.p [1] Z;exact rK ⟨_,F,rfl,h⟩ Z
 refine qq Z ?_;obtain rfl:=qa F;replace F:=i;refine X1 3 0 h Z (zcL h F (qjt (h.old d)) Z fun _ _ _ _ _ h F=>X1 14 1 h Z (qf Z F ?_ ?_))<;>intro F
 ·refine X0 5 Z ?_;obtain⟨o3,F,p⟩:=qe F;refine ql ?_;replace h:=h.p [1] Z;refine rL (fun m e w'=>∃i3,qde a m i3=U o3/\e=[(1,vp b),(3,vi O),(9,vi i3)]/\SH w w' [oX b (qcb a S T W P Q R) 169]) n ⟨_,F,rfl,h⟩ Z ?_;rintro m3 _ _ ⟨i3,F,rfl,h⟩;rcases m3 with _|m3
  ·cases F
  refine X1 9 0 h Z (qf Z F ?_ ?_)<;>intro F
  ·refine X1 8 0 h Z ?_;obtain⟨_,_,F,he5,_,_,_,_,hp5,hq5,rfl,u⟩:=s3.ix F;refine zxe hp5 hq5 he5 Z (zc 0 (u.below h.below) Z (zcB h F qE Z fun _ _ h F=>X0 2 Z (qf Z F ?_ ?_)))<;>intro F
   ·refine X0 4 Z ?_;obtain rfl:=qa F;replace F:=p;exact rb h F Z
   exact X0 7 Z (rK ⟨_,F,rfl,h⟩ Z)
  refine qq Z ?_;obtain rfl:=qa F;replace F:=p;refine X0 5 Z (qg (t:=115) F Z ?_ ?_)<;>intro F
  ·refine X2 17 0 0 h Z ?_;obtain⟨_,k,F⟩:=qe F;obtain⟨g1,k⟩:=qlI k;refine r_v (qpX g1 Z Z) Z ?_;rw[k];exact X0 5 Z (rb h F Z)
  exact X0 13 Z (rb h F Z)
 refine X0 5 Z (qf Z F ?_ ?_)<;>intro F
 ·refine qeu (rD (zd3 Z (qaW (t:=131) F Z ?_ ?_)))<;>intro F
  ·refine Y0 3 Z ?_;obtain⟨_,_,F,C,_,_,_,_,hp6,hq6,rfl,v⟩:=(h.sl 0 Z).1.ix F;refine zdx hp6 hq6 ⟨C.1,qap C.2.1 (h.sl 0 Z).2⟩ Z (Y0 1 Z (zdc 0 v Z (Y0 4 Z (qaW (t:=137) F Z ?_ ?_))))<;>intro F
   ·refine Y0 3 Z ?_;obtain⟨_,_,F,D,_,_,_,_,hp7,hq7,rfl,x⟩:=(h.sl 0 Z).1.ix F;refine zdx hp7 hq7 ⟨D.1,qap D.2.1 (h.sl 0 Z).2⟩ Z (Y0 1 Z (zdc 0 x Z (Y0 5 Z ?_)));obtain⟨_,_,F,H,_,_,_,_,hp8,hq8,rfl,y⟩:=(h.sl 0 Z).1.ix F;refine zdx hp8 hq8 ⟨H.1,qap H.2.1 (h.sl 0 Z).2⟩ Z (Y0 1 Z (zdc 0 y Z (Y0 6 Z (qaW (t:=148) F Z ?_ ?_))))<;>intro F
    ·refine Y1 4 1 h Z ?_;exact Y0 6 Z (dN h fun _ h=>rb h F Z)
    exact Y0 6 Z (dN h fun _ h=>rb h F Z)
   exact Y0 17 Z (dN h fun _ h=>rb h F Z)
  exact Y0 23 Z (dN h fun _ h=>rb h F Z)
 refine X0 5 Z (qf Z F ?_ ?_)<;>intro F
 ·refine X0 5 Z (qg (t:=158) F Z ?_ ?_)<;>intro F
  ·refine X0 3 Z ?_;obtain⟨_,_,F,I,_,_,_,_,hp9,hq9,rfl,z⟩:=(h.sl 0 Z).1.ix F;refine zx hp9 hq9 ⟨I.1,qap I.2.1 (h.sl 0 Z).2⟩ Z (X0 1 Z (zc 0 z Z (X0 4 Z (qg (t:=164) F Z ?_ ?_))))<;>intro F
   ·refine X0 3 Z ?_;obtain⟨_,_,F,f,_,_,_,_,J,L,rfl,A⟩:=(h.sl 0 Z).1.ix F;refine zx J L ⟨f.1,qap f.2.1 (h.sl 0 Z).2⟩ Z (X0 1 Z (zc 0 A Z (X0 4 Z (qg (t:=170) F Z ?_ ?_))))<;>intro F
    ·refine X0 3 Z ?_;obtain⟨_,_,F,g,_,_,_,_,K,M,rfl,B⟩:=(h.sl 0 Z).1.ix F;refine zx K M ⟨g.1,qap g.2.1 (h.sl 0 Z).2⟩ Z (X0 1 Z (zc 0 B Z (X0 4 Z (qg (t:=176) F Z ?_ ?_))))<;>intro F
     ·exact X1 11 1 h Z (rb h F Z)
     exact X0 7 Z (rb h F Z)
    exact X0 13 Z (rb h F Z)
   exact X0 19 Z (rb h F Z)
  exact X0 25 Z (rb h F Z)
 exact X0 6 Z (rb h F Z)
def qbT(l:qh)(b:Int):Nat->Int->Option (Flow Bool Int)|0,_=>G|n+1,a=>bif decide (a<b) then(idx l.Aj a).bind fun c=>(idx l.Aj b).bind fun d=>bif (c.Am.toList==d.Am.toList) then U (.ret false) else qbT l b n (W64 (a+1)) else U (.nxt a)
def qbW(l:qh):Nat->Int->Option (Flow Bool Int)|0,_=>G|n+1,a=>bif decide (a<(l.Aj.length:Int)) then(idx l.Aj a).bind fun c=>(qg6 n c).bind fun b=>bif (!b) then U (.ret false) else(qbT l a n 0).bind fun|.ret r=>U (.ret r)|.nxt _=>qbW l n (W64 (a+1)) else U (.nxt a)
def qe8(n:Nat)(l:qh):Option Bool:=(qbW l n 0).bind fun|.ret r=>U r|.nxt _=>U (decide ((l.Aj.length:Int)<=8))
theorem qi9{l:qh}(f:Ro w l cs1){r:Bool}(F:qe8 n l=U r):RetV prog 133 [oV qh cs1] w r:=by
 obtain⟨L,J,rfl,I⟩:=qZ f;refine zV 41 func133 Z fun h=>zSR (qr h Z Z fun _ a h=>X0 7 Z ?_);obtain⟨M,F,b⟩:=qe F;refine ql (rL (fun m e w'=>∃d,qbW l m d=U M/\e=[(1,vp a),(3,vi d)]/\SH w w' [oX a [oS L l.Aj.length J] 41]) n ⟨_,F,rfl,h⟩ Z ?_);rintro H _ _ ⟨d,F,rfl,h⟩;rcases H with _|H
 ·cases F
 refine X1 9 0 h Z (qf Z F ?_ ?_)<;>intro F
 ·refine X1 9 0 h Z ?_;obtain⟨R,_,F,o,_,_,_,_,t,x,A,g⟩:=I.ix F;obtain⟨_,_,_,_,_,_,rfl,O,P,Q⟩:=qF A;refine zxe t x o Z (zc 0 (g.below h.below) Z (zcB h F (qkq (qgr R (h.oldS O) (h.oldS P) (h.oldS Q))) Z fun _ _ h F=>X0 2 Z (qf Z F ?_ ?_)))<;>intro F
  ·refine X0 4 Z ?_;obtain rfl:=qa F;replace F:=b;exact rb h F Z
  refine X0 5 Z ?_;obtain⟨N,F,c⟩:=qe F;refine ql (rL (fun m e w'=>∃D,qbT l d m D=U N/\e=[(1,vp a),(3,vi d),(4,vi D)]/\SH w w' [oX a [oS L l.Aj.length J] 41]) H ⟨_,F,rfl,h⟩ Z ?_);rintro K _ _ ⟨D,F,rfl,h⟩;rcases K with _|K
  ·cases F
  refine X0 7 Z (qf Z F ?_ ?_)<;>intro F
  ·refine X0 4 Z (rD (Y1 2 0 h Z ?_));refine zd1 Z ?_;obtain⟨_,_,F,p,_,_,_,_,u,y,B,i⟩:=I.ix F;obtain⟨_,_,_,_,_,_,rfl,_,_,_⟩:=qF B;refine zdxe u y p Z (zd1 Z (zdc 0 (i.below h.below) Z (Y1 2 0 h Z ?_)));refine zd1 Z ?_;obtain⟨_,_,F,s,_,_,_,_,v,z,C,k⟩:=I.ix F;obtain⟨_,_,_,_,_,_,rfl,_,_,_⟩:=qF C;refine zdxe v z s Z (zd1 Z (zdc 0 (k.below h.below) Z (zd1 Z (dN h fun _ h=>qf Z F ?_ ?_))))<;>intro F
   ·refine X0 4 Z ?_;obtain rfl:=qa F;replace F:=c;obtain rfl:=qa F;replace F:=b;exact rb h F Z
   exact X0 7 Z (rK ⟨_,F,rfl,h⟩ Z)
  refine qq Z ?_;obtain rfl:=qa F;replace F:=c;exact X0 6 Z (rK ⟨_,F,rfl,h⟩ Z)
 refine qq Z ?_;obtain rfl:=qa F;replace F:=b;exact X1 8 0 h Z (rb h F Z)

def qcf(a:qb)(c:qd):Nat->Int->Option (Flow Bool Int)|0,_=>G|n+1,b=>bif decide (b<(c.Af.length:Int)) then(idx c.Af b).bind fun f=>(qO n f 0 (W64 ((a.Af.length:Int)-1))).bind fun d=>bif (!d) then U (.ret false) else qcf a c n (W64 (b+1)) else U (.nxt b)
def qcq(a:qb):Nat->Int->Option (Flow Bool Int)|0,_=>G|n+1,b=>bif decide (b<(a.Ac.length:Int)) then(idx a.Ac b).bind fun f=>(qO n f.Bl 1 2).bind fun c=>bif (!c) then U (.ret false) else(idx a.Ac b).bind fun g=>(qO n g.Bm 0 (W64 ((a.Af.length:Int)-1))).bind fun d=>bif (!d) then U (.ret false) else qcq a n (W64 (b+1)) else U (.nxt b)
def qcp(b:qh)(a:qb):Nat->Int->Option (Flow Bool Int)|0,_=>G|n+1,c=>bif decide (c<(a.Aa.length:Int)) then(idx a.Aa c).bind fun d=>((qO n d.Bf 0 (W64 ((b.Aj.length:Int)-1))).bind fun g=>bif (!g) then U true else(idx b.Aj d.Bf).bind fun h=>U ((d.Af.length:Int) != (h.Ak.length:Int))).bind fun f=>bif f then U (.ret false) else(qcf a d n 0).bind fun|.ret r=>U (.ret r)|.nxt _=>qcp b a n (W64 (c+1)) else U (.nxt c)
def qfA(n:Nat)(b:qh)(a:qb):Option Bool:=(qcp b a n 0).bind fun|.ret r=>U r|.nxt _=>(qcq a n 0).bind fun|.ret r=>U r|.nxt _=>U true
theorem qjk{c:qh}{a:qb}(D:Ro w c cs1)(H:Ro w a cs2){r:Bool}(F:qfA n c a=U r):RetV prog 134 [oV qh cs1,oV qb cs2] w r:=by
 obtain⟨p1,k1,rfl,s1⟩:=qZ D;obtain⟨y,u,z,v,A,x,rfl,s2,_,s4⟩:=qJ H;refine zV 90 func134 Z fun h=>zSR (qr h Z Z fun _ d h=>qr h Z Z fun _ b h=>X1 14 0 h Z ?_);obtain⟨o1,F,g⟩:=qe F;refine ql (rL (fun m e w'=>∃s,qcp c a m s=U o1/\e=[(2,vp d),(3,vp b),(5,vi (a.Af.length:Int)),(6,vi s)]/\SH w w' [oX b (qay a y z A u v x) 45,oX d [oS p1 c.Aj.length k1] 41]) n ⟨_,F,rfl,h⟩ Z ?_);rintro m1 _ _ ⟨s,F,rfl,h⟩;rcases m1 with _|m1
 ·cases F
 refine X1 9 0 h Z (qf Z F ?_ ?_)<;>intro F
 ·refine X1 8 0 h Z ?_;obtain⟨y1,_,F,M,_,_,_,_,R,a0,a5,I⟩:=s2.ix F;obtain⟨p5,k5,rfl,s5⟩:=qA a5;refine zxe R a0 M Z (zc 0 (I.below h.below) Z (qC qc h Z Z Z fun _ f h=>zs 0 h Z fun _ h=>zNSS ?_));obtain⟨B,o,_,F,l⟩:=bindE F;refine qcX (fun e w'=>∃C,B C=U o1/\e=[(2,vp d),(3,vp b),(5,vi (a.Af.length:Int)),(6,vi s),(7,vp f),(46,.bool C)]/\SH w w' [oX f (qfO y1 p5 k5) 121,oX b (qay a y z A u v x) 45,oX d [oS p1 c.Aj.length k1] 41]) ?_ ?_
  ·refine rD (Y1 2 0 h Z ?_);refine Y1 2 2 h Z ?_;refine zd2 Z ?_;obtain⟨r2,a6,F⟩:=qe F;refine qa3 r2 (vsB _) (cB 47 Z) (fun _ hb=>qE  a6) Z Z Z Z (zd2 Z (qaW (t:=33) F Z ?_ ?_))<;>intro F
   ·refine Y0 13 Z (dN h fun _ h=>?_);obtain rfl:=qa F;exact rG ⟨_,l,rfl,h⟩ Z
   refine Y1 4 0 h Z ?_;refine Y1 6 2 h Z ?_;refine Y1 4 0 h Z ?_;refine Y0 1 Z ?_;obtain⟨_,_,F,O,_,_,_,_,T,a2,a7,K⟩:=s1.ix F;obtain⟨_,_,_,_,_,_,rfl,_,_,_⟩:=qF a7;refine zdxe T a2 O Z (Y0 3 Z (zdc 2 (K.below h.below) Z (Y0 5 Z (dN h fun _ h=>?_))));obtain rfl:=qa F;exact rG ⟨_,l,rfl,h⟩ Z
  rintro _ _ ⟨C,F,rfl,h⟩;subst o;refine qf Z F ?_ ?_<;>intro F
  ·refine X0 4 Z ?_;obtain rfl:=qa F;replace F:=g;exact rb h F Z
  refine X0 5 Z ?_;obtain⟨o2,F,k⟩:=qe F;refine ql (rL (fun m e w'=>∃i2,qcf a y1 m i2=U o2/\e=[(2,vp d),(3,vp b),(5,vi (a.Af.length:Int)),(6,vi s),(7,vp f),(8,vi i2)]/\SH w w' [oX f (qfO y1 p5 k5) 121,oX b (qay a y z A u v x) 45,oX d [oS p1 c.Aj.length k1] 41]) m1 ⟨_,F,rfl,h⟩ Z ?_);rintro m2 _ _ ⟨i2,F,rfl,h⟩;rcases m2 with _|m2
  ·cases F
  refine X1 9 0 h Z (qf Z F ?_ ?_)<;>intro F
  ·refine X1 8 0 h Z ?_;obtain⟨_,_,F,N,_,_,_,_,S,a1,rfl,J⟩:=s5.ix F;refine zxe S a1 N Z (zc 0 (J.below h.below) Z (zp2 Z (zcB h F qE Z fun _ _ h F=>X0 2 Z (qf Z F ?_ ?_))))<;>intro F
   ·refine X0 4 Z ?_;obtain rfl:=qa F;replace F:=k;obtain rfl:=qa F;replace F:=g;exact rb h F Z
   exact X0 7 Z (rK ⟨_,F,rfl,h⟩ Z)
  refine qq Z ?_;obtain rfl:=qa F;replace F:=k;refine X0 6 Z ?_;replace h:=h.p [1,2] Z;exact rK ⟨_,F,rfl,h⟩ Z
 refine qq Z ?_;obtain rfl:=qa F;replace F:=g;refine X0 5 Z ?_;obtain⟨o4,F,i⟩:=qe F;refine ql ?_;replace h:=h.p [0] Z;refine rL (fun m e w'=>∃i3,qcq a m i3=U o4/\e=[(3,vp b),(5,vi (a.Af.length:Int)),(9,vi i3)]/\SH w w' [oX b (qay a y z A u v x) 45]) n ⟨_,F,rfl,h⟩ Z ?_;rintro m3 _ _ ⟨i3,F,rfl,h⟩;rcases m3 with _|m3
 ·cases F
 refine X1 9 0 h Z (qf Z F ?_ ?_)<;>intro F
 ·refine X1 8 0 h Z ?_;obtain⟨_,_,F,P,_,_,_,_,W,a3,a8,L⟩:=s4.ix F;obtain rfl:=qab a8;refine zxe W a3 P Z (zp1 Z (zc 1 (L.below h.below) Z (zcB h F qE Z fun _ _ h F=>zp2 Z (qg (t:=78) F Z ?_ ?_))))<;>intro F
  ·refine X0 12 Z (qc3 Z Z (X0 4 Z ?_));obtain rfl:=qa F;replace F:=i;exact rb h F Z
  refine X1 7 0 h Z ?_;obtain⟨_,_,F,Q,_,_,_,_,X,a4,a9,p⟩:=s4.ix F;obtain rfl:=qab a9;refine zxe X a4 Q Z (X0 3 Z (zc 2 (p.below h.below) Z (X0 5 Z (zcB h F qE Z fun _ _ h F=>X0 4 Z (qf Z F ?_ ?_)))))<;>intro F
  ·refine X0 4 Z ?_;obtain rfl:=qa F;replace F:=i;exact rb h F Z
  exact X0 7 Z (rK ⟨_,F,rfl,h⟩ Z)
 refine qq Z ?_;obtain rfl:=qa F;replace F:=i;exact X0 4 Z (rb h F Z)
def qcg(list:(List ByteArray))(b:Int):Nat->Int->Option (Flow Bool Int)|0,_=>G|n+1,a=>bif decide (a<b) then(idx list a).bind fun c=>(idx list b).bind fun d=>bif (c.toList==d.toList) then U (.ret false) else qcg list b n (W64 (a+1)) else U (.nxt a)
def qch(list:(List ByteArray)):Nat->Int->Option (Flow Bool Int)|0,_=>G|n+1,a=>bif decide (a<(list.length:Int)) then(idx list a).bind fun c=>(qet n c).bind fun b=>bif (!b) then U (.ret false) else(qcg list a n 0).bind fun|.ret r=>U (.ret r)|.nxt _=>qch list n (W64 (a+1)) else U (.nxt a)
def qdL(n:Nat)(list:(List ByteArray)):Option Bool:=(qch list n 0).bind fun|.ret r=>U r|.nxt _=>U true
theorem qfr{list:(List ByteArray)}(d:Ro w list cs1){r:Bool}(F:qdL n list=U r):RetV prog 135 [oV (List ByteArray) cs1] w r:=by
 obtain⟨D,B,rfl,A⟩:=d;refine zV 31 func135 Z fun h=>X0 9 Z ?_;obtain⟨H,F,a⟩:=qe F;refine ql (rL (fun m e w'=>∃c,qch list m c=U H/\e=[(0,oS D list.length B),(3,vi c)]/\SH w w' []) n ⟨_,F,rfl,h⟩ Z ?_);rintro z _ _ ⟨c,F,rfl,h⟩;rcases z with _|z
 ·cases F
 refine X0 8 Z (qf Z F ?_ ?_)<;>intro F
 ·refine X0 8 Z ?_;obtain⟨_,_,F,k,_,_,_,_,p,u,rfl,f⟩:=A.ix F;refine zxe p u k Z (zc 0 (f.below h.below) Z (zcB h F qfZ Z fun _ _ h F=>X0 2 Z (qf Z F ?_ ?_)))<;>intro F
  ·refine X0 4 Z ?_;obtain rfl:=qa F;replace F:=a;exact rb h F Z
  refine X0 5 Z ?_;obtain⟨I,F,b⟩:=qe F;refine ql (rL (fun m e w'=>∃y,qcg list c m y=U I/\e=[(0,oS D list.length B),(3,vi c),(4,vi y)]/\SH w w' []) z ⟨_,F,rfl,h⟩ Z ?_);rintro C _ _ ⟨y,F,rfl,h⟩;rcases C with _|C
  ·cases F
  refine X0 7 Z (qf Z F ?_ ?_)<;>intro F
  ·refine X0 4 Z (rD (zd2 Z ?_));obtain⟨_,_,F,l,_,_,_,_,s,v,rfl,g⟩:=A.ix F;refine zdxe s v l Z (zdc 0 (g.below h.below) Z (zd2 Z ?_));obtain⟨_,_,F,o,_,_,_,_,t,x,rfl,i⟩:=A.ix F;refine zdxe t x o Z (zdc 0 (i.below h.below) Z (zd1 Z (dN h fun _ h=>qf Z F ?_ ?_)))<;>intro F
   ·refine X0 4 Z ?_;obtain rfl:=qa F;replace F:=b;obtain rfl:=qa F;replace F:=a;exact rb h F Z
   exact X0 7 Z (rK ⟨_,F,rfl,h⟩ Z)
  refine qq Z ?_;obtain rfl:=qa F;replace F:=b;exact X0 6 Z (rK ⟨_,F,rfl,h⟩ Z)
 refine qq Z ?_;obtain rfl:=qa F;replace F:=a;exact X0 4 Z (rb h F Z)
def qco(c:(List Int))(d:(List Int)):Nat->Int->Option (Flow Bool Int)|0,_=>G|n+1,a=>bif decide (a<(c.length:Int)) then(idx d a).bind fun b=>bif (b != 1) then U (.ret false) else qco c d n (W64 (a+1)) else U (.nxt a)
def qa7(a:qb):Nat->(List Int)->Int->Option ((List Int)×Int)|0,_,_=>G|n+1,c,b=>bif decide (b<(a.Ac.length:Int)) then(idx a.Ac b).bind fun f=>bif (f.Bl==1) then(idx a.Ac b).bind fun d=>(idx c d.Bm).bind fun g=>(idx c d.Bm).bind fun _=>qa7 a n (setS c d.Bm (W64 (g+1))) (W64 (b+1)) else qa7 a n c (W64 (b+1)) else U (c,b)
def qbD(a:qb):Nat->(List Int)->Int->Option ((List Int)×Int)|0,_,_=>G|n+1,c,b=>bif decide (b<(a.Aa.length:Int)) then(idx a.Aa b).bind fun f=>(idx f.Af (W64 ((f.Af.length:Int)-1))).bind fun d=>(idx c d).bind fun g=>(idx c d).bind fun _=>qbD a n (setS c d (W64 (g+1))) (W64 (b+1)) else U (c,b)
def qbC(a:qb):Nat->(List ByteArray)->Int->Option ((List ByteArray)×Int)|0,_,_=>G|n+1,c,b=>bif decide (b<(a.Ac.length:Int)) then(idx a.Ac b).bind fun f=>(appS c ([f.Am]:List ByteArray)).bind fun d=>qbC a n d (W64 (b+1)) else U (c,b)
def qbH(a:qb):Nat->(List ByteArray)->Int->Option ((List ByteArray)×Int)|0,_,_=>G|n+1,c,b=>bif decide (b<(a.Aa.length:Int)) then(idx a.Aa b).bind fun f=>(appS c ([f.Am]:List ByteArray)).bind fun d=>qbH a n d (W64 (b+1)) else U (c,b)
def qeB(n:Nat)(b:qh)(a:qb):Option Bool:=((qe8 n b).bind fun k=>bif (!k) then U true else bif decide ((a.Aa.length:Int) > 14) then U true else bif decide ((a.Af.length:Int) > 30) then U true else bif decide ((a.Ac.length:Int) > 8) then U true else(qfA n b a).bind fun l=>U (!l)).bind fun d=>bif d then U false else(qbH a n ([]:List ByteArray) 0).bind fun(m,_)=>(qbC a n ([]:List ByteArray) 0).bind fun(p,_)=>((qdL n m).bind fun g=>bif (!g) then U true else(qdL n p).bind fun h=>bif (!h) then U true else(qdL n a.Af).bind fun i=>U (!i)).bind fun f=>bif f then U false else(mkS (a.Af.length:Int) (0:Int)).bind fun c=>(qbD a n c 0).bind fun(s,_)=>(qa7 a n s 0).bind fun(t,_)=>(qco c t n 0).bind fun|.ret r=>U r|.nxt _=>U true
theorem qhm{K:qh}{a:qb}(p:Ro w K cs1)(O:Ro w a cs2){r:Bool}(F:qeB n K a=U r):RetV prog 88 [oV qh cs1,oV qb cs2] w r:=by
 obtain⟨_,_,rfl,_⟩:=qZ p;obtain⟨D,A,H,B,I,C,rfl,s2,s3,s4⟩:=qJ O;refine zV 153 func88 Z fun h=>zSR (qr h Z Z fun _ _ h=>qr h Z Z fun _ b h=>X0 4 Z ?_);obtain⟨KF2,N,_,F,f⟩:=bindE F;refine qcX (fun e w'=>∃b1,KF2 b1=U r/\e=[(3,vp b),(40,.bool b1)]/\SH w w' [oX b (qay a D H I A B C) 45]) ?_ ?_
 ·refine X1 2 1 h Z (zcB h F (qi9 (h.old p)) Z fun _ _ h F=>zp2 Z (qg (t:=17) F Z ?_ ?_))<;>intro F
  ·refine X0 24 Z ?_;replace h:=h.p [0] Z;obtain rfl:=qa F;exact rG ⟨_,f,rfl,h⟩ Z
  refine X1 10 0 h Z (qg (t:=23) F Z ?_ ?_)<;>intro F
  ·refine X0 18 Z ?_;replace h:=h.p [0] Z;obtain rfl:=qa F;exact rG ⟨_,f,rfl,h⟩ Z
  refine X1 10 0 h Z (qg (t:=29) F Z ?_ ?_)<;>intro F
  ·refine X0 12 Z ?_;replace h:=h.p [0] Z;obtain rfl:=qa F;exact rG ⟨_,f,rfl,h⟩ Z
  refine X1 10 0 h Z (qg (t:=35) F Z ?_ ?_)<;>intro F
  ·refine X0 6 Z ?_;replace h:=h.p [0] Z;obtain rfl:=qa F;exact rG ⟨_,f,rfl,h⟩ Z
  refine X2 5 1 0 h Z (zcB h F (qjk (h.old p) (h.old O)) Z fun _ _ h F=>X0 4 Z ?_);replace h:=h.p [0] Z;obtain rfl:=qa F;exact rG ⟨_,f,rfl,h⟩ Z
 rintro _ _ ⟨b1,F,rfl,h⟩;subst N;refine qf Z F ?_ ?_<;>intro F
 ·exact X0 4 Z (rb h F Z)
 refine zKSR (qT qc [] _ ([]:List ByteArray) h Z Z Z Z Z Z Z Z Z trivial Z fun _ _ _ h=>X0 7 Z ?_);obtain⟨o1,F,hK1⟩:=qe F;refine ql (rL (fun m e w'=>∃S2 p6 x k5 J i1,qbH a m J i1=U o1/\e=[(3,vp b),(5,oS p6 x k5),(6,vi i1)]/\SH w w' [oW S2 (J:List ByteArray) [oS p6 x k5],oX b (qay a D H I A B C) 45]) n ⟨_,_,_,_,_,_,F,rfl,h⟩ Z ?_);rintro m1 _ _ ⟨S2,p6,x,k5,J,i1,F,rfl,h⟩;obtain rfl:=(h.sl 0 Z).2;rcases m1 with _|m1
 ·cases F
 refine X1 9 1 h Z (qf Z F ?_ ?_)<;>intro F
 ·refine X1 8 1 h Z ?_;obtain⟨y1,_,F,he1,_,_,_,_,hp1,hq1,hr1,hc3⟩:=s2.ix F;obtain⟨_,_,rfl,_⟩:=qA hr1;refine zxe hp1 hq1 he1 Z (zp1 Z (zc 0 (hc3.below h.below) Z (qT qc [.tmp 55] _ ([y1.Am]:List ByteArray) h Z Z Z Z Z Z Z Z Z ⟨rfl,E⟩ Z fun _ _ _ h=>?_)));obtain⟨_,s,F⟩:=qe F;obtain⟨g1,s⟩:=qaR s;refine qdP qc 1 h Z (h.sl 0 Z).1 (h.sl 0 Z).2 Z Z Z Z Z Z Z Z Z g1 s Z fun _ _ _ _ h=>X0 8 Z ?_;replace h:=h.p [1,2] Z;exact rK ⟨_,_,_,_,_,_,F,rfl,h⟩ Z
 refine qq Z ?_;obtain rfl:=qa F;replace F:=hK1;refine zSR (qT qc [] _ ([]:List ByteArray) h Z Z Z Z Z Z Z Z Z trivial Z fun _ _ _ h=>X0 7 Z ?_);obtain⟨o2,F,hK2⟩:=qe F;refine ql (rL (fun m e w'=>∃S6 z y k8 x3 i2,qbC a m x3 i2=U o2/\e=[(3,vp b),(5,oS p6 J.length k5),(7,oS z y k8),(8,vi i2)]/\SH w w' [oW S6 (x3:List ByteArray) [oS z y k8],oW S2 (J:List ByteArray) [oS p6 J.length k5],oX b (qay a D H I A B C) 45]) n ⟨_,_,_,_,_,_,F,rfl,h⟩ Z ?_);rintro m2 _ _ ⟨S6,z,y,k8,x3,i2,F,rfl,h⟩;obtain rfl:=(h.sl 0 Z).2;rcases m2 with _|m2
 ·cases F
 refine X1 9 2 h Z (qf Z F ?_ ?_)<;>intro F
 ·refine X1 8 2 h Z ?_;obtain⟨y2,_,F,he2,_,_,_,_,hp2,hq2,hr2,hc5⟩:=s4.ix F;obtain rfl:=qab hr2;refine zxe hp2 hq2 he2 Z (zp1 Z (zc 0 (hc5.below h.below) Z (qT qc [.tmp 72] _ ([y2.Am]:List ByteArray) h Z Z Z Z Z Z Z Z Z ⟨rfl,E⟩ Z fun _ _ _ h=>?_)));obtain⟨_,u,F⟩:=qe F;obtain⟨g2,u⟩:=qaR u;refine qdP qc 1 h Z (h.sl 0 Z).1 (h.sl 0 Z).2 Z Z Z Z Z Z Z Z Z g2 u Z fun _ _ _ _ h=>X0 8 Z ?_;replace h:=h.p [1,2,3] Z;exact rK ⟨_,_,_,_,_,_,F,rfl,h⟩ Z
 refine qq Z ?_;obtain rfl:=qa F;replace F:=hK2;refine zSS ?_;obtain⟨KF1,M,_,F,o⟩:=bindE F;refine qcX (fun e w'=>∃b4,KF1 b4=U r/\e=[(3,vp b),(88,.bool b4)]/\SH w w' [oX b (qay a D H I A B C) 45]) ?_ ?_
 ·refine X0 2 Z (zcB h F (qfr (h.own 1 Z)) Z fun _ _ h F=>zp2 Z (qg (t:=78) F Z ?_ ?_))<;>intro F
  ·refine X0 11 Z ?_;replace h:=h.p [2] Z;obtain rfl:=qa F;exact rG ⟨_,o,rfl,h⟩ Z
  refine X0 3 Z (zcB h F (qfr (h.own 0 Z)) Z fun _ _ h F=>X0 4 Z (qg (t:=83) F Z ?_ ?_))<;>intro F
  ·refine X0 6 Z ?_;replace h:=h.p [2] Z;obtain rfl:=qa F;exact rG ⟨_,o,rfl,h⟩ Z
  refine X1 5 2 h Z (zcB h F (qfr ⟨_,_,rfl,(h.oldS s3)⟩) Z fun _ _ h F=>X0 4 Z ?_);replace h:=h.p [2] Z;obtain rfl:=qa F;exact rG ⟨_,o,rfl,h⟩ Z
 rintro _ _ ⟨b4,F,rfl,h⟩;subst M;refine qf Z F ?_ ?_<;>intro F
 ·exact X0 4 Z (rb h F Z)
 refine X1 6 0 h Z ?_;obtain⟨d,v,F⟩:=qe F;obtain⟨g3,g4,v⟩:=qb5 v;refine qc2 qc Int h Z Z Z Z Z Z Z Z Z g3 g4 v Z fun _ S9 c h=>X0 7 Z ?_;obtain⟨o3,F,hK3⟩:=qe F;refine ql (rL (fun m e w'=>∃x6 i3,qbD a m x6 i3=U o3/\e=[(3,vp b),(9,oS c d.length d.length),(10,vi i3)]/\SH w w' [oW S9 (x6:List Int) [oS c d.length d.length],oX b (qay a D H I A B C) 45]) n ⟨_,_,F,rfl,h⟩ Z ?_);rintro m3 _ _ ⟨x6,i3,F,rfl,h⟩;rcases m3 with _|m3
 ·cases F
 refine X1 9 1 h Z (qf Z F ?_ ?_)<;>intro F
 ·refine X1 8 1 h Z ?_;obtain⟨_,_,F,he3,_,_,_,_,hp3,hq3,hr3,hc8⟩:=s2.ix F;obtain⟨_,_,rfl,s6⟩:=qA hr3;refine zxe hp3 hq3 he3 Z (zp1 Z (zc 2 (hc8.below h.below) Z (X0 8 Z ?_)));obtain⟨_,_,F,he4,_,_,_,_,hp4,hq4,rfl,hc9⟩:=s6.ix F;refine zxe hp4 hq4 he4 Z (zc 0 (hc9.below h.below) Z ?_);obtain⟨y5,_,F,a0,_,_,_,_,hp5,hq5,rfl,P⟩:=(h.sl 0 Z).1.ix F;refine zx hp5 hq5 ⟨a0.1,qap a0.2.1 (h.sl 0 Z).2⟩ Z (zc 0 P Z (zp1 Z ?_));obtain⟨_,hy6,F,a1,_,_,_,_,a4,a6,rfl,Q⟩:=(h.sl 0 Z).1.ix F;exact zx a4 a6 ⟨a1.1,qap a1.2.1 (h.sl 0 Z).2⟩ Z (qdT qc 0 0 (W64 (y5+1)) h Z hy6 a4 a6 Z Q Z Z Z Z Z Z Z fun _ h=>X0 7 Z (rK ⟨_,_,F,rfl,h⟩ Z))
 refine qq Z ?_;obtain rfl:=qa F;replace F:=hK3;refine X0 5 Z ?_;obtain⟨o4,F,hK4⟩:=qe F;refine ql (rL (fun m e w'=>∃x7 i4,qa7 a m x7 i4=U o4/\e=[(3,vp b),(9,oS c d.length d.length),(12,vi i4)]/\SH w w' [oW S9 (x7:List Int) [oS c d.length d.length],oX b (qay a D H I A B C) 45]) n ⟨_,_,F,rfl,h⟩ Z ?_);rintro m4 _ _ ⟨x7,i4,F,rfl,h⟩;rcases m4 with _|m4
 ·cases F
 refine X1 9 1 h Z (qf Z F ?_ ?_)<;>intro F
 ·refine X1 8 1 h Z ?_;obtain⟨_,_,F,he7,_,_,_,_,hp7,hq7,hr7,R⟩:=s4.ix F;obtain rfl:=qab hr7;refine zxe hp7 hq7 he7 Z (zp1 Z (zc 1 (R.below h.below) Z (X0 2 Z (qf Z F ?_ ?_))))<;>intro F
  ·refine X1 5 1 h Z ?_;obtain⟨_,_,F,he8,_,_,_,_,hp8,hq8,hr8,S⟩:=s4.ix F;obtain rfl:=qab hr8;refine zxe hp8 hq8 he8 Z (zp1 Z (zc 2 (S.below h.below) Z ?_));obtain⟨y9,_,F,a2,_,_,_,_,hp9,hq9,rfl,T⟩:=(h.sl 0 Z).1.ix F;refine zx hp9 hq9 ⟨a2.1,qap a2.2.1 (h.sl 0 Z).2⟩ Z (zc 0 T Z (zp1 Z ?_));obtain⟨_,a7,F,g,_,_,_,_,k,l,rfl,W⟩:=(h.sl 0 Z).1.ix F;exact zx k l ⟨g.1,qap g.2.1 (h.sl 0 Z).2⟩ Z (qdT qc 0 0 (W64 (y9+1)) h Z a7 k l Z W Z Z Z Z Z Z Z fun _ h=>X0 7 Z (rK ⟨_,_,F,rfl,h⟩ Z))
  exact X0 7 Z (rK ⟨_,_,F,rfl,h⟩ Z)
 refine qq Z ?_;obtain rfl:=qa F;replace F:=hK4;refine X0 5 Z ?_;obtain⟨o5,F,L⟩:=qe F;refine ql ?_;replace h:=h.p [0] Z;refine rL (fun m e w'=>∃i5,qco d x7 m i5=U o5/\e=[(9,oS c d.length d.length),(13,vi i5)]/\SH w w' [oW S9 (x7:List Int) [oS c d.length d.length]]) n ⟨_,F,rfl,h⟩ Z ?_;rintro m5 _ _ ⟨i5,F,rfl,h⟩;rcases m5 with _|m5
 ·cases F
 refine X0 8 Z (qf Z F ?_ ?_)<;>intro F
 ·refine X0 7 Z ?_;obtain⟨_,_,F,i,_,_,_,_,a3,a5,rfl,X⟩:=(h.sl 0 Z).1.ix F;refine zx a3 a5 ⟨i.1,qap i.2.1 (h.sl 0 Z).2⟩ Z (zc 0 X Z (X0 2 Z (qf Z F ?_ ?_)))<;>intro F
  ·refine X0 4 Z ?_;obtain rfl:=qa F;replace F:=L;exact rb h F Z
  exact X0 7 Z (rK ⟨_,F,rfl,h⟩ Z)
 refine qq Z ?_;obtain rfl:=qa F;replace F:=L;exact X0 4 Z (rb h F Z)
def qdi(a:qD):Nat->Int->Option (Flow Bool Int)|0,_=>G|n+1,b=>bif decide (b<(a.Bc.length:Int)) then(idx a.Bc b).bind fun d=>(qO n d 0 (W64 ((a.Ai.length:Int)-1))).bind fun c=>bif (!c) then U (.ret false) else qdi a n (W64 (b+1)) else U (.nxt b)
def qbj(a:qD):Nat->Int->Option (Flow Bool Int)|0,_=>G|n+1,b=>bif decide (b<(a.Ai.length:Int)) then((idx a.Bj b).bind fun o=>(qO n o 0 500).bind fun g=>bif (!g) then U true else(idx a.Bn b).bind fun p=>(qO n p 0 1000).bind fun h=>U (!h)).bind fun c=>bif c then U (.ret false) else bif (b==0) then(idx a.Ai b).bind fun i=>bif (i != (-1)) then U (.ret false) else(idx a.Bn b).bind fun k=>bif (k != 0) then U (.ret false) else bif decide (b > 0) then(idx a.Ai b).bind fun l=>(qO n l 0 (W64 (b-1))).bind fun d=>bif (!d) then U (.ret false) else qbj a n (W64 (b+1)) else qbj a n (W64 (b+1)) else bif decide (b > 0) then(idx a.Ai b).bind fun m=>(qO n m 0 (W64 (b-1))).bind fun f=>bif (!f) then U (.ret false) else qbj a n (W64 (b+1)) else qbj a n (W64 (b+1)) else U (.nxt b)
def qg0(n:Nat)(a:qD)(b:Int):Option Bool:=(bif decide ((a.Ai.length:Int)<1) then U true else bif decide ((a.Ai.length:Int) > 8) then U true else bif ((a.Bn.length:Int) != (a.Ai.length:Int)) then U true else bif ((a.Bj.length:Int) != (a.Ai.length:Int)) then U true else U ((a.Bc.length:Int) != b)).bind fun c=>bif c then U false else(qbj a n 0).bind fun|.ret r=>U r|.nxt _=>(qdi a n 0).bind fun|.ret r=>U r|.nxt _=>U true
theorem qkF{a:qD}{f}(L:Ro w a cs1){r:Bool}(F:qg0 n a f=U r):RetV prog 89 [oV qD cs1,vi f] w r:=by
 obtain⟨A,v,B,x,C,y,D,z,rfl,s1,s2,s3,s4⟩:=qaM L;refine zV 108 func89 Z fun h=>zSR (qr h Z Z fun _ b h=>X1 11 0 h Z ?_);obtain⟨I,l,_,F,d⟩:=bindE F;refine qcX (fun e w'=>∃J,I J=U r/\e=[(2,vp b),(5,vi (a.Ai.length:Int)),(37,.bool J)]/\SH w w' [oX b (qfd a A B C D v x y z) 109]) ?_ ?_
 ·refine X0 4 Z (qg (t:=13) F Z ?_ ?_)<;>intro F
  ·refine X0 25 Z ?_;obtain rfl:=qa F;exact rG ⟨_,d,rfl,h⟩ Z
  refine X0 6 Z (qg (t:=17) F Z ?_ ?_)<;>intro F
  ·refine X0 21 Z ?_;obtain rfl:=qa F;exact rG ⟨_,d,rfl,h⟩ Z
  refine X1 12 0 h Z (qg (t:=24) F Z ?_ ?_)<;>intro F
  ·refine X0 14 Z ?_;obtain rfl:=qa F;exact rG ⟨_,d,rfl,h⟩ Z
  refine X1 12 0 h Z (qg (t:=31) F Z ?_ ?_)<;>intro F
  ·refine X0 7 Z ?_;obtain rfl:=qa F;exact rG ⟨_,d,rfl,h⟩ Z
  refine X1 12 0 h Z ?_;obtain rfl:=qa F;exact rG ⟨_,d,rfl,h⟩ Z
 rintro _ _ ⟨J,F,rfl,h⟩;subst l;refine qf Z F ?_ ?_<;>intro F
 ·exact X0 4 Z (rb h F Z)
 refine X0 6 Z ?_;obtain⟨o1,F,c⟩:=qe F;refine ql (rL (fun m e w'=>∃u,qbj a m u=U o1/\e=[(2,vp b),(5,vi (a.Ai.length:Int)),(6,vi u)]/\SH w w' [oX b (qfd a A B C D v x y z) 109]) n ⟨_,F,rfl,h⟩ Z ?_);rintro m1 _ _ ⟨u,F,rfl,h⟩;rcases m1 with _|m1
 ·cases F
 refine X0 7 Z (qf Z F ?_ ?_)<;>intro F
 ·refine X0 5 Z ?_;obtain⟨H,k,_,F,g⟩:=bindE F;refine qcX (fun e w'=>∃K,H K=U o1/\e=[(2,vp b),(5,vi (a.Ai.length:Int)),(6,vi u),(58,.bool K)]/\SH w w' [oX b (qfd a A B C D v x y z) 109]) ?_ ?_
  ·refine X1 4 0 h Z ?_;obtain⟨_,_,F,W,_,_,_,_,a5,b5,rfl,o⟩:=s3.ix F;refine zxe a5 b5 W Z (zc 0 (o.below h.below) Z (zcB h F qE Z fun _ _ h F=>zp2 Z (qg (t:=50) F Z ?_ ?_)))<;>intro F
   ·refine X0 9 Z ?_;obtain rfl:=qa F;exact rG ⟨_,g,rfl,h⟩ Z
   refine X1 7 0 h Z ?_;obtain⟨_,_,F,X,_,_,_,_,a6,b6,rfl,p⟩:=s2.ix F;refine zxe a6 b6 X Z (X0 1 Z (zc 0 (p.below h.below) Z (X0 1 Z (zcB h F qE Z fun _ _ h F=>X0 4 Z ?_))));obtain rfl:=qa F;exact rG ⟨_,g,rfl,h⟩ Z
  rintro _ _ ⟨K,F,rfl,h⟩;subst k;refine qf Z F ?_ ?_<;>intro F
  ·refine X0 4 Z ?_;obtain rfl:=qa F;replace F:=c;exact rb h F Z
  refine X0 6 Z (qg (t:=61) F Z ?_ ?_)<;>intro F
  ·refine X1 7 0 h Z ?_;obtain⟨_,_,F,Q,_,_,_,_,a1,a8,rfl,M⟩:=s1.ix F;refine zxe a1 a8 Q Z (X0 1 Z (zc 0 (M.below h.below) Z (X0 4 Z (qg (t:=68) F Z ?_ ?_))))<;>intro F
   ·refine X0 25 Z (qc3 Z Z (X0 4 Z ?_));obtain rfl:=qa F;replace F:=c;exact rb h F Z
   refine X1 7 0 h Z ?_;obtain⟨_,_,F,R,_,_,_,_,a2,a9,rfl,N⟩:=s2.ix F;refine zxe a2 a9 R Z (X0 1 Z (zc 0 (N.below h.below) Z (X0 6 Z (qg (t:=77) F Z ?_ ?_))))<;>intro F
   ·refine X0 15 Z (qc3 Z Z (X0 4 Z ?_));obtain rfl:=qa F;replace F:=c;exact rb h F Z
   refine X0 6 Z (qg (t:=80) F Z ?_ ?_)<;>intro F
   ·refine X1 7 0 h Z ?_;obtain⟨_,_,F,S,_,_,_,_,a3,b0,rfl,O⟩:=s1.ix F;refine zxe a3 b0 S Z (X0 1 Z (zc 0 (O.below h.below) Z (X0 5 Z (zcB h F qE Z fun _ _ h F=>X0 6 Z (qf Z F ?_ ?_)))))<;>intro F
    ·refine X0 4 Z ?_;obtain rfl:=qa F;replace F:=c;exact rb h F Z
    exact X0 7 Z (rK ⟨_,F,rfl,h⟩ Z)
   exact X0 13 Z (qel Z Z (X0 7 Z (rK ⟨_,F,rfl,h⟩ Z)))
  refine X0 22 Z (qg (t:=80) F Z ?_ ?_)<;>intro F
  ·refine X1 7 0 h Z ?_;obtain⟨_,_,F,T,_,_,_,_,a4,b4,rfl,P⟩:=s1.ix F;refine zxe a4 b4 T Z (X0 1 Z (zc 0 (P.below h.below) Z (X0 5 Z (zcB h F qE Z fun _ _ h F=>X0 6 Z (qf Z F ?_ ?_)))))<;>intro F
   ·refine X0 4 Z ?_;obtain rfl:=qa F;replace F:=c;exact rb h F Z
   exact X0 7 Z (rK ⟨_,F,rfl,h⟩ Z)
  exact X0 13 Z (qel Z Z (X0 7 Z (rK ⟨_,F,rfl,h⟩ Z)))
 refine qq Z ?_;obtain rfl:=qa F;replace F:=c;refine X0 5 Z ?_;obtain⟨o3,F,i⟩:=qe F;refine ql (rL (fun m e w'=>∃i2,qdi a m i2=U o3/\e=[(2,vp b),(5,vi (a.Ai.length:Int)),(7,vi i2)]/\SH w w' [oX b (qfd a A B C D v x y z) 109]) n ⟨_,F,rfl,h⟩ Z ?_);rintro m2 _ _ ⟨i2,F,rfl,h⟩;rcases m2 with _|m2
 ·cases F
 refine X1 9 0 h Z (qf Z F ?_ ?_)<;>intro F
 ·refine X1 8 0 h Z ?_;obtain⟨_,_,F,a0,_,_,_,_,a7,b7,rfl,s⟩:=s4.ix F;refine zxe a7 b7 a0 Z (zc 0 (s.below h.below) Z (zp2 Z (zcB h F qE Z fun _ _ h F=>X0 2 Z (qf Z F ?_ ?_))))<;>intro F
  ·refine X0 4 Z ?_;obtain rfl:=qa F;replace F:=i;exact rb h F Z
  exact X0 7 Z (rK ⟨_,F,rfl,h⟩ Z)
 refine qq Z ?_;obtain rfl:=qa F;replace F:=i;exact X0 4 Z (rb h F Z)
def qbn(c:Int)(b:qd):Nat->(List Tl05Place)->Int->Option ((List Tl05Place)×Int)|0,_,_=>G|n+1,d,a=>bif decide (a<(b.Af.length:Int)) then(idx b.Af a).bind fun g=>(appS d ([(⟨c,a,g,(a==(W64 ((b.Af.length:Int)-1)))⟩:Tl05Place)]:List Tl05Place)).bind fun f=>qbn c b n f (W64 (a+1)) else U (d,a)
def qbi(a:qb):Nat->(List Tl05Place)->Int->Option ((List Tl05Place)×Int)|0,_,_=>G|n+1,c,b=>bif decide (b<(a.Ac.length:Int)) then(idx a.Ac b).bind fun f=>(idx a.Ac b).bind fun g=>(appS c ([(⟨(-1),b,f.Bm,(g.Bl==1)⟩:Tl05Place)]:List Tl05Place)).bind fun d=>qbi a n d (W64 (b+1)) else U (c,b)
def qbk(a:qb):Nat->(List Tl05Place)->Int->Option ((List Tl05Place)×Int)|0,_,_=>G|n+1,c,b=>bif decide (b<(a.Aa.length:Int)) then(idx a.Aa b).bind fun f=>(qbn b f n c 0).bind fun(d,_)=>qbk a n d (W64 (b+1)) else U (c,b)
def qdj(n:Nat)(a:qb):Option (List Tl05Place):=(qbk a n ([]:List Tl05Place) 0).bind fun(b,_)=>(qbi a n b 0).bind fun(c,_)=>U c
theorem qeU{a:qb}(x:Ro w a cs1){r:(List Tl05Place)}(F:qdj n a=U r):RetV prog 96 [oV qb cs1] w r:=by
 obtain⟨p1,W,p2,X,p3,k3,rfl,s1,_,s3⟩:=qJ x;refine zV 69 func96 Z fun h=>zSR (qr h Z Z fun _ b h=>X0 4 Z (qT qc [] _ ([]:List Tl05Place) h Z Z Z Z Z Z Z Z Z trivial Z fun _ _ _ h=>X0 7 Z ?_));obtain⟨o1,F,t⟩:=qe F;refine ql (rL (fun m e w'=>∃S2 p5 i k4 x1 f,qbk a m x1 f=U o1/\e=[(1,vp b),(3,oS p5 i k4),(4,vi f)]/\SH w w' [oW S2 (x1:List Tl05Place) [oS p5 i k4],oX b (qay a p1 p2 p3 W X k3) 45]) n ⟨_,_,_,_,_,_,F,rfl,h⟩ Z ?_);rintro m1 _ _ ⟨S2,p5,i,k4,x1,f,F,rfl,h⟩;obtain rfl:=(h.sl 0 Z).2;rcases m1 with _|m1
 ·cases F
 refine X1 9 1 h Z (qf Z F ?_ ?_)<;>intro F
 ·refine X1 8 1 h Z ?_;obtain⟨s,_,F,C,_,_,_,_,J,N,R,y⟩:=s1.ix F;obtain⟨p6,k5,rfl,s4⟩:=qA R;refine zxe J N C Z (zp1 Z (zc 2 (y.below h.below) Z (X0 6 Z ?_)));obtain⟨o2,F,u⟩:=qe F;refine ql (rL (fun m e w'=>∃S3 p7 k k6 x2 g,qbn f s m x2 g=U o2/\e=[(1,vp b),(3,oS p7 k k6),(4,vi f),(5,oS p6 s.Af.length k5),(6,vi g)]/\SH w w' [oW S3 (x2:List Tl05Place) [oS p7 k k6],oX b (qay a p1 p2 p3 W X k3) 45]) m1 ⟨_,_,_,_,_,_,F,rfl,h⟩ Z ?_);rintro m2 _ _ ⟨S3,p7,k,k6,x2,g,F,rfl,h⟩;obtain rfl:=(h.sl 0 Z).2;rcases m2 with _|m2
  ·cases F
  refine X0 8 Z (qf Z F ?_ ?_)<;>intro F
  ·refine X0 9 Z ?_;obtain⟨y2,_,F,D,_,_,_,_,K,O,rfl,z⟩:=s4.ix F;refine zxe K O D Z (zc 0 (z.below h.below) Z (zp5 Z (r_v (qe6 qc [0,1,2,3] [.tmp 29,.tmp 30,.tmp 34,.tmp 39] Z Z Z Z Z Z Z Z) Z (qT qc [.tmp 40] _ ([(⟨f,g,y2,(g==(W64 ((s.Af.length:Int)-1)))⟩:Tl05Place)]:List Tl05Place) h Z Z Z Z Z Z Z Z Z ⟨(qeA (⟨f,g,y2,(g==(W64 ((s.Af.length:Int)-1)))⟩:Tl05Place)),E⟩ Z fun _ _ _ h=>?_))));obtain⟨_,c,F⟩:=qe F;obtain⟨g1,c⟩:=qaR c;refine qdP qc 1 h Z (h.sl 0 Z).1 (h.sl 0 Z).2 Z Z Z Z Z Z Z Z Z g1 c Z fun _ _ _ _ h=>X0 8 Z ?_;replace h:=h.p [1,2] Z;exact rK ⟨_,_,_,_,_,_,F,rfl,h⟩ Z
  refine qq Z ?_;obtain rfl:=qa F;replace F:=u;exact X0 6 Z (rK ⟨_,_,_,_,_,_,F,rfl,h⟩ Z)
 refine qq Z ?_;obtain rfl:=qa F;replace F:=t;refine X0 5 Z ?_;obtain⟨o3,F,v⟩:=qe F;refine ql (rL (fun m e w'=>∃S6 o l k8 x4 p,qbi a m x4 p=U o3/\e=[(1,vp b),(3,oS o l k8),(7,vi p)]/\SH w w' [oW S6 (x4:List Tl05Place) [oS o l k8],oX b (qay a p1 p2 p3 W X k3) 45]) n ⟨_,_,_,_,_,_,F,rfl,h⟩ Z ?_);rintro m3 _ _ ⟨S6,o,l,k8,x4,p,F,rfl,h⟩;obtain rfl:=(h.sl 0 Z).2;rcases m3 with _|m3
 ·cases F
 refine X1 9 1 h Z (qf Z F ?_ ?_)<;>intro F
 ·refine zKSB (rA [] [1] h Z fun _ h=>M1 31 [0,1,2,3,4] 0 (h.p [1] Z) Z ?_);obtain⟨y3,_,F,H,_,_,_,_,L,P,S,A⟩:=s3.ix F;obtain rfl:=qab S;refine Ae 5 63 L P H (h.p [1] Z) Z (M0 127 [6] (h.p [1] Z) Z (Al 7 255 2 A (h.p [1] Z) Z (M1 2047 [8,9,10] 0 (h.p [1] Z) Z ?_)));obtain⟨y4,_,F,I,_,_,_,_,M,Q,T,B⟩:=s3.ix F;obtain rfl:=qab T;refine Ae 11 4095 M Q I (h.p [1] Z) Z (M0 8191 [12] (h.p [1] Z) Z (Al 13 16383 1 B (h.p [1] Z) Z (M0 32767 [14] (h.p [1] Z) Z (Aw 15 65535 (fun w' hw=>qe6 qc [0,1,2,3] [.const (vi (-1)),.tmp 51,.tmp 57,.tmp 64] Z Z Z Z Z Z Z Z) (h.p [1] Z) Z ?_))));refine Ao 16 131071 Z (qT qc [.tmp 65] _ ([(⟨(-1),p,y3.Bm,(y4.Bl==1)⟩:Tl05Place)]:List Tl05Place) h Z Z Z Z Z Z Z Z Z ⟨(qeA (⟨(-1),p,y3.Bm,(y4.Bl==1)⟩:Tl05Place)),E⟩ Z fun _ _ _ h=>Ag (h.p [2] Z) (Ao 17 262143 Z ?_));obtain⟨_,d,F⟩:=qe F;obtain⟨g2,d⟩:=qaR d;refine qdP qc 1 h Z (h.sl 0 Z).1 (h.sl 0 Z).2 Z Z Z Z Z Z Z Z Z g2 d Z fun _ _ _ _ h=>G0 524287 [18] (h.p [2] Z) Z (Ad (X0 6 Z ?_));replace h:=h.p [1,2] Z;exact rK ⟨_,_,_,_,_,_,F,rfl,h⟩ Z
 refine qq Z ?_;obtain rfl:=qa F;replace F:=v;refine X0 5 Z ?_;obtain rfl:=qa F;exact rO 0 h Z ⟨rfl,E⟩
def qa9(net:Int)(b:(List Tl05Place)):Nat->(List Int)->Int->Option ((List Int)×Int)|0,_,_=>G|n+1,c,a=>bif decide (a<(b.length:Int)) then((idx b a).bind fun g=>bif (g.net==net) then(idx b a).bind fun h=>U (!h.drives) else U false).bind fun d=>bif d then(appS c ([a]:List Int)).bind fun f=>qa9 net b n f (W64 (a+1)) else qa9 net b n c (W64 (a+1)) else U (c,a)
def qfB(n:Nat)(d:qb)(net:Int):Option (List Int):=(qdj n d).bind fun a=>(qa9 net a n ([]:List Int) 0).bind fun(b,_)=>U b
theorem qjC{d:qb}{net}(k:Ro w d cs1){r:(List Int)}(F:qfB n d net=U r):RetV prog 90 [oV qb cs1,vi net] w r:=by
 obtain⟨_,_,_,_,_,_,rfl,_,_,_⟩:=qJ k;refine zV 37 func90 Z fun h=>zSR (qr h Z Z fun _ _ h=>X0 4 Z (qT qc [] _ ([]:List Int) h Z Z Z Z Z Z Z Z Z trivial Z fun _ _ _ h=>X1 5 1 h Z (zcL h F (qeU (h.old k)) Z fun c _ S2 x v h F=>X0 7 Z ?_)));obtain⟨O,F,B⟩:=qe F;refine ql ?_;replace h:=h.p [0,1] Z;refine rL (fun m e w'=>∃z u b s f p,qa9 net c m f p=U O/\e=[(1,vi net),(5,oS u b s),(6,oS x c.length v),(7,vi p)]/\SH w w' [oW S2 (c:List Tl05Place) [oS x c.length v],oW z (f:List Int) [oS u b s]]) n ⟨_,_,_,_,_,_,F,rfl,h⟩ Z ?_;rintro N _ _ ⟨z,u,b,s,f,p,F,rfl,h⟩;obtain rfl:=(h.sl 1 Z).2;rcases N with _|N
 ·cases F
 refine X0 8 Z (qf Z F ?_ ?_)<;>intro F
 ·refine X0 4 Z ?_;obtain⟨y,i,_,F,g⟩:=bindE F;refine qcX (fun e w'=>∃A,y A=U O/\e=[(1,vi net),(5,oS u f.length s),(6,oS x c.length v),(7,vi p),(31,.bool A)]/\SH w w' [oW S2 (c:List Tl05Place) [oS x c.length v],oW z (f:List Int) [oS u f.length s]]) ?_ ?_
  ·refine X0 3 Z ?_;obtain⟨_,_,F,l,_,_,_,_,H,J,L,C⟩:=(h.sl 0 Z).1.ix F;obtain rfl:=qd2 L;refine zx H J ⟨l.1,qap l.2.1 (h.sl 0 Z).2⟩ Z (zp1 Z (zc 2 C Z (zp3 Z (qg (t:=24) F Z ?_ ?_))))<;>intro F
   ·refine X0 5 Z ?_;obtain⟨_,_,F,o,_,_,_,_,I,K,M,D⟩:=(h.sl 0 Z).1.ix F;obtain rfl:=qd2 M;refine zx I K ⟨o.1,qap o.2.1 (h.sl 0 Z).2⟩ Z (X0 3 Z (zc 3 D Z (X0 4 Z ?_)));obtain rfl:=qa F;exact rG ⟨_,g,rfl,h⟩ Z
   refine X0 8 Z ?_;obtain rfl:=qa F;exact rG ⟨_,g,rfl,h⟩ Z
  rintro _ _ ⟨A,F,rfl,h⟩;subst i;refine qf Z F ?_ ?_<;>intro F
  ·refine X0 3 Z (qT qc [.tmp 33] _ ([p]:List Int) h Z Z Z Z Z Z Z Z Z ⟨rfl,E⟩ Z fun _ _ _ h=>?_);obtain⟨_,a,F⟩:=qe F;obtain⟨P,a⟩:=qaR a;refine qdP qc 2 h Z (h.sl 0 Z).1 (h.sl 0 Z).2 Z Z Z Z Z Z Z Z Z P a Z fun _ _ _ _ h=>X0 8 Z ?_;replace h:=h.p [1,2] Z;exact rK ⟨_,_,_,_,_,_,F,rfl,h⟩ Z
  exact X0 7 Z (rK ⟨_,_,_,_,_,_,F,rfl,h⟩ Z)
 refine qq Z ?_;obtain rfl:=qa F;replace F:=B;refine X0 5 Z ?_;obtain rfl:=qa F;exact rO 1 h Z ⟨rfl,E⟩
def qcD(b:qm):Nat->Int->Option (Flow Bool Int)|0,_=>G|n+1,a=>bif decide (a<(b.Ah.length:Int)) then(idx b.Ah a).bind fun f=>(qfB n (⟨b.Ab.Aa,b.Ab.Af,b.Ab.Ac⟩:qb) a).bind fun c=>(qg0 n f (c.length:Int)).bind fun d=>bif (!d) then U (.ret false) else qcD b n (W64 (a+1)) else U (.nxt a)
def qgm(n:Nat)(b:qm):Option Bool:=((qeB n (⟨b.Aq.Aj⟩:qh) (⟨b.Ab.Aa,b.Ab.Af,b.Ab.Ac⟩:qb)).bind fun c=>bif (!c) then U true else U ((b.Ah.length:Int) != (b.Ab.Af.length:Int))).bind fun a=>bif a then U false else(qcD b n 0).bind fun|.ret r=>U r|.nxt _=>U true
theorem qj1{b:qm}(k:Ro w b cs1){r:Bool}(F:qgm n b=U r):RetV prog 45 [oV qm cs1] w r:=by
 obtain⟨D,x,H,y,I,z,J,A,K,B,rfl,P,L,M,N,Q⟩:=qU k;refine zV 39 func45 Z fun h=>zSR (qr h Z Z fun _ a h=>X0 4 Z ?_);obtain⟨g,f,_,F,d⟩:=bindE F;refine qcX (fun e w'=>∃i,g i=U r/\e=[(1,vp a),(19,.bool i)]/\SH w w' [oX a (qb6 b D H I J K x y z A B) 48]) ?_ ?_
 ·refine X2 5 0 0 h Z (zcB h F (qhm (qbg _ (h.oldS P)) (qas _ (h.oldS L) (h.oldS M) (h.oldS N))) Z fun _ _ h F=>zp2 Z (qg (t:=10) F Z ?_ ?_))<;>intro F
  ·refine X0 10 Z ?_;obtain rfl:=qa F;exact rG ⟨_,d,rfl,h⟩ Z
  refine X2 18 0 0 h Z ?_;obtain rfl:=qa F;exact rG ⟨_,d,rfl,h⟩ Z
 rintro _ _ ⟨i,F,rfl,h⟩;subst f;refine qf Z F ?_ ?_<;>intro F
 ·exact X0 4 Z (rb h F Z)
 refine X0 6 Z ?_;obtain⟨O,F,c⟩:=qe F;refine ql (rL (fun m e w'=>∃v,qcD b m v=U O/\e=[(1,vp a),(3,vi v)]/\SH w w' [oX a (qb6 b D H I J K x y z A B) 48]) n ⟨_,F,rfl,h⟩ Z ?_);rintro C _ _ ⟨v,F,rfl,h⟩;rcases C with _|C
 ·cases F
 refine X1 9 0 h Z (qf Z F ?_ ?_)<;>intro F
 ·refine X0 4 Z (rA [] [0] h Z fun _ h=>M1 7 [0,1,2] 0 (h.p [0] Z) Z ?_);obtain⟨X,_,F,o,_,_,_,_,p,s,u,l⟩:=Q.ix F;obtain⟨_,_,_,_,_,_,_,_,rfl,R,S,T,W⟩:=qaM u;refine Ae 3 15 p s o (h.p [0] Z) Z (Al 4 31 0 l (h.p [0] Z) Z (M1 255 [5,6,7] 0 (h.p [0] Z) Z (Ao 8 511 Z (zcL h F (qjC (qas _ (h.oldS L) (h.oldS M) (h.oldS N))) Z fun _ _ _ _ _ h F=>G0 1023 [9] (h.p [1] Z) Z (Ao 10 2047 Z (zcB h F (qkF (qgt X (h.oldS R) (h.oldS S) (h.oldS T) (h.oldS W))) Z fun _ _ h F=>G0 4095 [11] (h.p [1] Z) Z (Ad (qf Z F ?_ ?_))))))))<;>intro F
  ·refine X0 4 Z ?_;obtain rfl:=qa F;replace F:=c;exact rb h F Z
  refine X0 7 Z ?_;replace h:=h.p [1] Z;exact rK ⟨_,F,rfl,h⟩ Z
 refine qq Z ?_;obtain rfl:=qa F;replace F:=c;exact X0 4 Z (rb h F Z)
def qY(_:Nat)(x:Int)(b:Int)(a:Int):Option Bool:=bif decide (x>=b) then U (decide (x<=a)) else U false
theorem qQ{x low high}  {r:Bool}(F:qY n x low high=U r):RetV prog 115 [vi x,vi low,vi high] w r:=by
 refine zV 15 func115 Z fun h=>X0 10 Z (qg (t:=10) F Z ?_ ?_)<;>intro F
 ·exact X0 9 Z (rb h F Z)
 exact X0 6 Z (rb h F Z)
def qfi(_:Nat)(s cutset:ByteArray):Option ByteArray:=if s.size<=9223372036854775807/\cutset.size<4294967281/\cutset.data.toList.all (fun b=>decide (b.toNat<128))=true then U ⟨(Lib.trimS s.data.toList cutset.data.toList).toArray⟩ else G
theorem qj3{s cutset}{r:ByteArray}(F:qfi n s cutset=U r):RetV prog 212 [.string s,.string cutset] w r:=by
 unfold qfi at F;split at F
 ·rename_i hh
  obtain rfl:=qa F;refine(Tryz.strings_Trim_any s cutset w hh.1 hh.2.1 hh.2.2).mono ?_;rintro e w' ⟨rfl,a⟩;exact⟨_,rfl,a,[.string _],rfl,qdm _ _⟩
 cases F
def qdY(_:Nat)(s:ByteArray)(c:(IntK .u8)):Option Int:=U (Lib.indexByte s.data.toList c.val.toNat.toUInt8)
theorem qhV{s}{c:(IntK .u8)}{r:Int}(F:qdY n s c=U r):RetV prog 213 [.string s,.int .u8 c.val] w r:=by
 obtain rfl:=qa F;refine(Tryz.strings_IndexByte s c.val w).mono ?_;rintro e w' ⟨rfl,rfl⟩;exact⟨_,rfl,Below.refl _ _,[vi _],rfl,qoX _ _⟩
def qfL(n:Nat)(s:ByteArray):Option Bool:=(qY n (s.size:Int) 1 8).bind fun a=>bif a then(qfi n s (⟨#[97,98,99,100,101,102,103,104,105,106,107,108,109,110,111,112,113,114,115,116,117,118,119,120,121,122,48,49,50,51,52,53,54,55,56,57]⟩:ByteArray)).bind fun b=>bif (b.toList==(⟨#[]⟩:ByteArray).toList) then(atS s 0).bind fun d=>(qdY n (⟨#[97,98,99,100,101,102,103,104,105,106,107,108,109,110,111,112,113,114,115,116,117,118,119,120,121,122]⟩:ByteArray) (⟨d⟩:IntK .u8)).bind fun c=>U (decide (c>=0)) else U false else U false
theorem qhQ{s}  {r:Bool}(F:qfL n s=U r):RetV prog 177 [.string s] w r:=by
 refine zV 17 func177 Z fun h=>X0 8 Z (zcB h F qQ Z fun _ _ h F=>zp1 Z (qg (t:=6) F Z ?_ ?_))<;>intro F
 ·refine X0 3 Z (zcS h F qj3 Z fun _ _ h F=>X0 4 Z (qg (t:=11) F Z ?_ ?_))<;>intro F
  ·refine X0 3 Z ?_;obtain⟨_,a,F⟩:=qe F;have b:=qhZ a;exact r_v (qh1 qc b Z Z Z Z) Z (X0 1 Z (zcI h F qhV Z fun _ _ h F=>X0 5 Z (rb h F Z)))
  exact X0 7 Z (rb h F Z)
 exact X0 12 Z (rb h F Z)
def qaX(s:(List ByteArray))(v:ByteArray):Nat->Int->Option (Flow Int Int)|0,_=>G|n+1,a=>bif decide (a<(s.length:Int)) then(idx s a).bind fun b=>bif (v.toList==b.toList) then U (.ret a) else qaX s v n (W64 (a+1)) else U (.nxt a)
def qc5(n:Nat)(s:(List ByteArray))(v:ByteArray):Option Int:=(qaX s v n 0).bind fun|.ret r=>U r|.nxt _=>U (-1)
theorem qhI{s:(List ByteArray)}{v}(b:Ro w s cs1){r:Int}(F:qc5 n s v=U r):RetV prog 92 [oV (List ByteArray) cs1,.string v] w r:=by
 obtain⟨p,l,rfl,t⟩:=b;refine zV 19 func92 Z fun h=>X0 11 Z ?_;obtain⟨o,F,a⟩:=qe F;refine ql (rL (fun m e w'=>∃i,qaX s v m i=U o/\e=[(0,oS p s.length l),(1,.string v),(7,vi (s.length:Int)),(8,vi i)]/\SH w w' []) n ⟨_,F,rfl,h⟩ Z ?_);rintro k _ _ ⟨i,F,rfl,h⟩;rcases k with _|k
 ·cases F
 refine X0 5 Z (qf Z F ?_ ?_)<;>intro F
 ·refine X0 13 Z ?_;obtain⟨_,_,F,d,_,_,_,_,f,g,rfl,c⟩:=t.ix F;refine zxe f g d Z (zc 0 (c.below h.below) Z (X0 2 Z (qf Z F ?_ ?_)))<;>intro F
  ·refine X0 5 Z ?_;obtain rfl:=qa F;replace F:=a;exact ri h F Z
  exact X0 6 Z (rK ⟨_,F,rfl,h⟩ Z)
 refine qq Z ?_;obtain rfl:=qa F;replace F:=a;exact X0 4 Z (ri h F Z)
def qcc(n:Nat)(s:(List ByteArray))(v:ByteArray):Option Bool:=(qc5 n s v).bind fun a=>U (decide (a>=0))
theorem qgR{s:(List ByteArray)}{v}(a:Ro w s cs1){r:Bool}(F:qcc n s v=U r):RetV prog 181 [oV (List ByteArray) cs1,.string v] w r:=by
 obtain⟨_,_,rfl,b⟩:=a;exact zV 9 func181 Z fun h=>X0 8 Z (zcI h F (qhI ⟨_,_,rfl,(h.oldS b)⟩) Z fun _ _ h F=>X0 3 Z (rb h F Z))
def qck(list:(List ByteArray)):Nat->Int->Option (Flow Bool Int)|0,_=>G|n+1,a=>bif decide (a<(list.length:Int)) then(idx list a).bind fun b=>(qfL n b).bind fun c=>bif (!c) then U (.ret false) else(subS list 0 a).bind fun f=>(qcc n f b).bind fun d=>bif d then U (.ret false) else qck list n (W64 (a+1)) else U (.nxt a)
def qce(n:Nat)(list:(List ByteArray)):Option Bool:=(qck list n 0).bind fun|.ret r=>U r|.nxt _=>U true
theorem qc7{list:(List ByteArray)}(f:Ro w list cs1){r:Bool}(F:qce n list=U r):RetV prog 150 [oV (List ByteArray) cs1] w r:=by
 obtain⟨x,u,rfl,s⟩:=f;refine zV 23 func150 Z fun h=>X0 11 Z ?_;obtain⟨z,F,a⟩:=qe F;refine ql (rL (fun m e w'=>∃p,qck list m p=U z/\e=[(0,oS x list.length u),(5,oS x list.length u),(6,vi (list.length:Int)),(7,vi p)]/\SH w w' []) n ⟨_,F,rfl,h⟩ Z ?_);rintro v _ _ ⟨p,F,rfl,h⟩;rcases v with _|v
 ·cases F
 refine X0 5 Z (qf Z F ?_ ?_)<;>intro F
 ·refine X0 6 Z ?_;obtain⟨_,_,F,i,_,_,_,_,l,o,rfl,g⟩:=s.ix F;refine zxe l o i Z (zc 0 (g.below h.below) Z (X0 6 Z (zcB h F qhQ Z fun _ _ h F=>zp2 Z (qg (t:=15) F Z ?_ ?_))))<;>intro F
  ·refine X0 7 Z (qc3 Z Z (X0 4 Z ?_));obtain rfl:=qa F;replace F:=a;exact rb h F Z
  refine X0 5 Z ?_;obtain⟨_,d,F⟩:=qe F;obtain⟨_,_,c,b,k,y⟩:=qov (h.oldS s) d;refine r_v (qmp qc Z Z Z (qoE y Z) c b k Z Z Z Z) Z ?_;have A:=qo3 s d c b;refine X0 3 Z (zcB h F (qgR ⟨_,_,rfl,(h.oldS A)⟩) Z fun _ _ h F=>X0 2 Z (qf Z F ?_ ?_))<;>intro F
  ·refine X0 4 Z ?_;obtain rfl:=qa F;replace F:=a;exact rb h F Z
  exact X0 6 Z (rK ⟨_,F,rfl,h⟩ Z)
 refine qq Z ?_;obtain rfl:=qa F;replace F:=a;exact X0 4 Z (rb h F Z)
def qa5(_:Nat)(list:(List qN)):Option Int:=U (list.length:Int)
theorem qeP{list:(List qN)}(a:Ro w list cs1){r:Int}(F:qa5 n list=U r):RetV prog 214 [oV (List qN) cs1] w r:=by
 obtain⟨_,_,rfl,_⟩:=a;exact zV 5 func214 Z fun h=>X0 10 Z (ri h F Z)
def qbu(list:(List qN)):Nat->(List ByteArray)->Int->Option (Flow Bool ((List ByteArray)×Int))|0,_,_=>G|n+1,c,a=>bif decide (a<(list.length:Int)) then(idx list a).bind fun b=>(appS c ([b.Am]:List ByteArray)).bind fun d=>bif (a==(W64 ((list.length:Int)-1))) then bif (b.Bl != 2) then U (.ret false) else bif (b.Bj != 0) then U (.ret false) else bif b.Ay then U (.ret false) else qbu list n d (W64 (a+1)) else bif (b.Bl != 1) then U (.ret false) else(qY n b.Bj 0 500).bind fun f=>bif (!f) then U (.ret false) else qbu list n d (W64 (a+1)) else U (.nxt (c,a))
def qgd(n:Nat)(list:(List qN)):Option Bool:=(qbu list n ([]:List ByteArray) 0).bind fun|.ret r=>U r|.nxt (d,_)=>(qa5 n list).bind fun a=>(qY n a 2 5).bind fun b=>bif b then(qce n d).bind fun c=>U c else U false
theorem qjV{list:(List qN)}(d:Ro w list cs1){r:Bool}(F:qgd n list=U r):RetV prog 178 [oV (List qN) cs1] w r:=by
 obtain⟨y,v,rfl,z⟩:=d;refine zV 52 func178 Z fun h=>X0 15 Z ?_;replace h:=h.nil (α:=ByteArray);obtain⟨B,F,a⟩:=qe F;refine ql (rL (fun m e w'=>∃S1 s c p u o,qbu list m u o=U B/\e=[(0,oS y list.length v),(3,oS s c p),(6,oS y list.length v),(7,vi (list.length:Int)),(8,vi o)]/\SH w w' [oW S1 (u:List ByteArray) [oS s c p]]) n ⟨_,_,_,_,_,_,F,rfl,h⟩ Z ?_);rintro x _ _ ⟨S1,s,c,p,u,o,F,rfl,h⟩;obtain rfl:=(h.sl 0 Z).2;rcases x with _|x
 ·cases F
 refine X0 5 Z (qf Z F ?_ ?_)<;>intro F
 ·refine X0 6 Z ?_;obtain⟨C,_,F,g,_,_,_,_,i,k,l,f⟩:=z.ix F;obtain rfl:=qav l;refine zxe i k g Z (zc 0 (f.below h.below) Z (qC qc h Z Z Z fun _ _ h=>zp1 Z (zs 0 h Z fun _ h=>X1 6 0 h Z (qT qc [.tmp 15] _ ([C.Am]:List ByteArray) h Z Z Z Z Z Z Z Z Z ⟨rfl,E⟩ Z fun _ _ _ h=>?_))));obtain⟨_,b,F⟩:=qe F;obtain⟨A,b⟩:=qaR b;refine qdP qc 2 h Z (h.sl 0 Z).1 (h.sl 0 Z).2 Z Z Z Z Z Z Z Z Z A b Z fun _ _ _ _ h=>X0 10 Z (qf Z F ?_ ?_)<;>intro F
  ·refine X1 6 1 h Z (qg (t:=26) F Z ?_ ?_)<;>intro F
   ·refine X0 9 Z (qc3 Z Z (X0 4 Z ?_));obtain rfl:=qa F;replace F:=a;exact rb h F Z
   refine X1 8 1 h Z (qg (t:=31) F Z ?_ ?_)<;>intro F
   ·refine X0 4 Z (qc3 Z Z (X0 4 Z ?_));obtain rfl:=qa F;replace F:=a;exact rb h F Z
   refine X1 6 1 h Z (qf Z F ?_ ?_)<;>intro F
   ·refine X0 4 Z ?_;obtain rfl:=qa F;replace F:=a;exact rb h F Z
   refine X0 6 Z ?_;replace h:=h.p [2] Z;exact rK ⟨_,_,_,_,_,_,F,rfl,h⟩ Z
  refine X1 6 1 h Z (qg (t:=38) F Z ?_ ?_)<;>intro F
  ·refine X0 6 Z (qc3 Z Z (X0 4 Z ?_));obtain rfl:=qa F;replace F:=a;exact rb h F Z
  refine X1 5 1 h Z (zcB h F qQ Z fun _ _ h F=>X0 4 Z (qf Z F ?_ ?_))<;>intro F
  ·refine X0 4 Z ?_;obtain rfl:=qa F;replace F:=a;exact rb h F Z
  refine X0 6 Z ?_;replace h:=h.p [2] Z;exact rK ⟨_,_,_,_,_,_,F,rfl,h⟩ Z
 refine qq Z ?_;obtain rfl:=qa F;replace F:=a;refine X0 3 Z (zcI h F (qeP ⟨_,_,rfl,(h.oldS z)⟩) Z fun _ _ h F=>zcB h F qQ Z fun _ _ h F=>zp1 Z (qg (t:=48) F Z ?_ ?_))<;>intro F
 ·exact X0 3 Z (zcB h F (qc7 (h.own 0 Z)) Z fun _ _ h F=>X0 3 Z (rb h F Z))
 exact X0 5 Z (rb h F Z)
def qcn(n:Nat)(c:qn):Option Int:=(qa5 n c.Ak).bind fun a=>U (W64 (a-1))
theorem qew{c:qn}(a:Ro w c cs1){r:Int}(F:qcn n c=U r):RetV prog 218 [oV qn cs1] w r:=by
 obtain⟨_,_,_,_,_,_,rfl,b,_,_⟩:=qF a;exact zV 7 func218 Z fun h=>zSR (qr h Z Z fun _ _ h=>X1 6 0 h Z (zcI h F (qeP ⟨_,_,rfl,(h.oldS b)⟩) Z fun _ _ h F=>X0 3 Z (ri h F Z)))
def qf8(_:Nat)(kind:Int):Option Bool:=bif (kind==4) then U true else U (kind==5)
theorem qkc{kind}  {r:Bool}(F:qf8 n kind=U r):RetV prog 246 [vi kind] w r:=by
 refine zV 9 func246 Z fun h=>X0 9 Z (qg (t:=5) F Z ?_ ?_)<;>intro F
 ·exact X0 5 Z (rb h F Z)
 exact X0 7 Z (rb h F Z)
def qei(n:Nat)(d:Int)(b:Int)(c:Int):Option Bool:=(qY n d b c).bind fun a=>U (!a)
theorem qix{a_n l m i}(a:Ro w (U l) [.pointer i]){k}(b:Ro w (U m) [.pointer k]){r:Bool}(F:qei n a_n l m=U r):RetV prog 123 [vi a_n,.pointer i,.pointer k] w r:=by
 obtain⟨_,o,_,rfl,-,f,c⟩:=PtR.get a Z;obtain rfl:=f;obtain⟨_,p,_,rfl,-,g,d⟩:=PtR.get b Z;obtain rfl:=g;exact zV 10 func123 Z fun h=>X0 7 Z (zc 0 (c.below h.below) Z (zc 0 (d.below h.below) Z (zcB h F qQ Z fun _ _ h F=>X0 3 Z (rb h F Z))))
def qB(s:(List Int))(a:Int)(b:Int):Nat->Int->Option (Flow Int Int)|0,_=>G|n+1,c=>bif decide (c<(s.length:Int)) then(idx s c).bind fun f=>(qei n f a b).bind fun d=>bif d then U (.ret c) else qB s a b n (W64 (c+1)) else U (.nxt c)
def qaa(n:Nat)(s:(List Int))(a:Int)(b:Int):Option Int:=(qB s a b n 0).bind fun|.ret r=>U r|.nxt _=>U (-1)
theorem qdv{s:(List Int)}{a b}(g:Ro w s cs1){z}(d:Ro w (U a) [.pointer z]){A}(f:Ro w (U b) [.pointer A]){r:Int}(F:qaa n s a b=U r):RetV prog 155 [oV (List Int) cs1,.func (.func 123) #[] #[.pointer z,.pointer A]] w r:=by
 obtain⟨I,D,rfl,J⟩:=g;obtain⟨B,v,_,rfl,-,p,_⟩:=PtR.get d Z;obtain rfl:=p;obtain⟨C,x,_,rfl,-,t,_⟩:=PtR.get f Z;obtain rfl:=t;refine zV 19 func155 Z fun h=>X0 11 Z ?_;obtain⟨H,F,c⟩:=qe F;refine ql (rL (fun m e w'=>∃u,qB s a b m u=U H/\e=[(0,oS I s.length D),(1,.func (.func 123) #[] #[.pointer (U ⟨B,v,G⟩),.pointer (U ⟨C,x,G⟩)]),(7,vi (s.length:Int)),(8,vi u)]/\SH w w' []) n ⟨_,F,rfl,h⟩ Z ?_);rintro y _ _ ⟨u,F,rfl,h⟩;rcases y with _|y
 ·cases F
 refine X0 5 Z (qf Z F ?_ ?_)<;>intro F
 ·refine X0 13 Z ?_;obtain⟨_,_,F,k,_,_,_,_,l,o,rfl,i⟩:=J.ix F;refine zxe l o k Z (zc 0 (i.below h.below) Z (zcB h F (qix (h.old d) (h.old f)) Z fun _ _ h F=>qdH (qf Z F ?_ ?_)))<;>intro F
  ·refine X0 5 Z ?_;obtain rfl:=qa F;replace F:=c;exact ri h F Z
  exact X0 6 Z (rK ⟨_,F,rfl,h⟩ Z)
 refine qq Z ?_;obtain rfl:=qa F;replace F:=c;exact X0 4 Z (ri h F Z)
def qaE(n:Nat)(s:(List Int))(a:Int)(b:Int):Option Bool:=(qaa n s a b).bind fun c=>U (decide (c>=0))
theorem qc1{s:(List Int)}{a b}(f:Ro w s cs1){k}(c:Ro w (U a) [.pointer k]){l}(d:Ro w (U b) [.pointer l]){r:Bool}(F:qaE n s a b=U r):RetV prog 122 [oV (List Int) cs1,.func (.func 123) #[] #[.pointer k,.pointer l]] w r:=by
 obtain⟨_,_,rfl,p⟩:=f;obtain⟨_,m,_,rfl,-,g,_⟩:=PtR.get c Z;obtain rfl:=g;obtain⟨_,o,_,rfl,-,i,_⟩:=PtR.get d Z;obtain rfl:=i;exact zV 9 func122 Z fun h=>X0 8 Z (zcI h F (qdv ⟨_,_,rfl,(h.oldS p)⟩ (h.old c) (h.old d)) Z fun _ _ h F=>X0 3 Z (rb h F Z))
def qaU(n:Nat)(list:(List Int))(c:Int)(b:Int):Option Bool:=(qaE n list c b).bind fun a=>U (!a)
theorem qbe{list:(List Int)}{low high}(a:Ro w list cs1){r:Bool}(F:qaU n list low high=U r):RetV prog 76 [oV (List Int) cs1,vi low,vi high] w r:=by
 obtain⟨_,_,rfl,b⟩:=a;exact zV 11 func76 Z fun h=>zSR (qr h Z Z fun _ _ h=>qr h Z Z fun _ _ h=>X0 6 Z (zcB h F (qc1 ⟨_,_,rfl,(h.oldS b)⟩ (qhf (x:=low) 1 h Z Z) (qhf (x:=high) 0 h Z Z)) Z fun _ _ h F=>X0 3 Z (rb h F Z)))
def qaz(_:Nat)(list:(List Int)):Option Int:=U (list.length:Int)
theorem qa6{list:(List Int)}(a:Ro w list cs1){r:Int}(F:qaz n list=U r):RetV prog 73 [oV (List Int) cs1] w r:=by
 obtain⟨_,_,rfl,_⟩:=a;exact zV 5 func73 Z fun h=>X0 10 Z (ri h F Z)
def qaC(list:(List Int)):Nat->Int->Option (Flow Bool Int)|0,_=>G|n+1,a=>bif decide (a<(list.length:Int)) then(idx list (W64 (a-1))).bind fun b=>(idx list a).bind fun c=>bif decide (b>=c) then U (.ret false) else qaC list n (W64 (a+1)) else U (.nxt a)
def qbU(n:Nat)(list:(List Int)):Option Bool:=(qaC list n 1).bind fun|.ret r=>U r|.nxt _=>U true
theorem qd3{list:(List Int)}(b:Ro w list cs1){r:Bool}(F:qbU n list=U r):RetV prog 79 [oV (List Int) cs1] w r:=by
 obtain⟨x,u,rfl,t⟩:=b;refine zV 20 func79 Z fun h=>X0 9 Z ?_;obtain⟨v,F,a⟩:=qe F;refine ql (rL (fun m e w'=>∃p,qaC list m p=U v/\e=[(0,oS x list.length u),(3,vi p)]/\SH w w' []) n ⟨_,F,rfl,h⟩ Z ?_);rintro s _ _ ⟨p,F,rfl,h⟩;rcases s with _|s
 ·cases F
 refine X0 8 Z (qf Z F ?_ ?_)<;>intro F
 ·refine X0 4 Z (rD (zd3 Z ?_));obtain⟨_,_,F,f,_,_,_,_,i,l,rfl,c⟩:=t.ix F;refine zdxe i l f Z (zdc 0 (c.below h.below) Z (zd2 Z ?_));obtain⟨_,_,F,g,_,_,_,_,k,o,rfl,d⟩:=t.ix F;refine zdxe k o g Z (zdc 0 (d.below h.below) Z (zd1 Z (dN h fun _ h=>qf Z F ?_ ?_)))<;>intro F
  ·refine X0 4 Z ?_;obtain rfl:=qa F;replace F:=a;exact rb h F Z
  exact X0 7 Z (rK ⟨_,F,rfl,h⟩ Z)
 refine qq Z ?_;obtain rfl:=qa F;replace F:=a;exact X0 4 Z (rb h F Z)
def qfK(n:Nat)(list:(List Int)):Option Bool:=(qaz n list).bind fun a=>(qY n a 1 4).bind fun b=>bif b then(qaU n list 0 100000).bind fun c=>bif c then(qbU n list).bind fun d=>U d else U false else U false
theorem qia{list:(List Int)}(a:Ro w list cs1){r:Bool}(F:qfK n list=U r):RetV prog 273 [oV (List Int) cs1] w r:=by
 obtain⟨_,_,rfl,b⟩:=a;refine zV 14 func273 Z fun h=>X0 7 Z (zcI h F (qa6 ⟨_,_,rfl,(h.oldS b)⟩) Z fun _ _ h F=>zcB h F qQ Z fun _ _ h F=>zp1 Z (qg (t:=6) F Z ?_ ?_))<;>intro F
 ·refine X0 3 Z (zcB h F (qbe ⟨_,_,rfl,(h.oldS b)⟩) Z fun _ _ h F=>zp2 Z (qg (t:=10) F Z ?_ ?_))<;>intro F
  ·exact X0 3 Z (zcB h F (qd3 ⟨_,_,rfl,(h.oldS b)⟩) Z fun _ _ h F=>X0 3 Z (rb h F Z))
  exact X0 5 Z (rb h F Z)
 exact X0 9 Z (rb h F Z)
def qf4(n:Nat)(t:qp):Option Bool:=(qfK n t.Bb).bind fun a=>bif a then(qfK n t.Ba).bind fun b=>bif b then bif ((t.As.length:Int)==(W64 ((t.Bb.length:Int)*(t.Ba.length:Int)))) then(qaU n t.As (-1000000) 1000000).bind fun c=>U c else U false else U false else U false
theorem qjU{t:qp}(a:Ro w t cs1){r:Bool}(F:qf4 n t=U r):RetV prog 264 [oV qp cs1] w r:=by
 obtain⟨_,_,_,_,_,_,rfl,b,c,d⟩:=qaH a;refine zV 29 func264 Z fun h=>zSR (qr h Z Z fun _ _ h=>X1 6 0 h Z (zcB h F (qia ⟨_,_,rfl,(h.oldS b)⟩) Z fun _ _ h F=>zp1 Z (qg (t:=6) F Z ?_ ?_)))<;>intro F
 ·refine X1 5 0 h Z (zcB h F (qia ⟨_,_,rfl,(h.oldS c)⟩) Z fun _ _ h F=>zp2 Z (qg (t:=11) F Z ?_ ?_))<;>intro F
  ·refine X3 24 0 0 0 h Z (qg (t:=24) F Z ?_ ?_)<;>intro F
   ·exact X1 5 0 h Z (zcB h F (qbe ⟨_,_,rfl,(h.oldS d)⟩) Z fun _ _ h F=>X0 3 Z (rb h F Z))
   exact X0 6 Z (rb h F Z)
  exact X0 19 Z (rb h F Z)
 exact X0 24 Z (rb h F Z)
def qbs(x:(List Int)):Nat->Int->Int->Option (Int×Int)|0,_,_=>G|n+1,b,a=>bif decide (a<(x.length:Int)) then(idx x a).bind fun c=>qbs x n (if c<b then c else b) (W64 (a+1)) else U (b,a)
def qeo(n:Nat)(x:(List Int)):Option Int:=(bif decide ((x.length:Int)<1) then G else U ()).bind fun _=>(idx x 0).bind fun b=>(qbs x n b 1).bind fun(a,_)=>U a
theorem qiu{x:(List Int)}(f:Ro w x cs1){r:Int}(F:qeo n x=U r):RetV prog 265 [oV (List Int) cs1] w r:=by
 obtain⟨A,y,rfl,B⟩:=f;refine zV 25 func265 Z fun h=>X0 11 Z ?_;obtain⟨b,a,_,F,d⟩:=bindE F;refine qcX (fun e w'=>b ()=U r/\e=[(0,oS A x.length y)]/\SH w w' []) ?_ ?_
 ·refine qf Z F ?_ ?_<;>intro F
  ·refine qhd ?_;cases F
  refine qe3 ?_;obtain rfl:=qa F;exact rG ⟨d,rfl,h⟩ Z
 rintro _ _ ⟨F,rfl,h⟩;subst a;refine X0 3 Z ?_;obtain⟨_,_,F,k,_,_,_,_,o,s,rfl,g⟩:=B.ix F;refine zxe o s k Z (zc 0 (g.below h.below) Z (X0 7 Z ?_));obtain⟨C,F,c⟩:=qe F;refine ql (rL (fun m e w'=>∃u v,qbs x m u v=U C/\e=[(0,oS A x.length y),(3,vi u),(4,vi v)]/\SH w w' []) n ⟨_,_,F,rfl,h⟩ Z ?_);rintro z _ _ ⟨u,v,F,rfl,h⟩;rcases z with _|z
 ·cases F
 refine X0 8 Z (qf Z F ?_ ?_)<;>intro F
 ·refine X0 7 Z ?_;obtain⟨_,_,F,l,_,_,_,_,p,t,rfl,i⟩:=B.ix F;exact zxe p t l Z (zc 0 (i.below h.below) Z (X0 9 Z (rK ⟨_,_,F,rfl,h⟩ Z)))
 refine qq Z ?_;obtain rfl:=qa F;replace F:=c;exact X0 5 Z (ri h F Z)
def qes(n:Nat)(t:qp)(c:Bool):Option Bool:=(qf4 n t).bind fun a=>bif (!a) then U true else bif c then(qeo n t.As).bind fun b=>U (decide (b<0)) else U false
theorem qiB{t:qp}{g}(a:Ro w t cs1){f}(b:Ro w (U g) [.pointer f]){r:Bool}(F:qes n t g=U r):RetV prog 263 [oV qp cs1,.pointer f] w r:=by
 obtain⟨_,_,_,_,_,_,rfl,_,_,k⟩:=qaH a;obtain⟨_,i,_,rfl,-,d,c⟩:=PtR.get b Z;obtain rfl:=d;refine zV 16 func263 Z fun h=>zSR (qr h Z Z fun _ _ h=>X1 5 0 h Z (zcB h F (qjU (h.old a)) Z fun _ _ h F=>zp2 Z (qg (t:=7) F Z ?_ ?_)))<;>intro F
 ·exact X0 10 Z (rb h F Z)
 refine X0 1 Z (zc 0 (c.below h.below) Z (X0 2 Z (qg (t:=9) F Z ?_ ?_)))<;>intro F
 ·exact X1 5 0 h Z (zcI h F (qiu ⟨_,_,rfl,(h.oldS k)⟩) Z fun _ _ h F=>X0 7 Z (rb h F Z))
 exact X0 9 Z (rb h F Z)
def qv(s:(List qp))(a:Bool):Nat->Int->Option (Flow Int Int)|0,_=>G|n+1,b=>bif decide (b<(s.length:Int)) then(idx s b).bind fun d=>(qes n d a).bind fun c=>bif c then U (.ret b) else qv s a n (W64 (b+1)) else U (.nxt b)
def qS(n:Nat)(s:(List qp))(a:Bool):Option Int:=(qv s a n 0).bind fun|.ret r=>U r|.nxt _=>U (-1)
theorem qcS{s:(List qp)}{a}(d:Ro w s cs1){v}(c:Ro w (U a) [.pointer v]){r:Int}(F:qS n s a=U r):RetV prog 272 [oV (List qp) cs1,.func (.func 263) #[] #[.pointer v]] w r:=by
 obtain⟨A,y,rfl,B⟩:=d;obtain⟨x,t,_,rfl,-,l,_⟩:=PtR.get c Z;obtain rfl:=l;refine zV 19 func272 Z fun h=>X0 11 Z ?_;obtain⟨z,F,b⟩:=qe F;refine ql (rL (fun m e w'=>∃p,qv s a m p=U z/\e=[(0,oS A s.length y),(1,.func (.func 263) #[] #[.pointer (U ⟨x,t,G⟩)]),(7,vi (s.length:Int)),(8,vi p)]/\SH w w' []) n ⟨_,F,rfl,h⟩ Z ?_);rintro u _ _ ⟨p,F,rfl,h⟩;rcases u with _|u
 ·cases F
 refine X0 5 Z (qf Z F ?_ ?_)<;>intro F
 ·refine X0 13 Z ?_;obtain⟨I,_,F,g,_,_,_,_,i,k,o,f⟩:=B.ix F;obtain⟨_,_,_,_,_,_,rfl,C,D,H⟩:=qaH o;refine zxe i k g Z (zc 0 (f.below h.below) Z (zcB h F (qiB (qfl I (h.oldS C) (h.oldS D) (h.oldS H)) (h.old c)) Z fun _ _ h F=>qdH (qf Z F ?_ ?_)))<;>intro F
  ·refine X0 5 Z ?_;obtain rfl:=qa F;replace F:=b;exact ri h F Z
  exact X0 6 Z (rK ⟨_,F,rfl,h⟩ Z)
 refine qq Z ?_;obtain rfl:=qa F;replace F:=b;exact X0 4 Z (ri h F Z)
def qal(n:Nat)(s:(List qp))(a:Bool):Option Bool:=(qS n s a).bind fun b=>U (decide (b>=0))
theorem qcr{s:(List qp)}{a}(c:Ro w s cs1){f}(b:Ro w (U a) [.pointer f]){r:Bool}(F:qal n s a=U r):RetV prog 262 [oV (List qp) cs1,.func (.func 263) #[] #[.pointer f]] w r:=by
 obtain⟨_,_,rfl,i⟩:=c;obtain⟨_,g,_,rfl,-,d,_⟩:=PtR.get b Z;obtain rfl:=d;exact zV 9 func262 Z fun h=>X0 8 Z (zcI h F (qcS ⟨_,_,rfl,(h.oldS i)⟩ (h.old b)) Z fun _ _ h F=>X0 3 Z (rb h F Z))
def qdb(n:Nat)(list:(List qp))(b:Bool):Option Bool:=bif ((list.length:Int)==2) then(qal n list b).bind fun a=>U (!a) else U false
theorem qeS{list:(List qp)}{positive}(a:Ro w list cs1){r:Bool}(F:qdb n list positive=U r):RetV prog 247 [oV (List qp) cs1,.bool positive] w r:=by
 obtain⟨_,_,rfl,b⟩:=a;refine zV 14 func247 Z fun h=>zSR (qr h Z Z fun _ _ h=>X0 8 Z (qg (t:=8) F Z ?_ ?_))<;>intro F
 ·exact X0 5 Z (zcB h F (qcr ⟨_,_,rfl,(h.oldS b)⟩ (qhf (x:=positive) 0 h Z Z)) Z fun _ _ h F=>X0 5 Z (rb h F Z))
 exact X0 7 Z (rb h F Z)
def qfj(_:Nat)(p:qN):Option Bool:=U p.Ay
theorem qif{p:qN}(a:Ro w p cs1){r:Bool}(F:qfj n p=U r):RetV prog 267 [oV qN cs1] w r:=by
 obtain rfl:=qav a;exact zV 5 func267 Z fun h=>zSR (qr h Z Z fun _ _ h=>X1 8 0 h Z (rb h F Z))
def qw(s:(List qN)):Nat->Int->Option (Flow Int Int)|0,_=>G|n+1,a=>bif decide (a<(s.length:Int)) then(idx s a).bind fun c=>(qfj n c).bind fun b=>bif b then U (.ret a) else qw s n (W64 (a+1)) else U (.nxt a)
def qaB(n:Nat)(s:(List qN)):Option Int:=(qw s n 0).bind fun|.ret r=>U r|.nxt _=>U (-1)
theorem qc0{s:(List qN)}(b:Ro w s cs1){r:Int}(F:qaB n s=U r):RetV prog 266 [oV (List qN) cs1,.func (.func 267) #[] #[]] w r:=by
 obtain⟨t,o,rfl,u⟩:=b;refine zV 19 func266 Z fun h=>X0 11 Z ?_;obtain⟨p,F,a⟩:=qe F;refine ql (rL (fun m e w'=>∃k,qw s m k=U p/\e=[(0,oS t s.length o),(1,.func (.func 267) #[] #[]),(7,vi (s.length:Int)),(8,vi k)]/\SH w w' []) n ⟨_,F,rfl,h⟩ Z ?_);rintro l _ _ ⟨k,F,rfl,h⟩;rcases l with _|l
 ·cases F
 refine X0 5 Z (qf Z F ?_ ?_)<;>intro F
 ·refine X0 13 Z ?_;obtain⟨v,_,F,d,_,_,_,_,f,g,i,c⟩:=u.ix F;obtain rfl:=qav i;refine zxe f g d Z (zc 0 (c.below h.below) Z (zcB h F (qif (qfN v)) Z fun _ _ h F=>qdH (qf Z F ?_ ?_)))<;>intro F
  ·refine X0 5 Z ?_;obtain rfl:=qa F;replace F:=a;exact ri h F Z
  exact X0 6 Z (rK ⟨_,F,rfl,h⟩ Z)
 refine qq Z ?_;obtain rfl:=qa F;replace F:=a;exact X0 4 Z (ri h F Z)
def qeH(n:Nat)(c:qn):Option Int:=(qaB n c.Ak).bind fun a=>U a
theorem qiJ{c:qn}(a:Ro w c cs1){r:Int}(F:qeH n c=U r):RetV prog 248 [oV qn cs1] w r:=by
 obtain⟨_,_,_,_,_,_,rfl,b,_,_⟩:=qF a;exact zV 6 func248 Z fun h=>zSR (qr h Z Z fun _ _ h=>X1 6 0 h Z (zcI h F (qc0 ⟨_,_,rfl,(h.oldS b)⟩) Z fun _ _ h F=>X0 2 Z (ri h F Z)))
def qdX(n:Nat)(c:qn)(pin:Int):Option Bool:=(qcn n c).bind fun a=>(qY n pin 0 (W64 (a-1))).bind fun b=>U b
theorem qfH{c:qn}{pin}(a:Ro w c cs1){r:Bool}(F:qdX n c pin=U r):RetV prog 249 [oV qn cs1,vi pin] w r:=by
 obtain⟨_,_,_,_,_,_,rfl,_,_,_⟩:=qF a;exact zV 10 func249 Z fun h=>zSR (qr h Z Z fun _ _ h=>X1 6 0 h Z (zcI h F (qew (h.old a)) Z fun _ _ h F=>zp1 Z (zcB h F qQ Z fun _ _ h F=>X0 2 Z (rb h F Z))))
def qeI(n:Nat)(b:qn)(a:qH):Option Bool:=(qf8 n a.Ap).bind fun g=>bif g then(bif (a.Bg==0) then bif ((a.Bk.length:Int)==0) then(qdb n a.Be false).bind fun h=>bif h then(qeH n b).bind fun i=>bif (a.Av==i) then bif decide (a.Av>=0) then(qdX n b a.To).bind fun k=>bif k then U (a.To != a.Av) else U false else U false else U false else U false else U false else U false).bind fun c=>U c else((qdb n a.Be true).bind fun m=>bif (!m) then U true else(qdb n a.Bk true).bind fun o=>bif (!o) then U true else(qcn n b).bind fun p=>bif (a.To != p) then U true else(qdX n b a.Av).bind fun r=>U (!r)).bind fun d=>bif d then U false else bif (a.Ap==1) then(idx b.Ak a.Av).bind fun s=>bif (!s.Ay) then(qY n a.Bg 1 3).bind fun l=>U l else U false else(bif (a.Ap==2) then U (a.Ap==2) else U (a.Ap==3)).bind fun f=>bif f then(idx b.Ak a.Av).bind fun t=>bif t.Ay then U (a.Bg==0) else U false else U false
theorem qiK{c:qn}{d:qH}(b:Ro w c cs1)(B:Ro w d cs2){r:Bool}(F:qeI n c d=U r):RetV prog 215 [oV qn cs1,oV qH cs2] w r:=by
 obtain⟨p1,W,p2,X,p3,k3,rfl,s1,_,_⟩:=qF b;obtain⟨p4,k4,p5,k5,rfl,s4,s5⟩:=qV B;refine zV 103 func215 Z fun h=>zSR (qr h Z Z fun _ f h=>qr h Z Z fun _ g h=>X1 7 0 h Z (zcB h F qkc Z fun _ _ h F=>qdH (qf Z F ?_ ?_)))<;>intro F
 ·refine qeu ?_;obtain⟨u,l,_,F,a⟩:=bindE F;refine qcX (fun e w'=>∃y,u y=U r/\e=[(4,.bool y)]/\SH w w' []) ?_ ?_
  ·refine rD (Y1 2 0 h Z ?_);refine zd2 Z (qaW (t:=11) F Z ?_ ?_)<;>intro F
   ·refine Y1 4 0 h Z ?_;refine Y0 6 Z (qaW (t:=17) F Z ?_ ?_)<;>intro F
    ·refine Y1 4 0 h Z ?_;refine Y0 1 Z ?_;obtain⟨r2,N,F⟩:=qe F;refine qa3 r2 (vsB _) (cB 247 Z) (fun _ hb=>qeS ⟨_,_,rfl,((h.ext hb).oldS s4)⟩ N) Z Z Z Z (zd2 Z (qaW (t:=22) F Z ?_ ?_))<;>intro F
     ·refine Y1 4 0 h Z ?_;refine Y1 2 1 h Z ?_;refine Y0 1 Z ?_;obtain⟨r3,O,F⟩:=qe F;refine qa3 r3 (vsI _) (cB 248 Z) (fun _ hb=>qiJ ((h.ext hb).old b) O) Z Z Z Z (Y0 4 Z (qaW (t:=29) F Z ?_ ?_))<;>intro F
      ·refine Y1 4 0 h Z ?_;refine Y0 4 Z (qaW (t:=34) F Z ?_ ?_)<;>intro F
       ·refine Y1 2 1 h Z ?_;refine Y1 4 0 h Z ?_;refine Y0 1 Z ?_;obtain⟨r4,P,F⟩:=qe F;refine qa3 r4 (vsB _) (cB 249 Z) (fun _ hb=>qfH ((h.ext hb).old b) P) Z Z Z Z (zd2 Z (qaW (t:=40) F Z ?_ ?_))<;>intro F
        ·refine Y1 4 0 h Z ?_;refine Y1 4 0 h Z ?_;refine Y0 4 Z (dN h fun _ h=>?_);replace h:=h.p [] Z;obtain rfl:=qa F;exact rG ⟨_,a,rfl,h⟩ Z
        refine Y0 7 Z (dN h fun _ h=>?_);replace h:=h.p [] Z;obtain rfl:=qa F;exact rG ⟨_,a,rfl,h⟩ Z
       refine Y0 13 Z (dN h fun _ h=>?_);replace h:=h.p [] Z;obtain rfl:=qa F;exact rG ⟨_,a,rfl,h⟩ Z
      refine Y0 18 Z (dN h fun _ h=>?_);replace h:=h.p [] Z;obtain rfl:=qa F;exact rG ⟨_,a,rfl,h⟩ Z
     refine Y0 25 Z (dN h fun _ h=>?_);replace h:=h.p [] Z;obtain rfl:=qa F;exact rG ⟨_,a,rfl,h⟩ Z
    refine Y0 30 Z (dN h fun _ h=>?_);replace h:=h.p [] Z;obtain rfl:=qa F;exact rG ⟨_,a,rfl,h⟩ Z
   refine Y0 36 Z (dN h fun _ h=>?_);replace h:=h.p [] Z;obtain rfl:=qa F;exact rG ⟨_,a,rfl,h⟩ Z
  rintro _ _ ⟨y,F,rfl,h⟩;subst l;exact rb h F Z
 refine zKSS ?_;obtain⟨x,o,_,F,i⟩:=bindE F;refine qcX (fun e w'=>∃z,x z=U r/\e=[(2,vp f),(3,vp g),(70,.bool z)]/\SH w w' [oX g (qhD d p4 p5 k4 k5) 183,oX f (qcb c p1 p2 p3 W X k3) 169]) ?_ ?_
 ·refine rD (Y1 2 0 h Z ?_);obtain⟨r6,S,F⟩:=qe F;refine qa3 r6 (vsB _) (cB 247 Z) (fun _ hb=>qeS ⟨_,_,rfl,((h.ext hb).oldS s4)⟩ S) Z Z Z Z (zd2 Z (qaW (t:=51) F Z ?_ ?_))<;>intro F
  ·refine Y0 19 Z (dN h fun _ h=>?_);obtain rfl:=qa F;exact rG ⟨_,i,rfl,h⟩ Z
  refine Y1 4 0 h Z ?_;refine Y0 1 Z ?_;obtain⟨r7,T,F⟩:=qe F;refine qa3 r7 (vsB _) (cB 247 Z) (fun _ hb=>qeS ⟨_,_,rfl,((h.ext hb).oldS s5)⟩ T) Z Z Z Z (Y0 4 Z (qaW (t:=57) F Z ?_ ?_))<;>intro F
  ·refine Y0 13 Z (dN h fun _ h=>?_);obtain rfl:=qa F;exact rG ⟨_,i,rfl,h⟩ Z
  refine Y1 4 0 h Z ?_;refine Y1 2 1 h Z ?_;refine Y0 1 Z ?_;obtain⟨r8,p,F⟩:=qe F;refine qa3 r8 (vsI _) (cB 218 Z) (fun _ hb=>qew ((h.ext hb).old b) p) Z Z Z Z (Y0 4 Z (qaW (t:=64) F Z ?_ ?_))<;>intro F
  ·refine Y0 6 Z (dN h fun _ h=>?_);obtain rfl:=qa F;exact rG ⟨_,i,rfl,h⟩ Z
  refine Y1 2 1 h Z ?_;refine Y1 4 0 h Z ?_;refine Y0 1 Z ?_;obtain⟨r9,s,F⟩:=qe F;refine qa3 r9 (vsB _) (cB 249 Z) (fun _ hb=>qfH ((h.ext hb).old b) s) Z Z Z Z (Y0 3 Z (dN h fun _ h=>?_));obtain rfl:=qa F;exact rG ⟨_,i,rfl,h⟩ Z
 rintro _ _ ⟨z,F,rfl,h⟩;subst o;refine qf Z F ?_ ?_<;>intro F
 ·exact X0 4 Z (rb h F Z)
 refine X1 13 0 h Z (qf Z F ?_ ?_)<;>intro F
 ·refine X2 6 1 0 h Z ?_;obtain⟨_,_,F,H,_,_,_,_,J,L,Q,C⟩:=s1.ix F;obtain rfl:=qav Q;refine zxe J L H Z (zp1 Z (zc 3 (C.below h.below) Z (zp2 Z (qg (t:=83) F Z ?_ ?_))))<;>intro F
  ·exact X1 5 0 h Z (zcB h F qQ Z fun _ _ h F=>X0 3 Z (rb h F Z))
  exact X0 6 Z (rb h F Z)
 refine X0 6 Z ?_;obtain⟨v,m,_,F,k⟩:=bindE F;refine qcX (fun e w'=>∃A,v A=U r/\e=[(2,vp f),(3,vp g),(88,.bool A)]/\SH w w' [oX g (qhD d p4 p5 k4 k5) 183,oX f (qcb c p1 p2 p3 W X k3) 169]) ?_ ?_
 ·refine qf Z F ?_ ?_<;>intro F
  ·refine qe3 ?_;obtain rfl:=qa F;exact rG ⟨_,k,rfl,h⟩ Z
  refine X0 4 Z ?_;obtain rfl:=qa F;exact rG ⟨_,k,rfl,h⟩ Z
 rintro _ _ ⟨A,F,rfl,h⟩;subst m;refine qf Z F ?_ ?_<;>intro F
 ·refine X2 6 1 0 h Z ?_;obtain⟨_,_,F,I,_,_,_,_,K,M,R,D⟩:=s1.ix F;obtain rfl:=qav R;refine zxe K M I Z (zp1 Z (zc 3 (D.below h.below) Z (zp1 Z (qg (t:=98) F Z ?_ ?_))))<;>intro F
  ·exact X1 9 0 h Z (rb h F Z)
  exact X0 6 Z (rb h F Z)
 exact X0 6 Z (rb h F Z)
def qc4(_:Nat)(b:qH)(a:qH):Option Bool:=bif (b.Ap==a.Ap) then bif (b.Av==a.Av) then U (b.To==a.To) else U false else U false
theorem qhu{k:qH}{g:qH}(b:Ro w k cs1){f}(c:Ro w (U g) [.pointer f]){r:Bool}(F:qc4 n k g=U r):RetV prog 217 [oV qH cs1,.pointer f] w r:=by
 obtain⟨_,_,_,_,rfl,_,_⟩:=qV b;obtain⟨_,i,_,rfl,-,d,a⟩:=PtR.get c Z;obtain⟨_,_,_,_,rfl,_,_⟩:=qV d;refine zV 23 func217 Z fun h=>zSR (qr h Z Z fun _ _ h=>X1 7 0 h Z (zc 0 (a.below h.below) Z (zp2 Z (qg (t:=9) F Z ?_ ?_))))<;>intro F
 ·refine X1 7 0 h Z (zc 1 (a.below h.below) Z (X0 4 Z (qg (t:=16) F Z ?_ ?_)))<;>intro F
  ·exact X1 7 0 h Z (zc 2 (a.below h.below) Z (X0 5 Z (rb h F Z)))
  exact X0 8 Z (rb h F Z)
 exact X0 15 Z (rb h F Z)
def qu(s:(List qH))(a:qH):Nat->Int->Option (Flow Int Int)|0,_=>G|n+1,b=>bif decide (b<(s.length:Int)) then(idx s b).bind fun d=>(qc4 n d a).bind fun c=>bif c then U (.ret b) else qu s a n (W64 (b+1)) else U (.nxt b)
def qaq(n:Nat)(s:(List qH))(a:qH):Option Int:=(qu s a n 0).bind fun|.ret r=>U r|.nxt _=>U (-1)
theorem qcz{s:(List qH)}{a:qH}(d:Ro w s cs1){v}(c:Ro w (U a) [.pointer v]){r:Int}(F:qaq n s a=U r):RetV prog 250 [oV (List qH) cs1,.func (.func 217) #[] #[.pointer v]] w r:=by
 obtain⟨A,y,rfl,B⟩:=d;obtain⟨x,t,_,rfl,-,l,_⟩:=PtR.get c Z;obtain⟨_,_,_,_,rfl,_,_⟩:=qV l;refine zV 19 func250 Z fun h=>X0 11 Z ?_;obtain⟨z,F,b⟩:=qe F;refine ql (rL (fun m e w'=>∃p,qu s a m p=U z/\e=[(0,oS A s.length y),(1,.func (.func 217) #[] #[.pointer (U ⟨x,t,G⟩)]),(7,vi (s.length:Int)),(8,vi p)]/\SH w w' []) n ⟨_,F,rfl,h⟩ Z ?_);rintro u _ _ ⟨p,F,rfl,h⟩;rcases u with _|u
 ·cases F
 refine X0 5 Z (qf Z F ?_ ?_)<;>intro F
 ·refine X0 13 Z ?_;obtain⟨H,_,F,g,_,_,_,_,i,k,o,f⟩:=B.ix F;obtain⟨_,_,_,_,rfl,C,D⟩:=qV o;refine zxe i k g Z (zc 0 (f.below h.below) Z (zcB h F (qhu (qeF H (h.oldS C) (h.oldS D)) (h.old c)) Z fun _ _ h F=>qdH (qf Z F ?_ ?_)))<;>intro F
  ·refine X0 5 Z ?_;obtain rfl:=qa F;replace F:=b;exact ri h F Z
  exact X0 6 Z (rK ⟨_,F,rfl,h⟩ Z)
 refine qq Z ?_;obtain rfl:=qa F;replace F:=b;exact X0 4 Z (ri h F Z)
def qL(n:Nat)(s:(List qH))(a:qH):Option Bool:=(qaq n s a).bind fun b=>U (decide (b>=0))
theorem qcj{s:(List qH)}{a:qH}(c:Ro w s cs1){f}(b:Ro w (U a) [.pointer f]){r:Bool}(F:qL n s a=U r):RetV prog 216 [oV (List qH) cs1,.func (.func 217) #[] #[.pointer f]] w r:=by
 obtain⟨_,_,rfl,i⟩:=c;obtain⟨_,g,_,rfl,-,d,_⟩:=PtR.get b Z;obtain⟨_,_,_,_,rfl,_,_⟩:=qV d;exact zV 9 func216 Z fun h=>X0 8 Z (zcI h F (qcz ⟨_,_,rfl,(h.oldS i)⟩ (h.old b)) Z fun _ _ h F=>X0 3 Z (rb h F Z))
end Go.Fw
