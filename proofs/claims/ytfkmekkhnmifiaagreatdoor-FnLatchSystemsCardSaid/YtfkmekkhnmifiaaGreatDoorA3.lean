/- Calls that hand out parts of memory one by one: what is owned stays apart. -/
import Derived.Test.YtfkmekkhnmifiaaGreatDoorFw38
import Derived.Sort.Grow
import Derived.Lib.SlicesCompact
import Derived.Laws.StructEq
import Derived.Test.YtfkmekkhnmifiaaGreatDoorChecked
import Derived.Test.YtfkmekkhnmifiaaGreatDoorS1
open Option renaming some->V, none->U
open Nat renaming le_of_ble_eq_true->jq, lt_of_lt_of_le->jv, le_trans->Jf
open Bool renaming and_eq_true->jf, not_eq_true'->jC
open List renaming length_append->jg, mem_of_getElem?->jw, not_mem_nil->jz, length_cons->jA, mem_cons->jI, mem_append_left->jM, length_nil->jU, mem_append_right->jZ
open Array renaming getElem?_append_left->jG

namespace Go.Fw
open Go
open Go.RowKit (Below)
section
variable{P:Program}{T:Tab}{n:Nat}{Q:Exit->Act->World->Prop}{k:List It}{e:Env}{w0 w w':World}{L L':List Ch}
theorem SH.append(h:SH w0 w L)(hL:SH w w' L')(hD:∀c,c∈L'->∀b,c.D b->b<w0.heap.size):SH w0 w' (L'++L):=by
 have h':=h.ext hL.below;refine⟨h'.below,fun c hc=>?_,fun c hc=>?_,?_⟩
 ·rcases List.mem_append.1 hc with hc|hc
  ·obtain⟨p,s⟩:=hL.holds c hc;exact⟨p,fun b hb=>⟨Jf h.below.size (s b hb).1,(s b hb).2⟩⟩
  ·exact h'.holds c hc
 ·rcases List.mem_append.1 hc with hc|hc
  ·exact hD c hc
  ·exact h.elder c hc
 ·refine List.pairwise_append.2 ⟨hL.apart,h.apart,fun c hc d hd b hcb hdb=>?_⟩;have h1:=((hL.holds c hc).2 b hcb).1;have h2:=((h.holds d hd).2 b hdb).2;omega
theorem SH.appendN(h:SH w0 w L)(hL:SH w w' L')(hD:NoD L'):SH w0 w' (L'++L):=
 SH.append h hL fun c hc b hb=>absurd hb (NoD.all hD c hc b)
def RetZ(P:Program)(f:FuncId)(vs:List Value)(w:World)(Φ:List Value->List Ch->Prop):Prop:=
 Calls P f vs.toArray w fun e w'=>∃v,e=.returned v/\Below w.heap.size w w'/\∃us L,v=tup us/\SH w w' L/\Φ us L
theorem qqm{Φ:List Value->List Ch->Prop}{all:Array Oper}{l:List Oper}{d ty:Nat}{ps:String}{af:Array Edge}{x:Operand}{args:Array Operand}{ats:Array TypeId}{f:FuncId}{fi ca:Array Value}{az vs:List Value}
  (hcall:qeJ P f) (hc:RetZ P f vs w Φ) (hx:opv e x=V (.func (.func f) fi ca)) (hargs:opvs e args.toList=V az) (hvs:fi.toList++az++ca.toList=vs) (hn:Nat.blt d n=true)
  (hk:∀w' us L',SH w w' L'->Φ us L'->Run P n Q (.ops all l::k) ((d,tup us)::e) w') :
  Run P n Q (.ops all (⟨V d,.call ⟨.value x,args,ats⟩,ty,ps,af,U⟩::l)::k) e w:=by
 subst hvs;refine qkF (R:=fun v w'=>Below w.heap.size w w'/\∃us L,v=tup us/\SH w w' L/\Φ us L) Z Z hn (fun a ha=>qhH ha hcall hx hargs w) hc ?_;rintro v w' ⟨_,us,L',rfl,hL,hv⟩;exact hk w' us L' hL hv
theorem qlA{f:FuncId}{fn:Func}{c:Code}{vs:List Value}{Φ:List Value->List Ch->Prop}{m:Nat}(hf:P.funcs[f]?=V fn)(hb:fn.body=V c)(hm:fn.ntmps=m)(hn:Nat.ble vs.length m=true)
  (h:SH w w []->Run P m (bodyPost P fn fun e w'=>∃v,e=.returned v/\Below w.heap.size w w'/\∃us L,v=tup us/\SH w w' L/\Φ us L) [.code c] (argEnv 0 vs) w):RetZ P f vs w Φ:=by
 subst hm;have hn':=jq hn;refine calls_of_wp hf hb ?_;have hr:=h (SH.start w);have hag:Agree fn.ntmps (argEnv 0 vs) { tmps:=vs.toArray++Array.replicate (fn.ntmps-vs.toArray.size) undef,defers:=[] }:=by
  refine⟨rfl,by simp;omega,fun i v hi=>?_⟩;obtain⟨_,h2⟩:=qhy vs 0 i v hi;simp only[Nat.sub_zero] at h2;have hlt:=(List.getElem?_eq_some_iff.1 h2).1;rw[jG (by simpa using hlt)];simpa using h2
 have h1:=hr _ hag;refine wp_mono h1 ?_;intro ex a' w' hq;cases ex<;>exact hq
theorem qrG(hT:TabOk P T){fn:Func}{Φ:List Value->List Ch->Prop}(us:List Value)(h:SH w0 w L)(hr:ResOk T e w fn.results.toList us)(hv:Φ us L) :
  Run P n (bodyPost P fn fun e w'=>∃v,e=.returned v/\Below w0.heap.size w0 w'/\∃us L,v=tup us/\SH w0 w' L/\Φ us L) (.code .ret::k) e w:=
 qpw fun _ ha=>⟨ha.defers,tup us,qf5 hT ha hr,tup us,rfl,h.below,us,L,rfl,h,hv⟩
end
end Go.Fw


namespace Go.Fw
open Go Go.Sort
open Go.RowKit (Below)
section
variable{P:Program}{T:Tab}{n:Nat}{Q:Exit->Act->World->Prop}{k:List It}{e:Env}{w0 w w':World}{L L':List Ch}
end
end Go.Fw


namespace Go.Fw
open Go
open Go.RowKit (Below)
section
variable{w0 w w':World}{L:List Ch}{α:Type}[GoT α]
def RAll(w:World)(A:Nat->Prop):List α->List (Raw α)->Prop
 | [],[]=>True
 |x::xs,r::rs=>GoT.R w A x r.cs/\RAll w A xs rs
 |_,_=>False
theorem RAll.at{A:Nat->Prop}:∀{xs:List α} {rs:List (Raw α)},RAll w A xs rs->xs.length=rs.length/\∀(i:Nat) x,xs[i]?=V x->∃r,rs[i]?=V r/\GoT.R w A x r.cs
 | [],[],_=>⟨rfl,fun i x h=>by simp at h⟩
 |x::xs,[],h=>h.elim
 | [],r::rs,h=>h.elim
 |x::xs,r::rs,h=>by
  obtain⟨hl,ha⟩:=RAll.at h.2;refine⟨by simp[hl],fun i y hy=>?_⟩;cases i with
  |zero=>simp only[List.getElem?_cons_zero,Option.some.injEq] at hy⊢;subst hy;exact⟨r,rfl,h.1⟩
  |succ i=>simp only[List.getElem?_cons_succ] at hy⊢;exact ha i y hy
end
end Go.Fw


namespace Go.Fw
open Go
end Go.Fw


namespace Go.Fw
open Go
open Go.RowKit (Below)
section
variable{P:Program}{T:Tab}{n:Nat}{Q:Exit->Act->World->Prop}{k:List It}{e:Env}{w0 w:World}{L:List Ch}
variable{α:Type}[GoT α]{S S1:Nat->Prop}{xs ys:List α}{p p':Option Addr}{c c':Nat}
end
section
variable{α β γ:Type}
def Emp(o:Option (List α)):Prop:=∀r,o=V r->r=[]
theorem Emp.none:Emp (U:Option (List α)):=fun _ h=>by cases h
theorem Emp.noneB{f:β->Option (List α)}:Emp ((Option.none:Option β).bind f):=fun _ h=>by cases h
theorem Emp.nil:Emp (V ([]:List α)):=fun _ h=>(Option.some.inj h).symm
theorem Emp.bif{c:Bool}{a b:Option (List α)}(h1:Emp a)(h2:Emp b):Emp (bif c then a else b):=by cases c<;>assumption
theorem Emp.sub{xs:List β}{lo:Int}{f:List β->Option (List α)}(h:Emp (f [])):Emp ((subS xs lo ((0:Nat):Int)).bind f):=fun r hr=>by
 cases hs:subS xs lo ((0:Nat):Int) with
 |none=>rw[hs] at hr;cases hr
 |some y=>
  rw[hs] at hr;obtain⟨_,_,_,e⟩:=qm9 hs;have:y=[]:=by rw[<-e];simp
  subst this;exact h r hr
theorem Emp.bind{x:Option β}{f:β->Option (List α)}(h:∀y,Emp (f y)):Emp (x.bind f):=by
 cases x with
 |none=>exact Emp.noneB
 |some y=>exact h y
end
end Go.Fw


namespace Go.Fw
open Go
section
variable{ε:Type}
def innI(rc bad:Nat->Bool)(mk:Nat->ε):Nat->Nat->List ε->Option (List ε)
 |0,_,acc=>V acc
 |m+1,j,acc=>bif rc j then bif bad j then U else innI rc bad mk m (j+1) (acc++[mk j]) else innI rc bad mk m (j+1) acc
def innS(cap:Nat)(rc bad:Nat->Bool)(mk:Nat->ε):Nat->Nat->List ε->Option (List ε)
 |0,_,out=>V out
 |m+1,j,out=>bif rc j then bif bad j || (out.length==cap) then U else innS cap rc bad mk m (j+1) (out++[mk j]) else innS cap rc bad mk m (j+1) out
def capL(cap:Nat)(o:Option (List ε)):Option (List ε):=o.bind fun l=>if l.length<=cap then V l else U
theorem qqq{rc bad:Nat->Bool}{mk:Nat->ε}:∀m j (acc:List ε),innI rc bad mk m j acc=(innI rc bad mk m j []).map (acc++·):=by
 intro m
 induction m with
 |zero=>intro j acc;simp[innI]
 |succ m ih=>
  intro j acc;unfold innI;cases rc j
  ·exact ih (j+1) acc
  ·cases bad j
   ·simp only[cond_true,cond_false];rw[ih (j+1) (acc++[mk j]),ih (j+1) ([]++[mk j]),Option.map_map]
    congr 1
    funext l
    simp
   ·rfl
theorem qsL{cap:Nat}{out:List ε}{o:Option (List ε)}(h:cap<out.length):capL cap (o.map (out++·))=U:=by
 cases o with
 |none=>rfl
 |some l=>
  show(if (out++l).length<=cap then V (out++l) else U)=U;rw[if_neg (by rw[jg];omega)]
theorem qux{cap:Nat}{rc bad:Nat->Bool}{mk:Nat->ε}:∀m j (out:List ε),out.length<=cap->innS cap rc bad mk m j out=capL cap ((innI rc bad mk m j []).map (out++·)):=by
 intro m
 induction m with
 |zero=>intro j out h;simp[innS,innI,capL,h]
 |succ m ih=>
  intro j out h;unfold innS innI;cases rc j
  ·exact ih (j+1) out h
  ·cases hb:bad j
   ·cases hl:out.length==cap
    ·have hl':out.length≠cap:=by simpa using hl
     simp only[cond_true,cond_false,Bool.or_false];rw[ih (j+1) (out++[mk j]) (by rw[jg];simp only[jA,jU];omega),qqq m (j+1) ([]++[mk j]),Option.map_map]
     congr 2
     funext l
     simp
    ·have hl':out.length=cap:=by simpa using hl
     simp only[cond_true,cond_false,Bool.or_true];rw[qqq m (j+1) ([]++[mk j]),Option.map_map];have e:((fun x=>out++x) ∘ fun x=>[]++[mk j]++x)=fun x:List ε=>(out++[mk j])++x:=by funext l;simp
     rw[e,qsL (by rw[jg];simp only[jA,jU];omega)]
   ·simp only[cond_true,Bool.true_or]
    rfl
def outI(row:Nat->Option (List ε)):Nat->Nat->List ε->Option (List ε)
 |0,_,acc=>V acc
 |m+1,i,acc=>(row i).bind fun l=>outI row m (i+1) (acc++l)
def outS(row:Nat->List ε->Option (List ε)):Nat->Nat->List ε->Option (List ε)
 |0,_,out=>V out
 |m+1,i,out=>(row i out).bind fun o=>outS row m (i+1) o
theorem qsp{row:Nat->Option (List ε)}{cap:Nat}:∀m i (acc:List ε),cap<acc.length->capL cap (outI row m i acc)=U:=by
 intro m
 induction m with
 |zero=>intro i acc h;show(if acc.length<=cap then V acc else U)=U;rw[if_neg (by omega)]
 |succ m ih=>
  intro i acc h;unfold outI;cases row i with
  |none=>rfl
  |some l=>exact ih (i+1) (acc++l) (by rw[jg];omega)
theorem qur{row:Nat->Option (List ε)}{rowS:Nat->List ε->Option (List ε)}{cap:Nat}(h:∀i out,out.length<=cap->rowS i out=capL cap ((row i).map (out++·))) :
  ∀m i (out:List ε),out.length<=cap->outS rowS m i out=capL cap (outI row m i out):=by
 intro m
 induction m with
 |zero=>intro i out ho;show V out=(if out.length<=cap then V out else U);rw[if_pos ho]
 |succ m ih=>
  intro i out ho;unfold outS outI;rw[h i out ho];cases row i with
  |none=>rfl
  |some l=>
   show(if (out++l).length<=cap then V (out++l) else U).bind _=capL cap (outI row m (i+1) (out++l));by_cases hl:(out++l).length<=cap
   ·rw[if_pos hl];exact ih (i+1) (out++l) hl
   ·rw[if_neg hl,qsp m (i+1) (out++l) (by omega)];rfl
variable{ρ σ τ:Type}
def flowO(bad:ρ)(fin:List ε->σ):Option (List ε)->Flow ρ σ
 |none=>.ret bad
 |some l=>.nxt (fin l)
theorem quH{Lf:Nat->τ->Int->Option (Flow ρ σ)}{St:Nat->List ε->τ}{rc bd:Nat->Bool}{mk:Nat->ε}{len:Nat}{bad:ρ}{fin:List ε->σ}
  (hend:∀n acc,Lf (n+1) (St len acc) (len:Int)=V (.nxt (fin acc)))
  (hstep:∀j acc,j<len->acc.length<=j->∀X,(rc j=false->Ev (fun n=>Lf n (St (j+1) acc) ((j+1:Nat):Int)) X)->(rc j=true->bd j=true->X=.ret bad) ->
   (rc j=true->bd j=false->Ev (fun n=>Lf n (St (j+1) (acc++[mk j])) ((j+1:Nat):Int)) X)->Ev (fun n=>Lf (n+1) (St j acc) (j:Int)) X) :
  ∀m j acc,j+m=len->acc.length<=j->Ev (fun n=>Lf n (St j acc) (j:Int)) (flowO bad fin (innI rc bd mk m j acc)):=by
 intro m
 induction m with
 |zero=>
  intro j acc hj _;obtain rfl:j=len:=by omega
  exact Ev.step (fun n=>hend n acc) .done
 |succ m ih=>
  intro j acc hj ha;refine Ev.succ (hstep j acc (by omega) ha _ (fun h1=>?_) (fun h1 h2=>?_) (fun h1 h2=>?_))
  ·have e:innI rc bd mk (m+1) j acc=innI rc bd mk m (j+1) acc:=by rw[innI,h1];rfl
   rw[e];exact ih (j+1) acc (by omega) (by omega)
  ·have e:innI rc bd mk (m+1) j acc=U:=by rw[innI,h1,h2];rfl
   rw[e];rfl
  ·have e:innI rc bd mk (m+1) j acc=innI rc bd mk m (j+1) (acc++[mk j]):=by rw[innI,h1,h2];rfl
   rw[e];exact ih (j+1) _ (by omega) (by rw[jg];simp only[jA,jU];omega)
theorem quq{Lf:Nat->τ->Int->Option (Flow ρ σ)}{St:Nat->List ε->τ}{cap:Nat}{rc bd:Nat->Bool}{mk:Nat->ε}{len:Nat}{bad:ρ}{fin:List ε->σ}
  (hend:∀n out,Lf (n+1) (St len out) (len:Int)=V (.nxt (fin out)))
  (hstep:∀j out,j<len->out.length<=cap->∀X,(rc j=false->Ev (fun n=>Lf n (St (j+1) out) ((j+1:Nat):Int)) X)->(rc j=true->(bd j || (out.length==cap))=true->X=.ret bad) ->
   (rc j=true->(bd j || (out.length==cap))=false->Ev (fun n=>Lf n (St (j+1) (out++[mk j])) ((j+1:Nat):Int)) X)->Ev (fun n=>Lf (n+1) (St j out) (j:Int)) X) :
  ∀m j out,j+m=len->out.length<=cap->Ev (fun n=>Lf n (St j out) (j:Int)) (flowO bad fin (innS cap rc bd mk m j out)):=by
 intro m
 induction m with
 |zero=>
  intro j out hj _;obtain rfl:j=len:=by omega
  exact Ev.step (fun n=>hend n out) .done
 |succ m ih=>
  intro j out hj ha;refine Ev.succ (hstep j out (by omega) ha _ (fun h1=>?_) (fun h1 h2=>?_) (fun h1 h2=>?_))
  ·have e:innS cap rc bd mk (m+1) j out=innS cap rc bd mk m (j+1) out:=by rw[innS,h1];rfl
   rw[e];exact ih (j+1) out (by omega) ha
  ·have e:innS cap rc bd mk (m+1) j out=U:=by rw[innS,h1,h2];rfl
   rw[e];rfl
  ·have e:innS cap rc bd mk (m+1) j out=innS cap rc bd mk m (j+1) (out++[mk j]):=by rw[innS,h1,h2];rfl
   have hl:out.length≠cap:=by
    rw[Bool.or_eq_false_iff] at h2;simpa using h2.2
   rw[e];exact ih (j+1) _ (by omega) (by rw[jg];simp only[jA,jU];omega)
theorem qul{Lf:Nat->τ->Int->Option (Flow ρ σ)}{St:Nat->List ε->τ}{row:Nat->Option (List ε)}{len c:Nat}{bad:ρ}{fin:List ε->σ}(hr:∀i l,row i=V l->l.length<=c)
  (hend:∀n acc,Lf (n+1) (St len acc) (len:Int)=V (.nxt (fin acc)))
  (hstep:∀i acc,i<len->acc.length<=c*i->∀X,(row i=U->X=.ret bad)->(∀l,row i=V l->Ev (fun n=>Lf n (St (i+1) (acc++l)) ((i+1:Nat):Int)) X)->Ev (fun n=>Lf (n+1) (St i acc) (i:Int)) X) :
  ∀m i acc,i+m=len->acc.length<=c*i->Ev (fun n=>Lf n (St i acc) (i:Int)) (flowO bad fin (outI row m i acc)):=by
 intro m
 induction m with
 |zero=>
  intro i acc hi _;obtain rfl:i=len:=by omega
  exact Ev.step (fun n=>hend n acc) .done
 |succ m ih=>
  intro i acc hi ha;refine Ev.succ (hstep i acc (by omega) ha _ (fun h1=>?_) (fun l h1=>?_))
  ·have e:outI row (m+1) i acc=U:=by rw[outI,h1];rfl
   rw[e];rfl
  ·have e:outI row (m+1) i acc=outI row m (i+1) (acc++l):=by rw[outI,h1];rfl
   rw[e];have:=hr i l h1;exact ih (i+1) _ (by omega) (by rw[jg,Nat.mul_succ];omega)
theorem quB{Lf:Nat->τ->Int->Option (Flow ρ σ)}{St:Nat->List ε->τ}{cap:Nat}{row:Nat->List ε->Option (List ε)}{len:Nat}{bad:ρ}{fin:List ε->σ}(hr:∀i out o,row i out=V o->o.length<=cap)
  (hend:∀n out,Lf (n+1) (St len out) (len:Int)=V (.nxt (fin out)))
  (hstep:∀i out,i<len->out.length<=cap->∀X,(row i out=U->X=.ret bad)->(∀o,row i out=V o->Ev (fun n=>Lf n (St (i+1) o) ((i+1:Nat):Int)) X)->Ev (fun n=>Lf (n+1) (St i out) (i:Int)) X) :
  ∀m i out,i+m=len->out.length<=cap->Ev (fun n=>Lf n (St i out) (i:Int)) (flowO bad fin (outS row m i out)):=by
 intro m
 induction m with
 |zero=>
  intro i out hi _;obtain rfl:i=len:=by omega
  exact Ev.step (fun n=>hend n out) .done
 |succ m ih=>
  intro i out hi ha;refine Ev.succ (hstep i out (by omega) ha _ (fun h1=>?_) (fun o h1=>?_))
  ·have e:outS row (m+1) i out=U:=by rw[outS,h1];rfl
   rw[e];rfl
  ·have e:outS row (m+1) i out=outS row m (i+1) o:=by rw[outS,h1];rfl
   rw[e];exact ih (i+1) _ (by omega) (hr i out o h1)
end

end Go.Fw


namespace Go.Fw
open Go
open Go.RowKit (Below)
structure Same where
 w:World
 K:Nat->Prop
instance instSame:GoT Same where
 k:=1
 agg:=false
 zero:=⟨default,fun _=>False⟩
 zc:=[.bool true]
 R w S x cs:=cs=[.bool true]/\∀b,x.K b->S b/\w.heap[b]?=x.w.heap[b]?
 O w S x cs:=cs=[.bool true]/\∀b,x.K b->S b/\w.heap[b]?=x.w.heap[b]?
 kpos:=by decide
 noagg _:=rfl
 len h:=by obtain⟨rfl,_⟩:=h;rfl
 one h:=by obtain⟨rfl,_⟩:=h;simp[Value.oneCell']
 loc h hs:=⟨h.1,fun b hb=>⟨(h.2 b hb).1,(hs b (h.2 b hb).1).trans (h.2 b hb).2⟩⟩
 mono h hs:=⟨h.1,fun b hb=>⟨hs b (h.2 b hb).1,(h.2 b hb).2⟩⟩
 toR h:=h
 locO h hs:=⟨h.1,fun b hb=>⟨(h.2 b hb).1,(hs b (h.2 b hb).1).trans (h.2 b hb).2⟩⟩
 monoO h hs:=⟨h.1,fun b hb=>⟨hs b (h.2 b hb).1,(h.2 b hb).2⟩⟩
 zO _ _:=⟨rfl,fun _ h=>h.elim⟩
def FS(F:List Ch)(b:Nat):Prop:=∃d,d∈F/\d.S b
abbrev Fr(w0:World)(F:List Ch)(b:Nat):Prop:=FS F b\/old w0 b
abbrev same(w0 w:World)(F:List Ch):Fct:=fct (⟨w,Fr w0 F⟩:Same) [.bool true]
section
variable{P:Program}{T:Tab}{n:Nat}{Q:Exit->Act->World->Prop}{k:List It}{e:Env}{w0 w w':World}{L L' F:List Ch}
theorem SH.frame(L:List Ch)(h:SH w0 w (L++F)):SH w0 w (L++[Ch.grp (Fw.old w0) (FS F) [same w0 w F]]):=by
 have hp:=List.pairwise_append.1 h.apart;refine⟨h.below,fun c hc=>?_,fun c hc=>?_,List.pairwise_append.2 ⟨hp.1,List.pairwise_singleton ..,fun c hc d hd b hb=>?_⟩⟩
 ·rcases List.mem_append.1 hc with hc|hc
  ·exact h.holds c (jM _ hc)
  ·obtain rfl:=List.mem_singleton.1 hc;refine⟨fun f hf=>?_,fun b hb=>?_⟩
   ·obtain rfl:=List.mem_singleton.1 hf;exact⟨rfl,fun b hb=>⟨hb,rfl⟩⟩
   ·obtain⟨d,hd,hb⟩:=hb;exact(h.holds d (jZ _ hd)).2 b hb
 ·rcases List.mem_append.1 hc with hc|hc
  ·exact h.elder c (jM _ hc)
  ·obtain rfl:=List.mem_singleton.1 hc;exact fun b hb=>hb
 ·obtain rfl:=List.mem_singleton.1 hd;rintro⟨d,hd,hdb⟩;exact hp.2.2 c hc d hd b hb hdb
theorem SH.unframe{L0:List Ch}{fs:List Fct}(j:Nat)(h0:SH w0 w (L0++F))(L':List Ch)(h:SH w0 w' (L'++[Ch.grp (Fw.old w0) (FS F) fs]))(hj:fs[j]?=V (same w0 w F)):SH w0 w' (L'++F):=by
 have hp:=List.pairwise_append.1 h.apart;have hp0:=List.pairwise_append.1 h0.apart;have hg:=h.holds (Ch.grp (Fw.old w0) (FS F) fs) (jZ _ (List.mem_singleton.2 Z));have hs:∀b,Fr w0 F b->w'.heap[b]?=w.heap[b]?:=fun b hb=>((hg.1 _ (jw hj)).2 b hb).2;refine⟨h.below,fun c hc=>?_,fun c hc=>?_,List.pairwise_append.2 ⟨hp.1,hp0.2.1,fun c hc d hd b hb hdb=>?_⟩⟩
 ·rcases List.mem_append.1 hc with hc|hc
  ·exact h.holds c (jM _ hc)
  ·obtain⟨h1,h2⟩:=h0.holds c (jZ _ hc);exact⟨c.loc w w' (fun b hb=>hs b (.inl ⟨c,hc,hb⟩)) (fun b hb=>hs b (.inr (h0.elder c (jZ _ hc) b hb))) h1,fun b hb=>hg.2 b ⟨c,hc,hb⟩⟩
 ·rcases List.mem_append.1 hc with hc|hc
  ·exact h.elder c (jM _ hc)
  ·exact h0.elder c (jZ _ hc)
 ·exact hp.2.2 c hc _ (List.mem_singleton.2 Z) b hb ⟨d,hd,hdb⟩
variable{α:Type}[GoT α]{x:α}{cs:List Value}{S D:Nat->Prop}{fs:List Fct}
theorem SH.frB{c:Ch}(i m:Nat)(hi:L[i]?=V c)(hm:Nat.ble m i=true):∀b,c.S b->FS (L.drop m) b:=fun b hb=>by
 have hm':=jq hm;refine⟨c,jw (i:=i-m) ?_,hb⟩;rw[List.getElem?_drop,show m+(i-m)=i by omega];exact hi
theorem SH.frO(i m:Nat)(h:SH w0 w L)(hi:L[i]?=V (Ch.own S x cs))(hm:Nat.ble m i=true):GoT.R w (Fr w0 (L.drop m)) x cs:=
 GoT.mono (GoT.toR (h.mem hi).1) fun b hb=>.inl (SH.frB i m hi hm b hb)
theorem SH.frG(i j m:Nat)(h:SH w0 w L)(hi:L[i]?=V (Ch.grp D S fs))(hj:fs[j]?=V (fct x cs))(hm:Nat.ble m i=true):GoT.R w (Fr w0 (L.drop m)) x cs:=
 GoT.mono (h.grpS i j hi hj) fun b hb=>hb.elim (fun hb=>.inl (SH.frB i m hi hm b hb)) fun hb=>.inr (h.elder _ (jw hi) b hb)
theorem SH.frOldS{F:List Ch}{xs:List α}{p:Option Addr}{c:Nat}(h:SH w0 w L)(hr:SlR w0 (Fw.old w0) xs p c):SlR w (Fr w0 F) xs p c:=
 (hr.loc fun b hb=>h.below.block b hb).mono fun _ hb=>.inr hb
def RetW(P:Program)(f:FuncId)(vs:List Value)(w:World)(J:List Value->World->Prop):Prop:=
 Calls P f vs.toArray w fun e w'=>∃us,e=.returned (tup us)/\J us w'
theorem qaT{J:List Value->World->Prop}{all:Array Oper}{l:List Oper}{d ty:Nat}{ps:String}{af:Array Edge}{x:Operand}{args:Array Operand}{ats:Array TypeId}{f:FuncId}{fi ca:Array Value}{az vs:List Value}
  (hcall:qeJ P f) (hc:RetW P f vs w J) (hx:opv e x=V (.func (.func f) fi ca)) (hargs:opvs e args.toList=V az) (hvs:fi.toList++az++ca.toList=vs) (hn:Nat.blt d n=true)
  (hk:∀w' us,J us w'->Run P n Q (.ops all l::k) ((d,tup us)::e) w'):Run P n Q (.ops all (⟨V d,.call ⟨.value x,args,ats⟩,ty,ps,af,U⟩::l)::k) e w:=by
 subst hvs;refine qkF (R:=fun v w'=>∃us,v=tup us/\J us w') Z Z hn (fun a ha=>qhH ha hcall hx hargs w) (hc.mono ?_) ?_
 ·rintro e w' ⟨us,rfl,h⟩;exact⟨_,rfl,us,rfl,h⟩
 ·rintro v w' ⟨us,rfl,h⟩;exact hk w' us h
theorem qb5{J:List Value->World->Prop}{f:FuncId}{fn:Func}{c:Code}{vs:List Value}{m:Nat}(hf:P.funcs[f]?=V fn)(hb:fn.body=V c)(hm:fn.ntmps=m)(hn:Nat.ble vs.length m=true)
  (h:Run P m (bodyPost P fn fun e w'=>∃us,e=.returned (tup us)/\J us w') [.code c] (argEnv 0 vs) w):RetW P f vs w J:=by
 subst hm;have hn':=jq hn;refine calls_of_wp hf hb ?_;have hag:Agree fn.ntmps (argEnv 0 vs) { tmps:=vs.toArray++Array.replicate (fn.ntmps-vs.toArray.size) undef,defers:=[] }:=by
  refine⟨rfl,by simp;omega,fun i v hi=>?_⟩;obtain⟨_,h2⟩:=qhy vs 0 i v hi;simp only[Nat.sub_zero] at h2;have hlt:=(List.getElem?_eq_some_iff.1 h2).1;rw[jG (by simpa using hlt)];simpa using h2
 have h1:=h _ hag;refine wp_mono h1 ?_;intro ex a' w' hq;cases ex<;>exact hq
theorem qbU{J:List Value->World->Prop}(hT:TabOk P T){fn:Func}(us:List Value)(hr:ResOk T e w fn.results.toList us)(h:J us w) :
  Run P n (bodyPost P fn fun e w'=>∃us,e=.returned (tup us)/\J us w') (.code .ret::k) e w:=
 qpw fun _ ha=>⟨ha.defers,tup us,qf5 hT ha hr,us,rfl,h⟩
end
section
open Go.ChangeShapes Go.RowKit
variable{H:Type}{enc:TypeId×Value->H}{P:Program}{w:World}{base:Nat}{spare:Nat->Bool}{held:Bool}
end

section
variable{P:Program}{T:Tab}{n:Nat}{Q:Exit->Act->World->Prop}{k:List It}{e:Env}{w0 w w':World}{L:List Ch}
variable{α β:Type}[GoT α][GoT β]{S Sr Se D:Nat->Prop}{xs ys:List α}{p p':Option Addr}{c c':Nat}{fs:List Fct}{x:α}{cs:List Value}
theorem RAll.loc{A:Nat->Prop}:∀{xs:List α} {rs:List (Raw α)},RAll w A xs rs->(∀b,A b->w'.heap[b]?=w.heap[b]?)->RAll w' A xs rs
 | [],[],_,_=>trivial
 |_::_,[],h,_=>h.elim
 | [],_::_,h,_=>h.elim
 |_::_,_::_,h,hb=>⟨GoT.loc h.1 hb,RAll.loc h.2 hb⟩
theorem RAll.mono{A B:Nat->Prop}(hb:∀b,A b->B b):∀{xs:List α} {rs:List (Raw α)},RAll w A xs rs->RAll w B xs rs
 | [],[],_=>trivial
 |_::_,[],h=>h.elim
 | [],_::_,h=>h.elim
 |_::_,_::_,h=>⟨GoT.mono h.1 hb,RAll.mono hb h.2⟩
theorem RAll.app{A:Nat->Prop}:∀{xs:List α} {rs:List (Raw α)} {ys:List α} {qs:List (Raw α)},RAll w A xs rs->RAll w A ys qs->RAll w A (xs++ys) (rs++qs)
 | [],[],_,_,_,h=>h
 |_::_,[],_,_,h,_=>h.elim
 | [],_::_,_,_,h,_=>h.elim
 |_::_,_::_,_,_,h,h'=>⟨h.1,RAll.app h.2 h'⟩
theorem RAll.of{A:Nat->Prop}:∀{xs:List α} {rs:List (Raw α)},xs.length=rs.length->(∀(i:Nat) (x:α) (r:Raw α),xs[i]?=V x->rs[i]?=V r->GoT.R w A x r.cs)->RAll w A xs rs
 | [],[],_,_=>trivial
 |_::_,[],h,_=>by cases h
 | [],_::_,h,_=>by cases h
 |x::xs,r::rs,h,ha=>⟨ha 0 x r Z Z,RAll.of (by simpa using h) fun i y q hy hq=>ha (i+1) y q (by simpa using hy) (by simpa using hq)⟩
theorem RAll.len{A:Nat->Prop}{rs:List (Raw α)}(h:RAll w A xs rs):xs.length=rs.length:=h.at.1
theorem SH.frzI(i:Nat)(h:SH w0 w L)(hi:L[i]?=V (Ch.own S x cs)):SH w0 w (L.set i (Ch.grp (fun _=>False) S [fct x cs])):=
 h.say hi (fun hp f hf=>by
  obtain rfl:=List.mem_singleton.1 hf;have hp':GoT.O w S x cs:=hp;exact GoT.mono (S':=fun b=>S b\/False) (x:=x) (cs:=cs) (GoT.toR hp') (fun b hb=>.inl hb)) (fun _ h=>h) (fun _ h=>h.elim)
end
end Go.Fw


namespace Go.Fw
open Go
def rng8(x:IntK .u8):Prop:=0<=x.val/\x.val<=255
theorem qtJ{P:Program}{t:TypeId}(ht:P.underlying t=V (.int .u8))(hc:P.cellsOf t=1):Opens P t (gt_IntK (kd:=.u8)) rng8:=
 ⟨hc,fun h=>by
  obtain⟨n,rfl,_,hw⟩:=DataW.trod_int ht h;exact⟨⟨n⟩,rfl,by simp only[Lit.wf,IntKind.min,IntKind.max,jf] at hw;simp[IntKind.bits,IntKind.signed] at hw;unfold rng8;simp only;omega⟩⟩
end Go.Fw


namespace Go.Fw
open Go
open Go.RowKit (Below)
section
variable{P:Program}{T:Tab}{n:Nat}{Q:Exit->Act->World->Prop}{k:List It}{e:Env}{w0 w w':World}{L:List Ch}
end

section
variable{P:Program}{T:Tab}{n:Nat}{e:Env}{w:World}
def b3(a0:Bool)(a1 a2 a3:Int):Array Value:=#[.bool a0,.int .i64 a1,.int .i64 a2,.int .i64 a3]
end
end Go.Fw


namespace Go.Fw
open Go
section
variable{P:Program}{T:Tab}{n:Nat}{e:Env}{w:World}
theorem qpU{x y:Operand}{t t' d ty:Nat}{ps:String}{af:Array Edge}{g:Option (Nat×Bool)}{a b r:Int}(h0:b≠0)(hr:a.tmod b=r)
  (hx:opv e x=V (.int .i64 a)) (hy:opv e y=V (.int .i64 b)):Val P n e ⟨V d,.binOp .rem t x y t',ty,ps,af,g⟩ w (.int .i64 r):=hr ▸ qs1 h0 hx hy
end
end Go.Fw


namespace Go.Fw
open Go
open Go.RowKit (Below)
section
variable{P:Program}{T:Tab}{n:Nat}{Q:Exit->Act->World->Prop}{k:List It}{e:Env}{w0 w w':World}{L:List Ch}
variable{α β:Type}[GoT α][GoT β]{S Sr Se D:Nat->Prop}{xs ys:List α}{p p':Option Addr}{c c':Nat}{fs:List Fct}{x:α}{cs:List Value}
def Ch.rowG(D Sr Se:Nat->Prop)(xs:List α)(p:Option Addr)(c:Nat)(fs:List Fct):Ch where
 S b:=Sr b\/Se b
 D:=D
 P w:=(∃rs:List (Raw α),(Ch.own Sr rs [.slice p rs.length c]).P w/\RAll w (fun b=>Se b\/D b) xs rs)/\(∀b,Sr b->¬ Se b)/\∀f∈fs,f.R w (fun b=>Se b\/D b)
 loc w w' h h' hp:=by
  obtain⟨⟨rs,h1,h2⟩,h3,h4⟩:=hp
  have hb:∀b,Se b\/D b->w'.heap[b]?=w.heap[b]?:=fun b hb=>hb.elim (fun hb=>h b (.inr hb)) (h' b)
  exact⟨⟨rs,(Ch.own Sr rs [.slice p rs.length c]).loc w w' (fun b hb=>h b (.inl hb)) (fun _ hd=>hd.elim) h1,RAll.loc h2 hb⟩,h3,fun f hf=>GoT.loc (self:=f.inst) (h4 f hf) hb⟩
theorem SH.gS(i j:Nat){ds:List Value}{y:β}(h:SH w0 w L)(hi:L[i]?=V (Ch.rowG D Sr Se xs p c fs))(hj:fs[j]?=V (fct y ds)):GoT.R w (fun b=>Se b\/D b) y ds:=(h.mem hi).1.2.2 _ (jw hj)
theorem SH.gB{i:Nat}(h:SH w0 w L)(hi:L[i]?=V (Ch.rowG D Sr Se xs p c fs)):∀b,Se b\/D b->Fw.old w b:=by
 intro b hb;rcases hb with hb|hb
 ·exact((h.mem hi).2 b (.inr hb)).2
 ·exact jv (h.elder _ (jw hi) b hb) h.below.size
theorem SH.gO(i j:Nat){ds:List Value}{y:β}(h:SH w0 w L)(hi:L[i]?=V (Ch.rowG D Sr Se xs p c fs))(hj:fs[j]?=V (fct y ds)):GoT.R w (Fw.old w) y ds:=
 GoT.mono (h.gS i j hi hj) (h.gB hi)
end

section
variable{w0 w w':World}{L LL F:List Ch}{c:Ch}{fs:List Fct}
theorem SH.frm1{α:Type}[GoT α]{x:α}{cs:List Value}(h:SH w0 w (c::F))(hr:GoT.R w (Fr w0 F) x cs):SH w0 w [c,Ch.grp (Fw.old w0) (FS F) [fct x cs,same w0 w F]]:=
 (SH.frame [c] h).grpAdd 1 Z hr
theorem SH.unfr(k j:Nat)(h0:SH w0 w LL)(h:SH w0 w' L)(hl:L.getLast?=V (Ch.grp (Fw.old w0) (FS (LL.drop k)) fs))(hj:fs[j]?=V (same w0 w (LL.drop k))):SH w0 w' (L.dropLast++LL.drop k):=by
 refine SH.unframe (L0:=LL.take k) j (by rw[List.take_append_drop];exact h0) _ ?_ hj;have hne:L≠[]:=fun e=>by rw[e] at hl;cases hl
 rw[List.getLast?_eq_some_getLast hne] at hl;have e:=List.dropLast_concat_getLast hne;rw[Option.some.inj hl] at e;rw[e];exact h
end
section
variable{P:Program}{n:Nat}{Q:Exit->Act->World->Prop}{k:List It}
theorem qhZ{ops:Array Oper}{st:List Nat}{C:World->Prop}{fuel:Nat}{listed:Array Bool}{e:Env}{w:World}(J:Env->World->Prop)(fuel':Nat)(listed':Array Bool)
  (h2:∀e w,J e w->RunA P n Q k ops st C fuel' listed' e w) (h1:(∀e w,J e w->RunA P n Q k ops st C fuel' listed' e w)->RunA P n Q k ops st C fuel listed e w):RunA P n Q k ops st C fuel listed e w:=h1 h2
end
end Go.Fw


namespace Go.Fw
open Go
section
variable{P:Program}{T:Tab}{n:Nat}{Q:Exit->Act->World->Prop}{k:List It}{e:Env}{w0 w w':World}{L:List Ch}
theorem qvn{ops:Array Oper}{st:List Nat}{C:World->Prop}{fuel:Nat}{listed:Array Bool}(i j m q:Nat){o o' o'' o3:Oper}(hi:ops[i]?=V o)(hj:ops[j]?=V o')(hm:ops[m]?=V o'')(hq:ops[q]?=V o3)(listed1 listed2 listed3 listed4:Array Bool)(hl1:listed.setIfInBounds i true=listed1)(hl2:listed.setIfInBounds j true=listed2)(hl3:listed.setIfInBounds m true=listed3)(hl4:listed.setIfInBounds q true=listed4)(hr:Region.ready .any ops listed=[i,j,m,q])
  (h1:Run P n Q (.ops ops [o]::.goal (NextA P n Q k ops st C fuel listed1)::k) e w) (h2:Run P n Q (.ops ops [o']::.goal (NextA P n Q k ops st C fuel listed2)::k) e w) (h3:Run P n Q (.ops ops [o'']::.goal (NextA P n Q k ops st C fuel listed3)::k) e w) (h4:Run P n Q (.ops ops [o3]::.goal (NextA P n Q k ops st C fuel listed4)::k) e w):RunA P n Q k ops st C (fuel+1) listed e w:=by
 subst hl1 hl2 hl3 hl4;intro a ha;refine⟨fun h0=>(by rw[hr] at h0;cases h0),fun x hx=>?_⟩;rw[hr] at hx;rcases List.mem_cons.1 hx with rfl|hx
 ·exact qep hi (h1 a ha)
 ·rcases List.mem_cons.1 hx with rfl|hx
  ·exact qep hj (h2 a ha)
  ·rcases List.mem_cons.1 hx with rfl|hx
   ·exact qep hm (h3 a ha)
   ·have:x=q:=by simpa using hx
    subst this;exact qep hq (h4 a ha)
end
end Go.Fw


namespace Go.Fw
open Go Go.Proofs Go.Proofs.Tryz
open Go.RowKit (Below)
open Ch renaming own->oW,box->oX,grp->oG
open GoT renaming v->oV
open Go.Value renaming slice->oS
set_option maxRecDepth 100000
set_option maxHeartbeats 6400000
variable{n:Nat}{w:World}{S:Nat->Prop}{cs1 cs2 cs3 cs4 cs5 cs6 cs7 cs8 cs9:List Value}
structure qaz where
 Ba:ByteArray
 Bw:Int
 Bp:Int
 Bq:Bool
instance gt_TPin:GoT qaz:=isoT (pairT instStr (pairT instInt (pairT instInt instBool))) (fun x=>(x.Ba,x.Bw,x.Bp,x.Bq)) ⟨ByteArray.empty,0,0,false⟩ Z true (fun h=>by cases h)
instance fl_TPin:Flat qaz:=qfA (pairT instStr (pairT instInt (pairT instInt instBool))) (fun x:qaz=>(x.Ba,x.Bw,x.Bp,x.Bq)) ⟨ByteArray.empty,0,0,false⟩ Z true (fun h=>by cases h) (qaS _ _ (inferInstanceAs (Flat ByteArray)) (qaS _ _ (inferInstanceAs (Flat Int)) (qaS _ _ (inferInstanceAs (Flat Int)) (inferInstanceAs (Flat Bool)))))
abbrev qoL(x:qaz):List Value:=[.string x.Ba,vi x.Bw,vi x.Bp,.bool x.Bq]
theorem qeV{x:qaz}{cs:List Value}(h:GoT.R w S x cs):cs=(qoL x):=by
 obtain⟨_,_,rfl,rfl,⟨_,_,rfl,rfl,⟨_,_,rfl,rfl,rfl⟩⟩⟩:=h;exact Z
theorem qka(x:qaz):GoT.R w S x (qoL x):=have h:=pR (rT x.Ba) (pR (rI x.Bw) (pR (rI x.Bp) (rB x.Bq)));h
structure qN where
 Bk:(List Int)
 Be:(List Int)
 Az:(List Int)
instance gt_TTable:GoT qN:=isoT (pairT (@instList Int instInt) (pairT (@instList Int instInt) (@instList Int instInt))) (fun x=>(x.Bk,x.Be,x.Az)) ⟨[],[],[]⟩ Z true (fun h=>by cases h)
abbrev qeE(x:qN)(p0 p1 p2:Option Addr)(k0 k1 k2:Nat):List Value:=[oS p0 (x.Bk).length k0,oS p1 (x.Be).length k1,oS p2 (x.Az).length k2]
theorem qcm{x:qN}{cs:List Value}(h:GoT.R w S x cs):∃d a p1 b f c,cs=(qeE x d p1 f a b c)/\SlR w S x.Bk d a/\SlR w S x.Be p1 b/\SlR w S x.Az f c:=by
 obtain⟨_,_,rfl,⟨d,a,rfl,s0⟩,⟨_,_,rfl,⟨p1,b,rfl,s1⟩,⟨f,c,rfl,s2⟩⟩⟩:=h;exact⟨d,a,p1,b,f,c,rfl,s0,s1,s2⟩
theorem qii(x:qN){d p1 f:Option Addr}{a b c:Nat}(s0:SlR w S x.Bk d a)(s1:SlR w S x.Be p1 b)(s2:SlR w S x.Az f c):GoT.R w S x (qeE x d p1 f a b c):=have h:=pR (rS s0) (pR (rS s1) (rS s2));h
theorem qsH{w0:World}{L:List Ch}(x:qN){I0 I1 I2:List Nat}{a c1 b:List Value}(h:SH w0 w L)(c:PO w L I0 x.Bk a)(d:PO w L I1 x.Be c1)(f:PO w L I2 x.Az b)(b0:apartB I0 (I1++I2)=true)(b1:apartB I1 I2=true):PO w L (I0++(I1++I2)) x (a++(c1++b)):=
 (qcB h c (qcB h d f b1) b0)
structure qak where
 Ar:Int
 Bb:Int
 To:Int
 Bm:Int
 Bi:(List qN)
 Ay:(List qN)
instance gt_TArc:GoT qak:=isoT (pairT instInt (pairT instInt (pairT instInt (pairT instInt (pairT (@instList qN gt_TTable) (@instList qN gt_TTable)))))) (fun x=>(x.Ar,x.Bb,x.To,x.Bm,x.Bi,x.Ay)) ⟨0,0,0,0,[],[]⟩ Z true (fun h=>by cases h)
abbrev qd0(x:qak)(p0 p1:Option Addr)(k0 k1:Nat):List Value:=[vi x.Ar,vi x.Bb,vi x.To,vi x.Bm,oS p0 (x.Bi).length k0,oS p1 (x.Ay).length k1]
theorem qam{x:qak}{cs:List Value}(h:GoT.R w S x cs):∃c a p1 b,cs=(qd0 x c p1 a b)/\SlR w S x.Bi c a/\SlR w S x.Ay p1 b:=by
 obtain⟨_,_,rfl,rfl,⟨_,_,rfl,rfl,⟨_,_,rfl,rfl,⟨_,_,rfl,rfl,⟨_,_,rfl,⟨c,a,rfl,s0⟩,⟨p1,b,rfl,s1⟩⟩⟩⟩⟩⟩:=h;exact⟨c,a,p1,b,rfl,s0,s1⟩
theorem qhf(x:qak){c p1:Option Addr}{a b:Nat}(s0:SlR w S x.Bi c a)(s1:SlR w S x.Ay p1 b):GoT.R w S x (qd0 x c p1 a b):=have h:=pR (rI x.Ar) (pR (rI x.Bb) (pR (rI x.To) (pR (rI x.Bm) (pR (rS s0) (rS s1)))));h
theorem qr4{w0:World}{L:List Ch}(x:qak){I0 I1 I2 I3 I4 I5:List Nat}{a c1 b c d f:List Value}(h:SH w0 w L)(i:PO w L I0 x.Ar a)(k:PO w L I1 x.Bb c1)(l:PO w L I2 x.To b)(m:PO w L I3 x.Bm c)(n:PO w L I4 x.Bi d)(o:PO w L I5 x.Ay f)(b0:apartB I0 (I1++(I2++(I3++(I4++I5))))=true)(b1:apartB I1 (I2++(I3++(I4++I5)))=true)(b2:apartB I2 (I3++(I4++I5))=true)(b3:apartB I3 (I4++I5)=true)(g:apartB I4 I5=true):PO w L (I0++(I1++(I2++(I3++(I4++I5))))) x (a++(c1++(b++(c++(d++f))))):=
 (qcB h i (qcB h k (qcB h l (qcB h m (qcB h n o g) b3) b2) b1) b0)
structure qA where
 Ba:ByteArray
 Ar:Int
 As:(List qaz)
 Ap:(List qak)
 Bo:(List Int)
 Cc:Int
 Bx:Int
instance gt_TCell:GoT qA:=isoT (pairT instStr (pairT instInt (pairT (@instList qaz gt_TPin) (pairT (@instList qak gt_TArc) (pairT (@instList Int instInt) (pairT instInt instInt)))))) (fun x=>(x.Ba,x.Ar,x.As,x.Ap,x.Bo,x.Cc,x.Bx)) ⟨ByteArray.empty,0,[],[],[],0,0⟩ Z true (fun h=>by cases h)
abbrev qI(x:qA)(p0 p1 p2:Option Addr)(k0 k1 k2:Nat):List Value:=[.string x.Ba,vi x.Ar,oS p0 (x.As).length k0,oS p1 (x.Ap).length k1,oS p2 (x.Bo).length k2,vi x.Cc,vi x.Bx]
theorem qW{x:qA}{cs:List Value}(h:GoT.R w S x cs):∃d a p1 b f c,cs=(qI x d p1 f a b c)/\SlR w S x.As d a/\SlR w S x.Ap p1 b/\SlR w S x.Bo f c:=by
 obtain⟨_,_,rfl,rfl,⟨_,_,rfl,rfl,⟨_,_,rfl,⟨d,a,rfl,s0⟩,⟨_,_,rfl,⟨p1,b,rfl,s1⟩,⟨_,_,rfl,⟨f,c,rfl,s2⟩,⟨_,_,rfl,rfl,rfl⟩⟩⟩⟩⟩⟩:=h;exact⟨d,a,p1,b,f,c,rfl,s0,s1,s2⟩
theorem qns(x:qA){d p1 f:Option Addr}{a b c:Nat}(s0:SlR w S x.As d a)(s1:SlR w S x.Ap p1 b)(s2:SlR w S x.Bo f c):GoT.R w S x (qI x d p1 f a b c):=have h:=pR (rT x.Ba) (pR (rI x.Ar) (pR (rS s0) (pR (rS s1) (pR (rS s2) (pR (rI x.Cc) (rI x.Bx))))));h
theorem qpv{x:qA}{g p1 i:Option Addr}{d a f b l2 c:Nat}(h:GoT.R w S x [.string x.Ba,vi x.Ar,oS g d a,oS p1 f b,oS i l2 c,vi x.Cc,vi x.Bx]):(SlR w S x.As g a/\d=(x.As).length)/\(SlR w S x.Ap p1 b/\f=(x.Ap).length)/\(SlR w S x.Bo i c/\l2=(x.Bo).length):=by
 obtain⟨_,_,_,_,_,_,k,s0,s1,s2⟩:=qW h;cases k;exact⟨⟨s0,rfl⟩,⟨s1,rfl⟩,⟨s2,rfl⟩⟩
theorem qos{w0:World}{L:List Ch}(x:qA){I0 I1 I2 I3 I4 I5 I6:List Nat}{a c1 b c d f g:List Value}(h:SH w0 w L)(l:PO w L I0 x.Ba a)(m:PO w L I1 x.Ar c1)(n:PO w L I2 x.As b)(o:PO w L I3 x.Ap c)(p:PO w L I4 x.Bo d)(r:PO w L I5 x.Cc f)(s:PO w L I6 x.Bx g)(b0:apartB I0 (I1++(I2++(I3++(I4++(I5++I6)))))=true)(b1:apartB I1 (I2++(I3++(I4++(I5++I6))))=true)(b2:apartB I2 (I3++(I4++(I5++I6)))=true)(b3:apartB I3 (I4++(I5++I6))=true)(i:apartB I4 (I5++I6)=true)(k:apartB I5 I6=true):PO w L (I0++(I1++(I2++(I3++(I4++(I5++I6)))))) x (a++(c1++(b++(c++(d++(f++g)))))):=
 (qcB h l (qcB h m (qcB h n (qcB h o (qcB h p (qcB h r s k) i) b3) b2) b1) b0)
structure qr where
 Aj:(List qA)
instance gt_TLibrary:GoT qr:=isoT (@instList qA gt_TCell) (fun x=>x.Aj) ⟨[]⟩ Z true (fun h=>by cases h)
theorem qdC{x:qr}{cs:List Value}(h:GoT.R w S x cs):∃b a,cs=[oS b (x.Aj).length a]/\SlR w S x.Aj b a:=by
 obtain⟨b,a,rfl,s0⟩:=h;exact⟨b,a,rfl,s0⟩
theorem qhP(x:qr){b:Option Addr}{a:Nat}(s0:SlR w S x.Aj b a):GoT.R w S x [oS b (x.Aj).length a]:=have h:=rS s0;h
theorem qb3{w0:World}{L:List Ch}{x:qr}{f:Option Addr}{d a:Nat}(h:SH w0 w (oW S x [oS f d a]::L)):∃g,SH w0 w (oW g x.Aj [oS f d a]::L):=by
 obtain⟨k,i⟩:=h.headV;replace i:GoT.O w S x _:=i;obtain⟨q,m,o,s0⟩:=i;cases o;replace k:=k.push (c:=oW S x.Aj [_]) (S2:=(fun _=>False)) ⟨_,_,rfl,s0⟩ (fun _ n=>n.elim) (fun b l=>⟨l,fun h=>h⟩) (fun _ h=>h.elim);exact⟨S,k.sh⟩
theorem qqy{w0:World}{L:List Ch}(x:qr){I0:List Nat}{a:List Value}(_:SH w0 w L)(b:PO w L I0 x.Aj a):PO w L I0 x a:=
 b
structure qz where
 Ba:ByteArray
 Bn:Int
 Ai:(List Int)
instance gt_TInstance:GoT qz:=isoT (pairT instStr (pairT instInt (@instList Int instInt))) (fun x=>(x.Ba,x.Bn,x.Ai)) ⟨ByteArray.empty,0,[]⟩ Z true (fun h=>by cases h)
abbrev qiE(x:qz)(p0:Option Addr)(k0:Nat):List Value:=[.string x.Ba,vi x.Bn,oS p0 (x.Ai).length k0]
theorem qac{x:qz}{cs:List Value}(h:GoT.R w S x cs):∃b a,cs=(qiE x b a)/\SlR w S x.Ai b a:=by
 obtain⟨_,_,rfl,rfl,⟨_,_,rfl,rfl,⟨b,a,rfl,s0⟩⟩⟩:=h;exact⟨b,a,rfl,s0⟩
theorem qma(x:qz){b:Option Addr}{a:Nat}(s0:SlR w S x.Ai b a):GoT.R w S x (qiE x b a):=have h:=pR (rT x.Ba) (pR (rI x.Bn) (rS s0));h
theorem qkS{w0:World}{L:List Ch}{x:qz}{f:Option Addr}{d a:Nat}(h:SH w0 w (oW S x [.string x.Ba,vi x.Bn,oS f d a]::L)):∃g,SH w0 w (oW g x.Ai [oS f d a]::L):=by
 obtain⟨n,l⟩:=h.headV;replace l:GoT.O w S x _:=l;obtain⟨_,_,_,_,o,i,l,_,b0⟩:=l;obtain rfl:=i;cases o;replace n:=n.less b0;obtain⟨_,B1,_,_,o,k,l,_,b1⟩:=l;obtain rfl:=k;cases o;replace n:=n.less b1;obtain⟨q,m,o,s0⟩:=l;cases o;replace n:=n.push (c:=oW B1 x.Ai [_]) (S2:=(fun _=>False)) ⟨_,_,rfl,s0⟩ (fun _ r=>r.elim) (fun b p=>⟨p,fun h=>h⟩) (fun _ h=>h.elim);exact⟨B1,n.sh⟩
theorem qkG{w0:World}{L:List Ch}(x:qz){I0 I1 I2:List Nat}{a c1 b:List Value}(h:SH w0 w L)(c:PO w L I0 x.Ba a)(d:PO w L I1 x.Bn c1)(f:PO w L I2 x.Ai b)(b0:apartB I0 (I1++I2)=true)(b1:apartB I1 I2=true):PO w L (I0++(I1++I2)) x (a++(c1++b)):=
 (qcB h c (qcB h d f b1) b0)
structure qai where
 Ba:ByteArray
 Bw:Int
 Bz:Int
instance gt_TPort:GoT qai:=isoT (pairT instStr (pairT instInt instInt)) (fun x=>(x.Ba,x.Bw,x.Bz)) ⟨ByteArray.empty,0,0⟩ Z true (fun h=>by cases h)
instance fl_TPort:Flat qai:=qfA (pairT instStr (pairT instInt instInt)) (fun x:qai=>(x.Ba,x.Bw,x.Bz)) ⟨ByteArray.empty,0,0⟩ Z true (fun h=>by cases h) (qaS _ _ (inferInstanceAs (Flat ByteArray)) (qaS _ _ (inferInstanceAs (Flat Int)) (inferInstanceAs (Flat Int))))
abbrev qp1(x:qai):List Value:=[.string x.Ba,vi x.Bw,vi x.Bz]
theorem qeD{x:qai}{cs:List Value}(h:GoT.R w S x cs):cs=(qp1 x):=by
 obtain⟨_,_,rfl,rfl,⟨_,_,rfl,rfl,rfl⟩⟩:=h;exact Z
theorem qid(x:qai):GoT.R w S x (qp1 x):=have h:=pR (rT x.Ba) (pR (rI x.Bw) (rI x.Bz));h
structure qh where
 Ab:(List qz)
 Ai:(List ByteArray)
 Af:(List qai)
instance gt_TDesign:GoT qh:=isoT (pairT (@instList qz gt_TInstance) (pairT (@instList ByteArray instStr) (@instList qai gt_TPort))) (fun x=>(x.Ab,x.Ai,x.Af)) ⟨[],[],[]⟩ Z true (fun h=>by cases h)
abbrev qax(x:qh)(p0 p1 p2:Option Addr)(k0 k1 k2:Nat):List Value:=[oS p0 (x.Ab).length k0,oS p1 (x.Ai).length k1,oS p2 (x.Af).length k2]
theorem qa0{x:qh}{cs:List Value}(h:GoT.R w S x cs):∃d a p1 b f c,cs=(qax x d p1 f a b c)/\SlR w S x.Ab d a/\SlR w S x.Ai p1 b/\SlR w S x.Af f c:=by
 obtain⟨_,_,rfl,⟨d,a,rfl,s0⟩,⟨_,_,rfl,⟨p1,b,rfl,s1⟩,⟨f,c,rfl,s2⟩⟩⟩:=h;exact⟨d,a,p1,b,f,c,rfl,s0,s1,s2⟩
theorem qaF(x:qh){d p1 f:Option Addr}{a b c:Nat}(s0:SlR w S x.Ab d a)(s1:SlR w S x.Ai p1 b)(s2:SlR w S x.Af f c):GoT.R w S x (qax x d p1 f a b c):=have h:=pR (rS s0) (pR (rS s1) (rS s2));h
theorem qcv{w0:World}{L:List Ch}{x:qh}{k p1 l:Option Addr}{g a i d l2 f:Nat}(h:SH w0 w (oW S x [oS k g a,oS p1 i d,oS l l2 f]::L)):∃n S1 S2,SH w0 w (oW S2 x.Af [oS l l2 f]::oW S1 x.Ai [oS p1 i d]::oW n x.Ab [oS k g a]::L):=by
 obtain⟨s,r⟩:=h.headV;replace r:GoT.O w S x _:=r;obtain⟨A0,B0,_,_,u,o,r,a0,b0⟩:=r;obtain⟨q,m,rfl,s0⟩:=o;cases u;replace s:=s.push (c:=oW A0 x.Ab [_]) (S2:=B0) ⟨_,_,rfl,s0⟩ (fun _ t=>t.elim) a0 b0;obtain⟨A1,B1,_,_,u,p,r,a1,b1⟩:=r;obtain⟨q,m,rfl,s1⟩:=p;cases u;replace s:=s.push (c:=oW A1 x.Ai [_]) (S2:=B1) ⟨_,_,rfl,s1⟩ (fun _ t=>t.elim) a1 b1;obtain⟨q,m,u,s2⟩:=r;cases u;replace s:=s.push (c:=oW B1 x.Af [_]) (S2:=(fun _=>False)) ⟨_,_,rfl,s2⟩ (fun _ t=>t.elim) (fun b v=>⟨v,fun h=>h⟩) (fun _ h=>h.elim);exact⟨A0,A1,B1,s.sh⟩
theorem qoV{w0:World}{L:List Ch}(x:qh){I0 I1 I2:List Nat}{a c1 b:List Value}(h:SH w0 w L)(c:PO w L I0 x.Ab a)(d:PO w L I1 x.Ai c1)(f:PO w L I2 x.Af b)(b0:apartB I0 (I1++I2)=true)(b1:apartB I1 I2=true):PO w L (I0++(I1++I2)) x (a++(c1++b)):=
 (qcB h c (qcB h d f b1) b0)
structure qV where
 Ak:(List Int)
 Bt:(List Int)
 Bp:(List Int)
 Bc:(List Int)
instance gt_TWire:GoT qV:=isoT (pairT (@instList Int instInt) (pairT (@instList Int instInt) (pairT (@instList Int instInt) (@instList Int instInt)))) (fun x=>(x.Ak,x.Bt,x.Bp,x.Bc)) ⟨[],[],[],[]⟩ Z true (fun h=>by cases h)
abbrev qf8(x:qV)(p0 p1 p2 p3:Option Addr)(k0 k1 k2 k3:Nat):List Value:=[oS p0 (x.Ak).length k0,oS p1 (x.Bt).length k1,oS p2 (x.Bp).length k2,oS p3 (x.Bc).length k3]
theorem qbJ{x:qV}{cs:List Value}(h:GoT.R w S x cs):∃d a p1 b f c g k3,cs=(qf8 x d p1 f g a b c k3)/\SlR w S x.Ak d a/\SlR w S x.Bt p1 b/\SlR w S x.Bp f c/\SlR w S x.Bc g k3:=by
 obtain⟨_,_,rfl,⟨d,a,rfl,s0⟩,⟨_,_,rfl,⟨p1,b,rfl,s1⟩,⟨_,_,rfl,⟨f,c,rfl,s2⟩,⟨g,k3,rfl,i⟩⟩⟩⟩:=h;exact⟨d,a,p1,b,f,c,g,k3,rfl,s0,s1,s2,i⟩
theorem qpt(x:qV){d p1 f g:Option Addr}{a b c k3:Nat}(s0:SlR w S x.Ak d a)(s1:SlR w S x.Bt p1 b)(s2:SlR w S x.Bp f c)(i:SlR w S x.Bc g k3):GoT.R w S x (qf8 x d p1 f g a b c k3):=have h:=pR (rS s0) (pR (rS s1) (pR (rS s2) (rS i)));h
theorem qiC{w0:World}{L:List Ch}{x:qV}{l p1 n o:Option Addr}{g a i d l2 f k k3:Nat}(h:SH w0 w (oW S x [oS l g a,oS p1 i d,oS n l2 f,oS o k k3]::L)):∃p S1 S2 r,SH w0 w (oW r x.Bc [oS o k k3]::oW S2 x.Bp [oS n l2 f]::oW S1 x.Bt [oS p1 i d]::oW p x.Ak [oS l g a]::L):=by
 obtain⟨z,y⟩:=h.headV;replace y:GoT.O w S x _:=y;obtain⟨A0,B0,_,_,B,s,y,a0,b0⟩:=y;obtain⟨q,m,rfl,s0⟩:=s;cases B;replace z:=z.push (c:=oW A0 x.Ak [_]) (S2:=B0) ⟨_,_,rfl,s0⟩ (fun _ A=>A.elim) a0 b0;obtain⟨A1,B1,_,_,B,t,y,a1,b1⟩:=y;obtain⟨q,m,rfl,s1⟩:=t;cases B;replace z:=z.push (c:=oW A1 x.Bt [_]) (S2:=B1) ⟨_,_,rfl,s1⟩ (fun _ A=>A.elim) a1 b1;obtain⟨A2,B2,_,_,B,u,y,a2,b2⟩:=y;obtain⟨q,m,rfl,s2⟩:=u;cases B;replace z:=z.push (c:=oW A2 x.Bp [_]) (S2:=B2) ⟨_,_,rfl,s2⟩ (fun _ A=>A.elim) a2 b2;obtain⟨q,m,B,v⟩:=y;cases B;replace z:=z.push (c:=oW B2 x.Bc [_]) (S2:=(fun _=>False)) ⟨_,_,rfl,v⟩ (fun _ A=>A.elim) (fun b C=>⟨C,fun h=>h⟩) (fun _ h=>h.elim);exact⟨A0,A1,A2,B2,z.sh⟩
theorem qke{w0:World}{L:List Ch}(x:qV){I0 I1 I2 I3:List Nat}{a c1 b c:List Value}(h:SH w0 w L)(d:PO w L I0 x.Ak a)(f:PO w L I1 x.Bt c1)(g:PO w L I2 x.Bp b)(i:PO w L I3 x.Bc c)(b0:apartB I0 (I1++(I2++I3))=true)(b1:apartB I1 (I2++I3)=true)(b2:apartB I2 I3=true):PO w L (I0++(I1++(I2++I3))) x (a++(c1++(b++c))):=
 (qcB h d (qcB h f (qcB h g i b2) b1) b0)
structure qe where
 Ah:qr
 Aa:qh
 Ac:(List qV)
instance gt_TBlock:GoT qe:=isoT (pairT gt_TLibrary (pairT gt_TDesign (@instList qV gt_TWire))) (fun x=>(x.Ah,x.Aa,x.Ac)) ⟨(⟨[]⟩:qr),(⟨[],[],[]⟩:qh),[]⟩ Z true (fun h=>by cases h)
abbrev qG(x:qe)(p0 p1 p2 p3 p4:Option Addr)(k0 k1 k2 k3 k4:Nat):List Value:=[oS p0 (x.Ah.Aj).length k0,oS p1 (x.Aa.Ab).length k1,oS p2 (x.Aa.Ai).length k2,oS p3 (x.Aa.Af).length k3,oS p4 (x.Ac).length k4]
theorem qX{x:qe}{cs:List Value}(h:GoT.R w S x cs):∃f a p1 b g c i k3 k d,cs=(qG x f p1 g i k a b c k3 d)/\SlR w S x.Ah.Aj f a/\SlR w S x.Aa.Ab p1 b/\SlR w S x.Aa.Ai g c/\SlR w S x.Aa.Af i k3/\SlR w S x.Ac k d:=by
 obtain⟨_,_,rfl,⟨f,a,rfl,s0⟩,⟨_,_,rfl,⟨_,_,rfl,⟨p1,b,rfl,s1⟩,⟨_,_,rfl,⟨g,c,rfl,s2⟩,⟨i,k3,rfl,l⟩⟩⟩,⟨k,d,rfl,m⟩⟩⟩:=h;exact⟨f,a,p1,b,g,c,i,k3,k,d,rfl,s0,s1,s2,l,m⟩
theorem qms(x:qe){f p1 g i k:Option Addr}{a b c k3 d:Nat}(s0:SlR w S x.Ah.Aj f a)(s1:SlR w S x.Aa.Ab p1 b)(s2:SlR w S x.Aa.Ai g c)(l:SlR w S x.Aa.Af i k3)(m:SlR w S x.Ac k d):GoT.R w S x (qG x f p1 g i k a b c k3 d):=have h:=pR (qhP x.Ah s0) (pR (qaF x.Aa s1 s2 l) (rS m));h
theorem qov{x:qe}{l p1 m n o:Option Addr}{f a g b l2 c i k3 k d:Nat}(h:GoT.R w S x [oS l f a,oS p1 g b,oS m l2 c,oS n i k3,oS o k d]):(SlR w S x.Ah.Aj l a/\f=(x.Ah.Aj).length)/\(SlR w S x.Aa.Ab p1 b/\g=(x.Aa.Ab).length)/\(SlR w S x.Aa.Ai m c/\l2=(x.Aa.Ai).length)/\(SlR w S x.Aa.Af n k3/\i=(x.Aa.Af).length)/\(SlR w S x.Ac o d/\k=(x.Ac).length):=by
 obtain⟨_,_,_,_,_,_,_,_,_,_,s,s0,s1,s2,p,r⟩:=qX h;cases s;exact⟨⟨s0,rfl⟩,⟨s1,rfl⟩,⟨s2,rfl⟩,⟨p,rfl⟩,⟨r,rfl⟩⟩
theorem qct{w0:World}{L:List Ch}{x:qe}{r p1 l m n:Option Addr}{p o g a l2 d i k3 k f:Nat}(h:SH w0 w (oW S x [oS r p o,oS p1 g a,oS l l2 d,oS m i k3,oS n k f]::L)):∃C S1 S2,SH w0 w (oW S2 x.Ac [oS n k f]::oW S1 x.Aa [oS p1 g a,oS l l2 d,oS m i k3]::oW C x.Ah [oS r p o]::L):=by
 obtain⟨F,D⟩:=h.headV;replace D:GoT.O w S x _:=D;obtain⟨A0,B0,s,e0,u,A,D,a0,b0⟩:=D;have y:s.length=1:=GoT.len (GoT.toR A);obtain⟨rfl,rfl⟩:s=[oS r p o]/\e0=[oS p1 g a,oS l l2 d,oS m i k3,oS n k f]:=by
  have:=List.append_inj (show[oS r p o]++[oS p1 g a,oS l l2 d,oS m i k3,oS n k f]=s++e0 from u) (by rw[y];rfl);exact⟨this.1.symm,this.2.symm⟩
 replace F:=F.push (c:=oW A0 x.Ah [oS r p o]) (S2:=B0) A (fun _ H=>H.elim) a0 b0;obtain⟨A1,B1,t,e1,v,B,D,a1,b1⟩:=D;have z:t.length=3:=GoT.len (GoT.toR B);obtain⟨rfl,rfl⟩:t=[oS p1 g a,oS l l2 d,oS m i k3]/\e1=[oS n k f]:=by
  have:=List.append_inj (show[oS p1 g a,oS l l2 d,oS m i k3]++[oS n k f]=t++e1 from v) (by rw[z];rfl);exact⟨this.1.symm,this.2.symm⟩
 replace F:=F.push (c:=oW A1 x.Aa [oS p1 g a,oS l l2 d,oS m i k3]) (S2:=B1) B (fun _ H=>H.elim) a1 b1;replace F:=F.push (c:=oW B1 x.Ac [oS n k f]) (S2:=(fun _=>False)) D (fun _ H=>H.elim) (fun b I=>⟨I,fun h=>h⟩) (fun _ h=>h.elim);exact⟨A0,A1,B1,F.sh⟩
theorem qsx{w0:World}{L:List Ch}(x:qe){I0 I1 I2:List Nat}{a c1 b:List Value}(h:SH w0 w L)(c:PO w L I0 x.Ah a)(d:PO w L I1 x.Aa c1)(f:PO w L I2 x.Ac b)(b0:apartB I0 (I1++I2)=true)(b1:apartB I1 I2=true):PO w L (I0++(I1++I2)) x (a++(c1++b)):=
 (qcB h c (qcB h d f b1) b0)
structure qC where
 Ba:ByteArray
 Bf:Int
 Bh:Int
 Bg:Int
 Bj:Int
instance gt_TCorner:GoT qC:=isoT (pairT instStr (pairT instInt (pairT instInt (pairT instInt instInt)))) (fun x=>(x.Ba,x.Bf,x.Bh,x.Bg,x.Bj)) ⟨ByteArray.empty,0,0,0,0⟩ Z true (fun h=>by cases h)
instance fl_TCorner:Flat qC:=qfA (pairT instStr (pairT instInt (pairT instInt (pairT instInt instInt)))) (fun x:qC=>(x.Ba,x.Bf,x.Bh,x.Bg,x.Bj)) ⟨ByteArray.empty,0,0,0,0⟩ Z true (fun h=>by cases h) (qaS _ _ (inferInstanceAs (Flat ByteArray)) (qaS _ _ (inferInstanceAs (Flat Int)) (qaS _ _ (inferInstanceAs (Flat Int)) (qaS _ _ (inferInstanceAs (Flat Int)) (inferInstanceAs (Flat Int))))))
abbrev qan(x:qC):List Value:=[.string x.Ba,vi x.Bf,vi x.Bh,vi x.Bg,vi x.Bj]
theorem qaZ{x:qC}{cs:List Value}(h:GoT.R w S x cs):cs=(qan x):=by
 obtain⟨_,_,rfl,rfl,⟨_,_,rfl,rfl,⟨_,_,rfl,rfl,⟨_,_,rfl,rfl,rfl⟩⟩⟩⟩:=h;exact Z
theorem qjE(x:qC):GoT.R w S x (qan x):=have h:=pR (rT x.Ba) (pR (rI x.Bf) (pR (rI x.Bh) (pR (rI x.Bg) (rI x.Bj))));h
structure qbs where
 Cb:Int
 Ca:Int
instance gt_TLatch:GoT qbs:=isoT (pairT instInt instInt) (fun x=>(x.Cb,x.Ca)) ⟨0,0⟩ Z true (fun h=>by cases h)
instance fl_TLatch:Flat qbs:=qfA (pairT instInt instInt) (fun x:qbs=>(x.Cb,x.Ca)) ⟨0,0⟩ Z true (fun h=>by cases h) (qaS _ _ (inferInstanceAs (Flat Int)) (inferInstanceAs (Flat Int)))
abbrev qq9(x:qbs):List Value:=[vi x.Cb,vi x.Ca]
theorem qnR{x:qbs}{cs:List Value}(h:GoT.R w S x cs):cs=(qq9 x):=by
 obtain⟨_,_,rfl,rfl,rfl⟩:=h;exact Z
theorem qoM(x:qbs):GoT.R w S x (qq9 x):=have h:=pR (rI x.Cb) (rI x.Ca);h
structure qB where
 Bb:Int
 To:Int
 Bi:Int
 Bu:Int
instance gt_TLatchLink:GoT qB:=isoT (pairT instInt (pairT instInt (pairT instInt instInt))) (fun x=>(x.Bb,x.To,x.Bi,x.Bu)) ⟨0,0,0,0⟩ Z true (fun h=>by cases h)
instance fl_TLatchLink:Flat qB:=qfA (pairT instInt (pairT instInt (pairT instInt instInt))) (fun x:qB=>(x.Bb,x.To,x.Bi,x.Bu)) ⟨0,0,0,0⟩ Z true (fun h=>by cases h) (qaS _ _ (inferInstanceAs (Flat Int)) (qaS _ _ (inferInstanceAs (Flat Int)) (qaS _ _ (inferInstanceAs (Flat Int)) (inferInstanceAs (Flat Int)))))
abbrev qay(x:qB):List Value:=[vi x.Bb,vi x.To,vi x.Bi,vi x.Bu]
theorem qgh{x:qB}{cs:List Value}(h:GoT.R w S x cs):cs=(qay x):=by
 obtain⟨_,_,rfl,rfl,⟨_,_,rfl,rfl,⟨_,_,rfl,rfl,rfl⟩⟩⟩:=h;exact Z
theorem qlt(x:qB):GoT.R w S x (qay x):=have h:=pR (rI x.Bb) (pR (rI x.To) (pR (rI x.Bi) (rI x.Bu)));h
structure qg where
 Bd:(List qbs)
 Bl:(List qB)
instance gt_TLatchSystem:GoT qg:=isoT (pairT (@instList qbs gt_TLatch) (@instList qB gt_TLatchLink)) (fun x=>(x.Bd,x.Bl)) ⟨[],[]⟩ Z true (fun h=>by cases h)
abbrev qm(x:qg)(p0 p1:Option Addr)(k0 k1:Nat):List Value:=[oS p0 (x.Bd).length k0,oS p1 (x.Bl).length k1]
theorem qdL{x:qg}{cs:List Value}(h:GoT.R w S x cs):∃c a p1 b,cs=(qm x c p1 a b)/\SlR w S x.Bd c a/\SlR w S x.Bl p1 b:=by
 obtain⟨_,_,rfl,⟨c,a,rfl,s0⟩,⟨p1,b,rfl,s1⟩⟩:=h;exact⟨c,a,p1,b,rfl,s0,s1⟩
theorem qc{x:qg}{f p1:Option Addr}{c a d b:Nat}(h:GoT.R w S x [oS f c a,oS p1 d b]):(SlR w S x.Bd f a/\c=(x.Bd).length)/\(SlR w S x.Bl p1 b/\d=(x.Bl).length):=by
 obtain⟨_,_,_,_,g,s0,s1⟩:=qdL h;cases g;exact⟨⟨s0,rfl⟩,⟨s1,rfl⟩⟩
theorem qaW{w0:World}{L:List Ch}(x:qg){I0 I1:List Nat}{a c1:List Value}(h:SH w0 w L)(b:PO w L I0 x.Bd a)(c:PO w L I1 x.Bl c1)(b0:apartB I0 I1=true):PO w L (I0++I1) x (a++c1):=
 (qcB h b c b0)
structure qk where
 Aq:Int
 Av:Int
instance gt_TSpan:GoT qk:=isoT (pairT instInt instInt) (fun x=>(x.Aq,x.Av)) ⟨0,0⟩ Z true (fun h=>by cases h)
instance fl_TSpan:Flat qk:=qfA (pairT instInt instInt) (fun x:qk=>(x.Aq,x.Av)) ⟨0,0⟩ Z true (fun h=>by cases h) (qaS _ _ (inferInstanceAs (Flat Int)) (inferInstanceAs (Flat Int)))
abbrev qhW(x:qk):List Value:=[vi x.Aq,vi x.Av]
theorem qL{x:qk}{cs:List Value}(h:GoT.R w S x cs):cs=(qhW x):=by
 obtain⟨_,_,rfl,rfl,rfl⟩:=h;exact Z
theorem qR(x:qk):GoT.R w S x (qhW x):=have h:=pR (rI x.Aq) (rI x.Av);h
structure qx where
 Bs:Int
 Am:qk
 Ay:qk
instance gt_TSource:GoT qx:=isoT (pairT instInt (pairT gt_TSpan gt_TSpan)) (fun x=>(x.Bs,x.Am,x.Ay)) ⟨0,(⟨0,0⟩:qk),(⟨0,0⟩:qk)⟩ Z true (fun h=>by cases h)
instance fl_TSource:Flat qx:=qfA (pairT instInt (pairT gt_TSpan gt_TSpan)) (fun x:qx=>(x.Bs,x.Am,x.Ay)) ⟨0,(⟨0,0⟩:qk),(⟨0,0⟩:qk)⟩ Z true (fun h=>by cases h) (qaS _ _ (inferInstanceAs (Flat Int)) (qaS _ _ (inferInstanceAs (Flat qk)) (inferInstanceAs (Flat qk))))
abbrev qfQ(x:qx):List Value:=[vi x.Bs,vi x.Am.Aq,vi x.Am.Av,vi x.Ay.Aq,vi x.Ay.Av]
theorem qfl{x:qx}{cs:List Value}(h:GoT.R w S x cs):cs=(qfQ x):=by
 obtain⟨_,_,rfl,rfl,⟨_,_,rfl,⟨_,_,rfl,rfl,rfl⟩,⟨_,_,rfl,rfl,rfl⟩⟩⟩:=h;exact Z
theorem qeo(x:qx):GoT.R w S x (qfQ x):=have h:=pR (rI x.Bs) (pR (qR x.Am) (qR x.Ay));h
structure qF where
 Au:(List Bool)
 Am:(List qk)
 Ay:(List qk)
instance gt_TTiming:GoT qF:=isoT (pairT (@instList Bool instBool) (pairT (@instList qk gt_TSpan) (@instList qk gt_TSpan))) (fun x=>(x.Au,x.Am,x.Ay)) ⟨[],[],[]⟩ Z true (fun h=>by cases h)
abbrev qbi(x:qF)(p0 p1 p2:Option Addr)(k0 k1 k2:Nat):List Value:=[oS p0 (x.Au).length k0,oS p1 (x.Am).length k1,oS p2 (x.Ay).length k2]
theorem qfm{x:qF}{cs:List Value}(h:GoT.R w S x cs):∃d a p1 b f c,cs=(qbi x d p1 f a b c)/\SlR w S x.Au d a/\SlR w S x.Am p1 b/\SlR w S x.Ay f c:=by
 obtain⟨_,_,rfl,⟨d,a,rfl,s0⟩,⟨_,_,rfl,⟨p1,b,rfl,s1⟩,⟨f,c,rfl,s2⟩⟩⟩:=h;exact⟨d,a,p1,b,f,c,rfl,s0,s1,s2⟩
theorem qmc{w0:World}{L:List Ch}{x:qF}{k p1 l:Option Addr}{g a i d l2 f:Nat}(h:SH w0 w (oW S x [oS k g a,oS p1 i d,oS l l2 f]::L)):∃n S1 S2,SH w0 w (oW S2 x.Ay [oS l l2 f]::oW S1 x.Am [oS p1 i d]::oW n x.Au [oS k g a]::L):=by
 obtain⟨s,r⟩:=h.headV;replace r:GoT.O w S x _:=r;obtain⟨A0,B0,_,_,u,o,r,a0,b0⟩:=r;obtain⟨q,m,rfl,s0⟩:=o;cases u;replace s:=s.push (c:=oW A0 x.Au [_]) (S2:=B0) ⟨_,_,rfl,s0⟩ (fun _ t=>t.elim) a0 b0;obtain⟨A1,B1,_,_,u,p,r,a1,b1⟩:=r;obtain⟨q,m,rfl,s1⟩:=p;cases u;replace s:=s.push (c:=oW A1 x.Am [_]) (S2:=B1) ⟨_,_,rfl,s1⟩ (fun _ t=>t.elim) a1 b1;obtain⟨q,m,u,s2⟩:=r;cases u;replace s:=s.push (c:=oW B1 x.Ay [_]) (S2:=(fun _=>False)) ⟨_,_,rfl,s2⟩ (fun _ t=>t.elim) (fun b v=>⟨v,fun h=>h⟩) (fun _ h=>h.elim);exact⟨A0,A1,B1,s.sh⟩
theorem qij{w0:World}{L:List Ch}(x:qF){I0 I1 I2:List Nat}{a c1 b:List Value}(h:SH w0 w L)(c:PO w L I0 x.Au a)(d:PO w L I1 x.Am c1)(f:PO w L I2 x.Ay b)(b0:apartB I0 (I1++I2)=true)(b1:apartB I1 I2=true):PO w L (I0++(I1++I2)) x (a++(c1++b)):=
 (qcB h c (qcB h d f b1) b0)
structure Tl01Source where
 code:(List (IntK .u8))
 at_:Int
 seed:Int
instance gt_Tl01Source:GoT Tl01Source:=isoT (pairT (@instList (IntK .u8) (@gt_IntK .u8)) (pairT instInt instInt)) (fun x=>(x.code,x.at_,x.seed)) ⟨[],0,0⟩ Z true (fun h=>by cases h)
abbrev qaR(x:Tl01Source)(p0:Option Addr)(k0:Nat):List Value:=[oS p0 (x.code).length k0,vi x.at_,vi x.seed]
theorem qn3{x:Tl01Source}{cs:List Value}(h:GoT.R w S x cs):∃b a,cs=(qaR x b a)/\SlR w S x.code b a:=by
 obtain⟨_,_,rfl,⟨b,a,rfl,s0⟩,⟨_,_,rfl,rfl,rfl⟩⟩:=h;exact⟨b,a,rfl,s0⟩
theorem qcu(x:Tl01Source){b:Option Addr}{a:Nat}(s0:SlR w S x.code b a):GoT.R w S x (qaR x b a):=have h:=pR (rS s0) (pR (rI x.at_) (rI x.seed));h
theorem qf{x:Tl01Source}{c:Option Addr}{b a:Nat}(h:GoT.R w S x [oS c b a,vi x.at_,vi x.seed]):(SlR w S x.code c a/\b=(x.code).length):=by
 obtain⟨_,_,d,s0⟩:=qn3 h;cases d;exact⟨s0,rfl⟩
structure Tplace where
 instance_:Int
 pin:Int
 net:Int
 drives:Bool
instance gt_Tplace:GoT Tplace:=isoT (pairT instInt (pairT instInt (pairT instInt instBool))) (fun x=>(x.instance_,x.pin,x.net,x.drives)) ⟨0,0,0,false⟩ Z true (fun h=>by cases h)
instance fl_Tplace:Flat Tplace:=qfA (pairT instInt (pairT instInt (pairT instInt instBool))) (fun x:Tplace=>(x.instance_,x.pin,x.net,x.drives)) ⟨0,0,0,false⟩ Z true (fun h=>by cases h) (qaS _ _ (inferInstanceAs (Flat Int)) (qaS _ _ (inferInstanceAs (Flat Int)) (qaS _ _ (inferInstanceAs (Flat Int)) (inferInstanceAs (Flat Bool)))))
abbrev qoY(x:Tplace):List Value:=[vi x.instance_,vi x.pin,vi x.net,.bool x.drives]
theorem qff{x:Tplace}{cs:List Value}(h:GoT.R w S x cs):cs=(qoY x):=by
 obtain⟨_,_,rfl,rfl,⟨_,_,rfl,rfl,⟨_,_,rfl,rfl,rfl⟩⟩⟩:=h;exact Z
theorem qkD(x:Tplace):GoT.R w S x (qoY x):=have h:=pR (rI x.instance_) (pR (rI x.pin) (pR (rI x.net) (rB x.drives)));h
structure qu where
 Bb:Int
 To:Int
 Ar:Int
 Bv:Int
instance gt_TLink:GoT qu:=isoT (pairT instInt (pairT instInt (pairT instInt instInt))) (fun x=>(x.Bb,x.To,x.Ar,x.Bv)) ⟨0,0,0,0⟩ Z true (fun h=>by cases h)
instance fl_TLink:Flat qu:=qfA (pairT instInt (pairT instInt (pairT instInt instInt))) (fun x:qu=>(x.Bb,x.To,x.Ar,x.Bv)) ⟨0,0,0,0⟩ Z true (fun h=>by cases h) (qaS _ _ (inferInstanceAs (Flat Int)) (qaS _ _ (inferInstanceAs (Flat Int)) (qaS _ _ (inferInstanceAs (Flat Int)) (inferInstanceAs (Flat Int)))))
abbrev qi3(x:qu):List Value:=[vi x.Bb,vi x.To,vi x.Ar,vi x.Bv]
theorem qau{x:qu}{cs:List Value}(h:GoT.R w S x cs):cs=(qi3 x):=by
 obtain⟨_,_,rfl,rfl,⟨_,_,rfl,rfl,⟨_,_,rfl,rfl,rfl⟩⟩⟩:=h;exact Z
theorem qcd(x:qu):GoT.R w S x (qi3 x):=have h:=pR (rI x.Bb) (pR (rI x.To) (pR (rI x.Ar) (rI x.Bv)));h
structure Tview where
 Br:qe
 places:(List Tplace)
 links:(List qu)
 loads:(List Int)
 delays:(List (List Int))
 extras:(List Int)
instance gt_Tview:GoT Tview:=isoT (pairT gt_TBlock (pairT (@instList Tplace gt_Tplace) (pairT (@instList qu gt_TLink) (pairT (@instList Int instInt) (pairT (@instList (List Int) (@instList Int instInt)) (@instList Int instInt)))))) (fun x=>(x.Br,x.places,x.links,x.loads,x.delays,x.extras)) ⟨(⟨(⟨[]⟩:qr),(⟨[],[],[]⟩:qh),[]⟩:qe),[],[],[],[],[]⟩ Z true (fun h=>by cases h)
abbrev qt6(x:Tview)(p0 p1 p2 p3 p4 p5 p6 p7 p8 p9:Option Addr)(k0 k1 k2 k3 k4 k5 k6 k7 k8 k9:Nat):List Value:=[oS p0 (x.Br.Ah.Aj).length k0,oS p1 (x.Br.Aa.Ab).length k1,oS p2 (x.Br.Aa.Ai).length k2,oS p3 (x.Br.Aa.Af).length k3,oS p4 (x.Br.Ac).length k4,oS p5 (x.places).length k5,oS p6 (x.links).length k6,oS p7 (x.loads).length k7,oS p8 (x.delays).length k8,oS p9 (x.extras).length k9]
theorem qb9{x:Tview}{cs:List Value}(h:GoT.R w S x cs):∃m a p1 b n c o k3 p d r f s g t i u k v l,cs=(qt6 x m p1 n o p r s t u v a b c k3 d f g i k l)/\SlR w S x.Br.Ah.Aj m a/\SlR w S x.Br.Aa.Ab p1 b/\SlR w S x.Br.Aa.Ai n c/\SlR w S x.Br.Aa.Af o k3/\SlR w S x.Br.Ac p d/\SlR w S x.places r f/\SlR w S x.links s g/\SlR w S x.loads t i/\SlR w S x.delays u k/\SlR w S x.extras v l:=by
 obtain⟨_,_,rfl,⟨_,_,rfl,⟨m,a,rfl,s0⟩,⟨_,_,rfl,⟨_,_,rfl,⟨p1,b,rfl,s1⟩,⟨_,_,rfl,⟨n,c,rfl,s2⟩,⟨o,k3,rfl,y⟩⟩⟩,⟨p,d,rfl,z⟩⟩⟩,⟨_,_,rfl,⟨r,f,rfl,A⟩,⟨_,_,rfl,⟨s,g,rfl,B⟩,⟨_,_,rfl,⟨t,i,rfl,C⟩,⟨_,_,rfl,⟨u,k,rfl,D⟩,⟨v,l,rfl,F⟩⟩⟩⟩⟩⟩:=h;exact⟨m,a,p1,b,n,c,o,k3,p,d,r,f,s,g,t,i,u,k,v,l,rfl,s0,s1,s2,y,z,A,B,C,D,F⟩
structure TlatchSite where
 instance_:Int
 first:Int
 arc:Int
instance gt_TlatchSite:GoT TlatchSite:=isoT (pairT instInt (pairT instInt instInt)) (fun x=>(x.instance_,x.first,x.arc)) ⟨0,0,0⟩ Z true (fun h=>by cases h)
instance fl_TlatchSite:Flat TlatchSite:=qfA (pairT instInt (pairT instInt instInt)) (fun x:TlatchSite=>(x.instance_,x.first,x.arc)) ⟨0,0,0⟩ Z true (fun h=>by cases h) (qaS _ _ (inferInstanceAs (Flat Int)) (qaS _ _ (inferInstanceAs (Flat Int)) (inferInstanceAs (Flat Int))))
abbrev qiX(x:TlatchSite):List Value:=[vi x.instance_,vi x.first,vi x.arc]
theorem qiN{x:TlatchSite}{cs:List Value}(h:GoT.R w S x cs):cs=(qiX x):=by
 obtain⟨_,_,rfl,rfl,⟨_,_,rfl,rfl,rfl⟩⟩:=h;exact Z
theorem qjr(x:TlatchSite):GoT.R w S x (qiX x):=have h:=pR (rI x.instance_) (pR (rI x.first) (rI x.arc));h
structure Tgraph where
 view:(Option Tview)
 live:(List Bool)
instance gt_Tgraph:GoT Tgraph:=isoT (pairT (@instPtr Tview gt_Tview) (@instList Bool instBool)) (fun x=>(x.view,x.live)) ⟨U,[]⟩ Z true (fun h=>by cases h)
abbrev qtV(x:Tgraph)(p0 p1:Option Addr)(k1:Nat):List Value:=[.pointer p0,oS p1 (x.live).length k1]
theorem qgP{x:Tgraph}{cs:List Value}(h:GoT.R w S x cs):∃b p1 a,cs=(qtV x b p1 a)/\PtR w S x.view b/\SlR w S x.live p1 a:=by
 obtain⟨_,_,rfl,c,⟨p1,a,rfl,s1⟩⟩:=h;obtain⟨b,rfl,s0⟩:=qcx c;exact⟨b,p1,a,rfl,s0,s1⟩
structure Tl05Place where
 instance_:Int
 pin:Int
 net:Int
 drives:Bool
instance gt_Tl05Place:GoT Tl05Place:=isoT (pairT instInt (pairT instInt (pairT instInt instBool))) (fun x=>(x.instance_,x.pin,x.net,x.drives)) ⟨0,0,0,false⟩ Z true (fun h=>by cases h)
instance fl_Tl05Place:Flat Tl05Place:=qfA (pairT instInt (pairT instInt (pairT instInt instBool))) (fun x:Tl05Place=>(x.instance_,x.pin,x.net,x.drives)) ⟨0,0,0,false⟩ Z true (fun h=>by cases h) (qaS _ _ (inferInstanceAs (Flat Int)) (qaS _ _ (inferInstanceAs (Flat Int)) (qaS _ _ (inferInstanceAs (Flat Int)) (inferInstanceAs (Flat Bool)))))
abbrev qjQ(x:Tl05Place):List Value:=[vi x.instance_,vi x.pin,vi x.net,.bool x.drives]
theorem qbx{x:Tl05Place}{cs:List Value}(h:GoT.R w S x cs):cs=(qjQ x):=by
 obtain⟨_,_,rfl,rfl,⟨_,_,rfl,rfl,⟨_,_,rfl,rfl,rfl⟩⟩⟩:=h;exact Z
theorem qen(x:Tl05Place):GoT.R w S x (qjQ x):=have h:=pR (rI x.instance_) (pR (rI x.pin) (pR (rI x.net) (rB x.drives)));h
structure qab where
 e0:Int
 e1:Int
instance gt_TA2_Int:GoT qab:=isoT (pairT instInt instInt) (fun x=>(x.e0,x.e1)) ⟨0,0⟩ Z true (fun h=>by cases h)
instance fl_TA2_Int:Flat qab:=qfA (pairT instInt instInt) (fun x:qab=>(x.e0,x.e1)) ⟨0,0⟩ Z true (fun h=>by cases h) (qaS _ _ (inferInstanceAs (Flat Int)) (inferInstanceAs (Flat Int)))
abbrev qpD(x:qab):List Value:=[vi x.e0,vi x.e1]
theorem qpK{x:qab}{cs:List Value}(h:GoT.R w S x cs):cs=(qpD x):=by
 obtain⟨_,_,rfl,rfl,rfl⟩:=h;exact Z
theorem qde(x:qab):GoT.R w S x (qpD x):=have h:=pR (rI x.e0) (rI x.e1);h
structure Tweight where
 index:Int
 part:Int
instance gt_Tweight:GoT Tweight:=isoT (pairT instInt instInt) (fun x=>(x.index,x.part)) ⟨0,0⟩ Z true (fun h=>by cases h)
instance fl_Tweight:Flat Tweight:=qfA (pairT instInt instInt) (fun x:Tweight=>(x.index,x.part)) ⟨0,0⟩ Z true (fun h=>by cases h) (qaS _ _ (inferInstanceAs (Flat Int)) (inferInstanceAs (Flat Int)))
abbrev qnG(x:Tweight):List Value:=[vi x.index,vi x.part]
theorem qmw{x:Tweight}{cs:List Value}(h:GoT.R w S x cs):cs=(qnG x):=by
 obtain⟨_,_,rfl,rfl,rfl⟩:=h;exact Z
theorem qlv(x:Tweight):GoT.R w S x (qnG x):=have h:=pR (rI x.index) (rI x.part);h
def tab:Tab:=[ (2,⟨.int .i64,1,8,V (vi 0),[]⟩),(3,⟨.int .i64,1,8,V (vi 0),[]⟩),(4,⟨.bool,1,1,V (.bool false),[]⟩),(5,⟨.int .u8,1,1,V (.int .u8 0),[]⟩),(9,⟨.str,1,16,V (.string ByteArray.empty),[]⟩),(22,⟨.slice 5,1,24,V (.slice U 0 0),[]⟩),(24,⟨.slice 166,1,24,V (.slice U 0 0),[]⟩),(26,⟨.struct,1,24,V (.agg #[.slice U 0 0]),[(0,1,V false)]⟩),(27,⟨.slice 77,1,24,V (.slice U 0 0),[]⟩),(28,⟨.slice 9,1,24,V (.slice U 0 0),[]⟩),(29,⟨.slice 220,1,24,V (.slice U 0 0),[]⟩),(31,⟨.struct,3,72,V (.agg #[.slice U 0 0,.slice U 0 0,.slice U 0 0]),[(0,1,V false),(1,1,V false),(2,1,V false)]⟩),(32,⟨.slice 152,1,24,V (.slice U 0 0),[]⟩),(34,⟨.struct,5,120,V (.agg #[.slice U 0 0,.slice U 0 0,.slice U 0 0,.slice U 0 0,.slice U 0 0]),[(0,1,V true),(1,3,V true),(4,1,V false)]⟩),(36,⟨.struct,5,48,V (.agg #[.string ByteArray.empty,vi 0,vi 0,vi 0,vi 0]),[(0,1,V false),(1,1,V false),(2,1,V false),(3,1,V false),(4,1,V false)]⟩),(37,⟨.slice 2,1,24,V (.slice U 0 0),[]⟩),(40,⟨.slice 104,1,24,V (.slice U 0 0),[]⟩),(41,⟨.slice 48,1,24,V (.slice U 0 0),[]⟩),(43,⟨.struct,2,48,V (.agg #[.slice U 0 0,.slice U 0 0]),[(0,1,V false),(1,1,V false)]⟩),(48,⟨.struct,4,32,V (.agg #[vi 0,vi 0,vi 0,vi 0]),[(0,1,V false),(1,1,V false),(2,1,V false),(3,1,V false)]⟩),(49,⟨.slice 118,1,24,V (.slice U 0 0),[]⟩),(55,⟨.slice 4,1,24,V (.slice U 0 0),[]⟩),(56,⟨.slice 116,1,24,V (.slice U 0 0),[]⟩),(58,⟨.struct,3,72,V (.agg #[.slice U 0 0,.slice U 0 0,.slice U 0 0]),[(0,1,V false),(1,1,V false),(2,1,V false)]⟩),(71,⟨.ptr,1,8,V (.pointer U),[]⟩),(77,⟨.struct,3,48,V (.agg #[.string ByteArray.empty,vi 0,.slice U 0 0]),[(0,1,V false),(1,1,V false),(2,1,V false)]⟩),(81,⟨.ptr,1,8,V (.pointer U),[]⟩),(85,⟨.slice 173,1,24,V (.slice U 0 0),[]⟩),(90,⟨.struct,2,32,V (.agg #[.pointer U,.slice U 0 0]),[(0,1,V false),(1,1,V false)]⟩),(91,⟨.slice 156,1,24,V (.slice U 0 0),[]⟩),(92,⟨.slice 97,1,24,V (.slice U 0 0),[]⟩),(93,⟨.slice 37,1,24,V (.slice U 0 0),[]⟩),(95,⟨.struct,10,240,V (.agg #[.slice U 0 0,.slice U 0 0,.slice U 0 0,.slice U 0 0,.slice U 0 0,.slice U 0 0,.slice U 0 0,.slice U 0 0,.slice U 0 0,.slice U 0 0]),[(0,5,V true),(5,1,V false),(6,1,V false),(7,1,V false),(8,1,V false),(9,1,V false)]⟩),(97,⟨.struct,4,32,V (.agg #[vi 0,vi 0,vi 0,vi 0]),[(0,1,V false),(1,1,V false),(2,1,V false),(3,1,V false)]⟩),(104,⟨.struct,2,16,V (.agg #[vi 0,vi 0]),[(0,1,V false),(1,1,V false)]⟩),(116,⟨.struct,2,16,V (.agg #[vi 0,vi 0]),[(0,1,V false),(1,1,V false)]⟩),(118,⟨.struct,5,40,V (.agg #[vi 0,vi 0,vi 0,vi 0,vi 0]),[(0,1,V false),(1,2,V true),(3,2,V true)]⟩),(147,⟨.struct,3,40,V (.agg #[.slice U 0 0,vi 0,vi 0]),[(0,1,V false),(1,1,V false),(2,1,V false)]⟩),(152,⟨.struct,4,96,V (.agg #[.slice U 0 0,.slice U 0 0,.slice U 0 0,.slice U 0 0]),[(0,1,V false),(1,1,V false),(2,1,V false),(3,1,V false)]⟩),(156,⟨.struct,4,32,V (.agg #[vi 0,vi 0,vi 0,.bool false]),[(0,1,V false),(1,1,V false),(2,1,V false),(3,1,V false)]⟩),(163,⟨.slice 239,1,24,V (.slice U 0 0),[]⟩),(164,⟨.slice 170,1,24,V (.slice U 0 0),[]⟩),(166,⟨.struct,7,112,V (.agg #[.string ByteArray.empty,vi 0,.slice U 0 0,.slice U 0 0,.slice U 0 0,vi 0,vi 0]),[(0,1,V false),(1,1,V false),(2,1,V false),(3,1,V false),(4,1,V false),(5,1,V false),(6,1,V false)]⟩),(168,⟨.slice 250,1,24,V (.slice U 0 0),[]⟩),(170,⟨.struct,6,80,V (.agg #[vi 0,vi 0,vi 0,vi 0,.slice U 0 0,.slice U 0 0]),[(0,1,V false),(1,1,V false),(2,1,V false),(3,1,V false),(4,1,V false),(5,1,V false)]⟩),(173,⟨.struct,3,24,V (.agg #[vi 0,vi 0,vi 0]),[(0,1,V false),(1,1,V false),(2,1,V false)]⟩),(175,⟨.slice 3,1,24,V (.slice U 0 0),[]⟩),(186,⟨.slice 189,1,24,V (.slice U 0 0),[]⟩),(189,⟨.struct,4,32,V (.agg #[vi 0,vi 0,vi 0,.bool false]),[(0,1,V false),(1,1,V false),(2,1,V false),(3,1,V false)]⟩),(212,⟨.int .u64,1,8,V (.int .u64 0),[]⟩),(220,⟨.struct,3,32,V (.agg #[.string ByteArray.empty,vi 0,vi 0]),[(0,1,V false),(1,1,V false),(2,1,V false)]⟩),(232,⟨.slice 234,1,24,V (.slice U 0 0),[]⟩),(234,⟨.arr 2 2,2,16,V (.agg #[vi 0,vi 0]),[]⟩),(239,⟨.struct,4,40,V (.agg #[.string ByteArray.empty,vi 0,vi 0,.bool false]),[(0,1,V false),(1,1,V false),(2,1,V false),(3,1,V false)]⟩),(250,⟨.struct,3,72,V (.agg #[.slice U 0 0,.slice U 0 0,.slice U 0 0]),[(0,1,V false),(1,1,V false),(2,1,V false)]⟩),(320,⟨.slice 324,1,24,V (.slice U 0 0),[]⟩),(324,⟨.struct,2,16,V (.agg #[vi 0,vi 0]),[(0,1,V false),(1,1,V false)]⟩)]
theorem qa:TabOk prog tab:=TabOk.mk (by kernel_rfl)
theorem rp{n:Nat}{Q:Exit->Act->World->Prop}{k:List It}{e:Env}{w:World}{all:Array Oper}{l:List Oper}{a:Op}{d t:Nat}{ps:String}{af:Array Edge}{v:Value}
  (h:pev tab e a=V v) (c:Nat.blt d n=true) (b:Run prog n Q (.ops all l::k) ((d,v)::e) w):Run prog n Q (.ops all (⟨V d,a,t,ps,af,U⟩::l)::k) e w:=r_p qa h c b
theorem dp{n:Nat}{Q:Exit->Act->World->Prop}{k:List It}{e:Env}{w:World}{all:Array Oper}{l:List Oper}{a:Op}{d t:Nat}{ps:String}{af:Array Edge}{v:Value}
  (h:pev tab e a=V v) (c:Nat.blt d n=true) (b:RunD prog n Q k all w l ((d,v)::e)):RunD prog n Q k all w (⟨V d,a,t,ps,af,U⟩::l) e:=d_p qa h c b
section
variable{P:Program}{n:Nat}{Q:Exit->Act->World->Prop}{k:List It}{e:Env}{w:World}
theorem zSR{c:Nat}{a:List Oper}{b:Code}(h:Run P n Q (.ops a.toArray a::.code b::k) e w):Run P n Q (.code (.seq (.region c a.toArray false) b)::k) e w:=qcz <|qjl h
theorem zKSR{c:Nat}{a:List Oper}{b:Code}(h:Run P n Q (.ops a.toArray a::.code b::k) e w):Run P n Q (.code .skip::.code (.seq (.region c a.toArray false) b)::k) e w:=qfD <|qcz <|qjl h
theorem zNSR{a1:Array Oper}{c:Nat}{a:List Oper}{b:Code}(h:Run P n Q (.ops a.toArray a::.code b::k) e w):Run P n Q (.ops a1 []::.code (.seq (.region c a.toArray false) b)::k) e w:=qbe <|qcz <|qjl h
theorem zKS{a:Code}{b:Code}(h:Run P n Q (.code a::.code b::k) e w):Run P n Q (.code .skip::.code (.seq a b)::k) e w:=qfD <|qcz h
theorem zNS{a1:Array Oper}{a:Code}{b:Code}(h:Run P n Q (.code a::.code b::k) e w):Run P n Q (.ops a1 []::.code (.seq a b)::k) e w:=qbe <|qcz h
theorem zNSS{a1:Array Oper}{b:Code}{c:Code}{a:Code}(h:Run P n Q (.code b::.code c::.code a::k) e w):Run P n Q (.ops a1 []::.code (.seq (.seq b c) a)::k) e w:=qbe <|qcz <|qcz h
theorem zKSB{a:Nat}{c:Code}{b:Code}(h:Run P n Q (.code c::.blk a::.code b::k) e w):Run P n Q (.code .skip::.code (.seq (.block a c) b)::k) e w:=qfD <|qcz <|qp h
theorem zKSBSR{b:Nat}{f:Nat}{a:List Oper}{d:Code}{c:Code}(h:Run P n Q (.ops a.toArray a::.code d::.blk b::.code c::k) e w):Run P n Q (.code .skip::.code (.seq (.block b (.seq (.region f a.toArray false) d)) c)::k) e w:=qfD <|qcz <|qp <|qcz <|qjl h
theorem zSS{b:Code}{c:Code}{a:Code}(h:Run P n Q (.code b::.code c::.code a::k) e w):Run P n Q (.code (.seq (.seq b c) a)::k) e w:=qcz <|qcz h
theorem zKSS{b:Code}{c:Code}{a:Code}(h:Run P n Q (.code b::.code c::.code a::k) e w):Run P n Q (.code .skip::.code (.seq (.seq b c) a)::k) e w:=qfD <|qcz <|qcz h
end
section
variable{w0 w:World}{L:List Ch}{n:Nat}{Q:Exit->Act->World->Prop}{k k':List It}{e e':Env}{all:Array Oper}{l l':List Oper}{z:List Nat}
theorem X0(m:Nat)(a:xs tab n m [] k e [] []=V (k',e',z,z))(b:Run prog n Q k' e' w):Run prog n Q k e w:=((qpf (P:=prog) (Q:=Q) (w:=w) qa m _ _ _ _ _ _ _ _ _ (fun _ h=>by cases h) rfl a).2 rfl).2 b
theorem Y0(m:Nat)(a:xd tab n all m [] l e [] []=V (l',e',z,z))(b:RunD prog n Q k all w l' e'):RunD prog n Q k all w l e:=((qu7 (P:=prog) (Q:=Q) (k:=k) (w:=w) (all:=all) qa m _ _ _ _ _ _ _ _ _ (fun _ h=>by cases h) rfl a).2 rfl).2 b
theorem X1(m:Nat)(i0:Nat){b0 b:Nat}{a:List Value}(h:SH w0 w L)(c:(L[i0]?,xs tab n m [(b0,a)] k e [] [])=(V (oX b0 a b),V (k',e',z,z)))(f:Run prog n Q k' e' w):Run prog n Q k e w:=by
 simp only[Prod.mk.injEq] at c;exact((qpf (P:=prog) (Q:=Q) (w:=w) qa m _ _ _ _ _ _ _ _ _ (fun p d=>by
  simp only[jI,jz,or_false] at d;rcases d with rfl
  ·exact h.box i0 c.1) Z c.2).2 Z).2 f
theorem Y1(m:Nat)(i0:Nat){b0 b:Nat}{a:List Value}(h:SH w0 w L)(c:(L[i0]?,xd tab n all m [(b0,a)] l e [] [])=(V (oX b0 a b),V (l',e',z,z)))(f:RunD prog n Q k all w l' e'):RunD prog n Q k all w l e:=by
 simp only[Prod.mk.injEq] at c;exact((qu7 (P:=prog) (Q:=Q) (k:=k) (w:=w) (all:=all) qa m _ _ _ _ _ _ _ _ _ (fun p d=>by
  simp only[jI,jz,or_false] at d;rcases d with rfl
  ·exact h.box i0 c.1) Z c.2).2 Z).2 f
theorem X2(m:Nat)(i0 b:Nat){b0 c:Nat}{a:List Value}{b1 d:Nat}{cs1:List Value}(h:SH w0 w L)(f:(L[i0]?,L[b]?,xs tab n m [(b0,a),(b1,cs1)] k e [] [])=(V (oX b0 a c),V (oX b1 cs1 d),V (k',e',z,z)))(i:Run prog n Q k' e' w):Run prog n Q k e w:=by
 simp only[Prod.mk.injEq] at f;exact((qpf (P:=prog) (Q:=Q) (w:=w) qa m _ _ _ _ _ _ _ _ _ (fun p g=>by
  simp only[jI,jz,or_false] at g;rcases g with rfl|rfl
  ·exact h.box i0 f.1
  ·exact h.box b f.2.1) Z f.2.2).2 Z).2 i
theorem X3(m:Nat)(i0 b c:Nat){b0 d:Nat}{a:List Value}{b1 f:Nat}{cs1:List Value}{b2 g:Nat}{cs2:List Value}(h:SH w0 w L)(i:(L[i0]?,L[b]?,L[c]?,xs tab n m [(b0,a),(b1,cs1),(b2,cs2)] k e [] [])=(V (oX b0 a d),V (oX b1 cs1 f),V (oX b2 cs2 g),V (k',e',z,z)))(o:Run prog n Q k' e' w):Run prog n Q k e w:=by
 simp only[Prod.mk.injEq] at i;exact((qpf (P:=prog) (Q:=Q) (w:=w) qa m _ _ _ _ _ _ _ _ _ (fun p l=>by
  simp only[jI,jz,or_false] at l;rcases l with rfl|rfl|rfl
  ·exact h.box i0 i.1
  ·exact h.box b i.2.1
  ·exact h.box c i.2.2.1) Z i.2.2.2).2 Z).2 o
theorem X4(m:Nat)(i0 b c d:Nat){b0 f:Nat}{a:List Value}{b1 g:Nat}{cs1:List Value}{b2 i:Nat}{cs2:List Value}{b3 l:Nat}{cs3:List Value}(h:SH w0 w L)(o:(L[i0]?,L[b]?,L[c]?,L[d]?,xs tab n m [(b0,a),(b1,cs1),(b2,cs2),(b3,cs3)] k e [] [])=(V (oX b0 a f),V (oX b1 cs1 g),V (oX b2 cs2 i),V (oX b3 cs3 l),V (k',e',z,z)))(s:Run prog n Q k' e' w):Run prog n Q k e w:=by
 simp only[Prod.mk.injEq] at o;exact((qpf (P:=prog) (Q:=Q) (w:=w) qa m _ _ _ _ _ _ _ _ _ (fun p r=>by
  simp only[jI,jz,or_false] at r;rcases r with rfl|rfl|rfl|rfl
  ·exact h.box i0 o.1
  ·exact h.box b o.2.1
  ·exact h.box c o.2.2.1
  ·exact h.box d o.2.2.2.1) Z o.2.2.2.2).2 Z).2 s
theorem X5(m:Nat)(i0 c d f g:Nat){b0 i:Nat}{a:List Value}{b1 l:Nat}{cs1:List Value}{b2 o:Nat}{cs2:List Value}{b3 r:Nat}{cs3:List Value}{b s:Nat}{cs4:List Value}(h:SH w0 w L)(t:(L[i0]?,L[c]?,L[d]?,L[f]?,L[g]?,xs tab n m [(b0,a),(b1,cs1),(b2,cs2),(b3,cs3),(b,cs4)] k e [] [])=(V (oX b0 a i),V (oX b1 cs1 l),V (oX b2 cs2 o),V (oX b3 cs3 r),V (oX b cs4 s),V (k',e',z,z)))(v:Run prog n Q k' e' w):Run prog n Q k e w:=by
 simp only[Prod.mk.injEq] at t;exact((qpf (P:=prog) (Q:=Q) (w:=w) qa m _ _ _ _ _ _ _ _ _ (fun p u=>by
  simp only[jI,jz,or_false] at u;rcases u with rfl|rfl|rfl|rfl|rfl
  ·exact h.box i0 t.1
  ·exact h.box c t.2.1
  ·exact h.box d t.2.2.1
  ·exact h.box f t.2.2.2.1
  ·exact h.box g t.2.2.2.2.1) Z t.2.2.2.2.2).2 Z).2 v
end
section
variable{w0 w:World}{L:List Ch}{n:Nat}{Q:Exit->Act->World->Prop}{k:List It}{e:Env}{all:Array Oper}{l:List Oper}
theorem zp1{a:Op}{b f:Nat}{s0:String}{d:Array Edge}{c:Value}(h:(pev tab (e) a,Nat.blt b n)=(V c,true))(g:Run prog n Q (.ops all l::k) ((b,c)::e) w):Run prog n Q (.ops all (⟨V b,a,f,s0,d,U⟩::l)::k) e w:=by
 have H:=h;simp only[Prod.mk.injEq] at H;exact rp (H.1) (H.2) (g)
theorem zd1{a:Op}{b f:Nat}{s0:String}{d:Array Edge}{c:Value}(h:(pev tab (e) a,Nat.blt b n)=(V c,true))(g:RunD prog n Q k all w l ((b,c)::e)):RunD prog n Q k all w (⟨V b,a,f,s0,d,U⟩::l) e:=by
 have H:=h;simp only[Prod.mk.injEq] at H;exact dp (H.1) (H.2) (g)
theorem zp2{a:Op}{c o:Nat}{s0:String}{i:Array Edge}{f:Value}{b:Op}{d p:Nat}{s1:String}{m:Array Edge}{g:Value}(h:(pev tab (e) a,Nat.blt c n,pev tab ((c,f)::e) b,Nat.blt d n)=(V f,true,V g,true))(r:Run prog n Q (.ops all l::k) ((d,g)::(c,f)::e) w):Run prog n Q (.ops all (⟨V c,a,o,s0,i,U⟩::⟨V d,b,p,s1,m,U⟩::l)::k) e w:=by
 have H:=h;simp only[Prod.mk.injEq] at H;exact rp (H.1) (H.2.1) (rp (H.2.2.1) (H.2.2.2) (r))
theorem zd2{a:Op}{c o:Nat}{s0:String}{i:Array Edge}{f:Value}{b:Op}{d p:Nat}{s1:String}{m:Array Edge}{g:Value}(h:(pev tab (e) a,Nat.blt c n,pev tab ((c,f)::e) b,Nat.blt d n)=(V f,true,V g,true))(r:RunD prog n Q k all w l ((d,g)::(c,f)::e)):RunD prog n Q k all w (⟨V c,a,o,s0,i,U⟩::⟨V d,b,p,s1,m,U⟩::l) e:=by
 have H:=h;simp only[Prod.mk.injEq] at H;exact dp (H.1) (H.2.1) (dp (H.2.2.1) (H.2.2.2) (r))
theorem zp3{b:Op}{a s:Nat}{s0:String}{o:Array Edge}{g:Value}{c:Op}{f t:Nat}{s1:String}{p:Array Edge}{i:Value}{d:Op}{d2 u:Nat}{s2:String}{r:Array Edge}{m:Value}(h:(pev tab (e) b,Nat.blt a n,pev tab ((a,g)::e) c,Nat.blt f n,pev tab ((f,i)::(a,g)::e) d,Nat.blt d2 n)=(V g,true,V i,true,V m,true))(v:Run prog n Q (.ops all l::k) ((d2,m)::(f,i)::(a,g)::e) w):Run prog n Q (.ops all (⟨V a,b,s,s0,o,U⟩::⟨V f,c,t,s1,p,U⟩::⟨V d2,d,u,s2,r,U⟩::l)::k) e w:=by
 have H:=h;simp only[Prod.mk.injEq] at H;exact rp (H.1) (H.2.1) (rp (H.2.2.1) (H.2.2.2.1) (rp (H.2.2.2.2.1) (H.2.2.2.2.2) (v)))
theorem zd3{b:Op}{a s:Nat}{s0:String}{o:Array Edge}{g:Value}{c:Op}{f t:Nat}{s1:String}{p:Array Edge}{i:Value}{d:Op}{d2 u:Nat}{s2:String}{r:Array Edge}{m:Value}(h:(pev tab (e) b,Nat.blt a n,pev tab ((a,g)::e) c,Nat.blt f n,pev tab ((f,i)::(a,g)::e) d,Nat.blt d2 n)=(V g,true,V i,true,V m,true))(v:RunD prog n Q k all w l ((d2,m)::(f,i)::(a,g)::e)):RunD prog n Q k all w (⟨V a,b,s,s0,o,U⟩::⟨V f,c,t,s1,p,U⟩::⟨V d2,d,u,s2,r,U⟩::l) e:=by
 have H:=h;simp only[Prod.mk.injEq] at H;exact dp (H.1) (H.2.1) (dp (H.2.2.1) (H.2.2.2.1) (dp (H.2.2.2.2.1) (H.2.2.2.2.2) (v)))
theorem zp4{c:Op}{a y:Nat}{s0:String}{s:Array Edge}{i:Value}{d:Op}{b z:Nat}{s1:String}{t:Array Edge}{m:Value}{f:Op}{d2 A:Nat}{s2:String}{u:Array Edge}{p:Value}{g:Op}{o B:Nat}{x:String}{v:Array Edge}{r:Value}(h:(pev tab (e) c,Nat.blt a n,pev tab ((a,i)::e) d,Nat.blt b n,pev tab ((b,m)::(a,i)::e) f,Nat.blt d2 n,pev tab ((d2,p)::(b,m)::(a,i)::e) g,Nat.blt o n)=(V i,true,V m,true,V p,true,V r,true))(C:Run prog n Q (.ops all l::k) ((o,r)::(d2,p)::(b,m)::(a,i)::e) w):Run prog n Q (.ops all (⟨V a,c,y,s0,s,U⟩::⟨V b,d,z,s1,t,U⟩::⟨V d2,f,A,s2,u,U⟩::⟨V o,g,B,x,v,U⟩::l)::k) e w:=by
 have H:=h;simp only[Prod.mk.injEq] at H;exact rp (H.1) (H.2.1) (rp (H.2.2.1) (H.2.2.2.1) (rp (H.2.2.2.2.1) (H.2.2.2.2.2.1) (rp (H.2.2.2.2.2.2.1) (H.2.2.2.2.2.2.2) (C))))
theorem zd4{c:Op}{a y:Nat}{s0:String}{s:Array Edge}{i:Value}{d:Op}{b z:Nat}{s1:String}{t:Array Edge}{m:Value}{f:Op}{d2 A:Nat}{s2:String}{u:Array Edge}{p:Value}{g:Op}{o B:Nat}{x:String}{v:Array Edge}{r:Value}(h:(pev tab (e) c,Nat.blt a n,pev tab ((a,i)::e) d,Nat.blt b n,pev tab ((b,m)::(a,i)::e) f,Nat.blt d2 n,pev tab ((d2,p)::(b,m)::(a,i)::e) g,Nat.blt o n)=(V i,true,V m,true,V p,true,V r,true))(C:RunD prog n Q k all w l ((o,r)::(d2,p)::(b,m)::(a,i)::e)):RunD prog n Q k all w (⟨V a,c,y,s0,s,U⟩::⟨V b,d,z,s1,t,U⟩::⟨V d2,f,A,s2,u,U⟩::⟨V o,g,B,x,v,U⟩::l) e:=by
 have H:=h;simp only[Prod.mk.injEq] at H;exact dp (H.1) (H.2.1) (dp (H.2.2.1) (H.2.2.2.1) (dp (H.2.2.2.2.1) (H.2.2.2.2.2.1) (dp (H.2.2.2.2.2.2.1) (H.2.2.2.2.2.2.2) (C))))
theorem zp5{d:Op}{a D:Nat}{s0:String}{v:Array Edge}{c:Value}{f:Op}{b F:Nat}{s1:String}{x:Array Edge}{o:Value}{g:Op}{d2 I:Nat}{s2:String}{y:Array Edge}{r:Value}{i:Op}{p J:Nat}{B:String}{z:Array Edge}{t:Value}{m:Op}{s K:Nat}{C:String}{A:Array Edge}{u:Value}(h:(pev tab (e) d,Nat.blt a n,pev tab ((a,c)::e) f,Nat.blt b n,pev tab ((b,o)::(a,c)::e) g,Nat.blt d2 n,pev tab ((d2,r)::(b,o)::(a,c)::e) i,Nat.blt p n,pev tab ((p,t)::(d2,r)::(b,o)::(a,c)::e) m,Nat.blt s n)=(V c,true,V o,true,V r,true,V t,true,V u,true))(L:Run prog n Q (.ops all l::k) ((s,u)::(p,t)::(d2,r)::(b,o)::(a,c)::e) w):Run prog n Q (.ops all (⟨V a,d,D,s0,v,U⟩::⟨V b,f,F,s1,x,U⟩::⟨V d2,g,I,s2,y,U⟩::⟨V p,i,J,B,z,U⟩::⟨V s,m,K,C,A,U⟩::l)::k) e w:=by
 have H:=h;simp only[Prod.mk.injEq] at H;exact rp (H.1) (H.2.1) (rp (H.2.2.1) (H.2.2.2.1) (rp (H.2.2.2.2.1) (H.2.2.2.2.2.1) (rp (H.2.2.2.2.2.2.1) (H.2.2.2.2.2.2.2.1) (rp (H.2.2.2.2.2.2.2.2.1) (H.2.2.2.2.2.2.2.2.2) (L)))))
theorem zd5{d:Op}{a D:Nat}{s0:String}{v:Array Edge}{c:Value}{f:Op}{b F:Nat}{s1:String}{x:Array Edge}{o:Value}{g:Op}{d2 I:Nat}{s2:String}{y:Array Edge}{r:Value}{i:Op}{p J:Nat}{B:String}{z:Array Edge}{t:Value}{m:Op}{s K:Nat}{C:String}{A:Array Edge}{u:Value}(h:(pev tab (e) d,Nat.blt a n,pev tab ((a,c)::e) f,Nat.blt b n,pev tab ((b,o)::(a,c)::e) g,Nat.blt d2 n,pev tab ((d2,r)::(b,o)::(a,c)::e) i,Nat.blt p n,pev tab ((p,t)::(d2,r)::(b,o)::(a,c)::e) m,Nat.blt s n)=(V c,true,V o,true,V r,true,V t,true,V u,true))(L:RunD prog n Q k all w l ((s,u)::(p,t)::(d2,r)::(b,o)::(a,c)::e)):RunD prog n Q k all w (⟨V a,d,D,s0,v,U⟩::⟨V b,f,F,s1,x,U⟩::⟨V d2,g,I,s2,y,U⟩::⟨V p,i,J,B,z,U⟩::⟨V s,m,K,C,A,U⟩::l) e:=by
 have H:=h;simp only[Prod.mk.injEq] at H;exact dp (H.1) (H.2.1) (dp (H.2.2.1) (H.2.2.2.1) (dp (H.2.2.2.2.1) (H.2.2.2.2.2.1) (dp (H.2.2.2.2.2.2.1) (H.2.2.2.2.2.2.2.1) (dp (H.2.2.2.2.2.2.2.2.1) (H.2.2.2.2.2.2.2.2.2) (L)))))
theorem zl(i j:Nat){d t ty:Nat}{x:Operand}{c:TE}{ps:String}{af:Array Edge}{v:Value}{b:Nat}{cs:List Value}{g:TypeId}(h:SH w0 w L)(a:(L[i]?,opv e x,tab.get t,ld c cs j,Nat.blt d n)=(V (oX b cs g),V (.pointer (V ⟨b,0+j,U⟩)),V c,V v,true))
  (f:Run prog n Q (.ops all l::k) ((d,v)::e) w):Run prog n Q (.ops all (⟨V d,.load t x,ty,ps,af,U⟩::l)::k) e w:=by
 simp only[Prod.mk.injEq] at a;exact r_v (qbL qa (h.box i a.1) (j:=j) a.2.1 a.2.2.1 a.2.2.2.1) a.2.2.2.2 f
theorem zc(j:Nat){d t ty:Nat}{x:Operand}{c:TE}{ps:String}{af:Array Edge}{v:Value}{b o:Nat}{cs:List Value}(h:CellsAt w b o cs)(a:(opv e x,tab.get t,ld c cs j,Nat.blt d n)=(V (.pointer (V ⟨b,o+j,U⟩)),V c,V v,true))
  (f:Run prog n Q (.ops all l::k) ((d,v)::e) w):Run prog n Q (.ops all (⟨V d,.load t x,ty,ps,af,U⟩::l)::k) e w:=by
 simp only[Prod.mk.injEq] at a;exact r_v (qbL qa h (j:=j) a.1 a.2.1 a.2.2.1) a.2.2.2 f
theorem zdc(j:Nat){d t ty:Nat}{x:Operand}{c:TE}{ps:String}{af:Array Edge}{v:Value}{b o:Nat}{cs:List Value}(h:CellsAt w b o cs)(a:(opv e x,tab.get t,ld c cs j,Nat.blt d n)=(V (.pointer (V ⟨b,o+j,U⟩)),V c,V v,true))
  (g:RunD prog n Q k all w l ((d,v)::e)):RunD prog n Q k all w (⟨V d,.load t x,ty,ps,af,U⟩::l) e:=by
 simp only[Prod.mk.injEq] at a;exact d_v (fun _ f=>qbL qa (h.below f) (j:=j) a.1 a.2.1 a.2.2.1) a.2.2.2 g
theorem zx{x i:Operand}{t ty d h m:Nat}{s a:TE}{ps:String}{af:Array Edge}{p:Option Addr}{r c:Nat}{kd:IntKind}{iv:Int}{b o q:Nat}(v:p=V ⟨b,o,U⟩)(y:q=o+iv.toNat*m)(g:0<=iv/\iv<r)(f:(opv e x,opv e i,tab.get t,s.kind,tab.get h,a.size,Nat.blt d n)=(V (oS p r c),V (.int kd iv),V s,TK.slice h,V a,m,true))(u:Run prog n Q (.ops all l::k) ((d,.pointer (V ⟨b,q,U⟩))::e) w):Run prog n Q (.ops all (⟨V d,.indexAddr t x i,ty,ps,af,U⟩::l)::k) e w:=by
 simp only[Prod.mk.injEq] at f;exact r_v (qsm qa v y g f.1 f.2.1 f.2.2.1 f.2.2.2.1 f.2.2.2.2.1 f.2.2.2.2.2.1) f.2.2.2.2.2.2 u
theorem zxe{x i:Operand}{t ty d g m:Nat}{r a:TE}{ps:String}{af:Array Edge}{p:Option Addr}{h c:Nat}{kd:IntKind}{iv:Int}{b o q:Nat}{α:Prop}(v:p=V ⟨b,o,U⟩)(y:q=o+iv.toNat*m)(f:0<=iv/\iv<h/\α)(s:(opv e x,opv e i,tab.get t,r.kind,tab.get g,a.size,Nat.blt d n)=(V (oS p h c),V (.int kd iv),V r,TK.slice g,V a,m,true))(u:Run prog n Q (.ops all l::k) ((d,.pointer (V ⟨b,q,U⟩))::e) w):Run prog n Q (.ops all (⟨V d,.indexAddr t x i,ty,ps,af,U⟩::l)::k) e w:=zx v y ⟨f.1,f.2.1⟩ s u
theorem zdx{x i:Operand}{t ty d h m:Nat}{s a:TE}{ps:String}{af:Array Edge}{p:Option Addr}{r c:Nat}{kd:IntKind}{iv:Int}{b o q:Nat}(v:p=V ⟨b,o,U⟩)(y:q=o+iv.toNat*m)(g:0<=iv/\iv<r)(f:(opv e x,opv e i,tab.get t,s.kind,tab.get h,a.size,Nat.blt d n)=(V (oS p r c),V (.int kd iv),V s,TK.slice h,V a,m,true))(u:RunD prog n Q k all w l ((d,.pointer (V ⟨b,q,U⟩))::e)):RunD prog n Q k all w (⟨V d,.indexAddr t x i,ty,ps,af,U⟩::l) e:=by
 simp only[Prod.mk.injEq] at f;exact d_v (fun _ _=>qsm qa v y g f.1 f.2.1 f.2.2.1 f.2.2.2.1 f.2.2.2.2.1 f.2.2.2.2.2.1) f.2.2.2.2.2.2 u
theorem zdxe{x i:Operand}{t ty d g m:Nat}{r a:TE}{ps:String}{af:Array Edge}{p:Option Addr}{h c:Nat}{kd:IntKind}{iv:Int}{b o q:Nat}{α:Prop}(v:p=V ⟨b,o,U⟩)(y:q=o+iv.toNat*m)(f:0<=iv/\iv<h/\α)(s:(opv e x,opv e i,tab.get t,r.kind,tab.get g,a.size,Nat.blt d n)=(V (oS p h c),V (.int kd iv),V r,TK.slice g,V a,m,true))(u:RunD prog n Q k all w l ((d,.pointer (V ⟨b,q,U⟩))::e)):RunD prog n Q k all w (⟨V d,.indexAddr t x i,ty,ps,af,U⟩::l) e:=zdx v y ⟨f.1,f.2.1⟩ s u
theorem zs(i:Nat){t ty:Nat}{ps:String}{af:Array Edge}{x v:Operand}{D:TE}{b j:Nat}{cs A z:List Value}{C:TypeId}{u:Value}{L':List Ch}(h:SH w0 w L)
  (B:(L[i]?,opv e x,opv e v,cellsL u,tab.get t,Nat.beq A.length D.size,Nat.ble (j+A.length) cs.length,ones A,splN cs j A,setN L i (oX b z C))=(V (oX b cs C),V (.pointer (V ⟨b,j,U⟩)),V u,A,V D,true,true,true,V z,V L'))
  (F:∀w',SH w0 w' L'->Run prog n Q (.ops all l::k) e w'):Run prog n Q (.ops all (⟨U,.store t x v,ty,ps,af,U⟩::l)::k) e w:=by
 simp only[Prod.mk.injEq] at B;obtain⟨d,f,g,m,o,p,r,s,y,a⟩:=B;subst m;have e1:=qpN y;have c:=qrQ a;subst e1 c;exact quC qa i h d f g o p r s F
end
section
variable{P:Program}{fnc:Func}{R:Ending->World->Prop}{n:Nat}{k:List It}{e:Env}{w0 w:World}{ops:Array Oper}{st:List Nat}{fuel:Nat}
theorem M0(K:Nat)(is:List Nat){C:World->Prop}{m K0 f a:Nat}{e':Env}{z:List Nat}(b:C w)(c:xa tab n ops is [] f e [] []=V (a,e',z,z))
  (d:RunA prog n (bodyPost prog fnc R) k ops st C a (bits m K) e' w) (g:oka ops st is (bits m K0) (bits m K)=true:=by kernel_rfl):RunA prog n (bodyPost prog fnc R) k ops st C f (bits m K0) e w:=by
 exact((qqV (C:=C) (w:=w) (P:=prog) qa b is _ _ _ _ _ _ _ _ _ _ _ (fun _ h=>by cases h) rfl c g).2 rfl).2 d
theorem G0(K:Nat)(is:List Nat){C:World->Prop}{m K0 f a:Nat}{e':Env}{z:List Nat}{all:Array Oper}(b:C w)(c:xa tab n ops is [] f e [] []=V (a,e',z,z))
  (d:RunA prog n (bodyPost prog fnc R) k ops st C a (bits m K) e' w) (g:oka ops st is (bits m K0) (bits m K)=true:=by kernel_rfl):Run prog n (bodyPost prog fnc R) (.ops all []::.goal (NextA prog n (bodyPost prog fnc R) k ops st C f (bits m K0))::k) e w:=
 Ag b (M0 K is (C:=C) b c d g)
theorem M1(K:Nat)(is:List Nat)(i0:Nat){b0 b:Nat}{a:List Value}{LA:List Ch}{m K0 f d:Nat}{e':Env}{z:List Nat}(h:SH w0 w LA)(c:(LA[i0]?,xa tab n ops is [(b0,a)] f e [] [])=(V (oX b0 a b),V (d,e',z,z)))
  (i:RunA prog n (bodyPost prog fnc R) k ops st (fun w'=>SH w0 w' LA) d (bits m K) e' w) (l:oka ops st is (bits m K0) (bits m K)=true:=by kernel_rfl):RunA prog n (bodyPost prog fnc R) k ops st (fun w'=>SH w0 w' LA) f (bits m K0) e w:=by
 simp only[Prod.mk.injEq] at c;exact((qqV (C:=(fun w'=>SH w0 w' LA)) (w:=w) (P:=prog) qa h is _ _ _ _ _ _ _ _ _ _ _ (fun p g _ o=>by
  simp only[jI,jz,or_false] at g;rcases g with rfl
  ·exact SH.box o i0 c.1) Z c.2 l).2 Z).2 i
theorem M2(K:Nat)(is:List Nat)(i0 b:Nat){b0 c:Nat}{a:List Value}{b1 d:Nat}{cs1:List Value}{LA:List Ch}{m K0 f h:Nat}{e':Env}{z:List Nat}(o:SH w0 w LA)(g:(LA[i0]?,LA[b]?,xa tab n ops is [(b0,a),(b1,cs1)] f e [] [])=(V (oX b0 a c),V (oX b1 cs1 d),V (h,e',z,z)))
  (r:RunA prog n (bodyPost prog fnc R) k ops st (fun w'=>SH w0 w' LA) h (bits m K) e' w) (s:oka ops st is (bits m K0) (bits m K)=true:=by kernel_rfl):RunA prog n (bodyPost prog fnc R) k ops st (fun w'=>SH w0 w' LA) f (bits m K0) e w:=by
 simp only[Prod.mk.injEq] at g;exact((qqV (C:=(fun w'=>SH w0 w' LA)) (w:=w) (P:=prog) qa o is _ _ _ _ _ _ _ _ _ _ _ (fun p i _ l=>by
  simp only[jI,jz,or_false] at i;rcases i with rfl|rfl
  ·exact SH.box l i0 g.1
  ·exact SH.box l b g.2.1) Z g.2.2 s).2 Z).2 r
theorem M3(K:Nat)(is:List Nat)(i0 b c:Nat){b0 d:Nat}{a:List Value}{b1 g:Nat}{cs1:List Value}{b2 h:Nat}{cs2:List Value}{LA:List Ch}{m K0 f o:Nat}{e':Env}{z:List Nat}(s:SH w0 w LA)(i:(LA[i0]?,LA[b]?,LA[c]?,xa tab n ops is [(b0,a),(b1,cs1),(b2,cs2)] f e [] [])=(V (oX b0 a d),V (oX b1 cs1 g),V (oX b2 cs2 h),V (o,e',z,z)))
  (t:RunA prog n (bodyPost prog fnc R) k ops st (fun w'=>SH w0 w' LA) o (bits m K) e' w) (u:oka ops st is (bits m K0) (bits m K)=true:=by kernel_rfl):RunA prog n (bodyPost prog fnc R) k ops st (fun w'=>SH w0 w' LA) f (bits m K0) e w:=by
 simp only[Prod.mk.injEq] at i;exact((qqV (C:=(fun w'=>SH w0 w' LA)) (w:=w) (P:=prog) qa s is _ _ _ _ _ _ _ _ _ _ _ (fun p r _ l=>by
  simp only[jI,jz,or_false] at r;rcases r with rfl|rfl|rfl
  ·exact SH.box l i0 i.1
  ·exact SH.box l b i.2.1
  ·exact SH.box l c i.2.2.1) Z i.2.2.2 u).2 Z).2 t
theorem M4(K:Nat)(is:List Nat)(i0 b c d:Nat){b0 g:Nat}{a:List Value}{b1 h:Nat}{cs1:List Value}{b2 i:Nat}{cs2:List Value}{b3 l:Nat}{cs3:List Value}{LA:List Ch}{m K0 f s:Nat}{e':Env}{z:List Nat}(u:SH w0 w LA)(o:(LA[i0]?,LA[b]?,LA[c]?,LA[d]?,xa tab n ops is [(b0,a),(b1,cs1),(b2,cs2),(b3,cs3)] f e [] [])=(V (oX b0 a g),V (oX b1 cs1 h),V (oX b2 cs2 i),V (oX b3 cs3 l),V (s,e',z,z)))
  (v:RunA prog n (bodyPost prog fnc R) k ops st (fun w'=>SH w0 w' LA) s (bits m K) e' w) (x:oka ops st is (bits m K0) (bits m K)=true:=by kernel_rfl):RunA prog n (bodyPost prog fnc R) k ops st (fun w'=>SH w0 w' LA) f (bits m K0) e w:=by
 simp only[Prod.mk.injEq] at o;exact((qqV (C:=(fun w'=>SH w0 w' LA)) (w:=w) (P:=prog) qa u is _ _ _ _ _ _ _ _ _ _ _ (fun p t _ r=>by
  simp only[jI,jz,or_false] at t;rcases t with rfl|rfl|rfl|rfl
  ·exact SH.box r i0 o.1
  ·exact SH.box r b o.2.1
  ·exact SH.box r c o.2.2.1
  ·exact SH.box r d o.2.2.2.1) Z o.2.2.2.2 x).2 Z).2 v
theorem Aw(i K:Nat){C:World->Prop}{m K0 d:Nat}{b:Op}{t:Nat}{ps:String}{af:Array Edge}{v:Value}(l:∀w',C w'->Val prog n e ⟨V d,b,t,ps,af,U⟩ w' v)(c:C w)(a:(ops[i]?,Nat.blt d n)=(V (⟨V d,b,t,ps,af,U⟩:Oper),true))
  (g:RunA prog n (bodyPost prog fnc R) k ops st C fuel (bits m K) ((d,v)::e) w) (h:(bits m K0).setIfInBounds i true=bits m K:=by kernel_rfl)
  (f:(Region.noSelect ops&&Region.free .any ops (bits m K0) i&&(Region.ready .any ops (bits m K0)).contains i&&st.all (fun s=>!(Nat.beq s i)&&waitsB ops i s&&!((bits m K0).getD s true)))=true:=by kernel_rfl) :
  RunA prog n (bodyPost prog fnc R) k ops st C (fuel+1) (bits m K0) e w:=by
 simp only[Prod.mk.injEq] at a;exact qgF i a.1 _ h f l c a.2 g
theorem Al(i K j:Nat){LA:List Ch}{m K0 d t ty b o:Nat}{x:Operand}{c:TE}{ps:String}{af:Array Edge}{v:Value}{cs:List Value}(h:CellsAt w0 b o cs)(f:SH w0 w LA)
  (a:(ops[i]?,opv e x,tab.get t,ld c cs j,Nat.blt d n)=(V (⟨V d,.load t x,ty,ps,af,U⟩:Oper),V (.pointer (V ⟨b,o+j,U⟩)),V c,V v,true))
  (l:RunA prog n (bodyPost prog fnc R) k ops st (fun w'=>SH w0 w' LA) fuel (bits m K) ((d,v)::e) w) (p:(bits m K0).setIfInBounds i true=bits m K:=by kernel_rfl)
  (g:(Region.noSelect ops&&Region.free .any ops (bits m K0) i&&(Region.ready .any ops (bits m K0)).contains i&&st.all (fun s=>!(Nat.beq s i)&&waitsB ops i s&&!((bits m K0).getD s true)))=true:=by kernel_rfl) :
  RunA prog n (bodyPost prog fnc R) k ops st (fun w'=>SH w0 w' LA) (fuel+1) (bits m K0) e w:=by
 simp only[Prod.mk.injEq] at a;exact qgF i a.1 _ p g (fun w' r=>qbL qa (h.below r.below) (j:=j) a.2.1 a.2.2.1 a.2.2.2.1) f a.2.2.2.2 l
theorem Ax(i K:Nat){C:World->Prop}{m K0 d t ty h q:Nat}{x ix:Operand}{u a:TE}{ps:String}{af:Array Edge}{p:Option Addr}{l c r:Nat}{kd:IntKind}{iv:Int}{b o:Nat}(B:p=V ⟨b,o,U⟩)(D:q=o+iv.toNat*r)(g:0<=iv/\iv<l)(v:C w)
  (f:(ops[i]?,opv e x,opv e ix,tab.get t,u.kind,tab.get h,a.size,Nat.blt d n)=(V (⟨V d,.indexAddr t x ix,ty,ps,af,U⟩:Oper),V (oS p l c),V (.int kd iv),V u,TK.slice h,V a,r,true))
  (z:RunA prog n (bodyPost prog fnc R) k ops st C fuel (bits m K) ((d,.pointer (V ⟨b,q,U⟩))::e) w) (A:(bits m K0).setIfInBounds i true=bits m K:=by kernel_rfl)
  (y:(Region.noSelect ops&&Region.free .any ops (bits m K0) i&&(Region.ready .any ops (bits m K0)).contains i&&st.all (fun s=>!(Nat.beq s i)&&waitsB ops i s&&!((bits m K0).getD s true)))=true:=by kernel_rfl) :
  RunA prog n (bodyPost prog fnc R) k ops st C (fuel+1) (bits m K0) e w:=by
 simp only[Prod.mk.injEq] at f;exact qgF i f.1 _ A y (fun w' _=>qsm qa B D g f.2.1 f.2.2.1 f.2.2.2.1 f.2.2.2.2.1 f.2.2.2.2.2.1 f.2.2.2.2.2.2.1) v f.2.2.2.2.2.2.2 z
theorem Ae(i K:Nat){C:World->Prop}{m K0 d t ty g q:Nat}{x ix:Operand}{r a:TE}{ps:String}{af:Array Edge}{p:Option Addr}{h c l:Nat}{kd:IntKind}{iv:Int}{b o:Nat}{α:Prop}(B:p=V ⟨b,o,U⟩)(D:q=o+iv.toNat*l)(f:0<=iv/\iv<h/\α)(u:C w)
  (y:(ops[i]?,opv e x,opv e ix,tab.get t,r.kind,tab.get g,a.size,Nat.blt d n)=(V (⟨V d,.indexAddr t x ix,ty,ps,af,U⟩:Oper),V (oS p h c),V (.int kd iv),V r,TK.slice g,V a,l,true))
  (z:RunA prog n (bodyPost prog fnc R) k ops st C fuel (bits m K) ((d,.pointer (V ⟨b,q,U⟩))::e) w) (A:(bits m K0).setIfInBounds i true=bits m K:=by kernel_rfl)
  (v:(Region.noSelect ops&&Region.free .any ops (bits m K0) i&&(Region.ready .any ops (bits m K0)).contains i&&st.all (fun s=>!(Nat.beq s i)&&waitsB ops i s&&!((bits m K0).getD s true)))=true:=by kernel_rfl) :
  RunA prog n (bodyPost prog fnc R) k ops st C (fuel+1) (bits m K0) e w:=Ax i K B D ⟨f.1,f.2.1⟩ u y z A v
theorem rb{a:Func}{L:List Ch}{x r:Bool}(h:SH w0 w L)(F:V x=V r)(b:res1 e a.results.toList=V (.bool x)) :
  Run prog n (bodyPost prog a fun e w'=>∃v,e=.returned v/\Below w0.heap.size w0 w'/\∃us,v=tup us/\GoVs.Vs w' (fresh w0 w') r us) (.code .ret::k) e w:=qv0 qa h F (qrT b)
theorem ri{a:Func}{L:List Ch}{x r:Int}(h:SH w0 w L)(F:V x=V r)(b:res1 e a.results.toList=V (vi x)) :
  Run prog n (bodyPost prog a fun e w'=>∃v,e=.returned v/\Below w0.heap.size w0 w'/\∃us,v=tup us/\GoVs.Vs w' (fresh w0 w') r us) (.code .ret::k) e w:=qvZ qa h F (qrT b)
theorem rO{a:Func}{L:List Ch}{α:Type}[GoT α]{r:α}{S:Nat->Prop}{cs:List Value}(i:Nat)(h:SH w0 w L)(hi:L[i]?=V (oW S r cs))(b:ResOk tab e w a.results.toList [oV α cs]) :
  Run prog n (bodyPost prog a fun e w'=>∃v,e=.returned v/\Below w0.heap.size w0 w'/\∃us,v=tup us/\GoVs.Vs w' (fresh w0 w') r us) (.code .ret::k) e w:=qar qa _ h b (PV.done h (qaB (qO i h hi)))
theorem zV{ρ:Type}[GoVs ρ]{f:FuncId}{a:Func}{c:Code}{vs:List Value}{r:ρ}(m:Nat)(d:prog.funcs[f]?=V a)(b:(a.body,a.ntmps,Nat.ble vs.length m)=(V c,m,true))
  (h:SH w w []->Run prog m (bodyPost prog a fun e w'=>∃v,e=.returned v/\Below w.heap.size w w'/\∃us,v=tup us/\GoVs.Vs w' (fresh w w') r us) [.code c] (argEnv 0 vs) w):RetV prog f vs w r:=by
 simp only[Prod.mk.injEq] at b;exact qqJ d b.1 b.2.1 b.2.2 h
end
section
variable{w0 w:World}{L:List Ch}{n:Nat}{Q:Exit->Act->World->Prop}{k:List It}{e:Env}{all:Array Oper}{l:List Oper}{d ty:Nat}{ps:String}{af:Array Edge}{x:Operand}{args:Array Operand}{ats:Array TypeId}{f:FuncId}{fi ca:Array Value}{av vs:List Value}{β:Type}{rr:β}
theorem zcI{F:Option Int}{g:Int->Option β}(h:SH w0 w L)(c:F.bind g=V rr)(m:∀{r},F=V r->RetV prog f vs w r)
  (b:(opv e x,opvs e args.toList,fi.toList++av++ca.toList,Nat.blt d n)=(V (.func (.func f) fi ca),V av,vs,true))
  (o:∀r w' ,SH w0 w' (L)->g r=V rr->Run prog n Q (.ops all l::k) ((d,vi r)::e) w') (a:qeJ prog f:=by exact cA Z):Run prog n Q (.ops all (⟨V d,.call ⟨.value x,args,ats⟩,ty,ps,af,U⟩::l)::k) e w:=by
 obtain⟨r,p,c⟩:=qd c;simp only[Prod.mk.injEq] at b;exact qcC r h a (m p) b.1 b.2.1 b.2.2.1 b.2.2.2 (fun w'  i=>o r w'  i c)
theorem zcB{F:Option Bool}{g:Bool->Option β}(h:SH w0 w L)(c:F.bind g=V rr)(m:∀{r},F=V r->RetV prog f vs w r)
  (b:(opv e x,opvs e args.toList,fi.toList++av++ca.toList,Nat.blt d n)=(V (.func (.func f) fi ca),V av,vs,true))
  (o:∀r w' ,SH w0 w' (L)->g r=V rr->Run prog n Q (.ops all l::k) ((d,.bool r)::e) w') (a:qeJ prog f:=by exact cA Z):Run prog n Q (.ops all (⟨V d,.call ⟨.value x,args,ats⟩,ty,ps,af,U⟩::l)::k) e w:=by
 obtain⟨r,p,c⟩:=qd c;simp only[Prod.mk.injEq] at b;exact quZ r h a (m p) b.1 b.2.1 b.2.2.1 b.2.2.2 (fun w'  i=>o r w'  i c)
theorem zcS{F:Option ByteArray}{g:ByteArray->Option β}(h:SH w0 w L)(c:F.bind g=V rr)(m:∀{r},F=V r->RetV prog f vs w r)
  (b:(opv e x,opvs e args.toList,fi.toList++av++ca.toList,Nat.blt d n)=(V (.func (.func f) fi ca),V av,vs,true))
  (o:∀r w' ,SH w0 w' (L)->g r=V rr->Run prog n Q (.ops all l::k) ((d,.string r)::e) w') (a:qeJ prog f:=by exact cA Z):Run prog n Q (.ops all (⟨V d,.call ⟨.value x,args,ats⟩,ty,ps,af,U⟩::l)::k) e w:=by
 obtain⟨r,p,c⟩:=qd c;simp only[Prod.mk.injEq] at b;exact qod r h a (m p) b.1 b.2.1 b.2.2.1 b.2.2.2 (fun w'  i=>o r w'  i c)
theorem zcL{α:Type}[GoT α]{F:Option (List α)}{g:(List α)->Option β}(h:SH w0 w L)(i:F.bind g=V rr)(o:∀{r},F=V r->RetV prog f vs w r)
  (b:(opv e x,opvs e args.toList,fi.toList++av++ca.toList,Nat.blt d n)=(V (.func (.func f) fi ca),V av,vs,true))
  (s:∀r w' S p c,SH w0 w' (oW S r [oS p r.length c]::L)->g r=V rr->Run prog n Q (.ops all l::k) ((d,oS p r.length c)::e) w') (a:qeJ prog f:=by exact cA Z):Run prog n Q (.ops all (⟨V d,.call ⟨.value x,args,ats⟩,ty,ps,af,U⟩::l)::k) e w:=by
 obtain⟨r,t,i⟩:=qd i;simp only[Prod.mk.injEq] at b;exact qkH r h a (o t) b.1 b.2.1 b.2.2.1 b.2.2.2 (fun w' S p c m=>s r w' S p c m i)
theorem zcO{α:Type}[GoT α]{F:Option α}{g:α->Option β}(h:SH w0 w L)(c:F.bind g=V rr)(m:∀{r},F=V r->RetV prog f vs w r)
  (b:(opv e x,opvs e args.toList,fi.toList++av++ca.toList,Nat.blt d n)=(V (.func (.func f) fi ca),V av,vs,true))
  (o:∀r w' S cs,SH w0 w' (oW S r cs::L)->g r=V rr->Run prog n Q (.ops all l::k) ((d,oV α cs)::e) w') (a:qeJ prog f:=by exact cA Z):Run prog n Q (.ops all (⟨V d,.call ⟨.value x,args,ats⟩,ty,ps,af,U⟩::l)::k) e w:=by
 obtain⟨r,p,c⟩:=qd c;simp only[Prod.mk.injEq] at b;exact qkx r h a (m p) b.1 b.2.1 b.2.2.1 b.2.2.2 (fun w' S cs i=>o r w' S cs i c)
end
def noC:List Nat:=[0,1,253,283]
theorem allC:((List.range 296).all fun f=>noC.contains f || callB prog f)=true:=by kernel_rfl
theorem cA{f:Nat}(h:(Nat.blt f 296&&!noC.contains f)=true):qeJ prog f:=by
 rw[jf,Nat.blt_eq,jC] at h;have:=List.all_eq_true.1 allC f (List.mem_range.2 h.1);rw[h.2] at this;exact qtC this
theorem cB(f:Nat)(h:(Nat.blt f 296&&!noC.contains f)=true):qeJ prog f:=cA h
def qag(_:Nat)(a:Int)(c:Int)(b:Int):Option Bool:=bif decide (a>=c) then V (decide (a<=b)) else V false
theorem qS{a_n low high}  {r:Bool}(F:qag n a_n low high=V r):RetV prog 43 [vi a_n,vi low,vi high] w r:=by
 refine zV 15 func43 Z fun h=>X0 10 Z (qj (t:=10) F Z ?_ ?_)<;>intro F
 ·exact X0 9 Z (rb h F Z)
 exact X0 6 Z (rb h F Z)
def qdW(s:ByteArray):Nat->Int->Option (Flow Bool Int)|0,_=>U|n+1,a=>bif decide (a<(s.size:Int)) then((atS s a).bind fun d=>bif decide (d>=97) then(atS s a).bind fun f=>V (decide (f<=122)) else V false).bind fun b1=>((atS s a).bind fun b=>bif decide (b>=48) then(atS s a).bind fun c=>V (decide (c<=57)) else V false).bind fun b2=>bif (!b1) then bif b2 then bif (!(decide (a > 0))) then V (.ret false) else qdW s n (W64 (a+1)) else V (.ret false) else qdW s n (W64 (a+1)) else V (.nxt a)
def qf9(n:Nat)(s:ByteArray):Option Bool:=(qdW s n 0).bind fun|.ret r=>V r|.nxt _=>bif decide ((s.size:Int)>=1) then V (decide ((s.size:Int)<=8)) else V false
theorem qhu{s}  {r:Bool}(F:qf9 n s=V r):RetV prog 106 [.string s] w r:=by
 refine zV 50 func106 Z fun h=>X0 9 Z ?_;obtain⟨v,F,a⟩:=qd F;refine qp (rL (fun m e w'=>∃g,qdW s m g=V v/\e=[(0,.string s),(3,vi g)]/\SH w w' []) n ⟨_,F,rfl,h⟩ Z ?_);rintro x _ _ ⟨g,F,rfl,h⟩;rcases x with _|x
 ·cases F
 refine X0 8 Z (qq Z F ?_ ?_)<;>intro F
 ·refine X0 4 Z ?_;obtain⟨k,f,_,F,c⟩:=bindE F;refine qaP (fun e w'=>∃b1,k b1=V v/\e=[(0,.string s),(3,vi g),(4,.bool b1)]/\SH w w' []) ?_ ?_
  ·refine X0 3 Z ?_;obtain⟨_,p,F⟩:=qd F;have A:=qlb p;refine r_v (qlf qa A Z Z Z Z) Z (zp2 Z (qj (t:=16) F Z ?_ ?_))<;>intro F
   ·refine X0 5 Z ?_;obtain⟨_,u,F⟩:=qd F;have B:=qlb u;refine r_v (qlf qa B Z Z Z Z) Z (X0 5 Z ?_);obtain rfl:=qb F;exact rG ⟨_,c,rfl,h⟩ Z
   refine X0 7 Z ?_;obtain rfl:=qb F;exact rG ⟨_,c,rfl,h⟩ Z
  rintro _ _ ⟨b1,F,rfl,h⟩;subst f;refine qcz ?_;obtain⟨i,d,_,F,b⟩:=bindE F;refine qaP (fun e w'=>∃b2,i b2=V v/\e=[(0,.string s),(3,vi g),(4,.bool b1),(5,.bool b2)]/\SH w w' []) ?_ ?_
  ·refine X0 3 Z ?_;obtain⟨_,l,F⟩:=qd F;have y:=qlb l;refine r_v (qlf qa y Z Z Z Z) Z (zp2 Z (qj (t:=26) F Z ?_ ?_))<;>intro F
   ·refine X0 5 Z ?_;obtain⟨_,o,F⟩:=qd F;have z:=qlb o;refine r_v (qlf qa z Z Z Z Z) Z (X0 5 Z ?_);obtain rfl:=qb F;exact rG ⟨_,b,rfl,h⟩ Z
   refine X0 7 Z ?_;obtain rfl:=qb F;exact rG ⟨_,b,rfl,h⟩ Z
  rintro _ _ ⟨b2,F,rfl,h⟩;subst d;refine X0 5 Z (qj (t:=34) F Z ?_ ?_)<;>intro F
  ·refine X0 4 Z (qj (t:=36) F Z ?_ ?_)<;>intro F
   ·refine X0 10 Z (qq Z F ?_ ?_)<;>intro F
    ·refine X0 4 Z ?_;obtain rfl:=qb F;replace F:=a;exact rb h F Z
    exact X0 7 Z (rK ⟨_,F,rfl,h⟩ Z)
   refine X0 8 Z (qbZ Z Z (X0 4 Z ?_));obtain rfl:=qb F;replace F:=a;exact rb h F Z
  exact X0 8 Z (qdl Z Z (X0 7 Z (rK ⟨_,F,rfl,h⟩ Z)))
 refine qw Z ?_;obtain rfl:=qb F;replace F:=a;refine X0 6 Z (qj (t:=45) F Z ?_ ?_)<;>intro F
 ·exact X0 9 Z (rb h F Z)
 exact X0 6 Z (rb h F Z)
def qe3(a_0:qA)(b:Int)(c:qaz):Nat->Int->Option (Flow (Int×Bool) Int)|0,_=>U|n+1,a=>bif decide (a<b) then(idx a_0.As a).bind fun d=>bif (d.Ba.toList==c.Ba.toList) then V (.ret (0,false)) else qe3 a_0 b c n (W64 (a+1)) else V (.nxt a)
def qda(a_0:qA):Nat->Int->Int->Option (Flow (Int×Bool) (Int×Int))|0,_,_=>U|n+1,c,a=>bif decide (a<(a_0.As.length:Int)) then(idx a_0.As a).bind fun b=>(qe3 a_0 a b n 0).bind fun|.ret r=>V (.ret r)|.nxt _=>((qf9 n b.Ba).bind fun r1=>bif (!r1) then V true else(qag n b.Bp 0 500).bind fun g=>V (!g)).bind fun d=>bif d then V (.ret (0,false)) else(bif (a==(W64 ((a_0.As.length:Int)-1))) then bif (b.Bw != 2) then V true else bif (b.Bp != 0) then V true else bif b.Bq then V true else bif decide (a<(W64 ((a_0.As.length:Int)-1))) then V (b.Bw != 1) else V false else bif decide (a<(W64 ((a_0.As.length:Int)-1))) then V (b.Bw != 1) else V false).bind fun f=>bif f then V (.ret (0,false)) else bif b.Bq then qda a_0 n (W64 (c+1)) (W64 (a+1)) else qda a_0 n c (W64 (a+1)) else V (.nxt (c,a))
def qiU(n:Nat)(a_0:qA):Option (Int×Bool):=(bif decide ((a_0.As.length:Int)<2) then V true else V (decide ((a_0.As.length:Int) > 5))).bind fun b1=>bif b1 then V (0,false) else(qda a_0 n 0 0).bind fun|.ret r=>V r|.nxt (a,_)=>V (a,true)
theorem qn6{a_0:qA}(I:Ro w a_0 cs1){r:(Int×Bool)}(F:qiU n a_0=V r):RetV prog 242 [oV qA cs1] w r:=by
 obtain⟨p1,u,x,v,y,k3,rfl,s1,_,_⟩:=qW I;refine zV 86 func242 Z fun h=>zSR (qJ h Z Z fun _ a h=>X1 12 0 h Z ?_);obtain⟨C,s,_,F,l⟩:=bindE F;refine qaP (fun e w'=>∃b1,C b1=V r/\e=[(1,vp a),(4,vi (a_0.As.length:Int)),(17,.bool b1)]/\SH w w' [oX a (qI a_0 p1 x y u v k3) 166]) ?_ ?_
 ·refine X0 4 Z (qj (t:=14) F Z ?_ ?_)<;>intro F
  ·refine X0 4 Z ?_;obtain rfl:=qb F;exact rG ⟨_,l,rfl,h⟩ Z
  refine X0 6 Z ?_;obtain rfl:=qb F;exact rG ⟨_,l,rfl,h⟩ Z
 rintro _ _ ⟨b1,F,rfl,h⟩;subst s;refine qq Z F ?_ ?_<;>intro F
 ·refine X0 5 Z ?_;obtain rfl:=qb F;exact qar qa (ρ:=(Int×Bool)) [oV Int [vi 0],oV Bool [.bool false]] h ⟨rfl,rfl,G⟩ (PV.done h (qaq h (qE (S:=fun _=>False) Z) (qaB (qE (S:=fun _=>False) Z)) (by rfl)))
 refine X0 10 Z ?_;obtain⟨Y,F,d⟩:=qd F;refine qp (rL (fun m e w'=>∃f g,qda a_0 m f g=V Y/\e=[(1,vp a),(4,vi (a_0.As.length:Int)),(5,vi f),(6,vi g)]/\SH w w' [oX a (qI a_0 p1 x y u v k3) 166]) n ⟨_,_,F,rfl,h⟩ Z ?_);rintro X _ _ ⟨f,g,F,rfl,h⟩;rcases X with _|X
 ·cases F
 refine X0 7 Z (qq Z F ?_ ?_)<;>intro F
 ·refine X1 8 0 h Z ?_;obtain⟨z,_,F,L,_,_,_,_,N,P,R,J⟩:=s1.ix F;obtain rfl:=qeV R;refine zxe N P L Z (zc 0 (J.below h.below) Z (qi qa h Z Z Z fun _ c h=>zs 0 h Z fun _ h=>X0 6 Z ?_));obtain⟨o2,F,i⟩:=qd F;refine qp (rL (fun m e w'=>∃W,qe3 a_0 g z m W=V o2/\e=[(1,vp a),(4,vi (a_0.As.length:Int)),(5,vi f),(6,vi g),(7,vp c),(8,vi W)]/\SH w w' [oX c (qoL z) 239,oX a (qI a_0 p1 x y u v k3) 166]) X ⟨_,F,rfl,h⟩ Z ?_);rintro m2 _ _ ⟨W,F,rfl,h⟩;rcases m2 with _|m2
  ·cases F
  refine X0 7 Z (qq Z F ?_ ?_)<;>intro F
  ·refine X0 4 Z (rD (Y1 2 1 h Z ?_));refine zd1 Z ?_;obtain⟨_,_,F,M,_,_,_,_,O,Q,T,K⟩:=s1.ix F;obtain rfl:=qeV T;refine zdxe O Q M Z (zd1 Z (zdc 0 (K.below h.below) Z (Y1 2 0 h Z ?_)));refine zd1 Z (dN h fun _ h=>qq Z F ?_ ?_)<;>intro F
   ·refine X0 5 Z ?_;obtain rfl:=qb F;replace F:=i;obtain rfl:=qb F;replace F:=d;obtain rfl:=qb F;exact qar qa (ρ:=(Int×Bool)) [oV Int [vi 0],oV Bool [.bool false]] h ⟨rfl,rfl,G⟩ (PV.done h (qaq h (qE (S:=fun _=>False) Z) (qaB (qE (S:=fun _=>False) Z)) (by rfl)))
   exact X0 7 Z (rK ⟨_,F,rfl,h⟩ Z)
  refine qw Z ?_;obtain rfl:=qb F;replace F:=i;refine zSS ?_;obtain⟨B,p,_,F,k⟩:=bindE F;refine qaP (fun e w'=>∃D,B D=V Y/\e=[(1,vp a),(4,vi (a_0.As.length:Int)),(5,vi f),(6,vi g),(7,vp c),(51,.bool D)]/\SH w w' [oX c (qoL z) 239,oX a (qI a_0 p1 x y u v k3) 166]) ?_ ?_
  ·refine X1 3 0 h Z (zcB h F qhu Z fun _ _ h F=>zp2 Z (qj (t:=46) F Z ?_ ?_))<;>intro F
   ·refine X0 6 Z ?_;obtain rfl:=qb F;exact rG ⟨_,k,rfl,h⟩ Z
   refine X1 5 0 h Z (zcB h F qS Z fun _ _ h F=>X0 4 Z ?_);obtain rfl:=qb F;exact rG ⟨_,k,rfl,h⟩ Z
  rintro _ _ ⟨D,F,rfl,h⟩;subst p;refine qq Z F ?_ ?_<;>intro F
  ·refine X0 5 Z ?_;obtain rfl:=qb F;replace F:=d;obtain rfl:=qb F;exact qar qa (ρ:=(Int×Bool)) [oV Int [vi 0],oV Bool [.bool false]] h ⟨rfl,rfl,G⟩ (PV.done h (qaq h (qE (S:=fun _=>False) Z) (qaB (qE (S:=fun _=>False) Z)) (by rfl)))
  refine zKSS ?_;obtain⟨A,o,_,F,b⟩:=bindE F;refine qaP (fun e w'=>∃H,A H=V Y/\e=[(1,vp a),(4,vi (a_0.As.length:Int)),(5,vi f),(6,vi g),(7,vp c),(80,.bool H)]/\SH w w' [oX c (qoL z) 239,oX a (qI a_0 p1 x y u v k3) 166]) ?_ ?_
  ·refine X0 6 Z (qj (t:=56) F Z ?_ ?_)<;>intro F
   ·refine X1 8 0 h Z (qj (t:=60) F Z ?_ ?_)<;>intro F
    ·refine X0 24 Z ?_;obtain rfl:=qb F;exact rG ⟨_,b,rfl,h⟩ Z
    refine X1 10 0 h Z (qj (t:=65) F Z ?_ ?_)<;>intro F
    ·refine X0 17 Z ?_;obtain rfl:=qb F;exact rG ⟨_,b,rfl,h⟩ Z
    refine X1 8 0 h Z (qj (t:=70) F Z ?_ ?_)<;>intro F
    ·refine X0 11 Z ?_;obtain rfl:=qb F;exact rG ⟨_,b,rfl,h⟩ Z
    refine X0 10 Z (qj (t:=75) F Z ?_ ?_)<;>intro F
    ·refine X1 10 0 h Z ?_;obtain rfl:=qb F;exact rG ⟨_,b,rfl,h⟩ Z
    refine X0 7 Z ?_;obtain rfl:=qb F;exact rG ⟨_,b,rfl,h⟩ Z
   refine X0 24 Z (qj (t:=75) F Z ?_ ?_)<;>intro F
   ·refine X1 10 0 h Z ?_;obtain rfl:=qb F;exact rG ⟨_,b,rfl,h⟩ Z
   refine X0 7 Z ?_;obtain rfl:=qb F;exact rG ⟨_,b,rfl,h⟩ Z
  rintro _ _ ⟨H,F,rfl,h⟩;subst o;refine qq Z F ?_ ?_<;>intro F
  ·refine X0 5 Z ?_;obtain rfl:=qb F;replace F:=d;obtain rfl:=qb F;exact qar qa (ρ:=(Int×Bool)) [oV Int [vi 0],oV Bool [.bool false]] h ⟨rfl,rfl,G⟩ (PV.done h (qaq h (qE (S:=fun _=>False) Z) (qaB (qE (S:=fun _=>False) Z)) (by rfl)))
  refine X1 6 0 h Z (qq Z F ?_ ?_)<;>intro F
  ·refine X0 11 Z ?_;replace h:=h.p [1] Z;exact rK ⟨_,_,F,rfl,h⟩ Z
  refine X0 7 Z ?_;replace h:=h.p [1] Z;exact rK ⟨_,_,F,rfl,h⟩ Z
 refine qw Z ?_;obtain rfl:=qb F;replace F:=d;refine X0 6 Z ?_;obtain rfl:=qb F;exact qar qa (ρ:=(Int×Bool)) [oV Int [vi f],oV Bool [.bool true]] h ⟨rfl,rfl,G⟩ (PV.done h (qaq h (qE (S:=fun _=>False) Z) (qaB (qE (S:=fun _=>False) Z)) (by rfl)))
def qdT(list:(List Int)):Nat->Int->Option (Flow Bool Int)|0,_=>U|n+1,a=>bif decide (a<(list.length:Int)) then(idx list a).bind fun b=>(qag n b 0 100000).bind fun r1=>bif (!r1) then V (.ret false) else bif decide (a > 0) then(idx list (W64 (a-1))).bind fun c=>(idx list a).bind fun d=>bif decide (c>=d) then V (.ret false) else qdT list n (W64 (a+1)) else qdT list n (W64 (a+1)) else V (.nxt a)
def qhK(n:Nat)(list:(List Int)):Option Bool:=(qdT list n 0).bind fun|.ret r=>V r|.nxt _=>bif decide ((list.length:Int)>=1) then V (decide ((list.length:Int)<=4)) else V false
theorem qkT{list:(List Int)}(b:Ro w list cs1){r:Bool}(F:qhK n list=V r):RetV prog 293 [oV (List Int) cs1] w r:=by
 obtain⟨p1,A,rfl,s1⟩:=b;refine zV 40 func293 Z fun h=>X0 9 Z ?_;obtain⟨B,F,a⟩:=qd F;refine qp (rL (fun m e w'=>∃y,qdT list m y=V B/\e=[(0,oS p1 list.length A),(3,vi y)]/\SH w w' []) n ⟨_,F,rfl,h⟩ Z ?_);rintro z _ _ ⟨y,F,rfl,h⟩;rcases z with _|z
 ·cases F
 refine X0 8 Z (qq Z F ?_ ?_)<;>intro F
 ·refine X0 4 Z (rD (zd2 Z ?_));obtain⟨_,_,F,g,_,_,_,_,l,s,rfl,c⟩:=s1.ix F;refine zdxe l s g Z (zdc 0 (c.below h.below) Z ?_);obtain⟨r1,x,F⟩:=qd F;refine qcY r1 (vsB _) (cB 43 Z) (fun _ C=>qS  x) Z Z Z Z (zd2 Z (qbQ (t:=16) F Z ?_ ?_))<;>intro F
  ·refine Y0 15 Z (dN h fun _ h=>qbZ Z Z (X0 4 Z ?_));obtain rfl:=qb F;replace F:=a;exact rb h F Z
  refine Y0 6 Z (qbQ (t:=19) F Z ?_ ?_)<;>intro F
  ·refine Y0 7 Z ?_;obtain⟨_,_,F,i,_,_,_,_,o,u,rfl,d⟩:=s1.ix F;refine zdxe o u i Z (Y0 1 Z (zdc 0 (d.below h.below) Z (Y0 5 Z ?_)));obtain⟨_,_,F,k,_,_,_,_,p,v,rfl,f⟩:=s1.ix F;refine zdxe p v k Z (Y0 1 Z (zdc 0 (f.below h.below) Z (Y0 5 Z (dN h fun _ h=>qq Z F ?_ ?_))))<;>intro F
   ·refine X0 4 Z ?_;obtain rfl:=qb F;replace F:=a;exact rb h F Z
   exact X0 7 Z (rK ⟨_,F,rfl,h⟩ Z)
  exact Y0 13 Z (dN h fun _ h=>qdl Z Z (X0 7 Z (rK ⟨_,F,rfl,h⟩ Z)))
 refine qw Z ?_;obtain rfl:=qb F;replace F:=a;refine X0 6 Z (qj (t:=35) F Z ?_ ?_)<;>intro F
 ·exact X0 9 Z (rb h F Z)
 exact X0 6 Z (rb h F Z)
def qeY(t:qN):Nat->Int->Option (Flow Bool Int)|0,_=>U|n+1,a=>bif decide (a<(t.Az.length:Int)) then(idx t.Az a).bind fun b=>(qag n b (-1000000) 1000000).bind fun r1=>bif (!r1) then V (.ret false) else qeY t n (W64 (a+1)) else V (.nxt a)
def qiT(n:Nat)(t:qN):Option Bool:=((qhK n t.Bk).bind fun a=>bif (!a) then V true else(qhK n t.Be).bind fun b=>bif (!b) then V true else V ((t.Az.length:Int) != (W64 ((t.Bk.length:Int)*(t.Be.length:Int))))).bind fun b1=>bif b1 then V false else(qeY t n 0).bind fun|.ret r=>V r|.nxt _=>V true
theorem qnW{t:qN}(g:Ro w t cs1){r:Bool}(F:qiT n t=V r):RetV prog 286 [oV qN cs1] w r:=by
 obtain⟨p1,s,x,u,y,k3,rfl,s1,s2,A⟩:=qcm g;refine zV 41 func286 Z fun h=>zSR (qJ h Z Z fun _ a h=>X0 4 Z ?_);obtain⟨f,d,_,F,b⟩:=bindE F;refine qaP (fun e w'=>∃b1,f b1=V r/\e=[(1,vp a),(26,.bool b1)]/\SH w w' [oX a (qeE t p1 x y s u k3) 250]) ?_ ?_
 ·refine X1 3 0 h Z (zcB h F (qkT ⟨_,_,rfl,(h.oldS s1)⟩) Z fun _ _ h F=>zp2 Z (qj (t:=8) F Z ?_ ?_))<;>intro F
  ·refine X0 19 Z ?_;obtain rfl:=qb F;exact rG ⟨_,b,rfl,h⟩ Z
  refine X1 5 0 h Z (zcB h F (qkT ⟨_,_,rfl,(h.oldS s2)⟩) Z fun _ _ h F=>X0 4 Z (qj (t:=14) F Z ?_ ?_))<;>intro F
  ·refine X0 13 Z ?_;obtain rfl:=qb F;exact rG ⟨_,b,rfl,h⟩ Z
  refine X3 24 0 0 0 h Z ?_;obtain rfl:=qb F;exact rG ⟨_,b,rfl,h⟩ Z
 rintro _ _ ⟨b1,F,rfl,h⟩;subst d;refine qq Z F ?_ ?_<;>intro F
 ·exact X0 4 Z (rb h F Z)
 refine X0 6 Z ?_;obtain⟨z,F,c⟩:=qd F;refine qp (rL (fun m e w'=>∃p,qeY t m p=V z/\e=[(1,vp a),(3,vi p)]/\SH w w' [oX a (qeE t p1 x y s u k3) 250]) n ⟨_,F,rfl,h⟩ Z ?_);rintro v _ _ ⟨p,F,rfl,h⟩;rcases v with _|v
 ·cases F
 refine X1 9 0 h Z (qq Z F ?_ ?_)<;>intro F
 ·refine X1 8 0 h Z ?_;obtain⟨_,_,F,k,_,_,_,_,l,o,rfl,i⟩:=A.ix F;refine zxe l o k Z (zc 0 (i.below h.below) Z (zcB h F qS Z fun _ _ h F=>X0 2 Z (qq Z F ?_ ?_)))<;>intro F
  ·refine X0 4 Z ?_;obtain rfl:=qb F;replace F:=c;exact rb h F Z
  exact X0 7 Z (rK ⟨_,F,rfl,h⟩ Z)
 refine qw Z ?_;obtain rfl:=qb F;replace F:=c;exact X0 4 Z (rb h F Z)
def qc6(t:qN):Nat->Int->Int->Int->Option (Int×Int×Int)|0,_,_,_=>U|n+1,b,c,a=>bif decide (a<(t.Az.length:Int)) then(idx t.Az a).bind fun d=>(idx t.Az a).bind fun f=>qc6 t n (if d<b then d else b) (if f > c then f else c) (W64 (a+1)) else V (b,c,a)
def qg5(n:Nat)(t:qN):Option (qk×Int):=(qiT n t).bind fun r1=>bif (!r1) then V ((⟨0,0⟩:qk),1) else(idx t.Az 0).bind fun c=>(idx t.Az 0).bind fun d=>(qc6 t n c d 1).bind fun(a,b,_)=>V ((⟨a,b⟩:qk),0)
theorem ql1{t:qN}(d:Ro w t cs1){r:(qk×Int)}(F:qg5 n t=V r):RetV prog 275 [oV qN cs1] w r:=by
 obtain⟨p1,M,P,N,Q,k3,rfl,_,_,i⟩:=qcm d;refine zV 45 func275 Z fun h=>zSR (qJ h Z Z fun _ a h=>qi qa h Z Z Z fun _ b h=>X1 6 1 h Z (zcB h F (qnW (h.old d)) Z fun _ _ h F=>X0 2 Z (qq Z F ?_ ?_)))<;>intro F
 ·refine zSR (r_v (qy qa [] [] Z Z Z Z Z Z Z Z) Z (zs 0 h Z fun _ h=>X0 2 Z ?_));obtain rfl:=qb F;exact qar qa (ρ:=(qk×Int)) [oV qk [vi 0,vi 0],oV Int [vi 1]] h ⟨⟨_,_,_,rfl,rfl,h.box 0 Z,rfl⟩,rfl,G⟩ (PV.done h (qaq h (qE (S:=fun _=>False) (qR (⟨0,0⟩:qk))) (qaB (qE (S:=fun _=>False) Z)) (by rfl)))
 refine zKS (rA [] [1] h Z fun _ h=>M1 3 [0,1] 0 (h.p [1] Z) Z ?_);obtain⟨_,_,F,u,_,_,_,_,z,D,rfl,l⟩:=i.ix F;refine Ae 2 7 z D u (h.p [1] Z) Z (Al 3 15 0 l (h.p [1] Z) Z (M1 63 [4,5] 0 (h.p [1] Z) Z ?_));obtain⟨_,_,F,v,_,_,_,_,A,H,rfl,o⟩:=i.ix F;refine Ae 6 127 A H v (h.p [1] Z) Z (Al 7 255 0 o (h.p [1] Z) Z (Aw 8 511 (fun w' T=>qy qa [0,1] [.tmp 13,.tmp 17] Z Z Z Z Z Z Z Z) (h.p [1] Z) Z ?_));refine Ao 9 1023 Z (qi qa h Z Z Z fun _ c h=>Ag (h.p [2] Z) (Ao 10 2047 Z (zs 0 h Z fun _ h=>Ag (h.p [2] Z) (Ad (X0 5 Z ?_)))));obtain⟨O,F,k⟩:=qd F;refine qp (rL (fun m e w'=>∃f g K,qc6 t m f g K=V O/\e=[(1,vp a),(2,vp b),(4,vp c),(5,vi K)]/\SH w w' [oX c [vi f,vi g] 116,oX b [vi 0,vi 0] 116,oX a (qeE t p1 P Q M N k3) 250]) n ⟨_,_,_,F,rfl,h⟩ Z ?_);rintro L _ _ ⟨f,g,K,F,rfl,h⟩;rcases L with _|L
 ·cases F
 refine X1 9 2 h Z (qq Z F ?_ ?_)<;>intro F
 ·refine X0 4 Z (rA [9] [0,2] h Z fun _ h=>M2 31 [0,1,2,3,4] 0 1 (h.p [0,2] Z) Z ?_);obtain⟨_,_,F,x,_,_,_,_,B,I,rfl,p⟩:=i.ix F;refine Ae 5 63 B I x (h.p [0,2] Z) Z (Al 6 127 0 p (h.p [0,2] Z) Z (M0 511 [7,8] (h.p [0,2] Z) Z (Ao 9 1023 Z (zs 0 h Z fun _ h=>qaU (fun R=>absurd (R 9 (by decide)) (by decide)) (Ad (rA [9] [0,2] h Z fun _ h=>M2 31 [0,1,2,3,4] 0 1 (h.p [0,2] Z) Z ?_))))));obtain⟨_,_,F,y,_,_,_,_,C,J,rfl,s⟩:=i.ix F;exact Ae 5 63 C J y (h.p [0,2] Z) Z (Al 6 127 0 s (h.p [0,2] Z) Z (M0 511 [7,8] (h.p [0,2] Z) Z (Ao 9 1023 Z (zs 0 h Z fun _ h=>qaU (fun R=>absurd (R 9 (by decide)) (by decide)) (Ad (X0 6 Z (rK ⟨_,_,_,F,rfl,h⟩ Z)))))))
 refine qw Z ?_;obtain rfl:=qb F;replace F:=k;refine X1 3 0 h Z (zs 1 h Z fun _ h=>X0 2 Z ?_);obtain rfl:=qb F;exact qar qa (ρ:=(qk×Int)) [oV qk [vi f,vi g],oV Int [vi 0]] h ⟨⟨_,_,_,rfl,rfl,h.box 1 Z,rfl⟩,rfl,G⟩ (PV.done h (qaq h (qE (S:=fun _=>False) (qR (⟨f,g⟩:qk))) (qaB (qE (S:=fun _=>False) Z)) (by rfl)))
def qcW(list:(List qN))(f:Bool):Nat->Int->Option (Flow Bool Int)|0,_=>U|n+1,a=>bif decide (a<2) then(idx list a).bind fun d=>(qg5 n d).bind fun(b,c)=>bif (c != 0) then V (.ret false) else bif f then bif decide (b.Aq<0) then V (.ret false) else qcW list f n (W64 (a+1)) else qcW list f n (W64 (a+1)) else V (.nxt a)
def qdH(n:Nat)(list:(List qN))(a:Bool):Option Bool:=bif ((list.length:Int) != 2) then V false else(qcW list a n 0).bind fun|.ret r=>V r|.nxt _=>V true
theorem qfj{list:(List qN)}{positive}(c:Ro w list cs1){r:Bool}(F:qdH n list positive=V r):RetV prog 262 [oV (List qN) cs1,.bool positive] w r:=by
 obtain⟨p1,x,rfl,s1⟩:=c;refine zV 33 func262 Z fun h=>X0 11 Z (qq Z F ?_ ?_)<;>intro F
 ·exact X0 4 Z (rb h F Z)
 refine X0 6 Z ?_;obtain⟨y,F,a⟩:=qd F;refine qp (rL (fun m e w'=>∃u,qcW list positive m u=V y/\e=[(0,oS p1 list.length x),(1,.bool positive),(5,vi u)]/\SH w w' []) n ⟨_,F,rfl,h⟩ Z ?_);rintro v _ _ ⟨u,F,rfl,h⟩;rcases v with _|v
 ·cases F
 refine X0 6 Z (qq Z F ?_ ?_)<;>intro F
 ·refine X0 7 Z ?_;obtain⟨D,_,F,f,_,_,_,_,g,i,k,d⟩:=s1.ix F;obtain⟨_,_,_,_,_,_,rfl,s2,B,C⟩:=qcm k;refine zxe g i f Z (zc 0 (d.below h.below) Z ?_);obtain⟨⟨z,A⟩,l,F⟩:=qd F;refine qb6 (z,A) h (cB 275 Z) (ql1 (qii D (h.oldS s2) (h.oldS B) (h.oldS C)) l) Z Z Z Z fun _ _ _ s o=>?_;obtain⟨_,_,_,_,rfl,b,p⟩:=s.cons o;obtain rfl:=qL (b.sh.own 0 Z);obtain⟨rfl,h⟩:=b.lastI p;refine zp3 Z (qi qa h Z Z Z fun _ _ h=>zs 0 h Z fun _ h=>X0 7 Z (qj (t:=25) F Z ?_ ?_))<;>intro F
  ·refine X0 8 Z (qbZ Z Z (X0 4 Z ?_));obtain rfl:=qb F;replace F:=a;exact rb h F Z
  refine X0 4 Z (qj (t:=27) F Z ?_ ?_)<;>intro F
  ·refine X1 10 0 h Z (qq Z F ?_ ?_)<;>intro F
   ·refine X0 4 Z ?_;obtain rfl:=qb F;replace F:=a;exact rb h F Z
   refine X0 7 Z ?_;replace h:=h.p [] Z;exact rK ⟨_,F,rfl,h⟩ Z
  refine X0 7 Z (qdl Z Z (X0 7 Z ?_));replace h:=h.p [] Z;exact rK ⟨_,F,rfl,h⟩ Z
 refine qw Z ?_;obtain rfl:=qb F;replace F:=a;exact X0 4 Z (rb h F Z)
def qjS(n:Nat)(a_0:qA)(a_1:qak):Option Bool:=((qag n a_1.Bb 0 (W64 ((W64 ((a_0.As.length:Int)-1))-1))).bind fun i=>bif (!i) then V true else(qag n a_1.To 0 (W64 ((a_0.As.length:Int)-1))).bind fun k=>V (!k)).bind fun b1=>bif b1 then V false else(idx a_0.As a_1.Bb).bind fun a=>bif (a_1.Ar==1) then bif (!a.Bq) then bif (a_1.To==(W64 ((a_0.As.length:Int)-1))) then(qag n a_1.Bm 1 3).bind fun r1=>bif r1 then(qdH n a_1.Bi true).bind fun c=>bif c then(qdH n a_1.Ay true).bind fun d=>V d else V false else V false else V false else V false else(bif (a_1.Ar==2) then V (a_1.Ar==2) else V (a_1.Ar==3)).bind fun b3=>bif b3 then bif a.Bq then bif (a_1.To==(W64 ((a_0.As.length:Int)-1))) then bif (a_1.Bm==0) then(qdH n a_1.Bi true).bind fun f=>bif f then(qdH n a_1.Ay true).bind fun g=>V g else V false else V false else V false else V false else(bif (a_1.Ar==4) then V (a_1.Ar==4) else V (a_1.Ar==5)).bind fun b=>bif b then bif a.Bq then bif decide (a_1.To<(W64 ((a_0.As.length:Int)-1))) then(idx a_0.As a_1.To).bind fun l=>bif (!l.Bq) then bif (a_1.Bm==0) then(qdH n a_1.Bi false).bind fun h=>bif h then V ((a_1.Ay.length:Int)==0) else V false else V false else V false else V false else V false else V false
theorem qoI{a_0:qA}{a_1:qak}(s:Ro w a_0 cs1)(u:Ro w a_1 cs2){r:Bool}(F:qjS n a_0 a_1=V r):RetV prog 243 [oV qA cs1,oV qak cs2] w r:=by
 obtain⟨p1,J,N,K,O,k3,rfl,s1,_,_⟩:=qW s;obtain⟨P,L,Q,M,rfl,R,S⟩:=qam u;refine zV 119 func243 Z fun h=>zSR (qJ h Z Z fun _ a h=>qJ h Z Z fun _ b h=>X1 12 1 h Z ?_);obtain⟨o,k,_,F,f⟩:=bindE F;refine qaP (fun e w'=>∃b1,o b1=V r/\e=[(2,vp a),(3,vp b),(5,vi (W64 ((a_0.As.length:Int)-1))),(23,.bool b1)]/\SH w w' [oX b (qd0 a_1 P Q L M) 170,oX a (qI a_0 p1 N O J K k3) 166]) ?_ ?_
 ·refine X1 5 0 h Z (zcB h F qS Z fun _ _ h F=>zp2 Z (qj (t:=17) F Z ?_ ?_))<;>intro F
  ·refine X0 7 Z ?_;obtain rfl:=qb F;exact rG ⟨_,f,rfl,h⟩ Z
  refine X1 7 0 h Z (zcB h F qS Z fun _ _ h F=>X0 4 Z ?_);obtain rfl:=qb F;exact rG ⟨_,f,rfl,h⟩ Z
 rintro _ _ ⟨b1,F,rfl,h⟩;subst k;refine qq Z F ?_ ?_<;>intro F
 ·exact X0 4 Z (rb h F Z)
 refine X2 7 1 0 h Z ?_;obtain⟨T,_,F,y,_,_,_,_,A,C,H,v⟩:=s1.ix F;obtain rfl:=qeV H;refine zxe A C y Z (zp1 Z (zc 3 (v.below h.below) Z (X1 14 0 h Z (qq Z F ?_ ?_))))<;>intro F
 ·refine X0 5 Z (qj (t:=37) F Z ?_ ?_)<;>intro F
  ·refine X1 10 0 h Z (qj (t:=43) F Z ?_ ?_)<;>intro F
   ·refine X1 5 0 h Z (zcB h F qS Z fun _ _ h F=>zp2 Z (qj (t:=48) F Z ?_ ?_))<;>intro F
    ·refine X1 5 0 h Z (zcB h F (qfj ⟨_,_,rfl,(h.oldS R)⟩) Z fun _ _ h F=>zp2 Z (qj (t:=53) F Z ?_ ?_))<;>intro F
     ·exact X1 5 0 h Z (zcB h F (qfj ⟨_,_,rfl,(h.oldS S)⟩) Z fun _ _ h F=>X0 3 Z (rb h F Z))
     exact X0 6 Z (rb h F Z)
    exact X0 11 Z (rb h F Z)
   exact X0 16 Z (rb h F Z)
  exact X0 22 Z (rb h F Z)
 refine X0 6 Z ?_;obtain⟨m,i,_,F,d⟩:=bindE F;refine qaP (fun e w'=>∃b3,m b3=V r/\e=[(2,vp a),(3,vp b),(5,vi (W64 ((a_0.As.length:Int)-1))),(6,.bool T.Bq),(32,vi a_1.Ar),(58,.bool b3)]/\SH w w' [oX b (qd0 a_1 P Q L M) 170,oX a (qI a_0 p1 N O J K k3) 166]) ?_ ?_
 ·refine qq Z F ?_ ?_<;>intro F
  ·refine qfD ?_;obtain rfl:=qb F;exact rG ⟨_,d,rfl,h⟩ Z
  refine X0 4 Z ?_;obtain rfl:=qb F;exact rG ⟨_,d,rfl,h⟩ Z
 rintro _ _ ⟨b3,F,rfl,h⟩;subst i;refine qq Z F ?_ ?_<;>intro F
 ·refine X0 4 Z (qj (t:=62) F Z ?_ ?_)<;>intro F
  ·refine X1 10 0 h Z (qj (t:=68) F Z ?_ ?_)<;>intro F
   ·refine X1 8 0 h Z (qj (t:=73) F Z ?_ ?_)<;>intro F
    ·refine X1 5 0 h Z (zcB h F (qfj ⟨_,_,rfl,(h.oldS R)⟩) Z fun _ _ h F=>zp2 Z (qj (t:=78) F Z ?_ ?_))<;>intro F
     ·exact X1 5 0 h Z (zcB h F (qfj ⟨_,_,rfl,(h.oldS S)⟩) Z fun _ _ h F=>X0 3 Z (rb h F Z))
     exact X0 6 Z (rb h F Z)
    exact X0 11 Z (rb h F Z)
   exact X0 16 Z (rb h F Z)
  exact X0 22 Z (rb h F Z)
 refine X0 6 Z ?_;obtain⟨l,g,_,F,c⟩:=bindE F;refine qaP (fun e w'=>∃p,l p=V r/\e=[(2,vp a),(3,vp b),(5,vi (W64 ((a_0.As.length:Int)-1))),(6,.bool T.Bq),(83,.bool p)]/\SH w w' [oX b (qd0 a_1 P Q L M) 170,oX a (qI a_0 p1 N O J K k3) 166]) ?_ ?_
 ·refine qq Z F ?_ ?_<;>intro F
  ·refine qfD ?_;obtain rfl:=qb F;exact rG ⟨_,c,rfl,h⟩ Z
  refine X0 4 Z ?_;obtain rfl:=qb F;exact rG ⟨_,c,rfl,h⟩ Z
 rintro _ _ ⟨p,F,rfl,h⟩;subst g;refine qq Z F ?_ ?_<;>intro F
 ·refine X0 4 Z (qj (t:=87) F Z ?_ ?_)<;>intro F
  ·refine X1 10 0 h Z (qj (t:=93) F Z ?_ ?_)<;>intro F
   ·refine X2 9 1 0 h Z ?_;obtain⟨_,_,F,z,_,_,_,_,B,D,I,x⟩:=s1.ix F;obtain rfl:=qeV I;refine zxe B D z Z (X0 3 Z (zc 3 (x.below h.below) Z (X0 4 Z (qj (t:=103) F Z ?_ ?_))))<;>intro F
    ·refine X1 8 0 h Z (qj (t:=108) F Z ?_ ?_)<;>intro F
     ·refine X1 5 0 h Z (zcB h F (qfj ⟨_,_,rfl,(h.oldS R)⟩) Z fun _ _ h F=>zp2 Z (qj (t:=113) F Z ?_ ?_))<;>intro F
      ·exact X1 11 0 h Z (rb h F Z)
      exact X0 7 Z (rb h F Z)
     exact X0 12 Z (rb h F Z)
    exact X0 17 Z (rb h F Z)
   exact X0 27 Z (rb h F Z)
  exact X0 33 Z (rb h F Z)
 exact X0 6 Z (rb h F Z)
def qdu(c:qA):Nat->(List Int)->Int->Option ((List Int)×Int)|0,_,_=>U|n+1,b,a=>bif decide (a<(c.Ap.length:Int)) then(idx c.Ap a).bind fun d=>(idx b d.Ar).bind fun f=>(idx b d.Ar).bind fun _=>qdu c n (setS b d.Ar (W64 (f+1))) (W64 (a+1)) else V (b,a)
def qit(n:Nat)(c:qA):Option (List Int):=(mkS 6 (0:Int)).bind fun a=>(qdu c n a 0).bind fun(b,_)=>V b
theorem qnk{c:qA}(o:Ro w c cs1){r:(List Int)}(F:qit n c=V r):RetV prog 244 [oV qA cs1] w r:=by
 obtain⟨p1,L,O,M,P,k3,rfl,_,s2,_⟩:=qW o;refine zV 25 func244 Z fun h=>zSR (qJ h Z Z fun _ b h=>X0 4 Z ?_);obtain⟨k,a,F⟩:=qd F;obtain⟨J,K,a⟩:=qat a;refine qaM qa Int h Z Z Z Z Z Z Z Z Z J K a Z fun _ S1 I h=>X0 7 Z ?_;obtain⟨N,F,l⟩:=qd F;refine qp (rL (fun m e w'=>∃D C,qdu c m D C=V N/\e=[(1,vp b),(3,oS I k.length k.length),(4,vi C)]/\SH w w' [oW S1 (D:List Int) [oS I k.length k.length],oX b (qI c p1 O P L M k3) 166]) n ⟨_,_,F,rfl,h⟩ Z ?_);rintro H _ _ ⟨D,C,F,rfl,h⟩;rcases H with _|H
 ·cases F
 refine X1 9 1 h Z (qq Z F ?_ ?_)<;>intro F
 ·refine X1 8 1 h Z ?_;obtain⟨_,_,F,u,_,_,_,_,v,y,A,p⟩:=s2.ix F;obtain⟨_,_,_,_,rfl,_,_⟩:=qam A;refine zxe v y u Z (zp1 Z (zc 0 (p.below h.below) Z ?_));obtain⟨Q,_,F,d,_,_,_,_,x,z,rfl,s⟩:=(h.sl 0 Z).1.ix F;refine zx x z ⟨d.1,qK d.2.1 (h.sl 0 Z).2⟩ Z (zc 0 s Z (zp1 Z ?_));obtain⟨_,B,F,f,_,_,_,_,g,i,rfl,t⟩:=(h.sl 0 Z).1.ix F;exact zx g i ⟨f.1,qK f.2.1 (h.sl 0 Z).2⟩ Z (qa3 qa 0 0 (W64 (Q+1)) h Z B g i Z t Z Z Z Z Z Z Z fun _ h=>X0 7 Z (rK ⟨_,_,F,rfl,h⟩ Z))
 refine qw Z ?_;obtain rfl:=qb F;replace F:=l;refine X0 5 Z ?_;obtain rfl:=qb F;exact rO 0 h Z ⟨rfl,G⟩
def qdG(a_0:qA)(c:Int)(b:qak):Nat->Int->Option (Flow Bool Int)|0,_=>U|n+1,a=>bif decide (a<c) then(idx a_0.Ap a).bind fun d=>bif (d.Ar==b.Ar) then(idx a_0.Ap a).bind fun f=>bif (f.Bb==b.Bb) then(idx a_0.Ap a).bind fun g=>bif (g.To==b.To) then V (.ret false) else qdG a_0 c b n (W64 (a+1)) else qdG a_0 c b n (W64 (a+1)) else qdG a_0 c b n (W64 (a+1)) else V (.nxt a)
def qfz(a_0:qA):Nat->Int->Option (Flow Bool Int)|0,_=>U|n+1,a=>bif decide (a<(a_0.Bo.length:Int)) then(idx a_0.Bo a).bind fun c=>(qag n c 0 1).bind fun b=>bif (!b) then V (.ret false) else qfz a_0 n (W64 (a+1)) else V (.nxt a)
def qfI(a_0:qA):Nat->Int->Option (Flow Bool Int)|0,_=>U|n+1,a=>bif decide (a<(a_0.Ap.length:Int)) then(idx a_0.Ap a).bind fun b=>(qjS n a_0 b).bind fun c=>bif (!c) then V (.ret false) else(qdG a_0 a b n 0).bind fun|.ret r=>V (.ret r)|.nxt _=>qfI a_0 n (W64 (a+1)) else V (.nxt a)
def qjN(n:Nat)(a_0:qA):Option Bool:=(qiU n a_0).bind fun(b,g)=>(bif (!g) then V true else(qf9 n a_0.Ba).bind fun h=>bif (!h) then V true else bif decide ((a_0.Ap.length:Int) > 8) then V true else(qag n a_0.Cc 0 100000).bind fun i=>bif (!i) then V true else(qag n a_0.Bx 0 100000).bind fun k=>V (!k)).bind fun b1=>bif b1 then V false else(qfI a_0 n 0).bind fun|.ret r=>V r|.nxt _=>(qit n a_0).bind fun a=>bif (a_0.Ar==1) then(qfz a_0 n 0).bind fun|.ret r=>V r|.nxt _=>bif (b==0) then(shlS 1 (IntKind.wrap .u64 (W64 ((a_0.As.length:Int)-1)))).bind fun l=>V ((a_0.Bo.length:Int)==l) else V false else bif (a_0.Ar==2) then bif (b==1) then(idx a 1).bind fun m=>bif (m==0) then(idx a 2).bind fun p=>(idx a 3).bind fun s=>bif (!((decide (p > 0))==(decide (s > 0)))) then V ((a_0.Bo.length:Int)==0) else V false else V false else V false else bif (a_0.Ar==3) then bif (b==1) then(idx a 1).bind fun c=>bif decide (c > 0) then(idx a 2).bind fun d=>bif decide (d > 0) then(idx a 3).bind fun f=>bif (f==0) then V ((a_0.Bo.length:Int)==0) else V false else V false else V false else V false else V false
theorem qok{a_0:qA}(c:Ro w a_0 cs1){r:Bool}(F:qjN n a_0=V r):RetV prog 204 [oV qA cs1] w r:=by
 obtain⟨p1,O,Q,P,R,k3,rfl,_,s2,s3⟩:=qW c;refine zV 182 func204 Z fun h=>zSR (qJ h Z Z fun _ a h=>X1 5 0 h Z ?_);obtain⟨⟨N,r3⟩,d1,F⟩:=qd F;refine qb6 (N,r3) h (cB 242 Z) (qn6 (h.old c) d1) Z Z Z Z fun _ _ _ d9 d3=>?_;obtain⟨_,_,rfl,e2,d4⟩:=d9.consI d3;obtain⟨rfl,h⟩:=e2.lastB d4;refine X0 8 Z ?_;obtain⟨S,p,_,F,b⟩:=bindE F;refine qaP (fun e w'=>∃b1,S b1=V r/\e=[(1,vp a),(3,vi N),(40,.bool b1)]/\SH w w' [oX a (qI a_0 p1 Q R O P k3) 166]) ?_ ?_
 ·refine X0 4 Z (qj (t:=17) F Z ?_ ?_)<;>intro F
  ·refine X0 24 Z ?_;obtain rfl:=qb F;exact rG ⟨_,b,rfl,h⟩ Z
  refine X1 5 0 h Z (zcB h F qhu Z fun _ _ h F=>X0 4 Z (qj (t:=23) F Z ?_ ?_))<;>intro F
  ·refine X0 18 Z ?_;obtain rfl:=qb F;exact rG ⟨_,b,rfl,h⟩ Z
  refine X1 10 0 h Z (qj (t:=29) F Z ?_ ?_)<;>intro F
  ·refine X0 12 Z ?_;obtain rfl:=qb F;exact rG ⟨_,b,rfl,h⟩ Z
  refine X1 5 0 h Z (zcB h F qS Z fun _ _ h F=>X0 4 Z (qj (t:=35) F Z ?_ ?_))<;>intro F
  ·refine X0 6 Z ?_;obtain rfl:=qb F;exact rG ⟨_,b,rfl,h⟩ Z
  refine X1 5 0 h Z (zcB h F qS Z fun _ _ h F=>X0 4 Z ?_);obtain rfl:=qb F;exact rG ⟨_,b,rfl,h⟩ Z
 rintro _ _ ⟨b1,F,rfl,h⟩;subst p;refine qq Z F ?_ ?_<;>intro F
 ·exact X0 4 Z (rb h F Z)
 refine X0 6 Z ?_;obtain⟨o1,F,g⟩:=qd F;refine qp (rL (fun m e w'=>∃M,qfI a_0 m M=V o1/\e=[(1,vp a),(3,vi N),(5,vi M)]/\SH w w' [oX a (qI a_0 p1 Q R O P k3) 166]) n ⟨_,F,rfl,h⟩ Z ?_);rintro m1 _ _ ⟨M,F,rfl,h⟩;rcases m1 with _|m1
 ·cases F
 refine X1 9 0 h Z (qq Z F ?_ ?_)<;>intro F
 ·refine X1 8 0 h Z ?_;obtain⟨y1,_,F,a3,_,_,_,_,a8,c2,d5,T⟩:=s2.ix F;obtain⟨p4,k4,p5,k5,rfl,s4,s5⟩:=qam d5;refine zxe a8 c2 a3 Z (zc 0 (T.below h.below) Z (qi qa h Z Z Z fun _ k h=>zs 0 h Z fun _ h=>X2 6 1 0 h Z (zcB h F (qoI (h.old c) (qhf y1 (h.oldS s4) (h.oldS s5))) Z fun _ _ h F=>X0 2 Z (qq Z F ?_ ?_))))<;>intro F
  ·refine X0 4 Z ?_;obtain rfl:=qb F;replace F:=g;exact rb h F Z
  refine X0 5 Z ?_;obtain⟨o2,F,l⟩:=qd F;refine qp (rL (fun m e w'=>∃i2,qdG a_0 M y1 m i2=V o2/\e=[(1,vp a),(3,vi N),(5,vi M),(6,vp k),(7,vi i2)]/\SH w w' [oX k (qd0 y1 p4 p5 k4 k5) 170,oX a (qI a_0 p1 Q R O P k3) 166]) m1 ⟨_,F,rfl,h⟩ Z ?_);rintro m2 _ _ ⟨i2,F,rfl,h⟩;rcases m2 with _|m2
  ·cases F
  refine X0 7 Z (qq Z F ?_ ?_)<;>intro F
  ·refine X0 4 Z (rD (Y1 2 1 h Z ?_));refine zd1 Z ?_;obtain⟨_,_,F,a4,_,_,_,_,a9,c3,d6,W⟩:=s2.ix F;obtain⟨_,_,_,_,rfl,_,_⟩:=qam d6;refine zdxe a9 c3 a4 Z (zd1 Z (zdc 0 (W.below h.below) Z (Y1 2 0 h Z ?_)));refine zd2 Z (qbQ (t:=71) F Z ?_ ?_)<;>intro F
   ·refine Y1 4 1 h Z ?_;refine Y0 3 Z ?_;obtain⟨_,_,F,a5,_,_,_,_,b4,c4,d7,X⟩:=s2.ix F;obtain⟨_,_,_,_,rfl,_,_⟩:=qam d7;refine zdxe b4 c4 a5 Z (Y0 3 Z (zdc 1 (X.below h.below) Z (Y1 4 0 h Z ?_)));refine Y0 4 Z (qbQ (t:=82) F Z ?_ ?_)<;>intro F
    ·refine Y1 4 1 h Z ?_;refine Y0 3 Z ?_;obtain⟨_,_,F,a6,_,_,_,_,b5,c5,d8,Y⟩:=s2.ix F;obtain⟨_,_,_,_,rfl,_,_⟩:=qam d8;refine zdxe b5 c5 a6 Z (Y0 3 Z (zdc 2 (Y.below h.below) Z (Y1 4 0 h Z ?_)));refine Y0 3 Z (dN h fun _ h=>qq Z F ?_ ?_)<;>intro F
     ·refine X0 4 Z ?_;obtain rfl:=qb F;replace F:=l;obtain rfl:=qb F;replace F:=g;exact rb h F Z
     exact X0 7 Z (rK ⟨_,F,rfl,h⟩ Z)
    exact Y0 10 Z (dN h fun _ h=>qdl Z Z (X0 7 Z (rK ⟨_,F,rfl,h⟩ Z)))
   exact Y0 21 Z (dN h fun _ h=>qdl Z Z (X0 7 Z (rK ⟨_,F,rfl,h⟩ Z)))
  refine qw Z ?_;obtain rfl:=qb F;replace F:=l;refine X0 6 Z ?_;replace h:=h.p [1] Z;exact rK ⟨_,F,rfl,h⟩ Z
 refine qw Z ?_;obtain rfl:=qb F;replace F:=g;refine X1 3 0 h Z (zcL h F (qnk (h.old c)) Z fun _ _ _ _ _ h F=>X1 14 1 h Z (qq Z F ?_ ?_))<;>intro F
 ·refine X0 5 Z ?_;obtain⟨o3,F,o⟩:=qd F;refine qp ?_;replace h:=h.p [1] Z;refine rL (fun m e w'=>∃i3,qfz a_0 m i3=V o3/\e=[(1,vp a),(3,vi N),(9,vi i3)]/\SH w w' [oX a (qI a_0 p1 Q R O P k3) 166]) n ⟨_,F,rfl,h⟩ Z ?_;rintro m3 _ _ ⟨i3,F,rfl,h⟩;rcases m3 with _|m3
  ·cases F
  refine X1 9 0 h Z (qq Z F ?_ ?_)<;>intro F
  ·refine X1 8 0 h Z ?_;obtain⟨_,_,F,a7,_,_,_,_,b6,c6,rfl,s⟩:=s3.ix F;refine zxe b6 c6 a7 Z (zc 0 (s.below h.below) Z (zcB h F qS Z fun _ _ h F=>X0 2 Z (qq Z F ?_ ?_)))<;>intro F
   ·refine X0 4 Z ?_;obtain rfl:=qb F;replace F:=o;exact rb h F Z
   exact X0 7 Z (rK ⟨_,F,rfl,h⟩ Z)
  refine qw Z ?_;obtain rfl:=qb F;replace F:=o;refine X0 5 Z (qj (t:=115) F Z ?_ ?_)<;>intro F
  ·refine X2 17 0 0 h Z ?_;obtain⟨_,i,F⟩:=qd F;obtain⟨g1,i⟩:=qna i;refine r_v (qti g1 Z Z) Z ?_;rw[i];exact X0 5 Z (rb h F Z)
  exact X0 13 Z (rb h F Z)
 refine X0 5 Z (qq Z F ?_ ?_)<;>intro F
 ·refine qcz (rD (zd3 Z (qbQ (t:=131) F Z ?_ ?_)))<;>intro F
  ·refine Y0 3 Z ?_;obtain⟨_,_,F,B,_,_,_,_,b7,c7,rfl,u⟩:=(h.sl 0 Z).1.ix F;refine zdx b7 c7 ⟨B.1,qK B.2.1 (h.sl 0 Z).2⟩ Z (Y0 1 Z (zdc 0 u Z (Y0 4 Z (qbQ (t:=137) F Z ?_ ?_))))<;>intro F
   ·refine Y0 3 Z ?_;obtain⟨_,_,F,C,_,_,_,_,b8,c8,rfl,v⟩:=(h.sl 0 Z).1.ix F;refine zdx b8 c8 ⟨C.1,qK C.2.1 (h.sl 0 Z).2⟩ Z (Y0 1 Z (zdc 0 v Z (Y0 5 Z ?_)));obtain⟨_,_,F,D,_,_,_,_,b9,c9,rfl,x⟩:=(h.sl 0 Z).1.ix F;refine zdx b9 c9 ⟨D.1,qK D.2.1 (h.sl 0 Z).2⟩ Z (Y0 1 Z (zdc 0 x Z (Y0 6 Z (qbQ (t:=148) F Z ?_ ?_))))<;>intro F
    ·refine Y1 4 1 h Z ?_;exact Y0 6 Z (dN h fun _ h=>rb h F Z)
    exact Y0 6 Z (dN h fun _ h=>rb h F Z)
   exact Y0 17 Z (dN h fun _ h=>rb h F Z)
  exact Y0 23 Z (dN h fun _ h=>rb h F Z)
 refine X0 5 Z (qq Z F ?_ ?_)<;>intro F
 ·refine X0 5 Z (qj (t:=158) F Z ?_ ?_)<;>intro F
  ·refine X0 3 Z ?_;obtain⟨_,_,F,H,_,_,_,_,c0,d0,rfl,y⟩:=(h.sl 0 Z).1.ix F;refine zx c0 d0 ⟨H.1,qK H.2.1 (h.sl 0 Z).2⟩ Z (X0 1 Z (zc 0 y Z (X0 4 Z (qj (t:=164) F Z ?_ ?_))))<;>intro F
   ·refine X0 3 Z ?_;obtain⟨_,_,F,d,_,_,_,_,I,K,rfl,z⟩:=(h.sl 0 Z).1.ix F;refine zx I K ⟨d.1,qK d.2.1 (h.sl 0 Z).2⟩ Z (X0 1 Z (zc 0 z Z (X0 4 Z (qj (t:=170) F Z ?_ ?_))))<;>intro F
    ·refine X0 3 Z ?_;obtain⟨_,_,F,f,_,_,_,_,J,L,rfl,A⟩:=(h.sl 0 Z).1.ix F;refine zx J L ⟨f.1,qK f.2.1 (h.sl 0 Z).2⟩ Z (X0 1 Z (zc 0 A Z (X0 4 Z (qj (t:=176) F Z ?_ ?_))))<;>intro F
     ·exact X1 11 1 h Z (rb h F Z)
     exact X0 7 Z (rb h F Z)
    exact X0 13 Z (rb h F Z)
   exact X0 19 Z (rb h F Z)
  exact X0 25 Z (rb h F Z)
 exact X0 6 Z (rb h F Z)
def qdN(l:qr)(b:Int):Nat->Int->Option (Flow Bool Int)|0,_=>U|n+1,a=>bif decide (a<b) then(idx l.Aj a).bind fun c=>(idx l.Aj b).bind fun d=>bif (c.Ba.toList==d.Ba.toList) then V (.ret false) else qdN l b n (W64 (a+1)) else V (.nxt a)
def qdQ(l:qr):Nat->Int->Option (Flow Bool Int)|0,_=>U|n+1,a=>bif decide (a<(l.Aj.length:Int)) then(idx l.Aj a).bind fun b=>(qjN n b).bind fun r1=>bif (!r1) then V (.ret false) else(qdN l a n 0).bind fun|.ret r=>V (.ret r)|.nxt _=>qdQ l n (W64 (a+1)) else V (.nxt a)
def qh7(n:Nat)(l:qr):Option Bool:=(qdQ l n 0).bind fun|.ret r=>V r|.nxt _=>V (decide ((l.Aj.length:Int)<=8))
theorem qmZ{l:qr}(f:Ro w l cs1){r:Bool}(F:qh7 n l=V r):RetV prog 144 [oV qr cs1] w r:=by
 obtain⟨p1,I,rfl,s1⟩:=qdC f;refine zV 41 func144 Z fun h=>zSR (qJ h Z Z fun _ a h=>X0 7 Z ?_);obtain⟨K,F,b⟩:=qd F;refine qp (rL (fun m e w'=>∃d,qdQ l m d=V K/\e=[(1,vp a),(3,vi d)]/\SH w w' [oX a [oS p1 l.Aj.length I] 26]) n ⟨_,F,rfl,h⟩ Z ?_);rintro H _ _ ⟨d,F,rfl,h⟩;rcases H with _|H
 ·cases F
 refine X1 9 0 h Z (qq Z F ?_ ?_)<;>intro F
 ·refine X1 9 0 h Z ?_;obtain⟨O,_,F,o,_,_,_,_,t,x,A,g⟩:=s1.ix F;obtain⟨_,_,_,_,_,_,rfl,s2,M,N⟩:=qW A;refine zxe t x o Z (zc 0 (g.below h.below) Z (zcB h F (qok (qns O (h.oldS s2) (h.oldS M) (h.oldS N))) Z fun _ _ h F=>X0 2 Z (qq Z F ?_ ?_)))<;>intro F
  ·refine X0 4 Z ?_;obtain rfl:=qb F;replace F:=b;exact rb h F Z
  refine X0 5 Z ?_;obtain⟨L,F,c⟩:=qd F;refine qp (rL (fun m e w'=>∃D,qdN l d m D=V L/\e=[(1,vp a),(3,vi d),(4,vi D)]/\SH w w' [oX a [oS p1 l.Aj.length I] 26]) H ⟨_,F,rfl,h⟩ Z ?_);rintro J _ _ ⟨D,F,rfl,h⟩;rcases J with _|J
  ·cases F
  refine X0 7 Z (qq Z F ?_ ?_)<;>intro F
  ·refine X0 4 Z (rD (Y1 2 0 h Z ?_));refine zd1 Z ?_;obtain⟨_,_,F,p,_,_,_,_,u,y,B,i⟩:=s1.ix F;obtain⟨_,_,_,_,_,_,rfl,_,_,_⟩:=qW B;refine zdxe u y p Z (zd1 Z (zdc 0 (i.below h.below) Z (Y1 2 0 h Z ?_)));refine zd1 Z ?_;obtain⟨_,_,F,s,_,_,_,_,v,z,C,k⟩:=s1.ix F;obtain⟨_,_,_,_,_,_,rfl,_,_,_⟩:=qW C;refine zdxe v z s Z (zd1 Z (zdc 0 (k.below h.below) Z (zd1 Z (dN h fun _ h=>qq Z F ?_ ?_))))<;>intro F
   ·refine X0 4 Z ?_;obtain rfl:=qb F;replace F:=c;obtain rfl:=qb F;replace F:=b;exact rb h F Z
   exact X0 7 Z (rK ⟨_,F,rfl,h⟩ Z)
  refine qw Z ?_;obtain rfl:=qb F;replace F:=c;exact X0 6 Z (rK ⟨_,F,rfl,h⟩ Z)
 refine qw Z ?_;obtain rfl:=qb F;replace F:=b;exact X1 8 0 h Z (rb h F Z)
end Go.Fw


namespace Go.Fw
open Go Go.Proofs Go.Proofs.Tryz
open Go.RowKit (Below)
open Ch renaming own->oW,box->oX,grp->oG
open GoT renaming v->oV
open Go.Value renaming slice->oS
set_option maxRecDepth 100000
set_option maxHeartbeats 6400000
variable{n:Nat}{w:World}{cs1 cs2 cs3 cs4 cs5 cs6 cs7 cs8 cs9:List Value}
def qew(a_1:qh)(b:qz):Nat->Int->Option (Flow Bool Int)|0,_=>U|n+1,a=>bif decide (a<(b.Ai.length:Int)) then(idx b.Ai a).bind fun c=>(qag n c 0 (W64 ((a_1.Ai.length:Int)-1))).bind fun r1=>bif (!r1) then V (.ret false) else qew a_1 b n (W64 (a+1)) else V (.nxt a)
def qey(a_1:qh):Nat->Int->Option (Flow Bool Int)|0,_=>U|n+1,a=>bif decide (a<(a_1.Af.length:Int)) then(idx a_1.Af a).bind fun d=>(qag n d.Bw 1 2).bind fun b=>bif (!b) then V (.ret false) else(idx a_1.Af a).bind fun f=>(qag n f.Bz 0 (W64 ((a_1.Ai.length:Int)-1))).bind fun c=>bif (!c) then V (.ret false) else qey a_1 n (W64 (a+1)) else V (.nxt a)
def qeu(a_0:qr)(a_1:qh):Nat->Int->Option (Flow Bool Int)|0,_=>U|n+1,a=>bif decide (a<(a_1.Ab.length:Int)) then(idx a_1.Ab a).bind fun b=>((qag n b.Bn 0 (W64 ((a_0.Aj.length:Int)-1))).bind fun c=>bif (!c) then V true else(idx a_0.Aj b.Bn).bind fun d=>V ((b.Ai.length:Int) != (d.As.length:Int))).bind fun b2=>bif b2 then V (.ret false) else(qew a_1 b n 0).bind fun|.ret r=>V (.ret r)|.nxt _=>qeu a_0 a_1 n (W64 (a+1)) else V (.nxt a)
def qir(n:Nat)(a_0:qr)(a_1:qh):Option Bool:=(qeu a_0 a_1 n 0).bind fun|.ret r=>V r|.nxt _=>(qey a_1 n 0).bind fun|.ret r=>V r|.nxt _=>V true
theorem qng{a_0:qr}{a_1:qh}(z:Ro w a_0 cs1)(A:Ro w a_1 cs2){r:Bool}(F:qir n a_0 a_1=V r):RetV prog 145 [oV qr cs1,oV qh cs2] w r:=by
 obtain⟨p1,k1,rfl,s1⟩:=qdC z;obtain⟨u,p,v,k3,x,s,rfl,s2,_,s4⟩:=qa0 A;refine zV 90 func145 Z fun h=>zSR (qJ h Z Z fun _ b h=>qJ h Z Z fun _ a h=>X1 14 0 h Z ?_);obtain⟨o1,F,d⟩:=qd F;refine qp (rL (fun m e w'=>∃o,qeu a_0 a_1 m o=V o1/\e=[(2,vp b),(3,vp a),(5,vi (a_1.Ai.length:Int)),(6,vi o)]/\SH w w' [oX a (qax a_1 u v x p k3 s) 31,oX b [oS p1 a_0.Aj.length k1] 26]) n ⟨_,F,rfl,h⟩ Z ?_);rintro m1 _ _ ⟨o,F,rfl,h⟩;rcases m1 with _|m1
 ·cases F
 refine X1 9 0 h Z (qq Z F ?_ ?_)<;>intro F
 ·refine X1 8 0 h Z ?_;obtain⟨y1,_,F,I,_,_,_,_,N,S,a3,B⟩:=s2.ix F;obtain⟨p5,k5,rfl,s5⟩:=qac a3;refine zxe N S I Z (zc 0 (B.below h.below) Z (qi qa h Z Z Z fun _ c h=>zs 0 h Z fun _ h=>zNSS ?_));obtain⟨y,k,_,F,i⟩:=bindE F;refine qaP (fun e w'=>∃b2,y b2=V o1/\e=[(2,vp b),(3,vp a),(5,vi (a_1.Ai.length:Int)),(6,vi o),(7,vp c),(46,.bool b2)]/\SH w w' [oX c (qiE y1 p5 k5) 77,oX a (qax a_1 u v x p k3 s) 31,oX b [oS p1 a_0.Aj.length k1] 26]) ?_ ?_
  ·refine rD (Y1 2 0 h Z ?_);refine Y1 2 2 h Z ?_;refine zd2 Z ?_;obtain⟨r2,a4,F⟩:=qd F;refine qcY r2 (vsB _) (cB 43 Z) (fun _ hb=>qS  a4) Z Z Z Z (zd2 Z (qbQ (t:=33) F Z ?_ ?_))<;>intro F
   ·refine Y0 13 Z (dN h fun _ h=>?_);obtain rfl:=qb F;exact rG ⟨_,i,rfl,h⟩ Z
   refine Y1 4 0 h Z ?_;refine Y1 6 2 h Z ?_;refine Y1 4 0 h Z ?_;refine Y0 1 Z ?_;obtain⟨_,_,F,K,_,_,_,_,P,W,a5,D⟩:=s1.ix F;obtain⟨_,_,_,_,_,_,rfl,_,_,_⟩:=qW a5;refine zdxe P W K Z (Y0 3 Z (zdc 2 (D.below h.below) Z (Y0 5 Z (dN h fun _ h=>?_))));obtain rfl:=qb F;exact rG ⟨_,i,rfl,h⟩ Z
  rintro _ _ ⟨b2,F,rfl,h⟩;subst k;refine qq Z F ?_ ?_<;>intro F
  ·refine X0 4 Z ?_;obtain rfl:=qb F;replace F:=d;exact rb h F Z
  refine X0 5 Z ?_;obtain⟨o2,F,g⟩:=qd F;refine qp (rL (fun m e w'=>∃i2,qew a_1 y1 m i2=V o2/\e=[(2,vp b),(3,vp a),(5,vi (a_1.Ai.length:Int)),(6,vi o),(7,vp c),(8,vi i2)]/\SH w w' [oX c (qiE y1 p5 k5) 77,oX a (qax a_1 u v x p k3 s) 31,oX b [oS p1 a_0.Aj.length k1] 26]) m1 ⟨_,F,rfl,h⟩ Z ?_);rintro m2 _ _ ⟨i2,F,rfl,h⟩;rcases m2 with _|m2
  ·cases F
  refine X1 9 0 h Z (qq Z F ?_ ?_)<;>intro F
  ·refine X1 8 0 h Z ?_;obtain⟨_,_,F,J,_,_,_,_,O,T,rfl,C⟩:=s5.ix F;refine zxe O T J Z (zc 0 (C.below h.below) Z (zp2 Z (zcB h F qS Z fun _ _ h F=>X0 2 Z (qq Z F ?_ ?_))))<;>intro F
   ·refine X0 4 Z ?_;obtain rfl:=qb F;replace F:=g;obtain rfl:=qb F;replace F:=d;exact rb h F Z
   exact X0 7 Z (rK ⟨_,F,rfl,h⟩ Z)
  refine qw Z ?_;obtain rfl:=qb F;replace F:=g;refine X0 6 Z ?_;replace h:=h.p [1,2] Z;exact rK ⟨_,F,rfl,h⟩ Z
 refine qw Z ?_;obtain rfl:=qb F;replace F:=d;refine X0 5 Z ?_;obtain⟨o4,F,f⟩:=qd F;refine qp ?_;replace h:=h.p [0] Z;refine rL (fun m e w'=>∃i3,qey a_1 m i3=V o4/\e=[(3,vp a),(5,vi (a_1.Ai.length:Int)),(9,vi i3)]/\SH w w' [oX a (qax a_1 u v x p k3 s) 31]) n ⟨_,F,rfl,h⟩ Z ?_;rintro m3 _ _ ⟨i3,F,rfl,h⟩;rcases m3 with _|m3
 ·cases F
 refine X1 9 0 h Z (qq Z F ?_ ?_)<;>intro F
 ·refine X1 8 0 h Z ?_;obtain⟨_,_,F,L,_,_,_,_,Q,X,a6,H⟩:=s4.ix F;obtain rfl:=qeD a6;refine zxe Q X L Z (zp1 Z (zc 1 (H.below h.below) Z (zcB h F qS Z fun _ _ h F=>zp2 Z (qj (t:=78) F Z ?_ ?_))))<;>intro F
  ·refine X0 12 Z (qbZ Z Z (X0 4 Z ?_));obtain rfl:=qb F;replace F:=f;exact rb h F Z
  refine X1 7 0 h Z ?_;obtain⟨_,_,F,M,_,_,_,_,R,Y,a7,l⟩:=s4.ix F;obtain rfl:=qeD a7;refine zxe R Y M Z (X0 3 Z (zc 2 (l.below h.below) Z (X0 5 Z (zcB h F qS Z fun _ _ h F=>X0 4 Z (qq Z F ?_ ?_)))))<;>intro F
  ·refine X0 4 Z ?_;obtain rfl:=qb F;replace F:=f;exact rb h F Z
  exact X0 7 Z (rK ⟨_,F,rfl,h⟩ Z)
 refine qw Z ?_;obtain rfl:=qb F;replace F:=f;exact X0 4 Z (rb h F Z)
def qes(list:(List ByteArray))(b:Int):Nat->Int->Option (Flow Bool Int)|0,_=>U|n+1,a=>bif decide (a<b) then(idx list a).bind fun c=>(idx list b).bind fun d=>bif (c.toList==d.toList) then V (.ret false) else qes list b n (W64 (a+1)) else V (.nxt a)
def qex(list:(List ByteArray)):Nat->Int->Option (Flow Bool Int)|0,_=>U|n+1,a=>bif decide (a<(list.length:Int)) then(idx list a).bind fun b=>(qf9 n b).bind fun r1=>bif (!r1) then V (.ret false) else(qes list a n 0).bind fun|.ret r=>V (.ret r)|.nxt _=>qex list n (W64 (a+1)) else V (.nxt a)
def qgl(n:Nat)(list:(List ByteArray)):Option Bool:=(qex list n 0).bind fun|.ret r=>V r|.nxt _=>V true
theorem qik{list:(List ByteArray)}(d:Ro w list cs1){r:Bool}(F:qgl n list=V r):RetV prog 146 [oV (List ByteArray) cs1] w r:=by
 obtain⟨p1,A,rfl,s1⟩:=d;refine zV 31 func146 Z fun h=>X0 9 Z ?_;obtain⟨C,F,a⟩:=qd F;refine qp (rL (fun m e w'=>∃c,qex list m c=V C/\e=[(0,oS p1 list.length A),(3,vi c)]/\SH w w' []) n ⟨_,F,rfl,h⟩ Z ?_);rintro z _ _ ⟨c,F,rfl,h⟩;rcases z with _|z
 ·cases F
 refine X0 8 Z (qq Z F ?_ ?_)<;>intro F
 ·refine X0 8 Z ?_;obtain⟨_,_,F,k,_,_,_,_,p,u,rfl,f⟩:=s1.ix F;refine zxe p u k Z (zc 0 (f.below h.below) Z (zcB h F qhu Z fun _ _ h F=>X0 2 Z (qq Z F ?_ ?_)))<;>intro F
  ·refine X0 4 Z ?_;obtain rfl:=qb F;replace F:=a;exact rb h F Z
  refine X0 5 Z ?_;obtain⟨D,F,b⟩:=qd F;refine qp (rL (fun m e w'=>∃y,qes list c m y=V D/\e=[(0,oS p1 list.length A),(3,vi c),(4,vi y)]/\SH w w' []) z ⟨_,F,rfl,h⟩ Z ?_);rintro B _ _ ⟨y,F,rfl,h⟩;rcases B with _|B
  ·cases F
  refine X0 7 Z (qq Z F ?_ ?_)<;>intro F
  ·refine X0 4 Z (rD (zd2 Z ?_));obtain⟨_,_,F,l,_,_,_,_,s,v,rfl,g⟩:=s1.ix F;refine zdxe s v l Z (zdc 0 (g.below h.below) Z (zd2 Z ?_));obtain⟨_,_,F,o,_,_,_,_,t,x,rfl,i⟩:=s1.ix F;refine zdxe t x o Z (zdc 0 (i.below h.below) Z (zd1 Z (dN h fun _ h=>qq Z F ?_ ?_)))<;>intro F
   ·refine X0 4 Z ?_;obtain rfl:=qb F;replace F:=b;obtain rfl:=qb F;replace F:=a;exact rb h F Z
   exact X0 7 Z (rK ⟨_,F,rfl,h⟩ Z)
  refine qw Z ?_;obtain rfl:=qb F;replace F:=b;exact X0 6 Z (rK ⟨_,F,rfl,h⟩ Z)
 refine qw Z ?_;obtain rfl:=qb F;replace F:=a;exact X0 4 Z (rb h F Z)
def qeA(c:(List Int))(d:(List Int)):Nat->Int->Option (Flow Bool Int)|0,_=>U|n+1,a=>bif decide (a<(c.length:Int)) then(idx d a).bind fun b=>bif (b != 1) then V (.ret false) else qeA c d n (W64 (a+1)) else V (.nxt a)
def qcJ(a_1:qh):Nat->(List Int)->Int->Option ((List Int)×Int)|0,_,_=>U|n+1,b,a=>bif decide (a<(a_1.Af.length:Int)) then(idx a_1.Af a).bind fun d=>bif (d.Bw==1) then(idx a_1.Af a).bind fun c=>(idx b c.Bz).bind fun f=>(idx b c.Bz).bind fun _=>qcJ a_1 n (setS b c.Bz (W64 (f+1))) (W64 (a+1)) else qcJ a_1 n b (W64 (a+1)) else V (b,a)
def qdq(a_1:qh):Nat->(List Int)->Int->Option ((List Int)×Int)|0,_,_=>U|n+1,b,a=>bif decide (a<(a_1.Ab.length:Int)) then(idx a_1.Ab a).bind fun d=>(idx d.Ai (W64 ((d.Ai.length:Int)-1))).bind fun c=>(idx b c).bind fun f=>(idx b c).bind fun _=>qdq a_1 n (setS b c (W64 (f+1))) (W64 (a+1)) else V (b,a)
def qdy(a_1:qh):Nat->(List ByteArray)->Int->Option ((List ByteArray)×Int)|0,_,_=>U|n+1,b,a=>bif decide (a<(a_1.Af.length:Int)) then(idx a_1.Af a).bind fun d=>(appS b ([d.Ba]:List ByteArray)).bind fun c=>qdy a_1 n c (W64 (a+1)) else V (b,a)
def qdw(a_1:qh):Nat->(List ByteArray)->Int->Option ((List ByteArray)×Int)|0,_,_=>U|n+1,b,a=>bif decide (a<(a_1.Ab.length:Int)) then(idx a_1.Ab a).bind fun d=>(appS b ([d.Ba]:List ByteArray)).bind fun c=>qdw a_1 n c (W64 (a+1)) else V (b,a)
def qis(n:Nat)(a_0:qr)(a_1:qh):Option Bool:=((qh7 n a_0).bind fun f=>bif (!f) then V true else bif decide ((a_1.Ab.length:Int) > 14) then V true else bif decide ((a_1.Ai.length:Int) > 30) then V true else bif decide ((a_1.Af.length:Int) > 8) then V true else(qir n a_0 a_1).bind fun g=>V (!g)).bind fun b1=>bif b1 then V false else(qdw a_1 n ([]:List ByteArray) 0).bind fun(h,_)=>(qdy a_1 n ([]:List ByteArray) 0).bind fun(i,_)=>((qgl n h).bind fun r1=>bif (!r1) then V true else(qgl n i).bind fun c=>bif (!c) then V true else(qgl n a_1.Ai).bind fun d=>V (!d)).bind fun b=>bif b then V false else(mkS (a_1.Ai.length:Int) (0:Int)).bind fun a=>(qdq a_1 n a 0).bind fun(k,_)=>(qcJ a_1 n k 0).bind fun(l,_)=>(qeA a l n 0).bind fun|.ret r=>V r|.nxt _=>V true
theorem qm7{a_0:qr}{a_1:qh}(o:Ro w a_0 cs1)(L:Ro w a_1 cs2){r:Bool}(F:qis n a_0 a_1=V r):RetV prog 81 [oV qr cs1,oV qh cs2] w r:=by
 obtain⟨_,_,rfl,_⟩:=qdC o;obtain⟨B,z,C,k3,D,A,rfl,s2,s3,s4⟩:=qa0 L;refine zV 153 func81 Z fun h=>zSR (qJ h Z Z fun _ _ h=>qJ h Z Z fun _ a h=>X0 4 Z ?_);obtain⟨KF2,K,_,F,d⟩:=bindE F;refine qaP (fun e w'=>∃b1,KF2 b1=V r/\e=[(3,vp a),(40,.bool b1)]/\SH w w' [oX a (qax a_1 B C D z k3 A) 31]) ?_ ?_
 ·refine X1 2 1 h Z (zcB h F (qmZ (h.old o)) Z fun _ _ h F=>zp2 Z (qj (t:=17) F Z ?_ ?_))<;>intro F
  ·refine X0 24 Z ?_;replace h:=h.p [0] Z;obtain rfl:=qb F;exact rG ⟨_,d,rfl,h⟩ Z
  refine X1 10 0 h Z (qj (t:=23) F Z ?_ ?_)<;>intro F
  ·refine X0 18 Z ?_;replace h:=h.p [0] Z;obtain rfl:=qb F;exact rG ⟨_,d,rfl,h⟩ Z
  refine X1 10 0 h Z (qj (t:=29) F Z ?_ ?_)<;>intro F
  ·refine X0 12 Z ?_;replace h:=h.p [0] Z;obtain rfl:=qb F;exact rG ⟨_,d,rfl,h⟩ Z
  refine X1 10 0 h Z (qj (t:=35) F Z ?_ ?_)<;>intro F
  ·refine X0 6 Z ?_;replace h:=h.p [0] Z;obtain rfl:=qb F;exact rG ⟨_,d,rfl,h⟩ Z
  refine X2 5 1 0 h Z (zcB h F (qng (h.old o) (h.old L)) Z fun _ _ h F=>X0 4 Z ?_);replace h:=h.p [0] Z;obtain rfl:=qb F;exact rG ⟨_,d,rfl,h⟩ Z
 rintro _ _ ⟨b1,F,rfl,h⟩;subst K;refine qq Z F ?_ ?_<;>intro F
 ·exact X0 4 Z (rb h F Z)
 refine zKSR (qt qa [] _ ([]:List ByteArray) h Z Z Z Z Z Z Z Z Z trivial Z fun _ _ _ h=>X0 7 Z ?_);obtain⟨o1,F,hK1⟩:=qd F;refine qp (rL (fun m e w'=>∃S2 p6 v k5 H i1,qdw a_1 m H i1=V o1/\e=[(3,vp a),(5,oS p6 v k5),(6,vi i1)]/\SH w w' [oW S2 (H:List ByteArray) [oS p6 v k5],oX a (qax a_1 B C D z k3 A) 31]) n ⟨_,_,_,_,_,_,F,rfl,h⟩ Z ?_);rintro m1 _ _ ⟨S2,p6,v,k5,H,i1,F,rfl,h⟩;obtain rfl:=(h.sl 0 Z).2;rcases m1 with _|m1
 ·cases F
 refine X1 9 1 h Z (qq Z F ?_ ?_)<;>intro F
 ·refine X1 8 1 h Z ?_;obtain⟨y1,_,F,he1,_,_,_,_,hp1,hq1,hr1,hc3⟩:=s2.ix F;obtain⟨_,_,rfl,_⟩:=qac hr1;refine zxe hp1 hq1 he1 Z (zp1 Z (zc 0 (hc3.below h.below) Z (qt qa [.tmp 55] _ ([y1.Ba]:List ByteArray) h Z Z Z Z Z Z Z Z Z ⟨rfl,G⟩ Z fun _ _ _ h=>?_)));obtain⟨_,p,F⟩:=qd F;obtain⟨g1,p⟩:=qH p;refine qaC qa 1 h Z (h.sl 0 Z).1 (h.sl 0 Z).2 Z Z Z Z Z Z Z Z Z g1 p Z fun _ _ _ _ h=>X0 8 Z ?_;replace h:=h.p [1,2] Z;exact rK ⟨_,_,_,_,_,_,F,rfl,h⟩ Z
 refine qw Z ?_;obtain rfl:=qb F;replace F:=hK1;refine zSR (qt qa [] _ ([]:List ByteArray) h Z Z Z Z Z Z Z Z Z trivial Z fun _ _ _ h=>X0 7 Z ?_);obtain⟨o2,F,hK2⟩:=qd F;refine qp (rL (fun m e w'=>∃S6 y x k8 x3 i2,qdy a_1 m x3 i2=V o2/\e=[(3,vp a),(5,oS p6 H.length k5),(7,oS y x k8),(8,vi i2)]/\SH w w' [oW S6 (x3:List ByteArray) [oS y x k8],oW S2 (H:List ByteArray) [oS p6 H.length k5],oX a (qax a_1 B C D z k3 A) 31]) n ⟨_,_,_,_,_,_,F,rfl,h⟩ Z ?_);rintro m2 _ _ ⟨S6,y,x,k8,x3,i2,F,rfl,h⟩;obtain rfl:=(h.sl 0 Z).2;rcases m2 with _|m2
 ·cases F
 refine X1 9 2 h Z (qq Z F ?_ ?_)<;>intro F
 ·refine X1 8 2 h Z ?_;obtain⟨y2,_,F,he2,_,_,_,_,hp2,hq2,hr2,hc5⟩:=s4.ix F;obtain rfl:=qeD hr2;refine zxe hp2 hq2 he2 Z (zp1 Z (zc 0 (hc5.below h.below) Z (qt qa [.tmp 72] _ ([y2.Ba]:List ByteArray) h Z Z Z Z Z Z Z Z Z ⟨rfl,G⟩ Z fun _ _ _ h=>?_)));obtain⟨_,s,F⟩:=qd F;obtain⟨g2,s⟩:=qH s;refine qaC qa 1 h Z (h.sl 0 Z).1 (h.sl 0 Z).2 Z Z Z Z Z Z Z Z Z g2 s Z fun _ _ _ _ h=>X0 8 Z ?_;replace h:=h.p [1,2,3] Z;exact rK ⟨_,_,_,_,_,_,F,rfl,h⟩ Z
 refine qw Z ?_;obtain rfl:=qb F;replace F:=hK2;refine zSS ?_;obtain⟨KF1,J,_,F,l⟩:=bindE F;refine qaP (fun e w'=>∃b4,KF1 b4=V r/\e=[(3,vp a),(88,.bool b4)]/\SH w w' [oX a (qax a_1 B C D z k3 A) 31]) ?_ ?_
 ·refine X0 2 Z (zcB h F (qik (h.own 1 Z)) Z fun _ _ h F=>zp2 Z (qj (t:=78) F Z ?_ ?_))<;>intro F
  ·refine X0 11 Z ?_;replace h:=h.p [2] Z;obtain rfl:=qb F;exact rG ⟨_,l,rfl,h⟩ Z
  refine X0 3 Z (zcB h F (qik (h.own 0 Z)) Z fun _ _ h F=>X0 4 Z (qj (t:=83) F Z ?_ ?_))<;>intro F
  ·refine X0 6 Z ?_;replace h:=h.p [2] Z;obtain rfl:=qb F;exact rG ⟨_,l,rfl,h⟩ Z
  refine X1 5 2 h Z (zcB h F (qik ⟨_,_,rfl,(h.oldS s3)⟩) Z fun _ _ h F=>X0 4 Z ?_);replace h:=h.p [2] Z;obtain rfl:=qb F;exact rG ⟨_,l,rfl,h⟩ Z
 rintro _ _ ⟨b4,F,rfl,h⟩;subst J;refine qq Z F ?_ ?_<;>intro F
 ·exact X0 4 Z (rb h F Z)
 refine X1 6 0 h Z ?_;obtain⟨c,u,F⟩:=qd F;obtain⟨g3,g4,u⟩:=qat u;refine qaM qa Int h Z Z Z Z Z Z Z Z Z g3 g4 u Z fun _ S9 b h=>X0 7 Z ?_;obtain⟨o3,F,hK3⟩:=qd F;refine qp (rL (fun m e w'=>∃x6 i3,qdq a_1 m x6 i3=V o3/\e=[(3,vp a),(9,oS b c.length c.length),(10,vi i3)]/\SH w w' [oW S9 (x6:List Int) [oS b c.length c.length],oX a (qax a_1 B C D z k3 A) 31]) n ⟨_,_,F,rfl,h⟩ Z ?_);rintro m3 _ _ ⟨x6,i3,F,rfl,h⟩;rcases m3 with _|m3
 ·cases F
 refine X1 9 1 h Z (qq Z F ?_ ?_)<;>intro F
 ·refine X1 8 1 h Z ?_;obtain⟨_,_,F,he3,_,_,_,_,hp3,hq3,hr3,hc8⟩:=s2.ix F;obtain⟨_,_,rfl,s6⟩:=qac hr3;refine zxe hp3 hq3 he3 Z (zp1 Z (zc 2 (hc8.below h.below) Z (X0 8 Z ?_)));obtain⟨_,_,F,he4,_,_,_,_,hp4,hq4,rfl,hc9⟩:=s6.ix F;refine zxe hp4 hq4 he4 Z (zc 0 (hc9.below h.below) Z ?_);obtain⟨y5,_,F,T,_,_,_,_,hp5,hq5,rfl,M⟩:=(h.sl 0 Z).1.ix F;refine zx hp5 hq5 ⟨T.1,qK T.2.1 (h.sl 0 Z).2⟩ Z (zc 0 M Z (zp1 Z ?_));obtain⟨_,hy6,F,W,_,_,_,_,a3,a5,rfl,N⟩:=(h.sl 0 Z).1.ix F;exact zx a3 a5 ⟨W.1,qK W.2.1 (h.sl 0 Z).2⟩ Z (qa3 qa 0 0 (W64 (y5+1)) h Z hy6 a3 a5 Z N Z Z Z Z Z Z Z fun _ h=>X0 7 Z (rK ⟨_,_,F,rfl,h⟩ Z))
 refine qw Z ?_;obtain rfl:=qb F;replace F:=hK3;refine X0 5 Z ?_;obtain⟨o4,F,hK4⟩:=qd F;refine qp (rL (fun m e w'=>∃x7 i4,qcJ a_1 m x7 i4=V o4/\e=[(3,vp a),(9,oS b c.length c.length),(12,vi i4)]/\SH w w' [oW S9 (x7:List Int) [oS b c.length c.length],oX a (qax a_1 B C D z k3 A) 31]) n ⟨_,_,F,rfl,h⟩ Z ?_);rintro m4 _ _ ⟨x7,i4,F,rfl,h⟩;rcases m4 with _|m4
 ·cases F
 refine X1 9 1 h Z (qq Z F ?_ ?_)<;>intro F
 ·refine X1 8 1 h Z ?_;obtain⟨_,_,F,he7,_,_,_,_,hp7,hq7,hr7,O⟩:=s4.ix F;obtain rfl:=qeD hr7;refine zxe hp7 hq7 he7 Z (zp1 Z (zc 1 (O.below h.below) Z (X0 2 Z (qq Z F ?_ ?_))))<;>intro F
  ·refine X1 5 1 h Z ?_;obtain⟨_,_,F,he8,_,_,_,_,hp8,hq8,hr8,P⟩:=s4.ix F;obtain rfl:=qeD hr8;refine zxe hp8 hq8 he8 Z (zp1 Z (zc 2 (P.below h.below) Z ?_));obtain⟨y9,_,F,X,_,_,_,_,hp9,hq9,rfl,Q⟩:=(h.sl 0 Z).1.ix F;refine zx hp9 hq9 ⟨X.1,qK X.2.1 (h.sl 0 Z).2⟩ Z (zc 0 Q Z (zp1 Z ?_));obtain⟨_,a6,F,f,_,_,_,_,i,k,rfl,R⟩:=(h.sl 0 Z).1.ix F;exact zx i k ⟨f.1,qK f.2.1 (h.sl 0 Z).2⟩ Z (qa3 qa 0 0 (W64 (y9+1)) h Z a6 i k Z R Z Z Z Z Z Z Z fun _ h=>X0 7 Z (rK ⟨_,_,F,rfl,h⟩ Z))
  exact X0 7 Z (rK ⟨_,_,F,rfl,h⟩ Z)
 refine qw Z ?_;obtain rfl:=qb F;replace F:=hK4;refine X0 5 Z ?_;obtain⟨o5,F,I⟩:=qd F;refine qp ?_;replace h:=h.p [0] Z;refine rL (fun m e w'=>∃i5,qeA c x7 m i5=V o5/\e=[(9,oS b c.length c.length),(13,vi i5)]/\SH w w' [oW S9 (x7:List Int) [oS b c.length c.length]]) n ⟨_,F,rfl,h⟩ Z ?_;rintro m5 _ _ ⟨i5,F,rfl,h⟩;rcases m5 with _|m5
 ·cases F
 refine X0 8 Z (qq Z F ?_ ?_)<;>intro F
 ·refine X0 7 Z ?_;obtain⟨_,_,F,g,_,_,_,_,Y,a4,rfl,S⟩:=(h.sl 0 Z).1.ix F;refine zx Y a4 ⟨g.1,qK g.2.1 (h.sl 0 Z).2⟩ Z (zc 0 S Z (X0 2 Z (qq Z F ?_ ?_)))<;>intro F
  ·refine X0 4 Z ?_;obtain rfl:=qb F;replace F:=I;exact rb h F Z
  exact X0 7 Z (rK ⟨_,F,rfl,h⟩ Z)
 refine qw Z ?_;obtain rfl:=qb F;replace F:=I;exact X0 4 Z (rb h F Z)
def qfJ(a_0:qV):Nat->Int->Option (Flow Bool Int)|0,_=>U|n+1,a=>bif decide (a<(a_0.Bc.length:Int)) then(idx a_0.Bc a).bind fun c=>(qag n c 0 (W64 ((a_0.Ak.length:Int)-1))).bind fun b=>bif (!b) then V (.ret false) else qfJ a_0 n (W64 (a+1)) else V (.nxt a)
def qcU(a_0:qV):Nat->Int->Option (Flow Bool Int)|0,_=>U|n+1,a=>bif decide (a<(a_0.Ak.length:Int)) then((idx a_0.Bp a).bind fun k=>(qag n k 0 500).bind fun c=>bif (!c) then V true else(idx a_0.Bt a).bind fun l=>(qag n l 0 1000).bind fun d=>V (!d)).bind fun b2=>bif b2 then V (.ret false) else bif (a==0) then(idx a_0.Ak a).bind fun f=>bif (f != (-1)) then V (.ret false) else(idx a_0.Bt a).bind fun g=>bif (g != 0) then V (.ret false) else bif decide (a > 0) then(idx a_0.Ak a).bind fun h=>(qag n h 0 (W64 (a-1))).bind fun r1=>bif (!r1) then V (.ret false) else qcU a_0 n (W64 (a+1)) else qcU a_0 n (W64 (a+1)) else bif decide (a > 0) then(idx a_0.Ak a).bind fun i=>(qag n i 0 (W64 (a-1))).bind fun b=>bif (!b) then V (.ret false) else qcU a_0 n (W64 (a+1)) else qcU a_0 n (W64 (a+1)) else V (.nxt a)
def qjJ(n:Nat)(a_0:qV)(a_1:Int):Option Bool:=(bif decide ((a_0.Ak.length:Int)<1) then V true else bif decide ((a_0.Ak.length:Int) > 8) then V true else bif ((a_0.Bt.length:Int) != (a_0.Ak.length:Int)) then V true else bif ((a_0.Bp.length:Int) != (a_0.Ak.length:Int)) then V true else V ((a_0.Bc.length:Int) != a_1)).bind fun b1=>bif b1 then V false else(qcU a_0 n 0).bind fun|.ret r=>V r|.nxt _=>(qfJ a_0 n 0).bind fun|.ret r=>V r|.nxt _=>V true
theorem qoN{a_0:qV}{a_1}(C:Ro w a_0 cs1){r:Bool}(F:qjJ n a_0 a_1=V r):RetV prog 82 [oV qV cs1,vi a_1] w r:=by
 obtain⟨p1,s,x,u,y,k3,z,v,rfl,s1,s2,s3,s4⟩:=qbJ C;refine zV 108 func82 Z fun h=>zSR (qJ h Z Z fun _ a h=>X1 11 0 h Z ?_);obtain⟨B,i,_,F,c⟩:=bindE F;refine qaP (fun e w'=>∃b1,B b1=V r/\e=[(2,vp a),(5,vi (a_0.Ak.length:Int)),(37,.bool b1)]/\SH w w' [oX a (qf8 a_0 p1 x y z s u k3 v) 152]) ?_ ?_
 ·refine X0 4 Z (qj (t:=13) F Z ?_ ?_)<;>intro F
  ·refine X0 25 Z ?_;obtain rfl:=qb F;exact rG ⟨_,c,rfl,h⟩ Z
  refine X0 6 Z (qj (t:=17) F Z ?_ ?_)<;>intro F
  ·refine X0 21 Z ?_;obtain rfl:=qb F;exact rG ⟨_,c,rfl,h⟩ Z
  refine X1 12 0 h Z (qj (t:=24) F Z ?_ ?_)<;>intro F
  ·refine X0 14 Z ?_;obtain rfl:=qb F;exact rG ⟨_,c,rfl,h⟩ Z
  refine X1 12 0 h Z (qj (t:=31) F Z ?_ ?_)<;>intro F
  ·refine X0 7 Z ?_;obtain rfl:=qb F;exact rG ⟨_,c,rfl,h⟩ Z
  refine X1 12 0 h Z ?_;obtain rfl:=qb F;exact rG ⟨_,c,rfl,h⟩ Z
 rintro _ _ ⟨b1,F,rfl,h⟩;subst i;refine qq Z F ?_ ?_<;>intro F
 ·exact X0 4 Z (rb h F Z)
 refine X0 6 Z ?_;obtain⟨o1,F,b⟩:=qd F;refine qp (rL (fun m e w'=>∃p,qcU a_0 m p=V o1/\e=[(2,vp a),(5,vi (a_0.Ak.length:Int)),(6,vi p)]/\SH w w' [oX a (qf8 a_0 p1 x y z s u k3 v) 152]) n ⟨_,F,rfl,h⟩ Z ?_);rintro m1 _ _ ⟨p,F,rfl,h⟩;rcases m1 with _|m1
 ·cases F
 refine X0 7 Z (qq Z F ?_ ?_)<;>intro F
 ·refine X0 5 Z ?_;obtain⟨A,g,_,F,d⟩:=bindE F;refine qaP (fun e w'=>∃b2,A b2=V o1/\e=[(2,vp a),(5,vi (a_0.Ak.length:Int)),(6,vi p),(58,.bool b2)]/\SH w w' [oX a (qf8 a_0 p1 x y z s u k3 v) 152]) ?_ ?_
  ·refine X1 4 0 h Z ?_;obtain⟨_,_,F,O,_,_,_,_,X,a8,rfl,k⟩:=s3.ix F;refine zxe X a8 O Z (zc 0 (k.below h.below) Z (zcB h F qS Z fun _ _ h F=>zp2 Z (qj (t:=50) F Z ?_ ?_)))<;>intro F
   ·refine X0 9 Z ?_;obtain rfl:=qb F;exact rG ⟨_,d,rfl,h⟩ Z
   refine X1 7 0 h Z ?_;obtain⟨_,_,F,P,_,_,_,_,Y,a9,rfl,l⟩:=s2.ix F;refine zxe Y a9 P Z (X0 1 Z (zc 0 (l.below h.below) Z (X0 1 Z (zcB h F qS Z fun _ _ h F=>X0 4 Z ?_))));obtain rfl:=qb F;exact rG ⟨_,d,rfl,h⟩ Z
  rintro _ _ ⟨b2,F,rfl,h⟩;subst g;refine qq Z F ?_ ?_<;>intro F
  ·refine X0 4 Z ?_;obtain rfl:=qb F;replace F:=b;exact rb h F Z
  refine X0 6 Z (qj (t:=61) F Z ?_ ?_)<;>intro F
  ·refine X1 7 0 h Z ?_;obtain⟨_,_,F,K,_,_,_,_,R,a4,rfl,D⟩:=s1.ix F;refine zxe R a4 K Z (X0 1 Z (zc 0 (D.below h.below) Z (X0 4 Z (qj (t:=68) F Z ?_ ?_))))<;>intro F
   ·refine X0 25 Z (qbZ Z Z (X0 4 Z ?_));obtain rfl:=qb F;replace F:=b;exact rb h F Z
   refine X1 7 0 h Z ?_;obtain⟨_,_,F,L,_,_,_,_,S,a5,rfl,H⟩:=s2.ix F;refine zxe S a5 L Z (X0 1 Z (zc 0 (H.below h.below) Z (X0 6 Z (qj (t:=77) F Z ?_ ?_))))<;>intro F
   ·refine X0 15 Z (qbZ Z Z (X0 4 Z ?_));obtain rfl:=qb F;replace F:=b;exact rb h F Z
   refine X0 6 Z (qj (t:=80) F Z ?_ ?_)<;>intro F
   ·refine X1 7 0 h Z ?_;obtain⟨_,_,F,M,_,_,_,_,T,a6,rfl,I⟩:=s1.ix F;refine zxe T a6 M Z (X0 1 Z (zc 0 (I.below h.below) Z (X0 5 Z (zcB h F qS Z fun _ _ h F=>X0 6 Z (qq Z F ?_ ?_)))))<;>intro F
    ·refine X0 4 Z ?_;obtain rfl:=qb F;replace F:=b;exact rb h F Z
    exact X0 7 Z (rK ⟨_,F,rfl,h⟩ Z)
   exact X0 13 Z (qdl Z Z (X0 7 Z (rK ⟨_,F,rfl,h⟩ Z)))
  refine X0 22 Z (qj (t:=80) F Z ?_ ?_)<;>intro F
  ·refine X1 7 0 h Z ?_;obtain⟨_,_,F,N,_,_,_,_,W,a7,rfl,J⟩:=s1.ix F;refine zxe W a7 N Z (X0 1 Z (zc 0 (J.below h.below) Z (X0 5 Z (zcB h F qS Z fun _ _ h F=>X0 6 Z (qq Z F ?_ ?_)))))<;>intro F
   ·refine X0 4 Z ?_;obtain rfl:=qb F;replace F:=b;exact rb h F Z
   exact X0 7 Z (rK ⟨_,F,rfl,h⟩ Z)
  exact X0 13 Z (qdl Z Z (X0 7 Z (rK ⟨_,F,rfl,h⟩ Z)))
 refine qw Z ?_;obtain rfl:=qb F;replace F:=b;refine X0 5 Z ?_;obtain⟨o3,F,f⟩:=qd F;refine qp (rL (fun m e w'=>∃i2,qfJ a_0 m i2=V o3/\e=[(2,vp a),(5,vi (a_0.Ak.length:Int)),(7,vi i2)]/\SH w w' [oX a (qf8 a_0 p1 x y z s u k3 v) 152]) n ⟨_,F,rfl,h⟩ Z ?_);rintro m2 _ _ ⟨i2,F,rfl,h⟩;rcases m2 with _|m2
 ·cases F
 refine X1 9 0 h Z (qq Z F ?_ ?_)<;>intro F
 ·refine X1 8 0 h Z ?_;obtain⟨_,_,F,Q,_,_,_,_,a3,b4,rfl,o⟩:=s4.ix F;refine zxe a3 b4 Q Z (zc 0 (o.below h.below) Z (zp2 Z (zcB h F qS Z fun _ _ h F=>X0 2 Z (qq Z F ?_ ?_))))<;>intro F
  ·refine X0 4 Z ?_;obtain rfl:=qb F;replace F:=f;exact rb h F Z
  exact X0 7 Z (rK ⟨_,F,rfl,h⟩ Z)
 refine qw Z ?_;obtain rfl:=qb F;replace F:=f;exact X0 4 Z (rb h F Z)
def qcZ(c:Int)(b:qz):Nat->(List Tl05Place)->Int->Option ((List Tl05Place)×Int)|0,_,_=>U|n+1,d,a=>bif decide (a<(b.Ai.length:Int)) then(idx b.Ai a).bind fun g=>(appS d ([(⟨c,a,g,(a==(W64 ((b.Ai.length:Int)-1)))⟩:Tl05Place)]:List Tl05Place)).bind fun f=>qcZ c b n f (W64 (a+1)) else V (d,a)
def qc3(a_0:qh):Nat->(List Tl05Place)->Int->Option ((List Tl05Place)×Int)|0,_,_=>U|n+1,b,a=>bif decide (a<(a_0.Af.length:Int)) then(idx a_0.Af a).bind fun d=>(idx a_0.Af a).bind fun f=>(appS b ([(⟨(-1),a,d.Bz,(f.Bw==1)⟩:Tl05Place)]:List Tl05Place)).bind fun c=>qc3 a_0 n c (W64 (a+1)) else V (b,a)
def qc0(a_0:qh):Nat->(List Tl05Place)->Int->Option ((List Tl05Place)×Int)|0,_,_=>U|n+1,b,a=>bif decide (a<(a_0.Ab.length:Int)) then(idx a_0.Ab a).bind fun d=>(qcZ a d n b 0).bind fun(c,_)=>qc0 a_0 n c (W64 (a+1)) else V (b,a)
def qbK(n:Nat)(a_0:qh):Option (List Tl05Place):=(qc0 a_0 n ([]:List Tl05Place) 0).bind fun(a,_)=>(qc3 a_0 n a 0).bind fun(b,_)=>V b
theorem qbB{a_0:qh}(v:Ro w a_0 cs1){r:(List Tl05Place)}(F:qbK n a_0=V r):RetV prog 111 [oV qh cs1] w r:=by
 obtain⟨p1,T,p2,W,p3,k3,rfl,s1,_,s3⟩:=qa0 v;refine zV 69 func111 Z fun h=>zSR (qJ h Z Z fun _ a h=>X0 4 Z (qt qa [] _ ([]:List Tl05Place) h Z Z Z Z Z Z Z Z Z trivial Z fun _ _ _ h=>X0 7 Z ?_));obtain⟨o1,F,s⟩:=qd F;refine qp (rL (fun m e w'=>∃S2 p5 g X x1 d,qc0 a_0 m x1 d=V o1/\e=[(1,vp a),(3,oS p5 g X),(4,vi d)]/\SH w w' [oW S2 (x1:List Tl05Place) [oS p5 g X],oX a (qax a_0 p1 p2 p3 T W k3) 31]) n ⟨_,_,_,_,_,_,F,rfl,h⟩ Z ?_);rintro m1 _ _ ⟨S2,p5,g,X,x1,d,F,rfl,h⟩;obtain rfl:=(h.sl 0 Z).2;rcases m1 with _|m1
 ·cases F
 refine X1 9 1 h Z (qq Z F ?_ ?_)<;>intro F
 ·refine X1 8 1 h Z ?_;obtain⟨p,_,F,B,_,_,_,_,I,M,Q,x⟩:=s1.ix F;obtain⟨p6,k5,rfl,s4⟩:=qac Q;refine zxe I M B Z (zp1 Z (zc 2 (x.below h.below) Z (X0 6 Z ?_)));obtain⟨o2,F,t⟩:=qd F;refine qp (rL (fun m e w'=>∃S3 p7 i Y x2 f,qcZ d p m x2 f=V o2/\e=[(1,vp a),(3,oS p7 i Y),(4,vi d),(5,oS p6 p.Ai.length k5),(6,vi f)]/\SH w w' [oW S3 (x2:List Tl05Place) [oS p7 i Y],oX a (qax a_0 p1 p2 p3 T W k3) 31]) m1 ⟨_,_,_,_,_,_,F,rfl,h⟩ Z ?_);rintro m2 _ _ ⟨S3,p7,i,Y,x2,f,F,rfl,h⟩;obtain rfl:=(h.sl 0 Z).2;rcases m2 with _|m2
  ·cases F
  refine X0 8 Z (qq Z F ?_ ?_)<;>intro F
  ·refine X0 9 Z ?_;obtain⟨y2,_,F,C,_,_,_,_,J,N,rfl,y⟩:=s4.ix F;refine zxe J N C Z (zc 0 (y.below h.below) Z (zp5 Z (r_v (qy qa [0,1,2,3] [.tmp 29,.tmp 30,.tmp 34,.tmp 39] Z Z Z Z Z Z Z Z) Z (qt qa [.tmp 40] _ ([(⟨d,f,y2,(f==(W64 ((p.Ai.length:Int)-1)))⟩:Tl05Place)]:List Tl05Place) h Z Z Z Z Z Z Z Z Z ⟨(qen (⟨d,f,y2,(f==(W64 ((p.Ai.length:Int)-1)))⟩:Tl05Place)),G⟩ Z fun _ _ _ h=>?_))));obtain⟨_,b,F⟩:=qd F;obtain⟨g1,b⟩:=qH b;refine qaC qa 1 h Z (h.sl 0 Z).1 (h.sl 0 Z).2 Z Z Z Z Z Z Z Z Z g1 b Z fun _ _ _ _ h=>X0 8 Z ?_;replace h:=h.p [1,2] Z;exact rK ⟨_,_,_,_,_,_,F,rfl,h⟩ Z
  refine qw Z ?_;obtain rfl:=qb F;replace F:=t;exact X0 6 Z (rK ⟨_,_,_,_,_,_,F,rfl,h⟩ Z)
 refine qw Z ?_;obtain rfl:=qb F;replace F:=s;refine X0 5 Z ?_;obtain⟨o3,F,u⟩:=qd F;refine qp (rL (fun m e w'=>∃S6 l k k8 x4 o,qc3 a_0 m x4 o=V o3/\e=[(1,vp a),(3,oS l k k8),(7,vi o)]/\SH w w' [oW S6 (x4:List Tl05Place) [oS l k k8],oX a (qax a_0 p1 p2 p3 T W k3) 31]) n ⟨_,_,_,_,_,_,F,rfl,h⟩ Z ?_);rintro m3 _ _ ⟨S6,l,k,k8,x4,o,F,rfl,h⟩;obtain rfl:=(h.sl 0 Z).2;rcases m3 with _|m3
 ·cases F
 refine X1 9 1 h Z (qq Z F ?_ ?_)<;>intro F
 ·refine zKSB (rA [] [1] h Z fun _ h=>M1 31 [0,1,2,3,4] 0 (h.p [1] Z) Z ?_);obtain⟨y3,_,F,D,_,_,_,_,K,O,R,z⟩:=s3.ix F;obtain rfl:=qeD R;refine Ae 5 63 K O D (h.p [1] Z) Z (M0 127 [6] (h.p [1] Z) Z (Al 7 255 2 z (h.p [1] Z) Z (M1 2047 [8,9,10] 0 (h.p [1] Z) Z ?_)));obtain⟨y4,_,F,H,_,_,_,_,L,P,S,A⟩:=s3.ix F;obtain rfl:=qeD S;refine Ae 11 4095 L P H (h.p [1] Z) Z (M0 8191 [12] (h.p [1] Z) Z (Al 13 16383 1 A (h.p [1] Z) Z (M0 32767 [14] (h.p [1] Z) Z (Aw 15 65535 (fun w' hw=>qy qa [0,1,2,3] [.const (vi (-1)),.tmp 51,.tmp 57,.tmp 64] Z Z Z Z Z Z Z Z) (h.p [1] Z) Z ?_))));refine Ao 16 131071 Z (qt qa [.tmp 65] _ ([(⟨(-1),o,y3.Bz,(y4.Bw==1)⟩:Tl05Place)]:List Tl05Place) h Z Z Z Z Z Z Z Z Z ⟨(qen (⟨(-1),o,y3.Bz,(y4.Bw==1)⟩:Tl05Place)),G⟩ Z fun _ _ _ h=>Ag (h.p [2] Z) (Ao 17 262143 Z ?_));obtain⟨_,c,F⟩:=qd F;obtain⟨g2,c⟩:=qH c;refine qaC qa 1 h Z (h.sl 0 Z).1 (h.sl 0 Z).2 Z Z Z Z Z Z Z Z Z g2 c Z fun _ _ _ _ h=>G0 524287 [18] (h.p [2] Z) Z (Ad (X0 6 Z ?_));replace h:=h.p [1,2] Z;exact rK ⟨_,_,_,_,_,_,F,rfl,h⟩ Z
 refine qw Z ?_;obtain rfl:=qb F;replace F:=u;refine X0 5 Z ?_;obtain rfl:=qb F;exact rO 0 h Z ⟨rfl,G⟩
def qcM(net:Int)(r1:(List Tl05Place)):Nat->(List Int)->Int->Option ((List Int)×Int)|0,_,_=>U|n+1,b,a=>bif decide (a<(r1.length:Int)) then((idx r1 a).bind fun d=>bif (d.net==net) then(idx r1 a).bind fun f=>V (!f.drives) else V false).bind fun b1=>bif b1 then(appS b ([a]:List Int)).bind fun c=>qcM net r1 n c (W64 (a+1)) else qcM net r1 n b (W64 (a+1)) else V (b,a)
def qfr(n:Nat)(d:qh)(net:Int):Option (List Int):=(qbK n d).bind fun r1=>(qcM net r1 n ([]:List Int) 0).bind fun(a,_)=>V a
theorem qg2{d:qh}{net}(i:Ro w d cs1){r:(List Int)}(F:qfr n d net=V r):RetV prog 83 [oV qh cs1,vi net] w r:=by
 obtain⟨_,_,_,_,_,_,rfl,_,_,_⟩:=qa0 i;refine zV 37 func83 Z fun h=>zSR (qJ h Z Z fun _ _ h=>X0 4 Z (qt qa [] _ ([]:List Int) h Z Z Z Z Z Z Z Z Z trivial Z fun _ _ _ h=>X1 5 1 h Z (zcL h F (qbB (h.old i)) Z fun r1 _ S2 v u h F=>X0 7 Z ?_)));obtain⟨M,F,z⟩:=qd F;refine qp ?_;replace h:=h.p [0,1] Z;refine rL (fun m e w'=>∃y s b p c o,qcM net r1 m c o=V M/\e=[(1,vi net),(5,oS s b p),(6,oS v r1.length u),(7,vi o)]/\SH w w' [oW S2 (r1:List Tl05Place) [oS v r1.length u],oW y (c:List Int) [oS s b p]]) n ⟨_,_,_,_,_,_,F,rfl,h⟩ Z ?_;rintro L _ _ ⟨y,s,b,p,c,o,F,rfl,h⟩;obtain rfl:=(h.sl 1 Z).2;rcases L with _|L
 ·cases F
 refine X0 8 Z (qq Z F ?_ ?_)<;>intro F
 ·refine X0 4 Z ?_;obtain⟨x,g,_,F,f⟩:=bindE F;refine qaP (fun e w'=>∃b1,x b1=V M/\e=[(1,vi net),(5,oS s c.length p),(6,oS v r1.length u),(7,vi o),(31,.bool b1)]/\SH w w' [oW S2 (r1:List Tl05Place) [oS v r1.length u],oW y (c:List Int) [oS s c.length p]]) ?_ ?_
  ·refine X0 3 Z ?_;obtain⟨_,_,F,k,_,_,_,_,C,H,J,A⟩:=(h.sl 0 Z).1.ix F;obtain rfl:=qbx J;refine zx C H ⟨k.1,qK k.2.1 (h.sl 0 Z).2⟩ Z (zp1 Z (zc 2 A Z (zp3 Z (qj (t:=24) F Z ?_ ?_))))<;>intro F
   ·refine X0 5 Z ?_;obtain⟨_,_,F,l,_,_,_,_,D,I,K,B⟩:=(h.sl 0 Z).1.ix F;obtain rfl:=qbx K;refine zx D I ⟨l.1,qK l.2.1 (h.sl 0 Z).2⟩ Z (X0 3 Z (zc 3 B Z (X0 4 Z ?_)));obtain rfl:=qb F;exact rG ⟨_,f,rfl,h⟩ Z
   refine X0 8 Z ?_;obtain rfl:=qb F;exact rG ⟨_,f,rfl,h⟩ Z
  rintro _ _ ⟨b1,F,rfl,h⟩;subst g;refine qq Z F ?_ ?_<;>intro F
  ·refine X0 3 Z (qt qa [.tmp 33] _ ([o]:List Int) h Z Z Z Z Z Z Z Z Z ⟨rfl,G⟩ Z fun _ _ _ h=>?_);obtain⟨_,a,F⟩:=qd F;obtain⟨N,a⟩:=qH a;refine qaC qa 2 h Z (h.sl 0 Z).1 (h.sl 0 Z).2 Z Z Z Z Z Z Z Z Z N a Z fun _ _ _ _ h=>X0 8 Z ?_;replace h:=h.p [1,2] Z;exact rK ⟨_,_,_,_,_,_,F,rfl,h⟩ Z
  exact X0 7 Z (rK ⟨_,_,_,_,_,_,F,rfl,h⟩ Z)
 refine qw Z ?_;obtain rfl:=qb F;replace F:=z;refine X0 5 Z ?_;obtain rfl:=qb F;exact rO 1 h Z ⟨rfl,G⟩
def qeZ(b:qe):Nat->Int->Option (Flow Bool Int)|0,_=>U|n+1,a=>bif decide (a<(b.Ac.length:Int)) then(idx b.Ac a).bind fun d=>(qfr n (⟨b.Aa.Ab,b.Aa.Ai,b.Aa.Af⟩:qh) a).bind fun r1=>(qjJ n d (r1.length:Int)).bind fun c=>bif (!c) then V (.ret false) else qeZ b n (W64 (a+1)) else V (.nxt a)
def qfd(n:Nat)(b:qe):Option Bool:=((qis n (⟨b.Ah.Aj⟩:qr) (⟨b.Aa.Ab,b.Aa.Ai,b.Aa.Af⟩:qh)).bind fun a=>bif (!a) then V true else V ((b.Ac.length:Int) != (b.Aa.Ai.length:Int))).bind fun b1=>bif b1 then V false else(qeZ b n 0).bind fun|.ret r=>V r|.nxt _=>V true
theorem qht{b:qe}(i:Ro w b cs1){r:Bool}(F:qfd n b=V r):RetV prog 28 [oV qe cs1] w r:=by
 obtain⟨p1,v,B,x,C,k3,D,y,H,z,rfl,s1,s2,I,J,L⟩:=qX i;refine zV 39 func28 Z fun h=>zSR (qJ h Z Z fun _ a h=>X0 4 Z ?_);obtain⟨g,f,_,F,d⟩:=bindE F;refine qaP (fun e w'=>∃b1,g b1=V r/\e=[(1,vp a),(19,.bool b1)]/\SH w w' [oX a (qG b p1 B C D H v x k3 y z) 34]) ?_ ?_
 ·refine X2 5 0 0 h Z (zcB h F (qm7 (qhP _ (h.oldS s1)) (qaF _ (h.oldS s2) (h.oldS I) (h.oldS J))) Z fun _ _ h F=>zp2 Z (qj (t:=10) F Z ?_ ?_))<;>intro F
  ·refine X0 10 Z ?_;obtain rfl:=qb F;exact rG ⟨_,d,rfl,h⟩ Z
  refine X2 18 0 0 h Z ?_;obtain rfl:=qb F;exact rG ⟨_,d,rfl,h⟩ Z
 rintro _ _ ⟨b1,F,rfl,h⟩;subst f;refine qq Z F ?_ ?_<;>intro F
 ·exact X0 4 Z (rb h F Z)
 refine X0 6 Z ?_;obtain⟨K,F,c⟩:=qd F;refine qp (rL (fun m e w'=>∃u,qeZ b m u=V K/\e=[(1,vp a),(3,vi u)]/\SH w w' [oX a (qG b p1 B C D H v x k3 y z) 34]) n ⟨_,F,rfl,h⟩ Z ?_);rintro A _ _ ⟨u,F,rfl,h⟩;rcases A with _|A
 ·cases F
 refine X1 9 0 h Z (qq Z F ?_ ?_)<;>intro F
 ·refine X0 4 Z (rA [] [0] h Z fun _ h=>M1 7 [0,1,2] 0 (h.p [0] Z) Z ?_);obtain⟨Q,_,F,l,_,_,_,_,o,p,s,k⟩:=L.ix F;obtain⟨_,_,_,_,_,_,_,_,rfl,M,N,O,P⟩:=qbJ s;refine Ae 3 15 o p l (h.p [0] Z) Z (Al 4 31 0 k (h.p [0] Z) Z (M1 255 [5,6,7] 0 (h.p [0] Z) Z (Ao 8 511 Z (zcL h F (qg2 (qaF _ (h.oldS s2) (h.oldS I) (h.oldS J))) Z fun _ _ _ _ _ h F=>G0 1023 [9] (h.p [1] Z) Z (Ao 10 2047 Z (zcB h F (qoN (qpt Q (h.oldS M) (h.oldS N) (h.oldS O) (h.oldS P))) Z fun _ _ h F=>G0 4095 [11] (h.p [1] Z) Z (Ad (qq Z F ?_ ?_))))))))<;>intro F
  ·refine X0 4 Z ?_;obtain rfl:=qb F;replace F:=c;exact rb h F Z
  refine X0 7 Z ?_;replace h:=h.p [1] Z;exact rK ⟨_,F,rfl,h⟩ Z
 refine qw Z ?_;obtain rfl:=qb F;replace F:=c;exact X0 4 Z (rb h F Z)
def qaK(_:Nat)(x:Int)(b:Int)(a:Int):Option Bool:=bif decide (x>=b) then V (decide (x<=a)) else V false
theorem qaw{x low high}  {r:Bool}(F:qaK n x low high=V r):RetV prog 35 [vi x,vi low,vi high] w r:=by
 refine zV 15 func35 Z fun h=>X0 10 Z (qj (t:=10) F Z ?_ ?_)<;>intro F
 ·exact X0 9 Z (rb h F Z)
 exact X0 6 Z (rb h F Z)
def qhv(_:Nat)(list:(List ByteArray)):Option Int:=V (list.length:Int)
theorem qk4{list:(List ByteArray)}(a:Ro w list cs1){r:Int}(F:qhv n list=V r):RetV prog 194 [oV (List ByteArray) cs1] w r:=by
 obtain⟨_,_,rfl,_⟩:=a;exact zV 5 func194 Z fun h=>X0 10 Z (ri h F Z)
def qdR(n:Nat)(d:qh)(net:Int):Option Bool:=(qhv n d.Ai).bind fun r1=>(qaK n net 0 (W64 (r1-1))).bind fun a=>V a
theorem qgG{d:qh}{net}(a:Ro w d cs1){r:Bool}(F:qdR n d net=V r):RetV prog 133 [oV qh cs1,vi net] w r:=by
 obtain⟨_,_,_,_,_,_,rfl,_,s2,_⟩:=qa0 a;exact zV 11 func133 Z fun h=>zSR (qJ h Z Z fun _ _ h=>X1 7 0 h Z (zcI h F (qk4 ⟨_,_,rfl,(h.oldS s2)⟩) Z fun _ _ h F=>zp1 Z (zcB h F qaw Z fun _ _ h F=>X0 2 Z (rb h F Z))))
def qhX(_:Nat)(s cutset:ByteArray):Option ByteArray:=if s.size<=9223372036854775807/\cutset.size<4294967281/\cutset.data.toList.all (fun b=>decide (b.toNat<128))=true then V ⟨(Lib.trimS s.data.toList cutset.data.toList).toArray⟩ else U
theorem qnU{s cutset}{r:ByteArray}(F:qhX n s cutset=V r):RetV prog 153 [.string s,.string cutset] w r:=by
 unfold qhX at F;split at F
 ·rename_i hh
  obtain rfl:=qb F;refine(Tryz.strings_Trim_any s cutset w hh.1 hh.2.1 hh.2.2).mono ?_;rintro e w' ⟨rfl,a⟩;exact⟨_,rfl,a,[.string _],rfl,qp9 _ _⟩
 cases F
def qgz(_:Nat)(s:ByteArray)(c:(IntK .u8)):Option Int:=V (Lib.indexByte s.data.toList c.val.toNat.toUInt8)
theorem qlD{s}{c:(IntK .u8)}{r:Int}(F:qgz n s c=V r):RetV prog 154 [.string s,.int .u8 c.val] w r:=by
 obtain rfl:=qb F;refine(Tryz.strings_IndexByte s c.val w).mono ?_;rintro e w' ⟨rfl,rfl⟩;exact⟨_,rfl,Below.refl _ _,[vi _],rfl,qtz _ _⟩
def qhC(n:Nat)(s:ByteArray):Option Bool:=(qaK n (s.size:Int) 1 8).bind fun r1=>bif r1 then(qhX n s (⟨#[97,98,99,100,101,102,103,104,105,106,107,108,109,110,111,112,113,114,115,116,117,118,119,120,121,122,48,49,50,51,52,53,54,55,56,57]⟩:ByteArray)).bind fun a=>bif (a.toList==(⟨#[]⟩:ByteArray).toList) then(atS s 0).bind fun c=>(qgz n (⟨#[97,98,99,100,101,102,103,104,105,106,107,108,109,110,111,112,113,114,115,116,117,118,119,120,121,122]⟩:ByteArray) (⟨c⟩:IntK .u8)).bind fun b=>V (decide (b>=0)) else V false else V false
theorem qjn{s}  {r:Bool}(F:qhC n s=V r):RetV prog 87 [.string s] w r:=by
 refine zV 17 func87 Z fun h=>X0 8 Z (zcB h F qaw Z fun _ _ h F=>zp1 Z (qj (t:=6) F Z ?_ ?_))<;>intro F
 ·refine X0 3 Z (zcS h F qnU Z fun _ _ h F=>X0 4 Z (qj (t:=11) F Z ?_ ?_))<;>intro F
  ·refine X0 3 Z ?_;obtain⟨_,a,F⟩:=qd F;have b:=qlb a;exact r_v (qlf qa b Z Z Z Z) Z (X0 1 Z (zcI h F qlD Z fun _ _ h F=>X0 5 Z (rb h F Z)))
  exact X0 7 Z (rb h F Z)
 exact X0 12 Z (rb h F Z)
def qb8(_:Nat)(list:(List qaz)):Option Int:=V (list.length:Int)
theorem qhJ{list:(List qaz)}(a:Ro w list cs1){r:Int}(F:qb8 n list=V r):RetV prog 162 [oV (List qaz) cs1] w r:=by
 obtain⟨_,_,rfl,_⟩:=a;exact zV 5 func162 Z fun h=>X0 10 Z (ri h F Z)
def qcf(s:(List ByteArray))(v:ByteArray):Nat->Int->Option (Flow Int Int)|0,_=>U|n+1,a=>bif decide (a<(s.length:Int)) then(idx s a).bind fun b=>bif (v.toList==b.toList) then V (.ret a) else qcf s v n (W64 (a+1)) else V (.nxt a)
def qfw(n:Nat)(s:(List ByteArray))(v:ByteArray):Option Int:=(qcf s v n 0).bind fun|.ret r=>V r|.nxt _=>V (-1)
theorem qkE{s:(List ByteArray)}{v}(b:Ro w s cs1){r:Int}(F:qfw n s v=V r):RetV prog 267 [oV (List ByteArray) cs1,.string v] w r:=by
 obtain⟨p1,l,rfl,s1⟩:=b;refine zV 19 func267 Z fun h=>X0 11 Z ?_;obtain⟨o,F,a⟩:=qd F;refine qp (rL (fun m e w'=>∃i,qcf s v m i=V o/\e=[(0,oS p1 s.length l),(1,.string v),(7,vi (s.length:Int)),(8,vi i)]/\SH w w' []) n ⟨_,F,rfl,h⟩ Z ?_);rintro k _ _ ⟨i,F,rfl,h⟩;rcases k with _|k
 ·cases F
 refine X0 5 Z (qq Z F ?_ ?_)<;>intro F
 ·refine X0 13 Z ?_;obtain⟨_,_,F,d,_,_,_,_,f,g,rfl,c⟩:=s1.ix F;refine zxe f g d Z (zc 0 (c.below h.below) Z (X0 2 Z (qq Z F ?_ ?_)))<;>intro F
  ·refine X0 5 Z ?_;obtain rfl:=qb F;replace F:=a;exact ri h F Z
  exact X0 6 Z (rK ⟨_,F,rfl,h⟩ Z)
 refine qw Z ?_;obtain rfl:=qb F;replace F:=a;exact X0 4 Z (ri h F Z)
def qeg(n:Nat)(s:(List ByteArray))(v:ByteArray):Option Bool:=(qfw n s v).bind fun r1=>V (decide (r1>=0))
theorem qju{s:(List ByteArray)}{v}(a:Ro w s cs1){r:Bool}(F:qeg n s v=V r):RetV prog 248 [oV (List ByteArray) cs1,.string v] w r:=by
 obtain⟨_,_,rfl,s1⟩:=a;exact zV 9 func248 Z fun h=>X0 8 Z (zcI h F (qkE ⟨_,_,rfl,(h.oldS s1)⟩) Z fun _ _ h F=>X0 3 Z (rb h F Z))
def qev(list:(List ByteArray)):Nat->Int->Option (Flow Bool Int)|0,_=>U|n+1,a=>bif decide (a<(list.length:Int)) then(idx list a).bind fun b=>(qhC n b).bind fun r1=>bif (!r1) then V (.ret false) else(subS list 0 a).bind fun d=>(qeg n d b).bind fun c=>bif c then V (.ret false) else qev list n (W64 (a+1)) else V (.nxt a)
def qeq(n:Nat)(list:(List ByteArray)):Option Bool:=(qev list n 0).bind fun|.ret r=>V r|.nxt _=>V true
theorem qfy{list:(List ByteArray)}(f:Ro w list cs1){r:Bool}(F:qeq n list=V r):RetV prog 206 [oV (List ByteArray) cs1] w r:=by
 obtain⟨p1,s,rfl,s1⟩:=f;refine zV 23 func206 Z fun h=>X0 11 Z ?_;obtain⟨x,F,a⟩:=qd F;refine qp (rL (fun m e w'=>∃p,qev list m p=V x/\e=[(0,oS p1 list.length s),(5,oS p1 list.length s),(6,vi (list.length:Int)),(7,vi p)]/\SH w w' []) n ⟨_,F,rfl,h⟩ Z ?_);rintro u _ _ ⟨p,F,rfl,h⟩;rcases u with _|u
 ·cases F
 refine X0 5 Z (qq Z F ?_ ?_)<;>intro F
 ·refine X0 6 Z ?_;obtain⟨_,_,F,i,_,_,_,_,l,o,rfl,g⟩:=s1.ix F;refine zxe l o i Z (zc 0 (g.below h.below) Z (X0 6 Z (zcB h F qjn Z fun _ _ h F=>zp2 Z (qj (t:=15) F Z ?_ ?_))))<;>intro F
  ·refine X0 7 Z (qbZ Z Z (X0 4 Z ?_));obtain rfl:=qb F;replace F:=a;exact rb h F Z
  refine X0 5 Z ?_;obtain⟨_,d,F⟩:=qd F;obtain⟨_,_,c,b,k,v⟩:=qrt (h.oldS s1) d;refine r_v (qoD qa Z Z Z (qrD v Z) c b k Z Z Z Z) Z ?_;have s2:=qrA s1 d c b;refine X0 3 Z (zcB h F (qju ⟨_,_,rfl,(h.oldS s2)⟩) Z fun _ _ h F=>X0 2 Z (qq Z F ?_ ?_))<;>intro F
  ·refine X0 4 Z ?_;obtain rfl:=qb F;replace F:=a;exact rb h F Z
  exact X0 6 Z (rK ⟨_,F,rfl,h⟩ Z)
 refine qw Z ?_;obtain rfl:=qb F;replace F:=a;exact X0 4 Z (rb h F Z)
def qdc(list:(List qaz)):Nat->(List ByteArray)->Int->Option (Flow Bool ((List ByteArray)×Int))|0,_,_=>U|n+1,c,a=>bif decide (a<(list.length:Int)) then(idx list a).bind fun b=>(appS c ([b.Ba]:List ByteArray)).bind fun d=>bif (a==(W64 ((list.length:Int)-1))) then bif (b.Bw != 2) then V (.ret false) else bif (b.Bp != 0) then V (.ret false) else bif b.Bq then V (.ret false) else qdc list n d (W64 (a+1)) else bif (b.Bw != 1) then V (.ret false) else(qaK n b.Bp 0 500).bind fun r1=>bif (!r1) then V (.ret false) else qdc list n d (W64 (a+1)) else V (.nxt (c,a))
def qi6(n:Nat)(list:(List qaz)):Option Bool:=(qdc list n ([]:List ByteArray) 0).bind fun|.ret r=>V r|.nxt (d,_)=>(qb8 n list).bind fun a=>(qaK n a 2 5).bind fun b=>bif b then(qeq n d).bind fun c=>V c else V false
theorem qn1{list:(List qaz)}(d:Ro w list cs1){r:Bool}(F:qi6 n list=V r):RetV prog 245 [oV (List qaz) cs1] w r:=by
 obtain⟨p1,v,rfl,s1⟩:=d;refine zV 52 func245 Z fun h=>X0 15 Z ?_;replace h:=h.nil (α:=ByteArray);obtain⟨z,F,a⟩:=qd F;refine qp (rL (fun m e w'=>∃S1 s c p u o,qdc list m u o=V z/\e=[(0,oS p1 list.length v),(3,oS s c p),(6,oS p1 list.length v),(7,vi (list.length:Int)),(8,vi o)]/\SH w w' [oW S1 (u:List ByteArray) [oS s c p]]) n ⟨_,_,_,_,_,_,F,rfl,h⟩ Z ?_);rintro x _ _ ⟨S1,s,c,p,u,o,F,rfl,h⟩;obtain rfl:=(h.sl 0 Z).2;rcases x with _|x
 ·cases F
 refine X0 5 Z (qq Z F ?_ ?_)<;>intro F
 ·refine X0 6 Z ?_;obtain⟨A,_,F,g,_,_,_,_,i,k,l,f⟩:=s1.ix F;obtain rfl:=qeV l;refine zxe i k g Z (zc 0 (f.below h.below) Z (qi qa h Z Z Z fun _ _ h=>zp1 Z (zs 0 h Z fun _ h=>X1 6 0 h Z (qt qa [.tmp 15] _ ([A.Ba]:List ByteArray) h Z Z Z Z Z Z Z Z Z ⟨rfl,G⟩ Z fun _ _ _ h=>?_))));obtain⟨_,b,F⟩:=qd F;obtain⟨y,b⟩:=qH b;refine qaC qa 2 h Z (h.sl 0 Z).1 (h.sl 0 Z).2 Z Z Z Z Z Z Z Z Z y b Z fun _ _ _ _ h=>X0 10 Z (qq Z F ?_ ?_)<;>intro F
  ·refine X1 6 1 h Z (qj (t:=26) F Z ?_ ?_)<;>intro F
   ·refine X0 9 Z (qbZ Z Z (X0 4 Z ?_));obtain rfl:=qb F;replace F:=a;exact rb h F Z
   refine X1 8 1 h Z (qj (t:=31) F Z ?_ ?_)<;>intro F
   ·refine X0 4 Z (qbZ Z Z (X0 4 Z ?_));obtain rfl:=qb F;replace F:=a;exact rb h F Z
   refine X1 6 1 h Z (qq Z F ?_ ?_)<;>intro F
   ·refine X0 4 Z ?_;obtain rfl:=qb F;replace F:=a;exact rb h F Z
   refine X0 6 Z ?_;replace h:=h.p [2] Z;exact rK ⟨_,_,_,_,_,_,F,rfl,h⟩ Z
  refine X1 6 1 h Z (qj (t:=38) F Z ?_ ?_)<;>intro F
  ·refine X0 6 Z (qbZ Z Z (X0 4 Z ?_));obtain rfl:=qb F;replace F:=a;exact rb h F Z
  refine X1 5 1 h Z (zcB h F qaw Z fun _ _ h F=>X0 4 Z (qq Z F ?_ ?_))<;>intro F
  ·refine X0 4 Z ?_;obtain rfl:=qb F;replace F:=a;exact rb h F Z
  refine X0 6 Z ?_;replace h:=h.p [2] Z;exact rK ⟨_,_,_,_,_,_,F,rfl,h⟩ Z
 refine qw Z ?_;obtain rfl:=qb F;replace F:=a;refine X0 3 Z (zcI h F (qhJ ⟨_,_,rfl,(h.oldS s1)⟩) Z fun _ _ h F=>zcB h F qaw Z fun _ _ h F=>zp1 Z (qj (t:=48) F Z ?_ ?_))<;>intro F
 ·exact X0 3 Z (zcB h F (qfy (h.own 0 Z)) Z fun _ _ h F=>X0 3 Z (rb h F Z))
 exact X0 5 Z (rb h F Z)
def qce(n:Nat)(c:qA):Option Int:=(qb8 n c.As).bind fun r1=>V (W64 (r1-1))
theorem qft{c:qA}(a:Ro w c cs1){r:Int}(F:qce n c=V r):RetV prog 103 [oV qA cs1] w r:=by
 obtain⟨_,_,_,_,_,_,rfl,s1,_,_⟩:=qW a;exact zV 7 func103 Z fun h=>zSR (qJ h Z Z fun _ _ h=>X1 6 0 h Z (zcI h F (qhJ ⟨_,_,rfl,(h.oldS s1)⟩) Z fun _ _ h F=>X0 3 Z (ri h F Z)))
def qiR(_:Nat)(kind:Int):Option Bool:=bif (kind==4) then V true else V (kind==5)
theorem qnT{kind}  {r:Bool}(F:qiR n kind=V r):RetV prog 276 [vi kind] w r:=by
 refine zV 9 func276 Z fun h=>X0 9 Z (qj (t:=5) F Z ?_ ?_)<;>intro F
 ·exact X0 5 Z (rb h F Z)
 exact X0 7 Z (rb h F Z)
def qg3(n:Nat)(c:Int)(a:Int)(b:Int):Option Bool:=(qaK n c a b).bind fun r1=>V (!r1)
theorem ql2{a_n k l p1}(a:Ro w (V k) [.pointer p1]){i}(b:Ro w (V l) [.pointer i]){r:Bool}(F:qg3 n a_n k l=V r):RetV prog 137 [vi a_n,.pointer p1,.pointer i] w r:=by
 obtain⟨_,m,_,rfl,-,f,c⟩:=PtR.get a Z;obtain rfl:=f;obtain⟨_,o,_,rfl,-,g,d⟩:=PtR.get b Z;obtain rfl:=g;exact zV 10 func137 Z fun h=>X0 7 Z (zc 0 (c.below h.below) Z (zc 0 (d.below h.below) Z (zcB h F qaw Z fun _ _ h F=>X0 3 Z (rb h F Z))))
def qal(s:(List Int))(a:Int)(b:Int):Nat->Int->Option (Flow Int Int)|0,_=>U|n+1,c=>bif decide (c<(s.length:Int)) then(idx s c).bind fun d=>(qg3 n d a b).bind fun r1=>bif r1 then V (.ret c) else qal s a b n (W64 (c+1)) else V (.nxt c)
def qa4(n:Nat)(s:(List Int))(a:Int)(b:Int):Option Int:=(qal s a b n 0).bind fun|.ret r=>V r|.nxt _=>V (-1)
theorem qfV{s:(List Int)}{a b}(g:Ro w s cs1){z}(d:Ro w (V a) [.pointer z]){A}(f:Ro w (V b) [.pointer A]){r:Int}(F:qa4 n s a b=V r):RetV prog 121 [oV (List Int) cs1,.func (.func 137) #[] #[.pointer z,.pointer A]] w r:=by
 obtain⟨p1,B,rfl,s1⟩:=g;obtain⟨b1,v,_,rfl,-,p,_⟩:=PtR.get d Z;obtain rfl:=p;obtain⟨b2,x,_,rfl,-,t,_⟩:=PtR.get f Z;obtain rfl:=t;refine zV 19 func121 Z fun h=>X0 11 Z ?_;obtain⟨C,F,c⟩:=qd F;refine qp (rL (fun m e w'=>∃u,qal s a b m u=V C/\e=[(0,oS p1 s.length B),(1,.func (.func 137) #[] #[.pointer (V ⟨b1,v,U⟩),.pointer (V ⟨b2,x,U⟩)]),(7,vi (s.length:Int)),(8,vi u)]/\SH w w' []) n ⟨_,F,rfl,h⟩ Z ?_);rintro y _ _ ⟨u,F,rfl,h⟩;rcases y with _|y
 ·cases F
 refine X0 5 Z (qq Z F ?_ ?_)<;>intro F
 ·refine X0 13 Z ?_;obtain⟨_,_,F,k,_,_,_,_,l,o,rfl,i⟩:=s1.ix F;refine zxe l o k Z (zc 0 (i.below h.below) Z (zcB h F (ql2 (h.old d) (h.old f)) Z fun _ _ h F=>qbe (qq Z F ?_ ?_)))<;>intro F
  ·refine X0 5 Z ?_;obtain rfl:=qb F;replace F:=c;exact ri h F Z
  exact X0 6 Z (rK ⟨_,F,rfl,h⟩ Z)
 refine qw Z ?_;obtain rfl:=qb F;replace F:=c;exact X0 4 Z (ri h F Z)
def qbI(n:Nat)(s:(List Int))(a:Int)(b:Int):Option Bool:=(qa4 n s a b).bind fun r1=>V (decide (r1>=0))
theorem qfs{s:(List Int)}{a b}(f:Ro w s cs1){k}(c:Ro w (V a) [.pointer k]){l}(d:Ro w (V b) [.pointer l]){r:Bool}(F:qbI n s a b=V r):RetV prog 59 [oV (List Int) cs1,.func (.func 137) #[] #[.pointer k,.pointer l]] w r:=by
 obtain⟨_,_,rfl,s1⟩:=f;obtain⟨_,m,_,rfl,-,g,_⟩:=PtR.get c Z;obtain rfl:=g;obtain⟨_,o,_,rfl,-,i,_⟩:=PtR.get d Z;obtain rfl:=i;exact zV 9 func59 Z fun h=>X0 8 Z (zcI h F (qfV ⟨_,_,rfl,(h.oldS s1)⟩ (h.old c) (h.old d)) Z fun _ _ h F=>X0 3 Z (rb h F Z))
def qcy(n:Nat)(list:(List Int))(b:Int)(a:Int):Option Bool:=(qbI n list b a).bind fun r1=>V (!r1)
theorem qcT{list:(List Int)}{low high}(a:Ro w list cs1){r:Bool}(F:qcy n list low high=V r):RetV prog 77 [oV (List Int) cs1,vi low,vi high] w r:=by
 obtain⟨_,_,rfl,s1⟩:=a;exact zV 11 func77 Z fun h=>zSR (qJ h Z Z fun _ _ h=>qJ h Z Z fun _ _ h=>X0 6 Z (zcB h F (qfs ⟨_,_,rfl,(h.oldS s1)⟩ (qea (x:=low) 1 h Z Z) (qea (x:=high) 0 h Z Z)) Z fun _ _ h F=>X0 3 Z (rb h F Z)))
def qaO(_:Nat)(list:(List Int)):Option Int:=V (list.length:Int)
theorem qbF{list:(List Int)}(a:Ro w list cs1){r:Int}(F:qaO n list=V r):RetV prog 90 [oV (List Int) cs1] w r:=by
 obtain⟨_,_,rfl,_⟩:=a;exact zV 5 func90 Z fun h=>X0 10 Z (ri h F Z)
def qbG(list:(List Int)):Nat->Int->Option (Flow Bool Int)|0,_=>U|n+1,a=>bif decide (a<(list.length:Int)) then(idx list (W64 (a-1))).bind fun b=>(idx list a).bind fun c=>bif decide (b>=c) then V (.ret false) else qbG list n (W64 (a+1)) else V (.nxt a)
def qfi(n:Nat)(list:(List Int)):Option Bool:=(qbG list n 1).bind fun|.ret r=>V r|.nxt _=>V true
theorem qiv{list:(List Int)}(b:Ro w list cs1){r:Bool}(F:qfi n list=V r):RetV prog 94 [oV (List Int) cs1] w r:=by
 obtain⟨p1,t,rfl,s1⟩:=b;refine zV 20 func94 Z fun h=>X0 9 Z ?_;obtain⟨u,F,a⟩:=qd F;refine qp (rL (fun m e w'=>∃p,qbG list m p=V u/\e=[(0,oS p1 list.length t),(3,vi p)]/\SH w w' []) n ⟨_,F,rfl,h⟩ Z ?_);rintro s _ _ ⟨p,F,rfl,h⟩;rcases s with _|s
 ·cases F
 refine X0 8 Z (qq Z F ?_ ?_)<;>intro F
 ·refine X0 4 Z (rD (zd3 Z ?_));obtain⟨_,_,F,f,_,_,_,_,i,l,rfl,c⟩:=s1.ix F;refine zdxe i l f Z (zdc 0 (c.below h.below) Z (zd2 Z ?_));obtain⟨_,_,F,g,_,_,_,_,k,o,rfl,d⟩:=s1.ix F;refine zdxe k o g Z (zdc 0 (d.below h.below) Z (zd1 Z (dN h fun _ h=>qq Z F ?_ ?_)))<;>intro F
  ·refine X0 4 Z ?_;obtain rfl:=qb F;replace F:=a;exact rb h F Z
  exact X0 7 Z (rK ⟨_,F,rfl,h⟩ Z)
 refine qw Z ?_;obtain rfl:=qb F;replace F:=a;exact X0 4 Z (rb h F Z)
def qiG(n:Nat)(list:(List Int)):Option Bool:=(qaO n list).bind fun r1=>(qaK n r1 1 4).bind fun a=>bif a then(qcy n list 0 100000).bind fun b=>bif b then(qfi n list).bind fun c=>V c else V false else V false
theorem qle{list:(List Int)}(a:Ro w list cs1){r:Bool}(F:qiG n list=V r):RetV prog 295 [oV (List Int) cs1] w r:=by
 obtain⟨_,_,rfl,s1⟩:=a;refine zV 14 func295 Z fun h=>X0 7 Z (zcI h F (qbF ⟨_,_,rfl,(h.oldS s1)⟩) Z fun _ _ h F=>zcB h F qaw Z fun _ _ h F=>zp1 Z (qj (t:=6) F Z ?_ ?_))<;>intro F
 ·refine X0 3 Z (zcB h F (qcT ⟨_,_,rfl,(h.oldS s1)⟩) Z fun _ _ h F=>zp2 Z (qj (t:=10) F Z ?_ ?_))<;>intro F
  ·exact X0 3 Z (zcB h F (qiv ⟨_,_,rfl,(h.oldS s1)⟩) Z fun _ _ h F=>X0 3 Z (rb h F Z))
  exact X0 5 Z (rb h F Z)
 exact X0 9 Z (rb h F Z)
def qi0(n:Nat)(t:qN):Option Bool:=(qiG n t.Bk).bind fun r1=>bif r1 then(qiG n t.Be).bind fun a=>bif a then bif ((t.Az.length:Int)==(W64 ((t.Bk.length:Int)*(t.Be.length:Int)))) then(qcy n t.Az (-1000000) 1000000).bind fun b=>V b else V false else V false else V false
theorem qn0{t:qN}(a:Ro w t cs1){r:Bool}(F:qi0 n t=V r):RetV prog 289 [oV qN cs1] w r:=by
 obtain⟨_,_,_,_,_,_,rfl,s1,s2,b⟩:=qcm a;refine zV 29 func289 Z fun h=>zSR (qJ h Z Z fun _ _ h=>X1 6 0 h Z (zcB h F (qle ⟨_,_,rfl,(h.oldS s1)⟩) Z fun _ _ h F=>zp1 Z (qj (t:=6) F Z ?_ ?_)))<;>intro F
 ·refine X1 5 0 h Z (zcB h F (qle ⟨_,_,rfl,(h.oldS s2)⟩) Z fun _ _ h F=>zp2 Z (qj (t:=11) F Z ?_ ?_))<;>intro F
  ·refine X3 24 0 0 0 h Z (qj (t:=24) F Z ?_ ?_)<;>intro F
   ·exact X1 5 0 h Z (zcB h F (qcT ⟨_,_,rfl,(h.oldS b)⟩) Z fun _ _ h F=>X0 3 Z (rb h F Z))
   exact X0 6 Z (rb h F Z)
  exact X0 19 Z (rb h F Z)
 exact X0 24 Z (rb h F Z)
def qc4(x:(List Int)):Nat->Int->Int->Option (Int×Int)|0,_,_=>U|n+1,b,a=>bif decide (a<(x.length:Int)) then(idx x a).bind fun c=>qc4 x n (if c<b then c else b) (W64 (a+1)) else V (b,a)
def qgX(n:Nat)(x:(List Int)):Option Int:=(bif decide ((x.length:Int)<1) then U else V ()).bind fun _=>(idx x 0).bind fun b=>(qc4 x n b 1).bind fun(a,_)=>V a
theorem ql4{x:(List Int)}(f:Ro w x cs1){r:Int}(F:qgX n x=V r):RetV prog 290 [oV (List Int) cs1] w r:=by
 obtain⟨p1,y,rfl,s1⟩:=f;refine zV 25 func290 Z fun h=>X0 11 Z ?_;obtain⟨b,a,_,F,d⟩:=bindE F;refine qaP (fun e w'=>b ()=V r/\e=[(0,oS p1 x.length y)]/\SH w w' []) ?_ ?_
 ·refine qq Z F ?_ ?_<;>intro F
  ·refine qjl ?_;cases F
  refine qfD ?_;obtain rfl:=qb F;exact rG ⟨d,rfl,h⟩ Z
 rintro _ _ ⟨F,rfl,h⟩;subst a;refine X0 3 Z ?_;obtain⟨_,_,F,k,_,_,_,_,o,s,rfl,g⟩:=s1.ix F;refine zxe o s k Z (zc 0 (g.below h.below) Z (X0 7 Z ?_));obtain⟨A,F,c⟩:=qd F;refine qp (rL (fun m e w'=>∃u v,qc4 x m u v=V A/\e=[(0,oS p1 x.length y),(3,vi u),(4,vi v)]/\SH w w' []) n ⟨_,_,F,rfl,h⟩ Z ?_);rintro z _ _ ⟨u,v,F,rfl,h⟩;rcases z with _|z
 ·cases F
 refine X0 8 Z (qq Z F ?_ ?_)<;>intro F
 ·refine X0 7 Z ?_;obtain⟨_,_,F,l,_,_,_,_,p,t,rfl,i⟩:=s1.ix F;exact zxe p t l Z (zc 0 (i.below h.below) Z (X0 9 Z (rK ⟨_,_,F,rfl,h⟩ Z)))
 refine qw Z ?_;obtain rfl:=qb F;replace F:=c;exact X0 5 Z (ri h F Z)
def qgZ(n:Nat)(t:qN)(b:Bool):Option Bool:=(qi0 n t).bind fun r1=>bif (!r1) then V true else bif b then(qgX n t.Az).bind fun a=>V (decide (a<0)) else V false
theorem ql3{t:qN}{g}(a:Ro w t cs1){f}(b:Ro w (V g) [.pointer f]){r:Bool}(F:qgZ n t g=V r):RetV prog 288 [oV qN cs1,.pointer f] w r:=by
 obtain⟨_,_,_,_,_,_,rfl,_,_,k⟩:=qcm a;obtain⟨_,i,_,rfl,-,d,c⟩:=PtR.get b Z;obtain rfl:=d;refine zV 16 func288 Z fun h=>zSR (qJ h Z Z fun _ _ h=>X1 5 0 h Z (zcB h F (qn0 (h.old a)) Z fun _ _ h F=>zp2 Z (qj (t:=7) F Z ?_ ?_)))<;>intro F
 ·exact X0 10 Z (rb h F Z)
 refine X0 1 Z (zc 0 (c.below h.below) Z (X0 2 Z (qj (t:=9) F Z ?_ ?_)))<;>intro F
 ·exact X1 5 0 h Z (zcI h F (ql4 ⟨_,_,rfl,(h.oldS k)⟩) Z fun _ _ h F=>X0 7 Z (rb h F Z))
 exact X0 9 Z (rb h F Z)
def qaf(s:(List qN))(a:Bool):Nat->Int->Option (Flow Int Int)|0,_=>U|n+1,b=>bif decide (b<(s.length:Int)) then(idx s b).bind fun c=>(qgZ n c a).bind fun r1=>bif r1 then V (.ret b) else qaf s a n (W64 (b+1)) else V (.nxt b)
def qaQ(n:Nat)(s:(List qN))(a:Bool):Option Int:=(qaf s a n 0).bind fun|.ret r=>V r|.nxt _=>V (-1)
theorem qe4{s:(List qN)}{a}(d:Ro w s cs1){v}(c:Ro w (V a) [.pointer v]){r:Int}(F:qaQ n s a=V r):RetV prog 294 [oV (List qN) cs1,.func (.func 288) #[] #[.pointer v]] w r:=by
 obtain⟨p1,x,rfl,s1⟩:=d;obtain⟨b1,t,_,rfl,-,l,_⟩:=PtR.get c Z;obtain rfl:=l;refine zV 19 func294 Z fun h=>X0 11 Z ?_;obtain⟨y,F,b⟩:=qd F;refine qp (rL (fun m e w'=>∃p,qaf s a m p=V y/\e=[(0,oS p1 s.length x),(1,.func (.func 288) #[] #[.pointer (V ⟨b1,t,U⟩)]),(7,vi (s.length:Int)),(8,vi p)]/\SH w w' []) n ⟨_,F,rfl,h⟩ Z ?_);rintro u _ _ ⟨p,F,rfl,h⟩;rcases u with _|u
 ·cases F
 refine X0 5 Z (qq Z F ?_ ?_)<;>intro F
 ·refine X0 13 Z ?_;obtain⟨B,_,F,g,_,_,_,_,i,k,o,f⟩:=s1.ix F;obtain⟨_,_,_,_,_,_,rfl,s2,z,A⟩:=qcm o;refine zxe i k g Z (zc 0 (f.below h.below) Z (zcB h F (ql3 (qii B (h.oldS s2) (h.oldS z) (h.oldS A)) (h.old c)) Z fun _ _ h F=>qbe (qq Z F ?_ ?_)))<;>intro F
  ·refine X0 5 Z ?_;obtain rfl:=qb F;replace F:=b;exact ri h F Z
  exact X0 6 Z (rK ⟨_,F,rfl,h⟩ Z)
 refine qw Z ?_;obtain rfl:=qb F;replace F:=b;exact X0 4 Z (ri h F Z)
def qbc(n:Nat)(s:(List qN))(a:Bool):Option Bool:=(qaQ n s a).bind fun r1=>V (decide (r1>=0))
theorem qeL{s:(List qN)}{a}(c:Ro w s cs1){f}(b:Ro w (V a) [.pointer f]){r:Bool}(F:qbc n s a=V r):RetV prog 287 [oV (List qN) cs1,.func (.func 288) #[] #[.pointer f]] w r:=by
 obtain⟨_,_,rfl,s1⟩:=c;obtain⟨_,g,_,rfl,-,d,_⟩:=PtR.get b Z;obtain rfl:=d;exact zV 9 func287 Z fun h=>X0 8 Z (zcI h F (qe4 ⟨_,_,rfl,(h.oldS s1)⟩ (h.old b)) Z fun _ _ h F=>X0 3 Z (rb h F Z))
def qfE(n:Nat)(list:(List qN))(a:Bool):Option Bool:=bif ((list.length:Int)==2) then(qbc n list a).bind fun r1=>V (!r1) else V false
theorem qhN{list:(List qN)}{positive}(a:Ro w list cs1){r:Bool}(F:qfE n list positive=V r):RetV prog 277 [oV (List qN) cs1,.bool positive] w r:=by
 obtain⟨_,_,rfl,s1⟩:=a;refine zV 14 func277 Z fun h=>zSR (qJ h Z Z fun _ _ h=>X0 8 Z (qj (t:=8) F Z ?_ ?_))<;>intro F
 ·exact X0 5 Z (zcB h F (qeL ⟨_,_,rfl,(h.oldS s1)⟩ (qea (x:=positive) 0 h Z Z)) Z fun _ _ h F=>X0 5 Z (rb h F Z))
 exact X0 7 Z (rb h F Z)
def qhY(_:Nat)(p:qaz):Option Bool:=V p.Bq
theorem qlC{p:qaz}(a:Ro w p cs1){r:Bool}(F:qhY n p=V r):RetV prog 292 [oV qaz cs1] w r:=by
 obtain rfl:=qeV a;exact zV 5 func292 Z fun h=>zSR (qJ h Z Z fun _ _ h=>X1 8 0 h Z (rb h F Z))
def qah(s:(List qaz)):Nat->Int->Option (Flow Int Int)|0,_=>U|n+1,a=>bif decide (a<(s.length:Int)) then(idx s a).bind fun b=>(qhY n b).bind fun r1=>bif r1 then V (.ret a) else qah s n (W64 (a+1)) else V (.nxt a)
def qbD(n:Nat)(s:(List qaz)):Option Int:=(qah s n 0).bind fun|.ret r=>V r|.nxt _=>V (-1)
theorem qfq{s:(List qaz)}(b:Ro w s cs1){r:Int}(F:qbD n s=V r):RetV prog 291 [oV (List qaz) cs1,.func (.func 292) #[] #[]] w r:=by
 obtain⟨p1,o,rfl,s1⟩:=b;refine zV 19 func291 Z fun h=>X0 11 Z ?_;obtain⟨p,F,a⟩:=qd F;refine qp (rL (fun m e w'=>∃k,qah s m k=V p/\e=[(0,oS p1 s.length o),(1,.func (.func 292) #[] #[]),(7,vi (s.length:Int)),(8,vi k)]/\SH w w' []) n ⟨_,F,rfl,h⟩ Z ?_);rintro l _ _ ⟨k,F,rfl,h⟩;rcases l with _|l
 ·cases F
 refine X0 5 Z (qq Z F ?_ ?_)<;>intro F
 ·refine X0 13 Z ?_;obtain⟨t,_,F,d,_,_,_,_,f,g,i,c⟩:=s1.ix F;obtain rfl:=qeV i;refine zxe f g d Z (zc 0 (c.below h.below) Z (zcB h F (qlC (qka t)) Z fun _ _ h F=>qbe (qq Z F ?_ ?_)))<;>intro F
  ·refine X0 5 Z ?_;obtain rfl:=qb F;replace F:=a;exact ri h F Z
  exact X0 6 Z (rK ⟨_,F,rfl,h⟩ Z)
 refine qw Z ?_;obtain rfl:=qb F;replace F:=a;exact X0 4 Z (ri h F Z)
def qhr(n:Nat)(c:qA):Option Int:=(qbD n c.As).bind fun r1=>V r1
theorem qmk{c:qA}(a:Ro w c cs1){r:Int}(F:qhr n c=V r):RetV prog 278 [oV qA cs1] w r:=by
 obtain⟨_,_,_,_,_,_,rfl,s1,_,_⟩:=qW a;exact zV 6 func278 Z fun h=>zSR (qJ h Z Z fun _ _ h=>X1 6 0 h Z (zcI h F (qfq ⟨_,_,rfl,(h.oldS s1)⟩) Z fun _ _ h F=>X0 2 Z (ri h F Z)))
def qgu(n:Nat)(c:qA)(pin:Int):Option Bool:=(qce n c).bind fun r1=>(qaK n pin 0 (W64 (r1-1))).bind fun a=>V a
theorem qiJ{c:qA}{pin}(a:Ro w c cs1){r:Bool}(F:qgu n c pin=V r):RetV prog 279 [oV qA cs1,vi pin] w r:=by
 obtain⟨_,_,_,_,_,_,rfl,_,_,_⟩:=qW a;exact zV 10 func279 Z fun h=>zSR (qJ h Z Z fun _ _ h=>X1 6 0 h Z (zcI h F (qft (h.old a)) Z fun _ _ h F=>zp1 Z (zcB h F qaw Z fun _ _ h F=>X0 2 Z (rb h F Z))))
def qhk(n:Nat)(a_0:qA)(a_1:qak):Option Bool:=(qiR n a_1.Ar).bind fun r1=>bif r1 then(bif (a_1.Bm==0) then bif ((a_1.Ay.length:Int)==0) then(qfE n a_1.Bi false).bind fun b=>bif b then(qhr n a_0).bind fun c=>bif (a_1.Bb==c) then bif decide (a_1.Bb>=0) then(qgu n a_0 a_1.To).bind fun d=>bif d then V (a_1.To != a_1.Bb) else V false else V false else V false else V false else V false else V false).bind fun b1=>V b1 else((qfE n a_1.Bi true).bind fun g=>bif (!g) then V true else(qfE n a_1.Ay true).bind fun h=>bif (!h) then V true else(qce n a_0).bind fun i=>bif (a_1.To != i) then V true else(qgu n a_0 a_1.Bb).bind fun k=>V (!k)).bind fun b2=>bif b2 then V false else bif (a_1.Ar==1) then(idx a_0.As a_1.Bb).bind fun l=>bif (!l.Bq) then(qaK n a_1.Bm 1 3).bind fun f=>V f else V false else(bif (a_1.Ar==2) then V (a_1.Ar==2) else V (a_1.Ar==3)).bind fun a=>bif a then(idx a_0.As a_1.Bb).bind fun m=>bif m.Bq then V (a_1.Bm==0) else V false else V false
theorem qmh{a_0:qA}{a_1:qak}(b:Ro w a_0 cs1)(x:Ro w a_1 cs2){r:Bool}(F:qhk n a_0 a_1=V r):RetV prog 263 [oV qA cs1,oV qak cs2] w r:=by
 obtain⟨p1,Q,W,R,X,k3,rfl,s1,_,_⟩:=qW b;obtain⟨Y,S,p5,T,rfl,s4,s5⟩:=qam x;refine zV 103 func263 Z fun h=>zSR (qJ h Z Z fun _ c h=>qJ h Z Z fun _ d h=>X1 7 0 h Z (zcB h F qnT Z fun _ _ h F=>qbe (qq Z F ?_ ?_)))<;>intro F
 ·refine qcz ?_;obtain⟨p,i,_,F,a⟩:=bindE F;refine qaP (fun e w'=>∃b1,p b1=V r/\e=[(4,.bool b1)]/\SH w w' []) ?_ ?_
  ·refine rD (Y1 2 0 h Z ?_);refine zd2 Z (qbQ (t:=11) F Z ?_ ?_)<;>intro F
   ·refine Y1 4 0 h Z ?_;refine Y0 6 Z (qbQ (t:=17) F Z ?_ ?_)<;>intro F
    ·refine Y1 4 0 h Z ?_;refine Y0 1 Z ?_;obtain⟨r2,J,F⟩:=qd F;refine qcY r2 (vsB _) (cB 277 Z) (fun _ hb=>qhN ⟨_,_,rfl,((h.ext hb).oldS s4)⟩ J) Z Z Z Z (zd2 Z (qbQ (t:=22) F Z ?_ ?_))<;>intro F
     ·refine Y1 4 0 h Z ?_;refine Y1 2 1 h Z ?_;refine Y0 1 Z ?_;obtain⟨r3,K,F⟩:=qd F;refine qcY r3 (vsI _) (cB 278 Z) (fun _ hb=>qmk ((h.ext hb).old b) K) Z Z Z Z (Y0 4 Z (qbQ (t:=29) F Z ?_ ?_))<;>intro F
      ·refine Y1 4 0 h Z ?_;refine Y0 4 Z (qbQ (t:=34) F Z ?_ ?_)<;>intro F
       ·refine Y1 2 1 h Z ?_;refine Y1 4 0 h Z ?_;refine Y0 1 Z ?_;obtain⟨r4,L,F⟩:=qd F;refine qcY r4 (vsB _) (cB 279 Z) (fun _ hb=>qiJ ((h.ext hb).old b) L) Z Z Z Z (zd2 Z (qbQ (t:=40) F Z ?_ ?_))<;>intro F
        ·refine Y1 4 0 h Z ?_;refine Y1 4 0 h Z ?_;refine Y0 4 Z (dN h fun _ h=>?_);replace h:=h.p [] Z;obtain rfl:=qb F;exact rG ⟨_,a,rfl,h⟩ Z
        refine Y0 7 Z (dN h fun _ h=>?_);replace h:=h.p [] Z;obtain rfl:=qb F;exact rG ⟨_,a,rfl,h⟩ Z
       refine Y0 13 Z (dN h fun _ h=>?_);replace h:=h.p [] Z;obtain rfl:=qb F;exact rG ⟨_,a,rfl,h⟩ Z
      refine Y0 18 Z (dN h fun _ h=>?_);replace h:=h.p [] Z;obtain rfl:=qb F;exact rG ⟨_,a,rfl,h⟩ Z
     refine Y0 25 Z (dN h fun _ h=>?_);replace h:=h.p [] Z;obtain rfl:=qb F;exact rG ⟨_,a,rfl,h⟩ Z
    refine Y0 30 Z (dN h fun _ h=>?_);replace h:=h.p [] Z;obtain rfl:=qb F;exact rG ⟨_,a,rfl,h⟩ Z
   refine Y0 36 Z (dN h fun _ h=>?_);replace h:=h.p [] Z;obtain rfl:=qb F;exact rG ⟨_,a,rfl,h⟩ Z
  rintro _ _ ⟨b1,F,rfl,h⟩;subst i;exact rb h F Z
 refine zKSS ?_;obtain⟨u,l,_,F,f⟩:=bindE F;refine qaP (fun e w'=>∃b2,u b2=V r/\e=[(2,vp c),(3,vp d),(70,.bool b2)]/\SH w w' [oX d (qd0 a_1 Y p5 S T) 170,oX c (qI a_0 p1 W X Q R k3) 166]) ?_ ?_
 ·refine rD (Y1 2 0 h Z ?_);obtain⟨r6,O,F⟩:=qd F;refine qcY r6 (vsB _) (cB 277 Z) (fun _ hb=>qhN ⟨_,_,rfl,((h.ext hb).oldS s4)⟩ O) Z Z Z Z (zd2 Z (qbQ (t:=51) F Z ?_ ?_))<;>intro F
  ·refine Y0 19 Z (dN h fun _ h=>?_);obtain rfl:=qb F;exact rG ⟨_,f,rfl,h⟩ Z
  refine Y1 4 0 h Z ?_;refine Y0 1 Z ?_;obtain⟨r7,P,F⟩:=qd F;refine qcY r7 (vsB _) (cB 277 Z) (fun _ hb=>qhN ⟨_,_,rfl,((h.ext hb).oldS s5)⟩ P) Z Z Z Z (Y0 4 Z (qbQ (t:=57) F Z ?_ ?_))<;>intro F
  ·refine Y0 13 Z (dN h fun _ h=>?_);obtain rfl:=qb F;exact rG ⟨_,f,rfl,h⟩ Z
  refine Y1 4 0 h Z ?_;refine Y1 2 1 h Z ?_;refine Y0 1 Z ?_;obtain⟨r8,m,F⟩:=qd F;refine qcY r8 (vsI _) (cB 103 Z) (fun _ hb=>qft ((h.ext hb).old b) m) Z Z Z Z (Y0 4 Z (qbQ (t:=64) F Z ?_ ?_))<;>intro F
  ·refine Y0 6 Z (dN h fun _ h=>?_);obtain rfl:=qb F;exact rG ⟨_,f,rfl,h⟩ Z
  refine Y1 2 1 h Z ?_;refine Y1 4 0 h Z ?_;refine Y0 1 Z ?_;obtain⟨r9,o,F⟩:=qd F;refine qcY r9 (vsB _) (cB 279 Z) (fun _ hb=>qiJ ((h.ext hb).old b) o) Z Z Z Z (Y0 3 Z (dN h fun _ h=>?_));obtain rfl:=qb F;exact rG ⟨_,f,rfl,h⟩ Z
 rintro _ _ ⟨b2,F,rfl,h⟩;subst l;refine qq Z F ?_ ?_<;>intro F
 ·exact X0 4 Z (rb h F Z)
 refine X1 13 0 h Z (qq Z F ?_ ?_)<;>intro F
 ·refine X2 6 1 0 h Z ?_;obtain⟨_,_,F,A,_,_,_,_,C,H,M,y⟩:=s1.ix F;obtain rfl:=qeV M;refine zxe C H A Z (zp1 Z (zc 3 (y.below h.below) Z (zp2 Z (qj (t:=83) F Z ?_ ?_))))<;>intro F
  ·exact X1 5 0 h Z (zcB h F qaw Z fun _ _ h F=>X0 3 Z (rb h F Z))
  exact X0 6 Z (rb h F Z)
 refine X0 6 Z ?_;obtain⟨s,k,_,F,g⟩:=bindE F;refine qaP (fun e w'=>∃v,s v=V r/\e=[(2,vp c),(3,vp d),(88,.bool v)]/\SH w w' [oX d (qd0 a_1 Y p5 S T) 170,oX c (qI a_0 p1 W X Q R k3) 166]) ?_ ?_
 ·refine qq Z F ?_ ?_<;>intro F
  ·refine qfD ?_;obtain rfl:=qb F;exact rG ⟨_,g,rfl,h⟩ Z
  refine X0 4 Z ?_;obtain rfl:=qb F;exact rG ⟨_,g,rfl,h⟩ Z
 rintro _ _ ⟨v,F,rfl,h⟩;subst k;refine qq Z F ?_ ?_<;>intro F
 ·refine X2 6 1 0 h Z ?_;obtain⟨_,_,F,B,_,_,_,_,D,I,N,z⟩:=s1.ix F;obtain rfl:=qeV N;refine zxe D I B Z (zp1 Z (zc 3 (z.below h.below) Z (zp1 Z (qj (t:=98) F Z ?_ ?_))))<;>intro F
  ·exact X1 9 0 h Z (rb h F Z)
  exact X0 6 Z (rb h F Z)
 exact X0 6 Z (rb h F Z)
def qfv(_:Nat)(b:qak)(a:qak):Option Bool:=bif (b.Ar==a.Ar) then bif (b.Bb==a.Bb) then V (b.To==a.To) else V false else V false
theorem qkr{k:qak}{g:qak}(b:Ro w k cs1){f}(c:Ro w (V g) [.pointer f]){r:Bool}(F:qfv n k g=V r):RetV prog 265 [oV qak cs1,.pointer f] w r:=by
 obtain⟨_,_,_,_,rfl,_,_⟩:=qam b;obtain⟨_,i,_,rfl,-,d,a⟩:=PtR.get c Z;obtain⟨_,_,_,_,rfl,_,_⟩:=qam d;refine zV 23 func265 Z fun h=>zSR (qJ h Z Z fun _ _ h=>X1 7 0 h Z (zc 0 (a.below h.below) Z (zp2 Z (qj (t:=9) F Z ?_ ?_))))<;>intro F
 ·refine X1 7 0 h Z (zc 1 (a.below h.below) Z (X0 4 Z (qj (t:=16) F Z ?_ ?_)))<;>intro F
  ·exact X1 7 0 h Z (zc 2 (a.below h.below) Z (X0 5 Z (rb h F Z)))
  exact X0 8 Z (rb h F Z)
 exact X0 15 Z (rb h F Z)
def qad(s:(List qak))(a:qak):Nat->Int->Option (Flow Int Int)|0,_=>U|n+1,b=>bif decide (b<(s.length:Int)) then(idx s b).bind fun c=>(qfv n c a).bind fun r1=>bif r1 then V (.ret b) else qad s a n (W64 (b+1)) else V (.nxt b)
def qbj(n:Nat)(s:(List qak))(a:qak):Option Int:=(qad s a n 0).bind fun|.ret r=>V r|.nxt _=>V (-1)
theorem qeQ{s:(List qak)}{a:qak}(d:Ro w s cs1){v}(c:Ro w (V a) [.pointer v]){r:Int}(F:qbj n s a=V r):RetV prog 95 [oV (List qak) cs1,.func (.func 265) #[] #[.pointer v]] w r:=by
 obtain⟨p1,x,rfl,s1⟩:=d;obtain⟨b1,t,_,rfl,-,l,_⟩:=PtR.get c Z;obtain⟨_,_,_,_,rfl,_,_⟩:=qam l;refine zV 19 func95 Z fun h=>X0 11 Z ?_;obtain⟨y,F,b⟩:=qd F;refine qp (rL (fun m e w'=>∃p,qad s a m p=V y/\e=[(0,oS p1 s.length x),(1,.func (.func 265) #[] #[.pointer (V ⟨b1,t,U⟩)]),(7,vi (s.length:Int)),(8,vi p)]/\SH w w' []) n ⟨_,F,rfl,h⟩ Z ?_);rintro u _ _ ⟨p,F,rfl,h⟩;rcases u with _|u
 ·cases F
 refine X0 5 Z (qq Z F ?_ ?_)<;>intro F
 ·refine X0 13 Z ?_;obtain⟨B,_,F,g,_,_,_,_,i,k,o,f⟩:=s1.ix F;obtain⟨_,_,_,_,rfl,z,A⟩:=qam o;refine zxe i k g Z (zc 0 (f.below h.below) Z (zcB h F (qkr (qhf B (h.oldS z) (h.oldS A)) (h.old c)) Z fun _ _ h F=>qbe (qq Z F ?_ ?_)))<;>intro F
  ·refine X0 5 Z ?_;obtain rfl:=qb F;replace F:=b;exact ri h F Z
  exact X0 6 Z (rK ⟨_,F,rfl,h⟩ Z)
 refine qw Z ?_;obtain rfl:=qb F;replace F:=b;exact X0 4 Z (ri h F Z)

def qaH(n:Nat)(s:(List qak))(a:qak):Option Bool:=(qbj n s a).bind fun r1=>V (decide (r1>=0))
theorem qer{s:(List qak)}{a:qak}(c:Ro w s cs1){f}(b:Ro w (V a) [.pointer f]){r:Bool}(F:qaH n s a=V r):RetV prog 264 [oV (List qak) cs1,.func (.func 265) #[] #[.pointer f]] w r:=by
 obtain⟨_,_,rfl,s1⟩:=c;obtain⟨_,g,_,rfl,-,d,_⟩:=PtR.get b Z;obtain⟨_,_,_,_,rfl,_,_⟩:=qam d;exact zV 9 func264 Z fun h=>X0 8 Z (zcI h F (qeQ ⟨_,_,rfl,(h.oldS s1)⟩ (h.old b)) Z fun _ _ h F=>X0 3 Z (rb h F Z))
def qcP(c:qA):Nat->Int->Option (Flow Bool Int)|0,_=>U|n+1,a=>bif decide (a<(c.Ap.length:Int)) then(idx c.Ap a).bind fun b=>(qhk n c b).bind fun r1=>bif (!r1) then V (.ret false) else(subS c.Ap 0 a).bind fun f=>(qaH n f b).bind fun d=>bif d then V (.ret false) else qcP c n (W64 (a+1)) else V (.nxt a)
def qgs(n:Nat)(c:qA):Option Bool:=(qcP c n 0).bind fun|.ret r=>V r|.nxt _=>V (decide ((c.Ap.length:Int)<=8))
theorem qlg{c:qA}(d:Ro w c cs1){r:Bool}(F:qgs n c=V r):RetV prog 246 [oV qA cs1] w r:=by
 obtain⟨p1,I,B,z,K,k3,rfl,_,s2,_⟩:=qW d;refine zV 30 func246 Z fun h=>zSR (qJ h Z Z fun _ b h=>X1 10 0 h Z ?_);obtain⟨J,F,a⟩:=qd F;refine qp (rL (fun m e w'=>∃v,qcP c m v=V J/\e=[(1,vp b),(6,oS B c.Ap.length z),(7,vi (c.Ap.length:Int)),(8,vi v)]/\SH w w' [oX b (qI c p1 B K I z k3) 166]) n ⟨_,F,rfl,h⟩ Z ?_);rintro A _ _ ⟨v,F,rfl,h⟩;rcases A with _|A
 ·cases F
 refine X0 5 Z (qq Z F ?_ ?_)<;>intro F
 ·refine X0 6 Z ?_;obtain⟨y,_,F,l,_,_,_,_,p,s,u,k⟩:=s2.ix F;obtain⟨_,_,_,_,rfl,C,D⟩:=qam u;refine zxe p s l Z (zc 0 (k.below h.below) Z (qi qa h Z Z Z fun _ _ h=>zp1 Z (zs 0 h Z fun _ h=>X2 5 1 0 h Z (zcB h F (qmh (h.old d) (qhf y (h.oldS C) (h.oldS D))) Z fun _ _ h F=>zp2 Z (qj (t:=17) F Z ?_ ?_)))))<;>intro F
  ·refine X0 8 Z (qbZ Z Z (X0 4 Z ?_));obtain rfl:=qb F;replace F:=a;exact rb h F Z
  refine X1 7 1 h Z ?_;obtain⟨_,i,F⟩:=qd F;obtain⟨_,_,g,f,o,H⟩:=qrt (h.oldS s2) i;refine r_v (qoD qa Z Z Z (qrD H Z) g f o Z Z Z Z) Z ?_;have L:=qrA s2 i g f;refine X0 3 Z (zcB h F (qer ⟨_,_,rfl,(h.oldS L)⟩ (qea (x:=y) 0 h Z (qhf y (h.oldS C) (h.oldS D)))) Z fun _ _ h F=>X0 2 Z (qq Z F ?_ ?_))<;>intro F
  ·refine X0 4 Z ?_;obtain rfl:=qb F;replace F:=a;exact rb h F Z
  refine X0 6 Z ?_;replace h:=h.p [1] Z;exact rK ⟨_,F,rfl,h⟩ Z
 refine qw Z ?_;obtain rfl:=qb F;replace F:=a;exact X1 8 0 h Z (rb h F Z)
def qiL(_:Nat)(a:qak)(b:Int):Option Bool:=V (a.Ar==b)
theorem qmi{a:qak}{i}(b:Ro w a cs1){g}(c:Ro w (V i) [.pointer g]){r:Bool}(F:qiL n a i=V r):RetV prog 280 [oV qak cs1,.pointer g] w r:=by
 obtain⟨_,_,_,_,rfl,_,_⟩:=qam b;obtain⟨_,k,_,rfl,-,f,d⟩:=PtR.get c Z;obtain rfl:=f;exact zV 8 func280 Z fun h=>zSR (qJ h Z Z fun _ _ h=>X1 6 0 h Z (zc 0 (d.below h.below) Z (X0 3 Z (rb h F Z))))
def qaj(s:(List qak))(a:Int):Nat->Int->Option (Flow Int Int)|0,_=>U|n+1,b=>bif decide (b<(s.length:Int)) then(idx s b).bind fun c=>(qiL n c a).bind fun r1=>bif r1 then V (.ret b) else qaj s a n (W64 (b+1)) else V (.nxt b)
def qbO(n:Nat)(s:(List qak))(a:Int):Option Int:=(qaj s a n 0).bind fun|.ret r=>V r|.nxt _=>V (-1)
theorem qfN{s:(List qak)}{a}(d:Ro w s cs1){v}(c:Ro w (V a) [.pointer v]){r:Int}(F:qbO n s a=V r):RetV prog 95 [oV (List qak) cs1,.func (.func 280) #[] #[.pointer v]] w r:=by
 obtain⟨p1,x,rfl,s1⟩:=d;obtain⟨b1,t,_,rfl,-,l,_⟩:=PtR.get c Z;obtain rfl:=l;refine zV 19 func95 Z fun h=>X0 11 Z ?_;obtain⟨y,F,b⟩:=qd F;refine qp (rL (fun m e w'=>∃p,qaj s a m p=V y/\e=[(0,oS p1 s.length x),(1,.func (.func 280) #[] #[.pointer (V ⟨b1,t,U⟩)]),(7,vi (s.length:Int)),(8,vi p)]/\SH w w' []) n ⟨_,F,rfl,h⟩ Z ?_);rintro u _ _ ⟨p,F,rfl,h⟩;rcases u with _|u
 ·cases F
 refine X0 5 Z (qq Z F ?_ ?_)<;>intro F
 ·refine X0 13 Z ?_;obtain⟨A,_,F,g,_,_,_,_,i,k,o,f⟩:=s1.ix F;obtain⟨_,_,_,_,rfl,s2,z⟩:=qam o;refine zxe i k g Z (zc 0 (f.below h.below) Z (zcB h F (qmi (qhf A (h.oldS s2) (h.oldS z)) (h.old c)) Z fun _ _ h F=>qbe (qq Z F ?_ ?_)))<;>intro F
  ·refine X0 5 Z ?_;obtain rfl:=qb F;replace F:=b;exact ri h F Z
  exact X0 6 Z (rK ⟨_,F,rfl,h⟩ Z)
 refine qw Z ?_;obtain rfl:=qb F;replace F:=b;exact X0 4 Z (ri h F Z)
def qbu(n:Nat)(s:(List qak))(a:Int):Option Bool:=(qbO n s a).bind fun r1=>V (decide (r1>=0))
theorem qfc{s:(List qak)}{a}(c:Ro w s cs1){f}(b:Ro w (V a) [.pointer f]){r:Bool}(F:qbu n s a=V r):RetV prog 264 [oV (List qak) cs1,.func (.func 280) #[] #[.pointer f]] w r:=by
 obtain⟨_,_,rfl,s1⟩:=c;obtain⟨_,g,_,rfl,-,d,_⟩:=PtR.get b Z;obtain rfl:=d;exact zV 9 func264 Z fun h=>X0 8 Z (zcI h F (qfN ⟨_,_,rfl,(h.oldS s1)⟩ (h.old b)) Z fun _ _ h F=>X0 3 Z (rb h F Z))
def qdE(n:Nat)(c:qA)(kind:Int):Option Bool:=(qbu n c.Ap kind).bind fun r1=>V r1
theorem qet{c:qA}{kind}(a:Ro w c cs1){r:Bool}(F:qdE n c kind=V r):RetV prog 266 [oV qA cs1,vi kind] w r:=by
 obtain⟨_,_,_,_,_,_,rfl,_,s2,_⟩:=qW a;exact zV 9 func266 Z fun h=>zSR (qJ h Z Z fun _ _ h=>qJ h Z Z fun _ _ h=>X1 7 1 h Z (zcB h F (qfc ⟨_,_,rfl,(h.oldS s2)⟩ (qea (x:=kind) 0 h Z Z)) Z fun _ _ h F=>X0 2 Z (rb h F Z)))
def qbk(a_0:qA):Nat->Int->Int->Option (Int×Int)|0,_,_=>U|n+1,b,a=>bif decide (a<(a_0.As.length:Int)) then(idx a_0.As a).bind fun c=>bif c.Bq then qbk a_0 n (W64 (b+1)) (W64 (a+1)) else qbk a_0 n b (W64 (a+1)) else V (b,a)
def qfW(n:Nat)(a_0:qA):Option Bool:=(qbk a_0 n 0 0).bind fun(a,_)=>bif (a_0.Ar==1) then bif (a==0) then(qce n a_0).bind fun r1=>(shlS 1 r1).bind fun k=>bif ((a_0.Bo.length:Int)==k) then(qcy n a_0.Bo 0 1).bind fun b=>V b else V false else V false else bif (a_0.Ar==2) then bif (a==1) then bif ((a_0.Bo.length:Int)==0) then(qdE n a_0 1).bind fun c=>bif (!c) then(qdE n a_0 2).bind fun d=>(qdE n a_0 3).bind fun f=>V (!(d==f)) else V false else V false else V false else bif (a_0.Ar==3) then bif (a==1) then bif ((a_0.Bo.length:Int)==0) then(qdE n a_0 1).bind fun g=>bif g then(qdE n a_0 2).bind fun h=>bif h then(qdE n a_0 3).bind fun i=>V (!i) else V false else V false else V false else V false else V false
theorem qk5{a_0:qA}(a:Ro w a_0 cs1){r:Bool}(F:qfW n a_0=V r):RetV prog 247 [oV qA cs1] w r:=by
 obtain⟨p1,z,H,C,I,k3,rfl,s1,_,N⟩:=qW a;refine zV 83 func247 Z fun h=>zSR (qJ h Z Z fun _ c h=>X1 14 0 h Z ?_);obtain⟨D,F,d⟩:=qd F;refine qp (rL (fun m e w'=>∃x y,qbk a_0 m x y=V D/\e=[(1,vp c),(3,vi x),(7,oS p1 a_0.As.length z),(8,vi (a_0.As.length:Int)),(9,vi y)]/\SH w w' [oX c (qI a_0 p1 H I z C k3) 166]) n ⟨_,_,F,rfl,h⟩ Z ?_);rintro A _ _ ⟨x,y,F,rfl,h⟩;rcases A with _|A
 ·cases F
 refine X0 5 Z (qq Z F ?_ ?_)<;>intro F
 ·refine zKSBSR ?_;obtain⟨_,_,F,g,_,_,_,_,i,k,l,f⟩:=s1.ix F;obtain rfl:=qeV l;refine zxe i k g Z (zc 0 (f.below h.below) Z (qi qa h Z Z Z fun _ _ h=>zs 0 h Z fun _ h=>X1 6 0 h Z (qq Z F ?_ ?_)))<;>intro F
  ·refine X0 10 Z ?_;replace h:=h.p [1] Z;exact rK ⟨_,_,F,rfl,h⟩ Z
  refine X0 6 Z ?_;replace h:=h.p [1] Z;exact rK ⟨_,_,F,rfl,h⟩ Z
 refine qw Z ?_;obtain rfl:=qb F;replace F:=d;refine X1 12 0 h Z (qq Z F ?_ ?_)<;>intro F
 ·refine qcz (rD (zd3 Z (qbQ (t:=24) F Z ?_ ?_)))<;>intro F
  ·refine Y1 4 0 h Z ?_;refine Y1 4 0 h Z ?_;refine Y0 1 Z ?_;obtain⟨r1,o,F⟩:=qd F;refine qcY r1 (vsI _) (cB 103 Z) (fun _ O=>qft ((h.ext O).old a) o) Z Z Z Z (Y0 1 Z ?_);obtain⟨_,b,F⟩:=qd F;obtain⟨B,b⟩:=qna b;refine d_v (fun _ O=>qti B Z Z) Z ?_;rw[b];refine Y0 4 Z (qbQ (t:=33) F Z ?_ ?_)<;>intro F
   ·refine Y1 4 0 h Z ?_;refine Y0 1 Z ?_;obtain⟨J,p,F⟩:=qd F;exact qcY J (vsB _) (cB 77 Z) (fun _ O=>qcT ⟨_,_,rfl,((h.ext O).oldS N)⟩ p) Z Z Z Z (zd2 Z (dN h fun _ h=>rb h F Z))
   exact Y0 5 Z (dN h fun _ h=>rb h F Z)
  exact Y0 14 Z (dN h fun _ h=>rb h F Z)
 refine X0 5 Z (qq Z F ?_ ?_)<;>intro F
 ·refine qcz (rD (zd3 Z (qbQ (t:=42) F Z ?_ ?_)))<;>intro F
  ·refine Y1 4 0 h Z ?_;refine Y0 6 Z (qbQ (t:=48) F Z ?_ ?_)<;>intro F
   ·refine Y1 2 0 h Z ?_;refine Y0 1 Z ?_;obtain⟨K,s,F⟩:=qd F;refine qcY K (vsB _) (cB 266 Z) (fun _ O=>qet ((h.ext O).old a) s) Z Z Z Z (Y0 4 Z (qbQ (t:=53) F Z ?_ ?_))<;>intro F
    ·refine Y1 2 0 h Z ?_;refine Y0 1 Z ?_;obtain⟨L,u,F⟩:=qd F;refine qcY L (vsB _) (cB 266 Z) (fun _ O=>qet ((h.ext O).old a) u) Z Z Z Z (Y1 2 0 h Z ?_);refine Y0 1 Z ?_;obtain⟨M,v,F⟩:=qd F;exact qcY M (vsB _) (cB 266 Z) (fun _ O=>qet ((h.ext O).old a) v) Z Z Z Z (Y0 4 Z (dN h fun _ h=>rb h F Z))
    exact Y0 7 Z (dN h fun _ h=>rb h F Z)
   exact Y0 12 Z (dN h fun _ h=>rb h F Z)
  exact Y0 18 Z (dN h fun _ h=>rb h F Z)
 refine X0 5 Z (qq Z F ?_ ?_)<;>intro F
 ·refine X0 5 Z (qj (t:=64) F Z ?_ ?_)<;>intro F
  ·refine X1 10 0 h Z (qj (t:=70) F Z ?_ ?_)<;>intro F
   ·refine X1 3 0 h Z (zcB h F (qet (h.old a)) Z fun _ _ h F=>zp2 Z (qj (t:=74) F Z ?_ ?_))<;>intro F
    ·refine X1 3 0 h Z (zcB h F (qet (h.old a)) Z fun _ _ h F=>zp2 Z (qj (t:=78) F Z ?_ ?_))<;>intro F
     ·exact X1 3 0 h Z (zcB h F (qet (h.old a)) Z fun _ _ h F=>X0 5 Z (rb h F Z))
     exact X0 6 Z (rb h F Z)
    exact X0 10 Z (rb h F Z)
   exact X0 14 Z (rb h F Z)
  exact X0 20 Z (rb h F Z)
 exact X0 6 Z (rb h F Z)
def qjL(n:Nat)(c:qA):Option Bool:=(qhC n c.Ba).bind fun r1=>bif r1 then(qi6 n c.As).bind fun a=>bif a then(qgs n c).bind fun b=>bif b then(qaK n c.Cc 0 100000).bind fun d=>bif d then(qaK n c.Bx 0 100000).bind fun f=>bif f then(qfW n c).bind fun g=>V g else V false else V false else V false else V false else V false
theorem qoE{c:qA}(a:Ro w c cs1){r:Bool}(F:qjL n c=V r):RetV prog 205 [oV qA cs1] w r:=by
 obtain⟨_,_,_,_,_,_,rfl,s1,_,_⟩:=qW a;refine zV 29 func205 Z fun h=>zSR (qJ h Z Z fun _ _ h=>X1 6 0 h Z (zcB h F qjn Z fun _ _ h F=>zp1 Z (qj (t:=6) F Z ?_ ?_)))<;>intro F
 ·refine X1 5 0 h Z (zcB h F (qn1 ⟨_,_,rfl,(h.oldS s1)⟩) Z fun _ _ h F=>zp2 Z (qj (t:=11) F Z ?_ ?_))<;>intro F
  ·refine X1 3 0 h Z (zcB h F (qlg (h.old a)) Z fun _ _ h F=>zp2 Z (qj (t:=15) F Z ?_ ?_))<;>intro F
   ·refine X1 5 0 h Z (zcB h F qaw Z fun _ _ h F=>zp2 Z (qj (t:=20) F Z ?_ ?_))<;>intro F
    ·refine X1 5 0 h Z (zcB h F qaw Z fun _ _ h F=>zp2 Z (qj (t:=25) F Z ?_ ?_))<;>intro F
     ·exact X1 3 0 h Z (zcB h F (qk5 (h.old a)) Z fun _ _ h F=>X0 3 Z (rb h F Z))
     exact X0 5 Z (rb h F Z)
    exact X0 10 Z (rb h F Z)
   exact X0 15 Z (rb h F Z)
  exact X0 19 Z (rb h F Z)
 exact X0 24 Z (rb h F Z)
def qc1(l:qr):Nat->(List ByteArray)->Int->Option (Flow Bool ((List ByteArray)×Int))|0,_,_=>U|n+1,b,a=>bif decide (a<(l.Aj.length:Int)) then(idx l.Aj a).bind fun c=>(qjL n c).bind fun r1=>bif (!r1) then V (.ret false) else(appS b ([c.Ba]:List ByteArray)).bind fun d=>qc1 l n d (W64 (a+1)) else V (.nxt (b,a))
def qh5(n:Nat)(l:qr):Option Bool:=(qc1 l n ([]:List ByteArray) 0).bind fun|.ret r=>V r|.nxt (b,_)=>bif decide ((l.Aj.length:Int)<=8) then(qeq n b).bind fun a=>V a else V false
theorem qmV{l:qr}(f:Ro w l cs1){r:Bool}(F:qh5 n l=V r):RetV prog 147 [oV qr cs1] w r:=by
 obtain⟨p1,y,rfl,s1⟩:=qdC f;refine zV 30 func147 Z fun h=>zSR (qJ h Z Z fun _ c h=>X1 14 0 h Z ?_);replace h:=h.nil (α:=ByteArray);obtain⟨C,F,d⟩:=qd F;refine qp (rL (fun m e w'=>∃S1 v b u x s,qc1 l m x s=V C/\e=[(1,vp c),(3,oS v b u),(7,oS p1 l.Aj.length y),(8,vi (l.Aj.length:Int)),(9,vi s)]/\SH w w' [oW S1 (x:List ByteArray) [oS v b u],oX c [oS p1 l.Aj.length y] 26]) n ⟨_,_,_,_,_,_,F,rfl,h⟩ Z ?_);rintro z _ _ ⟨S1,v,b,u,x,s,F,rfl,h⟩;obtain rfl:=(h.sl 0 Z).2;rcases z with _|z
 ·cases F
 refine X0 5 Z (qq Z F ?_ ?_)<;>intro F
 ·refine zKSBSR ?_;obtain⟨A,_,F,i,_,_,_,_,k,o,p,g⟩:=s1.ix F;obtain⟨_,_,_,_,_,_,rfl,s2,D,H⟩:=qW p;refine zxe k o i Z (zc 0 (g.below h.below) Z (qi qa h Z Z Z fun _ _ h=>zs 0 h Z fun _ h=>X1 5 0 h Z (zcB h F (qoE (qns A (h.oldS s2) (h.oldS D) (h.oldS H))) Z fun _ _ h F=>X0 2 Z (qq Z F ?_ ?_))))<;>intro F
  ·refine X0 4 Z ?_;obtain rfl:=qb F;replace F:=d;exact rb h F Z
  refine X1 5 0 h Z (qt qa [.tmp 18] _ ([A.Ba]:List ByteArray) h Z Z Z Z Z Z Z Z Z ⟨rfl,G⟩ Z fun _ _ _ h=>?_);obtain⟨_,a,F⟩:=qd F;obtain⟨B,a⟩:=qH a;refine qaC qa 2 h Z (h.sl 0 Z).1 (h.sl 0 Z).2 Z Z Z Z Z Z Z Z Z B a Z fun _ _ _ _ h=>X0 7 Z ?_;replace h:=h.p [2,3] Z;exact rK ⟨_,_,_,_,_,_,F,rfl,h⟩ Z
 refine qw Z ?_;obtain rfl:=qb F;replace F:=d;refine X1 7 1 h Z (qj (t:=26) F Z ?_ ?_)<;>intro F
 ·exact X0 3 Z (zcB h F (qfy (h.own 0 Z)) Z fun _ _ h F=>X0 3 Z (rb h F Z))
 exact X0 5 Z (rb h F Z)
def qby(d:qh):Nat->(List ByteArray)->Int->Option ((List ByteArray)×Int)|0,_,_=>U|n+1,b,a=>bif decide (a<(d.Af.length:Int)) then(idx d.Af a).bind fun f=>(appS b ([f.Ba]:List ByteArray)).bind fun c=>qby d n c (W64 (a+1)) else V (b,a)
def qbw(d:qh):Nat->(List ByteArray)->Int->Option ((List ByteArray)×Int)|0,_,_=>U|n+1,b,a=>bif decide (a<(d.Ab.length:Int)) then(idx d.Ab a).bind fun f=>(appS b ([f.Ba]:List ByteArray)).bind fun c=>qbw d n c (W64 (a+1)) else V (b,a)
def qfh(n:Nat)(d:qh):Option Bool:=(qbw d n ([]:List ByteArray) 0).bind fun(a,_)=>(qby d n ([]:List ByteArray) 0).bind fun(b,_)=>bif decide ((a.length:Int)<=14) then bif decide ((d.Ai.length:Int)<=30) then bif decide ((b.length:Int)<=8) then(qeq n a).bind fun r1=>bif r1 then(qeq n d.Ai).bind fun c=>bif c then(qeq n b).bind fun f=>V f else V false else V false else V false else V false else V false
theorem qkk{d:qh}(s:Ro w d cs1){r:Bool}(F:qfh n d=V r):RetV prog 148 [oV qh cs1] w r:=by
 obtain⟨p1,K,T,Q,M,k3,rfl,s1,s2,s3⟩:=qa0 s;refine zV 62 func148 Z fun h=>zSR (qJ h Z Z fun _ a h=>X1 15 0 h Z ?_);replace h:=h.nil (α:=ByteArray);obtain⟨Y,F,o⟩:=qd F;refine qp (rL (fun m e w'=>∃S1 l f k i I,qbw d m i I=V Y/\e=[(1,vp a),(3,oS l f k),(4,oS U 0 0),(10,oS p1 d.Ab.length K),(11,vi (d.Ab.length:Int)),(12,vi I)]/\SH w w' [oW S1 (i:List ByteArray) [oS l f k],oX a (qax d p1 T M K Q k3) 31]) n ⟨_,_,_,_,_,_,F,rfl,h⟩ Z ?_);rintro R _ _ ⟨S1,l,f,k,i,I,F,rfl,h⟩;obtain rfl:=(h.sl 0 Z).2;rcases R with _|R
 ·cases F
 refine X0 5 Z (qq Z F ?_ ?_)<;>intro F
 ·refine zKSBSR ?_;obtain⟨y1,_,F,x,_,_,_,_,z,B,D,u⟩:=s1.ix F;obtain⟨_,_,rfl,_⟩:=qac D;refine zxe z B x Z (zc 0 (u.below h.below) Z (qi qa h Z Z Z fun _ _ h=>zs 0 h Z fun _ h=>X1 5 0 h Z (qt qa [.tmp 18] _ ([y1.Ba]:List ByteArray) h Z Z Z Z Z Z Z Z Z ⟨rfl,G⟩ Z fun _ _ _ h=>?_)));obtain⟨_,b,F⟩:=qd F;obtain⟨W,b⟩:=qH b;refine qaC qa 2 h Z (h.sl 0 Z).1 (h.sl 0 Z).2 Z Z Z Z Z Z Z Z Z W b Z fun _ _ _ _ h=>X0 7 Z ?_;replace h:=h.p [2,3] Z;exact rK ⟨_,_,_,_,_,_,F,rfl,h⟩ Z
 refine qw Z ?_;obtain rfl:=qb F;replace F:=o;refine X1 8 1 h Z ?_;replace h:=h.nil (α:=ByteArray);obtain⟨o2,F,p⟩:=qd F;refine qp (rL (fun m e w'=>∃P N g L O J,qby d m O J=V o2/\e=[(1,vp a),(3,oS l i.length k),(4,oS N g L),(23,oS M d.Af.length k3),(24,vi (d.Af.length:Int)),(25,vi J)]/\SH w w' [oW P (O:List ByteArray) [oS N g L],oW S1 (i:List ByteArray) [oS l i.length k],oX a (qax d p1 T M K Q k3) 31]) n ⟨_,_,_,_,_,_,F,rfl,h⟩ Z ?_);rintro S _ _ ⟨P,N,g,L,O,J,F,rfl,h⟩;obtain rfl:=(h.sl 0 Z).2;rcases S with _|S
 ·cases F
 refine X0 5 Z (qq Z F ?_ ?_)<;>intro F
 ·refine zKSBSR ?_;obtain⟨y2,_,F,y,_,_,_,_,A,C,H,v⟩:=s3.ix F;obtain rfl:=qeD H;refine zxe A C y Z (zc 0 (v.below h.below) Z (qi qa h Z Z Z fun _ _ h=>zs 0 h Z fun _ h=>X1 5 0 h Z (qt qa [.tmp 31] _ ([y2.Ba]:List ByteArray) h Z Z Z Z Z Z Z Z Z ⟨rfl,G⟩ Z fun _ _ _ h=>?_)));obtain⟨_,c,F⟩:=qd F;obtain⟨X,c⟩:=qH c;refine qaC qa 2 h Z (h.sl 0 Z).1 (h.sl 0 Z).2 Z Z Z Z Z Z Z Z Z X c Z fun _ _ _ _ h=>X0 7 Z ?_;replace h:=h.p [2,3,4] Z;exact rK ⟨_,_,_,_,_,_,F,rfl,h⟩ Z
 refine qw Z ?_;obtain rfl:=qb F;replace F:=p;refine X0 6 Z (qj (t:=38) F Z ?_ ?_)<;>intro F
 ·refine X1 10 2 h Z (qj (t:=44) F Z ?_ ?_)<;>intro F
  ·refine X0 8 Z (qj (t:=49) F Z ?_ ?_)<;>intro F
   ·refine X0 3 Z (zcB h F (qfy (h.own 1 Z)) Z fun _ _ h F=>zp2 Z (qj (t:=53) F Z ?_ ?_))<;>intro F
    ·refine X1 5 2 h Z (zcB h F (qfy ⟨_,_,rfl,(h.oldS s2)⟩) Z fun _ _ h F=>zp2 Z (qj (t:=58) F Z ?_ ?_))<;>intro F
     ·exact X0 3 Z (zcB h F (qfy (h.own 0 Z)) Z fun _ _ h F=>X0 3 Z (rb h F Z))
     exact X0 5 Z (rb h F Z)
    exact X0 10 Z (rb h F Z)
   exact X0 14 Z (rb h F Z)
  exact X0 19 Z (rb h F Z)
 exact X0 25 Z (rb h F Z)
def qgp(_:Nat)(list:(List qA)):Option Int:=V (list.length:Int)
theorem qj1{list:(List qA)}(a:Ro w list cs1){r:Int}(F:qgp n list=V r):RetV prog 207 [oV (List qA) cs1] w r:=by
 obtain⟨_,_,rfl,_⟩:=a;exact zV 5 func207 Z fun h=>X0 10 Z (ri h F Z)
def qdB(n:Nat)(net:Int)(a:qh):Option Bool:=(qdR n a net).bind fun r1=>V (!r1)
theorem qiS{net}{d:qh}{p1}(a:Ro w (V d) [.pointer p1]){r:Bool}(F:qdB n net d=V r):RetV prog 208 [vi net,.pointer p1] w r:=by
 obtain⟨_,f,_,rfl,-,c,b⟩:=PtR.get a Z;obtain⟨_,_,_,_,_,_,rfl,s1,s2,g⟩:=qa0 c;exact zV 8 func208 Z fun h=>X0 6 Z (zc 0 (b.below h.below) Z (zp1 Z (zcB h F (qgG (qaF d (h.oldS s1) (h.oldS s2) (h.oldS g))) Z fun _ _ h F=>X0 3 Z (rb h F Z))))
def qaa(s:(List Int))(a:qh):Nat->Int->Option (Flow Int Int)|0,_=>U|n+1,b=>bif decide (b<(s.length:Int)) then(idx s b).bind fun c=>(qdB n c a).bind fun r1=>bif r1 then V (.ret b) else qaa s a n (W64 (b+1)) else V (.nxt b)
def qa9(n:Nat)(s:(List Int))(a:qh):Option Int:=(qaa s a n 0).bind fun|.ret r=>V r|.nxt _=>V (-1)
theorem qeC{s:(List Int)}{a:qh}(d:Ro w s cs1){u}(c:Ro w (V a) [.pointer u]){r:Int}(F:qa9 n s a=V r):RetV prog 121 [oV (List Int) cs1,.func (.func 208) #[] #[.pointer u]] w r:=by
 obtain⟨p1,v,rfl,s1⟩:=d;obtain⟨b1,p,_,rfl,-,l,_⟩:=PtR.get c Z;obtain⟨_,_,_,_,_,_,rfl,_,_,_⟩:=qa0 l;refine zV 19 func121 Z fun h=>X0 11 Z ?_;obtain⟨x,F,b⟩:=qd F;refine qp (rL (fun m e w'=>∃o,qaa s a m o=V x/\e=[(0,oS p1 s.length v),(1,.func (.func 208) #[] #[.pointer (V ⟨b1,p,U⟩)]),(7,vi (s.length:Int)),(8,vi o)]/\SH w w' []) n ⟨_,F,rfl,h⟩ Z ?_);rintro t _ _ ⟨o,F,rfl,h⟩;rcases t with _|t
 ·cases F
 refine X0 5 Z (qq Z F ?_ ?_)<;>intro F
 ·refine X0 13 Z ?_;obtain⟨_,_,F,g,_,_,_,_,i,k,rfl,f⟩:=s1.ix F;refine zxe i k g Z (zc 0 (f.below h.below) Z (zcB h F (qiS (h.old c)) Z fun _ _ h F=>qbe (qq Z F ?_ ?_)))<;>intro F
  ·refine X0 5 Z ?_;obtain rfl:=qb F;replace F:=b;exact ri h F Z
  exact X0 6 Z (rK ⟨_,F,rfl,h⟩ Z)
 refine qw Z ?_;obtain rfl:=qb F;replace F:=b;exact X0 4 Z (ri h F Z)
def qaX(n:Nat)(s:(List Int))(a:qh):Option Bool:=(qa9 n s a).bind fun r1=>V (decide (r1>=0))
theorem qd9{s:(List Int)}{a:qh}(c:Ro w s cs1){f}(b:Ro w (V a) [.pointer f]){r:Bool}(F:qaX n s a=V r):RetV prog 59 [oV (List Int) cs1,.func (.func 208) #[] #[.pointer f]] w r:=by
 obtain⟨_,_,rfl,s1⟩:=c;obtain⟨_,g,_,rfl,-,d,_⟩:=PtR.get b Z;obtain⟨_,_,_,_,_,_,rfl,_,_,_⟩:=qa0 d;exact zV 9 func59 Z fun h=>X0 8 Z (zcI h F (qeC ⟨_,_,rfl,(h.oldS s1)⟩ (h.old b)) Z fun _ _ h F=>X0 3 Z (rb h F Z))
def qeh(n:Nat)(d:qh)(l:qr)(x:qz):Option Bool:=(qgp n l.Aj).bind fun r1=>(qaK n x.Bn 0 (W64 (r1-1))).bind fun a=>bif a then(idx l.Aj x.Bn).bind fun c=>bif ((x.Ai.length:Int)==(c.As.length:Int)) then(qaX n x.Ai d).bind fun b=>V (!b) else V false else V false
theorem qjt{d:qh}{l:qr}{x:qz}(a:Ro w d cs1)(b:Ro w l cs2)(c:Ro w x cs3){r:Bool}(F:qeh n d l x=V r):RetV prog 149 [oV qh cs1,oV qr cs2,oV qz cs3] w r:=by
 obtain⟨_,_,_,_,_,_,rfl,_,_,_⟩:=qa0 a;obtain⟨_,_,rfl,u⟩:=qdC b;obtain⟨_,_,rfl,z⟩:=qac c;refine zV 35 func149 Z fun h=>zSR (qJ h Z Z fun _ _ h=>qJ h Z Z fun _ _ h=>qJ h Z Z fun _ _ h=>X0 3 Z (rD (Y1 2 0 h Z ?_)));refine Y1 2 1 h Z ?_;obtain⟨r1,m,F⟩:=qd F;refine qcY r1 (vsI _) (cB 207 Z) (fun _ A=>qj1 ⟨_,_,rfl,((h.ext A).oldS u)⟩ m) Z Z Z Z (zd1 Z ?_);obtain⟨v,o,F⟩:=qd F;refine qcY v (vsB _) (cB 35 Z) (fun _ A=>qaw  o) Z Z Z Z (zd1 Z (qbQ (t:=14) F Z ?_ ?_))<;>intro F
 ·refine Y1 4 0 h Z ?_;refine Y1 6 1 h Z ?_;refine Y1 4 0 h Z ?_;refine Y0 1 Z ?_;obtain⟨_,_,F,g,_,_,_,_,i,k,p,f⟩:=u.ix F;obtain⟨_,_,_,_,_,_,rfl,_,_,_⟩:=qW p;refine zdxe i k g Z (Y0 3 Z (zdc 2 (f.below h.below) Z (Y0 6 Z (qbQ (t:=28) F Z ?_ ?_))))<;>intro F
  ·refine Y1 4 0 h Z ?_;refine Y0 3 Z ?_;obtain⟨y,s,F⟩:=qd F;exact qcY y (vsB _) (cB 59 Z) (fun _ A=>qd9 ⟨_,_,rfl,((h.ext A).oldS z)⟩ (qea (x:=d) 2 (h.ext A) Z ((h.ext A).old a)) s) Z Z Z Z (Y0 4 Z (dN h fun _ h=>rb h F Z))
  exact Y0 7 Z (dN h fun _ h=>rb h F Z)
 exact Y0 21 Z (dN h fun _ h=>rb h F Z)
def qiO(_:Nat)(a:Int):Option Bool:=V (a != 1)
theorem qmt{a_n}  {r:Bool}(F:qiO n a_n=V r):RetV prog 151 [vi a_n] w r:=by
 exact zV 5 func151 Z fun h=>X0 10 Z (rb h F Z)
def qas(s:(List Int)):Nat->Int->Option (Flow Int Int)|0,_=>U|n+1,a=>bif decide (a<(s.length:Int)) then(idx s a).bind fun b=>(qiO n b).bind fun r1=>bif r1 then V (.ret a) else qas s n (W64 (a+1)) else V (.nxt a)
def qcj(n:Nat)(s:(List Int)):Option Int:=(qas s n 0).bind fun|.ret r=>V r|.nxt _=>V (-1)
theorem qgA{s:(List Int)}(b:Ro w s cs1){r:Int}(F:qcj n s=V r):RetV prog 209 [oV (List Int) cs1,.func (.func 151) #[] #[]] w r:=by
 obtain⟨p1,l,rfl,s1⟩:=b;refine zV 19 func209 Z fun h=>X0 11 Z ?_;obtain⟨o,F,a⟩:=qd F;refine qp (rL (fun m e w'=>∃i,qas s m i=V o/\e=[(0,oS p1 s.length l),(1,.func (.func 151) #[] #[]),(7,vi (s.length:Int)),(8,vi i)]/\SH w w' []) n ⟨_,F,rfl,h⟩ Z ?_);rintro k _ _ ⟨i,F,rfl,h⟩;rcases k with _|k
 ·cases F
 refine X0 5 Z (qq Z F ?_ ?_)<;>intro F
 ·refine X0 13 Z ?_;obtain⟨_,_,F,d,_,_,_,_,f,g,rfl,c⟩:=s1.ix F;refine zxe f g d Z (zc 0 (c.below h.below) Z (zcB h F qmt Z fun _ _ h F=>qbe (qq Z F ?_ ?_)))<;>intro F
  ·refine X0 5 Z ?_;obtain rfl:=qb F;replace F:=a;exact ri h F Z
  exact X0 6 Z (rK ⟨_,F,rfl,h⟩ Z)
 refine qw Z ?_;obtain rfl:=qb F;replace F:=a;exact X0 4 Z (ri h F Z)
def qb0(n:Nat)(s:(List Int)):Option Bool:=(qcj n s).bind fun r1=>V (decide (r1>=0))
theorem qfU{s:(List Int)}(a:Ro w s cs1){r:Bool}(F:qb0 n s=V r):RetV prog 150 [oV (List Int) cs1,.func (.func 151) #[] #[]] w r:=by
 obtain⟨_,_,rfl,s1⟩:=a;exact zV 9 func150 Z fun h=>X0 8 Z (zcI h F (qgA ⟨_,_,rfl,(h.oldS s1)⟩) Z fun _ _ h F=>X0 3 Z (rb h F Z))
def qcR(a_1:qh):Nat->(List Int)->Int->Option (Flow Bool ((List Int)×Int))|0,_,_=>U|n+1,c,b=>bif decide (b<(a_1.Af.length:Int)) then(idx a_1.Af b).bind fun a=>(bif (a.Bw != 1) then bif (a.Bw != 2) then V true else(qdR n a_1 a.Bz).bind fun f=>V (!f) else(qdR n a_1 a.Bz).bind fun g=>V (!g)).bind fun d=>bif d then V (.ret false) else bif (a.Bw==1) then(idx c a.Bz).bind fun h=>(idx c a.Bz).bind fun _=>qcR a_1 n (setS c a.Bz (W64 (h+1))) (W64 (b+1)) else qcR a_1 n c (W64 (b+1)) else V (.nxt (c,b))
def qdp(a_0:qr)(a_1:qh):Nat->(List Int)->Int->Option (Flow Bool ((List Int)×Int))|0,_,_=>U|n+1,b,a=>bif decide (a<(a_1.Ab.length:Int)) then(idx a_1.Ab a).bind fun c=>(qeh n a_1 a_0 c).bind fun r1=>bif (!r1) then V (.ret false) else(idx c.Ai (W64 ((c.Ai.length:Int)-1))).bind fun d=>(idx b d).bind fun f=>(idx b d).bind fun _=>qdp a_0 a_1 n (setS b d (W64 (f+1))) (W64 (a+1)) else V (.nxt (b,a))
def qiu(n:Nat)(a_0:qr)(a_1:qh):Option Bool:=((qh5 n a_0).bind fun b=>bif (!b) then V true else(qfh n a_1).bind fun c=>V (!c)).bind fun b1=>bif b1 then V false else(mkS (a_1.Ai.length:Int) (0:Int)).bind fun d=>(qdp a_0 a_1 n d 0).bind fun|.ret r=>V r|.nxt (f,_)=>(qcR a_1 n f 0).bind fun|.ret r=>V r|.nxt (g,_)=>(qb0 n g).bind fun a=>V (!a)
theorem qm6{a_0:qr}{a_1:qh}(g:Ro w a_0 cs1)(c:Ro w a_1 cs2){r:Bool}(F:qiu n a_0 a_1=V r):RetV prog 84 [oV qr cs1,oV qh cs2] w r:=by
 obtain⟨p1,k1,rfl,_⟩:=qdC g;obtain⟨N,M,P,k3,l,k,rfl,s2,_,s4⟩:=qa0 c;refine zV 84 func84 Z fun h=>zSR (qJ h Z Z fun _ d h=>qJ h Z Z fun _ a h=>X0 4 Z ?_);obtain⟨S,y,_,F,v⟩:=bindE F;refine qaP (fun e w'=>∃b1,S b1=V r/\e=[(2,vp d),(3,vp a),(17,.bool b1)]/\SH w w' [oX a (qax a_1 N P l M k3 k) 31,oX d [oS p1 a_0.Aj.length k1] 26]) ?_ ?_
 ·refine X1 2 1 h Z (zcB h F (qmV (h.old g)) Z fun _ _ h F=>zp2 Z (qj (t:=13) F Z ?_ ?_))<;>intro F
  ·refine X0 5 Z ?_;obtain rfl:=qb F;exact rG ⟨_,v,rfl,h⟩ Z
  refine X1 3 0 h Z (zcB h F (qkk (h.old c)) Z fun _ _ h F=>X0 4 Z ?_);obtain rfl:=qb F;exact rG ⟨_,v,rfl,h⟩ Z
 rintro _ _ ⟨b1,F,rfl,h⟩;subst y;refine qq Z F ?_ ?_<;>intro F
 ·exact X0 4 Z (rb h F Z)
 refine X1 6 0 h Z ?_;obtain⟨b,i,F⟩:=qd F;obtain⟨g1,g2,i⟩:=qat i;refine qaM qa Int h Z Z Z Z Z Z Z Z Z g1 g2 i Z fun _ S1 o h=>X1 10 1 h Z ?_;obtain⟨o1,F,s⟩:=qd F;refine qp (rL (fun m e w'=>∃x2 i1,qdp a_0 a_1 m x2 i1=V o1/\e=[(2,vp d),(3,vp a),(5,oS o b.length b.length),(23,oS N a_1.Ab.length M),(24,vi (a_1.Ab.length:Int)),(25,vi i1)]/\SH w w' [oW S1 (x2:List Int) [oS o b.length b.length],oX a (qax a_1 N P l M k3 k) 31,oX d [oS p1 a_0.Aj.length k1] 26]) n ⟨_,_,F,rfl,h⟩ Z ?_);rintro m1 _ _ ⟨x2,i1,F,rfl,h⟩;rcases m1 with _|m1
 ·cases F
 refine X0 5 Z (qq Z F ?_ ?_)<;>intro F
 ·refine zKSBSR ?_;obtain⟨y1,_,F,a5,_,_,_,_,a8,b8,c4,W⟩:=s2.ix F;obtain⟨_,_,rfl,s5⟩:=qac c4;refine zxe a8 b8 a5 Z (zc 0 (W.below h.below) Z (qi qa h Z Z Z fun _ _ h=>zs 0 h Z fun _ h=>X3 7 2 3 0 h Z (zcB h F (qjt (h.old c) (h.old g) (qma y1 (h.oldS s5))) Z fun _ _ h F=>X0 2 Z (qq Z F ?_ ?_))))<;>intro F
  ·refine X0 4 Z ?_;obtain rfl:=qb F;replace F:=s;exact rb h F Z
  refine X2 9 0 0 h Z ?_;obtain⟨_,_,F,a6,_,_,_,_,a9,b9,rfl,X⟩:=s5.ix F;refine zxe a9 b9 a6 Z (zc 0 (X.below h.below) Z ?_);obtain⟨y3,_,F,B,_,_,_,_,b4,c0,rfl,Y⟩:=(h.sl 1 Z).1.ix F;refine zx b4 c0 ⟨B.1,qK B.2.1 (h.sl 1 Z).2⟩ Z (zc 0 Y Z (zp1 Z ?_));obtain⟨_,c6,F,C,_,_,_,_,I,K,rfl,a3⟩:=(h.sl 1 Z).1.ix F;refine zx I K ⟨C.1,qK C.2.1 (h.sl 1 Z).2⟩ Z (qa3 qa 1 0 (W64 (y3+1)) h Z c6 I K Z a3 Z Z Z Z Z Z Z fun _ h=>X0 6 Z ?_);replace h:=h.p [1,2,3] Z;exact rK ⟨_,_,F,rfl,h⟩ Z
 refine qw Z ?_;obtain rfl:=qb F;replace F:=s;refine X1 8 1 h Z ?_;obtain⟨o2,F,u⟩:=qd F;refine qp ?_;replace h:=h.p [0,1] Z;refine rL (fun m e w'=>∃Q O,qcR a_1 m Q O=V o2/\e=[(3,vp a),(5,oS o b.length b.length),(49,oS l a_1.Af.length k),(50,vi (a_1.Af.length:Int)),(51,vi O)]/\SH w w' [oW S1 (Q:List Int) [oS o b.length b.length],oX a (qax a_1 N P l M k3 k) 31]) n ⟨_,_,F,rfl,h⟩ Z ?_;rintro m2 _ _ ⟨Q,O,F,rfl,h⟩;rcases m2 with _|m2
 ·cases F
 refine X0 5 Z (qq Z F ?_ ?_)<;>intro F
 ·refine zKSBSR ?_;obtain⟨y5,_,F,a7,_,_,_,_,b5,c2,c5,a4⟩:=s4.ix F;obtain rfl:=qeD c5;refine zxe b5 c2 a7 Z (zc 0 (a4.below h.below) Z (qi qa h Z Z Z fun _ p h=>zs 0 h Z fun _ h=>zNSS ?_));obtain⟨R,x,_,F,f⟩:=bindE F;refine qaP (fun e w'=>∃T,R T=V o2/\e=[(3,vp a),(5,oS o b.length b.length),(9,vp p),(49,oS l a_1.Af.length k),(50,vi (a_1.Af.length:Int)),(51,vi O),(69,.bool T)]/\SH w w' [oX p (qp1 y5) 220,oW S1 (Q:List Int) [oS o b.length b.length],oX a (qax a_1 N P l M k3 k) 31]) ?_ ?_
  ·refine X1 5 0 h Z (qj (t:=58) F Z ?_ ?_)<;>intro F
   ·refine X1 8 0 h Z (qj (t:=63) F Z ?_ ?_)<;>intro F
    ·refine X0 7 Z ?_;obtain rfl:=qb F;exact rG ⟨_,f,rfl,h⟩ Z
    refine X2 7 2 0 h Z (zcB h F (qgG (h.old c)) Z fun _ _ h F=>X0 4 Z ?_);obtain rfl:=qb F;exact rG ⟨_,f,rfl,h⟩ Z
   refine X2 12 2 0 h Z (zcB h F (qgG (h.old c)) Z fun _ _ h F=>X0 4 Z ?_);obtain rfl:=qb F;exact rG ⟨_,f,rfl,h⟩ Z
  rintro _ _ ⟨T,F,rfl,h⟩;subst x;refine qq Z F ?_ ?_<;>intro F
  ·refine X0 4 Z ?_;obtain rfl:=qb F;replace F:=u;exact rb h F Z
  refine X1 7 0 h Z (qq Z F ?_ ?_)<;>intro F
  ·refine X1 4 0 h Z ?_;obtain⟨y6,_,F,D,_,_,_,_,b6,c3,rfl,z⟩:=(h.sl 1 Z).1.ix F;refine zx b6 c3 ⟨D.1,qK D.2.1 (h.sl 1 Z).2⟩ Z (zc 0 z Z (zp1 Z ?_));obtain⟨_,c7,F,H,_,_,_,_,J,L,rfl,A⟩:=(h.sl 1 Z).1.ix F;refine zx J L ⟨H.1,qK H.2.1 (h.sl 1 Z).2⟩ Z (qa3 qa 1 0 (W64 (y6+1)) h Z c7 J L Z A Z Z Z Z Z Z Z fun _ h=>X0 6 Z ?_);replace h:=h.p [1,2] Z;exact rK ⟨_,_,F,rfl,h⟩ Z
  refine X0 6 Z ?_;replace h:=h.p [1,2] Z;exact rK ⟨_,_,F,rfl,h⟩ Z
 refine qw Z ?_;obtain rfl:=qb F;replace F:=u;exact X0 3 Z (zcB h F (qfU (h.own 0 Z)) Z fun _ _ h F=>X0 3 Z (rb h F Z))
def qbY(c:Int)(b:qz):Nat->(List Tplace)->Int->Option ((List Tplace)×Int)|0,_,_=>U|n+1,d,a=>bif decide (a<(b.Ai.length:Int)) then(idx b.Ai a).bind fun g=>(appS d ([(⟨c,a,g,(a==(W64 ((b.Ai.length:Int)-1)))⟩:Tplace)]:List Tplace)).bind fun f=>qbY c b n f (W64 (a+1)) else V (d,a)
def qbV(d:qh):Nat->(List Tplace)->Int->Option ((List Tplace)×Int)|0,_,_=>U|n+1,b,a=>bif decide (a<(d.Af.length:Int)) then(idx d.Af a).bind fun c=>(appS b ([(⟨(-1),a,c.Bz,(c.Bw==1)⟩:Tplace)]:List Tplace)).bind fun f=>qbV d n f (W64 (a+1)) else V (b,a)
def qbS(d:qh):Nat->(List Tplace)->Int->Option ((List Tplace)×Int)|0,_,_=>U|n+1,b,a=>bif decide (a<(d.Ab.length:Int)) then(idx d.Ab a).bind fun f=>(qbY a f n b 0).bind fun(c,_)=>qbS d n c (W64 (a+1)) else V (b,a)
def qcD(n:Nat)(d:qh):Option (List Tplace):=(qbS d n ([]:List Tplace) 0).bind fun(a,_)=>(qbV d n a 0).bind fun(b,_)=>V b
theorem qeP{d:qh}(z:Ro w d cs1){r:(List Tplace)}(F:qcD n d=V r):RetV prog 85 [oV qh cs1] w r:=by
 obtain⟨p1,t,p2,k2,X,k3,rfl,s1,_,s3⟩:=qa0 z;refine zV 61 func85 Z fun h=>zSR (qJ h Z Z fun _ a h=>X1 14 0 h Z ?_);replace h:=h.nil (α:=Tplace);obtain⟨o1,F,v⟩:=qd F;refine qp (rL (fun m e w'=>∃S1 Y i R x1 b,qbS d m x1 b=V o1/\e=[(1,vp a),(3,oS Y i R),(11,oS p1 d.Ab.length t),(12,vi (d.Ab.length:Int)),(13,vi b)]/\SH w w' [oW S1 (x1:List Tplace) [oS Y i R],oX a (qax d p1 p2 X t k2 k3) 31]) n ⟨_,_,_,_,_,_,F,rfl,h⟩ Z ?_);rintro W _ _ ⟨S1,Y,i,R,x1,b,F,rfl,h⟩;obtain rfl:=(h.sl 0 Z).2;rcases W with _|W
 ·cases F
 refine X0 5 Z (qq Z F ?_ ?_)<;>intro F
 ·refine X0 6 Z ?_;obtain⟨o,_,F,D,_,_,_,_,J,M,P,A⟩:=s1.ix F;obtain⟨p5,k5,rfl,s4⟩:=qac P;refine zxe J M D Z (zc 0 (A.below h.below) Z (qi qa h Z Z Z fun _ p h=>zp1 Z (zs 0 h Z fun _ h=>X1 8 0 h Z ?_)));obtain⟨o2,F,x⟩:=qd F;refine qp (rL (fun m e w'=>∃S2 p6 k S x2 g,qbY b o m x2 g=V o2/\e=[(1,vp a),(3,oS p6 k S),(4,vi b),(5,vp p),(11,oS p1 d.Ab.length t),(12,vi (d.Ab.length:Int)),(13,vi b),(19,oS p5 o.Ai.length k5),(20,vi (o.Ai.length:Int)),(21,vi g)]/\SH w w' [oX p (qiE o p5 k5) 77,oW S2 (x2:List Tplace) [oS p6 k S],oX a (qax d p1 p2 X t k2 k3) 31]) W ⟨_,_,_,_,_,_,F,rfl,h⟩ Z ?_);rintro m2 _ _ ⟨S2,p6,k,S,x2,g,F,rfl,h⟩;obtain rfl:=(h.sl 1 Z).2;rcases m2 with _|m2
  ·cases F
  refine X0 5 Z (qq Z F ?_ ?_)<;>intro F
  ·refine X0 6 Z ?_;obtain⟨y2,_,F,H,_,_,_,_,K,N,rfl,B⟩:=s4.ix F;refine zxe K N H Z (zc 0 (B.below h.below) Z (X1 14 0 h Z (r_v (qy qa [0,1,2,3] [.tmp 27,.tmp 28,.tmp 29,.tmp 35] Z Z Z Z Z Z Z Z) Z (qt qa [.tmp 36] _ ([(⟨b,g,y2,(g==(W64 ((o.Ai.length:Int)-1)))⟩:Tplace)]:List Tplace) h Z Z Z Z Z Z Z Z Z ⟨(qkD (⟨b,g,y2,(g==(W64 ((o.Ai.length:Int)-1)))⟩:Tplace)),G⟩ Z fun _ _ _ h=>?_))));obtain⟨_,c,F⟩:=qd F;obtain⟨g1,c⟩:=qH c;refine qaC qa 2 h Z (h.sl 0 Z).1 (h.sl 0 Z).2 Z Z Z Z Z Z Z Z Z g1 c Z fun _ _ _ _ h=>X0 7 Z ?_;replace h:=h.p [1,2,3] Z;exact rK ⟨_,_,_,_,_,_,F,rfl,h⟩ Z
  refine qw Z ?_;obtain rfl:=qb F;replace F:=x;refine X0 5 Z ?_;replace h:=h.p [1,2] Z;exact rK ⟨_,_,_,_,_,_,F,rfl,h⟩ Z
 refine qw Z ?_;obtain rfl:=qb F;replace F:=v;refine X1 8 1 h Z ?_;obtain⟨o3,F,y⟩:=qd F;refine qp ?_;replace h:=h.p [0] Z;refine rL (fun m e w'=>∃S5 p9 l T x4 s,qbV d m x4 s=V o3/\e=[(3,oS p9 l T),(42,oS X d.Af.length k3),(43,vi (d.Af.length:Int)),(44,vi s)]/\SH w w' [oW S5 (x4:List Tplace) [oS p9 l T]]) n ⟨_,_,_,_,_,_,F,rfl,h⟩ Z ?_;rintro m3 _ _ ⟨S5,p9,l,T,x4,s,F,rfl,h⟩;obtain rfl:=(h.sl 0 Z).2;rcases m3 with _|m3
 ·cases F
 refine X0 5 Z (qq Z F ?_ ?_)<;>intro F
 ·refine X0 6 Z ?_;obtain⟨u,_,F,I,_,_,_,_,L,O,Q,C⟩:=s3.ix F;obtain rfl:=qeD Q;refine zxe L O I Z (zc 0 (C.below h.below) Z (qi qa h Z Z Z fun _ _ h=>zp1 Z (zs 0 h Z fun _ h=>X2 9 0 0 h Z (r_v (qy qa [0,1,2,3] [.const (vi (-1)),.tmp 50,.tmp 52,.tmp 55] Z Z Z Z Z Z Z Z) Z (qt qa [.tmp 56] _ ([(⟨(-1),s,u.Bz,(u.Bw==1)⟩:Tplace)]:List Tplace) h Z Z Z Z Z Z Z Z Z ⟨(qkD (⟨(-1),s,u.Bz,(u.Bw==1)⟩:Tplace)),G⟩ Z fun _ _ _ h=>?_)))));obtain⟨_,f,F⟩:=qd F;obtain⟨g2,f⟩:=qH f;refine qaC qa 2 h Z (h.sl 0 Z).1 (h.sl 0 Z).2 Z Z Z Z Z Z Z Z Z g2 f Z fun _ _ _ _ h=>X0 7 Z ?_;replace h:=h.p [2] Z;exact rK ⟨_,_,_,_,_,_,F,rfl,h⟩ Z
 refine qw Z ?_;obtain rfl:=qb F;replace F:=y;refine X0 5 Z ?_;obtain rfl:=qb F;exact rO 0 h Z ⟨rfl,G⟩
def qbo(f:qV):Nat->Int->Option (Flow Bool Int)|0,_=>U|n+1,a=>bif decide (a<(f.Ak.length:Int)) then(idx f.Ak a).bind fun b=>bif (a==0) then bif (b != (-1)) then V (.ret false) else(idx f.Bt 0).bind fun d=>bif (d != 0) then V (.ret false) else bif decide (a > 0) then(qaK n b 0 (W64 (a-1))).bind fun r1=>bif (!r1) then V (.ret false) else qbo f n (W64 (a+1)) else qbo f n (W64 (a+1)) else bif decide (a > 0) then(qaK n b 0 (W64 (a-1))).bind fun c=>bif (!c) then V (.ret false) else qbo f n (W64 (a+1)) else qbo f n (W64 (a+1)) else V (.nxt a)
def qgU(n:Nat)(a:qV):Option Bool:=(qbo a n 0).bind fun|.ret r=>V r|.nxt _=>V true
theorem ql8{D:qV}(c:Ro w D cs1){r:Bool}(F:qgU n D=V r):RetV prog 152 [oV qV cs1] w r:=by
 obtain⟨p1,u,A,x,B,k3,C,y,rfl,s1,s2,_,_⟩:=qbJ c;refine zV 38 func152 Z fun h=>zSR (qJ h Z Z fun _ b h=>X1 10 0 h Z ?_);obtain⟨z,F,a⟩:=qd F;refine qp (rL (fun m e w'=>∃s,qbo D m s=V z/\e=[(1,vp b),(6,oS p1 D.Ak.length u),(7,vi (D.Ak.length:Int)),(8,vi s)]/\SH w w' [oX b (qf8 D p1 A B C u x k3 y) 152]) n ⟨_,F,rfl,h⟩ Z ?_);rintro v _ _ ⟨s,F,rfl,h⟩;rcases v with _|v
 ·cases F
 refine X0 5 Z (qq Z F ?_ ?_)<;>intro F
 ·refine X0 6 Z ?_;obtain⟨_,_,F,g,_,_,_,_,k,o,rfl,d⟩:=s1.ix F;refine zxe k o g Z (zc 0 (d.below h.below) Z (X0 8 Z (qj (t:=15) F Z ?_ ?_)))<;>intro F
  ·refine X0 6 Z (qj (t:=18) F Z ?_ ?_)<;>intro F
   ·refine X0 20 Z (qbZ Z Z (X0 4 Z ?_));obtain rfl:=qb F;replace F:=a;exact rb h F Z
   refine X1 5 0 h Z ?_;obtain⟨_,_,F,i,_,_,_,_,l,p,rfl,f⟩:=s2.ix F;refine zxe l p i Z (X0 1 Z (zc 0 (f.below h.below) Z (X0 6 Z (qj (t:=26) F Z ?_ ?_))))<;>intro F
   ·refine X0 11 Z (qbZ Z Z (X0 4 Z ?_));obtain rfl:=qb F;replace F:=a;exact rb h F Z
   refine X0 6 Z (qj (t:=29) F Z ?_ ?_)<;>intro F
   ·refine X0 7 Z (zcB h F qaw Z fun _ _ h F=>X0 6 Z (qq Z F ?_ ?_))<;>intro F
    ·refine X0 4 Z ?_;obtain rfl:=qb F;replace F:=a;exact rb h F Z
    exact X0 6 Z (rK ⟨_,F,rfl,h⟩ Z)
   exact X0 9 Z (qdl Z Z (X0 6 Z (rK ⟨_,F,rfl,h⟩ Z)))
  refine X0 17 Z (qj (t:=29) F Z ?_ ?_)<;>intro F
  ·refine X0 7 Z (zcB h F qaw Z fun _ _ h F=>X0 6 Z (qq Z F ?_ ?_))<;>intro F
   ·refine X0 4 Z ?_;obtain rfl:=qb F;replace F:=a;exact rb h F Z
   exact X0 6 Z (rK ⟨_,F,rfl,h⟩ Z)
  exact X0 9 Z (qdl Z Z (X0 6 Z (rK ⟨_,F,rfl,h⟩ Z)))
 refine qw Z ?_;obtain rfl:=qb F;replace F:=a;exact X0 4 Z (rb h F Z)
def qjG(n:Nat)(k:qV)(sinks:Int):Option Bool:=(qaO n k.Ak).bind fun r1=>(qaK n r1 1 8).bind fun a=>bif a then(qaO n k.Bt).bind fun b=>bif (b==r1) then(qaO n k.Bp).bind fun c=>bif (c==r1) then(qgU n k).bind fun d=>bif d then(qcy n k.Bt 0 1000).bind fun f=>bif f then(qcy n k.Bp 0 500).bind fun g=>bif g then(qaO n k.Bc).bind fun h=>bif (h==sinks) then(qcy n k.Bc 0 (W64 (r1-1))).bind fun i=>V i else V false else V false else V false else V false else V false else V false else V false
theorem qoW{d:qV}{sinks}(a:Ro w d cs1){r:Bool}(F:qjG n d sinks=V r):RetV prog 86 [oV qV cs1,vi sinks] w r:=by
 obtain⟨_,_,_,_,_,_,_,_,rfl,s1,s2,b,c⟩:=qbJ a;refine zV 53 func86 Z fun h=>zSR (qJ h Z Z fun _ _ h=>X1 6 0 h Z (zcI h F (qbF ⟨_,_,rfl,(h.oldS s1)⟩) Z fun _ _ h F=>X0 5 Z (zcB h F qaw Z fun _ _ h F=>zp1 Z (qj (t:=11) F Z ?_ ?_))))<;>intro F
 ·refine X1 5 0 h Z (zcI h F (qbF ⟨_,_,rfl,(h.oldS s2)⟩) Z fun _ _ h F=>X0 6 Z (qj (t:=18) F Z ?_ ?_))<;>intro F
  ·refine X1 5 0 h Z (zcI h F (qbF ⟨_,_,rfl,(h.oldS b)⟩) Z fun _ _ h F=>X0 6 Z (qj (t:=25) F Z ?_ ?_))<;>intro F
   ·refine X1 3 0 h Z (zcB h F (ql8 (h.old a)) Z fun _ _ h F=>zp2 Z (qj (t:=29) F Z ?_ ?_))<;>intro F
    ·refine X1 5 0 h Z (zcB h F (qcT ⟨_,_,rfl,(h.oldS s2)⟩) Z fun _ _ h F=>zp2 Z (qj (t:=34) F Z ?_ ?_))<;>intro F
     ·refine X1 5 0 h Z (zcB h F (qcT ⟨_,_,rfl,(h.oldS b)⟩) Z fun _ _ h F=>zp2 Z (qj (t:=39) F Z ?_ ?_))<;>intro F
      ·refine X1 5 0 h Z (zcI h F (qbF ⟨_,_,rfl,(h.oldS c)⟩) Z fun _ _ h F=>X0 6 Z (qj (t:=46) F Z ?_ ?_))<;>intro F
       ·exact X1 9 0 h Z (zcB h F (qcT ⟨_,_,rfl,(h.oldS c)⟩) Z fun _ _ h F=>X0 3 Z (rb h F Z))
       exact X0 8 Z (rb h F Z)
      exact X0 15 Z (rb h F Z)
     exact X0 20 Z (rb h F Z)
    exact X0 25 Z (rb h F Z)
   exact X0 29 Z (rb h F Z)
  exact X0 36 Z (rb h F Z)
 exact X0 43 Z (rb h F Z)
def qe2(b:qe)(c:(List Int)):Nat->Int->Option (Flow Bool Int)|0,_=>U|n+1,a=>bif decide (a<(b.Ac.length:Int)) then(idx b.Ac a).bind fun f=>(idx c a).bind fun g=>(qjG n f g).bind fun d=>bif (!d) then V (.ret false) else qe2 b c n (W64 (a+1)) else V (.nxt a)
def qdd(r1:(List Tplace)):Nat->(List Int)->Int->Option ((List Int)×Int)|0,_,_=>U|n+1,b,a=>bif decide (a<(r1.length:Int)) then(idx r1 a).bind fun c=>bif (!c.drives) then(idx b c.net).bind fun d=>(idx b c.net).bind fun _=>qdd r1 n (setS b c.net (W64 (d+1))) (W64 (a+1)) else qdd r1 n b (W64 (a+1)) else V (b,a)
def qg0(n:Nat)(b:qe):Option Bool:=((qiu n (⟨b.Ah.Aj⟩:qr) (⟨b.Aa.Ab,b.Aa.Ai,b.Aa.Af⟩:qh)).bind fun a=>bif (!a) then V true else V ((b.Ac.length:Int) != (b.Aa.Ai.length:Int))).bind fun b1=>bif b1 then V false else(mkS (b.Ac.length:Int) (0:Int)).bind fun c=>(qcD n (⟨b.Aa.Ab,b.Aa.Ai,b.Aa.Af⟩:qh)).bind fun r1=>(qdd r1 n c 0).bind fun(d,_)=>(qe2 b d n 0).bind fun|.ret r=>V r|.nxt _=>V true
theorem qnY{b:qe}(A:Ro w b cs1){r:Bool}(F:qg0 n b=V r):RetV prog 31 [oV qe cs1] w r:=by
 obtain⟨p1,k1,p2,k2,p3,k3,p4,k4,p5,k5,rfl,s1,s2,s3,s4,s5⟩:=qX A;refine zV 63 func31 Z fun h=>zSR (qJ h Z Z fun _ a h=>X0 4 Z ?_);obtain⟨y,i,_,F,g⟩:=bindE F;refine qaP (fun e w'=>∃b1,y b1=V r/\e=[(1,vp a),(23,.bool b1)]/\SH w w' [oX a (qG b p1 p2 p3 p4 p5 k1 k2 k3 k4 k5) 34]) ?_ ?_
 ·refine X2 5 0 0 h Z (zcB h F (qm6 (qhP _ (h.oldS s1)) (qaF _ (h.oldS s2) (h.oldS s3) (h.oldS s4))) Z fun _ _ h F=>zp2 Z (qj (t:=14) F Z ?_ ?_))<;>intro F
  ·refine X0 10 Z ?_;obtain rfl:=qb F;exact rG ⟨_,g,rfl,h⟩ Z
  refine X2 18 0 0 h Z ?_;obtain rfl:=qb F;exact rG ⟨_,g,rfl,h⟩ Z
 rintro _ _ ⟨b1,F,rfl,h⟩;subst i;refine qq Z F ?_ ?_<;>intro F
 ·exact X0 4 Z (rb h F Z)
 refine X1 6 0 h Z ?_;obtain⟨c,d,F⟩:=qd F;obtain⟨g1,g2,d⟩:=qat d;refine qaM qa Int h Z Z Z Z Z Z Z Z Z g1 g2 d Z fun _ S1 x h=>X1 7 1 h Z (zcL h F (qeP (qaF _ (h.oldS s2) (h.oldS s3) (h.oldS s4))) Z fun r1 _ S2 p7 k6 h F=>X0 3 Z ?_);obtain⟨o1,F,z⟩:=qd F;refine qp (rL (fun m e w'=>∃v Y,qdd r1 m v Y=V o1/\e=[(1,vp a),(3,oS x c.length c.length),(30,oS p7 r1.length k6),(31,vi (r1.length:Int)),(32,vi Y)]/\SH w w' [oW S2 (r1:List Tplace) [oS p7 r1.length k6],oW S1 (v:List Int) [oS x c.length c.length],oX a (qG b p1 p2 p3 p4 p5 k1 k2 k3 k4 k5) 34]) n ⟨_,_,F,rfl,h⟩ Z ?_);rintro m1 _ _ ⟨v,Y,F,rfl,h⟩;rcases m1 with _|m1
 ·cases F
 refine X0 5 Z (qq Z F ?_ ?_)<;>intro F
 ·refine zKSBSR ?_;obtain⟨_,_,F,k,_,_,_,_,K,O,S,B⟩:=(h.sl 0 Z).1.ix F;obtain rfl:=qff S;refine zx K O ⟨k.1,qK k.2.1 (h.sl 0 Z).2⟩ Z (zc 0 B Z (qi qa h Z Z Z fun _ _ h=>zs 0 h Z fun _ h=>X1 7 0 h Z (qq Z F ?_ ?_)))<;>intro F
  ·refine X1 4 0 h Z ?_;obtain⟨y2,_,F,l,_,_,_,_,L,P,rfl,C⟩:=(h.sl 2 Z).1.ix F;refine zx L P ⟨l.1,qK l.2.1 (h.sl 2 Z).2⟩ Z (zc 0 C Z (zp1 Z ?_));obtain⟨_,X,F,o,_,_,_,_,s,u,rfl,D⟩:=(h.sl 2 Z).1.ix F;refine zx s u ⟨o.1,qK o.2.1 (h.sl 2 Z).2⟩ Z (qa3 qa 2 0 (W64 (y2+1)) h Z X s u Z D Z Z Z Z Z Z Z fun _ h=>X0 6 Z ?_);replace h:=h.p [1,2,3] Z;exact rK ⟨_,_,F,rfl,h⟩ Z
  refine X0 6 Z ?_;replace h:=h.p [1,2,3] Z;exact rK ⟨_,_,F,rfl,h⟩ Z
 refine qw Z ?_;obtain rfl:=qb F;replace F:=z;refine X1 8 2 h Z ?_;obtain⟨o2,F,f⟩:=qd F;refine qp ?_;replace h:=h.p [1] Z;refine rL (fun m e w'=>∃i2,qe2 b v m i2=V o2/\e=[(3,oS x c.length c.length),(48,oS p5 b.Ac.length k5),(49,vi (b.Ac.length:Int)),(50,vi i2)]/\SH w w' [oW S1 (v:List Int) [oS x c.length c.length]]) n ⟨_,F,rfl,h⟩ Z ?_;rintro m2 _ _ ⟨i2,F,rfl,h⟩;rcases m2 with _|m2
 ·cases F
 refine X0 5 Z (qq Z F ?_ ?_)<;>intro F
 ·refine X0 6 Z ?_;obtain⟨y4,_,F,J,_,_,_,_,M,Q,T,H⟩:=s5.ix F;obtain⟨_,_,_,_,_,_,_,_,rfl,s6,s7,s8,s9⟩:=qbJ T;refine zxe M Q J Z (zc 0 (H.below h.below) Z (qi qa h Z Z Z fun _ _ h=>zp1 Z (zs 0 h Z fun _ h=>zNS (rD (Y1 1 0 h Z ?_)))));refine zd2 Z ?_;obtain⟨_,_,F,p,_,_,_,_,N,R,rfl,I⟩:=(h.sl 1 Z).1.ix F;refine zdx N R ⟨p.1,qK p.2.1 (h.sl 1 Z).2⟩ Z (zdc 0 I Z ?_);obtain⟨r2,W,F⟩:=qd F;refine qcY r2 (vsB _) (cB 86 Z) (fun _ hb=>qoW (qpt y4 ((h.ext hb).oldS s6) ((h.ext hb).oldS s7) ((h.ext hb).oldS s8) ((h.ext hb).oldS s9)) W) Z Z Z Z (zd1 Z (dN h fun _ h=>qq Z F ?_ ?_))<;>intro F
  ·refine X0 4 Z ?_;obtain rfl:=qb F;replace F:=f;exact rb h F Z
  refine X0 6 Z ?_;replace h:=h.p [1] Z;exact rK ⟨_,F,rfl,h⟩ Z
 refine qw Z ?_;obtain rfl:=qb F;replace F:=f;exact X0 4 Z (rb h F Z)
end Go.Fw
