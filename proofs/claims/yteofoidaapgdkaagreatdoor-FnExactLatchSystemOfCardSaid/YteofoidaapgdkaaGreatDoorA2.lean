/- Calls that hand out parts of memory one by one: what is owned stays apart. -/
import Derived.Test.YteofoidaapgdkaaGreatDoorFw38
import Derived.Sort.Grow
import Derived.Lib.SlicesCompact
import Derived.Test.YteofoidaapgdkaaGreatDoorChecked
import Derived.Test.YteofoidaapgdkaaGreatDoorS1
open Option renaming bind_some → jd, some → V, none → U
open Nat renaming le_refl → je, le_of_ble_eq_true → jr, mul_le_mul_right → js, lt_of_lt_of_le → jv, succ_mul → jM, zero_add → Jg
open Bool renaming and_eq_true → jf, eq_iff_iff → jj, not_eq_true' → jD, true_and → jG, not_true → jW
open Go.Result renaming andThen_ok → jg
open List renaming length_append → jh, getElem?_eq_getElem → ji, mem_cons_of_mem → jn, getElem_mem → jo, append_assoc → jp, length_singleton → jt, length_map → ju, getElem?_append_left → jw, mem_cons_self → jx, take_succ_eq_append_getElem → jy, getElem?_take → jz, length_cons → jA, getElem?_append_right → jB, getD_eq_getElem?_getD → jC, getElem?_toArray → jE, map_append → jF, take_length → jH, eq_nil_of_length_eq_zero → jK, drop_eq_getElem_cons → jL, all_eq_true → jN, not_mem_nil → jO, getElem_of_mem → jP, length_replicate → jQ, size_toArray → jR, mem_of_getElem? → jS, mem_append_left → jT, length_nil → jV, append_nil → jX, ext_getElem → jZ, mem_cons → Jb, getElem?_map → Jc, range_succ → Je, length_take → Jf
open Go.Sem renaming run_bind → jk, run_pure → jm
open Int renaming toNat_natCast → jq, tdiv_eq_ediv_of_nonneg → jJ, mul_nonneg → jU, le_refl → jY, mul_assoc → Ja, mul_le_mul → Jd
open Array renaming getElem?_append_left → jI

namespace Go.Fw
open Go
open Go.RowKit (Below)
section
variable {P:Program}{T:Tab}{n:Nat}{Q:Exit→Act→World→Prop}{k:List It}{e:Env}{w0 w w':World}{L L':List Ch}
theorem SH.append (h:SH w0 w L)(hL:SH w w' L')(hD:∀ c,c ∈ L'→∀ b,c.D b→b<w0.heap.size):SH w0 w' (L'++L):=by
 have h':=h.ext hL.below;refine⟨h'.below,fun c hc=>?_,fun c hc=>?_,?_⟩
 ·rcases List.mem_append.1 hc with hc|hc
  ·obtain⟨p,s⟩:=hL.holds c hc;exact⟨p,fun b hb=>⟨Nat.le_trans h.below.size (s b hb).1,(s b hb).2⟩⟩
  ·exact h'.holds c hc
 ·rcases List.mem_append.1 hc with hc|hc
  ·exact hD c hc
  ·exact h.elder c hc
 ·refine List.pairwise_append.2 ⟨hL.apart,h.apart,fun c hc d hd b hcb hdb=>?_⟩;have h1:=((hL.holds c hc).2 b hcb).1;have h2:=((h.holds d hd).2 b hdb).2;omega
theorem SH.appendN (h:SH w0 w L)(hL:SH w w' L')(hD:NoD L'):SH w0 w' (L'++L):=
 SH.append h hL fun c hc b hb=>absurd hb (NoD.all hD c hc b)
def RetZ (P:Program)(f:FuncId)(vs:List Value)(w:World)(Φ:List Value→List Ch→Prop):Prop:=
 Calls P f vs.toArray w fun e w'=>∃ v,e=.returned v∧Below w.heap.size w w'∧∃ us L,v=tup us∧SH w w' L∧Φ us L
theorem qvg {Φ:List Value→List Ch→Prop}{all:Array Oper}{l:List Oper}{d ty:Nat}{ps:String}{af:Array Edge}{x:Operand}{args:Array Operand}{ats:Array TypeId}{f:FuncId}{fi ca:Array Value}{az vs:List Value}
  (hcall:qeS P f) (hc:RetZ P f vs w Φ) (hx:opv e x=V (.func (.func f) fi ca)) (hargs:opvs e args.toList=V az) (hvs:fi.toList++az++ca.toList=vs) (hn:Nat.blt d n=true)
  (hk:∀ w' us L',SH w w' L'→Φ us L'→Run P n Q (.ops all l::k) ((d,tup us)::e) w') :
  Run P n Q (.ops all (⟨V d,.call ⟨.value x,args,ats⟩,ty,ps,af,U⟩::l)::k) e w:=by
 subst hvs;refine qmy (R:=fun v w'=>Below w.heap.size w w'∧∃ us L,v=tup us∧SH w w' L∧Φ us L) Z Z hn (fun a ha=>qiD ha hcall hx hargs w) hc ?_;rintro v w' ⟨_,us,L',rfl,hL,hv⟩;exact hk w' us L' hL hv
theorem qpR {f:FuncId}{fn:Func}{c:Code}{vs:List Value}{Φ:List Value→List Ch→Prop}{m:Nat}(hf:P.funcs[f]?=V fn)(hb:fn.body=V c)(hm:fn.ntmps=m)(hn:Nat.ble vs.length m=true)
  (h:SH w w []→Run P m (bodyPost P fn fun e w'=>∃ v,e=.returned v∧Below w.heap.size w w'∧∃ us L,v=tup us∧SH w w' L∧Φ us L) [.code c] (argEnv 0 vs) w):RetZ P f vs w Φ:=by
 subst hm;have hn':=jr hn;refine calls_of_wp hf hb ?_;have hr:=h (SH.start w);have hag:Agree fn.ntmps (argEnv 0 vs) { tmps:=vs.toArray++Array.replicate (fn.ntmps-vs.toArray.size) undef,defers:=[] }:=by
  refine⟨rfl,by simp;omega,fun i v hi=>?_⟩;obtain⟨_,h2⟩:=qiw vs 0 i v hi;simp only[Nat.sub_zero] at h2;have hlt:=(List.getElem?_eq_some_iff.1 h2).1;rw[jI (by simpa using hlt)];simpa using h2
 have h1:=hr _ hag;refine wp_mono h1 ?_;intro ex a' w' hq;cases ex<;>exact hq
theorem qxC (hT:TabOk P T){fn:Func}{Φ:List Value→List Ch→Prop}(us:List Value)(h:SH w0 w L)(hr:ResOk T e w fn.results.toList us)(hv:Φ us L) :
  Run P n (bodyPost P fn fun e w'=>∃ v,e=.returned v∧Below w0.heap.size w0 w'∧∃ us L,v=tup us∧SH w0 w' L∧Φ us L) (.code .ret::k) e w:=
 qr2 fun _ ha=>⟨ha.defers,tup us,qgj hT ha hr,tup us,rfl,h.below,us,L,rfl,h,hv⟩
end
end Go.Fw


namespace Go.Fw
open Go Go.Sort
open Go.RowKit (Below)
section
variable {P:Program}{T:Tab}{n:Nat}{Q:Exit→Act→World→Prop}{k:List It}{e:Env}{w0 w w':World}{L L':List Ch}
end
end Go.Fw


namespace Go.Fw
open Go
open Go.RowKit (Below)
section
variable {w0 w w':World}{L:List Ch}{α:Type}[GoT α]
def RAll (w:World)(A:Nat→Prop):List α→List (Raw α)→Prop
 | [],[]=>True
 | x::xs,r::rs=>GoT.R w A x r.cs∧RAll w A xs rs
 | _,_=>False
theorem RAll.at {A:Nat→Prop}:∀ {xs:List α} {rs:List (Raw α)},RAll w A xs rs→xs.length=rs.length∧∀ (i:Nat) x,xs[i]?=V x→∃ r,rs[i]?=V r∧GoT.R w A x r.cs
 | [],[],_=>⟨rfl,fun i x h=>by simp at h⟩
 | x::xs,[],h=>h.elim
 | [],r::rs,h=>h.elim
 | x::xs,r::rs,h=>by
  obtain⟨hl,ha⟩:=RAll.at h.2;refine⟨by simp[hl],fun i y hy=>?_⟩;cases i with
  | zero=>simp only[List.getElem?_cons_zero,Option.some.injEq] at hy ⊢;subst hy;exact⟨r,rfl,h.1⟩
  | succ i=>simp only[List.getElem?_cons_succ] at hy ⊢;exact ha i y hy
end
end Go.Fw


namespace Go.Fw
open Go
end Go.Fw


namespace Go.Fw
open Go
open Go.RowKit (Below)
section
variable {P:Program}{T:Tab}{n:Nat}{Q:Exit→Act→World→Prop}{k:List It}{e:Env}{w0 w:World}{L:List Ch}
variable {α:Type}[GoT α]{S S1:Nat→Prop}{xs ys:List α}{p p':Option Addr}{c c':Nat}
end
section
variable {α β γ:Type}
def Emp (o:Option (List α)):Prop:=∀ r,o=V r→r=[]
theorem Emp.none:Emp (U:Option (List α)):=fun _ h=>by cases h
theorem Emp.noneB {f:β→Option (List α)}:Emp ((Option.none:Option β).bind f):=fun _ h=>by cases h
theorem Emp.nil:Emp (V ([]:List α)):=fun _ h=>(Option.some.inj h).symm
theorem Emp.bif {c:Bool}{a b:Option (List α)}(h1:Emp a)(h2:Emp b):Emp (bif c then a else b):=by cases c<;>assumption
theorem Emp.sub {xs:List β}{lo:Int}{f:List β→Option (List α)}(h:Emp (f [])):Emp ((subS xs lo ((0:Nat):Int)).bind f):=fun r hr=>by
 cases hs:subS xs lo ((0:Nat):Int) with
 | none=>rw[hs] at hr;cases hr
 | some y=>
  rw[hs] at hr;obtain⟨_,_,_,e⟩:=qpp hs;have:y=[]:=by rw[←e];simp
  subst this;exact h r hr
theorem Emp.bind {x:Option β}{f:β→Option (List α)}(h:∀ y,Emp (f y)):Emp (x.bind f):=by
 cases x with
 | none=>exact Emp.noneB
 | some y=>exact h y
end
end Go.Fw


namespace Go.Fw
open Go
section
variable {ε:Type}
def innI (rc bad:Nat→Bool)(mk:Nat→ε):Nat→Nat→List ε→Option (List ε)
 | 0,_,acc=>V acc
 | m+1,j,acc=>bif rc j then bif bad j then U else innI rc bad mk m (j+1) (acc++[mk j]) else innI rc bad mk m (j+1) acc
def innS (cap:Nat)(rc bad:Nat→Bool)(mk:Nat→ε):Nat→Nat→List ε→Option (List ε)
 | 0,_,out=>V out
 | m+1,j,out=>bif rc j then bif bad j || (out.length==cap) then U else innS cap rc bad mk m (j+1) (out++[mk j]) else innS cap rc bad mk m (j+1) out
def capL (cap:Nat)(o:Option (List ε)):Option (List ε):=o.bind fun l=>if l.length≤cap then V l else U
theorem qtT {rc bad:Nat→Bool}{mk:Nat→ε}:∀ m j (acc:List ε),innI rc bad mk m j acc=(innI rc bad mk m j []).map (acc++·):=by
 intro m
 induction m with
 | zero=>intro j acc;simp[innI]
 | succ m ih=>
  intro j acc;unfold innI;cases rc j
  ·exact ih (j+1) acc
  ·cases bad j
   ·simp only[cond_true,cond_false];rw[ih (j+1) (acc++[mk j]),ih (j+1) ([]++[mk j]),Option.map_map]
    congr 1
    funext l
    simp
   ·rfl
theorem qwl {cap:Nat}{out:List ε}{o:Option (List ε)}(h:cap<out.length):capL cap (o.map (out++·))=U:=by
 cases o with
 | none=>rfl
 | some l=>
  show(if (out++l).length≤cap then V (out++l) else U)=U;rw[if_neg (by rw[jh];omega)]
theorem qyh {cap:Nat}{rc bad:Nat→Bool}{mk:Nat→ε}:∀ m j (out:List ε),out.length≤cap→innS cap rc bad mk m j out=capL cap ((innI rc bad mk m j []).map (out++·)):=by
 intro m
 induction m with
 | zero=>intro j out h;simp[innS,innI,capL,h]
 | succ m ih=>
  intro j out h;unfold innS innI;cases rc j
  ·exact ih (j+1) out h
  ·cases hb:bad j
   ·cases hl:out.length==cap
    ·have hl':out.length ≠ cap:=by simpa using hl
     simp only[cond_true,cond_false,Bool.or_false];rw[ih (j+1) (out++[mk j]) (by rw[jh];simp only[jA,jV];omega),qtT m (j+1) ([]++[mk j]),Option.map_map]
     congr 2
     funext l
     simp
    ·have hl':out.length=cap:=by simpa using hl
     simp only[cond_true,cond_false,Bool.or_true];rw[qtT m (j+1) ([]++[mk j]),Option.map_map];have e:((fun x=>out++x) ∘ fun x=>[]++[mk j]++x)=fun x:List ε=>(out++[mk j])++x:=by funext l;simp
     rw[e,qwl (by rw[jh];simp only[jA,jV];omega)]
   ·simp only[cond_true,Bool.true_or]
    rfl
def outI (row:Nat→Option (List ε)):Nat→Nat→List ε→Option (List ε)
 | 0,_,acc=>V acc
 | m+1,i,acc=>(row i).bind fun l=>outI row m (i+1) (acc++l)
def outS (row:Nat→List ε→Option (List ε)):Nat→Nat→List ε→Option (List ε)
 | 0,_,out=>V out
 | m+1,i,out=>(row i out).bind fun o=>outS row m (i+1) o
theorem qvD {row:Nat→Option (List ε)}{cap:Nat}:∀ m i (acc:List ε),cap<acc.length→capL cap (outI row m i acc)=U:=by
 intro m
 induction m with
 | zero=>intro i acc h;show(if acc.length≤cap then V acc else U)=U;rw[if_neg (by omega)]
 | succ m ih=>
  intro i acc h;unfold outI;cases row i with
  | none=>rfl
  | some l=>exact ih (i+1) (acc++l) (by rw[jh];omega)
theorem qyg {row:Nat→Option (List ε)}{rowS:Nat→List ε→Option (List ε)}{cap:Nat}(h:∀ i out,out.length≤cap→rowS i out=capL cap ((row i).map (out++·))) :
  ∀ m i (out:List ε),out.length≤cap→outS rowS m i out=capL cap (outI row m i out):=by
 intro m
 induction m with
 | zero=>intro i out ho;show V out=(if out.length≤cap then V out else U);rw[if_pos ho]
 | succ m ih=>
  intro i out ho;unfold outS outI;rw[h i out ho];cases row i with
  | none=>rfl
  | some l=>
   show(if (out++l).length≤cap then V (out++l) else U).bind _=capL cap (outI row m (i+1) (out++l));by_cases hl:(out++l).length≤cap
   ·rw[if_pos hl];exact ih (i+1) (out++l) hl
   ·rw[if_neg hl,qvD m (i+1) (out++l) (by omega)];rfl
variable {ρ σ τ:Type}
def flowO (bad:ρ)(fin:List ε→σ):Option (List ε)→Flow ρ σ
 | none=>.ret bad
 | some l=>.nxt (fin l)
theorem qyO {Lf:Nat→τ→Int→Option (Flow ρ σ)}{St:Nat→List ε→τ}{rc bd:Nat→Bool}{mk:Nat→ε}{len:Nat}{bad:ρ}{fin:List ε→σ}
  (hend:∀ n acc,Lf (n+1) (St len acc) (len:Int)=V (.nxt (fin acc)))
  (hstep:∀ j acc,j<len→acc.length≤j→∀ X,(rc j=false→Ev (fun n=>Lf n (St (j+1) acc) ((j+1:Nat):Int)) X)→(rc j=true→bd j=true→X=.ret bad) →
   (rc j=true→bd j=false→Ev (fun n=>Lf n (St (j+1) (acc++[mk j])) ((j+1:Nat):Int)) X)→Ev (fun n=>Lf (n+1) (St j acc) (j:Int)) X) :
  ∀ m j acc,j+m=len→acc.length≤j→Ev (fun n=>Lf n (St j acc) (j:Int)) (flowO bad fin (innI rc bd mk m j acc)):=by
 intro m
 induction m with
 | zero=>
  intro j acc hj _;obtain rfl:j=len:=by omega
  exact Ev.step (fun n=>hend n acc) .done
 | succ m ih=>
  intro j acc hj ha;refine Ev.succ (hstep j acc (by omega) ha _ (fun h1=>?_) (fun h1 h2=>?_) (fun h1 h2=>?_))
  ·have e:innI rc bd mk (m+1) j acc=innI rc bd mk m (j+1) acc:=by rw[innI,h1];rfl
   rw[e];exact ih (j+1) acc (by omega) (by omega)
  ·have e:innI rc bd mk (m+1) j acc=U:=by rw[innI,h1,h2];rfl
   rw[e];rfl
  ·have e:innI rc bd mk (m+1) j acc=innI rc bd mk m (j+1) (acc++[mk j]):=by rw[innI,h1,h2];rfl
   rw[e];exact ih (j+1) _ (by omega) (by rw[jh];simp only[jA,jV];omega)
theorem qxZ {Lf:Nat→τ→Int→Option (Flow ρ σ)}{St:Nat→List ε→τ}{cap:Nat}{rc bd:Nat→Bool}{mk:Nat→ε}{len:Nat}{bad:ρ}{fin:List ε→σ}
  (hend:∀ n out,Lf (n+1) (St len out) (len:Int)=V (.nxt (fin out)))
  (hstep:∀ j out,j<len→out.length≤cap→∀ X,(rc j=false→Ev (fun n=>Lf n (St (j+1) out) ((j+1:Nat):Int)) X)→(rc j=true→(bd j || (out.length==cap))=true→X=.ret bad) →
   (rc j=true→(bd j || (out.length==cap))=false→Ev (fun n=>Lf n (St (j+1) (out++[mk j])) ((j+1:Nat):Int)) X)→Ev (fun n=>Lf (n+1) (St j out) (j:Int)) X) :
  ∀ m j out,j+m=len→out.length≤cap→Ev (fun n=>Lf n (St j out) (j:Int)) (flowO bad fin (innS cap rc bd mk m j out)):=by
 intro m
 induction m with
 | zero=>
  intro j out hj _;obtain rfl:j=len:=by omega
  exact Ev.step (fun n=>hend n out) .done
 | succ m ih=>
  intro j out hj ha;refine Ev.succ (hstep j out (by omega) ha _ (fun h1=>?_) (fun h1 h2=>?_) (fun h1 h2=>?_))
  ·have e:innS cap rc bd mk (m+1) j out=innS cap rc bd mk m (j+1) out:=by rw[innS,h1];rfl
   rw[e];exact ih (j+1) out (by omega) ha
  ·have e:innS cap rc bd mk (m+1) j out=U:=by rw[innS,h1,h2];rfl
   rw[e];rfl
  ·have e:innS cap rc bd mk (m+1) j out=innS cap rc bd mk m (j+1) (out++[mk j]):=by rw[innS,h1,h2];rfl
   have hl:out.length ≠ cap:=by
    rw[Bool.or_eq_false_iff] at h2;simpa using h2.2
   rw[e];exact ih (j+1) _ (by omega) (by rw[jh];simp only[jA,jV];omega)
theorem qx9 {Lf:Nat→τ→Int→Option (Flow ρ σ)}{St:Nat→List ε→τ}{row:Nat→Option (List ε)}{len c:Nat}{bad:ρ}{fin:List ε→σ}(hr:∀ i l,row i=V l→l.length≤c)
  (hend:∀ n acc,Lf (n+1) (St len acc) (len:Int)=V (.nxt (fin acc)))
  (hstep:∀ i acc,i<len→acc.length≤c*i→∀ X,(row i=U→X=.ret bad)→(∀ l,row i=V l→Ev (fun n=>Lf n (St (i+1) (acc++l)) ((i+1:Nat):Int)) X)→Ev (fun n=>Lf (n+1) (St i acc) (i:Int)) X) :
  ∀ m i acc,i+m=len→acc.length≤c*i→Ev (fun n=>Lf n (St i acc) (i:Int)) (flowO bad fin (outI row m i acc)):=by
 intro m
 induction m with
 | zero=>
  intro i acc hi _;obtain rfl:i=len:=by omega
  exact Ev.step (fun n=>hend n acc) .done
 | succ m ih=>
  intro i acc hi ha;refine Ev.succ (hstep i acc (by omega) ha _ (fun h1=>?_) (fun l h1=>?_))
  ·have e:outI row (m+1) i acc=U:=by rw[outI,h1];rfl
   rw[e];rfl
  ·have e:outI row (m+1) i acc=outI row m (i+1) (acc++l):=by rw[outI,h1];rfl
   rw[e];have:=hr i l h1;exact ih (i+1) _ (by omega) (by rw[jh,Nat.mul_succ];omega)
theorem qyT {Lf:Nat→τ→Int→Option (Flow ρ σ)}{St:Nat→List ε→τ}{cap:Nat}{row:Nat→List ε→Option (List ε)}{len:Nat}{bad:ρ}{fin:List ε→σ}(hr:∀ i out o,row i out=V o→o.length≤cap)
  (hend:∀ n out,Lf (n+1) (St len out) (len:Int)=V (.nxt (fin out)))
  (hstep:∀ i out,i<len→out.length≤cap→∀ X,(row i out=U→X=.ret bad)→(∀ o,row i out=V o→Ev (fun n=>Lf n (St (i+1) o) ((i+1:Nat):Int)) X)→Ev (fun n=>Lf (n+1) (St i out) (i:Int)) X) :
  ∀ m i out,i+m=len→out.length≤cap→Ev (fun n=>Lf n (St i out) (i:Int)) (flowO bad fin (outS row m i out)):=by
 intro m
 induction m with
 | zero=>
  intro i out hi _;obtain rfl:i=len:=by omega
  exact Ev.step (fun n=>hend n out) .done
 | succ m ih=>
  intro i out hi ha;refine Ev.succ (hstep i out (by omega) ha _ (fun h1=>?_) (fun o h1=>?_))
  ·have e:outS row (m+1) i out=U:=by rw[outS,h1];rfl
   rw[e];rfl
  ·have e:outS row (m+1) i out=outS row m (i+1) o:=by rw[outS,h1];rfl
   rw[e];exact ih (i+1) _ (by omega) (hr i out o h1)
end
end Go.Fw


namespace Go.Fw
open Go Go.Proofs Go.Proofs.Tryz
open Go.RowKit (Below)
set_option maxRecDepth 100000
set_option maxHeartbeats 1600000
variable {n:Nat}{w:World}{S:Nat→Prop}{cs1 cs2 cs3 cs4 cs5 cs6 cs7 cs8 cs9:List Value}
structure qam where
 Au:ByteArray
 Bu:Int
 Br:Int
 Bo:Bool
instance gt_TPin:GoT qam:=isoT (pairT instStr (pairT instInt (pairT instInt instBool))) (fun x=>(x.Au,x.Bu,x.Br,x.Bo)) ⟨ByteArray.empty,0,0,false⟩ Z true (fun h=>by cases h)
instance fl_TPin:Flat qam:=qfz (pairT instStr (pairT instInt (pairT instInt instBool))) (fun x:qam=>(x.Au,x.Bu,x.Br,x.Bo)) ⟨ByteArray.empty,0,0,false⟩ Z true (fun h=>by cases h) (qaH _ _ (inferInstanceAs (Flat ByteArray)) (qaH _ _ (inferInstanceAs (Flat Int)) (qaH _ _ (inferInstanceAs (Flat Int)) (inferInstanceAs (Flat Bool)))))
abbrev qo4 (x:qam):List Value:=[.string x.Au,.int .i64 x.Bu,.int .i64 x.Br,.bool x.Bo]
theorem qaV {x:qam}{cs:List Value}(h:GoT.R w S x cs):cs=(qo4 x):=by
 obtain⟨_,_,rfl,rfl,⟨_,_,rfl,rfl,⟨_,_,rfl,rfl,rfl⟩⟩⟩:=h;exact Z
theorem qee (x:qam):GoT.R w S x (qo4 x):=have h:=pR (rT x.Au) (pR (rI x.Bu) (pR (rI x.Br) (rB x.Bo)));h
structure qu where
 Bl:(List Int)
 Bd:(List Int)
 Az:(List Int)
instance gt_TTable:GoT qu:=isoT (pairT (@instList Int instInt) (pairT (@instList Int instInt) (@instList Int instInt))) (fun x=>(x.Bl,x.Bd,x.Az)) ⟨[],[],[]⟩ Z true (fun h=>by cases h)
abbrev qhf (x:qu)(p0 p1 p2:Option Addr)(k0 k1 k2:Nat):List Value:=[.slice p0 (x.Bl).length k0,.slice p1 (x.Bd).length k1,.slice p2 (x.Az).length k2]
theorem qaJ {x:qu}{cs:List Value}(h:GoT.R w S x cs):∃ p0 k0 p1 k1 p2 k2,cs=(qhf x p0 p1 p2 k0 k1 k2)∧SlR w S x.Bl p0 k0∧SlR w S x.Bd p1 k1∧SlR w S x.Az p2 k2:=by
 obtain⟨_,_,rfl,⟨p0,k0,rfl,s0⟩,⟨_,_,rfl,⟨p1,k1,rfl,s1⟩,⟨p2,k2,rfl,s2⟩⟩⟩:=h;exact⟨p0,k0,p1,k1,p2,k2,rfl,s0,s1,s2⟩
theorem qfE (x:qu){p0 p1 p2:Option Addr}{k0 k1 k2:Nat}(s0:SlR w S x.Bl p0 k0)(s1:SlR w S x.Bd p1 k1)(s2:SlR w S x.Az p2 k2):GoT.R w S x (qhf x p0 p1 p2 k0 k1 k2):=have h:=pR (rS s0) (pR (rS s1) (rS s2));h
theorem qtf {w0:World}{L:List Ch}{x:qu}{p0 p1 p2:Option Addr}{l0 k0 l1 k1 l2 k2:Nat}(h:SH w0 w (Ch.own S x [.slice p0 l0 k0,.slice p1 l1 k1,.slice p2 l2 k2]::L)):∃ S0 S1 S2,SH w0 w (Ch.own S2 x.Az [.slice p2 l2 k2]::Ch.own S1 x.Bd [.slice p1 l1 k1]::Ch.own S0 x.Bl [.slice p0 l0 k0]::L):=by
 obtain⟨hv,ho⟩:=h.headV;replace ho:GoT.O w S x _:=ho;obtain⟨A0,B0,_,_,he,o0,ho,a0,b0⟩:=ho;obtain⟨q,m,rfl,s0⟩:=o0;cases he;replace hv:=hv.push (c:=Ch.own A0 x.Bl [_]) (S2:=B0) ⟨_,_,rfl,s0⟩ (fun _ hd=>hd.elim) a0 b0;obtain⟨A1,B1,_,_,he,o1,ho,a1,b1⟩:=ho;obtain⟨q,m,rfl,s1⟩:=o1;cases he;replace hv:=hv.push (c:=Ch.own A1 x.Bd [_]) (S2:=B1) ⟨_,_,rfl,s1⟩ (fun _ hd=>hd.elim) a1 b1;obtain⟨q,m,he,s2⟩:=ho;cases he;replace hv:=hv.push (c:=Ch.own B1 x.Az [_]) (S2:=(fun _=>False)) ⟨_,_,rfl,s2⟩ (fun _ hd=>hd.elim) (fun b hb=>⟨hb,fun h=>h⟩) (fun _ h=>h.elim);exact⟨A0,A1,B1,hv.sh⟩
theorem qrR {w0:World}{L:List Ch}(x:qu){I0 I1 I2:List Nat}{c0 c1 c2:List Value}(h:SH w0 w L)(h0:PO w L I0 x.Bl c0)(h1:PO w L I1 x.Bd c1)(h2:PO w L I2 x.Az c2)(b0:apartB I0 (I1++I2)=true)(b1:apartB I1 I2=true):PO w L (I0++(I1++I2)) x (c0++(c1++c2)):=
 (qcu h h0 (qcu h h1 h2 b1) b0)
structure qH where
 Aq:Int
 Bc:Int
 To:Int
 Bn:Int
 Bk:(List qu)
 Ba:(List qu)
instance gt_TArc:GoT qH:=isoT (pairT instInt (pairT instInt (pairT instInt (pairT instInt (pairT (@instList qu gt_TTable) (@instList qu gt_TTable)))))) (fun x=>(x.Aq,x.Bc,x.To,x.Bn,x.Bk,x.Ba)) ⟨0,0,0,0,[],[]⟩ Z true (fun h=>by cases h)
abbrev qhc (x:qH)(p0 p1:Option Addr)(k0 k1:Nat):List Value:=[.int .i64 x.Aq,.int .i64 x.Bc,.int .i64 x.To,.int .i64 x.Bn,.slice p0 (x.Bk).length k0,.slice p1 (x.Ba).length k1]
theorem qX {x:qH}{cs:List Value}(h:GoT.R w S x cs):∃ p0 k0 p1 k1,cs=(qhc x p0 p1 k0 k1)∧SlR w S x.Bk p0 k0∧SlR w S x.Ba p1 k1:=by
 obtain⟨_,_,rfl,rfl,⟨_,_,rfl,rfl,⟨_,_,rfl,rfl,⟨_,_,rfl,rfl,⟨_,_,rfl,⟨p0,k0,rfl,s0⟩,⟨p1,k1,rfl,s1⟩⟩⟩⟩⟩⟩:=h;exact⟨p0,k0,p1,k1,rfl,s0,s1⟩
theorem qfo (x:qH){p0 p1:Option Addr}{k0 k1:Nat}(s0:SlR w S x.Bk p0 k0)(s1:SlR w S x.Ba p1 k1):GoT.R w S x (qhc x p0 p1 k0 k1):=have h:=pR (rI x.Aq) (pR (rI x.Bc) (pR (rI x.To) (pR (rI x.Bn) (pR (rS s0) (rS s1)))));h
theorem quU {w0:World}{L:List Ch}{x:qH}{p0 p1:Option Addr}{l0 k0 l1 k1:Nat}(h:SH w0 w (Ch.own S x [.int .i64 x.Aq,.int .i64 x.Bc,.int .i64 x.To,.int .i64 x.Bn,.slice p0 l0 k0,.slice p1 l1 k1]::L)):∃ S0 S1,SH w0 w (Ch.own S1 x.Ba [.slice p1 l1 k1]::Ch.own S0 x.Bk [.slice p0 l0 k0]::L):=by
 obtain⟨hv,ho⟩:=h.headV;replace ho:GoT.O w S x _:=ho;obtain⟨_,_,_,_,he,o0,ho,_,b0⟩:=ho;obtain rfl:=o0;cases he;replace hv:=hv.less b0;obtain⟨_,_,_,_,he,o1,ho,_,b1⟩:=ho;obtain rfl:=o1;cases he;replace hv:=hv.less b1;obtain⟨_,_,_,_,he,o2,ho,_,b2⟩:=ho;obtain rfl:=o2;cases he;replace hv:=hv.less b2;obtain⟨_,_,_,_,he,o3,ho,_,b3⟩:=ho;obtain rfl:=o3;cases he;replace hv:=hv.less b3;obtain⟨A4,B4,_,_,he,o4,ho,a4,b4⟩:=ho;obtain⟨q,m,rfl,s0⟩:=o4;cases he;replace hv:=hv.push (c:=Ch.own A4 x.Bk [_]) (S2:=B4) ⟨_,_,rfl,s0⟩ (fun _ hd=>hd.elim) a4 b4;obtain⟨q,m,he,s1⟩:=ho;cases he;replace hv:=hv.push (c:=Ch.own B4 x.Ba [_]) (S2:=(fun _=>False)) ⟨_,_,rfl,s1⟩ (fun _ hd=>hd.elim) (fun b hb=>⟨hb,fun h=>h⟩) (fun _ h=>h.elim);exact⟨A4,B4,hv.sh⟩
theorem qvk {w0:World}{L:List Ch}(x:qH){I0 I1 I2 I3 I4 I5:List Nat}{c0 c1 c2 c3 c4 c5:List Value}(h:SH w0 w L)(h0:PO w L I0 x.Aq c0)(h1:PO w L I1 x.Bc c1)(h2:PO w L I2 x.To c2)(h3:PO w L I3 x.Bn c3)(h4:PO w L I4 x.Bk c4)(h5:PO w L I5 x.Ba c5)(b0:apartB I0 (I1++(I2++(I3++(I4++I5))))=true)(b1:apartB I1 (I2++(I3++(I4++I5)))=true)(b2:apartB I2 (I3++(I4++I5))=true)(b3:apartB I3 (I4++I5)=true)(b4:apartB I4 I5=true):PO w L (I0++(I1++(I2++(I3++(I4++I5))))) x (c0++(c1++(c2++(c3++(c4++c5))))):=
 (qcu h h0 (qcu h h1 (qcu h h2 (qcu h h3 (qcu h h4 h5 b4) b3) b2) b1) b0)
structure qv where
 Au:ByteArray
 Aq:Int
 As:(List qam)
 Ak:(List qH)
 Bm:(List Int)
 Bz:Int
 Bs:Int
instance gt_TCell:GoT qv:=isoT (pairT instStr (pairT instInt (pairT (@instList qam gt_TPin) (pairT (@instList qH gt_TArc) (pairT (@instList Int instInt) (pairT instInt instInt)))))) (fun x=>(x.Au,x.Aq,x.As,x.Ak,x.Bm,x.Bz,x.Bs)) ⟨ByteArray.empty,0,[],[],[],0,0⟩ Z true (fun h=>by cases h)
abbrev qc2 (x:qv)(p0 p1 p2:Option Addr)(k0 k1 k2:Nat):List Value:=[.string x.Au,.int .i64 x.Aq,.slice p0 (x.As).length k0,.slice p1 (x.Ak).length k1,.slice p2 (x.Bm).length k2,.int .i64 x.Bz,.int .i64 x.Bs]
theorem qO {x:qv}{cs:List Value}(h:GoT.R w S x cs):∃ p0 k0 p1 k1 p2 k2,cs=(qc2 x p0 p1 p2 k0 k1 k2)∧SlR w S x.As p0 k0∧SlR w S x.Ak p1 k1∧SlR w S x.Bm p2 k2:=by
 obtain⟨_,_,rfl,rfl,⟨_,_,rfl,rfl,⟨_,_,rfl,⟨p0,k0,rfl,s0⟩,⟨_,_,rfl,⟨p1,k1,rfl,s1⟩,⟨_,_,rfl,⟨p2,k2,rfl,s2⟩,⟨_,_,rfl,rfl,rfl⟩⟩⟩⟩⟩⟩:=h;exact⟨p0,k0,p1,k1,p2,k2,rfl,s0,s1,s2⟩
theorem qjq (x:qv){p0 p1 p2:Option Addr}{k0 k1 k2:Nat}(s0:SlR w S x.As p0 k0)(s1:SlR w S x.Ak p1 k1)(s2:SlR w S x.Bm p2 k2):GoT.R w S x (qc2 x p0 p1 p2 k0 k1 k2):=have h:=pR (rT x.Au) (pR (rI x.Aq) (pR (rS s0) (pR (rS s1) (pR (rS s2) (pR (rI x.Bz) (rI x.Bs))))));h
theorem qrT {x:qv}{p0 p1 p2:Option Addr}{l0 k0 l1 k1 l2 k2:Nat}(h:GoT.R w S x [.string x.Au,.int .i64 x.Aq,.slice p0 l0 k0,.slice p1 l1 k1,.slice p2 l2 k2,.int .i64 x.Bz,.int .i64 x.Bs]):(SlR w S x.As p0 k0∧l0=(x.As).length)∧(SlR w S x.Ak p1 k1∧l1=(x.Ak).length)∧(SlR w S x.Bm p2 k2∧l2=(x.Bm).length):=by
 obtain⟨_,_,_,_,_,_,he,s0,s1,s2⟩:=qO h;cases he;exact⟨⟨s0,rfl⟩,⟨s1,rfl⟩,⟨s2,rfl⟩⟩
theorem qth {w0:World}{L:List Ch}{x:qv}{p0 p1 p2:Option Addr}{l0 k0 l1 k1 l2 k2:Nat}(h:SH w0 w (Ch.own S x [.string x.Au,.int .i64 x.Aq,.slice p0 l0 k0,.slice p1 l1 k1,.slice p2 l2 k2,.int .i64 x.Bz,.int .i64 x.Bs]::L)):∃ S0 S1 S2,SH w0 w (Ch.own S2 x.Bm [.slice p2 l2 k2]::Ch.own S1 x.Ak [.slice p1 l1 k1]::Ch.own S0 x.As [.slice p0 l0 k0]::L):=by
 obtain⟨hv,ho⟩:=h.headV;replace ho:GoT.O w S x _:=ho;obtain⟨_,_,_,_,he,o0,ho,_,b0⟩:=ho;obtain rfl:=o0;cases he;replace hv:=hv.less b0;obtain⟨_,_,_,_,he,o1,ho,_,b1⟩:=ho;obtain rfl:=o1;cases he;replace hv:=hv.less b1;obtain⟨A2,B2,_,_,he,o2,ho,a2,b2⟩:=ho;obtain⟨q,m,rfl,s0⟩:=o2;cases he;replace hv:=hv.push (c:=Ch.own A2 x.As [_]) (S2:=B2) ⟨_,_,rfl,s0⟩ (fun _ hd=>hd.elim) a2 b2;obtain⟨A3,B3,_,_,he,o3,ho,a3,b3⟩:=ho;obtain⟨q,m,rfl,s1⟩:=o3;cases he;replace hv:=hv.push (c:=Ch.own A3 x.Ak [_]) (S2:=B3) ⟨_,_,rfl,s1⟩ (fun _ hd=>hd.elim) a3 b3;obtain⟨A4,B4,_,_,he,o4,ho,a4,b4⟩:=ho;obtain⟨q,m,rfl,s2⟩:=o4;cases he;replace hv:=hv.push (c:=Ch.own A4 x.Bm [_]) (S2:=B4) ⟨_,_,rfl,s2⟩ (fun _ hd=>hd.elim) a4 b4;obtain⟨_,_,_,_,he,o5,ho,_,b5⟩:=ho;obtain rfl:=o5;cases he;replace hv:=hv.less b5;exact⟨A2,A3,A4,hv.sh⟩
theorem qub {w0:World}{L:List Ch}(x:qv){I0 I1 I2 I3 I4 I5 I6:List Nat}{c0 c1 c2 c3 c4 c5 c6:List Value}(h:SH w0 w L)(h0:PO w L I0 x.Au c0)(h1:PO w L I1 x.Aq c1)(h2:PO w L I2 x.As c2)(h3:PO w L I3 x.Ak c3)(h4:PO w L I4 x.Bm c4)(h5:PO w L I5 x.Bz c5)(h6:PO w L I6 x.Bs c6)(b0:apartB I0 (I1++(I2++(I3++(I4++(I5++I6)))))=true)(b1:apartB I1 (I2++(I3++(I4++(I5++I6))))=true)(b2:apartB I2 (I3++(I4++(I5++I6)))=true)(b3:apartB I3 (I4++(I5++I6))=true)(b4:apartB I4 (I5++I6)=true)(b5:apartB I5 I6=true):PO w L (I0++(I1++(I2++(I3++(I4++(I5++I6)))))) x (c0++(c1++(c2++(c3++(c4++(c5++c6)))))):=
 (qcu h h0 (qcu h h1 (qcu h h2 (qcu h h3 (qcu h h4 (qcu h h5 h6 b5) b4) b3) b2) b1) b0)
structure qr where
 Am:(List qv)
instance gt_TLibrary:GoT qr:=isoT (@instList qv gt_TCell) (fun x=>x.Am) ⟨[]⟩ Z true (fun h=>by cases h)
theorem qbN {x:qr}{cs:List Value}(h:GoT.R w S x cs):∃ p0 k0,cs=[.slice p0 (x.Am).length k0]∧SlR w S x.Am p0 k0:=by
 obtain⟨p0,k0,rfl,s0⟩:=h;exact⟨p0,k0,rfl,s0⟩
theorem qep (x:qr){p0:Option Addr}{k0:Nat}(s0:SlR w S x.Am p0 k0):GoT.R w S x [.slice p0 (x.Am).length k0]:=have h:=rS s0;h
theorem qhk {w0:World}{L:List Ch}{x:qr}{p0:Option Addr}{l0 k0:Nat}(h:SH w0 w (Ch.own S x [.slice p0 l0 k0]::L)):∃ S0,SH w0 w (Ch.own S0 x.Am [.slice p0 l0 k0]::L):=by
 obtain⟨hv,ho⟩:=h.headV;replace ho:GoT.O w S x _:=ho;obtain⟨q,m,he,s0⟩:=ho;cases he;replace hv:=hv.push (c:=Ch.own S x.Am [_]) (S2:=(fun _=>False)) ⟨_,_,rfl,s0⟩ (fun _ hd=>hd.elim) (fun b hb=>⟨hb,fun h=>h⟩) (fun _ h=>h.elim);exact⟨S,hv.sh⟩
theorem qt4 {w0:World}{L:List Ch}(x:qr){I0:List Nat}{c0:List Value}(_:SH w0 w L)(h0:PO w L I0 x.Am c0):PO w L I0 x c0:=
 h0
structure qk where
 Au:ByteArray
 Bp:Int
 Ah:(List Int)
instance gt_TInstance:GoT qk:=isoT (pairT instStr (pairT instInt (@instList Int instInt))) (fun x=>(x.Au,x.Bp,x.Ah)) ⟨ByteArray.empty,0,[]⟩ Z true (fun h=>by cases h)
abbrev qjT (x:qk)(p0:Option Addr)(k0:Nat):List Value:=[.string x.Au,.int .i64 x.Bp,.slice p0 (x.Ah).length k0]
theorem qF {x:qk}{cs:List Value}(h:GoT.R w S x cs):∃ p0 k0,cs=(qjT x p0 k0)∧SlR w S x.Ah p0 k0:=by
 obtain⟨_,_,rfl,rfl,⟨_,_,rfl,rfl,⟨p0,k0,rfl,s0⟩⟩⟩:=h;exact⟨p0,k0,rfl,s0⟩
theorem qgT (x:qk){p0:Option Addr}{k0:Nat}(s0:SlR w S x.Ah p0 k0):GoT.R w S x (qjT x p0 k0):=have h:=pR (rT x.Au) (pR (rI x.Bp) (rS s0));h
theorem qqt {w0:World}{L:List Ch}{x:qk}{p0:Option Addr}{l0 k0:Nat}(h:SH w0 w (Ch.own S x [.string x.Au,.int .i64 x.Bp,.slice p0 l0 k0]::L)):∃ S0,SH w0 w (Ch.own S0 x.Ah [.slice p0 l0 k0]::L):=by
 obtain⟨hv,ho⟩:=h.headV;replace ho:GoT.O w S x _:=ho;obtain⟨_,_,_,_,he,o0,ho,_,b0⟩:=ho;obtain rfl:=o0;cases he;replace hv:=hv.less b0;obtain⟨_,B1,_,_,he,o1,ho,_,b1⟩:=ho;obtain rfl:=o1;cases he;replace hv:=hv.less b1;obtain⟨q,m,he,s0⟩:=ho;cases he;replace hv:=hv.push (c:=Ch.own B1 x.Ah [_]) (S2:=(fun _=>False)) ⟨_,_,rfl,s0⟩ (fun _ hd=>hd.elim) (fun b hb=>⟨hb,fun h=>h⟩) (fun _ h=>h.elim);exact⟨B1,hv.sh⟩
theorem qoz {w0:World}{L:List Ch}(x:qk){I0 I1 I2:List Nat}{c0 c1 c2:List Value}(h:SH w0 w L)(h0:PO w L I0 x.Au c0)(h1:PO w L I1 x.Bp c1)(h2:PO w L I2 x.Ah c2)(b0:apartB I0 (I1++I2)=true)(b1:apartB I1 I2=true):PO w L (I0++(I1++I2)) x (c0++(c1++c2)):=
 (qcu h h0 (qcu h h1 h2 b1) b0)
structure qW where
 Au:ByteArray
 Bu:Int
 Bx:Int
instance gt_TPort:GoT qW:=isoT (pairT instStr (pairT instInt instInt)) (fun x=>(x.Au,x.Bu,x.Bx)) ⟨ByteArray.empty,0,0⟩ Z true (fun h=>by cases h)
instance fl_TPort:Flat qW:=qfz (pairT instStr (pairT instInt instInt)) (fun x:qW=>(x.Au,x.Bu,x.Bx)) ⟨ByteArray.empty,0,0⟩ Z true (fun h=>by cases h) (qaH _ _ (inferInstanceAs (Flat ByteArray)) (qaH _ _ (inferInstanceAs (Flat Int)) (inferInstanceAs (Flat Int))))
abbrev qqF (x:qW):List Value:=[.string x.Au,.int .i64 x.Bu,.int .i64 x.Bx]
theorem qaU {x:qW}{cs:List Value}(h:GoT.R w S x cs):cs=(qqF x):=by
 obtain⟨_,_,rfl,rfl,⟨_,_,rfl,rfl,rfl⟩⟩:=h;exact Z
theorem qeB (x:qW):GoT.R w S x (qqF x):=have h:=pR (rT x.Au) (pR (rI x.Bu) (rI x.Bx));h
structure qe where
 Ab:(List qk)
 Ah:(List ByteArray)
 Af:(List qW)
instance gt_TDesign:GoT qe:=isoT (pairT (@instList qk gt_TInstance) (pairT (@instList ByteArray instStr) (@instList qW gt_TPort))) (fun x=>(x.Ab,x.Ah,x.Af)) ⟨[],[],[]⟩ Z true (fun h=>by cases h)
abbrev qaQ (x:qe)(p0 p1 p2:Option Addr)(k0 k1 k2:Nat):List Value:=[.slice p0 (x.Ab).length k0,.slice p1 (x.Ah).length k1,.slice p2 (x.Af).length k2]
theorem qaD {x:qe}{cs:List Value}(h:GoT.R w S x cs):∃ p0 k0 p1 k1 p2 k2,cs=(qaQ x p0 p1 p2 k0 k1 k2)∧SlR w S x.Ab p0 k0∧SlR w S x.Ah p1 k1∧SlR w S x.Af p2 k2:=by
 obtain⟨_,_,rfl,⟨p0,k0,rfl,s0⟩,⟨_,_,rfl,⟨p1,k1,rfl,s1⟩,⟨p2,k2,rfl,s2⟩⟩⟩:=h;exact⟨p0,k0,p1,k1,p2,k2,rfl,s0,s1,s2⟩
theorem qao (x:qe){p0 p1 p2:Option Addr}{k0 k1 k2:Nat}(s0:SlR w S x.Ab p0 k0)(s1:SlR w S x.Ah p1 k1)(s2:SlR w S x.Af p2 k2):GoT.R w S x (qaQ x p0 p1 p2 k0 k1 k2):=have h:=pR (rS s0) (pR (rS s1) (rS s2));h
theorem qh9 {w0:World}{L:List Ch}{x:qe}{p0 p1 p2:Option Addr}{l0 k0 l1 k1 l2 k2:Nat}(h:SH w0 w (Ch.own S x [.slice p0 l0 k0,.slice p1 l1 k1,.slice p2 l2 k2]::L)):∃ S0 S1 S2,SH w0 w (Ch.own S2 x.Af [.slice p2 l2 k2]::Ch.own S1 x.Ah [.slice p1 l1 k1]::Ch.own S0 x.Ab [.slice p0 l0 k0]::L):=by
 obtain⟨hv,ho⟩:=h.headV;replace ho:GoT.O w S x _:=ho;obtain⟨A0,B0,_,_,he,o0,ho,a0,b0⟩:=ho;obtain⟨q,m,rfl,s0⟩:=o0;cases he;replace hv:=hv.push (c:=Ch.own A0 x.Ab [_]) (S2:=B0) ⟨_,_,rfl,s0⟩ (fun _ hd=>hd.elim) a0 b0;obtain⟨A1,B1,_,_,he,o1,ho,a1,b1⟩:=ho;obtain⟨q,m,rfl,s1⟩:=o1;cases he;replace hv:=hv.push (c:=Ch.own A1 x.Ah [_]) (S2:=B1) ⟨_,_,rfl,s1⟩ (fun _ hd=>hd.elim) a1 b1;obtain⟨q,m,he,s2⟩:=ho;cases he;replace hv:=hv.push (c:=Ch.own B1 x.Af [_]) (S2:=(fun _=>False)) ⟨_,_,rfl,s2⟩ (fun _ hd=>hd.elim) (fun b hb=>⟨hb,fun h=>h⟩) (fun _ h=>h.elim);exact⟨A0,A1,B1,hv.sh⟩
theorem quF {w0:World}{L:List Ch}(x:qe){I0 I1 I2:List Nat}{c0 c1 c2:List Value}(h:SH w0 w L)(h0:PO w L I0 x.Ab c0)(h1:PO w L I1 x.Ah c1)(h2:PO w L I2 x.Af c2)(b0:apartB I0 (I1++I2)=true)(b1:apartB I1 I2=true):PO w L (I0++(I1++I2)) x (c0++(c1++c2)):=
 (qcu h h0 (qcu h h1 h2 b1) b0)
structure qG where
 Aj:(List Int)
 Bv:(List Int)
 Br:(List Int)
 Bi:(List Int)
instance gt_TWire:GoT qG:=isoT (pairT (@instList Int instInt) (pairT (@instList Int instInt) (pairT (@instList Int instInt) (@instList Int instInt)))) (fun x=>(x.Aj,x.Bv,x.Br,x.Bi)) ⟨[],[],[],[]⟩ Z true (fun h=>by cases h)
abbrev qg5 (x:qG)(p0 p1 p2 p3:Option Addr)(k0 k1 k2 k3:Nat):List Value:=[.slice p0 (x.Aj).length k0,.slice p1 (x.Bv).length k1,.slice p2 (x.Br).length k2,.slice p3 (x.Bi).length k3]
theorem qaO {x:qG}{cs:List Value}(h:GoT.R w S x cs):∃ p0 k0 p1 k1 p2 k2 p3 k3,cs=(qg5 x p0 p1 p2 p3 k0 k1 k2 k3)∧SlR w S x.Aj p0 k0∧SlR w S x.Bv p1 k1∧SlR w S x.Br p2 k2∧SlR w S x.Bi p3 k3:=by
 obtain⟨_,_,rfl,⟨p0,k0,rfl,s0⟩,⟨_,_,rfl,⟨p1,k1,rfl,s1⟩,⟨_,_,rfl,⟨p2,k2,rfl,s2⟩,⟨p3,k3,rfl,s3⟩⟩⟩⟩:=h;exact⟨p0,k0,p1,k1,p2,k2,p3,k3,rfl,s0,s1,s2,s3⟩
theorem qkH (x:qG){p0 p1 p2 p3:Option Addr}{k0 k1 k2 k3:Nat}(s0:SlR w S x.Aj p0 k0)(s1:SlR w S x.Bv p1 k1)(s2:SlR w S x.Br p2 k2)(s3:SlR w S x.Bi p3 k3):GoT.R w S x (qg5 x p0 p1 p2 p3 k0 k1 k2 k3):=have h:=pR (rS s0) (pR (rS s1) (pR (rS s2) (rS s3)));h
theorem qtH {w0:World}{L:List Ch}{x:qG}{p0 p1 p2 p3:Option Addr}{l0 k0 l1 k1 l2 k2 l3 k3:Nat}(h:SH w0 w (Ch.own S x [.slice p0 l0 k0,.slice p1 l1 k1,.slice p2 l2 k2,.slice p3 l3 k3]::L)):∃ S0 S1 S2 S3,SH w0 w (Ch.own S3 x.Bi [.slice p3 l3 k3]::Ch.own S2 x.Br [.slice p2 l2 k2]::Ch.own S1 x.Bv [.slice p1 l1 k1]::Ch.own S0 x.Aj [.slice p0 l0 k0]::L):=by
 obtain⟨hv,ho⟩:=h.headV;replace ho:GoT.O w S x _:=ho;obtain⟨A0,B0,_,_,he,o0,ho,a0,b0⟩:=ho;obtain⟨q,m,rfl,s0⟩:=o0;cases he;replace hv:=hv.push (c:=Ch.own A0 x.Aj [_]) (S2:=B0) ⟨_,_,rfl,s0⟩ (fun _ hd=>hd.elim) a0 b0;obtain⟨A1,B1,_,_,he,o1,ho,a1,b1⟩:=ho;obtain⟨q,m,rfl,s1⟩:=o1;cases he;replace hv:=hv.push (c:=Ch.own A1 x.Bv [_]) (S2:=B1) ⟨_,_,rfl,s1⟩ (fun _ hd=>hd.elim) a1 b1;obtain⟨A2,B2,_,_,he,o2,ho,a2,b2⟩:=ho;obtain⟨q,m,rfl,s2⟩:=o2;cases he;replace hv:=hv.push (c:=Ch.own A2 x.Br [_]) (S2:=B2) ⟨_,_,rfl,s2⟩ (fun _ hd=>hd.elim) a2 b2;obtain⟨q,m,he,s3⟩:=ho;cases he;replace hv:=hv.push (c:=Ch.own B2 x.Bi [_]) (S2:=(fun _=>False)) ⟨_,_,rfl,s3⟩ (fun _ hd=>hd.elim) (fun b hb=>⟨hb,fun h=>h⟩) (fun _ h=>h.elim);exact⟨A0,A1,A2,B2,hv.sh⟩
theorem qtR {w0:World}{L:List Ch}(x:qG){I0 I1 I2 I3:List Nat}{c0 c1 c2 c3:List Value}(h:SH w0 w L)(h0:PO w L I0 x.Aj c0)(h1:PO w L I1 x.Bv c1)(h2:PO w L I2 x.Br c2)(h3:PO w L I3 x.Bi c3)(b0:apartB I0 (I1++(I2++I3))=true)(b1:apartB I1 (I2++I3)=true)(b2:apartB I2 I3=true):PO w L (I0++(I1++(I2++I3))) x (c0++(c1++(c2++c3))):=
 (qcu h h0 (qcu h h1 (qcu h h2 h3 b2) b1) b0)
structure qd where
 Ap:qr
 Aa:qe
 Ac:(List qG)
instance gt_TBlock:GoT qd:=isoT (pairT gt_TLibrary (pairT gt_TDesign (@instList qG gt_TWire))) (fun x=>(x.Ap,x.Aa,x.Ac)) ⟨(⟨[]⟩:qr),(⟨[],[],[]⟩:qe),[]⟩ Z true (fun h=>by cases h)
abbrev qT (x:qd)(p0 p1 p2 p3 p4:Option Addr)(k0 k1 k2 k3 k4:Nat):List Value:=[.slice p0 (x.Ap.Am).length k0,.slice p1 (x.Aa.Ab).length k1,.slice p2 (x.Aa.Ah).length k2,.slice p3 (x.Aa.Af).length k3,.slice p4 (x.Ac).length k4]
theorem qM {x:qd}{cs:List Value}(h:GoT.R w S x cs):∃ p0 k0 p1 k1 p2 k2 p3 k3 p4 k4,cs=(qT x p0 p1 p2 p3 p4 k0 k1 k2 k3 k4)∧SlR w S x.Ap.Am p0 k0∧SlR w S x.Aa.Ab p1 k1∧SlR w S x.Aa.Ah p2 k2∧SlR w S x.Aa.Af p3 k3∧SlR w S x.Ac p4 k4:=by
 obtain⟨_,_,rfl,⟨p0,k0,rfl,s0⟩,⟨_,_,rfl,⟨_,_,rfl,⟨p1,k1,rfl,s1⟩,⟨_,_,rfl,⟨p2,k2,rfl,s2⟩,⟨p3,k3,rfl,s3⟩⟩⟩,⟨p4,k4,rfl,s4⟩⟩⟩:=h;exact⟨p0,k0,p1,k1,p2,k2,p3,k3,p4,k4,rfl,s0,s1,s2,s3,s4⟩
theorem qk9 (x:qd){p0 p1 p2 p3 p4:Option Addr}{k0 k1 k2 k3 k4:Nat}(s0:SlR w S x.Ap.Am p0 k0)(s1:SlR w S x.Aa.Ab p1 k1)(s2:SlR w S x.Aa.Ah p2 k2)(s3:SlR w S x.Aa.Af p3 k3)(s4:SlR w S x.Ac p4 k4):GoT.R w S x (qT x p0 p1 p2 p3 p4 k0 k1 k2 k3 k4):=have h:=pR (qep x.Ap s0) (pR (qao x.Aa s1 s2 s3) (rS s4));h
theorem qh7 {w0:World}{L:List Ch}{x:qd}{p0 p1 p2 p3 p4:Option Addr}{l0 k0 l1 k1 l2 k2 l3 k3 l4 k4:Nat}(h:SH w0 w (Ch.own S x [.slice p0 l0 k0,.slice p1 l1 k1,.slice p2 l2 k2,.slice p3 l3 k3,.slice p4 l4 k4]::L)):∃ S0 S1 S2,SH w0 w (Ch.own S2 x.Ac [.slice p4 l4 k4]::Ch.own S1 x.Aa [.slice p1 l1 k1,.slice p2 l2 k2,.slice p3 l3 k3]::Ch.own S0 x.Ap [.slice p0 l0 k0]::L):=by
 obtain⟨hv,ho⟩:=h.headV;replace ho:GoT.O w S x _:=ho;obtain⟨A0,B0,d0,e0,he0,o0,ho,a0,b0⟩:=ho;have hl0:d0.length=1:=GoT.len (GoT.toR o0);obtain⟨rfl,rfl⟩:d0=[.slice p0 l0 k0]∧e0=[.slice p1 l1 k1,.slice p2 l2 k2,.slice p3 l3 k3,.slice p4 l4 k4]:=by
  have:=List.append_inj (show[.slice p0 l0 k0]++[.slice p1 l1 k1,.slice p2 l2 k2,.slice p3 l3 k3,.slice p4 l4 k4]=d0++e0 from he0) (by rw[hl0];rfl);exact⟨this.1.symm,this.2.symm⟩
 replace hv:=hv.push (c:=Ch.own A0 x.Ap [.slice p0 l0 k0]) (S2:=B0) o0 (fun _ hd=>hd.elim) a0 b0;obtain⟨A1,B1,d1,e1,he1,o1,ho,a1,b1⟩:=ho;have hl1:d1.length=3:=GoT.len (GoT.toR o1);obtain⟨rfl,rfl⟩:d1=[.slice p1 l1 k1,.slice p2 l2 k2,.slice p3 l3 k3]∧e1=[.slice p4 l4 k4]:=by
  have:=List.append_inj (show[.slice p1 l1 k1,.slice p2 l2 k2,.slice p3 l3 k3]++[.slice p4 l4 k4]=d1++e1 from he1) (by rw[hl1];rfl);exact⟨this.1.symm,this.2.symm⟩
 replace hv:=hv.push (c:=Ch.own A1 x.Aa [.slice p1 l1 k1,.slice p2 l2 k2,.slice p3 l3 k3]) (S2:=B1) o1 (fun _ hd=>hd.elim) a1 b1;replace hv:=hv.push (c:=Ch.own B1 x.Ac [.slice p4 l4 k4]) (S2:=(fun _=>False)) ho (fun _ hd=>hd.elim) (fun b hb=>⟨hb,fun h=>h⟩) (fun _ h=>h.elim);exact⟨A0,A1,B1,hv.sh⟩
theorem qwi {w0:World}{L:List Ch}(x:qd){I0 I1 I2:List Nat}{c0 c1 c2:List Value}(h:SH w0 w L)(h0:PO w L I0 x.Ap c0)(h1:PO w L I1 x.Aa c1)(h2:PO w L I2 x.Ac c2)(b0:apartB I0 (I1++I2)=true)(b1:apartB I1 I2=true):PO w L (I0++(I1++I2)) x (c0++(c1++c2)):=
 (qcu h h0 (qcu h h1 h2 b1) b0)
structure qi where
 Ar:Int
 Ay:Int
instance gt_TSpan:GoT qi:=isoT (pairT instInt instInt) (fun x=>(x.Ar,x.Ay)) ⟨0,0⟩ Z true (fun h=>by cases h)
instance fl_TSpan:Flat qi:=qfz (pairT instInt instInt) (fun x:qi=>(x.Ar,x.Ay)) ⟨0,0⟩ Z true (fun h=>by cases h) (qaH _ _ (inferInstanceAs (Flat Int)) (inferInstanceAs (Flat Int)))
abbrev qi0 (x:qi):List Value:=[.int .i64 x.Ar,.int .i64 x.Ay]
theorem qD {x:qi}{cs:List Value}(h:GoT.R w S x cs):cs=(qi0 x):=by
 obtain⟨_,_,rfl,rfl,rfl⟩:=h;exact Z
theorem qP (x:qi):GoT.R w S x (qi0 x):=have h:=pR (rI x.Ar) (rI x.Ay);h
structure qB where
 Bb:(List Bool)
 Ai:(List qi)
 Ba:(List qi)
instance gt_TTiming:GoT qB:=isoT (pairT (@instList Bool instBool) (pairT (@instList qi gt_TSpan) (@instList qi gt_TSpan))) (fun x=>(x.Bb,x.Ai,x.Ba)) ⟨[],[],[]⟩ Z true (fun h=>by cases h)
abbrev qbd (x:qB)(p0 p1 p2:Option Addr)(k0 k1 k2:Nat):List Value:=[.slice p0 (x.Bb).length k0,.slice p1 (x.Ai).length k1,.slice p2 (x.Ba).length k2]
theorem qfi {x:qB}{cs:List Value}(h:GoT.R w S x cs):∃ p0 k0 p1 k1 p2 k2,cs=(qbd x p0 p1 p2 k0 k1 k2)∧SlR w S x.Bb p0 k0∧SlR w S x.Ai p1 k1∧SlR w S x.Ba p2 k2:=by
 obtain⟨_,_,rfl,⟨p0,k0,rfl,s0⟩,⟨_,_,rfl,⟨p1,k1,rfl,s1⟩,⟨p2,k2,rfl,s2⟩⟩⟩:=h;exact⟨p0,k0,p1,k1,p2,k2,rfl,s0,s1,s2⟩
theorem qn4 {w0:World}{L:List Ch}{x:qB}{p0 p1 p2:Option Addr}{l0 k0 l1 k1 l2 k2:Nat}(h:SH w0 w (Ch.own S x [.slice p0 l0 k0,.slice p1 l1 k1,.slice p2 l2 k2]::L)):∃ S0 S1 S2,SH w0 w (Ch.own S2 x.Ba [.slice p2 l2 k2]::Ch.own S1 x.Ai [.slice p1 l1 k1]::Ch.own S0 x.Bb [.slice p0 l0 k0]::L):=by
 obtain⟨hv,ho⟩:=h.headV;replace ho:GoT.O w S x _:=ho;obtain⟨A0,B0,_,_,he,o0,ho,a0,b0⟩:=ho;obtain⟨q,m,rfl,s0⟩:=o0;cases he;replace hv:=hv.push (c:=Ch.own A0 x.Bb [_]) (S2:=B0) ⟨_,_,rfl,s0⟩ (fun _ hd=>hd.elim) a0 b0;obtain⟨A1,B1,_,_,he,o1,ho,a1,b1⟩:=ho;obtain⟨q,m,rfl,s1⟩:=o1;cases he;replace hv:=hv.push (c:=Ch.own A1 x.Ai [_]) (S2:=B1) ⟨_,_,rfl,s1⟩ (fun _ hd=>hd.elim) a1 b1;obtain⟨q,m,he,s2⟩:=ho;cases he;replace hv:=hv.push (c:=Ch.own B1 x.Ba [_]) (S2:=(fun _=>False)) ⟨_,_,rfl,s2⟩ (fun _ hd=>hd.elim) (fun b hb=>⟨hb,fun h=>h⟩) (fun _ h=>h.elim);exact⟨A0,A1,B1,hv.sh⟩
theorem qjn {w0:World}{L:List Ch}(x:qB){I0 I1 I2:List Nat}{c0 c1 c2:List Value}(h:SH w0 w L)(h0:PO w L I0 x.Bb c0)(h1:PO w L I1 x.Ai c1)(h2:PO w L I2 x.Ba c2)(b0:apartB I0 (I1++I2)=true)(b1:apartB I1 I2=true):PO w L (I0++(I1++I2)) x (c0++(c1++c2)):=
 (qcu h h0 (qcu h h1 h2 b1) b0)
structure qjp where
 A:Int
 B:Int
 Cd:Int
instance gt_TCoupling:GoT qjp:=isoT (pairT instInt (pairT instInt instInt)) (fun x=>(x.A,x.B,x.Cd)) ⟨0,0,0⟩ Z true (fun h=>by cases h)
instance fl_TCoupling:Flat qjp:=qfz (pairT instInt (pairT instInt instInt)) (fun x:qjp=>(x.A,x.B,x.Cd)) ⟨0,0,0⟩ Z true (fun h=>by cases h) (qaH _ _ (inferInstanceAs (Flat Int)) (qaH _ _ (inferInstanceAs (Flat Int)) (inferInstanceAs (Flat Int))))
structure qy where
 Au:ByteArray
 Be:Int
 Bh:Int
 Bf:Int
 Bj:Int
instance gt_TCorner:GoT qy:=isoT (pairT instStr (pairT instInt (pairT instInt (pairT instInt instInt)))) (fun x=>(x.Au,x.Be,x.Bh,x.Bf,x.Bj)) ⟨ByteArray.empty,0,0,0,0⟩ Z true (fun h=>by cases h)
instance fl_TCorner:Flat qy:=qfz (pairT instStr (pairT instInt (pairT instInt (pairT instInt instInt)))) (fun x:qy=>(x.Au,x.Be,x.Bh,x.Bf,x.Bj)) ⟨ByteArray.empty,0,0,0,0⟩ Z true (fun h=>by cases h) (qaH _ _ (inferInstanceAs (Flat ByteArray)) (qaH _ _ (inferInstanceAs (Flat Int)) (qaH _ _ (inferInstanceAs (Flat Int)) (qaH _ _ (inferInstanceAs (Flat Int)) (inferInstanceAs (Flat Int))))))
abbrev qad (x:qy):List Value:=[.string x.Au,.int .i64 x.Be,.int .i64 x.Bh,.int .i64 x.Bf,.int .i64 x.Bj]
theorem qag {x:qy}{cs:List Value}(h:GoT.R w S x cs):cs=(qad x):=by
 obtain⟨_,_,rfl,rfl,⟨_,_,rfl,rfl,⟨_,_,rfl,rfl,⟨_,_,rfl,rfl,rfl⟩⟩⟩⟩:=h;exact Z
theorem qlA (x:qy):GoT.R w S x (qad x):=have h:=pR (rT x.Au) (pR (rI x.Be) (pR (rI x.Bh) (pR (rI x.Bf) (rI x.Bj))));h
structure qw where
 Bt:Int
 Ai:qi
 Ba:qi
instance gt_TSource:GoT qw:=isoT (pairT instInt (pairT gt_TSpan gt_TSpan)) (fun x=>(x.Bt,x.Ai,x.Ba)) ⟨0,(⟨0,0⟩:qi),(⟨0,0⟩:qi)⟩ Z true (fun h=>by cases h)
instance fl_TSource:Flat qw:=qfz (pairT instInt (pairT gt_TSpan gt_TSpan)) (fun x:qw=>(x.Bt,x.Ai,x.Ba)) ⟨0,(⟨0,0⟩:qi),(⟨0,0⟩:qi)⟩ Z true (fun h=>by cases h) (qaH _ _ (inferInstanceAs (Flat Int)) (qaH _ _ (inferInstanceAs (Flat qi)) (inferInstanceAs (Flat qi))))
abbrev qgf (x:qw):List Value:=[.int .i64 x.Bt,.int .i64 x.Ai.Ar,.int .i64 x.Ai.Ay,.int .i64 x.Ba.Ar,.int .i64 x.Ba.Ay]
theorem qfu {x:qw}{cs:List Value}(h:GoT.R w S x cs):cs=(qgf x):=by
 obtain⟨_,_,rfl,rfl,⟨_,_,rfl,⟨_,_,rfl,rfl,rfl⟩,⟨_,_,rfl,rfl,rfl⟩⟩⟩:=h;exact Z
theorem qer (x:qw):GoT.R w S x (qgf x):=have h:=pR (rI x.Bt) (pR (qP x.Ai) (qP x.Ba));h
structure qE where
 Cc:Int
 Ca:Int
instance gt_TLatch:GoT qE:=isoT (pairT instInt instInt) (fun x=>(x.Cc,x.Ca)) ⟨0,0⟩ Z true (fun h=>by cases h)
instance fl_TLatch:Flat qE:=qfz (pairT instInt instInt) (fun x:qE=>(x.Cc,x.Ca)) ⟨0,0⟩ Z true (fun h=>by cases h) (qaH _ _ (inferInstanceAs (Flat Int)) (inferInstanceAs (Flat Int)))
abbrev qtr (x:qE):List Value:=[.int .i64 x.Cc,.int .i64 x.Ca]
theorem qgg {x:qE}{cs:List Value}(h:GoT.R w S x cs):cs=(qtr x):=by
 obtain⟨_,_,rfl,rfl,rfl⟩:=h;exact Z
theorem qhv (x:qE):GoT.R w S x (qtr x):=have h:=pR (rI x.Cc) (rI x.Ca);h
structure qf where
 Bc:Int
 To:Int
 Bk:Int
 Cb:Int
instance gt_TLatchLink:GoT qf:=isoT (pairT instInt (pairT instInt (pairT instInt instInt))) (fun x=>(x.Bc,x.To,x.Bk,x.Cb)) ⟨0,0,0,0⟩ Z true (fun h=>by cases h)
instance fl_TLatchLink:Flat qf:=qfz (pairT instInt (pairT instInt (pairT instInt instInt))) (fun x:qf=>(x.Bc,x.To,x.Bk,x.Cb)) ⟨0,0,0,0⟩ Z true (fun h=>by cases h) (qaH _ _ (inferInstanceAs (Flat Int)) (qaH _ _ (inferInstanceAs (Flat Int)) (qaH _ _ (inferInstanceAs (Flat Int)) (inferInstanceAs (Flat Int)))))
abbrev qoA (x:qf):List Value:=[.int .i64 x.Bc,.int .i64 x.To,.int .i64 x.Bk,.int .i64 x.Cb]
theorem qbn {x:qf}{cs:List Value}(h:GoT.R w S x cs):cs=(qoA x):=by
 obtain⟨_,_,rfl,rfl,⟨_,_,rfl,rfl,⟨_,_,rfl,rfl,rfl⟩⟩⟩:=h;exact Z
theorem qbI (x:qf):GoT.R w S x (qoA x):=have h:=pR (rI x.Bc) (pR (rI x.To) (pR (rI x.Bk) (rI x.Cb)));h
structure qg where
 Av:(List qE)
 Bg:(List qf)
instance gt_TLatchSystem:GoT qg:=isoT (pairT (@instList qE gt_TLatch) (@instList qf gt_TLatchLink)) (fun x=>(x.Av,x.Bg)) ⟨[],[]⟩ Z true (fun h=>by cases h)
abbrev qaG (x:qg)(p0 p1:Option Addr)(k0 k1:Nat):List Value:=[.slice p0 (x.Av).length k0,.slice p1 (x.Bg).length k1]
theorem qax {x:qg}{cs:List Value}(h:GoT.R w S x cs):∃ p0 k0 p1 k1,cs=(qaG x p0 p1 k0 k1)∧SlR w S x.Av p0 k0∧SlR w S x.Bg p1 k1:=by
 obtain⟨_,_,rfl,⟨p0,k0,rfl,s0⟩,⟨p1,k1,rfl,s1⟩⟩:=h;exact⟨p0,k0,p1,k1,rfl,s0,s1⟩
theorem qaI {w0:World}{L:List Ch}{x:qg}{p0 p1:Option Addr}{l0 k0 l1 k1:Nat}(h:SH w0 w (Ch.own S x [.slice p0 l0 k0,.slice p1 l1 k1]::L)):∃ S0 S1,SH w0 w (Ch.own S1 x.Bg [.slice p1 l1 k1]::Ch.own S0 x.Av [.slice p0 l0 k0]::L):=by
 obtain⟨hv,ho⟩:=h.headV;replace ho:GoT.O w S x _:=ho;obtain⟨A0,B0,_,_,he,o0,ho,a0,b0⟩:=ho;obtain⟨q,m,rfl,s0⟩:=o0;cases he;replace hv:=hv.push (c:=Ch.own A0 x.Av [_]) (S2:=B0) ⟨_,_,rfl,s0⟩ (fun _ hd=>hd.elim) a0 b0;obtain⟨q,m,he,s1⟩:=ho;cases he;replace hv:=hv.push (c:=Ch.own B0 x.Bg [_]) (S2:=(fun _=>False)) ⟨_,_,rfl,s1⟩ (fun _ hd=>hd.elim) (fun b hb=>⟨hb,fun h=>h⟩) (fun _ h=>h.elim);exact⟨A0,B0,hv.sh⟩
theorem qaS {w0:World}{L:List Ch}(x:qg){I0 I1:List Nat}{c0 c1:List Value}(h:SH w0 w L)(h0:PO w L I0 x.Av c0)(h1:PO w L I1 x.Bg c1)(b0:apartB I0 I1=true):PO w L (I0++I1) x (c0++c1):=
 (qcu h h0 h1 b0)
structure Tplace where
 instance_:Int
 pin:Int
 net:Int
 drives:Bool
instance gt_Tplace:GoT Tplace:=isoT (pairT instInt (pairT instInt (pairT instInt instBool))) (fun x=>(x.instance_,x.pin,x.net,x.drives)) ⟨0,0,0,false⟩ Z true (fun h=>by cases h)
instance fl_Tplace:Flat Tplace:=qfz (pairT instInt (pairT instInt (pairT instInt instBool))) (fun x:Tplace=>(x.instance_,x.pin,x.net,x.drives)) ⟨0,0,0,false⟩ Z true (fun h=>by cases h) (qaH _ _ (inferInstanceAs (Flat Int)) (qaH _ _ (inferInstanceAs (Flat Int)) (qaH _ _ (inferInstanceAs (Flat Int)) (inferInstanceAs (Flat Bool)))))
abbrev qqI (x:Tplace):List Value:=[.int .i64 x.instance_,.int .i64 x.pin,.int .i64 x.net,.bool x.drives]
theorem qfk {x:Tplace}{cs:List Value}(h:GoT.R w S x cs):cs=(qqI x):=by
 obtain⟨_,_,rfl,rfl,⟨_,_,rfl,rfl,⟨_,_,rfl,rfl,rfl⟩⟩⟩:=h;exact Z
theorem qms (x:Tplace):GoT.R w S x (qqI x):=have h:=pR (rI x.instance_) (pR (rI x.pin) (pR (rI x.net) (rB x.drives)));h
structure qt where
 Bc:Int
 To:Int
 Aq:Int
 Bw:Int
instance gt_TLink:GoT qt:=isoT (pairT instInt (pairT instInt (pairT instInt instInt))) (fun x=>(x.Bc,x.To,x.Aq,x.Bw)) ⟨0,0,0,0⟩ Z true (fun h=>by cases h)
instance fl_TLink:Flat qt:=qfz (pairT instInt (pairT instInt (pairT instInt instInt))) (fun x:qt=>(x.Bc,x.To,x.Aq,x.Bw)) ⟨0,0,0,0⟩ Z true (fun h=>by cases h) (qaH _ _ (inferInstanceAs (Flat Int)) (qaH _ _ (inferInstanceAs (Flat Int)) (qaH _ _ (inferInstanceAs (Flat Int)) (inferInstanceAs (Flat Int)))))
abbrev qkv (x:qt):List Value:=[.int .i64 x.Bc,.int .i64 x.To,.int .i64 x.Aq,.int .i64 x.Bw]
theorem qav {x:qt}{cs:List Value}(h:GoT.R w S x cs):cs=(qkv x):=by
 obtain⟨_,_,rfl,rfl,⟨_,_,rfl,rfl,⟨_,_,rfl,rfl,rfl⟩⟩⟩:=h;exact Z
theorem qcf (x:qt):GoT.R w S x (qkv x):=have h:=pR (rI x.Bc) (pR (rI x.To) (pR (rI x.Aq) (rI x.Bw)));h
structure Tview where
 Bq:qd
 places:(List Tplace)
 links:(List qt)
 loads:(List Int)
 delays:(List (List Int))
 extras:(List Int)
instance gt_Tview:GoT Tview:=isoT (pairT gt_TBlock (pairT (@instList Tplace gt_Tplace) (pairT (@instList qt gt_TLink) (pairT (@instList Int instInt) (pairT (@instList (List Int) (@instList Int instInt)) (@instList Int instInt)))))) (fun x=>(x.Bq,x.places,x.links,x.loads,x.delays,x.extras)) ⟨(⟨(⟨[]⟩:qr),(⟨[],[],[]⟩:qe),[]⟩:qd),[],[],[],[],[]⟩ Z true (fun h=>by cases h)
abbrev qyG (x:Tview)(p0 p1 p2 p3 p4 p5 p6 p7 p8 p9:Option Addr)(k0 k1 k2 k3 k4 k5 k6 k7 k8 k9:Nat):List Value:=[.slice p0 (x.Bq.Ap.Am).length k0,.slice p1 (x.Bq.Aa.Ab).length k1,.slice p2 (x.Bq.Aa.Ah).length k2,.slice p3 (x.Bq.Aa.Af).length k3,.slice p4 (x.Bq.Ac).length k4,.slice p5 (x.places).length k5,.slice p6 (x.links).length k6,.slice p7 (x.loads).length k7,.slice p8 (x.delays).length k8,.slice p9 (x.extras).length k9]
theorem qb3 {x:Tview}{cs:List Value}(h:GoT.R w S x cs):∃ p0 k0 p1 k1 p2 k2 p3 k3 p4 k4 p5 k5 p6 k6 p7 k7 p8 k8 p9 k9,cs=(qyG x p0 p1 p2 p3 p4 p5 p6 p7 p8 p9 k0 k1 k2 k3 k4 k5 k6 k7 k8 k9)∧SlR w S x.Bq.Ap.Am p0 k0∧SlR w S x.Bq.Aa.Ab p1 k1∧SlR w S x.Bq.Aa.Ah p2 k2∧SlR w S x.Bq.Aa.Af p3 k3∧SlR w S x.Bq.Ac p4 k4∧SlR w S x.places p5 k5∧SlR w S x.links p6 k6∧SlR w S x.loads p7 k7∧SlR w S x.delays p8 k8∧SlR w S x.extras p9 k9:=by
 obtain⟨_,_,rfl,⟨_,_,rfl,⟨p0,k0,rfl,s0⟩,⟨_,_,rfl,⟨_,_,rfl,⟨p1,k1,rfl,s1⟩,⟨_,_,rfl,⟨p2,k2,rfl,s2⟩,⟨p3,k3,rfl,s3⟩⟩⟩,⟨p4,k4,rfl,s4⟩⟩⟩,⟨_,_,rfl,⟨p5,k5,rfl,s5⟩,⟨_,_,rfl,⟨p6,k6,rfl,s6⟩,⟨_,_,rfl,⟨p7,k7,rfl,s7⟩,⟨_,_,rfl,⟨p8,k8,rfl,s8⟩,⟨p9,k9,rfl,s9⟩⟩⟩⟩⟩⟩:=h;exact⟨p0,k0,p1,k1,p2,k2,p3,k3,p4,k4,p5,k5,p6,k6,p7,k7,p8,k8,p9,k9,rfl,s0,s1,s2,s3,s4,s5,s6,s7,s8,s9⟩
structure Tgraph where
 view:(Option Tview)
 live:(List Bool)
instance gt_Tgraph:GoT Tgraph:=isoT (pairT (@instPtr Tview gt_Tview) (@instList Bool instBool)) (fun x=>(x.view,x.live)) ⟨U,[]⟩ Z true (fun h=>by cases h)
abbrev qxA (x:Tgraph)(p0 p1:Option Addr)(k1:Nat):List Value:=[.pointer p0,.slice p1 (x.live).length k1]
theorem qhg {x:Tgraph}{cs:List Value}(h:GoT.R w S x cs):∃ p0 p1 k1,cs=(qxA x p0 p1 k1)∧PtR w S x.view p0∧SlR w S x.live p1 k1:=by
 obtain⟨_,_,rfl,t0,⟨p1,k1,rfl,s1⟩⟩:=h;obtain⟨p0,rfl,s0⟩:=qct t0;exact⟨p0,p1,k1,rfl,s0,s1⟩
structure TlatchSite where
 instance_:Int
 first:Int
 arc:Int
instance gt_TlatchSite:GoT TlatchSite:=isoT (pairT instInt (pairT instInt instInt)) (fun x=>(x.instance_,x.first,x.arc)) ⟨0,0,0⟩ Z true (fun h=>by cases h)
instance fl_TlatchSite:Flat TlatchSite:=qfz (pairT instInt (pairT instInt instInt)) (fun x:TlatchSite=>(x.instance_,x.first,x.arc)) ⟨0,0,0⟩ Z true (fun h=>by cases h) (qaH _ _ (inferInstanceAs (Flat Int)) (qaH _ _ (inferInstanceAs (Flat Int)) (inferInstanceAs (Flat Int))))
abbrev qkF (x:TlatchSite):List Value:=[.int .i64 x.instance_,.int .i64 x.first,.int .i64 x.arc]
theorem qkd {x:TlatchSite}{cs:List Value}(h:GoT.R w S x cs):cs=(qkF x):=by
 obtain⟨_,_,rfl,rfl,⟨_,_,rfl,rfl,rfl⟩⟩:=h;exact Z
theorem qk0 (x:TlatchSite):GoT.R w S x (qkF x):=have h:=pR (rI x.instance_) (pR (rI x.first) (rI x.arc));h
structure Tl05Place where
 instance_:Int
 pin:Int
 net:Int
 drives:Bool
instance gt_Tl05Place:GoT Tl05Place:=isoT (pairT instInt (pairT instInt (pairT instInt instBool))) (fun x=>(x.instance_,x.pin,x.net,x.drives)) ⟨0,0,0,false⟩ Z true (fun h=>by cases h)
instance fl_Tl05Place:Flat Tl05Place:=qfz (pairT instInt (pairT instInt (pairT instInt instBool))) (fun x:Tl05Place=>(x.instance_,x.pin,x.net,x.drives)) ⟨0,0,0,false⟩ Z true (fun h=>by cases h) (qaH _ _ (inferInstanceAs (Flat Int)) (qaH _ _ (inferInstanceAs (Flat Int)) (qaH _ _ (inferInstanceAs (Flat Int)) (inferInstanceAs (Flat Bool)))))
abbrev qlo (x:Tl05Place):List Value:=[.int .i64 x.instance_,.int .i64 x.pin,.int .i64 x.net,.bool x.drives]
theorem qbp {x:Tl05Place}{cs:List Value}(h:GoT.R w S x cs):cs=(qlo x):=by
 obtain⟨_,_,rfl,rfl,⟨_,_,rfl,rfl,⟨_,_,rfl,rfl,rfl⟩⟩⟩:=h;exact Z
theorem qet (x:Tl05Place):GoT.R w S x (qlo x):=have h:=pR (rI x.instance_) (pR (rI x.pin) (pR (rI x.net) (rB x.drives)));h
structure qV where
 e0:Int
 e1:Int
instance gt_TA2_Int:GoT qV:=isoT (pairT instInt instInt) (fun x=>(x.e0,x.e1)) ⟨0,0⟩ Z true (fun h=>by cases h)
instance fl_TA2_Int:Flat qV:=qfz (pairT instInt instInt) (fun x:qV=>(x.e0,x.e1)) ⟨0,0⟩ Z true (fun h=>by cases h) (qaH _ _ (inferInstanceAs (Flat Int)) (inferInstanceAs (Flat Int)))
abbrev qsk (x:qV):List Value:=[.int .i64 x.e0,.int .i64 x.e1]
theorem qs9 {x:qV}{cs:List Value}(h:GoT.R w S x cs):cs=(qsk x):=by
 obtain⟨_,_,rfl,rfl,rfl⟩:=h;exact Z
theorem qc9 (x:qV):GoT.R w S x (qsk x):=have h:=pR (rI x.e0) (rI x.e1);h
structure Tweight where
 index:Int
 part:Int
instance gt_Tweight:GoT Tweight:=isoT (pairT instInt instInt) (fun x=>(x.index,x.part)) ⟨0,0⟩ Z true (fun h=>by cases h)
instance fl_Tweight:Flat Tweight:=qfz (pairT instInt instInt) (fun x:Tweight=>(x.index,x.part)) ⟨0,0⟩ Z true (fun h=>by cases h) (qaH _ _ (inferInstanceAs (Flat Int)) (inferInstanceAs (Flat Int)))
abbrev qpv (x:Tweight):List Value:=[.int .i64 x.index,.int .i64 x.part]
theorem qo0 {x:Tweight}{cs:List Value}(h:GoT.R w S x cs):cs=(qpv x):=by
 obtain⟨_,_,rfl,rfl,rfl⟩:=h;exact Z
theorem qnw (x:Tweight):GoT.R w S x (qpv x):=have h:=pR (rI x.index) (rI x.part);h
def tab:Tab:=[
 (2,⟨.int .i64,1,8,V (.int .i64 0),[]⟩),
 (3,⟨.int .i64,1,8,V (.int .i64 0),[]⟩),
 (4,⟨.bool,1,1,V (.bool false),[]⟩),
 (5,⟨.int .u8,1,1,V (.int .u8 0),[]⟩),
 (9,⟨.str,1,16,V (.string ByteArray.empty),[]⟩),
 (22,⟨.slice 285,1,24,V (.slice U 0 0),[]⟩),
 (24,⟨.struct,1,24,V (.agg #[.slice U 0 0]),[(0,1,V false)]⟩),
 (25,⟨.slice 287,1,24,V (.slice U 0 0),[]⟩),
 (26,⟨.slice 9,1,24,V (.slice U 0 0),[]⟩),
 (27,⟨.slice 290,1,24,V (.slice U 0 0),[]⟩),
 (29,⟨.struct,3,72,V (.agg #[.slice U 0 0,.slice U 0 0,.slice U 0 0]),[(0,1,V false),(1,1,V false),(2,1,V false)]⟩),
 (30,⟨.slice 202,1,24,V (.slice U 0 0),[]⟩),
 (32,⟨.struct,5,120,V (.agg #[.slice U 0 0,.slice U 0 0,.slice U 0 0,.slice U 0 0,.slice U 0 0]),[(0,1,V true),(1,3,V true),(4,1,V false)]⟩),
 (33,⟨.slice 4,1,24,V (.slice U 0 0),[]⟩),
 (34,⟨.slice 142,1,24,V (.slice U 0 0),[]⟩),
 (36,⟨.struct,3,72,V (.agg #[.slice U 0 0,.slice U 0 0,.slice U 0 0]),[(0,1,V false),(1,1,V false),(2,1,V false)]⟩),
 (37,⟨.slice 113,1,24,V (.slice U 0 0),[]⟩),
 (41,⟨.slice 2,1,24,V (.slice U 0 0),[]⟩),
 (44,⟨.slice 251,1,24,V (.slice U 0 0),[]⟩),
 (46,⟨.struct,1,24,V (.agg #[.slice U 0 0]),[(0,1,V false)]⟩),
 (47,⟨.slice 174,1,24,V (.slice U 0 0),[]⟩),
 (48,⟨.slice 294,1,24,V (.slice U 0 0),[]⟩),
 (50,⟨.struct,3,72,V (.agg #[.slice U 0 0,.slice U 0 0,.slice U 0 0]),[(0,1,V false),(1,1,V false),(2,1,V false)]⟩),
 (51,⟨.slice 210,1,24,V (.slice U 0 0),[]⟩),
 (53,⟨.struct,5,120,V (.agg #[.slice U 0 0,.slice U 0 0,.slice U 0 0,.slice U 0 0,.slice U 0 0]),[(0,1,V true),(1,3,V true),(4,1,V false)]⟩),
 (55,⟨.slice 138,1,24,V (.slice U 0 0),[]⟩),
 (57,⟨.struct,3,72,V (.agg #[.slice U 0 0,.slice U 0 0,.slice U 0 0]),[(0,1,V false),(1,1,V false),(2,1,V false)]⟩),
 (59,⟨.slice 111,1,24,V (.slice U 0 0),[]⟩),
 (71,⟨.struct,5,48,V (.agg #[.string ByteArray.empty,.int .i64 0,.int .i64 0,.int .i64 0,.int .i64 0]),[(0,1,V false),(1,1,V false),(2,1,V false),(3,1,V false),(4,1,V false)]⟩),
 (72,⟨.slice 144,1,24,V (.slice U 0 0),[]⟩),
 (77,⟨.struct,5,48,V (.agg #[.string ByteArray.empty,.int .i64 0,.int .i64 0,.int .i64 0,.int .i64 0]),[(0,1,V false),(1,1,V false),(2,1,V false),(3,1,V false),(4,1,V false)]⟩),
 (80,⟨.slice 140,1,24,V (.slice U 0 0),[]⟩),
 (88,⟨.slice 172,1,24,V (.slice U 0 0),[]⟩),
 (89,⟨.slice 180,1,24,V (.slice U 0 0),[]⟩),
 (91,⟨.struct,2,48,V (.agg #[.slice U 0 0,.slice U 0 0]),[(0,1,V false),(1,1,V false)]⟩),
 (111,⟨.struct,3,24,V (.agg #[.int .i64 0,.int .i64 0,.int .i64 0]),[(0,1,V false),(1,1,V false),(2,1,V false)]⟩),
 (113,⟨.struct,3,24,V (.agg #[.int .i64 0,.int .i64 0,.int .i64 0]),[(0,1,V false),(1,1,V false),(2,1,V false)]⟩),
 (114,⟨.ptr,1,8,V (.pointer U),[]⟩),
 (138,⟨.struct,2,16,V (.agg #[.int .i64 0,.int .i64 0]),[(0,1,V false),(1,1,V false)]⟩),
 (140,⟨.struct,5,40,V (.agg #[.int .i64 0,.int .i64 0,.int .i64 0,.int .i64 0,.int .i64 0]),[(0,1,V false),(1,2,V true),(3,2,V true)]⟩),
 (142,⟨.struct,2,16,V (.agg #[.int .i64 0,.int .i64 0]),[(0,1,V false),(1,1,V false)]⟩),
 (144,⟨.struct,5,40,V (.agg #[.int .i64 0,.int .i64 0,.int .i64 0,.int .i64 0,.int .i64 0]),[(0,1,V false),(1,2,V true),(3,2,V true)]⟩),
 (150,⟨.struct,2,32,V (.agg #[.pointer U,.slice U 0 0]),[(0,1,V false),(1,1,V false)]⟩),
 (151,⟨.slice 244,1,24,V (.slice U 0 0),[]⟩),
 (152,⟨.slice 187,1,24,V (.slice U 0 0),[]⟩),
 (153,⟨.slice 41,1,24,V (.slice U 0 0),[]⟩),
 (155,⟨.struct,10,240,V (.agg #[.slice U 0 0,.slice U 0 0,.slice U 0 0,.slice U 0 0,.slice U 0 0,.slice U 0 0,.slice U 0 0,.slice U 0 0,.slice U 0 0,.slice U 0 0]),[(0,5,V true),(5,1,V false),(6,1,V false),(7,1,V false),(8,1,V false),(9,1,V false)]⟩),
 (172,⟨.struct,2,16,V (.agg #[.int .i64 0,.int .i64 0]),[(0,1,V false),(1,1,V false)]⟩),
 (174,⟨.struct,3,48,V (.agg #[.string ByteArray.empty,.int .i64 0,.slice U 0 0]),[(0,1,V false),(1,1,V false),(2,1,V false)]⟩),
 (180,⟨.struct,4,32,V (.agg #[.int .i64 0,.int .i64 0,.int .i64 0,.int .i64 0]),[(0,1,V false),(1,1,V false),(2,1,V false),(3,1,V false)]⟩),
 (183,⟨.slice 271,1,24,V (.slice U 0 0),[]⟩),
 (187,⟨.struct,4,32,V (.agg #[.int .i64 0,.int .i64 0,.int .i64 0,.int .i64 0]),[(0,1,V false),(1,1,V false),(2,1,V false),(3,1,V false)]⟩),
 (202,⟨.struct,4,96,V (.agg #[.slice U 0 0,.slice U 0 0,.slice U 0 0,.slice U 0 0]),[(0,1,V false),(1,1,V false),(2,1,V false),(3,1,V false)]⟩),
 (210,⟨.struct,4,96,V (.agg #[.slice U 0 0,.slice U 0 0,.slice U 0 0,.slice U 0 0]),[(0,1,V false),(1,1,V false),(2,1,V false),(3,1,V false)]⟩),
 (244,⟨.struct,4,32,V (.agg #[.int .i64 0,.int .i64 0,.int .i64 0,.bool false]),[(0,1,V false),(1,1,V false),(2,1,V false),(3,1,V false)]⟩),
 (246,⟨.ptr,1,8,V (.pointer U),[]⟩),
 (248,⟨.slice 340,1,24,V (.slice U 0 0),[]⟩),
 (249,⟨.slice 254,1,24,V (.slice U 0 0),[]⟩),
 (251,⟨.struct,7,112,V (.agg #[.string ByteArray.empty,.int .i64 0,.slice U 0 0,.slice U 0 0,.slice U 0 0,.int .i64 0,.int .i64 0]),[(0,1,V false),(1,1,V false),(2,1,V false),(3,1,V false),(4,1,V false),(5,1,V false),(6,1,V false)]⟩),
 (252,⟨.slice 329,1,24,V (.slice U 0 0),[]⟩),
 (254,⟨.struct,6,80,V (.agg #[.int .i64 0,.int .i64 0,.int .i64 0,.int .i64 0,.slice U 0 0,.slice U 0 0]),[(0,1,V false),(1,1,V false),(2,1,V false),(3,1,V false),(4,1,V false),(5,1,V false)]⟩),
 (258,⟨.slice 261,1,24,V (.slice U 0 0),[]⟩),
 (261,⟨.struct,4,32,V (.agg #[.int .i64 0,.int .i64 0,.int .i64 0,.bool false]),[(0,1,V false),(1,1,V false),(2,1,V false),(3,1,V false)]⟩),
 (271,⟨.struct,3,24,V (.agg #[.int .i64 0,.int .i64 0,.int .i64 0]),[(0,1,V false),(1,1,V false),(2,1,V false)]⟩),
 (273,⟨.slice 3,1,24,V (.slice U 0 0),[]⟩),
 (282,⟨.slice 371,1,24,V (.slice U 0 0),[]⟩),
 (283,⟨.slice 375,1,24,V (.slice U 0 0),[]⟩),
 (285,⟨.struct,7,112,V (.agg #[.string ByteArray.empty,.int .i64 0,.slice U 0 0,.slice U 0 0,.slice U 0 0,.int .i64 0,.int .i64 0]),[(0,1,V false),(1,1,V false),(2,1,V false),(3,1,V false),(4,1,V false),(5,1,V false),(6,1,V false)]⟩),
 (287,⟨.struct,3,48,V (.agg #[.string ByteArray.empty,.int .i64 0,.slice U 0 0]),[(0,1,V false),(1,1,V false),(2,1,V false)]⟩),
 (290,⟨.struct,3,32,V (.agg #[.string ByteArray.empty,.int .i64 0,.int .i64 0]),[(0,1,V false),(1,1,V false),(2,1,V false)]⟩),
 (294,⟨.struct,3,32,V (.agg #[.string ByteArray.empty,.int .i64 0,.int .i64 0]),[(0,1,V false),(1,1,V false),(2,1,V false)]⟩),
 (329,⟨.struct,3,72,V (.agg #[.slice U 0 0,.slice U 0 0,.slice U 0 0]),[(0,1,V false),(1,1,V false),(2,1,V false)]⟩),
 (333,⟨.slice 335,1,24,V (.slice U 0 0),[]⟩),
 (335,⟨.arr 2 2,2,16,V (.agg #[.int .i64 0,.int .i64 0]),[]⟩),
 (340,⟨.struct,4,40,V (.agg #[.string ByteArray.empty,.int .i64 0,.int .i64 0,.bool false]),[(0,1,V false),(1,1,V false),(2,1,V false),(3,1,V false)]⟩),
 (348,⟨.slice 5,1,24,V (.slice U 0 0),[]⟩),
 (371,⟨.struct,4,40,V (.agg #[.string ByteArray.empty,.int .i64 0,.int .i64 0,.bool false]),[(0,1,V false),(1,1,V false),(2,1,V false),(3,1,V false)]⟩),
 (373,⟨.slice 408,1,24,V (.slice U 0 0),[]⟩),
 (375,⟨.struct,6,80,V (.agg #[.int .i64 0,.int .i64 0,.int .i64 0,.int .i64 0,.slice U 0 0,.slice U 0 0]),[(0,1,V false),(1,1,V false),(2,1,V false),(3,1,V false),(4,1,V false),(5,1,V false)]⟩),
 (384,⟨.int .u64,1,8,V (.int .u64 0),[]⟩),
 (393,⟨.slice 397,1,24,V (.slice U 0 0),[]⟩),
 (397,⟨.struct,2,16,V (.agg #[.int .i64 0,.int .i64 0]),[(0,1,V false),(1,1,V false)]⟩),
 (408,⟨.struct,3,72,V (.agg #[.slice U 0 0,.slice U 0 0,.slice U 0 0]),[(0,1,V false),(1,1,V false),(2,1,V false)]⟩)]
theorem qa:TabOk prog tab:=TabOk.mk (by kernel_rfl)
theorem rp {n:Nat}{Q:Exit→Act→World→Prop}{k:List It}{e:Env}{w:World}{all:Array Oper}{l:List Oper}{op:Op}{d t:Nat}{ps:String}{af:Array Edge}{v:Value}
  (h:pev tab e op=V v) (hn:Nat.blt d n=true) (hk:Run prog n Q (.ops all l::k) ((d,v)::e) w):Run prog n Q (.ops all (⟨V d,op,t,ps,af,U⟩::l)::k) e w:=r_p qa h hn hk
theorem dp {n:Nat}{Q:Exit→Act→World→Prop}{k:List It}{e:Env}{w:World}{all:Array Oper}{l:List Oper}{op:Op}{d t:Nat}{ps:String}{af:Array Edge}{v:Value}
  (h:pev tab e op=V v) (hn:Nat.blt d n=true) (hk:RunD prog n Q k all w l ((d,v)::e)):RunD prog n Q k all w (⟨V d,op,t,ps,af,U⟩::l) e:=d_p qa h hn hk
section
variable {P:Program}{n:Nat}{Q:Exit→Act→World→Prop}{k:List It}{e:Env}{w:World}
theorem zSR {i4:Nat}{o5:List Oper}{x3:Code}(h:Run P n Q (.ops o5.toArray o5::.code x3::k) e w):Run P n Q (.code (.seq (.region i4 o5.toArray false) x3)::k) e w:=qcQ <| qlZ h
theorem zKSR {i5:Nat}{o6:List Oper}{x4:Code}(h:Run P n Q (.ops o6.toArray o6::.code x4::k) e w):Run P n Q (.code .skip::.code (.seq (.region i5 o6.toArray false) x4)::k) e w:=qio <| qcQ <| qlZ h
theorem zNSR {a1:Array Oper}{i5:Nat}{o6:List Oper}{x4:Code}(h:Run P n Q (.ops o6.toArray o6::.code x4::k) e w):Run P n Q (.ops a1 []::.code (.seq (.region i5 o6.toArray false) x4)::k) e w:=qcP <| qcQ <| qlZ h
theorem zKS {x3:Code}{x4:Code}(h:Run P n Q (.code x3::.code x4::k) e w):Run P n Q (.code .skip::.code (.seq x3 x4)::k) e w:=qio <| qcQ h
theorem zNS {a1:Array Oper}{x3:Code}{x4:Code}(h:Run P n Q (.code x3::.code x4::k) e w):Run P n Q (.ops a1 []::.code (.seq x3 x4)::k) e w:=qcP <| qcQ h
theorem zNSS {a1:Array Oper}{x5:Code}{x6:Code}{x4:Code}(h:Run P n Q (.code x5::.code x6::.code x4::k) e w):Run P n Q (.ops a1 []::.code (.seq (.seq x5 x6) x4)::k) e w:=qcP <| qcQ <| qcQ h
theorem zKSB {i5:Nat}{x6:Code}{x4:Code}(h:Run P n Q (.code x6::.blk i5::.code x4::k) e w):Run P n Q (.code .skip::.code (.seq (.block i5 x6) x4)::k) e w:=qio <| qcQ <| qn h
theorem zKSBSR {i5:Nat}{i9:Nat}{o10:List Oper}{x8:Code}{x4:Code}(h:Run P n Q (.ops o10.toArray o10::.code x8::.blk i5::.code x4::k) e w):Run P n Q (.code .skip::.code (.seq (.block i5 (.seq (.region i9 o10.toArray false) x8)) x4)::k) e w:=qio <| qcQ <| qn <| qcQ <| qlZ h
theorem zSS {x4:Code}{x5:Code}{x3:Code}(h:Run P n Q (.code x4::.code x5::.code x3::k) e w):Run P n Q (.code (.seq (.seq x4 x5) x3)::k) e w:=qcQ <| qcQ h
theorem zKSS {x5:Code}{x6:Code}{x4:Code}(h:Run P n Q (.code x5::.code x6::.code x4::k) e w):Run P n Q (.code .skip::.code (.seq (.seq x5 x6) x4)::k) e w:=qio <| qcQ <| qcQ h
end
section
variable {w0 w:World}{L:List Ch}{n:Nat}{Q:Exit→Act→World→Prop}{k k':List It}{e e':Env}{all:Array Oper}{l l':List Oper}{z:List Nat}
theorem X0 (m:Nat)(hh:xs tab n m [] k e [] []=V (k',e',z,z))(hk:Run prog n Q k' e' w):Run prog n Q k e w:=((qtP (P:=prog) (Q:=Q) (w:=w) qa m _ _ _ _ _ _ _ _ _ (fun _ h=>by cases h) rfl hh).2 rfl).2 hk
theorem Y0 (m:Nat)(hh:xd tab n all m [] l e [] []=V (l',e',z,z))(hk:RunD prog n Q k all w l' e'):RunD prog n Q k all w l e:=((qy6 (P:=prog) (Q:=Q) (k:=k) (w:=w) (all:=all) qa m _ _ _ _ _ _ _ _ _ (fun _ h=>by cases h) rfl hh).2 rfl).2 hk
theorem X1 (m:Nat)(i0:Nat){b0 t0:Nat}{cs0:List Value}(h:SH w0 w L)(hh:(L[i0]?,xs tab n m [(b0,cs0)] k e [] [])=(V (Ch.box b0 cs0 t0),V (k',e',z,z)))(hk:Run prog n Q k' e' w):Run prog n Q k e w:=by
 simp only[Prod.mk.injEq] at hh;exact((qtP (P:=prog) (Q:=Q) (w:=w) qa m _ _ _ _ _ _ _ _ _ (fun p hp=>by
  simp only[Jb,jO,or_false] at hp;rcases hp with rfl
  ·exact h.box i0 hh.1) Z hh.2).2 Z).2 hk
theorem Y1 (m:Nat)(i0:Nat){b0 t0:Nat}{cs0:List Value}(h:SH w0 w L)(hh:(L[i0]?,xd tab n all m [(b0,cs0)] l e [] [])=(V (Ch.box b0 cs0 t0),V (l',e',z,z)))(hk:RunD prog n Q k all w l' e'):RunD prog n Q k all w l e:=by
 simp only[Prod.mk.injEq] at hh;exact((qy6 (P:=prog) (Q:=Q) (k:=k) (w:=w) (all:=all) qa m _ _ _ _ _ _ _ _ _ (fun p hp=>by
  simp only[Jb,jO,or_false] at hp;rcases hp with rfl
  ·exact h.box i0 hh.1) Z hh.2).2 Z).2 hk
theorem X2 (m:Nat)(i0 i1:Nat){b0 t0:Nat}{cs0:List Value}{b1 t1:Nat}{cs1:List Value}(h:SH w0 w L)(hh:(L[i0]?,L[i1]?,xs tab n m [(b0,cs0),(b1,cs1)] k e [] [])=(V (Ch.box b0 cs0 t0),V (Ch.box b1 cs1 t1),V (k',e',z,z)))(hk:Run prog n Q k' e' w):Run prog n Q k e w:=by
 simp only[Prod.mk.injEq] at hh;exact((qtP (P:=prog) (Q:=Q) (w:=w) qa m _ _ _ _ _ _ _ _ _ (fun p hp=>by
  simp only[Jb,jO,or_false] at hp;rcases hp with rfl|rfl
  ·exact h.box i0 hh.1
  ·exact h.box i1 hh.2.1) Z hh.2.2).2 Z).2 hk
theorem X3 (m:Nat)(i0 i1 i2:Nat){b0 t0:Nat}{cs0:List Value}{b1 t1:Nat}{cs1:List Value}{b2 t2:Nat}{cs2:List Value}(h:SH w0 w L)(hh:(L[i0]?,L[i1]?,L[i2]?,xs tab n m [(b0,cs0),(b1,cs1),(b2,cs2)] k e [] [])=(V (Ch.box b0 cs0 t0),V (Ch.box b1 cs1 t1),V (Ch.box b2 cs2 t2),V (k',e',z,z)))(hk:Run prog n Q k' e' w):Run prog n Q k e w:=by
 simp only[Prod.mk.injEq] at hh;exact((qtP (P:=prog) (Q:=Q) (w:=w) qa m _ _ _ _ _ _ _ _ _ (fun p hp=>by
  simp only[Jb,jO,or_false] at hp;rcases hp with rfl|rfl|rfl
  ·exact h.box i0 hh.1
  ·exact h.box i1 hh.2.1
  ·exact h.box i2 hh.2.2.1) Z hh.2.2.2).2 Z).2 hk
theorem X4 (m:Nat)(i0 i1 i2 i3:Nat){b0 t0:Nat}{cs0:List Value}{b1 t1:Nat}{cs1:List Value}{b2 t2:Nat}{cs2:List Value}{b3 t3:Nat}{cs3:List Value}(h:SH w0 w L)(hh:(L[i0]?,L[i1]?,L[i2]?,L[i3]?,xs tab n m [(b0,cs0),(b1,cs1),(b2,cs2),(b3,cs3)] k e [] [])=(V (Ch.box b0 cs0 t0),V (Ch.box b1 cs1 t1),V (Ch.box b2 cs2 t2),V (Ch.box b3 cs3 t3),V (k',e',z,z)))(hk:Run prog n Q k' e' w):Run prog n Q k e w:=by
 simp only[Prod.mk.injEq] at hh;exact((qtP (P:=prog) (Q:=Q) (w:=w) qa m _ _ _ _ _ _ _ _ _ (fun p hp=>by
  simp only[Jb,jO,or_false] at hp;rcases hp with rfl|rfl|rfl|rfl
  ·exact h.box i0 hh.1
  ·exact h.box i1 hh.2.1
  ·exact h.box i2 hh.2.2.1
  ·exact h.box i3 hh.2.2.2.1) Z hh.2.2.2.2).2 Z).2 hk
end
section
variable {w0 w:World}{L:List Ch}{n:Nat}{Q:Exit→Act→World→Prop}{k:List It}{e:Env}{all:Array Oper}{l:List Oper}
theorem zp1 {op0:Op}{d0 t0:Nat}{s0:String}{f0:Array Edge}{v0:Value}(h:(pev tab (e) op0,Nat.blt d0 n)=(V v0,true))(hk:Run prog n Q (.ops all l::k) ((d0,v0)::e) w):Run prog n Q (.ops all (⟨V d0,op0,t0,s0,f0,U⟩::l)::k) e w:=by
 have H:=h;simp only[Prod.mk.injEq] at H;exact rp (H.1) (H.2) (hk)
theorem zd1 {op0:Op}{d0 t0:Nat}{s0:String}{f0:Array Edge}{v0:Value}(h:(pev tab (e) op0,Nat.blt d0 n)=(V v0,true))(hk:RunD prog n Q k all w l ((d0,v0)::e)):RunD prog n Q k all w (⟨V d0,op0,t0,s0,f0,U⟩::l) e:=by
 have H:=h;simp only[Prod.mk.injEq] at H;exact dp (H.1) (H.2) (hk)
theorem zp2 {op0:Op}{d0 t0:Nat}{s0:String}{f0:Array Edge}{v0:Value}{op1:Op}{d1 t1:Nat}{s1:String}{f1:Array Edge}{v1:Value}(h:(pev tab (e) op0,Nat.blt d0 n,pev tab ((d0,v0)::e) op1,Nat.blt d1 n)=(V v0,true,V v1,true))(hk:Run prog n Q (.ops all l::k) ((d1,v1)::(d0,v0)::e) w):Run prog n Q (.ops all (⟨V d0,op0,t0,s0,f0,U⟩::⟨V d1,op1,t1,s1,f1,U⟩::l)::k) e w:=by
 have H:=h;simp only[Prod.mk.injEq] at H;exact rp (H.1) (H.2.1) (rp (H.2.2.1) (H.2.2.2) (hk))
theorem zd2 {op0:Op}{d0 t0:Nat}{s0:String}{f0:Array Edge}{v0:Value}{op1:Op}{d1 t1:Nat}{s1:String}{f1:Array Edge}{v1:Value}(h:(pev tab (e) op0,Nat.blt d0 n,pev tab ((d0,v0)::e) op1,Nat.blt d1 n)=(V v0,true,V v1,true))(hk:RunD prog n Q k all w l ((d1,v1)::(d0,v0)::e)):RunD prog n Q k all w (⟨V d0,op0,t0,s0,f0,U⟩::⟨V d1,op1,t1,s1,f1,U⟩::l) e:=by
 have H:=h;simp only[Prod.mk.injEq] at H;exact dp (H.1) (H.2.1) (dp (H.2.2.1) (H.2.2.2) (hk))
theorem zp3 {op0:Op}{d0 t0:Nat}{s0:String}{f0:Array Edge}{v0:Value}{op1:Op}{d1 t1:Nat}{s1:String}{f1:Array Edge}{v1:Value}{op2:Op}{d2 t2:Nat}{s2:String}{f2:Array Edge}{v2:Value}(h:(pev tab (e) op0,Nat.blt d0 n,pev tab ((d0,v0)::e) op1,Nat.blt d1 n,pev tab ((d1,v1)::(d0,v0)::e) op2,Nat.blt d2 n)=(V v0,true,V v1,true,V v2,true))(hk:Run prog n Q (.ops all l::k) ((d2,v2)::(d1,v1)::(d0,v0)::e) w):Run prog n Q (.ops all (⟨V d0,op0,t0,s0,f0,U⟩::⟨V d1,op1,t1,s1,f1,U⟩::⟨V d2,op2,t2,s2,f2,U⟩::l)::k) e w:=by
 have H:=h;simp only[Prod.mk.injEq] at H;exact rp (H.1) (H.2.1) (rp (H.2.2.1) (H.2.2.2.1) (rp (H.2.2.2.2.1) (H.2.2.2.2.2) (hk)))
theorem zd3 {op0:Op}{d0 t0:Nat}{s0:String}{f0:Array Edge}{v0:Value}{op1:Op}{d1 t1:Nat}{s1:String}{f1:Array Edge}{v1:Value}{op2:Op}{d2 t2:Nat}{s2:String}{f2:Array Edge}{v2:Value}(h:(pev tab (e) op0,Nat.blt d0 n,pev tab ((d0,v0)::e) op1,Nat.blt d1 n,pev tab ((d1,v1)::(d0,v0)::e) op2,Nat.blt d2 n)=(V v0,true,V v1,true,V v2,true))(hk:RunD prog n Q k all w l ((d2,v2)::(d1,v1)::(d0,v0)::e)):RunD prog n Q k all w (⟨V d0,op0,t0,s0,f0,U⟩::⟨V d1,op1,t1,s1,f1,U⟩::⟨V d2,op2,t2,s2,f2,U⟩::l) e:=by
 have H:=h;simp only[Prod.mk.injEq] at H;exact dp (H.1) (H.2.1) (dp (H.2.2.1) (H.2.2.2.1) (dp (H.2.2.2.2.1) (H.2.2.2.2.2) (hk)))
theorem zp4 {op0:Op}{d0 t0:Nat}{s0:String}{f0:Array Edge}{v0:Value}{op1:Op}{d1 t1:Nat}{s1:String}{f1:Array Edge}{v1:Value}{op2:Op}{d2 t2:Nat}{s2:String}{f2:Array Edge}{v2:Value}{op3:Op}{d3 t3:Nat}{s3:String}{f3:Array Edge}{v3:Value}(h:(pev tab (e) op0,Nat.blt d0 n,pev tab ((d0,v0)::e) op1,Nat.blt d1 n,pev tab ((d1,v1)::(d0,v0)::e) op2,Nat.blt d2 n,pev tab ((d2,v2)::(d1,v1)::(d0,v0)::e) op3,Nat.blt d3 n)=(V v0,true,V v1,true,V v2,true,V v3,true))(hk:Run prog n Q (.ops all l::k) ((d3,v3)::(d2,v2)::(d1,v1)::(d0,v0)::e) w):Run prog n Q (.ops all (⟨V d0,op0,t0,s0,f0,U⟩::⟨V d1,op1,t1,s1,f1,U⟩::⟨V d2,op2,t2,s2,f2,U⟩::⟨V d3,op3,t3,s3,f3,U⟩::l)::k) e w:=by
 have H:=h;simp only[Prod.mk.injEq] at H;exact rp (H.1) (H.2.1) (rp (H.2.2.1) (H.2.2.2.1) (rp (H.2.2.2.2.1) (H.2.2.2.2.2.1) (rp (H.2.2.2.2.2.2.1) (H.2.2.2.2.2.2.2) (hk))))
theorem zd4 {op0:Op}{d0 t0:Nat}{s0:String}{f0:Array Edge}{v0:Value}{op1:Op}{d1 t1:Nat}{s1:String}{f1:Array Edge}{v1:Value}{op2:Op}{d2 t2:Nat}{s2:String}{f2:Array Edge}{v2:Value}{op3:Op}{d3 t3:Nat}{s3:String}{f3:Array Edge}{v3:Value}(h:(pev tab (e) op0,Nat.blt d0 n,pev tab ((d0,v0)::e) op1,Nat.blt d1 n,pev tab ((d1,v1)::(d0,v0)::e) op2,Nat.blt d2 n,pev tab ((d2,v2)::(d1,v1)::(d0,v0)::e) op3,Nat.blt d3 n)=(V v0,true,V v1,true,V v2,true,V v3,true))(hk:RunD prog n Q k all w l ((d3,v3)::(d2,v2)::(d1,v1)::(d0,v0)::e)):RunD prog n Q k all w (⟨V d0,op0,t0,s0,f0,U⟩::⟨V d1,op1,t1,s1,f1,U⟩::⟨V d2,op2,t2,s2,f2,U⟩::⟨V d3,op3,t3,s3,f3,U⟩::l) e:=by
 have H:=h;simp only[Prod.mk.injEq] at H;exact dp (H.1) (H.2.1) (dp (H.2.2.1) (H.2.2.2.1) (dp (H.2.2.2.2.1) (H.2.2.2.2.2.1) (dp (H.2.2.2.2.2.2.1) (H.2.2.2.2.2.2.2) (hk))))
theorem zp5 {op0:Op}{d0 t0:Nat}{s0:String}{f0:Array Edge}{v0:Value}{op1:Op}{d1 t1:Nat}{s1:String}{f1:Array Edge}{v1:Value}{op2:Op}{d2 t2:Nat}{s2:String}{f2:Array Edge}{v2:Value}{op3:Op}{d3 t3:Nat}{s3:String}{f3:Array Edge}{v3:Value}{op4:Op}{d4 t4:Nat}{s4:String}{f4:Array Edge}{v4:Value}(h:(pev tab (e) op0,Nat.blt d0 n,pev tab ((d0,v0)::e) op1,Nat.blt d1 n,pev tab ((d1,v1)::(d0,v0)::e) op2,Nat.blt d2 n,pev tab ((d2,v2)::(d1,v1)::(d0,v0)::e) op3,Nat.blt d3 n,pev tab ((d3,v3)::(d2,v2)::(d1,v1)::(d0,v0)::e) op4,Nat.blt d4 n)=(V v0,true,V v1,true,V v2,true,V v3,true,V v4,true))(hk:Run prog n Q (.ops all l::k) ((d4,v4)::(d3,v3)::(d2,v2)::(d1,v1)::(d0,v0)::e) w):Run prog n Q (.ops all (⟨V d0,op0,t0,s0,f0,U⟩::⟨V d1,op1,t1,s1,f1,U⟩::⟨V d2,op2,t2,s2,f2,U⟩::⟨V d3,op3,t3,s3,f3,U⟩::⟨V d4,op4,t4,s4,f4,U⟩::l)::k) e w:=by
 have H:=h;simp only[Prod.mk.injEq] at H;exact rp (H.1) (H.2.1) (rp (H.2.2.1) (H.2.2.2.1) (rp (H.2.2.2.2.1) (H.2.2.2.2.2.1) (rp (H.2.2.2.2.2.2.1) (H.2.2.2.2.2.2.2.1) (rp (H.2.2.2.2.2.2.2.2.1) (H.2.2.2.2.2.2.2.2.2) (hk)))))
theorem zd5 {op0:Op}{d0 t0:Nat}{s0:String}{f0:Array Edge}{v0:Value}{op1:Op}{d1 t1:Nat}{s1:String}{f1:Array Edge}{v1:Value}{op2:Op}{d2 t2:Nat}{s2:String}{f2:Array Edge}{v2:Value}{op3:Op}{d3 t3:Nat}{s3:String}{f3:Array Edge}{v3:Value}{op4:Op}{d4 t4:Nat}{s4:String}{f4:Array Edge}{v4:Value}(h:(pev tab (e) op0,Nat.blt d0 n,pev tab ((d0,v0)::e) op1,Nat.blt d1 n,pev tab ((d1,v1)::(d0,v0)::e) op2,Nat.blt d2 n,pev tab ((d2,v2)::(d1,v1)::(d0,v0)::e) op3,Nat.blt d3 n,pev tab ((d3,v3)::(d2,v2)::(d1,v1)::(d0,v0)::e) op4,Nat.blt d4 n)=(V v0,true,V v1,true,V v2,true,V v3,true,V v4,true))(hk:RunD prog n Q k all w l ((d4,v4)::(d3,v3)::(d2,v2)::(d1,v1)::(d0,v0)::e)):RunD prog n Q k all w (⟨V d0,op0,t0,s0,f0,U⟩::⟨V d1,op1,t1,s1,f1,U⟩::⟨V d2,op2,t2,s2,f2,U⟩::⟨V d3,op3,t3,s3,f3,U⟩::⟨V d4,op4,t4,s4,f4,U⟩::l) e:=by
 have H:=h;simp only[Prod.mk.injEq] at H;exact dp (H.1) (H.2.1) (dp (H.2.2.1) (H.2.2.2.1) (dp (H.2.2.2.2.1) (H.2.2.2.2.2.1) (dp (H.2.2.2.2.2.2.1) (H.2.2.2.2.2.2.2.1) (dp (H.2.2.2.2.2.2.2.2.1) (H.2.2.2.2.2.2.2.2.2) (hk)))))
theorem zl (i j:Nat){d t ty:Nat}{x:Operand}{te:TE}{ps:String}{af:Array Edge}{v:Value}{b:Nat}{cs:List Value}{t':TypeId}(h:SH w0 w L)(hh:(L[i]?,opv e x,tab.get t,ld te cs j,Nat.blt d n)=(V (Ch.box b cs t'),V (.pointer (V ⟨b,0+j,U⟩)),V te,V v,true))
  (hk:Run prog n Q (.ops all l::k) ((d,v)::e) w):Run prog n Q (.ops all (⟨V d,.load t x,ty,ps,af,U⟩::l)::k) e w:=by
 simp only[Prod.mk.injEq] at hh;exact r_v (qhX qa (h.box i hh.1) (j:=j) hh.2.1 hh.2.2.1 hh.2.2.2.1) hh.2.2.2.2 hk
theorem zc (j:Nat){d t ty:Nat}{x:Operand}{te:TE}{ps:String}{af:Array Edge}{v:Value}{b o:Nat}{cs:List Value}(h:CellsAt w b o cs)(hh:(opv e x,tab.get t,ld te cs j,Nat.blt d n)=(V (.pointer (V ⟨b,o+j,U⟩)),V te,V v,true))
  (hk:Run prog n Q (.ops all l::k) ((d,v)::e) w):Run prog n Q (.ops all (⟨V d,.load t x,ty,ps,af,U⟩::l)::k) e w:=by
 simp only[Prod.mk.injEq] at hh;exact r_v (qhX qa h (j:=j) hh.1 hh.2.1 hh.2.2.1) hh.2.2.2 hk
theorem zdc (j:Nat){d t ty:Nat}{x:Operand}{te:TE}{ps:String}{af:Array Edge}{v:Value}{b o:Nat}{cs:List Value}(h:CellsAt w b o cs)(hh:(opv e x,tab.get t,ld te cs j,Nat.blt d n)=(V (.pointer (V ⟨b,o+j,U⟩)),V te,V v,true))
  (hk:RunD prog n Q k all w l ((d,v)::e)):RunD prog n Q k all w (⟨V d,.load t x,ty,ps,af,U⟩::l) e:=by
 simp only[Prod.mk.injEq] at hh;exact d_v (fun _ hb=>qhX qa (h.below hb) (j:=j) hh.1 hh.2.1 hh.2.2.1) hh.2.2.2 hk
theorem zx {x i:Operand}{t ty d el m:Nat}{te te1:TE}{ps:String}{af:Array Edge}{p:Option Addr}{ln c:Nat}{kd:IntKind}{iv:Int}{b o q:Nat}(hp:p=V ⟨b,o,U⟩)(hq:q=o+iv.toNat*m)(hlt:0≤iv∧iv<ln)(hh:(opv e x,opv e i,tab.get t,te.kind,tab.get el,te1.size,Nat.blt d n)=(V (.slice p ln c),V (.int kd iv),V te,TK.slice el,V te1,m,true))(hk:Run prog n Q (.ops all l::k) ((d,.pointer (V ⟨b,q,U⟩))::e) w):Run prog n Q (.ops all (⟨V d,.indexAddr t x i,ty,ps,af,U⟩::l)::k) e w:=by
 simp only[Prod.mk.injEq] at hh;exact r_v (qvw qa hp hq hlt hh.1 hh.2.1 hh.2.2.1 hh.2.2.2.1 hh.2.2.2.2.1 hh.2.2.2.2.2.1) hh.2.2.2.2.2.2 hk
theorem zxe {x i:Operand}{t ty d el m:Nat}{te te1:TE}{ps:String}{af:Array Edge}{p:Option Addr}{ln c:Nat}{kd:IntKind}{iv:Int}{b o q:Nat}{α:Prop}(hp:p=V ⟨b,o,U⟩)(hq:q=o+iv.toNat*m)(hlt:0≤iv∧iv<ln∧α)(hh:(opv e x,opv e i,tab.get t,te.kind,tab.get el,te1.size,Nat.blt d n)=(V (.slice p ln c),V (.int kd iv),V te,TK.slice el,V te1,m,true))(hk:Run prog n Q (.ops all l::k) ((d,.pointer (V ⟨b,q,U⟩))::e) w):Run prog n Q (.ops all (⟨V d,.indexAddr t x i,ty,ps,af,U⟩::l)::k) e w:=zx hp hq ⟨hlt.1,hlt.2.1⟩ hh hk
theorem zdx {x i:Operand}{t ty d el m:Nat}{te te1:TE}{ps:String}{af:Array Edge}{p:Option Addr}{ln c:Nat}{kd:IntKind}{iv:Int}{b o q:Nat}(hp:p=V ⟨b,o,U⟩)(hq:q=o+iv.toNat*m)(hlt:0≤iv∧iv<ln)(hh:(opv e x,opv e i,tab.get t,te.kind,tab.get el,te1.size,Nat.blt d n)=(V (.slice p ln c),V (.int kd iv),V te,TK.slice el,V te1,m,true))(hk:RunD prog n Q k all w l ((d,.pointer (V ⟨b,q,U⟩))::e)):RunD prog n Q k all w (⟨V d,.indexAddr t x i,ty,ps,af,U⟩::l) e:=by
 simp only[Prod.mk.injEq] at hh;exact d_v (fun _ _=>qvw qa hp hq hlt hh.1 hh.2.1 hh.2.2.1 hh.2.2.2.1 hh.2.2.2.2.1 hh.2.2.2.2.2.1) hh.2.2.2.2.2.2 hk
theorem zdxe {x i:Operand}{t ty d el m:Nat}{te te1:TE}{ps:String}{af:Array Edge}{p:Option Addr}{ln c:Nat}{kd:IntKind}{iv:Int}{b o q:Nat}{α:Prop}(hp:p=V ⟨b,o,U⟩)(hq:q=o+iv.toNat*m)(hlt:0≤iv∧iv<ln∧α)(hh:(opv e x,opv e i,tab.get t,te.kind,tab.get el,te1.size,Nat.blt d n)=(V (.slice p ln c),V (.int kd iv),V te,TK.slice el,V te1,m,true))(hk:RunD prog n Q k all w l ((d,.pointer (V ⟨b,q,U⟩))::e)):RunD prog n Q k all w (⟨V d,.indexAddr t x i,ty,ps,af,U⟩::l) e:=zdx hp hq ⟨hlt.1,hlt.2.1⟩ hh hk
theorem zs (i:Nat){t ty:Nat}{ps:String}{af:Array Edge}{x v:Operand}{te:TE}{b j:Nat}{cs us cs':List Value}{t':TypeId}{u:Value}{L':List Ch}(h:SH w0 w L)
  (hh:(L[i]?,opv e x,opv e v,cellsL u,tab.get t,Nat.beq us.length te.size,Nat.ble (j+us.length) cs.length,ones us,splN cs j us,setN L i (Ch.box b cs' t'))=(V (Ch.box b cs t'),V (.pointer (V ⟨b,j,U⟩)),V u,us,V te,true,true,true,V cs',V L'))
  (hk:∀ w',SH w0 w' L'→Run prog n Q (.ops all l::k) e w'):Run prog n Q (.ops all (⟨U,.store t x v,ty,ps,af,U⟩::l)::k) e w:=by
 simp only[Prod.mk.injEq] at hh;obtain⟨h1,h2,h3,h4,h5,h6,h7,h8,h9,h10⟩:=hh;subst h4;have e1:=qsD h9;have e2:=qve h10;subst e1 e2;exact qyU qa i h h1 h2 h3 h5 h6 h7 h8 hk
end
section
variable {P:Program}{fnc:Func}{R:Ending→World→Prop}{n:Nat}{k:List It}{e:Env}{w0 w:World}{ops:Array Oper}{st:List Nat}{fuel:Nat}
theorem M0 (K:Nat)(is:List Nat){C:World→Prop}{m K0 f f':Nat}{e':Env}{z:List Nat}(hC:C w)(hh:xa tab n ops is [] f e [] []=V (f',e',z,z))
  (hk:RunA prog n (bodyPost prog fnc R) k ops st C f' (bits m K) e' w) (ho:oka ops st is (bits m K0) (bits m K)=true:=by kernel_rfl):RunA prog n (bodyPost prog fnc R) k ops st C f (bits m K0) e w:=by
 exact((qtv (C:=C) (w:=w) (P:=prog) qa hC is _ _ _ _ _ _ _ _ _ _ _ (fun _ h=>by cases h) rfl hh ho).2 rfl).2 hk
theorem G0 (K:Nat)(is:List Nat){C:World→Prop}{m K0 f f':Nat}{e':Env}{z:List Nat}{all:Array Oper}(hC:C w)(hh:xa tab n ops is [] f e [] []=V (f',e',z,z))
  (hk:RunA prog n (bodyPost prog fnc R) k ops st C f' (bits m K) e' w) (ho:oka ops st is (bits m K0) (bits m K)=true:=by kernel_rfl):Run prog n (bodyPost prog fnc R) (.ops all []::.goal (NextA prog n (bodyPost prog fnc R) k ops st C f (bits m K0))::k) e w:=
 Ag hC (M0 K is (C:=C) hC hh hk ho)
theorem M1 (K:Nat)(is:List Nat)(i0:Nat){b0 t0:Nat}{cs0:List Value}{LA:List Ch}{m K0 f f':Nat}{e':Env}{z:List Nat}(hC:SH w0 w LA)(hh:(LA[i0]?,xa tab n ops is [(b0,cs0)] f e [] [])=(V (Ch.box b0 cs0 t0),V (f',e',z,z)))
  (hk:RunA prog n (bodyPost prog fnc R) k ops st (fun w'=>SH w0 w' LA) f' (bits m K) e' w) (ho:oka ops st is (bits m K0) (bits m K)=true:=by kernel_rfl):RunA prog n (bodyPost prog fnc R) k ops st (fun w'=>SH w0 w' LA) f (bits m K0) e w:=by
 simp only[Prod.mk.injEq] at hh;exact((qtv (C:=(fun w'=>SH w0 w' LA)) (w:=w) (P:=prog) qa hC is _ _ _ _ _ _ _ _ _ _ _ (fun p hp _ hw=>by
  simp only[Jb,jO,or_false] at hp;rcases hp with rfl
  ·exact SH.box hw i0 hh.1) Z hh.2 ho).2 Z).2 hk
theorem M2 (K:Nat)(is:List Nat)(i0 i1:Nat){b0 t0:Nat}{cs0:List Value}{b1 t1:Nat}{cs1:List Value}{LA:List Ch}{m K0 f f':Nat}{e':Env}{z:List Nat}(hC:SH w0 w LA)(hh:(LA[i0]?,LA[i1]?,xa tab n ops is [(b0,cs0),(b1,cs1)] f e [] [])=(V (Ch.box b0 cs0 t0),V (Ch.box b1 cs1 t1),V (f',e',z,z)))
  (hk:RunA prog n (bodyPost prog fnc R) k ops st (fun w'=>SH w0 w' LA) f' (bits m K) e' w) (ho:oka ops st is (bits m K0) (bits m K)=true:=by kernel_rfl):RunA prog n (bodyPost prog fnc R) k ops st (fun w'=>SH w0 w' LA) f (bits m K0) e w:=by
 simp only[Prod.mk.injEq] at hh;exact((qtv (C:=(fun w'=>SH w0 w' LA)) (w:=w) (P:=prog) qa hC is _ _ _ _ _ _ _ _ _ _ _ (fun p hp _ hw=>by
  simp only[Jb,jO,or_false] at hp;rcases hp with rfl|rfl
  ·exact SH.box hw i0 hh.1
  ·exact SH.box hw i1 hh.2.1) Z hh.2.2 ho).2 Z).2 hk
theorem M3 (K:Nat)(is:List Nat)(i0 i1 i2:Nat){b0 t0:Nat}{cs0:List Value}{b1 t1:Nat}{cs1:List Value}{b2 t2:Nat}{cs2:List Value}{LA:List Ch}{m K0 f f':Nat}{e':Env}{z:List Nat}(hC:SH w0 w LA)(hh:(LA[i0]?,LA[i1]?,LA[i2]?,xa tab n ops is [(b0,cs0),(b1,cs1),(b2,cs2)] f e [] [])=(V (Ch.box b0 cs0 t0),V (Ch.box b1 cs1 t1),V (Ch.box b2 cs2 t2),V (f',e',z,z)))
  (hk:RunA prog n (bodyPost prog fnc R) k ops st (fun w'=>SH w0 w' LA) f' (bits m K) e' w) (ho:oka ops st is (bits m K0) (bits m K)=true:=by kernel_rfl):RunA prog n (bodyPost prog fnc R) k ops st (fun w'=>SH w0 w' LA) f (bits m K0) e w:=by
 simp only[Prod.mk.injEq] at hh;exact((qtv (C:=(fun w'=>SH w0 w' LA)) (w:=w) (P:=prog) qa hC is _ _ _ _ _ _ _ _ _ _ _ (fun p hp _ hw=>by
  simp only[Jb,jO,or_false] at hp;rcases hp with rfl|rfl|rfl
  ·exact SH.box hw i0 hh.1
  ·exact SH.box hw i1 hh.2.1
  ·exact SH.box hw i2 hh.2.2.1) Z hh.2.2.2 ho).2 Z).2 hk
theorem M4 (K:Nat)(is:List Nat)(i0 i1 i2 i3:Nat){b0 t0:Nat}{cs0:List Value}{b1 t1:Nat}{cs1:List Value}{b2 t2:Nat}{cs2:List Value}{b3 t3:Nat}{cs3:List Value}{LA:List Ch}{m K0 f f':Nat}{e':Env}{z:List Nat}(hC:SH w0 w LA)(hh:(LA[i0]?,LA[i1]?,LA[i2]?,LA[i3]?,xa tab n ops is [(b0,cs0),(b1,cs1),(b2,cs2),(b3,cs3)] f e [] [])=(V (Ch.box b0 cs0 t0),V (Ch.box b1 cs1 t1),V (Ch.box b2 cs2 t2),V (Ch.box b3 cs3 t3),V (f',e',z,z)))
  (hk:RunA prog n (bodyPost prog fnc R) k ops st (fun w'=>SH w0 w' LA) f' (bits m K) e' w) (ho:oka ops st is (bits m K0) (bits m K)=true:=by kernel_rfl):RunA prog n (bodyPost prog fnc R) k ops st (fun w'=>SH w0 w' LA) f (bits m K0) e w:=by
 simp only[Prod.mk.injEq] at hh;exact((qtv (C:=(fun w'=>SH w0 w' LA)) (w:=w) (P:=prog) qa hC is _ _ _ _ _ _ _ _ _ _ _ (fun p hp _ hw=>by
  simp only[Jb,jO,or_false] at hp;rcases hp with rfl|rfl|rfl|rfl
  ·exact SH.box hw i0 hh.1
  ·exact SH.box hw i1 hh.2.1
  ·exact SH.box hw i2 hh.2.2.1
  ·exact SH.box hw i3 hh.2.2.2.1) Z hh.2.2.2.2 ho).2 Z).2 hk
theorem Aw (i K:Nat){C:World→Prop}{m K0 d:Nat}{op:Op}{t:Nat}{ps:String}{af:Array Edge}{v:Value}(hv:∀ w',C w'→Val prog n e ⟨V d,op,t,ps,af,U⟩ w' v)(hC:C w)(hh:(ops[i]?,Nat.blt d n)=(V (⟨V d,op,t,ps,af,U⟩:Oper),true))
  (hk:RunA prog n (bodyPost prog fnc R) k ops st C fuel (bits m K) ((d,v)::e) w) (hl:(bits m K0).setIfInBounds i true=bits m K:=by kernel_rfl)
  (hb:(Region.noSelect ops&&Region.free .any ops (bits m K0) i&&(Region.ready .any ops (bits m K0)).contains i&&st.all (fun s=>!(Nat.beq s i)&&waitsB ops i s&&!((bits m K0).getD s true)))=true:=by kernel_rfl) :
  RunA prog n (bodyPost prog fnc R) k ops st C (fuel+1) (bits m K0) e w:=by
 simp only[Prod.mk.injEq] at hh;exact qhs i hh.1 _ hl hb hv hC hh.2 hk
theorem Al (i K j:Nat){LA:List Ch}{m K0 d t ty b o:Nat}{x:Operand}{te:TE}{ps:String}{af:Array Edge}{v:Value}{cs:List Value}(hc:CellsAt w0 b o cs)(hC:SH w0 w LA)
  (hh:(ops[i]?,opv e x,tab.get t,ld te cs j,Nat.blt d n)=(V (⟨V d,.load t x,ty,ps,af,U⟩:Oper),V (.pointer (V ⟨b,o+j,U⟩)),V te,V v,true))
  (hk:RunA prog n (bodyPost prog fnc R) k ops st (fun w'=>SH w0 w' LA) fuel (bits m K) ((d,v)::e) w) (hl:(bits m K0).setIfInBounds i true=bits m K:=by kernel_rfl)
  (hb:(Region.noSelect ops&&Region.free .any ops (bits m K0) i&&(Region.ready .any ops (bits m K0)).contains i&&st.all (fun s=>!(Nat.beq s i)&&waitsB ops i s&&!((bits m K0).getD s true)))=true:=by kernel_rfl) :
  RunA prog n (bodyPost prog fnc R) k ops st (fun w'=>SH w0 w' LA) (fuel+1) (bits m K0) e w:=by
 simp only[Prod.mk.injEq] at hh;exact qhs i hh.1 _ hl hb (fun w' hw=>qhX qa (hc.below hw.below) (j:=j) hh.2.1 hh.2.2.1 hh.2.2.2.1) hC hh.2.2.2.2 hk
theorem Ax (i K:Nat){C:World→Prop}{m K0 d t ty el q:Nat}{x ix:Operand}{te te1:TE}{ps:String}{af:Array Edge}{p:Option Addr}{ln c sz:Nat}{kd:IntKind}{iv:Int}{b o:Nat}(hp:p=V ⟨b,o,U⟩)(hq:q=o+iv.toNat*sz)(hlt:0≤iv∧iv<ln)(hC:C w)
  (hh:(ops[i]?,opv e x,opv e ix,tab.get t,te.kind,tab.get el,te1.size,Nat.blt d n)=(V (⟨V d,.indexAddr t x ix,ty,ps,af,U⟩:Oper),V (.slice p ln c),V (.int kd iv),V te,TK.slice el,V te1,sz,true))
  (hk:RunA prog n (bodyPost prog fnc R) k ops st C fuel (bits m K) ((d,.pointer (V ⟨b,q,U⟩))::e) w) (hl:(bits m K0).setIfInBounds i true=bits m K:=by kernel_rfl)
  (hb:(Region.noSelect ops&&Region.free .any ops (bits m K0) i&&(Region.ready .any ops (bits m K0)).contains i&&st.all (fun s=>!(Nat.beq s i)&&waitsB ops i s&&!((bits m K0).getD s true)))=true:=by kernel_rfl) :
  RunA prog n (bodyPost prog fnc R) k ops st C (fuel+1) (bits m K0) e w:=by
 simp only[Prod.mk.injEq] at hh;exact qhs i hh.1 _ hl hb (fun w' _=>qvw qa hp hq hlt hh.2.1 hh.2.2.1 hh.2.2.2.1 hh.2.2.2.2.1 hh.2.2.2.2.2.1 hh.2.2.2.2.2.2.1) hC hh.2.2.2.2.2.2.2 hk
theorem Ae (i K:Nat){C:World→Prop}{m K0 d t ty el q:Nat}{x ix:Operand}{te te1:TE}{ps:String}{af:Array Edge}{p:Option Addr}{ln c sz:Nat}{kd:IntKind}{iv:Int}{b o:Nat}{α:Prop}(hp:p=V ⟨b,o,U⟩)(hq:q=o+iv.toNat*sz)(hlt:0≤iv∧iv<ln∧α)(hC:C w)
  (hh:(ops[i]?,opv e x,opv e ix,tab.get t,te.kind,tab.get el,te1.size,Nat.blt d n)=(V (⟨V d,.indexAddr t x ix,ty,ps,af,U⟩:Oper),V (.slice p ln c),V (.int kd iv),V te,TK.slice el,V te1,sz,true))
  (hk:RunA prog n (bodyPost prog fnc R) k ops st C fuel (bits m K) ((d,.pointer (V ⟨b,q,U⟩))::e) w) (hl:(bits m K0).setIfInBounds i true=bits m K:=by kernel_rfl)
  (hb:(Region.noSelect ops&&Region.free .any ops (bits m K0) i&&(Region.ready .any ops (bits m K0)).contains i&&st.all (fun s=>!(Nat.beq s i)&&waitsB ops i s&&!((bits m K0).getD s true)))=true:=by kernel_rfl) :
  RunA prog n (bodyPost prog fnc R) k ops st C (fuel+1) (bits m K0) e w:=Ax i K hp hq ⟨hlt.1,hlt.2.1⟩ hC hh hk hl hb
theorem rb {fn:Func}{L:List Ch}{x r:Bool}(h:SH w0 w L)(F:V x=V r)(hr:res1 e fn.results.toList=V (.bool x)) :
  Run prog n (bodyPost prog fn fun e w'=>∃ v,e=.returned v∧Below w0.heap.size w0 w'∧∃ us,v=tup us∧GoVs.Vs w' (fresh w0 w') r us) (.code .ret::k) e w:=qz0 qa h F (qvt hr)
theorem ri {fn:Func}{L:List Ch}{x r:Int}(h:SH w0 w L)(F:V x=V r)(hr:res1 e fn.results.toList=V (.int .i64 x)) :
  Run prog n (bodyPost prog fn fun e w'=>∃ v,e=.returned v∧Below w0.heap.size w0 w'∧∃ us,v=tup us∧GoVs.Vs w' (fresh w0 w') r us) (.code .ret::k) e w:=qzZ qa h F (qvt hr)
theorem rO {fn:Func}{L:List Ch}{α:Type}[GoT α]{r:α}{S:Nat→Prop}{cs:List Value}(i:Nat)(h:SH w0 w L)(hi:L[i]?=V (Ch.own S r cs))(hr:ResOk tab e w fn.results.toList [GoT.v α cs]) :
  Run prog n (bodyPost prog fn fun e w'=>∃ v,e=.returned v∧Below w0.heap.size w0 w'∧∃ us,v=tup us∧GoVs.Vs w' (fresh w0 w') r us) (.code .ret::k) e w:=qae qa _ h hr (PV.done h (qaj (qaA i h hi)))
theorem zV {ρ:Type}[GoVs ρ]{f:FuncId}{fn:Func}{c:Code}{vs:List Value}{r:ρ}(m:Nat)(hf:prog.funcs[f]?=V fn)(hh:(fn.body,fn.ntmps,Nat.ble vs.length m)=(V c,m,true))
  (h:SH w w []→Run prog m (bodyPost prog fn fun e w'=>∃ v,e=.returned v∧Below w.heap.size w w'∧∃ us,v=tup us∧GoVs.Vs w' (fresh w w') r us) [.code c] (argEnv 0 vs) w):RetV prog f vs w r:=by
 simp only[Prod.mk.injEq] at hh;exact qtV hf hh.1 hh.2.1 hh.2.2 h
end
section
variable {w0 w:World}{L:List Ch}{n:Nat}{Q:Exit→Act→World→Prop}{k:List It}{e:Env}{all:Array Oper}{l:List Oper}{d ty:Nat}{ps:String}{af:Array Edge}{x:Operand}{args:Array Operand}{ats:Array TypeId}{f:FuncId}{fi ca:Array Value}{av vs:List Value}{β:Type}{rr:β}
theorem zcI {F:Option Int}{g:Int→Option β}(h:SH w0 w L)(hF:F.bind g=V rr)(hc:∀ {r},F=V r→RetV prog f vs w r)
  (hh:(opv e x,opvs e args.toList,fi.toList++av++ca.toList,Nat.blt d n)=(V (.func (.func f) fi ca),V av,vs,true))
  (hk:∀ r w' ,SH w0 w' (L)→g r=V rr→Run prog n Q (.ops all l::k) ((d,.int .i64 r)::e) w') (hcall:qeS prog f:=by exact cA Z):Run prog n Q (.ops all (⟨V d,.call ⟨.value x,args,ats⟩,ty,ps,af,U⟩::l)::k) e w:=by
 obtain⟨r,hr,hF⟩:=qc hF;simp only[Prod.mk.injEq] at hh;exact qcv r h hcall (hc hr) hh.1 hh.2.1 hh.2.2.1 hh.2.2.2 (fun w'  h'=>hk r w'  h' hF)
theorem zcB {F:Option Bool}{g:Bool→Option β}(h:SH w0 w L)(hF:F.bind g=V rr)(hc:∀ {r},F=V r→RetV prog f vs w r)
  (hh:(opv e x,opvs e args.toList,fi.toList++av++ca.toList,Nat.blt d n)=(V (.func (.func f) fi ca),V av,vs,true))
  (hk:∀ r w' ,SH w0 w' (L)→g r=V rr→Run prog n Q (.ops all l::k) ((d,.bool r)::e) w') (hcall:qeS prog f:=by exact cA Z):Run prog n Q (.ops all (⟨V d,.call ⟨.value x,args,ats⟩,ty,ps,af,U⟩::l)::k) e w:=by
 obtain⟨r,hr,hF⟩:=qc hF;simp only[Prod.mk.injEq] at hh;exact qyu r h hcall (hc hr) hh.1 hh.2.1 hh.2.2.1 hh.2.2.2 (fun w'  h'=>hk r w'  h' hF)
theorem zcS {F:Option ByteArray}{g:ByteArray→Option β}(h:SH w0 w L)(hF:F.bind g=V rr)(hc:∀ {r},F=V r→RetV prog f vs w r)
  (hh:(opv e x,opvs e args.toList,fi.toList++av++ca.toList,Nat.blt d n)=(V (.func (.func f) fi ca),V av,vs,true))
  (hk:∀ r w' ,SH w0 w' (L)→g r=V rr→Run prog n Q (.ops all l::k) ((d,.string r)::e) w') (hcall:qeS prog f:=by exact cA Z):Run prog n Q (.ops all (⟨V d,.call ⟨.value x,args,ats⟩,ty,ps,af,U⟩::l)::k) e w:=by
 obtain⟨r,hr,hF⟩:=qc hF;simp only[Prod.mk.injEq] at hh;exact qyz r h hcall (hc hr) hh.1 hh.2.1 hh.2.2.1 hh.2.2.2 (fun w'  h'=>hk r w'  h' hF)
theorem zcL {α:Type}[GoT α]{F:Option (List α)}{g:(List α)→Option β}(h:SH w0 w L)(hF:F.bind g=V rr)(hc:∀ {r},F=V r→RetV prog f vs w r)
  (hh:(opv e x,opvs e args.toList,fi.toList++av++ca.toList,Nat.blt d n)=(V (.func (.func f) fi ca),V av,vs,true))
  (hk:∀ r w' S p c,SH w0 w' (Ch.own S r [.slice p r.length c]::L)→g r=V rr→Run prog n Q (.ops all l::k) ((d,.slice p r.length c)::e) w') (hcall:qeS prog f:=by exact cA Z):Run prog n Q (.ops all (⟨V d,.call ⟨.value x,args,ats⟩,ty,ps,af,U⟩::l)::k) e w:=by
 obtain⟨r,hr,hF⟩:=qc hF;simp only[Prod.mk.injEq] at hh;exact qhC r h hcall (hc hr) hh.1 hh.2.1 hh.2.2.1 hh.2.2.2 (fun w' S p c h'=>hk r w' S p c h' hF)
theorem zcO {α:Type}[GoT α]{F:Option α}{g:α→Option β}(h:SH w0 w L)(hF:F.bind g=V rr)(hc:∀ {r},F=V r→RetV prog f vs w r)
  (hh:(opv e x,opvs e args.toList,fi.toList++av++ca.toList,Nat.blt d n)=(V (.func (.func f) fi ca),V av,vs,true))
  (hk:∀ r w' S cs,SH w0 w' (Ch.own S r cs::L)→g r=V rr→Run prog n Q (.ops all l::k) ((d,GoT.v α cs)::e) w') (hcall:qeS prog f:=by exact cA Z):Run prog n Q (.ops all (⟨V d,.call ⟨.value x,args,ats⟩,ty,ps,af,U⟩::l)::k) e w:=by
 obtain⟨r,hr,hF⟩:=qc hF;simp only[Prod.mk.injEq] at hh;exact qek r h hcall (hc hr) hh.1 hh.2.1 hh.2.2.1 hh.2.2.2 (fun w' S cs h'=>hk r w' S cs h' hF)
end
def noC:List Nat:=[0,1,306,336]
theorem allC:((List.range 349).all fun f=>noC.contains f || callB prog f)=true:=by kernel_rfl
theorem cA {f:Nat}(h:(Nat.blt f 349&&!noC.contains f)=true):qeS prog f:=by
 rw[jf,Nat.blt_eq,jD] at h;have:=List.all_eq_true.1 allC f (List.mem_range.2 h.1);rw[h.2] at this;exact qwI this
theorem cB (f:Nat)(h:(Nat.blt f 349&&!noC.contains f)=true):qeS prog f:=cA h
def qcp (_:Nat)(a:(List Int))(left:Int):Option Int:=
 bif decide ((W64 (left-(a.length:Int)))<0) then V (-1) else
 V (W64 (left-(a.length:Int)))
theorem qcg {a:(List Int)}{left:Int}(ha1:Ro w a cs1){r:Int}(F:qcp n a left=V r):RetV prog 196 [GoT.v (List Int) cs1,.int .i64 left] w r:=by
 obtain⟨_,_,rfl,_⟩:=ha1;refine zV 12 func196 Z fun h=>X0 18 Z (qh Z F ?_ ?_)<;>intro F
 ·exact X0 4 Z (ri h F Z)
 exact X0 6 Z (ri h F Z)
def qk3 (_:Nat)(a:qam)(left:Int):Option Int:=
 bif decide ((W64 (left-(a.Au.size:Int)))<0) then V (-1) else
 V (W64 (left-(a.Au.size:Int)))
theorem qry {a:qam}{left:Int}(ha1:Ro w a cs1){r:Int}(F:qk3 n a left=V r):RetV prog 287 [GoT.v qam cs1,.int .i64 left] w r:=by
 obtain rfl:=qaV ha1;refine zV 13 func287 Z fun h=>zSR (qx h Z Z fun _ _ h=>X1 17 0 h Z (qh Z F ?_ ?_))<;>intro F
 ·exact X0 4 Z (ri h F Z)
 exact X0 6 Z (ri h F Z)
def qfW (a:(List qam)):Nat→Int→Int→Option (Flow Int (Int×Int))
 | 0,_,_=>U
 | n+1,i1,i2=>
  bif decide (i2<(a.length:Int)) then
   (idx a i2).bind fun y1=>
   (qk3 n y1 i1).bind fun r1=>
   bif decide (r1<0) then V (.ret (-1)) else
   qfW a n r1 (W64 (i2+1))
  else
   V (.nxt (i1,i2))
def qm7 (n:Nat)(a:(List qam))(left:Int):Option Int:=
 bif decide ((W64 (left-(a.length:Int)))<0) then V (-1) else
 (qfW a n (W64 (left-(a.length:Int))) 0).bind fun o=>match o with
 | .ret r=>V r
 | .nxt (i1,_)=>
  V i1
theorem qq4 {a:(List qam)}{left:Int}(ha1:Ro w a cs1){r:Int}(F:qm7 n a left=V r):RetV prog 250 [GoT.v (List qam) cs1,.int .i64 left] w r:=by
 obtain⟨p1,k1,rfl,s1⟩:=ha1;refine zV 27 func250 Z fun h=>X0 18 Z (qh Z F ?_ ?_)<;>intro F
 ·exact X0 4 Z (ri h F Z)
 refine X0 6 Z ?_;obtain⟨o1,F,hK1⟩:=qc F;refine qn (rL (fun m e w'=>∃(i1:Int) (i2:Int),qfW a m i1 i2=V o1∧e=[(0,.slice p1 a.length k1),(1,.int .i64 i1),(5,.int .i64 i2)]∧SH w w' []) n ⟨_,_,F,rfl,h⟩ Z ?_);rintro m1 _ _ ⟨i1,i2,F,rfl,h⟩;rcases m1 with _|m1
 ·cases F
 refine X0 8 Z (qh Z F ?_ ?_)<;>intro F
 ·refine X0 7 Z ?_;obtain⟨y1,_,F,he1,_,_,_,_,hp1,hq1,hr1,hc3⟩:=s1.ix F;obtain rfl:=qaV hr1;refine zxe hp1 hq1 he1 Z (zc 0 (hc3.below h.below) Z (zp1 Z (zcI h F (qry (qee y1)) Z fun _ _ h F=>X0 7 Z (qh Z F ?_ ?_))))<;>intro F
  ·refine X0 4 Z ?_;obtain rfl:=qb F;replace F:=hK1;exact ri h F Z
  exact X0 7 Z (rK ⟨_,_,F,rfl,h⟩ Z)
 refine qq Z ?_;obtain rfl:=qb F;replace F:=hK1;exact X0 5 Z (ri h F Z)
def qiK (n:Nat)(a:qu)(left:Int):Option Int:=
 (qcp n a.Bl left).bind fun r1=>
 bif decide (r1<0) then V (-1) else
 (qcp n a.Bd r1).bind fun r2=>
 bif decide (r2<0) then V (-1) else
 (qcp n a.Az r2).bind fun r3=>
 bif decide (r3<0) then V (-1) else
 V r3
theorem qqv {a:qu}{left:Int}(ha1:Ro w a cs1){r:Int}(F:qiK n a left=V r):RetV prog 325 [GoT.v qu cs1,.int .i64 left] w r:=by
 obtain⟨_,_,_,_,_,_,rfl,s1,s2,s3⟩:=qaJ ha1;refine zV 24 func325 Z fun h=>zSR (qx h Z Z fun _ _ h=>X1 7 0 h Z (zcI h F (qcg ⟨_,_,rfl,(h.oldS s1)⟩) Z fun _ _ h F=>X0 8 Z (qh Z F ?_ ?_)))<;>intro F
 ·exact X0 4 Z (ri h F Z)
 refine X1 6 0 h Z (zcI h F (qcg ⟨_,_,rfl,(h.oldS s2)⟩) Z fun _ _ h F=>X0 8 Z (qh Z F ?_ ?_))<;>intro F
 ·exact X0 4 Z (ri h F Z)
 refine X1 6 0 h Z (zcI h F (qcg ⟨_,_,rfl,(h.oldS s3)⟩) Z fun _ _ h F=>X0 8 Z (qh Z F ?_ ?_))<;>intro F
 ·exact X0 4 Z (ri h F Z)
 exact X0 6 Z (ri h F Z)
def qeM (a:(List qu)):Nat→Int→Int→Option (Flow Int (Int×Int))
 | 0,_,_=>U
 | n+1,i1,i2=>
  bif decide (i2<(a.length:Int)) then
   (idx a i2).bind fun y1=>
   (qiK n y1 i1).bind fun r1=>
   bif decide (r1<0) then V (.ret (-1)) else
   qeM a n r1 (W64 (i2+1))
  else
   V (.nxt (i1,i2))
def qjB (n:Nat)(a:(List qu))(left:Int):Option Int:=
 bif decide ((W64 (left-(a.length:Int)))<0) then V (-1) else
 (qeM a n (W64 (left-(a.length:Int))) 0).bind fun o=>match o with
 | .ret r=>V r
 | .nxt (i1,_)=>
  V i1
theorem ql0 {a:(List qu)}{left:Int}(ha1:Ro w a cs1){r:Int}(F:qjB n a left=V r):RetV prog 310 [GoT.v (List qu) cs1,.int .i64 left] w r:=by
 obtain⟨p1,k1,rfl,s1⟩:=ha1;refine zV 27 func310 Z fun h=>X0 18 Z (qh Z F ?_ ?_)<;>intro F
 ·exact X0 4 Z (ri h F Z)
 refine X0 6 Z ?_;obtain⟨o1,F,hK1⟩:=qc F;refine qn (rL (fun m e w'=>∃(i1:Int) (i2:Int),qeM a m i1 i2=V o1∧e=[(0,.slice p1 a.length k1),(1,.int .i64 i1),(5,.int .i64 i2)]∧SH w w' []) n ⟨_,_,F,rfl,h⟩ Z ?_);rintro m1 _ _ ⟨i1,i2,F,rfl,h⟩;rcases m1 with _|m1
 ·cases F
 refine X0 8 Z (qh Z F ?_ ?_)<;>intro F
 ·refine X0 7 Z ?_;obtain⟨y1,_,F,he1,_,_,_,_,hp1,hq1,hr1,hc3⟩:=s1.ix F;obtain⟨_,_,_,_,_,_,rfl,s2,s3,s4⟩:=qaJ hr1;refine zxe hp1 hq1 he1 Z (zc 0 (hc3.below h.below) Z (zp1 Z (zcI h F (qqv (qfE y1 (h.oldS s2) (h.oldS s3) (h.oldS s4))) Z fun _ _ h F=>X0 7 Z (qh Z F ?_ ?_))))<;>intro F
  ·refine X0 4 Z ?_;obtain rfl:=qb F;replace F:=hK1;exact ri h F Z
  exact X0 7 Z (rK ⟨_,_,F,rfl,h⟩ Z)
 refine qq Z ?_;obtain rfl:=qb F;replace F:=hK1;exact X0 5 Z (ri h F Z)
def qkS (n:Nat)(a:qH)(left:Int):Option Int:=
 (qjB n a.Bk left).bind fun r1=>
 bif decide (r1<0) then V (-1) else
 (qjB n a.Ba r1).bind fun r2=>
 bif decide (r2<0) then V (-1) else
 V r2
theorem qrJ {a:qH}{left:Int}(ha1:Ro w a cs1){r:Int}(F:qkS n a left=V r):RetV prog 288 [GoT.v qH cs1,.int .i64 left] w r:=by
 obtain⟨_,_,_,_,rfl,s1,s2⟩:=qX ha1;refine zV 18 func288 Z fun h=>zSR (qx h Z Z fun _ _ h=>X1 7 0 h Z (zcI h F (ql0 ⟨_,_,rfl,(h.oldS s1)⟩) Z fun _ _ h F=>X0 8 Z (qh Z F ?_ ?_)))<;>intro F
 ·exact X0 4 Z (ri h F Z)
 refine X1 6 0 h Z (zcI h F (ql0 ⟨_,_,rfl,(h.oldS s2)⟩) Z fun _ _ h F=>X0 8 Z (qh Z F ?_ ?_))<;>intro F
 ·exact X0 4 Z (ri h F Z)
 exact X0 6 Z (ri h F Z)
def qfT (a:(List qH)):Nat→Int→Int→Option (Flow Int (Int×Int))
 | 0,_,_=>U
 | n+1,i1,i2=>
  bif decide (i2<(a.length:Int)) then
   (idx a i2).bind fun y1=>
   (qkS n y1 i1).bind fun r1=>
   bif decide (r1<0) then V (.ret (-1)) else
   qfT a n r1 (W64 (i2+1))
  else
   V (.nxt (i1,i2))
def qne (n:Nat)(a:(List qH))(left:Int):Option Int:=
 bif decide ((W64 (left-(a.length:Int)))<0) then V (-1) else
 (qfT a n (W64 (left-(a.length:Int))) 0).bind fun o=>match o with
 | .ret r=>V r
 | .nxt (i1,_)=>
  V i1
theorem qrc {a:(List qH)}{left:Int}(ha1:Ro w a cs1){r:Int}(F:qne n a left=V r):RetV prog 251 [GoT.v (List qH) cs1,.int .i64 left] w r:=by
 obtain⟨p1,k1,rfl,s1⟩:=ha1;refine zV 27 func251 Z fun h=>X0 18 Z (qh Z F ?_ ?_)<;>intro F
 ·exact X0 4 Z (ri h F Z)
 refine X0 6 Z ?_;obtain⟨o1,F,hK1⟩:=qc F;refine qn (rL (fun m e w'=>∃(i1:Int) (i2:Int),qfT a m i1 i2=V o1∧e=[(0,.slice p1 a.length k1),(1,.int .i64 i1),(5,.int .i64 i2)]∧SH w w' []) n ⟨_,_,F,rfl,h⟩ Z ?_);rintro m1 _ _ ⟨i1,i2,F,rfl,h⟩;rcases m1 with _|m1
 ·cases F
 refine X0 8 Z (qh Z F ?_ ?_)<;>intro F
 ·refine X0 7 Z ?_;obtain⟨y1,_,F,he1,_,_,_,_,hp1,hq1,hr1,hc3⟩:=s1.ix F;obtain⟨_,_,_,_,rfl,s2,s3⟩:=qX hr1;refine zxe hp1 hq1 he1 Z (zc 0 (hc3.below h.below) Z (zp1 Z (zcI h F (qrJ (qfo y1 (h.oldS s2) (h.oldS s3))) Z fun _ _ h F=>X0 7 Z (qh Z F ?_ ?_))))<;>intro F
  ·refine X0 4 Z ?_;obtain rfl:=qb F;replace F:=hK1;exact ri h F Z
  exact X0 7 Z (rK ⟨_,_,F,rfl,h⟩ Z)
 refine qq Z ?_;obtain rfl:=qb F;replace F:=hK1;exact X0 5 Z (ri h F Z)
def qj7 (n:Nat)(a:qv)(left:Int):Option Int:=
 bif decide ((W64 (left-(a.Au.size:Int)))<0) then V (-1) else
 (qm7 n a.As (W64 (left-(a.Au.size:Int)))).bind fun r1=>
 bif decide (r1<0) then V (-1) else
 (qne n a.Ak r1).bind fun r2=>
 bif decide (r2<0) then V (-1) else
 (qcp n a.Bm r2).bind fun r3=>
 bif decide (r3<0) then V (-1) else
 V r3
theorem qrm {a:qv}{left:Int}(ha1:Ro w a cs1){r:Int}(F:qj7 n a left=V r):RetV prog 193 [GoT.v qv cs1,.int .i64 left] w r:=by
 obtain⟨_,_,_,_,_,_,rfl,s1,s2,s3⟩:=qO ha1;refine zV 31 func193 Z fun h=>zSR (qx h Z Z fun _ _ h=>X1 17 0 h Z (qh Z F ?_ ?_))<;>intro F
 ·exact X0 4 Z (ri h F Z)
 refine X1 6 0 h Z (zcI h F (qq4 ⟨_,_,rfl,(h.oldS s1)⟩) Z fun _ _ h F=>X0 8 Z (qh Z F ?_ ?_))<;>intro F
 ·exact X0 4 Z (ri h F Z)
 refine X1 6 0 h Z (zcI h F (qrc ⟨_,_,rfl,(h.oldS s2)⟩) Z fun _ _ h F=>X0 8 Z (qh Z F ?_ ?_))<;>intro F
 ·exact X0 4 Z (ri h F Z)
 refine X1 6 0 h Z (zcI h F (qcg ⟨_,_,rfl,(h.oldS s3)⟩) Z fun _ _ h F=>X0 8 Z (qh Z F ?_ ?_))<;>intro F
 ·exact X0 4 Z (ri h F Z)
 exact X0 6 Z (ri h F Z)
def qe7 (a:(List qv)):Nat→Int→Int→Option (Flow Int (Int×Int))
 | 0,_,_=>U
 | n+1,i1,i2=>
  bif decide (i2<(a.length:Int)) then
   (idx a i2).bind fun y1=>
   (qj7 n y1 i1).bind fun r1=>
   bif decide (r1<0) then V (.ret (-1)) else
   qe7 a n r1 (W64 (i2+1))
  else
   V (.nxt (i1,i2))
def qmo (n:Nat)(a:(List qv))(left:Int):Option Int:=
 bif decide ((W64 (left-(a.length:Int)))<0) then V (-1) else
 (qe7 a n (W64 (left-(a.length:Int))) 0).bind fun o=>match o with
 | .ret r=>V r
 | .nxt (i1,_)=>
  V i1
theorem qp7 {a:(List qv)}{left:Int}(ha1:Ro w a cs1){r:Int}(F:qmo n a left=V r):RetV prog 115 [GoT.v (List qv) cs1,.int .i64 left] w r:=by
 obtain⟨p1,k1,rfl,s1⟩:=ha1;refine zV 27 func115 Z fun h=>X0 18 Z (qh Z F ?_ ?_)<;>intro F
 ·exact X0 4 Z (ri h F Z)
 refine X0 6 Z ?_;obtain⟨o1,F,hK1⟩:=qc F;refine qn (rL (fun m e w'=>∃(i1:Int) (i2:Int),qe7 a m i1 i2=V o1∧e=[(0,.slice p1 a.length k1),(1,.int .i64 i1),(5,.int .i64 i2)]∧SH w w' []) n ⟨_,_,F,rfl,h⟩ Z ?_);rintro m1 _ _ ⟨i1,i2,F,rfl,h⟩;rcases m1 with _|m1
 ·cases F
 refine X0 8 Z (qh Z F ?_ ?_)<;>intro F
 ·refine X0 7 Z ?_;obtain⟨y1,_,F,he1,_,_,_,_,hp1,hq1,hr1,hc3⟩:=s1.ix F;obtain⟨_,_,_,_,_,_,rfl,s2,s3,s4⟩:=qO hr1;refine zxe hp1 hq1 he1 Z (zc 0 (hc3.below h.below) Z (zp1 Z (zcI h F (qrm (qjq y1 (h.oldS s2) (h.oldS s3) (h.oldS s4))) Z fun _ _ h F=>X0 7 Z (qh Z F ?_ ?_))))<;>intro F
  ·refine X0 4 Z ?_;obtain rfl:=qb F;replace F:=hK1;exact ri h F Z
  exact X0 7 Z (rK ⟨_,_,F,rfl,h⟩ Z)
 refine qq Z ?_;obtain rfl:=qb F;replace F:=hK1;exact X0 5 Z (ri h F Z)
def qiY (n:Nat)(a:qr)(left:Int):Option Int:=
 (qmo n a.Am left).bind fun r1=>
 bif decide (r1<0) then V (-1) else
 V r1
theorem qoN {a:qr}{left:Int}(ha1:Ro w a cs1){r:Int}(F:qiY n a left=V r):RetV prog 41 [GoT.v qr cs1,.int .i64 left] w r:=by
 obtain⟨_,_,rfl,s1⟩:=qbN ha1;refine zV 12 func41 Z fun h=>zSR (qx h Z Z fun _ _ h=>X1 7 0 h Z (zcI h F (qp7 ⟨_,_,rfl,(h.oldS s1)⟩) Z fun _ _ h F=>X0 8 Z (qh Z F ?_ ?_)))<;>intro F
 ·exact X0 4 Z (ri h F Z)
 exact X0 6 Z (ri h F Z)
def qgH (n:Nat)(a:qk)(left:Int):Option Int:=
 bif decide ((W64 (left-(a.Au.size:Int)))<0) then V (-1) else
 (qcp n a.Ah (W64 (left-(a.Au.size:Int)))).bind fun r1=>
 bif decide (r1<0) then V (-1) else
 V r1
theorem qob {a:qk}{left:Int}(ha1:Ro w a cs1){r:Int}(F:qgH n a left=V r):RetV prog 194 [GoT.v qk cs1,.int .i64 left] w r:=by
 obtain⟨_,_,rfl,s1⟩:=qF ha1;refine zV 19 func194 Z fun h=>zSR (qx h Z Z fun _ _ h=>X1 17 0 h Z (qh Z F ?_ ?_))<;>intro F
 ·exact X0 4 Z (ri h F Z)
 refine X1 6 0 h Z (zcI h F (qcg ⟨_,_,rfl,(h.oldS s1)⟩) Z fun _ _ h F=>X0 8 Z (qh Z F ?_ ?_))<;>intro F
 ·exact X0 4 Z (ri h F Z)
 exact X0 6 Z (ri h F Z)
def qc4 (a:(List qk)):Nat→Int→Int→Option (Flow Int (Int×Int))
 | 0,_,_=>U
 | n+1,i1,i2=>
  bif decide (i2<(a.length:Int)) then
   (idx a i2).bind fun y1=>
   (qgH n y1 i1).bind fun r1=>
   bif decide (r1<0) then V (.ret (-1)) else
   qc4 a n r1 (W64 (i2+1))
  else
   V (.nxt (i1,i2))
def qjo (n:Nat)(a:(List qk))(left:Int):Option Int:=
 bif decide ((W64 (left-(a.length:Int)))<0) then V (-1) else
 (qc4 a n (W64 (left-(a.length:Int))) 0).bind fun o=>match o with
 | .ret r=>V r
 | .nxt (i1,_)=>
  V i1
theorem qnX {a:(List qk)}{left:Int}(ha1:Ro w a cs1){r:Int}(F:qjo n a left=V r):RetV prog 116 [GoT.v (List qk) cs1,.int .i64 left] w r:=by
 obtain⟨p1,k1,rfl,s1⟩:=ha1;refine zV 27 func116 Z fun h=>X0 18 Z (qh Z F ?_ ?_)<;>intro F
 ·exact X0 4 Z (ri h F Z)
 refine X0 6 Z ?_;obtain⟨o1,F,hK1⟩:=qc F;refine qn (rL (fun m e w'=>∃(i1:Int) (i2:Int),qc4 a m i1 i2=V o1∧e=[(0,.slice p1 a.length k1),(1,.int .i64 i1),(5,.int .i64 i2)]∧SH w w' []) n ⟨_,_,F,rfl,h⟩ Z ?_);rintro m1 _ _ ⟨i1,i2,F,rfl,h⟩;rcases m1 with _|m1
 ·cases F
 refine X0 8 Z (qh Z F ?_ ?_)<;>intro F
 ·refine X0 7 Z ?_;obtain⟨y1,_,F,he1,_,_,_,_,hp1,hq1,hr1,hc3⟩:=s1.ix F;obtain⟨_,_,rfl,s2⟩:=qF hr1;refine zxe hp1 hq1 he1 Z (zc 0 (hc3.below h.below) Z (zp1 Z (zcI h F (qob (qgT y1 (h.oldS s2))) Z fun _ _ h F=>X0 7 Z (qh Z F ?_ ?_))))<;>intro F
  ·refine X0 4 Z ?_;obtain rfl:=qb F;replace F:=hK1;exact ri h F Z
  exact X0 7 Z (rK ⟨_,_,F,rfl,h⟩ Z)
 refine qq Z ?_;obtain rfl:=qb F;replace F:=hK1;exact X0 5 Z (ri h F Z)
def qdU (a:(List ByteArray)):Nat→Int→Int→Option (Flow Int (Int×Int))
 | 0,_,_=>U
 | n+1,i1,i2=>
  bif decide (i2<(a.length:Int)) then
   (idx a i2).bind fun y1=>
   bif decide ((W64 (i1-(y1.size:Int)))<0) then V (.ret (-1)) else
   qdU a n (W64 (i1-(y1.size:Int))) (W64 (i2+1))
  else
   V (.nxt (i1,i2))
def qkU (n:Nat)(a:(List ByteArray))(left:Int):Option Int:=
 bif decide ((W64 (left-(a.length:Int)))<0) then V (-1) else
 (qdU a n (W64 (left-(a.length:Int))) 0).bind fun o=>match o with
 | .ret r=>V r
 | .nxt (i1,_)=>
  V i1
theorem qoy {a:(List ByteArray)}{left:Int}(ha1:Ro w a cs1){r:Int}(F:qkU n a left=V r):RetV prog 117 [GoT.v (List ByteArray) cs1,.int .i64 left] w r:=by
 obtain⟨p1,k1,rfl,s1⟩:=ha1;refine zV 28 func117 Z fun h=>X0 18 Z (qh Z F ?_ ?_)<;>intro F
 ·exact X0 4 Z (ri h F Z)
 refine X0 6 Z ?_;obtain⟨o1,F,hK1⟩:=qc F;refine qn (rL (fun m e w'=>∃(i1:Int) (i2:Int),qdU a m i1 i2=V o1∧e=[(0,.slice p1 a.length k1),(1,.int .i64 i1),(5,.int .i64 i2)]∧SH w w' []) n ⟨_,_,F,rfl,h⟩ Z ?_);rintro m1 _ _ ⟨i1,i2,F,rfl,h⟩;rcases m1 with _|m1
 ·cases F
 refine X0 8 Z (qh Z F ?_ ?_)<;>intro F
 ·refine X0 8 Z ?_;obtain⟨_,_,F,he1,_,_,_,_,hp1,hq1,rfl,hc3⟩:=s1.ix F;refine zxe hp1 hq1 he1 Z (zc 0 (hc3.below h.below) Z (X0 9 Z (qh Z F ?_ ?_)))<;>intro F
  ·refine X0 4 Z ?_;obtain rfl:=qb F;replace F:=hK1;exact ri h F Z
  exact X0 7 Z (rK ⟨_,_,F,rfl,h⟩ Z)
 refine qq Z ?_;obtain rfl:=qb F;replace F:=hK1;exact X0 5 Z (ri h F Z)
def qjY (_:Nat)(a:qW)(left:Int):Option Int:=
 bif decide ((W64 (left-(a.Au.size:Int)))<0) then V (-1) else
 V (W64 (left-(a.Au.size:Int)))
theorem qrq {a:qW}{left:Int}(ha1:Ro w a cs1){r:Int}(F:qjY n a left=V r):RetV prog 195 [GoT.v qW cs1,.int .i64 left] w r:=by
 obtain rfl:=qaU ha1;refine zV 13 func195 Z fun h=>zSR (qx h Z Z fun _ _ h=>X1 17 0 h Z (qh Z F ?_ ?_))<;>intro F
 ·exact X0 4 Z (ri h F Z)
 exact X0 6 Z (ri h F Z)
def qfb (a:(List qW)):Nat→Int→Int→Option (Flow Int (Int×Int))
 | 0,_,_=>U
 | n+1,i1,i2=>
  bif decide (i2<(a.length:Int)) then
   (idx a i2).bind fun y1=>
   (qjY n y1 i1).bind fun r1=>
   bif decide (r1<0) then V (.ret (-1)) else
   qfb a n r1 (W64 (i2+1))
  else
   V (.nxt (i1,i2))
def qmn (n:Nat)(a:(List qW))(left:Int):Option Int:=
 bif decide ((W64 (left-(a.length:Int)))<0) then V (-1) else
 (qfb a n (W64 (left-(a.length:Int))) 0).bind fun o=>match o with
 | .ret r=>V r
 | .nxt (i1,_)=>
  V i1
theorem qqj {a:(List qW)}{left:Int}(ha1:Ro w a cs1){r:Int}(F:qmn n a left=V r):RetV prog 118 [GoT.v (List qW) cs1,.int .i64 left] w r:=by
 obtain⟨p1,k1,rfl,s1⟩:=ha1;refine zV 27 func118 Z fun h=>X0 18 Z (qh Z F ?_ ?_)<;>intro F
 ·exact X0 4 Z (ri h F Z)
 refine X0 6 Z ?_;obtain⟨o1,F,hK1⟩:=qc F;refine qn (rL (fun m e w'=>∃(i1:Int) (i2:Int),qfb a m i1 i2=V o1∧e=[(0,.slice p1 a.length k1),(1,.int .i64 i1),(5,.int .i64 i2)]∧SH w w' []) n ⟨_,_,F,rfl,h⟩ Z ?_);rintro m1 _ _ ⟨i1,i2,F,rfl,h⟩;rcases m1 with _|m1
 ·cases F
 refine X0 8 Z (qh Z F ?_ ?_)<;>intro F
 ·refine X0 7 Z ?_;obtain⟨y1,_,F,he1,_,_,_,_,hp1,hq1,hr1,hc3⟩:=s1.ix F;obtain rfl:=qaU hr1;refine zxe hp1 hq1 he1 Z (zc 0 (hc3.below h.below) Z (zp1 Z (zcI h F (qrq (qeB y1)) Z fun _ _ h F=>X0 7 Z (qh Z F ?_ ?_))))<;>intro F
  ·refine X0 4 Z ?_;obtain rfl:=qb F;replace F:=hK1;exact ri h F Z
  exact X0 7 Z (rK ⟨_,_,F,rfl,h⟩ Z)
 refine qq Z ?_;obtain rfl:=qb F;replace F:=hK1;exact X0 5 Z (ri h F Z)
def qjy (n:Nat)(a:qe)(left:Int):Option Int:=
 (qjo n a.Ab left).bind fun r1=>
 bif decide (r1<0) then V (-1) else
 (qkU n a.Ah r1).bind fun r2=>
 bif decide (r2<0) then V (-1) else
 (qmn n a.Af r2).bind fun r3=>
 bif decide (r3<0) then V (-1) else
 V r3
theorem qpG {a:qe}{left:Int}(ha1:Ro w a cs1){r:Int}(F:qjy n a left=V r):RetV prog 42 [GoT.v qe cs1,.int .i64 left] w r:=by
 obtain⟨_,_,_,_,_,_,rfl,s1,s2,s3⟩:=qaD ha1;refine zV 24 func42 Z fun h=>zSR (qx h Z Z fun _ _ h=>X1 7 0 h Z (zcI h F (qnX ⟨_,_,rfl,(h.oldS s1)⟩) Z fun _ _ h F=>X0 8 Z (qh Z F ?_ ?_)))<;>intro F
 ·exact X0 4 Z (ri h F Z)
 refine X1 6 0 h Z (zcI h F (qoy ⟨_,_,rfl,(h.oldS s2)⟩) Z fun _ _ h F=>X0 8 Z (qh Z F ?_ ?_))<;>intro F
 ·exact X0 4 Z (ri h F Z)
 refine X1 6 0 h Z (zcI h F (qqj ⟨_,_,rfl,(h.oldS s3)⟩) Z fun _ _ h F=>X0 8 Z (qh Z F ?_ ?_))<;>intro F
 ·exact X0 4 Z (ri h F Z)
 exact X0 6 Z (ri h F Z)
def qj1 (n:Nat)(a:qG)(left:Int):Option Int:=
 (qcp n a.Aj left).bind fun r1=>
 bif decide (r1<0) then V (-1) else
 (qcp n a.Bv r1).bind fun r2=>
 bif decide (r2<0) then V (-1) else
 (qcp n a.Br r2).bind fun r3=>
 bif decide (r3<0) then V (-1) else
 (qcp n a.Bi r3).bind fun r4=>
 bif decide (r4<0) then V (-1) else
 V r4
theorem qrb {a:qG}{left:Int}(ha1:Ro w a cs1){r:Int}(F:qj1 n a left=V r):RetV prog 119 [GoT.v qG cs1,.int .i64 left] w r:=by
 obtain⟨_,_,_,_,_,_,_,_,rfl,s1,s2,s3,s4⟩:=qaO ha1;refine zV 30 func119 Z fun h=>zSR (qx h Z Z fun _ _ h=>X1 7 0 h Z (zcI h F (qcg ⟨_,_,rfl,(h.oldS s1)⟩) Z fun _ _ h F=>X0 8 Z (qh Z F ?_ ?_)))<;>intro F
 ·exact X0 4 Z (ri h F Z)
 refine X1 6 0 h Z (zcI h F (qcg ⟨_,_,rfl,(h.oldS s2)⟩) Z fun _ _ h F=>X0 8 Z (qh Z F ?_ ?_))<;>intro F
 ·exact X0 4 Z (ri h F Z)
 refine X1 6 0 h Z (zcI h F (qcg ⟨_,_,rfl,(h.oldS s3)⟩) Z fun _ _ h F=>X0 8 Z (qh Z F ?_ ?_))<;>intro F
 ·exact X0 4 Z (ri h F Z)
 refine X1 6 0 h Z (zcI h F (qcg ⟨_,_,rfl,(h.oldS s4)⟩) Z fun _ _ h F=>X0 8 Z (qh Z F ?_ ?_))<;>intro F
 ·exact X0 4 Z (ri h F Z)
 exact X0 6 Z (ri h F Z)
def qe5 (a:(List qG)):Nat→Int→Int→Option (Flow Int (Int×Int))
 | 0,_,_=>U
 | n+1,i1,i2=>
  bif decide (i2<(a.length:Int)) then
   (idx a i2).bind fun y1=>
   (qj1 n y1 i1).bind fun r1=>
   bif decide (r1<0) then V (.ret (-1)) else
   qe5 a n r1 (W64 (i2+1))
  else
   V (.nxt (i1,i2))
def qmE (n:Nat)(a:(List qG))(left:Int):Option Int:=
 bif decide ((W64 (left-(a.length:Int)))<0) then V (-1) else
 (qe5 a n (W64 (left-(a.length:Int))) 0).bind fun o=>match o with
 | .ret r=>V r
 | .nxt (i1,_)=>
  V i1
theorem qqi {a:(List qG)}{left:Int}(ha1:Ro w a cs1){r:Int}(F:qmE n a left=V r):RetV prog 43 [GoT.v (List qG) cs1,.int .i64 left] w r:=by
 obtain⟨p1,k1,rfl,s1⟩:=ha1;refine zV 27 func43 Z fun h=>X0 18 Z (qh Z F ?_ ?_)<;>intro F
 ·exact X0 4 Z (ri h F Z)
 refine X0 6 Z ?_;obtain⟨o1,F,hK1⟩:=qc F;refine qn (rL (fun m e w'=>∃(i1:Int) (i2:Int),qe5 a m i1 i2=V o1∧e=[(0,.slice p1 a.length k1),(1,.int .i64 i1),(5,.int .i64 i2)]∧SH w w' []) n ⟨_,_,F,rfl,h⟩ Z ?_);rintro m1 _ _ ⟨i1,i2,F,rfl,h⟩;rcases m1 with _|m1
 ·cases F
 refine X0 8 Z (qh Z F ?_ ?_)<;>intro F
 ·refine X0 7 Z ?_;obtain⟨y1,_,F,he1,_,_,_,_,hp1,hq1,hr1,hc3⟩:=s1.ix F;obtain⟨_,_,_,_,_,_,_,_,rfl,s2,s3,s4,s5⟩:=qaO hr1;refine zxe hp1 hq1 he1 Z (zc 0 (hc3.below h.below) Z (zp1 Z (zcI h F (qrb (qkH y1 (h.oldS s2) (h.oldS s3) (h.oldS s4) (h.oldS s5))) Z fun _ _ h F=>X0 7 Z (qh Z F ?_ ?_))))<;>intro F
  ·refine X0 4 Z ?_;obtain rfl:=qb F;replace F:=hK1;exact ri h F Z
  exact X0 7 Z (rK ⟨_,_,F,rfl,h⟩ Z)
 refine qq Z ?_;obtain rfl:=qb F;replace F:=hK1;exact X0 5 Z (ri h F Z)
def qkm (n:Nat)(a:qd)(left:Int):Option Int:=
 (qiY n (⟨a.Ap.Am⟩:qr) left).bind fun r1=>
 bif decide (r1<0) then V (-1) else
 (qjy n (⟨a.Aa.Ab,a.Aa.Ah,a.Aa.Af⟩:qe) r1).bind fun r2=>
 bif decide (r2<0) then V (-1) else
 (qmE n a.Ac r2).bind fun r3=>
 bif decide (r3<0) then V (-1) else
 V r3
theorem qqf {a:qd}{left:Int}(ha1:Ro w a cs1){r:Int}(F:qkm n a left=V r):RetV prog 7 [GoT.v qd cs1,.int .i64 left] w r:=by
 obtain⟨_,_,_,_,_,_,_,_,_,_,rfl,s1,s2,s3,s4,s5⟩:=qM ha1;refine zV 24 func7 Z fun h=>zSR (qx h Z Z fun _ _ h=>X1 7 0 h Z (zcI h F (qoN (qep _ (h.oldS s1))) Z fun _ _ h F=>X0 8 Z (qh Z F ?_ ?_)))<;>intro F
 ·exact X0 4 Z (ri h F Z)
 refine X1 6 0 h Z (zcI h F (qpG (qao _ (h.oldS s2) (h.oldS s3) (h.oldS s4))) Z fun _ _ h F=>X0 8 Z (qh Z F ?_ ?_))<;>intro F
 ·exact X0 4 Z (ri h F Z)
 refine X1 6 0 h Z (zcI h F (qqi ⟨_,_,rfl,(h.oldS s5)⟩) Z fun _ _ h F=>X0 8 Z (qh Z F ?_ ?_))<;>intro F
 ·exact X0 4 Z (ri h F Z)
 exact X0 6 Z (ri h F Z)
def qf2 (a:(List Int)):Nat→(List Int)→Int→Option ((List Int)×Int)
 | 0,_,_=>U
 | n+1,x2,i1=>
  bif decide (i1<(a.length:Int)) then
   (idx a i1).bind fun y1=>
   (idx x2 i1).bind fun _=>
   qf2 a n (setS x2 i1 y1) (W64 (i1+1))
  else
   V (x2,i1)
def qaZ (n:Nat)(a:(List Int)):Option (List Int):=
 (mkS (a.length:Int) (0:Int)).bind fun x1=>
 (qf2 a n x1 0).bind fun o=>match o with
 | (x2,_)=>
  V x2
theorem qal {a:(List Int)}(ha1:Ro w a cs1){r:(List Int)}(F:qaZ n a=V r):RetV prog 28 [GoT.v (List Int) cs1] w r:=by
 obtain⟨p1,k1,rfl,s1⟩:=ha1;refine zV 22 func28 Z fun h=>X0 8 Z ?_;obtain⟨x1,hx1,F⟩:=qc F;obtain⟨g1,g2,hx1⟩:=qac hx1;refine qaw qa Int h Z Z Z Z Z Z Z Z Z g1 g2 hx1 Z fun _ S1 p2 h=>X0 7 Z ?_;obtain⟨o1,F,hK1⟩:=qc F;refine qn (rL (fun m e w'=>∃(x2:(List Int)) (i1:Int),qf2 a m x2 i1=V o1∧e=[(0,.slice p1 a.length k1),(3,.slice p2 x1.length x1.length),(4,.int .i64 i1)]∧SH w w' [Ch.own S1 (x2:List Int) [.slice p2 x1.length x1.length]]) n ⟨_,_,F,rfl,h⟩ Z ?_);rintro m1 _ _ ⟨x2,i1,F,rfl,h⟩;rcases m1 with _|m1
 ·cases F
 refine X0 8 Z (qh Z F ?_ ?_)<;>intro F
 ·refine X0 8 Z ?_;obtain⟨y1,_,F,he1,_,_,_,_,hp1,hq1,rfl,hc2⟩:=s1.ix F;refine zxe hp1 hq1 he1 Z (zc 0 (hc2.below h.below) Z ?_);obtain⟨_,hy2,F,he2,_,_,_,_,hp2,hq2,rfl,hc3⟩:=(h.sl 0 Z).1.ix F;exact zx hp2 hq2 ⟨he2.1,qC he2.2.1 (h.sl 0 Z).2⟩ Z (qay qa 0 0 y1 h Z hy2 hp2 hq2 Z hc3 Z Z Z Z Z Z Z fun _ h=>X0 7 Z (rK ⟨_,_,F,rfl,h⟩ Z))
 refine qq Z ?_;obtain rfl:=qb F;replace F:=hK1;refine X0 5 Z ?_;obtain rfl:=qb F;exact rO 0 h Z ⟨rfl,trivial⟩
def qk2 (_:Nat)(a:qam):Option qam:=
 V (⟨a.Au,a.Bu,a.Br,a.Bo⟩:qam)
theorem qrB {a:qam}(ha1:Ro w a cs1){r:qam}(F:qk2 n a=V r):RetV prog 289 [GoT.v qam cs1] w r:=by
 obtain rfl:=qaV ha1;refine zV 17 func289 Z fun h=>zSR (qx h Z Z fun _ _ h=>qp qa h Z Z Z fun _ _ h=>zNSR (qp qa h Z Z Z fun _ _ h=>X1 6 2 h Z (zs 0 h Z fun _ h=>X1 6 2 h Z (zs 0 h Z fun _ h=>X1 6 2 h Z (zs 0 h Z fun _ h=>X1 6 2 h Z (zs 0 h Z fun _ h=>X1 4 0 h Z (zs 1 h Z fun _ h=>qcP ?_)))))));obtain rfl:=qb F;exact qae qa (ρ:=qam) [GoT.v qam (qo4 a)] h ⟨⟨_,_,_,rfl,rfl,h.box 1 Z,rfl⟩,trivial⟩ (PV.done h (qaj (qA (S:=fun _=>False) (qee (⟨a.Au,a.Bu,a.Br,a.Bo⟩:qam)))))
def qhp (a:(List qam)):Nat→(List qam)→Int→Option ((List qam)×Int)
 | 0,_,_=>U
 | n+1,x2,i1=>
  bif decide (i1<(a.length:Int)) then
   (idx a i1).bind fun y1=>
   (qk2 n y1).bind fun r1=>
   (idx x2 i1).bind fun _=>
   qhp a n (setS x2 i1 r1) (W64 (i1+1))
  else
   V (x2,i1)
def qlI (n:Nat)(a:(List qam)):Option (List qam):=
 (mkS (a.length:Int) ((⟨ByteArray.empty,0,0,false⟩:qam):qam)).bind fun x1=>
 (qhp a n x1 0).bind fun o=>match o with
 | (x2,_)=>
  V x2
theorem qrd {a:(List qam)}(ha1:Ro w a cs1){r:(List qam)}(F:qlI n a=V r):RetV prog 252 [GoT.v (List qam) cs1] w r:=by
 obtain⟨p1,k1,rfl,s1⟩:=ha1;refine zV 23 func252 Z fun h=>X0 8 Z ?_;obtain⟨x1,hx1,F⟩:=qc F;obtain⟨g1,g2,hx1⟩:=qac hx1;refine qaw qa qam h Z Z Z Z Z Z Z Z Z g1 g2 hx1 Z fun _ S1 p2 h=>X0 7 Z ?_;obtain⟨o1,F,hK1⟩:=qc F;refine qn (rL (fun m e w'=>∃(x2:(List qam)) (i1:Int),qhp a m x2 i1=V o1∧e=[(0,.slice p1 a.length k1),(3,.slice p2 x1.length x1.length),(4,.int .i64 i1)]∧SH w w' [Ch.own S1 (x2:List qam) [.slice p2 x1.length x1.length]]) n ⟨_,_,F,rfl,h⟩ Z ?_);rintro m1 _ _ ⟨x2,i1,F,rfl,h⟩;rcases m1 with _|m1
 ·cases F
 refine X0 8 Z (qh Z F ?_ ?_)<;>intro F
 ·refine X0 8 Z ?_;obtain⟨y1,_,F,he1,_,_,_,_,hp1,hq1,hr1,hc2⟩:=s1.ix F;obtain rfl:=qaV hr1;refine zxe hp1 hq1 he1 Z (zc 0 (hc2.below h.below) Z (zcO h F (qrB (qee y1)) Z fun r1 _ _ _ h F=>?_));obtain rfl:=qaV (h.own 0 Z);obtain⟨y2,hy2,F,he2,_,_,_,_,hp2,hq2,hr3,hc3⟩:=(h.sl 1 Z).1.ix F;obtain rfl:=qaV hr3;refine zx hp2 hq2 ⟨he2.1,qC he2.2.1 (h.sl 1 Z).2⟩ Z (qay qa 1 0 r1 h Z hy2 hp2 hq2 (qee y2) hc3 Z Z Z (qee r1) Z Z Z fun _ h=>X0 7 Z ?_);replace h:=h.pick [1] Z;exact rK ⟨_,_,F,rfl,h⟩ Z
 refine qq Z ?_;obtain rfl:=qb F;replace F:=hK1;refine X0 5 Z ?_;obtain rfl:=qb F;exact rO 0 h Z ⟨rfl,trivial⟩
def qiS (n:Nat)(a:qu):Option qu:=
 (qaZ n a.Bl).bind fun r1=>
 (qaZ n a.Bd).bind fun r2=>
 (qaZ n a.Az).bind fun r3=>
 V (⟨r1,r2,r3⟩:qu)
theorem qqa {a:qu}(ha1:Ro w a cs1){r:qu}(F:qiS n a=V r):RetV prog 326 [GoT.v qu cs1] w r:=by
 obtain⟨_,_,_,_,_,_,rfl,s1,s2,s3⟩:=qaJ ha1;refine zV 17 func326 Z fun h=>zSR (qx h Z Z fun _ _ h=>qp qa h Z Z Z fun _ _ h=>zNSR (qp qa h Z Z Z fun _ _ h=>X1 5 2 h Z (zcL h F (qal ⟨_,_,rfl,(h.oldS s1)⟩) Z fun r1 _ _ p4 k4 h F=>zp1 Z (zs 1 h Z fun _ h=>X1 5 3 h Z (zcL h F (qal ⟨_,_,rfl,(h.oldS s2)⟩) Z fun r2 _ _ p5 k5 h F=>zp1 Z (zs 2 h Z fun _ h=>X1 5 4 h Z (zcL h F (qal ⟨_,_,rfl,(h.oldS s3)⟩) Z fun r3 _ _ p6 k6 h F=>zp1 Z (zs 3 h Z fun _ h=>X1 4 3 h Z (zs 4 h Z fun _ h=>qcP ?_)))))))));obtain rfl:=qb F;exact qae qa (ρ:=qu) [GoT.v qu [.slice p4 r1.length k4,.slice p5 r2.length k5,.slice p6 r3.length k6]] h ⟨⟨_,_,_,rfl,rfl,h.box 4 Z,rfl⟩,trivial⟩ (PV.done h (qaj (qrR (⟨r1,r2,r3⟩:qu) h (qaA 2 h Z) (qaA 1 h Z) (qaA 0 h Z) (by rfl) (by rfl))))
def qf8 (a:(List qu)):Nat→(List qu)→Int→Option ((List qu)×Int)
 | 0,_,_=>U
 | n+1,x2,i1=>
  bif decide (i1<(a.length:Int)) then
   (idx a i1).bind fun y1=>
   (qiS n y1).bind fun r1=>
   (idx x2 i1).bind fun _=>
   qf8 a n (setS x2 i1 r1) (W64 (i1+1))
  else
   V (x2,i1)
def qh8 (n:Nat)(a:(List qu)):Option (List qu):=
 (mkS (a.length:Int) ((⟨[],[],[]⟩:qu):qu)).bind fun x1=>
 (qf8 a n x1 0).bind fun o=>match o with
 | (x2,_)=>
  V x2
theorem qme {a:(List qu)}(ha1:Ro w a cs1){r:(List qu)}(F:qh8 n a=V r):RetV prog 311 [GoT.v (List qu) cs1] w r:=by
 obtain⟨p1,k1,rfl,s1⟩:=ha1;refine zV 23 func311 Z fun h=>X0 8 Z ?_;obtain⟨x1,hx1,F⟩:=qc F;obtain⟨g1,g2,hx1⟩:=qac hx1;refine qaw qa qu h Z Z Z Z Z Z Z Z Z g1 g2 hx1 Z fun _ _ p2 h=>X0 7 Z ?_;obtain⟨o1,F,hK1⟩:=qc F;refine qn (rL (fun m e w'=>∃(S2:Nat→Prop) (x2:(List qu)) (i1:Int),qf8 a m x2 i1=V o1∧e=[(0,.slice p1 a.length k1),(3,.slice p2 x1.length x1.length),(4,.int .i64 i1)]∧SH w w' [Ch.own S2 (x2:List qu) [.slice p2 x1.length x1.length]]) n ⟨_,_,_,F,rfl,h⟩ Z ?_);rintro m1 _ _ ⟨S2,x2,i1,F,rfl,h⟩;rcases m1 with _|m1
 ·cases F
 refine X0 8 Z (qh Z F ?_ ?_)<;>intro F
 ·refine X0 8 Z ?_;obtain⟨y1,_,F,he1,_,_,_,_,hp1,hq1,hr1,hc2⟩:=s1.ix F;obtain⟨_,_,_,_,_,_,rfl,s2,s3,s4⟩:=qaJ hr1;refine zxe hp1 hq1 he1 Z (zc 0 (hc2.below h.below) Z (zcO h F (qqa (qfE y1 (h.oldS s2) (h.oldS s3) (h.oldS s4))) Z fun r1 _ _ _ h F=>?_));obtain⟨_,_,_,_,_,_,rfl,-,-,-⟩:=qaJ (h.own 0 Z);obtain⟨_,hy2,F⟩:=qc F;have he2:=qcT hy2;replace h:=h.lrn0 1 Z;obtain⟨_,o_2,_,_,hp2,hq2,-,hr3,_⟩:=(qlr (h.lrnO 1 Z)).1.at hy2;have hr4:=hr3;obtain⟨_,_,_,_,_,_,rfl,_,_,_⟩:=qaJ hr3;replace h:=h.lrnAdd 1 Z hr4;refine zx hp2 hq2 ⟨he2.1,qC he2.2.1 (qlr (h.lrnO 1 Z)).2⟩ Z ?_;replace h:=h.unlrn 1 Z;exact qnv qa r1 h hy2 hp2 hq2 Z Z Z Z Z fun _ _ h=>X0 7 Z (rK ⟨_,_,_,F,rfl,h⟩ Z)
 refine qq Z ?_;obtain rfl:=qb F;replace F:=hK1;refine X0 5 Z ?_;obtain rfl:=qb F;exact rO 0 h Z ⟨rfl,trivial⟩
def qk8 (n:Nat)(a:qH):Option qH:=
 (qh8 n a.Bk).bind fun r1=>
 (qh8 n a.Ba).bind fun r2=>
 V (⟨a.Aq,a.Bc,a.To,a.Bn,r1,r2⟩:qH)
theorem qrN {a:qH}(ha1:Ro w a cs1){r:qH}(F:qk8 n a=V r):RetV prog 290 [GoT.v qH cs1] w r:=by
 obtain⟨_,_,_,_,rfl,s1,s2⟩:=qX ha1;refine zV 25 func290 Z fun h=>zSR (qx h Z Z fun _ _ h=>qp qa h Z Z Z fun _ _ h=>zNSR (qp qa h Z Z Z fun _ _ h=>X1 6 2 h Z (zs 0 h Z fun _ h=>X1 6 2 h Z (zs 0 h Z fun _ h=>X1 6 2 h Z (zs 0 h Z fun _ h=>X1 6 2 h Z (zs 0 h Z fun _ h=>X1 5 2 h Z (zcL h F (qme ⟨_,_,rfl,(h.oldS s1)⟩) Z fun r1 _ _ p3 k3 h F=>zp1 Z (zs 1 h Z fun _ h=>X1 5 3 h Z (zcL h F (qme ⟨_,_,rfl,(h.oldS s2)⟩) Z fun r2 _ _ p4 k4 h F=>zp1 Z (zs 2 h Z fun _ h=>X1 4 2 h Z (zs 3 h Z fun _ h=>qcP ?_)))))))))));obtain rfl:=qb F;exact qae qa (ρ:=qH) [GoT.v qH [.int .i64 a.Aq,.int .i64 a.Bc,.int .i64 a.To,.int .i64 a.Bn,.slice p3 r1.length k3,.slice p4 r2.length k4]] h ⟨⟨_,_,_,rfl,rfl,h.box 3 Z,rfl⟩,trivial⟩ (PV.done h (qaj (qvk (⟨a.Aq,a.Bc,a.To,a.Bn,r1,r2⟩:qH) h (qA (S:=fun _=>False) Z) (qA (S:=fun _=>False) Z) (qA (S:=fun _=>False) Z) (qA (S:=fun _=>False) Z) (qaA 1 h Z) (qaA 0 h Z) (by rfl) (by rfl) (by rfl) (by rfl) (by rfl))))
def qho (a:(List qH)):Nat→(List qH)→Int→Option ((List qH)×Int)
 | 0,_,_=>U
 | n+1,x2,i1=>
  bif decide (i1<(a.length:Int)) then
   (idx a i1).bind fun y1=>
   (qk8 n y1).bind fun r1=>
   (idx x2 i1).bind fun _=>
   qho a n (setS x2 i1 r1) (W64 (i1+1))
  else
   V (x2,i1)
def qls (n:Nat)(a:(List qH)):Option (List qH):=
 (mkS (a.length:Int) ((⟨0,0,0,0,[],[]⟩:qH):qH)).bind fun x1=>
 (qho a n x1 0).bind fun o=>match o with
 | (x2,_)=>
  V x2
theorem qrg {a:(List qH)}(ha1:Ro w a cs1){r:(List qH)}(F:qls n a=V r):RetV prog 253 [GoT.v (List qH) cs1] w r:=by
 obtain⟨p1,k1,rfl,s1⟩:=ha1;refine zV 23 func253 Z fun h=>X0 8 Z ?_;obtain⟨x1,hx1,F⟩:=qc F;obtain⟨g1,g2,hx1⟩:=qac hx1;refine qaw qa qH h Z Z Z Z Z Z Z Z Z g1 g2 hx1 Z fun _ _ p2 h=>X0 7 Z ?_;obtain⟨o1,F,hK1⟩:=qc F;refine qn (rL (fun m e w'=>∃(S2:Nat→Prop) (x2:(List qH)) (i1:Int),qho a m x2 i1=V o1∧e=[(0,.slice p1 a.length k1),(3,.slice p2 x1.length x1.length),(4,.int .i64 i1)]∧SH w w' [Ch.own S2 (x2:List qH) [.slice p2 x1.length x1.length]]) n ⟨_,_,_,F,rfl,h⟩ Z ?_);rintro m1 _ _ ⟨S2,x2,i1,F,rfl,h⟩;rcases m1 with _|m1
 ·cases F
 refine X0 8 Z (qh Z F ?_ ?_)<;>intro F
 ·refine X0 8 Z ?_;obtain⟨y1,_,F,he1,_,_,_,_,hp1,hq1,hr1,hc2⟩:=s1.ix F;obtain⟨_,_,_,_,rfl,s2,s3⟩:=qX hr1;refine zxe hp1 hq1 he1 Z (zc 0 (hc2.below h.below) Z (zcO h F (qrN (qfo y1 (h.oldS s2) (h.oldS s3))) Z fun r1 _ _ _ h F=>?_));obtain⟨_,_,_,_,rfl,-,-⟩:=qX (h.own 0 Z);obtain⟨_,hy2,F⟩:=qc F;have he2:=qcT hy2;replace h:=h.lrn0 1 Z;obtain⟨_,o_2,_,_,hp2,hq2,-,hr3,_⟩:=(qlr (h.lrnO 1 Z)).1.at hy2;have hr4:=hr3;obtain⟨_,_,_,_,rfl,_,_⟩:=qX hr3;replace h:=h.lrnAdd 1 Z hr4;refine zx hp2 hq2 ⟨he2.1,qC he2.2.1 (qlr (h.lrnO 1 Z)).2⟩ Z ?_;replace h:=h.unlrn 1 Z;exact qnv qa r1 h hy2 hp2 hq2 Z Z Z Z Z fun _ _ h=>X0 7 Z (rK ⟨_,_,_,F,rfl,h⟩ Z)
 refine qq Z ?_;obtain rfl:=qb F;replace F:=hK1;refine X0 5 Z ?_;obtain rfl:=qb F;exact rO 0 h Z ⟨rfl,trivial⟩
def qjM (n:Nat)(a:qv):Option qv:=
 (qlI n a.As).bind fun r1=>
 (qls n a.Ak).bind fun r2=>
 (qaZ n a.Bm).bind fun r3=>
 V (⟨a.Au,a.Aq,r1,r2,r3,a.Bz,a.Bs⟩:qv)
theorem qqR {a:qv}(ha1:Ro w a cs1){r:qv}(F:qjM n a=V r):RetV prog 199 [GoT.v qv cs1] w r:=by
 obtain⟨_,_,_,_,_,_,rfl,s1,s2,s3⟩:=qO ha1;refine zV 29 func199 Z fun h=>zSR (qx h Z Z fun _ _ h=>qp qa h Z Z Z fun _ _ h=>zNSR (qp qa h Z Z Z fun _ _ h=>X1 6 2 h Z (zs 0 h Z fun _ h=>X1 6 2 h Z (zs 0 h Z fun _ h=>X1 5 2 h Z (zcL h F (qrd ⟨_,_,rfl,(h.oldS s1)⟩) Z fun r1 _ _ p4 k4 h F=>zp1 Z (zs 1 h Z fun _ h=>X1 5 3 h Z (zcL h F (qrg ⟨_,_,rfl,(h.oldS s2)⟩) Z fun r2 _ _ p5 k5 h F=>zp1 Z (zs 2 h Z fun _ h=>X1 5 4 h Z (zcL h F (qal ⟨_,_,rfl,(h.oldS s3)⟩) Z fun r3 _ _ p6 k6 h F=>zp1 Z (zs 3 h Z fun _ h=>X1 6 5 h Z (zs 3 h Z fun _ h=>X1 6 5 h Z (zs 3 h Z fun _ h=>X1 4 3 h Z (zs 4 h Z fun _ h=>qcP ?_)))))))))))));obtain rfl:=qb F;exact qae qa (ρ:=qv) [GoT.v qv [.string a.Au,.int .i64 a.Aq,.slice p4 r1.length k4,.slice p5 r2.length k5,.slice p6 r3.length k6,.int .i64 a.Bz,.int .i64 a.Bs]] h ⟨⟨_,_,_,rfl,rfl,h.box 4 Z,rfl⟩,trivial⟩ (PV.done h (qaj (qub (⟨a.Au,a.Aq,r1,r2,r3,a.Bz,a.Bs⟩:qv) h (qA (S:=fun _=>False) Z) (qA (S:=fun _=>False) Z) (qaA 2 h Z) (qaA 1 h Z) (qaA 0 h Z) (qA (S:=fun _=>False) Z) (qA (S:=fun _=>False) Z) (by rfl) (by rfl) (by rfl) (by rfl) (by rfl) (by rfl))))
def qgL (a:(List qv)):Nat→(List qv)→Int→Option ((List qv)×Int)
 | 0,_,_=>U
 | n+1,x2,i1=>
  bif decide (i1<(a.length:Int)) then
   (idx a i1).bind fun y1=>
   (qjM n y1).bind fun r1=>
   (idx x2 i1).bind fun _=>
   qgL a n (setS x2 i1 r1) (W64 (i1+1))
  else
   V (x2,i1)
def qkj (n:Nat)(a:(List qv)):Option (List qv):=
 (mkS (a.length:Int) ((⟨ByteArray.empty,0,[],[],[],0,0⟩:qv):qv)).bind fun x1=>
 (qgL a n x1 0).bind fun o=>match o with
 | (x2,_)=>
  V x2
theorem qqm {a:(List qv)}(ha1:Ro w a cs1){r:(List qv)}(F:qkj n a=V r):RetV prog 122 [GoT.v (List qv) cs1] w r:=by
 obtain⟨p1,k1,rfl,s1⟩:=ha1;refine zV 23 func122 Z fun h=>X0 8 Z ?_;obtain⟨x1,hx1,F⟩:=qc F;obtain⟨g1,g2,hx1⟩:=qac hx1;refine qaw qa qv h Z Z Z Z Z Z Z Z Z g1 g2 hx1 Z fun _ _ p2 h=>X0 7 Z ?_;obtain⟨o1,F,hK1⟩:=qc F;refine qn (rL (fun m e w'=>∃(S2:Nat→Prop) (x2:(List qv)) (i1:Int),qgL a m x2 i1=V o1∧e=[(0,.slice p1 a.length k1),(3,.slice p2 x1.length x1.length),(4,.int .i64 i1)]∧SH w w' [Ch.own S2 (x2:List qv) [.slice p2 x1.length x1.length]]) n ⟨_,_,_,F,rfl,h⟩ Z ?_);rintro m1 _ _ ⟨S2,x2,i1,F,rfl,h⟩;rcases m1 with _|m1
 ·cases F
 refine X0 8 Z (qh Z F ?_ ?_)<;>intro F
 ·refine X0 8 Z ?_;obtain⟨y1,_,F,he1,_,_,_,_,hp1,hq1,hr1,hc2⟩:=s1.ix F;obtain⟨_,_,_,_,_,_,rfl,s2,s3,s4⟩:=qO hr1;refine zxe hp1 hq1 he1 Z (zc 0 (hc2.below h.below) Z (zcO h F (qqR (qjq y1 (h.oldS s2) (h.oldS s3) (h.oldS s4))) Z fun r1 _ _ _ h F=>?_));obtain⟨_,_,_,_,_,_,rfl,-,-,-⟩:=qO (h.own 0 Z);obtain⟨_,hy2,F⟩:=qc F;have he2:=qcT hy2;replace h:=h.lrn0 1 Z;obtain⟨_,o_2,_,_,hp2,hq2,-,hr3,_⟩:=(qlr (h.lrnO 1 Z)).1.at hy2;have hr4:=hr3;obtain⟨_,_,_,_,_,_,rfl,_,_,_⟩:=qO hr3;replace h:=h.lrnAdd 1 Z hr4;refine zx hp2 hq2 ⟨he2.1,qC he2.2.1 (qlr (h.lrnO 1 Z)).2⟩ Z ?_;replace h:=h.unlrn 1 Z;exact qnv qa r1 h hy2 hp2 hq2 Z Z Z Z Z fun _ _ h=>X0 7 Z (rK ⟨_,_,_,F,rfl,h⟩ Z)
 refine qq Z ?_;obtain rfl:=qb F;replace F:=hK1;refine X0 5 Z ?_;obtain rfl:=qb F;exact rO 0 h Z ⟨rfl,trivial⟩
def qiU (n:Nat)(a:qr):Option qr:=
 (qkj n a.Am).bind fun r1=>
 V (⟨r1⟩:qr)
theorem qoK {a:qr}(ha1:Ro w a cs1){r:qr}(F:qiU n a=V r):RetV prog 49 [GoT.v qr cs1] w r:=by
 obtain⟨_,_,rfl,s1⟩:=qbN ha1;refine zV 9 func49 Z fun h=>zSR (qx h Z Z fun _ _ h=>qp qa h Z Z Z fun _ _ h=>zNSR (qp qa h Z Z Z fun _ _ h=>X1 5 2 h Z (zcL h F (qqm ⟨_,_,rfl,(h.oldS s1)⟩) Z fun r1 _ _ p2 k2 h F=>zp1 Z (zs 1 h Z fun _ h=>X1 4 1 h Z (zs 2 h Z fun _ h=>qcP ?_)))));obtain rfl:=qb F;exact qae qa (ρ:=qr) [GoT.v qr [.slice p2 r1.length k2]] h ⟨⟨_,_,_,rfl,rfl,h.box 2 Z,rfl⟩,trivial⟩ (PV.done h (qaj (qt4 (⟨r1⟩:qr) h (qaA 0 h Z) )))
def qgN (n:Nat)(a:qk):Option qk:=
 (qaZ n a.Ah).bind fun r1=>
 V (⟨a.Au,a.Bp,r1⟩:qk)
theorem qog {a:qk}(ha1:Ro w a cs1){r:qk}(F:qgN n a=V r):RetV prog 200 [GoT.v qk cs1] w r:=by
 obtain⟨_,_,rfl,s1⟩:=qF ha1;refine zV 15 func200 Z fun h=>zSR (qx h Z Z fun _ _ h=>qp qa h Z Z Z fun _ _ h=>zNSR (qp qa h Z Z Z fun _ _ h=>X1 6 2 h Z (zs 0 h Z fun _ h=>X1 6 2 h Z (zs 0 h Z fun _ h=>X1 5 2 h Z (zcL h F (qal ⟨_,_,rfl,(h.oldS s1)⟩) Z fun r1 _ _ p2 k2 h F=>zp1 Z (zs 1 h Z fun _ h=>X1 4 1 h Z (zs 2 h Z fun _ h=>qcP ?_)))))));obtain rfl:=qb F;exact qae qa (ρ:=qk) [GoT.v qk [.string a.Au,.int .i64 a.Bp,.slice p2 r1.length k2]] h ⟨⟨_,_,_,rfl,rfl,h.box 2 Z,rfl⟩,trivial⟩ (PV.done h (qaj (qoz (⟨a.Au,a.Bp,r1⟩:qk) h (qA (S:=fun _=>False) Z) (qA (S:=fun _=>False) Z) (qaA 0 h Z) (by rfl) (by rfl))))
def qed (a:(List qk)):Nat→(List qk)→Int→Option ((List qk)×Int)
 | 0,_,_=>U
 | n+1,x2,i1=>
  bif decide (i1<(a.length:Int)) then
   (idx a i1).bind fun y1=>
   (qgN n y1).bind fun r1=>
   (idx x2 i1).bind fun _=>
   qed a n (setS x2 i1 r1) (W64 (i1+1))
  else
   V (x2,i1)
def qhD (n:Nat)(a:(List qk)):Option (List qk):=
 (mkS (a.length:Int) ((⟨ByteArray.empty,0,[]⟩:qk):qk)).bind fun x1=>
 (qed a n x1 0).bind fun o=>match o with
 | (x2,_)=>
  V x2
theorem qnQ {a:(List qk)}(ha1:Ro w a cs1){r:(List qk)}(F:qhD n a=V r):RetV prog 123 [GoT.v (List qk) cs1] w r:=by
 obtain⟨p1,k1,rfl,s1⟩:=ha1;refine zV 23 func123 Z fun h=>X0 8 Z ?_;obtain⟨x1,hx1,F⟩:=qc F;obtain⟨g1,g2,hx1⟩:=qac hx1;refine qaw qa qk h Z Z Z Z Z Z Z Z Z g1 g2 hx1 Z fun _ _ p2 h=>X0 7 Z ?_;obtain⟨o1,F,hK1⟩:=qc F;refine qn (rL (fun m e w'=>∃(S2:Nat→Prop) (x2:(List qk)) (i1:Int),qed a m x2 i1=V o1∧e=[(0,.slice p1 a.length k1),(3,.slice p2 x1.length x1.length),(4,.int .i64 i1)]∧SH w w' [Ch.own S2 (x2:List qk) [.slice p2 x1.length x1.length]]) n ⟨_,_,_,F,rfl,h⟩ Z ?_);rintro m1 _ _ ⟨S2,x2,i1,F,rfl,h⟩;rcases m1 with _|m1
 ·cases F
 refine X0 8 Z (qh Z F ?_ ?_)<;>intro F
 ·refine X0 8 Z ?_;obtain⟨y1,_,F,he1,_,_,_,_,hp1,hq1,hr1,hc2⟩:=s1.ix F;obtain⟨_,_,rfl,s2⟩:=qF hr1;refine zxe hp1 hq1 he1 Z (zc 0 (hc2.below h.below) Z (zcO h F (qog (qgT y1 (h.oldS s2))) Z fun r1 _ _ _ h F=>?_));obtain⟨_,_,rfl,-⟩:=qF (h.own 0 Z);obtain⟨_,hy2,F⟩:=qc F;have he2:=qcT hy2;replace h:=h.lrn0 1 Z;obtain⟨_,o_2,_,_,hp2,hq2,-,hr3,_⟩:=(qlr (h.lrnO 1 Z)).1.at hy2;have hr4:=hr3;obtain⟨_,_,rfl,_⟩:=qF hr3;replace h:=h.lrnAdd 1 Z hr4;refine zx hp2 hq2 ⟨he2.1,qC he2.2.1 (qlr (h.lrnO 1 Z)).2⟩ Z ?_;replace h:=h.unlrn 1 Z;exact qnv qa r1 h hy2 hp2 hq2 Z Z Z Z Z fun _ _ h=>X0 7 Z (rK ⟨_,_,_,F,rfl,h⟩ Z)
 refine qq Z ?_;obtain rfl:=qb F;replace F:=hK1;refine X0 5 Z ?_;obtain rfl:=qb F;exact rO 0 h Z ⟨rfl,trivial⟩
def qfl (a:(List ByteArray)):Nat→(List ByteArray)→Int→Option ((List ByteArray)×Int)
 | 0,_,_=>U
 | n+1,x2,i1=>
  bif decide (i1<(a.length:Int)) then
   (idx a i1).bind fun y1=>
   (idx x2 i1).bind fun _=>
   qfl a n (setS x2 i1 y1) (W64 (i1+1))
  else
   V (x2,i1)
def qiV (n:Nat)(a:(List ByteArray)):Option (List ByteArray):=
 (mkS (a.length:Int) (ByteArray.empty:ByteArray)).bind fun x1=>
 (qfl a n x1 0).bind fun o=>match o with
 | (x2,_)=>
  V x2
theorem qot {a:(List ByteArray)}(ha1:Ro w a cs1){r:(List ByteArray)}(F:qiV n a=V r):RetV prog 124 [GoT.v (List ByteArray) cs1] w r:=by
 obtain⟨p1,k1,rfl,s1⟩:=ha1;refine zV 22 func124 Z fun h=>X0 8 Z ?_;obtain⟨x1,hx1,F⟩:=qc F;obtain⟨g1,g2,hx1⟩:=qac hx1;refine qaw qa ByteArray h Z Z Z Z Z Z Z Z Z g1 g2 hx1 Z fun _ S1 p2 h=>X0 7 Z ?_;obtain⟨o1,F,hK1⟩:=qc F;refine qn (rL (fun m e w'=>∃(x2:(List ByteArray)) (i1:Int),qfl a m x2 i1=V o1∧e=[(0,.slice p1 a.length k1),(3,.slice p2 x1.length x1.length),(4,.int .i64 i1)]∧SH w w' [Ch.own S1 (x2:List ByteArray) [.slice p2 x1.length x1.length]]) n ⟨_,_,F,rfl,h⟩ Z ?_);rintro m1 _ _ ⟨x2,i1,F,rfl,h⟩;rcases m1 with _|m1
 ·cases F
 refine X0 8 Z (qh Z F ?_ ?_)<;>intro F
 ·refine X0 8 Z ?_;obtain⟨y1,_,F,he1,_,_,_,_,hp1,hq1,rfl,hc2⟩:=s1.ix F;refine zxe hp1 hq1 he1 Z (zc 0 (hc2.below h.below) Z ?_);obtain⟨_,hy2,F,he2,_,_,_,_,hp2,hq2,rfl,hc3⟩:=(h.sl 0 Z).1.ix F;exact zx hp2 hq2 ⟨he2.1,qC he2.2.1 (h.sl 0 Z).2⟩ Z (qay qa 0 0 y1 h Z hy2 hp2 hq2 Z hc3 Z Z Z Z Z Z Z fun _ h=>X0 7 Z (rK ⟨_,_,F,rfl,h⟩ Z))
 refine qq Z ?_;obtain rfl:=qb F;replace F:=hK1;refine X0 5 Z ?_;obtain rfl:=qb F;exact rO 0 h Z ⟨rfl,trivial⟩
def qjX (_:Nat)(a:qW):Option qW:=
 V (⟨a.Au,a.Bu,a.Bx⟩:qW)
theorem qq1 {a:qW}(ha1:Ro w a cs1){r:qW}(F:qjX n a=V r):RetV prog 201 [GoT.v qW cs1] w r:=by
 obtain rfl:=qaU ha1;refine zV 14 func201 Z fun h=>zSR (qx h Z Z fun _ _ h=>qp qa h Z Z Z fun _ _ h=>zNSR (qp qa h Z Z Z fun _ _ h=>X1 6 2 h Z (zs 0 h Z fun _ h=>X1 6 2 h Z (zs 0 h Z fun _ h=>X1 6 2 h Z (zs 0 h Z fun _ h=>X1 4 0 h Z (zs 1 h Z fun _ h=>qcP ?_))))));obtain rfl:=qb F;exact qae qa (ρ:=qW) [GoT.v qW (qqF a)] h ⟨⟨_,_,_,rfl,rfl,h.box 1 Z,rfl⟩,trivial⟩ (PV.done h (qaj (qA (S:=fun _=>False) (qeB (⟨a.Au,a.Bu,a.Bx⟩:qW)))))
def qgP (a:(List qW)):Nat→(List qW)→Int→Option ((List qW)×Int)
 | 0,_,_=>U
 | n+1,x2,i1=>
  bif decide (i1<(a.length:Int)) then
   (idx a i1).bind fun y1=>
   (qjX n y1).bind fun r1=>
   (idx x2 i1).bind fun _=>
   qgP a n (setS x2 i1 r1) (W64 (i1+1))
  else
   V (x2,i1)
def qkx (n:Nat)(a:(List qW)):Option (List qW):=
 (mkS (a.length:Int) ((⟨ByteArray.empty,0,0⟩:qW):qW)).bind fun x1=>
 (qgP a n x1 0).bind fun o=>match o with
 | (x2,_)=>
  V x2
theorem qp1 {a:(List qW)}(ha1:Ro w a cs1){r:(List qW)}(F:qkx n a=V r):RetV prog 125 [GoT.v (List qW) cs1] w r:=by
 obtain⟨p1,k1,rfl,s1⟩:=ha1;refine zV 23 func125 Z fun h=>X0 8 Z ?_;obtain⟨x1,hx1,F⟩:=qc F;obtain⟨g1,g2,hx1⟩:=qac hx1;refine qaw qa qW h Z Z Z Z Z Z Z Z Z g1 g2 hx1 Z fun _ S1 p2 h=>X0 7 Z ?_;obtain⟨o1,F,hK1⟩:=qc F;refine qn (rL (fun m e w'=>∃(x2:(List qW)) (i1:Int),qgP a m x2 i1=V o1∧e=[(0,.slice p1 a.length k1),(3,.slice p2 x1.length x1.length),(4,.int .i64 i1)]∧SH w w' [Ch.own S1 (x2:List qW) [.slice p2 x1.length x1.length]]) n ⟨_,_,F,rfl,h⟩ Z ?_);rintro m1 _ _ ⟨x2,i1,F,rfl,h⟩;rcases m1 with _|m1
 ·cases F
 refine X0 8 Z (qh Z F ?_ ?_)<;>intro F
 ·refine X0 8 Z ?_;obtain⟨y1,_,F,he1,_,_,_,_,hp1,hq1,hr1,hc2⟩:=s1.ix F;obtain rfl:=qaU hr1;refine zxe hp1 hq1 he1 Z (zc 0 (hc2.below h.below) Z (zcO h F (qq1 (qeB y1)) Z fun r1 _ _ _ h F=>?_));obtain rfl:=qaU (h.own 0 Z);obtain⟨y2,hy2,F,he2,_,_,_,_,hp2,hq2,hr3,hc3⟩:=(h.sl 1 Z).1.ix F;obtain rfl:=qaU hr3;refine zx hp2 hq2 ⟨he2.1,qC he2.2.1 (h.sl 1 Z).2⟩ Z (qay qa 1 0 r1 h Z hy2 hp2 hq2 (qeB y2) hc3 Z Z Z (qeB r1) Z Z Z fun _ h=>X0 7 Z ?_);replace h:=h.pick [1] Z;exact rK ⟨_,_,F,rfl,h⟩ Z
 refine qq Z ?_;obtain rfl:=qb F;replace F:=hK1;refine X0 5 Z ?_;obtain rfl:=qb F;exact rO 0 h Z ⟨rfl,trivial⟩
def qjF (n:Nat)(a:qe):Option qe:=
 (qhD n a.Ab).bind fun r1=>
 (qiV n a.Ah).bind fun r2=>
 (qkx n a.Af).bind fun r3=>
 V (⟨r1,r2,r3⟩:qe)
theorem qpA {a:qe}(ha1:Ro w a cs1){r:qe}(F:qjF n a=V r):RetV prog 50 [GoT.v qe cs1] w r:=by
 obtain⟨_,_,_,_,_,_,rfl,s1,s2,s3⟩:=qaD ha1;refine zV 17 func50 Z fun h=>zSR (qx h Z Z fun _ _ h=>qp qa h Z Z Z fun _ _ h=>zNSR (qp qa h Z Z Z fun _ _ h=>X1 5 2 h Z (zcL h F (qnQ ⟨_,_,rfl,(h.oldS s1)⟩) Z fun r1 _ _ p4 k4 h F=>zp1 Z (zs 1 h Z fun _ h=>X1 5 3 h Z (zcL h F (qot ⟨_,_,rfl,(h.oldS s2)⟩) Z fun r2 _ _ p5 k5 h F=>zp1 Z (zs 2 h Z fun _ h=>X1 5 4 h Z (zcL h F (qp1 ⟨_,_,rfl,(h.oldS s3)⟩) Z fun r3 _ _ p6 k6 h F=>zp1 Z (zs 3 h Z fun _ h=>X1 4 3 h Z (zs 4 h Z fun _ h=>qcP ?_)))))))));obtain rfl:=qb F;exact qae qa (ρ:=qe) [GoT.v qe [.slice p4 r1.length k4,.slice p5 r2.length k5,.slice p6 r3.length k6]] h ⟨⟨_,_,_,rfl,rfl,h.box 4 Z,rfl⟩,trivial⟩ (PV.done h (qaj (quF (⟨r1,r2,r3⟩:qe) h (qaA 2 h Z) (qaA 1 h Z) (qaA 0 h Z) (by rfl) (by rfl))))
def qjZ (n:Nat)(a:qG):Option qG:=
 (qaZ n a.Aj).bind fun r1=>
 (qaZ n a.Bv).bind fun r2=>
 (qaZ n a.Br).bind fun r3=>
 (qaZ n a.Bi).bind fun r4=>
 V (⟨r1,r2,r3,r4⟩:qG)
theorem qra {a:qG}(ha1:Ro w a cs1){r:qG}(F:qjZ n a=V r):RetV prog 126 [GoT.v qG cs1] w r:=by
 obtain⟨_,_,_,_,_,_,_,_,rfl,s1,s2,s3,s4⟩:=qaO ha1;refine zV 21 func126 Z fun h=>zSR (qx h Z Z fun _ _ h=>qp qa h Z Z Z fun _ _ h=>zNSR (qp qa h Z Z Z fun _ _ h=>X1 5 2 h Z (zcL h F (qal ⟨_,_,rfl,(h.oldS s1)⟩) Z fun r1 _ _ p5 k5 h F=>zp1 Z (zs 1 h Z fun _ h=>X1 5 3 h Z (zcL h F (qal ⟨_,_,rfl,(h.oldS s2)⟩) Z fun r2 _ _ p6 k6 h F=>zp1 Z (zs 2 h Z fun _ h=>X1 5 4 h Z (zcL h F (qal ⟨_,_,rfl,(h.oldS s3)⟩) Z fun r3 _ _ p7 k7 h F=>zp1 Z (zs 3 h Z fun _ h=>X1 5 5 h Z (zcL h F (qal ⟨_,_,rfl,(h.oldS s4)⟩) Z fun r4 _ _ p8 k8 h F=>zp1 Z (zs 4 h Z fun _ h=>X1 4 4 h Z (zs 5 h Z fun _ h=>qcP ?_)))))))))));obtain rfl:=qb F;exact qae qa (ρ:=qG) [GoT.v qG [.slice p5 r1.length k5,.slice p6 r2.length k6,.slice p7 r3.length k7,.slice p8 r4.length k8]] h ⟨⟨_,_,_,rfl,rfl,h.box 5 Z,rfl⟩,trivial⟩ (PV.done h (qaj (qtR (⟨r1,r2,r3,r4⟩:qG) h (qaA 3 h Z) (qaA 2 h Z) (qaA 1 h Z) (qaA 0 h Z) (by rfl) (by rfl) (by rfl))))
def qgK (a:(List qG)):Nat→(List qG)→Int→Option ((List qG)×Int)
 | 0,_,_=>U
 | n+1,x2,i1=>
  bif decide (i1<(a.length:Int)) then
   (idx a i1).bind fun y1=>
   (qjZ n y1).bind fun r1=>
   (idx x2 i1).bind fun _=>
   qgK a n (setS x2 i1 r1) (W64 (i1+1))
  else
   V (x2,i1)
def qkr (n:Nat)(a:(List qG)):Option (List qG):=
 (mkS (a.length:Int) ((⟨[],[],[],[]⟩:qG):qG)).bind fun x1=>
 (qgK a n x1 0).bind fun o=>match o with
 | (x2,_)=>
  V x2
theorem qqb {a:(List qG)}(ha1:Ro w a cs1){r:(List qG)}(F:qkr n a=V r):RetV prog 51 [GoT.v (List qG) cs1] w r:=by
 obtain⟨p1,k1,rfl,s1⟩:=ha1;refine zV 23 func51 Z fun h=>X0 8 Z ?_;obtain⟨x1,hx1,F⟩:=qc F;obtain⟨g1,g2,hx1⟩:=qac hx1;refine qaw qa qG h Z Z Z Z Z Z Z Z Z g1 g2 hx1 Z fun _ _ p2 h=>X0 7 Z ?_;obtain⟨o1,F,hK1⟩:=qc F;refine qn (rL (fun m e w'=>∃(S2:Nat→Prop) (x2:(List qG)) (i1:Int),qgK a m x2 i1=V o1∧e=[(0,.slice p1 a.length k1),(3,.slice p2 x1.length x1.length),(4,.int .i64 i1)]∧SH w w' [Ch.own S2 (x2:List qG) [.slice p2 x1.length x1.length]]) n ⟨_,_,_,F,rfl,h⟩ Z ?_);rintro m1 _ _ ⟨S2,x2,i1,F,rfl,h⟩;rcases m1 with _|m1
 ·cases F
 refine X0 8 Z (qh Z F ?_ ?_)<;>intro F
 ·refine X0 8 Z ?_;obtain⟨y1,_,F,he1,_,_,_,_,hp1,hq1,hr1,hc2⟩:=s1.ix F;obtain⟨_,_,_,_,_,_,_,_,rfl,s2,s3,s4,s5⟩:=qaO hr1;refine zxe hp1 hq1 he1 Z (zc 0 (hc2.below h.below) Z (zcO h F (qra (qkH y1 (h.oldS s2) (h.oldS s3) (h.oldS s4) (h.oldS s5))) Z fun r1 _ _ _ h F=>?_));obtain⟨_,_,_,_,_,_,_,_,rfl,-,-,-,-⟩:=qaO (h.own 0 Z);obtain⟨_,hy2,F⟩:=qc F;have he2:=qcT hy2;replace h:=h.lrn0 1 Z;obtain⟨_,o_2,_,_,hp2,hq2,-,hr3,_⟩:=(qlr (h.lrnO 1 Z)).1.at hy2;have hr4:=hr3;obtain⟨_,_,_,_,_,_,_,_,rfl,_,_,_,_⟩:=qaO hr3;replace h:=h.lrnAdd 1 Z hr4;refine zx hp2 hq2 ⟨he2.1,qC he2.2.1 (qlr (h.lrnO 1 Z)).2⟩ Z ?_;replace h:=h.unlrn 1 Z;exact qnv qa r1 h hy2 hp2 hq2 Z Z Z Z Z fun _ _ h=>X0 7 Z (rK ⟨_,_,_,F,rfl,h⟩ Z)
 refine qq Z ?_;obtain rfl:=qb F;replace F:=hK1;refine X0 5 Z ?_;obtain rfl:=qb F;exact rO 0 h Z ⟨rfl,trivial⟩
def qgA (n:Nat)(a:qd):Option qd:=
 (qiU n (⟨a.Ap.Am⟩:qr)).bind fun r1=>
 (qjF n (⟨a.Aa.Ab,a.Aa.Ah,a.Aa.Af⟩:qe)).bind fun r2=>
 (qkr n a.Ac).bind fun r3=>
 V (⟨r1,r2,r3⟩:qd)
theorem qfd {a:qd}(ha1:Ro w a cs1){r:qd}(F:qgA n a=V r):RetV prog 11 [GoT.v qd cs1] w r:=by
 obtain⟨_,_,_,_,_,_,_,_,_,_,rfl,s1,s2,s3,s4,s5⟩:=qM ha1;refine zV 17 func11 Z fun h=>zSR (qx h Z Z fun _ _ h=>qp qa h Z Z Z fun _ _ h=>zNSR (qp qa h Z Z Z fun _ _ h=>X1 5 2 h Z (zcO h F (qoK (qep _ (h.oldS s1))) Z fun r1 _ _ _ h F=>?_)));obtain⟨p6,k6,rfl,-⟩:=qbN (h.own 0 Z);refine zp1 Z (zs 1 h Z fun _ h=>X1 5 3 h Z (zcO h F (qpA (qao _ (h.oldS s2) (h.oldS s3) (h.oldS s4))) Z fun r2 _ _ _ h F=>?_));obtain⟨p7,k7,p8,k8,p9,k9,rfl,-,-,-⟩:=qaD (h.own 0 Z);refine zp1 Z (zs 2 h Z fun _ h=>X1 5 4 h Z (zcL h F (qqb ⟨_,_,rfl,(h.oldS s5)⟩) Z fun r3 _ _ p10 k10 h F=>zp1 Z (zs 3 h Z fun _ h=>X1 4 3 h Z (zs 4 h Z fun _ h=>qcP ?_))));obtain rfl:=qb F;exact qae qa (ρ:=qd) [GoT.v qd [.slice p6 r1.Am.length k6,.slice p7 r2.Ab.length k7,.slice p8 r2.Ah.length k8,.slice p9 r2.Af.length k9,.slice p10 r3.length k10]] h ⟨⟨_,_,_,rfl,rfl,h.box 4 Z,rfl⟩,trivial⟩ (PV.done h (qaj (qwi (⟨r1,r2,r3⟩:qd) h (qaA 2 h Z) (qaA 1 h Z) (qaA 0 h Z) (by rfl) (by rfl))))
def qf6 (a:(List Int))(b:(List Int)):Nat→Int→Option (Flow Bool Int)
 | 0,_=>U
 | n+1,i1=>
  bif decide (i1<(a.length:Int)) then
   (idx a i1).bind fun y1=>
   (idx b i1).bind fun y2=>
   bif (y1 != y2) then V (.ret false) else
   qf6 a b n (W64 (i1+1))
  else
   V (.nxt i1)
def qbM (n:Nat)(a:(List Int))(b:(List Int)):Option Bool:=
 bif ((a.length:Int) != (b.length:Int)) then V false else
 (qf6 a b n 0).bind fun o=>match o with
 | .ret r=>V r
 | .nxt _=>
  V true
theorem qbL {a:(List Int)}{b:(List Int)}(ha1:Ro w a cs1)(ha2:Ro w b cs2){r:Bool}(F:qbM n a b=V r):RetV prog 15 [GoT.v (List Int) cs1,GoT.v (List Int) cs2] w r:=by
 obtain⟨p1,k1,rfl,s1⟩:=ha1;obtain⟨p2,k2,rfl,s2⟩:=ha2;refine zV 26 func15 Z fun h=>X0 13 Z (qh Z F ?_ ?_)<;>intro F
 ·exact X0 4 Z (rb h F Z)
 refine X0 6 Z ?_;obtain⟨o1,F,hK1⟩:=qc F;refine qn (rL (fun m e w'=>∃(i1:Int),qf6 a b m i1=V o1∧e=[(0,.slice p1 a.length k1),(1,.slice p2 b.length k2),(5,.int .i64 i1)]∧SH w w' []) n ⟨_,F,rfl,h⟩ Z ?_);rintro m1 _ _ ⟨i1,F,rfl,h⟩;rcases m1 with _|m1
 ·cases F
 refine X0 8 Z (qh Z F ?_ ?_)<;>intro F
 ·refine X0 4 Z (rD (zd2 Z ?_));obtain⟨_,_,F,he1,_,_,_,_,hp1,hq1,rfl,hc3⟩:=s1.ix F;refine zdxe hp1 hq1 he1 Z (zdc 0 (hc3.below h.below) Z (zd2 Z ?_));obtain⟨_,_,F,he2,_,_,_,_,hp2,hq2,rfl,hc4⟩:=s2.ix F;refine zdxe hp2 hq2 he2 Z (zdc 0 (hc4.below h.below) Z (zd1 Z (dN h fun _ h=>qh Z F ?_ ?_)))<;>intro F
  ·refine X0 4 Z ?_;obtain rfl:=qb F;replace F:=hK1;exact rb h F Z
  exact X0 7 Z (rK ⟨_,F,rfl,h⟩ Z)
 refine qq Z ?_;obtain rfl:=qb F;replace F:=hK1;exact X0 4 Z (rb h F Z)
def qkO (_:Nat)(a:qam)(b:qam):Option Bool:=
 bif (a.Au.toList != b.Au.toList) then V false else
 bif (a.Bu != b.Bu) then V false else
 bif (a.Br != b.Br) then V false else
 bif (!(a.Bo==b.Bo)) then V false else
 V true
theorem qrL {a:qam}{b:qam}(ha1:Ro w a cs1)(ha2:Ro w b cs2){r:Bool}(F:qkO n a b=V r):RetV prog 291 [GoT.v qam cs1,GoT.v qam cs2] w r:=by
 obtain rfl:=qaV ha1;obtain rfl:=qaV ha2;refine zV 25 func291 Z fun h=>zSR (qx h Z Z fun _ _ h=>qx h Z Z fun _ _ h=>X2 11 1 0 h Z (qh Z F ?_ ?_))<;>intro F
 ·exact X0 4 Z (rb h F Z)
 refine X2 10 1 0 h Z (qh Z F ?_ ?_)<;>intro F
 ·exact X0 4 Z (rb h F Z)
 refine X2 10 1 0 h Z (qh Z F ?_ ?_)<;>intro F
 ·exact X0 4 Z (rb h F Z)
 refine X2 10 1 0 h Z (qh Z F ?_ ?_)<;>intro F
 ·exact X0 4 Z (rb h F Z)
 exact X0 5 Z (rb h F Z)
def qhw (a:(List qam))(b:(List qam)):Nat→Int→Option (Flow Bool Int)
 | 0,_=>U
 | n+1,i1=>
  bif decide (i1<(a.length:Int)) then
   (idx a i1).bind fun y1=>
   (idx b i1).bind fun y2=>
   (qkO n y1 y2).bind fun r1=>
   bif (!r1) then V (.ret false) else
   qhw a b n (W64 (i1+1))
  else
   V (.nxt i1)
def qly (n:Nat)(a:(List qam))(b:(List qam)):Option Bool:=
 bif ((a.length:Int) != (b.length:Int)) then V false else
 (qhw a b n 0).bind fun o=>match o with
 | .ret r=>V r
 | .nxt _=>
  V true
theorem qqW {a:(List qam)}{b:(List qam)}(ha1:Ro w a cs1)(ha2:Ro w b cs2){r:Bool}(F:qly n a b=V r):RetV prog 255 [GoT.v (List qam) cs1,GoT.v (List qam) cs2] w r:=by
 obtain⟨p1,k1,rfl,s1⟩:=ha1;obtain⟨p2,k2,rfl,s2⟩:=ha2;refine zV 27 func255 Z fun h=>X0 13 Z (qh Z F ?_ ?_)<;>intro F
 ·exact X0 4 Z (rb h F Z)
 refine X0 6 Z ?_;obtain⟨o1,F,hK1⟩:=qc F;refine qn (rL (fun m e w'=>∃(i1:Int),qhw a b m i1=V o1∧e=[(0,.slice p1 a.length k1),(1,.slice p2 b.length k2),(5,.int .i64 i1)]∧SH w w' []) n ⟨_,F,rfl,h⟩ Z ?_);rintro m1 _ _ ⟨i1,F,rfl,h⟩;rcases m1 with _|m1
 ·cases F
 refine X0 8 Z (qh Z F ?_ ?_)<;>intro F
 ·refine X0 4 Z (rD (zd2 Z ?_));obtain⟨y1,_,F,he1,_,_,_,_,hp1,hq1,hr1,hc3⟩:=s1.ix F;obtain rfl:=qaV hr1;refine zdxe hp1 hq1 he1 Z (zdc 0 (hc3.below h.below) Z (zd2 Z ?_));obtain⟨y2,_,F,he2,_,_,_,_,hp2,hq2,hr2,hc4⟩:=s2.ix F;obtain rfl:=qaV hr2;refine zdxe hp2 hq2 he2 Z (zdc 0 (hc4.below h.below) Z ?_);obtain⟨r1,hr3,F⟩:=qc F;refine qbJ r1 (vsB _) (cB 291 Z) (fun _ hb=>qrL (qee y1) (qee y2) hr3) Z Z Z Z (zd1 Z (dN h fun _ h=>qh Z F ?_ ?_))<;>intro F
  ·refine X0 4 Z ?_;obtain rfl:=qb F;replace F:=hK1;exact rb h F Z
  exact X0 7 Z (rK ⟨_,F,rfl,h⟩ Z)
 refine qq Z ?_;obtain rfl:=qb F;replace F:=hK1;exact X0 4 Z (rb h F Z)
def qi3 (n:Nat)(a:qu)(b:qu):Option Bool:=
 (qbM n a.Bl b.Bl).bind fun r1=>
 bif (!r1) then V false else
 (qbM n a.Bd b.Bd).bind fun r2=>
 bif (!r2) then V false else
 (qbM n a.Az b.Az).bind fun r3=>
 bif (!r3) then V false else
 V true
theorem qqh {a:qu}{b:qu}(ha1:Ro w a cs1)(ha2:Ro w b cs2){r:Bool}(F:qi3 n a b=V r):RetV prog 327 [GoT.v qu cs1,GoT.v qu cs2] w r:=by
 obtain⟨_,_,_,_,_,_,rfl,s1,s2,s3⟩:=qaJ ha1;obtain⟨_,_,_,_,_,_,rfl,s4,s5,s6⟩:=qaJ ha2;refine zV 23 func327 Z fun h=>zSR (qx h Z Z fun _ _ h=>qx h Z Z fun _ _ h=>X2 9 1 0 h Z (zcB h F (qbL ⟨_,_,rfl,(h.oldS s1)⟩ ⟨_,_,rfl,(h.oldS s4)⟩) Z fun _ _ h F=>X0 2 Z (qh Z F ?_ ?_)))<;>intro F
 ·exact X0 4 Z (rb h F Z)
 refine X2 8 1 0 h Z (zcB h F (qbL ⟨_,_,rfl,(h.oldS s2)⟩ ⟨_,_,rfl,(h.oldS s5)⟩) Z fun _ _ h F=>X0 2 Z (qh Z F ?_ ?_))<;>intro F
 ·exact X0 4 Z (rb h F Z)
 refine X2 8 1 0 h Z (zcB h F (qbL ⟨_,_,rfl,(h.oldS s3)⟩ ⟨_,_,rfl,(h.oldS s6)⟩) Z fun _ _ h F=>X0 2 Z (qh Z F ?_ ?_))<;>intro F
 ·exact X0 4 Z (rb h F Z)
 exact X0 5 Z (rb h F Z)
end Go.Fw


namespace Go.Fw
open Go Go.Proofs Go.Proofs.Tryz
open Go.RowKit (Below)
set_option maxRecDepth 100000
set_option maxHeartbeats 1600000
variable {n:Nat}{w:World}{cs1 cs2 cs3 cs4 cs5 cs6 cs7 cs8 cs9:List Value}
def qfV (a:(List qu))(b:(List qu)):Nat→Int→Option (Flow Bool Int)
 | 0,_=>U
 | n+1,i1=>
  bif decide (i1<(a.length:Int)) then
   (idx a i1).bind fun y1=>
   (idx b i1).bind fun y2=>
   (qi3 n y1 y2).bind fun r1=>
   bif (!r1) then V (.ret false) else
   qfV a b n (W64 (i1+1))
  else
   V (.nxt i1)
def qhY (n:Nat)(a:(List qu))(b:(List qu)):Option Bool:=
 bif ((a.length:Int) != (b.length:Int)) then V false else
 (qfV a b n 0).bind fun o=>match o with
 | .ret r=>V r
 | .nxt _=>
  V true
theorem qmf {a:(List qu)}{b:(List qu)}(ha1:Ro w a cs1)(ha2:Ro w b cs2){r:Bool}(F:qhY n a b=V r):RetV prog 312 [GoT.v (List qu) cs1,GoT.v (List qu) cs2] w r:=by
 obtain⟨p1,k1,rfl,s1⟩:=ha1;obtain⟨p2,k2,rfl,s2⟩:=ha2;refine zV 27 func312 Z fun h=>X0 13 Z (qh Z F ?_ ?_)<;>intro F
 ·exact X0 4 Z (rb h F Z)
 refine X0 6 Z ?_;obtain⟨o1,F,hK1⟩:=qc F;refine qn (rL (fun m e w'=>∃(i1:Int),qfV a b m i1=V o1∧e=[(0,.slice p1 a.length k1),(1,.slice p2 b.length k2),(5,.int .i64 i1)]∧SH w w' []) n ⟨_,F,rfl,h⟩ Z ?_);rintro m1 _ _ ⟨i1,F,rfl,h⟩;rcases m1 with _|m1
 ·cases F
 refine X0 8 Z (qh Z F ?_ ?_)<;>intro F
 ·refine X0 4 Z (rD (zd2 Z ?_));obtain⟨y1,_,F,he1,_,_,_,_,hp1,hq1,hr1,hc3⟩:=s1.ix F;obtain⟨_,_,_,_,_,_,rfl,s3,s4,s5⟩:=qaJ hr1;refine zdxe hp1 hq1 he1 Z (zdc 0 (hc3.below h.below) Z (zd2 Z ?_));obtain⟨y2,_,F,he2,_,_,_,_,hp2,hq2,hr2,hc4⟩:=s2.ix F;obtain⟨_,_,_,_,_,_,rfl,s6,s7,s8⟩:=qaJ hr2;refine zdxe hp2 hq2 he2 Z (zdc 0 (hc4.below h.below) Z ?_);obtain⟨r1,hr3,F⟩:=qc F;refine qbJ r1 (vsB _) (cB 327 Z) (fun _ hb=>qqh (qfE y1 ((h.ext hb).oldS s3) ((h.ext hb).oldS s4) ((h.ext hb).oldS s5)) (qfE y2 ((h.ext hb).oldS s6) ((h.ext hb).oldS s7) ((h.ext hb).oldS s8)) hr3) Z Z Z Z (zd1 Z (dN h fun _ h=>qh Z F ?_ ?_))<;>intro F
  ·refine X0 4 Z ?_;obtain rfl:=qb F;replace F:=hK1;exact rb h F Z
  exact X0 7 Z (rK ⟨_,F,rfl,h⟩ Z)
 refine qq Z ?_;obtain rfl:=qb F;replace F:=hK1;exact X0 4 Z (rb h F Z)
def qle (n:Nat)(a:qH)(b:qH):Option Bool:=
 bif (a.Aq != b.Aq) then V false else
 bif (a.Bc != b.Bc) then V false else
 bif (a.To != b.To) then V false else
 bif (a.Bn != b.Bn) then V false else
 (qhY n a.Bk b.Bk).bind fun r1=>
 bif (!r1) then V false else
 (qhY n a.Ba b.Ba).bind fun r2=>
 bif (!r2) then V false else
 V true
theorem qrM {a:qH}{b:qH}(ha1:Ro w a cs1)(ha2:Ro w b cs2){r:Bool}(F:qle n a b=V r):RetV prog 292 [GoT.v qH cs1,GoT.v qH cs2] w r:=by
 obtain⟨_,_,_,_,rfl,s1,s2⟩:=qX ha1;obtain⟨_,_,_,_,rfl,s3,s4⟩:=qX ha2;refine zV 37 func292 Z fun h=>zSR (qx h Z Z fun _ _ h=>qx h Z Z fun _ _ h=>X2 11 1 0 h Z (qh Z F ?_ ?_))<;>intro F
 ·exact X0 4 Z (rb h F Z)
 refine X2 10 1 0 h Z (qh Z F ?_ ?_)<;>intro F
 ·exact X0 4 Z (rb h F Z)
 refine X2 10 1 0 h Z (qh Z F ?_ ?_)<;>intro F
 ·exact X0 4 Z (rb h F Z)
 refine X2 10 1 0 h Z (qh Z F ?_ ?_)<;>intro F
 ·exact X0 4 Z (rb h F Z)
 refine X2 8 1 0 h Z (zcB h F (qmf ⟨_,_,rfl,(h.oldS s1)⟩ ⟨_,_,rfl,(h.oldS s3)⟩) Z fun _ _ h F=>X0 2 Z (qh Z F ?_ ?_))<;>intro F
 ·exact X0 4 Z (rb h F Z)
 refine X2 8 1 0 h Z (zcB h F (qmf ⟨_,_,rfl,(h.oldS s2)⟩ ⟨_,_,rfl,(h.oldS s4)⟩) Z fun _ _ h F=>X0 2 Z (qh Z F ?_ ?_))<;>intro F
 ·exact X0 4 Z (rb h F Z)
 exact X0 5 Z (rb h F Z)
def qht (a:(List qH))(b:(List qH)):Nat→Int→Option (Flow Bool Int)
 | 0,_=>U
 | n+1,i1=>
  bif decide (i1<(a.length:Int)) then
   (idx a i1).bind fun y1=>
   (idx b i1).bind fun y2=>
   (qle n y1 y2).bind fun r1=>
   bif (!r1) then V (.ret false) else
   qht a b n (W64 (i1+1))
  else
   V (.nxt i1)
def qlE (n:Nat)(a:(List qH))(b:(List qH)):Option Bool:=
 bif ((a.length:Int) != (b.length:Int)) then V false else
 (qht a b n 0).bind fun o=>match o with
 | .ret r=>V r
 | .nxt _=>
  V true
theorem qqM {a:(List qH)}{b:(List qH)}(ha1:Ro w a cs1)(ha2:Ro w b cs2){r:Bool}(F:qlE n a b=V r):RetV prog 256 [GoT.v (List qH) cs1,GoT.v (List qH) cs2] w r:=by
 obtain⟨p1,k1,rfl,s1⟩:=ha1;obtain⟨p2,k2,rfl,s2⟩:=ha2;refine zV 27 func256 Z fun h=>X0 13 Z (qh Z F ?_ ?_)<;>intro F
 ·exact X0 4 Z (rb h F Z)
 refine X0 6 Z ?_;obtain⟨o1,F,hK1⟩:=qc F;refine qn (rL (fun m e w'=>∃(i1:Int),qht a b m i1=V o1∧e=[(0,.slice p1 a.length k1),(1,.slice p2 b.length k2),(5,.int .i64 i1)]∧SH w w' []) n ⟨_,F,rfl,h⟩ Z ?_);rintro m1 _ _ ⟨i1,F,rfl,h⟩;rcases m1 with _|m1
 ·cases F
 refine X0 8 Z (qh Z F ?_ ?_)<;>intro F
 ·refine X0 4 Z (rD (zd2 Z ?_));obtain⟨y1,_,F,he1,_,_,_,_,hp1,hq1,hr1,hc3⟩:=s1.ix F;obtain⟨_,_,_,_,rfl,s3,s4⟩:=qX hr1;refine zdxe hp1 hq1 he1 Z (zdc 0 (hc3.below h.below) Z (zd2 Z ?_));obtain⟨y2,_,F,he2,_,_,_,_,hp2,hq2,hr2,hc4⟩:=s2.ix F;obtain⟨_,_,_,_,rfl,s5,s6⟩:=qX hr2;refine zdxe hp2 hq2 he2 Z (zdc 0 (hc4.below h.below) Z ?_);obtain⟨r1,hr3,F⟩:=qc F;refine qbJ r1 (vsB _) (cB 292 Z) (fun _ hb=>qrM (qfo y1 ((h.ext hb).oldS s3) ((h.ext hb).oldS s4)) (qfo y2 ((h.ext hb).oldS s5) ((h.ext hb).oldS s6)) hr3) Z Z Z Z (zd1 Z (dN h fun _ h=>qh Z F ?_ ?_))<;>intro F
  ·refine X0 4 Z ?_;obtain rfl:=qb F;replace F:=hK1;exact rb h F Z
  exact X0 7 Z (rK ⟨_,F,rfl,h⟩ Z)
 refine qq Z ?_;obtain rfl:=qb F;replace F:=hK1;exact X0 4 Z (rb h F Z)
def qjU (n:Nat)(a:qv)(b:qv):Option Bool:=
 bif (a.Au.toList != b.Au.toList) then V false else
 bif (a.Aq != b.Aq) then V false else
 (qly n a.As b.As).bind fun r1=>
 bif (!r1) then V false else
 (qlE n a.Ak b.Ak).bind fun r2=>
 bif (!r2) then V false else
 (qbM n a.Bm b.Bm).bind fun r3=>
 bif (!r3) then V false else
 bif (a.Bz != b.Bz) then V false else
 bif (a.Bs != b.Bs) then V false else
 V true
theorem qqK {a:qv}{b:qv}(ha1:Ro w a cs1)(ha2:Ro w b cs2){r:Bool}(F:qjU n a b=V r):RetV prog 209 [GoT.v qv cs1,GoT.v qv cs2] w r:=by
 obtain⟨_,_,_,_,_,_,rfl,s1,s2,s3⟩:=qO ha1;obtain⟨_,_,_,_,_,_,rfl,s4,s5,s6⟩:=qO ha2;refine zV 43 func209 Z fun h=>zSR (qx h Z Z fun _ _ h=>qx h Z Z fun _ _ h=>X2 11 1 0 h Z (qh Z F ?_ ?_))<;>intro F
 ·exact X0 4 Z (rb h F Z)
 refine X2 10 1 0 h Z (qh Z F ?_ ?_)<;>intro F
 ·exact X0 4 Z (rb h F Z)
 refine X2 8 1 0 h Z (zcB h F (qqW ⟨_,_,rfl,(h.oldS s1)⟩ ⟨_,_,rfl,(h.oldS s4)⟩) Z fun _ _ h F=>X0 2 Z (qh Z F ?_ ?_))<;>intro F
 ·exact X0 4 Z (rb h F Z)
 refine X2 8 1 0 h Z (zcB h F (qqM ⟨_,_,rfl,(h.oldS s2)⟩ ⟨_,_,rfl,(h.oldS s5)⟩) Z fun _ _ h F=>X0 2 Z (qh Z F ?_ ?_))<;>intro F
 ·exact X0 4 Z (rb h F Z)
 refine X2 8 1 0 h Z (zcB h F (qbL ⟨_,_,rfl,(h.oldS s3)⟩ ⟨_,_,rfl,(h.oldS s6)⟩) Z fun _ _ h F=>X0 2 Z (qh Z F ?_ ?_))<;>intro F
 ·exact X0 4 Z (rb h F Z)
 refine X2 10 1 0 h Z (qh Z F ?_ ?_)<;>intro F
 ·exact X0 4 Z (rb h F Z)
 refine X2 10 1 0 h Z (qh Z F ?_ ?_)<;>intro F
 ·exact X0 4 Z (rb h F Z)
 exact X0 5 Z (rb h F Z)
def qgM (a:(List qv))(b:(List qv)):Nat→Int→Option (Flow Bool Int)
 | 0,_=>U
 | n+1,i1=>
  bif decide (i1<(a.length:Int)) then
   (idx a i1).bind fun y1=>
   (idx b i1).bind fun y2=>
   (qjU n y1 y2).bind fun r1=>
   bif (!r1) then V (.ret false) else
   qgM a b n (W64 (i1+1))
  else
   V (.nxt i1)
def qkz (n:Nat)(a:(List qv))(b:(List qv)):Option Bool:=
 bif ((a.length:Int) != (b.length:Int)) then V false else
 (qgM a b n 0).bind fun o=>match o with
 | .ret r=>V r
 | .nxt _=>
  V true
theorem qp4 {a:(List qv)}{b:(List qv)}(ha1:Ro w a cs1)(ha2:Ro w b cs2){r:Bool}(F:qkz n a b=V r):RetV prog 134 [GoT.v (List qv) cs1,GoT.v (List qv) cs2] w r:=by
 obtain⟨p1,k1,rfl,s1⟩:=ha1;obtain⟨p2,k2,rfl,s2⟩:=ha2;refine zV 27 func134 Z fun h=>X0 13 Z (qh Z F ?_ ?_)<;>intro F
 ·exact X0 4 Z (rb h F Z)
 refine X0 6 Z ?_;obtain⟨o1,F,hK1⟩:=qc F;refine qn (rL (fun m e w'=>∃(i1:Int),qgM a b m i1=V o1∧e=[(0,.slice p1 a.length k1),(1,.slice p2 b.length k2),(5,.int .i64 i1)]∧SH w w' []) n ⟨_,F,rfl,h⟩ Z ?_);rintro m1 _ _ ⟨i1,F,rfl,h⟩;rcases m1 with _|m1
 ·cases F
 refine X0 8 Z (qh Z F ?_ ?_)<;>intro F
 ·refine X0 4 Z (rD (zd2 Z ?_));obtain⟨y1,_,F,he1,_,_,_,_,hp1,hq1,hr1,hc3⟩:=s1.ix F;obtain⟨_,_,_,_,_,_,rfl,s3,s4,s5⟩:=qO hr1;refine zdxe hp1 hq1 he1 Z (zdc 0 (hc3.below h.below) Z (zd2 Z ?_));obtain⟨y2,_,F,he2,_,_,_,_,hp2,hq2,hr2,hc4⟩:=s2.ix F;obtain⟨_,_,_,_,_,_,rfl,s6,s7,s8⟩:=qO hr2;refine zdxe hp2 hq2 he2 Z (zdc 0 (hc4.below h.below) Z ?_);obtain⟨r1,hr3,F⟩:=qc F;refine qbJ r1 (vsB _) (cB 209 Z) (fun _ hb=>qqK (qjq y1 ((h.ext hb).oldS s3) ((h.ext hb).oldS s4) ((h.ext hb).oldS s5)) (qjq y2 ((h.ext hb).oldS s6) ((h.ext hb).oldS s7) ((h.ext hb).oldS s8)) hr3) Z Z Z Z (zd1 Z (dN h fun _ h=>qh Z F ?_ ?_))<;>intro F
  ·refine X0 4 Z ?_;obtain rfl:=qb F;replace F:=hK1;exact rb h F Z
  exact X0 7 Z (rK ⟨_,F,rfl,h⟩ Z)
 refine qq Z ?_;obtain rfl:=qb F;replace F:=hK1;exact X0 4 Z (rb h F Z)
def qiW (n:Nat)(a:qr)(b:qr):Option Bool:=
 (qkz n a.Am b.Am).bind fun r1=>
 bif (!r1) then V false else
 V true
theorem qoX {a:qr}{b:qr}(ha1:Ro w a cs1)(ha2:Ro w b cs2){r:Bool}(F:qiW n a b=V r):RetV prog 58 [GoT.v qr cs1,GoT.v qr cs2] w r:=by
 obtain⟨_,_,rfl,s1⟩:=qbN ha1;obtain⟨_,_,rfl,s2⟩:=qbN ha2;refine zV 11 func58 Z fun h=>zSR (qx h Z Z fun _ _ h=>qx h Z Z fun _ _ h=>X2 9 1 0 h Z (zcB h F (qp4 ⟨_,_,rfl,(h.oldS s1)⟩ ⟨_,_,rfl,(h.oldS s2)⟩) Z fun _ _ h F=>X0 2 Z (qh Z F ?_ ?_)))<;>intro F
 ·exact X0 4 Z (rb h F Z)
 exact X0 5 Z (rb h F Z)
def qgC (n:Nat)(a:qk)(b:qk):Option Bool:=
 bif (a.Au.toList != b.Au.toList) then V false else
 bif (a.Bp != b.Bp) then V false else
 (qbM n a.Ah b.Ah).bind fun r1=>
 bif (!r1) then V false else
 V true
theorem qn8 {a:qk}{b:qk}(ha1:Ro w a cs1)(ha2:Ro w b cs2){r:Bool}(F:qgC n a b=V r):RetV prog 210 [GoT.v qk cs1,GoT.v qk cs2] w r:=by
 obtain⟨_,_,rfl,s1⟩:=qF ha1;obtain⟨_,_,rfl,s2⟩:=qF ha2;refine zV 21 func210 Z fun h=>zSR (qx h Z Z fun _ _ h=>qx h Z Z fun _ _ h=>X2 11 1 0 h Z (qh Z F ?_ ?_))<;>intro F
 ·exact X0 4 Z (rb h F Z)
 refine X2 10 1 0 h Z (qh Z F ?_ ?_)<;>intro F
 ·exact X0 4 Z (rb h F Z)
 refine X2 8 1 0 h Z (zcB h F (qbL ⟨_,_,rfl,(h.oldS s1)⟩ ⟨_,_,rfl,(h.oldS s2)⟩) Z fun _ _ h F=>X0 2 Z (qh Z F ?_ ?_))<;>intro F
 ·exact X0 4 Z (rb h F Z)
 exact X0 5 Z (rb h F Z)
def qea (a:(List qk))(b:(List qk)):Nat→Int→Option (Flow Bool Int)
 | 0,_=>U
 | n+1,i1=>
  bif decide (i1<(a.length:Int)) then
   (idx a i1).bind fun y1=>
   (idx b i1).bind fun y2=>
   (qgC n y1 y2).bind fun r1=>
   bif (!r1) then V (.ret false) else
   qea a b n (W64 (i1+1))
  else
   V (.nxt i1)
def qhF (n:Nat)(a:(List qk))(b:(List qk)):Option Bool:=
 bif ((a.length:Int) != (b.length:Int)) then V false else
 (qea a b n 0).bind fun o=>match o with
 | .ret r=>V r
 | .nxt _=>
  V true
theorem qnP {a:(List qk)}{b:(List qk)}(ha1:Ro w a cs1)(ha2:Ro w b cs2){r:Bool}(F:qhF n a b=V r):RetV prog 135 [GoT.v (List qk) cs1,GoT.v (List qk) cs2] w r:=by
 obtain⟨p1,k1,rfl,s1⟩:=ha1;obtain⟨p2,k2,rfl,s2⟩:=ha2;refine zV 27 func135 Z fun h=>X0 13 Z (qh Z F ?_ ?_)<;>intro F
 ·exact X0 4 Z (rb h F Z)
 refine X0 6 Z ?_;obtain⟨o1,F,hK1⟩:=qc F;refine qn (rL (fun m e w'=>∃(i1:Int),qea a b m i1=V o1∧e=[(0,.slice p1 a.length k1),(1,.slice p2 b.length k2),(5,.int .i64 i1)]∧SH w w' []) n ⟨_,F,rfl,h⟩ Z ?_);rintro m1 _ _ ⟨i1,F,rfl,h⟩;rcases m1 with _|m1
 ·cases F
 refine X0 8 Z (qh Z F ?_ ?_)<;>intro F
 ·refine X0 4 Z (rD (zd2 Z ?_));obtain⟨y1,_,F,he1,_,_,_,_,hp1,hq1,hr1,hc3⟩:=s1.ix F;obtain⟨_,_,rfl,s3⟩:=qF hr1;refine zdxe hp1 hq1 he1 Z (zdc 0 (hc3.below h.below) Z (zd2 Z ?_));obtain⟨y2,_,F,he2,_,_,_,_,hp2,hq2,hr2,hc4⟩:=s2.ix F;obtain⟨_,_,rfl,s4⟩:=qF hr2;refine zdxe hp2 hq2 he2 Z (zdc 0 (hc4.below h.below) Z ?_);obtain⟨r1,hr3,F⟩:=qc F;refine qbJ r1 (vsB _) (cB 210 Z) (fun _ hb=>qn8 (qgT y1 ((h.ext hb).oldS s3)) (qgT y2 ((h.ext hb).oldS s4)) hr3) Z Z Z Z (zd1 Z (dN h fun _ h=>qh Z F ?_ ?_))<;>intro F
  ·refine X0 4 Z ?_;obtain rfl:=qb F;replace F:=hK1;exact rb h F Z
  exact X0 7 Z (rK ⟨_,F,rfl,h⟩ Z)
 refine qq Z ?_;obtain rfl:=qb F;replace F:=hK1;exact X0 4 Z (rb h F Z)
def qfC (a:(List ByteArray))(b:(List ByteArray)):Nat→Int→Option (Flow Bool Int)
 | 0,_=>U
 | n+1,i1=>
  bif decide (i1<(a.length:Int)) then
   (idx a i1).bind fun y1=>
   (idx b i1).bind fun y2=>
   bif (y1.toList != y2.toList) then V (.ret false) else
   qfC a b n (W64 (i1+1))
  else
   V (.nxt i1)
def qiM (n:Nat)(a:(List ByteArray))(b:(List ByteArray)):Option Bool:=
 bif ((a.length:Int) != (b.length:Int)) then V false else
 (qfC a b n 0).bind fun o=>match o with
 | .ret r=>V r
 | .nxt _=>
  V true
theorem qoV {a:(List ByteArray)}{b:(List ByteArray)}(ha1:Ro w a cs1)(ha2:Ro w b cs2){r:Bool}(F:qiM n a b=V r):RetV prog 136 [GoT.v (List ByteArray) cs1,GoT.v (List ByteArray) cs2] w r:=by
 obtain⟨p1,k1,rfl,s1⟩:=ha1;obtain⟨p2,k2,rfl,s2⟩:=ha2;refine zV 26 func136 Z fun h=>X0 13 Z (qh Z F ?_ ?_)<;>intro F
 ·exact X0 4 Z (rb h F Z)
 refine X0 6 Z ?_;obtain⟨o1,F,hK1⟩:=qc F;refine qn (rL (fun m e w'=>∃(i1:Int),qfC a b m i1=V o1∧e=[(0,.slice p1 a.length k1),(1,.slice p2 b.length k2),(5,.int .i64 i1)]∧SH w w' []) n ⟨_,F,rfl,h⟩ Z ?_);rintro m1 _ _ ⟨i1,F,rfl,h⟩;rcases m1 with _|m1
 ·cases F
 refine X0 8 Z (qh Z F ?_ ?_)<;>intro F
 ·refine X0 4 Z (rD (zd2 Z ?_));obtain⟨_,_,F,he1,_,_,_,_,hp1,hq1,rfl,hc3⟩:=s1.ix F;refine zdxe hp1 hq1 he1 Z (zdc 0 (hc3.below h.below) Z (zd2 Z ?_));obtain⟨_,_,F,he2,_,_,_,_,hp2,hq2,rfl,hc4⟩:=s2.ix F;refine zdxe hp2 hq2 he2 Z (zdc 0 (hc4.below h.below) Z (zd1 Z (dN h fun _ h=>qh Z F ?_ ?_)))<;>intro F
  ·refine X0 4 Z ?_;obtain rfl:=qb F;replace F:=hK1;exact rb h F Z
  exact X0 7 Z (rK ⟨_,F,rfl,h⟩ Z)
 refine qq Z ?_;obtain rfl:=qb F;replace F:=hK1;exact X0 4 Z (rb h F Z)
def qjN (_:Nat)(a:qW)(b:qW):Option Bool:=
 bif (a.Au.toList != b.Au.toList) then V false else
 bif (a.Bu != b.Bu) then V false else
 bif (a.Bx != b.Bx) then V false else
 V true
theorem qq5 {a:qW}{b:qW}(ha1:Ro w a cs1)(ha2:Ro w b cs2){r:Bool}(F:qjN n a b=V r):RetV prog 211 [GoT.v qW cs1,GoT.v qW cs2] w r:=by
 obtain rfl:=qaU ha1;obtain rfl:=qaU ha2;refine zV 20 func211 Z fun h=>zSR (qx h Z Z fun _ _ h=>qx h Z Z fun _ _ h=>X2 11 1 0 h Z (qh Z F ?_ ?_))<;>intro F
 ·exact X0 4 Z (rb h F Z)
 refine X2 10 1 0 h Z (qh Z F ?_ ?_)<;>intro F
 ·exact X0 4 Z (rb h F Z)
 refine X2 10 1 0 h Z (qh Z F ?_ ?_)<;>intro F
 ·exact X0 4 Z (rb h F Z)
 exact X0 5 Z (rb h F Z)
def qgD (a:(List qW))(b:(List qW)):Nat→Int→Option (Flow Bool Int)
 | 0,_=>U
 | n+1,i1=>
  bif decide (i1<(a.length:Int)) then
   (idx a i1).bind fun y1=>
   (idx b i1).bind fun y2=>
   (qjN n y1 y2).bind fun r1=>
   bif (!r1) then V (.ret false) else
   qgD a b n (W64 (i1+1))
  else
   V (.nxt i1)
def qkC (n:Nat)(a:(List qW))(b:(List qW)):Option Bool:=
 bif ((a.length:Int) != (b.length:Int)) then V false else
 (qgD a b n 0).bind fun o=>match o with
 | .ret r=>V r
 | .nxt _=>
  V true
theorem qp0 {a:(List qW)}{b:(List qW)}(ha1:Ro w a cs1)(ha2:Ro w b cs2){r:Bool}(F:qkC n a b=V r):RetV prog 137 [GoT.v (List qW) cs1,GoT.v (List qW) cs2] w r:=by
 obtain⟨p1,k1,rfl,s1⟩:=ha1;obtain⟨p2,k2,rfl,s2⟩:=ha2;refine zV 27 func137 Z fun h=>X0 13 Z (qh Z F ?_ ?_)<;>intro F
 ·exact X0 4 Z (rb h F Z)
 refine X0 6 Z ?_;obtain⟨o1,F,hK1⟩:=qc F;refine qn (rL (fun m e w'=>∃(i1:Int),qgD a b m i1=V o1∧e=[(0,.slice p1 a.length k1),(1,.slice p2 b.length k2),(5,.int .i64 i1)]∧SH w w' []) n ⟨_,F,rfl,h⟩ Z ?_);rintro m1 _ _ ⟨i1,F,rfl,h⟩;rcases m1 with _|m1
 ·cases F
 refine X0 8 Z (qh Z F ?_ ?_)<;>intro F
 ·refine X0 4 Z (rD (zd2 Z ?_));obtain⟨y1,_,F,he1,_,_,_,_,hp1,hq1,hr1,hc3⟩:=s1.ix F;obtain rfl:=qaU hr1;refine zdxe hp1 hq1 he1 Z (zdc 0 (hc3.below h.below) Z (zd2 Z ?_));obtain⟨y2,_,F,he2,_,_,_,_,hp2,hq2,hr2,hc4⟩:=s2.ix F;obtain rfl:=qaU hr2;refine zdxe hp2 hq2 he2 Z (zdc 0 (hc4.below h.below) Z ?_);obtain⟨r1,hr3,F⟩:=qc F;refine qbJ r1 (vsB _) (cB 211 Z) (fun _ hb=>qq5 (qeB y1) (qeB y2) hr3) Z Z Z Z (zd1 Z (dN h fun _ h=>qh Z F ?_ ?_))<;>intro F
  ·refine X0 4 Z ?_;obtain rfl:=qb F;replace F:=hK1;exact rb h F Z
  exact X0 7 Z (rK ⟨_,F,rfl,h⟩ Z)
 refine qq Z ?_;obtain rfl:=qb F;replace F:=hK1;exact X0 4 Z (rb h F Z)
def qjL (n:Nat)(a:qe)(b:qe):Option Bool:=
 (qhF n a.Ab b.Ab).bind fun r1=>
 bif (!r1) then V false else
 (qiM n a.Ah b.Ah).bind fun r2=>
 bif (!r2) then V false else
 (qkC n a.Af b.Af).bind fun r3=>
 bif (!r3) then V false else
 V true
theorem qpx {a:qe}{b:qe}(ha1:Ro w a cs1)(ha2:Ro w b cs2){r:Bool}(F:qjL n a b=V r):RetV prog 59 [GoT.v qe cs1,GoT.v qe cs2] w r:=by
 obtain⟨_,_,_,_,_,_,rfl,s1,s2,s3⟩:=qaD ha1;obtain⟨_,_,_,_,_,_,rfl,s4,s5,s6⟩:=qaD ha2;refine zV 23 func59 Z fun h=>zSR (qx h Z Z fun _ _ h=>qx h Z Z fun _ _ h=>X2 9 1 0 h Z (zcB h F (qnP ⟨_,_,rfl,(h.oldS s1)⟩ ⟨_,_,rfl,(h.oldS s4)⟩) Z fun _ _ h F=>X0 2 Z (qh Z F ?_ ?_)))<;>intro F
 ·exact X0 4 Z (rb h F Z)
 refine X2 8 1 0 h Z (zcB h F (qoV ⟨_,_,rfl,(h.oldS s2)⟩ ⟨_,_,rfl,(h.oldS s5)⟩) Z fun _ _ h F=>X0 2 Z (qh Z F ?_ ?_))<;>intro F
 ·exact X0 4 Z (rb h F Z)
 refine X2 8 1 0 h Z (zcB h F (qp0 ⟨_,_,rfl,(h.oldS s3)⟩ ⟨_,_,rfl,(h.oldS s6)⟩) Z fun _ _ h F=>X0 2 Z (qh Z F ?_ ?_))<;>intro F
 ·exact X0 4 Z (rb h F Z)
 exact X0 5 Z (rb h F Z)
def qjR (n:Nat)(a:qG)(b:qG):Option Bool:=
 (qbM n a.Aj b.Aj).bind fun r1=>
 bif (!r1) then V false else
 (qbM n a.Bv b.Bv).bind fun r2=>
 bif (!r2) then V false else
 (qbM n a.Br b.Br).bind fun r3=>
 bif (!r3) then V false else
 (qbM n a.Bi b.Bi).bind fun r4=>
 bif (!r4) then V false else
 V true
theorem qqQ {a:qG}{b:qG}(ha1:Ro w a cs1)(ha2:Ro w b cs2){r:Bool}(F:qjR n a b=V r):RetV prog 138 [GoT.v qG cs1,GoT.v qG cs2] w r:=by
 obtain⟨_,_,_,_,_,_,_,_,rfl,s1,s2,s3,s4⟩:=qaO ha1;obtain⟨_,_,_,_,_,_,_,_,rfl,s5,s6,s7,s8⟩:=qaO ha2;refine zV 29 func138 Z fun h=>zSR (qx h Z Z fun _ _ h=>qx h Z Z fun _ _ h=>X2 9 1 0 h Z (zcB h F (qbL ⟨_,_,rfl,(h.oldS s1)⟩ ⟨_,_,rfl,(h.oldS s5)⟩) Z fun _ _ h F=>X0 2 Z (qh Z F ?_ ?_)))<;>intro F
 ·exact X0 4 Z (rb h F Z)
 refine X2 8 1 0 h Z (zcB h F (qbL ⟨_,_,rfl,(h.oldS s2)⟩ ⟨_,_,rfl,(h.oldS s6)⟩) Z fun _ _ h F=>X0 2 Z (qh Z F ?_ ?_))<;>intro F
 ·exact X0 4 Z (rb h F Z)
 refine X2 8 1 0 h Z (zcB h F (qbL ⟨_,_,rfl,(h.oldS s3)⟩ ⟨_,_,rfl,(h.oldS s7)⟩) Z fun _ _ h F=>X0 2 Z (qh Z F ?_ ?_))<;>intro F
 ·exact X0 4 Z (rb h F Z)
 refine X2 8 1 0 h Z (zcB h F (qbL ⟨_,_,rfl,(h.oldS s4)⟩ ⟨_,_,rfl,(h.oldS s8)⟩) Z fun _ _ h F=>X0 2 Z (qh Z F ?_ ?_))<;>intro F
 ·exact X0 4 Z (rb h F Z)
 exact X0 5 Z (rb h F Z)
def qgG (a:(List qG))(b:(List qG)):Nat→Int→Option (Flow Bool Int)
 | 0,_=>U
 | n+1,i1=>
  bif decide (i1<(a.length:Int)) then
   (idx a i1).bind fun y1=>
   (idx b i1).bind fun y2=>
   (qjR n y1 y2).bind fun r1=>
   bif (!r1) then V (.ret false) else
   qgG a b n (W64 (i1+1))
  else
   V (.nxt i1)
def qks (n:Nat)(a:(List qG))(b:(List qG)):Option Bool:=
 bif ((a.length:Int) != (b.length:Int)) then V false else
 (qgG a b n 0).bind fun o=>match o with
 | .ret r=>V r
 | .nxt _=>
  V true
theorem qqq {a:(List qG)}{b:(List qG)}(ha1:Ro w a cs1)(ha2:Ro w b cs2){r:Bool}(F:qks n a b=V r):RetV prog 60 [GoT.v (List qG) cs1,GoT.v (List qG) cs2] w r:=by
 obtain⟨p1,k1,rfl,s1⟩:=ha1;obtain⟨p2,k2,rfl,s2⟩:=ha2;refine zV 27 func60 Z fun h=>X0 13 Z (qh Z F ?_ ?_)<;>intro F
 ·exact X0 4 Z (rb h F Z)
 refine X0 6 Z ?_;obtain⟨o1,F,hK1⟩:=qc F;refine qn (rL (fun m e w'=>∃(i1:Int),qgG a b m i1=V o1∧e=[(0,.slice p1 a.length k1),(1,.slice p2 b.length k2),(5,.int .i64 i1)]∧SH w w' []) n ⟨_,F,rfl,h⟩ Z ?_);rintro m1 _ _ ⟨i1,F,rfl,h⟩;rcases m1 with _|m1
 ·cases F
 refine X0 8 Z (qh Z F ?_ ?_)<;>intro F
 ·refine X0 4 Z (rD (zd2 Z ?_));obtain⟨y1,_,F,he1,_,_,_,_,hp1,hq1,hr1,hc3⟩:=s1.ix F;obtain⟨_,_,_,_,_,_,_,_,rfl,s3,s4,s5,s6⟩:=qaO hr1;refine zdxe hp1 hq1 he1 Z (zdc 0 (hc3.below h.below) Z (zd2 Z ?_));obtain⟨y2,_,F,he2,_,_,_,_,hp2,hq2,hr2,hc4⟩:=s2.ix F;obtain⟨_,_,_,_,_,_,_,_,rfl,s7,s8,s9,s10⟩:=qaO hr2;refine zdxe hp2 hq2 he2 Z (zdc 0 (hc4.below h.below) Z ?_);obtain⟨r1,hr3,F⟩:=qc F;refine qbJ r1 (vsB _) (cB 138 Z) (fun _ hb=>qqQ (qkH y1 ((h.ext hb).oldS s3) ((h.ext hb).oldS s4) ((h.ext hb).oldS s5) ((h.ext hb).oldS s6)) (qkH y2 ((h.ext hb).oldS s7) ((h.ext hb).oldS s8) ((h.ext hb).oldS s9) ((h.ext hb).oldS s10)) hr3) Z Z Z Z (zd1 Z (dN h fun _ h=>qh Z F ?_ ?_))<;>intro F
  ·refine X0 4 Z ?_;obtain rfl:=qb F;replace F:=hK1;exact rb h F Z
  exact X0 7 Z (rK ⟨_,F,rfl,h⟩ Z)
 refine qq Z ?_;obtain rfl:=qb F;replace F:=hK1;exact X0 4 Z (rb h F Z)
def qkA (n:Nat)(a:qd)(b:qd):Option Bool:=
 (qiW n (⟨a.Ap.Am⟩:qr) (⟨b.Ap.Am⟩:qr)).bind fun r1=>
 bif (!r1) then V false else
 (qjL n (⟨a.Aa.Ab,a.Aa.Ah,a.Aa.Af⟩:qe) (⟨b.Aa.Ab,b.Aa.Ah,b.Aa.Af⟩:qe)).bind fun r2=>
 bif (!r2) then V false else
 (qks n a.Ac b.Ac).bind fun r3=>
 bif (!r3) then V false else
 V true
theorem qql {a:qd}{b:qd}(ha1:Ro w a cs1)(ha2:Ro w b cs2){r:Bool}(F:qkA n a b=V r):RetV prog 16 [GoT.v qd cs1,GoT.v qd cs2] w r:=by
 obtain⟨_,_,_,_,_,_,_,_,_,_,rfl,s1,s2,s3,s4,s5⟩:=qM ha1;obtain⟨_,_,_,_,_,_,_,_,_,_,rfl,s6,s7,s8,s9,s10⟩:=qM ha2;refine zV 23 func16 Z fun h=>zSR (qx h Z Z fun _ _ h=>qx h Z Z fun _ _ h=>X2 9 1 0 h Z (zcB h F (qoX (qep _ (h.oldS s1)) (qep _ (h.oldS s6))) Z fun _ _ h F=>X0 2 Z (qh Z F ?_ ?_)))<;>intro F
 ·exact X0 4 Z (rb h F Z)
 refine X2 8 1 0 h Z (zcB h F (qpx (qao _ (h.oldS s2) (h.oldS s3) (h.oldS s4)) (qao _ (h.oldS s7) (h.oldS s8) (h.oldS s9))) Z fun _ _ h F=>X0 2 Z (qh Z F ?_ ?_))<;>intro F
 ·exact X0 4 Z (rb h F Z)
 refine X2 8 1 0 h Z (zcB h F (qqq ⟨_,_,rfl,(h.oldS s5)⟩ ⟨_,_,rfl,(h.oldS s10)⟩) Z fun _ _ h F=>X0 2 Z (qh Z F ?_ ?_))<;>intro F
 ·exact X0 4 Z (rb h F Z)
 exact X0 5 Z (rb h F Z)
def qaq (_:Nat)(a_n:Int)(low:Int)(high:Int):Option Bool:=
 bif decide (a_n ≥ low) then V (decide (a_n≤high)) else
 V false
theorem qai {a_n:Int}{low:Int}{high:Int}  {r:Bool}(F:qaq n a_n low high=V r):RetV prog 84 [.int .i64 a_n,.int .i64 low,.int .i64 high] w r:=by
 refine zV 15 func84 Z fun h=>X0 10 Z (qm (t:=10) F Z ?_ ?_)<;>intro F
 ·exact X0 9 Z (rb h F Z)
 exact X0 6 Z (rb h F Z)
def qd0 (s:ByteArray):Nat→Int→Option (Flow Bool Int)
 | 0,_=>U
 | n+1,i1=>
  bif decide (i1<(s.size:Int)) then
   (
    (atS s i1).bind fun y3=>
    bif decide (y3 ≥ 97) then
     (atS s i1).bind fun y4=>
     V (decide (y4≤122))
    else
     V false).bind fun b1=>
   (
    (atS s i1).bind fun y1=>
    bif decide (y1 ≥ 48) then
     (atS s i1).bind fun y2=>
     V (decide (y2≤57))
    else
     V false).bind fun b2=>
   bif (!b1) then
    bif b2 then
     bif (!(decide (i1 > 0))) then V (.ret false) else
     qd0 s n (W64 (i1+1))
    else
     V (.ret false)
   else
    qd0 s n (W64 (i1+1))
  else
   V (.nxt i1)
def qgi (n:Nat)(s:ByteArray):Option Bool:=
 (qd0 s n 0).bind fun o=>match o with
 | .ret r=>V r
 | .nxt _=>
  bif decide ((s.size:Int) ≥ 1) then V (decide ((s.size:Int)≤8)) else
  V false
theorem qif {s:ByteArray}  {r:Bool}(F:qgi n s=V r):RetV prog 147 [.string s] w r:=by
 refine zV 50 func147 Z fun h=>X0 9 Z ?_;obtain⟨o1,F,hK1⟩:=qc F;refine qn (rL (fun m e w'=>∃(i1:Int),qd0 s m i1=V o1∧e=[(0,.string s),(3,.int .i64 i1)]∧SH w w' []) n ⟨_,F,rfl,h⟩ Z ?_);rintro m1 _ _ ⟨i1,F,rfl,h⟩;rcases m1 with _|m1
 ·cases F
 refine X0 8 Z (qh Z F ?_ ?_)<;>intro F
 ·refine X0 4 Z ?_;obtain⟨KF2,hKF2,_,F,hK3⟩:=bindE F;refine qbe (fun e w'=>∃(b1:Bool),KF2 b1=V o1∧e=[(0,.string s),(3,.int .i64 i1),(4,.bool b1)]∧SH w w' []) ?_ ?_
  ·refine X0 3 Z ?_;obtain⟨_,hx3,F⟩:=qc F;have g3:=qnr hx3;refine r_v (qnh qa g3 Z Z Z Z) Z (zp2 Z (qm (t:=16) F Z ?_ ?_))<;>intro F
   ·refine X0 5 Z ?_;obtain⟨_,hx4,F⟩:=qc F;have g4:=qnr hx4;refine r_v (qnh qa g4 Z Z Z Z) Z (X0 5 Z ?_);obtain rfl:=qb F;exact rG ⟨_,hK3,rfl,h⟩ Z
   refine X0 7 Z ?_;obtain rfl:=qb F;exact rG ⟨_,hK3,rfl,h⟩ Z
  rintro _ _ ⟨b1,F,rfl,h⟩;subst hKF2;refine qcQ ?_;obtain⟨KF1,hKF1,_,F,hK2⟩:=bindE F;refine qbe (fun e w'=>∃(b2:Bool),KF1 b2=V o1∧e=[(0,.string s),(3,.int .i64 i1),(4,.bool b1),(5,.bool b2)]∧SH w w' []) ?_ ?_
  ·refine X0 3 Z ?_;obtain⟨_,hx1,F⟩:=qc F;have g1:=qnr hx1;refine r_v (qnh qa g1 Z Z Z Z) Z (zp2 Z (qm (t:=26) F Z ?_ ?_))<;>intro F
   ·refine X0 5 Z ?_;obtain⟨_,hx2,F⟩:=qc F;have g2:=qnr hx2;refine r_v (qnh qa g2 Z Z Z Z) Z (X0 5 Z ?_);obtain rfl:=qb F;exact rG ⟨_,hK2,rfl,h⟩ Z
   refine X0 7 Z ?_;obtain rfl:=qb F;exact rG ⟨_,hK2,rfl,h⟩ Z
  rintro _ _ ⟨b2,F,rfl,h⟩;subst hKF1;refine X0 5 Z (qm (t:=34) F Z ?_ ?_)<;>intro F
  ·refine X0 4 Z (qm (t:=36) F Z ?_ ?_)<;>intro F
   ·refine X0 10 Z (qh Z F ?_ ?_)<;>intro F
    ·refine X0 4 Z ?_;obtain rfl:=qb F;replace F:=hK1;exact rb h F Z
    exact X0 7 Z (rK ⟨_,F,rfl,h⟩ Z)
   refine X0 8 Z (qfQ Z Z (X0 4 Z ?_));obtain rfl:=qb F;replace F:=hK1;exact rb h F Z
  exact X0 8 Z (qdi Z Z (X0 7 Z (rK ⟨_,F,rfl,h⟩ Z)))
 refine qq Z ?_;obtain rfl:=qb F;replace F:=hK1;refine X0 6 Z (qm (t:=45) F Z ?_ ?_)<;>intro F
 ·exact X0 9 Z (rb h F Z)
 exact X0 6 Z (rb h F Z)
def qfg (a_0:qv)(i2:Int)(y1:qam):Nat→Int→Option (Flow (Int×Bool) Int)
 | 0,_=>U
 | n+1,i3=>
  bif decide (i3<i2) then
   (idx a_0.As i3).bind fun y2=>
   bif (y2.Au.toList==y1.Au.toList) then V (.ret (0,false)) else
   qfg a_0 i2 y1 n (W64 (i3+1))
  else
   V (.nxt i3)
def qdb (a_0:qv):Nat→Int→Int→Option (Flow (Int×Bool) (Int×Int))
 | 0,_,_=>U
 | n+1,i1,i2=>
  bif decide (i2<(a_0.As.length:Int)) then
   (idx a_0.As i2).bind fun y1=>
   (qfg a_0 i2 y1 n 0).bind fun o=>match o with
   | .ret r=>V (.ret r)
   | .nxt _=>
    (
     (qgi n y1.Au).bind fun r1=>
     bif (!r1) then V true else
     (qaq n y1.Br 0 500).bind fun r2=>
     V (!r2)).bind fun b4=>
    bif b4 then V (.ret (0,false)) else
    (
     bif (i2==(W64 ((a_0.As.length:Int)-1))) then
      bif (y1.Bu != 2) then V true else
      bif (y1.Br != 0) then V true else
      bif y1.Bo then V true else
      bif decide (i2<(W64 ((a_0.As.length:Int)-1))) then V (y1.Bu != 1) else
      V false
     else
      bif decide (i2<(W64 ((a_0.As.length:Int)-1))) then V (y1.Bu != 1) else
      V false).bind fun b5=>
    bif b5 then V (.ret (0,false)) else
    bif y1.Bo then qdb a_0 n (W64 (i1+1)) (W64 (i2+1)) else
    qdb a_0 n i1 (W64 (i2+1))
  else
   V (.nxt (i1,i2))
def qkw (n:Nat)(a_0:qv):Option (Int×Bool):=
 (
  bif decide ((a_0.As.length:Int)<2) then V true else
  V (decide ((a_0.As.length:Int) > 5))).bind fun b1=>
 bif b1 then V (0,false) else
 (qdb a_0 n 0 0).bind fun o=>match o with
 | .ret r=>V r
 | .nxt (i1,_)=>
  V (i1,true)
theorem qqo {a_0:qv}(ha1:Ro w a_0 cs1){r:(Int×Bool)}(F:qkw n a_0=V r):RetV prog 293 [GoT.v qv cs1] w r:=by
 obtain⟨p1,k1,p2,k2,p3,k3,rfl,s1,_,_⟩:=qO ha1;refine zV 86 func293 Z fun h=>zSR (qx h Z Z fun _ bb1 h=>X1 12 0 h Z ?_);obtain⟨KF3,hKF3,_,F,hK5⟩:=bindE F;refine qbe (fun e w'=>∃(b1:Bool),KF3 b1=V r∧e=[(1,.pointer (V ⟨bb1,0,U⟩)),(4,.int .i64 (a_0.As.length:Int)),(17,.bool b1)]∧SH w w' [Ch.box bb1 (qc2 a_0 p1 p2 p3 k1 k2 k3) 251]) ?_ ?_
 ·refine X0 4 Z (qm (t:=14) F Z ?_ ?_)<;>intro F
  ·refine X0 4 Z ?_;obtain rfl:=qb F;exact rG ⟨_,hK5,rfl,h⟩ Z
  refine X0 6 Z ?_;obtain rfl:=qb F;exact rG ⟨_,hK5,rfl,h⟩ Z
 rintro _ _ ⟨b1,F,rfl,h⟩;subst hKF3;refine qh Z F ?_ ?_<;>intro F
 ·refine X0 5 Z ?_;obtain rfl:=qb F;exact qae qa (ρ:=(Int×Bool)) [GoT.v Int [.int .i64 0],GoT.v Bool [.bool false]] h ⟨rfl,rfl,trivial⟩ (PV.done h (qap h (qA (S:=fun _=>False) Z) (qaj (qA (S:=fun _=>False) Z)) (by rfl)))
 refine X0 10 Z ?_;obtain⟨o1,F,hK1⟩:=qc F;refine qn (rL (fun m e w'=>∃(i1:Int) (i2:Int),qdb a_0 m i1 i2=V o1∧e=[(1,.pointer (V ⟨bb1,0,U⟩)),(4,.int .i64 (a_0.As.length:Int)),(5,.int .i64 i1),(6,.int .i64 i2)]∧SH w w' [Ch.box bb1 (qc2 a_0 p1 p2 p3 k1 k2 k3) 251]) n ⟨_,_,F,rfl,h⟩ Z ?_);rintro m1 _ _ ⟨i1,i2,F,rfl,h⟩;rcases m1 with _|m1
 ·cases F
 refine X0 7 Z (qh Z F ?_ ?_)<;>intro F
 ·refine X1 8 0 h Z ?_;obtain⟨y1,_,F,he1,_,_,_,_,hp1,hq1,hr1,hc3⟩:=s1.ix F;obtain rfl:=qaV hr1;refine zxe hp1 hq1 he1 Z (zc 0 (hc3.below h.below) Z (qp qa h Z Z Z fun _ bb2 h=>zs 0 h Z fun _ h=>X0 6 Z ?_));obtain⟨o2,F,hK2⟩:=qc F;refine qn (rL (fun m e w'=>∃(i3:Int),qfg a_0 i2 y1 m i3=V o2∧e=[(1,.pointer (V ⟨bb1,0,U⟩)),(4,.int .i64 (a_0.As.length:Int)),(5,.int .i64 i1),(6,.int .i64 i2),(7,.pointer (V ⟨bb2,0,U⟩)),(8,.int .i64 i3)]∧SH w w' [Ch.box bb2 (qo4 y1) 340,Ch.box bb1 (qc2 a_0 p1 p2 p3 k1 k2 k3) 251]) m1 ⟨_,F,rfl,h⟩ Z ?_);rintro m2 _ _ ⟨i3,F,rfl,h⟩;rcases m2 with _|m2
  ·cases F
  refine X0 7 Z (qh Z F ?_ ?_)<;>intro F
  ·refine X0 4 Z (rD (Y1 2 1 h Z ?_));refine zd1 Z ?_;obtain⟨_,_,F,he2,_,_,_,_,hp2,hq2,hr2,hc5⟩:=s1.ix F;obtain rfl:=qaV hr2;refine zdxe hp2 hq2 he2 Z (zd1 Z (zdc 0 (hc5.below h.below) Z (Y1 2 0 h Z ?_)));refine zd1 Z (dN h fun _ h=>qh Z F ?_ ?_)<;>intro F
   ·refine X0 5 Z ?_;obtain rfl:=qb F;replace F:=hK2;obtain rfl:=qb F;replace F:=hK1;obtain rfl:=qb F;exact qae qa (ρ:=(Int×Bool)) [GoT.v Int [.int .i64 0],GoT.v Bool [.bool false]] h ⟨rfl,rfl,trivial⟩ (PV.done h (qap h (qA (S:=fun _=>False) Z) (qaj (qA (S:=fun _=>False) Z)) (by rfl)))
   exact X0 7 Z (rK ⟨_,F,rfl,h⟩ Z)
  refine qq Z ?_;obtain rfl:=qb F;replace F:=hK2;refine zSS ?_;obtain⟨KF2,hKF2,_,F,hK4⟩:=bindE F;refine qbe (fun e w'=>∃(b4:Bool),KF2 b4=V o1∧e=[(1,.pointer (V ⟨bb1,0,U⟩)),(4,.int .i64 (a_0.As.length:Int)),(5,.int .i64 i1),(6,.int .i64 i2),(7,.pointer (V ⟨bb2,0,U⟩)),(51,.bool b4)]∧SH w w' [Ch.box bb2 (qo4 y1) 340,Ch.box bb1 (qc2 a_0 p1 p2 p3 k1 k2 k3) 251]) ?_ ?_
  ·refine X1 3 0 h Z (zcB h F qif Z fun _ _ h F=>zp2 Z (qm (t:=46) F Z ?_ ?_))<;>intro F
   ·refine X0 6 Z ?_;obtain rfl:=qb F;exact rG ⟨_,hK4,rfl,h⟩ Z
   refine X1 5 0 h Z (zcB h F qai Z fun _ _ h F=>X0 4 Z ?_);obtain rfl:=qb F;exact rG ⟨_,hK4,rfl,h⟩ Z
  rintro _ _ ⟨b4,F,rfl,h⟩;subst hKF2;refine qh Z F ?_ ?_<;>intro F
  ·refine X0 5 Z ?_;obtain rfl:=qb F;replace F:=hK1;obtain rfl:=qb F;exact qae qa (ρ:=(Int×Bool)) [GoT.v Int [.int .i64 0],GoT.v Bool [.bool false]] h ⟨rfl,rfl,trivial⟩ (PV.done h (qap h (qA (S:=fun _=>False) Z) (qaj (qA (S:=fun _=>False) Z)) (by rfl)))
  refine zKSS ?_;obtain⟨KF1,hKF1,_,F,hK3⟩:=bindE F;refine qbe (fun e w'=>∃(b5:Bool),KF1 b5=V o1∧e=[(1,.pointer (V ⟨bb1,0,U⟩)),(4,.int .i64 (a_0.As.length:Int)),(5,.int .i64 i1),(6,.int .i64 i2),(7,.pointer (V ⟨bb2,0,U⟩)),(80,.bool b5)]∧SH w w' [Ch.box bb2 (qo4 y1) 340,Ch.box bb1 (qc2 a_0 p1 p2 p3 k1 k2 k3) 251]) ?_ ?_
  ·refine X0 6 Z (qm (t:=56) F Z ?_ ?_)<;>intro F
   ·refine X1 8 0 h Z (qm (t:=60) F Z ?_ ?_)<;>intro F
    ·refine X0 24 Z ?_;obtain rfl:=qb F;exact rG ⟨_,hK3,rfl,h⟩ Z
    refine X1 10 0 h Z (qm (t:=65) F Z ?_ ?_)<;>intro F
    ·refine X0 17 Z ?_;obtain rfl:=qb F;exact rG ⟨_,hK3,rfl,h⟩ Z
    refine X1 8 0 h Z (qm (t:=70) F Z ?_ ?_)<;>intro F
    ·refine X0 11 Z ?_;obtain rfl:=qb F;exact rG ⟨_,hK3,rfl,h⟩ Z
    refine X0 10 Z (qm (t:=75) F Z ?_ ?_)<;>intro F
    ·refine X1 10 0 h Z ?_;obtain rfl:=qb F;exact rG ⟨_,hK3,rfl,h⟩ Z
    refine X0 7 Z ?_;obtain rfl:=qb F;exact rG ⟨_,hK3,rfl,h⟩ Z
   refine X0 24 Z (qm (t:=75) F Z ?_ ?_)<;>intro F
   ·refine X1 10 0 h Z ?_;obtain rfl:=qb F;exact rG ⟨_,hK3,rfl,h⟩ Z
   refine X0 7 Z ?_;obtain rfl:=qb F;exact rG ⟨_,hK3,rfl,h⟩ Z
  rintro _ _ ⟨b5,F,rfl,h⟩;subst hKF1;refine qh Z F ?_ ?_<;>intro F
  ·refine X0 5 Z ?_;obtain rfl:=qb F;replace F:=hK1;obtain rfl:=qb F;exact qae qa (ρ:=(Int×Bool)) [GoT.v Int [.int .i64 0],GoT.v Bool [.bool false]] h ⟨rfl,rfl,trivial⟩ (PV.done h (qap h (qA (S:=fun _=>False) Z) (qaj (qA (S:=fun _=>False) Z)) (by rfl)))
  refine X1 6 0 h Z (qh Z F ?_ ?_)<;>intro F
  ·refine X0 11 Z ?_;replace h:=h.pick [1] Z;exact rK ⟨_,_,F,rfl,h⟩ Z
  refine X0 7 Z ?_;replace h:=h.pick [1] Z;exact rK ⟨_,_,F,rfl,h⟩ Z
 refine qq Z ?_;obtain rfl:=qb F;replace F:=hK1;refine X0 6 Z ?_;obtain rfl:=qb F;exact qae qa (ρ:=(Int×Bool)) [GoT.v Int [.int .i64 i1],GoT.v Bool [.bool true]] h ⟨rfl,rfl,trivial⟩ (PV.done h (qap h (qA (S:=fun _=>False) Z) (qaj (qA (S:=fun _=>False) Z)) (by rfl)))
def qd3 (list:(List Int)):Nat→Int→Option (Flow Bool Int)
 | 0,_=>U
 | n+1,i1=>
  bif decide (i1<(list.length:Int)) then
   (idx list i1).bind fun y1=>
   (qaq n y1 0 100000).bind fun r1=>
   bif (!r1) then V (.ret false) else
   bif decide (i1 > 0) then
    (idx list (W64 (i1-1))).bind fun y2=>
    (idx list i1).bind fun y3=>
    bif decide (y2 ≥ y3) then V (.ret false) else
    qd3 list n (W64 (i1+1))
   else
    qd3 list n (W64 (i1+1))
  else
   V (.nxt i1)
def qjg (n:Nat)(list:(List Int)):Option Bool:=
 (qd3 list n 0).bind fun o=>match o with
 | .ret r=>V r
 | .nxt _=>
  bif decide ((list.length:Int) ≥ 1) then V (decide ((list.length:Int)≤4)) else
  V false
theorem qmN {list:(List Int)}(ha1:Ro w list cs1){r:Bool}(F:qjg n list=V r):RetV prog 346 [GoT.v (List Int) cs1] w r:=by
 obtain⟨p1,k1,rfl,s1⟩:=ha1;refine zV 40 func346 Z fun h=>X0 9 Z ?_;obtain⟨o1,F,hK1⟩:=qc F;refine qn (rL (fun m e w'=>∃(i1:Int),qd3 list m i1=V o1∧e=[(0,.slice p1 list.length k1),(3,.int .i64 i1)]∧SH w w' []) n ⟨_,F,rfl,h⟩ Z ?_);rintro m1 _ _ ⟨i1,F,rfl,h⟩;rcases m1 with _|m1
 ·cases F
 refine X0 8 Z (qh Z F ?_ ?_)<;>intro F
 ·refine X0 4 Z (rD (zd2 Z ?_));obtain⟨_,_,F,he1,_,_,_,_,hp1,hq1,rfl,hc2⟩:=s1.ix F;refine zdxe hp1 hq1 he1 Z (zdc 0 (hc2.below h.below) Z ?_);obtain⟨r1,hr2,F⟩:=qc F;refine qbJ r1 (vsB _) (cB 84 Z) (fun _ hb=>qai  hr2) Z Z Z Z (zd2 Z (qbZ (t:=16) F Z ?_ ?_))<;>intro F
  ·refine Y0 15 Z (dN h fun _ h=>qfQ Z Z (X0 4 Z ?_));obtain rfl:=qb F;replace F:=hK1;exact rb h F Z
  refine Y0 6 Z (qbZ (t:=19) F Z ?_ ?_)<;>intro F
  ·refine Y0 7 Z ?_;obtain⟨_,_,F,he2,_,_,_,_,hp2,hq2,rfl,hc3⟩:=s1.ix F;refine zdxe hp2 hq2 he2 Z (Y0 1 Z (zdc 0 (hc3.below h.below) Z (Y0 5 Z ?_)));obtain⟨_,_,F,he3,_,_,_,_,hp3,hq3,rfl,hc4⟩:=s1.ix F;refine zdxe hp3 hq3 he3 Z (Y0 1 Z (zdc 0 (hc4.below h.below) Z (Y0 5 Z (dN h fun _ h=>qh Z F ?_ ?_))))<;>intro F
   ·refine X0 4 Z ?_;obtain rfl:=qb F;replace F:=hK1;exact rb h F Z
   exact X0 7 Z (rK ⟨_,F,rfl,h⟩ Z)
  exact Y0 13 Z (dN h fun _ h=>qdi Z Z (X0 7 Z (rK ⟨_,F,rfl,h⟩ Z)))
 refine qq Z ?_;obtain rfl:=qb F;replace F:=hK1;refine X0 6 Z (qm (t:=35) F Z ?_ ?_)<;>intro F
 ·exact X0 9 Z (rb h F Z)
 exact X0 6 Z (rb h F Z)
def qfc (t:qu):Nat→Int→Option (Flow Bool Int)
 | 0,_=>U
 | n+1,i1=>
  bif decide (i1<(t.Az.length:Int)) then
   (idx t.Az i1).bind fun y1=>
   (qaq n y1 (-1000000) 1000000).bind fun r1=>
   bif (!r1) then V (.ret false) else
   qfc t n (W64 (i1+1))
  else
   V (.nxt i1)
def qkq (n:Nat)(t:qu):Option Bool:=
 (
  (qjg n t.Bl).bind fun r2=>
  bif (!r2) then V true else
  (qjg n t.Bd).bind fun r3=>
  bif (!r3) then V true else
  V ((t.Az.length:Int) != (W64 ((t.Bl.length:Int)*(t.Bd.length:Int))))).bind fun b1=>
 bif b1 then V false else
 (qfc t n 0).bind fun o=>match o with
 | .ret r=>V r
 | .nxt _=>
  V true
theorem qp2 {t:qu}(ha1:Ro w t cs1){r:Bool}(F:qkq n t=V r):RetV prog 339 [GoT.v qu cs1] w r:=by
 obtain⟨p1,k1,p2,k2,p3,k3,rfl,s1,s2,s3⟩:=qaJ ha1;refine zV 41 func339 Z fun h=>zSR (qx h Z Z fun _ bb1 h=>X0 4 Z ?_);obtain⟨KF1,hKF1,_,F,hK2⟩:=bindE F;refine qbe (fun e w'=>∃(b1:Bool),KF1 b1=V r∧e=[(1,.pointer (V ⟨bb1,0,U⟩)),(26,.bool b1)]∧SH w w' [Ch.box bb1 (qhf t p1 p2 p3 k1 k2 k3) 329]) ?_ ?_
 ·refine X1 3 0 h Z (zcB h F (qmN ⟨_,_,rfl,(h.oldS s1)⟩) Z fun _ _ h F=>zp2 Z (qm (t:=8) F Z ?_ ?_))<;>intro F
  ·refine X0 19 Z ?_;obtain rfl:=qb F;exact rG ⟨_,hK2,rfl,h⟩ Z
  refine X1 5 0 h Z (zcB h F (qmN ⟨_,_,rfl,(h.oldS s2)⟩) Z fun _ _ h F=>X0 4 Z (qm (t:=14) F Z ?_ ?_))<;>intro F
  ·refine X0 13 Z ?_;obtain rfl:=qb F;exact rG ⟨_,hK2,rfl,h⟩ Z
  refine X3 24 0 0 0 h Z ?_;obtain rfl:=qb F;exact rG ⟨_,hK2,rfl,h⟩ Z
 rintro _ _ ⟨b1,F,rfl,h⟩;subst hKF1;refine qh Z F ?_ ?_<;>intro F
 ·exact X0 4 Z (rb h F Z)
 refine X0 6 Z ?_;obtain⟨o1,F,hK1⟩:=qc F;refine qn (rL (fun m e w'=>∃(i1:Int),qfc t m i1=V o1∧e=[(1,.pointer (V ⟨bb1,0,U⟩)),(3,.int .i64 i1)]∧SH w w' [Ch.box bb1 (qhf t p1 p2 p3 k1 k2 k3) 329]) n ⟨_,F,rfl,h⟩ Z ?_);rintro m1 _ _ ⟨i1,F,rfl,h⟩;rcases m1 with _|m1
 ·cases F
 refine X1 9 0 h Z (qh Z F ?_ ?_)<;>intro F
 ·refine X1 8 0 h Z ?_;obtain⟨_,_,F,he1,_,_,_,_,hp1,hq1,rfl,hc3⟩:=s3.ix F;refine zxe hp1 hq1 he1 Z (zc 0 (hc3.below h.below) Z (zcB h F qai Z fun _ _ h F=>X0 2 Z (qh Z F ?_ ?_)))<;>intro F
  ·refine X0 4 Z ?_;obtain rfl:=qb F;replace F:=hK1;exact rb h F Z
  exact X0 7 Z (rK ⟨_,F,rfl,h⟩ Z)
 refine qq Z ?_;obtain rfl:=qb F;replace F:=hK1;exact X0 4 Z (rb h F Z)
def qc8 (t:qu):Nat→Int→Int→Int→Option (Int×Int×Int)
 | 0,_,_,_=>U
 | n+1,i1,i2,i3=>
  bif decide (i3<(t.Az.length:Int)) then
   (idx t.Az i3).bind fun y3=>
   (idx t.Az i3).bind fun y4=>
   qc8 t n (if y3<i1 then y3 else i1) (if y4 > i2 then y4 else i2) (W64 (i3+1))
  else
   V (i1,i2,i3)
def qhN (n:Nat)(t:qu):Option (qi×Int):=
 (qkq n t).bind fun r1=>
 bif (!r1) then V ((⟨0,0⟩:qi),1) else
 (idx t.Az 0).bind fun y1=>
 (idx t.Az 0).bind fun y2=>
 (qc8 t n y1 y2 1).bind fun o=>match o with
 | (i1,i2,_)=>
  V ((⟨i1,i2⟩:qi),0)
theorem qn1 {t:qu}(ha1:Ro w t cs1){r:(qi×Int)}(F:qhN n t=V r):RetV prog 328 [GoT.v qu cs1] w r:=by
 obtain⟨p1,k1,p2,k2,p3,k3,rfl,_,_,s3⟩:=qaJ ha1;refine zV 45 func328 Z fun h=>zSR (qx h Z Z fun _ bb1 h=>qp qa h Z Z Z fun _ bb2 h=>X1 6 1 h Z (zcB h F (qp2 (h.old ha1)) Z fun _ _ h F=>X0 2 Z (qh Z F ?_ ?_)))<;>intro F
 ·refine zSR (r_v (qJ qa [] [] Z Z Z Z Z Z Z Z) Z (zs 0 h Z fun _ h=>X0 2 Z ?_));obtain rfl:=qb F;exact qae qa (ρ:=(qi×Int)) [GoT.v qi [.int .i64 0,.int .i64 0],GoT.v Int [.int .i64 1]] h ⟨⟨_,_,_,rfl,rfl,h.box 0 Z,rfl⟩,rfl,trivial⟩ (PV.done h (qap h (qA (S:=fun _=>False) (qP (⟨0,0⟩:qi))) (qaj (qA (S:=fun _=>False) Z)) (by rfl)))
 refine zKS (rA [] [1] h Z fun _ h=>M1 3 [0,1] 0 (h.pick [1] Z) Z ?_);obtain⟨_,_,F,he1,_,_,_,_,hp1,hq1,rfl,hc2⟩:=s3.ix F;refine Ae 2 7 hp1 hq1 he1 (h.pick [1] Z) Z (Al 3 15 0 hc2 (h.pick [1] Z) Z (M1 63 [4,5] 0 (h.pick [1] Z) Z ?_));obtain⟨_,_,F,he2,_,_,_,_,hp2,hq2,rfl,hc3⟩:=s3.ix F;refine Ae 6 127 hp2 hq2 he2 (h.pick [1] Z) Z (Al 7 255 0 hc3 (h.pick [1] Z) Z (Aw 8 511 (fun w' hw=>qJ qa [0,1] [.tmp 13,.tmp 17] Z Z Z Z Z Z Z Z) (h.pick [1] Z) Z ?_));refine Ao 9 1023 Z (qp qa h Z Z Z fun _ bb3 h=>Ag (h.pick [2] Z) (Ao 10 2047 Z (zs 0 h Z fun _ h=>Ag (h.pick [2] Z) (Ad (X0 5 Z ?_)))));obtain⟨o1,F,hK1⟩:=qc F;refine qn (rL (fun m e w'=>∃(i1:Int) (i2:Int) (i3:Int),qc8 t m i1 i2 i3=V o1∧e=[(1,.pointer (V ⟨bb1,0,U⟩)),(2,.pointer (V ⟨bb2,0,U⟩)),(4,.pointer (V ⟨bb3,0,U⟩)),(5,.int .i64 i3)]∧SH w w' [Ch.box bb3 [.int .i64 i1,.int .i64 i2] 138,Ch.box bb2 [.int .i64 0,.int .i64 0] 138,Ch.box bb1 (qhf t p1 p2 p3 k1 k2 k3) 329]) n ⟨_,_,_,F,rfl,h⟩ Z ?_);rintro m1 _ _ ⟨i1,i2,i3,F,rfl,h⟩;rcases m1 with _|m1
 ·cases F
 refine X1 9 2 h Z (qh Z F ?_ ?_)<;>intro F
 ·refine X0 4 Z (rA [9] [0,2] h Z fun _ h=>M2 31 [0,1,2,3,4] 0 1 (h.pick [0,2] Z) Z ?_);obtain⟨_,_,F,he3,_,_,_,_,hp3,hq3,rfl,hc5⟩:=s3.ix F;refine Ae 5 63 hp3 hq3 he3 (h.pick [0,2] Z) Z (Al 6 127 0 hc5 (h.pick [0,2] Z) Z (M0 511 [7,8] (h.pick [0,2] Z) Z (Ao 9 1023 Z (zs 0 h Z fun _ h=>qbf (fun hs=>absurd (hs 9 (by decide)) (by decide)) (Ad (rA [9] [0,2] h Z fun _ h=>M2 31 [0,1,2,3,4] 0 1 (h.pick [0,2] Z) Z ?_))))));obtain⟨_,_,F,he4,_,_,_,_,hp4,hq4,rfl,hc6⟩:=s3.ix F;exact Ae 5 63 hp4 hq4 he4 (h.pick [0,2] Z) Z (Al 6 127 0 hc6 (h.pick [0,2] Z) Z (M0 511 [7,8] (h.pick [0,2] Z) Z (Ao 9 1023 Z (zs 0 h Z fun _ h=>qbf (fun hs=>absurd (hs 9 (by decide)) (by decide)) (Ad (X0 6 Z (rK ⟨_,_,_,F,rfl,h⟩ Z)))))))
 refine qq Z ?_;obtain rfl:=qb F;replace F:=hK1;refine X1 3 0 h Z (zs 1 h Z fun _ h=>X0 2 Z ?_);obtain rfl:=qb F;exact qae qa (ρ:=(qi×Int)) [GoT.v qi [.int .i64 i1,.int .i64 i2],GoT.v Int [.int .i64 0]] h ⟨⟨_,_,_,rfl,rfl,h.box 1 Z,rfl⟩,rfl,trivial⟩ (PV.done h (qap h (qA (S:=fun _=>False) (qP (⟨i1,i2⟩:qi))) (qaj (qA (S:=fun _=>False) Z)) (by rfl)))
def qcS (list:(List qu))(positive:Bool):Nat→Int→Option (Flow Bool Int)
 | 0,_=>U
 | n+1,i1=>
  bif decide (i1<2) then
   (idx list i1).bind fun y1=>
   (qhN n y1).bind fun o=>match o with
    | (r2,r3)=>
     bif (r3 != 0) then V (.ret false) else
     bif positive then
      bif decide (r2.Ar<0) then V (.ret false) else
      qcS list positive n (W64 (i1+1))
     else
      qcS list positive n (W64 (i1+1))
  else
   V (.nxt i1)
def qdI (n:Nat)(list:(List qu))(positive:Bool):Option Bool:=
 bif ((list.length:Int) != 2) then V false else
 (qcS list positive n 0).bind fun o=>match o with
 | .ret r=>V r
 | .nxt _=>
  V true
theorem qfr {list:(List qu)}{positive:Bool}(ha1:Ro w list cs1){r:Bool}(F:qdI n list positive=V r):RetV prog 313 [GoT.v (List qu) cs1,.bool positive] w r:=by
 obtain⟨p1,k1,rfl,s1⟩:=ha1;refine zV 33 func313 Z fun h=>X0 11 Z (qh Z F ?_ ?_)<;>intro F
 ·exact X0 4 Z (rb h F Z)
 refine X0 6 Z ?_;obtain⟨o1,F,hK1⟩:=qc F;refine qn (rL (fun m e w'=>∃(i1:Int),qcS list positive m i1=V o1∧e=[(0,.slice p1 list.length k1),(1,.bool positive),(5,.int .i64 i1)]∧SH w w' []) n ⟨_,F,rfl,h⟩ Z ?_);rintro m1 _ _ ⟨i1,F,rfl,h⟩;rcases m1 with _|m1
 ·cases F
 refine X0 6 Z (qh Z F ?_ ?_)<;>intro F
 ·refine X0 7 Z ?_;obtain⟨y1,_,F,he1,_,_,_,_,hp1,hq1,hr1,hc3⟩:=s1.ix F;obtain⟨_,_,_,_,_,_,rfl,s2,s3,s4⟩:=qaJ hr1;refine zxe hp1 hq1 he1 Z (zc 0 (hc3.below h.below) Z ?_);obtain⟨r1,hr2,F⟩:=qc F;obtain⟨r2,r3⟩:=r1;refine qa3 (r2,r3) h (cB 328 Z) (qn1 (qfE y1 (h.oldS s2) (h.oldS s3) (h.oldS s4)) hr2) Z Z Z Z fun _ _ _ hv1 hr3=>?_;obtain⟨_,_,_,_,rfl,hv2,hr4⟩:=hv1.cons hr3;obtain rfl:=qD (hv2.sh.own 0 Z);obtain⟨rfl,h⟩:=hv2.lastI hr4;refine zp3 Z (qp qa h Z Z Z fun _ _ h=>zs 0 h Z fun _ h=>X0 7 Z (qm (t:=25) F Z ?_ ?_))<;>intro F
  ·refine X0 8 Z (qfQ Z Z (X0 4 Z ?_));obtain rfl:=qb F;replace F:=hK1;exact rb h F Z
  refine X0 4 Z (qm (t:=27) F Z ?_ ?_)<;>intro F
  ·refine X1 10 0 h Z (qh Z F ?_ ?_)<;>intro F
   ·refine X0 4 Z ?_;obtain rfl:=qb F;replace F:=hK1;exact rb h F Z
   refine X0 7 Z ?_;replace h:=h.pick [] Z;exact rK ⟨_,F,rfl,h⟩ Z
  refine X0 7 Z (qdi Z Z (X0 7 Z ?_));replace h:=h.pick [] Z;exact rK ⟨_,F,rfl,h⟩ Z
 refine qq Z ?_;obtain rfl:=qb F;replace F:=hK1;exact X0 4 Z (rb h F Z)
def qlH (n:Nat)(a_0:qv)(a_1:qH):Option Bool:=
 (
  (qaq n a_1.Bc 0 (W64 ((W64 ((a_0.As.length:Int)-1))-1))).bind fun r7=>
  bif (!r7) then V true else
  (qaq n a_1.To 0 (W64 ((a_0.As.length:Int)-1))).bind fun r8=>
  V (!r8)).bind fun b1=>
 bif b1 then V false else
 (idx a_0.As a_1.Bc).bind fun y1=>
 bif (a_1.Aq==1) then
  bif (!y1.Bo) then
   bif (a_1.To==(W64 ((a_0.As.length:Int)-1))) then
    (qaq n a_1.Bn 1 3).bind fun r1=>
    bif r1 then
     (qdI n a_1.Bk true).bind fun r2=>
     bif r2 then
      (qdI n a_1.Ba true).bind fun r3=>
      V r3
     else
      V false
    else
     V false
   else
    V false
  else
   V false
 else
  (
   bif (a_1.Aq==2) then V (a_1.Aq==2) else
   V (a_1.Aq==3)).bind fun b3=>
  bif b3 then
   bif y1.Bo then
    bif (a_1.To==(W64 ((a_0.As.length:Int)-1))) then
     bif (a_1.Bn==0) then
      (qdI n a_1.Bk true).bind fun r4=>
      bif r4 then
       (qdI n a_1.Ba true).bind fun r5=>
       V r5
      else
       V false
     else
      V false
    else
     V false
   else
    V false
  else
   (
    bif (a_1.Aq==4) then V (a_1.Aq==4) else
    V (a_1.Aq==5)).bind fun b4=>
   bif b4 then
    bif y1.Bo then
     bif decide (a_1.To<(W64 ((a_0.As.length:Int)-1))) then
      (idx a_0.As a_1.To).bind fun y2=>
      bif (!y2.Bo) then
       bif (a_1.Bn==0) then
        (qdI n a_1.Bk false).bind fun r6=>
        bif r6 then V ((a_1.Ba.length:Int)==0) else
        V false
       else
        V false
      else
       V false
     else
      V false
    else
     V false
   else
    V false
theorem qqJ {a_0:qv}{a_1:qH}(ha1:Ro w a_0 cs1)(ha2:Ro w a_1 cs2){r:Bool}(F:qlH n a_0 a_1=V r):RetV prog 294 [GoT.v qv cs1,GoT.v qH cs2] w r:=by
 obtain⟨p1,k1,p2,k2,p3,k3,rfl,s1,_,_⟩:=qO ha1;obtain⟨p4,k4,p5,k5,rfl,s4,s5⟩:=qX ha2;refine zV 119 func294 Z fun h=>zSR (qx h Z Z fun _ bb1 h=>qx h Z Z fun _ bb2 h=>X1 12 1 h Z ?_);obtain⟨KF3,hKF3,_,F,hK3⟩:=bindE F;refine qbe (fun e w'=>∃(b1:Bool),KF3 b1=V r∧e=[(2,.pointer (V ⟨bb1,0,U⟩)),(3,.pointer (V ⟨bb2,0,U⟩)),(5,.int .i64 (W64 ((a_0.As.length:Int)-1))),(23,.bool b1)]∧SH w w' [Ch.box bb2 (qhc a_1 p4 p5 k4 k5) 254,Ch.box bb1 (qc2 a_0 p1 p2 p3 k1 k2 k3) 251]) ?_ ?_
 ·refine X1 5 0 h Z (zcB h F qai Z fun _ _ h F=>zp2 Z (qm (t:=17) F Z ?_ ?_))<;>intro F
  ·refine X0 7 Z ?_;obtain rfl:=qb F;exact rG ⟨_,hK3,rfl,h⟩ Z
  refine X1 7 0 h Z (zcB h F qai Z fun _ _ h F=>X0 4 Z ?_);obtain rfl:=qb F;exact rG ⟨_,hK3,rfl,h⟩ Z
 rintro _ _ ⟨b1,F,rfl,h⟩;subst hKF3;refine qh Z F ?_ ?_<;>intro F
 ·exact X0 4 Z (rb h F Z)
 refine X2 7 1 0 h Z ?_;obtain⟨y1,_,F,he1,_,_,_,_,hp1,hq1,hr1,hc2⟩:=s1.ix F;obtain rfl:=qaV hr1;refine zxe hp1 hq1 he1 Z (zp1 Z (zc 3 (hc2.below h.below) Z (X1 14 0 h Z (qh Z F ?_ ?_))))<;>intro F
 ·refine X0 5 Z (qm (t:=37) F Z ?_ ?_)<;>intro F
  ·refine X1 10 0 h Z (qm (t:=43) F Z ?_ ?_)<;>intro F
   ·refine X1 5 0 h Z (zcB h F qai Z fun _ _ h F=>zp2 Z (qm (t:=48) F Z ?_ ?_))<;>intro F
    ·refine X1 5 0 h Z (zcB h F (qfr ⟨_,_,rfl,(h.oldS s4)⟩) Z fun _ _ h F=>zp2 Z (qm (t:=53) F Z ?_ ?_))<;>intro F
     ·exact X1 5 0 h Z (zcB h F (qfr ⟨_,_,rfl,(h.oldS s5)⟩) Z fun _ _ h F=>X0 3 Z (rb h F Z))
     exact X0 6 Z (rb h F Z)
    exact X0 11 Z (rb h F Z)
   exact X0 16 Z (rb h F Z)
  exact X0 22 Z (rb h F Z)
 refine X0 6 Z ?_;obtain⟨KF2,hKF2,_,F,hK2⟩:=bindE F;refine qbe (fun e w'=>∃(b3:Bool),KF2 b3=V r∧e=[(2,.pointer (V ⟨bb1,0,U⟩)),(3,.pointer (V ⟨bb2,0,U⟩)),(5,.int .i64 (W64 ((a_0.As.length:Int)-1))),(6,.bool y1.Bo),(32,.int .i64 a_1.Aq),(58,.bool b3)]∧SH w w' [Ch.box bb2 (qhc a_1 p4 p5 k4 k5) 254,Ch.box bb1 (qc2 a_0 p1 p2 p3 k1 k2 k3) 251]) ?_ ?_
 ·refine qh Z F ?_ ?_<;>intro F
  ·refine qio ?_;obtain rfl:=qb F;exact rG ⟨_,hK2,rfl,h⟩ Z
  refine X0 4 Z ?_;obtain rfl:=qb F;exact rG ⟨_,hK2,rfl,h⟩ Z
 rintro _ _ ⟨b3,F,rfl,h⟩;subst hKF2;refine qh Z F ?_ ?_<;>intro F
 ·refine X0 4 Z (qm (t:=62) F Z ?_ ?_)<;>intro F
  ·refine X1 10 0 h Z (qm (t:=68) F Z ?_ ?_)<;>intro F
   ·refine X1 8 0 h Z (qm (t:=73) F Z ?_ ?_)<;>intro F
    ·refine X1 5 0 h Z (zcB h F (qfr ⟨_,_,rfl,(h.oldS s4)⟩) Z fun _ _ h F=>zp2 Z (qm (t:=78) F Z ?_ ?_))<;>intro F
     ·exact X1 5 0 h Z (zcB h F (qfr ⟨_,_,rfl,(h.oldS s5)⟩) Z fun _ _ h F=>X0 3 Z (rb h F Z))
     exact X0 6 Z (rb h F Z)
    exact X0 11 Z (rb h F Z)
   exact X0 16 Z (rb h F Z)
  exact X0 22 Z (rb h F Z)
 refine X0 6 Z ?_;obtain⟨KF1,hKF1,_,F,hK1⟩:=bindE F;refine qbe (fun e w'=>∃(b4:Bool),KF1 b4=V r∧e=[(2,.pointer (V ⟨bb1,0,U⟩)),(3,.pointer (V ⟨bb2,0,U⟩)),(5,.int .i64 (W64 ((a_0.As.length:Int)-1))),(6,.bool y1.Bo),(83,.bool b4)]∧SH w w' [Ch.box bb2 (qhc a_1 p4 p5 k4 k5) 254,Ch.box bb1 (qc2 a_0 p1 p2 p3 k1 k2 k3) 251]) ?_ ?_
 ·refine qh Z F ?_ ?_<;>intro F
  ·refine qio ?_;obtain rfl:=qb F;exact rG ⟨_,hK1,rfl,h⟩ Z
  refine X0 4 Z ?_;obtain rfl:=qb F;exact rG ⟨_,hK1,rfl,h⟩ Z
 rintro _ _ ⟨b4,F,rfl,h⟩;subst hKF1;refine qh Z F ?_ ?_<;>intro F
 ·refine X0 4 Z (qm (t:=87) F Z ?_ ?_)<;>intro F
  ·refine X1 10 0 h Z (qm (t:=93) F Z ?_ ?_)<;>intro F
   ·refine X2 9 1 0 h Z ?_;obtain⟨_,_,F,he2,_,_,_,_,hp2,hq2,hr7,hc6⟩:=s1.ix F;obtain rfl:=qaV hr7;refine zxe hp2 hq2 he2 Z (X0 3 Z (zc 3 (hc6.below h.below) Z (X0 4 Z (qm (t:=103) F Z ?_ ?_))))<;>intro F
    ·refine X1 8 0 h Z (qm (t:=108) F Z ?_ ?_)<;>intro F
     ·refine X1 5 0 h Z (zcB h F (qfr ⟨_,_,rfl,(h.oldS s4)⟩) Z fun _ _ h F=>zp2 Z (qm (t:=113) F Z ?_ ?_))<;>intro F
      ·exact X1 11 0 h Z (rb h F Z)
      exact X0 7 Z (rb h F Z)
     exact X0 12 Z (rb h F Z)
    exact X0 17 Z (rb h F Z)
   exact X0 27 Z (rb h F Z)
  exact X0 33 Z (rb h F Z)
 exact X0 6 Z (rb h F Z)
def qds (c:qv):Nat→(List Int)→Int→Option ((List Int)×Int)
 | 0,_,_=>U
 | n+1,x2,i1=>
  bif decide (i1<(c.Ak.length:Int)) then
   (idx c.Ak i1).bind fun y1=>
   (idx x2 y1.Aq).bind fun y2=>
   (idx x2 y1.Aq).bind fun _=>
   qds c n (setS x2 y1.Aq (W64 (y2+1))) (W64 (i1+1))
  else
   V (x2,i1)
def qjI (n:Nat)(c:qv):Option (List Int):=
 (mkS 6 (0:Int)).bind fun x1=>
 (qds c n x1 0).bind fun o=>match o with
 | (x2,_)=>
  V x2
theorem qpI {c:qv}(ha1:Ro w c cs1){r:(List Int)}(F:qjI n c=V r):RetV prog 295 [GoT.v qv cs1] w r:=by
 obtain⟨p1,k1,p2,k2,p3,k3,rfl,_,s2,_⟩:=qO ha1;refine zV 25 func295 Z fun h=>zSR (qx h Z Z fun _ bb1 h=>X0 4 Z ?_);obtain⟨x1,hx1,F⟩:=qc F;obtain⟨g1,g2,hx1⟩:=qac hx1;refine qaw qa Int h Z Z Z Z Z Z Z Z Z g1 g2 hx1 Z fun _ S1 p4 h=>X0 7 Z ?_;obtain⟨o1,F,hK1⟩:=qc F;refine qn (rL (fun m e w'=>∃(x2:(List Int)) (i1:Int),qds c m x2 i1=V o1∧e=[(1,.pointer (V ⟨bb1,0,U⟩)),(3,.slice p4 x1.length x1.length),(4,.int .i64 i1)]∧SH w w' [Ch.own S1 (x2:List Int) [.slice p4 x1.length x1.length],Ch.box bb1 (qc2 c p1 p2 p3 k1 k2 k3) 251]) n ⟨_,_,F,rfl,h⟩ Z ?_);rintro m1 _ _ ⟨x2,i1,F,rfl,h⟩;rcases m1 with _|m1
 ·cases F
 refine X1 9 1 h Z (qh Z F ?_ ?_)<;>intro F
 ·refine X1 8 1 h Z ?_;obtain⟨_,_,F,he1,_,_,_,_,hp1,hq1,hr1,hc2⟩:=s2.ix F;obtain⟨_,_,_,_,rfl,_,_⟩:=qX hr1;refine zxe hp1 hq1 he1 Z (zp1 Z (zc 0 (hc2.below h.below) Z ?_));obtain⟨y2,_,F,he2,_,_,_,_,hp2,hq2,rfl,hc3⟩:=(h.sl 0 Z).1.ix F;refine zx hp2 hq2 ⟨he2.1,qC he2.2.1 (h.sl 0 Z).2⟩ Z (zc 0 hc3 Z (zp1 Z ?_));obtain⟨_,hy3,F,he3,_,_,_,_,hp3,hq3,rfl,hc4⟩:=(h.sl 0 Z).1.ix F;exact zx hp3 hq3 ⟨he3.1,qC he3.2.1 (h.sl 0 Z).2⟩ Z (qay qa 0 0 (W64 (y2+1)) h Z hy3 hp3 hq3 Z hc4 Z Z Z Z Z Z Z fun _ h=>X0 7 Z (rK ⟨_,_,F,rfl,h⟩ Z))
 refine qq Z ?_;obtain rfl:=qb F;replace F:=hK1;refine X0 5 Z ?_;obtain rfl:=qb F;exact rO 0 h Z ⟨rfl,trivial⟩
def qdJ (a_0:qv)(i1:Int)(y1:qH):Nat→Int→Option (Flow Bool Int)
 | 0,_=>U
 | n+1,i2=>
  bif decide (i2<i1) then
   (idx a_0.Ak i2).bind fun y2=>
   bif (y2.Aq==y1.Aq) then
    (idx a_0.Ak i2).bind fun y3=>
    bif (y3.Bc==y1.Bc) then
     (idx a_0.Ak i2).bind fun y4=>
     bif (y4.To==y1.To) then V (.ret false) else
     qdJ a_0 i1 y1 n (W64 (i2+1))
    else
     qdJ a_0 i1 y1 n (W64 (i2+1))
   else
    qdJ a_0 i1 y1 n (W64 (i2+1))
  else
   V (.nxt i2)
def qf4 (a_0:qv):Nat→Int→Option (Flow Bool Int)
 | 0,_=>U
 | n+1,i3=>
  bif decide (i3<(a_0.Bm.length:Int)) then
   (idx a_0.Bm i3).bind fun y5=>
   (qaq n y5 0 1).bind fun r6=>
   bif (!r6) then V (.ret false) else
   qf4 a_0 n (W64 (i3+1))
  else
   V (.nxt i3)
def qgc (a_0:qv):Nat→Int→Option (Flow Bool Int)
 | 0,_=>U
 | n+1,i1=>
  bif decide (i1<(a_0.Ak.length:Int)) then
   (idx a_0.Ak i1).bind fun y1=>
   (qlH n a_0 y1).bind fun r4=>
   bif (!r4) then V (.ret false) else
   (qdJ a_0 i1 y1 n 0).bind fun o=>match o with
   | .ret r=>V (.ret r)
   | .nxt _=>
    qgc a_0 n (W64 (i1+1))
  else
   V (.nxt i1)
def qlp (n:Nat)(a_0:qv):Option Bool:=
 (qkw n a_0).bind fun o=>match o with
  | (r2,r3)=>
   (
    bif (!r3) then V true else
    (qgi n a_0.Au).bind fun r7=>
    bif (!r7) then V true else
    bif decide ((a_0.Ak.length:Int) > 8) then V true else
    (qaq n a_0.Bz 0 100000).bind fun r8=>
    bif (!r8) then V true else
    (qaq n a_0.Bs 0 100000).bind fun r9=>
    V (!r9)).bind fun b1=>
   bif b1 then V false else
   (qgc a_0 n 0).bind fun o=>match o with
   | .ret r=>V r
   | .nxt _=>
    (qjI n a_0).bind fun r5=>
    bif (a_0.Aq==1) then
     (qf4 a_0 n 0).bind fun o=>match o with
     | .ret r=>V r
     | .nxt _=>
      bif (r2==0) then
       (shlS 1 (IntKind.wrap .u64 (W64 ((a_0.As.length:Int)-1)))).bind fun y6=>
       V ((a_0.Bm.length:Int)==y6)
      else
       V false
    else
     bif (a_0.Aq==2) then
      bif (r2==1) then
       (idx r5 1).bind fun y7=>
       bif (y7==0) then
        (idx r5 2).bind fun y8=>
        (idx r5 3).bind fun y9=>
        bif (!((decide (y8 > 0))==(decide (y9 > 0)))) then V ((a_0.Bm.length:Int)==0) else
        V false
       else
        V false
      else
       V false
     else
      bif (a_0.Aq==3) then
       bif (r2==1) then
        (idx r5 1).bind fun y10=>
        bif decide (y10 > 0) then
         (idx r5 2).bind fun y11=>
         bif decide (y11 > 0) then
          (idx r5 3).bind fun y12=>
          bif (y12==0) then V ((a_0.Bm.length:Int)==0) else
          V false
         else
          V false
        else
         V false
       else
        V false
      else
       V false
theorem qqZ {a_0:qv}(ha1:Ro w a_0 cs1){r:Bool}(F:qlp n a_0=V r):RetV prog 258 [GoT.v qv cs1] w r:=by
 obtain⟨p1,k1,p2,k2,p3,k3,rfl,_,s2,s3⟩:=qO ha1;refine zV 182 func258 Z fun h=>zSR (qx h Z Z fun _ bb1 h=>X1 5 0 h Z ?_);obtain⟨r1,hr1,F⟩:=qc F;obtain⟨r2,r3⟩:=r1;refine qa3 (r2,r3) h (cB 293 Z) (qqo (h.old ha1) hr1) Z Z Z Z fun _ _ _ hv1 hr2=>?_;obtain⟨_,_,rfl,hv2,hr3⟩:=hv1.consI hr2;obtain⟨rfl,h⟩:=hv2.lastB hr3;refine X0 8 Z ?_;obtain⟨KF1,hKF1,_,F,hK4⟩:=bindE F;refine qbe (fun e w'=>∃(b1:Bool),KF1 b1=V r∧e=[(1,.pointer (V ⟨bb1,0,U⟩)),(3,.int .i64 r2),(40,.bool b1)]∧SH w w' [Ch.box bb1 (qc2 a_0 p1 p2 p3 k1 k2 k3) 251]) ?_ ?_
 ·refine X0 4 Z (qm (t:=17) F Z ?_ ?_)<;>intro F
  ·refine X0 24 Z ?_;obtain rfl:=qb F;exact rG ⟨_,hK4,rfl,h⟩ Z
  refine X1 5 0 h Z (zcB h F qif Z fun _ _ h F=>X0 4 Z (qm (t:=23) F Z ?_ ?_))<;>intro F
  ·refine X0 18 Z ?_;obtain rfl:=qb F;exact rG ⟨_,hK4,rfl,h⟩ Z
  refine X1 10 0 h Z (qm (t:=29) F Z ?_ ?_)<;>intro F
  ·refine X0 12 Z ?_;obtain rfl:=qb F;exact rG ⟨_,hK4,rfl,h⟩ Z
  refine X1 5 0 h Z (zcB h F qai Z fun _ _ h F=>X0 4 Z (qm (t:=35) F Z ?_ ?_))<;>intro F
  ·refine X0 6 Z ?_;obtain rfl:=qb F;exact rG ⟨_,hK4,rfl,h⟩ Z
  refine X1 5 0 h Z (zcB h F qai Z fun _ _ h F=>X0 4 Z ?_);obtain rfl:=qb F;exact rG ⟨_,hK4,rfl,h⟩ Z
 rintro _ _ ⟨b1,F,rfl,h⟩;subst hKF1;refine qh Z F ?_ ?_<;>intro F
 ·exact X0 4 Z (rb h F Z)
 refine X0 6 Z ?_;obtain⟨o1,F,hK1⟩:=qc F;refine qn (rL (fun m e w'=>∃(i1:Int),qgc a_0 m i1=V o1∧e=[(1,.pointer (V ⟨bb1,0,U⟩)),(3,.int .i64 r2),(5,.int .i64 i1)]∧SH w w' [Ch.box bb1 (qc2 a_0 p1 p2 p3 k1 k2 k3) 251]) n ⟨_,F,rfl,h⟩ Z ?_);rintro m1 _ _ ⟨i1,F,rfl,h⟩;rcases m1 with _|m1
 ·cases F
 refine X1 9 0 h Z (qh Z F ?_ ?_)<;>intro F
 ·refine X1 8 0 h Z ?_;obtain⟨y1,_,F,he1,_,_,_,_,hp1,hq1,hr5,hc3⟩:=s2.ix F;obtain⟨p4,k4,p5,k5,rfl,s4,s5⟩:=qX hr5;refine zxe hp1 hq1 he1 Z (zc 0 (hc3.below h.below) Z (qp qa h Z Z Z fun _ bb2 h=>zs 0 h Z fun _ h=>X2 6 1 0 h Z (zcB h F (qqJ (h.old ha1) (qfo y1 (h.oldS s4) (h.oldS s5))) Z fun _ _ h F=>X0 2 Z (qh Z F ?_ ?_))))<;>intro F
  ·refine X0 4 Z ?_;obtain rfl:=qb F;replace F:=hK1;exact rb h F Z
  refine X0 5 Z ?_;obtain⟨o2,F,hK2⟩:=qc F;refine qn (rL (fun m e w'=>∃(i2:Int),qdJ a_0 i1 y1 m i2=V o2∧e=[(1,.pointer (V ⟨bb1,0,U⟩)),(3,.int .i64 r2),(5,.int .i64 i1),(6,.pointer (V ⟨bb2,0,U⟩)),(7,.int .i64 i2)]∧SH w w' [Ch.box bb2 (qhc y1 p4 p5 k4 k5) 254,Ch.box bb1 (qc2 a_0 p1 p2 p3 k1 k2 k3) 251]) m1 ⟨_,F,rfl,h⟩ Z ?_);rintro m2 _ _ ⟨i2,F,rfl,h⟩;rcases m2 with _|m2
  ·cases F
  refine X0 7 Z (qh Z F ?_ ?_)<;>intro F
  ·refine X0 4 Z (rD (Y1 2 1 h Z ?_));refine zd1 Z ?_;obtain⟨_,_,F,he2,_,_,_,_,hp2,hq2,hr7,hc6⟩:=s2.ix F;obtain⟨_,_,_,_,rfl,_,_⟩:=qX hr7;refine zdxe hp2 hq2 he2 Z (zd1 Z (zdc 0 (hc6.below h.below) Z (Y1 2 0 h Z ?_)));refine zd2 Z (qbZ (t:=71) F Z ?_ ?_)<;>intro F
   ·refine Y1 4 1 h Z ?_;refine Y0 3 Z ?_;obtain⟨_,_,F,he3,_,_,_,_,hp3,hq3,hr8,hc7⟩:=s2.ix F;obtain⟨_,_,_,_,rfl,_,_⟩:=qX hr8;refine zdxe hp3 hq3 he3 Z (Y0 3 Z (zdc 1 (hc7.below h.below) Z (Y1 4 0 h Z ?_)));refine Y0 4 Z (qbZ (t:=82) F Z ?_ ?_)<;>intro F
    ·refine Y1 4 1 h Z ?_;refine Y0 3 Z ?_;obtain⟨_,_,F,he4,_,_,_,_,hp4,hq4,hr9,hc8⟩:=s2.ix F;obtain⟨_,_,_,_,rfl,_,_⟩:=qX hr9;refine zdxe hp4 hq4 he4 Z (Y0 3 Z (zdc 2 (hc8.below h.below) Z (Y1 4 0 h Z ?_)));refine Y0 3 Z (dN h fun _ h=>qh Z F ?_ ?_)<;>intro F
     ·refine X0 4 Z ?_;obtain rfl:=qb F;replace F:=hK2;obtain rfl:=qb F;replace F:=hK1;exact rb h F Z
     exact X0 7 Z (rK ⟨_,F,rfl,h⟩ Z)
    exact Y0 10 Z (dN h fun _ h=>qdi Z Z (X0 7 Z (rK ⟨_,F,rfl,h⟩ Z)))
   exact Y0 21 Z (dN h fun _ h=>qdi Z Z (X0 7 Z (rK ⟨_,F,rfl,h⟩ Z)))
  refine qq Z ?_;obtain rfl:=qb F;replace F:=hK2;refine X0 6 Z ?_;replace h:=h.pick [1] Z;exact rK ⟨_,F,rfl,h⟩ Z
 refine qq Z ?_;obtain rfl:=qb F;replace F:=hK1;refine X1 3 0 h Z (zcL h F (qpI (h.old ha1)) Z fun _ _ _ _ _ h F=>X1 14 1 h Z (qh Z F ?_ ?_))<;>intro F
 ·refine X0 5 Z ?_;obtain⟨o3,F,hK3⟩:=qc F;refine qn ?_;replace h:=h.pick [1] Z;refine rL (fun m e w'=>∃(i3:Int),qf4 a_0 m i3=V o3∧e=[(1,.pointer (V ⟨bb1,0,U⟩)),(3,.int .i64 r2),(9,.int .i64 i3)]∧SH w w' [Ch.box bb1 (qc2 a_0 p1 p2 p3 k1 k2 k3) 251]) n ⟨_,F,rfl,h⟩ Z ?_;rintro m3 _ _ ⟨i3,F,rfl,h⟩;rcases m3 with _|m3
  ·cases F
  refine X1 9 0 h Z (qh Z F ?_ ?_)<;>intro F
  ·refine X1 8 0 h Z ?_;obtain⟨_,_,F,he5,_,_,_,_,hp5,hq5,rfl,hc12⟩:=s3.ix F;refine zxe hp5 hq5 he5 Z (zc 0 (hc12.below h.below) Z (zcB h F qai Z fun _ _ h F=>X0 2 Z (qh Z F ?_ ?_)))<;>intro F
   ·refine X0 4 Z ?_;obtain rfl:=qb F;replace F:=hK3;exact rb h F Z
   exact X0 7 Z (rK ⟨_,F,rfl,h⟩ Z)
  refine qq Z ?_;obtain rfl:=qb F;replace F:=hK3;refine X0 5 Z (qm (t:=115) F Z ?_ ?_)<;>intro F
  ·refine X2 17 0 0 h Z ?_;obtain⟨_,hx1,F⟩:=qc F;obtain⟨g1,hx1⟩:=qsv hx1;refine r_v (qy2 g1 Z Z) Z ?_;rw[hx1];exact X0 5 Z (rb h F Z)
  exact X0 13 Z (rb h F Z)
 refine X0 5 Z (qh Z F ?_ ?_)<;>intro F
 ·refine qcQ (rD (zd3 Z (qbZ (t:=131) F Z ?_ ?_)))<;>intro F
  ·refine Y0 3 Z ?_;obtain⟨_,_,F,he6,_,_,_,_,hp6,hq6,rfl,hc15⟩:=(h.sl 0 Z).1.ix F;refine zdx hp6 hq6 ⟨he6.1,qC he6.2.1 (h.sl 0 Z).2⟩ Z (Y0 1 Z (zdc 0 hc15 Z (Y0 4 Z (qbZ (t:=137) F Z ?_ ?_))))<;>intro F
   ·refine Y0 3 Z ?_;obtain⟨_,_,F,he7,_,_,_,_,hp7,hq7,rfl,hc16⟩:=(h.sl 0 Z).1.ix F;refine zdx hp7 hq7 ⟨he7.1,qC he7.2.1 (h.sl 0 Z).2⟩ Z (Y0 1 Z (zdc 0 hc16 Z (Y0 5 Z ?_)));obtain⟨_,_,F,he8,_,_,_,_,hp8,hq8,rfl,hc17⟩:=(h.sl 0 Z).1.ix F;refine zdx hp8 hq8 ⟨he8.1,qC he8.2.1 (h.sl 0 Z).2⟩ Z (Y0 1 Z (zdc 0 hc17 Z (Y0 6 Z (qbZ (t:=148) F Z ?_ ?_))))<;>intro F
    ·refine Y1 4 1 h Z ?_;exact Y0 6 Z (dN h fun _ h=>rb h F Z)
    exact Y0 6 Z (dN h fun _ h=>rb h F Z)
   exact Y0 17 Z (dN h fun _ h=>rb h F Z)
  exact Y0 23 Z (dN h fun _ h=>rb h F Z)
 refine X0 5 Z (qh Z F ?_ ?_)<;>intro F
 ·refine X0 5 Z (qm (t:=158) F Z ?_ ?_)<;>intro F
  ·refine X0 3 Z ?_;obtain⟨_,_,F,he9,_,_,_,_,hp9,hq9,rfl,hc19⟩:=(h.sl 0 Z).1.ix F;refine zx hp9 hq9 ⟨he9.1,qC he9.2.1 (h.sl 0 Z).2⟩ Z (X0 1 Z (zc 0 hc19 Z (X0 4 Z (qm (t:=164) F Z ?_ ?_))))<;>intro F
   ·refine X0 3 Z ?_;obtain⟨_,_,F,he10,_,_,_,_,hp10,hq10,rfl,hc20⟩:=(h.sl 0 Z).1.ix F;refine zx hp10 hq10 ⟨he10.1,qC he10.2.1 (h.sl 0 Z).2⟩ Z (X0 1 Z (zc 0 hc20 Z (X0 4 Z (qm (t:=170) F Z ?_ ?_))))<;>intro F
    ·refine X0 3 Z ?_;obtain⟨_,_,F,he11,_,_,_,_,hp11,hq11,rfl,hc21⟩:=(h.sl 0 Z).1.ix F;refine zx hp11 hq11 ⟨he11.1,qC he11.2.1 (h.sl 0 Z).2⟩ Z (X0 1 Z (zc 0 hc21 Z (X0 4 Z (qm (t:=176) F Z ?_ ?_))))<;>intro F
     ·exact X1 11 1 h Z (rb h F Z)
     exact X0 7 Z (rb h F Z)
    exact X0 13 Z (rb h F Z)
   exact X0 19 Z (rb h F Z)
  exact X0 25 Z (rb h F Z)
 exact X0 6 Z (rb h F Z)
end Go.Fw
