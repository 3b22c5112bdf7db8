/- Calls that hand out parts of memory one by one: what is owned stays apart. -/
import Derived.Test.YtanbjhnkfiipnaaGreatDoorFw38
import Derived.Sort.Grow
import Derived.Lib.SlicesCompact
import Derived.Laws.StructEq
import Derived.Test.YtanbjhnkfiipnaaGreatDoorChecked
import Derived.Test.YtanbjhnkfiipnaaGreatDoorS1
open Option renaming bind_some → je
open Nat renaming le_refl → jf, mul_le_mul_right → jo, le_of_ble_eq_true → jp, lt_of_lt_of_le → jr, succ_mul → jB, zero_le → jJ, le_trans → jN, zero_add → jQ
open Bool renaming and_eq_true → jg, eq_iff_iff → jk, not_eq_true' → jA, true_and → jF
open Go.Result renaming andThen_ok → jh
open List renaming length_append → ji, length_singleton → jj, getElem?_eq_getElem → jn, getElem_mem → jq, mem_cons_of_mem → js, mem_cons_self → jt, mem_of_getElem? → ju, getD_eq_getElem?_getD → jw, getElem?_append_left → jx, not_mem_nil → jy, eq_nil_of_length_eq_zero → jz, getElem?_take → jC, getElem?_toArray → jD, getElem?_append_right → jE, length_map → jG, mem_cons → jH, getElem_of_mem → jI, size_toArray → jL, append_nil → jM, append_assoc → jO, all_eq_true → jP
open Go.Sem renaming run_bind → jl, run_pure → jm
open Int renaming toNat_natCast → jv
open Array renaming getElem?_append_left → jK

namespace Go.Fw
open Go
open Go.RowKit (Below)
section
variable {P:Program} {T:Tab} {n:Nat} {Q:Exit→Act→World→Prop} {k:List It} {e:Env} {w0 w w':World} {L L':List Ch}
theorem SH.append (h:SH w0 w L) (hL:SH w w' L') (hD:∀ c,c ∈ L'→∀ b,c.D b→b<w0.heap.size):SH w0 w' (L'++L):=by
 have h':=h.ext hL.below
 refine ⟨h'.below,fun c hc=>?_,fun c hc=>?_,?_⟩
 ·rcases List.mem_append.1 hc with hc|hc
  ·obtain ⟨p,s⟩:=hL.holds c hc
   exact ⟨p,fun b hb=>⟨jN h.below.size (s b hb).1,(s b hb).2⟩⟩
  ·exact h'.holds c hc
 ·rcases List.mem_append.1 hc with hc|hc
  ·exact hD c hc
  ·exact h.elder c hc
 ·refine List.pairwise_append.2 ⟨hL.apart,h.apart,fun c hc d hd b hcb hdb=>?_⟩
  have h1:=((hL.holds c hc).2 b hcb).1
  have h2:=((h.holds d hd).2 b hdb).2
  omega
theorem SH.appendN (h:SH w0 w L) (hL:SH w w' L') (hD:NoD L'):SH w0 w' (L'++L) :=
 SH.append h hL fun c hc b hb=>absurd hb (NoD.all hD c hc b)
def RetZ (P:Program) (f:FuncId) (vs:List Value) (w:World) (Φ:List Value→List Ch→Prop):Prop :=
 Calls P f vs.toArray w fun e w'=>∃ v,e=.returned v∧Below w.heap.size w w'∧∃ us L,v=tup us∧SH w w' L∧Φ us L
theorem qnS {Φ:List Value→List Ch→Prop} {all:Array Oper} {l:List Oper} {d ty:Nat} {ps:String} {af:Array Edge} {x:Operand} {args:Array Operand} {ats:Array TypeId} {f:FuncId} {fi ca:Array Value} {az vs:List Value}
  (hcall:qdp P f) (hc:RetZ P f vs w Φ) (hx:opv e x=some (.func (.func f) fi ca)) (hargs:opvs e args.toList=some az) (hvs:fi.toList++az++ca.toList=vs) (hn:Nat.blt d n=true)
  (hk:∀ w' us L',SH w w' L'→Φ us L'→Run P n Q (.ops all l::k) ((d,tup us)::e) w') :
  Run P n Q (.ops all (⟨some d,.call ⟨.value x,args,ats⟩,ty,ps,af,none⟩::l)::k) e w:=by
 subst hvs
 refine qiL (R:=fun v w'=>Below w.heap.size w w'∧∃ us L,v=tup us∧SH w w' L∧Φ us L) rfl rfl hn (fun a ha=>qgi ha hcall hx hargs w) hc ?_
 rintro v w' ⟨_,us,L',rfl,hL,hv⟩
 exact hk w' us L' hL hv
theorem qlC {f:FuncId} {fn:Func} {c:Code} {vs:List Value} {Φ:List Value→List Ch→Prop} {m:Nat} (hf:P.funcs[f]?=some fn) (hb:fn.body=some c) (hm:fn.ntmps=m) (hn:Nat.ble vs.length m=true)
  (h:SH w w []→Run P m (bodyPost P fn fun e w'=>∃ v,e=.returned v∧Below w.heap.size w w'∧∃ us L,v=tup us∧SH w w' L∧Φ us L) [.code c] (argEnv 0 vs) w):RetZ P f vs w Φ:=by
 subst hm
 have hn':=jp hn
 refine calls_of_wp hf hb ?_
 have hr:=h (SH.start w)
 have hag:Agree fn.ntmps (argEnv 0 vs) { tmps:=vs.toArray++Array.replicate (fn.ntmps-vs.toArray.size) undef,defers:=[] }:=by
  refine ⟨rfl,by simp;omega,fun i v hi=>?_⟩
  obtain ⟨_,h2⟩:=qgk vs 0 i v hi
  simp only [Nat.sub_zero] at h2
  have hlt:=(List.getElem?_eq_some_iff.1 h2).1
  rw [jK (by simpa using hlt)]
  simpa using h2
 have h1:=hr _ hag
 refine wp_mono h1 ?_
 intro ex a' w' hq
 cases ex<;>exact hq
theorem qoh (hT:TabOk P T) {fn:Func} {Φ:List Value→List Ch→Prop} (us:List Value) (h:SH w0 w L) (hr:ResOk T e w fn.results.toList us) (hv:Φ us L) :
  Run P n (bodyPost P fn fun e w'=>∃ v,e=.returned v∧Below w0.heap.size w0 w'∧∃ us L,v=tup us∧SH w0 w' L∧Φ us L) (.code .ret::k) e w :=
 qmt fun _ ha=>⟨ha.defers,tup us,qgb hT ha hr,tup us,rfl,h.below,us,L,rfl,h,hv⟩
end
end Go.Fw


namespace Go.Fw
open Go Go.Sort
open Go.RowKit (Below)
section
variable {P:Program} {T:Tab} {n:Nat} {Q:Exit→Act→World→Prop} {k:List It} {e:Env} {w0 w w':World} {L L':List Ch}
end
end Go.Fw


namespace Go.Fw
open Go
open Go.RowKit (Below)
section
variable {w0 w w':World} {L:List Ch} {α:Type} [GoT α]
def RAll (w:World) (A:Nat→Prop):List α→List (Raw α)→Prop
 | [],[]=>True
 | x::xs,r::rs=>GoT.R w A x r.cs∧RAll w A xs rs
 | _,_=>False
theorem RAll.at {A:Nat→Prop}:∀ {xs:List α} {rs:List (Raw α)},RAll w A xs rs→xs.length=rs.length∧∀ (i:Nat) x,xs[i]?=some x→∃ r,rs[i]?=some r∧GoT.R w A x r.cs
 | [],[],_=>⟨rfl,fun i x h=>by simp at h⟩
 | x::xs,[],h=>h.elim
 | [],r::rs,h=>h.elim
 | x::xs,r::rs,h=>by
  obtain ⟨hl,ha⟩:=RAll.at h.2
  refine ⟨by simp [hl],fun i y hy=>?_⟩
  cases i with
  | zero=>simp only [List.getElem?_cons_zero,Option.some.injEq] at hy ⊢;subst hy;exact ⟨r,rfl,h.1⟩
  | succ i=>simp only [List.getElem?_cons_succ] at hy ⊢;exact ha i y hy
end
end Go.Fw


namespace Go.Fw
open Go
end Go.Fw


namespace Go.Fw
open Go
open Go.RowKit (Below)
section
variable {P:Program} {T:Tab} {n:Nat} {Q:Exit→Act→World→Prop} {k:List It} {e:Env} {w0 w:World} {L:List Ch}
variable {α:Type} [GoT α] {S S1:Nat→Prop} {xs ys:List α} {p p':Option Addr} {c c':Nat}
end
section
variable {α β γ:Type}
def Emp (o:Option (List α)):Prop:=∀ r,o=some r→r=[]
theorem Emp.none:Emp (none:Option (List α)):=fun _ h=>by cases h
theorem Emp.noneB {f:β→Option (List α)}:Emp ((Option.none:Option β).bind f):=fun _ h=>by cases h
theorem Emp.nil:Emp (some ([]:List α)):=fun _ h=>(Option.some.inj h).symm
theorem Emp.bif {c:Bool} {a b:Option (List α)} (h1:Emp a) (h2:Emp b):Emp (bif c then a else b):=by cases c<;>assumption
theorem Emp.sub {xs:List β} {lo:Int} {f:List β→Option (List α)} (h:Emp (f [])):Emp ((subS xs lo ((0:Nat):Int)).bind f):=fun r hr=>by
 cases hs:subS xs lo ((0:Nat):Int) with
 | none=>rw [hs] at hr;cases hr
 | some y =>
  rw [hs] at hr
  obtain ⟨_,_,_,e⟩:=qi1 hs
  have:y=[]:=by rw [←e];simp
  subst this
  exact h r hr
theorem Emp.bind {x:Option β} {f:β→Option (List α)} (h:∀ y,Emp (f y)):Emp (x.bind f):=by
 cases x with
 | none=>exact Emp.noneB
 | some y=>exact h y
end
end Go.Fw


namespace Go.Fw
open Go
section
variable {ε:Type}
variable {ρ σ τ:Type}
end
end Go.Fw


namespace Go.Fw
open Go
end Go.Fw


namespace Go.Fw
open Go
open Go.RowKit (Below)
structure Same where
 w:World
 K:Nat→Prop
instance instSame:GoT Same where
 k:=1
 agg:=false
 zero:=⟨default,fun _=>False⟩
 zc:=[.bool true]
 R w S x cs:=cs=[.bool true]∧∀ b,x.K b→S b∧w.heap[b]?=x.w.heap[b]?
 O w S x cs:=cs=[.bool true]∧∀ b,x.K b→S b∧w.heap[b]?=x.w.heap[b]?
 kpos:=by decide
 noagg _:=rfl
 len h:=by obtain ⟨rfl,_⟩:=h;rfl
 one h:=by obtain ⟨rfl,_⟩:=h;simp [Value.oneCell']
 loc h hs:=⟨h.1,fun b hb=>⟨(h.2 b hb).1,(hs b (h.2 b hb).1).trans (h.2 b hb).2⟩⟩
 mono h hs:=⟨h.1,fun b hb=>⟨hs b (h.2 b hb).1,(h.2 b hb).2⟩⟩
 toR h:=h
 locO h hs:=⟨h.1,fun b hb=>⟨(h.2 b hb).1,(hs b (h.2 b hb).1).trans (h.2 b hb).2⟩⟩
 monoO h hs:=⟨h.1,fun b hb=>⟨hs b (h.2 b hb).1,(h.2 b hb).2⟩⟩
 zO _ _:=⟨rfl,fun _ h=>h.elim⟩
def FS (F:List Ch) (b:Nat):Prop:=∃ d,d ∈ F∧d.S b
abbrev Fr (w0:World) (F:List Ch) (b:Nat):Prop:=FS F b∨old w0 b
abbrev same (w0 w:World) (F:List Ch):Fct:=fct (⟨w,Fr w0 F⟩:Same) [.bool true]
section
variable {P:Program} {T:Tab} {n:Nat} {Q:Exit→Act→World→Prop} {k:List It} {e:Env} {w0 w w':World} {L L' F:List Ch}
theorem SH.frame (L:List Ch) (h:SH w0 w (L++F)):SH w0 w (L++[Ch.grp (Fw.old w0) (FS F) [same w0 w F]]):=by
 have hp:=List.pairwise_append.1 h.apart
 refine ⟨h.below,fun c hc=>?_,fun c hc=>?_,List.pairwise_append.2 ⟨hp.1,List.pairwise_singleton ..,fun c hc d hd b hb=>?_⟩⟩
 ·rcases List.mem_append.1 hc with hc|hc
  ·exact h.holds c (List.mem_append_left _ hc)
  ·obtain rfl:=List.mem_singleton.1 hc
   refine ⟨fun f hf=>?_,fun b hb=>?_⟩
   ·obtain rfl:=List.mem_singleton.1 hf
    exact ⟨rfl,fun b hb=>⟨hb,rfl⟩⟩
   ·obtain ⟨d,hd,hb⟩:=hb
    exact (h.holds d (List.mem_append_right _ hd)).2 b hb
 ·rcases List.mem_append.1 hc with hc|hc
  ·exact h.elder c (List.mem_append_left _ hc)
  ·obtain rfl:=List.mem_singleton.1 hc
   exact fun b hb=>hb
 ·obtain rfl:=List.mem_singleton.1 hd
  rintro ⟨d,hd,hdb⟩
  exact hp.2.2 c hc d hd b hb hdb
theorem SH.unframe {L0:List Ch} {fs:List Fct} (j:Nat) (h0:SH w0 w (L0++F)) (L':List Ch) (h:SH w0 w' (L'++[Ch.grp (Fw.old w0) (FS F) fs])) (hj:fs[j]?=some (same w0 w F)):SH w0 w' (L'++F):=by
 have hp:=List.pairwise_append.1 h.apart
 have hp0:=List.pairwise_append.1 h0.apart
 have hg:=h.holds (Ch.grp (Fw.old w0) (FS F) fs) (List.mem_append_right _ (List.mem_singleton.2 rfl))
 have hs:∀ b,Fr w0 F b→w'.heap[b]?=w.heap[b]?:=fun b hb=>((hg.1 _ (ju hj)).2 b hb).2
 refine ⟨h.below,fun c hc=>?_,fun c hc=>?_,List.pairwise_append.2 ⟨hp.1,hp0.2.1,fun c hc d hd b hb hdb=>?_⟩⟩
 ·rcases List.mem_append.1 hc with hc|hc
  ·exact h.holds c (List.mem_append_left _ hc)
  ·obtain ⟨h1,h2⟩:=h0.holds c (List.mem_append_right _ hc)
   exact ⟨c.loc w w' (fun b hb=>hs b (.inl ⟨c,hc,hb⟩)) (fun b hb=>hs b (.inr (h0.elder c (List.mem_append_right _ hc) b hb))) h1,fun b hb=>hg.2 b ⟨c,hc,hb⟩⟩
 ·rcases List.mem_append.1 hc with hc|hc
  ·exact h.elder c (List.mem_append_left _ hc)
  ·exact h0.elder c (List.mem_append_right _ hc)
 ·exact hp.2.2 c hc _ (List.mem_singleton.2 rfl) b hb ⟨d,hd,hdb⟩
variable {α:Type} [GoT α] {x:α} {cs:List Value} {S D:Nat→Prop} {fs:List Fct}
theorem SH.frB {c:Ch} (i m:Nat) (hi:L[i]?=some c) (hm:Nat.ble m i=true):∀ b,c.S b→FS (L.drop m) b:=fun b hb=>by
 have hm':=jp hm
 refine ⟨c,ju (i:=i-m) ?_,hb⟩
 rw [List.getElem?_drop,show m+(i-m)=i by omega]
 exact hi
theorem SH.frG (i j m:Nat) (h:SH w0 w L) (hi:L[i]?=some (Ch.grp D S fs)) (hj:fs[j]?=some (fct x cs)) (hm:Nat.ble m i=true):GoT.R w (Fr w0 (L.drop m)) x cs :=
 GoT.mono (h.grpS i j hi hj) fun b hb=>hb.elim (fun hb=>.inl (SH.frB i m hi hm b hb)) fun hb=>.inr (h.elder _ (ju hi) b hb)
theorem SH.frOldS {F:List Ch} {xs:List α} {p:Option Addr} {c:Nat} (h:SH w0 w L) (hr:SlR w0 (Fw.old w0) xs p c):SlR w (Fr w0 F) xs p c :=
 (hr.loc fun b hb=>h.below.block b hb).mono fun _ hb=>.inr hb
def RetW (P:Program) (f:FuncId) (vs:List Value) (w:World) (J:List Value→World→Prop):Prop :=
 Calls P f vs.toArray w fun e w'=>∃ us,e=.returned (tup us)∧J us w'
theorem qB {J:List Value→World→Prop} {all:Array Oper} {l:List Oper} {d ty:Nat} {ps:String} {af:Array Edge} {x:Operand} {args:Array Operand} {ats:Array TypeId} {f:FuncId} {fi ca:Array Value} {az vs:List Value}
  (hcall:qdp P f) (hc:RetW P f vs w J) (hx:opv e x=some (.func (.func f) fi ca)) (hargs:opvs e args.toList=some az) (hvs:fi.toList++az++ca.toList=vs) (hn:Nat.blt d n=true)
  (hk:∀ w' us,J us w'→Run P n Q (.ops all l::k) ((d,tup us)::e) w'):Run P n Q (.ops all (⟨some d,.call ⟨.value x,args,ats⟩,ty,ps,af,none⟩::l)::k) e w:=by
 subst hvs
 refine qiL (R:=fun v w'=>∃ us,v=tup us∧J us w') rfl rfl hn (fun a ha=>qgi ha hcall hx hargs w) (hc.mono ?_) ?_
 ·rintro e w' ⟨us,rfl,h⟩;exact ⟨_,rfl,us,rfl,h⟩
 ·rintro v w' ⟨us,rfl,h⟩;exact hk w' us h
theorem qbn {J:List Value→World→Prop} {f:FuncId} {fn:Func} {c:Code} {vs:List Value} {m:Nat} (hf:P.funcs[f]?=some fn) (hb:fn.body=some c) (hm:fn.ntmps=m) (hn:Nat.ble vs.length m=true)
  (h:Run P m (bodyPost P fn fun e w'=>∃ us,e=.returned (tup us)∧J us w') [.code c] (argEnv 0 vs) w):RetW P f vs w J:=by
 subst hm
 have hn':=jp hn
 refine calls_of_wp hf hb ?_
 have hag:Agree fn.ntmps (argEnv 0 vs) { tmps:=vs.toArray++Array.replicate (fn.ntmps-vs.toArray.size) undef,defers:=[] }:=by
  refine ⟨rfl,by simp;omega,fun i v hi=>?_⟩
  obtain ⟨_,h2⟩:=qgk vs 0 i v hi
  simp only [Nat.sub_zero] at h2
  have hlt:=(List.getElem?_eq_some_iff.1 h2).1
  rw [jK (by simpa using hlt)]
  simpa using h2
 have h1:=h _ hag
 refine wp_mono h1 ?_
 intro ex a' w' hq
 cases ex<;>exact hq
theorem qce {J:List Value→World→Prop} (hT:TabOk P T) {fn:Func} (us:List Value) (hr:ResOk T e w fn.results.toList us) (h:J us w) :
  Run P n (bodyPost P fn fun e w'=>∃ us,e=.returned (tup us)∧J us w') (.code .ret::k) e w :=
 qmt fun _ ha=>⟨ha.defers,tup us,qgb hT ha hr,us,rfl,h⟩
end
section
open Go.ChangeShapes Go.RowKit
variable {H:Type} {enc:TypeId × Value→H} {P:Program} {w:World} {base:Nat} {spare:Nat→Bool} {held:Bool}
end
end Go.Fw


namespace Go.Fw
open Go
open Go.RowKit (Below)
section
variable {P:Program} {T:Tab} {n:Nat} {Q:Exit→Act→World→Prop} {k:List It} {e:Env} {w0 w w':World} {L:List Ch}
variable {α β:Type} [GoT α] [GoT β] {S Sr Se D:Nat→Prop} {xs ys:List α} {p p':Option Addr} {c c':Nat} {fs:List Fct} {x:α} {cs:List Value}
theorem RAll.loc {A:Nat→Prop}:∀ {xs:List α} {rs:List (Raw α)},RAll w A xs rs→(∀ b,A b→w'.heap[b]?=w.heap[b]?)→RAll w' A xs rs
 | [],[],_,_=>trivial
 | _::_,[],h,_=>h.elim
 | [],_::_,h,_=>h.elim
 | _::_,_::_,h,hb=>⟨GoT.loc h.1 hb,RAll.loc h.2 hb⟩
theorem RAll.mono {A B:Nat→Prop} (hb:∀ b,A b→B b):∀ {xs:List α} {rs:List (Raw α)},RAll w A xs rs→RAll w B xs rs
 | [],[],_=>trivial
 | _::_,[],h=>h.elim
 | [],_::_,h=>h.elim
 | _::_,_::_,h=>⟨GoT.mono h.1 hb,RAll.mono hb h.2⟩
theorem RAll.app {A:Nat→Prop}:∀ {xs:List α} {rs:List (Raw α)} {ys:List α} {qs:List (Raw α)},RAll w A xs rs→RAll w A ys qs→RAll w A (xs++ys) (rs++qs)
 | [],[],_,_,_,h=>h
 | _::_,[],_,_,h,_=>h.elim
 | [],_::_,_,_,h,_=>h.elim
 | _::_,_::_,_,_,h,h'=>⟨h.1,RAll.app h.2 h'⟩
theorem RAll.of {A:Nat→Prop}:∀ {xs:List α} {rs:List (Raw α)},xs.length=rs.length→(∀ (i:Nat) (x:α) (r:Raw α),xs[i]?=some x→rs[i]?=some r→GoT.R w A x r.cs)→RAll w A xs rs
 | [],[],_,_=>trivial
 | _::_,[],h,_=>by cases h
 | [],_::_,h,_=>by cases h
 | x::xs,r::rs,h,ha=>⟨ha 0 x r rfl rfl,RAll.of (by simpa using h) fun i y q hy hq=>ha (i+1) y q (by simpa using hy) (by simpa using hq)⟩
theorem RAll.len {A:Nat→Prop} {rs:List (Raw α)} (h:RAll w A xs rs):xs.length=rs.length:=h.at.1
theorem SH.frzI (i:Nat) (h:SH w0 w L) (hi:L[i]?=some (Ch.own S x cs)):SH w0 w (L.set i (Ch.grp (fun _=>False) S [fct x cs])) :=
 h.say hi (fun hp f hf=>by
  obtain rfl:=List.mem_singleton.1 hf
  have hp':GoT.O w S x cs:=hp
  exact GoT.mono (S':=fun b=>S b∨False) (x:=x) (cs:=cs) (GoT.toR hp') (fun b hb=>.inl hb)) (fun _ h=>h) (fun _ h=>h.elim)
end
end Go.Fw


namespace Go.Fw
open Go
def rng8 (x:IntK .u8):Prop:=0≤x.val∧x.val≤255
theorem qnm {P:Program} {t:TypeId} (ht:P.underlying t=some (.int .u8)) (hc:P.cellsOf t=1):Opens P t (gt_IntK (kd:=.u8)) rng8 :=
 ⟨hc,fun h=>by
  obtain ⟨n,rfl,_,hw⟩:=DataW.trod_int ht h
  exact ⟨⟨n⟩,rfl,by simp only [Lit.wf,IntKind.min,IntKind.max,jg] at hw;simp [IntKind.bits,IntKind.signed] at hw;unfold rng8;simp only;omega⟩⟩
end Go.Fw


namespace Go.Fw
open Go
open Go.RowKit (Below)
section
variable {P:Program} {T:Tab} {n:Nat} {Q:Exit→Act→World→Prop} {k:List It} {e:Env} {w0 w w':World} {L:List Ch}
end
end Go.Fw


namespace Go.Fw
open Go
open Go.RowKit (Below)
section
variable {P:Program} {T:Tab} {n:Nat} {e:Env} {w:World}
def b3 (a0:Bool) (a1 a2 a3:Int):Array Value:=#[.bool a0,.int .i64 a1,.int .i64 a2,.int .i64 a3]
end
end Go.Fw


namespace Go.Fw
open Go
section
variable {P:Program} {T:Tab} {n:Nat} {e:Env} {w:World}
theorem qk6 {x y:Operand} {t t' d ty:Nat} {ps:String} {af:Array Edge} {g:Option (Nat × Bool)} {a b r:Int} (h0:b ≠ 0) (hr:a.tmod b=r)
  (hx:opv e x=some (.int .i64 a)) (hy:opv e y=some (.int .i64 b)):Val P n e ⟨some d,.binOp .rem t x y t',ty,ps,af,g⟩ w (.int .i64 r):=hr ▸ qoH h0 hx hy
end
end Go.Fw


namespace Go.Fw
open Go Go.Proofs
open Go.RowKit (Below)
set_option maxRecDepth 100000
set_option maxHeartbeats 6400000
variable {n:Nat} {w:World} {S:Nat→Prop} {cs1 cs2 cs3 cs4 cs5 cs6 cs7 cs8 cs9:List Value}
structure qQ where
 Ar:ByteArray
 Bj:Int
 Bb:Int
 Ba:Bool
instance gt_TPin:GoT qQ:=isoT (pairT instStr (pairT instInt (pairT instInt instBool))) (fun x=>(x.Ar,x.Bj,x.Bb,x.Ba)) ⟨ByteArray.empty,0,0,false⟩ rfl true (fun h=>by cases h)
instance fl_TPin:Flat qQ:=qfV (pairT instStr (pairT instInt (pairT instInt instBool))) (fun x:qQ=>(x.Ar,x.Bj,x.Bb,x.Ba)) ⟨ByteArray.empty,0,0,false⟩ rfl true (fun h=>by cases h) (qba _ _ (inferInstanceAs (Flat ByteArray)) (qba _ _ (inferInstanceAs (Flat Int)) (qba _ _ (inferInstanceAs (Flat Int)) (inferInstanceAs (Flat Bool)))))
abbrev qj0 (x:qQ):List Value:=[.string x.Ar,.int .i64 x.Bj,.int .i64 x.Bb,.bool x.Ba]
theorem qcS {x:qQ} {cs:List Value} (h:GoT.R w S x cs):cs=(qj0 x):=by
 obtain ⟨_,_,rfl,rfl,⟨_,_,rfl,rfl,⟨_,_,rfl,rfl,rfl⟩⟩⟩:=h
 exact rfl
theorem qgQ (x:qQ):GoT.R w S x (qj0 x):=have h:=pR (rT x.Ar) (pR (rI x.Bj) (pR (rI x.Bb) (rB x.Ba)));h
structure qF where
 Bf:(List Int)
 Be:(List Int)
 Au:(List Int)
instance gt_TTable:GoT qF:=isoT (pairT (@instList Int instInt) (pairT (@instList Int instInt) (@instList Int instInt))) (fun x=>(x.Bf,x.Be,x.Au)) ⟨[],[],[]⟩ rfl true (fun h=>by cases h)
abbrev qfd (x:qF) (p0 p1 p2:Option Addr) (k0 k1 k2:Nat):List Value:=[.slice p0 (x.Bf).length k0,.slice p1 (x.Be).length k1,.slice p2 (x.Au).length k2]
theorem qdN {x:qF} {cs:List Value} (h:GoT.R w S x cs):∃ p0 k0 p1 k1 p2 k2,cs=(qfd x p0 p1 p2 k0 k1 k2)∧SlR w S x.Bf p0 k0∧SlR w S x.Be p1 k1∧SlR w S x.Au p2 k2:=by
 obtain ⟨_,_,rfl,⟨p0,k0,rfl,s0⟩,⟨_,_,rfl,⟨p1,k1,rfl,s1⟩,⟨p2,k2,rfl,s2⟩⟩⟩:=h
 exact ⟨p0,k0,p1,k1,p2,k2,rfl,s0,s1,s2⟩
theorem qjR (x:qF) {p0 p1 p2:Option Addr} {k0 k1 k2:Nat} (s0:SlR w S x.Bf p0 k0) (s1:SlR w S x.Be p1 k1) (s2:SlR w S x.Au p2 k2):GoT.R w S x (qfd x p0 p1 p2 k0 k1 k2):=have h:=pR (rS s0) (pR (rS s1) (rS s2));h
theorem qmB {w0:World} {L:List Ch} (x:qF) {I0 I1 I2:List Nat} {c0 c1 c2:List Value} (h:SH w0 w L) (h0:PO w L I0 x.Bf c0) (h1:PO w L I1 x.Be c1) (h2:PO w L I2 x.Au c2) (b0:apartB I0 (I1++I2)=true) (b1:apartB I1 I2=true):PO w L (I0++(I1++I2)) x (c0++(c1++c2)) :=
 (qbV h h0 (qbV h h1 h2 b1) b0)
structure qS where
 Aq:Int
 Ay:Int
 To:Int
 Bg:Int
 Bh:(List qF)
 Bk:(List qF)
instance gt_TArc:GoT qS:=isoT (pairT instInt (pairT instInt (pairT instInt (pairT instInt (pairT (@instList qF gt_TTable) (@instList qF gt_TTable)))))) (fun x=>(x.Aq,x.Ay,x.To,x.Bg,x.Bh,x.Bk)) ⟨0,0,0,0,[],[]⟩ rfl true (fun h=>by cases h)
abbrev qeo (x:qS) (p0 p1:Option Addr) (k0 k1:Nat):List Value:=[.int .i64 x.Aq,.int .i64 x.Ay,.int .i64 x.To,.int .i64 x.Bg,.slice p0 (x.Bh).length k0,.slice p1 (x.Bk).length k1]
theorem qaj {x:qS} {cs:List Value} (h:GoT.R w S x cs):∃ p0 k0 p1 k1,cs=(qeo x p0 p1 k0 k1)∧SlR w S x.Bh p0 k0∧SlR w S x.Bk p1 k1:=by
 obtain ⟨_,_,rfl,rfl,⟨_,_,rfl,rfl,⟨_,_,rfl,rfl,⟨_,_,rfl,rfl,⟨_,_,rfl,⟨p0,k0,rfl,s0⟩,⟨p1,k1,rfl,s1⟩⟩⟩⟩⟩⟩:=h
 exact ⟨p0,k0,p1,k1,rfl,s0,s1⟩
theorem qfL (x:qS) {p0 p1:Option Addr} {k0 k1:Nat} (s0:SlR w S x.Bh p0 k0) (s1:SlR w S x.Bk p1 k1):GoT.R w S x (qeo x p0 p1 k0 k1):=have h:=pR (rI x.Aq) (pR (rI x.Ay) (pR (rI x.To) (pR (rI x.Bg) (pR (rS s0) (rS s1)))));h
theorem qmo {w0:World} {L:List Ch} (x:qS) {I0 I1 I2 I3 I4 I5:List Nat} {c0 c1 c2 c3 c4 c5:List Value} (h:SH w0 w L) (h0:PO w L I0 x.Aq c0) (h1:PO w L I1 x.Ay c1) (h2:PO w L I2 x.To c2) (h3:PO w L I3 x.Bg c3) (h4:PO w L I4 x.Bh c4) (h5:PO w L I5 x.Bk c5) (b0:apartB I0 (I1++(I2++(I3++(I4++I5))))=true) (b1:apartB I1 (I2++(I3++(I4++I5)))=true) (b2:apartB I2 (I3++(I4++I5))=true) (b3:apartB I3 (I4++I5)=true) (b4:apartB I4 I5=true):PO w L (I0++(I1++(I2++(I3++(I4++I5))))) x (c0++(c1++(c2++(c3++(c4++c5))))) :=
 (qbV h h0 (qbV h h1 (qbV h h2 (qbV h h3 (qbV h h4 h5 b4) b3) b2) b1) b0)
structure qk where
 Ar:ByteArray
 Aq:Int
 Ap:(List qQ)
 Am:(List qS)
 Az:(List Int)
 Bm:Int
 Bi:Int
instance gt_TCell:GoT qk:=isoT (pairT instStr (pairT instInt (pairT (@instList qQ gt_TPin) (pairT (@instList qS gt_TArc) (pairT (@instList Int instInt) (pairT instInt instInt)))))) (fun x=>(x.Ar,x.Aq,x.Ap,x.Am,x.Az,x.Bm,x.Bi)) ⟨ByteArray.empty,0,[],[],[],0,0⟩ rfl true (fun h=>by cases h)
abbrev qt (x:qk) (p0 p1 p2:Option Addr) (k0 k1 k2:Nat):List Value:=[.string x.Ar,.int .i64 x.Aq,.slice p0 (x.Ap).length k0,.slice p1 (x.Am).length k1,.slice p2 (x.Az).length k2,.int .i64 x.Bm,.int .i64 x.Bi]
theorem qE {x:qk} {cs:List Value} (h:GoT.R w S x cs):∃ p0 k0 p1 k1 p2 k2,cs=(qt x p0 p1 p2 k0 k1 k2)∧SlR w S x.Ap p0 k0∧SlR w S x.Am p1 k1∧SlR w S x.Az p2 k2:=by
 obtain ⟨_,_,rfl,rfl,⟨_,_,rfl,rfl,⟨_,_,rfl,⟨p0,k0,rfl,s0⟩,⟨_,_,rfl,⟨p1,k1,rfl,s1⟩,⟨_,_,rfl,⟨p2,k2,rfl,s2⟩,⟨_,_,rfl,rfl,rfl⟩⟩⟩⟩⟩⟩:=h
 exact ⟨p0,k0,p1,k1,p2,k2,rfl,s0,s1,s2⟩
theorem qh6 (x:qk) {p0 p1 p2:Option Addr} {k0 k1 k2:Nat} (s0:SlR w S x.Ap p0 k0) (s1:SlR w S x.Am p1 k1) (s2:SlR w S x.Az p2 k2):GoT.R w S x (qt x p0 p1 p2 k0 k1 k2):=have h:=pR (rT x.Ar) (pR (rI x.Aq) (pR (rS s0) (pR (rS s1) (pR (rS s2) (pR (rI x.Bm) (rI x.Bi))))));h
theorem qfC {x:qk} {p0 p1 p2:Option Addr} {l0 k0 l1 k1 l2 k2:Nat} (h:GoT.R w S x [.string x.Ar,.int .i64 x.Aq,.slice p0 l0 k0,.slice p1 l1 k1,.slice p2 l2 k2,.int .i64 x.Bm,.int .i64 x.Bi]):(SlR w S x.Ap p0 k0∧l0=(x.Ap).length)∧(SlR w S x.Am p1 k1∧l1=(x.Am).length)∧(SlR w S x.Az p2 k2∧l2=(x.Az).length):=by
 obtain ⟨q0,j0,q1,j1,q2,j2,he,s0,s1,s2⟩:=qE h
 cases he
 exact ⟨⟨s0,rfl⟩,⟨s1,rfl⟩,⟨s2,rfl⟩⟩
theorem qjL {w0:World} {L:List Ch} (x:qk) {I0 I1 I2 I3 I4 I5 I6:List Nat} {c0 c1 c2 c3 c4 c5 c6:List Value} (h:SH w0 w L) (h0:PO w L I0 x.Ar c0) (h1:PO w L I1 x.Aq c1) (h2:PO w L I2 x.Ap c2) (h3:PO w L I3 x.Am c3) (h4:PO w L I4 x.Az c4) (h5:PO w L I5 x.Bm c5) (h6:PO w L I6 x.Bi c6) (b0:apartB I0 (I1++(I2++(I3++(I4++(I5++I6)))))=true) (b1:apartB I1 (I2++(I3++(I4++(I5++I6))))=true) (b2:apartB I2 (I3++(I4++(I5++I6)))=true) (b3:apartB I3 (I4++(I5++I6))=true) (b4:apartB I4 (I5++I6)=true) (b5:apartB I5 I6=true):PO w L (I0++(I1++(I2++(I3++(I4++(I5++I6)))))) x (c0++(c1++(c2++(c3++(c4++(c5++c6)))))) :=
 (qbV h h0 (qbV h h1 (qbV h h2 (qbV h h3 (qbV h h4 (qbV h h5 h6 b5) b4) b3) b2) b1) b0)
structure qi where
 Ak:(List qk)
instance gt_TLibrary:GoT qi:=isoT (@instList qk gt_TCell) (fun x=>x.Ak) ⟨[]⟩ rfl true (fun h=>by cases h)
theorem qbg {x:qi} {cs:List Value} (h:GoT.R w S x cs):∃ p0 k0,cs=[.slice p0 (x.Ak).length k0]∧SlR w S x.Ak p0 k0:=by
 obtain ⟨p0,k0,rfl,s0⟩:=h
 exact ⟨p0,k0,rfl,s0⟩
theorem qdU (x:qi) {p0:Option Addr} {k0:Nat} (s0:SlR w S x.Ak p0 k0):GoT.R w S x [.slice p0 (x.Ak).length k0]:=have h:=rS s0;h
theorem qfl {x:qi} {p0:Option Addr} {l0 k0:Nat} (h:GoT.R w S x [.slice p0 l0 k0]):(SlR w S x.Ak p0 k0∧l0=(x.Ak).length):=by
 obtain ⟨q0,j0,he,s0⟩:=qbg h
 cases he
 exact ⟨s0,rfl⟩
theorem qlP {w0:World} {L:List Ch} (x:qi) {I0:List Nat} {c0:List Value} (_:SH w0 w L) (h0:PO w L I0 x.Ak c0):PO w L I0 x c0 :=
 h0
structure ql where
 Ar:ByteArray
 Av:Int
 Ai:(List Int)
instance gt_TInstance:GoT ql:=isoT (pairT instStr (pairT instInt (@instList Int instInt))) (fun x=>(x.Ar,x.Av,x.Ai)) ⟨ByteArray.empty,0,[]⟩ rfl true (fun h=>by cases h)
abbrev qfS (x:ql) (p0:Option Addr) (k0:Nat):List Value:=[.string x.Ar,.int .i64 x.Av,.slice p0 (x.Ai).length k0]
theorem qai {x:ql} {cs:List Value} (h:GoT.R w S x cs):∃ p0 k0,cs=(qfS x p0 k0)∧SlR w S x.Ai p0 k0:=by
 obtain ⟨_,_,rfl,rfl,⟨_,_,rfl,rfl,⟨p0,k0,rfl,s0⟩⟩⟩:=h
 exact ⟨p0,k0,rfl,s0⟩
theorem qik (x:ql) {p0:Option Addr} {k0:Nat} (s0:SlR w S x.Ai p0 k0):GoT.R w S x (qfS x p0 k0):=have h:=pR (rT x.Ar) (pR (rI x.Av) (rS s0));h
theorem qjr {w0:World} {L:List Ch} {x:ql} {p0:Option Addr} {l0 k0:Nat} (h:SH w0 w (Ch.own S x [.string x.Ar,.int .i64 x.Av,.slice p0 l0 k0]::L)):∃ S0,SH w0 w (Ch.own S0 x.Ai [.slice p0 l0 k0]::L):=by
 obtain ⟨hv,ho⟩:=h.headV
 replace ho:GoT.O w S x _:=ho
 obtain ⟨A0,B0,d0,e0,he,o0,ho,a0,b0⟩:=ho
 obtain rfl:=o0
 cases he
 replace hv:=hv.less b0
 obtain ⟨A1,B1,d1,e1,he,o1,ho,a1,b1⟩:=ho
 obtain rfl:=o1
 cases he
 replace hv:=hv.less b1
 obtain ⟨q,m,he,s0⟩:=ho
 cases he
 replace hv:=hv.push (c:=Ch.own B1 x.Ai [_]) (S2:=(fun _=>False)) ⟨_,_,rfl,s0⟩ (fun _ hd=>hd.elim) (fun b hb=>⟨hb,fun h=>h⟩) (fun _ h=>h.elim)
 exact ⟨B1,hv.sh⟩
theorem qix {w0:World} {L:List Ch} (x:ql) {I0 I1 I2:List Nat} {c0 c1 c2:List Value} (h:SH w0 w L) (h0:PO w L I0 x.Ar c0) (h1:PO w L I1 x.Av c1) (h2:PO w L I2 x.Ai c2) (b0:apartB I0 (I1++I2)=true) (b1:apartB I1 I2=true):PO w L (I0++(I1++I2)) x (c0++(c1++c2)) :=
 (qbV h h0 (qbV h h1 h2 b1) b0)
structure qv where
 Ar:ByteArray
 Bj:Int
 Bl:Int
instance gt_TPort:GoT qv:=isoT (pairT instStr (pairT instInt instInt)) (fun x=>(x.Ar,x.Bj,x.Bl)) ⟨ByteArray.empty,0,0⟩ rfl true (fun h=>by cases h)
instance fl_TPort:Flat qv:=qfV (pairT instStr (pairT instInt instInt)) (fun x:qv=>(x.Ar,x.Bj,x.Bl)) ⟨ByteArray.empty,0,0⟩ rfl true (fun h=>by cases h) (qba _ _ (inferInstanceAs (Flat ByteArray)) (qba _ _ (inferInstanceAs (Flat Int)) (inferInstanceAs (Flat Int))))
abbrev qk5 (x:qv):List Value:=[.string x.Ar,.int .i64 x.Bj,.int .i64 x.Bl]
theorem qcV {x:qv} {cs:List Value} (h:GoT.R w S x cs):cs=(qk5 x):=by
 obtain ⟨_,_,rfl,rfl,⟨_,_,rfl,rfl,rfl⟩⟩:=h
 exact rfl
theorem qfv (x:qv):GoT.R w S x (qk5 x):=have h:=pR (rT x.Ar) (pR (rI x.Bj) (rI x.Bl));h
structure qc where
 Ab:(List ql)
 Ai:(List ByteArray)
 Af:(List qv)
instance gt_TDesign:GoT qc:=isoT (pairT (@instList ql gt_TInstance) (pairT (@instList ByteArray instStr) (@instList qv gt_TPort))) (fun x=>(x.Ab,x.Ai,x.Af)) ⟨[],[],[]⟩ rfl true (fun h=>by cases h)
abbrev qaa (x:qc) (p0 p1 p2:Option Addr) (k0 k1 k2:Nat):List Value:=[.slice p0 (x.Ab).length k0,.slice p1 (x.Ai).length k1,.slice p2 (x.Af).length k2]
theorem qak {x:qc} {cs:List Value} (h:GoT.R w S x cs):∃ p0 k0 p1 k1 p2 k2,cs=(qaa x p0 p1 p2 k0 k1 k2)∧SlR w S x.Ab p0 k0∧SlR w S x.Ai p1 k1∧SlR w S x.Af p2 k2:=by
 obtain ⟨_,_,rfl,⟨p0,k0,rfl,s0⟩,⟨_,_,rfl,⟨p1,k1,rfl,s1⟩,⟨p2,k2,rfl,s2⟩⟩⟩:=h
 exact ⟨p0,k0,p1,k1,p2,k2,rfl,s0,s1,s2⟩
theorem qaL (x:qc) {p0 p1 p2:Option Addr} {k0 k1 k2:Nat} (s0:SlR w S x.Ab p0 k0) (s1:SlR w S x.Ai p1 k1) (s2:SlR w S x.Af p2 k2):GoT.R w S x (qaa x p0 p1 p2 k0 k1 k2):=have h:=pR (rS s0) (pR (rS s1) (rS s2));h
theorem qbN {x:qc} {p0 p1 p2:Option Addr} {l0 k0 l1 k1 l2 k2:Nat} (h:GoT.R w S x [.slice p0 l0 k0,.slice p1 l1 k1,.slice p2 l2 k2]):(SlR w S x.Ab p0 k0∧l0=(x.Ab).length)∧(SlR w S x.Ai p1 k1∧l1=(x.Ai).length)∧(SlR w S x.Af p2 k2∧l2=(x.Af).length):=by
 obtain ⟨q0,j0,q1,j1,q2,j2,he,s0,s1,s2⟩:=qak h
 cases he
 exact ⟨⟨s0,rfl⟩,⟨s1,rfl⟩,⟨s2,rfl⟩⟩
theorem qkk {w0:World} {L:List Ch} {x:qc} {p0 p1 p2:Option Addr} {l0 k0 l1 k1 l2 k2:Nat} (h:SH w0 w (Ch.own S x [.slice p0 l0 k0,.slice p1 l1 k1,.slice p2 l2 k2]::L)):∃ S0 S1 S2,SH w0 w (Ch.own S2 x.Af [.slice p2 l2 k2]::Ch.own S1 x.Ai [.slice p1 l1 k1]::Ch.own S0 x.Ab [.slice p0 l0 k0]::L):=by
 obtain ⟨hv,ho⟩:=h.headV
 replace ho:GoT.O w S x _:=ho
 obtain ⟨A0,B0,d0,e0,he,o0,ho,a0,b0⟩:=ho
 obtain ⟨q,m,rfl,s0⟩:=o0
 cases he
 replace hv:=hv.push (c:=Ch.own A0 x.Ab [_]) (S2:=B0) ⟨_,_,rfl,s0⟩ (fun _ hd=>hd.elim) a0 b0
 obtain ⟨A1,B1,d1,e1,he,o1,ho,a1,b1⟩:=ho
 obtain ⟨q,m,rfl,s1⟩:=o1
 cases he
 replace hv:=hv.push (c:=Ch.own A1 x.Ai [_]) (S2:=B1) ⟨_,_,rfl,s1⟩ (fun _ hd=>hd.elim) a1 b1
 obtain ⟨q,m,he,s2⟩:=ho
 cases he
 replace hv:=hv.push (c:=Ch.own B1 x.Af [_]) (S2:=(fun _=>False)) ⟨_,_,rfl,s2⟩ (fun _ hd=>hd.elim) (fun b hb=>⟨hb,fun h=>h⟩) (fun _ h=>h.elim)
 exact ⟨A0,A1,B1,hv.sh⟩
theorem qjP {w0:World} {L:List Ch} (x:qc) {I0 I1 I2:List Nat} {c0 c1 c2:List Value} (h:SH w0 w L) (h0:PO w L I0 x.Ab c0) (h1:PO w L I1 x.Ai c1) (h2:PO w L I2 x.Af c2) (b0:apartB I0 (I1++I2)=true) (b1:apartB I1 I2=true):PO w L (I0++(I1++I2)) x (c0++(c1++c2)) :=
 (qbV h h0 (qbV h h1 h2 b1) b0)
structure qK where
 Aj:(List Int)
 Bc:(List Int)
 Bb:(List Int)
 As:(List Int)
instance gt_TWire:GoT qK:=isoT (pairT (@instList Int instInt) (pairT (@instList Int instInt) (pairT (@instList Int instInt) (@instList Int instInt)))) (fun x=>(x.Aj,x.Bc,x.Bb,x.As)) ⟨[],[],[],[]⟩ rfl true (fun h=>by cases h)
abbrev qef (x:qK) (p0 p1 p2 p3:Option Addr) (k0 k1 k2 k3:Nat):List Value:=[.slice p0 (x.Aj).length k0,.slice p1 (x.Bc).length k1,.slice p2 (x.Bb).length k2,.slice p3 (x.As).length k3]
theorem qbt {x:qK} {cs:List Value} (h:GoT.R w S x cs):∃ p0 k0 p1 k1 p2 k2 p3 k3,cs=(qef x p0 p1 p2 p3 k0 k1 k2 k3)∧SlR w S x.Aj p0 k0∧SlR w S x.Bc p1 k1∧SlR w S x.Bb p2 k2∧SlR w S x.As p3 k3:=by
 obtain ⟨_,_,rfl,⟨p0,k0,rfl,s0⟩,⟨_,_,rfl,⟨p1,k1,rfl,s1⟩,⟨_,_,rfl,⟨p2,k2,rfl,s2⟩,⟨p3,k3,rfl,s3⟩⟩⟩⟩:=h
 exact ⟨p0,k0,p1,k1,p2,k2,p3,k3,rfl,s0,s1,s2,s3⟩
theorem qkr (x:qK) {p0 p1 p2 p3:Option Addr} {k0 k1 k2 k3:Nat} (s0:SlR w S x.Aj p0 k0) (s1:SlR w S x.Bc p1 k1) (s2:SlR w S x.Bb p2 k2) (s3:SlR w S x.As p3 k3):GoT.R w S x (qef x p0 p1 p2 p3 k0 k1 k2 k3):=have h:=pR (rS s0) (pR (rS s1) (pR (rS s2) (rS s3)));h
theorem qfP {w0:World} {L:List Ch} {x:qK} {p0 p1 p2 p3:Option Addr} {l0 k0 l1 k1 l2 k2 l3 k3:Nat} (h:SH w0 w (Ch.own S x [.slice p0 l0 k0,.slice p1 l1 k1,.slice p2 l2 k2,.slice p3 l3 k3]::L)):∃ S0 S1 S2 S3,SH w0 w (Ch.own S3 x.As [.slice p3 l3 k3]::Ch.own S2 x.Bb [.slice p2 l2 k2]::Ch.own S1 x.Bc [.slice p1 l1 k1]::Ch.own S0 x.Aj [.slice p0 l0 k0]::L):=by
 obtain ⟨hv,ho⟩:=h.headV
 replace ho:GoT.O w S x _:=ho
 obtain ⟨A0,B0,d0,e0,he,o0,ho,a0,b0⟩:=ho
 obtain ⟨q,m,rfl,s0⟩:=o0
 cases he
 replace hv:=hv.push (c:=Ch.own A0 x.Aj [_]) (S2:=B0) ⟨_,_,rfl,s0⟩ (fun _ hd=>hd.elim) a0 b0
 obtain ⟨A1,B1,d1,e1,he,o1,ho,a1,b1⟩:=ho
 obtain ⟨q,m,rfl,s1⟩:=o1
 cases he
 replace hv:=hv.push (c:=Ch.own A1 x.Bc [_]) (S2:=B1) ⟨_,_,rfl,s1⟩ (fun _ hd=>hd.elim) a1 b1
 obtain ⟨A2,B2,d2,e2,he,o2,ho,a2,b2⟩:=ho
 obtain ⟨q,m,rfl,s2⟩:=o2
 cases he
 replace hv:=hv.push (c:=Ch.own A2 x.Bb [_]) (S2:=B2) ⟨_,_,rfl,s2⟩ (fun _ hd=>hd.elim) a2 b2
 obtain ⟨q,m,he,s3⟩:=ho
 cases he
 replace hv:=hv.push (c:=Ch.own B2 x.As [_]) (S2:=(fun _=>False)) ⟨_,_,rfl,s3⟩ (fun _ hd=>hd.elim) (fun b hb=>⟨hb,fun h=>h⟩) (fun _ h=>h.elim)
 exact ⟨A0,A1,A2,B2,hv.sh⟩
theorem qgP {w0:World} {L:List Ch} (x:qK) {I0 I1 I2 I3:List Nat} {c0 c1 c2 c3:List Value} (h:SH w0 w L) (h0:PO w L I0 x.Aj c0) (h1:PO w L I1 x.Bc c1) (h2:PO w L I2 x.Bb c2) (h3:PO w L I3 x.As c3) (b0:apartB I0 (I1++(I2++I3))=true) (b1:apartB I1 (I2++I3)=true) (b2:apartB I2 I3=true):PO w L (I0++(I1++(I2++I3))) x (c0++(c1++(c2++c3))) :=
 (qbV h h0 (qbV h h1 (qbV h h2 h3 b2) b1) b0)
structure qd where
 Ac:qi
 Aa:qc
 Ah:(List qK)
instance gt_TBlock:GoT qd:=isoT (pairT gt_TLibrary (pairT gt_TDesign (@instList qK gt_TWire))) (fun x=>(x.Ac,x.Aa,x.Ah)) ⟨(⟨[]⟩:qi),(⟨[],[],[]⟩:qc),[]⟩ rfl true (fun h=>by cases h)
abbrev qT (x:qd) (p0 p1 p2 p3 p4:Option Addr) (k0 k1 k2 k3 k4:Nat):List Value:=[.slice p0 (x.Ac.Ak).length k0,.slice p1 (x.Aa.Ab).length k1,.slice p2 (x.Aa.Ai).length k2,.slice p3 (x.Aa.Af).length k3,.slice p4 (x.Ah).length k4]
theorem qP {x:qd} {cs:List Value} (h:GoT.R w S x cs):∃ p0 k0 p1 k1 p2 k2 p3 k3 p4 k4,cs=(qT x p0 p1 p2 p3 p4 k0 k1 k2 k3 k4)∧SlR w S x.Ac.Ak p0 k0∧SlR w S x.Aa.Ab p1 k1∧SlR w S x.Aa.Ai p2 k2∧SlR w S x.Aa.Af p3 k3∧SlR w S x.Ah p4 k4:=by
 obtain ⟨_,_,rfl,⟨p0,k0,rfl,s0⟩,⟨_,_,rfl,⟨_,_,rfl,⟨p1,k1,rfl,s1⟩,⟨_,_,rfl,⟨p2,k2,rfl,s2⟩,⟨p3,k3,rfl,s3⟩⟩⟩,⟨p4,k4,rfl,s4⟩⟩⟩:=h
 exact ⟨p0,k0,p1,k1,p2,k2,p3,k3,p4,k4,rfl,s0,s1,s2,s3,s4⟩
theorem qit (x:qd) {p0 p1 p2 p3 p4:Option Addr} {k0 k1 k2 k3 k4:Nat} (s0:SlR w S x.Ac.Ak p0 k0) (s1:SlR w S x.Aa.Ab p1 k1) (s2:SlR w S x.Aa.Ai p2 k2) (s3:SlR w S x.Aa.Af p3 k3) (s4:SlR w S x.Ah p4 k4):GoT.R w S x (qT x p0 p1 p2 p3 p4 k0 k1 k2 k3 k4):=have h:=pR (qdU x.Ac s0) (pR (qaL x.Aa s1 s2 s3) (rS s4));h
theorem qdq {x:qd} {p0 p1 p2 p3 p4:Option Addr} {l0 k0 l1 k1 l2 k2 l3 k3 l4 k4:Nat} (h:GoT.R w S x [.slice p0 l0 k0,.slice p1 l1 k1,.slice p2 l2 k2,.slice p3 l3 k3,.slice p4 l4 k4]):(SlR w S x.Ac.Ak p0 k0∧l0=(x.Ac.Ak).length)∧(SlR w S x.Aa.Ab p1 k1∧l1=(x.Aa.Ab).length)∧(SlR w S x.Aa.Ai p2 k2∧l2=(x.Aa.Ai).length)∧(SlR w S x.Aa.Af p3 k3∧l3=(x.Aa.Af).length)∧(SlR w S x.Ah p4 k4∧l4=(x.Ah).length):=by
 obtain ⟨q0,j0,q1,j1,q2,j2,q3,j3,q4,j4,he,s0,s1,s2,s3,s4⟩:=qP h
 cases he
 exact ⟨⟨s0,rfl⟩,⟨s1,rfl⟩,⟨s2,rfl⟩,⟨s3,rfl⟩,⟨s4,rfl⟩⟩
theorem qeL {w0:World} {L:List Ch} {x:qd} {p0 p1 p2 p3 p4:Option Addr} {l0 k0 l1 k1 l2 k2 l3 k3 l4 k4:Nat} (h:SH w0 w (Ch.own S x [.slice p0 l0 k0,.slice p1 l1 k1,.slice p2 l2 k2,.slice p3 l3 k3,.slice p4 l4 k4]::L)):∃ S0 S1 S2,SH w0 w (Ch.own S2 x.Ah [.slice p4 l4 k4]::Ch.own S1 x.Aa [.slice p1 l1 k1,.slice p2 l2 k2,.slice p3 l3 k3]::Ch.own S0 x.Ac [.slice p0 l0 k0]::L):=by
 obtain ⟨hv,ho⟩:=h.headV
 replace ho:GoT.O w S x _:=ho
 obtain ⟨A0,B0,d0,e0,he0,o0,ho,a0,b0⟩:=ho
 have hl0:d0.length=1:=GoT.len (GoT.toR o0)
 obtain ⟨rfl,rfl⟩:d0=[.slice p0 l0 k0]∧e0=[.slice p1 l1 k1,.slice p2 l2 k2,.slice p3 l3 k3,.slice p4 l4 k4]:=by
  have:=List.append_inj (show [.slice p0 l0 k0]++[.slice p1 l1 k1,.slice p2 l2 k2,.slice p3 l3 k3,.slice p4 l4 k4]=d0++e0 from he0) (by rw [hl0];rfl)
  exact ⟨this.1.symm,this.2.symm⟩
 replace hv:=hv.push (c:=Ch.own A0 x.Ac [.slice p0 l0 k0]) (S2:=B0) o0 (fun _ hd=>hd.elim) a0 b0
 obtain ⟨A1,B1,d1,e1,he1,o1,ho,a1,b1⟩:=ho
 have hl1:d1.length=3:=GoT.len (GoT.toR o1)
 obtain ⟨rfl,rfl⟩:d1=[.slice p1 l1 k1,.slice p2 l2 k2,.slice p3 l3 k3]∧e1=[.slice p4 l4 k4]:=by
  have:=List.append_inj (show [.slice p1 l1 k1,.slice p2 l2 k2,.slice p3 l3 k3]++[.slice p4 l4 k4]=d1++e1 from he1) (by rw [hl1];rfl)
  exact ⟨this.1.symm,this.2.symm⟩
 replace hv:=hv.push (c:=Ch.own A1 x.Aa [.slice p1 l1 k1,.slice p2 l2 k2,.slice p3 l3 k3]) (S2:=B1) o1 (fun _ hd=>hd.elim) a1 b1
 replace hv:=hv.push (c:=Ch.own B1 x.Ah [.slice p4 l4 k4]) (S2:=(fun _=>False)) ho (fun _ hd=>hd.elim) (fun b hb=>⟨hb,fun h=>h⟩) (fun _ h=>h.elim)
 exact ⟨A0,A1,B1,hv.sh⟩
theorem qmS {w0:World} {L:List Ch} (x:qd) {I0 I1 I2:List Nat} {c0 c1 c2:List Value} (h:SH w0 w L) (h0:PO w L I0 x.Ac c0) (h1:PO w L I1 x.Aa c1) (h2:PO w L I2 x.Ah c2) (b0:apartB I0 (I1++I2)=true) (b1:apartB I1 I2=true):PO w L (I0++(I1++I2)) x (c0++(c1++c2)) :=
 (qbV h h0 (qbV h h1 h2 b1) b0)
structure qhe where
 Aq:Int
 Bu:Int
 Ay:(List Int)
 Br:(List Int)
 To:(List Int)
instance gt_TException:GoT qhe:=isoT (pairT instInt (pairT instInt (pairT (@instList Int instInt) (pairT (@instList Int instInt) (@instList Int instInt))))) (fun x=>(x.Aq,x.Bu,x.Ay,x.Br,x.To)) ⟨0,0,[],[],[]⟩ rfl true (fun h=>by cases h)
structure qkR where
 Bv:Bool
 Bt:Int
 Bo:Int
 Bq:Int
instance gt_TEffect:GoT qkR:=isoT (pairT instBool (pairT instInt (pairT instInt instInt))) (fun x=>(x.Bv,x.Bt,x.Bo,x.Bq)) ⟨false,0,0,0⟩ rfl true (fun h=>by cases h)
instance fl_TEffect:Flat qkR:=qfV (pairT instBool (pairT instInt (pairT instInt instInt))) (fun x:qkR=>(x.Bv,x.Bt,x.Bo,x.Bq)) ⟨false,0,0,0⟩ rfl true (fun h=>by cases h) (qba _ _ (inferInstanceAs (Flat Bool)) (qba _ _ (inferInstanceAs (Flat Int)) (qba _ _ (inferInstanceAs (Flat Int)) (inferInstanceAs (Flat Int)))))
structure Tl01Source where
 code:(List (IntK .u8))
 at_:Int
 seed:Int
instance gt_Tl01Source:GoT Tl01Source:=isoT (pairT (@instList (IntK .u8) (@gt_IntK .u8)) (pairT instInt instInt)) (fun x=>(x.code,x.at_,x.seed)) ⟨[],0,0⟩ rfl true (fun h=>by cases h)
abbrev qg (x:Tl01Source) (p0:Option Addr) (k0:Nat):List Value:=[.slice p0 (x.code).length k0,.int .i64 x.at_,.int .i64 x.seed]
theorem qjx {x:Tl01Source} {cs:List Value} (h:GoT.R w S x cs):∃ p0 k0,cs=(qg x p0 k0)∧SlR w S x.code p0 k0:=by
 obtain ⟨_,_,rfl,⟨p0,k0,rfl,s0⟩,⟨_,_,rfl,rfl,rfl⟩⟩:=h
 exact ⟨p0,k0,rfl,s0⟩
theorem qhL (x:Tl01Source) {p0:Option Addr} {k0:Nat} (s0:SlR w S x.code p0 k0):GoT.R w S x (qg x p0 k0):=have h:=pR (rS s0) (pR (rI x.at_) (rI x.seed));h
theorem qf {x:Tl01Source} {p0:Option Addr} {l0 k0:Nat} (h:GoT.R w S x [.slice p0 l0 k0,.int .i64 x.at_,.int .i64 x.seed]):(SlR w S x.code p0 k0∧l0=(x.code).length):=by
 obtain ⟨q0,j0,he,s0⟩:=qjx h
 cases he
 exact ⟨s0,rfl⟩
structure Tl05Place where
 instance_:Int
 pin:Int
 net:Int
 drives:Bool
instance gt_Tl05Place:GoT Tl05Place:=isoT (pairT instInt (pairT instInt (pairT instInt instBool))) (fun x=>(x.instance_,x.pin,x.net,x.drives)) ⟨0,0,0,false⟩ rfl true (fun h=>by cases h)
instance fl_Tl05Place:Flat Tl05Place:=qfV (pairT instInt (pairT instInt (pairT instInt instBool))) (fun x:Tl05Place=>(x.instance_,x.pin,x.net,x.drives)) ⟨0,0,0,false⟩ rfl true (fun h=>by cases h) (qba _ _ (inferInstanceAs (Flat Int)) (qba _ _ (inferInstanceAs (Flat Int)) (qba _ _ (inferInstanceAs (Flat Int)) (inferInstanceAs (Flat Bool)))))
abbrev qfR (x:Tl05Place):List Value:=[.int .i64 x.instance_,.int .i64 x.pin,.int .i64 x.net,.bool x.drives]
theorem qbh {x:Tl05Place} {cs:List Value} (h:GoT.R w S x cs):cs=(qfR x):=by
 obtain ⟨_,_,rfl,rfl,⟨_,_,rfl,rfl,⟨_,_,rfl,rfl,rfl⟩⟩⟩:=h
 exact rfl
theorem qeJ (x:Tl05Place):GoT.R w S x (qfR x):=have h:=pR (rI x.instance_) (pR (rI x.pin) (pR (rI x.net) (rB x.drives)));h
structure Tplace where
 instance_:Int
 pin:Int
 net:Int
 drives:Bool
instance gt_Tplace:GoT Tplace:=isoT (pairT instInt (pairT instInt (pairT instInt instBool))) (fun x=>(x.instance_,x.pin,x.net,x.drives)) ⟨0,0,0,false⟩ rfl true (fun h=>by cases h)
instance fl_Tplace:Flat Tplace:=qfV (pairT instInt (pairT instInt (pairT instInt instBool))) (fun x:Tplace=>(x.instance_,x.pin,x.net,x.drives)) ⟨0,0,0,false⟩ rfl true (fun h=>by cases h) (qba _ _ (inferInstanceAs (Flat Int)) (qba _ _ (inferInstanceAs (Flat Int)) (qba _ _ (inferInstanceAs (Flat Int)) (inferInstanceAs (Flat Bool)))))
abbrev qhI (x:Tplace):List Value:=[.int .i64 x.instance_,.int .i64 x.pin,.int .i64 x.net,.bool x.drives]
theorem qaA {x:Tplace} {cs:List Value} (h:GoT.R w S x cs):cs=(qhI x):=by
 obtain ⟨_,_,rfl,rfl,⟨_,_,rfl,rfl,⟨_,_,rfl,rfl,rfl⟩⟩⟩:=h
 exact rfl
theorem qel (x:Tplace):GoT.R w S x (qhI x):=have h:=pR (rI x.instance_) (pR (rI x.pin) (pR (rI x.net) (rB x.drives)));h
structure qaD where
 Ay:Int
 To:Int
 Aq:Int
 Bp:Int
instance gt_TLink:GoT qaD:=isoT (pairT instInt (pairT instInt (pairT instInt instInt))) (fun x=>(x.Ay,x.To,x.Aq,x.Bp)) ⟨0,0,0,0⟩ rfl true (fun h=>by cases h)
instance fl_TLink:Flat qaD:=qfV (pairT instInt (pairT instInt (pairT instInt instInt))) (fun x:qaD=>(x.Ay,x.To,x.Aq,x.Bp)) ⟨0,0,0,0⟩ rfl true (fun h=>by cases h) (qba _ _ (inferInstanceAs (Flat Int)) (qba _ _ (inferInstanceAs (Flat Int)) (qba _ _ (inferInstanceAs (Flat Int)) (inferInstanceAs (Flat Int)))))
abbrev qnA (x:qaD):List Value:=[.int .i64 x.Ay,.int .i64 x.To,.int .i64 x.Aq,.int .i64 x.Bp]
theorem qkH (x:qaD):GoT.R w S x (qnA x):=have h:=pR (rI x.Ay) (pR (rI x.To) (pR (rI x.Aq) (rI x.Bp)));h
structure Tview where
 Bd:qd
 places:(List Tplace)
 links:(List qaD)
 loads:(List Int)
 delays:(List (List Int))
 extras:(List Int)
instance gt_Tview:GoT Tview:=isoT (pairT gt_TBlock (pairT (@instList Tplace gt_Tplace) (pairT (@instList qaD gt_TLink) (pairT (@instList Int instInt) (pairT (@instList (List Int) (@instList Int instInt)) (@instList Int instInt)))))) (fun x=>(x.Bd,x.places,x.links,x.loads,x.delays,x.extras)) ⟨(⟨(⟨[]⟩:qi),(⟨[],[],[]⟩:qc),[]⟩:qd),[],[],[],[],[]⟩ rfl true (fun h=>by cases h)
abbrev qnC (x:Tview) (p0 p1 p2 p3 p4 p5 p6 p7 p8 p9:Option Addr) (k0 k1 k2 k3 k4 k5 k6 k7 k8 k9:Nat):List Value:=[.slice p0 (x.Bd.Ac.Ak).length k0,.slice p1 (x.Bd.Aa.Ab).length k1,.slice p2 (x.Bd.Aa.Ai).length k2,.slice p3 (x.Bd.Aa.Af).length k3,.slice p4 (x.Bd.Ah).length k4,.slice p5 (x.places).length k5,.slice p6 (x.links).length k6,.slice p7 (x.loads).length k7,.slice p8 (x.delays).length k8,.slice p9 (x.extras).length k9]
theorem qeV {x:Tview} {cs:List Value} (h:GoT.R w S x cs):∃ p0 k0 p1 k1 p2 k2 p3 k3 p4 k4 p5 k5 p6 k6 p7 k7 p8 k8 p9 k9,cs=(qnC x p0 p1 p2 p3 p4 p5 p6 p7 p8 p9 k0 k1 k2 k3 k4 k5 k6 k7 k8 k9)∧SlR w S x.Bd.Ac.Ak p0 k0∧SlR w S x.Bd.Aa.Ab p1 k1∧SlR w S x.Bd.Aa.Ai p2 k2∧SlR w S x.Bd.Aa.Af p3 k3∧SlR w S x.Bd.Ah p4 k4∧SlR w S x.places p5 k5∧SlR w S x.links p6 k6∧SlR w S x.loads p7 k7∧SlR w S x.delays p8 k8∧SlR w S x.extras p9 k9:=by
 obtain ⟨_,_,rfl,⟨_,_,rfl,⟨p0,k0,rfl,s0⟩,⟨_,_,rfl,⟨_,_,rfl,⟨p1,k1,rfl,s1⟩,⟨_,_,rfl,⟨p2,k2,rfl,s2⟩,⟨p3,k3,rfl,s3⟩⟩⟩,⟨p4,k4,rfl,s4⟩⟩⟩,⟨_,_,rfl,⟨p5,k5,rfl,s5⟩,⟨_,_,rfl,⟨p6,k6,rfl,s6⟩,⟨_,_,rfl,⟨p7,k7,rfl,s7⟩,⟨_,_,rfl,⟨p8,k8,rfl,s8⟩,⟨p9,k9,rfl,s9⟩⟩⟩⟩⟩⟩:=h
 exact ⟨p0,k0,p1,k1,p2,k2,p3,k3,p4,k4,p5,k5,p6,k6,p7,k7,p8,k8,p9,k9,rfl,s0,s1,s2,s3,s4,s5,s6,s7,s8,s9⟩
structure qI where
 e0:Int
 e1:Int
instance gt_TA2_Int:GoT qI:=isoT (pairT instInt instInt) (fun x=>(x.e0,x.e1)) ⟨0,0⟩ rfl true (fun h=>by cases h)
instance fl_TA2_Int:Flat qI:=qfV (pairT instInt instInt) (fun x:qI=>(x.e0,x.e1)) ⟨0,0⟩ rfl true (fun h=>by cases h) (qba _ _ (inferInstanceAs (Flat Int)) (inferInstanceAs (Flat Int)))
abbrev qkp (x:qI):List Value:=[.int .i64 x.e0,.int .i64 x.e1]
theorem qk8 {x:qI} {cs:List Value} (h:GoT.R w S x cs):cs=(qkp x):=by
 obtain ⟨_,_,rfl,rfl,rfl⟩:=h
 exact rfl
theorem qbO (x:qI):GoT.R w S x (qkp x):=have h:=pR (rI x.e0) (rI x.e1);h
structure qf3 where
 Bn:Int
 Bs:Int
instance gt_TSpan:GoT qf3:=isoT (pairT instInt instInt) (fun x=>(x.Bn,x.Bs)) ⟨0,0⟩ rfl true (fun h=>by cases h)
instance fl_TSpan:Flat qf3:=qfV (pairT instInt instInt) (fun x:qf3=>(x.Bn,x.Bs)) ⟨0,0⟩ rfl true (fun h=>by cases h) (qba _ _ (inferInstanceAs (Flat Int)) (inferInstanceAs (Flat Int)))
abbrev qms (x:qf3):List Value:=[.int .i64 x.Bn,.int .i64 x.Bs]
theorem ql3 {x:qf3} {cs:List Value} (h:GoT.R w S x cs):cs=(qms x):=by
 obtain ⟨_,_,rfl,rfl,rfl⟩:=h
 exact rfl
theorem qkz (x:qf3):GoT.R w S x (qms x):=have h:=pR (rI x.Bn) (rI x.Bs);h
def tab:Tab:=[
 (2,⟨.int .i64,1,8,some (.int .i64 0),[]⟩),
 (3,⟨.int .i64,1,8,some (.int .i64 0),[]⟩),
 (4,⟨.bool,1,1,some (.bool false),[]⟩),
 (5,⟨.int .u8,1,1,some (.int .u8 0),[]⟩),
 (9,⟨.str,1,16,some (.string ByteArray.empty),[]⟩),
 (22,⟨.slice 5,1,24,some (.slice none 0 0),[]⟩),
 (24,⟨.slice 128,1,24,some (.slice none 0 0),[]⟩),
 (26,⟨.struct,1,24,some (.agg #[.slice none 0 0]),[(0,1,some false)]⟩),
 (27,⟨.slice 111,1,24,some (.slice none 0 0),[]⟩),
 (28,⟨.slice 9,1,24,some (.slice none 0 0),[]⟩),
 (29,⟨.slice 115,1,24,some (.slice none 0 0),[]⟩),
 (31,⟨.struct,3,72,some (.agg #[.slice none 0 0,.slice none 0 0,.slice none 0 0]),[(0,1,some false),(1,1,some false),(2,1,some false)]⟩),
 (32,⟨.slice 118,1,24,some (.slice none 0 0),[]⟩),
 (34,⟨.struct,5,120,some (.agg #[.slice none 0 0,.slice none 0 0,.slice none 0 0,.slice none 0 0,.slice none 0 0]),[(0,1,some true),(1,3,some true),(4,1,some false)]⟩),
 (37,⟨.slice 2,1,24,some (.slice none 0 0),[]⟩),
 (42,⟨.slice 59,1,24,some (.slice none 0 0),[]⟩),
 (55,⟨.struct,4,32,some (.agg #[.bool false,.int .i64 0,.int .i64 0,.int .i64 0]),[(0,1,some false),(1,1,some false),(2,1,some false),(3,1,some false)]⟩),
 (59,⟨.struct,5,88,some (.agg #[.int .i64 0,.int .i64 0,.slice none 0 0,.slice none 0 0,.slice none 0 0]),[(0,1,some false),(1,1,some false),(2,1,some false),(3,1,some false),(4,1,some false)]⟩),
 (61,⟨.ptr,1,8,some (.pointer none),[]⟩),
 (65,⟨.slice 113,1,24,some (.slice none 0 0),[]⟩),
 (67,⟨.ptr,1,8,some (.pointer none),[]⟩),
 (89,⟨.slice 95,1,24,some (.slice none 0 0),[]⟩),
 (90,⟨.slice 123,1,24,some (.slice none 0 0),[]⟩),
 (91,⟨.slice 37,1,24,some (.slice none 0 0),[]⟩),
 (93,⟨.struct,10,240,some (.agg #[.slice none 0 0,.slice none 0 0,.slice none 0 0,.slice none 0 0,.slice none 0 0,.slice none 0 0,.slice none 0 0,.slice none 0 0,.slice none 0 0,.slice none 0 0]),[(0,5,some true),(5,1,some false),(6,1,some false),(7,1,some false),(8,1,some false),(9,1,some false)]⟩),
 (95,⟨.struct,4,32,some (.agg #[.int .i64 0,.int .i64 0,.int .i64 0,.bool false]),[(0,1,some false),(1,1,some false),(2,1,some false),(3,1,some false)]⟩),
 (102,⟨.slice 4,1,24,some (.slice none 0 0),[]⟩),
 (108,⟨.struct,3,40,some (.agg #[.slice none 0 0,.int .i64 0,.int .i64 0]),[(0,1,some false),(1,1,some false),(2,1,some false)]⟩),
 (111,⟨.struct,3,48,some (.agg #[.string ByteArray.empty,.int .i64 0,.slice none 0 0]),[(0,1,some false),(1,1,some false),(2,1,some false)]⟩),
 (113,⟨.struct,4,32,some (.agg #[.int .i64 0,.int .i64 0,.int .i64 0,.bool false]),[(0,1,some false),(1,1,some false),(2,1,some false),(3,1,some false)]⟩),
 (115,⟨.struct,3,32,some (.agg #[.string ByteArray.empty,.int .i64 0,.int .i64 0]),[(0,1,some false),(1,1,some false),(2,1,some false)]⟩),
 (118,⟨.struct,4,96,some (.agg #[.slice none 0 0,.slice none 0 0,.slice none 0 0,.slice none 0 0]),[(0,1,some false),(1,1,some false),(2,1,some false),(3,1,some false)]⟩),
 (123,⟨.struct,4,32,some (.agg #[.int .i64 0,.int .i64 0,.int .i64 0,.int .i64 0]),[(0,1,some false),(1,1,some false),(2,1,some false),(3,1,some false)]⟩),
 (125,⟨.slice 171,1,24,some (.slice none 0 0),[]⟩),
 (126,⟨.slice 133,1,24,some (.slice none 0 0),[]⟩),
 (128,⟨.struct,7,112,some (.agg #[.string ByteArray.empty,.int .i64 0,.slice none 0 0,.slice none 0 0,.slice none 0 0,.int .i64 0,.int .i64 0]),[(0,1,some false),(1,1,some false),(2,1,some false),(3,1,some false),(4,1,some false),(5,1,some false),(6,1,some false)]⟩),
 (131,⟨.slice 209,1,24,some (.slice none 0 0),[]⟩),
 (133,⟨.struct,6,80,some (.agg #[.int .i64 0,.int .i64 0,.int .i64 0,.int .i64 0,.slice none 0 0,.slice none 0 0]),[(0,1,some false),(1,1,some false),(2,1,some false),(3,1,some false),(4,1,some false),(5,1,some false)]⟩),
 (152,⟨.slice 3,1,24,some (.slice none 0 0),[]⟩),
 (166,⟨.slice 168,1,24,some (.slice none 0 0),[]⟩),
 (168,⟨.arr 2 2,2,16,some (.agg #[.int .i64 0,.int .i64 0]),[]⟩),
 (171,⟨.struct,4,40,some (.agg #[.string ByteArray.empty,.int .i64 0,.int .i64 0,.bool false]),[(0,1,some false),(1,1,some false),(2,1,some false),(3,1,some false)]⟩),
 (194,⟨.int .u64,1,8,some (.int .u64 0),[]⟩),
 (205,⟨.struct,2,16,some (.agg #[.int .i64 0,.int .i64 0]),[(0,1,some false),(1,1,some false)]⟩),
 (209,⟨.struct,3,72,some (.agg #[.slice none 0 0,.slice none 0 0,.slice none 0 0]),[(0,1,some false),(1,1,some false),(2,1,some false)]⟩)]
theorem qa:TabOk Tryz.prog tab:=TabOk.mk (by kernel_rfl)
theorem rp {n:Nat} {Q:Exit→Act→World→Prop} {k:List It} {e:Env} {w:World} {all:Array Oper} {l:List Oper} {op:Op} {d t:Nat} {ps:String} {af:Array Edge} {v:Value}
  (h:pev tab e op=some v) (hn:Nat.blt d n=true) (hk:Run Tryz.prog n Q (.ops all l::k) ((d,v)::e) w):Run Tryz.prog n Q (.ops all (⟨some d,op,t,ps,af,none⟩::l)::k) e w:=r_p qa h hn hk
theorem dp {n:Nat} {Q:Exit→Act→World→Prop} {k:List It} {e:Env} {w:World} {all:Array Oper} {l:List Oper} {op:Op} {d t:Nat} {ps:String} {af:Array Edge} {v:Value}
  (h:pev tab e op=some v) (hn:Nat.blt d n=true) (hk:RunD Tryz.prog n Q k all w l ((d,v)::e)):RunD Tryz.prog n Q k all w (⟨some d,op,t,ps,af,none⟩::l) e:=d_p qa h hn hk
section
variable {P:Program} {n:Nat} {Q:Exit→Act→World→Prop} {k:List It} {e:Env} {w:World}
theorem zSR {i4:Nat} {o5:List Oper} {x3:Code} (h:Run P n Q (.ops o5.toArray o5::.code x3::k) e w):Run P n Q (.code (.seq (.region i4 o5.toArray false) x3)::k) e w:=qeq <| qgW h
theorem zKSR {i5:Nat} {o6:List Oper} {x4:Code} (h:Run P n Q (.ops o6.toArray o6::.code x4::k) e w):Run P n Q (.code .skip::.code (.seq (.region i5 o6.toArray false) x4)::k) e w:=qf1 <| qeq <| qgW h
theorem zNSR {a1:Array Oper} {i5:Nat} {o6:List Oper} {x4:Code} (h:Run P n Q (.ops o6.toArray o6::.code x4::k) e w):Run P n Q (.ops a1 []::.code (.seq (.region i5 o6.toArray false) x4)::k) e w:=qbs <| qeq <| qgW h
theorem zKS {x3:Code} {x4:Code} (h:Run P n Q (.code x3::.code x4::k) e w):Run P n Q (.code .skip::.code (.seq x3 x4)::k) e w:=qf1 <| qeq h
theorem zNS {a1:Array Oper} {x3:Code} {x4:Code} (h:Run P n Q (.code x3::.code x4::k) e w):Run P n Q (.ops a1 []::.code (.seq x3 x4)::k) e w:=qbs <| qeq h
theorem zNSS {a1:Array Oper} {x5:Code} {x6:Code} {x4:Code} (h:Run P n Q (.code x5::.code x6::.code x4::k) e w):Run P n Q (.ops a1 []::.code (.seq (.seq x5 x6) x4)::k) e w:=qbs <| qeq <| qeq h
theorem zKSB {i5:Nat} {x6:Code} {x4:Code} (h:Run P n Q (.code x6::.blk i5::.code x4::k) e w):Run P n Q (.code .skip::.code (.seq (.block i5 x6) x4)::k) e w:=qf1 <| qeq <| qq h
theorem zKSBSR {i5:Nat} {i9:Nat} {o10:List Oper} {x8:Code} {x4:Code} (h:Run P n Q (.ops o10.toArray o10::.code x8::.blk i5::.code x4::k) e w):Run P n Q (.code .skip::.code (.seq (.block i5 (.seq (.region i9 o10.toArray false) x8)) x4)::k) e w:=qf1 <| qeq <| qq <| qeq <| qgW h
theorem zSS {x4:Code} {x5:Code} {x3:Code} (h:Run P n Q (.code x4::.code x5::.code x3::k) e w):Run P n Q (.code (.seq (.seq x4 x5) x3)::k) e w:=qeq <| qeq h
theorem zKSS {x5:Code} {x6:Code} {x4:Code} (h:Run P n Q (.code x5::.code x6::.code x4::k) e w):Run P n Q (.code .skip::.code (.seq (.seq x5 x6) x4)::k) e w:=qf1 <| qeq <| qeq h
end
section
variable {w0 w:World} {L:List Ch} {n:Nat} {Q:Exit→Act→World→Prop} {k k':List It} {e e':Env} {all:Array Oper} {l l':List Oper} {z:List Nat}
theorem X0 (m:Nat) (hh:xs tab n m [] k e [] []=some (k',e',z,z)) (hk:Run Tryz.prog n Q k' e' w):Run Tryz.prog n Q k e w:=((qlQ (P:=Tryz.prog) (Q:=Q) (w:=w) qa m _ _ _ _ _ _ _ _ _ (fun _ h=>by cases h) rfl hh).2 rfl).2 hk
theorem Y0 (m:Nat) (hh:xd tab n all m [] l e [] []=some (l',e',z,z)) (hk:RunD Tryz.prog n Q k all w l' e'):RunD Tryz.prog n Q k all w l e:=((qn5 (P:=Tryz.prog) (Q:=Q) (k:=k) (w:=w) (all:=all) qa m _ _ _ _ _ _ _ _ _ (fun _ h=>by cases h) rfl hh).2 rfl).2 hk
theorem X1 (m:Nat) (i0:Nat) {b0 t0:Nat} {cs0:List Value} (h:SH w0 w L) (hh:(L[i0]?,xs tab n m [(b0,cs0)] k e [] [])=(some (Ch.box b0 cs0 t0),some (k',e',z,z))) (hk:Run Tryz.prog n Q k' e' w):Run Tryz.prog n Q k e w:=by
 simp only [Prod.mk.injEq] at hh
 exact ((qlQ (P:=Tryz.prog) (Q:=Q) (w:=w) qa m _ _ _ _ _ _ _ _ _ (fun p hp=>by
  simp only [jH,jy,or_false] at hp
  rcases hp with rfl
  ·exact h.box i0 hh.1) rfl hh.2).2 rfl).2 hk
theorem Y1 (m:Nat) (i0:Nat) {b0 t0:Nat} {cs0:List Value} (h:SH w0 w L) (hh:(L[i0]?,xd tab n all m [(b0,cs0)] l e [] [])=(some (Ch.box b0 cs0 t0),some (l',e',z,z))) (hk:RunD Tryz.prog n Q k all w l' e'):RunD Tryz.prog n Q k all w l e:=by
 simp only [Prod.mk.injEq] at hh
 exact ((qn5 (P:=Tryz.prog) (Q:=Q) (k:=k) (w:=w) (all:=all) qa m _ _ _ _ _ _ _ _ _ (fun p hp=>by
  simp only [jH,jy,or_false] at hp
  rcases hp with rfl
  ·exact h.box i0 hh.1) rfl hh.2).2 rfl).2 hk
theorem X2 (m:Nat) (i0 i1:Nat) {b0 t0:Nat} {cs0:List Value} {b1 t1:Nat} {cs1:List Value} (h:SH w0 w L) (hh:(L[i0]?,L[i1]?,xs tab n m [(b0,cs0),(b1,cs1)] k e [] [])=(some (Ch.box b0 cs0 t0),some (Ch.box b1 cs1 t1),some (k',e',z,z))) (hk:Run Tryz.prog n Q k' e' w):Run Tryz.prog n Q k e w:=by
 simp only [Prod.mk.injEq] at hh
 exact ((qlQ (P:=Tryz.prog) (Q:=Q) (w:=w) qa m _ _ _ _ _ _ _ _ _ (fun p hp=>by
  simp only [jH,jy,or_false] at hp
  rcases hp with rfl|rfl
  ·exact h.box i0 hh.1
  ·exact h.box i1 hh.2.1) rfl hh.2.2).2 rfl).2 hk
theorem X3 (m:Nat) (i0 i1 i2:Nat) {b0 t0:Nat} {cs0:List Value} {b1 t1:Nat} {cs1:List Value} {b2 t2:Nat} {cs2:List Value} (h:SH w0 w L) (hh:(L[i0]?,L[i1]?,L[i2]?,xs tab n m [(b0,cs0),(b1,cs1),(b2,cs2)] k e [] [])=(some (Ch.box b0 cs0 t0),some (Ch.box b1 cs1 t1),some (Ch.box b2 cs2 t2),some (k',e',z,z))) (hk:Run Tryz.prog n Q k' e' w):Run Tryz.prog n Q k e w:=by
 simp only [Prod.mk.injEq] at hh
 exact ((qlQ (P:=Tryz.prog) (Q:=Q) (w:=w) qa m _ _ _ _ _ _ _ _ _ (fun p hp=>by
  simp only [jH,jy,or_false] at hp
  rcases hp with rfl|rfl|rfl
  ·exact h.box i0 hh.1
  ·exact h.box i1 hh.2.1
  ·exact h.box i2 hh.2.2.1) rfl hh.2.2.2).2 rfl).2 hk
theorem X5 (m:Nat) (i0 i1 i2 i3 i4:Nat) {b0 t0:Nat} {cs0:List Value} {b1 t1:Nat} {cs1:List Value} {b2 t2:Nat} {cs2:List Value} {b3 t3:Nat} {cs3:List Value} {b4 t4:Nat} {cs4:List Value} (h:SH w0 w L) (hh:(L[i0]?,L[i1]?,L[i2]?,L[i3]?,L[i4]?,xs tab n m [(b0,cs0),(b1,cs1),(b2,cs2),(b3,cs3),(b4,cs4)] k e [] [])=(some (Ch.box b0 cs0 t0),some (Ch.box b1 cs1 t1),some (Ch.box b2 cs2 t2),some (Ch.box b3 cs3 t3),some (Ch.box b4 cs4 t4),some (k',e',z,z))) (hk:Run Tryz.prog n Q k' e' w):Run Tryz.prog n Q k e w:=by
 simp only [Prod.mk.injEq] at hh
 exact ((qlQ (P:=Tryz.prog) (Q:=Q) (w:=w) qa m _ _ _ _ _ _ _ _ _ (fun p hp=>by
  simp only [jH,jy,or_false] at hp
  rcases hp with rfl|rfl|rfl|rfl|rfl
  ·exact h.box i0 hh.1
  ·exact h.box i1 hh.2.1
  ·exact h.box i2 hh.2.2.1
  ·exact h.box i3 hh.2.2.2.1
  ·exact h.box i4 hh.2.2.2.2.1) rfl hh.2.2.2.2.2).2 rfl).2 hk
end
section
variable {w0 w:World} {L:List Ch} {n:Nat} {Q:Exit→Act→World→Prop} {k:List It} {e:Env} {all:Array Oper} {l:List Oper}
theorem zp1 {op0:Op} {d0 t0:Nat} {s0:String} {f0:Array Edge} {v0:Value} (h:(pev tab (e) op0,Nat.blt d0 n)=(some v0,true)) (hk:Run Tryz.prog n Q (.ops all l::k) ((d0,v0)::e) w):Run Tryz.prog n Q (.ops all (⟨some d0,op0,t0,s0,f0,none⟩::l)::k) e w:=by
 have H:=h
 simp only [Prod.mk.injEq] at H
 exact rp (H.1) (H.2) (hk)
theorem zd1 {op0:Op} {d0 t0:Nat} {s0:String} {f0:Array Edge} {v0:Value} (h:(pev tab (e) op0,Nat.blt d0 n)=(some v0,true)) (hk:RunD Tryz.prog n Q k all w l ((d0,v0)::e)):RunD Tryz.prog n Q k all w (⟨some d0,op0,t0,s0,f0,none⟩::l) e:=by
 have H:=h
 simp only [Prod.mk.injEq] at H
 exact dp (H.1) (H.2) (hk)
theorem zp2 {op0:Op} {d0 t0:Nat} {s0:String} {f0:Array Edge} {v0:Value} {op1:Op} {d1 t1:Nat} {s1:String} {f1:Array Edge} {v1:Value} (h:(pev tab (e) op0,Nat.blt d0 n,pev tab ((d0,v0)::e) op1,Nat.blt d1 n)=(some v0,true,some v1,true)) (hk:Run Tryz.prog n Q (.ops all l::k) ((d1,v1)::(d0,v0)::e) w):Run Tryz.prog n Q (.ops all (⟨some d0,op0,t0,s0,f0,none⟩::⟨some d1,op1,t1,s1,f1,none⟩::l)::k) e w:=by
 have H:=h
 simp only [Prod.mk.injEq] at H
 exact rp (H.1) (H.2.1) (rp (H.2.2.1) (H.2.2.2) (hk))
theorem zd2 {op0:Op} {d0 t0:Nat} {s0:String} {f0:Array Edge} {v0:Value} {op1:Op} {d1 t1:Nat} {s1:String} {f1:Array Edge} {v1:Value} (h:(pev tab (e) op0,Nat.blt d0 n,pev tab ((d0,v0)::e) op1,Nat.blt d1 n)=(some v0,true,some v1,true)) (hk:RunD Tryz.prog n Q k all w l ((d1,v1)::(d0,v0)::e)):RunD Tryz.prog n Q k all w (⟨some d0,op0,t0,s0,f0,none⟩::⟨some d1,op1,t1,s1,f1,none⟩::l) e:=by
 have H:=h
 simp only [Prod.mk.injEq] at H
 exact dp (H.1) (H.2.1) (dp (H.2.2.1) (H.2.2.2) (hk))
theorem zp3 {op0:Op} {d0 t0:Nat} {s0:String} {f0:Array Edge} {v0:Value} {op1:Op} {d1 t1:Nat} {s1:String} {f1:Array Edge} {v1:Value} {op2:Op} {d2 t2:Nat} {s2:String} {f2:Array Edge} {v2:Value} (h:(pev tab (e) op0,Nat.blt d0 n,pev tab ((d0,v0)::e) op1,Nat.blt d1 n,pev tab ((d1,v1)::(d0,v0)::e) op2,Nat.blt d2 n)=(some v0,true,some v1,true,some v2,true)) (hk:Run Tryz.prog n Q (.ops all l::k) ((d2,v2)::(d1,v1)::(d0,v0)::e) w):Run Tryz.prog n Q (.ops all (⟨some d0,op0,t0,s0,f0,none⟩::⟨some d1,op1,t1,s1,f1,none⟩::⟨some d2,op2,t2,s2,f2,none⟩::l)::k) e w:=by
 have H:=h
 simp only [Prod.mk.injEq] at H
 exact rp (H.1) (H.2.1) (rp (H.2.2.1) (H.2.2.2.1) (rp (H.2.2.2.2.1) (H.2.2.2.2.2) (hk)))
theorem zd3 {op0:Op} {d0 t0:Nat} {s0:String} {f0:Array Edge} {v0:Value} {op1:Op} {d1 t1:Nat} {s1:String} {f1:Array Edge} {v1:Value} {op2:Op} {d2 t2:Nat} {s2:String} {f2:Array Edge} {v2:Value} (h:(pev tab (e) op0,Nat.blt d0 n,pev tab ((d0,v0)::e) op1,Nat.blt d1 n,pev tab ((d1,v1)::(d0,v0)::e) op2,Nat.blt d2 n)=(some v0,true,some v1,true,some v2,true)) (hk:RunD Tryz.prog n Q k all w l ((d2,v2)::(d1,v1)::(d0,v0)::e)):RunD Tryz.prog n Q k all w (⟨some d0,op0,t0,s0,f0,none⟩::⟨some d1,op1,t1,s1,f1,none⟩::⟨some d2,op2,t2,s2,f2,none⟩::l) e:=by
 have H:=h
 simp only [Prod.mk.injEq] at H
 exact dp (H.1) (H.2.1) (dp (H.2.2.1) (H.2.2.2.1) (dp (H.2.2.2.2.1) (H.2.2.2.2.2) (hk)))
theorem zp5 {op0:Op} {d0 t0:Nat} {s0:String} {f0:Array Edge} {v0:Value} {op1:Op} {d1 t1:Nat} {s1:String} {f1:Array Edge} {v1:Value} {op2:Op} {d2 t2:Nat} {s2:String} {f2:Array Edge} {v2:Value} {op3:Op} {d3 t3:Nat} {s3:String} {f3:Array Edge} {v3:Value} {op4:Op} {d4 t4:Nat} {s4:String} {f4:Array Edge} {v4:Value} (h:(pev tab (e) op0,Nat.blt d0 n,pev tab ((d0,v0)::e) op1,Nat.blt d1 n,pev tab ((d1,v1)::(d0,v0)::e) op2,Nat.blt d2 n,pev tab ((d2,v2)::(d1,v1)::(d0,v0)::e) op3,Nat.blt d3 n,pev tab ((d3,v3)::(d2,v2)::(d1,v1)::(d0,v0)::e) op4,Nat.blt d4 n)=(some v0,true,some v1,true,some v2,true,some v3,true,some v4,true)) (hk:Run Tryz.prog n Q (.ops all l::k) ((d4,v4)::(d3,v3)::(d2,v2)::(d1,v1)::(d0,v0)::e) w):Run Tryz.prog n Q (.ops all (⟨some d0,op0,t0,s0,f0,none⟩::⟨some d1,op1,t1,s1,f1,none⟩::⟨some d2,op2,t2,s2,f2,none⟩::⟨some d3,op3,t3,s3,f3,none⟩::⟨some d4,op4,t4,s4,f4,none⟩::l)::k) e w:=by
 have H:=h
 simp only [Prod.mk.injEq] at H
 exact rp (H.1) (H.2.1) (rp (H.2.2.1) (H.2.2.2.1) (rp (H.2.2.2.2.1) (H.2.2.2.2.2.1) (rp (H.2.2.2.2.2.2.1) (H.2.2.2.2.2.2.2.1) (rp (H.2.2.2.2.2.2.2.2.1) (H.2.2.2.2.2.2.2.2.2) (hk)))))
theorem zc (j:Nat) {d t ty:Nat} {x:Operand} {te:TE} {ps:String} {af:Array Edge} {v:Value} {b o:Nat} {cs:List Value} (h:CellsAt w b o cs) (hh:(opv e x,tab.get t,ld te cs j,Nat.blt d n)=(some (.pointer (some ⟨b,o+j,none⟩)),some te,some v,true))
  (hk:Run Tryz.prog n Q (.ops all l::k) ((d,v)::e) w):Run Tryz.prog n Q (.ops all (⟨some d,.load t x,ty,ps,af,none⟩::l)::k) e w:=by
 simp only [Prod.mk.injEq] at hh
 exact r_v (qfq qa h (j:=j) hh.1 hh.2.1 hh.2.2.1) hh.2.2.2 hk
theorem zdc (j:Nat) {d t ty:Nat} {x:Operand} {te:TE} {ps:String} {af:Array Edge} {v:Value} {b o:Nat} {cs:List Value} (h:CellsAt w b o cs) (hh:(opv e x,tab.get t,ld te cs j,Nat.blt d n)=(some (.pointer (some ⟨b,o+j,none⟩)),some te,some v,true))
  (hk:RunD Tryz.prog n Q k all w l ((d,v)::e)):RunD Tryz.prog n Q k all w (⟨some d,.load t x,ty,ps,af,none⟩::l) e:=by
 simp only [Prod.mk.injEq] at hh
 exact d_v (fun _ hb=>qfq qa (h.below hb) (j:=j) hh.1 hh.2.1 hh.2.2.1) hh.2.2.2 hk
theorem zx {x i:Operand} {t ty d el m:Nat} {te te1:TE} {ps:String} {af:Array Edge} {p:Option Addr} {ln c:Nat} {kd:IntKind} {iv:Int} {b o q:Nat} (hp:p=some ⟨b,o,none⟩) (hq:q=o+iv.toNat*m) (hlt:0≤iv∧iv<ln) (hh:(opv e x,opv e i,tab.get t,te.kind,tab.get el,te1.size,Nat.blt d n)=(some (.slice p ln c),some (.int kd iv),some te,TK.slice el,some te1,m,true)) (hk:Run Tryz.prog n Q (.ops all l::k) ((d,.pointer (some ⟨b,q,none⟩))::e) w):Run Tryz.prog n Q (.ops all (⟨some d,.indexAddr t x i,ty,ps,af,none⟩::l)::k) e w:=by
 simp only [Prod.mk.injEq] at hh
 exact r_v (qn2 qa hp hq hlt hh.1 hh.2.1 hh.2.2.1 hh.2.2.2.1 hh.2.2.2.2.1 hh.2.2.2.2.2.1) hh.2.2.2.2.2.2 hk
theorem zxe {x i:Operand} {t ty d el m:Nat} {te te1:TE} {ps:String} {af:Array Edge} {p:Option Addr} {ln c:Nat} {kd:IntKind} {iv:Int} {b o q:Nat} {α:Prop} (hp:p=some ⟨b,o,none⟩) (hq:q=o+iv.toNat*m) (hlt:0≤iv∧iv<ln∧α) (hh:(opv e x,opv e i,tab.get t,te.kind,tab.get el,te1.size,Nat.blt d n)=(some (.slice p ln c),some (.int kd iv),some te,TK.slice el,some te1,m,true)) (hk:Run Tryz.prog n Q (.ops all l::k) ((d,.pointer (some ⟨b,q,none⟩))::e) w):Run Tryz.prog n Q (.ops all (⟨some d,.indexAddr t x i,ty,ps,af,none⟩::l)::k) e w:=zx hp hq ⟨hlt.1,hlt.2.1⟩ hh hk
theorem zdx {x i:Operand} {t ty d el m:Nat} {te te1:TE} {ps:String} {af:Array Edge} {p:Option Addr} {ln c:Nat} {kd:IntKind} {iv:Int} {b o q:Nat} (hp:p=some ⟨b,o,none⟩) (hq:q=o+iv.toNat*m) (hlt:0≤iv∧iv<ln) (hh:(opv e x,opv e i,tab.get t,te.kind,tab.get el,te1.size,Nat.blt d n)=(some (.slice p ln c),some (.int kd iv),some te,TK.slice el,some te1,m,true)) (hk:RunD Tryz.prog n Q k all w l ((d,.pointer (some ⟨b,q,none⟩))::e)):RunD Tryz.prog n Q k all w (⟨some d,.indexAddr t x i,ty,ps,af,none⟩::l) e:=by
 simp only [Prod.mk.injEq] at hh
 exact d_v (fun _ _=>qn2 qa hp hq hlt hh.1 hh.2.1 hh.2.2.1 hh.2.2.2.1 hh.2.2.2.2.1 hh.2.2.2.2.2.1) hh.2.2.2.2.2.2 hk
theorem zdxe {x i:Operand} {t ty d el m:Nat} {te te1:TE} {ps:String} {af:Array Edge} {p:Option Addr} {ln c:Nat} {kd:IntKind} {iv:Int} {b o q:Nat} {α:Prop} (hp:p=some ⟨b,o,none⟩) (hq:q=o+iv.toNat*m) (hlt:0≤iv∧iv<ln∧α) (hh:(opv e x,opv e i,tab.get t,te.kind,tab.get el,te1.size,Nat.blt d n)=(some (.slice p ln c),some (.int kd iv),some te,TK.slice el,some te1,m,true)) (hk:RunD Tryz.prog n Q k all w l ((d,.pointer (some ⟨b,q,none⟩))::e)):RunD Tryz.prog n Q k all w (⟨some d,.indexAddr t x i,ty,ps,af,none⟩::l) e:=zdx hp hq ⟨hlt.1,hlt.2.1⟩ hh hk
theorem zs (i:Nat) {t ty:Nat} {ps:String} {af:Array Edge} {x v:Operand} {te:TE} {b j:Nat} {cs us cs':List Value} {t':TypeId} {u:Value} {L':List Ch} (h:SH w0 w L)
  (hh:(L[i]?,opv e x,opv e v,cellsL u,tab.get t,Nat.beq us.length te.size,Nat.ble (j+us.length) cs.length,ones us,splN cs j us,setN L i (Ch.box b cs' t'))=(some (Ch.box b cs t'),some (.pointer (some ⟨b,j,none⟩)),some u,us,some te,true,true,true,some cs',some L'))
  (hk:∀ w',SH w0 w' L'→Run Tryz.prog n Q (.ops all l::k) e w'):Run Tryz.prog n Q (.ops all (⟨none,.store t x v,ty,ps,af,none⟩::l)::k) e w:=by
 simp only [Prod.mk.injEq] at hh
 obtain ⟨h1,h2,h3,h4,h5,h6,h7,h8,h9,h10⟩:=hh
 subst h4
 have e1:=qkW h9
 have e2:=qmp h10
 subst e1 e2
 exact qnB qa i h h1 h2 h3 h5 h6 h7 h8 hk
end
section
variable {P:Program} {fnc:Func} {R:Ending→World→Prop} {n:Nat} {k:List It} {e:Env} {w0 w:World} {ops:Array Oper} {st:List Nat} {fuel:Nat}
theorem M0 (K:Nat) (is:List Nat) {C:World→Prop} {m K0 f f':Nat} {e':Env} {z:List Nat} (hC:C w) (hh:xa tab n ops is [] f e [] []=some (f',e',z,z))
  (hk:RunA Tryz.prog n (bodyPost Tryz.prog fnc R) k ops st C f' (bits m K) e' w) (ho:oka ops st is (bits m K0) (bits m K)=true:=by kernel_rfl):RunA Tryz.prog n (bodyPost Tryz.prog fnc R) k ops st C f (bits m K0) e w:=by
 exact ((qlf (C:=C) (w:=w) (P:=Tryz.prog) qa hC is _ _ _ _ _ _ _ _ _ _ _ (fun _ h=>by cases h) rfl hh ho).2 rfl).2 hk
theorem G0 (K:Nat) (is:List Nat) {C:World→Prop} {m K0 f f':Nat} {e':Env} {z:List Nat} {all:Array Oper} (hC:C w) (hh:xa tab n ops is [] f e [] []=some (f',e',z,z))
  (hk:RunA Tryz.prog n (bodyPost Tryz.prog fnc R) k ops st C f' (bits m K) e' w) (ho:oka ops st is (bits m K0) (bits m K)=true:=by kernel_rfl):Run Tryz.prog n (bodyPost Tryz.prog fnc R) (.ops all []::.goal (NextA Tryz.prog n (bodyPost Tryz.prog fnc R) k ops st C f (bits m K0))::k) e w :=
 Ag hC (M0 K is (C:=C) hC hh hk ho)
theorem M1 (K:Nat) (is:List Nat) (i0:Nat) {b0 t0:Nat} {cs0:List Value} {LA:List Ch} {m K0 f f':Nat} {e':Env} {z:List Nat} (hC:SH w0 w LA) (hh:(LA[i0]?,xa tab n ops is [(b0,cs0)] f e [] [])=(some (Ch.box b0 cs0 t0),some (f',e',z,z)))
  (hk:RunA Tryz.prog n (bodyPost Tryz.prog fnc R) k ops st (fun w'=>SH w0 w' LA) f' (bits m K) e' w) (ho:oka ops st is (bits m K0) (bits m K)=true:=by kernel_rfl):RunA Tryz.prog n (bodyPost Tryz.prog fnc R) k ops st (fun w'=>SH w0 w' LA) f (bits m K0) e w:=by
 simp only [Prod.mk.injEq] at hh
 exact ((qlf (C:=(fun w'=>SH w0 w' LA)) (w:=w) (P:=Tryz.prog) qa hC is _ _ _ _ _ _ _ _ _ _ _ (fun p hp w1 hw=>by
  simp only [jH,jy,or_false] at hp
  rcases hp with rfl
  ·exact SH.box hw i0 hh.1) rfl hh.2 ho).2 rfl).2 hk
theorem M2 (K:Nat) (is:List Nat) (i0 i1:Nat) {b0 t0:Nat} {cs0:List Value} {b1 t1:Nat} {cs1:List Value} {LA:List Ch} {m K0 f f':Nat} {e':Env} {z:List Nat} (hC:SH w0 w LA) (hh:(LA[i0]?,LA[i1]?,xa tab n ops is [(b0,cs0),(b1,cs1)] f e [] [])=(some (Ch.box b0 cs0 t0),some (Ch.box b1 cs1 t1),some (f',e',z,z)))
  (hk:RunA Tryz.prog n (bodyPost Tryz.prog fnc R) k ops st (fun w'=>SH w0 w' LA) f' (bits m K) e' w) (ho:oka ops st is (bits m K0) (bits m K)=true:=by kernel_rfl):RunA Tryz.prog n (bodyPost Tryz.prog fnc R) k ops st (fun w'=>SH w0 w' LA) f (bits m K0) e w:=by
 simp only [Prod.mk.injEq] at hh
 exact ((qlf (C:=(fun w'=>SH w0 w' LA)) (w:=w) (P:=Tryz.prog) qa hC is _ _ _ _ _ _ _ _ _ _ _ (fun p hp w1 hw=>by
  simp only [jH,jy,or_false] at hp
  rcases hp with rfl|rfl
  ·exact SH.box hw i0 hh.1
  ·exact SH.box hw i1 hh.2.1) rfl hh.2.2 ho).2 rfl).2 hk
theorem M3 (K:Nat) (is:List Nat) (i0 i1 i2:Nat) {b0 t0:Nat} {cs0:List Value} {b1 t1:Nat} {cs1:List Value} {b2 t2:Nat} {cs2:List Value} {LA:List Ch} {m K0 f f':Nat} {e':Env} {z:List Nat} (hC:SH w0 w LA) (hh:(LA[i0]?,LA[i1]?,LA[i2]?,xa tab n ops is [(b0,cs0),(b1,cs1),(b2,cs2)] f e [] [])=(some (Ch.box b0 cs0 t0),some (Ch.box b1 cs1 t1),some (Ch.box b2 cs2 t2),some (f',e',z,z)))
  (hk:RunA Tryz.prog n (bodyPost Tryz.prog fnc R) k ops st (fun w'=>SH w0 w' LA) f' (bits m K) e' w) (ho:oka ops st is (bits m K0) (bits m K)=true:=by kernel_rfl):RunA Tryz.prog n (bodyPost Tryz.prog fnc R) k ops st (fun w'=>SH w0 w' LA) f (bits m K0) e w:=by
 simp only [Prod.mk.injEq] at hh
 exact ((qlf (C:=(fun w'=>SH w0 w' LA)) (w:=w) (P:=Tryz.prog) qa hC is _ _ _ _ _ _ _ _ _ _ _ (fun p hp w1 hw=>by
  simp only [jH,jy,or_false] at hp
  rcases hp with rfl|rfl|rfl
  ·exact SH.box hw i0 hh.1
  ·exact SH.box hw i1 hh.2.1
  ·exact SH.box hw i2 hh.2.2.1) rfl hh.2.2.2 ho).2 rfl).2 hk
theorem M4 (K:Nat) (is:List Nat) (i0 i1 i2 i3:Nat) {b0 t0:Nat} {cs0:List Value} {b1 t1:Nat} {cs1:List Value} {b2 t2:Nat} {cs2:List Value} {b3 t3:Nat} {cs3:List Value} {LA:List Ch} {m K0 f f':Nat} {e':Env} {z:List Nat} (hC:SH w0 w LA) (hh:(LA[i0]?,LA[i1]?,LA[i2]?,LA[i3]?,xa tab n ops is [(b0,cs0),(b1,cs1),(b2,cs2),(b3,cs3)] f e [] [])=(some (Ch.box b0 cs0 t0),some (Ch.box b1 cs1 t1),some (Ch.box b2 cs2 t2),some (Ch.box b3 cs3 t3),some (f',e',z,z)))
  (hk:RunA Tryz.prog n (bodyPost Tryz.prog fnc R) k ops st (fun w'=>SH w0 w' LA) f' (bits m K) e' w) (ho:oka ops st is (bits m K0) (bits m K)=true:=by kernel_rfl):RunA Tryz.prog n (bodyPost Tryz.prog fnc R) k ops st (fun w'=>SH w0 w' LA) f (bits m K0) e w:=by
 simp only [Prod.mk.injEq] at hh
 exact ((qlf (C:=(fun w'=>SH w0 w' LA)) (w:=w) (P:=Tryz.prog) qa hC is _ _ _ _ _ _ _ _ _ _ _ (fun p hp w1 hw=>by
  simp only [jH,jy,or_false] at hp
  rcases hp with rfl|rfl|rfl|rfl
  ·exact SH.box hw i0 hh.1
  ·exact SH.box hw i1 hh.2.1
  ·exact SH.box hw i2 hh.2.2.1
  ·exact SH.box hw i3 hh.2.2.2.1) rfl hh.2.2.2.2 ho).2 rfl).2 hk
theorem Aw (i K:Nat) {C:World→Prop} {m K0 d:Nat} {op:Op} {t:Nat} {ps:String} {af:Array Edge} {v:Value} (hv:∀ w',C w'→Val Tryz.prog n e ⟨some d,op,t,ps,af,none⟩ w' v) (hC:C w) (hh:(ops[i]?,Nat.blt d n)=(some (⟨some d,op,t,ps,af,none⟩:Oper),true))
  (hk:RunA Tryz.prog n (bodyPost Tryz.prog fnc R) k ops st C fuel (bits m K) ((d,v)::e) w) (hl:(bits m K0).setIfInBounds i true=bits m K:=by kernel_rfl)
  (hb:(Region.noSelect ops&&Region.free .any ops (bits m K0) i&&(Region.ready .any ops (bits m K0)).contains i&&st.all (fun s=>!(Nat.beq s i)&&waitsB ops i s&&!((bits m K0).getD s true)))=true:=by kernel_rfl) :
  RunA Tryz.prog n (bodyPost Tryz.prog fnc R) k ops st C (fuel+1) (bits m K0) e w:=by
 simp only [Prod.mk.injEq] at hh
 exact qio i hh.1 _ hl hb hv hC hh.2 hk
theorem Al (i K j:Nat) {LA:List Ch} {m K0 d t ty b o:Nat} {x:Operand} {te:TE} {ps:String} {af:Array Edge} {v:Value} {cs:List Value} (hc:CellsAt w0 b o cs) (hC:SH w0 w LA)
  (hh:(ops[i]?,opv e x,tab.get t,ld te cs j,Nat.blt d n)=(some (⟨some d,.load t x,ty,ps,af,none⟩:Oper),some (.pointer (some ⟨b,o+j,none⟩)),some te,some v,true))
  (hk:RunA Tryz.prog n (bodyPost Tryz.prog fnc R) k ops st (fun w'=>SH w0 w' LA) fuel (bits m K) ((d,v)::e) w) (hl:(bits m K0).setIfInBounds i true=bits m K:=by kernel_rfl)
  (hb:(Region.noSelect ops&&Region.free .any ops (bits m K0) i&&(Region.ready .any ops (bits m K0)).contains i&&st.all (fun s=>!(Nat.beq s i)&&waitsB ops i s&&!((bits m K0).getD s true)))=true:=by kernel_rfl) :
  RunA Tryz.prog n (bodyPost Tryz.prog fnc R) k ops st (fun w'=>SH w0 w' LA) (fuel+1) (bits m K0) e w:=by
 simp only [Prod.mk.injEq] at hh
 exact qio i hh.1 _ hl hb (fun w' hw=>qfq qa (hc.below hw.below) (j:=j) hh.2.1 hh.2.2.1 hh.2.2.2.1) hC hh.2.2.2.2 hk
theorem Ax (i K:Nat) {C:World→Prop} {m K0 d t ty el q:Nat} {x ix:Operand} {te te1:TE} {ps:String} {af:Array Edge} {p:Option Addr} {ln c sz:Nat} {kd:IntKind} {iv:Int} {b o:Nat} (hp:p=some ⟨b,o,none⟩) (hq:q=o+iv.toNat*sz) (hlt:0≤iv∧iv<ln) (hC:C w)
  (hh:(ops[i]?,opv e x,opv e ix,tab.get t,te.kind,tab.get el,te1.size,Nat.blt d n)=(some (⟨some d,.indexAddr t x ix,ty,ps,af,none⟩:Oper),some (.slice p ln c),some (.int kd iv),some te,TK.slice el,some te1,sz,true))
  (hk:RunA Tryz.prog n (bodyPost Tryz.prog fnc R) k ops st C fuel (bits m K) ((d,.pointer (some ⟨b,q,none⟩))::e) w) (hl:(bits m K0).setIfInBounds i true=bits m K:=by kernel_rfl)
  (hb:(Region.noSelect ops&&Region.free .any ops (bits m K0) i&&(Region.ready .any ops (bits m K0)).contains i&&st.all (fun s=>!(Nat.beq s i)&&waitsB ops i s&&!((bits m K0).getD s true)))=true:=by kernel_rfl) :
  RunA Tryz.prog n (bodyPost Tryz.prog fnc R) k ops st C (fuel+1) (bits m K0) e w:=by
 simp only [Prod.mk.injEq] at hh
 exact qio i hh.1 _ hl hb (fun w' _=>qn2 qa hp hq hlt hh.2.1 hh.2.2.1 hh.2.2.2.1 hh.2.2.2.2.1 hh.2.2.2.2.2.1 hh.2.2.2.2.2.2.1) hC hh.2.2.2.2.2.2.2 hk
theorem Ae (i K:Nat) {C:World→Prop} {m K0 d t ty el q:Nat} {x ix:Operand} {te te1:TE} {ps:String} {af:Array Edge} {p:Option Addr} {ln c sz:Nat} {kd:IntKind} {iv:Int} {b o:Nat} {α:Prop} (hp:p=some ⟨b,o,none⟩) (hq:q=o+iv.toNat*sz) (hlt:0≤iv∧iv<ln∧α) (hC:C w)
  (hh:(ops[i]?,opv e x,opv e ix,tab.get t,te.kind,tab.get el,te1.size,Nat.blt d n)=(some (⟨some d,.indexAddr t x ix,ty,ps,af,none⟩:Oper),some (.slice p ln c),some (.int kd iv),some te,TK.slice el,some te1,sz,true))
  (hk:RunA Tryz.prog n (bodyPost Tryz.prog fnc R) k ops st C fuel (bits m K) ((d,.pointer (some ⟨b,q,none⟩))::e) w) (hl:(bits m K0).setIfInBounds i true=bits m K:=by kernel_rfl)
  (hb:(Region.noSelect ops&&Region.free .any ops (bits m K0) i&&(Region.ready .any ops (bits m K0)).contains i&&st.all (fun s=>!(Nat.beq s i)&&waitsB ops i s&&!((bits m K0).getD s true)))=true:=by kernel_rfl) :
  RunA Tryz.prog n (bodyPost Tryz.prog fnc R) k ops st C (fuel+1) (bits m K0) e w:=Ax i K hp hq ⟨hlt.1,hlt.2.1⟩ hC hh hk hl hb
theorem rb {fn:Func} {L:List Ch} {x r:Bool} (h:SH w0 w L) (hF:some x=some r) (hr:res1 e fn.results.toList=some (.bool x)) :
  Run Tryz.prog n (bodyPost Tryz.prog fn fun e w'=>∃ v,e=.returned v∧Below w0.heap.size w0 w'∧∃ us,v=tup us∧GoVs.Vs w' (fresh w0 w') r us) (.code .ret::k) e w:=qoJ qa h hF (qmj hr)
theorem ri {fn:Func} {L:List Ch} {x r:Int} (h:SH w0 w L) (hF:some x=some r) (hr:res1 e fn.results.toList=some (.int .i64 x)) :
  Run Tryz.prog n (bodyPost Tryz.prog fn fun e w'=>∃ v,e=.returned v∧Below w0.heap.size w0 w'∧∃ us,v=tup us∧GoVs.Vs w' (fresh w0 w') r us) (.code .ret::k) e w:=qoI qa h hF (qmj hr)
theorem rO {fn:Func} {L:List Ch} {α:Type} [GoT α] {r:α} {S:Nat→Prop} {cs:List Value} (i:Nat) (h:SH w0 w L) (hi:L[i]?=some (Ch.own S r cs)) (hr:ResOk tab e w fn.results.toList [GoT.v α cs]) :
  Run Tryz.prog n (bodyPost Tryz.prog fn fun e w'=>∃ v,e=.returned v∧Below w0.heap.size w0 w'∧∃ us,v=tup us∧GoVs.Vs w' (fresh w0 w') r us) (.code .ret::k) e w:=qa9 qa _ h hr (PV.done h (qbA (qJ i h hi)))
theorem zV {ρ:Type} [GoVs ρ] {f:FuncId} {fn:Func} {c:Code} {vs:List Value} {r:ρ} (m:Nat) (hf:Tryz.prog.funcs[f]?=some fn) (hh:(fn.body,fn.ntmps,Nat.ble vs.length m)=(some c,m,true))
  (h:SH w w []→Run Tryz.prog m (bodyPost Tryz.prog fn fun e w'=>∃ v,e=.returned v∧Below w.heap.size w w'∧∃ us,v=tup us∧GoVs.Vs w' (fresh w w') r us) [.code c] (argEnv 0 vs) w):RetV Tryz.prog f vs w r:=by
 simp only [Prod.mk.injEq] at hh
 exact qlA hf hh.1 hh.2.1 hh.2.2 h
end
section
variable {w0 w:World} {L:List Ch} {n:Nat} {Q:Exit→Act→World→Prop} {k:List It} {e:Env} {all:Array Oper} {l:List Oper} {d ty:Nat} {ps:String} {af:Array Edge} {x:Operand} {args:Array Operand} {ats:Array TypeId} {f:FuncId} {fi ca:Array Value} {av vs:List Value} {β:Type} {rr:β}
theorem zcI {F:Option Int} {g:Int→Option β} (h:SH w0 w L) (hF:F.bind g=some rr) (hc:∀ {r},F=some r→RetV Tryz.prog f vs w r)
  (hh:(opv e x,opvs e args.toList,fi.toList++av++ca.toList,Nat.blt d n)=(some (.func (.func f) fi ca),some av,vs,true))
  (hk:∀ r w' ,SH w0 w' (L)→g r=some rr→Run Tryz.prog n Q (.ops all l::k) ((d,.int .i64 r)::e) w') (hcall:qdp Tryz.prog f:=by exact cA rfl):Run Tryz.prog n Q (.ops all (⟨some d,.call ⟨.value x,args,ats⟩,ty,ps,af,none⟩::l)::k) e w:=by
 obtain ⟨r,hr,hF⟩:=qe hF
 simp only [Prod.mk.injEq] at hh
 exact qnI r h hcall (hc hr) hh.1 hh.2.1 hh.2.2.1 hh.2.2.2 (fun w'  h'=>hk r w'  h' hF)
theorem zcB {F:Option Bool} {g:Bool→Option β} (h:SH w0 w L) (hF:F.bind g=some rr) (hc:∀ {r},F=some r→RetV Tryz.prog f vs w r)
  (hh:(opv e x,opvs e args.toList,fi.toList++av++ca.toList,Nat.blt d n)=(some (.func (.func f) fi ca),some av,vs,true))
  (hk:∀ r w' ,SH w0 w' (L)→g r=some rr→Run Tryz.prog n Q (.ops all l::k) ((d,.bool r)::e) w') (hcall:qdp Tryz.prog f:=by exact cA rfl):Run Tryz.prog n Q (.ops all (⟨some d,.call ⟨.value x,args,ats⟩,ty,ps,af,none⟩::l)::k) e w:=by
 obtain ⟨r,hr,hF⟩:=qe hF
 simp only [Prod.mk.injEq] at hh
 exact qn0 r h hcall (hc hr) hh.1 hh.2.1 hh.2.2.1 hh.2.2.2 (fun w'  h'=>hk r w'  h' hF)
theorem zcS {F:Option ByteArray} {g:ByteArray→Option β} (h:SH w0 w L) (hF:F.bind g=some rr) (hc:∀ {r},F=some r→RetV Tryz.prog f vs w r)
  (hh:(opv e x,opvs e args.toList,fi.toList++av++ca.toList,Nat.blt d n)=(some (.func (.func f) fi ca),some av,vs,true))
  (hk:∀ r w' ,SH w0 w' (L)→g r=some rr→Run Tryz.prog n Q (.ops all l::k) ((d,.string r)::e) w') (hcall:qdp Tryz.prog f:=by exact cA rfl):Run Tryz.prog n Q (.ops all (⟨some d,.call ⟨.value x,args,ats⟩,ty,ps,af,none⟩::l)::k) e w:=by
 obtain ⟨r,hr,hF⟩:=qe hF
 simp only [Prod.mk.injEq] at hh
 exact qjH r h hcall (hc hr) hh.1 hh.2.1 hh.2.2.1 hh.2.2.2 (fun w'  h'=>hk r w'  h' hF)
theorem zcL {α:Type} [GoT α] {F:Option (List α)} {g:(List α)→Option β} (h:SH w0 w L) (hF:F.bind g=some rr) (hc:∀ {r},F=some r→RetV Tryz.prog f vs w r)
  (hh:(opv e x,opvs e args.toList,fi.toList++av++ca.toList,Nat.blt d n)=(some (.func (.func f) fi ca),some av,vs,true))
  (hk:∀ r w' S p c,SH w0 w' (Ch.own S r [.slice p r.length c]::L)→g r=some rr→Run Tryz.prog n Q (.ops all l::k) ((d,.slice p r.length c)::e) w') (hcall:qdp Tryz.prog f:=by exact cA rfl):Run Tryz.prog n Q (.ops all (⟨some d,.call ⟨.value x,args,ats⟩,ty,ps,af,none⟩::l)::k) e w:=by
 obtain ⟨r,hr,hF⟩:=qe hF
 simp only [Prod.mk.injEq] at hh
 exact qiy r h hcall (hc hr) hh.1 hh.2.1 hh.2.2.1 hh.2.2.2 (fun w' S p c h'=>hk r w' S p c h' hF)
theorem zcO {α:Type} [GoT α] {F:Option α} {g:α→Option β} (h:SH w0 w L) (hF:F.bind g=some rr) (hc:∀ {r},F=some r→RetV Tryz.prog f vs w r)
  (hh:(opv e x,opvs e args.toList,fi.toList++av++ca.toList,Nat.blt d n)=(some (.func (.func f) fi ca),some av,vs,true))
  (hk:∀ r w' S cs,SH w0 w' (Ch.own S r cs::L)→g r=some rr→Run Tryz.prog n Q (.ops all l::k) ((d,GoT.v α cs)::e) w') (hcall:qdp Tryz.prog f:=by exact cA rfl):Run Tryz.prog n Q (.ops all (⟨some d,.call ⟨.value x,args,ats⟩,ty,ps,af,none⟩::l)::k) e w:=by
 obtain ⟨r,hr,hF⟩:=qe hF
 simp only [Prod.mk.injEq] at hh
 exact qnW r h hcall (hc hr) hh.1 hh.2.1 hh.2.2.1 hh.2.2.2 (fun w' S cs h'=>hk r w' S cs h' hF)
end
def noC:List Nat:=[0,1,190]
theorem allC:((List.range 203).all fun f=>noC.contains f || callB Tryz.prog f)=true:=by kernel_rfl
theorem cA {f:Nat} (h:(Nat.blt f 203&&!noC.contains f)=true):qdp Tryz.prog f:=by
 rw [jg,Nat.blt_eq,jA] at h
 have:=List.all_eq_true.1 allC f (List.mem_range.2 h.1)
 rw [h.2] at this
 exact qm7 this
theorem cB (f:Nat) (h:(Nat.blt f 203&&!noC.contains f)=true):qdp Tryz.prog f:=cA h
def qan (_:Nat) (a_n:Int) (low:Int) (high:Int):Option Bool :=
 bif decide (a_n ≥ low) then some (decide (a_n≤high)) else
 some false
theorem qac {a_n:Int} {low:Int} {high:Int}  {r:Bool} (hF:qan n a_n low high=some r):RetV Tryz.prog 39 [.int .i64 a_n,.int .i64 low,.int .i64 high] w r:=by
 refine zV 15 Tryz.func39 rfl fun h=>X0 10 rfl (qh (t:=10) hF rfl ?_ ?_)<;>intro hF
 ·exact X0 9 rfl (rb h hF rfl)
 exact X0 6 rfl (rb h hF rfl)
def qcl (s:ByteArray):Nat→Int→Option (Flow Bool Int)
 | 0,_=>none
 | n+1,i1 =>
  bif decide (i1<(s.size:Int)) then
   (
    (atS s i1).bind fun y3 =>
    bif decide (y3 ≥ 97) then
     (atS s i1).bind fun y4 =>
     some (decide (y4≤122))
    else
     some false).bind fun b1 =>
   (
    (atS s i1).bind fun y1 =>
    bif decide (y1 ≥ 48) then
     (atS s i1).bind fun y2 =>
     some (decide (y2≤57))
    else
     some false).bind fun b2 =>
   bif (!b1) then
    bif b2 then
     bif (!(decide (i1 > 0))) then some (.ret false) else
     qcl s n (W64 (i1+1))
    else
     some (.ret false)
   else
    qcl s n (W64 (i1+1))
  else
   some (.nxt i1)
def qeE (n:Nat) (s:ByteArray):Option Bool :=
 (qcl s n 0).bind fun o=>match o with
 | .ret r=>some r
 | .nxt _ =>
  bif decide ((s.size:Int) ≥ 1) then some (decide ((s.size:Int)≤8)) else
  some false
theorem qf0 {s:ByteArray}  {r:Bool} (hF:qeE n s=some r):RetV Tryz.prog 137 [.string s] w r:=by
 refine zV 50 Tryz.func137 rfl fun h=>X0 9 rfl ?_
 obtain ⟨o1,hF,hK1⟩:=qe hF
 refine qq (rL (fun m e w'=>∃ (i1:Int),qcl s m i1=some o1∧e=[(0,.string s),(3,.int .i64 i1)]∧SH w w' []) n ⟨_,hF,rfl,h⟩ rfl ?_)
 rintro m1 e1 w1 ⟨i1,hF,rfl,h⟩
 rcases m1 with _|m1
 ·cases hF
 refine X0 8 rfl (qr rfl hF ?_ ?_)<;>intro hF
 ·refine X0 4 rfl ?_
  obtain ⟨KF2,hKF2,o3,hF,hK3⟩:=bindE hF
  refine qb5 (fun e w'=>∃ (b1:Bool),KF2 b1=some o1∧e=[(0,.string s),(3,.int .i64 i1),(4,.bool b1)]∧SH w w' []) ?_ ?_
  ·refine X0 3 rfl ?_
   obtain ⟨y3,hx3,hF⟩:=qe hF
   have g3:=qhT hx3
   refine r_v (qhJ qa g3 rfl rfl rfl rfl) rfl (zp2 rfl (qh (t:=16) hF rfl ?_ ?_))<;>intro hF
   ·refine X0 5 rfl ?_
    obtain ⟨y4,hx4,hF⟩:=qe hF
    have g4:=qhT hx4
    refine r_v (qhJ qa g4 rfl rfl rfl rfl) rfl (X0 5 rfl ?_)
    obtain rfl:=qb hF
    exact rG ⟨_,hK3,rfl,h⟩ rfl
   refine X0 7 rfl ?_
   obtain rfl:=qb hF
   exact rG ⟨_,hK3,rfl,h⟩ rfl
  rintro e3 w3 ⟨b1,hF,rfl,h⟩
  subst hKF2
  refine qeq ?_
  obtain ⟨KF1,hKF1,o2,hF,hK2⟩:=bindE hF
  refine qb5 (fun e w'=>∃ (b2:Bool),KF1 b2=some o1∧e=[(0,.string s),(3,.int .i64 i1),(4,.bool b1),(5,.bool b2)]∧SH w w' []) ?_ ?_
  ·refine X0 3 rfl ?_
   obtain ⟨y1,hx1,hF⟩:=qe hF
   have g1:=qhT hx1
   refine r_v (qhJ qa g1 rfl rfl rfl rfl) rfl (zp2 rfl (qh (t:=26) hF rfl ?_ ?_))<;>intro hF
   ·refine X0 5 rfl ?_
    obtain ⟨y2,hx2,hF⟩:=qe hF
    have g2:=qhT hx2
    refine r_v (qhJ qa g2 rfl rfl rfl rfl) rfl (X0 5 rfl ?_)
    obtain rfl:=qb hF
    exact rG ⟨_,hK2,rfl,h⟩ rfl
   refine X0 7 rfl ?_
   obtain rfl:=qb hF
   exact rG ⟨_,hK2,rfl,h⟩ rfl
  rintro e2 w2 ⟨b2,hF,rfl,h⟩
  subst hKF1
  refine X0 5 rfl (qh (t:=34) hF rfl ?_ ?_)<;>intro hF
  ·refine X0 4 rfl (qh (t:=36) hF rfl ?_ ?_)<;>intro hF
   ·refine X0 10 rfl (qr rfl hF ?_ ?_)<;>intro hF
    ·refine X0 4 rfl ?_
     obtain rfl:=qb hF;replace hF:=hK1
     exact rb h hF rfl
    exact X0 7 rfl (rK ⟨_,hF,rfl,h⟩ rfl)
   refine X0 8 rfl (qdR rfl rfl (X0 4 rfl ?_))
   obtain rfl:=qb hF;replace hF:=hK1
   exact rb h hF rfl
  exact X0 8 rfl (qdx rfl rfl (X0 7 rfl (rK ⟨_,hF,rfl,h⟩ rfl)))
 refine qw rfl ?_
 obtain rfl:=qb hF;replace hF:=hK1
 refine X0 6 rfl (qh (t:=45) hF rfl ?_ ?_)<;>intro hF
 ·exact X0 9 rfl (rb h hF rfl)
 exact X0 6 rfl (rb h hF rfl)
def qc7 (a_0:qk) (i2:Int) (y1:qQ):Nat→Int→Option (Flow (Int × Bool) Int)
 | 0,_=>none
 | n+1,i3 =>
  bif decide (i3<i2) then
   (idx a_0.Ap i3).bind fun y2 =>
   bif (y2.Ar.toList==y1.Ar.toList) then some (.ret (0,false)) else
   qc7 a_0 i2 y1 n (W64 (i3+1))
  else
   some (.nxt i3)
def qbR (a_0:qk):Nat→Int→Int→Option (Flow (Int × Bool) (Int × Int))
 | 0,_,_=>none
 | n+1,i1,i2 =>
  bif decide (i2<(a_0.Ap.length:Int)) then
   (idx a_0.Ap i2).bind fun y1 =>
   (qc7 a_0 i2 y1 n 0).bind fun o=>match o with
   | .ret r=>some (.ret r)
   | .nxt _ =>
    (
     (qeE n y1.Ar).bind fun r1 =>
     bif (!r1) then some true else
     (qan n y1.Bb 0 500).bind fun r2 =>
     some (!r2)).bind fun b4 =>
    bif b4 then some (.ret (0,false)) else
    (
     bif (i2==(W64 ((a_0.Ap.length:Int)-1))) then
      bif (y1.Bj != 2) then some true else
      bif (y1.Bb != 0) then some true else
      bif y1.Ba then some true else
      bif decide (i2<(W64 ((a_0.Ap.length:Int)-1))) then some (y1.Bj != 1) else
      some false
     else
      bif decide (i2<(W64 ((a_0.Ap.length:Int)-1))) then some (y1.Bj != 1) else
      some false).bind fun b5 =>
    bif b5 then some (.ret (0,false)) else
    bif y1.Ba then qbR a_0 n (W64 (i1+1)) (W64 (i2+1)) else
    qbR a_0 n i1 (W64 (i2+1))
  else
   some (.nxt (i1,i2))
def qf4 (n:Nat) (a_0:qk):Option (Int × Bool) :=
 (
  bif decide ((a_0.Ap.length:Int)<2) then some true else
  some (decide ((a_0.Ap.length:Int) > 5))).bind fun b1 =>
 bif b1 then some (0,false) else
 (qbR a_0 n 0 0).bind fun o=>match o with
 | .ret r=>some r
 | .nxt (i1,_) =>
  some (i1,true)
theorem qjz {a_0:qk} (ha1:GoT.R w (old w) a_0 cs1) {r:(Int × Bool)} (hF:qf4 n a_0=some r):RetV Tryz.prog 152 [GoT.v qk cs1] w r:=by
 obtain ⟨p1,k1,p2,k2,p3,k3,rfl,s1,s2,s3⟩:=qE ha1
 refine zV 86 Tryz.func152 rfl fun h=>zSR (qV h rfl rfl fun w1 bb1 h=>X1 12 0 h rfl ?_)
 obtain ⟨KF3,hKF3,o5,hF,hK5⟩:=bindE hF
 refine qb5 (fun e w'=>∃ (b1:Bool),KF3 b1=some r∧e=[(1,.pointer (some ⟨bb1,0,none⟩)),(4,.int .i64 (a_0.Ap.length:Int)),(17,.bool b1)]∧SH w w' [Ch.box bb1 (qt a_0 p1 p2 p3 k1 k2 k3) 128]) ?_ ?_
 ·refine X0 4 rfl (qh (t:=14) hF rfl ?_ ?_)<;>intro hF
  ·refine X0 4 rfl ?_
   obtain rfl:=qb hF
   exact rG ⟨_,hK5,rfl,h⟩ rfl
  refine X0 6 rfl ?_
  obtain rfl:=qb hF
  exact rG ⟨_,hK5,rfl,h⟩ rfl
 rintro e5 w11 ⟨b1,hF,rfl,h⟩
 subst hKF3
 refine qr rfl hF ?_ ?_<;>intro hF
 ·refine X0 5 rfl ?_
  obtain rfl:=qb hF
  exact qa9 qa (ρ:=(Int × Bool)) [GoT.v Int [.int .i64 0],GoT.v Bool [.bool false]] h ⟨rfl,rfl,trivial⟩ (PV.done h (qbU h (qN (S:=fun _=>False) rfl) (qbA (qN (S:=fun _=>False) rfl)) (by rfl)))
 refine X0 10 rfl ?_
 obtain ⟨o1,hF,hK1⟩:=qe hF
 refine qq (rL (fun m e w'=>∃ (i1:Int) (i2:Int),qbR a_0 m i1 i2=some o1∧e=[(1,.pointer (some ⟨bb1,0,none⟩)),(4,.int .i64 (a_0.Ap.length:Int)),(5,.int .i64 i1),(6,.int .i64 i2)]∧SH w w' [Ch.box bb1 (qt a_0 p1 p2 p3 k1 k2 k3) 128]) n ⟨_,_,hF,rfl,h⟩ rfl ?_)
 rintro m1 e1 w2 ⟨i1,i2,hF,rfl,h⟩
 rcases m1 with _|m1
 ·cases hF
 refine X0 7 rfl (qr rfl hF ?_ ?_)<;>intro hF
 ·refine X1 8 0 h rfl ?_
  obtain ⟨y1,hy1,hF,he1,b2,_,q1,cs2,hp1,hq1,hr1,hc3⟩:=s1.ix hF
  obtain rfl:=qcS hr1
  refine zxe hp1 hq1 he1 rfl (zc 0 (hc3.below h.below) rfl (qy qa h rfl rfl rfl fun w3 bb2 h=>zs 0 h rfl fun w4 h=>X0 6 rfl ?_))
  obtain ⟨o2,hF,hK2⟩:=qe hF
  refine qq (rL (fun m e w'=>∃ (i3:Int),qc7 a_0 i2 y1 m i3=some o2∧e=[(1,.pointer (some ⟨bb1,0,none⟩)),(4,.int .i64 (a_0.Ap.length:Int)),(5,.int .i64 i1),(6,.int .i64 i2),(7,.pointer (some ⟨bb2,0,none⟩)),(8,.int .i64 i3)]∧SH w w' [Ch.box bb2 (qj0 y1) 171,Ch.box bb1 (qt a_0 p1 p2 p3 k1 k2 k3) 128]) m1 ⟨_,hF,rfl,h⟩ rfl ?_)
  rintro m2 e2 w5 ⟨i3,hF,rfl,h⟩
  rcases m2 with _|m2
  ·cases hF
  refine X0 7 rfl (qr rfl hF ?_ ?_)<;>intro hF
  ·refine X0 4 rfl (rD (Y1 2 1 h rfl ?_))
   refine zd1 rfl ?_
   obtain ⟨y2,hy2,hF,he2,b3,_,q2,cs3,hp2,hq2,hr2,hc5⟩:=s1.ix hF
   obtain rfl:=qcS hr2
   refine zdxe hp2 hq2 he2 rfl (zd1 rfl (zdc 0 (hc5.below h.below) rfl (Y1 2 0 h rfl ?_)))
   refine zd1 rfl (dN h fun w6 h=>qr rfl hF ?_ ?_)<;>intro hF
   ·refine X0 5 rfl ?_
    obtain rfl:=qb hF;replace hF:=hK2
    obtain rfl:=qb hF;replace hF:=hK1
    obtain rfl:=qb hF
    exact qa9 qa (ρ:=(Int × Bool)) [GoT.v Int [.int .i64 0],GoT.v Bool [.bool false]] h ⟨rfl,rfl,trivial⟩ (PV.done h (qbU h (qN (S:=fun _=>False) rfl) (qbA (qN (S:=fun _=>False) rfl)) (by rfl)))
   exact X0 7 rfl (rK ⟨_,hF,rfl,h⟩ rfl)
  refine qw rfl ?_
  obtain rfl:=qb hF;replace hF:=hK2
  refine zSS ?_
  obtain ⟨KF2,hKF2,o4,hF,hK4⟩:=bindE hF
  refine qb5 (fun e w'=>∃ (b4:Bool),KF2 b4=some o1∧e=[(1,.pointer (some ⟨bb1,0,none⟩)),(4,.int .i64 (a_0.Ap.length:Int)),(5,.int .i64 i1),(6,.int .i64 i2),(7,.pointer (some ⟨bb2,0,none⟩)),(51,.bool b4)]∧SH w w' [Ch.box bb2 (qj0 y1) 171,Ch.box bb1 (qt a_0 p1 p2 p3 k1 k2 k3) 128]) ?_ ?_
  ·refine X1 3 0 h rfl (zcB h hF qf0 rfl fun r1 w8 h hF=>zp2 rfl (qh (t:=46) hF rfl ?_ ?_))<;>intro hF
   ·refine X0 6 rfl ?_
    obtain rfl:=qb hF
    exact rG ⟨_,hK4,rfl,h⟩ rfl
   refine X1 5 0 h rfl (zcB h hF qac rfl fun r2 w9 h hF=>X0 4 rfl ?_)
   obtain rfl:=qb hF
   exact rG ⟨_,hK4,rfl,h⟩ rfl
  rintro e4 w10 ⟨b4,hF,rfl,h⟩
  subst hKF2
  refine qr rfl hF ?_ ?_<;>intro hF
  ·refine X0 5 rfl ?_
   obtain rfl:=qb hF;replace hF:=hK1
   obtain rfl:=qb hF
   exact qa9 qa (ρ:=(Int × Bool)) [GoT.v Int [.int .i64 0],GoT.v Bool [.bool false]] h ⟨rfl,rfl,trivial⟩ (PV.done h (qbU h (qN (S:=fun _=>False) rfl) (qbA (qN (S:=fun _=>False) rfl)) (by rfl)))
  refine zKSS ?_
  obtain ⟨KF1,hKF1,o3,hF,hK3⟩:=bindE hF
  refine qb5 (fun e w'=>∃ (b5:Bool),KF1 b5=some o1∧e=[(1,.pointer (some ⟨bb1,0,none⟩)),(4,.int .i64 (a_0.Ap.length:Int)),(5,.int .i64 i1),(6,.int .i64 i2),(7,.pointer (some ⟨bb2,0,none⟩)),(80,.bool b5)]∧SH w w' [Ch.box bb2 (qj0 y1) 171,Ch.box bb1 (qt a_0 p1 p2 p3 k1 k2 k3) 128]) ?_ ?_
  ·refine X0 6 rfl (qh (t:=56) hF rfl ?_ ?_)<;>intro hF
   ·refine X1 8 0 h rfl (qh (t:=60) hF rfl ?_ ?_)<;>intro hF
    ·refine X0 24 rfl ?_
     obtain rfl:=qb hF
     exact rG ⟨_,hK3,rfl,h⟩ rfl
    refine X1 10 0 h rfl (qh (t:=65) hF rfl ?_ ?_)<;>intro hF
    ·refine X0 17 rfl ?_
     obtain rfl:=qb hF
     exact rG ⟨_,hK3,rfl,h⟩ rfl
    refine X1 8 0 h rfl (qh (t:=70) hF rfl ?_ ?_)<;>intro hF
    ·refine X0 11 rfl ?_
     obtain rfl:=qb hF
     exact rG ⟨_,hK3,rfl,h⟩ rfl
    refine X0 10 rfl (qh (t:=75) hF rfl ?_ ?_)<;>intro hF
    ·refine X1 10 0 h rfl ?_
     obtain rfl:=qb hF
     exact rG ⟨_,hK3,rfl,h⟩ rfl
    refine X0 7 rfl ?_
    obtain rfl:=qb hF
    exact rG ⟨_,hK3,rfl,h⟩ rfl
   refine X0 24 rfl (qh (t:=75) hF rfl ?_ ?_)<;>intro hF
   ·refine X1 10 0 h rfl ?_
    obtain rfl:=qb hF
    exact rG ⟨_,hK3,rfl,h⟩ rfl
   refine X0 7 rfl ?_
   obtain rfl:=qb hF
   exact rG ⟨_,hK3,rfl,h⟩ rfl
  rintro e3 w7 ⟨b5,hF,rfl,h⟩
  subst hKF1
  refine qr rfl hF ?_ ?_<;>intro hF
  ·refine X0 5 rfl ?_
   obtain rfl:=qb hF;replace hF:=hK1
   obtain rfl:=qb hF
   exact qa9 qa (ρ:=(Int × Bool)) [GoT.v Int [.int .i64 0],GoT.v Bool [.bool false]] h ⟨rfl,rfl,trivial⟩ (PV.done h (qbU h (qN (S:=fun _=>False) rfl) (qbA (qN (S:=fun _=>False) rfl)) (by rfl)))
  refine X1 6 0 h rfl (qr rfl hF ?_ ?_)<;>intro hF
  ·refine X0 11 rfl ?_
   replace h:=h.pick [1] rfl
   exact rK ⟨_,_,hF,rfl,h⟩ rfl
  refine X0 7 rfl ?_
  replace h:=h.pick [1] rfl
  exact rK ⟨_,_,hF,rfl,h⟩ rfl
 refine qw rfl ?_
 obtain rfl:=qb hF;replace hF:=hK1
 refine X0 6 rfl ?_
 obtain rfl:=qb hF
 exact qa9 qa (ρ:=(Int × Bool)) [GoT.v Int [.int .i64 i1],GoT.v Bool [.bool true]] h ⟨rfl,rfl,trivial⟩ (PV.done h (qbU h (qN (S:=fun _=>False) rfl) (qbA (qN (S:=fun _=>False) rfl)) (by rfl)))
def qcr (list:(List Int)):Nat→Int→Option (Flow Bool Int)
 | 0,_=>none
 | n+1,i1 =>
  bif decide (i1<(list.length:Int)) then
   (idx list i1).bind fun y1 =>
   (qan n y1 0 100000).bind fun r1 =>
   bif (!r1) then some (.ret false) else
   bif decide (i1 > 0) then
    (idx list (W64 (i1-1))).bind fun y2 =>
    (idx list i1).bind fun y3 =>
    bif decide (y2 ≥ y3) then some (.ret false) else
    qcr list n (W64 (i1+1))
   else
    qcr list n (W64 (i1+1))
  else
   some (.nxt i1)
def qfp (n:Nat) (list:(List Int)):Option Bool :=
 (qcr list n 0).bind fun o=>match o with
 | .ret r=>some r
 | .nxt _ =>
  bif decide ((list.length:Int) ≥ 1) then some (decide ((list.length:Int)≤4)) else
  some false
theorem qhm {list:(List Int)} (ha1:GoT.R w (old w) list cs1) {r:Bool} (hF:qfp n list=some r):RetV Tryz.prog 197 [GoT.v (List Int) cs1] w r:=by
 obtain ⟨p1,k1,rfl,s1⟩:=ha1
 refine zV 40 Tryz.func197 rfl fun h=>X0 9 rfl ?_
 obtain ⟨o1,hF,hK1⟩:=qe hF
 refine qq (rL (fun m e w'=>∃ (i1:Int),qcr list m i1=some o1∧e=[(0,.slice p1 list.length k1),(3,.int .i64 i1)]∧SH w w' []) n ⟨_,hF,rfl,h⟩ rfl ?_)
 rintro m1 e1 w1 ⟨i1,hF,rfl,h⟩
 rcases m1 with _|m1
 ·cases hF
 refine X0 8 rfl (qr rfl hF ?_ ?_)<;>intro hF
 ·refine X0 4 rfl (rD (zd2 rfl ?_))
  obtain ⟨y1,hy1,hF,he1,b1,_,q1,cs2,hp1,hq1,rfl,hc2⟩:=s1.ix hF
  refine zdxe hp1 hq1 he1 rfl (zdc 0 (hc2.below h.below) rfl ?_)
  obtain ⟨r1,hr2,hF⟩:=qe hF
  refine qdZ r1 (vsB _) (cB 39 rfl) (fun _ hb=>qac  hr2) rfl rfl rfl rfl (zd2 rfl (qaT (t:=16) hF rfl ?_ ?_))<;>intro hF
  ·refine Y0 15 rfl (dN h fun w2 h=>qdR rfl rfl (X0 4 rfl ?_))
   obtain rfl:=qb hF;replace hF:=hK1
   exact rb h hF rfl
  refine Y0 6 rfl (qaT (t:=19) hF rfl ?_ ?_)<;>intro hF
  ·refine Y0 7 rfl ?_
   obtain ⟨y2,hy2,hF,he2,b2,_,q2,cs3,hp2,hq2,rfl,hc3⟩:=s1.ix hF
   refine zdxe hp2 hq2 he2 rfl (Y0 1 rfl (zdc 0 (hc3.below h.below) rfl (Y0 5 rfl ?_)))
   obtain ⟨y3,hy3,hF,he3,b3,_,q3,cs4,hp3,hq3,rfl,hc4⟩:=s1.ix hF
   refine zdxe hp3 hq3 he3 rfl (Y0 1 rfl (zdc 0 (hc4.below h.below) rfl (Y0 5 rfl (dN h fun w3 h=>qr rfl hF ?_ ?_))))<;>intro hF
   ·refine X0 4 rfl ?_
    obtain rfl:=qb hF;replace hF:=hK1
    exact rb h hF rfl
   exact X0 7 rfl (rK ⟨_,hF,rfl,h⟩ rfl)
  exact Y0 13 rfl (dN h fun w4 h=>qdx rfl rfl (X0 7 rfl (rK ⟨_,hF,rfl,h⟩ rfl)))
 refine qw rfl ?_
 obtain rfl:=qb hF;replace hF:=hK1
 refine X0 6 rfl (qh (t:=35) hF rfl ?_ ?_)<;>intro hF
 ·exact X0 9 rfl (rb h hF rfl)
 exact X0 6 rfl (rb h hF rfl)
def qc6 (t:qF):Nat→Int→Option (Flow Bool Int)
 | 0,_=>none
 | n+1,i1 =>
  bif decide (i1<(t.Au.length:Int)) then
   (idx t.Au i1).bind fun y1 =>
   (qan n y1 (-1000000) 1000000).bind fun r1 =>
   bif (!r1) then some (.ret false) else
   qc6 t n (W64 (i1+1))
  else
   some (.nxt i1)
def qf5 (n:Nat) (t:qF):Option Bool :=
 (
  (qfp n t.Bf).bind fun r2 =>
  bif (!r2) then some true else
  (qfp n t.Be).bind fun r3 =>
  bif (!r3) then some true else
  some ((t.Au.length:Int) != (W64 ((t.Bf.length:Int)*(t.Be.length:Int))))).bind fun b1 =>
 bif b1 then some false else
 (qc6 t n 0).bind fun o=>match o with
 | .ret r=>some r
 | .nxt _ =>
  some true
theorem qjs {t:qF} (ha1:GoT.R w (old w) t cs1) {r:Bool} (hF:qf5 n t=some r):RetV Tryz.prog 184 [GoT.v qF cs1] w r:=by
 obtain ⟨p1,k1,p2,k2,p3,k3,rfl,s1,s2,s3⟩:=qdN ha1
 refine zV 41 Tryz.func184 rfl fun h=>zSR (qV h rfl rfl fun w1 bb1 h=>X0 4 rfl ?_)
 obtain ⟨KF1,hKF1,o2,hF,hK2⟩:=bindE hF
 refine qb5 (fun e w'=>∃ (b1:Bool),KF1 b1=some r∧e=[(1,.pointer (some ⟨bb1,0,none⟩)),(26,.bool b1)]∧SH w w' [Ch.box bb1 (qfd t p1 p2 p3 k1 k2 k3) 209]) ?_ ?_
 ·refine X1 3 0 h rfl (zcB h hF (qhm ⟨_,_,rfl,(h.oldS s1)⟩) rfl fun r2 w4 h hF=>zp2 rfl (qh (t:=8) hF rfl ?_ ?_))<;>intro hF
  ·refine X0 19 rfl ?_
   obtain rfl:=qb hF
   exact rG ⟨_,hK2,rfl,h⟩ rfl
  refine X1 5 0 h rfl (zcB h hF (qhm ⟨_,_,rfl,(h.oldS s2)⟩) rfl fun r3 w5 h hF=>X0 4 rfl (qh (t:=14) hF rfl ?_ ?_))<;>intro hF
  ·refine X0 13 rfl ?_
   obtain rfl:=qb hF
   exact rG ⟨_,hK2,rfl,h⟩ rfl
  refine X3 24 0 0 0 h rfl ?_
  obtain rfl:=qb hF
  exact rG ⟨_,hK2,rfl,h⟩ rfl
 rintro e2 w6 ⟨b1,hF,rfl,h⟩
 subst hKF1
 refine qr rfl hF ?_ ?_<;>intro hF
 ·exact X0 4 rfl (rb h hF rfl)
 refine X0 6 rfl ?_
 obtain ⟨o1,hF,hK1⟩:=qe hF
 refine qq (rL (fun m e w'=>∃ (i1:Int),qc6 t m i1=some o1∧e=[(1,.pointer (some ⟨bb1,0,none⟩)),(3,.int .i64 i1)]∧SH w w' [Ch.box bb1 (qfd t p1 p2 p3 k1 k2 k3) 209]) n ⟨_,hF,rfl,h⟩ rfl ?_)
 rintro m1 e1 w2 ⟨i1,hF,rfl,h⟩
 rcases m1 with _|m1
 ·cases hF
 refine X1 9 0 h rfl (qr rfl hF ?_ ?_)<;>intro hF
 ·refine X1 8 0 h rfl ?_
  obtain ⟨y1,hy1,hF,he1,b2,_,q1,cs2,hp1,hq1,rfl,hc3⟩:=s3.ix hF
  refine zxe hp1 hq1 he1 rfl (zc 0 (hc3.below h.below) rfl (zcB h hF qac rfl fun r1 w3 h hF=>X0 2 rfl (qr rfl hF ?_ ?_)))<;>intro hF
  ·refine X0 4 rfl ?_
   obtain rfl:=qb hF;replace hF:=hK1
   exact rb h hF rfl
  exact X0 7 rfl (rK ⟨_,hF,rfl,h⟩ rfl)
 refine qw rfl ?_
 obtain rfl:=qb hF;replace hF:=hK1
 exact X0 4 rfl (rb h hF rfl)
def qbH (t:qF):Nat→Int→Int→Int→Option (Int × Int × Int)
 | 0,_,_,_=>none
 | n+1,i1,i2,i3 =>
  bif decide (i3<(t.Au.length:Int)) then
   (idx t.Au i3).bind fun y3 =>
   (idx t.Au i3).bind fun y4 =>
   qbH t n (if y3<i1 then y3 else i1) (if y4 > i2 then y4 else i2) (W64 (i3+1))
  else
   some (i1,i2,i3)
def qev (n:Nat) (t:qF):Option (qf3 × Int) :=
 (qf5 n t).bind fun r1 =>
 bif (!r1) then some ((⟨0,0⟩:qf3),1) else
 (idx t.Au 0).bind fun y1 =>
 (idx t.Au 0).bind fun y2 =>
 (qbH t n y1 y2 1).bind fun o=>match o with
 | (i1,i2,_) =>
  some ((⟨i1,i2⟩:qf3),0)
theorem qib {t:qF} (ha1:GoT.R w (old w) t cs1) {r:(qf3 × Int)} (hF:qev n t=some r):RetV Tryz.prog 170 [GoT.v qF cs1] w r:=by
 obtain ⟨p1,k1,p2,k2,p3,k3,rfl,s1,s2,s3⟩:=qdN ha1
 refine zV 45 Tryz.func170 rfl fun h=>zSR (qV h rfl rfl fun w1 bb1 h=>qy qa h rfl rfl rfl fun w2 bb2 h=>X1 6 1 h rfl (zcB h hF (qjs (h.old ha1)) rfl fun r1 w3 h hF=>X0 2 rfl (qr rfl hF ?_ ?_)))<;>intro hF
 ·refine zSR (r_v (qay qa [] [] rfl rfl rfl rfl rfl rfl rfl rfl) rfl (zs 0 h rfl fun w4 h=>X0 2 rfl ?_))
  obtain rfl:=qb hF
  exact qa9 qa (ρ:=(qf3 × Int)) [GoT.v qf3 [.int .i64 0,.int .i64 0],GoT.v Int [.int .i64 1]] h ⟨⟨_,_,_,rfl,rfl,h.box 0 rfl,rfl⟩,rfl,trivial⟩ (PV.done h (qbU h (qN (S:=fun _=>False) (qkz (⟨0,0⟩:qf3))) (qbA (qN (S:=fun _=>False) rfl)) (by rfl)))
 refine zKS (rA [] [1] h rfl fun w5 h=>M1 3 [0,1] 0 (h.pick [1] rfl) rfl ?_)
 obtain ⟨y1,hy1,hF,he1,b1,_,q1,cs2,hp1,hq1,rfl,hc2⟩:=s3.ix hF
 refine Ae 2 7 hp1 hq1 he1 (h.pick [1] rfl) rfl (Al 3 15 0 hc2 (h.pick [1] rfl) rfl (M1 63 [4,5] 0 (h.pick [1] rfl) rfl ?_))
 obtain ⟨y2,hy2,hF,he2,b2,_,q2,cs3,hp2,hq2,rfl,hc3⟩:=s3.ix hF
 refine Ae 6 127 hp2 hq2 he2 (h.pick [1] rfl) rfl (Al 7 255 0 hc3 (h.pick [1] rfl) rfl (Aw 8 511 (fun w' hw=>qay qa [0,1] [.tmp 13,.tmp 17] rfl rfl rfl rfl rfl rfl rfl rfl) (h.pick [1] rfl) rfl ?_))
 refine Ao 9 1023 rfl (qy qa h rfl rfl rfl fun w6 bb3 h=>Ag (h.pick [2] rfl) (Ao 10 2047 rfl (zs 0 h rfl fun w7 h=>Ag (h.pick [2] rfl) (Ad (X0 5 rfl ?_)))))
 obtain ⟨o1,hF,hK1⟩:=qe hF
 refine qq (rL (fun m e w'=>∃ (i1:Int) (i2:Int) (i3:Int),qbH t m i1 i2 i3=some o1∧e=[(1,.pointer (some ⟨bb1,0,none⟩)),(2,.pointer (some ⟨bb2,0,none⟩)),(4,.pointer (some ⟨bb3,0,none⟩)),(5,.int .i64 i3)]∧SH w w' [Ch.box bb3 [.int .i64 i1,.int .i64 i2] 205,Ch.box bb2 [.int .i64 0,.int .i64 0] 205,Ch.box bb1 (qfd t p1 p2 p3 k1 k2 k3) 209]) n ⟨_,_,_,hF,rfl,h⟩ rfl ?_)
 rintro m1 e1 w8 ⟨i1,i2,i3,hF,rfl,h⟩
 rcases m1 with _|m1
 ·cases hF
 refine X1 9 2 h rfl (qr rfl hF ?_ ?_)<;>intro hF
 ·refine X0 4 rfl (rA [9] [0,2] h rfl fun w9 h=>M2 31 [0,1,2,3,4] 0 1 (h.pick [0,2] rfl) rfl ?_)
  obtain ⟨y3,hy3,hF,he3,b3,_,q3,cs4,hp3,hq3,rfl,hc5⟩:=s3.ix hF
  refine Ae 5 63 hp3 hq3 he3 (h.pick [0,2] rfl) rfl (Al 6 127 0 hc5 (h.pick [0,2] rfl) rfl (M0 511 [7,8] (h.pick [0,2] rfl) rfl (Ao 9 1023 rfl (zs 0 h rfl fun w10 h=>qen (fun hs=>absurd (hs 9 (by decide)) (by decide)) (Ad (rA [9] [0,2] h rfl fun w11 h=>M2 31 [0,1,2,3,4] 0 1 (h.pick [0,2] rfl) rfl ?_))))))
  obtain ⟨y4,hy4,hF,he4,b4,_,q4,cs5,hp4,hq4,rfl,hc6⟩:=s3.ix hF
  exact Ae 5 63 hp4 hq4 he4 (h.pick [0,2] rfl) rfl (Al 6 127 0 hc6 (h.pick [0,2] rfl) rfl (M0 511 [7,8] (h.pick [0,2] rfl) rfl (Ao 9 1023 rfl (zs 0 h rfl fun w12 h=>qen (fun hs=>absurd (hs 9 (by decide)) (by decide)) (Ad (X0 6 rfl (rK ⟨_,_,_,hF,rfl,h⟩ rfl)))))))
 refine qw rfl ?_
 obtain rfl:=qb hF;replace hF:=hK1
 refine X1 3 0 h rfl (zs 1 h rfl fun w13 h=>X0 2 rfl ?_)
 obtain rfl:=qb hF
 exact qa9 qa (ρ:=(qf3 × Int)) [GoT.v qf3 [.int .i64 i1,.int .i64 i2],GoT.v Int [.int .i64 0]] h ⟨⟨_,_,_,rfl,rfl,h.box 1 rfl,rfl⟩,rfl,trivial⟩ (PV.done h (qbU h (qN (S:=fun _=>False) (qkz (⟨i1,i2⟩:qf3))) (qbA (qN (S:=fun _=>False) rfl)) (by rfl)))
def qbx (list:(List qF)) (positive:Bool):Nat→Int→Option (Flow Bool Int)
 | 0,_=>none
 | n+1,i1 =>
  bif decide (i1<2) then
   (idx list i1).bind fun y1 =>
   (qev n y1).bind fun o=>match o with
    | (r2,r3) =>
     bif (r3 != 0) then some (.ret false) else
     bif positive then
      bif decide (r2.Bn<0) then some (.ret false) else
      qbx list positive n (W64 (i1+1))
     else
      qbx list positive n (W64 (i1+1))
  else
   some (.nxt i1)
def qcc (n:Nat) (list:(List qF)) (positive:Bool):Option Bool :=
 bif ((list.length:Int) != 2) then some false else
 (qbx list positive n 0).bind fun o=>match o with
 | .ret r=>some r
 | .nxt _ =>
  some true
theorem qdi {list:(List qF)} {positive:Bool} (ha1:GoT.R w (old w) list cs1) {r:Bool} (hF:qcc n list positive=some r):RetV Tryz.prog 162 [GoT.v (List qF) cs1,.bool positive] w r:=by
 obtain ⟨p1,k1,rfl,s1⟩:=ha1
 refine zV 33 Tryz.func162 rfl fun h=>X0 11 rfl (qr rfl hF ?_ ?_)<;>intro hF
 ·exact X0 4 rfl (rb h hF rfl)
 refine X0 6 rfl ?_
 obtain ⟨o1,hF,hK1⟩:=qe hF
 refine qq (rL (fun m e w'=>∃ (i1:Int),qbx list positive m i1=some o1∧e=[(0,.slice p1 list.length k1),(1,.bool positive),(5,.int .i64 i1)]∧SH w w' []) n ⟨_,hF,rfl,h⟩ rfl ?_)
 rintro m1 e1 w1 ⟨i1,hF,rfl,h⟩
 rcases m1 with _|m1
 ·cases hF
 refine X0 6 rfl (qr rfl hF ?_ ?_)<;>intro hF
 ·refine X0 7 rfl ?_
  obtain ⟨y1,hy1,hF,he1,b1,_,q1,cs2,hp1,hq1,hr1,hc3⟩:=s1.ix hF
  obtain ⟨p2,k2,p3,k3,p4,k4,rfl,s2,s3,s4⟩:=qdN hr1
  refine zxe hp1 hq1 he1 rfl (zc 0 (hc3.below h.below) rfl ?_)
  obtain ⟨r1,hr2,hF⟩:=qe hF
  obtain ⟨r2,r3⟩:=r1
  refine qep (r2,r3) h (cB 170 rfl) (qib (qjR y1 (h.oldS s2) (h.oldS s3) (h.oldS s4)) hr2) rfl rfl rfl rfl fun w2 S1 us1 hv1 hr3=>?_
  obtain ⟨S2,S3,cs3,us2,rfl,hv2,hr4⟩:=hv1.cons hr3
  obtain rfl:=ql3 (hv2.sh.own 0 rfl)
  obtain ⟨rfl,h⟩:=hv2.lastI hr4
  refine zp3 rfl (qy qa h rfl rfl rfl fun w3 bb1 h=>zs 0 h rfl fun w4 h=>X0 7 rfl (qh (t:=25) hF rfl ?_ ?_))<;>intro hF
  ·refine X0 8 rfl (qdR rfl rfl (X0 4 rfl ?_))
   obtain rfl:=qb hF;replace hF:=hK1
   exact rb h hF rfl
  refine X0 4 rfl (qh (t:=27) hF rfl ?_ ?_)<;>intro hF
  ·refine X1 10 0 h rfl (qr rfl hF ?_ ?_)<;>intro hF
   ·refine X0 4 rfl ?_
    obtain rfl:=qb hF;replace hF:=hK1
    exact rb h hF rfl
   refine X0 7 rfl ?_
   replace h:=h.pick [] rfl
   exact rK ⟨_,hF,rfl,h⟩ rfl
  refine X0 7 rfl (qdx rfl rfl (X0 7 rfl ?_))
  replace h:=h.pick [] rfl
  exact rK ⟨_,hF,rfl,h⟩ rfl
 refine qw rfl ?_
 obtain rfl:=qb hF;replace hF:=hK1
 exact X0 4 rfl (rb h hF rfl)
def qgH (n:Nat) (a_0:qk) (a_1:qS):Option Bool :=
 (
  (qan n a_1.Ay 0 (W64 ((W64 ((a_0.Ap.length:Int)-1))-1))).bind fun r7 =>
  bif (!r7) then some true else
  (qan n a_1.To 0 (W64 ((a_0.Ap.length:Int)-1))).bind fun r8 =>
  some (!r8)).bind fun b1 =>
 bif b1 then some false else
 (idx a_0.Ap a_1.Ay).bind fun y1 =>
 bif (a_1.Aq==1) then
  bif (!y1.Ba) then
   bif (a_1.To==(W64 ((a_0.Ap.length:Int)-1))) then
    (qan n a_1.Bg 1 3).bind fun r1 =>
    bif r1 then
     (qcc n a_1.Bh true).bind fun r2 =>
     bif r2 then
      (qcc n a_1.Bk true).bind fun r3 =>
      some r3
     else
      some false
    else
     some false
   else
    some false
  else
   some false
 else
  (
   bif (a_1.Aq==2) then some (a_1.Aq==2) else
   some (a_1.Aq==3)).bind fun b3 =>
  bif b3 then
   bif y1.Ba then
    bif (a_1.To==(W64 ((a_0.Ap.length:Int)-1))) then
     bif (a_1.Bg==0) then
      (qcc n a_1.Bh true).bind fun r4 =>
      bif r4 then
       (qcc n a_1.Bk true).bind fun r5 =>
       some r5
      else
       some false
     else
      some false
    else
     some false
   else
    some false
  else
   (
    bif (a_1.Aq==4) then some (a_1.Aq==4) else
    some (a_1.Aq==5)).bind fun b4 =>
   bif b4 then
    bif y1.Ba then
     bif decide (a_1.To<(W64 ((a_0.Ap.length:Int)-1))) then
      (idx a_0.Ap a_1.To).bind fun y2 =>
      bif (!y2.Ba) then
       bif (a_1.Bg==0) then
        (qcc n a_1.Bh false).bind fun r6 =>
        bif r6 then some ((a_1.Bk.length:Int)==0) else
        some false
       else
        some false
      else
       some false
     else
      some false
    else
     some false
   else
    some false
theorem qj5 {a_0:qk} {a_1:qS} (ha1:GoT.R w (old w) a_0 cs1) (ha2:GoT.R w (old w) a_1 cs2) {r:Bool} (hF:qgH n a_0 a_1=some r):RetV Tryz.prog 153 [GoT.v qk cs1,GoT.v qS cs2] w r:=by
 obtain ⟨p1,k1,p2,k2,p3,k3,rfl,s1,s2,s3⟩:=qE ha1
 obtain ⟨p4,k4,p5,k5,rfl,s4,s5⟩:=qaj ha2
 refine zV 119 Tryz.func153 rfl fun h=>zSR (qV h rfl rfl fun w1 bb1 h=>qV h rfl rfl fun w2 bb2 h=>X1 12 1 h rfl ?_)
 obtain ⟨KF3,hKF3,o3,hF,hK3⟩:=bindE hF
 refine qb5 (fun e w'=>∃ (b1:Bool),KF3 b1=some r∧e=[(2,.pointer (some ⟨bb1,0,none⟩)),(3,.pointer (some ⟨bb2,0,none⟩)),(5,.int .i64 (W64 ((a_0.Ap.length:Int)-1))),(23,.bool b1)]∧SH w w' [Ch.box bb2 (qeo a_1 p4 p5 k4 k5) 133,Ch.box bb1 (qt a_0 p1 p2 p3 k1 k2 k3) 128]) ?_ ?_
 ·refine X1 5 0 h rfl (zcB h hF qac rfl fun r7 w11 h hF=>zp2 rfl (qh (t:=17) hF rfl ?_ ?_))<;>intro hF
  ·refine X0 7 rfl ?_
   obtain rfl:=qb hF
   exact rG ⟨_,hK3,rfl,h⟩ rfl
  refine X1 7 0 h rfl (zcB h hF qac rfl fun r8 w12 h hF=>X0 4 rfl ?_)
  obtain rfl:=qb hF
  exact rG ⟨_,hK3,rfl,h⟩ rfl
 rintro e3 w13 ⟨b1,hF,rfl,h⟩
 subst hKF3
 refine qr rfl hF ?_ ?_<;>intro hF
 ·exact X0 4 rfl (rb h hF rfl)
 refine X2 7 1 0 h rfl ?_
 obtain ⟨y1,hy1,hF,he1,b2,_,q1,cs3,hp1,hq1,hr1,hc2⟩:=s1.ix hF
 obtain rfl:=qcS hr1
 refine zxe hp1 hq1 he1 rfl (zp1 rfl (zc 3 (hc2.below h.below) rfl (X1 14 0 h rfl (qr rfl hF ?_ ?_))))<;>intro hF
 ·refine X0 5 rfl (qh (t:=37) hF rfl ?_ ?_)<;>intro hF
  ·refine X1 10 0 h rfl (qh (t:=43) hF rfl ?_ ?_)<;>intro hF
   ·refine X1 5 0 h rfl (zcB h hF qac rfl fun r1 w3 h hF=>zp2 rfl (qh (t:=48) hF rfl ?_ ?_))<;>intro hF
    ·refine X1 5 0 h rfl (zcB h hF (qdi ⟨_,_,rfl,(h.oldS s4)⟩) rfl fun r2 w4 h hF=>zp2 rfl (qh (t:=53) hF rfl ?_ ?_))<;>intro hF
     ·exact X1 5 0 h rfl (zcB h hF (qdi ⟨_,_,rfl,(h.oldS s5)⟩) rfl fun r3 w5 h hF=>X0 3 rfl (rb h hF rfl))
     exact X0 6 rfl (rb h hF rfl)
    exact X0 11 rfl (rb h hF rfl)
   exact X0 16 rfl (rb h hF rfl)
  exact X0 22 rfl (rb h hF rfl)
 refine X0 6 rfl ?_
 obtain ⟨KF2,hKF2,o2,hF,hK2⟩:=bindE hF
 refine qb5 (fun e w'=>∃ (b3:Bool),KF2 b3=some r∧e=[(2,.pointer (some ⟨bb1,0,none⟩)),(3,.pointer (some ⟨bb2,0,none⟩)),(5,.int .i64 (W64 ((a_0.Ap.length:Int)-1))),(6,.bool y1.Ba),(32,.int .i64 a_1.Aq),(58,.bool b3)]∧SH w w' [Ch.box bb2 (qeo a_1 p4 p5 k4 k5) 133,Ch.box bb1 (qt a_0 p1 p2 p3 k1 k2 k3) 128]) ?_ ?_
 ·refine qr rfl hF ?_ ?_<;>intro hF
  ·refine qf1 ?_
   obtain rfl:=qb hF
   exact rG ⟨_,hK2,rfl,h⟩ rfl
  refine X0 4 rfl ?_
  obtain rfl:=qb hF
  exact rG ⟨_,hK2,rfl,h⟩ rfl
 rintro e2 w10 ⟨b3,hF,rfl,h⟩
 subst hKF2
 refine qr rfl hF ?_ ?_<;>intro hF
 ·refine X0 4 rfl (qh (t:=62) hF rfl ?_ ?_)<;>intro hF
  ·refine X1 10 0 h rfl (qh (t:=68) hF rfl ?_ ?_)<;>intro hF
   ·refine X1 8 0 h rfl (qh (t:=73) hF rfl ?_ ?_)<;>intro hF
    ·refine X1 5 0 h rfl (zcB h hF (qdi ⟨_,_,rfl,(h.oldS s4)⟩) rfl fun r4 w6 h hF=>zp2 rfl (qh (t:=78) hF rfl ?_ ?_))<;>intro hF
     ·exact X1 5 0 h rfl (zcB h hF (qdi ⟨_,_,rfl,(h.oldS s5)⟩) rfl fun r5 w7 h hF=>X0 3 rfl (rb h hF rfl))
     exact X0 6 rfl (rb h hF rfl)
    exact X0 11 rfl (rb h hF rfl)
   exact X0 16 rfl (rb h hF rfl)
  exact X0 22 rfl (rb h hF rfl)
 refine X0 6 rfl ?_
 obtain ⟨KF1,hKF1,o1,hF,hK1⟩:=bindE hF
 refine qb5 (fun e w'=>∃ (b4:Bool),KF1 b4=some r∧e=[(2,.pointer (some ⟨bb1,0,none⟩)),(3,.pointer (some ⟨bb2,0,none⟩)),(5,.int .i64 (W64 ((a_0.Ap.length:Int)-1))),(6,.bool y1.Ba),(83,.bool b4)]∧SH w w' [Ch.box bb2 (qeo a_1 p4 p5 k4 k5) 133,Ch.box bb1 (qt a_0 p1 p2 p3 k1 k2 k3) 128]) ?_ ?_
 ·refine qr rfl hF ?_ ?_<;>intro hF
  ·refine qf1 ?_
   obtain rfl:=qb hF
   exact rG ⟨_,hK1,rfl,h⟩ rfl
  refine X0 4 rfl ?_
  obtain rfl:=qb hF
  exact rG ⟨_,hK1,rfl,h⟩ rfl
 rintro e1 w9 ⟨b4,hF,rfl,h⟩
 subst hKF1
 refine qr rfl hF ?_ ?_<;>intro hF
 ·refine X0 4 rfl (qh (t:=87) hF rfl ?_ ?_)<;>intro hF
  ·refine X1 10 0 h rfl (qh (t:=93) hF rfl ?_ ?_)<;>intro hF
   ·refine X2 9 1 0 h rfl ?_
    obtain ⟨y2,hy2,hF,he2,b5,_,q2,cs4,hp2,hq2,hr7,hc6⟩:=s1.ix hF
    obtain rfl:=qcS hr7
    refine zxe hp2 hq2 he2 rfl (X0 3 rfl (zc 3 (hc6.below h.below) rfl (X0 4 rfl (qh (t:=103) hF rfl ?_ ?_))))<;>intro hF
    ·refine X1 8 0 h rfl (qh (t:=108) hF rfl ?_ ?_)<;>intro hF
     ·refine X1 5 0 h rfl (zcB h hF (qdi ⟨_,_,rfl,(h.oldS s4)⟩) rfl fun r6 w8 h hF=>zp2 rfl (qh (t:=113) hF rfl ?_ ?_))<;>intro hF
      ·exact X1 11 0 h rfl (rb h hF rfl)
      exact X0 7 rfl (rb h hF rfl)
     exact X0 12 rfl (rb h hF rfl)
    exact X0 17 rfl (rb h hF rfl)
   exact X0 27 rfl (rb h hF rfl)
  exact X0 33 rfl (rb h hF rfl)
 exact X0 6 rfl (rb h hF rfl)
def qb2 (c:qk):Nat→(List Int)→Int→Option ((List Int) × Int)
 | 0,_,_=>none
 | n+1,x2,i1 =>
  bif decide (i1<(c.Am.length:Int)) then
   (idx c.Am i1).bind fun y1 =>
   (idx x2 y1.Aq).bind fun y2 =>
   (idx x2 y1.Aq).bind fun _ =>
   qb2 c n (setS x2 y1.Aq (W64 (y2+1))) (W64 (i1+1))
  else
   some (x2,i1)
def qfG (n:Nat) (c:qk):Option (List Int) :=
 (mkS 6 (0:Int)).bind fun x1 =>
 (qb2 c n x1 0).bind fun o=>match o with
 | (x2,_) =>
  some x2
theorem qi6 {c:qk} (ha1:GoT.R w (old w) c cs1) {r:(List Int)} (hF:qfG n c=some r):RetV Tryz.prog 154 [GoT.v qk cs1] w r:=by
 obtain ⟨p1,k1,p2,k2,p3,k3,rfl,s1,s2,s3⟩:=qE ha1
 refine zV 25 Tryz.func154 rfl fun h=>zSR (qV h rfl rfl fun w1 bb1 h=>X0 4 rfl ?_)
 obtain ⟨x1,hx1,hF⟩:=qe hF
 obtain ⟨g1,g2,hx1⟩:=qfU hx1
 refine qgy qa Int h rfl rfl rfl rfl rfl rfl rfl rfl rfl g1 g2 hx1 rfl fun w2 S1 p4 h=>X0 7 rfl ?_
 obtain ⟨o1,hF,hK1⟩:=qe hF
 refine qq (rL (fun m e w'=>∃ (x2:(List Int)) (i1:Int),qb2 c m x2 i1=some o1∧e=[(1,.pointer (some ⟨bb1,0,none⟩)),(3,.slice p4 x1.length x1.length),(4,.int .i64 i1)]∧SH w w' [Ch.own S1 (x2:List Int) [.slice p4 x1.length x1.length],Ch.box bb1 (qt c p1 p2 p3 k1 k2 k3) 128]) n ⟨_,_,hF,rfl,h⟩ rfl ?_)
 rintro m1 e1 w3 ⟨x2,i1,hF,rfl,h⟩
 rcases m1 with _|m1
 ·cases hF
 refine X1 9 1 h rfl (qr rfl hF ?_ ?_)<;>intro hF
 ·refine X1 8 1 h rfl ?_
  obtain ⟨y1,hy1,hF,he1,b1,_,q1,cs2,hp1,hq1,hr1,hc2⟩:=s2.ix hF
  obtain ⟨p5,k4,p6,k5,rfl,s4,s5⟩:=qaj hr1
  refine zxe hp1 hq1 he1 rfl (zp1 rfl (zc 0 (hc2.below h.below) rfl ?_))
  obtain ⟨y2,hy2,hF,he2,b2,_,q2,cs3,hp2,hq2,rfl,hc3⟩:=(h.sl 0 rfl).1.ix hF
  refine zx hp2 hq2 ⟨he2.1,qY he2.2.1 (h.sl 0 rfl).2⟩ rfl (zc 0 hc3 rfl (zp1 rfl ?_))
  obtain ⟨y3,hy3,hF,he3,b3,_,q3,cs4,hp3,hq3,rfl,hc4⟩:=(h.sl 0 rfl).1.ix hF
  exact zx hp3 hq3 ⟨he3.1,qY he3.2.1 (h.sl 0 rfl).2⟩ rfl (qde qa 0 0 (W64 (y2+1)) h rfl hy3 hp3 hq3 rfl hc4 rfl rfl rfl rfl rfl rfl rfl fun w4 h=>X0 7 rfl (rK ⟨_,_,hF,rfl,h⟩ rfl))
 refine qw rfl ?_
 obtain rfl:=qb hF;replace hF:=hK1
 refine X0 5 rfl ?_
 obtain rfl:=qb hF
 exact rO 0 h rfl ⟨rfl,trivial⟩
def qca (a_0:qk) (i1:Int) (y1:qS):Nat→Int→Option (Flow Bool Int)
 | 0,_=>none
 | n+1,i2 =>
  bif decide (i2<i1) then
   (idx a_0.Am i2).bind fun y2 =>
   bif (y2.Aq==y1.Aq) then
    (idx a_0.Am i2).bind fun y3 =>
    bif (y3.Ay==y1.Ay) then
     (idx a_0.Am i2).bind fun y4 =>
     bif (y4.To==y1.To) then some (.ret false) else
     qca a_0 i1 y1 n (W64 (i2+1))
    else
     qca a_0 i1 y1 n (W64 (i2+1))
   else
    qca a_0 i1 y1 n (W64 (i2+1))
  else
   some (.nxt i2)
def qdF (a_0:qk):Nat→Int→Option (Flow Bool Int)
 | 0,_=>none
 | n+1,i3 =>
  bif decide (i3<(a_0.Az.length:Int)) then
   (idx a_0.Az i3).bind fun y5 =>
   (qan n y5 0 1).bind fun r6 =>
   bif (!r6) then some (.ret false) else
   qdF a_0 n (W64 (i3+1))
  else
   some (.nxt i3)
def qdG (a_0:qk):Nat→Int→Option (Flow Bool Int)
 | 0,_=>none
 | n+1,i1 =>
  bif decide (i1<(a_0.Am.length:Int)) then
   (idx a_0.Am i1).bind fun y1 =>
   (qgH n a_0 y1).bind fun r4 =>
   bif (!r4) then some (.ret false) else
   (qca a_0 i1 y1 n 0).bind fun o=>match o with
   | .ret r=>some (.ret r)
   | .nxt _ =>
    qdG a_0 n (W64 (i1+1))
  else
   some (.nxt i1)
def qgx (n:Nat) (a_0:qk):Option Bool :=
 (qf4 n a_0).bind fun o=>match o with
  | (r2,r3) =>
   (
    bif (!r3) then some true else
    (qeE n a_0.Ar).bind fun r7 =>
    bif (!r7) then some true else
    bif decide ((a_0.Am.length:Int) > 8) then some true else
    (qan n a_0.Bm 0 100000).bind fun r8 =>
    bif (!r8) then some true else
    (qan n a_0.Bi 0 100000).bind fun r9 =>
    some (!r9)).bind fun b1 =>
   bif b1 then some false else
   (qdG a_0 n 0).bind fun o=>match o with
   | .ret r=>some r
   | .nxt _ =>
    (qfG n a_0).bind fun r5 =>
    bif (a_0.Aq==1) then
     (qdF a_0 n 0).bind fun o=>match o with
     | .ret r=>some r
     | .nxt _ =>
      bif (r2==0) then
       (shlS 1 (IntKind.wrap .u64 (W64 ((a_0.Ap.length:Int)-1)))).bind fun y6 =>
       some ((a_0.Az.length:Int)==y6)
      else
       some false
    else
     bif (a_0.Aq==2) then
      bif (r2==1) then
       (idx r5 1).bind fun y7 =>
       bif (y7==0) then
        (idx r5 2).bind fun y8 =>
        (idx r5 3).bind fun y9 =>
        bif (!((decide (y8 > 0))==(decide (y9 > 0)))) then some ((a_0.Az.length:Int)==0) else
        some false
       else
        some false
      else
       some false
     else
      bif (a_0.Aq==3) then
       bif (r2==1) then
        (idx r5 1).bind fun y10 =>
        bif decide (y10 > 0) then
         (idx r5 2).bind fun y11 =>
         bif decide (y11 > 0) then
          (idx r5 3).bind fun y12 =>
          bif (y12==0) then some ((a_0.Az.length:Int)==0) else
          some false
         else
          some false
        else
         some false
       else
        some false
      else
       some false
theorem qjZ {a_0:qk} (ha1:GoT.R w (old w) a_0 cs1) {r:Bool} (hF:qgx n a_0=some r):RetV Tryz.prog 136 [GoT.v qk cs1] w r:=by
 obtain ⟨p1,k1,p2,k2,p3,k3,rfl,s1,s2,s3⟩:=qE ha1
 refine zV 182 Tryz.func136 rfl fun h=>zSR (qV h rfl rfl fun w1 bb1 h=>X1 5 0 h rfl ?_)
 obtain ⟨r1,hr1,hF⟩:=qe hF
 obtain ⟨r2,r3⟩:=r1
 refine qep (r2,r3) h (cB 152 rfl) (qjz (h.old ha1) hr1) rfl rfl rfl rfl fun w2 S1 us1 hv1 hr2=>?_
 obtain ⟨S2,us2,rfl,hv2,hr3⟩:=hv1.consI hr2
 obtain ⟨rfl,h⟩:=hv2.lastB hr3
 refine X0 8 rfl ?_
 obtain ⟨KF1,hKF1,o4,hF,hK4⟩:=bindE hF
 refine qb5 (fun e w'=>∃ (b1:Bool),KF1 b1=some r∧e=[(1,.pointer (some ⟨bb1,0,none⟩)),(3,.int .i64 r2),(40,.bool b1)]∧SH w w' [Ch.box bb1 (qt a_0 p1 p2 p3 k1 k2 k3) 128]) ?_ ?_
 ·refine X0 4 rfl (qh (t:=17) hF rfl ?_ ?_)<;>intro hF
  ·refine X0 24 rfl ?_
   obtain rfl:=qb hF
   exact rG ⟨_,hK4,rfl,h⟩ rfl
  refine X1 5 0 h rfl (zcB h hF qf0 rfl fun r7 w18 h hF=>X0 4 rfl (qh (t:=23) hF rfl ?_ ?_))<;>intro hF
  ·refine X0 18 rfl ?_
   obtain rfl:=qb hF
   exact rG ⟨_,hK4,rfl,h⟩ rfl
  refine X1 10 0 h rfl (qh (t:=29) hF rfl ?_ ?_)<;>intro hF
  ·refine X0 12 rfl ?_
   obtain rfl:=qb hF
   exact rG ⟨_,hK4,rfl,h⟩ rfl
  refine X1 5 0 h rfl (zcB h hF qac rfl fun r8 w19 h hF=>X0 4 rfl (qh (t:=35) hF rfl ?_ ?_))<;>intro hF
  ·refine X0 6 rfl ?_
   obtain rfl:=qb hF
   exact rG ⟨_,hK4,rfl,h⟩ rfl
  refine X1 5 0 h rfl (zcB h hF qac rfl fun r9 w20 h hF=>X0 4 rfl ?_)
  obtain rfl:=qb hF
  exact rG ⟨_,hK4,rfl,h⟩ rfl
 rintro e4 w21 ⟨b1,hF,rfl,h⟩
 subst hKF1
 refine qr rfl hF ?_ ?_<;>intro hF
 ·exact X0 4 rfl (rb h hF rfl)
 refine X0 6 rfl ?_
 obtain ⟨o1,hF,hK1⟩:=qe hF
 refine qq (rL (fun m e w'=>∃ (i1:Int),qdG a_0 m i1=some o1∧e=[(1,.pointer (some ⟨bb1,0,none⟩)),(3,.int .i64 r2),(5,.int .i64 i1)]∧SH w w' [Ch.box bb1 (qt a_0 p1 p2 p3 k1 k2 k3) 128]) n ⟨_,hF,rfl,h⟩ rfl ?_)
 rintro m1 e1 w3 ⟨i1,hF,rfl,h⟩
 rcases m1 with _|m1
 ·cases hF
 refine X1 9 0 h rfl (qr rfl hF ?_ ?_)<;>intro hF
 ·refine X1 8 0 h rfl ?_
  obtain ⟨y1,hy1,hF,he1,b2,_,q1,cs2,hp1,hq1,hr5,hc3⟩:=s2.ix hF
  obtain ⟨p4,k4,p5,k5,rfl,s4,s5⟩:=qaj hr5
  refine zxe hp1 hq1 he1 rfl (zc 0 (hc3.below h.below) rfl (qy qa h rfl rfl rfl fun w4 bb2 h=>zs 0 h rfl fun w5 h=>X2 6 1 0 h rfl (zcB h hF (qj5 (h.old ha1) (qfL y1 (h.oldS s4) (h.oldS s5))) rfl fun r4 w6 h hF=>X0 2 rfl (qr rfl hF ?_ ?_))))<;>intro hF
  ·refine X0 4 rfl ?_
   obtain rfl:=qb hF;replace hF:=hK1
   exact rb h hF rfl
  refine X0 5 rfl ?_
  obtain ⟨o2,hF,hK2⟩:=qe hF
  refine qq (rL (fun m e w'=>∃ (i2:Int),qca a_0 i1 y1 m i2=some o2∧e=[(1,.pointer (some ⟨bb1,0,none⟩)),(3,.int .i64 r2),(5,.int .i64 i1),(6,.pointer (some ⟨bb2,0,none⟩)),(7,.int .i64 i2)]∧SH w w' [Ch.box bb2 (qeo y1 p4 p5 k4 k5) 133,Ch.box bb1 (qt a_0 p1 p2 p3 k1 k2 k3) 128]) m1 ⟨_,hF,rfl,h⟩ rfl ?_)
  rintro m2 e2 w7 ⟨i2,hF,rfl,h⟩
  rcases m2 with _|m2
  ·cases hF
  refine X0 7 rfl (qr rfl hF ?_ ?_)<;>intro hF
  ·refine X0 4 rfl (rD (Y1 2 1 h rfl ?_))
   refine zd1 rfl ?_
   obtain ⟨y2,hy2,hF,he2,b3,_,q2,cs3,hp2,hq2,hr7,hc6⟩:=s2.ix hF
   obtain ⟨p6,k6,p7,k7,rfl,s6,s7⟩:=qaj hr7
   refine zdxe hp2 hq2 he2 rfl (zd1 rfl (zdc 0 (hc6.below h.below) rfl (Y1 2 0 h rfl ?_)))
   refine zd2 rfl (qaT (t:=71) hF rfl ?_ ?_)<;>intro hF
   ·refine Y1 4 1 h rfl ?_
    refine Y0 3 rfl ?_
    obtain ⟨y3,hy3,hF,he3,b4,_,q3,cs4,hp3,hq3,hr8,hc7⟩:=s2.ix hF
    obtain ⟨p8,k8,p9,k9,rfl,s8,s9⟩:=qaj hr8
    refine zdxe hp3 hq3 he3 rfl (Y0 3 rfl (zdc 1 (hc7.below h.below) rfl (Y1 4 0 h rfl ?_)))
    refine Y0 4 rfl (qaT (t:=82) hF rfl ?_ ?_)<;>intro hF
    ·refine Y1 4 1 h rfl ?_
     refine Y0 3 rfl ?_
     obtain ⟨y4,hy4,hF,he4,b5,_,q4,cs5,hp4,hq4,hr9,hc8⟩:=s2.ix hF
     obtain ⟨p10,k10,p11,k11,rfl,s10,s11⟩:=qaj hr9
     refine zdxe hp4 hq4 he4 rfl (Y0 3 rfl (zdc 2 (hc8.below h.below) rfl (Y1 4 0 h rfl ?_)))
     refine Y0 3 rfl (dN h fun w8 h=>qr rfl hF ?_ ?_)<;>intro hF
     ·refine X0 4 rfl ?_
      obtain rfl:=qb hF;replace hF:=hK2
      obtain rfl:=qb hF;replace hF:=hK1
      exact rb h hF rfl
     exact X0 7 rfl (rK ⟨_,hF,rfl,h⟩ rfl)
    exact Y0 10 rfl (dN h fun w9 h=>qdx rfl rfl (X0 7 rfl (rK ⟨_,hF,rfl,h⟩ rfl)))
   exact Y0 21 rfl (dN h fun w10 h=>qdx rfl rfl (X0 7 rfl (rK ⟨_,hF,rfl,h⟩ rfl)))
  refine qw rfl ?_
  obtain rfl:=qb hF;replace hF:=hK2
  refine X0 6 rfl ?_
  replace h:=h.pick [1] rfl
  exact rK ⟨_,hF,rfl,h⟩ rfl
 refine qw rfl ?_
 obtain rfl:=qb hF;replace hF:=hK1
 refine X1 3 0 h rfl (zcL h hF (qi6 (h.old ha1)) rfl fun r5 w11 S4 p12 k12 h hF=>X1 14 1 h rfl (qr rfl hF ?_ ?_))<;>intro hF
 ·refine X0 5 rfl ?_
  obtain ⟨o3,hF,hK3⟩:=qe hF
  refine qq ?_
  replace h:=h.pick [1] rfl
  refine rL (fun m e w'=>∃ (i3:Int),qdF a_0 m i3=some o3∧e=[(1,.pointer (some ⟨bb1,0,none⟩)),(3,.int .i64 r2),(9,.int .i64 i3)]∧SH w w' [Ch.box bb1 (qt a_0 p1 p2 p3 k1 k2 k3) 128]) n ⟨_,hF,rfl,h⟩ rfl ?_
  rintro m3 e3 w12 ⟨i3,hF,rfl,h⟩
  rcases m3 with _|m3
  ·cases hF
  refine X1 9 0 h rfl (qr rfl hF ?_ ?_)<;>intro hF
  ·refine X1 8 0 h rfl ?_
   obtain ⟨y5,hy5,hF,he5,b6,_,q5,cs6,hp5,hq5,rfl,hc12⟩:=s3.ix hF
   refine zxe hp5 hq5 he5 rfl (zc 0 (hc12.below h.below) rfl (zcB h hF qac rfl fun r6 w13 h hF=>X0 2 rfl (qr rfl hF ?_ ?_)))<;>intro hF
   ·refine X0 4 rfl ?_
    obtain rfl:=qb hF;replace hF:=hK3
    exact rb h hF rfl
   exact X0 7 rfl (rK ⟨_,hF,rfl,h⟩ rfl)
  refine qw rfl ?_
  obtain rfl:=qb hF;replace hF:=hK3
  refine X0 5 rfl (qh (t:=115) hF rfl ?_ ?_)<;>intro hF
  ·refine X2 17 0 0 h rfl ?_
   obtain ⟨y6,hx1,hF⟩:=qe hF
   obtain ⟨g1,hx1⟩:=qjd hx1
   refine r_v (qnh g1 rfl rfl) rfl ?_
   rw [hx1]
   exact X0 5 rfl (rb h hF rfl)
  exact X0 13 rfl (rb h hF rfl)
 refine X0 5 rfl (qr rfl hF ?_ ?_)<;>intro hF
 ·refine qeq (rD (zd3 rfl (qaT (t:=131) hF rfl ?_ ?_)))<;>intro hF
  ·refine Y0 3 rfl ?_
   obtain ⟨y7,hy6,hF,he6,b7,_,q6,cs7,hp6,hq6,rfl,hc15⟩:=(h.sl 0 rfl).1.ix hF
   refine zdx hp6 hq6 ⟨he6.1,qY he6.2.1 (h.sl 0 rfl).2⟩ rfl (Y0 1 rfl (zdc 0 hc15 rfl (Y0 4 rfl (qaT (t:=137) hF rfl ?_ ?_))))<;>intro hF
   ·refine Y0 3 rfl ?_
    obtain ⟨y8,hy7,hF,he7,b8,_,q7,cs8,hp7,hq7,rfl,hc16⟩:=(h.sl 0 rfl).1.ix hF
    refine zdx hp7 hq7 ⟨he7.1,qY he7.2.1 (h.sl 0 rfl).2⟩ rfl (Y0 1 rfl (zdc 0 hc16 rfl (Y0 5 rfl ?_)))
    obtain ⟨y9,hy8,hF,he8,b9,_,q8,cs9,hp8,hq8,rfl,hc17⟩:=(h.sl 0 rfl).1.ix hF
    refine zdx hp8 hq8 ⟨he8.1,qY he8.2.1 (h.sl 0 rfl).2⟩ rfl (Y0 1 rfl (zdc 0 hc17 rfl (Y0 6 rfl (qaT (t:=148) hF rfl ?_ ?_))))<;>intro hF
    ·refine Y1 4 1 h rfl ?_
     exact Y0 6 rfl (dN h fun w14 h=>rb h hF rfl)
    exact Y0 6 rfl (dN h fun w15 h=>rb h hF rfl)
   exact Y0 17 rfl (dN h fun w16 h=>rb h hF rfl)
  exact Y0 23 rfl (dN h fun w17 h=>rb h hF rfl)
 refine X0 5 rfl (qr rfl hF ?_ ?_)<;>intro hF
 ·refine X0 5 rfl (qh (t:=158) hF rfl ?_ ?_)<;>intro hF
  ·refine X0 3 rfl ?_
   obtain ⟨y10,hy9,hF,he9,b10,_,q9,cs10,hp9,hq9,rfl,hc19⟩:=(h.sl 0 rfl).1.ix hF
   refine zx hp9 hq9 ⟨he9.1,qY he9.2.1 (h.sl 0 rfl).2⟩ rfl (X0 1 rfl (zc 0 hc19 rfl (X0 4 rfl (qh (t:=164) hF rfl ?_ ?_))))<;>intro hF
   ·refine X0 3 rfl ?_
    obtain ⟨y11,hy10,hF,he10,b11,_,q10,cs11,hp10,hq10,rfl,hc20⟩:=(h.sl 0 rfl).1.ix hF
    refine zx hp10 hq10 ⟨he10.1,qY he10.2.1 (h.sl 0 rfl).2⟩ rfl (X0 1 rfl (zc 0 hc20 rfl (X0 4 rfl (qh (t:=170) hF rfl ?_ ?_))))<;>intro hF
    ·refine X0 3 rfl ?_
     obtain ⟨y12,hy11,hF,he11,b12,_,q11,cs12,hp11,hq11,rfl,hc21⟩:=(h.sl 0 rfl).1.ix hF
     refine zx hp11 hq11 ⟨he11.1,qY he11.2.1 (h.sl 0 rfl).2⟩ rfl (X0 1 rfl (zc 0 hc21 rfl (X0 4 rfl (qh (t:=176) hF rfl ?_ ?_))))<;>intro hF
     ·exact X1 11 1 h rfl (rb h hF rfl)
     exact X0 7 rfl (rb h hF rfl)
    exact X0 13 rfl (rb h hF rfl)
   exact X0 19 rfl (rb h hF rfl)
  exact X0 25 rfl (rb h hF rfl)
 exact X0 6 rfl (rb h hF rfl)
def qcf (l:qi) (i1:Int):Nat→Int→Option (Flow Bool Int)
 | 0,_=>none
 | n+1,i2 =>
  bif decide (i2<i1) then
   (idx l.Ak i2).bind fun y2 =>
   (idx l.Ak i1).bind fun y3 =>
   bif (y2.Ar.toList==y3.Ar.toList) then some (.ret false) else
   qcf l i1 n (W64 (i2+1))
  else
   some (.nxt i2)
def qcg (l:qi):Nat→Int→Option (Flow Bool Int)
 | 0,_=>none
 | n+1,i1 =>
  bif decide (i1<(l.Ak.length:Int)) then
   (idx l.Ak i1).bind fun y1 =>
   (qgx n y1).bind fun r1 =>
   bif (!r1) then some (.ret false) else
   (qcf l i1 n 0).bind fun o=>match o with
   | .ret r=>some (.ret r)
   | .nxt _ =>
    qcg l n (W64 (i1+1))
  else
   some (.nxt i1)
def qe8 (n:Nat) (l:qi):Option Bool :=
 (qcg l n 0).bind fun o=>match o with
 | .ret r=>some r
 | .nxt _ =>
  some (decide ((l.Ak.length:Int)≤8))
theorem qiz {l:qi} (ha1:GoT.R w (old w) l cs1) {r:Bool} (hF:qe8 n l=some r):RetV Tryz.prog 104 [GoT.v qi cs1] w r:=by
 obtain ⟨p1,k1,rfl,s1⟩:=qbg ha1
 refine zV 41 Tryz.func104 rfl fun h=>zSR (qV h rfl rfl fun w1 bb1 h=>X0 7 rfl ?_)
 obtain ⟨o1,hF,hK1⟩:=qe hF
 refine qq (rL (fun m e w'=>∃ (i1:Int),qcg l m i1=some o1∧e=[(1,.pointer (some ⟨bb1,0,none⟩)),(3,.int .i64 i1)]∧SH w w' [Ch.box bb1 [.slice p1 l.Ak.length k1] 26]) n ⟨_,hF,rfl,h⟩ rfl ?_)
 rintro m1 e1 w2 ⟨i1,hF,rfl,h⟩
 rcases m1 with _|m1
 ·cases hF
 refine X1 9 0 h rfl (qr rfl hF ?_ ?_)<;>intro hF
 ·refine X1 9 0 h rfl ?_
  obtain ⟨y1,hy1,hF,he1,b1,_,q1,cs2,hp1,hq1,hr1,hc2⟩:=s1.ix hF
  obtain ⟨p2,k2,p3,k3,p4,k4,rfl,s2,s3,s4⟩:=qE hr1
  refine zxe hp1 hq1 he1 rfl (zc 0 (hc2.below h.below) rfl (zcB h hF (qjZ (qh6 y1 (h.oldS s2) (h.oldS s3) (h.oldS s4))) rfl fun r1 w3 h hF=>X0 2 rfl (qr rfl hF ?_ ?_)))<;>intro hF
  ·refine X0 4 rfl ?_
   obtain rfl:=qb hF;replace hF:=hK1
   exact rb h hF rfl
  refine X0 5 rfl ?_
  obtain ⟨o2,hF,hK2⟩:=qe hF
  refine qq (rL (fun m e w'=>∃ (i2:Int),qcf l i1 m i2=some o2∧e=[(1,.pointer (some ⟨bb1,0,none⟩)),(3,.int .i64 i1),(4,.int .i64 i2)]∧SH w w' [Ch.box bb1 [.slice p1 l.Ak.length k1] 26]) m1 ⟨_,hF,rfl,h⟩ rfl ?_)
  rintro m2 e2 w4 ⟨i2,hF,rfl,h⟩
  rcases m2 with _|m2
  ·cases hF
  refine X0 7 rfl (qr rfl hF ?_ ?_)<;>intro hF
  ·refine X0 4 rfl (rD (Y1 2 0 h rfl ?_))
   refine zd1 rfl ?_
   obtain ⟨y2,hy2,hF,he2,b2,_,q2,cs3,hp2,hq2,hr3,hc5⟩:=s1.ix hF
   obtain ⟨p5,k5,p6,k6,p7,k7,rfl,s5,s6,s7⟩:=qE hr3
   refine zdxe hp2 hq2 he2 rfl (zd1 rfl (zdc 0 (hc5.below h.below) rfl (Y1 2 0 h rfl ?_)))
   refine zd1 rfl ?_
   obtain ⟨y3,hy3,hF,he3,b3,_,q3,cs4,hp3,hq3,hr4,hc6⟩:=s1.ix hF
   obtain ⟨p8,k8,p9,k9,p10,k10,rfl,s8,s9,s10⟩:=qE hr4
   refine zdxe hp3 hq3 he3 rfl (zd1 rfl (zdc 0 (hc6.below h.below) rfl (zd1 rfl (dN h fun w5 h=>qr rfl hF ?_ ?_))))<;>intro hF
   ·refine X0 4 rfl ?_
    obtain rfl:=qb hF;replace hF:=hK2
    obtain rfl:=qb hF;replace hF:=hK1
    exact rb h hF rfl
   exact X0 7 rfl (rK ⟨_,hF,rfl,h⟩ rfl)
  refine qw rfl ?_
  obtain rfl:=qb hF;replace hF:=hK2
  exact X0 6 rfl (rK ⟨_,hF,rfl,h⟩ rfl)
 refine qw rfl ?_
 obtain rfl:=qb hF;replace hF:=hK1
 exact X1 8 0 h rfl (rb h hF rfl)
end Go.Fw


namespace Go.Fw
open Go Go.Proofs
open Go.RowKit (Below)
set_option maxRecDepth 100000
set_option maxHeartbeats 6400000
variable {n:Nat} {w:World} {cs1 cs2 cs3 cs4 cs5 cs6 cs7 cs8 cs9:List Value}
def qcL (a_1:qc) (y1:ql):Nat→Int→Option (Flow Bool Int)
 | 0,_=>none
 | n+1,i2 =>
  bif decide (i2<(y1.Ai.length:Int)) then
   (idx y1.Ai i2).bind fun y2 =>
   (qan n y2 0 (W64 ((a_1.Ai.length:Int)-1))).bind fun r1 =>
   bif (!r1) then some (.ret false) else
   qcL a_1 y1 n (W64 (i2+1))
  else
   some (.nxt i2)
def qcQ (a_1:qc):Nat→Int→Option (Flow Bool Int)
 | 0,_=>none
 | n+1,i3 =>
  bif decide (i3<(a_1.Af.length:Int)) then
   (idx a_1.Af i3).bind fun y4 =>
   (qan n y4.Bj 1 2).bind fun r3 =>
   bif (!r3) then some (.ret false) else
   (idx a_1.Af i3).bind fun y5 =>
   (qan n y5.Bl 0 (W64 ((a_1.Ai.length:Int)-1))).bind fun r4 =>
   bif (!r4) then some (.ret false) else
   qcQ a_1 n (W64 (i3+1))
  else
   some (.nxt i3)
def qcR (a_0:qi) (a_1:qc):Nat→Int→Option (Flow Bool Int)
 | 0,_=>none
 | n+1,i1 =>
  bif decide (i1<(a_1.Ab.length:Int)) then
   (idx a_1.Ab i1).bind fun y1 =>
   (
    (qan n y1.Av 0 (W64 ((a_0.Ak.length:Int)-1))).bind fun r2 =>
    bif (!r2) then some true else
    (idx a_0.Ak y1.Av).bind fun y3 =>
    some ((y1.Ai.length:Int) != (y3.Ap.length:Int))).bind fun b2 =>
   bif b2 then some (.ret false) else
   (qcL a_1 y1 n 0).bind fun o=>match o with
   | .ret r=>some (.ret r)
   | .nxt _ =>
    qcR a_0 a_1 n (W64 (i1+1))
  else
   some (.nxt i1)
def qfJ (n:Nat) (a_0:qi) (a_1:qc):Option Bool :=
 (qcR a_0 a_1 n 0).bind fun o=>match o with
 | .ret r=>some r
 | .nxt _ =>
  (qcQ a_1 n 0).bind fun o=>match o with
  | .ret r=>some r
  | .nxt _ =>
   some true
theorem qi2 {a_0:qi} {a_1:qc} (ha1:GoT.R w (old w) a_0 cs1) (ha2:GoT.R w (old w) a_1 cs2) {r:Bool} (hF:qfJ n a_0 a_1=some r):RetV Tryz.prog 105 [GoT.v qi cs1,GoT.v qc cs2] w r:=by
 obtain ⟨p1,k1,rfl,s1⟩:=qbg ha1
 obtain ⟨p2,k2,p3,k3,p4,k4,rfl,s2,s3,s4⟩:=qak ha2
 refine zV 90 Tryz.func105 rfl fun h=>zSR (qV h rfl rfl fun w1 bb1 h=>qV h rfl rfl fun w2 bb2 h=>X1 14 0 h rfl ?_)
 obtain ⟨o1,hF,hK1⟩:=qe hF
 refine qq (rL (fun m e w'=>∃ (i1:Int),qcR a_0 a_1 m i1=some o1∧e=[(2,.pointer (some ⟨bb1,0,none⟩)),(3,.pointer (some ⟨bb2,0,none⟩)),(5,.int .i64 (a_1.Ai.length:Int)),(6,.int .i64 i1)]∧SH w w' [Ch.box bb2 (qaa a_1 p2 p3 p4 k2 k3 k4) 31,Ch.box bb1 [.slice p1 a_0.Ak.length k1] 26]) n ⟨_,hF,rfl,h⟩ rfl ?_)
 rintro m1 e1 w3 ⟨i1,hF,rfl,h⟩
 rcases m1 with _|m1
 ·cases hF
 refine X1 9 0 h rfl (qr rfl hF ?_ ?_)<;>intro hF
 ·refine X1 8 0 h rfl ?_
  obtain ⟨y1,hy1,hF,he1,b1,_,q1,cs3,hp1,hq1,hr1,hc2⟩:=s2.ix hF
  obtain ⟨p5,k5,rfl,s5⟩:=qai hr1
  refine zxe hp1 hq1 he1 rfl (zc 0 (hc2.below h.below) rfl (qy qa h rfl rfl rfl fun w4 bb3 h=>zs 0 h rfl fun w5 h=>zNSS ?_))
  obtain ⟨KF1,hKF1,o3,hF,hK3⟩:=bindE hF
  refine qb5 (fun e w'=>∃ (b2:Bool),KF1 b2=some o1∧e=[(2,.pointer (some ⟨bb1,0,none⟩)),(3,.pointer (some ⟨bb2,0,none⟩)),(5,.int .i64 (a_1.Ai.length:Int)),(6,.int .i64 i1),(7,.pointer (some ⟨bb3,0,none⟩)),(46,.bool b2)]∧SH w w' [Ch.box bb3 (qfS y1 p5 k5) 111,Ch.box bb2 (qaa a_1 p2 p3 p4 k2 k3 k4) 31,Ch.box bb1 [.slice p1 a_0.Ak.length k1] 26]) ?_ ?_
  ·refine rD (Y1 2 0 h rfl ?_)
   refine Y1 2 2 h rfl ?_
   refine zd2 rfl ?_
   obtain ⟨r2,hr4,hF⟩:=qe hF
   refine qdZ r2 (vsB _) (cB 39 rfl) (fun _ hb=>qac  hr4) rfl rfl rfl rfl (zd2 rfl (qaT (t:=33) hF rfl ?_ ?_))<;>intro hF
   ·refine Y0 13 rfl (dN h fun w8 h=>?_)
    obtain rfl:=qb hF
    exact rG ⟨_,hK3,rfl,h⟩ rfl
   refine Y1 4 0 h rfl ?_
   refine Y1 6 2 h rfl ?_
   refine Y1 4 0 h rfl ?_
   refine Y0 1 rfl ?_
   obtain ⟨y3,hy3,hF,he3,b4,_,q3,cs5,hp3,hq3,hr5,hc7⟩:=s1.ix hF
   obtain ⟨p6,k6,p7,k7,p8,k8,rfl,s6,s7,s8⟩:=qE hr5
   refine zdxe hp3 hq3 he3 rfl (Y0 3 rfl (zdc 2 (hc7.below h.below) rfl (Y0 5 rfl (dN h fun w9 h=>?_))))
   obtain rfl:=qb hF
   exact rG ⟨_,hK3,rfl,h⟩ rfl
  rintro e3 w10 ⟨b2,hF,rfl,h⟩
  subst hKF1
  refine qr rfl hF ?_ ?_<;>intro hF
  ·refine X0 4 rfl ?_
   obtain rfl:=qb hF;replace hF:=hK1
   exact rb h hF rfl
  refine X0 5 rfl ?_
  obtain ⟨o2,hF,hK2⟩:=qe hF
  refine qq (rL (fun m e w'=>∃ (i2:Int),qcL a_1 y1 m i2=some o2∧e=[(2,.pointer (some ⟨bb1,0,none⟩)),(3,.pointer (some ⟨bb2,0,none⟩)),(5,.int .i64 (a_1.Ai.length:Int)),(6,.int .i64 i1),(7,.pointer (some ⟨bb3,0,none⟩)),(8,.int .i64 i2)]∧SH w w' [Ch.box bb3 (qfS y1 p5 k5) 111,Ch.box bb2 (qaa a_1 p2 p3 p4 k2 k3 k4) 31,Ch.box bb1 [.slice p1 a_0.Ak.length k1] 26]) m1 ⟨_,hF,rfl,h⟩ rfl ?_)
  rintro m2 e2 w6 ⟨i2,hF,rfl,h⟩
  rcases m2 with _|m2
  ·cases hF
  refine X1 9 0 h rfl (qr rfl hF ?_ ?_)<;>intro hF
  ·refine X1 8 0 h rfl ?_
   obtain ⟨y2,hy2,hF,he2,b3,_,q2,cs4,hp2,hq2,rfl,hc5⟩:=s5.ix hF
   refine zxe hp2 hq2 he2 rfl (zc 0 (hc5.below h.below) rfl (zp2 rfl (zcB h hF qac rfl fun r1 w7 h hF=>X0 2 rfl (qr rfl hF ?_ ?_))))<;>intro hF
   ·refine X0 4 rfl ?_
    obtain rfl:=qb hF;replace hF:=hK2
    obtain rfl:=qb hF;replace hF:=hK1
    exact rb h hF rfl
   exact X0 7 rfl (rK ⟨_,hF,rfl,h⟩ rfl)
  refine qw rfl ?_
  obtain rfl:=qb hF;replace hF:=hK2
  refine X0 6 rfl ?_
  replace h:=h.pick [1,2] rfl
  exact rK ⟨_,hF,rfl,h⟩ rfl
 refine qw rfl ?_
 obtain rfl:=qb hF;replace hF:=hK1
 refine X0 5 rfl ?_
 obtain ⟨o4,hF,hK4⟩:=qe hF
 refine qq ?_
 replace h:=h.pick [0] rfl
 refine rL (fun m e w'=>∃ (i3:Int),qcQ a_1 m i3=some o4∧e=[(3,.pointer (some ⟨bb2,0,none⟩)),(5,.int .i64 (a_1.Ai.length:Int)),(9,.int .i64 i3)]∧SH w w' [Ch.box bb2 (qaa a_1 p2 p3 p4 k2 k3 k4) 31]) n ⟨_,hF,rfl,h⟩ rfl ?_
 rintro m3 e4 w11 ⟨i3,hF,rfl,h⟩
 rcases m3 with _|m3
 ·cases hF
 refine X1 9 0 h rfl (qr rfl hF ?_ ?_)<;>intro hF
 ·refine X1 8 0 h rfl ?_
  obtain ⟨y4,hy4,hF,he4,b5,_,q4,cs6,hp4,hq4,hr6,hc9⟩:=s4.ix hF
  obtain rfl:=qcV hr6
  refine zxe hp4 hq4 he4 rfl (zp1 rfl (zc 1 (hc9.below h.below) rfl (zcB h hF qac rfl fun r3 w12 h hF=>zp2 rfl (qh (t:=78) hF rfl ?_ ?_))))<;>intro hF
  ·refine X0 12 rfl (qdR rfl rfl (X0 4 rfl ?_))
   obtain rfl:=qb hF;replace hF:=hK4
   exact rb h hF rfl
  refine X1 7 0 h rfl ?_
  obtain ⟨y5,hy5,hF,he5,b6,_,q5,cs7,hp5,hq5,hr8,hc10⟩:=s4.ix hF
  obtain rfl:=qcV hr8
  refine zxe hp5 hq5 he5 rfl (X0 3 rfl (zc 2 (hc10.below h.below) rfl (X0 5 rfl (zcB h hF qac rfl fun r4 w13 h hF=>X0 4 rfl (qr rfl hF ?_ ?_)))))<;>intro hF
  ·refine X0 4 rfl ?_
   obtain rfl:=qb hF;replace hF:=hK4
   exact rb h hF rfl
  exact X0 7 rfl (rK ⟨_,hF,rfl,h⟩ rfl)
 refine qw rfl ?_
 obtain rfl:=qb hF;replace hF:=hK4
 exact X0 4 rfl (rb h hF rfl)
def qcG (list:(List ByteArray)) (i1:Int):Nat→Int→Option (Flow Bool Int)
 | 0,_=>none
 | n+1,i2 =>
  bif decide (i2<i1) then
   (idx list i2).bind fun y2 =>
   (idx list i1).bind fun y3 =>
   bif (y2.toList==y3.toList) then some (.ret false) else
   qcG list i1 n (W64 (i2+1))
  else
   some (.nxt i2)
def qcI (list:(List ByteArray)):Nat→Int→Option (Flow Bool Int)
 | 0,_=>none
 | n+1,i1 =>
  bif decide (i1<(list.length:Int)) then
   (idx list i1).bind fun y1 =>
   (qeE n y1).bind fun r1 =>
   bif (!r1) then some (.ret false) else
   (qcG list i1 n 0).bind fun o=>match o with
   | .ret r=>some (.ret r)
   | .nxt _ =>
    qcI list n (W64 (i1+1))
  else
   some (.nxt i1)
def qd6 (n:Nat) (list:(List ByteArray)):Option Bool :=
 (qcI list n 0).bind fun o=>match o with
 | .ret r=>some r
 | .nxt _ =>
  some true
theorem qfw {list:(List ByteArray)} (ha1:GoT.R w (old w) list cs1) {r:Bool} (hF:qd6 n list=some r):RetV Tryz.prog 106 [GoT.v (List ByteArray) cs1] w r:=by
 obtain ⟨p1,k1,rfl,s1⟩:=ha1
 refine zV 31 Tryz.func106 rfl fun h=>X0 9 rfl ?_
 obtain ⟨o1,hF,hK1⟩:=qe hF
 refine qq (rL (fun m e w'=>∃ (i1:Int),qcI list m i1=some o1∧e=[(0,.slice p1 list.length k1),(3,.int .i64 i1)]∧SH w w' []) n ⟨_,hF,rfl,h⟩ rfl ?_)
 rintro m1 e1 w1 ⟨i1,hF,rfl,h⟩
 rcases m1 with _|m1
 ·cases hF
 refine X0 8 rfl (qr rfl hF ?_ ?_)<;>intro hF
 ·refine X0 8 rfl ?_
  obtain ⟨y1,hy1,hF,he1,b1,_,q1,cs2,hp1,hq1,rfl,hc2⟩:=s1.ix hF
  refine zxe hp1 hq1 he1 rfl (zc 0 (hc2.below h.below) rfl (zcB h hF qf0 rfl fun r1 w2 h hF=>X0 2 rfl (qr rfl hF ?_ ?_)))<;>intro hF
  ·refine X0 4 rfl ?_
   obtain rfl:=qb hF;replace hF:=hK1
   exact rb h hF rfl
  refine X0 5 rfl ?_
  obtain ⟨o2,hF,hK2⟩:=qe hF
  refine qq (rL (fun m e w'=>∃ (i2:Int),qcG list i1 m i2=some o2∧e=[(0,.slice p1 list.length k1),(3,.int .i64 i1),(4,.int .i64 i2)]∧SH w w' []) m1 ⟨_,hF,rfl,h⟩ rfl ?_)
  rintro m2 e2 w3 ⟨i2,hF,rfl,h⟩
  rcases m2 with _|m2
  ·cases hF
  refine X0 7 rfl (qr rfl hF ?_ ?_)<;>intro hF
  ·refine X0 4 rfl (rD (zd2 rfl ?_))
   obtain ⟨y2,hy2,hF,he2,b2,_,q2,cs3,hp2,hq2,rfl,hc5⟩:=s1.ix hF
   refine zdxe hp2 hq2 he2 rfl (zdc 0 (hc5.below h.below) rfl (zd2 rfl ?_))
   obtain ⟨y3,hy3,hF,he3,b3,_,q3,cs4,hp3,hq3,rfl,hc6⟩:=s1.ix hF
   refine zdxe hp3 hq3 he3 rfl (zdc 0 (hc6.below h.below) rfl (zd1 rfl (dN h fun w4 h=>qr rfl hF ?_ ?_)))<;>intro hF
   ·refine X0 4 rfl ?_
    obtain rfl:=qb hF;replace hF:=hK2
    obtain rfl:=qb hF;replace hF:=hK1
    exact rb h hF rfl
   exact X0 7 rfl (rK ⟨_,hF,rfl,h⟩ rfl)
  refine qw rfl ?_
  obtain rfl:=qb hF;replace hF:=hK2
  exact X0 6 rfl (rK ⟨_,hF,rfl,h⟩ rfl)
 refine qw rfl ?_
 obtain rfl:=qb hF;replace hF:=hK1
 exact X0 4 rfl (rb h hF rfl)
def qcH (x5:(List Int)) (x7:(List Int)):Nat→Int→Option (Flow Bool Int)
 | 0,_=>none
 | n+1,i5 =>
  bif decide (i5<(x5.length:Int)) then
   (idx x7 i5).bind fun y11 =>
   bif (y11 != 1) then some (.ret false) else
   qcH x5 x7 n (W64 (i5+1))
  else
   some (.nxt i5)
def qbl (a_1:qc):Nat→(List Int)→Int→Option ((List Int) × Int)
 | 0,_,_=>none
 | n+1,x7,i4 =>
  bif decide (i4<(a_1.Af.length:Int)) then
   (idx a_1.Af i4).bind fun y7 =>
   bif (y7.Bj==1) then
    (idx a_1.Af i4).bind fun y8 =>
    (idx x7 y8.Bl).bind fun y9 =>
    (idx x7 y8.Bl).bind fun _ =>
    qbl a_1 n (setS x7 y8.Bl (W64 (y9+1))) (W64 (i4+1))
   else
    qbl a_1 n x7 (W64 (i4+1))
  else
   some (x7,i4)
def qbZ (a_1:qc):Nat→(List Int)→Int→Option ((List Int) × Int)
 | 0,_,_=>none
 | n+1,x6,i3 =>
  bif decide (i3<(a_1.Ab.length:Int)) then
   (idx a_1.Ab i3).bind fun y3 =>
   (idx y3.Ai (W64 ((y3.Ai.length:Int)-1))).bind fun y4 =>
   (idx x6 y4).bind fun y5 =>
   (idx x6 y4).bind fun _ =>
   qbZ a_1 n (setS x6 y4 (W64 (y5+1))) (W64 (i3+1))
  else
   some (x6,i3)
def qb4 (a_1:qc):Nat→(List ByteArray)→Int→Option ((List ByteArray) × Int)
 | 0,_,_=>none
 | n+1,x3,i2 =>
  bif decide (i2<(a_1.Af.length:Int)) then
   (idx a_1.Af i2).bind fun y2 =>
   (appS x3 ([y2.Ar]:List ByteArray)).bind fun x4 =>
   qb4 a_1 n x4 (W64 (i2+1))
  else
   some (x3,i2)
def qb0 (a_1:qc):Nat→(List ByteArray)→Int→Option ((List ByteArray) × Int)
 | 0,_,_=>none
 | n+1,x1,i1 =>
  bif decide (i1<(a_1.Ab.length:Int)) then
   (idx a_1.Ab i1).bind fun y1 =>
   (appS x1 ([y1.Ar]:List ByteArray)).bind fun x2 =>
   qb0 a_1 n x2 (W64 (i1+1))
  else
   some (x1,i1)
def qeI (n:Nat) (a_0:qi) (a_1:qc):Option Bool :=
 (
  (qe8 n a_0).bind fun r4 =>
  bif (!r4) then some true else
  bif decide ((a_1.Ab.length:Int) > 14) then some true else
  bif decide ((a_1.Ai.length:Int) > 30) then some true else
  bif decide ((a_1.Af.length:Int) > 8) then some true else
  (qfJ n a_0 a_1).bind fun r5 =>
  some (!r5)).bind fun b1 =>
 bif b1 then some false else
 (qb0 a_1 n ([]:List ByteArray) 0).bind fun o=>match o with
 | (x1,_) =>
  (qb4 a_1 n ([]:List ByteArray) 0).bind fun o=>match o with
  | (x3,_) =>
   (
    (qd6 n x1).bind fun r1 =>
    bif (!r1) then some true else
    (qd6 n x3).bind fun r2 =>
    bif (!r2) then some true else
    (qd6 n a_1.Ai).bind fun r3 =>
    some (!r3)).bind fun b4 =>
   bif b4 then some false else
   (mkS (a_1.Ai.length:Int) (0:Int)).bind fun x5 =>
   (qbZ a_1 n x5 0).bind fun o=>match o with
   | (x6,_) =>
    (qbl a_1 n x6 0).bind fun o=>match o with
    | (x7,_) =>
     (qcH x5 x7 n 0).bind fun o=>match o with
     | .ret r=>some r
     | .nxt _ =>
      some true
theorem qgY {a_0:qi} {a_1:qc} (ha1:GoT.R w (old w) a_0 cs1) (ha2:GoT.R w (old w) a_1 cs2) {r:Bool} (hF:qeI n a_0 a_1=some r):RetV Tryz.prog 60 [GoT.v qi cs1,GoT.v qc cs2] w r:=by
 obtain ⟨p1,k1,rfl,s1⟩:=qbg ha1
 obtain ⟨p2,k2,p3,k3,p4,k4,rfl,s2,s3,s4⟩:=qak ha2
 refine zV 153 Tryz.func60 rfl fun h=>zSR (qV h rfl rfl fun w1 bb1 h=>qV h rfl rfl fun w2 bb2 h=>X0 4 rfl ?_)
 obtain ⟨KF2,hKF2,o7,hF,hK7⟩:=bindE hF
 refine qb5 (fun e w'=>∃ (b1:Bool),KF2 b1=some r∧e=[(3,.pointer (some ⟨bb2,0,none⟩)),(40,.bool b1)]∧SH w w' [Ch.box bb2 (qaa a_1 p2 p3 p4 k2 k3 k4) 31]) ?_ ?_
 ·refine X1 2 1 h rfl (zcB h hF (qiz (h.old ha1)) rfl fun r4 w21 h hF=>zp2 rfl (qh (t:=17) hF rfl ?_ ?_))<;>intro hF
  ·refine X0 24 rfl ?_
   replace h:=h.pick [0] rfl
   obtain rfl:=qb hF
   exact rG ⟨_,hK7,rfl,h⟩ rfl
  refine X1 10 0 h rfl (qh (t:=23) hF rfl ?_ ?_)<;>intro hF
  ·refine X0 18 rfl ?_
   replace h:=h.pick [0] rfl
   obtain rfl:=qb hF
   exact rG ⟨_,hK7,rfl,h⟩ rfl
  refine X1 10 0 h rfl (qh (t:=29) hF rfl ?_ ?_)<;>intro hF
  ·refine X0 12 rfl ?_
   replace h:=h.pick [0] rfl
   obtain rfl:=qb hF
   exact rG ⟨_,hK7,rfl,h⟩ rfl
  refine X1 10 0 h rfl (qh (t:=35) hF rfl ?_ ?_)<;>intro hF
  ·refine X0 6 rfl ?_
   replace h:=h.pick [0] rfl
   obtain rfl:=qb hF
   exact rG ⟨_,hK7,rfl,h⟩ rfl
  refine X2 5 1 0 h rfl (zcB h hF (qi2 (h.old ha1) (h.old ha2)) rfl fun r5 w22 h hF=>X0 4 rfl ?_)
  replace h:=h.pick [0] rfl
  obtain rfl:=qb hF
  exact rG ⟨_,hK7,rfl,h⟩ rfl
 rintro e7 w23 ⟨b1,hF,rfl,h⟩
 subst hKF2
 refine qr rfl hF ?_ ?_<;>intro hF
 ·exact X0 4 rfl (rb h hF rfl)
 refine zKSR (qp qa [] _ ([]:List ByteArray) h rfl rfl rfl rfl rfl rfl rfl rfl rfl trivial rfl fun w3 p5 S1 h=>X0 7 rfl ?_)
 obtain ⟨o1,hF,hK1⟩:=qe hF
 refine qq (rL (fun m e w'=>∃ (S2:Nat→Prop) (p6:Option Addr) (ln1:Nat) (k5:Nat) (x1:(List ByteArray)) (i1:Int),qb0 a_1 m x1 i1=some o1∧e=[(3,.pointer (some ⟨bb2,0,none⟩)),(5,.slice p6 ln1 k5),(6,.int .i64 i1)]∧SH w w' [Ch.own S2 (x1:List ByteArray) [.slice p6 ln1 k5],Ch.box bb2 (qaa a_1 p2 p3 p4 k2 k3 k4) 31]) n ⟨_,_,_,_,_,_,hF,rfl,h⟩ rfl ?_)
 rintro m1 e1 w4 ⟨S2,p6,ln1,k5,x1,i1,hF,rfl,h⟩
 obtain rfl:=(h.sl 0 rfl).2
 rcases m1 with _|m1
 ·cases hF
 refine X1 9 1 h rfl (qr rfl hF ?_ ?_)<;>intro hF
 ·refine X1 8 1 h rfl ?_
  obtain ⟨y1,hy1,hF,he1,b2,_,q1,cs3,hp1,hq1,hr1,hc3⟩:=s2.ix hF
  obtain ⟨p7,k6,rfl,s5⟩:=qai hr1
  refine zxe hp1 hq1 he1 rfl (zp1 rfl (zc 0 (hc3.below h.below) rfl (qp qa [.tmp 55] _ ([y1.Ar]:List ByteArray) h rfl rfl rfl rfl rfl rfl rfl rfl rfl ⟨rfl,trivial⟩ rfl fun w5 p8 S3 h=>?_)))
  obtain ⟨x2,hx1,hF⟩:=qe hF
  obtain ⟨g1,hx1⟩:=qx hx1
  refine qaq qa 1 h rfl (h.sl 0 rfl).1 (h.sl 0 rfl).2 rfl rfl rfl rfl rfl rfl rfl rfl rfl g1 hx1 rfl fun w6 p9 k7 S4 h=>X0 8 rfl ?_
  replace h:=h.pick [1,2] rfl
  exact rK ⟨_,_,_,_,_,_,hF,rfl,h⟩ rfl
 refine qw rfl ?_
 obtain rfl:=qb hF;replace hF:=hK1
 refine zSR (qp qa [] _ ([]:List ByteArray) h rfl rfl rfl rfl rfl rfl rfl rfl rfl trivial rfl fun w7 p10 S5 h=>X0 7 rfl ?_)
 obtain ⟨o2,hF,hK2⟩:=qe hF
 refine qq (rL (fun m e w'=>∃ (S6:Nat→Prop) (p11:Option Addr) (ln2:Nat) (k8:Nat) (x3:(List ByteArray)) (i2:Int),qb4 a_1 m x3 i2=some o2∧e=[(3,.pointer (some ⟨bb2,0,none⟩)),(5,.slice p6 x1.length k5),(7,.slice p11 ln2 k8),(8,.int .i64 i2)]∧SH w w' [Ch.own S6 (x3:List ByteArray) [.slice p11 ln2 k8],Ch.own S2 (x1:List ByteArray) [.slice p6 x1.length k5],Ch.box bb2 (qaa a_1 p2 p3 p4 k2 k3 k4) 31]) n ⟨_,_,_,_,_,_,hF,rfl,h⟩ rfl ?_)
 rintro m2 e2 w8 ⟨S6,p11,ln2,k8,x3,i2,hF,rfl,h⟩
 obtain rfl:=(h.sl 0 rfl).2
 rcases m2 with _|m2
 ·cases hF
 refine X1 9 2 h rfl (qr rfl hF ?_ ?_)<;>intro hF
 ·refine X1 8 2 h rfl ?_
  obtain ⟨y2,hy2,hF,he2,b3,_,q2,cs4,hp2,hq2,hr2,hc5⟩:=s4.ix hF
  obtain rfl:=qcV hr2
  refine zxe hp2 hq2 he2 rfl (zp1 rfl (zc 0 (hc5.below h.below) rfl (qp qa [.tmp 72] _ ([y2.Ar]:List ByteArray) h rfl rfl rfl rfl rfl rfl rfl rfl rfl ⟨rfl,trivial⟩ rfl fun w9 p12 S7 h=>?_)))
  obtain ⟨x4,hx2,hF⟩:=qe hF
  obtain ⟨g2,hx2⟩:=qx hx2
  refine qaq qa 1 h rfl (h.sl 0 rfl).1 (h.sl 0 rfl).2 rfl rfl rfl rfl rfl rfl rfl rfl rfl g2 hx2 rfl fun w10 p13 k9 S8 h=>X0 8 rfl ?_
  replace h:=h.pick [1,2,3] rfl
  exact rK ⟨_,_,_,_,_,_,hF,rfl,h⟩ rfl
 refine qw rfl ?_
 obtain rfl:=qb hF;replace hF:=hK2
 refine zSS ?_
 obtain ⟨KF1,hKF1,o6,hF,hK6⟩:=bindE hF
 refine qb5 (fun e w'=>∃ (b4:Bool),KF1 b4=some r∧e=[(3,.pointer (some ⟨bb2,0,none⟩)),(88,.bool b4)]∧SH w w' [Ch.box bb2 (qaa a_1 p2 p3 p4 k2 k3 k4) 31]) ?_ ?_
 ·refine X0 2 rfl (zcB h hF (qfw (h.own 1 rfl)) rfl fun r1 w17 h hF=>zp2 rfl (qh (t:=78) hF rfl ?_ ?_))<;>intro hF
  ·refine X0 11 rfl ?_
   replace h:=h.pick [2] rfl
   obtain rfl:=qb hF
   exact rG ⟨_,hK6,rfl,h⟩ rfl
  refine X0 3 rfl (zcB h hF (qfw (h.own 0 rfl)) rfl fun r2 w18 h hF=>X0 4 rfl (qh (t:=83) hF rfl ?_ ?_))<;>intro hF
  ·refine X0 6 rfl ?_
   replace h:=h.pick [2] rfl
   obtain rfl:=qb hF
   exact rG ⟨_,hK6,rfl,h⟩ rfl
  refine X1 5 2 h rfl (zcB h hF (qfw ⟨_,_,rfl,(h.oldS s3)⟩) rfl fun r3 w19 h hF=>X0 4 rfl ?_)
  replace h:=h.pick [2] rfl
  obtain rfl:=qb hF
  exact rG ⟨_,hK6,rfl,h⟩ rfl
 rintro e6 w20 ⟨b4,hF,rfl,h⟩
 subst hKF1
 refine qr rfl hF ?_ ?_<;>intro hF
 ·exact X0 4 rfl (rb h hF rfl)
 refine X1 6 0 h rfl ?_
 obtain ⟨x5,hx3,hF⟩:=qe hF
 obtain ⟨g3,g4,hx3⟩:=qfU hx3
 refine qgy qa Int h rfl rfl rfl rfl rfl rfl rfl rfl rfl g3 g4 hx3 rfl fun w11 S9 p14 h=>X0 7 rfl ?_
 obtain ⟨o3,hF,hK3⟩:=qe hF
 refine qq (rL (fun m e w'=>∃ (x6:(List Int)) (i3:Int),qbZ a_1 m x6 i3=some o3∧e=[(3,.pointer (some ⟨bb2,0,none⟩)),(9,.slice p14 x5.length x5.length),(10,.int .i64 i3)]∧SH w w' [Ch.own S9 (x6:List Int) [.slice p14 x5.length x5.length],Ch.box bb2 (qaa a_1 p2 p3 p4 k2 k3 k4) 31]) n ⟨_,_,hF,rfl,h⟩ rfl ?_)
 rintro m3 e3 w12 ⟨x6,i3,hF,rfl,h⟩
 rcases m3 with _|m3
 ·cases hF
 refine X1 9 1 h rfl (qr rfl hF ?_ ?_)<;>intro hF
 ·refine X1 8 1 h rfl ?_
  obtain ⟨y3,hy3,hF,he3,b5,_,q3,cs5,hp3,hq3,hr3,hc8⟩:=s2.ix hF
  obtain ⟨p15,k10,rfl,s6⟩:=qai hr3
  refine zxe hp3 hq3 he3 rfl (zp1 rfl (zc 2 (hc8.below h.below) rfl (X0 8 rfl ?_)))
  obtain ⟨y4,hy4,hF,he4,b6,_,q4,cs6,hp4,hq4,rfl,hc9⟩:=s6.ix hF
  refine zxe hp4 hq4 he4 rfl (zc 0 (hc9.below h.below) rfl ?_)
  obtain ⟨y5,hy5,hF,he5,b7,_,q5,cs7,hp5,hq5,rfl,hc10⟩:=(h.sl 0 rfl).1.ix hF
  refine zx hp5 hq5 ⟨he5.1,qY he5.2.1 (h.sl 0 rfl).2⟩ rfl (zc 0 hc10 rfl (zp1 rfl ?_))
  obtain ⟨y6,hy6,hF,he6,b8,_,q6,cs8,hp6,hq6,rfl,hc11⟩:=(h.sl 0 rfl).1.ix hF
  exact zx hp6 hq6 ⟨he6.1,qY he6.2.1 (h.sl 0 rfl).2⟩ rfl (qde qa 0 0 (W64 (y5+1)) h rfl hy6 hp6 hq6 rfl hc11 rfl rfl rfl rfl rfl rfl rfl fun w13 h=>X0 7 rfl (rK ⟨_,_,hF,rfl,h⟩ rfl))
 refine qw rfl ?_
 obtain rfl:=qb hF;replace hF:=hK3
 refine X0 5 rfl ?_
 obtain ⟨o4,hF,hK4⟩:=qe hF
 refine qq (rL (fun m e w'=>∃ (x7:(List Int)) (i4:Int),qbl a_1 m x7 i4=some o4∧e=[(3,.pointer (some ⟨bb2,0,none⟩)),(9,.slice p14 x5.length x5.length),(12,.int .i64 i4)]∧SH w w' [Ch.own S9 (x7:List Int) [.slice p14 x5.length x5.length],Ch.box bb2 (qaa a_1 p2 p3 p4 k2 k3 k4) 31]) n ⟨_,_,hF,rfl,h⟩ rfl ?_)
 rintro m4 e4 w14 ⟨x7,i4,hF,rfl,h⟩
 rcases m4 with _|m4
 ·cases hF
 refine X1 9 1 h rfl (qr rfl hF ?_ ?_)<;>intro hF
 ·refine X1 8 1 h rfl ?_
  obtain ⟨y7,hy7,hF,he7,b9,_,q7,cs9,hp7,hq7,hr7,hc13⟩:=s4.ix hF
  obtain rfl:=qcV hr7
  refine zxe hp7 hq7 he7 rfl (zp1 rfl (zc 1 (hc13.below h.below) rfl (X0 2 rfl (qr rfl hF ?_ ?_))))<;>intro hF
  ·refine X1 5 1 h rfl ?_
   obtain ⟨y8,hy8,hF,he8,b10,_,q8,cs10,hp8,hq8,hr8,hc15⟩:=s4.ix hF
   obtain rfl:=qcV hr8
   refine zxe hp8 hq8 he8 rfl (zp1 rfl (zc 2 (hc15.below h.below) rfl ?_))
   obtain ⟨y9,hy9,hF,he9,b11,_,q9,cs11,hp9,hq9,rfl,hc16⟩:=(h.sl 0 rfl).1.ix hF
   refine zx hp9 hq9 ⟨he9.1,qY he9.2.1 (h.sl 0 rfl).2⟩ rfl (zc 0 hc16 rfl (zp1 rfl ?_))
   obtain ⟨y10,hy10,hF,he10,b12,_,q10,cs12,hp10,hq10,rfl,hc17⟩:=(h.sl 0 rfl).1.ix hF
   exact zx hp10 hq10 ⟨he10.1,qY he10.2.1 (h.sl 0 rfl).2⟩ rfl (qde qa 0 0 (W64 (y9+1)) h rfl hy10 hp10 hq10 rfl hc17 rfl rfl rfl rfl rfl rfl rfl fun w15 h=>X0 7 rfl (rK ⟨_,_,hF,rfl,h⟩ rfl))
  exact X0 7 rfl (rK ⟨_,_,hF,rfl,h⟩ rfl)
 refine qw rfl ?_
 obtain rfl:=qb hF;replace hF:=hK4
 refine X0 5 rfl ?_
 obtain ⟨o5,hF,hK5⟩:=qe hF
 refine qq ?_
 replace h:=h.pick [0] rfl
 refine rL (fun m e w'=>∃ (i5:Int),qcH x5 x7 m i5=some o5∧e=[(9,.slice p14 x5.length x5.length),(13,.int .i64 i5)]∧SH w w' [Ch.own S9 (x7:List Int) [.slice p14 x5.length x5.length]]) n ⟨_,hF,rfl,h⟩ rfl ?_
 rintro m5 e5 w16 ⟨i5,hF,rfl,h⟩
 rcases m5 with _|m5
 ·cases hF
 refine X0 8 rfl (qr rfl hF ?_ ?_)<;>intro hF
 ·refine X0 7 rfl ?_
  obtain ⟨y11,hy11,hF,he11,b13,_,q11,cs13,hp11,hq11,rfl,hc19⟩:=(h.sl 0 rfl).1.ix hF
  refine zx hp11 hq11 ⟨he11.1,qY he11.2.1 (h.sl 0 rfl).2⟩ rfl (zc 0 hc19 rfl (X0 2 rfl (qr rfl hF ?_ ?_)))<;>intro hF
  ·refine X0 4 rfl ?_
   obtain rfl:=qb hF;replace hF:=hK5
   exact rb h hF rfl
  exact X0 7 rfl (rK ⟨_,hF,rfl,h⟩ rfl)
 refine qw rfl ?_
 obtain rfl:=qb hF;replace hF:=hK5
 exact X0 4 rfl (rb h hF rfl)
def qdH (a_0:qK):Nat→Int→Option (Flow Bool Int)
 | 0,_=>none
 | n+1,i2 =>
  bif decide (i2<(a_0.As.length:Int)) then
   (idx a_0.As i2).bind fun y7 =>
   (qan n y7 0 (W64 ((a_0.Aj.length:Int)-1))).bind fun r5 =>
   bif (!r5) then some (.ret false) else
   qdH a_0 n (W64 (i2+1))
  else
   some (.nxt i2)
def qby (a_0:qK):Nat→Int→Option (Flow Bool Int)
 | 0,_=>none
 | n+1,i1 =>
  bif decide (i1<(a_0.Aj.length:Int)) then
   (
    (idx a_0.Bb i1).bind fun y5 =>
    (qan n y5 0 500).bind fun r3 =>
    bif (!r3) then some true else
    (idx a_0.Bc i1).bind fun y6 =>
    (qan n y6 0 1000).bind fun r4 =>
    some (!r4)).bind fun b2 =>
   bif b2 then some (.ret false) else
   bif (i1==0) then
    (idx a_0.Aj i1).bind fun y1 =>
    bif (y1 != (-1)) then some (.ret false) else
    (idx a_0.Bc i1).bind fun y2 =>
    bif (y2 != 0) then some (.ret false) else
    bif decide (i1 > 0) then
     (idx a_0.Aj i1).bind fun y3 =>
     (qan n y3 0 (W64 (i1-1))).bind fun r1 =>
     bif (!r1) then some (.ret false) else
     qby a_0 n (W64 (i1+1))
    else
     qby a_0 n (W64 (i1+1))
   else
    bif decide (i1 > 0) then
     (idx a_0.Aj i1).bind fun y4 =>
     (qan n y4 0 (W64 (i1-1))).bind fun r2 =>
     bif (!r2) then some (.ret false) else
     qby a_0 n (W64 (i1+1))
    else
     qby a_0 n (W64 (i1+1))
  else
   some (.nxt i1)
def qgD (n:Nat) (a_0:qK) (a_1:Int):Option Bool :=
 (
  bif decide ((a_0.Aj.length:Int)<1) then some true else
  bif decide ((a_0.Aj.length:Int) > 8) then some true else
  bif ((a_0.Bc.length:Int) != (a_0.Aj.length:Int)) then some true else
  bif ((a_0.Bb.length:Int) != (a_0.Aj.length:Int)) then some true else
  some ((a_0.As.length:Int) != a_1)).bind fun b1 =>
 bif b1 then some false else
 (qby a_0 n 0).bind fun o=>match o with
 | .ret r=>some r
 | .nxt _ =>
  (qdH a_0 n 0).bind fun o=>match o with
  | .ret r=>some r
  | .nxt _ =>
   some true
theorem qj9 {a_0:qK} {a_1:Int} (ha1:GoT.R w (old w) a_0 cs1) {r:Bool} (hF:qgD n a_0 a_1=some r):RetV Tryz.prog 84 [GoT.v qK cs1,.int .i64 a_1] w r:=by
 obtain ⟨p1,k1,p2,k2,p3,k3,p4,k4,rfl,s1,s2,s3,s4⟩:=qbt ha1
 refine zV 108 Tryz.func84 rfl fun h=>zSR (qV h rfl rfl fun w1 bb1 h=>X1 11 0 h rfl ?_)
 obtain ⟨KF2,hKF2,o4,hF,hK4⟩:=bindE hF
 refine qb5 (fun e w'=>∃ (b1:Bool),KF2 b1=some r∧e=[(2,.pointer (some ⟨bb1,0,none⟩)),(5,.int .i64 (a_0.Aj.length:Int)),(37,.bool b1)]∧SH w w' [Ch.box bb1 (qef a_0 p1 p2 p3 p4 k1 k2 k3 k4) 118]) ?_ ?_
 ·refine X0 4 rfl (qh (t:=13) hF rfl ?_ ?_)<;>intro hF
  ·refine X0 25 rfl ?_
   obtain rfl:=qb hF
   exact rG ⟨_,hK4,rfl,h⟩ rfl
  refine X0 6 rfl (qh (t:=17) hF rfl ?_ ?_)<;>intro hF
  ·refine X0 21 rfl ?_
   obtain rfl:=qb hF
   exact rG ⟨_,hK4,rfl,h⟩ rfl
  refine X1 12 0 h rfl (qh (t:=24) hF rfl ?_ ?_)<;>intro hF
  ·refine X0 14 rfl ?_
   obtain rfl:=qb hF
   exact rG ⟨_,hK4,rfl,h⟩ rfl
  refine X1 12 0 h rfl (qh (t:=31) hF rfl ?_ ?_)<;>intro hF
  ·refine X0 7 rfl ?_
   obtain rfl:=qb hF
   exact rG ⟨_,hK4,rfl,h⟩ rfl
  refine X1 12 0 h rfl ?_
  obtain rfl:=qb hF
  exact rG ⟨_,hK4,rfl,h⟩ rfl
 rintro e4 w10 ⟨b1,hF,rfl,h⟩
 subst hKF2
 refine qr rfl hF ?_ ?_<;>intro hF
 ·exact X0 4 rfl (rb h hF rfl)
 refine X0 6 rfl ?_
 obtain ⟨o1,hF,hK1⟩:=qe hF
 refine qq (rL (fun m e w'=>∃ (i1:Int),qby a_0 m i1=some o1∧e=[(2,.pointer (some ⟨bb1,0,none⟩)),(5,.int .i64 (a_0.Aj.length:Int)),(6,.int .i64 i1)]∧SH w w' [Ch.box bb1 (qef a_0 p1 p2 p3 p4 k1 k2 k3 k4) 118]) n ⟨_,hF,rfl,h⟩ rfl ?_)
 rintro m1 e1 w2 ⟨i1,hF,rfl,h⟩
 rcases m1 with _|m1
 ·cases hF
 refine X0 7 rfl (qr rfl hF ?_ ?_)<;>intro hF
 ·refine X0 5 rfl ?_
  obtain ⟨KF1,hKF1,o2,hF,hK2⟩:=bindE hF
  refine qb5 (fun e w'=>∃ (b2:Bool),KF1 b2=some o1∧e=[(2,.pointer (some ⟨bb1,0,none⟩)),(5,.int .i64 (a_0.Aj.length:Int)),(6,.int .i64 i1),(58,.bool b2)]∧SH w w' [Ch.box bb1 (qef a_0 p1 p2 p3 p4 k1 k2 k3 k4) 118]) ?_ ?_
  ·refine X1 4 0 h rfl ?_
   obtain ⟨y5,hy5,hF,he5,b7,_,q5,cs6,hp5,hq5,rfl,hc10⟩:=s3.ix hF
   refine zxe hp5 hq5 he5 rfl (zc 0 (hc10.below h.below) rfl (zcB h hF qac rfl fun r3 w5 h hF=>zp2 rfl (qh (t:=50) hF rfl ?_ ?_)))<;>intro hF
   ·refine X0 9 rfl ?_
    obtain rfl:=qb hF
    exact rG ⟨_,hK2,rfl,h⟩ rfl
   refine X1 7 0 h rfl ?_
   obtain ⟨y6,hy6,hF,he6,b8,_,q6,cs7,hp6,hq6,rfl,hc11⟩:=s2.ix hF
   refine zxe hp6 hq6 he6 rfl (X0 1 rfl (zc 0 (hc11.below h.below) rfl (X0 1 rfl (zcB h hF qac rfl fun r4 w6 h hF=>X0 4 rfl ?_))))
   obtain rfl:=qb hF
   exact rG ⟨_,hK2,rfl,h⟩ rfl
  rintro e2 w7 ⟨b2,hF,rfl,h⟩
  subst hKF1
  refine qr rfl hF ?_ ?_<;>intro hF
  ·refine X0 4 rfl ?_
   obtain rfl:=qb hF;replace hF:=hK1
   exact rb h hF rfl
  refine X0 6 rfl (qh (t:=61) hF rfl ?_ ?_)<;>intro hF
  ·refine X1 7 0 h rfl ?_
   obtain ⟨y1,hy1,hF,he1,b3,_,q1,cs2,hp1,hq1,rfl,hc4⟩:=s1.ix hF
   refine zxe hp1 hq1 he1 rfl (X0 1 rfl (zc 0 (hc4.below h.below) rfl (X0 4 rfl (qh (t:=68) hF rfl ?_ ?_))))<;>intro hF
   ·refine X0 25 rfl (qdR rfl rfl (X0 4 rfl ?_))
    obtain rfl:=qb hF;replace hF:=hK1
    exact rb h hF rfl
   refine X1 7 0 h rfl ?_
   obtain ⟨y2,hy2,hF,he2,b4,_,q2,cs3,hp2,hq2,rfl,hc5⟩:=s2.ix hF
   refine zxe hp2 hq2 he2 rfl (X0 1 rfl (zc 0 (hc5.below h.below) rfl (X0 6 rfl (qh (t:=77) hF rfl ?_ ?_))))<;>intro hF
   ·refine X0 15 rfl (qdR rfl rfl (X0 4 rfl ?_))
    obtain rfl:=qb hF;replace hF:=hK1
    exact rb h hF rfl
   refine X0 6 rfl (qh (t:=80) hF rfl ?_ ?_)<;>intro hF
   ·refine X1 7 0 h rfl ?_
    obtain ⟨y3,hy3,hF,he3,b5,_,q3,cs4,hp3,hq3,rfl,hc6⟩:=s1.ix hF
    refine zxe hp3 hq3 he3 rfl (X0 1 rfl (zc 0 (hc6.below h.below) rfl (X0 5 rfl (zcB h hF qac rfl fun r1 w3 h hF=>X0 6 rfl (qr rfl hF ?_ ?_)))))<;>intro hF
    ·refine X0 4 rfl ?_
     obtain rfl:=qb hF;replace hF:=hK1
     exact rb h hF rfl
    exact X0 7 rfl (rK ⟨_,hF,rfl,h⟩ rfl)
   exact X0 13 rfl (qdx rfl rfl (X0 7 rfl (rK ⟨_,hF,rfl,h⟩ rfl)))
  refine X0 22 rfl (qh (t:=80) hF rfl ?_ ?_)<;>intro hF
  ·refine X1 7 0 h rfl ?_
   obtain ⟨y4,hy4,hF,he4,b6,_,q4,cs5,hp4,hq4,rfl,hc8⟩:=s1.ix hF
   refine zxe hp4 hq4 he4 rfl (X0 1 rfl (zc 0 (hc8.below h.below) rfl (X0 5 rfl (zcB h hF qac rfl fun r2 w4 h hF=>X0 6 rfl (qr rfl hF ?_ ?_)))))<;>intro hF
   ·refine X0 4 rfl ?_
    obtain rfl:=qb hF;replace hF:=hK1
    exact rb h hF rfl
   exact X0 7 rfl (rK ⟨_,hF,rfl,h⟩ rfl)
  exact X0 13 rfl (qdx rfl rfl (X0 7 rfl (rK ⟨_,hF,rfl,h⟩ rfl)))
 refine qw rfl ?_
 obtain rfl:=qb hF;replace hF:=hK1
 refine X0 5 rfl ?_
 obtain ⟨o3,hF,hK3⟩:=qe hF
 refine qq (rL (fun m e w'=>∃ (i2:Int),qdH a_0 m i2=some o3∧e=[(2,.pointer (some ⟨bb1,0,none⟩)),(5,.int .i64 (a_0.Aj.length:Int)),(7,.int .i64 i2)]∧SH w w' [Ch.box bb1 (qef a_0 p1 p2 p3 p4 k1 k2 k3 k4) 118]) n ⟨_,hF,rfl,h⟩ rfl ?_)
 rintro m2 e3 w8 ⟨i2,hF,rfl,h⟩
 rcases m2 with _|m2
 ·cases hF
 refine X1 9 0 h rfl (qr rfl hF ?_ ?_)<;>intro hF
 ·refine X1 8 0 h rfl ?_
  obtain ⟨y7,hy7,hF,he7,b9,_,q7,cs8,hp7,hq7,rfl,hc13⟩:=s4.ix hF
  refine zxe hp7 hq7 he7 rfl (zc 0 (hc13.below h.below) rfl (zp2 rfl (zcB h hF qac rfl fun r5 w9 h hF=>X0 2 rfl (qr rfl hF ?_ ?_))))<;>intro hF
  ·refine X0 4 rfl ?_
   obtain rfl:=qb hF;replace hF:=hK3
   exact rb h hF rfl
  exact X0 7 rfl (rK ⟨_,hF,rfl,h⟩ rfl)
 refine qw rfl ?_
 obtain rfl:=qb hF;replace hF:=hK3
 exact X0 4 rfl (rb h hF rfl)
def qbw (i1:Int) (y1:ql):Nat→(List Tl05Place)→Int→Option ((List Tl05Place) × Int)
 | 0,_,_=>none
 | n+1,x2,i2 =>
  bif decide (i2<(y1.Ai.length:Int)) then
   (idx y1.Ai i2).bind fun y2 =>
   (appS x2 ([(⟨i1,i2,y2,(i2==(W64 ((y1.Ai.length:Int)-1)))⟩:Tl05Place)]:List Tl05Place)).bind fun x3 =>
   qbw i1 y1 n x3 (W64 (i2+1))
  else
   some (x2,i2)
def qbG (a_0:qc):Nat→(List Tl05Place)→Int→Option ((List Tl05Place) × Int)
 | 0,_,_=>none
 | n+1,x4,i3 =>
  bif decide (i3<(a_0.Af.length:Int)) then
   (idx a_0.Af i3).bind fun y3 =>
   (idx a_0.Af i3).bind fun y4 =>
   (appS x4 ([(⟨(-1),i3,y3.Bl,(y4.Bj==1)⟩:Tl05Place)]:List Tl05Place)).bind fun x5 =>
   qbG a_0 n x5 (W64 (i3+1))
  else
   some (x4,i3)
def qbB (a_0:qc):Nat→(List Tl05Place)→Int→Option ((List Tl05Place) × Int)
 | 0,_,_=>none
 | n+1,x1,i1 =>
  bif decide (i1<(a_0.Ab.length:Int)) then
   (idx a_0.Ab i1).bind fun y1 =>
   (qbw i1 y1 n x1 0).bind fun o=>match o with
   | (x2,_) =>
    qbB a_0 n x2 (W64 (i1+1))
  else
   some (x1,i1)
def qbD (n:Nat) (a_0:qc):Option (List Tl05Place) :=
 (qbB a_0 n ([]:List Tl05Place) 0).bind fun o=>match o with
 | (x1,_) =>
  (qbG a_0 n x1 0).bind fun o=>match o with
  | (x4,_) =>
   some x4
theorem qci {a_0:qc} (ha1:GoT.R w (old w) a_0 cs1) {r:(List Tl05Place)} (hF:qbD n a_0=some r):RetV Tryz.prog 33 [GoT.v qc cs1] w r:=by
 obtain ⟨p1,k1,p2,k2,p3,k3,rfl,s1,s2,s3⟩:=qak ha1
 refine zV 69 Tryz.func33 rfl fun h=>zSR (qV h rfl rfl fun w1 bb1 h=>X0 4 rfl (qp qa [] _ ([]:List Tl05Place) h rfl rfl rfl rfl rfl rfl rfl rfl rfl trivial rfl fun w2 p4 S1 h=>X0 7 rfl ?_))
 obtain ⟨o1,hF,hK1⟩:=qe hF
 refine qq (rL (fun m e w'=>∃ (S2:Nat→Prop) (p5:Option Addr) (ln1:Nat) (k4:Nat) (x1:(List Tl05Place)) (i1:Int),qbB a_0 m x1 i1=some o1∧e=[(1,.pointer (some ⟨bb1,0,none⟩)),(3,.slice p5 ln1 k4),(4,.int .i64 i1)]∧SH w w' [Ch.own S2 (x1:List Tl05Place) [.slice p5 ln1 k4],Ch.box bb1 (qaa a_0 p1 p2 p3 k1 k2 k3) 31]) n ⟨_,_,_,_,_,_,hF,rfl,h⟩ rfl ?_)
 rintro m1 e1 w3 ⟨S2,p5,ln1,k4,x1,i1,hF,rfl,h⟩
 obtain rfl:=(h.sl 0 rfl).2
 rcases m1 with _|m1
 ·cases hF
 refine X1 9 1 h rfl (qr rfl hF ?_ ?_)<;>intro hF
 ·refine X1 8 1 h rfl ?_
  obtain ⟨y1,hy1,hF,he1,b1,_,q1,cs2,hp1,hq1,hr1,hc2⟩:=s1.ix hF
  obtain ⟨p6,k5,rfl,s4⟩:=qai hr1
  refine zxe hp1 hq1 he1 rfl (zp1 rfl (zc 2 (hc2.below h.below) rfl (X0 6 rfl ?_)))
  obtain ⟨o2,hF,hK2⟩:=qe hF
  refine qq (rL (fun m e w'=>∃ (S3:Nat→Prop) (p7:Option Addr) (ln2:Nat) (k6:Nat) (x2:(List Tl05Place)) (i2:Int),qbw i1 y1 m x2 i2=some o2∧e=[(1,.pointer (some ⟨bb1,0,none⟩)),(3,.slice p7 ln2 k6),(4,.int .i64 i1),(5,.slice p6 y1.Ai.length k5),(6,.int .i64 i2)]∧SH w w' [Ch.own S3 (x2:List Tl05Place) [.slice p7 ln2 k6],Ch.box bb1 (qaa a_0 p1 p2 p3 k1 k2 k3) 31]) m1 ⟨_,_,_,_,_,_,hF,rfl,h⟩ rfl ?_)
  rintro m2 e2 w4 ⟨S3,p7,ln2,k6,x2,i2,hF,rfl,h⟩
  obtain rfl:=(h.sl 0 rfl).2
  rcases m2 with _|m2
  ·cases hF
  refine X0 8 rfl (qr rfl hF ?_ ?_)<;>intro hF
  ·refine X0 9 rfl ?_
   obtain ⟨y2,hy2,hF,he2,b2,_,q2,cs3,hp2,hq2,rfl,hc4⟩:=s4.ix hF
   refine zxe hp2 hq2 he2 rfl (zc 0 (hc4.below h.below) rfl (zp5 rfl (r_v (qay qa [0,1,2,3] [.tmp 29,.tmp 30,.tmp 34,.tmp 39] rfl rfl rfl rfl rfl rfl rfl rfl) rfl (qp qa [.tmp 40] _ ([(⟨i1,i2,y2,(i2==(W64 ((y1.Ai.length:Int)-1)))⟩:Tl05Place)]:List Tl05Place) h rfl rfl rfl rfl rfl rfl rfl rfl rfl ⟨(qeJ (⟨i1,i2,y2,(i2==(W64 ((y1.Ai.length:Int)-1)))⟩:Tl05Place)),trivial⟩ rfl fun w5 p8 S4 h=>?_))))
   obtain ⟨x3,hx1,hF⟩:=qe hF
   obtain ⟨g1,hx1⟩:=qx hx1
   refine qaq qa 1 h rfl (h.sl 0 rfl).1 (h.sl 0 rfl).2 rfl rfl rfl rfl rfl rfl rfl rfl rfl g1 hx1 rfl fun w6 p9 k7 S5 h=>X0 8 rfl ?_
   replace h:=h.pick [1,2] rfl
   exact rK ⟨_,_,_,_,_,_,hF,rfl,h⟩ rfl
  refine qw rfl ?_
  obtain rfl:=qb hF;replace hF:=hK2
  exact X0 6 rfl (rK ⟨_,_,_,_,_,_,hF,rfl,h⟩ rfl)
 refine qw rfl ?_
 obtain rfl:=qb hF;replace hF:=hK1
 refine X0 5 rfl ?_
 obtain ⟨o3,hF,hK3⟩:=qe hF
 refine qq (rL (fun m e w'=>∃ (S6:Nat→Prop) (p10:Option Addr) (ln3:Nat) (k8:Nat) (x4:(List Tl05Place)) (i3:Int),qbG a_0 m x4 i3=some o3∧e=[(1,.pointer (some ⟨bb1,0,none⟩)),(3,.slice p10 ln3 k8),(7,.int .i64 i3)]∧SH w w' [Ch.own S6 (x4:List Tl05Place) [.slice p10 ln3 k8],Ch.box bb1 (qaa a_0 p1 p2 p3 k1 k2 k3) 31]) n ⟨_,_,_,_,_,_,hF,rfl,h⟩ rfl ?_)
 rintro m3 e3 w7 ⟨S6,p10,ln3,k8,x4,i3,hF,rfl,h⟩
 obtain rfl:=(h.sl 0 rfl).2
 rcases m3 with _|m3
 ·cases hF
 refine X1 9 1 h rfl (qr rfl hF ?_ ?_)<;>intro hF
 ·refine zKSB (rA [] [1] h rfl fun w8 h=>M1 31 [0,1,2,3,4] 0 (h.pick [1] rfl) rfl ?_)
  obtain ⟨y3,hy3,hF,he3,b3,_,q3,cs4,hp3,hq3,hr3,hc6⟩:=s3.ix hF
  obtain rfl:=qcV hr3
  refine Ae 5 63 hp3 hq3 he3 (h.pick [1] rfl) rfl (M0 127 [6] (h.pick [1] rfl) rfl (Al 7 255 2 hc6 (h.pick [1] rfl) rfl (M1 2047 [8,9,10] 0 (h.pick [1] rfl) rfl ?_)))
  obtain ⟨y4,hy4,hF,he4,b4,_,q4,cs5,hp4,hq4,hr4,hc7⟩:=s3.ix hF
  obtain rfl:=qcV hr4
  refine Ae 11 4095 hp4 hq4 he4 (h.pick [1] rfl) rfl (M0 8191 [12] (h.pick [1] rfl) rfl (Al 13 16383 1 hc7 (h.pick [1] rfl) rfl (M0 32767 [14] (h.pick [1] rfl) rfl (Aw 15 65535 (fun w' hw=>qay qa [0,1,2,3] [.const (.int .i64 (-1)),.tmp 51,.tmp 57,.tmp 64] rfl rfl rfl rfl rfl rfl rfl rfl) (h.pick [1] rfl) rfl ?_))))
  refine Ao 16 131071 rfl (qp qa [.tmp 65] _ ([(⟨(-1),i3,y3.Bl,(y4.Bj==1)⟩:Tl05Place)]:List Tl05Place) h rfl rfl rfl rfl rfl rfl rfl rfl rfl ⟨(qeJ (⟨(-1),i3,y3.Bl,(y4.Bj==1)⟩:Tl05Place)),trivial⟩ rfl fun w9 p11 S7 h=>Ag (h.pick [2] rfl) (Ao 17 262143 rfl ?_))
  obtain ⟨x5,hx2,hF⟩:=qe hF
  obtain ⟨g2,hx2⟩:=qx hx2
  refine qaq qa 1 h rfl (h.sl 0 rfl).1 (h.sl 0 rfl).2 rfl rfl rfl rfl rfl rfl rfl rfl rfl g2 hx2 rfl fun w10 p12 k9 S8 h=>G0 524287 [18] (h.pick [2] rfl) rfl (Ad (X0 6 rfl ?_))
  replace h:=h.pick [1,2] rfl
  exact rK ⟨_,_,_,_,_,_,hF,rfl,h⟩ rfl
 refine qw rfl ?_
 obtain rfl:=qb hF;replace hF:=hK3
 refine X0 5 rfl ?_
 obtain rfl:=qb hF
 exact rO 0 h rfl ⟨rfl,trivial⟩
def qbq (net:Int) (r1:(List Tl05Place)):Nat→(List Int)→Int→Option ((List Int) × Int)
 | 0,_,_=>none
 | n+1,x1,i1 =>
  bif decide (i1<(r1.length:Int)) then
   (
    (idx r1 i1).bind fun y1 =>
    bif (y1.net==net) then
     (idx r1 i1).bind fun y2 =>
     some (!y2.drives)
    else
     some false).bind fun b1 =>
   bif b1 then
    (appS x1 ([i1]:List Int)).bind fun x2 =>
    qbq net r1 n x2 (W64 (i1+1))
   else
    qbq net r1 n x1 (W64 (i1+1))
  else
   some (x1,i1)
def qd5 (n:Nat) (d:qc) (net:Int):Option (List Int) :=
 (qbD n d).bind fun r1 =>
 (qbq net r1 n ([]:List Int) 0).bind fun o=>match o with
 | (x1,_) =>
  some x1
theorem qfB {d:qc} {net:Int} (ha1:GoT.R w (old w) d cs1) {r:(List Int)} (hF:qd5 n d net=some r):RetV Tryz.prog 85 [GoT.v qc cs1,.int .i64 net] w r:=by
 obtain ⟨p1,k1,p2,k2,p3,k3,rfl,s1,s2,s3⟩:=qak ha1
 refine zV 37 Tryz.func85 rfl fun h=>zSR (qV h rfl rfl fun w1 bb1 h=>X0 4 rfl (qp qa [] _ ([]:List Int) h rfl rfl rfl rfl rfl rfl rfl rfl rfl trivial rfl fun w2 p4 S1 h=>X1 5 1 h rfl (zcL h hF (qci (h.old ha1)) rfl fun r1 w3 S2 p5 k4 h hF=>X0 7 rfl ?_)))
 obtain ⟨o1,hF,hK1⟩:=qe hF
 refine qq ?_
 replace h:=h.pick [0,1] rfl
 refine rL (fun m e w'=>∃ (S3:Nat→Prop) (p6:Option Addr) (ln1:Nat) (k5:Nat) (x1:(List Int)) (i1:Int),qbq net r1 m x1 i1=some o1∧e=[(1,.int .i64 net),(5,.slice p6 ln1 k5),(6,.slice p5 r1.length k4),(7,.int .i64 i1)]∧SH w w' [Ch.own S2 (r1:List Tl05Place) [.slice p5 r1.length k4],Ch.own S3 (x1:List Int) [.slice p6 ln1 k5]]) n ⟨_,_,_,_,_,_,hF,rfl,h⟩ rfl ?_
 rintro m1 e1 w4 ⟨S3,p6,ln1,k5,x1,i1,hF,rfl,h⟩
 obtain rfl:=(h.sl 1 rfl).2
 rcases m1 with _|m1
 ·cases hF
 refine X0 8 rfl (qr rfl hF ?_ ?_)<;>intro hF
 ·refine X0 4 rfl ?_
  obtain ⟨KF1,hKF1,o2,hF,hK2⟩:=bindE hF
  refine qb5 (fun e w'=>∃ (b1:Bool),KF1 b1=some o1∧e=[(1,.int .i64 net),(5,.slice p6 x1.length k5),(6,.slice p5 r1.length k4),(7,.int .i64 i1),(31,.bool b1)]∧SH w w' [Ch.own S2 (r1:List Tl05Place) [.slice p5 r1.length k4],Ch.own S3 (x1:List Int) [.slice p6 x1.length k5]]) ?_ ?_
  ·refine X0 3 rfl ?_
   obtain ⟨y1,hy1,hF,he1,b2,_,q1,cs2,hp1,hq1,hr2,hc3⟩:=(h.sl 0 rfl).1.ix hF
   obtain rfl:=qbh hr2
   refine zx hp1 hq1 ⟨he1.1,qY he1.2.1 (h.sl 0 rfl).2⟩ rfl (zp1 rfl (zc 2 hc3 rfl (zp3 rfl (qh (t:=24) hF rfl ?_ ?_))))<;>intro hF
   ·refine X0 5 rfl ?_
    obtain ⟨y2,hy2,hF,he2,b3,_,q2,cs3,hp2,hq2,hr3,hc4⟩:=(h.sl 0 rfl).1.ix hF
    obtain rfl:=qbh hr3
    refine zx hp2 hq2 ⟨he2.1,qY he2.2.1 (h.sl 0 rfl).2⟩ rfl (X0 3 rfl (zc 3 hc4 rfl (X0 4 rfl ?_)))
    obtain rfl:=qb hF
    exact rG ⟨_,hK2,rfl,h⟩ rfl
   refine X0 8 rfl ?_
   obtain rfl:=qb hF
   exact rG ⟨_,hK2,rfl,h⟩ rfl
  rintro e2 w7 ⟨b1,hF,rfl,h⟩
  subst hKF1
  refine qr rfl hF ?_ ?_<;>intro hF
  ·refine X0 3 rfl (qp qa [.tmp 33] _ ([i1]:List Int) h rfl rfl rfl rfl rfl rfl rfl rfl rfl ⟨rfl,trivial⟩ rfl fun w5 p7 S4 h=>?_)
   obtain ⟨x2,hx1,hF⟩:=qe hF
   obtain ⟨g1,hx1⟩:=qx hx1
   refine qaq qa 2 h rfl (h.sl 0 rfl).1 (h.sl 0 rfl).2 rfl rfl rfl rfl rfl rfl rfl rfl rfl g1 hx1 rfl fun w6 p8 k6 S5 h=>X0 8 rfl ?_
   replace h:=h.pick [1,2] rfl
   exact rK ⟨_,_,_,_,_,_,hF,rfl,h⟩ rfl
  exact X0 7 rfl (rK ⟨_,_,_,_,_,_,hF,rfl,h⟩ rfl)
 refine qw rfl ?_
 obtain rfl:=qb hF;replace hF:=hK1
 refine X0 5 rfl ?_
 obtain rfl:=qb hF
 exact rO 1 h rfl ⟨rfl,trivial⟩
def qc4 (b:qd):Nat→Int→Option (Flow Bool Int)
 | 0,_=>none
 | n+1,i1 =>
  bif decide (i1<(b.Ah.length:Int)) then
   (idx b.Ah i1).bind fun y1 =>
   (qd5 n (⟨b.Aa.Ab,b.Aa.Ai,b.Aa.Af⟩:qc) i1).bind fun r1 =>
   (qgD n y1 (r1.length:Int)).bind fun r2 =>
   bif (!r2) then some (.ret false) else
   qc4 b n (W64 (i1+1))
  else
   some (.nxt i1)
def qf7 (n:Nat) (b:qd):Option Bool :=
 (
  (qeI n (⟨b.Ac.Ak⟩:qi) (⟨b.Aa.Ab,b.Aa.Ai,b.Aa.Af⟩:qc)).bind fun r3 =>
  bif (!r3) then some true else
  some ((b.Ah.length:Int) != (b.Aa.Ai.length:Int))).bind fun b1 =>
 bif b1 then some false else
 (qc4 b n 0).bind fun o=>match o with
 | .ret r=>some r
 | .nxt _ =>
  some true
theorem qjp {b:qd} (ha1:GoT.R w (old w) b cs1) {r:Bool} (hF:qf7 n b=some r):RetV Tryz.prog 38 [GoT.v qd cs1] w r:=by
 obtain ⟨p1,k1,p2,k2,p3,k3,p4,k4,p5,k5,rfl,s1,s2,s3,s4,s5⟩:=qP ha1
 refine zV 39 Tryz.func38 rfl fun h=>zSR (qV h rfl rfl fun w1 bb1 h=>X0 4 rfl ?_)
 obtain ⟨KF1,hKF1,o2,hF,hK2⟩:=bindE hF
 refine qb5 (fun e w'=>∃ (b1:Bool),KF1 b1=some r∧e=[(1,.pointer (some ⟨bb1,0,none⟩)),(19,.bool b1)]∧SH w w' [Ch.box bb1 (qT b p1 p2 p3 p4 p5 k1 k2 k3 k4 k5) 34]) ?_ ?_
 ·refine X2 5 0 0 h rfl (zcB h hF (qgY (qdU _ (h.oldS s1)) (qaL _ (h.oldS s2) (h.oldS s3) (h.oldS s4))) rfl fun r3 w6 h hF=>zp2 rfl (qh (t:=10) hF rfl ?_ ?_))<;>intro hF
  ·refine X0 10 rfl ?_
   obtain rfl:=qb hF
   exact rG ⟨_,hK2,rfl,h⟩ rfl
  refine X2 18 0 0 h rfl ?_
  obtain rfl:=qb hF
  exact rG ⟨_,hK2,rfl,h⟩ rfl
 rintro e2 w7 ⟨b1,hF,rfl,h⟩
 subst hKF1
 refine qr rfl hF ?_ ?_<;>intro hF
 ·exact X0 4 rfl (rb h hF rfl)
 refine X0 6 rfl ?_
 obtain ⟨o1,hF,hK1⟩:=qe hF
 refine qq (rL (fun m e w'=>∃ (i1:Int),qc4 b m i1=some o1∧e=[(1,.pointer (some ⟨bb1,0,none⟩)),(3,.int .i64 i1)]∧SH w w' [Ch.box bb1 (qT b p1 p2 p3 p4 p5 k1 k2 k3 k4 k5) 34]) n ⟨_,hF,rfl,h⟩ rfl ?_)
 rintro m1 e1 w2 ⟨i1,hF,rfl,h⟩
 rcases m1 with _|m1
 ·cases hF
 refine X1 9 0 h rfl (qr rfl hF ?_ ?_)<;>intro hF
 ·refine X0 4 rfl (rA [] [0] h rfl fun w3 h=>M1 7 [0,1,2] 0 (h.pick [0] rfl) rfl ?_)
  obtain ⟨y1,hy1,hF,he1,b2,_,q1,cs2,hp1,hq1,hr1,hc3⟩:=s5.ix hF
  obtain ⟨p6,k6,p7,k7,p8,k8,p9,k9,rfl,s6,s7,s8,s9⟩:=qbt hr1
  refine Ae 3 15 hp1 hq1 he1 (h.pick [0] rfl) rfl (Al 4 31 0 hc3 (h.pick [0] rfl) rfl (M1 255 [5,6,7] 0 (h.pick [0] rfl) rfl (Ao 8 511 rfl (zcL h hF (qfB (qaL _ (h.oldS s2) (h.oldS s3) (h.oldS s4))) rfl fun r1 w4 S1 p10 k10 h hF=>G0 1023 [9] (h.pick [1] rfl) rfl (Ao 10 2047 rfl (zcB h hF (qj9 (qkr y1 (h.oldS s6) (h.oldS s7) (h.oldS s8) (h.oldS s9))) rfl fun r2 w5 h hF=>G0 4095 [11] (h.pick [1] rfl) rfl (Ad (qr rfl hF ?_ ?_))))))))<;>intro hF
  ·refine X0 4 rfl ?_
   obtain rfl:=qb hF;replace hF:=hK1
   exact rb h hF rfl
  refine X0 7 rfl ?_
  replace h:=h.pick [1] rfl
  exact rK ⟨_,hF,rfl,h⟩ rfl
 refine qw rfl ?_
 obtain rfl:=qb hF;replace hF:=hK1
 exact X0 4 rfl (rb h hF rfl)
def qau (_:Nat) (x:Int) (low:Int) (high:Int):Option Bool :=
 bif decide (x ≥ low) then some (decide (x≤high)) else
 some false
theorem qam {x:Int} {low:Int} {high:Int}  {r:Bool} (hF:qau n x low high=some r):RetV Tryz.prog 76 [.int .i64 x,.int .i64 low,.int .i64 high] w r:=by
 refine zV 15 Tryz.func76 rfl fun h=>X0 10 rfl (qh (t:=10) hF rfl ?_ ?_)<;>intro hF
 ·exact X0 9 rfl (rb h hF rfl)
 exact X0 6 rfl (rb h hF rfl)
def qe7 (_:Nat) (s cutset:ByteArray):Option ByteArray :=
 if s.size≤9223372036854775807∧cutset.size<4294967281∧cutset.data.toList.all (fun b=>decide (b.toNat<128))=true then some ⟨(Lib.trimS s.data.toList cutset.data.toList).toArray⟩ else none
theorem qjy {s cutset:ByteArray} {r:ByteArray} (hF:qe7 n s cutset=some r):RetV Tryz.prog 164 [.string s,.string cutset] w r:=by
 unfold qe7 at hF
 split at hF
 ·rename_i hh
  obtain rfl:=qb hF
  refine (Tryz.strings_Trim_any s cutset w hh.1 hh.2.1 hh.2.2).mono ?_
  rintro e w' ⟨rfl,hB⟩
  exact ⟨_,rfl,hB,[.string _],rfl,qk9 _ _⟩
 cases hF
def qeg (_:Nat) (s:ByteArray) (c:(IntK .u8)):Option Int :=
 some (Lib.indexByte s.data.toList c.val.toNat.toUInt8)
theorem qhv {s:ByteArray} {c:(IntK .u8)} {r:Int} (hF:qeg n s c=some r):RetV Tryz.prog 165 [.string s,.int .u8 c.val] w r:=by
 obtain rfl:=qb hF
 refine (Tryz.strings_IndexByte s c.val w).mono ?_
 rintro e w' ⟨rfl,rfl⟩
 exact ⟨_,rfl,Below.refl _ _,[.int .i64 _],rfl,qni _ _⟩
def qfO (n:Nat) (s:ByteArray):Option Bool :=
 (qau n (s.size:Int) 1 8).bind fun r1 =>
 bif r1 then
  (qe7 n s (⟨#[97,98,99,100,101,102,103,104,105,106,107,108,109,110,111,112,113,114,115,116,117,118,119,120,121,122,48,49,50,51,52,53,54,55,56,57]⟩:ByteArray)).bind fun r2 =>
  bif (r2.toList==(⟨#[]⟩:ByteArray).toList) then
   (atS s 0).bind fun y1 =>
   (qeg n (⟨#[97,98,99,100,101,102,103,104,105,106,107,108,109,110,111,112,113,114,115,116,117,118,119,120,121,122]⟩:ByteArray) (⟨y1⟩:IntK .u8)).bind fun r3 =>
   some (decide (r3 ≥ 0))
  else
   some false
 else
  some false
theorem qhK {s:ByteArray}  {r:Bool} (hF:qfO n s=some r):RetV Tryz.prog 157 [.string s] w r:=by
 refine zV 17 Tryz.func157 rfl fun h=>X0 8 rfl (zcB h hF qam rfl fun r1 w1 h hF=>zp1 rfl (qh (t:=6) hF rfl ?_ ?_))<;>intro hF
 ·refine X0 3 rfl (zcS h hF qjy rfl fun r2 w2 h hF=>X0 4 rfl (qh (t:=11) hF rfl ?_ ?_))<;>intro hF
  ·refine X0 3 rfl ?_
   obtain ⟨y1,hx1,hF⟩:=qe hF
   have g1:=qhT hx1
   exact r_v (qhJ qa g1 rfl rfl rfl rfl) rfl (X0 1 rfl (zcI h hF qhv rfl fun r3 w3 h hF=>X0 5 rfl (rb h hF rfl)))
  exact X0 7 rfl (rb h hF rfl)
 exact X0 12 rfl (rb h hF rfl)
def qa5 (_:Nat) (list:(List qQ)):Option Int :=
 some (list.length:Int)
theorem qe1 {list:(List qQ)} (ha1:GoT.R w (old w) list cs1) {r:Int} (hF:qa5 n list=some r):RetV Tryz.prog 130 [GoT.v (List qQ) cs1] w r:=by
 obtain ⟨p1,k1,rfl,s1⟩:=ha1
 exact zV 5 Tryz.func130 rfl fun h=>X0 10 rfl (ri h hF rfl)
def qa7 (s:(List ByteArray)) (v:ByteArray):Nat→Int→Option (Flow Int Int)
 | 0,_=>none
 | n+1,i1 =>
  bif decide (i1<(s.length:Int)) then
   (idx s i1).bind fun y1 =>
   bif (v.toList==y1.toList) then some (.ret i1) else
   qa7 s v n (W64 (i1+1))
  else
   some (.nxt i1)
def qdt (n:Nat) (s:(List ByteArray)) (v:ByteArray):Option Int :=
 (qa7 s v n 0).bind fun o=>match o with
 | .ret r=>some r
 | .nxt _ =>
  some (-1)
theorem qhh {s:(List ByteArray)} {v:ByteArray} (ha1:GoT.R w (old w) s cs1) {r:Int} (hF:qdt n s v=some r):RetV Tryz.prog 169 [GoT.v (List ByteArray) cs1,.string v] w r:=by
 obtain ⟨p1,k1,rfl,s1⟩:=ha1
 refine zV 19 Tryz.func169 rfl fun h=>X0 11 rfl ?_
 obtain ⟨o1,hF,hK1⟩:=qe hF
 refine qq (rL (fun m e w'=>∃ (i1:Int),qa7 s v m i1=some o1∧e=[(0,.slice p1 s.length k1),(1,.string v),(7,.int .i64 (s.length:Int)),(8,.int .i64 i1)]∧SH w w' []) n ⟨_,hF,rfl,h⟩ rfl ?_)
 rintro m1 e1 w1 ⟨i1,hF,rfl,h⟩
 rcases m1 with _|m1
 ·cases hF
 refine X0 5 rfl (qr rfl hF ?_ ?_)<;>intro hF
 ·refine X0 13 rfl ?_
  obtain ⟨y1,hy1,hF,he1,b1,_,q1,cs2,hp1,hq1,rfl,hc2⟩:=s1.ix hF
  refine zxe hp1 hq1 he1 rfl (zc 0 (hc2.below h.below) rfl (X0 2 rfl (qr rfl hF ?_ ?_)))<;>intro hF
  ·refine X0 5 rfl ?_
   obtain rfl:=qb hF;replace hF:=hK1
   exact ri h hF rfl
  exact X0 6 rfl (rK ⟨_,hF,rfl,h⟩ rfl)
 refine qw rfl ?_
 obtain rfl:=qb hF;replace hF:=hK1
 exact X0 4 rfl (ri h hF rfl)
def qcB (n:Nat) (s:(List ByteArray)) (v:ByteArray):Option Bool :=
 (qdt n s v).bind fun r1 =>
 some (decide (r1 ≥ 0))
theorem qgu {s:(List ByteArray)} {v:ByteArray} (ha1:GoT.R w (old w) s cs1) {r:Bool} (hF:qcB n s v=some r):RetV Tryz.prog 161 [GoT.v (List ByteArray) cs1,.string v] w r:=by
 obtain ⟨p1,k1,rfl,s1⟩:=ha1
 exact zV 9 Tryz.func161 rfl fun h=>X0 8 rfl (zcI h hF (qhh ⟨_,_,rfl,(h.oldS s1)⟩) rfl fun r1 w1 h hF=>X0 3 rfl (rb h hF rfl))
def qcO (list:(List ByteArray)):Nat→Int→Option (Flow Bool Int)
 | 0,_=>none
 | n+1,i1 =>
  bif decide (i1<(list.length:Int)) then
   (idx list i1).bind fun y1 =>
   (qfO n y1).bind fun r1 =>
   bif (!r1) then some (.ret false) else
   (subS list 0 i1).bind fun x1 =>
   (qcB n x1 y1).bind fun r2 =>
   bif r2 then some (.ret false) else
   qcO list n (W64 (i1+1))
  else
   some (.nxt i1)
def qcF (n:Nat) (list:(List ByteArray)):Option Bool :=
 (qcO list n 0).bind fun o=>match o with
 | .ret r=>some r
 | .nxt _ =>
  some true
theorem qdL {list:(List ByteArray)} (ha1:GoT.R w (old w) list cs1) {r:Bool} (hF:qcF n list=some r):RetV Tryz.prog 146 [GoT.v (List ByteArray) cs1] w r:=by
 obtain ⟨p1,k1,rfl,s1⟩:=ha1
 refine zV 23 Tryz.func146 rfl fun h=>X0 11 rfl ?_
 obtain ⟨o1,hF,hK1⟩:=qe hF
 refine qq (rL (fun m e w'=>∃ (i1:Int),qcO list m i1=some o1∧e=[(0,.slice p1 list.length k1),(5,.slice p1 list.length k1),(6,.int .i64 (list.length:Int)),(7,.int .i64 i1)]∧SH w w' []) n ⟨_,hF,rfl,h⟩ rfl ?_)
 rintro m1 e1 w1 ⟨i1,hF,rfl,h⟩
 rcases m1 with _|m1
 ·cases hF
 refine X0 5 rfl (qr rfl hF ?_ ?_)<;>intro hF
 ·refine X0 6 rfl ?_
  obtain ⟨y1,hy1,hF,he1,b1,_,q1,cs2,hp1,hq1,rfl,hc2⟩:=s1.ix hF
  refine zxe hp1 hq1 he1 rfl (zc 0 (hc2.below h.below) rfl (X0 6 rfl (zcB h hF qhK rfl fun r1 w2 h hF=>zp2 rfl (qh (t:=15) hF rfl ?_ ?_))))<;>intro hF
  ·refine X0 7 rfl (qdR rfl rfl (X0 4 rfl ?_))
   obtain rfl:=qb hF;replace hF:=hK1
   exact rb h hF rfl
  refine X0 5 rfl ?_
  obtain ⟨x1,hx1,hF⟩:=qe hF
  obtain ⟨p2,k2,hp2,hk1,hl1,g1⟩:=ql2 (h.oldS s1) hx1
  refine r_v (qjM qa rfl rfl rfl (qlY g1 rfl) hp2 hk1 hl1 rfl rfl rfl rfl) rfl ?_
  have s2:=qlW s1 hx1 hp2 hk1
  refine X0 3 rfl (zcB h hF (qgu ⟨_,_,rfl,(h.oldS s2)⟩) rfl fun r2 w3 h hF=>X0 2 rfl (qr rfl hF ?_ ?_))<;>intro hF
  ·refine X0 4 rfl ?_
   obtain rfl:=qb hF;replace hF:=hK1
   exact rb h hF rfl
  exact X0 6 rfl (rK ⟨_,hF,rfl,h⟩ rfl)
 refine qw rfl ?_
 obtain rfl:=qb hF;replace hF:=hK1
 exact X0 4 rfl (rb h hF rfl)
def qbS (list:(List qQ)):Nat→(List ByteArray)→Int→Option (Flow Bool ((List ByteArray) × Int))
 | 0,_,_=>none
 | n+1,x1,i1 =>
  bif decide (i1<(list.length:Int)) then
   (idx list i1).bind fun y1 =>
   (appS x1 ([y1.Ar]:List ByteArray)).bind fun x2 =>
   bif (i1==(W64 ((list.length:Int)-1))) then
    bif (y1.Bj != 2) then some (.ret false) else
    bif (y1.Bb != 0) then some (.ret false) else
    bif y1.Ba then some (.ret false) else
    qbS list n x2 (W64 (i1+1))
   else
    bif (y1.Bj != 1) then some (.ret false) else
    (qau n y1.Bb 0 500).bind fun r1 =>
    bif (!r1) then some (.ret false) else
    qbS list n x2 (W64 (i1+1))
  else
   some (.nxt (x1,i1))
def qge (n:Nat) (list:(List qQ)):Option Bool :=
 (qbS list n ([]:List ByteArray) 0).bind fun o=>match o with
 | .ret r=>some r
 | .nxt (x1,_) =>
  (qa5 n list).bind fun r2 =>
  (qau n r2 2 5).bind fun r3 =>
  bif r3 then
   (qcF n x1).bind fun r4 =>
   some r4
  else
   some false
theorem qjv {list:(List qQ)} (ha1:GoT.R w (old w) list cs1) {r:Bool} (hF:qge n list=some r):RetV Tryz.prog 158 [GoT.v (List qQ) cs1] w r:=by
 obtain ⟨p1,k1,rfl,s1⟩:=ha1
 refine zV 52 Tryz.func158 rfl fun h=>X0 15 rfl ?_
 replace h:=h.nil (α:=ByteArray)
 obtain ⟨o1,hF,hK1⟩:=qe hF
 refine qq (rL (fun m e w'=>∃ (S1:Nat→Prop) (p2:Option Addr) (ln1:Nat) (k2:Nat) (x1:(List ByteArray)) (i1:Int),qbS list m x1 i1=some o1∧e=[(0,.slice p1 list.length k1),(3,.slice p2 ln1 k2),(6,.slice p1 list.length k1),(7,.int .i64 (list.length:Int)),(8,.int .i64 i1)]∧SH w w' [Ch.own S1 (x1:List ByteArray) [.slice p2 ln1 k2]]) n ⟨_,_,_,_,_,_,hF,rfl,h⟩ rfl ?_)
 rintro m1 e1 w1 ⟨S1,p2,ln1,k2,x1,i1,hF,rfl,h⟩
 obtain rfl:=(h.sl 0 rfl).2
 rcases m1 with _|m1
 ·cases hF
 refine X0 5 rfl (qr rfl hF ?_ ?_)<;>intro hF
 ·refine X0 6 rfl ?_
  obtain ⟨y1,hy1,hF,he1,b1,_,q1,cs2,hp1,hq1,hr1,hc2⟩:=s1.ix hF
  obtain rfl:=qcS hr1
  refine zxe hp1 hq1 he1 rfl (zc 0 (hc2.below h.below) rfl (qy qa h rfl rfl rfl fun w2 bb1 h=>zp1 rfl (zs 0 h rfl fun w3 h=>X1 6 0 h rfl (qp qa [.tmp 15] _ ([y1.Ar]:List ByteArray) h rfl rfl rfl rfl rfl rfl rfl rfl rfl ⟨rfl,trivial⟩ rfl fun w4 p3 S2 h=>?_))))
  obtain ⟨x2,hx1,hF⟩:=qe hF
  obtain ⟨g1,hx1⟩:=qx hx1
  refine qaq qa 2 h rfl (h.sl 0 rfl).1 (h.sl 0 rfl).2 rfl rfl rfl rfl rfl rfl rfl rfl rfl g1 hx1 rfl fun w5 p4 k3 S3 h=>X0 10 rfl (qr rfl hF ?_ ?_)<;>intro hF
  ·refine X1 6 1 h rfl (qh (t:=26) hF rfl ?_ ?_)<;>intro hF
   ·refine X0 9 rfl (qdR rfl rfl (X0 4 rfl ?_))
    obtain rfl:=qb hF;replace hF:=hK1
    exact rb h hF rfl
   refine X1 8 1 h rfl (qh (t:=31) hF rfl ?_ ?_)<;>intro hF
   ·refine X0 4 rfl (qdR rfl rfl (X0 4 rfl ?_))
    obtain rfl:=qb hF;replace hF:=hK1
    exact rb h hF rfl
   refine X1 6 1 h rfl (qr rfl hF ?_ ?_)<;>intro hF
   ·refine X0 4 rfl ?_
    obtain rfl:=qb hF;replace hF:=hK1
    exact rb h hF rfl
   refine X0 6 rfl ?_
   replace h:=h.pick [2] rfl
   exact rK ⟨_,_,_,_,_,_,hF,rfl,h⟩ rfl
  refine X1 6 1 h rfl (qh (t:=38) hF rfl ?_ ?_)<;>intro hF
  ·refine X0 6 rfl (qdR rfl rfl (X0 4 rfl ?_))
   obtain rfl:=qb hF;replace hF:=hK1
   exact rb h hF rfl
  refine X1 5 1 h rfl (zcB h hF qam rfl fun r1 w6 h hF=>X0 4 rfl (qr rfl hF ?_ ?_))<;>intro hF
  ·refine X0 4 rfl ?_
   obtain rfl:=qb hF;replace hF:=hK1
   exact rb h hF rfl
  refine X0 6 rfl ?_
  replace h:=h.pick [2] rfl
  exact rK ⟨_,_,_,_,_,_,hF,rfl,h⟩ rfl
 refine qw rfl ?_
 obtain rfl:=qb hF;replace hF:=hK1
 refine X0 3 rfl (zcI h hF (qe1 ⟨_,_,rfl,(h.oldS s1)⟩) rfl fun r2 w7 h hF=>zcB h hF qam rfl fun r3 w8 h hF=>zp1 rfl (qh (t:=48) hF rfl ?_ ?_))<;>intro hF
 ·exact X0 3 rfl (zcB h hF (qdL (h.own 0 rfl)) rfl fun r4 w9 h hF=>X0 3 rfl (rb h hF rfl))
 exact X0 5 rfl (rb h hF rfl)
def qbk (n:Nat) (c:qk):Option Int :=
 (qa5 n c.Ap).bind fun r1 =>
 some (W64 (r1-1))
theorem qdv {c:qk} (ha1:GoT.R w (old w) c cs1) {r:Int} (hF:qbk n c=some r):RetV Tryz.prog 83 [GoT.v qk cs1] w r:=by
 obtain ⟨p1,k1,p2,k2,p3,k3,rfl,s1,s2,s3⟩:=qE ha1
 exact zV 7 Tryz.func83 rfl fun h=>zSR (qV h rfl rfl fun w1 bb1 h=>X1 6 0 h rfl (zcI h hF (qe1 ⟨_,_,rfl,(h.oldS s1)⟩) rfl fun r1 w2 h hF=>X0 3 rfl (ri h hF rfl)))
def qe6 (_:Nat) (kind:Int):Option Bool :=
 bif (kind==4) then some true else
 some (kind==5)
theorem qhn {kind:Int}  {r:Bool} (hF:qe6 n kind=some r):RetV Tryz.prog 95 [.int .i64 kind] w r:=by
 refine zV 9 Tryz.func95 rfl fun h=>X0 9 rfl (qh (t:=5) hF rfl ?_ ?_)<;>intro hF
 ·exact X0 5 rfl (rb h hF rfl)
 exact X0 7 rfl (rb h hF rfl)
def qey (n:Nat) (a_n:Int) (v0:Int) (v1:Int):Option Bool :=
 (qau n a_n v0 v1).bind fun r1 =>
 some (!r1)
theorem qid {a_n:Int} {v0:Int} {v1:Int} {p1:Option Addr} (ha1:GoT.R w (old w) (some v0) [.pointer p1]) {p2:Option Addr} (ha2:GoT.R w (old w) (some v1) [.pointer p2]) {r:Bool} (hF:qey n a_n v0 v1=some r):RetV Tryz.prog 132 [.int .i64 a_n,.pointer p1,.pointer p2] w r:=by
 obtain ⟨b1,o_1,cs1,rfl,-,hr1,hc1⟩:=PtR.get ha1 rfl
 obtain rfl:=hr1
 obtain ⟨b2,o_2,cs2,rfl,-,hr2,hc2⟩:=PtR.get ha2 rfl
 obtain rfl:=hr2
 exact zV 10 Tryz.func132 rfl fun h=>X0 7 rfl (zc 0 (hc1.below h.below) rfl (zc 0 (hc2.below h.below) rfl (zcB h hF qam rfl fun r1 w1 h hF=>X0 3 rfl (rb h hF rfl))))
def qO (s:(List Int)) (f_0:Int) (f_1:Int):Nat→Int→Option (Flow Int Int)
 | 0,_=>none
 | n+1,i1 =>
  bif decide (i1<(s.length:Int)) then
   (idx s i1).bind fun y1 =>
   (qey n y1 f_0 f_1).bind fun r1 =>
   bif r1 then some (.ret i1) else
   qO s f_0 f_1 n (W64 (i1+1))
  else
   some (.nxt i1)
def qar (n:Nat) (s:(List Int)) (f_0:Int) (f_1:Int):Option Int :=
 (qO s f_0 f_1 n 0).bind fun o=>match o with
 | .ret r=>some r
 | .nxt _ =>
  some (-1)
theorem qdO {s:(List Int)} {f_0:Int} {f_1:Int} (ha1:GoT.R w (old w) s cs1) {p2:Option Addr} (ha2:GoT.R w (old w) (some f_0) [.pointer p2]) {p3:Option Addr} (ha3:GoT.R w (old w) (some f_1) [.pointer p3]) {r:Int} (hF:qar n s f_0 f_1=some r):RetV Tryz.prog 151 [GoT.v (List Int) cs1,.func (.func 132) #[] #[.pointer p2,.pointer p3]] w r:=by
 obtain ⟨p1,k1,rfl,s1⟩:=ha1
 obtain ⟨b1,o_1,cs2,rfl,-,hr1,hc1⟩:=PtR.get ha2 rfl
 obtain rfl:=hr1
 obtain ⟨b2,o_2,cs3,rfl,-,hr2,hc2⟩:=PtR.get ha3 rfl
 obtain rfl:=hr2
 refine zV 19 Tryz.func151 rfl fun h=>X0 11 rfl ?_
 obtain ⟨o1,hF,hK1⟩:=qe hF
 refine qq (rL (fun m e w'=>∃ (i1:Int),qO s f_0 f_1 m i1=some o1∧e=[(0,.slice p1 s.length k1),(1,.func (.func 132) #[] #[.pointer (some ⟨b1,o_1,none⟩),.pointer (some ⟨b2,o_2,none⟩)]),(7,.int .i64 (s.length:Int)),(8,.int .i64 i1)]∧SH w w' []) n ⟨_,hF,rfl,h⟩ rfl ?_)
 rintro m1 e1 w1 ⟨i1,hF,rfl,h⟩
 rcases m1 with _|m1
 ·cases hF
 refine X0 5 rfl (qr rfl hF ?_ ?_)<;>intro hF
 ·refine X0 13 rfl ?_
  obtain ⟨y1,hy1,hF,he1,b3,_,q1,cs4,hp1,hq1,rfl,hc4⟩:=s1.ix hF
  refine zxe hp1 hq1 he1 rfl (zc 0 (hc4.below h.below) rfl (zcB h hF (qid (h.old ha2) (h.old ha3)) rfl fun r1 w2 h hF=>qbs (qr rfl hF ?_ ?_)))<;>intro hF
  ·refine X0 5 rfl ?_
   obtain rfl:=qb hF;replace hF:=hK1
   exact ri h hF rfl
  exact X0 6 rfl (rK ⟨_,hF,rfl,h⟩ rfl)
 refine qw rfl ?_
 obtain rfl:=qb hF;replace hF:=hK1
 exact X0 4 rfl (ri h hF rfl)
def qaO (n:Nat) (s:(List Int)) (f_0:Int) (f_1:Int):Option Bool :=
 (qar n s f_0 f_1).bind fun r1 =>
 some (decide (r1 ≥ 0))
theorem qds {s:(List Int)} {f_0:Int} {f_1:Int} (ha1:GoT.R w (old w) s cs1) {p2:Option Addr} (ha2:GoT.R w (old w) (some f_0) [.pointer p2]) {p3:Option Addr} (ha3:GoT.R w (old w) (some f_1) [.pointer p3]) {r:Bool} (hF:qaO n s f_0 f_1=some r):RetV Tryz.prog 131 [GoT.v (List Int) cs1,.func (.func 132) #[] #[.pointer p2,.pointer p3]] w r:=by
 obtain ⟨p1,k1,rfl,s1⟩:=ha1
 obtain ⟨b1,o_1,cs2,rfl,-,hr1,hc1⟩:=PtR.get ha2 rfl
 obtain rfl:=hr1
 obtain ⟨b2,o_2,cs3,rfl,-,hr2,hc2⟩:=PtR.get ha3 rfl
 obtain rfl:=hr2
 exact zV 9 Tryz.func131 rfl fun h=>X0 8 rfl (zcI h hF (qdO ⟨_,_,rfl,(h.oldS s1)⟩ (h.old ha2) (h.old ha3)) rfl fun r1 w1 h hF=>X0 3 rfl (rb h hF rfl))
def qbi (n:Nat) (list:(List Int)) (low:Int) (high:Int):Option Bool :=
 (qaO n list low high).bind fun r1 =>
 some (!r1)
theorem qbE {list:(List Int)} {low:Int} {high:Int} (ha1:GoT.R w (old w) list cs1) {r:Bool} (hF:qbi n list low high=some r):RetV Tryz.prog 92 [GoT.v (List Int) cs1,.int .i64 low,.int .i64 high] w r:=by
 obtain ⟨p1,k1,rfl,s1⟩:=ha1
 exact zV 11 Tryz.func92 rfl fun h=>zSR (qV h rfl rfl fun w1 bb1 h=>qV h rfl rfl fun w2 bb2 h=>X0 6 rfl (zcB h hF (qds ⟨_,_,rfl,(h.oldS s1)⟩ (qgm (x:=low) 1 h rfl rfl) (qgm (x:=high) 0 h rfl rfl)) rfl fun r1 w3 h hF=>X0 3 rfl (rb h hF rfl)))
def qao (_:Nat) (list:(List Int)):Option Int :=
 some (list.length:Int)
theorem qa6 {list:(List Int)} (ha1:GoT.R w (old w) list cs1) {r:Int} (hF:qao n list=some r):RetV Tryz.prog 73 [GoT.v (List Int) cs1] w r:=by
 obtain ⟨p1,k1,rfl,s1⟩:=ha1
 exact zV 5 Tryz.func73 rfl fun h=>X0 10 rfl (ri h hF rfl)
def qaM (list:(List Int)):Nat→Int→Option (Flow Bool Int)
 | 0,_=>none
 | n+1,i1 =>
  bif decide (i1<(list.length:Int)) then
   (idx list (W64 (i1-1))).bind fun y1 =>
   (idx list i1).bind fun y2 =>
   bif decide (y1 ≥ y2) then some (.ret false) else
   qaM list n (W64 (i1+1))
  else
   some (.nxt i1)
def qeb (n:Nat) (list:(List Int)):Option Bool :=
 (qaM list n 1).bind fun o=>match o with
 | .ret r=>some r
 | .nxt _ =>
  some true
theorem qhy {list:(List Int)} (ha1:GoT.R w (old w) list cs1) {r:Bool} (hF:qeb n list=some r):RetV Tryz.prog 113 [GoT.v (List Int) cs1] w r:=by
 obtain ⟨p1,k1,rfl,s1⟩:=ha1
 refine zV 20 Tryz.func113 rfl fun h=>X0 9 rfl ?_
 obtain ⟨o1,hF,hK1⟩:=qe hF
 refine qq (rL (fun m e w'=>∃ (i1:Int),qaM list m i1=some o1∧e=[(0,.slice p1 list.length k1),(3,.int .i64 i1)]∧SH w w' []) n ⟨_,hF,rfl,h⟩ rfl ?_)
 rintro m1 e1 w1 ⟨i1,hF,rfl,h⟩
 rcases m1 with _|m1
 ·cases hF
 refine X0 8 rfl (qr rfl hF ?_ ?_)<;>intro hF
 ·refine X0 4 rfl (rD (zd3 rfl ?_))
  obtain ⟨y1,hy1,hF,he1,b1,_,q1,cs2,hp1,hq1,rfl,hc2⟩:=s1.ix hF
  refine zdxe hp1 hq1 he1 rfl (zdc 0 (hc2.below h.below) rfl (zd2 rfl ?_))
  obtain ⟨y2,hy2,hF,he2,b2,_,q2,cs3,hp2,hq2,rfl,hc3⟩:=s1.ix hF
  refine zdxe hp2 hq2 he2 rfl (zdc 0 (hc3.below h.below) rfl (zd1 rfl (dN h fun w2 h=>qr rfl hF ?_ ?_)))<;>intro hF
  ·refine X0 4 rfl ?_
   obtain rfl:=qb hF;replace hF:=hK1
   exact rb h hF rfl
  exact X0 7 rfl (rK ⟨_,hF,rfl,h⟩ rfl)
 refine qw rfl ?_
 obtain rfl:=qb hF;replace hF:=hK1
 exact X0 4 rfl (rb h hF rfl)
def qfT (n:Nat) (list:(List Int)):Option Bool :=
 (qao n list).bind fun r1 =>
 (qau n r1 1 4).bind fun r2 =>
 bif r2 then
  (qbi n list 0 100000).bind fun r3 =>
  bif r3 then
   (qeb n list).bind fun r4 =>
   some r4
  else
   some false
 else
  some false
theorem qhu {list:(List Int)} (ha1:GoT.R w (old w) list cs1) {r:Bool} (hF:qfT n list=some r):RetV Tryz.prog 202 [GoT.v (List Int) cs1] w r:=by
 obtain ⟨p1,k1,rfl,s1⟩:=ha1
 refine zV 14 Tryz.func202 rfl fun h=>X0 7 rfl (zcI h hF (qa6 ⟨_,_,rfl,(h.oldS s1)⟩) rfl fun r1 w1 h hF=>zcB h hF qam rfl fun r2 w2 h hF=>zp1 rfl (qh (t:=6) hF rfl ?_ ?_))<;>intro hF
 ·refine X0 3 rfl (zcB h hF (qbE ⟨_,_,rfl,(h.oldS s1)⟩) rfl fun r3 w3 h hF=>zp2 rfl (qh (t:=10) hF rfl ?_ ?_))<;>intro hF
  ·exact X0 3 rfl (zcB h hF (qhy ⟨_,_,rfl,(h.oldS s1)⟩) rfl fun r4 w4 h hF=>X0 3 rfl (rb h hF rfl))
  exact X0 5 rfl (rb h hF rfl)
 exact X0 9 rfl (rb h hF rfl)
def qf8 (n:Nat) (t:qF):Option Bool :=
 (qfT n t.Bf).bind fun r1 =>
 bif r1 then
  (qfT n t.Be).bind fun r2 =>
  bif r2 then
   bif ((t.Au.length:Int)==(W64 ((t.Bf.length:Int)*(t.Be.length:Int)))) then
    (qbi n t.Au (-1000000) 1000000).bind fun r3 =>
    some r3
   else
    some false
  else
   some false
 else
  some false
theorem qjq {t:qF} (ha1:GoT.R w (old w) t cs1) {r:Bool} (hF:qf8 n t=some r):RetV Tryz.prog 193 [GoT.v qF cs1] w r:=by
 obtain ⟨p1,k1,p2,k2,p3,k3,rfl,s1,s2,s3⟩:=qdN ha1
 refine zV 29 Tryz.func193 rfl fun h=>zSR (qV h rfl rfl fun w1 bb1 h=>X1 6 0 h rfl (zcB h hF (qhu ⟨_,_,rfl,(h.oldS s1)⟩) rfl fun r1 w2 h hF=>zp1 rfl (qh (t:=6) hF rfl ?_ ?_)))<;>intro hF
 ·refine X1 5 0 h rfl (zcB h hF (qhu ⟨_,_,rfl,(h.oldS s2)⟩) rfl fun r2 w3 h hF=>zp2 rfl (qh (t:=11) hF rfl ?_ ?_))<;>intro hF
  ·refine X3 24 0 0 0 h rfl (qh (t:=24) hF rfl ?_ ?_)<;>intro hF
   ·exact X1 5 0 h rfl (zcB h hF (qbE ⟨_,_,rfl,(h.oldS s3)⟩) rfl fun r3 w4 h hF=>X0 3 rfl (rb h hF rfl))
   exact X0 6 rfl (rb h hF rfl)
  exact X0 19 rfl (rb h hF rfl)
 exact X0 24 rfl (rb h hF rfl)
def qbJ (x:(List Int)):Nat→Int→Int→Option (Int × Int)
 | 0,_,_=>none
 | n+1,i1,i2 =>
  bif decide (i2<(x.length:Int)) then
   (idx x i2).bind fun y2 =>
   qbJ x n (if y2<i1 then y2 else i1) (W64 (i2+1))
  else
   some (i1,i2)
def qex (n:Nat) (x:(List Int)):Option Int :=
 (
  bif decide ((x.length:Int)<1) then none else
  some ()).bind fun _ =>
 (idx x 0).bind fun y1 =>
 (qbJ x n y1 1).bind fun o=>match o with
 | (i1,_) =>
  some i1
theorem qic {x:(List Int)} (ha1:GoT.R w (old w) x cs1) {r:Int} (hF:qex n x=some r):RetV Tryz.prog 194 [GoT.v (List Int) cs1] w r:=by
 obtain ⟨p1,k1,rfl,s1⟩:=ha1
 refine zV 25 Tryz.func194 rfl fun h=>X0 11 rfl ?_
 obtain ⟨KF1,hKF1,o2,hF,hK2⟩:=bindE hF
 refine qb5 (fun e w'=>KF1 ()=some r∧e=[(0,.slice p1 x.length k1)]∧SH w w' []) ?_ ?_
 ·refine qr rfl hF ?_ ?_<;>intro hF
  ·refine qgW ?_
   cases hF
  refine qf1 ?_
  obtain rfl:=qb hF
  exact rG ⟨hK2,rfl,h⟩ rfl
 rintro e2 w2 ⟨hF,rfl,h⟩
 subst hKF1
 refine X0 3 rfl ?_
 obtain ⟨y1,hy1,hF,he1,b1,_,q1,cs2,hp1,hq1,rfl,hc1⟩:=s1.ix hF
 refine zxe hp1 hq1 he1 rfl (zc 0 (hc1.below h.below) rfl (X0 7 rfl ?_))
 obtain ⟨o1,hF,hK1⟩:=qe hF
 refine qq (rL (fun m e w'=>∃ (i1:Int) (i2:Int),qbJ x m i1 i2=some o1∧e=[(0,.slice p1 x.length k1),(3,.int .i64 i1),(4,.int .i64 i2)]∧SH w w' []) n ⟨_,_,hF,rfl,h⟩ rfl ?_)
 rintro m1 e1 w1 ⟨i1,i2,hF,rfl,h⟩
 rcases m1 with _|m1
 ·cases hF
 refine X0 8 rfl (qr rfl hF ?_ ?_)<;>intro hF
 ·refine X0 7 rfl ?_
  obtain ⟨y2,hy2,hF,he2,b2,_,q2,cs3,hp2,hq2,rfl,hc3⟩:=s1.ix hF
  exact zxe hp2 hq2 he2 rfl (zc 0 (hc3.below h.below) rfl (X0 9 rfl (rK ⟨_,_,hF,rfl,h⟩ rfl)))
 refine qw rfl ?_
 obtain rfl:=qb hF;replace hF:=hK1
 exact X0 5 rfl (ri h hF rfl)
def qeD (n:Nat) (t:qF) (v0:Bool):Option Bool :=
 (qf8 n t).bind fun r1 =>
 bif (!r1) then some true else
 bif v0 then
  (qex n t.Au).bind fun r2 =>
  some (decide (r2<0))
 else
  some false
theorem qh9 {t:qF} {v0:Bool} (ha1:GoT.R w (old w) t cs1) {p4:Option Addr} (ha2:GoT.R w (old w) (some v0) [.pointer p4]) {r:Bool} (hF:qeD n t v0=some r):RetV Tryz.prog 192 [GoT.v qF cs1,.pointer p4] w r:=by
 obtain ⟨p1,k1,p2,k2,p3,k3,rfl,s1,s2,s3⟩:=qdN ha1
 obtain ⟨b1,o_1,cs2,rfl,-,hr1,hc1⟩:=PtR.get ha2 rfl
 obtain rfl:=hr1
 refine zV 16 Tryz.func192 rfl fun h=>zSR (qV h rfl rfl fun w1 bb1 h=>X1 5 0 h rfl (zcB h hF (qjq (h.old ha1)) rfl fun r1 w2 h hF=>zp2 rfl (qh (t:=7) hF rfl ?_ ?_)))<;>intro hF
 ·exact X0 10 rfl (rb h hF rfl)
 refine X0 1 rfl (zc 0 (hc1.below h.below) rfl (X0 2 rfl (qh (t:=9) hF rfl ?_ ?_)))<;>intro hF
 ·exact X1 5 0 h rfl (zcI h hF (qic ⟨_,_,rfl,(h.oldS s3)⟩) rfl fun r2 w3 h hF=>X0 7 rfl (rb h hF rfl))
 exact X0 9 rfl (rb h hF rfl)
def qD (s:(List qF)) (f_0:Bool):Nat→Int→Option (Flow Int Int)
 | 0,_=>none
 | n+1,i1 =>
  bif decide (i1<(s.length:Int)) then
   (idx s i1).bind fun y1 =>
   (qeD n y1 f_0).bind fun r1 =>
   bif r1 then some (.ret i1) else
   qD s f_0 n (W64 (i1+1))
  else
   some (.nxt i1)
def qal (n:Nat) (s:(List qF)) (f_0:Bool):Option Int :=
 (qD s f_0 n 0).bind fun o=>match o with
 | .ret r=>some r
 | .nxt _ =>
  some (-1)
theorem qdh {s:(List qF)} {f_0:Bool} (ha1:GoT.R w (old w) s cs1) {p2:Option Addr} (ha2:GoT.R w (old w) (some f_0) [.pointer p2]) {r:Int} (hF:qal n s f_0=some r):RetV Tryz.prog 201 [GoT.v (List qF) cs1,.func (.func 192) #[] #[.pointer p2]] w r:=by
 obtain ⟨p1,k1,rfl,s1⟩:=ha1
 obtain ⟨b1,o_1,cs2,rfl,-,hr1,hc1⟩:=PtR.get ha2 rfl
 obtain rfl:=hr1
 refine zV 19 Tryz.func201 rfl fun h=>X0 11 rfl ?_
 obtain ⟨o1,hF,hK1⟩:=qe hF
 refine qq (rL (fun m e w'=>∃ (i1:Int),qD s f_0 m i1=some o1∧e=[(0,.slice p1 s.length k1),(1,.func (.func 192) #[] #[.pointer (some ⟨b1,o_1,none⟩)]),(7,.int .i64 (s.length:Int)),(8,.int .i64 i1)]∧SH w w' []) n ⟨_,hF,rfl,h⟩ rfl ?_)
 rintro m1 e1 w1 ⟨i1,hF,rfl,h⟩
 rcases m1 with _|m1
 ·cases hF
 refine X0 5 rfl (qr rfl hF ?_ ?_)<;>intro hF
 ·refine X0 13 rfl ?_
  obtain ⟨y1,hy1,hF,he1,b2,_,q1,cs3,hp1,hq1,hr2,hc3⟩:=s1.ix hF
  obtain ⟨p3,k2,p4,k3,p5,k4,rfl,s2,s3,s4⟩:=qdN hr2
  refine zxe hp1 hq1 he1 rfl (zc 0 (hc3.below h.below) rfl (zcB h hF (qh9 (qjR y1 (h.oldS s2) (h.oldS s3) (h.oldS s4)) (h.old ha2)) rfl fun r1 w2 h hF=>qbs (qr rfl hF ?_ ?_)))<;>intro hF
  ·refine X0 5 rfl ?_
   obtain rfl:=qb hF;replace hF:=hK1
   exact ri h hF rfl
  exact X0 6 rfl (rK ⟨_,hF,rfl,h⟩ rfl)
 refine qw rfl ?_
 obtain rfl:=qb hF;replace hF:=hK1
 exact X0 4 rfl (ri h hF rfl)
def qax (n:Nat) (s:(List qF)) (f_0:Bool):Option Bool :=
 (qal n s f_0).bind fun r1 =>
 some (decide (r1 ≥ 0))
theorem qcX {s:(List qF)} {f_0:Bool} (ha1:GoT.R w (old w) s cs1) {p2:Option Addr} (ha2:GoT.R w (old w) (some f_0) [.pointer p2]) {r:Bool} (hF:qax n s f_0=some r):RetV Tryz.prog 191 [GoT.v (List qF) cs1,.func (.func 192) #[] #[.pointer p2]] w r:=by
 obtain ⟨p1,k1,rfl,s1⟩:=ha1
 obtain ⟨b1,o_1,cs2,rfl,-,hr1,hc1⟩:=PtR.get ha2 rfl
 obtain rfl:=hr1
 exact zV 9 Tryz.func191 rfl fun h=>X0 8 rfl (zcI h hF (qdh ⟨_,_,rfl,(h.oldS s1)⟩ (h.old ha2)) rfl fun r1 w1 h hF=>X0 3 rfl (rb h hF rfl))
def qdy (n:Nat) (list:(List qF)) (positive:Bool):Option Bool :=
 bif ((list.length:Int)==2) then
  (qax n list positive).bind fun r1 =>
  some (!r1)
 else
  some false
theorem qfm {list:(List qF)} {positive:Bool} (ha1:GoT.R w (old w) list cs1) {r:Bool} (hF:qdy n list positive=some r):RetV Tryz.prog 180 [GoT.v (List qF) cs1,.bool positive] w r:=by
 obtain ⟨p1,k1,rfl,s1⟩:=ha1
 refine zV 14 Tryz.func180 rfl fun h=>zSR (qV h rfl rfl fun w1 bb1 h=>X0 8 rfl (qh (t:=8) hF rfl ?_ ?_))<;>intro hF
 ·exact X0 5 rfl (zcB h hF (qcX ⟨_,_,rfl,(h.oldS s1)⟩ (qgm (x:=positive) 0 h rfl rfl)) rfl fun r1 w2 h hF=>X0 5 rfl (rb h hF rfl))
 exact X0 7 rfl (rb h hF rfl)
def qfj (_:Nat) (p:qQ):Option Bool :=
 some p.Ba
theorem qht {p:qQ} (ha1:GoT.R w (old w) p cs1) {r:Bool} (hF:qfj n p=some r):RetV Tryz.prog 196 [GoT.v qQ cs1] w r:=by
 obtain rfl:=qcS ha1
 exact zV 5 Tryz.func196 rfl fun h=>zSR (qV h rfl rfl fun w1 bb1 h=>X1 8 0 h rfl (rb h hF rfl))
def qG (s:(List qQ)):Nat→Int→Option (Flow Int Int)
 | 0,_=>none
 | n+1,i1 =>
  bif decide (i1<(s.length:Int)) then
   (idx s i1).bind fun y1 =>
   (qfj n y1).bind fun r1 =>
   bif r1 then some (.ret i1) else
   qG s n (W64 (i1+1))
  else
   some (.nxt i1)
def qaK (n:Nat) (s:(List qQ)):Option Int :=
 (qG s n 0).bind fun o=>match o with
 | .ret r=>some r
 | .nxt _ =>
  some (-1)
theorem qdr {s:(List qQ)} (ha1:GoT.R w (old w) s cs1) {r:Int} (hF:qaK n s=some r):RetV Tryz.prog 195 [GoT.v (List qQ) cs1,.func (.func 196) #[] #[]] w r:=by
 obtain ⟨p1,k1,rfl,s1⟩:=ha1
 refine zV 19 Tryz.func195 rfl fun h=>X0 11 rfl ?_
 obtain ⟨o1,hF,hK1⟩:=qe hF
 refine qq (rL (fun m e w'=>∃ (i1:Int),qG s m i1=some o1∧e=[(0,.slice p1 s.length k1),(1,.func (.func 196) #[] #[]),(7,.int .i64 (s.length:Int)),(8,.int .i64 i1)]∧SH w w' []) n ⟨_,hF,rfl,h⟩ rfl ?_)
 rintro m1 e1 w1 ⟨i1,hF,rfl,h⟩
 rcases m1 with _|m1
 ·cases hF
 refine X0 5 rfl (qr rfl hF ?_ ?_)<;>intro hF
 ·refine X0 13 rfl ?_
  obtain ⟨y1,hy1,hF,he1,b1,_,q1,cs2,hp1,hq1,hr1,hc2⟩:=s1.ix hF
  obtain rfl:=qcS hr1
  refine zxe hp1 hq1 he1 rfl (zc 0 (hc2.below h.below) rfl (zcB h hF (qht (qgQ y1)) rfl fun r1 w2 h hF=>qbs (qr rfl hF ?_ ?_)))<;>intro hF
  ·refine X0 5 rfl ?_
   obtain rfl:=qb hF;replace hF:=hK1
   exact ri h hF rfl
  exact X0 6 rfl (rK ⟨_,hF,rfl,h⟩ rfl)
 refine qw rfl ?_
 obtain rfl:=qb hF;replace hF:=hK1
 exact X0 4 rfl (ri h hF rfl)
def qeQ (n:Nat) (c:qk):Option Int :=
 (qaK n c.Ap).bind fun r1 =>
 some r1
theorem qim {c:qk} (ha1:GoT.R w (old w) c cs1) {r:Int} (hF:qeQ n c=some r):RetV Tryz.prog 181 [GoT.v qk cs1] w r:=by
 obtain ⟨p1,k1,p2,k2,p3,k3,rfl,s1,s2,s3⟩:=qE ha1
 exact zV 6 Tryz.func181 rfl fun h=>zSR (qV h rfl rfl fun w1 bb1 h=>X1 6 0 h rfl (zcI h hF (qdr ⟨_,_,rfl,(h.oldS s1)⟩) rfl fun r1 w2 h hF=>X0 2 rfl (ri h hF rfl)))
def qea (n:Nat) (c:qk) (pin:Int):Option Bool :=
 (qbk n c).bind fun r1 =>
 (qau n pin 0 (W64 (r1-1))).bind fun r2 =>
 some r2
theorem qfQ {c:qk} {pin:Int} (ha1:GoT.R w (old w) c cs1) {r:Bool} (hF:qea n c pin=some r):RetV Tryz.prog 182 [GoT.v qk cs1,.int .i64 pin] w r:=by
 obtain ⟨p1,k1,p2,k2,p3,k3,rfl,s1,s2,s3⟩:=qE ha1
 exact zV 10 Tryz.func182 rfl fun h=>zSR (qV h rfl rfl fun w1 bb1 h=>X1 6 0 h rfl (zcI h hF (qdv (h.old ha1)) rfl fun r1 w2 h hF=>zp1 rfl (zcB h hF qam rfl fun r2 w3 h hF=>X0 2 rfl (rb h hF rfl))))
def qeS (n:Nat) (a_0:qk) (a_1:qS):Option Bool :=
 (qe6 n a_1.Aq).bind fun r1 =>
 bif r1 then
  (
   bif (a_1.Bg==0) then
    bif ((a_1.Bk.length:Int)==0) then
     (qdy n a_1.Bh false).bind fun r2 =>
     bif r2 then
      (qeQ n a_0).bind fun r3 =>
      bif (a_1.Ay==r3) then
       bif decide (a_1.Ay ≥ 0) then
        (qea n a_0 a_1.To).bind fun r4 =>
        bif r4 then some (a_1.To != a_1.Ay) else
        some false
       else
        some false
      else
       some false
     else
      some false
    else
     some false
   else
    some false).bind fun b1 =>
  some b1
 else
  (
   (qdy n a_1.Bh true).bind fun r6 =>
   bif (!r6) then some true else
   (qdy n a_1.Bk true).bind fun r7 =>
   bif (!r7) then some true else
   (qbk n a_0).bind fun r8 =>
   bif (a_1.To != r8) then some true else
   (qea n a_0 a_1.Ay).bind fun r9 =>
   some (!r9)).bind fun b2 =>
  bif b2 then some false else
  bif (a_1.Aq==1) then
   (idx a_0.Ap a_1.Ay).bind fun y1 =>
   bif (!y1.Ba) then
    (qau n a_1.Bg 1 3).bind fun r5 =>
    some r5
   else
    some false
  else
   (
    bif (a_1.Aq==2) then some (a_1.Aq==2) else
    some (a_1.Aq==3)).bind fun b4 =>
   bif b4 then
    (idx a_0.Ap a_1.Ay).bind fun y2 =>
    bif y2.Ba then some (a_1.Bg==0) else
    some false
   else
    some false
theorem qiq {a_0:qk} {a_1:qS} (ha1:GoT.R w (old w) a_0 cs1) (ha2:GoT.R w (old w) a_1 cs2) {r:Bool} (hF:qeS n a_0 a_1=some r):RetV Tryz.prog 166 [GoT.v qk cs1,GoT.v qS cs2] w r:=by
 obtain ⟨p1,k1,p2,k2,p3,k3,rfl,s1,s2,s3⟩:=qE ha1
 obtain ⟨p4,k4,p5,k5,rfl,s4,s5⟩:=qaj ha2
 refine zV 103 Tryz.func166 rfl fun h=>zSR (qV h rfl rfl fun w1 bb1 h=>qV h rfl rfl fun w2 bb2 h=>X1 7 0 h rfl (zcB h hF qhn rfl fun r1 w3 h hF=>qbs (qr rfl hF ?_ ?_)))<;>intro hF
 ·refine qeq ?_
  obtain ⟨KF1,hKF1,o1,hF,hK1⟩:=bindE hF
  refine qb5 (fun e w'=>∃ (b1:Bool),KF1 b1=some r∧e=[(4,.bool b1)]∧SH w w' []) ?_ ?_
  ·refine rD (Y1 2 0 h rfl ?_)
   refine zd2 rfl (qaT (t:=11) hF rfl ?_ ?_)<;>intro hF
   ·refine Y1 4 0 h rfl ?_
    refine Y0 6 rfl (qaT (t:=17) hF rfl ?_ ?_)<;>intro hF
    ·refine Y1 4 0 h rfl ?_
     refine Y0 1 rfl ?_
     obtain ⟨r2,hr2,hF⟩:=qe hF
     refine qdZ r2 (vsB _) (cB 180 rfl) (fun _ hb=>qfm ⟨_,_,rfl,((h.ext hb).oldS s4)⟩ hr2) rfl rfl rfl rfl (zd2 rfl (qaT (t:=22) hF rfl ?_ ?_))<;>intro hF
     ·refine Y1 4 0 h rfl ?_
      refine Y1 2 1 h rfl ?_
      refine Y0 1 rfl ?_
      obtain ⟨r3,hr3,hF⟩:=qe hF
      refine qdZ r3 (vsI _) (cB 181 rfl) (fun _ hb=>qim ((h.ext hb).old ha1) hr3) rfl rfl rfl rfl (Y0 4 rfl (qaT (t:=29) hF rfl ?_ ?_))<;>intro hF
      ·refine Y1 4 0 h rfl ?_
       refine Y0 4 rfl (qaT (t:=34) hF rfl ?_ ?_)<;>intro hF
       ·refine Y1 2 1 h rfl ?_
        refine Y1 4 0 h rfl ?_
        refine Y0 1 rfl ?_
        obtain ⟨r4,hr4,hF⟩:=qe hF
        refine qdZ r4 (vsB _) (cB 182 rfl) (fun _ hb=>qfQ ((h.ext hb).old ha1) hr4) rfl rfl rfl rfl (zd2 rfl (qaT (t:=40) hF rfl ?_ ?_))<;>intro hF
        ·refine Y1 4 0 h rfl ?_
         refine Y1 4 0 h rfl ?_
         refine Y0 4 rfl (dN h fun w4 h=>?_)
         replace h:=h.pick [] rfl
         obtain rfl:=qb hF
         exact rG ⟨_,hK1,rfl,h⟩ rfl
        refine Y0 7 rfl (dN h fun w5 h=>?_)
        replace h:=h.pick [] rfl
        obtain rfl:=qb hF
        exact rG ⟨_,hK1,rfl,h⟩ rfl
       refine Y0 13 rfl (dN h fun w6 h=>?_)
       replace h:=h.pick [] rfl
       obtain rfl:=qb hF
       exact rG ⟨_,hK1,rfl,h⟩ rfl
      refine Y0 18 rfl (dN h fun w7 h=>?_)
      replace h:=h.pick [] rfl
      obtain rfl:=qb hF
      exact rG ⟨_,hK1,rfl,h⟩ rfl
     refine Y0 25 rfl (dN h fun w8 h=>?_)
     replace h:=h.pick [] rfl
     obtain rfl:=qb hF
     exact rG ⟨_,hK1,rfl,h⟩ rfl
    refine Y0 30 rfl (dN h fun w9 h=>?_)
    replace h:=h.pick [] rfl
    obtain rfl:=qb hF
    exact rG ⟨_,hK1,rfl,h⟩ rfl
   refine Y0 36 rfl (dN h fun w10 h=>?_)
   replace h:=h.pick [] rfl
   obtain rfl:=qb hF
   exact rG ⟨_,hK1,rfl,h⟩ rfl
  rintro e1 w11 ⟨b1,hF,rfl,h⟩
  subst hKF1
  exact rb h hF rfl
 refine zKSS ?_
 obtain ⟨KF3,hKF3,o3,hF,hK3⟩:=bindE hF
 refine qb5 (fun e w'=>∃ (b2:Bool),KF3 b2=some r∧e=[(2,.pointer (some ⟨bb1,0,none⟩)),(3,.pointer (some ⟨bb2,0,none⟩)),(70,.bool b2)]∧SH w w' [Ch.box bb2 (qeo a_1 p4 p5 k4 k5) 133,Ch.box bb1 (qt a_0 p1 p2 p3 k1 k2 k3) 128]) ?_ ?_
 ·refine rD (Y1 2 0 h rfl ?_)
  obtain ⟨r6,hr8,hF⟩:=qe hF
  refine qdZ r6 (vsB _) (cB 180 rfl) (fun _ hb=>qfm ⟨_,_,rfl,((h.ext hb).oldS s4)⟩ hr8) rfl rfl rfl rfl (zd2 rfl (qaT (t:=51) hF rfl ?_ ?_))<;>intro hF
  ·refine Y0 19 rfl (dN h fun w14 h=>?_)
   obtain rfl:=qb hF
   exact rG ⟨_,hK3,rfl,h⟩ rfl
  refine Y1 4 0 h rfl ?_
  refine Y0 1 rfl ?_
  obtain ⟨r7,hr9,hF⟩:=qe hF
  refine qdZ r7 (vsB _) (cB 180 rfl) (fun _ hb=>qfm ⟨_,_,rfl,((h.ext hb).oldS s5)⟩ hr9) rfl rfl rfl rfl (Y0 4 rfl (qaT (t:=57) hF rfl ?_ ?_))<;>intro hF
  ·refine Y0 13 rfl (dN h fun w15 h=>?_)
   obtain rfl:=qb hF
   exact rG ⟨_,hK3,rfl,h⟩ rfl
  refine Y1 4 0 h rfl ?_
  refine Y1 2 1 h rfl ?_
  refine Y0 1 rfl ?_
  obtain ⟨r8,hr10,hF⟩:=qe hF
  refine qdZ r8 (vsI _) (cB 83 rfl) (fun _ hb=>qdv ((h.ext hb).old ha1) hr10) rfl rfl rfl rfl (Y0 4 rfl (qaT (t:=64) hF rfl ?_ ?_))<;>intro hF
  ·refine Y0 6 rfl (dN h fun w16 h=>?_)
   obtain rfl:=qb hF
   exact rG ⟨_,hK3,rfl,h⟩ rfl
  refine Y1 2 1 h rfl ?_
  refine Y1 4 0 h rfl ?_
  refine Y0 1 rfl ?_
  obtain ⟨r9,hr11,hF⟩:=qe hF
  refine qdZ r9 (vsB _) (cB 182 rfl) (fun _ hb=>qfQ ((h.ext hb).old ha1) hr11) rfl rfl rfl rfl (Y0 3 rfl (dN h fun w17 h=>?_))
  obtain rfl:=qb hF
  exact rG ⟨_,hK3,rfl,h⟩ rfl
 rintro e3 w18 ⟨b2,hF,rfl,h⟩
 subst hKF3
 refine qr rfl hF ?_ ?_<;>intro hF
 ·exact X0 4 rfl (rb h hF rfl)
 refine X1 13 0 h rfl (qr rfl hF ?_ ?_)<;>intro hF
 ·refine X2 6 1 0 h rfl ?_
  obtain ⟨y1,hy1,hF,he1,b3,_,q1,cs3,hp1,hq1,hr5,hc4⟩:=s1.ix hF
  obtain rfl:=qcS hr5
  refine zxe hp1 hq1 he1 rfl (zp1 rfl (zc 3 (hc4.below h.below) rfl (zp2 rfl (qh (t:=83) hF rfl ?_ ?_))))<;>intro hF
  ·exact X1 5 0 h rfl (zcB h hF qam rfl fun r5 w12 h hF=>X0 3 rfl (rb h hF rfl))
  exact X0 6 rfl (rb h hF rfl)
 refine X0 6 rfl ?_
 obtain ⟨KF2,hKF2,o2,hF,hK2⟩:=bindE hF
 refine qb5 (fun e w'=>∃ (b4:Bool),KF2 b4=some r∧e=[(2,.pointer (some ⟨bb1,0,none⟩)),(3,.pointer (some ⟨bb2,0,none⟩)),(88,.bool b4)]∧SH w w' [Ch.box bb2 (qeo a_1 p4 p5 k4 k5) 133,Ch.box bb1 (qt a_0 p1 p2 p3 k1 k2 k3) 128]) ?_ ?_
 ·refine qr rfl hF ?_ ?_<;>intro hF
  ·refine qf1 ?_
   obtain rfl:=qb hF
   exact rG ⟨_,hK2,rfl,h⟩ rfl
  refine X0 4 rfl ?_
  obtain rfl:=qb hF
  exact rG ⟨_,hK2,rfl,h⟩ rfl
 rintro e2 w13 ⟨b4,hF,rfl,h⟩
 subst hKF2
 refine qr rfl hF ?_ ?_<;>intro hF
 ·refine X2 6 1 0 h rfl ?_
  obtain ⟨y2,hy2,hF,he2,b5,_,q2,cs4,hp2,hq2,hr7,hc6⟩:=s1.ix hF
  obtain rfl:=qcS hr7
  refine zxe hp2 hq2 he2 rfl (zp1 rfl (zc 3 (hc6.below h.below) rfl (zp1 rfl (qh (t:=98) hF rfl ?_ ?_))))<;>intro hF
  ·exact X1 9 0 h rfl (rb h hF rfl)
  exact X0 6 rfl (rb h hF rfl)
 exact X0 6 rfl (rb h hF rfl)
def qdw (_:Nat) (a_o:qS) (v0:qS):Option Bool :=
 bif (a_o.Aq==v0.Aq) then
  bif (a_o.Ay==v0.Ay) then some (a_o.To==v0.To) else
  some false
 else
  some false
theorem qhg {a_o:qS} {v0:qS} (ha1:GoT.R w (old w) a_o cs1) {p3:Option Addr} (ha2:GoT.R w (old w) (some v0) [.pointer p3]) {r:Bool} (hF:qdw n a_o v0=some r):RetV Tryz.prog 167 [GoT.v qS cs1,.pointer p3] w r:=by
 obtain ⟨p1,k1,p2,k2,rfl,s1,s2⟩:=qaj ha1
 obtain ⟨b1,o_1,cs2,rfl,-,hr1,hc1⟩:=PtR.get ha2 rfl
 obtain ⟨p4,k3,p5,k4,rfl,s3,s4⟩:=qaj hr1
 refine zV 23 Tryz.func167 rfl fun h=>zSR (qV h rfl rfl fun w1 bb1 h=>X1 7 0 h rfl (zc 0 (hc1.below h.below) rfl (zp2 rfl (qh (t:=9) hF rfl ?_ ?_))))<;>intro hF
 ·refine X1 7 0 h rfl (zc 1 (hc1.below h.below) rfl (X0 4 rfl (qh (t:=16) hF rfl ?_ ?_)))<;>intro hF
  ·exact X1 7 0 h rfl (zc 2 (hc1.below h.below) rfl (X0 5 rfl (rb h hF rfl)))
  exact X0 8 rfl (rb h hF rfl)
 exact X0 15 rfl (rb h hF rfl)
def qC (s:(List qS)) (f_0:qS):Nat→Int→Option (Flow Int Int)
 | 0,_=>none
 | n+1,i1 =>
  bif decide (i1<(s.length:Int)) then
   (idx s i1).bind fun y1 =>
   (qdw n y1 f_0).bind fun r1 =>
   bif r1 then some (.ret i1) else
   qC s f_0 n (W64 (i1+1))
  else
   some (.nxt i1)
def qaz (n:Nat) (s:(List qS)) (f_0:qS):Option Int :=
 (qC s f_0 n 0).bind fun o=>match o with
 | .ret r=>some r
 | .nxt _ =>
  some (-1)
theorem qc1 {s:(List qS)} {f_0:qS} (ha1:GoT.R w (old w) s cs1) {p2:Option Addr} (ha2:GoT.R w (old w) (some f_0) [.pointer p2]) {r:Int} (hF:qaz n s f_0=some r):RetV Tryz.prog 129 [GoT.v (List qS) cs1,.func (.func 167) #[] #[.pointer p2]] w r:=by
 obtain ⟨p1,k1,rfl,s1⟩:=ha1
 obtain ⟨b1,o_1,cs2,rfl,-,hr1,hc1⟩:=PtR.get ha2 rfl
 obtain ⟨p3,k2,p4,k3,rfl,s2,s3⟩:=qaj hr1
 refine zV 19 Tryz.func129 rfl fun h=>X0 11 rfl ?_
 obtain ⟨o1,hF,hK1⟩:=qe hF
 refine qq (rL (fun m e w'=>∃ (i1:Int),qC s f_0 m i1=some o1∧e=[(0,.slice p1 s.length k1),(1,.func (.func 167) #[] #[.pointer (some ⟨b1,o_1,none⟩)]),(7,.int .i64 (s.length:Int)),(8,.int .i64 i1)]∧SH w w' []) n ⟨_,hF,rfl,h⟩ rfl ?_)
 rintro m1 e1 w1 ⟨i1,hF,rfl,h⟩
 rcases m1 with _|m1
 ·cases hF
 refine X0 5 rfl (qr rfl hF ?_ ?_)<;>intro hF
 ·refine X0 13 rfl ?_
  obtain ⟨y1,hy1,hF,he1,b2,_,q1,cs3,hp1,hq1,hr2,hc3⟩:=s1.ix hF
  obtain ⟨p5,k4,p6,k5,rfl,s4,s5⟩:=qaj hr2
  refine zxe hp1 hq1 he1 rfl (zc 0 (hc3.below h.below) rfl (zcB h hF (qhg (qfL y1 (h.oldS s4) (h.oldS s5)) (h.old ha2)) rfl fun r1 w2 h hF=>qbs (qr rfl hF ?_ ?_)))<;>intro hF
  ·refine X0 5 rfl ?_
   obtain rfl:=qb hF;replace hF:=hK1
   exact ri h hF rfl
  exact X0 6 rfl (rK ⟨_,hF,rfl,h⟩ rfl)
 refine qw rfl ?_
 obtain rfl:=qb hF;replace hF:=hK1
 exact X0 4 rfl (ri h hF rfl)
def qaf (n:Nat) (s:(List qS)) (f_0:qS):Option Bool :=
 (qaz n s f_0).bind fun r1 =>
 some (decide (r1 ≥ 0))
theorem qcK {s:(List qS)} {f_0:qS} (ha1:GoT.R w (old w) s cs1) {p2:Option Addr} (ha2:GoT.R w (old w) (some f_0) [.pointer p2]) {r:Bool} (hF:qaf n s f_0=some r):RetV Tryz.prog 80 [GoT.v (List qS) cs1,.func (.func 167) #[] #[.pointer p2]] w r:=by
 obtain ⟨p1,k1,rfl,s1⟩:=ha1
 obtain ⟨b1,o_1,cs2,rfl,-,hr1,hc1⟩:=PtR.get ha2 rfl
 obtain ⟨p3,k2,p4,k3,rfl,s2,s3⟩:=qaj hr1
 exact zV 9 Tryz.func80 rfl fun h=>X0 8 rfl (zcI h hF (qc1 ⟨_,_,rfl,(h.oldS s1)⟩ (h.old ha2)) rfl fun r1 w1 h hF=>X0 3 rfl (rb h hF rfl))
end Go.Fw


namespace Go.Fw
open Go Go.Proofs
open Go.RowKit (Below)
set_option maxRecDepth 100000
set_option maxHeartbeats 6400000
variable {n:Nat} {w:World} {cs1 cs2 cs3 cs4 cs5 cs6 cs7 cs8 cs9:List Value}
def qbo (c:qk):Nat→Int→Option (Flow Bool Int)
 | 0,_=>none
 | n+1,i1 =>
  bif decide (i1<(c.Am.length:Int)) then
   (idx c.Am i1).bind fun y1 =>
   (qeS n c y1).bind fun r1 =>
   bif (!r1) then some (.ret false) else
   (subS c.Am 0 i1).bind fun x1 =>
   (qaf n x1 y1).bind fun r2 =>
   bif r2 then some (.ret false) else
   qbo c n (W64 (i1+1))
  else
   some (.nxt i1)
def qed (n:Nat) (c:qk):Option Bool :=
 (qbo c n 0).bind fun o=>match o with
 | .ret r=>some r
 | .nxt _ =>
  some (decide ((c.Am.length:Int)≤8))
theorem qhE {c:qk} (ha1:GoT.R w (old w) c cs1) {r:Bool} (hF:qed n c=some r):RetV Tryz.prog 159 [GoT.v qk cs1] w r:=by
 obtain ⟨p1,k1,p2,k2,p3,k3,rfl,s1,s2,s3⟩:=qE ha1
 refine zV 30 Tryz.func159 rfl fun h=>zSR (qV h rfl rfl fun w1 bb1 h=>X1 10 0 h rfl ?_)
 obtain ⟨o1,hF,hK1⟩:=qe hF
 refine qq (rL (fun m e w'=>∃ (i1:Int),qbo c m i1=some o1∧e=[(1,.pointer (some ⟨bb1,0,none⟩)),(6,.slice p2 c.Am.length k2),(7,.int .i64 (c.Am.length:Int)),(8,.int .i64 i1)]∧SH w w' [Ch.box bb1 (qt c p1 p2 p3 k1 k2 k3) 128]) n ⟨_,hF,rfl,h⟩ rfl ?_)
 rintro m1 e1 w2 ⟨i1,hF,rfl,h⟩
 rcases m1 with _|m1
 ·cases hF
 refine X0 5 rfl (qr rfl hF ?_ ?_)<;>intro hF
 ·refine X0 6 rfl ?_
  obtain ⟨y1,hy1,hF,he1,b1,_,q1,cs2,hp1,hq1,hr1,hc2⟩:=s2.ix hF
  obtain ⟨p4,k4,p5,k5,rfl,s4,s5⟩:=qaj hr1
  refine zxe hp1 hq1 he1 rfl (zc 0 (hc2.below h.below) rfl (qy qa h rfl rfl rfl fun w3 bb2 h=>zp1 rfl (zs 0 h rfl fun w4 h=>X2 5 1 0 h rfl (zcB h hF (qiq (h.old ha1) (qfL y1 (h.oldS s4) (h.oldS s5))) rfl fun r1 w5 h hF=>zp2 rfl (qh (t:=17) hF rfl ?_ ?_)))))<;>intro hF
  ·refine X0 8 rfl (qdR rfl rfl (X0 4 rfl ?_))
   obtain rfl:=qb hF;replace hF:=hK1
   exact rb h hF rfl
  refine X1 7 1 h rfl ?_
  obtain ⟨x1,hx1,hF⟩:=qe hF
  obtain ⟨p6,k6,hp2,hk1,hl1,g1⟩:=ql2 (h.oldS s2) hx1
  refine r_v (qjM qa rfl rfl rfl (qlY g1 rfl) hp2 hk1 hl1 rfl rfl rfl rfl) rfl ?_
  have s6:=qlW s2 hx1 hp2 hk1
  refine X0 3 rfl (zcB h hF (qcK ⟨_,_,rfl,(h.oldS s6)⟩ (qgm (x:=y1) 0 h rfl (qfL y1 (h.oldS s4) (h.oldS s5)))) rfl fun r2 w6 h hF=>X0 2 rfl (qr rfl hF ?_ ?_))<;>intro hF
  ·refine X0 4 rfl ?_
   obtain rfl:=qb hF;replace hF:=hK1
   exact rb h hF rfl
  refine X0 6 rfl ?_
  replace h:=h.pick [1] rfl
  exact rK ⟨_,hF,rfl,h⟩ rfl
 refine qw rfl ?_
 obtain rfl:=qb hF;replace hF:=hK1
 exact X1 8 0 h rfl (rb h hF rfl)
def qf2 (_:Nat) (a:qS) (v0:Int):Option Bool :=
 some (a.Aq==v0)
theorem qis {a:qS} {v0:Int} (ha1:GoT.R w (old w) a cs1) {p3:Option Addr} (ha2:GoT.R w (old w) (some v0) [.pointer p3]) {r:Bool} (hF:qf2 n a v0=some r):RetV Tryz.prog 183 [GoT.v qS cs1,.pointer p3] w r:=by
 obtain ⟨p1,k1,p2,k2,rfl,s1,s2⟩:=qaj ha1
 obtain ⟨b1,o_1,cs2,rfl,-,hr1,hc1⟩:=PtR.get ha2 rfl
 obtain rfl:=hr1
 exact zV 8 Tryz.func183 rfl fun h=>zSR (qV h rfl rfl fun w1 bb1 h=>X1 6 0 h rfl (zc 0 (hc1.below h.below) rfl (X0 3 rfl (rb h hF rfl))))
def qL (s:(List qS)) (f_0:Int):Nat→Int→Option (Flow Int Int)
 | 0,_=>none
 | n+1,i1 =>
  bif decide (i1<(s.length:Int)) then
   (idx s i1).bind fun y1 =>
   (qf2 n y1 f_0).bind fun r1 =>
   bif r1 then some (.ret i1) else
   qL s f_0 n (W64 (i1+1))
  else
   some (.nxt i1)
def qaR (n:Nat) (s:(List qS)) (f_0:Int):Option Int :=
 (qL s f_0 n 0).bind fun o=>match o with
 | .ret r=>some r
 | .nxt _ =>
  some (-1)
theorem qdE {s:(List qS)} {f_0:Int} (ha1:GoT.R w (old w) s cs1) {p2:Option Addr} (ha2:GoT.R w (old w) (some f_0) [.pointer p2]) {r:Int} (hF:qaR n s f_0=some r):RetV Tryz.prog 129 [GoT.v (List qS) cs1,.func (.func 183) #[] #[.pointer p2]] w r:=by
 obtain ⟨p1,k1,rfl,s1⟩:=ha1
 obtain ⟨b1,o_1,cs2,rfl,-,hr1,hc1⟩:=PtR.get ha2 rfl
 obtain rfl:=hr1
 refine zV 19 Tryz.func129 rfl fun h=>X0 11 rfl ?_
 obtain ⟨o1,hF,hK1⟩:=qe hF
 refine qq (rL (fun m e w'=>∃ (i1:Int),qL s f_0 m i1=some o1∧e=[(0,.slice p1 s.length k1),(1,.func (.func 183) #[] #[.pointer (some ⟨b1,o_1,none⟩)]),(7,.int .i64 (s.length:Int)),(8,.int .i64 i1)]∧SH w w' []) n ⟨_,hF,rfl,h⟩ rfl ?_)
 rintro m1 e1 w1 ⟨i1,hF,rfl,h⟩
 rcases m1 with _|m1
 ·cases hF
 refine X0 5 rfl (qr rfl hF ?_ ?_)<;>intro hF
 ·refine X0 13 rfl ?_
  obtain ⟨y1,hy1,hF,he1,b2,_,q1,cs3,hp1,hq1,hr2,hc3⟩:=s1.ix hF
  obtain ⟨p3,k2,p4,k3,rfl,s2,s3⟩:=qaj hr2
  refine zxe hp1 hq1 he1 rfl (zc 0 (hc3.below h.below) rfl (zcB h hF (qis (qfL y1 (h.oldS s2) (h.oldS s3)) (h.old ha2)) rfl fun r1 w2 h hF=>qbs (qr rfl hF ?_ ?_)))<;>intro hF
  ·refine X0 5 rfl ?_
   obtain rfl:=qb hF;replace hF:=hK1
   exact ri h hF rfl
  exact X0 6 rfl (rK ⟨_,hF,rfl,h⟩ rfl)
 refine qw rfl ?_
 obtain rfl:=qb hF;replace hF:=hK1
 exact X0 4 rfl (ri h hF rfl)
def qaH (n:Nat) (s:(List qS)) (f_0:Int):Option Bool :=
 (qaR n s f_0).bind fun r1 =>
 some (decide (r1 ≥ 0))
theorem qdj {s:(List qS)} {f_0:Int} (ha1:GoT.R w (old w) s cs1) {p2:Option Addr} (ha2:GoT.R w (old w) (some f_0) [.pointer p2]) {r:Bool} (hF:qaH n s f_0=some r):RetV Tryz.prog 80 [GoT.v (List qS) cs1,.func (.func 183) #[] #[.pointer p2]] w r:=by
 obtain ⟨p1,k1,rfl,s1⟩:=ha1
 obtain ⟨b1,o_1,cs2,rfl,-,hr1,hc1⟩:=PtR.get ha2 rfl
 obtain rfl:=hr1
 exact zV 9 Tryz.func80 rfl fun h=>X0 8 rfl (zcI h hF (qdE ⟨_,_,rfl,(h.oldS s1)⟩ (h.old ha2)) rfl fun r1 w1 h hF=>X0 3 rfl (rb h hF rfl))
def qb7 (n:Nat) (c:qk) (kind:Int):Option Bool :=
 (qaH n c.Am kind).bind fun r1 =>
 some r1
theorem qcP {c:qk} {kind:Int} (ha1:GoT.R w (old w) c cs1) {r:Bool} (hF:qb7 n c kind=some r):RetV Tryz.prog 168 [GoT.v qk cs1,.int .i64 kind] w r:=by
 obtain ⟨p1,k1,p2,k2,p3,k3,rfl,s1,s2,s3⟩:=qE ha1
 exact zV 9 Tryz.func168 rfl fun h=>zSR (qV h rfl rfl fun w1 bb1 h=>qV h rfl rfl fun w2 bb2 h=>X1 7 1 h rfl (zcB h hF (qdj ⟨_,_,rfl,(h.oldS s2)⟩ (qgm (x:=kind) 0 h rfl rfl)) rfl fun r1 w3 h hF=>X0 2 rfl (rb h hF rfl)))
def qaB (a_0:qk):Nat→Int→Int→Option (Int × Int)
 | 0,_,_=>none
 | n+1,i1,i2 =>
  bif decide (i2<(a_0.Ap.length:Int)) then
   (idx a_0.Ap i2).bind fun y1 =>
   bif y1.Ba then qaB a_0 n (W64 (i1+1)) (W64 (i2+1)) else
   qaB a_0 n i1 (W64 (i2+1))
  else
   some (i1,i2)
def qdT (n:Nat) (a_0:qk):Option Bool :=
 (qaB a_0 n 0 0).bind fun o=>match o with
 | (i1,_) =>
  bif (a_0.Aq==1) then
   bif (i1==0) then
    (qbk n a_0).bind fun r1 =>
    (shlS 1 r1).bind fun y2 =>
    bif ((a_0.Az.length:Int)==y2) then
     (qbi n a_0.Az 0 1).bind fun r2 =>
     some r2
    else
     some false
   else
    some false
  else
   bif (a_0.Aq==2) then
    bif (i1==1) then
     bif ((a_0.Az.length:Int)==0) then
      (qb7 n a_0 1).bind fun r3 =>
      bif (!r3) then
       (qb7 n a_0 2).bind fun r4 =>
       (qb7 n a_0 3).bind fun r5 =>
       some (!(r4==r5))
      else
       some false
     else
      some false
    else
     some false
   else
    bif (a_0.Aq==3) then
     bif (i1==1) then
      bif ((a_0.Az.length:Int)==0) then
       (qb7 n a_0 1).bind fun r6 =>
       bif r6 then
        (qb7 n a_0 2).bind fun r7 =>
        bif r7 then
         (qb7 n a_0 3).bind fun r8 =>
         some (!r8)
        else
         some false
       else
        some false
      else
       some false
     else
      some false
    else
     some false
theorem qhp {a_0:qk} (ha1:GoT.R w (old w) a_0 cs1) {r:Bool} (hF:qdT n a_0=some r):RetV Tryz.prog 160 [GoT.v qk cs1] w r:=by
 obtain ⟨p1,k1,p2,k2,p3,k3,rfl,s1,s2,s3⟩:=qE ha1
 refine zV 83 Tryz.func160 rfl fun h=>zSR (qV h rfl rfl fun w1 bb1 h=>X1 14 0 h rfl ?_)
 obtain ⟨o1,hF,hK1⟩:=qe hF
 refine qq (rL (fun m e w'=>∃ (i1:Int) (i2:Int),qaB a_0 m i1 i2=some o1∧e=[(1,.pointer (some ⟨bb1,0,none⟩)),(3,.int .i64 i1),(7,.slice p1 a_0.Ap.length k1),(8,.int .i64 (a_0.Ap.length:Int)),(9,.int .i64 i2)]∧SH w w' [Ch.box bb1 (qt a_0 p1 p2 p3 k1 k2 k3) 128]) n ⟨_,_,hF,rfl,h⟩ rfl ?_)
 rintro m1 e1 w2 ⟨i1,i2,hF,rfl,h⟩
 rcases m1 with _|m1
 ·cases hF
 refine X0 5 rfl (qr rfl hF ?_ ?_)<;>intro hF
 ·refine zKSBSR ?_
  obtain ⟨y1,hy1,hF,he1,b1,_,q1,cs2,hp1,hq1,hr1,hc2⟩:=s1.ix hF
  obtain rfl:=qcS hr1
  refine zxe hp1 hq1 he1 rfl (zc 0 (hc2.below h.below) rfl (qy qa h rfl rfl rfl fun w3 bb2 h=>zs 0 h rfl fun w4 h=>X1 6 0 h rfl (qr rfl hF ?_ ?_)))<;>intro hF
  ·refine X0 10 rfl ?_
   replace h:=h.pick [1] rfl
   exact rK ⟨_,_,hF,rfl,h⟩ rfl
  refine X0 6 rfl ?_
  replace h:=h.pick [1] rfl
  exact rK ⟨_,_,hF,rfl,h⟩ rfl
 refine qw rfl ?_
 obtain rfl:=qb hF;replace hF:=hK1
 refine X1 12 0 h rfl (qr rfl hF ?_ ?_)<;>intro hF
 ·refine qeq (rD (zd3 rfl (qaT (t:=24) hF rfl ?_ ?_)))<;>intro hF
  ·refine Y1 4 0 h rfl ?_
   refine Y1 4 0 h rfl ?_
   refine Y0 1 rfl ?_
   obtain ⟨r1,hr2,hF⟩:=qe hF
   refine qdZ r1 (vsI _) (cB 83 rfl) (fun _ hb=>qdv ((h.ext hb).old ha1) hr2) rfl rfl rfl rfl (Y0 1 rfl ?_)
   obtain ⟨y2,hx1,hF⟩:=qe hF
   obtain ⟨g1,hx1⟩:=qjd hx1
   refine d_v (fun _ hb=>qnh g1 rfl rfl) rfl ?_
   rw [hx1]
   refine Y0 4 rfl (qaT (t:=33) hF rfl ?_ ?_)<;>intro hF
   ·refine Y1 4 0 h rfl ?_
    refine Y0 1 rfl ?_
    obtain ⟨r2,hr3,hF⟩:=qe hF
    exact qdZ r2 (vsB _) (cB 92 rfl) (fun _ hb=>qbE ⟨_,_,rfl,((h.ext hb).oldS s3)⟩ hr3) rfl rfl rfl rfl (zd2 rfl (dN h fun w5 h=>rb h hF rfl))
   exact Y0 5 rfl (dN h fun w6 h=>rb h hF rfl)
  exact Y0 14 rfl (dN h fun w7 h=>rb h hF rfl)
 refine X0 5 rfl (qr rfl hF ?_ ?_)<;>intro hF
 ·refine qeq (rD (zd3 rfl (qaT (t:=42) hF rfl ?_ ?_)))<;>intro hF
  ·refine Y1 4 0 h rfl ?_
   refine Y0 6 rfl (qaT (t:=48) hF rfl ?_ ?_)<;>intro hF
   ·refine Y1 2 0 h rfl ?_
    refine Y0 1 rfl ?_
    obtain ⟨r3,hr4,hF⟩:=qe hF
    refine qdZ r3 (vsB _) (cB 168 rfl) (fun _ hb=>qcP ((h.ext hb).old ha1) hr4) rfl rfl rfl rfl (Y0 4 rfl (qaT (t:=53) hF rfl ?_ ?_))<;>intro hF
    ·refine Y1 2 0 h rfl ?_
     refine Y0 1 rfl ?_
     obtain ⟨r4,hr5,hF⟩:=qe hF
     refine qdZ r4 (vsB _) (cB 168 rfl) (fun _ hb=>qcP ((h.ext hb).old ha1) hr5) rfl rfl rfl rfl (Y1 2 0 h rfl ?_)
     refine Y0 1 rfl ?_
     obtain ⟨r5,hr6,hF⟩:=qe hF
     exact qdZ r5 (vsB _) (cB 168 rfl) (fun _ hb=>qcP ((h.ext hb).old ha1) hr6) rfl rfl rfl rfl (Y0 4 rfl (dN h fun w8 h=>rb h hF rfl))
    exact Y0 7 rfl (dN h fun w9 h=>rb h hF rfl)
   exact Y0 12 rfl (dN h fun w10 h=>rb h hF rfl)
  exact Y0 18 rfl (dN h fun w11 h=>rb h hF rfl)
 refine X0 5 rfl (qr rfl hF ?_ ?_)<;>intro hF
 ·refine X0 5 rfl (qh (t:=64) hF rfl ?_ ?_)<;>intro hF
  ·refine X1 10 0 h rfl (qh (t:=70) hF rfl ?_ ?_)<;>intro hF
   ·refine X1 3 0 h rfl (zcB h hF (qcP (h.old ha1)) rfl fun r6 w12 h hF=>zp2 rfl (qh (t:=74) hF rfl ?_ ?_))<;>intro hF
    ·refine X1 3 0 h rfl (zcB h hF (qcP (h.old ha1)) rfl fun r7 w13 h hF=>zp2 rfl (qh (t:=78) hF rfl ?_ ?_))<;>intro hF
     ·exact X1 3 0 h rfl (zcB h hF (qcP (h.old ha1)) rfl fun r8 w14 h hF=>X0 5 rfl (rb h hF rfl))
     exact X0 6 rfl (rb h hF rfl)
    exact X0 10 rfl (rb h hF rfl)
   exact X0 14 rfl (rb h hF rfl)
  exact X0 20 rfl (rb h hF rfl)
 exact X0 6 rfl (rb h hF rfl)
def qgG (n:Nat) (c:qk):Option Bool :=
 (qfO n c.Ar).bind fun r1 =>
 bif r1 then
  (qge n c.Ap).bind fun r2 =>
  bif r2 then
   (qed n c).bind fun r3 =>
   bif r3 then
    (qau n c.Bm 0 100000).bind fun r4 =>
    bif r4 then
     (qau n c.Bi 0 100000).bind fun r5 =>
     bif r5 then
      (qdT n c).bind fun r6 =>
      some r6
     else
      some false
    else
     some false
   else
    some false
  else
   some false
 else
  some false
theorem qj7 {c:qk} (ha1:GoT.R w (old w) c cs1) {r:Bool} (hF:qgG n c=some r):RetV Tryz.prog 145 [GoT.v qk cs1] w r:=by
 obtain ⟨p1,k1,p2,k2,p3,k3,rfl,s1,s2,s3⟩:=qE ha1
 refine zV 29 Tryz.func145 rfl fun h=>zSR (qV h rfl rfl fun w1 bb1 h=>X1 6 0 h rfl (zcB h hF qhK rfl fun r1 w2 h hF=>zp1 rfl (qh (t:=6) hF rfl ?_ ?_)))<;>intro hF
 ·refine X1 5 0 h rfl (zcB h hF (qjv ⟨_,_,rfl,(h.oldS s1)⟩) rfl fun r2 w3 h hF=>zp2 rfl (qh (t:=11) hF rfl ?_ ?_))<;>intro hF
  ·refine X1 3 0 h rfl (zcB h hF (qhE (h.old ha1)) rfl fun r3 w4 h hF=>zp2 rfl (qh (t:=15) hF rfl ?_ ?_))<;>intro hF
   ·refine X1 5 0 h rfl (zcB h hF qam rfl fun r4 w5 h hF=>zp2 rfl (qh (t:=20) hF rfl ?_ ?_))<;>intro hF
    ·refine X1 5 0 h rfl (zcB h hF qam rfl fun r5 w6 h hF=>zp2 rfl (qh (t:=25) hF rfl ?_ ?_))<;>intro hF
     ·exact X1 3 0 h rfl (zcB h hF (qhp (h.old ha1)) rfl fun r6 w7 h hF=>X0 3 rfl (rb h hF rfl))
     exact X0 5 rfl (rb h hF rfl)
    exact X0 10 rfl (rb h hF rfl)
   exact X0 15 rfl (rb h hF rfl)
  exact X0 19 rfl (rb h hF rfl)
 exact X0 24 rfl (rb h hF rfl)
def qbF (l:qi):Nat→(List ByteArray)→Int→Option (Flow Bool ((List ByteArray) × Int))
 | 0,_,_=>none
 | n+1,x1,i1 =>
  bif decide (i1<(l.Ak.length:Int)) then
   (idx l.Ak i1).bind fun y1 =>
   (qgG n y1).bind fun r1 =>
   bif (!r1) then some (.ret false) else
   (appS x1 ([y1.Ar]:List ByteArray)).bind fun x2 =>
   qbF l n x2 (W64 (i1+1))
  else
   some (.nxt (x1,i1))
def qfb (n:Nat) (l:qi):Option Bool :=
 (qbF l n ([]:List ByteArray) 0).bind fun o=>match o with
 | .ret r=>some r
 | .nxt (x1,_) =>
  bif decide ((l.Ak.length:Int)≤8) then
   (qcF n x1).bind fun r2 =>
   some r2
  else
   some false
theorem qiE {l:qi} (ha1:GoT.R w (old w) l cs1) {r:Bool} (hF:qfb n l=some r):RetV Tryz.prog 118 [GoT.v qi cs1] w r:=by
 obtain ⟨p1,k1,rfl,s1⟩:=qbg ha1
 refine zV 30 Tryz.func118 rfl fun h=>zSR (qV h rfl rfl fun w1 bb1 h=>X1 14 0 h rfl ?_)
 replace h:=h.nil (α:=ByteArray)
 obtain ⟨o1,hF,hK1⟩:=qe hF
 refine qq (rL (fun m e w'=>∃ (S1:Nat→Prop) (p2:Option Addr) (ln1:Nat) (k2:Nat) (x1:(List ByteArray)) (i1:Int),qbF l m x1 i1=some o1∧e=[(1,.pointer (some ⟨bb1,0,none⟩)),(3,.slice p2 ln1 k2),(7,.slice p1 l.Ak.length k1),(8,.int .i64 (l.Ak.length:Int)),(9,.int .i64 i1)]∧SH w w' [Ch.own S1 (x1:List ByteArray) [.slice p2 ln1 k2],Ch.box bb1 [.slice p1 l.Ak.length k1] 26]) n ⟨_,_,_,_,_,_,hF,rfl,h⟩ rfl ?_)
 rintro m1 e1 w2 ⟨S1,p2,ln1,k2,x1,i1,hF,rfl,h⟩
 obtain rfl:=(h.sl 0 rfl).2
 rcases m1 with _|m1
 ·cases hF
 refine X0 5 rfl (qr rfl hF ?_ ?_)<;>intro hF
 ·refine zKSBSR ?_
  obtain ⟨y1,hy1,hF,he1,b1,_,q1,cs2,hp1,hq1,hr1,hc2⟩:=s1.ix hF
  obtain ⟨p3,k3,p4,k4,p5,k5,rfl,s2,s3,s4⟩:=qE hr1
  refine zxe hp1 hq1 he1 rfl (zc 0 (hc2.below h.below) rfl (qy qa h rfl rfl rfl fun w3 bb2 h=>zs 0 h rfl fun w4 h=>X1 5 0 h rfl (zcB h hF (qj7 (qh6 y1 (h.oldS s2) (h.oldS s3) (h.oldS s4))) rfl fun r1 w5 h hF=>X0 2 rfl (qr rfl hF ?_ ?_))))<;>intro hF
  ·refine X0 4 rfl ?_
   obtain rfl:=qb hF;replace hF:=hK1
   exact rb h hF rfl
  refine X1 5 0 h rfl (qp qa [.tmp 18] _ ([y1.Ar]:List ByteArray) h rfl rfl rfl rfl rfl rfl rfl rfl rfl ⟨rfl,trivial⟩ rfl fun w6 p6 S2 h=>?_)
  obtain ⟨x2,hx1,hF⟩:=qe hF
  obtain ⟨g1,hx1⟩:=qx hx1
  refine qaq qa 2 h rfl (h.sl 0 rfl).1 (h.sl 0 rfl).2 rfl rfl rfl rfl rfl rfl rfl rfl rfl g1 hx1 rfl fun w7 p7 k6 S3 h=>X0 7 rfl ?_
  replace h:=h.pick [2,3] rfl
  exact rK ⟨_,_,_,_,_,_,hF,rfl,h⟩ rfl
 refine qw rfl ?_
 obtain rfl:=qb hF;replace hF:=hK1
 refine X1 7 1 h rfl (qh (t:=26) hF rfl ?_ ?_)<;>intro hF
 ·exact X0 3 rfl (zcB h hF (qdL (h.own 0 rfl)) rfl fun r2 w8 h hF=>X0 3 rfl (rb h hF rfl))
 exact X0 5 rfl (rb h hF rfl)
def qaG (d:qc):Nat→(List ByteArray)→Int→Option ((List ByteArray) × Int)
 | 0,_,_=>none
 | n+1,x3,i2 =>
  bif decide (i2<(d.Af.length:Int)) then
   (idx d.Af i2).bind fun y2 =>
   (appS x3 ([y2.Ar]:List ByteArray)).bind fun x4 =>
   qaG d n x4 (W64 (i2+1))
  else
   some (x3,i2)
def qaI (d:qc):Nat→(List ByteArray)→Int→Option ((List ByteArray) × Int)
 | 0,_,_=>none
 | n+1,x1,i1 =>
  bif decide (i1<(d.Ab.length:Int)) then
   (idx d.Ab i1).bind fun y1 =>
   (appS x1 ([y1.Ar]:List ByteArray)).bind fun x2 =>
   qaI d n x2 (W64 (i1+1))
  else
   some (x1,i1)
def qdl (n:Nat) (d:qc):Option Bool :=
 (qaI d n ([]:List ByteArray) 0).bind fun o=>match o with
 | (x1,_) =>
  (qaG d n ([]:List ByteArray) 0).bind fun o=>match o with
  | (x3,_) =>
   bif decide ((x1.length:Int)≤14) then
    bif decide ((d.Ai.length:Int)≤30) then
     bif decide ((x3.length:Int)≤8) then
      (qcF n x1).bind fun r1 =>
      bif r1 then
       (qcF n d.Ai).bind fun r2 =>
       bif r2 then
        (qcF n x3).bind fun r3 =>
        some r3
       else
        some false
      else
       some false
     else
      some false
    else
     some false
   else
    some false
theorem qgT {d:qc} (ha1:GoT.R w (old w) d cs1) {r:Bool} (hF:qdl n d=some r):RetV Tryz.prog 119 [GoT.v qc cs1] w r:=by
 obtain ⟨p1,k1,p2,k2,p3,k3,rfl,s1,s2,s3⟩:=qak ha1
 refine zV 62 Tryz.func119 rfl fun h=>zSR (qV h rfl rfl fun w1 bb1 h=>X1 15 0 h rfl ?_)
 replace h:=h.nil (α:=ByteArray)
 obtain ⟨o1,hF,hK1⟩:=qe hF
 refine qq (rL (fun m e w'=>∃ (S1:Nat→Prop) (p4:Option Addr) (ln1:Nat) (k4:Nat) (x1:(List ByteArray)) (i1:Int),qaI d m x1 i1=some o1∧e=[(1,.pointer (some ⟨bb1,0,none⟩)),(3,.slice p4 ln1 k4),(4,.slice none 0 0),(10,.slice p1 d.Ab.length k1),(11,.int .i64 (d.Ab.length:Int)),(12,.int .i64 i1)]∧SH w w' [Ch.own S1 (x1:List ByteArray) [.slice p4 ln1 k4],Ch.box bb1 (qaa d p1 p2 p3 k1 k2 k3) 31]) n ⟨_,_,_,_,_,_,hF,rfl,h⟩ rfl ?_)
 rintro m1 e1 w2 ⟨S1,p4,ln1,k4,x1,i1,hF,rfl,h⟩
 obtain rfl:=(h.sl 0 rfl).2
 rcases m1 with _|m1
 ·cases hF
 refine X0 5 rfl (qr rfl hF ?_ ?_)<;>intro hF
 ·refine zKSBSR ?_
  obtain ⟨y1,hy1,hF,he1,b1,_,q1,cs2,hp1,hq1,hr1,hc2⟩:=s1.ix hF
  obtain ⟨p5,k5,rfl,s4⟩:=qai hr1
  refine zxe hp1 hq1 he1 rfl (zc 0 (hc2.below h.below) rfl (qy qa h rfl rfl rfl fun w3 bb2 h=>zs 0 h rfl fun w4 h=>X1 5 0 h rfl (qp qa [.tmp 18] _ ([y1.Ar]:List ByteArray) h rfl rfl rfl rfl rfl rfl rfl rfl rfl ⟨rfl,trivial⟩ rfl fun w5 p6 S2 h=>?_)))
  obtain ⟨x2,hx1,hF⟩:=qe hF
  obtain ⟨g1,hx1⟩:=qx hx1
  refine qaq qa 2 h rfl (h.sl 0 rfl).1 (h.sl 0 rfl).2 rfl rfl rfl rfl rfl rfl rfl rfl rfl g1 hx1 rfl fun w6 p7 k6 S3 h=>X0 7 rfl ?_
  replace h:=h.pick [2,3] rfl
  exact rK ⟨_,_,_,_,_,_,hF,rfl,h⟩ rfl
 refine qw rfl ?_
 obtain rfl:=qb hF;replace hF:=hK1
 refine X1 8 1 h rfl ?_
 replace h:=h.nil (α:=ByteArray)
 obtain ⟨o2,hF,hK2⟩:=qe hF
 refine qq (rL (fun m e w'=>∃ (S4:Nat→Prop) (p8:Option Addr) (ln2:Nat) (k7:Nat) (x3:(List ByteArray)) (i2:Int),qaG d m x3 i2=some o2∧e=[(1,.pointer (some ⟨bb1,0,none⟩)),(3,.slice p4 x1.length k4),(4,.slice p8 ln2 k7),(23,.slice p3 d.Af.length k3),(24,.int .i64 (d.Af.length:Int)),(25,.int .i64 i2)]∧SH w w' [Ch.own S4 (x3:List ByteArray) [.slice p8 ln2 k7],Ch.own S1 (x1:List ByteArray) [.slice p4 x1.length k4],Ch.box bb1 (qaa d p1 p2 p3 k1 k2 k3) 31]) n ⟨_,_,_,_,_,_,hF,rfl,h⟩ rfl ?_)
 rintro m2 e2 w7 ⟨S4,p8,ln2,k7,x3,i2,hF,rfl,h⟩
 obtain rfl:=(h.sl 0 rfl).2
 rcases m2 with _|m2
 ·cases hF
 refine X0 5 rfl (qr rfl hF ?_ ?_)<;>intro hF
 ·refine zKSBSR ?_
  obtain ⟨y2,hy2,hF,he2,b2,_,q2,cs3,hp2,hq2,hr2,hc4⟩:=s3.ix hF
  obtain rfl:=qcV hr2
  refine zxe hp2 hq2 he2 rfl (zc 0 (hc4.below h.below) rfl (qy qa h rfl rfl rfl fun w8 bb3 h=>zs 0 h rfl fun w9 h=>X1 5 0 h rfl (qp qa [.tmp 31] _ ([y2.Ar]:List ByteArray) h rfl rfl rfl rfl rfl rfl rfl rfl rfl ⟨rfl,trivial⟩ rfl fun w10 p9 S5 h=>?_)))
  obtain ⟨x4,hx2,hF⟩:=qe hF
  obtain ⟨g2,hx2⟩:=qx hx2
  refine qaq qa 2 h rfl (h.sl 0 rfl).1 (h.sl 0 rfl).2 rfl rfl rfl rfl rfl rfl rfl rfl rfl g2 hx2 rfl fun w11 p10 k8 S6 h=>X0 7 rfl ?_
  replace h:=h.pick [2,3,4] rfl
  exact rK ⟨_,_,_,_,_,_,hF,rfl,h⟩ rfl
 refine qw rfl ?_
 obtain rfl:=qb hF;replace hF:=hK2
 refine X0 6 rfl (qh (t:=38) hF rfl ?_ ?_)<;>intro hF
 ·refine X1 10 2 h rfl (qh (t:=44) hF rfl ?_ ?_)<;>intro hF
  ·refine X0 8 rfl (qh (t:=49) hF rfl ?_ ?_)<;>intro hF
   ·refine X0 3 rfl (zcB h hF (qdL (h.own 1 rfl)) rfl fun r1 w12 h hF=>zp2 rfl (qh (t:=53) hF rfl ?_ ?_))<;>intro hF
    ·refine X1 5 2 h rfl (zcB h hF (qdL ⟨_,_,rfl,(h.oldS s2)⟩) rfl fun r2 w13 h hF=>zp2 rfl (qh (t:=58) hF rfl ?_ ?_))<;>intro hF
     ·exact X0 3 rfl (zcB h hF (qdL (h.own 0 rfl)) rfl fun r3 w14 h hF=>X0 3 rfl (rb h hF rfl))
     exact X0 5 rfl (rb h hF rfl)
    exact X0 10 rfl (rb h hF rfl)
   exact X0 14 rfl (rb h hF rfl)
  exact X0 19 rfl (rb h hF rfl)
 exact X0 25 rfl (rb h hF rfl)
def qd7 (_:Nat) (list:(List qk)):Option Int :=
 some (list.length:Int)
theorem qgJ {list:(List qk)} (ha1:GoT.R w (old w) list cs1) {r:Int} (hF:qd7 n list=some r):RetV Tryz.prog 147 [GoT.v (List qk) cs1] w r:=by
 obtain ⟨p1,k1,rfl,s1⟩:=ha1
 exact zV 5 Tryz.func147 rfl fun h=>X0 10 rfl (ri h hF rfl)
def qe0 (_:Nat) (list:(List ByteArray)):Option Int :=
 some (list.length:Int)
theorem qhr {list:(List ByteArray)} (ha1:GoT.R w (old w) list cs1) {r:Int} (hF:qe0 n list=some r):RetV Tryz.prog 149 [GoT.v (List ByteArray) cs1] w r:=by
 obtain ⟨p1,k1,rfl,s1⟩:=ha1
 exact zV 5 Tryz.func149 rfl fun h=>X0 10 rfl (ri h hF rfl)
def qch (n:Nat) (d:qc) (net:Int):Option Bool :=
 (qe0 n d.Ai).bind fun r1 =>
 (qau n net 0 (W64 (r1-1))).bind fun r2 =>
 some r2
theorem qej {d:qc} {net:Int} (ha1:GoT.R w (old w) d cs1) {r:Bool} (hF:qch n d net=some r):RetV Tryz.prog 121 [GoT.v qc cs1,.int .i64 net] w r:=by
 obtain ⟨p1,k1,p2,k2,p3,k3,rfl,s1,s2,s3⟩:=qak ha1
 exact zV 11 Tryz.func121 rfl fun h=>zSR (qV h rfl rfl fun w1 bb1 h=>X1 7 0 h rfl (zcI h hF (qhr ⟨_,_,rfl,(h.oldS s2)⟩) rfl fun r1 w2 h hF=>zp1 rfl (zcB h hF qam rfl fun r2 w3 h hF=>X0 2 rfl (rb h hF rfl))))
def qb8 (n:Nat) (net:Int) (v0:qc):Option Bool :=
 (qch n v0 net).bind fun r1 =>
 some (!r1)
theorem qga {net:Int} {v0:qc} {p1:Option Addr} (ha1:GoT.R w (old w) (some v0) [.pointer p1]) {r:Bool} (hF:qb8 n net v0=some r):RetV Tryz.prog 148 [.int .i64 net,.pointer p1] w r:=by
 obtain ⟨b1,o_1,cs1,rfl,-,hr1,hc1⟩:=PtR.get ha1 rfl
 obtain ⟨p2,k1,p3,k2,p4,k3,rfl,s1,s2,s3⟩:=qak hr1
 exact zV 8 Tryz.func148 rfl fun h=>X0 6 rfl (zc 0 (hc1.below h.below) rfl (zp1 rfl (zcB h hF (qej (qaL v0 (h.oldS s1) (h.oldS s2) (h.oldS s3))) rfl fun r1 w1 h hF=>X0 3 rfl (rb h hF rfl))))
def qA (s:(List Int)) (f_0:qc):Nat→Int→Option (Flow Int Int)
 | 0,_=>none
 | n+1,i1 =>
  bif decide (i1<(s.length:Int)) then
   (idx s i1).bind fun y1 =>
   (qb8 n y1 f_0).bind fun r1 =>
   bif r1 then some (.ret i1) else
   qA s f_0 n (W64 (i1+1))
  else
   some (.nxt i1)
def qaw (n:Nat) (s:(List Int)) (f_0:qc):Option Int :=
 (qA s f_0 n 0).bind fun o=>match o with
 | .ret r=>some r
 | .nxt _ =>
  some (-1)
theorem qcU {s:(List Int)} {f_0:qc} (ha1:GoT.R w (old w) s cs1) {p2:Option Addr} (ha2:GoT.R w (old w) (some f_0) [.pointer p2]) {r:Int} (hF:qaw n s f_0=some r):RetV Tryz.prog 151 [GoT.v (List Int) cs1,.func (.func 148) #[] #[.pointer p2]] w r:=by
 obtain ⟨p1,k1,rfl,s1⟩:=ha1
 obtain ⟨b1,o_1,cs2,rfl,-,hr1,hc1⟩:=PtR.get ha2 rfl
 obtain ⟨p3,k2,p4,k3,p5,k4,rfl,s2,s3,s4⟩:=qak hr1
 refine zV 19 Tryz.func151 rfl fun h=>X0 11 rfl ?_
 obtain ⟨o1,hF,hK1⟩:=qe hF
 refine qq (rL (fun m e w'=>∃ (i1:Int),qA s f_0 m i1=some o1∧e=[(0,.slice p1 s.length k1),(1,.func (.func 148) #[] #[.pointer (some ⟨b1,o_1,none⟩)]),(7,.int .i64 (s.length:Int)),(8,.int .i64 i1)]∧SH w w' []) n ⟨_,hF,rfl,h⟩ rfl ?_)
 rintro m1 e1 w1 ⟨i1,hF,rfl,h⟩
 rcases m1 with _|m1
 ·cases hF
 refine X0 5 rfl (qr rfl hF ?_ ?_)<;>intro hF
 ·refine X0 13 rfl ?_
  obtain ⟨y1,hy1,hF,he1,b2,_,q1,cs3,hp1,hq1,rfl,hc3⟩:=s1.ix hF
  refine zxe hp1 hq1 he1 rfl (zc 0 (hc3.below h.below) rfl (zcB h hF (qga (h.old ha2)) rfl fun r1 w2 h hF=>qbs (qr rfl hF ?_ ?_)))<;>intro hF
  ·refine X0 5 rfl ?_
   obtain rfl:=qb hF;replace hF:=hK1
   exact ri h hF rfl
  exact X0 6 rfl (rK ⟨_,hF,rfl,h⟩ rfl)
 refine qw rfl ?_
 obtain rfl:=qb hF;replace hF:=hK1
 exact X0 4 rfl (ri h hF rfl)
def qap (n:Nat) (s:(List Int)) (f_0:qc):Option Bool :=
 (qaw n s f_0).bind fun r1 =>
 some (decide (r1 ≥ 0))
theorem qcy {s:(List Int)} {f_0:qc} (ha1:GoT.R w (old w) s cs1) {p2:Option Addr} (ha2:GoT.R w (old w) (some f_0) [.pointer p2]) {r:Bool} (hF:qap n s f_0=some r):RetV Tryz.prog 131 [GoT.v (List Int) cs1,.func (.func 148) #[] #[.pointer p2]] w r:=by
 obtain ⟨p1,k1,rfl,s1⟩:=ha1
 obtain ⟨b1,o_1,cs2,rfl,-,hr1,hc1⟩:=PtR.get ha2 rfl
 obtain ⟨p3,k2,p4,k3,p5,k4,rfl,s2,s3,s4⟩:=qak hr1
 exact zV 9 Tryz.func131 rfl fun h=>X0 8 rfl (zcI h hF (qcU ⟨_,_,rfl,(h.oldS s1)⟩ (h.old ha2)) rfl fun r1 w1 h hF=>X0 3 rfl (rb h hF rfl))
def qcD (n:Nat) (d:qc) (l:qi) (x:ql):Option Bool :=
 (qd7 n l.Ak).bind fun r1 =>
 (qau n x.Av 0 (W64 (r1-1))).bind fun r2 =>
 bif r2 then
  (idx l.Ak x.Av).bind fun y1 =>
  bif ((x.Ai.length:Int)==(y1.Ap.length:Int)) then
   (qap n x.Ai d).bind fun r3 =>
   some (!r3)
  else
   some false
 else
  some false
theorem qgv {d:qc} {l:qi} {x:ql} (ha1:GoT.R w (old w) d cs1) (ha2:GoT.R w (old w) l cs2) (ha3:GoT.R w (old w) x cs3) {r:Bool} (hF:qcD n d l x=some r):RetV Tryz.prog 120 [GoT.v qc cs1,GoT.v qi cs2,GoT.v ql cs3] w r:=by
 obtain ⟨p1,k1,p2,k2,p3,k3,rfl,s1,s2,s3⟩:=qak ha1
 obtain ⟨p4,k4,rfl,s4⟩:=qbg ha2
 obtain ⟨p5,k5,rfl,s5⟩:=qai ha3
 refine zV 35 Tryz.func120 rfl fun h=>zSR (qV h rfl rfl fun w1 bb1 h=>qV h rfl rfl fun w2 bb2 h=>qV h rfl rfl fun w3 bb3 h=>X0 3 rfl (rD (Y1 2 0 h rfl ?_)))
 refine Y1 2 1 h rfl ?_
 obtain ⟨r1,hr1,hF⟩:=qe hF
 refine qdZ r1 (vsI _) (cB 147 rfl) (fun _ hb=>qgJ ⟨_,_,rfl,((h.ext hb).oldS s4)⟩ hr1) rfl rfl rfl rfl (zd1 rfl ?_)
 obtain ⟨r2,hr2,hF⟩:=qe hF
 refine qdZ r2 (vsB _) (cB 76 rfl) (fun _ hb=>qam  hr2) rfl rfl rfl rfl (zd1 rfl (qaT (t:=14) hF rfl ?_ ?_))<;>intro hF
 ·refine Y1 4 0 h rfl ?_
  refine Y1 6 1 h rfl ?_
  refine Y1 4 0 h rfl ?_
  refine Y0 1 rfl ?_
  obtain ⟨y1,hy1,hF,he1,b1,_,q1,cs4,hp1,hq1,hr3,hc1⟩:=s4.ix hF
  obtain ⟨p6,k6,p7,k7,p8,k8,rfl,s6,s7,s8⟩:=qE hr3
  refine zdxe hp1 hq1 he1 rfl (Y0 3 rfl (zdc 2 (hc1.below h.below) rfl (Y0 6 rfl (qaT (t:=28) hF rfl ?_ ?_))))<;>intro hF
  ·refine Y1 4 0 h rfl ?_
   refine Y0 3 rfl ?_
   obtain ⟨r3,hr4,hF⟩:=qe hF
   exact qdZ r3 (vsB _) (cB 131 rfl) (fun _ hb=>qcy ⟨_,_,rfl,((h.ext hb).oldS s5)⟩ (qgm (x:=d) 2 (h.ext hb) rfl ((h.ext hb).old ha1)) hr4) rfl rfl rfl rfl (Y0 4 rfl (dN h fun w4 h=>rb h hF rfl))
  exact Y0 7 rfl (dN h fun w5 h=>rb h hF rfl)
 exact Y0 21 rfl (dN h fun w6 h=>rb h hF rfl)
def qfY (_:Nat) (a_n:Int):Option Bool :=
 some (a_n != 1)
theorem qiu {a_n:Int}  {r:Bool} (hF:qfY n a_n=some r):RetV Tryz.prog 123 [.int .i64 a_n] w r:=by
 exact zV 5 Tryz.func123 rfl fun h=>X0 10 rfl (rb h hF rfl)
def qU (s:(List Int)):Nat→Int→Option (Flow Int Int)
 | 0,_=>none
 | n+1,i1 =>
  bif decide (i1<(s.length:Int)) then
   (idx s i1).bind fun y1 =>
   (qfY n y1).bind fun r1 =>
   bif r1 then some (.ret i1) else
   qU s n (W64 (i1+1))
  else
   some (.nxt i1)
def qbd (n:Nat) (s:(List Int)):Option Int :=
 (qU s n 0).bind fun o=>match o with
 | .ret r=>some r
 | .nxt _ =>
  some (-1)
theorem qei {s:(List Int)} (ha1:GoT.R w (old w) s cs1) {r:Int} (hF:qbd n s=some r):RetV Tryz.prog 150 [GoT.v (List Int) cs1,.func (.func 123) #[] #[]] w r:=by
 obtain ⟨p1,k1,rfl,s1⟩:=ha1
 refine zV 19 Tryz.func150 rfl fun h=>X0 11 rfl ?_
 obtain ⟨o1,hF,hK1⟩:=qe hF
 refine qq (rL (fun m e w'=>∃ (i1:Int),qU s m i1=some o1∧e=[(0,.slice p1 s.length k1),(1,.func (.func 123) #[] #[]),(7,.int .i64 (s.length:Int)),(8,.int .i64 i1)]∧SH w w' []) n ⟨_,hF,rfl,h⟩ rfl ?_)
 rintro m1 e1 w1 ⟨i1,hF,rfl,h⟩
 rcases m1 with _|m1
 ·cases hF
 refine X0 5 rfl (qr rfl hF ?_ ?_)<;>intro hF
 ·refine X0 13 rfl ?_
  obtain ⟨y1,hy1,hF,he1,b1,_,q1,cs2,hp1,hq1,rfl,hc2⟩:=s1.ix hF
  refine zxe hp1 hq1 he1 rfl (zc 0 (hc2.below h.below) rfl (zcB h hF qiu rfl fun r1 w2 h hF=>qbs (qr rfl hF ?_ ?_)))<;>intro hF
  ·refine X0 5 rfl ?_
   obtain rfl:=qb hF;replace hF:=hK1
   exact ri h hF rfl
  exact X0 6 rfl (rK ⟨_,hF,rfl,h⟩ rfl)
 refine qw rfl ?_
 obtain rfl:=qb hF;replace hF:=hK1
 exact X0 4 rfl (ri h hF rfl)
def qaZ (n:Nat) (s:(List Int)):Option Bool :=
 (qbd n s).bind fun r1 =>
 some (decide (r1 ≥ 0))
theorem qdW {s:(List Int)} (ha1:GoT.R w (old w) s cs1) {r:Bool} (hF:qaZ n s=some r):RetV Tryz.prog 122 [GoT.v (List Int) cs1,.func (.func 123) #[] #[]] w r:=by
 obtain ⟨p1,k1,rfl,s1⟩:=ha1
 exact zV 9 Tryz.func122 rfl fun h=>X0 8 rfl (zcI h hF (qei ⟨_,_,rfl,(h.oldS s1)⟩) rfl fun r1 w1 h hF=>X0 3 rfl (rb h hF rfl))
def qbm (a_1:qc):Nat→(List Int)→Int→Option (Flow Bool ((List Int) × Int))
 | 0,_,_=>none
 | n+1,x3,i2 =>
  bif decide (i2<(a_1.Af.length:Int)) then
   (idx a_1.Af i2).bind fun y5 =>
   (
    bif (y5.Bj != 1) then
     bif (y5.Bj != 2) then some true else
     (qch n a_1 y5.Bl).bind fun r2 =>
     some (!r2)
    else
     (qch n a_1 y5.Bl).bind fun r3 =>
     some (!r3)).bind fun b7 =>
   bif b7 then some (.ret false) else
   bif (y5.Bj==1) then
    (idx x3 y5.Bl).bind fun y6 =>
    (idx x3 y5.Bl).bind fun _ =>
    qbm a_1 n (setS x3 y5.Bl (W64 (y6+1))) (W64 (i2+1))
   else
    qbm a_1 n x3 (W64 (i2+1))
  else
   some (.nxt (x3,i2))
def qb3 (a_0:qi) (a_1:qc):Nat→(List Int)→Int→Option (Flow Bool ((List Int) × Int))
 | 0,_,_=>none
 | n+1,x2,i1 =>
  bif decide (i1<(a_1.Ab.length:Int)) then
   (idx a_1.Ab i1).bind fun y1 =>
   (qcD n a_1 a_0 y1).bind fun r1 =>
   bif (!r1) then some (.ret false) else
   (idx y1.Ai (W64 ((y1.Ai.length:Int)-1))).bind fun y2 =>
   (idx x2 y2).bind fun y3 =>
   (idx x2 y2).bind fun _ =>
   qb3 a_0 a_1 n (setS x2 y2 (W64 (y3+1))) (W64 (i1+1))
  else
   some (.nxt (x2,i1))
def qfH (n:Nat) (a_0:qi) (a_1:qc):Option Bool :=
 (
  (qfb n a_0).bind fun r5 =>
  bif (!r5) then some true else
  (qdl n a_1).bind fun r6 =>
  some (!r6)).bind fun b1 =>
 bif b1 then some false else
 (mkS (a_1.Ai.length:Int) (0:Int)).bind fun x1 =>
 (qb3 a_0 a_1 n x1 0).bind fun o=>match o with
 | .ret r=>some r
 | .nxt (x2,_) =>
  (qbm a_1 n x2 0).bind fun o=>match o with
  | .ret r=>some r
  | .nxt (x3,_) =>
   (qaZ n x3).bind fun r4 =>
   some (!r4)
theorem qiW {a_0:qi} {a_1:qc} (ha1:GoT.R w (old w) a_0 cs1) (ha2:GoT.R w (old w) a_1 cs2) {r:Bool} (hF:qfH n a_0 a_1=some r):RetV Tryz.prog 69 [GoT.v qi cs1,GoT.v qc cs2] w r:=by
 obtain ⟨p1,k1,rfl,s1⟩:=qbg ha1
 obtain ⟨p2,k2,p3,k3,p4,k4,rfl,s2,s3,s4⟩:=qak ha2
 refine zV 84 Tryz.func69 rfl fun h=>zSR (qV h rfl rfl fun w1 bb1 h=>qV h rfl rfl fun w2 bb2 h=>X0 4 rfl ?_)
 obtain ⟨KF2,hKF2,o4,hF,hK4⟩:=bindE hF
 refine qb5 (fun e w'=>∃ (b1:Bool),KF2 b1=some r∧e=[(2,.pointer (some ⟨bb1,0,none⟩)),(3,.pointer (some ⟨bb2,0,none⟩)),(17,.bool b1)]∧SH w w' [Ch.box bb2 (qaa a_1 p2 p3 p4 k2 k3 k4) 31,Ch.box bb1 [.slice p1 a_0.Ak.length k1] 26]) ?_ ?_
 ·refine X1 2 1 h rfl (zcB h hF (qiE (h.old ha1)) rfl fun r5 w17 h hF=>zp2 rfl (qh (t:=13) hF rfl ?_ ?_))<;>intro hF
  ·refine X0 5 rfl ?_
   obtain rfl:=qb hF
   exact rG ⟨_,hK4,rfl,h⟩ rfl
  refine X1 3 0 h rfl (zcB h hF (qgT (h.old ha2)) rfl fun r6 w18 h hF=>X0 4 rfl ?_)
  obtain rfl:=qb hF
  exact rG ⟨_,hK4,rfl,h⟩ rfl
 rintro e4 w19 ⟨b1,hF,rfl,h⟩
 subst hKF2
 refine qr rfl hF ?_ ?_<;>intro hF
 ·exact X0 4 rfl (rb h hF rfl)
 refine X1 6 0 h rfl ?_
 obtain ⟨x1,hx1,hF⟩:=qe hF
 obtain ⟨g1,g2,hx1⟩:=qfU hx1
 refine qgy qa Int h rfl rfl rfl rfl rfl rfl rfl rfl rfl g1 g2 hx1 rfl fun w3 S1 p5 h=>X1 10 1 h rfl ?_
 obtain ⟨o1,hF,hK1⟩:=qe hF
 refine qq (rL (fun m e w'=>∃ (x2:(List Int)) (i1:Int),qb3 a_0 a_1 m x2 i1=some o1∧e=[(2,.pointer (some ⟨bb1,0,none⟩)),(3,.pointer (some ⟨bb2,0,none⟩)),(5,.slice p5 x1.length x1.length),(23,.slice p2 a_1.Ab.length k2),(24,.int .i64 (a_1.Ab.length:Int)),(25,.int .i64 i1)]∧SH w w' [Ch.own S1 (x2:List Int) [.slice p5 x1.length x1.length],Ch.box bb2 (qaa a_1 p2 p3 p4 k2 k3 k4) 31,Ch.box bb1 [.slice p1 a_0.Ak.length k1] 26]) n ⟨_,_,hF,rfl,h⟩ rfl ?_)
 rintro m1 e1 w4 ⟨x2,i1,hF,rfl,h⟩
 rcases m1 with _|m1
 ·cases hF
 refine X0 5 rfl (qr rfl hF ?_ ?_)<;>intro hF
 ·refine zKSBSR ?_
  obtain ⟨y1,hy1,hF,he1,b2,_,q1,cs3,hp1,hq1,hr1,hc3⟩:=s2.ix hF
  obtain ⟨p6,k5,rfl,s5⟩:=qai hr1
  refine zxe hp1 hq1 he1 rfl (zc 0 (hc3.below h.below) rfl (qy qa h rfl rfl rfl fun w5 bb3 h=>zs 0 h rfl fun w6 h=>X3 7 2 3 0 h rfl (zcB h hF (qgv (h.old ha2) (h.old ha1) (qik y1 (h.oldS s5))) rfl fun r1 w7 h hF=>X0 2 rfl (qr rfl hF ?_ ?_))))<;>intro hF
  ·refine X0 4 rfl ?_
   obtain rfl:=qb hF;replace hF:=hK1
   exact rb h hF rfl
  refine X2 9 0 0 h rfl ?_
  obtain ⟨y2,hy2,hF,he2,b3,_,q2,cs4,hp2,hq2,rfl,hc5⟩:=s5.ix hF
  refine zxe hp2 hq2 he2 rfl (zc 0 (hc5.below h.below) rfl ?_)
  obtain ⟨y3,hy3,hF,he3,b4,_,q3,cs5,hp3,hq3,rfl,hc6⟩:=(h.sl 1 rfl).1.ix hF
  refine zx hp3 hq3 ⟨he3.1,qY he3.2.1 (h.sl 1 rfl).2⟩ rfl (zc 0 hc6 rfl (zp1 rfl ?_))
  obtain ⟨y4,hy4,hF,he4,b5,_,q4,cs6,hp4,hq4,rfl,hc7⟩:=(h.sl 1 rfl).1.ix hF
  refine zx hp4 hq4 ⟨he4.1,qY he4.2.1 (h.sl 1 rfl).2⟩ rfl (qde qa 1 0 (W64 (y3+1)) h rfl hy4 hp4 hq4 rfl hc7 rfl rfl rfl rfl rfl rfl rfl fun w8 h=>X0 6 rfl ?_)
  replace h:=h.pick [1,2,3] rfl
  exact rK ⟨_,_,hF,rfl,h⟩ rfl
 refine qw rfl ?_
 obtain rfl:=qb hF;replace hF:=hK1
 refine X1 8 1 h rfl ?_
 obtain ⟨o2,hF,hK2⟩:=qe hF
 refine qq ?_
 replace h:=h.pick [0,1] rfl
 refine rL (fun m e w'=>∃ (x3:(List Int)) (i2:Int),qbm a_1 m x3 i2=some o2∧e=[(3,.pointer (some ⟨bb2,0,none⟩)),(5,.slice p5 x1.length x1.length),(49,.slice p4 a_1.Af.length k4),(50,.int .i64 (a_1.Af.length:Int)),(51,.int .i64 i2)]∧SH w w' [Ch.own S1 (x3:List Int) [.slice p5 x1.length x1.length],Ch.box bb2 (qaa a_1 p2 p3 p4 k2 k3 k4) 31]) n ⟨_,_,hF,rfl,h⟩ rfl ?_
 rintro m2 e2 w9 ⟨x3,i2,hF,rfl,h⟩
 rcases m2 with _|m2
 ·cases hF
 refine X0 5 rfl (qr rfl hF ?_ ?_)<;>intro hF
 ·refine zKSBSR ?_
  obtain ⟨y5,hy5,hF,he5,b6,_,q5,cs7,hp5,hq5,hr6,hc9⟩:=s4.ix hF
  obtain rfl:=qcV hr6
  refine zxe hp5 hq5 he5 rfl (zc 0 (hc9.below h.below) rfl (qy qa h rfl rfl rfl fun w10 bb4 h=>zs 0 h rfl fun w11 h=>zNSS ?_))
  obtain ⟨KF1,hKF1,o3,hF,hK3⟩:=bindE hF
  refine qb5 (fun e w'=>∃ (b7:Bool),KF1 b7=some o2∧e=[(3,.pointer (some ⟨bb2,0,none⟩)),(5,.slice p5 x1.length x1.length),(9,.pointer (some ⟨bb4,0,none⟩)),(49,.slice p4 a_1.Af.length k4),(50,.int .i64 (a_1.Af.length:Int)),(51,.int .i64 i2),(69,.bool b7)]∧SH w w' [Ch.box bb4 (qk5 y5) 115,Ch.own S1 (x3:List Int) [.slice p5 x1.length x1.length],Ch.box bb2 (qaa a_1 p2 p3 p4 k2 k3 k4) 31]) ?_ ?_
  ·refine X1 5 0 h rfl (qh (t:=58) hF rfl ?_ ?_)<;>intro hF
   ·refine X1 8 0 h rfl (qh (t:=63) hF rfl ?_ ?_)<;>intro hF
    ·refine X0 7 rfl ?_
     obtain rfl:=qb hF
     exact rG ⟨_,hK3,rfl,h⟩ rfl
    refine X2 7 2 0 h rfl (zcB h hF (qej (h.old ha2)) rfl fun r2 w13 h hF=>X0 4 rfl ?_)
    obtain rfl:=qb hF
    exact rG ⟨_,hK3,rfl,h⟩ rfl
   refine X2 12 2 0 h rfl (zcB h hF (qej (h.old ha2)) rfl fun r3 w14 h hF=>X0 4 rfl ?_)
   obtain rfl:=qb hF
   exact rG ⟨_,hK3,rfl,h⟩ rfl
  rintro e3 w15 ⟨b7,hF,rfl,h⟩
  subst hKF1
  refine qr rfl hF ?_ ?_<;>intro hF
  ·refine X0 4 rfl ?_
   obtain rfl:=qb hF;replace hF:=hK2
   exact rb h hF rfl
  refine X1 7 0 h rfl (qr rfl hF ?_ ?_)<;>intro hF
  ·refine X1 4 0 h rfl ?_
   obtain ⟨y6,hy6,hF,he6,b8,_,q6,cs8,hp6,hq6,rfl,hc12⟩:=(h.sl 1 rfl).1.ix hF
   refine zx hp6 hq6 ⟨he6.1,qY he6.2.1 (h.sl 1 rfl).2⟩ rfl (zc 0 hc12 rfl (zp1 rfl ?_))
   obtain ⟨y7,hy7,hF,he7,b9,_,q7,cs9,hp7,hq7,rfl,hc13⟩:=(h.sl 1 rfl).1.ix hF
   refine zx hp7 hq7 ⟨he7.1,qY he7.2.1 (h.sl 1 rfl).2⟩ rfl (qde qa 1 0 (W64 (y6+1)) h rfl hy7 hp7 hq7 rfl hc13 rfl rfl rfl rfl rfl rfl rfl fun w12 h=>X0 6 rfl ?_)
   replace h:=h.pick [1,2] rfl
   exact rK ⟨_,_,hF,rfl,h⟩ rfl
  refine X0 6 rfl ?_
  replace h:=h.pick [1,2] rfl
  exact rK ⟨_,_,hF,rfl,h⟩ rfl
 refine qw rfl ?_
 obtain rfl:=qb hF;replace hF:=hK2
 exact X0 3 rfl (zcB h hF (qdW (h.own 0 rfl)) rfl fun r4 w16 h hF=>X0 3 rfl (rb h hF rfl))
def qaX (i1:Int) (y1:ql):Nat→(List Tplace)→Int→Option ((List Tplace) × Int)
 | 0,_,_=>none
 | n+1,x2,i2 =>
  bif decide (i2<(y1.Ai.length:Int)) then
   (idx y1.Ai i2).bind fun y2 =>
   (appS x2 ([(⟨i1,i2,y2,(i2==(W64 ((y1.Ai.length:Int)-1)))⟩:Tplace)]:List Tplace)).bind fun x3 =>
   qaX i1 y1 n x3 (W64 (i2+1))
  else
   some (x2,i2)
def qaW (d:qc):Nat→(List Tplace)→Int→Option ((List Tplace) × Int)
 | 0,_,_=>none
 | n+1,x4,i3 =>
  bif decide (i3<(d.Af.length:Int)) then
   (idx d.Af i3).bind fun y3 =>
   (appS x4 ([(⟨(-1),i3,y3.Bl,(y3.Bj==1)⟩:Tplace)]:List Tplace)).bind fun x5 =>
   qaW d n x5 (W64 (i3+1))
  else
   some (x4,i3)
def qaY (d:qc):Nat→(List Tplace)→Int→Option ((List Tplace) × Int)
 | 0,_,_=>none
 | n+1,x1,i1 =>
  bif decide (i1<(d.Ab.length:Int)) then
   (idx d.Ab i1).bind fun y1 =>
   (qaX i1 y1 n x1 0).bind fun o=>match o with
   | (x2,_) =>
    qaY d n x2 (W64 (i1+1))
  else
   some (x1,i1)
def qbj (n:Nat) (d:qc):Option (List Tplace) :=
 (qaY d n ([]:List Tplace) 0).bind fun o=>match o with
 | (x1,_) =>
  (qaW d n x1 0).bind fun o=>match o with
  | (x4,_) =>
   some x4
theorem qcY {d:qc} (ha1:GoT.R w (old w) d cs1) {r:(List Tplace)} (hF:qbj n d=some r):RetV Tryz.prog 70 [GoT.v qc cs1] w r:=by
 obtain ⟨p1,k1,p2,k2,p3,k3,rfl,s1,s2,s3⟩:=qak ha1
 refine zV 61 Tryz.func70 rfl fun h=>zSR (qV h rfl rfl fun w1 bb1 h=>X1 14 0 h rfl ?_)
 replace h:=h.nil (α:=Tplace)
 obtain ⟨o1,hF,hK1⟩:=qe hF
 refine qq (rL (fun m e w'=>∃ (S1:Nat→Prop) (p4:Option Addr) (ln1:Nat) (k4:Nat) (x1:(List Tplace)) (i1:Int),qaY d m x1 i1=some o1∧e=[(1,.pointer (some ⟨bb1,0,none⟩)),(3,.slice p4 ln1 k4),(11,.slice p1 d.Ab.length k1),(12,.int .i64 (d.Ab.length:Int)),(13,.int .i64 i1)]∧SH w w' [Ch.own S1 (x1:List Tplace) [.slice p4 ln1 k4],Ch.box bb1 (qaa d p1 p2 p3 k1 k2 k3) 31]) n ⟨_,_,_,_,_,_,hF,rfl,h⟩ rfl ?_)
 rintro m1 e1 w2 ⟨S1,p4,ln1,k4,x1,i1,hF,rfl,h⟩
 obtain rfl:=(h.sl 0 rfl).2
 rcases m1 with _|m1
 ·cases hF
 refine X0 5 rfl (qr rfl hF ?_ ?_)<;>intro hF
 ·refine X0 6 rfl ?_
  obtain ⟨y1,hy1,hF,he1,b1,_,q1,cs2,hp1,hq1,hr1,hc2⟩:=s1.ix hF
  obtain ⟨p5,k5,rfl,s4⟩:=qai hr1
  refine zxe hp1 hq1 he1 rfl (zc 0 (hc2.below h.below) rfl (qy qa h rfl rfl rfl fun w3 bb2 h=>zp1 rfl (zs 0 h rfl fun w4 h=>X1 8 0 h rfl ?_)))
  obtain ⟨o2,hF,hK2⟩:=qe hF
  refine qq (rL (fun m e w'=>∃ (S2:Nat→Prop) (p6:Option Addr) (ln2:Nat) (k6:Nat) (x2:(List Tplace)) (i2:Int),qaX i1 y1 m x2 i2=some o2∧e=[(1,.pointer (some ⟨bb1,0,none⟩)),(3,.slice p6 ln2 k6),(4,.int .i64 i1),(5,.pointer (some ⟨bb2,0,none⟩)),(11,.slice p1 d.Ab.length k1),(12,.int .i64 (d.Ab.length:Int)),(13,.int .i64 i1),(19,.slice p5 y1.Ai.length k5),(20,.int .i64 (y1.Ai.length:Int)),(21,.int .i64 i2)]∧SH w w' [Ch.box bb2 (qfS y1 p5 k5) 111,Ch.own S2 (x2:List Tplace) [.slice p6 ln2 k6],Ch.box bb1 (qaa d p1 p2 p3 k1 k2 k3) 31]) m1 ⟨_,_,_,_,_,_,hF,rfl,h⟩ rfl ?_)
  rintro m2 e2 w5 ⟨S2,p6,ln2,k6,x2,i2,hF,rfl,h⟩
  obtain rfl:=(h.sl 1 rfl).2
  rcases m2 with _|m2
  ·cases hF
  refine X0 5 rfl (qr rfl hF ?_ ?_)<;>intro hF
  ·refine X0 6 rfl ?_
   obtain ⟨y2,hy2,hF,he2,b2,_,q2,cs3,hp2,hq2,rfl,hc4⟩:=s4.ix hF
   refine zxe hp2 hq2 he2 rfl (zc 0 (hc4.below h.below) rfl (X1 14 0 h rfl (r_v (qay qa [0,1,2,3] [.tmp 27,.tmp 28,.tmp 29,.tmp 35] rfl rfl rfl rfl rfl rfl rfl rfl) rfl (qp qa [.tmp 36] _ ([(⟨i1,i2,y2,(i2==(W64 ((y1.Ai.length:Int)-1)))⟩:Tplace)]:List Tplace) h rfl rfl rfl rfl rfl rfl rfl rfl rfl ⟨(qel (⟨i1,i2,y2,(i2==(W64 ((y1.Ai.length:Int)-1)))⟩:Tplace)),trivial⟩ rfl fun w6 p7 S3 h=>?_))))
   obtain ⟨x3,hx1,hF⟩:=qe hF
   obtain ⟨g1,hx1⟩:=qx hx1
   refine qaq qa 2 h rfl (h.sl 0 rfl).1 (h.sl 0 rfl).2 rfl rfl rfl rfl rfl rfl rfl rfl rfl g1 hx1 rfl fun w7 p8 k7 S4 h=>X0 7 rfl ?_
   replace h:=h.pick [1,2,3] rfl
   exact rK ⟨_,_,_,_,_,_,hF,rfl,h⟩ rfl
  refine qw rfl ?_
  obtain rfl:=qb hF;replace hF:=hK2
  refine X0 5 rfl ?_
  replace h:=h.pick [1,2] rfl
  exact rK ⟨_,_,_,_,_,_,hF,rfl,h⟩ rfl
 refine qw rfl ?_
 obtain rfl:=qb hF;replace hF:=hK1
 refine X1 8 1 h rfl ?_
 obtain ⟨o3,hF,hK3⟩:=qe hF
 refine qq ?_
 replace h:=h.pick [0] rfl
 refine rL (fun m e w'=>∃ (S5:Nat→Prop) (p9:Option Addr) (ln3:Nat) (k8:Nat) (x4:(List Tplace)) (i3:Int),qaW d m x4 i3=some o3∧e=[(3,.slice p9 ln3 k8),(42,.slice p3 d.Af.length k3),(43,.int .i64 (d.Af.length:Int)),(44,.int .i64 i3)]∧SH w w' [Ch.own S5 (x4:List Tplace) [.slice p9 ln3 k8]]) n ⟨_,_,_,_,_,_,hF,rfl,h⟩ rfl ?_
 rintro m3 e3 w8 ⟨S5,p9,ln3,k8,x4,i3,hF,rfl,h⟩
 obtain rfl:=(h.sl 0 rfl).2
 rcases m3 with _|m3
 ·cases hF
 refine X0 5 rfl (qr rfl hF ?_ ?_)<;>intro hF
 ·refine X0 6 rfl ?_
  obtain ⟨y3,hy3,hF,he3,b3,_,q3,cs4,hp3,hq3,hr3,hc6⟩:=s3.ix hF
  obtain rfl:=qcV hr3
  refine zxe hp3 hq3 he3 rfl (zc 0 (hc6.below h.below) rfl (qy qa h rfl rfl rfl fun w9 bb3 h=>zp1 rfl (zs 0 h rfl fun w10 h=>X2 9 0 0 h rfl (r_v (qay qa [0,1,2,3] [.const (.int .i64 (-1)),.tmp 50,.tmp 52,.tmp 55] rfl rfl rfl rfl rfl rfl rfl rfl) rfl (qp qa [.tmp 56] _ ([(⟨(-1),i3,y3.Bl,(y3.Bj==1)⟩:Tplace)]:List Tplace) h rfl rfl rfl rfl rfl rfl rfl rfl rfl ⟨(qel (⟨(-1),i3,y3.Bl,(y3.Bj==1)⟩:Tplace)),trivial⟩ rfl fun w11 p10 S6 h=>?_)))))
  obtain ⟨x5,hx2,hF⟩:=qe hF
  obtain ⟨g2,hx2⟩:=qx hx2
  refine qaq qa 2 h rfl (h.sl 0 rfl).1 (h.sl 0 rfl).2 rfl rfl rfl rfl rfl rfl rfl rfl rfl g2 hx2 rfl fun w12 p11 k9 S7 h=>X0 7 rfl ?_
  replace h:=h.pick [2] rfl
  exact rK ⟨_,_,_,_,_,_,hF,rfl,h⟩ rfl
 refine qw rfl ?_
 obtain rfl:=qb hF;replace hF:=hK3
 refine X0 5 rfl ?_
 obtain rfl:=qb hF
 exact rO 0 h rfl ⟨rfl,trivial⟩
def qaC (a_w:qK):Nat→Int→Option (Flow Bool Int)
 | 0,_=>none
 | n+1,i1 =>
  bif decide (i1<(a_w.Aj.length:Int)) then
   (idx a_w.Aj i1).bind fun y1 =>
   bif (i1==0) then
    bif (y1 != (-1)) then some (.ret false) else
    (idx a_w.Bc 0).bind fun y2 =>
    bif (y2 != 0) then some (.ret false) else
    bif decide (i1 > 0) then
     (qau n y1 0 (W64 (i1-1))).bind fun r1 =>
     bif (!r1) then some (.ret false) else
     qaC a_w n (W64 (i1+1))
    else
     qaC a_w n (W64 (i1+1))
   else
    bif decide (i1 > 0) then
     (qau n y1 0 (W64 (i1-1))).bind fun r2 =>
     bif (!r2) then some (.ret false) else
     qaC a_w n (W64 (i1+1))
    else
     qaC a_w n (W64 (i1+1))
  else
   some (.nxt i1)
def qeA (n:Nat) (a_w:qK):Option Bool :=
 (qaC a_w n 0).bind fun o=>match o with
 | .ret r=>some r
 | .nxt _ =>
  some true
theorem qie {a_w:qK} (ha1:GoT.R w (old w) a_w cs1) {r:Bool} (hF:qeA n a_w=some r):RetV Tryz.prog 124 [GoT.v qK cs1] w r:=by
 obtain ⟨p1,k1,p2,k2,p3,k3,p4,k4,rfl,s1,s2,s3,s4⟩:=qbt ha1
 refine zV 38 Tryz.func124 rfl fun h=>zSR (qV h rfl rfl fun w1 bb1 h=>X1 10 0 h rfl ?_)
 obtain ⟨o1,hF,hK1⟩:=qe hF
 refine qq (rL (fun m e w'=>∃ (i1:Int),qaC a_w m i1=some o1∧e=[(1,.pointer (some ⟨bb1,0,none⟩)),(6,.slice p1 a_w.Aj.length k1),(7,.int .i64 (a_w.Aj.length:Int)),(8,.int .i64 i1)]∧SH w w' [Ch.box bb1 (qef a_w p1 p2 p3 p4 k1 k2 k3 k4) 118]) n ⟨_,hF,rfl,h⟩ rfl ?_)
 rintro m1 e1 w2 ⟨i1,hF,rfl,h⟩
 rcases m1 with _|m1
 ·cases hF
 refine X0 5 rfl (qr rfl hF ?_ ?_)<;>intro hF
 ·refine X0 6 rfl ?_
  obtain ⟨y1,hy1,hF,he1,b1,_,q1,cs2,hp1,hq1,rfl,hc2⟩:=s1.ix hF
  refine zxe hp1 hq1 he1 rfl (zc 0 (hc2.below h.below) rfl (X0 8 rfl (qh (t:=15) hF rfl ?_ ?_)))<;>intro hF
  ·refine X0 6 rfl (qh (t:=18) hF rfl ?_ ?_)<;>intro hF
   ·refine X0 20 rfl (qdR rfl rfl (X0 4 rfl ?_))
    obtain rfl:=qb hF;replace hF:=hK1
    exact rb h hF rfl
   refine X1 5 0 h rfl ?_
   obtain ⟨y2,hy2,hF,he2,b2,_,q2,cs3,hp2,hq2,rfl,hc3⟩:=s2.ix hF
   refine zxe hp2 hq2 he2 rfl (X0 1 rfl (zc 0 (hc3.below h.below) rfl (X0 6 rfl (qh (t:=26) hF rfl ?_ ?_))))<;>intro hF
   ·refine X0 11 rfl (qdR rfl rfl (X0 4 rfl ?_))
    obtain rfl:=qb hF;replace hF:=hK1
    exact rb h hF rfl
   refine X0 6 rfl (qh (t:=29) hF rfl ?_ ?_)<;>intro hF
   ·refine X0 7 rfl (zcB h hF qam rfl fun r1 w3 h hF=>X0 6 rfl (qr rfl hF ?_ ?_))<;>intro hF
    ·refine X0 4 rfl ?_
     obtain rfl:=qb hF;replace hF:=hK1
     exact rb h hF rfl
    exact X0 6 rfl (rK ⟨_,hF,rfl,h⟩ rfl)
   exact X0 9 rfl (qdx rfl rfl (X0 6 rfl (rK ⟨_,hF,rfl,h⟩ rfl)))
  refine X0 17 rfl (qh (t:=29) hF rfl ?_ ?_)<;>intro hF
  ·refine X0 7 rfl (zcB h hF qam rfl fun r2 w4 h hF=>X0 6 rfl (qr rfl hF ?_ ?_))<;>intro hF
   ·refine X0 4 rfl ?_
    obtain rfl:=qb hF;replace hF:=hK1
    exact rb h hF rfl
   exact X0 6 rfl (rK ⟨_,hF,rfl,h⟩ rfl)
  exact X0 9 rfl (qdx rfl rfl (X0 6 rfl (rK ⟨_,hF,rfl,h⟩ rfl)))
 refine qw rfl ?_
 obtain rfl:=qb hF;replace hF:=hK1
 exact X0 4 rfl (rb h hF rfl)
def qgz (n:Nat) (a_w:qK) (sinks:Int):Option Bool :=
 (qao n a_w.Aj).bind fun r1 =>
 (qau n r1 1 8).bind fun r2 =>
 bif r2 then
  (qao n a_w.Bc).bind fun r3 =>
  bif (r3==r1) then
   (qao n a_w.Bb).bind fun r4 =>
   bif (r4==r1) then
    (qeA n a_w).bind fun r5 =>
    bif r5 then
     (qbi n a_w.Bc 0 1000).bind fun r6 =>
     bif r6 then
      (qbi n a_w.Bb 0 500).bind fun r7 =>
      bif r7 then
       (qao n a_w.As).bind fun r8 =>
       bif (r8==sinks) then
        (qbi n a_w.As 0 (W64 (r1-1))).bind fun r9 =>
        some r9
       else
        some false
      else
       some false
     else
      some false
    else
     some false
   else
    some false
  else
   some false
 else
  some false
theorem qkc {a_w:qK} {sinks:Int} (ha1:GoT.R w (old w) a_w cs1) {r:Bool} (hF:qgz n a_w sinks=some r):RetV Tryz.prog 71 [GoT.v qK cs1,.int .i64 sinks] w r:=by
 obtain ⟨p1,k1,p2,k2,p3,k3,p4,k4,rfl,s1,s2,s3,s4⟩:=qbt ha1
 refine zV 53 Tryz.func71 rfl fun h=>zSR (qV h rfl rfl fun w1 bb1 h=>X1 6 0 h rfl (zcI h hF (qa6 ⟨_,_,rfl,(h.oldS s1)⟩) rfl fun r1 w2 h hF=>X0 5 rfl (zcB h hF qam rfl fun r2 w3 h hF=>zp1 rfl (qh (t:=11) hF rfl ?_ ?_))))<;>intro hF
 ·refine X1 5 0 h rfl (zcI h hF (qa6 ⟨_,_,rfl,(h.oldS s2)⟩) rfl fun r3 w4 h hF=>X0 6 rfl (qh (t:=18) hF rfl ?_ ?_))<;>intro hF
  ·refine X1 5 0 h rfl (zcI h hF (qa6 ⟨_,_,rfl,(h.oldS s3)⟩) rfl fun r4 w5 h hF=>X0 6 rfl (qh (t:=25) hF rfl ?_ ?_))<;>intro hF
   ·refine X1 3 0 h rfl (zcB h hF (qie (h.old ha1)) rfl fun r5 w6 h hF=>zp2 rfl (qh (t:=29) hF rfl ?_ ?_))<;>intro hF
    ·refine X1 5 0 h rfl (zcB h hF (qbE ⟨_,_,rfl,(h.oldS s2)⟩) rfl fun r6 w7 h hF=>zp2 rfl (qh (t:=34) hF rfl ?_ ?_))<;>intro hF
     ·refine X1 5 0 h rfl (zcB h hF (qbE ⟨_,_,rfl,(h.oldS s3)⟩) rfl fun r7 w8 h hF=>zp2 rfl (qh (t:=39) hF rfl ?_ ?_))<;>intro hF
      ·refine X1 5 0 h rfl (zcI h hF (qa6 ⟨_,_,rfl,(h.oldS s4)⟩) rfl fun r8 w9 h hF=>X0 6 rfl (qh (t:=46) hF rfl ?_ ?_))<;>intro hF
       ·exact X1 9 0 h rfl (zcB h hF (qbE ⟨_,_,rfl,(h.oldS s4)⟩) rfl fun r9 w10 h hF=>X0 3 rfl (rb h hF rfl))
       exact X0 8 rfl (rb h hF rfl)
      exact X0 15 rfl (rb h hF rfl)
     exact X0 20 rfl (rb h hF rfl)
    exact X0 25 rfl (rb h hF rfl)
   exact X0 29 rfl (rb h hF rfl)
  exact X0 36 rfl (rb h hF rfl)
 exact X0 43 rfl (rb h hF rfl)
def qc9 (b:qd) (x2:(List Int)):Nat→Int→Option (Flow Bool Int)
 | 0,_=>none
 | n+1,i2 =>
  bif decide (i2<(b.Ah.length:Int)) then
   (idx b.Ah i2).bind fun y4 =>
   (idx x2 i2).bind fun y5 =>
   (qgz n y4 y5).bind fun r2 =>
   bif (!r2) then some (.ret false) else
   qc9 b x2 n (W64 (i2+1))
  else
   some (.nxt i2)
def qbM (r1:(List Tplace)):Nat→(List Int)→Int→Option ((List Int) × Int)
 | 0,_,_=>none
 | n+1,x2,i1 =>
  bif decide (i1<(r1.length:Int)) then
   (idx r1 i1).bind fun y1 =>
   bif (!y1.drives) then
    (idx x2 y1.net).bind fun y2 =>
    (idx x2 y1.net).bind fun _ =>
    qbM r1 n (setS x2 y1.net (W64 (y2+1))) (W64 (i1+1))
   else
    qbM r1 n x2 (W64 (i1+1))
  else
   some (x2,i1)
def qdS (n:Nat) (b:qd):Option Bool :=
 (
  (qfH n (⟨b.Ac.Ak⟩:qi) (⟨b.Aa.Ab,b.Aa.Ai,b.Aa.Af⟩:qc)).bind fun r3 =>
  bif (!r3) then some true else
  some ((b.Ah.length:Int) != (b.Aa.Ai.length:Int))).bind fun b1 =>
 bif b1 then some false else
 (mkS (b.Ah.length:Int) (0:Int)).bind fun x1 =>
 (qbj n (⟨b.Aa.Ab,b.Aa.Ai,b.Aa.Af⟩:qc)).bind fun r1 =>
 (qbM r1 n x1 0).bind fun o=>match o with
 | (x2,_) =>
  (qc9 b x2 n 0).bind fun o=>match o with
  | .ret r=>some r
  | .nxt _ =>
   some true
theorem qeN {b:qd} (ha1:GoT.R w (old w) b cs1) {r:Bool} (hF:qdS n b=some r):RetV Tryz.prog 34 [GoT.v qd cs1] w r:=by
 obtain ⟨p1,k1,p2,k2,p3,k3,p4,k4,p5,k5,rfl,s1,s2,s3,s4,s5⟩:=qP ha1
 refine zV 63 Tryz.func34 rfl fun h=>zSR (qV h rfl rfl fun w1 bb1 h=>X0 4 rfl ?_)
 obtain ⟨KF1,hKF1,o3,hF,hK3⟩:=bindE hF
 refine qb5 (fun e w'=>∃ (b1:Bool),KF1 b1=some r∧e=[(1,.pointer (some ⟨bb1,0,none⟩)),(23,.bool b1)]∧SH w w' [Ch.box bb1 (qT b p1 p2 p3 p4 p5 k1 k2 k3 k4 k5) 34]) ?_ ?_
 ·refine X2 5 0 0 h rfl (zcB h hF (qiW (qdU _ (h.oldS s1)) (qaL _ (h.oldS s2) (h.oldS s3) (h.oldS s4))) rfl fun r3 w12 h hF=>zp2 rfl (qh (t:=14) hF rfl ?_ ?_))<;>intro hF
  ·refine X0 10 rfl ?_
   obtain rfl:=qb hF
   exact rG ⟨_,hK3,rfl,h⟩ rfl
  refine X2 18 0 0 h rfl ?_
  obtain rfl:=qb hF
  exact rG ⟨_,hK3,rfl,h⟩ rfl
 rintro e3 w13 ⟨b1,hF,rfl,h⟩
 subst hKF1
 refine qr rfl hF ?_ ?_<;>intro hF
 ·exact X0 4 rfl (rb h hF rfl)
 refine X1 6 0 h rfl ?_
 obtain ⟨x1,hx1,hF⟩:=qe hF
 obtain ⟨g1,g2,hx1⟩:=qfU hx1
 refine qgy qa Int h rfl rfl rfl rfl rfl rfl rfl rfl rfl g1 g2 hx1 rfl fun w2 S1 p6 h=>X1 7 1 h rfl (zcL h hF (qcY (qaL _ (h.oldS s2) (h.oldS s3) (h.oldS s4))) rfl fun r1 w3 S2 p7 k6 h hF=>X0 3 rfl ?_)
 obtain ⟨o1,hF,hK1⟩:=qe hF
 refine qq (rL (fun m e w'=>∃ (x2:(List Int)) (i1:Int),qbM r1 m x2 i1=some o1∧e=[(1,.pointer (some ⟨bb1,0,none⟩)),(3,.slice p6 x1.length x1.length),(30,.slice p7 r1.length k6),(31,.int .i64 (r1.length:Int)),(32,.int .i64 i1)]∧SH w w' [Ch.own S2 (r1:List Tplace) [.slice p7 r1.length k6],Ch.own S1 (x2:List Int) [.slice p6 x1.length x1.length],Ch.box bb1 (qT b p1 p2 p3 p4 p5 k1 k2 k3 k4 k5) 34]) n ⟨_,_,hF,rfl,h⟩ rfl ?_)
 rintro m1 e1 w4 ⟨x2,i1,hF,rfl,h⟩
 rcases m1 with _|m1
 ·cases hF
 refine X0 5 rfl (qr rfl hF ?_ ?_)<;>intro hF
 ·refine zKSBSR ?_
  obtain ⟨y1,hy1,hF,he1,b2,_,q1,cs2,hp1,hq1,hr2,hc3⟩:=(h.sl 0 rfl).1.ix hF
  obtain rfl:=qaA hr2
  refine zx hp1 hq1 ⟨he1.1,qY he1.2.1 (h.sl 0 rfl).2⟩ rfl (zc 0 hc3 rfl (qy qa h rfl rfl rfl fun w5 bb2 h=>zs 0 h rfl fun w6 h=>X1 7 0 h rfl (qr rfl hF ?_ ?_)))<;>intro hF
  ·refine X1 4 0 h rfl ?_
   obtain ⟨y2,hy2,hF,he2,b3,_,q2,cs3,hp2,hq2,rfl,hc5⟩:=(h.sl 2 rfl).1.ix hF
   refine zx hp2 hq2 ⟨he2.1,qY he2.2.1 (h.sl 2 rfl).2⟩ rfl (zc 0 hc5 rfl (zp1 rfl ?_))
   obtain ⟨y3,hy3,hF,he3,b4,_,q3,cs4,hp3,hq3,rfl,hc6⟩:=(h.sl 2 rfl).1.ix hF
   refine zx hp3 hq3 ⟨he3.1,qY he3.2.1 (h.sl 2 rfl).2⟩ rfl (qde qa 2 0 (W64 (y2+1)) h rfl hy3 hp3 hq3 rfl hc6 rfl rfl rfl rfl rfl rfl rfl fun w7 h=>X0 6 rfl ?_)
   replace h:=h.pick [1,2,3] rfl
   exact rK ⟨_,_,hF,rfl,h⟩ rfl
  refine X0 6 rfl ?_
  replace h:=h.pick [1,2,3] rfl
  exact rK ⟨_,_,hF,rfl,h⟩ rfl
 refine qw rfl ?_
 obtain rfl:=qb hF;replace hF:=hK1
 refine X1 8 2 h rfl ?_
 obtain ⟨o2,hF,hK2⟩:=qe hF
 refine qq ?_
 replace h:=h.pick [1] rfl
 refine rL (fun m e w'=>∃ (i2:Int),qc9 b x2 m i2=some o2∧e=[(3,.slice p6 x1.length x1.length),(48,.slice p5 b.Ah.length k5),(49,.int .i64 (b.Ah.length:Int)),(50,.int .i64 i2)]∧SH w w' [Ch.own S1 (x2:List Int) [.slice p6 x1.length x1.length]]) n ⟨_,hF,rfl,h⟩ rfl ?_
 rintro m2 e2 w8 ⟨i2,hF,rfl,h⟩
 rcases m2 with _|m2
 ·cases hF
 refine X0 5 rfl (qr rfl hF ?_ ?_)<;>intro hF
 ·refine X0 6 rfl ?_
  obtain ⟨y4,hy4,hF,he4,b5,_,q4,cs5,hp4,hq4,hr5,hc8⟩:=s5.ix hF
  obtain ⟨p8,k7,p9,k8,p10,k9,p11,k10,rfl,s6,s7,s8,s9⟩:=qbt hr5
  refine zxe hp4 hq4 he4 rfl (zc 0 (hc8.below h.below) rfl (qy qa h rfl rfl rfl fun w9 bb3 h=>zp1 rfl (zs 0 h rfl fun w10 h=>zNS (rD (Y1 1 0 h rfl ?_)))))
  refine zd2 rfl ?_
  obtain ⟨y5,hy5,hF,he5,b6,_,q5,cs6,hp5,hq5,rfl,hc9⟩:=(h.sl 1 rfl).1.ix hF
  refine zdx hp5 hq5 ⟨he5.1,qY he5.2.1 (h.sl 1 rfl).2⟩ rfl (zdc 0 hc9 rfl ?_)
  obtain ⟨r2,hr7,hF⟩:=qe hF
  refine qdZ r2 (vsB _) (cB 71 rfl) (fun _ hb=>qkc (qkr y4 ((h.ext hb).oldS s6) ((h.ext hb).oldS s7) ((h.ext hb).oldS s8) ((h.ext hb).oldS s9)) hr7) rfl rfl rfl rfl (zd1 rfl (dN h fun w11 h=>qr rfl hF ?_ ?_))<;>intro hF
  ·refine X0 4 rfl ?_
   obtain rfl:=qb hF;replace hF:=hK2
   exact rb h hF rfl
  refine X0 6 rfl ?_
  replace h:=h.pick [1] rfl
  exact rK ⟨_,hF,rfl,h⟩ rfl
 refine qw rfl ?_
 obtain rfl:=qb hF;replace hF:=hK2
 exact X0 4 rfl (rb h hF rfl)
end Go.Fw
