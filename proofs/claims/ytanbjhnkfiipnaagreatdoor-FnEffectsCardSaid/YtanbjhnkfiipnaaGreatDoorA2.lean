/- Calls that hand out parts of memory one by one: what is owned stays apart. -/
import Derived.Test.YtanbjhnkfiipnaaGreatDoorFw38
import Derived.Sort.Grow
import Derived.Lib.SlicesCompact
import Derived.Laws.StructEq
import Derived.Test.YtanbjhnkfiipnaaGreatDoorChecked
import Derived.Test.YtanbjhnkfiipnaaGreatDoorS1
open Option renaming bind_some → je
open Nat renaming le_refl → jf, le_of_ble_eq_true → jr, lt_of_lt_of_le → js, mul_le_mul_right → jt, zero_le → jw, succ_mul → jE, le_trans → jR, zero_add → jS
open List renaming length_append → jg, length_singleton → jj, getElem?_eq_getElem → jm, mem_cons_of_mem → jo, mem_cons_self → jp, getElem_mem → jq, mem_of_getElem? → ju, eq_nil_of_length_eq_zero → jx, getD_eq_getElem?_getD → jy, not_mem_nil → jz, length_map → jB, getElem?_append_left → jC, getElem?_take → jF, getElem?_toArray → jG, getElem?_append_right → jH, mem_cons → jI, size_toArray → jJ, append_nil → jL, getElem_of_mem → jM, take_length → jN, append_assoc → jO, all_eq_true → jQ
open Bool renaming and_eq_true → jh, eq_iff_iff → jk, true_and → jv, not_eq_true' → jD, and_assoc → jP, not_true → jT
open Go.Result renaming andThen_ok → ji
open Go.Sem renaming run_bind → jl, run_pure → jn
open Int renaming toNat_natCast → jA
open Array renaming getElem?_append_left → jK

namespace Go.Fw
open Go
open Go.RowKit (Below)
section
variable {P:Program} {T:Tab} {n:Nat} {Q:Exit→Act→World→Prop} {k:List It} {e:Env} {w0 w w':World} {L L':List Ch}
theorem SH.append (h:SH w0 w L) (hL:SH w w' L') (hD:∀ c,c ∈ L'→∀ b,c.D b→b<w0.heap.size):SH w0 w' (L'++L):=by
 have h':=h.ext hL.below
 refine ⟨h'.below,fun c hc=>?_,fun c hc=>?_,?_⟩
 ·rcases List.mem_append.1 hc with hc|hc
  ·obtain ⟨p,s⟩:=hL.holds c hc
   exact ⟨p,fun b hb=>⟨jR h.below.size (s b hb).1,(s b hb).2⟩⟩
  ·exact h'.holds c hc
 ·rcases List.mem_append.1 hc with hc|hc
  ·exact hD c hc
  ·exact h.elder c hc
 ·refine List.pairwise_append.2 ⟨hL.apart,h.apart,fun c hc d hd b hcb hdb=>?_⟩
  have h1:=((hL.holds c hc).2 b hcb).1
  have h2:=((h.holds d hd).2 b hdb).2
  omega
theorem SH.appendN (h:SH w0 w L) (hL:SH w w' L') (hD:NoD L'):SH w0 w' (L'++L) :=
 SH.append h hL fun c hc b hb=>absurd hb (NoD.all hD c hc b)
def RetZ (P:Program) (f:FuncId) (vs:List Value) (w:World) (Φ:List Value→List Ch→Prop):Prop :=
 Calls P f vs.toArray w fun e w'=>∃ v,e=.returned v∧Below w.heap.size w w'∧∃ us L,v=tup us∧SH w w' L∧Φ us L
theorem qpJ {Φ:List Value→List Ch→Prop} {all:Array Oper} {l:List Oper} {d ty:Nat} {ps:String} {af:Array Edge} {x:Operand} {args:Array Operand} {ats:Array TypeId} {f:FuncId} {fi ca:Array Value} {az vs:List Value}
  (hcall:qec P f) (hc:RetZ P f vs w Φ) (hx:opv e x=some (.func (.func f) fi ca)) (hargs:opvs e args.toList=some az) (hvs:fi.toList++az++ca.toList=vs) (hn:Nat.blt d n=true)
  (hk:∀ w' us L',SH w w' L'→Φ us L'→Run P n Q (.ops all l::k) ((d,tup us)::e) w') :
  Run P n Q (.ops all (⟨some d,.call ⟨.value x,args,ats⟩,ty,ps,af,none⟩::l)::k) e w:=by
 subst hvs
 refine qjW (R:=fun v w'=>Below w.heap.size w w'∧∃ us L,v=tup us∧SH w w' L∧Φ us L) rfl rfl hn (fun a ha=>qhp ha hcall hx hargs w) hc ?_
 rintro v w' ⟨_,us,L',rfl,hL,hv⟩
 exact hk w' us L' hL hv
theorem qmM {f:FuncId} {fn:Func} {c:Code} {vs:List Value} {Φ:List Value→List Ch→Prop} {m:Nat} (hf:P.funcs[f]?=some fn) (hb:fn.body=some c) (hm:fn.ntmps=m) (hn:Nat.ble vs.length m=true)
  (h:SH w w []→Run P m (bodyPost P fn fun e w'=>∃ v,e=.returned v∧Below w.heap.size w w'∧∃ us L,v=tup us∧SH w w' L∧Φ us L) [.code c] (argEnv 0 vs) w):RetZ P f vs w Φ:=by
 subst hm
 have hn':=jr hn
 refine calls_of_wp hf hb ?_
 have hr:=h (SH.start w)
 have hag:Agree fn.ntmps (argEnv 0 vs) { tmps:=vs.toArray++Array.replicate (fn.ntmps-vs.toArray.size) undef,defers:=[] }:=by
  refine ⟨rfl,by simp;omega,fun i v hi=>?_⟩
  obtain ⟨_,h2⟩:=qhr vs 0 i v hi
  simp only [Nat.sub_zero] at h2
  have hlt:=(List.getElem?_eq_some_iff.1 h2).1
  rw [jK (by simpa using hlt)]
  simpa using h2
 have h1:=hr _ hag
 refine wp_mono h1 ?_
 intro ex a' w' hq
 cases ex<;>exact hq
theorem qp8 (hT:TabOk P T) {fn:Func} {Φ:List Value→List Ch→Prop} (us:List Value) (h:SH w0 w L) (hr:ResOk T e w fn.results.toList us) (hv:Φ us L) :
  Run P n (bodyPost P fn fun e w'=>∃ v,e=.returned v∧Below w0.heap.size w0 w'∧∃ us L,v=tup us∧SH w0 w' L∧Φ us L) (.code .ret::k) e w :=
 qob fun _ ha=>⟨ha.defers,tup us,qhj hT ha hr,tup us,rfl,h.below,us,L,rfl,h,hv⟩
end
end Go.Fw


namespace Go.Fw
open Go Go.Sort
open Go.RowKit (Below)
section
variable {P:Program} {T:Tab} {n:Nat} {Q:Exit→Act→World→Prop} {k:List It} {e:Env} {w0 w w':World} {L L':List Ch}
end
end Go.Fw


namespace Go.Fw
open Go
open Go.RowKit (Below)
section
variable {w0 w w':World} {L:List Ch} {α:Type} [GoT α]
def RAll (w:World) (A:Nat→Prop):List α→List (Raw α)→Prop
 | [],[]=>True
 | x::xs,r::rs=>GoT.R w A x r.cs∧RAll w A xs rs
 | _,_=>False
theorem RAll.at {A:Nat→Prop}:∀ {xs:List α} {rs:List (Raw α)},RAll w A xs rs→xs.length=rs.length∧∀ (i:Nat) x,xs[i]?=some x→∃ r,rs[i]?=some r∧GoT.R w A x r.cs
 | [],[],_=>⟨rfl,fun i x h=>by simp at h⟩
 | x::xs,[],h=>h.elim
 | [],r::rs,h=>h.elim
 | x::xs,r::rs,h=>by
  obtain ⟨hl,ha⟩:=RAll.at h.2
  refine ⟨by simp [hl],fun i y hy=>?_⟩
  cases i with
  | zero=>simp only [List.getElem?_cons_zero,Option.some.injEq] at hy ⊢;subst hy;exact ⟨r,rfl,h.1⟩
  | succ i=>simp only [List.getElem?_cons_succ] at hy ⊢;exact ha i y hy
theorem rawsR {A:Nat→Prop} {xs:List α} {rs:List (Raw α)} {p:Option Addr} {n c:Nat} (hr:GoT.R w A rs [.slice p n c]) (h:RAll w A xs rs):GoT.R w A xs [.slice p n c]:=by
 obtain ⟨p0,c0,he,h1,h2,h3⟩:=hr
 obtain ⟨hl,ha⟩:=h.at
 simp only [List.cons.injEq,Value.slice.injEq,and_true] at he
 obtain ⟨rfl,rfl,rfl⟩:=he
 refine ⟨p,c,by rw [hl],by omega,h2,?_⟩
 rcases h3 with ⟨hp,rfl⟩|⟨b,o,cur,T,fr,rfl,hb,hg,hc,hx⟩
 ·left;exact ⟨hp,List.length_eq_zero_iff.1 hl⟩
 ·refine .inr ⟨b,o,cur,T,fr,rfl,hb,hg,hc,fun i x hi=>?_⟩
  obtain ⟨r,hri,hR⟩:=ha i x hi
  obtain ⟨cs,hcs,hj⟩:=hx i r hri
  obtain rfl:cs=r.cs:=hcs.1
  exact ⟨_,hR,hj⟩
end
end Go.Fw


namespace Go.Fw
open Go
end Go.Fw


namespace Go.Fw
open Go
open Go.RowKit (Below)
section
variable {P:Program} {T:Tab} {n:Nat} {Q:Exit→Act→World→Prop} {k:List It} {e:Env} {w0 w:World} {L:List Ch}
variable {α:Type} [GoT α] {S S1:Nat→Prop} {xs ys:List α} {p p':Option Addr} {c c':Nat}
theorem RetG.up {ρ:Type} [GoRs ρ] [MonoRs ρ] {f:FuncId} {vs:List Value} {A A':Nat→Prop} {r:ρ} (h:RetG P f vs w A r) (hA:∀ b,A b→A' b):RetG P f vs w A' r:=by
 refine Calls.mono h ?_
 rintro e w' ⟨v,rfl,hb,us,rfl,hv⟩
 exact ⟨_,rfl,hb,us,rfl,MonoRs.mono hv fun b hb=>hb.elim (fun h=>.inl (hA b h)) .inr⟩
end
section
variable {α β γ:Type}
def Emp (o:Option (List α)):Prop:=∀ r,o=some r→r=[]
theorem Emp.none:Emp (none:Option (List α)):=fun _ h=>by cases h
theorem Emp.noneB {f:β→Option (List α)}:Emp ((Option.none:Option β).bind f):=fun _ h=>by cases h
theorem Emp.nil:Emp (some ([]:List α)):=fun _ h=>(Option.some.inj h).symm
theorem Emp.bif {c:Bool} {a b:Option (List α)} (h1:Emp a) (h2:Emp b):Emp (bif c then a else b):=by cases c<;>assumption
theorem Emp.sub {xs:List β} {lo:Int} {f:List β→Option (List α)} (h:Emp (f [])):Emp ((subS xs lo ((0:Nat):Int)).bind f):=fun r hr=>by
 cases hs:subS xs lo ((0:Nat):Int) with
 | none=>rw [hs] at hr;cases hr
 | some y =>
  rw [hs] at hr
  obtain ⟨_,_,_,e⟩:=qkB hs
  have:y=[]:=by rw [←e];simp
  subst this
  exact h r hr
theorem Emp.bind {x:Option β} {f:β→Option (List α)} (h:∀ y,Emp (f y)):Emp (x.bind f):=by
 cases x with
 | none=>exact Emp.noneB
 | some y=>exact h y
end
end Go.Fw


namespace Go.Fw
open Go
section
variable {ε:Type}
variable {ρ σ τ:Type}
end
end Go.Fw


namespace Go.Fw
open Go
end Go.Fw


namespace Go.Fw
open Go
open Go.RowKit (Below)
structure Same where
 w:World
 K:Nat→Prop
instance instSame:GoT Same where
 k:=1
 agg:=false
 zero:=⟨default,fun _=>False⟩
 zc:=[.bool true]
 R w S x cs:=cs=[.bool true]∧∀ b,x.K b→S b∧w.heap[b]?=x.w.heap[b]?
 O w S x cs:=cs=[.bool true]∧∀ b,x.K b→S b∧w.heap[b]?=x.w.heap[b]?
 kpos:=by decide
 noagg _:=rfl
 len h:=by obtain ⟨rfl,_⟩:=h;rfl
 one h:=by obtain ⟨rfl,_⟩:=h;simp [Value.oneCell']
 loc h hs:=⟨h.1,fun b hb=>⟨(h.2 b hb).1,(hs b (h.2 b hb).1).trans (h.2 b hb).2⟩⟩
 mono h hs:=⟨h.1,fun b hb=>⟨hs b (h.2 b hb).1,(h.2 b hb).2⟩⟩
 toR h:=h
 locO h hs:=⟨h.1,fun b hb=>⟨(h.2 b hb).1,(hs b (h.2 b hb).1).trans (h.2 b hb).2⟩⟩
 monoO h hs:=⟨h.1,fun b hb=>⟨hs b (h.2 b hb).1,(h.2 b hb).2⟩⟩
 zO _ _:=⟨rfl,fun _ h=>h.elim⟩
def FS (F:List Ch) (b:Nat):Prop:=∃ d,d ∈ F∧d.S b
abbrev Fr (w0:World) (F:List Ch) (b:Nat):Prop:=FS F b∨old w0 b
abbrev same (w0 w:World) (F:List Ch):Fct:=fct (⟨w,Fr w0 F⟩:Same) [.bool true]
section
variable {P:Program} {T:Tab} {n:Nat} {Q:Exit→Act→World→Prop} {k:List It} {e:Env} {w0 w w':World} {L L' F:List Ch}
theorem SH.frame (L:List Ch) (h:SH w0 w (L++F)):SH w0 w (L++[Ch.grp (Fw.old w0) (FS F) [same w0 w F]]):=by
 have hp:=List.pairwise_append.1 h.apart
 refine ⟨h.below,fun c hc=>?_,fun c hc=>?_,List.pairwise_append.2 ⟨hp.1,List.pairwise_singleton ..,fun c hc d hd b hb=>?_⟩⟩
 ·rcases List.mem_append.1 hc with hc|hc
  ·exact h.holds c (List.mem_append_left _ hc)
  ·obtain rfl:=List.mem_singleton.1 hc
   refine ⟨fun f hf=>?_,fun b hb=>?_⟩
   ·obtain rfl:=List.mem_singleton.1 hf
    exact ⟨rfl,fun b hb=>⟨hb,rfl⟩⟩
   ·obtain ⟨d,hd,hb⟩:=hb
    exact (h.holds d (List.mem_append_right _ hd)).2 b hb
 ·rcases List.mem_append.1 hc with hc|hc
  ·exact h.elder c (List.mem_append_left _ hc)
  ·obtain rfl:=List.mem_singleton.1 hc
   exact fun b hb=>hb
 ·obtain rfl:=List.mem_singleton.1 hd
  rintro ⟨d,hd,hdb⟩
  exact hp.2.2 c hc d hd b hb hdb
theorem SH.unframe {L0:List Ch} {fs:List Fct} (j:Nat) (h0:SH w0 w (L0++F)) (L':List Ch) (h:SH w0 w' (L'++[Ch.grp (Fw.old w0) (FS F) fs])) (hj:fs[j]?=some (same w0 w F)):SH w0 w' (L'++F):=by
 have hp:=List.pairwise_append.1 h.apart
 have hp0:=List.pairwise_append.1 h0.apart
 have hg:=h.holds (Ch.grp (Fw.old w0) (FS F) fs) (List.mem_append_right _ (List.mem_singleton.2 rfl))
 have hs:∀ b,Fr w0 F b→w'.heap[b]?=w.heap[b]?:=fun b hb=>((hg.1 _ (ju hj)).2 b hb).2
 refine ⟨h.below,fun c hc=>?_,fun c hc=>?_,List.pairwise_append.2 ⟨hp.1,hp0.2.1,fun c hc d hd b hb hdb=>?_⟩⟩
 ·rcases List.mem_append.1 hc with hc|hc
  ·exact h.holds c (List.mem_append_left _ hc)
  ·obtain ⟨h1,h2⟩:=h0.holds c (List.mem_append_right _ hc)
   exact ⟨c.loc w w' (fun b hb=>hs b (.inl ⟨c,hc,hb⟩)) (fun b hb=>hs b (.inr (h0.elder c (List.mem_append_right _ hc) b hb))) h1,fun b hb=>hg.2 b ⟨c,hc,hb⟩⟩
 ·rcases List.mem_append.1 hc with hc|hc
  ·exact h.elder c (List.mem_append_left _ hc)
  ·exact h0.elder c (List.mem_append_right _ hc)
 ·exact hp.2.2 c hc _ (List.mem_singleton.2 rfl) b hb ⟨d,hd,hdb⟩
variable {α:Type} [GoT α] {x:α} {cs:List Value} {S D:Nat→Prop} {fs:List Fct}
theorem SH.frB {c:Ch} (i m:Nat) (hi:L[i]?=some c) (hm:Nat.ble m i=true):∀ b,c.S b→FS (L.drop m) b:=fun b hb=>by
 have hm':=jr hm
 refine ⟨c,ju (i:=i-m) ?_,hb⟩
 rw [List.getElem?_drop,show m+(i-m)=i by omega]
 exact hi
theorem SH.frO (i m:Nat) (h:SH w0 w L) (hi:L[i]?=some (Ch.own S x cs)) (hm:Nat.ble m i=true):GoT.R w (Fr w0 (L.drop m)) x cs :=
 GoT.mono (GoT.toR (h.mem hi).1) fun b hb=>.inl (SH.frB i m hi hm b hb)
theorem SH.frG (i j m:Nat) (h:SH w0 w L) (hi:L[i]?=some (Ch.grp D S fs)) (hj:fs[j]?=some (fct x cs)) (hm:Nat.ble m i=true):GoT.R w (Fr w0 (L.drop m)) x cs :=
 GoT.mono (h.grpS i j hi hj) fun b hb=>hb.elim (fun hb=>.inl (SH.frB i m hi hm b hb)) fun hb=>.inr (h.elder _ (ju hi) b hb)
theorem SH.frOldS {F:List Ch} {xs:List α} {p:Option Addr} {c:Nat} (h:SH w0 w L) (hr:SlR w0 (Fw.old w0) xs p c):SlR w (Fr w0 F) xs p c :=
 (hr.loc fun b hb=>h.below.block b hb).mono fun _ hb=>.inr hb
def RetW (P:Program) (f:FuncId) (vs:List Value) (w:World) (J:List Value→World→Prop):Prop :=
 Calls P f vs.toArray w fun e w'=>∃ us,e=.returned (tup us)∧J us w'
theorem qz {J:List Value→World→Prop} {all:Array Oper} {l:List Oper} {d ty:Nat} {ps:String} {af:Array Edge} {x:Operand} {args:Array Operand} {ats:Array TypeId} {f:FuncId} {fi ca:Array Value} {az vs:List Value}
  (hcall:qec P f) (hc:RetW P f vs w J) (hx:opv e x=some (.func (.func f) fi ca)) (hargs:opvs e args.toList=some az) (hvs:fi.toList++az++ca.toList=vs) (hn:Nat.blt d n=true)
  (hk:∀ w' us,J us w'→Run P n Q (.ops all l::k) ((d,tup us)::e) w'):Run P n Q (.ops all (⟨some d,.call ⟨.value x,args,ats⟩,ty,ps,af,none⟩::l)::k) e w:=by
 subst hvs
 refine qjW (R:=fun v w'=>∃ us,v=tup us∧J us w') rfl rfl hn (fun a ha=>qhp ha hcall hx hargs w) (hc.mono ?_) ?_
 ·rintro e w' ⟨us,rfl,h⟩;exact ⟨_,rfl,us,rfl,h⟩
 ·rintro v w' ⟨us,rfl,h⟩;exact hk w' us h
theorem qbi {J:List Value→World→Prop} {f:FuncId} {fn:Func} {c:Code} {vs:List Value} {m:Nat} (hf:P.funcs[f]?=some fn) (hb:fn.body=some c) (hm:fn.ntmps=m) (hn:Nat.ble vs.length m=true)
  (h:Run P m (bodyPost P fn fun e w'=>∃ us,e=.returned (tup us)∧J us w') [.code c] (argEnv 0 vs) w):RetW P f vs w J:=by
 subst hm
 have hn':=jr hn
 refine calls_of_wp hf hb ?_
 have hag:Agree fn.ntmps (argEnv 0 vs) { tmps:=vs.toArray++Array.replicate (fn.ntmps-vs.toArray.size) undef,defers:=[] }:=by
  refine ⟨rfl,by simp;omega,fun i v hi=>?_⟩
  obtain ⟨_,h2⟩:=qhr vs 0 i v hi
  simp only [Nat.sub_zero] at h2
  have hlt:=(List.getElem?_eq_some_iff.1 h2).1
  rw [jK (by simpa using hlt)]
  simpa using h2
 have h1:=h _ hag
 refine wp_mono h1 ?_
 intro ex a' w' hq
 cases ex<;>exact hq
theorem qbp {J:List Value→World→Prop} (hT:TabOk P T) {fn:Func} (us:List Value) (hr:ResOk T e w fn.results.toList us) (h:J us w) :
  Run P n (bodyPost P fn fun e w'=>∃ us,e=.returned (tup us)∧J us w') (.code .ret::k) e w :=
 qob fun _ ha=>⟨ha.defers,tup us,qhj hT ha hr,us,rfl,h⟩
end
section
open Go.ChangeShapes Go.RowKit
variable {H:Type} {enc:TypeId × Value→H} {P:Program} {w:World} {base:Nat} {spare:Nat→Bool} {held:Bool}
end
end Go.Fw


namespace Go.Fw
open Go
open Go.RowKit (Below)
section
variable {P:Program} {T:Tab} {n:Nat} {Q:Exit→Act→World→Prop} {k:List It} {e:Env} {w0 w w':World} {L:List Ch}
variable {α β:Type} [GoT α] [GoT β] {S Sr Se D:Nat→Prop} {xs ys:List α} {p p':Option Addr} {c c':Nat} {fs:List Fct} {x:α} {cs:List Value}
theorem RAll.loc {A:Nat→Prop}:∀ {xs:List α} {rs:List (Raw α)},RAll w A xs rs→(∀ b,A b→w'.heap[b]?=w.heap[b]?)→RAll w' A xs rs
 | [],[],_,_=>trivial
 | _::_,[],h,_=>h.elim
 | [],_::_,h,_=>h.elim
 | _::_,_::_,h,hb=>⟨GoT.loc h.1 hb,RAll.loc h.2 hb⟩
theorem RAll.mono {A B:Nat→Prop} (hb:∀ b,A b→B b):∀ {xs:List α} {rs:List (Raw α)},RAll w A xs rs→RAll w B xs rs
 | [],[],_=>trivial
 | _::_,[],h=>h.elim
 | [],_::_,h=>h.elim
 | _::_,_::_,h=>⟨GoT.mono h.1 hb,RAll.mono hb h.2⟩
theorem RAll.app {A:Nat→Prop}:∀ {xs:List α} {rs:List (Raw α)} {ys:List α} {qs:List (Raw α)},RAll w A xs rs→RAll w A ys qs→RAll w A (xs++ys) (rs++qs)
 | [],[],_,_,_,h=>h
 | _::_,[],_,_,h,_=>h.elim
 | [],_::_,_,_,h,_=>h.elim
 | _::_,_::_,_,_,h,h'=>⟨h.1,RAll.app h.2 h'⟩
theorem RAll.of {A:Nat→Prop}:∀ {xs:List α} {rs:List (Raw α)},xs.length=rs.length→(∀ (i:Nat) (x:α) (r:Raw α),xs[i]?=some x→rs[i]?=some r→GoT.R w A x r.cs)→RAll w A xs rs
 | [],[],_,_=>trivial
 | _::_,[],h,_=>by cases h
 | [],_::_,h,_=>by cases h
 | x::xs,r::rs,h,ha=>⟨ha 0 x r rfl rfl,RAll.of (by simpa using h) fun i y q hy hq=>ha (i+1) y q (by simpa using hy) (by simpa using hq)⟩
def Ch.rowX (Sr Se:Nat→Prop) (xs:List α) (p:Option Addr) (c:Nat) (fs:List Fct):Ch where
 S b:=Sr b∨Se b
 D _:=False
 P w:=(∃ rs:List (Raw α),(Ch.own Sr rs [.slice p rs.length c]).P w∧RAll w Se xs rs)∧(∀ b,Sr b→¬ Se b)∧∀ f ∈ fs,f.R w Se
 loc w w' h _ hp:=by
  obtain ⟨⟨rs,h1,h2⟩,h3,h4⟩:=hp
  exact ⟨⟨rs,(Ch.own Sr rs [.slice p rs.length c]).loc w w' (fun b hb=>h b (.inl hb)) (fun _ hd=>hd.elim) h1,RAll.loc h2 fun b hb=>h b (.inr hb)⟩,h3,fun f hf=>GoT.loc (self:=f.inst) (h4 f hf) fun b hb=>h b (.inr hb)⟩
theorem SH.toRowX {ln:Nat} (h:SH w0 w (Ch.own S xs [.slice p ln c]::L)):∃ Sr Se,SH w0 w (Ch.rowX Sr Se xs p c []::L)∧ln=xs.length:=by
 have hln:=(h.sl 0 rfl).2
 obtain ⟨S1,S2,rs,hl,h2⟩:=h.splitL
 refine ⟨S1,S2,h2.join (e:=Ch.rowX S1 S2 xs p c []) (fun h1 h3=>⟨⟨rs,by rw [hl,←hln];exact h1,?_⟩,?_,fun _ hf=>by cases hf⟩) (fun b hb=>hb) (fun _ hd=>hd.elim),hln⟩
 ·obtain ⟨q0,F,q1,_,q3⟩:=h3
  exact RAll.of q0 fun i x r hx hr=>GoT.mono (GoT.toR (q3 i x r hx hr)) (q1 i)
 ·have:=List.pairwise_cons.1 h2.apart
  exact fun b hb=>this.1 _ (jp ..) b hb
theorem SH.xS (i j:Nat) {ds:List Value} {y:β} (h:SH w0 w L) (hi:L[i]?=some (Ch.rowX Sr Se xs p c fs)) (hj:fs[j]?=some (fct y ds)):GoT.R w Se y ds:=(h.mem hi).1.2.2 _ (ju hj)
theorem SH.xAdd {ds:List Value} {y:β} (i:Nat) (h:SH w0 w L) (hi:L[i]?=some (Ch.rowX Sr Se xs p c fs)) (hr:GoT.R w Se y ds):SH w0 w (L.set i (Ch.rowX Sr Se xs p c (fct y ds::fs))) :=
 h.say hi (fun hp=>⟨hp.1,hp.2.1,fun f hf=>by
  rcases List.mem_cons.1 hf with rfl|hf
  ·exact hr
  ·exact hp.2.2 f hf⟩) (fun _ h=>h) (fun _ h=>h.elim)
theorem SH.xKeep (is:List Nat) (i:Nat) (h:SH w0 w L) (hi:L[i]?=some (Ch.rowX Sr Se xs p c fs)):SH w0 w (L.set i (Ch.rowX Sr Se xs p c (pickF fs is))) :=
 h.say hi (fun hp=>⟨hp.1,hp.2.1,fun f hf=>hp.2.2 f (qjo hf)⟩) (fun _ h=>h) (fun _ h=>h.elim)
theorem RAll.len {A:Nat→Prop} {rs:List (Raw α)} (h:RAll w A xs rs):xs.length=rs.length:=h.at.1
theorem qql (hp:(Ch.rowX Sr Se xs p c fs).P w):GoT.R w (fun b=>Sr b∨Se b) xs [.slice p xs.length c]:=by
 obtain ⟨⟨rs,h1,h2⟩,_⟩:=hp
 have h3:GoT.O w Sr rs [.slice p rs.length c]:=h1
 rw [h2.len]
 exact rawsR (GoT.mono (GoT.toR h3) fun b hb=>.inl hb) (h2.mono fun b hb=>.inr hb)
theorem SH.atX (i:Nat) (h:SH w0 w L) (hi:L[i]?=some (Ch.rowX Sr Se xs p c fs)) {iv:Int} (hx:idx xs iv=some x) :
  ∃ b o q cs,p=some ⟨b,o,none⟩∧q=o+iv.toNat*GoT.k α∧True∧GoT.R w Se x cs∧CellsAt w b q cs:=by
 obtain ⟨⟨rs,h1,h2⟩,_⟩:=(h.mem hi).1
 obtain ⟨g0,g1,g2⟩:=qbd hx
 obtain ⟨r,hr,hR⟩:=h2.at.2 iv.toNat x g2
 have hri:idx rs iv=some r:=by
  unfold idx
  have:=h2.len
  rw [if_pos g0]
  exact hr
 have h3:GoT.O w Sr rs [.slice p rs.length c]:=h1
 obtain ⟨b,o,q,cs,hp,hq,_,hc,hcells⟩:=(qap (GoT.toR h3)).1.at hri
 obtain rfl:cs=r.cs:=hc.1
 exact ⟨b,o,q,_,hp,hq,trivial,hR,hcells⟩
theorem qqs (hT:TabOk P T) {all:Array Oper} {l:List Oper} {d t ty el:Nat} {ps:String} {af:Array Edge} {a b:Operand} {z:List α} {ln ln':Nat} {te te':TE} {zv:Value} {S1:Nat→Prop} {qs:List (Raw α)}
  (h:SH w0 w (Ch.rowX Sr Se xs p c fs::Ch.own S1 qs [.slice p' ln' c']::L)) (hq:RAll w Se ys qs) (hl:ln=xs.length) (hx:opv e a=some (.slice p ln c)) (hy:opv e b=some (.slice p' ln' c'))
  (hte:T.get t=some te) (hk:te.kind=.slice el) (hel:T.get el=some te') (hz:te'.zero=some zv) (hzs:(cellsL zv).length=te'.size) (hsz:te'.size=GoT.k α)
  (hb:Nat.ble te'.bytes 65536=true) (hbig:xs.length+ys.length≤big) (hz':xs++ys=z) (hn:Nat.blt d n=true)
  (hkk:∀ w' p2 c2 S2,SH w0 w' (Ch.rowX S2 Se z p2 c2 fs::L)→Run P n Q (.ops all l::k) ((d,.slice p2 z.length c2)::e) w') :
  Run P n Q (.ops all (⟨some d,.call ⟨.builtin .append,#[a,b],#[t,t]⟩,ty,ps,af,none⟩::l)::k) e w:=by
 subst hz' hl
 obtain ⟨⟨rs,hr,hR⟩,hap,hfs⟩:=(h.mem (i:=0) rfl).1
 have hpw:=List.pairwise_cons.1 h.apart
 have hs0:=(h.mem (i:=0) rfl).2
 let E:Ch:={ S:=Se,D:=fun _=>False,P:=fun w=>RAll w Se xs rs∧RAll w Se ys qs∧∀ f ∈ fs,f.R w Se,loc:=fun w w' h _ hp=>⟨RAll.loc hp.1 h,RAll.loc hp.2.1 h,fun f hf=>GoT.loc (self:=f.inst) (hp.2.2 f hf) h⟩ }
 have h1:SH w0 w (Ch.own Sr rs [.slice p rs.length c]::E::Ch.own S1 qs [.slice p' ln' c']::L):=by
  refine ⟨h.below,fun d hd=>?_,fun d hd=>?_,?_⟩
  ·rcases List.mem_cons.1 hd with rfl|hd
   ·exact ⟨hr,fun b hb=>hs0 b (.inl hb)⟩
   rcases List.mem_cons.1 hd with rfl|hd
   ·exact ⟨⟨hR,hq,hfs⟩,fun b hb=>hs0 b (.inr hb)⟩
   ·exact h.holds d (jo _ hd)
  ·rcases List.mem_cons.1 hd with rfl|hd
   ·exact fun b hb=>hb.elim
   rcases List.mem_cons.1 hd with rfl|hd
   ·exact fun b hb=>hb.elim
   ·exact h.elder d (jo _ hd)
  ·refine List.pairwise_cons.2 ⟨fun d hd b hb=>?_,List.pairwise_cons.2 ⟨fun d hd b hb=>hpw.1 d hd b (.inr hb),hpw.2⟩⟩
   rcases List.mem_cons.1 hd with rfl|hd
   ·exact hap b hb
   ·exact hpw.1 d hd b (.inl hb)
 have hs:=(h1.sl 2 rfl).1
 have hl2:=(h1.sl 2 rfl).2
 refine qm6 hT (α:=Raw α) 0 h1 rfl hs hl2 (by rw [←hR.len];exact hx) hy hte hk hel hz hzs hsz hb (by rw [←hR.len,←hq.len];exact hbig) hn (fun w' p2 c2 S2 h3=>?_)
 have h4:SH w0 w' (Ch.own S2 (rs++qs) [.slice p2 (rs.length+qs.length) c2]::E::Ch.own S1 qs [.slice p' ln' c']::L):=h3
 have hpw4:=List.pairwise_cons.1 h4.apart
 have h5:SH w0 w' (Ch.rowX S2 Se (xs++ys) p2 c2 fs::Ch.own S1 qs [.slice p' ln' c']::L) :=
  h4.join (e:=Ch.rowX S2 Se (xs++ys) p2 c2 fs) (fun q1 q2=>⟨⟨rs++qs,by rw [jg];exact q1,q2.1.app q2.2.1⟩,fun b hb=>hpw4.1 E (jp ..) b hb,q2.2.2⟩) (fun b hb=>hb) (fun _ hd=>hd.elim)
 have h6:=h5.pick [0] (by rfl)
 have h7:SH w0 w' (Ch.rowX S2 Se (xs++ys) p2 c2 fs::L):=by
  have hp5:=List.pairwise_cons.1 h5.apart
  have hp6:=List.pairwise_cons.1 hp5.2
  exact ⟨h5.below,fun d hd=>h5.holds d (by
   rcases List.mem_cons.1 hd with rfl|hd
   ·exact jp ..
   ·exact jo _ (jo _ hd)),fun d hd=>h5.elder d (by
   rcases List.mem_cons.1 hd with rfl|hd
   ·exact jp ..
   ·exact jo _ (jo _ hd)),List.pairwise_cons.2 ⟨fun d hd=>hp5.1 d (jo _ hd),hp6.2⟩⟩
 have h8:=hkk w' p2 c2 S2 h7
 have e1:(xs++ys).length=rs.length+qs.length:=by rw [jg,hR.len,hq.len]
 rw [e1] at h8
 exact h8
theorem qqc {A:Nat→Prop} (hr:GoT.R w S x cs):GoT.R w A (⟨cs⟩:Raw α) cs:=⟨rfl,GoT.len hr,GoT.one hr⟩
theorem SH.frzI (i:Nat) (h:SH w0 w L) (hi:L[i]?=some (Ch.own S x cs)):SH w0 w (L.set i (Ch.grp (fun _=>False) S [fct x cs])) :=
 h.say hi (fun hp f hf=>by
  obtain rfl:=List.mem_singleton.1 hf
  have hp':GoT.O w S x cs:=hp
  exact GoT.mono (S':=fun b=>S b∨False) (x:=x) (cs:=cs) (GoT.toR hp') (fun b hb=>.inl hb)) (fun _ h=>h) (fun _ h=>h.elim)
theorem SH.frzX (i:Nat) (h:SH w0 w L) (hi:L[i]?=some (Ch.rowX Sr Se xs p c fs)):SH w0 w (L.set i (Ch.grp (fun _=>False) (fun b=>Sr b∨Se b) (fct xs [.slice p xs.length c]::fs))) :=
 h.say hi (fun hp f hf=>by
  rcases List.mem_cons.1 hf with rfl|hf
  ·exact GoT.mono (S':=fun b=>(Sr b∨Se b)∨False) (x:=xs) (qql hp) (fun b hb=>.inl hb)
  ·exact GoT.mono (self:=f.inst) (hp.2.2 f hf) fun b hb=>.inl (.inr hb)) (fun _ h=>h) (fun _ h=>h.elim)
end
end Go.Fw


namespace Go.Fw
open Go
def rng8 (x:IntK .u8):Prop:=0≤x.val∧x.val≤255
theorem qoK {P:Program} {t:TypeId} (ht:P.underlying t=some (.int .u8)) (hc:P.cellsOf t=1):Opens P t (gt_IntK (kd:=.u8)) rng8 :=
 ⟨hc,fun h=>by
  obtain ⟨n,rfl,_,hw⟩:=DataW.trod_int ht h
  exact ⟨⟨n⟩,rfl,by simp only [Lit.wf,IntKind.min,IntKind.max,jh] at hw;simp [IntKind.bits,IntKind.signed] at hw;unfold rng8;simp only;omega⟩⟩
end Go.Fw


namespace Go.Fw
open Go
open Go.RowKit (Below)
section
variable {P:Program} {T:Tab} {n:Nat} {Q:Exit→Act→World→Prop} {k:List It} {e:Env} {w0 w w':World} {L:List Ch}
end
end Go.Fw


namespace Go.Fw
open Go
open Go.RowKit (Below)
section
variable {P:Program} {T:Tab} {n:Nat} {e:Env} {w:World}
theorem qlD {t:TypeId} (h:P.underlying t=some .bool) (w:World):(isAgg t).run P w=.ok false w:=by
 unfold isAgg
 simp only [jl,run_underlying h,ji]
 rfl
theorem qjA {t:TypeId} (h:P.underlying t=some .bool) {cs:Array Value} {o:Nat} {v:Value} (hv:cs[o]?=some v) (w:World):(part t cs o).run P w=.ok v w:=by
 unfold part
 simp only [jl,qlD h,ji,hv]
 rfl
theorem qlw (d:Nat) {t:TypeId} (h:P.underlying t=some .bool) (a b:Bool) (w:World):(Op.equalIn (d+1) t (.bool a) (.bool b)).run P w=.ok (a==b) w:=by
 simp [Op.equalIn,run_underlying h]
theorem qj1 {d:Nat} {xs ys:Array Value} {f:Field} {fs:List Field} {v1 v2:Value} {r q:Bool} (hn:f.name ≠ "_") (hp1:(part f.type xs f.offset).run P w=.ok v1 w) (hp2:(part f.type ys f.offset).run P w=.ok v2 w)
  (he:(Op.equalIn d f.type v1 v2).run P w=.ok r w) (hr:(Op.eqFields d xs ys fs).run P w=.ok q w):(Op.eqFields d xs ys (f::fs)).run P w=.ok (r&&q) w:=by
 simp only [Op.eqFields,if_pos hn,jl,hp1,hp2,he,ji]
 cases r
 ·simp
 ·simp [hr]
def isBl (P:Program) (t:TypeId):Bool:=match P.underlying t with
 | some .bool=>true
 | _=>false
theorem qpz {t:TypeId} (h:isBl P t=true):P.underlying t=some .bool:=by
 unfold isBl at h
 split at h
 ·assumption
 ·cases h
def okB3 (P:Program) (t:TypeId):Bool:=match P.underlying t with
 | some (.struct fs)=>match fs.toList with
  | [f1,f2,f3,f4]=>(f1.name != "_")&&(f2.name != "_")&&(f3.name != "_")&&(f4.name != "_")&&Nat.beq f1.offset 0&&Nat.beq f2.offset 1&&Nat.beq f3.offset 2&&Nat.beq f4.offset 3&&isBl P f1.type&&isI64 P f2.type&&isI64 P f3.type&&isI64 P f4.type&&!P.stoodInHeld t&&!P.eqGuardType P.depth t
  | _=>false
 | _=>false
def b3 (a0:Bool) (a1 a2 a3:Int):Array Value:=#[.bool a0,.int .i64 a1,.int .i64 a2,.int .i64 a3]
theorem qkb {t:TypeId} (hk:okB3 P t=true) (a0 b0:Bool) (a1 a2 a3 c1 c2 c3:Int) (w:World) :
  (Op.equal t (.agg (b3 a0 a1 a2 a3)) (.agg (b3 b0 c1 c2 c3))).run P w=.ok ((a0==b0)&&((a1==c1)&&((a2==c2)&&((a3==c3)&&true)))) w∧P.eqGuardType P.depth t=false:=by
 unfold okB3 at hk
 split at hk
 ·rename_i fs hu
  split at hk
  ·rename_i f1 f2 f3 f4 hf
   have hf':fs=#[f1,f2,f3,f4]:=by rw [←Array.toArray_toList (xs:=fs),hf]
   subst hf'
   simp only [jh,jD,bne_iff_ne] at hk
   obtain ⟨⟨⟨⟨⟨⟨⟨⟨⟨⟨⟨⟨⟨n1,n2⟩,n3⟩,n4⟩,o1⟩,o2⟩,o3⟩,o4⟩,t1⟩,t2⟩,t3⟩,t4⟩,hs⟩,hg⟩:=hk
   have o1:=Nat.eq_of_beq_eq_true o1
   have o2:=Nat.eq_of_beq_eq_true o2
   have o3:=Nat.eq_of_beq_eq_true o3
   have o4:=Nat.eq_of_beq_eq_true o4
   have t1:=qpz t1
   have t2:=qli t2
   have t3:=qli t3
   have t4:=qli t4
   have hfo:P.fieldsOf t=#[f1,f2,f3,f4]:=by simp only [Program.fieldsOf,hu]
   refine ⟨?_,hg⟩
   simp only [Op.equal,Op.maxDepth]
   rw [show (10000:Nat)=9999+1 from rfl,run_equalIn_struct w 9999 t _ _ (by rw [hfo];exact hu) hs,hfo]
   refine qj1 n1 (qjA t1 (by rw [o1];rfl) w) (qjA t1 (by rw [o1];rfl) w) (qlw 9998 t1 a0 b0 w) ?_
   refine qj1 n2 (qfn t2 (by rw [o2];rfl) w) (qfn t2 (by rw [o2];rfl) w) (qg3 9998 t2 a1 c1 w) ?_
   refine qj1 n3 (qfn t3 (by rw [o3];rfl) w) (qfn t3 (by rw [o3];rfl) w) (qg3 9998 t3 a2 c2 w) ?_
   refine qj1 n4 (qfn t4 (by rw [o4];rfl) w) (qfn t4 (by rw [o4];rfl) w) (qg3 9998 t4 a3 c3 w) ?_
   simp [Op.eqFields]
  ·cases hk
 ·cases hk
theorem qqj {x y:Operand} {t t' d ty:Nat} {ps:String} {af:Array Edge} {g:Option (Nat × Bool)} {a0 b0:Bool} {a1 a2 a3 c1 c2 c3:Int} (hk:okB3 P t=true)
  (hx:opv e x=some (.agg (b3 a0 a1 a2 a3))) (hy:opv e y=some (.agg (b3 b0 c1 c2 c3))):Val P n e ⟨some d,.binOp .eql t x y t',ty,ps,af,g⟩ w (.bool ((a0==b0)&&((a1==c1)&&((a2==c2)&&((a3==c3)&&true))))):=by
 intro a ha
 have he:=fun w=>(qkb hk a0 b0 a1 a2 a3 c1 c2 c3 w).1
 have hg:=(qkb hk a0 b0 a1 a2 a3 c1 c2 c3 w).2
 have hgd:∀ w,(eqGuard .eql t x y (.agg (b3 a0 a1 a2 a3)) (.agg (b3 b0 c1 c2 c3))).run P w=.ok () w:=fun w=>by
  unfold eqGuard
  simp [hg]
 simp only [execOp,ha.eval hx,ha.eval hy,jl,hgd,ji,binOp,he,jn]
theorem qqv {x y:Operand} {t t' d ty:Nat} {ps:String} {af:Array Edge} {g:Option (Nat × Bool)} {a0 b0:Bool} {a1 a2 a3 c1 c2 c3:Int} (hk:okB3 P t=true)
  (hx:opv e x=some (.agg (b3 a0 a1 a2 a3))) (hy:opv e y=some (.agg (b3 b0 c1 c2 c3))):Val P n e ⟨some d,.binOp .neq t x y t',ty,ps,af,g⟩ w (.bool (!((a0==b0)&&((a1==c1)&&((a2==c2)&&((a3==c3)&&true)))))):=by
 intro a ha
 have he:=fun w=>(qkb hk a0 b0 a1 a2 a3 c1 c2 c3 w).1
 have hg:=(qkb hk a0 b0 a1 a2 a3 c1 c2 c3 w).2
 have hgd:∀ w,(eqGuard .neq t x y (.agg (b3 a0 a1 a2 a3)) (.agg (b3 b0 c1 c2 c3))).run P w=.ok () w:=fun w=>by
  unfold eqGuard
  simp [hg]
 simp only [execOp,ha.eval hx,ha.eval hy,jl,hgd,ji,binOp,he,jn]
end
end Go.Fw


namespace Go.Fw
open Go
section
variable {P:Program} {T:Tab} {n:Nat} {e:Env} {w:World}
theorem qms {x y:Operand} {t t' d ty:Nat} {ps:String} {af:Array Edge} {g:Option (Nat × Bool)} {a b r:Int} (h0:b ≠ 0) (hr:a.tmod b=r)
  (hx:opv e x=some (.int .i64 a)) (hy:opv e y=some (.int .i64 b)):Val P n e ⟨some d,.binOp .rem t x y t',ty,ps,af,g⟩ w (.int .i64 r):=hr ▸ qqz h0 hx hy
theorem qm3 {α:Type} [GoT α] [Flat α] {w w1:World} {S S1:Nat→Prop} {xs:List α} {p:Option Addr} {c b o q:Nat} {iv:Int} {x:α} {cs:List Value} (h:SlR w S xs p c)
  (hx:idx xs iv=some x) (hp:p=some ⟨b,o,none⟩) (hq:q=o+iv.toNat*GoT.k α) (hr:GoT.R w1 S1 x cs):CellsAt w b q cs:=by
 obtain ⟨b',o',q',cs',hp',hq',_,hr',hc'⟩:=h.at hx
 rw [hp] at hp'
 simp only [Option.some.injEq,Addr.mk.injEq,and_true] at hp'
 obtain ⟨rfl,rfl⟩:=hp'
 subst hq hq'
 rw [Flat.det hr hr']
 exact hc'
end
end Go.Fw


namespace Go.Fw
open Go
open Go.RowKit (Below)
section
variable {P:Program} {T:Tab} {n:Nat} {Q:Exit→Act→World→Prop} {k:List It} {e:Env} {w0 w w':World} {L:List Ch}
variable {α β:Type} [GoT α] [GoT β] {S Sr Se D:Nat→Prop} {xs ys:List α} {p p':Option Addr} {c c':Nat} {fs:List Fct} {x:α} {cs:List Value}
theorem qpO {A:Nat→Prop} (h:SlR w A xs p c):∃ rs:List (Raw α),RAll w A xs rs∧SlR w A rs p c:=by
 obtain ⟨h1,h2,h3⟩:=h
 rcases h3 with ⟨hp,rfl⟩|⟨b,o,cur,T,fr,rfl,hb,hg,hcur,hx⟩
 ·exact ⟨[],trivial,by simp,h2,.inl ⟨hp,rfl⟩⟩
 ·obtain ⟨rs,hl,hr⟩:=qmw (p:=fun i x (r:Raw α)=>GoT.R w A x r.cs∧∀ j v,r.cs[j]?=some v→cur[o+i*GoT.k α+j]?=some v) xs (fun i x hi=>by
   obtain ⟨cs,h1,h2⟩:=hx i x hi
   exact ⟨⟨cs⟩,h1,h2⟩)
  refine ⟨rs,RAll.of hl.symm (fun i x r hi hr'=>(hr i x r hi hr').1),by rw [hl];exact h1,h2,.inr ⟨b,o,cur,T,fr,rfl,hb,hg,hcur,fun i r hi=>?_⟩⟩
  have hi':i<xs.length:=by have:=(List.getElem?_eq_some_iff.1 hi).1;omega
  obtain ⟨q1,q2⟩:=hr i xs[i] r (jm hi') hi
  exact ⟨r.cs,⟨rfl,GoT.len q1,GoT.one q1⟩,q2⟩
def Ch.rowG (D Sr Se:Nat→Prop) (xs:List α) (p:Option Addr) (c:Nat) (fs:List Fct):Ch where
 S b:=Sr b∨Se b
 D:=D
 P w:=(∃ rs:List (Raw α),(Ch.own Sr rs [.slice p rs.length c]).P w∧RAll w (fun b=>Se b∨D b) xs rs)∧(∀ b,Sr b→¬ Se b)∧∀ f ∈ fs,f.R w (fun b=>Se b∨D b)
 loc w w' h h' hp:=by
  obtain ⟨⟨rs,h1,h2⟩,h3,h4⟩:=hp
  have hb:∀ b,Se b∨D b→w'.heap[b]?=w.heap[b]?:=fun b hb=>hb.elim (fun hb=>h b (.inr hb)) (h' b)
  exact ⟨⟨rs,(Ch.own Sr rs [.slice p rs.length c]).loc w w' (fun b hb=>h b (.inl hb)) (fun _ hd=>hd.elim) h1,RAll.loc h2 hb⟩,h3,fun f hf=>GoT.loc (self:=f.inst) (h4 f hf) hb⟩
theorem SH.toRowG {ln:Nat} (h:SH w0 w (Ch.own S ([]:List α) [.slice p ln c]::Ch.grp D Se fs::L)):SH w0 w (Ch.rowG D S Se ([]:List α) p c fs::L)∧ln=0:=by
 have hpw:=List.pairwise_cons.1 h.apart
 have hel:=h.elder (Ch.grp D Se fs) (jo _ (jp ..))
 have hln:ln=0:=(h.sl 0 rfl).2
 refine ⟨h.join (e:=Ch.rowG D S Se ([]:List α) p c fs) (fun h1 h2=>⟨⟨[],?_,trivial⟩,fun b hb=>hpw.1 _ (jp ..) b hb,h2⟩) (fun b hb=>hb) hel,hln⟩
 obtain ⟨p0,c0,he,q1,q2,q3⟩:=h1
 simp only [List.cons.injEq,Value.slice.injEq,and_true] at he
 obtain ⟨rfl,_,rfl⟩:=he
 refine ⟨p,c,rfl,by simp,q2,?_⟩
 rcases q3 with ⟨rfl,_,rfl⟩|⟨b,cur,T,F,rfl,hb,hg,hcur,hF,hd,_⟩
 ·exact .inl ⟨rfl,rfl,rfl⟩
 ·exact .inr ⟨b,cur,T,F,rfl,hb,hg,hcur,hF,hd,fun i x hx=>by simp at hx⟩
theorem SH.gS (i j:Nat) {ds:List Value} {y:β} (h:SH w0 w L) (hi:L[i]?=some (Ch.rowG D Sr Se xs p c fs)) (hj:fs[j]?=some (fct y ds)):GoT.R w (fun b=>Se b∨D b) y ds:=(h.mem hi).1.2.2 _ (ju hj)
theorem SH.gB {i:Nat} (h:SH w0 w L) (hi:L[i]?=some (Ch.rowG D Sr Se xs p c fs)):∀ b,Se b∨D b→Fw.old w b:=by
 intro b hb
 rcases hb with hb|hb
 ·exact ((h.mem hi).2 b (.inr hb)).2
 ·exact js (h.elder _ (ju hi) b hb) h.below.size
theorem qp7 (hp:(Ch.rowG D Sr Se xs p c fs).P w):GoT.R w (fun b=>(Sr b∨Se b)∨D b) xs [.slice p xs.length c]:=by
 obtain ⟨⟨rs,h1,h2⟩,_⟩:=hp
 have h3:GoT.O w Sr rs [.slice p rs.length c]:=h1
 rw [h2.len]
 exact rawsR (GoT.mono (GoT.toR h3) fun b hb=>.inl (.inl hb)) (h2.mono fun b hb=>hb.elim (fun hb=>.inl (.inr hb)) .inr)
theorem SH.frzG (i:Nat) (h:SH w0 w L) (hi:L[i]?=some (Ch.rowG D Sr Se xs p c fs)):SH w0 w (L.set i (Ch.grp D (fun b=>Sr b∨Se b) (fct xs [.slice p xs.length c]::fs))) :=
 h.say hi (fun hp f hf=>by
  rcases List.mem_cons.1 hf with rfl|hf
  ·exact qp7 hp
  ·exact GoT.mono (self:=f.inst) (hp.2.2 f hf) fun b hb=>hb.elim (fun hb=>.inl (.inr hb)) .inr) (fun _ h=>h) (h.elder (Ch.rowG D Sr Se xs p c fs) (ju hi))
theorem SH.gTakeD (h:SH w0 w (Ch.rowG (Fw.old w0) Sr Se xs p c fs::Ch.rowD w0 S ys p' c'::L)):SH w0 w (Ch.rowG (Fw.old w0) Sr (fun b=>Se b∨S b) xs p c (fct ys [.slice p' ys.length c']::fs)::L):=by
 have hpw:=List.pairwise_cons.1 h.apart
 have hbl:=h.below.block
 have hel:=h.elder (Ch.rowG (Fw.old w0) Sr Se xs p c fs) (jp ..)
 have up:∀ b,Se b∨Fw.old w0 b→(Se b∨S b)∨Fw.old w0 b:=fun b hb=>hb.elim (fun hb=>.inl (.inl hb)) .inr
 refine h.join (e:=Ch.rowG (Fw.old w0) Sr (fun b=>Se b∨S b) xs p c (fct ys [.slice p' ys.length c']::fs)) (fun h1 h2=>?_) (fun b hb=>by
  rcases hb with hb|hb|hb
  ·exact .inl (.inl hb)
  ·exact .inl (.inr hb)
  ·exact .inr hb) hel
 obtain ⟨⟨rs,q1,q2⟩,q3,q4⟩:=h1
 obtain ⟨r2,⟨hl,hr⟩,hp⟩:=qlv h2
 have hp':GoT.O w S r2 [.slice p' r2.length c']:=hp
 have hA:RAll w (fun b=>(Se b∨S b)∨Fw.old w0 b) ys r2:=RAll.of hl.symm (fun i x r hx hrr=>GoT.mono (GoT.loc (hr i x r hx hrr) (fun b hb=>hbl b hb)) fun b hb=>.inr hb)
 have hR:GoT.R w (fun b=>(Se b∨S b)∨Fw.old w0 b) ys [.slice p' r2.length c']:=rawsR (GoT.mono (GoT.toR hp') fun b hb=>.inl (.inr hb)) hA
 rw [hl] at hR
 refine ⟨⟨rs,q1,q2.mono up⟩,fun b hb hs=>?_,fun f hf=>?_⟩
 ·rcases hs with hs|hs
  ·exact q3 b hb hs
  ·exact hpw.1 _ (jp ..) b (.inl hb) hs
 ·rcases List.mem_cons.1 hf with rfl|hf
  ·exact hR
  ·exact GoT.mono (self:=f.inst) (q4 f hf) up
theorem qcr (hT:TabOk P T) {all:Array Oper} {l:List Oper} {d t ty el:Nat} {ps:String} {af:Array Edge} {a b:Operand} {z:List α} {ln ln':Nat} {te te':TE} {zv:Value}
  (h:SH w0 w (Ch.rowG D Sr Se xs p c fs::L)) (hs:SlR w (fun b=>Se b∨D b) ys p' c') (hl:ln=xs.length) (hl':ln'=ys.length) (hx:opv e a=some (.slice p ln c)) (hy:opv e b=some (.slice p' ln' c'))
  (hte:T.get t=some te) (hk:te.kind=.slice el) (hel:T.get el=some te') (hz:te'.zero=some zv) (hzs:(cellsL zv).length=te'.size) (hsz:te'.size=GoT.k α)
  (hb:Nat.ble te'.bytes 65536=true) (hbig:xs.length+ys.length≤big) (hz':xs++ys=z) (hn:Nat.blt d n=true)
  (hkk:∀ w' p2 c2 S2,SH w0 w' (Ch.rowG D S2 Se z p2 c2 fs::L)→Run P n Q (.ops all l::k) ((d,.slice p2 z.length c2)::e) w') :
  Run P n Q (.ops all (⟨some d,.call ⟨.builtin .append,#[a,b],#[t,t]⟩,ty,ps,af,none⟩::l)::k) e w:=by
 subst hz' hl hl'
 have hold:=h.gB (i:=0) rfl
 obtain ⟨qs,hq,hq'⟩:=qpO hs
 obtain ⟨⟨rs,hr,hR⟩,hap,hfs⟩:=(h.mem (i:=0) rfl).1
 have hpw:=List.pairwise_cons.1 h.apart
 have hs0:=(h.mem (i:=0) rfl).2
 have hD:=h.elder (Ch.rowG D Sr Se xs p c fs) (jp ..)
 let A:Nat→Prop:=fun b=>Se b∨D b
 let E:Ch:={ S:=Se,D:=D,P:=fun w=>RAll w A xs rs∧RAll w A ys qs∧∀ f ∈ fs,f.R w A,loc:=fun w w' h h' hp=>⟨RAll.loc hp.1 (fun b hb=>hb.elim (h b) (h' b)),RAll.loc hp.2.1 (fun b hb=>hb.elim (h b) (h' b)),fun f hf=>GoT.loc (self:=f.inst) (hp.2.2 f hf) (fun b hb=>hb.elim (h b) (h' b))⟩ }
 have h1:SH w0 w (Ch.own Sr rs [.slice p rs.length c]::E::L):=by
  refine ⟨h.below,fun d hd=>?_,fun d hd=>?_,?_⟩
  ·rcases List.mem_cons.1 hd with rfl|hd
   ·exact ⟨hr,fun b hb=>hs0 b (.inl hb)⟩
   rcases List.mem_cons.1 hd with rfl|hd
   ·exact ⟨⟨hR,hq,hfs⟩,fun b hb=>hs0 b (.inr hb)⟩
   ·exact h.holds d (jo _ hd)
  ·rcases List.mem_cons.1 hd with rfl|hd
   ·exact fun b hb=>hb.elim
   rcases List.mem_cons.1 hd with rfl|hd
   ·exact hD
   ·exact h.elder d (jo _ hd)
  ·refine List.pairwise_cons.2 ⟨fun d hd b hb=>?_,List.pairwise_cons.2 ⟨fun d hd b hb=>hpw.1 d hd b (.inr hb),hpw.2⟩⟩
   rcases List.mem_cons.1 hd with rfl|hd
   ·exact hap b hb
   ·exact hpw.1 d hd b (.inl hb)
 refine qm6 hT (α:=Raw α) 0 h1 rfl (hq'.mono hold) hq.len (by rw [←hR.len];exact hx) hy hte hk hel hz hzs hsz hb (by rw [←hR.len,←hq.len];exact hbig) hn (fun w' p2 c2 S2 h3=>?_)
 have h4:SH w0 w' (Ch.own S2 (rs++qs) [.slice p2 (rs.length+qs.length) c2]::E::L):=h3
 have hpw4:=List.pairwise_cons.1 h4.apart
 have h5:SH w0 w' (Ch.rowG D S2 Se (xs++ys) p2 c2 fs::L) :=
  h4.join (e:=Ch.rowG D S2 Se (xs++ys) p2 c2 fs) (fun q1 q2=>⟨⟨rs++qs,by rw [jg];exact q1,q2.1.app q2.2.1⟩,fun b hb=>hpw4.1 E (jp ..) b hb,q2.2.2⟩) (fun b hb=>hb) hD
 have h8:=hkk w' p2 c2 S2 h5
 have e1:(xs++ys).length=rs.length+qs.length:=by rw [jg,hR.len,hq.len]
 rw [e1] at h8
 exact h8
end
end Go.Fw


namespace Go.Fw
open Go Go.Proofs
open Go.RowKit (Below)
set_option maxRecDepth 100000
set_option maxHeartbeats 6400000
variable {n:Nat} {w:World} {S:Nat→Prop} {cs1 cs2 cs3 cs4 cs5 cs6 cs7 cs8 cs9:List Value}
structure qY where
 Au:ByteArray
 Bn:Int
 Bd:Int
 Bc:Bool
instance gt_TPin:GoT qY:=isoT (pairT instStr (pairT instInt (pairT instInt instBool))) (fun x=>(x.Au,x.Bn,x.Bd,x.Bc)) ⟨ByteArray.empty,0,0,false⟩ rfl true (fun h=>by cases h)
instance fl_TPin:Flat qY:=qgV (pairT instStr (pairT instInt (pairT instInt instBool))) (fun x:qY=>(x.Au,x.Bn,x.Bd,x.Bc)) ⟨ByteArray.empty,0,0,false⟩ rfl true (fun h=>by cases h) (qbA _ _ (inferInstanceAs (Flat ByteArray)) (qbA _ _ (inferInstanceAs (Flat Int)) (qbA _ _ (inferInstanceAs (Flat Int)) (inferInstanceAs (Flat Bool)))))
abbrev qly (x:qY):List Value:=[.string x.Au,.int .i64 x.Bn,.int .i64 x.Bd,.bool x.Bc]
theorem qdp {x:qY} {cs:List Value} (h:GoT.R w S x cs):cs=(qly x):=by
 obtain ⟨_,_,rfl,rfl,⟨_,_,rfl,rfl,⟨_,_,rfl,rfl,rfl⟩⟩⟩:=h
 exact rfl
theorem qif (x:qY):GoT.R w S x (qly x):=have h:=pR (rT x.Au) (pR (rI x.Bn) (pR (rI x.Bd) (rB x.Bc)));h
structure qN where
 Bf:(List Int)
 Bg:(List Int)
 Ay:(List Int)
instance gt_TTable:GoT qN:=isoT (pairT (@instList Int instInt) (pairT (@instList Int instInt) (@instList Int instInt))) (fun x=>(x.Bf,x.Bg,x.Ay)) ⟨[],[],[]⟩ rfl true (fun h=>by cases h)
abbrev qf1 (x:qN) (p0 p1 p2:Option Addr) (k0 k1 k2:Nat):List Value:=[.slice p0 (x.Bf).length k0,.slice p1 (x.Bg).length k1,.slice p2 (x.Ay).length k2]
theorem qez {x:qN} {cs:List Value} (h:GoT.R w S x cs):∃ p0 k0 p1 k1 p2 k2,cs=(qf1 x p0 p1 p2 k0 k1 k2)∧SlR w S x.Bf p0 k0∧SlR w S x.Bg p1 k1∧SlR w S x.Ay p2 k2:=by
 obtain ⟨_,_,rfl,⟨p0,k0,rfl,s0⟩,⟨_,_,rfl,⟨p1,k1,rfl,s1⟩,⟨p2,k2,rfl,s2⟩⟩⟩:=h
 exact ⟨p0,k0,p1,k1,p2,k2,rfl,s0,s1,s2⟩
theorem qlB (x:qN) {p0 p1 p2:Option Addr} {k0 k1 k2:Nat} (s0:SlR w S x.Bf p0 k0) (s1:SlR w S x.Bg p1 k1) (s2:SlR w S x.Ay p2 k2):GoT.R w S x (qf1 x p0 p1 p2 k0 k1 k2):=have h:=pR (rS s0) (pR (rS s1) (rS s2));h
theorem qok {w0:World} {L:List Ch} (x:qN) {I0 I1 I2:List Nat} {c0 c1 c2:List Value} (h:SH w0 w L) (h0:PO w L I0 x.Bf c0) (h1:PO w L I1 x.Bg c1) (h2:PO w L I2 x.Ay c2) (b0:apartB I0 (I1++I2)=true) (b1:apartB I1 I2=true):PO w L (I0++(I1++I2)) x (c0++(c1++c2)) :=
 (qbF h h0 (qbF h h1 h2 b1) b0)
structure qag where
 Ar:Int
 As:Int
 To:Int
 Bi:Int
 Bj:(List qN)
 Bp:(List qN)
instance gt_TArc:GoT qag:=isoT (pairT instInt (pairT instInt (pairT instInt (pairT instInt (pairT (@instList qN gt_TTable) (@instList qN gt_TTable)))))) (fun x=>(x.Ar,x.As,x.To,x.Bi,x.Bj,x.Bp)) ⟨0,0,0,0,[],[]⟩ rfl true (fun h=>by cases h)
abbrev qfb (x:qag) (p0 p1:Option Addr) (k0 k1:Nat):List Value:=[.int .i64 x.Ar,.int .i64 x.As,.int .i64 x.To,.int .i64 x.Bi,.slice p0 (x.Bj).length k0,.slice p1 (x.Bp).length k1]
theorem qaE {x:qag} {cs:List Value} (h:GoT.R w S x cs):∃ p0 k0 p1 k1,cs=(qfb x p0 p1 k0 k1)∧SlR w S x.Bj p0 k0∧SlR w S x.Bp p1 k1:=by
 obtain ⟨_,_,rfl,rfl,⟨_,_,rfl,rfl,⟨_,_,rfl,rfl,⟨_,_,rfl,rfl,⟨_,_,rfl,⟨p0,k0,rfl,s0⟩,⟨p1,k1,rfl,s1⟩⟩⟩⟩⟩⟩:=h
 exact ⟨p0,k0,p1,k1,rfl,s0,s1⟩
theorem qhw (x:qag) {p0 p1:Option Addr} {k0 k1:Nat} (s0:SlR w S x.Bj p0 k0) (s1:SlR w S x.Bp p1 k1):GoT.R w S x (qfb x p0 p1 k0 k1):=have h:=pR (rI x.Ar) (pR (rI x.As) (pR (rI x.To) (pR (rI x.Bi) (pR (rS s0) (rS s1)))));h
theorem qn4 {w0:World} {L:List Ch} (x:qag) {I0 I1 I2 I3 I4 I5:List Nat} {c0 c1 c2 c3 c4 c5:List Value} (h:SH w0 w L) (h0:PO w L I0 x.Ar c0) (h1:PO w L I1 x.As c1) (h2:PO w L I2 x.To c2) (h3:PO w L I3 x.Bi c3) (h4:PO w L I4 x.Bj c4) (h5:PO w L I5 x.Bp c5) (b0:apartB I0 (I1++(I2++(I3++(I4++I5))))=true) (b1:apartB I1 (I2++(I3++(I4++I5)))=true) (b2:apartB I2 (I3++(I4++I5))=true) (b3:apartB I3 (I4++I5)=true) (b4:apartB I4 I5=true):PO w L (I0++(I1++(I2++(I3++(I4++I5))))) x (c0++(c1++(c2++(c3++(c4++c5))))) :=
 (qbF h h0 (qbF h h1 (qbF h h2 (qbF h h3 (qbF h h4 h5 b4) b3) b2) b1) b0)
structure qv where
 Au:ByteArray
 Ar:Int
 Ap:(List qY)
 Aq:(List qag)
 Bb:(List Int)
 Br:Int
 Bm:Int
instance gt_TCell:GoT qv:=isoT (pairT instStr (pairT instInt (pairT (@instList qY gt_TPin) (pairT (@instList qag gt_TArc) (pairT (@instList Int instInt) (pairT instInt instInt)))))) (fun x=>(x.Au,x.Ar,x.Ap,x.Aq,x.Bb,x.Br,x.Bm)) ⟨ByteArray.empty,0,[],[],[],0,0⟩ rfl true (fun h=>by cases h)
abbrev qy (x:qv) (p0 p1 p2:Option Addr) (k0 k1 k2:Nat):List Value:=[.string x.Au,.int .i64 x.Ar,.slice p0 (x.Ap).length k0,.slice p1 (x.Aq).length k1,.slice p2 (x.Bb).length k2,.int .i64 x.Br,.int .i64 x.Bm]
theorem qQ {x:qv} {cs:List Value} (h:GoT.R w S x cs):∃ p0 k0 p1 k1 p2 k2,cs=(qy x p0 p1 p2 k0 k1 k2)∧SlR w S x.Ap p0 k0∧SlR w S x.Aq p1 k1∧SlR w S x.Bb p2 k2:=by
 obtain ⟨_,_,rfl,rfl,⟨_,_,rfl,rfl,⟨_,_,rfl,⟨p0,k0,rfl,s0⟩,⟨_,_,rfl,⟨p1,k1,rfl,s1⟩,⟨_,_,rfl,⟨p2,k2,rfl,s2⟩,⟨_,_,rfl,rfl,rfl⟩⟩⟩⟩⟩⟩:=h
 exact ⟨p0,k0,p1,k1,p2,k2,rfl,s0,s1,s2⟩
theorem qjn (x:qv) {p0 p1 p2:Option Addr} {k0 k1 k2:Nat} (s0:SlR w S x.Ap p0 k0) (s1:SlR w S x.Aq p1 k1) (s2:SlR w S x.Bb p2 k2):GoT.R w S x (qy x p0 p1 p2 k0 k1 k2):=have h:=pR (rT x.Au) (pR (rI x.Ar) (pR (rS s0) (pR (rS s1) (pR (rS s2) (pR (rI x.Br) (rI x.Bm))))));h
theorem qgC {x:qv} {p0 p1 p2:Option Addr} {l0 k0 l1 k1 l2 k2:Nat} (h:GoT.R w S x [.string x.Au,.int .i64 x.Ar,.slice p0 l0 k0,.slice p1 l1 k1,.slice p2 l2 k2,.int .i64 x.Br,.int .i64 x.Bm]):(SlR w S x.Ap p0 k0∧l0=(x.Ap).length)∧(SlR w S x.Aq p1 k1∧l1=(x.Aq).length)∧(SlR w S x.Bb p2 k2∧l2=(x.Bb).length):=by
 obtain ⟨q0,j0,q1,j1,q2,j2,he,s0,s1,s2⟩:=qQ h
 cases he
 exact ⟨⟨s0,rfl⟩,⟨s1,rfl⟩,⟨s2,rfl⟩⟩
theorem qlE {w0:World} {L:List Ch} (x:qv) {I0 I1 I2 I3 I4 I5 I6:List Nat} {c0 c1 c2 c3 c4 c5 c6:List Value} (h:SH w0 w L) (h0:PO w L I0 x.Au c0) (h1:PO w L I1 x.Ar c1) (h2:PO w L I2 x.Ap c2) (h3:PO w L I3 x.Aq c3) (h4:PO w L I4 x.Bb c4) (h5:PO w L I5 x.Br c5) (h6:PO w L I6 x.Bm c6) (b0:apartB I0 (I1++(I2++(I3++(I4++(I5++I6)))))=true) (b1:apartB I1 (I2++(I3++(I4++(I5++I6))))=true) (b2:apartB I2 (I3++(I4++(I5++I6)))=true) (b3:apartB I3 (I4++(I5++I6))=true) (b4:apartB I4 (I5++I6)=true) (b5:apartB I5 I6=true):PO w L (I0++(I1++(I2++(I3++(I4++(I5++I6)))))) x (c0++(c1++(c2++(c3++(c4++(c5++c6)))))) :=
 (qbF h h0 (qbF h h1 (qbF h h2 (qbF h h3 (qbF h h4 (qbF h h5 h6 b5) b4) b3) b2) b1) b0)
structure qq where
 Ai:(List qv)
instance gt_TLibrary:GoT qq:=isoT (@instList qv gt_TCell) (fun x=>x.Ai) ⟨[]⟩ rfl true (fun h=>by cases h)
theorem qbL {x:qq} {cs:List Value} (h:GoT.R w S x cs):∃ p0 k0,cs=[.slice p0 (x.Ai).length k0]∧SlR w S x.Ai p0 k0:=by
 obtain ⟨p0,k0,rfl,s0⟩:=h
 exact ⟨p0,k0,rfl,s0⟩
theorem qdU (x:qq) {p0:Option Addr} {k0:Nat} (s0:SlR w S x.Ai p0 k0):GoT.R w S x [.slice p0 (x.Ai).length k0]:=have h:=rS s0;h
theorem qgc {x:qq} {p0:Option Addr} {l0 k0:Nat} (h:GoT.R w S x [.slice p0 l0 k0]):(SlR w S x.Ai p0 k0∧l0=(x.Ai).length):=by
 obtain ⟨q0,j0,he,s0⟩:=qbL h
 cases he
 exact ⟨s0,rfl⟩
theorem qmJ {w0:World} {L:List Ch} (x:qq) {I0:List Nat} {c0:List Value} (_:SH w0 w L) (h0:PO w L I0 x.Ai c0):PO w L I0 x c0 :=
 h0
structure qw where
 Au:ByteArray
 Az:Int
 Aj:(List Int)
instance gt_TInstance:GoT qw:=isoT (pairT instStr (pairT instInt (@instList Int instInt))) (fun x=>(x.Au,x.Az,x.Aj)) ⟨ByteArray.empty,0,[]⟩ rfl true (fun h=>by cases h)
abbrev qgS (x:qw) (p0:Option Addr) (k0:Nat):List Value:=[.string x.Au,.int .i64 x.Az,.slice p0 (x.Aj).length k0]
theorem qax {x:qw} {cs:List Value} (h:GoT.R w S x cs):∃ p0 k0,cs=(qgS x p0 k0)∧SlR w S x.Aj p0 k0:=by
 obtain ⟨_,_,rfl,rfl,⟨_,_,rfl,rfl,⟨p0,k0,rfl,s0⟩⟩⟩:=h
 exact ⟨p0,k0,rfl,s0⟩
theorem qjB (x:qw) {p0:Option Addr} {k0:Nat} (s0:SlR w S x.Aj p0 k0):GoT.R w S x (qgS x p0 k0):=have h:=pR (rT x.Au) (pR (rI x.Az) (rS s0));h
theorem qkR {w0:World} {L:List Ch} {x:qw} {p0:Option Addr} {l0 k0:Nat} (h:SH w0 w (Ch.own S x [.string x.Au,.int .i64 x.Az,.slice p0 l0 k0]::L)):∃ S0,SH w0 w (Ch.own S0 x.Aj [.slice p0 l0 k0]::L):=by
 obtain ⟨hv,ho⟩:=h.headV
 replace ho:GoT.O w S x _:=ho
 obtain ⟨A0,B0,d0,e0,he,o0,ho,a0,b0⟩:=ho
 obtain rfl:=o0
 cases he
 replace hv:=hv.less b0
 obtain ⟨A1,B1,d1,e1,he,o1,ho,a1,b1⟩:=ho
 obtain rfl:=o1
 cases he
 replace hv:=hv.less b1
 obtain ⟨q,m,he,s0⟩:=ho
 cases he
 replace hv:=hv.push (c:=Ch.own B1 x.Aj [_]) (S2:=(fun _=>False)) ⟨_,_,rfl,s0⟩ (fun _ hd=>hd.elim) (fun b hb=>⟨hb,fun h=>h⟩) (fun _ h=>h.elim)
 exact ⟨B1,hv.sh⟩
theorem qj5 {w0:World} {L:List Ch} (x:qw) {I0 I1 I2:List Nat} {c0 c1 c2:List Value} (h:SH w0 w L) (h0:PO w L I0 x.Au c0) (h1:PO w L I1 x.Az c1) (h2:PO w L I2 x.Aj c2) (b0:apartB I0 (I1++I2)=true) (b1:apartB I1 I2=true):PO w L (I0++(I1++I2)) x (c0++(c1++c2)) :=
 (qbF h h0 (qbF h h1 h2 b1) b0)
structure qC where
 Au:ByteArray
 Bn:Int
 Bq:Int
instance gt_TPort:GoT qC:=isoT (pairT instStr (pairT instInt instInt)) (fun x=>(x.Au,x.Bn,x.Bq)) ⟨ByteArray.empty,0,0⟩ rfl true (fun h=>by cases h)
instance fl_TPort:Flat qC:=qgV (pairT instStr (pairT instInt instInt)) (fun x:qC=>(x.Au,x.Bn,x.Bq)) ⟨ByteArray.empty,0,0⟩ rfl true (fun h=>by cases h) (qbA _ _ (inferInstanceAs (Flat ByteArray)) (qbA _ _ (inferInstanceAs (Flat Int)) (inferInstanceAs (Flat Int))))
abbrev qmx (x:qC):List Value:=[.string x.Au,.int .i64 x.Bn,.int .i64 x.Bq]
theorem qc0 {x:qC} {cs:List Value} (h:GoT.R w S x cs):cs=(qmx x):=by
 obtain ⟨_,_,rfl,rfl,⟨_,_,rfl,rfl,rfl⟩⟩:=h
 exact rfl
theorem qgv (x:qC):GoT.R w S x (qmx x):=have h:=pR (rT x.Au) (pR (rI x.Bn) (rI x.Bq));h
structure qg where
 Ab:(List qw)
 Aj:(List ByteArray)
 Af:(List qC)
instance gt_TDesign:GoT qg:=isoT (pairT (@instList qw gt_TInstance) (pairT (@instList ByteArray instStr) (@instList qC gt_TPort))) (fun x=>(x.Ab,x.Aj,x.Af)) ⟨[],[],[]⟩ rfl true (fun h=>by cases h)
abbrev qaj (x:qg) (p0 p1 p2:Option Addr) (k0 k1 k2:Nat):List Value:=[.slice p0 (x.Ab).length k0,.slice p1 (x.Aj).length k1,.slice p2 (x.Af).length k2]
theorem qaz {x:qg} {cs:List Value} (h:GoT.R w S x cs):∃ p0 k0 p1 k1 p2 k2,cs=(qaj x p0 p1 p2 k0 k1 k2)∧SlR w S x.Ab p0 k0∧SlR w S x.Aj p1 k1∧SlR w S x.Af p2 k2:=by
 obtain ⟨_,_,rfl,⟨p0,k0,rfl,s0⟩,⟨_,_,rfl,⟨p1,k1,rfl,s1⟩,⟨p2,k2,rfl,s2⟩⟩⟩:=h
 exact ⟨p0,k0,p1,k1,p2,k2,rfl,s0,s1,s2⟩
theorem qaX (x:qg) {p0 p1 p2:Option Addr} {k0 k1 k2:Nat} (s0:SlR w S x.Ab p0 k0) (s1:SlR w S x.Aj p1 k1) (s2:SlR w S x.Af p2 k2):GoT.R w S x (qaj x p0 p1 p2 k0 k1 k2):=have h:=pR (rS s0) (pR (rS s1) (rS s2));h
theorem qco {x:qg} {p0 p1 p2:Option Addr} {l0 k0 l1 k1 l2 k2:Nat} (h:GoT.R w S x [.slice p0 l0 k0,.slice p1 l1 k1,.slice p2 l2 k2]):(SlR w S x.Ab p0 k0∧l0=(x.Ab).length)∧(SlR w S x.Aj p1 k1∧l1=(x.Aj).length)∧(SlR w S x.Af p2 k2∧l2=(x.Af).length):=by
 obtain ⟨q0,j0,q1,j1,q2,j2,he,s0,s1,s2⟩:=qaz h
 cases he
 exact ⟨⟨s0,rfl⟩,⟨s1,rfl⟩,⟨s2,rfl⟩⟩
theorem qlM {w0:World} {L:List Ch} {x:qg} {p0 p1 p2:Option Addr} {l0 k0 l1 k1 l2 k2:Nat} (h:SH w0 w (Ch.own S x [.slice p0 l0 k0,.slice p1 l1 k1,.slice p2 l2 k2]::L)):∃ S0 S1 S2,SH w0 w (Ch.own S2 x.Af [.slice p2 l2 k2]::Ch.own S1 x.Aj [.slice p1 l1 k1]::Ch.own S0 x.Ab [.slice p0 l0 k0]::L):=by
 obtain ⟨hv,ho⟩:=h.headV
 replace ho:GoT.O w S x _:=ho
 obtain ⟨A0,B0,d0,e0,he,o0,ho,a0,b0⟩:=ho
 obtain ⟨q,m,rfl,s0⟩:=o0
 cases he
 replace hv:=hv.push (c:=Ch.own A0 x.Ab [_]) (S2:=B0) ⟨_,_,rfl,s0⟩ (fun _ hd=>hd.elim) a0 b0
 obtain ⟨A1,B1,d1,e1,he,o1,ho,a1,b1⟩:=ho
 obtain ⟨q,m,rfl,s1⟩:=o1
 cases he
 replace hv:=hv.push (c:=Ch.own A1 x.Aj [_]) (S2:=B1) ⟨_,_,rfl,s1⟩ (fun _ hd=>hd.elim) a1 b1
 obtain ⟨q,m,he,s2⟩:=ho
 cases he
 replace hv:=hv.push (c:=Ch.own B1 x.Af [_]) (S2:=(fun _=>False)) ⟨_,_,rfl,s2⟩ (fun _ hd=>hd.elim) (fun b hb=>⟨hb,fun h=>h⟩) (fun _ h=>h.elim)
 exact ⟨A0,A1,B1,hv.sh⟩
theorem qlx {w0:World} {L:List Ch} (x:qg) {I0 I1 I2:List Nat} {c0 c1 c2:List Value} (h:SH w0 w L) (h0:PO w L I0 x.Ab c0) (h1:PO w L I1 x.Aj c1) (h2:PO w L I2 x.Af c2) (b0:apartB I0 (I1++I2)=true) (b1:apartB I1 I2=true):PO w L (I0++(I1++I2)) x (c0++(c1++c2)) :=
 (qbF h h0 (qbF h h1 h2 b1) b0)
structure qR where
 Ak:(List Int)
 Be:(List Int)
 Bd:(List Int)
 Av:(List Int)
instance gt_TWire:GoT qR:=isoT (pairT (@instList Int instInt) (pairT (@instList Int instInt) (pairT (@instList Int instInt) (@instList Int instInt)))) (fun x=>(x.Ak,x.Be,x.Bd,x.Av)) ⟨[],[],[],[]⟩ rfl true (fun h=>by cases h)
abbrev qeY (x:qR) (p0 p1 p2 p3:Option Addr) (k0 k1 k2 k3:Nat):List Value:=[.slice p0 (x.Ak).length k0,.slice p1 (x.Be).length k1,.slice p2 (x.Bd).length k2,.slice p3 (x.Av).length k3]
theorem qb1 {x:qR} {cs:List Value} (h:GoT.R w S x cs):∃ p0 k0 p1 k1 p2 k2 p3 k3,cs=(qeY x p0 p1 p2 p3 k0 k1 k2 k3)∧SlR w S x.Ak p0 k0∧SlR w S x.Be p1 k1∧SlR w S x.Bd p2 k2∧SlR w S x.Av p3 k3:=by
 obtain ⟨_,_,rfl,⟨p0,k0,rfl,s0⟩,⟨_,_,rfl,⟨p1,k1,rfl,s1⟩,⟨_,_,rfl,⟨p2,k2,rfl,s2⟩,⟨p3,k3,rfl,s3⟩⟩⟩⟩:=h
 exact ⟨p0,k0,p1,k1,p2,k2,p3,k3,rfl,s0,s1,s2,s3⟩
theorem ql2 (x:qR) {p0 p1 p2 p3:Option Addr} {k0 k1 k2 k3:Nat} (s0:SlR w S x.Ak p0 k0) (s1:SlR w S x.Be p1 k1) (s2:SlR w S x.Bd p2 k2) (s3:SlR w S x.Av p3 k3):GoT.R w S x (qeY x p0 p1 p2 p3 k0 k1 k2 k3):=have h:=pR (rS s0) (pR (rS s1) (pR (rS s2) (rS s3)));h
theorem qgW {w0:World} {L:List Ch} {x:qR} {p0 p1 p2 p3:Option Addr} {l0 k0 l1 k1 l2 k2 l3 k3:Nat} (h:SH w0 w (Ch.own S x [.slice p0 l0 k0,.slice p1 l1 k1,.slice p2 l2 k2,.slice p3 l3 k3]::L)):∃ S0 S1 S2 S3,SH w0 w (Ch.own S3 x.Av [.slice p3 l3 k3]::Ch.own S2 x.Bd [.slice p2 l2 k2]::Ch.own S1 x.Be [.slice p1 l1 k1]::Ch.own S0 x.Ak [.slice p0 l0 k0]::L):=by
 obtain ⟨hv,ho⟩:=h.headV
 replace ho:GoT.O w S x _:=ho
 obtain ⟨A0,B0,d0,e0,he,o0,ho,a0,b0⟩:=ho
 obtain ⟨q,m,rfl,s0⟩:=o0
 cases he
 replace hv:=hv.push (c:=Ch.own A0 x.Ak [_]) (S2:=B0) ⟨_,_,rfl,s0⟩ (fun _ hd=>hd.elim) a0 b0
 obtain ⟨A1,B1,d1,e1,he,o1,ho,a1,b1⟩:=ho
 obtain ⟨q,m,rfl,s1⟩:=o1
 cases he
 replace hv:=hv.push (c:=Ch.own A1 x.Be [_]) (S2:=B1) ⟨_,_,rfl,s1⟩ (fun _ hd=>hd.elim) a1 b1
 obtain ⟨A2,B2,d2,e2,he,o2,ho,a2,b2⟩:=ho
 obtain ⟨q,m,rfl,s2⟩:=o2
 cases he
 replace hv:=hv.push (c:=Ch.own A2 x.Bd [_]) (S2:=B2) ⟨_,_,rfl,s2⟩ (fun _ hd=>hd.elim) a2 b2
 obtain ⟨q,m,he,s3⟩:=ho
 cases he
 replace hv:=hv.push (c:=Ch.own B2 x.Av [_]) (S2:=(fun _=>False)) ⟨_,_,rfl,s3⟩ (fun _ hd=>hd.elim) (fun b hb=>⟨hb,fun h=>h⟩) (fun _ h=>h.elim)
 exact ⟨A0,A1,A2,B2,hv.sh⟩
theorem qia {w0:World} {L:List Ch} (x:qR) {I0 I1 I2 I3:List Nat} {c0 c1 c2 c3:List Value} (h:SH w0 w L) (h0:PO w L I0 x.Ak c0) (h1:PO w L I1 x.Be c1) (h2:PO w L I2 x.Bd c2) (h3:PO w L I3 x.Av c3) (b0:apartB I0 (I1++(I2++I3))=true) (b1:apartB I1 (I2++I3)=true) (b2:apartB I2 I3=true):PO w L (I0++(I1++(I2++I3))) x (c0++(c1++(c2++c3))) :=
 (qbF h h0 (qbF h h1 (qbF h h2 h3 b2) b1) b0)
structure qc where
 Ac:qq
 Aa:qg
 Ah:(List qR)
instance gt_TBlock:GoT qc:=isoT (pairT gt_TLibrary (pairT gt_TDesign (@instList qR gt_TWire))) (fun x=>(x.Ac,x.Aa,x.Ah)) ⟨(⟨[]⟩:qq),(⟨[],[],[]⟩:qg),[]⟩ rfl true (fun h=>by cases h)
abbrev qp (x:qc) (p0 p1 p2 p3 p4:Option Addr) (k0 k1 k2 k3 k4:Nat):List Value:=[.slice p0 (x.Ac.Ai).length k0,.slice p1 (x.Aa.Ab).length k1,.slice p2 (x.Aa.Aj).length k2,.slice p3 (x.Aa.Af).length k3,.slice p4 (x.Ah).length k4]
theorem qJ {x:qc} {cs:List Value} (h:GoT.R w S x cs):∃ p0 k0 p1 k1 p2 k2 p3 k3 p4 k4,cs=(qp x p0 p1 p2 p3 p4 k0 k1 k2 k3 k4)∧SlR w S x.Ac.Ai p0 k0∧SlR w S x.Aa.Ab p1 k1∧SlR w S x.Aa.Aj p2 k2∧SlR w S x.Aa.Af p3 k3∧SlR w S x.Ah p4 k4:=by
 obtain ⟨_,_,rfl,⟨p0,k0,rfl,s0⟩,⟨_,_,rfl,⟨_,_,rfl,⟨p1,k1,rfl,s1⟩,⟨_,_,rfl,⟨p2,k2,rfl,s2⟩,⟨p3,k3,rfl,s3⟩⟩⟩,⟨p4,k4,rfl,s4⟩⟩⟩:=h
 exact ⟨p0,k0,p1,k1,p2,k2,p3,k3,p4,k4,rfl,s0,s1,s2,s3,s4⟩
theorem qll (x:qc) {p0 p1 p2 p3 p4:Option Addr} {k0 k1 k2 k3 k4:Nat} (s0:SlR w S x.Ac.Ai p0 k0) (s1:SlR w S x.Aa.Ab p1 k1) (s2:SlR w S x.Aa.Aj p2 k2) (s3:SlR w S x.Aa.Af p3 k3) (s4:SlR w S x.Ah p4 k4):GoT.R w S x (qp x p0 p1 p2 p3 p4 k0 k1 k2 k3 k4):=have h:=pR (qdU x.Ac s0) (pR (qaX x.Aa s1 s2 s3) (rS s4));h
theorem qfU {x:qc} {p0 p1 p2 p3 p4:Option Addr} {l0 k0 l1 k1 l2 k2 l3 k3 l4 k4:Nat} (h:GoT.R w S x [.slice p0 l0 k0,.slice p1 l1 k1,.slice p2 l2 k2,.slice p3 l3 k3,.slice p4 l4 k4]):(SlR w S x.Ac.Ai p0 k0∧l0=(x.Ac.Ai).length)∧(SlR w S x.Aa.Ab p1 k1∧l1=(x.Aa.Ab).length)∧(SlR w S x.Aa.Aj p2 k2∧l2=(x.Aa.Aj).length)∧(SlR w S x.Aa.Af p3 k3∧l3=(x.Aa.Af).length)∧(SlR w S x.Ah p4 k4∧l4=(x.Ah).length):=by
 obtain ⟨q0,j0,q1,j1,q2,j2,q3,j3,q4,j4,he,s0,s1,s2,s3,s4⟩:=qJ h
 cases he
 exact ⟨⟨s0,rfl⟩,⟨s1,rfl⟩,⟨s2,rfl⟩,⟨s3,rfl⟩,⟨s4,rfl⟩⟩
theorem qfF {w0:World} {L:List Ch} {x:qc} {p0 p1 p2 p3 p4:Option Addr} {l0 k0 l1 k1 l2 k2 l3 k3 l4 k4:Nat} (h:SH w0 w (Ch.own S x [.slice p0 l0 k0,.slice p1 l1 k1,.slice p2 l2 k2,.slice p3 l3 k3,.slice p4 l4 k4]::L)):∃ S0 S1 S2,SH w0 w (Ch.own S2 x.Ah [.slice p4 l4 k4]::Ch.own S1 x.Aa [.slice p1 l1 k1,.slice p2 l2 k2,.slice p3 l3 k3]::Ch.own S0 x.Ac [.slice p0 l0 k0]::L):=by
 obtain ⟨hv,ho⟩:=h.headV
 replace ho:GoT.O w S x _:=ho
 obtain ⟨A0,B0,d0,e0,he0,o0,ho,a0,b0⟩:=ho
 have hl0:d0.length=1:=GoT.len (GoT.toR o0)
 obtain ⟨rfl,rfl⟩:d0=[.slice p0 l0 k0]∧e0=[.slice p1 l1 k1,.slice p2 l2 k2,.slice p3 l3 k3,.slice p4 l4 k4]:=by
  have:=List.append_inj (show [.slice p0 l0 k0]++[.slice p1 l1 k1,.slice p2 l2 k2,.slice p3 l3 k3,.slice p4 l4 k4]=d0++e0 from he0) (by rw [hl0];rfl)
  exact ⟨this.1.symm,this.2.symm⟩
 replace hv:=hv.push (c:=Ch.own A0 x.Ac [.slice p0 l0 k0]) (S2:=B0) o0 (fun _ hd=>hd.elim) a0 b0
 obtain ⟨A1,B1,d1,e1,he1,o1,ho,a1,b1⟩:=ho
 have hl1:d1.length=3:=GoT.len (GoT.toR o1)
 obtain ⟨rfl,rfl⟩:d1=[.slice p1 l1 k1,.slice p2 l2 k2,.slice p3 l3 k3]∧e1=[.slice p4 l4 k4]:=by
  have:=List.append_inj (show [.slice p1 l1 k1,.slice p2 l2 k2,.slice p3 l3 k3]++[.slice p4 l4 k4]=d1++e1 from he1) (by rw [hl1];rfl)
  exact ⟨this.1.symm,this.2.symm⟩
 replace hv:=hv.push (c:=Ch.own A1 x.Aa [.slice p1 l1 k1,.slice p2 l2 k2,.slice p3 l3 k3]) (S2:=B1) o1 (fun _ hd=>hd.elim) a1 b1
 replace hv:=hv.push (c:=Ch.own B1 x.Ah [.slice p4 l4 k4]) (S2:=(fun _=>False)) ho (fun _ hd=>hd.elim) (fun b hb=>⟨hb,fun h=>h⟩) (fun _ h=>h.elim)
 exact ⟨A0,A1,B1,hv.sh⟩
theorem qoq {w0:World} {L:List Ch} (x:qc) {I0 I1 I2:List Nat} {c0 c1 c2:List Value} (h:SH w0 w L) (h0:PO w L I0 x.Ac c0) (h1:PO w L I1 x.Aa c1) (h2:PO w L I2 x.Ah c2) (b0:apartB I0 (I1++I2)=true) (b1:apartB I1 I2=true):PO w L (I0++(I1++I2)) x (c0++(c1++c2)) :=
 (qbF h h0 (qbF h h1 h2 b1) b0)
structure qa where
 Ar:Int
 Ba:Int
 As:(List Int)
 Am:(List Int)
 To:(List Int)
instance gt_TException:GoT qa:=isoT (pairT instInt (pairT instInt (pairT (@instList Int instInt) (pairT (@instList Int instInt) (@instList Int instInt))))) (fun x=>(x.Ar,x.Ba,x.As,x.Am,x.To)) ⟨0,0,[],[],[]⟩ rfl true (fun h=>by cases h)
abbrev qdd (x:qa) (p0 p1 p2:Option Addr) (k0 k1 k2:Nat):List Value:=[.int .i64 x.Ar,.int .i64 x.Ba,.slice p0 (x.As).length k0,.slice p1 (x.Am).length k1,.slice p2 (x.To).length k2]
theorem qB {x:qa} {cs:List Value} (h:GoT.R w S x cs):∃ p0 k0 p1 k1 p2 k2,cs=(qdd x p0 p1 p2 k0 k1 k2)∧SlR w S x.As p0 k0∧SlR w S x.Am p1 k1∧SlR w S x.To p2 k2:=by
 obtain ⟨_,_,rfl,rfl,⟨_,_,rfl,rfl,⟨_,_,rfl,⟨p0,k0,rfl,s0⟩,⟨_,_,rfl,⟨p1,k1,rfl,s1⟩,⟨p2,k2,rfl,s2⟩⟩⟩⟩⟩:=h
 exact ⟨p0,k0,p1,k1,p2,k2,rfl,s0,s1,s2⟩
theorem qZ (x:qa) {p0 p1 p2:Option Addr} {k0 k1 k2:Nat} (s0:SlR w S x.As p0 k0) (s1:SlR w S x.Am p1 k1) (s2:SlR w S x.To p2 k2):GoT.R w S x (qdd x p0 p1 p2 k0 k1 k2):=have h:=pR (rI x.Ar) (pR (rI x.Ba) (pR (rS s0) (pR (rS s1) (rS s2))));h
theorem qhu {x:qa} {p0 p1 p2:Option Addr} {l0 k0 l1 k1 l2 k2:Nat} (h:GoT.R w S x [.int .i64 x.Ar,.int .i64 x.Ba,.slice p0 l0 k0,.slice p1 l1 k1,.slice p2 l2 k2]):(SlR w S x.As p0 k0∧l0=(x.As).length)∧(SlR w S x.Am p1 k1∧l1=(x.Am).length)∧(SlR w S x.To p2 k2∧l2=(x.To).length):=by
 obtain ⟨q0,j0,q1,j1,q2,j2,he,s0,s1,s2⟩:=qB h
 cases he
 exact ⟨⟨s0,rfl⟩,⟨s1,rfl⟩,⟨s2,rfl⟩⟩
theorem qgB {w0:World} {L:List Ch} {x:qa} {p0 p1 p2:Option Addr} {l0 k0 l1 k1 l2 k2:Nat} (h:SH w0 w (Ch.own S x [.int .i64 x.Ar,.int .i64 x.Ba,.slice p0 l0 k0,.slice p1 l1 k1,.slice p2 l2 k2]::L)):∃ S0 S1 S2,SH w0 w (Ch.own S2 x.To [.slice p2 l2 k2]::Ch.own S1 x.Am [.slice p1 l1 k1]::Ch.own S0 x.As [.slice p0 l0 k0]::L):=by
 obtain ⟨hv,ho⟩:=h.headV
 replace ho:GoT.O w S x _:=ho
 obtain ⟨A0,B0,d0,e0,he,o0,ho,a0,b0⟩:=ho
 obtain rfl:=o0
 cases he
 replace hv:=hv.less b0
 obtain ⟨A1,B1,d1,e1,he,o1,ho,a1,b1⟩:=ho
 obtain rfl:=o1
 cases he
 replace hv:=hv.less b1
 obtain ⟨A2,B2,d2,e2,he,o2,ho,a2,b2⟩:=ho
 obtain ⟨q,m,rfl,s0⟩:=o2
 cases he
 replace hv:=hv.push (c:=Ch.own A2 x.As [_]) (S2:=B2) ⟨_,_,rfl,s0⟩ (fun _ hd=>hd.elim) a2 b2
 obtain ⟨A3,B3,d3,e3,he,o3,ho,a3,b3⟩:=ho
 obtain ⟨q,m,rfl,s1⟩:=o3
 cases he
 replace hv:=hv.push (c:=Ch.own A3 x.Am [_]) (S2:=B3) ⟨_,_,rfl,s1⟩ (fun _ hd=>hd.elim) a3 b3
 obtain ⟨q,m,he,s2⟩:=ho
 cases he
 replace hv:=hv.push (c:=Ch.own B3 x.To [_]) (S2:=(fun _=>False)) ⟨_,_,rfl,s2⟩ (fun _ hd=>hd.elim) (fun b hb=>⟨hb,fun h=>h⟩) (fun _ h=>h.elim)
 exact ⟨A2,A3,B3,hv.sh⟩
theorem qea {w0:World} {L:List Ch} (x:qa) {I0 I1 I2 I3 I4:List Nat} {c0 c1 c2 c3 c4:List Value} (h:SH w0 w L) (h0:PO w L I0 x.Ar c0) (h1:PO w L I1 x.Ba c1) (h2:PO w L I2 x.As c2) (h3:PO w L I3 x.Am c3) (h4:PO w L I4 x.To c4) (b0:apartB I0 (I1++(I2++(I3++I4)))=true) (b1:apartB I1 (I2++(I3++I4))=true) (b2:apartB I2 (I3++I4)=true) (b3:apartB I3 I4=true):PO w L (I0++(I1++(I2++(I3++I4)))) x (c0++(c1++(c2++(c3++c4)))) :=
 (qbF h h0 (qbF h h1 (qbF h h2 (qbF h h3 h4 b3) b2) b1) b0)
structure qL where
 Bs:Bool
 Bo:Int
 Bl:Int
 Bk:Int
instance gt_TEffect:GoT qL:=isoT (pairT instBool (pairT instInt (pairT instInt instInt))) (fun x=>(x.Bs,x.Bo,x.Bl,x.Bk)) ⟨false,0,0,0⟩ rfl true (fun h=>by cases h)
instance fl_TEffect:Flat qL:=qgV (pairT instBool (pairT instInt (pairT instInt instInt))) (fun x:qL=>(x.Bs,x.Bo,x.Bl,x.Bk)) ⟨false,0,0,0⟩ rfl true (fun h=>by cases h) (qbA _ _ (inferInstanceAs (Flat Bool)) (qbA _ _ (inferInstanceAs (Flat Int)) (qbA _ _ (inferInstanceAs (Flat Int)) (inferInstanceAs (Flat Int)))))
abbrev qfZ (x:qL):List Value:=[.bool x.Bs,.int .i64 x.Bo,.int .i64 x.Bl,.int .i64 x.Bk]
theorem qam {x:qL} {cs:List Value} (h:GoT.R w S x cs):cs=(qfZ x):=by
 obtain ⟨_,_,rfl,rfl,⟨_,_,rfl,rfl,⟨_,_,rfl,rfl,rfl⟩⟩⟩:=h
 exact rfl
theorem qcE (x:qL):GoT.R w S x (qfZ x):=have h:=pR (rB x.Bs) (pR (rI x.Bo) (pR (rI x.Bl) (rI x.Bk)));h
structure Tl01Source where
 code:(List (IntK .u8))
 at_:Int
 seed:Int
instance gt_Tl01Source:GoT Tl01Source:=isoT (pairT (@instList (IntK .u8) (@gt_IntK .u8)) (pairT instInt instInt)) (fun x=>(x.code,x.at_,x.seed)) ⟨[],0,0⟩ rfl true (fun h=>by cases h)
abbrev qh (x:Tl01Source) (p0:Option Addr) (k0:Nat):List Value:=[.slice p0 (x.code).length k0,.int .i64 x.at_,.int .i64 x.seed]
theorem qkU {x:Tl01Source} {cs:List Value} (h:GoT.R w S x cs):∃ p0 k0,cs=(qh x p0 k0)∧SlR w S x.code p0 k0:=by
 obtain ⟨_,_,rfl,⟨p0,k0,rfl,s0⟩,⟨_,_,rfl,rfl,rfl⟩⟩:=h
 exact ⟨p0,k0,rfl,s0⟩
theorem qdv (x:Tl01Source) {p0:Option Addr} {k0:Nat} (s0:SlR w S x.code p0 k0):GoT.R w S x (qh x p0 k0):=have h:=pR (rS s0) (pR (rI x.at_) (rI x.seed));h
theorem qf {x:Tl01Source} {p0:Option Addr} {l0 k0:Nat} (h:GoT.R w S x [.slice p0 l0 k0,.int .i64 x.at_,.int .i64 x.seed]):(SlR w S x.code p0 k0∧l0=(x.code).length):=by
 obtain ⟨q0,j0,he,s0⟩:=qkU h
 cases he
 exact ⟨s0,rfl⟩
structure Tl05Place where
 instance_:Int
 pin:Int
 net:Int
 drives:Bool
instance gt_Tl05Place:GoT Tl05Place:=isoT (pairT instInt (pairT instInt (pairT instInt instBool))) (fun x=>(x.instance_,x.pin,x.net,x.drives)) ⟨0,0,0,false⟩ rfl true (fun h=>by cases h)
instance fl_Tl05Place:Flat Tl05Place:=qgV (pairT instInt (pairT instInt (pairT instInt instBool))) (fun x:Tl05Place=>(x.instance_,x.pin,x.net,x.drives)) ⟨0,0,0,false⟩ rfl true (fun h=>by cases h) (qbA _ _ (inferInstanceAs (Flat Int)) (qbA _ _ (inferInstanceAs (Flat Int)) (qbA _ _ (inferInstanceAs (Flat Int)) (inferInstanceAs (Flat Bool)))))
abbrev qgX (x:Tl05Place):List Value:=[.int .i64 x.instance_,.int .i64 x.pin,.int .i64 x.net,.bool x.drives]
theorem qbx {x:Tl05Place} {cs:List Value} (h:GoT.R w S x cs):cs=(qgX x):=by
 obtain ⟨_,_,rfl,rfl,⟨_,_,rfl,rfl,⟨_,_,rfl,rfl,rfl⟩⟩⟩:=h
 exact rfl
theorem qfG (x:Tl05Place):GoT.R w S x (qgX x):=have h:=pR (rI x.instance_) (pR (rI x.pin) (pR (rI x.net) (rB x.drives)));h
structure Tplace where
 instance_:Int
 pin:Int
 net:Int
 drives:Bool
instance gt_Tplace:GoT Tplace:=isoT (pairT instInt (pairT instInt (pairT instInt instBool))) (fun x=>(x.instance_,x.pin,x.net,x.drives)) ⟨0,0,0,false⟩ rfl true (fun h=>by cases h)
instance fl_Tplace:Flat Tplace:=qgV (pairT instInt (pairT instInt (pairT instInt instBool))) (fun x:Tplace=>(x.instance_,x.pin,x.net,x.drives)) ⟨0,0,0,false⟩ rfl true (fun h=>by cases h) (qbA _ _ (inferInstanceAs (Flat Int)) (qbA _ _ (inferInstanceAs (Flat Int)) (qbA _ _ (inferInstanceAs (Flat Int)) (inferInstanceAs (Flat Bool)))))
abbrev qiU (x:Tplace):List Value:=[.int .i64 x.instance_,.int .i64 x.pin,.int .i64 x.net,.bool x.drives]
theorem qcK {x:Tplace} {cs:List Value} (h:GoT.R w S x cs):cs=(qiU x):=by
 obtain ⟨_,_,rfl,rfl,⟨_,_,rfl,rfl,⟨_,_,rfl,rfl,rfl⟩⟩⟩:=h
 exact rfl
theorem qgu (x:Tplace):GoT.R w S x (qiU x):=have h:=pR (rI x.instance_) (pR (rI x.pin) (pR (rI x.net) (rB x.drives)));h
structure qa3 where
 As:Int
 To:Int
 Ar:Int
 Bu:Int
instance gt_TLink:GoT qa3:=isoT (pairT instInt (pairT instInt (pairT instInt instInt))) (fun x=>(x.As,x.To,x.Ar,x.Bu)) ⟨0,0,0,0⟩ rfl true (fun h=>by cases h)
instance fl_TLink:Flat qa3:=qgV (pairT instInt (pairT instInt (pairT instInt instInt))) (fun x:qa3=>(x.As,x.To,x.Ar,x.Bu)) ⟨0,0,0,0⟩ rfl true (fun h=>by cases h) (qbA _ _ (inferInstanceAs (Flat Int)) (qbA _ _ (inferInstanceAs (Flat Int)) (qbA _ _ (inferInstanceAs (Flat Int)) (inferInstanceAs (Flat Int)))))
abbrev qpv (x:qa3):List Value:=[.int .i64 x.As,.int .i64 x.To,.int .i64 x.Ar,.int .i64 x.Bu]
theorem ql9 (x:qa3):GoT.R w S x (qpv x):=have h:=pR (rI x.As) (pR (rI x.To) (pR (rI x.Ar) (rI x.Bu)));h
structure Tview where
 Bh:qc
 places:(List Tplace)
 links:(List qa3)
 loads:(List Int)
 delays:(List (List Int))
 extras:(List Int)
instance gt_Tview:GoT Tview:=isoT (pairT gt_TBlock (pairT (@instList Tplace gt_Tplace) (pairT (@instList qa3 gt_TLink) (pairT (@instList Int instInt) (pairT (@instList (List Int) (@instList Int instInt)) (@instList Int instInt)))))) (fun x=>(x.Bh,x.places,x.links,x.loads,x.delays,x.extras)) ⟨(⟨(⟨[]⟩:qq),(⟨[],[],[]⟩:qg),[]⟩:qc),[],[],[],[],[]⟩ rfl true (fun h=>by cases h)
abbrev qpQ (x:Tview) (p0 p1 p2 p3 p4 p5 p6 p7 p8 p9:Option Addr) (k0 k1 k2 k3 k4 k5 k6 k7 k8 k9:Nat):List Value:=[.slice p0 (x.Bh.Ac.Ai).length k0,.slice p1 (x.Bh.Aa.Ab).length k1,.slice p2 (x.Bh.Aa.Aj).length k2,.slice p3 (x.Bh.Aa.Af).length k3,.slice p4 (x.Bh.Ah).length k4,.slice p5 (x.places).length k5,.slice p6 (x.links).length k6,.slice p7 (x.loads).length k7,.slice p8 (x.delays).length k8,.slice p9 (x.extras).length k9]
theorem qil {x:Tview} {cs:List Value} (h:GoT.R w S x cs):∃ p0 k0 p1 k1 p2 k2 p3 k3 p4 k4 p5 k5 p6 k6 p7 k7 p8 k8 p9 k9,cs=(qpQ x p0 p1 p2 p3 p4 p5 p6 p7 p8 p9 k0 k1 k2 k3 k4 k5 k6 k7 k8 k9)∧SlR w S x.Bh.Ac.Ai p0 k0∧SlR w S x.Bh.Aa.Ab p1 k1∧SlR w S x.Bh.Aa.Aj p2 k2∧SlR w S x.Bh.Aa.Af p3 k3∧SlR w S x.Bh.Ah p4 k4∧SlR w S x.places p5 k5∧SlR w S x.links p6 k6∧SlR w S x.loads p7 k7∧SlR w S x.delays p8 k8∧SlR w S x.extras p9 k9:=by
 obtain ⟨_,_,rfl,⟨_,_,rfl,⟨p0,k0,rfl,s0⟩,⟨_,_,rfl,⟨_,_,rfl,⟨p1,k1,rfl,s1⟩,⟨_,_,rfl,⟨p2,k2,rfl,s2⟩,⟨p3,k3,rfl,s3⟩⟩⟩,⟨p4,k4,rfl,s4⟩⟩⟩,⟨_,_,rfl,⟨p5,k5,rfl,s5⟩,⟨_,_,rfl,⟨p6,k6,rfl,s6⟩,⟨_,_,rfl,⟨p7,k7,rfl,s7⟩,⟨_,_,rfl,⟨p8,k8,rfl,s8⟩,⟨p9,k9,rfl,s9⟩⟩⟩⟩⟩⟩:=h
 exact ⟨p0,k0,p1,k1,p2,k2,p3,k3,p4,k4,p5,k5,p6,k6,p7,k7,p8,k8,p9,k9,rfl,s0,s1,s2,s3,s4,s5,s6,s7,s8,s9⟩
structure qP where
 e0:Int
 e1:Int
instance gt_TA2_Int:GoT qP:=isoT (pairT instInt instInt) (fun x=>(x.e0,x.e1)) ⟨0,0⟩ rfl true (fun h=>by cases h)
instance fl_TA2_Int:Flat qP:=qgV (pairT instInt instInt) (fun x:qP=>(x.e0,x.e1)) ⟨0,0⟩ rfl true (fun h=>by cases h) (qbA _ _ (inferInstanceAs (Flat Int)) (inferInstanceAs (Flat Int)))
abbrev qlZ (x:qP):List Value:=[.int .i64 x.e0,.int .i64 x.e1]
theorem qml {x:qP} {cs:List Value} (h:GoT.R w S x cs):cs=(qlZ x):=by
 obtain ⟨_,_,rfl,rfl,rfl⟩:=h
 exact rfl
theorem qcn (x:qP):GoT.R w S x (qlZ x):=have h:=pR (rI x.e0) (rI x.e1);h
structure qg7 where
 Bt:Int
 Bv:Int
instance gt_TSpan:GoT qg7:=isoT (pairT instInt instInt) (fun x=>(x.Bt,x.Bv)) ⟨0,0⟩ rfl true (fun h=>by cases h)
instance fl_TSpan:Flat qg7:=qgV (pairT instInt instInt) (fun x:qg7=>(x.Bt,x.Bv)) ⟨0,0⟩ rfl true (fun h=>by cases h) (qbA _ _ (inferInstanceAs (Flat Int)) (inferInstanceAs (Flat Int)))
abbrev qnZ (x:qg7):List Value:=[.int .i64 x.Bt,.int .i64 x.Bv]
theorem qnO {x:qg7} {cs:List Value} (h:GoT.R w S x cs):cs=(qnZ x):=by
 obtain ⟨_,_,rfl,rfl,rfl⟩:=h
 exact rfl
theorem ql6 (x:qg7):GoT.R w S x (qnZ x):=have h:=pR (rI x.Bt) (rI x.Bv);h
def tab:Tab:=[
 (2,⟨.int .i64,1,8,some (.int .i64 0),[]⟩),
 (3,⟨.int .i64,1,8,some (.int .i64 0),[]⟩),
 (4,⟨.bool,1,1,some (.bool false),[]⟩),
 (5,⟨.int .u8,1,1,some (.int .u8 0),[]⟩),
 (9,⟨.str,1,16,some (.string ByteArray.empty),[]⟩),
 (22,⟨.slice 5,1,24,some (.slice none 0 0),[]⟩),
 (24,⟨.slice 128,1,24,some (.slice none 0 0),[]⟩),
 (26,⟨.struct,1,24,some (.agg #[.slice none 0 0]),[(0,1,some false)]⟩),
 (27,⟨.slice 111,1,24,some (.slice none 0 0),[]⟩),
 (28,⟨.slice 9,1,24,some (.slice none 0 0),[]⟩),
 (29,⟨.slice 115,1,24,some (.slice none 0 0),[]⟩),
 (31,⟨.struct,3,72,some (.agg #[.slice none 0 0,.slice none 0 0,.slice none 0 0]),[(0,1,some false),(1,1,some false),(2,1,some false)]⟩),
 (32,⟨.slice 118,1,24,some (.slice none 0 0),[]⟩),
 (34,⟨.struct,5,120,some (.agg #[.slice none 0 0,.slice none 0 0,.slice none 0 0,.slice none 0 0,.slice none 0 0]),[(0,1,some true),(1,3,some true),(4,1,some false)]⟩),
 (37,⟨.slice 2,1,24,some (.slice none 0 0),[]⟩),
 (42,⟨.slice 59,1,24,some (.slice none 0 0),[]⟩),
 (55,⟨.struct,4,32,some (.agg #[.bool false,.int .i64 0,.int .i64 0,.int .i64 0]),[(0,1,some false),(1,1,some false),(2,1,some false),(3,1,some false)]⟩),
 (59,⟨.struct,5,88,some (.agg #[.int .i64 0,.int .i64 0,.slice none 0 0,.slice none 0 0,.slice none 0 0]),[(0,1,some false),(1,1,some false),(2,1,some false),(3,1,some false),(4,1,some false)]⟩),
 (61,⟨.ptr,1,8,some (.pointer none),[]⟩),
 (65,⟨.slice 113,1,24,some (.slice none 0 0),[]⟩),
 (67,⟨.ptr,1,8,some (.pointer none),[]⟩),
 (89,⟨.slice 95,1,24,some (.slice none 0 0),[]⟩),
 (90,⟨.slice 123,1,24,some (.slice none 0 0),[]⟩),
 (91,⟨.slice 37,1,24,some (.slice none 0 0),[]⟩),
 (93,⟨.struct,10,240,some (.agg #[.slice none 0 0,.slice none 0 0,.slice none 0 0,.slice none 0 0,.slice none 0 0,.slice none 0 0,.slice none 0 0,.slice none 0 0,.slice none 0 0,.slice none 0 0]),[(0,5,some true),(5,1,some false),(6,1,some false),(7,1,some false),(8,1,some false),(9,1,some false)]⟩),
 (95,⟨.struct,4,32,some (.agg #[.int .i64 0,.int .i64 0,.int .i64 0,.bool false]),[(0,1,some false),(1,1,some false),(2,1,some false),(3,1,some false)]⟩),
 (102,⟨.slice 4,1,24,some (.slice none 0 0),[]⟩),
 (108,⟨.struct,3,40,some (.agg #[.slice none 0 0,.int .i64 0,.int .i64 0]),[(0,1,some false),(1,1,some false),(2,1,some false)]⟩),
 (111,⟨.struct,3,48,some (.agg #[.string ByteArray.empty,.int .i64 0,.slice none 0 0]),[(0,1,some false),(1,1,some false),(2,1,some false)]⟩),
 (113,⟨.struct,4,32,some (.agg #[.int .i64 0,.int .i64 0,.int .i64 0,.bool false]),[(0,1,some false),(1,1,some false),(2,1,some false),(3,1,some false)]⟩),
 (115,⟨.struct,3,32,some (.agg #[.string ByteArray.empty,.int .i64 0,.int .i64 0]),[(0,1,some false),(1,1,some false),(2,1,some false)]⟩),
 (118,⟨.struct,4,96,some (.agg #[.slice none 0 0,.slice none 0 0,.slice none 0 0,.slice none 0 0]),[(0,1,some false),(1,1,some false),(2,1,some false),(3,1,some false)]⟩),
 (123,⟨.struct,4,32,some (.agg #[.int .i64 0,.int .i64 0,.int .i64 0,.int .i64 0]),[(0,1,some false),(1,1,some false),(2,1,some false),(3,1,some false)]⟩),
 (125,⟨.slice 171,1,24,some (.slice none 0 0),[]⟩),
 (126,⟨.slice 133,1,24,some (.slice none 0 0),[]⟩),
 (128,⟨.struct,7,112,some (.agg #[.string ByteArray.empty,.int .i64 0,.slice none 0 0,.slice none 0 0,.slice none 0 0,.int .i64 0,.int .i64 0]),[(0,1,some false),(1,1,some false),(2,1,some false),(3,1,some false),(4,1,some false),(5,1,some false),(6,1,some false)]⟩),
 (131,⟨.slice 209,1,24,some (.slice none 0 0),[]⟩),
 (133,⟨.struct,6,80,some (.agg #[.int .i64 0,.int .i64 0,.int .i64 0,.int .i64 0,.slice none 0 0,.slice none 0 0]),[(0,1,some false),(1,1,some false),(2,1,some false),(3,1,some false),(4,1,some false),(5,1,some false)]⟩),
 (152,⟨.slice 3,1,24,some (.slice none 0 0),[]⟩),
 (166,⟨.slice 168,1,24,some (.slice none 0 0),[]⟩),
 (168,⟨.arr 2 2,2,16,some (.agg #[.int .i64 0,.int .i64 0]),[]⟩),
 (171,⟨.struct,4,40,some (.agg #[.string ByteArray.empty,.int .i64 0,.int .i64 0,.bool false]),[(0,1,some false),(1,1,some false),(2,1,some false),(3,1,some false)]⟩),
 (194,⟨.int .u64,1,8,some (.int .u64 0),[]⟩),
 (205,⟨.struct,2,16,some (.agg #[.int .i64 0,.int .i64 0]),[(0,1,some false),(1,1,some false)]⟩),
 (209,⟨.struct,3,72,some (.agg #[.slice none 0 0,.slice none 0 0,.slice none 0 0]),[(0,1,some false),(1,1,some false),(2,1,some false)]⟩)]
theorem qb:TabOk Tryz.prog tab:=TabOk.mk (by kernel_rfl)
theorem rp {n:Nat} {Q:Exit→Act→World→Prop} {k:List It} {e:Env} {w:World} {all:Array Oper} {l:List Oper} {op:Op} {d t:Nat} {ps:String} {af:Array Edge} {v:Value}
  (h:pev tab e op=some v) (hn:Nat.blt d n=true) (hk:Run Tryz.prog n Q (.ops all l::k) ((d,v)::e) w):Run Tryz.prog n Q (.ops all (⟨some d,op,t,ps,af,none⟩::l)::k) e w:=r_p qb h hn hk
theorem dp {n:Nat} {Q:Exit→Act→World→Prop} {k:List It} {e:Env} {w:World} {all:Array Oper} {l:List Oper} {op:Op} {d t:Nat} {ps:String} {af:Array Edge} {v:Value}
  (h:pev tab e op=some v) (hn:Nat.blt d n=true) (hk:RunD Tryz.prog n Q k all w l ((d,v)::e)):RunD Tryz.prog n Q k all w (⟨some d,op,t,ps,af,none⟩::l) e:=d_p qb h hn hk
section
variable {P:Program} {n:Nat} {Q:Exit→Act→World→Prop} {k:List It} {e:Env} {w:World}
theorem zSR {i4:Nat} {o5:List Oper} {x3:Code} (h:Run P n Q (.ops o5.toArray o5::.code x3::k) e w):Run P n Q (.code (.seq (.region i4 o5.toArray false) x3)::k) e w:=qfd <| qh4 h
theorem zKSR {i5:Nat} {o6:List Oper} {x4:Code} (h:Run P n Q (.ops o6.toArray o6::.code x4::k) e w):Run P n Q (.code .skip::.code (.seq (.region i5 o6.toArray false) x4)::k) e w:=qdy <| qfd <| qh4 h
theorem zNSR {a1:Array Oper} {i5:Nat} {o6:List Oper} {x4:Code} (h:Run P n Q (.ops o6.toArray o6::.code x4::k) e w):Run P n Q (.ops a1 []::.code (.seq (.region i5 o6.toArray false) x4)::k) e w:=qaW <| qfd <| qh4 h
theorem zKS {x3:Code} {x4:Code} (h:Run P n Q (.code x3::.code x4::k) e w):Run P n Q (.code .skip::.code (.seq x3 x4)::k) e w:=qdy <| qfd h
theorem zNS {a1:Array Oper} {x3:Code} {x4:Code} (h:Run P n Q (.code x3::.code x4::k) e w):Run P n Q (.ops a1 []::.code (.seq x3 x4)::k) e w:=qaW <| qfd h
theorem zNSS {a1:Array Oper} {x5:Code} {x6:Code} {x4:Code} (h:Run P n Q (.code x5::.code x6::.code x4::k) e w):Run P n Q (.ops a1 []::.code (.seq (.seq x5 x6) x4)::k) e w:=qaW <| qfd <| qfd h
theorem zKSB {i5:Nat} {x6:Code} {x4:Code} (h:Run P n Q (.code x6::.blk i5::.code x4::k) e w):Run P n Q (.code .skip::.code (.seq (.block i5 x6) x4)::k) e w:=qdy <| qfd <| qu h
theorem zKSBSR {i5:Nat} {i9:Nat} {o10:List Oper} {x8:Code} {x4:Code} (h:Run P n Q (.ops o10.toArray o10::.code x8::.blk i5::.code x4::k) e w):Run P n Q (.code .skip::.code (.seq (.block i5 (.seq (.region i9 o10.toArray false) x8)) x4)::k) e w:=qdy <| qfd <| qu <| qfd <| qh4 h
theorem zSS {x4:Code} {x5:Code} {x3:Code} (h:Run P n Q (.code x4::.code x5::.code x3::k) e w):Run P n Q (.code (.seq (.seq x4 x5) x3)::k) e w:=qfd <| qfd h
theorem zKSS {x5:Code} {x6:Code} {x4:Code} (h:Run P n Q (.code x5::.code x6::.code x4::k) e w):Run P n Q (.code .skip::.code (.seq (.seq x5 x6) x4)::k) e w:=qdy <| qfd <| qfd h
end
section
variable {w0 w:World} {L:List Ch} {n:Nat} {Q:Exit→Act→World→Prop} {k k':List It} {e e':Env} {all:Array Oper} {l l':List Oper} {z:List Nat}
theorem X0 (m:Nat) (hh:xs tab n m [] k e [] []=some (k',e',z,z)) (hk:Run Tryz.prog n Q k' e' w):Run Tryz.prog n Q k e w:=((qmI (P:=Tryz.prog) (Q:=Q) (w:=w) qb m _ _ _ _ _ _ _ _ _ (fun _ h=>by cases h) rfl hh).2 rfl).2 hk
theorem Y0 (m:Nat) (hh:xd tab n all m [] l e [] []=some (l',e',z,z)) (hk:RunD Tryz.prog n Q k all w l' e'):RunD Tryz.prog n Q k all w l e:=((qpX (P:=Tryz.prog) (Q:=Q) (k:=k) (w:=w) (all:=all) qb m _ _ _ _ _ _ _ _ _ (fun _ h=>by cases h) rfl hh).2 rfl).2 hk
theorem X1 (m:Nat) (i0:Nat) {b0 t0:Nat} {cs0:List Value} (h:SH w0 w L) (hh:(L[i0]?,xs tab n m [(b0,cs0)] k e [] [])=(some (Ch.box b0 cs0 t0),some (k',e',z,z))) (hk:Run Tryz.prog n Q k' e' w):Run Tryz.prog n Q k e w:=by
 simp only [Prod.mk.injEq] at hh
 exact ((qmI (P:=Tryz.prog) (Q:=Q) (w:=w) qb m _ _ _ _ _ _ _ _ _ (fun p hp=>by
  simp only [jI,jz,or_false] at hp
  rcases hp with rfl
  ·exact h.box i0 hh.1) rfl hh.2).2 rfl).2 hk
theorem Y1 (m:Nat) (i0:Nat) {b0 t0:Nat} {cs0:List Value} (h:SH w0 w L) (hh:(L[i0]?,xd tab n all m [(b0,cs0)] l e [] [])=(some (Ch.box b0 cs0 t0),some (l',e',z,z))) (hk:RunD Tryz.prog n Q k all w l' e'):RunD Tryz.prog n Q k all w l e:=by
 simp only [Prod.mk.injEq] at hh
 exact ((qpX (P:=Tryz.prog) (Q:=Q) (k:=k) (w:=w) (all:=all) qb m _ _ _ _ _ _ _ _ _ (fun p hp=>by
  simp only [jI,jz,or_false] at hp
  rcases hp with rfl
  ·exact h.box i0 hh.1) rfl hh.2).2 rfl).2 hk
theorem X2 (m:Nat) (i0 i1:Nat) {b0 t0:Nat} {cs0:List Value} {b1 t1:Nat} {cs1:List Value} (h:SH w0 w L) (hh:(L[i0]?,L[i1]?,xs tab n m [(b0,cs0),(b1,cs1)] k e [] [])=(some (Ch.box b0 cs0 t0),some (Ch.box b1 cs1 t1),some (k',e',z,z))) (hk:Run Tryz.prog n Q k' e' w):Run Tryz.prog n Q k e w:=by
 simp only [Prod.mk.injEq] at hh
 exact ((qmI (P:=Tryz.prog) (Q:=Q) (w:=w) qb m _ _ _ _ _ _ _ _ _ (fun p hp=>by
  simp only [jI,jz,or_false] at hp
  rcases hp with rfl|rfl
  ·exact h.box i0 hh.1
  ·exact h.box i1 hh.2.1) rfl hh.2.2).2 rfl).2 hk
theorem X3 (m:Nat) (i0 i1 i2:Nat) {b0 t0:Nat} {cs0:List Value} {b1 t1:Nat} {cs1:List Value} {b2 t2:Nat} {cs2:List Value} (h:SH w0 w L) (hh:(L[i0]?,L[i1]?,L[i2]?,xs tab n m [(b0,cs0),(b1,cs1),(b2,cs2)] k e [] [])=(some (Ch.box b0 cs0 t0),some (Ch.box b1 cs1 t1),some (Ch.box b2 cs2 t2),some (k',e',z,z))) (hk:Run Tryz.prog n Q k' e' w):Run Tryz.prog n Q k e w:=by
 simp only [Prod.mk.injEq] at hh
 exact ((qmI (P:=Tryz.prog) (Q:=Q) (w:=w) qb m _ _ _ _ _ _ _ _ _ (fun p hp=>by
  simp only [jI,jz,or_false] at hp
  rcases hp with rfl|rfl|rfl
  ·exact h.box i0 hh.1
  ·exact h.box i1 hh.2.1
  ·exact h.box i2 hh.2.2.1) rfl hh.2.2.2).2 rfl).2 hk
theorem X5 (m:Nat) (i0 i1 i2 i3 i4:Nat) {b0 t0:Nat} {cs0:List Value} {b1 t1:Nat} {cs1:List Value} {b2 t2:Nat} {cs2:List Value} {b3 t3:Nat} {cs3:List Value} {b4 t4:Nat} {cs4:List Value} (h:SH w0 w L) (hh:(L[i0]?,L[i1]?,L[i2]?,L[i3]?,L[i4]?,xs tab n m [(b0,cs0),(b1,cs1),(b2,cs2),(b3,cs3),(b4,cs4)] k e [] [])=(some (Ch.box b0 cs0 t0),some (Ch.box b1 cs1 t1),some (Ch.box b2 cs2 t2),some (Ch.box b3 cs3 t3),some (Ch.box b4 cs4 t4),some (k',e',z,z))) (hk:Run Tryz.prog n Q k' e' w):Run Tryz.prog n Q k e w:=by
 simp only [Prod.mk.injEq] at hh
 exact ((qmI (P:=Tryz.prog) (Q:=Q) (w:=w) qb m _ _ _ _ _ _ _ _ _ (fun p hp=>by
  simp only [jI,jz,or_false] at hp
  rcases hp with rfl|rfl|rfl|rfl|rfl
  ·exact h.box i0 hh.1
  ·exact h.box i1 hh.2.1
  ·exact h.box i2 hh.2.2.1
  ·exact h.box i3 hh.2.2.2.1
  ·exact h.box i4 hh.2.2.2.2.1) rfl hh.2.2.2.2.2).2 rfl).2 hk
end
section
variable {w0 w:World} {L:List Ch} {n:Nat} {Q:Exit→Act→World→Prop} {k:List It} {e:Env} {all:Array Oper} {l:List Oper}
theorem zp1 {op0:Op} {d0 t0:Nat} {s0:String} {f0:Array Edge} {v0:Value} (h:(pev tab (e) op0,Nat.blt d0 n)=(some v0,true)) (hk:Run Tryz.prog n Q (.ops all l::k) ((d0,v0)::e) w):Run Tryz.prog n Q (.ops all (⟨some d0,op0,t0,s0,f0,none⟩::l)::k) e w:=by
 have H:=h
 simp only [Prod.mk.injEq] at H
 exact rp (H.1) (H.2) (hk)
theorem zd1 {op0:Op} {d0 t0:Nat} {s0:String} {f0:Array Edge} {v0:Value} (h:(pev tab (e) op0,Nat.blt d0 n)=(some v0,true)) (hk:RunD Tryz.prog n Q k all w l ((d0,v0)::e)):RunD Tryz.prog n Q k all w (⟨some d0,op0,t0,s0,f0,none⟩::l) e:=by
 have H:=h
 simp only [Prod.mk.injEq] at H
 exact dp (H.1) (H.2) (hk)
theorem zp2 {op0:Op} {d0 t0:Nat} {s0:String} {f0:Array Edge} {v0:Value} {op1:Op} {d1 t1:Nat} {s1:String} {f1:Array Edge} {v1:Value} (h:(pev tab (e) op0,Nat.blt d0 n,pev tab ((d0,v0)::e) op1,Nat.blt d1 n)=(some v0,true,some v1,true)) (hk:Run Tryz.prog n Q (.ops all l::k) ((d1,v1)::(d0,v0)::e) w):Run Tryz.prog n Q (.ops all (⟨some d0,op0,t0,s0,f0,none⟩::⟨some d1,op1,t1,s1,f1,none⟩::l)::k) e w:=by
 have H:=h
 simp only [Prod.mk.injEq] at H
 exact rp (H.1) (H.2.1) (rp (H.2.2.1) (H.2.2.2) (hk))
theorem zd2 {op0:Op} {d0 t0:Nat} {s0:String} {f0:Array Edge} {v0:Value} {op1:Op} {d1 t1:Nat} {s1:String} {f1:Array Edge} {v1:Value} (h:(pev tab (e) op0,Nat.blt d0 n,pev tab ((d0,v0)::e) op1,Nat.blt d1 n)=(some v0,true,some v1,true)) (hk:RunD Tryz.prog n Q k all w l ((d1,v1)::(d0,v0)::e)):RunD Tryz.prog n Q k all w (⟨some d0,op0,t0,s0,f0,none⟩::⟨some d1,op1,t1,s1,f1,none⟩::l) e:=by
 have H:=h
 simp only [Prod.mk.injEq] at H
 exact dp (H.1) (H.2.1) (dp (H.2.2.1) (H.2.2.2) (hk))
theorem zp3 {op0:Op} {d0 t0:Nat} {s0:String} {f0:Array Edge} {v0:Value} {op1:Op} {d1 t1:Nat} {s1:String} {f1:Array Edge} {v1:Value} {op2:Op} {d2 t2:Nat} {s2:String} {f2:Array Edge} {v2:Value} (h:(pev tab (e) op0,Nat.blt d0 n,pev tab ((d0,v0)::e) op1,Nat.blt d1 n,pev tab ((d1,v1)::(d0,v0)::e) op2,Nat.blt d2 n)=(some v0,true,some v1,true,some v2,true)) (hk:Run Tryz.prog n Q (.ops all l::k) ((d2,v2)::(d1,v1)::(d0,v0)::e) w):Run Tryz.prog n Q (.ops all (⟨some d0,op0,t0,s0,f0,none⟩::⟨some d1,op1,t1,s1,f1,none⟩::⟨some d2,op2,t2,s2,f2,none⟩::l)::k) e w:=by
 have H:=h
 simp only [Prod.mk.injEq] at H
 exact rp (H.1) (H.2.1) (rp (H.2.2.1) (H.2.2.2.1) (rp (H.2.2.2.2.1) (H.2.2.2.2.2) (hk)))
theorem zd3 {op0:Op} {d0 t0:Nat} {s0:String} {f0:Array Edge} {v0:Value} {op1:Op} {d1 t1:Nat} {s1:String} {f1:Array Edge} {v1:Value} {op2:Op} {d2 t2:Nat} {s2:String} {f2:Array Edge} {v2:Value} (h:(pev tab (e) op0,Nat.blt d0 n,pev tab ((d0,v0)::e) op1,Nat.blt d1 n,pev tab ((d1,v1)::(d0,v0)::e) op2,Nat.blt d2 n)=(some v0,true,some v1,true,some v2,true)) (hk:RunD Tryz.prog n Q k all w l ((d2,v2)::(d1,v1)::(d0,v0)::e)):RunD Tryz.prog n Q k all w (⟨some d0,op0,t0,s0,f0,none⟩::⟨some d1,op1,t1,s1,f1,none⟩::⟨some d2,op2,t2,s2,f2,none⟩::l) e:=by
 have H:=h
 simp only [Prod.mk.injEq] at H
 exact dp (H.1) (H.2.1) (dp (H.2.2.1) (H.2.2.2.1) (dp (H.2.2.2.2.1) (H.2.2.2.2.2) (hk)))
theorem zp4 {op0:Op} {d0 t0:Nat} {s0:String} {f0:Array Edge} {v0:Value} {op1:Op} {d1 t1:Nat} {s1:String} {f1:Array Edge} {v1:Value} {op2:Op} {d2 t2:Nat} {s2:String} {f2:Array Edge} {v2:Value} {op3:Op} {d3 t3:Nat} {s3:String} {f3:Array Edge} {v3:Value} (h:(pev tab (e) op0,Nat.blt d0 n,pev tab ((d0,v0)::e) op1,Nat.blt d1 n,pev tab ((d1,v1)::(d0,v0)::e) op2,Nat.blt d2 n,pev tab ((d2,v2)::(d1,v1)::(d0,v0)::e) op3,Nat.blt d3 n)=(some v0,true,some v1,true,some v2,true,some v3,true)) (hk:Run Tryz.prog n Q (.ops all l::k) ((d3,v3)::(d2,v2)::(d1,v1)::(d0,v0)::e) w):Run Tryz.prog n Q (.ops all (⟨some d0,op0,t0,s0,f0,none⟩::⟨some d1,op1,t1,s1,f1,none⟩::⟨some d2,op2,t2,s2,f2,none⟩::⟨some d3,op3,t3,s3,f3,none⟩::l)::k) e w:=by
 have H:=h
 simp only [Prod.mk.injEq] at H
 exact rp (H.1) (H.2.1) (rp (H.2.2.1) (H.2.2.2.1) (rp (H.2.2.2.2.1) (H.2.2.2.2.2.1) (rp (H.2.2.2.2.2.2.1) (H.2.2.2.2.2.2.2) (hk))))
theorem zp5 {op0:Op} {d0 t0:Nat} {s0:String} {f0:Array Edge} {v0:Value} {op1:Op} {d1 t1:Nat} {s1:String} {f1:Array Edge} {v1:Value} {op2:Op} {d2 t2:Nat} {s2:String} {f2:Array Edge} {v2:Value} {op3:Op} {d3 t3:Nat} {s3:String} {f3:Array Edge} {v3:Value} {op4:Op} {d4 t4:Nat} {s4:String} {f4:Array Edge} {v4:Value} (h:(pev tab (e) op0,Nat.blt d0 n,pev tab ((d0,v0)::e) op1,Nat.blt d1 n,pev tab ((d1,v1)::(d0,v0)::e) op2,Nat.blt d2 n,pev tab ((d2,v2)::(d1,v1)::(d0,v0)::e) op3,Nat.blt d3 n,pev tab ((d3,v3)::(d2,v2)::(d1,v1)::(d0,v0)::e) op4,Nat.blt d4 n)=(some v0,true,some v1,true,some v2,true,some v3,true,some v4,true)) (hk:Run Tryz.prog n Q (.ops all l::k) ((d4,v4)::(d3,v3)::(d2,v2)::(d1,v1)::(d0,v0)::e) w):Run Tryz.prog n Q (.ops all (⟨some d0,op0,t0,s0,f0,none⟩::⟨some d1,op1,t1,s1,f1,none⟩::⟨some d2,op2,t2,s2,f2,none⟩::⟨some d3,op3,t3,s3,f3,none⟩::⟨some d4,op4,t4,s4,f4,none⟩::l)::k) e w:=by
 have H:=h
 simp only [Prod.mk.injEq] at H
 exact rp (H.1) (H.2.1) (rp (H.2.2.1) (H.2.2.2.1) (rp (H.2.2.2.2.1) (H.2.2.2.2.2.1) (rp (H.2.2.2.2.2.2.1) (H.2.2.2.2.2.2.2.1) (rp (H.2.2.2.2.2.2.2.2.1) (H.2.2.2.2.2.2.2.2.2) (hk)))))
theorem zl (i j:Nat) {d t ty:Nat} {x:Operand} {te:TE} {ps:String} {af:Array Edge} {v:Value} {b:Nat} {cs:List Value} {t':TypeId} (h:SH w0 w L) (hh:(L[i]?,opv e x,tab.get t,ld te cs j,Nat.blt d n)=(some (Ch.box b cs t'),some (.pointer (some ⟨b,0+j,none⟩)),some te,some v,true))
  (hk:Run Tryz.prog n Q (.ops all l::k) ((d,v)::e) w):Run Tryz.prog n Q (.ops all (⟨some d,.load t x,ty,ps,af,none⟩::l)::k) e w:=by
 simp only [Prod.mk.injEq] at hh
 exact r_v (qe2 qb (h.box i hh.1) (j:=j) hh.2.1 hh.2.2.1 hh.2.2.2.1) hh.2.2.2.2 hk
theorem zc (j:Nat) {d t ty:Nat} {x:Operand} {te:TE} {ps:String} {af:Array Edge} {v:Value} {b o:Nat} {cs:List Value} (h:CellsAt w b o cs) (hh:(opv e x,tab.get t,ld te cs j,Nat.blt d n)=(some (.pointer (some ⟨b,o+j,none⟩)),some te,some v,true))
  (hk:Run Tryz.prog n Q (.ops all l::k) ((d,v)::e) w):Run Tryz.prog n Q (.ops all (⟨some d,.load t x,ty,ps,af,none⟩::l)::k) e w:=by
 simp only [Prod.mk.injEq] at hh
 exact r_v (qe2 qb h (j:=j) hh.1 hh.2.1 hh.2.2.1) hh.2.2.2 hk
theorem zdc (j:Nat) {d t ty:Nat} {x:Operand} {te:TE} {ps:String} {af:Array Edge} {v:Value} {b o:Nat} {cs:List Value} (h:CellsAt w b o cs) (hh:(opv e x,tab.get t,ld te cs j,Nat.blt d n)=(some (.pointer (some ⟨b,o+j,none⟩)),some te,some v,true))
  (hk:RunD Tryz.prog n Q k all w l ((d,v)::e)):RunD Tryz.prog n Q k all w (⟨some d,.load t x,ty,ps,af,none⟩::l) e:=by
 simp only [Prod.mk.injEq] at hh
 exact d_v (fun _ hb=>qe2 qb (h.below hb) (j:=j) hh.1 hh.2.1 hh.2.2.1) hh.2.2.2 hk
theorem zx {x i:Operand} {t ty d el m:Nat} {te te1:TE} {ps:String} {af:Array Edge} {p:Option Addr} {ln c:Nat} {kd:IntKind} {iv:Int} {b o q:Nat} (hp:p=some ⟨b,o,none⟩) (hq:q=o+iv.toNat*m) (hlt:0≤iv∧iv<ln) (hh:(opv e x,opv e i,tab.get t,te.kind,tab.get el,te1.size,Nat.blt d n)=(some (.slice p ln c),some (.int kd iv),some te,TK.slice el,some te1,m,true)) (hk:Run Tryz.prog n Q (.ops all l::k) ((d,.pointer (some ⟨b,q,none⟩))::e) w):Run Tryz.prog n Q (.ops all (⟨some d,.indexAddr t x i,ty,ps,af,none⟩::l)::k) e w:=by
 simp only [Prod.mk.injEq] at hh
 exact r_v (qnd qb hp hq hlt hh.1 hh.2.1 hh.2.2.1 hh.2.2.2.1 hh.2.2.2.2.1 hh.2.2.2.2.2.1) hh.2.2.2.2.2.2 hk
theorem zxe {x i:Operand} {t ty d el m:Nat} {te te1:TE} {ps:String} {af:Array Edge} {p:Option Addr} {ln c:Nat} {kd:IntKind} {iv:Int} {b o q:Nat} {α:Prop} (hp:p=some ⟨b,o,none⟩) (hq:q=o+iv.toNat*m) (hlt:0≤iv∧iv<ln∧α) (hh:(opv e x,opv e i,tab.get t,te.kind,tab.get el,te1.size,Nat.blt d n)=(some (.slice p ln c),some (.int kd iv),some te,TK.slice el,some te1,m,true)) (hk:Run Tryz.prog n Q (.ops all l::k) ((d,.pointer (some ⟨b,q,none⟩))::e) w):Run Tryz.prog n Q (.ops all (⟨some d,.indexAddr t x i,ty,ps,af,none⟩::l)::k) e w:=zx hp hq ⟨hlt.1,hlt.2.1⟩ hh hk
theorem zdx {x i:Operand} {t ty d el m:Nat} {te te1:TE} {ps:String} {af:Array Edge} {p:Option Addr} {ln c:Nat} {kd:IntKind} {iv:Int} {b o q:Nat} (hp:p=some ⟨b,o,none⟩) (hq:q=o+iv.toNat*m) (hlt:0≤iv∧iv<ln) (hh:(opv e x,opv e i,tab.get t,te.kind,tab.get el,te1.size,Nat.blt d n)=(some (.slice p ln c),some (.int kd iv),some te,TK.slice el,some te1,m,true)) (hk:RunD Tryz.prog n Q k all w l ((d,.pointer (some ⟨b,q,none⟩))::e)):RunD Tryz.prog n Q k all w (⟨some d,.indexAddr t x i,ty,ps,af,none⟩::l) e:=by
 simp only [Prod.mk.injEq] at hh
 exact d_v (fun _ _=>qnd qb hp hq hlt hh.1 hh.2.1 hh.2.2.1 hh.2.2.2.1 hh.2.2.2.2.1 hh.2.2.2.2.2.1) hh.2.2.2.2.2.2 hk
theorem zdxe {x i:Operand} {t ty d el m:Nat} {te te1:TE} {ps:String} {af:Array Edge} {p:Option Addr} {ln c:Nat} {kd:IntKind} {iv:Int} {b o q:Nat} {α:Prop} (hp:p=some ⟨b,o,none⟩) (hq:q=o+iv.toNat*m) (hlt:0≤iv∧iv<ln∧α) (hh:(opv e x,opv e i,tab.get t,te.kind,tab.get el,te1.size,Nat.blt d n)=(some (.slice p ln c),some (.int kd iv),some te,TK.slice el,some te1,m,true)) (hk:RunD Tryz.prog n Q k all w l ((d,.pointer (some ⟨b,q,none⟩))::e)):RunD Tryz.prog n Q k all w (⟨some d,.indexAddr t x i,ty,ps,af,none⟩::l) e:=zdx hp hq ⟨hlt.1,hlt.2.1⟩ hh hk
theorem zs (i:Nat) {t ty:Nat} {ps:String} {af:Array Edge} {x v:Operand} {te:TE} {b j:Nat} {cs us cs':List Value} {t':TypeId} {u:Value} {L':List Ch} (h:SH w0 w L)
  (hh:(L[i]?,opv e x,opv e v,cellsL u,tab.get t,Nat.beq us.length te.size,Nat.ble (j+us.length) cs.length,ones us,splN cs j us,setN L i (Ch.box b cs' t'))=(some (Ch.box b cs t'),some (.pointer (some ⟨b,j,none⟩)),some u,us,some te,true,true,true,some cs',some L'))
  (hk:∀ w',SH w0 w' L'→Run Tryz.prog n Q (.ops all l::k) e w'):Run Tryz.prog n Q (.ops all (⟨none,.store t x v,ty,ps,af,none⟩::l)::k) e w:=by
 simp only [Prod.mk.injEq] at hh
 obtain ⟨h1,h2,h3,h4,h5,h6,h7,h8,h9,h10⟩:=hh
 subst h4
 have e1:=qmz h9
 have e2:=qn6 h10
 subst e1 e2
 exact qpM qb i h h1 h2 h3 h5 h6 h7 h8 hk
end
section
variable {P:Program} {fnc:Func} {R:Ending→World→Prop} {n:Nat} {k:List It} {e:Env} {w0 w:World} {ops:Array Oper} {st:List Nat} {fuel:Nat}
theorem M0 (K:Nat) (is:List Nat) {C:World→Prop} {m K0 f f':Nat} {e':Env} {z:List Nat} (hC:C w) (hh:xa tab n ops is [] f e [] []=some (f',e',z,z))
  (hk:RunA Tryz.prog n (bodyPost Tryz.prog fnc R) k ops st C f' (bits m K) e' w) (ho:oka ops st is (bits m K0) (bits m K)=true:=by kernel_rfl):RunA Tryz.prog n (bodyPost Tryz.prog fnc R) k ops st C f (bits m K0) e w:=by
 exact ((qm0 (C:=C) (w:=w) (P:=Tryz.prog) qb hC is _ _ _ _ _ _ _ _ _ _ _ (fun _ h=>by cases h) rfl hh ho).2 rfl).2 hk
theorem G0 (K:Nat) (is:List Nat) {C:World→Prop} {m K0 f f':Nat} {e':Env} {z:List Nat} {all:Array Oper} (hC:C w) (hh:xa tab n ops is [] f e [] []=some (f',e',z,z))
  (hk:RunA Tryz.prog n (bodyPost Tryz.prog fnc R) k ops st C f' (bits m K) e' w) (ho:oka ops st is (bits m K0) (bits m K)=true:=by kernel_rfl):Run Tryz.prog n (bodyPost Tryz.prog fnc R) (.ops all []::.goal (NextA Tryz.prog n (bodyPost Tryz.prog fnc R) k ops st C f (bits m K0))::k) e w :=
 Ag hC (M0 K is (C:=C) hC hh hk ho)
theorem M1 (K:Nat) (is:List Nat) (i0:Nat) {b0 t0:Nat} {cs0:List Value} {LA:List Ch} {m K0 f f':Nat} {e':Env} {z:List Nat} (hC:SH w0 w LA) (hh:(LA[i0]?,xa tab n ops is [(b0,cs0)] f e [] [])=(some (Ch.box b0 cs0 t0),some (f',e',z,z)))
  (hk:RunA Tryz.prog n (bodyPost Tryz.prog fnc R) k ops st (fun w'=>SH w0 w' LA) f' (bits m K) e' w) (ho:oka ops st is (bits m K0) (bits m K)=true:=by kernel_rfl):RunA Tryz.prog n (bodyPost Tryz.prog fnc R) k ops st (fun w'=>SH w0 w' LA) f (bits m K0) e w:=by
 simp only [Prod.mk.injEq] at hh
 exact ((qm0 (C:=(fun w'=>SH w0 w' LA)) (w:=w) (P:=Tryz.prog) qb hC is _ _ _ _ _ _ _ _ _ _ _ (fun p hp w1 hw=>by
  simp only [jI,jz,or_false] at hp
  rcases hp with rfl
  ·exact SH.box hw i0 hh.1) rfl hh.2 ho).2 rfl).2 hk
theorem M2 (K:Nat) (is:List Nat) (i0 i1:Nat) {b0 t0:Nat} {cs0:List Value} {b1 t1:Nat} {cs1:List Value} {LA:List Ch} {m K0 f f':Nat} {e':Env} {z:List Nat} (hC:SH w0 w LA) (hh:(LA[i0]?,LA[i1]?,xa tab n ops is [(b0,cs0),(b1,cs1)] f e [] [])=(some (Ch.box b0 cs0 t0),some (Ch.box b1 cs1 t1),some (f',e',z,z)))
  (hk:RunA Tryz.prog n (bodyPost Tryz.prog fnc R) k ops st (fun w'=>SH w0 w' LA) f' (bits m K) e' w) (ho:oka ops st is (bits m K0) (bits m K)=true:=by kernel_rfl):RunA Tryz.prog n (bodyPost Tryz.prog fnc R) k ops st (fun w'=>SH w0 w' LA) f (bits m K0) e w:=by
 simp only [Prod.mk.injEq] at hh
 exact ((qm0 (C:=(fun w'=>SH w0 w' LA)) (w:=w) (P:=Tryz.prog) qb hC is _ _ _ _ _ _ _ _ _ _ _ (fun p hp w1 hw=>by
  simp only [jI,jz,or_false] at hp
  rcases hp with rfl|rfl
  ·exact SH.box hw i0 hh.1
  ·exact SH.box hw i1 hh.2.1) rfl hh.2.2 ho).2 rfl).2 hk
theorem M3 (K:Nat) (is:List Nat) (i0 i1 i2:Nat) {b0 t0:Nat} {cs0:List Value} {b1 t1:Nat} {cs1:List Value} {b2 t2:Nat} {cs2:List Value} {LA:List Ch} {m K0 f f':Nat} {e':Env} {z:List Nat} (hC:SH w0 w LA) (hh:(LA[i0]?,LA[i1]?,LA[i2]?,xa tab n ops is [(b0,cs0),(b1,cs1),(b2,cs2)] f e [] [])=(some (Ch.box b0 cs0 t0),some (Ch.box b1 cs1 t1),some (Ch.box b2 cs2 t2),some (f',e',z,z)))
  (hk:RunA Tryz.prog n (bodyPost Tryz.prog fnc R) k ops st (fun w'=>SH w0 w' LA) f' (bits m K) e' w) (ho:oka ops st is (bits m K0) (bits m K)=true:=by kernel_rfl):RunA Tryz.prog n (bodyPost Tryz.prog fnc R) k ops st (fun w'=>SH w0 w' LA) f (bits m K0) e w:=by
 simp only [Prod.mk.injEq] at hh
 exact ((qm0 (C:=(fun w'=>SH w0 w' LA)) (w:=w) (P:=Tryz.prog) qb hC is _ _ _ _ _ _ _ _ _ _ _ (fun p hp w1 hw=>by
  simp only [jI,jz,or_false] at hp
  rcases hp with rfl|rfl|rfl
  ·exact SH.box hw i0 hh.1
  ·exact SH.box hw i1 hh.2.1
  ·exact SH.box hw i2 hh.2.2.1) rfl hh.2.2.2 ho).2 rfl).2 hk
theorem M4 (K:Nat) (is:List Nat) (i0 i1 i2 i3:Nat) {b0 t0:Nat} {cs0:List Value} {b1 t1:Nat} {cs1:List Value} {b2 t2:Nat} {cs2:List Value} {b3 t3:Nat} {cs3:List Value} {LA:List Ch} {m K0 f f':Nat} {e':Env} {z:List Nat} (hC:SH w0 w LA) (hh:(LA[i0]?,LA[i1]?,LA[i2]?,LA[i3]?,xa tab n ops is [(b0,cs0),(b1,cs1),(b2,cs2),(b3,cs3)] f e [] [])=(some (Ch.box b0 cs0 t0),some (Ch.box b1 cs1 t1),some (Ch.box b2 cs2 t2),some (Ch.box b3 cs3 t3),some (f',e',z,z)))
  (hk:RunA Tryz.prog n (bodyPost Tryz.prog fnc R) k ops st (fun w'=>SH w0 w' LA) f' (bits m K) e' w) (ho:oka ops st is (bits m K0) (bits m K)=true:=by kernel_rfl):RunA Tryz.prog n (bodyPost Tryz.prog fnc R) k ops st (fun w'=>SH w0 w' LA) f (bits m K0) e w:=by
 simp only [Prod.mk.injEq] at hh
 exact ((qm0 (C:=(fun w'=>SH w0 w' LA)) (w:=w) (P:=Tryz.prog) qb hC is _ _ _ _ _ _ _ _ _ _ _ (fun p hp w1 hw=>by
  simp only [jI,jz,or_false] at hp
  rcases hp with rfl|rfl|rfl|rfl
  ·exact SH.box hw i0 hh.1
  ·exact SH.box hw i1 hh.2.1
  ·exact SH.box hw i2 hh.2.2.1
  ·exact SH.box hw i3 hh.2.2.2.1) rfl hh.2.2.2.2 ho).2 rfl).2 hk
theorem Aw (i K:Nat) {C:World→Prop} {m K0 d:Nat} {op:Op} {t:Nat} {ps:String} {af:Array Edge} {v:Value} (hv:∀ w',C w'→Val Tryz.prog n e ⟨some d,op,t,ps,af,none⟩ w' v) (hC:C w) (hh:(ops[i]?,Nat.blt d n)=(some (⟨some d,op,t,ps,af,none⟩:Oper),true))
  (hk:RunA Tryz.prog n (bodyPost Tryz.prog fnc R) k ops st C fuel (bits m K) ((d,v)::e) w) (hl:(bits m K0).setIfInBounds i true=bits m K:=by kernel_rfl)
  (hb:(Region.noSelect ops&&Region.free .any ops (bits m K0) i&&(Region.ready .any ops (bits m K0)).contains i&&st.all (fun s=>!(Nat.beq s i)&&waitsB ops i s&&!((bits m K0).getD s true)))=true:=by kernel_rfl) :
  RunA Tryz.prog n (bodyPost Tryz.prog fnc R) k ops st C (fuel+1) (bits m K0) e w:=by
 simp only [Prod.mk.injEq] at hh
 exact qlz i hh.1 _ hl hb hv hC hh.2 hk
theorem Al (i K j:Nat) {LA:List Ch} {m K0 d t ty b o:Nat} {x:Operand} {te:TE} {ps:String} {af:Array Edge} {v:Value} {cs:List Value} (hc:CellsAt w0 b o cs) (hC:SH w0 w LA)
  (hh:(ops[i]?,opv e x,tab.get t,ld te cs j,Nat.blt d n)=(some (⟨some d,.load t x,ty,ps,af,none⟩:Oper),some (.pointer (some ⟨b,o+j,none⟩)),some te,some v,true))
  (hk:RunA Tryz.prog n (bodyPost Tryz.prog fnc R) k ops st (fun w'=>SH w0 w' LA) fuel (bits m K) ((d,v)::e) w) (hl:(bits m K0).setIfInBounds i true=bits m K:=by kernel_rfl)
  (hb:(Region.noSelect ops&&Region.free .any ops (bits m K0) i&&(Region.ready .any ops (bits m K0)).contains i&&st.all (fun s=>!(Nat.beq s i)&&waitsB ops i s&&!((bits m K0).getD s true)))=true:=by kernel_rfl) :
  RunA Tryz.prog n (bodyPost Tryz.prog fnc R) k ops st (fun w'=>SH w0 w' LA) (fuel+1) (bits m K0) e w:=by
 simp only [Prod.mk.injEq] at hh
 exact qlz i hh.1 _ hl hb (fun w' hw=>qe2 qb (hc.below hw.below) (j:=j) hh.2.1 hh.2.2.1 hh.2.2.2.1) hC hh.2.2.2.2 hk
theorem Ax (i K:Nat) {C:World→Prop} {m K0 d t ty el q:Nat} {x ix:Operand} {te te1:TE} {ps:String} {af:Array Edge} {p:Option Addr} {ln c sz:Nat} {kd:IntKind} {iv:Int} {b o:Nat} (hp:p=some ⟨b,o,none⟩) (hq:q=o+iv.toNat*sz) (hlt:0≤iv∧iv<ln) (hC:C w)
  (hh:(ops[i]?,opv e x,opv e ix,tab.get t,te.kind,tab.get el,te1.size,Nat.blt d n)=(some (⟨some d,.indexAddr t x ix,ty,ps,af,none⟩:Oper),some (.slice p ln c),some (.int kd iv),some te,TK.slice el,some te1,sz,true))
  (hk:RunA Tryz.prog n (bodyPost Tryz.prog fnc R) k ops st C fuel (bits m K) ((d,.pointer (some ⟨b,q,none⟩))::e) w) (hl:(bits m K0).setIfInBounds i true=bits m K:=by kernel_rfl)
  (hb:(Region.noSelect ops&&Region.free .any ops (bits m K0) i&&(Region.ready .any ops (bits m K0)).contains i&&st.all (fun s=>!(Nat.beq s i)&&waitsB ops i s&&!((bits m K0).getD s true)))=true:=by kernel_rfl) :
  RunA Tryz.prog n (bodyPost Tryz.prog fnc R) k ops st C (fuel+1) (bits m K0) e w:=by
 simp only [Prod.mk.injEq] at hh
 exact qlz i hh.1 _ hl hb (fun w' _=>qnd qb hp hq hlt hh.2.1 hh.2.2.1 hh.2.2.2.1 hh.2.2.2.2.1 hh.2.2.2.2.2.1 hh.2.2.2.2.2.2.1) hC hh.2.2.2.2.2.2.2 hk
theorem Ae (i K:Nat) {C:World→Prop} {m K0 d t ty el q:Nat} {x ix:Operand} {te te1:TE} {ps:String} {af:Array Edge} {p:Option Addr} {ln c sz:Nat} {kd:IntKind} {iv:Int} {b o:Nat} {α:Prop} (hp:p=some ⟨b,o,none⟩) (hq:q=o+iv.toNat*sz) (hlt:0≤iv∧iv<ln∧α) (hC:C w)
  (hh:(ops[i]?,opv e x,opv e ix,tab.get t,te.kind,tab.get el,te1.size,Nat.blt d n)=(some (⟨some d,.indexAddr t x ix,ty,ps,af,none⟩:Oper),some (.slice p ln c),some (.int kd iv),some te,TK.slice el,some te1,sz,true))
  (hk:RunA Tryz.prog n (bodyPost Tryz.prog fnc R) k ops st C fuel (bits m K) ((d,.pointer (some ⟨b,q,none⟩))::e) w) (hl:(bits m K0).setIfInBounds i true=bits m K:=by kernel_rfl)
  (hb:(Region.noSelect ops&&Region.free .any ops (bits m K0) i&&(Region.ready .any ops (bits m K0)).contains i&&st.all (fun s=>!(Nat.beq s i)&&waitsB ops i s&&!((bits m K0).getD s true)))=true:=by kernel_rfl) :
  RunA Tryz.prog n (bodyPost Tryz.prog fnc R) k ops st C (fuel+1) (bits m K0) e w:=Ax i K hp hq ⟨hlt.1,hlt.2.1⟩ hC hh hk hl hb
theorem rb {fn:Func} {L:List Ch} {x r:Bool} (h:SH w0 w L) (hF:some x=some r) (hr:res1 e fn.results.toList=some (.bool x)) :
  Run Tryz.prog n (bodyPost Tryz.prog fn fun e w'=>∃ v,e=.returned v∧Below w0.heap.size w0 w'∧∃ us,v=tup us∧GoVs.Vs w' (fresh w0 w') r us) (.code .ret::k) e w:=qqJ qb h hF (qn1 hr)
theorem ri {fn:Func} {L:List Ch} {x r:Int} (h:SH w0 w L) (hF:some x=some r) (hr:res1 e fn.results.toList=some (.int .i64 x)) :
  Run Tryz.prog n (bodyPost Tryz.prog fn fun e w'=>∃ v,e=.returned v∧Below w0.heap.size w0 w'∧∃ us,v=tup us∧GoVs.Vs w' (fresh w0 w') r us) (.code .ret::k) e w:=qqI qb h hF (qn1 hr)
theorem rO {fn:Func} {L:List Ch} {α:Type} [GoT α] {r:α} {S:Nat→Prop} {cs:List Value} (i:Nat) (h:SH w0 w L) (hi:L[i]?=some (Ch.own S r cs)) (hr:ResOk tab e w fn.results.toList [GoT.v α cs]) :
  Run Tryz.prog n (bodyPost Tryz.prog fn fun e w'=>∃ v,e=.returned v∧Below w0.heap.size w0 w'∧∃ us,v=tup us∧GoVs.Vs w' (fresh w0 w') r us) (.code .ret::k) e w:=qbB qb _ h hr (PV.done h (qb0 (qE i h hi)))
theorem zV {ρ:Type} [GoVs ρ] {f:FuncId} {fn:Func} {c:Code} {vs:List Value} {r:ρ} (m:Nat) (hf:Tryz.prog.funcs[f]?=some fn) (hh:(fn.body,fn.ntmps,Nat.ble vs.length m)=(some c,m,true))
  (h:SH w w []→Run Tryz.prog m (bodyPost Tryz.prog fn fun e w'=>∃ v,e=.returned v∧Below w.heap.size w w'∧∃ us,v=tup us∧GoVs.Vs w' (fresh w w') r us) [.code c] (argEnv 0 vs) w):RetV Tryz.prog f vs w r:=by
 simp only [Prod.mk.injEq] at hh
 exact qmS hf hh.1 hh.2.1 hh.2.2 h
end
section
variable {w0 w:World} {L:List Ch} {n:Nat} {Q:Exit→Act→World→Prop} {k:List It} {e:Env} {all:Array Oper} {l:List Oper} {d ty:Nat} {ps:String} {af:Array Edge} {x:Operand} {args:Array Operand} {ats:Array TypeId} {f:FuncId} {fi ca:Array Value} {av vs:List Value} {β:Type} {rr:β}
theorem zcI {F:Option Int} {g:Int→Option β} (h:SH w0 w L) (hF:F.bind g=some rr) (hc:∀ {r},F=some r→RetV Tryz.prog f vs w r)
  (hh:(opv e x,opvs e args.toList,fi.toList++av++ca.toList,Nat.blt d n)=(some (.func (.func f) fi ca),some av,vs,true))
  (hk:∀ r w' ,SH w0 w' (L)→g r=some rr→Run Tryz.prog n Q (.ops all l::k) ((d,.int .i64 r)::e) w') (hcall:qec Tryz.prog f:=by exact cA rfl):Run Tryz.prog n Q (.ops all (⟨some d,.call ⟨.value x,args,ats⟩,ty,ps,af,none⟩::l)::k) e w:=by
 obtain ⟨r,hr,hF⟩:=qe hF
 simp only [Prod.mk.injEq] at hh
 exact qpF r h hcall (hc hr) hh.1 hh.2.1 hh.2.2.1 hh.2.2.2 (fun w'  h'=>hk r w'  h' hF)
theorem zcB {F:Option Bool} {g:Bool→Option β} (h:SH w0 w L) (hF:F.bind g=some rr) (hc:∀ {r},F=some r→RetV Tryz.prog f vs w r)
  (hh:(opv e x,opvs e args.toList,fi.toList++av++ca.toList,Nat.blt d n)=(some (.func (.func f) fi ca),some av,vs,true))
  (hk:∀ r w' ,SH w0 w' (L)→g r=some rr→Run Tryz.prog n Q (.ops all l::k) ((d,.bool r)::e) w') (hcall:qec Tryz.prog f:=by exact cA rfl):Run Tryz.prog n Q (.ops all (⟨some d,.call ⟨.value x,args,ats⟩,ty,ps,af,none⟩::l)::k) e w:=by
 obtain ⟨r,hr,hF⟩:=qe hF
 simp only [Prod.mk.injEq] at hh
 exact qpS r h hcall (hc hr) hh.1 hh.2.1 hh.2.2.1 hh.2.2.2 (fun w'  h'=>hk r w'  h' hF)
theorem zcS {F:Option ByteArray} {g:ByteArray→Option β} (h:SH w0 w L) (hF:F.bind g=some rr) (hc:∀ {r},F=some r→RetV Tryz.prog f vs w r)
  (hh:(opv e x,opvs e args.toList,fi.toList++av++ca.toList,Nat.blt d n)=(some (.func (.func f) fi ca),some av,vs,true))
  (hk:∀ r w' ,SH w0 w' (L)→g r=some rr→Run Tryz.prog n Q (.ops all l::k) ((d,.string r)::e) w') (hcall:qec Tryz.prog f:=by exact cA rfl):Run Tryz.prog n Q (.ops all (⟨some d,.call ⟨.value x,args,ats⟩,ty,ps,af,none⟩::l)::k) e w:=by
 obtain ⟨r,hr,hF⟩:=qe hF
 simp only [Prod.mk.injEq] at hh
 exact qk9 r h hcall (hc hr) hh.1 hh.2.1 hh.2.2.1 hh.2.2.2 (fun w'  h'=>hk r w'  h' hF)
theorem zcL {α:Type} [GoT α] {F:Option (List α)} {g:(List α)→Option β} (h:SH w0 w L) (hF:F.bind g=some rr) (hc:∀ {r},F=some r→RetV Tryz.prog f vs w r)
  (hh:(opv e x,opvs e args.toList,fi.toList++av++ca.toList,Nat.blt d n)=(some (.func (.func f) fi ca),some av,vs,true))
  (hk:∀ r w' S p c,SH w0 w' (Ch.own S r [.slice p r.length c]::L)→g r=some rr→Run Tryz.prog n Q (.ops all l::k) ((d,.slice p r.length c)::e) w') (hcall:qec Tryz.prog f:=by exact cA rfl):Run Tryz.prog n Q (.ops all (⟨some d,.call ⟨.value x,args,ats⟩,ty,ps,af,none⟩::l)::k) e w:=by
 obtain ⟨r,hr,hF⟩:=qe hF
 simp only [Prod.mk.injEq] at hh
 exact qjR r h hcall (hc hr) hh.1 hh.2.1 hh.2.2.1 hh.2.2.2 (fun w' S p c h'=>hk r w' S p c h' hF)
theorem zcO {α:Type} [GoT α] {F:Option α} {g:α→Option β} (h:SH w0 w L) (hF:F.bind g=some rr) (hc:∀ {r},F=some r→RetV Tryz.prog f vs w r)
  (hh:(opv e x,opvs e args.toList,fi.toList++av++ca.toList,Nat.blt d n)=(some (.func (.func f) fi ca),some av,vs,true))
  (hk:∀ r w' S cs,SH w0 w' (Ch.own S r cs::L)→g r=some rr→Run Tryz.prog n Q (.ops all l::k) ((d,GoT.v α cs)::e) w') (hcall:qec Tryz.prog f:=by exact cA rfl):Run Tryz.prog n Q (.ops all (⟨some d,.call ⟨.value x,args,ats⟩,ty,ps,af,none⟩::l)::k) e w:=by
 obtain ⟨r,hr,hF⟩:=qe hF
 simp only [Prod.mk.injEq] at hh
 exact qpC r h hcall (hc hr) hh.1 hh.2.1 hh.2.2.1 hh.2.2.2 (fun w' S cs h'=>hk r w' S cs h' hF)
end
def noC:List Nat:=[0,1,190]
theorem allC:((List.range 203).all fun f=>noC.contains f || callB Tryz.prog f)=true:=by kernel_rfl
theorem cA {f:Nat} (h:(Nat.blt f 203&&!noC.contains f)=true):qec Tryz.prog f:=by
 rw [jh,Nat.blt_eq,jD] at h
 have:=List.all_eq_true.1 allC f (List.mem_range.2 h.1)
 rw [h.2] at this
 exact qpj this
theorem cB (f:Nat) (h:(Nat.blt f 203&&!noC.contains f)=true):qec Tryz.prog f:=cA h
def qaq (_:Nat) (a_n:Int) (low:Int) (high:Int):Option Bool :=
 bif decide (a_n ≥ low) then some (decide (a_n≤high)) else
 some false
theorem qaa {a_n:Int} {low:Int} {high:Int}  {r:Bool} (hF:qaq n a_n low high=some r):RetV Tryz.prog 39 [.int .i64 a_n,.int .i64 low,.int .i64 high] w r:=by
 refine zV 15 Tryz.func39 rfl fun h=>X0 10 rfl (qj (t:=10) hF rfl ?_ ?_)<;>intro hF
 ·exact X0 9 rfl (rb h hF rfl)
 exact X0 6 rfl (rb h hF rfl)
def qc2 (s:ByteArray):Nat→Int→Option (Flow Bool Int)
 | 0,_=>none
 | n+1,i1 =>
  bif decide (i1<(s.size:Int)) then
   (
    (atS s i1).bind fun y3 =>
    bif decide (y3 ≥ 97) then
     (atS s i1).bind fun y4 =>
     some (decide (y4≤122))
    else
     some false).bind fun b1 =>
   (
    (atS s i1).bind fun y1 =>
    bif decide (y1 ≥ 48) then
     (atS s i1).bind fun y2 =>
     some (decide (y2≤57))
    else
     some false).bind fun b2 =>
   bif (!b1) then
    bif b2 then
     bif (!(decide (i1 > 0))) then some (.ret false) else
     qc2 s n (W64 (i1+1))
    else
     some (.ret false)
   else
    qc2 s n (W64 (i1+1))
  else
   some (.nxt i1)
def qfp (n:Nat) (s:ByteArray):Option Bool :=
 (qc2 s n 0).bind fun o=>match o with
 | .ret r=>some r
 | .nxt _ =>
  bif decide ((s.size:Int) ≥ 1) then some (decide ((s.size:Int)≤8)) else
  some false
theorem qg1 {s:ByteArray}  {r:Bool} (hF:qfp n s=some r):RetV Tryz.prog 137 [.string s] w r:=by
 refine zV 50 Tryz.func137 rfl fun h=>X0 9 rfl ?_
 obtain ⟨o1,hF,hK1⟩:=qe hF
 refine qu (rL (fun m e w'=>∃ (i1:Int),qc2 s m i1=some o1∧e=[(0,.string s),(3,.int .i64 i1)]∧SH w w' []) n ⟨_,hF,rfl,h⟩ rfl ?_)
 rintro m1 e1 w1 ⟨i1,hF,rfl,h⟩
 rcases m1 with _|m1
 ·cases hF
 refine X0 8 rfl (qm rfl hF ?_ ?_)<;>intro hF
 ·refine X0 4 rfl ?_
  obtain ⟨KF2,hKF2,o3,hF,hK3⟩:=bindE hF
  refine qaV (fun e w'=>∃ (b1:Bool),KF2 b1=some o1∧e=[(0,.string s),(3,.int .i64 i1),(4,.bool b1)]∧SH w w' []) ?_ ?_
  ·refine X0 3 rfl ?_
   obtain ⟨y3,hx3,hF⟩:=qe hF
   have g3:=qi5 hx3
   refine r_v (qiN qb g3 rfl rfl rfl rfl) rfl (zp2 rfl (qj (t:=16) hF rfl ?_ ?_))<;>intro hF
   ·refine X0 5 rfl ?_
    obtain ⟨y4,hx4,hF⟩:=qe hF
    have g4:=qi5 hx4
    refine r_v (qiN qb g4 rfl rfl rfl rfl) rfl (X0 5 rfl ?_)
    obtain rfl:=qd hF
    exact rG ⟨_,hK3,rfl,h⟩ rfl
   refine X0 7 rfl ?_
   obtain rfl:=qd hF
   exact rG ⟨_,hK3,rfl,h⟩ rfl
  rintro e3 w3 ⟨b1,hF,rfl,h⟩
  subst hKF2
  refine qfd ?_
  obtain ⟨KF1,hKF1,o2,hF,hK2⟩:=bindE hF
  refine qaV (fun e w'=>∃ (b2:Bool),KF1 b2=some o1∧e=[(0,.string s),(3,.int .i64 i1),(4,.bool b1),(5,.bool b2)]∧SH w w' []) ?_ ?_
  ·refine X0 3 rfl ?_
   obtain ⟨y1,hx1,hF⟩:=qe hF
   have g1:=qi5 hx1
   refine r_v (qiN qb g1 rfl rfl rfl rfl) rfl (zp2 rfl (qj (t:=26) hF rfl ?_ ?_))<;>intro hF
   ·refine X0 5 rfl ?_
    obtain ⟨y2,hx2,hF⟩:=qe hF
    have g2:=qi5 hx2
    refine r_v (qiN qb g2 rfl rfl rfl rfl) rfl (X0 5 rfl ?_)
    obtain rfl:=qd hF
    exact rG ⟨_,hK2,rfl,h⟩ rfl
   refine X0 7 rfl ?_
   obtain rfl:=qd hF
   exact rG ⟨_,hK2,rfl,h⟩ rfl
  rintro e2 w2 ⟨b2,hF,rfl,h⟩
  subst hKF1
  refine X0 5 rfl (qj (t:=34) hF rfl ?_ ?_)<;>intro hF
  ·refine X0 4 rfl (qj (t:=36) hF rfl ?_ ?_)<;>intro hF
   ·refine X0 10 rfl (qm rfl hF ?_ ?_)<;>intro hF
    ·refine X0 4 rfl ?_
     obtain rfl:=qd hF;replace hF:=hK1
     exact rb h hF rfl
    exact X0 7 rfl (rK ⟨_,hF,rfl,h⟩ rfl)
   refine X0 8 rfl (qdb rfl rfl (X0 4 rfl ?_))
   obtain rfl:=qd hF;replace hF:=hK1
   exact rb h hF rfl
  exact X0 8 rfl (qbO rfl rfl (X0 7 rfl (rK ⟨_,hF,rfl,h⟩ rfl)))
 refine qA rfl ?_
 obtain rfl:=qd hF;replace hF:=hK1
 refine X0 6 rfl (qj (t:=45) hF rfl ?_ ?_)<;>intro hF
 ·exact X0 9 rfl (rb h hF rfl)
 exact X0 6 rfl (rb h hF rfl)
def qdR (a_0:qv) (i2:Int) (y1:qY):Nat→Int→Option (Flow (Int × Bool) Int)
 | 0,_=>none
 | n+1,i3 =>
  bif decide (i3<i2) then
   (idx a_0.Ap i3).bind fun y2 =>
   bif (y2.Au.toList==y1.Au.toList) then some (.ret (0,false)) else
   qdR a_0 i2 y1 n (W64 (i3+1))
  else
   some (.nxt i3)
def qcj (a_0:qv):Nat→Int→Int→Option (Flow (Int × Bool) (Int × Int))
 | 0,_,_=>none
 | n+1,i1,i2 =>
  bif decide (i2<(a_0.Ap.length:Int)) then
   (idx a_0.Ap i2).bind fun y1 =>
   (qdR a_0 i2 y1 n 0).bind fun o=>match o with
   | .ret r=>some (.ret r)
   | .nxt _ =>
    (
     (qfp n y1.Au).bind fun r1 =>
     bif (!r1) then some true else
     (qaq n y1.Bd 0 500).bind fun r2 =>
     some (!r2)).bind fun b4 =>
    bif b4 then some (.ret (0,false)) else
    (
     bif (i2==(W64 ((a_0.Ap.length:Int)-1))) then
      bif (y1.Bn != 2) then some true else
      bif (y1.Bd != 0) then some true else
      bif y1.Bc then some true else
      bif decide (i2<(W64 ((a_0.Ap.length:Int)-1))) then some (y1.Bn != 1) else
      some false
     else
      bif decide (i2<(W64 ((a_0.Ap.length:Int)-1))) then some (y1.Bn != 1) else
      some false).bind fun b5 =>
    bif b5 then some (.ret (0,false)) else
    bif y1.Bc then qcj a_0 n (W64 (i1+1)) (W64 (i2+1)) else
    qcj a_0 n i1 (W64 (i2+1))
  else
   some (.nxt (i1,i2))
def qhi (n:Nat) (a_0:qv):Option (Int × Bool) :=
 (
  bif decide ((a_0.Ap.length:Int)<2) then some true else
  some (decide ((a_0.Ap.length:Int) > 5))).bind fun b1 =>
 bif b1 then some (0,false) else
 (qcj a_0 n 0 0).bind fun o=>match o with
 | .ret r=>some r
 | .nxt (i1,_) =>
  some (i1,true)
theorem qkY {a_0:qv} (ha1:GoT.R w (old w) a_0 cs1) {r:(Int × Bool)} (hF:qhi n a_0=some r):RetV Tryz.prog 152 [GoT.v qv cs1] w r:=by
 obtain ⟨p1,k1,p2,k2,p3,k3,rfl,s1,s2,s3⟩:=qQ ha1
 refine zV 86 Tryz.func152 rfl fun h=>zSR (qS h rfl rfl fun w1 bb1 h=>X1 12 0 h rfl ?_)
 obtain ⟨KF3,hKF3,o5,hF,hK5⟩:=bindE hF
 refine qaV (fun e w'=>∃ (b1:Bool),KF3 b1=some r∧e=[(1,.pointer (some ⟨bb1,0,none⟩)),(4,.int .i64 (a_0.Ap.length:Int)),(17,.bool b1)]∧SH w w' [Ch.box bb1 (qy a_0 p1 p2 p3 k1 k2 k3) 128]) ?_ ?_
 ·refine X0 4 rfl (qj (t:=14) hF rfl ?_ ?_)<;>intro hF
  ·refine X0 4 rfl ?_
   obtain rfl:=qd hF
   exact rG ⟨_,hK5,rfl,h⟩ rfl
  refine X0 6 rfl ?_
  obtain rfl:=qd hF
  exact rG ⟨_,hK5,rfl,h⟩ rfl
 rintro e5 w11 ⟨b1,hF,rfl,h⟩
 subst hKF3
 refine qm rfl hF ?_ ?_<;>intro hF
 ·refine X0 5 rfl ?_
  obtain rfl:=qd hF
  exact qbB qb (ρ:=(Int × Bool)) [GoT.v Int [.int .i64 0],GoT.v Bool [.bool false]] h ⟨rfl,rfl,trivial⟩ (PV.done h (qek h (qD (S:=fun _=>False) rfl) (qb0 (qD (S:=fun _=>False) rfl)) (by rfl)))
 refine X0 10 rfl ?_
 obtain ⟨o1,hF,hK1⟩:=qe hF
 refine qu (rL (fun m e w'=>∃ (i1:Int) (i2:Int),qcj a_0 m i1 i2=some o1∧e=[(1,.pointer (some ⟨bb1,0,none⟩)),(4,.int .i64 (a_0.Ap.length:Int)),(5,.int .i64 i1),(6,.int .i64 i2)]∧SH w w' [Ch.box bb1 (qy a_0 p1 p2 p3 k1 k2 k3) 128]) n ⟨_,_,hF,rfl,h⟩ rfl ?_)
 rintro m1 e1 w2 ⟨i1,i2,hF,rfl,h⟩
 rcases m1 with _|m1
 ·cases hF
 refine X0 7 rfl (qm rfl hF ?_ ?_)<;>intro hF
 ·refine X1 8 0 h rfl ?_
  obtain ⟨y1,hy1,hF,he1,b2,_,q1,cs2,hp1,hq1,hr1,hc3⟩:=s1.ix hF
  obtain rfl:=qdp hr1
  refine zxe hp1 hq1 he1 rfl (zc 0 (hc3.below h.below) rfl (qx qb h rfl rfl rfl fun w3 bb2 h=>zs 0 h rfl fun w4 h=>X0 6 rfl ?_))
  obtain ⟨o2,hF,hK2⟩:=qe hF
  refine qu (rL (fun m e w'=>∃ (i3:Int),qdR a_0 i2 y1 m i3=some o2∧e=[(1,.pointer (some ⟨bb1,0,none⟩)),(4,.int .i64 (a_0.Ap.length:Int)),(5,.int .i64 i1),(6,.int .i64 i2),(7,.pointer (some ⟨bb2,0,none⟩)),(8,.int .i64 i3)]∧SH w w' [Ch.box bb2 (qly y1) 171,Ch.box bb1 (qy a_0 p1 p2 p3 k1 k2 k3) 128]) m1 ⟨_,hF,rfl,h⟩ rfl ?_)
  rintro m2 e2 w5 ⟨i3,hF,rfl,h⟩
  rcases m2 with _|m2
  ·cases hF
  refine X0 7 rfl (qm rfl hF ?_ ?_)<;>intro hF
  ·refine X0 4 rfl (rD (Y1 2 1 h rfl ?_))
   refine zd1 rfl ?_
   obtain ⟨y2,hy2,hF,he2,b3,_,q2,cs3,hp2,hq2,hr2,hc5⟩:=s1.ix hF
   obtain rfl:=qdp hr2
   refine zdxe hp2 hq2 he2 rfl (zd1 rfl (zdc 0 (hc5.below h.below) rfl (Y1 2 0 h rfl ?_)))
   refine zd1 rfl (dN h fun w6 h=>qm rfl hF ?_ ?_)<;>intro hF
   ·refine X0 5 rfl ?_
    obtain rfl:=qd hF;replace hF:=hK2
    obtain rfl:=qd hF;replace hF:=hK1
    obtain rfl:=qd hF
    exact qbB qb (ρ:=(Int × Bool)) [GoT.v Int [.int .i64 0],GoT.v Bool [.bool false]] h ⟨rfl,rfl,trivial⟩ (PV.done h (qek h (qD (S:=fun _=>False) rfl) (qb0 (qD (S:=fun _=>False) rfl)) (by rfl)))
   exact X0 7 rfl (rK ⟨_,hF,rfl,h⟩ rfl)
  refine qA rfl ?_
  obtain rfl:=qd hF;replace hF:=hK2
  refine zSS ?_
  obtain ⟨KF2,hKF2,o4,hF,hK4⟩:=bindE hF
  refine qaV (fun e w'=>∃ (b4:Bool),KF2 b4=some o1∧e=[(1,.pointer (some ⟨bb1,0,none⟩)),(4,.int .i64 (a_0.Ap.length:Int)),(5,.int .i64 i1),(6,.int .i64 i2),(7,.pointer (some ⟨bb2,0,none⟩)),(51,.bool b4)]∧SH w w' [Ch.box bb2 (qly y1) 171,Ch.box bb1 (qy a_0 p1 p2 p3 k1 k2 k3) 128]) ?_ ?_
  ·refine X1 3 0 h rfl (zcB h hF qg1 rfl fun r1 w8 h hF=>zp2 rfl (qj (t:=46) hF rfl ?_ ?_))<;>intro hF
   ·refine X0 6 rfl ?_
    obtain rfl:=qd hF
    exact rG ⟨_,hK4,rfl,h⟩ rfl
   refine X1 5 0 h rfl (zcB h hF qaa rfl fun r2 w9 h hF=>X0 4 rfl ?_)
   obtain rfl:=qd hF
   exact rG ⟨_,hK4,rfl,h⟩ rfl
  rintro e4 w10 ⟨b4,hF,rfl,h⟩
  subst hKF2
  refine qm rfl hF ?_ ?_<;>intro hF
  ·refine X0 5 rfl ?_
   obtain rfl:=qd hF;replace hF:=hK1
   obtain rfl:=qd hF
   exact qbB qb (ρ:=(Int × Bool)) [GoT.v Int [.int .i64 0],GoT.v Bool [.bool false]] h ⟨rfl,rfl,trivial⟩ (PV.done h (qek h (qD (S:=fun _=>False) rfl) (qb0 (qD (S:=fun _=>False) rfl)) (by rfl)))
  refine zKSS ?_
  obtain ⟨KF1,hKF1,o3,hF,hK3⟩:=bindE hF
  refine qaV (fun e w'=>∃ (b5:Bool),KF1 b5=some o1∧e=[(1,.pointer (some ⟨bb1,0,none⟩)),(4,.int .i64 (a_0.Ap.length:Int)),(5,.int .i64 i1),(6,.int .i64 i2),(7,.pointer (some ⟨bb2,0,none⟩)),(80,.bool b5)]∧SH w w' [Ch.box bb2 (qly y1) 171,Ch.box bb1 (qy a_0 p1 p2 p3 k1 k2 k3) 128]) ?_ ?_
  ·refine X0 6 rfl (qj (t:=56) hF rfl ?_ ?_)<;>intro hF
   ·refine X1 8 0 h rfl (qj (t:=60) hF rfl ?_ ?_)<;>intro hF
    ·refine X0 24 rfl ?_
     obtain rfl:=qd hF
     exact rG ⟨_,hK3,rfl,h⟩ rfl
    refine X1 10 0 h rfl (qj (t:=65) hF rfl ?_ ?_)<;>intro hF
    ·refine X0 17 rfl ?_
     obtain rfl:=qd hF
     exact rG ⟨_,hK3,rfl,h⟩ rfl
    refine X1 8 0 h rfl (qj (t:=70) hF rfl ?_ ?_)<;>intro hF
    ·refine X0 11 rfl ?_
     obtain rfl:=qd hF
     exact rG ⟨_,hK3,rfl,h⟩ rfl
    refine X0 10 rfl (qj (t:=75) hF rfl ?_ ?_)<;>intro hF
    ·refine X1 10 0 h rfl ?_
     obtain rfl:=qd hF
     exact rG ⟨_,hK3,rfl,h⟩ rfl
    refine X0 7 rfl ?_
    obtain rfl:=qd hF
    exact rG ⟨_,hK3,rfl,h⟩ rfl
   refine X0 24 rfl (qj (t:=75) hF rfl ?_ ?_)<;>intro hF
   ·refine X1 10 0 h rfl ?_
    obtain rfl:=qd hF
    exact rG ⟨_,hK3,rfl,h⟩ rfl
   refine X0 7 rfl ?_
   obtain rfl:=qd hF
   exact rG ⟨_,hK3,rfl,h⟩ rfl
  rintro e3 w7 ⟨b5,hF,rfl,h⟩
  subst hKF1
  refine qm rfl hF ?_ ?_<;>intro hF
  ·refine X0 5 rfl ?_
   obtain rfl:=qd hF;replace hF:=hK1
   obtain rfl:=qd hF
   exact qbB qb (ρ:=(Int × Bool)) [GoT.v Int [.int .i64 0],GoT.v Bool [.bool false]] h ⟨rfl,rfl,trivial⟩ (PV.done h (qek h (qD (S:=fun _=>False) rfl) (qb0 (qD (S:=fun _=>False) rfl)) (by rfl)))
  refine X1 6 0 h rfl (qm rfl hF ?_ ?_)<;>intro hF
  ·refine X0 11 rfl ?_
   replace h:=h.pick [1] rfl
   exact rK ⟨_,_,hF,rfl,h⟩ rfl
  refine X0 7 rfl ?_
  replace h:=h.pick [1] rfl
  exact rK ⟨_,_,hF,rfl,h⟩ rfl
 refine qA rfl ?_
 obtain rfl:=qd hF;replace hF:=hK1
 refine X0 6 rfl ?_
 obtain rfl:=qd hF
 exact qbB qb (ρ:=(Int × Bool)) [GoT.v Int [.int .i64 i1],GoT.v Bool [.bool true]] h ⟨rfl,rfl,trivial⟩ (PV.done h (qek h (qD (S:=fun _=>False) rfl) (qb0 (qD (S:=fun _=>False) rfl)) (by rfl)))
def qcV (list:(List Int)):Nat→Int→Option (Flow Bool Int)
 | 0,_=>none
 | n+1,i1 =>
  bif decide (i1<(list.length:Int)) then
   (idx list i1).bind fun y1 =>
   (qaq n y1 0 100000).bind fun r1 =>
   bif (!r1) then some (.ret false) else
   bif decide (i1 > 0) then
    (idx list (W64 (i1-1))).bind fun y2 =>
    (idx list i1).bind fun y3 =>
    bif decide (y2 ≥ y3) then some (.ret false) else
    qcV list n (W64 (i1+1))
   else
    qcV list n (W64 (i1+1))
  else
   some (.nxt i1)
def qge (n:Nat) (list:(List Int)):Option Bool :=
 (qcV list n 0).bind fun o=>match o with
 | .ret r=>some r
 | .nxt _ =>
  bif decide ((list.length:Int) ≥ 1) then some (decide ((list.length:Int)≤4)) else
  some false
theorem qiG {list:(List Int)} (ha1:GoT.R w (old w) list cs1) {r:Bool} (hF:qge n list=some r):RetV Tryz.prog 197 [GoT.v (List Int) cs1] w r:=by
 obtain ⟨p1,k1,rfl,s1⟩:=ha1
 refine zV 40 Tryz.func197 rfl fun h=>X0 9 rfl ?_
 obtain ⟨o1,hF,hK1⟩:=qe hF
 refine qu (rL (fun m e w'=>∃ (i1:Int),qcV list m i1=some o1∧e=[(0,.slice p1 list.length k1),(3,.int .i64 i1)]∧SH w w' []) n ⟨_,hF,rfl,h⟩ rfl ?_)
 rintro m1 e1 w1 ⟨i1,hF,rfl,h⟩
 rcases m1 with _|m1
 ·cases hF
 refine X0 8 rfl (qm rfl hF ?_ ?_)<;>intro hF
 ·refine X0 4 rfl (rD (zd2 rfl ?_))
  obtain ⟨y1,hy1,hF,he1,b1,_,q1,cs2,hp1,hq1,rfl,hc2⟩:=s1.ix hF
  refine zdxe hp1 hq1 he1 rfl (zdc 0 (hc2.below h.below) rfl ?_)
  obtain ⟨r1,hr2,hF⟩:=qe hF
  refine qcq r1 (vsB _) (cB 39 rfl) (fun _ hb=>qaa  hr2) rfl rfl rfl rfl (zd2 rfl (qaJ (t:=16) hF rfl ?_ ?_))<;>intro hF
  ·refine Y0 15 rfl (dN h fun w2 h=>qdb rfl rfl (X0 4 rfl ?_))
   obtain rfl:=qd hF;replace hF:=hK1
   exact rb h hF rfl
  refine Y0 6 rfl (qaJ (t:=19) hF rfl ?_ ?_)<;>intro hF
  ·refine Y0 7 rfl ?_
   obtain ⟨y2,hy2,hF,he2,b2,_,q2,cs3,hp2,hq2,rfl,hc3⟩:=s1.ix hF
   refine zdxe hp2 hq2 he2 rfl (Y0 1 rfl (zdc 0 (hc3.below h.below) rfl (Y0 5 rfl ?_)))
   obtain ⟨y3,hy3,hF,he3,b3,_,q3,cs4,hp3,hq3,rfl,hc4⟩:=s1.ix hF
   refine zdxe hp3 hq3 he3 rfl (Y0 1 rfl (zdc 0 (hc4.below h.below) rfl (Y0 5 rfl (dN h fun w3 h=>qm rfl hF ?_ ?_))))<;>intro hF
   ·refine X0 4 rfl ?_
    obtain rfl:=qd hF;replace hF:=hK1
    exact rb h hF rfl
   exact X0 7 rfl (rK ⟨_,hF,rfl,h⟩ rfl)
  exact Y0 13 rfl (dN h fun w4 h=>qbO rfl rfl (X0 7 rfl (rK ⟨_,hF,rfl,h⟩ rfl)))
 refine qA rfl ?_
 obtain rfl:=qd hF;replace hF:=hK1
 refine X0 6 rfl (qj (t:=35) hF rfl ?_ ?_)<;>intro hF
 ·exact X0 9 rfl (rb h hF rfl)
 exact X0 6 rfl (rb h hF rfl)
def qdJ (t:qN):Nat→Int→Option (Flow Bool Int)
 | 0,_=>none
 | n+1,i1 =>
  bif decide (i1<(t.Ay.length:Int)) then
   (idx t.Ay i1).bind fun y1 =>
   (qaq n y1 (-1000000) 1000000).bind fun r1 =>
   bif (!r1) then some (.ret false) else
   qdJ t n (W64 (i1+1))
  else
   some (.nxt i1)
def qhk (n:Nat) (t:qN):Option Bool :=
 (
  (qge n t.Bf).bind fun r2 =>
  bif (!r2) then some true else
  (qge n t.Bg).bind fun r3 =>
  bif (!r3) then some true else
  some ((t.Ay.length:Int) != (W64 ((t.Bf.length:Int)*(t.Bg.length:Int))))).bind fun b1 =>
 bif b1 then some false else
 (qdJ t n 0).bind fun o=>match o with
 | .ret r=>some r
 | .nxt _ =>
  some true
theorem qk1 {t:qN} (ha1:GoT.R w (old w) t cs1) {r:Bool} (hF:qhk n t=some r):RetV Tryz.prog 184 [GoT.v qN cs1] w r:=by
 obtain ⟨p1,k1,p2,k2,p3,k3,rfl,s1,s2,s3⟩:=qez ha1
 refine zV 41 Tryz.func184 rfl fun h=>zSR (qS h rfl rfl fun w1 bb1 h=>X0 4 rfl ?_)
 obtain ⟨KF1,hKF1,o2,hF,hK2⟩:=bindE hF
 refine qaV (fun e w'=>∃ (b1:Bool),KF1 b1=some r∧e=[(1,.pointer (some ⟨bb1,0,none⟩)),(26,.bool b1)]∧SH w w' [Ch.box bb1 (qf1 t p1 p2 p3 k1 k2 k3) 209]) ?_ ?_
 ·refine X1 3 0 h rfl (zcB h hF (qiG ⟨_,_,rfl,(h.oldS s1)⟩) rfl fun r2 w4 h hF=>zp2 rfl (qj (t:=8) hF rfl ?_ ?_))<;>intro hF
  ·refine X0 19 rfl ?_
   obtain rfl:=qd hF
   exact rG ⟨_,hK2,rfl,h⟩ rfl
  refine X1 5 0 h rfl (zcB h hF (qiG ⟨_,_,rfl,(h.oldS s2)⟩) rfl fun r3 w5 h hF=>X0 4 rfl (qj (t:=14) hF rfl ?_ ?_))<;>intro hF
  ·refine X0 13 rfl ?_
   obtain rfl:=qd hF
   exact rG ⟨_,hK2,rfl,h⟩ rfl
  refine X3 24 0 0 0 h rfl ?_
  obtain rfl:=qd hF
  exact rG ⟨_,hK2,rfl,h⟩ rfl
 rintro e2 w6 ⟨b1,hF,rfl,h⟩
 subst hKF1
 refine qm rfl hF ?_ ?_<;>intro hF
 ·exact X0 4 rfl (rb h hF rfl)
 refine X0 6 rfl ?_
 obtain ⟨o1,hF,hK1⟩:=qe hF
 refine qu (rL (fun m e w'=>∃ (i1:Int),qdJ t m i1=some o1∧e=[(1,.pointer (some ⟨bb1,0,none⟩)),(3,.int .i64 i1)]∧SH w w' [Ch.box bb1 (qf1 t p1 p2 p3 k1 k2 k3) 209]) n ⟨_,hF,rfl,h⟩ rfl ?_)
 rintro m1 e1 w2 ⟨i1,hF,rfl,h⟩
 rcases m1 with _|m1
 ·cases hF
 refine X1 9 0 h rfl (qm rfl hF ?_ ?_)<;>intro hF
 ·refine X1 8 0 h rfl ?_
  obtain ⟨y1,hy1,hF,he1,b2,_,q1,cs2,hp1,hq1,rfl,hc3⟩:=s3.ix hF
  refine zxe hp1 hq1 he1 rfl (zc 0 (hc3.below h.below) rfl (zcB h hF qaa rfl fun r1 w3 h hF=>X0 2 rfl (qm rfl hF ?_ ?_)))<;>intro hF
  ·refine X0 4 rfl ?_
   obtain rfl:=qd hF;replace hF:=hK1
   exact rb h hF rfl
  exact X0 7 rfl (rK ⟨_,hF,rfl,h⟩ rfl)
 refine qA rfl ?_
 obtain rfl:=qd hF;replace hF:=hK1
 exact X0 4 rfl (rb h hF rfl)
def qcf (t:qN):Nat→Int→Int→Int→Option (Int × Int × Int)
 | 0,_,_,_=>none
 | n+1,i1,i2,i3 =>
  bif decide (i3<(t.Ay.length:Int)) then
   (idx t.Ay i3).bind fun y3 =>
   (idx t.Ay i3).bind fun y4 =>
   qcf t n (if y3<i1 then y3 else i1) (if y4 > i2 then y4 else i2) (W64 (i3+1))
  else
   some (i1,i2,i3)
def qfi (n:Nat) (t:qN):Option (qg7 × Int) :=
 (qhk n t).bind fun r1 =>
 bif (!r1) then some ((⟨0,0⟩:qg7),1) else
 (idx t.Ay 0).bind fun y1 =>
 (idx t.Ay 0).bind fun y2 =>
 (qcf t n y1 y2 1).bind fun o=>match o with
 | (i1,i2,_) =>
  some ((⟨i1,i2⟩:qg7),0)
theorem qjy {t:qN} (ha1:GoT.R w (old w) t cs1) {r:(qg7 × Int)} (hF:qfi n t=some r):RetV Tryz.prog 170 [GoT.v qN cs1] w r:=by
 obtain ⟨p1,k1,p2,k2,p3,k3,rfl,s1,s2,s3⟩:=qez ha1
 refine zV 45 Tryz.func170 rfl fun h=>zSR (qS h rfl rfl fun w1 bb1 h=>qx qb h rfl rfl rfl fun w2 bb2 h=>X1 6 1 h rfl (zcB h hF (qk1 (h.old ha1)) rfl fun r1 w3 h hF=>X0 2 rfl (qm rfl hF ?_ ?_)))<;>intro hF
 ·refine zSR (r_v (qai qb [] [] rfl rfl rfl rfl rfl rfl rfl rfl) rfl (zs 0 h rfl fun w4 h=>X0 2 rfl ?_))
  obtain rfl:=qd hF
  exact qbB qb (ρ:=(qg7 × Int)) [GoT.v qg7 [.int .i64 0,.int .i64 0],GoT.v Int [.int .i64 1]] h ⟨⟨_,_,_,rfl,rfl,h.box 0 rfl,rfl⟩,rfl,trivial⟩ (PV.done h (qek h (qD (S:=fun _=>False) (ql6 (⟨0,0⟩:qg7))) (qb0 (qD (S:=fun _=>False) rfl)) (by rfl)))
 refine zKS (rA [] [1] h rfl fun w5 h=>M1 3 [0,1] 0 (h.pick [1] rfl) rfl ?_)
 obtain ⟨y1,hy1,hF,he1,b1,_,q1,cs2,hp1,hq1,rfl,hc2⟩:=s3.ix hF
 refine Ae 2 7 hp1 hq1 he1 (h.pick [1] rfl) rfl (Al 3 15 0 hc2 (h.pick [1] rfl) rfl (M1 63 [4,5] 0 (h.pick [1] rfl) rfl ?_))
 obtain ⟨y2,hy2,hF,he2,b2,_,q2,cs3,hp2,hq2,rfl,hc3⟩:=s3.ix hF
 refine Ae 6 127 hp2 hq2 he2 (h.pick [1] rfl) rfl (Al 7 255 0 hc3 (h.pick [1] rfl) rfl (Aw 8 511 (fun w' hw=>qai qb [0,1] [.tmp 13,.tmp 17] rfl rfl rfl rfl rfl rfl rfl rfl) (h.pick [1] rfl) rfl ?_))
 refine Ao 9 1023 rfl (qx qb h rfl rfl rfl fun w6 bb3 h=>Ag (h.pick [2] rfl) (Ao 10 2047 rfl (zs 0 h rfl fun w7 h=>Ag (h.pick [2] rfl) (Ad (X0 5 rfl ?_)))))
 obtain ⟨o1,hF,hK1⟩:=qe hF
 refine qu (rL (fun m e w'=>∃ (i1:Int) (i2:Int) (i3:Int),qcf t m i1 i2 i3=some o1∧e=[(1,.pointer (some ⟨bb1,0,none⟩)),(2,.pointer (some ⟨bb2,0,none⟩)),(4,.pointer (some ⟨bb3,0,none⟩)),(5,.int .i64 i3)]∧SH w w' [Ch.box bb3 [.int .i64 i1,.int .i64 i2] 205,Ch.box bb2 [.int .i64 0,.int .i64 0] 205,Ch.box bb1 (qf1 t p1 p2 p3 k1 k2 k3) 209]) n ⟨_,_,_,hF,rfl,h⟩ rfl ?_)
 rintro m1 e1 w8 ⟨i1,i2,i3,hF,rfl,h⟩
 rcases m1 with _|m1
 ·cases hF
 refine X1 9 2 h rfl (qm rfl hF ?_ ?_)<;>intro hF
 ·refine X0 4 rfl (rA [9] [0,2] h rfl fun w9 h=>M2 31 [0,1,2,3,4] 0 1 (h.pick [0,2] rfl) rfl ?_)
  obtain ⟨y3,hy3,hF,he3,b3,_,q3,cs4,hp3,hq3,rfl,hc5⟩:=s3.ix hF
  refine Ae 5 63 hp3 hq3 he3 (h.pick [0,2] rfl) rfl (Al 6 127 0 hc5 (h.pick [0,2] rfl) rfl (M0 511 [7,8] (h.pick [0,2] rfl) rfl (Ao 9 1023 rfl (zs 0 h rfl fun w10 h=>qeB (fun hs=>absurd (hs 9 (by decide)) (by decide)) (Ad (rA [9] [0,2] h rfl fun w11 h=>M2 31 [0,1,2,3,4] 0 1 (h.pick [0,2] rfl) rfl ?_))))))
  obtain ⟨y4,hy4,hF,he4,b4,_,q4,cs5,hp4,hq4,rfl,hc6⟩:=s3.ix hF
  exact Ae 5 63 hp4 hq4 he4 (h.pick [0,2] rfl) rfl (Al 6 127 0 hc6 (h.pick [0,2] rfl) rfl (M0 511 [7,8] (h.pick [0,2] rfl) rfl (Ao 9 1023 rfl (zs 0 h rfl fun w12 h=>qeB (fun hs=>absurd (hs 9 (by decide)) (by decide)) (Ad (X0 6 rfl (rK ⟨_,_,_,hF,rfl,h⟩ rfl)))))))
 refine qA rfl ?_
 obtain rfl:=qd hF;replace hF:=hK1
 refine X1 3 0 h rfl (zs 1 h rfl fun w13 h=>X0 2 rfl ?_)
 obtain rfl:=qd hF
 exact qbB qb (ρ:=(qg7 × Int)) [GoT.v qg7 [.int .i64 i1,.int .i64 i2],GoT.v Int [.int .i64 0]] h ⟨⟨_,_,_,rfl,rfl,h.box 1 rfl,rfl⟩,rfl,trivial⟩ (PV.done h (qek h (qD (S:=fun _=>False) (ql6 (⟨i1,i2⟩:qg7))) (qb0 (qD (S:=fun _=>False) rfl)) (by rfl)))
def qb5 (list:(List qN)) (positive:Bool):Nat→Int→Option (Flow Bool Int)
 | 0,_=>none
 | n+1,i1 =>
  bif decide (i1<2) then
   (idx list i1).bind fun y1 =>
   (qfi n y1).bind fun o=>match o with
    | (r2,r3) =>
     bif (r3 != 0) then some (.ret false) else
     bif positive then
      bif decide (r2.Bt<0) then some (.ret false) else
      qb5 list positive n (W64 (i1+1))
     else
      qb5 list positive n (W64 (i1+1))
  else
   some (.nxt i1)
def qcF (n:Nat) (list:(List qN)) (positive:Bool):Option Bool :=
 bif ((list.length:Int) != 2) then some false else
 (qb5 list positive n 0).bind fun o=>match o with
 | .ret r=>some r
 | .nxt _ =>
  some true
theorem qdT {list:(List qN)} {positive:Bool} (ha1:GoT.R w (old w) list cs1) {r:Bool} (hF:qcF n list positive=some r):RetV Tryz.prog 162 [GoT.v (List qN) cs1,.bool positive] w r:=by
 obtain ⟨p1,k1,rfl,s1⟩:=ha1
 refine zV 33 Tryz.func162 rfl fun h=>X0 11 rfl (qm rfl hF ?_ ?_)<;>intro hF
 ·exact X0 4 rfl (rb h hF rfl)
 refine X0 6 rfl ?_
 obtain ⟨o1,hF,hK1⟩:=qe hF
 refine qu (rL (fun m e w'=>∃ (i1:Int),qb5 list positive m i1=some o1∧e=[(0,.slice p1 list.length k1),(1,.bool positive),(5,.int .i64 i1)]∧SH w w' []) n ⟨_,hF,rfl,h⟩ rfl ?_)
 rintro m1 e1 w1 ⟨i1,hF,rfl,h⟩
 rcases m1 with _|m1
 ·cases hF
 refine X0 6 rfl (qm rfl hF ?_ ?_)<;>intro hF
 ·refine X0 7 rfl ?_
  obtain ⟨y1,hy1,hF,he1,b1,_,q1,cs2,hp1,hq1,hr1,hc3⟩:=s1.ix hF
  obtain ⟨p2,k2,p3,k3,p4,k4,rfl,s2,s3,s4⟩:=qez hr1
  refine zxe hp1 hq1 he1 rfl (zc 0 (hc3.below h.below) rfl ?_)
  obtain ⟨r1,hr2,hF⟩:=qe hF
  obtain ⟨r2,r3⟩:=r1
  refine qbM (r2,r3) h (cB 170 rfl) (qjy (qlB y1 (h.oldS s2) (h.oldS s3) (h.oldS s4)) hr2) rfl rfl rfl rfl fun w2 S1 us1 hv1 hr3=>?_
  obtain ⟨S2,S3,cs3,us2,rfl,hv2,hr4⟩:=hv1.cons hr3
  obtain rfl:=qnO (hv2.sh.own 0 rfl)
  obtain ⟨rfl,h⟩:=hv2.lastI hr4
  refine zp3 rfl (qx qb h rfl rfl rfl fun w3 bb1 h=>zs 0 h rfl fun w4 h=>X0 7 rfl (qj (t:=25) hF rfl ?_ ?_))<;>intro hF
  ·refine X0 8 rfl (qdb rfl rfl (X0 4 rfl ?_))
   obtain rfl:=qd hF;replace hF:=hK1
   exact rb h hF rfl
  refine X0 4 rfl (qj (t:=27) hF rfl ?_ ?_)<;>intro hF
  ·refine X1 10 0 h rfl (qm rfl hF ?_ ?_)<;>intro hF
   ·refine X0 4 rfl ?_
    obtain rfl:=qd hF;replace hF:=hK1
    exact rb h hF rfl
   refine X0 7 rfl ?_
   replace h:=h.pick [] rfl
   exact rK ⟨_,hF,rfl,h⟩ rfl
  refine X0 7 rfl (qbO rfl rfl (X0 7 rfl ?_))
  replace h:=h.pick [] rfl
  exact rK ⟨_,hF,rfl,h⟩ rfl
 refine qA rfl ?_
 obtain rfl:=qd hF;replace hF:=hK1
 exact X0 4 rfl (rb h hF rfl)
def qhO (n:Nat) (a_0:qv) (a_1:qag):Option Bool :=
 (
  (qaq n a_1.As 0 (W64 ((W64 ((a_0.Ap.length:Int)-1))-1))).bind fun r7 =>
  bif (!r7) then some true else
  (qaq n a_1.To 0 (W64 ((a_0.Ap.length:Int)-1))).bind fun r8 =>
  some (!r8)).bind fun b1 =>
 bif b1 then some false else
 (idx a_0.Ap a_1.As).bind fun y1 =>
 bif (a_1.Ar==1) then
  bif (!y1.Bc) then
   bif (a_1.To==(W64 ((a_0.Ap.length:Int)-1))) then
    (qaq n a_1.Bi 1 3).bind fun r1 =>
    bif r1 then
     (qcF n a_1.Bj true).bind fun r2 =>
     bif r2 then
      (qcF n a_1.Bp true).bind fun r3 =>
      some r3
     else
      some false
    else
     some false
   else
    some false
  else
   some false
 else
  (
   bif (a_1.Ar==2) then some (a_1.Ar==2) else
   some (a_1.Ar==3)).bind fun b3 =>
  bif b3 then
   bif y1.Bc then
    bif (a_1.To==(W64 ((a_0.Ap.length:Int)-1))) then
     bif (a_1.Bi==0) then
      (qcF n a_1.Bj true).bind fun r4 =>
      bif r4 then
       (qcF n a_1.Bp true).bind fun r5 =>
       some r5
      else
       some false
     else
      some false
    else
     some false
   else
    some false
  else
   (
    bif (a_1.Ar==4) then some (a_1.Ar==4) else
    some (a_1.Ar==5)).bind fun b4 =>
   bif b4 then
    bif y1.Bc then
     bif decide (a_1.To<(W64 ((a_0.Ap.length:Int)-1))) then
      (idx a_0.Ap a_1.To).bind fun y2 =>
      bif (!y2.Bc) then
       bif (a_1.Bi==0) then
        (qcF n a_1.Bj false).bind fun r6 =>
        bif r6 then some ((a_1.Bp.length:Int)==0) else
        some false
       else
        some false
      else
       some false
     else
      some false
    else
     some false
   else
    some false
theorem qlg {a_0:qv} {a_1:qag} (ha1:GoT.R w (old w) a_0 cs1) (ha2:GoT.R w (old w) a_1 cs2) {r:Bool} (hF:qhO n a_0 a_1=some r):RetV Tryz.prog 153 [GoT.v qv cs1,GoT.v qag cs2] w r:=by
 obtain ⟨p1,k1,p2,k2,p3,k3,rfl,s1,s2,s3⟩:=qQ ha1
 obtain ⟨p4,k4,p5,k5,rfl,s4,s5⟩:=qaE ha2
 refine zV 119 Tryz.func153 rfl fun h=>zSR (qS h rfl rfl fun w1 bb1 h=>qS h rfl rfl fun w2 bb2 h=>X1 12 1 h rfl ?_)
 obtain ⟨KF3,hKF3,o3,hF,hK3⟩:=bindE hF
 refine qaV (fun e w'=>∃ (b1:Bool),KF3 b1=some r∧e=[(2,.pointer (some ⟨bb1,0,none⟩)),(3,.pointer (some ⟨bb2,0,none⟩)),(5,.int .i64 (W64 ((a_0.Ap.length:Int)-1))),(23,.bool b1)]∧SH w w' [Ch.box bb2 (qfb a_1 p4 p5 k4 k5) 133,Ch.box bb1 (qy a_0 p1 p2 p3 k1 k2 k3) 128]) ?_ ?_
 ·refine X1 5 0 h rfl (zcB h hF qaa rfl fun r7 w11 h hF=>zp2 rfl (qj (t:=17) hF rfl ?_ ?_))<;>intro hF
  ·refine X0 7 rfl ?_
   obtain rfl:=qd hF
   exact rG ⟨_,hK3,rfl,h⟩ rfl
  refine X1 7 0 h rfl (zcB h hF qaa rfl fun r8 w12 h hF=>X0 4 rfl ?_)
  obtain rfl:=qd hF
  exact rG ⟨_,hK3,rfl,h⟩ rfl
 rintro e3 w13 ⟨b1,hF,rfl,h⟩
 subst hKF3
 refine qm rfl hF ?_ ?_<;>intro hF
 ·exact X0 4 rfl (rb h hF rfl)
 refine X2 7 1 0 h rfl ?_
 obtain ⟨y1,hy1,hF,he1,b2,_,q1,cs3,hp1,hq1,hr1,hc2⟩:=s1.ix hF
 obtain rfl:=qdp hr1
 refine zxe hp1 hq1 he1 rfl (zp1 rfl (zc 3 (hc2.below h.below) rfl (X1 14 0 h rfl (qm rfl hF ?_ ?_))))<;>intro hF
 ·refine X0 5 rfl (qj (t:=37) hF rfl ?_ ?_)<;>intro hF
  ·refine X1 10 0 h rfl (qj (t:=43) hF rfl ?_ ?_)<;>intro hF
   ·refine X1 5 0 h rfl (zcB h hF qaa rfl fun r1 w3 h hF=>zp2 rfl (qj (t:=48) hF rfl ?_ ?_))<;>intro hF
    ·refine X1 5 0 h rfl (zcB h hF (qdT ⟨_,_,rfl,(h.oldS s4)⟩) rfl fun r2 w4 h hF=>zp2 rfl (qj (t:=53) hF rfl ?_ ?_))<;>intro hF
     ·exact X1 5 0 h rfl (zcB h hF (qdT ⟨_,_,rfl,(h.oldS s5)⟩) rfl fun r3 w5 h hF=>X0 3 rfl (rb h hF rfl))
     exact X0 6 rfl (rb h hF rfl)
    exact X0 11 rfl (rb h hF rfl)
   exact X0 16 rfl (rb h hF rfl)
  exact X0 22 rfl (rb h hF rfl)
 refine X0 6 rfl ?_
 obtain ⟨KF2,hKF2,o2,hF,hK2⟩:=bindE hF
 refine qaV (fun e w'=>∃ (b3:Bool),KF2 b3=some r∧e=[(2,.pointer (some ⟨bb1,0,none⟩)),(3,.pointer (some ⟨bb2,0,none⟩)),(5,.int .i64 (W64 ((a_0.Ap.length:Int)-1))),(6,.bool y1.Bc),(32,.int .i64 a_1.Ar),(58,.bool b3)]∧SH w w' [Ch.box bb2 (qfb a_1 p4 p5 k4 k5) 133,Ch.box bb1 (qy a_0 p1 p2 p3 k1 k2 k3) 128]) ?_ ?_
 ·refine qm rfl hF ?_ ?_<;>intro hF
  ·refine qdy ?_
   obtain rfl:=qd hF
   exact rG ⟨_,hK2,rfl,h⟩ rfl
  refine X0 4 rfl ?_
  obtain rfl:=qd hF
  exact rG ⟨_,hK2,rfl,h⟩ rfl
 rintro e2 w10 ⟨b3,hF,rfl,h⟩
 subst hKF2
 refine qm rfl hF ?_ ?_<;>intro hF
 ·refine X0 4 rfl (qj (t:=62) hF rfl ?_ ?_)<;>intro hF
  ·refine X1 10 0 h rfl (qj (t:=68) hF rfl ?_ ?_)<;>intro hF
   ·refine X1 8 0 h rfl (qj (t:=73) hF rfl ?_ ?_)<;>intro hF
    ·refine X1 5 0 h rfl (zcB h hF (qdT ⟨_,_,rfl,(h.oldS s4)⟩) rfl fun r4 w6 h hF=>zp2 rfl (qj (t:=78) hF rfl ?_ ?_))<;>intro hF
     ·exact X1 5 0 h rfl (zcB h hF (qdT ⟨_,_,rfl,(h.oldS s5)⟩) rfl fun r5 w7 h hF=>X0 3 rfl (rb h hF rfl))
     exact X0 6 rfl (rb h hF rfl)
    exact X0 11 rfl (rb h hF rfl)
   exact X0 16 rfl (rb h hF rfl)
  exact X0 22 rfl (rb h hF rfl)
 refine X0 6 rfl ?_
 obtain ⟨KF1,hKF1,o1,hF,hK1⟩:=bindE hF
 refine qaV (fun e w'=>∃ (b4:Bool),KF1 b4=some r∧e=[(2,.pointer (some ⟨bb1,0,none⟩)),(3,.pointer (some ⟨bb2,0,none⟩)),(5,.int .i64 (W64 ((a_0.Ap.length:Int)-1))),(6,.bool y1.Bc),(83,.bool b4)]∧SH w w' [Ch.box bb2 (qfb a_1 p4 p5 k4 k5) 133,Ch.box bb1 (qy a_0 p1 p2 p3 k1 k2 k3) 128]) ?_ ?_
 ·refine qm rfl hF ?_ ?_<;>intro hF
  ·refine qdy ?_
   obtain rfl:=qd hF
   exact rG ⟨_,hK1,rfl,h⟩ rfl
  refine X0 4 rfl ?_
  obtain rfl:=qd hF
  exact rG ⟨_,hK1,rfl,h⟩ rfl
 rintro e1 w9 ⟨b4,hF,rfl,h⟩
 subst hKF1
 refine qm rfl hF ?_ ?_<;>intro hF
 ·refine X0 4 rfl (qj (t:=87) hF rfl ?_ ?_)<;>intro hF
  ·refine X1 10 0 h rfl (qj (t:=93) hF rfl ?_ ?_)<;>intro hF
   ·refine X2 9 1 0 h rfl ?_
    obtain ⟨y2,hy2,hF,he2,b5,_,q2,cs4,hp2,hq2,hr7,hc6⟩:=s1.ix hF
    obtain rfl:=qdp hr7
    refine zxe hp2 hq2 he2 rfl (X0 3 rfl (zc 3 (hc6.below h.below) rfl (X0 4 rfl (qj (t:=103) hF rfl ?_ ?_))))<;>intro hF
    ·refine X1 8 0 h rfl (qj (t:=108) hF rfl ?_ ?_)<;>intro hF
     ·refine X1 5 0 h rfl (zcB h hF (qdT ⟨_,_,rfl,(h.oldS s4)⟩) rfl fun r6 w8 h hF=>zp2 rfl (qj (t:=113) hF rfl ?_ ?_))<;>intro hF
      ·exact X1 11 0 h rfl (rb h hF rfl)
      exact X0 7 rfl (rb h hF rfl)
     exact X0 12 rfl (rb h hF rfl)
    exact X0 17 rfl (rb h hF rfl)
   exact X0 27 rfl (rb h hF rfl)
  exact X0 33 rfl (rb h hF rfl)
 exact X0 6 rfl (rb h hF rfl)
def qcv (c:qv):Nat→(List Int)→Int→Option ((List Int) × Int)
 | 0,_,_=>none
 | n+1,x2,i1 =>
  bif decide (i1<(c.Aq.length:Int)) then
   (idx c.Aq i1).bind fun y1 =>
   (idx x2 y1.Ar).bind fun y2 =>
   (idx x2 y1.Ar).bind fun _ =>
   qcv c n (setS x2 y1.Ar (W64 (y2+1))) (W64 (i1+1))
  else
   some (x2,i1)
def qgI (n:Nat) (c:qv):Option (List Int) :=
 (mkS 6 (0:Int)).bind fun x1 =>
 (qcv c n x1 0).bind fun o=>match o with
 | (x2,_) =>
  some x2
theorem qkl {c:qv} (ha1:GoT.R w (old w) c cs1) {r:(List Int)} (hF:qgI n c=some r):RetV Tryz.prog 154 [GoT.v qv cs1] w r:=by
 obtain ⟨p1,k1,p2,k2,p3,k3,rfl,s1,s2,s3⟩:=qQ ha1
 refine zV 25 Tryz.func154 rfl fun h=>zSR (qS h rfl rfl fun w1 bb1 h=>X0 4 rfl ?_)
 obtain ⟨x1,hx1,hF⟩:=qe hF
 obtain ⟨g1,g2,hx1⟩:=qgT hx1
 refine qhT qb Int h rfl rfl rfl rfl rfl rfl rfl rfl rfl g1 g2 hx1 rfl fun w2 S1 p4 h=>X0 7 rfl ?_
 obtain ⟨o1,hF,hK1⟩:=qe hF
 refine qu (rL (fun m e w'=>∃ (x2:(List Int)) (i1:Int),qcv c m x2 i1=some o1∧e=[(1,.pointer (some ⟨bb1,0,none⟩)),(3,.slice p4 x1.length x1.length),(4,.int .i64 i1)]∧SH w w' [Ch.own S1 (x2:List Int) [.slice p4 x1.length x1.length],Ch.box bb1 (qy c p1 p2 p3 k1 k2 k3) 128]) n ⟨_,_,hF,rfl,h⟩ rfl ?_)
 rintro m1 e1 w3 ⟨x2,i1,hF,rfl,h⟩
 rcases m1 with _|m1
 ·cases hF
 refine X1 9 1 h rfl (qm rfl hF ?_ ?_)<;>intro hF
 ·refine X1 8 1 h rfl ?_
  obtain ⟨y1,hy1,hF,he1,b1,_,q1,cs2,hp1,hq1,hr1,hc2⟩:=s2.ix hF
  obtain ⟨p5,k4,p6,k5,rfl,s4,s5⟩:=qaE hr1
  refine zxe hp1 hq1 he1 rfl (zp1 rfl (zc 0 (hc2.below h.below) rfl ?_))
  obtain ⟨y2,hy2,hF,he2,b2,_,q2,cs3,hp2,hq2,rfl,hc3⟩:=(h.sl 0 rfl).1.ix hF
  refine zx hp2 hq2 ⟨he2.1,qab he2.2.1 (h.sl 0 rfl).2⟩ rfl (zc 0 hc3 rfl (zp1 rfl ?_))
  obtain ⟨y3,hy3,hF,he3,b3,_,q3,cs4,hp3,hq3,rfl,hc4⟩:=(h.sl 0 rfl).1.ix hF
  exact zx hp3 hq3 ⟨he3.1,qab he3.2.1 (h.sl 0 rfl).2⟩ rfl (qd8 qb 0 0 (W64 (y2+1)) h rfl hy3 hp3 hq3 rfl hc4 rfl rfl rfl rfl rfl rfl rfl fun w4 h=>X0 7 rfl (rK ⟨_,_,hF,rfl,h⟩ rfl))
 refine qA rfl ?_
 obtain rfl:=qd hF;replace hF:=hK1
 refine X0 5 rfl ?_
 obtain rfl:=qd hF
 exact rO 0 h rfl ⟨rfl,trivial⟩
def qcD (a_0:qv) (i1:Int) (y1:qag):Nat→Int→Option (Flow Bool Int)
 | 0,_=>none
 | n+1,i2 =>
  bif decide (i2<i1) then
   (idx a_0.Aq i2).bind fun y2 =>
   bif (y2.Ar==y1.Ar) then
    (idx a_0.Aq i2).bind fun y3 =>
    bif (y3.As==y1.As) then
     (idx a_0.Aq i2).bind fun y4 =>
     bif (y4.To==y1.To) then some (.ret false) else
     qcD a_0 i1 y1 n (W64 (i2+1))
    else
     qcD a_0 i1 y1 n (W64 (i2+1))
   else
    qcD a_0 i1 y1 n (W64 (i2+1))
  else
   some (.nxt i2)
def qet (a_0:qv):Nat→Int→Option (Flow Bool Int)
 | 0,_=>none
 | n+1,i3 =>
  bif decide (i3<(a_0.Bb.length:Int)) then
   (idx a_0.Bb i3).bind fun y5 =>
   (qaq n y5 0 1).bind fun r6 =>
   bif (!r6) then some (.ret false) else
   qet a_0 n (W64 (i3+1))
  else
   some (.nxt i3)
def qeq (a_0:qv):Nat→Int→Option (Flow Bool Int)
 | 0,_=>none
 | n+1,i1 =>
  bif decide (i1<(a_0.Aq.length:Int)) then
   (idx a_0.Aq i1).bind fun y1 =>
   (qhO n a_0 y1).bind fun r4 =>
   bif (!r4) then some (.ret false) else
   (qcD a_0 i1 y1 n 0).bind fun o=>match o with
   | .ret r=>some (.ret r)
   | .nxt _ =>
    qeq a_0 n (W64 (i1+1))
  else
   some (.nxt i1)
def qhK (n:Nat) (a_0:qv):Option Bool :=
 (qhi n a_0).bind fun o=>match o with
  | (r2,r3) =>
   (
    bif (!r3) then some true else
    (qfp n a_0.Au).bind fun r7 =>
    bif (!r7) then some true else
    bif decide ((a_0.Aq.length:Int) > 8) then some true else
    (qaq n a_0.Br 0 100000).bind fun r8 =>
    bif (!r8) then some true else
    (qaq n a_0.Bm 0 100000).bind fun r9 =>
    some (!r9)).bind fun b1 =>
   bif b1 then some false else
   (qeq a_0 n 0).bind fun o=>match o with
   | .ret r=>some r
   | .nxt _ =>
    (qgI n a_0).bind fun r5 =>
    bif (a_0.Ar==1) then
     (qet a_0 n 0).bind fun o=>match o with
     | .ret r=>some r
     | .nxt _ =>
      bif (r2==0) then
       (shlS 1 (IntKind.wrap .u64 (W64 ((a_0.Ap.length:Int)-1)))).bind fun y6 =>
       some ((a_0.Bb.length:Int)==y6)
      else
       some false
    else
     bif (a_0.Ar==2) then
      bif (r2==1) then
       (idx r5 1).bind fun y7 =>
       bif (y7==0) then
        (idx r5 2).bind fun y8 =>
        (idx r5 3).bind fun y9 =>
        bif (!((decide (y8 > 0))==(decide (y9 > 0)))) then some ((a_0.Bb.length:Int)==0) else
        some false
       else
        some false
      else
       some false
     else
      bif (a_0.Ar==3) then
       bif (r2==1) then
        (idx r5 1).bind fun y10 =>
        bif decide (y10 > 0) then
         (idx r5 2).bind fun y11 =>
         bif decide (y11 > 0) then
          (idx r5 3).bind fun y12 =>
          bif (y12==0) then some ((a_0.Bb.length:Int)==0) else
          some false
         else
          some false
        else
         some false
       else
        some false
      else
       some false
theorem qlH {a_0:qv} (ha1:GoT.R w (old w) a_0 cs1) {r:Bool} (hF:qhK n a_0=some r):RetV Tryz.prog 136 [GoT.v qv cs1] w r:=by
 obtain ⟨p1,k1,p2,k2,p3,k3,rfl,s1,s2,s3⟩:=qQ ha1
 refine zV 182 Tryz.func136 rfl fun h=>zSR (qS h rfl rfl fun w1 bb1 h=>X1 5 0 h rfl ?_)
 obtain ⟨r1,hr1,hF⟩:=qe hF
 obtain ⟨r2,r3⟩:=r1
 refine qbM (r2,r3) h (cB 152 rfl) (qkY (h.old ha1) hr1) rfl rfl rfl rfl fun w2 S1 us1 hv1 hr2=>?_
 obtain ⟨S2,us2,rfl,hv2,hr3⟩:=hv1.consI hr2
 obtain ⟨rfl,h⟩:=hv2.lastB hr3
 refine X0 8 rfl ?_
 obtain ⟨KF1,hKF1,o4,hF,hK4⟩:=bindE hF
 refine qaV (fun e w'=>∃ (b1:Bool),KF1 b1=some r∧e=[(1,.pointer (some ⟨bb1,0,none⟩)),(3,.int .i64 r2),(40,.bool b1)]∧SH w w' [Ch.box bb1 (qy a_0 p1 p2 p3 k1 k2 k3) 128]) ?_ ?_
 ·refine X0 4 rfl (qj (t:=17) hF rfl ?_ ?_)<;>intro hF
  ·refine X0 24 rfl ?_
   obtain rfl:=qd hF
   exact rG ⟨_,hK4,rfl,h⟩ rfl
  refine X1 5 0 h rfl (zcB h hF qg1 rfl fun r7 w18 h hF=>X0 4 rfl (qj (t:=23) hF rfl ?_ ?_))<;>intro hF
  ·refine X0 18 rfl ?_
   obtain rfl:=qd hF
   exact rG ⟨_,hK4,rfl,h⟩ rfl
  refine X1 10 0 h rfl (qj (t:=29) hF rfl ?_ ?_)<;>intro hF
  ·refine X0 12 rfl ?_
   obtain rfl:=qd hF
   exact rG ⟨_,hK4,rfl,h⟩ rfl
  refine X1 5 0 h rfl (zcB h hF qaa rfl fun r8 w19 h hF=>X0 4 rfl (qj (t:=35) hF rfl ?_ ?_))<;>intro hF
  ·refine X0 6 rfl ?_
   obtain rfl:=qd hF
   exact rG ⟨_,hK4,rfl,h⟩ rfl
  refine X1 5 0 h rfl (zcB h hF qaa rfl fun r9 w20 h hF=>X0 4 rfl ?_)
  obtain rfl:=qd hF
  exact rG ⟨_,hK4,rfl,h⟩ rfl
 rintro e4 w21 ⟨b1,hF,rfl,h⟩
 subst hKF1
 refine qm rfl hF ?_ ?_<;>intro hF
 ·exact X0 4 rfl (rb h hF rfl)
 refine X0 6 rfl ?_
 obtain ⟨o1,hF,hK1⟩:=qe hF
 refine qu (rL (fun m e w'=>∃ (i1:Int),qeq a_0 m i1=some o1∧e=[(1,.pointer (some ⟨bb1,0,none⟩)),(3,.int .i64 r2),(5,.int .i64 i1)]∧SH w w' [Ch.box bb1 (qy a_0 p1 p2 p3 k1 k2 k3) 128]) n ⟨_,hF,rfl,h⟩ rfl ?_)
 rintro m1 e1 w3 ⟨i1,hF,rfl,h⟩
 rcases m1 with _|m1
 ·cases hF
 refine X1 9 0 h rfl (qm rfl hF ?_ ?_)<;>intro hF
 ·refine X1 8 0 h rfl ?_
  obtain ⟨y1,hy1,hF,he1,b2,_,q1,cs2,hp1,hq1,hr5,hc3⟩:=s2.ix hF
  obtain ⟨p4,k4,p5,k5,rfl,s4,s5⟩:=qaE hr5
  refine zxe hp1 hq1 he1 rfl (zc 0 (hc3.below h.below) rfl (qx qb h rfl rfl rfl fun w4 bb2 h=>zs 0 h rfl fun w5 h=>X2 6 1 0 h rfl (zcB h hF (qlg (h.old ha1) (qhw y1 (h.oldS s4) (h.oldS s5))) rfl fun r4 w6 h hF=>X0 2 rfl (qm rfl hF ?_ ?_))))<;>intro hF
  ·refine X0 4 rfl ?_
   obtain rfl:=qd hF;replace hF:=hK1
   exact rb h hF rfl
  refine X0 5 rfl ?_
  obtain ⟨o2,hF,hK2⟩:=qe hF
  refine qu (rL (fun m e w'=>∃ (i2:Int),qcD a_0 i1 y1 m i2=some o2∧e=[(1,.pointer (some ⟨bb1,0,none⟩)),(3,.int .i64 r2),(5,.int .i64 i1),(6,.pointer (some ⟨bb2,0,none⟩)),(7,.int .i64 i2)]∧SH w w' [Ch.box bb2 (qfb y1 p4 p5 k4 k5) 133,Ch.box bb1 (qy a_0 p1 p2 p3 k1 k2 k3) 128]) m1 ⟨_,hF,rfl,h⟩ rfl ?_)
  rintro m2 e2 w7 ⟨i2,hF,rfl,h⟩
  rcases m2 with _|m2
  ·cases hF
  refine X0 7 rfl (qm rfl hF ?_ ?_)<;>intro hF
  ·refine X0 4 rfl (rD (Y1 2 1 h rfl ?_))
   refine zd1 rfl ?_
   obtain ⟨y2,hy2,hF,he2,b3,_,q2,cs3,hp2,hq2,hr7,hc6⟩:=s2.ix hF
   obtain ⟨p6,k6,p7,k7,rfl,s6,s7⟩:=qaE hr7
   refine zdxe hp2 hq2 he2 rfl (zd1 rfl (zdc 0 (hc6.below h.below) rfl (Y1 2 0 h rfl ?_)))
   refine zd2 rfl (qaJ (t:=71) hF rfl ?_ ?_)<;>intro hF
   ·refine Y1 4 1 h rfl ?_
    refine Y0 3 rfl ?_
    obtain ⟨y3,hy3,hF,he3,b4,_,q3,cs4,hp3,hq3,hr8,hc7⟩:=s2.ix hF
    obtain ⟨p8,k8,p9,k9,rfl,s8,s9⟩:=qaE hr8
    refine zdxe hp3 hq3 he3 rfl (Y0 3 rfl (zdc 1 (hc7.below h.below) rfl (Y1 4 0 h rfl ?_)))
    refine Y0 4 rfl (qaJ (t:=82) hF rfl ?_ ?_)<;>intro hF
    ·refine Y1 4 1 h rfl ?_
     refine Y0 3 rfl ?_
     obtain ⟨y4,hy4,hF,he4,b5,_,q4,cs5,hp4,hq4,hr9,hc8⟩:=s2.ix hF
     obtain ⟨p10,k10,p11,k11,rfl,s10,s11⟩:=qaE hr9
     refine zdxe hp4 hq4 he4 rfl (Y0 3 rfl (zdc 2 (hc8.below h.below) rfl (Y1 4 0 h rfl ?_)))
     refine Y0 3 rfl (dN h fun w8 h=>qm rfl hF ?_ ?_)<;>intro hF
     ·refine X0 4 rfl ?_
      obtain rfl:=qd hF;replace hF:=hK2
      obtain rfl:=qd hF;replace hF:=hK1
      exact rb h hF rfl
     exact X0 7 rfl (rK ⟨_,hF,rfl,h⟩ rfl)
    exact Y0 10 rfl (dN h fun w9 h=>qbO rfl rfl (X0 7 rfl (rK ⟨_,hF,rfl,h⟩ rfl)))
   exact Y0 21 rfl (dN h fun w10 h=>qbO rfl rfl (X0 7 rfl (rK ⟨_,hF,rfl,h⟩ rfl)))
  refine qA rfl ?_
  obtain rfl:=qd hF;replace hF:=hK2
  refine X0 6 rfl ?_
  replace h:=h.pick [1] rfl
  exact rK ⟨_,hF,rfl,h⟩ rfl
 refine qA rfl ?_
 obtain rfl:=qd hF;replace hF:=hK1
 refine X1 3 0 h rfl (zcL h hF (qkl (h.old ha1)) rfl fun r5 w11 S4 p12 k12 h hF=>X1 14 1 h rfl (qm rfl hF ?_ ?_))<;>intro hF
 ·refine X0 5 rfl ?_
  obtain ⟨o3,hF,hK3⟩:=qe hF
  refine qu ?_
  replace h:=h.pick [1] rfl
  refine rL (fun m e w'=>∃ (i3:Int),qet a_0 m i3=some o3∧e=[(1,.pointer (some ⟨bb1,0,none⟩)),(3,.int .i64 r2),(9,.int .i64 i3)]∧SH w w' [Ch.box bb1 (qy a_0 p1 p2 p3 k1 k2 k3) 128]) n ⟨_,hF,rfl,h⟩ rfl ?_
  rintro m3 e3 w12 ⟨i3,hF,rfl,h⟩
  rcases m3 with _|m3
  ·cases hF
  refine X1 9 0 h rfl (qm rfl hF ?_ ?_)<;>intro hF
  ·refine X1 8 0 h rfl ?_
   obtain ⟨y5,hy5,hF,he5,b6,_,q5,cs6,hp5,hq5,rfl,hc12⟩:=s3.ix hF
   refine zxe hp5 hq5 he5 rfl (zc 0 (hc12.below h.below) rfl (zcB h hF qaa rfl fun r6 w13 h hF=>X0 2 rfl (qm rfl hF ?_ ?_)))<;>intro hF
   ·refine X0 4 rfl ?_
    obtain rfl:=qd hF;replace hF:=hK3
    exact rb h hF rfl
   exact X0 7 rfl (rK ⟨_,hF,rfl,h⟩ rfl)
  refine qA rfl ?_
  obtain rfl:=qd hF;replace hF:=hK3
  refine X0 5 rfl (qj (t:=115) hF rfl ?_ ?_)<;>intro hF
  ·refine X2 17 0 0 h rfl ?_
   obtain ⟨y6,hx1,hF⟩:=qe hF
   obtain ⟨g1,hx1⟩:=qjh hx1
   refine r_v (qn2 g1 rfl rfl) rfl ?_
   rw [hx1]
   exact X0 5 rfl (rb h hF rfl)
  exact X0 13 rfl (rb h hF rfl)
 refine X0 5 rfl (qm rfl hF ?_ ?_)<;>intro hF
 ·refine qfd (rD (zd3 rfl (qaJ (t:=131) hF rfl ?_ ?_)))<;>intro hF
  ·refine Y0 3 rfl ?_
   obtain ⟨y7,hy6,hF,he6,b7,_,q6,cs7,hp6,hq6,rfl,hc15⟩:=(h.sl 0 rfl).1.ix hF
   refine zdx hp6 hq6 ⟨he6.1,qab he6.2.1 (h.sl 0 rfl).2⟩ rfl (Y0 1 rfl (zdc 0 hc15 rfl (Y0 4 rfl (qaJ (t:=137) hF rfl ?_ ?_))))<;>intro hF
   ·refine Y0 3 rfl ?_
    obtain ⟨y8,hy7,hF,he7,b8,_,q7,cs8,hp7,hq7,rfl,hc16⟩:=(h.sl 0 rfl).1.ix hF
    refine zdx hp7 hq7 ⟨he7.1,qab he7.2.1 (h.sl 0 rfl).2⟩ rfl (Y0 1 rfl (zdc 0 hc16 rfl (Y0 5 rfl ?_)))
    obtain ⟨y9,hy8,hF,he8,b9,_,q8,cs9,hp8,hq8,rfl,hc17⟩:=(h.sl 0 rfl).1.ix hF
    refine zdx hp8 hq8 ⟨he8.1,qab he8.2.1 (h.sl 0 rfl).2⟩ rfl (Y0 1 rfl (zdc 0 hc17 rfl (Y0 6 rfl (qaJ (t:=148) hF rfl ?_ ?_))))<;>intro hF
    ·refine Y1 4 1 h rfl ?_
     exact Y0 6 rfl (dN h fun w14 h=>rb h hF rfl)
    exact Y0 6 rfl (dN h fun w15 h=>rb h hF rfl)
   exact Y0 17 rfl (dN h fun w16 h=>rb h hF rfl)
  exact Y0 23 rfl (dN h fun w17 h=>rb h hF rfl)
 refine X0 5 rfl (qm rfl hF ?_ ?_)<;>intro hF
 ·refine X0 5 rfl (qj (t:=158) hF rfl ?_ ?_)<;>intro hF
  ·refine X0 3 rfl ?_
   obtain ⟨y10,hy9,hF,he9,b10,_,q9,cs10,hp9,hq9,rfl,hc19⟩:=(h.sl 0 rfl).1.ix hF
   refine zx hp9 hq9 ⟨he9.1,qab he9.2.1 (h.sl 0 rfl).2⟩ rfl (X0 1 rfl (zc 0 hc19 rfl (X0 4 rfl (qj (t:=164) hF rfl ?_ ?_))))<;>intro hF
   ·refine X0 3 rfl ?_
    obtain ⟨y11,hy10,hF,he10,b11,_,q10,cs11,hp10,hq10,rfl,hc20⟩:=(h.sl 0 rfl).1.ix hF
    refine zx hp10 hq10 ⟨he10.1,qab he10.2.1 (h.sl 0 rfl).2⟩ rfl (X0 1 rfl (zc 0 hc20 rfl (X0 4 rfl (qj (t:=170) hF rfl ?_ ?_))))<;>intro hF
    ·refine X0 3 rfl ?_
     obtain ⟨y12,hy11,hF,he11,b12,_,q11,cs12,hp11,hq11,rfl,hc21⟩:=(h.sl 0 rfl).1.ix hF
     refine zx hp11 hq11 ⟨he11.1,qab he11.2.1 (h.sl 0 rfl).2⟩ rfl (X0 1 rfl (zc 0 hc21 rfl (X0 4 rfl (qj (t:=176) hF rfl ?_ ?_))))<;>intro hF
     ·exact X1 11 1 h rfl (rb h hF rfl)
     exact X0 7 rfl (rb h hF rfl)
    exact X0 13 rfl (rb h hF rfl)
   exact X0 19 rfl (rb h hF rfl)
  exact X0 25 rfl (rb h hF rfl)
 exact X0 6 rfl (rb h hF rfl)
def qcP (l:qq) (i1:Int):Nat→Int→Option (Flow Bool Int)
 | 0,_=>none
 | n+1,i2 =>
  bif decide (i2<i1) then
   (idx l.Ai i2).bind fun y2 =>
   (idx l.Ai i1).bind fun y3 =>
   bif (y2.Au.toList==y3.Au.toList) then some (.ret false) else
   qcP l i1 n (W64 (i2+1))
  else
   some (.nxt i2)
def qcR (l:qq):Nat→Int→Option (Flow Bool Int)
 | 0,_=>none
 | n+1,i1 =>
  bif decide (i1<(l.Ai.length:Int)) then
   (idx l.Ai i1).bind fun y1 =>
   (qhK n y1).bind fun r1 =>
   bif (!r1) then some (.ret false) else
   (qcP l i1 n 0).bind fun o=>match o with
   | .ret r=>some (.ret r)
   | .nxt _ =>
    qcR l n (W64 (i1+1))
  else
   some (.nxt i1)
def qf7 (n:Nat) (l:qq):Option Bool :=
 (qcR l n 0).bind fun o=>match o with
 | .ret r=>some r
 | .nxt _ =>
  some (decide ((l.Ai.length:Int)≤8))
theorem qjV {l:qq} (ha1:GoT.R w (old w) l cs1) {r:Bool} (hF:qf7 n l=some r):RetV Tryz.prog 104 [GoT.v qq cs1] w r:=by
 obtain ⟨p1,k1,rfl,s1⟩:=qbL ha1
 refine zV 41 Tryz.func104 rfl fun h=>zSR (qS h rfl rfl fun w1 bb1 h=>X0 7 rfl ?_)
 obtain ⟨o1,hF,hK1⟩:=qe hF
 refine qu (rL (fun m e w'=>∃ (i1:Int),qcR l m i1=some o1∧e=[(1,.pointer (some ⟨bb1,0,none⟩)),(3,.int .i64 i1)]∧SH w w' [Ch.box bb1 [.slice p1 l.Ai.length k1] 26]) n ⟨_,hF,rfl,h⟩ rfl ?_)
 rintro m1 e1 w2 ⟨i1,hF,rfl,h⟩
 rcases m1 with _|m1
 ·cases hF
 refine X1 9 0 h rfl (qm rfl hF ?_ ?_)<;>intro hF
 ·refine X1 9 0 h rfl ?_
  obtain ⟨y1,hy1,hF,he1,b1,_,q1,cs2,hp1,hq1,hr1,hc2⟩:=s1.ix hF
  obtain ⟨p2,k2,p3,k3,p4,k4,rfl,s2,s3,s4⟩:=qQ hr1
  refine zxe hp1 hq1 he1 rfl (zc 0 (hc2.below h.below) rfl (zcB h hF (qlH (qjn y1 (h.oldS s2) (h.oldS s3) (h.oldS s4))) rfl fun r1 w3 h hF=>X0 2 rfl (qm rfl hF ?_ ?_)))<;>intro hF
  ·refine X0 4 rfl ?_
   obtain rfl:=qd hF;replace hF:=hK1
   exact rb h hF rfl
  refine X0 5 rfl ?_
  obtain ⟨o2,hF,hK2⟩:=qe hF
  refine qu (rL (fun m e w'=>∃ (i2:Int),qcP l i1 m i2=some o2∧e=[(1,.pointer (some ⟨bb1,0,none⟩)),(3,.int .i64 i1),(4,.int .i64 i2)]∧SH w w' [Ch.box bb1 [.slice p1 l.Ai.length k1] 26]) m1 ⟨_,hF,rfl,h⟩ rfl ?_)
  rintro m2 e2 w4 ⟨i2,hF,rfl,h⟩
  rcases m2 with _|m2
  ·cases hF
  refine X0 7 rfl (qm rfl hF ?_ ?_)<;>intro hF
  ·refine X0 4 rfl (rD (Y1 2 0 h rfl ?_))
   refine zd1 rfl ?_
   obtain ⟨y2,hy2,hF,he2,b2,_,q2,cs3,hp2,hq2,hr3,hc5⟩:=s1.ix hF
   obtain ⟨p5,k5,p6,k6,p7,k7,rfl,s5,s6,s7⟩:=qQ hr3
   refine zdxe hp2 hq2 he2 rfl (zd1 rfl (zdc 0 (hc5.below h.below) rfl (Y1 2 0 h rfl ?_)))
   refine zd1 rfl ?_
   obtain ⟨y3,hy3,hF,he3,b3,_,q3,cs4,hp3,hq3,hr4,hc6⟩:=s1.ix hF
   obtain ⟨p8,k8,p9,k9,p10,k10,rfl,s8,s9,s10⟩:=qQ hr4
   refine zdxe hp3 hq3 he3 rfl (zd1 rfl (zdc 0 (hc6.below h.below) rfl (zd1 rfl (dN h fun w5 h=>qm rfl hF ?_ ?_))))<;>intro hF
   ·refine X0 4 rfl ?_
    obtain rfl:=qd hF;replace hF:=hK2
    obtain rfl:=qd hF;replace hF:=hK1
    exact rb h hF rfl
   exact X0 7 rfl (rK ⟨_,hF,rfl,h⟩ rfl)
  refine qA rfl ?_
  obtain rfl:=qd hF;replace hF:=hK2
  exact X0 6 rfl (rK ⟨_,hF,rfl,h⟩ rfl)
 refine qA rfl ?_
 obtain rfl:=qd hF;replace hF:=hK1
 exact X1 8 0 h rfl (rb h hF rfl)
end Go.Fw


namespace Go.Fw
open Go Go.Proofs
open Go.RowKit (Below)
set_option maxRecDepth 100000
set_option maxHeartbeats 6400000
variable {n:Nat} {w:World} {cs1 cs2 cs3 cs4 cs5 cs6 cs7 cs8 cs9:List Value}
def qdk (a_1:qg) (y1:qw):Nat→Int→Option (Flow Bool Int)
 | 0,_=>none
 | n+1,i2 =>
  bif decide (i2<(y1.Aj.length:Int)) then
   (idx y1.Aj i2).bind fun y2 =>
   (qaq n y2 0 (W64 ((a_1.Aj.length:Int)-1))).bind fun r1 =>
   bif (!r1) then some (.ret false) else
   qdk a_1 y1 n (W64 (i2+1))
  else
   some (.nxt i2)
def qdl (a_1:qg):Nat→Int→Option (Flow Bool Int)
 | 0,_=>none
 | n+1,i3 =>
  bif decide (i3<(a_1.Af.length:Int)) then
   (idx a_1.Af i3).bind fun y4 =>
   (qaq n y4.Bn 1 2).bind fun r3 =>
   bif (!r3) then some (.ret false) else
   (idx a_1.Af i3).bind fun y5 =>
   (qaq n y5.Bq 0 (W64 ((a_1.Aj.length:Int)-1))).bind fun r4 =>
   bif (!r4) then some (.ret false) else
   qdl a_1 n (W64 (i3+1))
  else
   some (.nxt i3)
def qdh (a_0:qq) (a_1:qg):Nat→Int→Option (Flow Bool Int)
 | 0,_=>none
 | n+1,i1 =>
  bif decide (i1<(a_1.Ab.length:Int)) then
   (idx a_1.Ab i1).bind fun y1 =>
   (
    (qaq n y1.Az 0 (W64 ((a_0.Ai.length:Int)-1))).bind fun r2 =>
    bif (!r2) then some true else
    (idx a_0.Ai y1.Az).bind fun y3 =>
    some ((y1.Aj.length:Int) != (y3.Ap.length:Int))).bind fun b2 =>
   bif b2 then some (.ret false) else
   (qdk a_1 y1 n 0).bind fun o=>match o with
   | .ret r=>some (.ret r)
   | .nxt _ =>
    qdh a_0 a_1 n (W64 (i1+1))
  else
   some (.nxt i1)
def qgL (n:Nat) (a_0:qq) (a_1:qg):Option Bool :=
 (qdh a_0 a_1 n 0).bind fun o=>match o with
 | .ret r=>some r
 | .nxt _ =>
  (qdl a_1 n 0).bind fun o=>match o with
  | .ret r=>some r
  | .nxt _ =>
   some true
theorem qkt {a_0:qq} {a_1:qg} (ha1:GoT.R w (old w) a_0 cs1) (ha2:GoT.R w (old w) a_1 cs2) {r:Bool} (hF:qgL n a_0 a_1=some r):RetV Tryz.prog 105 [GoT.v qq cs1,GoT.v qg cs2] w r:=by
 obtain ⟨p1,k1,rfl,s1⟩:=qbL ha1
 obtain ⟨p2,k2,p3,k3,p4,k4,rfl,s2,s3,s4⟩:=qaz ha2
 refine zV 90 Tryz.func105 rfl fun h=>zSR (qS h rfl rfl fun w1 bb1 h=>qS h rfl rfl fun w2 bb2 h=>X1 14 0 h rfl ?_)
 obtain ⟨o1,hF,hK1⟩:=qe hF
 refine qu (rL (fun m e w'=>∃ (i1:Int),qdh a_0 a_1 m i1=some o1∧e=[(2,.pointer (some ⟨bb1,0,none⟩)),(3,.pointer (some ⟨bb2,0,none⟩)),(5,.int .i64 (a_1.Aj.length:Int)),(6,.int .i64 i1)]∧SH w w' [Ch.box bb2 (qaj a_1 p2 p3 p4 k2 k3 k4) 31,Ch.box bb1 [.slice p1 a_0.Ai.length k1] 26]) n ⟨_,hF,rfl,h⟩ rfl ?_)
 rintro m1 e1 w3 ⟨i1,hF,rfl,h⟩
 rcases m1 with _|m1
 ·cases hF
 refine X1 9 0 h rfl (qm rfl hF ?_ ?_)<;>intro hF
 ·refine X1 8 0 h rfl ?_
  obtain ⟨y1,hy1,hF,he1,b1,_,q1,cs3,hp1,hq1,hr1,hc2⟩:=s2.ix hF
  obtain ⟨p5,k5,rfl,s5⟩:=qax hr1
  refine zxe hp1 hq1 he1 rfl (zc 0 (hc2.below h.below) rfl (qx qb h rfl rfl rfl fun w4 bb3 h=>zs 0 h rfl fun w5 h=>zNSS ?_))
  obtain ⟨KF1,hKF1,o3,hF,hK3⟩:=bindE hF
  refine qaV (fun e w'=>∃ (b2:Bool),KF1 b2=some o1∧e=[(2,.pointer (some ⟨bb1,0,none⟩)),(3,.pointer (some ⟨bb2,0,none⟩)),(5,.int .i64 (a_1.Aj.length:Int)),(6,.int .i64 i1),(7,.pointer (some ⟨bb3,0,none⟩)),(46,.bool b2)]∧SH w w' [Ch.box bb3 (qgS y1 p5 k5) 111,Ch.box bb2 (qaj a_1 p2 p3 p4 k2 k3 k4) 31,Ch.box bb1 [.slice p1 a_0.Ai.length k1] 26]) ?_ ?_
  ·refine rD (Y1 2 0 h rfl ?_)
   refine Y1 2 2 h rfl ?_
   refine zd2 rfl ?_
   obtain ⟨r2,hr4,hF⟩:=qe hF
   refine qcq r2 (vsB _) (cB 39 rfl) (fun _ hb=>qaa  hr4) rfl rfl rfl rfl (zd2 rfl (qaJ (t:=33) hF rfl ?_ ?_))<;>intro hF
   ·refine Y0 13 rfl (dN h fun w8 h=>?_)
    obtain rfl:=qd hF
    exact rG ⟨_,hK3,rfl,h⟩ rfl
   refine Y1 4 0 h rfl ?_
   refine Y1 6 2 h rfl ?_
   refine Y1 4 0 h rfl ?_
   refine Y0 1 rfl ?_
   obtain ⟨y3,hy3,hF,he3,b4,_,q3,cs5,hp3,hq3,hr5,hc7⟩:=s1.ix hF
   obtain ⟨p6,k6,p7,k7,p8,k8,rfl,s6,s7,s8⟩:=qQ hr5
   refine zdxe hp3 hq3 he3 rfl (Y0 3 rfl (zdc 2 (hc7.below h.below) rfl (Y0 5 rfl (dN h fun w9 h=>?_))))
   obtain rfl:=qd hF
   exact rG ⟨_,hK3,rfl,h⟩ rfl
  rintro e3 w10 ⟨b2,hF,rfl,h⟩
  subst hKF1
  refine qm rfl hF ?_ ?_<;>intro hF
  ·refine X0 4 rfl ?_
   obtain rfl:=qd hF;replace hF:=hK1
   exact rb h hF rfl
  refine X0 5 rfl ?_
  obtain ⟨o2,hF,hK2⟩:=qe hF
  refine qu (rL (fun m e w'=>∃ (i2:Int),qdk a_1 y1 m i2=some o2∧e=[(2,.pointer (some ⟨bb1,0,none⟩)),(3,.pointer (some ⟨bb2,0,none⟩)),(5,.int .i64 (a_1.Aj.length:Int)),(6,.int .i64 i1),(7,.pointer (some ⟨bb3,0,none⟩)),(8,.int .i64 i2)]∧SH w w' [Ch.box bb3 (qgS y1 p5 k5) 111,Ch.box bb2 (qaj a_1 p2 p3 p4 k2 k3 k4) 31,Ch.box bb1 [.slice p1 a_0.Ai.length k1] 26]) m1 ⟨_,hF,rfl,h⟩ rfl ?_)
  rintro m2 e2 w6 ⟨i2,hF,rfl,h⟩
  rcases m2 with _|m2
  ·cases hF
  refine X1 9 0 h rfl (qm rfl hF ?_ ?_)<;>intro hF
  ·refine X1 8 0 h rfl ?_
   obtain ⟨y2,hy2,hF,he2,b3,_,q2,cs4,hp2,hq2,rfl,hc5⟩:=s5.ix hF
   refine zxe hp2 hq2 he2 rfl (zc 0 (hc5.below h.below) rfl (zp2 rfl (zcB h hF qaa rfl fun r1 w7 h hF=>X0 2 rfl (qm rfl hF ?_ ?_))))<;>intro hF
   ·refine X0 4 rfl ?_
    obtain rfl:=qd hF;replace hF:=hK2
    obtain rfl:=qd hF;replace hF:=hK1
    exact rb h hF rfl
   exact X0 7 rfl (rK ⟨_,hF,rfl,h⟩ rfl)
  refine qA rfl ?_
  obtain rfl:=qd hF;replace hF:=hK2
  refine X0 6 rfl ?_
  replace h:=h.pick [1,2] rfl
  exact rK ⟨_,hF,rfl,h⟩ rfl
 refine qA rfl ?_
 obtain rfl:=qd hF;replace hF:=hK1
 refine X0 5 rfl ?_
 obtain ⟨o4,hF,hK4⟩:=qe hF
 refine qu ?_
 replace h:=h.pick [0] rfl
 refine rL (fun m e w'=>∃ (i3:Int),qdl a_1 m i3=some o4∧e=[(3,.pointer (some ⟨bb2,0,none⟩)),(5,.int .i64 (a_1.Aj.length:Int)),(9,.int .i64 i3)]∧SH w w' [Ch.box bb2 (qaj a_1 p2 p3 p4 k2 k3 k4) 31]) n ⟨_,hF,rfl,h⟩ rfl ?_
 rintro m3 e4 w11 ⟨i3,hF,rfl,h⟩
 rcases m3 with _|m3
 ·cases hF
 refine X1 9 0 h rfl (qm rfl hF ?_ ?_)<;>intro hF
 ·refine X1 8 0 h rfl ?_
  obtain ⟨y4,hy4,hF,he4,b5,_,q4,cs6,hp4,hq4,hr6,hc9⟩:=s4.ix hF
  obtain rfl:=qc0 hr6
  refine zxe hp4 hq4 he4 rfl (zp1 rfl (zc 1 (hc9.below h.below) rfl (zcB h hF qaa rfl fun r3 w12 h hF=>zp2 rfl (qj (t:=78) hF rfl ?_ ?_))))<;>intro hF
  ·refine X0 12 rfl (qdb rfl rfl (X0 4 rfl ?_))
   obtain rfl:=qd hF;replace hF:=hK4
   exact rb h hF rfl
  refine X1 7 0 h rfl ?_
  obtain ⟨y5,hy5,hF,he5,b6,_,q5,cs7,hp5,hq5,hr8,hc10⟩:=s4.ix hF
  obtain rfl:=qc0 hr8
  refine zxe hp5 hq5 he5 rfl (X0 3 rfl (zc 2 (hc10.below h.below) rfl (X0 5 rfl (zcB h hF qaa rfl fun r4 w13 h hF=>X0 4 rfl (qm rfl hF ?_ ?_)))))<;>intro hF
  ·refine X0 4 rfl ?_
   obtain rfl:=qd hF;replace hF:=hK4
   exact rb h hF rfl
  exact X0 7 rfl (rK ⟨_,hF,rfl,h⟩ rfl)
 refine qA rfl ?_
 obtain rfl:=qd hF;replace hF:=hK4
 exact X0 4 rfl (rb h hF rfl)
def qdn (list:(List ByteArray)) (i1:Int):Nat→Int→Option (Flow Bool Int)
 | 0,_=>none
 | n+1,i2 =>
  bif decide (i2<i1) then
   (idx list i2).bind fun y2 =>
   (idx list i1).bind fun y3 =>
   bif (y2.toList==y3.toList) then some (.ret false) else
   qdn list i1 n (W64 (i2+1))
  else
   some (.nxt i2)
def qdt (list:(List ByteArray)):Nat→Int→Option (Flow Bool Int)
 | 0,_=>none
 | n+1,i1 =>
  bif decide (i1<(list.length:Int)) then
   (idx list i1).bind fun y1 =>
   (qfp n y1).bind fun r1 =>
   bif (!r1) then some (.ret false) else
   (qdn list i1 n 0).bind fun o=>match o with
   | .ret r=>some (.ret r)
   | .nxt _ =>
    qdt list n (W64 (i1+1))
  else
   some (.nxt i1)
def qeR (n:Nat) (list:(List ByteArray)):Option Bool :=
 (qdt list n 0).bind fun o=>match o with
 | .ret r=>some r
 | .nxt _ =>
  some true
theorem qgs {list:(List ByteArray)} (ha1:GoT.R w (old w) list cs1) {r:Bool} (hF:qeR n list=some r):RetV Tryz.prog 106 [GoT.v (List ByteArray) cs1] w r:=by
 obtain ⟨p1,k1,rfl,s1⟩:=ha1
 refine zV 31 Tryz.func106 rfl fun h=>X0 9 rfl ?_
 obtain ⟨o1,hF,hK1⟩:=qe hF
 refine qu (rL (fun m e w'=>∃ (i1:Int),qdt list m i1=some o1∧e=[(0,.slice p1 list.length k1),(3,.int .i64 i1)]∧SH w w' []) n ⟨_,hF,rfl,h⟩ rfl ?_)
 rintro m1 e1 w1 ⟨i1,hF,rfl,h⟩
 rcases m1 with _|m1
 ·cases hF
 refine X0 8 rfl (qm rfl hF ?_ ?_)<;>intro hF
 ·refine X0 8 rfl ?_
  obtain ⟨y1,hy1,hF,he1,b1,_,q1,cs2,hp1,hq1,rfl,hc2⟩:=s1.ix hF
  refine zxe hp1 hq1 he1 rfl (zc 0 (hc2.below h.below) rfl (zcB h hF qg1 rfl fun r1 w2 h hF=>X0 2 rfl (qm rfl hF ?_ ?_)))<;>intro hF
  ·refine X0 4 rfl ?_
   obtain rfl:=qd hF;replace hF:=hK1
   exact rb h hF rfl
  refine X0 5 rfl ?_
  obtain ⟨o2,hF,hK2⟩:=qe hF
  refine qu (rL (fun m e w'=>∃ (i2:Int),qdn list i1 m i2=some o2∧e=[(0,.slice p1 list.length k1),(3,.int .i64 i1),(4,.int .i64 i2)]∧SH w w' []) m1 ⟨_,hF,rfl,h⟩ rfl ?_)
  rintro m2 e2 w3 ⟨i2,hF,rfl,h⟩
  rcases m2 with _|m2
  ·cases hF
  refine X0 7 rfl (qm rfl hF ?_ ?_)<;>intro hF
  ·refine X0 4 rfl (rD (zd2 rfl ?_))
   obtain ⟨y2,hy2,hF,he2,b2,_,q2,cs3,hp2,hq2,rfl,hc5⟩:=s1.ix hF
   refine zdxe hp2 hq2 he2 rfl (zdc 0 (hc5.below h.below) rfl (zd2 rfl ?_))
   obtain ⟨y3,hy3,hF,he3,b3,_,q3,cs4,hp3,hq3,rfl,hc6⟩:=s1.ix hF
   refine zdxe hp3 hq3 he3 rfl (zdc 0 (hc6.below h.below) rfl (zd1 rfl (dN h fun w4 h=>qm rfl hF ?_ ?_)))<;>intro hF
   ·refine X0 4 rfl ?_
    obtain rfl:=qd hF;replace hF:=hK2
    obtain rfl:=qd hF;replace hF:=hK1
    exact rb h hF rfl
   exact X0 7 rfl (rK ⟨_,hF,rfl,h⟩ rfl)
  refine qA rfl ?_
  obtain rfl:=qd hF;replace hF:=hK2
  exact X0 6 rfl (rK ⟨_,hF,rfl,h⟩ rfl)
 refine qA rfl ?_
 obtain rfl:=qd hF;replace hF:=hK1
 exact X0 4 rfl (rb h hF rfl)
def qdu (x5:(List Int)) (x7:(List Int)):Nat→Int→Option (Flow Bool Int)
 | 0,_=>none
 | n+1,i5 =>
  bif decide (i5<(x5.length:Int)) then
   (idx x7 i5).bind fun y11 =>
   bif (y11 != 1) then some (.ret false) else
   qdu x5 x7 n (W64 (i5+1))
  else
   some (.nxt i5)
def qbT (a_1:qg):Nat→(List Int)→Int→Option ((List Int) × Int)
 | 0,_,_=>none
 | n+1,x7,i4 =>
  bif decide (i4<(a_1.Af.length:Int)) then
   (idx a_1.Af i4).bind fun y7 =>
   bif (y7.Bn==1) then
    (idx a_1.Af i4).bind fun y8 =>
    (idx x7 y8.Bq).bind fun y9 =>
    (idx x7 y8.Bq).bind fun _ =>
    qbT a_1 n (setS x7 y8.Bq (W64 (y9+1))) (W64 (i4+1))
   else
    qbT a_1 n x7 (W64 (i4+1))
  else
   some (x7,i4)
def qcy (a_1:qg):Nat→(List Int)→Int→Option ((List Int) × Int)
 | 0,_,_=>none
 | n+1,x6,i3 =>
  bif decide (i3<(a_1.Ab.length:Int)) then
   (idx a_1.Ab i3).bind fun y3 =>
   (idx y3.Aj (W64 ((y3.Aj.length:Int)-1))).bind fun y4 =>
   (idx x6 y4).bind fun y5 =>
   (idx x6 y4).bind fun _ =>
   qcy a_1 n (setS x6 y4 (W64 (y5+1))) (W64 (i3+1))
  else
   some (x6,i3)
def qcw (a_1:qg):Nat→(List ByteArray)→Int→Option ((List ByteArray) × Int)
 | 0,_,_=>none
 | n+1,x3,i2 =>
  bif decide (i2<(a_1.Af.length:Int)) then
   (idx a_1.Af i2).bind fun y2 =>
   (appS x3 ([y2.Au]:List ByteArray)).bind fun x4 =>
   qcw a_1 n x4 (W64 (i2+1))
  else
   some (x3,i2)
def qcz (a_1:qg):Nat→(List ByteArray)→Int→Option ((List ByteArray) × Int)
 | 0,_,_=>none
 | n+1,x1,i1 =>
  bif decide (i1<(a_1.Ab.length:Int)) then
   (idx a_1.Ab i1).bind fun y1 =>
   (appS x1 ([y1.Au]:List ByteArray)).bind fun x2 =>
   qcz a_1 n x2 (W64 (i1+1))
  else
   some (x1,i1)
def qfB (n:Nat) (a_0:qq) (a_1:qg):Option Bool :=
 (
  (qf7 n a_0).bind fun r4 =>
  bif (!r4) then some true else
  bif decide ((a_1.Ab.length:Int) > 14) then some true else
  bif decide ((a_1.Aj.length:Int) > 30) then some true else
  bif decide ((a_1.Af.length:Int) > 8) then some true else
  (qgL n a_0 a_1).bind fun r5 =>
  some (!r5)).bind fun b1 =>
 bif b1 then some false else
 (qcz a_1 n ([]:List ByteArray) 0).bind fun o=>match o with
 | (x1,_) =>
  (qcw a_1 n ([]:List ByteArray) 0).bind fun o=>match o with
  | (x3,_) =>
   (
    (qeR n x1).bind fun r1 =>
    bif (!r1) then some true else
    (qeR n x3).bind fun r2 =>
    bif (!r2) then some true else
    (qeR n a_1.Aj).bind fun r3 =>
    some (!r3)).bind fun b4 =>
   bif b4 then some false else
   (mkS (a_1.Aj.length:Int) (0:Int)).bind fun x5 =>
   (qcy a_1 n x5 0).bind fun o=>match o with
   | (x6,_) =>
    (qbT a_1 n x6 0).bind fun o=>match o with
    | (x7,_) =>
     (qdu x5 x7 n 0).bind fun o=>match o with
     | .ret r=>some r
     | .nxt _ =>
      some true
theorem qic {a_0:qq} {a_1:qg} (ha1:GoT.R w (old w) a_0 cs1) (ha2:GoT.R w (old w) a_1 cs2) {r:Bool} (hF:qfB n a_0 a_1=some r):RetV Tryz.prog 60 [GoT.v qq cs1,GoT.v qg cs2] w r:=by
 obtain ⟨p1,k1,rfl,s1⟩:=qbL ha1
 obtain ⟨p2,k2,p3,k3,p4,k4,rfl,s2,s3,s4⟩:=qaz ha2
 refine zV 153 Tryz.func60 rfl fun h=>zSR (qS h rfl rfl fun w1 bb1 h=>qS h rfl rfl fun w2 bb2 h=>X0 4 rfl ?_)
 obtain ⟨KF2,hKF2,o7,hF,hK7⟩:=bindE hF
 refine qaV (fun e w'=>∃ (b1:Bool),KF2 b1=some r∧e=[(3,.pointer (some ⟨bb2,0,none⟩)),(40,.bool b1)]∧SH w w' [Ch.box bb2 (qaj a_1 p2 p3 p4 k2 k3 k4) 31]) ?_ ?_
 ·refine X1 2 1 h rfl (zcB h hF (qjV (h.old ha1)) rfl fun r4 w21 h hF=>zp2 rfl (qj (t:=17) hF rfl ?_ ?_))<;>intro hF
  ·refine X0 24 rfl ?_
   replace h:=h.pick [0] rfl
   obtain rfl:=qd hF
   exact rG ⟨_,hK7,rfl,h⟩ rfl
  refine X1 10 0 h rfl (qj (t:=23) hF rfl ?_ ?_)<;>intro hF
  ·refine X0 18 rfl ?_
   replace h:=h.pick [0] rfl
   obtain rfl:=qd hF
   exact rG ⟨_,hK7,rfl,h⟩ rfl
  refine X1 10 0 h rfl (qj (t:=29) hF rfl ?_ ?_)<;>intro hF
  ·refine X0 12 rfl ?_
   replace h:=h.pick [0] rfl
   obtain rfl:=qd hF
   exact rG ⟨_,hK7,rfl,h⟩ rfl
  refine X1 10 0 h rfl (qj (t:=35) hF rfl ?_ ?_)<;>intro hF
  ·refine X0 6 rfl ?_
   replace h:=h.pick [0] rfl
   obtain rfl:=qd hF
   exact rG ⟨_,hK7,rfl,h⟩ rfl
  refine X2 5 1 0 h rfl (zcB h hF (qkt (h.old ha1) (h.old ha2)) rfl fun r5 w22 h hF=>X0 4 rfl ?_)
  replace h:=h.pick [0] rfl
  obtain rfl:=qd hF
  exact rG ⟨_,hK7,rfl,h⟩ rfl
 rintro e7 w23 ⟨b1,hF,rfl,h⟩
 subst hKF2
 refine qm rfl hF ?_ ?_<;>intro hF
 ·exact X0 4 rfl (rb h hF rfl)
 refine zKSR (qn qb [] _ ([]:List ByteArray) h rfl rfl rfl rfl rfl rfl rfl rfl rfl trivial rfl fun w3 p5 S1 h=>X0 7 rfl ?_)
 obtain ⟨o1,hF,hK1⟩:=qe hF
 refine qu (rL (fun m e w'=>∃ (S2:Nat→Prop) (p6:Option Addr) (ln1:Nat) (k5:Nat) (x1:(List ByteArray)) (i1:Int),qcz a_1 m x1 i1=some o1∧e=[(3,.pointer (some ⟨bb2,0,none⟩)),(5,.slice p6 ln1 k5),(6,.int .i64 i1)]∧SH w w' [Ch.own S2 (x1:List ByteArray) [.slice p6 ln1 k5],Ch.box bb2 (qaj a_1 p2 p3 p4 k2 k3 k4) 31]) n ⟨_,_,_,_,_,_,hF,rfl,h⟩ rfl ?_)
 rintro m1 e1 w4 ⟨S2,p6,ln1,k5,x1,i1,hF,rfl,h⟩
 obtain rfl:=(h.sl 0 rfl).2
 rcases m1 with _|m1
 ·cases hF
 refine X1 9 1 h rfl (qm rfl hF ?_ ?_)<;>intro hF
 ·refine X1 8 1 h rfl ?_
  obtain ⟨y1,hy1,hF,he1,b2,_,q1,cs3,hp1,hq1,hr1,hc3⟩:=s2.ix hF
  obtain ⟨p7,k6,rfl,s5⟩:=qax hr1
  refine zxe hp1 hq1 he1 rfl (zp1 rfl (zc 0 (hc3.below h.below) rfl (qn qb [.tmp 55] _ ([y1.Au]:List ByteArray) h rfl rfl rfl rfl rfl rfl rfl rfl rfl ⟨rfl,trivial⟩ rfl fun w5 p8 S3 h=>?_)))
  obtain ⟨x2,hx1,hF⟩:=qe hF
  obtain ⟨g1,hx1⟩:=qk hx1
  refine qau qb 1 h rfl (h.sl 0 rfl).1 (h.sl 0 rfl).2 rfl rfl rfl rfl rfl rfl rfl rfl rfl g1 hx1 rfl fun w6 p9 k7 S4 h=>X0 8 rfl ?_
  replace h:=h.pick [1,2] rfl
  exact rK ⟨_,_,_,_,_,_,hF,rfl,h⟩ rfl
 refine qA rfl ?_
 obtain rfl:=qd hF;replace hF:=hK1
 refine zSR (qn qb [] _ ([]:List ByteArray) h rfl rfl rfl rfl rfl rfl rfl rfl rfl trivial rfl fun w7 p10 S5 h=>X0 7 rfl ?_)
 obtain ⟨o2,hF,hK2⟩:=qe hF
 refine qu (rL (fun m e w'=>∃ (S6:Nat→Prop) (p11:Option Addr) (ln2:Nat) (k8:Nat) (x3:(List ByteArray)) (i2:Int),qcw a_1 m x3 i2=some o2∧e=[(3,.pointer (some ⟨bb2,0,none⟩)),(5,.slice p6 x1.length k5),(7,.slice p11 ln2 k8),(8,.int .i64 i2)]∧SH w w' [Ch.own S6 (x3:List ByteArray) [.slice p11 ln2 k8],Ch.own S2 (x1:List ByteArray) [.slice p6 x1.length k5],Ch.box bb2 (qaj a_1 p2 p3 p4 k2 k3 k4) 31]) n ⟨_,_,_,_,_,_,hF,rfl,h⟩ rfl ?_)
 rintro m2 e2 w8 ⟨S6,p11,ln2,k8,x3,i2,hF,rfl,h⟩
 obtain rfl:=(h.sl 0 rfl).2
 rcases m2 with _|m2
 ·cases hF
 refine X1 9 2 h rfl (qm rfl hF ?_ ?_)<;>intro hF
 ·refine X1 8 2 h rfl ?_
  obtain ⟨y2,hy2,hF,he2,b3,_,q2,cs4,hp2,hq2,hr2,hc5⟩:=s4.ix hF
  obtain rfl:=qc0 hr2
  refine zxe hp2 hq2 he2 rfl (zp1 rfl (zc 0 (hc5.below h.below) rfl (qn qb [.tmp 72] _ ([y2.Au]:List ByteArray) h rfl rfl rfl rfl rfl rfl rfl rfl rfl ⟨rfl,trivial⟩ rfl fun w9 p12 S7 h=>?_)))
  obtain ⟨x4,hx2,hF⟩:=qe hF
  obtain ⟨g2,hx2⟩:=qk hx2
  refine qau qb 1 h rfl (h.sl 0 rfl).1 (h.sl 0 rfl).2 rfl rfl rfl rfl rfl rfl rfl rfl rfl g2 hx2 rfl fun w10 p13 k9 S8 h=>X0 8 rfl ?_
  replace h:=h.pick [1,2,3] rfl
  exact rK ⟨_,_,_,_,_,_,hF,rfl,h⟩ rfl
 refine qA rfl ?_
 obtain rfl:=qd hF;replace hF:=hK2
 refine zSS ?_
 obtain ⟨KF1,hKF1,o6,hF,hK6⟩:=bindE hF
 refine qaV (fun e w'=>∃ (b4:Bool),KF1 b4=some r∧e=[(3,.pointer (some ⟨bb2,0,none⟩)),(88,.bool b4)]∧SH w w' [Ch.box bb2 (qaj a_1 p2 p3 p4 k2 k3 k4) 31]) ?_ ?_
 ·refine X0 2 rfl (zcB h hF (qgs (h.own 1 rfl)) rfl fun r1 w17 h hF=>zp2 rfl (qj (t:=78) hF rfl ?_ ?_))<;>intro hF
  ·refine X0 11 rfl ?_
   replace h:=h.pick [2] rfl
   obtain rfl:=qd hF
   exact rG ⟨_,hK6,rfl,h⟩ rfl
  refine X0 3 rfl (zcB h hF (qgs (h.own 0 rfl)) rfl fun r2 w18 h hF=>X0 4 rfl (qj (t:=83) hF rfl ?_ ?_))<;>intro hF
  ·refine X0 6 rfl ?_
   replace h:=h.pick [2] rfl
   obtain rfl:=qd hF
   exact rG ⟨_,hK6,rfl,h⟩ rfl
  refine X1 5 2 h rfl (zcB h hF (qgs ⟨_,_,rfl,(h.oldS s3)⟩) rfl fun r3 w19 h hF=>X0 4 rfl ?_)
  replace h:=h.pick [2] rfl
  obtain rfl:=qd hF
  exact rG ⟨_,hK6,rfl,h⟩ rfl
 rintro e6 w20 ⟨b4,hF,rfl,h⟩
 subst hKF1
 refine qm rfl hF ?_ ?_<;>intro hF
 ·exact X0 4 rfl (rb h hF rfl)
 refine X1 6 0 h rfl ?_
 obtain ⟨x5,hx3,hF⟩:=qe hF
 obtain ⟨g3,g4,hx3⟩:=qgT hx3
 refine qhT qb Int h rfl rfl rfl rfl rfl rfl rfl rfl rfl g3 g4 hx3 rfl fun w11 S9 p14 h=>X0 7 rfl ?_
 obtain ⟨o3,hF,hK3⟩:=qe hF
 refine qu (rL (fun m e w'=>∃ (x6:(List Int)) (i3:Int),qcy a_1 m x6 i3=some o3∧e=[(3,.pointer (some ⟨bb2,0,none⟩)),(9,.slice p14 x5.length x5.length),(10,.int .i64 i3)]∧SH w w' [Ch.own S9 (x6:List Int) [.slice p14 x5.length x5.length],Ch.box bb2 (qaj a_1 p2 p3 p4 k2 k3 k4) 31]) n ⟨_,_,hF,rfl,h⟩ rfl ?_)
 rintro m3 e3 w12 ⟨x6,i3,hF,rfl,h⟩
 rcases m3 with _|m3
 ·cases hF
 refine X1 9 1 h rfl (qm rfl hF ?_ ?_)<;>intro hF
 ·refine X1 8 1 h rfl ?_
  obtain ⟨y3,hy3,hF,he3,b5,_,q3,cs5,hp3,hq3,hr3,hc8⟩:=s2.ix hF
  obtain ⟨p15,k10,rfl,s6⟩:=qax hr3
  refine zxe hp3 hq3 he3 rfl (zp1 rfl (zc 2 (hc8.below h.below) rfl (X0 8 rfl ?_)))
  obtain ⟨y4,hy4,hF,he4,b6,_,q4,cs6,hp4,hq4,rfl,hc9⟩:=s6.ix hF
  refine zxe hp4 hq4 he4 rfl (zc 0 (hc9.below h.below) rfl ?_)
  obtain ⟨y5,hy5,hF,he5,b7,_,q5,cs7,hp5,hq5,rfl,hc10⟩:=(h.sl 0 rfl).1.ix hF
  refine zx hp5 hq5 ⟨he5.1,qab he5.2.1 (h.sl 0 rfl).2⟩ rfl (zc 0 hc10 rfl (zp1 rfl ?_))
  obtain ⟨y6,hy6,hF,he6,b8,_,q6,cs8,hp6,hq6,rfl,hc11⟩:=(h.sl 0 rfl).1.ix hF
  exact zx hp6 hq6 ⟨he6.1,qab he6.2.1 (h.sl 0 rfl).2⟩ rfl (qd8 qb 0 0 (W64 (y5+1)) h rfl hy6 hp6 hq6 rfl hc11 rfl rfl rfl rfl rfl rfl rfl fun w13 h=>X0 7 rfl (rK ⟨_,_,hF,rfl,h⟩ rfl))
 refine qA rfl ?_
 obtain rfl:=qd hF;replace hF:=hK3
 refine X0 5 rfl ?_
 obtain ⟨o4,hF,hK4⟩:=qe hF
 refine qu (rL (fun m e w'=>∃ (x7:(List Int)) (i4:Int),qbT a_1 m x7 i4=some o4∧e=[(3,.pointer (some ⟨bb2,0,none⟩)),(9,.slice p14 x5.length x5.length),(12,.int .i64 i4)]∧SH w w' [Ch.own S9 (x7:List Int) [.slice p14 x5.length x5.length],Ch.box bb2 (qaj a_1 p2 p3 p4 k2 k3 k4) 31]) n ⟨_,_,hF,rfl,h⟩ rfl ?_)
 rintro m4 e4 w14 ⟨x7,i4,hF,rfl,h⟩
 rcases m4 with _|m4
 ·cases hF
 refine X1 9 1 h rfl (qm rfl hF ?_ ?_)<;>intro hF
 ·refine X1 8 1 h rfl ?_
  obtain ⟨y7,hy7,hF,he7,b9,_,q7,cs9,hp7,hq7,hr7,hc13⟩:=s4.ix hF
  obtain rfl:=qc0 hr7
  refine zxe hp7 hq7 he7 rfl (zp1 rfl (zc 1 (hc13.below h.below) rfl (X0 2 rfl (qm rfl hF ?_ ?_))))<;>intro hF
  ·refine X1 5 1 h rfl ?_
   obtain ⟨y8,hy8,hF,he8,b10,_,q8,cs10,hp8,hq8,hr8,hc15⟩:=s4.ix hF
   obtain rfl:=qc0 hr8
   refine zxe hp8 hq8 he8 rfl (zp1 rfl (zc 2 (hc15.below h.below) rfl ?_))
   obtain ⟨y9,hy9,hF,he9,b11,_,q9,cs11,hp9,hq9,rfl,hc16⟩:=(h.sl 0 rfl).1.ix hF
   refine zx hp9 hq9 ⟨he9.1,qab he9.2.1 (h.sl 0 rfl).2⟩ rfl (zc 0 hc16 rfl (zp1 rfl ?_))
   obtain ⟨y10,hy10,hF,he10,b12,_,q10,cs12,hp10,hq10,rfl,hc17⟩:=(h.sl 0 rfl).1.ix hF
   exact zx hp10 hq10 ⟨he10.1,qab he10.2.1 (h.sl 0 rfl).2⟩ rfl (qd8 qb 0 0 (W64 (y9+1)) h rfl hy10 hp10 hq10 rfl hc17 rfl rfl rfl rfl rfl rfl rfl fun w15 h=>X0 7 rfl (rK ⟨_,_,hF,rfl,h⟩ rfl))
  exact X0 7 rfl (rK ⟨_,_,hF,rfl,h⟩ rfl)
 refine qA rfl ?_
 obtain rfl:=qd hF;replace hF:=hK4
 refine X0 5 rfl ?_
 obtain ⟨o5,hF,hK5⟩:=qe hF
 refine qu ?_
 replace h:=h.pick [0] rfl
 refine rL (fun m e w'=>∃ (i5:Int),qdu x5 x7 m i5=some o5∧e=[(9,.slice p14 x5.length x5.length),(13,.int .i64 i5)]∧SH w w' [Ch.own S9 (x7:List Int) [.slice p14 x5.length x5.length]]) n ⟨_,hF,rfl,h⟩ rfl ?_
 rintro m5 e5 w16 ⟨i5,hF,rfl,h⟩
 rcases m5 with _|m5
 ·cases hF
 refine X0 8 rfl (qm rfl hF ?_ ?_)<;>intro hF
 ·refine X0 7 rfl ?_
  obtain ⟨y11,hy11,hF,he11,b13,_,q11,cs13,hp11,hq11,rfl,hc19⟩:=(h.sl 0 rfl).1.ix hF
  refine zx hp11 hq11 ⟨he11.1,qab he11.2.1 (h.sl 0 rfl).2⟩ rfl (zc 0 hc19 rfl (X0 2 rfl (qm rfl hF ?_ ?_)))<;>intro hF
  ·refine X0 4 rfl ?_
   obtain rfl:=qd hF;replace hF:=hK5
   exact rb h hF rfl
  exact X0 7 rfl (rK ⟨_,hF,rfl,h⟩ rfl)
 refine qA rfl ?_
 obtain rfl:=qd hF;replace hF:=hK5
 exact X0 4 rfl (rb h hF rfl)
def qex (a_0:qR):Nat→Int→Option (Flow Bool Int)
 | 0,_=>none
 | n+1,i2 =>
  bif decide (i2<(a_0.Av.length:Int)) then
   (idx a_0.Av i2).bind fun y7 =>
   (qaq n y7 0 (W64 ((a_0.Ak.length:Int)-1))).bind fun r5 =>
   bif (!r5) then some (.ret false) else
   qex a_0 n (W64 (i2+1))
  else
   some (.nxt i2)
def qbX (a_0:qR):Nat→Int→Option (Flow Bool Int)
 | 0,_=>none
 | n+1,i1 =>
  bif decide (i1<(a_0.Ak.length:Int)) then
   (
    (idx a_0.Bd i1).bind fun y5 =>
    (qaq n y5 0 500).bind fun r3 =>
    bif (!r3) then some true else
    (idx a_0.Be i1).bind fun y6 =>
    (qaq n y6 0 1000).bind fun r4 =>
    some (!r4)).bind fun b2 =>
   bif b2 then some (.ret false) else
   bif (i1==0) then
    (idx a_0.Ak i1).bind fun y1 =>
    bif (y1 != (-1)) then some (.ret false) else
    (idx a_0.Be i1).bind fun y2 =>
    bif (y2 != 0) then some (.ret false) else
    bif decide (i1 > 0) then
     (idx a_0.Ak i1).bind fun y3 =>
     (qaq n y3 0 (W64 (i1-1))).bind fun r1 =>
     bif (!r1) then some (.ret false) else
     qbX a_0 n (W64 (i1+1))
    else
     qbX a_0 n (W64 (i1+1))
   else
    bif decide (i1 > 0) then
     (idx a_0.Ak i1).bind fun y4 =>
     (qaq n y4 0 (W64 (i1-1))).bind fun r2 =>
     bif (!r2) then some (.ret false) else
     qbX a_0 n (W64 (i1+1))
    else
     qbX a_0 n (W64 (i1+1))
  else
   some (.nxt i1)
def qhJ (n:Nat) (a_0:qR) (a_1:Int):Option Bool :=
 (
  bif decide ((a_0.Ak.length:Int)<1) then some true else
  bif decide ((a_0.Ak.length:Int) > 8) then some true else
  bif ((a_0.Be.length:Int) != (a_0.Ak.length:Int)) then some true else
  bif ((a_0.Bd.length:Int) != (a_0.Ak.length:Int)) then some true else
  some ((a_0.Av.length:Int) != a_1)).bind fun b1 =>
 bif b1 then some false else
 (qbX a_0 n 0).bind fun o=>match o with
 | .ret r=>some r
 | .nxt _ =>
  (qex a_0 n 0).bind fun o=>match o with
  | .ret r=>some r
  | .nxt _ =>
   some true
theorem qlF {a_0:qR} {a_1:Int} (ha1:GoT.R w (old w) a_0 cs1) {r:Bool} (hF:qhJ n a_0 a_1=some r):RetV Tryz.prog 84 [GoT.v qR cs1,.int .i64 a_1] w r:=by
 obtain ⟨p1,k1,p2,k2,p3,k3,p4,k4,rfl,s1,s2,s3,s4⟩:=qb1 ha1
 refine zV 108 Tryz.func84 rfl fun h=>zSR (qS h rfl rfl fun w1 bb1 h=>X1 11 0 h rfl ?_)
 obtain ⟨KF2,hKF2,o4,hF,hK4⟩:=bindE hF
 refine qaV (fun e w'=>∃ (b1:Bool),KF2 b1=some r∧e=[(2,.pointer (some ⟨bb1,0,none⟩)),(5,.int .i64 (a_0.Ak.length:Int)),(37,.bool b1)]∧SH w w' [Ch.box bb1 (qeY a_0 p1 p2 p3 p4 k1 k2 k3 k4) 118]) ?_ ?_
 ·refine X0 4 rfl (qj (t:=13) hF rfl ?_ ?_)<;>intro hF
  ·refine X0 25 rfl ?_
   obtain rfl:=qd hF
   exact rG ⟨_,hK4,rfl,h⟩ rfl
  refine X0 6 rfl (qj (t:=17) hF rfl ?_ ?_)<;>intro hF
  ·refine X0 21 rfl ?_
   obtain rfl:=qd hF
   exact rG ⟨_,hK4,rfl,h⟩ rfl
  refine X1 12 0 h rfl (qj (t:=24) hF rfl ?_ ?_)<;>intro hF
  ·refine X0 14 rfl ?_
   obtain rfl:=qd hF
   exact rG ⟨_,hK4,rfl,h⟩ rfl
  refine X1 12 0 h rfl (qj (t:=31) hF rfl ?_ ?_)<;>intro hF
  ·refine X0 7 rfl ?_
   obtain rfl:=qd hF
   exact rG ⟨_,hK4,rfl,h⟩ rfl
  refine X1 12 0 h rfl ?_
  obtain rfl:=qd hF
  exact rG ⟨_,hK4,rfl,h⟩ rfl
 rintro e4 w10 ⟨b1,hF,rfl,h⟩
 subst hKF2
 refine qm rfl hF ?_ ?_<;>intro hF
 ·exact X0 4 rfl (rb h hF rfl)
 refine X0 6 rfl ?_
 obtain ⟨o1,hF,hK1⟩:=qe hF
 refine qu (rL (fun m e w'=>∃ (i1:Int),qbX a_0 m i1=some o1∧e=[(2,.pointer (some ⟨bb1,0,none⟩)),(5,.int .i64 (a_0.Ak.length:Int)),(6,.int .i64 i1)]∧SH w w' [Ch.box bb1 (qeY a_0 p1 p2 p3 p4 k1 k2 k3 k4) 118]) n ⟨_,hF,rfl,h⟩ rfl ?_)
 rintro m1 e1 w2 ⟨i1,hF,rfl,h⟩
 rcases m1 with _|m1
 ·cases hF
 refine X0 7 rfl (qm rfl hF ?_ ?_)<;>intro hF
 ·refine X0 5 rfl ?_
  obtain ⟨KF1,hKF1,o2,hF,hK2⟩:=bindE hF
  refine qaV (fun e w'=>∃ (b2:Bool),KF1 b2=some o1∧e=[(2,.pointer (some ⟨bb1,0,none⟩)),(5,.int .i64 (a_0.Ak.length:Int)),(6,.int .i64 i1),(58,.bool b2)]∧SH w w' [Ch.box bb1 (qeY a_0 p1 p2 p3 p4 k1 k2 k3 k4) 118]) ?_ ?_
  ·refine X1 4 0 h rfl ?_
   obtain ⟨y5,hy5,hF,he5,b7,_,q5,cs6,hp5,hq5,rfl,hc10⟩:=s3.ix hF
   refine zxe hp5 hq5 he5 rfl (zc 0 (hc10.below h.below) rfl (zcB h hF qaa rfl fun r3 w5 h hF=>zp2 rfl (qj (t:=50) hF rfl ?_ ?_)))<;>intro hF
   ·refine X0 9 rfl ?_
    obtain rfl:=qd hF
    exact rG ⟨_,hK2,rfl,h⟩ rfl
   refine X1 7 0 h rfl ?_
   obtain ⟨y6,hy6,hF,he6,b8,_,q6,cs7,hp6,hq6,rfl,hc11⟩:=s2.ix hF
   refine zxe hp6 hq6 he6 rfl (X0 1 rfl (zc 0 (hc11.below h.below) rfl (X0 1 rfl (zcB h hF qaa rfl fun r4 w6 h hF=>X0 4 rfl ?_))))
   obtain rfl:=qd hF
   exact rG ⟨_,hK2,rfl,h⟩ rfl
  rintro e2 w7 ⟨b2,hF,rfl,h⟩
  subst hKF1
  refine qm rfl hF ?_ ?_<;>intro hF
  ·refine X0 4 rfl ?_
   obtain rfl:=qd hF;replace hF:=hK1
   exact rb h hF rfl
  refine X0 6 rfl (qj (t:=61) hF rfl ?_ ?_)<;>intro hF
  ·refine X1 7 0 h rfl ?_
   obtain ⟨y1,hy1,hF,he1,b3,_,q1,cs2,hp1,hq1,rfl,hc4⟩:=s1.ix hF
   refine zxe hp1 hq1 he1 rfl (X0 1 rfl (zc 0 (hc4.below h.below) rfl (X0 4 rfl (qj (t:=68) hF rfl ?_ ?_))))<;>intro hF
   ·refine X0 25 rfl (qdb rfl rfl (X0 4 rfl ?_))
    obtain rfl:=qd hF;replace hF:=hK1
    exact rb h hF rfl
   refine X1 7 0 h rfl ?_
   obtain ⟨y2,hy2,hF,he2,b4,_,q2,cs3,hp2,hq2,rfl,hc5⟩:=s2.ix hF
   refine zxe hp2 hq2 he2 rfl (X0 1 rfl (zc 0 (hc5.below h.below) rfl (X0 6 rfl (qj (t:=77) hF rfl ?_ ?_))))<;>intro hF
   ·refine X0 15 rfl (qdb rfl rfl (X0 4 rfl ?_))
    obtain rfl:=qd hF;replace hF:=hK1
    exact rb h hF rfl
   refine X0 6 rfl (qj (t:=80) hF rfl ?_ ?_)<;>intro hF
   ·refine X1 7 0 h rfl ?_
    obtain ⟨y3,hy3,hF,he3,b5,_,q3,cs4,hp3,hq3,rfl,hc6⟩:=s1.ix hF
    refine zxe hp3 hq3 he3 rfl (X0 1 rfl (zc 0 (hc6.below h.below) rfl (X0 5 rfl (zcB h hF qaa rfl fun r1 w3 h hF=>X0 6 rfl (qm rfl hF ?_ ?_)))))<;>intro hF
    ·refine X0 4 rfl ?_
     obtain rfl:=qd hF;replace hF:=hK1
     exact rb h hF rfl
    exact X0 7 rfl (rK ⟨_,hF,rfl,h⟩ rfl)
   exact X0 13 rfl (qbO rfl rfl (X0 7 rfl (rK ⟨_,hF,rfl,h⟩ rfl)))
  refine X0 22 rfl (qj (t:=80) hF rfl ?_ ?_)<;>intro hF
  ·refine X1 7 0 h rfl ?_
   obtain ⟨y4,hy4,hF,he4,b6,_,q4,cs5,hp4,hq4,rfl,hc8⟩:=s1.ix hF
   refine zxe hp4 hq4 he4 rfl (X0 1 rfl (zc 0 (hc8.below h.below) rfl (X0 5 rfl (zcB h hF qaa rfl fun r2 w4 h hF=>X0 6 rfl (qm rfl hF ?_ ?_)))))<;>intro hF
   ·refine X0 4 rfl ?_
    obtain rfl:=qd hF;replace hF:=hK1
    exact rb h hF rfl
   exact X0 7 rfl (rK ⟨_,hF,rfl,h⟩ rfl)
  exact X0 13 rfl (qbO rfl rfl (X0 7 rfl (rK ⟨_,hF,rfl,h⟩ rfl)))
 refine qA rfl ?_
 obtain rfl:=qd hF;replace hF:=hK1
 refine X0 5 rfl ?_
 obtain ⟨o3,hF,hK3⟩:=qe hF
 refine qu (rL (fun m e w'=>∃ (i2:Int),qex a_0 m i2=some o3∧e=[(2,.pointer (some ⟨bb1,0,none⟩)),(5,.int .i64 (a_0.Ak.length:Int)),(7,.int .i64 i2)]∧SH w w' [Ch.box bb1 (qeY a_0 p1 p2 p3 p4 k1 k2 k3 k4) 118]) n ⟨_,hF,rfl,h⟩ rfl ?_)
 rintro m2 e3 w8 ⟨i2,hF,rfl,h⟩
 rcases m2 with _|m2
 ·cases hF
 refine X1 9 0 h rfl (qm rfl hF ?_ ?_)<;>intro hF
 ·refine X1 8 0 h rfl ?_
  obtain ⟨y7,hy7,hF,he7,b9,_,q7,cs8,hp7,hq7,rfl,hc13⟩:=s4.ix hF
  refine zxe hp7 hq7 he7 rfl (zc 0 (hc13.below h.below) rfl (zp2 rfl (zcB h hF qaa rfl fun r5 w9 h hF=>X0 2 rfl (qm rfl hF ?_ ?_))))<;>intro hF
  ·refine X0 4 rfl ?_
   obtain rfl:=qd hF;replace hF:=hK3
   exact rb h hF rfl
  exact X0 7 rfl (rK ⟨_,hF,rfl,h⟩ rfl)
 refine qA rfl ?_
 obtain rfl:=qd hF;replace hF:=hK3
 exact X0 4 rfl (rb h hF rfl)
def qb4 (i1:Int) (y1:qw):Nat→(List Tl05Place)→Int→Option ((List Tl05Place) × Int)
 | 0,_,_=>none
 | n+1,x2,i2 =>
  bif decide (i2<(y1.Aj.length:Int)) then
   (idx y1.Aj i2).bind fun y2 =>
   (appS x2 ([(⟨i1,i2,y2,(i2==(W64 ((y1.Aj.length:Int)-1)))⟩:Tl05Place)]:List Tl05Place)).bind fun x3 =>
   qb4 i1 y1 n x3 (W64 (i2+1))
  else
   some (x2,i2)
def qbZ (a_0:qg):Nat→(List Tl05Place)→Int→Option ((List Tl05Place) × Int)
 | 0,_,_=>none
 | n+1,x4,i3 =>
  bif decide (i3<(a_0.Af.length:Int)) then
   (idx a_0.Af i3).bind fun y3 =>
   (idx a_0.Af i3).bind fun y4 =>
   (appS x4 ([(⟨(-1),i3,y3.Bq,(y4.Bn==1)⟩:Tl05Place)]:List Tl05Place)).bind fun x5 =>
   qbZ a_0 n x5 (W64 (i3+1))
  else
   some (x4,i3)
def qb6 (a_0:qg):Nat→(List Tl05Place)→Int→Option ((List Tl05Place) × Int)
 | 0,_,_=>none
 | n+1,x1,i1 =>
  bif decide (i1<(a_0.Ab.length:Int)) then
   (idx a_0.Ab i1).bind fun y1 =>
   (qb4 i1 y1 n x1 0).bind fun o=>match o with
   | (x2,_) =>
    qb6 a_0 n x2 (W64 (i1+1))
  else
   some (x1,i1)
def qcL (n:Nat) (a_0:qg):Option (List Tl05Place) :=
 (qb6 a_0 n ([]:List Tl05Place) 0).bind fun o=>match o with
 | (x1,_) =>
  (qbZ a_0 n x1 0).bind fun o=>match o with
  | (x4,_) =>
   some x4
theorem qd5 {a_0:qg} (ha1:GoT.R w (old w) a_0 cs1) {r:(List Tl05Place)} (hF:qcL n a_0=some r):RetV Tryz.prog 33 [GoT.v qg cs1] w r:=by
 obtain ⟨p1,k1,p2,k2,p3,k3,rfl,s1,s2,s3⟩:=qaz ha1
 refine zV 69 Tryz.func33 rfl fun h=>zSR (qS h rfl rfl fun w1 bb1 h=>X0 4 rfl (qn qb [] _ ([]:List Tl05Place) h rfl rfl rfl rfl rfl rfl rfl rfl rfl trivial rfl fun w2 p4 S1 h=>X0 7 rfl ?_))
 obtain ⟨o1,hF,hK1⟩:=qe hF
 refine qu (rL (fun m e w'=>∃ (S2:Nat→Prop) (p5:Option Addr) (ln1:Nat) (k4:Nat) (x1:(List Tl05Place)) (i1:Int),qb6 a_0 m x1 i1=some o1∧e=[(1,.pointer (some ⟨bb1,0,none⟩)),(3,.slice p5 ln1 k4),(4,.int .i64 i1)]∧SH w w' [Ch.own S2 (x1:List Tl05Place) [.slice p5 ln1 k4],Ch.box bb1 (qaj a_0 p1 p2 p3 k1 k2 k3) 31]) n ⟨_,_,_,_,_,_,hF,rfl,h⟩ rfl ?_)
 rintro m1 e1 w3 ⟨S2,p5,ln1,k4,x1,i1,hF,rfl,h⟩
 obtain rfl:=(h.sl 0 rfl).2
 rcases m1 with _|m1
 ·cases hF
 refine X1 9 1 h rfl (qm rfl hF ?_ ?_)<;>intro hF
 ·refine X1 8 1 h rfl ?_
  obtain ⟨y1,hy1,hF,he1,b1,_,q1,cs2,hp1,hq1,hr1,hc2⟩:=s1.ix hF
  obtain ⟨p6,k5,rfl,s4⟩:=qax hr1
  refine zxe hp1 hq1 he1 rfl (zp1 rfl (zc 2 (hc2.below h.below) rfl (X0 6 rfl ?_)))
  obtain ⟨o2,hF,hK2⟩:=qe hF
  refine qu (rL (fun m e w'=>∃ (S3:Nat→Prop) (p7:Option Addr) (ln2:Nat) (k6:Nat) (x2:(List Tl05Place)) (i2:Int),qb4 i1 y1 m x2 i2=some o2∧e=[(1,.pointer (some ⟨bb1,0,none⟩)),(3,.slice p7 ln2 k6),(4,.int .i64 i1),(5,.slice p6 y1.Aj.length k5),(6,.int .i64 i2)]∧SH w w' [Ch.own S3 (x2:List Tl05Place) [.slice p7 ln2 k6],Ch.box bb1 (qaj a_0 p1 p2 p3 k1 k2 k3) 31]) m1 ⟨_,_,_,_,_,_,hF,rfl,h⟩ rfl ?_)
  rintro m2 e2 w4 ⟨S3,p7,ln2,k6,x2,i2,hF,rfl,h⟩
  obtain rfl:=(h.sl 0 rfl).2
  rcases m2 with _|m2
  ·cases hF
  refine X0 8 rfl (qm rfl hF ?_ ?_)<;>intro hF
  ·refine X0 9 rfl ?_
   obtain ⟨y2,hy2,hF,he2,b2,_,q2,cs3,hp2,hq2,rfl,hc4⟩:=s4.ix hF
   refine zxe hp2 hq2 he2 rfl (zc 0 (hc4.below h.below) rfl (zp5 rfl (r_v (qai qb [0,1,2,3] [.tmp 29,.tmp 30,.tmp 34,.tmp 39] rfl rfl rfl rfl rfl rfl rfl rfl) rfl (qn qb [.tmp 40] _ ([(⟨i1,i2,y2,(i2==(W64 ((y1.Aj.length:Int)-1)))⟩:Tl05Place)]:List Tl05Place) h rfl rfl rfl rfl rfl rfl rfl rfl rfl ⟨(qfG (⟨i1,i2,y2,(i2==(W64 ((y1.Aj.length:Int)-1)))⟩:Tl05Place)),trivial⟩ rfl fun w5 p8 S4 h=>?_))))
   obtain ⟨x3,hx1,hF⟩:=qe hF
   obtain ⟨g1,hx1⟩:=qk hx1
   refine qau qb 1 h rfl (h.sl 0 rfl).1 (h.sl 0 rfl).2 rfl rfl rfl rfl rfl rfl rfl rfl rfl g1 hx1 rfl fun w6 p9 k7 S5 h=>X0 8 rfl ?_
   replace h:=h.pick [1,2] rfl
   exact rK ⟨_,_,_,_,_,_,hF,rfl,h⟩ rfl
  refine qA rfl ?_
  obtain rfl:=qd hF;replace hF:=hK2
  exact X0 6 rfl (rK ⟨_,_,_,_,_,_,hF,rfl,h⟩ rfl)
 refine qA rfl ?_
 obtain rfl:=qd hF;replace hF:=hK1
 refine X0 5 rfl ?_
 obtain ⟨o3,hF,hK3⟩:=qe hF
 refine qu (rL (fun m e w'=>∃ (S6:Nat→Prop) (p10:Option Addr) (ln3:Nat) (k8:Nat) (x4:(List Tl05Place)) (i3:Int),qbZ a_0 m x4 i3=some o3∧e=[(1,.pointer (some ⟨bb1,0,none⟩)),(3,.slice p10 ln3 k8),(7,.int .i64 i3)]∧SH w w' [Ch.own S6 (x4:List Tl05Place) [.slice p10 ln3 k8],Ch.box bb1 (qaj a_0 p1 p2 p3 k1 k2 k3) 31]) n ⟨_,_,_,_,_,_,hF,rfl,h⟩ rfl ?_)
 rintro m3 e3 w7 ⟨S6,p10,ln3,k8,x4,i3,hF,rfl,h⟩
 obtain rfl:=(h.sl 0 rfl).2
 rcases m3 with _|m3
 ·cases hF
 refine X1 9 1 h rfl (qm rfl hF ?_ ?_)<;>intro hF
 ·refine zKSB (rA [] [1] h rfl fun w8 h=>M1 31 [0,1,2,3,4] 0 (h.pick [1] rfl) rfl ?_)
  obtain ⟨y3,hy3,hF,he3,b3,_,q3,cs4,hp3,hq3,hr3,hc6⟩:=s3.ix hF
  obtain rfl:=qc0 hr3
  refine Ae 5 63 hp3 hq3 he3 (h.pick [1] rfl) rfl (M0 127 [6] (h.pick [1] rfl) rfl (Al 7 255 2 hc6 (h.pick [1] rfl) rfl (M1 2047 [8,9,10] 0 (h.pick [1] rfl) rfl ?_)))
  obtain ⟨y4,hy4,hF,he4,b4,_,q4,cs5,hp4,hq4,hr4,hc7⟩:=s3.ix hF
  obtain rfl:=qc0 hr4
  refine Ae 11 4095 hp4 hq4 he4 (h.pick [1] rfl) rfl (M0 8191 [12] (h.pick [1] rfl) rfl (Al 13 16383 1 hc7 (h.pick [1] rfl) rfl (M0 32767 [14] (h.pick [1] rfl) rfl (Aw 15 65535 (fun w' hw=>qai qb [0,1,2,3] [.const (.int .i64 (-1)),.tmp 51,.tmp 57,.tmp 64] rfl rfl rfl rfl rfl rfl rfl rfl) (h.pick [1] rfl) rfl ?_))))
  refine Ao 16 131071 rfl (qn qb [.tmp 65] _ ([(⟨(-1),i3,y3.Bq,(y4.Bn==1)⟩:Tl05Place)]:List Tl05Place) h rfl rfl rfl rfl rfl rfl rfl rfl rfl ⟨(qfG (⟨(-1),i3,y3.Bq,(y4.Bn==1)⟩:Tl05Place)),trivial⟩ rfl fun w9 p11 S7 h=>Ag (h.pick [2] rfl) (Ao 17 262143 rfl ?_))
  obtain ⟨x5,hx2,hF⟩:=qe hF
  obtain ⟨g2,hx2⟩:=qk hx2
  refine qau qb 1 h rfl (h.sl 0 rfl).1 (h.sl 0 rfl).2 rfl rfl rfl rfl rfl rfl rfl rfl rfl g2 hx2 rfl fun w10 p12 k9 S8 h=>G0 524287 [18] (h.pick [2] rfl) rfl (Ad (X0 6 rfl ?_))
  replace h:=h.pick [1,2] rfl
  exact rK ⟨_,_,_,_,_,_,hF,rfl,h⟩ rfl
 refine qA rfl ?_
 obtain rfl:=qd hF;replace hF:=hK3
 refine X0 5 rfl ?_
 obtain rfl:=qd hF
 exact rO 0 h rfl ⟨rfl,trivial⟩
def qbU (net:Int) (r1:(List Tl05Place)):Nat→(List Int)→Int→Option ((List Int) × Int)
 | 0,_,_=>none
 | n+1,x1,i1 =>
  bif decide (i1<(r1.length:Int)) then
   (
    (idx r1 i1).bind fun y1 =>
    bif (y1.net==net) then
     (idx r1 i1).bind fun y2 =>
     some (!y2.drives)
    else
     some false).bind fun b1 =>
   bif b1 then
    (appS x1 ([i1]:List Int)).bind fun x2 =>
    qbU net r1 n x2 (W64 (i1+1))
   else
    qbU net r1 n x1 (W64 (i1+1))
  else
   some (x1,i1)
def qeQ (n:Nat) (d:qg) (net:Int):Option (List Int) :=
 (qcL n d).bind fun r1 =>
 (qbU net r1 n ([]:List Int) 0).bind fun o=>match o with
 | (x1,_) =>
  some x1
theorem qgx {d:qg} {net:Int} (ha1:GoT.R w (old w) d cs1) {r:(List Int)} (hF:qeQ n d net=some r):RetV Tryz.prog 85 [GoT.v qg cs1,.int .i64 net] w r:=by
 obtain ⟨p1,k1,p2,k2,p3,k3,rfl,s1,s2,s3⟩:=qaz ha1
 refine zV 37 Tryz.func85 rfl fun h=>zSR (qS h rfl rfl fun w1 bb1 h=>X0 4 rfl (qn qb [] _ ([]:List Int) h rfl rfl rfl rfl rfl rfl rfl rfl rfl trivial rfl fun w2 p4 S1 h=>X1 5 1 h rfl (zcL h hF (qd5 (h.old ha1)) rfl fun r1 w3 S2 p5 k4 h hF=>X0 7 rfl ?_)))
 obtain ⟨o1,hF,hK1⟩:=qe hF
 refine qu ?_
 replace h:=h.pick [0,1] rfl
 refine rL (fun m e w'=>∃ (S3:Nat→Prop) (p6:Option Addr) (ln1:Nat) (k5:Nat) (x1:(List Int)) (i1:Int),qbU net r1 m x1 i1=some o1∧e=[(1,.int .i64 net),(5,.slice p6 ln1 k5),(6,.slice p5 r1.length k4),(7,.int .i64 i1)]∧SH w w' [Ch.own S2 (r1:List Tl05Place) [.slice p5 r1.length k4],Ch.own S3 (x1:List Int) [.slice p6 ln1 k5]]) n ⟨_,_,_,_,_,_,hF,rfl,h⟩ rfl ?_
 rintro m1 e1 w4 ⟨S3,p6,ln1,k5,x1,i1,hF,rfl,h⟩
 obtain rfl:=(h.sl 1 rfl).2
 rcases m1 with _|m1
 ·cases hF
 refine X0 8 rfl (qm rfl hF ?_ ?_)<;>intro hF
 ·refine X0 4 rfl ?_
  obtain ⟨KF1,hKF1,o2,hF,hK2⟩:=bindE hF
  refine qaV (fun e w'=>∃ (b1:Bool),KF1 b1=some o1∧e=[(1,.int .i64 net),(5,.slice p6 x1.length k5),(6,.slice p5 r1.length k4),(7,.int .i64 i1),(31,.bool b1)]∧SH w w' [Ch.own S2 (r1:List Tl05Place) [.slice p5 r1.length k4],Ch.own S3 (x1:List Int) [.slice p6 x1.length k5]]) ?_ ?_
  ·refine X0 3 rfl ?_
   obtain ⟨y1,hy1,hF,he1,b2,_,q1,cs2,hp1,hq1,hr2,hc3⟩:=(h.sl 0 rfl).1.ix hF
   obtain rfl:=qbx hr2
   refine zx hp1 hq1 ⟨he1.1,qab he1.2.1 (h.sl 0 rfl).2⟩ rfl (zp1 rfl (zc 2 hc3 rfl (zp3 rfl (qj (t:=24) hF rfl ?_ ?_))))<;>intro hF
   ·refine X0 5 rfl ?_
    obtain ⟨y2,hy2,hF,he2,b3,_,q2,cs3,hp2,hq2,hr3,hc4⟩:=(h.sl 0 rfl).1.ix hF
    obtain rfl:=qbx hr3
    refine zx hp2 hq2 ⟨he2.1,qab he2.2.1 (h.sl 0 rfl).2⟩ rfl (X0 3 rfl (zc 3 hc4 rfl (X0 4 rfl ?_)))
    obtain rfl:=qd hF
    exact rG ⟨_,hK2,rfl,h⟩ rfl
   refine X0 8 rfl ?_
   obtain rfl:=qd hF
   exact rG ⟨_,hK2,rfl,h⟩ rfl
  rintro e2 w7 ⟨b1,hF,rfl,h⟩
  subst hKF1
  refine qm rfl hF ?_ ?_<;>intro hF
  ·refine X0 3 rfl (qn qb [.tmp 33] _ ([i1]:List Int) h rfl rfl rfl rfl rfl rfl rfl rfl rfl ⟨rfl,trivial⟩ rfl fun w5 p7 S4 h=>?_)
   obtain ⟨x2,hx1,hF⟩:=qe hF
   obtain ⟨g1,hx1⟩:=qk hx1
   refine qau qb 2 h rfl (h.sl 0 rfl).1 (h.sl 0 rfl).2 rfl rfl rfl rfl rfl rfl rfl rfl rfl g1 hx1 rfl fun w6 p8 k6 S5 h=>X0 8 rfl ?_
   replace h:=h.pick [1,2] rfl
   exact rK ⟨_,_,_,_,_,_,hF,rfl,h⟩ rfl
  exact X0 7 rfl (rK ⟨_,_,_,_,_,_,hF,rfl,h⟩ rfl)
 refine qA rfl ?_
 obtain rfl:=qd hF;replace hF:=hK1
 refine X0 5 rfl ?_
 obtain rfl:=qd hF
 exact rO 1 h rfl ⟨rfl,trivial⟩
def qdN (b:qc):Nat→Int→Option (Flow Bool Int)
 | 0,_=>none
 | n+1,i1 =>
  bif decide (i1<(b.Ah.length:Int)) then
   (idx b.Ah i1).bind fun y1 =>
   (qeQ n (⟨b.Aa.Ab,b.Aa.Aj,b.Aa.Af⟩:qg) i1).bind fun r1 =>
   (qhJ n y1 (r1.length:Int)).bind fun r2 =>
   bif (!r2) then some (.ret false) else
   qdN b n (W64 (i1+1))
  else
   some (.nxt i1)
def qeH (n:Nat) (b:qc):Option Bool :=
 (
  (qfB n (⟨b.Ac.Ai⟩:qq) (⟨b.Aa.Ab,b.Aa.Aj,b.Aa.Af⟩:qg)).bind fun r3 =>
  bif (!r3) then some true else
  some ((b.Ah.length:Int) != (b.Aa.Aj.length:Int))).bind fun b1 =>
 bif b1 then some false else
 (qdN b n 0).bind fun o=>match o with
 | .ret r=>some r
 | .nxt _ =>
  some true
theorem qfJ {b:qc} (ha1:GoT.R w (old w) b cs1) {r:Bool} (hF:qeH n b=some r):RetV Tryz.prog 38 [GoT.v qc cs1] w r:=by
 obtain ⟨p1,k1,p2,k2,p3,k3,p4,k4,p5,k5,rfl,s1,s2,s3,s4,s5⟩:=qJ ha1
 refine zV 39 Tryz.func38 rfl fun h=>zSR (qS h rfl rfl fun w1 bb1 h=>X0 4 rfl ?_)
 obtain ⟨KF1,hKF1,o2,hF,hK2⟩:=bindE hF
 refine qaV (fun e w'=>∃ (b1:Bool),KF1 b1=some r∧e=[(1,.pointer (some ⟨bb1,0,none⟩)),(19,.bool b1)]∧SH w w' [Ch.box bb1 (qp b p1 p2 p3 p4 p5 k1 k2 k3 k4 k5) 34]) ?_ ?_
 ·refine X2 5 0 0 h rfl (zcB h hF (qic (qdU _ (h.oldS s1)) (qaX _ (h.oldS s2) (h.oldS s3) (h.oldS s4))) rfl fun r3 w6 h hF=>zp2 rfl (qj (t:=10) hF rfl ?_ ?_))<;>intro hF
  ·refine X0 10 rfl ?_
   obtain rfl:=qd hF
   exact rG ⟨_,hK2,rfl,h⟩ rfl
  refine X2 18 0 0 h rfl ?_
  obtain rfl:=qd hF
  exact rG ⟨_,hK2,rfl,h⟩ rfl
 rintro e2 w7 ⟨b1,hF,rfl,h⟩
 subst hKF1
 refine qm rfl hF ?_ ?_<;>intro hF
 ·exact X0 4 rfl (rb h hF rfl)
 refine X0 6 rfl ?_
 obtain ⟨o1,hF,hK1⟩:=qe hF
 refine qu (rL (fun m e w'=>∃ (i1:Int),qdN b m i1=some o1∧e=[(1,.pointer (some ⟨bb1,0,none⟩)),(3,.int .i64 i1)]∧SH w w' [Ch.box bb1 (qp b p1 p2 p3 p4 p5 k1 k2 k3 k4 k5) 34]) n ⟨_,hF,rfl,h⟩ rfl ?_)
 rintro m1 e1 w2 ⟨i1,hF,rfl,h⟩
 rcases m1 with _|m1
 ·cases hF
 refine X1 9 0 h rfl (qm rfl hF ?_ ?_)<;>intro hF
 ·refine X0 4 rfl (rA [] [0] h rfl fun w3 h=>M1 7 [0,1,2] 0 (h.pick [0] rfl) rfl ?_)
  obtain ⟨y1,hy1,hF,he1,b2,_,q1,cs2,hp1,hq1,hr1,hc3⟩:=s5.ix hF
  obtain ⟨p6,k6,p7,k7,p8,k8,p9,k9,rfl,s6,s7,s8,s9⟩:=qb1 hr1
  refine Ae 3 15 hp1 hq1 he1 (h.pick [0] rfl) rfl (Al 4 31 0 hc3 (h.pick [0] rfl) rfl (M1 255 [5,6,7] 0 (h.pick [0] rfl) rfl (Ao 8 511 rfl (zcL h hF (qgx (qaX _ (h.oldS s2) (h.oldS s3) (h.oldS s4))) rfl fun r1 w4 S1 p10 k10 h hF=>G0 1023 [9] (h.pick [1] rfl) rfl (Ao 10 2047 rfl (zcB h hF (qlF (ql2 y1 (h.oldS s6) (h.oldS s7) (h.oldS s8) (h.oldS s9))) rfl fun r2 w5 h hF=>G0 4095 [11] (h.pick [1] rfl) rfl (Ad (qm rfl hF ?_ ?_))))))))<;>intro hF
  ·refine X0 4 rfl ?_
   obtain rfl:=qd hF;replace hF:=hK1
   exact rb h hF rfl
  refine X0 7 rfl ?_
  replace h:=h.pick [1] rfl
  exact rK ⟨_,hF,rfl,h⟩ rfl
 refine qA rfl ?_
 obtain rfl:=qd hF;replace hF:=hK1
 exact X0 4 rfl (rb h hF rfl)
def qaD (_:Nat) (x:Int) (low:Int) (high:Int):Option Bool :=
 bif decide (x ≥ low) then some (decide (x≤high)) else
 some false
theorem qat {x:Int} {low:Int} {high:Int}  {r:Bool} (hF:qaD n x low high=some r):RetV Tryz.prog 76 [.int .i64 x,.int .i64 low,.int .i64 high] w r:=by
 refine zV 15 Tryz.func76 rfl fun h=>X0 10 rfl (qj (t:=10) hF rfl ?_ ?_)<;>intro hF
 ·exact X0 9 rfl (rb h hF rfl)
 exact X0 6 rfl (rb h hF rfl)
def qgq (_:Nat) (s cutset:ByteArray):Option ByteArray :=
 if s.size≤9223372036854775807∧cutset.size<4294967281∧cutset.data.toList.all (fun b=>decide (b.toNat<128))=true then some ⟨(Lib.trimS s.data.toList cutset.data.toList).toArray⟩ else none
theorem qkZ {s cutset:ByteArray} {r:ByteArray} (hF:qgq n s cutset=some r):RetV Tryz.prog 164 [.string s,.string cutset] w r:=by
 unfold qgq at hF
 split at hF
 ·rename_i hh
  obtain rfl:=qd hF
  refine (Tryz.strings_Trim_any s cutset w hh.1 hh.2.1 hh.2.2).mono ?_
  rintro e w' ⟨rfl,hB⟩
  exact ⟨_,rfl,hB,[.string _],rfl,qmv _ _⟩
 cases hF
def qeV (_:Nat) (s:ByteArray) (c:(IntK .u8)):Option Int :=
 some (Lib.indexByte s.data.toList c.val.toNat.toUInt8)
theorem qja {s:ByteArray} {c:(IntK .u8)} {r:Int} (hF:qeV n s c=some r):RetV Tryz.prog 165 [.string s,.int .u8 c.val] w r:=by
 obtain rfl:=qd hF
 refine (Tryz.strings_IndexByte s c.val w).mono ?_
 rintro e w' ⟨rfl,rfl⟩
 exact ⟨_,rfl,Below.refl _ _,[.int .i64 _],rfl,qoM _ _⟩
def qgZ (n:Nat) (s:ByteArray):Option Bool :=
 (qaD n (s.size:Int) 1 8).bind fun r1 =>
 bif r1 then
  (qgq n s (⟨#[97,98,99,100,101,102,103,104,105,106,107,108,109,110,111,112,113,114,115,116,117,118,119,120,121,122,48,49,50,51,52,53,54,55,56,57]⟩:ByteArray)).bind fun r2 =>
  bif (r2.toList==(⟨#[]⟩:ByteArray).toList) then
   (atS s 0).bind fun y1 =>
   (qeV n (⟨#[97,98,99,100,101,102,103,104,105,106,107,108,109,110,111,112,113,114,115,116,117,118,119,120,121,122]⟩:ByteArray) (⟨y1⟩:IntK .u8)).bind fun r3 =>
   some (decide (r3 ≥ 0))
  else
   some false
 else
  some false
theorem qi1 {s:ByteArray}  {r:Bool} (hF:qgZ n s=some r):RetV Tryz.prog 157 [.string s] w r:=by
 refine zV 17 Tryz.func157 rfl fun h=>X0 8 rfl (zcB h hF qat rfl fun r1 w1 h hF=>zp1 rfl (qj (t:=6) hF rfl ?_ ?_))<;>intro hF
 ·refine X0 3 rfl (zcS h hF qkZ rfl fun r2 w2 h hF=>X0 4 rfl (qj (t:=11) hF rfl ?_ ?_))<;>intro hF
  ·refine X0 3 rfl ?_
   obtain ⟨y1,hx1,hF⟩:=qe hF
   have g1:=qi5 hx1
   exact r_v (qiN qb g1 rfl rfl rfl rfl) rfl (X0 1 rfl (zcI h hF qja rfl fun r3 w3 h hF=>X0 5 rfl (rb h hF rfl)))
  exact X0 7 rfl (rb h hF rfl)
 exact X0 12 rfl (rb h hF rfl)
def qbw (_:Nat) (list:(List qY)):Option Int :=
 some (list.length:Int)
theorem qf0 {list:(List qY)} (ha1:GoT.R w (old w) list cs1) {r:Int} (hF:qbw n list=some r):RetV Tryz.prog 130 [GoT.v (List qY) cs1] w r:=by
 obtain ⟨p1,k1,rfl,s1⟩:=ha1
 exact zV 5 Tryz.func130 rfl fun h=>X0 10 rfl (ri h hF rfl)
def qbC (s:(List ByteArray)) (v:ByteArray):Nat→Int→Option (Flow Int Int)
 | 0,_=>none
 | n+1,i1 =>
  bif decide (i1<(s.length:Int)) then
   (idx s i1).bind fun y1 =>
   bif (v.toList==y1.toList) then some (.ret i1) else
   qbC s v n (W64 (i1+1))
  else
   some (.nxt i1)
def qej (n:Nat) (s:(List ByteArray)) (v:ByteArray):Option Int :=
 (qbC s v n 0).bind fun o=>match o with
 | .ret r=>some r
 | .nxt _ =>
  some (-1)
theorem qip {s:(List ByteArray)} {v:ByteArray} (ha1:GoT.R w (old w) s cs1) {r:Int} (hF:qej n s v=some r):RetV Tryz.prog 169 [GoT.v (List ByteArray) cs1,.string v] w r:=by
 obtain ⟨p1,k1,rfl,s1⟩:=ha1
 refine zV 19 Tryz.func169 rfl fun h=>X0 11 rfl ?_
 obtain ⟨o1,hF,hK1⟩:=qe hF
 refine qu (rL (fun m e w'=>∃ (i1:Int),qbC s v m i1=some o1∧e=[(0,.slice p1 s.length k1),(1,.string v),(7,.int .i64 (s.length:Int)),(8,.int .i64 i1)]∧SH w w' []) n ⟨_,hF,rfl,h⟩ rfl ?_)
 rintro m1 e1 w1 ⟨i1,hF,rfl,h⟩
 rcases m1 with _|m1
 ·cases hF
 refine X0 5 rfl (qm rfl hF ?_ ?_)<;>intro hF
 ·refine X0 13 rfl ?_
  obtain ⟨y1,hy1,hF,he1,b1,_,q1,cs2,hp1,hq1,rfl,hc2⟩:=s1.ix hF
  refine zxe hp1 hq1 he1 rfl (zc 0 (hc2.below h.below) rfl (X0 2 rfl (qm rfl hF ?_ ?_)))<;>intro hF
  ·refine X0 5 rfl ?_
   obtain rfl:=qd hF;replace hF:=hK1
   exact ri h hF rfl
  exact X0 6 rfl (rK ⟨_,hF,rfl,h⟩ rfl)
 refine qA rfl ?_
 obtain rfl:=qd hF;replace hF:=hK1
 exact X0 4 rfl (ri h hF rfl)
def qc7 (n:Nat) (s:(List ByteArray)) (v:ByteArray):Option Bool :=
 (qej n s v).bind fun r1 =>
 some (decide (r1 ≥ 0))
theorem qhH {s:(List ByteArray)} {v:ByteArray} (ha1:GoT.R w (old w) s cs1) {r:Bool} (hF:qc7 n s v=some r):RetV Tryz.prog 161 [GoT.v (List ByteArray) cs1,.string v] w r:=by
 obtain ⟨p1,k1,rfl,s1⟩:=ha1
 exact zV 9 Tryz.func161 rfl fun h=>X0 8 rfl (zcI h hF (qip ⟨_,_,rfl,(h.oldS s1)⟩) rfl fun r1 w1 h hF=>X0 3 rfl (rb h hF rfl))
def qdi (list:(List ByteArray)):Nat→Int→Option (Flow Bool Int)
 | 0,_=>none
 | n+1,i1 =>
  bif decide (i1<(list.length:Int)) then
   (idx list i1).bind fun y1 =>
   (qgZ n y1).bind fun r1 =>
   bif (!r1) then some (.ret false) else
   (subS list 0 i1).bind fun x1 =>
   (qc7 n x1 y1).bind fun r2 =>
   bif r2 then some (.ret false) else
   qdi list n (W64 (i1+1))
  else
   some (.nxt i1)
def qdf (n:Nat) (list:(List ByteArray)):Option Bool :=
 (qdi list n 0).bind fun o=>match o with
 | .ret r=>some r
 | .nxt _ =>
  some true
theorem qeu {list:(List ByteArray)} (ha1:GoT.R w (old w) list cs1) {r:Bool} (hF:qdf n list=some r):RetV Tryz.prog 146 [GoT.v (List ByteArray) cs1] w r:=by
 obtain ⟨p1,k1,rfl,s1⟩:=ha1
 refine zV 23 Tryz.func146 rfl fun h=>X0 11 rfl ?_
 obtain ⟨o1,hF,hK1⟩:=qe hF
 refine qu (rL (fun m e w'=>∃ (i1:Int),qdi list m i1=some o1∧e=[(0,.slice p1 list.length k1),(5,.slice p1 list.length k1),(6,.int .i64 (list.length:Int)),(7,.int .i64 i1)]∧SH w w' []) n ⟨_,hF,rfl,h⟩ rfl ?_)
 rintro m1 e1 w1 ⟨i1,hF,rfl,h⟩
 rcases m1 with _|m1
 ·cases hF
 refine X0 5 rfl (qm rfl hF ?_ ?_)<;>intro hF
 ·refine X0 6 rfl ?_
  obtain ⟨y1,hy1,hF,he1,b1,_,q1,cs2,hp1,hq1,rfl,hc2⟩:=s1.ix hF
  refine zxe hp1 hq1 he1 rfl (zc 0 (hc2.below h.below) rfl (X0 6 rfl (zcB h hF qi1 rfl fun r1 w2 h hF=>zp2 rfl (qj (t:=15) hF rfl ?_ ?_))))<;>intro hF
  ·refine X0 7 rfl (qdb rfl rfl (X0 4 rfl ?_))
   obtain rfl:=qd hF;replace hF:=hK1
   exact rb h hF rfl
  refine X0 5 rfl ?_
  obtain ⟨x1,hx1,hF⟩:=qe hF
  obtain ⟨p2,k2,hp2,hk1,hl1,g1⟩:=qkI (h.oldS s1) hx1
  refine r_v (qh0 qb rfl rfl rfl (qkk g1 rfl) hp2 hk1 hl1 rfl rfl rfl rfl) rfl ?_
  have s2:=qkD s1 hx1 hp2 hk1
  refine X0 3 rfl (zcB h hF (qhH ⟨_,_,rfl,(h.oldS s2)⟩) rfl fun r2 w3 h hF=>X0 2 rfl (qm rfl hF ?_ ?_))<;>intro hF
  ·refine X0 4 rfl ?_
   obtain rfl:=qd hF;replace hF:=hK1
   exact rb h hF rfl
  exact X0 6 rfl (rK ⟨_,hF,rfl,h⟩ rfl)
 refine qA rfl ?_
 obtain rfl:=qd hF;replace hF:=hK1
 exact X0 4 rfl (rb h hF rfl)
def qck (list:(List qY)):Nat→(List ByteArray)→Int→Option (Flow Bool ((List ByteArray) × Int))
 | 0,_,_=>none
 | n+1,x1,i1 =>
  bif decide (i1<(list.length:Int)) then
   (idx list i1).bind fun y1 =>
   (appS x1 ([y1.Au]:List ByteArray)).bind fun x2 =>
   bif (i1==(W64 ((list.length:Int)-1))) then
    bif (y1.Bn != 2) then some (.ret false) else
    bif (y1.Bd != 0) then some (.ret false) else
    bif y1.Bc then some (.ret false) else
    qck list n x2 (W64 (i1+1))
   else
    bif (y1.Bn != 1) then some (.ret false) else
    (qaD n y1.Bd 0 500).bind fun r1 =>
    bif (!r1) then some (.ret false) else
    qck list n x2 (W64 (i1+1))
  else
   some (.nxt (x1,i1))
def qhg (n:Nat) (list:(List qY)):Option Bool :=
 (qck list n ([]:List ByteArray) 0).bind fun o=>match o with
 | .ret r=>some r
 | .nxt (x1,_) =>
  (qbw n list).bind fun r2 =>
  (qaD n r2 2 5).bind fun r3 =>
  bif r3 then
   (qdf n x1).bind fun r4 =>
   some r4
  else
   some false
theorem qk0 {list:(List qY)} (ha1:GoT.R w (old w) list cs1) {r:Bool} (hF:qhg n list=some r):RetV Tryz.prog 158 [GoT.v (List qY) cs1] w r:=by
 obtain ⟨p1,k1,rfl,s1⟩:=ha1
 refine zV 52 Tryz.func158 rfl fun h=>X0 15 rfl ?_
 replace h:=h.nil (α:=ByteArray)
 obtain ⟨o1,hF,hK1⟩:=qe hF
 refine qu (rL (fun m e w'=>∃ (S1:Nat→Prop) (p2:Option Addr) (ln1:Nat) (k2:Nat) (x1:(List ByteArray)) (i1:Int),qck list m x1 i1=some o1∧e=[(0,.slice p1 list.length k1),(3,.slice p2 ln1 k2),(6,.slice p1 list.length k1),(7,.int .i64 (list.length:Int)),(8,.int .i64 i1)]∧SH w w' [Ch.own S1 (x1:List ByteArray) [.slice p2 ln1 k2]]) n ⟨_,_,_,_,_,_,hF,rfl,h⟩ rfl ?_)
 rintro m1 e1 w1 ⟨S1,p2,ln1,k2,x1,i1,hF,rfl,h⟩
 obtain rfl:=(h.sl 0 rfl).2
 rcases m1 with _|m1
 ·cases hF
 refine X0 5 rfl (qm rfl hF ?_ ?_)<;>intro hF
 ·refine X0 6 rfl ?_
  obtain ⟨y1,hy1,hF,he1,b1,_,q1,cs2,hp1,hq1,hr1,hc2⟩:=s1.ix hF
  obtain rfl:=qdp hr1
  refine zxe hp1 hq1 he1 rfl (zc 0 (hc2.below h.below) rfl (qx qb h rfl rfl rfl fun w2 bb1 h=>zp1 rfl (zs 0 h rfl fun w3 h=>X1 6 0 h rfl (qn qb [.tmp 15] _ ([y1.Au]:List ByteArray) h rfl rfl rfl rfl rfl rfl rfl rfl rfl ⟨rfl,trivial⟩ rfl fun w4 p3 S2 h=>?_))))
  obtain ⟨x2,hx1,hF⟩:=qe hF
  obtain ⟨g1,hx1⟩:=qk hx1
  refine qau qb 2 h rfl (h.sl 0 rfl).1 (h.sl 0 rfl).2 rfl rfl rfl rfl rfl rfl rfl rfl rfl g1 hx1 rfl fun w5 p4 k3 S3 h=>X0 10 rfl (qm rfl hF ?_ ?_)<;>intro hF
  ·refine X1 6 1 h rfl (qj (t:=26) hF rfl ?_ ?_)<;>intro hF
   ·refine X0 9 rfl (qdb rfl rfl (X0 4 rfl ?_))
    obtain rfl:=qd hF;replace hF:=hK1
    exact rb h hF rfl
   refine X1 8 1 h rfl (qj (t:=31) hF rfl ?_ ?_)<;>intro hF
   ·refine X0 4 rfl (qdb rfl rfl (X0 4 rfl ?_))
    obtain rfl:=qd hF;replace hF:=hK1
    exact rb h hF rfl
   refine X1 6 1 h rfl (qm rfl hF ?_ ?_)<;>intro hF
   ·refine X0 4 rfl ?_
    obtain rfl:=qd hF;replace hF:=hK1
    exact rb h hF rfl
   refine X0 6 rfl ?_
   replace h:=h.pick [2] rfl
   exact rK ⟨_,_,_,_,_,_,hF,rfl,h⟩ rfl
  refine X1 6 1 h rfl (qj (t:=38) hF rfl ?_ ?_)<;>intro hF
  ·refine X0 6 rfl (qdb rfl rfl (X0 4 rfl ?_))
   obtain rfl:=qd hF;replace hF:=hK1
   exact rb h hF rfl
  refine X1 5 1 h rfl (zcB h hF qat rfl fun r1 w6 h hF=>X0 4 rfl (qm rfl hF ?_ ?_))<;>intro hF
  ·refine X0 4 rfl ?_
   obtain rfl:=qd hF;replace hF:=hK1
   exact rb h hF rfl
  refine X0 6 rfl ?_
  replace h:=h.pick [2] rfl
  exact rK ⟨_,_,_,_,_,_,hF,rfl,h⟩ rfl
 refine qA rfl ?_
 obtain rfl:=qd hF;replace hF:=hK1
 refine X0 3 rfl (zcI h hF (qf0 ⟨_,_,rfl,(h.oldS s1)⟩) rfl fun r2 w7 h hF=>zcB h hF qat rfl fun r3 w8 h hF=>zp1 rfl (qj (t:=48) hF rfl ?_ ?_))<;>intro hF
 ·exact X0 3 rfl (zcB h hF (qeu (h.own 0 rfl)) rfl fun r4 w9 h hF=>X0 3 rfl (rb h hF rfl))
 exact X0 5 rfl (rb h hF rfl)
def qbV (n:Nat) (c:qv):Option Int :=
 (qbw n c.Ap).bind fun r1 =>
 some (W64 (r1-1))
theorem qeh {c:qv} (ha1:GoT.R w (old w) c cs1) {r:Int} (hF:qbV n c=some r):RetV Tryz.prog 83 [GoT.v qv cs1] w r:=by
 obtain ⟨p1,k1,p2,k2,p3,k3,rfl,s1,s2,s3⟩:=qQ ha1
 exact zV 7 Tryz.func83 rfl fun h=>zSR (qS h rfl rfl fun w1 bb1 h=>X1 6 0 h rfl (zcI h hF (qf0 ⟨_,_,rfl,(h.oldS s1)⟩) rfl fun r1 w2 h hF=>X0 3 rfl (ri h hF rfl)))
def qg9 (_:Nat) (kind:Int):Option Bool :=
 bif (kind==4) then some true else
 some (kind==5)
theorem qkS {kind:Int}  {r:Bool} (hF:qg9 n kind=some r):RetV Tryz.prog 95 [.int .i64 kind] w r:=by
 refine zV 9 Tryz.func95 rfl fun h=>X0 9 rfl (qj (t:=5) hF rfl ?_ ?_)<;>intro hF
 ·exact X0 5 rfl (rb h hF rfl)
 exact X0 7 rfl (rb h hF rfl)
def qfs (n:Nat) (a_n:Int) (v0:Int) (v1:Int):Option Bool :=
 (qaD n a_n v0 v1).bind fun r1 =>
 some (!r1)
theorem qjs {a_n:Int} {v0:Int} {v1:Int} {p1:Option Addr} (ha1:GoT.R w (old w) (some v0) [.pointer p1]) {p2:Option Addr} (ha2:GoT.R w (old w) (some v1) [.pointer p2]) {r:Bool} (hF:qfs n a_n v0 v1=some r):RetV Tryz.prog 132 [.int .i64 a_n,.pointer p1,.pointer p2] w r:=by
 obtain ⟨b1,o_1,cs1,rfl,-,hr1,hc1⟩:=PtR.get ha1 rfl
 obtain rfl:=hr1
 obtain ⟨b2,o_2,cs2,rfl,-,hr2,hc2⟩:=PtR.get ha2 rfl
 obtain rfl:=hr2
 exact zV 10 Tryz.func132 rfl fun h=>X0 7 rfl (zc 0 (hc1.below h.below) rfl (zc 0 (hc2.below h.below) rfl (zcB h hF qat rfl fun r1 w1 h hF=>X0 3 rfl (rb h hF rfl))))
def qX (s:(List Int)) (f_0:Int) (f_1:Int):Nat→Int→Option (Flow Int Int)
 | 0,_=>none
 | n+1,i1 =>
  bif decide (i1<(s.length:Int)) then
   (idx s i1).bind fun y1 =>
   (qfs n y1 f_0 f_1).bind fun r1 =>
   bif r1 then some (.ret i1) else
   qX s f_0 f_1 n (W64 (i1+1))
  else
   some (.nxt i1)
def qaH (n:Nat) (s:(List Int)) (f_0:Int) (f_1:Int):Option Int :=
 (qX s f_0 f_1 n 0).bind fun o=>match o with
 | .ret r=>some r
 | .nxt _ =>
  some (-1)
theorem qeJ {s:(List Int)} {f_0:Int} {f_1:Int} (ha1:GoT.R w (old w) s cs1) {p2:Option Addr} (ha2:GoT.R w (old w) (some f_0) [.pointer p2]) {p3:Option Addr} (ha3:GoT.R w (old w) (some f_1) [.pointer p3]) {r:Int} (hF:qaH n s f_0 f_1=some r):RetV Tryz.prog 151 [GoT.v (List Int) cs1,.func (.func 132) #[] #[.pointer p2,.pointer p3]] w r:=by
 obtain ⟨p1,k1,rfl,s1⟩:=ha1
 obtain ⟨b1,o_1,cs2,rfl,-,hr1,hc1⟩:=PtR.get ha2 rfl
 obtain rfl:=hr1
 obtain ⟨b2,o_2,cs3,rfl,-,hr2,hc2⟩:=PtR.get ha3 rfl
 obtain rfl:=hr2
 refine zV 19 Tryz.func151 rfl fun h=>X0 11 rfl ?_
 obtain ⟨o1,hF,hK1⟩:=qe hF
 refine qu (rL (fun m e w'=>∃ (i1:Int),qX s f_0 f_1 m i1=some o1∧e=[(0,.slice p1 s.length k1),(1,.func (.func 132) #[] #[.pointer (some ⟨b1,o_1,none⟩),.pointer (some ⟨b2,o_2,none⟩)]),(7,.int .i64 (s.length:Int)),(8,.int .i64 i1)]∧SH w w' []) n ⟨_,hF,rfl,h⟩ rfl ?_)
 rintro m1 e1 w1 ⟨i1,hF,rfl,h⟩
 rcases m1 with _|m1
 ·cases hF
 refine X0 5 rfl (qm rfl hF ?_ ?_)<;>intro hF
 ·refine X0 13 rfl ?_
  obtain ⟨y1,hy1,hF,he1,b3,_,q1,cs4,hp1,hq1,rfl,hc4⟩:=s1.ix hF
  refine zxe hp1 hq1 he1 rfl (zc 0 (hc4.below h.below) rfl (zcB h hF (qjs (h.old ha2) (h.old ha3)) rfl fun r1 w2 h hF=>qaW (qm rfl hF ?_ ?_)))<;>intro hF
  ·refine X0 5 rfl ?_
   obtain rfl:=qd hF;replace hF:=hK1
   exact ri h hF rfl
  exact X0 6 rfl (rK ⟨_,hF,rfl,h⟩ rfl)
 refine qA rfl ?_
 obtain rfl:=qd hF;replace hF:=hK1
 exact X0 4 rfl (ri h hF rfl)
def qa9 (n:Nat) (s:(List Int)) (f_0:Int) (f_1:Int):Option Bool :=
 (qaH n s f_0 f_1).bind fun r1 =>
 some (decide (r1 ≥ 0))
theorem qeg {s:(List Int)} {f_0:Int} {f_1:Int} (ha1:GoT.R w (old w) s cs1) {p2:Option Addr} (ha2:GoT.R w (old w) (some f_0) [.pointer p2]) {p3:Option Addr} (ha3:GoT.R w (old w) (some f_1) [.pointer p3]) {r:Bool} (hF:qa9 n s f_0 f_1=some r):RetV Tryz.prog 131 [GoT.v (List Int) cs1,.func (.func 132) #[] #[.pointer p2,.pointer p3]] w r:=by
 obtain ⟨p1,k1,rfl,s1⟩:=ha1
 obtain ⟨b1,o_1,cs2,rfl,-,hr1,hc1⟩:=PtR.get ha2 rfl
 obtain rfl:=hr1
 obtain ⟨b2,o_2,cs3,rfl,-,hr2,hc2⟩:=PtR.get ha3 rfl
 obtain rfl:=hr2
 exact zV 9 Tryz.func131 rfl fun h=>X0 8 rfl (zcI h hF (qeJ ⟨_,_,rfl,(h.oldS s1)⟩ (h.old ha2) (h.old ha3)) rfl fun r1 w1 h hF=>X0 3 rfl (rb h hF rfl))
def qbe (n:Nat) (list:(List Int)) (low:Int) (high:Int):Option Bool :=
 (qa9 n list low high).bind fun r1 =>
 some (!r1)
theorem qbH {list:(List Int)} {low:Int} {high:Int} (ha1:GoT.R w (old w) list cs1) {r:Bool} (hF:qbe n list low high=some r):RetV Tryz.prog 92 [GoT.v (List Int) cs1,.int .i64 low,.int .i64 high] w r:=by
 obtain ⟨p1,k1,rfl,s1⟩:=ha1
 exact zV 11 Tryz.func92 rfl fun h=>zSR (qS h rfl rfl fun w1 bb1 h=>qS h rfl rfl fun w2 bb2 h=>X0 6 rfl (zcB h hF (qeg ⟨_,_,rfl,(h.oldS s1)⟩ (qgO (x:=low) 1 h rfl rfl) (qgO (x:=high) 0 h rfl rfl)) rfl fun r1 w3 h hF=>X0 3 rfl (rb h hF rfl)))
def qaf (_:Nat) (list:(List Int)):Option Int :=
 some (list.length:Int)
theorem qaP {list:(List Int)} (ha1:GoT.R w (old w) list cs1) {r:Int} (hF:qaf n list=some r):RetV Tryz.prog 73 [GoT.v (List Int) cs1] w r:=by
 obtain ⟨p1,k1,rfl,s1⟩:=ha1
 exact zV 5 Tryz.func73 rfl fun h=>X0 10 rfl (ri h hF rfl)
def qa7 (list:(List Int)):Nat→Int→Option (Flow Bool Int)
 | 0,_=>none
 | n+1,i1 =>
  bif decide (i1<(list.length:Int)) then
   (idx list (W64 (i1-1))).bind fun y1 =>
   (idx list i1).bind fun y2 =>
   bif decide (y1 ≥ y2) then some (.ret false) else
   qa7 list n (W64 (i1+1))
  else
   some (.nxt i1)
def qcN (n:Nat) (list:(List Int)):Option Bool :=
 (qa7 list n 1).bind fun o=>match o with
 | .ret r=>some r
 | .nxt _ =>
  some true
theorem qfc {list:(List Int)} (ha1:GoT.R w (old w) list cs1) {r:Bool} (hF:qcN n list=some r):RetV Tryz.prog 113 [GoT.v (List Int) cs1] w r:=by
 obtain ⟨p1,k1,rfl,s1⟩:=ha1
 refine zV 20 Tryz.func113 rfl fun h=>X0 9 rfl ?_
 obtain ⟨o1,hF,hK1⟩:=qe hF
 refine qu (rL (fun m e w'=>∃ (i1:Int),qa7 list m i1=some o1∧e=[(0,.slice p1 list.length k1),(3,.int .i64 i1)]∧SH w w' []) n ⟨_,hF,rfl,h⟩ rfl ?_)
 rintro m1 e1 w1 ⟨i1,hF,rfl,h⟩
 rcases m1 with _|m1
 ·cases hF
 refine X0 8 rfl (qm rfl hF ?_ ?_)<;>intro hF
 ·refine X0 4 rfl (rD (zd3 rfl ?_))
  obtain ⟨y1,hy1,hF,he1,b1,_,q1,cs2,hp1,hq1,rfl,hc2⟩:=s1.ix hF
  refine zdxe hp1 hq1 he1 rfl (zdc 0 (hc2.below h.below) rfl (zd2 rfl ?_))
  obtain ⟨y2,hy2,hF,he2,b2,_,q2,cs3,hp2,hq2,rfl,hc3⟩:=s1.ix hF
  refine zdxe hp2 hq2 he2 rfl (zdc 0 (hc3.below h.below) rfl (zd1 rfl (dN h fun w2 h=>qm rfl hF ?_ ?_)))<;>intro hF
  ·refine X0 4 rfl ?_
   obtain rfl:=qd hF;replace hF:=hK1
   exact rb h hF rfl
  exact X0 7 rfl (rK ⟨_,hF,rfl,h⟩ rfl)
 refine qA rfl ?_
 obtain rfl:=qd hF;replace hF:=hK1
 exact X0 4 rfl (rb h hF rfl)
def qgP (n:Nat) (list:(List Int)):Option Bool :=
 (qaf n list).bind fun r1 =>
 (qaD n r1 1 4).bind fun r2 =>
 bif r2 then
  (qbe n list 0 100000).bind fun r3 =>
  bif r3 then
   (qcN n list).bind fun r4 =>
   some r4
  else
   some false
 else
  some false
theorem qiR {list:(List Int)} (ha1:GoT.R w (old w) list cs1) {r:Bool} (hF:qgP n list=some r):RetV Tryz.prog 202 [GoT.v (List Int) cs1] w r:=by
 obtain ⟨p1,k1,rfl,s1⟩:=ha1
 refine zV 14 Tryz.func202 rfl fun h=>X0 7 rfl (zcI h hF (qaP ⟨_,_,rfl,(h.oldS s1)⟩) rfl fun r1 w1 h hF=>zcB h hF qat rfl fun r2 w2 h hF=>zp1 rfl (qj (t:=6) hF rfl ?_ ?_))<;>intro hF
 ·refine X0 3 rfl (zcB h hF (qbH ⟨_,_,rfl,(h.oldS s1)⟩) rfl fun r3 w3 h hF=>zp2 rfl (qj (t:=10) hF rfl ?_ ?_))<;>intro hF
  ·exact X0 3 rfl (zcB h hF (qfc ⟨_,_,rfl,(h.oldS s1)⟩) rfl fun r4 w4 h hF=>X0 3 rfl (rb h hF rfl))
  exact X0 5 rfl (rb h hF rfl)
 exact X0 9 rfl (rb h hF rfl)
def qhd (n:Nat) (t:qN):Option Bool :=
 (qgP n t.Bf).bind fun r1 =>
 bif r1 then
  (qgP n t.Bg).bind fun r2 =>
  bif r2 then
   bif ((t.Ay.length:Int)==(W64 ((t.Bf.length:Int)*(t.Bg.length:Int)))) then
    (qbe n t.Ay (-1000000) 1000000).bind fun r3 =>
    some r3
   else
    some false
  else
   some false
 else
  some false
theorem qkW {t:qN} (ha1:GoT.R w (old w) t cs1) {r:Bool} (hF:qhd n t=some r):RetV Tryz.prog 193 [GoT.v qN cs1] w r:=by
 obtain ⟨p1,k1,p2,k2,p3,k3,rfl,s1,s2,s3⟩:=qez ha1
 refine zV 29 Tryz.func193 rfl fun h=>zSR (qS h rfl rfl fun w1 bb1 h=>X1 6 0 h rfl (zcB h hF (qiR ⟨_,_,rfl,(h.oldS s1)⟩) rfl fun r1 w2 h hF=>zp1 rfl (qj (t:=6) hF rfl ?_ ?_)))<;>intro hF
 ·refine X1 5 0 h rfl (zcB h hF (qiR ⟨_,_,rfl,(h.oldS s2)⟩) rfl fun r2 w3 h hF=>zp2 rfl (qj (t:=11) hF rfl ?_ ?_))<;>intro hF
  ·refine X3 24 0 0 0 h rfl (qj (t:=24) hF rfl ?_ ?_)<;>intro hF
   ·exact X1 5 0 h rfl (zcB h hF (qbH ⟨_,_,rfl,(h.oldS s3)⟩) rfl fun r3 w4 h hF=>X0 3 rfl (rb h hF rfl))
   exact X0 6 rfl (rb h hF rfl)
  exact X0 19 rfl (rb h hF rfl)
 exact X0 24 rfl (rb h hF rfl)
def qcd (x:(List Int)):Nat→Int→Int→Option (Int × Int)
 | 0,_,_=>none
 | n+1,i1,i2 =>
  bif decide (i2<(x.length:Int)) then
   (idx x i2).bind fun y2 =>
   qcd x n (if y2<i1 then y2 else i1) (W64 (i2+1))
  else
   some (i1,i2)
def qff (n:Nat) (x:(List Int)):Option Int :=
 (
  bif decide ((x.length:Int)<1) then none else
  some ()).bind fun _ =>
 (idx x 0).bind fun y1 =>
 (qcd x n y1 1).bind fun o=>match o with
 | (i1,_) =>
  some i1
theorem qjt {x:(List Int)} (ha1:GoT.R w (old w) x cs1) {r:Int} (hF:qff n x=some r):RetV Tryz.prog 194 [GoT.v (List Int) cs1] w r:=by
 obtain ⟨p1,k1,rfl,s1⟩:=ha1
 refine zV 25 Tryz.func194 rfl fun h=>X0 11 rfl ?_
 obtain ⟨KF1,hKF1,o2,hF,hK2⟩:=bindE hF
 refine qaV (fun e w'=>KF1 ()=some r∧e=[(0,.slice p1 x.length k1)]∧SH w w' []) ?_ ?_
 ·refine qm rfl hF ?_ ?_<;>intro hF
  ·refine qh4 ?_
   cases hF
  refine qdy ?_
  obtain rfl:=qd hF
  exact rG ⟨hK2,rfl,h⟩ rfl
 rintro e2 w2 ⟨hF,rfl,h⟩
 subst hKF1
 refine X0 3 rfl ?_
 obtain ⟨y1,hy1,hF,he1,b1,_,q1,cs2,hp1,hq1,rfl,hc1⟩:=s1.ix hF
 refine zxe hp1 hq1 he1 rfl (zc 0 (hc1.below h.below) rfl (X0 7 rfl ?_))
 obtain ⟨o1,hF,hK1⟩:=qe hF
 refine qu (rL (fun m e w'=>∃ (i1:Int) (i2:Int),qcd x m i1 i2=some o1∧e=[(0,.slice p1 x.length k1),(3,.int .i64 i1),(4,.int .i64 i2)]∧SH w w' []) n ⟨_,_,hF,rfl,h⟩ rfl ?_)
 rintro m1 e1 w1 ⟨i1,i2,hF,rfl,h⟩
 rcases m1 with _|m1
 ·cases hF
 refine X0 8 rfl (qm rfl hF ?_ ?_)<;>intro hF
 ·refine X0 7 rfl ?_
  obtain ⟨y2,hy2,hF,he2,b2,_,q2,cs3,hp2,hq2,rfl,hc3⟩:=s1.ix hF
  exact zxe hp2 hq2 he2 rfl (zc 0 (hc3.below h.below) rfl (X0 9 rfl (rK ⟨_,_,hF,rfl,h⟩ rfl)))
 refine qA rfl ?_
 obtain rfl:=qd hF;replace hF:=hK1
 exact X0 5 rfl (ri h hF rfl)
def qfl (n:Nat) (t:qN) (v0:Bool):Option Bool :=
 (qhd n t).bind fun r1 =>
 bif (!r1) then some true else
 bif v0 then
  (qff n t.Ay).bind fun r2 =>
  some (decide (r2<0))
 else
  some false
theorem qjr {t:qN} {v0:Bool} (ha1:GoT.R w (old w) t cs1) {p4:Option Addr} (ha2:GoT.R w (old w) (some v0) [.pointer p4]) {r:Bool} (hF:qfl n t v0=some r):RetV Tryz.prog 192 [GoT.v qN cs1,.pointer p4] w r:=by
 obtain ⟨p1,k1,p2,k2,p3,k3,rfl,s1,s2,s3⟩:=qez ha1
 obtain ⟨b1,o_1,cs2,rfl,-,hr1,hc1⟩:=PtR.get ha2 rfl
 obtain rfl:=hr1
 refine zV 16 Tryz.func192 rfl fun h=>zSR (qS h rfl rfl fun w1 bb1 h=>X1 5 0 h rfl (zcB h hF (qkW (h.old ha1)) rfl fun r1 w2 h hF=>zp2 rfl (qj (t:=7) hF rfl ?_ ?_)))<;>intro hF
 ·exact X0 10 rfl (rb h hF rfl)
 refine X0 1 rfl (zc 0 (hc1.below h.below) rfl (X0 2 rfl (qj (t:=9) hF rfl ?_ ?_)))<;>intro hF
 ·exact X1 5 0 h rfl (zcI h hF (qjt ⟨_,_,rfl,(h.oldS s3)⟩) rfl fun r2 w3 h hF=>X0 7 rfl (rb h hF rfl))
 exact X0 9 rfl (rb h hF rfl)
def qM (s:(List qN)) (f_0:Bool):Nat→Int→Option (Flow Int Int)
 | 0,_=>none
 | n+1,i1 =>
  bif decide (i1<(s.length:Int)) then
   (idx s i1).bind fun y1 =>
   (qfl n y1 f_0).bind fun r1 =>
   bif r1 then some (.ret i1) else
   qM s f_0 n (W64 (i1+1))
  else
   some (.nxt i1)
def qaA (n:Nat) (s:(List qN)) (f_0:Bool):Option Int :=
 (qM s f_0 n 0).bind fun o=>match o with
 | .ret r=>some r
 | .nxt _ =>
  some (-1)
theorem qdZ {s:(List qN)} {f_0:Bool} (ha1:GoT.R w (old w) s cs1) {p2:Option Addr} (ha2:GoT.R w (old w) (some f_0) [.pointer p2]) {r:Int} (hF:qaA n s f_0=some r):RetV Tryz.prog 201 [GoT.v (List qN) cs1,.func (.func 192) #[] #[.pointer p2]] w r:=by
 obtain ⟨p1,k1,rfl,s1⟩:=ha1
 obtain ⟨b1,o_1,cs2,rfl,-,hr1,hc1⟩:=PtR.get ha2 rfl
 obtain rfl:=hr1
 refine zV 19 Tryz.func201 rfl fun h=>X0 11 rfl ?_
 obtain ⟨o1,hF,hK1⟩:=qe hF
 refine qu (rL (fun m e w'=>∃ (i1:Int),qM s f_0 m i1=some o1∧e=[(0,.slice p1 s.length k1),(1,.func (.func 192) #[] #[.pointer (some ⟨b1,o_1,none⟩)]),(7,.int .i64 (s.length:Int)),(8,.int .i64 i1)]∧SH w w' []) n ⟨_,hF,rfl,h⟩ rfl ?_)
 rintro m1 e1 w1 ⟨i1,hF,rfl,h⟩
 rcases m1 with _|m1
 ·cases hF
 refine X0 5 rfl (qm rfl hF ?_ ?_)<;>intro hF
 ·refine X0 13 rfl ?_
  obtain ⟨y1,hy1,hF,he1,b2,_,q1,cs3,hp1,hq1,hr2,hc3⟩:=s1.ix hF
  obtain ⟨p3,k2,p4,k3,p5,k4,rfl,s2,s3,s4⟩:=qez hr2
  refine zxe hp1 hq1 he1 rfl (zc 0 (hc3.below h.below) rfl (zcB h hF (qjr (qlB y1 (h.oldS s2) (h.oldS s3) (h.oldS s4)) (h.old ha2)) rfl fun r1 w2 h hF=>qaW (qm rfl hF ?_ ?_)))<;>intro hF
  ·refine X0 5 rfl ?_
   obtain rfl:=qd hF;replace hF:=hK1
   exact ri h hF rfl
  exact X0 6 rfl (rK ⟨_,hF,rfl,h⟩ rfl)
 refine qA rfl ?_
 obtain rfl:=qd hF;replace hF:=hK1
 exact X0 4 rfl (ri h hF rfl)
def qaO (n:Nat) (s:(List qN)) (f_0:Bool):Option Bool :=
 (qaA n s f_0).bind fun r1 =>
 some (decide (r1 ≥ 0))
theorem qdw {s:(List qN)} {f_0:Bool} (ha1:GoT.R w (old w) s cs1) {p2:Option Addr} (ha2:GoT.R w (old w) (some f_0) [.pointer p2]) {r:Bool} (hF:qaO n s f_0=some r):RetV Tryz.prog 191 [GoT.v (List qN) cs1,.func (.func 192) #[] #[.pointer p2]] w r:=by
 obtain ⟨p1,k1,rfl,s1⟩:=ha1
 obtain ⟨b1,o_1,cs2,rfl,-,hr1,hc1⟩:=PtR.get ha2 rfl
 obtain rfl:=hr1
 exact zV 9 Tryz.func191 rfl fun h=>X0 8 rfl (zcI h hF (qdZ ⟨_,_,rfl,(h.oldS s1)⟩ (h.old ha2)) rfl fun r1 w1 h hF=>X0 3 rfl (rb h hF rfl))
def qer (n:Nat) (list:(List qN)) (positive:Bool):Option Bool :=
 bif ((list.length:Int)==2) then
  (qaO n list positive).bind fun r1 =>
  some (!r1)
 else
  some false
theorem qgi {list:(List qN)} {positive:Bool} (ha1:GoT.R w (old w) list cs1) {r:Bool} (hF:qer n list positive=some r):RetV Tryz.prog 180 [GoT.v (List qN) cs1,.bool positive] w r:=by
 obtain ⟨p1,k1,rfl,s1⟩:=ha1
 refine zV 14 Tryz.func180 rfl fun h=>zSR (qS h rfl rfl fun w1 bb1 h=>X0 8 rfl (qj (t:=8) hF rfl ?_ ?_))<;>intro hF
 ·exact X0 5 rfl (zcB h hF (qdw ⟨_,_,rfl,(h.oldS s1)⟩ (qgO (x:=positive) 0 h rfl rfl)) rfl fun r1 w2 h hF=>X0 5 rfl (rb h hF rfl))
 exact X0 7 rfl (rb h hF rfl)
def qgl (_:Nat) (p:qY):Option Bool :=
 some p.Bc
theorem qi0 {p:qY} (ha1:GoT.R w (old w) p cs1) {r:Bool} (hF:qgl n p=some r):RetV Tryz.prog 196 [GoT.v qY cs1] w r:=by
 obtain rfl:=qdp ha1
 exact zV 5 Tryz.func196 rfl fun h=>zSR (qS h rfl rfl fun w1 bb1 h=>X1 8 0 h rfl (rb h hF rfl))
def qO (s:(List qY)):Nat→Int→Option (Flow Int Int)
 | 0,_=>none
 | n+1,i1 =>
  bif decide (i1<(s.length:Int)) then
   (idx s i1).bind fun y1 =>
   (qgl n y1).bind fun r1 =>
   bif r1 then some (.ret i1) else
   qO s n (W64 (i1+1))
  else
   some (.nxt i1)
def qa6 (n:Nat) (s:(List qY)):Option Int :=
 (qO s n 0).bind fun o=>match o with
 | .ret r=>some r
 | .nxt _ =>
  some (-1)
theorem qd9 {s:(List qY)} (ha1:GoT.R w (old w) s cs1) {r:Int} (hF:qa6 n s=some r):RetV Tryz.prog 195 [GoT.v (List qY) cs1,.func (.func 196) #[] #[]] w r:=by
 obtain ⟨p1,k1,rfl,s1⟩:=ha1
 refine zV 19 Tryz.func195 rfl fun h=>X0 11 rfl ?_
 obtain ⟨o1,hF,hK1⟩:=qe hF
 refine qu (rL (fun m e w'=>∃ (i1:Int),qO s m i1=some o1∧e=[(0,.slice p1 s.length k1),(1,.func (.func 196) #[] #[]),(7,.int .i64 (s.length:Int)),(8,.int .i64 i1)]∧SH w w' []) n ⟨_,hF,rfl,h⟩ rfl ?_)
 rintro m1 e1 w1 ⟨i1,hF,rfl,h⟩
 rcases m1 with _|m1
 ·cases hF
 refine X0 5 rfl (qm rfl hF ?_ ?_)<;>intro hF
 ·refine X0 13 rfl ?_
  obtain ⟨y1,hy1,hF,he1,b1,_,q1,cs2,hp1,hq1,hr1,hc2⟩:=s1.ix hF
  obtain rfl:=qdp hr1
  refine zxe hp1 hq1 he1 rfl (zc 0 (hc2.below h.below) rfl (zcB h hF (qi0 (qif y1)) rfl fun r1 w2 h hF=>qaW (qm rfl hF ?_ ?_)))<;>intro hF
  ·refine X0 5 rfl ?_
   obtain rfl:=qd hF;replace hF:=hK1
   exact ri h hF rfl
  exact X0 6 rfl (rK ⟨_,hF,rfl,h⟩ rfl)
 refine qA rfl ?_
 obtain rfl:=qd hF;replace hF:=hK1
 exact X0 4 rfl (ri h hF rfl)
def qfM (n:Nat) (c:qv):Option Int :=
 (qa6 n c.Ap).bind fun r1 =>
 some r1
theorem qjP {c:qv} (ha1:GoT.R w (old w) c cs1) {r:Int} (hF:qfM n c=some r):RetV Tryz.prog 181 [GoT.v qv cs1] w r:=by
 obtain ⟨p1,k1,p2,k2,p3,k3,rfl,s1,s2,s3⟩:=qQ ha1
 exact zV 6 Tryz.func181 rfl fun h=>zSR (qS h rfl rfl fun w1 bb1 h=>X1 6 0 h rfl (zcI h hF (qd9 ⟨_,_,rfl,(h.oldS s1)⟩) rfl fun r1 w2 h hF=>X0 2 rfl (ri h hF rfl)))
def qeZ (n:Nat) (c:qv) (pin:Int):Option Bool :=
 (qbV n c).bind fun r1 =>
 (qaD n pin 0 (W64 (r1-1))).bind fun r2 =>
 some r2
theorem qgQ {c:qv} {pin:Int} (ha1:GoT.R w (old w) c cs1) {r:Bool} (hF:qeZ n c pin=some r):RetV Tryz.prog 182 [GoT.v qv cs1,.int .i64 pin] w r:=by
 obtain ⟨p1,k1,p2,k2,p3,k3,rfl,s1,s2,s3⟩:=qQ ha1
 exact zV 10 Tryz.func182 rfl fun h=>zSR (qS h rfl rfl fun w1 bb1 h=>X1 6 0 h rfl (zcI h hF (qeh (h.old ha1)) rfl fun r1 w2 h hF=>zp1 rfl (zcB h hF qat rfl fun r2 w3 h hF=>X0 2 rfl (rb h hF rfl))))
def qfN (n:Nat) (a_0:qv) (a_1:qag):Option Bool :=
 (qg9 n a_1.Ar).bind fun r1 =>
 bif r1 then
  (
   bif (a_1.Bi==0) then
    bif ((a_1.Bp.length:Int)==0) then
     (qer n a_1.Bj false).bind fun r2 =>
     bif r2 then
      (qfM n a_0).bind fun r3 =>
      bif (a_1.As==r3) then
       bif decide (a_1.As ≥ 0) then
        (qeZ n a_0 a_1.To).bind fun r4 =>
        bif r4 then some (a_1.To != a_1.As) else
        some false
       else
        some false
      else
       some false
     else
      some false
    else
     some false
   else
    some false).bind fun b1 =>
  some b1
 else
  (
   (qer n a_1.Bj true).bind fun r6 =>
   bif (!r6) then some true else
   (qer n a_1.Bp true).bind fun r7 =>
   bif (!r7) then some true else
   (qbV n a_0).bind fun r8 =>
   bif (a_1.To != r8) then some true else
   (qeZ n a_0 a_1.As).bind fun r9 =>
   some (!r9)).bind fun b2 =>
  bif b2 then some false else
  bif (a_1.Ar==1) then
   (idx a_0.Ap a_1.As).bind fun y1 =>
   bif (!y1.Bc) then
    (qaD n a_1.Bi 1 3).bind fun r5 =>
    some r5
   else
    some false
  else
   (
    bif (a_1.Ar==2) then some (a_1.Ar==2) else
    some (a_1.Ar==3)).bind fun b4 =>
   bif b4 then
    (idx a_0.Ap a_1.As).bind fun y2 =>
    bif y2.Bc then some (a_1.Bi==0) else
    some false
   else
    some false
theorem qjL {a_0:qv} {a_1:qag} (ha1:GoT.R w (old w) a_0 cs1) (ha2:GoT.R w (old w) a_1 cs2) {r:Bool} (hF:qfN n a_0 a_1=some r):RetV Tryz.prog 166 [GoT.v qv cs1,GoT.v qag cs2] w r:=by
 obtain ⟨p1,k1,p2,k2,p3,k3,rfl,s1,s2,s3⟩:=qQ ha1
 obtain ⟨p4,k4,p5,k5,rfl,s4,s5⟩:=qaE ha2
 refine zV 103 Tryz.func166 rfl fun h=>zSR (qS h rfl rfl fun w1 bb1 h=>qS h rfl rfl fun w2 bb2 h=>X1 7 0 h rfl (zcB h hF qkS rfl fun r1 w3 h hF=>qaW (qm rfl hF ?_ ?_)))<;>intro hF
 ·refine qfd ?_
  obtain ⟨KF1,hKF1,o1,hF,hK1⟩:=bindE hF
  refine qaV (fun e w'=>∃ (b1:Bool),KF1 b1=some r∧e=[(4,.bool b1)]∧SH w w' []) ?_ ?_
  ·refine rD (Y1 2 0 h rfl ?_)
   refine zd2 rfl (qaJ (t:=11) hF rfl ?_ ?_)<;>intro hF
   ·refine Y1 4 0 h rfl ?_
    refine Y0 6 rfl (qaJ (t:=17) hF rfl ?_ ?_)<;>intro hF
    ·refine Y1 4 0 h rfl ?_
     refine Y0 1 rfl ?_
     obtain ⟨r2,hr2,hF⟩:=qe hF
     refine qcq r2 (vsB _) (cB 180 rfl) (fun _ hb=>qgi ⟨_,_,rfl,((h.ext hb).oldS s4)⟩ hr2) rfl rfl rfl rfl (zd2 rfl (qaJ (t:=22) hF rfl ?_ ?_))<;>intro hF
     ·refine Y1 4 0 h rfl ?_
      refine Y1 2 1 h rfl ?_
      refine Y0 1 rfl ?_
      obtain ⟨r3,hr3,hF⟩:=qe hF
      refine qcq r3 (vsI _) (cB 181 rfl) (fun _ hb=>qjP ((h.ext hb).old ha1) hr3) rfl rfl rfl rfl (Y0 4 rfl (qaJ (t:=29) hF rfl ?_ ?_))<;>intro hF
      ·refine Y1 4 0 h rfl ?_
       refine Y0 4 rfl (qaJ (t:=34) hF rfl ?_ ?_)<;>intro hF
       ·refine Y1 2 1 h rfl ?_
        refine Y1 4 0 h rfl ?_
        refine Y0 1 rfl ?_
        obtain ⟨r4,hr4,hF⟩:=qe hF
        refine qcq r4 (vsB _) (cB 182 rfl) (fun _ hb=>qgQ ((h.ext hb).old ha1) hr4) rfl rfl rfl rfl (zd2 rfl (qaJ (t:=40) hF rfl ?_ ?_))<;>intro hF
        ·refine Y1 4 0 h rfl ?_
         refine Y1 4 0 h rfl ?_
         refine Y0 4 rfl (dN h fun w4 h=>?_)
         replace h:=h.pick [] rfl
         obtain rfl:=qd hF
         exact rG ⟨_,hK1,rfl,h⟩ rfl
        refine Y0 7 rfl (dN h fun w5 h=>?_)
        replace h:=h.pick [] rfl
        obtain rfl:=qd hF
        exact rG ⟨_,hK1,rfl,h⟩ rfl
       refine Y0 13 rfl (dN h fun w6 h=>?_)
       replace h:=h.pick [] rfl
       obtain rfl:=qd hF
       exact rG ⟨_,hK1,rfl,h⟩ rfl
      refine Y0 18 rfl (dN h fun w7 h=>?_)
      replace h:=h.pick [] rfl
      obtain rfl:=qd hF
      exact rG ⟨_,hK1,rfl,h⟩ rfl
     refine Y0 25 rfl (dN h fun w8 h=>?_)
     replace h:=h.pick [] rfl
     obtain rfl:=qd hF
     exact rG ⟨_,hK1,rfl,h⟩ rfl
    refine Y0 30 rfl (dN h fun w9 h=>?_)
    replace h:=h.pick [] rfl
    obtain rfl:=qd hF
    exact rG ⟨_,hK1,rfl,h⟩ rfl
   refine Y0 36 rfl (dN h fun w10 h=>?_)
   replace h:=h.pick [] rfl
   obtain rfl:=qd hF
   exact rG ⟨_,hK1,rfl,h⟩ rfl
  rintro e1 w11 ⟨b1,hF,rfl,h⟩
  subst hKF1
  exact rb h hF rfl
 refine zKSS ?_
 obtain ⟨KF3,hKF3,o3,hF,hK3⟩:=bindE hF
 refine qaV (fun e w'=>∃ (b2:Bool),KF3 b2=some r∧e=[(2,.pointer (some ⟨bb1,0,none⟩)),(3,.pointer (some ⟨bb2,0,none⟩)),(70,.bool b2)]∧SH w w' [Ch.box bb2 (qfb a_1 p4 p5 k4 k5) 133,Ch.box bb1 (qy a_0 p1 p2 p3 k1 k2 k3) 128]) ?_ ?_
 ·refine rD (Y1 2 0 h rfl ?_)
  obtain ⟨r6,hr8,hF⟩:=qe hF
  refine qcq r6 (vsB _) (cB 180 rfl) (fun _ hb=>qgi ⟨_,_,rfl,((h.ext hb).oldS s4)⟩ hr8) rfl rfl rfl rfl (zd2 rfl (qaJ (t:=51) hF rfl ?_ ?_))<;>intro hF
  ·refine Y0 19 rfl (dN h fun w14 h=>?_)
   obtain rfl:=qd hF
   exact rG ⟨_,hK3,rfl,h⟩ rfl
  refine Y1 4 0 h rfl ?_
  refine Y0 1 rfl ?_
  obtain ⟨r7,hr9,hF⟩:=qe hF
  refine qcq r7 (vsB _) (cB 180 rfl) (fun _ hb=>qgi ⟨_,_,rfl,((h.ext hb).oldS s5)⟩ hr9) rfl rfl rfl rfl (Y0 4 rfl (qaJ (t:=57) hF rfl ?_ ?_))<;>intro hF
  ·refine Y0 13 rfl (dN h fun w15 h=>?_)
   obtain rfl:=qd hF
   exact rG ⟨_,hK3,rfl,h⟩ rfl
  refine Y1 4 0 h rfl ?_
  refine Y1 2 1 h rfl ?_
  refine Y0 1 rfl ?_
  obtain ⟨r8,hr10,hF⟩:=qe hF
  refine qcq r8 (vsI _) (cB 83 rfl) (fun _ hb=>qeh ((h.ext hb).old ha1) hr10) rfl rfl rfl rfl (Y0 4 rfl (qaJ (t:=64) hF rfl ?_ ?_))<;>intro hF
  ·refine Y0 6 rfl (dN h fun w16 h=>?_)
   obtain rfl:=qd hF
   exact rG ⟨_,hK3,rfl,h⟩ rfl
  refine Y1 2 1 h rfl ?_
  refine Y1 4 0 h rfl ?_
  refine Y0 1 rfl ?_
  obtain ⟨r9,hr11,hF⟩:=qe hF
  refine qcq r9 (vsB _) (cB 182 rfl) (fun _ hb=>qgQ ((h.ext hb).old ha1) hr11) rfl rfl rfl rfl (Y0 3 rfl (dN h fun w17 h=>?_))
  obtain rfl:=qd hF
  exact rG ⟨_,hK3,rfl,h⟩ rfl
 rintro e3 w18 ⟨b2,hF,rfl,h⟩
 subst hKF3
 refine qm rfl hF ?_ ?_<;>intro hF
 ·exact X0 4 rfl (rb h hF rfl)
 refine X1 13 0 h rfl (qm rfl hF ?_ ?_)<;>intro hF
 ·refine X2 6 1 0 h rfl ?_
  obtain ⟨y1,hy1,hF,he1,b3,_,q1,cs3,hp1,hq1,hr5,hc4⟩:=s1.ix hF
  obtain rfl:=qdp hr5
  refine zxe hp1 hq1 he1 rfl (zp1 rfl (zc 3 (hc4.below h.below) rfl (zp2 rfl (qj (t:=83) hF rfl ?_ ?_))))<;>intro hF
  ·exact X1 5 0 h rfl (zcB h hF qat rfl fun r5 w12 h hF=>X0 3 rfl (rb h hF rfl))
  exact X0 6 rfl (rb h hF rfl)
 refine X0 6 rfl ?_
 obtain ⟨KF2,hKF2,o2,hF,hK2⟩:=bindE hF
 refine qaV (fun e w'=>∃ (b4:Bool),KF2 b4=some r∧e=[(2,.pointer (some ⟨bb1,0,none⟩)),(3,.pointer (some ⟨bb2,0,none⟩)),(88,.bool b4)]∧SH w w' [Ch.box bb2 (qfb a_1 p4 p5 k4 k5) 133,Ch.box bb1 (qy a_0 p1 p2 p3 k1 k2 k3) 128]) ?_ ?_
 ·refine qm rfl hF ?_ ?_<;>intro hF
  ·refine qdy ?_
   obtain rfl:=qd hF
   exact rG ⟨_,hK2,rfl,h⟩ rfl
  refine X0 4 rfl ?_
  obtain rfl:=qd hF
  exact rG ⟨_,hK2,rfl,h⟩ rfl
 rintro e2 w13 ⟨b4,hF,rfl,h⟩
 subst hKF2
 refine qm rfl hF ?_ ?_<;>intro hF
 ·refine X2 6 1 0 h rfl ?_
  obtain ⟨y2,hy2,hF,he2,b5,_,q2,cs4,hp2,hq2,hr7,hc6⟩:=s1.ix hF
  obtain rfl:=qdp hr7
  refine zxe hp2 hq2 he2 rfl (zp1 rfl (zc 3 (hc6.below h.below) rfl (zp1 rfl (qj (t:=98) hF rfl ?_ ?_))))<;>intro hF
  ·exact X1 9 0 h rfl (rb h hF rfl)
  exact X0 6 rfl (rb h hF rfl)
 exact X0 6 rfl (rb h hF rfl)
def qei (_:Nat) (a_o:qag) (v0:qag):Option Bool :=
 bif (a_o.Ar==v0.Ar) then
  bif (a_o.As==v0.As) then some (a_o.To==v0.To) else
  some false
 else
  some false
theorem qit {a_o:qag} {v0:qag} (ha1:GoT.R w (old w) a_o cs1) {p3:Option Addr} (ha2:GoT.R w (old w) (some v0) [.pointer p3]) {r:Bool} (hF:qei n a_o v0=some r):RetV Tryz.prog 167 [GoT.v qag cs1,.pointer p3] w r:=by
 obtain ⟨p1,k1,p2,k2,rfl,s1,s2⟩:=qaE ha1
 obtain ⟨b1,o_1,cs2,rfl,-,hr1,hc1⟩:=PtR.get ha2 rfl
 obtain ⟨p4,k3,p5,k4,rfl,s3,s4⟩:=qaE hr1
 refine zV 23 Tryz.func167 rfl fun h=>zSR (qS h rfl rfl fun w1 bb1 h=>X1 7 0 h rfl (zc 0 (hc1.below h.below) rfl (zp2 rfl (qj (t:=9) hF rfl ?_ ?_))))<;>intro hF
 ·refine X1 7 0 h rfl (zc 1 (hc1.below h.below) rfl (X0 4 rfl (qj (t:=16) hF rfl ?_ ?_)))<;>intro hF
  ·exact X1 7 0 h rfl (zc 2 (hc1.below h.below) rfl (X0 5 rfl (rb h hF rfl)))
  exact X0 8 rfl (rb h hF rfl)
 exact X0 15 rfl (rb h hF rfl)
def qK (s:(List qag)) (f_0:qag):Nat→Int→Option (Flow Int Int)
 | 0,_=>none
 | n+1,i1 =>
  bif decide (i1<(s.length:Int)) then
   (idx s i1).bind fun y1 =>
   (qei n y1 f_0).bind fun r1 =>
   bif r1 then some (.ret i1) else
   qK s f_0 n (W64 (i1+1))
  else
   some (.nxt i1)
def qaU (n:Nat) (s:(List qag)) (f_0:qag):Option Int :=
 (qK s f_0 n 0).bind fun o=>match o with
 | .ret r=>some r
 | .nxt _ =>
  some (-1)
theorem qdF {s:(List qag)} {f_0:qag} (ha1:GoT.R w (old w) s cs1) {p2:Option Addr} (ha2:GoT.R w (old w) (some f_0) [.pointer p2]) {r:Int} (hF:qaU n s f_0=some r):RetV Tryz.prog 129 [GoT.v (List qag) cs1,.func (.func 167) #[] #[.pointer p2]] w r:=by
 obtain ⟨p1,k1,rfl,s1⟩:=ha1
 obtain ⟨b1,o_1,cs2,rfl,-,hr1,hc1⟩:=PtR.get ha2 rfl
 obtain ⟨p3,k2,p4,k3,rfl,s2,s3⟩:=qaE hr1
 refine zV 19 Tryz.func129 rfl fun h=>X0 11 rfl ?_
 obtain ⟨o1,hF,hK1⟩:=qe hF
 refine qu (rL (fun m e w'=>∃ (i1:Int),qK s f_0 m i1=some o1∧e=[(0,.slice p1 s.length k1),(1,.func (.func 167) #[] #[.pointer (some ⟨b1,o_1,none⟩)]),(7,.int .i64 (s.length:Int)),(8,.int .i64 i1)]∧SH w w' []) n ⟨_,hF,rfl,h⟩ rfl ?_)
 rintro m1 e1 w1 ⟨i1,hF,rfl,h⟩
 rcases m1 with _|m1
 ·cases hF
 refine X0 5 rfl (qm rfl hF ?_ ?_)<;>intro hF
 ·refine X0 13 rfl ?_
  obtain ⟨y1,hy1,hF,he1,b2,_,q1,cs3,hp1,hq1,hr2,hc3⟩:=s1.ix hF
  obtain ⟨p5,k4,p6,k5,rfl,s4,s5⟩:=qaE hr2
  refine zxe hp1 hq1 he1 rfl (zc 0 (hc3.below h.below) rfl (zcB h hF (qit (qhw y1 (h.oldS s4) (h.oldS s5)) (h.old ha2)) rfl fun r1 w2 h hF=>qaW (qm rfl hF ?_ ?_)))<;>intro hF
  ·refine X0 5 rfl ?_
   obtain rfl:=qd hF;replace hF:=hK1
   exact ri h hF rfl
  exact X0 6 rfl (rK ⟨_,hF,rfl,h⟩ rfl)
 refine qA rfl ?_
 obtain rfl:=qd hF;replace hF:=hK1
 exact X0 4 rfl (ri h hF rfl)
def qas (n:Nat) (s:(List qag)) (f_0:qag):Option Bool :=
 (qaU n s f_0).bind fun r1 =>
 some (decide (r1 ≥ 0))
theorem qdm {s:(List qag)} {f_0:qag} (ha1:GoT.R w (old w) s cs1) {p2:Option Addr} (ha2:GoT.R w (old w) (some f_0) [.pointer p2]) {r:Bool} (hF:qas n s f_0=some r):RetV Tryz.prog 80 [GoT.v (List qag) cs1,.func (.func 167) #[] #[.pointer p2]] w r:=by
 obtain ⟨p1,k1,rfl,s1⟩:=ha1
 obtain ⟨b1,o_1,cs2,rfl,-,hr1,hc1⟩:=PtR.get ha2 rfl
 obtain ⟨p3,k2,p4,k3,rfl,s2,s3⟩:=qaE hr1
 exact zV 9 Tryz.func80 rfl fun h=>X0 8 rfl (zcI h hF (qdF ⟨_,_,rfl,(h.oldS s1)⟩ (h.old ha2)) rfl fun r1 w1 h hF=>X0 3 rfl (rb h hF rfl))
end Go.Fw
