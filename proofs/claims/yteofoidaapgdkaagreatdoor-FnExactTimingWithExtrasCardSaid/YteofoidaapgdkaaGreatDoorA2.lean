/- Calls that hand out parts of memory one by one: what is owned stays apart. -/
import Derived.Test.YteofoidaapgdkaaGreatDoorFw38
import Derived.Sort.Grow
import Derived.Lib.SlicesCompact
import Derived.Test.YteofoidaapgdkaaGreatDoorChecked
import Derived.Test.YteofoidaapgdkaaGreatDoorS1
open Option renaming bind_some → jd
open Nat renaming le_refl → je, le_of_ble_eq_true → jr, mul_le_mul_right → js, lt_of_lt_of_le → jv, succ_mul → jL, zero_add → Jd, add_zero → Je
open Bool renaming and_eq_true → jf, eq_iff_iff → jk, true_and → jz, not_eq_true' → jG, not_true → jX
open Go.Result renaming andThen_ok → jg
open List renaming length_append → jh, getElem?_eq_getElem → ji, mem_cons_of_mem → jn, getElem_mem → jp, append_assoc → jq, length_singleton → jt, getElem?_append_left → ju, mem_cons_self → jw, length_map → jx, take_succ_eq_append_getElem → jy, getElem?_take → jA, getElem?_append_right → jB, getD_eq_getElem?_getD → jC, getElem?_toArray → jE, take_length → jF, eq_nil_of_length_eq_zero → jI, drop_eq_getElem_cons → jJ, map_append → jK, all_eq_true → jM, not_mem_nil → jN, getElem_of_mem → jO, length_replicate → jP, size_toArray → jQ, mem_append_left → jR, append_nil → jT, mem_of_getElem? → jU, mem_cons → jW, range_succ → Ja, length_take → Jb, ext_getElem → Jc
open Go.Sem renaming run_bind → jj, run_pure → jm
open Int renaming toNat_natCast → jo, tdiv_eq_ediv_of_nonneg → jD, mul_nonneg → jS, mul_assoc → jV, mul_le_mul → jY, le_refl → jZ, add_zero → Jf
open Array renaming getElem?_append_left → jH

namespace Go.Fw
open Go
open Go.RowKit (Below)
section
variable {P:Program} {T:Tab} {n:Nat} {Q:Exit→Act→World→Prop} {k:List It} {e:Env} {w0 w w':World} {L L':List Ch}
theorem SH.append (h:SH w0 w L) (hL:SH w w' L') (hD:∀ c,c ∈ L'→∀ b,c.D b→b<w0.heap.size):SH w0 w' (L'++L):=by
 have h':=h.ext hL.below
 refine ⟨h'.below,fun c hc=>?_,fun c hc=>?_,?_⟩
 ·rcases List.mem_append.1 hc with hc|hc
  ·obtain ⟨p,s⟩:=hL.holds c hc
   exact ⟨p,fun b hb=>⟨Nat.le_trans h.below.size (s b hb).1,(s b hb).2⟩⟩
  ·exact h'.holds c hc
 ·rcases List.mem_append.1 hc with hc|hc
  ·exact hD c hc
  ·exact h.elder c hc
 ·refine List.pairwise_append.2 ⟨hL.apart,h.apart,fun c hc d hd b hcb hdb=>?_⟩
  have h1:=((hL.holds c hc).2 b hcb).1
  have h2:=((h.holds d hd).2 b hdb).2
  omega
theorem SH.appendN (h:SH w0 w L) (hL:SH w w' L') (hD:NoD L'):SH w0 w' (L'++L) :=
 SH.append h hL fun c hc b hb=>absurd hb (NoD.all hD c hc b)
def RetZ (P:Program) (f:FuncId) (vs:List Value) (w:World) (Φ:List Value→List Ch→Prop):Prop :=
 Calls P f vs.toArray w fun e w'=>∃ v,e=.returned v∧Below w.heap.size w w'∧∃ us L,v=tup us∧SH w w' L∧Φ us L
theorem qs3 {Φ:List Value→List Ch→Prop} {all:Array Oper} {l:List Oper} {d ty:Nat} {ps:String} {af:Array Edge} {x:Operand} {args:Array Operand} {ats:Array TypeId} {f:FuncId} {fi ca:Array Value} {az vs:List Value}
  (hcall:qfm P f) (hc:RetZ P f vs w Φ) (hx:opv e x=some (.func (.func f) fi ca)) (hargs:opvs e args.toList=some az) (hvs:fi.toList++az++ca.toList=vs) (hn:Nat.blt d n=true)
  (hk:∀ w' us L',SH w w' L'→Φ us L'→Run P n Q (.ops all l::k) ((d,tup us)::e) w') :
  Run P n Q (.ops all (⟨some d,.call ⟨.value x,args,ats⟩,ty,ps,af,none⟩::l)::k) e w:=by
 subst hvs
 refine qnB (R:=fun v w'=>Below w.heap.size w w'∧∃ us L,v=tup us∧SH w w' L∧Φ us L) rfl rfl hn (fun a ha=>qjc ha hcall hx hargs w) hc ?_
 rintro v w' ⟨_,us,L',rfl,hL,hv⟩
 exact hk w' us L' hL hv
theorem qm8 {f:FuncId} {fn:Func} {c:Code} {vs:List Value} {Φ:List Value→List Ch→Prop} {m:Nat} (hf:P.funcs[f]?=some fn) (hb:fn.body=some c) (hm:fn.ntmps=m) (hn:Nat.ble vs.length m=true)
  (h:SH w w []→Run P m (bodyPost P fn fun e w'=>∃ v,e=.returned v∧Below w.heap.size w w'∧∃ us L,v=tup us∧SH w w' L∧Φ us L) [.code c] (argEnv 0 vs) w):RetZ P f vs w Φ:=by
 subst hm
 have hn':=jr hn
 refine calls_of_wp hf hb ?_
 have hr:=h (SH.start w)
 have hag:Agree fn.ntmps (argEnv 0 vs) { tmps:=vs.toArray++Array.replicate (fn.ntmps-vs.toArray.size) undef,defers:=[] }:=by
  refine ⟨rfl,by simp;omega,fun i v hi=>?_⟩
  obtain ⟨_,h2⟩:=qid vs 0 i v hi
  simp only [Nat.sub_zero] at h2
  have hlt:=(List.getElem?_eq_some_iff.1 h2).1
  rw [jH (by simpa using hlt)]
  simpa using h2
 have h1:=hr _ hag
 refine wp_mono h1 ?_
 intro ex a' w' hq
 cases ex<;>exact hq
theorem qn0 (hT:TabOk P T) {fn:Func} {Φ:List Value→List Ch→Prop} (us:List Value) (h:SH w0 w L) (hr:ResOk T e w fn.results.toList us) (hv:Φ us L) :
  Run P n (bodyPost P fn fun e w'=>∃ v,e=.returned v∧Below w0.heap.size w0 w'∧∃ us L,v=tup us∧SH w0 w' L∧Φ us L) (.code .ret::k) e w :=
 qsl fun _ ha=>⟨ha.defers,tup us,qgb hT ha hr,tup us,rfl,h.below,us,L,rfl,h,hv⟩
end
end Go.Fw


namespace Go.Fw
open Go Go.Sort
open Go.RowKit (Below)
section
variable {P:Program} {T:Tab} {n:Nat} {Q:Exit→Act→World→Prop} {k:List It} {e:Env} {w0 w w':World} {L L':List Ch}
end
end Go.Fw


namespace Go.Fw
open Go
open Go.RowKit (Below)
section
variable {w0 w w':World} {L:List Ch} {α:Type} [GoT α]
def RAll (w:World) (A:Nat→Prop):List α→List (Raw α)→Prop
 | [],[]=>True
 | x::xs,r::rs=>GoT.R w A x r.cs∧RAll w A xs rs
 | _,_=>False
theorem RAll.at {A:Nat→Prop}:∀ {xs:List α} {rs:List (Raw α)},RAll w A xs rs→xs.length=rs.length∧∀ (i:Nat) x,xs[i]?=some x→∃ r,rs[i]?=some r∧GoT.R w A x r.cs
 | [],[],_=>⟨rfl,fun i x h=>by simp at h⟩
 | x::xs,[],h=>h.elim
 | [],r::rs,h=>h.elim
 | x::xs,r::rs,h=>by
  obtain ⟨hl,ha⟩:=RAll.at h.2
  refine ⟨by simp [hl],fun i y hy=>?_⟩
  cases i with
  | zero=>simp only [List.getElem?_cons_zero,Option.some.injEq] at hy ⊢;subst hy;exact ⟨r,rfl,h.1⟩
  | succ i=>simp only [List.getElem?_cons_succ] at hy ⊢;exact ha i y hy
end
end Go.Fw


namespace Go.Fw
open Go
end Go.Fw


namespace Go.Fw
open Go
open Go.RowKit (Below)
section
variable {P:Program} {T:Tab} {n:Nat} {Q:Exit→Act→World→Prop} {k:List It} {e:Env} {w0 w:World} {L:List Ch}
variable {α:Type} [GoT α] {S S1:Nat→Prop} {xs ys:List α} {p p':Option Addr} {c c':Nat}
end
section
variable {α β γ:Type}
def Emp (o:Option (List α)):Prop:=∀ r,o=some r→r=[]
theorem Emp.none:Emp (none:Option (List α)):=fun _ h=>by cases h
theorem Emp.noneB {f:β→Option (List α)}:Emp ((Option.none:Option β).bind f):=fun _ h=>by cases h
theorem Emp.nil:Emp (some ([]:List α)):=fun _ h=>(Option.some.inj h).symm
theorem Emp.bif {c:Bool} {a b:Option (List α)} (h1:Emp a) (h2:Emp b):Emp (bif c then a else b):=by cases c<;>assumption
theorem Emp.sub {xs:List β} {lo:Int} {f:List β→Option (List α)} (h:Emp (f [])):Emp ((subS xs lo ((0:Nat):Int)).bind f):=fun r hr=>by
 cases hs:subS xs lo ((0:Nat):Int) with
 | none=>rw [hs] at hr;cases hr
 | some y =>
  rw [hs] at hr
  obtain ⟨_,_,_,e⟩:=qpD hs
  have:y=[]:=by rw [←e];simp
  subst this
  exact h r hr
theorem Emp.bind {x:Option β} {f:β→Option (List α)} (h:∀ y,Emp (f y)):Emp (x.bind f):=by
 cases x with
 | none=>exact Emp.noneB
 | some y=>exact h y
end
end Go.Fw


namespace Go.Fw
open Go
section
variable {ε:Type}
variable {ρ σ τ:Type}
end
end Go.Fw


namespace Go.Fw
open Go Go.Proofs
open Go.RowKit (Below)
set_option maxRecDepth 100000
set_option maxHeartbeats 1600000
variable {n:Nat} {w:World} {S:Nat→Prop} {cs1 cs2 cs3 cs4 cs5 cs6 cs7 cs8 cs9:List Value}
structure qal where
 Az:ByteArray
 Br:Int
 Bo:Int
 Bn:Bool
instance gt_TPin:GoT qal:=isoT (pairT instStr (pairT instInt (pairT instInt instBool))) (fun x=>(x.Az,x.Br,x.Bo,x.Bn)) ⟨ByteArray.empty,0,0,false⟩ rfl true (fun h=>by cases h)
instance fl_TPin:Flat qal:=qfa (pairT instStr (pairT instInt (pairT instInt instBool))) (fun x:qal=>(x.Az,x.Br,x.Bo,x.Bn)) ⟨ByteArray.empty,0,0,false⟩ rfl true (fun h=>by cases h) (qaC _ _ (inferInstanceAs (Flat ByteArray)) (qaC _ _ (inferInstanceAs (Flat Int)) (qaC _ _ (inferInstanceAs (Flat Int)) (inferInstanceAs (Flat Bool)))))
abbrev qpv (x:qal):List Value:=[.string x.Az,.int .i64 x.Br,.int .i64 x.Bo,.bool x.Bn]
theorem qaX {x:qal} {cs:List Value} (h:GoT.R w S x cs):cs=(qpv x):=by
 obtain ⟨_,_,rfl,rfl,⟨_,_,rfl,rfl,⟨_,_,rfl,rfl,rfl⟩⟩⟩:=h
 exact rfl
theorem qd5 (x:qal):GoT.R w S x (qpv x):=have h:=pR (rT x.Az) (pR (rI x.Br) (pR (rI x.Bo) (rB x.Bn)));h
structure qt where
 Bi:(List Int)
 Bb:(List Int)
 Ba:(List Int)
instance gt_TTable:GoT qt:=isoT (pairT (@instList Int instInt) (pairT (@instList Int instInt) (@instList Int instInt))) (fun x=>(x.Bi,x.Bb,x.Ba)) ⟨[],[],[]⟩ rfl true (fun h=>by cases h)
abbrev qhj (x:qt) (p0 p1 p2:Option Addr) (k0 k1 k2:Nat):List Value:=[.slice p0 (x.Bi).length k0,.slice p1 (x.Bb).length k1,.slice p2 (x.Ba).length k2]
theorem qaG {x:qt} {cs:List Value} (h:GoT.R w S x cs):∃ p0 k0 p1 k1 p2 k2,cs=(qhj x p0 p1 p2 k0 k1 k2)∧SlR w S x.Bi p0 k0∧SlR w S x.Bb p1 k1∧SlR w S x.Ba p2 k2:=by
 obtain ⟨_,_,rfl,⟨p0,k0,rfl,s0⟩,⟨_,_,rfl,⟨p1,k1,rfl,s1⟩,⟨p2,k2,rfl,s2⟩⟩⟩:=h
 exact ⟨p0,k0,p1,k1,p2,k2,rfl,s0,s1,s2⟩
theorem qfq (x:qt) {p0 p1 p2:Option Addr} {k0 k1 k2:Nat} (s0:SlR w S x.Bi p0 k0) (s1:SlR w S x.Bb p1 k1) (s2:SlR w S x.Ba p2 k2):GoT.R w S x (qhj x p0 p1 p2 k0 k1 k2):=have h:=pR (rS s0) (pR (rS s1) (rS s2));h
theorem qsX {w0:World} {L:List Ch} {x:qt} {p0 p1 p2:Option Addr} {l0 k0 l1 k1 l2 k2:Nat} (h:SH w0 w (Ch.own S x [.slice p0 l0 k0,.slice p1 l1 k1,.slice p2 l2 k2]::L)):∃ S0 S1 S2,SH w0 w (Ch.own S2 x.Ba [.slice p2 l2 k2]::Ch.own S1 x.Bb [.slice p1 l1 k1]::Ch.own S0 x.Bi [.slice p0 l0 k0]::L):=by
 obtain ⟨hv,ho⟩:=h.headV
 replace ho:GoT.O w S x _:=ho
 obtain ⟨A0,B0,d0,e0,he,o0,ho,a0,b0⟩:=ho
 obtain ⟨q,m,rfl,s0⟩:=o0
 cases he
 replace hv:=hv.push (c:=Ch.own A0 x.Bi [_]) (S2:=B0) ⟨_,_,rfl,s0⟩ (fun _ hd=>hd.elim) a0 b0
 obtain ⟨A1,B1,d1,e1,he,o1,ho,a1,b1⟩:=ho
 obtain ⟨q,m,rfl,s1⟩:=o1
 cases he
 replace hv:=hv.push (c:=Ch.own A1 x.Bb [_]) (S2:=B1) ⟨_,_,rfl,s1⟩ (fun _ hd=>hd.elim) a1 b1
 obtain ⟨q,m,he,s2⟩:=ho
 cases he
 replace hv:=hv.push (c:=Ch.own B1 x.Ba [_]) (S2:=(fun _=>False)) ⟨_,_,rfl,s2⟩ (fun _ hd=>hd.elim) (fun b hb=>⟨hb,fun h=>h⟩) (fun _ h=>h.elim)
 exact ⟨A0,A1,B1,hv.sh⟩
theorem qsh {w0:World} {L:List Ch} (x:qt) {I0 I1 I2:List Nat} {c0 c1 c2:List Value} (h:SH w0 w L) (h0:PO w L I0 x.Bi c0) (h1:PO w L I1 x.Bb c1) (h2:PO w L I2 x.Ba c2) (b0:apartB I0 (I1++I2)=true) (b1:apartB I1 I2=true):PO w L (I0++(I1++I2)) x (c0++(c1++c2)) :=
 (qcz h h0 (qcz h h1 h2 b1) b0)
structure qG where
 Av:Int
 Be:Int
 To:Int
 Bl:Int
 Bj:(List qt)
 Aq:(List qt)
instance gt_TArc:GoT qG:=isoT (pairT instInt (pairT instInt (pairT instInt (pairT instInt (pairT (@instList qt gt_TTable) (@instList qt gt_TTable)))))) (fun x=>(x.Av,x.Be,x.To,x.Bl,x.Bj,x.Aq)) ⟨0,0,0,0,[],[]⟩ rfl true (fun h=>by cases h)
abbrev qhb (x:qG) (p0 p1:Option Addr) (k0 k1:Nat):List Value:=[.int .i64 x.Av,.int .i64 x.Be,.int .i64 x.To,.int .i64 x.Bl,.slice p0 (x.Bj).length k0,.slice p1 (x.Aq).length k1]
theorem qai {x:qG} {cs:List Value} (h:GoT.R w S x cs):∃ p0 k0 p1 k1,cs=(qhb x p0 p1 k0 k1)∧SlR w S x.Bj p0 k0∧SlR w S x.Aq p1 k1:=by
 obtain ⟨_,_,rfl,rfl,⟨_,_,rfl,rfl,⟨_,_,rfl,rfl,⟨_,_,rfl,rfl,⟨_,_,rfl,⟨p0,k0,rfl,s0⟩,⟨p1,k1,rfl,s1⟩⟩⟩⟩⟩⟩:=h
 exact ⟨p0,k0,p1,k1,rfl,s0,s1⟩
theorem qfR (x:qG) {p0 p1:Option Addr} {k0 k1:Nat} (s0:SlR w S x.Bj p0 k0) (s1:SlR w S x.Aq p1 k1):GoT.R w S x (qhb x p0 p1 k0 k1):=have h:=pR (rI x.Av) (pR (rI x.Be) (pR (rI x.To) (pR (rI x.Bl) (pR (rS s0) (rS s1)))));h
theorem quI {w0:World} {L:List Ch} {x:qG} {p0 p1:Option Addr} {l0 k0 l1 k1:Nat} (h:SH w0 w (Ch.own S x [.int .i64 x.Av,.int .i64 x.Be,.int .i64 x.To,.int .i64 x.Bl,.slice p0 l0 k0,.slice p1 l1 k1]::L)):∃ S0 S1,SH w0 w (Ch.own S1 x.Aq [.slice p1 l1 k1]::Ch.own S0 x.Bj [.slice p0 l0 k0]::L):=by
 obtain ⟨hv,ho⟩:=h.headV
 replace ho:GoT.O w S x _:=ho
 obtain ⟨A0,B0,d0,e0,he,o0,ho,a0,b0⟩:=ho
 obtain rfl:=o0
 cases he
 replace hv:=hv.less b0
 obtain ⟨A1,B1,d1,e1,he,o1,ho,a1,b1⟩:=ho
 obtain rfl:=o1
 cases he
 replace hv:=hv.less b1
 obtain ⟨A2,B2,d2,e2,he,o2,ho,a2,b2⟩:=ho
 obtain rfl:=o2
 cases he
 replace hv:=hv.less b2
 obtain ⟨A3,B3,d3,e3,he,o3,ho,a3,b3⟩:=ho
 obtain rfl:=o3
 cases he
 replace hv:=hv.less b3
 obtain ⟨A4,B4,d4,e4,he,o4,ho,a4,b4⟩:=ho
 obtain ⟨q,m,rfl,s0⟩:=o4
 cases he
 replace hv:=hv.push (c:=Ch.own A4 x.Bj [_]) (S2:=B4) ⟨_,_,rfl,s0⟩ (fun _ hd=>hd.elim) a4 b4
 obtain ⟨q,m,he,s1⟩:=ho
 cases he
 replace hv:=hv.push (c:=Ch.own B4 x.Aq [_]) (S2:=(fun _=>False)) ⟨_,_,rfl,s1⟩ (fun _ hd=>hd.elim) (fun b hb=>⟨hb,fun h=>h⟩) (fun _ h=>h.elim)
 exact ⟨A4,B4,hv.sh⟩
theorem qve {w0:World} {L:List Ch} (x:qG) {I0 I1 I2 I3 I4 I5:List Nat} {c0 c1 c2 c3 c4 c5:List Value} (h:SH w0 w L) (h0:PO w L I0 x.Av c0) (h1:PO w L I1 x.Be c1) (h2:PO w L I2 x.To c2) (h3:PO w L I3 x.Bl c3) (h4:PO w L I4 x.Bj c4) (h5:PO w L I5 x.Aq c5) (b0:apartB I0 (I1++(I2++(I3++(I4++I5))))=true) (b1:apartB I1 (I2++(I3++(I4++I5)))=true) (b2:apartB I2 (I3++(I4++I5))=true) (b3:apartB I3 (I4++I5)=true) (b4:apartB I4 I5=true):PO w L (I0++(I1++(I2++(I3++(I4++I5))))) x (c0++(c1++(c2++(c3++(c4++c5))))) :=
 (qcz h h0 (qcz h h1 (qcz h h2 (qcz h h3 (qcz h h4 h5 b4) b3) b2) b1) b0)
structure qw where
 Az:ByteArray
 Av:Int
 Au:(List qal)
 As:(List qG)
 Bk:(List Int)
 Bw:Int
 Bq:Int
instance gt_TCell:GoT qw:=isoT (pairT instStr (pairT instInt (pairT (@instList qal gt_TPin) (pairT (@instList qG gt_TArc) (pairT (@instList Int instInt) (pairT instInt instInt)))))) (fun x=>(x.Az,x.Av,x.Au,x.As,x.Bk,x.Bw,x.Bq)) ⟨ByteArray.empty,0,[],[],[],0,0⟩ rfl true (fun h=>by cases h)
abbrev qed (x:qw) (p0 p1 p2:Option Addr) (k0 k1 k2:Nat):List Value:=[.string x.Az,.int .i64 x.Av,.slice p0 (x.Au).length k0,.slice p1 (x.As).length k1,.slice p2 (x.Bk).length k2,.int .i64 x.Bw,.int .i64 x.Bq]
theorem qae {x:qw} {cs:List Value} (h:GoT.R w S x cs):∃ p0 k0 p1 k1 p2 k2,cs=(qed x p0 p1 p2 k0 k1 k2)∧SlR w S x.Au p0 k0∧SlR w S x.As p1 k1∧SlR w S x.Bk p2 k2:=by
 obtain ⟨_,_,rfl,rfl,⟨_,_,rfl,rfl,⟨_,_,rfl,⟨p0,k0,rfl,s0⟩,⟨_,_,rfl,⟨p1,k1,rfl,s1⟩,⟨_,_,rfl,⟨p2,k2,rfl,s2⟩,⟨_,_,rfl,rfl,rfl⟩⟩⟩⟩⟩⟩:=h
 exact ⟨p0,k0,p1,k1,p2,k2,rfl,s0,s1,s2⟩
theorem qkp (x:qw) {p0 p1 p2:Option Addr} {k0 k1 k2:Nat} (s0:SlR w S x.Au p0 k0) (s1:SlR w S x.As p1 k1) (s2:SlR w S x.Bk p2 k2):GoT.R w S x (qed x p0 p1 p2 k0 k1 k2):=have h:=pR (rT x.Az) (pR (rI x.Av) (pR (rS s0) (pR (rS s1) (pR (rS s2) (pR (rI x.Bw) (rI x.Bq))))));h
theorem qtq {w0:World} {L:List Ch} {x:qw} {p0 p1 p2:Option Addr} {l0 k0 l1 k1 l2 k2:Nat} (h:SH w0 w (Ch.own S x [.string x.Az,.int .i64 x.Av,.slice p0 l0 k0,.slice p1 l1 k1,.slice p2 l2 k2,.int .i64 x.Bw,.int .i64 x.Bq]::L)):∃ S0 S1 S2,SH w0 w (Ch.own S2 x.Bk [.slice p2 l2 k2]::Ch.own S1 x.As [.slice p1 l1 k1]::Ch.own S0 x.Au [.slice p0 l0 k0]::L):=by
 obtain ⟨hv,ho⟩:=h.headV
 replace ho:GoT.O w S x _:=ho
 obtain ⟨A0,B0,d0,e0,he,o0,ho,a0,b0⟩:=ho
 obtain rfl:=o0
 cases he
 replace hv:=hv.less b0
 obtain ⟨A1,B1,d1,e1,he,o1,ho,a1,b1⟩:=ho
 obtain rfl:=o1
 cases he
 replace hv:=hv.less b1
 obtain ⟨A2,B2,d2,e2,he,o2,ho,a2,b2⟩:=ho
 obtain ⟨q,m,rfl,s0⟩:=o2
 cases he
 replace hv:=hv.push (c:=Ch.own A2 x.Au [_]) (S2:=B2) ⟨_,_,rfl,s0⟩ (fun _ hd=>hd.elim) a2 b2
 obtain ⟨A3,B3,d3,e3,he,o3,ho,a3,b3⟩:=ho
 obtain ⟨q,m,rfl,s1⟩:=o3
 cases he
 replace hv:=hv.push (c:=Ch.own A3 x.As [_]) (S2:=B3) ⟨_,_,rfl,s1⟩ (fun _ hd=>hd.elim) a3 b3
 obtain ⟨A4,B4,d4,e4,he,o4,ho,a4,b4⟩:=ho
 obtain ⟨q,m,rfl,s2⟩:=o4
 cases he
 replace hv:=hv.push (c:=Ch.own A4 x.Bk [_]) (S2:=B4) ⟨_,_,rfl,s2⟩ (fun _ hd=>hd.elim) a4 b4
 obtain ⟨A5,B5,d5,e5,he,o5,ho,a5,b5⟩:=ho
 obtain rfl:=o5
 cases he
 replace hv:=hv.less b5
 exact ⟨A2,A3,A4,hv.sh⟩
theorem qt2 {w0:World} {L:List Ch} (x:qw) {I0 I1 I2 I3 I4 I5 I6:List Nat} {c0 c1 c2 c3 c4 c5 c6:List Value} (h:SH w0 w L) (h0:PO w L I0 x.Az c0) (h1:PO w L I1 x.Av c1) (h2:PO w L I2 x.Au c2) (h3:PO w L I3 x.As c3) (h4:PO w L I4 x.Bk c4) (h5:PO w L I5 x.Bw c5) (h6:PO w L I6 x.Bq c6) (b0:apartB I0 (I1++(I2++(I3++(I4++(I5++I6)))))=true) (b1:apartB I1 (I2++(I3++(I4++(I5++I6))))=true) (b2:apartB I2 (I3++(I4++(I5++I6)))=true) (b3:apartB I3 (I4++(I5++I6))=true) (b4:apartB I4 (I5++I6)=true) (b5:apartB I5 I6=true):PO w L (I0++(I1++(I2++(I3++(I4++(I5++I6)))))) x (c0++(c1++(c2++(c3++(c4++(c5++c6)))))) :=
 (qcz h h0 (qcz h h1 (qcz h h2 (qcz h h3 (qcz h h4 (qcz h h5 h6 b5) b4) b3) b2) b1) b0)
structure qr where
 Ap:(List qw)
instance gt_TLibrary:GoT qr:=isoT (@instList qw gt_TCell) (fun x=>x.Ap) ⟨[]⟩ rfl true (fun h=>by cases h)
theorem qbG {x:qr} {cs:List Value} (h:GoT.R w S x cs):∃ p0 k0,cs=[.slice p0 (x.Ap).length k0]∧SlR w S x.Ap p0 k0:=by
 obtain ⟨p0,k0,rfl,s0⟩:=h
 exact ⟨p0,k0,rfl,s0⟩
theorem qd7 (x:qr) {p0:Option Addr} {k0:Nat} (s0:SlR w S x.Ap p0 k0):GoT.R w S x [.slice p0 (x.Ap).length k0]:=have h:=rS s0;h
theorem qhi {w0:World} {L:List Ch} {x:qr} {p0:Option Addr} {l0 k0:Nat} (h:SH w0 w (Ch.own S x [.slice p0 l0 k0]::L)):∃ S0,SH w0 w (Ch.own S0 x.Ap [.slice p0 l0 k0]::L):=by
 obtain ⟨hv,ho⟩:=h.headV
 replace ho:GoT.O w S x _:=ho
 obtain ⟨q,m,he,s0⟩:=ho
 cases he
 replace hv:=hv.push (c:=Ch.own S x.Ap [_]) (S2:=(fun _=>False)) ⟨_,_,rfl,s0⟩ (fun _ hd=>hd.elim) (fun b hb=>⟨hb,fun h=>h⟩) (fun _ h=>h.elim)
 exact ⟨S,hv.sh⟩
theorem qub {w0:World} {L:List Ch} (x:qr) {I0:List Nat} {c0:List Value} (_:SH w0 w L) (h0:PO w L I0 x.Ap c0):PO w L I0 x c0 :=
 h0
structure qi where
 Az:ByteArray
 Bp:Int
 Ai:(List Int)
instance gt_TInstance:GoT qi:=isoT (pairT instStr (pairT instInt (@instList Int instInt))) (fun x=>(x.Az,x.Bp,x.Ai)) ⟨ByteArray.empty,0,[]⟩ rfl true (fun h=>by cases h)
abbrev qjU (x:qi) (p0:Option Addr) (k0:Nat):List Value:=[.string x.Az,.int .i64 x.Bp,.slice p0 (x.Ai).length k0]
theorem qO {x:qi} {cs:List Value} (h:GoT.R w S x cs):∃ p0 k0,cs=(qjU x p0 k0)∧SlR w S x.Ai p0 k0:=by
 obtain ⟨_,_,rfl,rfl,⟨_,_,rfl,rfl,⟨p0,k0,rfl,s0⟩⟩⟩:=h
 exact ⟨p0,k0,rfl,s0⟩
theorem qgz (x:qi) {p0:Option Addr} {k0:Nat} (s0:SlR w S x.Ai p0 k0):GoT.R w S x (qjU x p0 k0):=have h:=pR (rT x.Az) (pR (rI x.Bp) (rS s0));h
theorem qqg {w0:World} {L:List Ch} {x:qi} {p0:Option Addr} {l0 k0:Nat} (h:SH w0 w (Ch.own S x [.string x.Az,.int .i64 x.Bp,.slice p0 l0 k0]::L)):∃ S0,SH w0 w (Ch.own S0 x.Ai [.slice p0 l0 k0]::L):=by
 obtain ⟨hv,ho⟩:=h.headV
 replace ho:GoT.O w S x _:=ho
 obtain ⟨A0,B0,d0,e0,he,o0,ho,a0,b0⟩:=ho
 obtain rfl:=o0
 cases he
 replace hv:=hv.less b0
 obtain ⟨A1,B1,d1,e1,he,o1,ho,a1,b1⟩:=ho
 obtain rfl:=o1
 cases he
 replace hv:=hv.less b1
 obtain ⟨q,m,he,s0⟩:=ho
 cases he
 replace hv:=hv.push (c:=Ch.own B1 x.Ai [_]) (S2:=(fun _=>False)) ⟨_,_,rfl,s0⟩ (fun _ hd=>hd.elim) (fun b hb=>⟨hb,fun h=>h⟩) (fun _ h=>h.elim)
 exact ⟨B1,hv.sh⟩
theorem qoT {w0:World} {L:List Ch} (x:qi) {I0 I1 I2:List Nat} {c0 c1 c2:List Value} (h:SH w0 w L) (h0:PO w L I0 x.Az c0) (h1:PO w L I1 x.Bp c1) (h2:PO w L I2 x.Ai c2) (b0:apartB I0 (I1++I2)=true) (b1:apartB I1 I2=true):PO w L (I0++(I1++I2)) x (c0++(c1++c2)) :=
 (qcz h h0 (qcz h h1 h2 b1) b0)
structure qP where
 Az:ByteArray
 Br:Int
 Bt:Int
instance gt_TPort:GoT qP:=isoT (pairT instStr (pairT instInt instInt)) (fun x=>(x.Az,x.Br,x.Bt)) ⟨ByteArray.empty,0,0⟩ rfl true (fun h=>by cases h)
instance fl_TPort:Flat qP:=qfa (pairT instStr (pairT instInt instInt)) (fun x:qP=>(x.Az,x.Br,x.Bt)) ⟨ByteArray.empty,0,0⟩ rfl true (fun h=>by cases h) (qaC _ _ (inferInstanceAs (Flat ByteArray)) (qaC _ _ (inferInstanceAs (Flat Int)) (inferInstanceAs (Flat Int))))
abbrev qqz (x:qP):List Value:=[.string x.Az,.int .i64 x.Br,.int .i64 x.Bt]
theorem qaS {x:qP} {cs:List Value} (h:GoT.R w S x cs):cs=(qqz x):=by
 obtain ⟨_,_,rfl,rfl,⟨_,_,rfl,rfl,rfl⟩⟩:=h
 exact rfl
theorem qes (x:qP):GoT.R w S x (qqz x):=have h:=pR (rT x.Az) (pR (rI x.Br) (rI x.Bt));h
structure qf where
 Ab:(List qi)
 Ai:(List ByteArray)
 Ah:(List qP)
instance gt_TDesign:GoT qf:=isoT (pairT (@instList qi gt_TInstance) (pairT (@instList ByteArray instStr) (@instList qP gt_TPort))) (fun x=>(x.Ab,x.Ai,x.Ah)) ⟨[],[],[]⟩ rfl true (fun h=>by cases h)
abbrev qaQ (x:qf) (p0 p1 p2:Option Addr) (k0 k1 k2:Nat):List Value:=[.slice p0 (x.Ab).length k0,.slice p1 (x.Ai).length k1,.slice p2 (x.Ah).length k2]
theorem qaA {x:qf} {cs:List Value} (h:GoT.R w S x cs):∃ p0 k0 p1 k1 p2 k2,cs=(qaQ x p0 p1 p2 k0 k1 k2)∧SlR w S x.Ab p0 k0∧SlR w S x.Ai p1 k1∧SlR w S x.Ah p2 k2:=by
 obtain ⟨_,_,rfl,⟨p0,k0,rfl,s0⟩,⟨_,_,rfl,⟨p1,k1,rfl,s1⟩,⟨p2,k2,rfl,s2⟩⟩⟩:=h
 exact ⟨p0,k0,p1,k1,p2,k2,rfl,s0,s1,s2⟩
theorem qax (x:qf) {p0 p1 p2:Option Addr} {k0 k1 k2:Nat} (s0:SlR w S x.Ab p0 k0) (s1:SlR w S x.Ai p1 k1) (s2:SlR w S x.Ah p2 k2):GoT.R w S x (qaQ x p0 p1 p2 k0 k1 k2):=have h:=pR (rS s0) (pR (rS s1) (rS s2));h
theorem qhV {w0:World} {L:List Ch} {x:qf} {p0 p1 p2:Option Addr} {l0 k0 l1 k1 l2 k2:Nat} (h:SH w0 w (Ch.own S x [.slice p0 l0 k0,.slice p1 l1 k1,.slice p2 l2 k2]::L)):∃ S0 S1 S2,SH w0 w (Ch.own S2 x.Ah [.slice p2 l2 k2]::Ch.own S1 x.Ai [.slice p1 l1 k1]::Ch.own S0 x.Ab [.slice p0 l0 k0]::L):=by
 obtain ⟨hv,ho⟩:=h.headV
 replace ho:GoT.O w S x _:=ho
 obtain ⟨A0,B0,d0,e0,he,o0,ho,a0,b0⟩:=ho
 obtain ⟨q,m,rfl,s0⟩:=o0
 cases he
 replace hv:=hv.push (c:=Ch.own A0 x.Ab [_]) (S2:=B0) ⟨_,_,rfl,s0⟩ (fun _ hd=>hd.elim) a0 b0
 obtain ⟨A1,B1,d1,e1,he,o1,ho,a1,b1⟩:=ho
 obtain ⟨q,m,rfl,s1⟩:=o1
 cases he
 replace hv:=hv.push (c:=Ch.own A1 x.Ai [_]) (S2:=B1) ⟨_,_,rfl,s1⟩ (fun _ hd=>hd.elim) a1 b1
 obtain ⟨q,m,he,s2⟩:=ho
 cases he
 replace hv:=hv.push (c:=Ch.own B1 x.Ah [_]) (S2:=(fun _=>False)) ⟨_,_,rfl,s2⟩ (fun _ hd=>hd.elim) (fun b hb=>⟨hb,fun h=>h⟩) (fun _ h=>h.elim)
 exact ⟨A0,A1,B1,hv.sh⟩
theorem qud {w0:World} {L:List Ch} (x:qf) {I0 I1 I2:List Nat} {c0 c1 c2:List Value} (h:SH w0 w L) (h0:PO w L I0 x.Ab c0) (h1:PO w L I1 x.Ai c1) (h2:PO w L I2 x.Ah c2) (b0:apartB I0 (I1++I2)=true) (b1:apartB I1 I2=true):PO w L (I0++(I1++I2)) x (c0++(c1++c2)) :=
 (qcz h h0 (qcz h h1 h2 b1) b0)
structure qE where
 Ak:(List Int)
 Bs:(List Int)
 Bo:(List Int)
 Bh:(List Int)
instance gt_TWire:GoT qE:=isoT (pairT (@instList Int instInt) (pairT (@instList Int instInt) (pairT (@instList Int instInt) (@instList Int instInt)))) (fun x=>(x.Ak,x.Bs,x.Bo,x.Bh)) ⟨[],[],[],[]⟩ rfl true (fun h=>by cases h)
abbrev qgO (x:qE) (p0 p1 p2 p3:Option Addr) (k0 k1 k2 k3:Nat):List Value:=[.slice p0 (x.Ak).length k0,.slice p1 (x.Bs).length k1,.slice p2 (x.Bo).length k2,.slice p3 (x.Bh).length k3]
theorem qaN {x:qE} {cs:List Value} (h:GoT.R w S x cs):∃ p0 k0 p1 k1 p2 k2 p3 k3,cs=(qgO x p0 p1 p2 p3 k0 k1 k2 k3)∧SlR w S x.Ak p0 k0∧SlR w S x.Bs p1 k1∧SlR w S x.Bo p2 k2∧SlR w S x.Bh p3 k3:=by
 obtain ⟨_,_,rfl,⟨p0,k0,rfl,s0⟩,⟨_,_,rfl,⟨p1,k1,rfl,s1⟩,⟨_,_,rfl,⟨p2,k2,rfl,s2⟩,⟨p3,k3,rfl,s3⟩⟩⟩⟩:=h
 exact ⟨p0,k0,p1,k1,p2,k2,p3,k3,rfl,s0,s1,s2,s3⟩
theorem qku (x:qE) {p0 p1 p2 p3:Option Addr} {k0 k1 k2 k3:Nat} (s0:SlR w S x.Ak p0 k0) (s1:SlR w S x.Bs p1 k1) (s2:SlR w S x.Bo p2 k2) (s3:SlR w S x.Bh p3 k3):GoT.R w S x (qgO x p0 p1 p2 p3 k0 k1 k2 k3):=have h:=pR (rS s0) (pR (rS s1) (pR (rS s2) (rS s3)));h
theorem qtT {w0:World} {L:List Ch} {x:qE} {p0 p1 p2 p3:Option Addr} {l0 k0 l1 k1 l2 k2 l3 k3:Nat} (h:SH w0 w (Ch.own S x [.slice p0 l0 k0,.slice p1 l1 k1,.slice p2 l2 k2,.slice p3 l3 k3]::L)):∃ S0 S1 S2 S3,SH w0 w (Ch.own S3 x.Bh [.slice p3 l3 k3]::Ch.own S2 x.Bo [.slice p2 l2 k2]::Ch.own S1 x.Bs [.slice p1 l1 k1]::Ch.own S0 x.Ak [.slice p0 l0 k0]::L):=by
 obtain ⟨hv,ho⟩:=h.headV
 replace ho:GoT.O w S x _:=ho
 obtain ⟨A0,B0,d0,e0,he,o0,ho,a0,b0⟩:=ho
 obtain ⟨q,m,rfl,s0⟩:=o0
 cases he
 replace hv:=hv.push (c:=Ch.own A0 x.Ak [_]) (S2:=B0) ⟨_,_,rfl,s0⟩ (fun _ hd=>hd.elim) a0 b0
 obtain ⟨A1,B1,d1,e1,he,o1,ho,a1,b1⟩:=ho
 obtain ⟨q,m,rfl,s1⟩:=o1
 cases he
 replace hv:=hv.push (c:=Ch.own A1 x.Bs [_]) (S2:=B1) ⟨_,_,rfl,s1⟩ (fun _ hd=>hd.elim) a1 b1
 obtain ⟨A2,B2,d2,e2,he,o2,ho,a2,b2⟩:=ho
 obtain ⟨q,m,rfl,s2⟩:=o2
 cases he
 replace hv:=hv.push (c:=Ch.own A2 x.Bo [_]) (S2:=B2) ⟨_,_,rfl,s2⟩ (fun _ hd=>hd.elim) a2 b2
 obtain ⟨q,m,he,s3⟩:=ho
 cases he
 replace hv:=hv.push (c:=Ch.own B2 x.Bh [_]) (S2:=(fun _=>False)) ⟨_,_,rfl,s3⟩ (fun _ hd=>hd.elim) (fun b hb=>⟨hb,fun h=>h⟩) (fun _ h=>h.elim)
 exact ⟨A0,A1,A2,B2,hv.sh⟩
theorem qtn {w0:World} {L:List Ch} (x:qE) {I0 I1 I2 I3:List Nat} {c0 c1 c2 c3:List Value} (h:SH w0 w L) (h0:PO w L I0 x.Ak c0) (h1:PO w L I1 x.Bs c1) (h2:PO w L I2 x.Bo c2) (h3:PO w L I3 x.Bh c3) (b0:apartB I0 (I1++(I2++I3))=true) (b1:apartB I1 (I2++I3)=true) (b2:apartB I2 I3=true):PO w L (I0++(I1++(I2++I3))) x (c0++(c1++(c2++c3))) :=
 (qcz h h0 (qcz h h1 (qcz h h2 h3 b2) b1) b0)
structure qg where
 Ar:qr
 Aa:qf
 Ac:(List qE)
instance gt_TBlock:GoT qg:=isoT (pairT gt_TLibrary (pairT gt_TDesign (@instList qE gt_TWire))) (fun x=>(x.Ar,x.Aa,x.Ac)) ⟨(⟨[]⟩:qr),(⟨[],[],[]⟩:qf),[]⟩ rfl true (fun h=>by cases h)
abbrev qZ (x:qg) (p0 p1 p2 p3 p4:Option Addr) (k0 k1 k2 k3 k4:Nat):List Value:=[.slice p0 (x.Ar.Ap).length k0,.slice p1 (x.Aa.Ab).length k1,.slice p2 (x.Aa.Ai).length k2,.slice p3 (x.Aa.Ah).length k3,.slice p4 (x.Ac).length k4]
theorem qI {x:qg} {cs:List Value} (h:GoT.R w S x cs):∃ p0 k0 p1 k1 p2 k2 p3 k3 p4 k4,cs=(qZ x p0 p1 p2 p3 p4 k0 k1 k2 k3 k4)∧SlR w S x.Ar.Ap p0 k0∧SlR w S x.Aa.Ab p1 k1∧SlR w S x.Aa.Ai p2 k2∧SlR w S x.Aa.Ah p3 k3∧SlR w S x.Ac p4 k4:=by
 obtain ⟨_,_,rfl,⟨p0,k0,rfl,s0⟩,⟨_,_,rfl,⟨_,_,rfl,⟨p1,k1,rfl,s1⟩,⟨_,_,rfl,⟨p2,k2,rfl,s2⟩,⟨p3,k3,rfl,s3⟩⟩⟩,⟨p4,k4,rfl,s4⟩⟩⟩:=h
 exact ⟨p0,k0,p1,k1,p2,k2,p3,k3,p4,k4,rfl,s0,s1,s2,s3,s4⟩
theorem qqM (x:qg) {p0 p1 p2 p3 p4:Option Addr} {k0 k1 k2 k3 k4:Nat} (s0:SlR w S x.Ar.Ap p0 k0) (s1:SlR w S x.Aa.Ab p1 k1) (s2:SlR w S x.Aa.Ai p2 k2) (s3:SlR w S x.Aa.Ah p3 k3) (s4:SlR w S x.Ac p4 k4):GoT.R w S x (qZ x p0 p1 p2 p3 p4 k0 k1 k2 k3 k4):=have h:=pR (qd7 x.Ar s0) (pR (qax x.Aa s1 s2 s3) (rS s4));h
theorem qhU {w0:World} {L:List Ch} {x:qg} {p0 p1 p2 p3 p4:Option Addr} {l0 k0 l1 k1 l2 k2 l3 k3 l4 k4:Nat} (h:SH w0 w (Ch.own S x [.slice p0 l0 k0,.slice p1 l1 k1,.slice p2 l2 k2,.slice p3 l3 k3,.slice p4 l4 k4]::L)):∃ S0 S1 S2,SH w0 w (Ch.own S2 x.Ac [.slice p4 l4 k4]::Ch.own S1 x.Aa [.slice p1 l1 k1,.slice p2 l2 k2,.slice p3 l3 k3]::Ch.own S0 x.Ar [.slice p0 l0 k0]::L):=by
 obtain ⟨hv,ho⟩:=h.headV
 replace ho:GoT.O w S x _:=ho
 obtain ⟨A0,B0,d0,e0,he0,o0,ho,a0,b0⟩:=ho
 have hl0:d0.length=1:=GoT.len (GoT.toR o0)
 obtain ⟨rfl,rfl⟩:d0=[.slice p0 l0 k0]∧e0=[.slice p1 l1 k1,.slice p2 l2 k2,.slice p3 l3 k3,.slice p4 l4 k4]:=by
  have:=List.append_inj (show [.slice p0 l0 k0]++[.slice p1 l1 k1,.slice p2 l2 k2,.slice p3 l3 k3,.slice p4 l4 k4]=d0++e0 from he0) (by rw [hl0];rfl)
  exact ⟨this.1.symm,this.2.symm⟩
 replace hv:=hv.push (c:=Ch.own A0 x.Ar [.slice p0 l0 k0]) (S2:=B0) o0 (fun _ hd=>hd.elim) a0 b0
 obtain ⟨A1,B1,d1,e1,he1,o1,ho,a1,b1⟩:=ho
 have hl1:d1.length=3:=GoT.len (GoT.toR o1)
 obtain ⟨rfl,rfl⟩:d1=[.slice p1 l1 k1,.slice p2 l2 k2,.slice p3 l3 k3]∧e1=[.slice p4 l4 k4]:=by
  have:=List.append_inj (show [.slice p1 l1 k1,.slice p2 l2 k2,.slice p3 l3 k3]++[.slice p4 l4 k4]=d1++e1 from he1) (by rw [hl1];rfl)
  exact ⟨this.1.symm,this.2.symm⟩
 replace hv:=hv.push (c:=Ch.own A1 x.Aa [.slice p1 l1 k1,.slice p2 l2 k2,.slice p3 l3 k3]) (S2:=B1) o1 (fun _ hd=>hd.elim) a1 b1
 replace hv:=hv.push (c:=Ch.own B1 x.Ac [.slice p4 l4 k4]) (S2:=(fun _=>False)) ho (fun _ hd=>hd.elim) (fun b hb=>⟨hb,fun h=>h⟩) (fun _ h=>h.elim)
 exact ⟨A0,A1,B1,hv.sh⟩
theorem qvN {w0:World} {L:List Ch} (x:qg) {I0 I1 I2:List Nat} {c0 c1 c2:List Value} (h:SH w0 w L) (h0:PO w L I0 x.Ar c0) (h1:PO w L I1 x.Aa c1) (h2:PO w L I2 x.Ac c2) (b0:apartB I0 (I1++I2)=true) (b1:apartB I1 I2=true):PO w L (I0++(I1++I2)) x (c0++(c1++c2)) :=
 (qcz h h0 (qcz h h1 h2 b1) b0)
structure qc where
 Am:Int
 Ay:Int
instance gt_TSpan:GoT qc:=isoT (pairT instInt instInt) (fun x=>(x.Am,x.Ay)) ⟨0,0⟩ rfl true (fun h=>by cases h)
instance fl_TSpan:Flat qc:=qfa (pairT instInt instInt) (fun x:qc=>(x.Am,x.Ay)) ⟨0,0⟩ rfl true (fun h=>by cases h) (qaC _ _ (inferInstanceAs (Flat Int)) (inferInstanceAs (Flat Int)))
abbrev qgP (x:qc):List Value:=[.int .i64 x.Am,.int .i64 x.Ay]
theorem qx {x:qc} {cs:List Value} (h:GoT.R w S x cs):cs=(qgP x):=by
 obtain ⟨_,_,rfl,rfl,rfl⟩:=h
 exact rfl
theorem qA (x:qc):GoT.R w S x (qgP x):=have h:=pR (rI x.Am) (rI x.Ay);h
structure qn where
 Aj:(List Bool)
 Af:(List qc)
 Aq:(List qc)
instance gt_TTiming:GoT qn:=isoT (pairT (@instList Bool instBool) (pairT (@instList qc gt_TSpan) (@instList qc gt_TSpan))) (fun x=>(x.Aj,x.Af,x.Aq)) ⟨[],[],[]⟩ rfl true (fun h=>by cases h)
abbrev qaa (x:qn) (p0 p1 p2:Option Addr) (k0 k1 k2:Nat):List Value:=[.slice p0 (x.Aj).length k0,.slice p1 (x.Af).length k1,.slice p2 (x.Aq).length k2]
theorem qad {x:qn} {cs:List Value} (h:GoT.R w S x cs):∃ p0 k0 p1 k1 p2 k2,cs=(qaa x p0 p1 p2 k0 k1 k2)∧SlR w S x.Aj p0 k0∧SlR w S x.Af p1 k1∧SlR w S x.Aq p2 k2:=by
 obtain ⟨_,_,rfl,⟨p0,k0,rfl,s0⟩,⟨_,_,rfl,⟨p1,k1,rfl,s1⟩,⟨p2,k2,rfl,s2⟩⟩⟩:=h
 exact ⟨p0,k0,p1,k1,p2,k2,rfl,s0,s1,s2⟩
theorem qtw (x:qn) {p0 p1 p2:Option Addr} {k0 k1 k2:Nat} (s0:SlR w S x.Aj p0 k0) (s1:SlR w S x.Af p1 k1) (s2:SlR w S x.Aq p2 k2):GoT.R w S x (qaa x p0 p1 p2 k0 k1 k2):=have h:=pR (rS s0) (pR (rS s1) (rS s2));h
theorem qaE {w0:World} {L:List Ch} {x:qn} {p0 p1 p2:Option Addr} {l0 k0 l1 k1 l2 k2:Nat} (h:SH w0 w (Ch.own S x [.slice p0 l0 k0,.slice p1 l1 k1,.slice p2 l2 k2]::L)):∃ S0 S1 S2,SH w0 w (Ch.own S2 x.Aq [.slice p2 l2 k2]::Ch.own S1 x.Af [.slice p1 l1 k1]::Ch.own S0 x.Aj [.slice p0 l0 k0]::L):=by
 obtain ⟨hv,ho⟩:=h.headV
 replace ho:GoT.O w S x _:=ho
 obtain ⟨A0,B0,d0,e0,he,o0,ho,a0,b0⟩:=ho
 obtain ⟨q,m,rfl,s0⟩:=o0
 cases he
 replace hv:=hv.push (c:=Ch.own A0 x.Aj [_]) (S2:=B0) ⟨_,_,rfl,s0⟩ (fun _ hd=>hd.elim) a0 b0
 obtain ⟨A1,B1,d1,e1,he,o1,ho,a1,b1⟩:=ho
 obtain ⟨q,m,rfl,s1⟩:=o1
 cases he
 replace hv:=hv.push (c:=Ch.own A1 x.Af [_]) (S2:=B1) ⟨_,_,rfl,s1⟩ (fun _ hd=>hd.elim) a1 b1
 obtain ⟨q,m,he,s2⟩:=ho
 cases he
 replace hv:=hv.push (c:=Ch.own B1 x.Aq [_]) (S2:=(fun _=>False)) ⟨_,_,rfl,s2⟩ (fun _ hd=>hd.elim) (fun b hb=>⟨hb,fun h=>h⟩) (fun _ h=>h.elim)
 exact ⟨A0,A1,B1,hv.sh⟩
theorem qcD {w0:World} {L:List Ch} (x:qn) {I0 I1 I2:List Nat} {c0 c1 c2:List Value} (h:SH w0 w L) (h0:PO w L I0 x.Aj c0) (h1:PO w L I1 x.Af c1) (h2:PO w L I2 x.Aq c2) (b0:apartB I0 (I1++I2)=true) (b1:apartB I1 I2=true):PO w L (I0++(I1++I2)) x (c0++(c1++c2)) :=
 (qcz h h0 (qcz h h1 h2 b1) b0)
structure qjh where
 A:Int
 B:Int
 Cb:Int
instance gt_TCoupling:GoT qjh:=isoT (pairT instInt (pairT instInt instInt)) (fun x=>(x.A,x.B,x.Cb)) ⟨0,0,0⟩ rfl true (fun h=>by cases h)
instance fl_TCoupling:Flat qjh:=qfa (pairT instInt (pairT instInt instInt)) (fun x:qjh=>(x.A,x.B,x.Cb)) ⟨0,0,0⟩ rfl true (fun h=>by cases h) (qaC _ _ (inferInstanceAs (Flat Int)) (qaC _ _ (inferInstanceAs (Flat Int)) (inferInstanceAs (Flat Int))))
structure qy where
 Az:ByteArray
 Bc:Int
 Bf:Int
 Bd:Int
 Bg:Int
instance gt_TCorner:GoT qy:=isoT (pairT instStr (pairT instInt (pairT instInt (pairT instInt instInt)))) (fun x=>(x.Az,x.Bc,x.Bf,x.Bd,x.Bg)) ⟨ByteArray.empty,0,0,0,0⟩ rfl true (fun h=>by cases h)
instance fl_TCorner:Flat qy:=qfa (pairT instStr (pairT instInt (pairT instInt (pairT instInt instInt)))) (fun x:qy=>(x.Az,x.Bc,x.Bf,x.Bd,x.Bg)) ⟨ByteArray.empty,0,0,0,0⟩ rfl true (fun h=>by cases h) (qaC _ _ (inferInstanceAs (Flat ByteArray)) (qaC _ _ (inferInstanceAs (Flat Int)) (qaC _ _ (inferInstanceAs (Flat Int)) (qaC _ _ (inferInstanceAs (Flat Int)) (inferInstanceAs (Flat Int))))))
abbrev qaq (x:qy):List Value:=[.string x.Az,.int .i64 x.Bc,.int .i64 x.Bf,.int .i64 x.Bd,.int .i64 x.Bg]
theorem qah {x:qy} {cs:List Value} (h:GoT.R w S x cs):cs=(qaq x):=by
 obtain ⟨_,_,rfl,rfl,⟨_,_,rfl,rfl,⟨_,_,rfl,rfl,⟨_,_,rfl,rfl,rfl⟩⟩⟩⟩:=h
 exact rfl
theorem qlq (x:qy):GoT.R w S x (qaq x):=have h:=pR (rT x.Az) (pR (rI x.Bc) (pR (rI x.Bf) (pR (rI x.Bd) (rI x.Bg))));h
structure qe where
 Bm:Int
 Af:qc
 Aq:qc
instance gt_TSource:GoT qe:=isoT (pairT instInt (pairT gt_TSpan gt_TSpan)) (fun x=>(x.Bm,x.Af,x.Aq)) ⟨0,(⟨0,0⟩:qc),(⟨0,0⟩:qc)⟩ rfl true (fun h=>by cases h)
instance fl_TSource:Flat qe:=qfa (pairT instInt (pairT gt_TSpan gt_TSpan)) (fun x:qe=>(x.Bm,x.Af,x.Aq)) ⟨0,(⟨0,0⟩:qc),(⟨0,0⟩:qc)⟩ rfl true (fun h=>by cases h) (qaC _ _ (inferInstanceAs (Flat Int)) (qaC _ _ (inferInstanceAs (Flat qc)) (inferInstanceAs (Flat qc))))
abbrev qgG (x:qe):List Value:=[.int .i64 x.Bm,.int .i64 x.Af.Am,.int .i64 x.Af.Ay,.int .i64 x.Aq.Am,.int .i64 x.Aq.Ay]
theorem qX {x:qe} {cs:List Value} (h:GoT.R w S x cs):cs=(qgG x):=by
 obtain ⟨_,_,rfl,rfl,⟨_,_,rfl,⟨_,_,rfl,rfl,rfl⟩,⟨_,_,rfl,rfl,rfl⟩⟩⟩:=h
 exact rfl
theorem qaL (x:qe):GoT.R w S x (qgG x):=have h:=pR (rI x.Bm) (pR (qA x.Af) (qA x.Aq));h
structure qpF where
 Cd:Int
 Bz:Int
instance gt_TLatch:GoT qpF:=isoT (pairT instInt instInt) (fun x=>(x.Cd,x.Bz)) ⟨0,0⟩ rfl true (fun h=>by cases h)
instance fl_TLatch:Flat qpF:=qfa (pairT instInt instInt) (fun x:qpF=>(x.Cd,x.Bz)) ⟨0,0⟩ rfl true (fun h=>by cases h) (qaC _ _ (inferInstanceAs (Flat Int)) (inferInstanceAs (Flat Int)))
structure qji where
 Be:Int
 To:Int
 Bj:Int
 Ca:Int
instance gt_TLatchLink:GoT qji:=isoT (pairT instInt (pairT instInt (pairT instInt instInt))) (fun x=>(x.Be,x.To,x.Bj,x.Ca)) ⟨0,0,0,0⟩ rfl true (fun h=>by cases h)
instance fl_TLatchLink:Flat qji:=qfa (pairT instInt (pairT instInt (pairT instInt instInt))) (fun x:qji=>(x.Be,x.To,x.Bj,x.Ca)) ⟨0,0,0,0⟩ rfl true (fun h=>by cases h) (qaC _ _ (inferInstanceAs (Flat Int)) (qaC _ _ (inferInstanceAs (Flat Int)) (qaC _ _ (inferInstanceAs (Flat Int)) (inferInstanceAs (Flat Int)))))
structure qoI where
 Bx:(List qpF)
 Cc:(List qji)
instance gt_TLatchSystem:GoT qoI:=isoT (pairT (@instList qpF gt_TLatch) (@instList qji gt_TLatchLink)) (fun x=>(x.Bx,x.Cc)) ⟨[],[]⟩ rfl true (fun h=>by cases h)
structure Tplace where
 instance_:Int
 pin:Int
 net:Int
 drives:Bool
instance gt_Tplace:GoT Tplace:=isoT (pairT instInt (pairT instInt (pairT instInt instBool))) (fun x=>(x.instance_,x.pin,x.net,x.drives)) ⟨0,0,0,false⟩ rfl true (fun h=>by cases h)
instance fl_Tplace:Flat Tplace:=qfa (pairT instInt (pairT instInt (pairT instInt instBool))) (fun x:Tplace=>(x.instance_,x.pin,x.net,x.drives)) ⟨0,0,0,false⟩ rfl true (fun h=>by cases h) (qaC _ _ (inferInstanceAs (Flat Int)) (qaC _ _ (inferInstanceAs (Flat Int)) (qaC _ _ (inferInstanceAs (Flat Int)) (inferInstanceAs (Flat Bool)))))
abbrev qqJ (x:Tplace):List Value:=[.int .i64 x.instance_,.int .i64 x.pin,.int .i64 x.net,.bool x.drives]
theorem qhk {x:Tplace} {cs:List Value} (h:GoT.R w S x cs):cs=(qqJ x):=by
 obtain ⟨_,_,rfl,rfl,⟨_,_,rfl,rfl,⟨_,_,rfl,rfl,rfl⟩⟩⟩:=h
 exact rfl
theorem ql9 (x:Tplace):GoT.R w S x (qqJ x):=have h:=pR (rI x.instance_) (pR (rI x.pin) (pR (rI x.net) (rB x.drives)));h
structure qu where
 Be:Int
 To:Int
 Av:Int
 Bu:Int
instance gt_TLink:GoT qu:=isoT (pairT instInt (pairT instInt (pairT instInt instInt))) (fun x=>(x.Be,x.To,x.Av,x.Bu)) ⟨0,0,0,0⟩ rfl true (fun h=>by cases h)
instance fl_TLink:Flat qu:=qfa (pairT instInt (pairT instInt (pairT instInt instInt))) (fun x:qu=>(x.Be,x.To,x.Av,x.Bu)) ⟨0,0,0,0⟩ rfl true (fun h=>by cases h) (qaC _ _ (inferInstanceAs (Flat Int)) (qaC _ _ (inferInstanceAs (Flat Int)) (qaC _ _ (inferInstanceAs (Flat Int)) (inferInstanceAs (Flat Int)))))
abbrev qjs (x:qu):List Value:=[.int .i64 x.Be,.int .i64 x.To,.int .i64 x.Av,.int .i64 x.Bu]
theorem qa1 {x:qu} {cs:List Value} (h:GoT.R w S x cs):cs=(qjs x):=by
 obtain ⟨_,_,rfl,rfl,⟨_,_,rfl,rfl,⟨_,_,rfl,rfl,rfl⟩⟩⟩:=h
 exact rfl
theorem qcc (x:qu):GoT.R w S x (qjs x):=have h:=pR (rI x.Be) (pR (rI x.To) (pR (rI x.Av) (rI x.Bu)));h
structure Tview where
 Bv:qg
 places:(List Tplace)
 links:(List qu)
 loads:(List Int)
 delays:(List (List Int))
 extras:(List Int)
instance gt_Tview:GoT Tview:=isoT (pairT gt_TBlock (pairT (@instList Tplace gt_Tplace) (pairT (@instList qu gt_TLink) (pairT (@instList Int instInt) (pairT (@instList (List Int) (@instList Int instInt)) (@instList Int instInt)))))) (fun x=>(x.Bv,x.places,x.links,x.loads,x.delays,x.extras)) ⟨(⟨(⟨[]⟩:qr),(⟨[],[],[]⟩:qf),[]⟩:qg),[],[],[],[],[]⟩ rfl true (fun h=>by cases h)
abbrev qxK (x:Tview) (p0 p1 p2 p3 p4 p5 p6 p7 p8 p9:Option Addr) (k0 k1 k2 k3 k4 k5 k6 k7 k8 k9:Nat):List Value:=[.slice p0 (x.Bv.Ar.Ap).length k0,.slice p1 (x.Bv.Aa.Ab).length k1,.slice p2 (x.Bv.Aa.Ai).length k2,.slice p3 (x.Bv.Aa.Ah).length k3,.slice p4 (x.Bv.Ac).length k4,.slice p5 (x.places).length k5,.slice p6 (x.links).length k6,.slice p7 (x.loads).length k7,.slice p8 (x.delays).length k8,.slice p9 (x.extras).length k9]
theorem qcE {x:Tview} {cs:List Value} (h:GoT.R w S x cs):∃ p0 k0 p1 k1 p2 k2 p3 k3 p4 k4 p5 k5 p6 k6 p7 k7 p8 k8 p9 k9,cs=(qxK x p0 p1 p2 p3 p4 p5 p6 p7 p8 p9 k0 k1 k2 k3 k4 k5 k6 k7 k8 k9)∧SlR w S x.Bv.Ar.Ap p0 k0∧SlR w S x.Bv.Aa.Ab p1 k1∧SlR w S x.Bv.Aa.Ai p2 k2∧SlR w S x.Bv.Aa.Ah p3 k3∧SlR w S x.Bv.Ac p4 k4∧SlR w S x.places p5 k5∧SlR w S x.links p6 k6∧SlR w S x.loads p7 k7∧SlR w S x.delays p8 k8∧SlR w S x.extras p9 k9:=by
 obtain ⟨_,_,rfl,⟨_,_,rfl,⟨p0,k0,rfl,s0⟩,⟨_,_,rfl,⟨_,_,rfl,⟨p1,k1,rfl,s1⟩,⟨_,_,rfl,⟨p2,k2,rfl,s2⟩,⟨p3,k3,rfl,s3⟩⟩⟩,⟨p4,k4,rfl,s4⟩⟩⟩,⟨_,_,rfl,⟨p5,k5,rfl,s5⟩,⟨_,_,rfl,⟨p6,k6,rfl,s6⟩,⟨_,_,rfl,⟨p7,k7,rfl,s7⟩,⟨_,_,rfl,⟨p8,k8,rfl,s8⟩,⟨p9,k9,rfl,s9⟩⟩⟩⟩⟩⟩:=h
 exact ⟨p0,k0,p1,k1,p2,k2,p3,k3,p4,k4,p5,k5,p6,k6,p7,k7,p8,k8,p9,k9,rfl,s0,s1,s2,s3,s4,s5,s6,s7,s8,s9⟩
structure Tgraph where
 view:(Option Tview)
 live:(List Bool)
instance gt_Tgraph:GoT Tgraph:=isoT (pairT (@instPtr Tview gt_Tview) (@instList Bool instBool)) (fun x=>(x.view,x.live)) ⟨none,[]⟩ rfl true (fun h=>by cases h)
abbrev qw9 (x:Tgraph) (p0 p1:Option Addr) (k1:Nat):List Value:=[.pointer p0,.slice p1 (x.live).length k1]
theorem qim {x:Tgraph} {cs:List Value} (h:GoT.R w S x cs):∃ p0 p1 k1,cs=(qw9 x p0 p1 k1)∧PtR w S x.view p0∧SlR w S x.live p1 k1:=by
 obtain ⟨_,_,rfl,t0,⟨p1,k1,rfl,s1⟩⟩:=h
 obtain ⟨p0,rfl,s0⟩:=qb0 t0
 exact ⟨p0,p1,k1,rfl,s0,s1⟩
structure TlatchSite where
 instance_:Int
 first:Int
 arc:Int
instance gt_TlatchSite:GoT TlatchSite:=isoT (pairT instInt (pairT instInt instInt)) (fun x=>(x.instance_,x.first,x.arc)) ⟨0,0,0⟩ rfl true (fun h=>by cases h)
instance fl_TlatchSite:Flat TlatchSite:=qfa (pairT instInt (pairT instInt instInt)) (fun x:TlatchSite=>(x.instance_,x.first,x.arc)) ⟨0,0,0⟩ rfl true (fun h=>by cases h) (qaC _ _ (inferInstanceAs (Flat Int)) (qaC _ _ (inferInstanceAs (Flat Int)) (inferInstanceAs (Flat Int))))
structure Tl05Place where
 instance_:Int
 pin:Int
 net:Int
 drives:Bool
instance gt_Tl05Place:GoT Tl05Place:=isoT (pairT instInt (pairT instInt (pairT instInt instBool))) (fun x=>(x.instance_,x.pin,x.net,x.drives)) ⟨0,0,0,false⟩ rfl true (fun h=>by cases h)
instance fl_Tl05Place:Flat Tl05Place:=qfa (pairT instInt (pairT instInt (pairT instInt instBool))) (fun x:Tl05Place=>(x.instance_,x.pin,x.net,x.drives)) ⟨0,0,0,false⟩ rfl true (fun h=>by cases h) (qaC _ _ (inferInstanceAs (Flat Int)) (qaC _ _ (inferInstanceAs (Flat Int)) (qaC _ _ (inferInstanceAs (Flat Int)) (inferInstanceAs (Flat Bool)))))
abbrev qlj (x:Tl05Place):List Value:=[.int .i64 x.instance_,.int .i64 x.pin,.int .i64 x.net,.bool x.drives]
theorem qbU {x:Tl05Place} {cs:List Value} (h:GoT.R w S x cs):cs=(qlj x):=by
 obtain ⟨_,_,rfl,rfl,⟨_,_,rfl,rfl,⟨_,_,rfl,rfl,rfl⟩⟩⟩:=h
 exact rfl
theorem qfn (x:Tl05Place):GoT.R w S x (qlj x):=have h:=pR (rI x.instance_) (pR (rI x.pin) (pR (rI x.net) (rB x.drives)));h
structure qN where
 e0:Int
 e1:Int
instance gt_TA2_Int:GoT qN:=isoT (pairT instInt instInt) (fun x=>(x.e0,x.e1)) ⟨0,0⟩ rfl true (fun h=>by cases h)
instance fl_TA2_Int:Flat qN:=qfa (pairT instInt instInt) (fun x:qN=>(x.e0,x.e1)) ⟨0,0⟩ rfl true (fun h=>by cases h) (qaC _ _ (inferInstanceAs (Flat Int)) (inferInstanceAs (Flat Int)))
abbrev qrT (x:qN):List Value:=[.int .i64 x.e0,.int .i64 x.e1]
theorem qsT {x:qN} {cs:List Value} (h:GoT.R w S x cs):cs=(qrT x):=by
 obtain ⟨_,_,rfl,rfl,rfl⟩:=h
 exact rfl
theorem qcY (x:qN):GoT.R w S x (qrT x):=have h:=pR (rI x.e0) (rI x.e1);h
structure Tweight where
 index:Int
 part:Int
instance gt_Tweight:GoT Tweight:=isoT (pairT instInt instInt) (fun x=>(x.index,x.part)) ⟨0,0⟩ rfl true (fun h=>by cases h)
instance fl_Tweight:Flat Tweight:=qfa (pairT instInt instInt) (fun x:Tweight=>(x.index,x.part)) ⟨0,0⟩ rfl true (fun h=>by cases h) (qaC _ _ (inferInstanceAs (Flat Int)) (inferInstanceAs (Flat Int)))
abbrev qpL (x:Tweight):List Value:=[.int .i64 x.index,.int .i64 x.part]
theorem qon {x:Tweight} {cs:List Value} (h:GoT.R w S x cs):cs=(qpL x):=by
 obtain ⟨_,_,rfl,rfl,rfl⟩:=h
 exact rfl
theorem qnm (x:Tweight):GoT.R w S x (qpL x):=have h:=pR (rI x.index) (rI x.part);h
def tab:Tab:=[
 (2,⟨.int .i64,1,8,some (.int .i64 0),[]⟩),
 (3,⟨.int .i64,1,8,some (.int .i64 0),[]⟩),
 (4,⟨.bool,1,1,some (.bool false),[]⟩),
 (5,⟨.int .u8,1,1,some (.int .u8 0),[]⟩),
 (9,⟨.str,1,16,some (.string ByteArray.empty),[]⟩),
 (22,⟨.slice 285,1,24,some (.slice none 0 0),[]⟩),
 (24,⟨.struct,1,24,some (.agg #[.slice none 0 0]),[(0,1,some false)]⟩),
 (25,⟨.slice 287,1,24,some (.slice none 0 0),[]⟩),
 (26,⟨.slice 9,1,24,some (.slice none 0 0),[]⟩),
 (27,⟨.slice 290,1,24,some (.slice none 0 0),[]⟩),
 (29,⟨.struct,3,72,some (.agg #[.slice none 0 0,.slice none 0 0,.slice none 0 0]),[(0,1,some false),(1,1,some false),(2,1,some false)]⟩),
 (30,⟨.slice 202,1,24,some (.slice none 0 0),[]⟩),
 (32,⟨.struct,5,120,some (.agg #[.slice none 0 0,.slice none 0 0,.slice none 0 0,.slice none 0 0,.slice none 0 0]),[(0,1,some true),(1,3,some true),(4,1,some false)]⟩),
 (33,⟨.slice 4,1,24,some (.slice none 0 0),[]⟩),
 (34,⟨.slice 142,1,24,some (.slice none 0 0),[]⟩),
 (36,⟨.struct,3,72,some (.agg #[.slice none 0 0,.slice none 0 0,.slice none 0 0]),[(0,1,some false),(1,1,some false),(2,1,some false)]⟩),
 (37,⟨.slice 113,1,24,some (.slice none 0 0),[]⟩),
 (41,⟨.slice 2,1,24,some (.slice none 0 0),[]⟩),
 (44,⟨.slice 251,1,24,some (.slice none 0 0),[]⟩),
 (46,⟨.struct,1,24,some (.agg #[.slice none 0 0]),[(0,1,some false)]⟩),
 (47,⟨.slice 174,1,24,some (.slice none 0 0),[]⟩),
 (48,⟨.slice 294,1,24,some (.slice none 0 0),[]⟩),
 (50,⟨.struct,3,72,some (.agg #[.slice none 0 0,.slice none 0 0,.slice none 0 0]),[(0,1,some false),(1,1,some false),(2,1,some false)]⟩),
 (51,⟨.slice 210,1,24,some (.slice none 0 0),[]⟩),
 (53,⟨.struct,5,120,some (.agg #[.slice none 0 0,.slice none 0 0,.slice none 0 0,.slice none 0 0,.slice none 0 0]),[(0,1,some true),(1,3,some true),(4,1,some false)]⟩),
 (55,⟨.slice 138,1,24,some (.slice none 0 0),[]⟩),
 (57,⟨.struct,3,72,some (.agg #[.slice none 0 0,.slice none 0 0,.slice none 0 0]),[(0,1,some false),(1,1,some false),(2,1,some false)]⟩),
 (59,⟨.slice 111,1,24,some (.slice none 0 0),[]⟩),
 (71,⟨.struct,5,48,some (.agg #[.string ByteArray.empty,.int .i64 0,.int .i64 0,.int .i64 0,.int .i64 0]),[(0,1,some false),(1,1,some false),(2,1,some false),(3,1,some false),(4,1,some false)]⟩),
 (72,⟨.slice 144,1,24,some (.slice none 0 0),[]⟩),
 (77,⟨.struct,5,48,some (.agg #[.string ByteArray.empty,.int .i64 0,.int .i64 0,.int .i64 0,.int .i64 0]),[(0,1,some false),(1,1,some false),(2,1,some false),(3,1,some false),(4,1,some false)]⟩),
 (80,⟨.slice 140,1,24,some (.slice none 0 0),[]⟩),
 (88,⟨.slice 172,1,24,some (.slice none 0 0),[]⟩),
 (89,⟨.slice 180,1,24,some (.slice none 0 0),[]⟩),
 (91,⟨.struct,2,48,some (.agg #[.slice none 0 0,.slice none 0 0]),[(0,1,some false),(1,1,some false)]⟩),
 (111,⟨.struct,3,24,some (.agg #[.int .i64 0,.int .i64 0,.int .i64 0]),[(0,1,some false),(1,1,some false),(2,1,some false)]⟩),
 (113,⟨.struct,3,24,some (.agg #[.int .i64 0,.int .i64 0,.int .i64 0]),[(0,1,some false),(1,1,some false),(2,1,some false)]⟩),
 (114,⟨.ptr,1,8,some (.pointer none),[]⟩),
 (138,⟨.struct,2,16,some (.agg #[.int .i64 0,.int .i64 0]),[(0,1,some false),(1,1,some false)]⟩),
 (140,⟨.struct,5,40,some (.agg #[.int .i64 0,.int .i64 0,.int .i64 0,.int .i64 0,.int .i64 0]),[(0,1,some false),(1,2,some true),(3,2,some true)]⟩),
 (142,⟨.struct,2,16,some (.agg #[.int .i64 0,.int .i64 0]),[(0,1,some false),(1,1,some false)]⟩),
 (144,⟨.struct,5,40,some (.agg #[.int .i64 0,.int .i64 0,.int .i64 0,.int .i64 0,.int .i64 0]),[(0,1,some false),(1,2,some true),(3,2,some true)]⟩),
 (150,⟨.struct,2,32,some (.agg #[.pointer none,.slice none 0 0]),[(0,1,some false),(1,1,some false)]⟩),
 (151,⟨.slice 244,1,24,some (.slice none 0 0),[]⟩),
 (152,⟨.slice 187,1,24,some (.slice none 0 0),[]⟩),
 (153,⟨.slice 41,1,24,some (.slice none 0 0),[]⟩),
 (155,⟨.struct,10,240,some (.agg #[.slice none 0 0,.slice none 0 0,.slice none 0 0,.slice none 0 0,.slice none 0 0,.slice none 0 0,.slice none 0 0,.slice none 0 0,.slice none 0 0,.slice none 0 0]),[(0,5,some true),(5,1,some false),(6,1,some false),(7,1,some false),(8,1,some false),(9,1,some false)]⟩),
 (172,⟨.struct,2,16,some (.agg #[.int .i64 0,.int .i64 0]),[(0,1,some false),(1,1,some false)]⟩),
 (174,⟨.struct,3,48,some (.agg #[.string ByteArray.empty,.int .i64 0,.slice none 0 0]),[(0,1,some false),(1,1,some false),(2,1,some false)]⟩),
 (180,⟨.struct,4,32,some (.agg #[.int .i64 0,.int .i64 0,.int .i64 0,.int .i64 0]),[(0,1,some false),(1,1,some false),(2,1,some false),(3,1,some false)]⟩),
 (183,⟨.slice 271,1,24,some (.slice none 0 0),[]⟩),
 (187,⟨.struct,4,32,some (.agg #[.int .i64 0,.int .i64 0,.int .i64 0,.int .i64 0]),[(0,1,some false),(1,1,some false),(2,1,some false),(3,1,some false)]⟩),
 (202,⟨.struct,4,96,some (.agg #[.slice none 0 0,.slice none 0 0,.slice none 0 0,.slice none 0 0]),[(0,1,some false),(1,1,some false),(2,1,some false),(3,1,some false)]⟩),
 (210,⟨.struct,4,96,some (.agg #[.slice none 0 0,.slice none 0 0,.slice none 0 0,.slice none 0 0]),[(0,1,some false),(1,1,some false),(2,1,some false),(3,1,some false)]⟩),
 (244,⟨.struct,4,32,some (.agg #[.int .i64 0,.int .i64 0,.int .i64 0,.bool false]),[(0,1,some false),(1,1,some false),(2,1,some false),(3,1,some false)]⟩),
 (246,⟨.ptr,1,8,some (.pointer none),[]⟩),
 (248,⟨.slice 340,1,24,some (.slice none 0 0),[]⟩),
 (249,⟨.slice 254,1,24,some (.slice none 0 0),[]⟩),
 (251,⟨.struct,7,112,some (.agg #[.string ByteArray.empty,.int .i64 0,.slice none 0 0,.slice none 0 0,.slice none 0 0,.int .i64 0,.int .i64 0]),[(0,1,some false),(1,1,some false),(2,1,some false),(3,1,some false),(4,1,some false),(5,1,some false),(6,1,some false)]⟩),
 (252,⟨.slice 329,1,24,some (.slice none 0 0),[]⟩),
 (254,⟨.struct,6,80,some (.agg #[.int .i64 0,.int .i64 0,.int .i64 0,.int .i64 0,.slice none 0 0,.slice none 0 0]),[(0,1,some false),(1,1,some false),(2,1,some false),(3,1,some false),(4,1,some false),(5,1,some false)]⟩),
 (258,⟨.slice 261,1,24,some (.slice none 0 0),[]⟩),
 (261,⟨.struct,4,32,some (.agg #[.int .i64 0,.int .i64 0,.int .i64 0,.bool false]),[(0,1,some false),(1,1,some false),(2,1,some false),(3,1,some false)]⟩),
 (271,⟨.struct,3,24,some (.agg #[.int .i64 0,.int .i64 0,.int .i64 0]),[(0,1,some false),(1,1,some false),(2,1,some false)]⟩),
 (273,⟨.slice 3,1,24,some (.slice none 0 0),[]⟩),
 (282,⟨.slice 371,1,24,some (.slice none 0 0),[]⟩),
 (283,⟨.slice 375,1,24,some (.slice none 0 0),[]⟩),
 (285,⟨.struct,7,112,some (.agg #[.string ByteArray.empty,.int .i64 0,.slice none 0 0,.slice none 0 0,.slice none 0 0,.int .i64 0,.int .i64 0]),[(0,1,some false),(1,1,some false),(2,1,some false),(3,1,some false),(4,1,some false),(5,1,some false),(6,1,some false)]⟩),
 (287,⟨.struct,3,48,some (.agg #[.string ByteArray.empty,.int .i64 0,.slice none 0 0]),[(0,1,some false),(1,1,some false),(2,1,some false)]⟩),
 (290,⟨.struct,3,32,some (.agg #[.string ByteArray.empty,.int .i64 0,.int .i64 0]),[(0,1,some false),(1,1,some false),(2,1,some false)]⟩),
 (294,⟨.struct,3,32,some (.agg #[.string ByteArray.empty,.int .i64 0,.int .i64 0]),[(0,1,some false),(1,1,some false),(2,1,some false)]⟩),
 (329,⟨.struct,3,72,some (.agg #[.slice none 0 0,.slice none 0 0,.slice none 0 0]),[(0,1,some false),(1,1,some false),(2,1,some false)]⟩),
 (333,⟨.slice 335,1,24,some (.slice none 0 0),[]⟩),
 (335,⟨.arr 2 2,2,16,some (.agg #[.int .i64 0,.int .i64 0]),[]⟩),
 (340,⟨.struct,4,40,some (.agg #[.string ByteArray.empty,.int .i64 0,.int .i64 0,.bool false]),[(0,1,some false),(1,1,some false),(2,1,some false),(3,1,some false)]⟩),
 (348,⟨.slice 5,1,24,some (.slice none 0 0),[]⟩),
 (371,⟨.struct,4,40,some (.agg #[.string ByteArray.empty,.int .i64 0,.int .i64 0,.bool false]),[(0,1,some false),(1,1,some false),(2,1,some false),(3,1,some false)]⟩),
 (373,⟨.slice 408,1,24,some (.slice none 0 0),[]⟩),
 (375,⟨.struct,6,80,some (.agg #[.int .i64 0,.int .i64 0,.int .i64 0,.int .i64 0,.slice none 0 0,.slice none 0 0]),[(0,1,some false),(1,1,some false),(2,1,some false),(3,1,some false),(4,1,some false),(5,1,some false)]⟩),
 (384,⟨.int .u64,1,8,some (.int .u64 0),[]⟩),
 (393,⟨.slice 397,1,24,some (.slice none 0 0),[]⟩),
 (397,⟨.struct,2,16,some (.agg #[.int .i64 0,.int .i64 0]),[(0,1,some false),(1,1,some false)]⟩),
 (408,⟨.struct,3,72,some (.agg #[.slice none 0 0,.slice none 0 0,.slice none 0 0]),[(0,1,some false),(1,1,some false),(2,1,some false)]⟩)]
theorem qa:TabOk Tryz.prog tab:=TabOk.mk (by kernel_rfl)
theorem rp {n:Nat} {Q:Exit→Act→World→Prop} {k:List It} {e:Env} {w:World} {all:Array Oper} {l:List Oper} {op:Op} {d t:Nat} {ps:String} {af:Array Edge} {v:Value}
  (h:pev tab e op=some v) (hn:Nat.blt d n=true) (hk:Run Tryz.prog n Q (.ops all l::k) ((d,v)::e) w):Run Tryz.prog n Q (.ops all (⟨some d,op,t,ps,af,none⟩::l)::k) e w:=r_p qa h hn hk
theorem dp {n:Nat} {Q:Exit→Act→World→Prop} {k:List It} {e:Env} {w:World} {all:Array Oper} {l:List Oper} {op:Op} {d t:Nat} {ps:String} {af:Array Edge} {v:Value}
  (h:pev tab e op=some v) (hn:Nat.blt d n=true) (hk:RunD Tryz.prog n Q k all w l ((d,v)::e)):RunD Tryz.prog n Q k all w (⟨some d,op,t,ps,af,none⟩::l) e:=d_p qa h hn hk
section
variable {P:Program} {n:Nat} {Q:Exit→Act→World→Prop} {k:List It} {e:Env} {w:World}
theorem zSR {i4:Nat} {o5:List Oper} {x3:Code} (h:Run P n Q (.ops o5.toArray o5::.code x3::k) e w):Run P n Q (.code (.seq (.region i4 o5.toArray false) x3)::k) e w:=qc0 <| qlW h
theorem zKSR {i5:Nat} {o6:List Oper} {x4:Code} (h:Run P n Q (.ops o6.toArray o6::.code x4::k) e w):Run P n Q (.code .skip::.code (.seq (.region i5 o6.toArray false) x4)::k) e w:=qhE <| qc0 <| qlW h
theorem zNSR {a1:Array Oper} {i5:Nat} {o6:List Oper} {x4:Code} (h:Run P n Q (.ops o6.toArray o6::.code x4::k) e w):Run P n Q (.ops a1 []::.code (.seq (.region i5 o6.toArray false) x4)::k) e w:=qc6 <| qc0 <| qlW h
theorem zKS {x3:Code} {x4:Code} (h:Run P n Q (.code x3::.code x4::k) e w):Run P n Q (.code .skip::.code (.seq x3 x4)::k) e w:=qhE <| qc0 h
theorem zNS {a1:Array Oper} {x3:Code} {x4:Code} (h:Run P n Q (.code x3::.code x4::k) e w):Run P n Q (.ops a1 []::.code (.seq x3 x4)::k) e w:=qc6 <| qc0 h
theorem zNSS {a1:Array Oper} {x5:Code} {x6:Code} {x4:Code} (h:Run P n Q (.code x5::.code x6::.code x4::k) e w):Run P n Q (.ops a1 []::.code (.seq (.seq x5 x6) x4)::k) e w:=qc6 <| qc0 <| qc0 h
theorem zKSB {i5:Nat} {x6:Code} {x4:Code} (h:Run P n Q (.code x6::.blk i5::.code x4::k) e w):Run P n Q (.code .skip::.code (.seq (.block i5 x6) x4)::k) e w:=qhE <| qc0 <| qm h
theorem zKSBSR {i5:Nat} {i9:Nat} {o10:List Oper} {x8:Code} {x4:Code} (h:Run P n Q (.ops o10.toArray o10::.code x8::.blk i5::.code x4::k) e w):Run P n Q (.code .skip::.code (.seq (.block i5 (.seq (.region i9 o10.toArray false) x8)) x4)::k) e w:=qhE <| qc0 <| qm <| qc0 <| qlW h
theorem zSS {x4:Code} {x5:Code} {x3:Code} (h:Run P n Q (.code x4::.code x5::.code x3::k) e w):Run P n Q (.code (.seq (.seq x4 x5) x3)::k) e w:=qc0 <| qc0 h
theorem zKSS {x5:Code} {x6:Code} {x4:Code} (h:Run P n Q (.code x5::.code x6::.code x4::k) e w):Run P n Q (.code .skip::.code (.seq (.seq x5 x6) x4)::k) e w:=qhE <| qc0 <| qc0 h
end
section
variable {w0 w:World} {L:List Ch} {n:Nat} {Q:Exit→Act→World→Prop} {k k':List It} {e e':Env} {all:Array Oper} {l l':List Oper} {z:List Nat}
theorem X0 (m:Nat) (hh:xs tab n m [] k e [] []=some (k',e',z,z)) (hk:Run Tryz.prog n Q k' e' w):Run Tryz.prog n Q k e w:=((qtz (P:=Tryz.prog) (Q:=Q) (w:=w) qa m _ _ _ _ _ _ _ _ _ (fun _ h=>by cases h) rfl hh).2 rfl).2 hk
theorem Y0 (m:Nat) (hh:xd tab n all m [] l e [] []=some (l',e',z,z)) (hk:RunD Tryz.prog n Q k all w l' e'):RunD Tryz.prog n Q k all w l e:=((qyF (P:=Tryz.prog) (Q:=Q) (k:=k) (w:=w) (all:=all) qa m _ _ _ _ _ _ _ _ _ (fun _ h=>by cases h) rfl hh).2 rfl).2 hk
theorem X1 (m:Nat) (i0:Nat) {b0 t0:Nat} {cs0:List Value} (h:SH w0 w L) (hh:(L[i0]?,xs tab n m [(b0,cs0)] k e [] [])=(some (Ch.box b0 cs0 t0),some (k',e',z,z))) (hk:Run Tryz.prog n Q k' e' w):Run Tryz.prog n Q k e w:=by
 simp only [Prod.mk.injEq] at hh
 exact ((qtz (P:=Tryz.prog) (Q:=Q) (w:=w) qa m _ _ _ _ _ _ _ _ _ (fun p hp=>by
  simp only [jW,jN,or_false] at hp
  rcases hp with rfl
  ·exact h.box i0 hh.1) rfl hh.2).2 rfl).2 hk
theorem Y1 (m:Nat) (i0:Nat) {b0 t0:Nat} {cs0:List Value} (h:SH w0 w L) (hh:(L[i0]?,xd tab n all m [(b0,cs0)] l e [] [])=(some (Ch.box b0 cs0 t0),some (l',e',z,z))) (hk:RunD Tryz.prog n Q k all w l' e'):RunD Tryz.prog n Q k all w l e:=by
 simp only [Prod.mk.injEq] at hh
 exact ((qyF (P:=Tryz.prog) (Q:=Q) (k:=k) (w:=w) (all:=all) qa m _ _ _ _ _ _ _ _ _ (fun p hp=>by
  simp only [jW,jN,or_false] at hp
  rcases hp with rfl
  ·exact h.box i0 hh.1) rfl hh.2).2 rfl).2 hk
theorem X2 (m:Nat) (i0 i1:Nat) {b0 t0:Nat} {cs0:List Value} {b1 t1:Nat} {cs1:List Value} (h:SH w0 w L) (hh:(L[i0]?,L[i1]?,xs tab n m [(b0,cs0),(b1,cs1)] k e [] [])=(some (Ch.box b0 cs0 t0),some (Ch.box b1 cs1 t1),some (k',e',z,z))) (hk:Run Tryz.prog n Q k' e' w):Run Tryz.prog n Q k e w:=by
 simp only [Prod.mk.injEq] at hh
 exact ((qtz (P:=Tryz.prog) (Q:=Q) (w:=w) qa m _ _ _ _ _ _ _ _ _ (fun p hp=>by
  simp only [jW,jN,or_false] at hp
  rcases hp with rfl|rfl
  ·exact h.box i0 hh.1
  ·exact h.box i1 hh.2.1) rfl hh.2.2).2 rfl).2 hk
theorem X3 (m:Nat) (i0 i1 i2:Nat) {b0 t0:Nat} {cs0:List Value} {b1 t1:Nat} {cs1:List Value} {b2 t2:Nat} {cs2:List Value} (h:SH w0 w L) (hh:(L[i0]?,L[i1]?,L[i2]?,xs tab n m [(b0,cs0),(b1,cs1),(b2,cs2)] k e [] [])=(some (Ch.box b0 cs0 t0),some (Ch.box b1 cs1 t1),some (Ch.box b2 cs2 t2),some (k',e',z,z))) (hk:Run Tryz.prog n Q k' e' w):Run Tryz.prog n Q k e w:=by
 simp only [Prod.mk.injEq] at hh
 exact ((qtz (P:=Tryz.prog) (Q:=Q) (w:=w) qa m _ _ _ _ _ _ _ _ _ (fun p hp=>by
  simp only [jW,jN,or_false] at hp
  rcases hp with rfl|rfl|rfl
  ·exact h.box i0 hh.1
  ·exact h.box i1 hh.2.1
  ·exact h.box i2 hh.2.2.1) rfl hh.2.2.2).2 rfl).2 hk
theorem X4 (m:Nat) (i0 i1 i2 i3:Nat) {b0 t0:Nat} {cs0:List Value} {b1 t1:Nat} {cs1:List Value} {b2 t2:Nat} {cs2:List Value} {b3 t3:Nat} {cs3:List Value} (h:SH w0 w L) (hh:(L[i0]?,L[i1]?,L[i2]?,L[i3]?,xs tab n m [(b0,cs0),(b1,cs1),(b2,cs2),(b3,cs3)] k e [] [])=(some (Ch.box b0 cs0 t0),some (Ch.box b1 cs1 t1),some (Ch.box b2 cs2 t2),some (Ch.box b3 cs3 t3),some (k',e',z,z))) (hk:Run Tryz.prog n Q k' e' w):Run Tryz.prog n Q k e w:=by
 simp only [Prod.mk.injEq] at hh
 exact ((qtz (P:=Tryz.prog) (Q:=Q) (w:=w) qa m _ _ _ _ _ _ _ _ _ (fun p hp=>by
  simp only [jW,jN,or_false] at hp
  rcases hp with rfl|rfl|rfl|rfl
  ·exact h.box i0 hh.1
  ·exact h.box i1 hh.2.1
  ·exact h.box i2 hh.2.2.1
  ·exact h.box i3 hh.2.2.2.1) rfl hh.2.2.2.2).2 rfl).2 hk
end
section
variable {w0 w:World} {L:List Ch} {n:Nat} {Q:Exit→Act→World→Prop} {k:List It} {e:Env} {all:Array Oper} {l:List Oper}
theorem zp1 {op0:Op} {d0 t0:Nat} {s0:String} {f0:Array Edge} {v0:Value} (h:(pev tab (e) op0,Nat.blt d0 n)=(some v0,true)) (hk:Run Tryz.prog n Q (.ops all l::k) ((d0,v0)::e) w):Run Tryz.prog n Q (.ops all (⟨some d0,op0,t0,s0,f0,none⟩::l)::k) e w:=by
 have H:=h
 simp only [Prod.mk.injEq] at H
 exact rp (H.1) (H.2) (hk)
theorem zd1 {op0:Op} {d0 t0:Nat} {s0:String} {f0:Array Edge} {v0:Value} (h:(pev tab (e) op0,Nat.blt d0 n)=(some v0,true)) (hk:RunD Tryz.prog n Q k all w l ((d0,v0)::e)):RunD Tryz.prog n Q k all w (⟨some d0,op0,t0,s0,f0,none⟩::l) e:=by
 have H:=h
 simp only [Prod.mk.injEq] at H
 exact dp (H.1) (H.2) (hk)
theorem zp2 {op0:Op} {d0 t0:Nat} {s0:String} {f0:Array Edge} {v0:Value} {op1:Op} {d1 t1:Nat} {s1:String} {f1:Array Edge} {v1:Value} (h:(pev tab (e) op0,Nat.blt d0 n,pev tab ((d0,v0)::e) op1,Nat.blt d1 n)=(some v0,true,some v1,true)) (hk:Run Tryz.prog n Q (.ops all l::k) ((d1,v1)::(d0,v0)::e) w):Run Tryz.prog n Q (.ops all (⟨some d0,op0,t0,s0,f0,none⟩::⟨some d1,op1,t1,s1,f1,none⟩::l)::k) e w:=by
 have H:=h
 simp only [Prod.mk.injEq] at H
 exact rp (H.1) (H.2.1) (rp (H.2.2.1) (H.2.2.2) (hk))
theorem zd2 {op0:Op} {d0 t0:Nat} {s0:String} {f0:Array Edge} {v0:Value} {op1:Op} {d1 t1:Nat} {s1:String} {f1:Array Edge} {v1:Value} (h:(pev tab (e) op0,Nat.blt d0 n,pev tab ((d0,v0)::e) op1,Nat.blt d1 n)=(some v0,true,some v1,true)) (hk:RunD Tryz.prog n Q k all w l ((d1,v1)::(d0,v0)::e)):RunD Tryz.prog n Q k all w (⟨some d0,op0,t0,s0,f0,none⟩::⟨some d1,op1,t1,s1,f1,none⟩::l) e:=by
 have H:=h
 simp only [Prod.mk.injEq] at H
 exact dp (H.1) (H.2.1) (dp (H.2.2.1) (H.2.2.2) (hk))
theorem zp3 {op0:Op} {d0 t0:Nat} {s0:String} {f0:Array Edge} {v0:Value} {op1:Op} {d1 t1:Nat} {s1:String} {f1:Array Edge} {v1:Value} {op2:Op} {d2 t2:Nat} {s2:String} {f2:Array Edge} {v2:Value} (h:(pev tab (e) op0,Nat.blt d0 n,pev tab ((d0,v0)::e) op1,Nat.blt d1 n,pev tab ((d1,v1)::(d0,v0)::e) op2,Nat.blt d2 n)=(some v0,true,some v1,true,some v2,true)) (hk:Run Tryz.prog n Q (.ops all l::k) ((d2,v2)::(d1,v1)::(d0,v0)::e) w):Run Tryz.prog n Q (.ops all (⟨some d0,op0,t0,s0,f0,none⟩::⟨some d1,op1,t1,s1,f1,none⟩::⟨some d2,op2,t2,s2,f2,none⟩::l)::k) e w:=by
 have H:=h
 simp only [Prod.mk.injEq] at H
 exact rp (H.1) (H.2.1) (rp (H.2.2.1) (H.2.2.2.1) (rp (H.2.2.2.2.1) (H.2.2.2.2.2) (hk)))
theorem zd3 {op0:Op} {d0 t0:Nat} {s0:String} {f0:Array Edge} {v0:Value} {op1:Op} {d1 t1:Nat} {s1:String} {f1:Array Edge} {v1:Value} {op2:Op} {d2 t2:Nat} {s2:String} {f2:Array Edge} {v2:Value} (h:(pev tab (e) op0,Nat.blt d0 n,pev tab ((d0,v0)::e) op1,Nat.blt d1 n,pev tab ((d1,v1)::(d0,v0)::e) op2,Nat.blt d2 n)=(some v0,true,some v1,true,some v2,true)) (hk:RunD Tryz.prog n Q k all w l ((d2,v2)::(d1,v1)::(d0,v0)::e)):RunD Tryz.prog n Q k all w (⟨some d0,op0,t0,s0,f0,none⟩::⟨some d1,op1,t1,s1,f1,none⟩::⟨some d2,op2,t2,s2,f2,none⟩::l) e:=by
 have H:=h
 simp only [Prod.mk.injEq] at H
 exact dp (H.1) (H.2.1) (dp (H.2.2.1) (H.2.2.2.1) (dp (H.2.2.2.2.1) (H.2.2.2.2.2) (hk)))
theorem zp4 {op0:Op} {d0 t0:Nat} {s0:String} {f0:Array Edge} {v0:Value} {op1:Op} {d1 t1:Nat} {s1:String} {f1:Array Edge} {v1:Value} {op2:Op} {d2 t2:Nat} {s2:String} {f2:Array Edge} {v2:Value} {op3:Op} {d3 t3:Nat} {s3:String} {f3:Array Edge} {v3:Value} (h:(pev tab (e) op0,Nat.blt d0 n,pev tab ((d0,v0)::e) op1,Nat.blt d1 n,pev tab ((d1,v1)::(d0,v0)::e) op2,Nat.blt d2 n,pev tab ((d2,v2)::(d1,v1)::(d0,v0)::e) op3,Nat.blt d3 n)=(some v0,true,some v1,true,some v2,true,some v3,true)) (hk:Run Tryz.prog n Q (.ops all l::k) ((d3,v3)::(d2,v2)::(d1,v1)::(d0,v0)::e) w):Run Tryz.prog n Q (.ops all (⟨some d0,op0,t0,s0,f0,none⟩::⟨some d1,op1,t1,s1,f1,none⟩::⟨some d2,op2,t2,s2,f2,none⟩::⟨some d3,op3,t3,s3,f3,none⟩::l)::k) e w:=by
 have H:=h
 simp only [Prod.mk.injEq] at H
 exact rp (H.1) (H.2.1) (rp (H.2.2.1) (H.2.2.2.1) (rp (H.2.2.2.2.1) (H.2.2.2.2.2.1) (rp (H.2.2.2.2.2.2.1) (H.2.2.2.2.2.2.2) (hk))))
theorem zd4 {op0:Op} {d0 t0:Nat} {s0:String} {f0:Array Edge} {v0:Value} {op1:Op} {d1 t1:Nat} {s1:String} {f1:Array Edge} {v1:Value} {op2:Op} {d2 t2:Nat} {s2:String} {f2:Array Edge} {v2:Value} {op3:Op} {d3 t3:Nat} {s3:String} {f3:Array Edge} {v3:Value} (h:(pev tab (e) op0,Nat.blt d0 n,pev tab ((d0,v0)::e) op1,Nat.blt d1 n,pev tab ((d1,v1)::(d0,v0)::e) op2,Nat.blt d2 n,pev tab ((d2,v2)::(d1,v1)::(d0,v0)::e) op3,Nat.blt d3 n)=(some v0,true,some v1,true,some v2,true,some v3,true)) (hk:RunD Tryz.prog n Q k all w l ((d3,v3)::(d2,v2)::(d1,v1)::(d0,v0)::e)):RunD Tryz.prog n Q k all w (⟨some d0,op0,t0,s0,f0,none⟩::⟨some d1,op1,t1,s1,f1,none⟩::⟨some d2,op2,t2,s2,f2,none⟩::⟨some d3,op3,t3,s3,f3,none⟩::l) e:=by
 have H:=h
 simp only [Prod.mk.injEq] at H
 exact dp (H.1) (H.2.1) (dp (H.2.2.1) (H.2.2.2.1) (dp (H.2.2.2.2.1) (H.2.2.2.2.2.1) (dp (H.2.2.2.2.2.2.1) (H.2.2.2.2.2.2.2) (hk))))
theorem zp5 {op0:Op} {d0 t0:Nat} {s0:String} {f0:Array Edge} {v0:Value} {op1:Op} {d1 t1:Nat} {s1:String} {f1:Array Edge} {v1:Value} {op2:Op} {d2 t2:Nat} {s2:String} {f2:Array Edge} {v2:Value} {op3:Op} {d3 t3:Nat} {s3:String} {f3:Array Edge} {v3:Value} {op4:Op} {d4 t4:Nat} {s4:String} {f4:Array Edge} {v4:Value} (h:(pev tab (e) op0,Nat.blt d0 n,pev tab ((d0,v0)::e) op1,Nat.blt d1 n,pev tab ((d1,v1)::(d0,v0)::e) op2,Nat.blt d2 n,pev tab ((d2,v2)::(d1,v1)::(d0,v0)::e) op3,Nat.blt d3 n,pev tab ((d3,v3)::(d2,v2)::(d1,v1)::(d0,v0)::e) op4,Nat.blt d4 n)=(some v0,true,some v1,true,some v2,true,some v3,true,some v4,true)) (hk:Run Tryz.prog n Q (.ops all l::k) ((d4,v4)::(d3,v3)::(d2,v2)::(d1,v1)::(d0,v0)::e) w):Run Tryz.prog n Q (.ops all (⟨some d0,op0,t0,s0,f0,none⟩::⟨some d1,op1,t1,s1,f1,none⟩::⟨some d2,op2,t2,s2,f2,none⟩::⟨some d3,op3,t3,s3,f3,none⟩::⟨some d4,op4,t4,s4,f4,none⟩::l)::k) e w:=by
 have H:=h
 simp only [Prod.mk.injEq] at H
 exact rp (H.1) (H.2.1) (rp (H.2.2.1) (H.2.2.2.1) (rp (H.2.2.2.2.1) (H.2.2.2.2.2.1) (rp (H.2.2.2.2.2.2.1) (H.2.2.2.2.2.2.2.1) (rp (H.2.2.2.2.2.2.2.2.1) (H.2.2.2.2.2.2.2.2.2) (hk)))))
theorem zd5 {op0:Op} {d0 t0:Nat} {s0:String} {f0:Array Edge} {v0:Value} {op1:Op} {d1 t1:Nat} {s1:String} {f1:Array Edge} {v1:Value} {op2:Op} {d2 t2:Nat} {s2:String} {f2:Array Edge} {v2:Value} {op3:Op} {d3 t3:Nat} {s3:String} {f3:Array Edge} {v3:Value} {op4:Op} {d4 t4:Nat} {s4:String} {f4:Array Edge} {v4:Value} (h:(pev tab (e) op0,Nat.blt d0 n,pev tab ((d0,v0)::e) op1,Nat.blt d1 n,pev tab ((d1,v1)::(d0,v0)::e) op2,Nat.blt d2 n,pev tab ((d2,v2)::(d1,v1)::(d0,v0)::e) op3,Nat.blt d3 n,pev tab ((d3,v3)::(d2,v2)::(d1,v1)::(d0,v0)::e) op4,Nat.blt d4 n)=(some v0,true,some v1,true,some v2,true,some v3,true,some v4,true)) (hk:RunD Tryz.prog n Q k all w l ((d4,v4)::(d3,v3)::(d2,v2)::(d1,v1)::(d0,v0)::e)):RunD Tryz.prog n Q k all w (⟨some d0,op0,t0,s0,f0,none⟩::⟨some d1,op1,t1,s1,f1,none⟩::⟨some d2,op2,t2,s2,f2,none⟩::⟨some d3,op3,t3,s3,f3,none⟩::⟨some d4,op4,t4,s4,f4,none⟩::l) e:=by
 have H:=h
 simp only [Prod.mk.injEq] at H
 exact dp (H.1) (H.2.1) (dp (H.2.2.1) (H.2.2.2.1) (dp (H.2.2.2.2.1) (H.2.2.2.2.2.1) (dp (H.2.2.2.2.2.2.1) (H.2.2.2.2.2.2.2.1) (dp (H.2.2.2.2.2.2.2.2.1) (H.2.2.2.2.2.2.2.2.2) (hk)))))
theorem zl (i j:Nat) {d t ty:Nat} {x:Operand} {te:TE} {ps:String} {af:Array Edge} {v:Value} {b:Nat} {cs:List Value} {t':TypeId} (h:SH w0 w L) (hh:(L[i]?,opv e x,tab.get t,ld te cs j,Nat.blt d n)=(some (Ch.box b cs t'),some (.pointer (some ⟨b,0+j,none⟩)),some te,some v,true))
  (hk:Run Tryz.prog n Q (.ops all l::k) ((d,v)::e) w):Run Tryz.prog n Q (.ops all (⟨some d,.load t x,ty,ps,af,none⟩::l)::k) e w:=by
 simp only [Prod.mk.injEq] at hh
 exact r_v (qjE qa (h.box i hh.1) (j:=j) hh.2.1 hh.2.2.1 hh.2.2.2.1) hh.2.2.2.2 hk
theorem zc (j:Nat) {d t ty:Nat} {x:Operand} {te:TE} {ps:String} {af:Array Edge} {v:Value} {b o:Nat} {cs:List Value} (h:CellsAt w b o cs) (hh:(opv e x,tab.get t,ld te cs j,Nat.blt d n)=(some (.pointer (some ⟨b,o+j,none⟩)),some te,some v,true))
  (hk:Run Tryz.prog n Q (.ops all l::k) ((d,v)::e) w):Run Tryz.prog n Q (.ops all (⟨some d,.load t x,ty,ps,af,none⟩::l)::k) e w:=by
 simp only [Prod.mk.injEq] at hh
 exact r_v (qjE qa h (j:=j) hh.1 hh.2.1 hh.2.2.1) hh.2.2.2 hk
theorem zdc (j:Nat) {d t ty:Nat} {x:Operand} {te:TE} {ps:String} {af:Array Edge} {v:Value} {b o:Nat} {cs:List Value} (h:CellsAt w b o cs) (hh:(opv e x,tab.get t,ld te cs j,Nat.blt d n)=(some (.pointer (some ⟨b,o+j,none⟩)),some te,some v,true))
  (hk:RunD Tryz.prog n Q k all w l ((d,v)::e)):RunD Tryz.prog n Q k all w (⟨some d,.load t x,ty,ps,af,none⟩::l) e:=by
 simp only [Prod.mk.injEq] at hh
 exact d_v (fun _ hb=>qjE qa (h.below hb) (j:=j) hh.1 hh.2.1 hh.2.2.1) hh.2.2.2 hk
theorem zx {x i:Operand} {t ty d el m:Nat} {te te1:TE} {ps:String} {af:Array Edge} {p:Option Addr} {ln c:Nat} {kd:IntKind} {iv:Int} {b o q:Nat} (hp:p=some ⟨b,o,none⟩) (hq:q=o+iv.toNat*m) (hlt:0≤iv∧iv<ln) (hh:(opv e x,opv e i,tab.get t,te.kind,tab.get el,te1.size,Nat.blt d n)=(some (.slice p ln c),some (.int kd iv),some te,TK.slice el,some te1,m,true)) (hk:Run Tryz.prog n Q (.ops all l::k) ((d,.pointer (some ⟨b,q,none⟩))::e) w):Run Tryz.prog n Q (.ops all (⟨some d,.indexAddr t x i,ty,ps,af,none⟩::l)::k) e w:=by
 simp only [Prod.mk.injEq] at hh
 exact r_v (qwn qa hp hq hlt hh.1 hh.2.1 hh.2.2.1 hh.2.2.2.1 hh.2.2.2.2.1 hh.2.2.2.2.2.1) hh.2.2.2.2.2.2 hk
theorem zxe {x i:Operand} {t ty d el m:Nat} {te te1:TE} {ps:String} {af:Array Edge} {p:Option Addr} {ln c:Nat} {kd:IntKind} {iv:Int} {b o q:Nat} {α:Prop} (hp:p=some ⟨b,o,none⟩) (hq:q=o+iv.toNat*m) (hlt:0≤iv∧iv<ln∧α) (hh:(opv e x,opv e i,tab.get t,te.kind,tab.get el,te1.size,Nat.blt d n)=(some (.slice p ln c),some (.int kd iv),some te,TK.slice el,some te1,m,true)) (hk:Run Tryz.prog n Q (.ops all l::k) ((d,.pointer (some ⟨b,q,none⟩))::e) w):Run Tryz.prog n Q (.ops all (⟨some d,.indexAddr t x i,ty,ps,af,none⟩::l)::k) e w:=zx hp hq ⟨hlt.1,hlt.2.1⟩ hh hk
theorem zdx {x i:Operand} {t ty d el m:Nat} {te te1:TE} {ps:String} {af:Array Edge} {p:Option Addr} {ln c:Nat} {kd:IntKind} {iv:Int} {b o q:Nat} (hp:p=some ⟨b,o,none⟩) (hq:q=o+iv.toNat*m) (hlt:0≤iv∧iv<ln) (hh:(opv e x,opv e i,tab.get t,te.kind,tab.get el,te1.size,Nat.blt d n)=(some (.slice p ln c),some (.int kd iv),some te,TK.slice el,some te1,m,true)) (hk:RunD Tryz.prog n Q k all w l ((d,.pointer (some ⟨b,q,none⟩))::e)):RunD Tryz.prog n Q k all w (⟨some d,.indexAddr t x i,ty,ps,af,none⟩::l) e:=by
 simp only [Prod.mk.injEq] at hh
 exact d_v (fun _ _=>qwn qa hp hq hlt hh.1 hh.2.1 hh.2.2.1 hh.2.2.2.1 hh.2.2.2.2.1 hh.2.2.2.2.2.1) hh.2.2.2.2.2.2 hk
theorem zdxe {x i:Operand} {t ty d el m:Nat} {te te1:TE} {ps:String} {af:Array Edge} {p:Option Addr} {ln c:Nat} {kd:IntKind} {iv:Int} {b o q:Nat} {α:Prop} (hp:p=some ⟨b,o,none⟩) (hq:q=o+iv.toNat*m) (hlt:0≤iv∧iv<ln∧α) (hh:(opv e x,opv e i,tab.get t,te.kind,tab.get el,te1.size,Nat.blt d n)=(some (.slice p ln c),some (.int kd iv),some te,TK.slice el,some te1,m,true)) (hk:RunD Tryz.prog n Q k all w l ((d,.pointer (some ⟨b,q,none⟩))::e)):RunD Tryz.prog n Q k all w (⟨some d,.indexAddr t x i,ty,ps,af,none⟩::l) e:=zdx hp hq ⟨hlt.1,hlt.2.1⟩ hh hk
theorem zs (i:Nat) {t ty:Nat} {ps:String} {af:Array Edge} {x v:Operand} {te:TE} {b j:Nat} {cs us cs':List Value} {t':TypeId} {u:Value} {L':List Ch} (h:SH w0 w L)
  (hh:(L[i]?,opv e x,opv e v,cellsL u,tab.get t,Nat.beq us.length te.size,Nat.ble (j+us.length) cs.length,ones us,splN cs j us,setN L i (Ch.box b cs' t'))=(some (Ch.box b cs t'),some (.pointer (some ⟨b,j,none⟩)),some u,us,some te,true,true,true,some cs',some L'))
  (hk:∀ w',SH w0 w' L'→Run Tryz.prog n Q (.ops all l::k) e w'):Run Tryz.prog n Q (.ops all (⟨none,.store t x v,ty,ps,af,none⟩::l)::k) e w:=by
 simp only [Prod.mk.injEq] at hh
 obtain ⟨h1,h2,h3,h4,h5,h6,h7,h8,h9,h10⟩:=hh
 subst h4
 have e1:=qst h9
 have e2:=qu8 h10
 subst e1 e2
 exact qyd qa i h h1 h2 h3 h5 h6 h7 h8 hk
end
section
variable {P:Program} {fnc:Func} {R:Ending→World→Prop} {n:Nat} {k:List It} {e:Env} {w0 w:World} {ops:Array Oper} {st:List Nat} {fuel:Nat}
theorem M0 (K:Nat) (is:List Nat) {C:World→Prop} {m K0 f f':Nat} {e':Env} {z:List Nat} (hC:C w) (hh:xa tab n ops is [] f e [] []=some (f',e',z,z))
  (hk:RunA Tryz.prog n (bodyPost Tryz.prog fnc R) k ops st C f' (bits m K) e' w) (ho:oka ops st is (bits m K0) (bits m K)=true:=by kernel_rfl):RunA Tryz.prog n (bodyPost Tryz.prog fnc R) k ops st C f (bits m K0) e w:=by
 exact ((qtG (C:=C) (w:=w) (P:=Tryz.prog) qa hC is _ _ _ _ _ _ _ _ _ _ _ (fun _ h=>by cases h) rfl hh ho).2 rfl).2 hk
theorem G0 (K:Nat) (is:List Nat) {C:World→Prop} {m K0 f f':Nat} {e':Env} {z:List Nat} {all:Array Oper} (hC:C w) (hh:xa tab n ops is [] f e [] []=some (f',e',z,z))
  (hk:RunA Tryz.prog n (bodyPost Tryz.prog fnc R) k ops st C f' (bits m K) e' w) (ho:oka ops st is (bits m K0) (bits m K)=true:=by kernel_rfl):Run Tryz.prog n (bodyPost Tryz.prog fnc R) (.ops all []::.goal (NextA Tryz.prog n (bodyPost Tryz.prog fnc R) k ops st C f (bits m K0))::k) e w :=
 Ag hC (M0 K is (C:=C) hC hh hk ho)
theorem M1 (K:Nat) (is:List Nat) (i0:Nat) {b0 t0:Nat} {cs0:List Value} {LA:List Ch} {m K0 f f':Nat} {e':Env} {z:List Nat} (hC:SH w0 w LA) (hh:(LA[i0]?,xa tab n ops is [(b0,cs0)] f e [] [])=(some (Ch.box b0 cs0 t0),some (f',e',z,z)))
  (hk:RunA Tryz.prog n (bodyPost Tryz.prog fnc R) k ops st (fun w'=>SH w0 w' LA) f' (bits m K) e' w) (ho:oka ops st is (bits m K0) (bits m K)=true:=by kernel_rfl):RunA Tryz.prog n (bodyPost Tryz.prog fnc R) k ops st (fun w'=>SH w0 w' LA) f (bits m K0) e w:=by
 simp only [Prod.mk.injEq] at hh
 exact ((qtG (C:=(fun w'=>SH w0 w' LA)) (w:=w) (P:=Tryz.prog) qa hC is _ _ _ _ _ _ _ _ _ _ _ (fun p hp w1 hw=>by
  simp only [jW,jN,or_false] at hp
  rcases hp with rfl
  ·exact SH.box hw i0 hh.1) rfl hh.2 ho).2 rfl).2 hk
theorem M2 (K:Nat) (is:List Nat) (i0 i1:Nat) {b0 t0:Nat} {cs0:List Value} {b1 t1:Nat} {cs1:List Value} {LA:List Ch} {m K0 f f':Nat} {e':Env} {z:List Nat} (hC:SH w0 w LA) (hh:(LA[i0]?,LA[i1]?,xa tab n ops is [(b0,cs0),(b1,cs1)] f e [] [])=(some (Ch.box b0 cs0 t0),some (Ch.box b1 cs1 t1),some (f',e',z,z)))
  (hk:RunA Tryz.prog n (bodyPost Tryz.prog fnc R) k ops st (fun w'=>SH w0 w' LA) f' (bits m K) e' w) (ho:oka ops st is (bits m K0) (bits m K)=true:=by kernel_rfl):RunA Tryz.prog n (bodyPost Tryz.prog fnc R) k ops st (fun w'=>SH w0 w' LA) f (bits m K0) e w:=by
 simp only [Prod.mk.injEq] at hh
 exact ((qtG (C:=(fun w'=>SH w0 w' LA)) (w:=w) (P:=Tryz.prog) qa hC is _ _ _ _ _ _ _ _ _ _ _ (fun p hp w1 hw=>by
  simp only [jW,jN,or_false] at hp
  rcases hp with rfl|rfl
  ·exact SH.box hw i0 hh.1
  ·exact SH.box hw i1 hh.2.1) rfl hh.2.2 ho).2 rfl).2 hk
theorem M3 (K:Nat) (is:List Nat) (i0 i1 i2:Nat) {b0 t0:Nat} {cs0:List Value} {b1 t1:Nat} {cs1:List Value} {b2 t2:Nat} {cs2:List Value} {LA:List Ch} {m K0 f f':Nat} {e':Env} {z:List Nat} (hC:SH w0 w LA) (hh:(LA[i0]?,LA[i1]?,LA[i2]?,xa tab n ops is [(b0,cs0),(b1,cs1),(b2,cs2)] f e [] [])=(some (Ch.box b0 cs0 t0),some (Ch.box b1 cs1 t1),some (Ch.box b2 cs2 t2),some (f',e',z,z)))
  (hk:RunA Tryz.prog n (bodyPost Tryz.prog fnc R) k ops st (fun w'=>SH w0 w' LA) f' (bits m K) e' w) (ho:oka ops st is (bits m K0) (bits m K)=true:=by kernel_rfl):RunA Tryz.prog n (bodyPost Tryz.prog fnc R) k ops st (fun w'=>SH w0 w' LA) f (bits m K0) e w:=by
 simp only [Prod.mk.injEq] at hh
 exact ((qtG (C:=(fun w'=>SH w0 w' LA)) (w:=w) (P:=Tryz.prog) qa hC is _ _ _ _ _ _ _ _ _ _ _ (fun p hp w1 hw=>by
  simp only [jW,jN,or_false] at hp
  rcases hp with rfl|rfl|rfl
  ·exact SH.box hw i0 hh.1
  ·exact SH.box hw i1 hh.2.1
  ·exact SH.box hw i2 hh.2.2.1) rfl hh.2.2.2 ho).2 rfl).2 hk
theorem M4 (K:Nat) (is:List Nat) (i0 i1 i2 i3:Nat) {b0 t0:Nat} {cs0:List Value} {b1 t1:Nat} {cs1:List Value} {b2 t2:Nat} {cs2:List Value} {b3 t3:Nat} {cs3:List Value} {LA:List Ch} {m K0 f f':Nat} {e':Env} {z:List Nat} (hC:SH w0 w LA) (hh:(LA[i0]?,LA[i1]?,LA[i2]?,LA[i3]?,xa tab n ops is [(b0,cs0),(b1,cs1),(b2,cs2),(b3,cs3)] f e [] [])=(some (Ch.box b0 cs0 t0),some (Ch.box b1 cs1 t1),some (Ch.box b2 cs2 t2),some (Ch.box b3 cs3 t3),some (f',e',z,z)))
  (hk:RunA Tryz.prog n (bodyPost Tryz.prog fnc R) k ops st (fun w'=>SH w0 w' LA) f' (bits m K) e' w) (ho:oka ops st is (bits m K0) (bits m K)=true:=by kernel_rfl):RunA Tryz.prog n (bodyPost Tryz.prog fnc R) k ops st (fun w'=>SH w0 w' LA) f (bits m K0) e w:=by
 simp only [Prod.mk.injEq] at hh
 exact ((qtG (C:=(fun w'=>SH w0 w' LA)) (w:=w) (P:=Tryz.prog) qa hC is _ _ _ _ _ _ _ _ _ _ _ (fun p hp w1 hw=>by
  simp only [jW,jN,or_false] at hp
  rcases hp with rfl|rfl|rfl|rfl
  ·exact SH.box hw i0 hh.1
  ·exact SH.box hw i1 hh.2.1
  ·exact SH.box hw i2 hh.2.2.1
  ·exact SH.box hw i3 hh.2.2.2.1) rfl hh.2.2.2.2 ho).2 rfl).2 hk
theorem Aw (i K:Nat) {C:World→Prop} {m K0 d:Nat} {op:Op} {t:Nat} {ps:String} {af:Array Edge} {v:Value} (hv:∀ w',C w'→Val Tryz.prog n e ⟨some d,op,t,ps,af,none⟩ w' v) (hC:C w) (hh:(ops[i]?,Nat.blt d n)=(some (⟨some d,op,t,ps,af,none⟩:Oper),true))
  (hk:RunA Tryz.prog n (bodyPost Tryz.prog fnc R) k ops st C fuel (bits m K) ((d,v)::e) w) (hl:(bits m K0).setIfInBounds i true=bits m K:=by kernel_rfl)
  (hb:(Region.noSelect ops&&Region.free .any ops (bits m K0) i&&(Region.ready .any ops (bits m K0)).contains i&&st.all (fun s=>!(Nat.beq s i)&&waitsB ops i s&&!((bits m K0).getD s true)))=true:=by kernel_rfl) :
  RunA Tryz.prog n (bodyPost Tryz.prog fnc R) k ops st C (fuel+1) (bits m K0) e w:=by
 simp only [Prod.mk.injEq] at hh
 exact qj2 i hh.1 _ hl hb hv hC hh.2 hk
theorem Al (i K j:Nat) {LA:List Ch} {m K0 d t ty b o:Nat} {x:Operand} {te:TE} {ps:String} {af:Array Edge} {v:Value} {cs:List Value} (hc:CellsAt w0 b o cs) (hC:SH w0 w LA)
  (hh:(ops[i]?,opv e x,tab.get t,ld te cs j,Nat.blt d n)=(some (⟨some d,.load t x,ty,ps,af,none⟩:Oper),some (.pointer (some ⟨b,o+j,none⟩)),some te,some v,true))
  (hk:RunA Tryz.prog n (bodyPost Tryz.prog fnc R) k ops st (fun w'=>SH w0 w' LA) fuel (bits m K) ((d,v)::e) w) (hl:(bits m K0).setIfInBounds i true=bits m K:=by kernel_rfl)
  (hb:(Region.noSelect ops&&Region.free .any ops (bits m K0) i&&(Region.ready .any ops (bits m K0)).contains i&&st.all (fun s=>!(Nat.beq s i)&&waitsB ops i s&&!((bits m K0).getD s true)))=true:=by kernel_rfl) :
  RunA Tryz.prog n (bodyPost Tryz.prog fnc R) k ops st (fun w'=>SH w0 w' LA) (fuel+1) (bits m K0) e w:=by
 simp only [Prod.mk.injEq] at hh
 exact qj2 i hh.1 _ hl hb (fun w' hw=>qjE qa (hc.below hw.below) (j:=j) hh.2.1 hh.2.2.1 hh.2.2.2.1) hC hh.2.2.2.2 hk
theorem Ax (i K:Nat) {C:World→Prop} {m K0 d t ty el q:Nat} {x ix:Operand} {te te1:TE} {ps:String} {af:Array Edge} {p:Option Addr} {ln c sz:Nat} {kd:IntKind} {iv:Int} {b o:Nat} (hp:p=some ⟨b,o,none⟩) (hq:q=o+iv.toNat*sz) (hlt:0≤iv∧iv<ln) (hC:C w)
  (hh:(ops[i]?,opv e x,opv e ix,tab.get t,te.kind,tab.get el,te1.size,Nat.blt d n)=(some (⟨some d,.indexAddr t x ix,ty,ps,af,none⟩:Oper),some (.slice p ln c),some (.int kd iv),some te,TK.slice el,some te1,sz,true))
  (hk:RunA Tryz.prog n (bodyPost Tryz.prog fnc R) k ops st C fuel (bits m K) ((d,.pointer (some ⟨b,q,none⟩))::e) w) (hl:(bits m K0).setIfInBounds i true=bits m K:=by kernel_rfl)
  (hb:(Region.noSelect ops&&Region.free .any ops (bits m K0) i&&(Region.ready .any ops (bits m K0)).contains i&&st.all (fun s=>!(Nat.beq s i)&&waitsB ops i s&&!((bits m K0).getD s true)))=true:=by kernel_rfl) :
  RunA Tryz.prog n (bodyPost Tryz.prog fnc R) k ops st C (fuel+1) (bits m K0) e w:=by
 simp only [Prod.mk.injEq] at hh
 exact qj2 i hh.1 _ hl hb (fun w' _=>qwn qa hp hq hlt hh.2.1 hh.2.2.1 hh.2.2.2.1 hh.2.2.2.2.1 hh.2.2.2.2.2.1 hh.2.2.2.2.2.2.1) hC hh.2.2.2.2.2.2.2 hk
theorem Ae (i K:Nat) {C:World→Prop} {m K0 d t ty el q:Nat} {x ix:Operand} {te te1:TE} {ps:String} {af:Array Edge} {p:Option Addr} {ln c sz:Nat} {kd:IntKind} {iv:Int} {b o:Nat} {α:Prop} (hp:p=some ⟨b,o,none⟩) (hq:q=o+iv.toNat*sz) (hlt:0≤iv∧iv<ln∧α) (hC:C w)
  (hh:(ops[i]?,opv e x,opv e ix,tab.get t,te.kind,tab.get el,te1.size,Nat.blt d n)=(some (⟨some d,.indexAddr t x ix,ty,ps,af,none⟩:Oper),some (.slice p ln c),some (.int kd iv),some te,TK.slice el,some te1,sz,true))
  (hk:RunA Tryz.prog n (bodyPost Tryz.prog fnc R) k ops st C fuel (bits m K) ((d,.pointer (some ⟨b,q,none⟩))::e) w) (hl:(bits m K0).setIfInBounds i true=bits m K:=by kernel_rfl)
  (hb:(Region.noSelect ops&&Region.free .any ops (bits m K0) i&&(Region.ready .any ops (bits m K0)).contains i&&st.all (fun s=>!(Nat.beq s i)&&waitsB ops i s&&!((bits m K0).getD s true)))=true:=by kernel_rfl) :
  RunA Tryz.prog n (bodyPost Tryz.prog fnc R) k ops st C (fuel+1) (bits m K0) e w:=Ax i K hp hq ⟨hlt.1,hlt.2.1⟩ hC hh hk hl hb
theorem rb {fn:Func} {L:List Ch} {x r:Bool} (h:SH w0 w L) (hF:some x=some r) (hr:res1 e fn.results.toList=some (.bool x)) :
  Run Tryz.prog n (bodyPost Tryz.prog fn fun e w'=>∃ v,e=.returned v∧Below w0.heap.size w0 w'∧∃ us,v=tup us∧GoVs.Vs w' (fresh w0 w') r us) (.code .ret::k) e w:=qzq qa h hF (qu3 hr)
theorem ri {fn:Func} {L:List Ch} {x r:Int} (h:SH w0 w L) (hF:some x=some r) (hr:res1 e fn.results.toList=some (.int .i64 x)) :
  Run Tryz.prog n (bodyPost Tryz.prog fn fun e w'=>∃ v,e=.returned v∧Below w0.heap.size w0 w'∧∃ us,v=tup us∧GoVs.Vs w' (fresh w0 w') r us) (.code .ret::k) e w:=qzr qa h hF (qu3 hr)
theorem rO {fn:Func} {L:List Ch} {α:Type} [GoT α] {r:α} {S:Nat→Prop} {cs:List Value} (i:Nat) (h:SH w0 w L) (hi:L[i]?=some (Ch.own S r cs)) (hr:ResOk tab e w fn.results.toList [GoT.v α cs]) :
  Run Tryz.prog n (bodyPost Tryz.prog fn fun e w'=>∃ v,e=.returned v∧Below w0.heap.size w0 w'∧∃ us,v=tup us∧GoVs.Vs w' (fresh w0 w') r us) (.code .ret::k) e w:=qab qa _ h hr (PV.done h (qaj (qap i h hi)))
theorem zV {ρ:Type} [GoVs ρ] {f:FuncId} {fn:Func} {c:Code} {vs:List Value} {r:ρ} (m:Nat) (hf:Tryz.prog.funcs[f]?=some fn) (hh:(fn.body,fn.ntmps,Nat.ble vs.length m)=(some c,m,true))
  (h:SH w w []→Run Tryz.prog m (bodyPost Tryz.prog fn fun e w'=>∃ v,e=.returned v∧Below w.heap.size w w'∧∃ us,v=tup us∧GoVs.Vs w' (fresh w w') r us) [.code c] (argEnv 0 vs) w):RetV Tryz.prog f vs w r:=by
 simp only [Prod.mk.injEq] at hh
 exact qth hf hh.1 hh.2.1 hh.2.2 h
end
section
variable {w0 w:World} {L:List Ch} {n:Nat} {Q:Exit→Act→World→Prop} {k:List It} {e:Env} {all:Array Oper} {l:List Oper} {d ty:Nat} {ps:String} {af:Array Edge} {x:Operand} {args:Array Operand} {ats:Array TypeId} {f:FuncId} {fi ca:Array Value} {av vs:List Value} {β:Type} {rr:β}
theorem zcI {F:Option Int} {g:Int→Option β} (h:SH w0 w L) (hF:F.bind g=some rr) (hc:∀ {r},F=some r→RetV Tryz.prog f vs w r)
  (hh:(opv e x,opvs e args.toList,fi.toList++av++ca.toList,Nat.blt d n)=(some (.func (.func f) fi ca),some av,vs,true))
  (hk:∀ r w' ,SH w0 w' (L)→g r=some rr→Run Tryz.prog n Q (.ops all l::k) ((d,.int .i64 r)::e) w') (hcall:qfm Tryz.prog f:=by exact cA rfl):Run Tryz.prog n Q (.ops all (⟨some d,.call ⟨.value x,args,ats⟩,ty,ps,af,none⟩::l)::k) e w:=by
 obtain ⟨r,hr,hF⟩:=qd hF
 simp only [Prod.mk.injEq] at hh
 exact qcl r h hcall (hc hr) hh.1 hh.2.1 hh.2.2.1 hh.2.2.2 (fun w'  h'=>hk r w'  h' hF)
theorem zcB {F:Option Bool} {g:Bool→Option β} (h:SH w0 w L) (hF:F.bind g=some rr) (hc:∀ {r},F=some r→RetV Tryz.prog f vs w r)
  (hh:(opv e x,opvs e args.toList,fi.toList++av++ca.toList,Nat.blt d n)=(some (.func (.func f) fi ca),some av,vs,true))
  (hk:∀ r w' ,SH w0 w' (L)→g r=some rr→Run Tryz.prog n Q (.ops all l::k) ((d,.bool r)::e) w') (hcall:qfm Tryz.prog f:=by exact cA rfl):Run Tryz.prog n Q (.ops all (⟨some d,.call ⟨.value x,args,ats⟩,ty,ps,af,none⟩::l)::k) e w:=by
 obtain ⟨r,hr,hF⟩:=qd hF
 simp only [Prod.mk.injEq] at hh
 exact qxU r h hcall (hc hr) hh.1 hh.2.1 hh.2.2.1 hh.2.2.2 (fun w'  h'=>hk r w'  h' hF)
theorem zcS {F:Option ByteArray} {g:ByteArray→Option β} (h:SH w0 w L) (hF:F.bind g=some rr) (hc:∀ {r},F=some r→RetV Tryz.prog f vs w r)
  (hh:(opv e x,opvs e args.toList,fi.toList++av++ca.toList,Nat.blt d n)=(some (.func (.func f) fi ca),some av,vs,true))
  (hk:∀ r w' ,SH w0 w' (L)→g r=some rr→Run Tryz.prog n Q (.ops all l::k) ((d,.string r)::e) w') (hcall:qfm Tryz.prog f:=by exact cA rfl):Run Tryz.prog n Q (.ops all (⟨some d,.call ⟨.value x,args,ats⟩,ty,ps,af,none⟩::l)::k) e w:=by
 obtain ⟨r,hr,hF⟩:=qd hF
 simp only [Prod.mk.injEq] at hh
 exact qx3 r h hcall (hc hr) hh.1 hh.2.1 hh.2.2.1 hh.2.2.2 (fun w'  h'=>hk r w'  h' hF)
theorem zcL {α:Type} [GoT α] {F:Option (List α)} {g:(List α)→Option β} (h:SH w0 w L) (hF:F.bind g=some rr) (hc:∀ {r},F=some r→RetV Tryz.prog f vs w r)
  (hh:(opv e x,opvs e args.toList,fi.toList++av++ca.toList,Nat.blt d n)=(some (.func (.func f) fi ca),some av,vs,true))
  (hk:∀ r w' S p c,SH w0 w' (Ch.own S r [.slice p r.length c]::L)→g r=some rr→Run Tryz.prog n Q (.ops all l::k) ((d,.slice p r.length c)::e) w') (hcall:qfm Tryz.prog f:=by exact cA rfl):Run Tryz.prog n Q (.ops all (⟨some d,.call ⟨.value x,args,ats⟩,ty,ps,af,none⟩::l)::k) e w:=by
 obtain ⟨r,hr,hF⟩:=qd hF
 simp only [Prod.mk.injEq] at hh
 exact qa2 r h hcall (hc hr) hh.1 hh.2.1 hh.2.2.1 hh.2.2.2 (fun w' S p c h'=>hk r w' S p c h' hF)
theorem zcO {α:Type} [GoT α] {F:Option α} {g:α→Option β} (h:SH w0 w L) (hF:F.bind g=some rr) (hc:∀ {r},F=some r→RetV Tryz.prog f vs w r)
  (hh:(opv e x,opvs e args.toList,fi.toList++av++ca.toList,Nat.blt d n)=(some (.func (.func f) fi ca),some av,vs,true))
  (hk:∀ r w' S cs,SH w0 w' (Ch.own S r cs::L)→g r=some rr→Run Tryz.prog n Q (.ops all l::k) ((d,GoT.v α cs)::e) w') (hcall:qfm Tryz.prog f:=by exact cA rfl):Run Tryz.prog n Q (.ops all (⟨some d,.call ⟨.value x,args,ats⟩,ty,ps,af,none⟩::l)::k) e w:=by
 obtain ⟨r,hr,hF⟩:=qd hF
 simp only [Prod.mk.injEq] at hh
 exact qee r h hcall (hc hr) hh.1 hh.2.1 hh.2.2.1 hh.2.2.2 (fun w' S cs h'=>hk r w' S cs h' hF)
end
def noC:List Nat:=[0,1,306,336]
theorem allC:((List.range 349).all fun f=>noC.contains f || callB Tryz.prog f)=true:=by kernel_rfl
theorem cA {f:Nat} (h:(Nat.blt f 349&&!noC.contains f)=true):qfm Tryz.prog f:=by
 rw [jf,Nat.blt_eq,jG] at h
 have:=List.all_eq_true.1 allC f (List.mem_range.2 h.1)
 rw [h.2] at this
 exact qww this
theorem cB (f:Nat) (h:(Nat.blt f 349&&!noC.contains f)=true):qfm Tryz.prog f:=cA h
def qcf (_:Nat) (a:(List Int)) (left:Int):Option Int :=
 bif decide ((W64 (left-(a.length:Int)))<0) then some (-1) else
 some (W64 (left-(a.length:Int)))
theorem qbW {a:(List Int)} {left:Int} (ha1:GoT.R w (old w) a cs1) {r:Int} (hF:qcf n a left=some r):RetV Tryz.prog 196 [GoT.v (List Int) cs1,.int .i64 left] w r:=by
 obtain ⟨p1,k1,rfl,s1⟩:=ha1
 refine zV 12 Tryz.func196 rfl fun h=>X0 18 rfl (qh rfl hF ?_ ?_)<;>intro hF
 ·exact X0 4 rfl (ri h hF rfl)
 exact X0 6 rfl (ri h hF rfl)
def qkU (_:Nat) (a:qal) (left:Int):Option Int :=
 bif decide ((W64 (left-(a.Az.size:Int)))<0) then some (-1) else
 some (W64 (left-(a.Az.size:Int)))
theorem qrI {a:qal} {left:Int} (ha1:GoT.R w (old w) a cs1) {r:Int} (hF:qkU n a left=some r):RetV Tryz.prog 287 [GoT.v qal cs1,.int .i64 left] w r:=by
 obtain rfl:=qaX ha1
 refine zV 13 Tryz.func287 rfl fun h=>zSR (qv h rfl rfl fun w1 bb1 h=>X1 17 0 h rfl (qh rfl hF ?_ ?_))<;>intro hF
 ·exact X0 4 rfl (ri h hF rfl)
 exact X0 6 rfl (ri h hF rfl)
def qfz (a:(List qal)):Nat→Int→Int→Option (Flow Int (Int × Int))
 | 0,_,_=>none
 | n+1,i1,i2 =>
  bif decide (i2<(a.length:Int)) then
   (idx a i2).bind fun y1 =>
   (qkU n y1 i1).bind fun r1 =>
   bif decide (r1<0) then some (.ret (-1)) else
   qfz a n r1 (W64 (i2+1))
  else
   some (.nxt (i1,i2))
def qnn (n:Nat) (a:(List qal)) (left:Int):Option Int :=
 bif decide ((W64 (left-(a.length:Int)))<0) then some (-1) else
 (qfz a n (W64 (left-(a.length:Int))) 0).bind fun o=>match o with
 | .ret r=>some r
 | .nxt (i1,_) =>
  some i1
theorem qqH {a:(List qal)} {left:Int} (ha1:GoT.R w (old w) a cs1) {r:Int} (hF:qnn n a left=some r):RetV Tryz.prog 250 [GoT.v (List qal) cs1,.int .i64 left] w r:=by
 obtain ⟨p1,k1,rfl,s1⟩:=ha1
 refine zV 27 Tryz.func250 rfl fun h=>X0 18 rfl (qh rfl hF ?_ ?_)<;>intro hF
 ·exact X0 4 rfl (ri h hF rfl)
 refine X0 6 rfl ?_
 obtain ⟨o1,hF,hK1⟩:=qd hF
 refine qm (rL (fun m e w'=>∃ (i1:Int) (i2:Int),qfz a m i1 i2=some o1∧e=[(0,.slice p1 a.length k1),(1,.int .i64 i1),(5,.int .i64 i2)]∧SH w w' []) n ⟨_,_,hF,rfl,h⟩ rfl ?_)
 rintro m1 e1 w1 ⟨i1,i2,hF,rfl,h⟩
 rcases m1 with _|m1
 ·cases hF
 refine X0 8 rfl (qh rfl hF ?_ ?_)<;>intro hF
 ·refine X0 7 rfl ?_
  obtain ⟨y1,hy1,hF,he1,b1,_,q1,cs2,hp1,hq1,hr1,hc3⟩:=s1.ix hF
  obtain rfl:=qaX hr1
  refine zxe hp1 hq1 he1 rfl (zc 0 (hc3.below h.below) rfl (zp1 rfl (zcI h hF (qrI (qd5 y1)) rfl fun r1 w2 h hF=>X0 7 rfl (qh rfl hF ?_ ?_))))<;>intro hF
  ·refine X0 4 rfl ?_
   obtain rfl:=qb hF;replace hF:=hK1
   exact ri h hF rfl
  exact X0 7 rfl (rK ⟨_,_,hF,rfl,h⟩ rfl)
 refine qq rfl ?_
 obtain rfl:=qb hF;replace hF:=hK1
 exact X0 5 rfl (ri h hF rfl)
def qiY (n:Nat) (a:qt) (left:Int):Option Int :=
 (qcf n a.Bi left).bind fun r1 =>
 bif decide (r1<0) then some (-1) else
 (qcf n a.Bb r1).bind fun r2 =>
 bif decide (r2<0) then some (-1) else
 (qcf n a.Ba r2).bind fun r3 =>
 bif decide (r3<0) then some (-1) else
 some r3
theorem qp7 {a:qt} {left:Int} (ha1:GoT.R w (old w) a cs1) {r:Int} (hF:qiY n a left=some r):RetV Tryz.prog 325 [GoT.v qt cs1,.int .i64 left] w r:=by
 obtain ⟨p1,k1,p2,k2,p3,k3,rfl,s1,s2,s3⟩:=qaG ha1
 refine zV 24 Tryz.func325 rfl fun h=>zSR (qv h rfl rfl fun w1 bb1 h=>X1 7 0 h rfl (zcI h hF (qbW ⟨_,_,rfl,(h.oldS s1)⟩) rfl fun r1 w2 h hF=>X0 8 rfl (qh rfl hF ?_ ?_)))<;>intro hF
 ·exact X0 4 rfl (ri h hF rfl)
 refine X1 6 0 h rfl (zcI h hF (qbW ⟨_,_,rfl,(h.oldS s2)⟩) rfl fun r2 w3 h hF=>X0 8 rfl (qh rfl hF ?_ ?_))<;>intro hF
 ·exact X0 4 rfl (ri h hF rfl)
 refine X1 6 0 h rfl (zcI h hF (qbW ⟨_,_,rfl,(h.oldS s3)⟩) rfl fun r3 w4 h hF=>X0 8 rfl (qh rfl hF ?_ ?_))<;>intro hF
 ·exact X0 4 rfl (ri h hF rfl)
 exact X0 6 rfl (ri h hF rfl)
def qey (a:(List qt)):Nat→Int→Int→Option (Flow Int (Int × Int))
 | 0,_,_=>none
 | n+1,i1,i2 =>
  bif decide (i2<(a.length:Int)) then
   (idx a i2).bind fun y1 =>
   (qiY n y1 i1).bind fun r1 =>
   bif decide (r1<0) then some (.ret (-1)) else
   qey a n r1 (W64 (i2+1))
  else
   some (.nxt (i1,i2))
def qjn (n:Nat) (a:(List qt)) (left:Int):Option Int :=
 bif decide ((W64 (left-(a.length:Int)))<0) then some (-1) else
 (qey a n (W64 (left-(a.length:Int))) 0).bind fun o=>match o with
 | .ret r=>some r
 | .nxt (i1,_) =>
  some i1
theorem qlG {a:(List qt)} {left:Int} (ha1:GoT.R w (old w) a cs1) {r:Int} (hF:qjn n a left=some r):RetV Tryz.prog 310 [GoT.v (List qt) cs1,.int .i64 left] w r:=by
 obtain ⟨p1,k1,rfl,s1⟩:=ha1
 refine zV 27 Tryz.func310 rfl fun h=>X0 18 rfl (qh rfl hF ?_ ?_)<;>intro hF
 ·exact X0 4 rfl (ri h hF rfl)
 refine X0 6 rfl ?_
 obtain ⟨o1,hF,hK1⟩:=qd hF
 refine qm (rL (fun m e w'=>∃ (i1:Int) (i2:Int),qey a m i1 i2=some o1∧e=[(0,.slice p1 a.length k1),(1,.int .i64 i1),(5,.int .i64 i2)]∧SH w w' []) n ⟨_,_,hF,rfl,h⟩ rfl ?_)
 rintro m1 e1 w1 ⟨i1,i2,hF,rfl,h⟩
 rcases m1 with _|m1
 ·cases hF
 refine X0 8 rfl (qh rfl hF ?_ ?_)<;>intro hF
 ·refine X0 7 rfl ?_
  obtain ⟨y1,hy1,hF,he1,b1,_,q1,cs2,hp1,hq1,hr1,hc3⟩:=s1.ix hF
  obtain ⟨p2,k2,p3,k3,p4,k4,rfl,s2,s3,s4⟩:=qaG hr1
  refine zxe hp1 hq1 he1 rfl (zc 0 (hc3.below h.below) rfl (zp1 rfl (zcI h hF (qp7 (qfq y1 (h.oldS s2) (h.oldS s3) (h.oldS s4))) rfl fun r1 w2 h hF=>X0 7 rfl (qh rfl hF ?_ ?_))))<;>intro hF
  ·refine X0 4 rfl ?_
   obtain rfl:=qb hF;replace hF:=hK1
   exact ri h hF rfl
  exact X0 7 rfl (rK ⟨_,_,hF,rfl,h⟩ rfl)
 refine qq rfl ?_
 obtain rfl:=qb hF;replace hF:=hK1
 exact X0 5 rfl (ri h hF rfl)
def qkX (n:Nat) (a:qG) (left:Int):Option Int :=
 (qjn n a.Bj left).bind fun r1 =>
 bif decide (r1<0) then some (-1) else
 (qjn n a.Aq r1).bind fun r2 =>
 bif decide (r2<0) then some (-1) else
 some r2
theorem qrx {a:qG} {left:Int} (ha1:GoT.R w (old w) a cs1) {r:Int} (hF:qkX n a left=some r):RetV Tryz.prog 288 [GoT.v qG cs1,.int .i64 left] w r:=by
 obtain ⟨p1,k1,p2,k2,rfl,s1,s2⟩:=qai ha1
 refine zV 18 Tryz.func288 rfl fun h=>zSR (qv h rfl rfl fun w1 bb1 h=>X1 7 0 h rfl (zcI h hF (qlG ⟨_,_,rfl,(h.oldS s1)⟩) rfl fun r1 w2 h hF=>X0 8 rfl (qh rfl hF ?_ ?_)))<;>intro hF
 ·exact X0 4 rfl (ri h hF rfl)
 refine X1 6 0 h rfl (zcI h hF (qlG ⟨_,_,rfl,(h.oldS s2)⟩) rfl fun r2 w3 h hF=>X0 8 rfl (qh rfl hF ?_ ?_))<;>intro hF
 ·exact X0 4 rfl (ri h hF rfl)
 exact X0 6 rfl (ri h hF rfl)
def qfU (a:(List qG)):Nat→Int→Int→Option (Flow Int (Int × Int))
 | 0,_,_=>none
 | n+1,i1,i2 =>
  bif decide (i2<(a.length:Int)) then
   (idx a i2).bind fun y1 =>
   (qkX n y1 i1).bind fun r1 =>
   bif decide (r1<0) then some (.ret (-1)) else
   qfU a n r1 (W64 (i2+1))
  else
   some (.nxt (i1,i2))
def qna (n:Nat) (a:(List qG)) (left:Int):Option Int :=
 bif decide ((W64 (left-(a.length:Int)))<0) then some (-1) else
 (qfU a n (W64 (left-(a.length:Int))) 0).bind fun o=>match o with
 | .ret r=>some r
 | .nxt (i1,_) =>
  some i1
theorem qrh {a:(List qG)} {left:Int} (ha1:GoT.R w (old w) a cs1) {r:Int} (hF:qna n a left=some r):RetV Tryz.prog 251 [GoT.v (List qG) cs1,.int .i64 left] w r:=by
 obtain ⟨p1,k1,rfl,s1⟩:=ha1
 refine zV 27 Tryz.func251 rfl fun h=>X0 18 rfl (qh rfl hF ?_ ?_)<;>intro hF
 ·exact X0 4 rfl (ri h hF rfl)
 refine X0 6 rfl ?_
 obtain ⟨o1,hF,hK1⟩:=qd hF
 refine qm (rL (fun m e w'=>∃ (i1:Int) (i2:Int),qfU a m i1 i2=some o1∧e=[(0,.slice p1 a.length k1),(1,.int .i64 i1),(5,.int .i64 i2)]∧SH w w' []) n ⟨_,_,hF,rfl,h⟩ rfl ?_)
 rintro m1 e1 w1 ⟨i1,i2,hF,rfl,h⟩
 rcases m1 with _|m1
 ·cases hF
 refine X0 8 rfl (qh rfl hF ?_ ?_)<;>intro hF
 ·refine X0 7 rfl ?_
  obtain ⟨y1,hy1,hF,he1,b1,_,q1,cs2,hp1,hq1,hr1,hc3⟩:=s1.ix hF
  obtain ⟨p2,k2,p3,k3,rfl,s2,s3⟩:=qai hr1
  refine zxe hp1 hq1 he1 rfl (zc 0 (hc3.below h.below) rfl (zp1 rfl (zcI h hF (qrx (qfR y1 (h.oldS s2) (h.oldS s3))) rfl fun r1 w2 h hF=>X0 7 rfl (qh rfl hF ?_ ?_))))<;>intro hF
  ·refine X0 4 rfl ?_
   obtain rfl:=qb hF;replace hF:=hK1
   exact ri h hF rfl
  exact X0 7 rfl (rK ⟨_,_,hF,rfl,h⟩ rfl)
 refine qq rfl ?_
 obtain rfl:=qb hF;replace hF:=hK1
 exact X0 5 rfl (ri h hF rfl)
def qjQ (n:Nat) (a:qw) (left:Int):Option Int :=
 bif decide ((W64 (left-(a.Az.size:Int)))<0) then some (-1) else
 (qnn n a.Au (W64 (left-(a.Az.size:Int)))).bind fun r1 =>
 bif decide (r1<0) then some (-1) else
 (qna n a.As r1).bind fun r2 =>
 bif decide (r2<0) then some (-1) else
 (qcf n a.Bk r2).bind fun r3 =>
 bif decide (r3<0) then some (-1) else
 some r3
theorem qrn {a:qw} {left:Int} (ha1:GoT.R w (old w) a cs1) {r:Int} (hF:qjQ n a left=some r):RetV Tryz.prog 193 [GoT.v qw cs1,.int .i64 left] w r:=by
 obtain ⟨p1,k1,p2,k2,p3,k3,rfl,s1,s2,s3⟩:=qae ha1
 refine zV 31 Tryz.func193 rfl fun h=>zSR (qv h rfl rfl fun w1 bb1 h=>X1 17 0 h rfl (qh rfl hF ?_ ?_))<;>intro hF
 ·exact X0 4 rfl (ri h hF rfl)
 refine X1 6 0 h rfl (zcI h hF (qqH ⟨_,_,rfl,(h.oldS s1)⟩) rfl fun r1 w2 h hF=>X0 8 rfl (qh rfl hF ?_ ?_))<;>intro hF
 ·exact X0 4 rfl (ri h hF rfl)
 refine X1 6 0 h rfl (zcI h hF (qrh ⟨_,_,rfl,(h.oldS s2)⟩) rfl fun r2 w3 h hF=>X0 8 rfl (qh rfl hF ?_ ?_))<;>intro hF
 ·exact X0 4 rfl (ri h hF rfl)
 refine X1 6 0 h rfl (zcI h hF (qbW ⟨_,_,rfl,(h.oldS s3)⟩) rfl fun r3 w4 h hF=>X0 8 rfl (qh rfl hF ?_ ?_))<;>intro hF
 ·exact X0 4 rfl (ri h hF rfl)
 exact X0 6 rfl (ri h hF rfl)
def qeR (a:(List qw)):Nat→Int→Int→Option (Flow Int (Int × Int))
 | 0,_,_=>none
 | n+1,i1,i2 =>
  bif decide (i2<(a.length:Int)) then
   (idx a i2).bind fun y1 =>
   (qjQ n y1 i1).bind fun r1 =>
   bif decide (r1<0) then some (.ret (-1)) else
   qeR a n r1 (W64 (i2+1))
  else
   some (.nxt (i1,i2))
def qme (n:Nat) (a:(List qw)) (left:Int):Option Int :=
 bif decide ((W64 (left-(a.length:Int)))<0) then some (-1) else
 (qeR a n (W64 (left-(a.length:Int))) 0).bind fun o=>match o with
 | .ret r=>some r
 | .nxt (i1,_) =>
  some i1
theorem qqj {a:(List qw)} {left:Int} (ha1:GoT.R w (old w) a cs1) {r:Int} (hF:qme n a left=some r):RetV Tryz.prog 115 [GoT.v (List qw) cs1,.int .i64 left] w r:=by
 obtain ⟨p1,k1,rfl,s1⟩:=ha1
 refine zV 27 Tryz.func115 rfl fun h=>X0 18 rfl (qh rfl hF ?_ ?_)<;>intro hF
 ·exact X0 4 rfl (ri h hF rfl)
 refine X0 6 rfl ?_
 obtain ⟨o1,hF,hK1⟩:=qd hF
 refine qm (rL (fun m e w'=>∃ (i1:Int) (i2:Int),qeR a m i1 i2=some o1∧e=[(0,.slice p1 a.length k1),(1,.int .i64 i1),(5,.int .i64 i2)]∧SH w w' []) n ⟨_,_,hF,rfl,h⟩ rfl ?_)
 rintro m1 e1 w1 ⟨i1,i2,hF,rfl,h⟩
 rcases m1 with _|m1
 ·cases hF
 refine X0 8 rfl (qh rfl hF ?_ ?_)<;>intro hF
 ·refine X0 7 rfl ?_
  obtain ⟨y1,hy1,hF,he1,b1,_,q1,cs2,hp1,hq1,hr1,hc3⟩:=s1.ix hF
  obtain ⟨p2,k2,p3,k3,p4,k4,rfl,s2,s3,s4⟩:=qae hr1
  refine zxe hp1 hq1 he1 rfl (zc 0 (hc3.below h.below) rfl (zp1 rfl (zcI h hF (qrn (qkp y1 (h.oldS s2) (h.oldS s3) (h.oldS s4))) rfl fun r1 w2 h hF=>X0 7 rfl (qh rfl hF ?_ ?_))))<;>intro hF
  ·refine X0 4 rfl ?_
   obtain rfl:=qb hF;replace hF:=hK1
   exact ri h hF rfl
  exact X0 7 rfl (rK ⟨_,_,hF,rfl,h⟩ rfl)
 refine qq rfl ?_
 obtain rfl:=qb hF;replace hF:=hK1
 exact X0 5 rfl (ri h hF rfl)
def qiX (n:Nat) (a:qr) (left:Int):Option Int :=
 (qme n a.Ap left).bind fun r1 =>
 bif decide (r1<0) then some (-1) else
 some r1
theorem qou {a:qr} {left:Int} (ha1:GoT.R w (old w) a cs1) {r:Int} (hF:qiX n a left=some r):RetV Tryz.prog 41 [GoT.v qr cs1,.int .i64 left] w r:=by
 obtain ⟨p1,k1,rfl,s1⟩:=qbG ha1
 refine zV 12 Tryz.func41 rfl fun h=>zSR (qv h rfl rfl fun w1 bb1 h=>X1 7 0 h rfl (zcI h hF (qqj ⟨_,_,rfl,(h.oldS s1)⟩) rfl fun r1 w2 h hF=>X0 8 rfl (qh rfl hF ?_ ?_)))<;>intro hF
 ·exact X0 4 rfl (ri h hF rfl)
 exact X0 6 rfl (ri h hF rfl)
def qgq (n:Nat) (a:qi) (left:Int):Option Int :=
 bif decide ((W64 (left-(a.Az.size:Int)))<0) then some (-1) else
 (qcf n a.Ai (W64 (left-(a.Az.size:Int)))).bind fun r1 =>
 bif decide (r1<0) then some (-1) else
 some r1
theorem qoi {a:qi} {left:Int} (ha1:GoT.R w (old w) a cs1) {r:Int} (hF:qgq n a left=some r):RetV Tryz.prog 194 [GoT.v qi cs1,.int .i64 left] w r:=by
 obtain ⟨p1,k1,rfl,s1⟩:=qO ha1
 refine zV 19 Tryz.func194 rfl fun h=>zSR (qv h rfl rfl fun w1 bb1 h=>X1 17 0 h rfl (qh rfl hF ?_ ?_))<;>intro hF
 ·exact X0 4 rfl (ri h hF rfl)
 refine X1 6 0 h rfl (zcI h hF (qbW ⟨_,_,rfl,(h.oldS s1)⟩) rfl fun r1 w2 h hF=>X0 8 rfl (qh rfl hF ?_ ?_))<;>intro hF
 ·exact X0 4 rfl (ri h hF rfl)
 exact X0 6 rfl (ri h hF rfl)
def qcO (a:(List qi)):Nat→Int→Int→Option (Flow Int (Int × Int))
 | 0,_,_=>none
 | n+1,i1,i2 =>
  bif decide (i2<(a.length:Int)) then
   (idx a i2).bind fun y1 =>
   (qgq n y1 i1).bind fun r1 =>
   bif decide (r1<0) then some (.ret (-1)) else
   qcO a n r1 (W64 (i2+1))
  else
   some (.nxt (i1,i2))
def qi8 (n:Nat) (a:(List qi)) (left:Int):Option Int :=
 bif decide ((W64 (left-(a.length:Int)))<0) then some (-1) else
 (qcO a n (W64 (left-(a.length:Int))) 0).bind fun o=>match o with
 | .ret r=>some r
 | .nxt (i1,_) =>
  some i1
theorem qnQ {a:(List qi)} {left:Int} (ha1:GoT.R w (old w) a cs1) {r:Int} (hF:qi8 n a left=some r):RetV Tryz.prog 116 [GoT.v (List qi) cs1,.int .i64 left] w r:=by
 obtain ⟨p1,k1,rfl,s1⟩:=ha1
 refine zV 27 Tryz.func116 rfl fun h=>X0 18 rfl (qh rfl hF ?_ ?_)<;>intro hF
 ·exact X0 4 rfl (ri h hF rfl)
 refine X0 6 rfl ?_
 obtain ⟨o1,hF,hK1⟩:=qd hF
 refine qm (rL (fun m e w'=>∃ (i1:Int) (i2:Int),qcO a m i1 i2=some o1∧e=[(0,.slice p1 a.length k1),(1,.int .i64 i1),(5,.int .i64 i2)]∧SH w w' []) n ⟨_,_,hF,rfl,h⟩ rfl ?_)
 rintro m1 e1 w1 ⟨i1,i2,hF,rfl,h⟩
 rcases m1 with _|m1
 ·cases hF
 refine X0 8 rfl (qh rfl hF ?_ ?_)<;>intro hF
 ·refine X0 7 rfl ?_
  obtain ⟨y1,hy1,hF,he1,b1,_,q1,cs2,hp1,hq1,hr1,hc3⟩:=s1.ix hF
  obtain ⟨p2,k2,rfl,s2⟩:=qO hr1
  refine zxe hp1 hq1 he1 rfl (zc 0 (hc3.below h.below) rfl (zp1 rfl (zcI h hF (qoi (qgz y1 (h.oldS s2))) rfl fun r1 w2 h hF=>X0 7 rfl (qh rfl hF ?_ ?_))))<;>intro hF
  ·refine X0 4 rfl ?_
   obtain rfl:=qb hF;replace hF:=hK1
   exact ri h hF rfl
  exact X0 7 rfl (rK ⟨_,_,hF,rfl,h⟩ rfl)
 refine qq rfl ?_
 obtain rfl:=qb hF;replace hF:=hK1
 exact X0 5 rfl (ri h hF rfl)
def qdH (a:(List ByteArray)):Nat→Int→Int→Option (Flow Int (Int × Int))
 | 0,_,_=>none
 | n+1,i1,i2 =>
  bif decide (i2<(a.length:Int)) then
   (idx a i2).bind fun y1 =>
   bif decide ((W64 (i1-(y1.size:Int)))<0) then some (.ret (-1)) else
   qdH a n (W64 (i1-(y1.size:Int))) (W64 (i2+1))
  else
   some (.nxt (i1,i2))
def qkO (n:Nat) (a:(List ByteArray)) (left:Int):Option Int :=
 bif decide ((W64 (left-(a.length:Int)))<0) then some (-1) else
 (qdH a n (W64 (left-(a.length:Int))) 0).bind fun o=>match o with
 | .ret r=>some r
 | .nxt (i1,_) =>
  some i1
theorem qoU {a:(List ByteArray)} {left:Int} (ha1:GoT.R w (old w) a cs1) {r:Int} (hF:qkO n a left=some r):RetV Tryz.prog 117 [GoT.v (List ByteArray) cs1,.int .i64 left] w r:=by
 obtain ⟨p1,k1,rfl,s1⟩:=ha1
 refine zV 28 Tryz.func117 rfl fun h=>X0 18 rfl (qh rfl hF ?_ ?_)<;>intro hF
 ·exact X0 4 rfl (ri h hF rfl)
 refine X0 6 rfl ?_
 obtain ⟨o1,hF,hK1⟩:=qd hF
 refine qm (rL (fun m e w'=>∃ (i1:Int) (i2:Int),qdH a m i1 i2=some o1∧e=[(0,.slice p1 a.length k1),(1,.int .i64 i1),(5,.int .i64 i2)]∧SH w w' []) n ⟨_,_,hF,rfl,h⟩ rfl ?_)
 rintro m1 e1 w1 ⟨i1,i2,hF,rfl,h⟩
 rcases m1 with _|m1
 ·cases hF
 refine X0 8 rfl (qh rfl hF ?_ ?_)<;>intro hF
 ·refine X0 8 rfl ?_
  obtain ⟨y1,hy1,hF,he1,b1,_,q1,cs2,hp1,hq1,rfl,hc3⟩:=s1.ix hF
  refine zxe hp1 hq1 he1 rfl (zc 0 (hc3.below h.below) rfl (X0 9 rfl (qh rfl hF ?_ ?_)))<;>intro hF
  ·refine X0 4 rfl ?_
   obtain rfl:=qb hF;replace hF:=hK1
   exact ri h hF rfl
  exact X0 7 rfl (rK ⟨_,_,hF,rfl,h⟩ rfl)
 refine qq rfl ?_
 obtain rfl:=qb hF;replace hF:=hK1
 exact X0 5 rfl (ri h hF rfl)
def qjK (_:Nat) (a:qP) (left:Int):Option Int :=
 bif decide ((W64 (left-(a.Az.size:Int)))<0) then some (-1) else
 some (W64 (left-(a.Az.size:Int)))
theorem qqP {a:qP} {left:Int} (ha1:GoT.R w (old w) a cs1) {r:Int} (hF:qjK n a left=some r):RetV Tryz.prog 195 [GoT.v qP cs1,.int .i64 left] w r:=by
 obtain rfl:=qaS ha1
 refine zV 13 Tryz.func195 rfl fun h=>zSR (qv h rfl rfl fun w1 bb1 h=>X1 17 0 h rfl (qh rfl hF ?_ ?_))<;>intro hF
 ·exact X0 4 rfl (ri h hF rfl)
 exact X0 6 rfl (ri h hF rfl)
def qe0 (a:(List qP)):Nat→Int→Int→Option (Flow Int (Int × Int))
 | 0,_,_=>none
 | n+1,i1,i2 =>
  bif decide (i2<(a.length:Int)) then
   (idx a i2).bind fun y1 =>
   (qjK n y1 i1).bind fun r1 =>
   bif decide (r1<0) then some (.ret (-1)) else
   qe0 a n r1 (W64 (i2+1))
  else
   some (.nxt (i1,i2))
def ql6 (n:Nat) (a:(List qP)) (left:Int):Option Int :=
 bif decide ((W64 (left-(a.length:Int)))<0) then some (-1) else
 (qe0 a n (W64 (left-(a.length:Int))) 0).bind fun o=>match o with
 | .ret r=>some r
 | .nxt (i1,_) =>
  some i1
theorem qqn {a:(List qP)} {left:Int} (ha1:GoT.R w (old w) a cs1) {r:Int} (hF:ql6 n a left=some r):RetV Tryz.prog 118 [GoT.v (List qP) cs1,.int .i64 left] w r:=by
 obtain ⟨p1,k1,rfl,s1⟩:=ha1
 refine zV 27 Tryz.func118 rfl fun h=>X0 18 rfl (qh rfl hF ?_ ?_)<;>intro hF
 ·exact X0 4 rfl (ri h hF rfl)
 refine X0 6 rfl ?_
 obtain ⟨o1,hF,hK1⟩:=qd hF
 refine qm (rL (fun m e w'=>∃ (i1:Int) (i2:Int),qe0 a m i1 i2=some o1∧e=[(0,.slice p1 a.length k1),(1,.int .i64 i1),(5,.int .i64 i2)]∧SH w w' []) n ⟨_,_,hF,rfl,h⟩ rfl ?_)
 rintro m1 e1 w1 ⟨i1,i2,hF,rfl,h⟩
 rcases m1 with _|m1
 ·cases hF
 refine X0 8 rfl (qh rfl hF ?_ ?_)<;>intro hF
 ·refine X0 7 rfl ?_
  obtain ⟨y1,hy1,hF,he1,b1,_,q1,cs2,hp1,hq1,hr1,hc3⟩:=s1.ix hF
  obtain rfl:=qaS hr1
  refine zxe hp1 hq1 he1 rfl (zc 0 (hc3.below h.below) rfl (zp1 rfl (zcI h hF (qqP (qes y1)) rfl fun r1 w2 h hF=>X0 7 rfl (qh rfl hF ?_ ?_))))<;>intro hF
  ·refine X0 4 rfl ?_
   obtain rfl:=qb hF;replace hF:=hK1
   exact ri h hF rfl
  exact X0 7 rfl (rK ⟨_,_,hF,rfl,h⟩ rfl)
 refine qq rfl ?_
 obtain rfl:=qb hF;replace hF:=hK1
 exact X0 5 rfl (ri h hF rfl)
def qjv (n:Nat) (a:qf) (left:Int):Option Int :=
 (qi8 n a.Ab left).bind fun r1 =>
 bif decide (r1<0) then some (-1) else
 (qkO n a.Ai r1).bind fun r2 =>
 bif decide (r2<0) then some (-1) else
 (ql6 n a.Ah r2).bind fun r3 =>
 bif decide (r3<0) then some (-1) else
 some r3
theorem qpc {a:qf} {left:Int} (ha1:GoT.R w (old w) a cs1) {r:Int} (hF:qjv n a left=some r):RetV Tryz.prog 42 [GoT.v qf cs1,.int .i64 left] w r:=by
 obtain ⟨p1,k1,p2,k2,p3,k3,rfl,s1,s2,s3⟩:=qaA ha1
 refine zV 24 Tryz.func42 rfl fun h=>zSR (qv h rfl rfl fun w1 bb1 h=>X1 7 0 h rfl (zcI h hF (qnQ ⟨_,_,rfl,(h.oldS s1)⟩) rfl fun r1 w2 h hF=>X0 8 rfl (qh rfl hF ?_ ?_)))<;>intro hF
 ·exact X0 4 rfl (ri h hF rfl)
 refine X1 6 0 h rfl (zcI h hF (qoU ⟨_,_,rfl,(h.oldS s2)⟩) rfl fun r2 w3 h hF=>X0 8 rfl (qh rfl hF ?_ ?_))<;>intro hF
 ·exact X0 4 rfl (ri h hF rfl)
 refine X1 6 0 h rfl (zcI h hF (qqn ⟨_,_,rfl,(h.oldS s3)⟩) rfl fun r3 w4 h hF=>X0 8 rfl (qh rfl hF ?_ ?_))<;>intro hF
 ·exact X0 4 rfl (ri h hF rfl)
 exact X0 6 rfl (ri h hF rfl)
def qjM (n:Nat) (a:qE) (left:Int):Option Int :=
 (qcf n a.Ak left).bind fun r1 =>
 bif decide (r1<0) then some (-1) else
 (qcf n a.Bs r1).bind fun r2 =>
 bif decide (r2<0) then some (-1) else
 (qcf n a.Bo r2).bind fun r3 =>
 bif decide (r3<0) then some (-1) else
 (qcf n a.Bh r3).bind fun r4 =>
 bif decide (r4<0) then some (-1) else
 some r4
theorem qqC {a:qE} {left:Int} (ha1:GoT.R w (old w) a cs1) {r:Int} (hF:qjM n a left=some r):RetV Tryz.prog 119 [GoT.v qE cs1,.int .i64 left] w r:=by
 obtain ⟨p1,k1,p2,k2,p3,k3,p4,k4,rfl,s1,s2,s3,s4⟩:=qaN ha1
 refine zV 30 Tryz.func119 rfl fun h=>zSR (qv h rfl rfl fun w1 bb1 h=>X1 7 0 h rfl (zcI h hF (qbW ⟨_,_,rfl,(h.oldS s1)⟩) rfl fun r1 w2 h hF=>X0 8 rfl (qh rfl hF ?_ ?_)))<;>intro hF
 ·exact X0 4 rfl (ri h hF rfl)
 refine X1 6 0 h rfl (zcI h hF (qbW ⟨_,_,rfl,(h.oldS s2)⟩) rfl fun r2 w3 h hF=>X0 8 rfl (qh rfl hF ?_ ?_))<;>intro hF
 ·exact X0 4 rfl (ri h hF rfl)
 refine X1 6 0 h rfl (zcI h hF (qbW ⟨_,_,rfl,(h.oldS s3)⟩) rfl fun r3 w4 h hF=>X0 8 rfl (qh rfl hF ?_ ?_))<;>intro hF
 ·exact X0 4 rfl (ri h hF rfl)
 refine X1 6 0 h rfl (zcI h hF (qbW ⟨_,_,rfl,(h.oldS s4)⟩) rfl fun r4 w5 h hF=>X0 8 rfl (qh rfl hF ?_ ?_))<;>intro hF
 ·exact X0 4 rfl (ri h hF rfl)
 exact X0 6 rfl (ri h hF rfl)
def qeU (a:(List qE)):Nat→Int→Int→Option (Flow Int (Int × Int))
 | 0,_,_=>none
 | n+1,i1,i2 =>
  bif decide (i2<(a.length:Int)) then
   (idx a i2).bind fun y1 =>
   (qjM n y1 i1).bind fun r1 =>
   bif decide (r1<0) then some (.ret (-1)) else
   qeU a n r1 (W64 (i2+1))
  else
   some (.nxt (i1,i2))
def ql5 (n:Nat) (a:(List qE)) (left:Int):Option Int :=
 bif decide ((W64 (left-(a.length:Int)))<0) then some (-1) else
 (qeU a n (W64 (left-(a.length:Int))) 0).bind fun o=>match o with
 | .ret r=>some r
 | .nxt (i1,_) =>
  some i1
theorem qqb {a:(List qE)} {left:Int} (ha1:GoT.R w (old w) a cs1) {r:Int} (hF:ql5 n a left=some r):RetV Tryz.prog 43 [GoT.v (List qE) cs1,.int .i64 left] w r:=by
 obtain ⟨p1,k1,rfl,s1⟩:=ha1
 refine zV 27 Tryz.func43 rfl fun h=>X0 18 rfl (qh rfl hF ?_ ?_)<;>intro hF
 ·exact X0 4 rfl (ri h hF rfl)
 refine X0 6 rfl ?_
 obtain ⟨o1,hF,hK1⟩:=qd hF
 refine qm (rL (fun m e w'=>∃ (i1:Int) (i2:Int),qeU a m i1 i2=some o1∧e=[(0,.slice p1 a.length k1),(1,.int .i64 i1),(5,.int .i64 i2)]∧SH w w' []) n ⟨_,_,hF,rfl,h⟩ rfl ?_)
 rintro m1 e1 w1 ⟨i1,i2,hF,rfl,h⟩
 rcases m1 with _|m1
 ·cases hF
 refine X0 8 rfl (qh rfl hF ?_ ?_)<;>intro hF
 ·refine X0 7 rfl ?_
  obtain ⟨y1,hy1,hF,he1,b1,_,q1,cs2,hp1,hq1,hr1,hc3⟩:=s1.ix hF
  obtain ⟨p2,k2,p3,k3,p4,k4,p5,k5,rfl,s2,s3,s4,s5⟩:=qaN hr1
  refine zxe hp1 hq1 he1 rfl (zc 0 (hc3.below h.below) rfl (zp1 rfl (zcI h hF (qqC (qku y1 (h.oldS s2) (h.oldS s3) (h.oldS s4) (h.oldS s5))) rfl fun r1 w2 h hF=>X0 7 rfl (qh rfl hF ?_ ?_))))<;>intro hF
  ·refine X0 4 rfl ?_
   obtain rfl:=qb hF;replace hF:=hK1
   exact ri h hF rfl
  exact X0 7 rfl (rK ⟨_,_,hF,rfl,h⟩ rfl)
 refine qq rfl ?_
 obtain rfl:=qb hF;replace hF:=hK1
 exact X0 5 rfl (ri h hF rfl)
def qkl (n:Nat) (a:qg) (left:Int):Option Int :=
 (qiX n (⟨a.Ar.Ap⟩:qr) left).bind fun r1 =>
 bif decide (r1<0) then some (-1) else
 (qjv n (⟨a.Aa.Ab,a.Aa.Ai,a.Aa.Ah⟩:qf) r1).bind fun r2 =>
 bif decide (r2<0) then some (-1) else
 (ql5 n a.Ac r2).bind fun r3 =>
 bif decide (r3<0) then some (-1) else
 some r3
theorem qql {a:qg} {left:Int} (ha1:GoT.R w (old w) a cs1) {r:Int} (hF:qkl n a left=some r):RetV Tryz.prog 7 [GoT.v qg cs1,.int .i64 left] w r:=by
 obtain ⟨p1,k1,p2,k2,p3,k3,p4,k4,p5,k5,rfl,s1,s2,s3,s4,s5⟩:=qI ha1
 refine zV 24 Tryz.func7 rfl fun h=>zSR (qv h rfl rfl fun w1 bb1 h=>X1 7 0 h rfl (zcI h hF (qou (qd7 _ (h.oldS s1))) rfl fun r1 w2 h hF=>X0 8 rfl (qh rfl hF ?_ ?_)))<;>intro hF
 ·exact X0 4 rfl (ri h hF rfl)
 refine X1 6 0 h rfl (zcI h hF (qpc (qax _ (h.oldS s2) (h.oldS s3) (h.oldS s4))) rfl fun r2 w3 h hF=>X0 8 rfl (qh rfl hF ?_ ?_))<;>intro hF
 ·exact X0 4 rfl (ri h hF rfl)
 refine X1 6 0 h rfl (zcI h hF (qqb ⟨_,_,rfl,(h.oldS s5)⟩) rfl fun r3 w4 h hF=>X0 8 rfl (qh rfl hF ?_ ?_))<;>intro hF
 ·exact X0 4 rfl (ri h hF rfl)
 exact X0 6 rfl (ri h hF rfl)
def qfN (a:(List Int)):Nat→(List Int)→Int→Option ((List Int) × Int)
 | 0,_,_=>none
 | n+1,x2,i1 =>
  bif decide (i1<(a.length:Int)) then
   (idx a i1).bind fun y1 =>
   (idx x2 i1).bind fun _ =>
   qfN a n (setS x2 i1 y1) (W64 (i1+1))
  else
   some (x2,i1)
def qaz (n:Nat) (a:(List Int)):Option (List Int) :=
 (mkS (a.length:Int) (0:Int)).bind fun x1 =>
 (qfN a n x1 0).bind fun o=>match o with
 | (x2,_) =>
  some x2
theorem qB {a:(List Int)} (ha1:GoT.R w (old w) a cs1) {r:(List Int)} (hF:qaz n a=some r):RetV Tryz.prog 28 [GoT.v (List Int) cs1] w r:=by
 obtain ⟨p1,k1,rfl,s1⟩:=ha1
 refine zV 22 Tryz.func28 rfl fun h=>X0 8 rfl ?_
 obtain ⟨x1,hx1,hF⟩:=qd hF
 obtain ⟨g1,g2,hx1⟩:=qV hx1
 refine qam qa Int h rfl rfl rfl rfl rfl rfl rfl rfl rfl g1 g2 hx1 rfl fun w1 S1 p2 h=>X0 7 rfl ?_
 obtain ⟨o1,hF,hK1⟩:=qd hF
 refine qm (rL (fun m e w'=>∃ (x2:(List Int)) (i1:Int),qfN a m x2 i1=some o1∧e=[(0,.slice p1 a.length k1),(3,.slice p2 x1.length x1.length),(4,.int .i64 i1)]∧SH w w' [Ch.own S1 (x2:List Int) [.slice p2 x1.length x1.length]]) n ⟨_,_,hF,rfl,h⟩ rfl ?_)
 rintro m1 e1 w2 ⟨x2,i1,hF,rfl,h⟩
 rcases m1 with _|m1
 ·cases hF
 refine X0 8 rfl (qh rfl hF ?_ ?_)<;>intro hF
 ·refine X0 8 rfl ?_
  obtain ⟨y1,hy1,hF,he1,b1,_,q1,cs2,hp1,hq1,rfl,hc2⟩:=s1.ix hF
  refine zxe hp1 hq1 he1 rfl (zc 0 (hc2.below h.below) rfl ?_)
  obtain ⟨y2,hy2,hF,he2,b2,_,q2,cs3,hp2,hq2,rfl,hc3⟩:=(h.sl 0 rfl).1.ix hF
  exact zx hp2 hq2 ⟨he2.1,qD he2.2.1 (h.sl 0 rfl).2⟩ rfl (qau qa 0 0 y1 h rfl hy2 hp2 hq2 rfl hc3 rfl rfl rfl rfl rfl rfl rfl fun w3 h=>X0 7 rfl (rK ⟨_,_,hF,rfl,h⟩ rfl))
 refine qq rfl ?_
 obtain rfl:=qb hF;replace hF:=hK1
 refine X0 5 rfl ?_
 obtain rfl:=qb hF
 exact rO 0 h rfl ⟨rfl,trivial⟩
def qkJ (_:Nat) (a:qal):Option qal :=
 some (⟨a.Az,a.Br,a.Bo,a.Bn⟩:qal)
theorem qrD {a:qal} (ha1:GoT.R w (old w) a cs1) {r:qal} (hF:qkJ n a=some r):RetV Tryz.prog 289 [GoT.v qal cs1] w r:=by
 obtain rfl:=qaX ha1
 refine zV 17 Tryz.func289 rfl fun h=>zSR (qv h rfl rfl fun w1 bb1 h=>qp qa h rfl rfl rfl fun w2 bb2 h=>zNSR (qp qa h rfl rfl rfl fun w3 bb3 h=>X1 6 2 h rfl (zs 0 h rfl fun w4 h=>X1 6 2 h rfl (zs 0 h rfl fun w5 h=>X1 6 2 h rfl (zs 0 h rfl fun w6 h=>X1 6 2 h rfl (zs 0 h rfl fun w7 h=>X1 4 0 h rfl (zs 1 h rfl fun w8 h=>qc6 ?_)))))))
 obtain rfl:=qb hF
 exact qab qa (ρ:=qal) [GoT.v qal (qpv a)] h ⟨⟨_,_,_,rfl,rfl,h.box 1 rfl,rfl⟩,trivial⟩ (PV.done h (qaj (qz (S:=fun _=>False) (qd5 (⟨a.Az,a.Br,a.Bo,a.Bn⟩:qal)))))
def qha (a:(List qal)):Nat→(List qal)→Int→Option ((List qal) × Int)
 | 0,_,_=>none
 | n+1,x2,i1 =>
  bif decide (i1<(a.length:Int)) then
   (idx a i1).bind fun y1 =>
   (qkJ n y1).bind fun r1 =>
   (idx x2 i1).bind fun _ =>
   qha a n (setS x2 i1 r1) (W64 (i1+1))
  else
   some (x2,i1)
def qla (n:Nat) (a:(List qal)):Option (List qal) :=
 (mkS (a.length:Int) ((⟨ByteArray.empty,0,0,false⟩:qal):qal)).bind fun x1 =>
 (qha a n x1 0).bind fun o=>match o with
 | (x2,_) =>
  some x2
theorem qqS {a:(List qal)} (ha1:GoT.R w (old w) a cs1) {r:(List qal)} (hF:qla n a=some r):RetV Tryz.prog 252 [GoT.v (List qal) cs1] w r:=by
 obtain ⟨p1,k1,rfl,s1⟩:=ha1
 refine zV 23 Tryz.func252 rfl fun h=>X0 8 rfl ?_
 obtain ⟨x1,hx1,hF⟩:=qd hF
 obtain ⟨g1,g2,hx1⟩:=qV hx1
 refine qam qa qal h rfl rfl rfl rfl rfl rfl rfl rfl rfl g1 g2 hx1 rfl fun w1 S1 p2 h=>X0 7 rfl ?_
 obtain ⟨o1,hF,hK1⟩:=qd hF
 refine qm (rL (fun m e w'=>∃ (x2:(List qal)) (i1:Int),qha a m x2 i1=some o1∧e=[(0,.slice p1 a.length k1),(3,.slice p2 x1.length x1.length),(4,.int .i64 i1)]∧SH w w' [Ch.own S1 (x2:List qal) [.slice p2 x1.length x1.length]]) n ⟨_,_,hF,rfl,h⟩ rfl ?_)
 rintro m1 e1 w2 ⟨x2,i1,hF,rfl,h⟩
 rcases m1 with _|m1
 ·cases hF
 refine X0 8 rfl (qh rfl hF ?_ ?_)<;>intro hF
 ·refine X0 8 rfl ?_
  obtain ⟨y1,hy1,hF,he1,b1,_,q1,cs2,hp1,hq1,hr1,hc2⟩:=s1.ix hF
  obtain rfl:=qaX hr1
  refine zxe hp1 hq1 he1 rfl (zc 0 (hc2.below h.below) rfl (zcO h hF (qrD (qd5 y1)) rfl fun r1 w3 S2 cs3 h hF=>?_))
  obtain rfl:=qaX (h.own 0 rfl)
  obtain ⟨y2,hy2,hF,he2,b2,_,q2,cs4,hp2,hq2,hr3,hc3⟩:=(h.sl 1 rfl).1.ix hF
  obtain rfl:=qaX hr3
  refine zx hp2 hq2 ⟨he2.1,qD he2.2.1 (h.sl 1 rfl).2⟩ rfl (qau qa 1 0 r1 h rfl hy2 hp2 hq2 (qd5 y2) hc3 rfl rfl rfl (qd5 r1) rfl rfl rfl fun w4 h=>X0 7 rfl ?_)
  replace h:=h.pick [1] rfl
  exact rK ⟨_,_,hF,rfl,h⟩ rfl
 refine qq rfl ?_
 obtain rfl:=qb hF;replace hF:=hK1
 refine X0 5 rfl ?_
 obtain rfl:=qb hF
 exact rO 0 h rfl ⟨rfl,trivial⟩
def qiy (n:Nat) (a:qt):Option qt :=
 (qaz n a.Bi).bind fun r1 =>
 (qaz n a.Bb).bind fun r2 =>
 (qaz n a.Ba).bind fun r3 =>
 some (⟨r1,r2,r3⟩:qt)
theorem qqh {a:qt} (ha1:GoT.R w (old w) a cs1) {r:qt} (hF:qiy n a=some r):RetV Tryz.prog 326 [GoT.v qt cs1] w r:=by
 obtain ⟨p1,k1,p2,k2,p3,k3,rfl,s1,s2,s3⟩:=qaG ha1
 refine zV 17 Tryz.func326 rfl fun h=>zSR (qv h rfl rfl fun w1 bb1 h=>qp qa h rfl rfl rfl fun w2 bb2 h=>zNSR (qp qa h rfl rfl rfl fun w3 bb3 h=>X1 5 2 h rfl (zcL h hF (qB ⟨_,_,rfl,(h.oldS s1)⟩) rfl fun r1 w4 S1 p4 k4 h hF=>zp1 rfl (zs 1 h rfl fun w5 h=>X1 5 3 h rfl (zcL h hF (qB ⟨_,_,rfl,(h.oldS s2)⟩) rfl fun r2 w6 S2 p5 k5 h hF=>zp1 rfl (zs 2 h rfl fun w7 h=>X1 5 4 h rfl (zcL h hF (qB ⟨_,_,rfl,(h.oldS s3)⟩) rfl fun r3 w8 S3 p6 k6 h hF=>zp1 rfl (zs 3 h rfl fun w9 h=>X1 4 3 h rfl (zs 4 h rfl fun w10 h=>qc6 ?_)))))))))
 obtain rfl:=qb hF
 exact qab qa (ρ:=qt) [GoT.v qt [.slice p4 r1.length k4,.slice p5 r2.length k5,.slice p6 r3.length k6]] h ⟨⟨_,_,_,rfl,rfl,h.box 4 rfl,rfl⟩,trivial⟩ (PV.done h (qaj (qsh (⟨r1,r2,r3⟩:qt) h (qap 2 h rfl) (qap 1 h rfl) (qap 0 h rfl) (by rfl) (by rfl))))
def qfT (a:(List qt)):Nat→(List qt)→Int→Option ((List qt) × Int)
 | 0,_,_=>none
 | n+1,x2,i1 =>
  bif decide (i1<(a.length:Int)) then
   (idx a i1).bind fun y1 =>
   (qiy n y1).bind fun r1 =>
   (idx x2 i1).bind fun _ =>
   qfT a n (setS x2 i1 r1) (W64 (i1+1))
  else
   some (x2,i1)
def qhQ (n:Nat) (a:(List qt)):Option (List qt) :=
 (mkS (a.length:Int) ((⟨[],[],[]⟩:qt):qt)).bind fun x1 =>
 (qfT a n x1 0).bind fun o=>match o with
 | (x2,_) =>
  some x2
theorem ql3 {a:(List qt)} (ha1:GoT.R w (old w) a cs1) {r:(List qt)} (hF:qhQ n a=some r):RetV Tryz.prog 311 [GoT.v (List qt) cs1] w r:=by
 obtain ⟨p1,k1,rfl,s1⟩:=ha1
 refine zV 23 Tryz.func311 rfl fun h=>X0 8 rfl ?_
 obtain ⟨x1,hx1,hF⟩:=qd hF
 obtain ⟨g1,g2,hx1⟩:=qV hx1
 refine qam qa qt h rfl rfl rfl rfl rfl rfl rfl rfl rfl g1 g2 hx1 rfl fun w1 S1 p2 h=>X0 7 rfl ?_
 obtain ⟨o1,hF,hK1⟩:=qd hF
 refine qm (rL (fun m e w'=>∃ (S2:Nat→Prop) (x2:(List qt)) (i1:Int),qfT a m x2 i1=some o1∧e=[(0,.slice p1 a.length k1),(3,.slice p2 x1.length x1.length),(4,.int .i64 i1)]∧SH w w' [Ch.own S2 (x2:List qt) [.slice p2 x1.length x1.length]]) n ⟨_,_,_,hF,rfl,h⟩ rfl ?_)
 rintro m1 e1 w2 ⟨S2,x2,i1,hF,rfl,h⟩
 rcases m1 with _|m1
 ·cases hF
 refine X0 8 rfl (qh rfl hF ?_ ?_)<;>intro hF
 ·refine X0 8 rfl ?_
  obtain ⟨y1,hy1,hF,he1,b1,_,q1,cs2,hp1,hq1,hr1,hc2⟩:=s1.ix hF
  obtain ⟨p3,k2,p4,k3,p5,k4,rfl,s2,s3,s4⟩:=qaG hr1
  refine zxe hp1 hq1 he1 rfl (zc 0 (hc2.below h.below) rfl (zcO h hF (qqh (qfq y1 (h.oldS s2) (h.oldS s3) (h.oldS s4))) rfl fun r1 w3 S3 cs3 h hF=>?_))
  obtain ⟨p6,k5,p7,k6,p8,k7,rfl,-,-,-⟩:=qaG (h.own 0 rfl)
  obtain ⟨y2,hy2,hF⟩:=qd hF
  have he2:=qcI hy2
  replace h:=h.lrn0 1 rfl
  obtain ⟨b2,o_2,q2,cs4,hp2,hq2,-,hr3,hc3⟩:=(qlw (h.lrnO 1 rfl)).1.at hy2
  have hr4:=hr3
  obtain ⟨p9,k8,p10,k9,p11,k10,rfl,s8,s9,s10⟩:=qaG hr3
  replace h:=h.lrnAdd 1 rfl hr4
  refine zx hp2 hq2 ⟨he2.1,qD he2.2.1 (qlw (h.lrnO 1 rfl)).2⟩ rfl ?_
  replace h:=h.unlrn 1 rfl
  exact qmT qa r1 h hy2 hp2 hq2 rfl rfl rfl rfl rfl fun w4 S4 h=>X0 7 rfl (rK ⟨_,_,_,hF,rfl,h⟩ rfl)
 refine qq rfl ?_
 obtain rfl:=qb hF;replace hF:=hK1
 refine X0 5 rfl ?_
 obtain rfl:=qb hF
 exact rO 0 h rfl ⟨rfl,trivial⟩
def qkY (n:Nat) (a:qG):Option qG :=
 (qhQ n a.Bj).bind fun r1 =>
 (qhQ n a.Aq).bind fun r2 =>
 some (⟨a.Av,a.Be,a.To,a.Bl,r1,r2⟩:qG)
theorem qrH {a:qG} (ha1:GoT.R w (old w) a cs1) {r:qG} (hF:qkY n a=some r):RetV Tryz.prog 290 [GoT.v qG cs1] w r:=by
 obtain ⟨p1,k1,p2,k2,rfl,s1,s2⟩:=qai ha1
 refine zV 25 Tryz.func290 rfl fun h=>zSR (qv h rfl rfl fun w1 bb1 h=>qp qa h rfl rfl rfl fun w2 bb2 h=>zNSR (qp qa h rfl rfl rfl fun w3 bb3 h=>X1 6 2 h rfl (zs 0 h rfl fun w4 h=>X1 6 2 h rfl (zs 0 h rfl fun w5 h=>X1 6 2 h rfl (zs 0 h rfl fun w6 h=>X1 6 2 h rfl (zs 0 h rfl fun w7 h=>X1 5 2 h rfl (zcL h hF (ql3 ⟨_,_,rfl,(h.oldS s1)⟩) rfl fun r1 w8 S1 p3 k3 h hF=>zp1 rfl (zs 1 h rfl fun w9 h=>X1 5 3 h rfl (zcL h hF (ql3 ⟨_,_,rfl,(h.oldS s2)⟩) rfl fun r2 w10 S2 p4 k4 h hF=>zp1 rfl (zs 2 h rfl fun w11 h=>X1 4 2 h rfl (zs 3 h rfl fun w12 h=>qc6 ?_)))))))))))
 obtain rfl:=qb hF
 exact qab qa (ρ:=qG) [GoT.v qG [.int .i64 a.Av,.int .i64 a.Be,.int .i64 a.To,.int .i64 a.Bl,.slice p3 r1.length k3,.slice p4 r2.length k4]] h ⟨⟨_,_,_,rfl,rfl,h.box 3 rfl,rfl⟩,trivial⟩ (PV.done h (qaj (qve (⟨a.Av,a.Be,a.To,a.Bl,r1,r2⟩:qG) h (qz (S:=fun _=>False) rfl) (qz (S:=fun _=>False) rfl) (qz (S:=fun _=>False) rfl) (qz (S:=fun _=>False) rfl) (qap 1 h rfl) (qap 0 h rfl) (by rfl) (by rfl) (by rfl) (by rfl) (by rfl))))
def qhc (a:(List qG)):Nat→(List qG)→Int→Option ((List qG) × Int)
 | 0,_,_=>none
 | n+1,x2,i1 =>
  bif decide (i1<(a.length:Int)) then
   (idx a i1).bind fun y1 =>
   (qkY n y1).bind fun r1 =>
   (idx x2 i1).bind fun _ =>
   qhc a n (setS x2 i1 r1) (W64 (i1+1))
  else
   some (x2,i1)
def qld (n:Nat) (a:(List qG)):Option (List qG) :=
 (mkS (a.length:Int) ((⟨0,0,0,0,[],[]⟩:qG):qG)).bind fun x1 =>
 (qhc a n x1 0).bind fun o=>match o with
 | (x2,_) =>
  some x2
theorem qqA {a:(List qG)} (ha1:GoT.R w (old w) a cs1) {r:(List qG)} (hF:qld n a=some r):RetV Tryz.prog 253 [GoT.v (List qG) cs1] w r:=by
 obtain ⟨p1,k1,rfl,s1⟩:=ha1
 refine zV 23 Tryz.func253 rfl fun h=>X0 8 rfl ?_
 obtain ⟨x1,hx1,hF⟩:=qd hF
 obtain ⟨g1,g2,hx1⟩:=qV hx1
 refine qam qa qG h rfl rfl rfl rfl rfl rfl rfl rfl rfl g1 g2 hx1 rfl fun w1 S1 p2 h=>X0 7 rfl ?_
 obtain ⟨o1,hF,hK1⟩:=qd hF
 refine qm (rL (fun m e w'=>∃ (S2:Nat→Prop) (x2:(List qG)) (i1:Int),qhc a m x2 i1=some o1∧e=[(0,.slice p1 a.length k1),(3,.slice p2 x1.length x1.length),(4,.int .i64 i1)]∧SH w w' [Ch.own S2 (x2:List qG) [.slice p2 x1.length x1.length]]) n ⟨_,_,_,hF,rfl,h⟩ rfl ?_)
 rintro m1 e1 w2 ⟨S2,x2,i1,hF,rfl,h⟩
 rcases m1 with _|m1
 ·cases hF
 refine X0 8 rfl (qh rfl hF ?_ ?_)<;>intro hF
 ·refine X0 8 rfl ?_
  obtain ⟨y1,hy1,hF,he1,b1,_,q1,cs2,hp1,hq1,hr1,hc2⟩:=s1.ix hF
  obtain ⟨p3,k2,p4,k3,rfl,s2,s3⟩:=qai hr1
  refine zxe hp1 hq1 he1 rfl (zc 0 (hc2.below h.below) rfl (zcO h hF (qrH (qfR y1 (h.oldS s2) (h.oldS s3))) rfl fun r1 w3 S3 cs3 h hF=>?_))
  obtain ⟨p5,k4,p6,k5,rfl,-,-⟩:=qai (h.own 0 rfl)
  obtain ⟨y2,hy2,hF⟩:=qd hF
  have he2:=qcI hy2
  replace h:=h.lrn0 1 rfl
  obtain ⟨b2,o_2,q2,cs4,hp2,hq2,-,hr3,hc3⟩:=(qlw (h.lrnO 1 rfl)).1.at hy2
  have hr4:=hr3
  obtain ⟨p7,k6,p8,k7,rfl,s6,s7⟩:=qai hr3
  replace h:=h.lrnAdd 1 rfl hr4
  refine zx hp2 hq2 ⟨he2.1,qD he2.2.1 (qlw (h.lrnO 1 rfl)).2⟩ rfl ?_
  replace h:=h.unlrn 1 rfl
  exact qmT qa r1 h hy2 hp2 hq2 rfl rfl rfl rfl rfl fun w4 S4 h=>X0 7 rfl (rK ⟨_,_,_,hF,rfl,h⟩ rfl)
 refine qq rfl ?_
 obtain rfl:=qb hF;replace hF:=hK1
 refine X0 5 rfl ?_
 obtain rfl:=qb hF
 exact rO 0 h rfl ⟨rfl,trivial⟩
def qjN (n:Nat) (a:qw):Option qw :=
 (qla n a.Au).bind fun r1 =>
 (qld n a.As).bind fun r2 =>
 (qaz n a.Bk).bind fun r3 =>
 some (⟨a.Az,a.Av,r1,r2,r3,a.Bw,a.Bq⟩:qw)
theorem qqU {a:qw} (ha1:GoT.R w (old w) a cs1) {r:qw} (hF:qjN n a=some r):RetV Tryz.prog 199 [GoT.v qw cs1] w r:=by
 obtain ⟨p1,k1,p2,k2,p3,k3,rfl,s1,s2,s3⟩:=qae ha1
 refine zV 29 Tryz.func199 rfl fun h=>zSR (qv h rfl rfl fun w1 bb1 h=>qp qa h rfl rfl rfl fun w2 bb2 h=>zNSR (qp qa h rfl rfl rfl fun w3 bb3 h=>X1 6 2 h rfl (zs 0 h rfl fun w4 h=>X1 6 2 h rfl (zs 0 h rfl fun w5 h=>X1 5 2 h rfl (zcL h hF (qqS ⟨_,_,rfl,(h.oldS s1)⟩) rfl fun r1 w6 S1 p4 k4 h hF=>zp1 rfl (zs 1 h rfl fun w7 h=>X1 5 3 h rfl (zcL h hF (qqA ⟨_,_,rfl,(h.oldS s2)⟩) rfl fun r2 w8 S2 p5 k5 h hF=>zp1 rfl (zs 2 h rfl fun w9 h=>X1 5 4 h rfl (zcL h hF (qB ⟨_,_,rfl,(h.oldS s3)⟩) rfl fun r3 w10 S3 p6 k6 h hF=>zp1 rfl (zs 3 h rfl fun w11 h=>X1 6 5 h rfl (zs 3 h rfl fun w12 h=>X1 6 5 h rfl (zs 3 h rfl fun w13 h=>X1 4 3 h rfl (zs 4 h rfl fun w14 h=>qc6 ?_)))))))))))))
 obtain rfl:=qb hF
 exact qab qa (ρ:=qw) [GoT.v qw [.string a.Az,.int .i64 a.Av,.slice p4 r1.length k4,.slice p5 r2.length k5,.slice p6 r3.length k6,.int .i64 a.Bw,.int .i64 a.Bq]] h ⟨⟨_,_,_,rfl,rfl,h.box 4 rfl,rfl⟩,trivial⟩ (PV.done h (qaj (qt2 (⟨a.Az,a.Av,r1,r2,r3,a.Bw,a.Bq⟩:qw) h (qz (S:=fun _=>False) rfl) (qz (S:=fun _=>False) rfl) (qap 2 h rfl) (qap 1 h rfl) (qap 0 h rfl) (qz (S:=fun _=>False) rfl) (qz (S:=fun _=>False) rfl) (by rfl) (by rfl) (by rfl) (by rfl) (by rfl) (by rfl))))
def qgv (a:(List qw)):Nat→(List qw)→Int→Option ((List qw) × Int)
 | 0,_,_=>none
 | n+1,x2,i1 =>
  bif decide (i1<(a.length:Int)) then
   (idx a i1).bind fun y1 =>
   (qjN n y1).bind fun r1 =>
   (idx x2 i1).bind fun _ =>
   qgv a n (setS x2 i1 r1) (W64 (i1+1))
  else
   some (x2,i1)
def qkf (n:Nat) (a:(List qw)):Option (List qw) :=
 (mkS (a.length:Int) ((⟨ByteArray.empty,0,[],[],[],0,0⟩:qw):qw)).bind fun x1 =>
 (qgv a n x1 0).bind fun o=>match o with
 | (x2,_) =>
  some x2
theorem qqc {a:(List qw)} (ha1:GoT.R w (old w) a cs1) {r:(List qw)} (hF:qkf n a=some r):RetV Tryz.prog 122 [GoT.v (List qw) cs1] w r:=by
 obtain ⟨p1,k1,rfl,s1⟩:=ha1
 refine zV 23 Tryz.func122 rfl fun h=>X0 8 rfl ?_
 obtain ⟨x1,hx1,hF⟩:=qd hF
 obtain ⟨g1,g2,hx1⟩:=qV hx1
 refine qam qa qw h rfl rfl rfl rfl rfl rfl rfl rfl rfl g1 g2 hx1 rfl fun w1 S1 p2 h=>X0 7 rfl ?_
 obtain ⟨o1,hF,hK1⟩:=qd hF
 refine qm (rL (fun m e w'=>∃ (S2:Nat→Prop) (x2:(List qw)) (i1:Int),qgv a m x2 i1=some o1∧e=[(0,.slice p1 a.length k1),(3,.slice p2 x1.length x1.length),(4,.int .i64 i1)]∧SH w w' [Ch.own S2 (x2:List qw) [.slice p2 x1.length x1.length]]) n ⟨_,_,_,hF,rfl,h⟩ rfl ?_)
 rintro m1 e1 w2 ⟨S2,x2,i1,hF,rfl,h⟩
 rcases m1 with _|m1
 ·cases hF
 refine X0 8 rfl (qh rfl hF ?_ ?_)<;>intro hF
 ·refine X0 8 rfl ?_
  obtain ⟨y1,hy1,hF,he1,b1,_,q1,cs2,hp1,hq1,hr1,hc2⟩:=s1.ix hF
  obtain ⟨p3,k2,p4,k3,p5,k4,rfl,s2,s3,s4⟩:=qae hr1
  refine zxe hp1 hq1 he1 rfl (zc 0 (hc2.below h.below) rfl (zcO h hF (qqU (qkp y1 (h.oldS s2) (h.oldS s3) (h.oldS s4))) rfl fun r1 w3 S3 cs3 h hF=>?_))
  obtain ⟨p6,k5,p7,k6,p8,k7,rfl,-,-,-⟩:=qae (h.own 0 rfl)
  obtain ⟨y2,hy2,hF⟩:=qd hF
  have he2:=qcI hy2
  replace h:=h.lrn0 1 rfl
  obtain ⟨b2,o_2,q2,cs4,hp2,hq2,-,hr3,hc3⟩:=(qlw (h.lrnO 1 rfl)).1.at hy2
  have hr4:=hr3
  obtain ⟨p9,k8,p10,k9,p11,k10,rfl,s8,s9,s10⟩:=qae hr3
  replace h:=h.lrnAdd 1 rfl hr4
  refine zx hp2 hq2 ⟨he2.1,qD he2.2.1 (qlw (h.lrnO 1 rfl)).2⟩ rfl ?_
  replace h:=h.unlrn 1 rfl
  exact qmT qa r1 h hy2 hp2 hq2 rfl rfl rfl rfl rfl fun w4 S4 h=>X0 7 rfl (rK ⟨_,_,_,hF,rfl,h⟩ rfl)
 refine qq rfl ?_
 obtain rfl:=qb hF;replace hF:=hK1
 refine X0 5 rfl ?_
 obtain rfl:=qb hF
 exact rO 0 h rfl ⟨rfl,trivial⟩
def qiB (n:Nat) (a:qr):Option qr :=
 (qkf n a.Ap).bind fun r1 =>
 some (⟨r1⟩:qr)
theorem qor {a:qr} (ha1:GoT.R w (old w) a cs1) {r:qr} (hF:qiB n a=some r):RetV Tryz.prog 49 [GoT.v qr cs1] w r:=by
 obtain ⟨p1,k1,rfl,s1⟩:=qbG ha1
 refine zV 9 Tryz.func49 rfl fun h=>zSR (qv h rfl rfl fun w1 bb1 h=>qp qa h rfl rfl rfl fun w2 bb2 h=>zNSR (qp qa h rfl rfl rfl fun w3 bb3 h=>X1 5 2 h rfl (zcL h hF (qqc ⟨_,_,rfl,(h.oldS s1)⟩) rfl fun r1 w4 S1 p2 k2 h hF=>zp1 rfl (zs 1 h rfl fun w5 h=>X1 4 1 h rfl (zs 2 h rfl fun w6 h=>qc6 ?_)))))
 obtain rfl:=qb hF
 exact qab qa (ρ:=qr) [GoT.v qr [.slice p2 r1.length k2]] h ⟨⟨_,_,_,rfl,rfl,h.box 2 rfl,rfl⟩,trivial⟩ (PV.done h (qaj (qub (⟨r1⟩:qr) h (qap 0 h rfl) )))
def qgr (n:Nat) (a:qi):Option qi :=
 (qaz n a.Ai).bind fun r1 =>
 some (⟨a.Az,a.Bp,r1⟩:qi)
theorem qof {a:qi} (ha1:GoT.R w (old w) a cs1) {r:qi} (hF:qgr n a=some r):RetV Tryz.prog 200 [GoT.v qi cs1] w r:=by
 obtain ⟨p1,k1,rfl,s1⟩:=qO ha1
 refine zV 15 Tryz.func200 rfl fun h=>zSR (qv h rfl rfl fun w1 bb1 h=>qp qa h rfl rfl rfl fun w2 bb2 h=>zNSR (qp qa h rfl rfl rfl fun w3 bb3 h=>X1 6 2 h rfl (zs 0 h rfl fun w4 h=>X1 6 2 h rfl (zs 0 h rfl fun w5 h=>X1 5 2 h rfl (zcL h hF (qB ⟨_,_,rfl,(h.oldS s1)⟩) rfl fun r1 w6 S1 p2 k2 h hF=>zp1 rfl (zs 1 h rfl fun w7 h=>X1 4 1 h rfl (zs 2 h rfl fun w8 h=>qc6 ?_)))))))
 obtain rfl:=qb hF
 exact qab qa (ρ:=qi) [GoT.v qi [.string a.Az,.int .i64 a.Bp,.slice p2 r1.length k2]] h ⟨⟨_,_,_,rfl,rfl,h.box 2 rfl,rfl⟩,trivial⟩ (PV.done h (qaj (qoT (⟨a.Az,a.Bp,r1⟩:qi) h (qz (S:=fun _=>False) rfl) (qz (S:=fun _=>False) rfl) (qap 0 h rfl) (by rfl) (by rfl))))
def qd1 (a:(List qi)):Nat→(List qi)→Int→Option ((List qi) × Int)
 | 0,_,_=>none
 | n+1,x2,i1 =>
  bif decide (i1<(a.length:Int)) then
   (idx a i1).bind fun y1 =>
   (qgr n y1).bind fun r1 =>
   (idx x2 i1).bind fun _ =>
   qd1 a n (setS x2 i1 r1) (W64 (i1+1))
  else
   some (x2,i1)
def qhz (n:Nat) (a:(List qi)):Option (List qi) :=
 (mkS (a.length:Int) ((⟨ByteArray.empty,0,[]⟩:qi):qi)).bind fun x1 =>
 (qd1 a n x1 0).bind fun o=>match o with
 | (x2,_) =>
  some x2
theorem qnK {a:(List qi)} (ha1:GoT.R w (old w) a cs1) {r:(List qi)} (hF:qhz n a=some r):RetV Tryz.prog 123 [GoT.v (List qi) cs1] w r:=by
 obtain ⟨p1,k1,rfl,s1⟩:=ha1
 refine zV 23 Tryz.func123 rfl fun h=>X0 8 rfl ?_
 obtain ⟨x1,hx1,hF⟩:=qd hF
 obtain ⟨g1,g2,hx1⟩:=qV hx1
 refine qam qa qi h rfl rfl rfl rfl rfl rfl rfl rfl rfl g1 g2 hx1 rfl fun w1 S1 p2 h=>X0 7 rfl ?_
 obtain ⟨o1,hF,hK1⟩:=qd hF
 refine qm (rL (fun m e w'=>∃ (S2:Nat→Prop) (x2:(List qi)) (i1:Int),qd1 a m x2 i1=some o1∧e=[(0,.slice p1 a.length k1),(3,.slice p2 x1.length x1.length),(4,.int .i64 i1)]∧SH w w' [Ch.own S2 (x2:List qi) [.slice p2 x1.length x1.length]]) n ⟨_,_,_,hF,rfl,h⟩ rfl ?_)
 rintro m1 e1 w2 ⟨S2,x2,i1,hF,rfl,h⟩
 rcases m1 with _|m1
 ·cases hF
 refine X0 8 rfl (qh rfl hF ?_ ?_)<;>intro hF
 ·refine X0 8 rfl ?_
  obtain ⟨y1,hy1,hF,he1,b1,_,q1,cs2,hp1,hq1,hr1,hc2⟩:=s1.ix hF
  obtain ⟨p3,k2,rfl,s2⟩:=qO hr1
  refine zxe hp1 hq1 he1 rfl (zc 0 (hc2.below h.below) rfl (zcO h hF (qof (qgz y1 (h.oldS s2))) rfl fun r1 w3 S3 cs3 h hF=>?_))
  obtain ⟨p4,k3,rfl,-⟩:=qO (h.own 0 rfl)
  obtain ⟨y2,hy2,hF⟩:=qd hF
  have he2:=qcI hy2
  replace h:=h.lrn0 1 rfl
  obtain ⟨b2,o_2,q2,cs4,hp2,hq2,-,hr3,hc3⟩:=(qlw (h.lrnO 1 rfl)).1.at hy2
  have hr4:=hr3
  obtain ⟨p5,k4,rfl,s4⟩:=qO hr3
  replace h:=h.lrnAdd 1 rfl hr4
  refine zx hp2 hq2 ⟨he2.1,qD he2.2.1 (qlw (h.lrnO 1 rfl)).2⟩ rfl ?_
  replace h:=h.unlrn 1 rfl
  exact qmT qa r1 h hy2 hp2 hq2 rfl rfl rfl rfl rfl fun w4 S4 h=>X0 7 rfl (rK ⟨_,_,_,hF,rfl,h⟩ rfl)
 refine qq rfl ?_
 obtain rfl:=qb hF;replace hF:=hK1
 refine X0 5 rfl ?_
 obtain rfl:=qb hF
 exact rO 0 h rfl ⟨rfl,trivial⟩
def qe3 (a:(List ByteArray)):Nat→(List ByteArray)→Int→Option ((List ByteArray) × Int)
 | 0,_,_=>none
 | n+1,x2,i1 =>
  bif decide (i1<(a.length:Int)) then
   (idx a i1).bind fun y1 =>
   (idx x2 i1).bind fun _ =>
   qe3 a n (setS x2 i1 y1) (W64 (i1+1))
  else
   some (x2,i1)
def qiI (n:Nat) (a:(List ByteArray)):Option (List ByteArray) :=
 (mkS (a.length:Int) (ByteArray.empty:ByteArray)).bind fun x1 =>
 (qe3 a n x1 0).bind fun o=>match o with
 | (x2,_) =>
  some x2
theorem qoV {a:(List ByteArray)} (ha1:GoT.R w (old w) a cs1) {r:(List ByteArray)} (hF:qiI n a=some r):RetV Tryz.prog 124 [GoT.v (List ByteArray) cs1] w r:=by
 obtain ⟨p1,k1,rfl,s1⟩:=ha1
 refine zV 22 Tryz.func124 rfl fun h=>X0 8 rfl ?_
 obtain ⟨x1,hx1,hF⟩:=qd hF
 obtain ⟨g1,g2,hx1⟩:=qV hx1
 refine qam qa ByteArray h rfl rfl rfl rfl rfl rfl rfl rfl rfl g1 g2 hx1 rfl fun w1 S1 p2 h=>X0 7 rfl ?_
 obtain ⟨o1,hF,hK1⟩:=qd hF
 refine qm (rL (fun m e w'=>∃ (x2:(List ByteArray)) (i1:Int),qe3 a m x2 i1=some o1∧e=[(0,.slice p1 a.length k1),(3,.slice p2 x1.length x1.length),(4,.int .i64 i1)]∧SH w w' [Ch.own S1 (x2:List ByteArray) [.slice p2 x1.length x1.length]]) n ⟨_,_,hF,rfl,h⟩ rfl ?_)
 rintro m1 e1 w2 ⟨x2,i1,hF,rfl,h⟩
 rcases m1 with _|m1
 ·cases hF
 refine X0 8 rfl (qh rfl hF ?_ ?_)<;>intro hF
 ·refine X0 8 rfl ?_
  obtain ⟨y1,hy1,hF,he1,b1,_,q1,cs2,hp1,hq1,rfl,hc2⟩:=s1.ix hF
  refine zxe hp1 hq1 he1 rfl (zc 0 (hc2.below h.below) rfl ?_)
  obtain ⟨y2,hy2,hF,he2,b2,_,q2,cs3,hp2,hq2,rfl,hc3⟩:=(h.sl 0 rfl).1.ix hF
  exact zx hp2 hq2 ⟨he2.1,qD he2.2.1 (h.sl 0 rfl).2⟩ rfl (qau qa 0 0 y1 h rfl hy2 hp2 hq2 rfl hc3 rfl rfl rfl rfl rfl rfl rfl fun w3 h=>X0 7 rfl (rK ⟨_,_,hF,rfl,h⟩ rfl))
 refine qq rfl ?_
 obtain rfl:=qb hF;replace hF:=hK1
 refine X0 5 rfl ?_
 obtain rfl:=qb hF
 exact rO 0 h rfl ⟨rfl,trivial⟩
def qjJ (_:Nat) (a:qP):Option qP :=
 some (⟨a.Az,a.Br,a.Bt⟩:qP)
theorem qqY {a:qP} (ha1:GoT.R w (old w) a cs1) {r:qP} (hF:qjJ n a=some r):RetV Tryz.prog 201 [GoT.v qP cs1] w r:=by
 obtain rfl:=qaS ha1
 refine zV 14 Tryz.func201 rfl fun h=>zSR (qv h rfl rfl fun w1 bb1 h=>qp qa h rfl rfl rfl fun w2 bb2 h=>zNSR (qp qa h rfl rfl rfl fun w3 bb3 h=>X1 6 2 h rfl (zs 0 h rfl fun w4 h=>X1 6 2 h rfl (zs 0 h rfl fun w5 h=>X1 6 2 h rfl (zs 0 h rfl fun w6 h=>X1 4 0 h rfl (zs 1 h rfl fun w7 h=>qc6 ?_))))))
 obtain rfl:=qb hF
 exact qab qa (ρ:=qP) [GoT.v qP (qqz a)] h ⟨⟨_,_,_,rfl,rfl,h.box 1 rfl,rfl⟩,trivial⟩ (PV.done h (qaj (qz (S:=fun _=>False) (qes (⟨a.Az,a.Br,a.Bt⟩:qP)))))
def qgh (a:(List qP)):Nat→(List qP)→Int→Option ((List qP) × Int)
 | 0,_,_=>none
 | n+1,x2,i1 =>
  bif decide (i1<(a.length:Int)) then
   (idx a i1).bind fun y1 =>
   (qjJ n y1).bind fun r1 =>
   (idx x2 i1).bind fun _ =>
   qgh a n (setS x2 i1 r1) (W64 (i1+1))
  else
   some (x2,i1)
def qkg (n:Nat) (a:(List qP)):Option (List qP) :=
 (mkS (a.length:Int) ((⟨ByteArray.empty,0,0⟩:qP):qP)).bind fun x1 =>
 (qgh a n x1 0).bind fun o=>match o with
 | (x2,_) =>
  some x2
theorem qqo {a:(List qP)} (ha1:GoT.R w (old w) a cs1) {r:(List qP)} (hF:qkg n a=some r):RetV Tryz.prog 125 [GoT.v (List qP) cs1] w r:=by
 obtain ⟨p1,k1,rfl,s1⟩:=ha1
 refine zV 23 Tryz.func125 rfl fun h=>X0 8 rfl ?_
 obtain ⟨x1,hx1,hF⟩:=qd hF
 obtain ⟨g1,g2,hx1⟩:=qV hx1
 refine qam qa qP h rfl rfl rfl rfl rfl rfl rfl rfl rfl g1 g2 hx1 rfl fun w1 S1 p2 h=>X0 7 rfl ?_
 obtain ⟨o1,hF,hK1⟩:=qd hF
 refine qm (rL (fun m e w'=>∃ (x2:(List qP)) (i1:Int),qgh a m x2 i1=some o1∧e=[(0,.slice p1 a.length k1),(3,.slice p2 x1.length x1.length),(4,.int .i64 i1)]∧SH w w' [Ch.own S1 (x2:List qP) [.slice p2 x1.length x1.length]]) n ⟨_,_,hF,rfl,h⟩ rfl ?_)
 rintro m1 e1 w2 ⟨x2,i1,hF,rfl,h⟩
 rcases m1 with _|m1
 ·cases hF
 refine X0 8 rfl (qh rfl hF ?_ ?_)<;>intro hF
 ·refine X0 8 rfl ?_
  obtain ⟨y1,hy1,hF,he1,b1,_,q1,cs2,hp1,hq1,hr1,hc2⟩:=s1.ix hF
  obtain rfl:=qaS hr1
  refine zxe hp1 hq1 he1 rfl (zc 0 (hc2.below h.below) rfl (zcO h hF (qqY (qes y1)) rfl fun r1 w3 S2 cs3 h hF=>?_))
  obtain rfl:=qaS (h.own 0 rfl)
  obtain ⟨y2,hy2,hF,he2,b2,_,q2,cs4,hp2,hq2,hr3,hc3⟩:=(h.sl 1 rfl).1.ix hF
  obtain rfl:=qaS hr3
  refine zx hp2 hq2 ⟨he2.1,qD he2.2.1 (h.sl 1 rfl).2⟩ rfl (qau qa 1 0 r1 h rfl hy2 hp2 hq2 (qes y2) hc3 rfl rfl rfl (qes r1) rfl rfl rfl fun w4 h=>X0 7 rfl ?_)
  replace h:=h.pick [1] rfl
  exact rK ⟨_,_,hF,rfl,h⟩ rfl
 refine qq rfl ?_
 obtain rfl:=qb hF;replace hF:=hK1
 refine X0 5 rfl ?_
 obtain rfl:=qb hF
 exact rO 0 h rfl ⟨rfl,trivial⟩
def qjq (n:Nat) (a:qf):Option qf :=
 (qhz n a.Ab).bind fun r1 =>
 (qiI n a.Ai).bind fun r2 =>
 (qkg n a.Ah).bind fun r3 =>
 some (⟨r1,r2,r3⟩:qf)
theorem qpH {a:qf} (ha1:GoT.R w (old w) a cs1) {r:qf} (hF:qjq n a=some r):RetV Tryz.prog 50 [GoT.v qf cs1] w r:=by
 obtain ⟨p1,k1,p2,k2,p3,k3,rfl,s1,s2,s3⟩:=qaA ha1
 refine zV 17 Tryz.func50 rfl fun h=>zSR (qv h rfl rfl fun w1 bb1 h=>qp qa h rfl rfl rfl fun w2 bb2 h=>zNSR (qp qa h rfl rfl rfl fun w3 bb3 h=>X1 5 2 h rfl (zcL h hF (qnK ⟨_,_,rfl,(h.oldS s1)⟩) rfl fun r1 w4 S1 p4 k4 h hF=>zp1 rfl (zs 1 h rfl fun w5 h=>X1 5 3 h rfl (zcL h hF (qoV ⟨_,_,rfl,(h.oldS s2)⟩) rfl fun r2 w6 S2 p5 k5 h hF=>zp1 rfl (zs 2 h rfl fun w7 h=>X1 5 4 h rfl (zcL h hF (qqo ⟨_,_,rfl,(h.oldS s3)⟩) rfl fun r3 w8 S3 p6 k6 h hF=>zp1 rfl (zs 3 h rfl fun w9 h=>X1 4 3 h rfl (zs 4 h rfl fun w10 h=>qc6 ?_)))))))))
 obtain rfl:=qb hF
 exact qab qa (ρ:=qf) [GoT.v qf [.slice p4 r1.length k4,.slice p5 r2.length k5,.slice p6 r3.length k6]] h ⟨⟨_,_,_,rfl,rfl,h.box 4 rfl,rfl⟩,trivial⟩ (PV.done h (qaj (qud (⟨r1,r2,r3⟩:qf) h (qap 2 h rfl) (qap 1 h rfl) (qap 0 h rfl) (by rfl) (by rfl))))
def qjR (n:Nat) (a:qE):Option qE :=
 (qaz n a.Ak).bind fun r1 =>
 (qaz n a.Bs).bind fun r2 =>
 (qaz n a.Bo).bind fun r3 =>
 (qaz n a.Bh).bind fun r4 =>
 some (⟨r1,r2,r3,r4⟩:qE)
theorem qri {a:qE} (ha1:GoT.R w (old w) a cs1) {r:qE} (hF:qjR n a=some r):RetV Tryz.prog 126 [GoT.v qE cs1] w r:=by
 obtain ⟨p1,k1,p2,k2,p3,k3,p4,k4,rfl,s1,s2,s3,s4⟩:=qaN ha1
 refine zV 21 Tryz.func126 rfl fun h=>zSR (qv h rfl rfl fun w1 bb1 h=>qp qa h rfl rfl rfl fun w2 bb2 h=>zNSR (qp qa h rfl rfl rfl fun w3 bb3 h=>X1 5 2 h rfl (zcL h hF (qB ⟨_,_,rfl,(h.oldS s1)⟩) rfl fun r1 w4 S1 p5 k5 h hF=>zp1 rfl (zs 1 h rfl fun w5 h=>X1 5 3 h rfl (zcL h hF (qB ⟨_,_,rfl,(h.oldS s2)⟩) rfl fun r2 w6 S2 p6 k6 h hF=>zp1 rfl (zs 2 h rfl fun w7 h=>X1 5 4 h rfl (zcL h hF (qB ⟨_,_,rfl,(h.oldS s3)⟩) rfl fun r3 w8 S3 p7 k7 h hF=>zp1 rfl (zs 3 h rfl fun w9 h=>X1 5 5 h rfl (zcL h hF (qB ⟨_,_,rfl,(h.oldS s4)⟩) rfl fun r4 w10 S4 p8 k8 h hF=>zp1 rfl (zs 4 h rfl fun w11 h=>X1 4 4 h rfl (zs 5 h rfl fun w12 h=>qc6 ?_)))))))))))
 obtain rfl:=qb hF
 exact qab qa (ρ:=qE) [GoT.v qE [.slice p5 r1.length k5,.slice p6 r2.length k6,.slice p7 r3.length k7,.slice p8 r4.length k8]] h ⟨⟨_,_,_,rfl,rfl,h.box 5 rfl,rfl⟩,trivial⟩ (PV.done h (qaj (qtn (⟨r1,r2,r3,r4⟩:qE) h (qap 3 h rfl) (qap 2 h rfl) (qap 1 h rfl) (qap 0 h rfl) (by rfl) (by rfl) (by rfl))))
def qgw (a:(List qE)):Nat→(List qE)→Int→Option ((List qE) × Int)
 | 0,_,_=>none
 | n+1,x2,i1 =>
  bif decide (i1<(a.length:Int)) then
   (idx a i1).bind fun y1 =>
   (qjR n y1).bind fun r1 =>
   (idx x2 i1).bind fun _ =>
   qgw a n (setS x2 i1 r1) (W64 (i1+1))
  else
   some (x2,i1)
def qj8 (n:Nat) (a:(List qE)):Option (List qE) :=
 (mkS (a.length:Int) ((⟨[],[],[],[]⟩:qE):qE)).bind fun x1 =>
 (qgw a n x1 0).bind fun o=>match o with
 | (x2,_) =>
  some x2
theorem qpZ {a:(List qE)} (ha1:GoT.R w (old w) a cs1) {r:(List qE)} (hF:qj8 n a=some r):RetV Tryz.prog 51 [GoT.v (List qE) cs1] w r:=by
 obtain ⟨p1,k1,rfl,s1⟩:=ha1
 refine zV 23 Tryz.func51 rfl fun h=>X0 8 rfl ?_
 obtain ⟨x1,hx1,hF⟩:=qd hF
 obtain ⟨g1,g2,hx1⟩:=qV hx1
 refine qam qa qE h rfl rfl rfl rfl rfl rfl rfl rfl rfl g1 g2 hx1 rfl fun w1 S1 p2 h=>X0 7 rfl ?_
 obtain ⟨o1,hF,hK1⟩:=qd hF
 refine qm (rL (fun m e w'=>∃ (S2:Nat→Prop) (x2:(List qE)) (i1:Int),qgw a m x2 i1=some o1∧e=[(0,.slice p1 a.length k1),(3,.slice p2 x1.length x1.length),(4,.int .i64 i1)]∧SH w w' [Ch.own S2 (x2:List qE) [.slice p2 x1.length x1.length]]) n ⟨_,_,_,hF,rfl,h⟩ rfl ?_)
 rintro m1 e1 w2 ⟨S2,x2,i1,hF,rfl,h⟩
 rcases m1 with _|m1
 ·cases hF
 refine X0 8 rfl (qh rfl hF ?_ ?_)<;>intro hF
 ·refine X0 8 rfl ?_
  obtain ⟨y1,hy1,hF,he1,b1,_,q1,cs2,hp1,hq1,hr1,hc2⟩:=s1.ix hF
  obtain ⟨p3,k2,p4,k3,p5,k4,p6,k5,rfl,s2,s3,s4,s5⟩:=qaN hr1
  refine zxe hp1 hq1 he1 rfl (zc 0 (hc2.below h.below) rfl (zcO h hF (qri (qku y1 (h.oldS s2) (h.oldS s3) (h.oldS s4) (h.oldS s5))) rfl fun r1 w3 S3 cs3 h hF=>?_))
  obtain ⟨p7,k6,p8,k7,p9,k8,p10,k9,rfl,-,-,-,-⟩:=qaN (h.own 0 rfl)
  obtain ⟨y2,hy2,hF⟩:=qd hF
  have he2:=qcI hy2
  replace h:=h.lrn0 1 rfl
  obtain ⟨b2,o_2,q2,cs4,hp2,hq2,-,hr3,hc3⟩:=(qlw (h.lrnO 1 rfl)).1.at hy2
  have hr4:=hr3
  obtain ⟨p11,k10,p12,k11,p13,k12,p14,k13,rfl,s10,s11,s12,s13⟩:=qaN hr3
  replace h:=h.lrnAdd 1 rfl hr4
  refine zx hp2 hq2 ⟨he2.1,qD he2.2.1 (qlw (h.lrnO 1 rfl)).2⟩ rfl ?_
  replace h:=h.unlrn 1 rfl
  exact qmT qa r1 h hy2 hp2 hq2 rfl rfl rfl rfl rfl fun w4 S4 h=>X0 7 rfl (rK ⟨_,_,_,hF,rfl,h⟩ rfl)
 refine qq rfl ?_
 obtain rfl:=qb hF;replace hF:=hK1
 refine X0 5 rfl ?_
 obtain rfl:=qb hF
 exact rO 0 h rfl ⟨rfl,trivial⟩
def qfY (n:Nat) (a:qg):Option qg :=
 (qiB n (⟨a.Ar.Ap⟩:qr)).bind fun r1 =>
 (qjq n (⟨a.Aa.Ab,a.Aa.Ai,a.Aa.Ah⟩:qf)).bind fun r2 =>
 (qj8 n a.Ac).bind fun r3 =>
 some (⟨r1,r2,r3⟩:qg)
theorem qeW {a:qg} (ha1:GoT.R w (old w) a cs1) {r:qg} (hF:qfY n a=some r):RetV Tryz.prog 11 [GoT.v qg cs1] w r:=by
 obtain ⟨p1,k1,p2,k2,p3,k3,p4,k4,p5,k5,rfl,s1,s2,s3,s4,s5⟩:=qI ha1
 refine zV 17 Tryz.func11 rfl fun h=>zSR (qv h rfl rfl fun w1 bb1 h=>qp qa h rfl rfl rfl fun w2 bb2 h=>zNSR (qp qa h rfl rfl rfl fun w3 bb3 h=>X1 5 2 h rfl (zcO h hF (qor (qd7 _ (h.oldS s1))) rfl fun r1 w4 S1 cs2 h hF=>?_)))
 obtain ⟨p6,k6,rfl,-⟩:=qbG (h.own 0 rfl)
 refine zp1 rfl (zs 1 h rfl fun w5 h=>X1 5 3 h rfl (zcO h hF (qpH (qax _ (h.oldS s2) (h.oldS s3) (h.oldS s4))) rfl fun r2 w6 S2 cs3 h hF=>?_))
 obtain ⟨p7,k7,p8,k8,p9,k9,rfl,-,-,-⟩:=qaA (h.own 0 rfl)
 refine zp1 rfl (zs 2 h rfl fun w7 h=>X1 5 4 h rfl (zcL h hF (qpZ ⟨_,_,rfl,(h.oldS s5)⟩) rfl fun r3 w8 S3 p10 k10 h hF=>zp1 rfl (zs 3 h rfl fun w9 h=>X1 4 3 h rfl (zs 4 h rfl fun w10 h=>qc6 ?_))))
 obtain rfl:=qb hF
 exact qab qa (ρ:=qg) [GoT.v qg [.slice p6 r1.Ap.length k6,.slice p7 r2.Ab.length k7,.slice p8 r2.Ai.length k8,.slice p9 r2.Ah.length k9,.slice p10 r3.length k10]] h ⟨⟨_,_,_,rfl,rfl,h.box 4 rfl,rfl⟩,trivial⟩ (PV.done h (qaj (qvN (⟨r1,r2,r3⟩:qg) h (qap 2 h rfl) (qap 1 h rfl) (qap 0 h rfl) (by rfl) (by rfl))))
def qfS (a:(List Int)) (b:(List Int)):Nat→Int→Option (Flow Bool Int)
 | 0,_=>none
 | n+1,i1 =>
  bif decide (i1<(a.length:Int)) then
   (idx a i1).bind fun y1 =>
   (idx b i1).bind fun y2 =>
   bif (y1 != y2) then some (.ret false) else
   qfS a b n (W64 (i1+1))
  else
   some (.nxt i1)
def qbu (n:Nat) (a:(List Int)) (b:(List Int)):Option Bool :=
 bif ((a.length:Int) != (b.length:Int)) then some false else
 (qfS a b n 0).bind fun o=>match o with
 | .ret r=>some r
 | .nxt _ =>
  some true
theorem qbk {a:(List Int)} {b:(List Int)} (ha1:GoT.R w (old w) a cs1) (ha2:GoT.R w (old w) b cs2) {r:Bool} (hF:qbu n a b=some r):RetV Tryz.prog 15 [GoT.v (List Int) cs1,GoT.v (List Int) cs2] w r:=by
 obtain ⟨p1,k1,rfl,s1⟩:=ha1
 obtain ⟨p2,k2,rfl,s2⟩:=ha2
 refine zV 26 Tryz.func15 rfl fun h=>X0 13 rfl (qh rfl hF ?_ ?_)<;>intro hF
 ·exact X0 4 rfl (rb h hF rfl)
 refine X0 6 rfl ?_
 obtain ⟨o1,hF,hK1⟩:=qd hF
 refine qm (rL (fun m e w'=>∃ (i1:Int),qfS a b m i1=some o1∧e=[(0,.slice p1 a.length k1),(1,.slice p2 b.length k2),(5,.int .i64 i1)]∧SH w w' []) n ⟨_,hF,rfl,h⟩ rfl ?_)
 rintro m1 e1 w1 ⟨i1,hF,rfl,h⟩
 rcases m1 with _|m1
 ·cases hF
 refine X0 8 rfl (qh rfl hF ?_ ?_)<;>intro hF
 ·refine X0 4 rfl (rD (zd2 rfl ?_))
  obtain ⟨y1,hy1,hF,he1,b1,_,q1,cs3,hp1,hq1,rfl,hc3⟩:=s1.ix hF
  refine zdxe hp1 hq1 he1 rfl (zdc 0 (hc3.below h.below) rfl (zd2 rfl ?_))
  obtain ⟨y2,hy2,hF,he2,b2,_,q2,cs4,hp2,hq2,rfl,hc4⟩:=s2.ix hF
  refine zdxe hp2 hq2 he2 rfl (zdc 0 (hc4.below h.below) rfl (zd1 rfl (dN h fun w2 h=>qh rfl hF ?_ ?_)))<;>intro hF
  ·refine X0 4 rfl ?_
   obtain rfl:=qb hF;replace hF:=hK1
   exact rb h hF rfl
  exact X0 7 rfl (rK ⟨_,hF,rfl,h⟩ rfl)
 refine qq rfl ?_
 obtain rfl:=qb hF;replace hF:=hK1
 exact X0 4 rfl (rb h hF rfl)
def qkN (_:Nat) (a:qal) (b:qal):Option Bool :=
 bif (a.Az.toList != b.Az.toList) then some false else
 bif (a.Br != b.Br) then some false else
 bif (a.Bo != b.Bo) then some false else
 bif (!(a.Bn==b.Bn)) then some false else
 some true
theorem qrE {a:qal} {b:qal} (ha1:GoT.R w (old w) a cs1) (ha2:GoT.R w (old w) b cs2) {r:Bool} (hF:qkN n a b=some r):RetV Tryz.prog 291 [GoT.v qal cs1,GoT.v qal cs2] w r:=by
 obtain rfl:=qaX ha1
 obtain rfl:=qaX ha2
 refine zV 25 Tryz.func291 rfl fun h=>zSR (qv h rfl rfl fun w1 bb1 h=>qv h rfl rfl fun w2 bb2 h=>X2 11 1 0 h rfl (qh rfl hF ?_ ?_))<;>intro hF
 ·exact X0 4 rfl (rb h hF rfl)
 refine X2 10 1 0 h rfl (qh rfl hF ?_ ?_)<;>intro hF
 ·exact X0 4 rfl (rb h hF rfl)
 refine X2 10 1 0 h rfl (qh rfl hF ?_ ?_)<;>intro hF
 ·exact X0 4 rfl (rb h hF rfl)
 refine X2 10 1 0 h rfl (qh rfl hF ?_ ?_)<;>intro hF
 ·exact X0 4 rfl (rb h hF rfl)
 exact X0 5 rfl (rb h hF rfl)
def qhg (a:(List qal)) (b:(List qal)):Nat→Int→Option (Flow Bool Int)
 | 0,_=>none
 | n+1,i1 =>
  bif decide (i1<(a.length:Int)) then
   (idx a i1).bind fun y1 =>
   (idx b i1).bind fun y2 =>
   (qkN n y1 y2).bind fun r1 =>
   bif (!r1) then some (.ret false) else
   qhg a b n (W64 (i1+1))
  else
   some (.nxt i1)
def qli (n:Nat) (a:(List qal)) (b:(List qal)):Option Bool :=
 bif ((a.length:Int) != (b.length:Int)) then some false else
 (qhg a b n 0).bind fun o=>match o with
 | .ret r=>some r
 | .nxt _ =>
  some true
theorem qqL {a:(List qal)} {b:(List qal)} (ha1:GoT.R w (old w) a cs1) (ha2:GoT.R w (old w) b cs2) {r:Bool} (hF:qli n a b=some r):RetV Tryz.prog 255 [GoT.v (List qal) cs1,GoT.v (List qal) cs2] w r:=by
 obtain ⟨p1,k1,rfl,s1⟩:=ha1
 obtain ⟨p2,k2,rfl,s2⟩:=ha2
 refine zV 27 Tryz.func255 rfl fun h=>X0 13 rfl (qh rfl hF ?_ ?_)<;>intro hF
 ·exact X0 4 rfl (rb h hF rfl)
 refine X0 6 rfl ?_
 obtain ⟨o1,hF,hK1⟩:=qd hF
 refine qm (rL (fun m e w'=>∃ (i1:Int),qhg a b m i1=some o1∧e=[(0,.slice p1 a.length k1),(1,.slice p2 b.length k2),(5,.int .i64 i1)]∧SH w w' []) n ⟨_,hF,rfl,h⟩ rfl ?_)
 rintro m1 e1 w1 ⟨i1,hF,rfl,h⟩
 rcases m1 with _|m1
 ·cases hF
 refine X0 8 rfl (qh rfl hF ?_ ?_)<;>intro hF
 ·refine X0 4 rfl (rD (zd2 rfl ?_))
  obtain ⟨y1,hy1,hF,he1,b1,_,q1,cs3,hp1,hq1,hr1,hc3⟩:=s1.ix hF
  obtain rfl:=qaX hr1
  refine zdxe hp1 hq1 he1 rfl (zdc 0 (hc3.below h.below) rfl (zd2 rfl ?_))
  obtain ⟨y2,hy2,hF,he2,b2,_,q2,cs4,hp2,hq2,hr2,hc4⟩:=s2.ix hF
  obtain rfl:=qaX hr2
  refine zdxe hp2 hq2 he2 rfl (zdc 0 (hc4.below h.below) rfl ?_)
  obtain ⟨r1,hr3,hF⟩:=qd hF
  refine qbm r1 (vsB _) (cB 291 rfl) (fun _ hb=>qrE (qd5 y1) (qd5 y2) hr3) rfl rfl rfl rfl (zd1 rfl (dN h fun w2 h=>qh rfl hF ?_ ?_))<;>intro hF
  ·refine X0 4 rfl ?_
   obtain rfl:=qb hF;replace hF:=hK1
   exact rb h hF rfl
  exact X0 7 rfl (rK ⟨_,hF,rfl,h⟩ rfl)
 refine qq rfl ?_
 obtain rfl:=qb hF;replace hF:=hK1
 exact X0 4 rfl (rb h hF rfl)
def qiC (n:Nat) (a:qt) (b:qt):Option Bool :=
 (qbu n a.Bi b.Bi).bind fun r1 =>
 bif (!r1) then some false else
 (qbu n a.Bb b.Bb).bind fun r2 =>
 bif (!r2) then some false else
 (qbu n a.Ba b.Ba).bind fun r3 =>
 bif (!r3) then some false else
 some true
theorem qp2 {a:qt} {b:qt} (ha1:GoT.R w (old w) a cs1) (ha2:GoT.R w (old w) b cs2) {r:Bool} (hF:qiC n a b=some r):RetV Tryz.prog 327 [GoT.v qt cs1,GoT.v qt cs2] w r:=by
 obtain ⟨p1,k1,p2,k2,p3,k3,rfl,s1,s2,s3⟩:=qaG ha1
 obtain ⟨p4,k4,p5,k5,p6,k6,rfl,s4,s5,s6⟩:=qaG ha2
 refine zV 23 Tryz.func327 rfl fun h=>zSR (qv h rfl rfl fun w1 bb1 h=>qv h rfl rfl fun w2 bb2 h=>X2 9 1 0 h rfl (zcB h hF (qbk ⟨_,_,rfl,(h.oldS s1)⟩ ⟨_,_,rfl,(h.oldS s4)⟩) rfl fun r1 w3 h hF=>X0 2 rfl (qh rfl hF ?_ ?_)))<;>intro hF
 ·exact X0 4 rfl (rb h hF rfl)
 refine X2 8 1 0 h rfl (zcB h hF (qbk ⟨_,_,rfl,(h.oldS s2)⟩ ⟨_,_,rfl,(h.oldS s5)⟩) rfl fun r2 w4 h hF=>X0 2 rfl (qh rfl hF ?_ ?_))<;>intro hF
 ·exact X0 4 rfl (rb h hF rfl)
 refine X2 8 1 0 h rfl (zcB h hF (qbk ⟨_,_,rfl,(h.oldS s3)⟩ ⟨_,_,rfl,(h.oldS s6)⟩) rfl fun r3 w5 h hF=>X0 2 rfl (qh rfl hF ?_ ?_))<;>intro hF
 ·exact X0 4 rfl (rb h hF rfl)
 exact X0 5 rfl (rb h hF rfl)
end Go.Fw


namespace Go.Fw
open Go Go.Proofs
open Go.RowKit (Below)
set_option maxRecDepth 100000
set_option maxHeartbeats 1600000
variable {n:Nat} {w:World} {cs1 cs2 cs3 cs4 cs5 cs6 cs7 cs8 cs9:List Value}
def qfD (a:(List qt)) (b:(List qt)):Nat→Int→Option (Flow Bool Int)
 | 0,_=>none
 | n+1,i1 =>
  bif decide (i1<(a.length:Int)) then
   (idx a i1).bind fun y1 =>
   (idx b i1).bind fun y2 =>
   (qiC n y1 y2).bind fun r1 =>
   bif (!r1) then some (.ret false) else
   qfD a b n (W64 (i1+1))
  else
   some (.nxt i1)
def qhO (n:Nat) (a:(List qt)) (b:(List qt)):Option Bool :=
 bif ((a.length:Int) != (b.length:Int)) then some false else
 (qfD a b n 0).bind fun o=>match o with
 | .ret r=>some r
 | .nxt _ =>
  some true
theorem qlP {a:(List qt)} {b:(List qt)} (ha1:GoT.R w (old w) a cs1) (ha2:GoT.R w (old w) b cs2) {r:Bool} (hF:qhO n a b=some r):RetV Tryz.prog 312 [GoT.v (List qt) cs1,GoT.v (List qt) cs2] w r:=by
 obtain ⟨p1,k1,rfl,s1⟩:=ha1
 obtain ⟨p2,k2,rfl,s2⟩:=ha2
 refine zV 27 Tryz.func312 rfl fun h=>X0 13 rfl (qh rfl hF ?_ ?_)<;>intro hF
 ·exact X0 4 rfl (rb h hF rfl)
 refine X0 6 rfl ?_
 obtain ⟨o1,hF,hK1⟩:=qd hF
 refine qm (rL (fun m e w'=>∃ (i1:Int),qfD a b m i1=some o1∧e=[(0,.slice p1 a.length k1),(1,.slice p2 b.length k2),(5,.int .i64 i1)]∧SH w w' []) n ⟨_,hF,rfl,h⟩ rfl ?_)
 rintro m1 e1 w1 ⟨i1,hF,rfl,h⟩
 rcases m1 with _|m1
 ·cases hF
 refine X0 8 rfl (qh rfl hF ?_ ?_)<;>intro hF
 ·refine X0 4 rfl (rD (zd2 rfl ?_))
  obtain ⟨y1,hy1,hF,he1,b1,_,q1,cs3,hp1,hq1,hr1,hc3⟩:=s1.ix hF
  obtain ⟨p3,k3,p4,k4,p5,k5,rfl,s3,s4,s5⟩:=qaG hr1
  refine zdxe hp1 hq1 he1 rfl (zdc 0 (hc3.below h.below) rfl (zd2 rfl ?_))
  obtain ⟨y2,hy2,hF,he2,b2,_,q2,cs4,hp2,hq2,hr2,hc4⟩:=s2.ix hF
  obtain ⟨p6,k6,p7,k7,p8,k8,rfl,s6,s7,s8⟩:=qaG hr2
  refine zdxe hp2 hq2 he2 rfl (zdc 0 (hc4.below h.below) rfl ?_)
  obtain ⟨r1,hr3,hF⟩:=qd hF
  refine qbm r1 (vsB _) (cB 327 rfl) (fun _ hb=>qp2 (qfq y1 ((h.ext hb).oldS s3) ((h.ext hb).oldS s4) ((h.ext hb).oldS s5)) (qfq y2 ((h.ext hb).oldS s6) ((h.ext hb).oldS s7) ((h.ext hb).oldS s8)) hr3) rfl rfl rfl rfl (zd1 rfl (dN h fun w2 h=>qh rfl hF ?_ ?_))<;>intro hF
  ·refine X0 4 rfl ?_
   obtain rfl:=qb hF;replace hF:=hK1
   exact rb h hF rfl
  exact X0 7 rfl (rK ⟨_,hF,rfl,h⟩ rfl)
 refine qq rfl ?_
 obtain rfl:=qb hF;replace hF:=hK1
 exact X0 4 rfl (rb h hF rfl)
def qkx (n:Nat) (a:qG) (b:qG):Option Bool :=
 bif (a.Av != b.Av) then some false else
 bif (a.Be != b.Be) then some false else
 bif (a.To != b.To) then some false else
 bif (a.Bl != b.Bl) then some false else
 (qhO n a.Bj b.Bj).bind fun r1 =>
 bif (!r1) then some false else
 (qhO n a.Aq b.Aq).bind fun r2 =>
 bif (!r2) then some false else
 some true
theorem qrt {a:qG} {b:qG} (ha1:GoT.R w (old w) a cs1) (ha2:GoT.R w (old w) b cs2) {r:Bool} (hF:qkx n a b=some r):RetV Tryz.prog 292 [GoT.v qG cs1,GoT.v qG cs2] w r:=by
 obtain ⟨p1,k1,p2,k2,rfl,s1,s2⟩:=qai ha1
 obtain ⟨p3,k3,p4,k4,rfl,s3,s4⟩:=qai ha2
 refine zV 37 Tryz.func292 rfl fun h=>zSR (qv h rfl rfl fun w1 bb1 h=>qv h rfl rfl fun w2 bb2 h=>X2 11 1 0 h rfl (qh rfl hF ?_ ?_))<;>intro hF
 ·exact X0 4 rfl (rb h hF rfl)
 refine X2 10 1 0 h rfl (qh rfl hF ?_ ?_)<;>intro hF
 ·exact X0 4 rfl (rb h hF rfl)
 refine X2 10 1 0 h rfl (qh rfl hF ?_ ?_)<;>intro hF
 ·exact X0 4 rfl (rb h hF rfl)
 refine X2 10 1 0 h rfl (qh rfl hF ?_ ?_)<;>intro hF
 ·exact X0 4 rfl (rb h hF rfl)
 refine X2 8 1 0 h rfl (zcB h hF (qlP ⟨_,_,rfl,(h.oldS s1)⟩ ⟨_,_,rfl,(h.oldS s3)⟩) rfl fun r1 w3 h hF=>X0 2 rfl (qh rfl hF ?_ ?_))<;>intro hF
 ·exact X0 4 rfl (rb h hF rfl)
 refine X2 8 1 0 h rfl (zcB h hF (qlP ⟨_,_,rfl,(h.oldS s2)⟩ ⟨_,_,rfl,(h.oldS s4)⟩) rfl fun r2 w4 h hF=>X0 2 rfl (qh rfl hF ?_ ?_))<;>intro hF
 ·exact X0 4 rfl (rb h hF rfl)
 exact X0 5 rfl (rb h hF rfl)
def qgW (a:(List qG)) (b:(List qG)):Nat→Int→Option (Flow Bool Int)
 | 0,_=>none
 | n+1,i1 =>
  bif decide (i1<(a.length:Int)) then
   (idx a i1).bind fun y1 =>
   (idx b i1).bind fun y2 =>
   (qkx n y1 y2).bind fun r1 =>
   bif (!r1) then some (.ret false) else
   qgW a b n (W64 (i1+1))
  else
   some (.nxt i1)
def qk9 (n:Nat) (a:(List qG)) (b:(List qG)):Option Bool :=
 bif ((a.length:Int) != (b.length:Int)) then some false else
 (qgW a b n 0).bind fun o=>match o with
 | .ret r=>some r
 | .nxt _ =>
  some true
theorem qqX {a:(List qG)} {b:(List qG)} (ha1:GoT.R w (old w) a cs1) (ha2:GoT.R w (old w) b cs2) {r:Bool} (hF:qk9 n a b=some r):RetV Tryz.prog 256 [GoT.v (List qG) cs1,GoT.v (List qG) cs2] w r:=by
 obtain ⟨p1,k1,rfl,s1⟩:=ha1
 obtain ⟨p2,k2,rfl,s2⟩:=ha2
 refine zV 27 Tryz.func256 rfl fun h=>X0 13 rfl (qh rfl hF ?_ ?_)<;>intro hF
 ·exact X0 4 rfl (rb h hF rfl)
 refine X0 6 rfl ?_
 obtain ⟨o1,hF,hK1⟩:=qd hF
 refine qm (rL (fun m e w'=>∃ (i1:Int),qgW a b m i1=some o1∧e=[(0,.slice p1 a.length k1),(1,.slice p2 b.length k2),(5,.int .i64 i1)]∧SH w w' []) n ⟨_,hF,rfl,h⟩ rfl ?_)
 rintro m1 e1 w1 ⟨i1,hF,rfl,h⟩
 rcases m1 with _|m1
 ·cases hF
 refine X0 8 rfl (qh rfl hF ?_ ?_)<;>intro hF
 ·refine X0 4 rfl (rD (zd2 rfl ?_))
  obtain ⟨y1,hy1,hF,he1,b1,_,q1,cs3,hp1,hq1,hr1,hc3⟩:=s1.ix hF
  obtain ⟨p3,k3,p4,k4,rfl,s3,s4⟩:=qai hr1
  refine zdxe hp1 hq1 he1 rfl (zdc 0 (hc3.below h.below) rfl (zd2 rfl ?_))
  obtain ⟨y2,hy2,hF,he2,b2,_,q2,cs4,hp2,hq2,hr2,hc4⟩:=s2.ix hF
  obtain ⟨p5,k5,p6,k6,rfl,s5,s6⟩:=qai hr2
  refine zdxe hp2 hq2 he2 rfl (zdc 0 (hc4.below h.below) rfl ?_)
  obtain ⟨r1,hr3,hF⟩:=qd hF
  refine qbm r1 (vsB _) (cB 292 rfl) (fun _ hb=>qrt (qfR y1 ((h.ext hb).oldS s3) ((h.ext hb).oldS s4)) (qfR y2 ((h.ext hb).oldS s5) ((h.ext hb).oldS s6)) hr3) rfl rfl rfl rfl (zd1 rfl (dN h fun w2 h=>qh rfl hF ?_ ?_))<;>intro hF
  ·refine X0 4 rfl ?_
   obtain rfl:=qb hF;replace hF:=hK1
   exact rb h hF rfl
  exact X0 7 rfl (rK ⟨_,hF,rfl,h⟩ rfl)
 refine qq rfl ?_
 obtain rfl:=qb hF;replace hF:=hK1
 exact X0 4 rfl (rb h hF rfl)
def qjB (n:Nat) (a:qw) (b:qw):Option Bool :=
 bif (a.Az.toList != b.Az.toList) then some false else
 bif (a.Av != b.Av) then some false else
 (qli n a.Au b.Au).bind fun r1 =>
 bif (!r1) then some false else
 (qk9 n a.As b.As).bind fun r2 =>
 bif (!r2) then some false else
 (qbu n a.Bk b.Bk).bind fun r3 =>
 bif (!r3) then some false else
 bif (a.Bw != b.Bw) then some false else
 bif (a.Bq != b.Bq) then some false else
 some true
theorem qq9 {a:qw} {b:qw} (ha1:GoT.R w (old w) a cs1) (ha2:GoT.R w (old w) b cs2) {r:Bool} (hF:qjB n a b=some r):RetV Tryz.prog 209 [GoT.v qw cs1,GoT.v qw cs2] w r:=by
 obtain ⟨p1,k1,p2,k2,p3,k3,rfl,s1,s2,s3⟩:=qae ha1
 obtain ⟨p4,k4,p5,k5,p6,k6,rfl,s4,s5,s6⟩:=qae ha2
 refine zV 43 Tryz.func209 rfl fun h=>zSR (qv h rfl rfl fun w1 bb1 h=>qv h rfl rfl fun w2 bb2 h=>X2 11 1 0 h rfl (qh rfl hF ?_ ?_))<;>intro hF
 ·exact X0 4 rfl (rb h hF rfl)
 refine X2 10 1 0 h rfl (qh rfl hF ?_ ?_)<;>intro hF
 ·exact X0 4 rfl (rb h hF rfl)
 refine X2 8 1 0 h rfl (zcB h hF (qqL ⟨_,_,rfl,(h.oldS s1)⟩ ⟨_,_,rfl,(h.oldS s4)⟩) rfl fun r1 w3 h hF=>X0 2 rfl (qh rfl hF ?_ ?_))<;>intro hF
 ·exact X0 4 rfl (rb h hF rfl)
 refine X2 8 1 0 h rfl (zcB h hF (qqX ⟨_,_,rfl,(h.oldS s2)⟩ ⟨_,_,rfl,(h.oldS s5)⟩) rfl fun r2 w4 h hF=>X0 2 rfl (qh rfl hF ?_ ?_))<;>intro hF
 ·exact X0 4 rfl (rb h hF rfl)
 refine X2 8 1 0 h rfl (zcB h hF (qbk ⟨_,_,rfl,(h.oldS s3)⟩ ⟨_,_,rfl,(h.oldS s6)⟩) rfl fun r3 w5 h hF=>X0 2 rfl (qh rfl hF ?_ ?_))<;>intro hF
 ·exact X0 4 rfl (rb h hF rfl)
 refine X2 10 1 0 h rfl (qh rfl hF ?_ ?_)<;>intro hF
 ·exact X0 4 rfl (rb h hF rfl)
 refine X2 10 1 0 h rfl (qh rfl hF ?_ ?_)<;>intro hF
 ·exact X0 4 rfl (rb h hF rfl)
 exact X0 5 rfl (rb h hF rfl)
def qgk (a:(List qw)) (b:(List qw)):Nat→Int→Option (Flow Bool Int)
 | 0,_=>none
 | n+1,i1 =>
  bif decide (i1<(a.length:Int)) then
   (idx a i1).bind fun y1 =>
   (idx b i1).bind fun y2 =>
   (qjB n y1 y2).bind fun r1 =>
   bif (!r1) then some (.ret false) else
   qgk a b n (W64 (i1+1))
  else
   some (.nxt i1)
def qkk (n:Nat) (a:(List qw)) (b:(List qw)):Option Bool :=
 bif ((a.length:Int) != (b.length:Int)) then some false else
 (qgk a b n 0).bind fun o=>match o with
 | .ret r=>some r
 | .nxt _ =>
  some true
theorem qp4 {a:(List qw)} {b:(List qw)} (ha1:GoT.R w (old w) a cs1) (ha2:GoT.R w (old w) b cs2) {r:Bool} (hF:qkk n a b=some r):RetV Tryz.prog 134 [GoT.v (List qw) cs1,GoT.v (List qw) cs2] w r:=by
 obtain ⟨p1,k1,rfl,s1⟩:=ha1
 obtain ⟨p2,k2,rfl,s2⟩:=ha2
 refine zV 27 Tryz.func134 rfl fun h=>X0 13 rfl (qh rfl hF ?_ ?_)<;>intro hF
 ·exact X0 4 rfl (rb h hF rfl)
 refine X0 6 rfl ?_
 obtain ⟨o1,hF,hK1⟩:=qd hF
 refine qm (rL (fun m e w'=>∃ (i1:Int),qgk a b m i1=some o1∧e=[(0,.slice p1 a.length k1),(1,.slice p2 b.length k2),(5,.int .i64 i1)]∧SH w w' []) n ⟨_,hF,rfl,h⟩ rfl ?_)
 rintro m1 e1 w1 ⟨i1,hF,rfl,h⟩
 rcases m1 with _|m1
 ·cases hF
 refine X0 8 rfl (qh rfl hF ?_ ?_)<;>intro hF
 ·refine X0 4 rfl (rD (zd2 rfl ?_))
  obtain ⟨y1,hy1,hF,he1,b1,_,q1,cs3,hp1,hq1,hr1,hc3⟩:=s1.ix hF
  obtain ⟨p3,k3,p4,k4,p5,k5,rfl,s3,s4,s5⟩:=qae hr1
  refine zdxe hp1 hq1 he1 rfl (zdc 0 (hc3.below h.below) rfl (zd2 rfl ?_))
  obtain ⟨y2,hy2,hF,he2,b2,_,q2,cs4,hp2,hq2,hr2,hc4⟩:=s2.ix hF
  obtain ⟨p6,k6,p7,k7,p8,k8,rfl,s6,s7,s8⟩:=qae hr2
  refine zdxe hp2 hq2 he2 rfl (zdc 0 (hc4.below h.below) rfl ?_)
  obtain ⟨r1,hr3,hF⟩:=qd hF
  refine qbm r1 (vsB _) (cB 209 rfl) (fun _ hb=>qq9 (qkp y1 ((h.ext hb).oldS s3) ((h.ext hb).oldS s4) ((h.ext hb).oldS s5)) (qkp y2 ((h.ext hb).oldS s6) ((h.ext hb).oldS s7) ((h.ext hb).oldS s8)) hr3) rfl rfl rfl rfl (zd1 rfl (dN h fun w2 h=>qh rfl hF ?_ ?_))<;>intro hF
  ·refine X0 4 rfl ?_
   obtain rfl:=qb hF;replace hF:=hK1
   exact rb h hF rfl
  exact X0 7 rfl (rK ⟨_,hF,rfl,h⟩ rfl)
 refine qq rfl ?_
 obtain rfl:=qb hF;replace hF:=hK1
 exact X0 4 rfl (rb h hF rfl)
def qiE (n:Nat) (a:qr) (b:qr):Option Bool :=
 (qkk n a.Ap b.Ap).bind fun r1 =>
 bif (!r1) then some false else
 some true
theorem qoX {a:qr} {b:qr} (ha1:GoT.R w (old w) a cs1) (ha2:GoT.R w (old w) b cs2) {r:Bool} (hF:qiE n a b=some r):RetV Tryz.prog 58 [GoT.v qr cs1,GoT.v qr cs2] w r:=by
 obtain ⟨p1,k1,rfl,s1⟩:=qbG ha1
 obtain ⟨p2,k2,rfl,s2⟩:=qbG ha2
 refine zV 11 Tryz.func58 rfl fun h=>zSR (qv h rfl rfl fun w1 bb1 h=>qv h rfl rfl fun w2 bb2 h=>X2 9 1 0 h rfl (zcB h hF (qp4 ⟨_,_,rfl,(h.oldS s1)⟩ ⟨_,_,rfl,(h.oldS s2)⟩) rfl fun r1 w3 h hF=>X0 2 rfl (qh rfl hF ?_ ?_)))<;>intro hF
 ·exact X0 4 rfl (rb h hF rfl)
 exact X0 5 rfl (rb h hF rfl)
def qgu (n:Nat) (a:qi) (b:qi):Option Bool :=
 bif (a.Az.toList != b.Az.toList) then some false else
 bif (a.Bp != b.Bp) then some false else
 (qbu n a.Ai b.Ai).bind fun r1 =>
 bif (!r1) then some false else
 some true
theorem qoe {a:qi} {b:qi} (ha1:GoT.R w (old w) a cs1) (ha2:GoT.R w (old w) b cs2) {r:Bool} (hF:qgu n a b=some r):RetV Tryz.prog 210 [GoT.v qi cs1,GoT.v qi cs2] w r:=by
 obtain ⟨p1,k1,rfl,s1⟩:=qO ha1
 obtain ⟨p2,k2,rfl,s2⟩:=qO ha2
 refine zV 21 Tryz.func210 rfl fun h=>zSR (qv h rfl rfl fun w1 bb1 h=>qv h rfl rfl fun w2 bb2 h=>X2 11 1 0 h rfl (qh rfl hF ?_ ?_))<;>intro hF
 ·exact X0 4 rfl (rb h hF rfl)
 refine X2 10 1 0 h rfl (qh rfl hF ?_ ?_)<;>intro hF
 ·exact X0 4 rfl (rb h hF rfl)
 refine X2 8 1 0 h rfl (zcB h hF (qbk ⟨_,_,rfl,(h.oldS s1)⟩ ⟨_,_,rfl,(h.oldS s2)⟩) rfl fun r1 w3 h hF=>X0 2 rfl (qh rfl hF ?_ ?_))<;>intro hF
 ·exact X0 4 rfl (rb h hF rfl)
 exact X0 5 rfl (rb h hF rfl)
def qd3 (a:(List qi)) (b:(List qi)):Nat→Int→Option (Flow Bool Int)
 | 0,_=>none
 | n+1,i1 =>
  bif decide (i1<(a.length:Int)) then
   (idx a i1).bind fun y1 =>
   (idx b i1).bind fun y2 =>
   (qgu n y1 y2).bind fun r1 =>
   bif (!r1) then some (.ret false) else
   qd3 a b n (W64 (i1+1))
  else
   some (.nxt i1)
def qhn (n:Nat) (a:(List qi)) (b:(List qi)):Option Bool :=
 bif ((a.length:Int) != (b.length:Int)) then some false else
 (qd3 a b n 0).bind fun o=>match o with
 | .ret r=>some r
 | .nxt _ =>
  some true
theorem qnU {a:(List qi)} {b:(List qi)} (ha1:GoT.R w (old w) a cs1) (ha2:GoT.R w (old w) b cs2) {r:Bool} (hF:qhn n a b=some r):RetV Tryz.prog 135 [GoT.v (List qi) cs1,GoT.v (List qi) cs2] w r:=by
 obtain ⟨p1,k1,rfl,s1⟩:=ha1
 obtain ⟨p2,k2,rfl,s2⟩:=ha2
 refine zV 27 Tryz.func135 rfl fun h=>X0 13 rfl (qh rfl hF ?_ ?_)<;>intro hF
 ·exact X0 4 rfl (rb h hF rfl)
 refine X0 6 rfl ?_
 obtain ⟨o1,hF,hK1⟩:=qd hF
 refine qm (rL (fun m e w'=>∃ (i1:Int),qd3 a b m i1=some o1∧e=[(0,.slice p1 a.length k1),(1,.slice p2 b.length k2),(5,.int .i64 i1)]∧SH w w' []) n ⟨_,hF,rfl,h⟩ rfl ?_)
 rintro m1 e1 w1 ⟨i1,hF,rfl,h⟩
 rcases m1 with _|m1
 ·cases hF
 refine X0 8 rfl (qh rfl hF ?_ ?_)<;>intro hF
 ·refine X0 4 rfl (rD (zd2 rfl ?_))
  obtain ⟨y1,hy1,hF,he1,b1,_,q1,cs3,hp1,hq1,hr1,hc3⟩:=s1.ix hF
  obtain ⟨p3,k3,rfl,s3⟩:=qO hr1
  refine zdxe hp1 hq1 he1 rfl (zdc 0 (hc3.below h.below) rfl (zd2 rfl ?_))
  obtain ⟨y2,hy2,hF,he2,b2,_,q2,cs4,hp2,hq2,hr2,hc4⟩:=s2.ix hF
  obtain ⟨p4,k4,rfl,s4⟩:=qO hr2
  refine zdxe hp2 hq2 he2 rfl (zdc 0 (hc4.below h.below) rfl ?_)
  obtain ⟨r1,hr3,hF⟩:=qd hF
  refine qbm r1 (vsB _) (cB 210 rfl) (fun _ hb=>qoe (qgz y1 ((h.ext hb).oldS s3)) (qgz y2 ((h.ext hb).oldS s4)) hr3) rfl rfl rfl rfl (zd1 rfl (dN h fun w2 h=>qh rfl hF ?_ ?_))<;>intro hF
  ·refine X0 4 rfl ?_
   obtain rfl:=qb hF;replace hF:=hK1
   exact rb h hF rfl
  exact X0 7 rfl (rK ⟨_,hF,rfl,h⟩ rfl)
 refine qq rfl ?_
 obtain rfl:=qb hF;replace hF:=hK1
 exact X0 4 rfl (rb h hF rfl)
def qfl (a:(List ByteArray)) (b:(List ByteArray)):Nat→Int→Option (Flow Bool Int)
 | 0,_=>none
 | n+1,i1 =>
  bif decide (i1<(a.length:Int)) then
   (idx a i1).bind fun y1 =>
   (idx b i1).bind fun y2 =>
   bif (y1.toList != y2.toList) then some (.ret false) else
   qfl a b n (W64 (i1+1))
  else
   some (.nxt i1)
def qiA (n:Nat) (a:(List ByteArray)) (b:(List ByteArray)):Option Bool :=
 bif ((a.length:Int) != (b.length:Int)) then some false else
 (qfl a b n 0).bind fun o=>match o with
 | .ret r=>some r
 | .nxt _ =>
  some true
theorem qot {a:(List ByteArray)} {b:(List ByteArray)} (ha1:GoT.R w (old w) a cs1) (ha2:GoT.R w (old w) b cs2) {r:Bool} (hF:qiA n a b=some r):RetV Tryz.prog 136 [GoT.v (List ByteArray) cs1,GoT.v (List ByteArray) cs2] w r:=by
 obtain ⟨p1,k1,rfl,s1⟩:=ha1
 obtain ⟨p2,k2,rfl,s2⟩:=ha2
 refine zV 26 Tryz.func136 rfl fun h=>X0 13 rfl (qh rfl hF ?_ ?_)<;>intro hF
 ·exact X0 4 rfl (rb h hF rfl)
 refine X0 6 rfl ?_
 obtain ⟨o1,hF,hK1⟩:=qd hF
 refine qm (rL (fun m e w'=>∃ (i1:Int),qfl a b m i1=some o1∧e=[(0,.slice p1 a.length k1),(1,.slice p2 b.length k2),(5,.int .i64 i1)]∧SH w w' []) n ⟨_,hF,rfl,h⟩ rfl ?_)
 rintro m1 e1 w1 ⟨i1,hF,rfl,h⟩
 rcases m1 with _|m1
 ·cases hF
 refine X0 8 rfl (qh rfl hF ?_ ?_)<;>intro hF
 ·refine X0 4 rfl (rD (zd2 rfl ?_))
  obtain ⟨y1,hy1,hF,he1,b1,_,q1,cs3,hp1,hq1,rfl,hc3⟩:=s1.ix hF
  refine zdxe hp1 hq1 he1 rfl (zdc 0 (hc3.below h.below) rfl (zd2 rfl ?_))
  obtain ⟨y2,hy2,hF,he2,b2,_,q2,cs4,hp2,hq2,rfl,hc4⟩:=s2.ix hF
  refine zdxe hp2 hq2 he2 rfl (zdc 0 (hc4.below h.below) rfl (zd1 rfl (dN h fun w2 h=>qh rfl hF ?_ ?_)))<;>intro hF
  ·refine X0 4 rfl ?_
   obtain rfl:=qb hF;replace hF:=hK1
   exact rb h hF rfl
  exact X0 7 rfl (rK ⟨_,hF,rfl,h⟩ rfl)
 refine qq rfl ?_
 obtain rfl:=qb hF;replace hF:=hK1
 exact X0 4 rfl (rb h hF rfl)
def qjP (_:Nat) (a:qP) (b:qP):Option Bool :=
 bif (a.Az.toList != b.Az.toList) then some false else
 bif (a.Br != b.Br) then some false else
 bif (a.Bt != b.Bt) then some false else
 some true
theorem qrk {a:qP} {b:qP} (ha1:GoT.R w (old w) a cs1) (ha2:GoT.R w (old w) b cs2) {r:Bool} (hF:qjP n a b=some r):RetV Tryz.prog 211 [GoT.v qP cs1,GoT.v qP cs2] w r:=by
 obtain rfl:=qaS ha1
 obtain rfl:=qaS ha2
 refine zV 20 Tryz.func211 rfl fun h=>zSR (qv h rfl rfl fun w1 bb1 h=>qv h rfl rfl fun w2 bb2 h=>X2 11 1 0 h rfl (qh rfl hF ?_ ?_))<;>intro hF
 ·exact X0 4 rfl (rb h hF rfl)
 refine X2 10 1 0 h rfl (qh rfl hF ?_ ?_)<;>intro hF
 ·exact X0 4 rfl (rb h hF rfl)
 refine X2 10 1 0 h rfl (qh rfl hF ?_ ?_)<;>intro hF
 ·exact X0 4 rfl (rb h hF rfl)
 exact X0 5 rfl (rb h hF rfl)
def qgt (a:(List qP)) (b:(List qP)):Nat→Int→Option (Flow Bool Int)
 | 0,_=>none
 | n+1,i1 =>
  bif decide (i1<(a.length:Int)) then
   (idx a i1).bind fun y1 =>
   (idx b i1).bind fun y2 =>
   (qjP n y1 y2).bind fun r1 =>
   bif (!r1) then some (.ret false) else
   qgt a b n (W64 (i1+1))
  else
   some (.nxt i1)
def qj7 (n:Nat) (a:(List qP)) (b:(List qP)):Option Bool :=
 bif ((a.length:Int) != (b.length:Int)) then some false else
 (qgt a b n 0).bind fun o=>match o with
 | .ret r=>some r
 | .nxt _ =>
  some true
theorem qp1 {a:(List qP)} {b:(List qP)} (ha1:GoT.R w (old w) a cs1) (ha2:GoT.R w (old w) b cs2) {r:Bool} (hF:qj7 n a b=some r):RetV Tryz.prog 137 [GoT.v (List qP) cs1,GoT.v (List qP) cs2] w r:=by
 obtain ⟨p1,k1,rfl,s1⟩:=ha1
 obtain ⟨p2,k2,rfl,s2⟩:=ha2
 refine zV 27 Tryz.func137 rfl fun h=>X0 13 rfl (qh rfl hF ?_ ?_)<;>intro hF
 ·exact X0 4 rfl (rb h hF rfl)
 refine X0 6 rfl ?_
 obtain ⟨o1,hF,hK1⟩:=qd hF
 refine qm (rL (fun m e w'=>∃ (i1:Int),qgt a b m i1=some o1∧e=[(0,.slice p1 a.length k1),(1,.slice p2 b.length k2),(5,.int .i64 i1)]∧SH w w' []) n ⟨_,hF,rfl,h⟩ rfl ?_)
 rintro m1 e1 w1 ⟨i1,hF,rfl,h⟩
 rcases m1 with _|m1
 ·cases hF
 refine X0 8 rfl (qh rfl hF ?_ ?_)<;>intro hF
 ·refine X0 4 rfl (rD (zd2 rfl ?_))
  obtain ⟨y1,hy1,hF,he1,b1,_,q1,cs3,hp1,hq1,hr1,hc3⟩:=s1.ix hF
  obtain rfl:=qaS hr1
  refine zdxe hp1 hq1 he1 rfl (zdc 0 (hc3.below h.below) rfl (zd2 rfl ?_))
  obtain ⟨y2,hy2,hF,he2,b2,_,q2,cs4,hp2,hq2,hr2,hc4⟩:=s2.ix hF
  obtain rfl:=qaS hr2
  refine zdxe hp2 hq2 he2 rfl (zdc 0 (hc4.below h.below) rfl ?_)
  obtain ⟨r1,hr3,hF⟩:=qd hF
  refine qbm r1 (vsB _) (cB 211 rfl) (fun _ hb=>qrk (qes y1) (qes y2) hr3) rfl rfl rfl rfl (zd1 rfl (dN h fun w2 h=>qh rfl hF ?_ ?_))<;>intro hF
  ·refine X0 4 rfl ?_
   obtain rfl:=qb hF;replace hF:=hK1
   exact rb h hF rfl
  exact X0 7 rfl (rK ⟨_,hF,rfl,h⟩ rfl)
 refine qq rfl ?_
 obtain rfl:=qb hF;replace hF:=hK1
 exact X0 4 rfl (rb h hF rfl)
def qjp (n:Nat) (a:qf) (b:qf):Option Bool :=
 (qhn n a.Ab b.Ab).bind fun r1 =>
 bif (!r1) then some false else
 (qiA n a.Ai b.Ai).bind fun r2 =>
 bif (!r2) then some false else
 (qj7 n a.Ah b.Ah).bind fun r3 =>
 bif (!r3) then some false else
 some true
theorem qpC {a:qf} {b:qf} (ha1:GoT.R w (old w) a cs1) (ha2:GoT.R w (old w) b cs2) {r:Bool} (hF:qjp n a b=some r):RetV Tryz.prog 59 [GoT.v qf cs1,GoT.v qf cs2] w r:=by
 obtain ⟨p1,k1,p2,k2,p3,k3,rfl,s1,s2,s3⟩:=qaA ha1
 obtain ⟨p4,k4,p5,k5,p6,k6,rfl,s4,s5,s6⟩:=qaA ha2
 refine zV 23 Tryz.func59 rfl fun h=>zSR (qv h rfl rfl fun w1 bb1 h=>qv h rfl rfl fun w2 bb2 h=>X2 9 1 0 h rfl (zcB h hF (qnU ⟨_,_,rfl,(h.oldS s1)⟩ ⟨_,_,rfl,(h.oldS s4)⟩) rfl fun r1 w3 h hF=>X0 2 rfl (qh rfl hF ?_ ?_)))<;>intro hF
 ·exact X0 4 rfl (rb h hF rfl)
 refine X2 8 1 0 h rfl (zcB h hF (qot ⟨_,_,rfl,(h.oldS s2)⟩ ⟨_,_,rfl,(h.oldS s5)⟩) rfl fun r2 w4 h hF=>X0 2 rfl (qh rfl hF ?_ ?_))<;>intro hF
 ·exact X0 4 rfl (rb h hF rfl)
 refine X2 8 1 0 h rfl (zcB h hF (qp1 ⟨_,_,rfl,(h.oldS s3)⟩ ⟨_,_,rfl,(h.oldS s6)⟩) rfl fun r3 w5 h hF=>X0 2 rfl (qh rfl hF ?_ ?_))<;>intro hF
 ·exact X0 4 rfl (rb h hF rfl)
 exact X0 5 rfl (rb h hF rfl)
def qjH (n:Nat) (a:qE) (b:qE):Option Bool :=
 (qbu n a.Ak b.Ak).bind fun r1 =>
 bif (!r1) then some false else
 (qbu n a.Bs b.Bs).bind fun r2 =>
 bif (!r2) then some false else
 (qbu n a.Bo b.Bo).bind fun r3 =>
 bif (!r3) then some false else
 (qbu n a.Bh b.Bh).bind fun r4 =>
 bif (!r4) then some false else
 some true
theorem qqE {a:qE} {b:qE} (ha1:GoT.R w (old w) a cs1) (ha2:GoT.R w (old w) b cs2) {r:Bool} (hF:qjH n a b=some r):RetV Tryz.prog 138 [GoT.v qE cs1,GoT.v qE cs2] w r:=by
 obtain ⟨p1,k1,p2,k2,p3,k3,p4,k4,rfl,s1,s2,s3,s4⟩:=qaN ha1
 obtain ⟨p5,k5,p6,k6,p7,k7,p8,k8,rfl,s5,s6,s7,s8⟩:=qaN ha2
 refine zV 29 Tryz.func138 rfl fun h=>zSR (qv h rfl rfl fun w1 bb1 h=>qv h rfl rfl fun w2 bb2 h=>X2 9 1 0 h rfl (zcB h hF (qbk ⟨_,_,rfl,(h.oldS s1)⟩ ⟨_,_,rfl,(h.oldS s5)⟩) rfl fun r1 w3 h hF=>X0 2 rfl (qh rfl hF ?_ ?_)))<;>intro hF
 ·exact X0 4 rfl (rb h hF rfl)
 refine X2 8 1 0 h rfl (zcB h hF (qbk ⟨_,_,rfl,(h.oldS s2)⟩ ⟨_,_,rfl,(h.oldS s6)⟩) rfl fun r2 w4 h hF=>X0 2 rfl (qh rfl hF ?_ ?_))<;>intro hF
 ·exact X0 4 rfl (rb h hF rfl)
 refine X2 8 1 0 h rfl (zcB h hF (qbk ⟨_,_,rfl,(h.oldS s3)⟩ ⟨_,_,rfl,(h.oldS s7)⟩) rfl fun r3 w5 h hF=>X0 2 rfl (qh rfl hF ?_ ?_))<;>intro hF
 ·exact X0 4 rfl (rb h hF rfl)
 refine X2 8 1 0 h rfl (zcB h hF (qbk ⟨_,_,rfl,(h.oldS s4)⟩ ⟨_,_,rfl,(h.oldS s8)⟩) rfl fun r4 w6 h hF=>X0 2 rfl (qh rfl hF ?_ ?_))<;>intro hF
 ·exact X0 4 rfl (rb h hF rfl)
 exact X0 5 rfl (rb h hF rfl)
def qgg (a:(List qE)) (b:(List qE)):Nat→Int→Option (Flow Bool Int)
 | 0,_=>none
 | n+1,i1 =>
  bif decide (i1<(a.length:Int)) then
   (idx a i1).bind fun y1 =>
   (idx b i1).bind fun y2 =>
   (qjH n y1 y2).bind fun r1 =>
   bif (!r1) then some (.ret false) else
   qgg a b n (W64 (i1+1))
  else
   some (.nxt i1)
def qki (n:Nat) (a:(List qE)) (b:(List qE)):Option Bool :=
 bif ((a.length:Int) != (b.length:Int)) then some false else
 (qgg a b n 0).bind fun o=>match o with
 | .ret r=>some r
 | .nxt _ =>
  some true
theorem qp8 {a:(List qE)} {b:(List qE)} (ha1:GoT.R w (old w) a cs1) (ha2:GoT.R w (old w) b cs2) {r:Bool} (hF:qki n a b=some r):RetV Tryz.prog 60 [GoT.v (List qE) cs1,GoT.v (List qE) cs2] w r:=by
 obtain ⟨p1,k1,rfl,s1⟩:=ha1
 obtain ⟨p2,k2,rfl,s2⟩:=ha2
 refine zV 27 Tryz.func60 rfl fun h=>X0 13 rfl (qh rfl hF ?_ ?_)<;>intro hF
 ·exact X0 4 rfl (rb h hF rfl)
 refine X0 6 rfl ?_
 obtain ⟨o1,hF,hK1⟩:=qd hF
 refine qm (rL (fun m e w'=>∃ (i1:Int),qgg a b m i1=some o1∧e=[(0,.slice p1 a.length k1),(1,.slice p2 b.length k2),(5,.int .i64 i1)]∧SH w w' []) n ⟨_,hF,rfl,h⟩ rfl ?_)
 rintro m1 e1 w1 ⟨i1,hF,rfl,h⟩
 rcases m1 with _|m1
 ·cases hF
 refine X0 8 rfl (qh rfl hF ?_ ?_)<;>intro hF
 ·refine X0 4 rfl (rD (zd2 rfl ?_))
  obtain ⟨y1,hy1,hF,he1,b1,_,q1,cs3,hp1,hq1,hr1,hc3⟩:=s1.ix hF
  obtain ⟨p3,k3,p4,k4,p5,k5,p6,k6,rfl,s3,s4,s5,s6⟩:=qaN hr1
  refine zdxe hp1 hq1 he1 rfl (zdc 0 (hc3.below h.below) rfl (zd2 rfl ?_))
  obtain ⟨y2,hy2,hF,he2,b2,_,q2,cs4,hp2,hq2,hr2,hc4⟩:=s2.ix hF
  obtain ⟨p7,k7,p8,k8,p9,k9,p10,k10,rfl,s7,s8,s9,s10⟩:=qaN hr2
  refine zdxe hp2 hq2 he2 rfl (zdc 0 (hc4.below h.below) rfl ?_)
  obtain ⟨r1,hr3,hF⟩:=qd hF
  refine qbm r1 (vsB _) (cB 138 rfl) (fun _ hb=>qqE (qku y1 ((h.ext hb).oldS s3) ((h.ext hb).oldS s4) ((h.ext hb).oldS s5) ((h.ext hb).oldS s6)) (qku y2 ((h.ext hb).oldS s7) ((h.ext hb).oldS s8) ((h.ext hb).oldS s9) ((h.ext hb).oldS s10)) hr3) rfl rfl rfl rfl (zd1 rfl (dN h fun w2 h=>qh rfl hF ?_ ?_))<;>intro hF
  ·refine X0 4 rfl ?_
   obtain rfl:=qb hF;replace hF:=hK1
   exact rb h hF rfl
  exact X0 7 rfl (rK ⟨_,hF,rfl,h⟩ rfl)
 refine qq rfl ?_
 obtain rfl:=qb hF;replace hF:=hK1
 exact X0 4 rfl (rb h hF rfl)
def qka (n:Nat) (a:qg) (b:qg):Option Bool :=
 (qiE n (⟨a.Ar.Ap⟩:qr) (⟨b.Ar.Ap⟩:qr)).bind fun r1 =>
 bif (!r1) then some false else
 (qjp n (⟨a.Aa.Ab,a.Aa.Ai,a.Aa.Ah⟩:qf) (⟨b.Aa.Ab,b.Aa.Ai,b.Aa.Ah⟩:qf)).bind fun r2 =>
 bif (!r2) then some false else
 (qki n a.Ac b.Ac).bind fun r3 =>
 bif (!r3) then some false else
 some true
theorem qp6 {a:qg} {b:qg} (ha1:GoT.R w (old w) a cs1) (ha2:GoT.R w (old w) b cs2) {r:Bool} (hF:qka n a b=some r):RetV Tryz.prog 16 [GoT.v qg cs1,GoT.v qg cs2] w r:=by
 obtain ⟨p1,k1,p2,k2,p3,k3,p4,k4,p5,k5,rfl,s1,s2,s3,s4,s5⟩:=qI ha1
 obtain ⟨p6,k6,p7,k7,p8,k8,p9,k9,p10,k10,rfl,s6,s7,s8,s9,s10⟩:=qI ha2
 refine zV 23 Tryz.func16 rfl fun h=>zSR (qv h rfl rfl fun w1 bb1 h=>qv h rfl rfl fun w2 bb2 h=>X2 9 1 0 h rfl (zcB h hF (qoX (qd7 _ (h.oldS s1)) (qd7 _ (h.oldS s6))) rfl fun r1 w3 h hF=>X0 2 rfl (qh rfl hF ?_ ?_)))<;>intro hF
 ·exact X0 4 rfl (rb h hF rfl)
 refine X2 8 1 0 h rfl (zcB h hF (qpC (qax _ (h.oldS s2) (h.oldS s3) (h.oldS s4)) (qax _ (h.oldS s7) (h.oldS s8) (h.oldS s9))) rfl fun r2 w4 h hF=>X0 2 rfl (qh rfl hF ?_ ?_))<;>intro hF
 ·exact X0 4 rfl (rb h hF rfl)
 refine X2 8 1 0 h rfl (zcB h hF (qp8 ⟨_,_,rfl,(h.oldS s5)⟩ ⟨_,_,rfl,(h.oldS s10)⟩) rfl fun r3 w5 h hF=>X0 2 rfl (qh rfl hF ?_ ?_))<;>intro hF
 ·exact X0 4 rfl (rb h hF rfl)
 exact X0 5 rfl (rb h hF rfl)
def qay (_:Nat) (a_n:Int) (low:Int) (high:Int):Option Bool :=
 bif decide (a_n ≥ low) then some (decide (a_n≤high)) else
 some false
theorem qak {a_n:Int} {low:Int} {high:Int}  {r:Bool} (hF:qay n a_n low high=some r):RetV Tryz.prog 84 [.int .i64 a_n,.int .i64 low,.int .i64 high] w r:=by
 refine zV 15 Tryz.func84 rfl fun h=>X0 10 rfl (qk (t:=10) hF rfl ?_ ?_)<;>intro hF
 ·exact X0 9 rfl (rb h hF rfl)
 exact X0 6 rfl (rb h hF rfl)
def qdO (s:ByteArray):Nat→Int→Option (Flow Bool Int)
 | 0,_=>none
 | n+1,i1 =>
  bif decide (i1<(s.size:Int)) then
   (
    (atS s i1).bind fun y3 =>
    bif decide (y3 ≥ 97) then
     (atS s i1).bind fun y4 =>
     some (decide (y4≤122))
    else
     some false).bind fun b1 =>
   (
    (atS s i1).bind fun y1 =>
    bif decide (y1 ≥ 48) then
     (atS s i1).bind fun y2 =>
     some (decide (y2≤57))
    else
     some false).bind fun b2 =>
   bif (!b1) then
    bif b2 then
     bif (!(decide (i1 > 0))) then some (.ret false) else
     qdO s n (W64 (i1+1))
    else
     some (.ret false)
   else
    qdO s n (W64 (i1+1))
  else
   some (.nxt i1)
def qgc (n:Nat) (s:ByteArray):Option Bool :=
 (qdO s n 0).bind fun o=>match o with
 | .ret r=>some r
 | .nxt _ =>
  bif decide ((s.size:Int) ≥ 1) then some (decide ((s.size:Int)≤8)) else
  some false
theorem qh2 {s:ByteArray}  {r:Bool} (hF:qgc n s=some r):RetV Tryz.prog 147 [.string s] w r:=by
 refine zV 50 Tryz.func147 rfl fun h=>X0 9 rfl ?_
 obtain ⟨o1,hF,hK1⟩:=qd hF
 refine qm (rL (fun m e w'=>∃ (i1:Int),qdO s m i1=some o1∧e=[(0,.string s),(3,.int .i64 i1)]∧SH w w' []) n ⟨_,hF,rfl,h⟩ rfl ?_)
 rintro m1 e1 w1 ⟨i1,hF,rfl,h⟩
 rcases m1 with _|m1
 ·cases hF
 refine X0 8 rfl (qh rfl hF ?_ ?_)<;>intro hF
 ·refine X0 4 rfl ?_
  obtain ⟨KF2,hKF2,o3,hF,hK3⟩:=bindE hF
  refine qba (fun e w'=>∃ (b1:Bool),KF2 b1=some o1∧e=[(0,.string s),(3,.int .i64 i1),(4,.bool b1)]∧SH w w' []) ?_ ?_
  ·refine X0 3 rfl ?_
   obtain ⟨y3,hx3,hF⟩:=qd hF
   have g3:=qnc hx3
   refine r_v (qnr qa g3 rfl rfl rfl rfl) rfl (zp2 rfl (qk (t:=16) hF rfl ?_ ?_))<;>intro hF
   ·refine X0 5 rfl ?_
    obtain ⟨y4,hx4,hF⟩:=qd hF
    have g4:=qnc hx4
    refine r_v (qnr qa g4 rfl rfl rfl rfl) rfl (X0 5 rfl ?_)
    obtain rfl:=qb hF
    exact rG ⟨_,hK3,rfl,h⟩ rfl
   refine X0 7 rfl ?_
   obtain rfl:=qb hF
   exact rG ⟨_,hK3,rfl,h⟩ rfl
  rintro e3 w3 ⟨b1,hF,rfl,h⟩
  subst hKF2
  refine qc0 ?_
  obtain ⟨KF1,hKF1,o2,hF,hK2⟩:=bindE hF
  refine qba (fun e w'=>∃ (b2:Bool),KF1 b2=some o1∧e=[(0,.string s),(3,.int .i64 i1),(4,.bool b1),(5,.bool b2)]∧SH w w' []) ?_ ?_
  ·refine X0 3 rfl ?_
   obtain ⟨y1,hx1,hF⟩:=qd hF
   have g1:=qnc hx1
   refine r_v (qnr qa g1 rfl rfl rfl rfl) rfl (zp2 rfl (qk (t:=26) hF rfl ?_ ?_))<;>intro hF
   ·refine X0 5 rfl ?_
    obtain ⟨y2,hx2,hF⟩:=qd hF
    have g2:=qnc hx2
    refine r_v (qnr qa g2 rfl rfl rfl rfl) rfl (X0 5 rfl ?_)
    obtain rfl:=qb hF
    exact rG ⟨_,hK2,rfl,h⟩ rfl
   refine X0 7 rfl ?_
   obtain rfl:=qb hF
   exact rG ⟨_,hK2,rfl,h⟩ rfl
  rintro e2 w2 ⟨b2,hF,rfl,h⟩
  subst hKF1
  refine X0 5 rfl (qk (t:=34) hF rfl ?_ ?_)<;>intro hF
  ·refine X0 4 rfl (qk (t:=36) hF rfl ?_ ?_)<;>intro hF
   ·refine X0 10 rfl (qh rfl hF ?_ ?_)<;>intro hF
    ·refine X0 4 rfl ?_
     obtain rfl:=qb hF;replace hF:=hK1
     exact rb h hF rfl
    exact X0 7 rfl (rK ⟨_,hF,rfl,h⟩ rfl)
   refine X0 8 rfl (qb8 rfl rfl (X0 4 rfl ?_))
   obtain rfl:=qb hF;replace hF:=hK1
   exact rb h hF rfl
  exact X0 8 rfl (qcj rfl rfl (X0 7 rfl (rK ⟨_,hF,rfl,h⟩ rfl)))
 refine qq rfl ?_
 obtain rfl:=qb hF;replace hF:=hK1
 refine X0 6 rfl (qk (t:=45) hF rfl ?_ ?_)<;>intro hF
 ·exact X0 9 rfl (rb h hF rfl)
 exact X0 6 rfl (rb h hF rfl)
def qeY (a_0:qw) (i2:Int) (y1:qal):Nat→Int→Option (Flow (Int × Bool) Int)
 | 0,_=>none
 | n+1,i3 =>
  bif decide (i3<i2) then
   (idx a_0.Au i3).bind fun y2 =>
   bif (y2.Az.toList==y1.Az.toList) then some (.ret (0,false)) else
   qeY a_0 i2 y1 n (W64 (i3+1))
  else
   some (.nxt i3)
def qcU (a_0:qw):Nat→Int→Int→Option (Flow (Int × Bool) (Int × Int))
 | 0,_,_=>none
 | n+1,i1,i2 =>
  bif decide (i2<(a_0.Au.length:Int)) then
   (idx a_0.Au i2).bind fun y1 =>
   (qeY a_0 i2 y1 n 0).bind fun o=>match o with
   | .ret r=>some (.ret r)
   | .nxt _ =>
    (
     (qgc n y1.Az).bind fun r1 =>
     bif (!r1) then some true else
     (qay n y1.Bo 0 500).bind fun r2 =>
     some (!r2)).bind fun b4 =>
    bif b4 then some (.ret (0,false)) else
    (
     bif (i2==(W64 ((a_0.Au.length:Int)-1))) then
      bif (y1.Br != 2) then some true else
      bif (y1.Bo != 0) then some true else
      bif y1.Bn then some true else
      bif decide (i2<(W64 ((a_0.Au.length:Int)-1))) then some (y1.Br != 1) else
      some false
     else
      bif decide (i2<(W64 ((a_0.Au.length:Int)-1))) then some (y1.Br != 1) else
      some false).bind fun b5 =>
    bif b5 then some (.ret (0,false)) else
    bif y1.Bn then qcU a_0 n (W64 (i1+1)) (W64 (i2+1)) else
    qcU a_0 n i1 (W64 (i2+1))
  else
   some (.nxt (i1,i2))
def qj6 (n:Nat) (a_0:qw):Option (Int × Bool) :=
 (
  bif decide ((a_0.Au.length:Int)<2) then some true else
  some (decide ((a_0.Au.length:Int) > 5))).bind fun b1 =>
 bif b1 then some (0,false) else
 (qcU a_0 n 0 0).bind fun o=>match o with
 | .ret r=>some r
 | .nxt (i1,_) =>
  some (i1,true)
theorem qqd {a_0:qw} (ha1:GoT.R w (old w) a_0 cs1) {r:(Int × Bool)} (hF:qj6 n a_0=some r):RetV Tryz.prog 293 [GoT.v qw cs1] w r:=by
 obtain ⟨p1,k1,p2,k2,p3,k3,rfl,s1,s2,s3⟩:=qae ha1
 refine zV 86 Tryz.func293 rfl fun h=>zSR (qv h rfl rfl fun w1 bb1 h=>X1 12 0 h rfl ?_)
 obtain ⟨KF3,hKF3,o5,hF,hK5⟩:=bindE hF
 refine qba (fun e w'=>∃ (b1:Bool),KF3 b1=some r∧e=[(1,.pointer (some ⟨bb1,0,none⟩)),(4,.int .i64 (a_0.Au.length:Int)),(17,.bool b1)]∧SH w w' [Ch.box bb1 (qed a_0 p1 p2 p3 k1 k2 k3) 251]) ?_ ?_
 ·refine X0 4 rfl (qk (t:=14) hF rfl ?_ ?_)<;>intro hF
  ·refine X0 4 rfl ?_
   obtain rfl:=qb hF
   exact rG ⟨_,hK5,rfl,h⟩ rfl
  refine X0 6 rfl ?_
  obtain rfl:=qb hF
  exact rG ⟨_,hK5,rfl,h⟩ rfl
 rintro e5 w11 ⟨b1,hF,rfl,h⟩
 subst hKF3
 refine qh rfl hF ?_ ?_<;>intro hF
 ·refine X0 5 rfl ?_
  obtain rfl:=qb hF
  exact qab qa (ρ:=(Int × Bool)) [GoT.v Int [.int .i64 0],GoT.v Bool [.bool false]] h ⟨rfl,rfl,trivial⟩ (PV.done h (qao h (qz (S:=fun _=>False) rfl) (qaj (qz (S:=fun _=>False) rfl)) (by rfl)))
 refine X0 10 rfl ?_
 obtain ⟨o1,hF,hK1⟩:=qd hF
 refine qm (rL (fun m e w'=>∃ (i1:Int) (i2:Int),qcU a_0 m i1 i2=some o1∧e=[(1,.pointer (some ⟨bb1,0,none⟩)),(4,.int .i64 (a_0.Au.length:Int)),(5,.int .i64 i1),(6,.int .i64 i2)]∧SH w w' [Ch.box bb1 (qed a_0 p1 p2 p3 k1 k2 k3) 251]) n ⟨_,_,hF,rfl,h⟩ rfl ?_)
 rintro m1 e1 w2 ⟨i1,i2,hF,rfl,h⟩
 rcases m1 with _|m1
 ·cases hF
 refine X0 7 rfl (qh rfl hF ?_ ?_)<;>intro hF
 ·refine X1 8 0 h rfl ?_
  obtain ⟨y1,hy1,hF,he1,b2,_,q1,cs2,hp1,hq1,hr1,hc3⟩:=s1.ix hF
  obtain rfl:=qaX hr1
  refine zxe hp1 hq1 he1 rfl (zc 0 (hc3.below h.below) rfl (qp qa h rfl rfl rfl fun w3 bb2 h=>zs 0 h rfl fun w4 h=>X0 6 rfl ?_))
  obtain ⟨o2,hF,hK2⟩:=qd hF
  refine qm (rL (fun m e w'=>∃ (i3:Int),qeY a_0 i2 y1 m i3=some o2∧e=[(1,.pointer (some ⟨bb1,0,none⟩)),(4,.int .i64 (a_0.Au.length:Int)),(5,.int .i64 i1),(6,.int .i64 i2),(7,.pointer (some ⟨bb2,0,none⟩)),(8,.int .i64 i3)]∧SH w w' [Ch.box bb2 (qpv y1) 340,Ch.box bb1 (qed a_0 p1 p2 p3 k1 k2 k3) 251]) m1 ⟨_,hF,rfl,h⟩ rfl ?_)
  rintro m2 e2 w5 ⟨i3,hF,rfl,h⟩
  rcases m2 with _|m2
  ·cases hF
  refine X0 7 rfl (qh rfl hF ?_ ?_)<;>intro hF
  ·refine X0 4 rfl (rD (Y1 2 1 h rfl ?_))
   refine zd1 rfl ?_
   obtain ⟨y2,hy2,hF,he2,b3,_,q2,cs3,hp2,hq2,hr2,hc5⟩:=s1.ix hF
   obtain rfl:=qaX hr2
   refine zdxe hp2 hq2 he2 rfl (zd1 rfl (zdc 0 (hc5.below h.below) rfl (Y1 2 0 h rfl ?_)))
   refine zd1 rfl (dN h fun w6 h=>qh rfl hF ?_ ?_)<;>intro hF
   ·refine X0 5 rfl ?_
    obtain rfl:=qb hF;replace hF:=hK2
    obtain rfl:=qb hF;replace hF:=hK1
    obtain rfl:=qb hF
    exact qab qa (ρ:=(Int × Bool)) [GoT.v Int [.int .i64 0],GoT.v Bool [.bool false]] h ⟨rfl,rfl,trivial⟩ (PV.done h (qao h (qz (S:=fun _=>False) rfl) (qaj (qz (S:=fun _=>False) rfl)) (by rfl)))
   exact X0 7 rfl (rK ⟨_,hF,rfl,h⟩ rfl)
  refine qq rfl ?_
  obtain rfl:=qb hF;replace hF:=hK2
  refine zSS ?_
  obtain ⟨KF2,hKF2,o4,hF,hK4⟩:=bindE hF
  refine qba (fun e w'=>∃ (b4:Bool),KF2 b4=some o1∧e=[(1,.pointer (some ⟨bb1,0,none⟩)),(4,.int .i64 (a_0.Au.length:Int)),(5,.int .i64 i1),(6,.int .i64 i2),(7,.pointer (some ⟨bb2,0,none⟩)),(51,.bool b4)]∧SH w w' [Ch.box bb2 (qpv y1) 340,Ch.box bb1 (qed a_0 p1 p2 p3 k1 k2 k3) 251]) ?_ ?_
  ·refine X1 3 0 h rfl (zcB h hF qh2 rfl fun r1 w8 h hF=>zp2 rfl (qk (t:=46) hF rfl ?_ ?_))<;>intro hF
   ·refine X0 6 rfl ?_
    obtain rfl:=qb hF
    exact rG ⟨_,hK4,rfl,h⟩ rfl
   refine X1 5 0 h rfl (zcB h hF qak rfl fun r2 w9 h hF=>X0 4 rfl ?_)
   obtain rfl:=qb hF
   exact rG ⟨_,hK4,rfl,h⟩ rfl
  rintro e4 w10 ⟨b4,hF,rfl,h⟩
  subst hKF2
  refine qh rfl hF ?_ ?_<;>intro hF
  ·refine X0 5 rfl ?_
   obtain rfl:=qb hF;replace hF:=hK1
   obtain rfl:=qb hF
   exact qab qa (ρ:=(Int × Bool)) [GoT.v Int [.int .i64 0],GoT.v Bool [.bool false]] h ⟨rfl,rfl,trivial⟩ (PV.done h (qao h (qz (S:=fun _=>False) rfl) (qaj (qz (S:=fun _=>False) rfl)) (by rfl)))
  refine zKSS ?_
  obtain ⟨KF1,hKF1,o3,hF,hK3⟩:=bindE hF
  refine qba (fun e w'=>∃ (b5:Bool),KF1 b5=some o1∧e=[(1,.pointer (some ⟨bb1,0,none⟩)),(4,.int .i64 (a_0.Au.length:Int)),(5,.int .i64 i1),(6,.int .i64 i2),(7,.pointer (some ⟨bb2,0,none⟩)),(80,.bool b5)]∧SH w w' [Ch.box bb2 (qpv y1) 340,Ch.box bb1 (qed a_0 p1 p2 p3 k1 k2 k3) 251]) ?_ ?_
  ·refine X0 6 rfl (qk (t:=56) hF rfl ?_ ?_)<;>intro hF
   ·refine X1 8 0 h rfl (qk (t:=60) hF rfl ?_ ?_)<;>intro hF
    ·refine X0 24 rfl ?_
     obtain rfl:=qb hF
     exact rG ⟨_,hK3,rfl,h⟩ rfl
    refine X1 10 0 h rfl (qk (t:=65) hF rfl ?_ ?_)<;>intro hF
    ·refine X0 17 rfl ?_
     obtain rfl:=qb hF
     exact rG ⟨_,hK3,rfl,h⟩ rfl
    refine X1 8 0 h rfl (qk (t:=70) hF rfl ?_ ?_)<;>intro hF
    ·refine X0 11 rfl ?_
     obtain rfl:=qb hF
     exact rG ⟨_,hK3,rfl,h⟩ rfl
    refine X0 10 rfl (qk (t:=75) hF rfl ?_ ?_)<;>intro hF
    ·refine X1 10 0 h rfl ?_
     obtain rfl:=qb hF
     exact rG ⟨_,hK3,rfl,h⟩ rfl
    refine X0 7 rfl ?_
    obtain rfl:=qb hF
    exact rG ⟨_,hK3,rfl,h⟩ rfl
   refine X0 24 rfl (qk (t:=75) hF rfl ?_ ?_)<;>intro hF
   ·refine X1 10 0 h rfl ?_
    obtain rfl:=qb hF
    exact rG ⟨_,hK3,rfl,h⟩ rfl
   refine X0 7 rfl ?_
   obtain rfl:=qb hF
   exact rG ⟨_,hK3,rfl,h⟩ rfl
  rintro e3 w7 ⟨b5,hF,rfl,h⟩
  subst hKF1
  refine qh rfl hF ?_ ?_<;>intro hF
  ·refine X0 5 rfl ?_
   obtain rfl:=qb hF;replace hF:=hK1
   obtain rfl:=qb hF
   exact qab qa (ρ:=(Int × Bool)) [GoT.v Int [.int .i64 0],GoT.v Bool [.bool false]] h ⟨rfl,rfl,trivial⟩ (PV.done h (qao h (qz (S:=fun _=>False) rfl) (qaj (qz (S:=fun _=>False) rfl)) (by rfl)))
  refine X1 6 0 h rfl (qh rfl hF ?_ ?_)<;>intro hF
  ·refine X0 11 rfl ?_
   replace h:=h.pick [1] rfl
   exact rK ⟨_,_,hF,rfl,h⟩ rfl
  refine X0 7 rfl ?_
  replace h:=h.pick [1] rfl
  exact rK ⟨_,_,hF,rfl,h⟩ rfl
 refine qq rfl ?_
 obtain rfl:=qb hF;replace hF:=hK1
 refine X0 6 rfl ?_
 obtain rfl:=qb hF
 exact qab qa (ρ:=(Int × Bool)) [GoT.v Int [.int .i64 i1],GoT.v Bool [.bool true]] h ⟨rfl,rfl,trivial⟩ (PV.done h (qao h (qz (S:=fun _=>False) rfl) (qaj (qz (S:=fun _=>False) rfl)) (by rfl)))
def qdU (list:(List Int)):Nat→Int→Option (Flow Bool Int)
 | 0,_=>none
 | n+1,i1 =>
  bif decide (i1<(list.length:Int)) then
   (idx list i1).bind fun y1 =>
   (qay n y1 0 100000).bind fun r1 =>
   bif (!r1) then some (.ret false) else
   bif decide (i1 > 0) then
    (idx list (W64 (i1-1))).bind fun y2 =>
    (idx list i1).bind fun y3 =>
    bif decide (y2 ≥ y3) then some (.ret false) else
    qdU list n (W64 (i1+1))
   else
    qdU list n (W64 (i1+1))
  else
   some (.nxt i1)
def qiN (n:Nat) (list:(List Int)):Option Bool :=
 (qdU list n 0).bind fun o=>match o with
 | .ret r=>some r
 | .nxt _ =>
  bif decide ((list.length:Int) ≥ 1) then some (decide ((list.length:Int)≤4)) else
  some false
theorem qmz {list:(List Int)} (ha1:GoT.R w (old w) list cs1) {r:Bool} (hF:qiN n list=some r):RetV Tryz.prog 346 [GoT.v (List Int) cs1] w r:=by
 obtain ⟨p1,k1,rfl,s1⟩:=ha1
 refine zV 40 Tryz.func346 rfl fun h=>X0 9 rfl ?_
 obtain ⟨o1,hF,hK1⟩:=qd hF
 refine qm (rL (fun m e w'=>∃ (i1:Int),qdU list m i1=some o1∧e=[(0,.slice p1 list.length k1),(3,.int .i64 i1)]∧SH w w' []) n ⟨_,hF,rfl,h⟩ rfl ?_)
 rintro m1 e1 w1 ⟨i1,hF,rfl,h⟩
 rcases m1 with _|m1
 ·cases hF
 refine X0 8 rfl (qh rfl hF ?_ ?_)<;>intro hF
 ·refine X0 4 rfl (rD (zd2 rfl ?_))
  obtain ⟨y1,hy1,hF,he1,b1,_,q1,cs2,hp1,hq1,rfl,hc2⟩:=s1.ix hF
  refine zdxe hp1 hq1 he1 rfl (zdc 0 (hc2.below h.below) rfl ?_)
  obtain ⟨r1,hr2,hF⟩:=qd hF
  refine qbm r1 (vsB _) (cB 84 rfl) (fun _ hb=>qak  hr2) rfl rfl rfl rfl (zd2 rfl (qa6 (t:=16) hF rfl ?_ ?_))<;>intro hF
  ·refine Y0 15 rfl (dN h fun w2 h=>qb8 rfl rfl (X0 4 rfl ?_))
   obtain rfl:=qb hF;replace hF:=hK1
   exact rb h hF rfl
  refine Y0 6 rfl (qa6 (t:=19) hF rfl ?_ ?_)<;>intro hF
  ·refine Y0 7 rfl ?_
   obtain ⟨y2,hy2,hF,he2,b2,_,q2,cs3,hp2,hq2,rfl,hc3⟩:=s1.ix hF
   refine zdxe hp2 hq2 he2 rfl (Y0 1 rfl (zdc 0 (hc3.below h.below) rfl (Y0 5 rfl ?_)))
   obtain ⟨y3,hy3,hF,he3,b3,_,q3,cs4,hp3,hq3,rfl,hc4⟩:=s1.ix hF
   refine zdxe hp3 hq3 he3 rfl (Y0 1 rfl (zdc 0 (hc4.below h.below) rfl (Y0 5 rfl (dN h fun w3 h=>qh rfl hF ?_ ?_))))<;>intro hF
   ·refine X0 4 rfl ?_
    obtain rfl:=qb hF;replace hF:=hK1
    exact rb h hF rfl
   exact X0 7 rfl (rK ⟨_,hF,rfl,h⟩ rfl)
  exact Y0 13 rfl (dN h fun w4 h=>qcj rfl rfl (X0 7 rfl (rK ⟨_,hF,rfl,h⟩ rfl)))
 refine qq rfl ?_
 obtain rfl:=qb hF;replace hF:=hK1
 refine X0 6 rfl (qk (t:=35) hF rfl ?_ ?_)<;>intro hF
 ·exact X0 9 rfl (rb h hF rfl)
 exact X0 6 rfl (rb h hF rfl)
def qeS (t:qt):Nat→Int→Option (Flow Bool Int)
 | 0,_=>none
 | n+1,i1 =>
  bif decide (i1<(t.Ba.length:Int)) then
   (idx t.Ba i1).bind fun y1 =>
   (qay n y1 (-1000000) 1000000).bind fun r1 =>
   bif (!r1) then some (.ret false) else
   qeS t n (W64 (i1+1))
  else
   some (.nxt i1)
def qkc (n:Nat) (t:qt):Option Bool :=
 (
  (qiN n t.Bi).bind fun r2 =>
  bif (!r2) then some true else
  (qiN n t.Bb).bind fun r3 =>
  bif (!r3) then some true else
  some ((t.Ba.length:Int) != (W64 ((t.Bi.length:Int)*(t.Bb.length:Int))))).bind fun b1 =>
 bif b1 then some false else
 (qeS t n 0).bind fun o=>match o with
 | .ret r=>some r
 | .nxt _ =>
  some true
theorem qp9 {t:qt} (ha1:GoT.R w (old w) t cs1) {r:Bool} (hF:qkc n t=some r):RetV Tryz.prog 339 [GoT.v qt cs1] w r:=by
 obtain ⟨p1,k1,p2,k2,p3,k3,rfl,s1,s2,s3⟩:=qaG ha1
 refine zV 41 Tryz.func339 rfl fun h=>zSR (qv h rfl rfl fun w1 bb1 h=>X0 4 rfl ?_)
 obtain ⟨KF1,hKF1,o2,hF,hK2⟩:=bindE hF
 refine qba (fun e w'=>∃ (b1:Bool),KF1 b1=some r∧e=[(1,.pointer (some ⟨bb1,0,none⟩)),(26,.bool b1)]∧SH w w' [Ch.box bb1 (qhj t p1 p2 p3 k1 k2 k3) 329]) ?_ ?_
 ·refine X1 3 0 h rfl (zcB h hF (qmz ⟨_,_,rfl,(h.oldS s1)⟩) rfl fun r2 w4 h hF=>zp2 rfl (qk (t:=8) hF rfl ?_ ?_))<;>intro hF
  ·refine X0 19 rfl ?_
   obtain rfl:=qb hF
   exact rG ⟨_,hK2,rfl,h⟩ rfl
  refine X1 5 0 h rfl (zcB h hF (qmz ⟨_,_,rfl,(h.oldS s2)⟩) rfl fun r3 w5 h hF=>X0 4 rfl (qk (t:=14) hF rfl ?_ ?_))<;>intro hF
  ·refine X0 13 rfl ?_
   obtain rfl:=qb hF
   exact rG ⟨_,hK2,rfl,h⟩ rfl
  refine X3 24 0 0 0 h rfl ?_
  obtain rfl:=qb hF
  exact rG ⟨_,hK2,rfl,h⟩ rfl
 rintro e2 w6 ⟨b1,hF,rfl,h⟩
 subst hKF1
 refine qh rfl hF ?_ ?_<;>intro hF
 ·exact X0 4 rfl (rb h hF rfl)
 refine X0 6 rfl ?_
 obtain ⟨o1,hF,hK1⟩:=qd hF
 refine qm (rL (fun m e w'=>∃ (i1:Int),qeS t m i1=some o1∧e=[(1,.pointer (some ⟨bb1,0,none⟩)),(3,.int .i64 i1)]∧SH w w' [Ch.box bb1 (qhj t p1 p2 p3 k1 k2 k3) 329]) n ⟨_,hF,rfl,h⟩ rfl ?_)
 rintro m1 e1 w2 ⟨i1,hF,rfl,h⟩
 rcases m1 with _|m1
 ·cases hF
 refine X1 9 0 h rfl (qh rfl hF ?_ ?_)<;>intro hF
 ·refine X1 8 0 h rfl ?_
  obtain ⟨y1,hy1,hF,he1,b2,_,q1,cs2,hp1,hq1,rfl,hc3⟩:=s3.ix hF
  refine zxe hp1 hq1 he1 rfl (zc 0 (hc3.below h.below) rfl (zcB h hF qak rfl fun r1 w3 h hF=>X0 2 rfl (qh rfl hF ?_ ?_)))<;>intro hF
  ·refine X0 4 rfl ?_
   obtain rfl:=qb hF;replace hF:=hK1
   exact rb h hF rfl
  exact X0 7 rfl (rK ⟨_,hF,rfl,h⟩ rfl)
 refine qq rfl ?_
 obtain rfl:=qb hF;replace hF:=hK1
 exact X0 4 rfl (rb h hF rfl)
def qcR (t:qt):Nat→Int→Int→Int→Option (Int × Int × Int)
 | 0,_,_,_=>none
 | n+1,i1,i2,i3 =>
  bif decide (i3<(t.Ba.length:Int)) then
   (idx t.Ba i3).bind fun y3 =>
   (idx t.Ba i3).bind fun y4 =>
   qcR t n (if y3<i1 then y3 else i1) (if y4 > i2 then y4 else i2) (W64 (i3+1))
  else
   some (i1,i2,i3)
def qhB (n:Nat) (t:qt):Option (qc × Int) :=
 (qkc n t).bind fun r1 =>
 bif (!r1) then some ((⟨0,0⟩:qc),1) else
 (idx t.Ba 0).bind fun y1 =>
 (idx t.Ba 0).bind fun y2 =>
 (qcR t n y1 y2 1).bind fun o=>match o with
 | (i1,i2,_) =>
  some ((⟨i1,i2⟩:qc),0)
theorem qnL {t:qt} (ha1:GoT.R w (old w) t cs1) {r:(qc × Int)} (hF:qhB n t=some r):RetV Tryz.prog 328 [GoT.v qt cs1] w r:=by
 obtain ⟨p1,k1,p2,k2,p3,k3,rfl,s1,s2,s3⟩:=qaG ha1
 refine zV 45 Tryz.func328 rfl fun h=>zSR (qv h rfl rfl fun w1 bb1 h=>qp qa h rfl rfl rfl fun w2 bb2 h=>X1 6 1 h rfl (zcB h hF (qp9 (h.old ha1)) rfl fun r1 w3 h hF=>X0 2 rfl (qh rfl hF ?_ ?_)))<;>intro hF
 ·refine zSR (r_v (qW qa [] [] rfl rfl rfl rfl rfl rfl rfl rfl) rfl (zs 0 h rfl fun w4 h=>X0 2 rfl ?_))
  obtain rfl:=qb hF
  exact qab qa (ρ:=(qc × Int)) [GoT.v qc [.int .i64 0,.int .i64 0],GoT.v Int [.int .i64 1]] h ⟨⟨_,_,_,rfl,rfl,h.box 0 rfl,rfl⟩,rfl,trivial⟩ (PV.done h (qao h (qz (S:=fun _=>False) (qA (⟨0,0⟩:qc))) (qaj (qz (S:=fun _=>False) rfl)) (by rfl)))
 refine zKS (rA [] [1] h rfl fun w5 h=>M1 3 [0,1] 0 (h.pick [1] rfl) rfl ?_)
 obtain ⟨y1,hy1,hF,he1,b1,_,q1,cs2,hp1,hq1,rfl,hc2⟩:=s3.ix hF
 refine Ae 2 7 hp1 hq1 he1 (h.pick [1] rfl) rfl (Al 3 15 0 hc2 (h.pick [1] rfl) rfl (M1 63 [4,5] 0 (h.pick [1] rfl) rfl ?_))
 obtain ⟨y2,hy2,hF,he2,b2,_,q2,cs3,hp2,hq2,rfl,hc3⟩:=s3.ix hF
 refine Ae 6 127 hp2 hq2 he2 (h.pick [1] rfl) rfl (Al 7 255 0 hc3 (h.pick [1] rfl) rfl (Aw 8 511 (fun w' hw=>qW qa [0,1] [.tmp 13,.tmp 17] rfl rfl rfl rfl rfl rfl rfl rfl) (h.pick [1] rfl) rfl ?_))
 refine Ao 9 1023 rfl (qp qa h rfl rfl rfl fun w6 bb3 h=>Ag (h.pick [2] rfl) (Ao 10 2047 rfl (zs 0 h rfl fun w7 h=>Ag (h.pick [2] rfl) (Ad (X0 5 rfl ?_)))))
 obtain ⟨o1,hF,hK1⟩:=qd hF
 refine qm (rL (fun m e w'=>∃ (i1:Int) (i2:Int) (i3:Int),qcR t m i1 i2 i3=some o1∧e=[(1,.pointer (some ⟨bb1,0,none⟩)),(2,.pointer (some ⟨bb2,0,none⟩)),(4,.pointer (some ⟨bb3,0,none⟩)),(5,.int .i64 i3)]∧SH w w' [Ch.box bb3 [.int .i64 i1,.int .i64 i2] 138,Ch.box bb2 [.int .i64 0,.int .i64 0] 138,Ch.box bb1 (qhj t p1 p2 p3 k1 k2 k3) 329]) n ⟨_,_,_,hF,rfl,h⟩ rfl ?_)
 rintro m1 e1 w8 ⟨i1,i2,i3,hF,rfl,h⟩
 rcases m1 with _|m1
 ·cases hF
 refine X1 9 2 h rfl (qh rfl hF ?_ ?_)<;>intro hF
 ·refine X0 4 rfl (rA [9] [0,2] h rfl fun w9 h=>M2 31 [0,1,2,3,4] 0 1 (h.pick [0,2] rfl) rfl ?_)
  obtain ⟨y3,hy3,hF,he3,b3,_,q3,cs4,hp3,hq3,rfl,hc5⟩:=s3.ix hF
  refine Ae 5 63 hp3 hq3 he3 (h.pick [0,2] rfl) rfl (Al 6 127 0 hc5 (h.pick [0,2] rfl) rfl (M0 511 [7,8] (h.pick [0,2] rfl) rfl (Ao 9 1023 rfl (zs 0 h rfl fun w10 h=>qbI (fun hs=>absurd (hs 9 (by decide)) (by decide)) (Ad (rA [9] [0,2] h rfl fun w11 h=>M2 31 [0,1,2,3,4] 0 1 (h.pick [0,2] rfl) rfl ?_))))))
  obtain ⟨y4,hy4,hF,he4,b4,_,q4,cs5,hp4,hq4,rfl,hc6⟩:=s3.ix hF
  exact Ae 5 63 hp4 hq4 he4 (h.pick [0,2] rfl) rfl (Al 6 127 0 hc6 (h.pick [0,2] rfl) rfl (M0 511 [7,8] (h.pick [0,2] rfl) rfl (Ao 9 1023 rfl (zs 0 h rfl fun w12 h=>qbI (fun hs=>absurd (hs 9 (by decide)) (by decide)) (Ad (X0 6 rfl (rK ⟨_,_,_,hF,rfl,h⟩ rfl)))))))
 refine qq rfl ?_
 obtain rfl:=qb hF;replace hF:=hK1
 refine X1 3 0 h rfl (zs 1 h rfl fun w13 h=>X0 2 rfl ?_)
 obtain rfl:=qb hF
 exact qab qa (ρ:=(qc × Int)) [GoT.v qc [.int .i64 i1,.int .i64 i2],GoT.v Int [.int .i64 0]] h ⟨⟨_,_,_,rfl,rfl,h.box 1 rfl,rfl⟩,rfl,trivial⟩ (PV.done h (qao h (qz (S:=fun _=>False) (qA (⟨i1,i2⟩:qc))) (qaj (qz (S:=fun _=>False) rfl)) (by rfl)))
def qcM (list:(List qt)) (positive:Bool):Nat→Int→Option (Flow Bool Int)
 | 0,_=>none
 | n+1,i1 =>
  bif decide (i1<2) then
   (idx list i1).bind fun y1 =>
   (qhB n y1).bind fun o=>match o with
    | (r2,r3) =>
     bif (r3 != 0) then some (.ret false) else
     bif positive then
      bif decide (r2.Am<0) then some (.ret false) else
      qcM list positive n (W64 (i1+1))
     else
      qcM list positive n (W64 (i1+1))
  else
   some (.nxt i1)
def qdt (n:Nat) (list:(List qt)) (positive:Bool):Option Bool :=
 bif ((list.length:Int) != 2) then some false else
 (qcM list positive n 0).bind fun o=>match o with
 | .ret r=>some r
 | .nxt _ =>
  some true
theorem qfb {list:(List qt)} {positive:Bool} (ha1:GoT.R w (old w) list cs1) {r:Bool} (hF:qdt n list positive=some r):RetV Tryz.prog 313 [GoT.v (List qt) cs1,.bool positive] w r:=by
 obtain ⟨p1,k1,rfl,s1⟩:=ha1
 refine zV 33 Tryz.func313 rfl fun h=>X0 11 rfl (qh rfl hF ?_ ?_)<;>intro hF
 ·exact X0 4 rfl (rb h hF rfl)
 refine X0 6 rfl ?_
 obtain ⟨o1,hF,hK1⟩:=qd hF
 refine qm (rL (fun m e w'=>∃ (i1:Int),qcM list positive m i1=some o1∧e=[(0,.slice p1 list.length k1),(1,.bool positive),(5,.int .i64 i1)]∧SH w w' []) n ⟨_,hF,rfl,h⟩ rfl ?_)
 rintro m1 e1 w1 ⟨i1,hF,rfl,h⟩
 rcases m1 with _|m1
 ·cases hF
 refine X0 6 rfl (qh rfl hF ?_ ?_)<;>intro hF
 ·refine X0 7 rfl ?_
  obtain ⟨y1,hy1,hF,he1,b1,_,q1,cs2,hp1,hq1,hr1,hc3⟩:=s1.ix hF
  obtain ⟨p2,k2,p3,k3,p4,k4,rfl,s2,s3,s4⟩:=qaG hr1
  refine zxe hp1 hq1 he1 rfl (zc 0 (hc3.below h.below) rfl ?_)
  obtain ⟨r1,hr2,hF⟩:=qd hF
  obtain ⟨r2,r3⟩:=r1
  refine qaP (r2,r3) h (cB 328 rfl) (qnL (qfq y1 (h.oldS s2) (h.oldS s3) (h.oldS s4)) hr2) rfl rfl rfl rfl fun w2 S1 us1 hv1 hr3=>?_
  obtain ⟨S2,S3,cs3,us2,rfl,hv2,hr4⟩:=hv1.cons hr3
  obtain rfl:=qx (hv2.sh.own 0 rfl)
  obtain ⟨rfl,h⟩:=hv2.lastI hr4
  refine zp3 rfl (qp qa h rfl rfl rfl fun w3 bb1 h=>zs 0 h rfl fun w4 h=>X0 7 rfl (qk (t:=25) hF rfl ?_ ?_))<;>intro hF
  ·refine X0 8 rfl (qb8 rfl rfl (X0 4 rfl ?_))
   obtain rfl:=qb hF;replace hF:=hK1
   exact rb h hF rfl
  refine X0 4 rfl (qk (t:=27) hF rfl ?_ ?_)<;>intro hF
  ·refine X1 10 0 h rfl (qh rfl hF ?_ ?_)<;>intro hF
   ·refine X0 4 rfl ?_
    obtain rfl:=qb hF;replace hF:=hK1
    exact rb h hF rfl
   refine X0 7 rfl ?_
   replace h:=h.pick [] rfl
   exact rK ⟨_,hF,rfl,h⟩ rfl
  refine X0 7 rfl (qcj rfl rfl (X0 7 rfl ?_))
  replace h:=h.pick [] rfl
  exact rK ⟨_,hF,rfl,h⟩ rfl
 refine qq rfl ?_
 obtain rfl:=qb hF;replace hF:=hK1
 exact X0 4 rfl (rb h hF rfl)
def qlo (n:Nat) (a_0:qw) (a_1:qG):Option Bool :=
 (
  (qay n a_1.Be 0 (W64 ((W64 ((a_0.Au.length:Int)-1))-1))).bind fun r7 =>
  bif (!r7) then some true else
  (qay n a_1.To 0 (W64 ((a_0.Au.length:Int)-1))).bind fun r8 =>
  some (!r8)).bind fun b1 =>
 bif b1 then some false else
 (idx a_0.Au a_1.Be).bind fun y1 =>
 bif (a_1.Av==1) then
  bif (!y1.Bn) then
   bif (a_1.To==(W64 ((a_0.Au.length:Int)-1))) then
    (qay n a_1.Bl 1 3).bind fun r1 =>
    bif r1 then
     (qdt n a_1.Bj true).bind fun r2 =>
     bif r2 then
      (qdt n a_1.Aq true).bind fun r3 =>
      some r3
     else
      some false
    else
     some false
   else
    some false
  else
   some false
 else
  (
   bif (a_1.Av==2) then some (a_1.Av==2) else
   some (a_1.Av==3)).bind fun b3 =>
  bif b3 then
   bif y1.Bn then
    bif (a_1.To==(W64 ((a_0.Au.length:Int)-1))) then
     bif (a_1.Bl==0) then
      (qdt n a_1.Bj true).bind fun r4 =>
      bif r4 then
       (qdt n a_1.Aq true).bind fun r5 =>
       some r5
      else
       some false
     else
      some false
    else
     some false
   else
    some false
  else
   (
    bif (a_1.Av==4) then some (a_1.Av==4) else
    some (a_1.Av==5)).bind fun b4 =>
   bif b4 then
    bif y1.Bn then
     bif decide (a_1.To<(W64 ((a_0.Au.length:Int)-1))) then
      (idx a_0.Au a_1.To).bind fun y2 =>
      bif (!y2.Bn) then
       bif (a_1.Bl==0) then
        (qdt n a_1.Bj false).bind fun r6 =>
        bif r6 then some ((a_1.Aq.length:Int)==0) else
        some false
       else
        some false
      else
       some false
     else
      some false
    else
     some false
   else
    some false
theorem qqT {a_0:qw} {a_1:qG} (ha1:GoT.R w (old w) a_0 cs1) (ha2:GoT.R w (old w) a_1 cs2) {r:Bool} (hF:qlo n a_0 a_1=some r):RetV Tryz.prog 294 [GoT.v qw cs1,GoT.v qG cs2] w r:=by
 obtain ⟨p1,k1,p2,k2,p3,k3,rfl,s1,s2,s3⟩:=qae ha1
 obtain ⟨p4,k4,p5,k5,rfl,s4,s5⟩:=qai ha2
 refine zV 119 Tryz.func294 rfl fun h=>zSR (qv h rfl rfl fun w1 bb1 h=>qv h rfl rfl fun w2 bb2 h=>X1 12 1 h rfl ?_)
 obtain ⟨KF3,hKF3,o3,hF,hK3⟩:=bindE hF
 refine qba (fun e w'=>∃ (b1:Bool),KF3 b1=some r∧e=[(2,.pointer (some ⟨bb1,0,none⟩)),(3,.pointer (some ⟨bb2,0,none⟩)),(5,.int .i64 (W64 ((a_0.Au.length:Int)-1))),(23,.bool b1)]∧SH w w' [Ch.box bb2 (qhb a_1 p4 p5 k4 k5) 254,Ch.box bb1 (qed a_0 p1 p2 p3 k1 k2 k3) 251]) ?_ ?_
 ·refine X1 5 0 h rfl (zcB h hF qak rfl fun r7 w11 h hF=>zp2 rfl (qk (t:=17) hF rfl ?_ ?_))<;>intro hF
  ·refine X0 7 rfl ?_
   obtain rfl:=qb hF
   exact rG ⟨_,hK3,rfl,h⟩ rfl
  refine X1 7 0 h rfl (zcB h hF qak rfl fun r8 w12 h hF=>X0 4 rfl ?_)
  obtain rfl:=qb hF
  exact rG ⟨_,hK3,rfl,h⟩ rfl
 rintro e3 w13 ⟨b1,hF,rfl,h⟩
 subst hKF3
 refine qh rfl hF ?_ ?_<;>intro hF
 ·exact X0 4 rfl (rb h hF rfl)
 refine X2 7 1 0 h rfl ?_
 obtain ⟨y1,hy1,hF,he1,b2,_,q1,cs3,hp1,hq1,hr1,hc2⟩:=s1.ix hF
 obtain rfl:=qaX hr1
 refine zxe hp1 hq1 he1 rfl (zp1 rfl (zc 3 (hc2.below h.below) rfl (X1 14 0 h rfl (qh rfl hF ?_ ?_))))<;>intro hF
 ·refine X0 5 rfl (qk (t:=37) hF rfl ?_ ?_)<;>intro hF
  ·refine X1 10 0 h rfl (qk (t:=43) hF rfl ?_ ?_)<;>intro hF
   ·refine X1 5 0 h rfl (zcB h hF qak rfl fun r1 w3 h hF=>zp2 rfl (qk (t:=48) hF rfl ?_ ?_))<;>intro hF
    ·refine X1 5 0 h rfl (zcB h hF (qfb ⟨_,_,rfl,(h.oldS s4)⟩) rfl fun r2 w4 h hF=>zp2 rfl (qk (t:=53) hF rfl ?_ ?_))<;>intro hF
     ·exact X1 5 0 h rfl (zcB h hF (qfb ⟨_,_,rfl,(h.oldS s5)⟩) rfl fun r3 w5 h hF=>X0 3 rfl (rb h hF rfl))
     exact X0 6 rfl (rb h hF rfl)
    exact X0 11 rfl (rb h hF rfl)
   exact X0 16 rfl (rb h hF rfl)
  exact X0 22 rfl (rb h hF rfl)
 refine X0 6 rfl ?_
 obtain ⟨KF2,hKF2,o2,hF,hK2⟩:=bindE hF
 refine qba (fun e w'=>∃ (b3:Bool),KF2 b3=some r∧e=[(2,.pointer (some ⟨bb1,0,none⟩)),(3,.pointer (some ⟨bb2,0,none⟩)),(5,.int .i64 (W64 ((a_0.Au.length:Int)-1))),(6,.bool y1.Bn),(32,.int .i64 a_1.Av),(58,.bool b3)]∧SH w w' [Ch.box bb2 (qhb a_1 p4 p5 k4 k5) 254,Ch.box bb1 (qed a_0 p1 p2 p3 k1 k2 k3) 251]) ?_ ?_
 ·refine qh rfl hF ?_ ?_<;>intro hF
  ·refine qhE ?_
   obtain rfl:=qb hF
   exact rG ⟨_,hK2,rfl,h⟩ rfl
  refine X0 4 rfl ?_
  obtain rfl:=qb hF
  exact rG ⟨_,hK2,rfl,h⟩ rfl
 rintro e2 w10 ⟨b3,hF,rfl,h⟩
 subst hKF2
 refine qh rfl hF ?_ ?_<;>intro hF
 ·refine X0 4 rfl (qk (t:=62) hF rfl ?_ ?_)<;>intro hF
  ·refine X1 10 0 h rfl (qk (t:=68) hF rfl ?_ ?_)<;>intro hF
   ·refine X1 8 0 h rfl (qk (t:=73) hF rfl ?_ ?_)<;>intro hF
    ·refine X1 5 0 h rfl (zcB h hF (qfb ⟨_,_,rfl,(h.oldS s4)⟩) rfl fun r4 w6 h hF=>zp2 rfl (qk (t:=78) hF rfl ?_ ?_))<;>intro hF
     ·exact X1 5 0 h rfl (zcB h hF (qfb ⟨_,_,rfl,(h.oldS s5)⟩) rfl fun r5 w7 h hF=>X0 3 rfl (rb h hF rfl))
     exact X0 6 rfl (rb h hF rfl)
    exact X0 11 rfl (rb h hF rfl)
   exact X0 16 rfl (rb h hF rfl)
  exact X0 22 rfl (rb h hF rfl)
 refine X0 6 rfl ?_
 obtain ⟨KF1,hKF1,o1,hF,hK1⟩:=bindE hF
 refine qba (fun e w'=>∃ (b4:Bool),KF1 b4=some r∧e=[(2,.pointer (some ⟨bb1,0,none⟩)),(3,.pointer (some ⟨bb2,0,none⟩)),(5,.int .i64 (W64 ((a_0.Au.length:Int)-1))),(6,.bool y1.Bn),(83,.bool b4)]∧SH w w' [Ch.box bb2 (qhb a_1 p4 p5 k4 k5) 254,Ch.box bb1 (qed a_0 p1 p2 p3 k1 k2 k3) 251]) ?_ ?_
 ·refine qh rfl hF ?_ ?_<;>intro hF
  ·refine qhE ?_
   obtain rfl:=qb hF
   exact rG ⟨_,hK1,rfl,h⟩ rfl
  refine X0 4 rfl ?_
  obtain rfl:=qb hF
  exact rG ⟨_,hK1,rfl,h⟩ rfl
 rintro e1 w9 ⟨b4,hF,rfl,h⟩
 subst hKF1
 refine qh rfl hF ?_ ?_<;>intro hF
 ·refine X0 4 rfl (qk (t:=87) hF rfl ?_ ?_)<;>intro hF
  ·refine X1 10 0 h rfl (qk (t:=93) hF rfl ?_ ?_)<;>intro hF
   ·refine X2 9 1 0 h rfl ?_
    obtain ⟨y2,hy2,hF,he2,b5,_,q2,cs4,hp2,hq2,hr7,hc6⟩:=s1.ix hF
    obtain rfl:=qaX hr7
    refine zxe hp2 hq2 he2 rfl (X0 3 rfl (zc 3 (hc6.below h.below) rfl (X0 4 rfl (qk (t:=103) hF rfl ?_ ?_))))<;>intro hF
    ·refine X1 8 0 h rfl (qk (t:=108) hF rfl ?_ ?_)<;>intro hF
     ·refine X1 5 0 h rfl (zcB h hF (qfb ⟨_,_,rfl,(h.oldS s4)⟩) rfl fun r6 w8 h hF=>zp2 rfl (qk (t:=113) hF rfl ?_ ?_))<;>intro hF
      ·exact X1 11 0 h rfl (rb h hF rfl)
      exact X0 7 rfl (rb h hF rfl)
     exact X0 12 rfl (rb h hF rfl)
    exact X0 17 rfl (rb h hF rfl)
   exact X0 27 rfl (rb h hF rfl)
  exact X0 33 rfl (rb h hF rfl)
 exact X0 6 rfl (rb h hF rfl)
def qdb (c:qw):Nat→(List Int)→Int→Option ((List Int) × Int)
 | 0,_,_=>none
 | n+1,x2,i1 =>
  bif decide (i1<(c.As.length:Int)) then
   (idx c.As i1).bind fun y1 =>
   (idx x2 y1.Av).bind fun y2 =>
   (idx x2 y1.Av).bind fun _ =>
   qdb c n (setS x2 y1.Av (W64 (y2+1))) (W64 (i1+1))
  else
   some (x2,i1)
def qjo (n:Nat) (c:qw):Option (List Int) :=
 (mkS 6 (0:Int)).bind fun x1 =>
 (qdb c n x1 0).bind fun o=>match o with
 | (x2,_) =>
  some x2
theorem qpn {c:qw} (ha1:GoT.R w (old w) c cs1) {r:(List Int)} (hF:qjo n c=some r):RetV Tryz.prog 295 [GoT.v qw cs1] w r:=by
 obtain ⟨p1,k1,p2,k2,p3,k3,rfl,s1,s2,s3⟩:=qae ha1
 refine zV 25 Tryz.func295 rfl fun h=>zSR (qv h rfl rfl fun w1 bb1 h=>X0 4 rfl ?_)
 obtain ⟨x1,hx1,hF⟩:=qd hF
 obtain ⟨g1,g2,hx1⟩:=qV hx1
 refine qam qa Int h rfl rfl rfl rfl rfl rfl rfl rfl rfl g1 g2 hx1 rfl fun w2 S1 p4 h=>X0 7 rfl ?_
 obtain ⟨o1,hF,hK1⟩:=qd hF
 refine qm (rL (fun m e w'=>∃ (x2:(List Int)) (i1:Int),qdb c m x2 i1=some o1∧e=[(1,.pointer (some ⟨bb1,0,none⟩)),(3,.slice p4 x1.length x1.length),(4,.int .i64 i1)]∧SH w w' [Ch.own S1 (x2:List Int) [.slice p4 x1.length x1.length],Ch.box bb1 (qed c p1 p2 p3 k1 k2 k3) 251]) n ⟨_,_,hF,rfl,h⟩ rfl ?_)
 rintro m1 e1 w3 ⟨x2,i1,hF,rfl,h⟩
 rcases m1 with _|m1
 ·cases hF
 refine X1 9 1 h rfl (qh rfl hF ?_ ?_)<;>intro hF
 ·refine X1 8 1 h rfl ?_
  obtain ⟨y1,hy1,hF,he1,b1,_,q1,cs2,hp1,hq1,hr1,hc2⟩:=s2.ix hF
  obtain ⟨p5,k4,p6,k5,rfl,s4,s5⟩:=qai hr1
  refine zxe hp1 hq1 he1 rfl (zp1 rfl (zc 0 (hc2.below h.below) rfl ?_))
  obtain ⟨y2,hy2,hF,he2,b2,_,q2,cs3,hp2,hq2,rfl,hc3⟩:=(h.sl 0 rfl).1.ix hF
  refine zx hp2 hq2 ⟨he2.1,qD he2.2.1 (h.sl 0 rfl).2⟩ rfl (zc 0 hc3 rfl (zp1 rfl ?_))
  obtain ⟨y3,hy3,hF,he3,b3,_,q3,cs4,hp3,hq3,rfl,hc4⟩:=(h.sl 0 rfl).1.ix hF
  exact zx hp3 hq3 ⟨he3.1,qD he3.2.1 (h.sl 0 rfl).2⟩ rfl (qau qa 0 0 (W64 (y2+1)) h rfl hy3 hp3 hq3 rfl hc4 rfl rfl rfl rfl rfl rfl rfl fun w4 h=>X0 7 rfl (rK ⟨_,_,hF,rfl,h⟩ rfl))
 refine qq rfl ?_
 obtain rfl:=qb hF;replace hF:=hK1
 refine X0 5 rfl ?_
 obtain rfl:=qb hF
 exact rO 0 h rfl ⟨rfl,trivial⟩
def qdx (a_0:qw) (i1:Int) (y1:qG):Nat→Int→Option (Flow Bool Int)
 | 0,_=>none
 | n+1,i2 =>
  bif decide (i2<i1) then
   (idx a_0.As i2).bind fun y2 =>
   bif (y2.Av==y1.Av) then
    (idx a_0.As i2).bind fun y3 =>
    bif (y3.Be==y1.Be) then
     (idx a_0.As i2).bind fun y4 =>
     bif (y4.To==y1.To) then some (.ret false) else
     qdx a_0 i1 y1 n (W64 (i2+1))
    else
     qdx a_0 i1 y1 n (W64 (i2+1))
   else
    qdx a_0 i1 y1 n (W64 (i2+1))
  else
   some (.nxt i2)
def qfJ (a_0:qw):Nat→Int→Option (Flow Bool Int)
 | 0,_=>none
 | n+1,i3 =>
  bif decide (i3<(a_0.Bk.length:Int)) then
   (idx a_0.Bk i3).bind fun y5 =>
   (qay n y5 0 1).bind fun r6 =>
   bif (!r6) then some (.ret false) else
   qfJ a_0 n (W64 (i3+1))
  else
   some (.nxt i3)
def qfy (a_0:qw):Nat→Int→Option (Flow Bool Int)
 | 0,_=>none
 | n+1,i1 =>
  bif decide (i1<(a_0.As.length:Int)) then
   (idx a_0.As i1).bind fun y1 =>
   (qlo n a_0 y1).bind fun r4 =>
   bif (!r4) then some (.ret false) else
   (qdx a_0 i1 y1 n 0).bind fun o=>match o with
   | .ret r=>some (.ret r)
   | .nxt _ =>
    qfy a_0 n (W64 (i1+1))
  else
   some (.nxt i1)
def qlt (n:Nat) (a_0:qw):Option Bool :=
 (qj6 n a_0).bind fun o=>match o with
  | (r2,r3) =>
   (
    bif (!r3) then some true else
    (qgc n a_0.Az).bind fun r7 =>
    bif (!r7) then some true else
    bif decide ((a_0.As.length:Int) > 8) then some true else
    (qay n a_0.Bw 0 100000).bind fun r8 =>
    bif (!r8) then some true else
    (qay n a_0.Bq 0 100000).bind fun r9 =>
    some (!r9)).bind fun b1 =>
   bif b1 then some false else
   (qfy a_0 n 0).bind fun o=>match o with
   | .ret r=>some r
   | .nxt _ =>
    (qjo n a_0).bind fun r5 =>
    bif (a_0.Av==1) then
     (qfJ a_0 n 0).bind fun o=>match o with
     | .ret r=>some r
     | .nxt _ =>
      bif (r2==0) then
       (shlS 1 (IntKind.wrap .u64 (W64 ((a_0.Au.length:Int)-1)))).bind fun y6 =>
       some ((a_0.Bk.length:Int)==y6)
      else
       some false
    else
     bif (a_0.Av==2) then
      bif (r2==1) then
       (idx r5 1).bind fun y7 =>
       bif (y7==0) then
        (idx r5 2).bind fun y8 =>
        (idx r5 3).bind fun y9 =>
        bif (!((decide (y8 > 0))==(decide (y9 > 0)))) then some ((a_0.Bk.length:Int)==0) else
        some false
       else
        some false
      else
       some false
     else
      bif (a_0.Av==3) then
       bif (r2==1) then
        (idx r5 1).bind fun y10 =>
        bif decide (y10 > 0) then
         (idx r5 2).bind fun y11 =>
         bif decide (y11 > 0) then
          (idx r5 3).bind fun y12 =>
          bif (y12==0) then some ((a_0.Bk.length:Int)==0) else
          some false
         else
          some false
        else
         some false
       else
        some false
      else
       some false
theorem qrm {a_0:qw} (ha1:GoT.R w (old w) a_0 cs1) {r:Bool} (hF:qlt n a_0=some r):RetV Tryz.prog 258 [GoT.v qw cs1] w r:=by
 obtain ⟨p1,k1,p2,k2,p3,k3,rfl,s1,s2,s3⟩:=qae ha1
 refine zV 182 Tryz.func258 rfl fun h=>zSR (qv h rfl rfl fun w1 bb1 h=>X1 5 0 h rfl ?_)
 obtain ⟨r1,hr1,hF⟩:=qd hF
 obtain ⟨r2,r3⟩:=r1
 refine qaP (r2,r3) h (cB 293 rfl) (qqd (h.old ha1) hr1) rfl rfl rfl rfl fun w2 S1 us1 hv1 hr2=>?_
 obtain ⟨S2,us2,rfl,hv2,hr3⟩:=hv1.consI hr2
 obtain ⟨rfl,h⟩:=hv2.lastB hr3
 refine X0 8 rfl ?_
 obtain ⟨KF1,hKF1,o4,hF,hK4⟩:=bindE hF
 refine qba (fun e w'=>∃ (b1:Bool),KF1 b1=some r∧e=[(1,.pointer (some ⟨bb1,0,none⟩)),(3,.int .i64 r2),(40,.bool b1)]∧SH w w' [Ch.box bb1 (qed a_0 p1 p2 p3 k1 k2 k3) 251]) ?_ ?_
 ·refine X0 4 rfl (qk (t:=17) hF rfl ?_ ?_)<;>intro hF
  ·refine X0 24 rfl ?_
   obtain rfl:=qb hF
   exact rG ⟨_,hK4,rfl,h⟩ rfl
  refine X1 5 0 h rfl (zcB h hF qh2 rfl fun r7 w18 h hF=>X0 4 rfl (qk (t:=23) hF rfl ?_ ?_))<;>intro hF
  ·refine X0 18 rfl ?_
   obtain rfl:=qb hF
   exact rG ⟨_,hK4,rfl,h⟩ rfl
  refine X1 10 0 h rfl (qk (t:=29) hF rfl ?_ ?_)<;>intro hF
  ·refine X0 12 rfl ?_
   obtain rfl:=qb hF
   exact rG ⟨_,hK4,rfl,h⟩ rfl
  refine X1 5 0 h rfl (zcB h hF qak rfl fun r8 w19 h hF=>X0 4 rfl (qk (t:=35) hF rfl ?_ ?_))<;>intro hF
  ·refine X0 6 rfl ?_
   obtain rfl:=qb hF
   exact rG ⟨_,hK4,rfl,h⟩ rfl
  refine X1 5 0 h rfl (zcB h hF qak rfl fun r9 w20 h hF=>X0 4 rfl ?_)
  obtain rfl:=qb hF
  exact rG ⟨_,hK4,rfl,h⟩ rfl
 rintro e4 w21 ⟨b1,hF,rfl,h⟩
 subst hKF1
 refine qh rfl hF ?_ ?_<;>intro hF
 ·exact X0 4 rfl (rb h hF rfl)
 refine X0 6 rfl ?_
 obtain ⟨o1,hF,hK1⟩:=qd hF
 refine qm (rL (fun m e w'=>∃ (i1:Int),qfy a_0 m i1=some o1∧e=[(1,.pointer (some ⟨bb1,0,none⟩)),(3,.int .i64 r2),(5,.int .i64 i1)]∧SH w w' [Ch.box bb1 (qed a_0 p1 p2 p3 k1 k2 k3) 251]) n ⟨_,hF,rfl,h⟩ rfl ?_)
 rintro m1 e1 w3 ⟨i1,hF,rfl,h⟩
 rcases m1 with _|m1
 ·cases hF
 refine X1 9 0 h rfl (qh rfl hF ?_ ?_)<;>intro hF
 ·refine X1 8 0 h rfl ?_
  obtain ⟨y1,hy1,hF,he1,b2,_,q1,cs2,hp1,hq1,hr5,hc3⟩:=s2.ix hF
  obtain ⟨p4,k4,p5,k5,rfl,s4,s5⟩:=qai hr5
  refine zxe hp1 hq1 he1 rfl (zc 0 (hc3.below h.below) rfl (qp qa h rfl rfl rfl fun w4 bb2 h=>zs 0 h rfl fun w5 h=>X2 6 1 0 h rfl (zcB h hF (qqT (h.old ha1) (qfR y1 (h.oldS s4) (h.oldS s5))) rfl fun r4 w6 h hF=>X0 2 rfl (qh rfl hF ?_ ?_))))<;>intro hF
  ·refine X0 4 rfl ?_
   obtain rfl:=qb hF;replace hF:=hK1
   exact rb h hF rfl
  refine X0 5 rfl ?_
  obtain ⟨o2,hF,hK2⟩:=qd hF
  refine qm (rL (fun m e w'=>∃ (i2:Int),qdx a_0 i1 y1 m i2=some o2∧e=[(1,.pointer (some ⟨bb1,0,none⟩)),(3,.int .i64 r2),(5,.int .i64 i1),(6,.pointer (some ⟨bb2,0,none⟩)),(7,.int .i64 i2)]∧SH w w' [Ch.box bb2 (qhb y1 p4 p5 k4 k5) 254,Ch.box bb1 (qed a_0 p1 p2 p3 k1 k2 k3) 251]) m1 ⟨_,hF,rfl,h⟩ rfl ?_)
  rintro m2 e2 w7 ⟨i2,hF,rfl,h⟩
  rcases m2 with _|m2
  ·cases hF
  refine X0 7 rfl (qh rfl hF ?_ ?_)<;>intro hF
  ·refine X0 4 rfl (rD (Y1 2 1 h rfl ?_))
   refine zd1 rfl ?_
   obtain ⟨y2,hy2,hF,he2,b3,_,q2,cs3,hp2,hq2,hr7,hc6⟩:=s2.ix hF
   obtain ⟨p6,k6,p7,k7,rfl,s6,s7⟩:=qai hr7
   refine zdxe hp2 hq2 he2 rfl (zd1 rfl (zdc 0 (hc6.below h.below) rfl (Y1 2 0 h rfl ?_)))
   refine zd2 rfl (qa6 (t:=71) hF rfl ?_ ?_)<;>intro hF
   ·refine Y1 4 1 h rfl ?_
    refine Y0 3 rfl ?_
    obtain ⟨y3,hy3,hF,he3,b4,_,q3,cs4,hp3,hq3,hr8,hc7⟩:=s2.ix hF
    obtain ⟨p8,k8,p9,k9,rfl,s8,s9⟩:=qai hr8
    refine zdxe hp3 hq3 he3 rfl (Y0 3 rfl (zdc 1 (hc7.below h.below) rfl (Y1 4 0 h rfl ?_)))
    refine Y0 4 rfl (qa6 (t:=82) hF rfl ?_ ?_)<;>intro hF
    ·refine Y1 4 1 h rfl ?_
     refine Y0 3 rfl ?_
     obtain ⟨y4,hy4,hF,he4,b5,_,q4,cs5,hp4,hq4,hr9,hc8⟩:=s2.ix hF
     obtain ⟨p10,k10,p11,k11,rfl,s10,s11⟩:=qai hr9
     refine zdxe hp4 hq4 he4 rfl (Y0 3 rfl (zdc 2 (hc8.below h.below) rfl (Y1 4 0 h rfl ?_)))
     refine Y0 3 rfl (dN h fun w8 h=>qh rfl hF ?_ ?_)<;>intro hF
     ·refine X0 4 rfl ?_
      obtain rfl:=qb hF;replace hF:=hK2
      obtain rfl:=qb hF;replace hF:=hK1
      exact rb h hF rfl
     exact X0 7 rfl (rK ⟨_,hF,rfl,h⟩ rfl)
    exact Y0 10 rfl (dN h fun w9 h=>qcj rfl rfl (X0 7 rfl (rK ⟨_,hF,rfl,h⟩ rfl)))
   exact Y0 21 rfl (dN h fun w10 h=>qcj rfl rfl (X0 7 rfl (rK ⟨_,hF,rfl,h⟩ rfl)))
  refine qq rfl ?_
  obtain rfl:=qb hF;replace hF:=hK2
  refine X0 6 rfl ?_
  replace h:=h.pick [1] rfl
  exact rK ⟨_,hF,rfl,h⟩ rfl
 refine qq rfl ?_
 obtain rfl:=qb hF;replace hF:=hK1
 refine X1 3 0 h rfl (zcL h hF (qpn (h.old ha1)) rfl fun r5 w11 S4 p12 k12 h hF=>X1 14 1 h rfl (qh rfl hF ?_ ?_))<;>intro hF
 ·refine X0 5 rfl ?_
  obtain ⟨o3,hF,hK3⟩:=qd hF
  refine qm ?_
  replace h:=h.pick [1] rfl
  refine rL (fun m e w'=>∃ (i3:Int),qfJ a_0 m i3=some o3∧e=[(1,.pointer (some ⟨bb1,0,none⟩)),(3,.int .i64 r2),(9,.int .i64 i3)]∧SH w w' [Ch.box bb1 (qed a_0 p1 p2 p3 k1 k2 k3) 251]) n ⟨_,hF,rfl,h⟩ rfl ?_
  rintro m3 e3 w12 ⟨i3,hF,rfl,h⟩
  rcases m3 with _|m3
  ·cases hF
  refine X1 9 0 h rfl (qh rfl hF ?_ ?_)<;>intro hF
  ·refine X1 8 0 h rfl ?_
   obtain ⟨y5,hy5,hF,he5,b6,_,q5,cs6,hp5,hq5,rfl,hc12⟩:=s3.ix hF
   refine zxe hp5 hq5 he5 rfl (zc 0 (hc12.below h.below) rfl (zcB h hF qak rfl fun r6 w13 h hF=>X0 2 rfl (qh rfl hF ?_ ?_)))<;>intro hF
   ·refine X0 4 rfl ?_
    obtain rfl:=qb hF;replace hF:=hK3
    exact rb h hF rfl
   exact X0 7 rfl (rK ⟨_,hF,rfl,h⟩ rfl)
  refine qq rfl ?_
  obtain rfl:=qb hF;replace hF:=hK3
  refine X0 5 rfl (qk (t:=115) hF rfl ?_ ?_)<;>intro hF
  ·refine X2 17 0 0 h rfl ?_
   obtain ⟨y6,hx1,hF⟩:=qd hF
   obtain ⟨g1,hx1⟩:=qr0 hx1
   refine r_v (qyA g1 rfl rfl) rfl ?_
   rw [hx1]
   exact X0 5 rfl (rb h hF rfl)
  exact X0 13 rfl (rb h hF rfl)
 refine X0 5 rfl (qh rfl hF ?_ ?_)<;>intro hF
 ·refine qc0 (rD (zd3 rfl (qa6 (t:=131) hF rfl ?_ ?_)))<;>intro hF
  ·refine Y0 3 rfl ?_
   obtain ⟨y7,hy6,hF,he6,b7,_,q6,cs7,hp6,hq6,rfl,hc15⟩:=(h.sl 0 rfl).1.ix hF
   refine zdx hp6 hq6 ⟨he6.1,qD he6.2.1 (h.sl 0 rfl).2⟩ rfl (Y0 1 rfl (zdc 0 hc15 rfl (Y0 4 rfl (qa6 (t:=137) hF rfl ?_ ?_))))<;>intro hF
   ·refine Y0 3 rfl ?_
    obtain ⟨y8,hy7,hF,he7,b8,_,q7,cs8,hp7,hq7,rfl,hc16⟩:=(h.sl 0 rfl).1.ix hF
    refine zdx hp7 hq7 ⟨he7.1,qD he7.2.1 (h.sl 0 rfl).2⟩ rfl (Y0 1 rfl (zdc 0 hc16 rfl (Y0 5 rfl ?_)))
    obtain ⟨y9,hy8,hF,he8,b9,_,q8,cs9,hp8,hq8,rfl,hc17⟩:=(h.sl 0 rfl).1.ix hF
    refine zdx hp8 hq8 ⟨he8.1,qD he8.2.1 (h.sl 0 rfl).2⟩ rfl (Y0 1 rfl (zdc 0 hc17 rfl (Y0 6 rfl (qa6 (t:=148) hF rfl ?_ ?_))))<;>intro hF
    ·refine Y1 4 1 h rfl ?_
     exact Y0 6 rfl (dN h fun w14 h=>rb h hF rfl)
    exact Y0 6 rfl (dN h fun w15 h=>rb h hF rfl)
   exact Y0 17 rfl (dN h fun w16 h=>rb h hF rfl)
  exact Y0 23 rfl (dN h fun w17 h=>rb h hF rfl)
 refine X0 5 rfl (qh rfl hF ?_ ?_)<;>intro hF
 ·refine X0 5 rfl (qk (t:=158) hF rfl ?_ ?_)<;>intro hF
  ·refine X0 3 rfl ?_
   obtain ⟨y10,hy9,hF,he9,b10,_,q9,cs10,hp9,hq9,rfl,hc19⟩:=(h.sl 0 rfl).1.ix hF
   refine zx hp9 hq9 ⟨he9.1,qD he9.2.1 (h.sl 0 rfl).2⟩ rfl (X0 1 rfl (zc 0 hc19 rfl (X0 4 rfl (qk (t:=164) hF rfl ?_ ?_))))<;>intro hF
   ·refine X0 3 rfl ?_
    obtain ⟨y11,hy10,hF,he10,b11,_,q10,cs11,hp10,hq10,rfl,hc20⟩:=(h.sl 0 rfl).1.ix hF
    refine zx hp10 hq10 ⟨he10.1,qD he10.2.1 (h.sl 0 rfl).2⟩ rfl (X0 1 rfl (zc 0 hc20 rfl (X0 4 rfl (qk (t:=170) hF rfl ?_ ?_))))<;>intro hF
    ·refine X0 3 rfl ?_
     obtain ⟨y12,hy11,hF,he11,b12,_,q11,cs12,hp11,hq11,rfl,hc21⟩:=(h.sl 0 rfl).1.ix hF
     refine zx hp11 hq11 ⟨he11.1,qD he11.2.1 (h.sl 0 rfl).2⟩ rfl (X0 1 rfl (zc 0 hc21 rfl (X0 4 rfl (qk (t:=176) hF rfl ?_ ?_))))<;>intro hF
     ·exact X1 11 1 h rfl (rb h hF rfl)
     exact X0 7 rfl (rb h hF rfl)
    exact X0 13 rfl (rb h hF rfl)
   exact X0 19 rfl (rb h hF rfl)
  exact X0 25 rfl (rb h hF rfl)
 exact X0 6 rfl (rb h hF rfl)
end Go.Fw
