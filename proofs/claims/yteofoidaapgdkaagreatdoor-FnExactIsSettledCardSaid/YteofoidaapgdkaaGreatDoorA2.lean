/- Calls that hand out parts of memory one by one: what is owned stays apart. -/
import Derived.Test.YteofoidaapgdkaaGreatDoorFw38
import Derived.Sort.Grow
import Derived.Lib.SlicesCompact
import Derived.Test.YteofoidaapgdkaaGreatDoorChecked
import Derived.Test.YteofoidaapgdkaaGreatDoorS1
open Option renaming bind_some → jd
open Nat renaming le_refl → je, mul_le_mul_right → jq, le_of_ble_eq_true → jt, lt_of_lt_of_le → jw, succ_mul → jI, zero_add → jZ, le_trans → Jc
open Bool renaming and_eq_true → jf, eq_iff_iff → jj, true_and → jx, not_eq_true' → jC, not_true → Ja
open Go.Result renaming andThen_ok → jg
open List renaming length_append → jh, getElem?_eq_getElem → ji, mem_cons_of_mem → jo, getElem_mem → jp, length_singleton → jr, append_assoc → js, getElem?_append_left → ju, length_map → jv, mem_cons_self → jy, getElem?_take → jz, getElem?_append_right → jA, getD_eq_getElem?_getD → jB, take_succ_eq_append_getElem → jD, getElem?_toArray → jE, eq_nil_of_length_eq_zero → jG, take_length → jH, length_replicate → jJ, all_eq_true → jK, drop_eq_getElem_cons → jM, not_mem_nil → jN, size_toArray → jO, mem_append_left → jP, getElem_of_mem → jR, map_append → jS, mem_of_getElem? → jT, mem_cons → jV, length_take → jX, ext_getElem → jY
open Go.Sem renaming run_bind → jk, run_pure → jm
open Int renaming toNat_natCast → jn, tdiv_eq_ediv_of_nonneg → jF, mul_nonneg → jQ, mul_assoc → jU, mul_le_mul → jW, le_refl → Jb, add_zero → Jd
open Array renaming getElem?_append_left → jL

namespace Go.Fw
open Go
open Go.RowKit (Below)
section
variable {P:Program} {T:Tab} {n:Nat} {Q:Exit→Act→World→Prop} {k:List It} {e:Env} {w0 w w':World} {L L':List Ch}
theorem SH.append (h:SH w0 w L) (hL:SH w w' L') (hD:∀ c,c ∈ L'→∀ b,c.D b→b<w0.heap.size):SH w0 w' (L'++L):=by
 have h':=h.ext hL.below
 refine ⟨h'.below,fun c hc=>?_,fun c hc=>?_,?_⟩
 ·rcases List.mem_append.1 hc with hc|hc
  ·obtain ⟨p,s⟩:=hL.holds c hc
   exact ⟨p,fun b hb=>⟨Jc h.below.size (s b hb).1,(s b hb).2⟩⟩
  ·exact h'.holds c hc
 ·rcases List.mem_append.1 hc with hc|hc
  ·exact hD c hc
  ·exact h.elder c hc
 ·refine List.pairwise_append.2 ⟨hL.apart,h.apart,fun c hc d hd b hcb hdb=>?_⟩
  have h1:=((hL.holds c hc).2 b hcb).1
  have h2:=((h.holds d hd).2 b hdb).2
  omega
theorem SH.appendN (h:SH w0 w L) (hL:SH w w' L') (hD:NoD L'):SH w0 w' (L'++L) :=
 SH.append h hL fun c hc b hb=>absurd hb (NoD.all hD c hc b)
def RetZ (P:Program) (f:FuncId) (vs:List Value) (w:World) (Φ:List Value→List Ch→Prop):Prop :=
 Calls P f vs.toArray w fun e w'=>∃ v,e=.returned v∧Below w.heap.size w w'∧∃ us L,v=tup us∧SH w w' L∧Φ us L
theorem qql {Φ:List Value→List Ch→Prop} {all:Array Oper} {l:List Oper} {d ty:Nat} {ps:String} {af:Array Edge} {x:Operand} {args:Array Operand} {ats:Array TypeId} {f:FuncId} {fi ca:Array Value} {az vs:List Value}
  (hcall:qfu P f) (hc:RetZ P f vs w Φ) (hx:opv e x=some (.func (.func f) fi ca)) (hargs:opvs e args.toList=some az) (hvs:fi.toList++az++ca.toList=vs) (hn:Nat.blt d n=true)
  (hk:∀ w' us L',SH w w' L'→Φ us L'→Run P n Q (.ops all l::k) ((d,tup us)::e) w') :
  Run P n Q (.ops all (⟨some d,.call ⟨.value x,args,ats⟩,ty,ps,af,none⟩::l)::k) e w:=by
 subst hvs
 refine qoI (R:=fun v w'=>Below w.heap.size w w'∧∃ us L,v=tup us∧SH w w' L∧Φ us L) rfl rfl hn (fun a ha=>qkm ha hcall hx hargs w) hc ?_
 rintro v w' ⟨_,us,L',rfl,hL,hv⟩
 exact hk w' us L' hL hv
theorem qlz {f:FuncId} {fn:Func} {c:Code} {vs:List Value} {Φ:List Value→List Ch→Prop} {m:Nat} (hf:P.funcs[f]?=some fn) (hb:fn.body=some c) (hm:fn.ntmps=m) (hn:Nat.ble vs.length m=true)
  (h:SH w w []→Run P m (bodyPost P fn fun e w'=>∃ v,e=.returned v∧Below w.heap.size w w'∧∃ us L,v=tup us∧SH w w' L∧Φ us L) [.code c] (argEnv 0 vs) w):RetZ P f vs w Φ:=by
 subst hm
 have hn':=jt hn
 refine calls_of_wp hf hb ?_
 have hr:=h (SH.start w)
 have hag:Agree fn.ntmps (argEnv 0 vs) { tmps:=vs.toArray++Array.replicate (fn.ntmps-vs.toArray.size) undef,defers:=[] }:=by
  refine ⟨rfl,by simp;omega,fun i v hi=>?_⟩
  obtain ⟨_,h2⟩:=qi7 vs 0 i v hi
  simp only [Nat.sub_zero] at h2
  have hlt:=(List.getElem?_eq_some_iff.1 h2).1
  rw [jL (by simpa using hlt)]
  simpa using h2
 have h1:=hr _ hag
 refine wp_mono h1 ?_
 intro ex a' w' hq
 cases ex<;>exact hq
theorem qlG (hT:TabOk P T) {fn:Func} {Φ:List Value→List Ch→Prop} (us:List Value) (h:SH w0 w L) (hr:ResOk T e w fn.results.toList us) (hv:Φ us L) :
  Run P n (bodyPost P fn fun e w'=>∃ v,e=.returned v∧Below w0.heap.size w0 w'∧∃ us L,v=tup us∧SH w0 w' L∧Φ us L) (.code .ret::k) e w :=
 qts fun _ ha=>⟨ha.defers,tup us,qg7 hT ha hr,tup us,rfl,h.below,us,L,rfl,h,hv⟩
end
end Go.Fw


namespace Go.Fw
open Go Go.Sort
open Go.RowKit (Below)
section
variable {P:Program} {T:Tab} {n:Nat} {Q:Exit→Act→World→Prop} {k:List It} {e:Env} {w0 w w':World} {L L':List Ch}
end
end Go.Fw


namespace Go.Fw
open Go
open Go.RowKit (Below)
section
variable {w0 w w':World} {L:List Ch} {α:Type} [GoT α]
def RAll (w:World) (A:Nat→Prop):List α→List (Raw α)→Prop
 | [],[]=>True
 | x::xs,r::rs=>GoT.R w A x r.cs∧RAll w A xs rs
 | _,_=>False
theorem RAll.at {A:Nat→Prop}:∀ {xs:List α} {rs:List (Raw α)},RAll w A xs rs→xs.length=rs.length∧∀ (i:Nat) x,xs[i]?=some x→∃ r,rs[i]?=some r∧GoT.R w A x r.cs
 | [],[],_=>⟨rfl,fun i x h=>by simp at h⟩
 | x::xs,[],h=>h.elim
 | [],r::rs,h=>h.elim
 | x::xs,r::rs,h=>by
  obtain ⟨hl,ha⟩:=RAll.at h.2
  refine ⟨by simp [hl],fun i y hy=>?_⟩
  cases i with
  | zero=>simp only [List.getElem?_cons_zero,Option.some.injEq] at hy ⊢;subst hy;exact ⟨r,rfl,h.1⟩
  | succ i=>simp only [List.getElem?_cons_succ] at hy ⊢;exact ha i y hy
end
end Go.Fw


namespace Go.Fw
open Go
end Go.Fw


namespace Go.Fw
open Go
open Go.RowKit (Below)
section
variable {P:Program} {T:Tab} {n:Nat} {Q:Exit→Act→World→Prop} {k:List It} {e:Env} {w0 w:World} {L:List Ch}
variable {α:Type} [GoT α] {S S1:Nat→Prop} {xs ys:List α} {p p':Option Addr} {c c':Nat}
end
section
variable {α β γ:Type}
def Emp (o:Option (List α)):Prop:=∀ r,o=some r→r=[]
theorem Emp.none:Emp (none:Option (List α)):=fun _ h=>by cases h
theorem Emp.noneB {f:β→Option (List α)}:Emp ((Option.none:Option β).bind f):=fun _ h=>by cases h
theorem Emp.nil:Emp (some ([]:List α)):=fun _ h=>(Option.some.inj h).symm
theorem Emp.bif {c:Bool} {a b:Option (List α)} (h1:Emp a) (h2:Emp b):Emp (bif c then a else b):=by cases c<;>assumption
theorem Emp.sub {xs:List β} {lo:Int} {f:List β→Option (List α)} (h:Emp (f [])):Emp ((subS xs lo ((0:Nat):Int)).bind f):=fun r hr=>by
 cases hs:subS xs lo ((0:Nat):Int) with
 | none=>rw [hs] at hr;cases hr
 | some y =>
  rw [hs] at hr
  obtain ⟨_,_,_,e⟩:=qo0 hs
  have:y=[]:=by rw [←e];simp
  subst this
  exact h r hr
theorem Emp.bind {x:Option β} {f:β→Option (List α)} (h:∀ y,Emp (f y)):Emp (x.bind f):=by
 cases x with
 | none=>exact Emp.noneB
 | some y=>exact h y
end
end Go.Fw


namespace Go.Fw
open Go
section
variable {ε:Type}
variable {ρ σ τ:Type}
end
end Go.Fw


namespace Go.Fw
open Go Go.Proofs
open Go.RowKit (Below)
set_option maxRecDepth 100000
set_option maxHeartbeats 1600000
variable {n:Nat} {w:World} {S:Nat→Prop} {cs1 cs2 cs3 cs4 cs5 cs6 cs7 cs8 cs9:List Value}
structure qax where
 Az:ByteArray
 Bs:Int
 Bq:Int
 Bm:Bool
instance gt_TPin:GoT qax:=isoT (pairT instStr (pairT instInt (pairT instInt instBool))) (fun x=>(x.Az,x.Bs,x.Bq,x.Bm)) ⟨ByteArray.empty,0,0,false⟩ rfl true (fun h=>by cases h)
instance fl_TPin:Flat qax:=qe2 (pairT instStr (pairT instInt (pairT instInt instBool))) (fun x:qax=>(x.Az,x.Bs,x.Bq,x.Bm)) ⟨ByteArray.empty,0,0,false⟩ rfl true (fun h=>by cases h) (qaC _ _ (inferInstanceAs (Flat ByteArray)) (qaC _ _ (inferInstanceAs (Flat Int)) (qaC _ _ (inferInstanceAs (Flat Int)) (inferInstanceAs (Flat Bool)))))
abbrev qpe (x:qax):List Value:=[.string x.Az,.int .i64 x.Bs,.int .i64 x.Bq,.bool x.Bm]
theorem qby {x:qax} {cs:List Value} (h:GoT.R w S x cs):cs=(qpe x):=by
 obtain ⟨_,_,rfl,rfl,⟨_,_,rfl,rfl,⟨_,_,rfl,rfl,rfl⟩⟩⟩:=h
 exact rfl
theorem qjH (x:qax):GoT.R w S x (qpe x):=have h:=pR (rT x.Az) (pR (rI x.Bs) (pR (rI x.Bq) (rB x.Bm)));h
structure qw where
 Bi:(List Int)
 Bc:(List Int)
 Ba:(List Int)
instance gt_TTable:GoT qw:=isoT (pairT (@instList Int instInt) (pairT (@instList Int instInt) (@instList Int instInt))) (fun x=>(x.Bi,x.Bc,x.Ba)) ⟨[],[],[]⟩ rfl true (fun h=>by cases h)
abbrev qgM (x:qw) (p0 p1 p2:Option Addr) (k0 k1 k2:Nat):List Value:=[.slice p0 (x.Bi).length k0,.slice p1 (x.Bc).length k1,.slice p2 (x.Ba).length k2]
theorem qaH {x:qw} {cs:List Value} (h:GoT.R w S x cs):∃ p0 k0 p1 k1 p2 k2,cs=(qgM x p0 p1 p2 k0 k1 k2)∧SlR w S x.Bi p0 k0∧SlR w S x.Bc p1 k1∧SlR w S x.Ba p2 k2:=by
 obtain ⟨_,_,rfl,⟨p0,k0,rfl,s0⟩,⟨_,_,rfl,⟨p1,k1,rfl,s1⟩,⟨p2,k2,rfl,s2⟩⟩⟩:=h
 exact ⟨p0,k0,p1,k1,p2,k2,rfl,s0,s1,s2⟩
theorem qe8 (x:qw) {p0 p1 p2:Option Addr} {k0 k1 k2:Nat} (s0:SlR w S x.Bi p0 k0) (s1:SlR w S x.Bc p1 k1) (s2:SlR w S x.Ba p2 k2):GoT.R w S x (qgM x p0 p1 p2 k0 k1 k2):=have h:=pR (rS s0) (pR (rS s1) (rS s2));h
theorem qvd {w0:World} {L:List Ch} (x:qw) {I0 I1 I2:List Nat} {c0 c1 c2:List Value} (h:SH w0 w L) (h0:PO w L I0 x.Bi c0) (h1:PO w L I1 x.Bc c1) (h2:PO w L I2 x.Ba c2) (b0:apartB I0 (I1++I2)=true) (b1:apartB I1 I2=true):PO w L (I0++(I1++I2)) x (c0++(c1++c2)) :=
 (qcA h h0 (qcA h h1 h2 b1) b0)
structure qS where
 As:Int
 Be:Int
 To:Int
 Bj:Int
 Bl:(List qw)
 Av:(List qw)
instance gt_TArc:GoT qS:=isoT (pairT instInt (pairT instInt (pairT instInt (pairT instInt (pairT (@instList qw gt_TTable) (@instList qw gt_TTable)))))) (fun x=>(x.As,x.Be,x.To,x.Bj,x.Bl,x.Av)) ⟨0,0,0,0,[],[]⟩ rfl true (fun h=>by cases h)
abbrev qgJ (x:qS) (p0 p1:Option Addr) (k0 k1:Nat):List Value:=[.int .i64 x.As,.int .i64 x.Be,.int .i64 x.To,.int .i64 x.Bj,.slice p0 (x.Bl).length k0,.slice p1 (x.Av).length k1]
theorem qai {x:qS} {cs:List Value} (h:GoT.R w S x cs):∃ p0 k0 p1 k1,cs=(qgJ x p0 p1 k0 k1)∧SlR w S x.Bl p0 k0∧SlR w S x.Av p1 k1:=by
 obtain ⟨_,_,rfl,rfl,⟨_,_,rfl,rfl,⟨_,_,rfl,rfl,⟨_,_,rfl,rfl,⟨_,_,rfl,⟨p0,k0,rfl,s0⟩,⟨p1,k1,rfl,s1⟩⟩⟩⟩⟩⟩:=h
 exact ⟨p0,k0,p1,k1,rfl,s0,s1⟩
theorem qfp (x:qS) {p0 p1:Option Addr} {k0 k1:Nat} (s0:SlR w S x.Bl p0 k0) (s1:SlR w S x.Av p1 k1):GoT.R w S x (qgJ x p0 p1 k0 k1):=have h:=pR (rI x.As) (pR (rI x.Be) (pR (rI x.To) (pR (rI x.Bj) (pR (rS s0) (rS s1)))));h
theorem qxO {w0:World} {L:List Ch} (x:qS) {I0 I1 I2 I3 I4 I5:List Nat} {c0 c1 c2 c3 c4 c5:List Value} (h:SH w0 w L) (h0:PO w L I0 x.As c0) (h1:PO w L I1 x.Be c1) (h2:PO w L I2 x.To c2) (h3:PO w L I3 x.Bj c3) (h4:PO w L I4 x.Bl c4) (h5:PO w L I5 x.Av c5) (b0:apartB I0 (I1++(I2++(I3++(I4++I5))))=true) (b1:apartB I1 (I2++(I3++(I4++I5)))=true) (b2:apartB I2 (I3++(I4++I5))=true) (b3:apartB I3 (I4++I5)=true) (b4:apartB I4 I5=true):PO w L (I0++(I1++(I2++(I3++(I4++I5))))) x (c0++(c1++(c2++(c3++(c4++c5))))) :=
 (qcA h h0 (qcA h h1 (qcA h h2 (qcA h h3 (qcA h h4 h5 b4) b3) b2) b1) b0)
structure qC where
 Az:ByteArray
 As:Int
 Ay:(List qax)
 Am:(List qS)
 Bn:(List Int)
 Bx:Int
 Br:Int
instance gt_TCell:GoT qC:=isoT (pairT instStr (pairT instInt (pairT (@instList qax gt_TPin) (pairT (@instList qS gt_TArc) (pairT (@instList Int instInt) (pairT instInt instInt)))))) (fun x=>(x.Az,x.As,x.Ay,x.Am,x.Bn,x.Bx,x.Br)) ⟨ByteArray.empty,0,[],[],[],0,0⟩ rfl true (fun h=>by cases h)
abbrev qdZ (x:qC) (p0 p1 p2:Option Addr) (k0 k1 k2:Nat):List Value:=[.string x.Az,.int .i64 x.As,.slice p0 (x.Ay).length k0,.slice p1 (x.Am).length k1,.slice p2 (x.Bn).length k2,.int .i64 x.Bx,.int .i64 x.Br]
theorem qaf {x:qC} {cs:List Value} (h:GoT.R w S x cs):∃ p0 k0 p1 k1 p2 k2,cs=(qdZ x p0 p1 p2 k0 k1 k2)∧SlR w S x.Ay p0 k0∧SlR w S x.Am p1 k1∧SlR w S x.Bn p2 k2:=by
 obtain ⟨_,_,rfl,rfl,⟨_,_,rfl,rfl,⟨_,_,rfl,⟨p0,k0,rfl,s0⟩,⟨_,_,rfl,⟨p1,k1,rfl,s1⟩,⟨_,_,rfl,⟨p2,k2,rfl,s2⟩,⟨_,_,rfl,rfl,rfl⟩⟩⟩⟩⟩⟩:=h
 exact ⟨p0,k0,p1,k1,p2,k2,rfl,s0,s1,s2⟩
theorem qkr (x:qC) {p0 p1 p2:Option Addr} {k0 k1 k2:Nat} (s0:SlR w S x.Ay p0 k0) (s1:SlR w S x.Am p1 k1) (s2:SlR w S x.Bn p2 k2):GoT.R w S x (qdZ x p0 p1 p2 k0 k1 k2):=have h:=pR (rT x.Az) (pR (rI x.As) (pR (rS s0) (pR (rS s1) (pR (rS s2) (pR (rI x.Bx) (rI x.Br))))));h
theorem qw7 {w0:World} {L:List Ch} (x:qC) {I0 I1 I2 I3 I4 I5 I6:List Nat} {c0 c1 c2 c3 c4 c5 c6:List Value} (h:SH w0 w L) (h0:PO w L I0 x.Az c0) (h1:PO w L I1 x.As c1) (h2:PO w L I2 x.Ay c2) (h3:PO w L I3 x.Am c3) (h4:PO w L I4 x.Bn c4) (h5:PO w L I5 x.Bx c5) (h6:PO w L I6 x.Br c6) (b0:apartB I0 (I1++(I2++(I3++(I4++(I5++I6)))))=true) (b1:apartB I1 (I2++(I3++(I4++(I5++I6))))=true) (b2:apartB I2 (I3++(I4++(I5++I6)))=true) (b3:apartB I3 (I4++(I5++I6))=true) (b4:apartB I4 (I5++I6)=true) (b5:apartB I5 I6=true):PO w L (I0++(I1++(I2++(I3++(I4++(I5++I6)))))) x (c0++(c1++(c2++(c3++(c4++(c5++c6)))))) :=
 (qcA h h0 (qcA h h1 (qcA h h2 (qcA h h3 (qcA h h4 (qcA h h5 h6 b5) b4) b3) b2) b1) b0)
structure qv where
 Ap:(List qC)
instance gt_TLibrary:GoT qv:=isoT (@instList qC gt_TCell) (fun x=>x.Ap) ⟨[]⟩ rfl true (fun h=>by cases h)
theorem qbF {x:qv} {cs:List Value} (h:GoT.R w S x cs):∃ p0 k0,cs=[.slice p0 (x.Ap).length k0]∧SlR w S x.Ap p0 k0:=by
 obtain ⟨p0,k0,rfl,s0⟩:=h
 exact ⟨p0,k0,rfl,s0⟩
theorem qeX (x:qv) {p0:Option Addr} {k0:Nat} (s0:SlR w S x.Ap p0 k0):GoT.R w S x [.slice p0 (x.Ap).length k0]:=have h:=rS s0;h
theorem qtp {w0:World} {L:List Ch} (x:qv) {I0:List Nat} {c0:List Value} (_:SH w0 w L) (h0:PO w L I0 x.Ap c0):PO w L I0 x c0 :=
 h0
structure qp where
 Az:ByteArray
 Bp:Int
 Ai:(List Int)
instance gt_TInstance:GoT qp:=isoT (pairT instStr (pairT instInt (@instList Int instInt))) (fun x=>(x.Az,x.Bp,x.Ai)) ⟨ByteArray.empty,0,[]⟩ rfl true (fun h=>by cases h)
abbrev qjz (x:qp) (p0:Option Addr) (k0:Nat):List Value:=[.string x.Az,.int .i64 x.Bp,.slice p0 (x.Ai).length k0]
theorem qR {x:qp} {cs:List Value} (h:GoT.R w S x cs):∃ p0 k0,cs=(qjz x p0 k0)∧SlR w S x.Ai p0 k0:=by
 obtain ⟨_,_,rfl,rfl,⟨_,_,rfl,rfl,⟨p0,k0,rfl,s0⟩⟩⟩:=h
 exact ⟨p0,k0,rfl,s0⟩
theorem qgo (x:qp) {p0:Option Addr} {k0:Nat} (s0:SlR w S x.Ai p0 k0):GoT.R w S x (qjz x p0 k0):=have h:=pR (rT x.Az) (pR (rI x.Bp) (rS s0));h
theorem qsm {w0:World} {L:List Ch} (x:qp) {I0 I1 I2:List Nat} {c0 c1 c2:List Value} (h:SH w0 w L) (h0:PO w L I0 x.Az c0) (h1:PO w L I1 x.Bp c1) (h2:PO w L I2 x.Ai c2) (b0:apartB I0 (I1++I2)=true) (b1:apartB I1 I2=true):PO w L (I0++(I1++I2)) x (c0++(c1++c2)) :=
 (qcA h h0 (qcA h h1 h2 b1) b0)
structure qar where
 Az:ByteArray
 Bs:Int
 Bu:Int
instance gt_TPort:GoT qar:=isoT (pairT instStr (pairT instInt instInt)) (fun x=>(x.Az,x.Bs,x.Bu)) ⟨ByteArray.empty,0,0⟩ rfl true (fun h=>by cases h)
instance fl_TPort:Flat qar:=qe2 (pairT instStr (pairT instInt instInt)) (fun x:qar=>(x.Az,x.Bs,x.Bu)) ⟨ByteArray.empty,0,0⟩ rfl true (fun h=>by cases h) (qaC _ _ (inferInstanceAs (Flat ByteArray)) (qaC _ _ (inferInstanceAs (Flat Int)) (inferInstanceAs (Flat Int))))
abbrev qqq (x:qar):List Value:=[.string x.Az,.int .i64 x.Bs,.int .i64 x.Bu]
theorem qbh {x:qar} {cs:List Value} (h:GoT.R w S x cs):cs=(qqq x):=by
 obtain ⟨_,_,rfl,rfl,⟨_,_,rfl,rfl,rfl⟩⟩:=h
 exact rfl
theorem qiU (x:qar):GoT.R w S x (qqq x):=have h:=pR (rT x.Az) (pR (rI x.Bs) (rI x.Bu));h
structure qf where
 Ab:(List qp)
 Ai:(List ByteArray)
 Ah:(List qar)
instance gt_TDesign:GoT qf:=isoT (pairT (@instList qp gt_TInstance) (pairT (@instList ByteArray instStr) (@instList qar gt_TPort))) (fun x=>(x.Ab,x.Ai,x.Ah)) ⟨[],[],[]⟩ rfl true (fun h=>by cases h)
abbrev qaM (x:qf) (p0 p1 p2:Option Addr) (k0 k1 k2:Nat):List Value:=[.slice p0 (x.Ab).length k0,.slice p1 (x.Ai).length k1,.slice p2 (x.Ah).length k2]
theorem qaA {x:qf} {cs:List Value} (h:GoT.R w S x cs):∃ p0 k0 p1 k1 p2 k2,cs=(qaM x p0 p1 p2 k0 k1 k2)∧SlR w S x.Ab p0 k0∧SlR w S x.Ai p1 k1∧SlR w S x.Ah p2 k2:=by
 obtain ⟨_,_,rfl,⟨p0,k0,rfl,s0⟩,⟨_,_,rfl,⟨p1,k1,rfl,s1⟩,⟨p2,k2,rfl,s2⟩⟩⟩:=h
 exact ⟨p0,k0,p1,k1,p2,k2,rfl,s0,s1,s2⟩
theorem qan (x:qf) {p0 p1 p2:Option Addr} {k0 k1 k2:Nat} (s0:SlR w S x.Ab p0 k0) (s1:SlR w S x.Ai p1 k1) (s2:SlR w S x.Ah p2 k2):GoT.R w S x (qaM x p0 p1 p2 k0 k1 k2):=have h:=pR (rS s0) (pR (rS s1) (rS s2));h
theorem qui {w0:World} {L:List Ch} (x:qf) {I0 I1 I2:List Nat} {c0 c1 c2:List Value} (h:SH w0 w L) (h0:PO w L I0 x.Ab c0) (h1:PO w L I1 x.Ai c1) (h2:PO w L I2 x.Ah c2) (b0:apartB I0 (I1++I2)=true) (b1:apartB I1 I2=true):PO w L (I0++(I1++I2)) x (c0++(c1++c2)) :=
 (qcA h h0 (qcA h h1 h2 b1) b0)
structure qT where
 Ak:(List Int)
 Bt:(List Int)
 Bq:(List Int)
 Bh:(List Int)
instance gt_TWire:GoT qT:=isoT (pairT (@instList Int instInt) (pairT (@instList Int instInt) (pairT (@instList Int instInt) (@instList Int instInt)))) (fun x=>(x.Ak,x.Bt,x.Bq,x.Bh)) ⟨[],[],[],[]⟩ rfl true (fun h=>by cases h)
abbrev qgt (x:qT) (p0 p1 p2 p3:Option Addr) (k0 k1 k2 k3:Nat):List Value:=[.slice p0 (x.Ak).length k0,.slice p1 (x.Bt).length k1,.slice p2 (x.Bq).length k2,.slice p3 (x.Bh).length k3]
theorem qaQ {x:qT} {cs:List Value} (h:GoT.R w S x cs):∃ p0 k0 p1 k1 p2 k2 p3 k3,cs=(qgt x p0 p1 p2 p3 k0 k1 k2 k3)∧SlR w S x.Ak p0 k0∧SlR w S x.Bt p1 k1∧SlR w S x.Bq p2 k2∧SlR w S x.Bh p3 k3:=by
 obtain ⟨_,_,rfl,⟨p0,k0,rfl,s0⟩,⟨_,_,rfl,⟨p1,k1,rfl,s1⟩,⟨_,_,rfl,⟨p2,k2,rfl,s2⟩,⟨p3,k3,rfl,s3⟩⟩⟩⟩:=h
 exact ⟨p0,k0,p1,k1,p2,k2,p3,k3,rfl,s0,s1,s2,s3⟩
theorem qkl (x:qT) {p0 p1 p2 p3:Option Addr} {k0 k1 k2 k3:Nat} (s0:SlR w S x.Ak p0 k0) (s1:SlR w S x.Bt p1 k1) (s2:SlR w S x.Bq p2 k2) (s3:SlR w S x.Bh p3 k3):GoT.R w S x (qgt x p0 p1 p2 p3 k0 k1 k2 k3):=have h:=pR (rS s0) (pR (rS s1) (pR (rS s2) (rS s3)));h
theorem qxn {w0:World} {L:List Ch} (x:qT) {I0 I1 I2 I3:List Nat} {c0 c1 c2 c3:List Value} (h:SH w0 w L) (h0:PO w L I0 x.Ak c0) (h1:PO w L I1 x.Bt c1) (h2:PO w L I2 x.Bq c2) (h3:PO w L I3 x.Bh c3) (b0:apartB I0 (I1++(I2++I3))=true) (b1:apartB I1 (I2++I3)=true) (b2:apartB I2 I3=true):PO w L (I0++(I1++(I2++I3))) x (c0++(c1++(c2++c3))) :=
 (qcA h h0 (qcA h h1 (qcA h h2 h3 b2) b1) b0)
structure qe where
 Aq:qv
 Aa:qf
 Ac:(List qT)
instance gt_TBlock:GoT qe:=isoT (pairT gt_TLibrary (pairT gt_TDesign (@instList qT gt_TWire))) (fun x=>(x.Aq,x.Aa,x.Ac)) ⟨(⟨[]⟩:qv),(⟨[],[],[]⟩:qf),[]⟩ rfl true (fun h=>by cases h)
abbrev qZ (x:qe) (p0 p1 p2 p3 p4:Option Addr) (k0 k1 k2 k3 k4:Nat):List Value:=[.slice p0 (x.Aq.Ap).length k0,.slice p1 (x.Aa.Ab).length k1,.slice p2 (x.Aa.Ai).length k2,.slice p3 (x.Aa.Ah).length k3,.slice p4 (x.Ac).length k4]
theorem qD {x:qe} {cs:List Value} (h:GoT.R w S x cs):∃ p0 k0 p1 k1 p2 k2 p3 k3 p4 k4,cs=(qZ x p0 p1 p2 p3 p4 k0 k1 k2 k3 k4)∧SlR w S x.Aq.Ap p0 k0∧SlR w S x.Aa.Ab p1 k1∧SlR w S x.Aa.Ai p2 k2∧SlR w S x.Aa.Ah p3 k3∧SlR w S x.Ac p4 k4:=by
 obtain ⟨_,_,rfl,⟨p0,k0,rfl,s0⟩,⟨_,_,rfl,⟨_,_,rfl,⟨p1,k1,rfl,s1⟩,⟨_,_,rfl,⟨p2,k2,rfl,s2⟩,⟨p3,k3,rfl,s3⟩⟩⟩,⟨p4,k4,rfl,s4⟩⟩⟩:=h
 exact ⟨p0,k0,p1,k1,p2,k2,p3,k3,p4,k4,rfl,s0,s1,s2,s3,s4⟩
theorem qvI {w0:World} {L:List Ch} (x:qe) {I0 I1 I2:List Nat} {c0 c1 c2:List Value} (h:SH w0 w L) (h0:PO w L I0 x.Aq c0) (h1:PO w L I1 x.Aa c1) (h2:PO w L I2 x.Ac c2) (b0:apartB I0 (I1++I2)=true) (b1:apartB I1 I2=true):PO w L (I0++(I1++I2)) x (c0++(c1++c2)) :=
 (qcA h h0 (qcA h h1 h2 b1) b0)
structure qd where
 Aj:Int
 Ar:Int
instance gt_TSpan:GoT qd:=isoT (pairT instInt instInt) (fun x=>(x.Aj,x.Ar)) ⟨0,0⟩ rfl true (fun h=>by cases h)
instance fl_TSpan:Flat qd:=qe2 (pairT instInt instInt) (fun x:qd=>(x.Aj,x.Ar)) ⟨0,0⟩ rfl true (fun h=>by cases h) (qaC _ _ (inferInstanceAs (Flat Int)) (inferInstanceAs (Flat Int)))
abbrev qdi (x:qd):List Value:=[.int .i64 x.Aj,.int .i64 x.Ar]
theorem qu {x:qd} {cs:List Value} (h:GoT.R w S x cs):cs=(qdi x):=by
 obtain ⟨_,_,rfl,rfl,rfl⟩:=h
 exact rfl
theorem qB (x:qd):GoT.R w S x (qdi x):=have h:=pR (rI x.Aj) (rI x.Ar);h
structure qz where
 Au:(List Bool)
 Af:(List qd)
 Av:(List qd)
instance gt_TTiming:GoT qz:=isoT (pairT (@instList Bool instBool) (pairT (@instList qd gt_TSpan) (@instList qd gt_TSpan))) (fun x=>(x.Au,x.Af,x.Av)) ⟨[],[],[]⟩ rfl true (fun h=>by cases h)
abbrev qaI (x:qz) (p0 p1 p2:Option Addr) (k0 k1 k2:Nat):List Value:=[.slice p0 (x.Au).length k0,.slice p1 (x.Af).length k1,.slice p2 (x.Av).length k2]
theorem qbC {x:qz} {cs:List Value} (h:GoT.R w S x cs):∃ p0 k0 p1 k1 p2 k2,cs=(qaI x p0 p1 p2 k0 k1 k2)∧SlR w S x.Au p0 k0∧SlR w S x.Af p1 k1∧SlR w S x.Av p2 k2:=by
 obtain ⟨_,_,rfl,⟨p0,k0,rfl,s0⟩,⟨_,_,rfl,⟨p1,k1,rfl,s1⟩,⟨p2,k2,rfl,s2⟩⟩⟩:=h
 exact ⟨p0,k0,p1,k1,p2,k2,rfl,s0,s1,s2⟩
theorem qtK (x:qz) {p0 p1 p2:Option Addr} {k0 k1 k2:Nat} (s0:SlR w S x.Au p0 k0) (s1:SlR w S x.Af p1 k1) (s2:SlR w S x.Av p2 k2):GoT.R w S x (qaI x p0 p1 p2 k0 k1 k2):=have h:=pR (rS s0) (pR (rS s1) (rS s2));h
theorem qhO {w0:World} {L:List Ch} {x:qz} {p0 p1 p2:Option Addr} {l0 k0 l1 k1 l2 k2:Nat} (h:SH w0 w (Ch.own S x [.slice p0 l0 k0,.slice p1 l1 k1,.slice p2 l2 k2]::L)):∃ S0 S1 S2,SH w0 w (Ch.own S2 x.Av [.slice p2 l2 k2]::Ch.own S1 x.Af [.slice p1 l1 k1]::Ch.own S0 x.Au [.slice p0 l0 k0]::L):=by
 obtain ⟨hv,ho⟩:=h.headV
 replace ho:GoT.O w S x _:=ho
 obtain ⟨A0,B0,d0,e0,he,o0,ho,a0,b0⟩:=ho
 obtain ⟨q,m,rfl,s0⟩:=o0
 cases he
 replace hv:=hv.push (c:=Ch.own A0 x.Au [_]) (S2:=B0) ⟨_,_,rfl,s0⟩ (fun _ hd=>hd.elim) a0 b0
 obtain ⟨A1,B1,d1,e1,he,o1,ho,a1,b1⟩:=ho
 obtain ⟨q,m,rfl,s1⟩:=o1
 cases he
 replace hv:=hv.push (c:=Ch.own A1 x.Af [_]) (S2:=B1) ⟨_,_,rfl,s1⟩ (fun _ hd=>hd.elim) a1 b1
 obtain ⟨q,m,he,s2⟩:=ho
 cases he
 replace hv:=hv.push (c:=Ch.own B1 x.Av [_]) (S2:=(fun _=>False)) ⟨_,_,rfl,s2⟩ (fun _ hd=>hd.elim) (fun b hb=>⟨hb,fun h=>h⟩) (fun _ h=>h.elim)
 exact ⟨A0,A1,B1,hv.sh⟩
theorem qja {w0:World} {L:List Ch} (x:qz) {I0 I1 I2:List Nat} {c0 c1 c2:List Value} (h:SH w0 w L) (h0:PO w L I0 x.Au c0) (h1:PO w L I1 x.Af c1) (h2:PO w L I2 x.Av c2) (b0:apartB I0 (I1++I2)=true) (b1:apartB I1 I2=true):PO w L (I0++(I1++I2)) x (c0++(c1++c2)) :=
 (qcA h h0 (qcA h h1 h2 b1) b0)
structure ql where
 A:Int
 B:Int
 Bo:Int
instance gt_TCoupling:GoT ql:=isoT (pairT instInt (pairT instInt instInt)) (fun x=>(x.A,x.B,x.Bo)) ⟨0,0,0⟩ rfl true (fun h=>by cases h)
instance fl_TCoupling:Flat ql:=qe2 (pairT instInt (pairT instInt instInt)) (fun x:ql=>(x.A,x.B,x.Bo)) ⟨0,0,0⟩ rfl true (fun h=>by cases h) (qaC _ _ (inferInstanceAs (Flat Int)) (qaC _ _ (inferInstanceAs (Flat Int)) (inferInstanceAs (Flat Int))))
abbrev qjJ (x:ql):List Value:=[.int .i64 x.A,.int .i64 x.B,.int .i64 x.Bo]
theorem qaa {x:ql} {cs:List Value} (h:GoT.R w S x cs):cs=(qjJ x):=by
 obtain ⟨_,_,rfl,rfl,⟨_,_,rfl,rfl,rfl⟩⟩:=h
 exact rfl
theorem qgk (x:ql):GoT.R w S x (qjJ x):=have h:=pR (rI x.A) (pR (rI x.B) (rI x.Bo));h
structure qy where
 Az:ByteArray
 Bb:Int
 Bf:Int
 Bd:Int
 Bg:Int
instance gt_TCorner:GoT qy:=isoT (pairT instStr (pairT instInt (pairT instInt (pairT instInt instInt)))) (fun x=>(x.Az,x.Bb,x.Bf,x.Bd,x.Bg)) ⟨ByteArray.empty,0,0,0,0⟩ rfl true (fun h=>by cases h)
instance fl_TCorner:Flat qy:=qe2 (pairT instStr (pairT instInt (pairT instInt (pairT instInt instInt)))) (fun x:qy=>(x.Az,x.Bb,x.Bf,x.Bd,x.Bg)) ⟨ByteArray.empty,0,0,0,0⟩ rfl true (fun h=>by cases h) (qaC _ _ (inferInstanceAs (Flat ByteArray)) (qaC _ _ (inferInstanceAs (Flat Int)) (qaC _ _ (inferInstanceAs (Flat Int)) (qaC _ _ (inferInstanceAs (Flat Int)) (inferInstanceAs (Flat Int))))))
abbrev qaL (x:qy):List Value:=[.string x.Az,.int .i64 x.Bb,.int .i64 x.Bf,.int .i64 x.Bd,.int .i64 x.Bg]
theorem qaz {x:qy} {cs:List Value} (h:GoT.R w S x cs):cs=(qaL x):=by
 obtain ⟨_,_,rfl,rfl,⟨_,_,rfl,rfl,⟨_,_,rfl,rfl,⟨_,_,rfl,rfl,rfl⟩⟩⟩⟩:=h
 exact rfl
theorem qs4 (x:qy):GoT.R w S x (qaL x):=have h:=pR (rT x.Az) (pR (rI x.Bb) (pR (rI x.Bf) (pR (rI x.Bd) (rI x.Bg))));h
structure qg where
 Bk:Int
 Af:qd
 Av:qd
instance gt_TSource:GoT qg:=isoT (pairT instInt (pairT gt_TSpan gt_TSpan)) (fun x=>(x.Bk,x.Af,x.Av)) ⟨0,(⟨0,0⟩:qd),(⟨0,0⟩:qd)⟩ rfl true (fun h=>by cases h)
instance fl_TSource:Flat qg:=qe2 (pairT instInt (pairT gt_TSpan gt_TSpan)) (fun x:qg=>(x.Bk,x.Af,x.Av)) ⟨0,(⟨0,0⟩:qd),(⟨0,0⟩:qd)⟩ rfl true (fun h=>by cases h) (qaC _ _ (inferInstanceAs (Flat Int)) (qaC _ _ (inferInstanceAs (Flat qd)) (inferInstanceAs (Flat qd))))
abbrev qfl (x:qg):List Value:=[.int .i64 x.Bk,.int .i64 x.Af.Aj,.int .i64 x.Af.Ar,.int .i64 x.Av.Aj,.int .i64 x.Av.Ar]
theorem qak {x:qg} {cs:List Value} (h:GoT.R w S x cs):cs=(qfl x):=by
 obtain ⟨_,_,rfl,rfl,⟨_,_,rfl,⟨_,_,rfl,rfl,rfl⟩,⟨_,_,rfl,rfl,rfl⟩⟩⟩:=h
 exact rfl
theorem qcS (x:qg):GoT.R w S x (qfl x):=have h:=pR (rI x.Bk) (pR (qB x.Af) (qB x.Av));h
structure qo5 where
 Cc:Int
 Cb:Int
instance gt_TLatch:GoT qo5:=isoT (pairT instInt instInt) (fun x=>(x.Cc,x.Cb)) ⟨0,0⟩ rfl true (fun h=>by cases h)
instance fl_TLatch:Flat qo5:=qe2 (pairT instInt instInt) (fun x:qo5=>(x.Cc,x.Cb)) ⟨0,0⟩ rfl true (fun h=>by cases h) (qaC _ _ (inferInstanceAs (Flat Int)) (inferInstanceAs (Flat Int)))
structure qiX where
 Be:Int
 To:Int
 Bl:Int
 Ca:Int
instance gt_TLatchLink:GoT qiX:=isoT (pairT instInt (pairT instInt (pairT instInt instInt))) (fun x=>(x.Be,x.To,x.Bl,x.Ca)) ⟨0,0,0,0⟩ rfl true (fun h=>by cases h)
instance fl_TLatchLink:Flat qiX:=qe2 (pairT instInt (pairT instInt (pairT instInt instInt))) (fun x:qiX=>(x.Be,x.To,x.Bl,x.Ca)) ⟨0,0,0,0⟩ rfl true (fun h=>by cases h) (qaC _ _ (inferInstanceAs (Flat Int)) (qaC _ _ (inferInstanceAs (Flat Int)) (qaC _ _ (inferInstanceAs (Flat Int)) (inferInstanceAs (Flat Int)))))
structure qov where
 Bz:(List qo5)
 Cd:(List qiX)
instance gt_TLatchSystem:GoT qov:=isoT (pairT (@instList qo5 gt_TLatch) (@instList qiX gt_TLatchLink)) (fun x=>(x.Bz,x.Cd)) ⟨[],[]⟩ rfl true (fun h=>by cases h)
structure Tplace where
 instance_:Int
 pin:Int
 net:Int
 drives:Bool
instance gt_Tplace:GoT Tplace:=isoT (pairT instInt (pairT instInt (pairT instInt instBool))) (fun x=>(x.instance_,x.pin,x.net,x.drives)) ⟨0,0,0,false⟩ rfl true (fun h=>by cases h)
instance fl_Tplace:Flat Tplace:=qe2 (pairT instInt (pairT instInt (pairT instInt instBool))) (fun x:Tplace=>(x.instance_,x.pin,x.net,x.drives)) ⟨0,0,0,false⟩ rfl true (fun h=>by cases h) (qaC _ _ (inferInstanceAs (Flat Int)) (qaC _ _ (inferInstanceAs (Flat Int)) (qaC _ _ (inferInstanceAs (Flat Int)) (inferInstanceAs (Flat Bool)))))
abbrev qra (x:Tplace):List Value:=[.int .i64 x.instance_,.int .i64 x.pin,.int .i64 x.net,.bool x.drives]
theorem qeZ {x:Tplace} {cs:List Value} (h:GoT.R w S x cs):cs=(qra x):=by
 obtain ⟨_,_,rfl,rfl,⟨_,_,rfl,rfl,⟨_,_,rfl,rfl,rfl⟩⟩⟩:=h
 exact rfl
theorem qkU (x:Tplace):GoT.R w S x (qra x):=have h:=pR (rI x.instance_) (pR (rI x.pin) (pR (rI x.net) (rB x.drives)));h
structure qq where
 Be:Int
 To:Int
 As:Int
 Bw:Int
instance gt_TLink:GoT qq:=isoT (pairT instInt (pairT instInt (pairT instInt instInt))) (fun x=>(x.Be,x.To,x.As,x.Bw)) ⟨0,0,0,0⟩ rfl true (fun h=>by cases h)
instance fl_TLink:Flat qq:=qe2 (pairT instInt (pairT instInt (pairT instInt instInt))) (fun x:qq=>(x.Be,x.To,x.As,x.Bw)) ⟨0,0,0,0⟩ rfl true (fun h=>by cases h) (qaC _ _ (inferInstanceAs (Flat Int)) (qaC _ _ (inferInstanceAs (Flat Int)) (qaC _ _ (inferInstanceAs (Flat Int)) (inferInstanceAs (Flat Int)))))
abbrev qjh (x:qq):List Value:=[.int .i64 x.Be,.int .i64 x.To,.int .i64 x.As,.int .i64 x.Bw]
theorem qaZ {x:qq} {cs:List Value} (h:GoT.R w S x cs):cs=(qjh x):=by
 obtain ⟨_,_,rfl,rfl,⟨_,_,rfl,rfl,⟨_,_,rfl,rfl,rfl⟩⟩⟩:=h
 exact rfl
theorem qb9 (x:qq):GoT.R w S x (qjh x):=have h:=pR (rI x.Be) (pR (rI x.To) (pR (rI x.As) (rI x.Bw)));h
structure Tview where
 Bv:qe
 places:(List Tplace)
 links:(List qq)
 loads:(List Int)
 delays:(List (List Int))
 extras:(List Int)
instance gt_Tview:GoT Tview:=isoT (pairT gt_TBlock (pairT (@instList Tplace gt_Tplace) (pairT (@instList qq gt_TLink) (pairT (@instList Int instInt) (pairT (@instList (List Int) (@instList Int instInt)) (@instList Int instInt)))))) (fun x=>(x.Bv,x.places,x.links,x.loads,x.delays,x.extras)) ⟨(⟨(⟨[]⟩:qv),(⟨[],[],[]⟩:qf),[]⟩:qe),[],[],[],[],[]⟩ rfl true (fun h=>by cases h)
abbrev qx7 (x:Tview) (p0 p1 p2 p3 p4 p5 p6 p7 p8 p9:Option Addr) (k0 k1 k2 k3 k4 k5 k6 k7 k8 k9:Nat):List Value:=[.slice p0 (x.Bv.Aq.Ap).length k0,.slice p1 (x.Bv.Aa.Ab).length k1,.slice p2 (x.Bv.Aa.Ai).length k2,.slice p3 (x.Bv.Aa.Ah).length k3,.slice p4 (x.Bv.Ac).length k4,.slice p5 (x.places).length k5,.slice p6 (x.links).length k6,.slice p7 (x.loads).length k7,.slice p8 (x.delays).length k8,.slice p9 (x.extras).length k9]
theorem qck {x:Tview} {cs:List Value} (h:GoT.R w S x cs):∃ p0 k0 p1 k1 p2 k2 p3 k3 p4 k4 p5 k5 p6 k6 p7 k7 p8 k8 p9 k9,cs=(qx7 x p0 p1 p2 p3 p4 p5 p6 p7 p8 p9 k0 k1 k2 k3 k4 k5 k6 k7 k8 k9)∧SlR w S x.Bv.Aq.Ap p0 k0∧SlR w S x.Bv.Aa.Ab p1 k1∧SlR w S x.Bv.Aa.Ai p2 k2∧SlR w S x.Bv.Aa.Ah p3 k3∧SlR w S x.Bv.Ac p4 k4∧SlR w S x.places p5 k5∧SlR w S x.links p6 k6∧SlR w S x.loads p7 k7∧SlR w S x.delays p8 k8∧SlR w S x.extras p9 k9:=by
 obtain ⟨_,_,rfl,⟨_,_,rfl,⟨p0,k0,rfl,s0⟩,⟨_,_,rfl,⟨_,_,rfl,⟨p1,k1,rfl,s1⟩,⟨_,_,rfl,⟨p2,k2,rfl,s2⟩,⟨p3,k3,rfl,s3⟩⟩⟩,⟨p4,k4,rfl,s4⟩⟩⟩,⟨_,_,rfl,⟨p5,k5,rfl,s5⟩,⟨_,_,rfl,⟨p6,k6,rfl,s6⟩,⟨_,_,rfl,⟨p7,k7,rfl,s7⟩,⟨_,_,rfl,⟨p8,k8,rfl,s8⟩,⟨p9,k9,rfl,s9⟩⟩⟩⟩⟩⟩:=h
 exact ⟨p0,k0,p1,k1,p2,k2,p3,k3,p4,k4,p5,k5,p6,k6,p7,k7,p8,k8,p9,k9,rfl,s0,s1,s2,s3,s4,s5,s6,s7,s8,s9⟩
structure Tgraph where
 view:(Option Tview)
 live:(List Bool)
instance gt_Tgraph:GoT Tgraph:=isoT (pairT (@instPtr Tview gt_Tview) (@instList Bool instBool)) (fun x=>(x.view,x.live)) ⟨none,[]⟩ rfl true (fun h=>by cases h)
abbrev qwe (x:Tgraph) (p0 p1:Option Addr) (k1:Nat):List Value:=[.pointer p0,.slice p1 (x.live).length k1]
theorem qib {x:Tgraph} {cs:List Value} (h:GoT.R w S x cs):∃ p0 p1 k1,cs=(qwe x p0 p1 k1)∧PtR w S x.view p0∧SlR w S x.live p1 k1:=by
 obtain ⟨_,_,rfl,t0,⟨p1,k1,rfl,s1⟩⟩:=h
 obtain ⟨p0,rfl,s0⟩:=qbL t0
 exact ⟨p0,p1,k1,rfl,s0,s1⟩
structure TlatchSite where
 instance_:Int
 first:Int
 arc:Int
instance gt_TlatchSite:GoT TlatchSite:=isoT (pairT instInt (pairT instInt instInt)) (fun x=>(x.instance_,x.first,x.arc)) ⟨0,0,0⟩ rfl true (fun h=>by cases h)
instance fl_TlatchSite:Flat TlatchSite:=qe2 (pairT instInt (pairT instInt instInt)) (fun x:TlatchSite=>(x.instance_,x.first,x.arc)) ⟨0,0,0⟩ rfl true (fun h=>by cases h) (qaC _ _ (inferInstanceAs (Flat Int)) (qaC _ _ (inferInstanceAs (Flat Int)) (inferInstanceAs (Flat Int))))
structure Tl05Place where
 instance_:Int
 pin:Int
 net:Int
 drives:Bool
instance gt_Tl05Place:GoT Tl05Place:=isoT (pairT instInt (pairT instInt (pairT instInt instBool))) (fun x=>(x.instance_,x.pin,x.net,x.drives)) ⟨0,0,0,false⟩ rfl true (fun h=>by cases h)
instance fl_Tl05Place:Flat Tl05Place:=qe2 (pairT instInt (pairT instInt (pairT instInt instBool))) (fun x:Tl05Place=>(x.instance_,x.pin,x.net,x.drives)) ⟨0,0,0,false⟩ rfl true (fun h=>by cases h) (qaC _ _ (inferInstanceAs (Flat Int)) (qaC _ _ (inferInstanceAs (Flat Int)) (qaC _ _ (inferInstanceAs (Flat Int)) (inferInstanceAs (Flat Bool)))))
abbrev qlj (x:Tl05Place):List Value:=[.int .i64 x.instance_,.int .i64 x.pin,.int .i64 x.net,.bool x.drives]
theorem qbQ {x:Tl05Place} {cs:List Value} (h:GoT.R w S x cs):cs=(qlj x):=by
 obtain ⟨_,_,rfl,rfl,⟨_,_,rfl,rfl,⟨_,_,rfl,rfl,rfl⟩⟩⟩:=h
 exact rfl
theorem qfb (x:Tl05Place):GoT.R w S x (qlj x):=have h:=pR (rI x.instance_) (pR (rI x.pin) (pR (rI x.net) (rB x.drives)));h
structure qN where
 e0:Int
 e1:Int
instance gt_TA2_Int:GoT qN:=isoT (pairT instInt instInt) (fun x=>(x.e0,x.e1)) ⟨0,0⟩ rfl true (fun h=>by cases h)
instance fl_TA2_Int:Flat qN:=qe2 (pairT instInt instInt) (fun x:qN=>(x.e0,x.e1)) ⟨0,0⟩ rfl true (fun h=>by cases h) (qaC _ _ (inferInstanceAs (Flat Int)) (inferInstanceAs (Flat Int)))
abbrev qrW (x:qN):List Value:=[.int .i64 x.e0,.int .i64 x.e1]
theorem qsl {x:qN} {cs:List Value} (h:GoT.R w S x cs):cs=(qrW x):=by
 obtain ⟨_,_,rfl,rfl,rfl⟩:=h
 exact rfl
theorem qcR (x:qN):GoT.R w S x (qrW x):=have h:=pR (rI x.e0) (rI x.e1);h
structure Tweight where
 index:Int
 part:Int
instance gt_Tweight:GoT Tweight:=isoT (pairT instInt instInt) (fun x=>(x.index,x.part)) ⟨0,0⟩ rfl true (fun h=>by cases h)
instance fl_Tweight:Flat Tweight:=qe2 (pairT instInt instInt) (fun x:Tweight=>(x.index,x.part)) ⟨0,0⟩ rfl true (fun h=>by cases h) (qaC _ _ (inferInstanceAs (Flat Int)) (inferInstanceAs (Flat Int)))
abbrev qps (x:Tweight):List Value:=[.int .i64 x.index,.int .i64 x.part]
theorem qot {x:Tweight} {cs:List Value} (h:GoT.R w S x cs):cs=(qps x):=by
 obtain ⟨_,_,rfl,rfl,rfl⟩:=h
 exact rfl
theorem qnf (x:Tweight):GoT.R w S x (qps x):=have h:=pR (rI x.index) (rI x.part);h
def tab:Tab:=[
 (2,⟨.int .i64,1,8,some (.int .i64 0),[]⟩),
 (3,⟨.int .i64,1,8,some (.int .i64 0),[]⟩),
 (4,⟨.bool,1,1,some (.bool false),[]⟩),
 (5,⟨.int .u8,1,1,some (.int .u8 0),[]⟩),
 (9,⟨.str,1,16,some (.string ByteArray.empty),[]⟩),
 (22,⟨.slice 285,1,24,some (.slice none 0 0),[]⟩),
 (24,⟨.struct,1,24,some (.agg #[.slice none 0 0]),[(0,1,some false)]⟩),
 (25,⟨.slice 287,1,24,some (.slice none 0 0),[]⟩),
 (26,⟨.slice 9,1,24,some (.slice none 0 0),[]⟩),
 (27,⟨.slice 290,1,24,some (.slice none 0 0),[]⟩),
 (29,⟨.struct,3,72,some (.agg #[.slice none 0 0,.slice none 0 0,.slice none 0 0]),[(0,1,some false),(1,1,some false),(2,1,some false)]⟩),
 (30,⟨.slice 202,1,24,some (.slice none 0 0),[]⟩),
 (32,⟨.struct,5,120,some (.agg #[.slice none 0 0,.slice none 0 0,.slice none 0 0,.slice none 0 0,.slice none 0 0]),[(0,1,some true),(1,3,some true),(4,1,some false)]⟩),
 (33,⟨.slice 4,1,24,some (.slice none 0 0),[]⟩),
 (34,⟨.slice 142,1,24,some (.slice none 0 0),[]⟩),
 (36,⟨.struct,3,72,some (.agg #[.slice none 0 0,.slice none 0 0,.slice none 0 0]),[(0,1,some false),(1,1,some false),(2,1,some false)]⟩),
 (37,⟨.slice 113,1,24,some (.slice none 0 0),[]⟩),
 (41,⟨.slice 2,1,24,some (.slice none 0 0),[]⟩),
 (44,⟨.slice 251,1,24,some (.slice none 0 0),[]⟩),
 (46,⟨.struct,1,24,some (.agg #[.slice none 0 0]),[(0,1,some false)]⟩),
 (47,⟨.slice 174,1,24,some (.slice none 0 0),[]⟩),
 (48,⟨.slice 294,1,24,some (.slice none 0 0),[]⟩),
 (50,⟨.struct,3,72,some (.agg #[.slice none 0 0,.slice none 0 0,.slice none 0 0]),[(0,1,some false),(1,1,some false),(2,1,some false)]⟩),
 (51,⟨.slice 210,1,24,some (.slice none 0 0),[]⟩),
 (53,⟨.struct,5,120,some (.agg #[.slice none 0 0,.slice none 0 0,.slice none 0 0,.slice none 0 0,.slice none 0 0]),[(0,1,some true),(1,3,some true),(4,1,some false)]⟩),
 (55,⟨.slice 138,1,24,some (.slice none 0 0),[]⟩),
 (57,⟨.struct,3,72,some (.agg #[.slice none 0 0,.slice none 0 0,.slice none 0 0]),[(0,1,some false),(1,1,some false),(2,1,some false)]⟩),
 (59,⟨.slice 111,1,24,some (.slice none 0 0),[]⟩),
 (71,⟨.struct,5,48,some (.agg #[.string ByteArray.empty,.int .i64 0,.int .i64 0,.int .i64 0,.int .i64 0]),[(0,1,some false),(1,1,some false),(2,1,some false),(3,1,some false),(4,1,some false)]⟩),
 (72,⟨.slice 144,1,24,some (.slice none 0 0),[]⟩),
 (77,⟨.struct,5,48,some (.agg #[.string ByteArray.empty,.int .i64 0,.int .i64 0,.int .i64 0,.int .i64 0]),[(0,1,some false),(1,1,some false),(2,1,some false),(3,1,some false),(4,1,some false)]⟩),
 (80,⟨.slice 140,1,24,some (.slice none 0 0),[]⟩),
 (88,⟨.slice 172,1,24,some (.slice none 0 0),[]⟩),
 (89,⟨.slice 180,1,24,some (.slice none 0 0),[]⟩),
 (91,⟨.struct,2,48,some (.agg #[.slice none 0 0,.slice none 0 0]),[(0,1,some false),(1,1,some false)]⟩),
 (111,⟨.struct,3,24,some (.agg #[.int .i64 0,.int .i64 0,.int .i64 0]),[(0,1,some false),(1,1,some false),(2,1,some false)]⟩),
 (113,⟨.struct,3,24,some (.agg #[.int .i64 0,.int .i64 0,.int .i64 0]),[(0,1,some false),(1,1,some false),(2,1,some false)]⟩),
 (114,⟨.ptr,1,8,some (.pointer none),[]⟩),
 (138,⟨.struct,2,16,some (.agg #[.int .i64 0,.int .i64 0]),[(0,1,some false),(1,1,some false)]⟩),
 (140,⟨.struct,5,40,some (.agg #[.int .i64 0,.int .i64 0,.int .i64 0,.int .i64 0,.int .i64 0]),[(0,1,some false),(1,2,some true),(3,2,some true)]⟩),
 (142,⟨.struct,2,16,some (.agg #[.int .i64 0,.int .i64 0]),[(0,1,some false),(1,1,some false)]⟩),
 (144,⟨.struct,5,40,some (.agg #[.int .i64 0,.int .i64 0,.int .i64 0,.int .i64 0,.int .i64 0]),[(0,1,some false),(1,2,some true),(3,2,some true)]⟩),
 (150,⟨.struct,2,32,some (.agg #[.pointer none,.slice none 0 0]),[(0,1,some false),(1,1,some false)]⟩),
 (151,⟨.slice 244,1,24,some (.slice none 0 0),[]⟩),
 (152,⟨.slice 187,1,24,some (.slice none 0 0),[]⟩),
 (153,⟨.slice 41,1,24,some (.slice none 0 0),[]⟩),
 (155,⟨.struct,10,240,some (.agg #[.slice none 0 0,.slice none 0 0,.slice none 0 0,.slice none 0 0,.slice none 0 0,.slice none 0 0,.slice none 0 0,.slice none 0 0,.slice none 0 0,.slice none 0 0]),[(0,5,some true),(5,1,some false),(6,1,some false),(7,1,some false),(8,1,some false),(9,1,some false)]⟩),
 (172,⟨.struct,2,16,some (.agg #[.int .i64 0,.int .i64 0]),[(0,1,some false),(1,1,some false)]⟩),
 (174,⟨.struct,3,48,some (.agg #[.string ByteArray.empty,.int .i64 0,.slice none 0 0]),[(0,1,some false),(1,1,some false),(2,1,some false)]⟩),
 (180,⟨.struct,4,32,some (.agg #[.int .i64 0,.int .i64 0,.int .i64 0,.int .i64 0]),[(0,1,some false),(1,1,some false),(2,1,some false),(3,1,some false)]⟩),
 (183,⟨.slice 271,1,24,some (.slice none 0 0),[]⟩),
 (187,⟨.struct,4,32,some (.agg #[.int .i64 0,.int .i64 0,.int .i64 0,.int .i64 0]),[(0,1,some false),(1,1,some false),(2,1,some false),(3,1,some false)]⟩),
 (202,⟨.struct,4,96,some (.agg #[.slice none 0 0,.slice none 0 0,.slice none 0 0,.slice none 0 0]),[(0,1,some false),(1,1,some false),(2,1,some false),(3,1,some false)]⟩),
 (210,⟨.struct,4,96,some (.agg #[.slice none 0 0,.slice none 0 0,.slice none 0 0,.slice none 0 0]),[(0,1,some false),(1,1,some false),(2,1,some false),(3,1,some false)]⟩),
 (244,⟨.struct,4,32,some (.agg #[.int .i64 0,.int .i64 0,.int .i64 0,.bool false]),[(0,1,some false),(1,1,some false),(2,1,some false),(3,1,some false)]⟩),
 (246,⟨.ptr,1,8,some (.pointer none),[]⟩),
 (248,⟨.slice 340,1,24,some (.slice none 0 0),[]⟩),
 (249,⟨.slice 254,1,24,some (.slice none 0 0),[]⟩),
 (251,⟨.struct,7,112,some (.agg #[.string ByteArray.empty,.int .i64 0,.slice none 0 0,.slice none 0 0,.slice none 0 0,.int .i64 0,.int .i64 0]),[(0,1,some false),(1,1,some false),(2,1,some false),(3,1,some false),(4,1,some false),(5,1,some false),(6,1,some false)]⟩),
 (252,⟨.slice 329,1,24,some (.slice none 0 0),[]⟩),
 (254,⟨.struct,6,80,some (.agg #[.int .i64 0,.int .i64 0,.int .i64 0,.int .i64 0,.slice none 0 0,.slice none 0 0]),[(0,1,some false),(1,1,some false),(2,1,some false),(3,1,some false),(4,1,some false),(5,1,some false)]⟩),
 (258,⟨.slice 261,1,24,some (.slice none 0 0),[]⟩),
 (261,⟨.struct,4,32,some (.agg #[.int .i64 0,.int .i64 0,.int .i64 0,.bool false]),[(0,1,some false),(1,1,some false),(2,1,some false),(3,1,some false)]⟩),
 (271,⟨.struct,3,24,some (.agg #[.int .i64 0,.int .i64 0,.int .i64 0]),[(0,1,some false),(1,1,some false),(2,1,some false)]⟩),
 (273,⟨.slice 3,1,24,some (.slice none 0 0),[]⟩),
 (282,⟨.slice 371,1,24,some (.slice none 0 0),[]⟩),
 (283,⟨.slice 375,1,24,some (.slice none 0 0),[]⟩),
 (285,⟨.struct,7,112,some (.agg #[.string ByteArray.empty,.int .i64 0,.slice none 0 0,.slice none 0 0,.slice none 0 0,.int .i64 0,.int .i64 0]),[(0,1,some false),(1,1,some false),(2,1,some false),(3,1,some false),(4,1,some false),(5,1,some false),(6,1,some false)]⟩),
 (287,⟨.struct,3,48,some (.agg #[.string ByteArray.empty,.int .i64 0,.slice none 0 0]),[(0,1,some false),(1,1,some false),(2,1,some false)]⟩),
 (290,⟨.struct,3,32,some (.agg #[.string ByteArray.empty,.int .i64 0,.int .i64 0]),[(0,1,some false),(1,1,some false),(2,1,some false)]⟩),
 (294,⟨.struct,3,32,some (.agg #[.string ByteArray.empty,.int .i64 0,.int .i64 0]),[(0,1,some false),(1,1,some false),(2,1,some false)]⟩),
 (329,⟨.struct,3,72,some (.agg #[.slice none 0 0,.slice none 0 0,.slice none 0 0]),[(0,1,some false),(1,1,some false),(2,1,some false)]⟩),
 (333,⟨.slice 335,1,24,some (.slice none 0 0),[]⟩),
 (335,⟨.arr 2 2,2,16,some (.agg #[.int .i64 0,.int .i64 0]),[]⟩),
 (340,⟨.struct,4,40,some (.agg #[.string ByteArray.empty,.int .i64 0,.int .i64 0,.bool false]),[(0,1,some false),(1,1,some false),(2,1,some false),(3,1,some false)]⟩),
 (348,⟨.slice 5,1,24,some (.slice none 0 0),[]⟩),
 (371,⟨.struct,4,40,some (.agg #[.string ByteArray.empty,.int .i64 0,.int .i64 0,.bool false]),[(0,1,some false),(1,1,some false),(2,1,some false),(3,1,some false)]⟩),
 (373,⟨.slice 408,1,24,some (.slice none 0 0),[]⟩),
 (375,⟨.struct,6,80,some (.agg #[.int .i64 0,.int .i64 0,.int .i64 0,.int .i64 0,.slice none 0 0,.slice none 0 0]),[(0,1,some false),(1,1,some false),(2,1,some false),(3,1,some false),(4,1,some false),(5,1,some false)]⟩),
 (384,⟨.int .u64,1,8,some (.int .u64 0),[]⟩),
 (393,⟨.slice 397,1,24,some (.slice none 0 0),[]⟩),
 (397,⟨.struct,2,16,some (.agg #[.int .i64 0,.int .i64 0]),[(0,1,some false),(1,1,some false)]⟩),
 (408,⟨.struct,3,72,some (.agg #[.slice none 0 0,.slice none 0 0,.slice none 0 0]),[(0,1,some false),(1,1,some false),(2,1,some false)]⟩)]
theorem qa:TabOk Tryz.prog tab:=TabOk.mk (by kernel_rfl)
theorem rp {n:Nat} {Q:Exit→Act→World→Prop} {k:List It} {e:Env} {w:World} {all:Array Oper} {l:List Oper} {op:Op} {d t:Nat} {ps:String} {af:Array Edge} {v:Value}
  (h:pev tab e op=some v) (hn:Nat.blt d n=true) (hk:Run Tryz.prog n Q (.ops all l::k) ((d,v)::e) w):Run Tryz.prog n Q (.ops all (⟨some d,op,t,ps,af,none⟩::l)::k) e w:=r_p qa h hn hk
theorem dp {n:Nat} {Q:Exit→Act→World→Prop} {k:List It} {e:Env} {w:World} {all:Array Oper} {l:List Oper} {op:Op} {d t:Nat} {ps:String} {af:Array Edge} {v:Value}
  (h:pev tab e op=some v) (hn:Nat.blt d n=true) (hk:RunD Tryz.prog n Q k all w l ((d,v)::e)):RunD Tryz.prog n Q k all w (⟨some d,op,t,ps,af,none⟩::l) e:=d_p qa h hn hk
section
variable {P:Program} {n:Nat} {Q:Exit→Act→World→Prop} {k:List It} {e:Env} {w:World}
theorem zSR {i4:Nat} {o5:List Oper} {x3:Code} (h:Run P n Q (.ops o5.toArray o5::.code x3::k) e w):Run P n Q (.code (.seq (.region i4 o5.toArray false) x3)::k) e w:=qci <| qlX h
theorem zKSR {i5:Nat} {o6:List Oper} {x4:Code} (h:Run P n Q (.ops o6.toArray o6::.code x4::k) e w):Run P n Q (.code .skip::.code (.seq (.region i5 o6.toArray false) x4)::k) e w:=qhx <| qci <| qlX h
theorem zNSR {a1:Array Oper} {i5:Nat} {o6:List Oper} {x4:Code} (h:Run P n Q (.ops o6.toArray o6::.code x4::k) e w):Run P n Q (.ops a1 []::.code (.seq (.region i5 o6.toArray false) x4)::k) e w:=qcr <| qci <| qlX h
theorem zKS {x3:Code} {x4:Code} (h:Run P n Q (.code x3::.code x4::k) e w):Run P n Q (.code .skip::.code (.seq x3 x4)::k) e w:=qhx <| qci h
theorem zNS {a1:Array Oper} {x3:Code} {x4:Code} (h:Run P n Q (.code x3::.code x4::k) e w):Run P n Q (.ops a1 []::.code (.seq x3 x4)::k) e w:=qcr <| qci h
theorem zNSS {a1:Array Oper} {x5:Code} {x6:Code} {x4:Code} (h:Run P n Q (.code x5::.code x6::.code x4::k) e w):Run P n Q (.ops a1 []::.code (.seq (.seq x5 x6) x4)::k) e w:=qcr <| qci <| qci h
theorem zKSB {i5:Nat} {x6:Code} {x4:Code} (h:Run P n Q (.code x6::.blk i5::.code x4::k) e w):Run P n Q (.code .skip::.code (.seq (.block i5 x6) x4)::k) e w:=qhx <| qci <| qm h
theorem zKSBSR {i5:Nat} {i9:Nat} {o10:List Oper} {x8:Code} {x4:Code} (h:Run P n Q (.ops o10.toArray o10::.code x8::.blk i5::.code x4::k) e w):Run P n Q (.code .skip::.code (.seq (.block i5 (.seq (.region i9 o10.toArray false) x8)) x4)::k) e w:=qhx <| qci <| qm <| qci <| qlX h
theorem zSS {x4:Code} {x5:Code} {x3:Code} (h:Run P n Q (.code x4::.code x5::.code x3::k) e w):Run P n Q (.code (.seq (.seq x4 x5) x3)::k) e w:=qci <| qci h
theorem zKSS {x5:Code} {x6:Code} {x4:Code} (h:Run P n Q (.code x5::.code x6::.code x4::k) e w):Run P n Q (.code .skip::.code (.seq (.seq x5 x6) x4)::k) e w:=qhx <| qci <| qci h
end
section
variable {w0 w:World} {L:List Ch} {n:Nat} {Q:Exit→Act→World→Prop} {k k':List It} {e e':Env} {all:Array Oper} {l l':List Oper} {z:List Nat}
theorem X0 (m:Nat) (hh:xs tab n m [] k e [] []=some (k',e',z,z)) (hk:Run Tryz.prog n Q k' e' w):Run Tryz.prog n Q k e w:=((qtt (P:=Tryz.prog) (Q:=Q) (w:=w) qa m _ _ _ _ _ _ _ _ _ (fun _ h=>by cases h) rfl hh).2 rfl).2 hk
theorem Y0 (m:Nat) (hh:xd tab n all m [] l e [] []=some (l',e',z,z)) (hk:RunD Tryz.prog n Q k all w l' e'):RunD Tryz.prog n Q k all w l e:=((qyq (P:=Tryz.prog) (Q:=Q) (k:=k) (w:=w) (all:=all) qa m _ _ _ _ _ _ _ _ _ (fun _ h=>by cases h) rfl hh).2 rfl).2 hk
theorem X1 (m:Nat) (i0:Nat) {b0 t0:Nat} {cs0:List Value} (h:SH w0 w L) (hh:(L[i0]?,xs tab n m [(b0,cs0)] k e [] [])=(some (Ch.box b0 cs0 t0),some (k',e',z,z))) (hk:Run Tryz.prog n Q k' e' w):Run Tryz.prog n Q k e w:=by
 simp only [Prod.mk.injEq] at hh
 exact ((qtt (P:=Tryz.prog) (Q:=Q) (w:=w) qa m _ _ _ _ _ _ _ _ _ (fun p hp=>by
  simp only [jV,jN,or_false] at hp
  rcases hp with rfl
  ·exact h.box i0 hh.1) rfl hh.2).2 rfl).2 hk
theorem Y1 (m:Nat) (i0:Nat) {b0 t0:Nat} {cs0:List Value} (h:SH w0 w L) (hh:(L[i0]?,xd tab n all m [(b0,cs0)] l e [] [])=(some (Ch.box b0 cs0 t0),some (l',e',z,z))) (hk:RunD Tryz.prog n Q k all w l' e'):RunD Tryz.prog n Q k all w l e:=by
 simp only [Prod.mk.injEq] at hh
 exact ((qyq (P:=Tryz.prog) (Q:=Q) (k:=k) (w:=w) (all:=all) qa m _ _ _ _ _ _ _ _ _ (fun p hp=>by
  simp only [jV,jN,or_false] at hp
  rcases hp with rfl
  ·exact h.box i0 hh.1) rfl hh.2).2 rfl).2 hk
theorem X2 (m:Nat) (i0 i1:Nat) {b0 t0:Nat} {cs0:List Value} {b1 t1:Nat} {cs1:List Value} (h:SH w0 w L) (hh:(L[i0]?,L[i1]?,xs tab n m [(b0,cs0),(b1,cs1)] k e [] [])=(some (Ch.box b0 cs0 t0),some (Ch.box b1 cs1 t1),some (k',e',z,z))) (hk:Run Tryz.prog n Q k' e' w):Run Tryz.prog n Q k e w:=by
 simp only [Prod.mk.injEq] at hh
 exact ((qtt (P:=Tryz.prog) (Q:=Q) (w:=w) qa m _ _ _ _ _ _ _ _ _ (fun p hp=>by
  simp only [jV,jN,or_false] at hp
  rcases hp with rfl|rfl
  ·exact h.box i0 hh.1
  ·exact h.box i1 hh.2.1) rfl hh.2.2).2 rfl).2 hk
theorem X3 (m:Nat) (i0 i1 i2:Nat) {b0 t0:Nat} {cs0:List Value} {b1 t1:Nat} {cs1:List Value} {b2 t2:Nat} {cs2:List Value} (h:SH w0 w L) (hh:(L[i0]?,L[i1]?,L[i2]?,xs tab n m [(b0,cs0),(b1,cs1),(b2,cs2)] k e [] [])=(some (Ch.box b0 cs0 t0),some (Ch.box b1 cs1 t1),some (Ch.box b2 cs2 t2),some (k',e',z,z))) (hk:Run Tryz.prog n Q k' e' w):Run Tryz.prog n Q k e w:=by
 simp only [Prod.mk.injEq] at hh
 exact ((qtt (P:=Tryz.prog) (Q:=Q) (w:=w) qa m _ _ _ _ _ _ _ _ _ (fun p hp=>by
  simp only [jV,jN,or_false] at hp
  rcases hp with rfl|rfl|rfl
  ·exact h.box i0 hh.1
  ·exact h.box i1 hh.2.1
  ·exact h.box i2 hh.2.2.1) rfl hh.2.2.2).2 rfl).2 hk
theorem X4 (m:Nat) (i0 i1 i2 i3:Nat) {b0 t0:Nat} {cs0:List Value} {b1 t1:Nat} {cs1:List Value} {b2 t2:Nat} {cs2:List Value} {b3 t3:Nat} {cs3:List Value} (h:SH w0 w L) (hh:(L[i0]?,L[i1]?,L[i2]?,L[i3]?,xs tab n m [(b0,cs0),(b1,cs1),(b2,cs2),(b3,cs3)] k e [] [])=(some (Ch.box b0 cs0 t0),some (Ch.box b1 cs1 t1),some (Ch.box b2 cs2 t2),some (Ch.box b3 cs3 t3),some (k',e',z,z))) (hk:Run Tryz.prog n Q k' e' w):Run Tryz.prog n Q k e w:=by
 simp only [Prod.mk.injEq] at hh
 exact ((qtt (P:=Tryz.prog) (Q:=Q) (w:=w) qa m _ _ _ _ _ _ _ _ _ (fun p hp=>by
  simp only [jV,jN,or_false] at hp
  rcases hp with rfl|rfl|rfl|rfl
  ·exact h.box i0 hh.1
  ·exact h.box i1 hh.2.1
  ·exact h.box i2 hh.2.2.1
  ·exact h.box i3 hh.2.2.2.1) rfl hh.2.2.2.2).2 rfl).2 hk
end
section
variable {w0 w:World} {L:List Ch} {n:Nat} {Q:Exit→Act→World→Prop} {k:List It} {e:Env} {all:Array Oper} {l:List Oper}
theorem zp1 {op0:Op} {d0 t0:Nat} {s0:String} {f0:Array Edge} {v0:Value} (h:(pev tab (e) op0,Nat.blt d0 n)=(some v0,true)) (hk:Run Tryz.prog n Q (.ops all l::k) ((d0,v0)::e) w):Run Tryz.prog n Q (.ops all (⟨some d0,op0,t0,s0,f0,none⟩::l)::k) e w:=by
 have H:=h
 simp only [Prod.mk.injEq] at H
 exact rp (H.1) (H.2) (hk)
theorem zd1 {op0:Op} {d0 t0:Nat} {s0:String} {f0:Array Edge} {v0:Value} (h:(pev tab (e) op0,Nat.blt d0 n)=(some v0,true)) (hk:RunD Tryz.prog n Q k all w l ((d0,v0)::e)):RunD Tryz.prog n Q k all w (⟨some d0,op0,t0,s0,f0,none⟩::l) e:=by
 have H:=h
 simp only [Prod.mk.injEq] at H
 exact dp (H.1) (H.2) (hk)
theorem zp2 {op0:Op} {d0 t0:Nat} {s0:String} {f0:Array Edge} {v0:Value} {op1:Op} {d1 t1:Nat} {s1:String} {f1:Array Edge} {v1:Value} (h:(pev tab (e) op0,Nat.blt d0 n,pev tab ((d0,v0)::e) op1,Nat.blt d1 n)=(some v0,true,some v1,true)) (hk:Run Tryz.prog n Q (.ops all l::k) ((d1,v1)::(d0,v0)::e) w):Run Tryz.prog n Q (.ops all (⟨some d0,op0,t0,s0,f0,none⟩::⟨some d1,op1,t1,s1,f1,none⟩::l)::k) e w:=by
 have H:=h
 simp only [Prod.mk.injEq] at H
 exact rp (H.1) (H.2.1) (rp (H.2.2.1) (H.2.2.2) (hk))
theorem zd2 {op0:Op} {d0 t0:Nat} {s0:String} {f0:Array Edge} {v0:Value} {op1:Op} {d1 t1:Nat} {s1:String} {f1:Array Edge} {v1:Value} (h:(pev tab (e) op0,Nat.blt d0 n,pev tab ((d0,v0)::e) op1,Nat.blt d1 n)=(some v0,true,some v1,true)) (hk:RunD Tryz.prog n Q k all w l ((d1,v1)::(d0,v0)::e)):RunD Tryz.prog n Q k all w (⟨some d0,op0,t0,s0,f0,none⟩::⟨some d1,op1,t1,s1,f1,none⟩::l) e:=by
 have H:=h
 simp only [Prod.mk.injEq] at H
 exact dp (H.1) (H.2.1) (dp (H.2.2.1) (H.2.2.2) (hk))
theorem zp3 {op0:Op} {d0 t0:Nat} {s0:String} {f0:Array Edge} {v0:Value} {op1:Op} {d1 t1:Nat} {s1:String} {f1:Array Edge} {v1:Value} {op2:Op} {d2 t2:Nat} {s2:String} {f2:Array Edge} {v2:Value} (h:(pev tab (e) op0,Nat.blt d0 n,pev tab ((d0,v0)::e) op1,Nat.blt d1 n,pev tab ((d1,v1)::(d0,v0)::e) op2,Nat.blt d2 n)=(some v0,true,some v1,true,some v2,true)) (hk:Run Tryz.prog n Q (.ops all l::k) ((d2,v2)::(d1,v1)::(d0,v0)::e) w):Run Tryz.prog n Q (.ops all (⟨some d0,op0,t0,s0,f0,none⟩::⟨some d1,op1,t1,s1,f1,none⟩::⟨some d2,op2,t2,s2,f2,none⟩::l)::k) e w:=by
 have H:=h
 simp only [Prod.mk.injEq] at H
 exact rp (H.1) (H.2.1) (rp (H.2.2.1) (H.2.2.2.1) (rp (H.2.2.2.2.1) (H.2.2.2.2.2) (hk)))
theorem zd3 {op0:Op} {d0 t0:Nat} {s0:String} {f0:Array Edge} {v0:Value} {op1:Op} {d1 t1:Nat} {s1:String} {f1:Array Edge} {v1:Value} {op2:Op} {d2 t2:Nat} {s2:String} {f2:Array Edge} {v2:Value} (h:(pev tab (e) op0,Nat.blt d0 n,pev tab ((d0,v0)::e) op1,Nat.blt d1 n,pev tab ((d1,v1)::(d0,v0)::e) op2,Nat.blt d2 n)=(some v0,true,some v1,true,some v2,true)) (hk:RunD Tryz.prog n Q k all w l ((d2,v2)::(d1,v1)::(d0,v0)::e)):RunD Tryz.prog n Q k all w (⟨some d0,op0,t0,s0,f0,none⟩::⟨some d1,op1,t1,s1,f1,none⟩::⟨some d2,op2,t2,s2,f2,none⟩::l) e:=by
 have H:=h
 simp only [Prod.mk.injEq] at H
 exact dp (H.1) (H.2.1) (dp (H.2.2.1) (H.2.2.2.1) (dp (H.2.2.2.2.1) (H.2.2.2.2.2) (hk)))
theorem zp4 {op0:Op} {d0 t0:Nat} {s0:String} {f0:Array Edge} {v0:Value} {op1:Op} {d1 t1:Nat} {s1:String} {f1:Array Edge} {v1:Value} {op2:Op} {d2 t2:Nat} {s2:String} {f2:Array Edge} {v2:Value} {op3:Op} {d3 t3:Nat} {s3:String} {f3:Array Edge} {v3:Value} (h:(pev tab (e) op0,Nat.blt d0 n,pev tab ((d0,v0)::e) op1,Nat.blt d1 n,pev tab ((d1,v1)::(d0,v0)::e) op2,Nat.blt d2 n,pev tab ((d2,v2)::(d1,v1)::(d0,v0)::e) op3,Nat.blt d3 n)=(some v0,true,some v1,true,some v2,true,some v3,true)) (hk:Run Tryz.prog n Q (.ops all l::k) ((d3,v3)::(d2,v2)::(d1,v1)::(d0,v0)::e) w):Run Tryz.prog n Q (.ops all (⟨some d0,op0,t0,s0,f0,none⟩::⟨some d1,op1,t1,s1,f1,none⟩::⟨some d2,op2,t2,s2,f2,none⟩::⟨some d3,op3,t3,s3,f3,none⟩::l)::k) e w:=by
 have H:=h
 simp only [Prod.mk.injEq] at H
 exact rp (H.1) (H.2.1) (rp (H.2.2.1) (H.2.2.2.1) (rp (H.2.2.2.2.1) (H.2.2.2.2.2.1) (rp (H.2.2.2.2.2.2.1) (H.2.2.2.2.2.2.2) (hk))))
theorem zd4 {op0:Op} {d0 t0:Nat} {s0:String} {f0:Array Edge} {v0:Value} {op1:Op} {d1 t1:Nat} {s1:String} {f1:Array Edge} {v1:Value} {op2:Op} {d2 t2:Nat} {s2:String} {f2:Array Edge} {v2:Value} {op3:Op} {d3 t3:Nat} {s3:String} {f3:Array Edge} {v3:Value} (h:(pev tab (e) op0,Nat.blt d0 n,pev tab ((d0,v0)::e) op1,Nat.blt d1 n,pev tab ((d1,v1)::(d0,v0)::e) op2,Nat.blt d2 n,pev tab ((d2,v2)::(d1,v1)::(d0,v0)::e) op3,Nat.blt d3 n)=(some v0,true,some v1,true,some v2,true,some v3,true)) (hk:RunD Tryz.prog n Q k all w l ((d3,v3)::(d2,v2)::(d1,v1)::(d0,v0)::e)):RunD Tryz.prog n Q k all w (⟨some d0,op0,t0,s0,f0,none⟩::⟨some d1,op1,t1,s1,f1,none⟩::⟨some d2,op2,t2,s2,f2,none⟩::⟨some d3,op3,t3,s3,f3,none⟩::l) e:=by
 have H:=h
 simp only [Prod.mk.injEq] at H
 exact dp (H.1) (H.2.1) (dp (H.2.2.1) (H.2.2.2.1) (dp (H.2.2.2.2.1) (H.2.2.2.2.2.1) (dp (H.2.2.2.2.2.2.1) (H.2.2.2.2.2.2.2) (hk))))
theorem zp5 {op0:Op} {d0 t0:Nat} {s0:String} {f0:Array Edge} {v0:Value} {op1:Op} {d1 t1:Nat} {s1:String} {f1:Array Edge} {v1:Value} {op2:Op} {d2 t2:Nat} {s2:String} {f2:Array Edge} {v2:Value} {op3:Op} {d3 t3:Nat} {s3:String} {f3:Array Edge} {v3:Value} {op4:Op} {d4 t4:Nat} {s4:String} {f4:Array Edge} {v4:Value} (h:(pev tab (e) op0,Nat.blt d0 n,pev tab ((d0,v0)::e) op1,Nat.blt d1 n,pev tab ((d1,v1)::(d0,v0)::e) op2,Nat.blt d2 n,pev tab ((d2,v2)::(d1,v1)::(d0,v0)::e) op3,Nat.blt d3 n,pev tab ((d3,v3)::(d2,v2)::(d1,v1)::(d0,v0)::e) op4,Nat.blt d4 n)=(some v0,true,some v1,true,some v2,true,some v3,true,some v4,true)) (hk:Run Tryz.prog n Q (.ops all l::k) ((d4,v4)::(d3,v3)::(d2,v2)::(d1,v1)::(d0,v0)::e) w):Run Tryz.prog n Q (.ops all (⟨some d0,op0,t0,s0,f0,none⟩::⟨some d1,op1,t1,s1,f1,none⟩::⟨some d2,op2,t2,s2,f2,none⟩::⟨some d3,op3,t3,s3,f3,none⟩::⟨some d4,op4,t4,s4,f4,none⟩::l)::k) e w:=by
 have H:=h
 simp only [Prod.mk.injEq] at H
 exact rp (H.1) (H.2.1) (rp (H.2.2.1) (H.2.2.2.1) (rp (H.2.2.2.2.1) (H.2.2.2.2.2.1) (rp (H.2.2.2.2.2.2.1) (H.2.2.2.2.2.2.2.1) (rp (H.2.2.2.2.2.2.2.2.1) (H.2.2.2.2.2.2.2.2.2) (hk)))))
theorem zd5 {op0:Op} {d0 t0:Nat} {s0:String} {f0:Array Edge} {v0:Value} {op1:Op} {d1 t1:Nat} {s1:String} {f1:Array Edge} {v1:Value} {op2:Op} {d2 t2:Nat} {s2:String} {f2:Array Edge} {v2:Value} {op3:Op} {d3 t3:Nat} {s3:String} {f3:Array Edge} {v3:Value} {op4:Op} {d4 t4:Nat} {s4:String} {f4:Array Edge} {v4:Value} (h:(pev tab (e) op0,Nat.blt d0 n,pev tab ((d0,v0)::e) op1,Nat.blt d1 n,pev tab ((d1,v1)::(d0,v0)::e) op2,Nat.blt d2 n,pev tab ((d2,v2)::(d1,v1)::(d0,v0)::e) op3,Nat.blt d3 n,pev tab ((d3,v3)::(d2,v2)::(d1,v1)::(d0,v0)::e) op4,Nat.blt d4 n)=(some v0,true,some v1,true,some v2,true,some v3,true,some v4,true)) (hk:RunD Tryz.prog n Q k all w l ((d4,v4)::(d3,v3)::(d2,v2)::(d1,v1)::(d0,v0)::e)):RunD Tryz.prog n Q k all w (⟨some d0,op0,t0,s0,f0,none⟩::⟨some d1,op1,t1,s1,f1,none⟩::⟨some d2,op2,t2,s2,f2,none⟩::⟨some d3,op3,t3,s3,f3,none⟩::⟨some d4,op4,t4,s4,f4,none⟩::l) e:=by
 have H:=h
 simp only [Prod.mk.injEq] at H
 exact dp (H.1) (H.2.1) (dp (H.2.2.1) (H.2.2.2.1) (dp (H.2.2.2.2.1) (H.2.2.2.2.2.1) (dp (H.2.2.2.2.2.2.1) (H.2.2.2.2.2.2.2.1) (dp (H.2.2.2.2.2.2.2.2.1) (H.2.2.2.2.2.2.2.2.2) (hk)))))
theorem zl (i j:Nat) {d t ty:Nat} {x:Operand} {te:TE} {ps:String} {af:Array Edge} {v:Value} {b:Nat} {cs:List Value} {t':TypeId} (h:SH w0 w L) (hh:(L[i]?,opv e x,tab.get t,ld te cs j,Nat.blt d n)=(some (Ch.box b cs t'),some (.pointer (some ⟨b,0+j,none⟩)),some te,some v,true))
  (hk:Run Tryz.prog n Q (.ops all l::k) ((d,v)::e) w):Run Tryz.prog n Q (.ops all (⟨some d,.load t x,ty,ps,af,none⟩::l)::k) e w:=by
 simp only [Prod.mk.injEq] at hh
 exact r_v (qhq qa (h.box i hh.1) (j:=j) hh.2.1 hh.2.2.1 hh.2.2.2.1) hh.2.2.2.2 hk
theorem zc (j:Nat) {d t ty:Nat} {x:Operand} {te:TE} {ps:String} {af:Array Edge} {v:Value} {b o:Nat} {cs:List Value} (h:CellsAt w b o cs) (hh:(opv e x,tab.get t,ld te cs j,Nat.blt d n)=(some (.pointer (some ⟨b,o+j,none⟩)),some te,some v,true))
  (hk:Run Tryz.prog n Q (.ops all l::k) ((d,v)::e) w):Run Tryz.prog n Q (.ops all (⟨some d,.load t x,ty,ps,af,none⟩::l)::k) e w:=by
 simp only [Prod.mk.injEq] at hh
 exact r_v (qhq qa h (j:=j) hh.1 hh.2.1 hh.2.2.1) hh.2.2.2 hk
theorem zdc (j:Nat) {d t ty:Nat} {x:Operand} {te:TE} {ps:String} {af:Array Edge} {v:Value} {b o:Nat} {cs:List Value} (h:CellsAt w b o cs) (hh:(opv e x,tab.get t,ld te cs j,Nat.blt d n)=(some (.pointer (some ⟨b,o+j,none⟩)),some te,some v,true))
  (hk:RunD Tryz.prog n Q k all w l ((d,v)::e)):RunD Tryz.prog n Q k all w (⟨some d,.load t x,ty,ps,af,none⟩::l) e:=by
 simp only [Prod.mk.injEq] at hh
 exact d_v (fun _ hb=>qhq qa (h.below hb) (j:=j) hh.1 hh.2.1 hh.2.2.1) hh.2.2.2 hk
theorem zx {x i:Operand} {t ty d el m:Nat} {te te1:TE} {ps:String} {af:Array Edge} {p:Option Addr} {ln c:Nat} {kd:IntKind} {iv:Int} {b o q:Nat} (hp:p=some ⟨b,o,none⟩) (hq:q=o+iv.toNat*m) (hlt:0≤iv∧iv<ln) (hh:(opv e x,opv e i,tab.get t,te.kind,tab.get el,te1.size,Nat.blt d n)=(some (.slice p ln c),some (.int kd iv),some te,TK.slice el,some te1,m,true)) (hk:Run Tryz.prog n Q (.ops all l::k) ((d,.pointer (some ⟨b,q,none⟩))::e) w):Run Tryz.prog n Q (.ops all (⟨some d,.indexAddr t x i,ty,ps,af,none⟩::l)::k) e w:=by
 simp only [Prod.mk.injEq] at hh
 exact r_v (qt1 qa hp hq hlt hh.1 hh.2.1 hh.2.2.1 hh.2.2.2.1 hh.2.2.2.2.1 hh.2.2.2.2.2.1) hh.2.2.2.2.2.2 hk
theorem zxe {x i:Operand} {t ty d el m:Nat} {te te1:TE} {ps:String} {af:Array Edge} {p:Option Addr} {ln c:Nat} {kd:IntKind} {iv:Int} {b o q:Nat} {α:Prop} (hp:p=some ⟨b,o,none⟩) (hq:q=o+iv.toNat*m) (hlt:0≤iv∧iv<ln∧α) (hh:(opv e x,opv e i,tab.get t,te.kind,tab.get el,te1.size,Nat.blt d n)=(some (.slice p ln c),some (.int kd iv),some te,TK.slice el,some te1,m,true)) (hk:Run Tryz.prog n Q (.ops all l::k) ((d,.pointer (some ⟨b,q,none⟩))::e) w):Run Tryz.prog n Q (.ops all (⟨some d,.indexAddr t x i,ty,ps,af,none⟩::l)::k) e w:=zx hp hq ⟨hlt.1,hlt.2.1⟩ hh hk
theorem zdx {x i:Operand} {t ty d el m:Nat} {te te1:TE} {ps:String} {af:Array Edge} {p:Option Addr} {ln c:Nat} {kd:IntKind} {iv:Int} {b o q:Nat} (hp:p=some ⟨b,o,none⟩) (hq:q=o+iv.toNat*m) (hlt:0≤iv∧iv<ln) (hh:(opv e x,opv e i,tab.get t,te.kind,tab.get el,te1.size,Nat.blt d n)=(some (.slice p ln c),some (.int kd iv),some te,TK.slice el,some te1,m,true)) (hk:RunD Tryz.prog n Q k all w l ((d,.pointer (some ⟨b,q,none⟩))::e)):RunD Tryz.prog n Q k all w (⟨some d,.indexAddr t x i,ty,ps,af,none⟩::l) e:=by
 simp only [Prod.mk.injEq] at hh
 exact d_v (fun _ _=>qt1 qa hp hq hlt hh.1 hh.2.1 hh.2.2.1 hh.2.2.2.1 hh.2.2.2.2.1 hh.2.2.2.2.2.1) hh.2.2.2.2.2.2 hk
theorem zdxe {x i:Operand} {t ty d el m:Nat} {te te1:TE} {ps:String} {af:Array Edge} {p:Option Addr} {ln c:Nat} {kd:IntKind} {iv:Int} {b o q:Nat} {α:Prop} (hp:p=some ⟨b,o,none⟩) (hq:q=o+iv.toNat*m) (hlt:0≤iv∧iv<ln∧α) (hh:(opv e x,opv e i,tab.get t,te.kind,tab.get el,te1.size,Nat.blt d n)=(some (.slice p ln c),some (.int kd iv),some te,TK.slice el,some te1,m,true)) (hk:RunD Tryz.prog n Q k all w l ((d,.pointer (some ⟨b,q,none⟩))::e)):RunD Tryz.prog n Q k all w (⟨some d,.indexAddr t x i,ty,ps,af,none⟩::l) e:=zdx hp hq ⟨hlt.1,hlt.2.1⟩ hh hk
theorem zs (i:Nat) {t ty:Nat} {ps:String} {af:Array Edge} {x v:Operand} {te:TE} {b j:Nat} {cs us cs':List Value} {t':TypeId} {u:Value} {L':List Ch} (h:SH w0 w L)
  (hh:(L[i]?,opv e x,opv e v,cellsL u,tab.get t,Nat.beq us.length te.size,Nat.ble (j+us.length) cs.length,ones us,splN cs j us,setN L i (Ch.box b cs' t'))=(some (Ch.box b cs t'),some (.pointer (some ⟨b,j,none⟩)),some u,us,some te,true,true,true,some cs',some L'))
  (hk:∀ w',SH w0 w' L'→Run Tryz.prog n Q (.ops all l::k) e w'):Run Tryz.prog n Q (.ops all (⟨none,.store t x v,ty,ps,af,none⟩::l)::k) e w:=by
 simp only [Prod.mk.injEq] at hh
 obtain ⟨h1,h2,h3,h4,h5,h6,h7,h8,h9,h10⟩:=hh
 subst h4
 have e1:=qsT h9
 have e2:=quX h10
 subst e1 e2
 exact qx2 qa i h h1 h2 h3 h5 h6 h7 h8 hk
end
section
variable {P:Program} {fnc:Func} {R:Ending→World→Prop} {n:Nat} {k:List It} {e:Env} {w0 w:World} {ops:Array Oper} {st:List Nat} {fuel:Nat}
theorem M0 (K:Nat) (is:List Nat) {C:World→Prop} {m K0 f f':Nat} {e':Env} {z:List Nat} (hC:C w) (hh:xa tab n ops is [] f e [] []=some (f',e',z,z))
  (hk:RunA Tryz.prog n (bodyPost Tryz.prog fnc R) k ops st C f' (bits m K) e' w) (ho:oka ops st is (bits m K0) (bits m K)=true:=by kernel_rfl):RunA Tryz.prog n (bodyPost Tryz.prog fnc R) k ops st C f (bits m K0) e w:=by
 exact ((qtk (C:=C) (w:=w) (P:=Tryz.prog) qa hC is _ _ _ _ _ _ _ _ _ _ _ (fun _ h=>by cases h) rfl hh ho).2 rfl).2 hk
theorem G0 (K:Nat) (is:List Nat) {C:World→Prop} {m K0 f f':Nat} {e':Env} {z:List Nat} {all:Array Oper} (hC:C w) (hh:xa tab n ops is [] f e [] []=some (f',e',z,z))
  (hk:RunA Tryz.prog n (bodyPost Tryz.prog fnc R) k ops st C f' (bits m K) e' w) (ho:oka ops st is (bits m K0) (bits m K)=true:=by kernel_rfl):Run Tryz.prog n (bodyPost Tryz.prog fnc R) (.ops all []::.goal (NextA Tryz.prog n (bodyPost Tryz.prog fnc R) k ops st C f (bits m K0))::k) e w :=
 Ag hC (M0 K is (C:=C) hC hh hk ho)
theorem M1 (K:Nat) (is:List Nat) (i0:Nat) {b0 t0:Nat} {cs0:List Value} {LA:List Ch} {m K0 f f':Nat} {e':Env} {z:List Nat} (hC:SH w0 w LA) (hh:(LA[i0]?,xa tab n ops is [(b0,cs0)] f e [] [])=(some (Ch.box b0 cs0 t0),some (f',e',z,z)))
  (hk:RunA Tryz.prog n (bodyPost Tryz.prog fnc R) k ops st (fun w'=>SH w0 w' LA) f' (bits m K) e' w) (ho:oka ops st is (bits m K0) (bits m K)=true:=by kernel_rfl):RunA Tryz.prog n (bodyPost Tryz.prog fnc R) k ops st (fun w'=>SH w0 w' LA) f (bits m K0) e w:=by
 simp only [Prod.mk.injEq] at hh
 exact ((qtk (C:=(fun w'=>SH w0 w' LA)) (w:=w) (P:=Tryz.prog) qa hC is _ _ _ _ _ _ _ _ _ _ _ (fun p hp w1 hw=>by
  simp only [jV,jN,or_false] at hp
  rcases hp with rfl
  ·exact SH.box hw i0 hh.1) rfl hh.2 ho).2 rfl).2 hk
theorem M2 (K:Nat) (is:List Nat) (i0 i1:Nat) {b0 t0:Nat} {cs0:List Value} {b1 t1:Nat} {cs1:List Value} {LA:List Ch} {m K0 f f':Nat} {e':Env} {z:List Nat} (hC:SH w0 w LA) (hh:(LA[i0]?,LA[i1]?,xa tab n ops is [(b0,cs0),(b1,cs1)] f e [] [])=(some (Ch.box b0 cs0 t0),some (Ch.box b1 cs1 t1),some (f',e',z,z)))
  (hk:RunA Tryz.prog n (bodyPost Tryz.prog fnc R) k ops st (fun w'=>SH w0 w' LA) f' (bits m K) e' w) (ho:oka ops st is (bits m K0) (bits m K)=true:=by kernel_rfl):RunA Tryz.prog n (bodyPost Tryz.prog fnc R) k ops st (fun w'=>SH w0 w' LA) f (bits m K0) e w:=by
 simp only [Prod.mk.injEq] at hh
 exact ((qtk (C:=(fun w'=>SH w0 w' LA)) (w:=w) (P:=Tryz.prog) qa hC is _ _ _ _ _ _ _ _ _ _ _ (fun p hp w1 hw=>by
  simp only [jV,jN,or_false] at hp
  rcases hp with rfl|rfl
  ·exact SH.box hw i0 hh.1
  ·exact SH.box hw i1 hh.2.1) rfl hh.2.2 ho).2 rfl).2 hk
theorem M3 (K:Nat) (is:List Nat) (i0 i1 i2:Nat) {b0 t0:Nat} {cs0:List Value} {b1 t1:Nat} {cs1:List Value} {b2 t2:Nat} {cs2:List Value} {LA:List Ch} {m K0 f f':Nat} {e':Env} {z:List Nat} (hC:SH w0 w LA) (hh:(LA[i0]?,LA[i1]?,LA[i2]?,xa tab n ops is [(b0,cs0),(b1,cs1),(b2,cs2)] f e [] [])=(some (Ch.box b0 cs0 t0),some (Ch.box b1 cs1 t1),some (Ch.box b2 cs2 t2),some (f',e',z,z)))
  (hk:RunA Tryz.prog n (bodyPost Tryz.prog fnc R) k ops st (fun w'=>SH w0 w' LA) f' (bits m K) e' w) (ho:oka ops st is (bits m K0) (bits m K)=true:=by kernel_rfl):RunA Tryz.prog n (bodyPost Tryz.prog fnc R) k ops st (fun w'=>SH w0 w' LA) f (bits m K0) e w:=by
 simp only [Prod.mk.injEq] at hh
 exact ((qtk (C:=(fun w'=>SH w0 w' LA)) (w:=w) (P:=Tryz.prog) qa hC is _ _ _ _ _ _ _ _ _ _ _ (fun p hp w1 hw=>by
  simp only [jV,jN,or_false] at hp
  rcases hp with rfl|rfl|rfl
  ·exact SH.box hw i0 hh.1
  ·exact SH.box hw i1 hh.2.1
  ·exact SH.box hw i2 hh.2.2.1) rfl hh.2.2.2 ho).2 rfl).2 hk
theorem M4 (K:Nat) (is:List Nat) (i0 i1 i2 i3:Nat) {b0 t0:Nat} {cs0:List Value} {b1 t1:Nat} {cs1:List Value} {b2 t2:Nat} {cs2:List Value} {b3 t3:Nat} {cs3:List Value} {LA:List Ch} {m K0 f f':Nat} {e':Env} {z:List Nat} (hC:SH w0 w LA) (hh:(LA[i0]?,LA[i1]?,LA[i2]?,LA[i3]?,xa tab n ops is [(b0,cs0),(b1,cs1),(b2,cs2),(b3,cs3)] f e [] [])=(some (Ch.box b0 cs0 t0),some (Ch.box b1 cs1 t1),some (Ch.box b2 cs2 t2),some (Ch.box b3 cs3 t3),some (f',e',z,z)))
  (hk:RunA Tryz.prog n (bodyPost Tryz.prog fnc R) k ops st (fun w'=>SH w0 w' LA) f' (bits m K) e' w) (ho:oka ops st is (bits m K0) (bits m K)=true:=by kernel_rfl):RunA Tryz.prog n (bodyPost Tryz.prog fnc R) k ops st (fun w'=>SH w0 w' LA) f (bits m K0) e w:=by
 simp only [Prod.mk.injEq] at hh
 exact ((qtk (C:=(fun w'=>SH w0 w' LA)) (w:=w) (P:=Tryz.prog) qa hC is _ _ _ _ _ _ _ _ _ _ _ (fun p hp w1 hw=>by
  simp only [jV,jN,or_false] at hp
  rcases hp with rfl|rfl|rfl|rfl
  ·exact SH.box hw i0 hh.1
  ·exact SH.box hw i1 hh.2.1
  ·exact SH.box hw i2 hh.2.2.1
  ·exact SH.box hw i3 hh.2.2.2.1) rfl hh.2.2.2.2 ho).2 rfl).2 hk
theorem Aw (i K:Nat) {C:World→Prop} {m K0 d:Nat} {op:Op} {t:Nat} {ps:String} {af:Array Edge} {v:Value} (hv:∀ w',C w'→Val Tryz.prog n e ⟨some d,op,t,ps,af,none⟩ w' v) (hC:C w) (hh:(ops[i]?,Nat.blt d n)=(some (⟨some d,op,t,ps,af,none⟩:Oper),true))
  (hk:RunA Tryz.prog n (bodyPost Tryz.prog fnc R) k ops st C fuel (bits m K) ((d,v)::e) w) (hl:(bits m K0).setIfInBounds i true=bits m K:=by kernel_rfl)
  (hb:(Region.noSelect ops&&Region.free .any ops (bits m K0) i&&(Region.ready .any ops (bits m K0)).contains i&&st.all (fun s=>!(Nat.beq s i)&&waitsB ops i s&&!((bits m K0).getD s true)))=true:=by kernel_rfl) :
  RunA Tryz.prog n (bodyPost Tryz.prog fnc R) k ops st C (fuel+1) (bits m K0) e w:=by
 simp only [Prod.mk.injEq] at hh
 exact qjX i hh.1 _ hl hb hv hC hh.2 hk
theorem Al (i K j:Nat) {LA:List Ch} {m K0 d t ty b o:Nat} {x:Operand} {te:TE} {ps:String} {af:Array Edge} {v:Value} {cs:List Value} (hc:CellsAt w0 b o cs) (hC:SH w0 w LA)
  (hh:(ops[i]?,opv e x,tab.get t,ld te cs j,Nat.blt d n)=(some (⟨some d,.load t x,ty,ps,af,none⟩:Oper),some (.pointer (some ⟨b,o+j,none⟩)),some te,some v,true))
  (hk:RunA Tryz.prog n (bodyPost Tryz.prog fnc R) k ops st (fun w'=>SH w0 w' LA) fuel (bits m K) ((d,v)::e) w) (hl:(bits m K0).setIfInBounds i true=bits m K:=by kernel_rfl)
  (hb:(Region.noSelect ops&&Region.free .any ops (bits m K0) i&&(Region.ready .any ops (bits m K0)).contains i&&st.all (fun s=>!(Nat.beq s i)&&waitsB ops i s&&!((bits m K0).getD s true)))=true:=by kernel_rfl) :
  RunA Tryz.prog n (bodyPost Tryz.prog fnc R) k ops st (fun w'=>SH w0 w' LA) (fuel+1) (bits m K0) e w:=by
 simp only [Prod.mk.injEq] at hh
 exact qjX i hh.1 _ hl hb (fun w' hw=>qhq qa (hc.below hw.below) (j:=j) hh.2.1 hh.2.2.1 hh.2.2.2.1) hC hh.2.2.2.2 hk
theorem Ax (i K:Nat) {C:World→Prop} {m K0 d t ty el q:Nat} {x ix:Operand} {te te1:TE} {ps:String} {af:Array Edge} {p:Option Addr} {ln c sz:Nat} {kd:IntKind} {iv:Int} {b o:Nat} (hp:p=some ⟨b,o,none⟩) (hq:q=o+iv.toNat*sz) (hlt:0≤iv∧iv<ln) (hC:C w)
  (hh:(ops[i]?,opv e x,opv e ix,tab.get t,te.kind,tab.get el,te1.size,Nat.blt d n)=(some (⟨some d,.indexAddr t x ix,ty,ps,af,none⟩:Oper),some (.slice p ln c),some (.int kd iv),some te,TK.slice el,some te1,sz,true))
  (hk:RunA Tryz.prog n (bodyPost Tryz.prog fnc R) k ops st C fuel (bits m K) ((d,.pointer (some ⟨b,q,none⟩))::e) w) (hl:(bits m K0).setIfInBounds i true=bits m K:=by kernel_rfl)
  (hb:(Region.noSelect ops&&Region.free .any ops (bits m K0) i&&(Region.ready .any ops (bits m K0)).contains i&&st.all (fun s=>!(Nat.beq s i)&&waitsB ops i s&&!((bits m K0).getD s true)))=true:=by kernel_rfl) :
  RunA Tryz.prog n (bodyPost Tryz.prog fnc R) k ops st C (fuel+1) (bits m K0) e w:=by
 simp only [Prod.mk.injEq] at hh
 exact qjX i hh.1 _ hl hb (fun w' _=>qt1 qa hp hq hlt hh.2.1 hh.2.2.1 hh.2.2.2.1 hh.2.2.2.2.1 hh.2.2.2.2.2.1 hh.2.2.2.2.2.2.1) hC hh.2.2.2.2.2.2.2 hk
theorem Ae (i K:Nat) {C:World→Prop} {m K0 d t ty el q:Nat} {x ix:Operand} {te te1:TE} {ps:String} {af:Array Edge} {p:Option Addr} {ln c sz:Nat} {kd:IntKind} {iv:Int} {b o:Nat} {α:Prop} (hp:p=some ⟨b,o,none⟩) (hq:q=o+iv.toNat*sz) (hlt:0≤iv∧iv<ln∧α) (hC:C w)
  (hh:(ops[i]?,opv e x,opv e ix,tab.get t,te.kind,tab.get el,te1.size,Nat.blt d n)=(some (⟨some d,.indexAddr t x ix,ty,ps,af,none⟩:Oper),some (.slice p ln c),some (.int kd iv),some te,TK.slice el,some te1,sz,true))
  (hk:RunA Tryz.prog n (bodyPost Tryz.prog fnc R) k ops st C fuel (bits m K) ((d,.pointer (some ⟨b,q,none⟩))::e) w) (hl:(bits m K0).setIfInBounds i true=bits m K:=by kernel_rfl)
  (hb:(Region.noSelect ops&&Region.free .any ops (bits m K0) i&&(Region.ready .any ops (bits m K0)).contains i&&st.all (fun s=>!(Nat.beq s i)&&waitsB ops i s&&!((bits m K0).getD s true)))=true:=by kernel_rfl) :
  RunA Tryz.prog n (bodyPost Tryz.prog fnc R) k ops st C (fuel+1) (bits m K0) e w:=Ax i K hp hq ⟨hlt.1,hlt.2.1⟩ hC hh hk hl hb
theorem rb {fn:Func} {L:List Ch} {x r:Bool} (h:SH w0 w L) (hF:some x=some r) (hr:res1 e fn.results.toList=some (.bool x)) :
  Run Tryz.prog n (bodyPost Tryz.prog fn fun e w'=>∃ v,e=.returned v∧Below w0.heap.size w0 w'∧∃ us,v=tup us∧GoVs.Vs w' (fresh w0 w') r us) (.code .ret::k) e w:=qzk qa h hF (qu3 hr)
theorem ri {fn:Func} {L:List Ch} {x r:Int} (h:SH w0 w L) (hF:some x=some r) (hr:res1 e fn.results.toList=some (.int .i64 x)) :
  Run Tryz.prog n (bodyPost Tryz.prog fn fun e w'=>∃ v,e=.returned v∧Below w0.heap.size w0 w'∧∃ us,v=tup us∧GoVs.Vs w' (fresh w0 w') r us) (.code .ret::k) e w:=qzl qa h hF (qu3 hr)
theorem rO {fn:Func} {L:List Ch} {α:Type} [GoT α] {r:α} {S:Nat→Prop} {cs:List Value} (i:Nat) (h:SH w0 w L) (hi:L[i]?=some (Ch.own S r cs)) (hr:ResOk tab e w fn.results.toList [GoT.v α cs]) :
  Run Tryz.prog n (bodyPost Tryz.prog fn fun e w'=>∃ v,e=.returned v∧Below w0.heap.size w0 w'∧∃ us,v=tup us∧GoVs.Vs w' (fresh w0 w') r us) (.code .ret::k) e w:=qU qa _ h hr (PV.done h (qW (qaN i h hi)))
theorem zV {ρ:Type} [GoVs ρ] {f:FuncId} {fn:Func} {c:Code} {vs:List Value} {r:ρ} (m:Nat) (hf:Tryz.prog.funcs[f]?=some fn) (hh:(fn.body,fn.ntmps,Nat.ble vs.length m)=(some c,m,true))
  (h:SH w w []→Run Tryz.prog m (bodyPost Tryz.prog fn fun e w'=>∃ v,e=.returned v∧Below w.heap.size w w'∧∃ us,v=tup us∧GoVs.Vs w' (fresh w w') r us) [.code c] (argEnv 0 vs) w):RetV Tryz.prog f vs w r:=by
 simp only [Prod.mk.injEq] at hh
 exact qs6 hf hh.1 hh.2.1 hh.2.2 h
end
section
variable {w0 w:World} {L:List Ch} {n:Nat} {Q:Exit→Act→World→Prop} {k:List It} {e:Env} {all:Array Oper} {l:List Oper} {d ty:Nat} {ps:String} {af:Array Edge} {x:Operand} {args:Array Operand} {ats:Array TypeId} {f:FuncId} {fi ca:Array Value} {av vs:List Value} {β:Type} {rr:β}
theorem zcI {F:Option Int} {g:Int→Option β} (h:SH w0 w L) (hF:F.bind g=some rr) (hc:∀ {r},F=some r→RetV Tryz.prog f vs w r)
  (hh:(opv e x,opvs e args.toList,fi.toList++av++ca.toList,Nat.blt d n)=(some (.func (.func f) fi ca),some av,vs,true))
  (hk:∀ r w' ,SH w0 w' (L)→g r=some rr→Run Tryz.prog n Q (.ops all l::k) ((d,.int .i64 r)::e) w') (hcall:qfu Tryz.prog f:=by exact cA rfl):Run Tryz.prog n Q (.ops all (⟨some d,.call ⟨.value x,args,ats⟩,ty,ps,af,none⟩::l)::k) e w:=by
 obtain ⟨r,hr,hF⟩:=qc hF
 simp only [Prod.mk.injEq] at hh
 exact qcg r h hcall (hc hr) hh.1 hh.2.1 hh.2.2.1 hh.2.2.2 (fun w'  h'=>hk r w'  h' hF)
theorem zcB {F:Option Bool} {g:Bool→Option β} (h:SH w0 w L) (hF:F.bind g=some rr) (hc:∀ {r},F=some r→RetV Tryz.prog f vs w r)
  (hh:(opv e x,opvs e args.toList,fi.toList++av++ca.toList,Nat.blt d n)=(some (.func (.func f) fi ca),some av,vs,true))
  (hk:∀ r w' ,SH w0 w' (L)→g r=some rr→Run Tryz.prog n Q (.ops all l::k) ((d,.bool r)::e) w') (hcall:qfu Tryz.prog f:=by exact cA rfl):Run Tryz.prog n Q (.ops all (⟨some d,.call ⟨.value x,args,ats⟩,ty,ps,af,none⟩::l)::k) e w:=by
 obtain ⟨r,hr,hF⟩:=qc hF
 simp only [Prod.mk.injEq] at hh
 exact qx6 r h hcall (hc hr) hh.1 hh.2.1 hh.2.2.1 hh.2.2.2 (fun w'  h'=>hk r w'  h' hF)
theorem zcS {F:Option ByteArray} {g:ByteArray→Option β} (h:SH w0 w L) (hF:F.bind g=some rr) (hc:∀ {r},F=some r→RetV Tryz.prog f vs w r)
  (hh:(opv e x,opvs e args.toList,fi.toList++av++ca.toList,Nat.blt d n)=(some (.func (.func f) fi ca),some av,vs,true))
  (hk:∀ r w' ,SH w0 w' (L)→g r=some rr→Run Tryz.prog n Q (.ops all l::k) ((d,.string r)::e) w') (hcall:qfu Tryz.prog f:=by exact cA rfl):Run Tryz.prog n Q (.ops all (⟨some d,.call ⟨.value x,args,ats⟩,ty,ps,af,none⟩::l)::k) e w:=by
 obtain ⟨r,hr,hF⟩:=qc hF
 simp only [Prod.mk.injEq] at hh
 exact qxV r h hcall (hc hr) hh.1 hh.2.1 hh.2.2.1 hh.2.2.2 (fun w'  h'=>hk r w'  h' hF)
theorem zcL {α:Type} [GoT α] {F:Option (List α)} {g:(List α)→Option β} (h:SH w0 w L) (hF:F.bind g=some rr) (hc:∀ {r},F=some r→RetV Tryz.prog f vs w r)
  (hh:(opv e x,opvs e args.toList,fi.toList++av++ca.toList,Nat.blt d n)=(some (.func (.func f) fi ca),some av,vs,true))
  (hk:∀ r w' S p c,SH w0 w' (Ch.own S r [.slice p r.length c]::L)→g r=some rr→Run Tryz.prog n Q (.ops all l::k) ((d,.slice p r.length c)::e) w') (hcall:qfu Tryz.prog f:=by exact cA rfl):Run Tryz.prog n Q (.ops all (⟨some d,.call ⟨.value x,args,ats⟩,ty,ps,af,none⟩::l)::k) e w:=by
 obtain ⟨r,hr,hF⟩:=qc hF
 simp only [Prod.mk.injEq] at hh
 exact qmq r h hcall (hc hr) hh.1 hh.2.1 hh.2.2.1 hh.2.2.2 (fun w' S p c h'=>hk r w' S p c h' hF)
theorem zcO {α:Type} [GoT α] {F:Option α} {g:α→Option β} (h:SH w0 w L) (hF:F.bind g=some rr) (hc:∀ {r},F=some r→RetV Tryz.prog f vs w r)
  (hh:(opv e x,opvs e args.toList,fi.toList++av++ca.toList,Nat.blt d n)=(some (.func (.func f) fi ca),some av,vs,true))
  (hk:∀ r w' S cs,SH w0 w' (Ch.own S r cs::L)→g r=some rr→Run Tryz.prog n Q (.ops all l::k) ((d,GoT.v α cs)::e) w') (hcall:qfu Tryz.prog f:=by exact cA rfl):Run Tryz.prog n Q (.ops all (⟨some d,.call ⟨.value x,args,ats⟩,ty,ps,af,none⟩::l)::k) e w:=by
 obtain ⟨r,hr,hF⟩:=qc hF
 simp only [Prod.mk.injEq] at hh
 exact qmm r h hcall (hc hr) hh.1 hh.2.1 hh.2.2.1 hh.2.2.2 (fun w' S cs h'=>hk r w' S cs h' hF)
end
def noC:List Nat:=[0,1,306,336]
theorem allC:((List.range 349).all fun f=>noC.contains f || callB Tryz.prog f)=true:=by kernel_rfl
theorem cA {f:Nat} (h:(Nat.blt f 349&&!noC.contains f)=true):qfu Tryz.prog f:=by
 rw [jf,Nat.blt_eq,jC] at h
 have:=List.all_eq_true.1 allC f (List.mem_range.2 h.1)
 rw [h.2] at this
 exact qw9 this
theorem cB (f:Nat) (h:(Nat.blt f 349&&!noC.contains f)=true):qfu Tryz.prog f:=cA h
def qce (_:Nat) (a:(List Int)) (left:Int):Option Int :=
 bif decide ((W64 (left-(a.length:Int)))<0) then some (-1) else
 some (W64 (left-(a.length:Int)))
theorem qbU {a:(List Int)} {left:Int} (ha1:GoT.R w (old w) a cs1) {r:Int} (hF:qce n a left=some r):RetV Tryz.prog 196 [GoT.v (List Int) cs1,.int .i64 left] w r:=by
 obtain ⟨p1,k1,rfl,s1⟩:=ha1
 refine zV 12 Tryz.func196 rfl fun h=>X0 18 rfl (qi rfl hF ?_ ?_)<;>intro hF
 ·exact X0 4 rfl (ri h hF rfl)
 exact X0 6 rfl (ri h hF rfl)
def qkA (_:Nat) (a:qax) (left:Int):Option Int :=
 bif decide ((W64 (left-(a.Az.size:Int)))<0) then some (-1) else
 some (W64 (left-(a.Az.size:Int)))
theorem qrD {a:qax} {left:Int} (ha1:GoT.R w (old w) a cs1) {r:Int} (hF:qkA n a left=some r):RetV Tryz.prog 287 [GoT.v qax cs1,.int .i64 left] w r:=by
 obtain rfl:=qby ha1
 refine zV 13 Tryz.func287 rfl fun h=>zSR (qt h rfl rfl fun w1 bb1 h=>X1 17 0 h rfl (qi rfl hF ?_ ?_))<;>intro hF
 ·exact X0 4 rfl (ri h hF rfl)
 exact X0 6 rfl (ri h hF rfl)
def qfj (a:(List qax)):Nat→Int→Int→Option (Flow Int (Int × Int))
 | 0,_,_=>none
 | n+1,i1,i2 =>
  bif decide (i2<(a.length:Int)) then
   (idx a i2).bind fun y1 =>
   (qkA n y1 i1).bind fun r1 =>
   bif decide (r1<0) then some (.ret (-1)) else
   qfj a n r1 (W64 (i2+1))
  else
   some (.nxt (i1,i2))
def qnw (n:Nat) (a:(List qax)) (left:Int):Option Int :=
 bif decide ((W64 (left-(a.length:Int)))<0) then some (-1) else
 (qfj a n (W64 (left-(a.length:Int))) 0).bind fun o=>match o with
 | .ret r=>some r
 | .nxt (i1,_) =>
  some i1
theorem qqv {a:(List qax)} {left:Int} (ha1:GoT.R w (old w) a cs1) {r:Int} (hF:qnw n a left=some r):RetV Tryz.prog 250 [GoT.v (List qax) cs1,.int .i64 left] w r:=by
 obtain ⟨p1,k1,rfl,s1⟩:=ha1
 refine zV 27 Tryz.func250 rfl fun h=>X0 18 rfl (qi rfl hF ?_ ?_)<;>intro hF
 ·exact X0 4 rfl (ri h hF rfl)
 refine X0 6 rfl ?_
 obtain ⟨o1,hF,hK1⟩:=qc hF
 refine qm (rL (fun m e w'=>∃ (i1:Int) (i2:Int),qfj a m i1 i2=some o1∧e=[(0,.slice p1 a.length k1),(1,.int .i64 i1),(5,.int .i64 i2)]∧SH w w' []) n ⟨_,_,hF,rfl,h⟩ rfl ?_)
 rintro m1 e1 w1 ⟨i1,i2,hF,rfl,h⟩
 rcases m1 with _|m1
 ·cases hF
 refine X0 8 rfl (qi rfl hF ?_ ?_)<;>intro hF
 ·refine X0 7 rfl ?_
  obtain ⟨y1,hy1,hF,he1,b1,_,q1,cs2,hp1,hq1,hr1,hc3⟩:=s1.ix hF
  obtain rfl:=qby hr1
  refine zxe hp1 hq1 he1 rfl (zc 0 (hc3.below h.below) rfl (zp1 rfl (zcI h hF (qrD (qjH y1)) rfl fun r1 w2 h hF=>X0 7 rfl (qi rfl hF ?_ ?_))))<;>intro hF
  ·refine X0 4 rfl ?_
   obtain rfl:=qb hF;replace hF:=hK1
   exact ri h hF rfl
  exact X0 7 rfl (rK ⟨_,_,hF,rfl,h⟩ rfl)
 refine qr rfl ?_
 obtain rfl:=qb hF;replace hF:=hK1
 exact X0 5 rfl (ri h hF rfl)
def qiC (n:Nat) (a:qw) (left:Int):Option Int :=
 (qce n a.Bi left).bind fun r1 =>
 bif decide (r1<0) then some (-1) else
 (qce n a.Bc r1).bind fun r2 =>
 bif decide (r2<0) then some (-1) else
 (qce n a.Ba r2).bind fun r3 =>
 bif decide (r3<0) then some (-1) else
 some r3
theorem qpU {a:qw} {left:Int} (ha1:GoT.R w (old w) a cs1) {r:Int} (hF:qiC n a left=some r):RetV Tryz.prog 325 [GoT.v qw cs1,.int .i64 left] w r:=by
 obtain ⟨p1,k1,p2,k2,p3,k3,rfl,s1,s2,s3⟩:=qaH ha1
 refine zV 24 Tryz.func325 rfl fun h=>zSR (qt h rfl rfl fun w1 bb1 h=>X1 7 0 h rfl (zcI h hF (qbU ⟨_,_,rfl,(h.oldS s1)⟩) rfl fun r1 w2 h hF=>X0 8 rfl (qi rfl hF ?_ ?_)))<;>intro hF
 ·exact X0 4 rfl (ri h hF rfl)
 refine X1 6 0 h rfl (zcI h hF (qbU ⟨_,_,rfl,(h.oldS s2)⟩) rfl fun r2 w3 h hF=>X0 8 rfl (qi rfl hF ?_ ?_))<;>intro hF
 ·exact X0 4 rfl (ri h hF rfl)
 refine X1 6 0 h rfl (zcI h hF (qbU ⟨_,_,rfl,(h.oldS s3)⟩) rfl fun r3 w4 h hF=>X0 8 rfl (qi rfl hF ?_ ?_))<;>intro hF
 ·exact X0 4 rfl (ri h hF rfl)
 exact X0 6 rfl (ri h hF rfl)
def qd7 (a:(List qw)):Nat→Int→Int→Option (Flow Int (Int × Int))
 | 0,_,_=>none
 | n+1,i1,i2 =>
  bif decide (i2<(a.length:Int)) then
   (idx a i2).bind fun y1 =>
   (qiC n y1 i1).bind fun r1 =>
   bif decide (r1<0) then some (.ret (-1)) else
   qd7 a n r1 (W64 (i2+1))
  else
   some (.nxt (i1,i2))
def qjo (n:Nat) (a:(List qw)) (left:Int):Option Int :=
 bif decide ((W64 (left-(a.length:Int)))<0) then some (-1) else
 (qd7 a n (W64 (left-(a.length:Int))) 0).bind fun o=>match o with
 | .ret r=>some r
 | .nxt (i1,_) =>
  some i1
theorem ql9 {a:(List qw)} {left:Int} (ha1:GoT.R w (old w) a cs1) {r:Int} (hF:qjo n a left=some r):RetV Tryz.prog 310 [GoT.v (List qw) cs1,.int .i64 left] w r:=by
 obtain ⟨p1,k1,rfl,s1⟩:=ha1
 refine zV 27 Tryz.func310 rfl fun h=>X0 18 rfl (qi rfl hF ?_ ?_)<;>intro hF
 ·exact X0 4 rfl (ri h hF rfl)
 refine X0 6 rfl ?_
 obtain ⟨o1,hF,hK1⟩:=qc hF
 refine qm (rL (fun m e w'=>∃ (i1:Int) (i2:Int),qd7 a m i1 i2=some o1∧e=[(0,.slice p1 a.length k1),(1,.int .i64 i1),(5,.int .i64 i2)]∧SH w w' []) n ⟨_,_,hF,rfl,h⟩ rfl ?_)
 rintro m1 e1 w1 ⟨i1,i2,hF,rfl,h⟩
 rcases m1 with _|m1
 ·cases hF
 refine X0 8 rfl (qi rfl hF ?_ ?_)<;>intro hF
 ·refine X0 7 rfl ?_
  obtain ⟨y1,hy1,hF,he1,b1,_,q1,cs2,hp1,hq1,hr1,hc3⟩:=s1.ix hF
  obtain ⟨p2,k2,p3,k3,p4,k4,rfl,s2,s3,s4⟩:=qaH hr1
  refine zxe hp1 hq1 he1 rfl (zc 0 (hc3.below h.below) rfl (zp1 rfl (zcI h hF (qpU (qe8 y1 (h.oldS s2) (h.oldS s3) (h.oldS s4))) rfl fun r1 w2 h hF=>X0 7 rfl (qi rfl hF ?_ ?_))))<;>intro hF
  ·refine X0 4 rfl ?_
   obtain rfl:=qb hF;replace hF:=hK1
   exact ri h hF rfl
  exact X0 7 rfl (rK ⟨_,_,hF,rfl,h⟩ rfl)
 refine qr rfl ?_
 obtain rfl:=qb hF;replace hF:=hK1
 exact X0 5 rfl (ri h hF rfl)
def qkX (n:Nat) (a:qS) (left:Int):Option Int :=
 (qjo n a.Bl left).bind fun r1 =>
 bif decide (r1<0) then some (-1) else
 (qjo n a.Av r1).bind fun r2 =>
 bif decide (r2<0) then some (-1) else
 some r2
theorem qrF {a:qS} {left:Int} (ha1:GoT.R w (old w) a cs1) {r:Int} (hF:qkX n a left=some r):RetV Tryz.prog 288 [GoT.v qS cs1,.int .i64 left] w r:=by
 obtain ⟨p1,k1,p2,k2,rfl,s1,s2⟩:=qai ha1
 refine zV 18 Tryz.func288 rfl fun h=>zSR (qt h rfl rfl fun w1 bb1 h=>X1 7 0 h rfl (zcI h hF (ql9 ⟨_,_,rfl,(h.oldS s1)⟩) rfl fun r1 w2 h hF=>X0 8 rfl (qi rfl hF ?_ ?_)))<;>intro hF
 ·exact X0 4 rfl (ri h hF rfl)
 refine X1 6 0 h rfl (zcI h hF (ql9 ⟨_,_,rfl,(h.oldS s2)⟩) rfl fun r2 w3 h hF=>X0 8 rfl (qi rfl hF ?_ ?_))<;>intro hF
 ·exact X0 4 rfl (ri h hF rfl)
 exact X0 6 rfl (ri h hF rfl)
def qfz (a:(List qS)):Nat→Int→Int→Option (Flow Int (Int × Int))
 | 0,_,_=>none
 | n+1,i1,i2 =>
  bif decide (i2<(a.length:Int)) then
   (idx a i2).bind fun y1 =>
   (qkX n y1 i1).bind fun r1 =>
   bif decide (r1<0) then some (.ret (-1)) else
   qfz a n r1 (W64 (i2+1))
  else
   some (.nxt (i1,i2))
def qnx (n:Nat) (a:(List qS)) (left:Int):Option Int :=
 bif decide ((W64 (left-(a.length:Int)))<0) then some (-1) else
 (qfz a n (W64 (left-(a.length:Int))) 0).bind fun o=>match o with
 | .ret r=>some r
 | .nxt (i1,_) =>
  some i1
theorem qqL {a:(List qS)} {left:Int} (ha1:GoT.R w (old w) a cs1) {r:Int} (hF:qnx n a left=some r):RetV Tryz.prog 251 [GoT.v (List qS) cs1,.int .i64 left] w r:=by
 obtain ⟨p1,k1,rfl,s1⟩:=ha1
 refine zV 27 Tryz.func251 rfl fun h=>X0 18 rfl (qi rfl hF ?_ ?_)<;>intro hF
 ·exact X0 4 rfl (ri h hF rfl)
 refine X0 6 rfl ?_
 obtain ⟨o1,hF,hK1⟩:=qc hF
 refine qm (rL (fun m e w'=>∃ (i1:Int) (i2:Int),qfz a m i1 i2=some o1∧e=[(0,.slice p1 a.length k1),(1,.int .i64 i1),(5,.int .i64 i2)]∧SH w w' []) n ⟨_,_,hF,rfl,h⟩ rfl ?_)
 rintro m1 e1 w1 ⟨i1,i2,hF,rfl,h⟩
 rcases m1 with _|m1
 ·cases hF
 refine X0 8 rfl (qi rfl hF ?_ ?_)<;>intro hF
 ·refine X0 7 rfl ?_
  obtain ⟨y1,hy1,hF,he1,b1,_,q1,cs2,hp1,hq1,hr1,hc3⟩:=s1.ix hF
  obtain ⟨p2,k2,p3,k3,rfl,s2,s3⟩:=qai hr1
  refine zxe hp1 hq1 he1 rfl (zc 0 (hc3.below h.below) rfl (zp1 rfl (zcI h hF (qrF (qfp y1 (h.oldS s2) (h.oldS s3))) rfl fun r1 w2 h hF=>X0 7 rfl (qi rfl hF ?_ ?_))))<;>intro hF
  ·refine X0 4 rfl ?_
   obtain rfl:=qb hF;replace hF:=hK1
   exact ri h hF rfl
  exact X0 7 rfl (rK ⟨_,_,hF,rfl,h⟩ rfl)
 refine qr rfl ?_
 obtain rfl:=qb hF;replace hF:=hK1
 exact X0 5 rfl (ri h hF rfl)
def qjK (n:Nat) (a:qC) (left:Int):Option Int :=
 bif decide ((W64 (left-(a.Az.size:Int)))<0) then some (-1) else
 (qnw n a.Ay (W64 (left-(a.Az.size:Int)))).bind fun r1 =>
 bif decide (r1<0) then some (-1) else
 (qnx n a.Am r1).bind fun r2 =>
 bif decide (r2<0) then some (-1) else
 (qce n a.Bn r2).bind fun r3 =>
 bif decide (r3<0) then some (-1) else
 some r3
theorem qqG {a:qC} {left:Int} (ha1:GoT.R w (old w) a cs1) {r:Int} (hF:qjK n a left=some r):RetV Tryz.prog 193 [GoT.v qC cs1,.int .i64 left] w r:=by
 obtain ⟨p1,k1,p2,k2,p3,k3,rfl,s1,s2,s3⟩:=qaf ha1
 refine zV 31 Tryz.func193 rfl fun h=>zSR (qt h rfl rfl fun w1 bb1 h=>X1 17 0 h rfl (qi rfl hF ?_ ?_))<;>intro hF
 ·exact X0 4 rfl (ri h hF rfl)
 refine X1 6 0 h rfl (zcI h hF (qqv ⟨_,_,rfl,(h.oldS s1)⟩) rfl fun r1 w2 h hF=>X0 8 rfl (qi rfl hF ?_ ?_))<;>intro hF
 ·exact X0 4 rfl (ri h hF rfl)
 refine X1 6 0 h rfl (zcI h hF (qqL ⟨_,_,rfl,(h.oldS s2)⟩) rfl fun r2 w3 h hF=>X0 8 rfl (qi rfl hF ?_ ?_))<;>intro hF
 ·exact X0 4 rfl (ri h hF rfl)
 refine X1 6 0 h rfl (zcI h hF (qbU ⟨_,_,rfl,(h.oldS s3)⟩) rfl fun r3 w4 h hF=>X0 8 rfl (qi rfl hF ?_ ?_))<;>intro hF
 ·exact X0 4 rfl (ri h hF rfl)
 exact X0 6 rfl (ri h hF rfl)
def qeC (a:(List qC)):Nat→Int→Int→Option (Flow Int (Int × Int))
 | 0,_,_=>none
 | n+1,i1,i2 =>
  bif decide (i2<(a.length:Int)) then
   (idx a i2).bind fun y1 =>
   (qjK n y1 i1).bind fun r1 =>
   bif decide (r1<0) then some (.ret (-1)) else
   qeC a n r1 (W64 (i2+1))
  else
   some (.nxt (i1,i2))
def qma (n:Nat) (a:(List qC)) (left:Int):Option Int :=
 bif decide ((W64 (left-(a.length:Int)))<0) then some (-1) else
 (qeC a n (W64 (left-(a.length:Int))) 0).bind fun o=>match o with
 | .ret r=>some r
 | .nxt (i1,_) =>
  some i1
theorem qpT {a:(List qC)} {left:Int} (ha1:GoT.R w (old w) a cs1) {r:Int} (hF:qma n a left=some r):RetV Tryz.prog 115 [GoT.v (List qC) cs1,.int .i64 left] w r:=by
 obtain ⟨p1,k1,rfl,s1⟩:=ha1
 refine zV 27 Tryz.func115 rfl fun h=>X0 18 rfl (qi rfl hF ?_ ?_)<;>intro hF
 ·exact X0 4 rfl (ri h hF rfl)
 refine X0 6 rfl ?_
 obtain ⟨o1,hF,hK1⟩:=qc hF
 refine qm (rL (fun m e w'=>∃ (i1:Int) (i2:Int),qeC a m i1 i2=some o1∧e=[(0,.slice p1 a.length k1),(1,.int .i64 i1),(5,.int .i64 i2)]∧SH w w' []) n ⟨_,_,hF,rfl,h⟩ rfl ?_)
 rintro m1 e1 w1 ⟨i1,i2,hF,rfl,h⟩
 rcases m1 with _|m1
 ·cases hF
 refine X0 8 rfl (qi rfl hF ?_ ?_)<;>intro hF
 ·refine X0 7 rfl ?_
  obtain ⟨y1,hy1,hF,he1,b1,_,q1,cs2,hp1,hq1,hr1,hc3⟩:=s1.ix hF
  obtain ⟨p2,k2,p3,k3,p4,k4,rfl,s2,s3,s4⟩:=qaf hr1
  refine zxe hp1 hq1 he1 rfl (zc 0 (hc3.below h.below) rfl (zp1 rfl (zcI h hF (qqG (qkr y1 (h.oldS s2) (h.oldS s3) (h.oldS s4))) rfl fun r1 w2 h hF=>X0 7 rfl (qi rfl hF ?_ ?_))))<;>intro hF
  ·refine X0 4 rfl ?_
   obtain rfl:=qb hF;replace hF:=hK1
   exact ri h hF rfl
  exact X0 7 rfl (rK ⟨_,_,hF,rfl,h⟩ rfl)
 refine qr rfl ?_
 obtain rfl:=qb hF;replace hF:=hK1
 exact X0 5 rfl (ri h hF rfl)
def qiI (n:Nat) (a:qv) (left:Int):Option Int :=
 (qma n a.Ap left).bind fun r1 =>
 bif decide (r1<0) then some (-1) else
 some r1
theorem qos {a:qv} {left:Int} (ha1:GoT.R w (old w) a cs1) {r:Int} (hF:qiI n a left=some r):RetV Tryz.prog 41 [GoT.v qv cs1,.int .i64 left] w r:=by
 obtain ⟨p1,k1,rfl,s1⟩:=qbF ha1
 refine zV 12 Tryz.func41 rfl fun h=>zSR (qt h rfl rfl fun w1 bb1 h=>X1 7 0 h rfl (zcI h hF (qpT ⟨_,_,rfl,(h.oldS s1)⟩) rfl fun r1 w2 h hF=>X0 8 rfl (qi rfl hF ?_ ?_)))<;>intro hF
 ·exact X0 4 rfl (ri h hF rfl)
 exact X0 6 rfl (ri h hF rfl)
def qf5 (n:Nat) (a:qp) (left:Int):Option Int :=
 bif decide ((W64 (left-(a.Az.size:Int)))<0) then some (-1) else
 (qce n a.Ai (W64 (left-(a.Az.size:Int)))).bind fun r1 =>
 bif decide (r1<0) then some (-1) else
 some r1
theorem qn7 {a:qp} {left:Int} (ha1:GoT.R w (old w) a cs1) {r:Int} (hF:qf5 n a left=some r):RetV Tryz.prog 194 [GoT.v qp cs1,.int .i64 left] w r:=by
 obtain ⟨p1,k1,rfl,s1⟩:=qR ha1
 refine zV 19 Tryz.func194 rfl fun h=>zSR (qt h rfl rfl fun w1 bb1 h=>X1 17 0 h rfl (qi rfl hF ?_ ?_))<;>intro hF
 ·exact X0 4 rfl (ri h hF rfl)
 refine X1 6 0 h rfl (zcI h hF (qbU ⟨_,_,rfl,(h.oldS s1)⟩) rfl fun r1 w2 h hF=>X0 8 rfl (qi rfl hF ?_ ?_))<;>intro hF
 ·exact X0 4 rfl (ri h hF rfl)
 exact X0 6 rfl (ri h hF rfl)
def qcN (a:(List qp)):Nat→Int→Int→Option (Flow Int (Int × Int))
 | 0,_,_=>none
 | n+1,i1,i2 =>
  bif decide (i2<(a.length:Int)) then
   (idx a i2).bind fun y1 =>
   (qf5 n y1 i1).bind fun r1 =>
   bif decide (r1<0) then some (.ret (-1)) else
   qcN a n r1 (W64 (i2+1))
  else
   some (.nxt (i1,i2))
def qi2 (n:Nat) (a:(List qp)) (left:Int):Option Int :=
 bif decide ((W64 (left-(a.length:Int)))<0) then some (-1) else
 (qcN a n (W64 (left-(a.length:Int))) 0).bind fun o=>match o with
 | .ret r=>some r
 | .nxt (i1,_) =>
  some i1
theorem qnZ {a:(List qp)} {left:Int} (ha1:GoT.R w (old w) a cs1) {r:Int} (hF:qi2 n a left=some r):RetV Tryz.prog 116 [GoT.v (List qp) cs1,.int .i64 left] w r:=by
 obtain ⟨p1,k1,rfl,s1⟩:=ha1
 refine zV 27 Tryz.func116 rfl fun h=>X0 18 rfl (qi rfl hF ?_ ?_)<;>intro hF
 ·exact X0 4 rfl (ri h hF rfl)
 refine X0 6 rfl ?_
 obtain ⟨o1,hF,hK1⟩:=qc hF
 refine qm (rL (fun m e w'=>∃ (i1:Int) (i2:Int),qcN a m i1 i2=some o1∧e=[(0,.slice p1 a.length k1),(1,.int .i64 i1),(5,.int .i64 i2)]∧SH w w' []) n ⟨_,_,hF,rfl,h⟩ rfl ?_)
 rintro m1 e1 w1 ⟨i1,i2,hF,rfl,h⟩
 rcases m1 with _|m1
 ·cases hF
 refine X0 8 rfl (qi rfl hF ?_ ?_)<;>intro hF
 ·refine X0 7 rfl ?_
  obtain ⟨y1,hy1,hF,he1,b1,_,q1,cs2,hp1,hq1,hr1,hc3⟩:=s1.ix hF
  obtain ⟨p2,k2,rfl,s2⟩:=qR hr1
  refine zxe hp1 hq1 he1 rfl (zc 0 (hc3.below h.below) rfl (zp1 rfl (zcI h hF (qn7 (qgo y1 (h.oldS s2))) rfl fun r1 w2 h hF=>X0 7 rfl (qi rfl hF ?_ ?_))))<;>intro hF
  ·refine X0 4 rfl ?_
   obtain rfl:=qb hF;replace hF:=hK1
   exact ri h hF rfl
  exact X0 7 rfl (rK ⟨_,_,hF,rfl,h⟩ rfl)
 refine qr rfl ?_
 obtain rfl:=qb hF;replace hF:=hK1
 exact X0 5 rfl (ri h hF rfl)
def qdx (a:(List ByteArray)):Nat→Int→Int→Option (Flow Int (Int × Int))
 | 0,_,_=>none
 | n+1,i1,i2 =>
  bif decide (i2<(a.length:Int)) then
   (idx a i2).bind fun y1 =>
   bif decide ((W64 (i1-(y1.size:Int)))<0) then some (.ret (-1)) else
   qdx a n (W64 (i1-(y1.size:Int))) (W64 (i2+1))
  else
   some (.nxt (i1,i2))
def qkF (n:Nat) (a:(List ByteArray)) (left:Int):Option Int :=
 bif decide ((W64 (left-(a.length:Int)))<0) then some (-1) else
 (qdx a n (W64 (left-(a.length:Int))) 0).bind fun o=>match o with
 | .ret r=>some r
 | .nxt (i1,_) =>
  some i1
theorem qoH {a:(List ByteArray)} {left:Int} (ha1:GoT.R w (old w) a cs1) {r:Int} (hF:qkF n a left=some r):RetV Tryz.prog 117 [GoT.v (List ByteArray) cs1,.int .i64 left] w r:=by
 obtain ⟨p1,k1,rfl,s1⟩:=ha1
 refine zV 28 Tryz.func117 rfl fun h=>X0 18 rfl (qi rfl hF ?_ ?_)<;>intro hF
 ·exact X0 4 rfl (ri h hF rfl)
 refine X0 6 rfl ?_
 obtain ⟨o1,hF,hK1⟩:=qc hF
 refine qm (rL (fun m e w'=>∃ (i1:Int) (i2:Int),qdx a m i1 i2=some o1∧e=[(0,.slice p1 a.length k1),(1,.int .i64 i1),(5,.int .i64 i2)]∧SH w w' []) n ⟨_,_,hF,rfl,h⟩ rfl ?_)
 rintro m1 e1 w1 ⟨i1,i2,hF,rfl,h⟩
 rcases m1 with _|m1
 ·cases hF
 refine X0 8 rfl (qi rfl hF ?_ ?_)<;>intro hF
 ·refine X0 8 rfl ?_
  obtain ⟨y1,hy1,hF,he1,b1,_,q1,cs2,hp1,hq1,rfl,hc3⟩:=s1.ix hF
  refine zxe hp1 hq1 he1 rfl (zc 0 (hc3.below h.below) rfl (X0 9 rfl (qi rfl hF ?_ ?_)))<;>intro hF
  ·refine X0 4 rfl ?_
   obtain rfl:=qb hF;replace hF:=hK1
   exact ri h hF rfl
  exact X0 7 rfl (rK ⟨_,_,hF,rfl,h⟩ rfl)
 refine qr rfl ?_
 obtain rfl:=qb hF;replace hF:=hK1
 exact X0 5 rfl (ri h hF rfl)
def qjE (_:Nat) (a:qar) (left:Int):Option Int :=
 bif decide ((W64 (left-(a.Az.size:Int)))<0) then some (-1) else
 some (W64 (left-(a.Az.size:Int)))
theorem qqE {a:qar} {left:Int} (ha1:GoT.R w (old w) a cs1) {r:Int} (hF:qjE n a left=some r):RetV Tryz.prog 195 [GoT.v qar cs1,.int .i64 left] w r:=by
 obtain rfl:=qbh ha1
 refine zV 13 Tryz.func195 rfl fun h=>zSR (qt h rfl rfl fun w1 bb1 h=>X1 17 0 h rfl (qi rfl hF ?_ ?_))<;>intro hF
 ·exact X0 4 rfl (ri h hF rfl)
 exact X0 6 rfl (ri h hF rfl)
def qeH (a:(List qar)):Nat→Int→Int→Option (Flow Int (Int × Int))
 | 0,_,_=>none
 | n+1,i1,i2 =>
  bif decide (i2<(a.length:Int)) then
   (idx a i2).bind fun y1 =>
   (qjE n y1 i1).bind fun r1 =>
   bif decide (r1<0) then some (.ret (-1)) else
   qeH a n r1 (W64 (i2+1))
  else
   some (.nxt (i1,i2))
def qmi (n:Nat) (a:(List qar)) (left:Int):Option Int :=
 bif decide ((W64 (left-(a.length:Int)))<0) then some (-1) else
 (qeH a n (W64 (left-(a.length:Int))) 0).bind fun o=>match o with
 | .ret r=>some r
 | .nxt (i1,_) =>
  some i1
theorem qqk {a:(List qar)} {left:Int} (ha1:GoT.R w (old w) a cs1) {r:Int} (hF:qmi n a left=some r):RetV Tryz.prog 118 [GoT.v (List qar) cs1,.int .i64 left] w r:=by
 obtain ⟨p1,k1,rfl,s1⟩:=ha1
 refine zV 27 Tryz.func118 rfl fun h=>X0 18 rfl (qi rfl hF ?_ ?_)<;>intro hF
 ·exact X0 4 rfl (ri h hF rfl)
 refine X0 6 rfl ?_
 obtain ⟨o1,hF,hK1⟩:=qc hF
 refine qm (rL (fun m e w'=>∃ (i1:Int) (i2:Int),qeH a m i1 i2=some o1∧e=[(0,.slice p1 a.length k1),(1,.int .i64 i1),(5,.int .i64 i2)]∧SH w w' []) n ⟨_,_,hF,rfl,h⟩ rfl ?_)
 rintro m1 e1 w1 ⟨i1,i2,hF,rfl,h⟩
 rcases m1 with _|m1
 ·cases hF
 refine X0 8 rfl (qi rfl hF ?_ ?_)<;>intro hF
 ·refine X0 7 rfl ?_
  obtain ⟨y1,hy1,hF,he1,b1,_,q1,cs2,hp1,hq1,hr1,hc3⟩:=s1.ix hF
  obtain rfl:=qbh hr1
  refine zxe hp1 hq1 he1 rfl (zc 0 (hc3.below h.below) rfl (zp1 rfl (zcI h hF (qqE (qiU y1)) rfl fun r1 w2 h hF=>X0 7 rfl (qi rfl hF ?_ ?_))))<;>intro hF
  ·refine X0 4 rfl ?_
   obtain rfl:=qb hF;replace hF:=hK1
   exact ri h hF rfl
  exact X0 7 rfl (rK ⟨_,_,hF,rfl,h⟩ rfl)
 refine qr rfl ?_
 obtain rfl:=qb hF;replace hF:=hK1
 exact X0 5 rfl (ri h hF rfl)
def qjk (n:Nat) (a:qf) (left:Int):Option Int :=
 (qi2 n a.Ab left).bind fun r1 =>
 bif decide (r1<0) then some (-1) else
 (qkF n a.Ai r1).bind fun r2 =>
 bif decide (r2<0) then some (-1) else
 (qmi n a.Ah r2).bind fun r3 =>
 bif decide (r3<0) then some (-1) else
 some r3
theorem qpl {a:qf} {left:Int} (ha1:GoT.R w (old w) a cs1) {r:Int} (hF:qjk n a left=some r):RetV Tryz.prog 42 [GoT.v qf cs1,.int .i64 left] w r:=by
 obtain ⟨p1,k1,p2,k2,p3,k3,rfl,s1,s2,s3⟩:=qaA ha1
 refine zV 24 Tryz.func42 rfl fun h=>zSR (qt h rfl rfl fun w1 bb1 h=>X1 7 0 h rfl (zcI h hF (qnZ ⟨_,_,rfl,(h.oldS s1)⟩) rfl fun r1 w2 h hF=>X0 8 rfl (qi rfl hF ?_ ?_)))<;>intro hF
 ·exact X0 4 rfl (ri h hF rfl)
 refine X1 6 0 h rfl (zcI h hF (qoH ⟨_,_,rfl,(h.oldS s2)⟩) rfl fun r2 w3 h hF=>X0 8 rfl (qi rfl hF ?_ ?_))<;>intro hF
 ·exact X0 4 rfl (ri h hF rfl)
 refine X1 6 0 h rfl (zcI h hF (qqk ⟨_,_,rfl,(h.oldS s3)⟩) rfl fun r3 w4 h hF=>X0 8 rfl (qi rfl hF ?_ ?_))<;>intro hF
 ·exact X0 4 rfl (ri h hF rfl)
 exact X0 6 rfl (ri h hF rfl)
def qjM (n:Nat) (a:qT) (left:Int):Option Int :=
 (qce n a.Ak left).bind fun r1 =>
 bif decide (r1<0) then some (-1) else
 (qce n a.Bt r1).bind fun r2 =>
 bif decide (r2<0) then some (-1) else
 (qce n a.Bq r2).bind fun r3 =>
 bif decide (r3<0) then some (-1) else
 (qce n a.Bh r3).bind fun r4 =>
 bif decide (r4<0) then some (-1) else
 some r4
theorem qqB {a:qT} {left:Int} (ha1:GoT.R w (old w) a cs1) {r:Int} (hF:qjM n a left=some r):RetV Tryz.prog 119 [GoT.v qT cs1,.int .i64 left] w r:=by
 obtain ⟨p1,k1,p2,k2,p3,k3,p4,k4,rfl,s1,s2,s3,s4⟩:=qaQ ha1
 refine zV 30 Tryz.func119 rfl fun h=>zSR (qt h rfl rfl fun w1 bb1 h=>X1 7 0 h rfl (zcI h hF (qbU ⟨_,_,rfl,(h.oldS s1)⟩) rfl fun r1 w2 h hF=>X0 8 rfl (qi rfl hF ?_ ?_)))<;>intro hF
 ·exact X0 4 rfl (ri h hF rfl)
 refine X1 6 0 h rfl (zcI h hF (qbU ⟨_,_,rfl,(h.oldS s2)⟩) rfl fun r2 w3 h hF=>X0 8 rfl (qi rfl hF ?_ ?_))<;>intro hF
 ·exact X0 4 rfl (ri h hF rfl)
 refine X1 6 0 h rfl (zcI h hF (qbU ⟨_,_,rfl,(h.oldS s3)⟩) rfl fun r3 w4 h hF=>X0 8 rfl (qi rfl hF ?_ ?_))<;>intro hF
 ·exact X0 4 rfl (ri h hF rfl)
 refine X1 6 0 h rfl (zcI h hF (qbU ⟨_,_,rfl,(h.oldS s4)⟩) rfl fun r4 w5 h hF=>X0 8 rfl (qi rfl hF ?_ ?_))<;>intro hF
 ·exact X0 4 rfl (ri h hF rfl)
 exact X0 6 rfl (ri h hF rfl)
def qeG (a:(List qT)):Nat→Int→Int→Option (Flow Int (Int × Int))
 | 0,_,_=>none
 | n+1,i1,i2 =>
  bif decide (i2<(a.length:Int)) then
   (idx a i2).bind fun y1 =>
   (qjM n y1 i1).bind fun r1 =>
   bif decide (r1<0) then some (.ret (-1)) else
   qeG a n r1 (W64 (i2+1))
  else
   some (.nxt (i1,i2))
def qmz (n:Nat) (a:(List qT)) (left:Int):Option Int :=
 bif decide ((W64 (left-(a.length:Int)))<0) then some (-1) else
 (qeG a n (W64 (left-(a.length:Int))) 0).bind fun o=>match o with
 | .ret r=>some r
 | .nxt (i1,_) =>
  some i1
theorem qpW {a:(List qT)} {left:Int} (ha1:GoT.R w (old w) a cs1) {r:Int} (hF:qmz n a left=some r):RetV Tryz.prog 43 [GoT.v (List qT) cs1,.int .i64 left] w r:=by
 obtain ⟨p1,k1,rfl,s1⟩:=ha1
 refine zV 27 Tryz.func43 rfl fun h=>X0 18 rfl (qi rfl hF ?_ ?_)<;>intro hF
 ·exact X0 4 rfl (ri h hF rfl)
 refine X0 6 rfl ?_
 obtain ⟨o1,hF,hK1⟩:=qc hF
 refine qm (rL (fun m e w'=>∃ (i1:Int) (i2:Int),qeG a m i1 i2=some o1∧e=[(0,.slice p1 a.length k1),(1,.int .i64 i1),(5,.int .i64 i2)]∧SH w w' []) n ⟨_,_,hF,rfl,h⟩ rfl ?_)
 rintro m1 e1 w1 ⟨i1,i2,hF,rfl,h⟩
 rcases m1 with _|m1
 ·cases hF
 refine X0 8 rfl (qi rfl hF ?_ ?_)<;>intro hF
 ·refine X0 7 rfl ?_
  obtain ⟨y1,hy1,hF,he1,b1,_,q1,cs2,hp1,hq1,hr1,hc3⟩:=s1.ix hF
  obtain ⟨p2,k2,p3,k3,p4,k4,p5,k5,rfl,s2,s3,s4,s5⟩:=qaQ hr1
  refine zxe hp1 hq1 he1 rfl (zc 0 (hc3.below h.below) rfl (zp1 rfl (zcI h hF (qqB (qkl y1 (h.oldS s2) (h.oldS s3) (h.oldS s4) (h.oldS s5))) rfl fun r1 w2 h hF=>X0 7 rfl (qi rfl hF ?_ ?_))))<;>intro hF
  ·refine X0 4 rfl ?_
   obtain rfl:=qb hF;replace hF:=hK1
   exact ri h hF rfl
  exact X0 7 rfl (rK ⟨_,_,hF,rfl,h⟩ rfl)
 refine qr rfl ?_
 obtain rfl:=qb hF;replace hF:=hK1
 exact X0 5 rfl (ri h hF rfl)
def qkb (n:Nat) (a:qe) (left:Int):Option Int :=
 (qiI n (⟨a.Aq.Ap⟩:qv) left).bind fun r1 =>
 bif decide (r1<0) then some (-1) else
 (qjk n (⟨a.Aa.Ab,a.Aa.Ai,a.Aa.Ah⟩:qf) r1).bind fun r2 =>
 bif decide (r2<0) then some (-1) else
 (qmz n a.Ac r2).bind fun r3 =>
 bif decide (r3<0) then some (-1) else
 some r3
theorem qqi {a:qe} {left:Int} (ha1:GoT.R w (old w) a cs1) {r:Int} (hF:qkb n a left=some r):RetV Tryz.prog 7 [GoT.v qe cs1,.int .i64 left] w r:=by
 obtain ⟨p1,k1,p2,k2,p3,k3,p4,k4,p5,k5,rfl,s1,s2,s3,s4,s5⟩:=qD ha1
 refine zV 24 Tryz.func7 rfl fun h=>zSR (qt h rfl rfl fun w1 bb1 h=>X1 7 0 h rfl (zcI h hF (qos (qeX _ (h.oldS s1))) rfl fun r1 w2 h hF=>X0 8 rfl (qi rfl hF ?_ ?_)))<;>intro hF
 ·exact X0 4 rfl (ri h hF rfl)
 refine X1 6 0 h rfl (zcI h hF (qpl (qan _ (h.oldS s2) (h.oldS s3) (h.oldS s4))) rfl fun r2 w3 h hF=>X0 8 rfl (qi rfl hF ?_ ?_))<;>intro hF
 ·exact X0 4 rfl (ri h hF rfl)
 refine X1 6 0 h rfl (zcI h hF (qpW ⟨_,_,rfl,(h.oldS s5)⟩) rfl fun r3 w4 h hF=>X0 8 rfl (qi rfl hF ?_ ?_))<;>intro hF
 ·exact X0 4 rfl (ri h hF rfl)
 exact X0 6 rfl (ri h hF rfl)
def qfk (a:(List Int)):Nat→(List Int)→Int→Option ((List Int) × Int)
 | 0,_,_=>none
 | n+1,x2,i1 =>
  bif decide (i1<(a.length:Int)) then
   (idx a i1).bind fun y1 =>
   (idx x2 i1).bind fun _ =>
   qfk a n (setS x2 i1 y1) (W64 (i1+1))
  else
   some (x2,i1)
def qaG (n:Nat) (a:(List Int)):Option (List Int) :=
 (mkS (a.length:Int) (0:Int)).bind fun x1 =>
 (qfk a n x1 0).bind fun o=>match o with
 | (x2,_) =>
  some x2
theorem qaD {a:(List Int)} (ha1:GoT.R w (old w) a cs1) {r:(List Int)} (hF:qaG n a=some r):RetV Tryz.prog 28 [GoT.v (List Int) cs1] w r:=by
 obtain ⟨p1,k1,rfl,s1⟩:=ha1
 refine zV 22 Tryz.func28 rfl fun h=>X0 8 rfl ?_
 obtain ⟨x1,hx1,hF⟩:=qc hF
 obtain ⟨g1,g2,hx1⟩:=qL hx1
 refine qah qa Int h rfl rfl rfl rfl rfl rfl rfl rfl rfl g1 g2 hx1 rfl fun w1 S1 p2 h=>X0 7 rfl ?_
 obtain ⟨o1,hF,hK1⟩:=qc hF
 refine qm (rL (fun m e w'=>∃ (x2:(List Int)) (i1:Int),qfk a m x2 i1=some o1∧e=[(0,.slice p1 a.length k1),(3,.slice p2 x1.length x1.length),(4,.int .i64 i1)]∧SH w w' [Ch.own S1 (x2:List Int) [.slice p2 x1.length x1.length]]) n ⟨_,_,hF,rfl,h⟩ rfl ?_)
 rintro m1 e1 w2 ⟨x2,i1,hF,rfl,h⟩
 rcases m1 with _|m1
 ·cases hF
 refine X0 8 rfl (qi rfl hF ?_ ?_)<;>intro hF
 ·refine X0 8 rfl ?_
  obtain ⟨y1,hy1,hF,he1,b1,_,q1,cs2,hp1,hq1,rfl,hc2⟩:=s1.ix hF
  refine zxe hp1 hq1 he1 rfl (zc 0 (hc2.below h.below) rfl ?_)
  obtain ⟨y2,hy2,hF,he2,b2,_,q2,cs3,hp2,hq2,rfl,hc3⟩:=(h.sl 0 rfl).1.ix hF
  exact zx hp2 hq2 ⟨he2.1,qK he2.2.1 (h.sl 0 rfl).2⟩ rfl (qa7 qa 0 0 y1 h rfl hy2 hp2 hq2 rfl hc3 rfl rfl rfl rfl rfl rfl rfl fun w3 h=>X0 7 rfl (rK ⟨_,_,hF,rfl,h⟩ rfl))
 refine qr rfl ?_
 obtain rfl:=qb hF;replace hF:=hK1
 refine X0 5 rfl ?_
 obtain rfl:=qb hF
 exact rO 0 h rfl ⟨rfl,trivial⟩
def qkI (_:Nat) (a:qax):Option qax :=
 some (⟨a.Az,a.Bs,a.Bq,a.Bm⟩:qax)
theorem qrG {a:qax} (ha1:GoT.R w (old w) a cs1) {r:qax} (hF:qkI n a=some r):RetV Tryz.prog 289 [GoT.v qax cs1] w r:=by
 obtain rfl:=qby ha1
 refine zV 17 Tryz.func289 rfl fun h=>zSR (qt h rfl rfl fun w1 bb1 h=>qn qa h rfl rfl rfl fun w2 bb2 h=>zNSR (qn qa h rfl rfl rfl fun w3 bb3 h=>X1 6 2 h rfl (zs 0 h rfl fun w4 h=>X1 6 2 h rfl (zs 0 h rfl fun w5 h=>X1 6 2 h rfl (zs 0 h rfl fun w6 h=>X1 6 2 h rfl (zs 0 h rfl fun w7 h=>X1 4 0 h rfl (zs 1 h rfl fun w8 h=>qcr ?_)))))))
 obtain rfl:=qb hF
 exact qU qa (ρ:=qax) [GoT.v qax (qpe a)] h ⟨⟨_,_,_,rfl,rfl,h.box 1 rfl,rfl⟩,trivial⟩ (PV.done h (qW (qx (S:=fun _=>False) (qjH (⟨a.Az,a.Bs,a.Bq,a.Bm⟩:qax)))))
def qgE (a:(List qax)):Nat→(List qax)→Int→Option ((List qax) × Int)
 | 0,_,_=>none
 | n+1,x2,i1 =>
  bif decide (i1<(a.length:Int)) then
   (idx a i1).bind fun y1 =>
   (qkI n y1).bind fun r1 =>
   (idx x2 i1).bind fun _ =>
   qgE a n (setS x2 i1 r1) (W64 (i1+1))
  else
   some (x2,i1)
def qk5 (n:Nat) (a:(List qax)):Option (List qax) :=
 (mkS (a.length:Int) ((⟨ByteArray.empty,0,0,false⟩:qax):qax)).bind fun x1 =>
 (qgE a n x1 0).bind fun o=>match o with
 | (x2,_) =>
  some x2
theorem qrf {a:(List qax)} (ha1:GoT.R w (old w) a cs1) {r:(List qax)} (hF:qk5 n a=some r):RetV Tryz.prog 252 [GoT.v (List qax) cs1] w r:=by
 obtain ⟨p1,k1,rfl,s1⟩:=ha1
 refine zV 23 Tryz.func252 rfl fun h=>X0 8 rfl ?_
 obtain ⟨x1,hx1,hF⟩:=qc hF
 obtain ⟨g1,g2,hx1⟩:=qL hx1
 refine qah qa qax h rfl rfl rfl rfl rfl rfl rfl rfl rfl g1 g2 hx1 rfl fun w1 S1 p2 h=>X0 7 rfl ?_
 obtain ⟨o1,hF,hK1⟩:=qc hF
 refine qm (rL (fun m e w'=>∃ (x2:(List qax)) (i1:Int),qgE a m x2 i1=some o1∧e=[(0,.slice p1 a.length k1),(3,.slice p2 x1.length x1.length),(4,.int .i64 i1)]∧SH w w' [Ch.own S1 (x2:List qax) [.slice p2 x1.length x1.length]]) n ⟨_,_,hF,rfl,h⟩ rfl ?_)
 rintro m1 e1 w2 ⟨x2,i1,hF,rfl,h⟩
 rcases m1 with _|m1
 ·cases hF
 refine X0 8 rfl (qi rfl hF ?_ ?_)<;>intro hF
 ·refine X0 8 rfl ?_
  obtain ⟨y1,hy1,hF,he1,b1,_,q1,cs2,hp1,hq1,hr1,hc2⟩:=s1.ix hF
  obtain rfl:=qby hr1
  refine zxe hp1 hq1 he1 rfl (zc 0 (hc2.below h.below) rfl (zcO h hF (qrG (qjH y1)) rfl fun r1 w3 S2 cs3 h hF=>?_))
  obtain rfl:=qby (h.own 0 rfl)
  obtain ⟨y2,hy2,hF,he2,b2,_,q2,cs4,hp2,hq2,hr3,hc3⟩:=(h.sl 1 rfl).1.ix hF
  obtain rfl:=qby hr3
  refine zx hp2 hq2 ⟨he2.1,qK he2.2.1 (h.sl 1 rfl).2⟩ rfl (qa7 qa 1 0 r1 h rfl hy2 hp2 hq2 (qjH y2) hc3 rfl rfl rfl (qjH r1) rfl rfl rfl fun w4 h=>X0 7 rfl ?_)
  replace h:=h.pick [1] rfl
  exact rK ⟨_,_,hF,rfl,h⟩ rfl
 refine qr rfl ?_
 obtain rfl:=qb hF;replace hF:=hK1
 refine X0 5 rfl ?_
 obtain rfl:=qb hF
 exact rO 0 h rfl ⟨rfl,trivial⟩
def qil (n:Nat) (a:qw):Option qw :=
 (qaG n a.Bi).bind fun r1 =>
 (qaG n a.Bc).bind fun r2 =>
 (qaG n a.Ba).bind fun r3 =>
 some (⟨r1,r2,r3⟩:qw)
theorem qqh {a:qw} (ha1:GoT.R w (old w) a cs1) {r:qw} (hF:qil n a=some r):RetV Tryz.prog 326 [GoT.v qw cs1] w r:=by
 obtain ⟨p1,k1,p2,k2,p3,k3,rfl,s1,s2,s3⟩:=qaH ha1
 refine zV 17 Tryz.func326 rfl fun h=>zSR (qt h rfl rfl fun w1 bb1 h=>qn qa h rfl rfl rfl fun w2 bb2 h=>zNSR (qn qa h rfl rfl rfl fun w3 bb3 h=>X1 5 2 h rfl (zcL h hF (qaD ⟨_,_,rfl,(h.oldS s1)⟩) rfl fun r1 w4 S1 p4 k4 h hF=>zp1 rfl (zs 1 h rfl fun w5 h=>X1 5 3 h rfl (zcL h hF (qaD ⟨_,_,rfl,(h.oldS s2)⟩) rfl fun r2 w6 S2 p5 k5 h hF=>zp1 rfl (zs 2 h rfl fun w7 h=>X1 5 4 h rfl (zcL h hF (qaD ⟨_,_,rfl,(h.oldS s3)⟩) rfl fun r3 w8 S3 p6 k6 h hF=>zp1 rfl (zs 3 h rfl fun w9 h=>X1 4 3 h rfl (zs 4 h rfl fun w10 h=>qcr ?_)))))))))
 obtain rfl:=qb hF
 exact qU qa (ρ:=qw) [GoT.v qw [.slice p4 r1.length k4,.slice p5 r2.length k5,.slice p6 r3.length k6]] h ⟨⟨_,_,_,rfl,rfl,h.box 4 rfl,rfl⟩,trivial⟩ (PV.done h (qW (qvd (⟨r1,r2,r3⟩:qw) h (qaN 2 h rfl) (qaN 1 h rfl) (qaN 0 h rfl) (by rfl) (by rfl))))
def qfn (a:(List qw)):Nat→(List qw)→Int→Option ((List qw) × Int)
 | 0,_,_=>none
 | n+1,x2,i1 =>
  bif decide (i1<(a.length:Int)) then
   (idx a i1).bind fun y1 =>
   (qil n y1).bind fun r1 =>
   (idx x2 i1).bind fun _ =>
   qfn a n (setS x2 i1 r1) (W64 (i1+1))
  else
   some (x2,i1)
def qhP (n:Nat) (a:(List qw)):Option (List qw) :=
 (mkS (a.length:Int) ((⟨[],[],[]⟩:qw):qw)).bind fun x1 =>
 (qfn a n x1 0).bind fun o=>match o with
 | (x2,_) =>
  some x2
theorem ql7 {a:(List qw)} (ha1:GoT.R w (old w) a cs1) {r:(List qw)} (hF:qhP n a=some r):RetV Tryz.prog 311 [GoT.v (List qw) cs1] w r:=by
 obtain ⟨p1,k1,rfl,s1⟩:=ha1
 refine zV 23 Tryz.func311 rfl fun h=>X0 8 rfl ?_
 obtain ⟨x1,hx1,hF⟩:=qc hF
 obtain ⟨g1,g2,hx1⟩:=qL hx1
 refine qah qa qw h rfl rfl rfl rfl rfl rfl rfl rfl rfl g1 g2 hx1 rfl fun w1 S1 p2 h=>X0 7 rfl ?_
 obtain ⟨o1,hF,hK1⟩:=qc hF
 refine qm (rL (fun m e w'=>∃ (S2:Nat→Prop) (x2:(List qw)) (i1:Int),qfn a m x2 i1=some o1∧e=[(0,.slice p1 a.length k1),(3,.slice p2 x1.length x1.length),(4,.int .i64 i1)]∧SH w w' [Ch.own S2 (x2:List qw) [.slice p2 x1.length x1.length]]) n ⟨_,_,_,hF,rfl,h⟩ rfl ?_)
 rintro m1 e1 w2 ⟨S2,x2,i1,hF,rfl,h⟩
 rcases m1 with _|m1
 ·cases hF
 refine X0 8 rfl (qi rfl hF ?_ ?_)<;>intro hF
 ·refine X0 8 rfl ?_
  obtain ⟨y1,hy1,hF,he1,b1,_,q1,cs2,hp1,hq1,hr1,hc2⟩:=s1.ix hF
  obtain ⟨p3,k2,p4,k3,p5,k4,rfl,s2,s3,s4⟩:=qaH hr1
  refine zxe hp1 hq1 he1 rfl (zc 0 (hc2.below h.below) rfl (zcO h hF (qqh (qe8 y1 (h.oldS s2) (h.oldS s3) (h.oldS s4))) rfl fun r1 w3 S3 cs3 h hF=>?_))
  obtain ⟨p6,k5,p7,k6,p8,k7,rfl,-,-,-⟩:=qaH (h.own 0 rfl)
  obtain ⟨y2,hy2,hF⟩:=qc hF
  have he2:=qe4 hy2
  replace h:=h.lrn0 1 rfl
  obtain ⟨b2,o_2,q2,cs4,hp2,hq2,-,hr3,hc3⟩:=(qlh (h.lrnO 1 rfl)).1.at hy2
  have hr4:=hr3
  obtain ⟨p9,k8,p10,k9,p11,k10,rfl,s8,s9,s10⟩:=qaH hr3
  replace h:=h.lrnAdd 1 rfl hr4
  refine zx hp2 hq2 ⟨he2.1,qK he2.2.1 (qlh (h.lrnO 1 rfl)).2⟩ rfl ?_
  replace h:=h.unlrn 1 rfl
  exact qnn qa r1 h hy2 hp2 hq2 rfl rfl rfl rfl rfl fun w4 S4 h=>X0 7 rfl (rK ⟨_,_,_,hF,rfl,h⟩ rfl)
 refine qr rfl ?_
 obtain rfl:=qb hF;replace hF:=hK1
 refine X0 5 rfl ?_
 obtain rfl:=qb hF
 exact rO 0 h rfl ⟨rfl,trivial⟩
def qkR (n:Nat) (a:qS):Option qS :=
 (qhP n a.Bl).bind fun r1 =>
 (qhP n a.Av).bind fun r2 =>
 some (⟨a.As,a.Be,a.To,a.Bj,r1,r2⟩:qS)
theorem qrH {a:qS} (ha1:GoT.R w (old w) a cs1) {r:qS} (hF:qkR n a=some r):RetV Tryz.prog 290 [GoT.v qS cs1] w r:=by
 obtain ⟨p1,k1,p2,k2,rfl,s1,s2⟩:=qai ha1
 refine zV 25 Tryz.func290 rfl fun h=>zSR (qt h rfl rfl fun w1 bb1 h=>qn qa h rfl rfl rfl fun w2 bb2 h=>zNSR (qn qa h rfl rfl rfl fun w3 bb3 h=>X1 6 2 h rfl (zs 0 h rfl fun w4 h=>X1 6 2 h rfl (zs 0 h rfl fun w5 h=>X1 6 2 h rfl (zs 0 h rfl fun w6 h=>X1 6 2 h rfl (zs 0 h rfl fun w7 h=>X1 5 2 h rfl (zcL h hF (ql7 ⟨_,_,rfl,(h.oldS s1)⟩) rfl fun r1 w8 S1 p3 k3 h hF=>zp1 rfl (zs 1 h rfl fun w9 h=>X1 5 3 h rfl (zcL h hF (ql7 ⟨_,_,rfl,(h.oldS s2)⟩) rfl fun r2 w10 S2 p4 k4 h hF=>zp1 rfl (zs 2 h rfl fun w11 h=>X1 4 2 h rfl (zs 3 h rfl fun w12 h=>qcr ?_)))))))))))
 obtain rfl:=qb hF
 exact qU qa (ρ:=qS) [GoT.v qS [.int .i64 a.As,.int .i64 a.Be,.int .i64 a.To,.int .i64 a.Bj,.slice p3 r1.length k3,.slice p4 r2.length k4]] h ⟨⟨_,_,_,rfl,rfl,h.box 3 rfl,rfl⟩,trivial⟩ (PV.done h (qW (qxO (⟨a.As,a.Be,a.To,a.Bj,r1,r2⟩:qS) h (qx (S:=fun _=>False) rfl) (qx (S:=fun _=>False) rfl) (qx (S:=fun _=>False) rfl) (qx (S:=fun _=>False) rfl) (qaN 1 h rfl) (qaN 0 h rfl) (by rfl) (by rfl) (by rfl) (by rfl) (by rfl))))
def qgR (a:(List qS)):Nat→(List qS)→Int→Option ((List qS) × Int)
 | 0,_,_=>none
 | n+1,x2,i1 =>
  bif decide (i1<(a.length:Int)) then
   (idx a i1).bind fun y1 =>
   (qkR n y1).bind fun r1 =>
   (idx x2 i1).bind fun _ =>
   qgR a n (setS x2 i1 r1) (W64 (i1+1))
  else
   some (x2,i1)
def qlm (n:Nat) (a:(List qS)):Option (List qS) :=
 (mkS (a.length:Int) ((⟨0,0,0,0,[],[]⟩:qS):qS)).bind fun x1 =>
 (qgR a n x1 0).bind fun o=>match o with
 | (x2,_) =>
  some x2
theorem qqJ {a:(List qS)} (ha1:GoT.R w (old w) a cs1) {r:(List qS)} (hF:qlm n a=some r):RetV Tryz.prog 253 [GoT.v (List qS) cs1] w r:=by
 obtain ⟨p1,k1,rfl,s1⟩:=ha1
 refine zV 23 Tryz.func253 rfl fun h=>X0 8 rfl ?_
 obtain ⟨x1,hx1,hF⟩:=qc hF
 obtain ⟨g1,g2,hx1⟩:=qL hx1
 refine qah qa qS h rfl rfl rfl rfl rfl rfl rfl rfl rfl g1 g2 hx1 rfl fun w1 S1 p2 h=>X0 7 rfl ?_
 obtain ⟨o1,hF,hK1⟩:=qc hF
 refine qm (rL (fun m e w'=>∃ (S2:Nat→Prop) (x2:(List qS)) (i1:Int),qgR a m x2 i1=some o1∧e=[(0,.slice p1 a.length k1),(3,.slice p2 x1.length x1.length),(4,.int .i64 i1)]∧SH w w' [Ch.own S2 (x2:List qS) [.slice p2 x1.length x1.length]]) n ⟨_,_,_,hF,rfl,h⟩ rfl ?_)
 rintro m1 e1 w2 ⟨S2,x2,i1,hF,rfl,h⟩
 rcases m1 with _|m1
 ·cases hF
 refine X0 8 rfl (qi rfl hF ?_ ?_)<;>intro hF
 ·refine X0 8 rfl ?_
  obtain ⟨y1,hy1,hF,he1,b1,_,q1,cs2,hp1,hq1,hr1,hc2⟩:=s1.ix hF
  obtain ⟨p3,k2,p4,k3,rfl,s2,s3⟩:=qai hr1
  refine zxe hp1 hq1 he1 rfl (zc 0 (hc2.below h.below) rfl (zcO h hF (qrH (qfp y1 (h.oldS s2) (h.oldS s3))) rfl fun r1 w3 S3 cs3 h hF=>?_))
  obtain ⟨p5,k4,p6,k5,rfl,-,-⟩:=qai (h.own 0 rfl)
  obtain ⟨y2,hy2,hF⟩:=qc hF
  have he2:=qe4 hy2
  replace h:=h.lrn0 1 rfl
  obtain ⟨b2,o_2,q2,cs4,hp2,hq2,-,hr3,hc3⟩:=(qlh (h.lrnO 1 rfl)).1.at hy2
  have hr4:=hr3
  obtain ⟨p7,k6,p8,k7,rfl,s6,s7⟩:=qai hr3
  replace h:=h.lrnAdd 1 rfl hr4
  refine zx hp2 hq2 ⟨he2.1,qK he2.2.1 (qlh (h.lrnO 1 rfl)).2⟩ rfl ?_
  replace h:=h.unlrn 1 rfl
  exact qnn qa r1 h hy2 hp2 hq2 rfl rfl rfl rfl rfl fun w4 S4 h=>X0 7 rfl (rK ⟨_,_,_,hF,rfl,h⟩ rfl)
 refine qr rfl ?_
 obtain rfl:=qb hF;replace hF:=hK1
 refine X0 5 rfl ?_
 obtain rfl:=qb hF
 exact rO 0 h rfl ⟨rfl,trivial⟩
def qjF (n:Nat) (a:qC):Option qC :=
 (qk5 n a.Ay).bind fun r1 =>
 (qlm n a.Am).bind fun r2 =>
 (qaG n a.Bn).bind fun r3 =>
 some (⟨a.Az,a.As,r1,r2,r3,a.Bx,a.Br⟩:qC)
theorem qqN {a:qC} (ha1:GoT.R w (old w) a cs1) {r:qC} (hF:qjF n a=some r):RetV Tryz.prog 199 [GoT.v qC cs1] w r:=by
 obtain ⟨p1,k1,p2,k2,p3,k3,rfl,s1,s2,s3⟩:=qaf ha1
 refine zV 29 Tryz.func199 rfl fun h=>zSR (qt h rfl rfl fun w1 bb1 h=>qn qa h rfl rfl rfl fun w2 bb2 h=>zNSR (qn qa h rfl rfl rfl fun w3 bb3 h=>X1 6 2 h rfl (zs 0 h rfl fun w4 h=>X1 6 2 h rfl (zs 0 h rfl fun w5 h=>X1 5 2 h rfl (zcL h hF (qrf ⟨_,_,rfl,(h.oldS s1)⟩) rfl fun r1 w6 S1 p4 k4 h hF=>zp1 rfl (zs 1 h rfl fun w7 h=>X1 5 3 h rfl (zcL h hF (qqJ ⟨_,_,rfl,(h.oldS s2)⟩) rfl fun r2 w8 S2 p5 k5 h hF=>zp1 rfl (zs 2 h rfl fun w9 h=>X1 5 4 h rfl (zcL h hF (qaD ⟨_,_,rfl,(h.oldS s3)⟩) rfl fun r3 w10 S3 p6 k6 h hF=>zp1 rfl (zs 3 h rfl fun w11 h=>X1 6 5 h rfl (zs 3 h rfl fun w12 h=>X1 6 5 h rfl (zs 3 h rfl fun w13 h=>X1 4 3 h rfl (zs 4 h rfl fun w14 h=>qcr ?_)))))))))))))
 obtain rfl:=qb hF
 exact qU qa (ρ:=qC) [GoT.v qC [.string a.Az,.int .i64 a.As,.slice p4 r1.length k4,.slice p5 r2.length k5,.slice p6 r3.length k6,.int .i64 a.Bx,.int .i64 a.Br]] h ⟨⟨_,_,_,rfl,rfl,h.box 4 rfl,rfl⟩,trivial⟩ (PV.done h (qW (qw7 (⟨a.Az,a.As,r1,r2,r3,a.Bx,a.Br⟩:qC) h (qx (S:=fun _=>False) rfl) (qx (S:=fun _=>False) rfl) (qaN 2 h rfl) (qaN 1 h rfl) (qaN 0 h rfl) (qx (S:=fun _=>False) rfl) (qx (S:=fun _=>False) rfl) (by rfl) (by rfl) (by rfl) (by rfl) (by rfl) (by rfl))))
def qf8 (a:(List qC)):Nat→(List qC)→Int→Option ((List qC) × Int)
 | 0,_,_=>none
 | n+1,x2,i1 =>
  bif decide (i1<(a.length:Int)) then
   (idx a i1).bind fun y1 =>
   (qjF n y1).bind fun r1 =>
   (idx x2 i1).bind fun _ =>
   qf8 a n (setS x2 i1 r1) (W64 (i1+1))
  else
   some (x2,i1)
def qki (n:Nat) (a:(List qC)):Option (List qC) :=
 (mkS (a.length:Int) ((⟨ByteArray.empty,0,[],[],[],0,0⟩:qC):qC)).bind fun x1 =>
 (qf8 a n x1 0).bind fun o=>match o with
 | (x2,_) =>
  some x2
theorem qqa {a:(List qC)} (ha1:GoT.R w (old w) a cs1) {r:(List qC)} (hF:qki n a=some r):RetV Tryz.prog 122 [GoT.v (List qC) cs1] w r:=by
 obtain ⟨p1,k1,rfl,s1⟩:=ha1
 refine zV 23 Tryz.func122 rfl fun h=>X0 8 rfl ?_
 obtain ⟨x1,hx1,hF⟩:=qc hF
 obtain ⟨g1,g2,hx1⟩:=qL hx1
 refine qah qa qC h rfl rfl rfl rfl rfl rfl rfl rfl rfl g1 g2 hx1 rfl fun w1 S1 p2 h=>X0 7 rfl ?_
 obtain ⟨o1,hF,hK1⟩:=qc hF
 refine qm (rL (fun m e w'=>∃ (S2:Nat→Prop) (x2:(List qC)) (i1:Int),qf8 a m x2 i1=some o1∧e=[(0,.slice p1 a.length k1),(3,.slice p2 x1.length x1.length),(4,.int .i64 i1)]∧SH w w' [Ch.own S2 (x2:List qC) [.slice p2 x1.length x1.length]]) n ⟨_,_,_,hF,rfl,h⟩ rfl ?_)
 rintro m1 e1 w2 ⟨S2,x2,i1,hF,rfl,h⟩
 rcases m1 with _|m1
 ·cases hF
 refine X0 8 rfl (qi rfl hF ?_ ?_)<;>intro hF
 ·refine X0 8 rfl ?_
  obtain ⟨y1,hy1,hF,he1,b1,_,q1,cs2,hp1,hq1,hr1,hc2⟩:=s1.ix hF
  obtain ⟨p3,k2,p4,k3,p5,k4,rfl,s2,s3,s4⟩:=qaf hr1
  refine zxe hp1 hq1 he1 rfl (zc 0 (hc2.below h.below) rfl (zcO h hF (qqN (qkr y1 (h.oldS s2) (h.oldS s3) (h.oldS s4))) rfl fun r1 w3 S3 cs3 h hF=>?_))
  obtain ⟨p6,k5,p7,k6,p8,k7,rfl,-,-,-⟩:=qaf (h.own 0 rfl)
  obtain ⟨y2,hy2,hF⟩:=qc hF
  have he2:=qe4 hy2
  replace h:=h.lrn0 1 rfl
  obtain ⟨b2,o_2,q2,cs4,hp2,hq2,-,hr3,hc3⟩:=(qlh (h.lrnO 1 rfl)).1.at hy2
  have hr4:=hr3
  obtain ⟨p9,k8,p10,k9,p11,k10,rfl,s8,s9,s10⟩:=qaf hr3
  replace h:=h.lrnAdd 1 rfl hr4
  refine zx hp2 hq2 ⟨he2.1,qK he2.2.1 (qlh (h.lrnO 1 rfl)).2⟩ rfl ?_
  replace h:=h.unlrn 1 rfl
  exact qnn qa r1 h hy2 hp2 hq2 rfl rfl rfl rfl rfl fun w4 S4 h=>X0 7 rfl (rK ⟨_,_,_,hF,rfl,h⟩ rfl)
 refine qr rfl ?_
 obtain rfl:=qb hF;replace hF:=hK1
 refine X0 5 rfl ?_
 obtain rfl:=qb hF
 exact rO 0 h rfl ⟨rfl,trivial⟩
def qiM (n:Nat) (a:qv):Option qv :=
 (qki n a.Ap).bind fun r1 =>
 some (⟨r1⟩:qv)
theorem qoR {a:qv} (ha1:GoT.R w (old w) a cs1) {r:qv} (hF:qiM n a=some r):RetV Tryz.prog 49 [GoT.v qv cs1] w r:=by
 obtain ⟨p1,k1,rfl,s1⟩:=qbF ha1
 refine zV 9 Tryz.func49 rfl fun h=>zSR (qt h rfl rfl fun w1 bb1 h=>qn qa h rfl rfl rfl fun w2 bb2 h=>zNSR (qn qa h rfl rfl rfl fun w3 bb3 h=>X1 5 2 h rfl (zcL h hF (qqa ⟨_,_,rfl,(h.oldS s1)⟩) rfl fun r1 w4 S1 p2 k2 h hF=>zp1 rfl (zs 1 h rfl fun w5 h=>X1 4 1 h rfl (zs 2 h rfl fun w6 h=>qcr ?_)))))
 obtain rfl:=qb hF
 exact qU qa (ρ:=qv) [GoT.v qv [.slice p2 r1.length k2]] h ⟨⟨_,_,_,rfl,rfl,h.box 2 rfl,rfl⟩,trivial⟩ (PV.done h (qW (qtp (⟨r1⟩:qv) h (qaN 0 h rfl) )))
def qf4 (n:Nat) (a:qp):Option qp :=
 (qaG n a.Ai).bind fun r1 =>
 some (⟨a.Az,a.Bp,r1⟩:qp)
theorem qok {a:qp} (ha1:GoT.R w (old w) a cs1) {r:qp} (hF:qf4 n a=some r):RetV Tryz.prog 200 [GoT.v qp cs1] w r:=by
 obtain ⟨p1,k1,rfl,s1⟩:=qR ha1
 refine zV 15 Tryz.func200 rfl fun h=>zSR (qt h rfl rfl fun w1 bb1 h=>qn qa h rfl rfl rfl fun w2 bb2 h=>zNSR (qn qa h rfl rfl rfl fun w3 bb3 h=>X1 6 2 h rfl (zs 0 h rfl fun w4 h=>X1 6 2 h rfl (zs 0 h rfl fun w5 h=>X1 5 2 h rfl (zcL h hF (qaD ⟨_,_,rfl,(h.oldS s1)⟩) rfl fun r1 w6 S1 p2 k2 h hF=>zp1 rfl (zs 1 h rfl fun w7 h=>X1 4 1 h rfl (zs 2 h rfl fun w8 h=>qcr ?_)))))))
 obtain rfl:=qb hF
 exact qU qa (ρ:=qp) [GoT.v qp [.string a.Az,.int .i64 a.Bp,.slice p2 r1.length k2]] h ⟨⟨_,_,_,rfl,rfl,h.box 2 rfl,rfl⟩,trivial⟩ (PV.done h (qW (qsm (⟨a.Az,a.Bp,r1⟩:qp) h (qx (S:=fun _=>False) rfl) (qx (S:=fun _=>False) rfl) (qaN 0 h rfl) (by rfl) (by rfl))))
def qdR (a:(List qp)):Nat→(List qp)→Int→Option ((List qp) × Int)
 | 0,_,_=>none
 | n+1,x2,i1 =>
  bif decide (i1<(a.length:Int)) then
   (idx a i1).bind fun y1 =>
   (qf4 n y1).bind fun r1 =>
   (idx x2 i1).bind fun _ =>
   qdR a n (setS x2 i1 r1) (W64 (i1+1))
  else
   some (x2,i1)
def qhi (n:Nat) (a:(List qp)):Option (List qp) :=
 (mkS (a.length:Int) ((⟨ByteArray.empty,0,[]⟩:qp):qp)).bind fun x1 =>
 (qdR a n x1 0).bind fun o=>match o with
 | (x2,_) =>
  some x2
theorem qnW {a:(List qp)} (ha1:GoT.R w (old w) a cs1) {r:(List qp)} (hF:qhi n a=some r):RetV Tryz.prog 123 [GoT.v (List qp) cs1] w r:=by
 obtain ⟨p1,k1,rfl,s1⟩:=ha1
 refine zV 23 Tryz.func123 rfl fun h=>X0 8 rfl ?_
 obtain ⟨x1,hx1,hF⟩:=qc hF
 obtain ⟨g1,g2,hx1⟩:=qL hx1
 refine qah qa qp h rfl rfl rfl rfl rfl rfl rfl rfl rfl g1 g2 hx1 rfl fun w1 S1 p2 h=>X0 7 rfl ?_
 obtain ⟨o1,hF,hK1⟩:=qc hF
 refine qm (rL (fun m e w'=>∃ (S2:Nat→Prop) (x2:(List qp)) (i1:Int),qdR a m x2 i1=some o1∧e=[(0,.slice p1 a.length k1),(3,.slice p2 x1.length x1.length),(4,.int .i64 i1)]∧SH w w' [Ch.own S2 (x2:List qp) [.slice p2 x1.length x1.length]]) n ⟨_,_,_,hF,rfl,h⟩ rfl ?_)
 rintro m1 e1 w2 ⟨S2,x2,i1,hF,rfl,h⟩
 rcases m1 with _|m1
 ·cases hF
 refine X0 8 rfl (qi rfl hF ?_ ?_)<;>intro hF
 ·refine X0 8 rfl ?_
  obtain ⟨y1,hy1,hF,he1,b1,_,q1,cs2,hp1,hq1,hr1,hc2⟩:=s1.ix hF
  obtain ⟨p3,k2,rfl,s2⟩:=qR hr1
  refine zxe hp1 hq1 he1 rfl (zc 0 (hc2.below h.below) rfl (zcO h hF (qok (qgo y1 (h.oldS s2))) rfl fun r1 w3 S3 cs3 h hF=>?_))
  obtain ⟨p4,k3,rfl,-⟩:=qR (h.own 0 rfl)
  obtain ⟨y2,hy2,hF⟩:=qc hF
  have he2:=qe4 hy2
  replace h:=h.lrn0 1 rfl
  obtain ⟨b2,o_2,q2,cs4,hp2,hq2,-,hr3,hc3⟩:=(qlh (h.lrnO 1 rfl)).1.at hy2
  have hr4:=hr3
  obtain ⟨p5,k4,rfl,s4⟩:=qR hr3
  replace h:=h.lrnAdd 1 rfl hr4
  refine zx hp2 hq2 ⟨he2.1,qK he2.2.1 (qlh (h.lrnO 1 rfl)).2⟩ rfl ?_
  replace h:=h.unlrn 1 rfl
  exact qnn qa r1 h hy2 hp2 hq2 rfl rfl rfl rfl rfl fun w4 S4 h=>X0 7 rfl (rK ⟨_,_,_,hF,rfl,h⟩ rfl)
 refine qr rfl ?_
 obtain rfl:=qb hF;replace hF:=hK1
 refine X0 5 rfl ?_
 obtain rfl:=qb hF
 exact rO 0 h rfl ⟨rfl,trivial⟩
def qeR (a:(List ByteArray)):Nat→(List ByteArray)→Int→Option ((List ByteArray) × Int)
 | 0,_,_=>none
 | n+1,x2,i1 =>
  bif decide (i1<(a.length:Int)) then
   (idx a i1).bind fun y1 =>
   (idx x2 i1).bind fun _ =>
   qeR a n (setS x2 i1 y1) (W64 (i1+1))
  else
   some (x2,i1)
def qih (n:Nat) (a:(List ByteArray)):Option (List ByteArray) :=
 (mkS (a.length:Int) (ByteArray.empty:ByteArray)).bind fun x1 =>
 (qeR a n x1 0).bind fun o=>match o with
 | (x2,_) =>
  some x2
theorem qou {a:(List ByteArray)} (ha1:GoT.R w (old w) a cs1) {r:(List ByteArray)} (hF:qih n a=some r):RetV Tryz.prog 124 [GoT.v (List ByteArray) cs1] w r:=by
 obtain ⟨p1,k1,rfl,s1⟩:=ha1
 refine zV 22 Tryz.func124 rfl fun h=>X0 8 rfl ?_
 obtain ⟨x1,hx1,hF⟩:=qc hF
 obtain ⟨g1,g2,hx1⟩:=qL hx1
 refine qah qa ByteArray h rfl rfl rfl rfl rfl rfl rfl rfl rfl g1 g2 hx1 rfl fun w1 S1 p2 h=>X0 7 rfl ?_
 obtain ⟨o1,hF,hK1⟩:=qc hF
 refine qm (rL (fun m e w'=>∃ (x2:(List ByteArray)) (i1:Int),qeR a m x2 i1=some o1∧e=[(0,.slice p1 a.length k1),(3,.slice p2 x1.length x1.length),(4,.int .i64 i1)]∧SH w w' [Ch.own S1 (x2:List ByteArray) [.slice p2 x1.length x1.length]]) n ⟨_,_,hF,rfl,h⟩ rfl ?_)
 rintro m1 e1 w2 ⟨x2,i1,hF,rfl,h⟩
 rcases m1 with _|m1
 ·cases hF
 refine X0 8 rfl (qi rfl hF ?_ ?_)<;>intro hF
 ·refine X0 8 rfl ?_
  obtain ⟨y1,hy1,hF,he1,b1,_,q1,cs2,hp1,hq1,rfl,hc2⟩:=s1.ix hF
  refine zxe hp1 hq1 he1 rfl (zc 0 (hc2.below h.below) rfl ?_)
  obtain ⟨y2,hy2,hF,he2,b2,_,q2,cs3,hp2,hq2,rfl,hc3⟩:=(h.sl 0 rfl).1.ix hF
  exact zx hp2 hq2 ⟨he2.1,qK he2.2.1 (h.sl 0 rfl).2⟩ rfl (qa7 qa 0 0 y1 h rfl hy2 hp2 hq2 rfl hc3 rfl rfl rfl rfl rfl rfl rfl fun w3 h=>X0 7 rfl (rK ⟨_,_,hF,rfl,h⟩ rfl))
 refine qr rfl ?_
 obtain rfl:=qb hF;replace hF:=hK1
 refine X0 5 rfl ?_
 obtain rfl:=qb hF
 exact rO 0 h rfl ⟨rfl,trivial⟩
def qjL (_:Nat) (a:qar):Option qar :=
 some (⟨a.Az,a.Bs,a.Bu⟩:qar)
theorem qq0 {a:qar} (ha1:GoT.R w (old w) a cs1) {r:qar} (hF:qjL n a=some r):RetV Tryz.prog 201 [GoT.v qar cs1] w r:=by
 obtain rfl:=qbh ha1
 refine zV 14 Tryz.func201 rfl fun h=>zSR (qt h rfl rfl fun w1 bb1 h=>qn qa h rfl rfl rfl fun w2 bb2 h=>zNSR (qn qa h rfl rfl rfl fun w3 bb3 h=>X1 6 2 h rfl (zs 0 h rfl fun w4 h=>X1 6 2 h rfl (zs 0 h rfl fun w5 h=>X1 6 2 h rfl (zs 0 h rfl fun w6 h=>X1 4 0 h rfl (zs 1 h rfl fun w7 h=>qcr ?_))))))
 obtain rfl:=qb hF
 exact qU qa (ρ:=qar) [GoT.v qar (qqq a)] h ⟨⟨_,_,_,rfl,rfl,h.box 1 rfl,rfl⟩,trivial⟩ (PV.done h (qW (qx (S:=fun _=>False) (qiU (⟨a.Az,a.Bs,a.Bu⟩:qar)))))
def qge (a:(List qar)):Nat→(List qar)→Int→Option ((List qar) × Int)
 | 0,_,_=>none
 | n+1,x2,i1 =>
  bif decide (i1<(a.length:Int)) then
   (idx a i1).bind fun y1 =>
   (qjL n y1).bind fun r1 =>
   (idx x2 i1).bind fun _ =>
   qge a n (setS x2 i1 r1) (W64 (i1+1))
  else
   some (x2,i1)
def qkc (n:Nat) (a:(List qar)):Option (List qar) :=
 (mkS (a.length:Int) ((⟨ByteArray.empty,0,0⟩:qar):qar)).bind fun x1 =>
 (qge a n x1 0).bind fun o=>match o with
 | (x2,_) =>
  some x2
theorem qqe {a:(List qar)} (ha1:GoT.R w (old w) a cs1) {r:(List qar)} (hF:qkc n a=some r):RetV Tryz.prog 125 [GoT.v (List qar) cs1] w r:=by
 obtain ⟨p1,k1,rfl,s1⟩:=ha1
 refine zV 23 Tryz.func125 rfl fun h=>X0 8 rfl ?_
 obtain ⟨x1,hx1,hF⟩:=qc hF
 obtain ⟨g1,g2,hx1⟩:=qL hx1
 refine qah qa qar h rfl rfl rfl rfl rfl rfl rfl rfl rfl g1 g2 hx1 rfl fun w1 S1 p2 h=>X0 7 rfl ?_
 obtain ⟨o1,hF,hK1⟩:=qc hF
 refine qm (rL (fun m e w'=>∃ (x2:(List qar)) (i1:Int),qge a m x2 i1=some o1∧e=[(0,.slice p1 a.length k1),(3,.slice p2 x1.length x1.length),(4,.int .i64 i1)]∧SH w w' [Ch.own S1 (x2:List qar) [.slice p2 x1.length x1.length]]) n ⟨_,_,hF,rfl,h⟩ rfl ?_)
 rintro m1 e1 w2 ⟨x2,i1,hF,rfl,h⟩
 rcases m1 with _|m1
 ·cases hF
 refine X0 8 rfl (qi rfl hF ?_ ?_)<;>intro hF
 ·refine X0 8 rfl ?_
  obtain ⟨y1,hy1,hF,he1,b1,_,q1,cs2,hp1,hq1,hr1,hc2⟩:=s1.ix hF
  obtain rfl:=qbh hr1
  refine zxe hp1 hq1 he1 rfl (zc 0 (hc2.below h.below) rfl (zcO h hF (qq0 (qiU y1)) rfl fun r1 w3 S2 cs3 h hF=>?_))
  obtain rfl:=qbh (h.own 0 rfl)
  obtain ⟨y2,hy2,hF,he2,b2,_,q2,cs4,hp2,hq2,hr3,hc3⟩:=(h.sl 1 rfl).1.ix hF
  obtain rfl:=qbh hr3
  refine zx hp2 hq2 ⟨he2.1,qK he2.2.1 (h.sl 1 rfl).2⟩ rfl (qa7 qa 1 0 r1 h rfl hy2 hp2 hq2 (qiU y2) hc3 rfl rfl rfl (qiU r1) rfl rfl rfl fun w4 h=>X0 7 rfl ?_)
  replace h:=h.pick [1] rfl
  exact rK ⟨_,_,hF,rfl,h⟩ rfl
 refine qr rfl ?_
 obtain rfl:=qb hF;replace hF:=hK1
 refine X0 5 rfl ?_
 obtain rfl:=qb hF
 exact rO 0 h rfl ⟨rfl,trivial⟩
def qjd (n:Nat) (a:qf):Option qf :=
 (qhi n a.Ab).bind fun r1 =>
 (qih n a.Ai).bind fun r2 =>
 (qkc n a.Ah).bind fun r3 =>
 some (⟨r1,r2,r3⟩:qf)
theorem qo1 {a:qf} (ha1:GoT.R w (old w) a cs1) {r:qf} (hF:qjd n a=some r):RetV Tryz.prog 50 [GoT.v qf cs1] w r:=by
 obtain ⟨p1,k1,p2,k2,p3,k3,rfl,s1,s2,s3⟩:=qaA ha1
 refine zV 17 Tryz.func50 rfl fun h=>zSR (qt h rfl rfl fun w1 bb1 h=>qn qa h rfl rfl rfl fun w2 bb2 h=>zNSR (qn qa h rfl rfl rfl fun w3 bb3 h=>X1 5 2 h rfl (zcL h hF (qnW ⟨_,_,rfl,(h.oldS s1)⟩) rfl fun r1 w4 S1 p4 k4 h hF=>zp1 rfl (zs 1 h rfl fun w5 h=>X1 5 3 h rfl (zcL h hF (qou ⟨_,_,rfl,(h.oldS s2)⟩) rfl fun r2 w6 S2 p5 k5 h hF=>zp1 rfl (zs 2 h rfl fun w7 h=>X1 5 4 h rfl (zcL h hF (qqe ⟨_,_,rfl,(h.oldS s3)⟩) rfl fun r3 w8 S3 p6 k6 h hF=>zp1 rfl (zs 3 h rfl fun w9 h=>X1 4 3 h rfl (zs 4 h rfl fun w10 h=>qcr ?_)))))))))
 obtain rfl:=qb hF
 exact qU qa (ρ:=qf) [GoT.v qf [.slice p4 r1.length k4,.slice p5 r2.length k5,.slice p6 r3.length k6]] h ⟨⟨_,_,_,rfl,rfl,h.box 4 rfl,rfl⟩,trivial⟩ (PV.done h (qW (qui (⟨r1,r2,r3⟩:qf) h (qaN 2 h rfl) (qaN 1 h rfl) (qaN 0 h rfl) (by rfl) (by rfl))))
def qjO (n:Nat) (a:qT):Option qT :=
 (qaG n a.Ak).bind fun r1 =>
 (qaG n a.Bt).bind fun r2 =>
 (qaG n a.Bq).bind fun r3 =>
 (qaG n a.Bh).bind fun r4 =>
 some (⟨r1,r2,r3,r4⟩:qT)
theorem qqW {a:qT} (ha1:GoT.R w (old w) a cs1) {r:qT} (hF:qjO n a=some r):RetV Tryz.prog 126 [GoT.v qT cs1] w r:=by
 obtain ⟨p1,k1,p2,k2,p3,k3,p4,k4,rfl,s1,s2,s3,s4⟩:=qaQ ha1
 refine zV 21 Tryz.func126 rfl fun h=>zSR (qt h rfl rfl fun w1 bb1 h=>qn qa h rfl rfl rfl fun w2 bb2 h=>zNSR (qn qa h rfl rfl rfl fun w3 bb3 h=>X1 5 2 h rfl (zcL h hF (qaD ⟨_,_,rfl,(h.oldS s1)⟩) rfl fun r1 w4 S1 p5 k5 h hF=>zp1 rfl (zs 1 h rfl fun w5 h=>X1 5 3 h rfl (zcL h hF (qaD ⟨_,_,rfl,(h.oldS s2)⟩) rfl fun r2 w6 S2 p6 k6 h hF=>zp1 rfl (zs 2 h rfl fun w7 h=>X1 5 4 h rfl (zcL h hF (qaD ⟨_,_,rfl,(h.oldS s3)⟩) rfl fun r3 w8 S3 p7 k7 h hF=>zp1 rfl (zs 3 h rfl fun w9 h=>X1 5 5 h rfl (zcL h hF (qaD ⟨_,_,rfl,(h.oldS s4)⟩) rfl fun r4 w10 S4 p8 k8 h hF=>zp1 rfl (zs 4 h rfl fun w11 h=>X1 4 4 h rfl (zs 5 h rfl fun w12 h=>qcr ?_)))))))))))
 obtain rfl:=qb hF
 exact qU qa (ρ:=qT) [GoT.v qT [.slice p5 r1.length k5,.slice p6 r2.length k6,.slice p7 r3.length k7,.slice p8 r4.length k8]] h ⟨⟨_,_,_,rfl,rfl,h.box 5 rfl,rfl⟩,trivial⟩ (PV.done h (qW (qxn (⟨r1,r2,r3,r4⟩:qT) h (qaN 3 h rfl) (qaN 2 h rfl) (qaN 1 h rfl) (qaN 0 h rfl) (by rfl) (by rfl) (by rfl))))
def qf1 (a:(List qT)):Nat→(List qT)→Int→Option ((List qT) × Int)
 | 0,_,_=>none
 | n+1,x2,i1 =>
  bif decide (i1<(a.length:Int)) then
   (idx a i1).bind fun y1 =>
   (qjO n y1).bind fun r1 =>
   (idx x2 i1).bind fun _ =>
   qf1 a n (setS x2 i1 r1) (W64 (i1+1))
  else
   some (x2,i1)
def qka (n:Nat) (a:(List qT)):Option (List qT) :=
 (mkS (a.length:Int) ((⟨[],[],[],[]⟩:qT):qT)).bind fun x1 =>
 (qf1 a n x1 0).bind fun o=>match o with
 | (x2,_) =>
  some x2
theorem qpX {a:(List qT)} (ha1:GoT.R w (old w) a cs1) {r:(List qT)} (hF:qka n a=some r):RetV Tryz.prog 51 [GoT.v (List qT) cs1] w r:=by
 obtain ⟨p1,k1,rfl,s1⟩:=ha1
 refine zV 23 Tryz.func51 rfl fun h=>X0 8 rfl ?_
 obtain ⟨x1,hx1,hF⟩:=qc hF
 obtain ⟨g1,g2,hx1⟩:=qL hx1
 refine qah qa qT h rfl rfl rfl rfl rfl rfl rfl rfl rfl g1 g2 hx1 rfl fun w1 S1 p2 h=>X0 7 rfl ?_
 obtain ⟨o1,hF,hK1⟩:=qc hF
 refine qm (rL (fun m e w'=>∃ (S2:Nat→Prop) (x2:(List qT)) (i1:Int),qf1 a m x2 i1=some o1∧e=[(0,.slice p1 a.length k1),(3,.slice p2 x1.length x1.length),(4,.int .i64 i1)]∧SH w w' [Ch.own S2 (x2:List qT) [.slice p2 x1.length x1.length]]) n ⟨_,_,_,hF,rfl,h⟩ rfl ?_)
 rintro m1 e1 w2 ⟨S2,x2,i1,hF,rfl,h⟩
 rcases m1 with _|m1
 ·cases hF
 refine X0 8 rfl (qi rfl hF ?_ ?_)<;>intro hF
 ·refine X0 8 rfl ?_
  obtain ⟨y1,hy1,hF,he1,b1,_,q1,cs2,hp1,hq1,hr1,hc2⟩:=s1.ix hF
  obtain ⟨p3,k2,p4,k3,p5,k4,p6,k5,rfl,s2,s3,s4,s5⟩:=qaQ hr1
  refine zxe hp1 hq1 he1 rfl (zc 0 (hc2.below h.below) rfl (zcO h hF (qqW (qkl y1 (h.oldS s2) (h.oldS s3) (h.oldS s4) (h.oldS s5))) rfl fun r1 w3 S3 cs3 h hF=>?_))
  obtain ⟨p7,k6,p8,k7,p9,k8,p10,k9,rfl,-,-,-,-⟩:=qaQ (h.own 0 rfl)
  obtain ⟨y2,hy2,hF⟩:=qc hF
  have he2:=qe4 hy2
  replace h:=h.lrn0 1 rfl
  obtain ⟨b2,o_2,q2,cs4,hp2,hq2,-,hr3,hc3⟩:=(qlh (h.lrnO 1 rfl)).1.at hy2
  have hr4:=hr3
  obtain ⟨p11,k10,p12,k11,p13,k12,p14,k13,rfl,s10,s11,s12,s13⟩:=qaQ hr3
  replace h:=h.lrnAdd 1 rfl hr4
  refine zx hp2 hq2 ⟨he2.1,qK he2.2.1 (qlh (h.lrnO 1 rfl)).2⟩ rfl ?_
  replace h:=h.unlrn 1 rfl
  exact qnn qa r1 h hy2 hp2 hq2 rfl rfl rfl rfl rfl fun w4 S4 h=>X0 7 rfl (rK ⟨_,_,_,hF,rfl,h⟩ rfl)
 refine qr rfl ?_
 obtain rfl:=qb hF;replace hF:=hK1
 refine X0 5 rfl ?_
 obtain rfl:=qb hF
 exact rO 0 h rfl ⟨rfl,trivial⟩
def qhc (n:Nat) (a:qe):Option qe :=
 (qiM n (⟨a.Aq.Ap⟩:qv)).bind fun r1 =>
 (qjd n (⟨a.Aa.Ab,a.Aa.Ai,a.Aa.Ah⟩:qf)).bind fun r2 =>
 (qka n a.Ac).bind fun r3 =>
 some (⟨r1,r2,r3⟩:qe)
theorem qjS {a:qe} (ha1:GoT.R w (old w) a cs1) {r:qe} (hF:qhc n a=some r):RetV Tryz.prog 11 [GoT.v qe cs1] w r:=by
 obtain ⟨p1,k1,p2,k2,p3,k3,p4,k4,p5,k5,rfl,s1,s2,s3,s4,s5⟩:=qD ha1
 refine zV 17 Tryz.func11 rfl fun h=>zSR (qt h rfl rfl fun w1 bb1 h=>qn qa h rfl rfl rfl fun w2 bb2 h=>zNSR (qn qa h rfl rfl rfl fun w3 bb3 h=>X1 5 2 h rfl (zcO h hF (qoR (qeX _ (h.oldS s1))) rfl fun r1 w4 S1 cs2 h hF=>?_)))
 obtain ⟨p6,k6,rfl,-⟩:=qbF (h.own 0 rfl)
 refine zp1 rfl (zs 1 h rfl fun w5 h=>X1 5 3 h rfl (zcO h hF (qo1 (qan _ (h.oldS s2) (h.oldS s3) (h.oldS s4))) rfl fun r2 w6 S2 cs3 h hF=>?_))
 obtain ⟨p7,k7,p8,k8,p9,k9,rfl,-,-,-⟩:=qaA (h.own 0 rfl)
 refine zp1 rfl (zs 2 h rfl fun w7 h=>X1 5 4 h rfl (zcL h hF (qpX ⟨_,_,rfl,(h.oldS s5)⟩) rfl fun r3 w8 S3 p10 k10 h hF=>zp1 rfl (zs 3 h rfl fun w9 h=>X1 4 3 h rfl (zs 4 h rfl fun w10 h=>qcr ?_))))
 obtain rfl:=qb hF
 exact qU qa (ρ:=qe) [GoT.v qe [.slice p6 r1.Ap.length k6,.slice p7 r2.Ab.length k7,.slice p8 r2.Ai.length k8,.slice p9 r2.Ah.length k9,.slice p10 r3.length k10]] h ⟨⟨_,_,_,rfl,rfl,h.box 4 rfl,rfl⟩,trivial⟩ (PV.done h (qW (qvI (⟨r1,r2,r3⟩:qe) h (qaN 2 h rfl) (qaN 1 h rfl) (qaN 0 h rfl) (by rfl) (by rfl))))
def qfD (a:(List Int)) (b:(List Int)):Nat→Int→Option (Flow Bool Int)
 | 0,_=>none
 | n+1,i1 =>
  bif decide (i1<(a.length:Int)) then
   (idx a i1).bind fun y1 =>
   (idx b i1).bind fun y2 =>
   bif (y1 != y2) then some (.ret false) else
   qfD a b n (W64 (i1+1))
  else
   some (.nxt i1)
def qbt (n:Nat) (a:(List Int)) (b:(List Int)):Option Bool :=
 bif ((a.length:Int) != (b.length:Int)) then some false else
 (qfD a b n 0).bind fun o=>match o with
 | .ret r=>some r
 | .nxt _ =>
  some true
theorem qbk {a:(List Int)} {b:(List Int)} (ha1:GoT.R w (old w) a cs1) (ha2:GoT.R w (old w) b cs2) {r:Bool} (hF:qbt n a b=some r):RetV Tryz.prog 15 [GoT.v (List Int) cs1,GoT.v (List Int) cs2] w r:=by
 obtain ⟨p1,k1,rfl,s1⟩:=ha1
 obtain ⟨p2,k2,rfl,s2⟩:=ha2
 refine zV 26 Tryz.func15 rfl fun h=>X0 13 rfl (qi rfl hF ?_ ?_)<;>intro hF
 ·exact X0 4 rfl (rb h hF rfl)
 refine X0 6 rfl ?_
 obtain ⟨o1,hF,hK1⟩:=qc hF
 refine qm (rL (fun m e w'=>∃ (i1:Int),qfD a b m i1=some o1∧e=[(0,.slice p1 a.length k1),(1,.slice p2 b.length k2),(5,.int .i64 i1)]∧SH w w' []) n ⟨_,hF,rfl,h⟩ rfl ?_)
 rintro m1 e1 w1 ⟨i1,hF,rfl,h⟩
 rcases m1 with _|m1
 ·cases hF
 refine X0 8 rfl (qi rfl hF ?_ ?_)<;>intro hF
 ·refine X0 4 rfl (rD (zd2 rfl ?_))
  obtain ⟨y1,hy1,hF,he1,b1,_,q1,cs3,hp1,hq1,rfl,hc3⟩:=s1.ix hF
  refine zdxe hp1 hq1 he1 rfl (zdc 0 (hc3.below h.below) rfl (zd2 rfl ?_))
  obtain ⟨y2,hy2,hF,he2,b2,_,q2,cs4,hp2,hq2,rfl,hc4⟩:=s2.ix hF
  refine zdxe hp2 hq2 he2 rfl (zdc 0 (hc4.below h.below) rfl (zd1 rfl (dN h fun w2 h=>qi rfl hF ?_ ?_)))<;>intro hF
  ·refine X0 4 rfl ?_
   obtain rfl:=qb hF;replace hF:=hK1
   exact rb h hF rfl
  exact X0 7 rfl (rK ⟨_,hF,rfl,h⟩ rfl)
 refine qr rfl ?_
 obtain rfl:=qb hF;replace hF:=hK1
 exact X0 4 rfl (rb h hF rfl)
def qkM (_:Nat) (a:qax) (b:qax):Option Bool :=
 bif (a.Az.toList != b.Az.toList) then some false else
 bif (a.Bs != b.Bs) then some false else
 bif (a.Bq != b.Bq) then some false else
 bif (!(a.Bm==b.Bm)) then some false else
 some true
theorem qrn {a:qax} {b:qax} (ha1:GoT.R w (old w) a cs1) (ha2:GoT.R w (old w) b cs2) {r:Bool} (hF:qkM n a b=some r):RetV Tryz.prog 291 [GoT.v qax cs1,GoT.v qax cs2] w r:=by
 obtain rfl:=qby ha1
 obtain rfl:=qby ha2
 refine zV 25 Tryz.func291 rfl fun h=>zSR (qt h rfl rfl fun w1 bb1 h=>qt h rfl rfl fun w2 bb2 h=>X2 11 1 0 h rfl (qi rfl hF ?_ ?_))<;>intro hF
 ·exact X0 4 rfl (rb h hF rfl)
 refine X2 10 1 0 h rfl (qi rfl hF ?_ ?_)<;>intro hF
 ·exact X0 4 rfl (rb h hF rfl)
 refine X2 10 1 0 h rfl (qi rfl hF ?_ ?_)<;>intro hF
 ·exact X0 4 rfl (rb h hF rfl)
 refine X2 10 1 0 h rfl (qi rfl hF ?_ ?_)<;>intro hF
 ·exact X0 4 rfl (rb h hF rfl)
 exact X0 5 rfl (rb h hF rfl)
def qgL (a:(List qax)) (b:(List qax)):Nat→Int→Option (Flow Bool Int)
 | 0,_=>none
 | n+1,i1 =>
  bif decide (i1<(a.length:Int)) then
   (idx a i1).bind fun y1 =>
   (idx b i1).bind fun y2 =>
   (qkM n y1 y2).bind fun r1 =>
   bif (!r1) then some (.ret false) else
   qgL a b n (W64 (i1+1))
  else
   some (.nxt i1)
def qlk (n:Nat) (a:(List qax)) (b:(List qax)):Option Bool :=
 bif ((a.length:Int) != (b.length:Int)) then some false else
 (qgL a b n 0).bind fun o=>match o with
 | .ret r=>some r
 | .nxt _ =>
  some true
theorem qqD {a:(List qax)} {b:(List qax)} (ha1:GoT.R w (old w) a cs1) (ha2:GoT.R w (old w) b cs2) {r:Bool} (hF:qlk n a b=some r):RetV Tryz.prog 255 [GoT.v (List qax) cs1,GoT.v (List qax) cs2] w r:=by
 obtain ⟨p1,k1,rfl,s1⟩:=ha1
 obtain ⟨p2,k2,rfl,s2⟩:=ha2
 refine zV 27 Tryz.func255 rfl fun h=>X0 13 rfl (qi rfl hF ?_ ?_)<;>intro hF
 ·exact X0 4 rfl (rb h hF rfl)
 refine X0 6 rfl ?_
 obtain ⟨o1,hF,hK1⟩:=qc hF
 refine qm (rL (fun m e w'=>∃ (i1:Int),qgL a b m i1=some o1∧e=[(0,.slice p1 a.length k1),(1,.slice p2 b.length k2),(5,.int .i64 i1)]∧SH w w' []) n ⟨_,hF,rfl,h⟩ rfl ?_)
 rintro m1 e1 w1 ⟨i1,hF,rfl,h⟩
 rcases m1 with _|m1
 ·cases hF
 refine X0 8 rfl (qi rfl hF ?_ ?_)<;>intro hF
 ·refine X0 4 rfl (rD (zd2 rfl ?_))
  obtain ⟨y1,hy1,hF,he1,b1,_,q1,cs3,hp1,hq1,hr1,hc3⟩:=s1.ix hF
  obtain rfl:=qby hr1
  refine zdxe hp1 hq1 he1 rfl (zdc 0 (hc3.below h.below) rfl (zd2 rfl ?_))
  obtain ⟨y2,hy2,hF,he2,b2,_,q2,cs4,hp2,hq2,hr2,hc4⟩:=s2.ix hF
  obtain rfl:=qby hr2
  refine zdxe hp2 hq2 he2 rfl (zdc 0 (hc4.below h.below) rfl ?_)
  obtain ⟨r1,hr3,hF⟩:=qc hF
  refine qbj r1 (vsB _) (cB 291 rfl) (fun _ hb=>qrn (qjH y1) (qjH y2) hr3) rfl rfl rfl rfl (zd1 rfl (dN h fun w2 h=>qi rfl hF ?_ ?_))<;>intro hF
  ·refine X0 4 rfl ?_
   obtain rfl:=qb hF;replace hF:=hK1
   exact rb h hF rfl
  exact X0 7 rfl (rK ⟨_,hF,rfl,h⟩ rfl)
 refine qr rfl ?_
 obtain rfl:=qb hF;replace hF:=hK1
 exact X0 4 rfl (rb h hF rfl)
def qif (n:Nat) (a:qw) (b:qw):Option Bool :=
 (qbt n a.Bi b.Bi).bind fun r1 =>
 bif (!r1) then some false else
 (qbt n a.Bc b.Bc).bind fun r2 =>
 bif (!r2) then some false else
 (qbt n a.Ba b.Ba).bind fun r3 =>
 bif (!r3) then some false else
 some true
theorem qp0 {a:qw} {b:qw} (ha1:GoT.R w (old w) a cs1) (ha2:GoT.R w (old w) b cs2) {r:Bool} (hF:qif n a b=some r):RetV Tryz.prog 327 [GoT.v qw cs1,GoT.v qw cs2] w r:=by
 obtain ⟨p1,k1,p2,k2,p3,k3,rfl,s1,s2,s3⟩:=qaH ha1
 obtain ⟨p4,k4,p5,k5,p6,k6,rfl,s4,s5,s6⟩:=qaH ha2
 refine zV 23 Tryz.func327 rfl fun h=>zSR (qt h rfl rfl fun w1 bb1 h=>qt h rfl rfl fun w2 bb2 h=>X2 9 1 0 h rfl (zcB h hF (qbk ⟨_,_,rfl,(h.oldS s1)⟩ ⟨_,_,rfl,(h.oldS s4)⟩) rfl fun r1 w3 h hF=>X0 2 rfl (qi rfl hF ?_ ?_)))<;>intro hF
 ·exact X0 4 rfl (rb h hF rfl)
 refine X2 8 1 0 h rfl (zcB h hF (qbk ⟨_,_,rfl,(h.oldS s2)⟩ ⟨_,_,rfl,(h.oldS s5)⟩) rfl fun r2 w4 h hF=>X0 2 rfl (qi rfl hF ?_ ?_))<;>intro hF
 ·exact X0 4 rfl (rb h hF rfl)
 refine X2 8 1 0 h rfl (zcB h hF (qbk ⟨_,_,rfl,(h.oldS s3)⟩ ⟨_,_,rfl,(h.oldS s6)⟩) rfl fun r3 w5 h hF=>X0 2 rfl (qi rfl hF ?_ ?_))<;>intro hF
 ·exact X0 4 rfl (rb h hF rfl)
 exact X0 5 rfl (rb h hF rfl)
end Go.Fw


namespace Go.Fw
open Go Go.Proofs
open Go.RowKit (Below)
set_option maxRecDepth 100000
set_option maxHeartbeats 1600000
variable {n:Nat} {w:World} {cs1 cs2 cs3 cs4 cs5 cs6 cs7 cs8 cs9:List Value}
def qft (a:(List qw)) (b:(List qw)):Nat→Int→Option (Flow Bool Int)
 | 0,_=>none
 | n+1,i1 =>
  bif decide (i1<(a.length:Int)) then
   (idx a i1).bind fun y1 =>
   (idx b i1).bind fun y2 =>
   (qif n y1 y2).bind fun r1 =>
   bif (!r1) then some (.ret false) else
   qft a b n (W64 (i1+1))
  else
   some (.nxt i1)
def qhI (n:Nat) (a:(List qw)) (b:(List qw)):Option Bool :=
 bif ((a.length:Int) != (b.length:Int)) then some false else
 (qft a b n 0).bind fun o=>match o with
 | .ret r=>some r
 | .nxt _ =>
  some true
theorem ql1 {a:(List qw)} {b:(List qw)} (ha1:GoT.R w (old w) a cs1) (ha2:GoT.R w (old w) b cs2) {r:Bool} (hF:qhI n a b=some r):RetV Tryz.prog 312 [GoT.v (List qw) cs1,GoT.v (List qw) cs2] w r:=by
 obtain ⟨p1,k1,rfl,s1⟩:=ha1
 obtain ⟨p2,k2,rfl,s2⟩:=ha2
 refine zV 27 Tryz.func312 rfl fun h=>X0 13 rfl (qi rfl hF ?_ ?_)<;>intro hF
 ·exact X0 4 rfl (rb h hF rfl)
 refine X0 6 rfl ?_
 obtain ⟨o1,hF,hK1⟩:=qc hF
 refine qm (rL (fun m e w'=>∃ (i1:Int),qft a b m i1=some o1∧e=[(0,.slice p1 a.length k1),(1,.slice p2 b.length k2),(5,.int .i64 i1)]∧SH w w' []) n ⟨_,hF,rfl,h⟩ rfl ?_)
 rintro m1 e1 w1 ⟨i1,hF,rfl,h⟩
 rcases m1 with _|m1
 ·cases hF
 refine X0 8 rfl (qi rfl hF ?_ ?_)<;>intro hF
 ·refine X0 4 rfl (rD (zd2 rfl ?_))
  obtain ⟨y1,hy1,hF,he1,b1,_,q1,cs3,hp1,hq1,hr1,hc3⟩:=s1.ix hF
  obtain ⟨p3,k3,p4,k4,p5,k5,rfl,s3,s4,s5⟩:=qaH hr1
  refine zdxe hp1 hq1 he1 rfl (zdc 0 (hc3.below h.below) rfl (zd2 rfl ?_))
  obtain ⟨y2,hy2,hF,he2,b2,_,q2,cs4,hp2,hq2,hr2,hc4⟩:=s2.ix hF
  obtain ⟨p6,k6,p7,k7,p8,k8,rfl,s6,s7,s8⟩:=qaH hr2
  refine zdxe hp2 hq2 he2 rfl (zdc 0 (hc4.below h.below) rfl ?_)
  obtain ⟨r1,hr3,hF⟩:=qc hF
  refine qbj r1 (vsB _) (cB 327 rfl) (fun _ hb=>qp0 (qe8 y1 ((h.ext hb).oldS s3) ((h.ext hb).oldS s4) ((h.ext hb).oldS s5)) (qe8 y2 ((h.ext hb).oldS s6) ((h.ext hb).oldS s7) ((h.ext hb).oldS s8)) hr3) rfl rfl rfl rfl (zd1 rfl (dN h fun w2 h=>qi rfl hF ?_ ?_))<;>intro hF
  ·refine X0 4 rfl ?_
   obtain rfl:=qb hF;replace hF:=hK1
   exact rb h hF rfl
  exact X0 7 rfl (rK ⟨_,hF,rfl,h⟩ rfl)
 refine qr rfl ?_
 obtain rfl:=qb hF;replace hF:=hK1
 exact X0 4 rfl (rb h hF rfl)
def qkx (n:Nat) (a:qS) (b:qS):Option Bool :=
 bif (a.As != b.As) then some false else
 bif (a.Be != b.Be) then some false else
 bif (a.To != b.To) then some false else
 bif (a.Bj != b.Bj) then some false else
 (qhI n a.Bl b.Bl).bind fun r1 =>
 bif (!r1) then some false else
 (qhI n a.Av b.Av).bind fun r2 =>
 bif (!r2) then some false else
 some true
theorem qrl {a:qS} {b:qS} (ha1:GoT.R w (old w) a cs1) (ha2:GoT.R w (old w) b cs2) {r:Bool} (hF:qkx n a b=some r):RetV Tryz.prog 292 [GoT.v qS cs1,GoT.v qS cs2] w r:=by
 obtain ⟨p1,k1,p2,k2,rfl,s1,s2⟩:=qai ha1
 obtain ⟨p3,k3,p4,k4,rfl,s3,s4⟩:=qai ha2
 refine zV 37 Tryz.func292 rfl fun h=>zSR (qt h rfl rfl fun w1 bb1 h=>qt h rfl rfl fun w2 bb2 h=>X2 11 1 0 h rfl (qi rfl hF ?_ ?_))<;>intro hF
 ·exact X0 4 rfl (rb h hF rfl)
 refine X2 10 1 0 h rfl (qi rfl hF ?_ ?_)<;>intro hF
 ·exact X0 4 rfl (rb h hF rfl)
 refine X2 10 1 0 h rfl (qi rfl hF ?_ ?_)<;>intro hF
 ·exact X0 4 rfl (rb h hF rfl)
 refine X2 10 1 0 h rfl (qi rfl hF ?_ ?_)<;>intro hF
 ·exact X0 4 rfl (rb h hF rfl)
 refine X2 8 1 0 h rfl (zcB h hF (ql1 ⟨_,_,rfl,(h.oldS s1)⟩ ⟨_,_,rfl,(h.oldS s3)⟩) rfl fun r1 w3 h hF=>X0 2 rfl (qi rfl hF ?_ ?_))<;>intro hF
 ·exact X0 4 rfl (rb h hF rfl)
 refine X2 8 1 0 h rfl (zcB h hF (ql1 ⟨_,_,rfl,(h.oldS s2)⟩ ⟨_,_,rfl,(h.oldS s4)⟩) rfl fun r2 w4 h hF=>X0 2 rfl (qi rfl hF ?_ ?_))<;>intro hF
 ·exact X0 4 rfl (rb h hF rfl)
 exact X0 5 rfl (rb h hF rfl)
def qgK (a:(List qS)) (b:(List qS)):Nat→Int→Option (Flow Bool Int)
 | 0,_=>none
 | n+1,i1 =>
  bif decide (i1<(a.length:Int)) then
   (idx a i1).bind fun y1 =>
   (idx b i1).bind fun y2 =>
   (qkx n y1 y2).bind fun r1 =>
   bif (!r1) then some (.ret false) else
   qgK a b n (W64 (i1+1))
  else
   some (.nxt i1)
def qk6 (n:Nat) (a:(List qS)) (b:(List qS)):Option Bool :=
 bif ((a.length:Int) != (b.length:Int)) then some false else
 (qgK a b n 0).bind fun o=>match o with
 | .ret r=>some r
 | .nxt _ =>
  some true
theorem qq1 {a:(List qS)} {b:(List qS)} (ha1:GoT.R w (old w) a cs1) (ha2:GoT.R w (old w) b cs2) {r:Bool} (hF:qk6 n a b=some r):RetV Tryz.prog 256 [GoT.v (List qS) cs1,GoT.v (List qS) cs2] w r:=by
 obtain ⟨p1,k1,rfl,s1⟩:=ha1
 obtain ⟨p2,k2,rfl,s2⟩:=ha2
 refine zV 27 Tryz.func256 rfl fun h=>X0 13 rfl (qi rfl hF ?_ ?_)<;>intro hF
 ·exact X0 4 rfl (rb h hF rfl)
 refine X0 6 rfl ?_
 obtain ⟨o1,hF,hK1⟩:=qc hF
 refine qm (rL (fun m e w'=>∃ (i1:Int),qgK a b m i1=some o1∧e=[(0,.slice p1 a.length k1),(1,.slice p2 b.length k2),(5,.int .i64 i1)]∧SH w w' []) n ⟨_,hF,rfl,h⟩ rfl ?_)
 rintro m1 e1 w1 ⟨i1,hF,rfl,h⟩
 rcases m1 with _|m1
 ·cases hF
 refine X0 8 rfl (qi rfl hF ?_ ?_)<;>intro hF
 ·refine X0 4 rfl (rD (zd2 rfl ?_))
  obtain ⟨y1,hy1,hF,he1,b1,_,q1,cs3,hp1,hq1,hr1,hc3⟩:=s1.ix hF
  obtain ⟨p3,k3,p4,k4,rfl,s3,s4⟩:=qai hr1
  refine zdxe hp1 hq1 he1 rfl (zdc 0 (hc3.below h.below) rfl (zd2 rfl ?_))
  obtain ⟨y2,hy2,hF,he2,b2,_,q2,cs4,hp2,hq2,hr2,hc4⟩:=s2.ix hF
  obtain ⟨p5,k5,p6,k6,rfl,s5,s6⟩:=qai hr2
  refine zdxe hp2 hq2 he2 rfl (zdc 0 (hc4.below h.below) rfl ?_)
  obtain ⟨r1,hr3,hF⟩:=qc hF
  refine qbj r1 (vsB _) (cB 292 rfl) (fun _ hb=>qrl (qfp y1 ((h.ext hb).oldS s3) ((h.ext hb).oldS s4)) (qfp y2 ((h.ext hb).oldS s5) ((h.ext hb).oldS s6)) hr3) rfl rfl rfl rfl (zd1 rfl (dN h fun w2 h=>qi rfl hF ?_ ?_))<;>intro hF
  ·refine X0 4 rfl ?_
   obtain rfl:=qb hF;replace hF:=hK1
   exact rb h hF rfl
  exact X0 7 rfl (rK ⟨_,hF,rfl,h⟩ rfl)
 refine qr rfl ?_
 obtain rfl:=qb hF;replace hF:=hK1
 exact X0 4 rfl (rb h hF rfl)
def qjC (n:Nat) (a:qC) (b:qC):Option Bool :=
 bif (a.Az.toList != b.Az.toList) then some false else
 bif (a.As != b.As) then some false else
 (qlk n a.Ay b.Ay).bind fun r1 =>
 bif (!r1) then some false else
 (qk6 n a.Am b.Am).bind fun r2 =>
 bif (!r2) then some false else
 (qbt n a.Bn b.Bn).bind fun r3 =>
 bif (!r3) then some false else
 bif (a.Bx != b.Bx) then some false else
 bif (a.Br != b.Br) then some false else
 some true
theorem qqz {a:qC} {b:qC} (ha1:GoT.R w (old w) a cs1) (ha2:GoT.R w (old w) b cs2) {r:Bool} (hF:qjC n a b=some r):RetV Tryz.prog 209 [GoT.v qC cs1,GoT.v qC cs2] w r:=by
 obtain ⟨p1,k1,p2,k2,p3,k3,rfl,s1,s2,s3⟩:=qaf ha1
 obtain ⟨p4,k4,p5,k5,p6,k6,rfl,s4,s5,s6⟩:=qaf ha2
 refine zV 43 Tryz.func209 rfl fun h=>zSR (qt h rfl rfl fun w1 bb1 h=>qt h rfl rfl fun w2 bb2 h=>X2 11 1 0 h rfl (qi rfl hF ?_ ?_))<;>intro hF
 ·exact X0 4 rfl (rb h hF rfl)
 refine X2 10 1 0 h rfl (qi rfl hF ?_ ?_)<;>intro hF
 ·exact X0 4 rfl (rb h hF rfl)
 refine X2 8 1 0 h rfl (zcB h hF (qqD ⟨_,_,rfl,(h.oldS s1)⟩ ⟨_,_,rfl,(h.oldS s4)⟩) rfl fun r1 w3 h hF=>X0 2 rfl (qi rfl hF ?_ ?_))<;>intro hF
 ·exact X0 4 rfl (rb h hF rfl)
 refine X2 8 1 0 h rfl (zcB h hF (qq1 ⟨_,_,rfl,(h.oldS s2)⟩ ⟨_,_,rfl,(h.oldS s5)⟩) rfl fun r2 w4 h hF=>X0 2 rfl (qi rfl hF ?_ ?_))<;>intro hF
 ·exact X0 4 rfl (rb h hF rfl)
 refine X2 8 1 0 h rfl (zcB h hF (qbk ⟨_,_,rfl,(h.oldS s3)⟩ ⟨_,_,rfl,(h.oldS s6)⟩) rfl fun r3 w5 h hF=>X0 2 rfl (qi rfl hF ?_ ?_))<;>intro hF
 ·exact X0 4 rfl (rb h hF rfl)
 refine X2 10 1 0 h rfl (qi rfl hF ?_ ?_)<;>intro hF
 ·exact X0 4 rfl (rb h hF rfl)
 refine X2 10 1 0 h rfl (qi rfl hF ?_ ?_)<;>intro hF
 ·exact X0 4 rfl (rb h hF rfl)
 exact X0 5 rfl (rb h hF rfl)
def qgg (a:(List qC)) (b:(List qC)):Nat→Int→Option (Flow Bool Int)
 | 0,_=>none
 | n+1,i1 =>
  bif decide (i1<(a.length:Int)) then
   (idx a i1).bind fun y1 =>
   (idx b i1).bind fun y2 =>
   (qjC n y1 y2).bind fun r1 =>
   bif (!r1) then some (.ret false) else
   qgg a b n (W64 (i1+1))
  else
   some (.nxt i1)
def qj4 (n:Nat) (a:(List qC)) (b:(List qC)):Option Bool :=
 bif ((a.length:Int) != (b.length:Int)) then some false else
 (qgg a b n 0).bind fun o=>match o with
 | .ret r=>some r
 | .nxt _ =>
  some true
theorem qqf {a:(List qC)} {b:(List qC)} (ha1:GoT.R w (old w) a cs1) (ha2:GoT.R w (old w) b cs2) {r:Bool} (hF:qj4 n a b=some r):RetV Tryz.prog 134 [GoT.v (List qC) cs1,GoT.v (List qC) cs2] w r:=by
 obtain ⟨p1,k1,rfl,s1⟩:=ha1
 obtain ⟨p2,k2,rfl,s2⟩:=ha2
 refine zV 27 Tryz.func134 rfl fun h=>X0 13 rfl (qi rfl hF ?_ ?_)<;>intro hF
 ·exact X0 4 rfl (rb h hF rfl)
 refine X0 6 rfl ?_
 obtain ⟨o1,hF,hK1⟩:=qc hF
 refine qm (rL (fun m e w'=>∃ (i1:Int),qgg a b m i1=some o1∧e=[(0,.slice p1 a.length k1),(1,.slice p2 b.length k2),(5,.int .i64 i1)]∧SH w w' []) n ⟨_,hF,rfl,h⟩ rfl ?_)
 rintro m1 e1 w1 ⟨i1,hF,rfl,h⟩
 rcases m1 with _|m1
 ·cases hF
 refine X0 8 rfl (qi rfl hF ?_ ?_)<;>intro hF
 ·refine X0 4 rfl (rD (zd2 rfl ?_))
  obtain ⟨y1,hy1,hF,he1,b1,_,q1,cs3,hp1,hq1,hr1,hc3⟩:=s1.ix hF
  obtain ⟨p3,k3,p4,k4,p5,k5,rfl,s3,s4,s5⟩:=qaf hr1
  refine zdxe hp1 hq1 he1 rfl (zdc 0 (hc3.below h.below) rfl (zd2 rfl ?_))
  obtain ⟨y2,hy2,hF,he2,b2,_,q2,cs4,hp2,hq2,hr2,hc4⟩:=s2.ix hF
  obtain ⟨p6,k6,p7,k7,p8,k8,rfl,s6,s7,s8⟩:=qaf hr2
  refine zdxe hp2 hq2 he2 rfl (zdc 0 (hc4.below h.below) rfl ?_)
  obtain ⟨r1,hr3,hF⟩:=qc hF
  refine qbj r1 (vsB _) (cB 209 rfl) (fun _ hb=>qqz (qkr y1 ((h.ext hb).oldS s3) ((h.ext hb).oldS s4) ((h.ext hb).oldS s5)) (qkr y2 ((h.ext hb).oldS s6) ((h.ext hb).oldS s7) ((h.ext hb).oldS s8)) hr3) rfl rfl rfl rfl (zd1 rfl (dN h fun w2 h=>qi rfl hF ?_ ?_))<;>intro hF
  ·refine X0 4 rfl ?_
   obtain rfl:=qb hF;replace hF:=hK1
   exact rb h hF rfl
  exact X0 7 rfl (rK ⟨_,hF,rfl,h⟩ rfl)
 refine qr rfl ?_
 obtain rfl:=qb hF;replace hF:=hK1
 exact X0 4 rfl (rb h hF rfl)
def qiR (n:Nat) (a:qv) (b:qv):Option Bool :=
 (qj4 n a.Ap b.Ap).bind fun r1 =>
 bif (!r1) then some false else
 some true
theorem qom {a:qv} {b:qv} (ha1:GoT.R w (old w) a cs1) (ha2:GoT.R w (old w) b cs2) {r:Bool} (hF:qiR n a b=some r):RetV Tryz.prog 58 [GoT.v qv cs1,GoT.v qv cs2] w r:=by
 obtain ⟨p1,k1,rfl,s1⟩:=qbF ha1
 obtain ⟨p2,k2,rfl,s2⟩:=qbF ha2
 refine zV 11 Tryz.func58 rfl fun h=>zSR (qt h rfl rfl fun w1 bb1 h=>qt h rfl rfl fun w2 bb2 h=>X2 9 1 0 h rfl (zcB h hF (qqf ⟨_,_,rfl,(h.oldS s1)⟩ ⟨_,_,rfl,(h.oldS s2)⟩) rfl fun r1 w3 h hF=>X0 2 rfl (qi rfl hF ?_ ?_)))<;>intro hF
 ·exact X0 4 rfl (rb h hF rfl)
 exact X0 5 rfl (rb h hF rfl)
def qgf (n:Nat) (a:qp) (b:qp):Option Bool :=
 bif (a.Az.toList != b.Az.toList) then some false else
 bif (a.Bp != b.Bp) then some false else
 (qbt n a.Ai b.Ai).bind fun r1 =>
 bif (!r1) then some false else
 some true
theorem qoe {a:qp} {b:qp} (ha1:GoT.R w (old w) a cs1) (ha2:GoT.R w (old w) b cs2) {r:Bool} (hF:qgf n a b=some r):RetV Tryz.prog 210 [GoT.v qp cs1,GoT.v qp cs2] w r:=by
 obtain ⟨p1,k1,rfl,s1⟩:=qR ha1
 obtain ⟨p2,k2,rfl,s2⟩:=qR ha2
 refine zV 21 Tryz.func210 rfl fun h=>zSR (qt h rfl rfl fun w1 bb1 h=>qt h rfl rfl fun w2 bb2 h=>X2 11 1 0 h rfl (qi rfl hF ?_ ?_))<;>intro hF
 ·exact X0 4 rfl (rb h hF rfl)
 refine X2 10 1 0 h rfl (qi rfl hF ?_ ?_)<;>intro hF
 ·exact X0 4 rfl (rb h hF rfl)
 refine X2 8 1 0 h rfl (zcB h hF (qbk ⟨_,_,rfl,(h.oldS s1)⟩ ⟨_,_,rfl,(h.oldS s2)⟩) rfl fun r1 w3 h hF=>X0 2 rfl (qi rfl hF ?_ ?_))<;>intro hF
 ·exact X0 4 rfl (rb h hF rfl)
 exact X0 5 rfl (rb h hF rfl)
def qdT (a:(List qp)) (b:(List qp)):Nat→Int→Option (Flow Bool Int)
 | 0,_=>none
 | n+1,i1 =>
  bif decide (i1<(a.length:Int)) then
   (idx a i1).bind fun y1 =>
   (idx b i1).bind fun y2 =>
   (qgf n y1 y2).bind fun r1 =>
   bif (!r1) then some (.ret false) else
   qdT a b n (W64 (i1+1))
  else
   some (.nxt i1)
def qg4 (n:Nat) (a:(List qp)) (b:(List qp)):Option Bool :=
 bif ((a.length:Int) != (b.length:Int)) then some false else
 (qdT a b n 0).bind fun o=>match o with
 | .ret r=>some r
 | .nxt _ =>
  some true
theorem qnY {a:(List qp)} {b:(List qp)} (ha1:GoT.R w (old w) a cs1) (ha2:GoT.R w (old w) b cs2) {r:Bool} (hF:qg4 n a b=some r):RetV Tryz.prog 135 [GoT.v (List qp) cs1,GoT.v (List qp) cs2] w r:=by
 obtain ⟨p1,k1,rfl,s1⟩:=ha1
 obtain ⟨p2,k2,rfl,s2⟩:=ha2
 refine zV 27 Tryz.func135 rfl fun h=>X0 13 rfl (qi rfl hF ?_ ?_)<;>intro hF
 ·exact X0 4 rfl (rb h hF rfl)
 refine X0 6 rfl ?_
 obtain ⟨o1,hF,hK1⟩:=qc hF
 refine qm (rL (fun m e w'=>∃ (i1:Int),qdT a b m i1=some o1∧e=[(0,.slice p1 a.length k1),(1,.slice p2 b.length k2),(5,.int .i64 i1)]∧SH w w' []) n ⟨_,hF,rfl,h⟩ rfl ?_)
 rintro m1 e1 w1 ⟨i1,hF,rfl,h⟩
 rcases m1 with _|m1
 ·cases hF
 refine X0 8 rfl (qi rfl hF ?_ ?_)<;>intro hF
 ·refine X0 4 rfl (rD (zd2 rfl ?_))
  obtain ⟨y1,hy1,hF,he1,b1,_,q1,cs3,hp1,hq1,hr1,hc3⟩:=s1.ix hF
  obtain ⟨p3,k3,rfl,s3⟩:=qR hr1
  refine zdxe hp1 hq1 he1 rfl (zdc 0 (hc3.below h.below) rfl (zd2 rfl ?_))
  obtain ⟨y2,hy2,hF,he2,b2,_,q2,cs4,hp2,hq2,hr2,hc4⟩:=s2.ix hF
  obtain ⟨p4,k4,rfl,s4⟩:=qR hr2
  refine zdxe hp2 hq2 he2 rfl (zdc 0 (hc4.below h.below) rfl ?_)
  obtain ⟨r1,hr3,hF⟩:=qc hF
  refine qbj r1 (vsB _) (cB 210 rfl) (fun _ hb=>qoe (qgo y1 ((h.ext hb).oldS s3)) (qgo y2 ((h.ext hb).oldS s4)) hr3) rfl rfl rfl rfl (zd1 rfl (dN h fun w2 h=>qi rfl hF ?_ ?_))<;>intro hF
  ·refine X0 4 rfl ?_
   obtain rfl:=qb hF;replace hF:=hK1
   exact rb h hF rfl
  exact X0 7 rfl (rK ⟨_,hF,rfl,h⟩ rfl)
 refine qr rfl ?_
 obtain rfl:=qb hF;replace hF:=hK1
 exact X0 4 rfl (rb h hF rfl)
def qeU (a:(List ByteArray)) (b:(List ByteArray)):Nat→Int→Option (Flow Bool Int)
 | 0,_=>none
 | n+1,i1 =>
  bif decide (i1<(a.length:Int)) then
   (idx a i1).bind fun y1 =>
   (idx b i1).bind fun y2 =>
   bif (y1.toList != y2.toList) then some (.ret false) else
   qeU a b n (W64 (i1+1))
  else
   some (.nxt i1)
def qij (n:Nat) (a:(List ByteArray)) (b:(List ByteArray)):Option Bool :=
 bif ((a.length:Int) != (b.length:Int)) then some false else
 (qeU a b n 0).bind fun o=>match o with
 | .ret r=>some r
 | .nxt _ =>
  some true
theorem qoQ {a:(List ByteArray)} {b:(List ByteArray)} (ha1:GoT.R w (old w) a cs1) (ha2:GoT.R w (old w) b cs2) {r:Bool} (hF:qij n a b=some r):RetV Tryz.prog 136 [GoT.v (List ByteArray) cs1,GoT.v (List ByteArray) cs2] w r:=by
 obtain ⟨p1,k1,rfl,s1⟩:=ha1
 obtain ⟨p2,k2,rfl,s2⟩:=ha2
 refine zV 26 Tryz.func136 rfl fun h=>X0 13 rfl (qi rfl hF ?_ ?_)<;>intro hF
 ·exact X0 4 rfl (rb h hF rfl)
 refine X0 6 rfl ?_
 obtain ⟨o1,hF,hK1⟩:=qc hF
 refine qm (rL (fun m e w'=>∃ (i1:Int),qeU a b m i1=some o1∧e=[(0,.slice p1 a.length k1),(1,.slice p2 b.length k2),(5,.int .i64 i1)]∧SH w w' []) n ⟨_,hF,rfl,h⟩ rfl ?_)
 rintro m1 e1 w1 ⟨i1,hF,rfl,h⟩
 rcases m1 with _|m1
 ·cases hF
 refine X0 8 rfl (qi rfl hF ?_ ?_)<;>intro hF
 ·refine X0 4 rfl (rD (zd2 rfl ?_))
  obtain ⟨y1,hy1,hF,he1,b1,_,q1,cs3,hp1,hq1,rfl,hc3⟩:=s1.ix hF
  refine zdxe hp1 hq1 he1 rfl (zdc 0 (hc3.below h.below) rfl (zd2 rfl ?_))
  obtain ⟨y2,hy2,hF,he2,b2,_,q2,cs4,hp2,hq2,rfl,hc4⟩:=s2.ix hF
  refine zdxe hp2 hq2 he2 rfl (zdc 0 (hc4.below h.below) rfl (zd1 rfl (dN h fun w2 h=>qi rfl hF ?_ ?_)))<;>intro hF
  ·refine X0 4 rfl ?_
   obtain rfl:=qb hF;replace hF:=hK1
   exact rb h hF rfl
  exact X0 7 rfl (rK ⟨_,hF,rfl,h⟩ rfl)
 refine qr rfl ?_
 obtain rfl:=qb hF;replace hF:=hK1
 exact X0 4 rfl (rb h hF rfl)
def qjA (_:Nat) (a:qar) (b:qar):Option Bool :=
 bif (a.Az.toList != b.Az.toList) then some false else
 bif (a.Bs != b.Bs) then some false else
 bif (a.Bu != b.Bu) then some false else
 some true
theorem qqS {a:qar} {b:qar} (ha1:GoT.R w (old w) a cs1) (ha2:GoT.R w (old w) b cs2) {r:Bool} (hF:qjA n a b=some r):RetV Tryz.prog 211 [GoT.v qar cs1,GoT.v qar cs2] w r:=by
 obtain rfl:=qbh ha1
 obtain rfl:=qbh ha2
 refine zV 20 Tryz.func211 rfl fun h=>zSR (qt h rfl rfl fun w1 bb1 h=>qt h rfl rfl fun w2 bb2 h=>X2 11 1 0 h rfl (qi rfl hF ?_ ?_))<;>intro hF
 ·exact X0 4 rfl (rb h hF rfl)
 refine X2 10 1 0 h rfl (qi rfl hF ?_ ?_)<;>intro hF
 ·exact X0 4 rfl (rb h hF rfl)
 refine X2 10 1 0 h rfl (qi rfl hF ?_ ?_)<;>intro hF
 ·exact X0 4 rfl (rb h hF rfl)
 exact X0 5 rfl (rb h hF rfl)
def qf7 (a:(List qar)) (b:(List qar)):Nat→Int→Option (Flow Bool Int)
 | 0,_=>none
 | n+1,i1 =>
  bif decide (i1<(a.length:Int)) then
   (idx a i1).bind fun y1 =>
   (idx b i1).bind fun y2 =>
   (qjA n y1 y2).bind fun r1 =>
   bif (!r1) then some (.ret false) else
   qf7 a b n (W64 (i1+1))
  else
   some (.nxt i1)
def qj6 (n:Nat) (a:(List qar)) (b:(List qar)):Option Bool :=
 bif ((a.length:Int) != (b.length:Int)) then some false else
 (qf7 a b n 0).bind fun o=>match o with
 | .ret r=>some r
 | .nxt _ =>
  some true
theorem qp3 {a:(List qar)} {b:(List qar)} (ha1:GoT.R w (old w) a cs1) (ha2:GoT.R w (old w) b cs2) {r:Bool} (hF:qj6 n a b=some r):RetV Tryz.prog 137 [GoT.v (List qar) cs1,GoT.v (List qar) cs2] w r:=by
 obtain ⟨p1,k1,rfl,s1⟩:=ha1
 obtain ⟨p2,k2,rfl,s2⟩:=ha2
 refine zV 27 Tryz.func137 rfl fun h=>X0 13 rfl (qi rfl hF ?_ ?_)<;>intro hF
 ·exact X0 4 rfl (rb h hF rfl)
 refine X0 6 rfl ?_
 obtain ⟨o1,hF,hK1⟩:=qc hF
 refine qm (rL (fun m e w'=>∃ (i1:Int),qf7 a b m i1=some o1∧e=[(0,.slice p1 a.length k1),(1,.slice p2 b.length k2),(5,.int .i64 i1)]∧SH w w' []) n ⟨_,hF,rfl,h⟩ rfl ?_)
 rintro m1 e1 w1 ⟨i1,hF,rfl,h⟩
 rcases m1 with _|m1
 ·cases hF
 refine X0 8 rfl (qi rfl hF ?_ ?_)<;>intro hF
 ·refine X0 4 rfl (rD (zd2 rfl ?_))
  obtain ⟨y1,hy1,hF,he1,b1,_,q1,cs3,hp1,hq1,hr1,hc3⟩:=s1.ix hF
  obtain rfl:=qbh hr1
  refine zdxe hp1 hq1 he1 rfl (zdc 0 (hc3.below h.below) rfl (zd2 rfl ?_))
  obtain ⟨y2,hy2,hF,he2,b2,_,q2,cs4,hp2,hq2,hr2,hc4⟩:=s2.ix hF
  obtain rfl:=qbh hr2
  refine zdxe hp2 hq2 he2 rfl (zdc 0 (hc4.below h.below) rfl ?_)
  obtain ⟨r1,hr3,hF⟩:=qc hF
  refine qbj r1 (vsB _) (cB 211 rfl) (fun _ hb=>qqS (qiU y1) (qiU y2) hr3) rfl rfl rfl rfl (zd1 rfl (dN h fun w2 h=>qi rfl hF ?_ ?_))<;>intro hF
  ·refine X0 4 rfl ?_
   obtain rfl:=qb hF;replace hF:=hK1
   exact rb h hF rfl
  exact X0 7 rfl (rK ⟨_,hF,rfl,h⟩ rfl)
 refine qr rfl ?_
 obtain rfl:=qb hF;replace hF:=hK1
 exact X0 4 rfl (rb h hF rfl)
def qji (n:Nat) (a:qf) (b:qf):Option Bool :=
 (qg4 n a.Ab b.Ab).bind fun r1 =>
 bif (!r1) then some false else
 (qij n a.Ai b.Ai).bind fun r2 =>
 bif (!r2) then some false else
 (qj6 n a.Ah b.Ah).bind fun r3 =>
 bif (!r3) then some false else
 some true
theorem qpq {a:qf} {b:qf} (ha1:GoT.R w (old w) a cs1) (ha2:GoT.R w (old w) b cs2) {r:Bool} (hF:qji n a b=some r):RetV Tryz.prog 59 [GoT.v qf cs1,GoT.v qf cs2] w r:=by
 obtain ⟨p1,k1,p2,k2,p3,k3,rfl,s1,s2,s3⟩:=qaA ha1
 obtain ⟨p4,k4,p5,k5,p6,k6,rfl,s4,s5,s6⟩:=qaA ha2
 refine zV 23 Tryz.func59 rfl fun h=>zSR (qt h rfl rfl fun w1 bb1 h=>qt h rfl rfl fun w2 bb2 h=>X2 9 1 0 h rfl (zcB h hF (qnY ⟨_,_,rfl,(h.oldS s1)⟩ ⟨_,_,rfl,(h.oldS s4)⟩) rfl fun r1 w3 h hF=>X0 2 rfl (qi rfl hF ?_ ?_)))<;>intro hF
 ·exact X0 4 rfl (rb h hF rfl)
 refine X2 8 1 0 h rfl (zcB h hF (qoQ ⟨_,_,rfl,(h.oldS s2)⟩ ⟨_,_,rfl,(h.oldS s5)⟩) rfl fun r2 w4 h hF=>X0 2 rfl (qi rfl hF ?_ ?_))<;>intro hF
 ·exact X0 4 rfl (rb h hF rfl)
 refine X2 8 1 0 h rfl (zcB h hF (qp3 ⟨_,_,rfl,(h.oldS s3)⟩ ⟨_,_,rfl,(h.oldS s6)⟩) rfl fun r3 w5 h hF=>X0 2 rfl (qi rfl hF ?_ ?_))<;>intro hF
 ·exact X0 4 rfl (rb h hF rfl)
 exact X0 5 rfl (rb h hF rfl)
def qju (n:Nat) (a:qT) (b:qT):Option Bool :=
 (qbt n a.Ak b.Ak).bind fun r1 =>
 bif (!r1) then some false else
 (qbt n a.Bt b.Bt).bind fun r2 =>
 bif (!r2) then some false else
 (qbt n a.Bq b.Bq).bind fun r3 =>
 bif (!r3) then some false else
 (qbt n a.Bh b.Bh).bind fun r4 =>
 bif (!r4) then some false else
 some true
theorem qqx {a:qT} {b:qT} (ha1:GoT.R w (old w) a cs1) (ha2:GoT.R w (old w) b cs2) {r:Bool} (hF:qju n a b=some r):RetV Tryz.prog 138 [GoT.v qT cs1,GoT.v qT cs2] w r:=by
 obtain ⟨p1,k1,p2,k2,p3,k3,p4,k4,rfl,s1,s2,s3,s4⟩:=qaQ ha1
 obtain ⟨p5,k5,p6,k6,p7,k7,p8,k8,rfl,s5,s6,s7,s8⟩:=qaQ ha2
 refine zV 29 Tryz.func138 rfl fun h=>zSR (qt h rfl rfl fun w1 bb1 h=>qt h rfl rfl fun w2 bb2 h=>X2 9 1 0 h rfl (zcB h hF (qbk ⟨_,_,rfl,(h.oldS s1)⟩ ⟨_,_,rfl,(h.oldS s5)⟩) rfl fun r1 w3 h hF=>X0 2 rfl (qi rfl hF ?_ ?_)))<;>intro hF
 ·exact X0 4 rfl (rb h hF rfl)
 refine X2 8 1 0 h rfl (zcB h hF (qbk ⟨_,_,rfl,(h.oldS s2)⟩ ⟨_,_,rfl,(h.oldS s6)⟩) rfl fun r2 w4 h hF=>X0 2 rfl (qi rfl hF ?_ ?_))<;>intro hF
 ·exact X0 4 rfl (rb h hF rfl)
 refine X2 8 1 0 h rfl (zcB h hF (qbk ⟨_,_,rfl,(h.oldS s3)⟩ ⟨_,_,rfl,(h.oldS s7)⟩) rfl fun r3 w5 h hF=>X0 2 rfl (qi rfl hF ?_ ?_))<;>intro hF
 ·exact X0 4 rfl (rb h hF rfl)
 refine X2 8 1 0 h rfl (zcB h hF (qbk ⟨_,_,rfl,(h.oldS s4)⟩ ⟨_,_,rfl,(h.oldS s8)⟩) rfl fun r4 w6 h hF=>X0 2 rfl (qi rfl hF ?_ ?_))<;>intro hF
 ·exact X0 4 rfl (rb h hF rfl)
 exact X0 5 rfl (rb h hF rfl)
def qf0 (a:(List qT)) (b:(List qT)):Nat→Int→Option (Flow Bool Int)
 | 0,_=>none
 | n+1,i1 =>
  bif decide (i1<(a.length:Int)) then
   (idx a i1).bind fun y1 =>
   (idx b i1).bind fun y2 =>
   (qju n y1 y2).bind fun r1 =>
   bif (!r1) then some (.ret false) else
   qf0 a b n (W64 (i1+1))
  else
   some (.nxt i1)
def qj8 (n:Nat) (a:(List qT)) (b:(List qT)):Option Bool :=
 bif ((a.length:Int) != (b.length:Int)) then some false else
 (qf0 a b n 0).bind fun o=>match o with
 | .ret r=>some r
 | .nxt _ =>
  some true
theorem qp8 {a:(List qT)} {b:(List qT)} (ha1:GoT.R w (old w) a cs1) (ha2:GoT.R w (old w) b cs2) {r:Bool} (hF:qj8 n a b=some r):RetV Tryz.prog 60 [GoT.v (List qT) cs1,GoT.v (List qT) cs2] w r:=by
 obtain ⟨p1,k1,rfl,s1⟩:=ha1
 obtain ⟨p2,k2,rfl,s2⟩:=ha2
 refine zV 27 Tryz.func60 rfl fun h=>X0 13 rfl (qi rfl hF ?_ ?_)<;>intro hF
 ·exact X0 4 rfl (rb h hF rfl)
 refine X0 6 rfl ?_
 obtain ⟨o1,hF,hK1⟩:=qc hF
 refine qm (rL (fun m e w'=>∃ (i1:Int),qf0 a b m i1=some o1∧e=[(0,.slice p1 a.length k1),(1,.slice p2 b.length k2),(5,.int .i64 i1)]∧SH w w' []) n ⟨_,hF,rfl,h⟩ rfl ?_)
 rintro m1 e1 w1 ⟨i1,hF,rfl,h⟩
 rcases m1 with _|m1
 ·cases hF
 refine X0 8 rfl (qi rfl hF ?_ ?_)<;>intro hF
 ·refine X0 4 rfl (rD (zd2 rfl ?_))
  obtain ⟨y1,hy1,hF,he1,b1,_,q1,cs3,hp1,hq1,hr1,hc3⟩:=s1.ix hF
  obtain ⟨p3,k3,p4,k4,p5,k5,p6,k6,rfl,s3,s4,s5,s6⟩:=qaQ hr1
  refine zdxe hp1 hq1 he1 rfl (zdc 0 (hc3.below h.below) rfl (zd2 rfl ?_))
  obtain ⟨y2,hy2,hF,he2,b2,_,q2,cs4,hp2,hq2,hr2,hc4⟩:=s2.ix hF
  obtain ⟨p7,k7,p8,k8,p9,k9,p10,k10,rfl,s7,s8,s9,s10⟩:=qaQ hr2
  refine zdxe hp2 hq2 he2 rfl (zdc 0 (hc4.below h.below) rfl ?_)
  obtain ⟨r1,hr3,hF⟩:=qc hF
  refine qbj r1 (vsB _) (cB 138 rfl) (fun _ hb=>qqx (qkl y1 ((h.ext hb).oldS s3) ((h.ext hb).oldS s4) ((h.ext hb).oldS s5) ((h.ext hb).oldS s6)) (qkl y2 ((h.ext hb).oldS s7) ((h.ext hb).oldS s8) ((h.ext hb).oldS s9) ((h.ext hb).oldS s10)) hr3) rfl rfl rfl rfl (zd1 rfl (dN h fun w2 h=>qi rfl hF ?_ ?_))<;>intro hF
  ·refine X0 4 rfl ?_
   obtain rfl:=qb hF;replace hF:=hK1
   exact rb h hF rfl
  exact X0 7 rfl (rK ⟨_,hF,rfl,h⟩ rfl)
 refine qr rfl ?_
 obtain rfl:=qb hF;replace hF:=hK1
 exact X0 4 rfl (rb h hF rfl)
def qj9 (n:Nat) (a:qe) (b:qe):Option Bool :=
 (qiR n (⟨a.Aq.Ap⟩:qv) (⟨b.Aq.Ap⟩:qv)).bind fun r1 =>
 bif (!r1) then some false else
 (qji n (⟨a.Aa.Ab,a.Aa.Ai,a.Aa.Ah⟩:qf) (⟨b.Aa.Ab,b.Aa.Ai,b.Aa.Ah⟩:qf)).bind fun r2 =>
 bif (!r2) then some false else
 (qj8 n a.Ac b.Ac).bind fun r3 =>
 bif (!r3) then some false else
 some true
theorem qpY {a:qe} {b:qe} (ha1:GoT.R w (old w) a cs1) (ha2:GoT.R w (old w) b cs2) {r:Bool} (hF:qj9 n a b=some r):RetV Tryz.prog 16 [GoT.v qe cs1,GoT.v qe cs2] w r:=by
 obtain ⟨p1,k1,p2,k2,p3,k3,p4,k4,p5,k5,rfl,s1,s2,s3,s4,s5⟩:=qD ha1
 obtain ⟨p6,k6,p7,k7,p8,k8,p9,k9,p10,k10,rfl,s6,s7,s8,s9,s10⟩:=qD ha2
 refine zV 23 Tryz.func16 rfl fun h=>zSR (qt h rfl rfl fun w1 bb1 h=>qt h rfl rfl fun w2 bb2 h=>X2 9 1 0 h rfl (zcB h hF (qom (qeX _ (h.oldS s1)) (qeX _ (h.oldS s6))) rfl fun r1 w3 h hF=>X0 2 rfl (qi rfl hF ?_ ?_)))<;>intro hF
 ·exact X0 4 rfl (rb h hF rfl)
 refine X2 8 1 0 h rfl (zcB h hF (qpq (qan _ (h.oldS s2) (h.oldS s3) (h.oldS s4)) (qan _ (h.oldS s7) (h.oldS s8) (h.oldS s9))) rfl fun r2 w4 h hF=>X0 2 rfl (qi rfl hF ?_ ?_))<;>intro hF
 ·exact X0 4 rfl (rb h hF rfl)
 refine X2 8 1 0 h rfl (zcB h hF (qp8 ⟨_,_,rfl,(h.oldS s5)⟩ ⟨_,_,rfl,(h.oldS s10)⟩) rfl fun r3 w5 h hF=>X0 2 rfl (qi rfl hF ?_ ?_))<;>intro hF
 ·exact X0 4 rfl (rb h hF rfl)
 exact X0 5 rfl (rb h hF rfl)
def qao (_:Nat) (a_n:Int) (low:Int) (high:Int):Option Bool :=
 bif decide (a_n ≥ low) then some (decide (a_n≤high)) else
 some false
theorem qX {a_n:Int} {low:Int} {high:Int}  {r:Bool} (hF:qao n a_n low high=some r):RetV Tryz.prog 84 [.int .i64 a_n,.int .i64 low,.int .i64 high] w r:=by
 refine zV 15 Tryz.func84 rfl fun h=>X0 10 rfl (qh (t:=10) hF rfl ?_ ?_)<;>intro hF
 ·exact X0 9 rfl (rb h hF rfl)
 exact X0 6 rfl (rb h hF rfl)
def qdQ (s:ByteArray):Nat→Int→Option (Flow Bool Int)
 | 0,_=>none
 | n+1,i1 =>
  bif decide (i1<(s.size:Int)) then
   (
    (atS s i1).bind fun y3 =>
    bif decide (y3 ≥ 97) then
     (atS s i1).bind fun y4 =>
     some (decide (y4≤122))
    else
     some false).bind fun b1 =>
   (
    (atS s i1).bind fun y1 =>
    bif decide (y1 ≥ 48) then
     (atS s i1).bind fun y2 =>
     some (decide (y2≤57))
    else
     some false).bind fun b2 =>
   bif (!b1) then
    bif b2 then
     bif (!(decide (i1 > 0))) then some (.ret false) else
     qdQ s n (W64 (i1+1))
    else
     some (.ret false)
   else
    qdQ s n (W64 (i1+1))
  else
   some (.nxt i1)
def qfO (n:Nat) (s:ByteArray):Option Bool :=
 (qdQ s n 0).bind fun o=>match o with
 | .ret r=>some r
 | .nxt _ =>
  bif decide ((s.size:Int) ≥ 1) then some (decide ((s.size:Int)≤8)) else
  some false
theorem qhQ {s:ByteArray}  {r:Bool} (hF:qfO n s=some r):RetV Tryz.prog 147 [.string s] w r:=by
 refine zV 50 Tryz.func147 rfl fun h=>X0 9 rfl ?_
 obtain ⟨o1,hF,hK1⟩:=qc hF
 refine qm (rL (fun m e w'=>∃ (i1:Int),qdQ s m i1=some o1∧e=[(0,.string s),(3,.int .i64 i1)]∧SH w w' []) n ⟨_,hF,rfl,h⟩ rfl ?_)
 rintro m1 e1 w1 ⟨i1,hF,rfl,h⟩
 rcases m1 with _|m1
 ·cases hF
 refine X0 8 rfl (qi rfl hF ?_ ?_)<;>intro hF
 ·refine X0 4 rfl ?_
  obtain ⟨KF2,hKF2,o3,hF,hK3⟩:=bindE hF
  refine qa0 (fun e w'=>∃ (b1:Bool),KF2 b1=some o1∧e=[(0,.string s),(3,.int .i64 i1),(4,.bool b1)]∧SH w w' []) ?_ ?_
  ·refine X0 3 rfl ?_
   obtain ⟨y3,hx3,hF⟩:=qc hF
   have g3:=qno hx3
   refine r_v (qnh qa g3 rfl rfl rfl rfl) rfl (zp2 rfl (qh (t:=16) hF rfl ?_ ?_))<;>intro hF
   ·refine X0 5 rfl ?_
    obtain ⟨y4,hx4,hF⟩:=qc hF
    have g4:=qno hx4
    refine r_v (qnh qa g4 rfl rfl rfl rfl) rfl (X0 5 rfl ?_)
    obtain rfl:=qb hF
    exact rG ⟨_,hK3,rfl,h⟩ rfl
   refine X0 7 rfl ?_
   obtain rfl:=qb hF
   exact rG ⟨_,hK3,rfl,h⟩ rfl
  rintro e3 w3 ⟨b1,hF,rfl,h⟩
  subst hKF2
  refine qci ?_
  obtain ⟨KF1,hKF1,o2,hF,hK2⟩:=bindE hF
  refine qa0 (fun e w'=>∃ (b2:Bool),KF1 b2=some o1∧e=[(0,.string s),(3,.int .i64 i1),(4,.bool b1),(5,.bool b2)]∧SH w w' []) ?_ ?_
  ·refine X0 3 rfl ?_
   obtain ⟨y1,hx1,hF⟩:=qc hF
   have g1:=qno hx1
   refine r_v (qnh qa g1 rfl rfl rfl rfl) rfl (zp2 rfl (qh (t:=26) hF rfl ?_ ?_))<;>intro hF
   ·refine X0 5 rfl ?_
    obtain ⟨y2,hx2,hF⟩:=qc hF
    have g2:=qno hx2
    refine r_v (qnh qa g2 rfl rfl rfl rfl) rfl (X0 5 rfl ?_)
    obtain rfl:=qb hF
    exact rG ⟨_,hK2,rfl,h⟩ rfl
   refine X0 7 rfl ?_
   obtain rfl:=qb hF
   exact rG ⟨_,hK2,rfl,h⟩ rfl
  rintro e2 w2 ⟨b2,hF,rfl,h⟩
  subst hKF1
  refine X0 5 rfl (qh (t:=34) hF rfl ?_ ?_)<;>intro hF
  ·refine X0 4 rfl (qh (t:=36) hF rfl ?_ ?_)<;>intro hF
   ·refine X0 10 rfl (qi rfl hF ?_ ?_)<;>intro hF
    ·refine X0 4 rfl ?_
     obtain rfl:=qb hF;replace hF:=hK1
     exact rb h hF rfl
    exact X0 7 rfl (rK ⟨_,hF,rfl,h⟩ rfl)
   refine X0 8 rfl (qbV rfl rfl (X0 4 rfl ?_))
   obtain rfl:=qb hF;replace hF:=hK1
   exact rb h hF rfl
  exact X0 8 rfl (qbE rfl rfl (X0 7 rfl (rK ⟨_,hF,rfl,h⟩ rfl)))
 refine qr rfl ?_
 obtain rfl:=qb hF;replace hF:=hK1
 refine X0 6 rfl (qh (t:=45) hF rfl ?_ ?_)<;>intro hF
 ·exact X0 9 rfl (rb h hF rfl)
 exact X0 6 rfl (rb h hF rfl)
def qeD (a_0:qC) (i2:Int) (y1:qax):Nat→Int→Option (Flow (Int × Bool) Int)
 | 0,_=>none
 | n+1,i3 =>
  bif decide (i3<i2) then
   (idx a_0.Ay i3).bind fun y2 =>
   bif (y2.Az.toList==y1.Az.toList) then some (.ret (0,false)) else
   qeD a_0 i2 y1 n (W64 (i3+1))
  else
   some (.nxt i3)
def qcU (a_0:qC):Nat→Int→Int→Option (Flow (Int × Bool) (Int × Int))
 | 0,_,_=>none
 | n+1,i1,i2 =>
  bif decide (i2<(a_0.Ay.length:Int)) then
   (idx a_0.Ay i2).bind fun y1 =>
   (qeD a_0 i2 y1 n 0).bind fun o=>match o with
   | .ret r=>some (.ret r)
   | .nxt _ =>
    (
     (qfO n y1.Az).bind fun r1 =>
     bif (!r1) then some true else
     (qao n y1.Bq 0 500).bind fun r2 =>
     some (!r2)).bind fun b4 =>
    bif b4 then some (.ret (0,false)) else
    (
     bif (i2==(W64 ((a_0.Ay.length:Int)-1))) then
      bif (y1.Bs != 2) then some true else
      bif (y1.Bq != 0) then some true else
      bif y1.Bm then some true else
      bif decide (i2<(W64 ((a_0.Ay.length:Int)-1))) then some (y1.Bs != 1) else
      some false
     else
      bif decide (i2<(W64 ((a_0.Ay.length:Int)-1))) then some (y1.Bs != 1) else
      some false).bind fun b5 =>
    bif b5 then some (.ret (0,false)) else
    bif y1.Bm then qcU a_0 n (W64 (i1+1)) (W64 (i2+1)) else
    qcU a_0 n i1 (W64 (i2+1))
  else
   some (.nxt (i1,i2))
def qj5 (n:Nat) (a_0:qC):Option (Int × Bool) :=
 (
  bif decide ((a_0.Ay.length:Int)<2) then some true else
  some (decide ((a_0.Ay.length:Int) > 5))).bind fun b1 =>
 bif b1 then some (0,false) else
 (qcU a_0 n 0 0).bind fun o=>match o with
 | .ret r=>some r
 | .nxt (i1,_) =>
  some (i1,true)
theorem qqc {a_0:qC} (ha1:GoT.R w (old w) a_0 cs1) {r:(Int × Bool)} (hF:qj5 n a_0=some r):RetV Tryz.prog 293 [GoT.v qC cs1] w r:=by
 obtain ⟨p1,k1,p2,k2,p3,k3,rfl,s1,s2,s3⟩:=qaf ha1
 refine zV 86 Tryz.func293 rfl fun h=>zSR (qt h rfl rfl fun w1 bb1 h=>X1 12 0 h rfl ?_)
 obtain ⟨KF3,hKF3,o5,hF,hK5⟩:=bindE hF
 refine qa0 (fun e w'=>∃ (b1:Bool),KF3 b1=some r∧e=[(1,.pointer (some ⟨bb1,0,none⟩)),(4,.int .i64 (a_0.Ay.length:Int)),(17,.bool b1)]∧SH w w' [Ch.box bb1 (qdZ a_0 p1 p2 p3 k1 k2 k3) 251]) ?_ ?_
 ·refine X0 4 rfl (qh (t:=14) hF rfl ?_ ?_)<;>intro hF
  ·refine X0 4 rfl ?_
   obtain rfl:=qb hF
   exact rG ⟨_,hK5,rfl,h⟩ rfl
  refine X0 6 rfl ?_
  obtain rfl:=qb hF
  exact rG ⟨_,hK5,rfl,h⟩ rfl
 rintro e5 w11 ⟨b1,hF,rfl,h⟩
 subst hKF3
 refine qi rfl hF ?_ ?_<;>intro hF
 ·refine X0 5 rfl ?_
  obtain rfl:=qb hF
  exact qU qa (ρ:=(Int × Bool)) [GoT.v Int [.int .i64 0],GoT.v Bool [.bool false]] h ⟨rfl,rfl,trivial⟩ (PV.done h (qag h (qx (S:=fun _=>False) rfl) (qW (qx (S:=fun _=>False) rfl)) (by rfl)))
 refine X0 10 rfl ?_
 obtain ⟨o1,hF,hK1⟩:=qc hF
 refine qm (rL (fun m e w'=>∃ (i1:Int) (i2:Int),qcU a_0 m i1 i2=some o1∧e=[(1,.pointer (some ⟨bb1,0,none⟩)),(4,.int .i64 (a_0.Ay.length:Int)),(5,.int .i64 i1),(6,.int .i64 i2)]∧SH w w' [Ch.box bb1 (qdZ a_0 p1 p2 p3 k1 k2 k3) 251]) n ⟨_,_,hF,rfl,h⟩ rfl ?_)
 rintro m1 e1 w2 ⟨i1,i2,hF,rfl,h⟩
 rcases m1 with _|m1
 ·cases hF
 refine X0 7 rfl (qi rfl hF ?_ ?_)<;>intro hF
 ·refine X1 8 0 h rfl ?_
  obtain ⟨y1,hy1,hF,he1,b2,_,q1,cs2,hp1,hq1,hr1,hc3⟩:=s1.ix hF
  obtain rfl:=qby hr1
  refine zxe hp1 hq1 he1 rfl (zc 0 (hc3.below h.below) rfl (qn qa h rfl rfl rfl fun w3 bb2 h=>zs 0 h rfl fun w4 h=>X0 6 rfl ?_))
  obtain ⟨o2,hF,hK2⟩:=qc hF
  refine qm (rL (fun m e w'=>∃ (i3:Int),qeD a_0 i2 y1 m i3=some o2∧e=[(1,.pointer (some ⟨bb1,0,none⟩)),(4,.int .i64 (a_0.Ay.length:Int)),(5,.int .i64 i1),(6,.int .i64 i2),(7,.pointer (some ⟨bb2,0,none⟩)),(8,.int .i64 i3)]∧SH w w' [Ch.box bb2 (qpe y1) 340,Ch.box bb1 (qdZ a_0 p1 p2 p3 k1 k2 k3) 251]) m1 ⟨_,hF,rfl,h⟩ rfl ?_)
  rintro m2 e2 w5 ⟨i3,hF,rfl,h⟩
  rcases m2 with _|m2
  ·cases hF
  refine X0 7 rfl (qi rfl hF ?_ ?_)<;>intro hF
  ·refine X0 4 rfl (rD (Y1 2 1 h rfl ?_))
   refine zd1 rfl ?_
   obtain ⟨y2,hy2,hF,he2,b3,_,q2,cs3,hp2,hq2,hr2,hc5⟩:=s1.ix hF
   obtain rfl:=qby hr2
   refine zdxe hp2 hq2 he2 rfl (zd1 rfl (zdc 0 (hc5.below h.below) rfl (Y1 2 0 h rfl ?_)))
   refine zd1 rfl (dN h fun w6 h=>qi rfl hF ?_ ?_)<;>intro hF
   ·refine X0 5 rfl ?_
    obtain rfl:=qb hF;replace hF:=hK2
    obtain rfl:=qb hF;replace hF:=hK1
    obtain rfl:=qb hF
    exact qU qa (ρ:=(Int × Bool)) [GoT.v Int [.int .i64 0],GoT.v Bool [.bool false]] h ⟨rfl,rfl,trivial⟩ (PV.done h (qag h (qx (S:=fun _=>False) rfl) (qW (qx (S:=fun _=>False) rfl)) (by rfl)))
   exact X0 7 rfl (rK ⟨_,hF,rfl,h⟩ rfl)
  refine qr rfl ?_
  obtain rfl:=qb hF;replace hF:=hK2
  refine zSS ?_
  obtain ⟨KF2,hKF2,o4,hF,hK4⟩:=bindE hF
  refine qa0 (fun e w'=>∃ (b4:Bool),KF2 b4=some o1∧e=[(1,.pointer (some ⟨bb1,0,none⟩)),(4,.int .i64 (a_0.Ay.length:Int)),(5,.int .i64 i1),(6,.int .i64 i2),(7,.pointer (some ⟨bb2,0,none⟩)),(51,.bool b4)]∧SH w w' [Ch.box bb2 (qpe y1) 340,Ch.box bb1 (qdZ a_0 p1 p2 p3 k1 k2 k3) 251]) ?_ ?_
  ·refine X1 3 0 h rfl (zcB h hF qhQ rfl fun r1 w8 h hF=>zp2 rfl (qh (t:=46) hF rfl ?_ ?_))<;>intro hF
   ·refine X0 6 rfl ?_
    obtain rfl:=qb hF
    exact rG ⟨_,hK4,rfl,h⟩ rfl
   refine X1 5 0 h rfl (zcB h hF qX rfl fun r2 w9 h hF=>X0 4 rfl ?_)
   obtain rfl:=qb hF
   exact rG ⟨_,hK4,rfl,h⟩ rfl
  rintro e4 w10 ⟨b4,hF,rfl,h⟩
  subst hKF2
  refine qi rfl hF ?_ ?_<;>intro hF
  ·refine X0 5 rfl ?_
   obtain rfl:=qb hF;replace hF:=hK1
   obtain rfl:=qb hF
   exact qU qa (ρ:=(Int × Bool)) [GoT.v Int [.int .i64 0],GoT.v Bool [.bool false]] h ⟨rfl,rfl,trivial⟩ (PV.done h (qag h (qx (S:=fun _=>False) rfl) (qW (qx (S:=fun _=>False) rfl)) (by rfl)))
  refine zKSS ?_
  obtain ⟨KF1,hKF1,o3,hF,hK3⟩:=bindE hF
  refine qa0 (fun e w'=>∃ (b5:Bool),KF1 b5=some o1∧e=[(1,.pointer (some ⟨bb1,0,none⟩)),(4,.int .i64 (a_0.Ay.length:Int)),(5,.int .i64 i1),(6,.int .i64 i2),(7,.pointer (some ⟨bb2,0,none⟩)),(80,.bool b5)]∧SH w w' [Ch.box bb2 (qpe y1) 340,Ch.box bb1 (qdZ a_0 p1 p2 p3 k1 k2 k3) 251]) ?_ ?_
  ·refine X0 6 rfl (qh (t:=56) hF rfl ?_ ?_)<;>intro hF
   ·refine X1 8 0 h rfl (qh (t:=60) hF rfl ?_ ?_)<;>intro hF
    ·refine X0 24 rfl ?_
     obtain rfl:=qb hF
     exact rG ⟨_,hK3,rfl,h⟩ rfl
    refine X1 10 0 h rfl (qh (t:=65) hF rfl ?_ ?_)<;>intro hF
    ·refine X0 17 rfl ?_
     obtain rfl:=qb hF
     exact rG ⟨_,hK3,rfl,h⟩ rfl
    refine X1 8 0 h rfl (qh (t:=70) hF rfl ?_ ?_)<;>intro hF
    ·refine X0 11 rfl ?_
     obtain rfl:=qb hF
     exact rG ⟨_,hK3,rfl,h⟩ rfl
    refine X0 10 rfl (qh (t:=75) hF rfl ?_ ?_)<;>intro hF
    ·refine X1 10 0 h rfl ?_
     obtain rfl:=qb hF
     exact rG ⟨_,hK3,rfl,h⟩ rfl
    refine X0 7 rfl ?_
    obtain rfl:=qb hF
    exact rG ⟨_,hK3,rfl,h⟩ rfl
   refine X0 24 rfl (qh (t:=75) hF rfl ?_ ?_)<;>intro hF
   ·refine X1 10 0 h rfl ?_
    obtain rfl:=qb hF
    exact rG ⟨_,hK3,rfl,h⟩ rfl
   refine X0 7 rfl ?_
   obtain rfl:=qb hF
   exact rG ⟨_,hK3,rfl,h⟩ rfl
  rintro e3 w7 ⟨b5,hF,rfl,h⟩
  subst hKF1
  refine qi rfl hF ?_ ?_<;>intro hF
  ·refine X0 5 rfl ?_
   obtain rfl:=qb hF;replace hF:=hK1
   obtain rfl:=qb hF
   exact qU qa (ρ:=(Int × Bool)) [GoT.v Int [.int .i64 0],GoT.v Bool [.bool false]] h ⟨rfl,rfl,trivial⟩ (PV.done h (qag h (qx (S:=fun _=>False) rfl) (qW (qx (S:=fun _=>False) rfl)) (by rfl)))
  refine X1 6 0 h rfl (qi rfl hF ?_ ?_)<;>intro hF
  ·refine X0 11 rfl ?_
   replace h:=h.pick [1] rfl
   exact rK ⟨_,_,hF,rfl,h⟩ rfl
  refine X0 7 rfl ?_
  replace h:=h.pick [1] rfl
  exact rK ⟨_,_,hF,rfl,h⟩ rfl
 refine qr rfl ?_
 obtain rfl:=qb hF;replace hF:=hK1
 refine X0 6 rfl ?_
 obtain rfl:=qb hF
 exact qU qa (ρ:=(Int × Bool)) [GoT.v Int [.int .i64 i1],GoT.v Bool [.bool true]] h ⟨rfl,rfl,trivial⟩ (PV.done h (qag h (qx (S:=fun _=>False) rfl) (qW (qx (S:=fun _=>False) rfl)) (by rfl)))
def qdN (list:(List Int)):Nat→Int→Option (Flow Bool Int)
 | 0,_=>none
 | n+1,i1 =>
  bif decide (i1<(list.length:Int)) then
   (idx list i1).bind fun y1 =>
   (qao n y1 0 100000).bind fun r1 =>
   bif (!r1) then some (.ret false) else
   bif decide (i1 > 0) then
    (idx list (W64 (i1-1))).bind fun y2 =>
    (idx list i1).bind fun y3 =>
    bif decide (y2 ≥ y3) then some (.ret false) else
    qdN list n (W64 (i1+1))
   else
    qdN list n (W64 (i1+1))
  else
   some (.nxt i1)
def qiu (n:Nat) (list:(List Int)):Option Bool :=
 (qdN list n 0).bind fun o=>match o with
 | .ret r=>some r
 | .nxt _ =>
  bif decide ((list.length:Int) ≥ 1) then some (decide ((list.length:Int)≤4)) else
  some false
theorem qmK {list:(List Int)} (ha1:GoT.R w (old w) list cs1) {r:Bool} (hF:qiu n list=some r):RetV Tryz.prog 346 [GoT.v (List Int) cs1] w r:=by
 obtain ⟨p1,k1,rfl,s1⟩:=ha1
 refine zV 40 Tryz.func346 rfl fun h=>X0 9 rfl ?_
 obtain ⟨o1,hF,hK1⟩:=qc hF
 refine qm (rL (fun m e w'=>∃ (i1:Int),qdN list m i1=some o1∧e=[(0,.slice p1 list.length k1),(3,.int .i64 i1)]∧SH w w' []) n ⟨_,hF,rfl,h⟩ rfl ?_)
 rintro m1 e1 w1 ⟨i1,hF,rfl,h⟩
 rcases m1 with _|m1
 ·cases hF
 refine X0 8 rfl (qi rfl hF ?_ ?_)<;>intro hF
 ·refine X0 4 rfl (rD (zd2 rfl ?_))
  obtain ⟨y1,hy1,hF,he1,b1,_,q1,cs2,hp1,hq1,rfl,hc2⟩:=s1.ix hF
  refine zdxe hp1 hq1 he1 rfl (zdc 0 (hc2.below h.below) rfl ?_)
  obtain ⟨r1,hr2,hF⟩:=qc hF
  refine qbj r1 (vsB _) (cB 84 rfl) (fun _ hb=>qX  hr2) rfl rfl rfl rfl (zd2 rfl (qaO (t:=16) hF rfl ?_ ?_))<;>intro hF
  ·refine Y0 15 rfl (dN h fun w2 h=>qbV rfl rfl (X0 4 rfl ?_))
   obtain rfl:=qb hF;replace hF:=hK1
   exact rb h hF rfl
  refine Y0 6 rfl (qaO (t:=19) hF rfl ?_ ?_)<;>intro hF
  ·refine Y0 7 rfl ?_
   obtain ⟨y2,hy2,hF,he2,b2,_,q2,cs3,hp2,hq2,rfl,hc3⟩:=s1.ix hF
   refine zdxe hp2 hq2 he2 rfl (Y0 1 rfl (zdc 0 (hc3.below h.below) rfl (Y0 5 rfl ?_)))
   obtain ⟨y3,hy3,hF,he3,b3,_,q3,cs4,hp3,hq3,rfl,hc4⟩:=s1.ix hF
   refine zdxe hp3 hq3 he3 rfl (Y0 1 rfl (zdc 0 (hc4.below h.below) rfl (Y0 5 rfl (dN h fun w3 h=>qi rfl hF ?_ ?_))))<;>intro hF
   ·refine X0 4 rfl ?_
    obtain rfl:=qb hF;replace hF:=hK1
    exact rb h hF rfl
   exact X0 7 rfl (rK ⟨_,hF,rfl,h⟩ rfl)
  exact Y0 13 rfl (dN h fun w4 h=>qbE rfl rfl (X0 7 rfl (rK ⟨_,hF,rfl,h⟩ rfl)))
 refine qr rfl ?_
 obtain rfl:=qb hF;replace hF:=hK1
 refine X0 6 rfl (qh (t:=35) hF rfl ?_ ?_)<;>intro hF
 ·exact X0 9 rfl (rb h hF rfl)
 exact X0 6 rfl (rb h hF rfl)
def qeB (t:qw):Nat→Int→Option (Flow Bool Int)
 | 0,_=>none
 | n+1,i1 =>
  bif decide (i1<(t.Ba.length:Int)) then
   (idx t.Ba i1).bind fun y1 =>
   (qao n y1 (-1000000) 1000000).bind fun r1 =>
   bif (!r1) then some (.ret false) else
   qeB t n (W64 (i1+1))
  else
   some (.nxt i1)
def qj3 (n:Nat) (t:qw):Option Bool :=
 (
  (qiu n t.Bi).bind fun r2 =>
  bif (!r2) then some true else
  (qiu n t.Bc).bind fun r3 =>
  bif (!r3) then some true else
  some ((t.Ba.length:Int) != (W64 ((t.Bi.length:Int)*(t.Bc.length:Int))))).bind fun b1 =>
 bif b1 then some false else
 (qeB t n 0).bind fun o=>match o with
 | .ret r=>some r
 | .nxt _ =>
  some true
theorem qqd {t:qw} (ha1:GoT.R w (old w) t cs1) {r:Bool} (hF:qj3 n t=some r):RetV Tryz.prog 339 [GoT.v qw cs1] w r:=by
 obtain ⟨p1,k1,p2,k2,p3,k3,rfl,s1,s2,s3⟩:=qaH ha1
 refine zV 41 Tryz.func339 rfl fun h=>zSR (qt h rfl rfl fun w1 bb1 h=>X0 4 rfl ?_)
 obtain ⟨KF1,hKF1,o2,hF,hK2⟩:=bindE hF
 refine qa0 (fun e w'=>∃ (b1:Bool),KF1 b1=some r∧e=[(1,.pointer (some ⟨bb1,0,none⟩)),(26,.bool b1)]∧SH w w' [Ch.box bb1 (qgM t p1 p2 p3 k1 k2 k3) 329]) ?_ ?_
 ·refine X1 3 0 h rfl (zcB h hF (qmK ⟨_,_,rfl,(h.oldS s1)⟩) rfl fun r2 w4 h hF=>zp2 rfl (qh (t:=8) hF rfl ?_ ?_))<;>intro hF
  ·refine X0 19 rfl ?_
   obtain rfl:=qb hF
   exact rG ⟨_,hK2,rfl,h⟩ rfl
  refine X1 5 0 h rfl (zcB h hF (qmK ⟨_,_,rfl,(h.oldS s2)⟩) rfl fun r3 w5 h hF=>X0 4 rfl (qh (t:=14) hF rfl ?_ ?_))<;>intro hF
  ·refine X0 13 rfl ?_
   obtain rfl:=qb hF
   exact rG ⟨_,hK2,rfl,h⟩ rfl
  refine X3 24 0 0 0 h rfl ?_
  obtain rfl:=qb hF
  exact rG ⟨_,hK2,rfl,h⟩ rfl
 rintro e2 w6 ⟨b1,hF,rfl,h⟩
 subst hKF1
 refine qi rfl hF ?_ ?_<;>intro hF
 ·exact X0 4 rfl (rb h hF rfl)
 refine X0 6 rfl ?_
 obtain ⟨o1,hF,hK1⟩:=qc hF
 refine qm (rL (fun m e w'=>∃ (i1:Int),qeB t m i1=some o1∧e=[(1,.pointer (some ⟨bb1,0,none⟩)),(3,.int .i64 i1)]∧SH w w' [Ch.box bb1 (qgM t p1 p2 p3 k1 k2 k3) 329]) n ⟨_,hF,rfl,h⟩ rfl ?_)
 rintro m1 e1 w2 ⟨i1,hF,rfl,h⟩
 rcases m1 with _|m1
 ·cases hF
 refine X1 9 0 h rfl (qi rfl hF ?_ ?_)<;>intro hF
 ·refine X1 8 0 h rfl ?_
  obtain ⟨y1,hy1,hF,he1,b2,_,q1,cs2,hp1,hq1,rfl,hc3⟩:=s3.ix hF
  refine zxe hp1 hq1 he1 rfl (zc 0 (hc3.below h.below) rfl (zcB h hF qX rfl fun r1 w3 h hF=>X0 2 rfl (qi rfl hF ?_ ?_)))<;>intro hF
  ·refine X0 4 rfl ?_
   obtain rfl:=qb hF;replace hF:=hK1
   exact rb h hF rfl
  exact X0 7 rfl (rK ⟨_,hF,rfl,h⟩ rfl)
 refine qr rfl ?_
 obtain rfl:=qb hF;replace hF:=hK1
 exact X0 4 rfl (rb h hF rfl)
def qcO (t:qw):Nat→Int→Int→Int→Option (Int × Int × Int)
 | 0,_,_,_=>none
 | n+1,i1,i2,i3 =>
  bif decide (i3<(t.Ba.length:Int)) then
   (idx t.Ba i3).bind fun y3 =>
   (idx t.Ba i3).bind fun y4 =>
   qcO t n (if y3<i1 then y3 else i1) (if y4 > i2 then y4 else i2) (W64 (i3+1))
  else
   some (i1,i2,i3)
def qhr (n:Nat) (t:qw):Option (qd × Int) :=
 (qj3 n t).bind fun r1 =>
 bif (!r1) then some ((⟨0,0⟩:qd),1) else
 (idx t.Ba 0).bind fun y1 =>
 (idx t.Ba 0).bind fun y2 =>
 (qcO t n y1 y2 1).bind fun o=>match o with
 | (i1,i2,_) =>
  some ((⟨i1,i2⟩:qd),0)
theorem qnX {t:qw} (ha1:GoT.R w (old w) t cs1) {r:(qd × Int)} (hF:qhr n t=some r):RetV Tryz.prog 328 [GoT.v qw cs1] w r:=by
 obtain ⟨p1,k1,p2,k2,p3,k3,rfl,s1,s2,s3⟩:=qaH ha1
 refine zV 45 Tryz.func328 rfl fun h=>zSR (qt h rfl rfl fun w1 bb1 h=>qn qa h rfl rfl rfl fun w2 bb2 h=>X1 6 1 h rfl (zcB h hF (qqd (h.old ha1)) rfl fun r1 w3 h hF=>X0 2 rfl (qi rfl hF ?_ ?_)))<;>intro hF
 ·refine zSR (r_v (qae qa [] [] rfl rfl rfl rfl rfl rfl rfl rfl) rfl (zs 0 h rfl fun w4 h=>X0 2 rfl ?_))
  obtain rfl:=qb hF
  exact qU qa (ρ:=(qd × Int)) [GoT.v qd [.int .i64 0,.int .i64 0],GoT.v Int [.int .i64 1]] h ⟨⟨_,_,_,rfl,rfl,h.box 0 rfl,rfl⟩,rfl,trivial⟩ (PV.done h (qag h (qx (S:=fun _=>False) (qB (⟨0,0⟩:qd))) (qW (qx (S:=fun _=>False) rfl)) (by rfl)))
 refine zKS (rA [] [1] h rfl fun w5 h=>M1 3 [0,1] 0 (h.pick [1] rfl) rfl ?_)
 obtain ⟨y1,hy1,hF,he1,b1,_,q1,cs2,hp1,hq1,rfl,hc2⟩:=s3.ix hF
 refine Ae 2 7 hp1 hq1 he1 (h.pick [1] rfl) rfl (Al 3 15 0 hc2 (h.pick [1] rfl) rfl (M1 63 [4,5] 0 (h.pick [1] rfl) rfl ?_))
 obtain ⟨y2,hy2,hF,he2,b2,_,q2,cs3,hp2,hq2,rfl,hc3⟩:=s3.ix hF
 refine Ae 6 127 hp2 hq2 he2 (h.pick [1] rfl) rfl (Al 7 255 0 hc3 (h.pick [1] rfl) rfl (Aw 8 511 (fun w' hw=>qae qa [0,1] [.tmp 13,.tmp 17] rfl rfl rfl rfl rfl rfl rfl rfl) (h.pick [1] rfl) rfl ?_))
 refine Ao 9 1023 rfl (qn qa h rfl rfl rfl fun w6 bb3 h=>Ag (h.pick [2] rfl) (Ao 10 2047 rfl (zs 0 h rfl fun w7 h=>Ag (h.pick [2] rfl) (Ad (X0 5 rfl ?_)))))
 obtain ⟨o1,hF,hK1⟩:=qc hF
 refine qm (rL (fun m e w'=>∃ (i1:Int) (i2:Int) (i3:Int),qcO t m i1 i2 i3=some o1∧e=[(1,.pointer (some ⟨bb1,0,none⟩)),(2,.pointer (some ⟨bb2,0,none⟩)),(4,.pointer (some ⟨bb3,0,none⟩)),(5,.int .i64 i3)]∧SH w w' [Ch.box bb3 [.int .i64 i1,.int .i64 i2] 138,Ch.box bb2 [.int .i64 0,.int .i64 0] 138,Ch.box bb1 (qgM t p1 p2 p3 k1 k2 k3) 329]) n ⟨_,_,_,hF,rfl,h⟩ rfl ?_)
 rintro m1 e1 w8 ⟨i1,i2,i3,hF,rfl,h⟩
 rcases m1 with _|m1
 ·cases hF
 refine X1 9 2 h rfl (qi rfl hF ?_ ?_)<;>intro hF
 ·refine X0 4 rfl (rA [9] [0,2] h rfl fun w9 h=>M2 31 [0,1,2,3,4] 0 1 (h.pick [0,2] rfl) rfl ?_)
  obtain ⟨y3,hy3,hF,he3,b3,_,q3,cs4,hp3,hq3,rfl,hc5⟩:=s3.ix hF
  refine Ae 5 63 hp3 hq3 he3 (h.pick [0,2] rfl) rfl (Al 6 127 0 hc5 (h.pick [0,2] rfl) rfl (M0 511 [7,8] (h.pick [0,2] rfl) rfl (Ao 9 1023 rfl (zs 0 h rfl fun w10 h=>qbg (fun hs=>absurd (hs 9 (by decide)) (by decide)) (Ad (rA [9] [0,2] h rfl fun w11 h=>M2 31 [0,1,2,3,4] 0 1 (h.pick [0,2] rfl) rfl ?_))))))
  obtain ⟨y4,hy4,hF,he4,b4,_,q4,cs5,hp4,hq4,rfl,hc6⟩:=s3.ix hF
  exact Ae 5 63 hp4 hq4 he4 (h.pick [0,2] rfl) rfl (Al 6 127 0 hc6 (h.pick [0,2] rfl) rfl (M0 511 [7,8] (h.pick [0,2] rfl) rfl (Ao 9 1023 rfl (zs 0 h rfl fun w12 h=>qbg (fun hs=>absurd (hs 9 (by decide)) (by decide)) (Ad (X0 6 rfl (rK ⟨_,_,_,hF,rfl,h⟩ rfl)))))))
 refine qr rfl ?_
 obtain rfl:=qb hF;replace hF:=hK1
 refine X1 3 0 h rfl (zs 1 h rfl fun w13 h=>X0 2 rfl ?_)
 obtain rfl:=qb hF
 exact qU qa (ρ:=(qd × Int)) [GoT.v qd [.int .i64 i1,.int .i64 i2],GoT.v Int [.int .i64 0]] h ⟨⟨_,_,_,rfl,rfl,h.box 1 rfl,rfl⟩,rfl,trivial⟩ (PV.done h (qag h (qx (S:=fun _=>False) (qB (⟨i1,i2⟩:qd))) (qW (qx (S:=fun _=>False) rfl)) (by rfl)))
def qcC (list:(List qw)) (positive:Bool):Nat→Int→Option (Flow Bool Int)
 | 0,_=>none
 | n+1,i1 =>
  bif decide (i1<2) then
   (idx list i1).bind fun y1 =>
   (qhr n y1).bind fun o=>match o with
    | (r2,r3) =>
     bif (r3 != 0) then some (.ret false) else
     bif positive then
      bif decide (r2.Aj<0) then some (.ret false) else
      qcC list positive n (W64 (i1+1))
     else
      qcC list positive n (W64 (i1+1))
  else
   some (.nxt i1)
def qdo (n:Nat) (list:(List qw)) (positive:Bool):Option Bool :=
 bif ((list.length:Int) != 2) then some false else
 (qcC list positive n 0).bind fun o=>match o with
 | .ret r=>some r
 | .nxt _ =>
  some true
theorem qeS {list:(List qw)} {positive:Bool} (ha1:GoT.R w (old w) list cs1) {r:Bool} (hF:qdo n list positive=some r):RetV Tryz.prog 313 [GoT.v (List qw) cs1,.bool positive] w r:=by
 obtain ⟨p1,k1,rfl,s1⟩:=ha1
 refine zV 33 Tryz.func313 rfl fun h=>X0 11 rfl (qi rfl hF ?_ ?_)<;>intro hF
 ·exact X0 4 rfl (rb h hF rfl)
 refine X0 6 rfl ?_
 obtain ⟨o1,hF,hK1⟩:=qc hF
 refine qm (rL (fun m e w'=>∃ (i1:Int),qcC list positive m i1=some o1∧e=[(0,.slice p1 list.length k1),(1,.bool positive),(5,.int .i64 i1)]∧SH w w' []) n ⟨_,hF,rfl,h⟩ rfl ?_)
 rintro m1 e1 w1 ⟨i1,hF,rfl,h⟩
 rcases m1 with _|m1
 ·cases hF
 refine X0 6 rfl (qi rfl hF ?_ ?_)<;>intro hF
 ·refine X0 7 rfl ?_
  obtain ⟨y1,hy1,hF,he1,b1,_,q1,cs2,hp1,hq1,hr1,hc3⟩:=s1.ix hF
  obtain ⟨p2,k2,p3,k3,p4,k4,rfl,s2,s3,s4⟩:=qaH hr1
  refine zxe hp1 hq1 he1 rfl (zc 0 (hc3.below h.below) rfl ?_)
  obtain ⟨r1,hr2,hF⟩:=qc hF
  obtain ⟨r2,r3⟩:=r1
  refine qa8 (r2,r3) h (cB 328 rfl) (qnX (qe8 y1 (h.oldS s2) (h.oldS s3) (h.oldS s4)) hr2) rfl rfl rfl rfl fun w2 S1 us1 hv1 hr3=>?_
  obtain ⟨S2,S3,cs3,us2,rfl,hv2,hr4⟩:=hv1.cons hr3
  obtain rfl:=qu (hv2.sh.own 0 rfl)
  obtain ⟨rfl,h⟩:=hv2.lastI hr4
  refine zp3 rfl (qn qa h rfl rfl rfl fun w3 bb1 h=>zs 0 h rfl fun w4 h=>X0 7 rfl (qh (t:=25) hF rfl ?_ ?_))<;>intro hF
  ·refine X0 8 rfl (qbV rfl rfl (X0 4 rfl ?_))
   obtain rfl:=qb hF;replace hF:=hK1
   exact rb h hF rfl
  refine X0 4 rfl (qh (t:=27) hF rfl ?_ ?_)<;>intro hF
  ·refine X1 10 0 h rfl (qi rfl hF ?_ ?_)<;>intro hF
   ·refine X0 4 rfl ?_
    obtain rfl:=qb hF;replace hF:=hK1
    exact rb h hF rfl
   refine X0 7 rfl ?_
   replace h:=h.pick [] rfl
   exact rK ⟨_,hF,rfl,h⟩ rfl
  refine X0 7 rfl (qbE rfl rfl (X0 7 rfl ?_))
  replace h:=h.pick [] rfl
  exact rK ⟨_,hF,rfl,h⟩ rfl
 refine qr rfl ?_
 obtain rfl:=qb hF;replace hF:=hK1
 exact X0 4 rfl (rb h hF rfl)
def qlA (n:Nat) (a_0:qC) (a_1:qS):Option Bool :=
 (
  (qao n a_1.Be 0 (W64 ((W64 ((a_0.Ay.length:Int)-1))-1))).bind fun r7 =>
  bif (!r7) then some true else
  (qao n a_1.To 0 (W64 ((a_0.Ay.length:Int)-1))).bind fun r8 =>
  some (!r8)).bind fun b1 =>
 bif b1 then some false else
 (idx a_0.Ay a_1.Be).bind fun y1 =>
 bif (a_1.As==1) then
  bif (!y1.Bm) then
   bif (a_1.To==(W64 ((a_0.Ay.length:Int)-1))) then
    (qao n a_1.Bj 1 3).bind fun r1 =>
    bif r1 then
     (qdo n a_1.Bl true).bind fun r2 =>
     bif r2 then
      (qdo n a_1.Av true).bind fun r3 =>
      some r3
     else
      some false
    else
     some false
   else
    some false
  else
   some false
 else
  (
   bif (a_1.As==2) then some (a_1.As==2) else
   some (a_1.As==3)).bind fun b3 =>
  bif b3 then
   bif y1.Bm then
    bif (a_1.To==(W64 ((a_0.Ay.length:Int)-1))) then
     bif (a_1.Bj==0) then
      (qdo n a_1.Bl true).bind fun r4 =>
      bif r4 then
       (qdo n a_1.Av true).bind fun r5 =>
       some r5
      else
       some false
     else
      some false
    else
     some false
   else
    some false
  else
   (
    bif (a_1.As==4) then some (a_1.As==4) else
    some (a_1.As==5)).bind fun b4 =>
   bif b4 then
    bif y1.Bm then
     bif decide (a_1.To<(W64 ((a_0.Ay.length:Int)-1))) then
      (idx a_0.Ay a_1.To).bind fun y2 =>
      bif (!y2.Bm) then
       bif (a_1.Bj==0) then
        (qdo n a_1.Bl false).bind fun r6 =>
        bif r6 then some ((a_1.Av.length:Int)==0) else
        some false
       else
        some false
      else
       some false
     else
      some false
    else
     some false
   else
    some false
theorem qqX {a_0:qC} {a_1:qS} (ha1:GoT.R w (old w) a_0 cs1) (ha2:GoT.R w (old w) a_1 cs2) {r:Bool} (hF:qlA n a_0 a_1=some r):RetV Tryz.prog 294 [GoT.v qC cs1,GoT.v qS cs2] w r:=by
 obtain ⟨p1,k1,p2,k2,p3,k3,rfl,s1,s2,s3⟩:=qaf ha1
 obtain ⟨p4,k4,p5,k5,rfl,s4,s5⟩:=qai ha2
 refine zV 119 Tryz.func294 rfl fun h=>zSR (qt h rfl rfl fun w1 bb1 h=>qt h rfl rfl fun w2 bb2 h=>X1 12 1 h rfl ?_)
 obtain ⟨KF3,hKF3,o3,hF,hK3⟩:=bindE hF
 refine qa0 (fun e w'=>∃ (b1:Bool),KF3 b1=some r∧e=[(2,.pointer (some ⟨bb1,0,none⟩)),(3,.pointer (some ⟨bb2,0,none⟩)),(5,.int .i64 (W64 ((a_0.Ay.length:Int)-1))),(23,.bool b1)]∧SH w w' [Ch.box bb2 (qgJ a_1 p4 p5 k4 k5) 254,Ch.box bb1 (qdZ a_0 p1 p2 p3 k1 k2 k3) 251]) ?_ ?_
 ·refine X1 5 0 h rfl (zcB h hF qX rfl fun r7 w11 h hF=>zp2 rfl (qh (t:=17) hF rfl ?_ ?_))<;>intro hF
  ·refine X0 7 rfl ?_
   obtain rfl:=qb hF
   exact rG ⟨_,hK3,rfl,h⟩ rfl
  refine X1 7 0 h rfl (zcB h hF qX rfl fun r8 w12 h hF=>X0 4 rfl ?_)
  obtain rfl:=qb hF
  exact rG ⟨_,hK3,rfl,h⟩ rfl
 rintro e3 w13 ⟨b1,hF,rfl,h⟩
 subst hKF3
 refine qi rfl hF ?_ ?_<;>intro hF
 ·exact X0 4 rfl (rb h hF rfl)
 refine X2 7 1 0 h rfl ?_
 obtain ⟨y1,hy1,hF,he1,b2,_,q1,cs3,hp1,hq1,hr1,hc2⟩:=s1.ix hF
 obtain rfl:=qby hr1
 refine zxe hp1 hq1 he1 rfl (zp1 rfl (zc 3 (hc2.below h.below) rfl (X1 14 0 h rfl (qi rfl hF ?_ ?_))))<;>intro hF
 ·refine X0 5 rfl (qh (t:=37) hF rfl ?_ ?_)<;>intro hF
  ·refine X1 10 0 h rfl (qh (t:=43) hF rfl ?_ ?_)<;>intro hF
   ·refine X1 5 0 h rfl (zcB h hF qX rfl fun r1 w3 h hF=>zp2 rfl (qh (t:=48) hF rfl ?_ ?_))<;>intro hF
    ·refine X1 5 0 h rfl (zcB h hF (qeS ⟨_,_,rfl,(h.oldS s4)⟩) rfl fun r2 w4 h hF=>zp2 rfl (qh (t:=53) hF rfl ?_ ?_))<;>intro hF
     ·exact X1 5 0 h rfl (zcB h hF (qeS ⟨_,_,rfl,(h.oldS s5)⟩) rfl fun r3 w5 h hF=>X0 3 rfl (rb h hF rfl))
     exact X0 6 rfl (rb h hF rfl)
    exact X0 11 rfl (rb h hF rfl)
   exact X0 16 rfl (rb h hF rfl)
  exact X0 22 rfl (rb h hF rfl)
 refine X0 6 rfl ?_
 obtain ⟨KF2,hKF2,o2,hF,hK2⟩:=bindE hF
 refine qa0 (fun e w'=>∃ (b3:Bool),KF2 b3=some r∧e=[(2,.pointer (some ⟨bb1,0,none⟩)),(3,.pointer (some ⟨bb2,0,none⟩)),(5,.int .i64 (W64 ((a_0.Ay.length:Int)-1))),(6,.bool y1.Bm),(32,.int .i64 a_1.As),(58,.bool b3)]∧SH w w' [Ch.box bb2 (qgJ a_1 p4 p5 k4 k5) 254,Ch.box bb1 (qdZ a_0 p1 p2 p3 k1 k2 k3) 251]) ?_ ?_
 ·refine qi rfl hF ?_ ?_<;>intro hF
  ·refine qhx ?_
   obtain rfl:=qb hF
   exact rG ⟨_,hK2,rfl,h⟩ rfl
  refine X0 4 rfl ?_
  obtain rfl:=qb hF
  exact rG ⟨_,hK2,rfl,h⟩ rfl
 rintro e2 w10 ⟨b3,hF,rfl,h⟩
 subst hKF2
 refine qi rfl hF ?_ ?_<;>intro hF
 ·refine X0 4 rfl (qh (t:=62) hF rfl ?_ ?_)<;>intro hF
  ·refine X1 10 0 h rfl (qh (t:=68) hF rfl ?_ ?_)<;>intro hF
   ·refine X1 8 0 h rfl (qh (t:=73) hF rfl ?_ ?_)<;>intro hF
    ·refine X1 5 0 h rfl (zcB h hF (qeS ⟨_,_,rfl,(h.oldS s4)⟩) rfl fun r4 w6 h hF=>zp2 rfl (qh (t:=78) hF rfl ?_ ?_))<;>intro hF
     ·exact X1 5 0 h rfl (zcB h hF (qeS ⟨_,_,rfl,(h.oldS s5)⟩) rfl fun r5 w7 h hF=>X0 3 rfl (rb h hF rfl))
     exact X0 6 rfl (rb h hF rfl)
    exact X0 11 rfl (rb h hF rfl)
   exact X0 16 rfl (rb h hF rfl)
  exact X0 22 rfl (rb h hF rfl)
 refine X0 6 rfl ?_
 obtain ⟨KF1,hKF1,o1,hF,hK1⟩:=bindE hF
 refine qa0 (fun e w'=>∃ (b4:Bool),KF1 b4=some r∧e=[(2,.pointer (some ⟨bb1,0,none⟩)),(3,.pointer (some ⟨bb2,0,none⟩)),(5,.int .i64 (W64 ((a_0.Ay.length:Int)-1))),(6,.bool y1.Bm),(83,.bool b4)]∧SH w w' [Ch.box bb2 (qgJ a_1 p4 p5 k4 k5) 254,Ch.box bb1 (qdZ a_0 p1 p2 p3 k1 k2 k3) 251]) ?_ ?_
 ·refine qi rfl hF ?_ ?_<;>intro hF
  ·refine qhx ?_
   obtain rfl:=qb hF
   exact rG ⟨_,hK1,rfl,h⟩ rfl
  refine X0 4 rfl ?_
  obtain rfl:=qb hF
  exact rG ⟨_,hK1,rfl,h⟩ rfl
 rintro e1 w9 ⟨b4,hF,rfl,h⟩
 subst hKF1
 refine qi rfl hF ?_ ?_<;>intro hF
 ·refine X0 4 rfl (qh (t:=87) hF rfl ?_ ?_)<;>intro hF
  ·refine X1 10 0 h rfl (qh (t:=93) hF rfl ?_ ?_)<;>intro hF
   ·refine X2 9 1 0 h rfl ?_
    obtain ⟨y2,hy2,hF,he2,b5,_,q2,cs4,hp2,hq2,hr7,hc6⟩:=s1.ix hF
    obtain rfl:=qby hr7
    refine zxe hp2 hq2 he2 rfl (X0 3 rfl (zc 3 (hc6.below h.below) rfl (X0 4 rfl (qh (t:=103) hF rfl ?_ ?_))))<;>intro hF
    ·refine X1 8 0 h rfl (qh (t:=108) hF rfl ?_ ?_)<;>intro hF
     ·refine X1 5 0 h rfl (zcB h hF (qeS ⟨_,_,rfl,(h.oldS s4)⟩) rfl fun r6 w8 h hF=>zp2 rfl (qh (t:=113) hF rfl ?_ ?_))<;>intro hF
      ·exact X1 11 0 h rfl (rb h hF rfl)
      exact X0 7 rfl (rb h hF rfl)
     exact X0 12 rfl (rb h hF rfl)
    exact X0 17 rfl (rb h hF rfl)
   exact X0 27 rfl (rb h hF rfl)
  exact X0 33 rfl (rb h hF rfl)
 exact X0 6 rfl (rb h hF rfl)
def qc6 (c:qC):Nat→(List Int)→Int→Option ((List Int) × Int)
 | 0,_,_=>none
 | n+1,x2,i1 =>
  bif decide (i1<(c.Am.length:Int)) then
   (idx c.Am i1).bind fun y1 =>
   (idx x2 y1.As).bind fun y2 =>
   (idx x2 y1.As).bind fun _ =>
   qc6 c n (setS x2 y1.As (W64 (y2+1))) (W64 (i1+1))
  else
   some (x2,i1)
def qjq (n:Nat) (c:qC):Option (List Int) :=
 (mkS 6 (0:Int)).bind fun x1 =>
 (qc6 c n x1 0).bind fun o=>match o with
 | (x2,_) =>
  some x2
theorem qpw {c:qC} (ha1:GoT.R w (old w) c cs1) {r:(List Int)} (hF:qjq n c=some r):RetV Tryz.prog 295 [GoT.v qC cs1] w r:=by
 obtain ⟨p1,k1,p2,k2,p3,k3,rfl,s1,s2,s3⟩:=qaf ha1
 refine zV 25 Tryz.func295 rfl fun h=>zSR (qt h rfl rfl fun w1 bb1 h=>X0 4 rfl ?_)
 obtain ⟨x1,hx1,hF⟩:=qc hF
 obtain ⟨g1,g2,hx1⟩:=qL hx1
 refine qah qa Int h rfl rfl rfl rfl rfl rfl rfl rfl rfl g1 g2 hx1 rfl fun w2 S1 p4 h=>X0 7 rfl ?_
 obtain ⟨o1,hF,hK1⟩:=qc hF
 refine qm (rL (fun m e w'=>∃ (x2:(List Int)) (i1:Int),qc6 c m x2 i1=some o1∧e=[(1,.pointer (some ⟨bb1,0,none⟩)),(3,.slice p4 x1.length x1.length),(4,.int .i64 i1)]∧SH w w' [Ch.own S1 (x2:List Int) [.slice p4 x1.length x1.length],Ch.box bb1 (qdZ c p1 p2 p3 k1 k2 k3) 251]) n ⟨_,_,hF,rfl,h⟩ rfl ?_)
 rintro m1 e1 w3 ⟨x2,i1,hF,rfl,h⟩
 rcases m1 with _|m1
 ·cases hF
 refine X1 9 1 h rfl (qi rfl hF ?_ ?_)<;>intro hF
 ·refine X1 8 1 h rfl ?_
  obtain ⟨y1,hy1,hF,he1,b1,_,q1,cs2,hp1,hq1,hr1,hc2⟩:=s2.ix hF
  obtain ⟨p5,k4,p6,k5,rfl,s4,s5⟩:=qai hr1
  refine zxe hp1 hq1 he1 rfl (zp1 rfl (zc 0 (hc2.below h.below) rfl ?_))
  obtain ⟨y2,hy2,hF,he2,b2,_,q2,cs3,hp2,hq2,rfl,hc3⟩:=(h.sl 0 rfl).1.ix hF
  refine zx hp2 hq2 ⟨he2.1,qK he2.2.1 (h.sl 0 rfl).2⟩ rfl (zc 0 hc3 rfl (zp1 rfl ?_))
  obtain ⟨y3,hy3,hF,he3,b3,_,q3,cs4,hp3,hq3,rfl,hc4⟩:=(h.sl 0 rfl).1.ix hF
  exact zx hp3 hq3 ⟨he3.1,qK he3.2.1 (h.sl 0 rfl).2⟩ rfl (qa7 qa 0 0 (W64 (y2+1)) h rfl hy3 hp3 hq3 rfl hc4 rfl rfl rfl rfl rfl rfl rfl fun w4 h=>X0 7 rfl (rK ⟨_,_,hF,rfl,h⟩ rfl))
 refine qr rfl ?_
 obtain rfl:=qb hF;replace hF:=hK1
 refine X0 5 rfl ?_
 obtain rfl:=qb hF
 exact rO 0 h rfl ⟨rfl,trivial⟩
def qdk (a_0:qC) (i1:Int) (y1:qS):Nat→Int→Option (Flow Bool Int)
 | 0,_=>none
 | n+1,i2 =>
  bif decide (i2<i1) then
   (idx a_0.Am i2).bind fun y2 =>
   bif (y2.As==y1.As) then
    (idx a_0.Am i2).bind fun y3 =>
    bif (y3.Be==y1.Be) then
     (idx a_0.Am i2).bind fun y4 =>
     bif (y4.To==y1.To) then some (.ret false) else
     qdk a_0 i1 y1 n (W64 (i2+1))
    else
     qdk a_0 i1 y1 n (W64 (i2+1))
   else
    qdk a_0 i1 y1 n (W64 (i2+1))
  else
   some (.nxt i2)
def qfB (a_0:qC):Nat→Int→Option (Flow Bool Int)
 | 0,_=>none
 | n+1,i3 =>
  bif decide (i3<(a_0.Bn.length:Int)) then
   (idx a_0.Bn i3).bind fun y5 =>
   (qao n y5 0 1).bind fun r6 =>
   bif (!r6) then some (.ret false) else
   qfB a_0 n (W64 (i3+1))
  else
   some (.nxt i3)
def qfv (a_0:qC):Nat→Int→Option (Flow Bool Int)
 | 0,_=>none
 | n+1,i1 =>
  bif decide (i1<(a_0.Am.length:Int)) then
   (idx a_0.Am i1).bind fun y1 =>
   (qlA n a_0 y1).bind fun r4 =>
   bif (!r4) then some (.ret false) else
   (qdk a_0 i1 y1 n 0).bind fun o=>match o with
   | .ret r=>some (.ret r)
   | .nxt _ =>
    qfv a_0 n (W64 (i1+1))
  else
   some (.nxt i1)
def qlt (n:Nat) (a_0:qC):Option Bool :=
 (qj5 n a_0).bind fun o=>match o with
  | (r2,r3) =>
   (
    bif (!r3) then some true else
    (qfO n a_0.Az).bind fun r7 =>
    bif (!r7) then some true else
    bif decide ((a_0.Am.length:Int) > 8) then some true else
    (qao n a_0.Bx 0 100000).bind fun r8 =>
    bif (!r8) then some true else
    (qao n a_0.Br 0 100000).bind fun r9 =>
    some (!r9)).bind fun b1 =>
   bif b1 then some false else
   (qfv a_0 n 0).bind fun o=>match o with
   | .ret r=>some r
   | .nxt _ =>
    (qjq n a_0).bind fun r5 =>
    bif (a_0.As==1) then
     (qfB a_0 n 0).bind fun o=>match o with
     | .ret r=>some r
     | .nxt _ =>
      bif (r2==0) then
       (shlS 1 (IntKind.wrap .u64 (W64 ((a_0.Ay.length:Int)-1)))).bind fun y6 =>
       some ((a_0.Bn.length:Int)==y6)
      else
       some false
    else
     bif (a_0.As==2) then
      bif (r2==1) then
       (idx r5 1).bind fun y7 =>
       bif (y7==0) then
        (idx r5 2).bind fun y8 =>
        (idx r5 3).bind fun y9 =>
        bif (!((decide (y8 > 0))==(decide (y9 > 0)))) then some ((a_0.Bn.length:Int)==0) else
        some false
       else
        some false
      else
       some false
     else
      bif (a_0.As==3) then
       bif (r2==1) then
        (idx r5 1).bind fun y10 =>
        bif decide (y10 > 0) then
         (idx r5 2).bind fun y11 =>
         bif decide (y11 > 0) then
          (idx r5 3).bind fun y12 =>
          bif (y12==0) then some ((a_0.Bn.length:Int)==0) else
          some false
         else
          some false
        else
         some false
       else
        some false
      else
       some false
theorem qqR {a_0:qC} (ha1:GoT.R w (old w) a_0 cs1) {r:Bool} (hF:qlt n a_0=some r):RetV Tryz.prog 258 [GoT.v qC cs1] w r:=by
 obtain ⟨p1,k1,p2,k2,p3,k3,rfl,s1,s2,s3⟩:=qaf ha1
 refine zV 182 Tryz.func258 rfl fun h=>zSR (qt h rfl rfl fun w1 bb1 h=>X1 5 0 h rfl ?_)
 obtain ⟨r1,hr1,hF⟩:=qc hF
 obtain ⟨r2,r3⟩:=r1
 refine qa8 (r2,r3) h (cB 293 rfl) (qqc (h.old ha1) hr1) rfl rfl rfl rfl fun w2 S1 us1 hv1 hr2=>?_
 obtain ⟨S2,us2,rfl,hv2,hr3⟩:=hv1.consI hr2
 obtain ⟨rfl,h⟩:=hv2.lastB hr3
 refine X0 8 rfl ?_
 obtain ⟨KF1,hKF1,o4,hF,hK4⟩:=bindE hF
 refine qa0 (fun e w'=>∃ (b1:Bool),KF1 b1=some r∧e=[(1,.pointer (some ⟨bb1,0,none⟩)),(3,.int .i64 r2),(40,.bool b1)]∧SH w w' [Ch.box bb1 (qdZ a_0 p1 p2 p3 k1 k2 k3) 251]) ?_ ?_
 ·refine X0 4 rfl (qh (t:=17) hF rfl ?_ ?_)<;>intro hF
  ·refine X0 24 rfl ?_
   obtain rfl:=qb hF
   exact rG ⟨_,hK4,rfl,h⟩ rfl
  refine X1 5 0 h rfl (zcB h hF qhQ rfl fun r7 w18 h hF=>X0 4 rfl (qh (t:=23) hF rfl ?_ ?_))<;>intro hF
  ·refine X0 18 rfl ?_
   obtain rfl:=qb hF
   exact rG ⟨_,hK4,rfl,h⟩ rfl
  refine X1 10 0 h rfl (qh (t:=29) hF rfl ?_ ?_)<;>intro hF
  ·refine X0 12 rfl ?_
   obtain rfl:=qb hF
   exact rG ⟨_,hK4,rfl,h⟩ rfl
  refine X1 5 0 h rfl (zcB h hF qX rfl fun r8 w19 h hF=>X0 4 rfl (qh (t:=35) hF rfl ?_ ?_))<;>intro hF
  ·refine X0 6 rfl ?_
   obtain rfl:=qb hF
   exact rG ⟨_,hK4,rfl,h⟩ rfl
  refine X1 5 0 h rfl (zcB h hF qX rfl fun r9 w20 h hF=>X0 4 rfl ?_)
  obtain rfl:=qb hF
  exact rG ⟨_,hK4,rfl,h⟩ rfl
 rintro e4 w21 ⟨b1,hF,rfl,h⟩
 subst hKF1
 refine qi rfl hF ?_ ?_<;>intro hF
 ·exact X0 4 rfl (rb h hF rfl)
 refine X0 6 rfl ?_
 obtain ⟨o1,hF,hK1⟩:=qc hF
 refine qm (rL (fun m e w'=>∃ (i1:Int),qfv a_0 m i1=some o1∧e=[(1,.pointer (some ⟨bb1,0,none⟩)),(3,.int .i64 r2),(5,.int .i64 i1)]∧SH w w' [Ch.box bb1 (qdZ a_0 p1 p2 p3 k1 k2 k3) 251]) n ⟨_,hF,rfl,h⟩ rfl ?_)
 rintro m1 e1 w3 ⟨i1,hF,rfl,h⟩
 rcases m1 with _|m1
 ·cases hF
 refine X1 9 0 h rfl (qi rfl hF ?_ ?_)<;>intro hF
 ·refine X1 8 0 h rfl ?_
  obtain ⟨y1,hy1,hF,he1,b2,_,q1,cs2,hp1,hq1,hr5,hc3⟩:=s2.ix hF
  obtain ⟨p4,k4,p5,k5,rfl,s4,s5⟩:=qai hr5
  refine zxe hp1 hq1 he1 rfl (zc 0 (hc3.below h.below) rfl (qn qa h rfl rfl rfl fun w4 bb2 h=>zs 0 h rfl fun w5 h=>X2 6 1 0 h rfl (zcB h hF (qqX (h.old ha1) (qfp y1 (h.oldS s4) (h.oldS s5))) rfl fun r4 w6 h hF=>X0 2 rfl (qi rfl hF ?_ ?_))))<;>intro hF
  ·refine X0 4 rfl ?_
   obtain rfl:=qb hF;replace hF:=hK1
   exact rb h hF rfl
  refine X0 5 rfl ?_
  obtain ⟨o2,hF,hK2⟩:=qc hF
  refine qm (rL (fun m e w'=>∃ (i2:Int),qdk a_0 i1 y1 m i2=some o2∧e=[(1,.pointer (some ⟨bb1,0,none⟩)),(3,.int .i64 r2),(5,.int .i64 i1),(6,.pointer (some ⟨bb2,0,none⟩)),(7,.int .i64 i2)]∧SH w w' [Ch.box bb2 (qgJ y1 p4 p5 k4 k5) 254,Ch.box bb1 (qdZ a_0 p1 p2 p3 k1 k2 k3) 251]) m1 ⟨_,hF,rfl,h⟩ rfl ?_)
  rintro m2 e2 w7 ⟨i2,hF,rfl,h⟩
  rcases m2 with _|m2
  ·cases hF
  refine X0 7 rfl (qi rfl hF ?_ ?_)<;>intro hF
  ·refine X0 4 rfl (rD (Y1 2 1 h rfl ?_))
   refine zd1 rfl ?_
   obtain ⟨y2,hy2,hF,he2,b3,_,q2,cs3,hp2,hq2,hr7,hc6⟩:=s2.ix hF
   obtain ⟨p6,k6,p7,k7,rfl,s6,s7⟩:=qai hr7
   refine zdxe hp2 hq2 he2 rfl (zd1 rfl (zdc 0 (hc6.below h.below) rfl (Y1 2 0 h rfl ?_)))
   refine zd2 rfl (qaO (t:=71) hF rfl ?_ ?_)<;>intro hF
   ·refine Y1 4 1 h rfl ?_
    refine Y0 3 rfl ?_
    obtain ⟨y3,hy3,hF,he3,b4,_,q3,cs4,hp3,hq3,hr8,hc7⟩:=s2.ix hF
    obtain ⟨p8,k8,p9,k9,rfl,s8,s9⟩:=qai hr8
    refine zdxe hp3 hq3 he3 rfl (Y0 3 rfl (zdc 1 (hc7.below h.below) rfl (Y1 4 0 h rfl ?_)))
    refine Y0 4 rfl (qaO (t:=82) hF rfl ?_ ?_)<;>intro hF
    ·refine Y1 4 1 h rfl ?_
     refine Y0 3 rfl ?_
     obtain ⟨y4,hy4,hF,he4,b5,_,q4,cs5,hp4,hq4,hr9,hc8⟩:=s2.ix hF
     obtain ⟨p10,k10,p11,k11,rfl,s10,s11⟩:=qai hr9
     refine zdxe hp4 hq4 he4 rfl (Y0 3 rfl (zdc 2 (hc8.below h.below) rfl (Y1 4 0 h rfl ?_)))
     refine Y0 3 rfl (dN h fun w8 h=>qi rfl hF ?_ ?_)<;>intro hF
     ·refine X0 4 rfl ?_
      obtain rfl:=qb hF;replace hF:=hK2
      obtain rfl:=qb hF;replace hF:=hK1
      exact rb h hF rfl
     exact X0 7 rfl (rK ⟨_,hF,rfl,h⟩ rfl)
    exact Y0 10 rfl (dN h fun w9 h=>qbE rfl rfl (X0 7 rfl (rK ⟨_,hF,rfl,h⟩ rfl)))
   exact Y0 21 rfl (dN h fun w10 h=>qbE rfl rfl (X0 7 rfl (rK ⟨_,hF,rfl,h⟩ rfl)))
  refine qr rfl ?_
  obtain rfl:=qb hF;replace hF:=hK2
  refine X0 6 rfl ?_
  replace h:=h.pick [1] rfl
  exact rK ⟨_,hF,rfl,h⟩ rfl
 refine qr rfl ?_
 obtain rfl:=qb hF;replace hF:=hK1
 refine X1 3 0 h rfl (zcL h hF (qpw (h.old ha1)) rfl fun r5 w11 S4 p12 k12 h hF=>X1 14 1 h rfl (qi rfl hF ?_ ?_))<;>intro hF
 ·refine X0 5 rfl ?_
  obtain ⟨o3,hF,hK3⟩:=qc hF
  refine qm ?_
  replace h:=h.pick [1] rfl
  refine rL (fun m e w'=>∃ (i3:Int),qfB a_0 m i3=some o3∧e=[(1,.pointer (some ⟨bb1,0,none⟩)),(3,.int .i64 r2),(9,.int .i64 i3)]∧SH w w' [Ch.box bb1 (qdZ a_0 p1 p2 p3 k1 k2 k3) 251]) n ⟨_,hF,rfl,h⟩ rfl ?_
  rintro m3 e3 w12 ⟨i3,hF,rfl,h⟩
  rcases m3 with _|m3
  ·cases hF
  refine X1 9 0 h rfl (qi rfl hF ?_ ?_)<;>intro hF
  ·refine X1 8 0 h rfl ?_
   obtain ⟨y5,hy5,hF,he5,b6,_,q5,cs6,hp5,hq5,rfl,hc12⟩:=s3.ix hF
   refine zxe hp5 hq5 he5 rfl (zc 0 (hc12.below h.below) rfl (zcB h hF qX rfl fun r6 w13 h hF=>X0 2 rfl (qi rfl hF ?_ ?_)))<;>intro hF
   ·refine X0 4 rfl ?_
    obtain rfl:=qb hF;replace hF:=hK3
    exact rb h hF rfl
   exact X0 7 rfl (rK ⟨_,hF,rfl,h⟩ rfl)
  refine qr rfl ?_
  obtain rfl:=qb hF;replace hF:=hK3
  refine X0 5 rfl (qh (t:=115) hF rfl ?_ ?_)<;>intro hF
  ·refine X2 17 0 0 h rfl ?_
   obtain ⟨y6,hx1,hF⟩:=qc hF
   obtain ⟨g1,hx1⟩:=qsg hx1
   refine r_v (qyt g1 rfl rfl) rfl ?_
   rw [hx1]
   exact X0 5 rfl (rb h hF rfl)
  exact X0 13 rfl (rb h hF rfl)
 refine X0 5 rfl (qi rfl hF ?_ ?_)<;>intro hF
 ·refine qci (rD (zd3 rfl (qaO (t:=131) hF rfl ?_ ?_)))<;>intro hF
  ·refine Y0 3 rfl ?_
   obtain ⟨y7,hy6,hF,he6,b7,_,q6,cs7,hp6,hq6,rfl,hc15⟩:=(h.sl 0 rfl).1.ix hF
   refine zdx hp6 hq6 ⟨he6.1,qK he6.2.1 (h.sl 0 rfl).2⟩ rfl (Y0 1 rfl (zdc 0 hc15 rfl (Y0 4 rfl (qaO (t:=137) hF rfl ?_ ?_))))<;>intro hF
   ·refine Y0 3 rfl ?_
    obtain ⟨y8,hy7,hF,he7,b8,_,q7,cs8,hp7,hq7,rfl,hc16⟩:=(h.sl 0 rfl).1.ix hF
    refine zdx hp7 hq7 ⟨he7.1,qK he7.2.1 (h.sl 0 rfl).2⟩ rfl (Y0 1 rfl (zdc 0 hc16 rfl (Y0 5 rfl ?_)))
    obtain ⟨y9,hy8,hF,he8,b9,_,q8,cs9,hp8,hq8,rfl,hc17⟩:=(h.sl 0 rfl).1.ix hF
    refine zdx hp8 hq8 ⟨he8.1,qK he8.2.1 (h.sl 0 rfl).2⟩ rfl (Y0 1 rfl (zdc 0 hc17 rfl (Y0 6 rfl (qaO (t:=148) hF rfl ?_ ?_))))<;>intro hF
    ·refine Y1 4 1 h rfl ?_
     exact Y0 6 rfl (dN h fun w14 h=>rb h hF rfl)
    exact Y0 6 rfl (dN h fun w15 h=>rb h hF rfl)
   exact Y0 17 rfl (dN h fun w16 h=>rb h hF rfl)
  exact Y0 23 rfl (dN h fun w17 h=>rb h hF rfl)
 refine X0 5 rfl (qi rfl hF ?_ ?_)<;>intro hF
 ·refine X0 5 rfl (qh (t:=158) hF rfl ?_ ?_)<;>intro hF
  ·refine X0 3 rfl ?_
   obtain ⟨y10,hy9,hF,he9,b10,_,q9,cs10,hp9,hq9,rfl,hc19⟩:=(h.sl 0 rfl).1.ix hF
   refine zx hp9 hq9 ⟨he9.1,qK he9.2.1 (h.sl 0 rfl).2⟩ rfl (X0 1 rfl (zc 0 hc19 rfl (X0 4 rfl (qh (t:=164) hF rfl ?_ ?_))))<;>intro hF
   ·refine X0 3 rfl ?_
    obtain ⟨y11,hy10,hF,he10,b11,_,q10,cs11,hp10,hq10,rfl,hc20⟩:=(h.sl 0 rfl).1.ix hF
    refine zx hp10 hq10 ⟨he10.1,qK he10.2.1 (h.sl 0 rfl).2⟩ rfl (X0 1 rfl (zc 0 hc20 rfl (X0 4 rfl (qh (t:=170) hF rfl ?_ ?_))))<;>intro hF
    ·refine X0 3 rfl ?_
     obtain ⟨y12,hy11,hF,he11,b12,_,q11,cs12,hp11,hq11,rfl,hc21⟩:=(h.sl 0 rfl).1.ix hF
     refine zx hp11 hq11 ⟨he11.1,qK he11.2.1 (h.sl 0 rfl).2⟩ rfl (X0 1 rfl (zc 0 hc21 rfl (X0 4 rfl (qh (t:=176) hF rfl ?_ ?_))))<;>intro hF
     ·exact X1 11 1 h rfl (rb h hF rfl)
     exact X0 7 rfl (rb h hF rfl)
    exact X0 13 rfl (rb h hF rfl)
   exact X0 19 rfl (rb h hF rfl)
  exact X0 25 rfl (rb h hF rfl)
 exact X0 6 rfl (rb h hF rfl)
end Go.Fw
