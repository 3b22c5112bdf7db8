/- Calls that hand out parts of memory one by one: what is owned stays apart. -/
import Derived.Test.YtpblhdihpnjoeaaGreatDoorFw38
import Derived.Sort.Grow
import Derived.Lib.SlicesCompact
import Derived.Test.YtpblhdihpnjoeaaGreatDoorChecked
import Derived.Test.YtpblhdihpnjoeaaGreatDoorS1
open Option renaming bind_some → jd
open Nat renaming le_refl → je, mul_le_mul_right → jo, le_of_ble_eq_true → jr, succ_mul → jx, lt_of_lt_of_le → jB, zero_add → jI
open Bool renaming and_eq_true → jf, eq_iff_iff → jh, true_and → jt, not_eq_true' → jw
open Go.Result renaming andThen_ok → jg
open List renaming getElem?_eq_getElem → ji, length_append → jm, mem_cons_of_mem → jn, getElem?_append_left → jp, getElem_mem → jq, mem_cons_self → js, getElem?_append_right → ju, getElem?_toArray → jv, all_eq_true → jy, eq_nil_of_length_eq_zero → jA, getElem?_take → jC, getD_eq_getElem?_getD → jD, drop_eq_getElem_cons → jE, getElem_of_mem → jF, append_assoc → jG, map_append → jH
open Go.Sem renaming run_bind → jj, run_pure → jk
open Int renaming toNat_natCast → jz

namespace Go.Fw
open Go
open Go.RowKit (Below)
section
variable {P:Program} {T:Tab} {n:Nat} {Q:Exit→Act→World→Prop} {k:List It} {e:Env} {w0 w w':World} {L L':List Ch}
theorem SH.append (h:SH w0 w L) (hL:SH w w' L') (hD:∀ c,c ∈ L'→∀ b,c.D b→b<w0.heap.size):SH w0 w' (L'++L):=by
 have h':=h.ext hL.below
 refine ⟨h'.below,fun c hc=>?_,fun c hc=>?_,?_⟩
 ·rcases List.mem_append.1 hc with hc|hc
  ·obtain ⟨p,s⟩:=hL.holds c hc
   exact ⟨p,fun b hb=>⟨Nat.le_trans h.below.size (s b hb).1,(s b hb).2⟩⟩
  ·exact h'.holds c hc
 ·rcases List.mem_append.1 hc with hc|hc
  ·exact hD c hc
  ·exact h.elder c hc
 ·refine List.pairwise_append.2 ⟨hL.apart,h.apart,fun c hc d hd b hcb hdb=>?_⟩
  have h1:=((hL.holds c hc).2 b hcb).1
  have h2:=((h.holds d hd).2 b hdb).2
  omega
end
end Go.Fw


namespace Go.Fw
open Go Go.Sort
open Go.RowKit (Below)
section
variable {P:Program} {T:Tab} {n:Nat} {Q:Exit→Act→World→Prop} {k:List It} {e:Env} {w0 w w':World} {L L':List Ch}
end
end Go.Fw


namespace Go.Fw
open Go
open Go.RowKit (Below)
section
variable {w0 w w':World} {L:List Ch} {α:Type} [GoT α]
def RAll (w:World) (A:Nat→Prop):List α→List (Raw α)→Prop
 | [],[]=>True
 | x::xs,r::rs=>GoT.R w A x r.cs∧RAll w A xs rs
 | _,_=>False
theorem RAll.at {A:Nat→Prop}:∀ {xs:List α} {rs:List (Raw α)},RAll w A xs rs→xs.length=rs.length∧∀ (i:Nat) x,xs[i]?=some x→∃ r,rs[i]?=some r∧GoT.R w A x r.cs
 | [],[],_=>⟨rfl,fun i x h=>by simp at h⟩
 | x::xs,[],h=>h.elim
 | [],r::rs,h=>h.elim
 | x::xs,r::rs,h=>by
  obtain ⟨hl,ha⟩:=RAll.at h.2
  refine ⟨by simp [hl],fun i y hy=>?_⟩
  cases i with
  | zero=>simp only [List.getElem?_cons_zero,Option.some.injEq] at hy ⊢;subst hy;exact ⟨r,rfl,h.1⟩
  | succ i=>simp only [List.getElem?_cons_succ] at hy ⊢;exact ha i y hy
end
end Go.Fw


namespace Go.Fw
open Go
end Go.Fw


namespace Go.Fw
open Go
open Go.RowKit (Below)
section
variable {P:Program} {T:Tab} {n:Nat} {Q:Exit→Act→World→Prop} {k:List It} {e:Env} {w0 w:World} {L:List Ch}
variable {α:Type} [GoT α] {S S1:Nat→Prop} {xs ys:List α} {p p':Option Addr} {c c':Nat}
end
section
variable {α β γ:Type}
def Emp (o:Option (List α)):Prop:=∀ r,o=some r→r=[]
theorem Emp.none:Emp (none:Option (List α)):=fun _ h=>by cases h
theorem Emp.noneB {f:β→Option (List α)}:Emp ((Option.none:Option β).bind f):=fun _ h=>by cases h
theorem Emp.nil:Emp (some ([]:List α)):=fun _ h=>(Option.some.inj h).symm
theorem Emp.bif {c:Bool} {a b:Option (List α)} (h1:Emp a) (h2:Emp b):Emp (bif c then a else b):=by cases c<;>assumption
theorem Emp.sub {xs:List β} {lo:Int} {f:List β→Option (List α)} (h:Emp (f [])):Emp ((subS xs lo ((0:Nat):Int)).bind f):=fun r hr=>by
 cases hs:subS xs lo ((0:Nat):Int) with
 | none=>rw [hs] at hr;cases hr
 | some y =>
  rw [hs] at hr
  obtain ⟨_,_,_,e⟩:=qjt hs
  have:y=[]:=by rw [←e];simp
  subst this
  exact h r hr
theorem Emp.bind {x:Option β} {f:β→Option (List α)} (h:∀ y,Emp (f y)):Emp (x.bind f):=by
 cases x with
 | none=>exact Emp.noneB
 | some y=>exact h y
end
end Go.Fw


namespace Go.Fw
open Go
section
variable {ε:Type}
variable {ρ σ τ:Type}
end
end Go.Fw


namespace Go.Fw
open Go Go.Proofs
open Go.RowKit (Below)
set_option maxRecDepth 100000
set_option maxHeartbeats 1600000
variable {n:Nat} {w:World} {S:Nat→Prop} {cs1 cs2 cs3 cs4 cs5 cs6 cs7 cs8 cs9:List Value}
structure qF where
 Am:ByteArray
 Bh:Int
 Bg:Int
 Ba:Bool
instance gt_TPin:GoT qF:=isoT (pairT instStr (pairT instInt (pairT instInt instBool))) (fun x=>(x.Am,x.Bh,x.Bg,x.Ba)) ⟨ByteArray.empty,0,0,false⟩ rfl true (fun h=>by cases h)
instance fl_TPin:Flat qF:=qcQ (pairT instStr (pairT instInt (pairT instInt instBool))) (fun x:qF=>(x.Am,x.Bh,x.Bg,x.Ba)) ⟨ByteArray.empty,0,0,false⟩ rfl true (fun h=>by cases h) (qN _ _ (inferInstanceAs (Flat ByteArray)) (qN _ _ (inferInstanceAs (Flat Int)) (qN _ _ (inferInstanceAs (Flat Int)) (inferInstanceAs (Flat Bool)))))
abbrev qjf (x:qF):List Value:=[.string x.Am,.int .i64 x.Bh,.int .i64 x.Bg,.bool x.Ba]
theorem qai {x:qF} {cs:List Value} (h:GoT.R w S x cs):cs=(qjf x):=by
 obtain ⟨_,_,rfl,rfl,⟨_,_,rfl,rfl,⟨_,_,rfl,rfl,rfl⟩⟩⟩:=h
 exact rfl
theorem qb1 (x:qF):GoT.R w S x (qjf x):=have h:=pR (rT x.Am) (pR (rI x.Bh) (pR (rI x.Bg) (rB x.Ba)));h
structure ql where
 Ay:(List Int)
 Av:(List Int)
 Ap:(List Int)
instance gt_TTable:GoT ql:=isoT (pairT (@instList Int instInt) (pairT (@instList Int instInt) (@instList Int instInt))) (fun x=>(x.Ay,x.Av,x.Ap)) ⟨[],[],[]⟩ rfl true (fun h=>by cases h)
abbrev qhL (x:ql) (p0 p1 p2:Option Addr) (k0 k1 k2:Nat):List Value:=[.slice p0 (x.Ay).length k0,.slice p1 (x.Av).length k1,.slice p2 (x.Ap).length k2]
theorem qau {x:ql} {cs:List Value} (h:GoT.R w S x cs):∃ p0 k0 p1 k1 p2 k2,cs=(qhL x p0 p1 p2 k0 k1 k2)∧SlR w S x.Ay p0 k0∧SlR w S x.Av p1 k1∧SlR w S x.Ap p2 k2:=by
 obtain ⟨_,_,rfl,⟨p0,k0,rfl,s0⟩,⟨_,_,rfl,⟨p1,k1,rfl,s1⟩,⟨p2,k2,rfl,s2⟩⟩⟩:=h
 exact ⟨p0,k0,p1,k1,p2,k2,rfl,s0,s1,s2⟩
theorem qfd (x:ql) {p0 p1 p2:Option Addr} {k0 k1 k2:Nat} (s0:SlR w S x.Ay p0 k0) (s1:SlR w S x.Av p1 k1) (s2:SlR w S x.Ap p2 k2):GoT.R w S x (qhL x p0 p1 p2 k0 k1 k2):=have h:=pR (rS s0) (pR (rS s1) (rS s2));h
theorem ql2 {w0:World} {L:List Ch} {x:ql} {p0 p1 p2:Option Addr} {l0 k0 l1 k1 l2 k2:Nat} (h:SH w0 w (Ch.own S x [.slice p0 l0 k0,.slice p1 l1 k1,.slice p2 l2 k2]::L)):∃ S0 S1 S2,SH w0 w (Ch.own S2 x.Ap [.slice p2 l2 k2]::Ch.own S1 x.Av [.slice p1 l1 k1]::Ch.own S0 x.Ay [.slice p0 l0 k0]::L):=by
 obtain ⟨hv,ho⟩:=h.headV
 replace ho:GoT.O w S x _:=ho
 obtain ⟨A0,B0,d0,e0,he,o0,ho,a0,b0⟩:=ho
 obtain ⟨q,m,rfl,s0⟩:=o0
 cases he
 replace hv:=hv.push (c:=Ch.own A0 x.Ay [_]) (S2:=B0) ⟨_,_,rfl,s0⟩ (fun _ hd=>hd.elim) a0 b0
 obtain ⟨A1,B1,d1,e1,he,o1,ho,a1,b1⟩:=ho
 obtain ⟨q,m,rfl,s1⟩:=o1
 cases he
 replace hv:=hv.push (c:=Ch.own A1 x.Av [_]) (S2:=B1) ⟨_,_,rfl,s1⟩ (fun _ hd=>hd.elim) a1 b1
 obtain ⟨q,m,he,s2⟩:=ho
 cases he
 replace hv:=hv.push (c:=Ch.own B1 x.Ap [_]) (S2:=(fun _=>False)) ⟨_,_,rfl,s2⟩ (fun _ hd=>hd.elim) (fun b hb=>⟨hb,fun h=>h⟩) (fun _ h=>h.elim)
 exact ⟨A0,A1,B1,hv.sh⟩
theorem qlp {w0:World} {L:List Ch} (x:ql) {I0 I1 I2:List Nat} {c0 c1 c2:List Value} (h:SH w0 w L) (h0:PO w L I0 x.Ay c0) (h1:PO w L I1 x.Av c1) (h2:PO w L I2 x.Ap c2) (b0:apartB I0 (I1++I2)=true) (b1:apartB I1 I2=true):PO w L (I0++(I1++I2)) x (c0++(c1++c2)) :=
 (qbv h h0 (qbv h h1 h2 b1) b0)
structure qz where
 Ar:Int
 Az:Int
 To:Int
 Bc:Int
 At:(List ql)
 Bb:(List ql)
instance gt_TArc:GoT qz:=isoT (pairT instInt (pairT instInt (pairT instInt (pairT instInt (pairT (@instList ql gt_TTable) (@instList ql gt_TTable)))))) (fun x=>(x.Ar,x.Az,x.To,x.Bc,x.At,x.Bb)) ⟨0,0,0,0,[],[]⟩ rfl true (fun h=>by cases h)
abbrev qhN (x:qz) (p0 p1:Option Addr) (k0 k1:Nat):List Value:=[.int .i64 x.Ar,.int .i64 x.Az,.int .i64 x.To,.int .i64 x.Bc,.slice p0 (x.At).length k0,.slice p1 (x.Bb).length k1]
theorem qaa {x:qz} {cs:List Value} (h:GoT.R w S x cs):∃ p0 k0 p1 k1,cs=(qhN x p0 p1 k0 k1)∧SlR w S x.At p0 k0∧SlR w S x.Bb p1 k1:=by
 obtain ⟨_,_,rfl,rfl,⟨_,_,rfl,rfl,⟨_,_,rfl,rfl,⟨_,_,rfl,rfl,⟨_,_,rfl,⟨p0,k0,rfl,s0⟩,⟨p1,k1,rfl,s1⟩⟩⟩⟩⟩⟩:=h
 exact ⟨p0,k0,p1,k1,rfl,s0,s1⟩
theorem qeW (x:qz) {p0 p1:Option Addr} {k0 k1:Nat} (s0:SlR w S x.At p0 k0) (s1:SlR w S x.Bb p1 k1):GoT.R w S x (qhN x p0 p1 k0 k1):=have h:=pR (rI x.Ar) (pR (rI x.Az) (pR (rI x.To) (pR (rI x.Bc) (pR (rS s0) (rS s1)))));h
theorem qmQ {w0:World} {L:List Ch} {x:qz} {p0 p1:Option Addr} {l0 k0 l1 k1:Nat} (h:SH w0 w (Ch.own S x [.int .i64 x.Ar,.int .i64 x.Az,.int .i64 x.To,.int .i64 x.Bc,.slice p0 l0 k0,.slice p1 l1 k1]::L)):∃ S0 S1,SH w0 w (Ch.own S1 x.Bb [.slice p1 l1 k1]::Ch.own S0 x.At [.slice p0 l0 k0]::L):=by
 obtain ⟨hv,ho⟩:=h.headV
 replace ho:GoT.O w S x _:=ho
 obtain ⟨A0,B0,d0,e0,he,o0,ho,a0,b0⟩:=ho
 obtain rfl:=o0
 cases he
 replace hv:=hv.less b0
 obtain ⟨A1,B1,d1,e1,he,o1,ho,a1,b1⟩:=ho
 obtain rfl:=o1
 cases he
 replace hv:=hv.less b1
 obtain ⟨A2,B2,d2,e2,he,o2,ho,a2,b2⟩:=ho
 obtain rfl:=o2
 cases he
 replace hv:=hv.less b2
 obtain ⟨A3,B3,d3,e3,he,o3,ho,a3,b3⟩:=ho
 obtain rfl:=o3
 cases he
 replace hv:=hv.less b3
 obtain ⟨A4,B4,d4,e4,he,o4,ho,a4,b4⟩:=ho
 obtain ⟨q,m,rfl,s0⟩:=o4
 cases he
 replace hv:=hv.push (c:=Ch.own A4 x.At [_]) (S2:=B4) ⟨_,_,rfl,s0⟩ (fun _ hd=>hd.elim) a4 b4
 obtain ⟨q,m,he,s1⟩:=ho
 cases he
 replace hv:=hv.push (c:=Ch.own B4 x.Bb [_]) (S2:=(fun _=>False)) ⟨_,_,rfl,s1⟩ (fun _ hd=>hd.elim) (fun b hb=>⟨hb,fun h=>h⟩) (fun _ h=>h.elim)
 exact ⟨A4,B4,hv.sh⟩
theorem qnw {w0:World} {L:List Ch} (x:qz) {I0 I1 I2 I3 I4 I5:List Nat} {c0 c1 c2 c3 c4 c5:List Value} (h:SH w0 w L) (h0:PO w L I0 x.Ar c0) (h1:PO w L I1 x.Az c1) (h2:PO w L I2 x.To c2) (h3:PO w L I3 x.Bc c3) (h4:PO w L I4 x.At c4) (h5:PO w L I5 x.Bb c5) (b0:apartB I0 (I1++(I2++(I3++(I4++I5))))=true) (b1:apartB I1 (I2++(I3++(I4++I5)))=true) (b2:apartB I2 (I3++(I4++I5))=true) (b3:apartB I3 (I4++I5)=true) (b4:apartB I4 I5=true):PO w L (I0++(I1++(I2++(I3++(I4++I5))))) x (c0++(c1++(c2++(c3++(c4++c5))))) :=
 (qbv h h0 (qbv h h1 (qbv h h2 (qbv h h3 (qbv h h4 h5 b4) b3) b2) b1) b0)
structure qk where
 Am:ByteArray
 Ar:Int
 Ai:(List qF)
 Ak:(List qz)
 Au:(List Int)
 Bl:Int
 Bf:Int
instance gt_TCell:GoT qk:=isoT (pairT instStr (pairT instInt (pairT (@instList qF gt_TPin) (pairT (@instList qz gt_TArc) (pairT (@instList Int instInt) (pairT instInt instInt)))))) (fun x=>(x.Am,x.Ar,x.Ai,x.Ak,x.Au,x.Bl,x.Bf)) ⟨ByteArray.empty,0,[],[],[],0,0⟩ rfl true (fun h=>by cases h)
abbrev qb6 (x:qk) (p0 p1 p2:Option Addr) (k0 k1 k2:Nat):List Value:=[.string x.Am,.int .i64 x.Ar,.slice p0 (x.Ai).length k0,.slice p1 (x.Ak).length k1,.slice p2 (x.Au).length k2,.int .i64 x.Bl,.int .i64 x.Bf]
theorem qI {x:qk} {cs:List Value} (h:GoT.R w S x cs):∃ p0 k0 p1 k1 p2 k2,cs=(qb6 x p0 p1 p2 k0 k1 k2)∧SlR w S x.Ai p0 k0∧SlR w S x.Ak p1 k1∧SlR w S x.Au p2 k2:=by
 obtain ⟨_,_,rfl,rfl,⟨_,_,rfl,rfl,⟨_,_,rfl,⟨p0,k0,rfl,s0⟩,⟨_,_,rfl,⟨p1,k1,rfl,s1⟩,⟨_,_,rfl,⟨p2,k2,rfl,s2⟩,⟨_,_,rfl,rfl,rfl⟩⟩⟩⟩⟩⟩:=h
 exact ⟨p0,k0,p1,k1,p2,k2,rfl,s0,s1,s2⟩
theorem qgl (x:qk) {p0 p1 p2:Option Addr} {k0 k1 k2:Nat} (s0:SlR w S x.Ai p0 k0) (s1:SlR w S x.Ak p1 k1) (s2:SlR w S x.Au p2 k2):GoT.R w S x (qb6 x p0 p1 p2 k0 k1 k2):=have h:=pR (rT x.Am) (pR (rI x.Ar) (pR (rS s0) (pR (rS s1) (pR (rS s2) (pR (rI x.Bl) (rI x.Bf))))));h
theorem qmH {w0:World} {L:List Ch} {x:qk} {p0 p1 p2:Option Addr} {l0 k0 l1 k1 l2 k2:Nat} (h:SH w0 w (Ch.own S x [.string x.Am,.int .i64 x.Ar,.slice p0 l0 k0,.slice p1 l1 k1,.slice p2 l2 k2,.int .i64 x.Bl,.int .i64 x.Bf]::L)):∃ S0 S1 S2,SH w0 w (Ch.own S2 x.Au [.slice p2 l2 k2]::Ch.own S1 x.Ak [.slice p1 l1 k1]::Ch.own S0 x.Ai [.slice p0 l0 k0]::L):=by
 obtain ⟨hv,ho⟩:=h.headV
 replace ho:GoT.O w S x _:=ho
 obtain ⟨A0,B0,d0,e0,he,o0,ho,a0,b0⟩:=ho
 obtain rfl:=o0
 cases he
 replace hv:=hv.less b0
 obtain ⟨A1,B1,d1,e1,he,o1,ho,a1,b1⟩:=ho
 obtain rfl:=o1
 cases he
 replace hv:=hv.less b1
 obtain ⟨A2,B2,d2,e2,he,o2,ho,a2,b2⟩:=ho
 obtain ⟨q,m,rfl,s0⟩:=o2
 cases he
 replace hv:=hv.push (c:=Ch.own A2 x.Ai [_]) (S2:=B2) ⟨_,_,rfl,s0⟩ (fun _ hd=>hd.elim) a2 b2
 obtain ⟨A3,B3,d3,e3,he,o3,ho,a3,b3⟩:=ho
 obtain ⟨q,m,rfl,s1⟩:=o3
 cases he
 replace hv:=hv.push (c:=Ch.own A3 x.Ak [_]) (S2:=B3) ⟨_,_,rfl,s1⟩ (fun _ hd=>hd.elim) a3 b3
 obtain ⟨A4,B4,d4,e4,he,o4,ho,a4,b4⟩:=ho
 obtain ⟨q,m,rfl,s2⟩:=o4
 cases he
 replace hv:=hv.push (c:=Ch.own A4 x.Au [_]) (S2:=B4) ⟨_,_,rfl,s2⟩ (fun _ hd=>hd.elim) a4 b4
 obtain ⟨A5,B5,d5,e5,he,o5,ho,a5,b5⟩:=ho
 obtain rfl:=o5
 cases he
 replace hv:=hv.less b5
 exact ⟨A2,A3,A4,hv.sh⟩
theorem qmf {w0:World} {L:List Ch} (x:qk) {I0 I1 I2 I3 I4 I5 I6:List Nat} {c0 c1 c2 c3 c4 c5 c6:List Value} (h:SH w0 w L) (h0:PO w L I0 x.Am c0) (h1:PO w L I1 x.Ar c1) (h2:PO w L I2 x.Ai c2) (h3:PO w L I3 x.Ak c3) (h4:PO w L I4 x.Au c4) (h5:PO w L I5 x.Bl c5) (h6:PO w L I6 x.Bf c6) (b0:apartB I0 (I1++(I2++(I3++(I4++(I5++I6)))))=true) (b1:apartB I1 (I2++(I3++(I4++(I5++I6))))=true) (b2:apartB I2 (I3++(I4++(I5++I6)))=true) (b3:apartB I3 (I4++(I5++I6))=true) (b4:apartB I4 (I5++I6)=true) (b5:apartB I5 I6=true):PO w L (I0++(I1++(I2++(I3++(I4++(I5++I6)))))) x (c0++(c1++(c2++(c3++(c4++(c5++c6)))))) :=
 (qbv h h0 (qbv h h1 (qbv h h2 (qbv h h3 (qbv h h4 (qbv h h5 h6 b5) b4) b3) b2) b1) b0)
structure qn where
 Aj:(List qk)
instance gt_TLibrary:GoT qn:=isoT (@instList qk gt_TCell) (fun x=>x.Aj) ⟨[]⟩ rfl true (fun h=>by cases h)
theorem qa0 {x:qn} {cs:List Value} (h:GoT.R w S x cs):∃ p0 k0,cs=[.slice p0 (x.Aj).length k0]∧SlR w S x.Aj p0 k0:=by
 obtain ⟨p0,k0,rfl,s0⟩:=h
 exact ⟨p0,k0,rfl,s0⟩
theorem qdC (x:qn) {p0:Option Addr} {k0:Nat} (s0:SlR w S x.Aj p0 k0):GoT.R w S x [.slice p0 (x.Aj).length k0]:=have h:=rS s0;h
theorem qkl {w0:World} {L:List Ch} {x:qn} {p0:Option Addr} {l0 k0:Nat} (h:SH w0 w (Ch.own S x [.slice p0 l0 k0]::L)):∃ S0,SH w0 w (Ch.own S0 x.Aj [.slice p0 l0 k0]::L):=by
 obtain ⟨hv,ho⟩:=h.headV
 replace ho:GoT.O w S x _:=ho
 obtain ⟨q,m,he,s0⟩:=ho
 cases he
 replace hv:=hv.push (c:=Ch.own S x.Aj [_]) (S2:=(fun _=>False)) ⟨_,_,rfl,s0⟩ (fun _ hd=>hd.elim) (fun b hb=>⟨hb,fun h=>h⟩) (fun _ h=>h.elim)
 exact ⟨S,hv.sh⟩
theorem qmG {w0:World} {L:List Ch} (x:qn) {I0:List Nat} {c0:List Value} (_:SH w0 w L) (h0:PO w L I0 x.Aj c0):PO w L I0 x c0 :=
 h0
structure qc where
 Am:ByteArray
 Bj:Int
 Ac:(List Int)
instance gt_TInstance:GoT qc:=isoT (pairT instStr (pairT instInt (@instList Int instInt))) (fun x=>(x.Am,x.Bj,x.Ac)) ⟨ByteArray.empty,0,[]⟩ rfl true (fun h=>by cases h)
abbrev qfC (x:qc) (p0:Option Addr) (k0:Nat):List Value:=[.string x.Am,.int .i64 x.Bj,.slice p0 (x.Ac).length k0]
theorem qJ {x:qc} {cs:List Value} (h:GoT.R w S x cs):∃ p0 k0,cs=(qfC x p0 k0)∧SlR w S x.Ac p0 k0:=by
 obtain ⟨_,_,rfl,rfl,⟨_,_,rfl,rfl,⟨p0,k0,rfl,s0⟩⟩⟩:=h
 exact ⟨p0,k0,rfl,s0⟩
theorem qev (x:qc) {p0:Option Addr} {k0:Nat} (s0:SlR w S x.Ac p0 k0):GoT.R w S x (qfC x p0 k0):=have h:=pR (rT x.Am) (pR (rI x.Bj) (rS s0));h
theorem qj5 {w0:World} {L:List Ch} {x:qc} {p0:Option Addr} {l0 k0:Nat} (h:SH w0 w (Ch.own S x [.string x.Am,.int .i64 x.Bj,.slice p0 l0 k0]::L)):∃ S0,SH w0 w (Ch.own S0 x.Ac [.slice p0 l0 k0]::L):=by
 obtain ⟨hv,ho⟩:=h.headV
 replace ho:GoT.O w S x _:=ho
 obtain ⟨A0,B0,d0,e0,he,o0,ho,a0,b0⟩:=ho
 obtain rfl:=o0
 cases he
 replace hv:=hv.less b0
 obtain ⟨A1,B1,d1,e1,he,o1,ho,a1,b1⟩:=ho
 obtain rfl:=o1
 cases he
 replace hv:=hv.less b1
 obtain ⟨q,m,he,s0⟩:=ho
 cases he
 replace hv:=hv.push (c:=Ch.own B1 x.Ac [_]) (S2:=(fun _=>False)) ⟨_,_,rfl,s0⟩ (fun _ hd=>hd.elim) (fun b hb=>⟨hb,fun h=>h⟩) (fun _ h=>h.elim)
 exact ⟨B1,hv.sh⟩
theorem qiX {w0:World} {L:List Ch} (x:qc) {I0 I1 I2:List Nat} {c0 c1 c2:List Value} (h:SH w0 w L) (h0:PO w L I0 x.Am c0) (h1:PO w L I1 x.Bj c1) (h2:PO w L I2 x.Ac c2) (b0:apartB I0 (I1++I2)=true) (b1:apartB I1 I2=true):PO w L (I0++(I1++I2)) x (c0++(c1++c2)) :=
 (qbv h h0 (qbv h h1 h2 b1) b0)
structure qu where
 Am:ByteArray
 Bh:Int
 Bk:Int
instance gt_TPort:GoT qu:=isoT (pairT instStr (pairT instInt instInt)) (fun x=>(x.Am,x.Bh,x.Bk)) ⟨ByteArray.empty,0,0⟩ rfl true (fun h=>by cases h)
instance fl_TPort:Flat qu:=qcQ (pairT instStr (pairT instInt instInt)) (fun x:qu=>(x.Am,x.Bh,x.Bk)) ⟨ByteArray.empty,0,0⟩ rfl true (fun h=>by cases h) (qN _ _ (inferInstanceAs (Flat ByteArray)) (qN _ _ (inferInstanceAs (Flat Int)) (inferInstanceAs (Flat Int))))
abbrev qke (x:qu):List Value:=[.string x.Am,.int .i64 x.Bh,.int .i64 x.Bk]
theorem qX {x:qu} {cs:List Value} (h:GoT.R w S x cs):cs=(qke x):=by
 obtain ⟨_,_,rfl,rfl,⟨_,_,rfl,rfl,rfl⟩⟩:=h
 exact rfl
theorem qcf (x:qu):GoT.R w S x (qke x):=have h:=pR (rT x.Am) (pR (rI x.Bh) (rI x.Bk));h
structure qd where
 Aa:(List qc)
 Ac:(List ByteArray)
 Af:(List qu)
instance gt_TDesign:GoT qd:=isoT (pairT (@instList qc gt_TInstance) (pairT (@instList ByteArray instStr) (@instList qu gt_TPort))) (fun x=>(x.Aa,x.Ac,x.Af)) ⟨[],[],[]⟩ rfl true (fun h=>by cases h)
abbrev qaq (x:qd) (p0 p1 p2:Option Addr) (k0 k1 k2:Nat):List Value:=[.slice p0 (x.Aa).length k0,.slice p1 (x.Ac).length k1,.slice p2 (x.Af).length k2]
theorem qag {x:qd} {cs:List Value} (h:GoT.R w S x cs):∃ p0 k0 p1 k1 p2 k2,cs=(qaq x p0 p1 p2 k0 k1 k2)∧SlR w S x.Aa p0 k0∧SlR w S x.Ac p1 k1∧SlR w S x.Af p2 k2:=by
 obtain ⟨_,_,rfl,⟨p0,k0,rfl,s0⟩,⟨_,_,rfl,⟨p1,k1,rfl,s1⟩,⟨p2,k2,rfl,s2⟩⟩⟩:=h
 exact ⟨p0,k0,p1,k1,p2,k2,rfl,s0,s1,s2⟩
theorem qbs (x:qd) {p0 p1 p2:Option Addr} {k0 k1 k2:Nat} (s0:SlR w S x.Aa p0 k0) (s1:SlR w S x.Ac p1 k1) (s2:SlR w S x.Af p2 k2):GoT.R w S x (qaq x p0 p1 p2 k0 k1 k2):=have h:=pR (rS s0) (pR (rS s1) (rS s2));h
theorem qk9 {w0:World} {L:List Ch} {x:qd} {p0 p1 p2:Option Addr} {l0 k0 l1 k1 l2 k2:Nat} (h:SH w0 w (Ch.own S x [.slice p0 l0 k0,.slice p1 l1 k1,.slice p2 l2 k2]::L)):∃ S0 S1 S2,SH w0 w (Ch.own S2 x.Af [.slice p2 l2 k2]::Ch.own S1 x.Ac [.slice p1 l1 k1]::Ch.own S0 x.Aa [.slice p0 l0 k0]::L):=by
 obtain ⟨hv,ho⟩:=h.headV
 replace ho:GoT.O w S x _:=ho
 obtain ⟨A0,B0,d0,e0,he,o0,ho,a0,b0⟩:=ho
 obtain ⟨q,m,rfl,s0⟩:=o0
 cases he
 replace hv:=hv.push (c:=Ch.own A0 x.Aa [_]) (S2:=B0) ⟨_,_,rfl,s0⟩ (fun _ hd=>hd.elim) a0 b0
 obtain ⟨A1,B1,d1,e1,he,o1,ho,a1,b1⟩:=ho
 obtain ⟨q,m,rfl,s1⟩:=o1
 cases he
 replace hv:=hv.push (c:=Ch.own A1 x.Ac [_]) (S2:=B1) ⟨_,_,rfl,s1⟩ (fun _ hd=>hd.elim) a1 b1
 obtain ⟨q,m,he,s2⟩:=ho
 cases he
 replace hv:=hv.push (c:=Ch.own B1 x.Af [_]) (S2:=(fun _=>False)) ⟨_,_,rfl,s2⟩ (fun _ hd=>hd.elim) (fun b hb=>⟨hb,fun h=>h⟩) (fun _ h=>h.elim)
 exact ⟨A0,A1,B1,hv.sh⟩
theorem qm2 {w0:World} {L:List Ch} (x:qd) {I0 I1 I2:List Nat} {c0 c1 c2:List Value} (h:SH w0 w L) (h0:PO w L I0 x.Aa c0) (h1:PO w L I1 x.Ac c1) (h2:PO w L I2 x.Af c2) (b0:apartB I0 (I1++I2)=true) (b1:apartB I1 I2=true):PO w L (I0++(I1++I2)) x (c0++(c1++c2)) :=
 (qbv h h0 (qbv h h1 h2 b1) b0)
structure qr where
 Ah:(List Int)
 Bi:(List Int)
 Bg:(List Int)
 Be:(List Int)
instance gt_TWire:GoT qr:=isoT (pairT (@instList Int instInt) (pairT (@instList Int instInt) (pairT (@instList Int instInt) (@instList Int instInt)))) (fun x=>(x.Ah,x.Bi,x.Bg,x.Be)) ⟨[],[],[],[]⟩ rfl true (fun h=>by cases h)
abbrev qhl (x:qr) (p0 p1 p2 p3:Option Addr) (k0 k1 k2 k3:Nat):List Value:=[.slice p0 (x.Ah).length k0,.slice p1 (x.Bi).length k1,.slice p2 (x.Bg).length k2,.slice p3 (x.Be).length k3]
theorem qaS {x:qr} {cs:List Value} (h:GoT.R w S x cs):∃ p0 k0 p1 k1 p2 k2 p3 k3,cs=(qhl x p0 p1 p2 p3 k0 k1 k2 k3)∧SlR w S x.Ah p0 k0∧SlR w S x.Bi p1 k1∧SlR w S x.Bg p2 k2∧SlR w S x.Be p3 k3:=by
 obtain ⟨_,_,rfl,⟨p0,k0,rfl,s0⟩,⟨_,_,rfl,⟨p1,k1,rfl,s1⟩,⟨_,_,rfl,⟨p2,k2,rfl,s2⟩,⟨p3,k3,rfl,s3⟩⟩⟩⟩:=h
 exact ⟨p0,k0,p1,k1,p2,k2,p3,k3,rfl,s0,s1,s2,s3⟩
theorem qgn (x:qr) {p0 p1 p2 p3:Option Addr} {k0 k1 k2 k3:Nat} (s0:SlR w S x.Ah p0 k0) (s1:SlR w S x.Bi p1 k1) (s2:SlR w S x.Bg p2 k2) (s3:SlR w S x.Be p3 k3):GoT.R w S x (qhl x p0 p1 p2 p3 k0 k1 k2 k3):=have h:=pR (rS s0) (pR (rS s1) (pR (rS s2) (rS s3)));h
theorem qmB {w0:World} {L:List Ch} {x:qr} {p0 p1 p2 p3:Option Addr} {l0 k0 l1 k1 l2 k2 l3 k3:Nat} (h:SH w0 w (Ch.own S x [.slice p0 l0 k0,.slice p1 l1 k1,.slice p2 l2 k2,.slice p3 l3 k3]::L)):∃ S0 S1 S2 S3,SH w0 w (Ch.own S3 x.Be [.slice p3 l3 k3]::Ch.own S2 x.Bg [.slice p2 l2 k2]::Ch.own S1 x.Bi [.slice p1 l1 k1]::Ch.own S0 x.Ah [.slice p0 l0 k0]::L):=by
 obtain ⟨hv,ho⟩:=h.headV
 replace ho:GoT.O w S x _:=ho
 obtain ⟨A0,B0,d0,e0,he,o0,ho,a0,b0⟩:=ho
 obtain ⟨q,m,rfl,s0⟩:=o0
 cases he
 replace hv:=hv.push (c:=Ch.own A0 x.Ah [_]) (S2:=B0) ⟨_,_,rfl,s0⟩ (fun _ hd=>hd.elim) a0 b0
 obtain ⟨A1,B1,d1,e1,he,o1,ho,a1,b1⟩:=ho
 obtain ⟨q,m,rfl,s1⟩:=o1
 cases he
 replace hv:=hv.push (c:=Ch.own A1 x.Bi [_]) (S2:=B1) ⟨_,_,rfl,s1⟩ (fun _ hd=>hd.elim) a1 b1
 obtain ⟨A2,B2,d2,e2,he,o2,ho,a2,b2⟩:=ho
 obtain ⟨q,m,rfl,s2⟩:=o2
 cases he
 replace hv:=hv.push (c:=Ch.own A2 x.Bg [_]) (S2:=B2) ⟨_,_,rfl,s2⟩ (fun _ hd=>hd.elim) a2 b2
 obtain ⟨q,m,he,s3⟩:=ho
 cases he
 replace hv:=hv.push (c:=Ch.own B2 x.Be [_]) (S2:=(fun _=>False)) ⟨_,_,rfl,s3⟩ (fun _ hd=>hd.elim) (fun b hb=>⟨hb,fun h=>h⟩) (fun _ h=>h.elim)
 exact ⟨A0,A1,A2,B2,hv.sh⟩
theorem qmJ {w0:World} {L:List Ch} (x:qr) {I0 I1 I2 I3:List Nat} {c0 c1 c2 c3:List Value} (h:SH w0 w L) (h0:PO w L I0 x.Ah c0) (h1:PO w L I1 x.Bi c1) (h2:PO w L I2 x.Bg c2) (h3:PO w L I3 x.Be c3) (b0:apartB I0 (I1++(I2++I3))=true) (b1:apartB I1 (I2++I3)=true) (b2:apartB I2 I3=true):PO w L (I0++(I1++(I2++I3))) x (c0++(c1++(c2++c3))) :=
 (qbv h h0 (qbv h h1 (qbv h h2 h3 b2) b1) b0)
structure qp where
 As:qn
 Ab:qd
 Aq:(List qr)
instance gt_TBlock:GoT qp:=isoT (pairT gt_TLibrary (pairT gt_TDesign (@instList qr gt_TWire))) (fun x=>(x.As,x.Ab,x.Aq)) ⟨(⟨[]⟩:qn),(⟨[],[],[]⟩:qd),[]⟩ rfl true (fun h=>by cases h)
abbrev qbw (x:qp) (p0 p1 p2 p3 p4:Option Addr) (k0 k1 k2 k3 k4:Nat):List Value:=[.slice p0 (x.As.Aj).length k0,.slice p1 (x.Ab.Aa).length k1,.slice p2 (x.Ab.Ac).length k2,.slice p3 (x.Ab.Af).length k3,.slice p4 (x.Aq).length k4]
theorem qay {x:qp} {cs:List Value} (h:GoT.R w S x cs):∃ p0 k0 p1 k1 p2 k2 p3 k3 p4 k4,cs=(qbw x p0 p1 p2 p3 p4 k0 k1 k2 k3 k4)∧SlR w S x.As.Aj p0 k0∧SlR w S x.Ab.Aa p1 k1∧SlR w S x.Ab.Ac p2 k2∧SlR w S x.Ab.Af p3 k3∧SlR w S x.Aq p4 k4:=by
 obtain ⟨_,_,rfl,⟨p0,k0,rfl,s0⟩,⟨_,_,rfl,⟨_,_,rfl,⟨p1,k1,rfl,s1⟩,⟨_,_,rfl,⟨p2,k2,rfl,s2⟩,⟨p3,k3,rfl,s3⟩⟩⟩,⟨p4,k4,rfl,s4⟩⟩⟩:=h
 exact ⟨p0,k0,p1,k1,p2,k2,p3,k3,p4,k4,rfl,s0,s1,s2,s3,s4⟩
theorem qmU (x:qp) {p0 p1 p2 p3 p4:Option Addr} {k0 k1 k2 k3 k4:Nat} (s0:SlR w S x.As.Aj p0 k0) (s1:SlR w S x.Ab.Aa p1 k1) (s2:SlR w S x.Ab.Ac p2 k2) (s3:SlR w S x.Ab.Af p3 k3) (s4:SlR w S x.Aq p4 k4):GoT.R w S x (qbw x p0 p1 p2 p3 p4 k0 k1 k2 k3 k4):=have h:=pR (qdC x.As s0) (pR (qbs x.Ab s1 s2 s3) (rS s4));h
theorem qld {w0:World} {L:List Ch} {x:qp} {p0 p1 p2 p3 p4:Option Addr} {l0 k0 l1 k1 l2 k2 l3 k3 l4 k4:Nat} (h:SH w0 w (Ch.own S x [.slice p0 l0 k0,.slice p1 l1 k1,.slice p2 l2 k2,.slice p3 l3 k3,.slice p4 l4 k4]::L)):∃ S0 S1 S2,SH w0 w (Ch.own S2 x.Aq [.slice p4 l4 k4]::Ch.own S1 x.Ab [.slice p1 l1 k1,.slice p2 l2 k2,.slice p3 l3 k3]::Ch.own S0 x.As [.slice p0 l0 k0]::L):=by
 obtain ⟨hv,ho⟩:=h.headV
 replace ho:GoT.O w S x _:=ho
 obtain ⟨A0,B0,d0,e0,he0,o0,ho,a0,b0⟩:=ho
 have hl0:d0.length=1:=GoT.len (GoT.toR o0)
 obtain ⟨rfl,rfl⟩:d0=[.slice p0 l0 k0]∧e0=[.slice p1 l1 k1,.slice p2 l2 k2,.slice p3 l3 k3,.slice p4 l4 k4]:=by
  have:=List.append_inj (show [.slice p0 l0 k0]++[.slice p1 l1 k1,.slice p2 l2 k2,.slice p3 l3 k3,.slice p4 l4 k4]=d0++e0 from he0) (by rw [hl0];rfl)
  exact ⟨this.1.symm,this.2.symm⟩
 replace hv:=hv.push (c:=Ch.own A0 x.As [.slice p0 l0 k0]) (S2:=B0) o0 (fun _ hd=>hd.elim) a0 b0
 obtain ⟨A1,B1,d1,e1,he1,o1,ho,a1,b1⟩:=ho
 have hl1:d1.length=3:=GoT.len (GoT.toR o1)
 obtain ⟨rfl,rfl⟩:d1=[.slice p1 l1 k1,.slice p2 l2 k2,.slice p3 l3 k3]∧e1=[.slice p4 l4 k4]:=by
  have:=List.append_inj (show [.slice p1 l1 k1,.slice p2 l2 k2,.slice p3 l3 k3]++[.slice p4 l4 k4]=d1++e1 from he1) (by rw [hl1];rfl)
  exact ⟨this.1.symm,this.2.symm⟩
 replace hv:=hv.push (c:=Ch.own A1 x.Ab [.slice p1 l1 k1,.slice p2 l2 k2,.slice p3 l3 k3]) (S2:=B1) o1 (fun _ hd=>hd.elim) a1 b1
 replace hv:=hv.push (c:=Ch.own B1 x.Aq [.slice p4 l4 k4]) (S2:=(fun _=>False)) ho (fun _ hd=>hd.elim) (fun b hb=>⟨hb,fun h=>h⟩) (fun _ h=>h.elim)
 exact ⟨A0,A1,B1,hv.sh⟩
theorem qnY {w0:World} {L:List Ch} (x:qp) {I0 I1 I2:List Nat} {c0 c1 c2:List Value} (h:SH w0 w L) (h0:PO w L I0 x.As c0) (h1:PO w L I1 x.Ab c1) (h2:PO w L I2 x.Aq c2) (b0:apartB I0 (I1++I2)=true) (b1:apartB I1 I2=true):PO w L (I0++(I1++I2)) x (c0++(c1++c2)) :=
 (qbv h h0 (qbv h h1 h2 b1) b0)
structure qb where
 A:Int
 B:Int
 Bd:Int
instance gt_TCoupling:GoT qb:=isoT (pairT instInt (pairT instInt instInt)) (fun x=>(x.A,x.B,x.Bd)) ⟨0,0,0⟩ rfl true (fun h=>by cases h)
instance fl_TCoupling:Flat qb:=qcQ (pairT instInt (pairT instInt instInt)) (fun x:qb=>(x.A,x.B,x.Bd)) ⟨0,0,0⟩ rfl true (fun h=>by cases h) (qN _ _ (inferInstanceAs (Flat Int)) (qN _ _ (inferInstanceAs (Flat Int)) (inferInstanceAs (Flat Int))))
abbrev qfK (x:qb):List Value:=[.int .i64 x.A,.int .i64 x.B,.int .i64 x.Bd]
theorem qC {x:qb} {cs:List Value} (h:GoT.R w S x cs):cs=(qfK x):=by
 obtain ⟨_,_,rfl,rfl,⟨_,_,rfl,rfl,rfl⟩⟩:=h
 exact rfl
theorem qaM (x:qb):GoT.R w S x (qfK x):=have h:=pR (rI x.A) (pR (rI x.B) (rI x.Bd));h
structure qbd where
 Bm:Int
 Bs:Int
instance gt_TSpan:GoT qbd:=isoT (pairT instInt instInt) (fun x=>(x.Bm,x.Bs)) ⟨0,0⟩ rfl true (fun h=>by cases h)
instance fl_TSpan:Flat qbd:=qcQ (pairT instInt instInt) (fun x:qbd=>(x.Bm,x.Bs)) ⟨0,0⟩ rfl true (fun h=>by cases h) (qN _ _ (inferInstanceAs (Flat Int)) (inferInstanceAs (Flat Int)))
abbrev qnA (x:qbd):List Value:=[.int .i64 x.Bm,.int .i64 x.Bs]
theorem qmS {x:qbd} {cs:List Value} (h:GoT.R w S x cs):cs=(qnA x):=by
 obtain ⟨_,_,rfl,rfl,rfl⟩:=h
 exact rfl
theorem qlA (x:qbd):GoT.R w S x (qnA x):=have h:=pR (rI x.Bm) (rI x.Bs);h
structure qhn where
 Bu:(List Bool)
 Bo:(List qbd)
 Bb:(List qbd)
instance gt_TTiming:GoT qhn:=isoT (pairT (@instList Bool instBool) (pairT (@instList qbd gt_TSpan) (@instList qbd gt_TSpan))) (fun x=>(x.Bu,x.Bo,x.Bb)) ⟨[],[],[]⟩ rfl true (fun h=>by cases h)
structure qf6 where
 Am:ByteArray
 Bn:Int
 Br:Int
 Bp:Int
 Bq:Int
instance gt_TCorner:GoT qf6:=isoT (pairT instStr (pairT instInt (pairT instInt (pairT instInt instInt)))) (fun x=>(x.Am,x.Bn,x.Br,x.Bp,x.Bq)) ⟨ByteArray.empty,0,0,0,0⟩ rfl true (fun h=>by cases h)
instance fl_TCorner:Flat qf6:=qcQ (pairT instStr (pairT instInt (pairT instInt (pairT instInt instInt)))) (fun x:qf6=>(x.Am,x.Bn,x.Br,x.Bp,x.Bq)) ⟨ByteArray.empty,0,0,0,0⟩ rfl true (fun h=>by cases h) (qN _ _ (inferInstanceAs (Flat ByteArray)) (qN _ _ (inferInstanceAs (Flat Int)) (qN _ _ (inferInstanceAs (Flat Int)) (qN _ _ (inferInstanceAs (Flat Int)) (inferInstanceAs (Flat Int))))))
structure qeD where
 Bt:Int
 Bo:qbd
 Bb:qbd
instance gt_TSource:GoT qeD:=isoT (pairT instInt (pairT gt_TSpan gt_TSpan)) (fun x=>(x.Bt,x.Bo,x.Bb)) ⟨0,(⟨0,0⟩:qbd),(⟨0,0⟩:qbd)⟩ rfl true (fun h=>by cases h)
instance fl_TSource:Flat qeD:=qcQ (pairT instInt (pairT gt_TSpan gt_TSpan)) (fun x:qeD=>(x.Bt,x.Bo,x.Bb)) ⟨0,(⟨0,0⟩:qbd),(⟨0,0⟩:qbd)⟩ rfl true (fun h=>by cases h) (qN _ _ (inferInstanceAs (Flat Int)) (qN _ _ (inferInstanceAs (Flat qbd)) (inferInstanceAs (Flat qbd))))
structure qjg where
 Cb:Int
 Bx:Int
instance gt_TLatch:GoT qjg:=isoT (pairT instInt instInt) (fun x=>(x.Cb,x.Bx)) ⟨0,0⟩ rfl true (fun h=>by cases h)
instance fl_TLatch:Flat qjg:=qcQ (pairT instInt instInt) (fun x:qjg=>(x.Cb,x.Bx)) ⟨0,0⟩ rfl true (fun h=>by cases h) (qN _ _ (inferInstanceAs (Flat Int)) (inferInstanceAs (Flat Int)))
structure qfh where
 Az:Int
 To:Int
 At:Int
 Bz:Int
instance gt_TLatchLink:GoT qfh:=isoT (pairT instInt (pairT instInt (pairT instInt instInt))) (fun x=>(x.Az,x.To,x.At,x.Bz)) ⟨0,0,0,0⟩ rfl true (fun h=>by cases h)
instance fl_TLatchLink:Flat qfh:=qcQ (pairT instInt (pairT instInt (pairT instInt instInt))) (fun x:qfh=>(x.Az,x.To,x.At,x.Bz)) ⟨0,0,0,0⟩ rfl true (fun h=>by cases h) (qN _ _ (inferInstanceAs (Flat Int)) (qN _ _ (inferInstanceAs (Flat Int)) (qN _ _ (inferInstanceAs (Flat Int)) (inferInstanceAs (Flat Int)))))
structure qjc where
 Bw:(List qjg)
 Ca:(List qfh)
instance gt_TLatchSystem:GoT qjc:=isoT (pairT (@instList qjg gt_TLatch) (@instList qfh gt_TLatchLink)) (fun x=>(x.Bw,x.Ca)) ⟨[],[]⟩ rfl true (fun h=>by cases h)
structure Tplace where
 instance_:Int
 pin:Int
 net:Int
 drives:Bool
instance gt_Tplace:GoT Tplace:=isoT (pairT instInt (pairT instInt (pairT instInt instBool))) (fun x=>(x.instance_,x.pin,x.net,x.drives)) ⟨0,0,0,false⟩ rfl true (fun h=>by cases h)
instance fl_Tplace:Flat Tplace:=qcQ (pairT instInt (pairT instInt (pairT instInt instBool))) (fun x:Tplace=>(x.instance_,x.pin,x.net,x.drives)) ⟨0,0,0,false⟩ rfl true (fun h=>by cases h) (qN _ _ (inferInstanceAs (Flat Int)) (qN _ _ (inferInstanceAs (Flat Int)) (qN _ _ (inferInstanceAs (Flat Int)) (inferInstanceAs (Flat Bool)))))
abbrev qmu (x:Tplace):List Value:=[.int .i64 x.instance_,.int .i64 x.pin,.int .i64 x.net,.bool x.drives]
theorem qmC {x:Tplace} {cs:List Value} (h:GoT.R w S x cs):cs=(qmu x):=by
 obtain ⟨_,_,rfl,rfl,⟨_,_,rfl,rfl,⟨_,_,rfl,rfl,rfl⟩⟩⟩:=h
 exact rfl
theorem qkC (x:Tplace):GoT.R w S x (qmu x):=have h:=pR (rI x.instance_) (pR (rI x.pin) (pR (rI x.net) (rB x.drives)));h
structure qer where
 Az:Int
 To:Int
 Ar:Int
 Bv:Int
instance gt_TLink:GoT qer:=isoT (pairT instInt (pairT instInt (pairT instInt instInt))) (fun x=>(x.Az,x.To,x.Ar,x.Bv)) ⟨0,0,0,0⟩ rfl true (fun h=>by cases h)
instance fl_TLink:Flat qer:=qcQ (pairT instInt (pairT instInt (pairT instInt instInt))) (fun x:qer=>(x.Az,x.To,x.Ar,x.Bv)) ⟨0,0,0,0⟩ rfl true (fun h=>by cases h) (qN _ _ (inferInstanceAs (Flat Int)) (qN _ _ (inferInstanceAs (Flat Int)) (qN _ _ (inferInstanceAs (Flat Int)) (inferInstanceAs (Flat Int)))))
structure Tview where
 Cc:qp
 places:(List Tplace)
 links:(List qer)
 loads:(List Int)
 delays:(List (List Int))
 extras:(List Int)
instance gt_Tview:GoT Tview:=isoT (pairT gt_TBlock (pairT (@instList Tplace gt_Tplace) (pairT (@instList qer gt_TLink) (pairT (@instList Int instInt) (pairT (@instList (List Int) (@instList Int instInt)) (@instList Int instInt)))))) (fun x=>(x.Cc,x.places,x.links,x.loads,x.delays,x.extras)) ⟨(⟨(⟨[]⟩:qn),(⟨[],[],[]⟩:qd),[]⟩:qp),[],[],[],[],[]⟩ rfl true (fun h=>by cases h)
structure Tgraph where
 view:(Option Tview)
 live:(List Bool)
instance gt_Tgraph:GoT Tgraph:=isoT (pairT (@instPtr Tview gt_Tview) (@instList Bool instBool)) (fun x=>(x.view,x.live)) ⟨none,[]⟩ rfl true (fun h=>by cases h)
structure TlatchSite where
 instance_:Int
 first:Int
 arc:Int
instance gt_TlatchSite:GoT TlatchSite:=isoT (pairT instInt (pairT instInt instInt)) (fun x=>(x.instance_,x.first,x.arc)) ⟨0,0,0⟩ rfl true (fun h=>by cases h)
instance fl_TlatchSite:Flat TlatchSite:=qcQ (pairT instInt (pairT instInt instInt)) (fun x:TlatchSite=>(x.instance_,x.first,x.arc)) ⟨0,0,0⟩ rfl true (fun h=>by cases h) (qN _ _ (inferInstanceAs (Flat Int)) (qN _ _ (inferInstanceAs (Flat Int)) (inferInstanceAs (Flat Int))))
structure Tl05Place where
 instance_:Int
 pin:Int
 net:Int
 drives:Bool
instance gt_Tl05Place:GoT Tl05Place:=isoT (pairT instInt (pairT instInt (pairT instInt instBool))) (fun x=>(x.instance_,x.pin,x.net,x.drives)) ⟨0,0,0,false⟩ rfl true (fun h=>by cases h)
instance fl_Tl05Place:Flat Tl05Place:=qcQ (pairT instInt (pairT instInt (pairT instInt instBool))) (fun x:Tl05Place=>(x.instance_,x.pin,x.net,x.drives)) ⟨0,0,0,false⟩ rfl true (fun h=>by cases h) (qN _ _ (inferInstanceAs (Flat Int)) (qN _ _ (inferInstanceAs (Flat Int)) (qN _ _ (inferInstanceAs (Flat Int)) (inferInstanceAs (Flat Bool)))))
abbrev qjE (x:Tl05Place):List Value:=[.int .i64 x.instance_,.int .i64 x.pin,.int .i64 x.net,.bool x.drives]
theorem qhM {x:Tl05Place} {cs:List Value} (h:GoT.R w S x cs):cs=(qjE x):=by
 obtain ⟨_,_,rfl,rfl,⟨_,_,rfl,rfl,⟨_,_,rfl,rfl,rfl⟩⟩⟩:=h
 exact rfl
theorem qir (x:Tl05Place):GoT.R w S x (qjE x):=have h:=pR (rI x.instance_) (pR (rI x.pin) (pR (rI x.net) (rB x.drives)));h
structure qh4 where
 e0:Int
 e1:Int
instance gt_TA2_Int:GoT qh4:=isoT (pairT instInt instInt) (fun x=>(x.e0,x.e1)) ⟨0,0⟩ rfl true (fun h=>by cases h)
instance fl_TA2_Int:Flat qh4:=qcQ (pairT instInt instInt) (fun x:qh4=>(x.e0,x.e1)) ⟨0,0⟩ rfl true (fun h=>by cases h) (qN _ _ (inferInstanceAs (Flat Int)) (inferInstanceAs (Flat Int)))
structure Tweight where
 index:Int
 part:Int
instance gt_Tweight:GoT Tweight:=isoT (pairT instInt instInt) (fun x=>(x.index,x.part)) ⟨0,0⟩ rfl true (fun h=>by cases h)
instance fl_Tweight:Flat Tweight:=qcQ (pairT instInt instInt) (fun x:Tweight=>(x.index,x.part)) ⟨0,0⟩ rfl true (fun h=>by cases h) (qN _ _ (inferInstanceAs (Flat Int)) (inferInstanceAs (Flat Int)))
def tab:Tab:=[
 (2,⟨.int .i64,1,8,some (.int .i64 0),[]⟩),
 (3,⟨.int .i64,1,8,some (.int .i64 0),[]⟩),
 (4,⟨.bool,1,1,some (.bool false),[]⟩),
 (5,⟨.int .u8,1,1,some (.int .u8 0),[]⟩),
 (9,⟨.str,1,16,some (.string ByteArray.empty),[]⟩),
 (22,⟨.slice 295,1,24,some (.slice none 0 0),[]⟩),
 (24,⟨.struct,1,24,some (.agg #[.slice none 0 0]),[(0,1,some false)]⟩),
 (25,⟨.slice 297,1,24,some (.slice none 0 0),[]⟩),
 (26,⟨.slice 9,1,24,some (.slice none 0 0),[]⟩),
 (27,⟨.slice 300,1,24,some (.slice none 0 0),[]⟩),
 (29,⟨.struct,3,72,some (.agg #[.slice none 0 0,.slice none 0 0,.slice none 0 0]),[(0,1,some false),(1,1,some false),(2,1,some false)]⟩),
 (30,⟨.slice 212,1,24,some (.slice none 0 0),[]⟩),
 (32,⟨.struct,5,120,some (.agg #[.slice none 0 0,.slice none 0 0,.slice none 0 0,.slice none 0 0,.slice none 0 0]),[(0,1,some true),(1,3,some true),(4,1,some false)]⟩),
 (33,⟨.slice 118,1,24,some (.slice none 0 0),[]⟩),
 (34,⟨.slice 2,1,24,some (.slice none 0 0),[]⟩),
 (39,⟨.slice 263,1,24,some (.slice none 0 0),[]⟩),
 (41,⟨.struct,1,24,some (.agg #[.slice none 0 0]),[(0,1,some false)]⟩),
 (42,⟨.slice 184,1,24,some (.slice none 0 0),[]⟩),
 (43,⟨.slice 302,1,24,some (.slice none 0 0),[]⟩),
 (45,⟨.struct,3,72,some (.agg #[.slice none 0 0,.slice none 0 0,.slice none 0 0]),[(0,1,some false),(1,1,some false),(2,1,some false)]⟩),
 (46,⟨.slice 215,1,24,some (.slice none 0 0),[]⟩),
 (48,⟨.struct,5,120,some (.agg #[.slice none 0 0,.slice none 0 0,.slice none 0 0,.slice none 0 0,.slice none 0 0]),[(0,1,some true),(1,3,some true),(4,1,some false)]⟩),
 (50,⟨.slice 116,1,24,some (.slice none 0 0),[]⟩),
 (60,⟨.slice 4,1,24,some (.slice none 0 0),[]⟩),
 (61,⟨.slice 155,1,24,some (.slice none 0 0),[]⟩),
 (63,⟨.struct,3,72,some (.agg #[.slice none 0 0,.slice none 0 0,.slice none 0 0]),[(0,1,some false),(1,1,some false),(2,1,some false)]⟩),
 (66,⟨.struct,2,16,some (.agg #[.int .i64 0,.int .i64 0]),[(0,1,some false),(1,1,some false)]⟩),
 (69,⟨.slice 66,1,24,some (.slice none 0 0),[]⟩),
 (71,⟨.struct,3,72,some (.agg #[.slice none 0 0,.slice none 0 0,.slice none 0 0]),[(0,1,some false),(1,1,some false),(2,1,some false)]⟩),
 (80,⟨.struct,5,48,some (.agg #[.string ByteArray.empty,.int .i64 0,.int .i64 0,.int .i64 0,.int .i64 0]),[(0,1,some false),(1,1,some false),(2,1,some false),(3,1,some false),(4,1,some false)]⟩),
 (81,⟨.slice 157,1,24,some (.slice none 0 0),[]⟩),
 (86,⟨.struct,5,48,some (.agg #[.string ByteArray.empty,.int .i64 0,.int .i64 0,.int .i64 0,.int .i64 0]),[(0,1,some false),(1,1,some false),(2,1,some false),(3,1,some false),(4,1,some false)]⟩),
 (88,⟨.slice 153,1,24,some (.slice none 0 0),[]⟩),
 (96,⟨.slice 182,1,24,some (.slice none 0 0),[]⟩),
 (97,⟨.slice 190,1,24,some (.slice none 0 0),[]⟩),
 (99,⟨.struct,2,48,some (.agg #[.slice none 0 0,.slice none 0 0]),[(0,1,some false),(1,1,some false)]⟩),
 (116,⟨.struct,3,24,some (.agg #[.int .i64 0,.int .i64 0,.int .i64 0]),[(0,1,some false),(1,1,some false),(2,1,some false)]⟩),
 (118,⟨.struct,3,24,some (.agg #[.int .i64 0,.int .i64 0,.int .i64 0]),[(0,1,some false),(1,1,some false),(2,1,some false)]⟩),
 (137,⟨.ptr,1,8,some (.pointer none),[]⟩),
 (153,⟨.struct,5,40,some (.agg #[.int .i64 0,.int .i64 0,.int .i64 0,.int .i64 0,.int .i64 0]),[(0,1,some false),(1,2,some true),(3,2,some true)]⟩),
 (155,⟨.struct,2,16,some (.agg #[.int .i64 0,.int .i64 0]),[(0,1,some false),(1,1,some false)]⟩),
 (157,⟨.struct,5,40,some (.agg #[.int .i64 0,.int .i64 0,.int .i64 0,.int .i64 0,.int .i64 0]),[(0,1,some false),(1,2,some true),(3,2,some true)]⟩),
 (162,⟨.struct,2,32,some (.agg #[.pointer none,.slice none 0 0]),[(0,1,some false),(1,1,some false)]⟩),
 (163,⟨.slice 224,1,24,some (.slice none 0 0),[]⟩),
 (164,⟨.slice 197,1,24,some (.slice none 0 0),[]⟩),
 (165,⟨.slice 34,1,24,some (.slice none 0 0),[]⟩),
 (167,⟨.struct,10,240,some (.agg #[.slice none 0 0,.slice none 0 0,.slice none 0 0,.slice none 0 0,.slice none 0 0,.slice none 0 0,.slice none 0 0,.slice none 0 0,.slice none 0 0,.slice none 0 0]),[(0,5,some true),(5,1,some false),(6,1,some false),(7,1,some false),(8,1,some false),(9,1,some false)]⟩),
 (182,⟨.struct,2,16,some (.agg #[.int .i64 0,.int .i64 0]),[(0,1,some false),(1,1,some false)]⟩),
 (184,⟨.struct,3,48,some (.agg #[.string ByteArray.empty,.int .i64 0,.slice none 0 0]),[(0,1,some false),(1,1,some false),(2,1,some false)]⟩),
 (190,⟨.struct,4,32,some (.agg #[.int .i64 0,.int .i64 0,.int .i64 0,.int .i64 0]),[(0,1,some false),(1,1,some false),(2,1,some false),(3,1,some false)]⟩),
 (193,⟨.slice 282,1,24,some (.slice none 0 0),[]⟩),
 (197,⟨.struct,4,32,some (.agg #[.int .i64 0,.int .i64 0,.int .i64 0,.int .i64 0]),[(0,1,some false),(1,1,some false),(2,1,some false),(3,1,some false)]⟩),
 (212,⟨.struct,4,96,some (.agg #[.slice none 0 0,.slice none 0 0,.slice none 0 0,.slice none 0 0]),[(0,1,some false),(1,1,some false),(2,1,some false),(3,1,some false)]⟩),
 (215,⟨.struct,4,96,some (.agg #[.slice none 0 0,.slice none 0 0,.slice none 0 0,.slice none 0 0]),[(0,1,some false),(1,1,some false),(2,1,some false),(3,1,some false)]⟩),
 (224,⟨.struct,4,32,some (.agg #[.int .i64 0,.int .i64 0,.int .i64 0,.bool false]),[(0,1,some false),(1,1,some false),(2,1,some false),(3,1,some false)]⟩),
 (258,⟨.ptr,1,8,some (.pointer none),[]⟩),
 (260,⟨.slice 345,1,24,some (.slice none 0 0),[]⟩),
 (261,⟨.slice 266,1,24,some (.slice none 0 0),[]⟩),
 (263,⟨.struct,7,112,some (.agg #[.string ByteArray.empty,.int .i64 0,.slice none 0 0,.slice none 0 0,.slice none 0 0,.int .i64 0,.int .i64 0]),[(0,1,some false),(1,1,some false),(2,1,some false),(3,1,some false),(4,1,some false),(5,1,some false),(6,1,some false)]⟩),
 (264,⟨.slice 334,1,24,some (.slice none 0 0),[]⟩),
 (266,⟨.struct,6,80,some (.agg #[.int .i64 0,.int .i64 0,.int .i64 0,.int .i64 0,.slice none 0 0,.slice none 0 0]),[(0,1,some false),(1,1,some false),(2,1,some false),(3,1,some false),(4,1,some false),(5,1,some false)]⟩),
 (269,⟨.slice 272,1,24,some (.slice none 0 0),[]⟩),
 (272,⟨.struct,4,32,some (.agg #[.int .i64 0,.int .i64 0,.int .i64 0,.bool false]),[(0,1,some false),(1,1,some false),(2,1,some false),(3,1,some false)]⟩),
 (282,⟨.struct,3,24,some (.agg #[.int .i64 0,.int .i64 0,.int .i64 0]),[(0,1,some false),(1,1,some false),(2,1,some false)]⟩),
 (284,⟨.slice 3,1,24,some (.slice none 0 0),[]⟩),
 (292,⟨.slice 376,1,24,some (.slice none 0 0),[]⟩),
 (293,⟨.slice 380,1,24,some (.slice none 0 0),[]⟩),
 (295,⟨.struct,7,112,some (.agg #[.string ByteArray.empty,.int .i64 0,.slice none 0 0,.slice none 0 0,.slice none 0 0,.int .i64 0,.int .i64 0]),[(0,1,some false),(1,1,some false),(2,1,some false),(3,1,some false),(4,1,some false),(5,1,some false),(6,1,some false)]⟩),
 (297,⟨.struct,3,48,some (.agg #[.string ByteArray.empty,.int .i64 0,.slice none 0 0]),[(0,1,some false),(1,1,some false),(2,1,some false)]⟩),
 (300,⟨.struct,3,32,some (.agg #[.string ByteArray.empty,.int .i64 0,.int .i64 0]),[(0,1,some false),(1,1,some false),(2,1,some false)]⟩),
 (302,⟨.struct,3,32,some (.agg #[.string ByteArray.empty,.int .i64 0,.int .i64 0]),[(0,1,some false),(1,1,some false),(2,1,some false)]⟩),
 (334,⟨.struct,3,72,some (.agg #[.slice none 0 0,.slice none 0 0,.slice none 0 0]),[(0,1,some false),(1,1,some false),(2,1,some false)]⟩),
 (338,⟨.slice 340,1,24,some (.slice none 0 0),[]⟩),
 (340,⟨.arr 2 2,2,16,some (.agg #[.int .i64 0,.int .i64 0]),[]⟩),
 (345,⟨.struct,4,40,some (.agg #[.string ByteArray.empty,.int .i64 0,.int .i64 0,.bool false]),[(0,1,some false),(1,1,some false),(2,1,some false),(3,1,some false)]⟩),
 (356,⟨.slice 5,1,24,some (.slice none 0 0),[]⟩),
 (376,⟨.struct,4,40,some (.agg #[.string ByteArray.empty,.int .i64 0,.int .i64 0,.bool false]),[(0,1,some false),(1,1,some false),(2,1,some false),(3,1,some false)]⟩),
 (378,⟨.slice 413,1,24,some (.slice none 0 0),[]⟩),
 (380,⟨.struct,6,80,some (.agg #[.int .i64 0,.int .i64 0,.int .i64 0,.int .i64 0,.slice none 0 0,.slice none 0 0]),[(0,1,some false),(1,1,some false),(2,1,some false),(3,1,some false),(4,1,some false),(5,1,some false)]⟩),
 (385,⟨.int .u64,1,8,some (.int .u64 0),[]⟩),
 (398,⟨.slice 402,1,24,some (.slice none 0 0),[]⟩),
 (402,⟨.struct,2,16,some (.agg #[.int .i64 0,.int .i64 0]),[(0,1,some false),(1,1,some false)]⟩),
 (413,⟨.struct,3,72,some (.agg #[.slice none 0 0,.slice none 0 0,.slice none 0 0]),[(0,1,some false),(1,1,some false),(2,1,some false)]⟩)]
theorem qe:TabOk Tryz.prog tab:=TabOk.mk (by kernel_rfl)
theorem rp {n:Nat} {Q:Exit→Act→World→Prop} {k:List It} {e:Env} {w:World} {all:Array Oper} {l:List Oper} {op:Op} {d t:Nat} {ps:String} {af:Array Edge} {v:Value}
  (h:pev tab e op=some v) (hn:Nat.blt d n=true) (hk:Run Tryz.prog n Q (.ops all l::k) ((d,v)::e) w):Run Tryz.prog n Q (.ops all (⟨some d,op,t,ps,af,none⟩::l)::k) e w:=r_p qe h hn hk
theorem dp {n:Nat} {Q:Exit→Act→World→Prop} {k:List It} {e:Env} {w:World} {all:Array Oper} {l:List Oper} {op:Op} {d t:Nat} {ps:String} {af:Array Edge} {v:Value}
  (h:pev tab e op=some v) (hn:Nat.blt d n=true) (hk:RunD Tryz.prog n Q k all w l ((d,v)::e)):RunD Tryz.prog n Q k all w (⟨some d,op,t,ps,af,none⟩::l) e:=d_p qe h hn hk
section
variable {P:Program} {n:Nat} {Q:Exit→Act→World→Prop} {k:List It} {e:Env} {w:World}
theorem zSR {i4:Nat} {o5:List Oper} {x3:Code} (h:Run P n Q (.ops o5.toArray o5::.code x3::k) e w):Run P n Q (.code (.seq (.region i4 o5.toArray false) x3)::k) e w:=qeq <| qhc h
theorem zKSR {i5:Nat} {o6:List Oper} {x4:Code} (h:Run P n Q (.ops o6.toArray o6::.code x4::k) e w):Run P n Q (.code .skip::.code (.seq (.region i5 o6.toArray false) x4)::k) e w:=qg1 <| qeq <| qhc h
theorem zNSR {a1:Array Oper} {i5:Nat} {o6:List Oper} {x4:Code} (h:Run P n Q (.ops o6.toArray o6::.code x4::k) e w):Run P n Q (.ops a1 []::.code (.seq (.region i5 o6.toArray false) x4)::k) e w:=qd1 <| qeq <| qhc h
theorem zKS {x3:Code} {x4:Code} (h:Run P n Q (.code x3::.code x4::k) e w):Run P n Q (.code .skip::.code (.seq x3 x4)::k) e w:=qg1 <| qeq h
theorem zNS {a1:Array Oper} {x3:Code} {x4:Code} (h:Run P n Q (.code x3::.code x4::k) e w):Run P n Q (.ops a1 []::.code (.seq x3 x4)::k) e w:=qd1 <| qeq h
theorem zNSS {a1:Array Oper} {x5:Code} {x6:Code} {x4:Code} (h:Run P n Q (.code x5::.code x6::.code x4::k) e w):Run P n Q (.ops a1 []::.code (.seq (.seq x5 x6) x4)::k) e w:=qd1 <| qeq <| qeq h
theorem zKSB {i5:Nat} {x6:Code} {x4:Code} (h:Run P n Q (.code x6::.blk i5::.code x4::k) e w):Run P n Q (.code .skip::.code (.seq (.block i5 x6) x4)::k) e w:=qg1 <| qeq <| qm h
theorem zKSBSR {i5:Nat} {i9:Nat} {o10:List Oper} {x8:Code} {x4:Code} (h:Run P n Q (.ops o10.toArray o10::.code x8::.blk i5::.code x4::k) e w):Run P n Q (.code .skip::.code (.seq (.block i5 (.seq (.region i9 o10.toArray false) x8)) x4)::k) e w:=qg1 <| qeq <| qm <| qeq <| qhc h
theorem zSS {x4:Code} {x5:Code} {x3:Code} (h:Run P n Q (.code x4::.code x5::.code x3::k) e w):Run P n Q (.code (.seq (.seq x4 x5) x3)::k) e w:=qeq <| qeq h
theorem zKSS {x5:Code} {x6:Code} {x4:Code} (h:Run P n Q (.code x5::.code x6::.code x4::k) e w):Run P n Q (.code .skip::.code (.seq (.seq x5 x6) x4)::k) e w:=qg1 <| qeq <| qeq h
end
section
variable {w0 w:World} {L:List Ch} {n:Nat} {Q:Exit→Act→World→Prop} {k k':List It} {e e':Env} {all:Array Oper} {l l':List Oper} {z:List Nat}
theorem X0 (m:Nat) (hh:xs tab n m [] k e [] []=some (k',e',z,z)) (hk:Run Tryz.prog n Q k' e' w):Run Tryz.prog n Q k e w:=((qny (P:=Tryz.prog) (Q:=Q) (w:=w) qe m _ _ _ _ _ _ _ _ _ (fun _ h=>by cases h) rfl hh).2 rfl).2 hk
theorem Y0 (m:Nat) (hh:xd tab n all m [] l e [] []=some (l',e',z,z)) (hk:RunD Tryz.prog n Q k all w l' e'):RunD Tryz.prog n Q k all w l e:=((qpV (P:=Tryz.prog) (Q:=Q) (k:=k) (w:=w) (all:=all) qe m _ _ _ _ _ _ _ _ _ (fun _ h=>by cases h) rfl hh).2 rfl).2 hk
theorem X1 (m:Nat) (i0:Nat) {b0 t0:Nat} {cs0:List Value} (h:SH w0 w L) (hh:(L[i0]?,xs tab n m [(b0,cs0)] k e [] [])=(some (Ch.box b0 cs0 t0),some (k',e',z,z))) (hk:Run Tryz.prog n Q k' e' w):Run Tryz.prog n Q k e w:=by
 simp only [Prod.mk.injEq] at hh
 exact ((qny (P:=Tryz.prog) (Q:=Q) (w:=w) qe m _ _ _ _ _ _ _ _ _ (fun p hp=>by
  simp only [List.mem_cons,List.not_mem_nil,or_false] at hp
  rcases hp with rfl
  ·exact h.box i0 hh.1) rfl hh.2).2 rfl).2 hk
theorem Y1 (m:Nat) (i0:Nat) {b0 t0:Nat} {cs0:List Value} (h:SH w0 w L) (hh:(L[i0]?,xd tab n all m [(b0,cs0)] l e [] [])=(some (Ch.box b0 cs0 t0),some (l',e',z,z))) (hk:RunD Tryz.prog n Q k all w l' e'):RunD Tryz.prog n Q k all w l e:=by
 simp only [Prod.mk.injEq] at hh
 exact ((qpV (P:=Tryz.prog) (Q:=Q) (k:=k) (w:=w) (all:=all) qe m _ _ _ _ _ _ _ _ _ (fun p hp=>by
  simp only [List.mem_cons,List.not_mem_nil,or_false] at hp
  rcases hp with rfl
  ·exact h.box i0 hh.1) rfl hh.2).2 rfl).2 hk
theorem X2 (m:Nat) (i0 i1:Nat) {b0 t0:Nat} {cs0:List Value} {b1 t1:Nat} {cs1:List Value} (h:SH w0 w L) (hh:(L[i0]?,L[i1]?,xs tab n m [(b0,cs0),(b1,cs1)] k e [] [])=(some (Ch.box b0 cs0 t0),some (Ch.box b1 cs1 t1),some (k',e',z,z))) (hk:Run Tryz.prog n Q k' e' w):Run Tryz.prog n Q k e w:=by
 simp only [Prod.mk.injEq] at hh
 exact ((qny (P:=Tryz.prog) (Q:=Q) (w:=w) qe m _ _ _ _ _ _ _ _ _ (fun p hp=>by
  simp only [List.mem_cons,List.not_mem_nil,or_false] at hp
  rcases hp with rfl|rfl
  ·exact h.box i0 hh.1
  ·exact h.box i1 hh.2.1) rfl hh.2.2).2 rfl).2 hk
theorem X3 (m:Nat) (i0 i1 i2:Nat) {b0 t0:Nat} {cs0:List Value} {b1 t1:Nat} {cs1:List Value} {b2 t2:Nat} {cs2:List Value} (h:SH w0 w L) (hh:(L[i0]?,L[i1]?,L[i2]?,xs tab n m [(b0,cs0),(b1,cs1),(b2,cs2)] k e [] [])=(some (Ch.box b0 cs0 t0),some (Ch.box b1 cs1 t1),some (Ch.box b2 cs2 t2),some (k',e',z,z))) (hk:Run Tryz.prog n Q k' e' w):Run Tryz.prog n Q k e w:=by
 simp only [Prod.mk.injEq] at hh
 exact ((qny (P:=Tryz.prog) (Q:=Q) (w:=w) qe m _ _ _ _ _ _ _ _ _ (fun p hp=>by
  simp only [List.mem_cons,List.not_mem_nil,or_false] at hp
  rcases hp with rfl|rfl|rfl
  ·exact h.box i0 hh.1
  ·exact h.box i1 hh.2.1
  ·exact h.box i2 hh.2.2.1) rfl hh.2.2.2).2 rfl).2 hk
end
section
variable {w0 w:World} {L:List Ch} {n:Nat} {Q:Exit→Act→World→Prop} {k:List It} {e:Env} {all:Array Oper} {l:List Oper}
theorem zp1 {op0:Op} {d0 t0:Nat} {s0:String} {f0:Array Edge} {v0:Value} (h:(pev tab (e) op0,Nat.blt d0 n)=(some v0,true)) (hk:Run Tryz.prog n Q (.ops all l::k) ((d0,v0)::e) w):Run Tryz.prog n Q (.ops all (⟨some d0,op0,t0,s0,f0,none⟩::l)::k) e w:=by
 have H:=h
 simp only [Prod.mk.injEq] at H
 exact rp (H.1) (H.2) (hk)
theorem zd1 {op0:Op} {d0 t0:Nat} {s0:String} {f0:Array Edge} {v0:Value} (h:(pev tab (e) op0,Nat.blt d0 n)=(some v0,true)) (hk:RunD Tryz.prog n Q k all w l ((d0,v0)::e)):RunD Tryz.prog n Q k all w (⟨some d0,op0,t0,s0,f0,none⟩::l) e:=by
 have H:=h
 simp only [Prod.mk.injEq] at H
 exact dp (H.1) (H.2) (hk)
theorem zp2 {op0:Op} {d0 t0:Nat} {s0:String} {f0:Array Edge} {v0:Value} {op1:Op} {d1 t1:Nat} {s1:String} {f1:Array Edge} {v1:Value} (h:(pev tab (e) op0,Nat.blt d0 n,pev tab ((d0,v0)::e) op1,Nat.blt d1 n)=(some v0,true,some v1,true)) (hk:Run Tryz.prog n Q (.ops all l::k) ((d1,v1)::(d0,v0)::e) w):Run Tryz.prog n Q (.ops all (⟨some d0,op0,t0,s0,f0,none⟩::⟨some d1,op1,t1,s1,f1,none⟩::l)::k) e w:=by
 have H:=h
 simp only [Prod.mk.injEq] at H
 exact rp (H.1) (H.2.1) (rp (H.2.2.1) (H.2.2.2) (hk))
theorem zd2 {op0:Op} {d0 t0:Nat} {s0:String} {f0:Array Edge} {v0:Value} {op1:Op} {d1 t1:Nat} {s1:String} {f1:Array Edge} {v1:Value} (h:(pev tab (e) op0,Nat.blt d0 n,pev tab ((d0,v0)::e) op1,Nat.blt d1 n)=(some v0,true,some v1,true)) (hk:RunD Tryz.prog n Q k all w l ((d1,v1)::(d0,v0)::e)):RunD Tryz.prog n Q k all w (⟨some d0,op0,t0,s0,f0,none⟩::⟨some d1,op1,t1,s1,f1,none⟩::l) e:=by
 have H:=h
 simp only [Prod.mk.injEq] at H
 exact dp (H.1) (H.2.1) (dp (H.2.2.1) (H.2.2.2) (hk))
theorem zp3 {op0:Op} {d0 t0:Nat} {s0:String} {f0:Array Edge} {v0:Value} {op1:Op} {d1 t1:Nat} {s1:String} {f1:Array Edge} {v1:Value} {op2:Op} {d2 t2:Nat} {s2:String} {f2:Array Edge} {v2:Value} (h:(pev tab (e) op0,Nat.blt d0 n,pev tab ((d0,v0)::e) op1,Nat.blt d1 n,pev tab ((d1,v1)::(d0,v0)::e) op2,Nat.blt d2 n)=(some v0,true,some v1,true,some v2,true)) (hk:Run Tryz.prog n Q (.ops all l::k) ((d2,v2)::(d1,v1)::(d0,v0)::e) w):Run Tryz.prog n Q (.ops all (⟨some d0,op0,t0,s0,f0,none⟩::⟨some d1,op1,t1,s1,f1,none⟩::⟨some d2,op2,t2,s2,f2,none⟩::l)::k) e w:=by
 have H:=h
 simp only [Prod.mk.injEq] at H
 exact rp (H.1) (H.2.1) (rp (H.2.2.1) (H.2.2.2.1) (rp (H.2.2.2.2.1) (H.2.2.2.2.2) (hk)))
theorem zd3 {op0:Op} {d0 t0:Nat} {s0:String} {f0:Array Edge} {v0:Value} {op1:Op} {d1 t1:Nat} {s1:String} {f1:Array Edge} {v1:Value} {op2:Op} {d2 t2:Nat} {s2:String} {f2:Array Edge} {v2:Value} (h:(pev tab (e) op0,Nat.blt d0 n,pev tab ((d0,v0)::e) op1,Nat.blt d1 n,pev tab ((d1,v1)::(d0,v0)::e) op2,Nat.blt d2 n)=(some v0,true,some v1,true,some v2,true)) (hk:RunD Tryz.prog n Q k all w l ((d2,v2)::(d1,v1)::(d0,v0)::e)):RunD Tryz.prog n Q k all w (⟨some d0,op0,t0,s0,f0,none⟩::⟨some d1,op1,t1,s1,f1,none⟩::⟨some d2,op2,t2,s2,f2,none⟩::l) e:=by
 have H:=h
 simp only [Prod.mk.injEq] at H
 exact dp (H.1) (H.2.1) (dp (H.2.2.1) (H.2.2.2.1) (dp (H.2.2.2.2.1) (H.2.2.2.2.2) (hk)))
theorem zp5 {op0:Op} {d0 t0:Nat} {s0:String} {f0:Array Edge} {v0:Value} {op1:Op} {d1 t1:Nat} {s1:String} {f1:Array Edge} {v1:Value} {op2:Op} {d2 t2:Nat} {s2:String} {f2:Array Edge} {v2:Value} {op3:Op} {d3 t3:Nat} {s3:String} {f3:Array Edge} {v3:Value} {op4:Op} {d4 t4:Nat} {s4:String} {f4:Array Edge} {v4:Value} (h:(pev tab (e) op0,Nat.blt d0 n,pev tab ((d0,v0)::e) op1,Nat.blt d1 n,pev tab ((d1,v1)::(d0,v0)::e) op2,Nat.blt d2 n,pev tab ((d2,v2)::(d1,v1)::(d0,v0)::e) op3,Nat.blt d3 n,pev tab ((d3,v3)::(d2,v2)::(d1,v1)::(d0,v0)::e) op4,Nat.blt d4 n)=(some v0,true,some v1,true,some v2,true,some v3,true,some v4,true)) (hk:Run Tryz.prog n Q (.ops all l::k) ((d4,v4)::(d3,v3)::(d2,v2)::(d1,v1)::(d0,v0)::e) w):Run Tryz.prog n Q (.ops all (⟨some d0,op0,t0,s0,f0,none⟩::⟨some d1,op1,t1,s1,f1,none⟩::⟨some d2,op2,t2,s2,f2,none⟩::⟨some d3,op3,t3,s3,f3,none⟩::⟨some d4,op4,t4,s4,f4,none⟩::l)::k) e w:=by
 have H:=h
 simp only [Prod.mk.injEq] at H
 exact rp (H.1) (H.2.1) (rp (H.2.2.1) (H.2.2.2.1) (rp (H.2.2.2.2.1) (H.2.2.2.2.2.1) (rp (H.2.2.2.2.2.2.1) (H.2.2.2.2.2.2.2.1) (rp (H.2.2.2.2.2.2.2.2.1) (H.2.2.2.2.2.2.2.2.2) (hk)))))
theorem zc (j:Nat) {d t ty:Nat} {x:Operand} {te:TE} {ps:String} {af:Array Edge} {v:Value} {b o:Nat} {cs:List Value} (h:CellsAt w b o cs) (hh:(opv e x,tab.get t,ld te cs j,Nat.blt d n)=(some (.pointer (some ⟨b,o+j,none⟩)),some te,some v,true))
  (hk:Run Tryz.prog n Q (.ops all l::k) ((d,v)::e) w):Run Tryz.prog n Q (.ops all (⟨some d,.load t x,ty,ps,af,none⟩::l)::k) e w:=by
 simp only [Prod.mk.injEq] at hh
 exact r_v (qi5 qe h (j:=j) hh.1 hh.2.1 hh.2.2.1) hh.2.2.2 hk
theorem zdc (j:Nat) {d t ty:Nat} {x:Operand} {te:TE} {ps:String} {af:Array Edge} {v:Value} {b o:Nat} {cs:List Value} (h:CellsAt w b o cs) (hh:(opv e x,tab.get t,ld te cs j,Nat.blt d n)=(some (.pointer (some ⟨b,o+j,none⟩)),some te,some v,true))
  (hk:RunD Tryz.prog n Q k all w l ((d,v)::e)):RunD Tryz.prog n Q k all w (⟨some d,.load t x,ty,ps,af,none⟩::l) e:=by
 simp only [Prod.mk.injEq] at hh
 exact d_v (fun _ hb=>qi5 qe (h.below hb) (j:=j) hh.1 hh.2.1 hh.2.2.1) hh.2.2.2 hk
theorem zx {x i:Operand} {t ty d el m:Nat} {te te1:TE} {ps:String} {af:Array Edge} {p:Option Addr} {ln c:Nat} {kd:IntKind} {iv:Int} {b o q:Nat} (hp:p=some ⟨b,o,none⟩) (hq:q=o+iv.toNat*m) (hlt:0≤iv∧iv<ln) (hh:(opv e x,opv e i,tab.get t,te.kind,tab.get el,te1.size,Nat.blt d n)=(some (.slice p ln c),some (.int kd iv),some te,TK.slice el,some te1,m,true)) (hk:Run Tryz.prog n Q (.ops all l::k) ((d,.pointer (some ⟨b,q,none⟩))::e) w):Run Tryz.prog n Q (.ops all (⟨some d,.indexAddr t x i,ty,ps,af,none⟩::l)::k) e w:=by
 simp only [Prod.mk.injEq] at hh
 exact r_v (qo7 qe hp hq hlt hh.1 hh.2.1 hh.2.2.1 hh.2.2.2.1 hh.2.2.2.2.1 hh.2.2.2.2.2.1) hh.2.2.2.2.2.2 hk
theorem zxe {x i:Operand} {t ty d el m:Nat} {te te1:TE} {ps:String} {af:Array Edge} {p:Option Addr} {ln c:Nat} {kd:IntKind} {iv:Int} {b o q:Nat} {α:Prop} (hp:p=some ⟨b,o,none⟩) (hq:q=o+iv.toNat*m) (hlt:0≤iv∧iv<ln∧α) (hh:(opv e x,opv e i,tab.get t,te.kind,tab.get el,te1.size,Nat.blt d n)=(some (.slice p ln c),some (.int kd iv),some te,TK.slice el,some te1,m,true)) (hk:Run Tryz.prog n Q (.ops all l::k) ((d,.pointer (some ⟨b,q,none⟩))::e) w):Run Tryz.prog n Q (.ops all (⟨some d,.indexAddr t x i,ty,ps,af,none⟩::l)::k) e w:=zx hp hq ⟨hlt.1,hlt.2.1⟩ hh hk
theorem zdx {x i:Operand} {t ty d el m:Nat} {te te1:TE} {ps:String} {af:Array Edge} {p:Option Addr} {ln c:Nat} {kd:IntKind} {iv:Int} {b o q:Nat} (hp:p=some ⟨b,o,none⟩) (hq:q=o+iv.toNat*m) (hlt:0≤iv∧iv<ln) (hh:(opv e x,opv e i,tab.get t,te.kind,tab.get el,te1.size,Nat.blt d n)=(some (.slice p ln c),some (.int kd iv),some te,TK.slice el,some te1,m,true)) (hk:RunD Tryz.prog n Q k all w l ((d,.pointer (some ⟨b,q,none⟩))::e)):RunD Tryz.prog n Q k all w (⟨some d,.indexAddr t x i,ty,ps,af,none⟩::l) e:=by
 simp only [Prod.mk.injEq] at hh
 exact d_v (fun _ _=>qo7 qe hp hq hlt hh.1 hh.2.1 hh.2.2.1 hh.2.2.2.1 hh.2.2.2.2.1 hh.2.2.2.2.2.1) hh.2.2.2.2.2.2 hk
theorem zdxe {x i:Operand} {t ty d el m:Nat} {te te1:TE} {ps:String} {af:Array Edge} {p:Option Addr} {ln c:Nat} {kd:IntKind} {iv:Int} {b o q:Nat} {α:Prop} (hp:p=some ⟨b,o,none⟩) (hq:q=o+iv.toNat*m) (hlt:0≤iv∧iv<ln∧α) (hh:(opv e x,opv e i,tab.get t,te.kind,tab.get el,te1.size,Nat.blt d n)=(some (.slice p ln c),some (.int kd iv),some te,TK.slice el,some te1,m,true)) (hk:RunD Tryz.prog n Q k all w l ((d,.pointer (some ⟨b,q,none⟩))::e)):RunD Tryz.prog n Q k all w (⟨some d,.indexAddr t x i,ty,ps,af,none⟩::l) e:=zdx hp hq ⟨hlt.1,hlt.2.1⟩ hh hk
theorem zs (i:Nat) {t ty:Nat} {ps:String} {af:Array Edge} {x v:Operand} {te:TE} {b j:Nat} {cs us cs':List Value} {t':TypeId} {u:Value} {L':List Ch} (h:SH w0 w L)
  (hh:(L[i]?,opv e x,opv e v,cellsL u,tab.get t,Nat.beq us.length te.size,Nat.ble (j+us.length) cs.length,ones us,splN cs j us,setN L i (Ch.box b cs' t'))=(some (Ch.box b cs t'),some (.pointer (some ⟨b,j,none⟩)),some u,us,some te,true,true,true,some cs',some L'))
  (hk:∀ w',SH w0 w' L'→Run Tryz.prog n Q (.ops all l::k) e w'):Run Tryz.prog n Q (.ops all (⟨none,.store t x v,ty,ps,af,none⟩::l)::k) e w:=by
 simp only [Prod.mk.injEq] at hh
 obtain ⟨h1,h2,h3,h4,h5,h6,h7,h8,h9,h10⟩:=hh
 subst h4
 have e1:=qlM h9
 have e2:=qnz h10
 subst e1 e2
 exact qpt qe i h h1 h2 h3 h5 h6 h7 h8 hk
end
section
variable {P:Program} {fnc:Func} {R:Ending→World→Prop} {n:Nat} {k:List It} {e:Env} {w0 w:World} {ops:Array Oper} {st:List Nat} {fuel:Nat}
theorem M0 (K:Nat) (is:List Nat) {C:World→Prop} {m K0 f f':Nat} {e':Env} {z:List Nat} (hC:C w) (hh:xa tab n ops is [] f e [] []=some (f',e',z,z))
  (hk:RunA Tryz.prog n (bodyPost Tryz.prog fnc R) k ops st C f' (bits m K) e' w) (ho:oka ops st is (bits m K0) (bits m K)=true:=by kernel_rfl):RunA Tryz.prog n (bodyPost Tryz.prog fnc R) k ops st C f (bits m K0) e w:=by
 exact ((qo4 (C:=C) (w:=w) (P:=Tryz.prog) qe hC is _ _ _ _ _ _ _ _ _ _ _ (fun _ h=>by cases h) rfl hh ho).2 rfl).2 hk
theorem G0 (K:Nat) (is:List Nat) {C:World→Prop} {m K0 f f':Nat} {e':Env} {z:List Nat} {all:Array Oper} (hC:C w) (hh:xa tab n ops is [] f e [] []=some (f',e',z,z))
  (hk:RunA Tryz.prog n (bodyPost Tryz.prog fnc R) k ops st C f' (bits m K) e' w) (ho:oka ops st is (bits m K0) (bits m K)=true:=by kernel_rfl):Run Tryz.prog n (bodyPost Tryz.prog fnc R) (.ops all []::.goal (NextA Tryz.prog n (bodyPost Tryz.prog fnc R) k ops st C f (bits m K0))::k) e w :=
 Ag hC (M0 K is (C:=C) hC hh hk ho)
theorem M1 (K:Nat) (is:List Nat) (i0:Nat) {b0 t0:Nat} {cs0:List Value} {LA:List Ch} {m K0 f f':Nat} {e':Env} {z:List Nat} (hC:SH w0 w LA) (hh:(LA[i0]?,xa tab n ops is [(b0,cs0)] f e [] [])=(some (Ch.box b0 cs0 t0),some (f',e',z,z)))
  (hk:RunA Tryz.prog n (bodyPost Tryz.prog fnc R) k ops st (fun w'=>SH w0 w' LA) f' (bits m K) e' w) (ho:oka ops st is (bits m K0) (bits m K)=true:=by kernel_rfl):RunA Tryz.prog n (bodyPost Tryz.prog fnc R) k ops st (fun w'=>SH w0 w' LA) f (bits m K0) e w:=by
 simp only [Prod.mk.injEq] at hh
 exact ((qo4 (C:=(fun w'=>SH w0 w' LA)) (w:=w) (P:=Tryz.prog) qe hC is _ _ _ _ _ _ _ _ _ _ _ (fun p hp w1 hw=>by
  simp only [List.mem_cons,List.not_mem_nil,or_false] at hp
  rcases hp with rfl
  ·exact SH.box hw i0 hh.1) rfl hh.2 ho).2 rfl).2 hk
theorem M2 (K:Nat) (is:List Nat) (i0 i1:Nat) {b0 t0:Nat} {cs0:List Value} {b1 t1:Nat} {cs1:List Value} {LA:List Ch} {m K0 f f':Nat} {e':Env} {z:List Nat} (hC:SH w0 w LA) (hh:(LA[i0]?,LA[i1]?,xa tab n ops is [(b0,cs0),(b1,cs1)] f e [] [])=(some (Ch.box b0 cs0 t0),some (Ch.box b1 cs1 t1),some (f',e',z,z)))
  (hk:RunA Tryz.prog n (bodyPost Tryz.prog fnc R) k ops st (fun w'=>SH w0 w' LA) f' (bits m K) e' w) (ho:oka ops st is (bits m K0) (bits m K)=true:=by kernel_rfl):RunA Tryz.prog n (bodyPost Tryz.prog fnc R) k ops st (fun w'=>SH w0 w' LA) f (bits m K0) e w:=by
 simp only [Prod.mk.injEq] at hh
 exact ((qo4 (C:=(fun w'=>SH w0 w' LA)) (w:=w) (P:=Tryz.prog) qe hC is _ _ _ _ _ _ _ _ _ _ _ (fun p hp w1 hw=>by
  simp only [List.mem_cons,List.not_mem_nil,or_false] at hp
  rcases hp with rfl|rfl
  ·exact SH.box hw i0 hh.1
  ·exact SH.box hw i1 hh.2.1) rfl hh.2.2 ho).2 rfl).2 hk
theorem Aw (i K:Nat) {C:World→Prop} {m K0 d:Nat} {op:Op} {t:Nat} {ps:String} {af:Array Edge} {v:Value} (hv:∀ w',C w'→Val Tryz.prog n e ⟨some d,op,t,ps,af,none⟩ w' v) (hC:C w) (hh:(ops[i]?,Nat.blt d n)=(some (⟨some d,op,t,ps,af,none⟩:Oper),true))
  (hk:RunA Tryz.prog n (bodyPost Tryz.prog fnc R) k ops st C fuel (bits m K) ((d,v)::e) w) (hl:(bits m K0).setIfInBounds i true=bits m K:=by kernel_rfl)
  (hb:(Region.noSelect ops&&Region.free .any ops (bits m K0) i&&(Region.ready .any ops (bits m K0)).contains i&&st.all (fun s=>!(Nat.beq s i)&&waitsB ops i s&&!((bits m K0).getD s true)))=true:=by kernel_rfl) :
  RunA Tryz.prog n (bodyPost Tryz.prog fnc R) k ops st C (fuel+1) (bits m K0) e w:=by
 simp only [Prod.mk.injEq] at hh
 exact qkG i hh.1 _ hl hb hv hC hh.2 hk
theorem Al (i K j:Nat) {LA:List Ch} {m K0 d t ty b o:Nat} {x:Operand} {te:TE} {ps:String} {af:Array Edge} {v:Value} {cs:List Value} (hc:CellsAt w0 b o cs) (hC:SH w0 w LA)
  (hh:(ops[i]?,opv e x,tab.get t,ld te cs j,Nat.blt d n)=(some (⟨some d,.load t x,ty,ps,af,none⟩:Oper),some (.pointer (some ⟨b,o+j,none⟩)),some te,some v,true))
  (hk:RunA Tryz.prog n (bodyPost Tryz.prog fnc R) k ops st (fun w'=>SH w0 w' LA) fuel (bits m K) ((d,v)::e) w) (hl:(bits m K0).setIfInBounds i true=bits m K:=by kernel_rfl)
  (hb:(Region.noSelect ops&&Region.free .any ops (bits m K0) i&&(Region.ready .any ops (bits m K0)).contains i&&st.all (fun s=>!(Nat.beq s i)&&waitsB ops i s&&!((bits m K0).getD s true)))=true:=by kernel_rfl) :
  RunA Tryz.prog n (bodyPost Tryz.prog fnc R) k ops st (fun w'=>SH w0 w' LA) (fuel+1) (bits m K0) e w:=by
 simp only [Prod.mk.injEq] at hh
 exact qkG i hh.1 _ hl hb (fun w' hw=>qi5 qe (hc.below hw.below) (j:=j) hh.2.1 hh.2.2.1 hh.2.2.2.1) hC hh.2.2.2.2 hk
theorem Ax (i K:Nat) {C:World→Prop} {m K0 d t ty el q:Nat} {x ix:Operand} {te te1:TE} {ps:String} {af:Array Edge} {p:Option Addr} {ln c sz:Nat} {kd:IntKind} {iv:Int} {b o:Nat} (hp:p=some ⟨b,o,none⟩) (hq:q=o+iv.toNat*sz) (hlt:0≤iv∧iv<ln) (hC:C w)
  (hh:(ops[i]?,opv e x,opv e ix,tab.get t,te.kind,tab.get el,te1.size,Nat.blt d n)=(some (⟨some d,.indexAddr t x ix,ty,ps,af,none⟩:Oper),some (.slice p ln c),some (.int kd iv),some te,TK.slice el,some te1,sz,true))
  (hk:RunA Tryz.prog n (bodyPost Tryz.prog fnc R) k ops st C fuel (bits m K) ((d,.pointer (some ⟨b,q,none⟩))::e) w) (hl:(bits m K0).setIfInBounds i true=bits m K:=by kernel_rfl)
  (hb:(Region.noSelect ops&&Region.free .any ops (bits m K0) i&&(Region.ready .any ops (bits m K0)).contains i&&st.all (fun s=>!(Nat.beq s i)&&waitsB ops i s&&!((bits m K0).getD s true)))=true:=by kernel_rfl) :
  RunA Tryz.prog n (bodyPost Tryz.prog fnc R) k ops st C (fuel+1) (bits m K0) e w:=by
 simp only [Prod.mk.injEq] at hh
 exact qkG i hh.1 _ hl hb (fun w' _=>qo7 qe hp hq hlt hh.2.1 hh.2.2.1 hh.2.2.2.1 hh.2.2.2.2.1 hh.2.2.2.2.2.1 hh.2.2.2.2.2.2.1) hC hh.2.2.2.2.2.2.2 hk
theorem Ae (i K:Nat) {C:World→Prop} {m K0 d t ty el q:Nat} {x ix:Operand} {te te1:TE} {ps:String} {af:Array Edge} {p:Option Addr} {ln c sz:Nat} {kd:IntKind} {iv:Int} {b o:Nat} {α:Prop} (hp:p=some ⟨b,o,none⟩) (hq:q=o+iv.toNat*sz) (hlt:0≤iv∧iv<ln∧α) (hC:C w)
  (hh:(ops[i]?,opv e x,opv e ix,tab.get t,te.kind,tab.get el,te1.size,Nat.blt d n)=(some (⟨some d,.indexAddr t x ix,ty,ps,af,none⟩:Oper),some (.slice p ln c),some (.int kd iv),some te,TK.slice el,some te1,sz,true))
  (hk:RunA Tryz.prog n (bodyPost Tryz.prog fnc R) k ops st C fuel (bits m K) ((d,.pointer (some ⟨b,q,none⟩))::e) w) (hl:(bits m K0).setIfInBounds i true=bits m K:=by kernel_rfl)
  (hb:(Region.noSelect ops&&Region.free .any ops (bits m K0) i&&(Region.ready .any ops (bits m K0)).contains i&&st.all (fun s=>!(Nat.beq s i)&&waitsB ops i s&&!((bits m K0).getD s true)))=true:=by kernel_rfl) :
  RunA Tryz.prog n (bodyPost Tryz.prog fnc R) k ops st C (fuel+1) (bits m K0) e w:=Ax i K hp hq ⟨hlt.1,hlt.2.1⟩ hC hh hk hl hb
theorem rb {fn:Func} {L:List Ch} {x r:Bool} (h:SH w0 w L) (hF:some x=some r) (hr:res1 e fn.results.toList=some (.bool x)) :
  Run Tryz.prog n (bodyPost Tryz.prog fn fun e w'=>∃ v,e=.returned v∧Below w0.heap.size w0 w'∧∃ us,v=tup us∧GoVs.Vs w' (fresh w0 w') r us) (.code .ret::k) e w:=qqw qe h hF (qnx hr)
theorem ri {fn:Func} {L:List Ch} {x r:Int} (h:SH w0 w L) (hF:some x=some r) (hr:res1 e fn.results.toList=some (.int .i64 x)) :
  Run Tryz.prog n (bodyPost Tryz.prog fn fun e w'=>∃ v,e=.returned v∧Below w0.heap.size w0 w'∧∃ us,v=tup us∧GoVs.Vs w' (fresh w0 w') r us) (.code .ret::k) e w:=qqv qe h hF (qnx hr)
theorem rO {fn:Func} {L:List Ch} {α:Type} [GoT α] {r:α} {S:Nat→Prop} {cs:List Value} (i:Nat) (h:SH w0 w L) (hi:L[i]?=some (Ch.own S r cs)) (hr:ResOk tab e w fn.results.toList [GoT.v α cs]) :
  Run Tryz.prog n (bodyPost Tryz.prog fn fun e w'=>∃ v,e=.returned v∧Below w0.heap.size w0 w'∧∃ us,v=tup us∧GoVs.Vs w' (fresh w0 w') r us) (.code .ret::k) e w:=qbh qe _ h hr (PV.done h (qbV (qaC i h hi)))
theorem zV {ρ:Type} [GoVs ρ] {f:FuncId} {fn:Func} {c:Code} {vs:List Value} {r:ρ} (m:Nat) (hf:Tryz.prog.funcs[f]?=some fn) (hh:(fn.body,fn.ntmps,Nat.ble vs.length m)=(some c,m,true))
  (h:SH w w []→Run Tryz.prog m (bodyPost Tryz.prog fn fun e w'=>∃ v,e=.returned v∧Below w.heap.size w w'∧∃ us,v=tup us∧GoVs.Vs w' (fresh w w') r us) [.code c] (argEnv 0 vs) w):RetV Tryz.prog f vs w r:=by
 simp only [Prod.mk.injEq] at hh
 exact ql7 hf hh.1 hh.2.1 hh.2.2 h
end
section
variable {w0 w:World} {L:List Ch} {n:Nat} {Q:Exit→Act→World→Prop} {k:List It} {e:Env} {all:Array Oper} {l:List Oper} {d ty:Nat} {ps:String} {af:Array Edge} {x:Operand} {args:Array Operand} {ats:Array TypeId} {f:FuncId} {fi ca:Array Value} {av vs:List Value} {β:Type} {rr:β}
theorem zcI {F:Option Int} {g:Int→Option β} (h:SH w0 w L) (hF:F.bind g=some rr) (hc:∀ {r},F=some r→RetV Tryz.prog f vs w r)
  (hh:(opv e x,opvs e args.toList,fi.toList++av++ca.toList,Nat.blt d n)=(some (.func (.func f) fi ca),some av,vs,true))
  (hk:∀ r w' ,SH w0 w' (L)→g r=some rr→Run Tryz.prog n Q (.ops all l::k) ((d,.int .i64 r)::e) w') (hcall:qd0 Tryz.prog f:=by exact cA rfl):Run Tryz.prog n Q (.ops all (⟨some d,.call ⟨.value x,args,ats⟩,ty,ps,af,none⟩::l)::k) e w:=by
 obtain ⟨r,hr,hF⟩:=qf hF
 simp only [Prod.mk.injEq] at hh
 exact qpe r h hcall (hc hr) hh.1 hh.2.1 hh.2.2.1 hh.2.2.2 (fun w'  h'=>hk r w'  h' hF)
theorem zcB {F:Option Bool} {g:Bool→Option β} (h:SH w0 w L) (hF:F.bind g=some rr) (hc:∀ {r},F=some r→RetV Tryz.prog f vs w r)
  (hh:(opv e x,opvs e args.toList,fi.toList++av++ca.toList,Nat.blt d n)=(some (.func (.func f) fi ca),some av,vs,true))
  (hk:∀ r w' ,SH w0 w' (L)→g r=some rr→Run Tryz.prog n Q (.ops all l::k) ((d,.bool r)::e) w') (hcall:qd0 Tryz.prog f:=by exact cA rfl):Run Tryz.prog n Q (.ops all (⟨some d,.call ⟨.value x,args,ats⟩,ty,ps,af,none⟩::l)::k) e w:=by
 obtain ⟨r,hr,hF⟩:=qf hF
 simp only [Prod.mk.injEq] at hh
 exact qpz r h hcall (hc hr) hh.1 hh.2.1 hh.2.2.1 hh.2.2.2 (fun w'  h'=>hk r w'  h' hF)
theorem zcS {F:Option ByteArray} {g:ByteArray→Option β} (h:SH w0 w L) (hF:F.bind g=some rr) (hc:∀ {r},F=some r→RetV Tryz.prog f vs w r)
  (hh:(opv e x,opvs e args.toList,fi.toList++av++ca.toList,Nat.blt d n)=(some (.func (.func f) fi ca),some av,vs,true))
  (hk:∀ r w' ,SH w0 w' (L)→g r=some rr→Run Tryz.prog n Q (.ops all l::k) ((d,.string r)::e) w') (hcall:qd0 Tryz.prog f:=by exact cA rfl):Run Tryz.prog n Q (.ops all (⟨some d,.call ⟨.value x,args,ats⟩,ty,ps,af,none⟩::l)::k) e w:=by
 obtain ⟨r,hr,hF⟩:=qf hF
 simp only [Prod.mk.injEq] at hh
 exact qpK r h hcall (hc hr) hh.1 hh.2.1 hh.2.2.1 hh.2.2.2 (fun w'  h'=>hk r w'  h' hF)
theorem zcL {α:Type} [GoT α] {F:Option (List α)} {g:(List α)→Option β} (h:SH w0 w L) (hF:F.bind g=some rr) (hc:∀ {r},F=some r→RetV Tryz.prog f vs w r)
  (hh:(opv e x,opvs e args.toList,fi.toList++av++ca.toList,Nat.blt d n)=(some (.func (.func f) fi ca),some av,vs,true))
  (hk:∀ r w' S p c,SH w0 w' (Ch.own S r [.slice p r.length c]::L)→g r=some rr→Run Tryz.prog n Q (.ops all l::k) ((d,.slice p r.length c)::e) w') (hcall:qd0 Tryz.prog f:=by exact cA rfl):Run Tryz.prog n Q (.ops all (⟨some d,.call ⟨.value x,args,ats⟩,ty,ps,af,none⟩::l)::k) e w:=by
 obtain ⟨r,hr,hF⟩:=qf hF
 simp only [Prod.mk.injEq] at hh
 exact qpk r h hcall (hc hr) hh.1 hh.2.1 hh.2.2.1 hh.2.2.2 (fun w' S p c h'=>hk r w' S p c h' hF)
theorem zcO {α:Type} [GoT α] {F:Option α} {g:α→Option β} (h:SH w0 w L) (hF:F.bind g=some rr) (hc:∀ {r},F=some r→RetV Tryz.prog f vs w r)
  (hh:(opv e x,opvs e args.toList,fi.toList++av++ca.toList,Nat.blt d n)=(some (.func (.func f) fi ca),some av,vs,true))
  (hk:∀ r w' S cs,SH w0 w' (Ch.own S r cs::L)→g r=some rr→Run Tryz.prog n Q (.ops all l::k) ((d,GoT.v α cs)::e) w') (hcall:qd0 Tryz.prog f:=by exact cA rfl):Run Tryz.prog n Q (.ops all (⟨some d,.call ⟨.value x,args,ats⟩,ty,ps,af,none⟩::l)::k) e w:=by
 obtain ⟨r,hr,hF⟩:=qf hF
 simp only [Prod.mk.injEq] at hh
 exact qpL r h hcall (hc hr) hh.1 hh.2.1 hh.2.2.1 hh.2.2.2 (fun w' S cs h'=>hk r w' S cs h' hF)
end
def noC:List Nat:=[0,1,312,342]
theorem allC:((List.range 355).all fun f=>noC.contains f || callB Tryz.prog f)=true:=by kernel_rfl
theorem cA {f:Nat} (h:(Nat.blt f 355&&!noC.contains f)=true):qd0 Tryz.prog f:=by
 rw [jf,Nat.blt_eq,jw] at h
 have:=List.all_eq_true.1 allC f (List.mem_range.2 h.1)
 rw [h.2] at this
 exact qoD this
theorem cB (f:Nat) (h:(Nat.blt f 355&&!noC.contains f)=true):qd0 Tryz.prog f:=cA h
def qaZ (_:Nat) (a:(List Int)) (left:Int):Option Int :=
 bif decide ((W64 (left-(a.length:Int)))<0) then some (-1) else
 some (W64 (left-(a.length:Int)))
theorem qaO {a:(List Int)} {left:Int} (ha1:GoT.R w (old w) a cs1) {r:Int} (hF:qaZ n a left=some r):RetV Tryz.prog 207 [GoT.v (List Int) cs1,.int .i64 left] w r:=by
 obtain ⟨p1,k1,rfl,s1⟩:=ha1
 refine zV 12 Tryz.func207 rfl fun h=>X0 18 rfl (qh rfl hF ?_ ?_)<;>intro hF
 ·exact X0 4 rfl (ri h hF rfl)
 exact X0 6 rfl (ri h hF rfl)
def qgv (_:Nat) (a:qF) (left:Int):Option Int :=
 bif decide ((W64 (left-(a.Am.size:Int)))<0) then some (-1) else
 some (W64 (left-(a.Am.size:Int)))
theorem qk8 {a:qF} {left:Int} (ha1:GoT.R w (old w) a cs1) {r:Int} (hF:qgv n a left=some r):RetV Tryz.prog 293 [GoT.v qF cs1,.int .i64 left] w r:=by
 obtain rfl:=qai ha1
 refine zV 13 Tryz.func293 rfl fun h=>zSR (qy h rfl rfl fun w1 bb1 h=>X1 17 0 h rfl (qh rfl hF ?_ ?_))<;>intro hF
 ·exact X0 4 rfl (ri h hF rfl)
 exact X0 6 rfl (ri h hF rfl)
def qdd (a:(List qF)):Nat→Int→Int→Option (Flow Int (Int × Int))
 | 0,_,_=>none
 | n+1,i1,i2 =>
  bif decide (i2<(a.length:Int)) then
   (idx a i2).bind fun y1 =>
   (qgv n y1 i1).bind fun r1 =>
   bif decide (r1<0) then some (.ret (-1)) else
   qdd a n r1 (W64 (i2+1))
  else
   some (.nxt (i1,i2))
def qhO (n:Nat) (a:(List qF)) (left:Int):Option Int :=
 bif decide ((W64 (left-(a.length:Int)))<0) then some (-1) else
 (qdd a n (W64 (left-(a.length:Int))) 0).bind fun o=>match o with
 | .ret r=>some r
 | .nxt (i1,_) =>
  some i1
theorem qku {a:(List qF)} {left:Int} (ha1:GoT.R w (old w) a cs1) {r:Int} (hF:qhO n a left=some r):RetV Tryz.prog 256 [GoT.v (List qF) cs1,.int .i64 left] w r:=by
 obtain ⟨p1,k1,rfl,s1⟩:=ha1
 refine zV 27 Tryz.func256 rfl fun h=>X0 18 rfl (qh rfl hF ?_ ?_)<;>intro hF
 ·exact X0 4 rfl (ri h hF rfl)
 refine X0 6 rfl ?_
 obtain ⟨o1,hF,hK1⟩:=qf hF
 refine qm (rL (fun m e w'=>∃ (i1:Int) (i2:Int),qdd a m i1 i2=some o1∧e=[(0,.slice p1 a.length k1),(1,.int .i64 i1),(5,.int .i64 i2)]∧SH w w' []) n ⟨_,_,hF,rfl,h⟩ rfl ?_)
 rintro m1 e1 w1 ⟨i1,i2,hF,rfl,h⟩
 rcases m1 with _|m1
 ·cases hF
 refine X0 8 rfl (qh rfl hF ?_ ?_)<;>intro hF
 ·refine X0 7 rfl ?_
  obtain ⟨y1,hy1,hF,he1,b1,_,q1,cs2,hp1,hq1,hr1,hc3⟩:=s1.ix hF
  obtain rfl:=qai hr1
  refine zxe hp1 hq1 he1 rfl (zc 0 (hc3.below h.below) rfl (zp1 rfl (zcI h hF (qk8 (qb1 y1)) rfl fun r1 w2 h hF=>X0 7 rfl (qh rfl hF ?_ ?_))))<;>intro hF
  ·refine X0 4 rfl ?_
   obtain rfl:=qa hF;replace hF:=hK1
   exact ri h hF rfl
  exact X0 7 rfl (rK ⟨_,_,hF,rfl,h⟩ rfl)
 refine qq rfl ?_
 obtain rfl:=qa hF;replace hF:=hK1
 exact X0 5 rfl (ri h hF rfl)
def qe3 (n:Nat) (a:ql) (left:Int):Option Int :=
 (qaZ n a.Ay left).bind fun r1 =>
 bif decide (r1<0) then some (-1) else
 (qaZ n a.Av r1).bind fun r2 =>
 bif decide (r2<0) then some (-1) else
 (qaZ n a.Ap r2).bind fun r3 =>
 bif decide (r3<0) then some (-1) else
 some r3
theorem qj8 {a:ql} {left:Int} (ha1:GoT.R w (old w) a cs1) {r:Int} (hF:qe3 n a left=some r):RetV Tryz.prog 331 [GoT.v ql cs1,.int .i64 left] w r:=by
 obtain ⟨p1,k1,p2,k2,p3,k3,rfl,s1,s2,s3⟩:=qau ha1
 refine zV 24 Tryz.func331 rfl fun h=>zSR (qy h rfl rfl fun w1 bb1 h=>X1 7 0 h rfl (zcI h hF (qaO ⟨_,_,rfl,(h.oldS s1)⟩) rfl fun r1 w2 h hF=>X0 8 rfl (qh rfl hF ?_ ?_)))<;>intro hF
 ·exact X0 4 rfl (ri h hF rfl)
 refine X1 6 0 h rfl (zcI h hF (qaO ⟨_,_,rfl,(h.oldS s2)⟩) rfl fun r2 w3 h hF=>X0 8 rfl (qh rfl hF ?_ ?_))<;>intro hF
 ·exact X0 4 rfl (ri h hF rfl)
 refine X1 6 0 h rfl (zcI h hF (qaO ⟨_,_,rfl,(h.oldS s3)⟩) rfl fun r3 w4 h hF=>X0 8 rfl (qh rfl hF ?_ ?_))<;>intro hF
 ·exact X0 4 rfl (ri h hF rfl)
 exact X0 6 rfl (ri h hF rfl)
def qcn (a:(List ql)):Nat→Int→Int→Option (Flow Int (Int × Int))
 | 0,_,_=>none
 | n+1,i1,i2 =>
  bif decide (i2<(a.length:Int)) then
   (idx a i2).bind fun y1 =>
   (qe3 n y1 i1).bind fun r1 =>
   bif decide (r1<0) then some (.ret (-1)) else
   qcn a n r1 (W64 (i2+1))
  else
   some (.nxt (i1,i2))
def qfq (n:Nat) (a:(List ql)) (left:Int):Option Int :=
 bif decide ((W64 (left-(a.length:Int)))<0) then some (-1) else
 (qcn a n (W64 (left-(a.length:Int))) 0).bind fun o=>match o with
 | .ret r=>some r
 | .nxt (i1,_) =>
  some i1
theorem qhd {a:(List ql)} {left:Int} (ha1:GoT.R w (old w) a cs1) {r:Int} (hF:qfq n a left=some r):RetV Tryz.prog 316 [GoT.v (List ql) cs1,.int .i64 left] w r:=by
 obtain ⟨p1,k1,rfl,s1⟩:=ha1
 refine zV 27 Tryz.func316 rfl fun h=>X0 18 rfl (qh rfl hF ?_ ?_)<;>intro hF
 ·exact X0 4 rfl (ri h hF rfl)
 refine X0 6 rfl ?_
 obtain ⟨o1,hF,hK1⟩:=qf hF
 refine qm (rL (fun m e w'=>∃ (i1:Int) (i2:Int),qcn a m i1 i2=some o1∧e=[(0,.slice p1 a.length k1),(1,.int .i64 i1),(5,.int .i64 i2)]∧SH w w' []) n ⟨_,_,hF,rfl,h⟩ rfl ?_)
 rintro m1 e1 w1 ⟨i1,i2,hF,rfl,h⟩
 rcases m1 with _|m1
 ·cases hF
 refine X0 8 rfl (qh rfl hF ?_ ?_)<;>intro hF
 ·refine X0 7 rfl ?_
  obtain ⟨y1,hy1,hF,he1,b1,_,q1,cs2,hp1,hq1,hr1,hc3⟩:=s1.ix hF
  obtain ⟨p2,k2,p3,k3,p4,k4,rfl,s2,s3,s4⟩:=qau hr1
  refine zxe hp1 hq1 he1 rfl (zc 0 (hc3.below h.below) rfl (zp1 rfl (zcI h hF (qj8 (qfd y1 (h.oldS s2) (h.oldS s3) (h.oldS s4))) rfl fun r1 w2 h hF=>X0 7 rfl (qh rfl hF ?_ ?_))))<;>intro hF
  ·refine X0 4 rfl ?_
   obtain rfl:=qa hF;replace hF:=hK1
   exact ri h hF rfl
  exact X0 7 rfl (rK ⟨_,_,hF,rfl,h⟩ rfl)
 refine qq rfl ?_
 obtain rfl:=qa hF;replace hF:=hK1
 exact X0 5 rfl (ri h hF rfl)
def qgJ (n:Nat) (a:qz) (left:Int):Option Int :=
 (qfq n a.At left).bind fun r1 =>
 bif decide (r1<0) then some (-1) else
 (qfq n a.Bb r1).bind fun r2 =>
 bif decide (r2<0) then some (-1) else
 some r2
theorem qla {a:qz} {left:Int} (ha1:GoT.R w (old w) a cs1) {r:Int} (hF:qgJ n a left=some r):RetV Tryz.prog 294 [GoT.v qz cs1,.int .i64 left] w r:=by
 obtain ⟨p1,k1,p2,k2,rfl,s1,s2⟩:=qaa ha1
 refine zV 18 Tryz.func294 rfl fun h=>zSR (qy h rfl rfl fun w1 bb1 h=>X1 7 0 h rfl (zcI h hF (qhd ⟨_,_,rfl,(h.oldS s1)⟩) rfl fun r1 w2 h hF=>X0 8 rfl (qh rfl hF ?_ ?_)))<;>intro hF
 ·exact X0 4 rfl (ri h hF rfl)
 refine X1 6 0 h rfl (zcI h hF (qhd ⟨_,_,rfl,(h.oldS s2)⟩) rfl fun r2 w3 h hF=>X0 8 rfl (qh rfl hF ?_ ?_))<;>intro hF
 ·exact X0 4 rfl (ri h hF rfl)
 exact X0 6 rfl (ri h hF rfl)
def qdl (a:(List qz)):Nat→Int→Int→Option (Flow Int (Int × Int))
 | 0,_,_=>none
 | n+1,i1,i2 =>
  bif decide (i2<(a.length:Int)) then
   (idx a i2).bind fun y1 =>
   (qgJ n y1 i1).bind fun r1 =>
   bif decide (r1<0) then some (.ret (-1)) else
   qdl a n r1 (W64 (i2+1))
  else
   some (.nxt (i1,i2))
def qhQ (n:Nat) (a:(List qz)) (left:Int):Option Int :=
 bif decide ((W64 (left-(a.length:Int)))<0) then some (-1) else
 (qdl a n (W64 (left-(a.length:Int))) 0).bind fun o=>match o with
 | .ret r=>some r
 | .nxt (i1,_) =>
  some i1
theorem qkM {a:(List qz)} {left:Int} (ha1:GoT.R w (old w) a cs1) {r:Int} (hF:qhQ n a left=some r):RetV Tryz.prog 257 [GoT.v (List qz) cs1,.int .i64 left] w r:=by
 obtain ⟨p1,k1,rfl,s1⟩:=ha1
 refine zV 27 Tryz.func257 rfl fun h=>X0 18 rfl (qh rfl hF ?_ ?_)<;>intro hF
 ·exact X0 4 rfl (ri h hF rfl)
 refine X0 6 rfl ?_
 obtain ⟨o1,hF,hK1⟩:=qf hF
 refine qm (rL (fun m e w'=>∃ (i1:Int) (i2:Int),qdl a m i1 i2=some o1∧e=[(0,.slice p1 a.length k1),(1,.int .i64 i1),(5,.int .i64 i2)]∧SH w w' []) n ⟨_,_,hF,rfl,h⟩ rfl ?_)
 rintro m1 e1 w1 ⟨i1,i2,hF,rfl,h⟩
 rcases m1 with _|m1
 ·cases hF
 refine X0 8 rfl (qh rfl hF ?_ ?_)<;>intro hF
 ·refine X0 7 rfl ?_
  obtain ⟨y1,hy1,hF,he1,b1,_,q1,cs2,hp1,hq1,hr1,hc3⟩:=s1.ix hF
  obtain ⟨p2,k2,p3,k3,rfl,s2,s3⟩:=qaa hr1
  refine zxe hp1 hq1 he1 rfl (zc 0 (hc3.below h.below) rfl (zp1 rfl (zcI h hF (qla (qeW y1 (h.oldS s2) (h.oldS s3))) rfl fun r1 w2 h hF=>X0 7 rfl (qh rfl hF ?_ ?_))))<;>intro hF
  ·refine X0 4 rfl ?_
   obtain rfl:=qa hF;replace hF:=hK1
   exact ri h hF rfl
  exact X0 7 rfl (rK ⟨_,_,hF,rfl,h⟩ rfl)
 refine qq rfl ?_
 obtain rfl:=qa hF;replace hF:=hK1
 exact X0 5 rfl (ri h hF rfl)
def qfS (n:Nat) (a:qk) (left:Int):Option Int :=
 bif decide ((W64 (left-(a.Am.size:Int)))<0) then some (-1) else
 (qhO n a.Ai (W64 (left-(a.Am.size:Int)))).bind fun r1 =>
 bif decide (r1<0) then some (-1) else
 (qhQ n a.Ak r1).bind fun r2 =>
 bif decide (r2<0) then some (-1) else
 (qaZ n a.Au r2).bind fun r3 =>
 bif decide (r3<0) then some (-1) else
 some r3
theorem qkF {a:qk} {left:Int} (ha1:GoT.R w (old w) a cs1) {r:Int} (hF:qfS n a left=some r):RetV Tryz.prog 204 [GoT.v qk cs1,.int .i64 left] w r:=by
 obtain ⟨p1,k1,p2,k2,p3,k3,rfl,s1,s2,s3⟩:=qI ha1
 refine zV 31 Tryz.func204 rfl fun h=>zSR (qy h rfl rfl fun w1 bb1 h=>X1 17 0 h rfl (qh rfl hF ?_ ?_))<;>intro hF
 ·exact X0 4 rfl (ri h hF rfl)
 refine X1 6 0 h rfl (zcI h hF (qku ⟨_,_,rfl,(h.oldS s1)⟩) rfl fun r1 w2 h hF=>X0 8 rfl (qh rfl hF ?_ ?_))<;>intro hF
 ·exact X0 4 rfl (ri h hF rfl)
 refine X1 6 0 h rfl (zcI h hF (qkM ⟨_,_,rfl,(h.oldS s2)⟩) rfl fun r2 w3 h hF=>X0 8 rfl (qh rfl hF ?_ ?_))<;>intro hF
 ·exact X0 4 rfl (ri h hF rfl)
 refine X1 6 0 h rfl (zcI h hF (qaO ⟨_,_,rfl,(h.oldS s3)⟩) rfl fun r3 w4 h hF=>X0 8 rfl (qh rfl hF ?_ ?_))<;>intro hF
 ·exact X0 4 rfl (ri h hF rfl)
 exact X0 6 rfl (ri h hF rfl)
def qcG (a:(List qk)):Nat→Int→Int→Option (Flow Int (Int × Int))
 | 0,_,_=>none
 | n+1,i1,i2 =>
  bif decide (i2<(a.length:Int)) then
   (idx a i2).bind fun y1 =>
   (qfS n y1 i1).bind fun r1 =>
   bif decide (r1<0) then some (.ret (-1)) else
   qcG a n r1 (W64 (i2+1))
  else
   some (.nxt (i1,i2))
def qht (n:Nat) (a:(List qk)) (left:Int):Option Int :=
 bif decide ((W64 (left-(a.length:Int)))<0) then some (-1) else
 (qcG a n (W64 (left-(a.length:Int))) 0).bind fun o=>match o with
 | .ret r=>some r
 | .nxt (i1,_) =>
  some i1
theorem qj7 {a:(List qk)} {left:Int} (ha1:GoT.R w (old w) a cs1) {r:Int} (hF:qht n a left=some r):RetV Tryz.prog 126 [GoT.v (List qk) cs1,.int .i64 left] w r:=by
 obtain ⟨p1,k1,rfl,s1⟩:=ha1
 refine zV 27 Tryz.func126 rfl fun h=>X0 18 rfl (qh rfl hF ?_ ?_)<;>intro hF
 ·exact X0 4 rfl (ri h hF rfl)
 refine X0 6 rfl ?_
 obtain ⟨o1,hF,hK1⟩:=qf hF
 refine qm (rL (fun m e w'=>∃ (i1:Int) (i2:Int),qcG a m i1 i2=some o1∧e=[(0,.slice p1 a.length k1),(1,.int .i64 i1),(5,.int .i64 i2)]∧SH w w' []) n ⟨_,_,hF,rfl,h⟩ rfl ?_)
 rintro m1 e1 w1 ⟨i1,i2,hF,rfl,h⟩
 rcases m1 with _|m1
 ·cases hF
 refine X0 8 rfl (qh rfl hF ?_ ?_)<;>intro hF
 ·refine X0 7 rfl ?_
  obtain ⟨y1,hy1,hF,he1,b1,_,q1,cs2,hp1,hq1,hr1,hc3⟩:=s1.ix hF
  obtain ⟨p2,k2,p3,k3,p4,k4,rfl,s2,s3,s4⟩:=qI hr1
  refine zxe hp1 hq1 he1 rfl (zc 0 (hc3.below h.below) rfl (zp1 rfl (zcI h hF (qkF (qgl y1 (h.oldS s2) (h.oldS s3) (h.oldS s4))) rfl fun r1 w2 h hF=>X0 7 rfl (qh rfl hF ?_ ?_))))<;>intro hF
  ·refine X0 4 rfl ?_
   obtain rfl:=qa hF;replace hF:=hK1
   exact ri h hF rfl
  exact X0 7 rfl (rK ⟨_,_,hF,rfl,h⟩ rfl)
 refine qq rfl ?_
 obtain rfl:=qa hF;replace hF:=hK1
 exact X0 5 rfl (ri h hF rfl)
def qe4 (n:Nat) (a:qn) (left:Int):Option Int :=
 (qht n a.Aj left).bind fun r1 =>
 bif decide (r1<0) then some (-1) else
 some r1
theorem qjb {a:qn} {left:Int} (ha1:GoT.R w (old w) a cs1) {r:Int} (hF:qe4 n a left=some r):RetV Tryz.prog 48 [GoT.v qn cs1,.int .i64 left] w r:=by
 obtain ⟨p1,k1,rfl,s1⟩:=qa0 ha1
 refine zV 12 Tryz.func48 rfl fun h=>zSR (qy h rfl rfl fun w1 bb1 h=>X1 7 0 h rfl (zcI h hF (qj7 ⟨_,_,rfl,(h.oldS s1)⟩) rfl fun r1 w2 h hF=>X0 8 rfl (qh rfl hF ?_ ?_)))<;>intro hF
 ·exact X0 4 rfl (ri h hF rfl)
 exact X0 6 rfl (ri h hF rfl)
def qdE (n:Nat) (a:qc) (left:Int):Option Int :=
 bif decide ((W64 (left-(a.Am.size:Int)))<0) then some (-1) else
 (qaZ n a.Ac (W64 (left-(a.Am.size:Int)))).bind fun r1 =>
 bif decide (r1<0) then some (-1) else
 some r1
theorem qiB {a:qc} {left:Int} (ha1:GoT.R w (old w) a cs1) {r:Int} (hF:qdE n a left=some r):RetV Tryz.prog 205 [GoT.v qc cs1,.int .i64 left] w r:=by
 obtain ⟨p1,k1,rfl,s1⟩:=qJ ha1
 refine zV 19 Tryz.func205 rfl fun h=>zSR (qy h rfl rfl fun w1 bb1 h=>X1 17 0 h rfl (qh rfl hF ?_ ?_))<;>intro hF
 ·exact X0 4 rfl (ri h hF rfl)
 refine X1 6 0 h rfl (zcI h hF (qaO ⟨_,_,rfl,(h.oldS s1)⟩) rfl fun r1 w2 h hF=>X0 8 rfl (qh rfl hF ?_ ?_))<;>intro hF
 ·exact X0 4 rfl (ri h hF rfl)
 exact X0 6 rfl (ri h hF rfl)
def qbq (a:(List qc)):Nat→Int→Int→Option (Flow Int (Int × Int))
 | 0,_,_=>none
 | n+1,i1,i2 =>
  bif decide (i2<(a.length:Int)) then
   (idx a i2).bind fun y1 =>
   (qdE n y1 i1).bind fun r1 =>
   bif decide (r1<0) then some (.ret (-1)) else
   qbq a n r1 (W64 (i2+1))
  else
   some (.nxt (i1,i2))
def qff (n:Nat) (a:(List qc)) (left:Int):Option Int :=
 bif decide ((W64 (left-(a.length:Int)))<0) then some (-1) else
 (qbq a n (W64 (left-(a.length:Int))) 0).bind fun o=>match o with
 | .ret r=>some r
 | .nxt (i1,_) =>
  some i1
theorem qij {a:(List qc)} {left:Int} (ha1:GoT.R w (old w) a cs1) {r:Int} (hF:qff n a left=some r):RetV Tryz.prog 127 [GoT.v (List qc) cs1,.int .i64 left] w r:=by
 obtain ⟨p1,k1,rfl,s1⟩:=ha1
 refine zV 27 Tryz.func127 rfl fun h=>X0 18 rfl (qh rfl hF ?_ ?_)<;>intro hF
 ·exact X0 4 rfl (ri h hF rfl)
 refine X0 6 rfl ?_
 obtain ⟨o1,hF,hK1⟩:=qf hF
 refine qm (rL (fun m e w'=>∃ (i1:Int) (i2:Int),qbq a m i1 i2=some o1∧e=[(0,.slice p1 a.length k1),(1,.int .i64 i1),(5,.int .i64 i2)]∧SH w w' []) n ⟨_,_,hF,rfl,h⟩ rfl ?_)
 rintro m1 e1 w1 ⟨i1,i2,hF,rfl,h⟩
 rcases m1 with _|m1
 ·cases hF
 refine X0 8 rfl (qh rfl hF ?_ ?_)<;>intro hF
 ·refine X0 7 rfl ?_
  obtain ⟨y1,hy1,hF,he1,b1,_,q1,cs2,hp1,hq1,hr1,hc3⟩:=s1.ix hF
  obtain ⟨p2,k2,rfl,s2⟩:=qJ hr1
  refine zxe hp1 hq1 he1 rfl (zc 0 (hc3.below h.below) rfl (zp1 rfl (zcI h hF (qiB (qev y1 (h.oldS s2))) rfl fun r1 w2 h hF=>X0 7 rfl (qh rfl hF ?_ ?_))))<;>intro hF
  ·refine X0 4 rfl ?_
   obtain rfl:=qa hF;replace hF:=hK1
   exact ri h hF rfl
  exact X0 7 rfl (rK ⟨_,_,hF,rfl,h⟩ rfl)
 refine qq rfl ?_
 obtain rfl:=qa hF;replace hF:=hK1
 exact X0 5 rfl (ri h hF rfl)
def qbS (a:(List ByteArray)):Nat→Int→Int→Option (Flow Int (Int × Int))
 | 0,_,_=>none
 | n+1,i1,i2 =>
  bif decide (i2<(a.length:Int)) then
   (idx a i2).bind fun y1 =>
   bif decide ((W64 (i1-(y1.size:Int)))<0) then some (.ret (-1)) else
   qbS a n (W64 (i1-(y1.size:Int))) (W64 (i2+1))
  else
   some (.nxt (i1,i2))
def qgI (n:Nat) (a:(List ByteArray)) (left:Int):Option Int :=
 bif decide ((W64 (left-(a.length:Int)))<0) then some (-1) else
 (qbS a n (W64 (left-(a.length:Int))) 0).bind fun o=>match o with
 | .ret r=>some r
 | .nxt (i1,_) =>
  some i1
theorem qiU {a:(List ByteArray)} {left:Int} (ha1:GoT.R w (old w) a cs1) {r:Int} (hF:qgI n a left=some r):RetV Tryz.prog 128 [GoT.v (List ByteArray) cs1,.int .i64 left] w r:=by
 obtain ⟨p1,k1,rfl,s1⟩:=ha1
 refine zV 28 Tryz.func128 rfl fun h=>X0 18 rfl (qh rfl hF ?_ ?_)<;>intro hF
 ·exact X0 4 rfl (ri h hF rfl)
 refine X0 6 rfl ?_
 obtain ⟨o1,hF,hK1⟩:=qf hF
 refine qm (rL (fun m e w'=>∃ (i1:Int) (i2:Int),qbS a m i1 i2=some o1∧e=[(0,.slice p1 a.length k1),(1,.int .i64 i1),(5,.int .i64 i2)]∧SH w w' []) n ⟨_,_,hF,rfl,h⟩ rfl ?_)
 rintro m1 e1 w1 ⟨i1,i2,hF,rfl,h⟩
 rcases m1 with _|m1
 ·cases hF
 refine X0 8 rfl (qh rfl hF ?_ ?_)<;>intro hF
 ·refine X0 8 rfl ?_
  obtain ⟨y1,hy1,hF,he1,b1,_,q1,cs2,hp1,hq1,rfl,hc3⟩:=s1.ix hF
  refine zxe hp1 hq1 he1 rfl (zc 0 (hc3.below h.below) rfl (X0 9 rfl (qh rfl hF ?_ ?_)))<;>intro hF
  ·refine X0 4 rfl ?_
   obtain rfl:=qa hF;replace hF:=hK1
   exact ri h hF rfl
  exact X0 7 rfl (rK ⟨_,_,hF,rfl,h⟩ rfl)
 refine qq rfl ?_
 obtain rfl:=qa hF;replace hF:=hK1
 exact X0 5 rfl (ri h hF rfl)
def qfP (_:Nat) (a:qu) (left:Int):Option Int :=
 bif decide ((W64 (left-(a.Am.size:Int)))<0) then some (-1) else
 some (W64 (left-(a.Am.size:Int)))
theorem qkU {a:qu} {left:Int} (ha1:GoT.R w (old w) a cs1) {r:Int} (hF:qfP n a left=some r):RetV Tryz.prog 206 [GoT.v qu cs1,.int .i64 left] w r:=by
 obtain rfl:=qX ha1
 refine zV 13 Tryz.func206 rfl fun h=>zSR (qy h rfl rfl fun w1 bb1 h=>X1 17 0 h rfl (qh rfl hF ?_ ?_))<;>intro hF
 ·exact X0 4 rfl (ri h hF rfl)
 exact X0 6 rfl (ri h hF rfl)
def qcH (a:(List qu)):Nat→Int→Int→Option (Flow Int (Int × Int))
 | 0,_,_=>none
 | n+1,i1,i2 =>
  bif decide (i2<(a.length:Int)) then
   (idx a i2).bind fun y1 =>
   (qfP n y1 i1).bind fun r1 =>
   bif decide (r1<0) then some (.ret (-1)) else
   qcH a n r1 (W64 (i2+1))
  else
   some (.nxt (i1,i2))
def qhu (n:Nat) (a:(List qu)) (left:Int):Option Int :=
 bif decide ((W64 (left-(a.length:Int)))<0) then some (-1) else
 (qcH a n (W64 (left-(a.length:Int))) 0).bind fun o=>match o with
 | .ret r=>some r
 | .nxt (i1,_) =>
  some i1
theorem qkb {a:(List qu)} {left:Int} (ha1:GoT.R w (old w) a cs1) {r:Int} (hF:qhu n a left=some r):RetV Tryz.prog 129 [GoT.v (List qu) cs1,.int .i64 left] w r:=by
 obtain ⟨p1,k1,rfl,s1⟩:=ha1
 refine zV 27 Tryz.func129 rfl fun h=>X0 18 rfl (qh rfl hF ?_ ?_)<;>intro hF
 ·exact X0 4 rfl (ri h hF rfl)
 refine X0 6 rfl ?_
 obtain ⟨o1,hF,hK1⟩:=qf hF
 refine qm (rL (fun m e w'=>∃ (i1:Int) (i2:Int),qcH a m i1 i2=some o1∧e=[(0,.slice p1 a.length k1),(1,.int .i64 i1),(5,.int .i64 i2)]∧SH w w' []) n ⟨_,_,hF,rfl,h⟩ rfl ?_)
 rintro m1 e1 w1 ⟨i1,i2,hF,rfl,h⟩
 rcases m1 with _|m1
 ·cases hF
 refine X0 8 rfl (qh rfl hF ?_ ?_)<;>intro hF
 ·refine X0 7 rfl ?_
  obtain ⟨y1,hy1,hF,he1,b1,_,q1,cs2,hp1,hq1,hr1,hc3⟩:=s1.ix hF
  obtain rfl:=qX hr1
  refine zxe hp1 hq1 he1 rfl (zc 0 (hc3.below h.below) rfl (zp1 rfl (zcI h hF (qkU (qcf y1)) rfl fun r1 w2 h hF=>X0 7 rfl (qh rfl hF ?_ ?_))))<;>intro hF
  ·refine X0 4 rfl ?_
   obtain rfl:=qa hF;replace hF:=hK1
   exact ri h hF rfl
  exact X0 7 rfl (rK ⟨_,_,hF,rfl,h⟩ rfl)
 refine qq rfl ?_
 obtain rfl:=qa hF;replace hF:=hK1
 exact X0 5 rfl (ri h hF rfl)
def qfv (n:Nat) (a:qd) (left:Int):Option Int :=
 (qff n a.Aa left).bind fun r1 =>
 bif decide (r1<0) then some (-1) else
 (qgI n a.Ac r1).bind fun r2 =>
 bif decide (r2<0) then some (-1) else
 (qhu n a.Af r2).bind fun r3 =>
 bif decide (r3<0) then some (-1) else
 some r3
theorem qjh {a:qd} {left:Int} (ha1:GoT.R w (old w) a cs1) {r:Int} (hF:qfv n a left=some r):RetV Tryz.prog 49 [GoT.v qd cs1,.int .i64 left] w r:=by
 obtain ⟨p1,k1,p2,k2,p3,k3,rfl,s1,s2,s3⟩:=qag ha1
 refine zV 24 Tryz.func49 rfl fun h=>zSR (qy h rfl rfl fun w1 bb1 h=>X1 7 0 h rfl (zcI h hF (qij ⟨_,_,rfl,(h.oldS s1)⟩) rfl fun r1 w2 h hF=>X0 8 rfl (qh rfl hF ?_ ?_)))<;>intro hF
 ·exact X0 4 rfl (ri h hF rfl)
 refine X1 6 0 h rfl (zcI h hF (qiU ⟨_,_,rfl,(h.oldS s2)⟩) rfl fun r2 w3 h hF=>X0 8 rfl (qh rfl hF ?_ ?_))<;>intro hF
 ·exact X0 4 rfl (ri h hF rfl)
 refine X1 6 0 h rfl (zcI h hF (qkb ⟨_,_,rfl,(h.oldS s3)⟩) rfl fun r3 w4 h hF=>X0 8 rfl (qh rfl hF ?_ ?_))<;>intro hF
 ·exact X0 4 rfl (ri h hF rfl)
 exact X0 6 rfl (ri h hF rfl)
def qfI (n:Nat) (a:qr) (left:Int):Option Int :=
 (qaZ n a.Ah left).bind fun r1 =>
 bif decide (r1<0) then some (-1) else
 (qaZ n a.Bi r1).bind fun r2 =>
 bif decide (r2<0) then some (-1) else
 (qaZ n a.Bg r2).bind fun r3 =>
 bif decide (r3<0) then some (-1) else
 (qaZ n a.Be r3).bind fun r4 =>
 bif decide (r4<0) then some (-1) else
 some r4
theorem qkX {a:qr} {left:Int} (ha1:GoT.R w (old w) a cs1) {r:Int} (hF:qfI n a left=some r):RetV Tryz.prog 130 [GoT.v qr cs1,.int .i64 left] w r:=by
 obtain ⟨p1,k1,p2,k2,p3,k3,p4,k4,rfl,s1,s2,s3,s4⟩:=qaS ha1
 refine zV 30 Tryz.func130 rfl fun h=>zSR (qy h rfl rfl fun w1 bb1 h=>X1 7 0 h rfl (zcI h hF (qaO ⟨_,_,rfl,(h.oldS s1)⟩) rfl fun r1 w2 h hF=>X0 8 rfl (qh rfl hF ?_ ?_)))<;>intro hF
 ·exact X0 4 rfl (ri h hF rfl)
 refine X1 6 0 h rfl (zcI h hF (qaO ⟨_,_,rfl,(h.oldS s2)⟩) rfl fun r2 w3 h hF=>X0 8 rfl (qh rfl hF ?_ ?_))<;>intro hF
 ·exact X0 4 rfl (ri h hF rfl)
 refine X1 6 0 h rfl (zcI h hF (qaO ⟨_,_,rfl,(h.oldS s3)⟩) rfl fun r3 w4 h hF=>X0 8 rfl (qh rfl hF ?_ ?_))<;>intro hF
 ·exact X0 4 rfl (ri h hF rfl)
 refine X1 6 0 h rfl (zcI h hF (qaO ⟨_,_,rfl,(h.oldS s4)⟩) rfl fun r4 w5 h hF=>X0 8 rfl (qh rfl hF ?_ ?_))<;>intro hF
 ·exact X0 4 rfl (ri h hF rfl)
 exact X0 6 rfl (ri h hF rfl)
def qcJ (a:(List qr)):Nat→Int→Int→Option (Flow Int (Int × Int))
 | 0,_,_=>none
 | n+1,i1,i2 =>
  bif decide (i2<(a.length:Int)) then
   (idx a i2).bind fun y1 =>
   (qfI n y1 i1).bind fun r1 =>
   bif decide (r1<0) then some (.ret (-1)) else
   qcJ a n r1 (W64 (i2+1))
  else
   some (.nxt (i1,i2))
def qhi (n:Nat) (a:(List qr)) (left:Int):Option Int :=
 bif decide ((W64 (left-(a.length:Int)))<0) then some (-1) else
 (qcJ a n (W64 (left-(a.length:Int))) 0).bind fun o=>match o with
 | .ret r=>some r
 | .nxt (i1,_) =>
  some i1
theorem qjT {a:(List qr)} {left:Int} (ha1:GoT.R w (old w) a cs1) {r:Int} (hF:qhi n a left=some r):RetV Tryz.prog 50 [GoT.v (List qr) cs1,.int .i64 left] w r:=by
 obtain ⟨p1,k1,rfl,s1⟩:=ha1
 refine zV 27 Tryz.func50 rfl fun h=>X0 18 rfl (qh rfl hF ?_ ?_)<;>intro hF
 ·exact X0 4 rfl (ri h hF rfl)
 refine X0 6 rfl ?_
 obtain ⟨o1,hF,hK1⟩:=qf hF
 refine qm (rL (fun m e w'=>∃ (i1:Int) (i2:Int),qcJ a m i1 i2=some o1∧e=[(0,.slice p1 a.length k1),(1,.int .i64 i1),(5,.int .i64 i2)]∧SH w w' []) n ⟨_,_,hF,rfl,h⟩ rfl ?_)
 rintro m1 e1 w1 ⟨i1,i2,hF,rfl,h⟩
 rcases m1 with _|m1
 ·cases hF
 refine X0 8 rfl (qh rfl hF ?_ ?_)<;>intro hF
 ·refine X0 7 rfl ?_
  obtain ⟨y1,hy1,hF,he1,b1,_,q1,cs2,hp1,hq1,hr1,hc3⟩:=s1.ix hF
  obtain ⟨p2,k2,p3,k3,p4,k4,p5,k5,rfl,s2,s3,s4,s5⟩:=qaS hr1
  refine zxe hp1 hq1 he1 rfl (zc 0 (hc3.below h.below) rfl (zp1 rfl (zcI h hF (qkX (qgn y1 (h.oldS s2) (h.oldS s3) (h.oldS s4) (h.oldS s5))) rfl fun r1 w2 h hF=>X0 7 rfl (qh rfl hF ?_ ?_))))<;>intro hF
  ·refine X0 4 rfl ?_
   obtain rfl:=qa hF;replace hF:=hK1
   exact ri h hF rfl
  exact X0 7 rfl (rK ⟨_,_,hF,rfl,h⟩ rfl)
 refine qq rfl ?_
 obtain rfl:=qa hF;replace hF:=hK1
 exact X0 5 rfl (ri h hF rfl)
def qf4 (n:Nat) (a:qp) (left:Int):Option Int :=
 (qe4 n (⟨a.As.Aj⟩:qn) left).bind fun r1 =>
 bif decide (r1<0) then some (-1) else
 (qfv n (⟨a.Ab.Aa,a.Ab.Ac,a.Ab.Af⟩:qd) r1).bind fun r2 =>
 bif decide (r2<0) then some (-1) else
 (qhi n a.Aq r2).bind fun r3 =>
 bif decide (r3<0) then some (-1) else
 some r3
theorem qjW {a:qp} {left:Int} (ha1:GoT.R w (old w) a cs1) {r:Int} (hF:qf4 n a left=some r):RetV Tryz.prog 9 [GoT.v qp cs1,.int .i64 left] w r:=by
 obtain ⟨p1,k1,p2,k2,p3,k3,p4,k4,p5,k5,rfl,s1,s2,s3,s4,s5⟩:=qay ha1
 refine zV 24 Tryz.func9 rfl fun h=>zSR (qy h rfl rfl fun w1 bb1 h=>X1 7 0 h rfl (zcI h hF (qjb (qdC _ (h.oldS s1))) rfl fun r1 w2 h hF=>X0 8 rfl (qh rfl hF ?_ ?_)))<;>intro hF
 ·exact X0 4 rfl (ri h hF rfl)
 refine X1 6 0 h rfl (zcI h hF (qjh (qbs _ (h.oldS s2) (h.oldS s3) (h.oldS s4))) rfl fun r2 w3 h hF=>X0 8 rfl (qh rfl hF ?_ ?_))<;>intro hF
 ·exact X0 4 rfl (ri h hF rfl)
 refine X1 6 0 h rfl (zcI h hF (qjT ⟨_,_,rfl,(h.oldS s5)⟩) rfl fun r3 w4 h hF=>X0 8 rfl (qh rfl hF ?_ ?_))<;>intro hF
 ·exact X0 4 rfl (ri h hF rfl)
 exact X0 6 rfl (ri h hF rfl)
def qda (a:(List Int)):Nat→(List Int)→Int→Option ((List Int) × Int)
 | 0,_,_=>none
 | n+1,x2,i1 =>
  bif decide (i1<(a.length:Int)) then
   (idx a i1).bind fun y1 =>
   (idx x2 i1).bind fun _ =>
   qda a n (setS x2 i1 y1) (W64 (i1+1))
  else
   some (x2,i1)
def qab (n:Nat) (a:(List Int)):Option (List Int) :=
 (mkS (a.length:Int) (0:Int)).bind fun x1 =>
 (qda a n x1 0).bind fun o=>match o with
 | (x2,_) =>
  some x2
theorem qU {a:(List Int)} (ha1:GoT.R w (old w) a cs1) {r:(List Int)} (hF:qab n a=some r):RetV Tryz.prog 14 [GoT.v (List Int) cs1] w r:=by
 obtain ⟨p1,k1,rfl,s1⟩:=ha1
 refine zV 22 Tryz.func14 rfl fun h=>X0 8 rfl ?_
 obtain ⟨x1,hx1,hF⟩:=qf hF
 obtain ⟨g1,g2,hx1⟩:=qb4 hx1
 refine qc6 qe Int h rfl rfl rfl rfl rfl rfl rfl rfl rfl g1 g2 hx1 rfl fun w1 S1 p2 h=>X0 7 rfl ?_
 obtain ⟨o1,hF,hK1⟩:=qf hF
 refine qm (rL (fun m e w'=>∃ (x2:(List Int)) (i1:Int),qda a m x2 i1=some o1∧e=[(0,.slice p1 a.length k1),(3,.slice p2 x1.length x1.length),(4,.int .i64 i1)]∧SH w w' [Ch.own S1 (x2:List Int) [.slice p2 x1.length x1.length]]) n ⟨_,_,hF,rfl,h⟩ rfl ?_)
 rintro m1 e1 w2 ⟨x2,i1,hF,rfl,h⟩
 rcases m1 with _|m1
 ·cases hF
 refine X0 8 rfl (qh rfl hF ?_ ?_)<;>intro hF
 ·refine X0 8 rfl ?_
  obtain ⟨y1,hy1,hF,he1,b1,_,q1,cs2,hp1,hq1,rfl,hc2⟩:=s1.ix hF
  refine zxe hp1 hq1 he1 rfl (zc 0 (hc2.below h.below) rfl ?_)
  obtain ⟨y2,hy2,hF,he2,b2,_,q2,cs3,hp2,hq2,rfl,hc3⟩:=(h.sl 0 rfl).1.ix hF
  exact zx hp2 hq2 ⟨he2.1,qK he2.2.1 (h.sl 0 rfl).2⟩ rfl (qaN qe 0 0 y1 h rfl hy2 hp2 hq2 rfl hc3 rfl rfl rfl rfl rfl rfl rfl fun w3 h=>X0 7 rfl (rK ⟨_,_,hF,rfl,h⟩ rfl))
 refine qq rfl ?_
 obtain rfl:=qa hF;replace hF:=hK1
 refine X0 5 rfl ?_
 obtain rfl:=qa hF
 exact rO 0 h rfl ⟨rfl,trivial⟩
def qgF (_:Nat) (a:qF):Option qF :=
 some (⟨a.Am,a.Bh,a.Bg,a.Ba⟩:qF)
theorem qk4 {a:qF} (ha1:GoT.R w (old w) a cs1) {r:qF} (hF:qgF n a=some r):RetV Tryz.prog 298 [GoT.v qF cs1] w r:=by
 obtain rfl:=qai ha1
 refine zV 17 Tryz.func298 rfl fun h=>zSR (qy h rfl rfl fun w1 bb1 h=>qM qe h rfl rfl rfl fun w2 bb2 h=>zNSR (qM qe h rfl rfl rfl fun w3 bb3 h=>X1 6 2 h rfl (zs 0 h rfl fun w4 h=>X1 6 2 h rfl (zs 0 h rfl fun w5 h=>X1 6 2 h rfl (zs 0 h rfl fun w6 h=>X1 6 2 h rfl (zs 0 h rfl fun w7 h=>X1 4 0 h rfl (zs 1 h rfl fun w8 h=>qd1 ?_)))))))
 obtain rfl:=qa hF
 exact qbh qe (ρ:=qF) [GoT.v qF (qjf a)] h ⟨⟨_,_,_,rfl,rfl,h.box 1 rfl,rfl⟩,trivial⟩ (PV.done h (qbV (qO (S:=fun _=>False) (qb1 (⟨a.Am,a.Bh,a.Bg,a.Ba⟩:qF)))))
def qd2 (a:(List qF)):Nat→(List qF)→Int→Option ((List qF) × Int)
 | 0,_,_=>none
 | n+1,x2,i1 =>
  bif decide (i1<(a.length:Int)) then
   (idx a i1).bind fun y1 =>
   (qgF n y1).bind fun r1 =>
   (idx x2 i1).bind fun _ =>
   qd2 a n (setS x2 i1 r1) (W64 (i1+1))
  else
   some (x2,i1)
def qgV (n:Nat) (a:(List qF)):Option (List qF) :=
 (mkS (a.length:Int) ((⟨ByteArray.empty,0,0,false⟩:qF):qF)).bind fun x1 =>
 (qd2 a n x1 0).bind fun o=>match o with
 | (x2,_) =>
  some x2
theorem qkn {a:(List qF)} (ha1:GoT.R w (old w) a cs1) {r:(List qF)} (hF:qgV n a=some r):RetV Tryz.prog 259 [GoT.v (List qF) cs1] w r:=by
 obtain ⟨p1,k1,rfl,s1⟩:=ha1
 refine zV 23 Tryz.func259 rfl fun h=>X0 8 rfl ?_
 obtain ⟨x1,hx1,hF⟩:=qf hF
 obtain ⟨g1,g2,hx1⟩:=qb4 hx1
 refine qc6 qe qF h rfl rfl rfl rfl rfl rfl rfl rfl rfl g1 g2 hx1 rfl fun w1 S1 p2 h=>X0 7 rfl ?_
 obtain ⟨o1,hF,hK1⟩:=qf hF
 refine qm (rL (fun m e w'=>∃ (x2:(List qF)) (i1:Int),qd2 a m x2 i1=some o1∧e=[(0,.slice p1 a.length k1),(3,.slice p2 x1.length x1.length),(4,.int .i64 i1)]∧SH w w' [Ch.own S1 (x2:List qF) [.slice p2 x1.length x1.length]]) n ⟨_,_,hF,rfl,h⟩ rfl ?_)
 rintro m1 e1 w2 ⟨x2,i1,hF,rfl,h⟩
 rcases m1 with _|m1
 ·cases hF
 refine X0 8 rfl (qh rfl hF ?_ ?_)<;>intro hF
 ·refine X0 8 rfl ?_
  obtain ⟨y1,hy1,hF,he1,b1,_,q1,cs2,hp1,hq1,hr1,hc2⟩:=s1.ix hF
  obtain rfl:=qai hr1
  refine zxe hp1 hq1 he1 rfl (zc 0 (hc2.below h.below) rfl (zcO h hF (qk4 (qb1 y1)) rfl fun r1 w3 S2 cs3 h hF=>?_))
  obtain rfl:=qai (h.own 0 rfl)
  obtain ⟨y2,hy2,hF,he2,b2,_,q2,cs4,hp2,hq2,hr3,hc3⟩:=(h.sl 1 rfl).1.ix hF
  obtain rfl:=qai hr3
  refine zx hp2 hq2 ⟨he2.1,qK he2.2.1 (h.sl 1 rfl).2⟩ rfl (qaN qe 1 0 r1 h rfl hy2 hp2 hq2 (qb1 y2) hc3 rfl rfl rfl (qb1 r1) rfl rfl rfl fun w4 h=>X0 7 rfl ?_)
  replace h:=h.pick [1] rfl
  exact rK ⟨_,_,hF,rfl,h⟩ rfl
 refine qq rfl ?_
 obtain rfl:=qa hF;replace hF:=hK1
 refine X0 5 rfl ?_
 obtain rfl:=qa hF
 exact rO 0 h rfl ⟨rfl,trivial⟩
def qeR (n:Nat) (a:ql):Option ql :=
 (qab n a.Ay).bind fun r1 =>
 (qab n a.Av).bind fun r2 =>
 (qab n a.Ap).bind fun r3 =>
 some (⟨r1,r2,r3⟩:ql)
theorem qjX {a:ql} (ha1:GoT.R w (old w) a cs1) {r:ql} (hF:qeR n a=some r):RetV Tryz.prog 333 [GoT.v ql cs1] w r:=by
 obtain ⟨p1,k1,p2,k2,p3,k3,rfl,s1,s2,s3⟩:=qau ha1
 refine zV 17 Tryz.func333 rfl fun h=>zSR (qy h rfl rfl fun w1 bb1 h=>qM qe h rfl rfl rfl fun w2 bb2 h=>zNSR (qM qe h rfl rfl rfl fun w3 bb3 h=>X1 5 2 h rfl (zcL h hF (qU ⟨_,_,rfl,(h.oldS s1)⟩) rfl fun r1 w4 S1 p4 k4 h hF=>zp1 rfl (zs 1 h rfl fun w5 h=>X1 5 3 h rfl (zcL h hF (qU ⟨_,_,rfl,(h.oldS s2)⟩) rfl fun r2 w6 S2 p5 k5 h hF=>zp1 rfl (zs 2 h rfl fun w7 h=>X1 5 4 h rfl (zcL h hF (qU ⟨_,_,rfl,(h.oldS s3)⟩) rfl fun r3 w8 S3 p6 k6 h hF=>zp1 rfl (zs 3 h rfl fun w9 h=>X1 4 3 h rfl (zs 4 h rfl fun w10 h=>qd1 ?_)))))))))
 obtain rfl:=qa hF
 exact qbh qe (ρ:=ql) [GoT.v ql [.slice p4 r1.length k4,.slice p5 r2.length k5,.slice p6 r3.length k6]] h ⟨⟨_,_,_,rfl,rfl,h.box 4 rfl,rfl⟩,trivial⟩ (PV.done h (qbV (qlp (⟨r1,r2,r3⟩:ql) h (qaC 2 h rfl) (qaC 1 h rfl) (qaC 0 h rfl) (by rfl) (by rfl))))
def qdk (a:(List ql)):Nat→(List ql)→Int→Option ((List ql) × Int)
 | 0,_,_=>none
 | n+1,x2,i1 =>
  bif decide (i1<(a.length:Int)) then
   (idx a i1).bind fun y1 =>
   (qeR n y1).bind fun r1 =>
   (idx x2 i1).bind fun _ =>
   qdk a n (setS x2 i1 r1) (W64 (i1+1))
  else
   some (x2,i1)
def qez (n:Nat) (a:(List ql)):Option (List ql) :=
 (mkS (a.length:Int) ((⟨[],[],[]⟩:ql):ql)).bind fun x1 =>
 (qdk a n x1 0).bind fun o=>match o with
 | (x2,_) =>
  some x2
theorem qhg {a:(List ql)} (ha1:GoT.R w (old w) a cs1) {r:(List ql)} (hF:qez n a=some r):RetV Tryz.prog 318 [GoT.v (List ql) cs1] w r:=by
 obtain ⟨p1,k1,rfl,s1⟩:=ha1
 refine zV 23 Tryz.func318 rfl fun h=>X0 8 rfl ?_
 obtain ⟨x1,hx1,hF⟩:=qf hF
 obtain ⟨g1,g2,hx1⟩:=qb4 hx1
 refine qc6 qe ql h rfl rfl rfl rfl rfl rfl rfl rfl rfl g1 g2 hx1 rfl fun w1 S1 p2 h=>X0 7 rfl ?_
 obtain ⟨o1,hF,hK1⟩:=qf hF
 refine qm (rL (fun m e w'=>∃ (S2:Nat→Prop) (x2:(List ql)) (i1:Int),qdk a m x2 i1=some o1∧e=[(0,.slice p1 a.length k1),(3,.slice p2 x1.length x1.length),(4,.int .i64 i1)]∧SH w w' [Ch.own S2 (x2:List ql) [.slice p2 x1.length x1.length]]) n ⟨_,_,_,hF,rfl,h⟩ rfl ?_)
 rintro m1 e1 w2 ⟨S2,x2,i1,hF,rfl,h⟩
 rcases m1 with _|m1
 ·cases hF
 refine X0 8 rfl (qh rfl hF ?_ ?_)<;>intro hF
 ·refine X0 8 rfl ?_
  obtain ⟨y1,hy1,hF,he1,b1,_,q1,cs2,hp1,hq1,hr1,hc2⟩:=s1.ix hF
  obtain ⟨p3,k2,p4,k3,p5,k4,rfl,s2,s3,s4⟩:=qau hr1
  refine zxe hp1 hq1 he1 rfl (zc 0 (hc2.below h.below) rfl (zcO h hF (qjX (qfd y1 (h.oldS s2) (h.oldS s3) (h.oldS s4))) rfl fun r1 w3 S3 cs3 h hF=>?_))
  obtain ⟨p6,k5,p7,k6,p8,k7,rfl,-,-,-⟩:=qau (h.own 0 rfl)
  obtain ⟨y2,hy2,hF⟩:=qf hF
  have he2:=qcz hy2
  replace h:=h.lrn0 1 rfl
  obtain ⟨b2,o_2,q2,cs4,hp2,hq2,-,hr3,hc3⟩:=(qit (h.lrnO 1 rfl)).1.at hy2
  have hr4:=hr3
  obtain ⟨p9,k8,p10,k9,p11,k10,rfl,s8,s9,s10⟩:=qau hr3
  replace h:=h.lrnAdd 1 rfl hr4
  refine zx hp2 hq2 ⟨he2.1,qK he2.2.1 (qit (h.lrnO 1 rfl)).2⟩ rfl ?_
  replace h:=h.unlrn 1 rfl
  exact qhY qe r1 h hy2 hp2 hq2 rfl rfl rfl rfl rfl fun w4 S4 h=>X0 7 rfl (rK ⟨_,_,_,hF,rfl,h⟩ rfl)
 refine qq rfl ?_
 obtain rfl:=qa hF;replace hF:=hK1
 refine X0 5 rfl ?_
 obtain rfl:=qa hF
 exact rO 0 h rfl ⟨rfl,trivial⟩
def qgs (n:Nat) (a:qz):Option qz :=
 (qez n a.At).bind fun r1 =>
 (qez n a.Bb).bind fun r2 =>
 some (⟨a.Ar,a.Az,a.To,a.Bc,r1,r2⟩:qz)
theorem qk3 {a:qz} (ha1:GoT.R w (old w) a cs1) {r:qz} (hF:qgs n a=some r):RetV Tryz.prog 299 [GoT.v qz cs1] w r:=by
 obtain ⟨p1,k1,p2,k2,rfl,s1,s2⟩:=qaa ha1
 refine zV 25 Tryz.func299 rfl fun h=>zSR (qy h rfl rfl fun w1 bb1 h=>qM qe h rfl rfl rfl fun w2 bb2 h=>zNSR (qM qe h rfl rfl rfl fun w3 bb3 h=>X1 6 2 h rfl (zs 0 h rfl fun w4 h=>X1 6 2 h rfl (zs 0 h rfl fun w5 h=>X1 6 2 h rfl (zs 0 h rfl fun w6 h=>X1 6 2 h rfl (zs 0 h rfl fun w7 h=>X1 5 2 h rfl (zcL h hF (qhg ⟨_,_,rfl,(h.oldS s1)⟩) rfl fun r1 w8 S1 p3 k3 h hF=>zp1 rfl (zs 1 h rfl fun w9 h=>X1 5 3 h rfl (zcL h hF (qhg ⟨_,_,rfl,(h.oldS s2)⟩) rfl fun r2 w10 S2 p4 k4 h hF=>zp1 rfl (zs 2 h rfl fun w11 h=>X1 4 2 h rfl (zs 3 h rfl fun w12 h=>qd1 ?_)))))))))))
 obtain rfl:=qa hF
 exact qbh qe (ρ:=qz) [GoT.v qz [.int .i64 a.Ar,.int .i64 a.Az,.int .i64 a.To,.int .i64 a.Bc,.slice p3 r1.length k3,.slice p4 r2.length k4]] h ⟨⟨_,_,_,rfl,rfl,h.box 3 rfl,rfl⟩,trivial⟩ (PV.done h (qbV (qnw (⟨a.Ar,a.Az,a.To,a.Bc,r1,r2⟩:qz) h (qO (S:=fun _=>False) rfl) (qO (S:=fun _=>False) rfl) (qO (S:=fun _=>False) rfl) (qO (S:=fun _=>False) rfl) (qaC 1 h rfl) (qaC 0 h rfl) (by rfl) (by rfl) (by rfl) (by rfl) (by rfl))))
def qdX (a:(List qz)):Nat→(List qz)→Int→Option ((List qz) × Int)
 | 0,_,_=>none
 | n+1,x2,i1 =>
  bif decide (i1<(a.length:Int)) then
   (idx a i1).bind fun y1 =>
   (qgs n y1).bind fun r1 =>
   (idx x2 i1).bind fun _ =>
   qdX a n (setS x2 i1 r1) (W64 (i1+1))
  else
   some (x2,i1)
def qgO (n:Nat) (a:(List qz)):Option (List qz) :=
 (mkS (a.length:Int) ((⟨0,0,0,0,[],[]⟩:qz):qz)).bind fun x1 =>
 (qdX a n x1 0).bind fun o=>match o with
 | (x2,_) =>
  some x2
theorem qkj {a:(List qz)} (ha1:GoT.R w (old w) a cs1) {r:(List qz)} (hF:qgO n a=some r):RetV Tryz.prog 260 [GoT.v (List qz) cs1] w r:=by
 obtain ⟨p1,k1,rfl,s1⟩:=ha1
 refine zV 23 Tryz.func260 rfl fun h=>X0 8 rfl ?_
 obtain ⟨x1,hx1,hF⟩:=qf hF
 obtain ⟨g1,g2,hx1⟩:=qb4 hx1
 refine qc6 qe qz h rfl rfl rfl rfl rfl rfl rfl rfl rfl g1 g2 hx1 rfl fun w1 S1 p2 h=>X0 7 rfl ?_
 obtain ⟨o1,hF,hK1⟩:=qf hF
 refine qm (rL (fun m e w'=>∃ (S2:Nat→Prop) (x2:(List qz)) (i1:Int),qdX a m x2 i1=some o1∧e=[(0,.slice p1 a.length k1),(3,.slice p2 x1.length x1.length),(4,.int .i64 i1)]∧SH w w' [Ch.own S2 (x2:List qz) [.slice p2 x1.length x1.length]]) n ⟨_,_,_,hF,rfl,h⟩ rfl ?_)
 rintro m1 e1 w2 ⟨S2,x2,i1,hF,rfl,h⟩
 rcases m1 with _|m1
 ·cases hF
 refine X0 8 rfl (qh rfl hF ?_ ?_)<;>intro hF
 ·refine X0 8 rfl ?_
  obtain ⟨y1,hy1,hF,he1,b1,_,q1,cs2,hp1,hq1,hr1,hc2⟩:=s1.ix hF
  obtain ⟨p3,k2,p4,k3,rfl,s2,s3⟩:=qaa hr1
  refine zxe hp1 hq1 he1 rfl (zc 0 (hc2.below h.below) rfl (zcO h hF (qk3 (qeW y1 (h.oldS s2) (h.oldS s3))) rfl fun r1 w3 S3 cs3 h hF=>?_))
  obtain ⟨p5,k4,p6,k5,rfl,-,-⟩:=qaa (h.own 0 rfl)
  obtain ⟨y2,hy2,hF⟩:=qf hF
  have he2:=qcz hy2
  replace h:=h.lrn0 1 rfl
  obtain ⟨b2,o_2,q2,cs4,hp2,hq2,-,hr3,hc3⟩:=(qit (h.lrnO 1 rfl)).1.at hy2
  have hr4:=hr3
  obtain ⟨p7,k6,p8,k7,rfl,s6,s7⟩:=qaa hr3
  replace h:=h.lrnAdd 1 rfl hr4
  refine zx hp2 hq2 ⟨he2.1,qK he2.2.1 (qit (h.lrnO 1 rfl)).2⟩ rfl ?_
  replace h:=h.unlrn 1 rfl
  exact qhY qe r1 h hy2 hp2 hq2 rfl rfl rfl rfl rfl fun w4 S4 h=>X0 7 rfl (rK ⟨_,_,_,hF,rfl,h⟩ rfl)
 refine qq rfl ?_
 obtain rfl:=qa hF;replace hF:=hK1
 refine X0 5 rfl ?_
 obtain rfl:=qa hF
 exact rO 0 h rfl ⟨rfl,trivial⟩
def qfR (n:Nat) (a:qk):Option qk :=
 (qgV n a.Ai).bind fun r1 =>
 (qgO n a.Ak).bind fun r2 =>
 (qab n a.Au).bind fun r3 =>
 some (⟨a.Am,a.Ar,r1,r2,r3,a.Bl,a.Bf⟩:qk)
theorem qkk {a:qk} (ha1:GoT.R w (old w) a cs1) {r:qk} (hF:qfR n a=some r):RetV Tryz.prog 211 [GoT.v qk cs1] w r:=by
 obtain ⟨p1,k1,p2,k2,p3,k3,rfl,s1,s2,s3⟩:=qI ha1
 refine zV 29 Tryz.func211 rfl fun h=>zSR (qy h rfl rfl fun w1 bb1 h=>qM qe h rfl rfl rfl fun w2 bb2 h=>zNSR (qM qe h rfl rfl rfl fun w3 bb3 h=>X1 6 2 h rfl (zs 0 h rfl fun w4 h=>X1 6 2 h rfl (zs 0 h rfl fun w5 h=>X1 5 2 h rfl (zcL h hF (qkn ⟨_,_,rfl,(h.oldS s1)⟩) rfl fun r1 w6 S1 p4 k4 h hF=>zp1 rfl (zs 1 h rfl fun w7 h=>X1 5 3 h rfl (zcL h hF (qkj ⟨_,_,rfl,(h.oldS s2)⟩) rfl fun r2 w8 S2 p5 k5 h hF=>zp1 rfl (zs 2 h rfl fun w9 h=>X1 5 4 h rfl (zcL h hF (qU ⟨_,_,rfl,(h.oldS s3)⟩) rfl fun r3 w10 S3 p6 k6 h hF=>zp1 rfl (zs 3 h rfl fun w11 h=>X1 6 5 h rfl (zs 3 h rfl fun w12 h=>X1 6 5 h rfl (zs 3 h rfl fun w13 h=>X1 4 3 h rfl (zs 4 h rfl fun w14 h=>qd1 ?_)))))))))))))
 obtain rfl:=qa hF
 exact qbh qe (ρ:=qk) [GoT.v qk [.string a.Am,.int .i64 a.Ar,.slice p4 r1.length k4,.slice p5 r2.length k5,.slice p6 r3.length k6,.int .i64 a.Bl,.int .i64 a.Bf]] h ⟨⟨_,_,_,rfl,rfl,h.box 4 rfl,rfl⟩,trivial⟩ (PV.done h (qbV (qmf (⟨a.Am,a.Ar,r1,r2,r3,a.Bl,a.Bf⟩:qk) h (qO (S:=fun _=>False) rfl) (qO (S:=fun _=>False) rfl) (qaC 2 h rfl) (qaC 1 h rfl) (qaC 0 h rfl) (qO (S:=fun _=>False) rfl) (qO (S:=fun _=>False) rfl) (by rfl) (by rfl) (by rfl) (by rfl) (by rfl) (by rfl))))
def qdI (a:(List qk)):Nat→(List qk)→Int→Option ((List qk) × Int)
 | 0,_,_=>none
 | n+1,x2,i1 =>
  bif decide (i1<(a.length:Int)) then
   (idx a i1).bind fun y1 =>
   (qfR n y1).bind fun r1 =>
   (idx x2 i1).bind fun _ =>
   qdI a n (setS x2 i1 r1) (W64 (i1+1))
  else
   some (x2,i1)
def qf8 (n:Nat) (a:(List qk)):Option (List qk) :=
 (mkS (a.length:Int) ((⟨ByteArray.empty,0,[],[],[],0,0⟩:qk):qk)).bind fun x1 =>
 (qdI a n x1 0).bind fun o=>match o with
 | (x2,_) =>
  some x2
theorem qj9 {a:(List qk)} (ha1:GoT.R w (old w) a cs1) {r:(List qk)} (hF:qf8 n a=some r):RetV Tryz.prog 134 [GoT.v (List qk) cs1] w r:=by
 obtain ⟨p1,k1,rfl,s1⟩:=ha1
 refine zV 23 Tryz.func134 rfl fun h=>X0 8 rfl ?_
 obtain ⟨x1,hx1,hF⟩:=qf hF
 obtain ⟨g1,g2,hx1⟩:=qb4 hx1
 refine qc6 qe qk h rfl rfl rfl rfl rfl rfl rfl rfl rfl g1 g2 hx1 rfl fun w1 S1 p2 h=>X0 7 rfl ?_
 obtain ⟨o1,hF,hK1⟩:=qf hF
 refine qm (rL (fun m e w'=>∃ (S2:Nat→Prop) (x2:(List qk)) (i1:Int),qdI a m x2 i1=some o1∧e=[(0,.slice p1 a.length k1),(3,.slice p2 x1.length x1.length),(4,.int .i64 i1)]∧SH w w' [Ch.own S2 (x2:List qk) [.slice p2 x1.length x1.length]]) n ⟨_,_,_,hF,rfl,h⟩ rfl ?_)
 rintro m1 e1 w2 ⟨S2,x2,i1,hF,rfl,h⟩
 rcases m1 with _|m1
 ·cases hF
 refine X0 8 rfl (qh rfl hF ?_ ?_)<;>intro hF
 ·refine X0 8 rfl ?_
  obtain ⟨y1,hy1,hF,he1,b1,_,q1,cs2,hp1,hq1,hr1,hc2⟩:=s1.ix hF
  obtain ⟨p3,k2,p4,k3,p5,k4,rfl,s2,s3,s4⟩:=qI hr1
  refine zxe hp1 hq1 he1 rfl (zc 0 (hc2.below h.below) rfl (zcO h hF (qkk (qgl y1 (h.oldS s2) (h.oldS s3) (h.oldS s4))) rfl fun r1 w3 S3 cs3 h hF=>?_))
  obtain ⟨p6,k5,p7,k6,p8,k7,rfl,-,-,-⟩:=qI (h.own 0 rfl)
  obtain ⟨y2,hy2,hF⟩:=qf hF
  have he2:=qcz hy2
  replace h:=h.lrn0 1 rfl
  obtain ⟨b2,o_2,q2,cs4,hp2,hq2,-,hr3,hc3⟩:=(qit (h.lrnO 1 rfl)).1.at hy2
  have hr4:=hr3
  obtain ⟨p9,k8,p10,k9,p11,k10,rfl,s8,s9,s10⟩:=qI hr3
  replace h:=h.lrnAdd 1 rfl hr4
  refine zx hp2 hq2 ⟨he2.1,qK he2.2.1 (qit (h.lrnO 1 rfl)).2⟩ rfl ?_
  replace h:=h.unlrn 1 rfl
  exact qhY qe r1 h hy2 hp2 hq2 rfl rfl rfl rfl rfl fun w4 S4 h=>X0 7 rfl (rK ⟨_,_,_,hF,rfl,h⟩ rfl)
 refine qq rfl ?_
 obtain rfl:=qa hF;replace hF:=hK1
 refine X0 5 rfl ?_
 obtain rfl:=qa hF
 exact rO 0 h rfl ⟨rfl,trivial⟩
def qe6 (n:Nat) (a:qn):Option qn :=
 (qf8 n a.Aj).bind fun r1 =>
 some (⟨r1⟩:qn)
theorem qiS {a:qn} (ha1:GoT.R w (old w) a cs1) {r:qn} (hF:qe6 n a=some r):RetV Tryz.prog 55 [GoT.v qn cs1] w r:=by
 obtain ⟨p1,k1,rfl,s1⟩:=qa0 ha1
 refine zV 9 Tryz.func55 rfl fun h=>zSR (qy h rfl rfl fun w1 bb1 h=>qM qe h rfl rfl rfl fun w2 bb2 h=>zNSR (qM qe h rfl rfl rfl fun w3 bb3 h=>X1 5 2 h rfl (zcL h hF (qj9 ⟨_,_,rfl,(h.oldS s1)⟩) rfl fun r1 w4 S1 p2 k2 h hF=>zp1 rfl (zs 1 h rfl fun w5 h=>X1 4 1 h rfl (zs 2 h rfl fun w6 h=>qd1 ?_)))))
 obtain rfl:=qa hF
 exact qbh qe (ρ:=qn) [GoT.v qn [.slice p2 r1.length k2]] h ⟨⟨_,_,_,rfl,rfl,h.box 2 rfl,rfl⟩,trivial⟩ (PV.done h (qbV (qmG (⟨r1⟩:qn) h (qaC 0 h rfl) )))
def qdN (n:Nat) (a:qc):Option qc :=
 (qab n a.Ac).bind fun r1 =>
 some (⟨a.Am,a.Bj,r1⟩:qc)
theorem qiz {a:qc} (ha1:GoT.R w (old w) a cs1) {r:qc} (hF:qdN n a=some r):RetV Tryz.prog 212 [GoT.v qc cs1] w r:=by
 obtain ⟨p1,k1,rfl,s1⟩:=qJ ha1
 refine zV 15 Tryz.func212 rfl fun h=>zSR (qy h rfl rfl fun w1 bb1 h=>qM qe h rfl rfl rfl fun w2 bb2 h=>zNSR (qM qe h rfl rfl rfl fun w3 bb3 h=>X1 6 2 h rfl (zs 0 h rfl fun w4 h=>X1 6 2 h rfl (zs 0 h rfl fun w5 h=>X1 5 2 h rfl (zcL h hF (qU ⟨_,_,rfl,(h.oldS s1)⟩) rfl fun r1 w6 S1 p2 k2 h hF=>zp1 rfl (zs 1 h rfl fun w7 h=>X1 4 1 h rfl (zs 2 h rfl fun w8 h=>qd1 ?_)))))))
 obtain rfl:=qa hF
 exact qbh qe (ρ:=qc) [GoT.v qc [.string a.Am,.int .i64 a.Bj,.slice p2 r1.length k2]] h ⟨⟨_,_,_,rfl,rfl,h.box 2 rfl,rfl⟩,trivial⟩ (PV.done h (qbV (qiX (⟨a.Am,a.Bj,r1⟩:qc) h (qO (S:=fun _=>False) rfl) (qO (S:=fun _=>False) rfl) (qaC 0 h rfl) (by rfl) (by rfl))))
def qb0 (a:(List qc)):Nat→(List qc)→Int→Option ((List qc) × Int)
 | 0,_,_=>none
 | n+1,x2,i1 =>
  bif decide (i1<(a.length:Int)) then
   (idx a i1).bind fun y1 =>
   (qdN n y1).bind fun r1 =>
   (idx x2 i1).bind fun _ =>
   qb0 a n (setS x2 i1 r1) (W64 (i1+1))
  else
   some (x2,i1)
def qd7 (n:Nat) (a:(List qc)):Option (List qc) :=
 (mkS (a.length:Int) ((⟨ByteArray.empty,0,[]⟩:qc):qc)).bind fun x1 =>
 (qb0 a n x1 0).bind fun o=>match o with
 | (x2,_) =>
  some x2
theorem qih {a:(List qc)} (ha1:GoT.R w (old w) a cs1) {r:(List qc)} (hF:qd7 n a=some r):RetV Tryz.prog 135 [GoT.v (List qc) cs1] w r:=by
 obtain ⟨p1,k1,rfl,s1⟩:=ha1
 refine zV 23 Tryz.func135 rfl fun h=>X0 8 rfl ?_
 obtain ⟨x1,hx1,hF⟩:=qf hF
 obtain ⟨g1,g2,hx1⟩:=qb4 hx1
 refine qc6 qe qc h rfl rfl rfl rfl rfl rfl rfl rfl rfl g1 g2 hx1 rfl fun w1 S1 p2 h=>X0 7 rfl ?_
 obtain ⟨o1,hF,hK1⟩:=qf hF
 refine qm (rL (fun m e w'=>∃ (S2:Nat→Prop) (x2:(List qc)) (i1:Int),qb0 a m x2 i1=some o1∧e=[(0,.slice p1 a.length k1),(3,.slice p2 x1.length x1.length),(4,.int .i64 i1)]∧SH w w' [Ch.own S2 (x2:List qc) [.slice p2 x1.length x1.length]]) n ⟨_,_,_,hF,rfl,h⟩ rfl ?_)
 rintro m1 e1 w2 ⟨S2,x2,i1,hF,rfl,h⟩
 rcases m1 with _|m1
 ·cases hF
 refine X0 8 rfl (qh rfl hF ?_ ?_)<;>intro hF
 ·refine X0 8 rfl ?_
  obtain ⟨y1,hy1,hF,he1,b1,_,q1,cs2,hp1,hq1,hr1,hc2⟩:=s1.ix hF
  obtain ⟨p3,k2,rfl,s2⟩:=qJ hr1
  refine zxe hp1 hq1 he1 rfl (zc 0 (hc2.below h.below) rfl (zcO h hF (qiz (qev y1 (h.oldS s2))) rfl fun r1 w3 S3 cs3 h hF=>?_))
  obtain ⟨p4,k3,rfl,-⟩:=qJ (h.own 0 rfl)
  obtain ⟨y2,hy2,hF⟩:=qf hF
  have he2:=qcz hy2
  replace h:=h.lrn0 1 rfl
  obtain ⟨b2,o_2,q2,cs4,hp2,hq2,-,hr3,hc3⟩:=(qit (h.lrnO 1 rfl)).1.at hy2
  have hr4:=hr3
  obtain ⟨p5,k4,rfl,s4⟩:=qJ hr3
  replace h:=h.lrnAdd 1 rfl hr4
  refine zx hp2 hq2 ⟨he2.1,qK he2.2.1 (qit (h.lrnO 1 rfl)).2⟩ rfl ?_
  replace h:=h.unlrn 1 rfl
  exact qhY qe r1 h hy2 hp2 hq2 rfl rfl rfl rfl rfl fun w4 S4 h=>X0 7 rfl (rK ⟨_,_,_,hF,rfl,h⟩ rfl)
 refine qq rfl ?_
 obtain rfl:=qa hF;replace hF:=hK1
 refine X0 5 rfl ?_
 obtain rfl:=qa hF
 exact rO 0 h rfl ⟨rfl,trivial⟩
def qcS (a:(List ByteArray)):Nat→(List ByteArray)→Int→Option ((List ByteArray) × Int)
 | 0,_,_=>none
 | n+1,x2,i1 =>
  bif decide (i1<(a.length:Int)) then
   (idx a i1).bind fun y1 =>
   (idx x2 i1).bind fun _ =>
   qcS a n (setS x2 i1 y1) (W64 (i1+1))
  else
   some (x2,i1)
def qeY (n:Nat) (a:(List ByteArray)):Option (List ByteArray) :=
 (mkS (a.length:Int) (ByteArray.empty:ByteArray)).bind fun x1 =>
 (qcS a n x1 0).bind fun o=>match o with
 | (x2,_) =>
  some x2
theorem qiO {a:(List ByteArray)} (ha1:GoT.R w (old w) a cs1) {r:(List ByteArray)} (hF:qeY n a=some r):RetV Tryz.prog 136 [GoT.v (List ByteArray) cs1] w r:=by
 obtain ⟨p1,k1,rfl,s1⟩:=ha1
 refine zV 22 Tryz.func136 rfl fun h=>X0 8 rfl ?_
 obtain ⟨x1,hx1,hF⟩:=qf hF
 obtain ⟨g1,g2,hx1⟩:=qb4 hx1
 refine qc6 qe ByteArray h rfl rfl rfl rfl rfl rfl rfl rfl rfl g1 g2 hx1 rfl fun w1 S1 p2 h=>X0 7 rfl ?_
 obtain ⟨o1,hF,hK1⟩:=qf hF
 refine qm (rL (fun m e w'=>∃ (x2:(List ByteArray)) (i1:Int),qcS a m x2 i1=some o1∧e=[(0,.slice p1 a.length k1),(3,.slice p2 x1.length x1.length),(4,.int .i64 i1)]∧SH w w' [Ch.own S1 (x2:List ByteArray) [.slice p2 x1.length x1.length]]) n ⟨_,_,hF,rfl,h⟩ rfl ?_)
 rintro m1 e1 w2 ⟨x2,i1,hF,rfl,h⟩
 rcases m1 with _|m1
 ·cases hF
 refine X0 8 rfl (qh rfl hF ?_ ?_)<;>intro hF
 ·refine X0 8 rfl ?_
  obtain ⟨y1,hy1,hF,he1,b1,_,q1,cs2,hp1,hq1,rfl,hc2⟩:=s1.ix hF
  refine zxe hp1 hq1 he1 rfl (zc 0 (hc2.below h.below) rfl ?_)
  obtain ⟨y2,hy2,hF,he2,b2,_,q2,cs3,hp2,hq2,rfl,hc3⟩:=(h.sl 0 rfl).1.ix hF
  exact zx hp2 hq2 ⟨he2.1,qK he2.2.1 (h.sl 0 rfl).2⟩ rfl (qaN qe 0 0 y1 h rfl hy2 hp2 hq2 rfl hc3 rfl rfl rfl rfl rfl rfl rfl fun w3 h=>X0 7 rfl (rK ⟨_,_,hF,rfl,h⟩ rfl))
 refine qq rfl ?_
 obtain rfl:=qa hF;replace hF:=hK1
 refine X0 5 rfl ?_
 obtain rfl:=qa hF
 exact rO 0 h rfl ⟨rfl,trivial⟩
def qfL (_:Nat) (a:qu):Option qu :=
 some (⟨a.Am,a.Bh,a.Bk⟩:qu)
theorem qkp {a:qu} (ha1:GoT.R w (old w) a cs1) {r:qu} (hF:qfL n a=some r):RetV Tryz.prog 213 [GoT.v qu cs1] w r:=by
 obtain rfl:=qX ha1
 refine zV 14 Tryz.func213 rfl fun h=>zSR (qy h rfl rfl fun w1 bb1 h=>qM qe h rfl rfl rfl fun w2 bb2 h=>zNSR (qM qe h rfl rfl rfl fun w3 bb3 h=>X1 6 2 h rfl (zs 0 h rfl fun w4 h=>X1 6 2 h rfl (zs 0 h rfl fun w5 h=>X1 6 2 h rfl (zs 0 h rfl fun w6 h=>X1 4 0 h rfl (zs 1 h rfl fun w7 h=>qd1 ?_))))))
 obtain rfl:=qa hF
 exact qbh qe (ρ:=qu) [GoT.v qu (qke a)] h ⟨⟨_,_,_,rfl,rfl,h.box 1 rfl,rfl⟩,trivial⟩ (PV.done h (qbV (qO (S:=fun _=>False) (qcf (⟨a.Am,a.Bh,a.Bk⟩:qu)))))
def qdO (a:(List qu)):Nat→(List qu)→Int→Option ((List qu) × Int)
 | 0,_,_=>none
 | n+1,x2,i1 =>
  bif decide (i1<(a.length:Int)) then
   (idx a i1).bind fun y1 =>
   (qfL n y1).bind fun r1 =>
   (idx x2 i1).bind fun _ =>
   qdO a n (setS x2 i1 r1) (W64 (i1+1))
  else
   some (x2,i1)
def qf3 (n:Nat) (a:(List qu)):Option (List qu) :=
 (mkS (a.length:Int) ((⟨ByteArray.empty,0,0⟩:qu):qu)).bind fun x1 =>
 (qdO a n x1 0).bind fun o=>match o with
 | (x2,_) =>
  some x2
theorem qka {a:(List qu)} (ha1:GoT.R w (old w) a cs1) {r:(List qu)} (hF:qf3 n a=some r):RetV Tryz.prog 137 [GoT.v (List qu) cs1] w r:=by
 obtain ⟨p1,k1,rfl,s1⟩:=ha1
 refine zV 23 Tryz.func137 rfl fun h=>X0 8 rfl ?_
 obtain ⟨x1,hx1,hF⟩:=qf hF
 obtain ⟨g1,g2,hx1⟩:=qb4 hx1
 refine qc6 qe qu h rfl rfl rfl rfl rfl rfl rfl rfl rfl g1 g2 hx1 rfl fun w1 S1 p2 h=>X0 7 rfl ?_
 obtain ⟨o1,hF,hK1⟩:=qf hF
 refine qm (rL (fun m e w'=>∃ (x2:(List qu)) (i1:Int),qdO a m x2 i1=some o1∧e=[(0,.slice p1 a.length k1),(3,.slice p2 x1.length x1.length),(4,.int .i64 i1)]∧SH w w' [Ch.own S1 (x2:List qu) [.slice p2 x1.length x1.length]]) n ⟨_,_,hF,rfl,h⟩ rfl ?_)
 rintro m1 e1 w2 ⟨x2,i1,hF,rfl,h⟩
 rcases m1 with _|m1
 ·cases hF
 refine X0 8 rfl (qh rfl hF ?_ ?_)<;>intro hF
 ·refine X0 8 rfl ?_
  obtain ⟨y1,hy1,hF,he1,b1,_,q1,cs2,hp1,hq1,hr1,hc2⟩:=s1.ix hF
  obtain rfl:=qX hr1
  refine zxe hp1 hq1 he1 rfl (zc 0 (hc2.below h.below) rfl (zcO h hF (qkp (qcf y1)) rfl fun r1 w3 S2 cs3 h hF=>?_))
  obtain rfl:=qX (h.own 0 rfl)
  obtain ⟨y2,hy2,hF,he2,b2,_,q2,cs4,hp2,hq2,hr3,hc3⟩:=(h.sl 1 rfl).1.ix hF
  obtain rfl:=qX hr3
  refine zx hp2 hq2 ⟨he2.1,qK he2.2.1 (h.sl 1 rfl).2⟩ rfl (qaN qe 1 0 r1 h rfl hy2 hp2 hq2 (qcf y2) hc3 rfl rfl rfl (qcf r1) rfl rfl rfl fun w4 h=>X0 7 rfl ?_)
  replace h:=h.pick [1] rfl
  exact rK ⟨_,_,hF,rfl,h⟩ rfl
 refine qq rfl ?_
 obtain rfl:=qa hF;replace hF:=hK1
 refine X0 5 rfl ?_
 obtain rfl:=qa hF
 exact rO 0 h rfl ⟨rfl,trivial⟩
def qfw (n:Nat) (a:qd):Option qd :=
 (qd7 n a.Aa).bind fun r1 =>
 (qeY n a.Ac).bind fun r2 =>
 (qf3 n a.Af).bind fun r3 =>
 some (⟨r1,r2,r3⟩:qd)
theorem qjs {a:qd} (ha1:GoT.R w (old w) a cs1) {r:qd} (hF:qfw n a=some r):RetV Tryz.prog 56 [GoT.v qd cs1] w r:=by
 obtain ⟨p1,k1,p2,k2,p3,k3,rfl,s1,s2,s3⟩:=qag ha1
 refine zV 17 Tryz.func56 rfl fun h=>zSR (qy h rfl rfl fun w1 bb1 h=>qM qe h rfl rfl rfl fun w2 bb2 h=>zNSR (qM qe h rfl rfl rfl fun w3 bb3 h=>X1 5 2 h rfl (zcL h hF (qih ⟨_,_,rfl,(h.oldS s1)⟩) rfl fun r1 w4 S1 p4 k4 h hF=>zp1 rfl (zs 1 h rfl fun w5 h=>X1 5 3 h rfl (zcL h hF (qiO ⟨_,_,rfl,(h.oldS s2)⟩) rfl fun r2 w6 S2 p5 k5 h hF=>zp1 rfl (zs 2 h rfl fun w7 h=>X1 5 4 h rfl (zcL h hF (qka ⟨_,_,rfl,(h.oldS s3)⟩) rfl fun r3 w8 S3 p6 k6 h hF=>zp1 rfl (zs 3 h rfl fun w9 h=>X1 4 3 h rfl (zs 4 h rfl fun w10 h=>qd1 ?_)))))))))
 obtain rfl:=qa hF
 exact qbh qe (ρ:=qd) [GoT.v qd [.slice p4 r1.length k4,.slice p5 r2.length k5,.slice p6 r3.length k6]] h ⟨⟨_,_,_,rfl,rfl,h.box 4 rfl,rfl⟩,trivial⟩ (PV.done h (qbV (qm2 (⟨r1,r2,r3⟩:qd) h (qaC 2 h rfl) (qaC 1 h rfl) (qaC 0 h rfl) (by rfl) (by rfl))))
def qfB (n:Nat) (a:qr):Option qr :=
 (qab n a.Ah).bind fun r1 =>
 (qab n a.Bi).bind fun r2 =>
 (qab n a.Bg).bind fun r3 =>
 (qab n a.Be).bind fun r4 =>
 some (⟨r1,r2,r3,r4⟩:qr)
theorem qkS {a:qr} (ha1:GoT.R w (old w) a cs1) {r:qr} (hF:qfB n a=some r):RetV Tryz.prog 138 [GoT.v qr cs1] w r:=by
 obtain ⟨p1,k1,p2,k2,p3,k3,p4,k4,rfl,s1,s2,s3,s4⟩:=qaS ha1
 refine zV 21 Tryz.func138 rfl fun h=>zSR (qy h rfl rfl fun w1 bb1 h=>qM qe h rfl rfl rfl fun w2 bb2 h=>zNSR (qM qe h rfl rfl rfl fun w3 bb3 h=>X1 5 2 h rfl (zcL h hF (qU ⟨_,_,rfl,(h.oldS s1)⟩) rfl fun r1 w4 S1 p5 k5 h hF=>zp1 rfl (zs 1 h rfl fun w5 h=>X1 5 3 h rfl (zcL h hF (qU ⟨_,_,rfl,(h.oldS s2)⟩) rfl fun r2 w6 S2 p6 k6 h hF=>zp1 rfl (zs 2 h rfl fun w7 h=>X1 5 4 h rfl (zcL h hF (qU ⟨_,_,rfl,(h.oldS s3)⟩) rfl fun r3 w8 S3 p7 k7 h hF=>zp1 rfl (zs 3 h rfl fun w9 h=>X1 5 5 h rfl (zcL h hF (qU ⟨_,_,rfl,(h.oldS s4)⟩) rfl fun r4 w10 S4 p8 k8 h hF=>zp1 rfl (zs 4 h rfl fun w11 h=>X1 4 4 h rfl (zs 5 h rfl fun w12 h=>qd1 ?_)))))))))))
 obtain rfl:=qa hF
 exact qbh qe (ρ:=qr) [GoT.v qr [.slice p5 r1.length k5,.slice p6 r2.length k6,.slice p7 r3.length k7,.slice p8 r4.length k8]] h ⟨⟨_,_,_,rfl,rfl,h.box 5 rfl,rfl⟩,trivial⟩ (PV.done h (qbV (qmJ (⟨r1,r2,r3,r4⟩:qr) h (qaC 3 h rfl) (qaC 2 h rfl) (qaC 1 h rfl) (qaC 0 h rfl) (by rfl) (by rfl) (by rfl))))
def qdM (a:(List qr)):Nat→(List qr)→Int→Option ((List qr) × Int)
 | 0,_,_=>none
 | n+1,x2,i1 =>
  bif decide (i1<(a.length:Int)) then
   (idx a i1).bind fun y1 =>
   (qfB n y1).bind fun r1 =>
   (idx x2 i1).bind fun _ =>
   qdM a n (setS x2 i1 r1) (W64 (i1+1))
  else
   some (x2,i1)
def qf5 (n:Nat) (a:(List qr)):Option (List qr) :=
 (mkS (a.length:Int) ((⟨[],[],[],[]⟩:qr):qr)).bind fun x1 =>
 (qdM a n x1 0).bind fun o=>match o with
 | (x2,_) =>
  some x2
theorem qj1 {a:(List qr)} (ha1:GoT.R w (old w) a cs1) {r:(List qr)} (hF:qf5 n a=some r):RetV Tryz.prog 57 [GoT.v (List qr) cs1] w r:=by
 obtain ⟨p1,k1,rfl,s1⟩:=ha1
 refine zV 23 Tryz.func57 rfl fun h=>X0 8 rfl ?_
 obtain ⟨x1,hx1,hF⟩:=qf hF
 obtain ⟨g1,g2,hx1⟩:=qb4 hx1
 refine qc6 qe qr h rfl rfl rfl rfl rfl rfl rfl rfl rfl g1 g2 hx1 rfl fun w1 S1 p2 h=>X0 7 rfl ?_
 obtain ⟨o1,hF,hK1⟩:=qf hF
 refine qm (rL (fun m e w'=>∃ (S2:Nat→Prop) (x2:(List qr)) (i1:Int),qdM a m x2 i1=some o1∧e=[(0,.slice p1 a.length k1),(3,.slice p2 x1.length x1.length),(4,.int .i64 i1)]∧SH w w' [Ch.own S2 (x2:List qr) [.slice p2 x1.length x1.length]]) n ⟨_,_,_,hF,rfl,h⟩ rfl ?_)
 rintro m1 e1 w2 ⟨S2,x2,i1,hF,rfl,h⟩
 rcases m1 with _|m1
 ·cases hF
 refine X0 8 rfl (qh rfl hF ?_ ?_)<;>intro hF
 ·refine X0 8 rfl ?_
  obtain ⟨y1,hy1,hF,he1,b1,_,q1,cs2,hp1,hq1,hr1,hc2⟩:=s1.ix hF
  obtain ⟨p3,k2,p4,k3,p5,k4,p6,k5,rfl,s2,s3,s4,s5⟩:=qaS hr1
  refine zxe hp1 hq1 he1 rfl (zc 0 (hc2.below h.below) rfl (zcO h hF (qkS (qgn y1 (h.oldS s2) (h.oldS s3) (h.oldS s4) (h.oldS s5))) rfl fun r1 w3 S3 cs3 h hF=>?_))
  obtain ⟨p7,k6,p8,k7,p9,k8,p10,k9,rfl,-,-,-,-⟩:=qaS (h.own 0 rfl)
  obtain ⟨y2,hy2,hF⟩:=qf hF
  have he2:=qcz hy2
  replace h:=h.lrn0 1 rfl
  obtain ⟨b2,o_2,q2,cs4,hp2,hq2,-,hr3,hc3⟩:=(qit (h.lrnO 1 rfl)).1.at hy2
  have hr4:=hr3
  obtain ⟨p11,k10,p12,k11,p13,k12,p14,k13,rfl,s10,s11,s12,s13⟩:=qaS hr3
  replace h:=h.lrnAdd 1 rfl hr4
  refine zx hp2 hq2 ⟨he2.1,qK he2.2.1 (qit (h.lrnO 1 rfl)).2⟩ rfl ?_
  replace h:=h.unlrn 1 rfl
  exact qhY qe r1 h hy2 hp2 hq2 rfl rfl rfl rfl rfl fun w4 S4 h=>X0 7 rfl (rK ⟨_,_,_,hF,rfl,h⟩ rfl)
 refine qq rfl ?_
 obtain rfl:=qa hF;replace hF:=hK1
 refine X0 5 rfl ?_
 obtain rfl:=qa hF
 exact rO 0 h rfl ⟨rfl,trivial⟩
def qdz (n:Nat) (a:qp):Option qp :=
 (qe6 n (⟨a.As.Aj⟩:qn)).bind fun r1 =>
 (qfw n (⟨a.Ab.Aa,a.Ab.Ac,a.Ab.Af⟩:qd)).bind fun r2 =>
 (qf5 n a.Aq).bind fun r3 =>
 some (⟨r1,r2,r3⟩:qp)
theorem qeB {a:qp} (ha1:GoT.R w (old w) a cs1) {r:qp} (hF:qdz n a=some r):RetV Tryz.prog 12 [GoT.v qp cs1] w r:=by
 obtain ⟨p1,k1,p2,k2,p3,k3,p4,k4,p5,k5,rfl,s1,s2,s3,s4,s5⟩:=qay ha1
 refine zV 17 Tryz.func12 rfl fun h=>zSR (qy h rfl rfl fun w1 bb1 h=>qM qe h rfl rfl rfl fun w2 bb2 h=>zNSR (qM qe h rfl rfl rfl fun w3 bb3 h=>X1 5 2 h rfl (zcO h hF (qiS (qdC _ (h.oldS s1))) rfl fun r1 w4 S1 cs2 h hF=>?_)))
 obtain ⟨p6,k6,rfl,-⟩:=qa0 (h.own 0 rfl)
 refine zp1 rfl (zs 1 h rfl fun w5 h=>X1 5 3 h rfl (zcO h hF (qjs (qbs _ (h.oldS s2) (h.oldS s3) (h.oldS s4))) rfl fun r2 w6 S2 cs3 h hF=>?_))
 obtain ⟨p7,k7,p8,k8,p9,k9,rfl,-,-,-⟩:=qag (h.own 0 rfl)
 refine zp1 rfl (zs 2 h rfl fun w7 h=>X1 5 4 h rfl (zcL h hF (qj1 ⟨_,_,rfl,(h.oldS s5)⟩) rfl fun r3 w8 S3 p10 k10 h hF=>zp1 rfl (zs 3 h rfl fun w9 h=>X1 4 3 h rfl (zs 4 h rfl fun w10 h=>qd1 ?_))))
 obtain rfl:=qa hF
 exact qbh qe (ρ:=qp) [GoT.v qp [.slice p6 r1.Aj.length k6,.slice p7 r2.Aa.length k7,.slice p8 r2.Ac.length k8,.slice p9 r2.Af.length k9,.slice p10 r3.length k10]] h ⟨⟨_,_,_,rfl,rfl,h.box 4 rfl,rfl⟩,trivial⟩ (PV.done h (qbV (qnY (⟨r1,r2,r3⟩:qp) h (qaC 2 h rfl) (qaC 1 h rfl) (qaC 0 h rfl) (by rfl) (by rfl))))
def qdg (a:(List Int)) (b:(List Int)):Nat→Int→Option (Flow Bool Int)
 | 0,_=>none
 | n+1,i1 =>
  bif decide (i1<(a.length:Int)) then
   (idx a i1).bind fun y1 =>
   (idx b i1).bind fun y2 =>
   bif (y1 != y2) then some (.ret false) else
   qdg a b n (W64 (i1+1))
  else
   some (.nxt i1)
def qac (n:Nat) (a:(List Int)) (b:(List Int)):Option Bool :=
 bif ((a.length:Int) != (b.length:Int)) then some false else
 (qdg a b n 0).bind fun o=>match o with
 | .ret r=>some r
 | .nxt _ =>
  some true
theorem qT {a:(List Int)} {b:(List Int)} (ha1:GoT.R w (old w) a cs1) (ha2:GoT.R w (old w) b cs2) {r:Bool} (hF:qac n a b=some r):RetV Tryz.prog 16 [GoT.v (List Int) cs1,GoT.v (List Int) cs2] w r:=by
 obtain ⟨p1,k1,rfl,s1⟩:=ha1
 obtain ⟨p2,k2,rfl,s2⟩:=ha2
 refine zV 26 Tryz.func16 rfl fun h=>X0 13 rfl (qh rfl hF ?_ ?_)<;>intro hF
 ·exact X0 4 rfl (rb h hF rfl)
 refine X0 6 rfl ?_
 obtain ⟨o1,hF,hK1⟩:=qf hF
 refine qm (rL (fun m e w'=>∃ (i1:Int),qdg a b m i1=some o1∧e=[(0,.slice p1 a.length k1),(1,.slice p2 b.length k2),(5,.int .i64 i1)]∧SH w w' []) n ⟨_,hF,rfl,h⟩ rfl ?_)
 rintro m1 e1 w1 ⟨i1,hF,rfl,h⟩
 rcases m1 with _|m1
 ·cases hF
 refine X0 8 rfl (qh rfl hF ?_ ?_)<;>intro hF
 ·refine X0 4 rfl (rD (zd2 rfl ?_))
  obtain ⟨y1,hy1,hF,he1,b1,_,q1,cs3,hp1,hq1,rfl,hc3⟩:=s1.ix hF
  refine zdxe hp1 hq1 he1 rfl (zdc 0 (hc3.below h.below) rfl (zd2 rfl ?_))
  obtain ⟨y2,hy2,hF,he2,b2,_,q2,cs4,hp2,hq2,rfl,hc4⟩:=s2.ix hF
  refine zdxe hp2 hq2 he2 rfl (zdc 0 (hc4.below h.below) rfl (zd1 rfl (dN h fun w2 h=>qh rfl hF ?_ ?_)))<;>intro hF
  ·refine X0 4 rfl ?_
   obtain rfl:=qa hF;replace hF:=hK1
   exact rb h hF rfl
  exact X0 7 rfl (rK ⟨_,hF,rfl,h⟩ rfl)
 refine qq rfl ?_
 obtain rfl:=qa hF;replace hF:=hK1
 exact X0 4 rfl (rb h hF rfl)
def qgw (_:Nat) (a:qF) (b:qF):Option Bool :=
 bif (a.Am.toList != b.Am.toList) then some false else
 bif (a.Bh != b.Bh) then some false else
 bif (a.Bg != b.Bg) then some false else
 bif (!(a.Ba==b.Ba)) then some false else
 some true
theorem qle {a:qF} {b:qF} (ha1:GoT.R w (old w) a cs1) (ha2:GoT.R w (old w) b cs2) {r:Bool} (hF:qgw n a b=some r):RetV Tryz.prog 304 [GoT.v qF cs1,GoT.v qF cs2] w r:=by
 obtain rfl:=qai ha1
 obtain rfl:=qai ha2
 refine zV 25 Tryz.func304 rfl fun h=>zSR (qy h rfl rfl fun w1 bb1 h=>qy h rfl rfl fun w2 bb2 h=>X2 11 1 0 h rfl (qh rfl hF ?_ ?_))<;>intro hF
 ·exact X0 4 rfl (rb h hF rfl)
 refine X2 10 1 0 h rfl (qh rfl hF ?_ ?_)<;>intro hF
 ·exact X0 4 rfl (rb h hF rfl)
 refine X2 10 1 0 h rfl (qh rfl hF ?_ ?_)<;>intro hF
 ·exact X0 4 rfl (rb h hF rfl)
 refine X2 10 1 0 h rfl (qh rfl hF ?_ ?_)<;>intro hF
 ·exact X0 4 rfl (rb h hF rfl)
 exact X0 5 rfl (rb h hF rfl)
def qd3 (a:(List qF)) (b:(List qF)):Nat→Int→Option (Flow Bool Int)
 | 0,_=>none
 | n+1,i1 =>
  bif decide (i1<(a.length:Int)) then
   (idx a i1).bind fun y1 =>
   (idx b i1).bind fun y2 =>
   (qgw n y1 y2).bind fun r1 =>
   bif (!r1) then some (.ret false) else
   qd3 a b n (W64 (i1+1))
  else
   some (.nxt i1)
def qgP (n:Nat) (a:(List qF)) (b:(List qF)):Option Bool :=
 bif ((a.length:Int) != (b.length:Int)) then some false else
 (qd3 a b n 0).bind fun o=>match o with
 | .ret r=>some r
 | .nxt _ =>
  some true
theorem qkE {a:(List qF)} {b:(List qF)} (ha1:GoT.R w (old w) a cs1) (ha2:GoT.R w (old w) b cs2) {r:Bool} (hF:qgP n a b=some r):RetV Tryz.prog 266 [GoT.v (List qF) cs1,GoT.v (List qF) cs2] w r:=by
 obtain ⟨p1,k1,rfl,s1⟩:=ha1
 obtain ⟨p2,k2,rfl,s2⟩:=ha2
 refine zV 27 Tryz.func266 rfl fun h=>X0 13 rfl (qh rfl hF ?_ ?_)<;>intro hF
 ·exact X0 4 rfl (rb h hF rfl)
 refine X0 6 rfl ?_
 obtain ⟨o1,hF,hK1⟩:=qf hF
 refine qm (rL (fun m e w'=>∃ (i1:Int),qd3 a b m i1=some o1∧e=[(0,.slice p1 a.length k1),(1,.slice p2 b.length k2),(5,.int .i64 i1)]∧SH w w' []) n ⟨_,hF,rfl,h⟩ rfl ?_)
 rintro m1 e1 w1 ⟨i1,hF,rfl,h⟩
 rcases m1 with _|m1
 ·cases hF
 refine X0 8 rfl (qh rfl hF ?_ ?_)<;>intro hF
 ·refine X0 4 rfl (rD (zd2 rfl ?_))
  obtain ⟨y1,hy1,hF,he1,b1,_,q1,cs3,hp1,hq1,hr1,hc3⟩:=s1.ix hF
  obtain rfl:=qai hr1
  refine zdxe hp1 hq1 he1 rfl (zdc 0 (hc3.below h.below) rfl (zd2 rfl ?_))
  obtain ⟨y2,hy2,hF,he2,b2,_,q2,cs4,hp2,hq2,hr2,hc4⟩:=s2.ix hF
  obtain rfl:=qai hr2
  refine zdxe hp2 hq2 he2 rfl (zdc 0 (hc4.below h.below) rfl ?_)
  obtain ⟨r1,hr3,hF⟩:=qf hF
  refine qbz r1 (vsB _) (cB 304 rfl) (fun _ hb=>qle (qb1 y1) (qb1 y2) hr3) rfl rfl rfl rfl (zd1 rfl (dN h fun w2 h=>qh rfl hF ?_ ?_))<;>intro hF
  ·refine X0 4 rfl ?_
   obtain rfl:=qa hF;replace hF:=hK1
   exact rb h hF rfl
  exact X0 7 rfl (rK ⟨_,hF,rfl,h⟩ rfl)
 refine qq rfl ?_
 obtain rfl:=qa hF;replace hF:=hK1
 exact X0 4 rfl (rb h hF rfl)
def qeU (n:Nat) (a:ql) (b:ql):Option Bool :=
 (qac n a.Ay b.Ay).bind fun r1 =>
 bif (!r1) then some false else
 (qac n a.Av b.Av).bind fun r2 =>
 bif (!r2) then some false else
 (qac n a.Ap b.Ap).bind fun r3 =>
 bif (!r3) then some false else
 some true
theorem qj6 {a:ql} {b:ql} (ha1:GoT.R w (old w) a cs1) (ha2:GoT.R w (old w) b cs2) {r:Bool} (hF:qeU n a b=some r):RetV Tryz.prog 339 [GoT.v ql cs1,GoT.v ql cs2] w r:=by
 obtain ⟨p1,k1,p2,k2,p3,k3,rfl,s1,s2,s3⟩:=qau ha1
 obtain ⟨p4,k4,p5,k5,p6,k6,rfl,s4,s5,s6⟩:=qau ha2
 refine zV 23 Tryz.func339 rfl fun h=>zSR (qy h rfl rfl fun w1 bb1 h=>qy h rfl rfl fun w2 bb2 h=>X2 9 1 0 h rfl (zcB h hF (qT ⟨_,_,rfl,(h.oldS s1)⟩ ⟨_,_,rfl,(h.oldS s4)⟩) rfl fun r1 w3 h hF=>X0 2 rfl (qh rfl hF ?_ ?_)))<;>intro hF
 ·exact X0 4 rfl (rb h hF rfl)
 refine X2 8 1 0 h rfl (zcB h hF (qT ⟨_,_,rfl,(h.oldS s2)⟩ ⟨_,_,rfl,(h.oldS s5)⟩) rfl fun r2 w4 h hF=>X0 2 rfl (qh rfl hF ?_ ?_))<;>intro hF
 ·exact X0 4 rfl (rb h hF rfl)
 refine X2 8 1 0 h rfl (zcB h hF (qT ⟨_,_,rfl,(h.oldS s3)⟩ ⟨_,_,rfl,(h.oldS s6)⟩) rfl fun r3 w5 h hF=>X0 2 rfl (qh rfl hF ?_ ?_))<;>intro hF
 ·exact X0 4 rfl (rb h hF rfl)
 exact X0 5 rfl (rb h hF rfl)
end Go.Fw


namespace Go.Fw
open Go Go.Proofs
open Go.RowKit (Below)
set_option maxRecDepth 100000
set_option maxHeartbeats 1600000
variable {n:Nat} {w:World} {cs1 cs2 cs3 cs4 cs5 cs6 cs7 cs8 cs9:List Value}
def qc9 (a:(List ql)) (b:(List ql)):Nat→Int→Option (Flow Bool Int)
 | 0,_=>none
 | n+1,i1 =>
  bif decide (i1<(a.length:Int)) then
   (idx a i1).bind fun y1 =>
   (idx b i1).bind fun y2 =>
   (qeU n y1 y2).bind fun r1 =>
   bif (!r1) then some (.ret false) else
   qc9 a b n (W64 (i1+1))
  else
   some (.nxt i1)
def qey (n:Nat) (a:(List ql)) (b:(List ql)):Option Bool :=
 bif ((a.length:Int) != (b.length:Int)) then some false else
 (qc9 a b n 0).bind fun o=>match o with
 | .ret r=>some r
 | .nxt _ =>
  some true
theorem qhb {a:(List ql)} {b:(List ql)} (ha1:GoT.R w (old w) a cs1) (ha2:GoT.R w (old w) b cs2) {r:Bool} (hF:qey n a b=some r):RetV Tryz.prog 324 [GoT.v (List ql) cs1,GoT.v (List ql) cs2] w r:=by
 obtain ⟨p1,k1,rfl,s1⟩:=ha1
 obtain ⟨p2,k2,rfl,s2⟩:=ha2
 refine zV 27 Tryz.func324 rfl fun h=>X0 13 rfl (qh rfl hF ?_ ?_)<;>intro hF
 ·exact X0 4 rfl (rb h hF rfl)
 refine X0 6 rfl ?_
 obtain ⟨o1,hF,hK1⟩:=qf hF
 refine qm (rL (fun m e w'=>∃ (i1:Int),qc9 a b m i1=some o1∧e=[(0,.slice p1 a.length k1),(1,.slice p2 b.length k2),(5,.int .i64 i1)]∧SH w w' []) n ⟨_,hF,rfl,h⟩ rfl ?_)
 rintro m1 e1 w1 ⟨i1,hF,rfl,h⟩
 rcases m1 with _|m1
 ·cases hF
 refine X0 8 rfl (qh rfl hF ?_ ?_)<;>intro hF
 ·refine X0 4 rfl (rD (zd2 rfl ?_))
  obtain ⟨y1,hy1,hF,he1,b1,_,q1,cs3,hp1,hq1,hr1,hc3⟩:=s1.ix hF
  obtain ⟨p3,k3,p4,k4,p5,k5,rfl,s3,s4,s5⟩:=qau hr1
  refine zdxe hp1 hq1 he1 rfl (zdc 0 (hc3.below h.below) rfl (zd2 rfl ?_))
  obtain ⟨y2,hy2,hF,he2,b2,_,q2,cs4,hp2,hq2,hr2,hc4⟩:=s2.ix hF
  obtain ⟨p6,k6,p7,k7,p8,k8,rfl,s6,s7,s8⟩:=qau hr2
  refine zdxe hp2 hq2 he2 rfl (zdc 0 (hc4.below h.below) rfl ?_)
  obtain ⟨r1,hr3,hF⟩:=qf hF
  refine qbz r1 (vsB _) (cB 339 rfl) (fun _ hb=>qj6 (qfd y1 ((h.ext hb).oldS s3) ((h.ext hb).oldS s4) ((h.ext hb).oldS s5)) (qfd y2 ((h.ext hb).oldS s6) ((h.ext hb).oldS s7) ((h.ext hb).oldS s8)) hr3) rfl rfl rfl rfl (zd1 rfl (dN h fun w2 h=>qh rfl hF ?_ ?_))<;>intro hF
  ·refine X0 4 rfl ?_
   obtain rfl:=qa hF;replace hF:=hK1
   exact rb h hF rfl
  exact X0 7 rfl (rK ⟨_,hF,rfl,h⟩ rfl)
 refine qq rfl ?_
 obtain rfl:=qa hF;replace hF:=hK1
 exact X0 4 rfl (rb h hF rfl)
def qgy (n:Nat) (a:qz) (b:qz):Option Bool :=
 bif (a.Ar != b.Ar) then some false else
 bif (a.Az != b.Az) then some false else
 bif (a.To != b.To) then some false else
 bif (a.Bc != b.Bc) then some false else
 (qey n a.At b.At).bind fun r1 =>
 bif (!r1) then some false else
 (qey n a.Bb b.Bb).bind fun r2 =>
 bif (!r2) then some false else
 some true
theorem qk6 {a:qz} {b:qz} (ha1:GoT.R w (old w) a cs1) (ha2:GoT.R w (old w) b cs2) {r:Bool} (hF:qgy n a b=some r):RetV Tryz.prog 305 [GoT.v qz cs1,GoT.v qz cs2] w r:=by
 obtain ⟨p1,k1,p2,k2,rfl,s1,s2⟩:=qaa ha1
 obtain ⟨p3,k3,p4,k4,rfl,s3,s4⟩:=qaa ha2
 refine zV 37 Tryz.func305 rfl fun h=>zSR (qy h rfl rfl fun w1 bb1 h=>qy h rfl rfl fun w2 bb2 h=>X2 11 1 0 h rfl (qh rfl hF ?_ ?_))<;>intro hF
 ·exact X0 4 rfl (rb h hF rfl)
 refine X2 10 1 0 h rfl (qh rfl hF ?_ ?_)<;>intro hF
 ·exact X0 4 rfl (rb h hF rfl)
 refine X2 10 1 0 h rfl (qh rfl hF ?_ ?_)<;>intro hF
 ·exact X0 4 rfl (rb h hF rfl)
 refine X2 10 1 0 h rfl (qh rfl hF ?_ ?_)<;>intro hF
 ·exact X0 4 rfl (rb h hF rfl)
 refine X2 8 1 0 h rfl (zcB h hF (qhb ⟨_,_,rfl,(h.oldS s1)⟩ ⟨_,_,rfl,(h.oldS s3)⟩) rfl fun r1 w3 h hF=>X0 2 rfl (qh rfl hF ?_ ?_))<;>intro hF
 ·exact X0 4 rfl (rb h hF rfl)
 refine X2 8 1 0 h rfl (zcB h hF (qhb ⟨_,_,rfl,(h.oldS s2)⟩ ⟨_,_,rfl,(h.oldS s4)⟩) rfl fun r2 w4 h hF=>X0 2 rfl (qh rfl hF ?_ ?_))<;>intro hF
 ·exact X0 4 rfl (rb h hF rfl)
 exact X0 5 rfl (rb h hF rfl)
def qd4 (a:(List qz)) (b:(List qz)):Nat→Int→Option (Flow Bool Int)
 | 0,_=>none
 | n+1,i1 =>
  bif decide (i1<(a.length:Int)) then
   (idx a i1).bind fun y1 =>
   (idx b i1).bind fun y2 =>
   (qgy n y1 y2).bind fun r1 =>
   bif (!r1) then some (.ret false) else
   qd4 a b n (W64 (i1+1))
  else
   some (.nxt i1)
def qgR (n:Nat) (a:(List qz)) (b:(List qz)):Option Bool :=
 bif ((a.length:Int) != (b.length:Int)) then some false else
 (qd4 a b n 0).bind fun o=>match o with
 | .ret r=>some r
 | .nxt _ =>
  some true
theorem qkW {a:(List qz)} {b:(List qz)} (ha1:GoT.R w (old w) a cs1) (ha2:GoT.R w (old w) b cs2) {r:Bool} (hF:qgR n a b=some r):RetV Tryz.prog 267 [GoT.v (List qz) cs1,GoT.v (List qz) cs2] w r:=by
 obtain ⟨p1,k1,rfl,s1⟩:=ha1
 obtain ⟨p2,k2,rfl,s2⟩:=ha2
 refine zV 27 Tryz.func267 rfl fun h=>X0 13 rfl (qh rfl hF ?_ ?_)<;>intro hF
 ·exact X0 4 rfl (rb h hF rfl)
 refine X0 6 rfl ?_
 obtain ⟨o1,hF,hK1⟩:=qf hF
 refine qm (rL (fun m e w'=>∃ (i1:Int),qd4 a b m i1=some o1∧e=[(0,.slice p1 a.length k1),(1,.slice p2 b.length k2),(5,.int .i64 i1)]∧SH w w' []) n ⟨_,hF,rfl,h⟩ rfl ?_)
 rintro m1 e1 w1 ⟨i1,hF,rfl,h⟩
 rcases m1 with _|m1
 ·cases hF
 refine X0 8 rfl (qh rfl hF ?_ ?_)<;>intro hF
 ·refine X0 4 rfl (rD (zd2 rfl ?_))
  obtain ⟨y1,hy1,hF,he1,b1,_,q1,cs3,hp1,hq1,hr1,hc3⟩:=s1.ix hF
  obtain ⟨p3,k3,p4,k4,rfl,s3,s4⟩:=qaa hr1
  refine zdxe hp1 hq1 he1 rfl (zdc 0 (hc3.below h.below) rfl (zd2 rfl ?_))
  obtain ⟨y2,hy2,hF,he2,b2,_,q2,cs4,hp2,hq2,hr2,hc4⟩:=s2.ix hF
  obtain ⟨p5,k5,p6,k6,rfl,s5,s6⟩:=qaa hr2
  refine zdxe hp2 hq2 he2 rfl (zdc 0 (hc4.below h.below) rfl ?_)
  obtain ⟨r1,hr3,hF⟩:=qf hF
  refine qbz r1 (vsB _) (cB 305 rfl) (fun _ hb=>qk6 (qeW y1 ((h.ext hb).oldS s3) ((h.ext hb).oldS s4)) (qeW y2 ((h.ext hb).oldS s5) ((h.ext hb).oldS s6)) hr3) rfl rfl rfl rfl (zd1 rfl (dN h fun w2 h=>qh rfl hF ?_ ?_))<;>intro hF
  ·refine X0 4 rfl ?_
   obtain rfl:=qa hF;replace hF:=hK1
   exact rb h hF rfl
  exact X0 7 rfl (rK ⟨_,hF,rfl,h⟩ rfl)
 refine qq rfl ?_
 obtain rfl:=qa hF;replace hF:=hK1
 exact X0 4 rfl (rb h hF rfl)
def qfQ (n:Nat) (a:qk) (b:qk):Option Bool :=
 bif (a.Am.toList != b.Am.toList) then some false else
 bif (a.Ar != b.Ar) then some false else
 (qgP n a.Ai b.Ai).bind fun r1 =>
 bif (!r1) then some false else
 (qgR n a.Ak b.Ak).bind fun r2 =>
 bif (!r2) then some false else
 (qac n a.Au b.Au).bind fun r3 =>
 bif (!r3) then some false else
 bif (a.Bl != b.Bl) then some false else
 bif (a.Bf != b.Bf) then some false else
 some true
theorem qkx {a:qk} {b:qk} (ha1:GoT.R w (old w) a cs1) (ha2:GoT.R w (old w) b cs2) {r:Bool} (hF:qfQ n a b=some r):RetV Tryz.prog 221 [GoT.v qk cs1,GoT.v qk cs2] w r:=by
 obtain ⟨p1,k1,p2,k2,p3,k3,rfl,s1,s2,s3⟩:=qI ha1
 obtain ⟨p4,k4,p5,k5,p6,k6,rfl,s4,s5,s6⟩:=qI ha2
 refine zV 43 Tryz.func221 rfl fun h=>zSR (qy h rfl rfl fun w1 bb1 h=>qy h rfl rfl fun w2 bb2 h=>X2 11 1 0 h rfl (qh rfl hF ?_ ?_))<;>intro hF
 ·exact X0 4 rfl (rb h hF rfl)
 refine X2 10 1 0 h rfl (qh rfl hF ?_ ?_)<;>intro hF
 ·exact X0 4 rfl (rb h hF rfl)
 refine X2 8 1 0 h rfl (zcB h hF (qkE ⟨_,_,rfl,(h.oldS s1)⟩ ⟨_,_,rfl,(h.oldS s4)⟩) rfl fun r1 w3 h hF=>X0 2 rfl (qh rfl hF ?_ ?_))<;>intro hF
 ·exact X0 4 rfl (rb h hF rfl)
 refine X2 8 1 0 h rfl (zcB h hF (qkW ⟨_,_,rfl,(h.oldS s2)⟩ ⟨_,_,rfl,(h.oldS s5)⟩) rfl fun r2 w4 h hF=>X0 2 rfl (qh rfl hF ?_ ?_))<;>intro hF
 ·exact X0 4 rfl (rb h hF rfl)
 refine X2 8 1 0 h rfl (zcB h hF (qT ⟨_,_,rfl,(h.oldS s3)⟩ ⟨_,_,rfl,(h.oldS s6)⟩) rfl fun r3 w5 h hF=>X0 2 rfl (qh rfl hF ?_ ?_))<;>intro hF
 ·exact X0 4 rfl (rb h hF rfl)
 refine X2 10 1 0 h rfl (qh rfl hF ?_ ?_)<;>intro hF
 ·exact X0 4 rfl (rb h hF rfl)
 refine X2 10 1 0 h rfl (qh rfl hF ?_ ?_)<;>intro hF
 ·exact X0 4 rfl (rb h hF rfl)
 exact X0 5 rfl (rb h hF rfl)
def qdG (a:(List qk)) (b:(List qk)):Nat→Int→Option (Flow Bool Int)
 | 0,_=>none
 | n+1,i1 =>
  bif decide (i1<(a.length:Int)) then
   (idx a i1).bind fun y1 =>
   (idx b i1).bind fun y2 =>
   (qfQ n y1 y2).bind fun r1 =>
   bif (!r1) then some (.ret false) else
   qdG a b n (W64 (i1+1))
  else
   some (.nxt i1)
def qf9 (n:Nat) (a:(List qk)) (b:(List qk)):Option Bool :=
 bif ((a.length:Int) != (b.length:Int)) then some false else
 (qdG a b n 0).bind fun o=>match o with
 | .ret r=>some r
 | .nxt _ =>
  some true
theorem qjV {a:(List qk)} {b:(List qk)} (ha1:GoT.R w (old w) a cs1) (ha2:GoT.R w (old w) b cs2) {r:Bool} (hF:qf9 n a b=some r):RetV Tryz.prog 146 [GoT.v (List qk) cs1,GoT.v (List qk) cs2] w r:=by
 obtain ⟨p1,k1,rfl,s1⟩:=ha1
 obtain ⟨p2,k2,rfl,s2⟩:=ha2
 refine zV 27 Tryz.func146 rfl fun h=>X0 13 rfl (qh rfl hF ?_ ?_)<;>intro hF
 ·exact X0 4 rfl (rb h hF rfl)
 refine X0 6 rfl ?_
 obtain ⟨o1,hF,hK1⟩:=qf hF
 refine qm (rL (fun m e w'=>∃ (i1:Int),qdG a b m i1=some o1∧e=[(0,.slice p1 a.length k1),(1,.slice p2 b.length k2),(5,.int .i64 i1)]∧SH w w' []) n ⟨_,hF,rfl,h⟩ rfl ?_)
 rintro m1 e1 w1 ⟨i1,hF,rfl,h⟩
 rcases m1 with _|m1
 ·cases hF
 refine X0 8 rfl (qh rfl hF ?_ ?_)<;>intro hF
 ·refine X0 4 rfl (rD (zd2 rfl ?_))
  obtain ⟨y1,hy1,hF,he1,b1,_,q1,cs3,hp1,hq1,hr1,hc3⟩:=s1.ix hF
  obtain ⟨p3,k3,p4,k4,p5,k5,rfl,s3,s4,s5⟩:=qI hr1
  refine zdxe hp1 hq1 he1 rfl (zdc 0 (hc3.below h.below) rfl (zd2 rfl ?_))
  obtain ⟨y2,hy2,hF,he2,b2,_,q2,cs4,hp2,hq2,hr2,hc4⟩:=s2.ix hF
  obtain ⟨p6,k6,p7,k7,p8,k8,rfl,s6,s7,s8⟩:=qI hr2
  refine zdxe hp2 hq2 he2 rfl (zdc 0 (hc4.below h.below) rfl ?_)
  obtain ⟨r1,hr3,hF⟩:=qf hF
  refine qbz r1 (vsB _) (cB 221 rfl) (fun _ hb=>qkx (qgl y1 ((h.ext hb).oldS s3) ((h.ext hb).oldS s4) ((h.ext hb).oldS s5)) (qgl y2 ((h.ext hb).oldS s6) ((h.ext hb).oldS s7) ((h.ext hb).oldS s8)) hr3) rfl rfl rfl rfl (zd1 rfl (dN h fun w2 h=>qh rfl hF ?_ ?_))<;>intro hF
  ·refine X0 4 rfl ?_
   obtain rfl:=qa hF;replace hF:=hK1
   exact rb h hF rfl
  exact X0 7 rfl (rK ⟨_,hF,rfl,h⟩ rfl)
 refine qq rfl ?_
 obtain rfl:=qa hF;replace hF:=hK1
 exact X0 4 rfl (rb h hF rfl)
def qeT (n:Nat) (a:qn) (b:qn):Option Bool :=
 (qf9 n a.Aj b.Aj).bind fun r1 =>
 bif (!r1) then some false else
 some true
theorem qi8 {a:qn} {b:qn} (ha1:GoT.R w (old w) a cs1) (ha2:GoT.R w (old w) b cs2) {r:Bool} (hF:qeT n a b=some r):RetV Tryz.prog 63 [GoT.v qn cs1,GoT.v qn cs2] w r:=by
 obtain ⟨p1,k1,rfl,s1⟩:=qa0 ha1
 obtain ⟨p2,k2,rfl,s2⟩:=qa0 ha2
 refine zV 11 Tryz.func63 rfl fun h=>zSR (qy h rfl rfl fun w1 bb1 h=>qy h rfl rfl fun w2 bb2 h=>X2 9 1 0 h rfl (zcB h hF (qjV ⟨_,_,rfl,(h.oldS s1)⟩ ⟨_,_,rfl,(h.oldS s2)⟩) rfl fun r1 w3 h hF=>X0 2 rfl (qh rfl hF ?_ ?_)))<;>intro hF
 ·exact X0 4 rfl (rb h hF rfl)
 exact X0 5 rfl (rb h hF rfl)
def qdJ (n:Nat) (a:qc) (b:qc):Option Bool :=
 bif (a.Am.toList != b.Am.toList) then some false else
 bif (a.Bj != b.Bj) then some false else
 (qac n a.Ac b.Ac).bind fun r1 =>
 bif (!r1) then some false else
 some true
theorem qix {a:qc} {b:qc} (ha1:GoT.R w (old w) a cs1) (ha2:GoT.R w (old w) b cs2) {r:Bool} (hF:qdJ n a b=some r):RetV Tryz.prog 222 [GoT.v qc cs1,GoT.v qc cs2] w r:=by
 obtain ⟨p1,k1,rfl,s1⟩:=qJ ha1
 obtain ⟨p2,k2,rfl,s2⟩:=qJ ha2
 refine zV 21 Tryz.func222 rfl fun h=>zSR (qy h rfl rfl fun w1 bb1 h=>qy h rfl rfl fun w2 bb2 h=>X2 11 1 0 h rfl (qh rfl hF ?_ ?_))<;>intro hF
 ·exact X0 4 rfl (rb h hF rfl)
 refine X2 10 1 0 h rfl (qh rfl hF ?_ ?_)<;>intro hF
 ·exact X0 4 rfl (rb h hF rfl)
 refine X2 8 1 0 h rfl (zcB h hF (qT ⟨_,_,rfl,(h.oldS s1)⟩ ⟨_,_,rfl,(h.oldS s2)⟩) rfl fun r1 w3 h hF=>X0 2 rfl (qh rfl hF ?_ ?_))<;>intro hF
 ·exact X0 4 rfl (rb h hF rfl)
 exact X0 5 rfl (rb h hF rfl)
def qb3 (a:(List qc)) (b:(List qc)):Nat→Int→Option (Flow Bool Int)
 | 0,_=>none
 | n+1,i1 =>
  bif decide (i1<(a.length:Int)) then
   (idx a i1).bind fun y1 =>
   (idx b i1).bind fun y2 =>
   (qdJ n y1 y2).bind fun r1 =>
   bif (!r1) then some (.ret false) else
   qb3 a b n (W64 (i1+1))
  else
   some (.nxt i1)
def qee (n:Nat) (a:(List qc)) (b:(List qc)):Option Bool :=
 bif ((a.length:Int) != (b.length:Int)) then some false else
 (qb3 a b n 0).bind fun o=>match o with
 | .ret r=>some r
 | .nxt _ =>
  some true
theorem qil {a:(List qc)} {b:(List qc)} (ha1:GoT.R w (old w) a cs1) (ha2:GoT.R w (old w) b cs2) {r:Bool} (hF:qee n a b=some r):RetV Tryz.prog 147 [GoT.v (List qc) cs1,GoT.v (List qc) cs2] w r:=by
 obtain ⟨p1,k1,rfl,s1⟩:=ha1
 obtain ⟨p2,k2,rfl,s2⟩:=ha2
 refine zV 27 Tryz.func147 rfl fun h=>X0 13 rfl (qh rfl hF ?_ ?_)<;>intro hF
 ·exact X0 4 rfl (rb h hF rfl)
 refine X0 6 rfl ?_
 obtain ⟨o1,hF,hK1⟩:=qf hF
 refine qm (rL (fun m e w'=>∃ (i1:Int),qb3 a b m i1=some o1∧e=[(0,.slice p1 a.length k1),(1,.slice p2 b.length k2),(5,.int .i64 i1)]∧SH w w' []) n ⟨_,hF,rfl,h⟩ rfl ?_)
 rintro m1 e1 w1 ⟨i1,hF,rfl,h⟩
 rcases m1 with _|m1
 ·cases hF
 refine X0 8 rfl (qh rfl hF ?_ ?_)<;>intro hF
 ·refine X0 4 rfl (rD (zd2 rfl ?_))
  obtain ⟨y1,hy1,hF,he1,b1,_,q1,cs3,hp1,hq1,hr1,hc3⟩:=s1.ix hF
  obtain ⟨p3,k3,rfl,s3⟩:=qJ hr1
  refine zdxe hp1 hq1 he1 rfl (zdc 0 (hc3.below h.below) rfl (zd2 rfl ?_))
  obtain ⟨y2,hy2,hF,he2,b2,_,q2,cs4,hp2,hq2,hr2,hc4⟩:=s2.ix hF
  obtain ⟨p4,k4,rfl,s4⟩:=qJ hr2
  refine zdxe hp2 hq2 he2 rfl (zdc 0 (hc4.below h.below) rfl ?_)
  obtain ⟨r1,hr3,hF⟩:=qf hF
  refine qbz r1 (vsB _) (cB 222 rfl) (fun _ hb=>qix (qev y1 ((h.ext hb).oldS s3)) (qev y2 ((h.ext hb).oldS s4)) hr3) rfl rfl rfl rfl (zd1 rfl (dN h fun w2 h=>qh rfl hF ?_ ?_))<;>intro hF
  ·refine X0 4 rfl ?_
   obtain rfl:=qa hF;replace hF:=hK1
   exact rb h hF rfl
  exact X0 7 rfl (rK ⟨_,hF,rfl,h⟩ rfl)
 refine qq rfl ?_
 obtain rfl:=qa hF;replace hF:=hK1
 exact X0 4 rfl (rb h hF rfl)
def qcP (a:(List ByteArray)) (b:(List ByteArray)):Nat→Int→Option (Flow Bool Int)
 | 0,_=>none
 | n+1,i1 =>
  bif decide (i1<(a.length:Int)) then
   (idx a i1).bind fun y1 =>
   (idx b i1).bind fun y2 =>
   bif (y1.toList != y2.toList) then some (.ret false) else
   qcP a b n (W64 (i1+1))
  else
   some (.nxt i1)
def qfa (n:Nat) (a:(List ByteArray)) (b:(List ByteArray)):Option Bool :=
 bif ((a.length:Int) != (b.length:Int)) then some false else
 (qcP a b n 0).bind fun o=>match o with
 | .ret r=>some r
 | .nxt _ =>
  some true
theorem qiV {a:(List ByteArray)} {b:(List ByteArray)} (ha1:GoT.R w (old w) a cs1) (ha2:GoT.R w (old w) b cs2) {r:Bool} (hF:qfa n a b=some r):RetV Tryz.prog 148 [GoT.v (List ByteArray) cs1,GoT.v (List ByteArray) cs2] w r:=by
 obtain ⟨p1,k1,rfl,s1⟩:=ha1
 obtain ⟨p2,k2,rfl,s2⟩:=ha2
 refine zV 26 Tryz.func148 rfl fun h=>X0 13 rfl (qh rfl hF ?_ ?_)<;>intro hF
 ·exact X0 4 rfl (rb h hF rfl)
 refine X0 6 rfl ?_
 obtain ⟨o1,hF,hK1⟩:=qf hF
 refine qm (rL (fun m e w'=>∃ (i1:Int),qcP a b m i1=some o1∧e=[(0,.slice p1 a.length k1),(1,.slice p2 b.length k2),(5,.int .i64 i1)]∧SH w w' []) n ⟨_,hF,rfl,h⟩ rfl ?_)
 rintro m1 e1 w1 ⟨i1,hF,rfl,h⟩
 rcases m1 with _|m1
 ·cases hF
 refine X0 8 rfl (qh rfl hF ?_ ?_)<;>intro hF
 ·refine X0 4 rfl (rD (zd2 rfl ?_))
  obtain ⟨y1,hy1,hF,he1,b1,_,q1,cs3,hp1,hq1,rfl,hc3⟩:=s1.ix hF
  refine zdxe hp1 hq1 he1 rfl (zdc 0 (hc3.below h.below) rfl (zd2 rfl ?_))
  obtain ⟨y2,hy2,hF,he2,b2,_,q2,cs4,hp2,hq2,rfl,hc4⟩:=s2.ix hF
  refine zdxe hp2 hq2 he2 rfl (zdc 0 (hc4.below h.below) rfl (zd1 rfl (dN h fun w2 h=>qh rfl hF ?_ ?_)))<;>intro hF
  ·refine X0 4 rfl ?_
   obtain rfl:=qa hF;replace hF:=hK1
   exact rb h hF rfl
  exact X0 7 rfl (rK ⟨_,hF,rfl,h⟩ rfl)
 refine qq rfl ?_
 obtain rfl:=qa hF;replace hF:=hK1
 exact X0 4 rfl (rb h hF rfl)
def qfE (_:Nat) (a:qu) (b:qu):Option Bool :=
 bif (a.Am.toList != b.Am.toList) then some false else
 bif (a.Bh != b.Bh) then some false else
 bif (a.Bk != b.Bk) then some false else
 some true
theorem qkI {a:qu} {b:qu} (ha1:GoT.R w (old w) a cs1) (ha2:GoT.R w (old w) b cs2) {r:Bool} (hF:qfE n a b=some r):RetV Tryz.prog 223 [GoT.v qu cs1,GoT.v qu cs2] w r:=by
 obtain rfl:=qX ha1
 obtain rfl:=qX ha2
 refine zV 20 Tryz.func223 rfl fun h=>zSR (qy h rfl rfl fun w1 bb1 h=>qy h rfl rfl fun w2 bb2 h=>X2 11 1 0 h rfl (qh rfl hF ?_ ?_))<;>intro hF
 ·exact X0 4 rfl (rb h hF rfl)
 refine X2 10 1 0 h rfl (qh rfl hF ?_ ?_)<;>intro hF
 ·exact X0 4 rfl (rb h hF rfl)
 refine X2 10 1 0 h rfl (qh rfl hF ?_ ?_)<;>intro hF
 ·exact X0 4 rfl (rb h hF rfl)
 exact X0 5 rfl (rb h hF rfl)
def qdL (a:(List qu)) (b:(List qu)):Nat→Int→Option (Flow Bool Int)
 | 0,_=>none
 | n+1,i1 =>
  bif decide (i1<(a.length:Int)) then
   (idx a i1).bind fun y1 =>
   (idx b i1).bind fun y2 =>
   (qfE n y1 y2).bind fun r1 =>
   bif (!r1) then some (.ret false) else
   qdL a b n (W64 (i1+1))
  else
   some (.nxt i1)
def qgc (n:Nat) (a:(List qu)) (b:(List qu)):Option Bool :=
 bif ((a.length:Int) != (b.length:Int)) then some false else
 (qdL a b n 0).bind fun o=>match o with
 | .ret r=>some r
 | .nxt _ =>
  some true
theorem qkc {a:(List qu)} {b:(List qu)} (ha1:GoT.R w (old w) a cs1) (ha2:GoT.R w (old w) b cs2) {r:Bool} (hF:qgc n a b=some r):RetV Tryz.prog 149 [GoT.v (List qu) cs1,GoT.v (List qu) cs2] w r:=by
 obtain ⟨p1,k1,rfl,s1⟩:=ha1
 obtain ⟨p2,k2,rfl,s2⟩:=ha2
 refine zV 27 Tryz.func149 rfl fun h=>X0 13 rfl (qh rfl hF ?_ ?_)<;>intro hF
 ·exact X0 4 rfl (rb h hF rfl)
 refine X0 6 rfl ?_
 obtain ⟨o1,hF,hK1⟩:=qf hF
 refine qm (rL (fun m e w'=>∃ (i1:Int),qdL a b m i1=some o1∧e=[(0,.slice p1 a.length k1),(1,.slice p2 b.length k2),(5,.int .i64 i1)]∧SH w w' []) n ⟨_,hF,rfl,h⟩ rfl ?_)
 rintro m1 e1 w1 ⟨i1,hF,rfl,h⟩
 rcases m1 with _|m1
 ·cases hF
 refine X0 8 rfl (qh rfl hF ?_ ?_)<;>intro hF
 ·refine X0 4 rfl (rD (zd2 rfl ?_))
  obtain ⟨y1,hy1,hF,he1,b1,_,q1,cs3,hp1,hq1,hr1,hc3⟩:=s1.ix hF
  obtain rfl:=qX hr1
  refine zdxe hp1 hq1 he1 rfl (zdc 0 (hc3.below h.below) rfl (zd2 rfl ?_))
  obtain ⟨y2,hy2,hF,he2,b2,_,q2,cs4,hp2,hq2,hr2,hc4⟩:=s2.ix hF
  obtain rfl:=qX hr2
  refine zdxe hp2 hq2 he2 rfl (zdc 0 (hc4.below h.below) rfl ?_)
  obtain ⟨r1,hr3,hF⟩:=qf hF
  refine qbz r1 (vsB _) (cB 223 rfl) (fun _ hb=>qkI (qcf y1) (qcf y2) hr3) rfl rfl rfl rfl (zd1 rfl (dN h fun w2 h=>qh rfl hF ?_ ?_))<;>intro hF
  ·refine X0 4 rfl ?_
   obtain rfl:=qa hF;replace hF:=hK1
   exact rb h hF rfl
  exact X0 7 rfl (rK ⟨_,hF,rfl,h⟩ rfl)
 refine qq rfl ?_
 obtain rfl:=qa hF;replace hF:=hK1
 exact X0 4 rfl (rb h hF rfl)
def qfz (n:Nat) (a:qd) (b:qd):Option Bool :=
 (qee n a.Aa b.Aa).bind fun r1 =>
 bif (!r1) then some false else
 (qfa n a.Ac b.Ac).bind fun r2 =>
 bif (!r2) then some false else
 (qgc n a.Af b.Af).bind fun r3 =>
 bif (!r3) then some false else
 some true
theorem qjB {a:qd} {b:qd} (ha1:GoT.R w (old w) a cs1) (ha2:GoT.R w (old w) b cs2) {r:Bool} (hF:qfz n a b=some r):RetV Tryz.prog 64 [GoT.v qd cs1,GoT.v qd cs2] w r:=by
 obtain ⟨p1,k1,p2,k2,p3,k3,rfl,s1,s2,s3⟩:=qag ha1
 obtain ⟨p4,k4,p5,k5,p6,k6,rfl,s4,s5,s6⟩:=qag ha2
 refine zV 23 Tryz.func64 rfl fun h=>zSR (qy h rfl rfl fun w1 bb1 h=>qy h rfl rfl fun w2 bb2 h=>X2 9 1 0 h rfl (zcB h hF (qil ⟨_,_,rfl,(h.oldS s1)⟩ ⟨_,_,rfl,(h.oldS s4)⟩) rfl fun r1 w3 h hF=>X0 2 rfl (qh rfl hF ?_ ?_)))<;>intro hF
 ·exact X0 4 rfl (rb h hF rfl)
 refine X2 8 1 0 h rfl (zcB h hF (qiV ⟨_,_,rfl,(h.oldS s2)⟩ ⟨_,_,rfl,(h.oldS s5)⟩) rfl fun r2 w4 h hF=>X0 2 rfl (qh rfl hF ?_ ?_))<;>intro hF
 ·exact X0 4 rfl (rb h hF rfl)
 refine X2 8 1 0 h rfl (zcB h hF (qkc ⟨_,_,rfl,(h.oldS s3)⟩ ⟨_,_,rfl,(h.oldS s6)⟩) rfl fun r3 w5 h hF=>X0 2 rfl (qh rfl hF ?_ ?_))<;>intro hF
 ·exact X0 4 rfl (rb h hF rfl)
 exact X0 5 rfl (rb h hF rfl)
def qfM (n:Nat) (a:qr) (b:qr):Option Bool :=
 (qac n a.Ah b.Ah).bind fun r1 =>
 bif (!r1) then some false else
 (qac n a.Bi b.Bi).bind fun r2 =>
 bif (!r2) then some false else
 (qac n a.Bg b.Bg).bind fun r3 =>
 bif (!r3) then some false else
 (qac n a.Be b.Be).bind fun r4 =>
 bif (!r4) then some false else
 some true
theorem qki {a:qr} {b:qr} (ha1:GoT.R w (old w) a cs1) (ha2:GoT.R w (old w) b cs2) {r:Bool} (hF:qfM n a b=some r):RetV Tryz.prog 150 [GoT.v qr cs1,GoT.v qr cs2] w r:=by
 obtain ⟨p1,k1,p2,k2,p3,k3,p4,k4,rfl,s1,s2,s3,s4⟩:=qaS ha1
 obtain ⟨p5,k5,p6,k6,p7,k7,p8,k8,rfl,s5,s6,s7,s8⟩:=qaS ha2
 refine zV 29 Tryz.func150 rfl fun h=>zSR (qy h rfl rfl fun w1 bb1 h=>qy h rfl rfl fun w2 bb2 h=>X2 9 1 0 h rfl (zcB h hF (qT ⟨_,_,rfl,(h.oldS s1)⟩ ⟨_,_,rfl,(h.oldS s5)⟩) rfl fun r1 w3 h hF=>X0 2 rfl (qh rfl hF ?_ ?_)))<;>intro hF
 ·exact X0 4 rfl (rb h hF rfl)
 refine X2 8 1 0 h rfl (zcB h hF (qT ⟨_,_,rfl,(h.oldS s2)⟩ ⟨_,_,rfl,(h.oldS s6)⟩) rfl fun r2 w4 h hF=>X0 2 rfl (qh rfl hF ?_ ?_))<;>intro hF
 ·exact X0 4 rfl (rb h hF rfl)
 refine X2 8 1 0 h rfl (zcB h hF (qT ⟨_,_,rfl,(h.oldS s3)⟩ ⟨_,_,rfl,(h.oldS s7)⟩) rfl fun r3 w5 h hF=>X0 2 rfl (qh rfl hF ?_ ?_))<;>intro hF
 ·exact X0 4 rfl (rb h hF rfl)
 refine X2 8 1 0 h rfl (zcB h hF (qT ⟨_,_,rfl,(h.oldS s4)⟩ ⟨_,_,rfl,(h.oldS s8)⟩) rfl fun r4 w6 h hF=>X0 2 rfl (qh rfl hF ?_ ?_))<;>intro hF
 ·exact X0 4 rfl (rb h hF rfl)
 exact X0 5 rfl (rb h hF rfl)
def qdF (a:(List qr)) (b:(List qr)):Nat→Int→Option (Flow Bool Int)
 | 0,_=>none
 | n+1,i1 =>
  bif decide (i1<(a.length:Int)) then
   (idx a i1).bind fun y1 =>
   (idx b i1).bind fun y2 =>
   (qfM n y1 y2).bind fun r1 =>
   bif (!r1) then some (.ret false) else
   qdF a b n (W64 (i1+1))
  else
   some (.nxt i1)
def qf2 (n:Nat) (a:(List qr)) (b:(List qr)):Option Bool :=
 bif ((a.length:Int) != (b.length:Int)) then some false else
 (qdF a b n 0).bind fun o=>match o with
 | .ret r=>some r
 | .nxt _ =>
  some true
theorem qjY {a:(List qr)} {b:(List qr)} (ha1:GoT.R w (old w) a cs1) (ha2:GoT.R w (old w) b cs2) {r:Bool} (hF:qf2 n a b=some r):RetV Tryz.prog 65 [GoT.v (List qr) cs1,GoT.v (List qr) cs2] w r:=by
 obtain ⟨p1,k1,rfl,s1⟩:=ha1
 obtain ⟨p2,k2,rfl,s2⟩:=ha2
 refine zV 27 Tryz.func65 rfl fun h=>X0 13 rfl (qh rfl hF ?_ ?_)<;>intro hF
 ·exact X0 4 rfl (rb h hF rfl)
 refine X0 6 rfl ?_
 obtain ⟨o1,hF,hK1⟩:=qf hF
 refine qm (rL (fun m e w'=>∃ (i1:Int),qdF a b m i1=some o1∧e=[(0,.slice p1 a.length k1),(1,.slice p2 b.length k2),(5,.int .i64 i1)]∧SH w w' []) n ⟨_,hF,rfl,h⟩ rfl ?_)
 rintro m1 e1 w1 ⟨i1,hF,rfl,h⟩
 rcases m1 with _|m1
 ·cases hF
 refine X0 8 rfl (qh rfl hF ?_ ?_)<;>intro hF
 ·refine X0 4 rfl (rD (zd2 rfl ?_))
  obtain ⟨y1,hy1,hF,he1,b1,_,q1,cs3,hp1,hq1,hr1,hc3⟩:=s1.ix hF
  obtain ⟨p3,k3,p4,k4,p5,k5,p6,k6,rfl,s3,s4,s5,s6⟩:=qaS hr1
  refine zdxe hp1 hq1 he1 rfl (zdc 0 (hc3.below h.below) rfl (zd2 rfl ?_))
  obtain ⟨y2,hy2,hF,he2,b2,_,q2,cs4,hp2,hq2,hr2,hc4⟩:=s2.ix hF
  obtain ⟨p7,k7,p8,k8,p9,k9,p10,k10,rfl,s7,s8,s9,s10⟩:=qaS hr2
  refine zdxe hp2 hq2 he2 rfl (zdc 0 (hc4.below h.below) rfl ?_)
  obtain ⟨r1,hr3,hF⟩:=qf hF
  refine qbz r1 (vsB _) (cB 150 rfl) (fun _ hb=>qki (qgn y1 ((h.ext hb).oldS s3) ((h.ext hb).oldS s4) ((h.ext hb).oldS s5) ((h.ext hb).oldS s6)) (qgn y2 ((h.ext hb).oldS s7) ((h.ext hb).oldS s8) ((h.ext hb).oldS s9) ((h.ext hb).oldS s10)) hr3) rfl rfl rfl rfl (zd1 rfl (dN h fun w2 h=>qh rfl hF ?_ ?_))<;>intro hF
  ·refine X0 4 rfl ?_
   obtain rfl:=qa hF;replace hF:=hK1
   exact rb h hF rfl
  exact X0 7 rfl (rK ⟨_,hF,rfl,h⟩ rfl)
 refine qq rfl ?_
 obtain rfl:=qa hF;replace hF:=hK1
 exact X0 4 rfl (rb h hF rfl)
def qgj (n:Nat) (a:qp) (b:qp):Option Bool :=
 (qeT n (⟨a.As.Aj⟩:qn) (⟨b.As.Aj⟩:qn)).bind fun r1 =>
 bif (!r1) then some false else
 (qfz n (⟨a.Ab.Aa,a.Ab.Ac,a.Ab.Af⟩:qd) (⟨b.Ab.Aa,b.Ab.Ac,b.Ab.Af⟩:qd)).bind fun r2 =>
 bif (!r2) then some false else
 (qf2 n a.Aq b.Aq).bind fun r3 =>
 bif (!r3) then some false else
 some true
theorem qj3 {a:qp} {b:qp} (ha1:GoT.R w (old w) a cs1) (ha2:GoT.R w (old w) b cs2) {r:Bool} (hF:qgj n a b=some r):RetV Tryz.prog 17 [GoT.v qp cs1,GoT.v qp cs2] w r:=by
 obtain ⟨p1,k1,p2,k2,p3,k3,p4,k4,p5,k5,rfl,s1,s2,s3,s4,s5⟩:=qay ha1
 obtain ⟨p6,k6,p7,k7,p8,k8,p9,k9,p10,k10,rfl,s6,s7,s8,s9,s10⟩:=qay ha2
 refine zV 23 Tryz.func17 rfl fun h=>zSR (qy h rfl rfl fun w1 bb1 h=>qy h rfl rfl fun w2 bb2 h=>X2 9 1 0 h rfl (zcB h hF (qi8 (qdC _ (h.oldS s1)) (qdC _ (h.oldS s6))) rfl fun r1 w3 h hF=>X0 2 rfl (qh rfl hF ?_ ?_)))<;>intro hF
 ·exact X0 4 rfl (rb h hF rfl)
 refine X2 8 1 0 h rfl (zcB h hF (qjB (qbs _ (h.oldS s2) (h.oldS s3) (h.oldS s4)) (qbs _ (h.oldS s7) (h.oldS s8) (h.oldS s9))) rfl fun r2 w4 h hF=>X0 2 rfl (qh rfl hF ?_ ?_))<;>intro hF
 ·exact X0 4 rfl (rb h hF rfl)
 refine X2 8 1 0 h rfl (zcB h hF (qjY ⟨_,_,rfl,(h.oldS s5)⟩ ⟨_,_,rfl,(h.oldS s10)⟩) rfl fun r3 w5 h hF=>X0 2 rfl (qh rfl hF ?_ ?_))<;>intro hF
 ·exact X0 4 rfl (rb h hF rfl)
 exact X0 5 rfl (rb h hF rfl)
def qP (_:Nat) (a_n:Int) (low:Int) (high:Int):Option Bool :=
 bif decide (a_n ≥ low) then some (decide (a_n≤high)) else
 some false
theorem qH {a_n:Int} {low:Int} {high:Int}  {r:Bool} (hF:qP n a_n low high=some r):RetV Tryz.prog 73 [.int .i64 a_n,.int .i64 low,.int .i64 high] w r:=by
 refine zV 15 Tryz.func73 rfl fun h=>X0 10 rfl (qg (t:=10) hF rfl ?_ ?_)<;>intro hF
 ·exact X0 9 rfl (rb h hF rfl)
 exact X0 6 rfl (rb h hF rfl)
def qbW (s:ByteArray):Nat→Int→Option (Flow Bool Int)
 | 0,_=>none
 | n+1,i1 =>
  bif decide (i1<(s.size:Int)) then
   (
    (atS s i1).bind fun y3 =>
    bif decide (y3 ≥ 97) then
     (atS s i1).bind fun y4 =>
     some (decide (y4≤122))
    else
     some false).bind fun b1 =>
   (
    (atS s i1).bind fun y1 =>
    bif decide (y1 ≥ 48) then
     (atS s i1).bind fun y2 =>
     some (decide (y2≤57))
    else
     some false).bind fun b2 =>
   bif (!b1) then
    bif b2 then
     bif (!(decide (i1 > 0))) then some (.ret false) else
     qbW s n (W64 (i1+1))
    else
     some (.ret false)
   else
    qbW s n (W64 (i1+1))
  else
   some (.nxt i1)
def qec (n:Nat) (s:ByteArray):Option Bool :=
 (qbW s n 0).bind fun o=>match o with
 | .ret r=>some r
 | .nxt _ =>
  bif decide ((s.size:Int) ≥ 1) then some (decide ((s.size:Int)≤8)) else
  some false
theorem qfW {s:ByteArray}  {r:Bool} (hF:qec n s=some r):RetV Tryz.prog 165 [.string s] w r:=by
 refine zV 50 Tryz.func165 rfl fun h=>X0 9 rfl ?_
 obtain ⟨o1,hF,hK1⟩:=qf hF
 refine qm (rL (fun m e w'=>∃ (i1:Int),qbW s m i1=some o1∧e=[(0,.string s),(3,.int .i64 i1)]∧SH w w' []) n ⟨_,hF,rfl,h⟩ rfl ?_)
 rintro m1 e1 w1 ⟨i1,hF,rfl,h⟩
 rcases m1 with _|m1
 ·cases hF
 refine X0 8 rfl (qh rfl hF ?_ ?_)<;>intro hF
 ·refine X0 4 rfl ?_
  obtain ⟨KF2,hKF2,o3,hF,hK3⟩:=bindE hF
  refine qcw (fun e w'=>∃ (b1:Bool),KF2 b1=some o1∧e=[(0,.string s),(3,.int .i64 i1),(4,.bool b1)]∧SH w w' []) ?_ ?_
  ·refine X0 3 rfl ?_
   obtain ⟨y3,hx3,hF⟩:=qf hF
   have g3:=qhW hx3
   refine r_v (qhH qe g3 rfl rfl rfl rfl) rfl (zp2 rfl (qg (t:=16) hF rfl ?_ ?_))<;>intro hF
   ·refine X0 5 rfl ?_
    obtain ⟨y4,hx4,hF⟩:=qf hF
    have g4:=qhW hx4
    refine r_v (qhH qe g4 rfl rfl rfl rfl) rfl (X0 5 rfl ?_)
    obtain rfl:=qa hF
    exact rG ⟨_,hK3,rfl,h⟩ rfl
   refine X0 7 rfl ?_
   obtain rfl:=qa hF
   exact rG ⟨_,hK3,rfl,h⟩ rfl
  rintro e3 w3 ⟨b1,hF,rfl,h⟩
  subst hKF2
  refine qeq ?_
  obtain ⟨KF1,hKF1,o2,hF,hK2⟩:=bindE hF
  refine qcw (fun e w'=>∃ (b2:Bool),KF1 b2=some o1∧e=[(0,.string s),(3,.int .i64 i1),(4,.bool b1),(5,.bool b2)]∧SH w w' []) ?_ ?_
  ·refine X0 3 rfl ?_
   obtain ⟨y1,hx1,hF⟩:=qf hF
   have g1:=qhW hx1
   refine r_v (qhH qe g1 rfl rfl rfl rfl) rfl (zp2 rfl (qg (t:=26) hF rfl ?_ ?_))<;>intro hF
   ·refine X0 5 rfl ?_
    obtain ⟨y2,hx2,hF⟩:=qf hF
    have g2:=qhW hx2
    refine r_v (qhH qe g2 rfl rfl rfl rfl) rfl (X0 5 rfl ?_)
    obtain rfl:=qa hF
    exact rG ⟨_,hK2,rfl,h⟩ rfl
   refine X0 7 rfl ?_
   obtain rfl:=qa hF
   exact rG ⟨_,hK2,rfl,h⟩ rfl
  rintro e2 w2 ⟨b2,hF,rfl,h⟩
  subst hKF1
  refine X0 5 rfl (qg (t:=34) hF rfl ?_ ?_)<;>intro hF
  ·refine X0 4 rfl (qg (t:=36) hF rfl ?_ ?_)<;>intro hF
   ·refine X0 10 rfl (qh rfl hF ?_ ?_)<;>intro hF
    ·refine X0 4 rfl ?_
     obtain rfl:=qa hF;replace hF:=hK1
     exact rb h hF rfl
    exact X0 7 rfl (rK ⟨_,hF,rfl,h⟩ rfl)
   refine X0 8 rfl (qdv rfl rfl (X0 4 rfl ?_))
   obtain rfl:=qa hF;replace hF:=hK1
   exact rb h hF rfl
  exact X0 8 rfl (qej rfl rfl (X0 7 rfl (rK ⟨_,hF,rfl,h⟩ rfl)))
 refine qq rfl ?_
 obtain rfl:=qa hF;replace hF:=hK1
 refine X0 6 rfl (qg (t:=45) hF rfl ?_ ?_)<;>intro hF
 ·exact X0 9 rfl (rb h hF rfl)
 exact X0 6 rfl (rb h hF rfl)
def qcM (a_0:qk) (i2:Int) (y1:qF):Nat→Int→Option (Flow (Int × Bool) Int)
 | 0,_=>none
 | n+1,i3 =>
  bif decide (i3<i2) then
   (idx a_0.Ai i3).bind fun y2 =>
   bif (y2.Am.toList==y1.Am.toList) then some (.ret (0,false)) else
   qcM a_0 i2 y1 n (W64 (i3+1))
  else
   some (.nxt i3)
def qbr (a_0:qk):Nat→Int→Int→Option (Flow (Int × Bool) (Int × Int))
 | 0,_,_=>none
 | n+1,i1,i2 =>
  bif decide (i2<(a_0.Ai.length:Int)) then
   (idx a_0.Ai i2).bind fun y1 =>
   (qcM a_0 i2 y1 n 0).bind fun o=>match o with
   | .ret r=>some (.ret r)
   | .nxt _ =>
    (
     (qec n y1.Am).bind fun r1 =>
     bif (!r1) then some true else
     (qP n y1.Bg 0 500).bind fun r2 =>
     some (!r2)).bind fun b4 =>
    bif b4 then some (.ret (0,false)) else
    (
     bif (i2==(W64 ((a_0.Ai.length:Int)-1))) then
      bif (y1.Bh != 2) then some true else
      bif (y1.Bg != 0) then some true else
      bif y1.Ba then some true else
      bif decide (i2<(W64 ((a_0.Ai.length:Int)-1))) then some (y1.Bh != 1) else
      some false
     else
      bif decide (i2<(W64 ((a_0.Ai.length:Int)-1))) then some (y1.Bh != 1) else
      some false).bind fun b5 =>
    bif b5 then some (.ret (0,false)) else
    bif y1.Ba then qbr a_0 n (W64 (i1+1)) (W64 (i2+1)) else
    qbr a_0 n i1 (W64 (i2+1))
  else
   some (.nxt (i1,i2))
def qf0 (n:Nat) (a_0:qk):Option (Int × Bool) :=
 (
  bif decide ((a_0.Ai.length:Int)<2) then some true else
  some (decide ((a_0.Ai.length:Int) > 5))).bind fun b1 =>
 bif b1 then some (0,false) else
 (qbr a_0 n 0 0).bind fun o=>match o with
 | .ret r=>some r
 | .nxt (i1,_) =>
  some (i1,true)
theorem qjR {a_0:qk} (ha1:GoT.R w (old w) a_0 cs1) {r:(Int × Bool)} (hF:qf0 n a_0=some r):RetV Tryz.prog 295 [GoT.v qk cs1] w r:=by
 obtain ⟨p1,k1,p2,k2,p3,k3,rfl,s1,s2,s3⟩:=qI ha1
 refine zV 86 Tryz.func295 rfl fun h=>zSR (qy h rfl rfl fun w1 bb1 h=>X1 12 0 h rfl ?_)
 obtain ⟨KF3,hKF3,o5,hF,hK5⟩:=bindE hF
 refine qcw (fun e w'=>∃ (b1:Bool),KF3 b1=some r∧e=[(1,.pointer (some ⟨bb1,0,none⟩)),(4,.int .i64 (a_0.Ai.length:Int)),(17,.bool b1)]∧SH w w' [Ch.box bb1 (qb6 a_0 p1 p2 p3 k1 k2 k3) 263]) ?_ ?_
 ·refine X0 4 rfl (qg (t:=14) hF rfl ?_ ?_)<;>intro hF
  ·refine X0 4 rfl ?_
   obtain rfl:=qa hF
   exact rG ⟨_,hK5,rfl,h⟩ rfl
  refine X0 6 rfl ?_
  obtain rfl:=qa hF
  exact rG ⟨_,hK5,rfl,h⟩ rfl
 rintro e5 w11 ⟨b1,hF,rfl,h⟩
 subst hKF3
 refine qh rfl hF ?_ ?_<;>intro hF
 ·refine X0 5 rfl ?_
  obtain rfl:=qa hF
  exact qbh qe (ρ:=(Int × Bool)) [GoT.v Int [.int .i64 0],GoT.v Bool [.bool false]] h ⟨rfl,rfl,trivial⟩ (PV.done h (qef h (qO (S:=fun _=>False) rfl) (qbV (qO (S:=fun _=>False) rfl)) (by rfl)))
 refine X0 10 rfl ?_
 obtain ⟨o1,hF,hK1⟩:=qf hF
 refine qm (rL (fun m e w'=>∃ (i1:Int) (i2:Int),qbr a_0 m i1 i2=some o1∧e=[(1,.pointer (some ⟨bb1,0,none⟩)),(4,.int .i64 (a_0.Ai.length:Int)),(5,.int .i64 i1),(6,.int .i64 i2)]∧SH w w' [Ch.box bb1 (qb6 a_0 p1 p2 p3 k1 k2 k3) 263]) n ⟨_,_,hF,rfl,h⟩ rfl ?_)
 rintro m1 e1 w2 ⟨i1,i2,hF,rfl,h⟩
 rcases m1 with _|m1
 ·cases hF
 refine X0 7 rfl (qh rfl hF ?_ ?_)<;>intro hF
 ·refine X1 8 0 h rfl ?_
  obtain ⟨y1,hy1,hF,he1,b2,_,q1,cs2,hp1,hq1,hr1,hc3⟩:=s1.ix hF
  obtain rfl:=qai hr1
  refine zxe hp1 hq1 he1 rfl (zc 0 (hc3.below h.below) rfl (qM qe h rfl rfl rfl fun w3 bb2 h=>zs 0 h rfl fun w4 h=>X0 6 rfl ?_))
  obtain ⟨o2,hF,hK2⟩:=qf hF
  refine qm (rL (fun m e w'=>∃ (i3:Int),qcM a_0 i2 y1 m i3=some o2∧e=[(1,.pointer (some ⟨bb1,0,none⟩)),(4,.int .i64 (a_0.Ai.length:Int)),(5,.int .i64 i1),(6,.int .i64 i2),(7,.pointer (some ⟨bb2,0,none⟩)),(8,.int .i64 i3)]∧SH w w' [Ch.box bb2 (qjf y1) 345,Ch.box bb1 (qb6 a_0 p1 p2 p3 k1 k2 k3) 263]) m1 ⟨_,hF,rfl,h⟩ rfl ?_)
  rintro m2 e2 w5 ⟨i3,hF,rfl,h⟩
  rcases m2 with _|m2
  ·cases hF
  refine X0 7 rfl (qh rfl hF ?_ ?_)<;>intro hF
  ·refine X0 4 rfl (rD (Y1 2 1 h rfl ?_))
   refine zd1 rfl ?_
   obtain ⟨y2,hy2,hF,he2,b3,_,q2,cs3,hp2,hq2,hr2,hc5⟩:=s1.ix hF
   obtain rfl:=qai hr2
   refine zdxe hp2 hq2 he2 rfl (zd1 rfl (zdc 0 (hc5.below h.below) rfl (Y1 2 0 h rfl ?_)))
   refine zd1 rfl (dN h fun w6 h=>qh rfl hF ?_ ?_)<;>intro hF
   ·refine X0 5 rfl ?_
    obtain rfl:=qa hF;replace hF:=hK2
    obtain rfl:=qa hF;replace hF:=hK1
    obtain rfl:=qa hF
    exact qbh qe (ρ:=(Int × Bool)) [GoT.v Int [.int .i64 0],GoT.v Bool [.bool false]] h ⟨rfl,rfl,trivial⟩ (PV.done h (qef h (qO (S:=fun _=>False) rfl) (qbV (qO (S:=fun _=>False) rfl)) (by rfl)))
   exact X0 7 rfl (rK ⟨_,hF,rfl,h⟩ rfl)
  refine qq rfl ?_
  obtain rfl:=qa hF;replace hF:=hK2
  refine zSS ?_
  obtain ⟨KF2,hKF2,o4,hF,hK4⟩:=bindE hF
  refine qcw (fun e w'=>∃ (b4:Bool),KF2 b4=some o1∧e=[(1,.pointer (some ⟨bb1,0,none⟩)),(4,.int .i64 (a_0.Ai.length:Int)),(5,.int .i64 i1),(6,.int .i64 i2),(7,.pointer (some ⟨bb2,0,none⟩)),(51,.bool b4)]∧SH w w' [Ch.box bb2 (qjf y1) 345,Ch.box bb1 (qb6 a_0 p1 p2 p3 k1 k2 k3) 263]) ?_ ?_
  ·refine X1 3 0 h rfl (zcB h hF qfW rfl fun r1 w8 h hF=>zp2 rfl (qg (t:=46) hF rfl ?_ ?_))<;>intro hF
   ·refine X0 6 rfl ?_
    obtain rfl:=qa hF
    exact rG ⟨_,hK4,rfl,h⟩ rfl
   refine X1 5 0 h rfl (zcB h hF qH rfl fun r2 w9 h hF=>X0 4 rfl ?_)
   obtain rfl:=qa hF
   exact rG ⟨_,hK4,rfl,h⟩ rfl
  rintro e4 w10 ⟨b4,hF,rfl,h⟩
  subst hKF2
  refine qh rfl hF ?_ ?_<;>intro hF
  ·refine X0 5 rfl ?_
   obtain rfl:=qa hF;replace hF:=hK1
   obtain rfl:=qa hF
   exact qbh qe (ρ:=(Int × Bool)) [GoT.v Int [.int .i64 0],GoT.v Bool [.bool false]] h ⟨rfl,rfl,trivial⟩ (PV.done h (qef h (qO (S:=fun _=>False) rfl) (qbV (qO (S:=fun _=>False) rfl)) (by rfl)))
  refine zKSS ?_
  obtain ⟨KF1,hKF1,o3,hF,hK3⟩:=bindE hF
  refine qcw (fun e w'=>∃ (b5:Bool),KF1 b5=some o1∧e=[(1,.pointer (some ⟨bb1,0,none⟩)),(4,.int .i64 (a_0.Ai.length:Int)),(5,.int .i64 i1),(6,.int .i64 i2),(7,.pointer (some ⟨bb2,0,none⟩)),(80,.bool b5)]∧SH w w' [Ch.box bb2 (qjf y1) 345,Ch.box bb1 (qb6 a_0 p1 p2 p3 k1 k2 k3) 263]) ?_ ?_
  ·refine X0 6 rfl (qg (t:=56) hF rfl ?_ ?_)<;>intro hF
   ·refine X1 8 0 h rfl (qg (t:=60) hF rfl ?_ ?_)<;>intro hF
    ·refine X0 24 rfl ?_
     obtain rfl:=qa hF
     exact rG ⟨_,hK3,rfl,h⟩ rfl
    refine X1 10 0 h rfl (qg (t:=65) hF rfl ?_ ?_)<;>intro hF
    ·refine X0 17 rfl ?_
     obtain rfl:=qa hF
     exact rG ⟨_,hK3,rfl,h⟩ rfl
    refine X1 8 0 h rfl (qg (t:=70) hF rfl ?_ ?_)<;>intro hF
    ·refine X0 11 rfl ?_
     obtain rfl:=qa hF
     exact rG ⟨_,hK3,rfl,h⟩ rfl
    refine X0 10 rfl (qg (t:=75) hF rfl ?_ ?_)<;>intro hF
    ·refine X1 10 0 h rfl ?_
     obtain rfl:=qa hF
     exact rG ⟨_,hK3,rfl,h⟩ rfl
    refine X0 7 rfl ?_
    obtain rfl:=qa hF
    exact rG ⟨_,hK3,rfl,h⟩ rfl
   refine X0 24 rfl (qg (t:=75) hF rfl ?_ ?_)<;>intro hF
   ·refine X1 10 0 h rfl ?_
    obtain rfl:=qa hF
    exact rG ⟨_,hK3,rfl,h⟩ rfl
   refine X0 7 rfl ?_
   obtain rfl:=qa hF
   exact rG ⟨_,hK3,rfl,h⟩ rfl
  rintro e3 w7 ⟨b5,hF,rfl,h⟩
  subst hKF1
  refine qh rfl hF ?_ ?_<;>intro hF
  ·refine X0 5 rfl ?_
   obtain rfl:=qa hF;replace hF:=hK1
   obtain rfl:=qa hF
   exact qbh qe (ρ:=(Int × Bool)) [GoT.v Int [.int .i64 0],GoT.v Bool [.bool false]] h ⟨rfl,rfl,trivial⟩ (PV.done h (qef h (qO (S:=fun _=>False) rfl) (qbV (qO (S:=fun _=>False) rfl)) (by rfl)))
  refine X1 6 0 h rfl (qh rfl hF ?_ ?_)<;>intro hF
  ·refine X0 11 rfl ?_
   replace h:=h.pick [1] rfl
   exact rK ⟨_,_,hF,rfl,h⟩ rfl
  refine X0 7 rfl ?_
  replace h:=h.pick [1] rfl
  exact rK ⟨_,_,hF,rfl,h⟩ rfl
 refine qq rfl ?_
 obtain rfl:=qa hF;replace hF:=hK1
 refine X0 6 rfl ?_
 obtain rfl:=qa hF
 exact qbh qe (ρ:=(Int × Bool)) [GoT.v Int [.int .i64 i1],GoT.v Bool [.bool true]] h ⟨rfl,rfl,trivial⟩ (PV.done h (qef h (qO (S:=fun _=>False) rfl) (qbV (qO (S:=fun _=>False) rfl)) (by rfl)))
def qbX (list:(List Int)):Nat→Int→Option (Flow Bool Int)
 | 0,_=>none
 | n+1,i1 =>
  bif decide (i1<(list.length:Int)) then
   (idx list i1).bind fun y1 =>
   (qP n y1 0 100000).bind fun r1 =>
   bif (!r1) then some (.ret false) else
   bif decide (i1 > 0) then
    (idx list (W64 (i1-1))).bind fun y2 =>
    (idx list i1).bind fun y3 =>
    bif decide (y2 ≥ y3) then some (.ret false) else
    qbX list n (W64 (i1+1))
   else
    qbX list n (W64 (i1+1))
  else
   some (.nxt i1)
def qeV (n:Nat) (list:(List Int)):Option Bool :=
 (qbX list n 0).bind fun o=>match o with
 | .ret r=>some r
 | .nxt _ =>
  bif decide ((list.length:Int) ≥ 1) then some (decide ((list.length:Int)≤4)) else
  some false
theorem qhB {list:(List Int)} (ha1:GoT.R w (old w) list cs1) {r:Bool} (hF:qeV n list=some r):RetV Tryz.prog 352 [GoT.v (List Int) cs1] w r:=by
 obtain ⟨p1,k1,rfl,s1⟩:=ha1
 refine zV 40 Tryz.func352 rfl fun h=>X0 9 rfl ?_
 obtain ⟨o1,hF,hK1⟩:=qf hF
 refine qm (rL (fun m e w'=>∃ (i1:Int),qbX list m i1=some o1∧e=[(0,.slice p1 list.length k1),(3,.int .i64 i1)]∧SH w w' []) n ⟨_,hF,rfl,h⟩ rfl ?_)
 rintro m1 e1 w1 ⟨i1,hF,rfl,h⟩
 rcases m1 with _|m1
 ·cases hF
 refine X0 8 rfl (qh rfl hF ?_ ?_)<;>intro hF
 ·refine X0 4 rfl (rD (zd2 rfl ?_))
  obtain ⟨y1,hy1,hF,he1,b1,_,q1,cs2,hp1,hq1,rfl,hc2⟩:=s1.ix hF
  refine zdxe hp1 hq1 he1 rfl (zdc 0 (hc2.below h.below) rfl ?_)
  obtain ⟨r1,hr2,hF⟩:=qf hF
  refine qbz r1 (vsB _) (cB 73 rfl) (fun _ hb=>qH  hr2) rfl rfl rfl rfl (zd2 rfl (qaH (t:=16) hF rfl ?_ ?_))<;>intro hF
  ·refine Y0 15 rfl (dN h fun w2 h=>qdv rfl rfl (X0 4 rfl ?_))
   obtain rfl:=qa hF;replace hF:=hK1
   exact rb h hF rfl
  refine Y0 6 rfl (qaH (t:=19) hF rfl ?_ ?_)<;>intro hF
  ·refine Y0 7 rfl ?_
   obtain ⟨y2,hy2,hF,he2,b2,_,q2,cs3,hp2,hq2,rfl,hc3⟩:=s1.ix hF
   refine zdxe hp2 hq2 he2 rfl (Y0 1 rfl (zdc 0 (hc3.below h.below) rfl (Y0 5 rfl ?_)))
   obtain ⟨y3,hy3,hF,he3,b3,_,q3,cs4,hp3,hq3,rfl,hc4⟩:=s1.ix hF
   refine zdxe hp3 hq3 he3 rfl (Y0 1 rfl (zdc 0 (hc4.below h.below) rfl (Y0 5 rfl (dN h fun w3 h=>qh rfl hF ?_ ?_))))<;>intro hF
   ·refine X0 4 rfl ?_
    obtain rfl:=qa hF;replace hF:=hK1
    exact rb h hF rfl
   exact X0 7 rfl (rK ⟨_,hF,rfl,h⟩ rfl)
  exact Y0 13 rfl (dN h fun w4 h=>qej rfl rfl (X0 7 rfl (rK ⟨_,hF,rfl,h⟩ rfl)))
 refine qq rfl ?_
 obtain rfl:=qa hF;replace hF:=hK1
 refine X0 6 rfl (qg (t:=35) hF rfl ?_ ?_)<;>intro hF
 ·exact X0 9 rfl (rb h hF rfl)
 exact X0 6 rfl (rb h hF rfl)
def qcI (t:ql):Nat→Int→Option (Flow Bool Int)
 | 0,_=>none
 | n+1,i1 =>
  bif decide (i1<(t.Ap.length:Int)) then
   (idx t.Ap i1).bind fun y1 =>
   (qP n y1 (-1000000) 1000000).bind fun r1 =>
   bif (!r1) then some (.ret false) else
   qcI t n (W64 (i1+1))
  else
   some (.nxt i1)
def qgd (n:Nat) (t:ql):Option Bool :=
 (
  (qeV n t.Ay).bind fun r2 =>
  bif (!r2) then some true else
  (qeV n t.Av).bind fun r3 =>
  bif (!r3) then some true else
  some ((t.Ap.length:Int) != (W64 ((t.Ay.length:Int)*(t.Av.length:Int))))).bind fun b1 =>
 bif b1 then some false else
 (qcI t n 0).bind fun o=>match o with
 | .ret r=>some r
 | .nxt _ =>
  some true
theorem qjQ {t:ql} (ha1:GoT.R w (old w) t cs1) {r:Bool} (hF:qgd n t=some r):RetV Tryz.prog 345 [GoT.v ql cs1] w r:=by
 obtain ⟨p1,k1,p2,k2,p3,k3,rfl,s1,s2,s3⟩:=qau ha1
 refine zV 41 Tryz.func345 rfl fun h=>zSR (qy h rfl rfl fun w1 bb1 h=>X0 4 rfl ?_)
 obtain ⟨KF1,hKF1,o2,hF,hK2⟩:=bindE hF
 refine qcw (fun e w'=>∃ (b1:Bool),KF1 b1=some r∧e=[(1,.pointer (some ⟨bb1,0,none⟩)),(26,.bool b1)]∧SH w w' [Ch.box bb1 (qhL t p1 p2 p3 k1 k2 k3) 334]) ?_ ?_
 ·refine X1 3 0 h rfl (zcB h hF (qhB ⟨_,_,rfl,(h.oldS s1)⟩) rfl fun r2 w4 h hF=>zp2 rfl (qg (t:=8) hF rfl ?_ ?_))<;>intro hF
  ·refine X0 19 rfl ?_
   obtain rfl:=qa hF
   exact rG ⟨_,hK2,rfl,h⟩ rfl
  refine X1 5 0 h rfl (zcB h hF (qhB ⟨_,_,rfl,(h.oldS s2)⟩) rfl fun r3 w5 h hF=>X0 4 rfl (qg (t:=14) hF rfl ?_ ?_))<;>intro hF
  ·refine X0 13 rfl ?_
   obtain rfl:=qa hF
   exact rG ⟨_,hK2,rfl,h⟩ rfl
  refine X3 24 0 0 0 h rfl ?_
  obtain rfl:=qa hF
  exact rG ⟨_,hK2,rfl,h⟩ rfl
 rintro e2 w6 ⟨b1,hF,rfl,h⟩
 subst hKF1
 refine qh rfl hF ?_ ?_<;>intro hF
 ·exact X0 4 rfl (rb h hF rfl)
 refine X0 6 rfl ?_
 obtain ⟨o1,hF,hK1⟩:=qf hF
 refine qm (rL (fun m e w'=>∃ (i1:Int),qcI t m i1=some o1∧e=[(1,.pointer (some ⟨bb1,0,none⟩)),(3,.int .i64 i1)]∧SH w w' [Ch.box bb1 (qhL t p1 p2 p3 k1 k2 k3) 334]) n ⟨_,hF,rfl,h⟩ rfl ?_)
 rintro m1 e1 w2 ⟨i1,hF,rfl,h⟩
 rcases m1 with _|m1
 ·cases hF
 refine X1 9 0 h rfl (qh rfl hF ?_ ?_)<;>intro hF
 ·refine X1 8 0 h rfl ?_
  obtain ⟨y1,hy1,hF,he1,b2,_,q1,cs2,hp1,hq1,rfl,hc3⟩:=s3.ix hF
  refine zxe hp1 hq1 he1 rfl (zc 0 (hc3.below h.below) rfl (zcB h hF qH rfl fun r1 w3 h hF=>X0 2 rfl (qh rfl hF ?_ ?_)))<;>intro hF
  ·refine X0 4 rfl ?_
   obtain rfl:=qa hF;replace hF:=hK1
   exact rb h hF rfl
  exact X0 7 rfl (rK ⟨_,hF,rfl,h⟩ rfl)
 refine qq rfl ?_
 obtain rfl:=qa hF;replace hF:=hK1
 exact X0 4 rfl (rb h hF rfl)
def qbn (t:ql):Nat→Int→Int→Int→Option (Int × Int × Int)
 | 0,_,_,_=>none
 | n+1,i1,i2,i3 =>
  bif decide (i3<(t.Ap.length:Int)) then
   (idx t.Ap i3).bind fun y3 =>
   (idx t.Ap i3).bind fun y4 =>
   qbn t n (if y3<i1 then y3 else i1) (if y4 > i2 then y4 else i2) (W64 (i3+1))
  else
   some (i1,i2,i3)
def qed (n:Nat) (t:ql):Option (qbd × Int) :=
 (qgd n t).bind fun r1 =>
 bif (!r1) then some ((⟨0,0⟩:qbd),1) else
 (idx t.Ap 0).bind fun y1 =>
 (idx t.Ap 0).bind fun y2 =>
 (qbn t n y1 y2 1).bind fun o=>match o with
 | (i1,i2,_) =>
  some ((⟨i1,i2⟩:qbd),0)
theorem qin {t:ql} (ha1:GoT.R w (old w) t cs1) {r:(qbd × Int)} (hF:qed n t=some r):RetV Tryz.prog 332 [GoT.v ql cs1] w r:=by
 obtain ⟨p1,k1,p2,k2,p3,k3,rfl,s1,s2,s3⟩:=qau ha1
 refine zV 45 Tryz.func332 rfl fun h=>zSR (qy h rfl rfl fun w1 bb1 h=>qM qe h rfl rfl rfl fun w2 bb2 h=>X1 6 1 h rfl (zcB h hF (qjQ (h.old ha1)) rfl fun r1 w3 h hF=>X0 2 rfl (qh rfl hF ?_ ?_)))<;>intro hF
 ·refine zSR (r_v (qh8 qe [] [] rfl rfl rfl rfl rfl rfl rfl rfl) rfl (zs 0 h rfl fun w4 h=>X0 2 rfl ?_))
  obtain rfl:=qa hF
  exact qbh qe (ρ:=(qbd × Int)) [GoT.v qbd [.int .i64 0,.int .i64 0],GoT.v Int [.int .i64 1]] h ⟨⟨_,_,_,rfl,rfl,h.box 0 rfl,rfl⟩,rfl,trivial⟩ (PV.done h (qef h (qO (S:=fun _=>False) (qlA (⟨0,0⟩:qbd))) (qbV (qO (S:=fun _=>False) rfl)) (by rfl)))
 refine zKS (rA [] [1] h rfl fun w5 h=>M1 3 [0,1] 0 (h.pick [1] rfl) rfl ?_)
 obtain ⟨y1,hy1,hF,he1,b1,_,q1,cs2,hp1,hq1,rfl,hc2⟩:=s3.ix hF
 refine Ae 2 7 hp1 hq1 he1 (h.pick [1] rfl) rfl (Al 3 15 0 hc2 (h.pick [1] rfl) rfl (M1 63 [4,5] 0 (h.pick [1] rfl) rfl ?_))
 obtain ⟨y2,hy2,hF,he2,b2,_,q2,cs3,hp2,hq2,rfl,hc3⟩:=s3.ix hF
 refine Ae 6 127 hp2 hq2 he2 (h.pick [1] rfl) rfl (Al 7 255 0 hc3 (h.pick [1] rfl) rfl (Aw 8 511 (fun w' hw=>qh8 qe [0,1] [.tmp 13,.tmp 17] rfl rfl rfl rfl rfl rfl rfl rfl) (h.pick [1] rfl) rfl ?_))
 refine Ao 9 1023 rfl (qM qe h rfl rfl rfl fun w6 bb3 h=>Ag (h.pick [2] rfl) (Ao 10 2047 rfl (zs 0 h rfl fun w7 h=>Ag (h.pick [2] rfl) (Ad (X0 5 rfl ?_)))))
 obtain ⟨o1,hF,hK1⟩:=qf hF
 refine qm (rL (fun m e w'=>∃ (i1:Int) (i2:Int) (i3:Int),qbn t m i1 i2 i3=some o1∧e=[(1,.pointer (some ⟨bb1,0,none⟩)),(2,.pointer (some ⟨bb2,0,none⟩)),(4,.pointer (some ⟨bb3,0,none⟩)),(5,.int .i64 i3)]∧SH w w' [Ch.box bb3 [.int .i64 i1,.int .i64 i2] 66,Ch.box bb2 [.int .i64 0,.int .i64 0] 66,Ch.box bb1 (qhL t p1 p2 p3 k1 k2 k3) 334]) n ⟨_,_,_,hF,rfl,h⟩ rfl ?_)
 rintro m1 e1 w8 ⟨i1,i2,i3,hF,rfl,h⟩
 rcases m1 with _|m1
 ·cases hF
 refine X1 9 2 h rfl (qh rfl hF ?_ ?_)<;>intro hF
 ·refine X0 4 rfl (rA [9] [0,2] h rfl fun w9 h=>M2 31 [0,1,2,3,4] 0 1 (h.pick [0,2] rfl) rfl ?_)
  obtain ⟨y3,hy3,hF,he3,b3,_,q3,cs4,hp3,hq3,rfl,hc5⟩:=s3.ix hF
  refine Ae 5 63 hp3 hq3 he3 (h.pick [0,2] rfl) rfl (Al 6 127 0 hc5 (h.pick [0,2] rfl) rfl (M0 511 [7,8] (h.pick [0,2] rfl) rfl (Ao 9 1023 rfl (zs 0 h rfl fun w10 h=>qiv (fun hs=>absurd (hs 9 (by decide)) (by decide)) (Ad (rA [9] [0,2] h rfl fun w11 h=>M2 31 [0,1,2,3,4] 0 1 (h.pick [0,2] rfl) rfl ?_))))))
  obtain ⟨y4,hy4,hF,he4,b4,_,q4,cs5,hp4,hq4,rfl,hc6⟩:=s3.ix hF
  exact Ae 5 63 hp4 hq4 he4 (h.pick [0,2] rfl) rfl (Al 6 127 0 hc6 (h.pick [0,2] rfl) rfl (M0 511 [7,8] (h.pick [0,2] rfl) rfl (Ao 9 1023 rfl (zs 0 h rfl fun w12 h=>qiv (fun hs=>absurd (hs 9 (by decide)) (by decide)) (Ad (X0 6 rfl (rK ⟨_,_,_,hF,rfl,h⟩ rfl)))))))
 refine qq rfl ?_
 obtain rfl:=qa hF;replace hF:=hK1
 refine X1 3 0 h rfl (zs 1 h rfl fun w13 h=>X0 2 rfl ?_)
 obtain rfl:=qa hF
 exact qbh qe (ρ:=(qbd × Int)) [GoT.v qbd [.int .i64 i1,.int .i64 i2],GoT.v Int [.int .i64 0]] h ⟨⟨_,_,_,rfl,rfl,h.box 1 rfl,rfl⟩,rfl,trivial⟩ (PV.done h (qef h (qO (S:=fun _=>False) (qlA (⟨i1,i2⟩:qbd))) (qbV (qO (S:=fun _=>False) rfl)) (by rfl)))
def qbk (list:(List ql)) (positive:Bool):Nat→Int→Option (Flow Bool Int)
 | 0,_=>none
 | n+1,i1 =>
  bif decide (i1<2) then
   (idx list i1).bind fun y1 =>
   (qed n y1).bind fun o=>match o with
    | (r2,r3) =>
     bif (r3 != 0) then some (.ret false) else
     bif positive then
      bif decide (r2.Bm<0) then some (.ret false) else
      qbk list positive n (W64 (i1+1))
     else
      qbk list positive n (W64 (i1+1))
  else
   some (.nxt i1)
def qbL (n:Nat) (list:(List ql)) (positive:Bool):Option Bool :=
 bif ((list.length:Int) != 2) then some false else
 (qbk list positive n 0).bind fun o=>match o with
 | .ret r=>some r
 | .nxt _ =>
  some true
theorem qcY {list:(List ql)} {positive:Bool} (ha1:GoT.R w (old w) list cs1) {r:Bool} (hF:qbL n list positive=some r):RetV Tryz.prog 317 [GoT.v (List ql) cs1,.bool positive] w r:=by
 obtain ⟨p1,k1,rfl,s1⟩:=ha1
 refine zV 33 Tryz.func317 rfl fun h=>X0 11 rfl (qh rfl hF ?_ ?_)<;>intro hF
 ·exact X0 4 rfl (rb h hF rfl)
 refine X0 6 rfl ?_
 obtain ⟨o1,hF,hK1⟩:=qf hF
 refine qm (rL (fun m e w'=>∃ (i1:Int),qbk list positive m i1=some o1∧e=[(0,.slice p1 list.length k1),(1,.bool positive),(5,.int .i64 i1)]∧SH w w' []) n ⟨_,hF,rfl,h⟩ rfl ?_)
 rintro m1 e1 w1 ⟨i1,hF,rfl,h⟩
 rcases m1 with _|m1
 ·cases hF
 refine X0 6 rfl (qh rfl hF ?_ ?_)<;>intro hF
 ·refine X0 7 rfl ?_
  obtain ⟨y1,hy1,hF,he1,b1,_,q1,cs2,hp1,hq1,hr1,hc3⟩:=s1.ix hF
  obtain ⟨p2,k2,p3,k3,p4,k4,rfl,s2,s3,s4⟩:=qau hr1
  refine zxe hp1 hq1 he1 rfl (zc 0 (hc3.below h.below) rfl ?_)
  obtain ⟨r1,hr2,hF⟩:=qf hF
  obtain ⟨r2,r3⟩:=r1
  refine qg2 (r2,r3) h (cB 332 rfl) (qin (qfd y1 (h.oldS s2) (h.oldS s3) (h.oldS s4)) hr2) rfl rfl rfl rfl fun w2 S1 us1 hv1 hr3=>?_
  obtain ⟨S2,S3,cs3,us2,rfl,hv2,hr4⟩:=hv1.cons hr3
  obtain rfl:=qmS (hv2.sh.own 0 rfl)
  obtain ⟨rfl,h⟩:=hv2.lastI hr4
  refine zp3 rfl (qM qe h rfl rfl rfl fun w3 bb1 h=>zs 0 h rfl fun w4 h=>X0 7 rfl (qg (t:=25) hF rfl ?_ ?_))<;>intro hF
  ·refine X0 8 rfl (qdv rfl rfl (X0 4 rfl ?_))
   obtain rfl:=qa hF;replace hF:=hK1
   exact rb h hF rfl
  refine X0 4 rfl (qg (t:=27) hF rfl ?_ ?_)<;>intro hF
  ·refine X1 10 0 h rfl (qh rfl hF ?_ ?_)<;>intro hF
   ·refine X0 4 rfl ?_
    obtain rfl:=qa hF;replace hF:=hK1
    exact rb h hF rfl
   refine X0 7 rfl ?_
   replace h:=h.pick [] rfl
   exact rK ⟨_,hF,rfl,h⟩ rfl
  refine X0 7 rfl (qej rfl rfl (X0 7 rfl ?_))
  replace h:=h.pick [] rfl
  exact rK ⟨_,hF,rfl,h⟩ rfl
 refine qq rfl ?_
 obtain rfl:=qa hF;replace hF:=hK1
 exact X0 4 rfl (rb h hF rfl)
def qgZ (n:Nat) (a_0:qk) (a_1:qz):Option Bool :=
 (
  (qP n a_1.Az 0 (W64 ((W64 ((a_0.Ai.length:Int)-1))-1))).bind fun r7 =>
  bif (!r7) then some true else
  (qP n a_1.To 0 (W64 ((a_0.Ai.length:Int)-1))).bind fun r8 =>
  some (!r8)).bind fun b1 =>
 bif b1 then some false else
 (idx a_0.Ai a_1.Az).bind fun y1 =>
 bif (a_1.Ar==1) then
  bif (!y1.Ba) then
   bif (a_1.To==(W64 ((a_0.Ai.length:Int)-1))) then
    (qP n a_1.Bc 1 3).bind fun r1 =>
    bif r1 then
     (qbL n a_1.At true).bind fun r2 =>
     bif r2 then
      (qbL n a_1.Bb true).bind fun r3 =>
      some r3
     else
      some false
    else
     some false
   else
    some false
  else
   some false
 else
  (
   bif (a_1.Ar==2) then some (a_1.Ar==2) else
   some (a_1.Ar==3)).bind fun b3 =>
  bif b3 then
   bif y1.Ba then
    bif (a_1.To==(W64 ((a_0.Ai.length:Int)-1))) then
     bif (a_1.Bc==0) then
      (qbL n a_1.At true).bind fun r4 =>
      bif r4 then
       (qbL n a_1.Bb true).bind fun r5 =>
       some r5
      else
       some false
     else
      some false
    else
     some false
   else
    some false
  else
   (
    bif (a_1.Ar==4) then some (a_1.Ar==4) else
    some (a_1.Ar==5)).bind fun b4 =>
   bif b4 then
    bif y1.Ba then
     bif decide (a_1.To<(W64 ((a_0.Ai.length:Int)-1))) then
      (idx a_0.Ai a_1.To).bind fun y2 =>
      bif (!y2.Ba) then
       bif (a_1.Bc==0) then
        (qbL n a_1.At false).bind fun r6 =>
        bif r6 then some ((a_1.Bb.length:Int)==0) else
        some false
       else
        some false
      else
       some false
     else
      some false
    else
     some false
   else
    some false
theorem qkP {a_0:qk} {a_1:qz} (ha1:GoT.R w (old w) a_0 cs1) (ha2:GoT.R w (old w) a_1 cs2) {r:Bool} (hF:qgZ n a_0 a_1=some r):RetV Tryz.prog 296 [GoT.v qk cs1,GoT.v qz cs2] w r:=by
 obtain ⟨p1,k1,p2,k2,p3,k3,rfl,s1,s2,s3⟩:=qI ha1
 obtain ⟨p4,k4,p5,k5,rfl,s4,s5⟩:=qaa ha2
 refine zV 119 Tryz.func296 rfl fun h=>zSR (qy h rfl rfl fun w1 bb1 h=>qy h rfl rfl fun w2 bb2 h=>X1 12 1 h rfl ?_)
 obtain ⟨KF3,hKF3,o3,hF,hK3⟩:=bindE hF
 refine qcw (fun e w'=>∃ (b1:Bool),KF3 b1=some r∧e=[(2,.pointer (some ⟨bb1,0,none⟩)),(3,.pointer (some ⟨bb2,0,none⟩)),(5,.int .i64 (W64 ((a_0.Ai.length:Int)-1))),(23,.bool b1)]∧SH w w' [Ch.box bb2 (qhN a_1 p4 p5 k4 k5) 266,Ch.box bb1 (qb6 a_0 p1 p2 p3 k1 k2 k3) 263]) ?_ ?_
 ·refine X1 5 0 h rfl (zcB h hF qH rfl fun r7 w11 h hF=>zp2 rfl (qg (t:=17) hF rfl ?_ ?_))<;>intro hF
  ·refine X0 7 rfl ?_
   obtain rfl:=qa hF
   exact rG ⟨_,hK3,rfl,h⟩ rfl
  refine X1 7 0 h rfl (zcB h hF qH rfl fun r8 w12 h hF=>X0 4 rfl ?_)
  obtain rfl:=qa hF
  exact rG ⟨_,hK3,rfl,h⟩ rfl
 rintro e3 w13 ⟨b1,hF,rfl,h⟩
 subst hKF3
 refine qh rfl hF ?_ ?_<;>intro hF
 ·exact X0 4 rfl (rb h hF rfl)
 refine X2 7 1 0 h rfl ?_
 obtain ⟨y1,hy1,hF,he1,b2,_,q1,cs3,hp1,hq1,hr1,hc2⟩:=s1.ix hF
 obtain rfl:=qai hr1
 refine zxe hp1 hq1 he1 rfl (zp1 rfl (zc 3 (hc2.below h.below) rfl (X1 14 0 h rfl (qh rfl hF ?_ ?_))))<;>intro hF
 ·refine X0 5 rfl (qg (t:=37) hF rfl ?_ ?_)<;>intro hF
  ·refine X1 10 0 h rfl (qg (t:=43) hF rfl ?_ ?_)<;>intro hF
   ·refine X1 5 0 h rfl (zcB h hF qH rfl fun r1 w3 h hF=>zp2 rfl (qg (t:=48) hF rfl ?_ ?_))<;>intro hF
    ·refine X1 5 0 h rfl (zcB h hF (qcY ⟨_,_,rfl,(h.oldS s4)⟩) rfl fun r2 w4 h hF=>zp2 rfl (qg (t:=53) hF rfl ?_ ?_))<;>intro hF
     ·exact X1 5 0 h rfl (zcB h hF (qcY ⟨_,_,rfl,(h.oldS s5)⟩) rfl fun r3 w5 h hF=>X0 3 rfl (rb h hF rfl))
     exact X0 6 rfl (rb h hF rfl)
    exact X0 11 rfl (rb h hF rfl)
   exact X0 16 rfl (rb h hF rfl)
  exact X0 22 rfl (rb h hF rfl)
 refine X0 6 rfl ?_
 obtain ⟨KF2,hKF2,o2,hF,hK2⟩:=bindE hF
 refine qcw (fun e w'=>∃ (b3:Bool),KF2 b3=some r∧e=[(2,.pointer (some ⟨bb1,0,none⟩)),(3,.pointer (some ⟨bb2,0,none⟩)),(5,.int .i64 (W64 ((a_0.Ai.length:Int)-1))),(6,.bool y1.Ba),(32,.int .i64 a_1.Ar),(58,.bool b3)]∧SH w w' [Ch.box bb2 (qhN a_1 p4 p5 k4 k5) 266,Ch.box bb1 (qb6 a_0 p1 p2 p3 k1 k2 k3) 263]) ?_ ?_
 ·refine qh rfl hF ?_ ?_<;>intro hF
  ·refine qg1 ?_
   obtain rfl:=qa hF
   exact rG ⟨_,hK2,rfl,h⟩ rfl
  refine X0 4 rfl ?_
  obtain rfl:=qa hF
  exact rG ⟨_,hK2,rfl,h⟩ rfl
 rintro e2 w10 ⟨b3,hF,rfl,h⟩
 subst hKF2
 refine qh rfl hF ?_ ?_<;>intro hF
 ·refine X0 4 rfl (qg (t:=62) hF rfl ?_ ?_)<;>intro hF
  ·refine X1 10 0 h rfl (qg (t:=68) hF rfl ?_ ?_)<;>intro hF
   ·refine X1 8 0 h rfl (qg (t:=73) hF rfl ?_ ?_)<;>intro hF
    ·refine X1 5 0 h rfl (zcB h hF (qcY ⟨_,_,rfl,(h.oldS s4)⟩) rfl fun r4 w6 h hF=>zp2 rfl (qg (t:=78) hF rfl ?_ ?_))<;>intro hF
     ·exact X1 5 0 h rfl (zcB h hF (qcY ⟨_,_,rfl,(h.oldS s5)⟩) rfl fun r5 w7 h hF=>X0 3 rfl (rb h hF rfl))
     exact X0 6 rfl (rb h hF rfl)
    exact X0 11 rfl (rb h hF rfl)
   exact X0 16 rfl (rb h hF rfl)
  exact X0 22 rfl (rb h hF rfl)
 refine X0 6 rfl ?_
 obtain ⟨KF1,hKF1,o1,hF,hK1⟩:=bindE hF
 refine qcw (fun e w'=>∃ (b4:Bool),KF1 b4=some r∧e=[(2,.pointer (some ⟨bb1,0,none⟩)),(3,.pointer (some ⟨bb2,0,none⟩)),(5,.int .i64 (W64 ((a_0.Ai.length:Int)-1))),(6,.bool y1.Ba),(83,.bool b4)]∧SH w w' [Ch.box bb2 (qhN a_1 p4 p5 k4 k5) 266,Ch.box bb1 (qb6 a_0 p1 p2 p3 k1 k2 k3) 263]) ?_ ?_
 ·refine qh rfl hF ?_ ?_<;>intro hF
  ·refine qg1 ?_
   obtain rfl:=qa hF
   exact rG ⟨_,hK1,rfl,h⟩ rfl
  refine X0 4 rfl ?_
  obtain rfl:=qa hF
  exact rG ⟨_,hK1,rfl,h⟩ rfl
 rintro e1 w9 ⟨b4,hF,rfl,h⟩
 subst hKF1
 refine qh rfl hF ?_ ?_<;>intro hF
 ·refine X0 4 rfl (qg (t:=87) hF rfl ?_ ?_)<;>intro hF
  ·refine X1 10 0 h rfl (qg (t:=93) hF rfl ?_ ?_)<;>intro hF
   ·refine X2 9 1 0 h rfl ?_
    obtain ⟨y2,hy2,hF,he2,b5,_,q2,cs4,hp2,hq2,hr7,hc6⟩:=s1.ix hF
    obtain rfl:=qai hr7
    refine zxe hp2 hq2 he2 rfl (X0 3 rfl (zc 3 (hc6.below h.below) rfl (X0 4 rfl (qg (t:=103) hF rfl ?_ ?_))))<;>intro hF
    ·refine X1 8 0 h rfl (qg (t:=108) hF rfl ?_ ?_)<;>intro hF
     ·refine X1 5 0 h rfl (zcB h hF (qcY ⟨_,_,rfl,(h.oldS s4)⟩) rfl fun r6 w8 h hF=>zp2 rfl (qg (t:=113) hF rfl ?_ ?_))<;>intro hF
      ·exact X1 11 0 h rfl (rb h hF rfl)
      exact X0 7 rfl (rb h hF rfl)
     exact X0 12 rfl (rb h hF rfl)
    exact X0 17 rfl (rb h hF rfl)
   exact X0 27 rfl (rb h hF rfl)
  exact X0 33 rfl (rb h hF rfl)
 exact X0 6 rfl (rb h hF rfl)
def qbE (c:qk):Nat→(List Int)→Int→Option ((List Int) × Int)
 | 0,_,_=>none
 | n+1,x2,i1 =>
  bif decide (i1<(c.Ak.length:Int)) then
   (idx c.Ak i1).bind fun y1 =>
   (idx x2 y1.Ar).bind fun y2 =>
   (idx x2 y1.Ar).bind fun _ =>
   qbE c n (setS x2 y1.Ar (W64 (y2+1))) (W64 (i1+1))
  else
   some (x2,i1)
def qft (n:Nat) (c:qk):Option (List Int) :=
 (mkS 6 (0:Int)).bind fun x1 =>
 (qbE c n x1 0).bind fun o=>match o with
 | (x2,_) =>
  some x2
theorem qjA {c:qk} (ha1:GoT.R w (old w) c cs1) {r:(List Int)} (hF:qft n c=some r):RetV Tryz.prog 297 [GoT.v qk cs1] w r:=by
 obtain ⟨p1,k1,p2,k2,p3,k3,rfl,s1,s2,s3⟩:=qI ha1
 refine zV 25 Tryz.func297 rfl fun h=>zSR (qy h rfl rfl fun w1 bb1 h=>X0 4 rfl ?_)
 obtain ⟨x1,hx1,hF⟩:=qf hF
 obtain ⟨g1,g2,hx1⟩:=qb4 hx1
 refine qc6 qe Int h rfl rfl rfl rfl rfl rfl rfl rfl rfl g1 g2 hx1 rfl fun w2 S1 p4 h=>X0 7 rfl ?_
 obtain ⟨o1,hF,hK1⟩:=qf hF
 refine qm (rL (fun m e w'=>∃ (x2:(List Int)) (i1:Int),qbE c m x2 i1=some o1∧e=[(1,.pointer (some ⟨bb1,0,none⟩)),(3,.slice p4 x1.length x1.length),(4,.int .i64 i1)]∧SH w w' [Ch.own S1 (x2:List Int) [.slice p4 x1.length x1.length],Ch.box bb1 (qb6 c p1 p2 p3 k1 k2 k3) 263]) n ⟨_,_,hF,rfl,h⟩ rfl ?_)
 rintro m1 e1 w3 ⟨x2,i1,hF,rfl,h⟩
 rcases m1 with _|m1
 ·cases hF
 refine X1 9 1 h rfl (qh rfl hF ?_ ?_)<;>intro hF
 ·refine X1 8 1 h rfl ?_
  obtain ⟨y1,hy1,hF,he1,b1,_,q1,cs2,hp1,hq1,hr1,hc2⟩:=s2.ix hF
  obtain ⟨p5,k4,p6,k5,rfl,s4,s5⟩:=qaa hr1
  refine zxe hp1 hq1 he1 rfl (zp1 rfl (zc 0 (hc2.below h.below) rfl ?_))
  obtain ⟨y2,hy2,hF,he2,b2,_,q2,cs3,hp2,hq2,rfl,hc3⟩:=(h.sl 0 rfl).1.ix hF
  refine zx hp2 hq2 ⟨he2.1,qK he2.2.1 (h.sl 0 rfl).2⟩ rfl (zc 0 hc3 rfl (zp1 rfl ?_))
  obtain ⟨y3,hy3,hF,he3,b3,_,q3,cs4,hp3,hq3,rfl,hc4⟩:=(h.sl 0 rfl).1.ix hF
  exact zx hp3 hq3 ⟨he3.1,qK he3.2.1 (h.sl 0 rfl).2⟩ rfl (qaN qe 0 0 (W64 (y2+1)) h rfl hy3 hp3 hq3 rfl hc4 rfl rfl rfl rfl rfl rfl rfl fun w4 h=>X0 7 rfl (rK ⟨_,_,hF,rfl,h⟩ rfl))
 refine qq rfl ?_
 obtain rfl:=qa hF;replace hF:=hK1
 refine X0 5 rfl ?_
 obtain rfl:=qa hF
 exact rO 0 h rfl ⟨rfl,trivial⟩
def qbM (a_0:qk) (i1:Int) (y1:qz):Nat→Int→Option (Flow Bool Int)
 | 0,_=>none
 | n+1,i2 =>
  bif decide (i2<i1) then
   (idx a_0.Ak i2).bind fun y2 =>
   bif (y2.Ar==y1.Ar) then
    (idx a_0.Ak i2).bind fun y3 =>
    bif (y3.Az==y1.Az) then
     (idx a_0.Ak i2).bind fun y4 =>
     bif (y4.To==y1.To) then some (.ret false) else
     qbM a_0 i1 y1 n (W64 (i2+1))
    else
     qbM a_0 i1 y1 n (W64 (i2+1))
   else
    qbM a_0 i1 y1 n (W64 (i2+1))
  else
   some (.nxt i2)
def qdb (a_0:qk):Nat→Int→Option (Flow Bool Int)
 | 0,_=>none
 | n+1,i3 =>
  bif decide (i3<(a_0.Au.length:Int)) then
   (idx a_0.Au i3).bind fun y5 =>
   (qP n y5 0 1).bind fun r6 =>
   bif (!r6) then some (.ret false) else
   qdb a_0 n (W64 (i3+1))
  else
   some (.nxt i3)
def qdh (a_0:qk):Nat→Int→Option (Flow Bool Int)
 | 0,_=>none
 | n+1,i1 =>
  bif decide (i1<(a_0.Ak.length:Int)) then
   (idx a_0.Ak i1).bind fun y1 =>
   (qgZ n a_0 y1).bind fun r4 =>
   bif (!r4) then some (.ret false) else
   (qbM a_0 i1 y1 n 0).bind fun o=>match o with
   | .ret r=>some (.ret r)
   | .nxt _ =>
    qdh a_0 n (W64 (i1+1))
  else
   some (.nxt i1)
def qgQ (n:Nat) (a_0:qk):Option Bool :=
 (qf0 n a_0).bind fun o=>match o with
  | (r2,r3) =>
   (
    bif (!r3) then some true else
    (qec n a_0.Am).bind fun r7 =>
    bif (!r7) then some true else
    bif decide ((a_0.Ak.length:Int) > 8) then some true else
    (qP n a_0.Bl 0 100000).bind fun r8 =>
    bif (!r8) then some true else
    (qP n a_0.Bf 0 100000).bind fun r9 =>
    some (!r9)).bind fun b1 =>
   bif b1 then some false else
   (qdh a_0 n 0).bind fun o=>match o with
   | .ret r=>some r
   | .nxt _ =>
    (qft n a_0).bind fun r5 =>
    bif (a_0.Ar==1) then
     (qdb a_0 n 0).bind fun o=>match o with
     | .ret r=>some r
     | .nxt _ =>
      bif (r2==0) then
       (shlS 1 (IntKind.wrap .u64 (W64 ((a_0.Ai.length:Int)-1)))).bind fun y6 =>
       some ((a_0.Au.length:Int)==y6)
      else
       some false
    else
     bif (a_0.Ar==2) then
      bif (r2==1) then
       (idx r5 1).bind fun y7 =>
       bif (y7==0) then
        (idx r5 2).bind fun y8 =>
        (idx r5 3).bind fun y9 =>
        bif (!((decide (y8 > 0))==(decide (y9 > 0)))) then some ((a_0.Au.length:Int)==0) else
        some false
       else
        some false
      else
       some false
     else
      bif (a_0.Ar==3) then
       bif (r2==1) then
        (idx r5 1).bind fun y10 =>
        bif decide (y10 > 0) then
         (idx r5 2).bind fun y11 =>
         bif decide (y11 > 0) then
          (idx r5 3).bind fun y12 =>
          bif (y12==0) then some ((a_0.Au.length:Int)==0) else
          some false
         else
          some false
        else
         some false
       else
        some false
      else
       some false
theorem qko {a_0:qk} (ha1:GoT.R w (old w) a_0 cs1) {r:Bool} (hF:qgQ n a_0=some r):RetV Tryz.prog 258 [GoT.v qk cs1] w r:=by
 obtain ⟨p1,k1,p2,k2,p3,k3,rfl,s1,s2,s3⟩:=qI ha1
 refine zV 182 Tryz.func258 rfl fun h=>zSR (qy h rfl rfl fun w1 bb1 h=>X1 5 0 h rfl ?_)
 obtain ⟨r1,hr1,hF⟩:=qf hF
 obtain ⟨r2,r3⟩:=r1
 refine qg2 (r2,r3) h (cB 295 rfl) (qjR (h.old ha1) hr1) rfl rfl rfl rfl fun w2 S1 us1 hv1 hr2=>?_
 obtain ⟨S2,us2,rfl,hv2,hr3⟩:=hv1.consI hr2
 obtain ⟨rfl,h⟩:=hv2.lastB hr3
 refine X0 8 rfl ?_
 obtain ⟨KF1,hKF1,o4,hF,hK4⟩:=bindE hF
 refine qcw (fun e w'=>∃ (b1:Bool),KF1 b1=some r∧e=[(1,.pointer (some ⟨bb1,0,none⟩)),(3,.int .i64 r2),(40,.bool b1)]∧SH w w' [Ch.box bb1 (qb6 a_0 p1 p2 p3 k1 k2 k3) 263]) ?_ ?_
 ·refine X0 4 rfl (qg (t:=17) hF rfl ?_ ?_)<;>intro hF
  ·refine X0 24 rfl ?_
   obtain rfl:=qa hF
   exact rG ⟨_,hK4,rfl,h⟩ rfl
  refine X1 5 0 h rfl (zcB h hF qfW rfl fun r7 w18 h hF=>X0 4 rfl (qg (t:=23) hF rfl ?_ ?_))<;>intro hF
  ·refine X0 18 rfl ?_
   obtain rfl:=qa hF
   exact rG ⟨_,hK4,rfl,h⟩ rfl
  refine X1 10 0 h rfl (qg (t:=29) hF rfl ?_ ?_)<;>intro hF
  ·refine X0 12 rfl ?_
   obtain rfl:=qa hF
   exact rG ⟨_,hK4,rfl,h⟩ rfl
  refine X1 5 0 h rfl (zcB h hF qH rfl fun r8 w19 h hF=>X0 4 rfl (qg (t:=35) hF rfl ?_ ?_))<;>intro hF
  ·refine X0 6 rfl ?_
   obtain rfl:=qa hF
   exact rG ⟨_,hK4,rfl,h⟩ rfl
  refine X1 5 0 h rfl (zcB h hF qH rfl fun r9 w20 h hF=>X0 4 rfl ?_)
  obtain rfl:=qa hF
  exact rG ⟨_,hK4,rfl,h⟩ rfl
 rintro e4 w21 ⟨b1,hF,rfl,h⟩
 subst hKF1
 refine qh rfl hF ?_ ?_<;>intro hF
 ·exact X0 4 rfl (rb h hF rfl)
 refine X0 6 rfl ?_
 obtain ⟨o1,hF,hK1⟩:=qf hF
 refine qm (rL (fun m e w'=>∃ (i1:Int),qdh a_0 m i1=some o1∧e=[(1,.pointer (some ⟨bb1,0,none⟩)),(3,.int .i64 r2),(5,.int .i64 i1)]∧SH w w' [Ch.box bb1 (qb6 a_0 p1 p2 p3 k1 k2 k3) 263]) n ⟨_,hF,rfl,h⟩ rfl ?_)
 rintro m1 e1 w3 ⟨i1,hF,rfl,h⟩
 rcases m1 with _|m1
 ·cases hF
 refine X1 9 0 h rfl (qh rfl hF ?_ ?_)<;>intro hF
 ·refine X1 8 0 h rfl ?_
  obtain ⟨y1,hy1,hF,he1,b2,_,q1,cs2,hp1,hq1,hr5,hc3⟩:=s2.ix hF
  obtain ⟨p4,k4,p5,k5,rfl,s4,s5⟩:=qaa hr5
  refine zxe hp1 hq1 he1 rfl (zc 0 (hc3.below h.below) rfl (qM qe h rfl rfl rfl fun w4 bb2 h=>zs 0 h rfl fun w5 h=>X2 6 1 0 h rfl (zcB h hF (qkP (h.old ha1) (qeW y1 (h.oldS s4) (h.oldS s5))) rfl fun r4 w6 h hF=>X0 2 rfl (qh rfl hF ?_ ?_))))<;>intro hF
  ·refine X0 4 rfl ?_
   obtain rfl:=qa hF;replace hF:=hK1
   exact rb h hF rfl
  refine X0 5 rfl ?_
  obtain ⟨o2,hF,hK2⟩:=qf hF
  refine qm (rL (fun m e w'=>∃ (i2:Int),qbM a_0 i1 y1 m i2=some o2∧e=[(1,.pointer (some ⟨bb1,0,none⟩)),(3,.int .i64 r2),(5,.int .i64 i1),(6,.pointer (some ⟨bb2,0,none⟩)),(7,.int .i64 i2)]∧SH w w' [Ch.box bb2 (qhN y1 p4 p5 k4 k5) 266,Ch.box bb1 (qb6 a_0 p1 p2 p3 k1 k2 k3) 263]) m1 ⟨_,hF,rfl,h⟩ rfl ?_)
  rintro m2 e2 w7 ⟨i2,hF,rfl,h⟩
  rcases m2 with _|m2
  ·cases hF
  refine X0 7 rfl (qh rfl hF ?_ ?_)<;>intro hF
  ·refine X0 4 rfl (rD (Y1 2 1 h rfl ?_))
   refine zd1 rfl ?_
   obtain ⟨y2,hy2,hF,he2,b3,_,q2,cs3,hp2,hq2,hr7,hc6⟩:=s2.ix hF
   obtain ⟨p6,k6,p7,k7,rfl,s6,s7⟩:=qaa hr7
   refine zdxe hp2 hq2 he2 rfl (zd1 rfl (zdc 0 (hc6.below h.below) rfl (Y1 2 0 h rfl ?_)))
   refine zd2 rfl (qaH (t:=71) hF rfl ?_ ?_)<;>intro hF
   ·refine Y1 4 1 h rfl ?_
    refine Y0 3 rfl ?_
    obtain ⟨y3,hy3,hF,he3,b4,_,q3,cs4,hp3,hq3,hr8,hc7⟩:=s2.ix hF
    obtain ⟨p8,k8,p9,k9,rfl,s8,s9⟩:=qaa hr8
    refine zdxe hp3 hq3 he3 rfl (Y0 3 rfl (zdc 1 (hc7.below h.below) rfl (Y1 4 0 h rfl ?_)))
    refine Y0 4 rfl (qaH (t:=82) hF rfl ?_ ?_)<;>intro hF
    ·refine Y1 4 1 h rfl ?_
     refine Y0 3 rfl ?_
     obtain ⟨y4,hy4,hF,he4,b5,_,q4,cs5,hp4,hq4,hr9,hc8⟩:=s2.ix hF
     obtain ⟨p10,k10,p11,k11,rfl,s10,s11⟩:=qaa hr9
     refine zdxe hp4 hq4 he4 rfl (Y0 3 rfl (zdc 2 (hc8.below h.below) rfl (Y1 4 0 h rfl ?_)))
     refine Y0 3 rfl (dN h fun w8 h=>qh rfl hF ?_ ?_)<;>intro hF
     ·refine X0 4 rfl ?_
      obtain rfl:=qa hF;replace hF:=hK2
      obtain rfl:=qa hF;replace hF:=hK1
      exact rb h hF rfl
     exact X0 7 rfl (rK ⟨_,hF,rfl,h⟩ rfl)
    exact Y0 10 rfl (dN h fun w9 h=>qej rfl rfl (X0 7 rfl (rK ⟨_,hF,rfl,h⟩ rfl)))
   exact Y0 21 rfl (dN h fun w10 h=>qej rfl rfl (X0 7 rfl (rK ⟨_,hF,rfl,h⟩ rfl)))
  refine qq rfl ?_
  obtain rfl:=qa hF;replace hF:=hK2
  refine X0 6 rfl ?_
  replace h:=h.pick [1] rfl
  exact rK ⟨_,hF,rfl,h⟩ rfl
 refine qq rfl ?_
 obtain rfl:=qa hF;replace hF:=hK1
 refine X1 3 0 h rfl (zcL h hF (qjA (h.old ha1)) rfl fun r5 w11 S4 p12 k12 h hF=>X1 14 1 h rfl (qh rfl hF ?_ ?_))<;>intro hF
 ·refine X0 5 rfl ?_
  obtain ⟨o3,hF,hK3⟩:=qf hF
  refine qm ?_
  replace h:=h.pick [1] rfl
  refine rL (fun m e w'=>∃ (i3:Int),qdb a_0 m i3=some o3∧e=[(1,.pointer (some ⟨bb1,0,none⟩)),(3,.int .i64 r2),(9,.int .i64 i3)]∧SH w w' [Ch.box bb1 (qb6 a_0 p1 p2 p3 k1 k2 k3) 263]) n ⟨_,hF,rfl,h⟩ rfl ?_
  rintro m3 e3 w12 ⟨i3,hF,rfl,h⟩
  rcases m3 with _|m3
  ·cases hF
  refine X1 9 0 h rfl (qh rfl hF ?_ ?_)<;>intro hF
  ·refine X1 8 0 h rfl ?_
   obtain ⟨y5,hy5,hF,he5,b6,_,q5,cs6,hp5,hq5,rfl,hc12⟩:=s3.ix hF
   refine zxe hp5 hq5 he5 rfl (zc 0 (hc12.below h.below) rfl (zcB h hF qH rfl fun r6 w13 h hF=>X0 2 rfl (qh rfl hF ?_ ?_)))<;>intro hF
   ·refine X0 4 rfl ?_
    obtain rfl:=qa hF;replace hF:=hK3
    exact rb h hF rfl
   exact X0 7 rfl (rK ⟨_,hF,rfl,h⟩ rfl)
  refine qq rfl ?_
  obtain rfl:=qa hF;replace hF:=hK3
  refine X0 5 rfl (qg (t:=115) hF rfl ?_ ?_)<;>intro hF
  ·refine X2 17 0 0 h rfl ?_
   obtain ⟨y6,hx1,hF⟩:=qf hF
   obtain ⟨g1,hx1⟩:=qlu hx1
   refine r_v (qpT g1 rfl rfl) rfl ?_
   rw [hx1]
   exact X0 5 rfl (rb h hF rfl)
  exact X0 13 rfl (rb h hF rfl)
 refine X0 5 rfl (qh rfl hF ?_ ?_)<;>intro hF
 ·refine qeq (rD (zd3 rfl (qaH (t:=131) hF rfl ?_ ?_)))<;>intro hF
  ·refine Y0 3 rfl ?_
   obtain ⟨y7,hy6,hF,he6,b7,_,q6,cs7,hp6,hq6,rfl,hc15⟩:=(h.sl 0 rfl).1.ix hF
   refine zdx hp6 hq6 ⟨he6.1,qK he6.2.1 (h.sl 0 rfl).2⟩ rfl (Y0 1 rfl (zdc 0 hc15 rfl (Y0 4 rfl (qaH (t:=137) hF rfl ?_ ?_))))<;>intro hF
   ·refine Y0 3 rfl ?_
    obtain ⟨y8,hy7,hF,he7,b8,_,q7,cs8,hp7,hq7,rfl,hc16⟩:=(h.sl 0 rfl).1.ix hF
    refine zdx hp7 hq7 ⟨he7.1,qK he7.2.1 (h.sl 0 rfl).2⟩ rfl (Y0 1 rfl (zdc 0 hc16 rfl (Y0 5 rfl ?_)))
    obtain ⟨y9,hy8,hF,he8,b9,_,q8,cs9,hp8,hq8,rfl,hc17⟩:=(h.sl 0 rfl).1.ix hF
    refine zdx hp8 hq8 ⟨he8.1,qK he8.2.1 (h.sl 0 rfl).2⟩ rfl (Y0 1 rfl (zdc 0 hc17 rfl (Y0 6 rfl (qaH (t:=148) hF rfl ?_ ?_))))<;>intro hF
    ·refine Y1 4 1 h rfl ?_
     exact Y0 6 rfl (dN h fun w14 h=>rb h hF rfl)
    exact Y0 6 rfl (dN h fun w15 h=>rb h hF rfl)
   exact Y0 17 rfl (dN h fun w16 h=>rb h hF rfl)
  exact Y0 23 rfl (dN h fun w17 h=>rb h hF rfl)
 refine X0 5 rfl (qh rfl hF ?_ ?_)<;>intro hF
 ·refine X0 5 rfl (qg (t:=158) hF rfl ?_ ?_)<;>intro hF
  ·refine X0 3 rfl ?_
   obtain ⟨y10,hy9,hF,he9,b10,_,q9,cs10,hp9,hq9,rfl,hc19⟩:=(h.sl 0 rfl).1.ix hF
   refine zx hp9 hq9 ⟨he9.1,qK he9.2.1 (h.sl 0 rfl).2⟩ rfl (X0 1 rfl (zc 0 hc19 rfl (X0 4 rfl (qg (t:=164) hF rfl ?_ ?_))))<;>intro hF
   ·refine X0 3 rfl ?_
    obtain ⟨y11,hy10,hF,he10,b11,_,q10,cs11,hp10,hq10,rfl,hc20⟩:=(h.sl 0 rfl).1.ix hF
    refine zx hp10 hq10 ⟨he10.1,qK he10.2.1 (h.sl 0 rfl).2⟩ rfl (X0 1 rfl (zc 0 hc20 rfl (X0 4 rfl (qg (t:=170) hF rfl ?_ ?_))))<;>intro hF
    ·refine X0 3 rfl ?_
     obtain ⟨y12,hy11,hF,he11,b12,_,q11,cs12,hp11,hq11,rfl,hc21⟩:=(h.sl 0 rfl).1.ix hF
     refine zx hp11 hq11 ⟨he11.1,qK he11.2.1 (h.sl 0 rfl).2⟩ rfl (X0 1 rfl (zc 0 hc21 rfl (X0 4 rfl (qg (t:=176) hF rfl ?_ ?_))))<;>intro hF
     ·exact X1 11 1 h rfl (rb h hF rfl)
     exact X0 7 rfl (rb h hF rfl)
    exact X0 13 rfl (rb h hF rfl)
   exact X0 19 rfl (rb h hF rfl)
  exact X0 25 rfl (rb h hF rfl)
 exact X0 6 rfl (rb h hF rfl)
end Go.Fw
